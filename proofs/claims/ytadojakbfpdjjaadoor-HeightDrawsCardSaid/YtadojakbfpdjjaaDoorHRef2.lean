/-
  The reference of height: its loops.
-/
import Derived.Test.YtadojakbfpdjjaaDoorHRef
import Derived.Test.YtadojakbfpdjjaaDoorHMargin
namespace Go.Proofs.YtadojakbfpdjjaaDoor.Px
open Go.RowKit Go.Maps Go.Proofs.YtadojakbfpdjjaaDoorW.PrintWords Go.Proofs.YtadojakbfpdjjaaDoorW.PrintLast Go.Proofs.YtadojakbfpdjjaaDoorW.PrintMore

theorem succ_i (i n : Nat) (h : i < n) (hn : n ≤ 1000000) : wrap64 ((i : Int) + 1) = ((i + 1 : Nat) : Int) := by rw [wrap_id _ (by omega)]; omega

section
variable {s : Stp} {l : List Bar}
theorem m0_len (l : List Bar) : ((m0 l).length : Int) = (l.length : Int) := by simp
abbrev e3 (s : Stp) (l : List Bar) (i : Nat) (x8 : Int) (k j : Nat) (n : Nat) : Option Int := letterbagref21_Error.l3 n (m0 l) (i : Int) x8 (k : Int) (j : Int) s.f0 s.f1 s.f2 s.f3 s.f4 s.f5
abbrev e2 (s : Stp) (l : List Bar) (i : Nat) (x8 : Int) (k : Nat) (n : Nat) : Option Int := letterbagref21_Error.l2 n (m0 l) (i : Int) x8 (k : Int) s.f0 s.f1 s.f2 s.f3 s.f4 s.f5
abbrev e1 (s : Stp) (l : List Bar) (i : Nat) (n : Nat) : Option Int := letterbagref21_Error.l1 n (m0 l) (i : Int) s.f0 s.f1 s.f2 s.f3 s.f4 s.f5
abbrev e0 (s : Stp) (l : List Bar) (i : Nat) (n : Nat) : Option Int := letterbagref21_Error.l0 n (m0 l) (i : Int) s.f0 s.f1 s.f2 s.f3 s.f4 s.f5

theorem err3_step (hs : rightP s) (hall : ∀ b ∈ l, okBar b) (hlen : l.length ≤ 400) {i k j : Nat} (hk : (k : Int) < s.f0) (hj : j < i) (hi : i < l.length) (x8 : Int) (n : Nat) :
    e3 s l i x8 k j (n + 1) = if st s (l[j]'(by omega)) k then some 210 else e3 s l i x8 k (j + 1) n := by
  have hjl : j < l.length := by omega
  show letterbagref21_Error.l3 (n + 1) (m0 l) (i : Int) x8 (k : Int) (j : Int) s.f0 s.f1 s.f2 s.f3 s.f4 s.f5 = _
  rw [letterbagref21_Error.l3, if_pos (by omega), if_pos (by omega), if_pos (by rw [m0_len]; omega), rdR_get hjl, stands_f hs (hall _ (List.getElem_mem hjl)) hk, Option.bind_some, succ_i j l.length hjl (by omega)]
  by_cases h : st s l[j] k
  · rw [if_pos h, if_pos (decide_eq_true h)]
  · rw [if_neg h, if_neg (by rw [decide_eq_true_eq]; exact h)]
theorem err3_end {i k : Nat} (hk : k < 1000) (x8 : Int) (n : Nat) : e3 s l i x8 k i (n + 1) = e2 s l i x8 (k + 1) n := by
  show letterbagref21_Error.l3 (n + 1) (m0 l) (i : Int) x8 (k : Int) (i : Int) s.f0 s.f1 s.f2 s.f3 s.f4 s.f5 = _
  rw [letterbagref21_Error.l3, if_neg (by omega), succ_i k 1000 hk (by omega)]

theorem err3_yes (hs : rightP s) (hall : ∀ b ∈ l, okBar b) (hlen : l.length ≤ 400) {i k : Nat} (hk : (k : Int) < s.f0) (hi : i < l.length) (x8 : Int) : ∀ (d j : Nat), i - j = d → (∃ q, j ≤ q ∧ ∃ h : q < i, st s (l[q]'(by omega)) k) → Ev (e3 s l i x8 k j) 210
  | 0, j, hd, ⟨q, h1, h2, _⟩ => by omega
  | d + 1, j, hd, hq => by
    refine Ev.step (err3_step hs hall hlen hk (by omega) hi x8) ?_
    by_cases h : st s (l[j]'(by omega)) k
    · exact Ev.congr (fun _ => if_pos h) (Ev.now _)
    · refine Ev.congr (fun _ => if_neg h) (err3_yes hs hall hlen hk hi x8 d (j + 1) (by omega) ?_)
      obtain ⟨q, h1, h2, h3⟩ := hq
      refine ⟨q, ?_, h2, h3⟩
      rcases Nat.lt_or_ge j q with h4 | h4
      · exact h4
      · have : q = j := by omega
        subst this
        exact absurd h3 h
theorem err3_no (hs : rightP s) (hall : ∀ b ∈ l, okBar b) (hlen : l.length ≤ 400) {i k : Nat} (hk : (k : Int) < s.f0) (hi : i < l.length) (x8 r : Int) : ∀ (d j : Nat), i - j = d → j ≤ i → (∀ q, (h : q < i) → ¬ st s (l[q]'(by omega)) k) → Ev (e2 s l i x8 (k + 1)) r → Ev (e3 s l i x8 k j) r
  | 0, j, hd, hj, _, he => by
    have : j = i := by omega
    subst this
    exact Ev.step (err3_end (by have := hs.2.1; omega) x8) he
  | d + 1, j, hd, hj, hq, he => by
    refine Ev.step (err3_step hs hall hlen hk (by omega) hi x8) (Ev.congr (fun _ => if_neg (hq j (by omega))) ?_)
    exact err3_no hs hall hlen hk hi x8 r d (j + 1) (by omega) (by omega) hq he

theorem err2_step (hs : rightP s) (hall : ∀ b ∈ l, okBar b) {i k : Nat} (hk : (k : Int) < s.f0) (hi : i < l.length) (x8 : Int) (hx : 0 ≤ x8 ∧ x8 ≤ 1000) (n : Nat) :
    e2 s l i x8 k (n + 1) = if st s l[i] k then e3 s l i (x8 + 1) k 0 n else e2 s l i x8 (k + 1) n := by
  show letterbagref21_Error.l2 (n + 1) (m0 l) (i : Int) x8 (k : Int) s.f0 s.f1 s.f2 s.f3 s.f4 s.f5 = _
  rw [letterbagref21_Error.l2, if_pos hk, if_pos (by omega), if_pos (by rw [m0_len]; omega), rdR_get hi, stands_f hs (hall _ (List.getElem_mem hi)) hk, Option.bind_some, succ_i k 1000 (by have := hs.2.1; omega) (by omega), wrap_id (x8 + 1) (by omega)]
  by_cases h : st s l[i] k
  · rw [if_pos h, if_pos (decide_eq_true h)]; rfl
  · rw [if_neg h, if_neg (by rw [decide_eq_true_eq]; exact h)]
theorem err2_end {i k : Nat} (hk : s.f0 = (k : Int)) (hi : i < l.length) (hlen : l.length ≤ 400) (x8 : Int) (n : Nat) : e2 s l i x8 k (n + 1) = if x8 = 0 then some 210 else e1 s l (i + 1) n := by
  show letterbagref21_Error.l2 (n + 1) (m0 l) (i : Int) x8 (k : Int) s.f0 s.f1 s.f2 s.f3 s.f4 s.f5 = _
  rw [letterbagref21_Error.l2, if_neg (by omega), succ_i i l.length hi (by omega)]
/-- No place from here on: the end of the places. -/
theorem err2_run (hs : rightP s) (hall : ∀ b ∈ l, okBar b) (hlen : l.length ≤ 400) {i N : Nat} (hN : s.f0 = (N : Int)) (hi : i < l.length) (x8 : Int) (hx : 0 ≤ x8 ∧ x8 ≤ 1000) (r : Int) (he : Ev (fun n => if x8 = 0 then some 210 else e1 s l (i + 1) n) r) :
    ∀ (d k : Nat), N - k = d → k ≤ N → (∀ q, k ≤ q → q < N → ¬ st s l[i] q) → Ev (e2 s l i x8 k) r
  | 0, k, hd, hk, _ => by
    have : k = N := by omega
    subst this
    exact Ev.step (err2_end hN hi hlen x8) he
  | d + 1, k, hd, hk, hq => by
    refine Ev.step (err2_step hs hall (by omega) hi x8 hx) (Ev.congr (fun _ => if_neg (hq k (Nat.le_refl _) (by omega))) ?_)
    exact err2_run hs hall hlen hN hi x8 hx r he d (k + 1) (by omega) (by omega) (fun q h1 h2 => hq q (by omega) h2)
/-- .. up to the one place. -/
theorem err2_to (hs : rightP s) (hall : ∀ b ∈ l, okBar b) {i a : Nat} (ha : (a : Int) < s.f0) (hi : i < l.length) (r : Int) (he : Ev (e2 s l i 0 a) r) : ∀ (d k : Nat), a - k = d → k ≤ a → (∀ q, k ≤ q → q < a → ¬ st s l[i] q) → Ev (e2 s l i 0 k) r
  | 0, k, hd, hk, _ => by
    have : k = a := by omega
    subst this
    exact he
  | d + 1, k, hd, hk, hq => by
    refine Ev.step (err2_step hs hall (by omega) hi 0 (by omega)) (Ev.congr (fun _ => if_neg (hq k (Nat.le_refl _) (by omega))) ?_)
    exact err2_to hs hall ha hi r he d (k + 1) (by omega) (by omega) (fun q h1 h2 => hq q (by omega) h2)

theorem at_nonneg {b : Bar} (hs : rightP s) (h : onB s b) : 0 ≤ atB s b := by
  unfold rightP at hs
  unfold atB
  exact Int.ediv_nonneg (by have := h.1; omega) (by omega)
/-- One bar. -/
theorem err1_bar (hs : rightP s) (hall : ∀ b ∈ l, okBar b) (hlen : l.length ≤ 400) {i : Nat} (hi : i < l.length) (hg : goodL s (l.take i)) (r : Int)
    (hy : onB s l[i] → barAt s (l.take i) (atB s l[i]) = none → Ev (e1 s l (i + 1)) r) (hn : ¬ (onB s l[i] ∧ barAt s (l.take i) (atB s l[i]) = none) → r = 210) : Ev (e2 s l i 0 0) r := by
  obtain ⟨N, hN⟩ : ∃ N : Nat, s.f0 = N := ⟨s.f0.toNat, by have := hs.1; omega⟩
  by_cases ho : onB s l[i]
  · obtain ⟨a, ha⟩ : ∃ a : Nat, atB s l[i] = a := ⟨(atB s l[i]).toNat, by have := at_nonneg hs ho; omega⟩
    have hlt : (a : Int) < s.f0 := by rw [← ha]; exact ho.2.1
    have hne : ∀ q : Nat, q ≠ a → ¬ st s l[i] q := fun q hq h => hq (by have := h.2; omega)
    refine err2_to hs hall hlt hi r ?_ a 0 (by omega) (by omega) (fun q _ h2 => hne q (by omega))
    refine Ev.step (err2_step hs hall hlt hi 0 (by omega)) (Ev.congr (fun _ => if_pos ⟨ho, ha⟩) ?_)
    by_cases hb : barAt s (l.take i) (atB s l[i]) = none
    · refine err3_no hs hall hlen hlt hi (0 + 1) r i 0 (by omega) (by omega) (fun q hq h => ?_) ?_
      · refine barAt_none.1 hb (List.mem_map.2 ⟨l[q]'(by omega), ?_, by rw [h.2, ha]⟩)
        rw [List.mem_take_iff_getElem]
        exact ⟨q, by omega, rfl⟩
      · refine err2_run hs hall hlen hN hi (0 + 1) (by omega) r (Ev.congr (fun _ => if_neg (by omega)) (hy ho hb)) (N - (a + 1)) (a + 1) rfl (by omega) (fun q h1 _ => hne q (by omega))
    · rw [hn (fun h => hb h.2)]
      obtain ⟨c, hc⟩ := Option.ne_none_iff_exists'.1 hb
      obtain ⟨hc1, hc2⟩ := barAt_some hc
      rw [List.mem_take_iff_getElem] at hc1
      obtain ⟨q, hq, rfl⟩ := hc1
      refine err3_yes hs hall hlen hlt hi (0 + 1) i 0 (by omega) ⟨q, by omega, by omega, hg.1 _ ?_, by rw [hc2, ha]⟩
      rw [List.mem_take_iff_getElem]
      exact ⟨q, by omega, rfl⟩
  · rw [hn (fun h => ho h.1)]
    exact err2_run hs hall hlen hN hi 0 (by omega) 210 (Ev.congr (fun _ => if_pos rfl) (Ev.now _)) N 0 (by omega) (by omega) (fun q _ _ h => ho h.1)
theorem err1_ev (hs : rightP s) (hall : ∀ b ∈ l, okBar b) (hlen : l.length ≤ 400) : ∀ (d i : Nat), l.length - i = d → i ≤ l.length → goodL s (l.take i) → Ev (e1 s l i) (if goodL s l then 0 else 210)
  | 0, i, hd, hi, hg => by
    have : i = l.length := by omega
    subst this
    rw [List.take_of_length_le (Nat.le_refl _)] at hg
    rw [if_pos hg]
    refine Ev.step (f := fun _ => some 0) (fun n => ?_) (Ev.now _)
    show letterbagref21_Error.l1 (n + 1) (m0 l) (l.length : Int) s.f0 s.f1 s.f2 s.f3 s.f4 s.f5 = _
    rw [letterbagref21_Error.l1, if_neg (by rw [m0_len]; omega)]
  | d + 1, i, hd, hi, hg => by
    have hil : i < l.length := by omega
    refine Ev.step (f := e2 s l i 0 0) (fun n => ?_) ?_
    · show letterbagref21_Error.l1 (n + 1) (m0 l) (i : Int) s.f0 s.f1 s.f2 s.f3 s.f4 s.f5 = _
      rw [letterbagref21_Error.l1, if_pos (by rw [m0_len]; omega)]
      rfl
    · refine err1_bar hs hall hlen hil hg _ (fun h1 h2 => ?_) (fun h => ?_)
      · refine err1_ev hs hall hlen d (i + 1) (by omega) (by omega) ?_
        rw [← List.take_append_getElem hil]
        exact goodL_snoc hg h1 h2
      · refine if_neg (goodL_bad hil ?_)
        by_cases h1 : onB s l[i]
        · exact .inr (fun h2 => h ⟨h1, h2⟩)
        · exact .inl h1
theorem err0_ev (hs : rightP s) (hlen : l.length ≤ 400) : ∀ (d i : Nat), l.length - i = d → i ≤ l.length → (∀ b ∈ l.take i, okBar b) → Ev (e0 s l i) (if ∀ b ∈ l, okBar b then (if goodL s l then 0 else 210) else 2)
  | 0, i, hd, hi, hg => by
    have : i = l.length := by omega
    subst this
    rw [List.take_of_length_le (Nat.le_refl _)] at hg
    rw [if_pos hg]
    refine Ev.step (f := e1 s l 0) (fun n => ?_) (err1_ev hs hg hlen l.length 0 (by omega) (by omega) (goodL_nil s))
    show letterbagref21_Error.l0 (n + 1) (m0 l) (l.length : Int) s.f0 s.f1 s.f2 s.f3 s.f4 s.f5 = _
    rw [letterbagref21_Error.l0, if_neg (by rw [m0_len]; omega)]
    rfl
  | d + 1, i, hd, hi, hg => by
    have hil : i < l.length := by omega
    have hno : ¬ okBar l[i] → (if ∀ b ∈ l, okBar b then (if goodL s l then (0 : Int) else 210) else 2) = 2 := fun h => if_neg (fun h1 => h (h1 _ (List.getElem_mem hil)))
    have hst : ∀ n, e0 s l i (n + 1) = if okBar l[i] then e0 s l (i + 1) n else some 2 := fun n => by
      show letterbagref21_Error.l0 (n + 1) (m0 l) (i : Int) s.f0 s.f1 s.f2 s.f3 s.f4 s.f5 = _
      rw [letterbagref21_Error.l0, if_pos (by rw [m0_len]; omega), if_pos (by omega), rdR_get hil, succ_i i l.length hil (by omega)]
      show (if l[i].f0 < 0 then some 2 else if l[i].f0 > 1073741824 then some 2 else if l[i].f1 < 0 then some 2 else if l[i].f1 > 1048576 then some 2 else if l[i].f2 < 0 then some 2 else if l[i].f2 > 1048576 then some 2 else e0 s l (i + 1) n) = _
      by_cases h : okBar l[i]
      · rw [if_pos h]
        unfold okBar at h
        rw [if_neg (by omega), if_neg (by omega), if_neg (by omega), if_neg (by omega), if_neg (by omega), if_neg (by omega)]
      · rw [if_neg h]
        unfold okBar at h
        by_cases a1 : l[i].f0 < 0
        · rw [if_pos a1]
        rw [if_neg a1]
        by_cases a2 : l[i].f0 > 1073741824
        · rw [if_pos a2]
        rw [if_neg a2]
        by_cases a3 : l[i].f1 < 0
        · rw [if_pos a3]
        rw [if_neg a3]
        by_cases a4 : l[i].f1 > 1048576
        · rw [if_pos a4]
        rw [if_neg a4]
        by_cases a5 : l[i].f2 < 0
        · rw [if_pos a5]
        rw [if_neg a5, if_pos (by omega)]
    refine Ev.step hst ?_
    by_cases h : okBar l[i]
    · refine Ev.congr (fun _ => if_pos h) (err0_ev hs hlen d (i + 1) (by omega) (by omega) (fun b hb => ?_))
      rw [← List.take_append_getElem hil, List.mem_append, List.mem_singleton] at hb
      rcases hb with hb | rfl
      · exact hg b hb
      · exact h
    · rw [hno h]
      exact Ev.congr (fun _ => if_neg h) (Ev.now _)
theorem refErr_ev (s : Stp) (l : List Bar) : Ev (fun n => letterbagref21_Error.f n s.f0 s.f1 s.f2 s.f3 s.f4 s.f5 (m0 l)) (errL s l) := by
  unfold letterbagref21_Error.f
  by_cases h : 400 < l.length
  · rw [errL_5 h]
    exact Ev.congr (fun _ => if_pos (by rw [m0_len]; omega)) (Ev.now _)
  · refine Ev.congr (fun _ => if_neg (by rw [m0_len]; omega)) ?_
    rw [refRight_f]
    simp only [Option.bind_some, decide_eq_true_eq]
    by_cases hs : rightP s
    · refine Ev.congr (fun _ => if_pos hs) ?_
      unfold errL
      rw [if_neg h, if_pos hs]
      exact err0_ev hs (by omega) l.length 0 (by omega) (by omega) (fun b hb => by simp at hb)
    · rw [errL_2 h hs]
      exact Ev.congr (fun _ => if_neg hs) (Ev.now _)
end
end Go.Proofs.YtadojakbfpdjjaaDoor.Px
