/-
  The reference of height: letters, texts, margins; lists turned into its own, lists compared.
-/
import Derived.Test.YtadojakbfpdjjaaDoorHRef2
namespace Go.Proofs.YtadojakbfpdjjaaDoor.Px
open Go.RowKit Go.Maps Go.Proofs.YtadojakbfpdjjaaDoorW.PrintWords Go.Proofs.YtadojakbfpdjjaaDoorW.PrintLast Go.Proofs.YtadojakbfpdjjaaDoorW.PrintMore

theorem letter_ev (s : Stp) (hs : rightP s) (b : Bar) : Ev (fun n => letterbagref21_Letter.f n s.f0 s.f1 s.f2 s.f3 s.f4 s.f5 (cv b).f0 (cv b).f1 (cv b).f2) ⟨#[UInt8.ofNat (letter s b)]⟩ := by
  refine ⟨2, fun n hn => ?_⟩
  obtain ⟨n, rfl⟩ : ∃ m, n = m + 2 := ⟨n - 2, by omega⟩
  have h45 : s.f4 < s.f5 := by unfold rightP at hs; omega
  show letterbagref21_Letter.f (n + 2) s.f0 s.f1 s.f2 s.f3 s.f4 s.f5 b.f0 b.f1 b.f2 = _
  have hj0t : letterbagref21_Letter.j0 (n + 2) true s.f0 s.f1 s.f2 s.f3 s.f4 s.f5 b.f0 b.f1 b.f2 = some ⟨#[63]⟩ := by rw [letterbagref21_Letter.j0, if_pos rfl]
  have hj0f : letterbagref21_Letter.j0 (n + 2) false s.f0 s.f1 s.f2 s.f3 s.f4 s.f5 b.f0 b.f1 b.f2 = if b.f1 ≥ s.f5 then (if b.f2 ≥ s.f5 then some ⟨#[70]⟩ else some ⟨#[65]⟩) else (if b.f2 ≥ s.f5 then some ⟨#[68]⟩ else some ⟨#[84]⟩) := by
    rw [letterbagref21_Letter.j0, if_neg (by simp)]
    by_cases h1 : b.f1 ≥ s.f5
    · rw [if_pos h1, if_pos h1, letterbagref21_Letter.j1]
      by_cases h2 : b.f2 ≥ s.f5
      · rw [if_pos (decide_eq_true h2), if_pos h2]
      · rw [if_neg (by simp [h2]), if_pos h1, if_neg h2]
    · rw [if_neg h1, if_neg h1, letterbagref21_Letter.j1, if_neg (by simp), if_neg h1]
  unfold letterbagref21_Letter.f
  unfold letter
  by_cases h1 : b.f1 ≤ s.f4
  · have e1 : halfB s b.f1 = 0 := if_pos h1
    rw [if_neg (by omega), e1]
    by_cases h2 : b.f2 ≤ s.f4
    · have e2 : halfB s b.f2 = 0 := if_pos h2
      rw [if_neg (by omega), hj0f, if_neg (by omega), if_neg (by omega), e2]
      rfl
    · rw [if_pos (by omega)]
      by_cases h3 : b.f2 ≥ s.f5
      · have e2 : halfB s b.f2 = 1 := by unfold halfB; rw [if_neg h2, if_pos h3]
        rw [decide_eq_false (by omega), hj0f, if_neg (by omega), if_pos h3, e2]
        rfl
      · have e2 : halfB s b.f2 = 2 := by unfold halfB; rw [if_neg h2, if_neg h3]
        rw [decide_eq_true (by omega), hj0t, e2]
        rfl
  · rw [if_pos (by omega)]
    by_cases h3 : b.f1 ≥ s.f5
    · have e1 : halfB s b.f1 = 1 := by unfold halfB; rw [if_neg h1, if_pos h3]
      rw [if_neg (by omega), e1]
      by_cases h2 : b.f2 ≤ s.f4
      · have e2 : halfB s b.f2 = 0 := if_pos h2
        rw [if_neg (by omega), hj0f, if_pos h3, if_neg (by omega), e2]
        rfl
      · rw [if_pos (by omega)]
        by_cases h4 : b.f2 ≥ s.f5
        · have e2 : halfB s b.f2 = 1 := by unfold halfB; rw [if_neg h2, if_pos h4]
          rw [decide_eq_false (by omega), hj0f, if_pos h3, if_pos h4, e2]
          rfl
        · have e2 : halfB s b.f2 = 2 := by unfold halfB; rw [if_neg h2, if_neg h4]
          rw [decide_eq_true (by omega), hj0t, e2]
          rfl
    · have e1 : halfB s b.f1 = 2 := by unfold halfB; rw [if_neg h1, if_neg h3]
      rw [if_pos (by omega), hj0t, e1]
      have h5 := half_bounds s b.f2
      have h6 : halfB s b.f2 = 0 ∨ halfB s b.f2 = 1 ∨ halfB s b.f2 = 2 := by omega
      rcases h6 with h6 | h6 | h6 <;> (rw [h6]; rfl)

section
variable {s : Stp} {l : List Bar}
abbrev r0 (s : Stp) (l : List Bar) (t : ByteArray) (k : Nat) (n : Nat) : Option (ByteArray × Int) := letterbagref21_Read.l0 n (m0 l) t (k : Int) s.f0 s.f1 s.f2 s.f3 s.f4 s.f5
abbrev r1 (s : Stp) (l : List Bar) (t : ByteArray) (k : Nat) (c : ByteArray) (i : Nat) (n : Nat) : Option (ByteArray × Int) := letterbagref21_Read.l1 n (m0 l) t (k : Int) c (i : Int) s.f0 s.f1 s.f2 s.f3 s.f4 s.f5
/-- The letter at a place, out of the bars that are still to come. -/
def seenAt (s : Stp) (l : List Bar) (k : Nat) (c : ByteArray) : ByteArray := match barAt s l (k : Int) with | some b => ⟨#[UInt8.ofNat (letter s b)]⟩ | none => c
theorem barAt_cons (s : Stp) (b : Bar) (l : List Bar) (k : Int) : barAt s (b :: l) k = if atB s b = k then some b else barAt s l k := by
  unfold barAt
  rw [List.find?_cons]
  by_cases h : atB s b = k
  · rw [if_pos h, beq_iff_eq.2 h]
  · rw [if_neg h, beq_false_of_ne h]
theorem read1_ev (hs : rightP s) (hall : ∀ b ∈ l, okBar b) (hg : goodL s l) (hlen : l.length ≤ 400) {k : Nat} (hk : (k : Int) < s.f0) (t : ByteArray) (ht : t.size ≤ 1000000) (r : ByteArray × Int) :
    ∀ (d i : Nat), l.length - i = d → i ≤ l.length → ∀ c : ByteArray, c.size ≤ 1000000 → Ev (r0 s l (t ++ seenAt s (l.drop i) k c) (k + 1)) r → Ev (r1 s l t k c i) r
  | 0, i, hd, hi, c, hc, he => by
    have : i = l.length := by omega
    subst this
    refine Ev.step (f := r0 s l (t ++ c) (k + 1)) (fun n => ?_) ?_
    · show letterbagref21_Read.l1 (n + 1) (m0 l) t (k : Int) c (l.length : Int) s.f0 s.f1 s.f2 s.f3 s.f4 s.f5 = _
      rw [letterbagref21_Read.l1, if_neg (by rw [m0_len]; omega), if_pos (by omega), succ_i k 1000 (by have := hs.2.1; omega) (by omega)]
    · rw [List.drop_of_length_le (Nat.le_refl _)] at he
      exact he
  | d + 1, i, hd, hi, c, hc, he => by
    have hil : i < l.length := by omega
    have hdr : l.drop i = l[i] :: l.drop (i + 1) := List.drop_eq_getElem_cons hil
    by_cases h : st s l[i] k
    · refine Ev.step (f := fun n => (letterbagref21_Letter.f n s.f0 s.f1 s.f2 s.f3 s.f4 s.f5 (cv l[i]).f0 (cv l[i]).f1 (cv l[i]).f2).bind fun c' => r1 s l t k c' (i + 1) n) (fun n => ?_) (Ev.bind (letter_ev s hs l[i]) ?_)
      · show letterbagref21_Read.l1 (n + 1) (m0 l) t (k : Int) c (i : Int) s.f0 s.f1 s.f2 s.f3 s.f4 s.f5 = _
        rw [letterbagref21_Read.l1, if_pos (by rw [m0_len]; omega), if_pos (by omega), rdR_get hil, stands_f hs (hall _ (List.getElem_mem hil)) hk, Option.bind_some, if_pos (decide_eq_true h), succ_i i l.length hil (by omega)]
      · refine read1_ev hs hall hg hlen hk t ht r d (i + 1) (by omega) (by omega) _ (by show 1 ≤ 1000000; omega) ?_
        have hn : barAt s (l.drop (i + 1)) (k : Int) = none := by
          rw [barAt_none]
          intro hm
          have h2 := hg.2
          rw [← List.take_append_drop i l, hdr, List.map_append, List.nodup_append] at h2
          have h3 := (List.nodup_cons.1 h2.2.1).1
          rw [h.2] at h3
          exact h3 hm
        have e : seenAt s (l.drop i) k c = seenAt s (l.drop (i + 1)) k ⟨#[UInt8.ofNat (letter s l[i])]⟩ := by
          unfold seenAt
          rw [hdr, barAt_cons, if_pos h.2, hn]
        rw [← e]
        exact he
    · refine Ev.step (f := r1 s l t k c (i + 1)) (fun n => ?_) ?_
      · show letterbagref21_Read.l1 (n + 1) (m0 l) t (k : Int) c (i : Int) s.f0 s.f1 s.f2 s.f3 s.f4 s.f5 = _
        rw [letterbagref21_Read.l1, if_pos (by rw [m0_len]; omega), if_pos (by omega), rdR_get hil, stands_f hs (hall _ (List.getElem_mem hil)) hk, Option.bind_some, if_neg (by rw [decide_eq_true_eq]; exact h), succ_i i l.length hil (by omega)]
      · refine read1_ev hs hall hg hlen hk t ht r d (i + 1) (by omega) (by omega) c hc ?_
        have hne : ¬ atB s l[i] = (k : Int) := fun e => h ⟨hg.1 _ (List.getElem_mem hil), e⟩
        have e : seenAt s (l.drop i) k c = seenAt s (l.drop (i + 1)) k c := by
          unfold seenAt
          rw [hdr, barAt_cons, if_neg hne]
        rw [← e]
        exact he
theorem text_app (s : Stp) (l : List Bar) (k : Nat) : (⟨((List.range k).map (charAt s l)).toArray⟩ : ByteArray) ++ seenAt s l k ⟨#[63]⟩ = ⟨((List.range (k + 1)).map (charAt s l)).toArray⟩ := by
  have e : seenAt s l k ⟨#[63]⟩ = ⟨[charAt s l k].toArray⟩ := by
    unfold seenAt charAt
    cases barAt s l (k : Int) <;> rfl
  rw [e, text_snoc]
  apply ByteArray.ext
  rw [ByteArray.data_append]
  simp
theorem read0_ev (hs : rightP s) (hall : ∀ b ∈ l, okBar b) (hg : goodL s l) (hlen : l.length ≤ 400) {N : Nat} (hN : s.f0 = (N : Int)) : ∀ (d k : Nat), N - k = d → k ≤ N → Ev (r0 s l ⟨((List.range k).map (charAt s l)).toArray⟩ k) (⟨((List.range N).map (charAt s l)).toArray⟩, 0)
  | 0, k, hd, hk => by
    have : k = N := by omega
    subst this
    refine Ev.step (f := fun _ => some (⟨((List.range k).map (charAt s l)).toArray⟩, 0)) (fun n => ?_) (Ev.now _)
    show letterbagref21_Read.l0 (n + 1) (m0 l) _ (k : Int) s.f0 s.f1 s.f2 s.f3 s.f4 s.f5 = _
    rw [letterbagref21_Read.l0, if_neg (by omega)]
  | d + 1, k, hd, hk => by
    have h200 := hs.2.1
    refine Ev.step (f := r1 s l ⟨((List.range k).map (charAt s l)).toArray⟩ k ⟨#[63]⟩ 0) (fun n => ?_) ?_
    · show letterbagref21_Read.l0 (n + 1) (m0 l) _ (k : Int) s.f0 s.f1 s.f2 s.f3 s.f4 s.f5 = _
      rw [letterbagref21_Read.l0, if_pos (by omega)]
      rfl
    · refine read1_ev hs hall hg hlen (by omega) _ (by simp [ByteArray.size]; omega) _ l.length 0 (by omega) (by omega) _ (by show 1 ≤ 1000000; omega) ?_
      rw [List.drop_zero, text_app]
      exact read0_ev hs hall hg hlen hN d (k + 1) (by omega) (by omega)
theorem refRead_ev (s : Stp) (l : List Bar) : Ev (fun n => letterbagref21_Read.f n s.f0 s.f1 s.f2 s.f3 s.f4 s.f5 (m0 l)) (readL s l) := by
  unfold letterbagref21_Read.f
  refine Ev.bind (refErr_ev s l) ?_
  by_cases he : errL s l = 0
  · refine Ev.congr (fun _ => if_pos he) ?_
    obtain ⟨hlen, hr, hall, hg⟩ := errL_zero he
    obtain ⟨N, hN⟩ : ∃ N : Nat, s.f0 = N := ⟨s.f0.toNat, by have := hr.1; omega⟩
    have e : readL s l = (⟨((List.range N).map (charAt s l)).toArray⟩, 0) := by
      unfold readL textL
      rw [if_pos he, hN]
      rfl
    rw [e]
    exact read0_ev hr hall hg hlen hN N 0 (by omega) (by omega)
  · refine Ev.congr (fun _ => if_neg he) ?_
    have e : readL s l = (⟨#[]⟩, errL s l) := by unfold readL; rw [if_neg he]
    rw [e]
    exact Ev.now _

/-! ### the margin -/
abbrev g0 (s : Stp) (l : List Bar) (m : Int) (i : Nat) (n : Nat) : Option (Int × Int) := letterbagref21_Margin.l0 n (m0 l) m (i : Int) s.f0 s.f1 s.f2 s.f3 s.f4 s.f5
abbrev g1 (s : Stp) (l : List Bar) (m : Int) (i k : Nat) (n : Nat) : Option (Int × Int) := letterbagref21_Margin.l1 n (m0 l) m (i : Int) (k : Int) s.f0 s.f1 s.f2 s.f3 s.f4 s.f5
theorem mn_min (a b : Int) : mn a b = min a b := by unfold mn; split <;> omega
theorem mx_max (a b : Int) : mx a b = max a b := by unfold mx; split <;> omega
theorem refRoom_f {s : Stp} {n : Int} (hs : rightP s) (h0 : 0 ≤ n) (h1 : n ≤ 1048576) : letterbagref21_room.f s.f0 s.f1 s.f2 s.f3 s.f4 s.f5 n = some (roomN s n) := by
  unfold letterbagref21_room.f roomN
  unfold rightP at hs
  by_cases h2 : n ≤ s.f4
  · rw [if_pos h2, if_pos h2, wrap_id _ (by omega)]
  · rw [if_neg h2, if_neg h2]
    by_cases h3 : n ≥ s.f5
    · rw [if_pos h3, if_pos h3, wrap_id _ (by omega)]
    · rw [if_neg h3, if_neg h3, wrap_id (s.f5 - 1) (by omega), wrap_id (s.f5 - 1 - n) (by omega), wrap_id (n - s.f4) (by omega), wrap_id (n - s.f4 - 1) (by omega), mn_min]
theorem marg1_step (hs : rightP s) (hall : ∀ b ∈ l, okBar b) {i k : Nat} (hk : (k : Int) < s.f0) (hi : i < l.length) (m : Int) (n : Nat) :
    g1 s l m i k (n + 1) = if st s l[i] k then g1 s l (min m (s.f3 - dB s l[i])) i (k + 1) n else g1 s l m i (k + 1) n := by
  show letterbagref21_Margin.l1 (n + 1) (m0 l) m (i : Int) (k : Int) s.f0 s.f1 s.f2 s.f3 s.f4 s.f5 = _
  rw [letterbagref21_Margin.l1, if_pos hk, if_pos (by omega), if_pos (by rw [m0_len]; omega), rdR_get hi, stands_f hs (hall _ (List.getElem_mem hi)) hk, Option.bind_some, succ_i k 1000 (by have := hs.2.1; omega) (by omega)]
  by_cases h : st s l[i] k
  · rw [if_pos h, if_pos (decide_eq_true h)]
    have hb := hall _ (List.getElem_mem hi)
    have hs' := hs
    unfold rightP at hs'
    have hb' := hb
    unfold okBar at hb'
    have hbd := at_bounds hs hb h.1.1
    have h2 := h.2
    have hd : dB s l[i] = max (offB s l[i]) (-(offB s l[i])) := rfl
    have ho : offB s l[i] = l[i].f0 - s.f1 - atB s l[i] * s.f2 := rfl
    have h3 := h.1.2.2
    rw [h2] at hbd ho
    show letterbagref21_Margin.l1 n (m0 l) (mn m (wrap64 (s.f3 - mx (wrap64 (wrap64 (s.f1 + wrap64 ((k : Int) * s.f2)) - l[i].f0)) (wrap64 (l[i].f0 - wrap64 (s.f1 + wrap64 ((k : Int) * s.f2))))))) (i : Int) ((k + 1 : Nat) : Int) s.f0 s.f1 s.f2 s.f3 s.f4 s.f5 = _
    have e : mn m (wrap64 (s.f3 - mx (wrap64 (wrap64 (s.f1 + wrap64 ((k : Int) * s.f2)) - l[i].f0)) (wrap64 (l[i].f0 - wrap64 (s.f1 + wrap64 ((k : Int) * s.f2)))))) = min m (s.f3 - dB s l[i]) := by
      generalize (k : Int) * s.f2 = q at *
      rw [wrap_id q (by omega), wrap_id (s.f1 + q) (by omega), wrap_id (s.f1 + q - l[i].f0) (by omega), wrap_id (l[i].f0 - (s.f1 + q)) (by omega), mx_max, wrap_id _ (by omega), mn_min]
      congr 2
      omega
    rw [e]
  · rw [if_neg h, if_neg (by rw [decide_eq_true_eq]; exact h)]
theorem marg1_end (hs : rightP s) (hall : ∀ b ∈ l, okBar b) (hlen : l.length ≤ 400) {i k : Nat} (hk : s.f0 = (k : Int)) (hi : i < l.length) (m : Int) (n : Nat) :
    g1 s l m i k (n + 1) = g0 s l (min (min m (roomN s l[i].f1)) (roomN s l[i].f2)) (i + 1) n := by
  have hb := hall _ (List.getElem_mem hi)
  unfold okBar at hb
  show letterbagref21_Margin.l1 (n + 1) (m0 l) m (i : Int) (k : Int) s.f0 s.f1 s.f2 s.f3 s.f4 s.f5 = _
  rw [letterbagref21_Margin.l1, if_neg (by omega), if_pos (by omega), if_pos (by rw [m0_len]; omega), rdR_get hi]
  show ((letterbagref21_room.f s.f0 s.f1 s.f2 s.f3 s.f4 s.f5 l[i].f1).bind fun t148 => (letterbagref21_room.f s.f0 s.f1 s.f2 s.f3 s.f4 s.f5 l[i].f2).bind fun t150 => letterbagref21_Margin.l0 n (m0 l) (mn (mn m t148) t150) (wrap64 ((i : Int) + 1)) s.f0 s.f1 s.f2 s.f3 s.f4 s.f5) = _
  rw [refRoom_f hs hb.2.1.1 hb.2.1.2, Option.bind_some, refRoom_f hs hb.2.2.1 hb.2.2.2, Option.bind_some, succ_i i l.length hi (by omega), mn_min, mn_min]
theorem marg1_run (hs : rightP s) (hall : ∀ b ∈ l, okBar b) (hlen : l.length ≤ 400) {i N : Nat} (hN : s.f0 = (N : Int)) (hi : i < l.length) (r : Int × Int) (m : Int) (he : Ev (g0 s l (min (min m (roomN s l[i].f1)) (roomN s l[i].f2)) (i + 1)) r) :
    ∀ (d k : Nat), N - k = d → k ≤ N → (∀ q, k ≤ q → q < N → ¬ st s l[i] q) → Ev (g1 s l m i k) r
  | 0, k, hd, hk, _ => by
    have : k = N := by omega
    subst this
    exact Ev.step (marg1_end hs hall hlen hN hi m) he
  | d + 1, k, hd, hk, hq => by
    refine Ev.step (marg1_step hs hall (by omega) hi m) (Ev.congr (fun _ => if_neg (hq k (Nat.le_refl _) (by omega))) ?_)
    exact marg1_run hs hall hlen hN hi r m he d (k + 1) (by omega) (by omega) (fun q h1 h2 => hq q (by omega) h2)
theorem marg1_to (hs : rightP s) (hall : ∀ b ∈ l, okBar b) {i a : Nat} (ha : (a : Int) < s.f0) (hi : i < l.length) (r : Int × Int) (m : Int) (he : Ev (g1 s l m i a) r) : ∀ (d k : Nat), a - k = d → k ≤ a → (∀ q, k ≤ q → q < a → ¬ st s l[i] q) → Ev (g1 s l m i k) r
  | 0, k, hd, hk, _ => by
    have : k = a := by omega
    subst this
    exact he
  | d + 1, k, hd, hk, hq => by
    refine Ev.step (marg1_step hs hall (by omega) hi m) (Ev.congr (fun _ => if_neg (hq k (Nat.le_refl _) (by omega))) ?_)
    exact marg1_to hs hall ha hi r m he d (k + 1) (by omega) (by omega) (fun q h1 h2 => hq q (by omega) h2)
theorem marg0_ev (hs : rightP s) (hall : ∀ b ∈ l, okBar b) (hg : goodL s l) (hlen : l.length ≤ 400) : ∀ (d i : Nat), l.length - i = d → i ≤ l.length → ∀ m : Int, Ev (g0 s l m i) ((l.drop i).foldl (fun m b => min m (roomB s b)) m, 0)
  | 0, i, hd, hi, m => by
    have : i = l.length := by omega
    subst this
    rw [List.drop_of_length_le (Nat.le_refl _)]
    refine Ev.step (f := fun _ => some (m, 0)) (fun n => ?_) (Ev.now _)
    show letterbagref21_Margin.l0 (n + 1) (m0 l) m (l.length : Int) s.f0 s.f1 s.f2 s.f3 s.f4 s.f5 = _
    rw [letterbagref21_Margin.l0, if_neg (by rw [m0_len]; omega)]
  | d + 1, i, hd, hi, m => by
    have hil : i < l.length := by omega
    obtain ⟨N, hN⟩ : ∃ N : Nat, s.f0 = N := ⟨s.f0.toNat, by have := hs.1; omega⟩
    have ho := hg.1 _ (List.getElem_mem hil)
    obtain ⟨a, ha⟩ : ∃ a : Nat, atB s l[i] = a := ⟨(atB s l[i]).toNat, by have := at_nonneg hs ho; omega⟩
    have hlt : (a : Int) < s.f0 := by rw [← ha]; exact ho.2.1
    have hne : ∀ q : Nat, q ≠ a → ¬ st s l[i] q := fun q hq h => hq (by have := h.2; omega)
    rw [List.drop_eq_getElem_cons hil, List.foldl_cons]
    refine Ev.step (f := g1 s l m i 0) (fun n => ?_) ?_
    · show letterbagref21_Margin.l0 (n + 1) (m0 l) m (i : Int) s.f0 s.f1 s.f2 s.f3 s.f4 s.f5 = _
      rw [letterbagref21_Margin.l0, if_pos (by rw [m0_len]; omega)]
      rfl
    · refine marg1_to hs hall hlt hil _ m ?_ a 0 (by omega) (by omega) (fun q _ h2 => hne q (by omega))
      refine Ev.step (marg1_step hs hall hlt hil m) (Ev.congr (fun _ => if_pos ⟨ho, ha⟩) ?_)
      refine marg1_run hs hall hlen hN hil _ _ ?_ (N - (a + 1)) (a + 1) rfl (by omega) (fun q h1 _ => hne q (by omega))
      have e : min (min (min m (s.f3 - dB s l[i])) (roomN s l[i].f1)) (roomN s l[i].f2) = min m (roomB s l[i]) := by unfold roomB; omega
      rw [e]
      exact marg0_ev hs hall hg hlen d (i + 1) (by omega) (by omega) _
theorem refMargin_ev (s : Stp) (l : List Bar) : Ev (fun n => letterbagref21_Margin.f n s.f0 s.f1 s.f2 s.f3 s.f4 s.f5 (m0 l)) (marginL s l) := by
  unfold letterbagref21_Margin.f
  refine Ev.bind (refErr_ev s l) ?_
  by_cases he : errL s l = 0
  · refine Ev.congr (fun _ => if_pos he) ?_
    obtain ⟨hlen, hr, hall, hg⟩ := errL_zero he
    have e : marginL s l = (minL s l, 0) := by unfold marginL; rw [if_pos he]
    rw [e]
    exact marg0_ev hr hall hg hlen l.length 0 (by omega) (by omega) 1048576
  · refine Ev.congr (fun _ => if_neg he) ?_
    have e : marginL s l = (0, errL s l) := by unfold marginL; rw [if_neg he]
    rw [e]
    exact Ev.now _

/-! ### lists turned and compared -/
theorem rdB_get {l : List Bar} {i : Nat} (h : i < l.length) : rd_T48 l (i : Int) = l[i] := by
  unfold rd_T48
  rw [Int.toNat_natCast, List.getD_eq_getElem?_getD, List.getElem?_eq_getElem h]
  rfl
theorem given0_ev (hlen : l.length ≤ 1000000) : ∀ (d i : Nat), l.length - i = d → i ≤ l.length → Ev (fun n => letterbaglaw21_given.l0 n (m0 (l.take i)) l (l.length : Int) (i : Int)) (m0 l)
  | 0, i, hd, hi => by
    have : i = l.length := by omega
    subst this
    rw [List.take_of_length_le (Nat.le_refl _)]
    refine Ev.step (f := fun _ => some (m0 l)) (fun n => ?_) (Ev.now _)
    show letterbaglaw21_given.l0 (n + 1) _ _ _ _ = _
    rw [letterbaglaw21_given.l0, if_neg (by omega)]
  | d + 1, i, hd, hi => by
    have hil : i < l.length := by omega
    refine Ev.step (f := fun n => letterbaglaw21_given.l0 n (m0 (l.take (i + 1))) l (l.length : Int) ((i + 1 : Nat) : Int)) (fun n => ?_) (given0_ev hlen d (i + 1) (by omega) (by omega))
    show letterbaglaw21_given.l0 (n + 1) _ _ _ _ = _
    rw [letterbaglaw21_given.l0, if_pos (by omega), if_pos (by omega), if_pos (by omega), if_pos (by simp; omega), rdB_get hil, succ_i i l.length hil (by omega), ← List.take_append_getElem hil]
    simp only [m0, List.map_append]
    rfl
theorem given_ev (l : List Bar) (hlen : l.length ≤ 1000000) : Ev (fun n => letterbaglaw21_given.f n l) (m0 l) := given0_ev hlen l.length 0 (by omega) (by omega)
theorem same0_ev (hlen : l.length ≤ 1000000) : ∀ (d i : Nat), l.length - i = d → i ≤ l.length → Ev (fun n => letterbaglaw21_same.l0 n l l (l.length : Int) (i : Int)) true
  | 0, i, hd, hi => by
    have : i = l.length := by omega
    subst this
    refine Ev.step (f := fun _ => some true) (fun n => ?_) (Ev.now _)
    show letterbaglaw21_same.l0 (n + 1) _ _ _ _ = _
    rw [letterbaglaw21_same.l0, if_neg (by omega)]
  | d + 1, i, hd, hi => by
    have hil : i < l.length := by omega
    refine Ev.step (f := fun n => letterbaglaw21_same.l0 n l l (l.length : Int) ((i + 1 : Nat) : Int)) (fun n => ?_) (same0_ev hlen d (i + 1) (by omega) (by omega))
    show letterbaglaw21_same.l0 (n + 1) _ _ _ _ = _
    rw [letterbaglaw21_same.l0, if_pos (by omega), if_pos (by omega), if_pos (by omega), if_pos (by omega), if_neg (by simp), succ_i i l.length hil (by omega)]
theorem same_ev (l : List Bar) (hlen : l.length ≤ 1000000) : Ev (fun n => letterbaglaw21_same.f n l l) true := by
  unfold letterbaglaw21_same.f
  exact Ev.congr (fun _ => if_pos rfl) (same0_ev hlen l.length 0 (by omega) (by omega))
end
end Go.Proofs.YtadojakbfpdjjaaDoor.Px
