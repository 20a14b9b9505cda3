/-
  HeightMissing in plain Lean: a bar less, a bar twice, a bar off, a bar between.
-/
import Derived.Test.YtadojakbfpdjjaaDoorHDrawn
namespace Go.Proofs.YtadojakbfpdjjaaDoor.Px
open Go.RowKit Go.Maps Go.Proofs.YtadojakbfpdjjaaDoorW.PrintWords Go.Proofs.YtadojakbfpdjjaaDoorW.PrintLast Go.Proofs.YtadojakbfpdjjaaDoorW.PrintMore

theorem from_q (s : Stp) (j : Nat) (t : List UInt8) : barsFrom s j (63 :: t) = barsFrom s (j + 1) t := by
  rw [barsFrom, if_pos rfl]
theorem from_c (s : Stp) (j : Nat) {c : UInt8} (h : c ≠ 63) (t : List UInt8) : barsFrom s j (c :: t) = barOf s j c :: barsFrom s (j + 1) t := by
  rw [barsFrom, if_neg h]
theorem from_less (s : Stp) : ∀ (t : List UInt8) (j0 k : Nat) (hk : k < (barsFrom s j0 t).length), ∃ j, ∃ hj : j < t.length, t[j] ≠ 63 ∧ (barsFrom s j0 t)[k] = barOf s (j0 + j) t[j] ∧ (barsFrom s j0 t).take k ++ (barsFrom s j0 t).drop (k + 1) = barsFrom s j0 (t.set j 63)
  | [], j0, k, hk => by simp [barsFrom] at hk
  | c :: t, j0, k, hk => by
    by_cases hc : c = 63
    · subst hc
      have e := from_q s j0 t
      have hk' : k < (barsFrom s (j0 + 1) t).length := by rw [e] at hk; exact hk
      obtain ⟨j, hj, h1, h2, h3⟩ := from_less s t (j0 + 1) k hk'
      refine ⟨j + 1, by simp; omega, by simpa using h1, ?_, ?_⟩
      · simp only [e, h2, List.getElem_cons_succ]
        congr 1
        omega
      · rw [e, h3, List.set_cons_succ, from_q]
    · have e := from_c s j0 hc t
      match k, hk with
      | 0, hk =>
        refine ⟨0, by simp, hc, ?_, ?_⟩
        · simp [e]
        · rw [e, List.set_cons_zero, from_q]
          simp
      | k + 1, hk =>
        have hk' : k < (barsFrom s (j0 + 1) t).length := by rw [e] at hk; simpa using hk
        obtain ⟨j, hj, h1, h2, h3⟩ := from_less s t (j0 + 1) k hk'
        refine ⟨j + 1, by simp; omega, by simpa using h1, ?_, ?_⟩
        · simp only [e, List.getElem_cons_succ, h2]
          congr 1
          omega
        · rw [e, List.set_cons_succ, from_c s j0 hc, ← h3]
          simp
theorem read_bad {s : Stp} {l : List Bar} (hs : rightP s) (hok : ∀ b ∈ l, okBar b) (hlen : l.length ≤ 400) (hg : ¬ goodL s l) : readL s l = (⟨#[]⟩, 210) := by
  unfold readL
  rw [errL_210 (by omega) hs hok hg, if_neg (by decide)]
theorem charAt_snoc {s : Stp} {l : List Bar} {x : Bar} {j : Nat} (hx : atB s x = j) (hn : barAt s l j = none) (k : Nat) : charAt s (l ++ [x]) k = if k = j then UInt8.ofNat (letter s x) else charAt s l k := by
  unfold charAt
  rw [barAt_snoc]
  by_cases h : k = j
  · subst h
    rw [hn, hx, if_pos rfl]
    simp
  · rw [if_neg h, hx]
    have e : (((j : Nat) : Int) == (k : Int)) = false := by
      rw [beq_eq_false_iff_ne]
      omega
    rw [e]
    simp
theorem set_take_drop (t : List UInt8) (j : Nat) (v : UInt8) (hj : j < t.length) : t.set j v = t.take j ++ v :: t.drop (j + 1) := by
  rw [List.set_eq_take_append_cons_drop, if_pos hj]
theorem set_take_drop2 (t : List UInt8) (j : Nat) (v u : UInt8) (hj : j + 1 < t.length) : (t.set j v).set (j + 1) u = t.take j ++ v :: u :: t.drop (j + 2) := by
  apply List.ext_getElem?
  intro i
  have h1 : (t.take j).length = j := by rw [List.length_take]; omega
  by_cases h2 : i < j
  · rw [List.getElem?_append_left (by omega), List.getElem?_take_of_lt h2, List.getElem?_set_ne (by omega), List.getElem?_set_ne (by omega)]
  · obtain ⟨d, rfl⟩ : ∃ d, i = j + d := ⟨i - j, by omega⟩
    rw [List.getElem?_append_right (by omega), h1]
    match d with
    | 0 => rw [List.getElem?_set_ne (by omega), Nat.add_zero, List.getElem?_set_self (by omega)]; simp
    | 1 => rw [List.getElem?_set_self (by rw [List.length_set]; omega)]; simp
    | d + 2 =>
      rw [List.getElem?_set_ne (by omega), List.getElem?_set_ne (by omega), show j + (d + 2) - j = d + 2 by omega]
      simp only [List.getElem?_cons_succ, List.getElem?_drop]
      congr 1
      omega
/-- Whether the bar between stands at the next place. -/
def nextP (s : Stp) (t : List UInt8) (j : Nat) : Prop := s.f3 * 2 + 1 = s.f2 ∧ (j : Int) + 1 < s.f0 ∧ t[j + 1]? = some 63
def offX (s : Stp) (b : Bar) : Bar := ⟨s.f1 + s.f0 * s.f2, b.f1, b.f2⟩
def midX (s : Stp) (b : Bar) : Bar := ⟨b.f0 + s.f3 + 1, s.f4, s.f4⟩
theorem missing_facts {s : Stp} (hs : rightP s) {t : List UInt8} (hl : (t.length : Int) = s.f0) (hlet : ∀ c ∈ t, isLet c) {l : List Bar} (e : l = barsFrom s 0 t) {k : Nat} (hk : k < l.length) :
    ∃ j, j < t.length ∧ l[k].f0 = s.f1 + (j : Int) * s.f2 ∧ readL s (l.take k ++ l.drop (k + 1)) = (⟨(t.take j ++ 63 :: t.drop (j + 1)).toArray⟩, 0) ∧ readL s (l ++ [l[k]]) = (⟨#[]⟩, 210) ∧ readL s (l.set k (offX s l[k])) = (⟨#[]⟩, 210)
      ∧ (nextP s t j → readL s (l.take k ++ l.drop (k + 1) ++ [midX s l[k]]) = (⟨(t.take j ++ 63 :: 84 :: t.drop (j + 2)).toArray⟩, 0)) ∧ (¬ nextP s t j → readL s (l.take k ++ l.drop (k + 1) ++ [midX s l[k]]) = (⟨#[]⟩, 210)) := by
  subst e
  obtain ⟨j, hj, h63, hb, hless⟩ := from_less s t 0 k hk
  rw [Nat.zero_add] at hb
  have hf := drawn_fine hs hl
  have hs' := hs
  unfold rightP at hs'
  have hlen := barsFrom_len s t 0
  have hmem : (barsFrom s 0 t)[k] ∈ barsFrom s 0 t := List.getElem_mem hk
  have hlet' : ∀ c ∈ t.set j 63, isLet c := fun c hc => by
    rcases List.mem_or_eq_of_mem_set hc with h | rfl
    · exact hlet c h
    · decide
  have hl' : ((t.set j 63).length : Int) = s.f0 := by rw [List.length_set]; exact hl
  have hf' := drawn_fine hs hl'
  have hlen' := barsFrom_len s (t.set j 63) 0
  rw [List.length_set] at hlen'
  have hp0 : 0 ≤ (j : Int) * s.f2 := Int.mul_nonneg (by omega) (by omega)
  have hp1 : (j : Int) * s.f2 ≤ 200 * 1048576 := Int.le_trans (Int.mul_le_mul_of_nonneg_right (show (j : Int) ≤ 200 by omega) (by omega)) (Int.mul_le_mul_of_nonneg_left (show s.f2 ≤ 1048576 by omega) (by omega))
  have hq0 : 0 ≤ s.f0 * s.f2 := Int.mul_nonneg (by omega) (by omega)
  have hq1 : s.f0 * s.f2 ≤ 200 * 1048576 := Int.le_trans (Int.mul_le_mul_of_nonneg_right (show s.f0 ≤ 200 by omega) (by omega)) (Int.mul_le_mul_of_nonneg_left (show s.f2 ≤ 1048576 by omega) (by omega))
  have hb0 : (barsFrom s 0 t)[k].f0 = s.f1 + (j : Int) * s.f2 := by rw [hb]; rfl
  have hokb := hf.ok _ hmem
  generalize hbb : (barsFrom s 0 t)[k] = b at *
  have hokx : okBar (midX s b) := by
    unfold okBar midX
    simp only
    generalize (j : Int) * s.f2 = m at *
    omega
  refine ⟨j, hj, hb0, ?_, ?_, ?_, ?_, ?_⟩
  · rw [hless, drawn_read hs hl' hlet', set_take_drop t j 63 hj]
  · refine read_bad hs (fun c hc => ?_) (by rw [List.length_append, List.length_singleton]; omega) (goodL_bad (k := (barsFrom s 0 t).length) (by simp) (.inr ?_))
    · rcases List.mem_append.1 hc with h | h
      · exact hf.ok c h
      · rw [List.mem_singleton.1 h]; exact hokb
    · rw [List.getElem_append_right (Nat.le_refl _), List.take_left]
      simp only [Nat.sub_self, List.getElem_singleton]
      rw [barAt_mem hf.good.2 hmem]
      exact fun h => by cases h
  · have hat : atB s (offX s b) = s.f0 := by
      have h1 := (barOf_at hs s.f0.toNat 84).1
      have h2 : atB s (offX s b) = atB s (barOf s s.f0.toNat 84) := by
        unfold atB offX barOf
        simp only
        rw [show ((s.f0.toNat : Nat) : Int) = s.f0 by omega]
      rw [h2, h1]
      omega
    refine read_bad hs (fun c hc => ?_) (by rw [List.length_set]; omega) (goodL_bad (k := k) (by rw [List.length_set]; exact hk) (.inl ?_))
    · rcases List.mem_or_eq_of_mem_set hc with h | rfl
      · exact hf.ok c h
      · unfold okBar at hokb ⊢
        unfold offX
        simp only
        generalize s.f0 * s.f2 = m at *
        omega
    · rw [List.getElem_set_self]
      intro h
      have := h.2.1
      omega
  · rintro ⟨h1, h2, h3⟩
    rw [hless]
    have hat : atB s (midX s b) = ((j + 1 : Nat) : Int) := by
      unfold atB midX
      simp only
      rw [hb0, show s.f1 + (j : Int) * s.f2 + s.f3 + 1 - s.f1 + s.f3 = ((j + 1 : Nat) : Int) * s.f2 by
        have : ((j + 1 : Nat) : Int) * s.f2 = (j : Int) * s.f2 + s.f2 := by rw [Int.natCast_add, Int.add_mul]; simp
        omega]
      exact Int.mul_ediv_cancel _ (by omega)
    have hon : onB s (midX s b) := by
      refine ⟨?_, by rw [hat]; omega, ?_⟩
      · unfold midX
        simp only
        omega
      · have ho : offB s (midX s b) = - s.f3 := by
          unfold offB
          rw [hat]
          unfold midX
          simp only
          have : ((j + 1 : Nat) : Int) * s.f2 = (j : Int) * s.f2 + s.f2 := by rw [Int.natCast_add, Int.add_mul]; simp
          omega
        unfold dB
        rw [ho]
        omega
    have hj1 : j + 1 < t.length := by omega
    have hnone : barAt s (barsFrom s 0 (t.set j 63)) ((j + 1 : Nat) : Int) = none := by
      refine barAt_none.2 (fun hm => ?_)
      obtain ⟨x, hx, ex⟩ := List.mem_map.1 hm
      obtain ⟨i, hi, rfl, hne⟩ := mem_barsFrom hx
      rw [(barOf_at hs _ _).1] at ex
      obtain rfl : i = j + 1 := by omega
      apply hne
      rw [List.getElem_set_ne (by omega)]
      rw [List.getElem?_eq_getElem hj1] at h3
      exact Option.some.inj h3
    have hgood : goodL s (barsFrom s 0 (t.set j 63) ++ [midX s b]) := goodL_snoc hf'.good hon (by rw [hat]; exact hnone)
    have herr : errL s (barsFrom s 0 (t.set j 63) ++ [midX s b]) = 0 := errL_0 (by rw [List.length_append, List.length_singleton]; omega) hs (fun c hc => by
      rcases List.mem_append.1 hc with h | h
      · exact hf'.ok c h
      · rw [List.mem_singleton.1 h]; exact hokx) hgood
    unfold readL
    rw [herr, if_pos rfl]
    have htx := drawn_text hs hl' hlet'
    have hlx : UInt8.ofNat (letter s (midX s b)) = 84 := by
      have h84 := letter_of hs 0 (c := 84) (.inl rfl) (by decide)
      have t1 : tallOf s 84 65 = s.f4 := if_neg (by decide)
      have t2 : tallOf s 84 68 = s.f4 := if_neg (by decide)
      unfold barOf letter at h84
      rw [t1, t2] at h84
      exact h84
    have htt : textL s (barsFrom s 0 (t.set j 63) ++ [midX s b]) = t.take j ++ 63 :: 84 :: t.drop (j + 2) := by
      rw [← set_take_drop2 t j 63 84 hj1]
      conv => rhs; rw [← htx]
      unfold textL
      apply List.ext_getElem?
      intro i
      by_cases hi : i < s.f0.toNat
      · rw [List.getElem?_map, List.getElem?_range hi]
        simp only [Option.map_some]
        rw [charAt_snoc hat hnone i, hlx]
        by_cases hij : i = j + 1
        · subst hij
          rw [if_pos rfl, List.getElem?_set_self (by rw [List.length_map, List.length_range]; exact hi)]
        · rw [if_neg hij, List.getElem?_set_ne (by omega), List.getElem?_map, List.getElem?_range hi]
          rfl
      · rw [List.getElem?_eq_none (by rw [List.length_map, List.length_range]; omega), List.getElem?_eq_none (by rw [List.length_set, List.length_map, List.length_range]; omega)]
    rw [htt]
  · intro hno
    rw [hless]
    refine read_bad hs (fun c hc => ?_) (by rw [List.length_append, List.length_singleton]; omega) (goodL_bad (k := (barsFrom s 0 (t.set j 63)).length) (by simp) ?_)
    · rcases List.mem_append.1 hc with h | h
      · exact hf'.ok c h
      · rw [List.mem_singleton.1 h]; exact hokx
    · rw [List.getElem_append_right (Nat.le_refl _), List.take_left]
      simp only [Nat.sub_self, List.getElem_singleton]
      by_cases h1 : s.f3 * 2 + 1 = s.f2
      · have hat : atB s (midX s b) = ((j + 1 : Nat) : Int) := by
          unfold atB midX
          simp only
          rw [hb0, show s.f1 + (j : Int) * s.f2 + s.f3 + 1 - s.f1 + s.f3 = ((j + 1 : Nat) : Int) * s.f2 by
            have : ((j + 1 : Nat) : Int) * s.f2 = (j : Int) * s.f2 + s.f2 := by rw [Int.natCast_add, Int.add_mul]; simp
            omega]
          exact Int.mul_ediv_cancel _ (by omega)
        by_cases h2 : (j : Int) + 1 < s.f0
        · right
          have hj1 : j + 1 < (t.set j 63).length := by rw [List.length_set]; omega
          have hj1' : j + 1 < t.length := by omega
          have hne : (t.set j 63)[j + 1] ≠ 63 := fun h => hno ⟨h1, h2, by
            rw [List.getElem_set_ne (by omega)] at h
            rw [List.getElem?_eq_getElem hj1', h]⟩
          have hm := barsFrom_mem (s := s) (j := 0) hj1 hne
          rw [hat]
          have h5 := barAt_mem hf'.good.2 hm
          rw [(barOf_at hs _ _).1, Nat.zero_add] at h5
          rw [h5]
          exact fun h => by cases h
        · left
          intro h
          have := h.2.1
          rw [hat] at this
          omega
      · left
        have hat : atB s (midX s b) = (j : Int) := by
          unfold atB midX
          simp only
          rw [hb0, show s.f1 + (j : Int) * s.f2 + s.f3 + 1 - s.f1 + s.f3 = s.f3 * 2 + 1 + (j : Int) * s.f2 by omega, Int.add_mul_ediv_right _ _ (by omega), Int.ediv_eq_zero_of_lt (by omega) (by omega)]
          omega
        intro h
        have h2 := h.2.2
        unfold dB offB at h2
        rw [hat] at h2
        unfold midX at h2
        simp only at h2
        omega
end Go.Proofs.YtadojakbfpdjjaaDoor.Px
