/-
  Bars as they are drawn, and bars that look the same: what is read of them.
-/
import Derived.Test.YtadojakbfpdjjaaDoorHDraw
namespace Go.Proofs.YtadojakbfpdjjaaDoor.Px
open Go.RowKit Go.Maps Go.Proofs.YtadojakbfpdjjaaDoorW.PrintWords Go.Proofs.YtadojakbfpdjjaaDoorW.PrintLast Go.Proofs.YtadojakbfpdjjaaDoorW.PrintMore

theorem barOf_at {s : Stp} (hs : rightP s) (k : Nat) (c : UInt8) : atB s (barOf s k c) = k ∧ offB s (barOf s k c) = 0 := by
  unfold rightP at hs
  have h1 : atB s (barOf s k c) = (k : Int) := by
    unfold atB barOf
    simp only
    rw [show s.f1 + (k : Int) * s.f2 - s.f1 + s.f3 = s.f3 + (k : Int) * s.f2 by omega, Int.add_mul_ediv_right _ _ (by omega), Int.ediv_eq_zero_of_lt (by omega) (by omega)]
    omega
  refine ⟨h1, ?_⟩
  unfold offB
  rw [h1]
  unfold barOf
  simp only
  omega
theorem tallOf_cases (s : Stp) (c x : UInt8) : tallOf s c x = s.f5 ∨ tallOf s c x = s.f4 := by
  unfold tallOf
  split
  · exact .inl rfl
  · exact .inr rfl
theorem barOf_ok {s : Stp} (hs : rightP s) {k : Nat} (hk : (k : Int) < s.f0) (c : UInt8) : okBar (barOf s k c) ∧ onB s (barOf s k c) := by
  have hat := barOf_at hs k c
  have hs' := hs
  unfold rightP at hs'
  have hp0 : 0 ≤ (k : Int) * s.f2 := Int.mul_nonneg (by omega) (by omega)
  have hp1 : (k : Int) * s.f2 ≤ 200 * 1048576 := Int.le_trans (Int.mul_le_mul_of_nonneg_right (show (k : Int) ≤ 200 by omega) (by omega)) (Int.mul_le_mul_of_nonneg_left (show s.f2 ≤ 1048576 by omega) (by omega))
  have h1 := tallOf_cases s c 65
  have h2 := tallOf_cases s c 68
  refine ⟨?_, ?_⟩
  · unfold okBar barOf
    simp only
    generalize (k : Int) * s.f2 = m at *
    omega
  · unfold onB dB
    rw [hat.1, hat.2]
    refine ⟨?_, hk, by omega⟩
    unfold barOf
    simp only
    generalize (k : Int) * s.f2 = m at *
    omega
theorem mem_barsFrom {s : Stp} : ∀ {t : List UInt8} {j : Nat} {b : Bar}, b ∈ barsFrom s j t → ∃ k, ∃ h : k < t.length, b = barOf s (j + k) t[k] ∧ t[k] ≠ 63
  | [], j, b, h => by unfold barsFrom at h; cases h
  | c :: t, j, b, h => by
    have ih : b ∈ barsFrom s (j + 1) t → ∃ k, ∃ h : k < (c :: t).length, b = barOf s (j + k) (c :: t)[k] ∧ (c :: t)[k] ≠ 63 := fun h => by
      obtain ⟨k, hk, h1, h2⟩ := mem_barsFrom h
      exact ⟨k + 1, by simp; omega, by rw [h1]; simp [Nat.add_comm, Nat.add_left_comm], by simpa using h2⟩
    unfold barsFrom at h
    split at h
    · exact ih h
    · rename_i h63
      rcases List.mem_cons.1 h with rfl | h
      · exact ⟨0, by simp, rfl, h63⟩
      · exact ih h
theorem barsFrom_good {s : Stp} (hs : rightP s) : ∀ (t : List UInt8) (j : Nat), ((barsFrom s j t).map (atB s)).Nodup ∧ ∀ b ∈ barsFrom s j t, (j : Int) ≤ atB s b
  | [], j => by
    unfold barsFrom
    exact ⟨List.nodup_nil, (fun b h => by cases h)⟩
  | c :: t, j => by
    obtain ⟨h1, h2⟩ := barsFrom_good hs t (j + 1)
    have h3 : ∀ b ∈ barsFrom s (j + 1) t, (j : Int) ≤ atB s b := fun b hb => by have := h2 b hb; omega
    unfold barsFrom
    split
    · exact ⟨h1, h3⟩
    · refine ⟨?_, fun b hb => ?_⟩
      · rw [List.map_cons, List.nodup_cons]
        refine ⟨fun hm => ?_, h1⟩
        obtain ⟨b, hb, e⟩ := List.mem_map.1 hm
        have := h2 b hb
        rw [e, (barOf_at hs j c).1] at this
        omega
      · rcases List.mem_cons.1 hb with rfl | hb
        · rw [(barOf_at hs j c).1]
          exact Int.le_refl _
        · exact h3 b hb
theorem barsFrom_mem {s : Stp} : ∀ {t : List UInt8} {j k : Nat} (h : k < t.length), t[k] ≠ 63 → barOf s (j + k) t[k] ∈ barsFrom s j t
  | [], j, k, h, _ => by simp at h
  | c :: t, j, 0, h, h63 => by
    have h63' : c ≠ 63 := h63
    unfold barsFrom
    rw [if_neg h63']
    exact List.mem_cons_self
  | c :: t, j, k + 1, h, h63 => by
    have ih := barsFrom_mem (s := s) (t := t) (j := j + 1) (k := k) (by simpa using h) (by simpa using h63)
    have e : barOf s (j + (k + 1)) (c :: t)[k + 1] = barOf s (j + 1 + k) (t[k]'(by simpa using h)) := by simp [Nat.add_comm, Nat.add_left_comm]
    rw [e]
    unfold barsFrom
    split
    · exact ih
    · exact List.mem_cons_of_mem _ ih
theorem letter_of {s : Stp} (hs : rightP s) (k : Nat) {c : UInt8} (hc : isLet c) (h63 : c ≠ 63) : UInt8.ofNat (letter s (barOf s k c)) = c := by
  unfold rightP at hs
  have hlo : halfB s s.f4 = 0 := if_pos (Int.le_refl _)
  have hhi : halfB s s.f5 = 1 := by unfold halfB; rw [if_neg (by omega), if_pos (Int.le_refl _)]
  rcases hc with rfl | rfl | rfl | rfl | rfl
  · show UInt8.ofNat (lett.getD (3 * (halfB s s.f4).toNat + (halfB s s.f4).toNat) 0) = 84
    rw [hlo]; rfl
  · show UInt8.ofNat (lett.getD (3 * (halfB s s.f5).toNat + (halfB s s.f4).toNat) 0) = 65
    rw [hlo, hhi]; rfl
  · show UInt8.ofNat (lett.getD (3 * (halfB s s.f4).toNat + (halfB s s.f5).toNat) 0) = 68
    rw [hlo, hhi]; rfl
  · show UInt8.ofNat (lett.getD (3 * (halfB s s.f5).toNat + (halfB s s.f5).toNat) 0) = 70
    rw [hhi]; rfl
  · exact absurd rfl h63

/-- Bars that are in order, as the laws have them. -/
structure Fine (s : Stp) (l : List Bar) : Prop where
  right : rightP s
  ok : ∀ b ∈ l, okBar b
  good : goodL s l
  len : l.length ≤ 400
theorem Fine.err {s : Stp} {l : List Bar} (h : Fine s l) : errL s l = 0 := errL_0 (by have := h.len; omega) h.right h.ok h.good
theorem Fine.read {s : Stp} {l : List Bar} (h : Fine s l) : readL s l = (⟨(textL s l).toArray⟩, 0) := by unfold readL; rw [if_pos h.err]
theorem Fine.margin {s : Stp} {l : List Bar} (h : Fine s l) : marginL s l = (minL s l, 0) := by unfold marginL; rw [if_pos h.err]
theorem drawn_fine {s : Stp} (hs : rightP s) {t : List UInt8} (hl : (t.length : Int) = s.f0) : Fine s (barsFrom s 0 t) := by
  have hk : ∀ b ∈ barsFrom s 0 t, okBar b ∧ onB s b := fun b hb => by
    obtain ⟨k, hk, rfl, _⟩ := mem_barsFrom hb
    exact barOf_ok hs (by omega) _
  refine ⟨hs, fun b hb => (hk b hb).1, ⟨fun b hb => (hk b hb).2, (barsFrom_good hs t 0).1⟩, ?_⟩
  have := barsFrom_len s t 0
  unfold rightP at hs
  omega
theorem charAt_mem {s : Stp} {l : List Bar} (hg : goodL s l) {b : Bar} (hb : b ∈ l) {k : Nat} (hk : atB s b = k) : charAt s l k = UInt8.ofNat (letter s b) := by
  unfold charAt
  rw [← hk, barAt_mem hg.2 hb]
theorem charAt_none {s : Stp} {l : List Bar} {k : Nat} (h : ∀ b ∈ l, atB s b ≠ k) : charAt s l k = 63 := by
  unfold charAt
  rw [barAt_none.2 (fun hm => by obtain ⟨b, hb, e⟩ := List.mem_map.1 hm; exact h b hb e)]
theorem drawn_text {s : Stp} (hs : rightP s) {t : List UInt8} (hl : (t.length : Int) = s.f0) (hlet : ∀ c ∈ t, isLet c) : textL s (barsFrom s 0 t) = t := by
  have hf := drawn_fine hs hl
  unfold textL
  apply List.ext_getElem?
  intro k
  by_cases hk : k < t.length
  · rw [List.getElem?_map, List.getElem?_range (by omega), List.getElem?_eq_getElem hk]
    simp only [Option.map_some]
    congr 1
    by_cases h63 : t[k] = 63
    · rw [h63]
      refine charAt_none (fun b hb e => ?_)
      obtain ⟨j, hj, rfl, hne⟩ := mem_barsFrom hb
      rw [(barOf_at hs _ _).1] at e
      have : j = k := by omega
      subst this
      exact hne h63
    · have hm := barsFrom_mem (s := s) (j := 0) hk h63
      rw [charAt_mem hf.good hm (k := k) (by rw [(barOf_at hs _ _).1]; omega)]
      exact letter_of hs _ (hlet _ (List.getElem_mem hk)) h63
  · rw [List.getElem?_eq_none (by rw [List.length_map, List.length_range]; omega), List.getElem?_eq_none (by omega)]
theorem drawn_read {s : Stp} (hs : rightP s) {t : List UInt8} (hl : (t.length : Int) = s.f0) (hlet : ∀ c ∈ t, isLet c) : readL s (barsFrom s 0 t) = (⟨t.toArray⟩, 0) := by
  rw [(drawn_fine hs hl).read, drawn_text hs hl hlet]
theorem drawn_draw {s : Stp} (hs : rightP s) {t : List UInt8} (hl : (t.length : Int) = s.f0) (hlet : ∀ c ∈ t, isLet c) : drawL s t = (barsFrom s 0 t, 0) := if_pos ⟨hs, hl, hlet⟩

/-- Two bars at one place, with one letter. -/
def alike (s : Stp) (b c : Bar) : Prop := atB s b = atB s c ∧ letter s b = letter s c
/-- Lists whose bars are alike, in whatever order, are read alike. -/
theorem text_alike {s : Stp} {l m : List Bar} (hl : goodL s l) (hm : goodL s m) (h1 : ∀ b ∈ l, ∃ c ∈ m, alike s b c) (h2 : ∀ c ∈ m, ∃ b ∈ l, alike s b c) : textL s l = textL s m := by
  unfold textL
  refine List.map_congr_left (fun k _ => ?_)
  by_cases hk : ∃ b ∈ l, atB s b = (k : Int)
  · obtain ⟨b, hb, e⟩ := hk
    obtain ⟨c, hc, h3, h4⟩ := h1 b hb
    rw [charAt_mem hl hb e, charAt_mem hm hc (by rw [← h3]; exact e), h4]
  · rw [charAt_none (fun b hb e => hk ⟨b, hb, e⟩), charAt_none (fun c hc e => by
      obtain ⟨b, hb, h3, _⟩ := h2 c hc
      exact hk ⟨b, hb, by rw [h3]; exact e⟩)]
end Go.Proofs.YtadojakbfpdjjaaDoor.Px
