/-
  The reference of height answers as the plain definitions say: errors, letters, texts, margins.
-/
import Derived.Test.YtadojakbfpdjjaaDoorHPlace
import Derived.Test.YtadojakbfpdjjaaDoorPx6
namespace Go.Proofs.YtadojakbfpdjjaaDoor.Px
open Go.RowKit Go.Maps Go.Proofs.YtadojakbfpdjjaaDoorW.PrintWords Go.Proofs.YtadojakbfpdjjaaDoorW.PrintLast Go.Proofs.YtadojakbfpdjjaaDoorW.PrintMore

abbrev Rbar := S47
def cv (b : Bar) : Rbar := ⟨b.f0, b.f1, b.f2⟩
abbrev m0 (l : List Bar) : List Rbar := l.map cv
theorem rdR_get {l : List Bar} {i : Nat} (h : i < l.length) : rd_T47 (m0 l) (i : Int) = cv l[i] := by
  unfold rd_T47
  rw [Int.toNat_natCast, List.getD_eq_getElem?_getD, List.getElem?_eq_getElem (by simpa using h)]
  simp

theorem refRight_f (s : Stp) : letterbagref21_Right.f s.f0 s.f1 s.f2 s.f3 s.f4 s.f5 = some (decide (rightP s)) := by
  unfold letterbagref21_Right.f
  by_cases h0 : s.f0 < 1
  · rw [if_pos h0]; exact congrArg some (decide_eq_false (by unfold rightP; omega)).symm
  rw [if_neg h0]
  by_cases h1 : s.f0 > 200
  · rw [if_pos h1]; exact congrArg some (decide_eq_false (by unfold rightP; omega)).symm
  rw [if_neg h1]
  by_cases h2 : s.f2 < 1
  · rw [if_pos h2]; exact congrArg some (decide_eq_false (by unfold rightP; omega)).symm
  rw [if_neg h2]
  by_cases h3 : s.f2 > 1048576
  · rw [if_pos h3]; exact congrArg some (decide_eq_false (by unfold rightP; omega)).symm
  rw [if_neg h3]
  by_cases h4 : s.f1 < 0
  · rw [if_pos h4]; exact congrArg some (decide_eq_false (by unfold rightP; omega)).symm
  rw [if_neg h4]
  by_cases h5 : s.f1 > 1048576
  · rw [if_pos h5]; exact congrArg some (decide_eq_false (by unfold rightP; omega)).symm
  rw [if_neg h5]
  by_cases h6 : s.f3 ≥ 0
  rotate_left
  · rw [if_neg h6]; exact congrArg some (decide_eq_false (by unfold rightP; omega)).symm
  rw [if_pos h6]
  by_cases h7 : s.f3 < s.f2
  rotate_left
  · rw [if_neg h7]; exact congrArg some (decide_eq_false (by unfold rightP; omega)).symm
  rw [if_pos h7, wrap_id (2 * s.f3) (by omega)]
  by_cases h8 : 2 * s.f3 < s.f2
  rotate_left
  · rw [if_neg h8]; exact congrArg some (decide_eq_false (by unfold rightP; omega)).symm
  rw [if_pos h8]
  by_cases h9 : s.f4 ≥ 0
  rotate_left
  · rw [if_neg h9]; exact congrArg some (decide_eq_false (by unfold rightP; omega)).symm
  rw [if_pos h9]
  by_cases h10 : s.f4 < s.f5
  rotate_left
  · rw [if_neg h10]; exact congrArg some (decide_eq_false (by unfold rightP; omega)).symm
  rw [if_pos h10]
  exact congrArg some (decide_eq_decide.2 (by unfold rightP; omega))

theorem near_iff {p q x sl : Int} (hp : 1 ≤ p) (h2 : 2 * sl < p) : (x ≤ q * p + sl ∧ q * p - sl ≤ x) ↔ (-sl ≤ x ∧ (x + sl) / p = q ∧ x - q * p ≤ sl ∧ -(x - q * p) ≤ sl ∧ 0 ≤ q) ∨ ((x ≤ q * p + sl ∧ q * p - sl ≤ x) ∧ q < 0) := by
  constructor
  · intro ⟨h3, h4⟩
    by_cases hq : q < 0
    · exact .inr ⟨⟨h3, h4⟩, hq⟩
    · left
      have hm : 0 ≤ q * p := Int.mul_nonneg (by omega) (by omega)
      have hd : (x + sl) / p = q := by
        rw [show x + sl = (x + sl - q * p) + q * p by omega, Int.add_mul_ediv_right _ _ (by omega), Int.ediv_eq_zero_of_lt (by omega) (by omega)]
        omega
      exact ⟨by omega, hd, by omega, by omega, by omega⟩
  · rintro (⟨h3, h4, h5, h6, h7⟩ | ⟨h, _⟩)
    · exact ⟨by omega, by omega⟩
    · exact h
def st (s : Stp) (b : Bar) (k : Nat) : Prop := onB s b ∧ atB s b = (k : Int)
instance (s : Stp) (b : Bar) (k : Nat) : Decidable (st s b k) := inferInstanceAs (Decidable (_ ∧ _))
/-- A bar stands at a place, by the reference's test. -/
theorem stands_f {s : Stp} {b : Bar} {k : Nat} (hs : rightP s) (hb : okBar b) (hk : (k : Int) < s.f0) :
    letterbagref21_Stands.f s.f0 s.f1 s.f2 s.f3 s.f4 s.f5 (cv b).f0 (cv b).f1 (cv b).f2 (k : Int) = some (decide (st s b k)) := by
  have hs' := hs
  have hb' := hb
  unfold rightP at hs'
  unfold okBar at hb'
  unfold letterbagref21_Stands.f
  have hp0 : 0 ≤ (k : Int) * s.f2 := Int.mul_nonneg (by omega) (by omega)
  have hp1 : (k : Int) * s.f2 ≤ 200 * 1048576 := Int.le_trans (Int.mul_le_mul_of_nonneg_right (show (k : Int) ≤ 200 by omega) (by omega)) (Int.mul_le_mul_of_nonneg_left (show s.f2 ≤ 1048576 by omega) (by omega))
  have hn := near_iff (p := s.f2) (q := k) (x := b.f0 - s.f1) (sl := s.f3) (by omega) (by omega)
  have hd : dB s b = max (offB s b) (-(offB s b)) := rfl
  have ho : offB s b = b.f0 - s.f1 - atB s b * s.f2 := rfl
  have ha : atB s b = (b.f0 - s.f1 + s.f3) / s.f2 := rfl
  have hkey : st s b k ↔ (b.f0 - s.f1 ≤ (k : Int) * s.f2 + s.f3 ∧ (k : Int) * s.f2 - s.f3 ≤ b.f0 - s.f1) := by
    rw [hn]
    unfold st onB
    rw [hd, ho, ← ha]
    constructor
    · rintro ⟨⟨h1, h2, h3⟩, h4⟩
      rw [h4] at h3
      left
      exact ⟨by omega, h4, by omega, by omega, by omega⟩
    · rintro (⟨h1, h2, h3, h4, h5⟩ | ⟨_, h⟩)
      · rw [h2]
        exact ⟨⟨by omega, hk, by omega⟩, rfl⟩
      · omega
  show (if b.f0 ≤ wrap64 (wrap64 (s.f1 + wrap64 ((k : Int) * s.f2)) + s.f3) then some (decide (b.f0 ≥ wrap64 (wrap64 (s.f1 + wrap64 ((k : Int) * s.f2)) - s.f3))) else some false) = _
  clear hn
  generalize (k : Int) * s.f2 = m at *
  rw [wrap_id m (by omega), wrap_id (s.f1 + m) (by omega), wrap_id (s.f1 + m + s.f3) (by omega), wrap_id (s.f1 + m - s.f3) (by omega)]
  by_cases h1 : b.f0 ≤ s.f1 + m + s.f3
  · rw [if_pos h1]
    exact congrArg some (decide_eq_decide.2 (by rw [hkey]; omega))
  · rw [if_neg h1]
    exact congrArg some (decide_eq_false (by rw [hkey]; omega)).symm
end Go.Proofs.YtadojakbfpdjjaaDoor.Px
