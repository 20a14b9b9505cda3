/-
  height in plain Lean: setups, bars, where a bar stands, its letter, the margin.
-/
import Derived.Test.YtadojakbfpdjjaaDoorPx2
namespace Go.Proofs.YtadojakbfpdjjaaDoor.Px
open Go.RowKit Go.Proofs.YtadojakbfpdjjaaDoorW.PrintWords Go.Proofs.YtadojakbfpdjjaaDoorW.PrintLast Go.Proofs.YtadojakbfpdjjaaDoorW.PrintMore

abbrev Stp := S23
abbrev Bar := S48

def rightP (s : Stp) : Prop := 1 ≤ s.f0 ∧ s.f0 ≤ 200 ∧ 1 ≤ s.f2 ∧ s.f2 ≤ 1048576 ∧ 0 ≤ s.f1 ∧ s.f1 ≤ 1048576 ∧ 0 ≤ s.f3 ∧ s.f3 ≤ (s.f2 - 1) / 2 ∧ 0 ≤ s.f4 ∧ s.f4 ≤ 1048576 ∧ s.f4 + 1 ≤ s.f5 ∧ s.f5 ≤ 1048576
instance (s : Stp) : Decidable (rightP s) := inferInstanceAs (Decidable (_ ∧ _))
def okBar (b : Bar) : Prop := (0 ≤ b.f0 ∧ b.f0 ≤ 1073741824) ∧ (0 ≤ b.f1 ∧ b.f1 ≤ 1048576) ∧ (0 ≤ b.f2 ∧ b.f2 ≤ 1048576)
instance (b : Bar) : Decidable (okBar b) := inferInstanceAs (Decidable (_ ∧ _))
def atB (s : Stp) (b : Bar) : Int := (b.f0 - s.f1 + s.f3) / s.f2
def offB (s : Stp) (b : Bar) : Int := b.f0 - s.f1 - atB s b * s.f2
def dB (s : Stp) (b : Bar) : Int := max (offB s b) (-(offB s b))
def onB (s : Stp) (b : Bar) : Prop := s.f1 - s.f3 ≤ b.f0 ∧ atB s b < s.f0 ∧ dB s b ≤ s.f3
instance (s : Stp) (b : Bar) : Decidable (onB s b) := inferInstanceAs (Decidable (_ ∧ _))
def halfB (s : Stp) (n : Int) : Int := if n ≤ s.f4 then 0 else if n ≥ s.f5 then 1 else 2
def roomN (s : Stp) (n : Int) : Int := if n ≤ s.f4 then s.f4 - n else if n ≥ s.f5 then n - s.f5 else min (s.f5 - 1 - n) (n - s.f4 - 1)
def roomB (s : Stp) (b : Bar) : Int := min (s.f3 - dB s b) (min (roomN s b.f1) (roomN s b.f2))
def lett : List Nat := [84, 68, 63, 65, 70, 63, 63, 63, 63]
def letter (s : Stp) (b : Bar) : Nat := lett.getD (3 * (halfB s b.f1).toNat + (halfB s b.f2).toNat) 0
def goodL (s : Stp) (l : List Bar) : Prop := (∀ b ∈ l, onB s b) ∧ (l.map (atB s)).Nodup
instance (s : Stp) (l : List Bar) : Decidable (goodL s l) := inferInstanceAs (Decidable (_ ∧ _))
def barAt (s : Stp) (l : List Bar) (k : Int) : Option Bar := l.find? (fun b => atB s b == k)
/-- The error of measured bars. -/
def errL (s : Stp) (l : List Bar) : Int := if 400 < l.length then 5 else if rightP s then (if ∀ b ∈ l, okBar b then (if goodL s l then 0 else 210) else 2) else 2
def charAt (s : Stp) (l : List Bar) (k : Nat) : UInt8 := match barAt s l (k : Int) with | some b => UInt8.ofNat (letter s b) | none => 63
def textL (s : Stp) (l : List Bar) : List UInt8 := (List.range s.f0.toNat).map (charAt s l)
def readL (s : Stp) (l : List Bar) : ByteArray × Int := if errL s l = 0 then (⟨(textL s l).toArray⟩, 0) else (⟨#[]⟩, errL s l)
def minL (s : Stp) (l : List Bar) : Int := l.foldl (fun m b => min m (roomB s b)) 1048576
def marginL (s : Stp) (l : List Bar) : Int × Int := if errL s l = 0 then (minL s l, 0) else (0, errL s l)
def isMin (s : Stp) (l : List Bar) (p : Bar → Prop) (m : Int) : Prop := m ≤ 1048576 ∧ (∀ b ∈ l, p b → m ≤ roomB s b) ∧ (m = 1048576 ∨ ∃ b ∈ l, p b ∧ m = roomB s b)
/-- What Draw makes of a byte at a place. -/
def tallOf (s : Stp) (c : UInt8) (x : UInt8) : Int := if c = x ∨ c = 70 then s.f5 else s.f4
def barOf (s : Stp) (k : Nat) (c : UInt8) : Bar := ⟨s.f1 + (k : Int) * s.f2, tallOf s c 65, tallOf s c 68⟩
def isLet (c : UInt8) : Prop := c = 84 ∨ c = 65 ∨ c = 68 ∨ c = 70 ∨ c = 63
instance (c : UInt8) : Decidable (isLet c) := inferInstanceAs (Decidable (_ ∨ _))
def barsFrom (s : Stp) : Nat → List UInt8 → List Bar
  | _, [] => []
  | k, c :: t => if c = 63 then barsFrom s (k + 1) t else barOf s k c :: barsFrom s (k + 1) t
def drawOk (s : Stp) (t : List UInt8) : Prop := rightP s ∧ (t.length : Int) = s.f0 ∧ ∀ c ∈ t, isLet c
instance (s : Stp) (t : List UInt8) : Decidable (drawOk s t) := inferInstanceAs (Decidable (_ ∧ _))
def drawL (s : Stp) (t : List UInt8) : List Bar × Int := if drawOk s t then (barsFrom s 0 t, 0) else ([], 2)

theorem wrap_id (x : Int) (h : -9223372036854775808 ≤ x ∧ x ≤ 9223372036854775807) : wrap64 x = x := by unfold wrap64; omega

theorem within_f (n a b : Int) : height_within.f n a b = some (decide (a ≤ n ∧ n ≤ b)) := by
  unfold height_within.f
  by_cases h : a ≤ n
  · rw [if_pos h]; simp [h]
  · rw [if_neg (by omega)]; simp [h]

theorem right_f (s : Stp) : height_Right.f s.f0 s.f1 s.f2 s.f3 s.f4 s.f5 = some (decide (rightP s)) := by
  unfold height_Right.f
  simp only [within_f, Option.bind_some, decide_eq_true_eq]
  by_cases h0 : 1 ≤ s.f0 ∧ s.f0 ≤ 200
  · rw [if_pos h0]
    by_cases h1 : 1 ≤ s.f2 ∧ s.f2 ≤ 1048576
    · rw [if_pos h1]
      have e1 : wrap64 (s.f2 - 1) = s.f2 - 1 := wrap_id _ (by omega)
      have e2 : wrap64 (Int.tdiv (s.f2 - 1) 2) = (s.f2 - 1) / 2 := by rw [Int.tdiv_eq_ediv_of_nonneg (by omega)]; exact wrap_id _ (by omega)
      rw [e1, e2]
      by_cases h2 : 0 ≤ s.f1 ∧ s.f1 ≤ 1048576
      · rw [if_pos h2]
        by_cases h3 : 0 ≤ s.f3 ∧ s.f3 ≤ (s.f2 - 1) / 2
        · rw [if_pos h3]
          by_cases h4 : 0 ≤ s.f4 ∧ s.f4 ≤ 1048576
          · rw [if_pos h4, wrap_id (s.f4 + 1) (by omega)]
            exact congrArg some (decide_eq_decide.2 (by unfold rightP; omega))
          · rw [if_neg h4]; exact congrArg some (decide_eq_false (by unfold rightP; omega)).symm
        · rw [if_neg h3]; exact congrArg some (decide_eq_false (by unfold rightP; omega)).symm
      · rw [if_neg h2]; exact congrArg some (decide_eq_false (by unfold rightP; omega)).symm
    · rw [if_neg h1]; exact congrArg some (decide_eq_false (by unfold rightP; omega)).symm
  · rw [if_neg h0]; exact congrArg some (decide_eq_false (by unfold rightP; omega)).symm

/-- The place's product, within bounds. -/
theorem at_bounds {s : Stp} {b : Bar} (hs : rightP s) (hb : okBar b) (h : s.f1 - s.f3 ≤ b.f0) : 0 ≤ atB s b ∧ atB s b ≤ 1074790400 ∧ 0 ≤ atB s b * s.f2 ∧ atB s b * s.f2 ≤ b.f0 - s.f1 + s.f3 ∧ b.f0 - s.f1 + s.f3 < atB s b * s.f2 + s.f2 := by
  unfold rightP at hs
  unfold okBar at hb
  unfold atB
  have h1 : 0 ≤ (b.f0 - s.f1 + s.f3) / s.f2 := Int.ediv_nonneg (by omega) (by omega)
  have h2 := Int.ediv_mul_le (b.f0 - s.f1 + s.f3) (b := s.f2) (by omega)
  have h3 := Int.lt_ediv_add_one_mul_self (b.f0 - s.f1 + s.f3) (b := s.f2) (by omega)
  have h4 : (b.f0 - s.f1 + s.f3) / s.f2 ≤ b.f0 - s.f1 + s.f3 := Int.ediv_le_self _ (by omega)
  have h5 : 0 ≤ (b.f0 - s.f1 + s.f3) / s.f2 * s.f2 := Int.mul_nonneg h1 (by omega)
  rw [Int.add_mul] at h3
  generalize (b.f0 - s.f1 + s.f3) / s.f2 * s.f2 = y at *
  generalize (b.f0 - s.f1 + s.f3) / s.f2 = x at *
  omega

theorem away_yes {s : Stp} {b : Bar} (hs : rightP s) (hb : okBar b) (h : s.f1 - s.f3 ≤ b.f0) :
    height_Setup_away.f s.f0 s.f1 s.f2 s.f3 s.f4 s.f5 b.f0 b.f1 b.f2 = some (atB s b, dB s b, decide (onB s b)) := by
  have hat := at_bounds hs hb h
  unfold height_Setup_away.f
  have hs' := hs
  unfold rightP at hs'
  have hb' := hb
  unfold okBar at hb'
  rw [if_neg (by omega), wrap_id (s.f1 - s.f3) (by omega), if_neg (by omega), wrap_id (b.f0 - s.f1) (by omega), wrap_id (b.f0 - s.f1 + s.f3) (by omega), Int.tdiv_eq_ediv_of_nonneg (by omega)]
  have ha : (b.f0 - s.f1 + s.f3) / s.f2 = atB s b := rfl
  rw [ha]
  have ho : b.f0 - s.f1 - atB s b * s.f2 = offB s b := rfl
  have hor : offB s b = b.f0 - s.f1 - atB s b * s.f2 := rfl
  rw [wrap_id (atB s b) (by omega)]
  generalize hm : atB s b * s.f2 = m at *
  rw [wrap_id m (by omega), ho, wrap_id (offB s b) (by omega), wrap_id (-(offB s b)) (by omega)]
  have hd : dB s b = max (offB s b) (-(offB s b)) := rfl
  have hon : onB s b ↔ atB s b < s.f0 ∧ dB s b ≤ s.f3 := ⟨fun x => x.2, fun x => ⟨h, x⟩⟩
  have hde : decide (onB s b) = decide (atB s b < s.f0 ∧ dB s b ≤ s.f3) := decide_eq_decide.2 hon
  rw [hde]
  by_cases h1 : offB s b < 0
  · rw [if_pos h1]
    have e : -(offB s b) = dB s b := by omega
    rw [e]
    by_cases h2 : atB s b < s.f0
    · rw [if_pos h2]; simp [h2]
    · rw [if_neg h2]; simp [h2]
  · rw [if_neg h1]
    have e : offB s b = dB s b := by omega
    rw [e]
    by_cases h2 : atB s b < s.f0
    · rw [if_pos h2]; simp [h2]
    · rw [if_neg h2]; simp [h2]

theorem away_low {s : Stp} {b : Bar} (hs : rightP s) (h : ¬ s.f1 - s.f3 ≤ b.f0) :
    height_Setup_away.f s.f0 s.f1 s.f2 s.f3 s.f4 s.f5 b.f0 b.f1 b.f2 = some (0, 0, false) := by
  unfold height_Setup_away.f
  unfold rightP at hs
  rw [if_neg (by omega), wrap_id (s.f1 - s.f3) (by omega), if_pos (by omega)]

theorem away_no {s : Stp} {b : Bar} (hs : rightP s) (hb : okBar b) (h : ¬ onB s b) : ∃ k d, height_Setup_away.f s.f0 s.f1 s.f2 s.f3 s.f4 s.f5 b.f0 b.f1 b.f2 = some (k, d, false) ∧ -9223372036854775808 ≤ k ∧ k ≤ 9223372036854775807 := by
  by_cases h1 : s.f1 - s.f3 ≤ b.f0
  · have := at_bounds hs hb h1
    exact ⟨_, _, by rw [away_yes hs hb h1, decide_eq_false h], by omega, by omega⟩
  · exact ⟨0, 0, away_low hs h1, by omega, by omega⟩
theorem away_on {s : Stp} {b : Bar} (hs : rightP s) (hb : okBar b) (h : onB s b) : height_Setup_away.f s.f0 s.f1 s.f2 s.f3 s.f4 s.f5 b.f0 b.f1 b.f2 = some (atB s b, dB s b, true) := by
  rw [away_yes hs hb h.1, decide_eq_true h]

theorem half_f (s : Stp) (n : Int) : height_Setup_half.f s.f0 s.f1 s.f2 s.f3 s.f4 s.f5 n = some (halfB s n) := by
  unfold height_Setup_half.f halfB
  split
  · rfl
  · split <;> rfl
theorem half_bounds (s : Stp) (n : Int) : 0 ≤ halfB s n ∧ halfB s n ≤ 2 := by
  unfold halfB
  split
  · omega
  · split <;> omega
theorem room_f {s : Stp} {n : Int} (hs : rightP s) (h0 : 0 ≤ n) (h1 : n ≤ 1048576) : height_Setup_room.f s.f0 s.f1 s.f2 s.f3 s.f4 s.f5 n = some (roomN s n) := by
  unfold height_Setup_room.f
  rw [half_f]
  simp only [Option.bind_some]
  unfold rightP at hs
  unfold halfB roomN
  by_cases h2 : n ≤ s.f4
  · rw [if_pos h2, if_pos h2, if_pos rfl, wrap_id _ (by omega)]
  · rw [if_neg h2, if_neg h2]
    by_cases h3 : n ≥ s.f5
    · rw [if_pos h3, if_pos h3, if_neg (by omega), if_pos rfl, wrap_id _ (by omega)]
    · rw [if_neg h3, if_neg h3, if_neg (by omega), if_neg (by omega), wrap_id (s.f5 - 1) (by omega), wrap_id (s.f5 - 1 - n) (by omega), wrap_id (n - s.f4) (by omega), wrap_id (n - s.f4 - 1) (by omega)]
      unfold mn
      congr 1
      split <;> omega
theorem room_bounds {s : Stp} {n : Int} (hs : rightP s) (h0 : 0 ≤ n) (h1 : n ≤ 1048576) : 0 ≤ roomN s n ∧ roomN s n ≤ 1048576 := by
  unfold rightP at hs
  unfold roomN
  split
  · omega
  · split <;> omega
end Go.Proofs.YtadojakbfpdjjaaDoor.Px
