/-
  What the printed functions of nat come to, in plain words: Right, trim, fit, cmp.
-/
import Derived.Test.YtgpninmfbooijaaDoorPx1
import Derived.Test.YtgpninmfbooijaaDoorPx2
import Derived.Test.YtgpninmfbooijaaDoorNum
namespace Go.Proofs.YtgpninmfbooijaaDoor.Px
open Go.RowKit Go.Proofs.YtgpninmfbooijaaDoorW.PrintWords Go.Proofs.YtgpninmfbooijaaDoorW.PrintLast Go.Proofs.YtgpninmfbooijaaDoorW.PrintMore Go.Proofs.YtgpninmfbooijaaDoor.Num

theorem wrap_in {x : Int} (h0 : -9223372036854775808 ≤ x) (h1 : x ≤ 9223372036854775807) : wrap64 x = x := by unfold wrap64; omega

/-- Right limbs. -/
def Rt (l : List Int) : Prop := l.length ≤ 1024 ∧ Tight l

theorem rd_eq (l : List Int) (i : Nat) : rd l (i : Int) = l.getD i 0 := by unfold rd; simp

theorem right_f (l : List Int) : ∃ b, nat_Right.f l = some b ∧ (b = true ↔ Rt l) := by
  unfold nat_Right.f
  by_cases h1 : (l.length : Int) ≤ 1024
  · rw [if_pos h1]
    by_cases h2 : (l.length : Int) = 0
    · rw [if_pos h2]
      refine ⟨_, rfl, ?_⟩
      have : l = [] := List.eq_nil_of_length_eq_zero (by omega)
      subst this
      simp [Rt, Tight.nil]
    · rw [if_neg h2]
      have hw : wrap64 ((l.length : Int) - 1) = ((l.length - 1 : Nat) : Int) := by rw [wrap_in (by omega) (by omega)]; omega
      rw [hw, if_pos (by omega), if_pos (by omega)]
      refine ⟨_, rfl, ?_⟩
      rw [rd_eq]
      simp only [bne_iff_ne, ne_eq]
      constructor
      · intro h
        exact ⟨by omega, fun n hn => by have : l.length - 1 = n := by omega
                                        rw [this] at h; exact h⟩
      · rintro ⟨_, ht⟩
        exact ht _ (by omega)
  · rw [if_neg h1]
    refine ⟨_, rfl, ?_⟩
    simp only [Bool.false_eq_true, false_iff, Rt]
    omega

theorem right_yes {l : List Int} (h : Rt l) : nat_Right.f l = some true := by
  obtain ⟨b, e, i⟩ := right_f l
  rw [e, i.2 h]
theorem right_no {l : List Int} (h : ¬ Rt l) : nat_Right.f l = some false := by
  obtain ⟨b, e, i⟩ := right_f l
  cases b with
  | false => exact e
  | true => exact absurd (i.1 rfl) h

theorem trim_l0 (d : Nat) : ∀ (k : Nat) (l : List Int), l.length = d → d < k → d ≤ 9223372036854775807 →
    ∃ m, nat_trim.l0 k l = some (l.take m) ∧ m ≤ l.length ∧ (∀ j, m ≤ j → j < l.length → l.getD j 0 = 0) ∧ (0 < m → l.getD (m - 1) 0 ≠ 0) := by
  induction d with
  | zero =>
    intro k l hl hk _
    obtain ⟨k, rfl⟩ : ∃ m, k = m + 1 := ⟨k - 1, by omega⟩
    refine ⟨0, ?_, by omega, fun j _ _ => by omega, fun h => by omega⟩
    simp only [nat_trim.l0]
    rw [if_neg (by omega)]
    rw [List.eq_nil_of_length_eq_zero hl]; rfl
  | succ d ih =>
    intro k l hl hk hm
    obtain ⟨k, rfl⟩ : ∃ m, k = m + 1 := ⟨k - 1, by omega⟩
    have hw : wrap64 ((l.length : Int) - 1) = ((d : Nat) : Int) := by rw [wrap_in (by omega) (by omega)]; omega
    simp only [nat_trim.l0]
    rw [hw, if_pos (by omega), if_pos (by omega), if_pos (by omega), rd_eq]
    by_cases h0 : l.getD d 0 = 0
    · rw [if_pos h0, if_pos (by omega)]
      obtain ⟨m, e, h1, h2, h3⟩ := ih k (l.take d) (by rw [List.length_take]; omega) (by omega) (by omega)
      simp only [Int.toNat_natCast]
      rw [List.length_take] at h1 h2
      have hg : ∀ j, j < d → (l.take d).getD j 0 = l.getD j 0 := fun j hj => by
        simp [List.getD_eq_getElem?_getD, hj]
      refine ⟨m, ?_, by omega, fun j hj hl2 => ?_, fun hm0 => ?_⟩
      · rw [e, List.take_take, Nat.min_eq_left (by omega)]
      · rcases Nat.lt_or_ge j d with hjd | hjd
        · rw [← hg j hjd]; exact h2 j hj (by omega)
        · have : j = d := by omega
          rw [this]; exact h0
      · rw [← hg (m - 1) (by omega)]; exact h3 hm0
    · rw [if_neg h0]
      refine ⟨l.length, by rw [List.take_length], Nat.le_refl _, fun j _ _ => by omega, fun _ => ?_⟩
      have : l.length - 1 = d := by omega
      rw [this]; exact h0

/-- trim: the limbs of the value. -/
theorem trim_f {l : List Int} (h : Lim l) {k : Nat} (hk : l.length < k) (hm : l.length ≤ 9223372036854775807) : nat_trim.f k l = some (limbs (val l).toNat) := by
  unfold nat_trim.f
  obtain ⟨m, e, h1, h2, h3⟩ := trim_l0 l.length k l rfl hk hm
  rw [e, trim_limbs h m h1 h2 h3]

/-- A result of limited length. -/
def fitS (n : Nat) : List Int × Int := if (limbs n).length ≤ 1024 then (limbs n, 0) else ([], 3)

theorem fit_f {l : List Int} (h : Lim l) {k : Nat} (hk : l.length < k) (hm : l.length ≤ 9223372036854775807) : nat_fit.f k l = some (fitS (val l).toNat) := by
  unfold nat_fit.f
  rw [trim_f h hk hm]
  simp only [Option.bind_some, fitS]
  by_cases hc : (limbs (val l).toNat).length ≤ 1024
  · rw [if_neg (by omega), if_pos hc]
  · rw [if_pos (by omega), if_neg hc]

theorem rt_eq {l : List Int} (h : Lim l) (hr : Rt l) : l = limbs (val l).toNat := limbs_of h hr.2
theorem rt_limbs {n : Nat} (h : (limbs n).length ≤ 1024) : Rt (limbs n) := ⟨h, (limbs_spec n).2.1⟩
end Go.Proofs.YtgpninmfbooijaaDoor.Px
