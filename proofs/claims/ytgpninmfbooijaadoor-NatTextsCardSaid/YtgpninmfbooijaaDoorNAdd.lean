/-
  nat.Add: the sum of two right numbers.
-/
import Derived.Test.YtgpninmfbooijaaDoorNPure
import Derived.Test.YtgpninmfbooijaaDoorNCarry
import Derived.Test.YtgpninmfbooijaaDoorNWords
import Derived.IntWalk
namespace Go.Proofs.YtgpninmfbooijaaDoor.Px
open Go.RowKit Go.Proofs.YtgpninmfbooijaaDoorW.PrintWords Go.Proofs.YtgpninmfbooijaaDoorW.PrintLast Go.Proofs.YtgpninmfbooijaaDoorW.PrintMore Go.Proofs.YtgpninmfbooijaaDoor.Num

/-- What holds of the loop's state. -/
structure AddInv (x y L : List Int) (n k : Nat) (c : Int) : Prop where
  len : L.length = n
  lim : Lim L
  c0 : 0 ≤ c
  c1 : c ≤ 1
  eq : val (L.take k) + BB ^ k * c = val (x.take k) + val (y.take k)

theorem AddInv.start (x y : List Int) (n : Nat) : AddInv x y (List.replicate n 0) n 0 0 :=
  ⟨by simp, Lim.replicate n, Int.le_refl _, by omega, by simp [val]⟩

theorem AddInv.step {x y L : List Int} {n k : Nat} {c : Int} (h : AddInv x y L n k c) (hx : Lim x) (hy : Lim y) (hk : k < n) :
    AddInv x y (L.set k ((c + (x.getD k 0 + y.getD k 0)) % 4294967296)) n (k + 1) ((c + (x.getD k 0 + y.getD k 0)) / 4294967296) := by
  have hc := add_carry hx hy k h.c0 h.c1
  have he := emod_BB (c + (x.getD k 0 + y.getD k 0))
  have hs := add_step (k := k) (by rw [h.len]; exact hk) h.eq
  simp only [BB_eq] at hc he hs
  exact ⟨by simp [h.len], h.lim.set _ (by rw [BB_eq]; exact he), hc.1, hc.2, by simp only [BB_eq]; exact hs⟩

theorem AddInv.done {x y L : List Int} {n : Nat} {c : Int} (h : AddInv x y L n n c) (hx : Lim x) (hy : Lim y) (hxn : x.length + 1 = n) (hyn : y.length ≤ x.length) : val L = val x + val y := by
  have e := h.eq
  rw [List.take_of_length_le (by rw [h.len]; exact Nat.le_refl _), List.take_of_length_le (by omega), List.take_of_length_le (by omega)] at e
  have h0 := val_nonneg h.lim
  have h1 := val_lt hx
  have h2 := val_lt hy
  have h3 : BB ^ y.length ≤ BB ^ x.length := by
    have e : BB ^ x.length = BB ^ y.length * BB ^ (x.length - y.length) := by rw [← Int.pow_add]; congr 1; omega
    rw [e]
    have := pow_pos (x.length - y.length)
    have : BB ^ y.length * 1 ≤ BB ^ y.length * BB ^ (x.length - y.length) := Int.mul_le_mul_of_nonneg_left (by omega) (Int.le_of_lt (pow_pos _))
    omega
  have h5 := pow_pos x.length
  have h4 : BB ^ n = BB * BB ^ x.length := by rw [← hxn, pow_succ']
  have hc : c = 0 ∨ c = 1 := by have := h.c0; have := h.c1; omega
  rcases hc with rfl | rfl
  · omega
  · rw [h4, BB_eq] at e
    rw [BB_eq] at *
    omega

end Go.Proofs.YtgpninmfbooijaaDoor.Px
