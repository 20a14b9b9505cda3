/-
  NatPowers in plain numbers: a power of a sum of exponents, and of a product.
-/
import Derived.Test.YtgpninmfbooijaaDoorAwake
import Derived.Test.YtgpninmfbooijaaDoorPxPow
namespace Go.Proofs.YtgpninmfbooijaaDoor.Px
open Go.RowKit Go.Proofs.YtgpninmfbooijaaDoorW.PrintWords Go.Proofs.YtgpninmfbooijaaDoorW.PrintLast Go.Proofs.YtgpninmfbooijaaDoorW.PrintMore Go.Proofs.YtgpninmfbooijaaDoor.Num

theorem sz_pow {k n : Nat} (h : Sz k n) : ∀ m : Nat, Sz (k * m + 1) (n ^ m)
  | 0 => (Sz.of (k := 1) (by rw [Nat.pow_zero, limbs_pos (by decide), show 1 / 4294967296 = 0 from rfl, limbs_zero]; simp)).le (by omega)
  | m + 1 => by
    rw [Nat.pow_succ, Nat.mul_succ]
    exact ((sz_pow h m).mul h).le (by omega)

theorem letterbaglaw03_NatPowers.pure : letterbaglaw03_NatPowers.Pure := by
  intro l0 l1 a2 a3 _ _ w0 _ _ w1 w2 w3
  obtain ⟨a, ta, ea⟩ := number_n (lim_of w0) 8 8 rfl (by omega)
  obtain ⟨b, tb, eb⟩ := number_n (lim_of w1) 8 8 rfl (by omega)
  obtain ⟨m, rfl⟩ := Int.eq_ofNat_of_zero_le (bounds_u8 w2).1
  obtain ⟨n, rfl⟩ := Int.eq_ofNat_of_zero_le (bounds_u8 w3).1
  have em : wrap64 (Int.tmod (m : Int) 21) = ((m % 21 : Nat) : Int) := by rw [show Int.tmod (m : Int) 21 = ((m % 21 : Nat) : Int) from (Int.ofNat_tmod m 21).symm]; exact wrap_in (by omega) (by omega)
  have en : wrap64 (Int.tmod (n : Int) 21) = ((n % 21 : Nat) : Int) := by rw [show Int.tmod (n : Int) 21 = ((n % 21 : Nat) : Int) from (Int.ofNat_tmod n 21).symm]; exact wrap_in (by omega) (by omega)
  have hi : m % 21 ≤ 20 := by omega
  have hj : n % 21 ≤ 20 := by omega
  apply Ev.get
  unfold letterbaglaw03_NatPowers.f
  simp only [em, en]
  generalize m % 21 = i at *
  generalize n % 21 = j at *
  have eij : wrap64 ((i : Int) + (j : Int)) = ((i + j : Nat) : Int) := by rw [wrap_in (by omega) (by omega)]; omega
  simp only [eij]
  have sa : Sz 1024 a := ta.le (by omega)
  have sb : Sz 1024 b := tb.le (by omega)
  have tab : Sz 16 (a * b) := ta.mul tb
  have sab : Sz 1024 (a * b) := tab.le (by omega)
  have pi : Sz 1024 (a ^ i) := (sz_pow ta i).le (by omega)
  have pj : Sz 1024 (a ^ j) := (sz_pow ta j).le (by omega)
  have pij : Sz 1024 (a ^ (i + j)) := (sz_pow ta (i + j)).le (by omega)
  have bi : Sz 1024 (b ^ i) := (sz_pow tb i).le (by omega)
  have abi : Sz 1024 ((a * b) ^ i) := (sz_pow tab i).le (by omega)
  have e1 : a ^ i * a ^ j = a ^ (i + j) := (Nat.pow_add a i j).symm
  have e2 : a ^ i * b ^ i = (a * b) ^ i := (Nat.mul_pow a b i).symm
  refine Ev.bind awake_ev (Ev.pos rfl (Ev.bind ea (Ev.bind eb ?_)))
  refine Ev.bind (Pow_ok sa pi (by omega)) (Ev.bind (Pow_ok sa pj (by omega)) (Ev.bind (Mul_ok pi pj (by rw [e1]; exact pij)) (Ev.bind (Pow_ok sa pij (by omega)) ?_)))
  refine Ev.pos (by simp [wrap0]) (Ev.bind (same_n (by rw [e1]; exact pij)) ?_)
  rw [decide_eq_true e1]
  refine Ev.step ?_
  simp only [letterbaglaw03_NatPowers.j0]
  refine Ev.neg (by decide) ?_
  refine Ev.bind (Mul_ok sa sb sab) (Ev.bind (Pow_ok sab abi (by omega)) (Ev.bind (Pow_ok sb bi (by omega)) (Ev.bind (Mul_ok pi bi (by rw [e2]; exact abi)) ?_)))
  refine Ev.pos (by simp [wrap0]) (Ev.bind (same_n abi) (Ev.done ?_))
  exact decide_eq_true e2.symm
end Go.Proofs.YtgpninmfbooijaaDoor.Px
