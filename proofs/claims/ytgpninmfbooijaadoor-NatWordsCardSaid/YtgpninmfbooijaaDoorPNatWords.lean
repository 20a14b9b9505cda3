/-
  NatWords in plain numbers: numbers of up to 64 bits are computed as words are.
-/
import Derived.Test.YtgpninmfbooijaaDoorAwake
import Derived.Test.YtgpninmfbooijaaDoorNTake
import Derived.Test.YtgpninmfbooijaaDoorPx21
namespace Go.Proofs.YtgpninmfbooijaaDoor.Px
open Go.RowKit Go.Proofs.YtgpninmfbooijaaDoorW.PrintWords Go.Proofs.YtgpninmfbooijaaDoorW.PrintLast Go.Proofs.YtgpninmfbooijaaDoorW.PrintMore Go.Proofs.YtgpninmfbooijaaDoor.Num

theorem shl_zero {x : Int} (h0 : 0 ≤ x) (h1 : x < 4294967296) : shl .u64 x (wrap64 (32 * 0)) = x := by
  rw [wrap_in (by omega) (by omega)]
  unfold shl
  rw [show min (32 * 0 : Int).toNat (IntKind.u64.bits) = 0 from rfl, Int.pow_zero, Int.mul_one]
  exact u64_in h0 (by omega)
theorem shl_one {x : Int} (h0 : 0 ≤ x) (h1 : x < 4294967296) : shl .u64 x (wrap64 (32 * 1)) = x * 4294967296 := by
  rw [wrap_in (by omega) (by omega)]
  unfold shl
  rw [show min (32 * 1 : Int).toNat (IntKind.u64.bits) = 32 from rfl]
  exact u64_in (x := x * 4294967296) (by omega) (by omega)
theorem or_zero {x : Int} (h0 : 0 ≤ x) (h1 : x < 4294967296) : Go.bits .or .u64 0 x = x := by
  have := or64 0 x (by omega) (by omega) h0 h1
  rw [Int.zero_mul, Int.zero_add] at this
  exact this

theorem Uint_n {n : Nat} (h : n < 18446744073709551616) : Ev (fun k => nat_Uint.f k (limbs n)) ((n : Int), true) := by
  have h2 : Sz 2 n := Sz.small h
  have hl := h2.len
  unfold nat_Uint.f
  refine Ev.neg (by omega) (Ev.bind_eq (Right_n (h2.le (by omega))) (Ev.step ?_))
  simp only [nat_Uint.j0]
  refine Ev.neg (by decide) ?_
  rcases Nat.eq_zero_or_pos n with rfl | hp
  · rw [limbs_zero]
    exact Ev.succ (g := fun _ => some (0, true)) (fun k => by rw [nat_Uint.l0, if_neg (by simp)]) (Ev.const _)
  · rw [limbs_pos hp]
    have a0 : (0 : Int) ≤ ((n % 4294967296 : Nat) : Int) := by omega
    have a1 : ((n % 4294967296 : Nat) : Int) < 4294967296 := by omega
    generalize hA : ((n % 4294967296 : Nat) : Int) = A at *
    rcases Nat.eq_zero_or_pos (n / 4294967296) with hd | hd
    · rw [hd, limbs_zero]
      refine Ev.succ (g := fun k => nat_Uint.l0 k A [A] 1 1) (fun k => ?_) ?_
      · rw [nat_Uint.l0, if_pos (by simp), if_pos (by omega), if_pos (by simp), if_pos (by rw [wrap_in (by omega) (by omega)]; omega)]
        rw [show rd [A] 0 = A from rfl, u64_in a0 (by omega), shl_zero a0 a1, or_zero a0 a1, wrap_in (by omega) (by omega)]
        rfl
      · refine Ev.succ (g := fun _ => some (A, true)) (fun k => by rw [nat_Uint.l0, if_neg (by omega)]) (Ev.done ?_)
        rw [show A = (n : Int) by omega]
    · rw [limbs_pos hd, show n / 4294967296 / 4294967296 = 0 by omega, limbs_zero]
      have b0 : (0 : Int) ≤ ((n / 4294967296 % 4294967296 : Nat) : Int) := by omega
      have b1 : ((n / 4294967296 % 4294967296 : Nat) : Int) < 4294967296 := by omega
      generalize hB : ((n / 4294967296 % 4294967296 : Nat) : Int) = B at *
      refine Ev.succ (g := fun k => nat_Uint.l0 k A [A, B] 2 1) (fun k => ?_) (Ev.succ (g := fun k => nat_Uint.l0 k (B * 4294967296 + A) [A, B] 2 2) (fun k => ?_) ?_)
      · rw [nat_Uint.l0, if_pos (by simp), if_pos (by omega), if_pos (by simp), if_pos (by rw [wrap_in (by omega) (by omega)]; omega)]
        rw [show rd [A, B] 0 = A from rfl, u64_in a0 (by omega), shl_zero a0 a1, or_zero a0 a1, wrap_in (by omega) (by omega)]
        rfl
      · rw [nat_Uint.l0, if_pos (by omega), if_pos (by omega), if_pos (by simp), if_pos (by rw [wrap_in (by omega) (by omega)]; omega)]
        rw [show rd [A, B] 1 = B from rfl, u64_in b0 (by omega), shl_one b0 b1, or64' B A b0 b1 a0 a1, wrap_in (by omega) (by omega)]
        rfl
      · refine Ev.succ (g := fun _ => some (B * 4294967296 + A, true)) (fun k => by rw [nat_Uint.l0, if_neg (by omega)]) (Ev.done ?_)
        rw [show B * 4294967296 + A = (n : Int) by omega]

theorem words_two {x y : Nat} (hx : x < 18446744073709551616) (hy : y < 18446744073709551616) : Ev (fun k => letterbaglaw03_NatWords.j2 k (x : Int) (y : Int) (limbs x) (limbs y) false) true := by
  have sx : Sz 1024 x := (Sz.small hx).le (by omega)
  have sy : Sz 1024 y := (Sz.small hy).le (by omega)
  refine Ev.step ?_
  simp only [letterbaglaw03_NatWords.j2]
  refine Ev.neg (by decide) ?_
  by_cases h : y = 0
  · exact Ev.pos (by omega) (Ev.const _)
  · have hd : x / y ≤ x := Nat.div_le_self x y
    have hm : x % y ≤ x := Nat.mod_le x y
    refine Ev.neg (by omega) (Ev.bind (DivMod_ok sx sy h) (Ev.bind (Uint_n (by omega)) (Ev.bind (Uint_n (by omega)) ?_)))
    refine Ev.pos rfl (Ev.pos rfl (Ev.pos rfl (Ev.pos ?_ (Ev.done ?_))))
    · rw [← Int.ofNat_tdiv]
      generalize x / y = q at *
      rw [u64_in (by omega) (by omega)]
    · rw [← Int.ofNat_tmod]
      exact beq_self_eq_true _

theorem words_one {x y : Nat} (hx : x < 18446744073709551616) (hy : y < 18446744073709551616) : Ev (fun k => letterbaglaw03_NatWords.j1 k (x : Int) (y : Int) (limbs x) (limbs y) false) true := by
  have sx : Sz 1024 x := (Sz.small hx).le (by omega)
  have sy : Sz 1024 y := (Sz.small hy).le (by omega)
  refine Ev.step ?_
  simp only [letterbaglaw03_NatWords.j1]
  refine Ev.neg (by decide) (Ev.bind (Cmp_n sx sy) (Ev.pos rfl ?_))
  have e1 : (decide (cmpN x y < 0) != decide ((x : Int) < (y : Int))) = false := by
    unfold cmpN
    rcases Nat.lt_trichotomy x y with h | h | h
    · rw [if_pos h, decide_eq_true (show (x : Int) < y by omega)]; rfl
    · rw [if_neg (by omega), if_neg (by omega), decide_eq_false (show ¬ (x : Int) < y by omega)]; rfl
    · rw [if_neg (by omega), if_pos h, decide_eq_false (show ¬ (x : Int) < y by omega)]; rfl
  have e2 : ((cmpN x y == 0) != ((x : Int) == (y : Int))) = false := by
    unfold cmpN
    rcases Nat.lt_trichotomy x y with h | h | h
    · rw [if_pos h, beq_false_of_ne (show (x : Int) ≠ y by omega)]; rfl
    · subst h
      rw [if_neg (by omega), if_neg (by omega)]; simp
    · rw [if_neg (by omega), if_pos h, beq_false_of_ne (show (x : Int) ≠ y by omega)]; rfl
  rw [e1, e2]
  exact Ev.neg (by decide) (words_two hx hy)

theorem words_zero {x y : Nat} (hx : x < 18446744073709551616) (hy : y < 18446744073709551616) : Ev (fun k => letterbaglaw03_NatWords.j0 k (x : Int) (y : Int) (limbs x) (limbs y) false) true := by
  have hp : (x / 4294967296) * (y / 4294967296) < 4294967296 * 4294967296 := Nat.mul_lt_mul'' (by omega) (by omega)
  have sm : ∀ {n : Nat}, n < 18446744073709551616 → Sz 1024 n := fun h => (Sz.small h).le (by omega)
  have c2 : ∀ n : Nat, (n : Int) / 2 = ((n / 2 : Nat) : Int) := fun n => by omega
  have c3 : ∀ n : Nat, (n : Int) / 4294967296 = ((n / 4294967296 : Nat) : Int) := fun n => by omega
  refine Ev.step ?_
  simp only [letterbaglaw03_NatWords.j0]
  refine Ev.neg (by decide) ?_
  rw [c2 x, c2 y, c3 x, c3 y]
  generalize hpq : x / 4294967296 * (y / 4294967296) = q at *
  refine Ev.bind (Of_n (by omega)) (Ev.bind (Of_n (by omega)) (Ev.bind_eq (Add_ok (sm (by omega)) (sm (by omega)) (sm (by omega))) (Ev.bind (Of_n (by omega)) (Ev.bind (Of_n (by omega)) (Ev.bind (Mul_ok (sm (by omega)) (sm (by omega)) (sm (by omega))) (Ev.bind (Uint_n (by omega)) (Ev.bind (Uint_n (by omega)) ?_)))))))
  refine Ev.pos (by simp [wrap0]) (Ev.pos rfl (Ev.pos rfl (Ev.pos ?_ ?_)))
  · rw [u64_in (by omega) (by omega)]; omega
  · rw [← Int.natCast_mul, hpq, u64_in (by omega) (by omega), bne_self_eq_false]
    exact words_one hx hy

theorem letterbaglaw03_NatWords.pure : letterbaglaw03_NatWords.Pure := by
  intro a0 a1 w0 w1
  obtain ⟨x, rfl⟩ := Int.eq_ofNat_of_zero_le (bounds_u64 w0).1
  obtain ⟨y, rfl⟩ := Int.eq_ofNat_of_zero_le (bounds_u64 w1).1
  have hx : x < 18446744073709551616 := by have := (bounds_u64 w0).2; omega
  have hy : y < 18446744073709551616 := by have := (bounds_u64 w1).2; omega
  have h2 : Sz 2 x := Sz.small hx
  have hl := h2.len
  apply Ev.get
  unfold letterbaglaw03_NatWords.f
  refine Ev.bind awake_ev (Ev.pos rfl (Ev.bind (Of_n hx) (Ev.bind (Of_n hy) (Ev.bind (Uint_n hx) ?_))))
  refine Ev.pos rfl (Ev.pos rfl (Ev.bind_eq (Right_n (h2.le (by omega))) (Ev.pos rfl ?_)))
  rw [decide_eq_false (show ¬ ((limbs x).length : Int) > 2 by omega)]
  exact words_zero hx hy
end Go.Proofs.YtgpninmfbooijaaDoor.Px
