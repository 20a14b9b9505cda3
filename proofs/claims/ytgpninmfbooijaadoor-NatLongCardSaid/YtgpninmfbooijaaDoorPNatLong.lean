/-
  NatLong in plain numbers: a product of powers of 2^32 is too long exactly if it would have more than 1024 limbs.
-/
import Derived.Test.YtgpninmfbooijaaDoorAwake
import Derived.Test.YtgpninmfbooijaaDoorPx15
namespace Go.Proofs.YtgpninmfbooijaaDoor.Px
open Go.RowKit Go.Proofs.YtgpninmfbooijaaDoorW.PrintWords Go.Proofs.YtgpninmfbooijaaDoorW.PrintLast Go.Proofs.YtgpninmfbooijaaDoorW.PrintMore Go.Proofs.YtgpninmfbooijaaDoor.Num

theorem shift_low (n : Nat) (q : List Int) {t : Nat} (h : t < n) : (List.replicate n 0 ++ q).getD t 0 = 0 := by
  rw [List.getD_eq_getElem?_getD, List.getElem?_append_left (by simp; omega), List.getElem?_replicate]
  rw [if_pos h]; rfl
theorem shift_high (n : Nat) (q : List Int) (t : Nat) : (List.replicate n 0 ++ q).getD (n + t) 0 = q.getD t 0 := by
  rw [List.getD_eq_getElem?_getD, List.getElem?_append_right (by simp), List.getD_eq_getElem?_getD, List.length_replicate, Nat.add_sub_cancel_left]

theorem long_l0 (i j : Nat) (hi : i ≤ 1023) (hj : j ≤ 1023) (q : List Int) : ∀ d t : Nat, t + d = i + j → Ev (fun k => letterbaglaw03_NatLong.l0 k (i : Int) (j : Int) (List.replicate (i + j) 0 ++ q) (t : Int)) true := by
  have hw : wrap64 ((i : Int) + (j : Int)) = ((i + j : Nat) : Int) := by rw [wrap_in (by omega) (by omega)]; omega
  intro d
  induction d with
  | zero =>
    intro t ht
    exact Ev.succ (g := fun _ => some true) (fun k => by rw [letterbaglaw03_NatLong.l0, hw, if_neg (by omega)]) (Ev.const _)
  | succ d ih =>
    intro t ht
    refine Ev.succ (fun k => ?_) (ih (t + 1) (by omega))
    rw [letterbaglaw03_NatLong.l0, hw, if_pos (by omega), if_pos (by omega), if_pos (by rw [List.length_append, List.length_replicate]; omega), rd_eq, shift_low _ _ (by omega), if_pos rfl, wrap_in (by omega) (by omega)]
    rfl

theorem long_two {w : Nat} (h0 : 0 < w) (h : w < 18446744073709551616) :
    (w / 4294967296 = 0 ∧ limbs w = [((w % 4294967296 : Nat) : Int)]) ∨ (w / 4294967296 ≠ 0 ∧ limbs w = [((w % 4294967296 : Nat) : Int), ((w / 4294967296 % 4294967296 : Nat) : Int)]) := by
  rw [limbs_pos h0]
  rcases Nat.eq_zero_or_pos (w / 4294967296) with hd | hd
  · left; rw [hd, limbs_zero]; exact ⟨rfl, rfl⟩
  · right; rw [limbs_pos hd, show w / 4294967296 / 4294967296 = 0 by omega, limbs_zero]; exact ⟨by omega, rfl⟩

theorem long_end {i j w L : Nat} (hi : i ≤ 1023) (hj : j ≤ 1023) (h0 : 0 < w) (h : w < 18446744073709551616) (hL : L = i + j + (limbs w).length) :
    Ev (fun k => letterbaglaw03_NatLong.j0 k (i : Int) (j : Int) (fitS (4294967296 ^ (i + j) * w)).1 (fitS (4294967296 ^ (i + j) * w)).2 (w : Int) (L : Int)) true := by
  have hw : wrap64 ((i : Int) + (j : Int)) = ((i + j : Nat) : Int) := by rw [wrap_in (by omega) (by omega)]; omega
  have hw1 : wrap64 (((i + j : Nat) : Int) + 1) = ((i + j + 1 : Nat) : Int) := by rw [wrap_in (by omega) (by omega)]; omega
  have hsh := limbs_shift (i + j) w (by omega)
  have hlen : (limbs (4294967296 ^ (i + j) * w)).length = L := by rw [hsh, List.length_append, List.length_replicate, hL]
  refine Ev.step ?_
  simp only [letterbaglaw03_NatLong.j0]
  unfold fitS
  rw [hlen]
  by_cases hl : L ≤ 1024
  · rw [if_pos hl, hsh]
    have fin : Ev (fun k => letterbaglaw03_NatLong.j1 k (i : Int) (j : Int) (List.replicate (i + j) 0 ++ limbs w) false) true := by
      refine Ev.step ?_
      simp only [letterbaglaw03_NatLong.j1]
      exact Ev.neg (by decide) (long_l0 i j hi hj _ (i + j) 0 (by omega))
    simp only [hw, hw1]
    have hll : ((List.replicate (i + j) (0 : Int) ++ limbs w).length : Int) = (L : Int) := by rw [List.length_append, List.length_replicate, hL]
    have r0 := shift_high (i + j) (limbs w) 0
    have r1 := shift_high (i + j) (limbs w) 1
    rw [Nat.add_zero] at r0
    have hm : ((w : Int)) % 4294967296 = ((w % 4294967296 : Nat) : Int) := by omega
    have hd : ((w : Int)) / 4294967296 % 4294967296 = ((w / 4294967296 % 4294967296 : Nat) : Int) := by omega
    rcases long_two h0 h with ⟨hz, hq⟩ | ⟨hz, hq⟩
    · have e : L = i + j + 1 := by rw [hL, hq]; rfl
      refine Ev.neg (by omega) (Ev.pos trivial (Ev.pos hll (Ev.pos (by omega) (Ev.pos (by rw [hll]; omega) (Ev.pos ?_ (Ev.neg (by omega) fin))))))
      rw [rd_eq, r0, hq, hm]; rfl
    · have e : L = i + j + 2 := by rw [hL, hq]; rfl
      refine Ev.neg (by omega) (Ev.pos trivial (Ev.pos hll (Ev.pos (by omega) (Ev.pos (by rw [hll]; omega) (Ev.pos ?_ (Ev.pos (by omega) (Ev.pos (by omega) (Ev.pos (by rw [hll]; omega) ?_))))))))
      · rw [rd_eq, r0, hq, hm]; rfl
      · rw [rd_eq, r1, hd]
        have : (limbs w).getD 1 0 = ((w / 4294967296 % 4294967296 : Nat) : Int) := by rw [hq]; rfl
        rw [this, bne_self_eq_false]
        exact fin
  · rw [if_neg hl]
    exact Ev.pos (by omega) (Ev.pos rfl (Ev.done rfl))

theorem long_w {i j : Nat} (hi : i ≤ 1023) (hj : j ≤ 1023) : wrap64 ((i : Int) + (j : Int)) = ((i + j : Nat) : Int) ∧ wrap64 (((i + j : Nat) : Int) + 1) = ((i + j + 1 : Nat) : Int) ∧ wrap64 (((i + j + 1 : Nat) : Int) + 1) = ((i + j + 2 : Nat) : Int) := by
  refine ⟨?_, ?_, ?_⟩
  · rw [wrap_in (by omega) (by omega)]; omega
  · rw [wrap_in (by omega) (by omega)]; omega
  · rw [wrap_in (by omega) (by omega)]; omega

theorem letterbaglaw03_NatLong.pure : letterbaglaw03_NatLong.Pure := by
  intro a0 a1 a2 a3 w0 w1 w2 w3
  obtain ⟨m, rfl⟩ := Int.eq_ofNat_of_zero_le (bounds_u16 w0).1
  obtain ⟨n, rfl⟩ := Int.eq_ofNat_of_zero_le (bounds_u16 w1).1
  obtain ⟨x', rfl⟩ := Int.eq_ofNat_of_zero_le (bounds_u32 w2).1
  obtain ⟨y', rfl⟩ := Int.eq_ofNat_of_zero_le (bounds_u32 w3).1
  have bm := (bounds_u16 w0).2
  have bn := (bounds_u16 w1).2
  have bx := (bounds_u32 w2).2
  have bz := (bounds_u32 w3).2
  have em : Int.tmod (wrap64 (m : Int)) 1024 = ((m % 1024 : Nat) : Int) := by rw [wrap_in (by omega) (by omega)]; exact (Int.ofNat_tmod m 1024).symm
  have en : Int.tmod (wrap64 (n : Int)) 1024 = ((n % 1024 : Nat) : Int) := by rw [wrap_in (by omega) (by omega)]; exact (Int.ofNat_tmod n 1024).symm
  have hi : m % 1024 ≤ 1023 := by omega
  have hj : n % 1024 ≤ 1023 := by omega
  obtain ⟨x, hx, x0, x1⟩ : ∃ x : Nat, mx (x' : Int) 1 = (x : Int) ∧ 0 < x ∧ x < 4294967296 := ⟨max x' 1, by unfold mx; split <;> omega, by omega, by omega⟩
  obtain ⟨y, hy, y0, y1⟩ : ∃ y : Nat, mx (y' : Int) 1 = (y : Int) ∧ 0 < y ∧ y < 4294967296 := ⟨max y' 1, by unfold mx; split <;> omega, by omega, by omega⟩
  have hp : x * y < 4294967296 * 4294967296 := Nat.mul_lt_mul'' x1 y1
  have hp0 : 0 < x * y := Nat.mul_pos x0 y0
  have one : ∀ {z : Nat}, 0 < z → z < 4294967296 → limbs z = [(z : Int)] := fun {z} z0 z1 => by
    rw [limbs_pos z0, show z / 4294967296 = 0 by omega, limbs_zero, Nat.mod_eq_of_lt z1]
  apply Ev.get
  unfold letterbaglaw03_NatLong.f
  simp only [em, en, hx, hy]
  generalize m % 1024 = i at *
  generalize n % 1024 = j at *
  have ux : IntKind.u64.wrap (x : Int) = x := u64_in (by omega) (by omega)
  have uy : IntKind.u64.wrap (y : Int) = y := u64_in (by omega) (by omega)
  have uw : IntKind.u64.wrap ((x : Int) * (y : Int)) = ((x * y : Nat) : Int) := by rw [← Int.natCast_mul]; exact u64_in (by omega) (by omega)
  simp only [ux, uy, uw]
  have ls : ∀ n : Nat, (List.replicate n (0 : Int)).length = n := fun n => by simp
  refine Ev.bind awake_ev (Ev.pos rfl (Ev.pos (by omega) (Ev.pos (by omega) (Ev.bind_eq rfl (Ev.bind_eq rfl (Ev.pos (by rw [ls]; simp; omega) (Ev.pos (by omega) (Ev.pos (by omega) (Ev.bind_eq rfl (Ev.bind_eq rfl (Ev.pos (by rw [ls]; simp; omega) ?_)))))))))))
  rw [Int.toNat_natCast, Int.toNat_natCast, ← one x0 x1, ← one y0 y1, ← limbs_shift i x (by omega), ← limbs_shift j y (by omega)]
  have sz : ∀ (i : Nat) {z : Nat}, i ≤ 1023 → z < 4294967296 → Sz 1024 (4294967296 ^ i * z) := fun i z hi hz => by
    have : Sz (i + 1) (4294967296 ^ i * z) := by
      show 4294967296 ^ i * z < 4294967296 ^ (i + 1)
      rw [Nat.pow_succ]
      exact Nat.mul_lt_mul_of_pos_left hz (Nat.pow_pos (by decide))
    exact this.le (by omega)
  have hm := Mul_n (sz i hi x1) (sz j hj y1)
  have e : ∀ P Q : Nat, P * x * (Q * y) = P * Q * (x * y) := fun P Q => Nat.mul_mul_mul_comm P x Q y
  rw [e, ← Nat.pow_add] at hm
  refine Ev.bind hm ?_
  obtain ⟨w1, w2, w3⟩ := long_w hi hj
  simp only [w1, w2, w3]
  rcases long_two hp0 hp with ⟨hz, hq⟩ | ⟨hz, hq⟩
  · exact Ev.neg (by omega) (long_end hi hj hp0 hp (by rw [hq]; rfl))
  · exact Ev.pos (by omega) (long_end hi hj hp0 hp (by rw [hq]; rfl))
end Go.Proofs.YtgpninmfbooijaaDoor.Px
