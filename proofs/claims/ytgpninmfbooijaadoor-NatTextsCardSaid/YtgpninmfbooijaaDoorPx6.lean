/- Part of the printed proofs: contracts of functions, or words that they use, as this claim needs them. -/
import Derived.Test.YtgpninmfbooijaaDoorPx0
import Derived.Test.YtgpninmfbooijaaDoorPx1
import Derived.Test.YtgpninmfbooijaaDoorPx2
import Derived.Test.YtgpninmfbooijaaDoorPx5
namespace Go.Proofs.YtgpninmfbooijaaDoor.Px
open Go.RowKit Go.Proofs.YtgpninmfbooijaaDoorW.PrintWords Go.Proofs.YtgpninmfbooijaaDoorW.PrintLast Go.Proofs.YtgpninmfbooijaaDoorW.PrintMore
attribute [local go_sem] max2_int min2_int max_two min_two max_three min_three max_four min_four   -- for this text's walks alone
set_option linter.unusedVariables false
set_option linter.unusedSimpArgs false

noncomputable section
/-! ### nat_Pow: function 21 -/
mutual
def nat_Pow.j0 : Nat → List Int → Int → Bool → Option (List Int × Int)
  | 0, _, _, _ => none
  | k + 1, x0, x1, x18 => if x18 = true then (some (([] : List Int), 2)) else ((nat_Of.f k 1).bind fun t201 => (if (x0.length : Int) = 0 then (nat_Pow.j1 k x0 x1 t201 true) else (if (x0.length : Int) = 1 then (if 0 < (x0.length : Int) then (nat_Pow.j1 k x0 x1 t201 ((rd x0 0) == 1)) else (none)) else (nat_Pow.j1 k x0 x1 t201 false))))
def nat_Pow.j1 : Nat → List Int → Int → List Int → Bool → Option (List Int × Int)
  | 0, _, _, _, _ => none
  | k + 1, x0, x1, x6, x33 => if x33 = true then (nat_Pow.j2 k x0 (mn x1 1) x6) else (nat_Pow.j2 k x0 x1 x6)
def nat_Pow.j2 : Nat → List Int → Int → List Int → Option (List Int × Int)
  | 0, _, _, _ => none
  | k + 1, x0, x1, x6 => if x1 > 32768 then (some (([] : List Int), 3)) else (nat_Pow.l0 k x0 x1 x6 32768)
def nat_Pow.l0 : Nat → List Int → Int → List Int → Int → Option (List Int × Int)
  | 0, _, _, _, _ => none
  | k + 1, x0, x1, x6, x7 => if x7 > 0 then ((some (([x6, x0] : List (List Int)) : List (List Int))).bind fun y205 => (if x7 = 0 then (none) else (if 0 ≤ (wrap64 (1 + (Int.tmod (wrap64 (Int.tdiv x1 x7)) 2))) then (if (wrap64 (1 + (Int.tmod (wrap64 (Int.tdiv x1 x7)) 2))) ≤ (y205.length : Int) then ((some (y205.take ((wrap64 (1 + (Int.tmod (wrap64 (Int.tdiv x1 x7)) 2))) : Int).toNat : List (List Int))).bind fun y208 => (nat_Pow.l1 k x0 x1 x6 x7 y208 (y208.length : Int) 0)) else (none)) else (none)))) else (some (x6, 0))
def nat_Pow.l1 : Nat → List Int → Int → List Int → Int → List (List Int) → Int → Int → Option (List Int × Int)
  | 0, _, _, _, _, _, _, _ => none
  | k + 1, x0, x1, x6, x7, x50, x51, x52 => if x52 < x51 then (if 0 ≤ x52 then (if x52 < (x50.length : Int) then (if (wrap64 ((x6.length : Int) + ((rd_L1 x50 x52).length : Int))) > 1025 then (some (([] : List Int), 3)) else ((nat_mul.f k x6 (rd_L1 x50 x52)).bind fun t214 => ((nat_fit.f k t214).bind fun bt217 => (if bt217.2 = 0 then (nat_Pow.l1 k x0 x1 bt217.1 x7 x50 x51 (wrap64 (x52 + 1))) else (some (([] : List Int), bt217.2)))))) else (none)) else (none)) else (nat_Pow.l0 k x0 x1 x6 (wrap64 (Int.tdiv x7 2)))
end
def nat_Pow.f (k : Nat) (l0 : List Int) (a1 : Int) : Option (List Int × Int) := (nat_Right.f l0).bind fun t200 => (if t200 = true then (nat_Pow.j0 k l0 a1 (decide (a1 < 0))) else (nat_Pow.j0 k l0 a1 true))
theorem nat_Pow.mono_l : ∀ k, (∀ y0 y1 y2, LeO (nat_Pow.j0 k y0 y1 y2) (nat_Pow.j0 (k + 1) y0 y1 y2)) ∧ (∀ y0 y1 y2 y3, LeO (nat_Pow.j1 k y0 y1 y2 y3) (nat_Pow.j1 (k + 1) y0 y1 y2 y3)) ∧ (∀ y0 y1 y2, LeO (nat_Pow.j2 k y0 y1 y2) (nat_Pow.j2 (k + 1) y0 y1 y2)) ∧ (∀ y0 y1 y2 y3, LeO (nat_Pow.l0 k y0 y1 y2 y3) (nat_Pow.l0 (k + 1) y0 y1 y2 y3)) ∧ (∀ y0 y1 y2 y3 y4 y5 y6, LeO (nat_Pow.l1 k y0 y1 y2 y3 y4 y5 y6) (nat_Pow.l1 (k + 1) y0 y1 y2 y3 y4 y5 y6))
  | 0 => ⟨fun _ _ _ r h => by simp [nat_Pow.j0] at h, fun _ _ _ _ r h => by simp [nat_Pow.j1] at h, fun _ _ _ r h => by simp [nat_Pow.j2] at h, fun _ _ _ _ r h => by simp [nat_Pow.l0] at h, fun _ _ _ _ _ _ _ r h => by simp [nat_Pow.l1] at h⟩
  | k + 1 => by
    obtain ⟨ih0, ih1, ih2, ih3, ih4⟩ := nat_Pow.mono_l k
    refine ⟨?_, ?_, ?_, ?_, ?_⟩
    · intro y0 y1 y2
      unfold nat_Pow.j0
      repeat' first
      | (with_reducible exact ih0 _ _ _)
      | (with_reducible exact ih1 _ _ _ _)
      | (with_reducible exact ih2 _ _ _)
      | (with_reducible exact ih3 _ _ _ _)
      | (with_reducible exact ih4 _ _ _ _ _ _ _)
      | (with_reducible exact nat_Of.mono _ _)
      | (with_reducible exact nat_fit.mono _ _)
      | (with_reducible exact nat_mul.mono _ _ _)
      | (with_reducible exact LeO.refl _)
      | (with_reducible exact LeO.none _)
      | (with_reducible refine LeO.ite ?_ ?_)
      | (with_reducible refine LeO.bind ?_ (fun _ => ?_))
      | exact ih0 _ _ _
      | exact ih1 _ _ _ _
      | exact ih2 _ _ _
      | exact ih3 _ _ _ _
      | exact ih4 _ _ _ _ _ _ _
      | exact nat_Of.mono _ _
      | exact nat_fit.mono _ _
      | exact nat_mul.mono _ _ _
      | exact LeO.none _
      | refine LeO.ite ?_ ?_
      | refine LeO.bind ?_ (fun _ => ?_)
    · intro y0 y1 y2 y3
      unfold nat_Pow.j1
      repeat' first
      | (with_reducible exact ih0 _ _ _)
      | (with_reducible exact ih1 _ _ _ _)
      | (with_reducible exact ih2 _ _ _)
      | (with_reducible exact ih3 _ _ _ _)
      | (with_reducible exact ih4 _ _ _ _ _ _ _)
      | (with_reducible exact nat_Of.mono _ _)
      | (with_reducible exact nat_fit.mono _ _)
      | (with_reducible exact nat_mul.mono _ _ _)
      | (with_reducible exact LeO.refl _)
      | (with_reducible exact LeO.none _)
      | (with_reducible refine LeO.ite ?_ ?_)
      | (with_reducible refine LeO.bind ?_ (fun _ => ?_))
      | exact ih0 _ _ _
      | exact ih1 _ _ _ _
      | exact ih2 _ _ _
      | exact ih3 _ _ _ _
      | exact ih4 _ _ _ _ _ _ _
      | exact nat_Of.mono _ _
      | exact nat_fit.mono _ _
      | exact nat_mul.mono _ _ _
      | exact LeO.none _
      | refine LeO.ite ?_ ?_
      | refine LeO.bind ?_ (fun _ => ?_)
    · intro y0 y1 y2
      unfold nat_Pow.j2
      repeat' first
      | (with_reducible exact ih0 _ _ _)
      | (with_reducible exact ih1 _ _ _ _)
      | (with_reducible exact ih2 _ _ _)
      | (with_reducible exact ih3 _ _ _ _)
      | (with_reducible exact ih4 _ _ _ _ _ _ _)
      | (with_reducible exact nat_Of.mono _ _)
      | (with_reducible exact nat_fit.mono _ _)
      | (with_reducible exact nat_mul.mono _ _ _)
      | (with_reducible exact LeO.refl _)
      | (with_reducible exact LeO.none _)
      | (with_reducible refine LeO.ite ?_ ?_)
      | (with_reducible refine LeO.bind ?_ (fun _ => ?_))
      | exact ih0 _ _ _
      | exact ih1 _ _ _ _
      | exact ih2 _ _ _
      | exact ih3 _ _ _ _
      | exact ih4 _ _ _ _ _ _ _
      | exact nat_Of.mono _ _
      | exact nat_fit.mono _ _
      | exact nat_mul.mono _ _ _
      | exact LeO.none _
      | refine LeO.ite ?_ ?_
      | refine LeO.bind ?_ (fun _ => ?_)
    · intro y0 y1 y2 y3
      unfold nat_Pow.l0
      repeat' first
      | (with_reducible exact ih0 _ _ _)
      | (with_reducible exact ih1 _ _ _ _)
      | (with_reducible exact ih2 _ _ _)
      | (with_reducible exact ih3 _ _ _ _)
      | (with_reducible exact ih4 _ _ _ _ _ _ _)
      | (with_reducible exact nat_Of.mono _ _)
      | (with_reducible exact nat_fit.mono _ _)
      | (with_reducible exact nat_mul.mono _ _ _)
      | (with_reducible exact LeO.refl _)
      | (with_reducible exact LeO.none _)
      | (with_reducible refine LeO.ite ?_ ?_)
      | (with_reducible refine LeO.bind ?_ (fun _ => ?_))
      | exact ih0 _ _ _
      | exact ih1 _ _ _ _
      | exact ih2 _ _ _
      | exact ih3 _ _ _ _
      | exact ih4 _ _ _ _ _ _ _
      | exact nat_Of.mono _ _
      | exact nat_fit.mono _ _
      | exact nat_mul.mono _ _ _
      | exact LeO.none _
      | refine LeO.ite ?_ ?_
      | refine LeO.bind ?_ (fun _ => ?_)
    · intro y0 y1 y2 y3 y4 y5 y6
      unfold nat_Pow.l1
      repeat' first
      | (with_reducible exact ih0 _ _ _)
      | (with_reducible exact ih1 _ _ _ _)
      | (with_reducible exact ih2 _ _ _)
      | (with_reducible exact ih3 _ _ _ _)
      | (with_reducible exact ih4 _ _ _ _ _ _ _)
      | (with_reducible exact nat_Of.mono _ _)
      | (with_reducible exact nat_fit.mono _ _)
      | (with_reducible exact nat_mul.mono _ _ _)
      | (with_reducible exact LeO.refl _)
      | (with_reducible exact LeO.none _)
      | (with_reducible refine LeO.ite ?_ ?_)
      | (with_reducible refine LeO.bind ?_ (fun _ => ?_))
      | exact ih0 _ _ _
      | exact ih1 _ _ _ _
      | exact ih2 _ _ _
      | exact ih3 _ _ _ _
      | exact ih4 _ _ _ _ _ _ _
      | exact nat_Of.mono _ _
      | exact nat_fit.mono _ _
      | exact nat_mul.mono _ _ _
      | exact LeO.none _
      | refine LeO.ite ?_ ?_
      | refine LeO.bind ?_ (fun _ => ?_)
theorem nat_Pow.mono : ∀ a0 a1 k, LeO (nat_Pow.f k a0 a1) (nat_Pow.f (k + 1) a0 a1) := by
  intro a0 a1 k
  obtain ⟨ih0, ih1, ih2, ih3, ih4⟩ := nat_Pow.mono_l k
  unfold nat_Pow.f
  repeat' first
      | (with_reducible exact ih0 _ _ _)
      | (with_reducible exact ih1 _ _ _ _)
      | (with_reducible exact ih2 _ _ _)
      | (with_reducible exact ih3 _ _ _ _)
      | (with_reducible exact ih4 _ _ _ _ _ _ _)
      | (with_reducible exact nat_Of.mono _ _)
      | (with_reducible exact nat_fit.mono _ _)
      | (with_reducible exact nat_mul.mono _ _ _)
      | (with_reducible exact LeO.refl _)
      | (with_reducible exact LeO.none _)
      | (with_reducible refine LeO.ite ?_ ?_)
      | (with_reducible refine LeO.bind ?_ (fun _ => ?_))
      | exact ih0 _ _ _
      | exact ih1 _ _ _ _
      | exact ih2 _ _ _
      | exact ih3 _ _ _ _
      | exact ih4 _ _ _ _ _ _ _
      | exact nat_Of.mono _ _
      | exact nat_fit.mono _ _
      | exact nat_mul.mono _ _ _
      | exact LeO.none _
      | refine LeO.ite ?_ ?_
      | refine LeO.bind ?_ (fun _ => ?_)
set_option maxHeartbeats 8000000 in
set_option maxRecDepth 100000 in
theorem nat_Pow.calls (k : Nat) (P0_ : Nat → Prop) (A0 : Option Addr) (c0 : Nat) (l0 : List Int) (a1 : Int) (r1 : List Int) (r2 : Int) (w : World) (hs0 : Kd.V (Kd.int .u32) 25 w w.heap.size (fun k_ => P0_ k_) (.slice A0 l0.length c0) l0) (h : nat_Pow.f k l0 a1 = some (r1, r2)) :
    Calls Tryd.prog 21 #[.slice A0 l0.length c0, .int .i64 a1] w fun e w' => ∃ v0_ : Value, e = .returned (.tuple #[v0_, .int .i64 r2]) ∧ Kd.V (Kd.int .u32) 25 w' w.heap.size (fun k_ => (P0_ k_ ∨ w.heap.size ≤ k_)) v0_ r1 ∧ Below w.heap.size w w' := by
  have HO0 := Aside0.mk (show Kd.V (Kd.int .u32) 25 w w.heap.size (fun k_ => (P0_ k_ ∨ w.heap.size ≤ k_)) (.slice A0 l0.length c0) l0 from Kd.V_mono hs0 (fun k_ hk => .inl hk))
  have HB := Aside0.mk (Below.refl w.heap.size w)
  have H : ((nat_Right.f l0).bind fun t200 => (if t200 = true then (nat_Pow.j0 k l0 a1 (decide (a1 < 0))) else (nat_Pow.j0 k l0 a1 true))) = some (r1, r2) := h
  clear h
  have HC3 := Aside0.mk H
  clear H
  go_enter Tryd.func21, Tryd.ntmps21
  go_upto_region 1 with (fail)
  go_cut [18] (fun v18 wc => ∃ (kq : Nat) (x18_2 : Bool), v18 = .bool x18_2 ∧ Aside0 (nat_Pow.j0 kq l0 a1 x18_2 = some (r1, r2)) ∧ Aside0 (kq ≤ k) ∧ Aside0 (Kd.V (Kd.int .u32) 25 wc w.heap.size (fun k_ => (P0_ k_ ∨ w.heap.size ≤ k_)) (.slice A0 l0.length c0) l0) ∧ Aside0 (Below w.heap.size w wc))
  case first =>
    have H := HC3.out
    clear HC3
    replace H := Option.bind_eq_some_iff.mp H
    obtain ⟨t200, A40, H⟩ := H
    replace H : (if t200 = true then (nat_Pow.j0 k l0 a1 (decide (a1 < 0))) else (nat_Pow.j0 k l0 a1 true)) = some (r1, r2) := H
    have A4 := Aside0.mk A40
    clear A40
    by_cases c5 : t200 = true
    · subst c5
      have H1 : (nat_Pow.j0 k l0 a1 (decide (a1 < 0))) = some (r1, r2) := by rw [if_pos rfl] at H; exact H
      clear H
      have H := H1
      clear H1
      have H' := Aside0.mk H
      clear H
      go_wp2_with (first | ((with_reducible refine gate_callee (f := 15) rfl ?_); refine goesL_ (some 13) rfl rfl Tryd.func15 (by kernel_rfl) rfl #[.slice A0 l0.length c0] rfl (by (try simp only [List.map_toArray, List.map_cons, List.map_nil]); first | done | rfl | (simp only [List.length_drop, List.length_take]; rfl)) ?_; (with_reducible refine (nat_Right.calls _ _ l0 true _ ?side1 ?side2 A4.out).mono ?_); (case side1 => repeat (first | exact (Kd.V_reads' HO0.out).2.2 | (with_reducible refine Kd.C_alloc ?_ _) | (with_reducible refine Kd.C_drewN ?_ _) | (with_reducible refine Kd.C_drew ?_))); (case side2 => exact (Kd.V_reads' HO0.out).2.1); rintro e w' ⟨rfl, ⟨nd, rfl⟩⟩; refine ⟨_, rfl, ?_⟩))
      go_meet
      case rel => exact ⟨_, (decide (a1 < 0)), (by first | rfl | (simp; done) | (simp [*]; done)), H', ⟨by first | omega | exact Nat.le_refl _⟩, ⟨by (with_reducible repeat (first | apply Kd.V_alloc | apply Kd.V_drewN | apply Kd.V_drew)); exact HO0.out⟩, ⟨by repeat (first | (with_reducible first | exact HB.out | apply below_alloc | apply pw_below_drewN | apply below_drew1) | exact HB.out)⟩⟩
    · replace c5 := Bool.eq_false_iff.mpr c5
      subst c5
      have H1 : (nat_Pow.j0 k l0 a1 true) = some (r1, r2) := by rw [if_neg (show ¬ (false = true) by decide)] at H; exact H
      clear H
      have H := H1
      clear H1
      have H' := Aside0.mk H
      clear H
      go_wp2_with (first | ((with_reducible refine gate_callee (f := 15) rfl ?_); refine goesL_ (some 13) rfl rfl Tryd.func15 (by kernel_rfl) rfl #[.slice A0 l0.length c0] rfl (by (try simp only [List.map_toArray, List.map_cons, List.map_nil]); first | done | rfl | (simp only [List.length_drop, List.length_take]; rfl)) ?_; (with_reducible refine (nat_Right.calls _ _ l0 false _ ?side1 ?side2 A4.out).mono ?_); (case side1 => repeat (first | exact (Kd.V_reads' HO0.out).2.2 | (with_reducible refine Kd.C_alloc ?_ _) | (with_reducible refine Kd.C_drewN ?_ _) | (with_reducible refine Kd.C_drew ?_))); (case side2 => exact (Kd.V_reads' HO0.out).2.1); rintro e w' ⟨rfl, ⟨nd, rfl⟩⟩; refine ⟨_, rfl, ?_⟩))
      go_meet
      case rel => exact ⟨_, (true), (by first | rfl | (simp; done) | (simp [*]; done)), H', ⟨by first | omega | exact Nat.le_refl _⟩, ⟨by (with_reducible repeat (first | apply Kd.V_alloc | apply Kd.V_drewN | apply Kd.V_drew)); exact HO0.out⟩, ⟨by repeat (first | (with_reducible first | exact HB.out | apply below_alloc | apply pw_below_drewN | apply below_drew1) | exact HB.out)⟩⟩
  case rest =>
    clear HC3
    try clear c1
    try clear c2
    try clear p2
    try clear c5
    try clear HO_0
    obtain ⟨kq, x18_2, rfl, HA, HJ2, HO_0, HB⟩ := hcut
    cases kq with
    | zero => exact absurd HA.out (by simp [nat_Pow.j0])
    | succ kj2 =>
      have H := HA.out
      clear HA
      simp only [nat_Pow.j0] at H
      by_cases c6 : x18_2 = true
      · subst c6
        have H1 : (some (([] : List Int), 2)) = some (r1, r2) := by rw [if_pos rfl] at H; exact H
        clear H
        have H := H1
        clear H1
        simp only [Option.some.injEq, Prod.mk.injEq] at H
        obtain ⟨rfl, rfl⟩ := H
        go_wp2
        go_ret2
        exact ⟨_, by first | rfl | (simp [errW_none, errW_some] <;> rfl) | (simp [*, errW_none, errW_some] <;> rfl), Kd.V_nil _ _ _ _ _, by repeat (first | (with_reducible first | exact HB.out | apply below_alloc | apply pw_below_drewN | apply below_drew1) | exact HB.out)⟩
      · replace c6 := Bool.eq_false_iff.mpr c6
        subst c6
        have H1 : ((nat_Of.f kj2 1).bind fun t201 => (if (l0.length : Int) = 0 then (nat_Pow.j1 kj2 l0 a1 t201 true) else (if (l0.length : Int) = 1 then (if 0 < (l0.length : Int) then (nat_Pow.j1 kj2 l0 a1 t201 ((rd l0 0) == 1)) else (none)) else (nat_Pow.j1 kj2 l0 a1 t201 false)))) = some (r1, r2) := by rw [if_neg (show ¬ (false = true) by decide)] at H; exact H
        clear H
        have H := H1
        clear H1
        replace H := Option.bind_eq_some_iff.mp H
        obtain ⟨t201, A70, H⟩ := H
        replace H : (if (l0.length : Int) = 0 then (nat_Pow.j1 kj2 l0 a1 t201 true) else (if (l0.length : Int) = 1 then (if 0 < (l0.length : Int) then (nat_Pow.j1 kj2 l0 a1 t201 ((rd l0 0) == 1)) else (none)) else (nat_Pow.j1 kj2 l0 a1 t201 false))) = some (r1, r2) := H
        have A7 := Aside0.mk A70
        clear A70
        have HC8 := Aside0.mk H
        clear H
        go_upto_region 4 with (first | ((with_reducible refine gate_callee (f := 26) rfl ?_); refine goesL_ (some 19) rfl rfl Tryd.func26 (by kernel_rfl) rfl #[.int .u64 1] rfl (by (try simp only [List.map_toArray, List.map_cons, List.map_nil]); first | done | rfl | (simp only [List.length_drop, List.length_take]; rfl)) ?_; (with_reducible refine (nat_Of.calls kj2 1 t201 _ A7.out).mono ?_); rintro e w9 ⟨v202, rfl, ho0, hb⟩; refine ⟨_, rfl, ?_⟩; have n0_ := Aside0.mk (Kd.V_below (by (with_reducible repeat (first | apply Kd.V_alloc | apply Kd.V_drewN | apply Kd.V_drew)); exact HO_0.out) hb); have n1_ := Aside0.mk (Kd.V_lower (Kd.V_mono (ok' := fun k_ => (P0_ k_ ∨ w.heap.size ≤ k_)) ho0 (fun k_ hk_ => (.inr (Nat.le_trans (below_size (by repeat (first | (with_reducible first | exact HB.out | apply below_alloc | apply pw_below_drewN | apply below_drew1) | exact HB.out))) hk_)))) (below_size (by repeat (first | (with_reducible first | exact HB.out | apply below_alloc | apply pw_below_drewN | apply below_drew1) | exact HB.out)))); have n2_ := Aside0.mk (below_step (by repeat (first | (with_reducible first | exact HB.out | apply below_alloc | apply pw_below_drewN | apply below_drew1) | exact HB.out)) hb); clear HO_0; clear HB; have HO_0 := n0_; have HO203 := n1_; have HB := n2_; clear n0_ n1_ n2_; (try clear hb); (try clear hb2); (try clear hk); (try clear hi); (try clear ho0)))
        (try simp only [Act.put, List.setIfInBounds_toArray, List.set_cons_zero, List.set_cons_succ])
        go_cut [33] (fun v33 wc => ∃ (kq : Nat) (x33_7 : Bool), v33 = .bool x33_7 ∧ Aside0 (nat_Pow.j1 kq l0 a1 t201 x33_7 = some (r1, r2)) ∧ Aside0 (kq ≤ kj2) ∧ Aside0 (Kd.V (Kd.int .u32) 25 wc w.heap.size (fun k_ => (P0_ k_ ∨ w.heap.size ≤ k_)) (.slice A0 l0.length c0) l0) ∧ Aside0 (Kd.V (Kd.int .u32) 25 wc w.heap.size (fun k_ => (P0_ k_ ∨ w.heap.size ≤ k_)) v202 t201) ∧ Aside0 (Below w.heap.size w wc))
        case first =>
          have H := HC8.out
          clear HC8
          by_cases c10 : (l0.length : Int) = 0
          · rw [if_pos c10] at H
            have c10b0 : ((l0.length : Int) == 0) = true := beq_iff_eq.mpr c10
            have c10b1 : ((l0.length : Int) != 0) = false := bne_eq_false_iff_eq.mpr c10
            clear c10
            (first | rw [c10b0] | (simp only [i64_w, i32_w]; rw [c10b0]) | skip)
            have H' := Aside0.mk H
            clear H
            go_wp2
            go_meet
            case rel => exact ⟨_, (true), (by first | rfl | (simp; done) | (simp [*]; done)), H', ⟨by have := HJ2.out; first | omega | exact Nat.le_refl _⟩, ⟨by (with_reducible repeat (first | apply Kd.V_alloc | apply Kd.V_drewN | apply Kd.V_drew)); exact HO_0.out⟩, ⟨by (with_reducible repeat (first | apply Kd.V_alloc | apply Kd.V_drewN | apply Kd.V_drew)); exact HO203.out⟩, ⟨by repeat (first | (with_reducible first | exact HB.out | apply below_alloc | apply pw_below_drewN | apply below_drew1) | exact HB.out)⟩⟩
          · rw [if_neg c10] at H
            have c10b0 : ((l0.length : Int) == 0) = false := beq_eq_false_iff_ne.mpr c10
            have c10b1 : ((l0.length : Int) != 0) = true := bne_iff_ne.mpr c10
            have c10b2 : ¬ (l0 = []) := fun h_ => c10 (by rw [h_]; rfl)
            (first | rw [c10b0] | (simp only [i64_w, i32_w]; rw [c10b0]) | skip)
            by_cases c11 : (l0.length : Int) = 1
            · rw [if_pos c11] at H
              have c11b0 : ((l0.length : Int) == 1) = true := beq_iff_eq.mpr c11
              have c11b1 : ((l0.length : Int) != 1) = false := bne_eq_false_iff_eq.mpr c11
              clear c11
              by_cases c12 : 0 < (l0.length : Int)
              · rw [if_pos c12] at H
                have c12b0 : decide (0 < (l0.length : Int)) = true := decide_eq_true c12
                have c12b1 : decide (0 < l0.length) = true := decide_eq_true (by omega)
                clear c12
                have H' := Aside0.mk H
                clear H
                have p204 : 0 ≤ (0 : Int) := (by omega)
                have q204 : 0 < (l0.length : Int) := of_decide_eq_true (by first | (with_reducible assumption) | assumption)
                obtain ⟨ad204, e204, hx204_0⟩ := Kd.at_int (Kd.V_reads' HO_0.out).2.2 0 p204 q204
                cases e204
                have qi204 : (0 < l0.length) = True := eq_true (by omega)
                (try rw [show ((0 : Int)).toNat = 0 from rfl] at hx204_0)
                (try rw [Addr.add_zero'] at hx204_0)
                replace p204 := eq_true p204
                replace q204 := eq_true q204
                go_wp2
                go_meet
                case rel => exact ⟨_, (((rd l0 0) == 1)), (by first | rfl | (simp; done) | (simp [*]; done)), H', ⟨by have := HJ2.out; first | omega | exact Nat.le_refl _⟩, ⟨by (with_reducible repeat (first | apply Kd.V_alloc | apply Kd.V_drewN | apply Kd.V_drew)); exact HO_0.out⟩, ⟨by (with_reducible repeat (first | apply Kd.V_alloc | apply Kd.V_drewN | apply Kd.V_drew)); exact HO203.out⟩, ⟨by repeat (first | (with_reducible first | exact HB.out | apply below_alloc | apply pw_below_drewN | apply below_drew1) | exact HB.out)⟩⟩
              · rw [if_neg c12] at H
                exact absurd H (by simp)
            · rw [if_neg c11] at H
              have c11b0 : ((l0.length : Int) == 1) = false := beq_eq_false_iff_ne.mpr c11
              have c11b1 : ((l0.length : Int) != 1) = true := bne_iff_ne.mpr c11
              have H' := Aside0.mk H
              clear H
              go_wp2
              go_meet
              case rel => exact ⟨_, (false), (by first | rfl | (simp; done) | (simp [*]; done)), H', ⟨by have := HJ2.out; first | omega | exact Nat.le_refl _⟩, ⟨by (with_reducible repeat (first | apply Kd.V_alloc | apply Kd.V_drewN | apply Kd.V_drew)); exact HO_0.out⟩, ⟨by (with_reducible repeat (first | apply Kd.V_alloc | apply Kd.V_drewN | apply Kd.V_drew)); exact HO203.out⟩, ⟨by repeat (first | (with_reducible first | exact HB.out | apply below_alloc | apply pw_below_drewN | apply below_drew1) | exact HB.out)⟩⟩
        case rest =>
          clear HC8
          try clear c1
          try clear c2
          try clear p2
          try clear q2
          try clear hx2
          try clear qi2
          try clear c5
          try clear c6
          try clear c10
          try clear c10b0
          try clear c10b1
          try clear c10b2
          try clear c11
          try clear c11b0
          try clear c11b1
          try clear c12
          try clear c12b0
          try clear c12b1
          try clear hx204_0
          try clear p2
          try clear p204
          try clear q204
          try clear HO_0
          try clear HO_6
          obtain ⟨kq, x33_7, rfl, HA, HJ7, HO_0, HO_6, HB⟩ := hcut
          cases kq with
          | zero => exact absurd HA.out (by simp [nat_Pow.j1])
          | succ kj7 =>
            have H := HA.out
            clear HA
            simp only [nat_Pow.j1] at H
            have HC13 := Aside0.mk H
            clear H
            go_upto_if 33 with (fail)
            go_cut [1] (fun v1 wc => ∃ (kq : Nat) (x1_12 : Int), v1 = .int .i64 x1_12 ∧ Aside0 (nat_Pow.j2 kq l0 x1_12 t201 = some (r1, r2)) ∧ Aside0 (kq ≤ kj7) ∧ Aside0 (Kd.V (Kd.int .u32) 25 wc w.heap.size (fun k_ => (P0_ k_ ∨ w.heap.size ≤ k_)) (.slice A0 l0.length c0) l0) ∧ Aside0 (Kd.V (Kd.int .u32) 25 wc w.heap.size (fun k_ => (P0_ k_ ∨ w.heap.size ≤ k_)) v202 t201) ∧ Aside0 (Below w.heap.size w wc))
            case first =>
              have H := HC13.out
              clear HC13
              by_cases c14 : x33_7 = true
              · subst c14
                have H1 : (nat_Pow.j2 kj7 l0 (mn a1 1) t201) = some (r1, r2) := by rw [if_pos rfl] at H; exact H
                clear H
                have H := H1
                clear H1
                obtain ⟨ji15, hji15⟩ : ∃ j_ : Int, (mn a1 1) = j_ := ⟨_, rfl⟩
                replace H : (nat_Pow.j2 kj7 l0 ji15 t201) = some (r1, r2) := by first | (rw [hji15] at H; exact H) | (simp only [hji15] at H ⊢; exact H)
                have hji15_ : (if 1 < a1 then 1 else a1) = ji15 := hji15
                have H' := Aside0.mk H
                clear H
                go_wp2
                go_meet
                case rel => exact ⟨_, (ji15), (by first | rfl | (simp; done) | (simp only [← hji15] <;> (first | rfl | simp)) | (simp [*]; done)), H', ⟨by have := HJ2.out; have := HJ7.out; first | omega | exact Nat.le_refl _⟩, ⟨by (with_reducible repeat (first | apply Kd.V_alloc | apply Kd.V_drewN | apply Kd.V_drew)); exact HO_0.out⟩, ⟨by (with_reducible repeat (first | apply Kd.V_alloc | apply Kd.V_drewN | apply Kd.V_drew)); exact HO_6.out⟩, ⟨by repeat (first | (with_reducible first | exact HB.out | apply below_alloc | apply pw_below_drewN | apply below_drew1) | exact HB.out)⟩⟩
              · replace c14 := Bool.eq_false_iff.mpr c14
                subst c14
                have H1 : (nat_Pow.j2 kj7 l0 a1 t201) = some (r1, r2) := by rw [if_neg (show ¬ (false = true) by decide)] at H; exact H
                clear H
                have H := H1
                clear H1
                have H' := Aside0.mk H
                clear H
                go_wp2
                go_meet
                case rel => exact ⟨_, (a1), (by first | rfl | (simp; done) | (simp [*]; done)), H', ⟨by have := HJ2.out; have := HJ7.out; first | omega | exact Nat.le_refl _⟩, ⟨by (with_reducible repeat (first | apply Kd.V_alloc | apply Kd.V_drewN | apply Kd.V_drew)); exact HO_0.out⟩, ⟨by (with_reducible repeat (first | apply Kd.V_alloc | apply Kd.V_drewN | apply Kd.V_drew)); exact HO_6.out⟩, ⟨by repeat (first | (with_reducible first | exact HB.out | apply below_alloc | apply pw_below_drewN | apply below_drew1) | exact HB.out)⟩⟩
            case rest =>
              clear HC13
              try clear c1
              try clear c2
              try clear p2
              try clear q2
              try clear hx2
              try clear qi2
              try clear c5
              try clear c6
              try clear c10
              try clear c10b0
              try clear c10b1
              try clear c10b2
              try clear c11
              try clear c11b0
              try clear c11b1
              try clear c12
              try clear c12b0
              try clear c12b1
              try clear c14
              try clear c15
              try clear hx204_0
              try clear p2
              try clear p204
              try clear q2
              try clear q204
              try clear HO_0
              try clear HO_6
              obtain ⟨kq, x1_12, rfl, HA, HJ12, HO_0, HO_6, HB⟩ := hcut
              cases kq with
              | zero => exact absurd HA.out (by simp [nat_Pow.j2])
              | succ kj12 =>
                have H := HA.out
                clear HA
                simp only [nat_Pow.j2] at H
                by_cases c16 : x1_12 > 32768
                · rw [if_pos c16] at H
                  have c16b0 : decide (32768 < x1_12) = true := decide_eq_true c16
                  clear c16
                  simp only [Option.some.injEq, Prod.mk.injEq] at H
                  obtain ⟨rfl, rfl⟩ := H
                  go_wp2
                  go_ret2
                  exact ⟨_, by first | rfl | (simp [errW_none, errW_some] <;> rfl) | (simp [*, errW_none, errW_some] <;> rfl), Kd.V_nil _ _ _ _ _, by repeat (first | (with_reducible first | exact HB.out | apply below_alloc | apply pw_below_drewN | apply below_drew1) | exact HB.out)⟩
                · rw [if_neg c16] at H
                  have c16b0 : decide (32768 < x1_12) = false := decide_eq_false c16
                  clear c16
                  have H' := Aside0.mk H
                  clear H
                  go_wp2
                  go_loopg [6, 7] kj12 (fun kq v6 v7 w' => ∃ (x6_4 : List Int) (x7_4 : Int), v7 = .int .i64 x7_4 ∧ Aside0 (nat_Pow.l0 kq l0 x1_12 x6_4 x7_4 = some (r1, r2)) ∧ Aside0 (kq ≤ kj12) ∧ Aside0 (Kd.V (Kd.int .u32) 25 w' w.heap.size (fun k_ => (P0_ k_ ∨ w.heap.size ≤ k_)) (.slice A0 l0.length c0) l0) ∧ Aside0 (Kd.V (Kd.int .u32) 25 w' w.heap.size (fun k_ => (P0_ k_ ∨ w.heap.size ≤ k_)) v6 x6_4) ∧ Aside0 (Below w.heap.size w w'))
                  case atStart => exact ⟨(t201), (32768), (by first | rfl | (simp; done) | (simp [*]; done)), H', ⟨Nat.le_refl _⟩, ⟨by (with_reducible repeat (first | apply Kd.V_alloc | apply Kd.V_drewN | apply Kd.V_drew)); exact HO_0.out⟩, ⟨by (with_reducible repeat (first | apply Kd.V_alloc | apply Kd.V_drewN | apply Kd.V_drew)); exact HO_6.out⟩, ⟨by repeat (first | (with_reducible first | exact HB.out | apply below_alloc | apply pw_below_drewN | apply below_drew1) | exact HB.out)⟩⟩
                  case round =>
                    clear H'
                    try clear c1
                    try clear c2
                    try clear p2
                    try clear q2
                    try clear hx2
                    try clear qi2
                    try clear c5
                    try clear c6
                    try clear c10
                    try clear c10b0
                    try clear c10b1
                    try clear c10b2
                    try clear c11
                    try clear c11b0
                    try clear c11b1
                    try clear c12
                    try clear c12b0
                    try clear c12b1
                    try clear c14
                    try clear c15
                    try clear c16
                    try clear c16b0
                    try clear hx204_0
                    try clear p2
                    try clear p204
                    try clear q2
                    try clear q204
                    try clear HO_0
                    try clear HO_6
                    obtain ⟨x6_4, x7_4, rfl, HA, HK4, HO_0, HO_6, HB⟩ := hrel
                    cases gk with
                    | zero => exact absurd HA.out (by simp [nat_Pow.l0])
                    | succ k4 =>
                      have H := HA.out
                      clear HA
                      simp only [nat_Pow.l0] at H
                      by_cases c17 : x7_4 > 0
                      · rw [if_pos c17] at H
                        have c17b0 : decide (0 < x7_4) = true := decide_eq_true c17
                        clear c17
                        obtain ⟨y205, hy205⟩ : ∃ y_ : List (List Int), y_ = (([x6_4, l0] : List (List Int))) := ⟨_, rfl⟩
                        replace H : (if x7_4 = 0 then (none) else (if 0 ≤ (wrap64 (1 + (Int.tmod (wrap64 (Int.tdiv x1_12 x7_4)) 2))) then (if (wrap64 (1 + (Int.tmod (wrap64 (Int.tdiv x1_12 x7_4)) 2))) ≤ (y205.length : Int) then ((some (y205.take ((wrap64 (1 + (Int.tmod (wrap64 (Int.tdiv x1_12 x7_4)) 2))) : Int).toNat : List (List Int))).bind fun y208 => (nat_Pow.l1 k4 l0 x1_12 x6_4 x7_4 y208 (y208.length : Int) 0)) else (none)) else (none))) = some (r1, r2) := by first | (rw [hy205]; with_reducible exact H) | (have H2_ := (Option.bind_some _ _).symm.trans H; rw [hy205]; with_reducible exact H2_) | (have H2_ := (Option.bind_some _ _).symm.trans H; with_reducible exact H2_) | with_reducible exact H | (rw [hy205]; exact H) | exact H
                        have Ny205 := Aside0.mk hy205
                        clear hy205
                        by_cases c18 : x7_4 = 0
                        · rw [if_pos c18] at H
                          exact absurd H (by simp)
                        · rw [if_neg c18] at H
                          have c18b0 : (x7_4 == 0) = false := beq_eq_false_iff_ne.mpr c18
                          have c18b1 : (x7_4 != 0) = true := bne_iff_ne.mpr c18
                          obtain ⟨ji19, hji19⟩ : ∃ j_ : Int, (wrap64 (1 + (Int.tmod (wrap64 (Int.tdiv x1_12 x7_4)) 2))) = j_ := ⟨_, rfl⟩
                          replace H : (if 0 ≤ (ji19) then (if (ji19) ≤ (y205.length : Int) then ((some (y205.take ((ji19) : Int).toNat : List (List Int))).bind fun y208 => (nat_Pow.l1 k4 l0 x1_12 x6_4 x7_4 y208 (y208.length : Int) 0)) else (none)) else (none)) = some (r1, r2) := by first | (rw [hji19] at H; exact H) | (simp only [hji19] at H ⊢; exact H)
                          have hji19w : (IntKind.i64.wrap (1 + (Int.tmod (wrap64 (Int.tdiv x1_12 x7_4)) 2))) = ji19 := (i64_w _).trans hji19
                          by_cases c20 : 0 ≤ (ji19)
                          · rw [if_pos c20] at H
                            have c20b0 := eq_true c20
                            have c20b1 : decide (0 ≤ (ji19)) = true := decide_eq_true c20
                            clear c20
                            by_cases c21 : (ji19) ≤ (y205.length : Int)
                            · rw [if_pos c21] at H
                              have c21b0 := eq_true c21
                              have c21b1 : decide ((ji19) ≤ (y205.length : Int)) = true := decide_eq_true c21
                              clear c21
                              obtain ⟨y208, hy208⟩ : ∃ y_ : List (List Int), y_ = (y205.take ((ji19) : Int).toNat) := ⟨_, rfl⟩
                              replace H : (nat_Pow.l1 k4 l0 x1_12 x6_4 x7_4 y208 (y208.length : Int) 0) = some (r1, r2) := by first | (rw [hy208]; with_reducible exact H) | (have H2_ := (Option.bind_some _ _).symm.trans H; rw [hy208]; with_reducible exact H2_) | (have H2_ := (Option.bind_some _ _).symm.trans H; with_reducible exact H2_) | with_reducible exact H | (rw [hy208]; exact H) | exact H
                              have Ny208 := Aside0.mk hy208
                              clear hy208
                              have H' := Aside0.mk H
                              clear H
                              obtain ⟨Ao22, co22, eo22⟩ := Kd.V_slice HO_6.out
                              subst eo22
                              go_wp2_with (first | ((with_reducible refine gate_dst (N := 44) rfl ?_); (try (refine gate_guard (by rfl) ?_; dsimp only)); refine Kd.N_lit (Kd.slice 25 (Kd.int .u32)) _ 22 ?hg (N' := 44) ?hd (xs := ([x6_4, l0] : List (List Int))) (inner := [.slice Ao22 x6_4.length co22, .slice A0 l0.length c0]) (ok := (fun k_ => (P0_ k_ ∨ w.heap.size ≤ k_))) (okp := (fun k_ => (P0_ k_ ∨ w.heap.size ≤ k_))) ?hr ?hp (fun _ hk => hk) ((show ∀ k_, wr.heap.size ≤ k_ → (fun k_ => (P0_ k_ ∨ w.heap.size ≤ k_)) k_ from fun k_ hk => (.inr (Nat.le_trans (below_size (by repeat (first | (with_reducible first | exact HB.out | apply below_alloc | apply pw_below_drewN | apply below_drew1) | exact HB.out))) hk))) _ (Nat.le_refl _)) (Below.refl _ _) (Nat.le_refl _) (by simp) ?_; (case hd => rfl); (case hg => rfl); (case hr => first | (go_simp; done) | (go_simp; rfl)); (case hp => exact (Reps.one (show Kd.FK (Kd.slice 25 (Kd.int .u32)) _ _ x6_4 [.slice Ao22 x6_4.length co22] from (Kd.FK_slice_mk (Kd.V_reads' (Kd.V_mono (ok' := (fun k_ => (P0_ k_ ∨ w.heap.size ≤ k_))) (HO_6.out) (fun k_ hk => hk))).2.1 (Kd.V_F (Kd.V_mono (ok' := (fun k_ => (P0_ k_ ∨ w.heap.size ≤ k_))) (HO_6.out) (fun k_ hk => hk))))) (Reps.one (show Kd.FK (Kd.slice 25 (Kd.int .u32)) _ _ l0 [.slice A0 l0.length c0] from (Kd.FK_slice_mk (Kd.V_reads' (Kd.V_mono (ok' := (fun k_ => (P0_ k_ ∨ w.heap.size ≤ k_))) (HO_0.out) (fun k_ hk => hk))).2.1 (Kd.V_F (Kd.V_mono (ok' := (fun k_ => (P0_ k_ ∨ w.heap.size ≤ k_))) (HO_0.out) (fun k_ hk => hk))))) (Reps.none _ _)))); intro v206 w23 ho24 hb hg_ hnew_; clear hg_ hnew_; (first | rw [← Ny205.out] at ho24 | (simp only [Int.reduceToNat] at ho24; rw [← Ny205.out] at ho24)); have n0_ := Aside0.mk (Kd.V_elder' (by (with_reducible repeat (first | apply Kd.V_alloc | apply Kd.V_drewN | apply Kd.V_drew)); exact HO_0.out) (Kd.N_base ho24) hb); have n1_ := Aside0.mk (Kd.V_elder' (by (with_reducible repeat (first | apply Kd.V_alloc | apply Kd.V_drewN | apply Kd.V_drew)); exact HO_6.out) (Kd.N_base ho24) hb); have n2_ := Aside0.mk (Kd.N_lower ho24 (below_size (by repeat (first | (with_reducible first | exact HB.out | apply below_alloc | apply pw_below_drewN | apply below_drew1) | exact HB.out)))); have n3_ := Aside0.mk (below_step (by repeat (first | (with_reducible first | exact HB.out | apply below_alloc | apply pw_below_drewN | apply below_drew1) | exact HB.out)) hb); clear HO_0; clear HO_6; clear HB; have HO_0 := n0_; have HO_6 := n1_; have HO207 := n2_; have HB := n3_; clear n0_ n1_ n2_ n3_; clear hb ho24; obtain ⟨Ao26, co26, eo26⟩ := Kd.N_slice HO207.out; subst eo26; have q25 : ((ji19) : Int) ≤ ((y205.length : Int) : Int) := of_decide_eq_true (by first | (with_reducible assumption) | assumption); obtain ⟨i025, hi025, _, hsz25, _⟩ := info_parts info22; have hroom25 : y205.length ≤ co26 := (Kd.N_reads' HO207.out).2.1; have hC25 : Kd.F (Kd.slice 25 (Kd.int .u32)) _ _ Ao26 y205.length y205 := (Kd.V_at (base := w.heap.size) (Kd.N_V HO207.out)).2.2; have hcut25 := cut_to (P := Tryd.prog) 27 22 .i64 Tryd.underlying27 hi025 Ao26 y205.length co26 (ji19) (of_decide_eq_true (by first | (with_reducible assumption) | assumption)) q25 hroom25; have hr25 := Kd.F_take (m := ((ji19) : Int).toNat) hC25 (by omega); have hy25 : y208.length = ((ji19) : Int).toNat := (by rw [Ny208.out, List.length_take]; omega); rw [← Ny208.out] at hr25; rw [← hy25] at hcut25; have HO212 := Aside0.mk (show Kd.V (Kd.slice 25 (Kd.int .u32)) 22 _ w.heap.size _ (.slice Ao26 y208.length co26) y208 from Kd.V_mk (by omega) hr25); have HC212 := Aside0.mk (show y208.length ≤ co26 from by omega); clear hr25 hC25 hroom25 hi025 hsz25; have KY25 := Aside0.mk hy25; clear hy25; replace q25 := eq_true q25))
                              go_loopg [6, 52] k4 (fun kq v6 v52 w' => ∃ (x6_5 : List Int) (x52_5 : Int), v52 = .int .i64 x52_5 ∧ Aside0 (nat_Pow.l1 kq l0 x1_12 x6_5 x7_4 y208 (y208.length : Int) x52_5 = some (r1, r2)) ∧ Aside0 (kq ≤ k4) ∧ Aside0 (Kd.V (Kd.int .u32) 25 w' w.heap.size (fun k_ => (P0_ k_ ∨ w.heap.size ≤ k_)) (.slice A0 l0.length c0) l0) ∧ Aside0 (Kd.V (Kd.int .u32) 25 w' w.heap.size (fun k_ => (P0_ k_ ∨ w.heap.size ≤ k_)) v6 x6_5) ∧ Aside0 (Kd.V (Kd.slice 25 (Kd.int .u32)) 22 w' w.heap.size (fun k_ => (P0_ k_ ∨ w.heap.size ≤ k_)) (.slice Ao26 y208.length co26) y208) ∧ Aside0 (Below w.heap.size w w'))
                              case atStart => exact ⟨(x6_4), (0), (by first | rfl | (simp; done) | (simp [*]; done)), H', ⟨Nat.le_refl _⟩, ⟨by (with_reducible repeat (first | apply Kd.V_alloc | apply Kd.V_drewN | apply Kd.V_drew)); exact Kd.V_mono HO_0.out (fun _ hk => hk.1)⟩, ⟨by (with_reducible repeat (first | apply Kd.V_alloc | apply Kd.V_drewN | apply Kd.V_drew)); exact Kd.V_mono HO_6.out (fun _ hk => hk.1)⟩, ⟨by (with_reducible repeat (first | apply Kd.V_alloc | apply Kd.V_drewN | apply Kd.V_drew)); exact HO212.out⟩, ⟨by repeat (first | (with_reducible first | exact HB.out | apply below_alloc | apply pw_below_drewN | apply below_drew1) | exact HB.out)⟩⟩
                              case round =>
                                clear H'
                                try clear c1
                                try clear c2
                                try clear p2
                                try clear q2
                                try clear hx2
                                try clear qi2
                                try clear c5
                                try clear c6
                                try clear p6
                                try clear c10
                                try clear c10b0
                                try clear c10b1
                                try clear c10b2
                                try clear c11
                                try clear c11b0
                                try clear c11b1
                                try clear c12
                                try clear c12b0
                                try clear c12b1
                                try clear c14
                                try clear c15
                                try clear c16
                                try clear c16b0
                                try clear c17
                                try clear c17b0
                                try clear c18
                                try clear c18b0
                                try clear c18b1
                                try clear c20
                                try clear c20b0
                                try clear c20b1
                                try clear p20
                                try clear q20
                                try clear hx20
                                try clear qi20
                                try clear c21
                                try clear c21b0
                                try clear c21b1
                                try clear q25
                                try clear c26
                                try clear hx204_0
                                try clear p2
                                try clear p204
                                try clear q2
                                try clear q204
                                try clear q25
                                try clear HO_0
                                try clear HO_6
                                try clear HO_50
                                obtain ⟨x6_5, x52_5, rfl, HA, HK5, HO_0, HO_6, HO_50, HB⟩ := hrel
                                cases gk with
                                | zero => exact absurd HA.out (by simp [nat_Pow.l1])
                                | succ k5 =>
                                  have H := HA.out
                                  clear HA
                                  simp only [nat_Pow.l1] at H
                                  by_cases c27 : x52_5 < (y208.length : Int)
                                  · rw [if_pos c27] at H
                                    have c27b0 : decide (x52_5 < (y208.length : Int)) = true := decide_eq_true c27
                                    clear c27
                                    by_cases c28 : 0 ≤ x52_5
                                    · rw [if_pos c28] at H
                                      have c28b0 : decide (0 ≤ x52_5) = true := decide_eq_true c28
                                      clear c28
                                      by_cases c29 : x52_5 < (y208.length : Int)
                                      · rw [if_pos c29] at H
                                        have c29b0 : decide (x52_5 < (y208.length : Int)) = true := decide_eq_true c29
                                        clear c29
                                        by_cases c30 : (wrap64 ((x6_5.length : Int) + ((rd_L1 y208 x52_5).length : Int))) > 1025
                                        · rw [if_pos c30] at H
                                          have c30b0 : decide (1025 < (wrap64 ((x6_5.length : Int) + ((rd_L1 y208 x52_5).length : Int)))) = true := decide_eq_true c30
                                          clear c30
                                          simp only [Option.some.injEq, Prod.mk.injEq] at H
                                          obtain ⟨rfl, rfl⟩ := H
                                          have p213 : 0 ≤ (x52_5 : Int) := of_decide_eq_true (by first | (with_reducible assumption) | assumption)
                                          have q213 : x52_5 < (y208.length : Int) := of_decide_eq_true (by first | (with_reducible assumption) | assumption)
                                          obtain ⟨ad213, A213_0, c213_0, e213, hx213_0, hl213_0, hi213_0⟩ := at_L1 (Kd.V_reads' HO_50.out).2.2 x52_5 p213 q213
                                          cases e213
                                          obtain ⟨ce213, hce213, hMe213, hcc213⟩ := Kd.V_get HO_50.out [] x52_5 p213 (by first | exact q213 | exact of_decide_eq_true (by first | (with_reducible assumption) | assumption) | (have e_ := (Kd.V_reads' HO_50.out).1; omega))
                                          obtain ⟨ua213_0, uc213_0, rfl, ul213_0, ge213_0⟩ := Kd.FK_slice_open hMe213
                                          have hv213_0 := hcc213 0 _ rfl
                                          rw [Nat.add_zero, show ((Kd.slice 25 (Kd.int .u32))).sz = 1 from rfl, Nat.mul_one] at hv213_0
                                          replace hv213_0 := Option.some.inj (hv213_0.symm.trans hx213_0)
                                          injection hv213_0 with hva_ hvn_ hvc_
                                          rw [hva_] at ge213_0
                                          rw [hvc_] at ul213_0
                                          have HL213_0 := Aside0.mk (show Kd.V (Kd.int .u32) 25 _ w.heap.size _ _ (rd_L1 y208 x52_5) from Kd.V_mk ul213_0 ge213_0)
                                          clear hva_ hvn_ hvc_ ge213_0 ul213_0
                                          clear hcc213 hce213
                                          have HR213_0 := Aside0.mk hi213_0
                                          have HC213_0 := Aside0.mk hl213_0
                                          clear hi213_0 hl213_0
                                          replace p213 := eq_true p213
                                          replace q213 := eq_true q213
                                          obtain ⟨Ao31, co31, eo31⟩ := Kd.V_slice HO_6.out
                                          subst eo31
                                          go_wp2
                                          go_ret2
                                          exact ⟨_, by first | rfl | (simp [errW_none, errW_some] <;> rfl) | (simp only [← hji19]; first | rfl | (simp [errW_none, errW_some] <;> rfl)) | (simp [*, errW_none, errW_some] <;> rfl), Kd.V_nil _ _ _ _ _, by repeat (first | (with_reducible first | exact HB.out | apply below_alloc | apply pw_below_drewN | apply below_drew1) | exact HB.out)⟩
                                        · rw [if_neg c30] at H
                                          have c30b0 : decide (1025 < (wrap64 ((x6_5.length : Int) + ((rd_L1 y208 x52_5).length : Int)))) = false := decide_eq_false c30
                                          clear c30
                                          replace H := Option.bind_eq_some_iff.mp H
                                          obtain ⟨t214, A320, H⟩ := H
                                          replace H : ((nat_fit.f k5 t214).bind fun bt217 => (if bt217.2 = 0 then (nat_Pow.l1 k5 l0 x1_12 bt217.1 x7_4 y208 (y208.length : Int) (wrap64 (x52_5 + 1))) else (some (([] : List Int), bt217.2)))) = some (r1, r2) := H
                                          have A32 := Aside0.mk A320
                                          clear A320
                                          replace H := Option.bind_eq_some_iff.mp H
                                          obtain ⟨⟨t217, t220⟩, A330, H⟩ := H
                                          replace H : (if t220 = 0 then (nat_Pow.l1 k5 l0 x1_12 t217 x7_4 y208 (y208.length : Int) (wrap64 (x52_5 + 1))) else (some (([] : List Int), t220))) = some (r1, r2) := H
                                          have A33 := Aside0.mk A330
                                          clear A330
                                          by_cases c34 : t220 = 0
                                          · rw [if_pos c34] at H
                                            have c34b0 : (t220 == 0) = true := beq_iff_eq.mpr c34
                                            have c34b1 : (t220 != 0) = false := bne_eq_false_iff_eq.mpr c34
                                            clear c34
                                            have H' := Aside0.mk H
                                            clear H
                                            have p213 : 0 ≤ (x52_5 : Int) := of_decide_eq_true (by first | (with_reducible assumption) | assumption)
                                            have q213 : x52_5 < (y208.length : Int) := of_decide_eq_true (by first | (with_reducible assumption) | assumption)
                                            obtain ⟨ad213, A213_0, c213_0, e213, hx213_0, hl213_0, hi213_0⟩ := at_L1 (Kd.V_reads' HO_50.out).2.2 x52_5 p213 q213
                                            cases e213
                                            obtain ⟨ce213, hce213, hMe213, hcc213⟩ := Kd.V_get HO_50.out [] x52_5 p213 (by first | exact q213 | exact of_decide_eq_true (by first | (with_reducible assumption) | assumption) | (have e_ := (Kd.V_reads' HO_50.out).1; omega))
                                            obtain ⟨ua213_0, uc213_0, rfl, ul213_0, ge213_0⟩ := Kd.FK_slice_open hMe213
                                            have hv213_0 := hcc213 0 _ rfl
                                            rw [Nat.add_zero, show ((Kd.slice 25 (Kd.int .u32))).sz = 1 from rfl, Nat.mul_one] at hv213_0
                                            replace hv213_0 := Option.some.inj (hv213_0.symm.trans hx213_0)
                                            injection hv213_0 with hva_ hvn_ hvc_
                                            rw [hva_] at ge213_0
                                            rw [hvc_] at ul213_0
                                            have HL213_0 := Aside0.mk (show Kd.V (Kd.int .u32) 25 _ w.heap.size _ _ (rd_L1 y208 x52_5) from Kd.V_mk ul213_0 ge213_0)
                                            clear hva_ hvn_ hvc_ ge213_0 ul213_0
                                            clear hcc213 hce213
                                            have HR213_0 := Aside0.mk hi213_0
                                            have HC213_0 := Aside0.mk hl213_0
                                            clear hi213_0 hl213_0
                                            replace p213 := eq_true p213
                                            replace q213 := eq_true q213
                                            obtain ⟨Ao35, co35, eo35⟩ := Kd.V_slice HO_6.out
                                            subst eo35
                                            go_wp2_with (first | ((with_reducible refine gate_callee (f := 34) rfl ?_); refine goesL_ (some 65) rfl rfl Tryd.func34 (by kernel_rfl) rfl #[.slice Ao35 x6_5.length co35, .slice A213_0 (rd_L1 y208 x52_5).length c213_0] rfl (by (try simp only [List.map_toArray, List.map_cons, List.map_nil]); first | done | rfl | (simp only [List.length_drop, List.length_take]; rfl)) ?_; (with_reducible refine (nat_mul.calls k5 _ _ x6_5 _ _ (rd_L1 y208 x52_5) t214 _ ?side1 ?side2 ?side3 ?side4 A32.out).mono ?_); (case side1 => repeat (first | exact (Kd.V_reads' HO_6.out).2.2 | (with_reducible refine Kd.C_alloc ?_ _) | (with_reducible refine Kd.C_drewN ?_ _) | (with_reducible refine Kd.C_drew ?_))); (case side2 => exact (Kd.V_reads' HO_6.out).2.1); (case side3 => repeat (first | exact (by repeat (first | (with_reducible exact HR213_0.out) | (with_reducible refine Kd.C_alloc ?_ _) | (with_reducible refine Kd.C_drewN ?_ _) | (with_reducible refine Kd.C_drew ?_) | exact HR213_0.out)) | (with_reducible refine Kd.C_alloc ?_ _) | (with_reducible refine Kd.C_drewN ?_ _) | (with_reducible refine Kd.C_drew ?_))); (case side4 => exact HC213_0.out); rintro e w36 ⟨v215, rfl, ho0, hb⟩; refine ⟨_, rfl, ?_⟩; have n0_ := Aside0.mk (Kd.V_below (by (with_reducible repeat (first | apply Kd.V_alloc | apply Kd.V_drewN | apply Kd.V_drew)); exact HO_0.out) hb); have n1_ := Aside0.mk (Kd.V_below (by (with_reducible repeat (first | apply Kd.V_alloc | apply Kd.V_drewN | apply Kd.V_drew)); exact HO_6.out) hb); have n2_ := Aside0.mk (Kd.V_below (by (with_reducible repeat (first | apply Kd.V_alloc | apply Kd.V_drewN | apply Kd.V_drew)); exact HO_50.out) hb); have n3_ := Aside0.mk (Kd.V_below (by (with_reducible repeat (first | apply Kd.V_alloc | apply Kd.V_drewN | apply Kd.V_drew)); exact HL213_0.out) hb); have n4_ := Aside0.mk (Kd.V_lower (Kd.V_mono (ok' := fun k_ => (P0_ k_ ∨ w.heap.size ≤ k_)) ho0 (fun k_ hk_ => (.inr (Nat.le_trans (below_size (by repeat (first | (with_reducible first | exact HB.out | apply below_alloc | apply pw_below_drewN | apply below_drew1) | exact HB.out))) hk_)))) (below_size (by repeat (first | (with_reducible first | exact HB.out | apply below_alloc | apply pw_below_drewN | apply below_drew1) | exact HB.out)))); have n5_ := Aside0.mk (Kd.C_below (by repeat (first | (with_reducible exact HR213_0.out) | (with_reducible refine Kd.C_alloc ?_ _) | (with_reducible refine Kd.C_drewN ?_ _) | (with_reducible refine Kd.C_drew ?_) | exact HR213_0.out)) hb); have n6_ := Aside0.mk (below_step (by repeat (first | (with_reducible first | exact HB.out | apply below_alloc | apply pw_below_drewN | apply below_drew1) | exact HB.out)) hb); clear HO_0; clear HO_6; clear HO_50; clear HL213_0; clear HR213_0; clear HB; have HO_0 := n0_; have HO_6 := n1_; have HO_50 := n2_; have HL213_0 := n3_; have HO216 := n4_; have HR213_0 := n5_; have HB := n6_; clear n0_ n1_ n2_ n3_ n4_ n5_ n6_; (try clear hb); (try clear hb2); (try clear hk); (try clear hi); (try clear ho0); obtain ⟨Ao37, co37, eo37⟩ := Kd.V_slice HO216.out; subst eo37) | ((with_reducible refine gate_callee (f := 31) rfl ?_); refine goesL_ (some 66) rfl rfl Tryd.func31 (by kernel_rfl) rfl #[.slice Ao37 t214.length co37] rfl (by (try simp only [List.map_toArray, List.map_cons, List.map_nil]); first | done | rfl | (simp only [List.length_drop, List.length_take]; rfl)) ?_; (with_reducible refine (nat_fit.calls k5 (fun k_ => (P0_ k_ ∨ w.heap.size ≤ k_)) _ _ t214 t217 t220 _ ?side1 A33.out).mono ?_); (case side1 => exact HO216.out); rintro e w38 ⟨v218, rfl, ho0, hb⟩; refine ⟨_, rfl, ?_⟩; have n0_ := Aside0.mk (Kd.V_below (by (with_reducible repeat (first | apply Kd.V_alloc | apply Kd.V_drewN | apply Kd.V_drew)); exact HO_0.out) hb); have n1_ := Aside0.mk (Kd.V_below (by (with_reducible repeat (first | apply Kd.V_alloc | apply Kd.V_drewN | apply Kd.V_drew)); exact HO_6.out) hb); have n2_ := Aside0.mk (Kd.V_below (by (with_reducible repeat (first | apply Kd.V_alloc | apply Kd.V_drewN | apply Kd.V_drew)); exact HO_50.out) hb); have n3_ := Aside0.mk (Kd.V_below (by (with_reducible repeat (first | apply Kd.V_alloc | apply Kd.V_drewN | apply Kd.V_drew)); exact HL213_0.out) hb); have n4_ := Aside0.mk (Kd.V_below (by (with_reducible repeat (first | apply Kd.V_alloc | apply Kd.V_drewN | apply Kd.V_drew)); exact HO216.out) hb); have n5_ := Aside0.mk (Kd.V_lower (Kd.V_mono (ok' := fun k_ => (P0_ k_ ∨ w.heap.size ≤ k_)) ho0 (fun k_ hk_ => Or.elim hk_ (fun hs_ => hs_) (fun hn_ => (.inr (Nat.le_trans (below_size (by repeat (first | (with_reducible first | exact HB.out | apply below_alloc | apply pw_below_drewN | apply below_drew1) | exact HB.out))) hn_))))) (below_size (by repeat (first | (with_reducible first | exact HB.out | apply below_alloc | apply pw_below_drewN | apply below_drew1) | exact HB.out)))); have n6_ := Aside0.mk (Kd.C_below (by repeat (first | (with_reducible exact HR213_0.out) | (with_reducible refine Kd.C_alloc ?_ _) | (with_reducible refine Kd.C_drewN ?_ _) | (with_reducible refine Kd.C_drew ?_) | exact HR213_0.out)) hb); have n7_ := Aside0.mk (below_step (by repeat (first | (with_reducible first | exact HB.out | apply below_alloc | apply pw_below_drewN | apply below_drew1) | exact HB.out)) hb); clear HO_0; clear HO_6; clear HO_50; clear HL213_0; clear HO216; clear HR213_0; clear HB; have HO_0 := n0_; have HO_6 := n1_; have HO_50 := n2_; have HL213_0 := n3_; have HO216 := n4_; have HO219 := n5_; have HR213_0 := n6_; have HB := n7_; clear n0_ n1_ n2_ n3_ n4_ n5_ n6_ n7_; (try clear hb); (try clear hb2); (try clear hk); (try clear hi); (try clear ho0)))
                                            go_roundg k5
                                            case measure => have := HJ2.out; have := HJ7.out; have := HJ12.out; have := HK4.out; have := HK5.out; omega
                                            case rel => exact ⟨(t217), (wrap64 (x52_5 + 1)), (by first | rfl | (simp; done) | (simp [*]; done)), H', ⟨by have := HJ2.out; have := HJ7.out; have := HJ12.out; have := HK4.out; have := HK5.out; omega⟩, ⟨by (with_reducible repeat (first | apply Kd.V_alloc | apply Kd.V_drewN | apply Kd.V_drew)); exact HO_0.out⟩, ⟨by (with_reducible repeat (first | apply Kd.V_alloc | apply Kd.V_drewN | apply Kd.V_drew)); exact HO219.out⟩, ⟨by (with_reducible repeat (first | apply Kd.V_alloc | apply Kd.V_drewN | apply Kd.V_drew)); exact HO_50.out⟩, ⟨by repeat (first | (with_reducible first | exact HB.out | apply below_alloc | apply pw_below_drewN | apply below_drew1) | exact HB.out)⟩⟩
                                          · rw [if_neg c34] at H
                                            have c34b0 : (t220 == 0) = false := beq_eq_false_iff_ne.mpr c34
                                            have c34b1 : (t220 != 0) = true := bne_iff_ne.mpr c34
                                            simp only [Option.some.injEq, Prod.mk.injEq] at H
                                            obtain ⟨rfl, rfl⟩ := H
                                            have p213 : 0 ≤ (x52_5 : Int) := of_decide_eq_true (by first | (with_reducible assumption) | assumption)
                                            have q213 : x52_5 < (y208.length : Int) := of_decide_eq_true (by first | (with_reducible assumption) | assumption)
                                            obtain ⟨ad213, A213_0, c213_0, e213, hx213_0, hl213_0, hi213_0⟩ := at_L1 (Kd.V_reads' HO_50.out).2.2 x52_5 p213 q213
                                            cases e213
                                            obtain ⟨ce213, hce213, hMe213, hcc213⟩ := Kd.V_get HO_50.out [] x52_5 p213 (by first | exact q213 | exact of_decide_eq_true (by first | (with_reducible assumption) | assumption) | (have e_ := (Kd.V_reads' HO_50.out).1; omega))
                                            obtain ⟨ua213_0, uc213_0, rfl, ul213_0, ge213_0⟩ := Kd.FK_slice_open hMe213
                                            have hv213_0 := hcc213 0 _ rfl
                                            rw [Nat.add_zero, show ((Kd.slice 25 (Kd.int .u32))).sz = 1 from rfl, Nat.mul_one] at hv213_0
                                            replace hv213_0 := Option.some.inj (hv213_0.symm.trans hx213_0)
                                            injection hv213_0 with hva_ hvn_ hvc_
                                            rw [hva_] at ge213_0
                                            rw [hvc_] at ul213_0
                                            have HL213_0 := Aside0.mk (show Kd.V (Kd.int .u32) 25 _ w.heap.size _ _ (rd_L1 y208 x52_5) from Kd.V_mk ul213_0 ge213_0)
                                            clear hva_ hvn_ hvc_ ge213_0 ul213_0
                                            clear hcc213 hce213
                                            have HR213_0 := Aside0.mk hi213_0
                                            have HC213_0 := Aside0.mk hl213_0
                                            clear hi213_0 hl213_0
                                            replace p213 := eq_true p213
                                            replace q213 := eq_true q213
                                            obtain ⟨Ao39, co39, eo39⟩ := Kd.V_slice HO_6.out
                                            subst eo39
                                            go_wp2_with (first | ((with_reducible refine gate_callee (f := 34) rfl ?_); refine goesL_ (some 65) rfl rfl Tryd.func34 (by kernel_rfl) rfl #[.slice Ao39 x6_5.length co39, .slice A213_0 (rd_L1 y208 x52_5).length c213_0] rfl (by (try simp only [List.map_toArray, List.map_cons, List.map_nil]); first | done | rfl | (simp only [List.length_drop, List.length_take]; rfl)) ?_; (with_reducible refine (nat_mul.calls k5 _ _ x6_5 _ _ (rd_L1 y208 x52_5) t214 _ ?side1 ?side2 ?side3 ?side4 A32.out).mono ?_); (case side1 => repeat (first | exact (Kd.V_reads' HO_6.out).2.2 | (with_reducible refine Kd.C_alloc ?_ _) | (with_reducible refine Kd.C_drewN ?_ _) | (with_reducible refine Kd.C_drew ?_))); (case side2 => exact (Kd.V_reads' HO_6.out).2.1); (case side3 => repeat (first | exact (by repeat (first | (with_reducible exact HR213_0.out) | (with_reducible refine Kd.C_alloc ?_ _) | (with_reducible refine Kd.C_drewN ?_ _) | (with_reducible refine Kd.C_drew ?_) | exact HR213_0.out)) | (with_reducible refine Kd.C_alloc ?_ _) | (with_reducible refine Kd.C_drewN ?_ _) | (with_reducible refine Kd.C_drew ?_))); (case side4 => exact HC213_0.out); rintro e w40 ⟨v215, rfl, ho0, hb⟩; refine ⟨_, rfl, ?_⟩; have n0_ := Aside0.mk (Kd.V_below (by (with_reducible repeat (first | apply Kd.V_alloc | apply Kd.V_drewN | apply Kd.V_drew)); exact HO_0.out) hb); have n1_ := Aside0.mk (Kd.V_below (by (with_reducible repeat (first | apply Kd.V_alloc | apply Kd.V_drewN | apply Kd.V_drew)); exact HO_6.out) hb); have n2_ := Aside0.mk (Kd.V_below (by (with_reducible repeat (first | apply Kd.V_alloc | apply Kd.V_drewN | apply Kd.V_drew)); exact HO_50.out) hb); have n3_ := Aside0.mk (Kd.V_below (by (with_reducible repeat (first | apply Kd.V_alloc | apply Kd.V_drewN | apply Kd.V_drew)); exact HL213_0.out) hb); have n4_ := Aside0.mk (Kd.V_lower (Kd.V_mono (ok' := fun k_ => (P0_ k_ ∨ w.heap.size ≤ k_)) ho0 (fun k_ hk_ => (.inr (Nat.le_trans (below_size (by repeat (first | (with_reducible first | exact HB.out | apply below_alloc | apply pw_below_drewN | apply below_drew1) | exact HB.out))) hk_)))) (below_size (by repeat (first | (with_reducible first | exact HB.out | apply below_alloc | apply pw_below_drewN | apply below_drew1) | exact HB.out)))); have n5_ := Aside0.mk (Kd.C_below (by repeat (first | (with_reducible exact HR213_0.out) | (with_reducible refine Kd.C_alloc ?_ _) | (with_reducible refine Kd.C_drewN ?_ _) | (with_reducible refine Kd.C_drew ?_) | exact HR213_0.out)) hb); have n6_ := Aside0.mk (below_step (by repeat (first | (with_reducible first | exact HB.out | apply below_alloc | apply pw_below_drewN | apply below_drew1) | exact HB.out)) hb); clear HO_0; clear HO_6; clear HO_50; clear HL213_0; clear HR213_0; clear HB; have HO_0 := n0_; have HO_6 := n1_; have HO_50 := n2_; have HL213_0 := n3_; have HO216 := n4_; have HR213_0 := n5_; have HB := n6_; clear n0_ n1_ n2_ n3_ n4_ n5_ n6_; (try clear hb); (try clear hb2); (try clear hk); (try clear hi); (try clear ho0); obtain ⟨Ao41, co41, eo41⟩ := Kd.V_slice HO216.out; subst eo41) | ((with_reducible refine gate_callee (f := 31) rfl ?_); refine goesL_ (some 66) rfl rfl Tryd.func31 (by kernel_rfl) rfl #[.slice Ao41 t214.length co41] rfl (by (try simp only [List.map_toArray, List.map_cons, List.map_nil]); first | done | rfl | (simp only [List.length_drop, List.length_take]; rfl)) ?_; (with_reducible refine (nat_fit.calls k5 (fun k_ => (P0_ k_ ∨ w.heap.size ≤ k_)) _ _ t214 t217 t220 _ ?side1 A33.out).mono ?_); (case side1 => exact HO216.out); rintro e w42 ⟨v218, rfl, ho0, hb⟩; refine ⟨_, rfl, ?_⟩; have n0_ := Aside0.mk (Kd.V_below (by (with_reducible repeat (first | apply Kd.V_alloc | apply Kd.V_drewN | apply Kd.V_drew)); exact HO_0.out) hb); have n1_ := Aside0.mk (Kd.V_below (by (with_reducible repeat (first | apply Kd.V_alloc | apply Kd.V_drewN | apply Kd.V_drew)); exact HO_6.out) hb); have n2_ := Aside0.mk (Kd.V_below (by (with_reducible repeat (first | apply Kd.V_alloc | apply Kd.V_drewN | apply Kd.V_drew)); exact HO_50.out) hb); have n3_ := Aside0.mk (Kd.V_below (by (with_reducible repeat (first | apply Kd.V_alloc | apply Kd.V_drewN | apply Kd.V_drew)); exact HL213_0.out) hb); have n4_ := Aside0.mk (Kd.V_below (by (with_reducible repeat (first | apply Kd.V_alloc | apply Kd.V_drewN | apply Kd.V_drew)); exact HO216.out) hb); have n5_ := Aside0.mk (Kd.V_lower (Kd.V_mono (ok' := fun k_ => (P0_ k_ ∨ w.heap.size ≤ k_)) ho0 (fun k_ hk_ => Or.elim hk_ (fun hs_ => hs_) (fun hn_ => (.inr (Nat.le_trans (below_size (by repeat (first | (with_reducible first | exact HB.out | apply below_alloc | apply pw_below_drewN | apply below_drew1) | exact HB.out))) hn_))))) (below_size (by repeat (first | (with_reducible first | exact HB.out | apply below_alloc | apply pw_below_drewN | apply below_drew1) | exact HB.out)))); have n6_ := Aside0.mk (Kd.C_below (by repeat (first | (with_reducible exact HR213_0.out) | (with_reducible refine Kd.C_alloc ?_ _) | (with_reducible refine Kd.C_drewN ?_ _) | (with_reducible refine Kd.C_drew ?_) | exact HR213_0.out)) hb); have n7_ := Aside0.mk (below_step (by repeat (first | (with_reducible first | exact HB.out | apply below_alloc | apply pw_below_drewN | apply below_drew1) | exact HB.out)) hb); clear HO_0; clear HO_6; clear HO_50; clear HL213_0; clear HO216; clear HR213_0; clear HB; have HO_0 := n0_; have HO_6 := n1_; have HO_50 := n2_; have HL213_0 := n3_; have HO216 := n4_; have HO219 := n5_; have HR213_0 := n6_; have HB := n7_; clear n0_ n1_ n2_ n3_ n4_ n5_ n6_ n7_; (try clear hb); (try clear hb2); (try clear hk); (try clear hi); (try clear ho0)))
                                            go_ret2
                                            exact ⟨_, by first | rfl | (simp [errW_none, errW_some] <;> rfl) | (simp only [← hji19]; first | rfl | (simp [errW_none, errW_some] <;> rfl)) | (simp [*, errW_none, errW_some] <;> rfl), Kd.V_nil _ _ _ _ _, by repeat (first | (with_reducible first | exact HB.out | apply below_alloc | apply pw_below_drewN | apply below_drew1) | exact HB.out)⟩
                                      · rw [if_neg c29] at H
                                        exact absurd H (by simp)
                                    · rw [if_neg c28] at H
                                      exact absurd H (by simp)
                                  · rw [if_neg c27] at H
                                    have c27b0 : decide (x52_5 < (y208.length : Int)) = false := decide_eq_false c27
                                    clear c27
                                    have H' := Aside0.mk H
                                    clear H
                                    go_wp2
                                    go_roundg k5
                                    case measure => have := HJ2.out; have := HJ7.out; have := HJ12.out; have := HK4.out; have := HK5.out; omega
                                    case rel => exact ⟨(x6_5), (wrap64 (Int.tdiv x7_4 2)), (by first | rfl | (simp; done) | (simp [*]; done)), H', ⟨by have := HJ2.out; have := HJ7.out; have := HJ12.out; have := HK4.out; have := HK5.out; omega⟩, ⟨by (with_reducible repeat (first | apply Kd.V_alloc | apply Kd.V_drewN | apply Kd.V_drew)); exact HO_0.out⟩, ⟨by (with_reducible repeat (first | apply Kd.V_alloc | apply Kd.V_drewN | apply Kd.V_drew)); exact HO_6.out⟩, ⟨by repeat (first | (with_reducible first | exact HB.out | apply below_alloc | apply pw_below_drewN | apply below_drew1) | exact HB.out)⟩⟩
                            · rw [if_neg c21] at H
                              exact absurd H (by simp)
                          · rw [if_neg c20] at H
                            exact absurd H (by simp)
                      · rw [if_neg c17] at H
                        have c17b0 : decide (0 < x7_4) = false := decide_eq_false c17
                        clear c17
                        simp only [Option.some.injEq, Prod.mk.injEq] at H
                        obtain ⟨rfl, rfl⟩ := H
                        go_wp2
                        go_ret2
                        exact ⟨_, by first | rfl | (simp [errW_none, errW_some] <;> rfl) | (simp [*, errW_none, errW_some] <;> rfl), by (with_reducible repeat (first | apply Kd.V_alloc | apply Kd.V_drewN | apply Kd.V_drew)); exact HO_6.out, by repeat (first | (with_reducible first | exact HB.out | apply below_alloc | apply pw_below_drewN | apply below_drew1) | exact HB.out)⟩

end
end Go.Proofs.YtgpninmfbooijaaDoor.Px
