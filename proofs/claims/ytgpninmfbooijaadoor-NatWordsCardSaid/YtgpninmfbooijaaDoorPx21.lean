/- Part of the printed proofs: contracts of functions, or words that they use, as this claim needs them. -/
import Derived.Test.YtgpninmfbooijaaDoorPx0
import Derived.Test.YtgpninmfbooijaaDoorPx1
import Derived.Test.YtgpninmfbooijaaDoorPx3
import Derived.Test.YtgpninmfbooijaaDoorPx5
import Derived.Test.YtgpninmfbooijaaDoorPx8
import Derived.Test.YtgpninmfbooijaaDoorPx9
import Derived.Test.YtgpninmfbooijaaDoorNAdd
namespace Go.Proofs.YtgpninmfbooijaaDoor.Px
open Go.RowKit Go.Proofs.YtgpninmfbooijaaDoorW.PrintWords Go.Proofs.YtgpninmfbooijaaDoorW.PrintLast Go.Proofs.YtgpninmfbooijaaDoorW.PrintMore
attribute [local go_sem] max2_int min2_int max_two min_two max_three min_three max_four min_four   -- for this text's walks alone
set_option linter.unusedVariables false
set_option linter.unusedSimpArgs false

noncomputable section
/-! ### letterbaglaw03_NatWords: function 11 -/
mutual
def letterbaglaw03_NatWords.j0 : Nat → Int → Int → List Int → List Int → Bool → Option (Bool)
  | 0, _, _, _, _, _ => none
  | k + 1, x0, x1, x5, x6, x48 => if x48 = true then (some false) else ((nat_Of.f k (x0 / 2)).bind fun t774 => ((nat_Of.f k (x1 / 2)).bind fun t777 => ((nat_Add.f t774 t777).bind fun bt780 => ((nat_Of.f k (x0 / 4294967296)).bind fun t784 => ((nat_Of.f k (x1 / 4294967296)).bind fun t787 => ((nat_Mul.f k t784 t787).bind fun bt790 => ((nat_Uint.f k bt780.1).bind fun bt794 => ((nat_Uint.f k bt790.1).bind fun bt796 => (if (wrap64 (bt780.2 + bt790.2)) = 0 then (if bt794.2 = true then (if bt796.2 = true then (if bt794.1 = (IntKind.u64.wrap ((x0 / 2) + (x1 / 2))) then (letterbaglaw03_NatWords.j1 k x0 x1 x5 x6 (bt796.1 != (IntKind.u64.wrap ((x0 / 4294967296) * (x1 / 4294967296))))) else (letterbaglaw03_NatWords.j1 k x0 x1 x5 x6 true)) else (letterbaglaw03_NatWords.j1 k x0 x1 x5 x6 true)) else (letterbaglaw03_NatWords.j1 k x0 x1 x5 x6 true)) else (letterbaglaw03_NatWords.j1 k x0 x1 x5 x6 true))))))))))
def letterbaglaw03_NatWords.j1 : Nat → Int → Int → List Int → List Int → Bool → Option (Bool)
  | 0, _, _, _, _, _ => none
  | k + 1, x0, x1, x5, x6, x108 => if x108 = true then (some false) else ((nat_Cmp.f k x5 x6).bind fun bt798 => (if bt798.2 = 0 then (if ((decide (bt798.1 < 0)) != (decide (x0 < x1))) = true then (letterbaglaw03_NatWords.j2 k x0 x1 x5 x6 true) else (letterbaglaw03_NatWords.j2 k x0 x1 x5 x6 ((bt798.1 == 0) != (x0 == x1)))) else (letterbaglaw03_NatWords.j2 k x0 x1 x5 x6 true)))
def letterbaglaw03_NatWords.j2 : Nat → Int → Int → List Int → List Int → Bool → Option (Bool)
  | 0, _, _, _, _, _ => none
  | k + 1, x0, x1, x5, x6, x132 => if x132 = true then (some false) else (if x1 = 0 then (some true) else ((nat_DivMod.f k x5 x6).bind fun bt800 => ((nat_Uint.f k bt800.1).bind fun bt807 => ((nat_Uint.f k bt800.2.1).bind fun bt809 => (if bt800.2.2 = 0 then (if bt807.2 = true then (if bt809.2 = true then (if bt807.1 = (IntKind.u64.wrap (Int.tdiv x0 x1)) then (some (bt809.1 == (Int.tmod x0 x1))) else (some false)) else (some false)) else (some false)) else (some false))))))
end
def letterbaglaw03_NatWords.f (k : Nat) (a0 : Int) (a1 : Int) : Option (Bool) := (letterbaglaw03_awake.f k).bind fun t764 => (if t764 = true then ((nat_Of.f k a0).bind fun t765 => ((nat_Of.f k a1).bind fun t768 => ((nat_Uint.f k t765).bind fun bt771 => (if bt771.2 = true then (if bt771.1 = a0 then ((nat_Right.f t765).bind fun t773 => (if t773 = true then (letterbaglaw03_NatWords.j0 k a0 a1 t765 t768 (decide ((t765.length : Int) > 2))) else (letterbaglaw03_NatWords.j0 k a0 a1 t765 t768 true))) else (letterbaglaw03_NatWords.j0 k a0 a1 t765 t768 true)) else (letterbaglaw03_NatWords.j0 k a0 a1 t765 t768 true))))) else (some false))
theorem letterbaglaw03_NatWords.mono_l : ∀ k, (∀ y0 y1 y2 y3 y4, LeO (letterbaglaw03_NatWords.j0 k y0 y1 y2 y3 y4) (letterbaglaw03_NatWords.j0 (k + 1) y0 y1 y2 y3 y4)) ∧ (∀ y0 y1 y2 y3 y4, LeO (letterbaglaw03_NatWords.j1 k y0 y1 y2 y3 y4) (letterbaglaw03_NatWords.j1 (k + 1) y0 y1 y2 y3 y4)) ∧ (∀ y0 y1 y2 y3 y4, LeO (letterbaglaw03_NatWords.j2 k y0 y1 y2 y3 y4) (letterbaglaw03_NatWords.j2 (k + 1) y0 y1 y2 y3 y4))
  | 0 => ⟨fun _ _ _ _ _ r h => by simp [letterbaglaw03_NatWords.j0] at h, fun _ _ _ _ _ r h => by simp [letterbaglaw03_NatWords.j1] at h, fun _ _ _ _ _ r h => by simp [letterbaglaw03_NatWords.j2] at h⟩
  | k + 1 => by
    obtain ⟨ih0, ih1, ih2⟩ := letterbaglaw03_NatWords.mono_l k
    refine ⟨?_, ?_, ?_⟩
    · intro y0 y1 y2 y3 y4
      unfold letterbaglaw03_NatWords.j0
      repeat' first
      | (with_reducible exact ih0 _ _ _ _ _)
      | (with_reducible exact ih1 _ _ _ _ _)
      | (with_reducible exact ih2 _ _ _ _ _)
      | (with_reducible exact letterbaglaw03_awake.mono _)
      | (with_reducible exact nat_Cmp.mono _ _ _)
      | (with_reducible exact nat_DivMod.mono _ _ _)
      | (with_reducible exact nat_Mul.mono _ _ _)
      | (with_reducible exact nat_Of.mono _ _)
      | (with_reducible exact nat_Uint.mono _ _)
      | (with_reducible exact LeO.refl _)
      | (with_reducible exact LeO.none _)
      | (with_reducible refine LeO.ite ?_ ?_)
      | (with_reducible refine LeO.bind ?_ (fun _ => ?_))
      | exact ih0 _ _ _ _ _
      | exact ih1 _ _ _ _ _
      | exact ih2 _ _ _ _ _
      | exact letterbaglaw03_awake.mono _
      | exact nat_Cmp.mono _ _ _
      | exact nat_DivMod.mono _ _ _
      | exact nat_Mul.mono _ _ _
      | exact nat_Of.mono _ _
      | exact nat_Uint.mono _ _
      | exact LeO.none _
      | refine LeO.ite ?_ ?_
      | refine LeO.bind ?_ (fun _ => ?_)
    · intro y0 y1 y2 y3 y4
      unfold letterbaglaw03_NatWords.j1
      repeat' first
      | (with_reducible exact ih0 _ _ _ _ _)
      | (with_reducible exact ih1 _ _ _ _ _)
      | (with_reducible exact ih2 _ _ _ _ _)
      | (with_reducible exact letterbaglaw03_awake.mono _)
      | (with_reducible exact nat_Cmp.mono _ _ _)
      | (with_reducible exact nat_DivMod.mono _ _ _)
      | (with_reducible exact nat_Mul.mono _ _ _)
      | (with_reducible exact nat_Of.mono _ _)
      | (with_reducible exact nat_Uint.mono _ _)
      | (with_reducible exact LeO.refl _)
      | (with_reducible exact LeO.none _)
      | (with_reducible refine LeO.ite ?_ ?_)
      | (with_reducible refine LeO.bind ?_ (fun _ => ?_))
      | exact ih0 _ _ _ _ _
      | exact ih1 _ _ _ _ _
      | exact ih2 _ _ _ _ _
      | exact letterbaglaw03_awake.mono _
      | exact nat_Cmp.mono _ _ _
      | exact nat_DivMod.mono _ _ _
      | exact nat_Mul.mono _ _ _
      | exact nat_Of.mono _ _
      | exact nat_Uint.mono _ _
      | exact LeO.none _
      | refine LeO.ite ?_ ?_
      | refine LeO.bind ?_ (fun _ => ?_)
    · intro y0 y1 y2 y3 y4
      unfold letterbaglaw03_NatWords.j2
      repeat' first
      | (with_reducible exact ih0 _ _ _ _ _)
      | (with_reducible exact ih1 _ _ _ _ _)
      | (with_reducible exact ih2 _ _ _ _ _)
      | (with_reducible exact letterbaglaw03_awake.mono _)
      | (with_reducible exact nat_Cmp.mono _ _ _)
      | (with_reducible exact nat_DivMod.mono _ _ _)
      | (with_reducible exact nat_Mul.mono _ _ _)
      | (with_reducible exact nat_Of.mono _ _)
      | (with_reducible exact nat_Uint.mono _ _)
      | (with_reducible exact LeO.refl _)
      | (with_reducible exact LeO.none _)
      | (with_reducible refine LeO.ite ?_ ?_)
      | (with_reducible refine LeO.bind ?_ (fun _ => ?_))
      | exact ih0 _ _ _ _ _
      | exact ih1 _ _ _ _ _
      | exact ih2 _ _ _ _ _
      | exact letterbaglaw03_awake.mono _
      | exact nat_Cmp.mono _ _ _
      | exact nat_DivMod.mono _ _ _
      | exact nat_Mul.mono _ _ _
      | exact nat_Of.mono _ _
      | exact nat_Uint.mono _ _
      | exact LeO.none _
      | refine LeO.ite ?_ ?_
      | refine LeO.bind ?_ (fun _ => ?_)
theorem letterbaglaw03_NatWords.mono : ∀ a0 a1 k, LeO (letterbaglaw03_NatWords.f k a0 a1) (letterbaglaw03_NatWords.f (k + 1) a0 a1) := by
  intro a0 a1 k
  obtain ⟨ih0, ih1, ih2⟩ := letterbaglaw03_NatWords.mono_l k
  unfold letterbaglaw03_NatWords.f
  repeat' first
      | (with_reducible exact ih0 _ _ _ _ _)
      | (with_reducible exact ih1 _ _ _ _ _)
      | (with_reducible exact ih2 _ _ _ _ _)
      | (with_reducible exact letterbaglaw03_awake.mono _)
      | (with_reducible exact nat_Cmp.mono _ _ _)
      | (with_reducible exact nat_DivMod.mono _ _ _)
      | (with_reducible exact nat_Mul.mono _ _ _)
      | (with_reducible exact nat_Of.mono _ _)
      | (with_reducible exact nat_Uint.mono _ _)
      | (with_reducible exact LeO.refl _)
      | (with_reducible exact LeO.none _)
      | (with_reducible refine LeO.ite ?_ ?_)
      | (with_reducible refine LeO.bind ?_ (fun _ => ?_))
      | exact ih0 _ _ _ _ _
      | exact ih1 _ _ _ _ _
      | exact ih2 _ _ _ _ _
      | exact letterbaglaw03_awake.mono _
      | exact nat_Cmp.mono _ _ _
      | exact nat_DivMod.mono _ _ _
      | exact nat_Mul.mono _ _ _
      | exact nat_Of.mono _ _
      | exact nat_Uint.mono _ _
      | exact LeO.none _
      | refine LeO.ite ?_ ?_
      | refine LeO.bind ?_ (fun _ => ?_)
set_option maxHeartbeats 8000000 in
set_option maxRecDepth 100000 in
theorem letterbaglaw03_NatWords.calls (k : Nat) (a0 : Int) (a1 : Int) (r : Bool) (w : World) (h : letterbaglaw03_NatWords.f k a0 a1 = some r) :
    Calls Tryd.prog 11 #[.int .u64 a0, .int .u64 a1] w fun e w' => e = .returned (.bool r) ∧ Below w.heap.size w w' := by
  have HB := Aside0.mk (Below.refl w.heap.size w)
  have H : ((letterbaglaw03_awake.f k).bind fun t764 => (if t764 = true then ((nat_Of.f k a0).bind fun t765 => ((nat_Of.f k a1).bind fun t768 => ((nat_Uint.f k t765).bind fun bt771 => (if bt771.2 = true then (if bt771.1 = a0 then ((nat_Right.f t765).bind fun t773 => (if t773 = true then (letterbaglaw03_NatWords.j0 k a0 a1 t765 t768 (decide ((t765.length : Int) > 2))) else (letterbaglaw03_NatWords.j0 k a0 a1 t765 t768 true))) else (letterbaglaw03_NatWords.j0 k a0 a1 t765 t768 true)) else (letterbaglaw03_NatWords.j0 k a0 a1 t765 t768 true))))) else (some false))) = some r := h
  clear h
  replace H := Option.bind_eq_some_iff.mp H
  obtain ⟨t764, A30, H⟩ := H
  replace H : (if t764 = true then ((nat_Of.f k a0).bind fun t765 => ((nat_Of.f k a1).bind fun t768 => ((nat_Uint.f k t765).bind fun bt771 => (if bt771.2 = true then (if bt771.1 = a0 then ((nat_Right.f t765).bind fun t773 => (if t773 = true then (letterbaglaw03_NatWords.j0 k a0 a1 t765 t768 (decide ((t765.length : Int) > 2))) else (letterbaglaw03_NatWords.j0 k a0 a1 t765 t768 true))) else (letterbaglaw03_NatWords.j0 k a0 a1 t765 t768 true)) else (letterbaglaw03_NatWords.j0 k a0 a1 t765 t768 true))))) else (some false)) = some r := H
  have A3 := Aside0.mk A30
  clear A30
  by_cases c4 : t764 = true
  · subst c4
    have H1 : ((nat_Of.f k a0).bind fun t765 => ((nat_Of.f k a1).bind fun t768 => ((nat_Uint.f k t765).bind fun bt771 => (if bt771.2 = true then (if bt771.1 = a0 then ((nat_Right.f t765).bind fun t773 => (if t773 = true then (letterbaglaw03_NatWords.j0 k a0 a1 t765 t768 (decide ((t765.length : Int) > 2))) else (letterbaglaw03_NatWords.j0 k a0 a1 t765 t768 true))) else (letterbaglaw03_NatWords.j0 k a0 a1 t765 t768 true)) else (letterbaglaw03_NatWords.j0 k a0 a1 t765 t768 true))))) = some r := by rw [if_pos rfl] at H; exact H
    clear H
    have H := H1
    clear H1
    replace H := Option.bind_eq_some_iff.mp H
    obtain ⟨t765, A50, H⟩ := H
    replace H : ((nat_Of.f k a1).bind fun t768 => ((nat_Uint.f k t765).bind fun bt771 => (if bt771.2 = true then (if bt771.1 = a0 then ((nat_Right.f t765).bind fun t773 => (if t773 = true then (letterbaglaw03_NatWords.j0 k a0 a1 t765 t768 (decide ((t765.length : Int) > 2))) else (letterbaglaw03_NatWords.j0 k a0 a1 t765 t768 true))) else (letterbaglaw03_NatWords.j0 k a0 a1 t765 t768 true)) else (letterbaglaw03_NatWords.j0 k a0 a1 t765 t768 true)))) = some r := H
    have A5 := Aside0.mk A50
    clear A50
    replace H := Option.bind_eq_some_iff.mp H
    obtain ⟨t768, A60, H⟩ := H
    replace H : ((nat_Uint.f k t765).bind fun bt771 => (if bt771.2 = true then (if bt771.1 = a0 then ((nat_Right.f t765).bind fun t773 => (if t773 = true then (letterbaglaw03_NatWords.j0 k a0 a1 t765 t768 (decide ((t765.length : Int) > 2))) else (letterbaglaw03_NatWords.j0 k a0 a1 t765 t768 true))) else (letterbaglaw03_NatWords.j0 k a0 a1 t765 t768 true)) else (letterbaglaw03_NatWords.j0 k a0 a1 t765 t768 true))) = some r := H
    have A6 := Aside0.mk A60
    clear A60
    replace H := Option.bind_eq_some_iff.mp H
    obtain ⟨⟨t771, t772⟩, A70, H⟩ := H
    replace H : (if t772 = true then (if t771 = a0 then ((nat_Right.f t765).bind fun t773 => (if t773 = true then (letterbaglaw03_NatWords.j0 k a0 a1 t765 t768 (decide ((t765.length : Int) > 2))) else (letterbaglaw03_NatWords.j0 k a0 a1 t765 t768 true))) else (letterbaglaw03_NatWords.j0 k a0 a1 t765 t768 true)) else (letterbaglaw03_NatWords.j0 k a0 a1 t765 t768 true)) = some r := H
    have A7 := Aside0.mk A70
    clear A70
    have HC8 := Aside0.mk H
    clear H
    go_enter Tryd.func11, Tryd.ntmps11
    go_upto_region 5 with (first | ((with_reducible refine gate_callee (f := 12) rfl ?_); refine goesL_ (some 21) rfl rfl Tryd.func12 (by kernel_rfl) rfl #[] rfl (by (try simp only [List.map_toArray, List.map_cons, List.map_nil]); first | done | rfl | (simp only [List.length_drop, List.length_take]; rfl)) ?_; (with_reducible refine (letterbaglaw03_awake.calls k  true _ A3.out).mono ?_); rintro e w9 ⟨rfl, hb⟩; refine ⟨_, rfl, ?_⟩; have n0_ := Aside0.mk (below_step (by repeat (first | (with_reducible first | exact HB.out | apply below_alloc | apply pw_below_drewN | apply below_drew1) | exact HB.out)) hb); clear HB; have HB := n0_; clear n0_; (try clear hb); (try clear hb2); (try clear hk); (try clear hi)) | ((with_reducible refine gate_callee (f := 26) rfl ?_); refine goesL_ (some 24) rfl rfl Tryd.func26 (by kernel_rfl) rfl #[.int .u64 a0] rfl (by (try simp only [List.map_toArray, List.map_cons, List.map_nil]); first | done | rfl | (simp only [List.length_drop, List.length_take]; rfl)) ?_; (with_reducible refine (nat_Of.calls k a0 t765 _ A5.out).mono ?_); rintro e w10 ⟨v766, rfl, ho0, hb⟩; refine ⟨_, rfl, ?_⟩; have n0_ := Aside0.mk (Kd.V_lower (Kd.V_mono (ok' := fun k_ => True) ho0 (fun k_ hk_ => trivial)) (below_size (by repeat (first | (with_reducible first | exact HB.out | apply below_alloc | apply pw_below_drewN | apply below_drew1) | exact HB.out)))); have n1_ := Aside0.mk (below_step (by repeat (first | (with_reducible first | exact HB.out | apply below_alloc | apply pw_below_drewN | apply below_drew1) | exact HB.out)) hb); clear HB; have HO767 := n0_; have HB := n1_; clear n0_ n1_; (try clear hb); (try clear hb2); (try clear hk); (try clear hi); (try clear ho0)) | ((with_reducible refine gate_callee (f := 26) rfl ?_); refine goesL_ (some 26) rfl rfl Tryd.func26 (by kernel_rfl) rfl #[.int .u64 a1] rfl (by (try simp only [List.map_toArray, List.map_cons, List.map_nil]); first | done | rfl | (simp only [List.length_drop, List.length_take]; rfl)) ?_; (with_reducible refine (nat_Of.calls k a1 t768 _ A6.out).mono ?_); rintro e w11 ⟨v769, rfl, ho0, hb⟩; refine ⟨_, rfl, ?_⟩; have n0_ := Aside0.mk (Kd.V_below (by (with_reducible repeat (first | apply Kd.V_alloc | apply Kd.V_drewN | apply Kd.V_drew)); exact HO767.out) hb); have n1_ := Aside0.mk (Kd.V_lower (Kd.V_mono (ok' := fun k_ => True) ho0 (fun k_ hk_ => trivial)) (below_size (by repeat (first | (with_reducible first | exact HB.out | apply below_alloc | apply pw_below_drewN | apply below_drew1) | exact HB.out)))); have n2_ := Aside0.mk (below_step (by repeat (first | (with_reducible first | exact HB.out | apply below_alloc | apply pw_below_drewN | apply below_drew1) | exact HB.out)) hb); clear HO767; clear HB; have HO767 := n0_; have HO770 := n1_; have HB := n2_; clear n0_ n1_ n2_; (try clear hb); (try clear hb2); (try clear hk); (try clear hi); (try clear ho0); obtain ⟨Ao12, co12, eo12⟩ := Kd.V_slice HO767.out; subst eo12) | ((with_reducible refine gate_callee (f := 14) rfl ?_); refine goesL_ (some 29) rfl rfl Tryd.func14 (by kernel_rfl) rfl #[.slice Ao12 t765.length co12] rfl (by (try simp only [List.map_toArray, List.map_cons, List.map_nil]); first | done | rfl | (simp only [List.length_drop, List.length_take]; rfl)) ?_; (with_reducible refine (nat_Uint.calls k _ _ t765 t771 t772 _ ?side1 ?side2 A7.out).mono ?_); (case side1 => repeat (first | exact (Kd.V_reads' HO767.out).2.2 | (with_reducible refine Kd.C_alloc ?_ _) | (with_reducible refine Kd.C_drewN ?_ _) | (with_reducible refine Kd.C_drew ?_))); (case side2 => exact (Kd.V_reads' HO767.out).2.1); rintro e w' ⟨rfl, ⟨nd, rfl⟩⟩; refine ⟨_, rfl, ?_⟩))
    (try simp only [Act.put, List.setIfInBounds_toArray, List.set_cons_zero, List.set_cons_succ])
    go_cut [48] (fun v48 wc => ∃ (kq : Nat) (x48_7 : Bool), v48 = .bool x48_7 ∧ Aside0 (letterbaglaw03_NatWords.j0 kq a0 a1 t765 t768 x48_7 = some r) ∧ Aside0 (kq ≤ k) ∧ Aside0 (Kd.V (Kd.int .u32) 25 wc w.heap.size (fun _ => True) (.slice Ao12 t765.length co12) t765) ∧ Aside0 (Kd.V (Kd.int .u32) 25 wc w.heap.size (fun _ => True) v769 t768) ∧ Aside0 (Below w.heap.size w wc))
    case first =>
      have H := HC8.out
      clear HC8
      by_cases c13 : t772 = true
      · subst c13
        have H1 : (if t771 = a0 then ((nat_Right.f t765).bind fun t773 => (if t773 = true then (letterbaglaw03_NatWords.j0 k a0 a1 t765 t768 (decide ((t765.length : Int) > 2))) else (letterbaglaw03_NatWords.j0 k a0 a1 t765 t768 true))) else (letterbaglaw03_NatWords.j0 k a0 a1 t765 t768 true)) = some r := by rw [if_pos rfl] at H; exact H
        clear H
        have H := H1
        clear H1
        by_cases c14 : t771 = a0
        · rw [if_pos c14] at H
          have c14b0 : (t771 == a0) = true := beq_iff_eq.mpr c14
          have c14b1 : (t771 != a0) = false := bne_eq_false_iff_eq.mpr c14
          clear c14
          (first | rw [c14b0] | (simp only [i64_w, i32_w]; rw [c14b0]) | skip)
          replace H := Option.bind_eq_some_iff.mp H
          obtain ⟨t773, A150, H⟩ := H
          replace H : (if t773 = true then (letterbaglaw03_NatWords.j0 k a0 a1 t765 t768 (decide ((t765.length : Int) > 2))) else (letterbaglaw03_NatWords.j0 k a0 a1 t765 t768 true)) = some r := H
          have A15 := Aside0.mk A150
          clear A150
          by_cases c16 : t773 = true
          · subst c16
            have H1 : (letterbaglaw03_NatWords.j0 k a0 a1 t765 t768 (decide ((t765.length : Int) > 2))) = some r := by rw [if_pos rfl] at H; exact H
            clear H
            have H := H1
            clear H1
            have H' := Aside0.mk H
            clear H
            go_wp2_with (first | (go_at_call 15; (with_reducible refine (nat_Right.calls _ _ t765 true _ ?side1 ?side2 A15.out).mono ?_); (case side1 => repeat (first | exact (Kd.V_reads' HO767.out).2.2 | (with_reducible refine Kd.C_alloc ?_ _) | (with_reducible refine Kd.C_drewN ?_ _) | (with_reducible refine Kd.C_drew ?_))); (case side2 => exact (Kd.V_reads' HO767.out).2.1); rintro e w' ⟨rfl, ⟨nd, rfl⟩⟩))
            go_meet
            case rel => exact ⟨_, (decide ((t765.length : Int) > 2)), (by first | rfl | (simp; done) | (simp [*]; done)), H', ⟨by first | omega | exact Nat.le_refl _⟩, ⟨by (with_reducible repeat (first | apply Kd.V_alloc | apply Kd.V_drewN | apply Kd.V_drew)); exact HO767.out⟩, ⟨by (with_reducible repeat (first | apply Kd.V_alloc | apply Kd.V_drewN | apply Kd.V_drew)); exact HO770.out⟩, ⟨by repeat (first | (with_reducible first | exact HB.out | apply below_alloc | apply pw_below_drewN | apply below_drew1) | exact HB.out)⟩⟩
          · replace c16 := Bool.eq_false_iff.mpr c16
            subst c16
            have H1 : (letterbaglaw03_NatWords.j0 k a0 a1 t765 t768 true) = some r := by rw [if_neg (show ¬ (false = true) by decide)] at H; exact H
            clear H
            have H := H1
            clear H1
            have H' := Aside0.mk H
            clear H
            go_wp2_with (first | (go_at_call 15; (with_reducible refine (nat_Right.calls _ _ t765 false _ ?side1 ?side2 A15.out).mono ?_); (case side1 => repeat (first | exact (Kd.V_reads' HO767.out).2.2 | (with_reducible refine Kd.C_alloc ?_ _) | (with_reducible refine Kd.C_drewN ?_ _) | (with_reducible refine Kd.C_drew ?_))); (case side2 => exact (Kd.V_reads' HO767.out).2.1); rintro e w' ⟨rfl, ⟨nd, rfl⟩⟩))
            go_meet
            case rel => exact ⟨_, (true), (by first | rfl | (simp; done) | (simp [*]; done)), H', ⟨by first | omega | exact Nat.le_refl _⟩, ⟨by (with_reducible repeat (first | apply Kd.V_alloc | apply Kd.V_drewN | apply Kd.V_drew)); exact HO767.out⟩, ⟨by (with_reducible repeat (first | apply Kd.V_alloc | apply Kd.V_drewN | apply Kd.V_drew)); exact HO770.out⟩, ⟨by repeat (first | (with_reducible first | exact HB.out | apply below_alloc | apply pw_below_drewN | apply below_drew1) | exact HB.out)⟩⟩
        · rw [if_neg c14] at H
          have c14b0 : (t771 == a0) = false := beq_eq_false_iff_ne.mpr c14
          have c14b1 : (t771 != a0) = true := bne_iff_ne.mpr c14
          (first | rw [c14b0] | (simp only [i64_w, i32_w]; rw [c14b0]) | skip)
          have H' := Aside0.mk H
          clear H
          go_wp2
          go_meet
          case rel => exact ⟨_, (true), (by first | rfl | (simp; done) | (simp [*]; done)), H', ⟨by first | omega | exact Nat.le_refl _⟩, ⟨by (with_reducible repeat (first | apply Kd.V_alloc | apply Kd.V_drewN | apply Kd.V_drew)); exact HO767.out⟩, ⟨by (with_reducible repeat (first | apply Kd.V_alloc | apply Kd.V_drewN | apply Kd.V_drew)); exact HO770.out⟩, ⟨by repeat (first | (with_reducible first | exact HB.out | apply below_alloc | apply pw_below_drewN | apply below_drew1) | exact HB.out)⟩⟩
      · replace c13 := Bool.eq_false_iff.mpr c13
        subst c13
        have H1 : (letterbaglaw03_NatWords.j0 k a0 a1 t765 t768 true) = some r := by rw [if_neg (show ¬ (false = true) by decide)] at H; exact H
        clear H
        have H := H1
        clear H1
        have H' := Aside0.mk H
        clear H
        go_wp2
        go_meet
        case rel => exact ⟨_, (true), (by first | rfl | (simp; done) | (simp [*]; done)), H', ⟨by first | omega | exact Nat.le_refl _⟩, ⟨by (with_reducible repeat (first | apply Kd.V_alloc | apply Kd.V_drewN | apply Kd.V_drew)); exact HO767.out⟩, ⟨by (with_reducible repeat (first | apply Kd.V_alloc | apply Kd.V_drewN | apply Kd.V_drew)); exact HO770.out⟩, ⟨by repeat (first | (with_reducible first | exact HB.out | apply below_alloc | apply pw_below_drewN | apply below_drew1) | exact HB.out)⟩⟩
    case rest =>
      clear HC8
      try clear c1
      try clear c2
      try clear p2
      try clear c4
      try clear c11
      try clear c12
      try clear c13
      try clear c14
      try clear c14b0
      try clear c14b1
      try clear c16
      try clear HO_5
      try clear HO_6
      obtain ⟨kq, x48_7, rfl, HA, HJ7, HO_5, HO_6, HB⟩ := hcut
      cases kq with
      | zero => exact absurd HA.out (by simp [letterbaglaw03_NatWords.j0])
      | succ kj7 =>
        have H := HA.out
        clear HA
        simp only [letterbaglaw03_NatWords.j0] at H
        by_cases c17 : x48_7 = true
        · subst c17
          have H1 : (some false) = some r := by rw [if_pos rfl] at H; exact H
          clear H
          have H := H1
          clear H1
          obtain rfl := Option.some.inj H
          go_wp2
          go_ret
          exact ⟨by first | rfl | (simp [errW_none, errW_some] <;> rfl) | (simp [*, errW_none, errW_some] <;> rfl), by repeat (first | (with_reducible first | exact HB.out | apply below_alloc | apply pw_below_drewN | apply below_drew1) | exact HB.out)⟩
        · replace c17 := Bool.eq_false_iff.mpr c17
          subst c17
          have H1 : ((nat_Of.f kj7 (a0 / 2)).bind fun t774 => ((nat_Of.f kj7 (a1 / 2)).bind fun t777 => ((nat_Add.f t774 t777).bind fun bt780 => ((nat_Of.f kj7 (a0 / 4294967296)).bind fun t784 => ((nat_Of.f kj7 (a1 / 4294967296)).bind fun t787 => ((nat_Mul.f kj7 t784 t787).bind fun bt790 => ((nat_Uint.f kj7 bt780.1).bind fun bt794 => ((nat_Uint.f kj7 bt790.1).bind fun bt796 => (if (wrap64 (bt780.2 + bt790.2)) = 0 then (if bt794.2 = true then (if bt796.2 = true then (if bt794.1 = (IntKind.u64.wrap ((a0 / 2) + (a1 / 2))) then (letterbaglaw03_NatWords.j1 kj7 a0 a1 t765 t768 (bt796.1 != (IntKind.u64.wrap ((a0 / 4294967296) * (a1 / 4294967296))))) else (letterbaglaw03_NatWords.j1 kj7 a0 a1 t765 t768 true)) else (letterbaglaw03_NatWords.j1 kj7 a0 a1 t765 t768 true)) else (letterbaglaw03_NatWords.j1 kj7 a0 a1 t765 t768 true)) else (letterbaglaw03_NatWords.j1 kj7 a0 a1 t765 t768 true)))))))))) = some r := by rw [if_neg (show ¬ (false = true) by decide)] at H; exact H
          clear H
          have H := H1
          clear H1
          replace H := Option.bind_eq_some_iff.mp H
          obtain ⟨t774, A180, H⟩ := H
          replace H : ((nat_Of.f kj7 (a1 / 2)).bind fun t777 => ((nat_Add.f t774 t777).bind fun bt780 => ((nat_Of.f kj7 (a0 / 4294967296)).bind fun t784 => ((nat_Of.f kj7 (a1 / 4294967296)).bind fun t787 => ((nat_Mul.f kj7 t784 t787).bind fun bt790 => ((nat_Uint.f kj7 bt780.1).bind fun bt794 => ((nat_Uint.f kj7 bt790.1).bind fun bt796 => (if (wrap64 (bt780.2 + bt790.2)) = 0 then (if bt794.2 = true then (if bt796.2 = true then (if bt794.1 = (IntKind.u64.wrap ((a0 / 2) + (a1 / 2))) then (letterbaglaw03_NatWords.j1 kj7 a0 a1 t765 t768 (bt796.1 != (IntKind.u64.wrap ((a0 / 4294967296) * (a1 / 4294967296))))) else (letterbaglaw03_NatWords.j1 kj7 a0 a1 t765 t768 true)) else (letterbaglaw03_NatWords.j1 kj7 a0 a1 t765 t768 true)) else (letterbaglaw03_NatWords.j1 kj7 a0 a1 t765 t768 true)) else (letterbaglaw03_NatWords.j1 kj7 a0 a1 t765 t768 true))))))))) = some r := H
          have A18 := Aside0.mk A180
          clear A180
          replace H := Option.bind_eq_some_iff.mp H
          obtain ⟨t777, A190, H⟩ := H
          replace H : ((nat_Add.f t774 t777).bind fun bt780 => ((nat_Of.f kj7 (a0 / 4294967296)).bind fun t784 => ((nat_Of.f kj7 (a1 / 4294967296)).bind fun t787 => ((nat_Mul.f kj7 t784 t787).bind fun bt790 => ((nat_Uint.f kj7 bt780.1).bind fun bt794 => ((nat_Uint.f kj7 bt790.1).bind fun bt796 => (if (wrap64 (bt780.2 + bt790.2)) = 0 then (if bt794.2 = true then (if bt796.2 = true then (if bt794.1 = (IntKind.u64.wrap ((a0 / 2) + (a1 / 2))) then (letterbaglaw03_NatWords.j1 kj7 a0 a1 t765 t768 (bt796.1 != (IntKind.u64.wrap ((a0 / 4294967296) * (a1 / 4294967296))))) else (letterbaglaw03_NatWords.j1 kj7 a0 a1 t765 t768 true)) else (letterbaglaw03_NatWords.j1 kj7 a0 a1 t765 t768 true)) else (letterbaglaw03_NatWords.j1 kj7 a0 a1 t765 t768 true)) else (letterbaglaw03_NatWords.j1 kj7 a0 a1 t765 t768 true)))))))) = some r := H
          have A19 := Aside0.mk A190
          clear A190
          replace H := Option.bind_eq_some_iff.mp H
          obtain ⟨⟨t780, t783⟩, A200, H⟩ := H
          replace H : ((nat_Of.f kj7 (a0 / 4294967296)).bind fun t784 => ((nat_Of.f kj7 (a1 / 4294967296)).bind fun t787 => ((nat_Mul.f kj7 t784 t787).bind fun bt790 => ((nat_Uint.f kj7 t780).bind fun bt794 => ((nat_Uint.f kj7 bt790.1).bind fun bt796 => (if (wrap64 (t783 + bt790.2)) = 0 then (if bt794.2 = true then (if bt796.2 = true then (if bt794.1 = (IntKind.u64.wrap ((a0 / 2) + (a1 / 2))) then (letterbaglaw03_NatWords.j1 kj7 a0 a1 t765 t768 (bt796.1 != (IntKind.u64.wrap ((a0 / 4294967296) * (a1 / 4294967296))))) else (letterbaglaw03_NatWords.j1 kj7 a0 a1 t765 t768 true)) else (letterbaglaw03_NatWords.j1 kj7 a0 a1 t765 t768 true)) else (letterbaglaw03_NatWords.j1 kj7 a0 a1 t765 t768 true)) else (letterbaglaw03_NatWords.j1 kj7 a0 a1 t765 t768 true))))))) = some r := H
          have A20 := Aside0.mk A200
          clear A200
          replace H := Option.bind_eq_some_iff.mp H
          obtain ⟨t784, A210, H⟩ := H
          replace H : ((nat_Of.f kj7 (a1 / 4294967296)).bind fun t787 => ((nat_Mul.f kj7 t784 t787).bind fun bt790 => ((nat_Uint.f kj7 t780).bind fun bt794 => ((nat_Uint.f kj7 bt790.1).bind fun bt796 => (if (wrap64 (t783 + bt790.2)) = 0 then (if bt794.2 = true then (if bt796.2 = true then (if bt794.1 = (IntKind.u64.wrap ((a0 / 2) + (a1 / 2))) then (letterbaglaw03_NatWords.j1 kj7 a0 a1 t765 t768 (bt796.1 != (IntKind.u64.wrap ((a0 / 4294967296) * (a1 / 4294967296))))) else (letterbaglaw03_NatWords.j1 kj7 a0 a1 t765 t768 true)) else (letterbaglaw03_NatWords.j1 kj7 a0 a1 t765 t768 true)) else (letterbaglaw03_NatWords.j1 kj7 a0 a1 t765 t768 true)) else (letterbaglaw03_NatWords.j1 kj7 a0 a1 t765 t768 true)))))) = some r := H
          have A21 := Aside0.mk A210
          clear A210
          replace H := Option.bind_eq_some_iff.mp H
          obtain ⟨t787, A220, H⟩ := H
          replace H : ((nat_Mul.f kj7 t784 t787).bind fun bt790 => ((nat_Uint.f kj7 t780).bind fun bt794 => ((nat_Uint.f kj7 bt790.1).bind fun bt796 => (if (wrap64 (t783 + bt790.2)) = 0 then (if bt794.2 = true then (if bt796.2 = true then (if bt794.1 = (IntKind.u64.wrap ((a0 / 2) + (a1 / 2))) then (letterbaglaw03_NatWords.j1 kj7 a0 a1 t765 t768 (bt796.1 != (IntKind.u64.wrap ((a0 / 4294967296) * (a1 / 4294967296))))) else (letterbaglaw03_NatWords.j1 kj7 a0 a1 t765 t768 true)) else (letterbaglaw03_NatWords.j1 kj7 a0 a1 t765 t768 true)) else (letterbaglaw03_NatWords.j1 kj7 a0 a1 t765 t768 true)) else (letterbaglaw03_NatWords.j1 kj7 a0 a1 t765 t768 true))))) = some r := H
          have A22 := Aside0.mk A220
          clear A220
          replace H := Option.bind_eq_some_iff.mp H
          obtain ⟨⟨t790, t793⟩, A230, H⟩ := H
          replace H : ((nat_Uint.f kj7 t780).bind fun bt794 => ((nat_Uint.f kj7 t790).bind fun bt796 => (if (wrap64 (t783 + t793)) = 0 then (if bt794.2 = true then (if bt796.2 = true then (if bt794.1 = (IntKind.u64.wrap ((a0 / 2) + (a1 / 2))) then (letterbaglaw03_NatWords.j1 kj7 a0 a1 t765 t768 (bt796.1 != (IntKind.u64.wrap ((a0 / 4294967296) * (a1 / 4294967296))))) else (letterbaglaw03_NatWords.j1 kj7 a0 a1 t765 t768 true)) else (letterbaglaw03_NatWords.j1 kj7 a0 a1 t765 t768 true)) else (letterbaglaw03_NatWords.j1 kj7 a0 a1 t765 t768 true)) else (letterbaglaw03_NatWords.j1 kj7 a0 a1 t765 t768 true)))) = some r := H
          have A23 := Aside0.mk A230
          clear A230
          replace H := Option.bind_eq_some_iff.mp H
          obtain ⟨⟨t794, t795⟩, A240, H⟩ := H
          replace H : ((nat_Uint.f kj7 t790).bind fun bt796 => (if (wrap64 (t783 + t793)) = 0 then (if t795 = true then (if bt796.2 = true then (if t794 = (IntKind.u64.wrap ((a0 / 2) + (a1 / 2))) then (letterbaglaw03_NatWords.j1 kj7 a0 a1 t765 t768 (bt796.1 != (IntKind.u64.wrap ((a0 / 4294967296) * (a1 / 4294967296))))) else (letterbaglaw03_NatWords.j1 kj7 a0 a1 t765 t768 true)) else (letterbaglaw03_NatWords.j1 kj7 a0 a1 t765 t768 true)) else (letterbaglaw03_NatWords.j1 kj7 a0 a1 t765 t768 true)) else (letterbaglaw03_NatWords.j1 kj7 a0 a1 t765 t768 true))) = some r := H
          have A24 := Aside0.mk A240
          clear A240
          replace H := Option.bind_eq_some_iff.mp H
          obtain ⟨⟨t796, t797⟩, A250, H⟩ := H
          replace H : (if (wrap64 (t783 + t793)) = 0 then (if t795 = true then (if t797 = true then (if t794 = (IntKind.u64.wrap ((a0 / 2) + (a1 / 2))) then (letterbaglaw03_NatWords.j1 kj7 a0 a1 t765 t768 (t796 != (IntKind.u64.wrap ((a0 / 4294967296) * (a1 / 4294967296))))) else (letterbaglaw03_NatWords.j1 kj7 a0 a1 t765 t768 true)) else (letterbaglaw03_NatWords.j1 kj7 a0 a1 t765 t768 true)) else (letterbaglaw03_NatWords.j1 kj7 a0 a1 t765 t768 true)) else (letterbaglaw03_NatWords.j1 kj7 a0 a1 t765 t768 true)) = some r := H
          have A25 := Aside0.mk A250
          clear A250
          have HC26 := Aside0.mk H
          clear H
          go_upto_region 11 with (first | ((with_reducible refine gate_callee (f := 26) rfl ?_); refine goesL_ (some 52) rfl rfl Tryd.func26 (by kernel_rfl) rfl #[.int .u64 (a0 / 2)] rfl (by (try simp only [List.map_toArray, List.map_cons, List.map_nil]); first | done | rfl | (simp only [List.length_drop, List.length_take]; rfl)) ?_; (with_reducible refine (nat_Of.calls kj7 (a0 / 2) t774 _ A18.out).mono ?_); rintro e w27 ⟨v775, rfl, ho0, hb⟩; refine ⟨_, rfl, ?_⟩; have n0_ := Aside0.mk (Kd.V_below (by (with_reducible repeat (first | apply Kd.V_alloc | apply Kd.V_drewN | apply Kd.V_drew)); exact HO_5.out) hb); have n1_ := Aside0.mk (Kd.V_below (by (with_reducible repeat (first | apply Kd.V_alloc | apply Kd.V_drewN | apply Kd.V_drew)); exact HO_6.out) hb); have n2_ := Aside0.mk (Kd.V_lower (Kd.V_mono (ok' := fun k_ => True) ho0 (fun k_ hk_ => trivial)) (below_size (by repeat (first | (with_reducible first | exact HB.out | apply below_alloc | apply pw_below_drewN | apply below_drew1) | exact HB.out)))); have n3_ := Aside0.mk (below_step (by repeat (first | (with_reducible first | exact HB.out | apply below_alloc | apply pw_below_drewN | apply below_drew1) | exact HB.out)) hb); clear HO_5; clear HO_6; clear HB; have HO_5 := n0_; have HO_6 := n1_; have HO776 := n2_; have HB := n3_; clear n0_ n1_ n2_ n3_; (try clear hb); (try clear hb2); (try clear hk); (try clear hi); (try clear ho0)) | ((with_reducible refine gate_callee (f := 26) rfl ?_); refine goesL_ (some 55) rfl rfl Tryd.func26 (by kernel_rfl) rfl #[.int .u64 (a1 / 2)] rfl (by (try simp only [List.map_toArray, List.map_cons, List.map_nil]); first | done | rfl | (simp only [List.length_drop, List.length_take]; rfl)) ?_; (with_reducible refine (nat_Of.calls kj7 (a1 / 2) t777 _ A19.out).mono ?_); rintro e w28 ⟨v778, rfl, ho0, hb⟩; refine ⟨_, rfl, ?_⟩; have n0_ := Aside0.mk (Kd.V_below (by (with_reducible repeat (first | apply Kd.V_alloc | apply Kd.V_drewN | apply Kd.V_drew)); exact HO_5.out) hb); have n1_ := Aside0.mk (Kd.V_below (by (with_reducible repeat (first | apply Kd.V_alloc | apply Kd.V_drewN | apply Kd.V_drew)); exact HO_6.out) hb); have n2_ := Aside0.mk (Kd.V_below (by (with_reducible repeat (first | apply Kd.V_alloc | apply Kd.V_drewN | apply Kd.V_drew)); exact HO776.out) hb); have n3_ := Aside0.mk (Kd.V_lower (Kd.V_mono (ok' := fun k_ => True) ho0 (fun k_ hk_ => trivial)) (below_size (by repeat (first | (with_reducible first | exact HB.out | apply below_alloc | apply pw_below_drewN | apply below_drew1) | exact HB.out)))); have n4_ := Aside0.mk (below_step (by repeat (first | (with_reducible first | exact HB.out | apply below_alloc | apply pw_below_drewN | apply below_drew1) | exact HB.out)) hb); clear HO_5; clear HO_6; clear HO776; clear HB; have HO_5 := n0_; have HO_6 := n1_; have HO776 := n2_; have HO779 := n3_; have HB := n4_; clear n0_ n1_ n2_ n3_ n4_; (try clear hb); (try clear hb2); (try clear hk); (try clear hi); (try clear ho0); obtain ⟨Ao29, co29, eo29⟩ := Kd.V_slice HO776.out; subst eo29; obtain ⟨Ao30, co30, eo30⟩ := Kd.V_slice HO779.out; subst eo30) | ((with_reducible refine gate_callee (f := 17) rfl ?_); refine goesL_ (some 56) rfl rfl Tryd.func17 (by kernel_rfl) rfl #[.slice Ao29 t774.length co29, .slice Ao30 t777.length co30] rfl (by (try simp only [List.map_toArray, List.map_cons, List.map_nil]); first | done | rfl | (simp only [List.length_drop, List.length_take]; rfl)) ?_; (with_reducible refine (nat_Add.calls _ _ t774 _ _ t777 t780 t783 _ ?side1 ?side2 ?side3 ?side4 A20.out).mono ?_); (case side1 => repeat (first | exact (Kd.V_reads' HO776.out).2.2 | (with_reducible refine Kd.C_alloc ?_ _) | (with_reducible refine Kd.C_drewN ?_ _) | (with_reducible refine Kd.C_drew ?_))); (case side2 => exact (Kd.V_reads' HO776.out).2.1); (case side3 => repeat (first | exact (Kd.V_reads' HO779.out).2.2 | (with_reducible refine Kd.C_alloc ?_ _) | (with_reducible refine Kd.C_drewN ?_ _) | (with_reducible refine Kd.C_drew ?_))); (case side4 => exact (Kd.V_reads' HO779.out).2.1); rintro e w31 ⟨v781, rfl, ho0, hb⟩; refine ⟨_, rfl, ?_⟩; have n0_ := Aside0.mk (Kd.V_below (by (with_reducible repeat (first | apply Kd.V_alloc | apply Kd.V_drewN | apply Kd.V_drew)); exact HO_5.out) hb); have n1_ := Aside0.mk (Kd.V_below (by (with_reducible repeat (first | apply Kd.V_alloc | apply Kd.V_drewN | apply Kd.V_drew)); exact HO_6.out) hb); have n2_ := Aside0.mk (Kd.V_below (by (with_reducible repeat (first | apply Kd.V_alloc | apply Kd.V_drewN | apply Kd.V_drew)); exact HO776.out) hb); have n3_ := Aside0.mk (Kd.V_below (by (with_reducible repeat (first | apply Kd.V_alloc | apply Kd.V_drewN | apply Kd.V_drew)); exact HO779.out) hb); have n4_ := Aside0.mk (Kd.V_lower (Kd.V_mono (ok' := fun k_ => True) ho0 (fun k_ hk_ => trivial)) (below_size (by repeat (first | (with_reducible first | exact HB.out | apply below_alloc | apply pw_below_drewN | apply below_drew1) | exact HB.out)))); have n5_ := Aside0.mk (below_step (by repeat (first | (with_reducible first | exact HB.out | apply below_alloc | apply pw_below_drewN | apply below_drew1) | exact HB.out)) hb); clear HO_5; clear HO_6; clear HO776; clear HO779; clear HB; have HO_5 := n0_; have HO_6 := n1_; have HO776 := n2_; have HO779 := n3_; have HO782 := n4_; have HB := n5_; clear n0_ n1_ n2_ n3_ n4_ n5_; (try clear hb); (try clear hb2); (try clear hk); (try clear hi); (try clear ho0)) | ((with_reducible refine gate_callee (f := 26) rfl ?_); refine goesL_ (some 62) rfl rfl Tryd.func26 (by kernel_rfl) rfl #[.int .u64 (a0 / 4294967296)] rfl (by (try simp only [List.map_toArray, List.map_cons, List.map_nil]); first | done | rfl | (simp only [List.length_drop, List.length_take]; rfl)) ?_; (with_reducible refine (nat_Of.calls kj7 (a0 / 4294967296) t784 _ A21.out).mono ?_); rintro e w32 ⟨v785, rfl, ho0, hb⟩; refine ⟨_, rfl, ?_⟩; have n0_ := Aside0.mk (Kd.V_below (by (with_reducible repeat (first | apply Kd.V_alloc | apply Kd.V_drewN | apply Kd.V_drew)); exact HO_5.out) hb); have n1_ := Aside0.mk (Kd.V_below (by (with_reducible repeat (first | apply Kd.V_alloc | apply Kd.V_drewN | apply Kd.V_drew)); exact HO_6.out) hb); have n2_ := Aside0.mk (Kd.V_below (by (with_reducible repeat (first | apply Kd.V_alloc | apply Kd.V_drewN | apply Kd.V_drew)); exact HO776.out) hb); have n3_ := Aside0.mk (Kd.V_below (by (with_reducible repeat (first | apply Kd.V_alloc | apply Kd.V_drewN | apply Kd.V_drew)); exact HO779.out) hb); have n4_ := Aside0.mk (Kd.V_below (by (with_reducible repeat (first | apply Kd.V_alloc | apply Kd.V_drewN | apply Kd.V_drew)); exact HO782.out) hb); have n5_ := Aside0.mk (Kd.V_lower (Kd.V_mono (ok' := fun k_ => True) ho0 (fun k_ hk_ => trivial)) (below_size (by repeat (first | (with_reducible first | exact HB.out | apply below_alloc | apply pw_below_drewN | apply below_drew1) | exact HB.out)))); have n6_ := Aside0.mk (below_step (by repeat (first | (with_reducible first | exact HB.out | apply below_alloc | apply pw_below_drewN | apply below_drew1) | exact HB.out)) hb); clear HO_5; clear HO_6; clear HO776; clear HO779; clear HO782; clear HB; have HO_5 := n0_; have HO_6 := n1_; have HO776 := n2_; have HO779 := n3_; have HO782 := n4_; have HO786 := n5_; have HB := n6_; clear n0_ n1_ n2_ n3_ n4_ n5_ n6_; (try clear hb); (try clear hb2); (try clear hk); (try clear hi); (try clear ho0)) | ((with_reducible refine gate_callee (f := 26) rfl ?_); refine goesL_ (some 65) rfl rfl Tryd.func26 (by kernel_rfl) rfl #[.int .u64 (a1 / 4294967296)] rfl (by (try simp only [List.map_toArray, List.map_cons, List.map_nil]); first | done | rfl | (simp only [List.length_drop, List.length_take]; rfl)) ?_; (with_reducible refine (nat_Of.calls kj7 (a1 / 4294967296) t787 _ A22.out).mono ?_); rintro e w33 ⟨v788, rfl, ho0, hb⟩; refine ⟨_, rfl, ?_⟩; have n0_ := Aside0.mk (Kd.V_below (by (with_reducible repeat (first | apply Kd.V_alloc | apply Kd.V_drewN | apply Kd.V_drew)); exact HO_5.out) hb); have n1_ := Aside0.mk (Kd.V_below (by (with_reducible repeat (first | apply Kd.V_alloc | apply Kd.V_drewN | apply Kd.V_drew)); exact HO_6.out) hb); have n2_ := Aside0.mk (Kd.V_below (by (with_reducible repeat (first | apply Kd.V_alloc | apply Kd.V_drewN | apply Kd.V_drew)); exact HO776.out) hb); have n3_ := Aside0.mk (Kd.V_below (by (with_reducible repeat (first | apply Kd.V_alloc | apply Kd.V_drewN | apply Kd.V_drew)); exact HO779.out) hb); have n4_ := Aside0.mk (Kd.V_below (by (with_reducible repeat (first | apply Kd.V_alloc | apply Kd.V_drewN | apply Kd.V_drew)); exact HO782.out) hb); have n5_ := Aside0.mk (Kd.V_below (by (with_reducible repeat (first | apply Kd.V_alloc | apply Kd.V_drewN | apply Kd.V_drew)); exact HO786.out) hb); have n6_ := Aside0.mk (Kd.V_lower (Kd.V_mono (ok' := fun k_ => True) ho0 (fun k_ hk_ => trivial)) (below_size (by repeat (first | (with_reducible first | exact HB.out | apply below_alloc | apply pw_below_drewN | apply below_drew1) | exact HB.out)))); have n7_ := Aside0.mk (below_step (by repeat (first | (with_reducible first | exact HB.out | apply below_alloc | apply pw_below_drewN | apply below_drew1) | exact HB.out)) hb); clear HO_5; clear HO_6; clear HO776; clear HO779; clear HO782; clear HO786; clear HB; have HO_5 := n0_; have HO_6 := n1_; have HO776 := n2_; have HO779 := n3_; have HO782 := n4_; have HO786 := n5_; have HO789 := n6_; have HB := n7_; clear n0_ n1_ n2_ n3_ n4_ n5_ n6_ n7_; (try clear hb); (try clear hb2); (try clear hk); (try clear hi); (try clear ho0); obtain ⟨Ao34, co34, eo34⟩ := Kd.V_slice HO786.out; subst eo34; obtain ⟨Ao35, co35, eo35⟩ := Kd.V_slice HO789.out; subst eo35) | ((with_reducible refine gate_callee (f := 19) rfl ?_); refine goesL_ (some 66) rfl rfl Tryd.func19 (by kernel_rfl) rfl #[.slice Ao34 t784.length co34, .slice Ao35 t787.length co35] rfl (by (try simp only [List.map_toArray, List.map_cons, List.map_nil]); first | done | rfl | (simp only [List.length_drop, List.length_take]; rfl)) ?_; (with_reducible refine (nat_Mul.calls kj7 _ _ t784 _ _ t787 t790 t793 _ ?side1 ?side2 ?side3 ?side4 A23.out).mono ?_); (case side1 => repeat (first | exact (Kd.V_reads' HO786.out).2.2 | (with_reducible refine Kd.C_alloc ?_ _) | (with_reducible refine Kd.C_drewN ?_ _) | (with_reducible refine Kd.C_drew ?_))); (case side2 => exact (Kd.V_reads' HO786.out).2.1); (case side3 => repeat (first | exact (Kd.V_reads' HO789.out).2.2 | (with_reducible refine Kd.C_alloc ?_ _) | (with_reducible refine Kd.C_drewN ?_ _) | (with_reducible refine Kd.C_drew ?_))); (case side4 => exact (Kd.V_reads' HO789.out).2.1); rintro e w36 ⟨v791, rfl, ho0, hb⟩; refine ⟨_, rfl, ?_⟩; have n0_ := Aside0.mk (Kd.V_below (by (with_reducible repeat (first | apply Kd.V_alloc | apply Kd.V_drewN | apply Kd.V_drew)); exact HO_5.out) hb); have n1_ := Aside0.mk (Kd.V_below (by (with_reducible repeat (first | apply Kd.V_alloc | apply Kd.V_drewN | apply Kd.V_drew)); exact HO_6.out) hb); have n2_ := Aside0.mk (Kd.V_below (by (with_reducible repeat (first | apply Kd.V_alloc | apply Kd.V_drewN | apply Kd.V_drew)); exact HO776.out) hb); have n3_ := Aside0.mk (Kd.V_below (by (with_reducible repeat (first | apply Kd.V_alloc | apply Kd.V_drewN | apply Kd.V_drew)); exact HO779.out) hb); have n4_ := Aside0.mk (Kd.V_below (by (with_reducible repeat (first | apply Kd.V_alloc | apply Kd.V_drewN | apply Kd.V_drew)); exact HO782.out) hb); have n5_ := Aside0.mk (Kd.V_below (by (with_reducible repeat (first | apply Kd.V_alloc | apply Kd.V_drewN | apply Kd.V_drew)); exact HO786.out) hb); have n6_ := Aside0.mk (Kd.V_below (by (with_reducible repeat (first | apply Kd.V_alloc | apply Kd.V_drewN | apply Kd.V_drew)); exact HO789.out) hb); have n7_ := Aside0.mk (Kd.V_lower (Kd.V_mono (ok' := fun k_ => True) ho0 (fun k_ hk_ => trivial)) (below_size (by repeat (first | (with_reducible first | exact HB.out | apply below_alloc | apply pw_below_drewN | apply below_drew1) | exact HB.out)))); have n8_ := Aside0.mk (below_step (by repeat (first | (with_reducible first | exact HB.out | apply below_alloc | apply pw_below_drewN | apply below_drew1) | exact HB.out)) hb); clear HO_5; clear HO_6; clear HO776; clear HO779; clear HO782; clear HO786; clear HO789; clear HB; have HO_5 := n0_; have HO_6 := n1_; have HO776 := n2_; have HO779 := n3_; have HO782 := n4_; have HO786 := n5_; have HO789 := n6_; have HO792 := n7_; have HB := n8_; clear n0_ n1_ n2_ n3_ n4_ n5_ n6_ n7_ n8_; (try clear hb); (try clear hb2); (try clear hk); (try clear hi); (try clear ho0); obtain ⟨Ao37, co37, eo37⟩ := Kd.V_slice HO782.out; subst eo37) | ((with_reducible refine gate_callee (f := 14) rfl ?_); refine goesL_ (some 71) rfl rfl Tryd.func14 (by kernel_rfl) rfl #[.slice Ao37 t780.length co37] rfl (by (try simp only [List.map_toArray, List.map_cons, List.map_nil]); first | done | rfl | (simp only [List.length_drop, List.length_take]; rfl)) ?_; (with_reducible refine (nat_Uint.calls kj7 _ _ t780 t794 t795 _ ?side1 ?side2 A24.out).mono ?_); (case side1 => repeat (first | exact (Kd.V_reads' HO782.out).2.2 | (with_reducible refine Kd.C_alloc ?_ _) | (with_reducible refine Kd.C_drewN ?_ _) | (with_reducible refine Kd.C_drew ?_))); (case side2 => exact (Kd.V_reads' HO782.out).2.1); rintro e w' ⟨rfl, ⟨nd, rfl⟩⟩; refine ⟨_, rfl, ?_⟩; obtain ⟨Ao38, co38, eo38⟩ := Kd.V_slice HO792.out; subst eo38) | ((with_reducible refine gate_callee (f := 14) rfl ?_); refine goesL_ (some 76) rfl rfl Tryd.func14 (by kernel_rfl) rfl #[.slice Ao38 t790.length co38] rfl (by (try simp only [List.map_toArray, List.map_cons, List.map_nil]); first | done | rfl | (simp only [List.length_drop, List.length_take]; rfl)) ?_; (with_reducible refine (nat_Uint.calls kj7 _ _ t790 t796 t797 _ ?side1 ?side2 A25.out).mono ?_); (case side1 => repeat (first | exact (Kd.V_reads' HO792.out).2.2 | (with_reducible refine Kd.C_alloc ?_ _) | (with_reducible refine Kd.C_drewN ?_ _) | (with_reducible refine Kd.C_drew ?_))); (case side2 => exact (Kd.V_reads' HO792.out).2.1); rintro e w' ⟨rfl, ⟨nd, rfl⟩⟩; refine ⟨_, rfl, ?_⟩))
          (try simp only [Act.put, List.setIfInBounds_toArray, List.set_cons_zero, List.set_cons_succ])
          go_cut [108] (fun v108 wc => ∃ (kq : Nat) (x108_25 : Bool), v108 = .bool x108_25 ∧ Aside0 (letterbaglaw03_NatWords.j1 kq a0 a1 t765 t768 x108_25 = some r) ∧ Aside0 (kq ≤ kj7) ∧ Aside0 (Kd.V (Kd.int .u32) 25 wc w.heap.size (fun _ => True) (.slice Ao12 t765.length co12) t765) ∧ Aside0 (Kd.V (Kd.int .u32) 25 wc w.heap.size (fun _ => True) v769 t768) ∧ Aside0 (Below w.heap.size w wc))
          case first =>
            have H := HC26.out
            clear HC26
            by_cases c39 : (wrap64 (t783 + t793)) = 0
            · rw [if_pos c39] at H
              have c39b0 : ((wrap64 (t783 + t793)) == 0) = true := beq_iff_eq.mpr c39
              have c39b1 : ((wrap64 (t783 + t793)) != 0) = false := bne_eq_false_iff_eq.mpr c39
              clear c39
              (first | rw [c39b0] | (simp only [i64_w, i32_w]; rw [c39b0]) | skip)
              by_cases c40 : t795 = true
              · subst c40
                have H1 : (if t797 = true then (if t794 = (IntKind.u64.wrap ((a0 / 2) + (a1 / 2))) then (letterbaglaw03_NatWords.j1 kj7 a0 a1 t765 t768 (t796 != (IntKind.u64.wrap ((a0 / 4294967296) * (a1 / 4294967296))))) else (letterbaglaw03_NatWords.j1 kj7 a0 a1 t765 t768 true)) else (letterbaglaw03_NatWords.j1 kj7 a0 a1 t765 t768 true)) = some r := by rw [if_pos rfl] at H; exact H
                clear H
                have H := H1
                clear H1
                by_cases c41 : t797 = true
                · subst c41
                  have H1 : (if t794 = (IntKind.u64.wrap ((a0 / 2) + (a1 / 2))) then (letterbaglaw03_NatWords.j1 kj7 a0 a1 t765 t768 (t796 != (IntKind.u64.wrap ((a0 / 4294967296) * (a1 / 4294967296))))) else (letterbaglaw03_NatWords.j1 kj7 a0 a1 t765 t768 true)) = some r := by rw [if_pos rfl] at H; exact H
                  clear H
                  have H := H1
                  clear H1
                  by_cases c42 : t794 = (IntKind.u64.wrap ((a0 / 2) + (a1 / 2)))
                  · rw [if_pos c42] at H
                    have c42b0 : (t794 == (IntKind.u64.wrap ((a0 / 2) + (a1 / 2)))) = true := beq_iff_eq.mpr c42
                    have c42b1 : (t794 != (IntKind.u64.wrap ((a0 / 2) + (a1 / 2)))) = false := bne_eq_false_iff_eq.mpr c42
                    clear c42
                    have H' := Aside0.mk H
                    clear H
                    go_wp2
                    go_meet
                    case rel => exact ⟨_, ((t796 != (IntKind.u64.wrap ((a0 / 4294967296) * (a1 / 4294967296))))), (by first | rfl | (simp; done) | (simp [*]; done)), H', ⟨by have := HJ7.out; first | omega | exact Nat.le_refl _⟩, ⟨by (with_reducible repeat (first | apply Kd.V_alloc | apply Kd.V_drewN | apply Kd.V_drew)); exact HO_5.out⟩, ⟨by (with_reducible repeat (first | apply Kd.V_alloc | apply Kd.V_drewN | apply Kd.V_drew)); exact HO_6.out⟩, ⟨by repeat (first | (with_reducible first | exact HB.out | apply below_alloc | apply pw_below_drewN | apply below_drew1) | exact HB.out)⟩⟩
                  · rw [if_neg c42] at H
                    have c42b0 : (t794 == (IntKind.u64.wrap ((a0 / 2) + (a1 / 2)))) = false := beq_eq_false_iff_ne.mpr c42
                    have c42b1 : (t794 != (IntKind.u64.wrap ((a0 / 2) + (a1 / 2)))) = true := bne_iff_ne.mpr c42
                    have H' := Aside0.mk H
                    clear H
                    go_wp2
                    go_meet
                    case rel => exact ⟨_, (true), (by first | rfl | (simp; done) | (simp [*]; done)), H', ⟨by have := HJ7.out; first | omega | exact Nat.le_refl _⟩, ⟨by (with_reducible repeat (first | apply Kd.V_alloc | apply Kd.V_drewN | apply Kd.V_drew)); exact HO_5.out⟩, ⟨by (with_reducible repeat (first | apply Kd.V_alloc | apply Kd.V_drewN | apply Kd.V_drew)); exact HO_6.out⟩, ⟨by repeat (first | (with_reducible first | exact HB.out | apply below_alloc | apply pw_below_drewN | apply below_drew1) | exact HB.out)⟩⟩
                · replace c41 := Bool.eq_false_iff.mpr c41
                  subst c41
                  have H1 : (letterbaglaw03_NatWords.j1 kj7 a0 a1 t765 t768 true) = some r := by rw [if_neg (show ¬ (false = true) by decide)] at H; exact H
                  clear H
                  have H := H1
                  clear H1
                  have H' := Aside0.mk H
                  clear H
                  go_wp2
                  go_meet
                  case rel => exact ⟨_, (true), (by first | rfl | (simp; done) | (simp [*]; done)), H', ⟨by have := HJ7.out; first | omega | exact Nat.le_refl _⟩, ⟨by (with_reducible repeat (first | apply Kd.V_alloc | apply Kd.V_drewN | apply Kd.V_drew)); exact HO_5.out⟩, ⟨by (with_reducible repeat (first | apply Kd.V_alloc | apply Kd.V_drewN | apply Kd.V_drew)); exact HO_6.out⟩, ⟨by repeat (first | (with_reducible first | exact HB.out | apply below_alloc | apply pw_below_drewN | apply below_drew1) | exact HB.out)⟩⟩
              · replace c40 := Bool.eq_false_iff.mpr c40
                subst c40
                have H1 : (letterbaglaw03_NatWords.j1 kj7 a0 a1 t765 t768 true) = some r := by rw [if_neg (show ¬ (false = true) by decide)] at H; exact H
                clear H
                have H := H1
                clear H1
                have H' := Aside0.mk H
                clear H
                go_wp2
                go_meet
                case rel => exact ⟨_, (true), (by first | rfl | (simp; done) | (simp [*]; done)), H', ⟨by have := HJ7.out; first | omega | exact Nat.le_refl _⟩, ⟨by (with_reducible repeat (first | apply Kd.V_alloc | apply Kd.V_drewN | apply Kd.V_drew)); exact HO_5.out⟩, ⟨by (with_reducible repeat (first | apply Kd.V_alloc | apply Kd.V_drewN | apply Kd.V_drew)); exact HO_6.out⟩, ⟨by repeat (first | (with_reducible first | exact HB.out | apply below_alloc | apply pw_below_drewN | apply below_drew1) | exact HB.out)⟩⟩
            · rw [if_neg c39] at H
              have c39b0 : ((wrap64 (t783 + t793)) == 0) = false := beq_eq_false_iff_ne.mpr c39
              have c39b1 : ((wrap64 (t783 + t793)) != 0) = true := bne_iff_ne.mpr c39
              (first | rw [c39b0] | (simp only [i64_w, i32_w]; rw [c39b0]) | skip)
              have H' := Aside0.mk H
              clear H
              go_wp2
              go_meet
              case rel => exact ⟨_, (true), (by first | rfl | (simp; done) | (simp [*]; done)), H', ⟨by have := HJ7.out; first | omega | exact Nat.le_refl _⟩, ⟨by (with_reducible repeat (first | apply Kd.V_alloc | apply Kd.V_drewN | apply Kd.V_drew)); exact HO_5.out⟩, ⟨by (with_reducible repeat (first | apply Kd.V_alloc | apply Kd.V_drewN | apply Kd.V_drew)); exact HO_6.out⟩, ⟨by repeat (first | (with_reducible first | exact HB.out | apply below_alloc | apply pw_below_drewN | apply below_drew1) | exact HB.out)⟩⟩
          case rest =>
            clear HC26
            try clear c1
            try clear c2
            try clear p2
            try clear c3
            try clear c4
            try clear p6
            try clear c11
            try clear c12
            try clear c13
            try clear c14
            try clear c14b0
            try clear c14b1
            try clear c16
            try clear c17
            try clear c19
            try clear c26
            try clear c39
            try clear c39b0
            try clear c39b1
            try clear c40
            try clear c41
            try clear c42
            try clear c42b0
            try clear c42b1
            try clear p2
            try clear HO_5
            try clear HO_6
            obtain ⟨kq, x108_25, rfl, HA, HJ25, HO_5, HO_6, HB⟩ := hcut
            cases kq with
            | zero => exact absurd HA.out (by simp [letterbaglaw03_NatWords.j1])
            | succ kj25 =>
              have H := HA.out
              clear HA
              simp only [letterbaglaw03_NatWords.j1] at H
              by_cases c43 : x108_25 = true
              · subst c43
                have H1 : (some false) = some r := by rw [if_pos rfl] at H; exact H
                clear H
                have H := H1
                clear H1
                obtain rfl := Option.some.inj H
                go_wp2
                go_ret
                exact ⟨by first | rfl | (simp [errW_none, errW_some] <;> rfl) | (simp [*, errW_none, errW_some] <;> rfl), by repeat (first | (with_reducible first | exact HB.out | apply below_alloc | apply pw_below_drewN | apply below_drew1) | exact HB.out)⟩
              · replace c43 := Bool.eq_false_iff.mpr c43
                subst c43
                have H1 : ((nat_Cmp.f kj25 t765 t768).bind fun bt798 => (if bt798.2 = 0 then (if ((decide (bt798.1 < 0)) != (decide (a0 < a1))) = true then (letterbaglaw03_NatWords.j2 kj25 a0 a1 t765 t768 true) else (letterbaglaw03_NatWords.j2 kj25 a0 a1 t765 t768 ((bt798.1 == 0) != (a0 == a1)))) else (letterbaglaw03_NatWords.j2 kj25 a0 a1 t765 t768 true))) = some r := by rw [if_neg (show ¬ (false = true) by decide)] at H; exact H
                clear H
                have H := H1
                clear H1
                replace H := Option.bind_eq_some_iff.mp H
                obtain ⟨⟨t798, t799⟩, A440, H⟩ := H
                replace H : (if t799 = 0 then (if ((decide (t798 < 0)) != (decide (a0 < a1))) = true then (letterbaglaw03_NatWords.j2 kj25 a0 a1 t765 t768 true) else (letterbaglaw03_NatWords.j2 kj25 a0 a1 t765 t768 ((t798 == 0) != (a0 == a1)))) else (letterbaglaw03_NatWords.j2 kj25 a0 a1 t765 t768 true)) = some r := H
                have A44 := Aside0.mk A440
                clear A440
                have HC45 := Aside0.mk H
                clear H
                obtain ⟨Ao46, co46, eo46⟩ := Kd.V_slice HO_6.out
                subst eo46
                go_upto_region 14 with (first | ((with_reducible refine gate_callee (f := 16) rfl ?_); refine goesL_ (some 112) rfl rfl Tryd.func16 (by kernel_rfl) rfl #[.slice Ao12 t765.length co12, .slice Ao46 t768.length co46] rfl (by (try simp only [List.map_toArray, List.map_cons, List.map_nil]); first | done | rfl | (simp only [List.length_drop, List.length_take]; rfl)) ?_; (with_reducible refine (nat_Cmp.calls kj25 _ _ t765 _ _ t768 t798 t799 _ ?side1 ?side2 ?side3 ?side4 A44.out).mono ?_); (case side1 => repeat (first | exact (Kd.V_reads' HO_5.out).2.2 | (with_reducible refine Kd.C_alloc ?_ _) | (with_reducible refine Kd.C_drewN ?_ _) | (with_reducible refine Kd.C_drew ?_))); (case side2 => exact (Kd.V_reads' HO_5.out).2.1); (case side3 => repeat (first | exact (Kd.V_reads' HO_6.out).2.2 | (with_reducible refine Kd.C_alloc ?_ _) | (with_reducible refine Kd.C_drewN ?_ _) | (with_reducible refine Kd.C_drew ?_))); (case side4 => exact (Kd.V_reads' HO_6.out).2.1); rintro e w' ⟨rfl, ⟨nd, rfl⟩⟩; refine ⟨_, rfl, ?_⟩))
                (try simp only [Act.put, List.setIfInBounds_toArray, List.set_cons_zero, List.set_cons_succ])
                go_cut [132] (fun v132 wc => ∃ (kq : Nat) (x132_44 : Bool), v132 = .bool x132_44 ∧ Aside0 (letterbaglaw03_NatWords.j2 kq a0 a1 t765 t768 x132_44 = some r) ∧ Aside0 (kq ≤ kj25) ∧ Aside0 (Kd.V (Kd.int .u32) 25 wc w.heap.size (fun _ => True) (.slice Ao12 t765.length co12) t765) ∧ Aside0 (Kd.V (Kd.int .u32) 25 wc w.heap.size (fun _ => True) (.slice Ao46 t768.length co46) t768) ∧ Aside0 (Below w.heap.size w wc))
                case first =>
                  have H := HC45.out
                  clear HC45
                  by_cases c47 : t799 = 0
                  · rw [if_pos c47] at H
                    have c47b0 : (t799 == 0) = true := beq_iff_eq.mpr c47
                    have c47b1 : (t799 != 0) = false := bne_eq_false_iff_eq.mpr c47
                    clear c47
                    (first | rw [c47b0] | (simp only [i64_w, i32_w]; rw [c47b0]) | skip)
                    by_cases c48 : ((decide (t798 < 0)) != (decide (a0 < a1))) = true
                    · rw [if_pos c48] at H
                      have c48b0 : ((decide (t798 < 0)) != (decide (a0 < a1))) = true := c48
                      (try (have c48b1 : decide ((decide (t798 < 0)) = (decide (a0 < a1))) = false := by simpa using c48))
                      (try (have c48b2 : ((decide (t798 < 0)) == (decide (a0 < a1))) = false := by simpa using c48))
                      (try (have c48b3 : ¬ ((decide (t798 < 0)) = (decide (a0 < a1))) := by simpa using c48))
                      clear c48
                      have H' := Aside0.mk H
                      clear H
                      go_wp2
                      go_meet
                      case rel => exact ⟨_, (true), (by first | rfl | (simp; done) | (simp [*]; done)), H', ⟨by have := HJ7.out; have := HJ25.out; first | omega | exact Nat.le_refl _⟩, ⟨by (with_reducible repeat (first | apply Kd.V_alloc | apply Kd.V_drewN | apply Kd.V_drew)); exact HO_5.out⟩, ⟨by (with_reducible repeat (first | apply Kd.V_alloc | apply Kd.V_drewN | apply Kd.V_drew)); exact HO_6.out⟩, ⟨by repeat (first | (with_reducible first | exact HB.out | apply below_alloc | apply pw_below_drewN | apply below_drew1) | exact HB.out)⟩⟩
                    · rw [if_neg c48] at H
                      have c48b0 : ((decide (t798 < 0)) != (decide (a0 < a1))) = false := by simpa using c48
                      (try (have c48b1 : decide ((decide (t798 < 0)) = (decide (a0 < a1))) = true := by simpa using c48))
                      (try (have c48b2 : ((decide (t798 < 0)) == (decide (a0 < a1))) = true := by simpa using c48))
                      clear c48
                      have H' := Aside0.mk H
                      clear H
                      go_wp2
                      go_meet
                      case rel => exact ⟨_, (((t798 == 0) != (a0 == a1))), (by first | rfl | (simp; done) | (simp [*]; done)), H', ⟨by have := HJ7.out; have := HJ25.out; first | omega | exact Nat.le_refl _⟩, ⟨by (with_reducible repeat (first | apply Kd.V_alloc | apply Kd.V_drewN | apply Kd.V_drew)); exact HO_5.out⟩, ⟨by (with_reducible repeat (first | apply Kd.V_alloc | apply Kd.V_drewN | apply Kd.V_drew)); exact HO_6.out⟩, ⟨by repeat (first | (with_reducible first | exact HB.out | apply below_alloc | apply pw_below_drewN | apply below_drew1) | exact HB.out)⟩⟩
                  · rw [if_neg c47] at H
                    have c47b0 : (t799 == 0) = false := beq_eq_false_iff_ne.mpr c47
                    have c47b1 : (t799 != 0) = true := bne_iff_ne.mpr c47
                    (first | rw [c47b0] | (simp only [i64_w, i32_w]; rw [c47b0]) | skip)
                    have H' := Aside0.mk H
                    clear H
                    go_wp2
                    go_meet
                    case rel => exact ⟨_, (true), (by first | rfl | (simp; done) | (simp [*]; done)), H', ⟨by have := HJ7.out; have := HJ25.out; first | omega | exact Nat.le_refl _⟩, ⟨by (with_reducible repeat (first | apply Kd.V_alloc | apply Kd.V_drewN | apply Kd.V_drew)); exact HO_5.out⟩, ⟨by (with_reducible repeat (first | apply Kd.V_alloc | apply Kd.V_drewN | apply Kd.V_drew)); exact HO_6.out⟩, ⟨by repeat (first | (with_reducible first | exact HB.out | apply below_alloc | apply pw_below_drewN | apply below_drew1) | exact HB.out)⟩⟩
                case rest =>
                  clear HC45
                  try clear c1
                  try clear c2
                  try clear p2
                  try clear c3
                  try clear c4
                  try clear p6
                  try clear c11
                  try clear c12
                  try clear c13
                  try clear c14
                  try clear c14b0
                  try clear c14b1
                  try clear c16
                  try clear c17
                  try clear c19
                  try clear c26
                  try clear c39
                  try clear c39b0
                  try clear c39b1
                  try clear c40
                  try clear c41
                  try clear c42
                  try clear c42b0
                  try clear c42b1
                  try clear c43
                  try clear c47
                  try clear c47b0
                  try clear c47b1
                  try clear c48
                  try clear c48b0
                  try clear c48b1
                  try clear c48b2
                  try clear p2
                  try clear p6
                  try clear HO_5
                  try clear HO_6
                  obtain ⟨kq, x132_44, rfl, HA, HJ44, HO_5, HO_6, HB⟩ := hcut
                  cases kq with
                  | zero => exact absurd HA.out (by simp [letterbaglaw03_NatWords.j2])
                  | succ kj44 =>
                    have H := HA.out
                    clear HA
                    simp only [letterbaglaw03_NatWords.j2] at H
                    by_cases c49 : x132_44 = true
                    · subst c49
                      have H1 : (some false) = some r := by rw [if_pos rfl] at H; exact H
                      clear H
                      have H := H1
                      clear H1
                      obtain rfl := Option.some.inj H
                      go_wp2
                      go_ret
                      exact ⟨by first | rfl | (simp [errW_none, errW_some] <;> rfl) | (simp [*, errW_none, errW_some] <;> rfl), by repeat (first | (with_reducible first | exact HB.out | apply below_alloc | apply pw_below_drewN | apply below_drew1) | exact HB.out)⟩
                    · replace c49 := Bool.eq_false_iff.mpr c49
                      subst c49
                      have H1 : (if a1 = 0 then (some true) else ((nat_DivMod.f kj44 t765 t768).bind fun bt800 => ((nat_Uint.f kj44 bt800.1).bind fun bt807 => ((nat_Uint.f kj44 bt800.2.1).bind fun bt809 => (if bt800.2.2 = 0 then (if bt807.2 = true then (if bt809.2 = true then (if bt807.1 = (IntKind.u64.wrap (Int.tdiv a0 a1)) then (some (bt809.1 == (Int.tmod a0 a1))) else (some false)) else (some false)) else (some false)) else (some false)))))) = some r := by rw [if_neg (show ¬ (false = true) by decide)] at H; exact H
                      clear H
                      have H := H1
                      clear H1
                      by_cases c50 : a1 = 0
                      · rw [if_pos c50] at H
                        have c50b0 : (a1 == 0) = true := beq_iff_eq.mpr c50
                        have c50b1 : (a1 != 0) = false := bne_eq_false_iff_eq.mpr c50
                        clear c50
                        obtain rfl := Option.some.inj H
                        go_wp2
                        go_ret
                        exact ⟨by first | rfl | (simp [errW_none, errW_some] <;> rfl) | (simp [*, errW_none, errW_some] <;> rfl), by repeat (first | (with_reducible first | exact HB.out | apply below_alloc | apply pw_below_drewN | apply below_drew1) | exact HB.out)⟩
                      · rw [if_neg c50] at H
                        have c50b0 : (a1 == 0) = false := beq_eq_false_iff_ne.mpr c50
                        have c50b1 : (a1 != 0) = true := bne_iff_ne.mpr c50
                        replace H := Option.bind_eq_some_iff.mp H
                        obtain ⟨⟨t800, t803, t806⟩, A510, H⟩ := H
                        replace H : ((nat_Uint.f kj44 t800).bind fun bt807 => ((nat_Uint.f kj44 t803).bind fun bt809 => (if t806 = 0 then (if bt807.2 = true then (if bt809.2 = true then (if bt807.1 = (IntKind.u64.wrap (Int.tdiv a0 a1)) then (some (bt809.1 == (Int.tmod a0 a1))) else (some false)) else (some false)) else (some false)) else (some false)))) = some r := H
                        have A51 := Aside0.mk A510
                        clear A510
                        replace H := Option.bind_eq_some_iff.mp H
                        obtain ⟨⟨t807, t808⟩, A520, H⟩ := H
                        replace H : ((nat_Uint.f kj44 t803).bind fun bt809 => (if t806 = 0 then (if t808 = true then (if bt809.2 = true then (if t807 = (IntKind.u64.wrap (Int.tdiv a0 a1)) then (some (bt809.1 == (Int.tmod a0 a1))) else (some false)) else (some false)) else (some false)) else (some false))) = some r := H
                        have A52 := Aside0.mk A520
                        clear A520
                        replace H := Option.bind_eq_some_iff.mp H
                        obtain ⟨⟨t809, t810⟩, A530, H⟩ := H
                        replace H : (if t806 = 0 then (if t808 = true then (if t810 = true then (if t807 = (IntKind.u64.wrap (Int.tdiv a0 a1)) then (some (t809 == (Int.tmod a0 a1))) else (some false)) else (some false)) else (some false)) else (some false)) = some r := H
                        have A53 := Aside0.mk A530
                        clear A530
                        by_cases c54 : t806 = 0
                        · rw [if_pos c54] at H
                          have c54b0 : (t806 == 0) = true := beq_iff_eq.mpr c54
                          have c54b1 : (t806 != 0) = false := bne_eq_false_iff_eq.mpr c54
                          clear c54
                          by_cases c55 : t808 = true
                          · subst c55
                            have H1 : (if t810 = true then (if t807 = (IntKind.u64.wrap (Int.tdiv a0 a1)) then (some (t809 == (Int.tmod a0 a1))) else (some false)) else (some false)) = some r := by rw [if_pos rfl] at H; exact H
                            clear H
                            have H := H1
                            clear H1
                            by_cases c56 : t810 = true
                            · subst c56
                              have H1 : (if t807 = (IntKind.u64.wrap (Int.tdiv a0 a1)) then (some (t809 == (Int.tmod a0 a1))) else (some false)) = some r := by rw [if_pos rfl] at H; exact H
                              clear H
                              have H := H1
                              clear H1
                              by_cases c57 : t807 = (IntKind.u64.wrap (Int.tdiv a0 a1))
                              · rw [if_pos c57] at H
                                have c57b0 : (t807 == (IntKind.u64.wrap (Int.tdiv a0 a1))) = true := beq_iff_eq.mpr c57
                                have c57b1 : (t807 != (IntKind.u64.wrap (Int.tdiv a0 a1))) = false := bne_eq_false_iff_eq.mpr c57
                                clear c57
                                obtain rfl := Option.some.inj H
                                go_wp2_with (first | ((with_reducible refine gate_callee (f := 20) rfl ?_); refine goesL_ (some 138) rfl rfl Tryd.func20 (by kernel_rfl) rfl #[.slice Ao12 t765.length co12, .slice Ao46 t768.length co46] rfl (by (try simp only [List.map_toArray, List.map_cons, List.map_nil]); first | done | rfl | (simp only [List.length_drop, List.length_take]; rfl)) ?_; (with_reducible refine (nat_DivMod.calls kj44 _ _ t765 _ _ t768 t800 t803 t806 _ ?side1 ?side2 ?side3 ?side4 A51.out).mono ?_); (case side1 => repeat (first | exact (Kd.V_reads' HO_5.out).2.2 | (with_reducible refine Kd.C_alloc ?_ _) | (with_reducible refine Kd.C_drewN ?_ _) | (with_reducible refine Kd.C_drew ?_))); (case side2 => exact (Kd.V_reads' HO_5.out).2.1); (case side3 => repeat (first | exact (Kd.V_reads' HO_6.out).2.2 | (with_reducible refine Kd.C_alloc ?_ _) | (with_reducible refine Kd.C_drewN ?_ _) | (with_reducible refine Kd.C_drew ?_))); (case side4 => exact (Kd.V_reads' HO_6.out).2.1); rintro e w58 ⟨v801, v804, rfl, ho0, ho1, hb⟩; refine ⟨_, rfl, ?_⟩; have n0_ := Aside0.mk (Kd.V_below (by (with_reducible repeat (first | apply Kd.V_alloc | apply Kd.V_drewN | apply Kd.V_drew)); exact HO_5.out) hb); have n1_ := Aside0.mk (Kd.V_below (by (with_reducible repeat (first | apply Kd.V_alloc | apply Kd.V_drewN | apply Kd.V_drew)); exact HO_6.out) hb); have n2_ := Aside0.mk (Kd.V_lower (Kd.V_mono (ok' := fun k_ => True) ho0 (fun k_ hk_ => trivial)) (below_size (by repeat (first | (with_reducible first | exact HB.out | apply below_alloc | apply pw_below_drewN | apply below_drew1) | exact HB.out)))); have n3_ := Aside0.mk (Kd.V_lower (Kd.V_mono (ok' := fun k_ => True) ho1 (fun k_ hk_ => trivial)) (below_size (by repeat (first | (with_reducible first | exact HB.out | apply below_alloc | apply pw_below_drewN | apply below_drew1) | exact HB.out)))); have n4_ := Aside0.mk (below_step (by repeat (first | (with_reducible first | exact HB.out | apply below_alloc | apply pw_below_drewN | apply below_drew1) | exact HB.out)) hb); clear HO_5; clear HO_6; clear HB; have HO_5 := n0_; have HO_6 := n1_; have HO802 := n2_; have HO805 := n3_; have HB := n4_; clear n0_ n1_ n2_ n3_ n4_; (try clear hb); (try clear hb2); (try clear hk); (try clear hi); (try clear ho0); (try clear ho1); obtain ⟨Ao59, co59, eo59⟩ := Kd.V_slice HO802.out; subst eo59) | ((with_reducible refine gate_callee (f := 14) rfl ?_); refine goesL_ (some 144) rfl rfl Tryd.func14 (by kernel_rfl) rfl #[.slice Ao59 t800.length co59] rfl (by (try simp only [List.map_toArray, List.map_cons, List.map_nil]); first | done | rfl | (simp only [List.length_drop, List.length_take]; rfl)) ?_; (with_reducible refine (nat_Uint.calls kj44 _ _ t800 t807 true _ ?side1 ?side2 A52.out).mono ?_); (case side1 => repeat (first | exact (Kd.V_reads' HO802.out).2.2 | (with_reducible refine Kd.C_alloc ?_ _) | (with_reducible refine Kd.C_drewN ?_ _) | (with_reducible refine Kd.C_drew ?_))); (case side2 => exact (Kd.V_reads' HO802.out).2.1); rintro e w' ⟨rfl, ⟨nd, rfl⟩⟩; refine ⟨_, rfl, ?_⟩; obtain ⟨Ao60, co60, eo60⟩ := Kd.V_slice HO805.out; subst eo60) | ((with_reducible refine gate_callee (f := 14) rfl ?_); refine goesL_ (some 149) rfl rfl Tryd.func14 (by kernel_rfl) rfl #[.slice Ao60 t803.length co60] rfl (by (try simp only [List.map_toArray, List.map_cons, List.map_nil]); first | done | rfl | (simp only [List.length_drop, List.length_take]; rfl)) ?_; (with_reducible refine (nat_Uint.calls kj44 _ _ t803 t809 true _ ?side1 ?side2 A53.out).mono ?_); (case side1 => repeat (first | exact (Kd.V_reads' HO805.out).2.2 | (with_reducible refine Kd.C_alloc ?_ _) | (with_reducible refine Kd.C_drewN ?_ _) | (with_reducible refine Kd.C_drew ?_))); (case side2 => exact (Kd.V_reads' HO805.out).2.1); rintro e w' ⟨rfl, ⟨nd, rfl⟩⟩; refine ⟨_, rfl, ?_⟩))
                                go_ret
                                exact ⟨by first | rfl | (simp [errW_none, errW_some] <;> rfl) | (simp [*, errW_none, errW_some] <;> rfl), by repeat (first | (with_reducible first | exact HB.out | apply below_alloc | apply pw_below_drewN | apply below_drew1) | exact HB.out)⟩
                              · rw [if_neg c57] at H
                                have c57b0 : (t807 == (IntKind.u64.wrap (Int.tdiv a0 a1))) = false := beq_eq_false_iff_ne.mpr c57
                                have c57b1 : (t807 != (IntKind.u64.wrap (Int.tdiv a0 a1))) = true := bne_iff_ne.mpr c57
                                obtain rfl := Option.some.inj H
                                go_wp2_with (first | ((with_reducible refine gate_callee (f := 20) rfl ?_); refine goesL_ (some 138) rfl rfl Tryd.func20 (by kernel_rfl) rfl #[.slice Ao12 t765.length co12, .slice Ao46 t768.length co46] rfl (by (try simp only [List.map_toArray, List.map_cons, List.map_nil]); first | done | rfl | (simp only [List.length_drop, List.length_take]; rfl)) ?_; (with_reducible refine (nat_DivMod.calls kj44 _ _ t765 _ _ t768 t800 t803 t806 _ ?side1 ?side2 ?side3 ?side4 A51.out).mono ?_); (case side1 => repeat (first | exact (Kd.V_reads' HO_5.out).2.2 | (with_reducible refine Kd.C_alloc ?_ _) | (with_reducible refine Kd.C_drewN ?_ _) | (with_reducible refine Kd.C_drew ?_))); (case side2 => exact (Kd.V_reads' HO_5.out).2.1); (case side3 => repeat (first | exact (Kd.V_reads' HO_6.out).2.2 | (with_reducible refine Kd.C_alloc ?_ _) | (with_reducible refine Kd.C_drewN ?_ _) | (with_reducible refine Kd.C_drew ?_))); (case side4 => exact (Kd.V_reads' HO_6.out).2.1); rintro e w61 ⟨v801, v804, rfl, ho0, ho1, hb⟩; refine ⟨_, rfl, ?_⟩; have n0_ := Aside0.mk (Kd.V_below (by (with_reducible repeat (first | apply Kd.V_alloc | apply Kd.V_drewN | apply Kd.V_drew)); exact HO_5.out) hb); have n1_ := Aside0.mk (Kd.V_below (by (with_reducible repeat (first | apply Kd.V_alloc | apply Kd.V_drewN | apply Kd.V_drew)); exact HO_6.out) hb); have n2_ := Aside0.mk (Kd.V_lower (Kd.V_mono (ok' := fun k_ => True) ho0 (fun k_ hk_ => trivial)) (below_size (by repeat (first | (with_reducible first | exact HB.out | apply below_alloc | apply pw_below_drewN | apply below_drew1) | exact HB.out)))); have n3_ := Aside0.mk (Kd.V_lower (Kd.V_mono (ok' := fun k_ => True) ho1 (fun k_ hk_ => trivial)) (below_size (by repeat (first | (with_reducible first | exact HB.out | apply below_alloc | apply pw_below_drewN | apply below_drew1) | exact HB.out)))); have n4_ := Aside0.mk (below_step (by repeat (first | (with_reducible first | exact HB.out | apply below_alloc | apply pw_below_drewN | apply below_drew1) | exact HB.out)) hb); clear HO_5; clear HO_6; clear HB; have HO_5 := n0_; have HO_6 := n1_; have HO802 := n2_; have HO805 := n3_; have HB := n4_; clear n0_ n1_ n2_ n3_ n4_; (try clear hb); (try clear hb2); (try clear hk); (try clear hi); (try clear ho0); (try clear ho1); obtain ⟨Ao62, co62, eo62⟩ := Kd.V_slice HO802.out; subst eo62) | ((with_reducible refine gate_callee (f := 14) rfl ?_); refine goesL_ (some 144) rfl rfl Tryd.func14 (by kernel_rfl) rfl #[.slice Ao62 t800.length co62] rfl (by (try simp only [List.map_toArray, List.map_cons, List.map_nil]); first | done | rfl | (simp only [List.length_drop, List.length_take]; rfl)) ?_; (with_reducible refine (nat_Uint.calls kj44 _ _ t800 t807 true _ ?side1 ?side2 A52.out).mono ?_); (case side1 => repeat (first | exact (Kd.V_reads' HO802.out).2.2 | (with_reducible refine Kd.C_alloc ?_ _) | (with_reducible refine Kd.C_drewN ?_ _) | (with_reducible refine Kd.C_drew ?_))); (case side2 => exact (Kd.V_reads' HO802.out).2.1); rintro e w' ⟨rfl, ⟨nd, rfl⟩⟩; refine ⟨_, rfl, ?_⟩; obtain ⟨Ao63, co63, eo63⟩ := Kd.V_slice HO805.out; subst eo63) | ((with_reducible refine gate_callee (f := 14) rfl ?_); refine goesL_ (some 149) rfl rfl Tryd.func14 (by kernel_rfl) rfl #[.slice Ao63 t803.length co63] rfl (by (try simp only [List.map_toArray, List.map_cons, List.map_nil]); first | done | rfl | (simp only [List.length_drop, List.length_take]; rfl)) ?_; (with_reducible refine (nat_Uint.calls kj44 _ _ t803 t809 true _ ?side1 ?side2 A53.out).mono ?_); (case side1 => repeat (first | exact (Kd.V_reads' HO805.out).2.2 | (with_reducible refine Kd.C_alloc ?_ _) | (with_reducible refine Kd.C_drewN ?_ _) | (with_reducible refine Kd.C_drew ?_))); (case side2 => exact (Kd.V_reads' HO805.out).2.1); rintro e w' ⟨rfl, ⟨nd, rfl⟩⟩; refine ⟨_, rfl, ?_⟩))
                                go_ret
                                exact ⟨by first | rfl | (simp [errW_none, errW_some] <;> rfl) | (simp [*, errW_none, errW_some] <;> rfl), by repeat (first | (with_reducible first | exact HB.out | apply below_alloc | apply pw_below_drewN | apply below_drew1) | exact HB.out)⟩
                            · replace c56 := Bool.eq_false_iff.mpr c56
                              subst c56
                              have H1 : (some false) = some r := by rw [if_neg (show ¬ (false = true) by decide)] at H; exact H
                              clear H
                              have H := H1
                              clear H1
                              obtain rfl := Option.some.inj H
                              go_wp2_with (first | ((with_reducible refine gate_callee (f := 20) rfl ?_); refine goesL_ (some 138) rfl rfl Tryd.func20 (by kernel_rfl) rfl #[.slice Ao12 t765.length co12, .slice Ao46 t768.length co46] rfl (by (try simp only [List.map_toArray, List.map_cons, List.map_nil]); first | done | rfl | (simp only [List.length_drop, List.length_take]; rfl)) ?_; (with_reducible refine (nat_DivMod.calls kj44 _ _ t765 _ _ t768 t800 t803 t806 _ ?side1 ?side2 ?side3 ?side4 A51.out).mono ?_); (case side1 => repeat (first | exact (Kd.V_reads' HO_5.out).2.2 | (with_reducible refine Kd.C_alloc ?_ _) | (with_reducible refine Kd.C_drewN ?_ _) | (with_reducible refine Kd.C_drew ?_))); (case side2 => exact (Kd.V_reads' HO_5.out).2.1); (case side3 => repeat (first | exact (Kd.V_reads' HO_6.out).2.2 | (with_reducible refine Kd.C_alloc ?_ _) | (with_reducible refine Kd.C_drewN ?_ _) | (with_reducible refine Kd.C_drew ?_))); (case side4 => exact (Kd.V_reads' HO_6.out).2.1); rintro e w64 ⟨v801, v804, rfl, ho0, ho1, hb⟩; refine ⟨_, rfl, ?_⟩; have n0_ := Aside0.mk (Kd.V_below (by (with_reducible repeat (first | apply Kd.V_alloc | apply Kd.V_drewN | apply Kd.V_drew)); exact HO_5.out) hb); have n1_ := Aside0.mk (Kd.V_below (by (with_reducible repeat (first | apply Kd.V_alloc | apply Kd.V_drewN | apply Kd.V_drew)); exact HO_6.out) hb); have n2_ := Aside0.mk (Kd.V_lower (Kd.V_mono (ok' := fun k_ => True) ho0 (fun k_ hk_ => trivial)) (below_size (by repeat (first | (with_reducible first | exact HB.out | apply below_alloc | apply pw_below_drewN | apply below_drew1) | exact HB.out)))); have n3_ := Aside0.mk (Kd.V_lower (Kd.V_mono (ok' := fun k_ => True) ho1 (fun k_ hk_ => trivial)) (below_size (by repeat (first | (with_reducible first | exact HB.out | apply below_alloc | apply pw_below_drewN | apply below_drew1) | exact HB.out)))); have n4_ := Aside0.mk (below_step (by repeat (first | (with_reducible first | exact HB.out | apply below_alloc | apply pw_below_drewN | apply below_drew1) | exact HB.out)) hb); clear HO_5; clear HO_6; clear HB; have HO_5 := n0_; have HO_6 := n1_; have HO802 := n2_; have HO805 := n3_; have HB := n4_; clear n0_ n1_ n2_ n3_ n4_; (try clear hb); (try clear hb2); (try clear hk); (try clear hi); (try clear ho0); (try clear ho1); obtain ⟨Ao65, co65, eo65⟩ := Kd.V_slice HO802.out; subst eo65) | ((with_reducible refine gate_callee (f := 14) rfl ?_); refine goesL_ (some 144) rfl rfl Tryd.func14 (by kernel_rfl) rfl #[.slice Ao65 t800.length co65] rfl (by (try simp only [List.map_toArray, List.map_cons, List.map_nil]); first | done | rfl | (simp only [List.length_drop, List.length_take]; rfl)) ?_; (with_reducible refine (nat_Uint.calls kj44 _ _ t800 t807 true _ ?side1 ?side2 A52.out).mono ?_); (case side1 => repeat (first | exact (Kd.V_reads' HO802.out).2.2 | (with_reducible refine Kd.C_alloc ?_ _) | (with_reducible refine Kd.C_drewN ?_ _) | (with_reducible refine Kd.C_drew ?_))); (case side2 => exact (Kd.V_reads' HO802.out).2.1); rintro e w' ⟨rfl, ⟨nd, rfl⟩⟩; refine ⟨_, rfl, ?_⟩; obtain ⟨Ao66, co66, eo66⟩ := Kd.V_slice HO805.out; subst eo66) | ((with_reducible refine gate_callee (f := 14) rfl ?_); refine goesL_ (some 149) rfl rfl Tryd.func14 (by kernel_rfl) rfl #[.slice Ao66 t803.length co66] rfl (by (try simp only [List.map_toArray, List.map_cons, List.map_nil]); first | done | rfl | (simp only [List.length_drop, List.length_take]; rfl)) ?_; (with_reducible refine (nat_Uint.calls kj44 _ _ t803 t809 false _ ?side1 ?side2 A53.out).mono ?_); (case side1 => repeat (first | exact (Kd.V_reads' HO805.out).2.2 | (with_reducible refine Kd.C_alloc ?_ _) | (with_reducible refine Kd.C_drewN ?_ _) | (with_reducible refine Kd.C_drew ?_))); (case side2 => exact (Kd.V_reads' HO805.out).2.1); rintro e w' ⟨rfl, ⟨nd, rfl⟩⟩; refine ⟨_, rfl, ?_⟩))
                              go_ret
                              exact ⟨by first | rfl | (simp [errW_none, errW_some] <;> rfl) | (simp [*, errW_none, errW_some] <;> rfl), by repeat (first | (with_reducible first | exact HB.out | apply below_alloc | apply pw_below_drewN | apply below_drew1) | exact HB.out)⟩
                          · replace c55 := Bool.eq_false_iff.mpr c55
                            subst c55
                            have H1 : (some false) = some r := by rw [if_neg (show ¬ (false = true) by decide)] at H; exact H
                            clear H
                            have H := H1
                            clear H1
                            obtain rfl := Option.some.inj H
                            go_wp2_with (first | ((with_reducible refine gate_callee (f := 20) rfl ?_); refine goesL_ (some 138) rfl rfl Tryd.func20 (by kernel_rfl) rfl #[.slice Ao12 t765.length co12, .slice Ao46 t768.length co46] rfl (by (try simp only [List.map_toArray, List.map_cons, List.map_nil]); first | done | rfl | (simp only [List.length_drop, List.length_take]; rfl)) ?_; (with_reducible refine (nat_DivMod.calls kj44 _ _ t765 _ _ t768 t800 t803 t806 _ ?side1 ?side2 ?side3 ?side4 A51.out).mono ?_); (case side1 => repeat (first | exact (Kd.V_reads' HO_5.out).2.2 | (with_reducible refine Kd.C_alloc ?_ _) | (with_reducible refine Kd.C_drewN ?_ _) | (with_reducible refine Kd.C_drew ?_))); (case side2 => exact (Kd.V_reads' HO_5.out).2.1); (case side3 => repeat (first | exact (Kd.V_reads' HO_6.out).2.2 | (with_reducible refine Kd.C_alloc ?_ _) | (with_reducible refine Kd.C_drewN ?_ _) | (with_reducible refine Kd.C_drew ?_))); (case side4 => exact (Kd.V_reads' HO_6.out).2.1); rintro e w67 ⟨v801, v804, rfl, ho0, ho1, hb⟩; refine ⟨_, rfl, ?_⟩; have n0_ := Aside0.mk (Kd.V_below (by (with_reducible repeat (first | apply Kd.V_alloc | apply Kd.V_drewN | apply Kd.V_drew)); exact HO_5.out) hb); have n1_ := Aside0.mk (Kd.V_below (by (with_reducible repeat (first | apply Kd.V_alloc | apply Kd.V_drewN | apply Kd.V_drew)); exact HO_6.out) hb); have n2_ := Aside0.mk (Kd.V_lower (Kd.V_mono (ok' := fun k_ => True) ho0 (fun k_ hk_ => trivial)) (below_size (by repeat (first | (with_reducible first | exact HB.out | apply below_alloc | apply pw_below_drewN | apply below_drew1) | exact HB.out)))); have n3_ := Aside0.mk (Kd.V_lower (Kd.V_mono (ok' := fun k_ => True) ho1 (fun k_ hk_ => trivial)) (below_size (by repeat (first | (with_reducible first | exact HB.out | apply below_alloc | apply pw_below_drewN | apply below_drew1) | exact HB.out)))); have n4_ := Aside0.mk (below_step (by repeat (first | (with_reducible first | exact HB.out | apply below_alloc | apply pw_below_drewN | apply below_drew1) | exact HB.out)) hb); clear HO_5; clear HO_6; clear HB; have HO_5 := n0_; have HO_6 := n1_; have HO802 := n2_; have HO805 := n3_; have HB := n4_; clear n0_ n1_ n2_ n3_ n4_; (try clear hb); (try clear hb2); (try clear hk); (try clear hi); (try clear ho0); (try clear ho1); obtain ⟨Ao68, co68, eo68⟩ := Kd.V_slice HO802.out; subst eo68) | ((with_reducible refine gate_callee (f := 14) rfl ?_); refine goesL_ (some 144) rfl rfl Tryd.func14 (by kernel_rfl) rfl #[.slice Ao68 t800.length co68] rfl (by (try simp only [List.map_toArray, List.map_cons, List.map_nil]); first | done | rfl | (simp only [List.length_drop, List.length_take]; rfl)) ?_; (with_reducible refine (nat_Uint.calls kj44 _ _ t800 t807 false _ ?side1 ?side2 A52.out).mono ?_); (case side1 => repeat (first | exact (Kd.V_reads' HO802.out).2.2 | (with_reducible refine Kd.C_alloc ?_ _) | (with_reducible refine Kd.C_drewN ?_ _) | (with_reducible refine Kd.C_drew ?_))); (case side2 => exact (Kd.V_reads' HO802.out).2.1); rintro e w' ⟨rfl, ⟨nd, rfl⟩⟩; refine ⟨_, rfl, ?_⟩; obtain ⟨Ao69, co69, eo69⟩ := Kd.V_slice HO805.out; subst eo69) | ((with_reducible refine gate_callee (f := 14) rfl ?_); refine goesL_ (some 149) rfl rfl Tryd.func14 (by kernel_rfl) rfl #[.slice Ao69 t803.length co69] rfl (by (try simp only [List.map_toArray, List.map_cons, List.map_nil]); first | done | rfl | (simp only [List.length_drop, List.length_take]; rfl)) ?_; (with_reducible refine (nat_Uint.calls kj44 _ _ t803 t809 t810 _ ?side1 ?side2 A53.out).mono ?_); (case side1 => repeat (first | exact (Kd.V_reads' HO805.out).2.2 | (with_reducible refine Kd.C_alloc ?_ _) | (with_reducible refine Kd.C_drewN ?_ _) | (with_reducible refine Kd.C_drew ?_))); (case side2 => exact (Kd.V_reads' HO805.out).2.1); rintro e w' ⟨rfl, ⟨nd, rfl⟩⟩; refine ⟨_, rfl, ?_⟩))
                            go_ret
                            exact ⟨by first | rfl | (simp [errW_none, errW_some] <;> rfl) | (simp [*, errW_none, errW_some] <;> rfl), by repeat (first | (with_reducible first | exact HB.out | apply below_alloc | apply pw_below_drewN | apply below_drew1) | exact HB.out)⟩
                        · rw [if_neg c54] at H
                          have c54b0 : (t806 == 0) = false := beq_eq_false_iff_ne.mpr c54
                          have c54b1 : (t806 != 0) = true := bne_iff_ne.mpr c54
                          obtain rfl := Option.some.inj H
                          go_wp2_with (first | ((with_reducible refine gate_callee (f := 20) rfl ?_); refine goesL_ (some 138) rfl rfl Tryd.func20 (by kernel_rfl) rfl #[.slice Ao12 t765.length co12, .slice Ao46 t768.length co46] rfl (by (try simp only [List.map_toArray, List.map_cons, List.map_nil]); first | done | rfl | (simp only [List.length_drop, List.length_take]; rfl)) ?_; (with_reducible refine (nat_DivMod.calls kj44 _ _ t765 _ _ t768 t800 t803 t806 _ ?side1 ?side2 ?side3 ?side4 A51.out).mono ?_); (case side1 => repeat (first | exact (Kd.V_reads' HO_5.out).2.2 | (with_reducible refine Kd.C_alloc ?_ _) | (with_reducible refine Kd.C_drewN ?_ _) | (with_reducible refine Kd.C_drew ?_))); (case side2 => exact (Kd.V_reads' HO_5.out).2.1); (case side3 => repeat (first | exact (Kd.V_reads' HO_6.out).2.2 | (with_reducible refine Kd.C_alloc ?_ _) | (with_reducible refine Kd.C_drewN ?_ _) | (with_reducible refine Kd.C_drew ?_))); (case side4 => exact (Kd.V_reads' HO_6.out).2.1); rintro e w70 ⟨v801, v804, rfl, ho0, ho1, hb⟩; refine ⟨_, rfl, ?_⟩; have n0_ := Aside0.mk (Kd.V_below (by (with_reducible repeat (first | apply Kd.V_alloc | apply Kd.V_drewN | apply Kd.V_drew)); exact HO_5.out) hb); have n1_ := Aside0.mk (Kd.V_below (by (with_reducible repeat (first | apply Kd.V_alloc | apply Kd.V_drewN | apply Kd.V_drew)); exact HO_6.out) hb); have n2_ := Aside0.mk (Kd.V_lower (Kd.V_mono (ok' := fun k_ => True) ho0 (fun k_ hk_ => trivial)) (below_size (by repeat (first | (with_reducible first | exact HB.out | apply below_alloc | apply pw_below_drewN | apply below_drew1) | exact HB.out)))); have n3_ := Aside0.mk (Kd.V_lower (Kd.V_mono (ok' := fun k_ => True) ho1 (fun k_ hk_ => trivial)) (below_size (by repeat (first | (with_reducible first | exact HB.out | apply below_alloc | apply pw_below_drewN | apply below_drew1) | exact HB.out)))); have n4_ := Aside0.mk (below_step (by repeat (first | (with_reducible first | exact HB.out | apply below_alloc | apply pw_below_drewN | apply below_drew1) | exact HB.out)) hb); clear HO_5; clear HO_6; clear HB; have HO_5 := n0_; have HO_6 := n1_; have HO802 := n2_; have HO805 := n3_; have HB := n4_; clear n0_ n1_ n2_ n3_ n4_; (try clear hb); (try clear hb2); (try clear hk); (try clear hi); (try clear ho0); (try clear ho1); obtain ⟨Ao71, co71, eo71⟩ := Kd.V_slice HO802.out; subst eo71) | ((with_reducible refine gate_callee (f := 14) rfl ?_); refine goesL_ (some 144) rfl rfl Tryd.func14 (by kernel_rfl) rfl #[.slice Ao71 t800.length co71] rfl (by (try simp only [List.map_toArray, List.map_cons, List.map_nil]); first | done | rfl | (simp only [List.length_drop, List.length_take]; rfl)) ?_; (with_reducible refine (nat_Uint.calls kj44 _ _ t800 t807 t808 _ ?side1 ?side2 A52.out).mono ?_); (case side1 => repeat (first | exact (Kd.V_reads' HO802.out).2.2 | (with_reducible refine Kd.C_alloc ?_ _) | (with_reducible refine Kd.C_drewN ?_ _) | (with_reducible refine Kd.C_drew ?_))); (case side2 => exact (Kd.V_reads' HO802.out).2.1); rintro e w' ⟨rfl, ⟨nd, rfl⟩⟩; refine ⟨_, rfl, ?_⟩; obtain ⟨Ao72, co72, eo72⟩ := Kd.V_slice HO805.out; subst eo72) | ((with_reducible refine gate_callee (f := 14) rfl ?_); refine goesL_ (some 149) rfl rfl Tryd.func14 (by kernel_rfl) rfl #[.slice Ao72 t803.length co72] rfl (by (try simp only [List.map_toArray, List.map_cons, List.map_nil]); first | done | rfl | (simp only [List.length_drop, List.length_take]; rfl)) ?_; (with_reducible refine (nat_Uint.calls kj44 _ _ t803 t809 t810 _ ?side1 ?side2 A53.out).mono ?_); (case side1 => repeat (first | exact (Kd.V_reads' HO805.out).2.2 | (with_reducible refine Kd.C_alloc ?_ _) | (with_reducible refine Kd.C_drewN ?_ _) | (with_reducible refine Kd.C_drew ?_))); (case side2 => exact (Kd.V_reads' HO805.out).2.1); rintro e w' ⟨rfl, ⟨nd, rfl⟩⟩; refine ⟨_, rfl, ?_⟩))
                          go_ret
                          exact ⟨by first | rfl | (simp [errW_none, errW_some] <;> rfl) | (simp [*, errW_none, errW_some] <;> rfl), by repeat (first | (with_reducible first | exact HB.out | apply below_alloc | apply pw_below_drewN | apply below_drew1) | exact HB.out)⟩
  · replace c4 := Bool.eq_false_iff.mpr c4
    subst c4
    have H1 : (some false) = some r := by rw [if_neg (show ¬ (false = true) by decide)] at H; exact H
    clear H
    have H := H1
    clear H1
    obtain rfl := Option.some.inj H
    go_enter Tryd.func11, Tryd.ntmps11
    go_wp2_with (first | ((with_reducible refine gate_callee (f := 12) rfl ?_); refine goesL_ (some 21) rfl rfl Tryd.func12 (by kernel_rfl) rfl #[] rfl (by (try simp only [List.map_toArray, List.map_cons, List.map_nil]); first | done | rfl | (simp only [List.length_drop, List.length_take]; rfl)) ?_; (with_reducible refine (letterbaglaw03_awake.calls k  false _ A3.out).mono ?_); rintro e w73 ⟨rfl, hb⟩; refine ⟨_, rfl, ?_⟩; have n0_ := Aside0.mk (below_step (by repeat (first | (with_reducible first | exact HB.out | apply below_alloc | apply pw_below_drewN | apply below_drew1) | exact HB.out)) hb); clear HB; have HB := n0_; clear n0_; (try clear hb); (try clear hb2); (try clear hk); (try clear hi)))
    go_ret
    exact ⟨by first | rfl | (simp [errW_none, errW_some] <;> rfl) | (simp [*, errW_none, errW_some] <;> rfl), by repeat (first | (with_reducible first | exact HB.out | apply below_alloc | apply pw_below_drewN | apply below_drew1) | exact HB.out)⟩

/-- THE ONE PURE STATEMENT of letterbaglaw03_NatWords: yours. -/
def letterbaglaw03_NatWords.Pure : Prop := ∀ (a0 : Int) (a1 : Int), (Lit.int .u64 a0).wf = true → (Lit.int .u64 a1).wf = true → ∃ k, letterbaglaw03_NatWords.f k a0 a1 = some true
theorem letterbaglaw03_NatWords.walk (P : letterbaglaw03_NatWords.Pure) (a0 : Int) (a1 : Int) (w : World) (w0 : (Lit.int .u64 a0).wf = true) (w1 : (Lit.int .u64 a1).wf = true) :
    Calls Tryd.prog 11 #[.int .u64 a0, .int .u64 a1] w fun e w' => e = .returned (.bool true) ∧ Below w.heap.size w w' := by
  obtain ⟨k, h⟩ := P a0 a1 w0 w1
  refine (letterbaglaw03_NatWords.calls k a0 a1 true w h).mono ?_
  rintro e w' ⟨rfl, hd⟩
  exact ⟨rfl, hd⟩

end
end Go.Proofs.YtgpninmfbooijaaDoor.Px
