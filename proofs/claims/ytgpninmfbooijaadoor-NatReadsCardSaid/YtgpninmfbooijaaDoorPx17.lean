/- Part of the printed proofs: contracts of functions, or words that they use, as this claim needs them. -/
import Derived.Test.YtgpninmfbooijaaDoorPx0
import Derived.Test.YtgpninmfbooijaaDoorPx16
import Derived.Test.YtgpninmfbooijaaDoorPx3
import Derived.Test.YtgpninmfbooijaaDoorPx5
import Derived.Test.YtgpninmfbooijaaDoorPx7
import Derived.Test.YtgpninmfbooijaaDoorPx8
import Derived.Test.YtgpninmfbooijaaDoorNRead
import Derived.Test.YtgpninmfbooijaaDoorNText
namespace Go.Proofs.YtgpninmfbooijaaDoor.Px
open Go.RowKit Go.Proofs.YtgpninmfbooijaaDoorW.PrintWords Go.Proofs.YtgpninmfbooijaaDoorW.PrintLast Go.Proofs.YtgpninmfbooijaaDoorW.PrintMore
attribute [local go_sem] max2_int min2_int max_two min_two max_three min_three max_four min_four   -- for this text's walks alone
set_option linter.unusedVariables false
set_option linter.unusedSimpArgs false

noncomputable section
/-! ### letterbaglaw03_NatReads: function 7 -/
def letterbaglaw03_NatReads.j0 : Nat → List Int → List Int → ByteArray → ByteArray → Bool → Option (Bool)
  | 0, _, _, _, _, _ => none
  | k + 1, x5, x6, x7, x9, x84 => if x84 = true then (some false) else (if (x7.size : Int) = (x9.size : Int) then ((letterbaglaw03_less.f k x5 x6).bind fun t598 => (some (t598 == (Op.bytesLess x7.toList x9.toList)))) else ((letterbaglaw03_less.f k x5 x6).bind fun t599 => (some (t599 == (decide ((x7.size : Int) < (x9.size : Int)))))))
def letterbaglaw03_NatReads.f (k : Nat) (l0 : List Int) (l1 : List Int) : Option (Bool) := (letterbaglaw03_awake.f k).bind fun t573 => (if t573 = true then ((letterbaglaw03_number.f k l0 200).bind fun t574 => ((letterbaglaw03_number.f k l1 200).bind fun t577 => ((nat_Text.f t574).bind fun bt580 => ((nat_Text.f t577).bind fun bt582 => ((nat_Read.f bt580.1).bind fun bt584 => ((nat_Of.f k 10).bind fun t588 => ((nat_Mul.f k t574 t588).bind fun bt591 => ((nat_Text.f bt591.1).bind fun bt595 => (if (wrap64 ((wrap64 ((wrap64 ((wrap64 (bt580.2 + bt582.2)) + bt584.2)) + bt591.2)) + bt595.2)) = 0 then ((letterbaglaw03_same.f k bt584.1 t574).bind fun t597 => (if t597 = true then (if (t574.length : Int) > 0 then (if bt580.1.size + 1 ≤ 9223372036854775807 then (if bt595.1.toList = (bt580.1 ++ (⟨#[48]⟩ : ByteArray)).toList then (if (t574.length : Int) = 0 then (letterbaglaw03_NatReads.j0 k t574 t577 bt580.1 bt582.1 (bt595.1.toList != ([48] : List UInt8))) else (letterbaglaw03_NatReads.j0 k t574 t577 bt580.1 bt582.1 false)) else (letterbaglaw03_NatReads.j0 k t574 t577 bt580.1 bt582.1 true)) else (none)) else (if (t574.length : Int) = 0 then (letterbaglaw03_NatReads.j0 k t574 t577 bt580.1 bt582.1 (bt595.1.toList != ([48] : List UInt8))) else (letterbaglaw03_NatReads.j0 k t574 t577 bt580.1 bt582.1 false))) else (letterbaglaw03_NatReads.j0 k t574 t577 bt580.1 bt582.1 true))) else (letterbaglaw03_NatReads.j0 k t574 t577 bt580.1 bt582.1 true)))))))))) else (some false))
theorem letterbaglaw03_NatReads.mono_l : ∀ k, (∀ y0 y1 y2 y3 y4, LeO (letterbaglaw03_NatReads.j0 k y0 y1 y2 y3 y4) (letterbaglaw03_NatReads.j0 (k + 1) y0 y1 y2 y3 y4))
  | 0 => fun _ _ _ _ _ r h => by simp [letterbaglaw03_NatReads.j0] at h
  | k + 1 => by
    have ih0 := letterbaglaw03_NatReads.mono_l k
    · intro y0 y1 y2 y3 y4
      unfold letterbaglaw03_NatReads.j0
      repeat' first
      | (with_reducible exact ih0 _ _ _ _ _)
      | (with_reducible exact letterbaglaw03_awake.mono _)
      | (with_reducible exact letterbaglaw03_less.mono _ _ _)
      | (with_reducible exact letterbaglaw03_number.mono _ _ _)
      | (with_reducible exact letterbaglaw03_same.mono _ _ _)
      | (with_reducible exact nat_Mul.mono _ _ _)
      | (with_reducible exact nat_Of.mono _ _)
      | (with_reducible exact LeO.refl _)
      | (with_reducible exact LeO.none _)
      | (with_reducible refine LeO.ite ?_ ?_)
      | (with_reducible refine LeO.bind ?_ (fun _ => ?_))
      | exact ih0 _ _ _ _ _
      | exact letterbaglaw03_awake.mono _
      | exact letterbaglaw03_less.mono _ _ _
      | exact letterbaglaw03_number.mono _ _ _
      | exact letterbaglaw03_same.mono _ _ _
      | exact nat_Mul.mono _ _ _
      | exact nat_Of.mono _ _
      | exact LeO.none _
      | refine LeO.ite ?_ ?_
      | refine LeO.bind ?_ (fun _ => ?_)
theorem letterbaglaw03_NatReads.mono : ∀ a0 a1 k, LeO (letterbaglaw03_NatReads.f k a0 a1) (letterbaglaw03_NatReads.f (k + 1) a0 a1) := by
  intro a0 a1 k
  have ih0 := letterbaglaw03_NatReads.mono_l k
  unfold letterbaglaw03_NatReads.f
  repeat' first
      | (with_reducible exact ih0 _ _ _ _ _)
      | (with_reducible exact letterbaglaw03_awake.mono _)
      | (with_reducible exact letterbaglaw03_less.mono _ _ _)
      | (with_reducible exact letterbaglaw03_number.mono _ _ _)
      | (with_reducible exact letterbaglaw03_same.mono _ _ _)
      | (with_reducible exact nat_Mul.mono _ _ _)
      | (with_reducible exact nat_Of.mono _ _)
      | (with_reducible exact LeO.refl _)
      | (with_reducible exact LeO.none _)
      | (with_reducible refine LeO.ite ?_ ?_)
      | (with_reducible refine LeO.bind ?_ (fun _ => ?_))
      | exact ih0 _ _ _ _ _
      | exact letterbaglaw03_awake.mono _
      | exact letterbaglaw03_less.mono _ _ _
      | exact letterbaglaw03_number.mono _ _ _
      | exact letterbaglaw03_same.mono _ _ _
      | exact nat_Mul.mono _ _ _
      | exact nat_Of.mono _ _
      | exact LeO.none _
      | refine LeO.ite ?_ ?_
      | refine LeO.bind ?_ (fun _ => ?_)
set_option maxHeartbeats 8000000 in
set_option maxRecDepth 100000 in
theorem letterbaglaw03_NatReads.calls (k : Nat) (A0 : Option Addr) (c0 : Nat) (l0 : List Int) (A1 : Option Addr) (c1 : Nat) (l1 : List Int) (r : Bool) (w : World) (hr0 : Kd.C (Kd.int .u32) w A0 l0.length l0) (hc0 : l0.length ≤ c0) (hr1 : Kd.C (Kd.int .u32) w A1 l1.length l1) (hc1 : l1.length ≤ c1) (h : letterbaglaw03_NatReads.f k l0 l1 = some r) :
    Calls Tryd.prog 7 #[.slice A0 l0.length c0, .slice A1 l1.length c1] w fun e w' => e = .returned (.bool r) ∧ Below w.heap.size w w' := by
  have HR0 := Aside0.mk hr0
  have HC0 := Aside0.mk hc0
  clear hr0 hc0
  have HR1 := Aside0.mk hr1
  have HC1 := Aside0.mk hc1
  clear hr1 hc1
  have HB := Aside0.mk (Below.refl w.heap.size w)
  have H : ((letterbaglaw03_awake.f k).bind fun t573 => (if t573 = true then ((letterbaglaw03_number.f k l0 200).bind fun t574 => ((letterbaglaw03_number.f k l1 200).bind fun t577 => ((nat_Text.f t574).bind fun bt580 => ((nat_Text.f t577).bind fun bt582 => ((nat_Read.f bt580.1).bind fun bt584 => ((nat_Of.f k 10).bind fun t588 => ((nat_Mul.f k t574 t588).bind fun bt591 => ((nat_Text.f bt591.1).bind fun bt595 => (if (wrap64 ((wrap64 ((wrap64 ((wrap64 (bt580.2 + bt582.2)) + bt584.2)) + bt591.2)) + bt595.2)) = 0 then ((letterbaglaw03_same.f k bt584.1 t574).bind fun t597 => (if t597 = true then (if (t574.length : Int) > 0 then (if bt580.1.size + 1 ≤ 9223372036854775807 then (if bt595.1.toList = (bt580.1 ++ (⟨#[48]⟩ : ByteArray)).toList then (if (t574.length : Int) = 0 then (letterbaglaw03_NatReads.j0 k t574 t577 bt580.1 bt582.1 (bt595.1.toList != ([48] : List UInt8))) else (letterbaglaw03_NatReads.j0 k t574 t577 bt580.1 bt582.1 false)) else (letterbaglaw03_NatReads.j0 k t574 t577 bt580.1 bt582.1 true)) else (none)) else (if (t574.length : Int) = 0 then (letterbaglaw03_NatReads.j0 k t574 t577 bt580.1 bt582.1 (bt595.1.toList != ([48] : List UInt8))) else (letterbaglaw03_NatReads.j0 k t574 t577 bt580.1 bt582.1 false))) else (letterbaglaw03_NatReads.j0 k t574 t577 bt580.1 bt582.1 true))) else (letterbaglaw03_NatReads.j0 k t574 t577 bt580.1 bt582.1 true)))))))))) else (some false))) = some r := h
  clear h
  replace H := Option.bind_eq_some_iff.mp H
  obtain ⟨t573, A30, H⟩ := H
  replace H : (if t573 = true then ((letterbaglaw03_number.f k l0 200).bind fun t574 => ((letterbaglaw03_number.f k l1 200).bind fun t577 => ((nat_Text.f t574).bind fun bt580 => ((nat_Text.f t577).bind fun bt582 => ((nat_Read.f bt580.1).bind fun bt584 => ((nat_Of.f k 10).bind fun t588 => ((nat_Mul.f k t574 t588).bind fun bt591 => ((nat_Text.f bt591.1).bind fun bt595 => (if (wrap64 ((wrap64 ((wrap64 ((wrap64 (bt580.2 + bt582.2)) + bt584.2)) + bt591.2)) + bt595.2)) = 0 then ((letterbaglaw03_same.f k bt584.1 t574).bind fun t597 => (if t597 = true then (if (t574.length : Int) > 0 then (if bt580.1.size + 1 ≤ 9223372036854775807 then (if bt595.1.toList = (bt580.1 ++ (⟨#[48]⟩ : ByteArray)).toList then (if (t574.length : Int) = 0 then (letterbaglaw03_NatReads.j0 k t574 t577 bt580.1 bt582.1 (bt595.1.toList != ([48] : List UInt8))) else (letterbaglaw03_NatReads.j0 k t574 t577 bt580.1 bt582.1 false)) else (letterbaglaw03_NatReads.j0 k t574 t577 bt580.1 bt582.1 true)) else (none)) else (if (t574.length : Int) = 0 then (letterbaglaw03_NatReads.j0 k t574 t577 bt580.1 bt582.1 (bt595.1.toList != ([48] : List UInt8))) else (letterbaglaw03_NatReads.j0 k t574 t577 bt580.1 bt582.1 false))) else (letterbaglaw03_NatReads.j0 k t574 t577 bt580.1 bt582.1 true))) else (letterbaglaw03_NatReads.j0 k t574 t577 bt580.1 bt582.1 true)))))))))) else (some false)) = some r := H
  have A3 := Aside0.mk A30
  clear A30
  by_cases c4 : t573 = true
  · subst c4
    have H1 : ((letterbaglaw03_number.f k l0 200).bind fun t574 => ((letterbaglaw03_number.f k l1 200).bind fun t577 => ((nat_Text.f t574).bind fun bt580 => ((nat_Text.f t577).bind fun bt582 => ((nat_Read.f bt580.1).bind fun bt584 => ((nat_Of.f k 10).bind fun t588 => ((nat_Mul.f k t574 t588).bind fun bt591 => ((nat_Text.f bt591.1).bind fun bt595 => (if (wrap64 ((wrap64 ((wrap64 ((wrap64 (bt580.2 + bt582.2)) + bt584.2)) + bt591.2)) + bt595.2)) = 0 then ((letterbaglaw03_same.f k bt584.1 t574).bind fun t597 => (if t597 = true then (if (t574.length : Int) > 0 then (if bt580.1.size + 1 ≤ 9223372036854775807 then (if bt595.1.toList = (bt580.1 ++ (⟨#[48]⟩ : ByteArray)).toList then (if (t574.length : Int) = 0 then (letterbaglaw03_NatReads.j0 k t574 t577 bt580.1 bt582.1 (bt595.1.toList != ([48] : List UInt8))) else (letterbaglaw03_NatReads.j0 k t574 t577 bt580.1 bt582.1 false)) else (letterbaglaw03_NatReads.j0 k t574 t577 bt580.1 bt582.1 true)) else (none)) else (if (t574.length : Int) = 0 then (letterbaglaw03_NatReads.j0 k t574 t577 bt580.1 bt582.1 (bt595.1.toList != ([48] : List UInt8))) else (letterbaglaw03_NatReads.j0 k t574 t577 bt580.1 bt582.1 false))) else (letterbaglaw03_NatReads.j0 k t574 t577 bt580.1 bt582.1 true))) else (letterbaglaw03_NatReads.j0 k t574 t577 bt580.1 bt582.1 true)))))))))) = some r := by rw [if_pos rfl] at H; exact H
    clear H
    have H := H1
    clear H1
    replace H := Option.bind_eq_some_iff.mp H
    obtain ⟨t574, A50, H⟩ := H
    replace H : ((letterbaglaw03_number.f k l1 200).bind fun t577 => ((nat_Text.f t574).bind fun bt580 => ((nat_Text.f t577).bind fun bt582 => ((nat_Read.f bt580.1).bind fun bt584 => ((nat_Of.f k 10).bind fun t588 => ((nat_Mul.f k t574 t588).bind fun bt591 => ((nat_Text.f bt591.1).bind fun bt595 => (if (wrap64 ((wrap64 ((wrap64 ((wrap64 (bt580.2 + bt582.2)) + bt584.2)) + bt591.2)) + bt595.2)) = 0 then ((letterbaglaw03_same.f k bt584.1 t574).bind fun t597 => (if t597 = true then (if (t574.length : Int) > 0 then (if bt580.1.size + 1 ≤ 9223372036854775807 then (if bt595.1.toList = (bt580.1 ++ (⟨#[48]⟩ : ByteArray)).toList then (if (t574.length : Int) = 0 then (letterbaglaw03_NatReads.j0 k t574 t577 bt580.1 bt582.1 (bt595.1.toList != ([48] : List UInt8))) else (letterbaglaw03_NatReads.j0 k t574 t577 bt580.1 bt582.1 false)) else (letterbaglaw03_NatReads.j0 k t574 t577 bt580.1 bt582.1 true)) else (none)) else (if (t574.length : Int) = 0 then (letterbaglaw03_NatReads.j0 k t574 t577 bt580.1 bt582.1 (bt595.1.toList != ([48] : List UInt8))) else (letterbaglaw03_NatReads.j0 k t574 t577 bt580.1 bt582.1 false))) else (letterbaglaw03_NatReads.j0 k t574 t577 bt580.1 bt582.1 true))) else (letterbaglaw03_NatReads.j0 k t574 t577 bt580.1 bt582.1 true))))))))) = some r := H
    have A5 := Aside0.mk A50
    clear A50
    replace H := Option.bind_eq_some_iff.mp H
    obtain ⟨t577, A60, H⟩ := H
    replace H : ((nat_Text.f t574).bind fun bt580 => ((nat_Text.f t577).bind fun bt582 => ((nat_Read.f bt580.1).bind fun bt584 => ((nat_Of.f k 10).bind fun t588 => ((nat_Mul.f k t574 t588).bind fun bt591 => ((nat_Text.f bt591.1).bind fun bt595 => (if (wrap64 ((wrap64 ((wrap64 ((wrap64 (bt580.2 + bt582.2)) + bt584.2)) + bt591.2)) + bt595.2)) = 0 then ((letterbaglaw03_same.f k bt584.1 t574).bind fun t597 => (if t597 = true then (if (t574.length : Int) > 0 then (if bt580.1.size + 1 ≤ 9223372036854775807 then (if bt595.1.toList = (bt580.1 ++ (⟨#[48]⟩ : ByteArray)).toList then (if (t574.length : Int) = 0 then (letterbaglaw03_NatReads.j0 k t574 t577 bt580.1 bt582.1 (bt595.1.toList != ([48] : List UInt8))) else (letterbaglaw03_NatReads.j0 k t574 t577 bt580.1 bt582.1 false)) else (letterbaglaw03_NatReads.j0 k t574 t577 bt580.1 bt582.1 true)) else (none)) else (if (t574.length : Int) = 0 then (letterbaglaw03_NatReads.j0 k t574 t577 bt580.1 bt582.1 (bt595.1.toList != ([48] : List UInt8))) else (letterbaglaw03_NatReads.j0 k t574 t577 bt580.1 bt582.1 false))) else (letterbaglaw03_NatReads.j0 k t574 t577 bt580.1 bt582.1 true))) else (letterbaglaw03_NatReads.j0 k t574 t577 bt580.1 bt582.1 true)))))))) = some r := H
    have A6 := Aside0.mk A60
    clear A60
    replace H := Option.bind_eq_some_iff.mp H
    obtain ⟨⟨t580, t581⟩, A70, H⟩ := H
    replace H : ((nat_Text.f t577).bind fun bt582 => ((nat_Read.f t580).bind fun bt584 => ((nat_Of.f k 10).bind fun t588 => ((nat_Mul.f k t574 t588).bind fun bt591 => ((nat_Text.f bt591.1).bind fun bt595 => (if (wrap64 ((wrap64 ((wrap64 ((wrap64 (t581 + bt582.2)) + bt584.2)) + bt591.2)) + bt595.2)) = 0 then ((letterbaglaw03_same.f k bt584.1 t574).bind fun t597 => (if t597 = true then (if (t574.length : Int) > 0 then (if t580.size + 1 ≤ 9223372036854775807 then (if bt595.1.toList = (t580 ++ (⟨#[48]⟩ : ByteArray)).toList then (if (t574.length : Int) = 0 then (letterbaglaw03_NatReads.j0 k t574 t577 t580 bt582.1 (bt595.1.toList != ([48] : List UInt8))) else (letterbaglaw03_NatReads.j0 k t574 t577 t580 bt582.1 false)) else (letterbaglaw03_NatReads.j0 k t574 t577 t580 bt582.1 true)) else (none)) else (if (t574.length : Int) = 0 then (letterbaglaw03_NatReads.j0 k t574 t577 t580 bt582.1 (bt595.1.toList != ([48] : List UInt8))) else (letterbaglaw03_NatReads.j0 k t574 t577 t580 bt582.1 false))) else (letterbaglaw03_NatReads.j0 k t574 t577 t580 bt582.1 true))) else (letterbaglaw03_NatReads.j0 k t574 t577 t580 bt582.1 true))))))) = some r := H
    have A7 := Aside0.mk A70
    clear A70
    replace H := Option.bind_eq_some_iff.mp H
    obtain ⟨⟨t582, t583⟩, A80, H⟩ := H
    replace H : ((nat_Read.f t580).bind fun bt584 => ((nat_Of.f k 10).bind fun t588 => ((nat_Mul.f k t574 t588).bind fun bt591 => ((nat_Text.f bt591.1).bind fun bt595 => (if (wrap64 ((wrap64 ((wrap64 ((wrap64 (t581 + t583)) + bt584.2)) + bt591.2)) + bt595.2)) = 0 then ((letterbaglaw03_same.f k bt584.1 t574).bind fun t597 => (if t597 = true then (if (t574.length : Int) > 0 then (if t580.size + 1 ≤ 9223372036854775807 then (if bt595.1.toList = (t580 ++ (⟨#[48]⟩ : ByteArray)).toList then (if (t574.length : Int) = 0 then (letterbaglaw03_NatReads.j0 k t574 t577 t580 t582 (bt595.1.toList != ([48] : List UInt8))) else (letterbaglaw03_NatReads.j0 k t574 t577 t580 t582 false)) else (letterbaglaw03_NatReads.j0 k t574 t577 t580 t582 true)) else (none)) else (if (t574.length : Int) = 0 then (letterbaglaw03_NatReads.j0 k t574 t577 t580 t582 (bt595.1.toList != ([48] : List UInt8))) else (letterbaglaw03_NatReads.j0 k t574 t577 t580 t582 false))) else (letterbaglaw03_NatReads.j0 k t574 t577 t580 t582 true))) else (letterbaglaw03_NatReads.j0 k t574 t577 t580 t582 true)))))) = some r := H
    have A8 := Aside0.mk A80
    clear A80
    replace H := Option.bind_eq_some_iff.mp H
    obtain ⟨⟨t584, t587⟩, A90, H⟩ := H
    replace H : ((nat_Of.f k 10).bind fun t588 => ((nat_Mul.f k t574 t588).bind fun bt591 => ((nat_Text.f bt591.1).bind fun bt595 => (if (wrap64 ((wrap64 ((wrap64 ((wrap64 (t581 + t583)) + t587)) + bt591.2)) + bt595.2)) = 0 then ((letterbaglaw03_same.f k t584 t574).bind fun t597 => (if t597 = true then (if (t574.length : Int) > 0 then (if t580.size + 1 ≤ 9223372036854775807 then (if bt595.1.toList = (t580 ++ (⟨#[48]⟩ : ByteArray)).toList then (if (t574.length : Int) = 0 then (letterbaglaw03_NatReads.j0 k t574 t577 t580 t582 (bt595.1.toList != ([48] : List UInt8))) else (letterbaglaw03_NatReads.j0 k t574 t577 t580 t582 false)) else (letterbaglaw03_NatReads.j0 k t574 t577 t580 t582 true)) else (none)) else (if (t574.length : Int) = 0 then (letterbaglaw03_NatReads.j0 k t574 t577 t580 t582 (bt595.1.toList != ([48] : List UInt8))) else (letterbaglaw03_NatReads.j0 k t574 t577 t580 t582 false))) else (letterbaglaw03_NatReads.j0 k t574 t577 t580 t582 true))) else (letterbaglaw03_NatReads.j0 k t574 t577 t580 t582 true))))) = some r := H
    have A9 := Aside0.mk A90
    clear A90
    replace H := Option.bind_eq_some_iff.mp H
    obtain ⟨t588, A100, H⟩ := H
    replace H : ((nat_Mul.f k t574 t588).bind fun bt591 => ((nat_Text.f bt591.1).bind fun bt595 => (if (wrap64 ((wrap64 ((wrap64 ((wrap64 (t581 + t583)) + t587)) + bt591.2)) + bt595.2)) = 0 then ((letterbaglaw03_same.f k t584 t574).bind fun t597 => (if t597 = true then (if (t574.length : Int) > 0 then (if t580.size + 1 ≤ 9223372036854775807 then (if bt595.1.toList = (t580 ++ (⟨#[48]⟩ : ByteArray)).toList then (if (t574.length : Int) = 0 then (letterbaglaw03_NatReads.j0 k t574 t577 t580 t582 (bt595.1.toList != ([48] : List UInt8))) else (letterbaglaw03_NatReads.j0 k t574 t577 t580 t582 false)) else (letterbaglaw03_NatReads.j0 k t574 t577 t580 t582 true)) else (none)) else (if (t574.length : Int) = 0 then (letterbaglaw03_NatReads.j0 k t574 t577 t580 t582 (bt595.1.toList != ([48] : List UInt8))) else (letterbaglaw03_NatReads.j0 k t574 t577 t580 t582 false))) else (letterbaglaw03_NatReads.j0 k t574 t577 t580 t582 true))) else (letterbaglaw03_NatReads.j0 k t574 t577 t580 t582 true)))) = some r := H
    have A10 := Aside0.mk A100
    clear A100
    replace H := Option.bind_eq_some_iff.mp H
    obtain ⟨⟨t591, t594⟩, A110, H⟩ := H
    replace H : ((nat_Text.f t591).bind fun bt595 => (if (wrap64 ((wrap64 ((wrap64 ((wrap64 (t581 + t583)) + t587)) + t594)) + bt595.2)) = 0 then ((letterbaglaw03_same.f k t584 t574).bind fun t597 => (if t597 = true then (if (t574.length : Int) > 0 then (if t580.size + 1 ≤ 9223372036854775807 then (if bt595.1.toList = (t580 ++ (⟨#[48]⟩ : ByteArray)).toList then (if (t574.length : Int) = 0 then (letterbaglaw03_NatReads.j0 k t574 t577 t580 t582 (bt595.1.toList != ([48] : List UInt8))) else (letterbaglaw03_NatReads.j0 k t574 t577 t580 t582 false)) else (letterbaglaw03_NatReads.j0 k t574 t577 t580 t582 true)) else (none)) else (if (t574.length : Int) = 0 then (letterbaglaw03_NatReads.j0 k t574 t577 t580 t582 (bt595.1.toList != ([48] : List UInt8))) else (letterbaglaw03_NatReads.j0 k t574 t577 t580 t582 false))) else (letterbaglaw03_NatReads.j0 k t574 t577 t580 t582 true))) else (letterbaglaw03_NatReads.j0 k t574 t577 t580 t582 true))) = some r := H
    have A11 := Aside0.mk A110
    clear A110
    replace H := Option.bind_eq_some_iff.mp H
    obtain ⟨⟨t595, t596⟩, A120, H⟩ := H
    replace H : (if (wrap64 ((wrap64 ((wrap64 ((wrap64 (t581 + t583)) + t587)) + t594)) + t596)) = 0 then ((letterbaglaw03_same.f k t584 t574).bind fun t597 => (if t597 = true then (if (t574.length : Int) > 0 then (if t580.size + 1 ≤ 9223372036854775807 then (if t595.toList = (t580 ++ (⟨#[48]⟩ : ByteArray)).toList then (if (t574.length : Int) = 0 then (letterbaglaw03_NatReads.j0 k t574 t577 t580 t582 (t595.toList != ([48] : List UInt8))) else (letterbaglaw03_NatReads.j0 k t574 t577 t580 t582 false)) else (letterbaglaw03_NatReads.j0 k t574 t577 t580 t582 true)) else (none)) else (if (t574.length : Int) = 0 then (letterbaglaw03_NatReads.j0 k t574 t577 t580 t582 (t595.toList != ([48] : List UInt8))) else (letterbaglaw03_NatReads.j0 k t574 t577 t580 t582 false))) else (letterbaglaw03_NatReads.j0 k t574 t577 t580 t582 true))) else (letterbaglaw03_NatReads.j0 k t574 t577 t580 t582 true)) = some r := H
    have A12 := Aside0.mk A120
    clear A120
    have HC13 := Aside0.mk H
    clear H
    go_enter Tryd.func7, Tryd.ntmps7
    go_upto_region 9 with (first | ((with_reducible refine gate_callee (f := 12) rfl ?_); refine goesL_ (some 17) rfl rfl Tryd.func12 (by kernel_rfl) rfl #[] rfl (by (try simp only [List.map_toArray, List.map_cons, List.map_nil]); first | done | rfl | (simp only [List.length_drop, List.length_take]; rfl)) ?_; (with_reducible refine (letterbaglaw03_awake.calls k  true _ A3.out).mono ?_); rintro e w14 ⟨rfl, hb⟩; refine ⟨_, rfl, ?_⟩; have n0_ := Aside0.mk (below_step (by repeat (first | (with_reducible first | exact HB.out | apply below_alloc | apply pw_below_drewN | apply below_drew1) | exact HB.out)) hb); clear HB; have HB := n0_; clear n0_; (try clear hb); (try clear hb2); (try clear hk); (try clear hi)) | ((with_reducible refine gate_callee (f := 13) rfl ?_); refine goesL_ (some 20) rfl rfl Tryd.func13 (by kernel_rfl) rfl #[.slice A0 l0.length c0, .int .i64 200] rfl (by (try simp only [List.map_toArray, List.map_cons, List.map_nil]); first | done | rfl | (simp only [List.length_drop, List.length_take]; rfl)) ?_; (with_reducible refine (letterbaglaw03_number.calls k (fun k_ => k_ < w.heap.size) _ _ l0 200 t574 _ ?side1 A5.out).mono ?_); (case side1 => exact Kd.V_mk HC0.out (Kd.F_below (Kd.C_F (Kd.heap_int .u32) HR0.out) (by repeat (first | (with_reducible first | exact HB.out | apply below_alloc | apply pw_below_drewN | apply below_drew1) | exact HB.out)))); rintro e w15 ⟨v575, rfl, ho0, hb⟩; refine ⟨_, rfl, ?_⟩; have n0_ := Aside0.mk (Kd.R_lower (Kd.R_mono (ok' := fun k_ => True) ho0 (fun _ hk_ => trivial)) (below_size (by repeat (first | (with_reducible first | exact HB.out | apply below_alloc | apply pw_below_drewN | apply below_drew1) | exact HB.out)))); have n1_ := Aside0.mk (below_step (by repeat (first | (with_reducible first | exact HB.out | apply below_alloc | apply pw_below_drewN | apply below_drew1) | exact HB.out)) hb); clear HB; have HO576 := n0_; have HB := n1_; clear n0_ n1_; (try clear hb); (try clear hb2); (try clear hk); (try clear hi); (try clear ho0)) | ((with_reducible refine gate_callee (f := 13) rfl ?_); refine goesL_ (some 22) rfl rfl Tryd.func13 (by kernel_rfl) rfl #[.slice A1 l1.length c1, .int .i64 200] rfl (by (try simp only [List.map_toArray, List.map_cons, List.map_nil]); first | done | rfl | (simp only [List.length_drop, List.length_take]; rfl)) ?_; (with_reducible refine (letterbaglaw03_number.calls k (fun k_ => k_ < w.heap.size) _ _ l1 200 t577 _ ?side1 A6.out).mono ?_); (case side1 => exact Kd.V_mk HC1.out (Kd.F_below (Kd.C_F (Kd.heap_int .u32) HR1.out) (by repeat (first | (with_reducible first | exact HB.out | apply below_alloc | apply pw_below_drewN | apply below_drew1) | exact HB.out)))); rintro e w16 ⟨v578, rfl, ho0, hb⟩; refine ⟨_, rfl, ?_⟩; have n0_ := Aside0.mk (Kd.R_elder' (by (with_reducible repeat (first | apply Kd.R_alloc | apply Kd.R_drewN | apply Kd.R_drew)); exact HO576.out) (Kd.R_base ho0) hb); have n1_ := Aside0.mk (Kd.R_lower (Kd.R_new' (Kd.R_mono (ok' := fun k_ => True) ho0 (fun _ hk_ => trivial)) (Kd.R_lt (by (with_reducible repeat (first | apply Kd.R_alloc | apply Kd.R_drewN | apply Kd.R_drew)); exact HO576.out))) (below_size (by repeat (first | (with_reducible first | exact HB.out | apply below_alloc | apply pw_below_drewN | apply below_drew1) | exact HB.out)))); have n2_ := Aside0.mk (below_step (by repeat (first | (with_reducible first | exact HB.out | apply below_alloc | apply pw_below_drewN | apply below_drew1) | exact HB.out)) hb); clear HO576; clear HB; have HO576 := n0_; have HO579 := n1_; have HB := n2_; clear n0_ n1_ n2_; (try clear hb); (try clear hb2); (try clear hk); (try clear hi); (try clear ho0); obtain ⟨Ao17, co17, eo17⟩ := Kd.R_slice HO576.out; subst eo17) | ((with_reducible refine gate_callee (f := 22) rfl ?_); refine goesL_ (some 25) rfl rfl Tryd.func22 (by kernel_rfl) rfl #[.slice Ao17 t574.length co17] rfl (by (try simp only [List.map_toArray, List.map_cons, List.map_nil]); first | done | rfl | (simp only [List.length_drop, List.length_take]; rfl)) ?_; (with_reducible refine (nat_Text.calls _ _ t574 t580 t581 _ ?side1 ?side2 A7.out).mono ?_); (case side1 => repeat (first | exact (Kd.R_reads' HO576.out).2.2 | (with_reducible refine Kd.C_alloc ?_ _) | (with_reducible refine Kd.C_drewN ?_ _) | (with_reducible refine Kd.C_drew ?_))); (case side2 => exact (Kd.R_reads' HO576.out).2.1); rintro e w18 ⟨rfl, hb⟩; refine ⟨_, rfl, ?_⟩; have n0_ := Aside0.mk (Kd.R_below (by (with_reducible repeat (first | apply Kd.R_alloc | apply Kd.R_drewN | apply Kd.R_drew)); exact HO576.out) hb); have n1_ := Aside0.mk (Kd.R_below (by (with_reducible repeat (first | apply Kd.R_alloc | apply Kd.R_drewN | apply Kd.R_drew)); exact HO579.out) hb); have n2_ := Aside0.mk (below_step (by repeat (first | (with_reducible first | exact HB.out | apply below_alloc | apply pw_below_drewN | apply below_drew1) | exact HB.out)) hb); clear HO576; clear HO579; clear HB; have HO576 := n0_; have HO579 := n1_; have HB := n2_; clear n0_ n1_ n2_; (try clear hb); (try clear hb2); (try clear hk); (try clear hi); obtain ⟨Ao19, co19, eo19⟩ := Kd.R_slice HO579.out; subst eo19) | ((with_reducible refine gate_callee (f := 22) rfl ?_); refine goesL_ (some 30) rfl rfl Tryd.func22 (by kernel_rfl) rfl #[.slice Ao19 t577.length co19] rfl (by (try simp only [List.map_toArray, List.map_cons, List.map_nil]); first | done | rfl | (simp only [List.length_drop, List.length_take]; rfl)) ?_; (with_reducible refine (nat_Text.calls _ _ t577 t582 t583 _ ?side1 ?side2 A8.out).mono ?_); (case side1 => repeat (first | exact (Kd.R_reads' HO579.out).2.2 | (with_reducible refine Kd.C_alloc ?_ _) | (with_reducible refine Kd.C_drewN ?_ _) | (with_reducible refine Kd.C_drew ?_))); (case side2 => exact (Kd.R_reads' HO579.out).2.1); rintro e w20 ⟨rfl, hb⟩; refine ⟨_, rfl, ?_⟩; have n0_ := Aside0.mk (Kd.R_below (by (with_reducible repeat (first | apply Kd.R_alloc | apply Kd.R_drewN | apply Kd.R_drew)); exact HO576.out) hb); have n1_ := Aside0.mk (Kd.R_below (by (with_reducible repeat (first | apply Kd.R_alloc | apply Kd.R_drewN | apply Kd.R_drew)); exact HO579.out) hb); have n2_ := Aside0.mk (below_step (by repeat (first | (with_reducible first | exact HB.out | apply below_alloc | apply pw_below_drewN | apply below_drew1) | exact HB.out)) hb); clear HO576; clear HO579; clear HB; have HO576 := n0_; have HO579 := n1_; have HB := n2_; clear n0_ n1_ n2_; (try clear hb); (try clear hb2); (try clear hk); (try clear hi)) | ((with_reducible refine gate_callee (f := 25) rfl ?_); refine goesL_ (some 35) rfl rfl Tryd.func25 (by kernel_rfl) rfl #[.string t580] rfl (by (try simp only [List.map_toArray, List.map_cons, List.map_nil]); first | done | rfl | (simp only [List.length_drop, List.length_take]; rfl)) ?_; (with_reducible refine (nat_Read.calls t580 t584 t587 _ A9.out).mono ?_); rintro e w21 ⟨v585, rfl, ho0, hb⟩; refine ⟨_, rfl, ?_⟩; have n0_ := Aside0.mk (Kd.R_below (by (with_reducible repeat (first | apply Kd.R_alloc | apply Kd.R_drewN | apply Kd.R_drew)); exact HO576.out) hb); have n1_ := Aside0.mk (Kd.R_below (by (with_reducible repeat (first | apply Kd.R_alloc | apply Kd.R_drewN | apply Kd.R_drew)); exact HO579.out) hb); have n2_ := Aside0.mk (Kd.V_lower (Kd.V_mono (ok' := fun k_ => some k_ ≠ (.slice Ao17 t574.length co17 : Value).ownBlock ∧ some k_ ≠ (.slice Ao19 t577.length co19 : Value).ownBlock) ho0 (fun k_ hk_ => ⟨(Kd.fresh' (Kd.R_lt (by (with_reducible repeat (first | apply Kd.R_alloc | apply Kd.R_drewN | apply Kd.R_drew)); exact HO576.out)) k_ hk_), (Kd.fresh' (Kd.R_lt (by (with_reducible repeat (first | apply Kd.R_alloc | apply Kd.R_drewN | apply Kd.R_drew)); exact HO579.out)) k_ hk_)⟩)) (below_size (by repeat (first | (with_reducible first | exact HB.out | apply below_alloc | apply pw_below_drewN | apply below_drew1) | exact HB.out)))); have n3_ := Aside0.mk (below_step (by repeat (first | (with_reducible first | exact HB.out | apply below_alloc | apply pw_below_drewN | apply below_drew1) | exact HB.out)) hb); clear HO576; clear HO579; clear HB; have HO576 := n0_; have HO579 := n1_; have HO586 := n2_; have HB := n3_; clear n0_ n1_ n2_ n3_; (try clear hb); (try clear hb2); (try clear hk); (try clear hi); (try clear ho0)) | ((with_reducible refine gate_callee (f := 26) rfl ?_); refine goesL_ (some 40) rfl rfl Tryd.func26 (by kernel_rfl) rfl #[.int .u64 10] rfl (by (try simp only [List.map_toArray, List.map_cons, List.map_nil]); first | done | rfl | (simp only [List.length_drop, List.length_take]; rfl)) ?_; (with_reducible refine (nat_Of.calls k 10 t588 _ A10.out).mono ?_); rintro e w22 ⟨v589, rfl, ho0, hb⟩; refine ⟨_, rfl, ?_⟩; have n0_ := Aside0.mk (Kd.R_below (by (with_reducible repeat (first | apply Kd.R_alloc | apply Kd.R_drewN | apply Kd.R_drew)); exact HO576.out) hb); have n1_ := Aside0.mk (Kd.R_below (by (with_reducible repeat (first | apply Kd.R_alloc | apply Kd.R_drewN | apply Kd.R_drew)); exact HO579.out) hb); have n2_ := Aside0.mk (Kd.V_below (by (with_reducible repeat (first | apply Kd.V_alloc | apply Kd.V_drewN | apply Kd.V_drew)); exact HO586.out) hb); have n3_ := Aside0.mk (Kd.V_lower (Kd.V_mono (ok' := fun k_ => some k_ ≠ (.slice Ao17 t574.length co17 : Value).ownBlock ∧ some k_ ≠ (.slice Ao19 t577.length co19 : Value).ownBlock) ho0 (fun k_ hk_ => ⟨(Kd.fresh' (Kd.R_lt (by (with_reducible repeat (first | apply Kd.R_alloc | apply Kd.R_drewN | apply Kd.R_drew)); exact HO576.out)) k_ hk_), (Kd.fresh' (Kd.R_lt (by (with_reducible repeat (first | apply Kd.R_alloc | apply Kd.R_drewN | apply Kd.R_drew)); exact HO579.out)) k_ hk_)⟩)) (below_size (by repeat (first | (with_reducible first | exact HB.out | apply below_alloc | apply pw_below_drewN | apply below_drew1) | exact HB.out)))); have n4_ := Aside0.mk (below_step (by repeat (first | (with_reducible first | exact HB.out | apply below_alloc | apply pw_below_drewN | apply below_drew1) | exact HB.out)) hb); clear HO576; clear HO579; clear HO586; clear HB; have HO576 := n0_; have HO579 := n1_; have HO586 := n2_; have HO590 := n3_; have HB := n4_; clear n0_ n1_ n2_ n3_ n4_; (try clear hb); (try clear hb2); (try clear hk); (try clear hi); (try clear ho0); obtain ⟨Ao23, co23, eo23⟩ := Kd.V_slice HO590.out; subst eo23) | ((with_reducible refine gate_callee (f := 19) rfl ?_); refine goesL_ (some 41) rfl rfl Tryd.func19 (by kernel_rfl) rfl #[.slice Ao17 t574.length co17, .slice Ao23 t588.length co23] rfl (by (try simp only [List.map_toArray, List.map_cons, List.map_nil]); first | done | rfl | (simp only [List.length_drop, List.length_take]; rfl)) ?_; (with_reducible refine (nat_Mul.calls k _ _ t574 _ _ t588 t591 t594 _ ?side1 ?side2 ?side3 ?side4 A11.out).mono ?_); (case side1 => repeat (first | exact (Kd.R_reads' HO576.out).2.2 | (with_reducible refine Kd.C_alloc ?_ _) | (with_reducible refine Kd.C_drewN ?_ _) | (with_reducible refine Kd.C_drew ?_))); (case side2 => exact (Kd.R_reads' HO576.out).2.1); (case side3 => repeat (first | exact (Kd.V_reads' HO590.out).2.2 | (with_reducible refine Kd.C_alloc ?_ _) | (with_reducible refine Kd.C_drewN ?_ _) | (with_reducible refine Kd.C_drew ?_))); (case side4 => exact (Kd.V_reads' HO590.out).2.1); rintro e w24 ⟨v592, rfl, ho0, hb⟩; refine ⟨_, rfl, ?_⟩; have n0_ := Aside0.mk (Kd.R_below (by (with_reducible repeat (first | apply Kd.R_alloc | apply Kd.R_drewN | apply Kd.R_drew)); exact HO576.out) hb); have n1_ := Aside0.mk (Kd.R_below (by (with_reducible repeat (first | apply Kd.R_alloc | apply Kd.R_drewN | apply Kd.R_drew)); exact HO579.out) hb); have n2_ := Aside0.mk (Kd.V_below (by (with_reducible repeat (first | apply Kd.V_alloc | apply Kd.V_drewN | apply Kd.V_drew)); exact HO586.out) hb); have n3_ := Aside0.mk (Kd.V_below (by (with_reducible repeat (first | apply Kd.V_alloc | apply Kd.V_drewN | apply Kd.V_drew)); exact HO590.out) hb); have n4_ := Aside0.mk (Kd.V_lower (Kd.V_mono (ok' := fun k_ => some k_ ≠ (.slice Ao17 t574.length co17 : Value).ownBlock ∧ some k_ ≠ (.slice Ao19 t577.length co19 : Value).ownBlock) ho0 (fun k_ hk_ => ⟨(Kd.fresh' (Kd.R_lt (by (with_reducible repeat (first | apply Kd.R_alloc | apply Kd.R_drewN | apply Kd.R_drew)); exact HO576.out)) k_ hk_), (Kd.fresh' (Kd.R_lt (by (with_reducible repeat (first | apply Kd.R_alloc | apply Kd.R_drewN | apply Kd.R_drew)); exact HO579.out)) k_ hk_)⟩)) (below_size (by repeat (first | (with_reducible first | exact HB.out | apply below_alloc | apply pw_below_drewN | apply below_drew1) | exact HB.out)))); have n5_ := Aside0.mk (below_step (by repeat (first | (with_reducible first | exact HB.out | apply below_alloc | apply pw_below_drewN | apply below_drew1) | exact HB.out)) hb); clear HO576; clear HO579; clear HO586; clear HO590; clear HB; have HO576 := n0_; have HO579 := n1_; have HO586 := n2_; have HO590 := n3_; have HO593 := n4_; have HB := n5_; clear n0_ n1_ n2_ n3_ n4_ n5_; (try clear hb); (try clear hb2); (try clear hk); (try clear hi); (try clear ho0); obtain ⟨Ao25, co25, eo25⟩ := Kd.V_slice HO593.out; subst eo25) | ((with_reducible refine gate_callee (f := 22) rfl ?_); refine goesL_ (some 46) rfl rfl Tryd.func22 (by kernel_rfl) rfl #[.slice Ao25 t591.length co25] rfl (by (try simp only [List.map_toArray, List.map_cons, List.map_nil]); first | done | rfl | (simp only [List.length_drop, List.length_take]; rfl)) ?_; (with_reducible refine (nat_Text.calls _ _ t591 t595 t596 _ ?side1 ?side2 A12.out).mono ?_); (case side1 => repeat (first | exact (Kd.V_reads' HO593.out).2.2 | (with_reducible refine Kd.C_alloc ?_ _) | (with_reducible refine Kd.C_drewN ?_ _) | (with_reducible refine Kd.C_drew ?_))); (case side2 => exact (Kd.V_reads' HO593.out).2.1); rintro e w26 ⟨rfl, hb⟩; refine ⟨_, rfl, ?_⟩; have n0_ := Aside0.mk (Kd.R_below (by (with_reducible repeat (first | apply Kd.R_alloc | apply Kd.R_drewN | apply Kd.R_drew)); exact HO576.out) hb); have n1_ := Aside0.mk (Kd.R_below (by (with_reducible repeat (first | apply Kd.R_alloc | apply Kd.R_drewN | apply Kd.R_drew)); exact HO579.out) hb); have n2_ := Aside0.mk (Kd.V_below (by (with_reducible repeat (first | apply Kd.V_alloc | apply Kd.V_drewN | apply Kd.V_drew)); exact HO586.out) hb); have n3_ := Aside0.mk (Kd.V_below (by (with_reducible repeat (first | apply Kd.V_alloc | apply Kd.V_drewN | apply Kd.V_drew)); exact HO590.out) hb); have n4_ := Aside0.mk (Kd.V_below (by (with_reducible repeat (first | apply Kd.V_alloc | apply Kd.V_drewN | apply Kd.V_drew)); exact HO593.out) hb); have n5_ := Aside0.mk (below_step (by repeat (first | (with_reducible first | exact HB.out | apply below_alloc | apply pw_below_drewN | apply below_drew1) | exact HB.out)) hb); clear HO576; clear HO579; clear HO586; clear HO590; clear HO593; clear HB; have HO576 := n0_; have HO579 := n1_; have HO586 := n2_; have HO590 := n3_; have HO593 := n4_; have HB := n5_; clear n0_ n1_ n2_ n3_ n4_ n5_; (try clear hb); (try clear hb2); (try clear hk); (try clear hi)))
    (try simp only [Act.put, List.setIfInBounds_toArray, List.set_cons_zero, List.set_cons_succ])
    go_cut [84] (fun v84 wc => ∃ (kq : Nat) (x84_12 : Bool), v84 = .bool x84_12 ∧ Aside0 (letterbaglaw03_NatReads.j0 kq t574 t577 t580 t582 x84_12 = some r) ∧ Aside0 (kq ≤ k) ∧ Aside0 (Kd.R (Kd.int .u32) 25 wc w.heap.size (fun k_ => some k_ ≠ ((.slice Ao19 t577.length co19) : Value).ownBlock) (.slice Ao17 t574.length co17) t574) ∧ Aside0 (Kd.R (Kd.int .u32) 25 wc w.heap.size (fun k_ => some k_ ≠ ((.slice Ao17 t574.length co17) : Value).ownBlock) (.slice Ao19 t577.length co19) t577) ∧ Aside0 (Below w.heap.size w wc))
    case first =>
      have H := HC13.out
      clear HC13
      by_cases c27 : (wrap64 ((wrap64 ((wrap64 ((wrap64 (t581 + t583)) + t587)) + t594)) + t596)) = 0
      · rw [if_pos c27] at H
        have c27b0 : ((wrap64 ((wrap64 ((wrap64 ((wrap64 (t581 + t583)) + t587)) + t594)) + t596)) == 0) = true := beq_iff_eq.mpr c27
        have c27b1 : ((wrap64 ((wrap64 ((wrap64 ((wrap64 (t581 + t583)) + t587)) + t594)) + t596)) != 0) = false := bne_eq_false_iff_eq.mpr c27
        clear c27
        (first | rw [c27b0] | (simp only [i64_w, i32_w]; rw [c27b0]) | skip)
        replace H := Option.bind_eq_some_iff.mp H
        obtain ⟨t597, A280, H⟩ := H
        replace H : (if t597 = true then (if (t574.length : Int) > 0 then (if t580.size + 1 ≤ 9223372036854775807 then (if t595.toList = (t580 ++ (⟨#[48]⟩ : ByteArray)).toList then (if (t574.length : Int) = 0 then (letterbaglaw03_NatReads.j0 k t574 t577 t580 t582 (t595.toList != ([48] : List UInt8))) else (letterbaglaw03_NatReads.j0 k t574 t577 t580 t582 false)) else (letterbaglaw03_NatReads.j0 k t574 t577 t580 t582 true)) else (none)) else (if (t574.length : Int) = 0 then (letterbaglaw03_NatReads.j0 k t574 t577 t580 t582 (t595.toList != ([48] : List UInt8))) else (letterbaglaw03_NatReads.j0 k t574 t577 t580 t582 false))) else (letterbaglaw03_NatReads.j0 k t574 t577 t580 t582 true)) = some r := H
        have A28 := Aside0.mk A280
        clear A280
        by_cases c29 : t597 = true
        · subst c29
          have H1 : (if (t574.length : Int) > 0 then (if t580.size + 1 ≤ 9223372036854775807 then (if t595.toList = (t580 ++ (⟨#[48]⟩ : ByteArray)).toList then (if (t574.length : Int) = 0 then (letterbaglaw03_NatReads.j0 k t574 t577 t580 t582 (t595.toList != ([48] : List UInt8))) else (letterbaglaw03_NatReads.j0 k t574 t577 t580 t582 false)) else (letterbaglaw03_NatReads.j0 k t574 t577 t580 t582 true)) else (none)) else (if (t574.length : Int) = 0 then (letterbaglaw03_NatReads.j0 k t574 t577 t580 t582 (t595.toList != ([48] : List UInt8))) else (letterbaglaw03_NatReads.j0 k t574 t577 t580 t582 false))) = some r := by rw [if_pos rfl] at H; exact H
          clear H
          have H := H1
          clear H1
          by_cases c30 : (t574.length : Int) > 0
          · rw [if_pos c30] at H
            have c30b0 : decide (0 < (t574.length : Int)) = true := decide_eq_true c30
            have c30b1 : decide (0 < t574.length) = true := decide_eq_true (by omega)
            clear c30
            by_cases c31 : t580.size + 1 ≤ 9223372036854775807
            · rw [if_pos c31] at H
              have c31b0 := eq_true c31
              have c31b1 : decide (t580.size + 1 ≤ 9223372036854775807) = true := decide_eq_true c31
              try have c31b2 : (9223372036854775807 < t580.size + 1) = False := eq_false (Nat.not_lt.2 c31)
              by_cases c32 : t595.toList = (t580 ++ (⟨#[48]⟩ : ByteArray)).toList
              · rw [if_pos c32] at H
                have c32b0 : (t595.toList == (t580 ++ (⟨#[48]⟩ : ByteArray)).toList) = true := beq_iff_eq.mpr c32
                have c32b1 : (t595.toList != (t580 ++ (⟨#[48]⟩ : ByteArray)).toList) = false := bne_eq_false_iff_eq.mpr c32
                clear c32
                by_cases c33 : (t574.length : Int) = 0
                · rw [if_pos c33] at H
                  have c33b0 : ((t574.length : Int) == 0) = true := beq_iff_eq.mpr c33
                  have c33b1 : ((t574.length : Int) != 0) = false := bne_eq_false_iff_eq.mpr c33
                  clear c33
                  have H' := Aside0.mk H
                  clear H
                  obtain ⟨Ao34, co34, eo34⟩ := Kd.V_slice HO586.out
                  subst eo34
                  go_wp2_with (first | (go_at_call 24; (with_reducible refine (letterbaglaw03_same.calls k _ _ t584 _ _ t574 true _ ?side1 ?side2 ?side3 ?side4 A28.out).mono ?_); (case side1 => repeat (first | exact (Kd.V_reads' HO586.out).2.2 | (with_reducible refine Kd.C_alloc ?_ _) | (with_reducible refine Kd.C_drewN ?_ _) | (with_reducible refine Kd.C_drew ?_))); (case side2 => exact (Kd.V_reads' HO586.out).2.1); (case side3 => repeat (first | exact (Kd.R_reads' HO576.out).2.2 | (with_reducible refine Kd.C_alloc ?_ _) | (with_reducible refine Kd.C_drewN ?_ _) | (with_reducible refine Kd.C_drew ?_))); (case side4 => exact (Kd.R_reads' HO576.out).2.1); rintro e w' ⟨rfl, ⟨nd, rfl⟩⟩))
                  go_meet
                  case rel => exact ⟨_, ((t595.toList != ([48] : List UInt8))), (by first | rfl | (simp; done) | (simp [*]; done)), H', ⟨by first | omega | exact Nat.le_refl _⟩, ⟨by (with_reducible repeat (first | apply Kd.R_alloc | apply Kd.R_drewN | apply Kd.R_drew)); exact Kd.R_mono HO576.out (fun _ hk => hk.2)⟩, ⟨by (with_reducible repeat (first | apply Kd.R_alloc | apply Kd.R_drewN | apply Kd.R_drew)); exact Kd.R_mono HO579.out (fun _ hk => hk.2)⟩, ⟨by repeat (first | (with_reducible first | exact HB.out | apply below_alloc | apply pw_below_drewN | apply below_drew1) | exact HB.out)⟩⟩
                · rw [if_neg c33] at H
                  have c33b0 : ((t574.length : Int) == 0) = false := beq_eq_false_iff_ne.mpr c33
                  have c33b1 : ((t574.length : Int) != 0) = true := bne_iff_ne.mpr c33
                  have c33b2 : ¬ (t574 = []) := fun h_ => c33 (by rw [h_]; rfl)
                  have H' := Aside0.mk H
                  clear H
                  obtain ⟨Ao35, co35, eo35⟩ := Kd.V_slice HO586.out
                  subst eo35
                  go_wp2_with (first | (go_at_call 24; (with_reducible refine (letterbaglaw03_same.calls k _ _ t584 _ _ t574 true _ ?side1 ?side2 ?side3 ?side4 A28.out).mono ?_); (case side1 => repeat (first | exact (Kd.V_reads' HO586.out).2.2 | (with_reducible refine Kd.C_alloc ?_ _) | (with_reducible refine Kd.C_drewN ?_ _) | (with_reducible refine Kd.C_drew ?_))); (case side2 => exact (Kd.V_reads' HO586.out).2.1); (case side3 => repeat (first | exact (Kd.R_reads' HO576.out).2.2 | (with_reducible refine Kd.C_alloc ?_ _) | (with_reducible refine Kd.C_drewN ?_ _) | (with_reducible refine Kd.C_drew ?_))); (case side4 => exact (Kd.R_reads' HO576.out).2.1); rintro e w' ⟨rfl, ⟨nd, rfl⟩⟩))
                  go_meet
                  case rel => exact ⟨_, (false), (by first | rfl | (simp; done) | (simp [*]; done)), H', ⟨by first | omega | exact Nat.le_refl _⟩, ⟨by (with_reducible repeat (first | apply Kd.R_alloc | apply Kd.R_drewN | apply Kd.R_drew)); exact Kd.R_mono HO576.out (fun _ hk => hk.2)⟩, ⟨by (with_reducible repeat (first | apply Kd.R_alloc | apply Kd.R_drewN | apply Kd.R_drew)); exact Kd.R_mono HO579.out (fun _ hk => hk.2)⟩, ⟨by repeat (first | (with_reducible first | exact HB.out | apply below_alloc | apply pw_below_drewN | apply below_drew1) | exact HB.out)⟩⟩
              · rw [if_neg c32] at H
                have c32b0 : (t595.toList == (t580 ++ (⟨#[48]⟩ : ByteArray)).toList) = false := beq_eq_false_iff_ne.mpr c32
                have c32b1 : (t595.toList != (t580 ++ (⟨#[48]⟩ : ByteArray)).toList) = true := bne_iff_ne.mpr c32
                have H' := Aside0.mk H
                clear H
                obtain ⟨Ao36, co36, eo36⟩ := Kd.V_slice HO586.out
                subst eo36
                go_wp2_with (first | (go_at_call 24; (with_reducible refine (letterbaglaw03_same.calls k _ _ t584 _ _ t574 true _ ?side1 ?side2 ?side3 ?side4 A28.out).mono ?_); (case side1 => repeat (first | exact (Kd.V_reads' HO586.out).2.2 | (with_reducible refine Kd.C_alloc ?_ _) | (with_reducible refine Kd.C_drewN ?_ _) | (with_reducible refine Kd.C_drew ?_))); (case side2 => exact (Kd.V_reads' HO586.out).2.1); (case side3 => repeat (first | exact (Kd.R_reads' HO576.out).2.2 | (with_reducible refine Kd.C_alloc ?_ _) | (with_reducible refine Kd.C_drewN ?_ _) | (with_reducible refine Kd.C_drew ?_))); (case side4 => exact (Kd.R_reads' HO576.out).2.1); rintro e w' ⟨rfl, ⟨nd, rfl⟩⟩))
                go_meet
                case rel => exact ⟨_, (true), (by first | rfl | (simp; done) | (simp [*]; done)), H', ⟨by first | omega | exact Nat.le_refl _⟩, ⟨by (with_reducible repeat (first | apply Kd.R_alloc | apply Kd.R_drewN | apply Kd.R_drew)); exact Kd.R_mono HO576.out (fun _ hk => hk.2)⟩, ⟨by (with_reducible repeat (first | apply Kd.R_alloc | apply Kd.R_drewN | apply Kd.R_drew)); exact Kd.R_mono HO579.out (fun _ hk => hk.2)⟩, ⟨by repeat (first | (with_reducible first | exact HB.out | apply below_alloc | apply pw_below_drewN | apply below_drew1) | exact HB.out)⟩⟩
            · rw [if_neg c31] at H
              exact absurd H (by simp)
          · rw [if_neg c30] at H
            have c30b0 : decide (0 < (t574.length : Int)) = false := decide_eq_false c30
            have c30b1 : decide (0 < t574.length) = false := decide_eq_false (by omega)
            clear c30
            by_cases c37 : (t574.length : Int) = 0
            · rw [if_pos c37] at H
              have c37b0 : ((t574.length : Int) == 0) = true := beq_iff_eq.mpr c37
              have c37b1 : ((t574.length : Int) != 0) = false := bne_eq_false_iff_eq.mpr c37
              clear c37
              have H' := Aside0.mk H
              clear H
              obtain ⟨Ao38, co38, eo38⟩ := Kd.V_slice HO586.out
              subst eo38
              go_wp2_with (first | (go_at_call 24; (with_reducible refine (letterbaglaw03_same.calls k _ _ t584 _ _ t574 true _ ?side1 ?side2 ?side3 ?side4 A28.out).mono ?_); (case side1 => repeat (first | exact (Kd.V_reads' HO586.out).2.2 | (with_reducible refine Kd.C_alloc ?_ _) | (with_reducible refine Kd.C_drewN ?_ _) | (with_reducible refine Kd.C_drew ?_))); (case side2 => exact (Kd.V_reads' HO586.out).2.1); (case side3 => repeat (first | exact (Kd.R_reads' HO576.out).2.2 | (with_reducible refine Kd.C_alloc ?_ _) | (with_reducible refine Kd.C_drewN ?_ _) | (with_reducible refine Kd.C_drew ?_))); (case side4 => exact (Kd.R_reads' HO576.out).2.1); rintro e w' ⟨rfl, ⟨nd, rfl⟩⟩))
              go_meet
              case rel => exact ⟨_, ((t595.toList != ([48] : List UInt8))), (by first | rfl | (simp; done) | (simp [*]; done)), H', ⟨by first | omega | exact Nat.le_refl _⟩, ⟨by (with_reducible repeat (first | apply Kd.R_alloc | apply Kd.R_drewN | apply Kd.R_drew)); exact Kd.R_mono HO576.out (fun _ hk => hk.2)⟩, ⟨by (with_reducible repeat (first | apply Kd.R_alloc | apply Kd.R_drewN | apply Kd.R_drew)); exact Kd.R_mono HO579.out (fun _ hk => hk.2)⟩, ⟨by repeat (first | (with_reducible first | exact HB.out | apply below_alloc | apply pw_below_drewN | apply below_drew1) | exact HB.out)⟩⟩
            · rw [if_neg c37] at H
              have c37b0 : ((t574.length : Int) == 0) = false := beq_eq_false_iff_ne.mpr c37
              have c37b1 : ((t574.length : Int) != 0) = true := bne_iff_ne.mpr c37
              have c37b2 : ¬ (t574 = []) := fun h_ => c37 (by rw [h_]; rfl)
              have H' := Aside0.mk H
              clear H
              obtain ⟨Ao39, co39, eo39⟩ := Kd.V_slice HO586.out
              subst eo39
              go_wp2_with (first | (go_at_call 24; (with_reducible refine (letterbaglaw03_same.calls k _ _ t584 _ _ t574 true _ ?side1 ?side2 ?side3 ?side4 A28.out).mono ?_); (case side1 => repeat (first | exact (Kd.V_reads' HO586.out).2.2 | (with_reducible refine Kd.C_alloc ?_ _) | (with_reducible refine Kd.C_drewN ?_ _) | (with_reducible refine Kd.C_drew ?_))); (case side2 => exact (Kd.V_reads' HO586.out).2.1); (case side3 => repeat (first | exact (Kd.R_reads' HO576.out).2.2 | (with_reducible refine Kd.C_alloc ?_ _) | (with_reducible refine Kd.C_drewN ?_ _) | (with_reducible refine Kd.C_drew ?_))); (case side4 => exact (Kd.R_reads' HO576.out).2.1); rintro e w' ⟨rfl, ⟨nd, rfl⟩⟩))
              go_meet
              case rel => exact ⟨_, (false), (by first | rfl | (simp; done) | (simp [*]; done)), H', ⟨by first | omega | exact Nat.le_refl _⟩, ⟨by (with_reducible repeat (first | apply Kd.R_alloc | apply Kd.R_drewN | apply Kd.R_drew)); exact Kd.R_mono HO576.out (fun _ hk => hk.2)⟩, ⟨by (with_reducible repeat (first | apply Kd.R_alloc | apply Kd.R_drewN | apply Kd.R_drew)); exact Kd.R_mono HO579.out (fun _ hk => hk.2)⟩, ⟨by repeat (first | (with_reducible first | exact HB.out | apply below_alloc | apply pw_below_drewN | apply below_drew1) | exact HB.out)⟩⟩
        · replace c29 := Bool.eq_false_iff.mpr c29
          subst c29
          have H1 : (letterbaglaw03_NatReads.j0 k t574 t577 t580 t582 true) = some r := by rw [if_neg (show ¬ (false = true) by decide)] at H; exact H
          clear H
          have H := H1
          clear H1
          have H' := Aside0.mk H
          clear H
          obtain ⟨Ao40, co40, eo40⟩ := Kd.V_slice HO586.out
          subst eo40
          go_wp2_with (first | (go_at_call 24; (with_reducible refine (letterbaglaw03_same.calls k _ _ t584 _ _ t574 false _ ?side1 ?side2 ?side3 ?side4 A28.out).mono ?_); (case side1 => repeat (first | exact (Kd.V_reads' HO586.out).2.2 | (with_reducible refine Kd.C_alloc ?_ _) | (with_reducible refine Kd.C_drewN ?_ _) | (with_reducible refine Kd.C_drew ?_))); (case side2 => exact (Kd.V_reads' HO586.out).2.1); (case side3 => repeat (first | exact (Kd.R_reads' HO576.out).2.2 | (with_reducible refine Kd.C_alloc ?_ _) | (with_reducible refine Kd.C_drewN ?_ _) | (with_reducible refine Kd.C_drew ?_))); (case side4 => exact (Kd.R_reads' HO576.out).2.1); rintro e w' ⟨rfl, ⟨nd, rfl⟩⟩))
          go_meet
          case rel => exact ⟨_, (true), (by first | rfl | (simp; done) | (simp [*]; done)), H', ⟨by first | omega | exact Nat.le_refl _⟩, ⟨by (with_reducible repeat (first | apply Kd.R_alloc | apply Kd.R_drewN | apply Kd.R_drew)); exact Kd.R_mono HO576.out (fun _ hk => hk.2)⟩, ⟨by (with_reducible repeat (first | apply Kd.R_alloc | apply Kd.R_drewN | apply Kd.R_drew)); exact Kd.R_mono HO579.out (fun _ hk => hk.2)⟩, ⟨by repeat (first | (with_reducible first | exact HB.out | apply below_alloc | apply pw_below_drewN | apply below_drew1) | exact HB.out)⟩⟩
      · rw [if_neg c27] at H
        have c27b0 : ((wrap64 ((wrap64 ((wrap64 ((wrap64 (t581 + t583)) + t587)) + t594)) + t596)) == 0) = false := beq_eq_false_iff_ne.mpr c27
        have c27b1 : ((wrap64 ((wrap64 ((wrap64 ((wrap64 (t581 + t583)) + t587)) + t594)) + t596)) != 0) = true := bne_iff_ne.mpr c27
        (first | rw [c27b0] | (simp only [i64_w, i32_w]; rw [c27b0]) | skip)
        have H' := Aside0.mk H
        clear H
        go_wp2
        go_meet
        case rel => exact ⟨_, (true), (by first | rfl | (simp; done) | (simp [*]; done)), H', ⟨by first | omega | exact Nat.le_refl _⟩, ⟨by (with_reducible repeat (first | apply Kd.R_alloc | apply Kd.R_drewN | apply Kd.R_drew)); exact Kd.R_mono HO576.out (fun _ hk => hk.2)⟩, ⟨by (with_reducible repeat (first | apply Kd.R_alloc | apply Kd.R_drewN | apply Kd.R_drew)); exact Kd.R_mono HO579.out (fun _ hk => hk.2)⟩, ⟨by repeat (first | (with_reducible first | exact HB.out | apply below_alloc | apply pw_below_drewN | apply below_drew1) | exact HB.out)⟩⟩
    case rest =>
      clear HC13
      try clear c1
      try clear c2
      try clear p2
      try clear c3
      try clear c4
      try clear p6
      try clear c7
      try clear c12
      try clear c13
      try clear c19
      try clear c22
      try clear c25
      try clear c26
      try clear c27
      try clear c27b0
      try clear c27b1
      try clear c29
      try clear c30
      try clear c30b0
      try clear c30b1
      try clear c31
      try clear c31b0
      try clear c31b1
      try clear c31b2
      try clear c32
      try clear c32b0
      try clear c32b1
      try clear c33
      try clear c33b0
      try clear c33b1
      try clear c33b2
      try clear c37
      try clear c37b0
      try clear c37b1
      try clear c37b2
      try clear HO_5
      try clear HO_6
      obtain ⟨kq, x84_12, rfl, HA, HJ12, HO_5, HO_6, HB⟩ := hcut
      cases kq with
      | zero => exact absurd HA.out (by simp [letterbaglaw03_NatReads.j0])
      | succ kj12 =>
        have H := HA.out
        clear HA
        simp only [letterbaglaw03_NatReads.j0] at H
        by_cases c41 : x84_12 = true
        · subst c41
          have H1 : (some false) = some r := by rw [if_pos rfl] at H; exact H
          clear H
          have H := H1
          clear H1
          obtain rfl := Option.some.inj H
          go_wp2
          go_ret
          exact ⟨by first | rfl | (simp [errW_none, errW_some] <;> rfl) | (simp [*, errW_none, errW_some] <;> rfl), by repeat (first | (with_reducible first | exact HB.out | apply below_alloc | apply pw_below_drewN | apply below_drew1) | exact HB.out)⟩
        · replace c41 := Bool.eq_false_iff.mpr c41
          subst c41
          have H1 : (if (t580.size : Int) = (t582.size : Int) then ((letterbaglaw03_less.f kj12 t574 t577).bind fun t598 => (some (t598 == (Op.bytesLess t580.toList t582.toList)))) else ((letterbaglaw03_less.f kj12 t574 t577).bind fun t599 => (some (t599 == (decide ((t580.size : Int) < (t582.size : Int))))))) = some r := by rw [if_neg (show ¬ (false = true) by decide)] at H; exact H
          clear H
          have H := H1
          clear H1
          by_cases c42 : (t580.size : Int) = (t582.size : Int)
          · rw [if_pos c42] at H
            have c42b0 : ((t580.size : Int) == (t582.size : Int)) = true := beq_iff_eq.mpr c42
            have c42b1 : ((t580.size : Int) != (t582.size : Int)) = false := bne_eq_false_iff_eq.mpr c42
            have c42b2 : (t580.size == t582.size) = true := by first | simpa using c42 | (simp at c42 ⊢; omega)
            clear c42
            replace H := Option.bind_eq_some_iff.mp H
            obtain ⟨t598, A430, H⟩ := H
            replace H : (some (t598 == (Op.bytesLess t580.toList t582.toList))) = some r := H
            have A43 := Aside0.mk A430
            clear A430
            obtain rfl := Option.some.inj H
            go_wp2_with (first | ((with_reducible refine gate_callee (f := 27) rfl ?_); refine goesL_ (some 101) rfl rfl Tryd.func27 (by kernel_rfl) rfl #[.slice Ao17 t574.length co17, .slice Ao19 t577.length co19] rfl (by (try simp only [List.map_toArray, List.map_cons, List.map_nil]); first | done | rfl | (simp only [List.length_drop, List.length_take]; rfl)) ?_; (with_reducible refine (letterbaglaw03_less.calls kj12 _ _ t574 _ _ t577 t598 _ ?side1 ?side2 ?side3 ?side4 A43.out).mono ?_); (case side1 => repeat (first | exact (Kd.R_reads' HO_5.out).2.2 | (with_reducible refine Kd.C_alloc ?_ _) | (with_reducible refine Kd.C_drewN ?_ _) | (with_reducible refine Kd.C_drew ?_))); (case side2 => exact (Kd.R_reads' HO_5.out).2.1); (case side3 => repeat (first | exact (Kd.R_reads' HO_6.out).2.2 | (with_reducible refine Kd.C_alloc ?_ _) | (with_reducible refine Kd.C_drewN ?_ _) | (with_reducible refine Kd.C_drew ?_))); (case side4 => exact (Kd.R_reads' HO_6.out).2.1); rintro e w' ⟨rfl, ⟨nd, rfl⟩⟩; refine ⟨_, rfl, ?_⟩))
            go_ret
            exact ⟨by first | rfl | (simp [errW_none, errW_some] <;> rfl) | (simp [*, errW_none, errW_some] <;> rfl), by repeat (first | (with_reducible first | exact HB.out | apply below_alloc | apply pw_below_drewN | apply below_drew1) | exact HB.out)⟩
          · rw [if_neg c42] at H
            have c42b0 : ((t580.size : Int) == (t582.size : Int)) = false := beq_eq_false_iff_ne.mpr c42
            have c42b1 : ((t580.size : Int) != (t582.size : Int)) = true := bne_iff_ne.mpr c42
            have c42b2 : (t580.size == t582.size) = false := by first | simpa using c42 | (simp at c42 ⊢; omega)
            replace H := Option.bind_eq_some_iff.mp H
            obtain ⟨t599, A440, H⟩ := H
            replace H : (some (t599 == (decide ((t580.size : Int) < (t582.size : Int))))) = some r := H
            have A44 := Aside0.mk A440
            clear A440
            obtain rfl := Option.some.inj H
            go_wp2_with (first | ((with_reducible refine gate_callee (f := 27) rfl ?_); refine goesL_ (some 92) rfl rfl Tryd.func27 (by kernel_rfl) rfl #[.slice Ao17 t574.length co17, .slice Ao19 t577.length co19] rfl (by (try simp only [List.map_toArray, List.map_cons, List.map_nil]); first | done | rfl | (simp only [List.length_drop, List.length_take]; rfl)) ?_; (with_reducible refine (letterbaglaw03_less.calls kj12 _ _ t574 _ _ t577 t599 _ ?side1 ?side2 ?side3 ?side4 A44.out).mono ?_); (case side1 => repeat (first | exact (Kd.R_reads' HO_5.out).2.2 | (with_reducible refine Kd.C_alloc ?_ _) | (with_reducible refine Kd.C_drewN ?_ _) | (with_reducible refine Kd.C_drew ?_))); (case side2 => exact (Kd.R_reads' HO_5.out).2.1); (case side3 => repeat (first | exact (Kd.R_reads' HO_6.out).2.2 | (with_reducible refine Kd.C_alloc ?_ _) | (with_reducible refine Kd.C_drewN ?_ _) | (with_reducible refine Kd.C_drew ?_))); (case side4 => exact (Kd.R_reads' HO_6.out).2.1); rintro e w' ⟨rfl, ⟨nd, rfl⟩⟩; refine ⟨_, rfl, ?_⟩))
            go_ret
            exact ⟨by first | rfl | (simp [errW_none, errW_some] <;> rfl) | (simp [*, errW_none, errW_some] <;> rfl), by repeat (first | (with_reducible first | exact HB.out | apply below_alloc | apply pw_below_drewN | apply below_drew1) | exact HB.out)⟩
  · replace c4 := Bool.eq_false_iff.mpr c4
    subst c4
    have H1 : (some false) = some r := by rw [if_neg (show ¬ (false = true) by decide)] at H; exact H
    clear H
    have H := H1
    clear H1
    obtain rfl := Option.some.inj H
    go_enter Tryd.func7, Tryd.ntmps7
    go_wp2_with (first | ((with_reducible refine gate_callee (f := 12) rfl ?_); refine goesL_ (some 17) rfl rfl Tryd.func12 (by kernel_rfl) rfl #[] rfl (by (try simp only [List.map_toArray, List.map_cons, List.map_nil]); first | done | rfl | (simp only [List.length_drop, List.length_take]; rfl)) ?_; (with_reducible refine (letterbaglaw03_awake.calls k  false _ A3.out).mono ?_); rintro e w45 ⟨rfl, hb⟩; refine ⟨_, rfl, ?_⟩; have n0_ := Aside0.mk (below_step (by repeat (first | (with_reducible first | exact HB.out | apply below_alloc | apply pw_below_drewN | apply below_drew1) | exact HB.out)) hb); clear HB; have HB := n0_; clear n0_; (try clear hb); (try clear hb2); (try clear hk); (try clear hi)))
    go_ret
    exact ⟨by first | rfl | (simp [errW_none, errW_some] <;> rfl) | (simp [*, errW_none, errW_some] <;> rfl), by repeat (first | (with_reducible first | exact HB.out | apply below_alloc | apply pw_below_drewN | apply below_drew1) | exact HB.out)⟩

/-- THE ONE PURE STATEMENT of letterbaglaw03_NatReads: yours. -/
def letterbaglaw03_NatReads.Pure : Prop := ∀ (l0 : List Int) (l1 : List Int), l0.length ≤ maxLen → l0.length * 4 ≤ 140737488351232 → (∀ x ∈ l0, (Lit.int .u32 x).wf = true) → l1.length ≤ maxLen → l1.length * 4 ≤ 140737488351232 → (∀ x ∈ l1, (Lit.int .u32 x).wf = true) → ∃ k, letterbaglaw03_NatReads.f k l0 l1 = some true
theorem letterbaglaw03_NatReads.walk (P : letterbaglaw03_NatReads.Pure) (a0 : Option Addr) (len0 cap0 : Nat) (z0 : List Int) (a1 : Option Addr) (len1 cap1 : Nat) (z1 : List Int) (w : World) (w0 : (a0 = none ∧ len0 = 0 ∧ cap0 = 0 ∧ z0 = []) ∨ ∃ x, a0 = some x ∧ len0 ≤ cap0 ∧ cap0 ≤ maxLen ∧ z0.length = cap0 ∧ (∀ i, i < z0.length → w.cell? (x.add i) = some (.int .u32 (z0.getD i 0))) ∧ ∀ n ∈ z0, (Lit.int .u32 n).wf = true) (y0 : len0 * 4 ≤ 140737488351232) (w1 : (a1 = none ∧ len1 = 0 ∧ cap1 = 0 ∧ z1 = []) ∨ ∃ x, a1 = some x ∧ len1 ≤ cap1 ∧ cap1 ≤ maxLen ∧ z1.length = cap1 ∧ (∀ i, i < z1.length → w.cell? (x.add i) = some (.int .u32 (z1.getD i 0))) ∧ ∀ n ∈ z1, (Lit.int .u32 n).wf = true) (y1 : len1 * 4 ≤ 140737488351232) :
    Calls Tryd.prog 7 #[.slice a0 len0 cap0, .slice a1 len1 cap1] w fun e w' => e = .returned (.bool true) ∧ Below w.heap.size w w' := by
  obtain ⟨l0, rfl, hr0, hm0, hw0, hc0⟩ := ReadsInt.ofRowC w0
  obtain ⟨l1, rfl, hr1, hm1, hw1, hc1⟩ := ReadsInt.ofRowC w1
  obtain ⟨k, h⟩ := P l0 l1 hm0 y0 hw0 hm1 y1 hw1
  refine (letterbaglaw03_NatReads.calls k _ _ l0 _ _ l1 true w (Kd.C_of_reads (d := (0 : Int)) (h1 := fun _ => rfl) hr0) hc0 (Kd.C_of_reads (d := (0 : Int)) (h1 := fun _ => rfl) hr1) hc1 h).mono ?_
  rintro e w' ⟨rfl, hd⟩
  exact ⟨rfl, hd⟩

end
end Go.Proofs.YtgpninmfbooijaaDoor.Px
