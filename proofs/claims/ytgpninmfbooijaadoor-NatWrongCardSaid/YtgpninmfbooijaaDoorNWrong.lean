/-
  What nat's functions answer at limbs that are no number: errors and zeros.
-/
import Derived.Test.YtgpninmfbooijaaDoorAwake
import Derived.Test.YtgpninmfbooijaaDoorNTake
namespace Go.Proofs.YtgpninmfbooijaaDoor.Px
open Go.RowKit Go.Proofs.YtgpninmfbooijaaDoorW.PrintWords Go.Proofs.YtgpninmfbooijaaDoorW.PrintLast Go.Proofs.YtgpninmfbooijaaDoorW.PrintMore Go.Proofs.YtgpninmfbooijaaDoor.Num

theorem Ev.bind_eqs {α β : Type} {g : Option α} {h : Nat → α → Option β} {t : α} {r : β} (hg : g = some t) (hh : Ev (fun k => h k t) r) : Ev (fun k => g.bind (h k)) r := Ev.bind_eq hg hh
theorem bad_uint {b : List Int} (h : ¬ Rt b) : Ev (fun k => nat_Uint.f k b) (0, false) := by
  have hj : Ev (fun k => nat_Uint.j0 k b true) (0, false) := by
    refine Ev.step ?_
    simp only [nat_Uint.j0]
    exact Ev.pos trivial (Ev.const _)
  unfold nat_Uint.f
  by_cases h2 : (b.length : Int) > 2
  · exact Ev.pos h2 hj
  · exact Ev.neg h2 (Ev.bind_eq (right_no h) hj)
theorem bad_cmp {x y : List Int} (h : ¬ (Rt x ∧ Rt y)) : Ev (fun k => nat_Cmp.f k x y) (0, 2) := by
  unfold nat_Cmp.f
  by_cases hx : Rt x
  · exact Ev.bind_eq (right_yes hx) (Ev.pos rfl (Ev.bind_eq (right_no (fun hy => h ⟨hx, hy⟩)) (Ev.neg (by decide) (Ev.const _))))
  · exact Ev.bind_eq (right_no hx) (Ev.neg (by decide) (Ev.const _))
theorem bad_add {x y : List Int} (lx : Lim x) (ly : Lim y) (h : ¬ (Rt x ∧ Rt y)) : nat_Add.f x y = some ([], 2) := by
  unfold nat_Add.f
  rw [if_pos ⟨lx, ly⟩, if_neg h]
theorem bad_sub {x y : List Int} (h : ¬ (Rt x ∧ Rt y)) : Ev (fun k => nat_Sub.f k x y) ([], 2) := by
  have hj : Ev (fun k => nat_Sub.j0 k x y true) ([], 2) := by
    refine Ev.step ?_
    simp only [nat_Sub.j0]
    exact Ev.pos trivial (Ev.const _)
  unfold nat_Sub.f
  by_cases hx : Rt x
  · exact Ev.bind_eq (right_yes hx) (Ev.pos rfl (Ev.bind_eq (right_no (fun hy => h ⟨hx, hy⟩)) (Ev.neg (by decide) hj)))
  · exact Ev.bind_eq (right_no hx) (Ev.neg (by decide) hj)
theorem bad_mul {x y : List Int} (h : ¬ (Rt x ∧ Rt y)) : Ev (fun k => nat_Mul.f k x y) ([], 2) := by
  have hj : Ev (fun k => nat_Mul.j0 k x y true) ([], 2) := by
    refine Ev.step ?_
    simp only [nat_Mul.j0]
    exact Ev.pos trivial (Ev.const _)
  unfold nat_Mul.f
  by_cases hx : Rt x
  · exact Ev.bind_eq (right_yes hx) (Ev.pos rfl (Ev.bind_eq (right_no (fun hy => h ⟨hx, hy⟩)) hj))
  · exact Ev.bind_eq (right_no hx) (Ev.neg (by decide) hj)
theorem bad_div {x y : List Int} (h : ¬ (Rt x ∧ Rt y)) : Ev (fun k => nat_DivMod.f k x y) ([], [], 2) := by
  have hj : Ev (fun k => nat_DivMod.j0 k x y true) ([], [], 2) := by
    refine Ev.step ?_
    simp only [nat_DivMod.j0]
    exact Ev.pos trivial (Ev.const _)
  unfold nat_DivMod.f
  by_cases hx : Rt x
  · exact Ev.bind_eq (right_yes hx) (Ev.pos rfl (Ev.bind_eq (right_no (fun hy => h ⟨hx, hy⟩)) (Ev.neg (by decide) hj)))
  · exact Ev.bind_eq (right_no hx) (Ev.neg (by decide) hj)
theorem bad_pow {x : List Int} {n : Int} (h : ¬ (Rt x ∧ 0 ≤ n)) : Ev (fun k => nat_Pow.f k x n) ([], 2) := by
  have hj : Ev (fun k => nat_Pow.j0 k x n true) ([], 2) := by
    refine Ev.step ?_
    simp only [nat_Pow.j0]
    exact Ev.pos trivial (Ev.const _)
  unfold nat_Pow.f
  by_cases hx : Rt x
  · refine Ev.bind_eq (right_yes hx) (Ev.pos rfl ?_)
    rw [decide_eq_true (show n < 0 by apply Int.not_le.1; exact fun h0 => h ⟨hx, h0⟩)]
    exact hj
  · exact Ev.bind_eq (right_no hx) (Ev.neg (by decide) hj)
theorem bad_text {x : List Int} (lx : Lim x) (h : ¬ Rt x) : nat_Text.f x = some (⟨#[]⟩, 2) := by
  unfold nat_Text.f
  rw [if_pos lx, if_neg h]

/-- A slice whose limbs are no number, as one reads it in this world. -/
def BadV (W : World) (v : Value) : Prop := ∃ (b : List Int) (A : Option Addr) (c : Nat), v = .slice A b.length c ∧ b.length ≤ c ∧ Kd.C (Kd.int .u32) W A b.length b ∧ Lim b ∧ ¬ Rt b
theorem BadV.below {W W1 : World} {v : Value} (h : BadV W v) (hb : Below W.heap.size W W1) : BadV W1 v := by
  obtain ⟨b, A, c, e, hc, hC, hL, hR⟩ := h
  exact ⟨b, A, c, e, hc, Kd.C_below hC hb, hL, hR⟩
/-- Two slices of which one is no number. -/
def BadP (W : World) (u v : Value) : Prop := ∃ (x y : List Int) (A B : Option Addr) (c d : Nat), u = .slice A x.length c ∧ v = .slice B y.length d ∧ x.length ≤ c ∧ y.length ≤ d ∧
  Kd.C (Kd.int .u32) W A x.length x ∧ Kd.C (Kd.int .u32) W B y.length y ∧ Lim x ∧ Lim y ∧ ¬ (Rt x ∧ Rt y)
theorem BadP.below {W W1 : World} {u v : Value} (h : BadP W u v) (hb : Below W.heap.size W W1) : BadP W1 u v := by
  obtain ⟨x, y, A, B, c, d, e, f, hx, hy, hA, hB, h⟩ := h
  exact ⟨x, y, A, B, c, d, e, f, hx, hy, Kd.C_below hA hb, Kd.C_below hB hb, h⟩
theorem BadP.first {W : World} {v : Value} (h : BadV W v) {B : Option Addr} {d : Nat} (hd : 1 ≤ d) (hB : Kd.C (Kd.int .u32) W B 1 [1]) : BadP W v (.slice B 1 d) := by
  obtain ⟨b, A, c, e, hc, hC, hL, hR⟩ := h
  exact ⟨b, [1], A, B, c, d, e, rfl, hc, hd, hC, hB, hL, Lim.mk (by rw [BB_eq]; omega) Lim.nil, fun h => hR h.1⟩
theorem BadP.second {W : World} {v : Value} (h : BadV W v) {B : Option Addr} {d : Nat} (hd : 1 ≤ d) (hB : Kd.C (Kd.int .u32) W B 1 [1]) : BadP W (.slice B 1 d) v := by
  obtain ⟨b, A, c, e, hc, hC, hL, hR⟩ := h
  exact ⟨[1], b, B, A, d, c, rfl, e, hd, hc, hB, hC, Lim.mk (by rw [BB_eq]; omega) Lim.nil, hL, fun h => hR h.2⟩
/-- With a zero at the end, or too long, limbs are no number. -/
theorem bad_zero (l : List Int) : ¬ Rt (l ++ [0]) := by
  rintro ⟨_, h⟩
  exact h l.length (by simp) (by simp [List.getD_eq_getElem?_getD])
theorem bad_long {l : List Int} (h : 1024 < l.length) : ¬ Rt l := fun hr => by have := hr.1; omega
end Go.Proofs.YtgpninmfbooijaaDoor.Px
