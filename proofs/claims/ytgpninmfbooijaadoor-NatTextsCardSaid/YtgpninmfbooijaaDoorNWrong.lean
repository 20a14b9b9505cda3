/-
  What nat's functions answer at limbs that are no number: errors and zeros.
-/
import Derived.Test.YtgpninmfbooijaaDoorAwake
import Derived.Test.YtgpninmfbooijaaDoorNTake
namespace Go.Proofs.YtgpninmfbooijaaDoor.Px
open Go.RowKit Go.Proofs.YtgpninmfbooijaaDoorW.PrintWords Go.Proofs.YtgpninmfbooijaaDoorW.PrintLast Go.Proofs.YtgpninmfbooijaaDoorW.PrintMore Go.Proofs.YtgpninmfbooijaaDoor.Num

theorem bad_pow {x : List Int} {n : Int} (h : ¬ (Rt x ∧ 0 ≤ n)) : Ev (fun k => nat_Pow.f k x n) ([], 2) := by
  have hj : Ev (fun k => nat_Pow.j0 k x n true) ([], 2) := by
    refine Ev.step ?_
    simp only [nat_Pow.j0]
    exact Ev.pos trivial (Ev.const _)
  unfold nat_Pow.f
  by_cases hx : Rt x
  · refine Ev.bind_eq (right_yes hx) (Ev.pos rfl ?_)
    rw [decide_eq_true (show n < 0 by apply Int.not_le.1; exact fun h0 => h ⟨hx, h0⟩)]
    exact hj
  · exact Ev.bind_eq (right_no hx) (Ev.neg (by decide) hj)
theorem bad_text {x : List Int} (lx : Lim x) (h : ¬ Rt x) : nat_Text.f x = some (⟨#[]⟩, 2) := by
  unfold nat_Text.f
  rw [if_pos lx, if_neg h]

/-- A slice whose limbs are no number, as one reads it in this world. -/
def BadV (W : World) (v : Value) : Prop := ∃ (b : List Int) (A : Option Addr) (c : Nat), v = .slice A b.length c ∧ b.length ≤ c ∧ Kd.C (Kd.int .u32) W A b.length b ∧ Lim b ∧ ¬ Rt b
theorem BadV.below {W W1 : World} {v : Value} (h : BadV W v) (hb : Below W.heap.size W W1) : BadV W1 v := by
  obtain ⟨b, A, c, e, hc, hC, hL, hR⟩ := h
  exact ⟨b, A, c, e, hc, Kd.C_below hC hb, hL, hR⟩
/-- Two slices of which one is no number. -/
def BadP (W : World) (u v : Value) : Prop := ∃ (x y : List Int) (A B : Option Addr) (c d : Nat), u = .slice A x.length c ∧ v = .slice B y.length d ∧ x.length ≤ c ∧ y.length ≤ d ∧
  Kd.C (Kd.int .u32) W A x.length x ∧ Kd.C (Kd.int .u32) W B y.length y ∧ Lim x ∧ Lim y ∧ ¬ (Rt x ∧ Rt y)
theorem BadP.below {W W1 : World} {u v : Value} (h : BadP W u v) (hb : Below W.heap.size W W1) : BadP W1 u v := by
  obtain ⟨x, y, A, B, c, d, e, f, hx, hy, hA, hB, h⟩ := h
  exact ⟨x, y, A, B, c, d, e, f, hx, hy, Kd.C_below hA hb, Kd.C_below hB hb, h⟩
theorem BadP.first {W : World} {v : Value} (h : BadV W v) {B : Option Addr} {d : Nat} (hd : 1 ≤ d) (hB : Kd.C (Kd.int .u32) W B 1 [1]) : BadP W v (.slice B 1 d) := by
  obtain ⟨b, A, c, e, hc, hC, hL, hR⟩ := h
  exact ⟨b, [1], A, B, c, d, e, rfl, hc, hd, hC, hB, hL, Lim.mk (by rw [BB_eq]; omega) Lim.nil, fun h => hR h.1⟩
end Go.Proofs.YtgpninmfbooijaaDoor.Px
