/-
  The setups that the laws make of small numbers.
-/
import Derived.Test.YtadojakbfpdjjaaDoorHAwake
import Derived.Lib.MinMax
namespace Go.Proofs.YtadojakbfpdjjaaDoor.Px
open Go.RowKit Go.Maps Go.Proofs.YtadojakbfpdjjaaDoorW.PrintWords Go.Proofs.YtadojakbfpdjjaaDoorW.PrintLast Go.Proofs.YtadojakbfpdjjaaDoorW.PrintMore

structure U8s where
  a0 : Int
  a1 : Int
  a2 : Int
  a3 : Int
  a4 : Int
  a5 : Int
  h : (0 ≤ a0 ∧ a0 ≤ 255) ∧ (0 ≤ a1 ∧ a1 ≤ 255) ∧ (0 ≤ a2 ∧ a2 ≤ 255) ∧ (0 ≤ a3 ∧ a3 ≤ 255) ∧ (0 ≤ a4 ∧ a4 ≤ 255) ∧ (0 ≤ a5 ∧ a5 ≤ 255)
/-- setup. -/
def stOf (f : U8s) : Stp := ⟨1 + f.a0 % 70, 300 + f.a1, 1 + f.a2, f.a3 % ((1 + f.a2 + 1) / 2), f.a4, f.a4 + 1 + f.a5 % 50⟩
theorem stOf_bounds (f : U8s) : 1 ≤ (stOf f).f0 ∧ (stOf f).f0 ≤ 70 ∧ 300 ≤ (stOf f).f1 ∧ (stOf f).f1 ≤ 555 ∧ 1 ≤ (stOf f).f2 ∧ (stOf f).f2 ≤ 256 ∧ 0 ≤ (stOf f).f3 ∧ 2 * (stOf f).f3 < (stOf f).f2 ∧ 0 ≤ (stOf f).f4 ∧ (stOf f).f4 ≤ 255 ∧ (stOf f).f4 + 1 ≤ (stOf f).f5 ∧ (stOf f).f5 ≤ 305 := by
  have h := f.h
  unfold stOf
  simp only
  have h1 := Int.emod_nonneg f.a3 (b := (1 + f.a2 + 1) / 2) (by omega)
  have h2 := Int.emod_lt_of_pos f.a3 (b := (1 + f.a2 + 1) / 2) (by omega)
  generalize f.a3 % ((1 + f.a2 + 1) / 2) = x at *
  omega
theorem stOf_right (f : U8s) : rightP (stOf f) := by
  have h := stOf_bounds f
  unfold rightP
  omega

set_option maxHeartbeats 1000000 in
set_option maxRecDepth 100000 in
theorem setup_any (f : U8s) (w : World) : Calls Tryd.prog 20 #[.agg #[.int .u8 f.a0, .int .u8 f.a1, .int .u8 f.a2, .int .u8 f.a3, .int .u8 f.a4, .int .u8 f.a5]] w fun e w' => e = .returned (.agg #[.int .i64 (stOf f).f0, .int .i64 (stOf f).f1, .int .i64 (stOf f).f2, .int .i64 (stOf f).f3, .int .i64 (stOf f).f4, .int .i64 (stOf f).f5]) ∧ Below w.heap.size w w' := by
  obtain ⟨a0, a1, a2, a3, a4, a5, h⟩ := f
  obtain ⟨⟨p0, q0⟩, ⟨p1, q1⟩, ⟨p2, q2⟩, ⟨p3, q3⟩, ⟨p4, q4⟩, ⟨p5, q5⟩⟩ := h
  unfold stOf
  simp only
  go_enter Tryd.func20, Tryd.ntmps20
  go_wp2_with fail
  exact bodyPost_ret (v := .agg #[.int .i64 (1 + a0 % 70), .int .i64 (300 + a1), .int .i64 (1 + a2), .int .i64 (a3 % ((1 + a2 + 1) / 2)), .int .i64 a4, .int .i64 (a4 + 1 + a5 % 50)]) (by simp [results, Tryd.results20, go_sem]) rfl ⟨rfl, below_alloc (below_alloc (below_alloc (Below.refl _ _) _) _) _⟩
end Go.Proofs.YtadojakbfpdjjaaDoor.Px
