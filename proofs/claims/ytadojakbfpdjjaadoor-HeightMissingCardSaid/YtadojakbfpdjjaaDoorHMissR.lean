/-
  HeightMissing's walk, for the arguments as the row hands them.
-/
import Derived.Test.YtadojakbfpdjjaaDoorHMissW
import Derived.Test.YtadojakbfpdjjaaDoorHIsRow
namespace Go.Proofs.YtadojakbfpdjjaaDoor.Px
open Go.RowKit Go.Maps Go.Proofs.YtadojakbfpdjjaaDoorW.PrintWords Go.Proofs.YtadojakbfpdjjaaDoorW.PrintLast Go.Proofs.YtadojakbfpdjjaaDoorW.PrintMore
theorem missing_row (f : U8s) (a : Option Addr) (len cap : Nat) (zs : List Int) (which : Int) (hw0 : 0 ≤ which) (hw1 : which ≤ 255) (w : World) (hz : Seat.IsRow .u8 w a len cap zs) (hgl : GL w) :
    Calls Tryd.prog 6 #[.agg #[.int .u8 f.a0, .int .u8 f.a1, .int .u8 f.a2, .int .u8 f.a3, .int .u8 f.a4, .int .u8 f.a5], .slice a len cap, .int .u8 which] w fun e w' => e = .returned (.bool true) ∧ Below w.heap.size w w' := by
  obtain ⟨l, rfl, h1, h2, h3⟩ := hz.reads
  refine missing_walk f a cap l which hw0 hw1 w h2 h1 (fun z hz => ?_) hgl
  have := h3 z hz
  simp [Lit.wf, IntKind.min, IntKind.max, IntKind.signed, IntKind.bits] at this
  omega
end Go.Proofs.YtadojakbfpdjjaaDoor.Px
