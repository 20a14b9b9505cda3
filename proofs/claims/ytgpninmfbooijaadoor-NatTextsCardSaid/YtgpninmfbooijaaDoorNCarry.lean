/-
  nat.carries and the closure that it returns.
-/
import Derived.Test.YtgpninmfbooijaaDoorPx0
namespace Go.Proofs.YtgpninmfbooijaaDoor.Px
open Go.RowKit Go.Proofs.YtgpninmfbooijaaDoorW.PrintWords Go.Proofs.YtgpninmfbooijaaDoorW.PrintLast Go.Proofs.YtgpninmfbooijaaDoorW.PrintMore

theorem setCell_twice (w : World) (a : Addr) (v v' : Value) : (w.setCell a v).setCell a v' = w.setCell a v' := by
  unfold World.setCell
  simp only [World.mk.injEq, and_true]
  apply Array.ext_getElem?
  intro i
  simp only [Array.getElem?_modify]
  by_cases h : a.block = i
  · simp only [h, if_true, Option.map_map]
    congr 1
    funext o
    cases o <;> simp
    split <;> simp
  · simp [h]

set_option maxHeartbeats 1000000 in
set_option maxRecDepth 100000 in
theorem carries_calls (w : World) :
    Calls Tryd.prog 30 #[] w fun e w' => e = .returned (.func (.func 44) #[] #[.pointer (some ⟨w.heap.size, 0, none⟩)]) ∧ w' = w.alloc (.cells #[.int .u64 0] 28) := by
  go_enter Tryd.func30, Tryd.ntmps30
  go_wp2_with fail
  go_ret
  exact ⟨rfl, rfl⟩

set_option maxHeartbeats 1000000 in
set_option maxRecDepth 100000 in
theorem carry_calls (B : Nat) (c x : Int) (w : World) (h0 : 0 ≤ c) (h1 : 0 ≤ x) (h2 : c + x ≤ 18446744073709551615) (hc : w.cell? ⟨B, 0, none⟩ = some (.int .u64 c)) (hf : w.frozen? ⟨B, 0, none⟩ = false) :
    Calls Tryd.prog 44 #[.int .u64 x, .pointer (some ⟨B, 0, none⟩)] w fun e w' => e = .returned (.int .u32 ((c + x) % 4294967296)) ∧ w' = w.setCell ⟨B, 0, none⟩ (.int .u64 ((c + x) / 4294967296)) := by
  go_enter Tryd.func44, Tryd.ntmps44
  go_wp2_with fail
  go_ret
  exact ⟨rfl, setCell_twice _ _ _ _⟩
end Go.Proofs.YtgpninmfbooijaaDoor.Px
