/-
  Small words for walks by hand over slices of uint32: a cell that is read, a cell that is written.
-/
import Derived.Test.YtgpninmfbooijaaDoorPx0
import Derived.Deep.DeepCutAuto
import Derived.Deep.RegionWith
import Derived.Deep.DeepMust
import Derived.WalkSpells
namespace Go.Proofs.YtgpninmfbooijaaDoor.Px
open Go.RowKit Go.Proofs.YtgpninmfbooijaaDoorW.PrintWords Go.Proofs.YtgpninmfbooijaaDoorW.PrintLast Go.Proofs.YtgpninmfbooijaaDoorW.PrintMore

section
variable {W w1 : World} {base e n cap g : Nat} {ok : Nat → Prop} {L : List Int} {v : Value}
theorem cellR (h : (Kd.int .u32).R e W base ok (.slice (some ⟨g, 0, none⟩) n cap) L) (k : Nat) (hk : k < n) :
    W.cell? ⟨g, k, none⟩ = some (.int .u32 (L.getD k 0)) ∧ W.frozen? ⟨g, k, none⟩ = false := by
  have := Kd.R_celln (enc := Value.int .u32) (h1 := fun _ => rfl) (0 : Int) h (k : Int) (by omega) (by omega)
  simpa [rdOf, rd] using this
theorem putR (h : (Kd.int .u32).R e W base ok (.slice (some ⟨g, 0, none⟩) n cap) L) (k : Nat) (x : Int) :
    (Kd.int .u32).R e (W.setCell ⟨g, k, none⟩ (.int .u32 x)) base ok (.slice (some ⟨g, 0, none⟩) n cap) (L.set k x) ∧ W.grownBy (W.setCell ⟨g, k, none⟩ (.int .u32 x)) (some g) := by
  have := Kd.R_putg (enc := Value.int .u32) (h1 := fun _ => rfl) h (k : Int) x
  rw [Int.toNat_natCast] at this
  exact this
theorem lenC2 (h : (Kd.int .u32).R e W base ok (.slice (some ⟨g, 0, none⟩) n cap) L) : n ≤ cap := (Kd.R_reads' h).2.1
theorem tightR (h : (Kd.int .u32).R e W base ok (.slice (some ⟨g, 0, none⟩) n cap) L) : (Kd.int .u32).R e W base (fun k => k = g) (.slice (some ⟨g, 0, none⟩) n cap) L :=
  Kd.R_mono (Kd.R_tight rfl h) (fun k hk => by simpa [Value.ownBlock] using hk)
theorem cellC {A : Option Addr} (h : (Kd.int .u32).C W A n L) (k : Nat) (hk : k < n) : ∃ ad, A = some ad ∧ W.cell? (ad.add k) = some (.int .u32 (L.getD k 0)) := by
  obtain ⟨ad, e, hc⟩ := Kd.at_int h (k : Int) (by omega) (by omega)
  exact ⟨ad, e, by simpa [rd] using hc⟩
theorem lenC {A : Option Addr} (h : (Kd.int .u32).C W A n L) : L.length = n ∧ n ≤ 9223372036854775807 := ⟨h.1, h.2.1⟩
theorem madeR (W : World) (base m : Nat) (hb : base ≤ W.heap.size) (hm : m ≤ 9223372036854775807) :
    (Kd.int .u32).R 25 (W.alloc (.cells (madeCells #[.int .u32 0] m) 25)) base (fun k => k = W.heap.size) (.slice (some ⟨W.heap.size, 0, none⟩) m m) (List.replicate m 0) :=
  Kd.R_of_own (enc := Value.int .u32) (h1 := fun _ => rfl) (own_made' W base 25 .u32 m hb hm) (fun k hk => by simpa [Value.ownBlock] using hk.symm)
end
end Go.Proofs.YtgpninmfbooijaaDoor.Px
