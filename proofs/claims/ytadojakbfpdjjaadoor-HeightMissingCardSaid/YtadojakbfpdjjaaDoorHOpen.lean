/-
  Arguments that are structs of whole numbers, and slices of them, as the walks want them; the world in which the table of letters lies.
-/
import Derived.Test.YtadojakbfpdjjaaDoorCards
import Derived.Test.YtadojakbfpdjjaaDoorTie
import Derived.Test.YtadojakbfpdjjaaDoorHRead
import Derived.Deep.Slices
import Derived.Deep.Fields
import Derived.ChangeSame
import Derived.ProofKit
import Derived.OpenShut
import Derived.ShutString
import Derived.ChangeOld
import Derived.SizedLaws
import Derived.Deep.DeepHandedRow
import Derived.Lib.LaidU8
namespace Go.Proofs.YtadojakbfpdjjaaDoor.Seat
open Go.ChangeShapes Go.WideShapes Go.ChangeAt Go.RowKit Go.Deep
open Go.Proofs.YtadojakbfpdjjaaDoorW.PrintWords

theorem own : ownKnob Tryd.prog.godebug = none := by kernel_rfl
theorem laidOut : laidOutB Tryd.prog = true := by kernel_rfl

section
variable {H : Type} {enc : TypeId × Value → H} {P : Program} {w : World} {base : Nat} {spare : Nat → Bool} {held : Bool}
theorem one_int {fuel : Nat} {t : TypeId} {q : IntKind} {c : Value} {y : DataW H × List MemPlace} (ht : P.underlying t = some (.int q)) (h : DataW.trod enc P w base spare held fuel t [c] = some y) : ∃ n, c = .int q n ∧ (Lit.int q n).wf = true := by
  cases fuel with
  | zero => simp [DataW.trod] at h
  | succ fuel =>
    cases c <;> simp [DataW.trod, ht] at h
    rename_i k' n
    obtain ⟨⟨rfl, hw⟩, rfl⟩ := h
    exact ⟨n, rfl, hw⟩
/-- The cells of a struct whose fields are whole numbers. -/
theorem struct_nums {fuel : Nat} {t : TypeId} {q : IntKind} {fs : Array Field} {cs : List Value} {x : DataW H × List MemPlace} (ht : P.underlying t = some (.struct fs)) (hone : oneCellFields P fs = true) (hC : P.cellsOf t = fs.size)
    (hq : ∀ (j : Nat) (f : Field), fs[j]? = some f → P.underlying f.type = some (.int q)) (h : DataW.trod enc P w base spare held fuel t cs = some x) : ∃ l : List Int, l.length = fs.size ∧ cs = l.map (Value.int q) ∧ ∀ n ∈ l, (Lit.int q n).wf = true := by
  obtain ⟨xs, n, _, _, hlen, hxl, hf⟩ := DataW.trod_struct ht h
  have key : ∀ j, j < fs.size → ∃ n, cs[j]? = some (.int q n) ∧ (Lit.int q n).wf = true := fun j hj => by
    obtain ⟨o, k⟩ := hone_of hone j _ (Array.getElem?_eq_getElem hj)
    have h1 := hf j _ (Array.getElem?_eq_getElem hj)
    have hjc : j < cs.length := by omega
    rw [o, k, List.drop_eq_getElem_cons hjc, List.getElem?_eq_getElem (by omega)] at h1
    obtain ⟨m, hm, hw⟩ := one_int (hq j _ (Array.getElem?_eq_getElem hj)) h1
    exact ⟨m, by rw [List.getElem?_eq_getElem hjc, hm], hw⟩
  refine ⟨cs.map intOf, by rw [List.length_map]; omega, ?_, ?_⟩
  · apply List.ext_getElem?
    intro j
    by_cases hj : j < fs.size
    · obtain ⟨m, hm, _⟩ := key j hj
      simp [hm, intOf]
    · rw [List.getElem?_eq_none (by omega), List.getElem?_eq_none (by simp; omega)]
  · intro m hm
    obtain ⟨v, hv, rfl⟩ := List.mem_map.1 hm
    obtain ⟨j, hj, rfl⟩ := List.mem_iff_getElem.1 hv
    obtain ⟨n, hn, hw⟩ := key j (by omega)
    rw [List.getElem?_eq_getElem hj] at hn
    rw [Option.some.inj hn]
    exact hw
end
theorem setup_fields : ∃ fs : Array Field, Tryd.prog.underlying 23 = some (.struct fs) ∧ fs.size = 6 ∧ oneCellFields Tryd.prog fs = true ∧ Tryd.prog.cellsOf 23 = 6 ∧ fs.toList.all (fun f => f.type == 3) = true := ⟨_, Tryd.underlying23, by kernel_rfl, by kernel_rfl, by kernel_rfl, by kernel_rfl⟩
theorem bar_fields : ∃ fs : Array Field, Tryd.prog.underlying 48 = some (.struct fs) ∧ fs.size = 3 ∧ oneCellFields Tryd.prog fs = true ∧ Tryd.prog.cellsOf 48 = 3 ∧ fs.toList.all (fun f => f.type == 3) = true := ⟨_, Tryd.underlying48, by kernel_rfl, by kernel_rfl, by kernel_rfl, by kernel_rfl⟩
theorem form_fields : ∃ fs : Array Field, Tryd.prog.underlying 51 = some (.struct fs) ∧ fs.size = 6 ∧ oneCellFields Tryd.prog fs = true ∧ Tryd.prog.cellsOf 51 = 6 ∧ fs.toList.all (fun f => f.type == 5) = true := ⟨_, Tryd.underlying51, by kernel_rfl, by kernel_rfl, by kernel_rfl, by kernel_rfl⟩
theorem all_type {fs : Array Field} {t : TypeId} {d : TypeDesc} (h : fs.toList.all (fun f => f.type == t) = true) (ht : Tryd.prog.underlying t = some d) (j : Nat) (f : Field) (hf : fs[j]? = some f) : Tryd.prog.underlying f.type = some d := by
  have h1 := List.all_eq_true.1 h f (by rw [← Array.getElem?_toList] at hf; exact List.mem_of_getElem? hf)
  rw [beq_iff_eq] at h1
  rw [h1]
  exact ht

section
variable {H : Type} {enc : TypeId × Value → H} {w : World} {base : Nat} {spare : Nat → Bool} {held : Bool}
theorem open_setup {r : Reach} {b0 : Nat} {v : Value} {d : DataW H} {p : List MemPlace} (hv : Value.okWide Tryd.prog w r b0 23 v) (h : DataW.Trod enc Tryd.prog w base spare held 23 v d p) : ∃ s : Px.Stp, v = .agg #[.int .i64 s.f0, .int .i64 s.f1, .int .i64 s.f2, .int .i64 s.f3, .int .i64 s.f4, .int .i64 s.f5] := by
  obtain ⟨fs, ht, hs, hone, hC, hall⟩ := setup_fields
  obtain ⟨cs, rfl, hsz⟩ := okWide_struct ht hv
  obtain ⟨fuel, hf⟩ := h
  obtain ⟨l, hl, hcs, _⟩ := struct_nums ht hone (by omega) (all_type hall Tryd.underlying3) hf
  rw [hs] at hl
  match l, hl with
  | [a, b, c, d, e, f], _ =>
    refine ⟨⟨a, b, c, d, e, f⟩, ?_⟩
    have : cs = ⟨[.int .i64 a, .int .i64 b, .int .i64 c, .int .i64 d, .int .i64 e, .int .i64 f]⟩ := by
      cases cs
      simpa [Value.cells] using hcs
    rw [this]
theorem open_form {r : Reach} {b0 : Nat} {v : Value} {d : DataW H} {p : List MemPlace} (hv : Value.okWide Tryd.prog w r b0 51 v) (h : DataW.Trod enc Tryd.prog w base spare held 51 v d p) :
    ∃ a0 a1 a2 a3 a4 a5 : Int, v = .agg #[.int .u8 a0, .int .u8 a1, .int .u8 a2, .int .u8 a3, .int .u8 a4, .int .u8 a5] ∧ (0 ≤ a0 ∧ a0 ≤ 255) ∧ (0 ≤ a1 ∧ a1 ≤ 255) ∧ (0 ≤ a2 ∧ a2 ≤ 255) ∧ (0 ≤ a3 ∧ a3 ≤ 255) ∧ (0 ≤ a4 ∧ a4 ≤ 255) ∧ (0 ≤ a5 ∧ a5 ≤ 255) := by
  obtain ⟨fs, ht, hs, hone, hC, hall⟩ := form_fields
  obtain ⟨cs, rfl, hsz⟩ := okWide_struct ht hv
  obtain ⟨fuel, hf⟩ := h
  obtain ⟨l, hl, hcs, hw⟩ := struct_nums ht hone (by omega) (all_type hall Tryd.underlying5) hf
  rw [hs] at hl
  have hb : ∀ n ∈ l, 0 ≤ n ∧ n ≤ 255 := fun n hn => by
    have := hw n hn
    simp [Lit.wf, IntKind.min, IntKind.max, IntKind.signed, IntKind.bits] at this
    omega
  match l, hl, hb with
  | [a, b, c, d, e, f], _, hb =>
    refine ⟨a, b, c, d, e, f, ?_, hb a (by simp), hb b (by simp), hb c (by simp), hb d (by simp), hb e (by simp), hb f (by simp)⟩
    have : cs = ⟨[.int .u8 a, .int .u8 b, .int .u8 c, .int .u8 d, .int .u8 e, .int .u8 f]⟩ := by
      cases cs
      simpa [Value.cells] using hcs
    rw [this]
theorem open_bars {r : Reach} {b0 : Nat} {v : Value} {d : DataW H} {p : List MemPlace} (hv : Value.okWide Tryd.prog w r b0 24 v) (h : DataW.Trod enc Tryd.prog w base (fun _ => true) held 24 v d p) :
    ∃ (A : Option Addr) (l : List Px.Bar) (c : Nat), v = .slice A l.length c ∧ l.length ≤ c ∧ Kd.C Px.k48 w A l.length l := by
  obtain ⟨a, len, cap, rfl⟩ := okWide_slice Tryd.underlying24 hv
  obtain ⟨fuel, hf⟩ := h
  rcases open_slice Tryd.underlying24 hf with ⟨hcs, _⟩ | ⟨ad, len', cap', m, n, D, Pl, hcs, _, hle, hcm, hm, _, hi⟩
  · simp [Value.cells] at hcs
    obtain ⟨rfl, rfl, rfl⟩ := hcs
    exact ⟨none, [], 0, rfl, Nat.le_refl _, Kd.C_nil _ _⟩
  · simp [Value.cells] at hcs
    obtain ⟨rfl, rfl, rfl⟩ := hcs
    simp only [if_true] at hm
    subst hm
    obtain ⟨fs, ht, hs, hone, hC, hall⟩ := bar_fields
    have key : ∀ i, i < len → ∃ b : Px.Bar, w.cell? (ad.add (i * 3 + 0)) = some (.int .i64 b.f0) ∧ w.cell? (ad.add (i * 3 + 1)) = some (.int .i64 b.f1) ∧ w.cell? (ad.add (i * 3 + 2)) = some (.int .i64 b.f2) := fun i hil => by
      obtain ⟨cs', hc, ht'⟩ := hi i (by omega)
      obtain ⟨q, hq, rfl, _⟩ := struct_nums ht hone (by omega) (all_type hall Tryd.underlying3) ht'
      rw [hs] at hq
      rw [hC] at hc
      obtain ⟨_, _, hcell⟩ := World.cells?_some hc
      match q, hq with
      | [x, y, z], _ => exact ⟨⟨x, y, z⟩, by rw [← Go.Deep.add_add]; exact hcell 0 (by omega), by rw [← Go.Deep.add_add]; exact hcell 1 (by omega), by rw [← Go.Deep.add_add]; exact hcell 2 (by omega)⟩
    let g : Nat → Px.Bar := fun i => if h : i < len then Classical.choose (key i h) else Px.z48
    have hg : ∀ i, (h : i < len) → w.cell? (ad.add (i * 3 + 0)) = some (.int .i64 (g i).f0) ∧ w.cell? (ad.add (i * 3 + 1)) = some (.int .i64 (g i).f1) ∧ w.cell? (ad.add (i * 3 + 2)) = some (.int .i64 (g i).f2) := fun i h => by
      have : g i = Classical.choose (key i h) := dif_pos h
      rw [this]
      exact Classical.choose_spec (key i h)
    refine ⟨some ad, (List.range len).map g, m, by simp, by simpa using hle, ?_⟩
    refine ⟨rfl, by simp; unfold maxLen at hcm; omega, fun _ => ⟨ad, rfl, fun j p hj => ?_⟩⟩
    have hjl : j < len := by have := (List.getElem?_eq_some_iff.1 hj).1; simpa using this
    have hp : g j = p := by simpa [hjl] using hj
    subst hp
    refine ⟨[.int .i64 (g j).f0, .int .i64 (g j).f1, .int .i64 (g j).f2], rfl, Px.k48_mk _ _, fun i u hu => ?_⟩
    obtain ⟨h0, h1, h2⟩ := hg j hjl
    match i, hu with
    | 0, hu => rw [← Option.some.inj hu]; exact h0
    | 1, hu => rw [← Option.some.inj hu]; exact h1
    | 2, hu => rw [← Option.some.inj hu]; exact h2
    | i + 3, hu => simp at hu
end

theorem letters_name : Tryd.prog.globalNamed "letterbag/height.letters" = some 0 := by kernel_rfl
theorem letters_type : (Tryd.prog.globals[0]?).map (·.type) = some 75 := by kernel_rfl
theorem cells_row : Tryd.prog.cellsOf 74 = 3 := by kernel_rfl
theorem cells_u8 : Tryd.prog.cellsOf 5 = 1 := by kernel_rfl
/-- The listed table, as the walks ask for it. -/
theorem gl_of_laid {W : World} (h : laidMet Tryd.prog [("letterbag/height.letters", Rows.laid_letterbag_height_letters)] W) : Px.GL W := by
  obtain ⟨g, t, cs, fuel, p, hg, ht, hv, hd⟩ := Lib.laidMet.reads h (n := "letterbag/height.letters") (d := Rows.laid_letterbag_height_letters) (List.mem_singleton.2 rfl)
  unfold Rows.laid_letterbag_height_letters at hd
  obtain rfl := Option.some.inj (letters_name.symm.trans hg)
  obtain rfl := Option.some.inj (letters_type.symm.trans ht)
  have key : ∀ i j, i < 3 → j < 3 → cs.toList[i * 3 + j]? = some (.int .u8 ((Px.lett.getD (i * 3 + j) 0 : Nat) : Int)) := fun i j hi hj => by
    obtain ⟨f1, d1, q1, hd1, h1⟩ := Lib.array_elem Tryd.underlying75 hd i hi
    rw [cells_row] at h1
    obtain ⟨r, rfl, hr⟩ : ∃ r : List (DataW Unit), d1 = .agg r ∧ r[j]? = some (.lit (.int .u8 ((Px.lett.getD (i * 3 + j) 0 : Nat) : Int))) := by
      have hi' : i = 0 ∨ i = 1 ∨ i = 2 := by omega
      have hj' : j = 0 ∨ j = 1 ∨ j = 2 := by omega
      rcases hi' with rfl | rfl | rfl <;> (obtain rfl := Option.some.inj hd1; refine ⟨_, rfl, ?_⟩; rcases hj' with rfl | rfl | rfl <;> rfl)
    obtain ⟨f2, d2, q2, hd2, h2⟩ := Lib.array_elem Tryd.underlying74 h1 j hj
    rw [hr] at hd2
    obtain rfl := Option.some.inj hd2
    rw [cells_u8] at h2
    obtain ⟨n, hc, hn, _⟩ := DataW.trod_int Tryd.underlying5 h2
    have hn' : ((Px.lett.getD (i * 3 + j) 0 : Nat) : Int) = n := by
      have := congrArg Prod.fst hn
      simpa using this
    have h3 := congrArg (·[0]?) hc
    simp only [List.getElem?_take, List.getElem?_drop] at h3
    rw [hn']
    simpa [show j < 3 from hj] using h3
  intro k hk
  have h1 := key (k / 3) (k % 3) (by omega) (by omega)
  rw [show k / 3 * 3 + k % 3 = k by omega] at h1
  rw [World.var?_cell hg hv k]
  simpa using h1

/-- The table of letters, as cells. -/
def letterCells : Array Value := (Px.lett.map fun n : Nat => Value.int .u8 (n : Int)).toArray
noncomputable def laidWorld (os : Os) : World :=
  { World.holding Tryd.prog os ⟨#[], #[], []⟩ with
    heap := (World.holding Tryd.prog os ⟨#[], #[], []⟩).heap.modify 0 fun
      | .cells _ t frozen => .cells letterCells t frozen
      | o => o }
end Go.Proofs.YtadojakbfpdjjaaDoor.Seat
