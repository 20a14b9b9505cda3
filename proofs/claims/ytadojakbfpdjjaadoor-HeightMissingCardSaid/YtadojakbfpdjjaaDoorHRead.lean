/-
  height.Read: the letters of measured bars.
-/
import Derived.Test.YtadojakbfpdjjaaDoorHPlace
import Derived.Test.YtadojakbfpdjjaaDoorHShelf
import Derived.Test.YtadojakbfpdjjaaDoorHShelf2
namespace Go.Proofs.YtadojakbfpdjjaaDoor.Px
open Go.RowKit Go.Maps Go.Proofs.YtadojakbfpdjjaaDoorW.PrintWords Go.Proofs.YtadojakbfpdjjaaDoorW.PrintLast Go.Proofs.YtadojakbfpdjjaaDoorW.PrintMore

/-- The table of letters, as it lies in memory. -/
def GL (w : World) : Prop := ∀ i : Nat, i < 9 → w.cell? ⟨0, i, none⟩ = some (.int .u8 ((lett.getD i 0 : Nat) : Int))
theorem GL.below {w w' : World} (h : GL w) (hb : Below w.heap.size w w') : GL w' := fun i hi => (hb.cell (World.block_lt_of_cell? w _ (h i hi))).trans (h i hi)

theorem half_any (s : Stp) (n : Int) (w : World) : Calls Tryd.prog 26 #[.agg #[.int .i64 s.f0, .int .i64 s.f1, .int .i64 s.f2, .int .i64 s.f3, .int .i64 s.f4, .int .i64 s.f5], .int .i64 n] w fun e w' => e = .returned (.int .i64 (halfB s n)) ∧ Below w.heap.size w w' :=
  height_Setup_half.calls s.f0 s.f1 s.f2 s.f3 s.f4 s.f5 n _ w (half_f s n)
theorem half_to (s : Stp) (n x : Int) (w : World) (hx : halfB s n = x) : Calls Tryd.prog 26 #[.agg #[.int .i64 s.f0, .int .i64 s.f1, .int .i64 s.f2, .int .i64 s.f3, .int .i64 s.f4, .int .i64 s.f5], .int .i64 n] w fun e w' => e = .returned (.int .i64 x) ∧ Below w.heap.size w w' := by
  rw [← hx]
  exact half_any s n w
theorem byteCells_snoc (l : List UInt8) (c : UInt8) : Lib.byteCells (l ++ [c]) = Lib.byteCells l ++ [.int .u8 (c.toNat : Int)] := by simp [Lib.byteCells]
theorem textL_zero (s : Stp) (l : List Bar) : (List.range 0).map (charAt s l) = [] := rfl
theorem text_snoc (s : Stp) (l : List Bar) (k : Nat) : (List.range (k + 1)).map (charAt s l) = (List.range k).map (charAt s l) ++ [charAt s l k] := by rw [List.range_succ, List.map_append]; rfl
theorem letter_lt (s : Stp) (b : Bar) : letter s b < 256 ∧ 3 * (halfB s b.f1).toNat + (halfB s b.f2).toNat < 9 := by
  have h1 := half_bounds s b.f1
  have h2 := half_bounds s b.f2
  have h9 : 3 * (halfB s b.f1).toNat + (halfB s b.f2).toNat < 9 := by omega
  refine ⟨?_, h9⟩
  unfold letter
  have : ∀ i : Fin 9, lett.getD i.val 0 < 256 := by decide
  exact this ⟨_, h9⟩

theorem builder_below {T e : TypeId} {B b : Nat} {bs : List Value} {w w' : World} (h : Lib.IsBuilder T e B b bs w) (hb : Below w.heap.size w w') : Lib.IsBuilder T e B b bs w' := by
  have hx : ∀ p, Lib.BuilderAt T e B b p bs w → Lib.BuilderAt T e B b p bs w' := fun p h => by
    have hlt := h.lt
    obtain ⟨hB, v, hv, hown, hne⟩ := h
    exact ⟨hB, v, (hb.block b hlt).trans hv, own_move hown (fun k hk => hb.block k (by obtain ⟨cells, hc⟩ := own_typed hown k hk; exact blk_lt hc)), hne⟩
  exact h.imp (hx _) (hx _)

section
variable (w : World) {ops : Array Oper} {rest : List Oper} {o : Oper} {a : Act} {Q : Exit → Act → World → Prop}
/-- 'b, has := m[k]' where there is a bar. -/
theorem lookup_yes (hg : o.guard = none) (m x : Operand) (hop : o.op = Op.lookup 67 m x true) (b n : Nat) (D : DU)
    (hm : a.eval m = .map (some b)) (hown : owns w b n D) (k : Int) (h0 : -9223372036854775808 ≤ k) (h1 : k ≤ 9223372036854775807) (hx : a.eval x = .int .i64 k) (c : Bar) (hhas : has D (.int .i64 k) = true) (hat : ∀ zd, D.atKey (.int .i64 k) zd = encB c)
    (hK : wpList Tryd.prog ops Q rest (a.put o.dst (.tuple #[.agg #[.int .i64 c.f0, .int .i64 c.f1, .int .i64 c.f2], .bool true])) w) :
    wpList Tryd.prog ops Q (o :: rest) a w :=
  lookup_bar w hg m x hop b n D hm hown k h0 h1 hx (fun c' hc => by
    rw [hat] at hc
    obtain rfl := encB_inj hc
    rw [hhas]
    exact hK)
/-- .. and where there is none. -/
theorem lookup_no (hg : o.guard = none) (m x : Operand) (hop : o.op = Op.lookup 67 m x true) (b n : Nat) (D : DU)
    (hm : a.eval m = .map (some b)) (hown : owns w b n D) (k : Int) (h0 : -9223372036854775808 ≤ k) (h1 : k ≤ 9223372036854775807) (hx : a.eval x = .int .i64 k) (hhas : has D (.int .i64 k) = false)
    (hK : wpList Tryd.prog ops Q rest (a.put o.dst (.tuple #[.agg #[.int .i64 0, .int .i64 0, .int .i64 0], .bool false])) w) :
    wpList Tryd.prog ops Q (o :: rest) a w :=
  lookup_bar w hg m x hop b n D hm hown k h0 h1 hx (fun c' hc => by
    rw [atKey_of_not_has hhas] at hc
    obtain rfl := encB_inj hc
    rw [hhas]
    exact hK)
end

theorem place_bad (s : Stp) (A : Option Addr) (c : Nat) (l : List Bar) (w : World) (hl : Kd.C k48 w A l.length l) (hc : l.length ≤ c) (he : errL s l ≠ 0) :
    Calls Tryd.prog 25 #[.agg #[.int .i64 s.f0, .int .i64 s.f1, .int .i64 s.f2, .int .i64 s.f3, .int .i64 s.f4, .int .i64 s.f5], .slice A l.length c] w fun e w' => e = .returned (.tuple #[.map none, .int .i64 (errL s l)]) ∧ Below w.heap.size w w' :=
  (place_walk s A c l w hl hc).mono fun _ _ h => h.2.elim (fun h1 => ⟨h1.2, h.1⟩) (fun h1 => absurd h1.1 he)
theorem place_good (s : Stp) (A : Option Addr) (c : Nat) (l : List Bar) (w : World) (hl : Kd.C k48 w A l.length l) (hc : l.length ≤ c) (he : errL s l = 0) :
    Calls Tryd.prog 25 #[.agg #[.int .i64 s.f0, .int .i64 s.f1, .int .i64 s.f2, .int .i64 s.f3, .int .i64 s.f4, .int .i64 s.f5], .slice A l.length c] w fun e w' => ∃ m D, e = .returned (.tuple #[.map (some m), .int .i64 0]) ∧ w.heap.size ≤ m ∧ owns w' m l.length D ∧ MapIs s l D ∧ Below w.heap.size w w' :=
  (place_walk s A c l w hl hc).mono fun _ _ h => h.2.elim (fun h1 => absurd he h1.1) (fun h1 => by obtain ⟨_, m, D, h2, h3, h4, h5⟩ := h1; exact ⟨m, D, h2, h3, h4, h5, h.1⟩)

set_option maxHeartbeats 8000000 in
set_option maxRecDepth 100000 in
theorem read_walk (s : Stp) (A : Option Addr) (c : Nat) (l : List Bar) (w : World) (hl : Kd.C k48 w A l.length l) (hc : l.length ≤ c) (hgl : GL w) :
    Calls Tryd.prog 10 #[.agg #[.int .i64 s.f0, .int .i64 s.f1, .int .i64 s.f2, .int .i64 s.f3, .int .i64 s.f4, .int .i64 s.f5], .slice A l.length c] w fun e w' => e = .returned (.tuple #[.string (readL s l).1, .int .i64 (readL s l).2]) ∧ Below w.heap.size w w' := by
  have HL := Aside0.mk hl
  have HC := Aside0.mk hc
  have HG := Aside0.mk hgl
  clear hl hc hgl
  go_enter Tryd.func10, Tryd.ntmps10
  by_cases he : errL s l = 0
  · have HE := Aside0.mk he
    clear he
    go_wp2_with (go_at_call 25; refine (place_good s A c l _ (Kd.C_below HL.out (below_alloc (Below.refl _ _) _)) HC.out HE.out).mono ?_; rintro e w1 ⟨m, D, rfl, hm, hown, hmap, hb⟩; have HB := Aside0.mk (below_step (below_alloc (Below.refl _ _) _) hb); have GB := Aside0.mk (blk_below (blk_new w (.cells #[.int .i64 s.f0, .int .i64 s.f1, .int .i64 s.f2, .int .i64 s.f3, .int .i64 s.f4, .int .i64 s.f5] 23 (0, 0))) hb); have HOW := Aside0.mk hown; have HM := Aside0.mk hmap; have HMM := Aside0.mk hm; clear hb hown hmap hm; have hgz : w.heap.size < (w1).heap.size := blk_lt (GB.out); have hg0 : (w1).cell? ⟨w.heap.size, 0, none⟩ = some (.int .i64 s.f0) := (blk_cell (GB.out) 0).trans rfl; have hg1 : (w1).cell? ⟨w.heap.size, 1, none⟩ = some (.int .i64 s.f1) := (blk_cell (GB.out) 1).trans rfl; have hg2 : (w1).cell? ⟨w.heap.size, 2, none⟩ = some (.int .i64 s.f2) := (blk_cell (GB.out) 2).trans rfl; have hg3 : (w1).cell? ⟨w.heap.size, 3, none⟩ = some (.int .i64 s.f3) := (blk_cell (GB.out) 3).trans rfl; have hg4 : (w1).cell? ⟨w.heap.size, 4, none⟩ = some (.int .i64 s.f4) := (blk_cell (GB.out) 4).trans rfl; have hg5 : (w1).cell? ⟨w.heap.size, 5, none⟩ = some (.int .i64 s.f5) := (blk_cell (GB.out) 5).trans rfl)
    have hr : rightP s := by
      by_cases hs : rightP s
      · exact hs
      · exfalso
        have he := HE.out
        by_cases h4 : 400 < l.length
        · rw [errL_5 h4] at he; omega
        · rw [errL_2 h4 hs] at he; omega
    have hf0 : s.f0 ≤ 200 := hr.2.1
    have hf1 : 1 ≤ s.f0 := hr.1
    have HR := Aside0.mk hr
    obtain ⟨n, hn⟩ : ∃ n : Nat, s.f0 = n := ⟨s.f0.toNat, by omega⟩
    have HGL := Aside0.mk (HG.out.below HB.out)
    obtain ⟨B, hB⟩ : ∃ B, w1.heap.size = B := ⟨_, rfl⟩
    have HBB := Aside0.mk hB
    have HNN := Aside0.mk hn
    have hn200 : n ≤ 200 := by omega
    have hfresh : Lib.IsBuilder 72 5 B B (Lib.byteCells ((List.range 0).map (charAt s l))) (w1.alloc (.cells #[.pointer none, .slice none 0 0] 72 (0, 0))) := by
      rw [← hB]
      exact Lib.fresh_isBuilder _ _ _
    have HFRESH := Aside0.mk hfresh
    clear hr hfresh hg0 hg1 hg2 hg3 hg4 hg5 hgz
    rw [hB, hn]
    clear hB hn
    go_loopw [24] (fun v24 wr => ∃ k : Nat, k ≤ n ∧ v24 = .int .i64 (k : Int) ∧ Aside0 (Lib.IsBuilder 72 5 B B (Lib.byteCells ((List.range k).map (charAt s l))) wr) ∧ Aside0 (Below B w1 wr)) (fun v24 _ => n - (intOf v24).toNat)
    case atStart => exact ⟨0, Nat.zero_le _, rfl, HFRESH, ⟨by rw [← HBB.out]; exact below_alloc (Below.refl _ _) _⟩⟩
    case round =>
      obtain ⟨k, hk, rfl, HI, HBW⟩ := hrel
      have HBX : Aside0 (Below w1.heap.size w1 wr) := ⟨by rw [HBB.out]; exact HBW.out⟩
      have GBr := Aside0.mk (blk_below GB.out HBX.out)
      have HOWr := Aside0.mk (owns_below HOW.out HBX.out)
      have HGLr := Aside0.mk (HGL.out.below HBX.out)
      have hgz : w.heap.size < (wr).heap.size := blk_lt (GBr.out); have hg0 : (wr).cell? ⟨w.heap.size, 0, none⟩ = some (.int .i64 s.f0) := (blk_cell (GBr.out) 0).trans rfl; have hg1 : (wr).cell? ⟨w.heap.size, 1, none⟩ = some (.int .i64 s.f1) := (blk_cell (GBr.out) 1).trans rfl; have hg2 : (wr).cell? ⟨w.heap.size, 2, none⟩ = some (.int .i64 s.f2) := (blk_cell (GBr.out) 2).trans rfl; have hg3 : (wr).cell? ⟨w.heap.size, 3, none⟩ = some (.int .i64 s.f3) := (blk_cell (GBr.out) 3).trans rfl; have hg4 : (wr).cell? ⟨w.heap.size, 4, none⟩ = some (.int .i64 s.f4) := (blk_cell (GBr.out) 4).trans rfl; have hg5 : (wr).cell? ⟨w.heap.size, 5, none⟩ = some (.int .i64 s.f5) := (blk_cell (GBr.out) 5).trans rfl
      by_cases hlt : k < n
      · have hk0 : -9223372036854775808 ≤ (k : Int) := by omega
        have hk1 : (k : Int) ≤ 9223372036854775807 := by omega
        cases hbar : barAt s l (k : Int) with
        | none =>
          have hhas := (HM.out k).1 hbar
          have hch : charAt s l k = 63 := by unfold charAt; rw [hbar]
          have HCH := Aside0.mk hch
          have HHAS := Aside0.mk hhas
          clear hch hbar hhas
          go_wp2_with (first
            | (at_lookup; refine lookup_no _ rfl _ _ rfl m l.length D rfl HOWr.out (k : Int) hk0 hk1 rfl HHAS.out ?_)
            | (go_at_call 27; refine (Tryd.Builder_WriteByte B B _ 63 _ (builder_below HI.out (below_alloc (Below.refl _ _) _)) (by rw [Lib.byteCells_length, List.length_map, List.length_range]; omega) (by have := (below_size HBX.out); have := HBB.out; simp; omega)).mono ?_; rintro e w3 ⟨rfl, hi, hb⟩; have n1_ := Aside0.mk hi; have n2_ := Aside0.mk hb; clear hi hb))
          go_roundw
          case rel =>
            refine ⟨k + 1, by omega, by go_num, ⟨?_⟩, ⟨?_⟩⟩
            · rw [text_snoc, byteCells_snoc, HCH.out]; exact .inr n1_.out
            · exact Below.trans (by rw [← HBB.out]; exact below_alloc HBX.out _) n2_.out
          case measure => simp [intOf]; omega
        | some b =>
          have hhas := ((HM.out k).2 b hbar).1
          have hat := ((HM.out k).2 b hbar).2
          have hch : ((charAt s l k).toNat : Int) = (letter s b : Int) := by
            unfold charAt
            rw [hbar]
            have := (letter_lt s b).1
            simp
            omega
          have HCH := Aside0.mk hch
          have HHAS := Aside0.mk hhas
          have HAT := Aside0.mk hat
          have hx1 := half_bounds s b.f1
          have hx2 := half_bounds s b.f2
          have hgl := HGLr.out (3 * (halfB s b.f1).toNat + (halfB s b.f2).toNat) (letter_lt s b).2
          have hle : lett.getD (3 * (halfB s b.f1).toNat + (halfB s b.f2).toNat) 0 = letter s b := rfl
          rw [hle] at hgl
          generalize he1 : halfB s b.f1 = x1 at *
          generalize he2 : halfB s b.f2 = x2 at *
          have HE1 := Aside0.mk he1
          have HE2 := Aside0.mk he2
          clear hch hbar hhas hat hle he1 he2
          go_upto_region 11 with (first
            | (at_lookup; refine lookup_yes _ rfl _ _ rfl m l.length D rfl HOWr.out (k : Int) hk0 hk1 rfl b HHAS.out HAT.out ?_))
          go_cut [10] (fun v10 wc => v10 = .int .u8 (letter s b : Int) ∧ Aside0 (Below wr.heap.size wr wc))
          case rest =>
            clear hg0 hg1 hg2 hg3 hg4 hg5 hgl HGLr
            obtain ⟨rfl, HBc⟩ := hcut
            go_wp2_with (go_at_call 27; refine (Tryd.Builder_WriteByte B B _ (letter s b : Int) _ (builder_below HI.out HBc.out) (by rw [Lib.byteCells_length, List.length_map, List.length_range]; omega) (by have := (below_size HBX.out); have := HBB.out; have := (below_size HBc.out); omega)).mono ?_; rintro e w3 ⟨rfl, hi, hb⟩; have n1_ := Aside0.mk hi; have n2_ := Aside0.mk hb; clear hi hb)
            go_roundw
            case rel =>
              refine ⟨k + 1, by omega, by go_num, ⟨?_⟩, ⟨?_⟩⟩
              · rw [text_snoc, byteCells_snoc, HCH.out]; exact .inr n1_.out
              · exact Below.trans (by rw [← HBB.out]; exact below_step HBX.out HBc.out) n2_.out
            case measure => simp [intOf]; omega
          have hc1 : x1 = 0 ∨ x1 = 1 ∨ x1 = 2 := by omega
          have hc2 : x2 = 0 ∨ x2 = 1 ∨ x2 = 2 := by omega
          clear hx1 hx2
          rcases hc1 with rfl | rfl | rfl <;> rcases hc2 with rfl | rfl | rfl
          · have HBn := Aside0.mk (below_alloc (Below.refl wr.heap.size wr) (.cells #[.int .i64 b.f0, .int .i64 b.f1, .int .i64 b.f2] 48 (0, 0)))
            have HS6 : Aside0 ((wr.alloc (.cells #[.int .i64 b.f0, .int .i64 b.f1, .int .i64 b.f2] 48 (0, 0))).cell? ⟨w.heap.size, 0, none⟩ = some (.int .i64 s.f0) ∧ (wr.alloc (.cells #[.int .i64 b.f0, .int .i64 b.f1, .int .i64 b.f2] 48 (0, 0))).cell? ⟨w.heap.size, 1, none⟩ = some (.int .i64 s.f1) ∧ (wr.alloc (.cells #[.int .i64 b.f0, .int .i64 b.f1, .int .i64 b.f2] 48 (0, 0))).cell? ⟨w.heap.size, 2, none⟩ = some (.int .i64 s.f2) ∧ (wr.alloc (.cells #[.int .i64 b.f0, .int .i64 b.f1, .int .i64 b.f2] 48 (0, 0))).cell? ⟨w.heap.size, 3, none⟩ = some (.int .i64 s.f3) ∧ (wr.alloc (.cells #[.int .i64 b.f0, .int .i64 b.f1, .int .i64 b.f2] 48 (0, 0))).cell? ⟨w.heap.size, 4, none⟩ = some (.int .i64 s.f4) ∧ (wr.alloc (.cells #[.int .i64 b.f0, .int .i64 b.f1, .int .i64 b.f2] 48 (0, 0))).cell? ⟨w.heap.size, 5, none⟩ = some (.int .i64 s.f5)) := ⟨(blk_cell (blk_alloc GBr.out _) 0).trans rfl, (blk_cell (blk_alloc GBr.out _) 1).trans rfl, (blk_cell (blk_alloc GBr.out _) 2).trans rfl, (blk_cell (blk_alloc GBr.out _) 3).trans rfl, (blk_cell (blk_alloc GBr.out _) 4).trans rfl, (blk_cell (blk_alloc GBr.out _) 5).trans rfl⟩
            have HS3 : Aside0 ((wr.alloc (.cells #[.int .i64 b.f0, .int .i64 b.f1, .int .i64 b.f2] 48 (0, 0))).cell? ⟨wr.heap.size, 1, none⟩ = some (.int .i64 b.f1) ∧ (wr.alloc (.cells #[.int .i64 b.f0, .int .i64 b.f1, .int .i64 b.f2] 48 (0, 0))).cell? ⟨wr.heap.size, 2, none⟩ = some (.int .i64 b.f2) ∧ (wr.alloc (.cells #[.int .i64 b.f0, .int .i64 b.f1, .int .i64 b.f2] 48 (0, 0))).cell? ⟨0, 0, none⟩ = some (.int .u8 (letter s b : Int))) := ⟨(blk_cell (blk_new wr _) 1).trans rfl, (blk_cell (blk_new wr _) 2).trans rfl, ((below_alloc (Below.refl wr.heap.size wr) _).cell (World.block_lt_of_cell? _ _ hgl)).trans hgl⟩
            go_region_held3 (fun W => Below wr.heap.size wr W ∧ W.cell? ⟨w.heap.size, 0, none⟩ = some (.int .i64 s.f0) ∧ W.cell? ⟨w.heap.size, 1, none⟩ = some (.int .i64 s.f1) ∧ W.cell? ⟨w.heap.size, 2, none⟩ = some (.int .i64 s.f2) ∧ W.cell? ⟨w.heap.size, 3, none⟩ = some (.int .i64 s.f3) ∧ W.cell? ⟨w.heap.size, 4, none⟩ = some (.int .i64 s.f4) ∧ W.cell? ⟨w.heap.size, 5, none⟩ = some (.int .i64 s.f5) ∧ W.cell? ⟨wr.heap.size, 1, none⟩ = some (.int .i64 b.f1) ∧ W.cell? ⟨wr.heap.size, 2, none⟩ = some (.int .i64 b.f2) ∧ W.cell? ⟨0, 0, none⟩ = some (.int .u8 (letter s b : Int)))
            (first
              | exact ⟨below_drew1 HBn.out, HS6.out.1, HS6.out.2.1, HS6.out.2.2.1, HS6.out.2.2.2.1, HS6.out.2.2.2.2.1, HS6.out.2.2.2.2.2, HS3.out.1, HS3.out.2.1, HS3.out.2.2⟩
              | (go_split_ands; refine ⟨below_step (by assumption) hb, ?_, ?_, ?_, ?_, ?_, ?_, ?_, ?_, ?_⟩ <;> exact (hb.cell (World.block_lt_of_cell? _ _ (by assumption))).trans (by assumption)))
            (first | (go_at_call 26; (first | (with_reducible refine (half_to s b.f1 _ _ HE1.out).mono ?_) | (with_reducible refine (half_to s b.f2 _ _ HE2.out).mono ?_)); rintro e W1 ⟨rfl, hb⟩))
            go_wp2_with fail
            go_meet
            exact ⟨rfl, ⟨And.left ‹Below wr.heap.size wr _ ∧ _›⟩⟩
          · have HBn := Aside0.mk (below_alloc (Below.refl wr.heap.size wr) (.cells #[.int .i64 b.f0, .int .i64 b.f1, .int .i64 b.f2] 48 (0, 0)))
            have HS6 : Aside0 ((wr.alloc (.cells #[.int .i64 b.f0, .int .i64 b.f1, .int .i64 b.f2] 48 (0, 0))).cell? ⟨w.heap.size, 0, none⟩ = some (.int .i64 s.f0) ∧ (wr.alloc (.cells #[.int .i64 b.f0, .int .i64 b.f1, .int .i64 b.f2] 48 (0, 0))).cell? ⟨w.heap.size, 1, none⟩ = some (.int .i64 s.f1) ∧ (wr.alloc (.cells #[.int .i64 b.f0, .int .i64 b.f1, .int .i64 b.f2] 48 (0, 0))).cell? ⟨w.heap.size, 2, none⟩ = some (.int .i64 s.f2) ∧ (wr.alloc (.cells #[.int .i64 b.f0, .int .i64 b.f1, .int .i64 b.f2] 48 (0, 0))).cell? ⟨w.heap.size, 3, none⟩ = some (.int .i64 s.f3) ∧ (wr.alloc (.cells #[.int .i64 b.f0, .int .i64 b.f1, .int .i64 b.f2] 48 (0, 0))).cell? ⟨w.heap.size, 4, none⟩ = some (.int .i64 s.f4) ∧ (wr.alloc (.cells #[.int .i64 b.f0, .int .i64 b.f1, .int .i64 b.f2] 48 (0, 0))).cell? ⟨w.heap.size, 5, none⟩ = some (.int .i64 s.f5)) := ⟨(blk_cell (blk_alloc GBr.out _) 0).trans rfl, (blk_cell (blk_alloc GBr.out _) 1).trans rfl, (blk_cell (blk_alloc GBr.out _) 2).trans rfl, (blk_cell (blk_alloc GBr.out _) 3).trans rfl, (blk_cell (blk_alloc GBr.out _) 4).trans rfl, (blk_cell (blk_alloc GBr.out _) 5).trans rfl⟩
            have HS3 : Aside0 ((wr.alloc (.cells #[.int .i64 b.f0, .int .i64 b.f1, .int .i64 b.f2] 48 (0, 0))).cell? ⟨wr.heap.size, 1, none⟩ = some (.int .i64 b.f1) ∧ (wr.alloc (.cells #[.int .i64 b.f0, .int .i64 b.f1, .int .i64 b.f2] 48 (0, 0))).cell? ⟨wr.heap.size, 2, none⟩ = some (.int .i64 b.f2) ∧ (wr.alloc (.cells #[.int .i64 b.f0, .int .i64 b.f1, .int .i64 b.f2] 48 (0, 0))).cell? ⟨0, 1, none⟩ = some (.int .u8 (letter s b : Int))) := ⟨(blk_cell (blk_new wr _) 1).trans rfl, (blk_cell (blk_new wr _) 2).trans rfl, ((below_alloc (Below.refl wr.heap.size wr) _).cell (World.block_lt_of_cell? _ _ hgl)).trans hgl⟩
            go_region_held3 (fun W => Below wr.heap.size wr W ∧ W.cell? ⟨w.heap.size, 0, none⟩ = some (.int .i64 s.f0) ∧ W.cell? ⟨w.heap.size, 1, none⟩ = some (.int .i64 s.f1) ∧ W.cell? ⟨w.heap.size, 2, none⟩ = some (.int .i64 s.f2) ∧ W.cell? ⟨w.heap.size, 3, none⟩ = some (.int .i64 s.f3) ∧ W.cell? ⟨w.heap.size, 4, none⟩ = some (.int .i64 s.f4) ∧ W.cell? ⟨w.heap.size, 5, none⟩ = some (.int .i64 s.f5) ∧ W.cell? ⟨wr.heap.size, 1, none⟩ = some (.int .i64 b.f1) ∧ W.cell? ⟨wr.heap.size, 2, none⟩ = some (.int .i64 b.f2) ∧ W.cell? ⟨0, 1, none⟩ = some (.int .u8 (letter s b : Int)))
            (first
              | exact ⟨below_drew1 HBn.out, HS6.out.1, HS6.out.2.1, HS6.out.2.2.1, HS6.out.2.2.2.1, HS6.out.2.2.2.2.1, HS6.out.2.2.2.2.2, HS3.out.1, HS3.out.2.1, HS3.out.2.2⟩
              | (go_split_ands; refine ⟨below_step (by assumption) hb, ?_, ?_, ?_, ?_, ?_, ?_, ?_, ?_, ?_⟩ <;> exact (hb.cell (World.block_lt_of_cell? _ _ (by assumption))).trans (by assumption)))
            (first | (go_at_call 26; (first | (with_reducible refine (half_to s b.f1 _ _ HE1.out).mono ?_) | (with_reducible refine (half_to s b.f2 _ _ HE2.out).mono ?_)); rintro e W1 ⟨rfl, hb⟩))
            go_wp2_with fail
            go_meet
            exact ⟨rfl, ⟨And.left ‹Below wr.heap.size wr _ ∧ _›⟩⟩
          · have HBn := Aside0.mk (below_alloc (Below.refl wr.heap.size wr) (.cells #[.int .i64 b.f0, .int .i64 b.f1, .int .i64 b.f2] 48 (0, 0)))
            have HS6 : Aside0 ((wr.alloc (.cells #[.int .i64 b.f0, .int .i64 b.f1, .int .i64 b.f2] 48 (0, 0))).cell? ⟨w.heap.size, 0, none⟩ = some (.int .i64 s.f0) ∧ (wr.alloc (.cells #[.int .i64 b.f0, .int .i64 b.f1, .int .i64 b.f2] 48 (0, 0))).cell? ⟨w.heap.size, 1, none⟩ = some (.int .i64 s.f1) ∧ (wr.alloc (.cells #[.int .i64 b.f0, .int .i64 b.f1, .int .i64 b.f2] 48 (0, 0))).cell? ⟨w.heap.size, 2, none⟩ = some (.int .i64 s.f2) ∧ (wr.alloc (.cells #[.int .i64 b.f0, .int .i64 b.f1, .int .i64 b.f2] 48 (0, 0))).cell? ⟨w.heap.size, 3, none⟩ = some (.int .i64 s.f3) ∧ (wr.alloc (.cells #[.int .i64 b.f0, .int .i64 b.f1, .int .i64 b.f2] 48 (0, 0))).cell? ⟨w.heap.size, 4, none⟩ = some (.int .i64 s.f4) ∧ (wr.alloc (.cells #[.int .i64 b.f0, .int .i64 b.f1, .int .i64 b.f2] 48 (0, 0))).cell? ⟨w.heap.size, 5, none⟩ = some (.int .i64 s.f5)) := ⟨(blk_cell (blk_alloc GBr.out _) 0).trans rfl, (blk_cell (blk_alloc GBr.out _) 1).trans rfl, (blk_cell (blk_alloc GBr.out _) 2).trans rfl, (blk_cell (blk_alloc GBr.out _) 3).trans rfl, (blk_cell (blk_alloc GBr.out _) 4).trans rfl, (blk_cell (blk_alloc GBr.out _) 5).trans rfl⟩
            have HS3 : Aside0 ((wr.alloc (.cells #[.int .i64 b.f0, .int .i64 b.f1, .int .i64 b.f2] 48 (0, 0))).cell? ⟨wr.heap.size, 1, none⟩ = some (.int .i64 b.f1) ∧ (wr.alloc (.cells #[.int .i64 b.f0, .int .i64 b.f1, .int .i64 b.f2] 48 (0, 0))).cell? ⟨wr.heap.size, 2, none⟩ = some (.int .i64 b.f2) ∧ (wr.alloc (.cells #[.int .i64 b.f0, .int .i64 b.f1, .int .i64 b.f2] 48 (0, 0))).cell? ⟨0, 2, none⟩ = some (.int .u8 (letter s b : Int))) := ⟨(blk_cell (blk_new wr _) 1).trans rfl, (blk_cell (blk_new wr _) 2).trans rfl, ((below_alloc (Below.refl wr.heap.size wr) _).cell (World.block_lt_of_cell? _ _ hgl)).trans hgl⟩
            go_region_held3 (fun W => Below wr.heap.size wr W ∧ W.cell? ⟨w.heap.size, 0, none⟩ = some (.int .i64 s.f0) ∧ W.cell? ⟨w.heap.size, 1, none⟩ = some (.int .i64 s.f1) ∧ W.cell? ⟨w.heap.size, 2, none⟩ = some (.int .i64 s.f2) ∧ W.cell? ⟨w.heap.size, 3, none⟩ = some (.int .i64 s.f3) ∧ W.cell? ⟨w.heap.size, 4, none⟩ = some (.int .i64 s.f4) ∧ W.cell? ⟨w.heap.size, 5, none⟩ = some (.int .i64 s.f5) ∧ W.cell? ⟨wr.heap.size, 1, none⟩ = some (.int .i64 b.f1) ∧ W.cell? ⟨wr.heap.size, 2, none⟩ = some (.int .i64 b.f2) ∧ W.cell? ⟨0, 2, none⟩ = some (.int .u8 (letter s b : Int)))
            (first
              | exact ⟨below_drew1 HBn.out, HS6.out.1, HS6.out.2.1, HS6.out.2.2.1, HS6.out.2.2.2.1, HS6.out.2.2.2.2.1, HS6.out.2.2.2.2.2, HS3.out.1, HS3.out.2.1, HS3.out.2.2⟩
              | (go_split_ands; refine ⟨below_step (by assumption) hb, ?_, ?_, ?_, ?_, ?_, ?_, ?_, ?_, ?_⟩ <;> exact (hb.cell (World.block_lt_of_cell? _ _ (by assumption))).trans (by assumption)))
            (first | (go_at_call 26; (first | (with_reducible refine (half_to s b.f1 _ _ HE1.out).mono ?_) | (with_reducible refine (half_to s b.f2 _ _ HE2.out).mono ?_)); rintro e W1 ⟨rfl, hb⟩))
            go_wp2_with fail
            go_meet
            exact ⟨rfl, ⟨And.left ‹Below wr.heap.size wr _ ∧ _›⟩⟩
          · have HBn := Aside0.mk (below_alloc (Below.refl wr.heap.size wr) (.cells #[.int .i64 b.f0, .int .i64 b.f1, .int .i64 b.f2] 48 (0, 0)))
            have HS6 : Aside0 ((wr.alloc (.cells #[.int .i64 b.f0, .int .i64 b.f1, .int .i64 b.f2] 48 (0, 0))).cell? ⟨w.heap.size, 0, none⟩ = some (.int .i64 s.f0) ∧ (wr.alloc (.cells #[.int .i64 b.f0, .int .i64 b.f1, .int .i64 b.f2] 48 (0, 0))).cell? ⟨w.heap.size, 1, none⟩ = some (.int .i64 s.f1) ∧ (wr.alloc (.cells #[.int .i64 b.f0, .int .i64 b.f1, .int .i64 b.f2] 48 (0, 0))).cell? ⟨w.heap.size, 2, none⟩ = some (.int .i64 s.f2) ∧ (wr.alloc (.cells #[.int .i64 b.f0, .int .i64 b.f1, .int .i64 b.f2] 48 (0, 0))).cell? ⟨w.heap.size, 3, none⟩ = some (.int .i64 s.f3) ∧ (wr.alloc (.cells #[.int .i64 b.f0, .int .i64 b.f1, .int .i64 b.f2] 48 (0, 0))).cell? ⟨w.heap.size, 4, none⟩ = some (.int .i64 s.f4) ∧ (wr.alloc (.cells #[.int .i64 b.f0, .int .i64 b.f1, .int .i64 b.f2] 48 (0, 0))).cell? ⟨w.heap.size, 5, none⟩ = some (.int .i64 s.f5)) := ⟨(blk_cell (blk_alloc GBr.out _) 0).trans rfl, (blk_cell (blk_alloc GBr.out _) 1).trans rfl, (blk_cell (blk_alloc GBr.out _) 2).trans rfl, (blk_cell (blk_alloc GBr.out _) 3).trans rfl, (blk_cell (blk_alloc GBr.out _) 4).trans rfl, (blk_cell (blk_alloc GBr.out _) 5).trans rfl⟩
            have HS3 : Aside0 ((wr.alloc (.cells #[.int .i64 b.f0, .int .i64 b.f1, .int .i64 b.f2] 48 (0, 0))).cell? ⟨wr.heap.size, 1, none⟩ = some (.int .i64 b.f1) ∧ (wr.alloc (.cells #[.int .i64 b.f0, .int .i64 b.f1, .int .i64 b.f2] 48 (0, 0))).cell? ⟨wr.heap.size, 2, none⟩ = some (.int .i64 b.f2) ∧ (wr.alloc (.cells #[.int .i64 b.f0, .int .i64 b.f1, .int .i64 b.f2] 48 (0, 0))).cell? ⟨0, 3, none⟩ = some (.int .u8 (letter s b : Int))) := ⟨(blk_cell (blk_new wr _) 1).trans rfl, (blk_cell (blk_new wr _) 2).trans rfl, ((below_alloc (Below.refl wr.heap.size wr) _).cell (World.block_lt_of_cell? _ _ hgl)).trans hgl⟩
            go_region_held3 (fun W => Below wr.heap.size wr W ∧ W.cell? ⟨w.heap.size, 0, none⟩ = some (.int .i64 s.f0) ∧ W.cell? ⟨w.heap.size, 1, none⟩ = some (.int .i64 s.f1) ∧ W.cell? ⟨w.heap.size, 2, none⟩ = some (.int .i64 s.f2) ∧ W.cell? ⟨w.heap.size, 3, none⟩ = some (.int .i64 s.f3) ∧ W.cell? ⟨w.heap.size, 4, none⟩ = some (.int .i64 s.f4) ∧ W.cell? ⟨w.heap.size, 5, none⟩ = some (.int .i64 s.f5) ∧ W.cell? ⟨wr.heap.size, 1, none⟩ = some (.int .i64 b.f1) ∧ W.cell? ⟨wr.heap.size, 2, none⟩ = some (.int .i64 b.f2) ∧ W.cell? ⟨0, 3, none⟩ = some (.int .u8 (letter s b : Int)))
            (first
              | exact ⟨below_drew1 HBn.out, HS6.out.1, HS6.out.2.1, HS6.out.2.2.1, HS6.out.2.2.2.1, HS6.out.2.2.2.2.1, HS6.out.2.2.2.2.2, HS3.out.1, HS3.out.2.1, HS3.out.2.2⟩
              | (go_split_ands; refine ⟨below_step (by assumption) hb, ?_, ?_, ?_, ?_, ?_, ?_, ?_, ?_, ?_⟩ <;> exact (hb.cell (World.block_lt_of_cell? _ _ (by assumption))).trans (by assumption)))
            (first | (go_at_call 26; (first | (with_reducible refine (half_to s b.f1 _ _ HE1.out).mono ?_) | (with_reducible refine (half_to s b.f2 _ _ HE2.out).mono ?_)); rintro e W1 ⟨rfl, hb⟩))
            go_wp2_with fail
            go_meet
            exact ⟨rfl, ⟨And.left ‹Below wr.heap.size wr _ ∧ _›⟩⟩
          · have HBn := Aside0.mk (below_alloc (Below.refl wr.heap.size wr) (.cells #[.int .i64 b.f0, .int .i64 b.f1, .int .i64 b.f2] 48 (0, 0)))
            have HS6 : Aside0 ((wr.alloc (.cells #[.int .i64 b.f0, .int .i64 b.f1, .int .i64 b.f2] 48 (0, 0))).cell? ⟨w.heap.size, 0, none⟩ = some (.int .i64 s.f0) ∧ (wr.alloc (.cells #[.int .i64 b.f0, .int .i64 b.f1, .int .i64 b.f2] 48 (0, 0))).cell? ⟨w.heap.size, 1, none⟩ = some (.int .i64 s.f1) ∧ (wr.alloc (.cells #[.int .i64 b.f0, .int .i64 b.f1, .int .i64 b.f2] 48 (0, 0))).cell? ⟨w.heap.size, 2, none⟩ = some (.int .i64 s.f2) ∧ (wr.alloc (.cells #[.int .i64 b.f0, .int .i64 b.f1, .int .i64 b.f2] 48 (0, 0))).cell? ⟨w.heap.size, 3, none⟩ = some (.int .i64 s.f3) ∧ (wr.alloc (.cells #[.int .i64 b.f0, .int .i64 b.f1, .int .i64 b.f2] 48 (0, 0))).cell? ⟨w.heap.size, 4, none⟩ = some (.int .i64 s.f4) ∧ (wr.alloc (.cells #[.int .i64 b.f0, .int .i64 b.f1, .int .i64 b.f2] 48 (0, 0))).cell? ⟨w.heap.size, 5, none⟩ = some (.int .i64 s.f5)) := ⟨(blk_cell (blk_alloc GBr.out _) 0).trans rfl, (blk_cell (blk_alloc GBr.out _) 1).trans rfl, (blk_cell (blk_alloc GBr.out _) 2).trans rfl, (blk_cell (blk_alloc GBr.out _) 3).trans rfl, (blk_cell (blk_alloc GBr.out _) 4).trans rfl, (blk_cell (blk_alloc GBr.out _) 5).trans rfl⟩
            have HS3 : Aside0 ((wr.alloc (.cells #[.int .i64 b.f0, .int .i64 b.f1, .int .i64 b.f2] 48 (0, 0))).cell? ⟨wr.heap.size, 1, none⟩ = some (.int .i64 b.f1) ∧ (wr.alloc (.cells #[.int .i64 b.f0, .int .i64 b.f1, .int .i64 b.f2] 48 (0, 0))).cell? ⟨wr.heap.size, 2, none⟩ = some (.int .i64 b.f2) ∧ (wr.alloc (.cells #[.int .i64 b.f0, .int .i64 b.f1, .int .i64 b.f2] 48 (0, 0))).cell? ⟨0, 4, none⟩ = some (.int .u8 (letter s b : Int))) := ⟨(blk_cell (blk_new wr _) 1).trans rfl, (blk_cell (blk_new wr _) 2).trans rfl, ((below_alloc (Below.refl wr.heap.size wr) _).cell (World.block_lt_of_cell? _ _ hgl)).trans hgl⟩
            go_region_held3 (fun W => Below wr.heap.size wr W ∧ W.cell? ⟨w.heap.size, 0, none⟩ = some (.int .i64 s.f0) ∧ W.cell? ⟨w.heap.size, 1, none⟩ = some (.int .i64 s.f1) ∧ W.cell? ⟨w.heap.size, 2, none⟩ = some (.int .i64 s.f2) ∧ W.cell? ⟨w.heap.size, 3, none⟩ = some (.int .i64 s.f3) ∧ W.cell? ⟨w.heap.size, 4, none⟩ = some (.int .i64 s.f4) ∧ W.cell? ⟨w.heap.size, 5, none⟩ = some (.int .i64 s.f5) ∧ W.cell? ⟨wr.heap.size, 1, none⟩ = some (.int .i64 b.f1) ∧ W.cell? ⟨wr.heap.size, 2, none⟩ = some (.int .i64 b.f2) ∧ W.cell? ⟨0, 4, none⟩ = some (.int .u8 (letter s b : Int)))
            (first
              | exact ⟨below_drew1 HBn.out, HS6.out.1, HS6.out.2.1, HS6.out.2.2.1, HS6.out.2.2.2.1, HS6.out.2.2.2.2.1, HS6.out.2.2.2.2.2, HS3.out.1, HS3.out.2.1, HS3.out.2.2⟩
              | (go_split_ands; refine ⟨below_step (by assumption) hb, ?_, ?_, ?_, ?_, ?_, ?_, ?_, ?_, ?_⟩ <;> exact (hb.cell (World.block_lt_of_cell? _ _ (by assumption))).trans (by assumption)))
            (first | (go_at_call 26; (first | (with_reducible refine (half_to s b.f1 _ _ HE1.out).mono ?_) | (with_reducible refine (half_to s b.f2 _ _ HE2.out).mono ?_)); rintro e W1 ⟨rfl, hb⟩))
            go_wp2_with fail
            go_meet
            exact ⟨rfl, ⟨And.left ‹Below wr.heap.size wr _ ∧ _›⟩⟩
          · have HBn := Aside0.mk (below_alloc (Below.refl wr.heap.size wr) (.cells #[.int .i64 b.f0, .int .i64 b.f1, .int .i64 b.f2] 48 (0, 0)))
            have HS6 : Aside0 ((wr.alloc (.cells #[.int .i64 b.f0, .int .i64 b.f1, .int .i64 b.f2] 48 (0, 0))).cell? ⟨w.heap.size, 0, none⟩ = some (.int .i64 s.f0) ∧ (wr.alloc (.cells #[.int .i64 b.f0, .int .i64 b.f1, .int .i64 b.f2] 48 (0, 0))).cell? ⟨w.heap.size, 1, none⟩ = some (.int .i64 s.f1) ∧ (wr.alloc (.cells #[.int .i64 b.f0, .int .i64 b.f1, .int .i64 b.f2] 48 (0, 0))).cell? ⟨w.heap.size, 2, none⟩ = some (.int .i64 s.f2) ∧ (wr.alloc (.cells #[.int .i64 b.f0, .int .i64 b.f1, .int .i64 b.f2] 48 (0, 0))).cell? ⟨w.heap.size, 3, none⟩ = some (.int .i64 s.f3) ∧ (wr.alloc (.cells #[.int .i64 b.f0, .int .i64 b.f1, .int .i64 b.f2] 48 (0, 0))).cell? ⟨w.heap.size, 4, none⟩ = some (.int .i64 s.f4) ∧ (wr.alloc (.cells #[.int .i64 b.f0, .int .i64 b.f1, .int .i64 b.f2] 48 (0, 0))).cell? ⟨w.heap.size, 5, none⟩ = some (.int .i64 s.f5)) := ⟨(blk_cell (blk_alloc GBr.out _) 0).trans rfl, (blk_cell (blk_alloc GBr.out _) 1).trans rfl, (blk_cell (blk_alloc GBr.out _) 2).trans rfl, (blk_cell (blk_alloc GBr.out _) 3).trans rfl, (blk_cell (blk_alloc GBr.out _) 4).trans rfl, (blk_cell (blk_alloc GBr.out _) 5).trans rfl⟩
            have HS3 : Aside0 ((wr.alloc (.cells #[.int .i64 b.f0, .int .i64 b.f1, .int .i64 b.f2] 48 (0, 0))).cell? ⟨wr.heap.size, 1, none⟩ = some (.int .i64 b.f1) ∧ (wr.alloc (.cells #[.int .i64 b.f0, .int .i64 b.f1, .int .i64 b.f2] 48 (0, 0))).cell? ⟨wr.heap.size, 2, none⟩ = some (.int .i64 b.f2) ∧ (wr.alloc (.cells #[.int .i64 b.f0, .int .i64 b.f1, .int .i64 b.f2] 48 (0, 0))).cell? ⟨0, 5, none⟩ = some (.int .u8 (letter s b : Int))) := ⟨(blk_cell (blk_new wr _) 1).trans rfl, (blk_cell (blk_new wr _) 2).trans rfl, ((below_alloc (Below.refl wr.heap.size wr) _).cell (World.block_lt_of_cell? _ _ hgl)).trans hgl⟩
            go_region_held3 (fun W => Below wr.heap.size wr W ∧ W.cell? ⟨w.heap.size, 0, none⟩ = some (.int .i64 s.f0) ∧ W.cell? ⟨w.heap.size, 1, none⟩ = some (.int .i64 s.f1) ∧ W.cell? ⟨w.heap.size, 2, none⟩ = some (.int .i64 s.f2) ∧ W.cell? ⟨w.heap.size, 3, none⟩ = some (.int .i64 s.f3) ∧ W.cell? ⟨w.heap.size, 4, none⟩ = some (.int .i64 s.f4) ∧ W.cell? ⟨w.heap.size, 5, none⟩ = some (.int .i64 s.f5) ∧ W.cell? ⟨wr.heap.size, 1, none⟩ = some (.int .i64 b.f1) ∧ W.cell? ⟨wr.heap.size, 2, none⟩ = some (.int .i64 b.f2) ∧ W.cell? ⟨0, 5, none⟩ = some (.int .u8 (letter s b : Int)))
            (first
              | exact ⟨below_drew1 HBn.out, HS6.out.1, HS6.out.2.1, HS6.out.2.2.1, HS6.out.2.2.2.1, HS6.out.2.2.2.2.1, HS6.out.2.2.2.2.2, HS3.out.1, HS3.out.2.1, HS3.out.2.2⟩
              | (go_split_ands; refine ⟨below_step (by assumption) hb, ?_, ?_, ?_, ?_, ?_, ?_, ?_, ?_, ?_⟩ <;> exact (hb.cell (World.block_lt_of_cell? _ _ (by assumption))).trans (by assumption)))
            (first | (go_at_call 26; (first | (with_reducible refine (half_to s b.f1 _ _ HE1.out).mono ?_) | (with_reducible refine (half_to s b.f2 _ _ HE2.out).mono ?_)); rintro e W1 ⟨rfl, hb⟩))
            go_wp2_with fail
            go_meet
            exact ⟨rfl, ⟨And.left ‹Below wr.heap.size wr _ ∧ _›⟩⟩
          · have HBn := Aside0.mk (below_alloc (Below.refl wr.heap.size wr) (.cells #[.int .i64 b.f0, .int .i64 b.f1, .int .i64 b.f2] 48 (0, 0)))
            have HS6 : Aside0 ((wr.alloc (.cells #[.int .i64 b.f0, .int .i64 b.f1, .int .i64 b.f2] 48 (0, 0))).cell? ⟨w.heap.size, 0, none⟩ = some (.int .i64 s.f0) ∧ (wr.alloc (.cells #[.int .i64 b.f0, .int .i64 b.f1, .int .i64 b.f2] 48 (0, 0))).cell? ⟨w.heap.size, 1, none⟩ = some (.int .i64 s.f1) ∧ (wr.alloc (.cells #[.int .i64 b.f0, .int .i64 b.f1, .int .i64 b.f2] 48 (0, 0))).cell? ⟨w.heap.size, 2, none⟩ = some (.int .i64 s.f2) ∧ (wr.alloc (.cells #[.int .i64 b.f0, .int .i64 b.f1, .int .i64 b.f2] 48 (0, 0))).cell? ⟨w.heap.size, 3, none⟩ = some (.int .i64 s.f3) ∧ (wr.alloc (.cells #[.int .i64 b.f0, .int .i64 b.f1, .int .i64 b.f2] 48 (0, 0))).cell? ⟨w.heap.size, 4, none⟩ = some (.int .i64 s.f4) ∧ (wr.alloc (.cells #[.int .i64 b.f0, .int .i64 b.f1, .int .i64 b.f2] 48 (0, 0))).cell? ⟨w.heap.size, 5, none⟩ = some (.int .i64 s.f5)) := ⟨(blk_cell (blk_alloc GBr.out _) 0).trans rfl, (blk_cell (blk_alloc GBr.out _) 1).trans rfl, (blk_cell (blk_alloc GBr.out _) 2).trans rfl, (blk_cell (blk_alloc GBr.out _) 3).trans rfl, (blk_cell (blk_alloc GBr.out _) 4).trans rfl, (blk_cell (blk_alloc GBr.out _) 5).trans rfl⟩
            have HS3 : Aside0 ((wr.alloc (.cells #[.int .i64 b.f0, .int .i64 b.f1, .int .i64 b.f2] 48 (0, 0))).cell? ⟨wr.heap.size, 1, none⟩ = some (.int .i64 b.f1) ∧ (wr.alloc (.cells #[.int .i64 b.f0, .int .i64 b.f1, .int .i64 b.f2] 48 (0, 0))).cell? ⟨wr.heap.size, 2, none⟩ = some (.int .i64 b.f2) ∧ (wr.alloc (.cells #[.int .i64 b.f0, .int .i64 b.f1, .int .i64 b.f2] 48 (0, 0))).cell? ⟨0, 6, none⟩ = some (.int .u8 (letter s b : Int))) := ⟨(blk_cell (blk_new wr _) 1).trans rfl, (blk_cell (blk_new wr _) 2).trans rfl, ((below_alloc (Below.refl wr.heap.size wr) _).cell (World.block_lt_of_cell? _ _ hgl)).trans hgl⟩
            go_region_held3 (fun W => Below wr.heap.size wr W ∧ W.cell? ⟨w.heap.size, 0, none⟩ = some (.int .i64 s.f0) ∧ W.cell? ⟨w.heap.size, 1, none⟩ = some (.int .i64 s.f1) ∧ W.cell? ⟨w.heap.size, 2, none⟩ = some (.int .i64 s.f2) ∧ W.cell? ⟨w.heap.size, 3, none⟩ = some (.int .i64 s.f3) ∧ W.cell? ⟨w.heap.size, 4, none⟩ = some (.int .i64 s.f4) ∧ W.cell? ⟨w.heap.size, 5, none⟩ = some (.int .i64 s.f5) ∧ W.cell? ⟨wr.heap.size, 1, none⟩ = some (.int .i64 b.f1) ∧ W.cell? ⟨wr.heap.size, 2, none⟩ = some (.int .i64 b.f2) ∧ W.cell? ⟨0, 6, none⟩ = some (.int .u8 (letter s b : Int)))
            (first
              | exact ⟨below_drew1 HBn.out, HS6.out.1, HS6.out.2.1, HS6.out.2.2.1, HS6.out.2.2.2.1, HS6.out.2.2.2.2.1, HS6.out.2.2.2.2.2, HS3.out.1, HS3.out.2.1, HS3.out.2.2⟩
              | (go_split_ands; refine ⟨below_step (by assumption) hb, ?_, ?_, ?_, ?_, ?_, ?_, ?_, ?_, ?_⟩ <;> exact (hb.cell (World.block_lt_of_cell? _ _ (by assumption))).trans (by assumption)))
            (first | (go_at_call 26; (first | (with_reducible refine (half_to s b.f1 _ _ HE1.out).mono ?_) | (with_reducible refine (half_to s b.f2 _ _ HE2.out).mono ?_)); rintro e W1 ⟨rfl, hb⟩))
            go_wp2_with fail
            go_meet
            exact ⟨rfl, ⟨And.left ‹Below wr.heap.size wr _ ∧ _›⟩⟩
          · have HBn := Aside0.mk (below_alloc (Below.refl wr.heap.size wr) (.cells #[.int .i64 b.f0, .int .i64 b.f1, .int .i64 b.f2] 48 (0, 0)))
            have HS6 : Aside0 ((wr.alloc (.cells #[.int .i64 b.f0, .int .i64 b.f1, .int .i64 b.f2] 48 (0, 0))).cell? ⟨w.heap.size, 0, none⟩ = some (.int .i64 s.f0) ∧ (wr.alloc (.cells #[.int .i64 b.f0, .int .i64 b.f1, .int .i64 b.f2] 48 (0, 0))).cell? ⟨w.heap.size, 1, none⟩ = some (.int .i64 s.f1) ∧ (wr.alloc (.cells #[.int .i64 b.f0, .int .i64 b.f1, .int .i64 b.f2] 48 (0, 0))).cell? ⟨w.heap.size, 2, none⟩ = some (.int .i64 s.f2) ∧ (wr.alloc (.cells #[.int .i64 b.f0, .int .i64 b.f1, .int .i64 b.f2] 48 (0, 0))).cell? ⟨w.heap.size, 3, none⟩ = some (.int .i64 s.f3) ∧ (wr.alloc (.cells #[.int .i64 b.f0, .int .i64 b.f1, .int .i64 b.f2] 48 (0, 0))).cell? ⟨w.heap.size, 4, none⟩ = some (.int .i64 s.f4) ∧ (wr.alloc (.cells #[.int .i64 b.f0, .int .i64 b.f1, .int .i64 b.f2] 48 (0, 0))).cell? ⟨w.heap.size, 5, none⟩ = some (.int .i64 s.f5)) := ⟨(blk_cell (blk_alloc GBr.out _) 0).trans rfl, (blk_cell (blk_alloc GBr.out _) 1).trans rfl, (blk_cell (blk_alloc GBr.out _) 2).trans rfl, (blk_cell (blk_alloc GBr.out _) 3).trans rfl, (blk_cell (blk_alloc GBr.out _) 4).trans rfl, (blk_cell (blk_alloc GBr.out _) 5).trans rfl⟩
            have HS3 : Aside0 ((wr.alloc (.cells #[.int .i64 b.f0, .int .i64 b.f1, .int .i64 b.f2] 48 (0, 0))).cell? ⟨wr.heap.size, 1, none⟩ = some (.int .i64 b.f1) ∧ (wr.alloc (.cells #[.int .i64 b.f0, .int .i64 b.f1, .int .i64 b.f2] 48 (0, 0))).cell? ⟨wr.heap.size, 2, none⟩ = some (.int .i64 b.f2) ∧ (wr.alloc (.cells #[.int .i64 b.f0, .int .i64 b.f1, .int .i64 b.f2] 48 (0, 0))).cell? ⟨0, 7, none⟩ = some (.int .u8 (letter s b : Int))) := ⟨(blk_cell (blk_new wr _) 1).trans rfl, (blk_cell (blk_new wr _) 2).trans rfl, ((below_alloc (Below.refl wr.heap.size wr) _).cell (World.block_lt_of_cell? _ _ hgl)).trans hgl⟩
            go_region_held3 (fun W => Below wr.heap.size wr W ∧ W.cell? ⟨w.heap.size, 0, none⟩ = some (.int .i64 s.f0) ∧ W.cell? ⟨w.heap.size, 1, none⟩ = some (.int .i64 s.f1) ∧ W.cell? ⟨w.heap.size, 2, none⟩ = some (.int .i64 s.f2) ∧ W.cell? ⟨w.heap.size, 3, none⟩ = some (.int .i64 s.f3) ∧ W.cell? ⟨w.heap.size, 4, none⟩ = some (.int .i64 s.f4) ∧ W.cell? ⟨w.heap.size, 5, none⟩ = some (.int .i64 s.f5) ∧ W.cell? ⟨wr.heap.size, 1, none⟩ = some (.int .i64 b.f1) ∧ W.cell? ⟨wr.heap.size, 2, none⟩ = some (.int .i64 b.f2) ∧ W.cell? ⟨0, 7, none⟩ = some (.int .u8 (letter s b : Int)))
            (first
              | exact ⟨below_drew1 HBn.out, HS6.out.1, HS6.out.2.1, HS6.out.2.2.1, HS6.out.2.2.2.1, HS6.out.2.2.2.2.1, HS6.out.2.2.2.2.2, HS3.out.1, HS3.out.2.1, HS3.out.2.2⟩
              | (go_split_ands; refine ⟨below_step (by assumption) hb, ?_, ?_, ?_, ?_, ?_, ?_, ?_, ?_, ?_⟩ <;> exact (hb.cell (World.block_lt_of_cell? _ _ (by assumption))).trans (by assumption)))
            (first | (go_at_call 26; (first | (with_reducible refine (half_to s b.f1 _ _ HE1.out).mono ?_) | (with_reducible refine (half_to s b.f2 _ _ HE2.out).mono ?_)); rintro e W1 ⟨rfl, hb⟩))
            go_wp2_with fail
            go_meet
            exact ⟨rfl, ⟨And.left ‹Below wr.heap.size wr _ ∧ _›⟩⟩
          · have HBn := Aside0.mk (below_alloc (Below.refl wr.heap.size wr) (.cells #[.int .i64 b.f0, .int .i64 b.f1, .int .i64 b.f2] 48 (0, 0)))
            have HS6 : Aside0 ((wr.alloc (.cells #[.int .i64 b.f0, .int .i64 b.f1, .int .i64 b.f2] 48 (0, 0))).cell? ⟨w.heap.size, 0, none⟩ = some (.int .i64 s.f0) ∧ (wr.alloc (.cells #[.int .i64 b.f0, .int .i64 b.f1, .int .i64 b.f2] 48 (0, 0))).cell? ⟨w.heap.size, 1, none⟩ = some (.int .i64 s.f1) ∧ (wr.alloc (.cells #[.int .i64 b.f0, .int .i64 b.f1, .int .i64 b.f2] 48 (0, 0))).cell? ⟨w.heap.size, 2, none⟩ = some (.int .i64 s.f2) ∧ (wr.alloc (.cells #[.int .i64 b.f0, .int .i64 b.f1, .int .i64 b.f2] 48 (0, 0))).cell? ⟨w.heap.size, 3, none⟩ = some (.int .i64 s.f3) ∧ (wr.alloc (.cells #[.int .i64 b.f0, .int .i64 b.f1, .int .i64 b.f2] 48 (0, 0))).cell? ⟨w.heap.size, 4, none⟩ = some (.int .i64 s.f4) ∧ (wr.alloc (.cells #[.int .i64 b.f0, .int .i64 b.f1, .int .i64 b.f2] 48 (0, 0))).cell? ⟨w.heap.size, 5, none⟩ = some (.int .i64 s.f5)) := ⟨(blk_cell (blk_alloc GBr.out _) 0).trans rfl, (blk_cell (blk_alloc GBr.out _) 1).trans rfl, (blk_cell (blk_alloc GBr.out _) 2).trans rfl, (blk_cell (blk_alloc GBr.out _) 3).trans rfl, (blk_cell (blk_alloc GBr.out _) 4).trans rfl, (blk_cell (blk_alloc GBr.out _) 5).trans rfl⟩
            have HS3 : Aside0 ((wr.alloc (.cells #[.int .i64 b.f0, .int .i64 b.f1, .int .i64 b.f2] 48 (0, 0))).cell? ⟨wr.heap.size, 1, none⟩ = some (.int .i64 b.f1) ∧ (wr.alloc (.cells #[.int .i64 b.f0, .int .i64 b.f1, .int .i64 b.f2] 48 (0, 0))).cell? ⟨wr.heap.size, 2, none⟩ = some (.int .i64 b.f2) ∧ (wr.alloc (.cells #[.int .i64 b.f0, .int .i64 b.f1, .int .i64 b.f2] 48 (0, 0))).cell? ⟨0, 8, none⟩ = some (.int .u8 (letter s b : Int))) := ⟨(blk_cell (blk_new wr _) 1).trans rfl, (blk_cell (blk_new wr _) 2).trans rfl, ((below_alloc (Below.refl wr.heap.size wr) _).cell (World.block_lt_of_cell? _ _ hgl)).trans hgl⟩
            go_region_held3 (fun W => Below wr.heap.size wr W ∧ W.cell? ⟨w.heap.size, 0, none⟩ = some (.int .i64 s.f0) ∧ W.cell? ⟨w.heap.size, 1, none⟩ = some (.int .i64 s.f1) ∧ W.cell? ⟨w.heap.size, 2, none⟩ = some (.int .i64 s.f2) ∧ W.cell? ⟨w.heap.size, 3, none⟩ = some (.int .i64 s.f3) ∧ W.cell? ⟨w.heap.size, 4, none⟩ = some (.int .i64 s.f4) ∧ W.cell? ⟨w.heap.size, 5, none⟩ = some (.int .i64 s.f5) ∧ W.cell? ⟨wr.heap.size, 1, none⟩ = some (.int .i64 b.f1) ∧ W.cell? ⟨wr.heap.size, 2, none⟩ = some (.int .i64 b.f2) ∧ W.cell? ⟨0, 8, none⟩ = some (.int .u8 (letter s b : Int)))
            (first
              | exact ⟨below_drew1 HBn.out, HS6.out.1, HS6.out.2.1, HS6.out.2.2.1, HS6.out.2.2.2.1, HS6.out.2.2.2.2.1, HS6.out.2.2.2.2.2, HS3.out.1, HS3.out.2.1, HS3.out.2.2⟩
              | (go_split_ands; refine ⟨below_step (by assumption) hb, ?_, ?_, ?_, ?_, ?_, ?_, ?_, ?_, ?_⟩ <;> exact (hb.cell (World.block_lt_of_cell? _ _ (by assumption))).trans (by assumption)))
            (first | (go_at_call 26; (first | (with_reducible refine (half_to s b.f1 _ _ HE1.out).mono ?_) | (with_reducible refine (half_to s b.f2 _ _ HE2.out).mono ?_)); rintro e W1 ⟨rfl, hb⟩))
            go_wp2_with fail
            go_meet
            exact ⟨rfl, ⟨And.left ‹Below wr.heap.size wr _ ∧ _›⟩⟩
      · have hke : k = n := by omega
        subst hke
        go_wp2_with (go_at_call 28; refine (Tryd.Builder_String_any B B _ _ HI.out (by have := (below_size HBX.out); have := HBB.out; omega)).mono ?_; rintro e w3 ⟨rfl, hb⟩; have n2_ := Aside0.mk hb; clear hb)
        go_ret2
        have e1 : readL s l = (⟨((List.range k).map (charAt s l)).toArray⟩, 0) := by
          unfold readL textL
          rw [if_pos HE.out, HNN.out]
          rfl
        refine ⟨by rw [e1]; rfl, ?_⟩
        exact below_step HB.out (Below.trans HBX.out (by rw [HBB.out]; exact n2_.out))
  · go_wp2_with (go_at_call 25; refine (place_bad s A c l _ (Kd.C_below HL.out (below_alloc (Below.refl _ _) _)) HC.out he).mono ?_; rintro e w1 ⟨rfl, hb⟩; have HB := Aside0.mk (below_step (below_alloc (Below.refl _ _) _) hb); have hne : (errL s l != 0) = true := bne_iff_ne.2 he; have hne2 : (errL s l == 0) = false := beq_false_of_ne he)
    go_ret2
    have e1 : readL s l = (⟨#[]⟩, errL s l) := by
      unfold readL
      rw [if_neg he]
    exact ⟨by rw [e1]; rfl, HB.out⟩
end Go.Proofs.YtadojakbfpdjjaaDoor.Px
