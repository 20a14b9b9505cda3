/-
  HeightWrong, walked: it answers true.
-/
import Derived.Test.YtadojakbfpdjjaaDoorHSetup
namespace Go.Proofs.YtadojakbfpdjjaaDoor.Px
open Go.RowKit Go.Maps Go.Proofs.YtadojakbfpdjjaaDoorW.PrintWords Go.Proofs.YtadojakbfpdjjaaDoorW.PrintLast Go.Proofs.YtadojakbfpdjjaaDoorW.PrintMore

/-- A setup with one defect, or a bar with one. -/
def wrongP (s bad : Stp) (b : Bar) (x : Int) : Prop := (x < 9 ∧ ¬ rightP bad) ∨ (9 ≤ x ∧ bad = s ∧ ¬ okBar b)
theorem wrong_err {s bad : Stp} {b : Bar} {x : Int} (hs : rightP s) (h : wrongP s bad b x) : errL bad [b] = 2 := by
  rcases h with ⟨_, h⟩ | ⟨_, rfl, h⟩
  · exact errL_2 (by simp) h
  · exact errL_bar (by simp) hs (fun h1 => h (h1 b (by simp)))
theorem many_err (s : Stp) (z : Bar) : errL s (List.replicate 401 z) = 5 := errL_5 (by rw [List.length_replicate]; decide)
theorem read_err {s : Stp} {l : List Bar} {e : Int} (h : errL s l = e) (he : e ≠ 0) : readL s l = (⟨#[]⟩, e) := by unfold readL; rw [if_neg (by rw [h]; exact he), h]
theorem margin_err {s : Stp} {l : List Bar} {e : Int} (h : errL s l = e) (he : e ≠ 0) : marginL s l = (0, e) := by unfold marginL; rw [if_neg (by rw [h]; exact he), h]

theorem margin_to (s : Stp) (A : Option Addr) (c : Nat) (l : List Bar) (v : Int) (n : Int) (m : Nat) (w : World) (hl : CB w A l) (hm : l.length = m) (hc : m ≤ c) (h : marginL s l = (v, n)) :
    Calls Tryd.prog 11 #[.agg #[.int .i64 s.f0, .int .i64 s.f1, .int .i64 s.f2, .int .i64 s.f3, .int .i64 s.f4, .int .i64 s.f5], .slice A m c] w fun e w' => e = .returned (.tuple #[.int .i64 v, .int .i64 n]) ∧ Below w.heap.size w w' := by
  subst hm
  have := margin_walk s A c l w hl hc
  rw [h] at this
  exact this
theorem row_many {w : World} {base : Nat} {v : Value} {z : Bar} (h : RB w base v (List.replicate (401 : Int).toNat z)) : ∃ A c, v = .slice A 401 c ∧ 401 ≤ c ∧ CB w A (List.replicate 401 z) := by
  obtain ⟨A, c, h1, h2, h3⟩ := CB_of_RB h
  rw [List.length_replicate] at h1 h2
  exact ⟨A, c, h1, h2, h3⟩
theorem six_cells {W W' : World} {g : Nat} {a b c d e f : Value} (hB : Below W.heap.size W W') (h0 : W.cell? ⟨g, 0, none⟩ = some a) (h1 : W.cell? ⟨g, 1, none⟩ = some b) (h2 : W.cell? ⟨g, 2, none⟩ = some c) (h3 : W.cell? ⟨g, 3, none⟩ = some d) (h4 : W.cell? ⟨g, 4, none⟩ = some e) (h5 : W.cell? ⟨g, 5, none⟩ = some f) :
    W'.cell? ⟨g, 0, none⟩ = some a ∧ W'.cell? ⟨g, 1, none⟩ = some b ∧ W'.cell? ⟨g, 2, none⟩ = some c ∧ W'.cell? ⟨g, 3, none⟩ = some d ∧ W'.cell? ⟨g, 4, none⟩ = some e ∧ W'.cell? ⟨g, 5, none⟩ = some f :=
  ⟨(hB.cell (World.block_lt_of_cell? _ _ h0)).trans h0, (hB.cell (World.block_lt_of_cell? _ _ h1)).trans h1, (hB.cell (World.block_lt_of_cell? _ _ h2)).trans h2, (hB.cell (World.block_lt_of_cell? _ _ h3)).trans h3, (hB.cell (World.block_lt_of_cell? _ _ h4)).trans h4, (hB.cell (World.block_lt_of_cell? _ _ h5)).trans h5⟩
theorem right_to (s : Stp) (b : Bool) (w : World) (h : decide (rightP s) = b) : Calls Tryd.prog 15 #[.agg #[.int .i64 s.f0, .int .i64 s.f1, .int .i64 s.f2, .int .i64 s.f3, .int .i64 s.f4, .int .i64 s.f5]] w fun e w' => e = .returned (.bool b) ∧ Below w.heap.size w w' := by
  rw [← h]
  exact right_any s w
theorem made_bars (m : Nat) : (madeCells (Value.agg #[.int .i64 0, .int .i64 0, .int .i64 0]).cells (m * 3)).toList = flatB (List.replicate m z48) :=
  flatB_unique (w := default) (base := 0) (ok := fun _ => True) (Kd.reps_made (z0 := z48) rfl (by decide) (k48_mkM _ _ _ z48) m)
theorem make401 (W : World) : (Instr.makeSlice 24 (.int .i64 401) (.int .i64 401)).run Tryd.prog W = .ok (.slice (some ⟨W.heap.size, 0, none⟩) 401 401) (W.alloc (.cells (flatB (List.replicate 401 z48)).toArray 48)) := by
  obtain ⟨i, hi, hz⟩ := Option.map_eq_some_iff.1 info48
  simp only [Prod.mk.injEq] at hz
  obtain ⟨h1, h2, h3⟩ := hz
  have h := run_make (P := Tryd.prog) W 24 48 i _ Tryd.underlying24 hi h1 .i64 .i64 401 401 (by decide) (by decide) (by rw [h3]; decide) (by decide)
  rw [h, h2]
  rw [show (401 : Int).toNat = 401 from rfl]
  have e := made_bars 401
  rw [← e]
theorem blk_new2 (w : World) (o p : Obj) : ((w.alloc o).alloc p).heap[w.heap.size + 1]? = some p := by
  have := blk_new (w.alloc o) p
  simpa using this
theorem blk_new3 (w : World) (o p q : Obj) : (((w.alloc o).alloc p).alloc q).heap[w.heap.size + 1 + 1]? = some q := by
  have := blk_new ((w.alloc o).alloc p) q
  simpa using this

set_option maxHeartbeats 1000000 in
set_option maxRecDepth 100000 in
theorem wrong_walk (f : U8s) (way n : Int) (hw0 : 0 ≤ way) (hw1 : way ≤ 255) (hn0 : -9223372036854775808 ≤ n) (hn1 : n ≤ 9223372036854775807) (w : World) (hgl : GL w) :
    Calls Tryd.prog 7 #[.agg #[.int .u8 f.a0, .int .u8 f.a1, .int .u8 f.a2, .int .u8 f.a3, .int .u8 f.a4, .int .u8 f.a5], .int .u8 way, .int .i64 n] w fun e w' => e = .returned (.bool true) ∧ Below w.heap.size w w' := by
  have HG := Aside0.mk hgl
  clear hgl
  have HS0 := Aside0.mk (fun W => setup_any f W)
  have hb := stOf_bounds f
  have hr := stOf_right f
  generalize stOf f = s at HS0 hb hr
  have HBD := Aside0.mk hb
  have HR := Aside0.mk hr
  clear hb hr
  go_enter Tryd.func7, Tryd.ntmps7
  go_upto_block 0 with (first
    | (go_at_call 20; refine (HS0.out _).mono ?_; rintro e w1 ⟨rfl, hb⟩; have HB := Aside0.mk (below_step (below_alloc (Below.refl _ _) _) hb); clear hb))
  go_cut [] (fun wc => ∃ (bad : Stp) (b : Bar), Aside0 (wrongP s bad b (way % 12)) ∧ Aside0 (wc.heap[w1.heap.size]? = some (.cells #[.int .i64 s.f0, .int .i64 s.f1, .int .i64 s.f2, .int .i64 s.f3, .int .i64 s.f4, .int .i64 s.f5] 23 (0, 0))) ∧ Aside0 (wc.heap[w1.heap.size + 1]? = some (.cells #[.int .i64 bad.f0, .int .i64 bad.f1, .int .i64 bad.f2, .int .i64 bad.f3, .int .i64 bad.f4, .int .i64 bad.f5] 23 (0, 0))) ∧ Aside0 (wc.heap[w1.heap.size + 1 + 1]? = some (.cells #[.int .i64 b.f0, .int .i64 b.f1, .int .i64 b.f2] 48 (0, 0))) ∧ Aside0 (Below w.heap.size w wc))
  case first =>
    have hx12 : way % 12 = 0 ∨ way % 12 = 1 ∨ way % 12 = 2 ∨ way % 12 = 3 ∨ way % 12 = 4 ∨ way % 12 = 5 ∨ way % 12 = 6 ∨ way % 12 = 7 ∨ way % 12 = 8 ∨ way % 12 = 9 ∨ way % 12 = 10 ∨ way % 12 = 11 := by omega
    obtain ⟨hb0, hb1, hb2, hb3, hb4, hb5, hb6, hb7, hb8, hb9, hb10, hb11⟩ := HBD.out
    rcases hx12 with hx | hx | hx | hx | hx | hx | hx | hx | hx | hx | hx | hx
    · go_wp2_with fail
      go_meet
      exact ⟨⟨min n 0, s.f1, s.f2, s.f3, s.f4, s.f5⟩, ⟨s.f1, s.f4, s.f5⟩, ⟨.inl ⟨by omega, by unfold rightP; simp only; omega⟩⟩, ⟨blk_alloc (blk_alloc (blk_new w1 _) _) _⟩, ⟨blk_alloc (blk_new2 w1 _ _) _⟩, ⟨blk_new3 w1 _ _ _⟩, ⟨below_alloc (below_alloc (below_alloc HB.out _) _) _⟩⟩
    · go_wp2_with fail
      go_meet
      exact ⟨⟨max n 201, s.f1, s.f2, s.f3, s.f4, s.f5⟩, ⟨s.f1, s.f4, s.f5⟩, ⟨.inl ⟨by omega, by unfold rightP; simp only; omega⟩⟩, ⟨blk_alloc (blk_alloc (blk_new w1 _) _) _⟩, ⟨blk_alloc (blk_new2 w1 _ _) _⟩, ⟨blk_new3 w1 _ _ _⟩, ⟨below_alloc (below_alloc (below_alloc HB.out _) _) _⟩⟩
    · go_wp2_with fail
      go_meet
      exact ⟨⟨s.f0, s.f1, min n 0, s.f3, s.f4, s.f5⟩, ⟨s.f1, s.f4, s.f5⟩, ⟨.inl ⟨by omega, by unfold rightP; simp only; omega⟩⟩, ⟨blk_alloc (blk_alloc (blk_new w1 _) _) _⟩, ⟨blk_alloc (blk_new2 w1 _ _) _⟩, ⟨blk_new3 w1 _ _ _⟩, ⟨below_alloc (below_alloc (below_alloc HB.out _) _) _⟩⟩
    · go_wp2_with fail
      go_meet
      exact ⟨⟨s.f0, s.f1, max n 1048577, s.f3, s.f4, s.f5⟩, ⟨s.f1, s.f4, s.f5⟩, ⟨.inl ⟨by omega, by unfold rightP; simp only; omega⟩⟩, ⟨blk_alloc (blk_alloc (blk_new w1 _) _) _⟩, ⟨blk_alloc (blk_new2 w1 _ _) _⟩, ⟨blk_new3 w1 _ _ _⟩, ⟨below_alloc (below_alloc (below_alloc HB.out _) _) _⟩⟩
    · go_wp2_with fail
      go_meet
      exact ⟨⟨s.f0, s.f1, s.f2, max n ((s.f2 + 1) / 2), s.f4, s.f5⟩, ⟨s.f1, s.f4, s.f5⟩, ⟨.inl ⟨by omega, by unfold rightP; simp only; omega⟩⟩, ⟨blk_alloc (blk_alloc (blk_new w1 _) _) _⟩, ⟨blk_alloc (blk_new2 w1 _ _) _⟩, ⟨blk_new3 w1 _ _ _⟩, ⟨below_alloc (below_alloc (below_alloc HB.out _) _) _⟩⟩
    · go_wp2_with fail
      go_meet
      exact ⟨⟨s.f0, s.f1, s.f2, min n (-1), s.f4, s.f5⟩, ⟨s.f1, s.f4, s.f5⟩, ⟨.inl ⟨by omega, by unfold rightP; simp only; omega⟩⟩, ⟨blk_alloc (blk_alloc (blk_new w1 _) _) _⟩, ⟨blk_alloc (blk_new2 w1 _ _) _⟩, ⟨blk_new3 w1 _ _ _⟩, ⟨below_alloc (below_alloc (below_alloc HB.out _) _) _⟩⟩
    · go_wp2_with fail
      go_meet
      exact ⟨⟨s.f0, s.f1, s.f2, s.f3, min n (-1), s.f5⟩, ⟨s.f1, s.f4, s.f5⟩, ⟨.inl ⟨by omega, by unfold rightP; simp only; omega⟩⟩, ⟨blk_alloc (blk_alloc (blk_new w1 _) _) _⟩, ⟨blk_alloc (blk_new2 w1 _ _) _⟩, ⟨blk_new3 w1 _ _ _⟩, ⟨below_alloc (below_alloc (below_alloc HB.out _) _) _⟩⟩
    · go_wp2_with fail
      go_meet
      exact ⟨⟨s.f0, s.f1, s.f2, s.f3, s.f4, min n s.f4⟩, ⟨s.f1, s.f4, s.f5⟩, ⟨.inl ⟨by omega, by unfold rightP; simp only; omega⟩⟩, ⟨blk_alloc (blk_alloc (blk_new w1 _) _) _⟩, ⟨blk_alloc (blk_new2 w1 _ _) _⟩, ⟨blk_new3 w1 _ _ _⟩, ⟨below_alloc (below_alloc (below_alloc HB.out _) _) _⟩⟩
    · go_wp2_with fail
      go_meet
      exact ⟨⟨s.f0, s.f1, s.f2, s.f3, s.f4, max n 1048577⟩, ⟨s.f1, s.f4, s.f5⟩, ⟨.inl ⟨by omega, by unfold rightP; simp only; omega⟩⟩, ⟨blk_alloc (blk_alloc (blk_new w1 _) _) _⟩, ⟨blk_alloc (blk_new2 w1 _ _) _⟩, ⟨blk_new3 w1 _ _ _⟩, ⟨below_alloc (below_alloc (below_alloc HB.out _) _) _⟩⟩
    · go_wp2_with fail
      go_meet
      exact ⟨⟨s.f0, s.f1, s.f2, s.f3, s.f4, s.f5⟩, ⟨min n (-1), s.f4, s.f5⟩, ⟨.inr ⟨by omega, rfl, by unfold okBar; simp only; omega⟩⟩, ⟨blk_alloc (blk_alloc (blk_new w1 _) _) _⟩, ⟨blk_alloc (blk_new2 w1 _ _) _⟩, ⟨blk_new3 w1 _ _ _⟩, ⟨below_alloc (below_alloc (below_alloc HB.out _) _) _⟩⟩
    · go_wp2_with fail
      go_meet
      exact ⟨⟨s.f0, s.f1, s.f2, s.f3, s.f4, s.f5⟩, ⟨s.f1, max n 1048577, s.f5⟩, ⟨.inr ⟨by omega, rfl, by unfold okBar; simp only; omega⟩⟩, ⟨blk_alloc (blk_alloc (blk_new w1 _) _) _⟩, ⟨blk_alloc (blk_new2 w1 _ _) _⟩, ⟨blk_new3 w1 _ _ _⟩, ⟨below_alloc (below_alloc (below_alloc HB.out _) _) _⟩⟩
    · go_wp2_with fail
      go_meet
      exact ⟨⟨s.f0, s.f1, s.f2, s.f3, s.f4, s.f5⟩, ⟨s.f1, s.f4, min n (-1)⟩, ⟨.inr ⟨by omega, rfl, by unfold okBar; simp only; omega⟩⟩, ⟨blk_alloc (blk_alloc (blk_new w1 _) _) _⟩, ⟨blk_alloc (blk_new2 w1 _ _) _⟩, ⟨blk_new3 w1 _ _ _⟩, ⟨below_alloc (below_alloc (below_alloc HB.out _) _) _⟩⟩
  case rest =>
    obtain ⟨bad, b, HW, GS, GBad, GBb, HBc⟩ := hcut
    clear HB
    have hgd := wrong_err HR.out HW.out
    have HE := Aside0.mk hgd
    clear hgd
    have hsz : w1.heap.size < (wc).heap.size := blk_lt (GS.out); have hs0 : (wc).cell? ⟨w1.heap.size, 0, none⟩ = some (.int .i64 s.f0) := (blk_cell (GS.out) 0).trans rfl; have hs1 : (wc).cell? ⟨w1.heap.size, 1, none⟩ = some (.int .i64 s.f1) := (blk_cell (GS.out) 1).trans rfl; have hs2 : (wc).cell? ⟨w1.heap.size, 2, none⟩ = some (.int .i64 s.f2) := (blk_cell (GS.out) 2).trans rfl; have hs3 : (wc).cell? ⟨w1.heap.size, 3, none⟩ = some (.int .i64 s.f3) := (blk_cell (GS.out) 3).trans rfl; have hs4 : (wc).cell? ⟨w1.heap.size, 4, none⟩ = some (.int .i64 s.f4) := (blk_cell (GS.out) 4).trans rfl; have hs5 : (wc).cell? ⟨w1.heap.size, 5, none⟩ = some (.int .i64 s.f5) := (blk_cell (GS.out) 5).trans rfl; have hdz : w1.heap.size + 1 < (wc).heap.size := blk_lt (GBad.out); have hd0 : (wc).cell? ⟨w1.heap.size + 1, 0, none⟩ = some (.int .i64 bad.f0) := (blk_cell (GBad.out) 0).trans rfl; have hd1 : (wc).cell? ⟨w1.heap.size + 1, 1, none⟩ = some (.int .i64 bad.f1) := (blk_cell (GBad.out) 1).trans rfl; have hd2 : (wc).cell? ⟨w1.heap.size + 1, 2, none⟩ = some (.int .i64 bad.f2) := (blk_cell (GBad.out) 2).trans rfl; have hd3 : (wc).cell? ⟨w1.heap.size + 1, 3, none⟩ = some (.int .i64 bad.f3) := (blk_cell (GBad.out) 3).trans rfl; have hd4 : (wc).cell? ⟨w1.heap.size + 1, 4, none⟩ = some (.int .i64 bad.f4) := (blk_cell (GBad.out) 4).trans rfl; have hd5 : (wc).cell? ⟨w1.heap.size + 1, 5, none⟩ = some (.int .i64 bad.f5) := (blk_cell (GBad.out) 5).trans rfl; have hbz : w1.heap.size + 1 + 1 < (wc).heap.size := blk_lt (GBb.out); have hb0 : (wc).cell? ⟨w1.heap.size + 1 + 1, 0, none⟩ = some (.int .i64 b.f0) := (blk_cell (GBb.out) 0).trans rfl; have hb1 : (wc).cell? ⟨w1.heap.size + 1 + 1, 1, none⟩ = some (.int .i64 b.f1) := (blk_cell (GBb.out) 1).trans rfl; have hb2 : (wc).cell? ⟨w1.heap.size + 1 + 1, 2, none⟩ = some (.int .i64 b.f2) := (blk_cell (GBb.out) 2).trans rfl
    go_upto_region 30 with (first | (go_at_call 10; refine (read_to bad (some ⟨wc.heap.size, 0, none⟩) 1 [b] ⟨#[]⟩ 2 1 _ (CB_block (l := [b]) (blk_new wc _) rfl (by simp)) rfl (Nat.le_refl _) (HG.out.below (below_alloc HBc.out _)) (read_err HE.out (by decide))).mono ?_; rintro e w2 ⟨rfl, hB⟩; have n1_ := Aside0.mk (below_step (below_alloc HBc.out _) hB); have n2_ := Aside0.mk (blk_below (blk_alloc GS.out _) hB); have n3_ := Aside0.mk (blk_below (blk_alloc GBad.out _) hB); have n4_ := Aside0.mk (blk_below (blk_alloc GBb.out _) hB); clear hB HBc GS GBad GBb; clear hsz hs0 hs1 hs2 hs3 hs4 hs5 hdz hd0 hd1 hd2 hd3 hd4 hd5 hbz hb0 hb1 hb2; have HBc := n1_; have GS := n2_; have GBad := n3_; have GBb := n4_; clear n1_ n2_ n3_ n4_; have hsz : w1.heap.size < (w2).heap.size := blk_lt (GS.out); have hs0 : (w2).cell? ⟨w1.heap.size, 0, none⟩ = some (.int .i64 s.f0) := (blk_cell (GS.out) 0).trans rfl; have hs1 : (w2).cell? ⟨w1.heap.size, 1, none⟩ = some (.int .i64 s.f1) := (blk_cell (GS.out) 1).trans rfl; have hs2 : (w2).cell? ⟨w1.heap.size, 2, none⟩ = some (.int .i64 s.f2) := (blk_cell (GS.out) 2).trans rfl; have hs3 : (w2).cell? ⟨w1.heap.size, 3, none⟩ = some (.int .i64 s.f3) := (blk_cell (GS.out) 3).trans rfl; have hs4 : (w2).cell? ⟨w1.heap.size, 4, none⟩ = some (.int .i64 s.f4) := (blk_cell (GS.out) 4).trans rfl; have hs5 : (w2).cell? ⟨w1.heap.size, 5, none⟩ = some (.int .i64 s.f5) := (blk_cell (GS.out) 5).trans rfl; have hdz : w1.heap.size + 1 < (w2).heap.size := blk_lt (GBad.out); have hd0 : (w2).cell? ⟨w1.heap.size + 1, 0, none⟩ = some (.int .i64 bad.f0) := (blk_cell (GBad.out) 0).trans rfl; have hd1 : (w2).cell? ⟨w1.heap.size + 1, 1, none⟩ = some (.int .i64 bad.f1) := (blk_cell (GBad.out) 1).trans rfl; have hd2 : (w2).cell? ⟨w1.heap.size + 1, 2, none⟩ = some (.int .i64 bad.f2) := (blk_cell (GBad.out) 2).trans rfl; have hd3 : (w2).cell? ⟨w1.heap.size + 1, 3, none⟩ = some (.int .i64 bad.f3) := (blk_cell (GBad.out) 3).trans rfl; have hd4 : (w2).cell? ⟨w1.heap.size + 1, 4, none⟩ = some (.int .i64 bad.f4) := (blk_cell (GBad.out) 4).trans rfl; have hd5 : (w2).cell? ⟨w1.heap.size + 1, 5, none⟩ = some (.int .i64 bad.f5) := (blk_cell (GBad.out) 5).trans rfl; have hbz : w1.heap.size + 1 + 1 < (w2).heap.size := blk_lt (GBb.out); have hb0 : (w2).cell? ⟨w1.heap.size + 1 + 1, 0, none⟩ = some (.int .i64 b.f0) := (blk_cell (GBb.out) 0).trans rfl; have hb1 : (w2).cell? ⟨w1.heap.size + 1 + 1, 1, none⟩ = some (.int .i64 b.f1) := (blk_cell (GBb.out) 1).trans rfl; have hb2 : (w2).cell? ⟨w1.heap.size + 1 + 1, 2, none⟩ = some (.int .i64 b.f2) := (blk_cell (GBb.out) 2).trans rfl))
    go_upto_region 31 with (first | (go_at_call 11; refine (margin_to bad (some ⟨w2.heap.size, 0, none⟩) 1 [b] 0 2 1 _ (CB_block (l := [b]) (blk_new w2 _) rfl (by simp)) rfl (Nat.le_refl _) (margin_err HE.out (by decide))).mono ?_; rintro e w3 ⟨rfl, hB⟩; have n1_ := Aside0.mk (below_step (below_alloc HBc.out _) hB); have n2_ := Aside0.mk (blk_below (blk_alloc GS.out _) hB); have n3_ := Aside0.mk (blk_below (blk_alloc GBad.out _) hB); have n4_ := Aside0.mk (blk_below (blk_alloc GBb.out _) hB); clear hB HBc GS GBad GBb; clear hsz hs0 hs1 hs2 hs3 hs4 hs5 hdz hd0 hd1 hd2 hd3 hd4 hd5 hbz hb0 hb1 hb2; have HBc := n1_; have GS := n2_; have GBad := n3_; have GBb := n4_; clear n1_ n2_ n3_ n4_; have hsz : w1.heap.size < (w3).heap.size := blk_lt (GS.out); have hs0 : (w3).cell? ⟨w1.heap.size, 0, none⟩ = some (.int .i64 s.f0) := (blk_cell (GS.out) 0).trans rfl; have hs1 : (w3).cell? ⟨w1.heap.size, 1, none⟩ = some (.int .i64 s.f1) := (blk_cell (GS.out) 1).trans rfl; have hs2 : (w3).cell? ⟨w1.heap.size, 2, none⟩ = some (.int .i64 s.f2) := (blk_cell (GS.out) 2).trans rfl; have hs3 : (w3).cell? ⟨w1.heap.size, 3, none⟩ = some (.int .i64 s.f3) := (blk_cell (GS.out) 3).trans rfl; have hs4 : (w3).cell? ⟨w1.heap.size, 4, none⟩ = some (.int .i64 s.f4) := (blk_cell (GS.out) 4).trans rfl; have hs5 : (w3).cell? ⟨w1.heap.size, 5, none⟩ = some (.int .i64 s.f5) := (blk_cell (GS.out) 5).trans rfl; have hdz : w1.heap.size + 1 < (w3).heap.size := blk_lt (GBad.out); have hd0 : (w3).cell? ⟨w1.heap.size + 1, 0, none⟩ = some (.int .i64 bad.f0) := (blk_cell (GBad.out) 0).trans rfl; have hd1 : (w3).cell? ⟨w1.heap.size + 1, 1, none⟩ = some (.int .i64 bad.f1) := (blk_cell (GBad.out) 1).trans rfl; have hd2 : (w3).cell? ⟨w1.heap.size + 1, 2, none⟩ = some (.int .i64 bad.f2) := (blk_cell (GBad.out) 2).trans rfl; have hd3 : (w3).cell? ⟨w1.heap.size + 1, 3, none⟩ = some (.int .i64 bad.f3) := (blk_cell (GBad.out) 3).trans rfl; have hd4 : (w3).cell? ⟨w1.heap.size + 1, 4, none⟩ = some (.int .i64 bad.f4) := (blk_cell (GBad.out) 4).trans rfl; have hd5 : (w3).cell? ⟨w1.heap.size + 1, 5, none⟩ = some (.int .i64 bad.f5) := (blk_cell (GBad.out) 5).trans rfl; have hbz : w1.heap.size + 1 + 1 < (w3).heap.size := blk_lt (GBb.out); have hb0 : (w3).cell? ⟨w1.heap.size + 1 + 1, 0, none⟩ = some (.int .i64 b.f0) := (blk_cell (GBb.out) 0).trans rfl; have hb1 : (w3).cell? ⟨w1.heap.size + 1 + 1, 1, none⟩ = some (.int .i64 b.f1) := (blk_cell (GBb.out) 1).trans rfl; have hb2 : (w3).cell? ⟨w1.heap.size + 1 + 1, 2, none⟩ = some (.int .i64 b.f2) := (blk_cell (GBb.out) 2).trans rfl))
    go_upto_region 32 with (first | (go_at_call 18; refine (draw_walk bad [] _ (by simp)).mono ?_; rintro e w4 ⟨vd, rfl, _, hB⟩; have n1_ := Aside0.mk (below_step HBc.out hB); have n2_ := Aside0.mk (blk_below GS.out hB); have n3_ := Aside0.mk (blk_below GBad.out hB); have n4_ := Aside0.mk (blk_below GBb.out hB); clear hB HBc GS GBad GBb; clear hsz hs0 hs1 hs2 hs3 hs4 hs5 hdz hd0 hd1 hd2 hd3 hd4 hd5 hbz hb0 hb1 hb2; have HBc := n1_; have GS := n2_; have GBad := n3_; have GBb := n4_; clear n1_ n2_ n3_ n4_; have hsz : w1.heap.size < (w4).heap.size := blk_lt (GS.out); have hs0 : (w4).cell? ⟨w1.heap.size, 0, none⟩ = some (.int .i64 s.f0) := (blk_cell (GS.out) 0).trans rfl; have hs1 : (w4).cell? ⟨w1.heap.size, 1, none⟩ = some (.int .i64 s.f1) := (blk_cell (GS.out) 1).trans rfl; have hs2 : (w4).cell? ⟨w1.heap.size, 2, none⟩ = some (.int .i64 s.f2) := (blk_cell (GS.out) 2).trans rfl; have hs3 : (w4).cell? ⟨w1.heap.size, 3, none⟩ = some (.int .i64 s.f3) := (blk_cell (GS.out) 3).trans rfl; have hs4 : (w4).cell? ⟨w1.heap.size, 4, none⟩ = some (.int .i64 s.f4) := (blk_cell (GS.out) 4).trans rfl; have hs5 : (w4).cell? ⟨w1.heap.size, 5, none⟩ = some (.int .i64 s.f5) := (blk_cell (GS.out) 5).trans rfl; have hdz : w1.heap.size + 1 < (w4).heap.size := blk_lt (GBad.out); have hd0 : (w4).cell? ⟨w1.heap.size + 1, 0, none⟩ = some (.int .i64 bad.f0) := (blk_cell (GBad.out) 0).trans rfl; have hd1 : (w4).cell? ⟨w1.heap.size + 1, 1, none⟩ = some (.int .i64 bad.f1) := (blk_cell (GBad.out) 1).trans rfl; have hd2 : (w4).cell? ⟨w1.heap.size + 1, 2, none⟩ = some (.int .i64 bad.f2) := (blk_cell (GBad.out) 2).trans rfl; have hd3 : (w4).cell? ⟨w1.heap.size + 1, 3, none⟩ = some (.int .i64 bad.f3) := (blk_cell (GBad.out) 3).trans rfl; have hd4 : (w4).cell? ⟨w1.heap.size + 1, 4, none⟩ = some (.int .i64 bad.f4) := (blk_cell (GBad.out) 4).trans rfl; have hd5 : (w4).cell? ⟨w1.heap.size + 1, 5, none⟩ = some (.int .i64 bad.f5) := (blk_cell (GBad.out) 5).trans rfl; have hbz : w1.heap.size + 1 + 1 < (w4).heap.size := blk_lt (GBb.out); have hb0 : (w4).cell? ⟨w1.heap.size + 1 + 1, 0, none⟩ = some (.int .i64 b.f0) := (blk_cell (GBb.out) 0).trans rfl; have hb1 : (w4).cell? ⟨w1.heap.size + 1 + 1, 1, none⟩ = some (.int .i64 b.f1) := (blk_cell (GBb.out) 1).trans rfl; have hb2 : (w4).cell? ⟨w1.heap.size + 1 + 1, 2, none⟩ = some (.int .i64 b.f2) := (blk_cell (GBb.out) 2).trans rfl))
    have hdr : drawL bad [] = ([], 2) := if_neg (fun h => by have h1 := h.1.1; have h2 := h.2.1; simp at h2; omega)
    rw [hdr]
    clear hdr
    have hmk := make401
    have HB5 := Aside0.mk (below_alloc (Below.refl w4.heap.size w4) (.cells (flatB (List.replicate 401 z48)).toArray 48 (0, 0)))
    have HK5 := Aside0.mk (six_cells HB5.out hd0 hd1 hd2 hd3 hd4 hd5)
    have HC5 := Aside0.mk (CB_block (l := List.replicate 401 z48) (blk_new w4 (.cells (flatB (List.replicate 401 z48)).toArray 48 (0, 0))) rfl (by rw [List.length_replicate]; decide))
    go_region_held3 (fun W => Below w4.heap.size w4 W ∧ W.cell? ⟨w1.heap.size + 1, 0, none⟩ = some (.int .i64 bad.f0) ∧ W.cell? ⟨w1.heap.size + 1, 1, none⟩ = some (.int .i64 bad.f1) ∧ W.cell? ⟨w1.heap.size + 1, 2, none⟩ = some (.int .i64 bad.f2) ∧ W.cell? ⟨w1.heap.size + 1, 3, none⟩ = some (.int .i64 bad.f3) ∧ W.cell? ⟨w1.heap.size + 1, 4, none⟩ = some (.int .i64 bad.f4) ∧ W.cell? ⟨w1.heap.size + 1, 5, none⟩ = some (.int .i64 bad.f5))
      (first
        | exact ⟨below_drew1 (Below.refl _ _), hd0, hd1, hd2, hd3, hd4, hd5⟩
        | exact ⟨below_drew1 (below_alloc (Below.refl _ _) _), HK5.out.1, HK5.out.2.1, HK5.out.2.2.1, HK5.out.2.2.2.1, HK5.out.2.2.2.2.1, HK5.out.2.2.2.2.2⟩
        | (go_split_ands; refine ⟨below_step (by assumption) hB, ?_, ?_, ?_, ?_, ?_, ?_⟩ <;> exact (hB.cell (World.block_lt_of_cell? _ _ (by assumption))).trans (by assumption))
        | (refine ⟨below_step (by assumption) hB, ?_, ?_, ?_, ?_, ?_, ?_⟩ <;> exact (hB.cell (World.block_lt_of_cell? _ _ (by assumption))).trans (by assumption))
        | (go_split_ands; refine ⟨?_, ?_, ?_, ?_, ?_, ?_, ?_⟩ <;> assumption)
        | (refine ⟨?_, ?_, ?_, ?_, ?_, ?_, ?_⟩ <;> assumption))
      (first
        | (go_at_call 10; refine Calls.mono (read_to bad (some ⟨w4.heap.size, 0, none⟩) 401 (List.replicate 401 z48) ⟨#[]⟩ 5 401 _ ?_ (by rw [List.length_replicate]) (Nat.le_refl _) ?_ (read_err (many_err _ _) (by decide))) ?_; (any_goals (first | exact HC5.out | exact Kd.C_drew HC5.out | exact HG.out.below (below_step HBc.out HB5.out) | exact HG.out.below (below_step HBc.out (below_drew1 HB5.out)) | skip)); rintro e w6 ⟨rfl, hB⟩))
    go_upto_region 33 with fail
    have hW6 := And.left ‹Below w4.heap.size w4 w6 ∧ _›
    obtain ⟨w7, h7⟩ : ∃ w7, w7 = w6 := ⟨_, rfl⟩
    subst h7
    have n1_ := Aside0.mk (below_step HBc.out hW6)
    have n2_ := Aside0.mk (blk_below GS.out hW6)
    have n3_ := Aside0.mk (blk_below GBad.out hW6)
    clear hW6 HBc GS GBad GBb hbz hb0 hb1 hb2 HB5 HK5 HC5
    clear hsz hs0 hs1 hs2 hs3 hs4 hs5 hdz hd0 hd1 hd2 hd3 hd4 hd5
    have HBc := n1_
    have GS := n2_
    have GBad := n3_
    clear n1_ n2_ n3_
    clear ‹Below w4.heap.size w4 w7 ∧ _›
    have hsz : w1.heap.size < (w7).heap.size := blk_lt (GS.out); have hs0 : (w7).cell? ⟨w1.heap.size, 0, none⟩ = some (.int .i64 s.f0) := (blk_cell (GS.out) 0).trans rfl; have hs1 : (w7).cell? ⟨w1.heap.size, 1, none⟩ = some (.int .i64 s.f1) := (blk_cell (GS.out) 1).trans rfl; have hs2 : (w7).cell? ⟨w1.heap.size, 2, none⟩ = some (.int .i64 s.f2) := (blk_cell (GS.out) 2).trans rfl; have hs3 : (w7).cell? ⟨w1.heap.size, 3, none⟩ = some (.int .i64 s.f3) := (blk_cell (GS.out) 3).trans rfl; have hs4 : (w7).cell? ⟨w1.heap.size, 4, none⟩ = some (.int .i64 s.f4) := (blk_cell (GS.out) 4).trans rfl; have hs5 : (w7).cell? ⟨w1.heap.size, 5, none⟩ = some (.int .i64 s.f5) := (blk_cell (GS.out) 5).trans rfl; have hdz : w1.heap.size + 1 < (w7).heap.size := blk_lt (GBad.out); have hd0 : (w7).cell? ⟨w1.heap.size + 1, 0, none⟩ = some (.int .i64 bad.f0) := (blk_cell (GBad.out) 0).trans rfl; have hd1 : (w7).cell? ⟨w1.heap.size + 1, 1, none⟩ = some (.int .i64 bad.f1) := (blk_cell (GBad.out) 1).trans rfl; have hd2 : (w7).cell? ⟨w1.heap.size + 1, 2, none⟩ = some (.int .i64 bad.f2) := (blk_cell (GBad.out) 2).trans rfl; have hd3 : (w7).cell? ⟨w1.heap.size + 1, 3, none⟩ = some (.int .i64 bad.f3) := (blk_cell (GBad.out) 3).trans rfl; have hd4 : (w7).cell? ⟨w1.heap.size + 1, 4, none⟩ = some (.int .i64 bad.f4) := (blk_cell (GBad.out) 4).trans rfl; have hd5 : (w7).cell? ⟨w1.heap.size + 1, 5, none⟩ = some (.int .i64 bad.f5) := (blk_cell (GBad.out) 5).trans rfl
    by_cases hx : way % 12 < 9
    · have hx9 : decide (9 ≤ way % 12) = false := decide_eq_false (by omega)
      have hbad : decide (rightP bad) = false := decide_eq_false (by rcases HW.out with h | h; exact h.2; omega)
      have HBAD := Aside0.mk hbad
      clear hbad
      go_wp2_with (first
        | (go_at_call 15; (with_reducible refine (right_to bad _ _ HBAD.out).mono ?_); rintro e w8 ⟨rfl, hB⟩; have n1_ := Aside0.mk (below_step HBc.out hB); have n2_ := Aside0.mk (blk_below GS.out hB); have n3_ := Aside0.mk (blk_below GBad.out hB); clear hB HBc GS GBad; clear hsz hs0 hs1 hs2 hs3 hs4 hs5 hdz hd0 hd1 hd2 hd3 hd4 hd5; have HBc := n1_; have GS := n2_; have GBad := n3_; clear n1_ n2_ n3_; have hsz : w1.heap.size < (w8).heap.size := blk_lt (GS.out); have hs0 : (w8).cell? ⟨w1.heap.size, 0, none⟩ = some (.int .i64 s.f0) := (blk_cell (GS.out) 0).trans rfl; have hs1 : (w8).cell? ⟨w1.heap.size, 1, none⟩ = some (.int .i64 s.f1) := (blk_cell (GS.out) 1).trans rfl; have hs2 : (w8).cell? ⟨w1.heap.size, 2, none⟩ = some (.int .i64 s.f2) := (blk_cell (GS.out) 2).trans rfl; have hs3 : (w8).cell? ⟨w1.heap.size, 3, none⟩ = some (.int .i64 s.f3) := (blk_cell (GS.out) 3).trans rfl; have hs4 : (w8).cell? ⟨w1.heap.size, 4, none⟩ = some (.int .i64 s.f4) := (blk_cell (GS.out) 4).trans rfl; have hs5 : (w8).cell? ⟨w1.heap.size, 5, none⟩ = some (.int .i64 s.f5) := (blk_cell (GS.out) 5).trans rfl; have hdz : w1.heap.size + 1 < (w8).heap.size := blk_lt (GBad.out); have hd0 : (w8).cell? ⟨w1.heap.size + 1, 0, none⟩ = some (.int .i64 bad.f0) := (blk_cell (GBad.out) 0).trans rfl; have hd1 : (w8).cell? ⟨w1.heap.size + 1, 1, none⟩ = some (.int .i64 bad.f1) := (blk_cell (GBad.out) 1).trans rfl; have hd2 : (w8).cell? ⟨w1.heap.size + 1, 2, none⟩ = some (.int .i64 bad.f2) := (blk_cell (GBad.out) 2).trans rfl; have hd3 : (w8).cell? ⟨w1.heap.size + 1, 3, none⟩ = some (.int .i64 bad.f3) := (blk_cell (GBad.out) 3).trans rfl; have hd4 : (w8).cell? ⟨w1.heap.size + 1, 4, none⟩ = some (.int .i64 bad.f4) := (blk_cell (GBad.out) 4).trans rfl; have hd5 : (w8).cell? ⟨w1.heap.size + 1, 5, none⟩ = some (.int .i64 bad.f5) := (blk_cell (GBad.out) 5).trans rfl)
        | (go_at_call 15; (with_reducible refine (right_to s _ _ (decide_eq_true HR.out)).mono ?_); rintro e w9 ⟨rfl, hB⟩; have n1_ := Aside0.mk (below_step HBc.out hB); have n2_ := Aside0.mk (blk_below GS.out hB); have n3_ := Aside0.mk (blk_below GBad.out hB); clear hB HBc GS GBad; clear hsz hs0 hs1 hs2 hs3 hs4 hs5 hdz hd0 hd1 hd2 hd3 hd4 hd5; have HBc := n1_; have GS := n2_; have GBad := n3_; clear n1_ n2_ n3_; have hsz : w1.heap.size < (w9).heap.size := blk_lt (GS.out); have hs0 : (w9).cell? ⟨w1.heap.size, 0, none⟩ = some (.int .i64 s.f0) := (blk_cell (GS.out) 0).trans rfl; have hs1 : (w9).cell? ⟨w1.heap.size, 1, none⟩ = some (.int .i64 s.f1) := (blk_cell (GS.out) 1).trans rfl; have hs2 : (w9).cell? ⟨w1.heap.size, 2, none⟩ = some (.int .i64 s.f2) := (blk_cell (GS.out) 2).trans rfl; have hs3 : (w9).cell? ⟨w1.heap.size, 3, none⟩ = some (.int .i64 s.f3) := (blk_cell (GS.out) 3).trans rfl; have hs4 : (w9).cell? ⟨w1.heap.size, 4, none⟩ = some (.int .i64 s.f4) := (blk_cell (GS.out) 4).trans rfl; have hs5 : (w9).cell? ⟨w1.heap.size, 5, none⟩ = some (.int .i64 s.f5) := (blk_cell (GS.out) 5).trans rfl; have hdz : w1.heap.size + 1 < (w9).heap.size := blk_lt (GBad.out); have hd0 : (w9).cell? ⟨w1.heap.size + 1, 0, none⟩ = some (.int .i64 bad.f0) := (blk_cell (GBad.out) 0).trans rfl; have hd1 : (w9).cell? ⟨w1.heap.size + 1, 1, none⟩ = some (.int .i64 bad.f1) := (blk_cell (GBad.out) 1).trans rfl; have hd2 : (w9).cell? ⟨w1.heap.size + 1, 2, none⟩ = some (.int .i64 bad.f2) := (blk_cell (GBad.out) 2).trans rfl; have hd3 : (w9).cell? ⟨w1.heap.size + 1, 3, none⟩ = some (.int .i64 bad.f3) := (blk_cell (GBad.out) 3).trans rfl; have hd4 : (w9).cell? ⟨w1.heap.size + 1, 4, none⟩ = some (.int .i64 bad.f4) := (blk_cell (GBad.out) 4).trans rfl; have hd5 : (w9).cell? ⟨w1.heap.size + 1, 5, none⟩ = some (.int .i64 bad.f5) := (blk_cell (GBad.out) 5).trans rfl)
        | (go_at_call 9; refine (awake_walk _ (HG.out.below HBc.out)).mono ?_; rintro e w10 ⟨rfl, hB⟩; have n1_ := Aside0.mk (below_step HBc.out hB); clear hB))
      go_ret
      exact ⟨rfl, n1_.out⟩
    · have hx9 : decide (9 ≤ way % 12) = true := decide_eq_true (by omega)
      go_wp2_with (first
        | (go_at_call 15; (with_reducible refine (right_to s _ _ (decide_eq_true HR.out)).mono ?_); rintro e w9 ⟨rfl, hB⟩; have n1_ := Aside0.mk (below_step HBc.out hB); have n2_ := Aside0.mk (blk_below GS.out hB); have n3_ := Aside0.mk (blk_below GBad.out hB); clear hB HBc GS GBad; clear hsz hs0 hs1 hs2 hs3 hs4 hs5 hdz hd0 hd1 hd2 hd3 hd4 hd5; have HBc := n1_; have GS := n2_; have GBad := n3_; clear n1_ n2_ n3_; have hsz : w1.heap.size < (w9).heap.size := blk_lt (GS.out); have hs0 : (w9).cell? ⟨w1.heap.size, 0, none⟩ = some (.int .i64 s.f0) := (blk_cell (GS.out) 0).trans rfl; have hs1 : (w9).cell? ⟨w1.heap.size, 1, none⟩ = some (.int .i64 s.f1) := (blk_cell (GS.out) 1).trans rfl; have hs2 : (w9).cell? ⟨w1.heap.size, 2, none⟩ = some (.int .i64 s.f2) := (blk_cell (GS.out) 2).trans rfl; have hs3 : (w9).cell? ⟨w1.heap.size, 3, none⟩ = some (.int .i64 s.f3) := (blk_cell (GS.out) 3).trans rfl; have hs4 : (w9).cell? ⟨w1.heap.size, 4, none⟩ = some (.int .i64 s.f4) := (blk_cell (GS.out) 4).trans rfl; have hs5 : (w9).cell? ⟨w1.heap.size, 5, none⟩ = some (.int .i64 s.f5) := (blk_cell (GS.out) 5).trans rfl; have hdz : w1.heap.size + 1 < (w9).heap.size := blk_lt (GBad.out); have hd0 : (w9).cell? ⟨w1.heap.size + 1, 0, none⟩ = some (.int .i64 bad.f0) := (blk_cell (GBad.out) 0).trans rfl; have hd1 : (w9).cell? ⟨w1.heap.size + 1, 1, none⟩ = some (.int .i64 bad.f1) := (blk_cell (GBad.out) 1).trans rfl; have hd2 : (w9).cell? ⟨w1.heap.size + 1, 2, none⟩ = some (.int .i64 bad.f2) := (blk_cell (GBad.out) 2).trans rfl; have hd3 : (w9).cell? ⟨w1.heap.size + 1, 3, none⟩ = some (.int .i64 bad.f3) := (blk_cell (GBad.out) 3).trans rfl; have hd4 : (w9).cell? ⟨w1.heap.size + 1, 4, none⟩ = some (.int .i64 bad.f4) := (blk_cell (GBad.out) 4).trans rfl; have hd5 : (w9).cell? ⟨w1.heap.size + 1, 5, none⟩ = some (.int .i64 bad.f5) := (blk_cell (GBad.out) 5).trans rfl)
        | (go_at_call 9; refine (awake_walk _ (HG.out.below HBc.out)).mono ?_; rintro e w10 ⟨rfl, hB⟩; have n1_ := Aside0.mk (below_step HBc.out hB); clear hB))
      go_ret
      exact ⟨rfl, n1_.out⟩
end Go.Proofs.YtadojakbfpdjjaaDoor.Px
