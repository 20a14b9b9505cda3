/-
  height.place: the bars by their places, or what is wrong with them.
-/
import Derived.Test.YtadojakbfpdjjaaDoorHMap
namespace Go.Proofs.YtadojakbfpdjjaaDoor.Px
open Go.RowKit Go.Maps Go.Proofs.YtadojakbfpdjjaaDoorW.PrintWords Go.Proofs.YtadojakbfpdjjaaDoorW.PrintLast Go.Proofs.YtadojakbfpdjjaaDoorW.PrintMore

theorem errL_5 {s : Stp} {l : List Bar} (h : 400 < l.length) : errL s l = 5 := if_pos h
theorem errL_2 {s : Stp} {l : List Bar} (h : ¬ 400 < l.length) (hs : ¬ rightP s) : errL s l = 2 := by unfold errL; rw [if_neg h, if_neg hs]
theorem errL_bar {s : Stp} {l : List Bar} (h : ¬ 400 < l.length) (hs : rightP s) (hb : ¬ ∀ b ∈ l, okBar b) : errL s l = 2 := by unfold errL; rw [if_neg h, if_pos hs, if_neg hb]
theorem errL_210 {s : Stp} {l : List Bar} (h : ¬ 400 < l.length) (hs : rightP s) (hb : ∀ b ∈ l, okBar b) (hg : ¬ goodL s l) : errL s l = 210 := by unfold errL; rw [if_neg h, if_pos hs, if_pos hb, if_neg hg]
theorem errL_0 {s : Stp} {l : List Bar} (h : ¬ 400 < l.length) (hs : rightP s) (hb : ∀ b ∈ l, okBar b) (hg : goodL s l) : errL s l = 0 := by unfold errL; rw [if_neg h, if_pos hs, if_pos hb, if_pos hg]

/-- What place answers. -/
def PlaceEnd (s : Stp) (l : List Bar) (w : World) (e : Ending) (w' : World) : Prop :=
  Below w.heap.size w w' ∧ ((errL s l ≠ 0 ∧ e = .returned (.tuple #[.map none, .int .i64 (errL s l)])) ∨
    (errL s l = 0 ∧ ∃ m D, e = .returned (.tuple #[.map (some m), .int .i64 0]) ∧ w.heap.size ≤ m ∧ owns w' m l.length D ∧ MapIs s l D))

theorem right_any (s : Stp) (w : World) : Calls Tryd.prog 15 #[.agg #[.int .i64 s.f0, .int .i64 s.f1, .int .i64 s.f2, .int .i64 s.f3, .int .i64 s.f4, .int .i64 s.f5]] w fun e w' => e = .returned (.bool (decide (rightP s))) ∧ Below w.heap.size w w' :=
  height_Right.calls s.f0 s.f1 s.f2 s.f3 s.f4 s.f5 _ w (right_f s)

set_option maxHeartbeats 8000000 in
set_option maxRecDepth 100000 in
theorem place_walk (s : Stp) (A : Option Addr) (c : Nat) (l : List Bar) (w : World) (hl : Kd.C k48 w A l.length l) (hc : l.length ≤ c) :
    Calls Tryd.prog 25 #[.agg #[.int .i64 s.f0, .int .i64 s.f1, .int .i64 s.f2, .int .i64 s.f3, .int .i64 s.f4, .int .i64 s.f5], .slice A l.length c] w (PlaceEnd s l w) := by
  have HL := Aside0.mk hl
  have HC := Aside0.mk hc
  clear hl hc
  by_cases h4 : 400 < l.length
  · have h5 := errL_5 (s := s) h4
    have H5 := Aside0.mk h5
    have h6 : decide (400 < (l.length : Int)) = true := decide_eq_true (by omega)
    clear h5
    go_enter Tryd.func25, Tryd.ntmps25
    go_wp2_with fail
    go_ret2
    exact ⟨(Below.refl _ _).alloc (Nat.le_refl _) _, .inl ⟨by rw [H5.out]; decide, by rw [H5.out]; rfl⟩⟩
  · by_cases hs : rightP s
    · have hde : decide (rightP s) = true := decide_eq_true hs
      have HS := Aside0.mk hs
      clear hs
      have hmm := @run_makeMap Tryd.prog
      go_enter Tryd.func25, Tryd.ntmps25
      go_wp2_with (go_at_call 15; refine (right_any s _).mono ?_; rw [hde]; rintro e w1 ⟨rfl, hb⟩; have HB1 := Aside0.mk (below_step (below_alloc (Below.refl _ _) _) hb); have BK := Aside0.mk (blk_below (blk_new w _) hb); clear hb)
      have GB : Aside0 (w1.heap[w.heap.size]? = some (.cells #[.int .i64 s.f0, .int .i64 s.f1, .int .i64 s.f2, .int .i64 s.f3, .int .i64 s.f4, .int .i64 s.f5] 23 (0, 0))) := BK
      clear BK
      go_loopw [24] (fun v24 wr => ∃ k : Nat, k ≤ l.length ∧ v24 = .int .i64 (k : Int) ∧ Aside0 (∀ b ∈ l.take k, okBar b) ∧ Aside0 (wr.heap[w.heap.size]? = some (.cells #[.int .i64 s.f0, .int .i64 s.f1, .int .i64 s.f2, .int .i64 s.f3, .int .i64 s.f4, .int .i64 s.f5] 23 (0, 0))) ∧ Aside0 (Below w.heap.size w wr)) (fun v24 _ => l.length - (intOf v24).toNat)
      case atStart => exact ⟨0, Nat.zero_le _, rfl, ⟨fun b hb => by simp at hb⟩, GB, HB1⟩
      case round =>
        clear GB HB1
        obtain ⟨k, hk, rfl, HO, GB, HB⟩ := hrel
        by_cases hlt : k < l.length
        · obtain ⟨ad, rfl, hc0, hc1, hc2⟩ := at_bar HL.out k hlt
          replace hc0 := (HB.out.cell (World.block_lt_of_cell? w _ hc0)).trans hc0
          replace hc1 := (HB.out.cell (World.block_lt_of_cell? w _ hc1)).trans hc1
          replace hc2 := (HB.out.cell (World.block_lt_of_cell? w _ hc2)).trans hc2
          obtain ⟨b, hb⟩ : ∃ b, b = l[k] := ⟨_, rfl⟩
          rw [← hb] at hc0 hc1 hc2
          have HBk := Aside0.mk hb
          clear hb
          by_cases ho : okBar b
          · have hw0 : decide (0 ≤ b.f0 ∧ b.f0 ≤ 1073741824) = true := decide_eq_true ho.1
            have hw1 : decide (0 ≤ b.f1 ∧ b.f1 ≤ 1048576) = true := decide_eq_true ho.2.1
            have hw2 : decide (0 ≤ b.f2 ∧ b.f2 ≤ 1048576) = true := decide_eq_true ho.2.2
            have HOb := Aside0.mk ho
            clear ho
            go_wp2_with (go_at_call 35; refine (within_any _ _ _ _).mono ?_; rintro e w2 ⟨rfl, rfl⟩)
            go_roundw
            case rel => 
              refine ⟨k + 1, by omega, by go_num, ⟨fun c hc => ?_⟩, ⟨blk_alloc GB.out _⟩, ⟨below_alloc HB.out _⟩⟩
              rw [← List.take_append_getElem hlt, List.mem_append, List.mem_singleton] at hc
              rcases hc with hc | hc
              · exact HO.out c hc
              · rw [hc, ← HBk.out]; exact HOb.out
            case measure => simp [intOf]; omega
          · have he := errL_bar (l := l) h4 HS.out (fun h => ho (by rw [HBk.out]; exact h _ (List.getElem_mem hlt)))
            have HE := Aside0.mk he
            clear he
            by_cases h0 : 0 ≤ b.f0 ∧ b.f0 ≤ 1073741824
            · have hw0 : decide (0 ≤ b.f0 ∧ b.f0 ≤ 1073741824) = true := decide_eq_true h0
              by_cases h1 : 0 ≤ b.f1 ∧ b.f1 ≤ 1048576
              · have hw1 : decide (0 ≤ b.f1 ∧ b.f1 ≤ 1048576) = true := decide_eq_true h1
                have hw2 : decide (0 ≤ b.f2 ∧ b.f2 ≤ 1048576) = false := decide_eq_false (fun h2 => ho ⟨h0, h1, h2⟩)
                clear ho h0 h1
                go_wp2_with (go_at_call 35; refine (within_any _ _ _ _).mono ?_; rintro e w2 ⟨rfl, rfl⟩)
                go_ret2
                exact ⟨below_alloc HB.out _, .inl ⟨by rw [HE.out]; decide, by rw [HE.out]; rfl⟩⟩
              · have hw1 : decide (0 ≤ b.f1 ∧ b.f1 ≤ 1048576) = false := decide_eq_false h1
                clear ho h0 h1
                go_wp2_with (go_at_call 35; refine (within_any _ _ _ _).mono ?_; rintro e w2 ⟨rfl, rfl⟩)
                go_ret2
                exact ⟨below_alloc HB.out _, .inl ⟨by rw [HE.out]; decide, by rw [HE.out]; rfl⟩⟩
            · have hw0 : decide (0 ≤ b.f0 ∧ b.f0 ≤ 1073741824) = false := decide_eq_false h0
              clear ho h0
              go_wp2_with (go_at_call 35; refine (within_any _ _ _ _).mono ?_; rintro e w2 ⟨rfl, rfl⟩)
              go_ret2
              exact ⟨below_alloc HB.out _, .inl ⟨by rw [HE.out]; decide, by rw [HE.out]; rfl⟩⟩
        · have hke : k = l.length := by omega
          subst hke
          have hall := HO.out
          rw [List.take_of_length_le (Nat.le_refl _)] at hall
          have HALL := Aside0.mk hall
          clear hall HO
          go_wp2_with fail
          obtain ⟨M, hM⟩ : ∃ M, wr.heap.size = M := ⟨_, rfl⟩
          have hMlt : w.heap.size < M := by rw [← hM]; exact blk_lt GB.out
          have hmade : owns (wr.alloc (.map #[] 0)) M 0 (.map []) := by rw [← hM]; exact World.ownsMap_made _ _ _ _
          have HMADE := Aside0.mk hmade
          have HMLT := Aside0.mk hMlt
          rw [hM]
          clear hmade hM
          go_loopw [48] (fun v48 wx => ∃ (k : Nat) (D : DU), k ≤ l.length ∧ v48 = .int .i64 (k : Int) ∧ Aside0 (goodL s (l.take k)) ∧ Aside0 (owns wx M k D) ∧ Aside0 (MapIs s (l.take k) D) ∧ Aside0 (wx.heap[w.heap.size]? = some (.cells #[.int .i64 s.f0, .int .i64 s.f1, .int .i64 s.f2, .int .i64 s.f3, .int .i64 s.f4, .int .i64 s.f5] 23 (0, 0))) ∧ Aside0 (Below w.heap.size w wx)) (fun v48 _ => l.length - (intOf v48).toNat)
          case atStart => exact ⟨0, .map [], Nat.zero_le _, rfl, ⟨goodL_nil s⟩, HMADE, ⟨mapIs_nil s⟩, ⟨blk_alloc GB.out _⟩, ⟨below_alloc HB.out _⟩⟩
          case round =>
            clear GB HB HMADE hk
            obtain ⟨k, D, hk, rfl, HG, HOW, HM, GB, HB⟩ := hrel
            by_cases hlt : k < l.length
            · obtain ⟨ad, rfl, hc0, hc1, hc2⟩ := at_bar HL.out k hlt
              replace hc0 := (HB.out.cell (World.block_lt_of_cell? w _ hc0)).trans hc0
              replace hc1 := (HB.out.cell (World.block_lt_of_cell? w _ hc1)).trans hc1
              replace hc2 := (HB.out.cell (World.block_lt_of_cell? w _ hc2)).trans hc2
              obtain ⟨b, hb⟩ : ∃ b, b = l[k] := ⟨_, rfl⟩
              rw [← hb] at hc0 hc1 hc2
              have hob : okBar b := by rw [hb]; exact HALL.out _ (List.getElem_mem hlt)
              have HBk := Aside0.mk hb
              have hgz : w.heap.size < (wr).heap.size := blk_lt (GB.out); have hg0 : (wr).cell? ⟨w.heap.size, 0, none⟩ = some (.int .i64 s.f0) := (blk_cell (GB.out) 0).trans rfl; have hg1 : (wr).cell? ⟨w.heap.size, 1, none⟩ = some (.int .i64 s.f1) := (blk_cell (GB.out) 1).trans rfl; have hg2 : (wr).cell? ⟨w.heap.size, 2, none⟩ = some (.int .i64 s.f2) := (blk_cell (GB.out) 2).trans rfl; have hg3 : (wr).cell? ⟨w.heap.size, 3, none⟩ = some (.int .i64 s.f3) := (blk_cell (GB.out) 3).trans rfl; have hg4 : (wr).cell? ⟨w.heap.size, 4, none⟩ = some (.int .i64 s.f4) := (blk_cell (GB.out) 4).trans rfl; have hg5 : (wr).cell? ⟨w.heap.size, 5, none⟩ = some (.int .i64 s.f5) := (blk_cell (GB.out) 5).trans rfl
              clear hb
              by_cases hon : onB s b
              · have haw := away_on HS.out hob hon
                have hbd := at_bounds HS.out hob hon.1
                have hb0 : -9223372036854775808 ≤ atB s b := by omega
                have hb1 : atB s b ≤ 9223372036854775807 := by omega
                have HAW := Aside0.mk haw
                have HON := Aside0.mk hon
                have HOB := Aside0.mk hob
                clear haw hbd hon hob
                by_cases hna : barAt s (l.take k) (atB s b) = none
                · have hhas := (HM.out (atB s b)).1 hna
                  have HNA := Aside0.mk hna
                  clear hna
                  go_wp2_with (first
                    | (go_at_call 29; refine (height_Setup_away.calls s.f0 s.f1 s.f2 s.f3 s.f4 s.f5 b.f0 b.f1 b.f2 _ _ _ _ HAW.out).mono ?_; rintro e w2 ⟨rfl, hb⟩; have n1_ := Aside0.mk (below_step (below_alloc HB.out _) hb); have n2_ := Aside0.mk (owns_below (HOW.out.alloc _) hb); have n3_ := Aside0.mk (blk_below (blk_alloc GB.out _) hb); have n4_ := Aside0.mk (blk_below (blk_new wr (.cells #[.int .i64 b.f0, .int .i64 b.f1, .int .i64 b.f2] 48 (0, 0))) hb); clear hb HB HOW GB; have HB := n1_; have HOW := n2_; have GB := n3_; clear n1_ n2_ n3_; have hxz : wr.heap.size < (w2).heap.size := blk_lt (n4_.out); have hx0 : (w2).cell? ⟨wr.heap.size, 0, none⟩ = some (.int .i64 b.f0) := (blk_cell (n4_.out) 0).trans rfl; have hx1 : (w2).cell? ⟨wr.heap.size, 1, none⟩ = some (.int .i64 b.f1) := (blk_cell (n4_.out) 1).trans rfl; have hx2 : (w2).cell? ⟨wr.heap.size, 2, none⟩ = some (.int .i64 b.f2) := (blk_cell (n4_.out) 2).trans rfl)
                    | (at_lookup; refine lookup_bar _ rfl _ _ rfl M k D rfl HOW.out (atB s b) hb0 hb1 rfl ?_; intro c hat; clear hat)
                    | (at_mapUpdate; refine wpList_mapUpdate_own _ rfl _ _ _ 67 rfl 3 48 lawK Tryd.underlying67 _ M k D rfl (HOW.out.alloc _) (by unfold maxLen; omega) _ _ _ rfl rfl (keyK (atB s b) hb0 hb1) (encB b) [] rfl ?_; intro w3 hown hgr; have n5_ := Aside0.mk hown; have n6_ := Aside0.mk hgr; clear hown hgr))
                  go_roundw
                  case rel =>
                    have hbk := HBk.out
                    have e1 : l.take (k + 1) = l.take k ++ [b] := by rw [hbk]; exact (List.take_append_getElem hlt).symm
                    refine ⟨k + 1, D.put (.int .i64 (atB s b)) (encB b), by omega, by go_num, ⟨?_⟩, n5_, ⟨?_⟩, ⟨blk_grown (blk_alloc GB.out _) n6_.out (fun h => ?_)⟩, ⟨Below.grown (below_alloc HB.out _) n6_.out (below_size (below_alloc HB.out _)) (fun j h => ?_)⟩⟩
                    · rw [e1]; exact goodL_snoc HG.out HON.out HNA.out
                    · rw [e1]; exact mapIs_put HM.out HOW.out.isMap HNA.out
                    · have := HMLT.out; have := Option.some.inj h; omega
                    · have := HMLT.out; have := Option.some.inj h; omega
                  case measure => simp [intOf]; omega
                · have hgd := errL_210 h4 HS.out HALL.out (goodL_bad hlt (.inr (by rw [← HBk.out]; exact hna)))
                  have hhas : has D (.int .i64 (atB s b)) = true := by
                    obtain ⟨c, hc⟩ := Option.ne_none_iff_exists'.1 hna
                    exact ((HM.out (atB s b)).2 c hc).1
                  have HE := Aside0.mk hgd
                  clear hna hgd
                  go_wp2_with (first
                    | (go_at_call 29; refine (height_Setup_away.calls s.f0 s.f1 s.f2 s.f3 s.f4 s.f5 b.f0 b.f1 b.f2 _ _ _ _ HAW.out).mono ?_; rintro e w2 ⟨rfl, hb⟩; have n1_ := Aside0.mk (below_step (below_alloc HB.out _) hb); have n2_ := Aside0.mk (owns_below (HOW.out.alloc _) hb); have n3_ := Aside0.mk (blk_below (blk_alloc GB.out _) hb); have n4_ := Aside0.mk (blk_below (blk_new wr (.cells #[.int .i64 b.f0, .int .i64 b.f1, .int .i64 b.f2] 48 (0, 0))) hb); clear hb HB HOW GB; have HB := n1_; have HOW := n2_; have GB := n3_; clear n1_ n2_ n3_; have hxz : wr.heap.size < (w2).heap.size := blk_lt (n4_.out); have hx0 : (w2).cell? ⟨wr.heap.size, 0, none⟩ = some (.int .i64 b.f0) := (blk_cell (n4_.out) 0).trans rfl; have hx1 : (w2).cell? ⟨wr.heap.size, 1, none⟩ = some (.int .i64 b.f1) := (blk_cell (n4_.out) 1).trans rfl; have hx2 : (w2).cell? ⟨wr.heap.size, 2, none⟩ = some (.int .i64 b.f2) := (blk_cell (n4_.out) 2).trans rfl)
                    | (at_lookup; refine lookup_bar _ rfl _ _ rfl M k D rfl HOW.out (atB s b) hb0 hb1 rfl ?_; intro c hat; clear hat))
                  go_ret2
                  exact ⟨below_alloc HB.out _, .inl ⟨by rw [HE.out]; decide, by rw [HE.out]; rfl⟩⟩
              · have hgd := errL_210 h4 HS.out HALL.out (goodL_bad hlt (.inl (by rw [← HBk.out]; exact hon)))
                have HE := Aside0.mk hgd
                obtain ⟨ka, da, haw, hb0, hb1⟩ := away_no HS.out hob hon
                have HAW := Aside0.mk haw
                clear hgd haw hob hon
                cases hhas : has D (.int .i64 ka)
                all_goals
                  go_wp2_with (first
                    | (go_at_call 29; refine (height_Setup_away.calls s.f0 s.f1 s.f2 s.f3 s.f4 s.f5 b.f0 b.f1 b.f2 _ _ _ _ HAW.out).mono ?_; rintro e w2 ⟨rfl, hb⟩; have n1_ := Aside0.mk (below_step (below_alloc HB.out _) hb); have n2_ := Aside0.mk (owns_below (HOW.out.alloc _) hb); have n3_ := Aside0.mk (blk_below (blk_alloc GB.out _) hb); have n4_ := Aside0.mk (blk_below (blk_new wr (.cells #[.int .i64 b.f0, .int .i64 b.f1, .int .i64 b.f2] 48 (0, 0))) hb); clear hb HB HOW GB; have HB := n1_; have HOW := n2_; have GB := n3_; clear n1_ n2_ n3_; have hxz : wr.heap.size < (w2).heap.size := blk_lt (n4_.out); have hx0 : (w2).cell? ⟨wr.heap.size, 0, none⟩ = some (.int .i64 b.f0) := (blk_cell (n4_.out) 0).trans rfl; have hx1 : (w2).cell? ⟨wr.heap.size, 1, none⟩ = some (.int .i64 b.f1) := (blk_cell (n4_.out) 1).trans rfl; have hx2 : (w2).cell? ⟨wr.heap.size, 2, none⟩ = some (.int .i64 b.f2) := (blk_cell (n4_.out) 2).trans rfl)
                    | (at_lookup; refine lookup_bar _ rfl _ _ rfl M k D rfl HOW.out ka hb0 hb1 rfl ?_; intro c hat; clear hat))
                  go_ret2
                  exact ⟨below_alloc HB.out _, .inl ⟨by rw [HE.out]; decide, by rw [HE.out]; rfl⟩⟩
            · have hke : k = l.length := by omega
              subst hke
              go_wp2_with fail
              go_ret2
              have hg := HG.out
              have hm := HM.out
              rw [List.take_of_length_le (Nat.le_refl _)] at hg hm
              have he := errL_0 h4 HS.out HALL.out hg
              exact ⟨HB.out, .inr ⟨he, M, D, rfl, Nat.le_of_lt HMLT.out, HOW.out, hm⟩⟩
    · have h6 : decide (400 < (l.length : Int)) = false := decide_eq_false (by omega)
      have hde : decide (rightP s) = false := decide_eq_false hs
      have he := errL_2 h4 hs
      have HE := Aside0.mk he
      clear he hs
      go_enter Tryd.func25, Tryd.ntmps25
      go_wp2_with (go_at_call 15; refine (right_any s _).mono ?_; rw [hde]; rintro e w1 ⟨rfl, hb⟩; have HB1 := Aside0.mk (below_step (below_alloc (Below.refl _ _) _) hb); clear hb)
      go_ret2
      exact ⟨HB1.out, .inl ⟨by rw [HE.out]; decide, by rw [HE.out]; rfl⟩⟩
end Go.Proofs.YtadojakbfpdjjaaDoor.Px
