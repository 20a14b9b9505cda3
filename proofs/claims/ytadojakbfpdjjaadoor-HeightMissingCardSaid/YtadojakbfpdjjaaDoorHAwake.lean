/-
  The examples of the chapter: awake answers true.
-/
import Derived.Test.YtadojakbfpdjjaaDoorHRows
namespace Go.Proofs.YtadojakbfpdjjaaDoor.Px
open Go.RowKit Go.Maps Go.Proofs.YtadojakbfpdjjaaDoorW.PrintWords Go.Proofs.YtadojakbfpdjjaaDoorW.PrintLast Go.Proofs.YtadojakbfpdjjaaDoorW.PrintMore

def exS : Stp := ⟨4, 10, 20, 5, 8, 12⟩
def exL : List Bar := [⟨71, 9, 0⟩, ⟨10, 12, 8⟩, ⟨34, 3, 20⟩]
def exA : List Bar := [⟨71, 9, 0⟩, ⟨10, 12, 8⟩, ⟨34, 3, 20⟩, ⟨36, 0, 0⟩]
def exB : List Bar := [⟨71, 9, 0⟩, ⟨10, 12, 8⟩, ⟨34, 3, 20⟩, ⟨30, 0, 0⟩]
def exD : List Bar := [⟨10, 12, 8⟩, ⟨30, 8, 8⟩, ⟨70, 12, 12⟩]
theorem ex_read : readL exS exL = (⟨#[65, 68, 63, 63]⟩, 0) := by kernel_rfl
theorem ex_margin : marginL exS exL = (0, 0) := by kernel_rfl
theorem ex_two : readL exS exA = (⟨#[]⟩, 210) := by kernel_rfl
theorem ex_near : readL exS exB = (⟨#[]⟩, 210) := by kernel_rfl
theorem ex_draw : drawL exS [65, 84, 63, 70] = (exD, 0) := by kernel_rfl
theorem ex_same : letterbaglaw21_same.f 5 exD exD = some true := by kernel_rfl

theorem example_any (w : World) : Calls Tryd.prog 24 #[] w fun e w' => e = .returned (.agg #[.int .i64 exS.f0, .int .i64 exS.f1, .int .i64 exS.f2, .int .i64 exS.f3, .int .i64 exS.f4, .int .i64 exS.f5]) ∧ Below w.heap.size w w' := letterbaglaw21_example.calls 4 10 20 5 8 12 w rfl

theorem row_four {w : World} {base : Nat} {v : Value} {l m : List Bar} (h : RB w base v l) (hm : l = m) (hn : m.length = 4) : ∃ A c, v = .slice A 4 c ∧ 4 ≤ c ∧ CB w A m := by
  subst hm
  obtain ⟨A, c, h1, h2, h3⟩ := CB_of_RB h
  rw [hn] at h1 h2
  exact ⟨A, c, h1, h2, h3⟩
theorem row_three {w : World} {base : Nat} {v : Value} {l : List Bar} (h : RB w base v l) (hn : l.length = 3) : ∃ A c, v = .slice A 3 c ∧ 3 ≤ c ∧ CB w A l := by
  obtain ⟨A, c, h1, h2, h3⟩ := CB_of_RB h
  rw [hn] at h1 h2
  exact ⟨A, c, h1, h2, h3⟩
theorem read_to (s : Stp) (A : Option Addr) (c : Nat) (l : List Bar) (t : ByteArray) (n : Int) (m : Nat) (w : World) (hl : CB w A l) (hm : l.length = m) (hc : m ≤ c) (hgl : GL w) (h : readL s l = (t, n)) :
    Calls Tryd.prog 10 #[.agg #[.int .i64 s.f0, .int .i64 s.f1, .int .i64 s.f2, .int .i64 s.f3, .int .i64 s.f4, .int .i64 s.f5], .slice A m c] w fun e w' => e = .returned (.tuple #[.string t, .int .i64 n]) ∧ Below w.heap.size w w' := by
  subst hm
  have := read_walk s A c l w hl hc hgl
  rw [h] at this
  exact this

set_option maxHeartbeats 1000000 in
set_option maxRecDepth 100000 in
theorem awake_walk (w : World) (hgl : GL w) : Calls Tryd.prog 9 #[] w fun e w' => e = .returned (.bool true) ∧ Below w.heap.size w w' := by
  have HG := Aside0.mk hgl
  clear hgl
  go_enter Tryd.func9, Tryd.ntmps9
  go_upto_region 2 with fail
  have hl0 : RB (w.alloc (.cells (flatB exL).toArray 48 (0, 0))) w.heap.size (.slice (some ⟨w.heap.size, 0, none⟩) 3 3) exL := RB_block (l := exL) (blk_new w _) rfl (Nat.le_refl _) (by decide)
  have HLN := Aside0.mk (show Below w.heap.size w (w.alloc (.cells (flatB exL).toArray 48 (0, 0))) from below_alloc (Below.refl _ _) _)
  obtain ⟨A0, c0, e0, _, hC0⟩ := CB_of_RB hl0
  cases e0
  have HL := Aside0.mk hC0
  have HW := Aside0.mk (Below.refl (w.alloc (.cells (flatB exL).toArray 48 (0, 0))).heap.size (w.alloc (.cells (flatB exL).toArray 48 (0, 0))))
  have HGL := Aside0.mk (HG.out.below HLN.out)
  clear hl0 hC0
  show Code.wp _ _ _ _ (w.alloc (.cells (flatB exL).toArray 48 (0, 0)))
  generalize (w.alloc (.cells (flatB exL).toArray 48 (0, 0))) = wl at HL HW HGL HLN ⊢
  have HR1 := Aside0.mk (fun W (hb : Below wl.heap.size wl W) => read_walk exS (some ⟨w.heap.size, 0, none⟩) 3 exL W (Kd.C_below HL.out hb) (Nat.le_refl _) (HGL.out.below hb))
  have HM1 := Aside0.mk (fun W (hb : Below wl.heap.size wl W) => margin_walk exS (some ⟨w.heap.size, 0, none⟩) 3 exL W (Kd.C_below HL.out hb) (Nat.le_refl _))
  have HD1 := Aside0.mk (fun W => draw_walk exS [65, 84, 63, 70] W (by decide))
  rw [ex_read] at HR1
  rw [ex_margin] at HM1
  rw [ex_draw] at HD1
  have HSM := Aside0.mk (fun (A4 : Option Addr) (c4 : Nat) (A5 : Option Addr) (W : World) (h1 : CB W A4 exD) (h2 : 3 ≤ c4) (h3 : CB W A5 exD) => letterbaglaw21_same.calls 5 A4 c4 exD A5 3 exD true W h1 h2 h3 (Nat.le_refl _) ex_same)
  go_upto_region 3 with (first | (go_at_call 24; refine (example_any _).mono ?_; rintro e w1 ⟨rfl, hb⟩; have n1_ := Aside0.mk (below_step (by repeat (first | (with_reducible first | exact HW.out | apply below_alloc | apply pw_below_drewN | apply below_drew1) | exact HW.out)) hb); clear hb HW; have HW := n1_; clear n1_) | (go_at_call 10; refine (HR1.out _ (by repeat (first | (with_reducible first | exact HW.out | apply below_alloc | apply pw_below_drewN | apply below_drew1) | exact HW.out))).mono ?_; rintro e w1 ⟨rfl, hb⟩; have n1_ := Aside0.mk (below_step (by repeat (first | (with_reducible first | exact HW.out | apply below_alloc | apply pw_below_drewN | apply below_drew1) | exact HW.out)) hb); clear hb HW; have HW := n1_; clear n1_))
  go_upto_region 4 with (first | (go_at_call 24; refine (example_any _).mono ?_; rintro e w1 ⟨rfl, hb⟩; have n1_ := Aside0.mk (below_step (by repeat (first | (with_reducible first | exact HW.out | apply below_alloc | apply pw_below_drewN | apply below_drew1) | exact HW.out)) hb); clear hb HW; have HW := n1_; clear n1_) | (go_at_call 11; refine (HM1.out _ (by repeat (first | (with_reducible first | exact HW.out | apply below_alloc | apply pw_below_drewN | apply below_drew1) | exact HW.out))).mono ?_; rintro e w1 ⟨rfl, hb⟩; have n1_ := Aside0.mk (below_step (by repeat (first | (with_reducible first | exact HW.out | apply below_alloc | apply pw_below_drewN | apply below_drew1) | exact HW.out)) hb); clear hb HW; have HW := n1_; clear n1_))
  go_upto_region 5 with (first | (go_at_call 24; refine (example_any _).mono ?_; rintro e w1 ⟨rfl, hb⟩; have n1_ := Aside0.mk (below_step (by repeat (first | (with_reducible first | exact HW.out | apply below_alloc | apply pw_below_drewN | apply below_drew1) | exact HW.out)) hb); clear hb HW; have HW := n1_; clear n1_) | (at_builtin; refine bar_append_grows _ rfl (.tmp 30) (.tmp 32) rfl (some ⟨w.heap.size, 0, none⟩) 3 exL rfl (by decide) (Kd.C_below HL.out (below_alloc HW.out _)) w1.heap.size [⟨36, 0, 0⟩] rfl (CB_block (l := [⟨36, 0, 0⟩]) (blk_new w1 _) rfl (by decide)) (by decide) (by decide) ?_; intro v2 w2 hr hg; obtain ⟨A2, c2, e2, hl2, hC2⟩ := row_four hr (show _ = exA from rfl) rfl; subst e2; have n1_ := Aside0.mk (Below.grown (below_alloc HW.out _) hg (below_size (below_alloc HW.out _)) (fun k hk => by cases hk)); have HC2 := Aside0.mk hC2; have HL2 := Aside0.mk hl2; clear hr hg hC2 hl2 HW; have HW := n1_; clear n1_) | (go_at_call 10; refine (read_to exS A2 c2 exA _ _ 4 _ HC2.out rfl HL2.out (HGL.out.below HW.out) ex_two).mono ?_; rintro e w3 ⟨rfl, hb⟩; have n1_ := Aside0.mk (below_step HW.out hb); clear hb HW HC2; have HW := n1_; clear n1_))
  go_upto_region 6 with (first | (go_at_call 24; refine (example_any _).mono ?_; rintro e w1 ⟨rfl, hb⟩; have n1_ := Aside0.mk (below_step (by repeat (first | (with_reducible first | exact HW.out | apply below_alloc | apply pw_below_drewN | apply below_drew1) | exact HW.out)) hb); clear hb HW; have HW := n1_; clear n1_) | (at_builtin; refine bar_append_grows _ rfl (.tmp 39) (.tmp 41) rfl (some ⟨w.heap.size, 0, none⟩) 3 exL rfl (by decide) (Kd.C_below HL.out (below_alloc HW.out _)) w1.heap.size [⟨30, 0, 0⟩] rfl (CB_block (l := [⟨30, 0, 0⟩]) (blk_new w1 _) rfl (by decide)) (by decide) (by decide) ?_; intro v2 w2 hr hg; obtain ⟨A2, c2, e2, hl2, hC2⟩ := row_four hr (show _ = exB from rfl) rfl; subst e2; have n1_ := Aside0.mk (Below.grown (below_alloc HW.out _) hg (below_size (below_alloc HW.out _)) (fun k hk => by cases hk)); have HC2 := Aside0.mk hC2; have HL2 := Aside0.mk hl2; clear hr hg hC2 hl2 HW; have HW := n1_; clear n1_) | (go_at_call 10; refine (read_to exS A2 c2 exB _ _ 4 _ HC2.out rfl HL2.out (HGL.out.below HW.out) ex_near).mono ?_; rintro e w3 ⟨rfl, hb⟩; have n1_ := Aside0.mk (below_step HW.out hb); clear hb HW HC2; have HW := n1_; clear n1_))
  go_upto_region 7 with (first | (go_at_call 24; refine (example_any _).mono ?_; rintro e w1 ⟨rfl, hb⟩; have n1_ := Aside0.mk (below_step (by repeat (first | (with_reducible first | exact HW.out | apply below_alloc | apply pw_below_drewN | apply below_drew1) | exact HW.out)) hb); clear hb HW; have HW := n1_; clear n1_) | (go_at_call 18; refine (HD1.out _).mono ?_; rintro e w4 ⟨v4, rfl, hr, hb⟩; obtain ⟨A4, c4, e4, hl4, hC4⟩ := row_three hr rfl; subst e4; have n1_ := Aside0.mk (below_step HW.out hb); have HC4 := Aside0.mk hC4; have HL4 := Aside0.mk hl4; clear hr hb hC4 hl4 HW; have HW := n1_; clear n1_))
  go_wp2_with (first | (go_at_call 17; refine (HSM.out A4 c4 (some ⟨w4.heap.size, 0, none⟩) _ (Kd.C_below HC4.out (below_alloc (Below.refl _ _) _)) HL4.out (CB_block (l := exD) (blk_new w4 _) rfl (by decide))).mono ?_; rintro e w5 ⟨rfl, ⟨⟨nd, rfl⟩⟩⟩))
  go_ret
  exact ⟨rfl, below_step HLN.out (pw_below_drewN (below_alloc HW.out _) nd)⟩
end Go.Proofs.YtadojakbfpdjjaaDoor.Px
