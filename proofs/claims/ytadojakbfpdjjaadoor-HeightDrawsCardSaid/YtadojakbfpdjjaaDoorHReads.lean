/-
  HeightReads, walked: it answers true.
-/
import Derived.Test.YtadojakbfpdjjaaDoorHAwake
import Derived.Test.YtadojakbfpdjjaaDoorHRef3
namespace Go.Proofs.YtadojakbfpdjjaaDoor.Px
open Go.RowKit Go.Maps Go.Proofs.YtadojakbfpdjjaaDoorW.PrintWords Go.Proofs.YtadojakbfpdjjaaDoorW.PrintLast Go.Proofs.YtadojakbfpdjjaaDoorW.PrintMore

abbrev CR (w : World) (A : Option Addr) (l : List Bar) : Prop := Kd.C k47 w A (m0 l).length (m0 l)
theorem given_any (A : Option Addr) (c : Nat) (l : List Bar) (w : World) (hl : CB w A l) (hc : l.length ≤ c) (hlen : l.length ≤ 1000000) :
    Calls Tryd.prog 13 #[.slice A l.length c] w fun e w' => ∃ A1 c1, e = .returned (.slice A1 l.length c1) ∧ l.length ≤ c1 ∧ CR w' A1 l ∧ Below w.heap.size w w' := by
  obtain ⟨k, hk⟩ := (given_ev l hlen).rounds
  refine (letterbaglaw21_given.calls k A c l _ w hl hc hk).mono ?_
  rintro e w' ⟨v, rfl, hr, hb⟩
  obtain ⟨A1, c1, rfl, h1, h2⟩ := Kd.R_reads hr
  rw [List.length_map] at h1
  exact ⟨A1, c1, by rw [List.length_map], h1, h2, hb⟩
theorem refRead_any (s : Stp) (A : Option Addr) (c : Nat) (l : List Bar) (w : World) (hl : CR w A l) (hc : l.length ≤ c) :
    Calls Tryd.prog 12 #[.agg #[.int .i64 s.f0, .int .i64 s.f1, .int .i64 s.f2, .int .i64 s.f3, .int .i64 s.f4, .int .i64 s.f5], .slice A l.length c] w fun e w' => e = .returned (.tuple #[.string (readL s l).1, .int .i64 (readL s l).2]) ∧ Below w.heap.size w w' := by
  obtain ⟨k, hk⟩ := (refRead_ev s l).rounds
  have := letterbagref21_Read.calls k s.f0 s.f1 s.f2 s.f3 s.f4 s.f5 A c (m0 l) _ _ w hl (by rw [List.length_map]; exact hc) hk
  rw [List.length_map] at this
  exact this
theorem refMargin_any (s : Stp) (A : Option Addr) (c : Nat) (l : List Bar) (w : World) (hl : CR w A l) (hc : l.length ≤ c) :
    Calls Tryd.prog 14 #[.agg #[.int .i64 s.f0, .int .i64 s.f1, .int .i64 s.f2, .int .i64 s.f3, .int .i64 s.f4, .int .i64 s.f5], .slice A l.length c] w fun e w' => e = .returned (.tuple #[.int .i64 (marginL s l).1, .int .i64 (marginL s l).2]) ∧ Below w.heap.size w w' := by
  obtain ⟨k, hk⟩ := (refMargin_ev s l).rounds
  have := letterbagref21_Margin.calls k s.f0 s.f1 s.f2 s.f3 s.f4 s.f5 A c (m0 l) _ _ w hl (by rw [List.length_map]; exact hc) hk
  rw [List.length_map] at this
  exact this
theorem refRight_any (s : Stp) (w : World) : Calls Tryd.prog 16 #[.agg #[.int .i64 s.f0, .int .i64 s.f1, .int .i64 s.f2, .int .i64 s.f3, .int .i64 s.f4, .int .i64 s.f5]] w fun e w' => e = .returned (.bool (decide (rightP s))) ∧ Below w.heap.size w w' :=
  letterbagref21_Right.calls s.f0 s.f1 s.f2 s.f3 s.f4 s.f5 _ w (refRight_f s)
theorem same_any (l : List Bar) (hlen : l.length ≤ 1000000) (A : Option Addr) (c : Nat) (A1 : Option Addr) (c1 : Nat) (w : World) (h : CB w A l) (hc : l.length ≤ c) (h1 : CB w A1 l) (hc1 : l.length ≤ c1) :
    Calls Tryd.prog 17 #[.slice A l.length c, .slice A1 l.length c1] w fun e w' => e = .returned (.bool true) ∧ Below w.heap.size w w' := by
  obtain ⟨k, hk⟩ := (same_ev l hlen).rounds
  refine (letterbaglaw21_same.calls k A c l A1 c1 l true w h hc h1 hc1 hk).mono ?_
  rintro e w' ⟨rfl, ⟨⟨n, rfl⟩⟩⟩
  exact ⟨rfl, pw_below_drewN (Below.refl _ _) n⟩
theorem blk_new2 (w : World) (o p : Obj) : ((w.alloc o).alloc p).heap[w.heap.size + 1]? = some p := by
  have := blk_new (w.alloc o) p
  simpa using this
/-- Bars behind a row of the call's own. -/
theorem bars_append {w0 W : World} {ops : Array Oper} {rest : List Oper} {o : Oper} {a : Act} {Q : Exit → Act → World → Prop} (base : Nat) (hgd : o.guard = none) (s x : Operand)
    (ho : o.op = .call { callee := .builtin .append, args := #[s, x], argTypes := #[24, 24] }) (v : Value) (xs l : List Bar) (A : Option Addr) (c : Nat) (hs : a.eval s = v) (hx : a.eval x = .slice A l.length c)
    (HO : RB W base v xs) (HR : CB W A l) (HB : Below base w0 W) (hbase : base ≤ W.heap.size) (hl : xs.length + l.length ≤ 1000000)
    (h : ∀ v1 w1, RB w1 base v1 (xs ++ l) → Below base w0 w1 → W.grownBy w1 v.ownBlock → wpList Tryd.prog ops Q rest (a.put o.dst v1) w1) : wpList Tryd.prog ops Q (o :: rest) a W :=
  Kd.R_append_rows (P := Tryd.prog) kB (Rr := kB.K W) (w0 := w0) base hgd s x 24 48 (.agg #[(.int .i64 0), (.int .i64 0), (.int .i64 0)]) 24 ho Tryd.underlying24 info48 rfl (by decide) (by omega) v xs l A l.length c (fun _ => True) (fun _ => False) hs hx HO HR
    (fun b cs hK => by obtain rfl := k48_open hK; exact k48_mkM _ _ _ b) (fun _ hk => hk.elim) (fun _ _ => trivial) HB hbase (by omega) (fun v1 w1 a1 a2 a3 _ => h v1 w1 a1 a2 a3)

set_option maxHeartbeats 1000000 in
set_option maxRecDepth 100000 in
theorem reads_walk (s : Stp) (A : Option Addr) (c : Nat) (l : List Bar) (w : World) (hl : CB w A l) (hc : l.length ≤ c) (hgl : GL w) :
    Calls Tryd.prog 3 #[.agg #[.int .i64 s.f0, .int .i64 s.f1, .int .i64 s.f2, .int .i64 s.f3, .int .i64 s.f4, .int .i64 s.f5], .slice A l.length c] w fun e w' => e = .returned (.bool true) ∧ Below w.heap.size w w' := by
  have HL := Aside0.mk hl
  have HC := Aside0.mk hc
  have HG := Aside0.mk hgl
  clear hl hc hgl
  by_cases h4 : 410 < l.length
  · have h6 : decide (410 < (l.length : Int)) = true := decide_eq_true (by omega)
    go_enter Tryd.func3, Tryd.ntmps3
    go_wp2_with (go_at_call 9; refine (awake_walk _ (HG.out.below (below_alloc (Below.refl _ _) _))).mono ?_; rintro e w1 ⟨rfl, hb⟩; have n1_ := Aside0.mk (below_step (below_alloc (Below.refl _ _) _) hb); clear hb)
    go_ret
    exact ⟨rfl, n1_.out⟩
  · have h6 : decide (410 < (l.length : Int)) = false := decide_eq_false (by omega)
    obtain ⟨t, ht⟩ : ∃ t, readL s l = t := ⟨_, rfl⟩
    obtain ⟨m, hm⟩ : ∃ m, marginL s l = m := ⟨_, rfl⟩
    have HR0 := Aside0.mk (fun A c W (h1 : CB W A l) (h2 : l.length ≤ c) (h3 : GL W) => read_walk s A c l W h1 h2 h3)
    have HR1 := Aside0.mk (fun A c W (h1 : CR W A l) (h2 : l.length ≤ c) => refRead_any s A c l W h1 h2)
    have HM0 := Aside0.mk (fun A c W (h1 : CB W A l) (h2 : l.length ≤ c) => margin_walk s A c l W h1 h2)
    have HM1 := Aside0.mk (fun A c W (h1 : CR W A l) (h2 : l.length ≤ c) => refMargin_any s A c l W h1 h2)
    have HP0 := Aside0.mk (fun W => right_any s W)
    have HP1 := Aside0.mk (fun W => refRight_any s W)
    rw [ht] at HR0 HR1
    rw [hm] at HM0 HM1
    generalize decide (rightP s) = b0 at HP0 HP1
    obtain ⟨t0, t1⟩ := t
    obtain ⟨m0', m1⟩ := m
    clear ht hm
    go_enter Tryd.func3, Tryd.ntmps3
    go_upto_region 4 with (first
      | (at_builtin; refine bars_append (w0 := w) w.heap.size rfl (.tmp 19) (.tmp 20) rfl (.slice (some ⟨w.heap.size + 1, 0, none⟩) 0 0) [] l A c rfl rfl ?a1 ?a2 ?a3 ?a4 ?a5 ?_; (case a1 => exact RB_block (l := []) (blk_new2 w _ _) rfl (by omega) (by decide)); (case a2 => exact Kd.C_below HL.out (below_alloc (below_alloc (Below.refl _ _) _) _)); (case a3 => exact below_alloc (below_alloc (Below.refl _ _) _) _); (case a4 => exact below_size (below_alloc (below_alloc (Below.refl _ _) _) _)); (case a5 => simp; omega); intro v1 w1 hr hb hg; obtain ⟨A1, c1, e1, hl1, hC1⟩ := CB_of_RB hr; subst e1; have HI := Aside0.mk hC1; have HIC := Aside0.mk hl1; have HB := Aside0.mk hb; have GB := Aside0.mk (blk_grown (blk_alloc (blk_new w (.cells #[.int .i64 s.f0, .int .i64 s.f1, .int .i64 s.f2, .int .i64 s.f3, .int .i64 s.f4, .int .i64 s.f5] 23 (0, 0))) _) hg (by simp [Value.ownBlock])); clear hr hb hg hC1 hl1)
      | fail)
    rw [List.nil_append] at HI HIC
    have hgz : w.heap.size < (w1).heap.size := blk_lt (GB.out); have hg0 : (w1).cell? ⟨w.heap.size, 0, none⟩ = some (.int .i64 s.f0) := (blk_cell (GB.out) 0).trans rfl; have hg1 : (w1).cell? ⟨w.heap.size, 1, none⟩ = some (.int .i64 s.f1) := (blk_cell (GB.out) 1).trans rfl; have hg2 : (w1).cell? ⟨w.heap.size, 2, none⟩ = some (.int .i64 s.f2) := (blk_cell (GB.out) 2).trans rfl; have hg3 : (w1).cell? ⟨w.heap.size, 3, none⟩ = some (.int .i64 s.f3) := (blk_cell (GB.out) 3).trans rfl; have hg4 : (w1).cell? ⟨w.heap.size, 4, none⟩ = some (.int .i64 s.f4) := (blk_cell (GB.out) 4).trans rfl; have hg5 : (w1).cell? ⟨w.heap.size, 5, none⟩ = some (.int .i64 s.f5) := (blk_cell (GB.out) 5).trans rfl
    go_upto_region 7 with (first
      | (go_at_call 10; refine (HR0.out A1 c1 _ (HI.out) HIC.out (HG.out.below HB.out)).mono ?_; rintro e w2 ⟨rfl, hb⟩; have n1_ := Aside0.mk (below_step HB.out hb); have n2_ := Aside0.mk (Kd.C_below HI.out hb); have n3_ := Aside0.mk (blk_below GB.out hb); clear hb HB HI GB hgz hg0 hg1 hg2 hg3 hg4 hg5; have HB := n1_; have HI := n2_; have GB := n3_; clear n1_ n2_ n3_; have hgz : w.heap.size < (w2).heap.size := blk_lt (GB.out); have hg0 : (w2).cell? ⟨w.heap.size, 0, none⟩ = some (.int .i64 s.f0) := (blk_cell (GB.out) 0).trans rfl; have hg1 : (w2).cell? ⟨w.heap.size, 1, none⟩ = some (.int .i64 s.f1) := (blk_cell (GB.out) 1).trans rfl; have hg2 : (w2).cell? ⟨w.heap.size, 2, none⟩ = some (.int .i64 s.f2) := (blk_cell (GB.out) 2).trans rfl; have hg3 : (w2).cell? ⟨w.heap.size, 3, none⟩ = some (.int .i64 s.f3) := (blk_cell (GB.out) 3).trans rfl; have hg4 : (w2).cell? ⟨w.heap.size, 4, none⟩ = some (.int .i64 s.f4) := (blk_cell (GB.out) 4).trans rfl; have hg5 : (w2).cell? ⟨w.heap.size, 5, none⟩ = some (.int .i64 s.f5) := (blk_cell (GB.out) 5).trans rfl)
      | (go_at_call 11; refine (HM0.out A1 c1 _ (HI.out) HIC.out).mono ?_; rintro e w3 ⟨rfl, hb⟩; have n1_ := Aside0.mk (below_step HB.out hb); have n2_ := Aside0.mk (Kd.C_below HI.out hb); have n3_ := Aside0.mk (blk_below GB.out hb); clear hb HB HI GB hgz hg0 hg1 hg2 hg3 hg4 hg5; have HB := n1_; have HI := n2_; have GB := n3_; clear n1_ n2_ n3_; have hgz : w.heap.size < (w3).heap.size := blk_lt (GB.out); have hg0 : (w3).cell? ⟨w.heap.size, 0, none⟩ = some (.int .i64 s.f0) := (blk_cell (GB.out) 0).trans rfl; have hg1 : (w3).cell? ⟨w.heap.size, 1, none⟩ = some (.int .i64 s.f1) := (blk_cell (GB.out) 1).trans rfl; have hg2 : (w3).cell? ⟨w.heap.size, 2, none⟩ = some (.int .i64 s.f2) := (blk_cell (GB.out) 2).trans rfl; have hg3 : (w3).cell? ⟨w.heap.size, 3, none⟩ = some (.int .i64 s.f3) := (blk_cell (GB.out) 3).trans rfl; have hg4 : (w3).cell? ⟨w.heap.size, 4, none⟩ = some (.int .i64 s.f4) := (blk_cell (GB.out) 4).trans rfl; have hg5 : (w3).cell? ⟨w.heap.size, 5, none⟩ = some (.int .i64 s.f5) := (blk_cell (GB.out) 5).trans rfl))
    have HLW := Aside0.mk (fun W (hb : Below w.heap.size w W) => (Kd.C_below HL.out hb : CB W A l))
    have RB7 := Aside0.mk (blk_new w3 (.cells #[.int .i64 s.f0, .int .i64 s.f1, .int .i64 s.f2, .int .i64 s.f3, .int .i64 s.f4, .int .i64 s.f5] 31 (0, 0)))
    have HBW := Aside0.mk (below_alloc HB.out (.cells #[.int .i64 s.f0, .int .i64 s.f1, .int .i64 s.f2, .int .i64 s.f3, .int .i64 s.f4, .int .i64 s.f5] 31 (0, 0)))
    have HI7 := Aside0.mk (Kd.C_below HI.out (below_alloc (Below.refl _ _) (.cells #[.int .i64 s.f0, .int .i64 s.f1, .int .i64 s.f2, .int .i64 s.f3, .int .i64 s.f4, .int .i64 s.f5] 31 (0, 0))))
    have GB7 := Aside0.mk (blk_alloc GB.out (.cells #[.int .i64 s.f0, .int .i64 s.f1, .int .i64 s.f2, .int .i64 s.f3, .int .i64 s.f4, .int .i64 s.f5] 31 (0, 0)))
    have hgw : w.heap.size < w3.heap.size := hgz
    clear HB HI GB hg0 hg1 hg2 hg3 hg4 hg5 hgz
    show Code.wp _ _ _ _ (w3.alloc (.cells #[.int .i64 s.f0, .int .i64 s.f1, .int .i64 s.f2, .int .i64 s.f3, .int .i64 s.f4, .int .i64 s.f5] 31 (0, 0)))
    generalize (w3.alloc (.cells #[.int .i64 s.f0, .int .i64 s.f1, .int .i64 s.f2, .int .i64 s.f3, .int .i64 s.f4, .int .i64 s.f5] 31 (0, 0))) = W7 at RB7 HBW HI7 GB7 ⊢
    generalize w3.heap.size = g at RB7 hgw ⊢
    have hrz : g < (W7).heap.size := blk_lt (RB7.out); have hr0 : (W7).cell? ⟨g, 0, none⟩ = some (.int .i64 s.f0) := (blk_cell (RB7.out) 0).trans rfl; have hr1 : (W7).cell? ⟨g, 1, none⟩ = some (.int .i64 s.f1) := (blk_cell (RB7.out) 1).trans rfl; have hr2 : (W7).cell? ⟨g, 2, none⟩ = some (.int .i64 s.f2) := (blk_cell (RB7.out) 2).trans rfl; have hr3 : (W7).cell? ⟨g, 3, none⟩ = some (.int .i64 s.f3) := (blk_cell (RB7.out) 3).trans rfl; have hr4 : (W7).cell? ⟨g, 4, none⟩ = some (.int .i64 s.f4) := (blk_cell (RB7.out) 4).trans rfl; have hr5 : (W7).cell? ⟨g, 5, none⟩ = some (.int .i64 s.f5) := (blk_cell (RB7.out) 5).trans rfl
    go_region_held3 (fun W => Below W7.heap.size W7 W ∧ W.cell? ⟨g, 0, none⟩ = some (.int .i64 s.f0) ∧ W.cell? ⟨g, 1, none⟩ = some (.int .i64 s.f1) ∧ W.cell? ⟨g, 2, none⟩ = some (.int .i64 s.f2) ∧ W.cell? ⟨g, 3, none⟩ = some (.int .i64 s.f3) ∧ W.cell? ⟨g, 4, none⟩ = some (.int .i64 s.f4) ∧ W.cell? ⟨g, 5, none⟩ = some (.int .i64 s.f5))
          (first
            | exact ⟨below_drew1 (Below.refl _ _), hr0, hr1, hr2, hr3, hr4, hr5⟩
            | (go_split_ands; refine ⟨below_step (by assumption) hb, ?_, ?_, ?_, ?_, ?_, ?_⟩ <;> exact (hb.cell (World.block_lt_of_cell? _ _ (by assumption))).trans (by assumption))
            | (refine ⟨below_step (by assumption) hb, ?_, ?_, ?_, ?_, ?_, ?_⟩ <;> exact (hb.cell (World.block_lt_of_cell? _ _ (by assumption))).trans (by assumption))
            | (go_split_ands; refine ⟨?_, ?_, ?_, ?_, ?_, ?_, ?_⟩ <;> assumption)
            | (refine ⟨?_, ?_, ?_, ?_, ?_, ?_, ?_⟩ <;> assumption))
          (first
            | (go_at_call 13; refine Calls.mono (given_any A c l _ ?_ HC.out (by omega)) ?_; (any_goals (first | exact Kd.C_below (HLW.out W7 HBW.out) (by assumption) | exact Kd.C_below (HLW.out W7 HBW.out) (below_drew1 (Below.refl _ _)) | skip)); rintro e Wg ⟨Ag, cg, rfl, hcg, hCg, hb⟩; have HCG := Aside0.mk hCg; have HLG := Aside0.mk hcg; clear hCg hcg)
            | (go_at_call 12; refine Calls.mono (HR1.out Ag cg _ ?_ HLG.out) ?_; (any_goals (first | exact HCG.out | skip)); rintro e Wh ⟨rfl, hb⟩))
    go_upto_region 8 with fail
    have hW8 := And.left ‹Below W7.heap.size W7 Wh ∧ _›
    have RB8 := Aside0.mk (blk_below RB7.out hW8)
    have HBW8 := Aside0.mk (below_step HBW.out hW8)
    have HI8 := Aside0.mk (Kd.C_below HI7.out hW8)
    have GB8 := Aside0.mk (blk_below GB7.out hW8)
    obtain ⟨W8, h8⟩ : ∃ W8, W8 = Wh := ⟨_, rfl⟩
    subst h8
    clear HBW HI7 GB7 RB7 hr0 hr1 hr2 hr3 hr4 hr5 hrz hW8 HCG HLG
    clear ‹Below W7.heap.size W7 W8 ∧ _›
    have hrz : g < (W8).heap.size := blk_lt (RB8.out); have hr0 : (W8).cell? ⟨g, 0, none⟩ = some (.int .i64 s.f0) := (blk_cell (RB8.out) 0).trans rfl; have hr1 : (W8).cell? ⟨g, 1, none⟩ = some (.int .i64 s.f1) := (blk_cell (RB8.out) 1).trans rfl; have hr2 : (W8).cell? ⟨g, 2, none⟩ = some (.int .i64 s.f2) := (blk_cell (RB8.out) 2).trans rfl; have hr3 : (W8).cell? ⟨g, 3, none⟩ = some (.int .i64 s.f3) := (blk_cell (RB8.out) 3).trans rfl; have hr4 : (W8).cell? ⟨g, 4, none⟩ = some (.int .i64 s.f4) := (blk_cell (RB8.out) 4).trans rfl; have hr5 : (W8).cell? ⟨g, 5, none⟩ = some (.int .i64 s.f5) := (blk_cell (RB8.out) 5).trans rfl
    go_region_held3 (fun W => Below W8.heap.size W8 W ∧ W.cell? ⟨g, 0, none⟩ = some (.int .i64 s.f0) ∧ W.cell? ⟨g, 1, none⟩ = some (.int .i64 s.f1) ∧ W.cell? ⟨g, 2, none⟩ = some (.int .i64 s.f2) ∧ W.cell? ⟨g, 3, none⟩ = some (.int .i64 s.f3) ∧ W.cell? ⟨g, 4, none⟩ = some (.int .i64 s.f4) ∧ W.cell? ⟨g, 5, none⟩ = some (.int .i64 s.f5))
          (first
            | exact ⟨below_drew1 (Below.refl _ _), hr0, hr1, hr2, hr3, hr4, hr5⟩
            | (go_split_ands; refine ⟨below_step (by assumption) hb, ?_, ?_, ?_, ?_, ?_, ?_⟩ <;> exact (hb.cell (World.block_lt_of_cell? _ _ (by assumption))).trans (by assumption))
            | (refine ⟨below_step (by assumption) hb, ?_, ?_, ?_, ?_, ?_, ?_⟩ <;> exact (hb.cell (World.block_lt_of_cell? _ _ (by assumption))).trans (by assumption))
            | (go_split_ands; refine ⟨?_, ?_, ?_, ?_, ?_, ?_, ?_⟩ <;> assumption)
            | (refine ⟨?_, ?_, ?_, ?_, ?_, ?_, ?_⟩ <;> assumption))
          (first
            | (go_at_call 13; refine Calls.mono (given_any A c l _ ?_ HC.out (by omega)) ?_; (any_goals (first | exact Kd.C_below (HLW.out W8 HBW8.out) (by assumption) | exact Kd.C_below (HLW.out W8 HBW8.out) (below_drew1 (Below.refl _ _)) | skip)); rintro e Wi ⟨Ai, ci, rfl, hci, hCi, hb⟩; have HCI := Aside0.mk hCi; have HLI := Aside0.mk hci; clear hCi hci)
            | (go_at_call 14; refine Calls.mono (HM1.out Ai ci _ ?_ HLI.out) ?_; (any_goals (first | exact HCI.out | skip)); rintro e Wj ⟨rfl, hb⟩))
    go_upto_region 9 with fail
    have hW9 := And.left ‹Below W8.heap.size W8 Wj ∧ _›
    have RB9 := Aside0.mk (blk_below RB8.out hW9)
    have HBW9 := Aside0.mk (below_step HBW8.out hW9)
    have HI9 := Aside0.mk (Kd.C_below HI8.out hW9)
    have GB9 := Aside0.mk (blk_below GB8.out hW9)
    obtain ⟨W9, h9⟩ : ∃ W9, W9 = Wj := ⟨_, rfl⟩
    subst h9
    clear HBW8 HI8 GB8 RB8 hr0 hr1 hr2 hr3 hr4 hr5 hrz hW9 HCI HLI
    clear ‹Below W8.heap.size W8 W9 ∧ _›
    have hrz : g < (W9).heap.size := blk_lt (RB9.out); have hr0 : (W9).cell? ⟨g, 0, none⟩ = some (.int .i64 s.f0) := (blk_cell (RB9.out) 0).trans rfl; have hr1 : (W9).cell? ⟨g, 1, none⟩ = some (.int .i64 s.f1) := (blk_cell (RB9.out) 1).trans rfl; have hr2 : (W9).cell? ⟨g, 2, none⟩ = some (.int .i64 s.f2) := (blk_cell (RB9.out) 2).trans rfl; have hr3 : (W9).cell? ⟨g, 3, none⟩ = some (.int .i64 s.f3) := (blk_cell (RB9.out) 3).trans rfl; have hr4 : (W9).cell? ⟨g, 4, none⟩ = some (.int .i64 s.f4) := (blk_cell (RB9.out) 4).trans rfl; have hr5 : (W9).cell? ⟨g, 5, none⟩ = some (.int .i64 s.f5) := (blk_cell (RB9.out) 5).trans rfl
    have hgz : w.heap.size < (W9).heap.size := blk_lt (GB9.out); have hg0 : (W9).cell? ⟨w.heap.size, 0, none⟩ = some (.int .i64 s.f0) := (blk_cell (GB9.out) 0).trans rfl; have hg1 : (W9).cell? ⟨w.heap.size, 1, none⟩ = some (.int .i64 s.f1) := (blk_cell (GB9.out) 1).trans rfl; have hg2 : (W9).cell? ⟨w.heap.size, 2, none⟩ = some (.int .i64 s.f2) := (blk_cell (GB9.out) 2).trans rfl; have hg3 : (W9).cell? ⟨w.heap.size, 3, none⟩ = some (.int .i64 s.f3) := (blk_cell (GB9.out) 3).trans rfl; have hg4 : (W9).cell? ⟨w.heap.size, 4, none⟩ = some (.int .i64 s.f4) := (blk_cell (GB9.out) 4).trans rfl; have hg5 : (W9).cell? ⟨w.heap.size, 5, none⟩ = some (.int .i64 s.f5) := (blk_cell (GB9.out) 5).trans rfl
    go_region_held3 (fun W => Below W9.heap.size W9 W ∧ W.cell? ⟨g, 0, none⟩ = some (.int .i64 s.f0) ∧ W.cell? ⟨g, 1, none⟩ = some (.int .i64 s.f1) ∧ W.cell? ⟨g, 2, none⟩ = some (.int .i64 s.f2) ∧ W.cell? ⟨g, 3, none⟩ = some (.int .i64 s.f3) ∧ W.cell? ⟨g, 4, none⟩ = some (.int .i64 s.f4) ∧ W.cell? ⟨g, 5, none⟩ = some (.int .i64 s.f5) ∧ W.cell? ⟨w.heap.size, 0, none⟩ = some (.int .i64 s.f0) ∧ W.cell? ⟨w.heap.size, 1, none⟩ = some (.int .i64 s.f1) ∧ W.cell? ⟨w.heap.size, 2, none⟩ = some (.int .i64 s.f2) ∧ W.cell? ⟨w.heap.size, 3, none⟩ = some (.int .i64 s.f3) ∧ W.cell? ⟨w.heap.size, 4, none⟩ = some (.int .i64 s.f4) ∧ W.cell? ⟨w.heap.size, 5, none⟩ = some (.int .i64 s.f5))
          (first
            | exact ⟨below_drew1 (Below.refl _ _), hr0, hr1, hr2, hr3, hr4, hr5, hg0, hg1, hg2, hg3, hg4, hg5⟩
            | (go_split_ands; refine ⟨below_step (by assumption) hb, ?_, ?_, ?_, ?_, ?_, ?_, ?_, ?_, ?_, ?_, ?_, ?_⟩ <;> exact (hb.cell (World.block_lt_of_cell? _ _ (by assumption))).trans (by assumption))
            | (refine ⟨below_step (by assumption) hb, ?_, ?_, ?_, ?_, ?_, ?_, ?_, ?_, ?_, ?_, ?_, ?_⟩ <;> exact (hb.cell (World.block_lt_of_cell? _ _ (by assumption))).trans (by assumption))
            | (go_split_ands; refine ⟨?_, ?_, ?_, ?_, ?_, ?_, ?_, ?_, ?_, ?_, ?_, ?_, ?_⟩ <;> assumption)
            | (refine ⟨?_, ?_, ?_, ?_, ?_, ?_, ?_, ?_, ?_, ?_, ?_, ?_, ?_⟩ <;> assumption))
          (first
            | (go_at_call 15; refine Calls.mono (HP0.out _) ?_; rintro e Wk ⟨rfl, hb⟩)
            | (go_at_call 16; refine Calls.mono (HP1.out _) ?_; rintro e Wk ⟨rfl, hb⟩)
            | (go_at_call 17; refine Calls.mono (same_any l (by omega) A1 c1 A c _ ?_ HIC.out ?_ HC.out) ?_; (any_goals (first | exact Kd.C_below HI9.out (by assumption) | exact Kd.C_below (HLW.out W9 HBW9.out) (by assumption) | exact HG.out.below (below_step HBW9.out (by assumption)) | exact Kd.C_below HI9.out (And.left ‹Below W9.heap.size W9 _ ∧ _›) | exact Kd.C_below (HLW.out W9 HBW9.out) (And.left ‹Below W9.heap.size W9 _ ∧ _›) | exact HG.out.below (below_step HBW9.out (And.left ‹Below W9.heap.size W9 _ ∧ _›)) | skip)); rintro e Wk ⟨rfl, hb⟩)
            | (go_at_call 9; refine Calls.mono (awake_walk _ ?_) ?_; (any_goals (first | exact Kd.C_below HI9.out (by assumption) | exact Kd.C_below (HLW.out W9 HBW9.out) (by assumption) | exact HG.out.below (below_step HBW9.out (by assumption)) | exact Kd.C_below HI9.out (And.left ‹Below W9.heap.size W9 _ ∧ _›) | exact Kd.C_below (HLW.out W9 HBW9.out) (And.left ‹Below W9.heap.size W9 _ ∧ _›) | exact HG.out.below (below_step HBW9.out (And.left ‹Below W9.heap.size W9 _ ∧ _›)) | skip)); rintro e Wk ⟨rfl, hb⟩))
    go_wp2_with fail
    go_ret
    exact ⟨rfl, below_step HBW9.out (And.left ‹Below W9.heap.size W9 _ ∧ _›)⟩
end Go.Proofs.YtadojakbfpdjjaaDoor.Px
