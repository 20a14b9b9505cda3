/-
  HeightDraws, walked: it answers true.
-/
import Derived.Test.YtadojakbfpdjjaaDoorHRefDraw
namespace Go.Proofs.YtadojakbfpdjjaaDoor.Px
open Go.RowKit Go.Maps Go.Proofs.YtadojakbfpdjjaaDoorW.PrintWords Go.Proofs.YtadojakbfpdjjaaDoorW.PrintLast Go.Proofs.YtadojakbfpdjjaaDoorW.PrintMore
/-- Two bars of the reference's type, compared. -/
theorem eqR (d : Nat) (w : World) (x0 y0 x1 y1 x2 y2 : Int) :
    (Op.equalIn (d + 2) 47 (.agg #[.int .i64 x0, .int .i64 x1, .int .i64 x2]) (.agg #[.int .i64 y0, .int .i64 y1, .int .i64 y2])).run Tryd.prog w = .ok (x0 == y0 && (x1 == y1 && (x2 == y2))) w := by
  refine eqA_of Tryd.underlying47 (by kernel_rfl) ?_
  refine eqf_cons (by rfl) (by go_simp; rfl) (by go_simp; rfl) (by go_simp) ?_
  refine eqf_cons (by rfl) (by go_simp; rfl) (by go_simp; rfl) (by go_simp) ?_
  exact eqf_last (by rfl) (by go_simp; rfl) (by go_simp; rfl) (by go_simp)
attribute [local go_sem high] eqR

theorem at_rbar {w : World} {A : Option Addr} {l : List Bar} (h : CR w A l) (k : Nat) (hk : k < l.length) : ∃ ad, A = some ad ∧ w.cell? (ad.add (k * 3)) = some (.int .i64 l[k].f0) ∧ w.cell? ⟨(ad.add (k * 3)).block, (ad.add (k * 3)).off + 1, none⟩ = some (.int .i64 l[k].f1) ∧ w.cell? ⟨(ad.add (k * 3)).block, (ad.add (k * 3)).off + 2, none⟩ = some (.int .i64 l[k].f2) := by
  obtain ⟨ad, e, h1, h2, h3⟩ := at_T47 h (k : Int) (by omega) (by rw [m0_len]; omega)
  rw [rdR_get hk, Int.toNat_natCast] at h1 h2 h3
  exact ⟨ad, e, h1, h2, h3⟩
theorem barsFrom_le (s : Stp) (t : List UInt8) : (drawL s t).1.length ≤ t.length := by
  unfold drawL
  split
  · exact barsFrom_len s t 0
  · exact Nat.zero_le _

set_option maxHeartbeats 1000000 in
set_option maxRecDepth 100000 in
theorem draws_walk (s : Stp) (t : List UInt8) (w : World) (hm : t.length ≤ 9223372036854775807) (hgl : GL w) :
    Calls Tryd.prog 4 #[.agg #[.int .i64 s.f0, .int .i64 s.f1, .int .i64 s.f2, .int .i64 s.f3, .int .i64 s.f4, .int .i64 s.f5], .string ⟨t.toArray⟩] w fun e w' => e = .returned (.bool true) ∧ Below w.heap.size w w' := by
  have HG := Aside0.mk hgl
  clear hgl
  by_cases h4 : 300 < t.length
  · have h6 : decide (300 < (t.length : Int)) = true := decide_eq_true (by omega)
    go_enter Tryd.func4, Tryd.ntmps4
    go_wp2_with (go_at_call 9; refine (awake_walk _ (HG.out.below (below_alloc (Below.refl _ _) _))).mono ?_; rintro e w1 ⟨rfl, hb⟩; have n1_ := Aside0.mk (below_step (below_alloc (Below.refl _ _) _) hb); clear hb)
    go_ret
    exact ⟨rfl, n1_.out⟩
  · have h6 : decide (300 < (t.length : Int)) = false := decide_eq_false (by omega)
    have HD0 := Aside0.mk (fun W => draw_walk s t W hm)
    have HD1 := Aside0.mk (fun W => refDraw_walk s t W hm)
    have hle := barsFrom_le s t
    generalize drawL s t = q at HD0 HD1 hle
    obtain ⟨D, n⟩ := q
    have hlen : D.length ≤ 300 := by simp only at hle; omega
    simp only at HD0 HD1
    clear hle
    go_enter Tryd.func4, Tryd.ntmps4
    go_wp2_with (first
      | (go_at_call 18; refine (HD0.out _).mono ?_; rintro e w1 ⟨v, rfl, hr, hb⟩; obtain ⟨A1, c1, e1, hl1, hC1⟩ := CB_of_RB hr; subst e1; have HB := Aside0.mk (below_step (below_alloc (Below.refl _ _) _) hb); have GB := Aside0.mk (blk_below (blk_new w (.cells #[.int .i64 s.f0, .int .i64 s.f1, .int .i64 s.f2, .int .i64 s.f3, .int .i64 s.f4, .int .i64 s.f5] 23 (0, 0))) hb); have HC1 := Aside0.mk hC1; have HL1 := Aside0.mk hl1; clear hr hb hC1 hl1; have hgz : w.heap.size < (w1).heap.size := blk_lt (GB.out); have hg0 : (w1).cell? ⟨w.heap.size, 0, none⟩ = some (.int .i64 s.f0) := (blk_cell (GB.out) 0).trans rfl; have hg1 : (w1).cell? ⟨w.heap.size, 1, none⟩ = some (.int .i64 s.f1) := (blk_cell (GB.out) 1).trans rfl; have hg2 : (w1).cell? ⟨w.heap.size, 2, none⟩ = some (.int .i64 s.f2) := (blk_cell (GB.out) 2).trans rfl; have hg3 : (w1).cell? ⟨w.heap.size, 3, none⟩ = some (.int .i64 s.f3) := (blk_cell (GB.out) 3).trans rfl; have hg4 : (w1).cell? ⟨w.heap.size, 4, none⟩ = some (.int .i64 s.f4) := (blk_cell (GB.out) 4).trans rfl; have hg5 : (w1).cell? ⟨w.heap.size, 5, none⟩ = some (.int .i64 s.f5) := (blk_cell (GB.out) 5).trans rfl)
      | (go_at_call 19; refine (HD1.out _).mono ?_; rintro e w2 ⟨v2, rfl, hr, hb⟩; obtain ⟨A2, c2, e2, hl2, hC2⟩ := Kd.R_reads hr; rw [List.length_map] at e2 hl2; subst e2; have n1_ := Aside0.mk (below_step HB.out hb); have n2_ := Aside0.mk (Kd.C_below HC1.out hb); have HC2 := Aside0.mk hC2; have HL2 := Aside0.mk hl2; clear hr hb hC2 hl2 HB HC1 GB hgz hg0 hg1 hg2 hg3 hg4 hg5; have HB := n1_; have HC1 := n2_; clear n1_ n2_))
    go_loopw [38] (fun v38 wx => ∃ k nd : Nat, k ≤ D.length ∧ v38 = .int .i64 (k : Int) ∧ wx = w2.drewN nd) (fun v38 _ => D.length - (intOf v38).toNat)
    case atStart => exact ⟨0, 0, Nat.zero_le _, rfl, rfl⟩
    case round =>
      obtain ⟨k, nd, hk, rfl, rfl⟩ := hrel
      by_cases hlt : k < D.length
      · obtain ⟨ad1, ha1, hc0, hc1, hc2⟩ := at_bar HC1.out k hlt
        obtain ⟨ad2, ha2, hd0, hd1, hd2⟩ := at_rbar HC2.out k hlt
        subst ha1 ha2
        have hk0 : (0 : Int) ≤ (k : Int) := by omega
        have hk1 : (k : Int) < (D.length : Int) := by omega
        go_upto_region 10 with fail
        go_quiet (fail)
        go_wp2_with fail
        go_roundw
        case rel => exact ⟨k + 1, _, by omega, by go_num, rfl⟩
        case measure => simp [intOf]; omega
      · have hke : k = D.length := by omega
        subst hke
        go_wp2_with (go_at_call 9; refine (awake_walk _ (HG.out.below (pw_below_drewN HB.out nd))).mono ?_; rintro e w5 ⟨rfl, hb⟩; have n1_ := Aside0.mk (below_step (pw_below_drewN HB.out nd) hb); clear hb)
        go_ret
        exact ⟨rfl, n1_.out⟩
end Go.Proofs.YtadojakbfpdjjaaDoor.Px
