/-
  NatWrong by hand: the walk through the law.
-/
import Derived.Test.YtgpninmfbooijaaDoorNWrong
import Derived.Test.YtgpninmfbooijaaDoorNText
namespace Go.Proofs.YtgpninmfbooijaaDoor.Px
open Go.RowKit Go.Proofs.YtgpninmfbooijaaDoorW.PrintWords Go.Proofs.YtgpninmfbooijaaDoorW.PrintLast Go.Proofs.YtgpninmfbooijaaDoorW.PrintMore Go.Proofs.YtgpninmfbooijaaDoor.Num

/-- One whole number in a block of its own. -/
theorem oneC (W : World) (x : Int) : Kd.C (Kd.int .u32) (W.alloc (.cells #[.int .u32 x] 25 (0, 0))) (some ⟨W.heap.size, 0, none⟩) 1 [x] := by
  refine Kd.C_of_reads (enc := Value.int .u32) (d := (0 : Int)) (h1 := fun _ => rfl) ⟨rfl, by omega, fun _ => ⟨_, rfl, fun j hj => ?_⟩⟩
  have hj0 : j = 0 := by omega
  subst hj0
  have := blk_cell (blk_new W (.cells #[.int .u32 x] 25 (0, 0))) 0
  exact this

theorem blk_below {W V : World} {g : Nat} {o : Obj} (h : W.heap[g]? = some o) (hb : Below W.heap.size W V) : V.heap[g]? = some o := by
  rw [hb.block g (Array.getElem?_eq_some_iff.1 h).1]
  exact h
theorem two_cells {W V : World} {X Y : Value} (hb : Below (W.alloc (.cells #[X, Y] 32)).heap.size (W.alloc (.cells #[X, Y] 32)) V) :
    V.cell? ⟨W.heap.size, 0, none⟩ = some X ∧ V.cell? ⟨W.heap.size, 1, none⟩ = some Y := by
  have h := blk_below (blk_new W (.cells #[X, Y] 32)) hb
  exact ⟨by rw [blk_cell h]; rfl, by rw [blk_cell h]; rfl⟩
theorem pairs_made {W : World} {v : Value} {s : Nat} (hs : W.heap.size = s) (h : BadV W v) :
    (((W.alloc (.cells #[.int .u32 1] 25)).alloc (.cells #[.int .u32 1] 25)).alloc (.cells #[v, .slice (some ⟨s, 0, none⟩) 1 1, .slice (some ⟨s + 1, 0, none⟩) 1 1, v] 32)).heap[s + 1 + 1]? = some (.cells #[v, .slice (some ⟨s, 0, none⟩) 1 1, .slice (some ⟨s + 1, 0, none⟩) 1 1, v] 32) ∧
    BadP (((W.alloc (.cells #[.int .u32 1] 25)).alloc (.cells #[.int .u32 1] 25)).alloc (.cells #[v, .slice (some ⟨s, 0, none⟩) 1 1, .slice (some ⟨s + 1, 0, none⟩) 1 1, v] 32)) v (.slice (some ⟨s, 0, none⟩) 1 1) ∧
    BadP (((W.alloc (.cells #[.int .u32 1] 25)).alloc (.cells #[.int .u32 1] 25)).alloc (.cells #[v, .slice (some ⟨s, 0, none⟩) 1 1, .slice (some ⟨s + 1, 0, none⟩) 1 1, v] 32)) (.slice (some ⟨s + 1, 0, none⟩) 1 1) v ∧
    Below W.heap.size W (((W.alloc (.cells #[.int .u32 1] 25)).alloc (.cells #[.int .u32 1] 25)).alloc (.cells #[v, .slice (some ⟨s, 0, none⟩) 1 1, .slice (some ⟨s + 1, 0, none⟩) 1 1, v] 32)) := by
  subst hs
  have h1 := oneC W 1
  have h2 := oneC (W.alloc (.cells #[.int .u32 1] 25)) 1
  rw [World.size_alloc] at h2
  have hb := below_alloc (below_alloc (below_alloc (Below.refl W.heap.size W) (.cells #[.int .u32 1] 25)) (.cells #[.int .u32 1] 25)) (.cells #[v, .slice (some ⟨W.heap.size, 0, none⟩) 1 1, .slice (some ⟨W.heap.size + 1, 0, none⟩) 1 1, v] 32)
  refine ⟨?_, ?_, ?_, hb⟩
  · have := blk_new ((W.alloc (.cells #[.int .u32 1] 25)).alloc (.cells #[.int .u32 1] 25)) (.cells #[v, .slice (some ⟨W.heap.size, 0, none⟩) 1 1, .slice (some ⟨W.heap.size + 1, 0, none⟩) 1 1, v] 32)
    rw [World.size_alloc, World.size_alloc] at this
    exact this
  · exact BadP.first (h.below hb) (by omega) (Kd.C_below h1 (below_alloc (below_alloc (Below.refl _ _) _) _))
  · exact BadP.second (h.below hb) (by omega) (Kd.C_below h2 (below_alloc (Below.refl _ _) _))

set_option maxHeartbeats 8000000 in
set_option maxRecDepth 100000 in
theorem wrong_walk (A0 : Option Addr) (c0 : Nat) (l0 : List Int) (m : Nat) (w : World) (hr0 : Kd.C (Kd.int .u32) w A0 l0.length l0) (hc0 : l0.length ≤ c0) (hL : Lim l0) (hm : m ≤ 65535) :
    Calls Tryd.prog 3 #[.slice A0 l0.length c0, .int .u16 (m : Int)] w fun e w' => e = .returned (.bool true) ∧ Below w.heap.size w w' := by
  obtain ⟨ka, ha⟩ := awake_ev.get
  obtain ⟨n, hn, hev⟩ := number_n hL 100 100 rfl (by omega)
  obtain ⟨kn, hk⟩ := hev.get
  have hnl := hn.len
  have HA := Aside0.mk ha
  have HN := Aside0.mk hk
  have HR0 := Aside0.mk hr0
  have HC0 := Aside0.mk hc0
  have HL0 := Aside0.mk hL
  have hmk := print_make (P := Tryd.prog) 22 25 .u32 4 Tryd.underlying22 info25 (by omega) (1025 + m % 100) (by omega)
  rw [show ((1025 + m % 100 : Nat) : Int) = 1025 + (m : Int) % 100 by omega] at hmk
  clear hr0 hc0 hL ha hk hev hn
  go_enter Tryd.func3, Tryd.ntmps3
  go_upto_region 3 with (go_at_call 12; refine (letterbaglaw03_awake.calls ka true _ HA.out).mono ?_; rintro e w1 ⟨rfl, hb1⟩; have HB1 := Aside0.mk hb1; clear hb1)
  go_cut [5] (fun s5 wx => ∃ g, s5 = .slice (some ⟨g, 0, none⟩) (1025 + m % 100) (1025 + m % 100) ∧ (Kd.int .u32).R 25 wx w.heap.size (fun _ => True) (.slice (some ⟨g, 0, none⟩) (1025 + m % 100) (1025 + m % 100)) (List.replicate (1025 + m % 100) 0) ∧ Below w.heap.size w wx)
  case first =>
    go_wp2_with fail
    go_meet
    exact ⟨_, rfl, Kd.R_mono (madeR _ w.heap.size _ HB1.out.size (by omega)) (fun _ _ => trivial), below_alloc HB1.out _⟩
  case rest =>
    obtain ⟨g, rfl, hR, hb⟩ := hcut
    have HR := Aside0.mk hR
    have HB := Aside0.mk hb
    clear hR hb hmk
    obtain ⟨q, hq⟩ : ∃ q, q = 1025 + m % 100 := ⟨_, rfl⟩
    rw [← hq] at HR ⊢
    have hq1 : 1024 < q := by omega
    have hq2 : q < 2000 := by omega
    clear hq
    have hgb : w.heap.size ≤ g := Kd.R_base HR.out g rfl
    go_wp2_with fail
    go_loopw [39, 6] (fun v39 v6 wr => ∃ (i : Nat) (L : List Int), v39 = .int .i64 (i : Int) ∧ i ≤ q ∧ Lim L ∧ (Kd.int .u32).R 25 wr w.heap.size (fun _ => True) (.slice (some ⟨g, 0, none⟩) q q) L ∧ Below w.heap.size w wr) (fun v39 _ _ => q - (intOf v39).toNat)
    case atStart => exact ⟨0, _, rfl, by omega, Lim.replicate _, HR.out, HB.out⟩
    case round =>
      obtain ⟨i, L, rfl, hi, hLL, hR2, hb2⟩ := hrel
      have HLL := Aside0.mk hLL
      have HR2 := Aside0.mk hR2
      have HB2 := Aside0.mk hb2
      clear hLL hR2 hb2
      by_cases hlt : i < q
      · obtain ⟨hc, hf⟩ := cellR HR2.out i hlt
        obtain ⟨hp1, hp2⟩ := putR HR2.out i 1
        have HP1 := Aside0.mk hp1
        have HP2 := Aside0.mk hp2
        clear hp1 hp2
        go_wp2_with fail
        go_roundw
        case rel => exact ⟨i + 1, L.set i 1, by simp, by omega, HLL.out.set _ (by rw [BB_eq]; omega), HP1.out, below_set HB2.out hgb⟩
        case measure => simp [intOf]; omega
      · have hqL : L.length = q := (Kd.R_reads' HR2.out).1.symm
        go_upto_region 9 with fail
        go_cut [51, 52, 53] (fun s51 s52 s53 wx => ∃ g2 v0 v1, s51 = .slice (some ⟨g2, 0, none⟩) 2 2 ∧ s52 = .int .i64 2 ∧ s53 = .int .i64 0 ∧ wx.heap[g2]? = some (.cells #[v0, v1] 22 (0, 0)) ∧ BadV wx v0 ∧ BadV wx v1 ∧ Below w.heap.size w wx)
        case first =>
          go_wp2_with (first
            | (go_at_call 13; refine (letterbaglaw03_number.calls kn (fun k_ => k_ < wr.heap.size) _ _ l0 100 (limbs n) _ ?side1 HN.out).mono ?_; (case side1 => exact Kd.V_mk HC0.out (Kd.C_F (Kd.heap_int .u32) (Kd.C_below HR0.out HB2.out))); rintro e w2 ⟨v2, rfl, ho2, hb2⟩; have HO2 := Aside0.mk ho2; have HB3 := Aside0.mk hb2; clear ho2 hb2; obtain ⟨A2, c2, e2⟩ := Kd.R_slice HO2.out; subst e2)
            | (at_builtin; refine Kd.R_append_row (Value.int .u32) (0 : Int) (w0 := wr) wr.heap.size rfl (.tmp 47) (.tmp 48) 22 25 (.int .u32 0) 4 rfl Tryd.underlying22 info25 rfl (by decide) (.slice A2 (limbs n).length c2) (limbs n) [0] (some ⟨w2.heap.size, 0, none⟩) 1 1 _ rfl rfl ?aF (Kd.R_alloc HO2.out _) (oneC w2 0) (below_alloc HB3.out _) ?aS ?aL ?_; (case aF => exact fun k hk => Nat.le_trans (below_alloc HB3.out _).size hk); (case aS => exact (below_alloc HB3.out _).size); (case aL => first | omega | (simp; omega)); intro v3 w4 ho3 hb4 hg4 hat; obtain ⟨A3, c3, e3⟩ := Kd.R_slice ho3; subst e3; have HO3 := Aside0.mk ho3; have HB4 := Aside0.mk hb4; clear ho3 hb4 hg4 hat))
          go_meet
          have hsz := HB4.out.size
          refine ⟨_, _, _, rfl, rfl, rfl, blk_new _ _, ?_, ?_, ?_⟩
          · refine BadV.below ⟨limbs n ++ [0], A3, c3, by rw [List.length_append]; rfl, (Kd.R_reads' HO3.out).2.1, (Kd.R_reads' HO3.out).2.2, (lm n).append (Lim.mk (by rw [BB_eq]; omega) Lim.nil), bad_zero _⟩ (below_alloc (Below.refl _ _) _)
          · refine BadV.below ⟨L, some ⟨g, 0, none⟩, q, by rw [hqL], by omega, (Kd.R_reads' HR2.out).2.2, HLL.out, bad_long (by omega)⟩ (below_alloc HB4.out _)
          · exact below_then HB2.out HB2.out.size (below_alloc HB4.out _)
        case rest =>
          obtain ⟨g2, v0, v1, rfl, rfl, rfl, hcells, hv0, hv1, hb⟩ := hcut
          have HCE := Aside0.mk hcells
          have HV0 := Aside0.mk hv0
          have HV1 := Aside0.mk hv1
          have HB3 := Aside0.mk hb
          clear hcells hv0 hv1 hb HR HB HR2 HB2 HLL
          go_wp2_with fail
          go_loopw [53] (fun v53 wr => ∃ i : Nat, v53 = .int .i64 (i : Int) ∧ i ≤ 2 ∧ wr.heap[g2]? = some (.cells #[v0, v1] 22 (0, 0)) ∧ BadV wr v0 ∧ BadV wr v1 ∧ Below w.heap.size w wr) (fun v53 _ => 2 - (intOf v53).toNat)
          case atStart => exact ⟨0, rfl, by omega, HCE.out, HV0.out, HV1.out, HB3.out⟩
          case round =>
            obtain ⟨i, rfl, hi, hcells, hv0, hv1, hb⟩ := hrel
            have HCE := Aside0.mk hcells
            have HV0 := Aside0.mk hv0
            have HV1 := Aside0.mk hv1
            have HB4 := Aside0.mk hb
            clear hcells hv0 hv1 hb
            by_cases hlt : i < 2
            · obtain ⟨v, hcv, hbad⟩ : ∃ v, wr.cell? ⟨g2, i, none⟩ = some v ∧ BadV wr v := by
                rw [blk_cell HCE.out]
                rcases (show i = 0 ∨ i = 1 by omega) with rfl | rfl
                · exact ⟨v0, rfl, HV0.out⟩
                · exact ⟨v1, rfl, HV1.out⟩
              obtain ⟨b, A, c, rfl, hc, hC, hL, hR⟩ := hbad
              obtain ⟨ku, hu⟩ := (bad_uint hR).get
              have HU := Aside0.mk hu
              have HCb := Aside0.mk hc
              have HCc := Aside0.mk hC
              have HLb := Aside0.mk hL
              have HRb := Aside0.mk hR
              clear hc hC hL hR hu
              go_upto_region 15 with (first
                | (go_at_call 14; refine (nat_Uint.calls ku A c b 0 false _ HCc.out HCb.out HU.out).mono ?_; rintro e w5 ⟨rfl, ⟨nd, rfl⟩⟩)
                | (go_at_call 15; refine (nat_Right.calls A c b false _ (Kd.C_drewN HCc.out nd) HCb.out (right_no HRb.out)).mono ?_; rintro e w6 ⟨rfl, ⟨nd1, rfl⟩⟩))
              go_cut [8, 73, 74, 75] (fun s8 s73 s74 s75 wx => ∃ g3 u0 u1 u2 u3, s8 = .slice A b.length c ∧ s73 = .slice (some ⟨g3, 0, none⟩) 2 2 ∧ s74 = .int .i64 2 ∧ s75 = .int .i64 0 ∧ wx.heap[g3]? = some (.cells #[u0, u1, u2, u3] 32 (0, 0)) ∧ BadP wx u0 u1 ∧ BadP wx u2 u3 ∧ Below wr.heap.size wr wx)
              case first =>
                go_wp2_with fail
                go_meet
                obtain ⟨h1, h2, h3, h4⟩ := pairs_made (W := wr.drewN (nd + nd1)) (v := .slice A b.length c) (s := wr.heap.size) rfl (BadV.below ⟨b, A, c, rfl, HCb.out, HCc.out, HLb.out, HRb.out⟩ (pw_below_drewN (Below.refl _ _) _))
                exact ⟨_, _, _, _, _, rfl, rfl, rfl, rfl, h1, h2, h3, below_then (pw_below_drewN (Below.refl wr.heap.size wr) (nd + nd1)) (Nat.le_refl _) h4⟩
              case rest =>
                obtain ⟨g3, u0, u1, u2, u3, rfl, rfl, rfl, rfl, hcells, hp0, hp1, hb⟩ := hcut
                have HCE3 := Aside0.mk hcells
                have HP0 := Aside0.mk hp0
                have HP1 := Aside0.mk hp1
                have HB5 := Aside0.mk hb
                clear hcells hp0 hp1 hb
                go_wp2_with fail
                go_loopw [75] (fun v75 wr3 => ∃ j : Nat, v75 = .int .i64 (j : Int) ∧ j ≤ 2 ∧ wr3.heap[g3]? = some (.cells #[u0, u1, u2, u3] 32 (0, 0)) ∧ BadP wr3 u0 u1 ∧ BadP wr3 u2 u3 ∧ Below wr.heap.size wr wr3) (fun v75 _ => 2 - (intOf v75).toNat)
                case atStart => exact ⟨0, rfl, by omega, HCE3.out, HP0.out, HP1.out, HB5.out⟩
                case round =>
                  obtain ⟨j, rfl, hj, hcells, hp0, hp1, hb⟩ := hrel
                  have HCE4 := Aside0.mk hcells
                  have HP0 := Aside0.mk hp0
                  have HP1 := Aside0.mk hp1
                  have HB6 := Aside0.mk hb
                  clear hcells hp0 hp1 hb
                  by_cases hjl : j < 2
                  · rcases (show j = 0 ∨ j = 1 by omega) with rfl | rfl
                    · have hc0 := blk_cell HCE4.out 0
                      have hc1 := blk_cell HCE4.out 1
                      obtain ⟨x, y, A5, B5, c5, d5, rfl, rfl, hx, hy, hcx, hcy, lx, ly, hxy⟩ := HP0.out
                      obtain ⟨k1, e1⟩ := (bad_cmp hxy).get
                      obtain ⟨k3, e3⟩ := (bad_sub hxy).get
                      obtain ⟨k4, e4⟩ := (bad_mul hxy).get
                      obtain ⟨k5, e5⟩ := (bad_div hxy).get
                      have E1 := Aside0.mk e1
                      have E2 := Aside0.mk (bad_add lx ly hxy)
                      have E3 := Aside0.mk e3
                      have E4 := Aside0.mk e4
                      have E5 := Aside0.mk e5
                      have HX := Aside0.mk hx
                      have HY := Aside0.mk hy
                      have HCX := Aside0.mk hcx
                      have HCY := Aside0.mk hcy
                      clear e1 e3 e4 e5 hx hy hcx hcy lx ly hxy
                      go_wp2_with (first
                        | (go_at_call 16; have hb7 := below_alloc (Below.refl wr.heap.size wr) (.cells #[.slice A5 x.length c5, .slice B5 y.length d5] 32); refine (nat_Cmp.calls k1 A5 c5 x B5 d5 y 0 2 _ (Kd.C_below HCX.out hb7) HX.out (Kd.C_below HCY.out hb7) HY.out E1.out).mono ?_; rintro e w7 ⟨rfl, ⟨nd2, rfl⟩⟩; have HB7 := Aside0.mk (pw_below_drewN hb7 nd2); have HT7 : Aside0 (Below (wr.alloc (.cells #[.slice A5 x.length c5, .slice B5 y.length d5] 32)).heap.size (wr.alloc (.cells #[.slice A5 x.length c5, .slice B5 y.length d5] 32)) ((wr.alloc (.cells #[.slice A5 x.length c5, .slice B5 y.length d5] 32)).drewN nd2)) := ⟨pw_below_drewN (Below.refl _ _) nd2⟩; clear hb7)
                        | (go_at_call 17; refine (nat_Add.calls A5 c5 x B5 d5 y [] 2 _ (Kd.C_below HCX.out HB7.out) HX.out (Kd.C_below HCY.out HB7.out) HY.out E2.out).mono ?_; rintro e w8 ⟨v8, rfl, hv8, hb8⟩; have HB8 := Aside0.mk (below_then HB7.out HB7.out.size hb8); have HT8 := Aside0.mk (below_then HT7.out HT7.out.size hb8); obtain ⟨A8, c8, ev8⟩ := Kd.V_slice hv8; subst ev8; clear hv8 hb8; obtain ⟨q0, q1⟩ := two_cells HT8.out)
                        | (go_at_call 18; refine (nat_Sub.calls k3 A5 c5 x B5 d5 y [] 2 _ (Kd.C_below HCX.out HB8.out) HX.out (Kd.C_below HCY.out HB8.out) HY.out E3.out).mono ?_; rintro e w9 ⟨v9, rfl, hv9, hb9⟩; have HB9 := Aside0.mk (below_then HB8.out HB8.out.size hb9); have HT9 := Aside0.mk (below_then HT8.out HT8.out.size hb9); obtain ⟨A9, c9, ev9⟩ := Kd.V_slice hv9; subst ev9; clear hv9 hb9 q0 q1; obtain ⟨q0, q1⟩ := two_cells HT9.out)
                        | (go_at_call 19; refine (nat_Mul.calls k4 A5 c5 x B5 d5 y [] 2 _ (Kd.C_below HCX.out HB9.out) HX.out (Kd.C_below HCY.out HB9.out) HY.out E4.out).mono ?_; rintro e w10 ⟨v10, rfl, hv10, hb10⟩; have HB10 := Aside0.mk (below_then HB9.out HB9.out.size hb10); have HT10 := Aside0.mk (below_then HT9.out HT9.out.size hb10); obtain ⟨A10, c10, ev10⟩ := Kd.V_slice hv10; subst ev10; clear hv10 hb10 q0 q1; obtain ⟨q0, q1⟩ := two_cells HT10.out)
                        | (go_at_call 20; refine (nat_DivMod.calls k5 A5 c5 x B5 d5 y [] [] 2 _ (Kd.C_below HCX.out HB10.out) HX.out (Kd.C_below HCY.out HB10.out) HY.out E5.out).mono ?_; rintro e w11 ⟨v11, v12, rfl, hv11, hv12, hb11⟩; have HB11 := Aside0.mk (below_then HB10.out HB10.out.size hb11); obtain ⟨A11, c11, ev11⟩ := Kd.V_slice hv11; subst ev11; obtain ⟨A12, c12, ev12⟩ := Kd.V_slice hv12; subst ev12; clear hv11 hv12 hb11 q0 q1))
                      go_roundw
                      case rel => exact ⟨1, rfl, by omega, blk_below HCE4.out HB11.out, HP0.out.below HB11.out, HP1.out.below HB11.out, below_then HB6.out HB6.out.size HB11.out⟩
                      case measure => simp [intOf]
                    · have hc0 := blk_cell HCE4.out 2
                      have hc1 := blk_cell HCE4.out 3
                      obtain ⟨x, y, A5, B5, c5, d5, rfl, rfl, hx, hy, hcx, hcy, lx, ly, hxy⟩ := HP1.out
                      obtain ⟨k1, e1⟩ := (bad_cmp hxy).get
                      obtain ⟨k3, e3⟩ := (bad_sub hxy).get
                      obtain ⟨k4, e4⟩ := (bad_mul hxy).get
                      obtain ⟨k5, e5⟩ := (bad_div hxy).get
                      have E1 := Aside0.mk e1
                      have E2 := Aside0.mk (bad_add lx ly hxy)
                      have E3 := Aside0.mk e3
                      have E4 := Aside0.mk e4
                      have E5 := Aside0.mk e5
                      have HX := Aside0.mk hx
                      have HY := Aside0.mk hy
                      have HCX := Aside0.mk hcx
                      have HCY := Aside0.mk hcy
                      clear e1 e3 e4 e5 hx hy hcx hcy lx ly hxy
                      go_wp2_with (first
                        | (go_at_call 16; have hb7 := below_alloc (Below.refl wr.heap.size wr) (.cells #[.slice A5 x.length c5, .slice B5 y.length d5] 32); refine (nat_Cmp.calls k1 A5 c5 x B5 d5 y 0 2 _ (Kd.C_below HCX.out hb7) HX.out (Kd.C_below HCY.out hb7) HY.out E1.out).mono ?_; rintro e w7 ⟨rfl, ⟨nd2, rfl⟩⟩; have HB7 := Aside0.mk (pw_below_drewN hb7 nd2); have HT7 : Aside0 (Below (wr.alloc (.cells #[.slice A5 x.length c5, .slice B5 y.length d5] 32)).heap.size (wr.alloc (.cells #[.slice A5 x.length c5, .slice B5 y.length d5] 32)) ((wr.alloc (.cells #[.slice A5 x.length c5, .slice B5 y.length d5] 32)).drewN nd2)) := ⟨pw_below_drewN (Below.refl _ _) nd2⟩; clear hb7)
                        | (go_at_call 17; refine (nat_Add.calls A5 c5 x B5 d5 y [] 2 _ (Kd.C_below HCX.out HB7.out) HX.out (Kd.C_below HCY.out HB7.out) HY.out E2.out).mono ?_; rintro e w8 ⟨v8, rfl, hv8, hb8⟩; have HB8 := Aside0.mk (below_then HB7.out HB7.out.size hb8); have HT8 := Aside0.mk (below_then HT7.out HT7.out.size hb8); obtain ⟨A8, c8, ev8⟩ := Kd.V_slice hv8; subst ev8; clear hv8 hb8; obtain ⟨q0, q1⟩ := two_cells HT8.out)
                        | (go_at_call 18; refine (nat_Sub.calls k3 A5 c5 x B5 d5 y [] 2 _ (Kd.C_below HCX.out HB8.out) HX.out (Kd.C_below HCY.out HB8.out) HY.out E3.out).mono ?_; rintro e w9 ⟨v9, rfl, hv9, hb9⟩; have HB9 := Aside0.mk (below_then HB8.out HB8.out.size hb9); have HT9 := Aside0.mk (below_then HT8.out HT8.out.size hb9); obtain ⟨A9, c9, ev9⟩ := Kd.V_slice hv9; subst ev9; clear hv9 hb9 q0 q1; obtain ⟨q0, q1⟩ := two_cells HT9.out)
                        | (go_at_call 19; refine (nat_Mul.calls k4 A5 c5 x B5 d5 y [] 2 _ (Kd.C_below HCX.out HB9.out) HX.out (Kd.C_below HCY.out HB9.out) HY.out E4.out).mono ?_; rintro e w10 ⟨v10, rfl, hv10, hb10⟩; have HB10 := Aside0.mk (below_then HB9.out HB9.out.size hb10); have HT10 := Aside0.mk (below_then HT9.out HT9.out.size hb10); obtain ⟨A10, c10, ev10⟩ := Kd.V_slice hv10; subst ev10; clear hv10 hb10 q0 q1; obtain ⟨q0, q1⟩ := two_cells HT10.out)
                        | (go_at_call 20; refine (nat_DivMod.calls k5 A5 c5 x B5 d5 y [] [] 2 _ (Kd.C_below HCX.out HB10.out) HX.out (Kd.C_below HCY.out HB10.out) HY.out E5.out).mono ?_; rintro e w11 ⟨v11, v12, rfl, hv11, hv12, hb11⟩; have HB11 := Aside0.mk (below_then HB10.out HB10.out.size hb11); obtain ⟨A11, c11, ev11⟩ := Kd.V_slice hv11; subst ev11; obtain ⟨A12, c12, ev12⟩ := Kd.V_slice hv12; subst ev12; clear hv11 hv12 hb11 q0 q1))
                      go_roundw
                      case rel => exact ⟨2, rfl, by omega, blk_below HCE4.out HB11.out, HP0.out.below HB11.out, HP1.out.below HB11.out, below_then HB6.out HB6.out.size HB11.out⟩
                      case measure => simp [intOf]
                  · obtain ⟨kp, ep⟩ := (bad_pow (x := b) (n := 0) (fun h => HRb.out h.1)).get
                    have EP := Aside0.mk ep
                    clear ep
                    go_wp2_with (first
                      | (go_at_call 21; refine (nat_Pow.calls kp (fun k_ => k_ < wr.heap.size) A c b 0 [] 2 _ (Kd.V_mk HCb.out (Kd.C_F (Kd.heap_int .u32) (Kd.C_below HCc.out HB6.out))) EP.out).mono ?_; rintro e w7 ⟨v7, rfl, hv7, hb7⟩; have HB7 := Aside0.mk (below_then HB6.out HB6.out.size hb7); obtain ⟨A7, c7, ev7⟩ := Kd.V_slice hv7; subst ev7; clear hv7 hb7)
                      | (go_at_call 22; refine (nat_Text.calls A c b ⟨#[]⟩ 2 _ (Kd.C_below HCc.out HB7.out) HCb.out (bad_text HLb.out HRb.out)).mono ?_; rintro e w8 ⟨rfl, hb8⟩; have HB8 := Aside0.mk (below_then HB7.out HB7.out.size hb8); clear hb8))
                    go_roundw
                    case rel => exact ⟨i + 1, by simp, by omega, blk_below HCE.out HB8.out, HV0.out.below HB8.out, HV1.out.below HB8.out, below_then HB4.out HB4.out.size HB8.out⟩
                    case measure => simp [intOf]; omega
            · obtain ⟨kq, eq_⟩ := (bad_pow (x := limbs n) (n := -1 - (m : Int)) (fun h => by omega)).get
              have EQ := Aside0.mk eq_
              clear eq_
              go_wp2_with (first
                | (go_at_call 13; refine (letterbaglaw03_number.calls kn (fun k_ => k_ < wr.heap.size) _ _ l0 100 (limbs n) _ ?side1 HN.out).mono ?_; (case side1 => exact Kd.V_mk HC0.out (Kd.C_F (Kd.heap_int .u32) (Kd.C_below HR0.out HB4.out))); rintro e w2 ⟨v2, rfl, ho2, hb2⟩; have HO2 := Aside0.mk ho2; have HB5 := Aside0.mk (below_then HB4.out HB4.out.size hb2); clear ho2 hb2; obtain ⟨A2, c2, e2⟩ := Kd.R_slice HO2.out; subst e2)
                | (go_at_call 21; refine (nat_Pow.calls kq (fun k_ => k_ < w2.heap.size) A2 c2 (limbs n) (-1 - (m : Int)) [] 2 _ (Kd.V_mk (Kd.R_reads' HO2.out).2.1 (Kd.C_F (Kd.heap_int .u32) (Kd.R_reads' HO2.out).2.2)) EQ.out).mono ?_; rintro e w3 ⟨v3, rfl, hv3, hb3⟩; have HB6 := Aside0.mk (below_then HB5.out HB5.out.size hb3); obtain ⟨A3, c3, ev3⟩ := Kd.V_slice hv3; subst ev3; clear hv3 hb3))
              go_ret
              exact ⟨rfl, HB6.out⟩
end Go.Proofs.YtgpninmfbooijaaDoor.Px
