/-
  nat.long: the long division.
-/
import Derived.Test.YtgpninmfbooijaaDoorNTake
import Derived.Test.YtgpninmfbooijaaDoorNum
import Derived.Test.YtgpninmfbooijaaDoorNClone
namespace Go.Proofs.YtgpninmfbooijaaDoor.Px
open Go.RowKit Go.Proofs.YtgpninmfbooijaaDoorW.PrintWords Go.Proofs.YtgpninmfbooijaaDoorW.PrintLast Go.Proofs.YtgpninmfbooijaaDoorW.PrintMore Go.Proofs.YtgpninmfbooijaaDoor.Num

/-- What the count of places says so far: the highest limb may be moved up so far. -/
def ByInv (bt : Int) (j : Nat) : Prop := j ≤ 31 ∧ bt * 2 ^ j < 4294967296

theorem by_step {bt : Int} {j : Nat} (h : ByInv bt j) (hb : 0 ≤ bt) (hb0 : bt ≠ 0) (hz : bt * 2 ^ j % 4294967296 / 2147483648 = 0) : ByInv bt (j + 1) := by
  obtain ⟨h1, h2⟩ := h
  unfold ByInv
  rw [Int.pow_succ, ← Int.mul_assoc]
  have h3 : 1 * 2 ^ j ≤ bt * 2 ^ j := Int.mul_le_mul_of_nonneg_right (by omega) (Int.le_of_lt (Int.pow_pos (by decide)))
  have h4 : j = 31 → (2 : Int) ^ j = 2147483648 := fun e => by rw [e]; rfl
  generalize bt * 2 ^ j = x at *
  generalize (2 : Int) ^ j = y at *
  omega
theorem by_done {bt : Int} {j : Nat} (h : ByInv bt j) (hb : 0 ≤ bt) (hz : ¬ bt * 2 ^ j % 4294967296 / 2147483648 = 0) : 2147483648 ≤ bt * 2 ^ j ∧ bt * 2 ^ j < 4294967296 := by
  obtain ⟨h1, h2⟩ := h
  have h3 : 0 ≤ bt * 2 ^ j := Int.mul_nonneg hb (Int.le_of_lt (Int.pow_pos (by decide)))
  generalize bt * 2 ^ j = x at *
  omega

set_option maxHeartbeats 8000000 in
set_option maxRecDepth 100000 in
theorem long_ok (A0 : Option Addr) (c0 : Nat) (l0 : List Int) (A1 : Option Addr) (c1 : Nat) (l1 : List Int) (w : World) (hr0 : Kd.C (Kd.int .u32) w A0 l0.length l0) (hc0 : l0.length ≤ c0) (hr1 : Kd.C (Kd.int .u32) w A1 l1.length l1) (hc1 : l1.length ≤ c1)
    (h0 : Lim l0) (h1 : Lim l1) (hm : 2 ≤ l1.length) (hle : l1.length ≤ l0.length) (hmax : l0.length ≤ 1024) (ht : Tight l1) :
    Calls Tryd.prog 36 #[.slice A0 l0.length c0, .slice A1 l1.length c1] w fun e w' => ∃ v0_ v1_ : Value, e = .returned (.tuple #[v0_, v1_]) ∧
      Kd.V (Kd.int .u32) 25 w' w.heap.size (fun k_ => w.heap.size ≤ k_) v0_ (limbs (val l0 / val l1).toNat) ∧ Kd.V (Kd.int .u32) 25 w' w.heap.size (fun k_ => w.heap.size ≤ k_) v1_ (limbs (val l0 % val l1).toNat) ∧ Below w.heap.size w w' := by
  have HR0 := Aside0.mk hr0
  have HR1 := Aside0.mk hr1
  have HC0 := Aside0.mk hc0
  have HC1 := Aside0.mk hc1
  have H0 := Aside0.mk h0
  have H1 := Aside0.mk h1
  have HT := Aside0.mk (ht (l1.length - 1) (by omega))
  clear hr0 hr1 hc0 hc1 h0 h1 ht
  obtain ⟨ad1, e1, hbt⟩ := cellC HR1.out (l1.length - 1) (by omega)
  subst e1
  have hbt' := hbt
  rw [show ad1.add (l1.length - 1) = ⟨ad1.block, ad1.off + (l1.length - 1), none⟩ from by unfold Addr.add; rw [if_neg (by omega)]] at hbt'
  have hb := H1.out.getD (l1.length - 1)
  have hb0 := HT.out
  generalize hbtn : l1.getD (l1.length - 1) 0 = bt at *
  replace hbtn := Aside0.mk hbtn
  simp only [BB_eq] at hb
  go_enter Tryd.func36, Tryd.ntmps36
  go_wp2_with fail
  go_loop [6] (fun b6 => ∃ j : Nat, b6 = .int .u64 (j : Int) ∧ ByInv bt j) (fun b6 => 32 - (intOf b6).toNat)
  case atStart => exact ⟨0, rfl, by unfold ByInv; omega⟩
  case round =>
    obtain ⟨j, rfl, hj⟩ := hrel
    have HJ := Aside0.mk hj
    have hj1 : j ≤ 31 := hj.1
    clear hj
    go_wp2_with fail
    · have hz : (bt * 2 ^ j % 4294967296 / 2147483648 == 0) = true := by assumption
      go_round
      case rel => exact ⟨j + 1, by go_num, by_step HJ.out hb.1 hb0 (by simpa using hz)⟩
      case measure => simp [intOf]; omega
    · have hz : (bt * 2 ^ j % 4294967296 / 2147483648 == 0) = false := by assumption
      have HBT := Aside0.mk (by_done HJ.out hb.1 (by simpa using hz))
      clear hz hb hb0 HT hbt hbt'
      obtain ⟨U, hUf, hUl, hUL, hUv⟩ := lshift_f H0.out (n := j) (by omega) (by omega) (k := l0.length + 1) (by omega)
      obtain ⟨V, hVf, hVl, hVL, hVv⟩ := lshift_f H1.out (n := j) (by omega) (by omega) (k := l1.length + 1) (by omega)
      have HUf := Aside0.mk hUf
      have HVf := Aside0.mk hVf
      have HUL := Aside0.mk hUL
      have HVL := Aside0.mk hVL
      have HUv := Aside0.mk hUv
      have HVv := Aside0.mk hVv
      have HUl := Aside0.mk hUl
      have HVl := Aside0.mk hVl
      have hu1 : l0.length < U.length := by omega
      have hv1 : l1.length < V.length := by omega
      clear hUf hVf hUL hVL hUv hVv hUl hVl
      go_upto_region 5 with fail
      go_cut [8, 9] (fun s8 s9 wx => ∃ gu cu gv cv, s8 = .slice (some ⟨gu, 0, none⟩) U.length cu ∧ s9 = .slice (some ⟨gv, 0, none⟩) l1.length cv ∧ gu ≠ gv ∧ w.heap.size ≤ gu ∧ w.heap.size ≤ gv ∧ (Kd.int .u32).R 25 wx w.heap.size (fun k => k = gu) (.slice (some ⟨gu, 0, none⟩) U.length cu) U ∧ (Kd.int .u32).R 25 wx w.heap.size (fun k => k = gv) (.slice (some ⟨gv, 0, none⟩) V.length cv) V ∧ Below w.heap.size w wx)
      case first =>
        go_region_with (first
          | (go_at_call_of 45 (Value.slice A0 l0.length c0); refine (nat_left.calls (l0.length + 1) A0 c0 l0 (j : Int) U _ ?_ HC0.out HUf.out).mono ?_; (first | exact Kd.C_below HR0.out (below_drew (Below.refl _ _)) | exact Kd.C_below HR0.out HBv.out); rintro e wa ⟨v0, rfl, hou, hbu⟩; obtain ⟨gu, cu, rfl, hgu, hgul, _⟩ := Kd.R_form hou (by omega); have HOU := Aside0.mk hou; have HBu : Aside0 (Below w.heap.size w wa) := (by first | exact ⟨below_step (below_drew (Below.refl _ _)) hbu⟩ | exact ⟨below_step HBv.out hbu⟩); have HXu := Aside0.mk hbu; clear hou hbu)
          | (go_at_call_of 45 (Value.slice (some ad1) l1.length c1); refine (nat_left.calls (l1.length + 1) (some ad1) c1 l1 (j : Int) V _ ?_ HC1.out HVf.out).mono ?_; (first | exact Kd.C_below HR1.out (below_drew (Below.refl _ _)) | exact Kd.C_below HR1.out HBu.out); rintro e wb ⟨v0, rfl, hov, hbv⟩; obtain ⟨gv, cv, rfl, hgv, hgvl, _⟩ := Kd.R_form hov (by omega); have HOV := Aside0.mk hov; have HBv : Aside0 (Below w.heap.size w wb) := (by first | exact ⟨below_step (below_drew (Below.refl _ _)) hbv⟩ | exact ⟨below_step HBu.out hbv⟩); have HXv := Aside0.mk hbv; have hcv := (lenC2 hov); clear hov hbv))
        all_goals (go_wp2_with fail; go_meet)
        refine ⟨gu, cu, gv, cv, rfl, rfl, by omega, hgu, Nat.le_trans HBu.out.size hgv, ?_, ?_, HBv.out⟩
        · exact Kd.R_below (tightR HOU.out) HXv.out
        · exact Kd.R_lower (tightR HOV.out) HBu.out.size
      case rest =>
        obtain ⟨gu, cu, gv, cv, rfl, rfl, hguv, hgu, hgv, hou, hov, hbl⟩ := hcut
        have HOU := Aside0.mk hou
        have HOV := Aside0.mk hov
        have HBL := Aside0.mk hbl
        clear hou hov hbl
        have hnq : l0.length + 1 - l1.length = l0.length - l1.length + 1 := by omega
        obtain ⟨nq, hnqe⟩ : ∃ nq, nq = l0.length - l1.length := ⟨_, rfl⟩
        have hmk := print_make (P := Tryd.prog) 22 25 .u32 4 Tryd.underlying22 info25 (by omega) (l0.length - l1.length + 1) (by omega)
        rw [show ((l0.length - l1.length + 1 : Nat) : Int) = (l0.length : Int) - (l1.length : Int) + 1 from by omega] at hmk
        clear hnq hnqe nq
        go_wp2_with fail
        obtain ⟨n, hn⟩ : ∃ n, l1.length = n + 1 := ⟨l1.length - 1, by omega⟩
        have hp := two_pow_le j (by omega)
        obtain ⟨mv1, mv2, mv3, mv4⟩ := moved (n := n) (bt := bt) (p' := 2 ^ (32 - j)) H1.out HVL.out hn (by rw [HVl.out]; omega) HVv.out (by have := hbtn.out; rw [hn] at this; simpa using this) (by omega) (by rw [BB_eq]; exact hp.2.2.1) HBT.out.1 (by rw [BB_eq]; exact HBT.out.2)
        have hst := start_lt (n := n) (k := l0.length - n) (p := 2 ^ j) H0.out HUL.out HUv.out (by omega) (by omega) (by omega) hp.2.1 mv4
        have HN := Aside0.mk hn
        have HP := Aside0.mk hp
        have MV1 := Aside0.mk mv1
        have MV2 := Aside0.mk mv2
        have MV3 := Aside0.mk mv3
        have HST := Aside0.mk hst
        clear hn hp mv1 mv2 mv3 mv4 hst hmk
        obtain ⟨gq, egq⟩ : ∃ gq, gq = wc.heap.size := ⟨_, rfl⟩
        have HGQ := Aside0.mk egq
        have hguq : gu < gq := by
          obtain ⟨g', c', e_, _, hl_, _⟩ := Kd.R_form HOU.out (by omega)
          injection e_ with e_; injection e_ with e_; injection e_ with e_
          omega
        have hgvq : gv < gq := by
          obtain ⟨g', c', e_, _, hl_, _⟩ := Kd.R_form HOV.out (by omega)
          injection e_ with e_; injection e_ with e_; injection e_ with e_
          omega
        rw [← egq]
        clear egq
        go_loopw [11] (fun s11 wr => ∃ (x : Int) (U' Q : List Int), s11 = .int .i64 x ∧ -1 ≤ x ∧ x ≤ (l0.length : Int) - (l1.length : Int) ∧ LongInv (val U) (val V) U' Q (x + 1).toNat ∧ U'.length = U.length ∧ Q.length = l0.length - l1.length + 1 ∧
          (Kd.int .u32).R 25 wr w.heap.size (fun k => k = gu) (.slice (some ⟨gu, 0, none⟩) U.length cu) U' ∧
          (Kd.int .u32).R 25 wr w.heap.size (fun k => k = gv) (.slice (some ⟨gv, 0, none⟩) V.length cv) V ∧
          (Kd.int .u32).R 25 wr w.heap.size (fun k => k = gq) (.slice (some ⟨gq, 0, none⟩) (l0.length - l1.length + 1) (l0.length - l1.length + 1)) Q ∧ Below w.heap.size w wr) (fun s11 _ => (intOf s11 + 1).toNat)
        case atStart =>
          have hgq := HGQ.out
          refine ⟨(l0.length : Int) - (l1.length : Int), U, List.replicate (l0.length - l1.length + 1) 0, rfl, by omega, by omega, ⟨HUL.out, Lim.replicate _, ?_, ?_⟩, rfl, by simp, Kd.R_alloc HOU.out _, Kd.R_alloc HOV.out _, ?_, below_alloc HBL.out _⟩
          · rw [List.drop_eq_nil_of_le (by simp; omega)]; simp [val]
          · have := HST.out
            rw [show (((l0.length : Int) - (l1.length : Int)) + 1).toNat = l0.length - n from by have := HN.out; omega]
            exact this
          · subst hgq
            exact madeR wc w.heap.size _ HBL.out.size (by omega)
        case round =>
          obtain ⟨x, U', Q, rfl, hx0, hx1, hinv, hU'l, hQl, hou, hov, hoq, hbl⟩ := hrel
          have HI := Aside0.mk hinv
          have HOU2 := Aside0.mk hou
          have HOV2 := Aside0.mk hov
          have HOQ2 := Aside0.mk hoq
          have HBL2 := Aside0.mk hbl
          have HU'l := Aside0.mk hU'l
          have hu' : l0.length < U'.length := by omega
          clear hinv hou hov hoq hbl hU'l
          by_cases hpos : 0 ≤ x
          · obtain ⟨k, rfl⟩ := Int.eq_ofNat_of_zero_le hpos
            have hk1 : k + l1.length ≤ l0.length := by omega
            have cu2 := (cellR HOU2.out (k + l1.length) (by omega)).1
            have cu1 := (cellR HOU2.out (k + l1.length - 1) (by omega)).1
            have cu0 := (cellR HOU2.out (k + l1.length - 2) (by omega)).1
            have cv1 := (cellR HOV2.out (l1.length - 1) (by omega)).1
            have cv2 := (cellR HOV2.out (l1.length - 2) (by omega)).1
            have bu2 := HI.out.limU.getD (k + l1.length)
            have bu1 := HI.out.limU.getD (k + l1.length - 1)
            have bu0 := HI.out.limU.getD (k + l1.length - 2)
            have bv1 := HVL.out.getD (l1.length - 1)
            have bv2 := HVL.out.getD (l1.length - 2)
            have hv1 := MV3.out
            rw [show n = l1.length - 1 from by have := HN.out; omega] at hv1
            generalize eu2 : U'.getD (k + l1.length) 0 = u2 at *
            generalize eu1 : U'.getD (k + l1.length - 1) 0 = u1 at *
            generalize eu0 : U'.getD (k + l1.length - 2) 0 = u0 at *
            generalize ev1 : V.getD (l1.length - 1) 0 = v1 at *
            generalize ev2 : V.getD (l1.length - 2) 0 = v2 at *
            replace eu2 := Aside0.mk eu2
            replace eu1 := Aside0.mk eu1
            replace eu0 := Aside0.mk eu0
            replace ev1 := Aside0.mk ev1
            replace ev2 := Aside0.mk ev2
            simp only [BB_eq] at bu2 bu1 bu0 bv1 bv2
            have hor := or64 u2 u1 bu2.1 bu2.2 bu1.1 bu1.2
            go_wp2_with fail
            go_quiet (fail)
            go_wp2_with fail
            go_quiet (fail)
            have HRD := Aside0.mk (round_of (n := l1.length) HI.out HVL.out (by omega) hm (by rw [HN.out]; exact MV1.out) (by rw [HN.out]; exact MV2.out) (by omega) eu2.out eu1.out eu0.out ev1.out ev2.out hv1)
            clear hor cu1 cu2 hv1
            have hv1 := HRD.out.hv1.1
            have h1st := Aside0.mk HRD.out.first
            go_upto_block 4 with fail
            go_cut [13, 14] (fun s13 s14 wx => ∃ (g : Int) (nd : Nat), s13 = .int .u64 g ∧ Near (val (win U' k (l1.length + 1))) (val V) g ∧ wx = wr.drewN nd)
            case first =>
              go_wp2_with fail
              go_loopw [13, 14] (fun s13 s14 wx => ∃ (g r : Int) (nd : Nat), s13 = .int .u64 g ∧ s14 = .int .u64 r ∧ wx = wr.drewN nd ∧ Guess (val (win U' k (l1.length + 1))) (val V) v1 v2 (u2 * BB + u1) u0 g r ∧ g ≤ 4294967297 ∧ r < BB) (fun s13 _ _ => (intOf s13).toNat)
              case atStart => exact ⟨_, _, _, rfl, rfl, World.drewN_drewN _ _ _, h1st.out.1, h1st.out.2.1, h1st.out.2.2⟩
              case round =>
                obtain ⟨g, r, nd, rfl, rfl, rfl, hG, hg, hr⟩ := hrel
                have HG := Aside0.mk hG
                have hg0 := hG.g0
                have hr0 := hG.r0
                clear hG
                rw [BB_eq] at hr
                by_cases hbig : 4294967295 < g
                · have hbt : decide (4294967295 < g) = true := decide_eq_true hbig
                  have HD := Aside0.mk (HRD.out.down HG.out (.inl (by rw [BB_eq]; omega)))
                  have hg1 := HD.out.2
                  go_wp2_with fail
                  go_quiet (fail)
                  go_wp2_with fail
                  · have hbr : 4294967295 < r + v1 := by assumption
                    go_meet
                    exact ⟨g - 1, _, rfl, HRD.out.good_break HD.out.1 (by rw [BB_eq]; omega), rfl⟩
                  · have hbr : r + v1 ≤ 4294967295 := by assumption
                    go_roundw
                    case rel => exact ⟨g - 1, r + v1, _, rfl, rfl, rfl, HD.out.1, by omega, by rw [BB_eq]; omega⟩
                    case measure => have := HD.out.2; simp [intOf]; omega
                · have hbt : decide (4294967295 < g) = false := decide_eq_false hbig
                  have hmul := mul_le_sq (m := 4294967295) ⟨hg0, by omega⟩ ⟨bv2.1, by omega⟩
                  have hm0 := hmul.1
                  have hm1 : g * v2 ≤ 18446744065119617025 := hmul.2
                  have hor2 := or64 r u0 hr0 hr bu0.1 bu0.2
                  clear hmul
                  by_cases hc : r * 4294967296 + u0 < g * v2
                  · have hct : decide (r * 4294967296 + u0 < g * v2) = true := decide_eq_true hc
                    have HD := Aside0.mk (HRD.out.down HG.out (.inr (by rw [BB_eq]; exact hc)))
                    have hg1 := HD.out.2
                    go_wp2_with fail
                    go_quiet (fail)
                    go_wp2_with fail
                    · have hbr : 4294967295 < r + v1 := by assumption
                      go_meet
                      exact ⟨g - 1, _, rfl, HRD.out.good_break HD.out.1 (by rw [BB_eq]; omega), rfl⟩
                    · have hbr : r + v1 ≤ 4294967295 := by assumption
                      go_roundw
                      case rel => exact ⟨g - 1, r + v1, _, rfl, rfl, rfl, HD.out.1, by omega, by rw [BB_eq]; omega⟩
                      case measure => have := HD.out.2; simp [intOf]; omega
                  · have hct : decide (r * 4294967296 + u0 < g * v2) = false := decide_eq_false hc
                    have HGD := Aside0.mk (HRD.out.good HG.out (by rw [BB_eq]; omega) (by rw [BB_eq]; omega))
                    go_wp2_with fail
                    go_quiet (fail)
                    go_wp2_with fail
                    go_meet
                    exact ⟨g, _, rfl, HGD.out, World.drewN_drewN _ _ _⟩
            case rest =>
              obtain ⟨g, nd, rfl, hgood, rfl⟩ := hcut
              have HGD := Aside0.mk hgood
              have hg0 := hgood.g0
              have hg1 := hgood.g1
              clear hgood
              rw [BB_eq] at hg1
              clear cu0 cv1 cv2 bu2 bu1 bu0 bv1 bv2 hv1
              have hcu : U.length ≤ cu := lenC2 HOU.out
              have hkk : k + l1.length + 1 - k = l1.length + 1 := by omega
              have hvl : (V.take l1.length).length = l1.length := by rw [List.length_take]; omega
              have hVV : Kd.V (Kd.int .u32) 25 (wr.drewN nd) w.heap.size (fun b => b ≠ gu) (.slice (some ⟨gv, 0, none⟩) (V.take l1.length).length cv) (V.take l1.length) := by
                rw [hvl]
                exact Kd.V_mono (Kd.R_V (Kd.R_take (Kd.R_drewN HOV2.out nd) (by omega))) (fun b hb => by subst hb; omega)
              have hUU : (Kd.int .u32).R 25 (wr.drewN nd) w.heap.size (fun b => b = gu) (.slice (some ⟨gu, 0, none⟩) U'.length cu) U' := by
                rw [HU'l.out]; exact Kd.R_drewN HOU2.out nd
              have hc := take_part gu k l1.length cu (cu - k) (some ⟨gv, 0, none⟩) cv U' (V.take l1.length) g (wr.drewN nd) w.heap.size hUU hVV HI.out.limU (HVL.out.take _) ⟨hg0, by rw [BB_eq]; exact hg1⟩ (by omega) hvl
              rw [hvl] at hc
              have HC := Aside0.mk hc
              have HVV := Aside0.mk hVV
              have hVt : val (V.take l1.length) = val V := by rw [HN.out]; exact MV1.out
              have HVt := Aside0.mk hVt
              have HVlt := Aside0.mk (show val V < BB ^ l1.length from by rw [HN.out]; exact MV2.out)
              have hwin := Aside0.mk (HI.out.window HVlt.out (by omega : k + (l1.length + 1) ≤ U'.length))
              clear hvl hVV hUU hc hVt
              go_wp2_with fail
              refine HC.out.mono ?_
              rintro e w2 ⟨L, o, rfl, ho, hLl, hLL, hLb, hLh, hLv, hLR, hLg⟩
              rw [HVt.out] at hLv
              have LL := Aside0.mk hLL
              have LLl := Aside0.mk hLl
              have LB := Aside0.mk hLb
              have LH := Aside0.mk hLh
              have LR := Aside0.mk hLR
              have LG := Aside0.mk hLg
              have LV := Aside0.mk hLv
              have hoq2 := Kd.R_grown (Kd.R_drewN HOQ2.out nd) hLg (fun b hb e_ => by injection e_ with e_; omega)
              have hov2 := Kd.R_grown (Kd.R_drewN HOV2.out nd) hLg (fun b hb e_ => by injection e_ with e_; omega)
              have hbl2 : Below w.heap.size w w2 := (pw_below_drewN HBL2.out nd).grown hLg (by have := HBL2.out.size; simpa using this) (fun b hb => by injection hb with hb; omega)
              have LQ := Aside0.mk hoq2
              have LV2 := Aside0.mk hov2
              have LBL := Aside0.mk hbl2
              clear hLl hLL hLb hLh hLR hLg hLv hoq2 hov2 hbl2 HC
              rcases ho with rfl | rfl
              · have cq := (cellR LQ.out k (by omega)).1
                have fq := (cellR LQ.out k (by omega)).2
                go_wp2_with fail
                go_roundw
                case rel =>
                  have hk := HGD.out.kept (B := BB ^ (l1.length + 1)) LV.out
                  refine ⟨(k : Int) - 1, L, Q.set k g, rfl, by omega, by omega, ?_, by rw [LLl.out]; exact HU'l.out, by rw [List.length_set]; exact hQl, ?_, ?_, ?_, ?_⟩
                  · rw [show ((k : Int) - 1 + 1).toNat = k from by omega]
                    exact HI.out.step (n := l1.length) HVlt.out (by omega) (by omega) LL.out LLl.out LB.out LH.out hk.1 hg0 (by rw [BB_eq]; exact hg1) hk.2
                  · have := Kd.R_far LR.out (p := ⟨gq, k, none⟩) (fun b hb => by subst hb; simp; omega) (.int .u32 g)
                    rw [LLl.out, HU'l.out] at this
                    exact this
                  · exact Kd.R_far LV2.out (p := ⟨gq, k, none⟩) (fun b hb => by subst hb; simp; omega) _
                  · exact (putR LQ.out k g).1
                  · exact LBL.out.setCell (p := ⟨gq, k, none⟩) (by have := HGQ.out; have := HBL.out.size; simp; omega) _
                case measure => simp [intOf]
              · have hLn : ((L.drop k).take (l1.length + 1)).length = l1.length + 1 := by rw [List.length_take, List.length_drop, LLl.out]; omega
                have hvlt := val_lt ((LL.out.drop k).take (l1.length + 1))
                rw [hLn] at hvlt
                have hpos1 := HGD.out.pos LV.out hvlt hwin.out.2.2.1
                have HLT := Aside0.mk hvlt
                have hvl : (V.take l1.length).length = l1.length := by rw [List.length_take]; omega
                have hVV2 := Kd.V_step HVV.out (w1 := w2) (fun b hb hlt => LG.out.block b hlt (fun e_ => hb (by injection e_)))
                have hc := give_part gu k l1.length cu (cu - k) (some ⟨gv, 0, none⟩) cv L (V.take l1.length) w2 w.heap.size LR.out hVV2 LL.out (HVL.out.take _) (by rw [LLl.out]; omega) hvl
                rw [hvl, HVt.out] at hc
                have HC := Aside0.mk hc
                clear hLn hvlt hvl hVV2 hc
                go_wp2_with fail
                refine HC.out.mono ?_
                rintro e w3 ⟨M, c, rfl, hcc, hMl, hML, hMb, hMh, hMv, hMR, hMg⟩
                have ML := Aside0.mk hML
                have MLl := Aside0.mk hMl
                have MB := Aside0.mk hMb
                have MH := Aside0.mk hMh
                have MR := Aside0.mk hMR
                have MV := Aside0.mk hMv
                have MC := Aside0.mk hcc
                have hoq2 := Kd.R_grown LQ.out hMg (fun b hb e_ => by injection e_ with e_; omega)
                have hov2 := Kd.R_grown LV2.out hMg (fun b hb e_ => by injection e_ with e_; omega)
                have hbl2 : Below w.heap.size w w3 := LBL.out.grown hMg LBL.out.size (fun b hb => by injection hb with hb; omega)
                have MQ := Aside0.mk hoq2
                have MV2 := Aside0.mk hov2
                have MBL := Aside0.mk hbl2
                clear hMl hML hMb hMh hMR hMg hMv hcc hoq2 hov2 hbl2 HC
                have cq := (cellR MQ.out k (by omega)).1
                have fq := (cellR MQ.out k (by omega)).2
                go_wp2_with fail
                go_roundw
                case rel =>
                  have hMn : ((M.drop k).take (l1.length + 1)).length = l1.length + 1 := by rw [List.length_take, List.length_drop, MLl.out, LLl.out]; omega
                  have hmlt := val_lt ((ML.out.drop k).take (l1.length + 1))
                  rw [hMn] at hmlt
                  have hk := HGD.out.back (B := BB ^ (l1.length + 1)) LV.out HLT.out MV.out MC.out hmlt hwin.out.2.2.1
                  refine ⟨(k : Int) - 1, M, Q.set k (g - 1), rfl, by omega, by omega, ?_, by rw [MLl.out, LLl.out]; exact HU'l.out, by rw [List.length_set]; exact hQl, ?_, ?_, ?_, ?_⟩
                  · rw [show ((k : Int) - 1 + 1).toNat = k from by omega]
                    exact HI.out.step (n := l1.length) HVlt.out (by omega) (by omega) ML.out (MLl.out.trans LLl.out) (MB.out.trans LB.out) (fun i hi => (MH.out i hi).trans (LH.out i hi)) hk.1 (by omega) (by rw [BB_eq]; omega) hk.2.1
                  · have := Kd.R_far MR.out (p := ⟨gq, k, none⟩) (fun b hb => by subst hb; simp; omega) (.int .u32 (g - 1))
                    rw [MLl.out, LLl.out, HU'l.out] at this
                    exact this
                  · exact Kd.R_far MV2.out (p := ⟨gq, k, none⟩) (fun b hb => by subst hb; simp; omega) _
                  · exact (putR MQ.out k (g - 1)).1
                  · exact MBL.out.setCell (p := ⟨gq, k, none⟩) (by have := HGQ.out; have := HBL.out.size; simp; omega) _
                case measure => simp [intOf]
          · obtain rfl : x = -1 := by omega
            clear hx0 hx1
            have hpv := HP.out
            have hend := long_end (n := l1.length) (p := 2 ^ j) (a := val l0) (b := val l1) (by have := HI.out; rw [HUv.out] at this; exact this) HVv.out (by omega) (by rw [HN.out]; exact MV2.out) (by omega)
            have hUt : (U'.take l1.length).length = l1.length := by rw [List.length_take]; omega
            obtain ⟨R, hRf, hRl, hRL, hRv⟩ := rshift_f (n := j) (HI.out.limU.take l1.length) (by omega) (by omega) (k := l1.length + 1) (by omega)
            rw [hend.1] at hRv
            rw [hUt] at hRl
            have hRt := trim_f hRL (k := l1.length + 1) (by omega) (by omega)
            have hQt := trim_f HI.out.limQ (k := l0.length + 1) (by omega) (by omega)
            rw [hRv] at hRt
            rw [hend.2] at hQt
            have HRf := Aside0.mk hRf
            have HRl := Aside0.mk hRl
            have HRt := Aside0.mk hRt
            have HQt := Aside0.mk hQt
            have HRc : Aside0 (slices_Clone_uint32_uint32.f R = some R) := ⟨by unfold slices_Clone_uint32_uint32.f; rw [if_pos (by omega)]⟩
            have hcu : U.length ≤ cu := lenC2 HOU.out
            have hRR := Kd.R_take HOU2.out (m := l1.length) (by omega)
            have hc := nat_right.calls (l1.length + 1) (fun b => b = gu) (.slice (some ⟨gu, 0, none⟩) l1.length cu) (U'.take l1.length) (j : Int) R w wr HBL2.out hRR HRf.out
            have HC := Aside0.mk hc
            clear hpv hend hUt hRf hRl hRL hRv hRt hQt hRR hc
            have hneg : ¬ (0 : Int) ≤ -1 := by omega
            have hgqw : w.heap.size ≤ gq := by have := HGQ.out; have := HBL.out.size; omega
            go_wp2_with fail
            refine HC.out.mono ?_
            rintro e w1 ⟨rfl, hR1, hB1, hK1⟩
            have hQ1 := Kd.R_kept HOQ2.out hK1 (fun b hb e_ => by omega)
            have hc1 := nat_trim.calls (l0.length + 1) (fun b => b = gq) (some ⟨gq, 0, none⟩) (l0.length - l1.length + 1) Q _ w1 (by rw [hQl]; exact Kd.R_V hQ1) HQt.out
            rw [hQl] at hc1
            have HR1' := Aside0.mk hR1
            have HB1 := Aside0.mk hB1
            have HC1' := Aside0.mk hc1
            clear hR1 hB1 hK1 hQ1 hc1 HC
            go_wp2_with fail
            refine HC1'.out.mono ?_
            rintro e w2 ⟨v0, rfl, hv0, hb2⟩
            have hCC : (Kd.int .u32).C w2 (some ⟨gu, 0, none⟩) R.length R := by
              exact (Kd.R_reads' (Kd.R_below HR1'.out hb2)).2.2
            have hc2 := slices_Clone_uint32_uint32.calls (some ⟨gu, 0, none⟩) cu R R w2 hCC (by rw [HRl.out]; omega) HRc.out
            rw [HRl.out] at hc2
            have HV0 := Aside0.mk hv0
            have HB2 := Aside0.mk hb2
            have HC2 := Aside0.mk hc2
            clear hv0 hb2 hCC hc2 HC1'
            go_wp2_with fail
            refine HC2.out.mono ?_
            rintro e w3 ⟨v1, rfl, hv1, hb3⟩
            have hv1b := Kd.R_base hv1
            obtain ⟨A, c, rfl⟩ := Kd.R_slice hv1
            have hc3 := nat_trim.calls (l1.length + 1) (fun b => w2.heap.size ≤ b) A c R _ w3 (Kd.V_mono (Kd.R_V (Kd.R_tight rfl hv1)) (fun b hb => hv1b b hb.symm)) HRt.out
            have HB3 := Aside0.mk hb3
            have HC3 := Aside0.mk hc3
            clear hv1 hb3 hc3 hv1b HC2
            go_wp2_with fail
            refine HC3.out.mono ?_
            rintro e w4 ⟨v2, rfl, hv2, hb4⟩
            have HV2 := Aside0.mk hv2
            have HB4 := Aside0.mk hb4
            clear hv2 hb4 HC3
            go_wp2_with fail
            go_ret2
            have s1 := HB1.out.size
            have s2 := HB2.out.size
            have s3 := HB3.out.size
            refine ⟨v0, v2, rfl, Kd.V_lower (Kd.V_mono (Kd.V_below (Kd.V_below HV0.out HB3.out) HB4.out) (fun b hb => by omega)) s1, Kd.V_lower (Kd.V_mono HV2.out (fun b hb => by omega)) (Nat.le_trans s1 (Nat.le_trans s2 s3)), ?_⟩
            exact below_step (below_step (below_step HB1.out HB2.out) HB3.out) HB4.out

open Classical in
noncomputable def nat_long.f (l0 l1 : List Int) : Option (List Int × List Int) :=
  if Lim l0 ∧ Lim l1 ∧ Tight l1 ∧ 2 ≤ l1.length ∧ l1.length ≤ l0.length ∧ l0.length ≤ 1024 then some (limbs (val l0 / val l1).toNat, limbs (val l0 % val l1).toNat) else none

theorem nat_long.calls (A0 : Option Addr) (c0 : Nat) (l0 : List Int) (A1 : Option Addr) (c1 : Nat) (l1 : List Int) (r1 : List Int) (r2 : List Int) (w : World) (hr0 : Kd.C (Kd.int .u32) w A0 l0.length l0) (hc0 : l0.length ≤ c0) (hr1 : Kd.C (Kd.int .u32) w A1 l1.length l1) (hc1 : l1.length ≤ c1) (h : nat_long.f l0 l1 = some (r1, r2)) :
    Calls Tryd.prog 36 #[.slice A0 l0.length c0, .slice A1 l1.length c1] w fun e w' => ∃ v0_ v1_ : Value, e = .returned (.tuple #[v0_, v1_]) ∧ Kd.V (Kd.int .u32) 25 w' w.heap.size (fun k_ => (w.heap.size ≤ k_)) v0_ r1 ∧ Kd.V (Kd.int .u32) 25 w' w.heap.size (fun k_ => (w.heap.size ≤ k_)) v1_ r2 ∧ Below w.heap.size w w' := by
  unfold nat_long.f at h
  split at h
  · rename_i hl
    simp only [Option.some.injEq, Prod.mk.injEq] at h
    obtain ⟨rfl, rfl⟩ := h
    obtain ⟨h0, h1, ht, h2, hle, hm⟩ := hl
    exact long_ok A0 c0 l0 A1 c1 l1 w hr0 hc0 hr1 hc1 h0 h1 h2 hle hm ht
  · exact absurd h (by simp)
end Go.Proofs.YtgpninmfbooijaaDoor.Px
