/-
  nat.Add: the sum of two right numbers.
-/
import Derived.Test.YtgpninmfbooijaaDoorNPure
import Derived.Test.YtgpninmfbooijaaDoorNCarry
import Derived.Test.YtgpninmfbooijaaDoorNWords
import Derived.IntWalk
namespace Go.Proofs.YtgpninmfbooijaaDoor.Px
open Go.RowKit Go.Proofs.YtgpninmfbooijaaDoorW.PrintWords Go.Proofs.YtgpninmfbooijaaDoorW.PrintLast Go.Proofs.YtgpninmfbooijaaDoorW.PrintMore Go.Proofs.YtgpninmfbooijaaDoor.Num

open Classical in
noncomputable def nat_Add.f (l0 l1 : List Int) : Option (List Int × Int) :=
  if Lim l0 ∧ Lim l1 then (if Rt l0 ∧ Rt l1 then some (fitS (val l0 + val l1).toNat) else some ([], 2)) else none

set_option maxHeartbeats 2000000 in
set_option maxRecDepth 100000 in
theorem add_err (A0 : Option Addr) (c0 : Nat) (l0 : List Int) (A1 : Option Addr) (c1 : Nat) (l1 : List Int) (w : World) (hr0 : Kd.C (Kd.int .u32) w A0 l0.length l0) (hc0 : l0.length ≤ c0) (hr1 : Kd.C (Kd.int .u32) w A1 l1.length l1) (hc1 : l1.length ≤ c1) (hn : ¬ (Rt l0 ∧ Rt l1)) :
    Calls Tryd.prog 17 #[.slice A0 l0.length c0, .slice A1 l1.length c1] w fun e w' => e = .returned (.tuple #[.slice none 0 0, .int .i64 2]) ∧ Below w.heap.size w w' := by
  have HR0 := Aside0.mk hr0
  have HR1 := Aside0.mk hr1
  have HC0 := Aside0.mk hc0
  have HC1 := Aside0.mk hc1
  clear hr0 hr1 hc0 hc1
  by_cases h0 : Rt l0
  · have h1 : ¬ Rt l1 := fun h => hn ⟨h0, h⟩
    have e0 := Aside0.mk (right_yes h0)
    have e1 := Aside0.mk (right_no h1)
    clear h0 h1 hn
    go_enter Tryd.func17, Tryd.ntmps17
    go_wp2_with (first
      | (go_at_call_of 15 (Value.slice A0 l0.length c0); refine (nat_Right.calls A0 c0 l0 true _ ?_ HC0.out e0.out).mono ?_; exact HR0.out; rintro e w' ⟨rfl, ⟨nd, rfl⟩⟩)
      | (go_at_call_of 15 (Value.slice A1 l1.length c1); refine (nat_Right.calls A1 c1 l1 false _ ?_ HC1.out e1.out).mono ?_; exact Kd.C_drewN HR1.out _; rintro e w' ⟨rfl, ⟨nd, rfl⟩⟩))
    go_ret2
    exact ⟨rfl, by repeat (first | exact Below.refl _ _ | apply pw_below_drewN)⟩
  · have e0 := Aside0.mk (right_no h0)
    clear h0 hn
    go_enter Tryd.func17, Tryd.ntmps17
    go_wp2_with (first
      | (go_at_call 15; refine (nat_Right.calls A0 c0 l0 false _ ?_ HC0.out e0.out).mono ?_; exact HR0.out; rintro e w' ⟨rfl, ⟨nd, rfl⟩⟩))
    go_ret2
    exact ⟨rfl, pw_below_drewN (Below.refl _ _) _⟩

/-- What holds of the loop's state. -/
structure AddInv (x y L : List Int) (n k : Nat) (c : Int) : Prop where
  len : L.length = n
  lim : Lim L
  c0 : 0 ≤ c
  c1 : c ≤ 1
  eq : val (L.take k) + BB ^ k * c = val (x.take k) + val (y.take k)

theorem AddInv.start (x y : List Int) (n : Nat) : AddInv x y (List.replicate n 0) n 0 0 :=
  ⟨by simp, Lim.replicate n, Int.le_refl _, by omega, by simp [val]⟩

theorem AddInv.step {x y L : List Int} {n k : Nat} {c : Int} (h : AddInv x y L n k c) (hx : Lim x) (hy : Lim y) (hk : k < n) :
    AddInv x y (L.set k ((c + (x.getD k 0 + y.getD k 0)) % 4294967296)) n (k + 1) ((c + (x.getD k 0 + y.getD k 0)) / 4294967296) := by
  have hc := add_carry hx hy k h.c0 h.c1
  have he := emod_BB (c + (x.getD k 0 + y.getD k 0))
  have hs := add_step (k := k) (by rw [h.len]; exact hk) h.eq
  simp only [BB_eq] at hc he hs
  exact ⟨by simp [h.len], h.lim.set _ (by rw [BB_eq]; exact he), hc.1, hc.2, by simp only [BB_eq]; exact hs⟩

theorem AddInv.done {x y L : List Int} {n : Nat} {c : Int} (h : AddInv x y L n n c) (hx : Lim x) (hy : Lim y) (hxn : x.length + 1 = n) (hyn : y.length ≤ x.length) : val L = val x + val y := by
  have e := h.eq
  rw [List.take_of_length_le (by rw [h.len]; exact Nat.le_refl _), List.take_of_length_le (by omega), List.take_of_length_le (by omega)] at e
  have h0 := val_nonneg h.lim
  have h1 := val_lt hx
  have h2 := val_lt hy
  have h3 : BB ^ y.length ≤ BB ^ x.length := by
    have e : BB ^ x.length = BB ^ y.length * BB ^ (x.length - y.length) := by rw [← Int.pow_add]; congr 1; omega
    rw [e]
    have := pow_pos (x.length - y.length)
    have : BB ^ y.length * 1 ≤ BB ^ y.length * BB ^ (x.length - y.length) := Int.mul_le_mul_of_nonneg_left (by omega) (Int.le_of_lt (pow_pos _))
    omega
  have h5 := pow_pos x.length
  have h4 : BB ^ n = BB * BB ^ x.length := by rw [← hxn, pow_succ']
  have hc : c = 0 ∨ c = 1 := by have := h.c0; have := h.c1; omega
  rcases hc with rfl | rfl
  · omega
  · rw [h4, BB_eq] at e
    rw [BB_eq] at *
    omega

set_option maxHeartbeats 4000000 in
set_option maxRecDepth 100000 in
theorem add_ok (A0 : Option Addr) (c0 : Nat) (l0 : List Int) (A1 : Option Addr) (c1 : Nat) (l1 : List Int) (w : World) (hr0 : Kd.C (Kd.int .u32) w A0 l0.length l0) (hc0 : l0.length ≤ c0) (hr1 : Kd.C (Kd.int .u32) w A1 l1.length l1) (hc1 : l1.length ≤ c1)
    (h0 : Lim l0) (h1 : Lim l1) (ht0 : Rt l0) (ht1 : Rt l1) (r1 : List Int) (r2 : Int) (hr : fitS (val l0 + val l1).toNat = (r1, r2)) :
    Calls Tryd.prog 17 #[.slice A0 l0.length c0, .slice A1 l1.length c1] w fun e w' => ∃ v : Value, e = .returned (.tuple #[v, .int .i64 r2]) ∧ Kd.V (Kd.int .u32) 25 w' w.heap.size (fun k_ => w.heap.size ≤ k_) v r1 ∧ Below w.heap.size w w' := by
  have HR0 := Aside0.mk hr0
  have HR1 := Aside0.mk hr1
  have HC0 := Aside0.mk hc0
  have HC1 := Aside0.mk hc1
  have H0 := Aside0.mk h0
  have H1 := Aside0.mk h1
  have e0 := Aside0.mk (right_yes ht0)
  have e1 := Aside0.mk (right_yes ht1)
  have hl0 := ht0.1
  have hl1 := ht1.1
  have HRS := Aside0.mk hr
  clear hr0 hr1 hc0 hc1 h0 h1 ht0 ht1 hr
  go_enter Tryd.func17, Tryd.ntmps17
  go_upto_if 22 with (first
      | (go_at_call_of 15 (Value.slice A0 l0.length c0); refine (nat_Right.calls A0 c0 l0 true _ ?_ HC0.out e0.out).mono ?_; exact HR0.out; rintro e w' ⟨rfl, ⟨nd, rfl⟩⟩)
      | (go_at_call_of 15 (Value.slice A1 l1.length c1); refine (nat_Right.calls A1 c1 l1 true _ ?_ HC1.out e1.out).mono ?_; exact Kd.C_drewN HR1.out _; rintro e w' ⟨rfl, ⟨nd1, rfl⟩⟩))
  go_cut [0, 1] (fun s0 s1 wx => ∃ Ax cx x Ay cy y, s0 = .slice Ax (List.length x) cx ∧ s1 = .slice Ay (List.length y) cy ∧ Kd.C (Kd.int .u32) w Ax x.length x ∧ Kd.C (Kd.int .u32) w Ay y.length y ∧ y.length ≤ x.length ∧ x.length ≤ 1024 ∧ Lim x ∧ Lim y ∧ val x + val y = val l0 + val l1 ∧ Below w.heap.size w wx)
  case first =>
    go_wp2_with fail
    · have hlt : l0.length < l1.length := by assumption
      go_meet
      exact ⟨A1, c1, l1, A0, c0, l0, rfl, rfl, HR1.out, HR0.out, by omega, hl1, H1.out, H0.out, by omega, by repeat (first | exact Below.refl _ _ | apply pw_below_drewN)⟩
    · go_meet
      exact ⟨A0, c0, l0, A1, c1, l1, rfl, rfl, HR0.out, HR1.out, by omega, hl0, H0.out, H1.out, rfl, by repeat (first | exact Below.refl _ _ | apply pw_below_drewN)⟩
  case rest =>
    obtain ⟨Ax, cx, x, Ay, cy, y, rfl, rfl, hx, hy, hyx, hx1, limx, limy, hv, hB⟩ := hcut
    have HX := Aside0.mk hx
    have HY := Aside0.mk hy
    have LX := Aside0.mk limx
    have LY := Aside0.mk limy
    have HV := Aside0.mk hv
    have HB := Aside0.mk hB
    clear hx hy limx limy hv hB HR0 HR1 HC0 HC1 H0 H1 e0 e1 hl0 hl1
    have hmk := print_make (P := Tryd.prog) 22 25 .u32 4 Tryd.underlying22 info25 (by omega) (x.length + 1) (by omega)
    rw [show ((x.length + 1 : Nat) : Int) = (x.length : Int) + 1 from by omega] at hmk
    go_upto_region 5 with fail
    go_cut [6, 7] (fun s6 s7 wx => ∃ g B, s6 = .slice (some ⟨g, 0, none⟩) (x.length + 1) (x.length + 1) ∧ s7 = .func (.func 44) #[] #[.pointer (some ⟨B, 0, none⟩)] ∧ w.heap.size ≤ B ∧ w.heap.size ≤ g ∧ wx.heap[B]? = some (.cells #[.int .u64 0] 28 (0, 0)) ∧ (Kd.int .u32).R 25 wx w.heap.size (fun k => k ≠ B) (.slice (some ⟨g, 0, none⟩) (x.length + 1) (x.length + 1)) (List.replicate (x.length + 1) 0) ∧ Below w.heap.size w wx)
    case first =>
      have hsum : IntKind.i64.wrap ((x.length : Int) + 1) = (x.length : Int) + 1 := IntWalk.i64_in _ (by omega)
      go_region_with (go_at_call 30; refine (carries_calls _).mono ?_; rintro e w' ⟨rfl, rfl⟩)
      all_goals (clear hsum hmk; go_wp2_with fail; go_meet)
      · refine ⟨_, _, rfl, rfl, by have := HB.out.size; omega, HB.out.size, heap_alloc2_new _ _ _, ?_, ?_⟩
        · exact Kd.R_drew (Kd.R_alloc (Kd.R_mono (madeR wc w.heap.size _ HB.out.size (by omega)) (fun k hk => by omega)) _)
        · exact below_drew (below_alloc (below_alloc HB.out _) _)
      · refine ⟨_, _, rfl, rfl, HB.out.size, by have := HB.out.size; omega, heap_alloc2_old _ _ _, ?_, ?_⟩
        · have := madeR (wc.alloc (.cells #[.int .u64 0] 28)) w.heap.size (x.length + 1) (by have := HB.out.size; simp; omega) (by omega)
          rw [World.size_alloc] at this
          exact Kd.R_drew (Kd.R_mono this (fun k hk => by omega))
        · exact below_drew (below_alloc (below_alloc HB.out _) _)
    case rest =>
      obtain ⟨g, B, rfl, rfl, hgB, hgg, hbox, hown, hBB⟩ := hcut
      have HB1 := Aside0.mk hBB
      have HBX := Aside0.mk hbox
      have HOW := Aside0.mk hown
      have hGB := Aside0.mk hgB
      have hGG := Aside0.mk hgg
      clear hBB hbox hown hmk HB hgB hgg
      go_wp2_with fail
      go_loopw [32] (fun i wr => ∃ (k : Nat) (c : Int) (L : List Int), i = .int .i64 (k : Int) ∧ k ≤ x.length + 1 ∧ AddInv x y L (x.length + 1) k c ∧ wr.heap[B]? = some (.cells #[.int .u64 c] 28 (0, 0)) ∧ (Kd.int .u32).R 25 wr w.heap.size (fun k => k ≠ B) (.slice (some ⟨g, 0, none⟩) (x.length + 1) (x.length + 1)) L ∧ Below w.heap.size w wr) (fun i _ => x.length + 1 - (intOf i).toNat)
      case atStart => exact ⟨0, 0, _, rfl, by omega, AddInv.start x y _, HBX.out, HOW.out, HB1.out⟩
      case round =>
        obtain ⟨k, c, L, rfl, hk, hinv, hbox, hown, hbel⟩ := hrel
        have HI := Aside0.mk hinv
        have HBX2 := Aside0.mk hbox
        have HOW2 := Aside0.mk hown
        have HBL := Aside0.mk hbel
        clear hinv hbox hown hbel
        by_cases hlt : k < x.length + 1
        · have hcb := HI.out.c0
          have hcb1 := HI.out.c1
          have ha := LX.out.getD k
          have hb := LY.out.getD k
          have hbc : wr.cell? ⟨B, 0, none⟩ = some (.int .u64 c) := by rw [blk_cell HBX2.out]; rfl
          have hbf : wr.frozen? ⟨B, 0, none⟩ = false := blk_frozen HBX2.out 0
          have hNE := Aside0.mk (show B ≠ g from fun e_ => (HOW2.out.1 g rfl) e_.symm)
          have hstep := Aside0.mk (HI.out.step LX.out LY.out hlt)
          by_cases hx : k < x.length
          · obtain ⟨adx, exx, hcx⟩ := cellC (Kd.C_below HX.out HBL.out) k hx
            subst exx
            by_cases hy : k < y.length
            · obtain ⟨ady, eyy, hcy⟩ := cellC (Kd.C_below HY.out HBL.out) k hy
              subst eyy
              generalize x.getD k 0 = a at *
              generalize y.getD k 0 = b at *
              simp only [BB_eq] at ha hb
              go_wp2_with (go_at_call 44; refine (carry_calls B c _ _ (by omega) (by omega) (by omega) hbc hbf).mono ?_; rintro e w1 ⟨rfl, hw⟩; have hown1 := Kd.R_far HOW2.out (p := ⟨B, 0, none⟩) (fun k hk => hk) (.int .u64 ((c + (a + b)) / 4294967296)); rw [← hw] at hown1; have hgc := (cellR hown1 k hlt).1; have hgf := (cellR hown1 k hlt).2; have HW1 := Aside0.mk hown1; have HWE := Aside0.mk hw; clear hw hown1)
              go_roundw
              case rel =>
                refine ⟨k + 1, _, _, by go_num, by omega, hstep.out, ?_, ?_, ?_⟩
                · rw [HWE.out]; exact (blk_far (blk_set HBX2.out 0 _) (by simpa using hNE.out) _).trans (by simp)
                · exact (putR HW1.out k _).1
                · rw [HWE.out]; exact (HBL.out.setCell (p := ⟨B, 0, none⟩) hGB.out _).setCell (p := ⟨g, k, none⟩) hGG.out _
              case measure => simp [intOf]; omega
            · have hb0 : y.getD k 0 = 0 := by rw [List.getD_eq_getElem?_getD, List.getElem?_eq_none (by omega)]; rfl
              rw [hb0] at hstep
              clear hb0 hb
              generalize x.getD k 0 = a at *
              simp only [BB_eq] at ha
              simp only [Int.add_zero] at hstep
              go_wp2_with (go_at_call 44; refine (carry_calls B c _ _ (by omega) (by omega) (by omega) hbc hbf).mono ?_; rintro e w1 ⟨rfl, hw⟩; have hown1 := Kd.R_far HOW2.out (p := ⟨B, 0, none⟩) (fun k hk => hk) (.int .u64 ((c + a) / 4294967296)); rw [← hw] at hown1; have hgc := (cellR hown1 k hlt).1; have hgf := (cellR hown1 k hlt).2; have HW1 := Aside0.mk hown1; have HWE := Aside0.mk hw; clear hw hown1)
              go_roundw
              case rel =>
                refine ⟨k + 1, _, _, by go_num, by omega, hstep.out, ?_, ?_, ?_⟩
                · rw [HWE.out]; exact (blk_far (blk_set HBX2.out 0 _) (by simpa using hNE.out) _).trans (by simp)
                · exact (putR HW1.out k _).1
                · rw [HWE.out]; exact (HBL.out.setCell (p := ⟨B, 0, none⟩) hGB.out _).setCell (p := ⟨g, k, none⟩) hGG.out _
              case measure => simp [intOf]; omega
          · have hb0 : y.getD k 0 = 0 := by rw [List.getD_eq_getElem?_getD, List.getElem?_eq_none (by omega)]; rfl
            have ha0 : x.getD k 0 = 0 := by rw [List.getD_eq_getElem?_getD, List.getElem?_eq_none (by omega)]; rfl
            have hy : ¬ k < y.length := by omega
            rw [ha0, hb0] at hstep
            clear hb0 ha0 ha hb
            simp only [Int.add_zero] at hstep
            go_wp2_with (go_at_call 44; refine (carry_calls B c _ _ (by omega) (by omega) (by omega) hbc hbf).mono ?_; rintro e w1 ⟨rfl, hw⟩; simp only [Int.add_zero] at hw; have hown1 := Kd.R_far HOW2.out (p := ⟨B, 0, none⟩) (fun k hk => hk) (.int .u64 (c / 4294967296)); rw [← hw] at hown1; have hgc := (cellR hown1 k hlt).1; have hgf := (cellR hown1 k hlt).2; have HW1 := Aside0.mk hown1; have HWE := Aside0.mk hw; clear hw hown1)
            go_roundw
            case rel =>
              refine ⟨k + 1, _, _, by go_num, by omega, hstep.out, ?_, ?_, ?_⟩
              · rw [HWE.out]; exact (blk_far (blk_set HBX2.out 0 _) (by simpa using hNE.out) _).trans (by simp)
              · exact (putR HW1.out k _).1
              · rw [HWE.out]; exact (HBL.out.setCell (p := ⟨B, 0, none⟩) hGB.out _).setCell (p := ⟨g, k, none⟩) hGG.out _
            case measure => simp [intOf]; omega
        · have hkn : k = x.length + 1 := by omega
          subst hkn
          have hsum := HI.out.done LX.out LY.out rfl hyx
          have hlen := HI.out.len
          rw [HV.out] at hsum
          have hfit := Aside0.mk (fit_f HI.out.lim (k := x.length + 2) (by omega) (by omega))
          rw [hsum, HRS.out] at hfit
          have hhx : ¬ (x.length + 1 < x.length + 1) := by omega
          have hV : (Kd.int .u32).V 25 wr wr.heap.size (fun k => k = g) (.slice (some ⟨g, 0, none⟩) L.length (x.length + 1)) L := by
            rw [hlen]
            exact Kd.V_mono (Kd.R_V (Kd.R_tight rfl HOW2.out)) (fun k hk => by simpa [Value.ownBlock] using hk)
          have hc := nat_fit.calls (x.length + 2) (fun k => k = g) _ _ L r1 r2 wr hV hfit.out
          rw [hlen] at hc
          have HC := Aside0.mk hc
          clear hsum hlen hV hc
          go_wp2_with (go_at_call 31; refine HC.out.mono ?_; rintro e w2 ⟨v, rfl, hv, hb⟩; have HVV := Aside0.mk hv; have HBB := Aside0.mk hb; clear hv hb)
          go_ret2
          refine ⟨v, rfl, Kd.V_lower (Kd.V_mono HVV.out (fun k hk => ?_)) HBL.out.size, below_step HBL.out HBB.out⟩
          rcases hk with rfl | hk
          · exact hGG.out
          · exact Nat.le_trans HBL.out.size hk

theorem nat_Add.calls (A0 : Option Addr) (c0 : Nat) (l0 : List Int) (A1 : Option Addr) (c1 : Nat) (l1 : List Int) (r1 : List Int) (r2 : Int) (w : World) (hr0 : Kd.C (Kd.int .u32) w A0 l0.length l0) (hc0 : l0.length ≤ c0) (hr1 : Kd.C (Kd.int .u32) w A1 l1.length l1) (hc1 : l1.length ≤ c1) (h : nat_Add.f l0 l1 = some (r1, r2)) :
    Calls Tryd.prog 17 #[.slice A0 l0.length c0, .slice A1 l1.length c1] w fun e w' => ∃ v0_ : Value, e = .returned (.tuple #[v0_, .int .i64 r2]) ∧ Kd.V (Kd.int .u32) 25 w' w.heap.size (fun k_ => (w.heap.size ≤ k_)) v0_ r1 ∧ Below w.heap.size w w' := by
  unfold nat_Add.f at h
  split at h
  · rename_i hl
    split at h
    · rename_i hr
      exact add_ok A0 c0 l0 A1 c1 l1 w hr0 hc0 hr1 hc1 hl.1 hl.2 hr.1 hr.2 r1 r2 (Option.some.inj h)
    · rename_i hr
      simp only [Option.some.injEq, Prod.mk.injEq] at h
      obtain ⟨rfl, rfl⟩ := h
      refine (add_err A0 c0 l0 A1 c1 l1 w hr0 hc0 hr1 hc1 hr).mono ?_
      rintro e w' ⟨rfl, hb⟩
      exact ⟨_, rfl, Kd.V_nil _ _ _ _ _, hb⟩
  · exact absurd h (by simp)

#print axioms nat_Add.calls
end Go.Proofs.YtgpninmfbooijaaDoor.Px
