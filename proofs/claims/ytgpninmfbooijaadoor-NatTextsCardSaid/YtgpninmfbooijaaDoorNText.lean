/-
  nat.Text: the decimal text of a number.
-/
import Derived.Test.YtgpninmfbooijaaDoorNDig
import Derived.Test.YtgpninmfbooijaaDoorNWords
import Derived.Test.YtgpninmfbooijaaDoorNClone
import Derived.Test.YtgpninmfbooijaaDoorPx3
import Derived.Test.YtgpninmfbooijaaDoorNTake
namespace Go.Proofs.YtgpninmfbooijaaDoor.Px
open Go.RowKit Go.Proofs.YtgpninmfbooijaaDoorW.PrintWords Go.Proofs.YtgpninmfbooijaaDoorW.PrintLast Go.Proofs.YtgpninmfbooijaaDoorW.PrintMore Go.Proofs.YtgpninmfbooijaaDoor.Num

def lenV : Value → Nat
  | .slice _ n _ => n
  | _ => 0

set_option maxHeartbeats 2000000 in
set_option maxRecDepth 100000 in
theorem trim_walk (A : Option Addr) (c : Nat) (l : List Int) (w : World) (hC : Kd.C (Kd.int .u32) w A l.length l) (hc : l.length ≤ c) (hL : Lim l) :
    Calls Tryd.prog 33 #[.slice A l.length c] w fun e w' => ∃ m, e = .returned (.slice A m c) ∧ m ≤ l.length ∧ l.take m = limbs (val l).toNat ∧ w' = w := by
  have HC := Aside0.mk hC
  have HL := Aside0.mk hL
  have HLEN := (lenC hC).2
  clear hC hL
  go_enter Tryd.func33, Tryd.ntmps33
  go_wp2_with fail
  go_loopw [0] (fun v wr => ∃ (m : Nat), v = .slice A m c ∧ wr = w ∧ m ≤ l.length ∧ (∀ j, m ≤ j → j < l.length → l.getD j 0 = 0)) (fun v _ => lenV v)
  case atStart => exact ⟨l.length, rfl, rfl, Nat.le_refl _, fun j h1 h2 => by omega⟩
  case round =>
    obtain ⟨m, rfl, rfl, hm, hz⟩ := hrel
    have HZ := Aside0.mk hz
    clear hz
    rcases m with _ | m
    · go_wp2_with fail
      go_ret
      exact ⟨0, rfl, hm, trim_limbs HL.out 0 (Nat.zero_le _) HZ.out (fun h => absurd h (by omega)), rfl⟩
    · obtain ⟨ad, rfl, hcell⟩ := cellC HC.out m (by omega)
      have hw : IntKind.i64.wrap (((m + 1 : Nat) : Int) - 1) = (m : Int) := (@IntWalk.i64_in (((m + 1 : Nat) : Int) - 1) (by omega)).trans (by omega)
      by_cases h0 : l.getD m 0 = 0
      · rw [h0] at hcell
        go_wp2_with fail
        go_roundw
        case rel => exact ⟨m, rfl, trivial, by omega, fun j h1 h2 => by
          rcases Nat.lt_or_ge m j with h | h
          · exact HZ.out j (by omega) h2
          · rw [show j = m by omega]; exact h0⟩
        case measure => simp [lenV]
      · have hb : (l.getD m 0 == 0) = false := beq_false_of_ne h0
        generalize hx : l.getD m 0 = x at hcell hb
        go_wp2_with fail
        go_ret
        exact ⟨m + 1, rfl, hm, trim_limbs HL.out (m + 1) hm HZ.out (fun _ => h0), rfl⟩
theorem u64_in {x : Int} (h0 : 0 ≤ x) (h1 : x < 18446744073709551616) : IntKind.u64.wrap x = x := by
  simp [IntKind.wrap, IntKind.signed, IntKind.bits]; omega

/-- What small leaves: the quotient by a number of one limb, its limbs as many as before; and the remainder. -/
theorem small_l0 (b : Int) (hb : 1 ≤ b ∧ b < 4294967296) : ∀ (m : Nat) (k : Nat) (L : List Int) (r : Int), m < k → m ≤ L.length → L.length ≤ 9223372036854775807 → Lim L → 0 ≤ r → r < b →
    ∃ (L' : List Int) (q : Int), nat_small.l0 k L b r ((m : Int) - 1) = some (q, L') ∧ L'.length = L.length ∧ Lim L' ∧ 0 ≤ q ∧ q < b ∧ L'.drop m = L.drop m ∧ r * BB ^ m + val (L.take m) = val (L'.take m) * b + q := by
  intro m
  induction m with
  | zero =>
    intro k L r hk hm hl hL h0 h1
    obtain ⟨k, rfl⟩ : ∃ k', k = k' + 1 := ⟨k - 1, by omega⟩
    rw [nat_small.l0, if_neg (by omega)]
    exact ⟨L, r, by rw [Int.emod_eq_of_lt h0 (by omega)], rfl, hL, h0, h1, rfl, by simp [val]⟩
  | succ m ih =>
    intro k L r hk hm hl hL h0 h1
    obtain ⟨k, rfl⟩ : ∃ k', k = k' + 1 := ⟨k - 1, by omega⟩
    have hx := hL.getD m
    rw [show (((m + 1 : Nat) : Int) - 1) = (m : Int) by omega, nat_small.l0, if_pos (by omega), if_pos (by omega), if_pos (by omega)]
    rw [rd_eq, Int.toNat_natCast]
    generalize hxe : L.getD m 0 = x at *
    rw [BB_eq] at hx
    have w1 : IntKind.u64.wrap b = b := u64_in (by omega) (by omega)
    have w2 : IntKind.u64.wrap (r * 4294967296) = r * 4294967296 := u64_in (by omega) (by omega)
    have w3 : IntKind.u64.wrap x = x := u64_in (by omega) (by omega)
    rw [w1, if_neg (by omega), w2, w3]
    have ho : Go.bits .or .u64 (r * 4294967296) x = r * 4294967296 + x := or64 r x h0 (by omega) hx.1 hx.2
    rw [ho]
    have hn : 0 ≤ r * 4294967296 + x := by omega
    rw [Int.tdiv_eq_ediv_of_nonneg hn, Int.tmod_eq_emod_of_nonneg hn, wrap_in (by omega) (by omega)]
    have hq0 : 0 ≤ (r * 4294967296 + x) / b := Int.ediv_nonneg hn (by omega)
    have hq1 : (r * 4294967296 + x) / b < 4294967296 := Int.ediv_lt_of_lt_mul (by omega) (by
      have := Int.mul_le_mul_of_nonneg_right (show r + 1 ≤ b by omega) (show (0:Int) ≤ 4294967296 by omega); omega)
    have hr0 := Int.emod_nonneg (r * 4294967296 + x) (show b ≠ 0 by omega)
    have hr1 := Int.emod_lt_of_pos (r * 4294967296 + x) (show 0 < b by omega)
    have hdm := Int.mul_ediv_add_emod (r * 4294967296 + x) b
    generalize (r * 4294967296 + x) / b = q at *
    generalize (r * 4294967296 + x) % b = s at *
    rw [u64_in (by omega) (by omega), Int.emod_eq_of_lt hq0 hq1]
    obtain ⟨L', q', he, hlen, hlim, hq'0, hq'1, hdr, hval⟩ := ih k (L.set m q) s (by omega) (by rw [List.length_set]; omega) (by rw [List.length_set]; omega) (hL.set m ⟨hq0, by rw [BB_eq]; exact hq1⟩) hr0 hr1
    rw [List.length_set] at hlen
    refine ⟨L', q', he, hlen, hlim, hq'0, hq'1, ?_, ?_⟩
    · have h2 := congrArg (List.drop 1) hdr
      rw [List.drop_drop, List.drop_drop] at h2
      rw [h2, List.drop_set_of_lt (by omega)]
    · have ht : (L.set m q).take m = L.take m := List.take_set_of_le (Nat.le_refl _)
      rw [ht] at hval
      have hg : L'.getD m 0 = q := by
        have h3 := congrArg (fun z => z.getD 0 0) hdr
        simp only [List.getD_eq_getElem?_getD, List.getElem?_drop, Nat.add_zero] at h3
        rw [List.getD_eq_getElem?_getD, h3, List.getElem?_set_self (show m < L.length by omega)]
        rfl
      rw [val_take_succ L m (by omega), val_take_succ L' m (by omega), hg, hxe, pow_succ', BB_eq]
      rw [BB_eq] at hval
      have : r * (4294967296 * 4294967296 ^ m) + (val (L.take m) + 4294967296 ^ m * x) = val (L.take m) + 4294967296 ^ m * (r * 4294967296 + x) := by grind
      rw [this, ← hdm]
      have h5 : (val (L'.take m) + 4294967296 ^ m * q) * b + q' = (val (L'.take m) * b + q') + 4294967296 ^ m * (b * q) := by grind
      rw [h5, ← hval]
      grind

theorem small_f (k : Nat) (L : List Int) (hk : L.length < k) (hl : L.length ≤ 9223372036854775807) (hL : Lim L) (b : Int) (hb : 1 ≤ b ∧ b < 4294967296) :
    ∃ (L' : List Int) (q : Int), nat_small.f k L b = some (q, L') ∧ L'.length = L.length ∧ Lim L' ∧ 0 ≤ q ∧ q < b ∧ val L = val L' * b + q := by
  unfold nat_small.f
  rw [wrap_in (by omega) (by omega)]
  obtain ⟨L', q, h1, h2, h3, h4, h5, _, h6⟩ := small_l0 b hb L.length k L 0 hk (Nat.le_refl _) hl hL (Int.le_refl _) (by omega)
  refine ⟨L', q, h1, h2, h3, h4, h5, ?_⟩
  rw [List.take_of_length_le (Nat.le_refl _), List.take_of_length_le (by omega)] at h6
  omega

/-- The nine places of a block, of which so many are written. -/
def nine (ns : List Int) : Array Value := (nums .u8 (chr ns ++ List.replicate (9 - ns.length) 0)).toArray
theorem nine_size (ns : List Int) (h : ns.length ≤ 9) : (nine ns).size = 9 := by simp [nine, nums, chr]; omega
theorem nine_set (ns : List Int) (d : Int) (h : ns.length < 9) : (nine ns).setIfInBounds ns.length (.int .u8 (48 + d)) = nine (ns ++ [d]) := by
  unfold nine
  obtain ⟨m, hm⟩ : ∃ m, 9 - ns.length = m + 1 := ⟨8 - ns.length, by omega⟩
  rw [hm, List.replicate_succ, show 9 - (ns ++ [d]).length = m by rw [List.length_append, List.length_singleton]; omega, chr_append, List.setIfInBounds_toArray]
  congr 1
  simp only [nums, List.map_append, List.map_cons, chr, List.map_nil, List.append_assoc]
  rw [List.set_append_right _ _ (by simp)]
  simp

theorem le_mul_one {a b : Int} (ha : 0 ≤ a) (hb : 1 ≤ b) : a ≤ a * b := by have := Int.mul_le_mul_of_nonneg_left hb ha; omega
theorem ten_pow_pos (n : Nat) : (0 : Int) < 10 ^ n := Int.pow_pos (by decide)

theorem text_room {V : Int} {L : Nat} {x : Int} (hV : V < BB ^ 1024) (hx : 1 ≤ x) {D : Int} (hD : 0 ≤ D) (h : V = D + 10 ^ L * x) : L < 10240 := by
  rcases Nat.lt_or_ge L 10240 with h1 | h1
  · exact h1
  · exfalso
    have h2 : (10 : Int) ^ 10240 ≤ 10 ^ L := by
      obtain ⟨d, rfl⟩ := Nat.exists_eq_add_of_le h1
      rw [Int.pow_add]
      exact le_mul_one (Int.le_of_lt (ten_pow_pos _)) (ten_pow_pos d)
    have h3 : BB ^ 1024 ≤ (10 : Int) ^ 10240 := by
      rw [show (10240 : Nat) = 10 * 1024 from rfl, Int.pow_mul]
      have : ∀ n : Nat, BB ^ n ≤ ((10 : Int) ^ 10) ^ n := fun n => by
        induction n with
        | zero => simp
        | succ n ih =>
          rw [Int.pow_succ, Int.pow_succ]
          have a := Int.mul_le_mul_of_nonneg_right ih (Int.le_of_lt BB_pos)
          have b := Int.mul_le_mul_of_nonneg_left (show BB ≤ (10 : Int) ^ 10 by rw [BB_eq]; decide) (Int.le_of_lt (Int.pow_pos (n := (10:Int) ^ 10) (m := n) (by decide)))
          omega
      exact this 1024
    have h4 : (10 : Int) ^ L ≤ 10 ^ L * x := le_mul_one (Int.le_of_lt (ten_pow_pos _)) hx
    generalize (10 : Int) ^ 10240 = a at *
    generalize (10 : Int) ^ L = b at *
    generalize BB ^ 1024 = c at *
    omega

theorem own_of (A : Option Addr) (n c n' c' : Nat) : (Value.slice A n c).ownBlock = (Value.slice A n' c').ownBlock := by cases A <;> rfl

set_option maxHeartbeats 8000000 in
set_option maxRecDepth 100000 in
theorem text_walk (A0 : Option Addr) (c0 : Nat) (l0 : List Int) (w : World) (hr0 : Kd.C (Kd.int .u32) w A0 l0.length l0) (hc0 : l0.length ≤ c0) (hL : Lim l0) (hR : Rt l0) :
    Calls Tryd.prog 22 #[.slice A0 l0.length c0] w fun e w' => e = .returned (.tuple #[.string (textS (val l0).toNat), .int .i64 0]) ∧ Below w.heap.size w w' := by
  have HR0 := Aside0.mk hr0
  have HC0 := Aside0.mk hc0
  have HL := Aside0.mk hL
  have HRT := Aside0.mk hR
  have hlen : l0.length ≤ 1024 := hR.1
  have HV : Aside0 (val l0 < BB ^ 1024) := ⟨by
    refine Int.lt_of_lt_of_le (val_lt hL) ?_
    obtain ⟨d, hd⟩ := Nat.exists_eq_add_of_le hlen
    rw [hd, Int.pow_add]
    exact le_mul_one (Int.le_of_lt (pow_pos _)) (pow_pos d)⟩
  clear hr0 hc0 hL hR
  go_enter Tryd.func22, Tryd.ntmps22
  go_wp2_with (go_at_call 15; refine (nat_Right.calls A0 c0 l0 true _ HR0.out HC0.out (right_yes HRT.out)).mono ?_; rintro e w' ⟨rfl, ⟨nd, rfl⟩⟩)
  go_wp2_with (go_at_call 32; refine (slices_Clone_uint32_uint32.calls A0 c0 l0 l0 _ (Kd.C_drewN HR0.out nd) HC0.out (by unfold slices_Clone_uint32_uint32.f; rw [if_pos (by omega)])).mono ?_; rintro e w1 ⟨v0, rfl, ho0, hb0⟩; have HO := Aside0.mk ho0; have HB := Aside0.mk (below_step (pw_below_drewN (Below.refl w.heap.size w) nd) hb0); clear ho0 hb0)
  obtain ⟨A4, c4, e4⟩ := Kd.R_slice HO.out
  subst e4
  go_wp2_with fail
  go_loopw [4, 5] (fun v4 v5 wr => ∃ (R ds : List Int), v4 = .slice A4 R.length c4 ∧ (Kd.int .u32).R 25 wr w.heap.size (fun k => some k = (Value.slice A4 0 0).ownBlock) (.slice A4 R.length c4) R ∧ Lim R ∧ Tight R ∧ (Kd.int .u8).R 5 wr w.heap.size (fun k => some k ≠ (Value.slice A4 0 0).ownBlock) v5 (chr ds) ∧ Dec.Lim ds ∧ val l0 = Dec.val ds + 10 ^ ds.length * val R ∧ Below w.heap.size w wr) (fun _ v5 _ => 20000 - lenV v5)
  case atStart => exact ⟨l0, [], rfl, Kd.R_mono (Kd.R_tight rfl HO.out) (fun k hk => by rw [hk, own_of]), HL.out, HRT.out.2, Kd.R_nil _ _ _ _ _, Dec.Lim.nil, by simp [Dec.val], HB.out⟩
  case round =>
    obtain ⟨R, ds, rfl, hR, hLR, hTR, hO, hDL, hval, hb⟩ := hrel
    have HOR := Aside0.mk hR
    have HLR := Aside0.mk hLR
    have HTR := Aside0.mk hTR
    have HO := Aside0.mk hO
    have HDL := Aside0.mk hDL
    have HVAL := Aside0.mk hval
    have HB := Aside0.mk hb
    clear hR hLR hTR hO hDL hval hb
    by_cases hm : 0 < R.length
    · have hpos : 0 < val R := HTR.out.pos HLR.out (by rintro rfl; simp at hm)
      have hroom : ds.length < 10240 := text_room HV.out (show 1 ≤ val R by omega) (Dec.val_nonneg HDL.out) HVAL.out
      have HPOS := Aside0.mk hpos
      clear hpos
      obtain ⟨A5, c5, e5⟩ := Kd.R_slice HO.out
      subst e5
      have HRC := Kd.R_reads' HOR.out
      obtain ⟨R', n, hs, hl', hL', hn0, hn1, hv'⟩ := small_f (R.length + 1) R (by omega) (lenC HRC.2.2).2 HLR.out 1000000000 (by omega)
      have HS := Aside0.mk hs
      have HRN := Aside0.mk hl'
      have HL' := Aside0.mk hL'
      have HV' := Aside0.mk hv'
      clear hs hL' hv' HRC
      go_wp2_with (go_at_call 35; refine (nat_small.calls (R.length + 1) (fun k => some k = (Value.slice A4 0 0).ownBlock) _ R 1000000000 n R' w _ HB.out HOR.out HS.out).mono ?_; rintro e w2 ⟨rfl, ho2, hb2, hk2⟩; have HOR2 := Aside0.mk ho2; have HB2 := Aside0.mk hb2; have HK2 := Aside0.mk hk2; clear ho2 hb2 hk2)
      have hr2 : (Kd.int .u32).R 25 w2 w.heap.size (fun k => some k = (Value.slice A4 0 0).ownBlock) (.slice A4 R'.length c4) R' := by
        rw [HRN.out]; exact Kd.R_mono (Kd.R_tight rfl HOR2.out) (fun k hk => by rw [hk]; exact own_of _ _ _ _ _)
      have hT := trim_walk A4 c4 R' w2 (Kd.R_reads' hr2).2.2 (Kd.R_reads' hr2).2.1 HL'.out
      have HR2 := Aside0.mk hr2
      rw [HRN.out] at hT
      have HT := Aside0.mk hT
      clear hr2 hT
      have HO2 := Aside0.mk (Kd.R_kept HO.out HK2.out (fun k hk hk' => hk hk'))
      go_wp2_with (go_at_call 33; refine HT.out.mono ?_; rintro e w3 ⟨m, rfl, hm3, htk, rfl⟩; have HM3 := Aside0.mk hm3; have HTK := Aside0.mk htk; clear hm3 htk)
      go_wp2_with fail
      go_loopw [22, 6] (fun v22 v6 wr => ∃ (ns : List Int) (n' : Int), v22 = .int .i64 (ns.length : Int) ∧ v6 = .int .u32 n' ∧ ns.length ≤ 9 ∧ 0 ≤ n' ∧ n' < 4294967296 ∧ Dec.Lim ns ∧ n = Dec.val ns + 10 ^ ns.length * n' ∧ wr.heap[w3.heap.size]? = some (.cells (nine ns) 65 (0, 0)) ∧ Below w3.heap.size w3 wr) (fun v22 _ _ => 9 - (intOf v22).toNat)
      case atStart => exact ⟨[], n, rfl, rfl, by simp, hn0, by omega, Dec.Lim.nil, by simp [Dec.val], blk_new _ _, below_alloc (Below.refl _ _) _⟩
      case round =>
        obtain ⟨ns, n', rfl, rfl, hnl, hn'0, hn'1, hnd, hnv, hblk, hb3⟩ := hrel
        have HND := Aside0.mk hnd
        have HNV := Aside0.mk hnv
        have HBLK := Aside0.mk hblk
        have HB3 := Aside0.mk hb3
        clear hnd hnv hblk hb3
        by_cases h9 : ns.length < 9
        · have hfr := blk_frozen HBLK.out ns.length
          have hce := blk_cell HBLK.out ns.length
          have hsz := nine_size ns hnl
          rw [Array.getElem?_eq_getElem (by omega)] at hce
          have hd := Int.tmod_eq_emod_of_nonneg (b := 10) hn'0
          have hq := Int.tdiv_eq_ediv_of_nonneg (b := 10) hn'0
          have he0 := Int.emod_nonneg n' (show (10 : Int) ≠ 0 by omega)
          have he1 := Int.emod_lt_of_pos n' (show (0 : Int) < 10 by omega)
          go_wp2_with fail
          go_roundw
          case rel =>
            have hns := nine_set ns (n' % 10) h9
            refine ⟨ns ++ [n' % 10], n' / 10, by rw [List.length_append]; rfl, rfl, by rw [List.length_append, List.length_singleton]; omega, Int.ediv_nonneg hn'0 (by omega), by omega, Dec.Lim.append HND.out (fun y hy => by rw [List.mem_singleton] at hy; subst hy; rw [Dec.BB_eq]; exact ⟨he0, he1⟩), ?_, ?_, ?_⟩
            · rw [Dec.val_append, List.length_append, List.length_singleton, Dec.val_cons, Dec.val_nil, Dec.BB_eq, Int.pow_succ, HNV.out]
              have hdm := Int.mul_ediv_add_emod n' 10
              generalize n' % 10 = a at *
              generalize n' / 10 = b at *
              rw [← hdm]
              grind
            · exact blk_put HBLK.out _ _ hns
            · exact below_set HB3.out (Nat.le_refl _)
          case measure => simp [intOf]; omega
        · have h9e : ns.length = 9 := by omega
          have hdv := Dec.val_nonneg HND.out
          have hnv := HNV.out
          rw [h9e] at hnv
          have hn'z : n' = 0 := by omega
          subst hn'z
          have hchr : (chr ns).length = 9 := by rw [chr_length, h9e]
          have hCC : Kd.C (Kd.int .u8) wr (some ⟨w3.heap.size, 0, none⟩) 9 (chr ns) := by
            refine Kd.C_of_reads (enc := Value.int .u8) (d := (0 : Int)) (h1 := fun _ => rfl) ⟨hchr, by omega, fun _ => ⟨_, rfl, fun j hj => ?_⟩⟩
            have hcj := blk_cell HBLK.out j
            rw [show (Addr.add ⟨w3.heap.size, 0, none⟩ j) = ⟨w3.heap.size, j, none⟩ from by simp [Addr.add]; omega, hcj]
            have hn9 : nine ns = (nums .u8 (chr ns)).toArray := by simp [nine, h9e]
            rw [hn9]
            simp [nums, List.getD_eq_getElem?_getD, show j < (chr ns).length by omega]
          have HCC := Aside0.mk hCC
          have HRW := Aside0.mk (Kd.R_below HR2.out HB3.out)
          have HOW := Aside0.mk (Kd.R_below HO2.out HB3.out)
          have HBW := Aside0.mk (below_then HB2.out HB2.out.size HB3.out)
          go_wp2_with (at_builtin; refine Kd.R_append_row (Value.int .u8) (0 : Int) (w0 := w) w.heap.size rfl (.tmp 34) (.tmp 35) 63 5 (.int .u8 0) 1 rfl Tryd.underlying63 info5 rfl (by decide) (.slice A5 (chr ds).length c5) (chr ds) (chr ns) (some ⟨w3.heap.size, 0, none⟩) 9 9 _ rfl rfl ?aF HOW.out HCC.out HBW.out ?aS ?aL ?_)
          case aF => intro k hk hk'; have := Kd.R_lt HRW.out k (by rw [hk']; exact own_of _ _ _ _ _); omega
          case aS => exact HBW.out.size
          case aL => rw [chr_length]; omega
          intro v1 w4 ho hb4 hg4 hat
          rw [← chr_append] at ho
          obtain ⟨A6, c6, e6⟩ := Kd.R_slice ho
          subst e6
          have HO4 := Aside0.mk ho
          have HB4 := Aside0.mk hb4
          have HG4 := Aside0.mk hg4
          clear ho hb4 hg4 hat
          go_wp2_with fail
          go_roundw
          case rel =>
            have hown := HOW.out.1
            have hml : (R'.take m).length = m := by have := HM3.out; have := HRN.out; rw [List.length_take]; omega
            have hsp := limbs_spec (val R').toNat
            rw [← HTK.out] at hsp
            have hvv : val (R'.take m) = val R' := by rw [hsp.2.2]; exact Int.toNat_of_nonneg (val_nonneg HL'.out)
            refine ⟨R'.take m, ds ++ ns, by rw [hml], ?_, hsp.1, hsp.2.1, HO4.out, Dec.Lim.append HDL.out HND.out, ?_, HB4.out⟩
            · rw [hml]
              exact Kd.R_take (Kd.R_grown HRW.out HG4.out (fun k hk hk' => hown k hk'.symm hk)) (by have := HM3.out; have := HRN.out; omega)
            · rw [Dec.val_append, List.length_append, h9e, Dec.BB_eq, hvv, HVAL.out, HV'.out, hnv, Int.pow_add]
              grind
          case measure => simp [lenV, chr_length]; omega
    · have hR0 : R = [] := List.eq_nil_of_length_eq_zero (by omega)
      subst hR0
      have hVD := HVAL.out
      rw [val_nil, Int.mul_zero, Int.add_zero] at hVD
      obtain ⟨A5, c5, e5⟩ := Kd.R_slice HO.out
      subst e5
      have hrev := reverse_f (chr ds) ((chr ds).length + 2) (by omega) (Kd.R_reads' HO.out).2.2.2.1
      go_wp2_with (go_at_call 37; refine (slices_Reverse_byte_byte.calls _ _ _ (chr ds) _ w _ HB.out HO.out hrev).mono ?_; rintro e w2 ⟨rfl, ho2, hb2, hk2⟩; have HO2 := Aside0.mk ho2; have HB2 := Aside0.mk hb2; clear ho2 hb2 hk2)
      have hcl : (chr ds).reverse.length = (chr ds).length := List.length_reverse
      have hcv := Kd.C_string (P := Tryd.prog) (c := c5) Tryd.underlying63 Tryd.underlying5 Tryd.underlying9 (by have := (Kd.R_reads' HO2.out).2.2; exact this)
      rw [hcl] at hcv
      have htr := fun W => Any.strings_TrimLeft_one YtgpninmfbooijaaDoor.lays161 (strOfNums (chr ds).reverse) 48 (by decide) W
      rw [text_trim ds HDL.out, ← hVD] at htr
      have HTR2 := Aside0.mk htr
      clear htr
      go_wp2_with fail
      rw [hcv]
      by_cases h0 : (val l0).toNat = 0
      · rw [if_pos h0] at HTR2
        go_wp2_with (go_at_call 38; refine (HTR2.out _).mono ?_; rintro e w3 ⟨rfl, rfl⟩)
        go_ret2
        exact ⟨by rw [h0]; rfl, HB2.out⟩
      · rw [if_neg h0] at HTR2
        have hne : (decS (Dec.val ds).toNat).isEmpty = false := by
          rw [← hVD, List.isEmpty_eq_false_iff]; exact textS_ne h0
        go_wp2_with (go_at_call 38; refine (HTR2.out _).mono ?_; rintro e w3 ⟨rfl, rfl⟩)
        go_ret2
        exact ⟨by rw [hVD]; rfl, HB2.out⟩

noncomputable section
open Classical in
/-- The text of a number; and what else goes in. -/
def nat_Text.f (l0 : List Int) : Option (ByteArray × Int) :=
  if Lim l0 then (if Rt l0 then some (textS (val l0).toNat, 0) else some (⟨#[]⟩, 2)) else none
end

set_option maxHeartbeats 2000000 in
set_option maxRecDepth 100000 in
theorem text_bad (A0 : Option Addr) (c0 : Nat) (l0 : List Int) (w : World) (hr0 : Kd.C (Kd.int .u32) w A0 l0.length l0) (hc0 : l0.length ≤ c0) (hR : ¬ Rt l0) :
    Calls Tryd.prog 22 #[.slice A0 l0.length c0] w fun e w' => e = .returned (.tuple #[.string ⟨#[]⟩, .int .i64 2]) ∧ Below w.heap.size w w' := by
  have HR0 := Aside0.mk hr0
  have HC0 := Aside0.mk hc0
  have HN := Aside0.mk hR
  clear hr0 hc0 hR
  go_enter Tryd.func22, Tryd.ntmps22
  go_wp2_with (go_at_call 15; refine (nat_Right.calls A0 c0 l0 false _ HR0.out HC0.out (right_no HN.out)).mono ?_; rintro e w' ⟨rfl, ⟨nd, rfl⟩⟩)
  go_ret2
  exact ⟨rfl, pw_below_drewN (Below.refl w.heap.size w) nd⟩

theorem nat_Text.calls (A0 : Option Addr) (c0 : Nat) (l0 : List Int) (r1 : ByteArray) (r2 : Int) (w : World) (hr0 : Kd.C (Kd.int .u32) w A0 l0.length l0) (hc0 : l0.length ≤ c0) (h : nat_Text.f l0 = some (r1, r2)) :
    Calls Tryd.prog 22 #[.slice A0 l0.length c0] w fun e w' => e = .returned (.tuple #[.string r1, .int .i64 r2]) ∧ Below w.heap.size w w' := by
  unfold nat_Text.f at h
  split at h
  · rename_i hl
    split at h
    · rename_i hr
      simp only [Option.some.injEq, Prod.mk.injEq] at h
      obtain ⟨rfl, rfl⟩ := h
      exact text_walk A0 c0 l0 w hr0 hc0 hl hr
    · rename_i hr
      simp only [Option.some.injEq, Prod.mk.injEq] at h
      obtain ⟨rfl, rfl⟩ := h
      exact text_bad A0 c0 l0 w hr0 hc0 hr
  · exact absurd h (by simp)

end Go.Proofs.YtgpninmfbooijaaDoor.Px
