/-
  HeightMissing, walked: it answers true.
-/
import Derived.Test.YtadojakbfpdjjaaDoorHText
import Derived.Test.YtadojakbfpdjjaaDoorHMiss
import Derived.Test.YtadojakbfpdjjaaDoorHPut
import Derived.Test.YtadojakbfpdjjaaDoorHWrong
namespace Go.Proofs.YtadojakbfpdjjaaDoor.Px
open Go.RowKit Go.Maps Go.Proofs.YtadojakbfpdjjaaDoorW.PrintWords Go.Proofs.YtadojakbfpdjjaaDoorW.PrintLast Go.Proofs.YtadojakbfpdjjaaDoorW.PrintMore

theorem cells_on {W W' : World} {a : Addr} {v : Value} (h : W.cell? a = some v) (hb : Below W.heap.size W W') : W'.cell? a = some v := (hb.cell (World.block_lt_of_cell? _ _ h)).trans h
theorem cut_text (t : List UInt8) (j j2 : Nat) (m : List UInt8) : (⟨t.toArray⟩ : ByteArray).extract 0 j ++ ⟨m.toArray⟩ ++ (⟨t.toArray⟩ : ByteArray).extract j2 t.length = ⟨(t.take j ++ m ++ t.drop j2).toArray⟩ := by
  apply ByteArray.ext
  simp only [ByteArray.data_append, ByteArray.data_extract]
  apply Array.ext'
  simp [List.extract]
  exact List.take_of_length_le (by simp)
theorem cut_text1 (t : List UInt8) (j : Nat) : (⟨t.toArray⟩ : ByteArray).extract 0 j ++ ⟨#[63]⟩ ++ (⟨t.toArray⟩ : ByteArray).extract (j + 1) t.length = ⟨(t.take j ++ 63 :: t.drop (j + 1)).toArray⟩ := by
  rw [show (⟨#[63]⟩ : ByteArray) = ⟨([63] : List UInt8).toArray⟩ from rfl, cut_text, List.append_assoc]
  rfl
theorem cut_text2 (t : List UInt8) (j : Nat) : (⟨t.toArray⟩ : ByteArray).extract 0 j ++ ⟨#[63, 84]⟩ ++ (⟨t.toArray⟩ : ByteArray).extract (j + 2) t.length = ⟨(t.take j ++ 63 :: 84 :: t.drop (j + 2)).toArray⟩ := by
  rw [show (⟨#[63, 84]⟩ : ByteArray) = ⟨([63, 84] : List UInt8).toArray⟩ from rfl, cut_text, List.append_assoc]
  rfl
theorem bars_append_step {ops : Array Oper} {o : Oper} {a : Act} {Kc : Act → World → Prop} {Q : Exit → Act → World → Prop} {E : Prop} {w0 W : World} (base : Nat) (hw : Region.wanted o (yielded ops a.tmps) = true) (s x : Operand)
    (ho : o.op = .call { callee := .builtin .append, args := #[s, x], argTypes := #[24, 24] }) (v : Value) (xs l : List Bar) (A : Option Addr) (n c : Nat) (hs : a.eval s = v) (hx : a.eval x = .slice A n c) (hn : l.length = n)
    (HO : RB W base v xs) (HR : CB W A l) (HB : Below base w0 W) (hbase : base ≤ W.heap.size) (hl : xs.length + n ≤ 1000000)
    (h : ∀ v1 w1, RB w1 base v1 (xs ++ l) → Below base w0 w1 → W.grownBy w1 v.ownBlock → Kc (a.put o.dst v1) w1) :
    if Region.wanted o (yielded ops a.tmps) = true then Oper.wp Tryd.prog o a W Kc Q else E := by
  subst hn
  have h1 := Kd.R_append_rows_step (P := Tryd.prog) (ops := ops) (o := o) (a := a) (Kc := Kc) (Q := Q) kB (Rr := kB.K W) (w0 := w0) (W := W) base hw s x 24 48 (.agg #[(.int .i64 0), (.int .i64 0), (.int .i64 0)]) 24 ho Tryd.underlying24 info48 rfl (by decide) (by omega) v xs l A l.length c (fun _ => True) (fun _ => False) hs hx HO HR
    (fun b cs hK => by obtain rfl := k48_open hK; exact k48_mkM _ _ _ b) (fun _ hk => hk.elim) (fun _ _ => trivial) HB hbase (by omega) (fun v1 w1 a1 a2 a3 _ => h v1 w1 a1 a2 a3)
  rw [if_pos hw] at h1 ⊢
  exact h1

theorem bar_append_step0 {ops : Array Oper} {o : Oper} {a : Act} {Kc : Act → World → Prop} {Q : Exit → Act → World → Prop} {E : Prop} {w0 W : World} (base : Nat) (hw : Region.wanted o (yielded ops a.tmps) = true) (s x : Operand)
    (ho : o.op = .call { callee := .builtin .append, args := #[s, x], argTypes := #[24, 24] }) (v : Value) (xs : List Bar) (p : Bar) (hs : a.eval s = v) (hx : a.eval x = .slice (some ⟨W.heap.size, 0, none⟩) 1 1)
    (HO : RB W base v xs) (HB : Below base w0 W) (hbase : base ≤ W.heap.size) (hl : xs.length + 1 ≤ 1000000)
    (h : ∀ v1 w1, RB w1 base v1 (xs ++ [p]) → Below base w0 w1 → W.grownBy w1 v.ownBlock → Kc (a.put o.dst v1) w1) :
    if Region.wanted o (yielded ops a.tmps) = true then Oper.wp Tryd.prog o a (W.alloc (.cells #[.int .i64 p.f0, .int .i64 p.f1, .int .i64 p.f2] 48)) Kc Q else E := by
  have h1 := Kd.R_append_step (P := Tryd.prog) (ops := ops) (o := o) (a := a) (Kc := Kc) (Q := Q) kB (w0 := w0) (W := W) base hw s x 24 48 (.agg #[(.int .i64 0), (.int .i64 0), (.int .i64 0)]) 24 ho Tryd.underlying24 info48 rfl (by decide) (by omega) v xs p [.int .i64 p.f0, .int .i64 p.f1, .int .i64 p.f2] (fun _ => True) (fun _ => False) hs hx
    (k48_mkM _ _ _ p) (fun _ hk => hk.elim) (fun _ _ => trivial) HO HB hbase (by omega) (fun v1 w1 a1 a2 a3 _ => h v1 w1 a1 a2 a3)
  rw [if_pos hw] at h1 ⊢
  exact h1
theorem row_len {w : World} {base : Nat} {v : Value} {l m : List Bar} {n : Nat} (h : RB w base v l) (hm : l = m) (hn : m.length = n) : ∃ A c, v = .slice A n c ∧ n ≤ c ∧ CB w A m := by
  subst hm
  subst hn
  exact CB_of_RB h

set_option maxHeartbeats 8000000 in
set_option maxRecDepth 100000 in
theorem missing_walk (f : U8s) (A : Option Addr) (c : Nat) (zs : List Int) (which : Int) (hw0 : 0 ≤ which) (hw1 : which ≤ 255) (w : World) (hz : ReadsInt w .u8 A zs.length zs) (hc : zs.length ≤ c) (hb : ∀ z ∈ zs, 0 ≤ z ∧ z ≤ 255) (hgl : GL w) :
    Calls Tryd.prog 6 #[.agg #[.int .u8 f.a0, .int .u8 f.a1, .int .u8 f.a2, .int .u8 f.a3, .int .u8 f.a4, .int .u8 f.a5], .slice A zs.length c, .int .u8 which] w fun e w' => e = .returned (.bool true) ∧ Below w.heap.size w w' := by
  have HG := Aside0.mk hgl
  clear hgl
  have HS0 := Aside0.mk (fun W => setup_any f W)
  have hbd := stOf_bounds f
  have hr := stOf_right f
  generalize stOf f = s at HS0 hbd hr
  have HBD := Aside0.mk hbd
  have HR := Aside0.mk hr
  have HT0 := Aside0.mk (fun W (h : Below w.heap.size w W) => text_walk s hr A c zs W (hz.below h) hc hb)
  have hlen := txtB_len s.f0.toNat zs
  have hlet := txtB_let s.f0.toNat zs
  generalize txtB s.f0.toNat zs = t at HT0 hlen hlet
  have hlen2 : (t.length : Int) = s.f0 := by have := hr.1; omega
  have HLEN := Aside0.mk hlen2
  have HLET := Aside0.mk hlet
  have hd0 := drawn_draw hr hlen2 hlet
  have HD0 := Aside0.mk (fun W => draw_walk s t W (by have := hr.2.1; omega))
  rw [hd0] at HD0
  clear hbd hr hlen hlet hlen2 hz hc hb hd0
  go_enter Tryd.func6, Tryd.ntmps6
  go_upto_region 4 with (first
    | (go_at_call 20; refine (HS0.out _).mono ?_; rintro e w1 ⟨rfl, hb⟩; have HB := Aside0.mk (below_alloc (below_step (below_alloc (Below.refl _ _) _) hb) (.cells #[.int .i64 s.f0, .int .i64 s.f1, .int .i64 s.f2, .int .i64 s.f3, .int .i64 s.f4, .int .i64 s.f5] 23 (0, 0))); have GB := Aside0.mk (blk_new w1 (.cells #[.int .i64 s.f0, .int .i64 s.f1, .int .i64 s.f2, .int .i64 s.f3, .int .i64 s.f4, .int .i64 s.f5] 23 (0, 0))); clear hb)
    | (go_at_call 21; refine (HT0.out _ HB.out).mono ?_; rintro e w2 ⟨rfl, hb⟩; have n1_ := Aside0.mk (below_step HB.out hb); have n2_ := Aside0.mk (blk_below GB.out hb); clear hb HB GB; have HB := n1_; have GB := n2_; clear n1_ n2_; have hgz : w1.heap.size < (w2).heap.size := blk_lt (GB.out); have hg0 : (w2).cell? ⟨w1.heap.size, 0, none⟩ = some (.int .i64 s.f0) := (blk_cell (GB.out) 0).trans rfl; have hg1 : (w2).cell? ⟨w1.heap.size, 1, none⟩ = some (.int .i64 s.f1) := (blk_cell (GB.out) 1).trans rfl; have hg2 : (w2).cell? ⟨w1.heap.size, 2, none⟩ = some (.int .i64 s.f2) := (blk_cell (GB.out) 2).trans rfl; have hg3 : (w2).cell? ⟨w1.heap.size, 3, none⟩ = some (.int .i64 s.f3) := (blk_cell (GB.out) 3).trans rfl; have hg4 : (w2).cell? ⟨w1.heap.size, 4, none⟩ = some (.int .i64 s.f4) := (blk_cell (GB.out) 4).trans rfl; have hg5 : (w2).cell? ⟨w1.heap.size, 5, none⟩ = some (.int .i64 s.f5) := (blk_cell (GB.out) 5).trans rfl)
    | (go_at_call 18; refine (HD0.out _).mono ?_; rintro e w3 ⟨v3, rfl, hr3, hb⟩; have n1_ := Aside0.mk (below_step HB.out hb); have n2_ := Aside0.mk (blk_below GB.out hb); obtain ⟨A9, c9, e9, hl9, hC9⟩ := CB_of_RB hr3; subst e9; have HL9 := Aside0.mk hl9; have HC9 := Aside0.mk hC9; clear hb HB GB hgz hg0 hg1 hg2 hg3 hg4 hg5 hr3 hl9 hC9; have HB := n1_; have GB := n2_; clear n1_ n2_; have hgz : w1.heap.size < (w3).heap.size := blk_lt (GB.out); have hg0 : (w3).cell? ⟨w1.heap.size, 0, none⟩ = some (.int .i64 s.f0) := (blk_cell (GB.out) 0).trans rfl; have hg1 : (w3).cell? ⟨w1.heap.size, 1, none⟩ = some (.int .i64 s.f1) := (blk_cell (GB.out) 1).trans rfl; have hg2 : (w3).cell? ⟨w1.heap.size, 2, none⟩ = some (.int .i64 s.f2) := (blk_cell (GB.out) 2).trans rfl; have hg3 : (w3).cell? ⟨w1.heap.size, 3, none⟩ = some (.int .i64 s.f3) := (blk_cell (GB.out) 3).trans rfl; have hg4 : (w3).cell? ⟨w1.heap.size, 4, none⟩ = some (.int .i64 s.f4) := (blk_cell (GB.out) 4).trans rfl; have hg5 : (w3).cell? ⟨w1.heap.size, 5, none⟩ = some (.int .i64 s.f5) := (blk_cell (GB.out) 5).trans rfl))
  obtain ⟨l, hl⟩ : ∃ l, l = barsFrom s 0 t := ⟨_, rfl⟩
  rw [← hl] at HL9 HC9 ⊢
  have hll := barsFrom_len s t 0
  rw [← hl] at hll
  have hl200 : l.length ≤ 200 := by have := HR.out.2.1; have := HLEN.out; omega
  have HLL := Aside0.mk hl
  clear hl hll
  by_cases h0 : l.length = 0
  · have hz0 : ((l.length : Int) == 0) = true := beq_iff_eq.2 (by omega)
    go_wp2_with (go_at_call 9; refine (awake_walk _ (HG.out.below HB.out)).mono ?_; rintro e w4 ⟨rfl, hb⟩; have n1_ := Aside0.mk (below_step HB.out hb); clear hb)
    go_ret
    exact ⟨rfl, n1_.out⟩
  · have hz0 : ((l.length : Int) == 0) = false := beq_false_of_ne (by omega)
    obtain ⟨k, hk⟩ : ∃ k : Nat, (k : Int) = which % (l.length : Int) := ⟨(which % (l.length : Int)).toNat, by rw [Int.toNat_of_nonneg (Int.emod_nonneg _ (by omega))]⟩
    have hkl : k < l.length := by have := Int.emod_lt_of_pos which (b := (l.length : Int)) (by omega); omega
    have htm : Int.tmod which (l.length : Int) = (k : Int) := by rw [hk, Int.tmod_eq_emod_of_nonneg hw0]
    have HK := Aside0.mk hk
    clear hk
    obtain ⟨j, hj, hbj, HF0, HF1, HF2, HF3, HF4⟩ := missing_facts HR.out HLEN.out HLET.out HLL.out hkl
    have HBJ := Aside0.mk hbj
    obtain ⟨less, hless⟩ : ∃ less, less = l.take k ++ l.drop (k + 1) := ⟨_, rfl⟩
    rw [← hless] at HF0 HF3 HF4
    have hlen7 : less.length ≤ 200 := by rw [hless, List.length_append, List.length_take, List.length_drop]; omega
    have HLESS := Aside0.mk hless
    clear hless
    have HFF := Aside0.mk HF0; have HFF1 := Aside0.mk HF1; have HFF2 := Aside0.mk HF2; have HFF3 := Aside0.mk HF3; have HFF4 := Aside0.mk HF4
    clear HF0 HF1 HF2 HF3 HF4 hbj
    go_upto_region 9 with fail
    obtain ⟨ad9, hA9, hk0, hk1, hk2⟩ := at_bar HC9.out k hkl
    subst hA9
    have hbk := HBD.out
    have hrk := HR.out
    unfold rightP at hrk
    have hjm0 : 0 ≤ (j : Int) * s.f2 := Int.mul_nonneg (by omega) (by omega)
    have hjm1 : (j : Int) * s.f2 ≤ 200 * 1048576 := Int.le_trans (Int.mul_le_mul_of_nonneg_right (show (j : Int) ≤ 200 by have := HLEN.out; omega) (by omega)) (Int.mul_le_mul_of_nonneg_left (show s.f2 ≤ 1048576 by omega) (by omega))
    have hw9 : IntKind.i64.wrap (l[k].f0 - s.f1) = (j : Int) * s.f2 := by
      rw [HBJ.out, show s.f1 + (j : Int) * s.f2 - s.f1 = (j : Int) * s.f2 by omega]
      exact IntWalk.i64_in _ (by omega)
    have hwj9 : IntKind.i64.wrap (j : Int) = (j : Int) := IntWalk.i64_in _ (by have := HLEN.out; omega)
    have hq9 : Int.tdiv ((j : Int) * s.f2) s.f2 = (j : Int) := Int.mul_tdiv_cancel _ (by omega)
    have hne9 : s.f2 ≠ 0 := by omega
    have hnb9 : (s.f2 == 0) = false := beq_false_of_ne hne9
    have HRK := Aside0.mk hrk
    have HBK := Aside0.mk hbk
    clear hrk hbk hjm0 hjm1
    go_region_held3 (fun W => Below w3.heap.size w3 W ∧ W.cell? (ad9.add (k * 3)) = some (.int .i64 l[k].f0) ∧ W.cell? ⟨w1.heap.size, 1, none⟩ = some (.int .i64 s.f1) ∧ W.cell? ⟨w1.heap.size, 2, none⟩ = some (.int .i64 s.f2))
      (first
        | exact ⟨below_drew1 (Below.refl _ _), hk0, hg1, hg2⟩
        | (go_split_ands; refine ⟨?_, ?_, ?_, ?_⟩ <;> assumption)
        | (refine ⟨?_, ?_, ?_, ?_⟩ <;> assumption))
      (first | fail)
    obtain ⟨W4, h4⟩ : ∃ W4, W4 = w3.drew := ⟨_, rfl⟩
    have hB4 : Below w3.heap.size w3 W4 := by rw [h4]; exact below_drew1 (Below.refl _ _)
    rw [← h4]
    clear h4 hk0 hk1 hk2 hw9 hq9 hgz hg0 hg1 hg2 hg3 hg4 hg5
    clear ‹Below w3.heap.size w3 _ ∧ _›
    have n1_ := Aside0.mk (below_step HB.out hB4)
    have n2_ := Aside0.mk (blk_below GB.out hB4)
    have n3_ := Aside0.mk (Kd.C_below HC9.out hB4)
    clear HB GB HC9 hB4
    have HB := n1_
    have GB := n2_
    have HC9 := n3_
    clear n1_ n2_ n3_
    go_upto_region 10 with fail
    have hlc9 : l.length ≤ c9 := HL9.out
    have hkc9 : k ≤ c9 := by omega
    have hk1l : k + 1 ≤ l.length := by omega
    obtain ⟨q, hq⟩ : ∃ q, q = k + 1 := ⟨_, rfl⟩
    have hwk1 : IntKind.i64.wrap ((k : Int) + 1) = (q : Int) := by rw [IntWalk.i64_in _ (by omega), hq]; rfl
    have hq0 : (0 : Int) ≤ (q : Int) := by omega
    have hq1 : (q : Int) ≤ (l.length : Int) := by omega
    have hk0 : (0 : Int) ≤ (k : Int) := by omega
    have hk1 : (k : Int) ≤ (l.length : Int) := by omega
    have HQ := Aside0.mk hq
    clear hq
    obtain ⟨iB, hiB, hzB⟩ := Option.map_eq_some_iff.1 info48
    simp only [Prod.mk.injEq] at hzB
    have hcut1 := cut_to (P := Tryd.prog) 24 48 .i64 Tryd.underlying24 hiB (some ad9) l.length c9 (k : Int) (by omega) (by omega) hlc9
    have hcut2 := cut_from (P := Tryd.prog) 24 48 .i64 Tryd.underlying24 hiB 3 hzB.2.1 (some ad9) l.length c9 (q : Int) hq0 hq1
    rw [Int.toNat_natCast] at hcut1 hcut2
    clear hiB hzB
    have HT9 := Aside0.mk (Kd.C_take (m := k) HC9.out (by omega))
    have HD9 := Aside0.mk (Kd.C_drop (m := q) (c := c9) HC9.out (by have := HQ.out; omega) hlc9)
    obtain ⟨Ad, hAd⟩ : ∃ Ad, Ad = (if c9 = q then some ad9 else (some ad9).map (·.add (q * 3))) := ⟨_, rfl⟩
    rw [← hAd] at hcut2
    have HD9' : Aside0 (CB W4 Ad (l.drop q)) := ⟨by rw [hAd]; exact HD9.out⟩
    clear HD9 hAd
    have HD9 := HD9'
    clear HD9'
    have hlt9 : (l.take k).length = k := by rw [List.length_take]; omega
    have hld9 : (l.drop q).length = l.length - q := List.length_drop
    go_region_held3 (fun W => Below W4.heap.size W4 W)
      (first
        | exact below_drew1 (Below.refl _ _)
        | exact below_drew1 (below_alloc (Below.refl _ _) _)
        | assumption
        | exact HB5.out
        | exact below_drew1 HB5.out
        | exact HB6.out
        | exact below_drew1 HB6.out)
      (first
        | (refine bars_append_step (w0 := W4) W4.heap.size (by simp [Region.wanted]) (.tmp 58) (.tmp 61) rfl (.slice (some ⟨W4.heap.size, 0, none⟩) 0 0) [] (l.take k) (some ad9) k c9 rfl rfl hlt9 ?a1 ?a2 ?a3 ?a4 ?a5 ?_; (case a1 => exact Kd.R_drew (RB_block (l := []) (blk_new W4 _) rfl (Nat.le_refl _) (by decide))); (case a2 => exact Kd.C_below HT9.out (below_drew1 (below_alloc (Below.refl _ _) _))); (case a3 => exact below_drew1 (below_alloc (Below.refl _ _) _)); (case a4 => exact below_size (below_drew1 (below_alloc (Below.refl _ _) _))); (case a5 => rw [List.length_nil]; omega); intro v5 W5 ho hb hgr; have HR5 := Aside0.mk ho; have HB5 := Aside0.mk hb; clear ho hb hgr)
        | (refine bars_append_step (w0 := W4) W4.heap.size (by simp [Region.wanted]) (.tmp 62) (.tmp 66) rfl _ ([] ++ l.take k) (l.drop q) Ad (l.length - q) (c9 - q) rfl rfl hld9 ?a1 ?a2 ?a3 ?a4 ?a5 ?_; (case a1 => first | exact HR5.out | exact Kd.R_drew HR5.out); (case a2 => first | exact Kd.C_below HD9.out HB5.out | exact Kd.C_below HD9.out (below_drew1 HB5.out)); (case a3 => first | exact HB5.out | exact below_drew1 HB5.out); (case a4 => exact below_size HB5.out); (case a5 => rw [List.nil_append, hlt9]; omega); intro v6 W6 ho hb hgr; have HR6 := Aside0.mk ho; have HB6 := Aside0.mk hb; clear ho hb hgr))
    have hr6 := HR6.out
    rw [List.nil_append, HQ.out, ← HLESS.out] at hr6
    obtain ⟨A6, c6, e6, hl6, hC6⟩ := CB_of_RB hr6
    subst e6
    have HL6 := Aside0.mk hl6
    have HC6 := Aside0.mk hC6
    have n1_ := Aside0.mk (below_step HB.out HB6.out)
    have n2_ := Aside0.mk (blk_below GB.out HB6.out)
    have n3_ := Aside0.mk (Kd.C_below HC9.out HB6.out)
    clear hr6 hl6 hC6 HR6 HR5 HB5 HB6 HB GB HC9 HT9 HD9 hlt9 hld9 hcut1 hcut2 hwk1
    clear ‹Below W4.heap.size W4 W6›
    have HB := n1_
    have GB := n2_
    have HC9 := n3_
    clear n1_ n2_ n3_
    have hgz : w1.heap.size < (W6).heap.size := blk_lt (GB.out); have hg0 : (W6).cell? ⟨w1.heap.size, 0, none⟩ = some (.int .i64 s.f0) := (blk_cell (GB.out) 0).trans rfl; have hg1 : (W6).cell? ⟨w1.heap.size, 1, none⟩ = some (.int .i64 s.f1) := (blk_cell (GB.out) 1).trans rfl; have hg2 : (W6).cell? ⟨w1.heap.size, 2, none⟩ = some (.int .i64 s.f2) := (blk_cell (GB.out) 2).trans rfl; have hg3 : (W6).cell? ⟨w1.heap.size, 3, none⟩ = some (.int .i64 s.f3) := (blk_cell (GB.out) 3).trans rfl; have hg4 : (W6).cell? ⟨w1.heap.size, 4, none⟩ = some (.int .i64 s.f4) := (blk_cell (GB.out) 4).trans rfl; have hg5 : (W6).cell? ⟨w1.heap.size, 5, none⟩ = some (.int .i64 s.f5) := (blk_cell (GB.out) 5).trans rfl
    go_upto_region 12 with (first
      | (go_at_call 10; refine (read_to s A6 c6 less _ _ less.length _ HC6.out rfl HL6.out (HG.out.below HB.out) HFF.out).mono ?_; rintro e w7 ⟨rfl, hb⟩; have n1_ := Aside0.mk (below_step HB.out hb); have n2_ := Aside0.mk (blk_below GB.out hb); have n3_ := Aside0.mk (Kd.C_below HC9.out hb); have n4_ := Aside0.mk (Kd.C_below HC6.out hb); clear hb HB GB HC9 HC6; clear hgz hg0 hg1 hg2 hg3 hg4 hg5; have HB := n1_; have GB := n2_; have HC9 := n3_; have HC6 := n4_; clear n1_ n2_ n3_ n4_; have hgz : w1.heap.size < (w7).heap.size := blk_lt (GB.out); have hg0 : (w7).cell? ⟨w1.heap.size, 0, none⟩ = some (.int .i64 s.f0) := (blk_cell (GB.out) 0).trans rfl; have hg1 : (w7).cell? ⟨w1.heap.size, 1, none⟩ = some (.int .i64 s.f1) := (blk_cell (GB.out) 1).trans rfl; have hg2 : (w7).cell? ⟨w1.heap.size, 2, none⟩ = some (.int .i64 s.f2) := (blk_cell (GB.out) 2).trans rfl; have hg3 : (w7).cell? ⟨w1.heap.size, 3, none⟩ = some (.int .i64 s.f3) := (blk_cell (GB.out) 3).trans rfl; have hg4 : (w7).cell? ⟨w1.heap.size, 4, none⟩ = some (.int .i64 s.f4) := (blk_cell (GB.out) 4).trans rfl; have hg5 : (w7).cell? ⟨w1.heap.size, 5, none⟩ = some (.int .i64 s.f5) := (blk_cell (GB.out) 5).trans rfl))
    go_cut [17] (fun v17 wc => v17 = .int .i64 210 ∧ Aside0 (Below w.heap.size w wc) ∧ Aside0 (wc.heap[w1.heap.size]? = some (.cells #[.int .i64 s.f0, .int .i64 s.f1, .int .i64 s.f2, .int .i64 s.f3, .int .i64 s.f4, .int .i64 s.f5] 23 (0, 0))) ∧ Aside0 (CB wc (some ad9) l) ∧ Aside0 (CB wc A6 less))
    case first =>
      -- BEGIN SLOW
      obtain ⟨ad9', hA9, hk0', hk1', hk2'⟩ := at_bar HC9.out k hkl
      obtain rfl := Option.some.inj hA9
      have HK7 := Aside0.mk (fun W (hb : Below w7.heap.size w7 W) => (⟨hb, cells_on hk0' hb, cells_on hk1' hb, cells_on hk2' hb, cells_on hg0 hb, cells_on hg1 hb, cells_on hg2 hb, cells_on hg3 hb, cells_on hg4 hb, cells_on hg5 hb⟩ : Below w7.heap.size w7 W ∧ W.cell? (ad9.add (k * 3)) = some (.int .i64 l[k].f0) ∧ W.cell? ⟨(ad9.add (k * 3)).block, (ad9.add (k * 3)).off + 1, none⟩ = some (.int .i64 l[k].f1) ∧ W.cell? ⟨(ad9.add (k * 3)).block, (ad9.add (k * 3)).off + 2, none⟩ = some (.int .i64 l[k].f2) ∧ W.cell? ⟨w1.heap.size, 0, none⟩ = some (.int .i64 s.f0) ∧ W.cell? ⟨w1.heap.size, 1, none⟩ = some (.int .i64 s.f1) ∧ W.cell? ⟨w1.heap.size, 2, none⟩ = some (.int .i64 s.f2) ∧ W.cell? ⟨w1.heap.size, 3, none⟩ = some (.int .i64 s.f3) ∧ W.cell? ⟨w1.heap.size, 4, none⟩ = some (.int .i64 s.f4) ∧ W.cell? ⟨w1.heap.size, 5, none⟩ = some (.int .i64 s.f5)))
      go_region_held3 (fun W => Below w7.heap.size w7 W ∧ W.cell? (ad9.add (k * 3)) = some (.int .i64 l[k].f0) ∧ W.cell? ⟨(ad9.add (k * 3)).block, (ad9.add (k * 3)).off + 1, none⟩ = some (.int .i64 l[k].f1) ∧ W.cell? ⟨(ad9.add (k * 3)).block, (ad9.add (k * 3)).off + 2, none⟩ = some (.int .i64 l[k].f2) ∧ W.cell? ⟨w1.heap.size, 0, none⟩ = some (.int .i64 s.f0) ∧ W.cell? ⟨w1.heap.size, 1, none⟩ = some (.int .i64 s.f1) ∧ W.cell? ⟨w1.heap.size, 2, none⟩ = some (.int .i64 s.f2) ∧ W.cell? ⟨w1.heap.size, 3, none⟩ = some (.int .i64 s.f3) ∧ W.cell? ⟨w1.heap.size, 4, none⟩ = some (.int .i64 s.f4) ∧ W.cell? ⟨w1.heap.size, 5, none⟩ = some (.int .i64 s.f5))
        (first
          | exact HK7.out _ (below_drew1 (Below.refl _ _))
          | exact HK7.out _ (below_drew1 (below_alloc (Below.refl _ _) _))
          | exact HK7.out _ hb8
          | exact HK7.out _ (below_drew1 hb8)
          | exact HK7.out _ (below_drew1 (below_alloc hb8 _))
          | exact HK7.out _ (below_alloc hb8 _)
          | exact HK7.out _ (below_drew1 (below_alloc (below_alloc (Below.refl _ _) _) _))
          | exact HK7.out _ hb9
          | exact HK7.out _ (below_step hb9 hb)
          | (trace_state; fail))
        (first
          | (refine bars_append_step (w0 := w7) w7.heap.size (by simp [Region.wanted]) (.tmp 76) (.tmp 77) rfl (.slice (some ⟨w7.heap.size, 0, none⟩) 0 0) [] l (some ad9) l.length c9 rfl rfl rfl ?a1 ?a2 ?a3 ?a4 ?a5 ?_; (case a1 => exact Kd.R_drew (RB_block (l := []) (blk_new w7 _) rfl (Nat.le_refl _) (by decide))); (case a2 => exact Kd.C_below HC9.out (below_drew1 (below_alloc (Below.refl _ _) _))); (case a3 => exact below_drew1 (below_alloc (Below.refl _ _) _)); (case a4 => exact below_size (below_drew1 (below_alloc (Below.refl _ _) _))); (case a5 => rw [List.length_nil]; omega); intro v8 W8 ho hb8 hgr; have HR8 := Aside0.mk ho; clear ho hgr)
          | (refine bars_append_step (w0 := w7) w7.heap.size (by simp [Region.wanted]) (.tmp 76) (.tmp 77) rfl (.slice (some ⟨w7.heap.size, 0, none⟩) 0 0) [] l (some ad9) l.length c9 rfl rfl rfl ?a1 ?a2 ?a3 ?a4 ?a5 ?_; (case a1 => exact Kd.R_drew (RB_block (l := []) (blk_alloc (blk_new w7 _) _) rfl (Nat.le_refl _) (by decide))); (case a2 => exact Kd.C_below HC9.out (below_drew1 (below_alloc (below_alloc (Below.refl _ _) _) _))); (case a3 => exact below_drew1 (below_alloc (below_alloc (Below.refl _ _) _) _)); (case a4 => exact below_size (below_drew1 (below_alloc (below_alloc (Below.refl _ _) _) _))); (case a5 => rw [List.length_nil]; omega); intro v8 W8 ho hb8 hgr; have HR8 := Aside0.mk ho; have GBb := Aside0.mk (blk_grown (blk_drew (blk_new2 w7 _ _)) hgr (by simp [Value.ownBlock])); clear ho hgr)
          | (refine bars_append_step (w0 := w7) w7.heap.size (by simp [Region.wanted]) (.tmp 76) (.tmp 77) rfl (.slice (some ⟨w7.heap.size + 1, 0, none⟩) 0 0) [] l (some ad9) l.length c9 rfl rfl rfl ?a1 ?a2 ?a3 ?a4 ?a5 ?_; (case a1 => exact Kd.R_drew (RB_block (l := []) (blk_new2 w7 _ _) rfl (Nat.le_succ _) (by decide))); (case a2 => exact Kd.C_below HC9.out (below_drew1 (below_alloc (below_alloc (Below.refl _ _) _) _))); (case a3 => exact below_drew1 (below_alloc (below_alloc (Below.refl _ _) _) _)); (case a4 => exact below_size (below_drew1 (below_alloc (below_alloc (Below.refl _ _) _) _))); (case a5 => rw [List.length_nil]; omega); intro v8 W8 ho hb8 hgr; have HR8 := Aside0.mk ho; have GBc := Aside0.mk (blk_grown (blk_drew (blk_alloc (blk_new w7 _) _)) hgr (by simp [Value.ownBlock])); clear ho hgr)
          | (refine bar_append_step0 (w0 := w7) (W := W8) w7.heap.size (by simp [Region.wanted]) (.tmp 78) (.tmp 83) rfl v8 ([] ++ l) l[k] rfl rfl HR8.out hb8 (below_size hb8) (by rw [List.nil_append]; omega) ?_; intro v9 W9 ho hb9 hgr; obtain ⟨A10, c10, e10, hl10, hC10⟩ := row_len ho (show [] ++ l ++ [l[k]] = l ++ [l[k]] from rfl) (show (l ++ [l[k]]).length = l.length + 1 from List.length_append); subst e10; have HL10 := Aside0.mk hl10; have HC10 := Aside0.mk hC10; clear ho hgr hl10 hC10)
          | (refine bars_append_step (w0 := w7) (W := W8) w7.heap.size (by simp [Region.wanted]) (.tmp 78) (.tmp 83) rfl v8 ([] ++ l) [l[k]] (some ⟨w7.heap.size + 1, 0, none⟩) 1 1 rfl rfl rfl HR8.out (CB_block (l := [l[k]]) GBb.out rfl (by simp)) hb8 (below_size hb8) (by rw [List.nil_append]; omega) ?_; intro v9 W9 ho hb9 hgr; obtain ⟨A10, c10, e10, hl10, hC10⟩ := row_len ho (show [] ++ l ++ [l[k]] = l ++ [l[k]] from rfl) (show (l ++ [l[k]]).length = l.length + 1 from List.length_append); subst e10; have HL10 := Aside0.mk hl10; have HC10 := Aside0.mk hC10; clear ho hgr hl10 hC10)
          | (refine bars_append_step (w0 := w7) (W := W8) w7.heap.size (by simp [Region.wanted]) (.tmp 78) (.tmp 83) rfl v8 ([] ++ l) [l[k]] (some ⟨w7.heap.size, 0, none⟩) 1 1 rfl rfl rfl HR8.out (CB_block (l := [l[k]]) GBc.out rfl (by simp)) hb8 (below_size hb8) (by rw [List.nil_append]; omega) ?_; intro v9 W9 ho hb9 hgr; obtain ⟨A10, c10, e10, hl10, hC10⟩ := row_len ho (show [] ++ l ++ [l[k]] = l ++ [l[k]] from rfl) (show (l ++ [l[k]]).length = l.length + 1 from List.length_append); subst e10; have HL10 := Aside0.mk hl10; have HC10 := Aside0.mk hC10; clear ho hgr hl10 hC10)
          | (go_at_call 10; refine Calls.mono (read_to s A10 c10 (l ++ [l[k]]) _ _ (l.length + 1) _ ?_ (show (l ++ [l[k]]).length = l.length + 1 from List.length_append) HL10.out ?_ HFF1.out) ?_; (any_goals (first | exact HC10.out | exact HG.out.below (below_step HB.out hb9) | skip)); rintro e w10 ⟨rfl, hb⟩))
      all_goals go_wp2_with fail
      all_goals go_meet
      all_goals (
        have hw10 := And.left ‹Below w7.heap.size w7 w10 ∧ _›
        exact ⟨rfl, ⟨below_step HB.out hw10⟩, ⟨blk_below GB.out hw10⟩, ⟨Kd.C_below HC9.out hw10⟩, ⟨Kd.C_below HC6.out hw10⟩⟩)
      -- END SLOW
    case rest =>
      clear HB GB HC9 HC6 hgz hg0 hg1 hg2 hg3 hg4 hg5
      obtain ⟨rfl, HB, GB, HC9, HC6⟩ := hcut
      have hgz : w1.heap.size < (wc).heap.size := blk_lt (GB.out); have hg0 : (wc).cell? ⟨w1.heap.size, 0, none⟩ = some (.int .i64 s.f0) := (blk_cell (GB.out) 0).trans rfl; have hg1 : (wc).cell? ⟨w1.heap.size, 1, none⟩ = some (.int .i64 s.f1) := (blk_cell (GB.out) 1).trans rfl; have hg2 : (wc).cell? ⟨w1.heap.size, 2, none⟩ = some (.int .i64 s.f2) := (blk_cell (GB.out) 2).trans rfl; have hg3 : (wc).cell? ⟨w1.heap.size, 3, none⟩ = some (.int .i64 s.f3) := (blk_cell (GB.out) 3).trans rfl; have hg4 : (wc).cell? ⟨w1.heap.size, 4, none⟩ = some (.int .i64 s.f4) := (blk_cell (GB.out) 4).trans rfl; have hg5 : (wc).cell? ⟨w1.heap.size, 5, none⟩ = some (.int .i64 s.f5) := (blk_cell (GB.out) 5).trans rfl
      go_upto_region 14 with (first
        | (at_builtin; refine bars_append (w0 := wc) wc.heap.size rfl (.tmp 88) (.tmp 89) rfl (.slice (some ⟨wc.heap.size, 0, none⟩) 0 0) [] l (some ad9) c9 rfl rfl ?a1 ?a2 ?a3 ?a4 ?a5 ?_; (case a1 => exact RB_block (l := []) (blk_new wc _) rfl (Nat.le_refl _) (by decide)); (case a2 => exact Kd.C_below HC9.out (below_alloc (Below.refl _ _) _)); (case a3 => exact below_alloc (Below.refl _ _) _); (case a4 => exact below_size (below_alloc (Below.refl _ _) _)); (case a5 => rw [List.length_nil]; omega); intro v13 w13 hr hb hg; have HR13 := Aside0.mk hr; have HB13 := Aside0.mk hb; clear hr hb hg))
      have hr13 := HR13.out
      rw [List.nil_append] at hr13
      obtain ⟨g13, cap13, e13, hgb13⟩ := RB_form hr13 (by omega)
      subst e13
      have hlcap := (RB_read hr13 rfl rfl).1
      obtain ⟨hm0, hm1, hm2⟩ := RB_cells hr13 k hkl
      have hfz := RB_frozen hr13 (k * 3)
      have HR14 := Aside0.mk (RB_put0 hr13 k hkl (s.f1 + s.f0 * s.f2))
      have HB14 := Aside0.mk (below_set HB13.out hgb13 : Below wc.heap.size wc (w13.setCell ⟨g13, k * 3, none⟩ (.int .i64 (s.f1 + s.f0 * s.f2))))
      have n1_ := Aside0.mk (blk_below GB.out HB13.out)
      clear hgz hg0 hg1 hg2 hg3 hg4 hg5 hr13
      have hgz : w1.heap.size < (w13).heap.size := blk_lt (n1_.out); have hg0 : (w13).cell? ⟨w1.heap.size, 0, none⟩ = some (.int .i64 s.f0) := (blk_cell (n1_.out) 0).trans rfl; have hg1 : (w13).cell? ⟨w1.heap.size, 1, none⟩ = some (.int .i64 s.f1) := (blk_cell (n1_.out) 1).trans rfl; have hg2 : (w13).cell? ⟨w1.heap.size, 2, none⟩ = some (.int .i64 s.f2) := (blk_cell (n1_.out) 2).trans rfl; have hg3 : (w13).cell? ⟨w1.heap.size, 3, none⟩ = some (.int .i64 s.f3) := (blk_cell (n1_.out) 3).trans rfl; have hg4 : (w13).cell? ⟨w1.heap.size, 4, none⟩ = some (.int .i64 s.f4) := (blk_cell (n1_.out) 4).trans rfl; have hg5 : (w13).cell? ⟨w1.heap.size, 5, none⟩ = some (.int .i64 s.f5) := (blk_cell (n1_.out) 5).trans rfl
      have hrk := HRK.out
      have hq0' : 0 ≤ s.f0 * s.f2 := Int.mul_nonneg (by omega) (by omega)
      have hq1' : s.f0 * s.f2 ≤ 200 * 1048576 := Int.le_trans (Int.mul_le_mul_of_nonneg_right (show s.f0 ≤ 200 by omega) (by omega)) (Int.mul_le_mul_of_nonneg_left (show s.f2 ≤ 1048576 by omega) (by omega))
      have hwm1 : IntKind.i64.wrap (s.f0 * s.f2) = s.f0 * s.f2 := IntWalk.i64_in _ (by omega)
      have hwm2 : IntKind.i64.wrap (s.f1 + s.f0 * s.f2) = s.f1 + s.f0 * s.f2 := IntWalk.i64_in _ (by omega)
      clear hrk hq0' hq1'
      go_upto_region 15 with fail
      have HCM := Aside0.mk (RB_read HR14.out rfl (show (l.set k (offX s l[k])).length = l.length from List.length_set))
      have n4_ := Aside0.mk (below_step HB.out HB14.out)
      have n2_ := Aside0.mk (blk_below GB.out HB14.out)
      have n5_ := Aside0.mk (Kd.C_below HC9.out HB14.out)
      have n6_ := Aside0.mk (Kd.C_below HC6.out HB14.out)
      clear HB GB HC9 HC6 HB13 HR13 hm0 hm1 hm2 hfz HR14 HB14 n1_ hgz hg0 hg1 hg2 hg3 hg4 hg5
      have HB := n4_
      have GB := n2_
      have HC9 := n5_
      have HC6 := n6_
      clear n4_ n2_ n5_ n6_
      generalize (w13.setCell ⟨g13, k * 3, none⟩ (.int .i64 (s.f1 + s.f0 * s.f2))) = w14 at HCM HB GB HC9 HC6 ⊢
      have hgz : w1.heap.size < (w14).heap.size := blk_lt (GB.out); have hg0 : (w14).cell? ⟨w1.heap.size, 0, none⟩ = some (.int .i64 s.f0) := (blk_cell (GB.out) 0).trans rfl; have hg1 : (w14).cell? ⟨w1.heap.size, 1, none⟩ = some (.int .i64 s.f1) := (blk_cell (GB.out) 1).trans rfl; have hg2 : (w14).cell? ⟨w1.heap.size, 2, none⟩ = some (.int .i64 s.f2) := (blk_cell (GB.out) 2).trans rfl; have hg3 : (w14).cell? ⟨w1.heap.size, 3, none⟩ = some (.int .i64 s.f3) := (blk_cell (GB.out) 3).trans rfl; have hg4 : (w14).cell? ⟨w1.heap.size, 4, none⟩ = some (.int .i64 s.f4) := (blk_cell (GB.out) 4).trans rfl; have hg5 : (w14).cell? ⟨w1.heap.size, 5, none⟩ = some (.int .i64 s.f5) := (blk_cell (GB.out) 5).trans rfl
      go_upto_region 16 with (first
        | (go_at_call 10; refine (read_to s (some ⟨g13, 0, none⟩) cap13 (l.set k (offX s l[k])) _ _ l.length _ HCM.out.2 List.length_set HCM.out.1 (HG.out.below HB.out) HFF2.out).mono ?_; rintro e w15 ⟨rfl, hb⟩; have n1_ := Aside0.mk (below_step HB.out hb); have n2_ := Aside0.mk (blk_below GB.out hb); have n3_ := Aside0.mk (Kd.C_below HC9.out hb); have n4_ := Aside0.mk (Kd.C_below HC6.out hb); clear hb HB GB HC9 HC6 HCM; clear hgz hg0 hg1 hg2 hg3 hg4 hg5; have HB := n1_; have GB := n2_; have HC9 := n3_; have HC6 := n4_; clear n1_ n2_ n3_ n4_; have hgz : w1.heap.size < (w15).heap.size := blk_lt (GB.out); have hg0 : (w15).cell? ⟨w1.heap.size, 0, none⟩ = some (.int .i64 s.f0) := (blk_cell (GB.out) 0).trans rfl; have hg1 : (w15).cell? ⟨w1.heap.size, 1, none⟩ = some (.int .i64 s.f1) := (blk_cell (GB.out) 1).trans rfl; have hg2 : (w15).cell? ⟨w1.heap.size, 2, none⟩ = some (.int .i64 s.f2) := (blk_cell (GB.out) 2).trans rfl; have hg3 : (w15).cell? ⟨w1.heap.size, 3, none⟩ = some (.int .i64 s.f3) := (blk_cell (GB.out) 3).trans rfl; have hg4 : (w15).cell? ⟨w1.heap.size, 4, none⟩ = some (.int .i64 s.f4) := (blk_cell (GB.out) 4).trans rfl; have hg5 : (w15).cell? ⟨w1.heap.size, 5, none⟩ = some (.int .i64 s.f5) := (blk_cell (GB.out) 5).trans rfl))
      obtain ⟨ad15, hA15, hk15, _, _⟩ := at_bar HC9.out k hkl
      obtain rfl := Option.some.inj hA15
      have hlt15 := World.block_lt_of_cell? _ _ hk15
      have hltg15 : w1.heap.size < w15.heap.size := hgz
      have H15 := Aside0.mk hlt15
      have HLE15 := Aside0.mk (below_size HB.out)
      have HG15 := Aside0.mk hltg15
      clear hk15 hlt15 hltg15 hA15
      go_upto_region 17 with (first
        | (at_builtin; refine bars_append (w0 := w15) w15.heap.size rfl (.tmp 109) (.tmp 110) rfl (.slice (some ⟨w15.heap.size, 0, none⟩) 0 0) [] less A6 c6 rfl rfl ?a1 ?a2 ?a3 ?a4 ?a5 ?_; (case a1 => exact RB_block (l := []) (blk_new w15 _) rfl (Nat.le_refl _) (by decide)); (case a2 => exact Kd.C_below HC6.out (below_alloc (Below.refl _ _) _)); (case a3 => exact below_alloc (Below.refl _ _) _); (case a4 => exact below_size (below_alloc (Below.refl _ _) _)); (case a5 => rw [List.length_nil]; omega); intro v16 w16 hr hb hg; have HR16 := Aside0.mk hr; have n1_ := Aside0.mk (below_step HB.out hb); have n2_ := Aside0.mk (blk_below GB.out hb); have n3_ := Aside0.mk (Kd.C_below HC9.out hb); have n4_ := Aside0.mk (Kd.C_below HC6.out hb); have HB16 := Aside0.mk hb; clear hr hb hg HB GB HC9 HC6; clear hgz hg0 hg1 hg2 hg3 hg4 hg5; have HB := n1_; have GB := n2_; have HC9 := n3_; have HC6 := n4_; clear n1_ n2_ n3_ n4_; have hgz : w1.heap.size < (w16).heap.size := blk_lt (GB.out); have hg0 : (w16).cell? ⟨w1.heap.size, 0, none⟩ = some (.int .i64 s.f0) := (blk_cell (GB.out) 0).trans rfl; have hg1 : (w16).cell? ⟨w1.heap.size, 1, none⟩ = some (.int .i64 s.f1) := (blk_cell (GB.out) 1).trans rfl; have hg2 : (w16).cell? ⟨w1.heap.size, 2, none⟩ = some (.int .i64 s.f2) := (blk_cell (GB.out) 2).trans rfl; have hg3 : (w16).cell? ⟨w1.heap.size, 3, none⟩ = some (.int .i64 s.f3) := (blk_cell (GB.out) 3).trans rfl; have hg4 : (w16).cell? ⟨w1.heap.size, 4, none⟩ = some (.int .i64 s.f4) := (blk_cell (GB.out) 4).trans rfl; have hg5 : (w16).cell? ⟨w1.heap.size, 5, none⟩ = some (.int .i64 s.f5) := (blk_cell (GB.out) 5).trans rfl))
      obtain ⟨ad9', hA9, hk0', hk1', hk2'⟩ := at_bar HC9.out k hkl
      obtain rfl := Option.some.inj hA9
      have hrk := HRK.out
      have hbj := HBJ.out
      have hjm0 : 0 ≤ (j : Int) * s.f2 := Int.mul_nonneg (by omega) (by omega)
      have hjm1 : (j : Int) * s.f2 ≤ 200 * 1048576 := Int.le_trans (Int.mul_le_mul_of_nonneg_right (show (j : Int) ≤ 200 by have := HLEN.out; omega) (by omega)) (Int.mul_le_mul_of_nonneg_left (show s.f2 ≤ 1048576 by omega) (by omega))
      have hwx1 : IntKind.i64.wrap (l[k].f0 + s.f3) = l[k].f0 + s.f3 := by rw [hbj]; exact IntWalk.i64_in _ (by omega)
      have hwx2 : IntKind.i64.wrap (l[k].f0 + s.f3 + 1) = l[k].f0 + s.f3 + 1 := by rw [hbj]; exact IntWalk.i64_in _ (by omega)
      clear hrk hbj hjm0 hjm1
      have HK16 := Aside0.mk (fun W (hb : Below w15.heap.size w16 W) => (⟨hb, (hb.cell H15.out).trans hk0', (hb.cell HG15.out).trans hg3, (hb.cell HG15.out).trans hg4⟩ : Below w15.heap.size w16 W ∧ W.cell? (ad9.add (k * 3)) = some (.int .i64 l[k].f0) ∧ W.cell? ⟨w1.heap.size, 3, none⟩ = some (.int .i64 s.f3) ∧ W.cell? ⟨w1.heap.size, 4, none⟩ = some (.int .i64 s.f4)))
      go_region_held3 (fun W => Below w15.heap.size w16 W ∧ W.cell? (ad9.add (k * 3)) = some (.int .i64 l[k].f0) ∧ W.cell? ⟨w1.heap.size, 3, none⟩ = some (.int .i64 s.f3) ∧ W.cell? ⟨w1.heap.size, 4, none⟩ = some (.int .i64 s.f4))
        (first
          | exact HK16.out _ (below_drew1 (Below.refl _ _))
          | exact HK16.out _ (below_drew1 (Below.mono (below_alloc (Below.refl _ _) _) (below_size HB16.out)))
          | exact HK16.out _ hb17
          | (trace_state; fail))
        (first
          | (refine bar_append_step (w0 := w16) (W := w16) w15.heap.size (by simp [Region.wanted]) (.tmp 112) (.tmp 127) rfl v16 ([] ++ less) (midX s l[k]) rfl rfl HR16.out (Below.refl _ _) (below_size HB16.out) (by rw [List.nil_append]; omega) ?_; intro v17 w17 ho hb17 hgr; have HR17 := Aside0.mk ho; clear ho hgr)
          | (trace_state; fail))
      have hW17 := And.left ‹Below w15.heap.size w16 w17 ∧ _›
      obtain ⟨A17, c17, e17, hl17, hC17⟩ := row_len HR17.out (show [] ++ less ++ [midX s l[k]] = less ++ [midX s l[k]] from rfl) (show (less ++ [midX s l[k]]).length = less.length + 1 from List.length_append)
      subst e17
      have HL17 := Aside0.mk hl17
      have HC17 := Aside0.mk hC17
      have n1_ := Aside0.mk (HB.out.trans (hW17.mono HLE15.out))
      have n2_ := Aside0.mk ((hW17.block w1.heap.size HG15.out).trans GB.out)
      clear ‹Below w15.heap.size w16 w17 ∧ _›
      clear hW17 hl17 hC17 HR17 HB GB HC9 HC6 hgz hg0 hg1 hg2 hg3 hg4 hg5 hk0' hk1' hk2' HK16 HB16 hwx1 hwx2
      have HB := n1_
      have GB := n2_
      clear n1_ n2_
      have hgz : w1.heap.size < (w17).heap.size := blk_lt (GB.out); have hg0 : (w17).cell? ⟨w1.heap.size, 0, none⟩ = some (.int .i64 s.f0) := (blk_cell (GB.out) 0).trans rfl; have hg1 : (w17).cell? ⟨w1.heap.size, 1, none⟩ = some (.int .i64 s.f1) := (blk_cell (GB.out) 1).trans rfl; have hg2 : (w17).cell? ⟨w1.heap.size, 2, none⟩ = some (.int .i64 s.f2) := (blk_cell (GB.out) 2).trans rfl; have hg3 : (w17).cell? ⟨w1.heap.size, 3, none⟩ = some (.int .i64 s.f3) := (blk_cell (GB.out) 3).trans rfl; have hg4 : (w17).cell? ⟨w1.heap.size, 4, none⟩ = some (.int .i64 s.f4) := (blk_cell (GB.out) 4).trans rfl; have hg5 : (w17).cell? ⟨w1.heap.size, 5, none⟩ = some (.int .i64 s.f5) := (blk_cell (GB.out) 5).trans rfl
      obtain ⟨t18, n18, h18, hN18⟩ : ∃ t18 n18, readL s (less ++ [midX s l[k]]) = (t18, n18) ∧ ((nextP s t j ∧ t18 = ⟨(t.take j ++ 63 :: 84 :: t.drop (j + 2)).toArray⟩ ∧ n18 = 0) ∨ (¬ nextP s t j ∧ n18 = 210)) := by
        by_cases hN : nextP s t j
        · exact ⟨_, _, HFF3.out hN, .inl ⟨hN, rfl, rfl⟩⟩
        · exact ⟨_, _, HFF4.out hN, .inr ⟨hN, rfl⟩⟩
      have H18 := Aside0.mk h18
      have HN18 := Aside0.mk hN18
      clear h18 hN18
      go_upto_region 19 with (first
        | (go_at_call 10; refine (read_to s A17 c17 (less ++ [midX s l[k]]) t18 n18 (less.length + 1) _ HC17.out (show (less ++ [midX s l[k]]).length = less.length + 1 from List.length_append) HL17.out (HG.out.below HB.out) H18.out).mono ?_; rintro e w18 ⟨rfl, hb⟩; have n1_ := Aside0.mk (below_step HB.out hb); have n2_ := Aside0.mk (blk_below GB.out hb); clear hb HB GB HC17; clear hgz hg0 hg1 hg2 hg3 hg4 hg5; have HB := n1_; have GB := n2_; clear n1_ n2_; have hgz : w1.heap.size < (w18).heap.size := blk_lt (GB.out); have hg0 : (w18).cell? ⟨w1.heap.size, 0, none⟩ = some (.int .i64 s.f0) := (blk_cell (GB.out) 0).trans rfl; have hg1 : (w18).cell? ⟨w1.heap.size, 1, none⟩ = some (.int .i64 s.f1) := (blk_cell (GB.out) 1).trans rfl; have hg2 : (w18).cell? ⟨w1.heap.size, 2, none⟩ = some (.int .i64 s.f2) := (blk_cell (GB.out) 2).trans rfl; have hg3 : (w18).cell? ⟨w1.heap.size, 3, none⟩ = some (.int .i64 s.f3) := (blk_cell (GB.out) 3).trans rfl; have hg4 : (w18).cell? ⟨w1.heap.size, 4, none⟩ = some (.int .i64 s.f4) := (blk_cell (GB.out) 4).trans rfl; have hg5 : (w18).cell? ⟨w1.heap.size, 5, none⟩ = some (.int .i64 s.f5) := (blk_cell (GB.out) 5).trans rfl))
      have hbk := HBK.out
      have hwa : IntKind.i64.wrap (s.f3 * 2) = s.f3 * 2 := IntWalk.i64_in _ (by omega)
      have hwb : IntKind.i64.wrap (s.f3 * 2 + 1) = s.f3 * 2 + 1 := IntWalk.i64_in _ (by omega)
      obtain ⟨j1, hj1⟩ : ∃ j1, j1 = j + 1 := ⟨_, rfl⟩
      have hwc : IntKind.i64.wrap ((j : Int) + 1) = (j1 : Int) := by rw [hj1]; exact IntWalk.i64_in _ (by have := HLEN.out; omega)
      have HJ1 := Aside0.mk hj1
      clear hbk
      rcases HN18.out with ⟨⟨hn1, hn2, hn3⟩, rfl, rfl⟩ | ⟨hno, rfl⟩
      · have hA : (s.f3 * 2 + 1 == s.f2) = true := beq_iff_eq.2 hn1
        have hB : decide ((j1 : Int) < s.f0) = true := decide_eq_true (by omega)
        have hlt1 : j1 < t.length := by have := HLEN.out; omega
        have hch : ∀ h : j1 < (⟨t.toArray⟩ : ByteArray).size, ((((⟨t.toArray⟩ : ByteArray)[j1]'h).toNat : Nat) : Int) = 63 := fun h => by
          have e : (⟨t.toArray⟩ : ByteArray)[j1]'h = t[j1] := rfl
          rw [e]
          rw [← hj1, List.getElem?_eq_getElem hlt1] at hn3
          rw [Option.some.inj hn3]
          rfl
        clear hn1 hn2 hn3 hj1
        go_upto_region 21 with fail
        obtain ⟨j2, hj2⟩ : ∃ j2, j2 = j + 2 := ⟨_, rfl⟩
        have hwd : IntKind.i64.wrap ((j : Int) + 2) = (j2 : Int) := by rw [hj2]; exact IntWalk.i64_in _ (by have := HLEN.out; have := HBK.out; omega)
        have ha0 : (0 : Int) ≤ (j : Int) := by omega
        have ha1 : (j : Int) ≤ (t.length : Int) := by omega
        have ha2 : (0 : Int) ≤ (j2 : Int) := by omega
        have ha3 : (j2 : Int) ≤ (t.length : Int) := by have := HJ1.out; omega
        have ha4 : j ≤ t.length := by omega
        have ha5 : j2 ≤ t.length := by omega
        have ha6 : ¬ 9223372036854775807 < j + 2 := by have := HLEN.out; have := HBK.out; omega
        have ha7 : ¬ 9223372036854775807 < j + 2 + (t.length - j2) := by have := HLEN.out; have := HBK.out; omega
        have hcat : (⟨t.toArray⟩ : ByteArray).extract 0 j ++ ⟨#[63, 84]⟩ ++ (⟨t.toArray⟩ : ByteArray).extract j2 t.length = ⟨(t.take j ++ 63 :: 84 :: t.drop (j + 2)).toArray⟩ := by
          rw [hj2]
          exact cut_text2 t j
        have HJ2 := Aside0.mk hj2
        clear hj2
        go_region_held3 (fun W => Below w18.heap.size w18 W)
          (first
            | exact below_drew1 (Below.refl _ _)
            | assumption
            | fail)
          (first | fail)
        go_wp2_with fail
        have hb0 : (0 : Int) ≤ (j : Int) := by omega
        have hb1 : (j : Int) ≤ (t.length : Int) := by omega
        have hb2 : (0 : Int) ≤ (j1 : Int) := by omega
        have hb3 : (j1 : Int) ≤ (t.length : Int) := by have := HJ1.out; omega
        have hb4 : j ≤ t.length := by omega
        have hb5 : j1 ≤ t.length := by have := HJ1.out; omega
        have hb6 : ¬ 9223372036854775807 < j + 1 := by have := HLEN.out; have := HBK.out; omega
        have hb7 : ¬ 9223372036854775807 < j + 1 + (t.length - j1) := by have := HLEN.out; have := HBK.out; omega
        have hcat1 : (⟨t.toArray⟩ : ByteArray).extract 0 j ++ ⟨#[63]⟩ ++ (⟨t.toArray⟩ : ByteArray).extract j1 t.length = ⟨(t.take j ++ 63 :: t.drop (j + 1)).toArray⟩ := by
          rw [HJ1.out]
          exact cut_text1 t j
        go_upto_region 22 with fail
        go_region_held3 (fun W => Below w18.heap.size w18 W)
          (first
            | exact below_drew1 (Below.refl _ _)
            | exact below_drew1 (below_drew1 (Below.refl _ _))
            | exact below_step (by assumption) hb
            | assumption
            | fail)
          (first
            | (go_at_call 9; refine Calls.mono (awake_walk _ ?_) ?_; (any_goals (first | exact HG.out.below (below_step HB.out (below_drew1 (Below.refl _ _))) | exact HG.out.below (below_step HB.out (below_drew1 (below_drew1 (Below.refl _ _)))) | exact HG.out.below (below_step HB.out (by assumption)) | skip)); rintro e w20 ⟨rfl, hb⟩))
        go_wp2_with fail
        go_ret
        exact ⟨rfl, below_step HB.out (by assumption)⟩
      · by_cases hA0 : s.f3 * 2 + 1 = s.f2
        · have hA : (s.f3 * 2 + 1 == s.f2) = true := beq_iff_eq.2 hA0
          by_cases hB0 : (j : Int) + 1 < s.f0
          · have hB : decide ((j1 : Int) < s.f0) = true := decide_eq_true (by omega)
            have hlt1 : j1 < t.length := by have := HLEN.out; omega
            have hne1 : t[j1] ≠ 63 := fun h => hno ⟨hA0, hB0, by rw [← hj1, List.getElem?_eq_getElem hlt1, h]⟩
            obtain ⟨bv, hbv⟩ : ∃ bv : Int, bv = ((t[j1].toNat : Nat) : Int) := ⟨_, rfl⟩
            have hch : ∀ h : j1 < (⟨t.toArray⟩ : ByteArray).size, ((((⟨t.toArray⟩ : ByteArray)[j1]'h).toNat : Nat) : Int) = bv := fun h => by rw [hbv]; rfl
            have hcn : (bv == 63) = false := beq_false_of_ne (fun h => hne1 (UInt8.toNat_inj.1 (by rw [show (63 : UInt8).toNat = 63 from rfl]; omega)))
            clear hno hA0 hB0 hne1 hbv hj1
            have hb0 : (0 : Int) ≤ (j : Int) := by omega
            have hb1 : (j : Int) ≤ (t.length : Int) := by omega
            have hb2 : (0 : Int) ≤ (j1 : Int) := by omega
            have hb3 : (j1 : Int) ≤ (t.length : Int) := by have := HJ1.out; omega
            have hb4 : j ≤ t.length := by omega
            have hb5 : j1 ≤ t.length := by have := HJ1.out; omega
            have hb6 : ¬ 9223372036854775807 < j + 1 := by have := HLEN.out; have := HBK.out; omega
            have hb7 : ¬ 9223372036854775807 < j + 1 + (t.length - j1) := by have := HLEN.out; have := HBK.out; omega
            have hcat1 : (⟨t.toArray⟩ : ByteArray).extract 0 j ++ ⟨#[63]⟩ ++ (⟨t.toArray⟩ : ByteArray).extract j1 t.length = ⟨(t.take j ++ 63 :: t.drop (j + 1)).toArray⟩ := by
              rw [HJ1.out]
              exact cut_text1 t j
            go_upto_region 22 with fail
            go_region_held3 (fun W => Below w18.heap.size w18 W)
              (first
                | exact below_drew1 (Below.refl _ _)
                | exact below_drew1 (below_drew1 (Below.refl _ _))
                | exact below_step (by assumption) hb
                | assumption
                | fail)
              (first
                | (go_at_call 9; refine Calls.mono (awake_walk _ ?_) ?_; (any_goals (first | exact HG.out.below (below_step HB.out (below_drew1 (Below.refl _ _))) | exact HG.out.below (below_step HB.out (below_drew1 (below_drew1 (Below.refl _ _)))) | exact HG.out.below (below_step HB.out (by assumption)) | skip)); rintro e w20 ⟨rfl, hb⟩))
            go_wp2_with fail
            go_ret
            exact ⟨rfl, below_step HB.out (by assumption)⟩
          · have hB : decide ((j1 : Int) < s.f0) = false := decide_eq_false (by omega)
            clear hno hA0 hB0 hj1
            have hb0 : (0 : Int) ≤ (j : Int) := by omega
            have hb1 : (j : Int) ≤ (t.length : Int) := by omega
            have hb2 : (0 : Int) ≤ (j1 : Int) := by omega
            have hb3 : (j1 : Int) ≤ (t.length : Int) := by have := HJ1.out; omega
            have hb4 : j ≤ t.length := by omega
            have hb5 : j1 ≤ t.length := by have := HJ1.out; omega
            have hb6 : ¬ 9223372036854775807 < j + 1 := by have := HLEN.out; have := HBK.out; omega
            have hb7 : ¬ 9223372036854775807 < j + 1 + (t.length - j1) := by have := HLEN.out; have := HBK.out; omega
            have hcat1 : (⟨t.toArray⟩ : ByteArray).extract 0 j ++ ⟨#[63]⟩ ++ (⟨t.toArray⟩ : ByteArray).extract j1 t.length = ⟨(t.take j ++ 63 :: t.drop (j + 1)).toArray⟩ := by
              rw [HJ1.out]
              exact cut_text1 t j
            go_upto_region 22 with fail
            go_region_held3 (fun W => Below w18.heap.size w18 W)
              (first
                | exact below_drew1 (Below.refl _ _)
                | exact below_drew1 (below_drew1 (Below.refl _ _))
                | exact below_step (by assumption) hb
                | assumption
                | fail)
              (first
                | (go_at_call 9; refine Calls.mono (awake_walk _ ?_) ?_; (any_goals (first | exact HG.out.below (below_step HB.out (below_drew1 (Below.refl _ _))) | exact HG.out.below (below_step HB.out (below_drew1 (below_drew1 (Below.refl _ _)))) | exact HG.out.below (below_step HB.out (by assumption)) | skip)); rintro e w20 ⟨rfl, hb⟩))
            go_wp2_with fail
            go_ret
            exact ⟨rfl, below_step HB.out (by assumption)⟩
        · have hA : (s.f3 * 2 + 1 == s.f2) = false := beq_false_of_ne hA0
          clear hno hA0 hj1
          have hb0 : (0 : Int) ≤ (j : Int) := by omega
          have hb1 : (j : Int) ≤ (t.length : Int) := by omega
          have hb2 : (0 : Int) ≤ (j1 : Int) := by omega
          have hb3 : (j1 : Int) ≤ (t.length : Int) := by have := HJ1.out; omega
          have hb4 : j ≤ t.length := by omega
          have hb5 : j1 ≤ t.length := by have := HJ1.out; omega
          have hb6 : ¬ 9223372036854775807 < j + 1 := by have := HLEN.out; have := HBK.out; omega
          have hb7 : ¬ 9223372036854775807 < j + 1 + (t.length - j1) := by have := HLEN.out; have := HBK.out; omega
          have hcat1 : (⟨t.toArray⟩ : ByteArray).extract 0 j ++ ⟨#[63]⟩ ++ (⟨t.toArray⟩ : ByteArray).extract j1 t.length = ⟨(t.take j ++ 63 :: t.drop (j + 1)).toArray⟩ := by
            rw [HJ1.out]
            exact cut_text1 t j
          go_upto_region 22 with fail
          go_region_held3 (fun W => Below w18.heap.size w18 W)
            (first
              | exact below_drew1 (Below.refl _ _)
              | exact below_drew1 (below_drew1 (Below.refl _ _))
              | exact below_step (by assumption) hb
              | assumption
              | fail)
            (first
              | (go_at_call 9; refine Calls.mono (awake_walk _ ?_) ?_; (any_goals (first | exact HG.out.below (below_step HB.out (below_drew1 (Below.refl _ _))) | exact HG.out.below (below_step HB.out (below_drew1 (below_drew1 (Below.refl _ _)))) | exact HG.out.below (below_step HB.out (by assumption)) | skip)); rintro e w20 ⟨rfl, hb⟩))
          go_wp2_with fail
          go_ret
          exact ⟨rfl, below_step HB.out (by assumption)⟩
end Go.Proofs.YtadojakbfpdjjaaDoor.Px
