/-
  height.Draw: bars as they should be measured.
-/
import Derived.Test.YtadojakbfpdjjaaDoorHRead
namespace Go.Proofs.YtadojakbfpdjjaaDoor.Px
open Go.RowKit Go.Maps Go.Proofs.YtadojakbfpdjjaaDoorW.PrintWords Go.Proofs.YtadojakbfpdjjaaDoorW.PrintLast Go.Proofs.YtadojakbfpdjjaaDoorW.PrintMore

theorem index5 (c : UInt8) : (0 ≤ Lib.indexByte [84, 65, 68, 70, 63] c ↔ isLet c) := by
  have : ∀ n : Fin 256, (0 ≤ Lib.indexByte [84, 65, 68, 70, 63] (UInt8.ofNat n.val) ↔ isLet (UInt8.ofNat n.val)) := by decide +kernel
  have h := this ⟨c.toNat, UInt8.toNat_lt c⟩
  simpa using h
theorem indexUp (c : UInt8) : (0 ≤ Lib.indexByte [65, 70] c ↔ c = 65 ∨ c = 70) := by
  have : ∀ n : Fin 256, (0 ≤ Lib.indexByte [65, 70] (UInt8.ofNat n.val) ↔ UInt8.ofNat n.val = 65 ∨ UInt8.ofNat n.val = 70) := by decide +kernel
  have h := this ⟨c.toNat, UInt8.toNat_lt c⟩
  simpa using h
theorem indexDown (c : UInt8) : (0 ≤ Lib.indexByte [68, 70] c ↔ c = 68 ∨ c = 70) := by
  have : ∀ n : Fin 256, (0 ≤ Lib.indexByte [68, 70] (UInt8.ofNat n.val) ↔ UInt8.ofNat n.val = 68 ∨ UInt8.ofNat n.val = 70) := by decide +kernel
  have h := this ⟨c.toNat, UInt8.toNat_lt c⟩
  simpa using h
theorem u8_back (c : UInt8) : ((c.toNat : Int)).toNat.toUInt8 = c := by simp
theorem index_any (l : List UInt8) (c : UInt8) (w : World) : Calls Tryd.prog 37 #[.string ⟨l.toArray⟩, .int .u8 (c.toNat : Int)] w fun e w' => e = .returned (.int .i64 (Lib.indexByte l c)) ∧ w' = w := by
  have h := Tryd.strings_IndexByte ⟨l.toArray⟩ (c.toNat : Int) w
  rw [u8_back] at h
  exact h

theorem tall_up (s : Stp) (c : UInt8) (g : Nat) (w : World) (h4 : w.cell? ⟨g, 4, none⟩ = some (.int .i64 s.f4)) (h5 : w.cell? ⟨g, 5, none⟩ = some (.int .i64 s.f5)) :
    Calls Tryd.prog 36 #[.int .u8 (c.toNat : Int), .string ⟨#[65, 70]⟩, .pointer (some ⟨g, 0, none⟩)] w fun e w' => e = .returned (.int .i64 (tallOf s c 65)) ∧ w' = w := by
  have hi := fun W => index_any [65, 70] c W
  have HI := Aside0.mk hi
  have hx := indexUp c
  by_cases h : c = 65 ∨ c = 70
  · have hd : decide (0 ≤ Lib.indexByte [65, 70] c) = true := decide_eq_true (hx.2 h)
    have ht : tallOf s c 65 = s.f5 := if_pos h
    rw [ht]
    clear hi hx h ht
    go_enter Tryd.func36, Tryd.ntmps36
    go_wp2_with (go_at_call 37; refine (HI.out _).mono ?_; rintro e w' ⟨rfl, rfl⟩)
    go_ret
    exact ⟨rfl, rfl⟩
  · have hd : decide (0 ≤ Lib.indexByte [65, 70] c) = false := decide_eq_false (fun h1 => h (hx.1 h1))
    have ht : tallOf s c 65 = s.f4 := if_neg h
    rw [ht]
    clear hi hx h ht
    go_enter Tryd.func36, Tryd.ntmps36
    go_wp2_with (go_at_call 37; refine (HI.out _).mono ?_; rintro e w' ⟨rfl, rfl⟩)
    go_ret
    exact ⟨rfl, rfl⟩
theorem tall_down (s : Stp) (c : UInt8) (g : Nat) (w : World) (h4 : w.cell? ⟨g, 4, none⟩ = some (.int .i64 s.f4)) (h5 : w.cell? ⟨g, 5, none⟩ = some (.int .i64 s.f5)) :
    Calls Tryd.prog 36 #[.int .u8 (c.toNat : Int), .string ⟨#[68, 70]⟩, .pointer (some ⟨g, 0, none⟩)] w fun e w' => e = .returned (.int .i64 (tallOf s c 68)) ∧ w' = w := by
  have hi := fun W => index_any [68, 70] c W
  have HI := Aside0.mk hi
  have hx := indexDown c
  by_cases h : c = 68 ∨ c = 70
  · have hd : decide (0 ≤ Lib.indexByte [68, 70] c) = true := decide_eq_true (hx.2 h)
    have ht : tallOf s c 68 = s.f5 := if_pos h
    rw [ht]
    clear hi hx h ht
    go_enter Tryd.func36, Tryd.ntmps36
    go_wp2_with (go_at_call 37; refine (HI.out _).mono ?_; rintro e w' ⟨rfl, rfl⟩)
    go_ret
    exact ⟨rfl, rfl⟩
  · have hd : decide (0 ≤ Lib.indexByte [68, 70] c) = false := decide_eq_false (fun h1 => h (hx.1 h1))
    have ht : tallOf s c 68 = s.f4 := if_neg h
    rw [ht]
    clear hi hx h ht
    go_enter Tryd.func36, Tryd.ntmps36
    go_wp2_with (go_at_call 37; refine (HI.out _).mono ?_; rintro e w' ⟨rfl, rfl⟩)
    go_ret
    exact ⟨rfl, rfl⟩
theorem barsFrom_snoc (s : Stp) (c : UInt8) : ∀ (t : List UInt8) (k : Nat), barsFrom s k (t ++ [c]) = barsFrom s k t ++ (if c = 63 then [] else [barOf s (k + t.length) c])
  | [], k => by
    rw [List.nil_append]
    unfold barsFrom barsFrom
    split <;> simp
  | a :: t, k => by
    have ih := barsFrom_snoc s c t (k + 1)
    rw [List.cons_append]
    have e : k + (a :: t).length = k + 1 + t.length := by simp; omega
    rw [e]
    unfold barsFrom
    rw [ih]
    split
    · rfl
    · rfl
theorem barsFrom_len (s : Stp) : ∀ (t : List UInt8) (k : Nat), (barsFrom s k t).length ≤ t.length
  | [], _ => Nat.le_refl _
  | a :: t, k => by
    have ih := barsFrom_len s t (k + 1)
    unfold barsFrom
    split
    · simp; omega
    · simp; omega

theorem bar_append_step {ops : Array Oper} {o : Oper} {a : Act} {Kc : Act → World → Prop} {Q : Exit → Act → World → Prop} {E : Prop} {w0 W : World} (base : Nat) (hw : Region.wanted o (yielded ops a.tmps) = true) (s x : Operand)
    (ho : o.op = .call { callee := .builtin .append, args := #[s, x], argTypes := #[24, 24] }) (v : Value) (xs : List Bar) (p : Bar) (hs : a.eval s = v) (hx : a.eval x = .slice (some ⟨W.heap.size, 0, none⟩) 1 1)
    (HO : Kd.R k48 48 W base (fun _ => True) v xs) (HB : Below base w0 W) (hbase : base ≤ W.heap.size) (hl : (xs.length + 1) * 24 ≤ 140737488355328)
    (h : ∀ v1 w1, Kd.R k48 48 w1 base (fun _ => True) v1 (xs ++ [p]) → Below base w0 w1 → W.drew.grownBy w1 v.ownBlock → Kc (a.put o.dst v1) w1) :
    if Region.wanted o (yielded ops a.tmps) = true then Oper.wp Tryd.prog o a ((W.alloc (.cells #[.int .i64 p.f0, .int .i64 p.f1, .int .i64 p.f2] 48)).drew) Kc Q else E := by
  have h1 := Kd.R_append_step (P := Tryd.prog) (ops := ops) (o := o) (a := a) (Kc := Kc) (Q := Q) k48 (w0 := w0) (W := W.drew) base hw s x 24 48 (.agg #[(.int .i64 0), (.int .i64 0), (.int .i64 0)]) 24 ho Tryd.underlying24 info48 rfl (by decide) (by omega) v xs p [.int .i64 p.f0, .int .i64 p.f1, .int .i64 p.f2] (fun _ => True) (fun _ => False) hs hx
    (k48_mkM _ _ _ p) (fun _ hk => hk.elim) (fun _ _ => trivial) (Kd.R_drew HO) (below_drew1 HB) hbase hl (fun v1 w1 a1 a2 a3 _ => h v1 w1 a1 a2 a3)
  rw [if_pos hw] at h1 ⊢
  exact h1
theorem size_mk (l : List UInt8) : (⟨l.toArray⟩ : ByteArray).size = l.length := by simp [ByteArray.size]
theorem get_mk (l : List UInt8) (k : Nat) (_h : k < l.length) (h' : k < (⟨l.toArray⟩ : ByteArray).size) : (⟨l.toArray⟩ : ByteArray)[k]'h' = l[k] := rfl

set_option maxHeartbeats 8000000 in
set_option maxRecDepth 100000 in
theorem draw_walk (s : Stp) (t : List UInt8) (w : World) (hm : t.length ≤ 9223372036854775807) :
    Calls Tryd.prog 18 #[.agg #[.int .i64 s.f0, .int .i64 s.f1, .int .i64 s.f2, .int .i64 s.f3, .int .i64 s.f4, .int .i64 s.f5], .string ⟨t.toArray⟩] w fun e w' => ∃ v, e = .returned (.tuple #[v, .int .i64 (drawL s t).2]) ∧ Kd.R k48 48 w' w.heap.size (fun _ => True) v (drawL s t).1 ∧ Below w.heap.size w w' := by
  by_cases hs : rightP s
  · have hde : decide (rightP s) = true := decide_eq_true hs
    have HS := Aside0.mk hs
    by_cases hl : (t.length : Int) = s.f0
    · have hlb : ((t.length : Int) != s.f0) = false := bne_eq_false_iff_eq.2 hl
      have hlb2 : ((t.length : Int) == s.f0) = true := beq_iff_eq.2 hl
      have hl200 : t.length ≤ 200 := by have := hs.2.1; omega
      have HLEN := Aside0.mk hl
      clear hs hl
      go_enter Tryd.func18, Tryd.ntmps18
      go_wp2_with (go_at_call 15; refine (right_any s _).mono ?_; rw [hde]; rintro e w1 ⟨rfl, hb⟩; have HB := Aside0.mk (below_step (below_alloc (Below.refl _ _) _) hb); have GB := Aside0.mk (blk_below (blk_new w (.cells #[.int .i64 s.f0, .int .i64 s.f1, .int .i64 s.f2, .int .i64 s.f3, .int .i64 s.f4, .int .i64 s.f5] 23 (0, 0))) hb); clear hb; have hgz : w.heap.size < (w1).heap.size := blk_lt (GB.out); have hg0 : (w1).cell? ⟨w.heap.size, 0, none⟩ = some (.int .i64 s.f0) := (blk_cell (GB.out) 0).trans rfl; have hg1 : (w1).cell? ⟨w.heap.size, 1, none⟩ = some (.int .i64 s.f1) := (blk_cell (GB.out) 1).trans rfl; have hg2 : (w1).cell? ⟨w.heap.size, 2, none⟩ = some (.int .i64 s.f2) := (blk_cell (GB.out) 2).trans rfl; have hg3 : (w1).cell? ⟨w.heap.size, 3, none⟩ = some (.int .i64 s.f3) := (blk_cell (GB.out) 3).trans rfl; have hg4 : (w1).cell? ⟨w.heap.size, 4, none⟩ = some (.int .i64 s.f4) := (blk_cell (GB.out) 4).trans rfl; have hg5 : (w1).cell? ⟨w.heap.size, 5, none⟩ = some (.int .i64 s.f5) := (blk_cell (GB.out) 5).trans rfl)
      clear hg0 hg1 hg2 hg3 hg4 hg5
      go_loopw [7, 23] (fun v7 v23 wr => ∃ k : Nat, k ≤ t.length ∧ v23 = .int .i64 (k : Int) ∧ Aside0 (∀ c ∈ t.take k, isLet c) ∧ Aside0 (Kd.R k48 48 wr w.heap.size (fun _ => True) v7 (barsFrom s 0 (t.take k))) ∧ Aside0 (wr.heap[w.heap.size]? = some (.cells #[.int .i64 s.f0, .int .i64 s.f1, .int .i64 s.f2, .int .i64 s.f3, .int .i64 s.f4, .int .i64 s.f5] 23 (0, 0))) ∧ Aside0 (Below w.heap.size w wr)) (fun _ v23 _ => t.length - (intOf v23).toNat)
      case atStart => exact ⟨0, Nat.zero_le _, rfl, ⟨fun c hc => by simp at hc⟩, ⟨Kd.R_nil _ _ _ _ _⟩, GB, HB⟩
      case round =>
        clear GB HB
        obtain ⟨k, hk, rfl, HO, HR, GB, HB⟩ := hrel
        have hgz : w.heap.size < (wr).heap.size := blk_lt (GB.out); have hg0 : (wr).cell? ⟨w.heap.size, 0, none⟩ = some (.int .i64 s.f0) := (blk_cell (GB.out) 0).trans rfl; have hg1 : (wr).cell? ⟨w.heap.size, 1, none⟩ = some (.int .i64 s.f1) := (blk_cell (GB.out) 1).trans rfl; have hg2 : (wr).cell? ⟨w.heap.size, 2, none⟩ = some (.int .i64 s.f2) := (blk_cell (GB.out) 2).trans rfl; have hg3 : (wr).cell? ⟨w.heap.size, 3, none⟩ = some (.int .i64 s.f3) := (blk_cell (GB.out) 3).trans rfl; have hg4 : (wr).cell? ⟨w.heap.size, 4, none⟩ = some (.int .i64 s.f4) := (blk_cell (GB.out) 4).trans rfl; have hg5 : (wr).cell? ⟨w.heap.size, 5, none⟩ = some (.int .i64 s.f5) := (blk_cell (GB.out) 5).trans rfl
        by_cases hlt : k < t.length
        · obtain ⟨c, hc⟩ : ∃ c, c = t[k] := ⟨_, rfl⟩
          have hbt : ∀ h : k < (⟨t.toArray⟩ : ByteArray).size, ((((⟨t.toArray⟩ : ByteArray)[k]'h).toNat : Nat) : Int) = (c.toNat : Int) := fun h => by rw [hc]; rfl
          have HCk := Aside0.mk hc
          have hnx : barsFrom s 0 (t.take (k + 1)) = barsFrom s 0 (t.take k) ++ (if c = 63 then [] else [barOf s k c]) := by
            rw [← List.take_append_getElem hlt, barsFrom_snoc, ← hc, List.length_take, Nat.min_eq_left hk, Nat.zero_add]
          have HNX := Aside0.mk hnx
          clear hc hnx
          by_cases hlc : isLet c
          · have hix : decide (Lib.indexByte [84, 65, 68, 70, 63] c < 0) = false := decide_eq_false (by have := (index5 c).2 hlc; omega)
            have HO2 : Aside0 (∀ c ∈ t.take (k + 1), isLet c) := ⟨fun d hd => by
              rw [← List.take_append_getElem hlt, List.mem_append, List.mem_singleton] at hd
              rcases hd with hd | hd
              · exact HO.out d hd
              · rw [hd, ← HCk.out]; exact hlc⟩
            clear hlc
            by_cases h63 : c = 63
            · have hq0 : ((c.toNat : Int) == 63) = true := by rw [h63]; rfl
              have hq1 : ((c.toNat : Int) != 63) = false := by rw [h63]; rfl
              have H63 := Aside0.mk h63
              clear h63
              go_wp2_with (go_at_call 37; refine (index_any [84, 65, 68, 70, 63] c _).mono ?_; rintro e w2 ⟨rfl, rfl⟩)
              go_roundw
              case rel => exact ⟨k + 1, by omega, by go_num, HO2, ⟨by rw [HNX.out, if_pos H63.out, List.append_nil]; exact HR.out⟩, GB, HB⟩
              case measure => simp [intOf]; omega
            · have hne : (c.toNat : Int) ≠ 63 := fun e => h63 (UInt8.toNat_inj.1 (by rw [show (63 : UInt8).toNat = 63 from rfl]; omega))
              have hq0 : ((c.toNat : Int) == 63) = false := beq_false_of_ne hne
              have hq1 : ((c.toNat : Int) != 63) = true := bne_iff_ne.2 hne
              have H63 := Aside0.mk h63
              have hp0 : 0 ≤ (k : Int) * s.f2 := Int.mul_nonneg (by omega) (by have := HS.out.2.2.1; omega)
              have hp1 : (k : Int) * s.f2 ≤ 200 * 1048576 := Int.le_trans (Int.mul_le_mul_of_nonneg_right (show (k : Int) ≤ 200 by omega) (by have := HS.out.2.2.1; omega)) (Int.mul_le_mul_of_nonneg_left HS.out.2.2.2.1 (by omega))
              have hwa : IntKind.i64.wrap ((k : Int) * s.f2) = (k : Int) * s.f2 := IntWalk.i64_in _ (by omega)
              have hwb : IntKind.i64.wrap (s.f1 + (k : Int) * s.f2) = s.f1 + (k : Int) * s.f2 := by
                have := HS.out
                unfold rightP at this
                exact IntWalk.i64_in _ (by omega)
              clear h63 hne hp0 hp1
              go_wp2_with (go_at_call 37; refine (index_any [84, 65, 68, 70, 63] c _).mono ?_; rintro e w2 ⟨rfl, rfl⟩)
              obtain ⟨A7, c7, e7⟩ := Kd.R_slice HR.out
              subst e7
              have hne := Kd.R_ne HR.out GB.out (by decide)
              obtain ⟨Wx, hWx⟩ : ∃ Wx, Wx = w2 := ⟨_, rfl⟩
              subst hWx
              go_region_held3 (fun W => W.cell? ⟨w.heap.size, 1, none⟩ = some (.int .i64 s.f1) ∧ W.cell? ⟨w.heap.size, 2, none⟩ = some (.int .i64 s.f2) ∧ W.cell? ⟨w.heap.size, 4, none⟩ = some (.int .i64 s.f4) ∧ W.cell? ⟨w.heap.size, 5, none⟩ = some (.int .i64 s.f5))
                (first
                  | exact ⟨hg1, hg2, hg4, hg5⟩
                  | exact ⟨(blk_cell GB4.out 1).trans rfl, (blk_cell GB4.out 2).trans rfl, (blk_cell GB4.out 4).trans rfl, (blk_cell GB4.out 5).trans rfl⟩
                  | go_keep)
                (first
                  | (refine bar_append_step (w0 := w) (W := Wx) w.heap.size (by simp [Region.wanted]) (.tmp 34) (.tmp 49) rfl (.slice A7 (barsFrom s 0 (t.take k)).length c7) (barsFrom s 0 (t.take k)) (barOf s k c) rfl rfl HR.out HB.out (below_size HB.out) (by have h1 := barsFrom_len s (t.take k) 0; rw [List.length_take] at h1; omega) ?_; intro v1 w4 ho hb4 hgr; have n1_ := Aside0.mk ho; have n2_ := Aside0.mk hb4; have GB4 := Aside0.mk (blk_grown (blk_drew GB.out) hgr hne); clear ho hb4 hgr)
                  | (go_at_call 36; (first | (with_reducible refine Calls.mono (tall_up s c w.heap.size _ ?_ ?_) ?_) | (with_reducible refine Calls.mono (tall_down s c w.heap.size _ ?_ ?_) ?_)); (any_goals (first | exact hg4 | exact hg5 | skip)); rintro e W1 ⟨rfl, rfl⟩))
              go_wp2_with fail
              go_roundw
              case rel => exact ⟨k + 1, by omega, by go_num, HO2, ⟨by rw [HNX.out, if_neg H63.out]; exact n1_.out⟩, GB4, n2_⟩
              case measure => simp [intOf]; omega
          · have hix : decide (Lib.indexByte [84, 65, 68, 70, 63] c < 0) = true := decide_eq_true (by have : ¬ 0 ≤ Lib.indexByte [84, 65, 68, 70, 63] c := (fun h => hlc ((index5 c).1 h)); omega)
            have hno : ¬ drawOk s t := fun h => hlc (by rw [HCk.out]; exact h.2.2 _ (List.getElem_mem hlt))
            have HNO := Aside0.mk hno
            clear hlc hno
            go_wp2_with (go_at_call 37; refine (index_any [84, 65, 68, 70, 63] c _).mono ?_; rintro e w2 ⟨rfl, rfl⟩)
            go_ret2
            have e1 : drawL s t = ([], 2) := if_neg HNO.out
            rw [e1]
            exact ⟨_, rfl, Kd.R_nil _ _ _ _ _, HB.out⟩
        · have hke : k = t.length := by omega
          subst hke
          go_wp2_with fail
          go_ret2
          have hall := HO.out
          have hrr := HR.out
          rw [List.take_of_length_le (Nat.le_refl _)] at hall hrr
          have e1 : drawL s t = (barsFrom s 0 t, 0) := if_pos ⟨HS.out, HLEN.out, hall⟩
          rw [e1]
          exact ⟨_, rfl, hrr, HB.out⟩
    · have hlb : ((t.length : Int) != s.f0) = true := bne_iff_ne.2 hl
      have hlb2 : ((t.length : Int) == s.f0) = false := beq_false_of_ne hl
      have e1 : drawL s t = ([], 2) := if_neg (fun h => hl h.2.1)
      rw [e1]
      clear hl hs e1
      go_enter Tryd.func18, Tryd.ntmps18
      go_wp2_with (go_at_call 15; refine (right_any s _).mono ?_; rw [hde]; rintro e w1 ⟨rfl, hb⟩; have HB := Aside0.mk (below_step (below_alloc (Below.refl _ _) _) hb); have GB := Aside0.mk (blk_below (blk_new w (.cells #[.int .i64 s.f0, .int .i64 s.f1, .int .i64 s.f2, .int .i64 s.f3, .int .i64 s.f4, .int .i64 s.f5] 23 (0, 0))) hb); clear hb; have hgz : w.heap.size < (w1).heap.size := blk_lt (GB.out); have hg0 : (w1).cell? ⟨w.heap.size, 0, none⟩ = some (.int .i64 s.f0) := (blk_cell (GB.out) 0).trans rfl; have hg1 : (w1).cell? ⟨w.heap.size, 1, none⟩ = some (.int .i64 s.f1) := (blk_cell (GB.out) 1).trans rfl; have hg2 : (w1).cell? ⟨w.heap.size, 2, none⟩ = some (.int .i64 s.f2) := (blk_cell (GB.out) 2).trans rfl; have hg3 : (w1).cell? ⟨w.heap.size, 3, none⟩ = some (.int .i64 s.f3) := (blk_cell (GB.out) 3).trans rfl; have hg4 : (w1).cell? ⟨w.heap.size, 4, none⟩ = some (.int .i64 s.f4) := (blk_cell (GB.out) 4).trans rfl; have hg5 : (w1).cell? ⟨w.heap.size, 5, none⟩ = some (.int .i64 s.f5) := (blk_cell (GB.out) 5).trans rfl)
      go_ret2
      exact ⟨_, rfl, Kd.R_nil _ _ _ _ _, HB.out⟩
  · have hde : decide (rightP s) = false := decide_eq_false hs
    have e1 : drawL s t = ([], 2) := if_neg (fun h => hs h.1)
    rw [e1]
    clear hs e1
    go_enter Tryd.func18, Tryd.ntmps18
    go_wp2_with (go_at_call 15; refine (right_any s _).mono ?_; rw [hde]; rintro e w1 ⟨rfl, hb⟩; have HB := Aside0.mk (below_step (below_alloc (Below.refl _ _) _) hb); clear hb)
    go_ret2
    exact ⟨_, rfl, Kd.R_nil _ _ _ _ _, HB.out⟩
end Go.Proofs.YtadojakbfpdjjaaDoor.Px
