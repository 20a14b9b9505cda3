/-
  The reference's Draw, walked.
-/
import Derived.Test.YtadojakbfpdjjaaDoorHReads
namespace Go.Proofs.YtadojakbfpdjjaaDoor.Px
open Go.RowKit Go.Maps Go.Proofs.YtadojakbfpdjjaaDoorW.PrintWords Go.Proofs.YtadojakbfpdjjaaDoorW.PrintLast Go.Proofs.YtadojakbfpdjjaaDoorW.PrintMore

abbrev kR : Kd Rbar := k47
abbrev RR (w : World) (base : Nat) (v : Value) (l : List Bar) : Prop := Kd.R kR 47 w base (fun _ => True) v (m0 l)
theorem rbar_append {w0 W : World} {ops : Array Oper} {rest : List Oper} {o : Oper} {a : Act} {Q : Exit → Act → World → Prop} (base : Nat) (hgd : o.guard = none) (s x : Operand)
    (ho : o.op = .call { callee := .builtin .append, args := #[s, x], argTypes := #[34, 34] }) (v : Value) (xs : List Bar) (p : Bar) (hs : a.eval s = v) (n : Nat) (hn : W.heap.size = n) (hx : a.eval x = .slice (some ⟨n, 0, none⟩) 1 1)
    (HO : RR W base v xs) (HB : Below base w0 W) (hbase : base ≤ W.heap.size) (hl : xs.length ≤ 1000000)
    (h : ∀ v1 w1, RR w1 base v1 (xs ++ [p]) → Below base w0 w1 → W.grownBy w1 v.ownBlock → wpList Tryd.prog ops Q rest (a.put o.dst v1) w1) : wpList Tryd.prog ops Q (o :: rest) a (W.alloc (.cells #[.int .i64 p.f0, .int .i64 p.f1, .int .i64 p.f2] 47)) :=
  Kd.R_append (P := Tryd.prog) kR (w0 := w0) (W := W) base hgd s x 34 47 (.agg #[(.int .i64 0), (.int .i64 0), (.int .i64 0)]) 24 ho Tryd.underlying34 info47 rfl (by decide) (by omega) v (m0 xs) (cv p) [.int .i64 p.f0, .int .i64 p.f1, .int .i64 p.f2] (fun _ => True) (fun _ => False) hs (by rw [hn]; exact hx)
    (k47_mkM _ _ _ (cv p)) (fun _ hk => hk.elim) (fun _ _ => trivial) HO HB hbase (by rw [List.length_map]; omega) (fun v1 w1 a1 a2 a3 _ => h v1 w1 (by unfold RR m0; rw [List.map_append]; exact a1) a2 a3)

set_option maxHeartbeats 1000000 in
set_option maxRecDepth 100000 in
theorem refDraw_walk (s : Stp) (t : List UInt8) (w : World) (hm : t.length ≤ 9223372036854775807) :
    Calls Tryd.prog 19 #[.agg #[.int .i64 s.f0, .int .i64 s.f1, .int .i64 s.f2, .int .i64 s.f3, .int .i64 s.f4, .int .i64 s.f5], .string ⟨t.toArray⟩] w fun e w' => ∃ v, e = .returned (.tuple #[v, .int .i64 (drawL s t).2]) ∧ RR w' w.heap.size v (drawL s t).1 ∧ Below w.heap.size w w' := by
  by_cases hs : rightP s
  · have hde : decide (rightP s) = true := decide_eq_true hs
    have HS := Aside0.mk hs
    by_cases hl : (t.length : Int) = s.f0
    · have hlb : ((t.length : Int) != s.f0) = false := bne_eq_false_iff_eq.2 hl
      have hlb2 : ((t.length : Int) == s.f0) = true := beq_iff_eq.2 hl
      have hl200 : t.length ≤ 200 := by have := hs.2.1; omega
      have HLEN := Aside0.mk hl
      clear hs hl
      go_enter Tryd.func19, Tryd.ntmps19
      go_wp2_with (go_at_call 16; refine (refRight_any s _).mono ?_; rw [hde]; rintro e w1 ⟨rfl, hb⟩; have HB := Aside0.mk (below_step (below_alloc (Below.refl _ _) _) hb); have GB := Aside0.mk (blk_below (blk_new w (.cells #[.int .i64 s.f0, .int .i64 s.f1, .int .i64 s.f2, .int .i64 s.f3, .int .i64 s.f4, .int .i64 s.f5] 31 (0, 0))) hb); clear hb; have hgz : w.heap.size < (w1).heap.size := blk_lt (GB.out); have hg0 : (w1).cell? ⟨w.heap.size, 0, none⟩ = some (.int .i64 s.f0) := (blk_cell (GB.out) 0).trans rfl; have hg1 : (w1).cell? ⟨w.heap.size, 1, none⟩ = some (.int .i64 s.f1) := (blk_cell (GB.out) 1).trans rfl; have hg2 : (w1).cell? ⟨w.heap.size, 2, none⟩ = some (.int .i64 s.f2) := (blk_cell (GB.out) 2).trans rfl; have hg3 : (w1).cell? ⟨w.heap.size, 3, none⟩ = some (.int .i64 s.f3) := (blk_cell (GB.out) 3).trans rfl; have hg4 : (w1).cell? ⟨w.heap.size, 4, none⟩ = some (.int .i64 s.f4) := (blk_cell (GB.out) 4).trans rfl; have hg5 : (w1).cell? ⟨w.heap.size, 5, none⟩ = some (.int .i64 s.f5) := (blk_cell (GB.out) 5).trans rfl)
      clear hgz hg0 hg1 hg2 hg3 hg4 hg5
      go_loopw [6, 7] (fun v6 v7 wr => ∃ k : Nat, k ≤ t.length ∧ v7 = .int .i64 (k : Int) ∧ Aside0 (∀ c ∈ t.take k, isLet c) ∧ Aside0 (RR wr w.heap.size v6 (barsFrom s 0 (t.take k))) ∧ Aside0 (wr.heap[w.heap.size]? = some (.cells #[.int .i64 s.f0, .int .i64 s.f1, .int .i64 s.f2, .int .i64 s.f3, .int .i64 s.f4, .int .i64 s.f5] 31 (0, 0))) ∧ Aside0 (Below w.heap.size w wr)) (fun _ v7 _ => t.length - (intOf v7).toNat)
      case atStart => exact ⟨0, Nat.zero_le _, rfl, ⟨fun c hc => by simp at hc⟩, ⟨Kd.R_nil _ _ _ _ _⟩, GB, HB⟩
      case round =>
        clear GB HB
        obtain ⟨k, hk, rfl, HO, HR, GB, HB⟩ := hrel
        have hgz : w.heap.size < (wr).heap.size := blk_lt (GB.out); have hg0 : (wr).cell? ⟨w.heap.size, 0, none⟩ = some (.int .i64 s.f0) := (blk_cell (GB.out) 0).trans rfl; have hg1 : (wr).cell? ⟨w.heap.size, 1, none⟩ = some (.int .i64 s.f1) := (blk_cell (GB.out) 1).trans rfl; have hg2 : (wr).cell? ⟨w.heap.size, 2, none⟩ = some (.int .i64 s.f2) := (blk_cell (GB.out) 2).trans rfl; have hg3 : (wr).cell? ⟨w.heap.size, 3, none⟩ = some (.int .i64 s.f3) := (blk_cell (GB.out) 3).trans rfl; have hg4 : (wr).cell? ⟨w.heap.size, 4, none⟩ = some (.int .i64 s.f4) := (blk_cell (GB.out) 4).trans rfl; have hg5 : (wr).cell? ⟨w.heap.size, 5, none⟩ = some (.int .i64 s.f5) := (blk_cell (GB.out) 5).trans rfl
        by_cases hlt : k < t.length
        · obtain ⟨c, hc⟩ : ∃ c, c = t[k] := ⟨_, rfl⟩
          have hbt : ∀ h : k < (⟨t.toArray⟩ : ByteArray).size, ((((⟨t.toArray⟩ : ByteArray)[k]'h).toNat : Nat) : Int) = (c.toNat : Int) := fun h => by rw [hc]; rfl
          have HCk := Aside0.mk hc
          have hnx : barsFrom s 0 (t.take (k + 1)) = barsFrom s 0 (t.take k) ++ (if c = 63 then [] else [barOf s k c]) := by
            rw [← List.take_append_getElem hlt, barsFrom_snoc, ← hc, List.length_take, Nat.min_eq_left hk, Nat.zero_add]
          have hlen : (barsFrom s 0 (t.take k)).length ≤ 1000000 := by have h1 := barsFrom_len s (t.take k) 0; rw [List.length_take] at h1; omega
          have HNX := Aside0.mk hnx
          have HLN := Aside0.mk hlen
          have hp0 : 0 ≤ (k : Int) * s.f2 := Int.mul_nonneg (by omega) (by have := HS.out.2.2.1; omega)
          have hp1 : (k : Int) * s.f2 ≤ 200 * 1048576 := Int.le_trans (Int.mul_le_mul_of_nonneg_right (show (k : Int) ≤ 200 by omega) (by have := HS.out.2.2.1; omega)) (Int.mul_le_mul_of_nonneg_left HS.out.2.2.2.1 (by omega))
          have hwa : IntKind.i64.wrap ((k : Int) * s.f2) = (k : Int) * s.f2 := IntWalk.i64_in _ (by omega)
          have hwb : IntKind.i64.wrap (s.f1 + (k : Int) * s.f2) = s.f1 + (k : Int) * s.f2 := by
            have := HS.out
            unfold rightP at this
            exact IntWalk.i64_in _ (by omega)
          have hwa2 : wrap64 ((k : Int) * s.f2) = (k : Int) * s.f2 := wrap_id _ (by omega)
          have hwb2 : wrap64 (s.f1 + (k : Int) * s.f2) = s.f1 + (k : Int) * s.f2 := by
            have := HS.out
            unfold rightP at this
            exact wrap_id _ (by omega)
          obtain ⟨A6, c6, e6⟩ := Kd.R_slice HR.out
          rw [List.length_map] at e6
          subst e6
          clear hc hnx hp0 hp1 hlen
          by_cases hlc : isLet c
          · have HO2 : Aside0 (∀ c ∈ t.take (k + 1), isLet c) := ⟨fun d hd => by
              rw [← List.take_append_getElem hlt, List.mem_append, List.mem_singleton] at hd
              rcases hd with hd | hd
              · exact HO.out d hd
              · rw [hd, ← HCk.out]; exact hlc⟩
            clear HCk
            rcases hlc with rfl | rfl | rfl | rfl | rfl
            · have hbt : ∀ h : k < (⟨t.toArray⟩ : ByteArray).size, ((((⟨t.toArray⟩ : ByteArray)[k]'h).toNat : Nat) : Int) = 84 := hbt
              have hbo : barOf s k 84 = ⟨s.f1 + (k : Int) * s.f2, s.f4, s.f4⟩ := rfl
              have HBO := Aside0.mk hbo
              have HNE := Aside0.mk (Kd.R_ne HR.out GB.out (by decide))
              clear hbo
              go_wp2_with (first | (at_builtin; refine rbar_append (w0 := w) w.heap.size rfl (.tmp 65) (.tmp 67) rfl (.slice A6 (barsFrom s 0 (t.take k)).length c6) (barsFrom s 0 (t.take k)) ⟨s.f1 + (k : Int) * s.f2, s.f4, s.f4⟩ rfl (wr.heap.size + 1) (by simp) rfl (Kd.R_alloc HR.out _) (below_alloc HB.out _) (below_size (below_alloc HB.out _)) HLN.out ?_; intro v1 w4 ho hb hgr; have n1_ := Aside0.mk ho; have n2_ := Aside0.mk hb; have n3_ := Aside0.mk (blk_grown (blk_alloc GB.out _) hgr HNE.out); clear ho hb hgr))
              go_roundw
              case rel => exact ⟨k + 1, by omega, by go_num, HO2, ⟨by rw [HNX.out, if_neg (by decide), HBO.out]; exact n1_.out⟩, n3_, n2_⟩
              case measure => simp [intOf]; omega
            · have hbt : ∀ h : k < (⟨t.toArray⟩ : ByteArray).size, ((((⟨t.toArray⟩ : ByteArray)[k]'h).toNat : Nat) : Int) = 65 := hbt
              have hbo : barOf s k 65 = ⟨s.f1 + (k : Int) * s.f2, s.f5, s.f4⟩ := rfl
              have HBO := Aside0.mk hbo
              have HNE := Aside0.mk (Kd.R_ne HR.out GB.out (by decide))
              clear hbo
              go_wp2_with (first | (at_builtin; refine rbar_append (w0 := w) w.heap.size rfl (.tmp 65) (.tmp 67) rfl (.slice A6 (barsFrom s 0 (t.take k)).length c6) (barsFrom s 0 (t.take k)) ⟨s.f1 + (k : Int) * s.f2, s.f5, s.f4⟩ rfl (wr.heap.size + 1) (by simp) rfl (Kd.R_alloc HR.out _) (below_alloc HB.out _) (below_size (below_alloc HB.out _)) HLN.out ?_; intro v1 w4 ho hb hgr; have n1_ := Aside0.mk ho; have n2_ := Aside0.mk hb; have n3_ := Aside0.mk (blk_grown (blk_alloc GB.out _) hgr HNE.out); clear ho hb hgr))
              go_roundw
              case rel => exact ⟨k + 1, by omega, by go_num, HO2, ⟨by rw [HNX.out, if_neg (by decide), HBO.out]; exact n1_.out⟩, n3_, n2_⟩
              case measure => simp [intOf]; omega
            · have hbt : ∀ h : k < (⟨t.toArray⟩ : ByteArray).size, ((((⟨t.toArray⟩ : ByteArray)[k]'h).toNat : Nat) : Int) = 68 := hbt
              have hbo : barOf s k 68 = ⟨s.f1 + (k : Int) * s.f2, s.f4, s.f5⟩ := rfl
              have HBO := Aside0.mk hbo
              have HNE := Aside0.mk (Kd.R_ne HR.out GB.out (by decide))
              clear hbo
              go_wp2_with (first | (at_builtin; refine rbar_append (w0 := w) w.heap.size rfl (.tmp 65) (.tmp 67) rfl (.slice A6 (barsFrom s 0 (t.take k)).length c6) (barsFrom s 0 (t.take k)) ⟨s.f1 + (k : Int) * s.f2, s.f4, s.f5⟩ rfl (wr.heap.size + 1) (by simp) rfl (Kd.R_alloc HR.out _) (below_alloc HB.out _) (below_size (below_alloc HB.out _)) HLN.out ?_; intro v1 w4 ho hb hgr; have n1_ := Aside0.mk ho; have n2_ := Aside0.mk hb; have n3_ := Aside0.mk (blk_grown (blk_alloc GB.out _) hgr HNE.out); clear ho hb hgr))
              go_roundw
              case rel => exact ⟨k + 1, by omega, by go_num, HO2, ⟨by rw [HNX.out, if_neg (by decide), HBO.out]; exact n1_.out⟩, n3_, n2_⟩
              case measure => simp [intOf]; omega
            · have hbt : ∀ h : k < (⟨t.toArray⟩ : ByteArray).size, ((((⟨t.toArray⟩ : ByteArray)[k]'h).toNat : Nat) : Int) = 70 := hbt
              have hbo : barOf s k 70 = ⟨s.f1 + (k : Int) * s.f2, s.f5, s.f5⟩ := rfl
              have HBO := Aside0.mk hbo
              have HNE := Aside0.mk (Kd.R_ne HR.out GB.out (by decide))
              clear hbo
              go_upto_block 2 with fail
              go_cut [] (fun wc => Aside0 (wc.heap[wr.heap.size]? = some (.cells #[.int .i64 (s.f1 + (k : Int) * s.f2), .int .i64 s.f5, .int .i64 s.f5] 47 (0, 0))) ∧ Aside0 (Below wr.heap.size wr wc))
              case rest =>
                obtain ⟨HBK, HBc⟩ := hcut
                have hk0 : wc.cell? ⟨wr.heap.size, 0, none⟩ = some (.int .i64 (s.f1 + (k : Int) * s.f2)) := (blk_cell HBK.out 0).trans rfl
                have hk1 : wc.cell? ⟨wr.heap.size, 1, none⟩ = some (.int .i64 s.f5) := (blk_cell HBK.out 1).trans rfl
                have hk2 : wc.cell? ⟨wr.heap.size, 2, none⟩ = some (.int .i64 s.f5) := (blk_cell HBK.out 2).trans rfl
                go_wp2_with (first | (at_builtin; refine rbar_append (w0 := w) w.heap.size rfl (.tmp 65) (.tmp 67) rfl (.slice A6 (barsFrom s 0 (t.take k)).length c6) (barsFrom s 0 (t.take k)) ⟨s.f1 + (k : Int) * s.f2, s.f5, s.f5⟩ rfl (wc.heap.size) rfl rfl (Kd.R_below HR.out HBc.out) (below_step HB.out HBc.out) (below_size (below_step HB.out HBc.out)) HLN.out ?_; intro v1 w4 ho hb hgr; have n1_ := Aside0.mk ho; have n2_ := Aside0.mk hb; have n3_ := Aside0.mk (blk_grown (blk_below GB.out HBc.out) hgr HNE.out); clear ho hb hgr))
                go_roundw
                case rel => exact ⟨k + 1, by omega, by go_num, HO2, ⟨by rw [HNX.out, if_neg (by decide), HBO.out]; exact n1_.out⟩, n3_, n2_⟩
                case measure => simp [intOf]; omega
              go_upto_region 15 with fail
              go_region
              all_goals go_wp2_with fail
              go_meet
              exact ⟨⟨blk_drew (blk_new _ _)⟩, ⟨below_drew1 (below_alloc (Below.refl _ _) _)⟩⟩
            · have hbt : ∀ h : k < (⟨t.toArray⟩ : ByteArray).size, ((((⟨t.toArray⟩ : ByteArray)[k]'h).toNat : Nat) : Int) = 63 := hbt
              go_wp2_with fail
              go_roundw
              case rel => exact ⟨k + 1, by omega, by go_num, HO2, ⟨by rw [HNX.out, if_pos rfl, List.append_nil]; exact Kd.R_alloc HR.out _⟩, ⟨blk_alloc GB.out _⟩, ⟨below_alloc HB.out _⟩⟩
              case measure => simp [intOf]; omega
          · have h1 : (c.toNat : Int) ≠ 65 := fun e => hlc (.inr (.inl (UInt8.toNat_inj.1 (by rw [show (65 : UInt8).toNat = 65 from rfl]; omega))))
            have h2 : (c.toNat : Int) ≠ 68 := fun e => hlc (.inr (.inr (.inl (UInt8.toNat_inj.1 (by rw [show (68 : UInt8).toNat = 68 from rfl]; omega)))))
            have h3 : (c.toNat : Int) ≠ 70 := fun e => hlc (.inr (.inr (.inr (.inl (UInt8.toNat_inj.1 (by rw [show (70 : UInt8).toNat = 70 from rfl]; omega))))))
            have h4 : (c.toNat : Int) ≠ 84 := fun e => hlc (.inl (UInt8.toNat_inj.1 (by rw [show (84 : UInt8).toNat = 84 from rfl]; omega)))
            have h5 : (c.toNat : Int) ≠ 63 := fun e => hlc (.inr (.inr (.inr (.inr (UInt8.toNat_inj.1 (by rw [show (63 : UInt8).toNat = 63 from rfl]; omega))))))
            have q1 : ((c.toNat : Int) == 65) = false := beq_false_of_ne h1
            have q2 : ((c.toNat : Int) == 68) = false := beq_false_of_ne h2
            have q3 : ((c.toNat : Int) == 70) = false := beq_false_of_ne h3
            have q4 : ((c.toNat : Int) == 84) = false := beq_false_of_ne h4
            have q5 : ((c.toNat : Int) == 63) = false := beq_false_of_ne h5
            have hno : ¬ drawOk s t := fun h => hlc (by rw [HCk.out]; exact h.2.2 _ (List.getElem_mem hlt))
            have HNO := Aside0.mk hno
            clear hlc hno h1 h2 h3 h4 h5
            go_wp2_with fail
            go_ret2
            have e1 : drawL s t = ([], 2) := if_neg HNO.out
            rw [e1]
            exact ⟨_, rfl, Kd.R_nil _ _ _ _ _, below_alloc HB.out _⟩
        · have hke : k = t.length := by omega
          subst hke
          go_wp2_with fail
          go_ret2
          have hall := HO.out
          have hrr := HR.out
          rw [List.take_of_length_le (Nat.le_refl _)] at hall hrr
          have e1 : drawL s t = (barsFrom s 0 t, 0) := if_pos ⟨HS.out, HLEN.out, hall⟩
          rw [e1]
          exact ⟨_, rfl, hrr, HB.out⟩
    · have hlb : ((t.length : Int) != s.f0) = true := bne_iff_ne.2 hl
      have hlb2 : ((t.length : Int) == s.f0) = false := beq_false_of_ne hl
      have e1 : drawL s t = ([], 2) := if_neg (fun h => hl h.2.1)
      rw [e1]
      clear hl hs e1
      go_enter Tryd.func19, Tryd.ntmps19
      go_wp2_with (go_at_call 16; refine (refRight_any s _).mono ?_; rw [hde]; rintro e w1 ⟨rfl, hb⟩; have HB := Aside0.mk (below_step (below_alloc (Below.refl _ _) _) hb); have GB := Aside0.mk (blk_below (blk_new w (.cells #[.int .i64 s.f0, .int .i64 s.f1, .int .i64 s.f2, .int .i64 s.f3, .int .i64 s.f4, .int .i64 s.f5] 31 (0, 0))) hb); clear hb; have hgz : w.heap.size < (w1).heap.size := blk_lt (GB.out); have hg0 : (w1).cell? ⟨w.heap.size, 0, none⟩ = some (.int .i64 s.f0) := (blk_cell (GB.out) 0).trans rfl; have hg1 : (w1).cell? ⟨w.heap.size, 1, none⟩ = some (.int .i64 s.f1) := (blk_cell (GB.out) 1).trans rfl; have hg2 : (w1).cell? ⟨w.heap.size, 2, none⟩ = some (.int .i64 s.f2) := (blk_cell (GB.out) 2).trans rfl; have hg3 : (w1).cell? ⟨w.heap.size, 3, none⟩ = some (.int .i64 s.f3) := (blk_cell (GB.out) 3).trans rfl; have hg4 : (w1).cell? ⟨w.heap.size, 4, none⟩ = some (.int .i64 s.f4) := (blk_cell (GB.out) 4).trans rfl; have hg5 : (w1).cell? ⟨w.heap.size, 5, none⟩ = some (.int .i64 s.f5) := (blk_cell (GB.out) 5).trans rfl)
      go_ret2
      exact ⟨_, rfl, Kd.R_nil _ _ _ _ _, HB.out⟩
  · have hde : decide (rightP s) = false := decide_eq_false hs
    have e1 : drawL s t = ([], 2) := if_neg (fun h => hs h.1)
    rw [e1]
    clear hs e1
    go_enter Tryd.func19, Tryd.ntmps19
    go_wp2_with (go_at_call 16; refine (refRight_any s _).mono ?_; rw [hde]; rintro e w1 ⟨rfl, hb⟩; have HB := Aside0.mk (below_step (below_alloc (Below.refl _ _) _) hb); clear hb)
    go_ret2
    exact ⟨_, rfl, Kd.R_nil _ _ _ _ _, HB.out⟩
end Go.Proofs.YtadojakbfpdjjaaDoor.Px
