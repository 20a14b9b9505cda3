/-
  nat.take and nat.give on a part of a row: what long division does to the limbs of the dividend.
-/
import Derived.Test.YtgpninmfbooijaaDoorNPure
import Derived.Test.YtgpninmfbooijaaDoorNCarry
import Derived.Test.YtgpninmfbooijaaDoorNWords
import Derived.IntWalk
import Derived.Test.YtgpninmfbooijaaDoorPx3
import Derived.Test.YtgpninmfbooijaaDoorPx4
import Derived.Laws.BitsLemmas
namespace Go.Proofs.YtgpninmfbooijaaDoor.Px
open Go.RowKit Go.Proofs.YtgpninmfbooijaaDoorW.PrintWords Go.Proofs.YtgpninmfbooijaaDoorW.PrintLast Go.Proofs.YtgpninmfbooijaaDoorW.PrintMore Go.Proofs.YtgpninmfbooijaaDoor.Num

/-- What holds of the loop's state in take. -/
structure TakeInv (u v L : List Int) (t : Int) (k : Nat) (c o : Int) : Prop where
  len : L.length = u.length
  lim : Lim L
  c0 : 0 ≤ c
  c1 : c < BB
  o0 : 0 ≤ o
  o1 : o ≤ 1
  eq : val (L.take k) = val (u.take k) - t * val (v.take k) + BB ^ k * (c + o)
  rest : ∀ i, k ≤ i → L.getD i 0 = u.getD i 0

theorem TakeInv.start (u v : List Int) (t : Int) (hu : Lim u) : TakeInv u v u t 0 0 0 :=
  ⟨rfl, hu, Int.le_refl _, BB_pos, Int.le_refl _, by omega, by simp [val], fun _ _ => rfl⟩

theorem getD_set_other (L : List Int) (k i : Nat) (x : Int) (h : k ≠ i) : (L.set k x).getD i 0 = L.getD i 0 := by
  simp [List.getD_eq_getElem?_getD, h]

theorem ite01 (p : Prop) [Decidable p] : 0 ≤ (if p then (1 : Int) else 0) ∧ (if p then (1 : Int) else 0) ≤ 1 := by split <;> omega

theorem TakeInv.step {u v L : List Int} {t c o : Int} {k : Nat} (h : TakeInv u v L t k c o) (hu : Lim u) (hv : Lim v) (ht : 0 ≤ t ∧ t < BB) (hk : k < u.length) :
    TakeInv u v (L.set k (((u.getD k 0 - (c + t * v.getD k 0) % 4294967296 - o) % 18446744073709551616) % 4294967296)) t (k + 1) ((c + t * v.getD k 0) / 4294967296)
      (((u.getD k 0 - (c + t * v.getD k 0) % 4294967296 - o) % 18446744073709551616) / 9223372036854775808) := by
  have hw := take_word ⟨h.c0, h.c1⟩ ht (hv.getD k)
  have hm := emod_BB (c + t * v.getD k 0)
  have hl := take_limb (hu.getD k) hm ⟨h.o0, h.o1⟩
  have he := emod_BB (u.getD k 0 - (c + t * v.getD k 0) % BB - o)
  have hs := take_step (u := u) (v := v) (L := L) (k := k) (by rw [h.len]; exact hk) h.eq rfl hl.2.2
  simp only [BB_eq] at *
  rw [hl.1, hl.2.1]
  refine ⟨by simp [h.len], h.lim.set _ (by simp only [BB_eq]; exact he), hw.2.2.2.2.1, by simp only [BB_eq]; exact hw.2.2.2.2.2, (ite01 _).1, (ite01 _).2, by simp only [BB_eq]; exact hs, fun i hi => ?_⟩
  rw [getD_set_other _ _ _ _ (by omega)]
  exact h.rest i (by omega)

theorem TakeInv.done {u v L : List Int} {t c o : Int} {n : Nat} (h : TakeInv u v L t (n + 1) c o) (hc : c = 0) (hv : v.length = n) :
    val (L.take (n + 1)) = val (u.take (n + 1)) - t * val v + BB ^ (n + 1) * o := by
  have e := h.eq
  rw [hc, Int.zero_add, List.take_of_length_le (show v.length ≤ n + 1 by omega)] at e
  exact e

theorem u64wrap (x : Int) : IntKind.u64.wrap x = x % 18446744073709551616 := by
  simp [IntKind.wrap, IntKind.signed, IntKind.bits]

theorem wrap2 (p o : Int) : IntKind.u64.wrap (IntKind.u64.wrap p - o) = (p - o) % 18446744073709551616 := by
  rw [u64wrap, u64wrap]; omega

/-- A part of a row, and the row. -/
theorem set_part (L : List Int) (j k : Nat) (x : Int) : (L.set (j + k) x).drop j = (L.drop j).set k x := by
  apply List.ext_getElem?
  intro i
  simp only [List.getElem?_drop, List.getElem?_set, List.length_drop]
  by_cases h : k = i
  · subst h
    simp
    by_cases h2 : j + k < L.length
    · rw [if_pos h2, if_pos (by omega)]
    · rw [if_neg h2, if_neg (by omega)]
  · rw [if_neg (by omega), if_neg h]
theorem set_before (L : List Int) (j k : Nat) (x : Int) : (L.set (j + k) x).take j = L.take j := List.take_set_of_le (by omega)
theorem getD_part (L : List Int) (j k : Nat) : (L.drop j).getD k 0 = L.getD (j + k) 0 := by simp [List.getD_eq_getElem?_getD]

set_option maxHeartbeats 4000000 in
set_option maxRecDepth 100000 in
theorem take_part (g j n cu cc : Nat) (Av : Option Addr) (cv : Nat) (U v : List Int) (t : Int) (w : World) (base : Nat)
    (hR : (Kd.int .u32).R 25 w base (fun k => k = g) (.slice (some ⟨g, 0, none⟩) U.length cu) U)
    (hV : Kd.V (Kd.int .u32) 25 w base (fun k => k ≠ g) (.slice Av v.length cv) v)
    (hU : Lim U) (hv : Lim v) (ht : 0 ≤ t ∧ t < BB) (hj : j + (n + 1) ≤ U.length) (hn : v.length = n) :
    Calls Tryd.prog 46 #[.slice (some ⟨g, j, none⟩) (n + 1) cc, .slice Av v.length cv, .int .u64 t] w fun e w' => ∃ (L : List Int) (o : Int),
      e = .returned (.bool (decide (0 < o))) ∧ (o = 0 ∨ o = 1) ∧ L.length = U.length ∧ Lim L ∧ L.take j = U.take j ∧ (∀ i, j + (n + 1) ≤ i → L.getD i 0 = U.getD i 0) ∧
      val ((L.drop j).take (n + 1)) = val ((U.drop j).take (n + 1)) - t * val v + BB ^ (n + 1) * o ∧
      (Kd.int .u32).R 25 w' base (fun k => k = g) (.slice (some ⟨g, 0, none⟩) L.length cu) L ∧ w.grownBy w' (some g) := by
  have HR := Aside0.mk hR
  have HV := Aside0.mk hV
  have HU := Aside0.mk hU
  have HVL := Aside0.mk hv
  have HT := Aside0.mk ht
  have HN := Aside0.mk hn
  have HUN := (lenC (Kd.R_reads' hR).2.2).2
  have hnv : v.length ≤ n := by omega
  have hnv2 : n ≤ v.length := by omega
  clear hR hV hU hv ht hn
  go_enter Tryd.func46, Tryd.ntmps46
  go_wp2_with fail
  go_loopw [7, 8, 13] (fun c7 o8 i wr => ∃ (k : Nat) (c o : Int) (L : List Int), i = .int .i64 (k : Int) ∧ c7 = .int .u64 c ∧ o8 = .int .u64 o ∧ k ≤ n + 1 ∧ (k = n + 1 → c = 0) ∧ TakeInv (U.drop j) v (L.drop j) t k c o ∧ L.length = U.length ∧ Lim L ∧ L.take j = U.take j ∧ (∀ i, j + (n + 1) ≤ i → L.getD i 0 = U.getD i 0) ∧ (Kd.int .u32).R 25 wr base (fun k => k = g) (.slice (some ⟨g, 0, none⟩) U.length cu) L ∧ w.grownBy wr (some g)) (fun _ _ i _ => n + 1 - (intOf i).toNat)
  case atStart => exact ⟨0, 0, 0, U, rfl, rfl, rfl, by omega, fun h => by omega, TakeInv.start _ _ _ (HU.out.drop j), rfl, HU.out, rfl, fun _ _ => rfl, HR.out, World.grownBy.refl _ _⟩
  case round =>
    obtain ⟨k, c, o, L, rfl, rfl, rfl, hk, hkc, hinv, hlen, hlim, hbef, hbeh, hown, hgr⟩ := hrel
    have HI := Aside0.mk hinv
    have HOW := Aside0.mk hown
    have HGR := Aside0.mk hgr
    have HLIM := Aside0.mk hlim
    have HLEN := Aside0.mk hlen
    have HBEF := Aside0.mk hbef
    have HBEH := Aside0.mk hbeh
    have HKC := Aside0.mk hkc
    clear hinv hown hgr hlim hlen hbef hbeh hkc
    by_cases hlt : k < n + 1
    · have hau := (HU.out.drop j).getD k
      have hbv := HVL.out.getD k
      have hc0 := HI.out.c0
      have hc1 := HI.out.c1
      have ho0 := HI.out.o0
      have ho1 := HI.out.o1
      have ht0 := HT.out.1
      have ht1 := HT.out.2
      have hword := take_word ⟨hc0, hc1⟩ HT.out hbv
      have hstep := HI.out.step (HU.out.drop j) HVL.out HT.out (by rw [List.length_drop]; omega)
      have hrest := HI.out.rest k (Nat.le_refl _)
      have hcell := (cellR HOW.out (j + k) (by omega)).1
      have hfr := (cellR HOW.out (j + k) (by omega)).2
      rw [← getD_part, hrest] at hcell
      clear hrest
      rw [← set_part] at hstep
      generalize (U.drop j).getD k 0 = a at *
      by_cases hv : k < v.length
      · have hVC := (Kd.V_reads' (Kd.V_step HV.out (fun b hb hlt => HGR.out.block b hlt (fun e_ => hb (by injection e_))))).2.2
        obtain ⟨ady, eyy, hcy⟩ := cellC hVC k hv
        subst eyy
        clear hVC
        generalize v.getD k 0 = b at *
        simp only [BB_eq] at hau hbv hc1 ht1 hword
        rw [← wrap2] at hstep
        have hstep := Aside0.mk hstep
        obtain ⟨hw1, hw2, hw3, hw4, hw5, hw6⟩ := hword
        go_wp2_with fail
        go_roundw
        case rel =>
          refine ⟨k + 1, _, _, _, by go_num, rfl, rfl, by omega, fun h => by omega, hstep.out, by rw [List.length_set]; exact HLEN.out, HLIM.out.set _ (by rw [BB_eq]; exact ⟨Int.emod_nonneg _ (by omega), Int.emod_lt_of_pos _ (by omega)⟩), by rw [set_before]; exact HBEF.out, fun i hi => by rw [getD_set_other _ _ _ _ (by omega)]; exact HBEH.out i hi, (putR HOW.out (j + k) _).1, HGR.out.trans (putR HOW.out (j + k) _).2⟩
        case measure => simp [intOf]; omega
      · have hb0 : v.getD k 0 = 0 := by rw [List.getD_eq_getElem?_getD, List.getElem?_eq_none (by omega)]; rfl
        rw [hb0, Int.mul_zero, Int.add_zero, ← wrap2, show c % 4294967296 = c from Int.emod_eq_of_lt hc0 (by rw [BB_eq] at hc1; exact hc1)] at hstep
        have hstep := Aside0.mk hstep
        clear hb0 hbv hword
        simp only [BB_eq] at hau hc1 ht1
        go_wp2_with fail
        go_roundw
        case rel =>
          refine ⟨k + 1, _, _, _, by go_num, rfl, rfl, by omega, fun h => by omega, hstep.out, by rw [List.length_set]; exact HLEN.out, HLIM.out.set _ (by rw [BB_eq]; exact ⟨Int.emod_nonneg _ (by omega), Int.emod_lt_of_pos _ (by omega)⟩), by rw [set_before]; exact HBEF.out, fun i hi => by rw [getD_set_other _ _ _ _ (by omega)]; exact HBEH.out i hi, (putR HOW.out (j + k) _).1, HGR.out.trans (putR HOW.out (j + k) _).2⟩
        case measure => simp [intOf]; omega
    · have hkn : k = n + 1 := by omega
      subst hkn
      have hc := HKC.out rfl
      have hdone := HI.out.done hc HN.out
      have ho : o = 0 ∨ o = 1 := by have := HI.out.o0; have := HI.out.o1; omega
      have HD := Aside0.mk hdone
      have HO := Aside0.mk ho
      clear hc hdone ho
      have hhx : ¬ (n + 1 < n + 1) := by omega
      go_wp2_with fail
      go_ret
      refine ⟨L, o, rfl, HO.out, HLEN.out, HLIM.out, HBEF.out, HBEH.out, HD.out, ?_, HGR.out⟩
      rw [HLEN.out]; exact HOW.out

theorem grown_new {w wr : World} {row : Option Nat} (h : w.grownBy wr row) {p : Addr} (hp : w.heap.size ≤ p.block) (u : Value) : w.grownBy (wr.setCell p u) row :=
  ⟨h.os, h.tape, h.output, by have := h.size; simpa [World.setCell] using this, fun i hi hne => (Below.heap_setCell wr p u i (by omega)).trans (h.block i hi hne)⟩

/-- What holds of the loop's state in give. -/
structure GiveInv (u v L : List Int) (k : Nat) (c : Int) : Prop where
  len : L.length = u.length
  lim : Lim L
  c0 : 0 ≤ c
  c1 : c ≤ 1
  eq : val (L.take k) + BB ^ k * c = val (u.take k) + val (v.take k)
  rest : ∀ i, k ≤ i → L.getD i 0 = u.getD i 0

theorem GiveInv.start (u v : List Int) (hu : Lim u) : GiveInv u v u 0 0 :=
  ⟨rfl, hu, Int.le_refl _, by omega, by simp [val], fun _ _ => rfl⟩

theorem GiveInv.step {u v L : List Int} {c : Int} {k : Nat} (h : GiveInv u v L k c) (hu : Lim u) (hv : Lim v) (hk : k < u.length) :
    GiveInv u v (L.set k ((c + (u.getD k 0 + v.getD k 0)) % 4294967296)) (k + 1) ((c + (u.getD k 0 + v.getD k 0)) / 4294967296) := by
  have hc := add_carry hu hv k h.c0 h.c1
  have he := emod_BB (c + (u.getD k 0 + v.getD k 0))
  have hs := add_step (k := k) (by rw [h.len]; exact hk) h.eq
  simp only [BB_eq] at hc he hs
  refine ⟨by simp [h.len], h.lim.set _ (by rw [BB_eq]; exact he), hc.1, hc.2, by simp only [BB_eq]; exact hs, fun i hi => ?_⟩
  rw [getD_set_other _ _ _ _ (by omega)]
  exact h.rest i (by omega)

set_option maxHeartbeats 4000000 in
set_option maxRecDepth 100000 in
theorem give_part (g j n cu cc : Nat) (Av : Option Addr) (cv : Nat) (U v : List Int) (w : World) (base : Nat)
    (hR : (Kd.int .u32).R 25 w base (fun k => k = g) (.slice (some ⟨g, 0, none⟩) U.length cu) U)
    (hV : Kd.V (Kd.int .u32) 25 w base (fun k => k ≠ g) (.slice Av v.length cv) v)
    (hU : Lim U) (hv : Lim v) (hj : j + (n + 1) ≤ U.length) (hn : v.length = n) :
    Calls Tryd.prog 47 #[.slice (some ⟨g, j, none⟩) (n + 1) cc, .slice Av v.length cv] w fun e w' => ∃ (L : List Int) (c : Int),
      e = .returned (.tuple #[]) ∧ (c = 0 ∨ c = 1) ∧ L.length = U.length ∧ Lim L ∧ L.take j = U.take j ∧ (∀ i, j + (n + 1) ≤ i → L.getD i 0 = U.getD i 0) ∧
      val ((L.drop j).take (n + 1)) + BB ^ (n + 1) * c = val ((U.drop j).take (n + 1)) + val v ∧
      (Kd.int .u32).R 25 w' base (fun k => k = g) (.slice (some ⟨g, 0, none⟩) L.length cu) L ∧ w.grownBy w' (some g) := by
  have HR := Aside0.mk hR
  have HV := Aside0.mk hV
  have HU := Aside0.mk hU
  have HVL := Aside0.mk hv
  have HN := Aside0.mk hn
  have HUN := (lenC (Kd.R_reads' hR).2.2).2
  have hnv : v.length ≤ n := by omega
  have hnv2 : n ≤ v.length := by omega
  have hg : g < w.heap.size := by
    obtain ⟨g', cap', e, _, hl, _⟩ := Kd.R_form hR (by omega)
    injection e with e
    injection e with e
    injection e with e
    omega
  have HG := Aside0.mk hg
  clear hR hV hU hv hn hg
  go_enter Tryd.func47, Tryd.ntmps47
  go_wp2_with (go_at_call 30; refine (carries_calls _).mono ?_; rintro e w' ⟨rfl, rfl⟩)
  go_loopw [10] (fun i wr => ∃ (k : Nat) (c : Int) (L : List Int), i = .int .i64 (k : Int) ∧ k ≤ n + 1 ∧ GiveInv (U.drop j) v (L.drop j) k c ∧ L.length = U.length ∧ Lim L ∧ L.take j = U.take j ∧ (∀ i, j + (n + 1) ≤ i → L.getD i 0 = U.getD i 0) ∧ wr.heap[w.heap.size]? = some (.cells #[.int .u64 c] 28 (0, 0)) ∧ (Kd.int .u32).R 25 wr base (fun k => k = g) (.slice (some ⟨g, 0, none⟩) U.length cu) L ∧ w.grownBy wr (some g)) (fun i _ => n + 1 - (intOf i).toNat)
  case atStart => exact ⟨0, 0, U, rfl, by omega, GiveInv.start _ _ (HU.out.drop j), rfl, HU.out, rfl, fun _ _ => rfl, blk_new _ _, Kd.R_alloc HR.out _, World.grownBy_alloc _ _ _⟩
  case round =>
    obtain ⟨k, c, L, rfl, hk, hinv, hlen, hlim, hbef, hbeh, hbox, hown, hgr⟩ := hrel
    have HI := Aside0.mk hinv
    have HOW := Aside0.mk hown
    have HGR := Aside0.mk hgr
    have HLIM := Aside0.mk hlim
    have HLEN := Aside0.mk hlen
    have HBEF := Aside0.mk hbef
    have HBEH := Aside0.mk hbeh
    have HBX := Aside0.mk hbox
    clear hinv hown hgr hlim hlen hbef hbeh hbox
    by_cases hlt : k < n + 1
    · have hau := (HU.out.drop j).getD k
      have hbv := HVL.out.getD k
      have hc0 := HI.out.c0
      have hc1 := HI.out.c1
      have hstep := HI.out.step (HU.out.drop j) HVL.out (by rw [List.length_drop]; omega)
      have hrest := HI.out.rest k (Nat.le_refl _)
      have hcell := (cellR HOW.out (j + k) (by omega)).1
      have hfr := (cellR HOW.out (j + k) (by omega)).2
      rw [← getD_part, hrest] at hcell
      clear hrest
      rw [← set_part] at hstep
      generalize (U.drop j).getD k 0 = a at *
      have hbc : wr.cell? ⟨w.heap.size, 0, none⟩ = some (.int .u64 c) := by rw [blk_cell HBX.out]; rfl
      have hbf : wr.frozen? ⟨w.heap.size, 0, none⟩ = false := blk_frozen HBX.out 0
      by_cases hv : k < v.length
      · have hVC := (Kd.V_reads' (Kd.V_step HV.out (fun b hb hlt => HGR.out.block b hlt (fun e_ => hb (by injection e_))))).2.2
        obtain ⟨ady, eyy, hcy⟩ := cellC hVC k hv
        subst eyy
        clear hVC
        generalize v.getD k 0 = b at *
        simp only [BB_eq] at hau hbv
        have hstep := Aside0.mk hstep
        go_wp2_with (go_at_call 44; refine (carry_calls w.heap.size c _ _ (by omega) (by omega) (by omega) hbc hbf).mono ?_; rintro e w1 ⟨rfl, hw⟩; have hown1 := Kd.R_far HOW.out (p := ⟨w.heap.size, 0, none⟩) (fun k hk => by have := HG.out; simp; omega) (.int .u64 ((c + (a + b)) / 4294967296)); rw [← hw] at hown1; have hgc := (cellR hown1 (j + k) (by omega)).1; have hgf := (cellR hown1 (j + k) (by omega)).2; have HW1 := Aside0.mk hown1; have HWE := Aside0.mk hw; clear hw hown1)
        go_roundw
        case rel =>
          refine ⟨k + 1, _, _, by go_num, by omega, hstep.out, by rw [List.length_set]; exact HLEN.out, HLIM.out.set _ (by rw [BB_eq]; exact ⟨Int.emod_nonneg _ (by omega), Int.emod_lt_of_pos _ (by omega)⟩), by rw [set_before]; exact HBEF.out, fun i hi => by rw [getD_set_other _ _ _ _ (by omega)]; exact HBEH.out i hi, ?_, (putR HW1.out (j + k) _).1, ?_⟩
          · rw [HWE.out]; exact (blk_far (blk_set HBX.out 0 _) (by have := HG.out; simp; omega) _).trans (by simp)
          · exact (show w.grownBy w1 (some g) from by rw [HWE.out]; exact grown_new HGR.out (p := ⟨w.heap.size, 0, none⟩) (Nat.le_refl _) _).trans (putR HW1.out (j + k) _).2
        case measure => simp [intOf]; omega
      · have hb0 : v.getD k 0 = 0 := by rw [List.getD_eq_getElem?_getD, List.getElem?_eq_none (by omega)]; rfl
        rw [hb0, Int.add_zero] at hstep
        have hstep := Aside0.mk hstep
        clear hb0 hbv
        simp only [BB_eq] at hau
        go_wp2_with (go_at_call 44; refine (carry_calls w.heap.size c _ _ (by omega) (by omega) (by omega) hbc hbf).mono ?_; rintro e w1 ⟨rfl, hw⟩; have hown1 := Kd.R_far HOW.out (p := ⟨w.heap.size, 0, none⟩) (fun k hk => by have := HG.out; simp; omega) (.int .u64 ((c + a) / 4294967296)); rw [← hw] at hown1; have hgc := (cellR hown1 (j + k) (by omega)).1; have hgf := (cellR hown1 (j + k) (by omega)).2; have HW1 := Aside0.mk hown1; have HWE := Aside0.mk hw; clear hw hown1)
        go_roundw
        case rel =>
          refine ⟨k + 1, _, _, by go_num, by omega, hstep.out, by rw [List.length_set]; exact HLEN.out, HLIM.out.set _ (by rw [BB_eq]; exact ⟨Int.emod_nonneg _ (by omega), Int.emod_lt_of_pos _ (by omega)⟩), by rw [set_before]; exact HBEF.out, fun i hi => by rw [getD_set_other _ _ _ _ (by omega)]; exact HBEH.out i hi, ?_, (putR HW1.out (j + k) _).1, ?_⟩
          · rw [HWE.out]; exact (blk_far (blk_set HBX.out 0 _) (by have := HG.out; simp; omega) _).trans (by simp)
          · exact (show w.grownBy w1 (some g) from by rw [HWE.out]; exact grown_new HGR.out (p := ⟨w.heap.size, 0, none⟩) (Nat.le_refl _) _).trans (putR HW1.out (j + k) _).2
        case measure => simp [intOf]; omega
    · have hkn : k = n + 1 := by omega
      subst hkn
      have hdone := HI.out.eq
      rw [List.take_of_length_le (show v.length ≤ n + 1 by omega)] at hdone
      have ho : c = 0 ∨ c = 1 := by have := HI.out.c0; have := HI.out.c1; omega
      have HD := Aside0.mk hdone
      have HO := Aside0.mk ho
      clear hdone ho
      have hhx : ¬ (n + 1 < n + 1) := by omega
      go_wp2_with fail
      go_end0
      refine ⟨L, c, rfl, HO.out, HLEN.out, HLIM.out, HBEF.out, HBEH.out, HD.out, ?_, HGR.out⟩
      rw [HLEN.out]; exact HOW.out
end Go.Proofs.YtgpninmfbooijaaDoor.Px

/-
  What the printed functions left and right of nat come to: a multiple by a power of two, and a quotient.
-/
namespace Go.Proofs.YtgpninmfbooijaaDoor.Px
open Go.RowKit Go.Proofs.YtgpninmfbooijaaDoorW.PrintWords Go.Proofs.YtgpninmfbooijaaDoorW.PrintLast Go.Proofs.YtgpninmfbooijaaDoorW.PrintMore Go.Proofs.YtgpninmfbooijaaDoor.Num

theorem wraps_u64' (n : Int) (h₀ : 0 ≤ n) (h₁ : n < 2 ^ 64) : IntKind.u64.wrap n = n := by rw [IntKind.wrap_u64]; omega
theorem wraps_u32' (n : Int) (h₀ : 0 ≤ n) (h₁ : n < 2 ^ 32) : IntKind.u32.wrap n = n := by rw [IntKind.wrap_u32]; omega
theorem or64 (h l : Int) (h0 : 0 ≤ h) (h1 : h < 4294967296) (l0 : 0 ≤ l) (l1 : l < 4294967296) : bits .or .u64 (h * 4294967296) l = h * 4294967296 + l :=
  bits_join .u64 64 (by decide) wraps_u64' 32 _ _ (by omega) (by omega) (by omega) l0 (by omega) (by omega)
theorem or64' (h l : Int) (h0 : 0 ≤ h) (h1 : h < 4294967296) (l0 : 0 ≤ l) (l1 : l < 4294967296) : bits .or .u64 l (h * 4294967296) = h * 4294967296 + l := by
  obtain ⟨a, rfl⟩ := Int.eq_ofNat_of_zero_le h0
  obtain ⟨b, rfl⟩ := Int.eq_ofNat_of_zero_le l0
  have e : ((a : Int) * 4294967296) = ((a * 4294967296 : Nat) : Int) := by omega
  have h2 := bits_nat .u64 64 (by decide) wraps_u64' b (a * 4294967296) (by omega) (by omega)
  have h3 := bits_nat .u64 64 (by decide) wraps_u64' (a * 4294967296) b (by omega) (by omega)
  have h4 := or64 a b h0 h1 l0 l1
  rw [e] at h4 ⊢
  rw [h2.2, Nat.or_comm, ← h3.2, h4]
theorem or32' (n : Nat) (x y : Int) (hx₀ : 0 ≤ x) (hx : x % 2 ^ n = 0) (hx₁ : x < 4294967296) (hy₀ : 0 ≤ y) (hy : y < 2 ^ n) (hy1 : y < 4294967296) : bits .or .u32 y x = y + x := by
  have h4 := bits_join .u32 32 (by decide) wraps_u32' n x y hx₀ hx (by omega) hy₀ hy (by omega)
  obtain ⟨a, rfl⟩ := Int.eq_ofNat_of_zero_le hx₀
  obtain ⟨b, rfl⟩ := Int.eq_ofNat_of_zero_le hy₀
  have h2 := bits_nat .u32 32 (by decide) wraps_u32' b a (by omega) (by omega)
  have h3 := bits_nat .u32 32 (by decide) wraps_u32' a b (by omega) (by omega)
  rw [h2.2, Nat.or_comm, ← h3.2, h4]; omega

theorem two_pow_le (n : Nat) (hn : n < 32) : 1 ≤ (2 : Int) ^ n ∧ (2 : Int) ^ n ≤ 2147483648 ∧ (2 : Int) ^ n * 2 ^ (32 - n) = 4294967296 ∧ 1 ≤ (2 : Int) ^ (32 - n) := by
  have h1 : ∀ m : Nat, 0 < (2 : Int) ^ m := fun m => Int.pow_pos (by omega)
  have e1 : (2 : Int) ^ n * 2 ^ (32 - n) = 4294967296 := by rw [← Int.pow_add, show n + (32 - n) = 32 by omega]; rfl
  have e2 : (2 : Int) ^ n * 2 ^ (31 - n) = 2147483648 := by rw [← Int.pow_add, show n + (31 - n) = 31 by omega]; rfl
  have a1 := h1 n
  have a2 := h1 (31 - n)
  have a3 := h1 (32 - n)
  refine ⟨by omega, ?_, e1, by omega⟩
  have : (2 : Int) ^ n * 1 ≤ 2 ^ n * 2 ^ (31 - n) := Int.mul_le_mul_of_nonneg_left (by omega) (by omega)
  omega

theorem shl64 (x : Int) (n : Nat) (hn : n < 32) (h0 : 0 ≤ x) (h1 : x < 4294967296) : shl .u64 x (n : Int) = x * 2 ^ n := by
  unfold shl
  have hp := two_pow_le n hn
  rw [Int.toNat_natCast, show min n IntKind.u64.bits = n from Nat.min_eq_left (by simp [IntKind.bits]; omega)]
  have : x * 2 ^ n ≤ x * 2147483648 := Int.mul_le_mul_of_nonneg_left hp.2.1 h0
  have h2 : 0 ≤ x * 2 ^ n := Int.mul_nonneg h0 (by omega)
  exact wraps_u64' _ h2 (by omega)

theorem getD_set_same (L : List Int) (k : Nat) (x : Int) (h : k < L.length) : (L.set k x).getD k 0 = x := by
  simp [List.getD_eq_getElem?_getD, h]
theorem getD_set_ne (L : List Int) (k i : Nat) (x : Int) (h : k ≠ i) : (L.set k x).getD i 0 = L.getD i 0 := by
  simp [List.getD_eq_getElem?_getD, h]

theorem left_word {p w c : Int} {n : Nat} (hpn : p = 2 ^ n) (hn : n < 32) (a : Int) (ha : 0 ≤ a ∧ a < 4294967296) (hc : 0 ≤ c ∧ c < p) (hw : w = p * a) :
    shl .u64 a (n : Int) = w ∧ 0 ≤ w ∧ w / 4294967296 < p ∧ 0 ≤ w / 4294967296 ∧ (w / 4294967296) % 4294967296 = w / 4294967296 ∧ bits .or .u32 c (w % 4294967296) = c + w % 4294967296 ∧ 0 ≤ c + w % 4294967296 ∧ c + w % 4294967296 < 4294967296 ∧ w / 4294967296 < 4294967296 := by
  have hp := two_pow_le n hn
  have hsh := shl64 a n hn ha.1 ha.2
  rw [← hpn] at hp hsh
  have hw0 : 0 ≤ w := by rw [hw]; exact Int.mul_nonneg (by omega) ha.1
  have hmul : p * a < p * 4294967296 := Int.mul_lt_mul_of_pos_left ha.2 (by omega)
  have hdiv : w / 4294967296 < p := Int.ediv_lt_of_lt_mul (by omega) (by rw [hw]; exact hmul)
  have hmod : (w % 4294967296) % p = 0 := by
    rw [hw, ← hp.2.2.1, Int.mul_emod_mul_of_pos _ _ (by omega), Int.mul_emod_right]
  generalize (2 : Int) ^ (32 - n) = p' at hp
  have hm0 := Int.emod_nonneg w (show (4294967296 : Int) ≠ 0 by decide)
  have hm1 := Int.emod_lt_of_pos w (show (0 : Int) < 4294967296 by decide)
  have hlow : c + w % 4294967296 < 4294967296 := by
    have e1 := Int.mul_ediv_add_emod (w % 4294967296) p
    rw [hmod] at e1
    generalize (w % 4294967296) / p = q at e1
    have e2 : p * q < p * p' := by rw [hp.2.2.1]; omega
    have e3 : q < p' := Int.lt_of_mul_lt_mul_left e2 (by omega)
    have e4 : p * (q + 1) ≤ p * p' := Int.mul_le_mul_of_nonneg_left (by omega) (by omega)
    rw [hp.2.2.1, Int.mul_add, Int.mul_one] at e4
    omega
  have hor := or32' n (w % 4294967296) c hm0 (by rw [← hpn]; exact hmod) hm1 hc.1 (by rw [← hpn]; exact hc.2) (by omega)
  exact ⟨by rw [hsh, hw, Int.mul_comm], hw0, hdiv, Int.ediv_nonneg hw0 (by decide), Int.emod_eq_of_lt (Int.ediv_nonneg hw0 (by decide)) (by omega), hor, by omega, hlow, by omega⟩

theorem left_l0 (a : List Int) (n : Nat) (p : Int) (hpn : p = 2 ^ n) (ha : Lim a) (hn : n < 32) (hm : a.length ≤ 1048576) (d : Nat) :
    ∀ (k i : Nat) (L : List Int), a.length - i = d → i ≤ a.length → d < k → L.length = a.length + 1 → Lim L → L.getD i 0 < p → val (L.take (i + 1)) = p * val (a.take i) → (∀ j, i < j → L.getD j 0 = 0) →
    ∃ r, nat_left.l0 k (n : Int) L a (a.length : Int) (i : Int) = some r ∧ r.length = a.length + 1 ∧ Lim r ∧ val r = p * val a := by
  replace hpn := Aside0.mk hpn
  induction d with
  | zero =>
    intro k i L hd hi hk hL hlim _ hv _
    obtain ⟨k, rfl⟩ : ∃ m, k = m + 1 := ⟨k - 1, by omega⟩
    refine ⟨L, ?_, hL, hlim, ?_⟩
    · simp only [nat_left.l0]
      rw [if_neg (by omega)]
    · have : i = a.length := by omega
      subst this
      rw [List.take_of_length_le (by omega), List.take_length] at hv
      exact hv
  | succ d ih =>
    intro k i L hd hi hk hL hlim hlt hv hz
    obtain ⟨k, rfl⟩ : ∃ m, k = m + 1 := ⟨k - 1, by omega⟩
    replace hv := Aside0.mk hv
    replace hlt := Aside0.mk hlt
    have hil : i < a.length := by omega
    have c1 : (i : Int) < (a.length : Int) := by omega
    have c2 : 0 ≤ (i : Int) := by omega
    have c3 : 0 ≤ (n : Int) := by omega
    have c4 : (i : Int) < (L.length : Int) := by omega
    have c5 : 0 ≤ ((i + 1 : Nat) : Int) := by omega
    have c6 : ((i + 1 : Nat) : Int) < (L.length : Int) := by omega
    have hw : wrap64 ((i : Int) + 1) = ((i + 1 : Nat) : Int) := by rw [wrap_in (by omega) (by omega)]; omega
    replace hw := Aside0.mk hw
    have hai := ha.getD i
    have hLi := hlim.getD i
    simp only [BB_eq] at hai hLi
    obtain ⟨w1, w2, w3, w4, w5, w6, w7, w8, wd⟩ := left_word hpn.out hn (a.getD i 0) hai ⟨hLi.1, hlt.out⟩ (w := p * a.getD i 0) rfl
    simp only [nat_left.l0]
    rw [hw.out, if_pos c1, if_pos c2, if_pos c1, if_pos c3, if_pos c4, if_pos c5, if_pos c6]
    simp only [Int.toNat_natCast]
    rw [rd_eq, rd_eq, wraps_u64' _ hai.1 (Int.lt_trans hai.2 (by decide)), w1, w5, w6]
    have h0 : val (L.take i) + BB ^ i * L.getD i 0 = p * val (a.take i) := by
      rw [← hv.out, val_take_succ L i (Int.ofNat_lt.1 c4)]
    have hs := left_step (p := p) (w := p * a.getD i 0) (c := L.getD i 0) (a := a) (L := L) (k := i) (Int.ofNat_lt.1 c6) rfl h0
    simp only [BB_eq] at hs
    replace hs := Aside0.mk hs
    clear h0 w1 w2 w5 w6
    replace w3 := Aside0.mk w3
    refine ih k (i + 1) _ ?_ ?_ ?_ (by simp [hL]) ?_ ?_ hs.out ?_
    · clear w4 w7 w8 hai hLi; omega
    · clear w4 w7 w8 hai hLi; omega
    · clear w4 w7 w8 hai hLi; omega
    · exact (hlim.set _ (by rw [BB_eq]; exact ⟨w7, w8⟩)).set _ (by rw [BB_eq]; exact ⟨w4, wd⟩)
    · rw [getD_set_same _ _ _ (by rw [List.length_set]; exact Int.ofNat_lt.1 c6)]; exact w3.out
    · intro j hj
      rw [getD_set_ne _ _ _ _ (by omega), getD_set_ne _ _ _ _ (by omega)]
      exact hz j (by omega)

/-- left: the limbs of the multiple, one more than there were. -/
theorem lshift_f {a : List Int} {n : Nat} (ha : Lim a) (hn : n < 32) (hm : a.length ≤ 1048576) {k : Nat} (hk : a.length < k) :
    ∃ r, nat_left.f k a (n : Int) = some r ∧ r.length = a.length + 1 ∧ Lim r ∧ val r = 2 ^ n * val a := by
  unfold nat_left.f
  have hw : wrap64 ((a.length : Int) + 1) = ((a.length + 1 : Nat) : Int) := by rw [wrap_in (by omega) (by omega)]; omega
  rw [hw, if_pos (by omega), if_pos (by omega), Int.toNat_natCast]
  have hp := two_pow_le n hn
  have hz : ∀ j, (List.replicate (a.length + 1) (0 : Int)).getD j 0 = 0 := fun j => by
    simp only [List.getD_eq_getElem?_getD, List.getElem?_replicate]; split <;> rfl
  refine left_l0 a n (2 ^ n) rfl ha hn hm a.length k 0 _ (by omega) (by omega) hk (by simp) (Lim.replicate _) ?_ ?_ (fun j _ => hz j)
  · rw [hz]; omega
  · simp [val]

/-! ### right -/
theorem digits_val (q : Int) (R : List Int) (n : Nat) (h : ∀ i, i < n → R.getD i 0 = q / BB ^ i % BB) (m : Nat) (hm : m ≤ n) : val (R.take m) = q % BB ^ m := by
  induction m with
  | zero => simp [val]
  | succ m ih =>
    rw [val_take_more, ih (by omega), h m (by omega), pow_succ', Int.mul_comm BB]
    have e1 := Int.mul_ediv_add_emod q (BB ^ m)
    have e2 := Int.mul_ediv_add_emod (q / BB ^ m) BB
    have e3 := Int.mul_ediv_add_emod q (BB ^ m * BB)
    have e4 : q / (BB ^ m * BB) = q / BB ^ m / BB := by rw [Int.ediv_ediv_of_nonneg (Int.le_of_lt (pow_pos m))]
    rw [e4] at e3
    generalize q / BB ^ m = x at *
    generalize x / BB = y at *
    grind

/-- A limb of the quotient by a part of the base. -/
theorem right_digit {A : List Int} (hA : Lim A) {p p' : Int} (hp : 0 < p) (hpp : p * p' = BB) (i : Nat) (hi : i ≤ A.length) :
    val A / p / BB ^ i % BB = (A.getD i 0 + A.getD (i + 1) 0 * BB) / p % BB := by
  have e1 : val A / p / BB ^ i = val (A.drop i) / p := by
    have h1 := val_split A i hi
    have h2 := val_nonneg (hA.take i)
    have h3 := val_lt (hA.take i)
    rw [List.length_take, Nat.min_eq_left hi] at h3
    rw [Int.ediv_ediv_of_nonneg (Int.le_of_lt hp), Int.mul_comm p, ← Int.ediv_ediv_of_nonneg (Int.le_of_lt (pow_pos i))]
    congr 1
    rw [h1, Int.add_mul_ediv_left _ _ (Int.ne_of_gt (pow_pos i)), Int.ediv_eq_zero_of_lt h2 h3, Int.zero_add]
  have hd : ∀ j, val (A.drop j) = A.getD j 0 + BB * val (A.drop (j + 1)) := fun j => by
    rcases Nat.lt_or_ge j A.length with h | h
    · exact val_drop_succ A j h
    · rw [List.drop_eq_nil_of_le h, List.drop_eq_nil_of_le (by omega), List.getD_eq_getElem?_getD, List.getElem?_eq_none h]; rfl
  rw [e1, hd i, hd (i + 1)]
  generalize val (A.drop (i + 1 + 1)) = Y
  have e2 : A.getD i 0 + BB * (A.getD (i + 1) 0 + BB * Y) = (A.getD i 0 + A.getD (i + 1) 0 * BB) + p * (p' * BB * Y) := by
    rw [← hpp]; grind
  rw [e2, Int.add_mul_ediv_left _ _ (by omega)]
  have e3 : p' * BB * Y = BB * (p' * Y) := by grind
  rw [e3, Int.add_mul_emod_self_left]

theorem shr64 (x : Int) (n : Nat) (hn : n < 32) : shr .u64 x (n : Int) = x / 2 ^ n := by
  unfold shr
  rw [Int.toNat_natCast, show min n IntKind.u64.bits = n from Nat.min_eq_left (by simp [IntKind.bits]; omega)]

theorem right_l0 (A : List Int) (n : Nat) (q p : Int) (hpn : p = 2 ^ n) (hq : ∀ i, i < A.length → q / BB ^ i % BB = (A.getD i 0 + A.getD (i + 1) 0 * BB) / p % BB) (hA : Lim A) (hn : n < 32) (hm : A.length ≤ 1048576) (d : Nat) :
    ∀ (k i : Nat) (L : List Int), A.length - i = d → i ≤ A.length → d < k → L.length = A.length → Lim L → (∀ j, i ≤ j → L.getD j 0 = A.getD j 0) → (∀ j, j < i → L.getD j 0 = q / BB ^ j % BB) →
    ∃ r, nat_right.l0 k L (n : Int) (A.length : Int) (i : Int) = some r ∧ r.length = A.length ∧ Lim r ∧ (∀ j, j < A.length → r.getD j 0 = q / BB ^ j % BB) := by
  replace hpn := Aside0.mk hpn
  replace hq := Aside0.mk hq
  induction d with
  | zero =>
    intro k i L hd hi hk hL hlim _ hlo
    obtain ⟨k, rfl⟩ : ∃ m, k = m + 1 := ⟨k - 1, by omega⟩
    have : i = A.length := by omega
    subst this
    exact ⟨L, by simp only [nat_right.l0]; rw [if_neg (by omega)], hL, hlim, hlo⟩
  | succ d ih =>
    intro k i L hd hi hk hL hlim hhi hlo
    obtain ⟨k, rfl⟩ : ∃ m, k = m + 1 := ⟨k - 1, by omega⟩
    replace hlo := Aside0.mk hlo
    replace hhi := Aside0.mk hhi
    have hil : i < A.length := by omega
    have c1 : (i : Int) < (A.length : Int) := by omega
    have c2 : 0 ≤ (i : Int) := by omega
    have c3 : 0 ≤ (n : Int) := by omega
    have c4 : (i : Int) < (L.length : Int) := by omega
    have c5 : 0 ≤ ((i + 1 : Nat) : Int) := by omega
    have hw : wrap64 ((i : Int) + 1) = ((i + 1 : Nat) : Int) := by rw [wrap_in (by omega) (by omega)]; omega
    replace hw := Aside0.mk hw
    have hai := hA.getD i
    have hai2 := hA.getD (i + 1)
    simp only [BB_eq] at hai hai2
    -- the limb that is written, whichever way
    have key : ∀ x : Int, x = (A.getD i 0 + A.getD (i + 1) 0 * 4294967296) / 2 ^ n % 4294967296 → ∃ r, nat_right.l0 k (L.set i x) (n : Int) (A.length : Int) ((i + 1 : Nat) : Int) = some r ∧ r.length = A.length ∧ Lim r ∧ (∀ j, j < A.length → r.getD j 0 = q / BB ^ j % BB) := by
      intro x hx
      have hd := hq.out i hil
      rw [BB_eq, hpn.out, ← hx] at hd
      have hxb : 0 ≤ x ∧ x < 4294967296 := by rw [hx]; exact ⟨Int.emod_nonneg _ (by decide), Int.emod_lt_of_pos _ (by decide)⟩
      clear hx
      replace hd := Aside0.mk hd
      refine ih k (i + 1) _ ?_ ?_ ?_ (by simp [hL]) (hlim.set _ (by rw [BB_eq]; exact hxb)) ?_ ?_
      · clear hai hai2; omega
      · clear hai hai2; omega
      · clear hai hai2; omega
      · intro j hj
        rw [getD_set_ne _ _ _ _ (by clear hai hai2; omega)]
        exact hhi.out j (by clear hai hai2; omega)
      · intro j hj
        by_cases hji : j = i
        · subst hji
          rw [getD_set_same _ _ _ (Int.ofNat_lt.1 c4), BB_eq]; exact hd.out.symm
        · rw [getD_set_ne _ _ _ _ (fun e => hji e.symm)]
          exact hlo.out j (by clear hai hai2; omega)
    simp only [nat_right.l0]
    rw [hw.out, if_pos c1, if_pos c2, if_pos c4]
    simp only [Int.toNat_natCast]
    by_cases h2 : ((i + 1 : Nat) : Int) < (L.length : Int)
    · rw [if_pos h2, if_pos c5, if_pos c3, rd_eq, rd_eq, hhi.out i (Nat.le_refl _), hhi.out (i + 1) (Nat.le_succ _), wraps_u64' _ hai.1 (Int.lt_trans hai.2 (by decide)), wraps_u64' (A.getD (i + 1) 0) hai2.1 (Int.lt_trans hai2.2 (by decide)),
        wraps_u64' (A.getD (i + 1) 0 * 4294967296) (by omega) (by omega), or64' _ _ hai2.1 hai2.2 hai.1 hai.2, shr64 _ n hn]
      exact key _ (by rw [Int.add_comm])
    · rw [if_neg h2, if_pos c3, rd_eq, hhi.out i (Nat.le_refl _), wraps_u64' _ hai.1 (Int.lt_trans hai.2 (by decide)), shr64 _ n hn]
      have h0 : A.getD (i + 1) 0 = 0 := by rw [List.getD_eq_getElem?_getD, List.getElem?_eq_none (by clear hai hai2; omega)]; rfl
      exact key _ (by rw [h0, Int.zero_mul, Int.add_zero])

/-- right: the quotient by the power of two. -/
theorem rshift_f {A : List Int} {n : Nat} (hA : Lim A) (hn : n < 32) (hm : A.length ≤ 1048576) {k : Nat} (hk : A.length < k) :
    ∃ r, nat_right.f k A (n : Int) = some r ∧ r.length = A.length ∧ Lim r ∧ val r = val A / 2 ^ n := by
  have hp := two_pow_le n hn
  have hpos : 0 < (2 : Int) ^ n := Int.pow_pos (by decide)
  have hpp : (2 : Int) ^ n * 2 ^ (32 - n) = BB := by rw [BB_eq]; exact hp.2.2.1
  clear hp
  obtain ⟨r, h1, h2, h3, h4⟩ := right_l0 A n (val A / 2 ^ n) (2 ^ n) rfl (fun i hi => right_digit hA hpos hpp i (Nat.le_of_lt hi)) hA hn hm A.length k 0 A rfl (Nat.zero_le _) hk rfl hA (fun _ _ => rfl) (fun j hj => absurd hj (Nat.not_lt_zero _))
  refine ⟨r, h1, h2, h3, ?_⟩
  have hv := digits_val (val A / 2 ^ n) r A.length h4 A.length (Nat.le_refl _)
  rw [List.take_of_length_le (by rw [h2]; exact Nat.le_refl _)] at hv
  rw [hv]
  have hq0 : 0 ≤ val A / 2 ^ n := Int.ediv_nonneg (val_nonneg hA) (Int.le_of_lt hpos)
  have hq1 : val A / 2 ^ n ≤ val A := Int.ediv_le_self _ (val_nonneg hA)
  exact Int.emod_eq_of_lt hq0 (Int.lt_of_le_of_lt hq1 (val_lt hA))
end Go.Proofs.YtgpninmfbooijaaDoor.Px
