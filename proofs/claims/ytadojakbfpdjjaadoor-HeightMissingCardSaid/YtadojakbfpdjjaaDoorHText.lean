/-
  The texts that the laws make of bytes.
-/
import Derived.Test.YtadojakbfpdjjaaDoorHSetup
namespace Go.Proofs.YtadojakbfpdjjaaDoor.Px
open Go.RowKit Go.Maps Go.Proofs.YtadojakbfpdjjaaDoorW.PrintWords Go.Proofs.YtadojakbfpdjjaaDoorW.PrintLast Go.Proofs.YtadojakbfpdjjaaDoorW.PrintMore

def byI (zs : List Int) (k : Nat) : Int := if k < zs.length then ([84, 65, 68, 70, 63] : List Int).getD (zs.getD k 0 % 5).toNat 84 else 84
def txtI (n : Nat) (zs : List Int) : List Int := (List.range n).map (byI zs)
def txtB (n : Nat) (zs : List Int) : List UInt8 := (txtI n zs).map fun x => UInt8.ofNat x.toNat
theorem byI_mem (zs : List Int) (k : Nat) : byI zs k = 84 ∨ byI zs k = 65 ∨ byI zs k = 68 ∨ byI zs k = 70 ∨ byI zs k = 63 := by
  unfold byI
  split
  · have h0 := Int.emod_nonneg (zs.getD k 0) (b := 5) (by decide)
    have h1 := Int.emod_lt_of_pos (zs.getD k 0) (b := 5) (by decide)
    have h2 : zs.getD k 0 % 5 = 0 ∨ zs.getD k 0 % 5 = 1 ∨ zs.getD k 0 % 5 = 2 ∨ zs.getD k 0 % 5 = 3 ∨ zs.getD k 0 % 5 = 4 := by omega
    rcases h2 with h2 | h2 | h2 | h2 | h2 <;> rw [h2] <;> simp
  · exact .inl rfl
theorem txtB_len (n : Nat) (zs : List Int) : (txtB n zs).length = n := by simp [txtB, txtI]
theorem txtB_let (n : Nat) (zs : List Int) : ∀ c ∈ txtB n zs, isLet c := by
  intro c hc
  obtain ⟨x, hx, rfl⟩ := List.mem_map.1 hc
  obtain ⟨k, _, rfl⟩ := List.mem_map.1 hx
  rcases byI_mem zs k with h | h | h | h | h <;> rw [h] <;> decide
theorem txtI_succ (zs : List Int) (k : Nat) : (List.range (k + 1)).map (byI zs) = (List.range k).map (byI zs) ++ [byI zs k] := by rw [List.range_succ, List.map_append]; rfl
theorem take_set (L : List Int) (k : Nat) (v : Int) (h : k < L.length) : (L.set k v).take (k + 1) = L.take k ++ [v] := by
  rw [← List.take_append_getElem (by simpa using h)]
  simp [List.take_set_of_le]

set_option maxHeartbeats 1000000 in
set_option maxRecDepth 100000 in
theorem text_walk (s : Stp) (hs : rightP s) (A : Option Addr) (c : Nat) (zs : List Int) (w : World) (hz : ReadsInt w .u8 A zs.length zs) (_hc : zs.length ≤ c) (hb : ∀ z ∈ zs, 0 ≤ z ∧ z ≤ 255) :
    Calls Tryd.prog 21 #[.agg #[.int .i64 s.f0, .int .i64 s.f1, .int .i64 s.f2, .int .i64 s.f3, .int .i64 s.f4, .int .i64 s.f5], .slice A zs.length c] w fun e w' => e = .returned (.string ⟨(txtB s.f0.toNat zs).toArray⟩) ∧ Below w.heap.size w w' := by
  have HZ := Aside0.mk hz
  have HZB := Aside0.mk hb
  have HR := Aside0.mk hs
  obtain ⟨n, hn⟩ : ∃ n : Nat, s.f0 = n := ⟨s.f0.toNat, by have := hs.1; omega⟩
  have hn0 : 1 ≤ n := by have := hs.1; omega
  have hn1 : n ≤ 200 := by have := hs.2.1; omega
  have HN := Aside0.mk hn
  rw [hn]
  clear hz hb hs hn
  go_enter Tryd.func21, Tryd.ntmps21
  go_wp2_with (first
    | (at_make; refine Kd.R_make (P := Tryd.prog) (Kd.int .u8) (w0 := w) w.heap.size 5 rfl (N := 9) rfl 52 (.tmp 8) (.tmp 8) rfl (n : Int) rfl rfl Tryd.underlying52 (.int .u8 0) 1 info5 rfl (by decide) (by decide) 0 (ok := fun _ => True) (okp := fun _ => True) rfl (fun _ h => h) trivial (by omega) (by omega) (below_alloc (Below.refl _ _) _) (below_size (below_alloc (Below.refl _ _) _)) ?_; intro v1 w1 hr hB _ _; obtain ⟨g, cap, e1, hgb, _, _⟩ := Kd.R_form hr (by rw [List.length_replicate]; omega); rw [List.length_replicate] at e1; subst e1; have HR1 := Aside0.mk hr; have HB := Aside0.mk hB; have HGB := Aside0.mk hgb; clear hr hB hgb))
  rw [Int.toNat_natCast] at HR1
  go_loopw [12] (fun v12 wx => ∃ (k : Nat) (L : List Int), k ≤ n ∧ v12 = .int .i64 (k : Int) ∧ L.length = n ∧ L.take k = (List.range k).map (byI zs) ∧ Aside0 ((Kd.int .u8).R 5 wx w.heap.size (fun _ => True) (.slice (some ⟨g, 0, none⟩) n cap) L) ∧ Aside0 (Below w.heap.size w wx)) (fun v12 _ => n - (intOf v12).toNat)
  case atStart => exact ⟨0, List.replicate n 0, Nat.zero_le _, rfl, by simp, rfl, HR1, HB⟩
  case round =>
    clear HR1 HB
    obtain ⟨k, L, hk, rfl, hL, ht, HR1, HB⟩ := hrel
    have HT := Aside0.mk ht
    have HLL := Aside0.mk hL
    clear ht hL
    by_cases hlt : k < n
    · have hcell := Kd.R_celln 0 HR1.out (k : Int) (by omega) (by omega)
      have hc0 := hcell.1
      have hf0 := hcell.2
      rw [Int.toNat_natCast] at hc0 hf0
      clear hcell
      have hk1 : (k : Int) < (n : Int) := by omega
      by_cases hz : k < zs.length
      · have hz0 : decide ((k : Int) < (zs.length : Int)) = true := decide_eq_true (by omega)
        obtain ⟨ad, rfl, hcz⟩ := HZ.out.2.2 (by omega)
        have hzc := hcz k hz
        have hblt := World.block_lt_of_cell? w _ hzc
        have hzm : 0 ≤ zs.getD k 0 ∧ zs.getD k 0 ≤ 255 := by
          rw [List.getD_eq_getElem?_getD, List.getElem?_eq_getElem hz]
          exact HZB.out _ (List.getElem_mem hz)
        have hzr : (wr.setCell ⟨g, k, none⟩ (.int .u8 84)).cell? (ad.add k) = some (.int .u8 (zs.getD k 0)) := by
          rw [cell_far (by have := HGB.out; show (ad.add k).block ≠ g; omega)]
          exact (HB.out.cell hblt).trans hzc
        have hk2 : (k : Int) < (zs.length : Int) := by omega
        have hzb0 := hzm.1
        have hzb1 := hzm.2
        have h5 : zs.getD k 0 % 5 = 0 ∨ zs.getD k 0 % 5 = 1 ∨ zs.getD k 0 % 5 = 2 ∨ zs.getD k 0 % 5 = 3 ∨ zs.getD k 0 % 5 = 4 := by omega
        generalize hzz : zs.getD k 0 = z at hzr hzb0 hzb1 h5
        have HZZ := Aside0.mk hzz
        clear hcz hzc hblt hzm hzz
        rcases h5 with h5 | h5 | h5 | h5 | h5
        · have HZ5 : Aside0 (zs.getD k 0 % 5 = 0) := ⟨by rw [HZZ.out]; exact h5⟩
          go_wp2_with fail
          go_roundw
          case rel =>
            refine ⟨k + 1, (L.set k 84).set k 84, by omega, by go_num, by rw [List.length_set, List.length_set]; exact HLL.out, ?_, ⟨Kd.R_putn (Kd.R_putn HR1.out (k : Int) 84) (k : Int) 84⟩, ⟨below_set (below_set HB.out HGB.out) HGB.out⟩⟩
            rw [take_set _ _ _ (by rw [List.length_set, HLL.out]; exact hlt), List.take_set_of_le (Nat.le_refl _), HT.out, txtI_succ]
            congr 2
            unfold byI
            rw [if_pos hz, HZ5.out]
            rfl
          case measure => simp [intOf]; omega
        · have HZ5 : Aside0 (zs.getD k 0 % 5 = 1) := ⟨by rw [HZZ.out]; exact h5⟩
          go_wp2_with fail
          go_roundw
          case rel =>
            refine ⟨k + 1, (L.set k 84).set k 65, by omega, by go_num, by rw [List.length_set, List.length_set]; exact HLL.out, ?_, ⟨Kd.R_putn (Kd.R_putn HR1.out (k : Int) 84) (k : Int) 65⟩, ⟨below_set (below_set HB.out HGB.out) HGB.out⟩⟩
            rw [take_set _ _ _ (by rw [List.length_set, HLL.out]; exact hlt), List.take_set_of_le (Nat.le_refl _), HT.out, txtI_succ]
            congr 2
            unfold byI
            rw [if_pos hz, HZ5.out]
            rfl
          case measure => simp [intOf]; omega
        · have HZ5 : Aside0 (zs.getD k 0 % 5 = 2) := ⟨by rw [HZZ.out]; exact h5⟩
          go_wp2_with fail
          go_roundw
          case rel =>
            refine ⟨k + 1, (L.set k 84).set k 68, by omega, by go_num, by rw [List.length_set, List.length_set]; exact HLL.out, ?_, ⟨Kd.R_putn (Kd.R_putn HR1.out (k : Int) 84) (k : Int) 68⟩, ⟨below_set (below_set HB.out HGB.out) HGB.out⟩⟩
            rw [take_set _ _ _ (by rw [List.length_set, HLL.out]; exact hlt), List.take_set_of_le (Nat.le_refl _), HT.out, txtI_succ]
            congr 2
            unfold byI
            rw [if_pos hz, HZ5.out]
            rfl
          case measure => simp [intOf]; omega
        · have HZ5 : Aside0 (zs.getD k 0 % 5 = 3) := ⟨by rw [HZZ.out]; exact h5⟩
          go_wp2_with fail
          go_roundw
          case rel =>
            refine ⟨k + 1, (L.set k 84).set k 70, by omega, by go_num, by rw [List.length_set, List.length_set]; exact HLL.out, ?_, ⟨Kd.R_putn (Kd.R_putn HR1.out (k : Int) 84) (k : Int) 70⟩, ⟨below_set (below_set HB.out HGB.out) HGB.out⟩⟩
            rw [take_set _ _ _ (by rw [List.length_set, HLL.out]; exact hlt), List.take_set_of_le (Nat.le_refl _), HT.out, txtI_succ]
            congr 2
            unfold byI
            rw [if_pos hz, HZ5.out]
            rfl
          case measure => simp [intOf]; omega
        · have HZ5 : Aside0 (zs.getD k 0 % 5 = 4) := ⟨by rw [HZZ.out]; exact h5⟩
          go_wp2_with fail
          go_roundw
          case rel =>
            refine ⟨k + 1, (L.set k 84).set k 63, by omega, by go_num, by rw [List.length_set, List.length_set]; exact HLL.out, ?_, ⟨Kd.R_putn (Kd.R_putn HR1.out (k : Int) 84) (k : Int) 63⟩, ⟨below_set (below_set HB.out HGB.out) HGB.out⟩⟩
            rw [take_set _ _ _ (by rw [List.length_set, HLL.out]; exact hlt), List.take_set_of_le (Nat.le_refl _), HT.out, txtI_succ]
            congr 2
            unfold byI
            rw [if_pos hz, HZ5.out]
            rfl
          case measure => simp [intOf]; omega
      · have hz0 : decide ((k : Int) < (zs.length : Int)) = false := decide_eq_false (by omega)
        go_wp2_with fail
        go_roundw
        case rel =>
          refine ⟨k + 1, L.set k 84, by omega, by go_num, by rw [List.length_set]; exact HLL.out, ?_, ⟨Kd.R_putn HR1.out (k : Int) 84⟩, ⟨below_set HB.out HGB.out⟩⟩
          rw [take_set _ _ _ (by rw [HLL.out]; exact hlt), HT.out, txtI_succ]
          congr 2
          unfold byI
          rw [if_neg hz]
        case measure => simp [intOf]; omega
    · have hke : k = n := by omega
      subst hke
      have hLL := HLL.out
      have hT := HT.out
      rw [List.take_of_length_le (by omega)] at hT
      have HT2 := Aside0.mk hT
      clear hT
      obtain ⟨_, _, hC⟩ := Kd.R_reads' HR1.out
      have hcv := fun W (h : Below wr.heap.size wr W) => Kd.C_string (P := Tryd.prog) (c := cap) Tryd.underlying52 Tryd.underlying5 Tryd.underlying9 (Kd.C_below hC h)
      have hcv0 := hcv wr (Below.refl _ _)
      have HLL2 := Aside0.mk hLL
      clear hLL hcv hC
      go_wp2_with fail
      go_ret
      refine ⟨?_, HB.out⟩
      have e : txtB k zs = L.map (fun x => UInt8.ofNat x.toNat) := by unfold txtB txtI; rw [HT2.out]
      show Ending.returned (.string (strOfNums L)) = _
      rw [Int.toNat_natCast, e]
      rfl
end Go.Proofs.YtadojakbfpdjjaaDoor.Px
