/-
  nat.Read: the number that a decimal text is a text of.
-/
import Derived.Test.YtgpninmfbooijaaDoorNText
import Derived.Test.YtgpninmfbooijaaDoorPx2
namespace Go.Proofs.YtgpninmfbooijaaDoor.Px
open Go.RowKit Go.Proofs.YtgpninmfbooijaaDoorW.PrintWords Go.Proofs.YtgpninmfbooijaaDoorW.PrintLast Go.Proofs.YtgpninmfbooijaaDoorW.PrintMore Go.Proofs.YtgpninmfbooijaaDoor.Num

def dg (b : UInt8) : Int := (b.toNat : Int) - 48
def isDg (b : UInt8) : Prop := 48 ≤ b.toNat ∧ b.toNat ≤ 57
instance (b : UInt8) : Decidable (isDg b) := inferInstanceAs (Decidable (_ ∧ _))
/-- The number that these digits write. -/
def dval (l : List UInt8) : Int := l.foldl (fun a b => a * 10 + dg b) 0
/-- A decimal text: not empty, of digits, no zero ahead of another digit. -/
def isTxt (l : List UInt8) : Prop := l ≠ [] ∧ (1 < l.length → l.head? ≠ some 48) ∧ ∀ b ∈ l, isDg b
instance (l : List UInt8) : Decidable (isTxt l) := inferInstanceAs (Decidable (_ ∧ _ ∧ _))
def readS (l : List UInt8) : List Int × Int := if isTxt l then (if l.length ≤ 9865 then fitS (dval l).toNat else ([], 3)) else ([], 30)

theorem dval_snoc (l : List UInt8) (b : UInt8) : dval (l ++ [b]) = dval l * 10 + dg b := by simp [dval]
theorem dval_go : ∀ (l : List UInt8) (a : Int), 0 ≤ a → (∀ b ∈ l, isDg b) → 0 ≤ l.foldl (fun a b => a * 10 + dg b) a ∧ l.foldl (fun a b => a * 10 + dg b) a < (a + 1) * 10 ^ l.length
  | [], a, h, _ => by simp only [List.foldl_nil, List.length_nil]; omega
  | b :: l, a, h, hd => by
    have h2 := hd b List.mem_cons_self
    unfold isDg at h2
    have hdg : dg b = (b.toNat : Int) - 48 := rfl
    have h3 := dval_go l (a * 10 + dg b) (by omega) (fun c hc => hd c (List.mem_cons_of_mem _ hc))
    rw [List.foldl_cons, List.length_cons, Int.pow_succ]
    refine ⟨h3.1, Int.lt_of_lt_of_le h3.2 ?_⟩
    have := Int.mul_le_mul_of_nonneg_right (show a * 10 + dg b + 1 ≤ (a + 1) * 10 by omega) (Int.le_of_lt (ten_pow_pos l.length))
    generalize (10 : Int) ^ l.length = p at *
    rw [Int.mul_comm p 10, ← Int.mul_assoc]
    exact this
theorem dval_nonneg (l : List UInt8) (h : ∀ b ∈ l, isDg b) : 0 ≤ dval l := (dval_go l 0 (Int.le_refl _) h).1
theorem dval_lt (l : List UInt8) (h : ∀ b ∈ l, isDg b) : dval l < 10 ^ l.length := by
  have := (dval_go l 0 (Int.le_refl _) h).2
  simpa [dval] using this

theorem make0 (W : World) (m : Nat) (hm : m ≤ 1000000) : (Instr.makeSlice 22 (.int .i64 0) (.int .i64 (m : Int))).run Tryd.prog W = .ok (.slice (some ⟨W.heap.size, 0, none⟩) 0 m) (W.alloc (.cells (madeCells #[.int .u32 0] m) 25)) := by
  obtain ⟨i, hi, hz⟩ := Option.map_eq_some_iff.1 info25
  simp only [Prod.mk.injEq] at hz
  obtain ⟨h1, h2, h3⟩ := hz
  have h := run_make (P := Tryd.prog) W 22 25 i (.int .u32 0) Tryd.underlying22 hi h1 .i64 .i64 0 (m : Int) (Int.le_refl _) (by omega) (by rw [h3]; omega) (by omega)
  rw [h, h2]
  simp [Value.cells]

/-- strings.Trim at the ten digits: nothing is left exactly of digits. -/
def tens : List UInt8 := [48, 49, 50, 51, 52, 53, 54, 55, 56, 57]
theorem tens_iff (b : UInt8) : tens.contains b = true ↔ isDg b := by
  have : ∀ n : Fin 256, tens.contains (UInt8.ofNat n.val) = true ↔ isDg (UInt8.ofNat n.val) := by decide +kernel
  have h := this ⟨b.toNat, UInt8.toNat_lt b⟩
  simpa using h
theorem trim_yes (l : List UInt8) (h : ∀ b ∈ l, isDg b) : Lib.trimS l tens = [] := by
  have hr : Lib.trimRightS l tens = l.take 0 := Lib.trimRightS_take l tens 0 (Nat.zero_le _) (fun j b _ hb => (tens_iff b).2 (h b (List.mem_of_getElem? hb))) (fun b h0 => absurd h0 (by omega))
  unfold Lib.trimS
  rw [hr]
  rfl
theorem drop_nil (p : UInt8 → Bool) : ∀ l : List UInt8, l.dropWhile p = [] → ∀ b ∈ l, p b = true
  | [], _, b, hb => by cases hb
  | c :: l, h, b, hb => by
    cases hc : p c with
    | false => rw [List.dropWhile_cons_of_neg (by rw [hc]; simp)] at h; cases h
    | true =>
      rw [List.dropWhile_cons_of_pos hc] at h
      rcases List.mem_cons.1 hb with rfl | hb
      · exact hc
      · exact drop_nil p l h b hb
theorem drop_head (p : UInt8 → Bool) : ∀ (l : List UInt8) (y : UInt8) (ys : List UInt8), l.dropWhile p = y :: ys → p y = false
  | [], y, ys, h => by cases h
  | c :: l, y, ys, h => by
    cases hc : p c with
    | false =>
      rw [List.dropWhile_cons_of_neg (by rw [hc]; simp)] at h
      obtain ⟨rfl, rfl⟩ := List.cons.inj h
      exact hc
    | true => rw [List.dropWhile_cons_of_pos hc] at h; exact drop_head p l y ys h
theorem trim_no (l : List UInt8) (h : ¬ ∀ b ∈ l, isDg b) : Lib.trimS l tens ≠ [] := by
  intro he
  apply h
  unfold Lib.trimS Lib.trimLeftS Lib.trimRightS at he
  have h1 := drop_nil _ _ he
  cases hd : l.reverse.dropWhile (tens.contains ·) with
  | nil =>
    intro b hb
    exact (tens_iff b).1 (drop_nil _ _ hd b (List.mem_reverse.2 hb))
  | cons y ys =>
    have h2 := drop_head _ _ _ _ hd
    have h3 := h1 y (by rw [hd]; simp)
    exact absurd (h3.symm.trans h2) (by simp)

theorem pow10_le {j : Nat} (h : j ≤ 9) : (1 : Int) ≤ 10 ^ j ∧ (10 : Int) ^ j ≤ 1000000000 := by
  have : ∀ j : Fin 10, (1 : Int) ≤ 10 ^ j.val ∧ (10 : Int) ^ j.val ≤ 1000000000 := by decide
  exact this ⟨j, by omega⟩
theorem pow10_le8 {j : Nat} (h : j ≤ 8) : (10 : Int) ^ j ≤ 100000000 := by
  have : ∀ j : Fin 9, (10 : Int) ^ j.val ≤ 100000000 := by decide
  exact this ⟨j, by omega⟩
theorem dval_more (l : List UInt8) (m : Nat) (h : m < l.length) : dval (l.take (m + 1)) = dval (l.take m) * 10 + (((l[m]'h).toNat : Int) - 48) := by
  rw [← List.take_append_getElem h, dval_snoc]; rfl

theorem muladd_step {L L' : List Int} {i : Nat} {c p n : Int} (hi : i < L'.length) (heq : val (L'.take i) + BB ^ i * c = val (L.take i) * p + n) (hlen : L'.length = L.length) :
    val ((L'.set i ((c + L.getD i 0 * p) % 4294967296)).take (i + 1)) + BB ^ (i + 1) * ((c + L.getD i 0 * p) / 4294967296) = val (L.take (i + 1)) * p + n := by
  rw [val_take_succ _ i (by rw [List.length_set]; exact hi), val_take_succ L i (by omega), List.take_set_of_le (Nat.le_refl _)]
  have hg : (L'.set i ((c + L.getD i 0 * p) % 4294967296)).getD i 0 = (c + L.getD i 0 * p) % 4294967296 := by
    rw [List.getD_eq_getElem?_getD, List.getElem?_set_self hi]; rfl
  rw [hg, pow_succ', BB_eq]
  rw [BB_eq] at heq
  have hd := Int.mul_ediv_add_emod (c + L.getD i 0 * p) 4294967296
  generalize (c + L.getD i 0 * p) % 4294967296 = a at *
  generalize (c + L.getD i 0 * p) / 4294967296 = b at *
  generalize L.getD i 0 = x at *
  have : val (L'.take i) + 4294967296 ^ i * a + 4294967296 * 4294967296 ^ i * b = val (L'.take i) + 4294967296 ^ i * (4294967296 * b + a) := by grind
  rw [this, hd]
  grind

set_option maxHeartbeats 8000000 in
set_option maxRecDepth 100000 in
theorem read_walk (s : ByteArray) (w : World) (hT : isTxt s.data.toList) (hl : s.data.toList.length ≤ 9865) :
    Calls Tryd.prog 25 #[.string s] w fun e w' => ∃ v0_ : Value, e = .returned (.tuple #[v0_, .int .i64 (fitS (dval s.data.toList).toNat).2]) ∧
      Kd.V (Kd.int .u32) 25 w' w.heap.size (fun k_ => w.heap.size ≤ k_) v0_ (fitS (dval s.data.toList).toNat).1 ∧ Below w.heap.size w w' := by
  obtain ⟨l, hs⟩ : ∃ l, s = ⟨l.toArray⟩ := ⟨s.data.toList, by simp⟩
  subst hs
  simp only at *
  have HT := Aside0.mk hT
  have hne : l ≠ [] := hT.1
  have htr := fun W => Any.strings_Trim_laid YtgpninmfbooijaaDoor.lays160 (by kernel_rfl) ⟨l.toArray⟩ ⟨tens.toArray⟩ W (by simp [ByteArray.size]; omega) (by decide) (ascii_of_all (by decide))
  simp only at htr
  rw [trim_yes l hT.2.2] at htr
  have HTR := Aside0.mk htr
  clear htr hT
  have hl0 : 0 < l.length := List.length_pos_iff.2 hne
  have hemp : l.isEmpty = false := by rw [List.isEmpty_eq_false_iff]; exact hne
  obtain ⟨b0, hb0⟩ : ∃ b0 : Int, ((l[0]'hl0).toNat : Int) = b0 := ⟨_, rfl⟩
  have hbt : ∀ h : 0 < (⟨l.toArray⟩ : ByteArray).size, ((((⟨l.toArray⟩ : ByteArray)[0]'h).toNat : Nat) : Int) = b0 := fun h => hb0
  have h48 : 1 < l.length → (b0 == 48) = false := fun h => by
    have h1 := HT.out.2.1 h
    rw [List.head?_eq_getElem?, List.getElem?_eq_getElem hl0] at h1
    refine beq_false_of_ne (fun e => h1 ?_)
    congr 1
    apply UInt8.toNat_inj.1
    rw [show (48 : UInt8).toNat = 48 from rfl]
    omega
  have H48 := Aside0.mk h48
  clear h48
  go_enter Tryd.func25, Tryd.ntmps25
  go_upto_region 1 with fail
  go_cut [27] (fun s27 wx => s27 = .bool false ∧ Below w.heap.size w wx)
  case first =>
    by_cases h1 : 1 < l.length
    · have h48 := H48.out h1
      go_wp2_with (go_at_call 43; refine (HTR.out _).mono ?_; rintro e w1 ⟨rfl, hb1⟩; have HB1 := Aside0.mk hb1; clear hb1)
      go_meet
      exact ⟨rfl, HB1.out⟩
    · go_wp2_with (go_at_call 43; refine (HTR.out _).mono ?_; rintro e w1 ⟨rfl, hb1⟩; have HB1 := Aside0.mk hb1; clear hb1)
      go_meet
      exact ⟨rfl, HB1.out⟩
  case rest =>
    obtain ⟨rfl, hb⟩ := hcut
    have HB := Aside0.mk hb
    clear hb
    have hmk := fun W => make0 W (l.length / 9 + 2) (by omega)
    rw [show ((l.length / 9 + 2 : Nat) : Int) = (l.length : Int) / 9 + 2 by omega] at hmk
    go_wp2_with fail
    go_loopw [4, 5] (fun v4 v5 wr => ∃ (k : Nat) (L : List Int), v5 = .int .i64 (k : Int) ∧ k ≤ l.length ∧ L.length ≤ k ∧ Lim L ∧ val L = dval (l.take k) ∧ (Kd.int .u32).R 25 wr w.heap.size (fun _ => True) v4 L ∧ Below w.heap.size w wr) (fun _ v5 _ => l.length - (intOf v5).toNat)
    case atStart =>
      exact ⟨0, [], rfl, by omega, by simp, Lim.nil, by simp [dval, val], Kd.R_mono (Kd.R_take (madeR _ w.heap.size (l.length / 9 + 2) HB.out.size (by omega)) (Nat.zero_le _)) (fun _ _ => trivial), below_alloc HB.out _⟩
    case round =>
      obtain ⟨k, L, rfl, hk, hLk, hLL, hLv, hR, hb⟩ := hrel
      have HLL := Aside0.mk hLL
      have HLV := Aside0.mk hLv
      have HR := Aside0.mk hR
      have HB2 := Aside0.mk hb
      clear hLL hLv hR hb
      obtain ⟨A4, c4, e4⟩ := Kd.R_slice HR.out
      subst e4
      by_cases hlt : k < l.length
      · obtain ⟨q, hq⟩ : ∃ q : Nat, q = (l.length - k - 1) % 9 := ⟨_, rfl⟩
        have hq9 : q ≤ 8 := by omega
        have hqe : k + 1 + q ≤ l.length := by have := Nat.mod_le (l.length - k - 1) 9; omega
        have hqm : (((l.length : Int) - (k : Int)) - 1) % 9 = (q : Int) := by omega
        go_wp2_with fail
        rw [show min ((k : Int) + 1 + ((l.length - k - 1 : Nat) : Int) % 9) (l.length : Int) = (k : Int) + 1 + (q : Int) by omega]
        clear hq hqm
        go_loopw [5, 6, 7] (fun v5 v6 v7 wx => ∃ (j nd : Nat) (n p : Int), v5 = .int .i64 ((k + j : Nat) : Int) ∧ v6 = .int .u64 n ∧ v7 = .int .u64 p ∧ wx = wr.drewN nd ∧ j ≤ q + 1 ∧ p = 10 ^ j ∧ 0 ≤ n ∧ n < p ∧ dval (l.take (k + j)) = dval (l.take k) * p + n) (fun v5 _ _ _ => k + q + 1 - (intOf v5).toNat)
        case atStart =>
          exact ⟨0, 0, 0, 1, by rw [Nat.add_zero], rfl, rfl, rfl, by omega, rfl, by omega, by omega, by rw [Nat.add_zero]; omega⟩
        case round =>
          obtain ⟨j, nd, n, p, rfl, rfl, rfl, rfl, hj, hp, hn0, hn1, hdv⟩ := hrel
          have HP := Aside0.mk hp
          have HDV := Aside0.mk hdv
          clear hdv
          by_cases hjq : j < q + 1
          · have hp8 := pow10_le8 (j := j) (by omega)
            have hp1 := (pow10_le (j := j) (by omega)).1
            rw [← hp] at hp8 hp1
            have hmore := dval_more l (k + j) (by omega)
            have hdg := HT.out.2.2 _ (List.getElem_mem (l := l) (show k + j < l.length by omega))
            obtain ⟨b, hb⟩ : ∃ b : Int, ((l[k + j]'(by omega)).toNat : Int) = b := ⟨_, rfl⟩
            rw [hb] at hmore
            have hb0 : 48 ≤ b := by have := hdg.1; omega
            have hb1 : b ≤ 57 := by have := hdg.2; omega
            have hbt2 : ∀ h : k + j < (⟨l.toArray⟩ : ByteArray).size, ((((⟨l.toArray⟩ : ByteArray)[k + j]'h).toNat : Nat) : Int) = b := fun h => hb
            have hbt := Aside0.mk hbt
            clear hp hdg
            have HMORE := Aside0.mk hmore
            clear hmore
            go_wp2_with fail
            go_roundw
            case rel =>
              refine ⟨j + 1, nd, n * 10 + (b - 48), p * 10, by go_num, rfl, rfl, rfl, by omega, by rw [HP.out, Int.pow_succ], by omega, by omega, ?_⟩
              rw [← Nat.add_assoc, HMORE.out, HDV.out]
              grind
            case measure => simp [intOf]; omega
          · have hjq2 : j = q + 1 := by omega
            subst hjq2
            have hp9 := pow10_le (j := q + 1) (by omega)
            rw [← hp] at hp9
            clear hp
            go_wp2_with fail
            go_loopw [9, 70] (fun v9 v70 wx => ∃ (i : Nat) (c : Int) (L' : List Int), v9 = .int .u64 c ∧ v70 = .int .i64 (i : Int) ∧ i ≤ L.length ∧ 0 ≤ c ∧ c ≤ 1000000000 ∧ L'.length = L.length ∧ Lim L' ∧ val (L'.take i) + BB ^ i * c = val (L.take i) * p + n ∧ (∀ x, i ≤ x → L'.getD x 0 = L.getD x 0) ∧ (Kd.int .u32).R 25 wx w.heap.size (fun _ => True) (.slice A4 L.length c4) L' ∧ Below w.heap.size w wx) (fun _ v70 _ => L.length - (intOf v70).toNat)
            case atStart => exact ⟨0, n, L, rfl, rfl, Nat.zero_le _, hn0, by omega, rfl, HLL.out, by simp [val], fun _ _ => rfl, Kd.R_drewN HR.out _, pw_below_drewN HB2.out _⟩
            case round =>
              obtain ⟨i, c, L', rfl, rfl, hi, hc0, hc1, hl', hL', hinv, hrest, hR3, hb3⟩ := hrel
              have HL' := Aside0.mk hL'
              have HINV := Aside0.mk hinv
              have HREST := Aside0.mk hrest
              have HR3 := Aside0.mk hR3
              have HB3 := Aside0.mk hb3
              clear hL' hinv hrest hR3 hb3
              by_cases hil : i < L.length
              · obtain ⟨g, cap, hv, hg, hglt, _⟩ := Kd.R_form HR3.out (by omega)
                injection hv with hA _ _
                subst hA
                have hx := HLL.out.getD i
                have hcell := (cellR HR3.out i hil).1
                have hfr := (cellR HR3.out i hil).2
                have hst := muladd_step (by omega) HINV.out hl'
                rw [HREST.out i (Nat.le_refl _)] at hcell
                generalize L.getD i 0 = x at *
                rw [BB_eq] at hx
                have hxp0 : 0 ≤ x * p := Int.mul_nonneg hx.1 (by omega)
                have hxp1 : x * p ≤ 4294967295 * 1000000000 := Int.le_trans (Int.mul_le_mul_of_nonneg_right (show x ≤ 4294967295 by omega) (by omega)) (Int.mul_le_mul_of_nonneg_left hp9.2 (by omega))
                have hx0 := hx.1
                have hx1 := hx.2
                have hp0 := hp9.1
                have hp2 := hp9.2
                have HST := Aside0.mk hst
                have HP9 := Aside0.mk hp9
                have HL3 := Aside0.mk hl'
                clear hst hp9 hl' hx
                go_wp2_with fail
                go_roundw
                case rel =>
                  refine ⟨i + 1, _, L'.set i ((c + x * p) % 4294967296), rfl, by go_num, by omega, Int.ediv_nonneg (by omega) (by omega), by omega, by rw [List.length_set]; exact HL3.out, HL'.out.set _ (by rw [BB_eq]; omega), HST.out, fun y hy => ?_, (putR HR3.out i _).1, below_set HB3.out hg⟩
                  rw [← HREST.out y (by omega), List.getD_eq_getElem?_getD, List.getD_eq_getElem?_getD, List.getElem?_set_ne (by omega)]
                case measure => simp [intOf]; omega
              · have hie : i = L.length := by omega
                subst hie
                by_cases hc : 0 < c
                · have HL3 := Aside0.mk hl'
                  clear hl'
                  go_wp2_with (at_builtin; refine Kd.R_append (Kd.int .u32) (w0 := w) w.heap.size rfl (.tmp 92) (.tmp 95) 22 25 (.int .u32 0) 4 rfl Tryd.underlying22 info25 rfl (by decide) (by omega) (.slice A4 L.length c4) L' c [.int .u32 c] (fun _ => True) (fun _ => False) rfl rfl ?aP (fun _ hk => hk.elim) ?aF HR3.out HB3.out ?aS ?aL ?_)
                  case aP => rfl
                  case aF => exact fun _ _ => trivial
                  case aS => exact HB3.out.size
                  case aL => rw [HL3.out]; omega
                  intro v1 w4 ho hb4 _ _
                  have HO4 := Aside0.mk ho
                  have HB4 := Aside0.mk hb4
                  clear ho hb4
                  go_wp2_with fail
                  go_roundw
                  case rel =>
                    refine ⟨k + (q + 1), L' ++ [c], by go_num, by omega, by rw [List.length_append, List.length_singleton, HL3.out]; omega, Lim.append HL'.out (fun y hy => by rw [List.mem_singleton] at hy; subst hy; rw [BB_eq]; omega), ?_, HO4.out, HB4.out⟩
                    have h1 := HINV.out
                    rw [List.take_of_length_le (Nat.le_of_eq HL3.out), List.take_of_length_le (Nat.le_refl _), HLV.out] at h1
                    rw [HDV.out, ← h1, val_append, val_cons, val_nil, HL3.out, Int.mul_zero, Int.add_zero]
                  case measure => simp [intOf]; omega
                · have hce : c = 0 := by omega
                  subst hce
                  go_wp2_with fail
                  go_roundw
                  case rel =>
                    refine ⟨k + (q + 1), L', rfl, by omega, by omega, HL'.out, ?_, HR3.out, HB3.out⟩
                    have h1 := HINV.out
                    rw [List.take_of_length_le (Nat.le_of_eq hl'), List.take_of_length_le (Nat.le_refl _), HLV.out, Int.mul_zero, Int.add_zero] at h1
                    rw [HDV.out, ← h1]
                  case measure => simp [intOf]; omega
      · have hke : k = l.length := by omega
        subst hke
        have hval := HLV.out
        rw [List.take_of_length_le (Nat.le_refl _)] at hval
        have hfit := fit_f HLL.out (k := l.length + 1) (by omega) (by omega)
        rw [hval] at hfit
        have HFIT := Aside0.mk hfit
        have hV : (Kd.int .u32).V 25 wr wr.heap.size (fun k => some k = (Value.slice A4 L.length c4).ownBlock) (.slice A4 L.length c4) L := Kd.R_V (Kd.R_tight rfl HR.out)
        have hc := nat_fit.calls (l.length + 1) (fun k => some k = (Value.slice A4 L.length c4).ownBlock) A4 c4 L _ _ wr hV hfit
        have HC := Aside0.mk hc
        clear hval hfit hV hc
        go_wp2_with (go_at_call 31; refine HC.out.mono ?_; rintro e w2 ⟨v, rfl, hv, hb⟩; have HVV := Aside0.mk hv; have HBB := Aside0.mk hb; clear hv hb)
        go_ret2
        refine ⟨v, rfl, Kd.V_lower (Kd.V_mono HVV.out (fun k hk => ?_)) HB2.out.size, below_step HB2.out HBB.out⟩
        rcases hk with hk | hk
        · exact Kd.R_base HR.out k hk.symm
        · exact Nat.le_trans HB2.out.size hk

set_option maxHeartbeats 8000000 in
set_option maxRecDepth 100000 in
theorem read_long (s : ByteArray) (w : World) (hT : isTxt s.data.toList) (hl : ¬ s.data.toList.length ≤ 9865) (hm : s.data.toList.length ≤ 9223372036854775807) :
    Calls Tryd.prog 25 #[.string s] w fun e w' => e = .returned (.tuple #[.slice none 0 0, .int .i64 3]) ∧ Below w.heap.size w w' := by
  obtain ⟨l, hs⟩ : ∃ l, s = ⟨l.toArray⟩ := ⟨s.data.toList, by simp⟩
  subst hs
  simp only at *
  have HT := Aside0.mk hT
  have hne : l ≠ [] := hT.1
  have htr := fun W => Any.strings_Trim_laid YtgpninmfbooijaaDoor.lays160 (by kernel_rfl) ⟨l.toArray⟩ ⟨tens.toArray⟩ W (by simp [ByteArray.size]; omega) (by decide) (ascii_of_all (by decide))
  simp only at htr
  rw [trim_yes l hT.2.2] at htr
  have HTR := Aside0.mk htr
  clear htr hT
  have hl0 : 0 < l.length := List.length_pos_iff.2 hne
  have hemp : l.isEmpty = false := by rw [List.isEmpty_eq_false_iff]; exact hne
  obtain ⟨b0, hb0⟩ : ∃ b0 : Int, ((l[0]'hl0).toNat : Int) = b0 := ⟨_, rfl⟩
  have hbt : ∀ h : 0 < (⟨l.toArray⟩ : ByteArray).size, ((((⟨l.toArray⟩ : ByteArray)[0]'h).toNat : Nat) : Int) = b0 := fun h => hb0
  have h48 : (b0 == 48) = false := by
    have h1 := HT.out.2.1 (by omega)
    rw [List.head?_eq_getElem?, List.getElem?_eq_getElem hl0] at h1
    refine beq_false_of_ne (fun e => h1 ?_)
    congr 1
    apply UInt8.toNat_inj.1
    rw [show (48 : UInt8).toNat = 48 from rfl]
    omega
  go_enter Tryd.func25, Tryd.ntmps25
  go_wp2_with (go_at_call 43; refine (HTR.out _).mono ?_; rintro e w1 ⟨rfl, hb1⟩; have HB1 := Aside0.mk hb1; clear hb1)
  go_ret2
  exact ⟨rfl, HB1.out⟩

set_option maxHeartbeats 8000000 in
set_option maxRecDepth 100000 in
theorem read_bad (s : ByteArray) (w : World) (hT : ¬ isTxt s.data.toList) (hm : s.data.toList.length ≤ 9223372036854775807) :
    Calls Tryd.prog 25 #[.string s] w fun e w' => e = .returned (.tuple #[.slice none 0 0, .int .i64 30]) ∧ Below w.heap.size w w' := by
  obtain ⟨l, hs⟩ : ∃ l, s = ⟨l.toArray⟩ := ⟨s.data.toList, by simp⟩
  subst hs
  simp only at *
  have HT := Aside0.mk hT
  clear hT
  have htr := fun W => Any.strings_Trim_laid YtgpninmfbooijaaDoor.lays160 (by kernel_rfl) ⟨l.toArray⟩ ⟨tens.toArray⟩ W (by simp [ByteArray.size]; omega) (by decide) (ascii_of_all (by decide))
  simp only at htr
  have HTR := Aside0.mk htr
  clear htr
  by_cases hne : l = []
  · subst hne
    go_enter Tryd.func25, Tryd.ntmps25
    go_wp2_with fail
    go_ret2
    exact ⟨rfl, Below.refl _ _⟩
  · have hl0 : 0 < l.length := List.length_pos_iff.2 hne
    have hemp : l.isEmpty = false := by rw [List.isEmpty_eq_false_iff]; exact hne
    obtain ⟨b0, hb0⟩ : ∃ b0 : Int, ((l[0]'hl0).toNat : Int) = b0 := ⟨_, rfl⟩
    have hbt : ∀ h : 0 < (⟨l.toArray⟩ : ByteArray).size, ((((⟨l.toArray⟩ : ByteArray)[0]'h).toNat : Nat) : Int) = b0 := fun h => hb0
    by_cases hz : 1 < l.length ∧ l.head? = some 48
    · have h1 := hz.1
      have h48 : (b0 == 48) = true := by
        have h2 := hz.2
        rw [List.head?_eq_getElem?, List.getElem?_eq_getElem hl0] at h2
        have h3 := congrArg (fun o => (o.getD 0).toNat) h2
        simp only [Option.getD_some] at h3
        rw [show (48 : UInt8).toNat = 48 from rfl] at h3
        exact beq_iff_eq.2 (by omega)
      clear hz
      go_enter Tryd.func25, Tryd.ntmps25
      go_wp2_with fail
      go_ret2
      exact ⟨rfl, Below.refl _ _⟩
    · have hnd : ¬ ∀ b ∈ l, isDg b := fun h => HT.out ⟨hne, fun h1 h2 => hz ⟨h1, h2⟩, h⟩
      have htn := trim_no l hnd
      obtain ⟨z, hzz⟩ : ∃ z, z = Lib.trimS l tens := ⟨_, rfl⟩
      rw [← hzz] at HTR htn
      have hze : z.isEmpty = false := by rw [List.isEmpty_eq_false_iff]; exact htn
      have h48 : 1 < l.length → (b0 == 48) = false := fun h => by
        have h1 : ¬ l.head? = some 48 := fun h2 => hz ⟨h, h2⟩
        rw [List.head?_eq_getElem?, List.getElem?_eq_getElem hl0] at h1
        refine beq_false_of_ne (fun e => h1 ?_)
        congr 1
        apply UInt8.toNat_inj.1
        rw [show (48 : UInt8).toNat = 48 from rfl]
        omega
      have H48 := Aside0.mk h48
      clear h48 hz hzz
      by_cases h1 : 1 < l.length
      · have h48 := H48.out h1
        go_enter Tryd.func25, Tryd.ntmps25
        go_wp2_with (go_at_call 43; refine (HTR.out _).mono ?_; rintro e w1 ⟨rfl, hb1⟩; have HB1 := Aside0.mk hb1; clear hb1)
        go_ret2
        exact ⟨rfl, HB1.out⟩
      · go_enter Tryd.func25, Tryd.ntmps25
        go_wp2_with (go_at_call 43; refine (HTR.out _).mono ?_; rintro e w1 ⟨rfl, hb1⟩; have HB1 := Aside0.mk hb1; clear hb1)
        go_ret2
        exact ⟨rfl, HB1.out⟩

/-- What Read answers: of a text whose length is a number that an int holds. -/
def nat_Read.f (a0 : ByteArray) : Option (List Int × Int) := if a0.data.toList.length ≤ 9223372036854775807 then some (readS a0.data.toList) else none

theorem nat_Read.calls (a0 : ByteArray) (r1 : List Int) (r2 : Int) (w : World) (h : nat_Read.f a0 = some (r1, r2)) :
    Calls Tryd.prog 25 #[.string a0] w fun e w' => ∃ v0_ : Value, e = .returned (.tuple #[v0_, .int .i64 r2]) ∧ Kd.V (Kd.int .u32) 25 w' w.heap.size (fun k_ => w.heap.size ≤ k_) v0_ r1 ∧ Below w.heap.size w w' := by
  unfold nat_Read.f at h
  split at h
  · rename_i hm
    have h := Option.some.inj h
    unfold readS at h
    split at h
    · rename_i hT
      split at h
      · rename_i hl
        have := read_walk a0 w hT hl
        rw [h] at this
        exact this
      · rename_i hl
        obtain ⟨rfl, rfl⟩ := Prod.mk.inj h
        exact (read_long a0 w hT hl hm).mono (fun e w' he => ⟨_, he.1, Kd.V_nil _ _ _ _ _, he.2⟩)
    · rename_i hT
      obtain ⟨rfl, rfl⟩ := Prod.mk.inj h
      exact (read_bad a0 w hT hm).mono (fun e w' he => ⟨_, he.1, Kd.V_nil _ _ _ _ _, he.2⟩)
  · exact absurd h (by simp)

end Go.Proofs.YtgpninmfbooijaaDoor.Px
