/-
  Decimal digits: what a number's text is, the digits in the order of growing places and their signs; reversing; leading zeros cut off.
-/
import Derived.Test.YtgpninmfbooijaaDoorPx7
import Derived.Test.YtgpninmfbooijaaDoorDec
import Derived.Test.YtgpninmfbooijaaDoorNPure
import Derived.Test.YtgpninmfbooijaaDoorNShelf
namespace Go.Proofs.YtgpninmfbooijaaDoor.Px
open Go.RowKit Go.Proofs.YtgpninmfbooijaaDoorW.PrintWords Go.Proofs.YtgpninmfbooijaaDoorW.PrintLast Go.Proofs.YtgpninmfbooijaaDoorW.PrintMore Go.Proofs.YtgpninmfbooijaaDoor.Num

theorem dec_zeros : ∀ ds : List Int, Dec.Lim ds → ∃ m, ds = Dec.limbs (Dec.val ds).toNat ++ List.replicate m 0
  | [], _ => ⟨0, by rw [Dec.val_nil]; simp [Dec.limbs_zero]⟩
  | x :: xs, h => by
    obtain ⟨hx, hxs⟩ := Dec.Lim.cons h
    obtain ⟨m, hm⟩ := dec_zeros xs hxs
    have hv := Dec.val_nonneg hxs
    rw [Dec.val_cons]
    simp only [Dec.BB_eq] at *
    rcases Nat.eq_zero_or_pos (Dec.val xs).toNat with h0 | h0
    · rw [h0, Dec.limbs_zero, List.nil_append] at hm
      rcases Nat.eq_zero_or_pos x.toNat with hx0 | hx0
      · have e1 : x = 0 := by omega
        have e2 : (x + 10 * Dec.val xs).toNat = 0 := by omega
        refine ⟨m + 1, ?_⟩
        rw [e2, Dec.limbs_zero, e1, hm]
        simp [List.replicate_succ]
      · have e2 : (x + 10 * Dec.val xs).toNat = x.toNat := by omega
        refine ⟨m, ?_⟩
        rw [e2, Dec.limbs_pos hx0, show x.toNat / 10 = 0 by omega, Dec.limbs_zero, show ((x.toNat % 10 : Nat) : Int) = x by omega, hm]
        simp
    · refine ⟨m, ?_⟩
      rw [Dec.limbs_pos (by omega), show (x + 10 * Dec.val xs).toNat / 10 = (Dec.val xs).toNat by omega, show (((x + 10 * Dec.val xs).toNat % 10 : Nat) : Int) = x by omega, List.cons_append, ← hm]

/-- The signs of digits. -/
def chr (ds : List Int) : List Int := ds.map (48 + ·)
theorem chr_append (a b : List Int) : chr (a ++ b) = chr a ++ chr b := by simp [chr]
theorem chr_length (a : List Int) : (chr a).length = a.length := by simp [chr]

/-- A number's decimal text. -/
def decS (n : Nat) : List UInt8 := if n = 0 then [48] else ((Dec.limbs n).map (fun d => UInt8.ofNat (48 + d).toNat)).reverse
def textS (n : Nat) : ByteArray := ⟨(decS n).toArray⟩

/-! ### slices.Reverse at []byte -/
theorem reverse_l0 (d : Nat) : ∀ (k : Nat) (x : List Int) (i j : Int), j - i ≤ d → d < k → 0 ≤ i → j < x.length → x.length ≤ 9223372036854775807 → -1 ≤ j →
    ∃ y, slices_Reverse_byte_byte.l0 k x i j = some y ∧ y.length = x.length ∧ ∀ p : Nat, p < x.length → y.getD p 0 = if i ≤ p ∧ p ≤ j then x.getD (i + j - p).toNat 0 else x.getD p 0 := by
  induction d with
  | zero =>
    intro k x i j hd hk h0 hj hm hj1
    obtain ⟨k, rfl⟩ : ∃ k', k = k' + 1 := ⟨k - 1, by omega⟩
    rw [slices_Reverse_byte_byte.l0, if_neg (by omega)]
    refine ⟨x, rfl, rfl, fun p hp => ?_⟩
    split
    · rw [show (i + j - p).toNat = p by omega]
    · rfl
  | succ d ih =>
    intro k x i j hd hk h0 hj hm hj1
    obtain ⟨k, rfl⟩ : ∃ k', k = k' + 1 := ⟨k - 1, by omega⟩
    rw [slices_Reverse_byte_byte.l0]
    by_cases hlt : i < j
    · rw [if_pos hlt, if_pos (by omega), if_pos (by omega), if_pos (by omega), if_pos (by omega), wrap_in (by omega) (by omega), wrap_in (by omega) (by omega)]
      obtain ⟨y, hy, hl, hp⟩ := ih k ((x.set i.toNat (rd x j)).set j.toNat (rd x i)) (i + 1) (j - 1) (by omega) (by omega) (by omega) (by simp; omega) (by simp; omega) (by omega)
      refine ⟨y, hy, by rw [hl]; simp, fun p hpl => ?_⟩
      rw [hp p (by simpa using hpl)]
      obtain ⟨a, rfl⟩ := Int.eq_ofNat_of_zero_le h0
      obtain ⟨b, rfl⟩ := Int.eq_ofNat_of_zero_le (show 0 ≤ j by omega)
      simp only [Int.toNat_natCast, rd_eq] at *
      have gs : ∀ (z : List Int) (q r : Nat) (v : Int), q < z.length → (z.set q v).getD r 0 = if q = r then v else z.getD r 0 := by
        intro z q r v hq
        simp only [List.getD_eq_getElem?_getD, List.getElem?_set]
        by_cases hqr : q = r
        · rw [if_pos hqr, if_pos hqr, if_pos (by omega)]; rfl
        · rw [if_neg hqr, if_neg hqr]
      have hA : ∀ r, ((x.set a (x.getD b 0)).set b (x.getD a 0)).getD r 0 = if b = r then x.getD a 0 else if a = r then x.getD b 0 else x.getD r 0 := fun r => by
        rw [gs (x.set a (x.getD b 0)) b r _ (by rw [List.length_set]; omega), gs x a r _ (by omega)]
      rw [hA, hA]
      by_cases c1 : (a : Int) + 1 ≤ p ∧ (p : Int) ≤ b - 1
      · rw [if_pos c1, if_neg (by omega), if_neg (by omega), if_pos (by omega)]
        congr 1
        omega
      · rw [if_neg c1]
        by_cases c2 : b = p
        · subst c2
          rw [if_pos rfl, if_pos (by omega)]
          congr 1
          omega
        · rw [if_neg c2]
          by_cases c3 : a = p
          · subst c3
            rw [if_pos rfl, if_pos (by omega)]
            congr 1
            omega
          · rw [if_neg c3, if_neg (by omega)]
    · rw [if_neg hlt]
      refine ⟨x, rfl, rfl, fun p hp => ?_⟩
      split
      · rw [show (i + j - p).toNat = p by omega]
      · rfl

theorem reverse_f (l : List Int) (k : Nat) (hk : l.length + 1 < k) (hm : l.length ≤ 9223372036854775807) : slices_Reverse_byte_byte.f k l = some l.reverse := by
  unfold slices_Reverse_byte_byte.f
  rw [wrap_in (by omega) (by omega)]
  obtain ⟨y, hy, hl, hp⟩ := reverse_l0 l.length k l 0 ((l.length : Int) - 1) (by omega) (by omega) (by omega) (by omega) hm (by omega)
  rw [hy]
  congr 1
  apply List.ext_getElem?
  intro p
  rcases Nat.lt_or_ge p l.length with h | h
  · have h1 := hp p h
    rw [if_pos (by omega)] at h1
    rw [List.getElem?_reverse h, List.getElem?_eq_getElem (by omega), List.getElem?_eq_getElem (by omega)]
    simp only [List.getD_eq_getElem?_getD, List.getElem?_eq_getElem (show p < y.length by omega)] at h1
    rw [show ((0 : Int) + ((l.length : Int) - 1) - p).toNat = l.length - 1 - p by omega, List.getElem?_eq_getElem (by omega)] at h1
    simpa using h1
  · rw [List.getElem?_eq_none (by omega), List.getElem?_eq_none (by simp; omega)]

/-! ### leading zeros -/
theorem trimLeft_zeros (m : Nat) (t : List UInt8) (h : ∀ b, t.head? = some b → b ≠ 48) : Lib.trimLeftB (List.replicate m 48 ++ t) 48 = t := by
  unfold Lib.trimLeftB
  induction m with
  | zero =>
    simp only [List.replicate_zero, List.nil_append]
    cases t with
    | nil => rfl
    | cons b t => rw [List.dropWhile_cons_of_neg]; have := h b rfl; simpa using this
  | succ m ih => rw [List.replicate_succ, List.cons_append, List.dropWhile_cons_of_pos (by simp)]; exact ih

theorem strOfNums_chr (ds : List Int) : strOfNums ((chr ds).reverse) = ⟨((ds.map (fun d => UInt8.ofNat (48 + d).toNat)).reverse).toArray⟩ := by
  simp [strOfNums, chr, List.map_reverse]

theorem textS_ne {n : Nat} (h : n ≠ 0) : decS n ≠ [] := by
  unfold decS
  rw [if_neg h, Dec.limbs_pos (by omega)]
  simp

theorem dec_top {n : Nat} (h : n ≠ 0) : ∀ b, (decS n).head? = some b → b ≠ 48 := by
  intro b hb
  unfold decS at hb
  rw [if_neg h] at hb
  obtain ⟨hl, ht, hv⟩ := Dec.limbs_spec n
  rw [List.head?_reverse, List.getLast?_map] at hb
  cases hg : (Dec.limbs n).getLast? with
  | none => rw [hg] at hb; cases hb
  | some d =>
    rw [hg] at hb
    simp only [Option.map_some, Option.some.injEq] at hb
    have hm := List.mem_of_getLast? hg
    have hd := hl d hm
    rw [Dec.BB_eq] at hd
    have hne : Dec.limbs n ≠ [] := by rintro e; rw [e] at hg; cases hg
    obtain ⟨k, hk⟩ : ∃ k, (Dec.limbs n).length = k + 1 := ⟨(Dec.limbs n).length - 1, by have := List.length_pos_iff.2 hne; omega⟩
    have hz := ht k hk
    rw [List.getLast?_eq_getElem?, hk, Nat.add_sub_cancel] at hg
    rw [List.getD_eq_getElem?_getD, hg] at hz
    simp only [Option.getD_some] at hz
    intro h48
    rw [h48] at hb
    have := congrArg UInt8.toNat hb
    rw [UInt8.toNat_ofNat'] at this
    simp at this
    omega

theorem text_trim (ds : List Int) (h : Dec.Lim ds) : Lib.trimLeftB (strOfNums (chr ds).reverse).data.toList 48 = if (Dec.val ds).toNat = 0 then [] else decS (Dec.val ds).toNat := by
  obtain ⟨m, hm⟩ := dec_zeros ds h
  rw [strOfNums_chr]
  generalize hV : (Dec.val ds).toNat = V at *
  rw [hm]
  simp only [List.map_append, List.map_replicate, List.reverse_append, List.reverse_replicate]
  rw [show UInt8.ofNat ((48 : Int) + 0).toNat = 48 from rfl]
  by_cases h0 : V = 0
  · rw [if_pos h0, trimLeft_zeros]
    · rw [h0, Dec.limbs_zero]; rfl
    · intro b hb; rw [h0, Dec.limbs_zero] at hb; cases hb
  · rw [if_neg h0, trimLeft_zeros]
    · unfold decS; rw [if_neg h0]
    · have := dec_top h0
      unfold decS at this
      rw [if_neg h0] at this
      exact this
end Go.Proofs.YtgpninmfbooijaaDoor.Px
