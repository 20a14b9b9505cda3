/-
  What the functions over limbs compute, in plain numbers: as many rounds as are wanted stand ready.
-/
import Derived.Test.YtgpninmfbooijaaDoorNText
import Derived.Test.YtgpninmfbooijaaDoorNum
import Derived.Test.YtgpninmfbooijaaDoorPx2
import Derived.Test.YtgpninmfbooijaaDoorPx3
import Derived.Test.YtgpninmfbooijaaDoorPx5
import Derived.Test.YtgpninmfbooijaaDoorPx7
import Derived.Test.YtgpninmfbooijaaDoorPx8
import Derived.Test.YtgpninmfbooijaaDoorPx9
import Derived.Test.YtgpninmfbooijaaDoorPx0
import Derived.Test.YtgpninmfbooijaaDoorNRead
import Derived.Test.YtgpninmfbooijaaDoorNAdd
import Derived.OpenShut
namespace Go.Proofs.YtgpninmfbooijaaDoor.Px
open Go.RowKit Go.Proofs.YtgpninmfbooijaaDoorW.PrintWords Go.Proofs.YtgpninmfbooijaaDoorW.PrintLast Go.Proofs.YtgpninmfbooijaaDoorW.PrintMore Go.Proofs.YtgpninmfbooijaaDoor.Num

/-- With rounds enough it answers so. -/
def Ev {α : Type} (f : Nat → Option α) (r : α) : Prop := ∃ K, ∀ k, K ≤ k → f k = some r
theorem Ev.const {α : Type} (r : α) : Ev (fun _ => some r) r := ⟨0, fun _ _ => rfl⟩
theorem Ev.of {α : Type} {f : Nat → Option α} {r : α} (K : Nat) (h : ∀ k, K ≤ k → f k = some r) : Ev f r := ⟨K, h⟩
theorem Ev.succ {α : Type} {f g : Nat → Option α} {r : α} (h : ∀ k, f (k + 1) = g k) (hg : Ev g r) : Ev f r := by
  obtain ⟨K, hK⟩ := hg
  refine ⟨K + 1, fun k hk => ?_⟩
  obtain ⟨k, rfl⟩ : ∃ k', k = k' + 1 := ⟨k - 1, by omega⟩
  rw [h]; exact hK k (by omega)
theorem Ev.bind {α β : Type} {g : Nat → Option α} {h : Nat → α → Option β} {t : α} {r : β} (hg : Ev g t) (hh : Ev (fun k => h k t) r) : Ev (fun k => (g k).bind (h k)) r := by
  obtain ⟨K, hK⟩ := hg
  obtain ⟨M, hM⟩ := hh
  refine ⟨K + M, fun k hk => ?_⟩
  simp only
  rw [hK k (by omega)]
  exact hM k (by omega)
theorem Ev.same {α : Type} {f g : Nat → Option α} {r : α} (hg : Ev g r) (h : ∀ k, f k = g k) : Ev f r := by
  obtain ⟨K, hK⟩ := hg
  exact ⟨K, fun k hk => (h k).trans (hK k hk)⟩
theorem Ev.get {α : Type} {f : Nat → Option α} {r : α} (h : Ev f r) : ∃ k, f k = some r := by
  obtain ⟨K, hK⟩ := h
  exact ⟨K, hK K (Nat.le_refl _)⟩

theorem trim_ev {l : List Int} (h : Lim l) (hm : l.length ≤ 9223372036854775807) : Ev (fun k => nat_trim.f k l) (limbs (val l).toNat) := ⟨l.length + 1, fun _ hk => trim_f h (by omega) hm⟩
theorem fit_ev {l : List Int} (h : Lim l) (hm : l.length ≤ 9223372036854775807) : Ev (fun k => nat_fit.f k l) (fitS (val l).toNat) := ⟨l.length + 1, fun _ hk => fit_f h (by omega) hm⟩

/-! ### products -/
theorem mul_l1 (a b : List Int) (i : Nat) (hi : i < a.length) (hb : Lim b) (ha : Lim a) (hs : a.length + b.length ≤ 70368744177664) (L0 : List Int) (r : List Int)
    (next : ∀ L', L'.length = a.length + b.length → Lim L' → val L' = val L0 + BB ^ i * (a.getD i 0 * val b) → (∀ p, i + 1 + b.length ≤ p → L'.getD p 0 = 0) →
      Ev (fun k => nat_mul.l0 k b L' a (a.length : Int) ((i + 1 : Nat) : Int)) r) :
    ∀ (d j : Nat) (L : List Int) (c : Int), j + d = b.length → L.length = a.length + b.length → Lim L → 0 ≤ c → c < BB →
      val L + BB ^ (i + j) * c = val L0 + BB ^ i * (a.getD i 0 * val (b.take j)) → (∀ p, i + b.length ≤ p → L.getD p 0 = 0) →
      Ev (fun k => nat_mul.l1 k b L (i : Int) (a.getD i 0) c a (a.length : Int) (i : Int) b (b.length : Int) (j : Int)) r := by
  intro d
  induction d with
  | zero =>
    intro j L c hj hL hlim hc0 hc1 hv hz
    have hj : j = b.length := by omega
    subst hj
    refine Ev.succ (g := fun k => nat_mul.l0 k b (L.set (i + b.length) c) a (a.length : Int) ((i + 1 : Nat) : Int)) (fun k => ?_) (next _ ?_ ?_ ?_ ?_)
    · rw [nat_mul.l1, if_neg (by omega), wrap_in (by omega) (by omega), if_pos (by omega), if_pos (by omega), wrap_in (by omega) (by omega)]
      rw [BB_eq] at hc1
      rw [show ((i : Int) + (b.length : Int)).toNat = i + b.length by omega, Int.emod_eq_of_lt hc0 hc1]
      rfl
    · rw [List.length_set]; exact hL
    · exact hlim.set _ ⟨hc0, hc1⟩
    · exact mul_row (by omega) (hz _ (Nat.le_refl _)) hv
    · intro p hp
      rw [List.getD_eq_getElem?_getD, List.getElem?_set_ne (by omega), ← List.getD_eq_getElem?_getD]
      exact hz p (by omega)
  | succ d ih =>
    intro j L c hj hL hlim hc0 hc1 hv hz
    have hx := ha.getD i
    have hy := hb.getD j
    have ho := hlim.getD (i + j)
    have hw := mul_word hx hy ho ⟨hc0, hc1⟩
    have hst := mul_step (b := b) (L := L) (i := i) (k := j) (by omega) hv
    obtain ⟨w1, w2, w3, w4, w5, w6⟩ := hw
    refine Ev.succ (g := fun k => nat_mul.l1 k b (L.set (i + j) ((c + (a.getD i 0 * b.getD j 0 + L.getD (i + j) 0)) % BB)) (i : Int) (a.getD i 0) ((c + (a.getD i 0 * b.getD j 0 + L.getD (i + j) 0)) / BB) a (a.length : Int) (i : Int) b (b.length : Int) ((j + 1 : Nat) : Int)) (fun k => ?_)
      (ih (j + 1) _ _ (by omega) (by rw [List.length_set]; exact hL) (hlim.set _ (emod_BB _)) w5 w6 hst (fun p hp => ?_))
    · rw [nat_mul.l1, if_pos (by omega), if_pos (by omega), if_pos (by omega), wrap_in (x := (i : Int) + (j : Int)) (by omega) (by omega), if_pos (by omega), if_pos (by omega), wrap_in (x := (j : Int) + 1) (by omega) (by omega)]
      rw [show ((i : Int) + (j : Int)) = ((i + j : Nat) : Int) by omega, rd_eq, rd_eq, Int.toNat_natCast]
      simp only [BB_eq] at *
      generalize a.getD i 0 = x at *
      generalize b.getD j 0 = y at *
      generalize L.getD (i + j) 0 = o at *
      rw [u64_in (x := x) (by omega) (by omega), u64_in (x := y) (by omega) (by omega), u64_in (x := o) (by omega) (by omega), u64_in (x := x * y) (by omega) (by omega), u64_in (x := x * y + o) (by omega) (by omega), u64_in (by omega) (by omega)]
      rfl
    · rw [List.getD_eq_getElem?_getD, List.getElem?_set_ne (by omega), ← List.getD_eq_getElem?_getD]
      exact hz p hp

theorem mul_l0 (a b : List Int) (hb : Lim b) (ha : Lim a) (hs : a.length + b.length ≤ 70368744177664) : ∀ (d i : Nat) (L : List Int), i + d = a.length → L.length = a.length + b.length → Lim L → val L = val (a.take i) * val b → (∀ p, i + b.length ≤ p → L.getD p 0 = 0) →
    Ev (fun k => nat_mul.l0 k b L a (a.length : Int) (i : Int)) (limbs (val a * val b).toNat) := by
  intro d
  induction d with
  | zero =>
    intro i L hi hL hlim hv hz
    refine Ev.succ (g := fun k => (nat_trim.f k L).bind fun t132 => some t132) (fun k => ?_) (Ev.bind (trim_ev hlim (by omega)) ?_)
    · rw [nat_mul.l0, if_neg (by omega)]
    · rw [hv, List.take_of_length_le (by omega)]
      exact Ev.const _
  | succ d ih =>
    intro i L hi hL hlim hv hz
    refine Ev.succ (g := fun k => nat_mul.l1 k b L (i : Int) (a.getD i 0) 0 a (a.length : Int) (i : Int) b (b.length : Int) ((0 : Nat) : Int)) (fun k => ?_)
      (mul_l1 a b i (by omega) hb ha hs L _ (fun L' h1 h2 h3 h4 => ih (i + 1) L' (by omega) h1 h2 ?_ h4) b.length 0 L 0 (by omega) hL hlim (Int.le_refl _) BB_pos (by simp [val]) hz)
    · rw [nat_mul.l0, if_pos (by omega), if_pos (by omega), if_pos (by omega), rd_eq]; rfl
    · rw [h3, hv, val_take_succ a i (by omega)]; grind

theorem mul_ev {a b : List Int} (ha : Lim a) (hb : Lim b) (hs : a.length + b.length ≤ 70368744177664) : Ev (fun k => nat_mul.f k a b) (limbs (val a * val b).toNat) := by
  refine Ev.same (mul_l0 a b hb ha hs a.length 0 (List.replicate (a.length + b.length) 0) (by omega) (by simp) (Lim.replicate _) (by simp [val_replicate, val]) (fun p _ => ?_)) (fun k => ?_)
  · rw [List.getD_eq_getElem?_getD, List.getElem?_replicate]; split <;> rfl
  · unfold nat_mul.f
    rw [wrap_in (by omega) (by omega), if_pos (by omega), if_pos (by omega), show ((a.length : Int) + (b.length : Int)).toNat = a.length + b.length by omega]
    rfl

/-! ### comparison -/
def cmpS (x y : Int) : Int := if x < y then -1 else if y < x then 1 else 0

theorem cmp_l0 (a b : List Int) (ha : Lim a) (hb : Lim b) (hl : a.length = b.length) (hm : a.length ≤ 70368744177664) : ∀ m : Nat, m ≤ a.length → Ev (fun k => nat_cmp.l0 k a b ((m : Int) - 1)) (cmpS (val (a.take m)) (val (b.take m))) := by
  intro m
  induction m with
  | zero =>
    intro _
    refine Ev.succ (g := fun _ => some 0) (fun k => ?_) (Ev.const _)
    rw [nat_cmp.l0, if_neg (by omega)]
  | succ m ih =>
    intro hma
    have hx := ha.getD m
    have hy := hb.getD m
    have hva := val_nonneg (ha.take m)
    have hvb := val_nonneg (hb.take m)
    have hla := val_lt (ha.take m)
    have hlb := val_lt (hb.take m)
    have hP := pow_pos m
    rw [List.length_take, Nat.min_eq_left (by omega)] at hla hlb
    rw [val_take_succ a m (by omega), val_take_succ b m (by omega)]
    have key : cmpS (val (a.take m) + BB ^ m * a.getD m 0) (val (b.take m) + BB ^ m * b.getD m 0) = if a.getD m 0 < b.getD m 0 then -1 else if a.getD m 0 > b.getD m 0 then 1 else cmpS (val (a.take m)) (val (b.take m)) := by
      generalize a.getD m 0 = x at *
      generalize b.getD m 0 = y at *
      unfold cmpS
      by_cases h1 : x < y
      · have := Int.mul_le_mul_of_nonneg_left (show x + 1 ≤ y by omega) (Int.le_of_lt hP)
        rw [Int.mul_add, Int.mul_one] at this
        rw [if_pos h1, if_pos (by omega)]
      · by_cases h2 : y < x
        · have := Int.mul_le_mul_of_nonneg_left (show y + 1 ≤ x by omega) (Int.le_of_lt hP)
          rw [Int.mul_add, Int.mul_one] at this
          rw [if_neg h1, if_pos h2, if_neg (by omega), if_pos (by omega)]
        · have h3 : x = y := by omega
          subst h3
          rw [if_neg h1, if_neg h2]
          simp only [Int.add_lt_add_iff_right]
    rw [key]
    have hstep : ∀ k, nat_cmp.l0 (k + 1) a b (((m + 1 : Nat) : Int) - 1) = if a.getD m 0 < b.getD m 0 then some (-1) else if a.getD m 0 > b.getD m 0 then some 1 else nat_cmp.l0 k a b ((m : Int) - 1) := fun k => by
      rw [show (((m + 1 : Nat) : Int) - 1) = (m : Int) by omega, nat_cmp.l0, if_pos (by omega), if_pos (by omega), if_pos (by omega), if_pos (by omega), rd_eq, rd_eq, wrap_in (by omega) (by omega)]
    by_cases h1 : a.getD m 0 < b.getD m 0
    · rw [if_pos h1]
      exact Ev.succ (g := fun _ => some (-1)) (fun k => by rw [hstep, if_pos h1]) (Ev.const _)
    · rw [if_neg h1]
      by_cases h2 : a.getD m 0 > b.getD m 0
      · rw [if_pos h2]
        exact Ev.succ (g := fun _ => some 1) (fun k => by rw [hstep, if_neg h1, if_pos h2]) (Ev.const _)
      · rw [if_neg h2]
        exact Ev.succ (fun k => by rw [hstep, if_neg h1, if_neg h2]) (ih (by omega))

theorem short_lt {a b : List Int} (ha : Lim a) (hb : Lim b) (tb : Tight b) (h : a.length < b.length) : val a < val b := by
  have h1 := val_lt ha
  obtain ⟨n, hn⟩ : ∃ n, b.length = n + 1 := ⟨b.length - 1, by omega⟩
  have h2 := pow_le_val hb n hn (tb n hn)
  have h3 : BB ^ a.length ≤ BB ^ n := by
    obtain ⟨d, rfl⟩ := Nat.exists_eq_add_of_le (show a.length ≤ n by omega)
    rw [Int.pow_add]
    exact le_mul_one (Int.le_of_lt (pow_pos _)) (pow_pos d)
  omega

theorem cmp_ev {a b : List Int} (ha : Lim a) (hb : Lim b) (ta : Tight a) (tb : Tight b) (hm : a.length ≤ 70368744177664) : Ev (fun k => nat_cmp.f k a b) (cmpS (val a) (val b)) := by
  by_cases hl : a.length = b.length
  · have := cmp_l0 a b ha hb hl hm a.length (Nat.le_refl _)
    rw [List.take_of_length_le (Nat.le_refl _), List.take_of_length_le (by omega)] at this
    refine Ev.same this (fun k => ?_)
    unfold nat_cmp.f
    rw [if_pos (by omega), wrap_in (by omega) (by omega)]
  · by_cases hs : a.length < b.length
    · have h := short_lt ha hb tb hs
      refine Ev.same (g := fun _ => some (-1)) ?_ (fun k => ?_)
      · unfold cmpS; rw [if_pos h]; exact Ev.const _
      · unfold nat_cmp.f; rw [if_neg (by omega), if_pos (by omega)]
    · have h := short_lt hb ha ta (by omega)
      refine Ev.same (g := fun _ => some 1) ?_ (fun k => ?_)
      · unfold cmpS; rw [if_neg (by omega), if_pos h]; exact Ev.const _
      · unfold nat_cmp.f; rw [if_neg (by omega), if_neg (by omega)]

/-! ### differences -/
theorem u64_mod (x : Int) : IntKind.u64.wrap x = x % 18446744073709551616 := by simp [IntKind.wrap, IntKind.signed, IntKind.bits]

theorem sub_l0 (a b : List Int) (ha : Lim a) (hb : Lim b) (hle : b.length ≤ a.length) (hm : a.length ≤ 70368744177664) (hv : val b ≤ val a) : ∀ (d i : Nat) (L : List Int) (o : Int), i + d = a.length → L.length = a.length → Lim L → 0 ≤ o → o ≤ 1 →
    val (L.take i) - BB ^ i * o = val (a.take i) - val (b.take i) → (∀ p, i ≤ p → L.getD p 0 = a.getD p 0) →
    Ev (fun k => nat_Sub.l0 k b L o (a.length : Int) (i : Int)) (limbs (val a - val b).toNat, 0) := by
  intro d
  induction d with
  | zero =>
    intro i L o hi hL hlim h0 h1 hinv hrest
    refine Ev.succ (g := fun k => (nat_trim.f k L).bind fun t => some (t, 0)) (fun k => ?_) (Ev.bind (trim_ev hlim (by omega)) ?_)
    · rw [nat_Sub.l0, if_neg (by omega)]
    · rw [List.take_of_length_le (by omega), List.take_of_length_le (by omega), List.take_of_length_le (by omega)] at hinv
      have hlt := val_lt hlim
      rw [show L.length = i by omega] at hlt
      have ho : o = 0 := by
        rcases (show o = 0 ∨ o = 1 by omega) with h | h
        · exact h
        · rw [h, Int.mul_one] at hinv; omega
      rw [ho, Int.mul_zero, Int.sub_zero] at hinv
      rw [hinv]
      exact Ev.const _
  | succ d ih =>
    intro i L o hi hL hlim h0 h1 hinv hrest
    have hx := ha.getD i
    have hy := hb.getD i
    have hsl := sub_limb (a := a.getD i 0) (l := o + b.getD i 0) hx ⟨by omega, by rw [BB_eq] at *; omega⟩
    have hst := sub_step (a := a) (b := b) (L := L) (k := i) (o := o) (by omega) hinv hsl.2.2
    have hcont := ih (i + 1) (L.set i ((a.getD i 0 - (o + b.getD i 0)) % BB)) (if a.getD i 0 < o + b.getD i 0 then 1 else 0) (by omega) (by rw [List.length_set]; exact hL) (hlim.set _ (emod_BB _)) (by split <;> omega) (by split <;> omega) hst
      (fun p hp => by rw [List.getD_eq_getElem?_getD, List.getElem?_set_ne (by omega), ← List.getD_eq_getElem?_getD]; exact hrest p (by omega))
    refine Ev.succ (fun k => ?_) hcont
    rw [nat_Sub.l0, if_pos (by omega)]
    have hr := hrest i (Nat.le_refl _)
    obtain ⟨e1, e2, _⟩ := hsl
    rw [BB_eq] at e1
    by_cases hib : i < b.length
    · rw [if_pos (by omega), if_pos (by omega), if_pos (by omega), rd_eq, rd_eq, hr, Int.toNat_natCast, wrap_in (by omega) (by omega)]
      simp only [BB_eq] at *
      generalize a.getD i 0 = x at *
      generalize b.getD i 0 = y at *
      rw [u64_in (x := x) (by omega) (by omega), u64_in (x := y) (by omega) (by omega), u64_in (x := o + y) (by omega) (by omega), u64_mod, e1, e2]
      rfl
    · have hbz : b.getD i 0 = 0 := by rw [List.getD_eq_getElem?_getD, List.getElem?_eq_none (by omega)]; rfl
      rw [if_neg (by omega), if_pos (by omega), if_pos (by omega), rd_eq, hr, Int.toNat_natCast, wrap_in (by omega) (by omega)]
      rw [hbz, Int.add_zero] at e1 e2 ⊢
      simp only [BB_eq] at *
      generalize a.getD i 0 = x at *
      rw [u64_in (x := x) (by omega) (by omega), u64_mod, e1, e2]
      rfl

/-- a - b as Sub says it. -/
def subS (x y : Int) : List Int × Int := if x < y then ([], 2) else (limbs (x - y).toNat, 0)

theorem clone_f {l : List Int} (h : l.length ≤ 1024) : slices_Clone_uint32_uint32.f l = some l := by unfold slices_Clone_uint32_uint32.f; rw [if_pos (by omega)]

theorem sub_ev {a b : List Int} (ha : Lim a) (hb : Lim b) (ra : Rt a) (rb : Rt b) : Ev (fun k => nat_Sub.f k a b) (subS (val a) (val b)) := by
  have hla := ra.1
  refine Ev.same (g := fun k => (nat_cmp.f k a b).bind fun t114 => nat_Sub.j0 k a b (decide (t114 < 0))) (Ev.bind (cmp_ev ha hb ra.2 rb.2 (by omega)) ?_) (fun k => ?_)
  · by_cases hlt : val a < val b
    · refine Ev.succ (g := fun _ => some ([], 2)) (fun k => ?_) ?_
      · unfold cmpS; rw [if_pos hlt, nat_Sub.j0, if_pos (by decide)]
      · unfold subS; rw [if_pos hlt]; exact Ev.const _
    · have hc : ¬ cmpS (val a) (val b) < 0 := by unfold cmpS; rw [if_neg hlt]; split <;> omega
      have hlen : b.length ≤ a.length := by
        rcases Nat.lt_or_ge a.length b.length with h | h
        · exact absurd (short_lt ha hb rb.2 h) hlt
        · exact h
      refine Ev.succ (g := fun k => nat_Sub.l0 k b a 0 (a.length : Int) ((0 : Nat) : Int)) (fun k => ?_) ?_
      · rw [decide_eq_false hc, nat_Sub.j0, if_neg (by decide), clone_f hla]; rfl
      · unfold subS; rw [if_neg hlt]
        exact sub_l0 a b ha hb hlen (by omega) (by omega) a.length 0 a 0 (by omega) rfl ha (by omega) (by omega) (by simp [val]) (fun _ _ => rfl)
  · unfold nat_Sub.f
    rw [right_yes ra, right_yes rb]
    rfl

end Go.Proofs.YtgpninmfbooijaaDoor.Px

/-
  What the functions over limbs compute, in plain numbers: products, quotients, equality, the laws' own helpers.
-/
namespace Go.Proofs.YtgpninmfbooijaaDoor.Px
open Go.RowKit Go.Proofs.YtgpninmfbooijaaDoorW.PrintWords Go.Proofs.YtgpninmfbooijaaDoorW.PrintLast Go.Proofs.YtgpninmfbooijaaDoorW.PrintMore Go.Proofs.YtgpninmfbooijaaDoor.Num

theorem natpow_int (n : Nat) : ((4294967296 ^ n : Nat) : Int) = BB ^ n := by rw [BB_eq]; exact Int.natCast_pow 4294967296 n

theorem limbs_len_int {n k : Nat} : (limbs n).length ≤ k ↔ (n : Int) < BB ^ k := by
  rw [limbs_length_le, ← natpow_int]
  exact Int.ofNat_lt.symm

theorem fitS_long {n : Nat} (h : BB ^ 1024 ≤ (n : Int)) : fitS n = ([], 3) := by
  unfold fitS
  rw [if_neg (fun h2 => absurd h (Int.not_le.2 (limbs_len_int.1 h2)))]

theorem pow_mono {m n : Nat} (h : m ≤ n) : BB ^ m ≤ BB ^ n := by
  obtain ⟨d, rfl⟩ := Nat.exists_eq_add_of_le h
  rw [Int.pow_add]
  exact le_mul_one (Int.le_of_lt (pow_pos _)) (pow_pos d)

theorem mul_big {a b : List Int} (ha : Lim a) (hb : Lim b) (ta : Tight a) (tb : Tight b) (h0 : 0 < a.length) (h1 : 0 < b.length) (h : 1025 < a.length + b.length) : BB ^ 1024 ≤ val a * val b := by
  obtain ⟨m, hm⟩ : ∃ m, a.length = m + 1 := ⟨a.length - 1, by omega⟩
  obtain ⟨n, hn⟩ : ∃ n, b.length = n + 1 := ⟨b.length - 1, by omega⟩
  have h2 := pow_le_val ha m hm (ta m hm)
  have h3 := pow_le_val hb n hn (tb n hn)
  have h4 : BB ^ 1024 ≤ BB ^ (m + n) := pow_mono (by omega)
  rw [Int.pow_add] at h4
  have h5 := Int.mul_le_mul_of_nonneg_right h2 (Int.le_of_lt (pow_pos n))
  have h6 := Int.mul_le_mul_of_nonneg_left h3 (val_nonneg ha)
  exact Int.le_trans h4 (Int.le_trans h5 h6)

theorem mulj1_ev {a b : List Int} (ha : Lim a) (hb : Lim b) (ra : Rt a) (rb : Rt b) : Ev (fun k => nat_Mul.j1 k a b false) (fitS (val a * val b).toNat) := by
  have h1 := ra.1
  have h2 := rb.1
  refine Ev.succ (g := fun k => (nat_mul.f k a b).bind fun t142 => (nat_fit.f k t142).bind fun bt145 => some (bt145.1, bt145.2)) (fun k => by rw [nat_Mul.j1, if_neg (by decide)]) ?_
  refine Ev.bind (mul_ev ha hb (by omega)) ?_
  obtain ⟨s1, _, s3⟩ := limbs_spec (val a * val b).toNat
  have hlen : (limbs (val a * val b).toNat).length ≤ 2048 := by
    have hl := val_lt ha
    have hl' := val_lt hb
    have hp := Int.mul_nonneg (val_nonneg ha) (val_nonneg hb)
    rw [limbs_len_int, Int.toNat_of_nonneg hp]
    have e1 := Int.mul_le_mul_of_nonneg_right (Int.le_of_lt hl) (val_nonneg hb)
    have e2 := Int.mul_lt_mul_of_pos_left hl' (pow_pos a.length)
    have e3 : BB ^ a.length * BB ^ b.length ≤ BB ^ 2048 := by rw [← Int.pow_add]; exact pow_mono (by omega)
    exact Int.lt_of_lt_of_le (Int.lt_of_le_of_lt e1 e2) e3
  have h := fit_ev s1 (by omega)
  rw [s3, Int.toNat_natCast] at h
  exact Ev.bind h (Ev.const _)

theorem Mul_ev {a b : List Int} (ha : Lim a) (hb : Lim b) (ra : Rt a) (rb : Rt b) : Ev (fun k => nat_Mul.f k a b) (fitS (val a * val b).toNat) := by
  have h1 := ra.1
  have h2 := rb.1
  refine Ev.same (g := fun k => nat_Mul.j0 k a b false) ?_ (fun k => by unfold nat_Mul.f; rw [right_yes ra, right_yes rb]; rfl)
  by_cases h : 0 < a.length ∧ 0 < b.length ∧ 1025 < a.length + b.length
  · refine Ev.succ (g := fun k => nat_Mul.j1 k a b true) (fun k => ?_) ?_
    · rw [nat_Mul.j0, if_neg (by decide), if_pos (by omega), if_pos (by omega), wrap_in (by omega) (by omega), decide_eq_true (by omega)]
    · have hb' := mul_big ha hb ra.2 rb.2 h.1 h.2.1 h.2.2
      rw [fitS_long (by rw [Int.toNat_of_nonneg (Int.mul_nonneg (val_nonneg ha) (val_nonneg hb))]; exact hb')]
      exact Ev.succ (g := fun _ => some ([], 3)) (fun k => by rw [nat_Mul.j1, if_pos rfl]) (Ev.const _)
  · refine Ev.succ (fun k => ?_) (mulj1_ev ha hb ra rb)
    rw [nat_Mul.j0, if_neg (by decide)]
    by_cases c1 : 0 < a.length
    · rw [if_pos (by omega)]
      by_cases c2 : 0 < b.length
      · rw [if_pos (by omega), wrap_in (by omega) (by omega), decide_eq_false (by omega)]
      · rw [if_neg (by omega)]
    · rw [if_neg (by omega)]

/-! ### quotients -/
def divS (x y : Int) : List Int × List Int × Int := if y = 0 then ([], [], 2) else (limbs (x / y).toNat, limbs (x % y).toNat, 0)

theorem DivMod_ev {a b : List Int} (ha : Lim a) (hb : Lim b) (ra : Rt a) (rb : Rt b) : Ev (fun k => nat_DivMod.f k a b) (divS (val a) (val b)) := by
  have h1 := ra.1
  have h2 := rb.1
  have va := val_nonneg ha
  refine Ev.same (g := fun k => nat_DivMod.j0 k a b ((b.length : Int) == 0)) ?_ (fun k => by unfold nat_DivMod.f; rw [right_yes ra, right_yes rb]; rfl)
  by_cases hb0 : b.length = 0
  · have hbn : b = [] := List.eq_nil_of_length_eq_zero hb0
    subst hbn
    exact Ev.succ (g := fun _ => some ([], [], 2)) (fun k => by rw [nat_DivMod.j0, if_pos (by rfl)]) (Ev.const _)
  · have hvb : 0 < val b := rb.2.pos hb (by rintro rfl; exact hb0 rfl)
    unfold divS
    rw [if_neg (by omega)]
    have hbe : ((b.length : Int) == 0) = false := beq_false_of_ne (by omega)
    rw [hbe]
    refine Ev.succ (g := fun k => (nat_cmp.f k a b).bind fun t169 => (if t169 < 0 then ((slices_Clone_uint32_uint32.f a).bind fun t170 => (some (([] : List Int), t170, (0 : Int)))) else (if (b.length : Int) = 1 then ((slices_Clone_uint32_uint32.f a).bind fun t173 => (if 0 < (b.length : Int) then ((nat_small.f k t173 (rd b 0)).bind fun bt177 => ((nat_trim.f k bt177.2).bind fun t179 => ((nat_trim.f k (([bt177.1] : List Int))).bind fun t185 => (some (t179, t185, 0))))) else (none))) else ((nat_long.f a b).bind fun bt188 => (some (bt188.1, bt188.2, 0)))))) (fun k => by rw [nat_DivMod.j0, if_neg (by decide)])
      (Ev.bind (cmp_ev ha hb ra.2 rb.2 (by omega)) ?_)
    by_cases hlt : val a < val b
    · rw [show cmpS (val a) (val b) = -1 by unfold cmpS; rw [if_pos hlt]]
      refine Ev.same (Ev.const _) (fun k => ?_)
      rw [if_pos (by decide), clone_f h1, Int.ediv_eq_zero_of_lt va hlt, Int.emod_eq_of_lt va hlt, ← rt_eq ha ra, Int.toNat_zero, limbs_zero]
      rfl
    · have hc : ¬ cmpS (val a) (val b) < 0 := by unfold cmpS; rw [if_neg hlt]; split <;> omega
      by_cases hl1 : b.length = 1
      · obtain ⟨b0, rfl⟩ : ∃ b0, b = [b0] := List.length_eq_one_iff.1 hl1
        have hvb1 : val [b0] = b0 := by simp [val]
        have hb1 : 1 ≤ b0 ∧ b0 < 4294967296 := by
          have h3 := hb b0 (by simp)
          rw [BB_eq] at h3
          rw [hvb1] at hvb
          omega
        rw [hvb1] at hc ⊢
        obtain ⟨L', q, e1, e2, e3, e4, e5, e6⟩ := small_f (a.length + 1) a (by omega) (by omega) ha b0 hb1
        have hq : val a / b0 = val L' ∧ val a % b0 = q := by
          rw [e6]
          constructor
          · rw [Int.add_ediv_of_dvd_left (Int.dvd_mul_left _ _), Int.mul_ediv_cancel _ (show b0 ≠ 0 by omega), Int.ediv_eq_zero_of_lt e4 e5, Int.add_zero]
          · rw [Int.add_comm, Int.add_mul_emod_self_right, Int.emod_eq_of_lt e4 e5]
        have hsm : Ev (fun k => nat_small.f k a b0) (q, L') := ⟨a.length + 1, fun k hk => by
          obtain ⟨L2, q2, f1, f2, f3, f4, f5, f6⟩ := small_f k a (by omega) (by omega) ha b0 hb1
          have hm : LeO (nat_small.f (a.length + 1) a b0) (nat_small.f k a b0) := by
            obtain ⟨d, rfl⟩ := Nat.exists_eq_add_of_le hk
            clear f1 hk
            induction d with
            | zero => exact LeO.refl _
            | succ d ih => exact fun r hr => nat_small.mono a b0 _ r (ih r hr)
          exact hm _ e1⟩
        have hq1 : Lim [q] := Lim.mk ⟨e4, by rw [BB_eq]; omega⟩ Lim.nil
        refine Ev.same (g := fun k => (nat_small.f k a b0).bind fun bt177 => ((nat_trim.f k bt177.2).bind fun t179 => ((nat_trim.f k (([bt177.1] : List Int))).bind fun t185 => (some (t179, t185, (0 : Int)))))) ?_ (fun k => ?_)
        · refine Ev.bind hsm (Ev.bind (trim_ev e3 (show L'.length ≤ _ by omega)) (Ev.bind (trim_ev hq1 (by simp)) ?_))
          rw [hq.1, hq.2, show val [q] = q by simp [val]]
          exact Ev.const _
        · rw [if_neg hc, if_pos (by rfl), clone_f h1, Option.bind_some, if_pos (by simp)]
          rfl
      · refine Ev.same (Ev.const _) (fun k => ?_)
        rw [if_neg hc, if_neg (by omega)]
        have hlen : b.length ≤ a.length := by
          rcases Nat.lt_or_ge a.length b.length with h | h
          · exact absurd (short_lt ha hb rb.2 h) hlt
          · exact h
        unfold nat_long.f
        rw [if_pos ⟨ha, hb, rb.2, by omega, hlen, h1⟩]
        rfl

theorem Of_ev {x : Int} (h0 : 0 ≤ x) (h1 : x < 18446744073709551616) : Ev (fun k => nat_Of.f k x) (limbs x.toNat) := by
  have hl : Lim [x % 4294967296, (x / 4294967296) % 4294967296] := Lim.mk (by rw [BB_eq]; omega) (Lim.mk (by rw [BB_eq]; omega) Lim.nil)
  have hv : val [x % 4294967296, (x / 4294967296) % 4294967296] = x := by simp only [val, BB_eq]; omega
  have ht := trim_ev hl (by simp)
  rw [hv] at ht
  exact Ev.same (Ev.bind ht (Ev.const _)) (fun k => by unfold nat_Of.f; rfl)

/-! ### equality of rows, copies -/
theorem same_l0 (a b : List Int) (hl : a.length = b.length) (hm : a.length ≤ 70368744177664) : ∀ (d i : Nat), i + d = a.length → Ev (fun k => letterbagkit_SameLimbs.l0 k a b (i : Int)) (decide (a.drop i = b.drop i)) := by
  intro d
  induction d with
  | zero =>
    intro i hi
    refine Ev.succ (g := fun _ => some true) (fun k => by rw [letterbagkit_SameLimbs.l0, if_neg (by omega)]) ?_
    rw [List.drop_eq_nil_of_le (by omega), List.drop_eq_nil_of_le (by omega)]
    exact Ev.const _
  | succ d ih =>
    intro i hi
    have e1 : a.drop i = a.getD i 0 :: a.drop (i + 1) := by rw [List.drop_eq_getElem_cons (by omega), List.getD_eq_getElem?_getD, List.getElem?_eq_getElem (by omega)]; rfl
    have e2 : b.drop i = b.getD i 0 :: b.drop (i + 1) := by rw [List.drop_eq_getElem_cons (by omega), List.getD_eq_getElem?_getD, List.getElem?_eq_getElem (by omega)]; rfl
    rw [e1, e2]
    by_cases hc : a.getD i 0 = b.getD i 0
    · refine Ev.succ (g := fun k => letterbagkit_SameLimbs.l0 k a b ((i + 1 : Nat) : Int)) (fun k => ?_) ?_
      · rw [letterbagkit_SameLimbs.l0, if_pos (by omega), if_pos (by omega), if_pos (by omega), rd_eq, rd_eq, if_pos hc, wrap_in (by omega) (by omega)]; rfl
      · have := ih (i + 1) (by omega)
        have e3 : decide (a.drop (i + 1) = b.drop (i + 1)) = decide (a.getD i 0 :: a.drop (i + 1) = b.getD i 0 :: b.drop (i + 1)) := by
          rw [decide_eq_decide, List.cons.injEq]
          exact ⟨fun h => ⟨hc, h⟩, fun h => h.2⟩
        rw [← e3]; exact this
    · refine Ev.succ (g := fun _ => some false) (fun k => ?_) ?_
      · rw [letterbagkit_SameLimbs.l0, if_pos (by omega), if_pos (by omega), if_pos (by omega), rd_eq, rd_eq, if_neg hc]
      · rw [decide_eq_false (fun h => hc (List.cons.inj h).1)]
        exact Ev.const _

theorem same_ev (a b : List Int) (hm : a.length ≤ 70368744177664) : Ev (fun k => letterbaglaw03_same.f k a b) (decide (a = b)) := by
  refine Ev.same (Ev.bind (t := decide (a = b)) ?_ (Ev.const _)) (fun k => by unfold letterbaglaw03_same.f; rfl)
  by_cases hl : a.length = b.length
  · have := same_l0 a b hl hm a.length 0 (by omega)
    rw [List.drop_zero, List.drop_zero] at this
    exact Ev.same this (fun k => by unfold letterbagkit_SameLimbs.f; rw [if_pos (by omega)]; rfl)
  · rw [decide_eq_false (fun h => hl (by rw [h]))]
    exact Ev.same (Ev.const _) (fun k => by unfold letterbagkit_SameLimbs.f; rw [if_neg (by omega)])

/-! ### the laws' numbers -/
end Go.Proofs.YtgpninmfbooijaaDoor.Px

/-
  What nat's functions answer at the limbs of numbers: sums, products, differences, quotients, in plain numbers.
-/
namespace Go.Proofs.YtgpninmfbooijaaDoor.Px
open Go.RowKit Go.Proofs.YtgpninmfbooijaaDoorW.PrintWords Go.Proofs.YtgpninmfbooijaaDoorW.PrintLast Go.Proofs.YtgpninmfbooijaaDoorW.PrintMore Go.Proofs.YtgpninmfbooijaaDoor.Num

/-- A number of so many limbs, no more. -/
def Sz (k n : Nat) : Prop := n < 4294967296 ^ k
theorem Sz.len {k n : Nat} (h : Sz k n) : (limbs n).length ≤ k := limbs_length_le.2 h
theorem Sz.of {k n : Nat} (h : (limbs n).length ≤ k) : Sz k n := limbs_length_le.1 h
theorem Sz.le {j k n : Nat} (h : Sz j n) (hjk : j ≤ k) : Sz k n := Sz.of (Nat.le_trans h.len hjk)
theorem Sz.down {k m n : Nat} (h : Sz k n) (hm : m ≤ n) : Sz k m := Nat.lt_of_le_of_lt hm h
theorem Sz.add {k m n : Nat} (hm : Sz k m) (hn : Sz k n) : Sz (k + 1) (m + n) := by
  unfold Sz at *
  rw [Nat.pow_succ]
  generalize 4294967296 ^ k = P at *
  omega
theorem Sz.mul {j k m n : Nat} (hm : Sz j m) (hn : Sz k n) : Sz (j + k) (m * n) := by
  unfold Sz at *
  rw [Nat.pow_add]
  exact Nat.mul_lt_mul'' hm hn
theorem Sz.zero (k : Nat) : Sz k 0 := Nat.pow_pos (by decide)
theorem Sz.small {n : Nat} (h : n < 18446744073709551616) : Sz 2 n := h

theorem lm (n : Nat) : Lim (limbs n) := (limbs_spec n).1
theorem vl (n : Nat) : val (limbs n) = (n : Int) := (limbs_spec n).2.2
theorem Sz.rt {n : Nat} (h : Sz 1024 n) : Rt (limbs n) := rt_limbs h.len
theorem fitS_ok {n : Nat} (h : Sz 1024 n) : fitS n = (limbs n, 0) := by unfold fitS; rw [if_pos h.len]

theorem Mul_n {m n : Nat} (hm : Sz 1024 m) (hn : Sz 1024 n) : Ev (fun k => nat_Mul.f k (limbs m) (limbs n)) (fitS (m * n)) := by
  have h := Mul_ev (lm m) (lm n) hm.rt hn.rt
  rw [vl m, vl n, ← Int.natCast_mul, Int.toNat_natCast] at h
  exact h
theorem Mul_ok {m n : Nat} (hm : Sz 1024 m) (hn : Sz 1024 n) (h : Sz 1024 (m * n)) : Ev (fun k => nat_Mul.f k (limbs m) (limbs n)) (limbs (m * n), 0) := by
  have := Mul_n hm hn
  rw [fitS_ok h] at this
  exact this
theorem Sub_n {m n : Nat} (hm : Sz 1024 m) (hn : Sz 1024 n) : Ev (fun k => nat_Sub.f k (limbs m) (limbs n)) (if m < n then ([], 2) else (limbs (m - n), 0)) := by
  have h := sub_ev (lm m) (lm n) hm.rt hn.rt
  rw [vl m, vl n] at h
  unfold subS at h
  by_cases hc : m < n
  · rw [if_pos hc]; rw [if_pos (by omega)] at h; exact h
  · rw [if_neg hc]; rw [if_neg (by omega), show ((m : Int) - n).toNat = m - n by omega] at h; exact h
theorem Sub_no {m n : Nat} (hn : Sz 1024 n) (h : m < n) : Ev (fun k => nat_Sub.f k (limbs m) (limbs n)) ([], 2) := by
  have := Sub_n (hn.down (Nat.le_of_lt h)) hn
  rw [if_pos h] at this
  exact this
theorem DivMod_ok {m n : Nat} (hm : Sz 1024 m) (hn : Sz 1024 n) (h : n ≠ 0) : Ev (fun k => nat_DivMod.f k (limbs m) (limbs n)) (limbs (m / n), limbs (m % n), 0) := by
  have := DivMod_ev (lm m) (lm n) hm.rt hn.rt
  rw [vl m, vl n] at this
  unfold divS at this
  rw [if_neg (by omega), ← Int.natCast_ediv, ← Int.natCast_emod, Int.toNat_natCast, Int.toNat_natCast] at this
  exact this
theorem Of_n {x : Nat} (h : x < 18446744073709551616) : Ev (fun k => nat_Of.f k (x : Int)) (limbs x) := by
  have := Of_ev (x := (x : Int)) (by omega) (by omega)
  rw [Int.toNat_natCast] at this
  exact this

/-- What Cmp answers. -/
def cmpN (m n : Nat) : Int := if m < n then -1 else if n < m then 1 else 0
theorem cmpN_eq (m n : Nat) : cmpS (m : Int) (n : Int) = cmpN m n := by
  unfold cmpS cmpN
  simp only [Int.ofNat_lt]
theorem same_n {m n : Nat} (hm : Sz 1024 m) : Ev (fun k => letterbaglaw03_same.f k (limbs m) (limbs n)) (decide (m = n)) := by
  have h1 := hm.len
  have := same_ev (limbs m) (limbs n) (by omega)
  have e : decide (limbs m = limbs n) = decide (m = n) := by rw [decide_eq_decide]; exact ⟨limbs_inj, fun h => by rw [h]⟩
  rw [e] at this
  exact this
theorem Text_n {m : Nat} (hm : Sz 1024 m) : nat_Text.f (limbs m) = some (textS m, 0) := by
  unfold nat_Text.f
  rw [if_pos (lm m), if_pos hm.rt, vl m, Int.toNat_natCast]
theorem Right_n {m : Nat} (hm : Sz 1024 m) : nat_Right.f (limbs m) = some true := right_yes hm.rt
/-! ### steps of a law -/
theorem Ev.step {α : Type} {f : Nat → Option α} {r : α} (h : Ev (fun k => f (k + 1)) r) : Ev f r := Ev.succ (fun _ => rfl) h
theorem Ev.bind_eq {α β : Type} {g : Option α} {h : Nat → α → Option β} {t : α} {r : β} (hg : g = some t) (hh : Ev (fun k => h k t) r) : Ev (fun k => g.bind (h k)) r := by
  subst hg; exact hh
theorem Ev.pos {α : Type} {c : Prop} [Decidable c] {f g : Nat → Option α} {r : α} (hc : c) (h : Ev f r) : Ev (fun k => if c then f k else g k) r := Ev.same h (fun _ => if_pos hc)
theorem Ev.neg {α : Type} {c : Prop} [Decidable c] {f g : Nat → Option α} {r : α} (hc : ¬ c) (h : Ev g r) : Ev (fun k => if c then f k else g k) r := Ev.same h (fun _ => if_neg hc)
theorem Ev.done {α : Type} {x r : α} (h : x = r) : Ev (fun _ => some x) r := by subst h; exact Ev.const _
theorem wrap0 : wrap64 0 = 0 := wrap_in (by omega) (by omega)
theorem lim_of {l : List Int} (h : ∀ x ∈ l, (Lit.int .u32 x).wf = true) : Lim l := by
  intro x hx
  have := bounds_u32 (h x hx)
  rw [BB_eq]
  omega
end Go.Proofs.YtgpninmfbooijaaDoor.Px
