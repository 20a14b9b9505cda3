/-
  The reference's bits: trim, the bits of limbs, comparison, differences, sums, products, in plain numbers.
-/
import Derived.Test.YtgpninmfbooijaaDoorAwake
import Derived.Test.YtgpninmfbooijaaDoorBit
import Derived.Test.YtgpninmfbooijaaDoorPx9
import Derived.Test.YtgpninmfbooijaaDoorPx10
import Derived.Test.YtgpninmfbooijaaDoorPx11
import Derived.Test.YtgpninmfbooijaaDoorPx12
import Derived.Test.YtgpninmfbooijaaDoorPx13
namespace Go.Proofs.YtgpninmfbooijaaDoor.Px
open Go.RowKit Go.Proofs.YtgpninmfbooijaaDoorW.PrintWords Go.Proofs.YtgpninmfbooijaaDoorW.PrintLast Go.Proofs.YtgpninmfbooijaaDoorW.PrintMore Go.Proofs.YtgpninmfbooijaaDoor.Num

theorem rtrim_l0 (d : Nat) : ∀ (k : Nat) (l : List Int), l.length = d → d < k → d ≤ 9223372036854775807 →
    ∃ m, letterbagref03_trim.l0 k l = some (l.take m) ∧ m ≤ l.length ∧ (∀ j, m ≤ j → j < l.length → l.getD j 0 = 0) ∧ (0 < m → l.getD (m - 1) 0 ≠ 0) := by
  induction d with
  | zero =>
    intro k l hl hk _
    obtain ⟨k, rfl⟩ : ∃ m, k = m + 1 := ⟨k - 1, by omega⟩
    refine ⟨0, ?_, by omega, fun j _ _ => by omega, fun h => by omega⟩
    simp only [letterbagref03_trim.l0]
    rw [if_neg (by omega)]
    rw [List.eq_nil_of_length_eq_zero hl]; rfl
  | succ d ih =>
    intro k l hl hk hm
    obtain ⟨k, rfl⟩ : ∃ m, k = m + 1 := ⟨k - 1, by omega⟩
    have hw : wrap64 ((l.length : Int) - 1) = ((d : Nat) : Int) := by rw [wrap_in (by omega) (by omega)]; omega
    simp only [letterbagref03_trim.l0]
    rw [hw, if_pos (by omega), if_pos (by omega), if_pos (by omega), rd_eq]
    by_cases h0 : l.getD d 0 = 0
    · rw [if_pos h0, if_pos (by omega)]
      obtain ⟨m, e, h1, h2, h3⟩ := ih k (l.take d) (by rw [List.length_take]; omega) (by omega) (by omega)
      simp only [Int.toNat_natCast]
      rw [List.length_take] at h1 h2
      have hg : ∀ j, j < d → (l.take d).getD j 0 = l.getD j 0 := fun j hj => by
        simp [List.getD_eq_getElem?_getD, hj]
      refine ⟨m, ?_, by omega, fun j hj hl2 => ?_, fun hm0 => ?_⟩
      · rw [e, List.take_take, Nat.min_eq_left (by omega)]
      · rcases Nat.lt_or_ge j d with hjd | hjd
        · rw [← hg j hjd]; exact h2 j hj (by omega)
        · have : j = d := by omega
          rw [this]; exact h0
      · rw [← hg (m - 1) (by omega)]; exact h3 hm0
    · rw [if_neg h0]
      refine ⟨l.length, by rw [List.take_length], Nat.le_refl _, fun j _ _ => by omega, fun _ => ?_⟩
      have : l.length - 1 = d := by omega
      rw [this]; exact h0

/-- Bits without zeros at the end are the bits of their number. -/
theorem rtrim_ev {l : List Int} (h : Bit.Lim l) (hm : l.length ≤ 9223372036854775807) : Ev (fun k => letterbagref03_trim.f k l) (Bit.limbs (Bit.val l).toNat) := by
  refine Ev.of (l.length + 1) (fun k hk => ?_)
  unfold letterbagref03_trim.f
  obtain ⟨m, e, h1, h2, h3⟩ := rtrim_l0 l.length k l rfl (by omega) hm
  rw [e, Bit.trim_limbs h m h1 h2 h3]

theorem blm (n : Nat) : Bit.Lim (Bit.limbs n) := (Bit.limbs_spec n).1
theorem bvl (n : Nat) : Bit.val (Bit.limbs n) = (n : Int) := (Bit.limbs_spec n).2.2
theorem bit_lim {x : Int} (h0 : 0 ≤ x) (h1 : x < 2) : 0 ≤ x ∧ x < Bit.BB := by rw [Bit.BB_eq]; exact ⟨h0, h1⟩
theorem bit_snoc {l : List Int} (x : Int) : Bit.val (l ++ [x]) = Bit.val l + Bit.BB ^ l.length * x := by
  rw [Bit.val_append, Bit.val_cons, Bit.val_nil, Int.mul_zero, Int.add_zero]
theorem bit_lim_snoc {l : List Int} {x : Int} (h : Bit.Lim l) (h0 : 0 ≤ x) (h1 : x < 2) : Bit.Lim (l ++ [x]) := h.append (Bit.Lim.mk (bit_lim h0 h1) Bit.Lim.nil)

theorem at_f (l : List Int) (i : Nat) : letterbagref03_at.f l (i : Int) = some (l.getD i 0) := by
  unfold letterbagref03_at.f
  by_cases h : i < l.length
  · rw [if_pos (by omega), if_pos (by omega), rd_eq]
  · rw [if_neg (by omega), List.getD_eq_getElem?_getD, List.getElem?_eq_none (by omega)]; rfl

/-! ### sums -/
theorem radd_l0 (a b : List Int) (u : Nat) (ha : Bit.Lim a) (hb : Bit.Lim b) (hs : a.length + b.length + u ≤ 1000000000) :
    ∀ (d i : Nat) (L : List Int) (c : Int), max a.length (b.length + u) + 1 - i = d → i ≤ max a.length (b.length + u) + 1 → L.length = i → Bit.Lim L → 0 ≤ c → c ≤ 1 → (i = max a.length (b.length + u) + 1 → c = 0) →
      Bit.val L + Bit.BB ^ i * c = Bit.val (a.take i) + Bit.BB ^ u * Bit.val (b.take (i - u)) →
      Ev (fun k => letterbagref03_add.l0 k a b (u : Int) L c (i : Int)) (Bit.limbs (Bit.val a + Bit.BB ^ u * Bit.val b).toNat) := by
  intro d
  induction d with
  | zero =>
    intro i L c hd hi hL hLL c0 c1 hc hv
    have hie : i = max a.length (b.length + u) + 1 := by omega
    have hc0 := hc hie
    subst hc0
    have fin : Ev (fun k => letterbagref03_add.j1 k a b (u : Int) L 0 (i : Int) false) (Bit.limbs (Bit.val a + Bit.BB ^ u * Bit.val b).toNat) := by
      refine Ev.step ?_
      simp only [letterbagref03_add.j1]
      refine Ev.neg (by decide) (Ev.bind (rtrim_ev hLL (by omega)) (Ev.done ?_))
      rw [Int.mul_zero, Int.add_zero, List.take_of_length_le (by omega), List.take_of_length_le (by omega)] at hv
      rw [hv]
    refine Ev.step ?_
    simp only [letterbagref03_add.l0]
    refine Ev.neg (by omega) (Ev.neg (by rw [wrap_in (by omega) (by omega)]; omega) ?_)
    exact fin
  | succ d ih =>
    intro i L c hd hi hL hLL c0 c1 hc hv
    have hx := ha.getD i
    have hy := hb.getD (i - u)
    rw [Bit.BB_eq] at hx hy
    have hto := Bit.val_take_more a i
    have hP : (0 : Int) < Bit.BB ^ i := Bit.pow_pos i
    have go : ∀ (n : Int), n = a.getD i 0 + c + (if u ≤ i then b.getD (i - u) 0 else 0) →
        Ev (fun k => letterbagref03_add.l0 k a b (u : Int) (L ++ [n % 2]) (n / 2) ((i + 1 : Nat) : Int)) (Bit.limbs (Bit.val a + Bit.BB ^ u * Bit.val b).toNat) := by
      intro n hn
      have hn0 : 0 ≤ n ∧ n ≤ 3 := by split at hn <;> omega
      refine ih (i + 1) (L ++ [n % 2]) (n / 2) (by omega) (by omega) (by rw [List.length_append, hL]; rfl) (bit_lim_snoc hLL (by omega) (by omega)) (by omega) (by omega) (fun hie => ?_) ?_
      · have z1 : a.getD i 0 = 0 := by rw [List.getD_eq_getElem?_getD, List.getElem?_eq_none (by omega)]; rfl
        have z2 : b.getD (i - u) 0 = 0 := by rw [List.getD_eq_getElem?_getD, List.getElem?_eq_none (by omega)]; rfl
        rw [z1, z2] at hn
        split at hn <;> omega
      · rw [bit_snoc, hL, Bit.pow_succ', Bit.BB_eq] at *
        have hdm := Int.mul_ediv_add_emod n 2
        by_cases hu : u ≤ i
        · rw [if_pos hu] at hn
          have hto2 := Bit.val_take_more b (i - u)
          rw [show i + 1 - u = i - u + 1 by omega, hto2, hto, Bit.BB_eq]
          have he : (2 : Int) ^ u * 2 ^ (i - u) = 2 ^ i := by rw [← Int.pow_add]; congr 1; omega
          have e1 : (2 : Int) ^ u * (Bit.val (b.take (i - u)) + 2 ^ (i - u) * b.getD (i - u) 0) = 2 ^ u * Bit.val (b.take (i - u)) + 2 ^ i * b.getD (i - u) 0 := by rw [Int.mul_add, ← Int.mul_assoc, he]
          rw [e1]
          generalize (2 : Int) ^ i = P at *
          generalize (2 : Int) ^ u * Bit.val (b.take (i - u)) = Q at *
          generalize a.getD i 0 = x at *
          generalize b.getD (i - u) 0 = y at *
          have e2 : Bit.val L + P * (n % 2) + 2 * P * (n / 2) = Bit.val L + P * n := by
            have : P * (2 * (n / 2) + n % 2) = P * n := by rw [hdm]
            grind
          rw [e2, hn]
          grind
        · rw [if_neg hu] at hn
          rw [show i + 1 - u = 0 by omega, show i - u = 0 by omega] at *
          rw [hto]
          generalize (2 : Int) ^ i = P at *
          generalize (2 : Int) ^ u * Bit.val (List.take 0 b) = Q at *
          generalize a.getD i 0 = x at *
          have e2 : Bit.val L + P * (n % 2) + 2 * P * (n / 2) = Bit.val L + P * n := by
            have : P * (2 * (n / 2) + n % 2) = P * n := by rw [hdm]
            grind
          rw [e2, hn]
          grind
    have step : Ev (fun k => letterbagref03_add.j1 k a b (u : Int) L c (i : Int) true) (Bit.limbs (Bit.val a + Bit.BB ^ u * Bit.val b).toNat) := by
      refine Ev.step ?_
      simp only [letterbagref03_add.j1]
      refine Ev.pos trivial (Ev.bind_eq (at_f a i) ?_)
      by_cases hu : u ≤ i
      · have h := go (a.getD i 0 + c + b.getD (i - u) 0) (by rw [if_pos hu])
        refine Ev.pos (by omega) ?_
        rw [wrap_in (x := (i : Int) - (u : Int)) (by omega) (by omega), show (i : Int) - (u : Int) = ((i - u : Nat) : Int) by omega]
        refine Ev.bind_eq (at_f b (i - u)) (Ev.pos (by omega) ?_)
        rw [wrap_in (x := a.getD i 0 + c) (by omega) (by omega), wrap_in (x := a.getD i 0 + c + b.getD (i - u) 0) (by omega) (by omega), Int.tmod_eq_emod_of_nonneg (by omega), Int.tdiv_eq_ediv_of_nonneg (by omega), wrap_in (x := (a.getD i 0 + c + b.getD (i - u) 0) / 2) (by omega) (by omega), wrap_in (x := (i : Int) + 1) (by omega) (by omega)]
        exact h
      · have h := go (a.getD i 0 + c) (by rw [if_neg hu, Int.add_zero])
        refine Ev.neg (by omega) (Ev.pos (by omega) ?_)
        rw [wrap_in (x := a.getD i 0 + c) (by omega) (by omega), Int.tmod_eq_emod_of_nonneg (by omega), Int.tdiv_eq_ediv_of_nonneg (by omega), wrap_in (x := (a.getD i 0 + c) / 2) (by omega) (by omega), wrap_in (x := (i : Int) + 1) (by omega) (by omega)]
        exact h
    refine Ev.step ?_
    simp only [letterbagref03_add.l0]
    by_cases h1 : i < a.length
    · exact Ev.pos (by omega) step
    · refine Ev.neg (by omega) ?_
      by_cases h2 : i < b.length + u
      · exact Ev.pos (by rw [wrap_in (by omega) (by omega)]; omega) step
      · refine Ev.neg (by rw [wrap_in (by omega) (by omega)]; omega) ?_
        by_cases hc1 : 0 < c
        · rw [decide_eq_true hc1]; exact step
        · have hc0 : c = 0 := by omega
          subst hc0
          rw [decide_eq_false (by omega)]
          refine Ev.step ?_
          simp only [letterbagref03_add.j1]
          refine Ev.neg (by decide) (Ev.bind (rtrim_ev hLL (by omega)) (Ev.done ?_))
          rw [Int.mul_zero, Int.add_zero, List.take_of_length_le (by omega), List.take_of_length_le (by omega)] at hv
          rw [hv]

theorem radd_ev {a b : List Int} (u : Nat) (ha : Bit.Lim a) (hb : Bit.Lim b) (hs : a.length + b.length + u ≤ 1000000000) : Ev (fun k => letterbagref03_add.f k a b (u : Int)) (Bit.limbs (Bit.val a + Bit.BB ^ u * Bit.val b).toNat) := by
  unfold letterbagref03_add.f
  exact radd_l0 a b u ha hb hs _ 0 [] 0 rfl (by omega) rfl Bit.Lim.nil (by omega) (by omega) (by omega) (by simp [Bit.val])
end Go.Proofs.YtgpninmfbooijaaDoor.Px

/-
  The reference's bits: comparison, differences, products, quotients.
-/
namespace Go.Proofs.YtgpninmfbooijaaDoor.Px
open Go.RowKit Go.Proofs.YtgpninmfbooijaaDoorW.PrintWords Go.Proofs.YtgpninmfbooijaaDoorW.PrintLast Go.Proofs.YtgpninmfbooijaaDoorW.PrintMore Go.Proofs.YtgpninmfbooijaaDoor.Num

theorem two_pow (n : Nat) : Bit.BB ^ n = ((2 ^ n : Nat) : Int) := by rw [Bit.BB_eq]; simp

theorem rshort_lt {a b : List Int} (ha : Bit.Lim a) (hb : Bit.Lim b) (tb : Bit.Tight b) (h : a.length < b.length) : Bit.val a < Bit.val b := by
  have h1 := Bit.val_lt ha
  obtain ⟨n, hn⟩ : ∃ n, b.length = n + 1 := ⟨b.length - 1, by omega⟩
  have h2 := Bit.pow_le_val hb n hn (tb n hn)
  have h3 : Bit.BB ^ a.length ≤ Bit.BB ^ n := by
    obtain ⟨d, rfl⟩ := Nat.exists_eq_add_of_le (show a.length ≤ n by omega)
    rw [Int.pow_add]
    exact le_mul_one (Int.le_of_lt (Bit.pow_pos _)) (Bit.pow_pos d)
  omega

theorem rcmp_l0 (a b : List Int) (ha : Bit.Lim a) (hb : Bit.Lim b) (hl : a.length = b.length) (hm : a.length ≤ 70368744177664) : ∀ m : Nat, m ≤ a.length → Ev (fun k => letterbagref03_cmp.l0 k a b ((m : Int) - 1)) (cmpS (Bit.val (a.take m)) (Bit.val (b.take m))) := by
  intro m
  induction m with
  | zero =>
    intro _
    refine Ev.succ (g := fun _ => some 0) (fun k => ?_) (Ev.const _)
    rw [letterbagref03_cmp.l0, if_neg (by omega)]
  | succ m ih =>
    intro hma
    have hx := ha.getD m
    have hy := hb.getD m
    have hva := Bit.val_nonneg (ha.take m)
    have hvb := Bit.val_nonneg (hb.take m)
    have hla := Bit.val_lt (ha.take m)
    have hlb := Bit.val_lt (hb.take m)
    have hP := Bit.pow_pos m
    rw [List.length_take, Nat.min_eq_left (by omega)] at hla hlb
    rw [Bit.BB_eq] at hx hy
    rw [Bit.val_take_succ a m (by omega), Bit.val_take_succ b m (by omega)]
    have key : cmpS (Bit.val (a.take m) + Bit.BB ^ m * a.getD m 0) (Bit.val (b.take m) + Bit.BB ^ m * b.getD m 0) = if a.getD m 0 = b.getD m 0 then cmpS (Bit.val (a.take m)) (Bit.val (b.take m)) else a.getD m 0 - b.getD m 0 := by
      generalize a.getD m 0 = x at *
      generalize b.getD m 0 = y at *
      unfold cmpS
      by_cases h3 : x = y
      · subst h3
        rw [if_pos rfl]
        simp only [Int.add_lt_add_iff_right]
      · rw [if_neg h3]
        rcases (show (x = 0 ∧ y = 1) ∨ (x = 1 ∧ y = 0) by omega) with ⟨rfl, rfl⟩ | ⟨rfl, rfl⟩
        · rw [if_pos (by omega)]; rfl
        · rw [if_neg (by omega), if_pos (by omega)]; rfl
    rw [key]
    have hstep : ∀ k, letterbagref03_cmp.l0 (k + 1) a b (((m + 1 : Nat) : Int) - 1) = if a.getD m 0 = b.getD m 0 then letterbagref03_cmp.l0 k a b ((m : Int) - 1) else some (a.getD m 0 - b.getD m 0) := fun k => by
      rw [show (((m + 1 : Nat) : Int) - 1) = (m : Int) by omega, letterbagref03_cmp.l0, if_pos (by omega), if_pos (by omega), if_pos (by omega), if_pos (by omega), rd_eq, rd_eq, wrap_in (x := (m : Int) - 1) (by omega) (by omega), wrap_in (by omega) (by omega)]
    by_cases h1 : a.getD m 0 = b.getD m 0
    · rw [if_pos h1]
      exact Ev.succ (fun k => by rw [hstep, if_pos h1]) (ih (by omega))
    · rw [if_neg h1]
      exact Ev.succ (g := fun _ => some (a.getD m 0 - b.getD m 0)) (fun k => by rw [hstep, if_neg h1]) (Ev.const _)

theorem rcmp_ev {a b : List Int} (ha : Bit.Lim a) (hb : Bit.Lim b) (ta : Bit.Tight a) (tb : Bit.Tight b) (hm : a.length ≤ 70368744177664) : Ev (fun k => letterbagref03_cmp.f k a b) (cmpS (Bit.val a) (Bit.val b)) := by
  unfold letterbagref03_cmp.f
  by_cases hl : a.length = b.length
  · have := rcmp_l0 a b ha hb hl hm a.length (Nat.le_refl _)
    rw [List.take_of_length_le (Nat.le_refl _), List.take_of_length_le (by omega)] at this
    refine Ev.pos (by omega) ?_
    rw [wrap_in (by omega) (by omega)]
    exact this
  · refine Ev.neg (by omega) ?_
    by_cases hs : a.length < b.length
    · have h := rshort_lt ha hb tb hs
      refine Ev.pos (by omega) (Ev.done ?_)
      unfold cmpS; rw [if_pos h]
    · have h := rshort_lt hb ha ta (by omega)
      refine Ev.neg (by omega) (Ev.done ?_)
      unfold cmpS; rw [if_neg (by omega), if_pos h]

theorem rcmp_n (m n : Nat) (hm : (Bit.limbs m).length ≤ 70368744177664) : Ev (fun k => letterbagref03_cmp.f k (Bit.limbs m) (Bit.limbs n)) (cmpN m n) := by
  have := rcmp_ev (blm m) (blm n) (Bit.limbs_spec m).2.1 (Bit.limbs_spec n).2.1 hm
  rw [bvl, bvl, cmpN_eq] at this
  exact this

/-! ### differences -/
theorem rsub_l0 (a b : List Int) (ha : Bit.Lim a) (hb : Bit.Lim b) (hm : a.length ≤ 1000000000) (hbl : b.length ≤ a.length) (hge : Bit.val b ≤ Bit.val a) :
    ∀ (d i : Nat) (L : List Int) (o : Int), i + d = a.length → L.length = i → Bit.Lim L → 0 ≤ o → o ≤ 1 →
      Bit.val L - Bit.BB ^ i * o = Bit.val (a.take i) - Bit.val (b.take i) →
      Ev (fun k => letterbagref03_sub.l0 k a b L o (i : Int)) (Bit.limbs (Bit.val a - Bit.val b).toNat) := by
  intro d
  induction d with
  | zero =>
    intro i L o hi hL hLL h0 h1 hv
    rw [List.take_of_length_le (by omega), List.take_of_length_le (by omega)] at hv
    have hlt := Bit.val_lt hLL
    rw [hL] at hlt
    have ho : o = 0 := by
      rcases (show o = 0 ∨ o = 1 by omega) with h | h
      · exact h
      · rw [h, Int.mul_one] at hv; omega
    subst ho
    rw [Int.mul_zero, Int.sub_zero] at hv
    refine Ev.step ?_
    simp only [letterbagref03_sub.l0]
    refine Ev.neg (by omega) (Ev.bind (rtrim_ev hLL (by omega)) (Ev.done ?_))
    rw [hv]
  | succ d ih =>
    intro i L o hi hL hLL h0 h1 hv
    have hx := ha.getD i
    have hy := hb.getD i
    rw [Bit.BB_eq] at hx hy
    have hto := Bit.val_take_more a i
    have hto2 := Bit.val_take_more b i
    refine Ev.step ?_
    simp only [letterbagref03_sub.l0]
    refine Ev.pos (by omega) (Ev.pos (by omega) (Ev.bind_eq (at_f b i) (Ev.pos (by omega) ?_)))
    rw [rd_eq]
    generalize hA : a.getD i 0 = x at *
    generalize hB : b.getD i 0 = y at *
    rw [wrap_in (x := 2 + x) (by omega) (by omega), wrap_in (x := 2 + x - y) (by omega) (by omega), wrap_in (x := 2 + x - y - o) (by omega) (by omega), Int.tmod_eq_emod_of_nonneg (by omega), Int.tdiv_eq_ediv_of_nonneg (by omega), wrap_in (x := (2 + x - y - o) / 2) (by omega) (by omega), wrap_in (x := 1 - (2 + x - y - o) / 2) (by omega) (by omega), wrap_in (x := (i : Int) + 1) (by omega) (by omega)]
    refine ih (i + 1) (L ++ [(2 + x - y - o) % 2]) (1 - (2 + x - y - o) / 2) (by omega) (by rw [List.length_append, hL]; rfl) (bit_lim_snoc hLL (by omega) (by omega)) (by omega) (by omega) ?_
    rw [bit_snoc, hto, hto2, Bit.pow_succ', hL]
    have hdm := Int.mul_ediv_add_emod (2 + x - y - o) 2
    rw [Bit.BB_eq] at *
    generalize (2 + x - y - o) / 2 = q at *
    generalize (2 + x - y - o) % 2 = r at *
    generalize (2 : Int) ^ i = P at *
    have e : r = 2 + x - y - o - 2 * q := by omega
    subst e
    grind

theorem rsub_n {m n : Nat} (h : n ≤ m) (hm : (Bit.limbs m).length ≤ 1000000000) : Ev (fun k => letterbagref03_sub.f k (Bit.limbs m) (Bit.limbs n)) (Bit.limbs (m - n)) := by
  have hl : (Bit.limbs n).length ≤ (Bit.limbs m).length := Bit.limbs_length_le.2 (Nat.lt_of_le_of_lt h (Bit.limbs_length_le.1 (Nat.le_refl _)))
  have := rsub_l0 (Bit.limbs m) (Bit.limbs n) (blm m) (blm n) hm hl (by rw [bvl, bvl]; omega) (Bit.limbs m).length 0 [] 0 (by omega) rfl Bit.Lim.nil (by omega) (by omega) (by simp [Bit.val])
  rw [bvl, bvl, show ((m : Int) - n).toNat = m - n by omega] at this
  unfold letterbagref03_sub.f
  exact this

/-! ### sums, products -/
theorem radd_n (m n u : Nat) (hs : (Bit.limbs m).length + (Bit.limbs n).length + u ≤ 1000000000) : Ev (fun k => letterbagref03_add.f k (Bit.limbs m) (Bit.limbs n) (u : Int)) (Bit.limbs (m + 2 ^ u * n)) := by
  have := radd_ev u (blm m) (blm n) hs
  rw [bvl, bvl, two_pow, ← Int.natCast_mul, ← Int.natCast_add, Int.toNat_natCast] at this
  exact this

theorem rmul_l0 (a : List Int) (n : Nat) (ha : Bit.Lim a) (hs : a.length + (Bit.limbs n).length ≤ 100000000) :
    ∀ (d i : Nat), i + d = a.length → Ev (fun k => letterbagref03_mul.l0 k a (Bit.limbs n) (Bit.limbs ((Bit.val (a.take i)).toNat * n)) (i : Int)) (Bit.limbs ((Bit.val a).toNat * n)) := by
  intro d
  induction d with
  | zero =>
    intro i hi
    refine Ev.step ?_
    simp only [letterbagref03_mul.l0]
    refine Ev.neg (by omega) (Ev.done ?_)
    rw [List.take_of_length_le (by omega)]
  | succ d ih =>
    intro i hi
    have hx := ha.getD i
    rw [Bit.BB_eq] at hx
    have hto := Bit.val_take_more a i
    have h0 := Bit.val_nonneg (ha.take i)
    have hlt := Bit.val_lt (ha.take i)
    rw [List.length_take, Nat.min_eq_left (by omega), two_pow] at hlt
    have h := ih (i + 1) (by omega)
    refine Ev.step ?_
    simp only [letterbagref03_mul.l0]
    refine Ev.pos (by omega) (Ev.pos (by omega) ?_)
    rw [rd_eq, wrap_in (x := (i : Int) + 1) (by omega) (by omega)]
    have hlen : (Bit.limbs ((Bit.val (a.take i)).toNat * n)).length ≤ i + (Bit.limbs n).length := by
      rw [Bit.limbs_length_le, Nat.pow_add]
      have h1 : (Bit.val (a.take i)).toNat < 2 ^ i := by omega
      have h2 : n < 2 ^ (Bit.limbs n).length := Bit.limbs_length_le.1 (Nat.le_refl _)
      exact Nat.mul_lt_mul'' h1 h2
    by_cases h1 : a.getD i 0 = 1
    · refine Ev.pos h1 (Ev.bind (radd_n _ n i (by omega)) ?_)
      rw [h1, Int.mul_one, two_pow] at hto
      have e : (Bit.val (a.take i)).toNat * n + 2 ^ i * n = (Bit.val (a.take (i + 1))).toNat * n := by
        rw [← Nat.add_mul]
        congr 1
        omega
      rw [e]
      exact h
    · have hz : a.getD i 0 = 0 := by omega
      refine Ev.neg h1 ?_
      rw [hz, Int.mul_zero, Int.add_zero] at hto
      rw [hto] at h
      exact h

theorem rmul_n (m n : Nat) (hs : (Bit.limbs m).length + (Bit.limbs n).length ≤ 100000000) : Ev (fun k => letterbagref03_mul.f k (Bit.limbs m) (Bit.limbs n)) (Bit.limbs (m * n)) := by
  have := rmul_l0 (Bit.limbs m) n (blm m) hs (Bit.limbs m).length 0 (by omega)
  rw [List.take_zero, Bit.val_nil, Int.toNat_zero, Nat.zero_mul, Bit.limbs_zero, bvl, Int.toNat_natCast] at this
  unfold letterbagref03_mul.f
  exact this
end Go.Proofs.YtgpninmfbooijaaDoor.Px

/-
  The reference's bits: quotients, the bits of limbs, the limbs of bits, texts, powers.
-/
namespace Go.Proofs.YtgpninmfbooijaaDoor.Px
open Go.RowKit Go.Proofs.YtgpninmfbooijaaDoorW.PrintWords Go.Proofs.YtgpninmfbooijaaDoorW.PrintLast Go.Proofs.YtgpninmfbooijaaDoorW.PrintMore Go.Proofs.YtgpninmfbooijaaDoor.Num

theorem brtrim_n {l : List Int} (h : Bit.Lim l) (hm : l.length ≤ 9223372036854775807) {n : Nat} (hv : Bit.val l = n) : Ev (fun k => letterbagref03_trim.f k l) (Bit.limbs n) := by
  have := rtrim_ev h hm
  rw [hv, Int.toNat_natCast] at this
  exact this
theorem bit_len {m n : Nat} (h : m ≤ n) : (Bit.limbs m).length ≤ (Bit.limbs n).length := Bit.limbs_length_le.2 (Nat.lt_of_le_of_lt h (Bit.limbs_length_le.1 (Nat.le_refl _)))

/-! ### quotients: from the highest bit on -/
/-- What is left of the dividend from bit i on, and its quotient. -/
theorem rdiv_l0 (a n : Nat) (hn : 0 < n) (hs : (Bit.limbs a).length + (Bit.limbs n).length ≤ 100000000) :
    ∀ (i : Nat) (Q : List Int), i ≤ (Bit.limbs a).length → Q.length = (Bit.limbs a).length → Bit.Lim Q → Bit.val Q = ((a / 2 ^ i / n * 2 ^ i : Nat) : Int) → (∀ j, j < i → Q.getD j 0 = 0) →
      Ev (fun k => letterbagref03_divmod.l0 k (Bit.limbs a) (Bit.limbs n) Q (Bit.limbs (a / 2 ^ i % n)) ((i : Int) - 1)) (Bit.limbs (a / n), Bit.limbs (a % n)) := by
  intro i
  induction i with
  | zero =>
    intro Q _ hQl hQ hv hz
    rw [Nat.pow_zero, Nat.div_one, Nat.mul_one] at hv
    refine Ev.step ?_
    simp only [letterbagref03_divmod.l0]
    refine Ev.neg (by omega) (Ev.bind (brtrim_n hQ (by omega) hv) (Ev.done ?_))
    rw [Nat.pow_zero, Nat.div_one]
  | succ i ih =>
    intro Q hi hQl hQ hv hz
    have hlen : (Bit.limbs (a / 2 ^ (i + 1) % n)).length ≤ (Bit.limbs n).length := bit_len (Nat.le_of_lt (Nat.mod_lt _ hn))
    have hx := (blm a).getD i
    rw [Bit.BB_eq] at hx
    -- the dividend from bit i on
    have hbit : a / 2 ^ i = 2 * (a / 2 ^ (i + 1)) + ((Bit.limbs a).getD i 0).toNat := by
      have e1 := Bit.val_split (Bit.limbs a) i (by omega)
      have e2 := Bit.val_drop_succ (Bit.limbs a) i (by omega)
      have e3 := Bit.val_split (Bit.limbs a) (i + 1) (by omega)
      have t1 := Bit.val_lt ((blm a).take i)
      have t2 := Bit.val_lt ((blm a).take (i + 1))
      have t3 := Bit.val_nonneg ((blm a).take i)
      have t4 := Bit.val_nonneg ((blm a).take (i + 1))
      have t5 := Bit.val_nonneg ((blm a).drop (i + 1))
      have t6 := Bit.val_nonneg ((blm a).drop i)
      rw [List.length_take, Nat.min_eq_left (by omega), two_pow] at t1 t2
      rw [bvl, two_pow] at e1 e3
      rw [Bit.BB_eq] at e2
      obtain ⟨u, hu⟩ := Int.eq_ofNat_of_zero_le t6
      obtain ⟨v, hvv⟩ := Int.eq_ofNat_of_zero_le t5
      obtain ⟨p, hp⟩ := Int.eq_ofNat_of_zero_le t3
      obtain ⟨q, hq⟩ := Int.eq_ofNat_of_zero_le t4
      rw [hu, hp, ← Int.natCast_mul, ← Int.natCast_add] at e1
      rw [hvv, hq, ← Int.natCast_mul, ← Int.natCast_add] at e3
      rw [hu, hvv] at e2
      rw [hp] at t1
      rw [hq] at t2
      have e1 := Int.ofNat.inj e1
      have e3 := Int.ofNat.inj e3
      have d1 : a / 2 ^ i = u := by
        rw [e1, Nat.add_mul_div_left _ _ (Nat.pow_pos (by decide)), Nat.div_eq_of_lt (by omega), Nat.zero_add]
      have d2 : a / 2 ^ (i + 1) = v := by
        rw [e3, Nat.add_mul_div_left _ _ (Nat.pow_pos (by decide)), Nat.div_eq_of_lt (by omega), Nat.zero_add]
      rw [d1, d2]
      omega
    have hdd : a / 2 ^ (i + 1) / n * 2 ^ (i + 1) = 2 * (a / 2 ^ (i + 1) / n) * 2 ^ i := by rw [Nat.pow_succ]; grind
    rw [hdd] at hv
    have hmd := Nat.div_add_mod (a / 2 ^ (i + 1)) n
    have hlt := Nat.mod_lt (a / 2 ^ (i + 1)) hn
    generalize hA : a / 2 ^ (i + 1) = h at *
    generalize hH : a / 2 ^ i = g at *
    generalize hq : h / n = q at *
    generalize hr : h % n = r at *
    generalize hxx : (Bit.limbs a).getD i 0 = x at *
    -- the rest with the bit in front
    have hcat : Bit.val ([x] ++ Bit.limbs r) = ((2 * r + x.toNat : Nat) : Int) := by
      rw [List.singleton_append, Bit.val_cons, bvl, Bit.BB_eq]; omega
    have hcl : Bit.Lim ([x] ++ Bit.limbs r) := Bit.Lim.append (Bit.Lim.mk (bit_lim hx.1 hx.2) Bit.Lim.nil) (blm r)
    have hw : wrap64 ((i : Int) - 1) = (i : Int) - 1 := wrap_in (by omega) (by omega)
    have hlr : (Bit.limbs (2 * r + x.toNat)).length ≤ (Bit.limbs n).length + 1 := by
      rw [Bit.limbs_length_le, Nat.pow_succ]
      have := Bit.limbs_length_le.1 (Nat.le_refl (Bit.limbs n).length)
      omega
    refine Ev.step ?_
    simp only [letterbagref03_divmod.l0]
    rw [show (((i + 1 : Nat) : Int) - 1) = (i : Int) by omega, rd_eq, hxx]
    refine Ev.pos (by omega) (Ev.pos (by omega) (Ev.pos (by omega) (Ev.bind_eq rfl (Ev.pos (by simp; omega) (Ev.bind (brtrim_n hcl (by simp; omega) hcat) (Ev.bind (rcmp_n _ n (by omega)) ?_))))))
    rw [hw]
    by_cases hge : n ≤ 2 * r + x.toNat
    · have hc : cmpN (2 * r + x.toNat) n ≥ 0 := by unfold cmpN; rw [if_neg (by omega)]; split <;> omega
      have hg1 : g / n = 2 * q + 1 := by
        rw [Nat.div_eq_iff hn]; constructor <;> grind
      have hg2 : g % n = 2 * r + x.toNat - n := by
        have := Nat.div_add_mod g n
        rw [hg1] at this
        grind
      have hgi := ih (Q.set i 1) (by omega) (by rw [List.length_set]; exact hQl) (hQ.set i (bit_lim (by omega) (by omega))) (by rw [Bit.val_set Q i (by omega) 1, hz i (by omega), hv, hg1, two_pow]; simp; grind) (fun j hj => by
        rw [List.getD_eq_getElem?_getD, List.getElem?_set_ne (by omega), ← List.getD_eq_getElem?_getD]; exact hz j (by omega))
      rw [hg2] at hgi
      refine Ev.pos hc (Ev.bind (rsub_n hge (by omega)) (Ev.pos (by omega) ?_))
      exact hgi
    · have hc : ¬ cmpN (2 * r + x.toNat) n ≥ 0 := by unfold cmpN; rw [if_pos (by omega)]; omega
      have hg1 : g / n = 2 * q := by
        rw [Nat.div_eq_iff hn]; constructor <;> grind
      have hg2 : g % n = 2 * r + x.toNat := by
        have := Nat.div_add_mod g n
        rw [hg1] at this
        grind
      have hgi := ih Q (by omega) hQl hQ (by rw [hv, hg1]) (fun j hj => hz j (by omega))
      rw [hg2] at hgi
      exact Ev.neg hc hgi

theorem rdiv_n (a n : Nat) (hn : 0 < n) (hs : (Bit.limbs a).length + (Bit.limbs n).length ≤ 100000000) : Ev (fun k => letterbagref03_divmod.f k (Bit.limbs a) (Bit.limbs n)) (Bit.limbs (a / n), Bit.limbs (a % n)) := by
  have hlt := Bit.limbs_length_le.1 (Nat.le_refl (Bit.limbs a).length)
  have hz : a / 2 ^ (Bit.limbs a).length = 0 := Nat.div_eq_of_lt hlt
  have h := rdiv_l0 a n hn hs (Bit.limbs a).length (List.replicate (Bit.limbs a).length 0) (Nat.le_refl _) (by simp) (Bit.Lim.replicate _) (by rw [Bit.val_replicate, hz, Nat.zero_div, Nat.zero_mul]; rfl) (fun j hj => by
    rw [List.getD_eq_getElem?_getD, List.getElem?_replicate]; split <;> rfl)
  rw [hz, Nat.zero_mod, Bit.limbs_zero] at h
  unfold letterbagref03_divmod.f
  refine Ev.pos (by omega) (Ev.pos (by omega) ?_)
  rw [wrap_in (by omega) (by omega), Int.toNat_natCast]
  exact h
end Go.Proofs.YtgpninmfbooijaaDoor.Px
