/-
  The reference's bits: the bits of limbs, and the limbs of bits.
-/
import Derived.Test.YtgpninmfbooijaaDoorRef1
import Derived.Test.YtgpninmfbooijaaDoorNTake
import Derived.Test.YtgpninmfbooijaaDoorNWrong
namespace Go.Proofs.YtgpninmfbooijaaDoor.Px
open Go.RowKit Go.Proofs.YtgpninmfbooijaaDoorW.PrintWords Go.Proofs.YtgpninmfbooijaaDoorW.PrintLast Go.Proofs.YtgpninmfbooijaaDoorW.PrintMore Go.Proofs.YtgpninmfbooijaaDoor.Num

theorem base_pow (i : Nat) : BB ^ i = Bit.BB ^ (32 * i) := by rw [← natpow_int, two_pow, Nat.pow_mul]

theorem bits_l1 (l : List Int) (i : Nat) (V : Int) (hm : l.length ≤ 1000000) (hi : i < l.length) (r : List Int)
    (next : ∀ out : List Int, out.length = 32 * (i + 1) → Bit.Lim out → Bit.val out = V → Ev (fun k => letterbagref03_bits.l0 k l out ((i + 1 : Nat) : Int)) r) :
    ∀ (d j : Nat) (out : List Int) (x : Nat), j + d = 32 → out.length = 32 * i + j → Bit.Lim out → x < 2 ^ d → Bit.val out + Bit.BB ^ (32 * i + j) * (x : Int) = V →
      Ev (fun k => letterbagref03_bits.l1 k l out (i : Int) (x : Int) (j : Int)) r := by
  intro d
  induction d with
  | zero =>
    intro j out x hj hl hL hx hv
    have hx0 : x = 0 := by rw [Nat.pow_zero] at hx; omega
    subst hx0
    refine Ev.step ?_
    simp only [letterbagref03_bits.l1]
    refine Ev.neg (by omega) ?_
    rw [wrap_in (by omega) (by omega)]
    exact next out (by omega) hL (by rw [← hv]; simp)
  | succ d ih =>
    intro j out x hj hl hL hx hv
    have hxd : x < 4294967296 := Nat.lt_of_lt_of_le hx (by
      have := Nat.pow_le_pow_right (n := 2) (by decide) (show d + 1 ≤ 32 by omega)
      exact this)
    have e1 : Int.tmod (x : Int) 2 = ((x % 2 : Nat) : Int) := (Int.ofNat_tmod x 2).symm
    have e2 : Int.tdiv (x : Int) 2 = ((x / 2 : Nat) : Int) := (Int.ofNat_tdiv x 2).symm
    have h := ih (j + 1) (out ++ [((x % 2 : Nat) : Int)]) (x / 2) (by omega) (by rw [List.length_append, hl]; rfl) (bit_lim_snoc hL (by omega) (by omega)) (by rw [Nat.pow_succ] at hx; omega) (by
      rw [bit_snoc, hl, ← hv, show 32 * i + (j + 1) = 32 * i + j + 1 by omega, Bit.pow_succ', Bit.BB_eq]
      generalize (2 : Int) ^ (32 * i + j) = P
      have : (x : Int) = 2 * ((x / 2 : Nat) : Int) + ((x % 2 : Nat) : Int) := by omega
      generalize ((x / 2 : Nat) : Int) = u at *
      generalize ((x % 2 : Nat) : Int) = v at *
      rw [this]
      grind)
    refine Ev.step ?_
    simp only [letterbagref03_bits.l1]
    refine Ev.pos (by omega) (Ev.pos (by omega) ?_)
    rw [e1, e2, wrap_in (x := ((x % 2 : Nat) : Int)) (by omega) (by omega), wrap_in (x := (j : Int) + 1) (by omega) (by omega), Int.emod_eq_of_lt (by omega) (by omega)]
    exact h

theorem bits_l0 (l : List Int) (hL : Lim l) (hm : l.length ≤ 1000000) : ∀ (d i : Nat) (out : List Int), i + d = l.length → out.length = 32 * i → Bit.Lim out → Bit.val out = val (l.take i) →
    Ev (fun k => letterbagref03_bits.l0 k l out (i : Int)) (Bit.limbs (val l).toNat) := by
  intro d
  induction d with
  | zero =>
    intro i out hi hl hO hv
    refine Ev.step ?_
    simp only [letterbagref03_bits.l0]
    refine Ev.neg (by omega) (Ev.bind (rtrim_ev hO (by omega)) (Ev.done ?_))
    rw [hv, List.take_of_length_le (by omega)]
  | succ d ih =>
    intro i out hi hl hO hv
    have hx := hL.getD i
    rw [BB_eq] at hx
    obtain ⟨x, hxe⟩ := Int.eq_ofNat_of_zero_le hx.1
    refine Ev.step ?_
    simp only [letterbagref03_bits.l0]
    refine Ev.pos (by omega) (Ev.pos (by omega) ?_)
    rw [rd_eq, hxe]
    refine bits_l1 l i (val (l.take (i + 1))) hm (by omega) _ (fun out' h1 h2 h3 => ih (i + 1) out' (by omega) h1 h2 h3) 32 0 out x (by omega) (by omega) hO (by
      have : (2 : Nat) ^ 32 = 4294967296 := by decide
      omega) ?_
    rw [val_take_more l i, ← hxe, base_pow, hv, Nat.add_zero]

theorem bits_ev {l : List Int} (hL : Lim l) (hm : l.length ≤ 1000000) : Ev (fun k => letterbagref03_bits.f k l) (Bit.limbs (val l).toNat) := by
  unfold letterbagref03_bits.f
  exact bits_l0 l hL hm l.length 0 [] (by omega) rfl Bit.Lim.nil (by simp [Bit.val, val])
theorem bits_n (n : Nat) (hm : (limbs n).length ≤ 1000000) : Ev (fun k => letterbagref03_bits.f k (limbs n)) (Bit.limbs n) := by
  have := bits_ev (lm n) hm
  rw [vl, Int.toNat_natCast] at this
  exact this

/-! ### the limbs of bits -/
theorem len_32 (n k : Nat) : (Bit.limbs n).length ≤ 32 * k ↔ (limbs n).length ≤ k := by
  rw [Bit.limbs_length_le, limbs_length_le, Nat.pow_mul]
theorem u32_mod (x : Int) : IntKind.u32.wrap x = x % 4294967296 := by simp [IntKind.wrap, IntKind.signed, IntKind.bits]
theorem pow_small {r : Nat} (h : r < 32) : (2 : Int) ^ r = ((2 ^ r : Nat) : Int) ∧ 2 ^ r ≤ 2147483648 := by
  refine ⟨by simp, ?_⟩
  have := Nat.pow_le_pow_right (n := 2) (by decide) (show r ≤ 31 by omega)
  exact this
theorem shl_u32 {r : Nat} (h : r < 32) : shl .u32 1 (r : Int) = ((2 ^ r : Nat) : Int) := by
  unfold shl
  obtain ⟨h1, h2⟩ := pow_small h
  rw [show min (r : Int).toNat (IntKind.u32.bits) = r by simp [IntKind.bits]; omega, Int.one_mul, u32_mod, h1]
  exact Int.emod_eq_of_lt (Int.natCast_nonneg _) (Int.lt_of_le_of_lt (Int.ofNat_le.2 h2) (by decide))

theorem tmod32 (i : Nat) : Int.tmod (i : Int) 32 = ((i % 32 : Nat) : Int) := (Int.ofNat_tmod i 32).symm
theorem tdiv32 (i : Nat) : Int.tdiv (i : Int) 32 = ((i / 32 : Nat) : Int) := (Int.ofNat_tdiv i 32).symm
theorem rlimbs_l0 (n : Nat) (hs : (Bit.limbs n).length ≤ 100000000) : ∀ (d i : Nat) (L : List Int), i + d = (Bit.limbs n).length → L.length = (i + 31) / 32 → Lim L → val L = Bit.val ((Bit.limbs n).take i) →
    Ev (fun k => letterbagref03_limbs.l0 k (Bit.limbs n) L (i : Int)) (limbs n) := by
  intro d
  induction d with
  | zero =>
    intro i L hi hl hL hv
    refine Ev.step ?_
    simp only [letterbagref03_limbs.l0]
    refine Ev.neg (by omega) (Ev.done ?_)
    rw [List.take_of_length_le (by omega), bvl] at hv
    refine val_inj_len hL (lm n) ?_ (by rw [hv, vl])
    have h1 : (limbs n).length ≤ (i + 31) / 32 := (len_32 n _).1 (by omega)
    have h2 : ¬ (limbs n).length < (i + 31) / 32 := fun h => by
      have := (len_32 n ((i + 31) / 32 - 1)).2 (by omega)
      omega
    omega
  | succ d ih =>
    intro i L hi hl hL hv
    have hw : wrap64 ((i / 32 : Nat) : Int) = ((i / 32 : Nat) : Int) := wrap_in (by omega) (by omega)
    have hwi : wrap64 ((i : Int) + 1) = ((i + 1 : Nat) : Int) := by rw [wrap_in (by omega) (by omega)]; omega
    have hr : i % 32 < 32 := Nat.mod_lt _ (by decide)
    have hu : IntKind.u64.wrap ((i % 32 : Nat) : Int) = ((i % 32 : Nat) : Int) := u64_in (by omega) (by omega)
    have hx := (blm n).getD i
    rw [Bit.BB_eq] at hx
    have hto := Bit.val_take_more (Bit.limbs n) i
    have hlt := Bit.val_lt ((blm n).take i)
    rw [List.length_take, Nat.min_eq_left (by omega), two_pow] at hlt
    -- what stands behind the new limb
    have tail : ∀ M : List Int, M.length = i / 32 + 1 → Lim M → val M = Bit.val ((Bit.limbs n).take i) →
        (((Bit.limbs n).getD i 0 = 1 → Ev (fun k => letterbagref03_limbs.l0 k (Bit.limbs n) (M.set (i / 32) ((M.getD (i / 32) 0 + ((2 ^ (i % 32) : Nat) : Int)) % 4294967296)) ((i + 1 : Nat) : Int)) (limbs n)) ∧
         ((Bit.limbs n).getD i 0 ≠ 1 → Ev (fun k => letterbagref03_limbs.l0 k (Bit.limbs n) M ((i + 1 : Nat) : Int)) (limbs n))) := by
      intro M hM hLM hvM
      have hp := pow_small hr
      have hg := hLM.getD (i / 32)
      have hdec := val_take_more M (i / 32)
      rw [List.take_of_length_le (by omega)] at hdec
      have h0 := val_nonneg (hLM.take (i / 32))
      have hbase : BB ^ (i / 32) * ((2 ^ (i % 32) : Nat) : Int) = ((2 ^ i : Nat) : Int) := by
        rw [base_pow, two_pow, ← Int.natCast_mul, ← Nat.pow_add]
        congr 2
        omega
      have hB : 0 < BB ^ (i / 32) := pow_pos _
      have hsmall : M.getD (i / 32) 0 < ((2 ^ (i % 32) : Nat) : Int) := by
        apply Int.lt_of_not_ge
        intro hge
        have := Int.mul_le_mul_of_nonneg_left hge (Int.le_of_lt hB)
        omega
      have hmod : (M.getD (i / 32) 0 + ((2 ^ (i % 32) : Nat) : Int)) % 4294967296 = M.getD (i / 32) 0 + ((2 ^ (i % 32) : Nat) : Int) := by
        have := hp.2
        exact Int.emod_eq_of_lt (by omega) (by omega)
      constructor
      · intro h1
        rw [hmod]
        refine ih (i + 1) _ (by omega) (by rw [List.length_set, hM]; omega) (hLM.set _ ⟨by omega, by rw [BB_eq]; have := hp.2; omega⟩) ?_
        rw [val_set M (i / 32) (by omega), hto, h1, hvM, Int.mul_one, two_pow i, ← hbase]
        congr 2
        omega
      · intro h1
        refine ih (i + 1) M (by omega) (by rw [hM]; omega) hLM ?_
        have hz : (Bit.limbs n).getD i 0 = 0 := by omega
        rw [hto, hz, Int.mul_zero, Int.add_zero, hvM]
    refine Ev.step ?_
    simp only [letterbagref03_limbs.l0]
    refine Ev.pos (by omega) ?_
    rw [tmod32, tdiv32, hw, hwi, hu, shl_u32 hr]
    by_cases h32 : i % 32 = 0
    · have hl0 : L.length = i / 32 := by omega
      obtain ⟨t1, t2⟩ := tail (L ++ [0]) (by rw [List.length_append, hl0]; rfl) (hL.append (Lim.mk (by rw [BB_eq]; omega) Lim.nil)) (by rw [val_append, val_cons, val_nil, hv]; simp)
      refine Ev.pos (by omega) (Ev.pos (by omega) (Ev.bind_eq rfl (Ev.pos (by omega) ?_)))
      by_cases h1 : (Bit.limbs n).getD i 0 = 1
      · refine Ev.pos (by rw [rd_eq]; exact h1) (Ev.pos (by omega) (Ev.pos (by rw [List.length_append, hl0]; simp; omega) (Ev.pos (by omega) ?_)))
        rw [rd_eq, Int.toNat_natCast]
        exact t1 h1
      · exact Ev.neg (by rw [rd_eq]; exact h1) (t2 h1)
    · have hl0 : L.length = i / 32 + 1 := by omega
      obtain ⟨t1, t2⟩ := tail L hl0 hL hv
      refine Ev.neg (by omega) (Ev.pos (by omega) ?_)
      by_cases h1 : (Bit.limbs n).getD i 0 = 1
      · refine Ev.pos (by rw [rd_eq]; exact h1) (Ev.pos (by omega) (Ev.pos (by omega) (Ev.pos (by omega) ?_)))
        rw [rd_eq, Int.toNat_natCast]
        exact t1 h1
      · exact Ev.neg (by rw [rd_eq]; exact h1) (t2 h1)

theorem rlimbs_n (n : Nat) (hs : (Bit.limbs n).length ≤ 100000000) : Ev (fun k => letterbagref03_limbs.f k (Bit.limbs n)) (limbs n) := by
  unfold letterbagref03_limbs.f
  refine Ev.bind (brtrim_n (blm n) (by omega) (bvl n)) ?_
  exact rlimbs_l0 n hs (Bit.limbs n).length 0 [] (by omega) rfl Lim.nil (by simp [Bit.val, val])

theorem rfit_n (n : Nat) (hs : (Bit.limbs n).length ≤ 100000000) : Ev (fun k => letterbagref03_fit.f k (Bit.limbs n)) (fitS n) := by
  unfold letterbagref03_fit.f fitS
  have h := len_32 n 1024
  by_cases hc : (limbs n).length ≤ 1024
  · rw [if_pos hc]
    have := h.2 hc
    exact Ev.neg (by omega) (Ev.bind (rlimbs_n n hs) (Ev.const _))
  · rw [if_neg hc]
    have : ¬ (Bit.limbs n).length ≤ 32 * 1024 := fun h' => hc (h.1 h')
    exact Ev.pos (by omega) (Ev.const _)
end Go.Proofs.YtgpninmfbooijaaDoor.Px

/-
  The reference's powers, texts and what it reads, in plain numbers.
-/
namespace Go.Proofs.YtgpninmfbooijaaDoor.Px
open Go.RowKit Go.Proofs.YtgpninmfbooijaaDoorW.PrintWords Go.Proofs.YtgpninmfbooijaaDoorW.PrintLast Go.Proofs.YtgpninmfbooijaaDoorW.PrintMore Go.Proofs.YtgpninmfbooijaaDoor.Num

theorem sz_pow' {k n : Nat} (h : Sz k n) : ∀ m : Nat, Sz (k * m + 1) (n ^ m)
  | 0 => (Sz.of (k := 1) (by rw [Nat.pow_zero, limbs_pos (by decide), show 1 / 4294967296 = 0 from rfl, limbs_zero]; simp)).le (by omega)
  | m + 1 => by
    rw [Nat.pow_succ, Nat.mul_succ]
    exact ((sz_pow' h m).mul h).le (by omega)
theorem sz_bits {k n : Nat} (h : Sz k n) : (Bit.limbs n).length ≤ 32 * k := (len_32 n k).2 h.len

/-! ### powers -/
theorem rpow_l0 (b n : Nat) (hb : Sz 3 b) (hn : n ≤ 30) : ∀ d i : Nat, i + d = n → Ev (fun k => letterbagref03_Pow.l0 k (n : Int) (Bit.limbs (b ^ i)) (Bit.limbs b) (i : Int)) (limbs (b ^ n), 0) := by
  intro d
  induction d with
  | zero =>
    intro i hi
    have hin : i = n := by omega
    subst hin
    have h1 := sz_bits (sz_pow' hb i)
    refine Ev.step ?_
    simp only [letterbagref03_Pow.l0]
    exact Ev.neg (by omega) (Ev.bind (rlimbs_n _ (by omega)) (Ev.const _))
  | succ d ih =>
    intro i hi
    have h1 := sz_bits (sz_pow' hb i)
    have h2 := sz_bits (sz_pow' hb (i + 1))
    have h3 := sz_bits hb
    have h := ih (i + 1) (by omega)
    have hm := rmul_n (b ^ i) b (by omega)
    rw [show b ^ i * b = b ^ (i + 1) from (Nat.pow_succ b i).symm] at hm
    refine Ev.step ?_
    simp only [letterbagref03_Pow.l0]
    refine Ev.pos (by omega) (Ev.bind hm (Ev.neg (by omega) ?_))
    rw [wrap_in (by omega) (by omega)]
    exact h

theorem bit_one : ([1] : List Int) = Bit.limbs 1 := by rw [Bit.limbs_pos (by decide), show 1 / 2 = 0 from rfl, Bit.limbs_zero]; rfl

theorem pow_both {p : List Int} (hp : Lim p) (hl : p.length ≤ 3) (n : Int) (hn : n ≤ 30) : ∃ r : List Int × Int, r.1.length ≤ 1024 ∧ Ev (fun k => nat_Pow.f k p n) r ∧ Ev (fun k => letterbagref03_Pow.f k p n) r := by
  have bad : ¬ (Rt p ∧ 0 ≤ n) → ∃ r : List Int × Int, r.1.length ≤ 1024 ∧ Ev (fun k => nat_Pow.f k p n) r ∧ Ev (fun k => letterbagref03_Pow.f k p n) r := by
    intro h
    have hj : Ev (fun k => letterbagref03_Pow.j0 k p n true) ([], 2) := by
      refine Ev.step ?_
      simp only [letterbagref03_Pow.j0]
      exact Ev.pos trivial (Ev.const _)
    refine ⟨([], 2), by simp, bad_pow h, ?_⟩
    unfold letterbagref03_Pow.f
    by_cases hx : Rt p
    · refine Ev.bind_eq (right_yes hx) (Ev.pos rfl ?_)
      rw [decide_eq_true (show n < 0 by apply Int.not_le.1; exact fun h0 => h ⟨hx, h0⟩)]
      exact hj
    · exact Ev.bind_eq (right_no hx) (Ev.neg (by decide) hj)
  by_cases hr : Rt p
  · by_cases h0 : 0 ≤ n
    · obtain ⟨m, rfl⟩ := Int.eq_ofNat_of_zero_le h0
      have hpe := rt_eq hp hr
      obtain ⟨b, hb⟩ : ∃ b, (val p).toNat = b := ⟨_, rfl⟩
      rw [hb] at hpe
      subst hpe
      have sb : Sz 3 b := Sz.of hl
      have s1 : Sz 1024 (b ^ m) := (sz_pow' sb m).le (by omega)
      refine ⟨(limbs (b ^ m), 0), s1.len, Pow_ok (sb.le (by omega)) s1 (by omega), ?_⟩
      unfold letterbagref03_Pow.f
      refine Ev.bind_eq (Right_n (sb.le (by omega))) (Ev.pos rfl ?_)
      rw [decide_eq_false (show ¬ (m : Int) < 0 by omega)]
      refine Ev.step ?_
      simp only [letterbagref03_Pow.j0]
      refine Ev.neg (by decide) (Ev.bind_eq rfl (Ev.bind (bits_n b (by omega)) ?_))
      rw [bit_one]
      have run : ∀ q : Nat, q ≤ 30 → Ev (fun k => letterbagref03_Pow.j2 k (q : Int) (Bit.limbs 1) (Bit.limbs b)) (limbs (b ^ q), 0) := by
        intro q hq
        refine Ev.step ?_
        simp only [letterbagref03_Pow.j2]
        have := rpow_l0 b q sb hq q 0 (by omega)
        rw [Nat.pow_zero] at this
        exact this
      have full : Ev (fun k => letterbagref03_Pow.j1 k (m : Int) (Bit.limbs 1) (Bit.limbs b) false) (limbs (b ^ m), 0) := by
        refine Ev.step ?_
        simp only [letterbagref03_Pow.j1]
        exact Ev.neg (by decide) (run m (by omega))
      by_cases hs : (Bit.limbs b).length ≤ 1
      · refine Ev.pos (by omega) ?_
        by_cases hm : 1 < m
        · rw [decide_eq_true (show (m : Int) > 1 by omega)]
          refine Ev.step ?_
          simp only [letterbagref03_Pow.j1]
          have hb1 : b < 2 := by have := Bit.limbs_length_le.1 hs; omega
          have e : b ^ m = b ^ 1 := by
            rcases (show b = 0 ∨ b = 1 by omega) with rfl | rfl
            · rw [Nat.zero_pow (by omega), Nat.zero_pow (by omega)]
            · rw [Nat.one_pow, Nat.one_pow]
          rw [e]
          exact Ev.pos trivial (run 1 (by omega))
        · rw [decide_eq_false (show ¬ (m : Int) > 1 by omega)]
          exact full
      · exact Ev.neg (by omega) full
    · exact bad (fun h => h0 h.2)
  · exact bad (fun h => hr h.1)

/-! ### texts -/
/-- The digits of a number; none of zero. -/
def dig (n : Nat) : List UInt8 := if n = 0 then [] else decS n
theorem dig_step {n : Nat} (h : 0 < n) : dig n = dig (n / 10) ++ [UInt8.ofNat (48 + n % 10)] := by
  unfold dig
  rw [if_neg (by omega)]
  unfold decS
  rw [if_neg (by omega), Dec.limbs_pos h, List.map_cons, List.reverse_cons]
  have e : (48 + ((n % 10 : Nat) : Int)).toNat = 48 + n % 10 := by omega
  rw [e]
  by_cases hq : n / 10 = 0
  · rw [hq, if_pos rfl, Dec.limbs_zero]; rfl
  · rw [if_neg hq, if_neg hq]

theorem bit_four {r : Nat} (h : r < 16) : ∃ b0 b1 b2 b3 : Int, (Bit.limbs r).getD 0 0 = b0 ∧ (Bit.limbs r).getD 1 0 = b1 ∧ (Bit.limbs r).getD 2 0 = b2 ∧ (Bit.limbs r).getD 3 0 = b3 ∧
    0 ≤ b0 ∧ b0 ≤ 1 ∧ 0 ≤ b1 ∧ b1 ≤ 1 ∧ 0 ≤ b2 ∧ b2 ≤ 1 ∧ 0 ≤ b3 ∧ b3 ≤ 1 ∧ b0 + 2 * b1 + 4 * b2 + 8 * b3 = r := by
  have hl : (Bit.limbs r).length ≤ 4 := Bit.limbs_length_le.2 (by omega)
  have h0 := Bit.val_take_more (Bit.limbs r) 0
  have h1 := Bit.val_take_more (Bit.limbs r) 1
  have h2 := Bit.val_take_more (Bit.limbs r) 2
  have h3 := Bit.val_take_more (Bit.limbs r) 3
  rw [List.take_of_length_le hl, bvl] at h3
  rw [List.take_zero, Bit.val_nil] at h0
  have g0 := (blm r).getD 0
  have g1 := (blm r).getD 1
  have g2 := (blm r).getD 2
  have g3 := (blm r).getD 3
  rw [Bit.BB_eq] at *
  refine ⟨_, _, _, _, rfl, rfl, rfl, rfl, ?_⟩
  generalize (Bit.limbs r).getD 0 0 = b0 at *
  generalize (Bit.limbs r).getD 1 0 = b1 at *
  generalize (Bit.limbs r).getD 2 0 = b2 at *
  generalize (Bit.limbs r).getD 3 0 = b3 at *
  simp only [Nat.zero_add, Nat.reduceAdd] at *
  omega

theorem bit_ten : ([0, 1, 0, 1] : List Int) = Bit.limbs 10 := by simp [Bit.limbs_pos, Bit.limbs_zero]

theorem rtext_l0 : ∀ (n : Nat) (s : ByteArray), s.size + (dig n).length ≤ 1000000 → (Bit.limbs n).length ≤ 1000000 → ∃ t : ByteArray, t.data.toList = dig n ++ s.data.toList ∧ Ev (fun k => letterbagref03_Text.l0 k s (Bit.limbs n)) (t, 0) := by
  intro n
  induction n using Nat.strongRecOn with
  | ind n ih =>
    intro s hs hb
    rcases Nat.eq_zero_or_pos n with rfl | hp
    · refine ⟨s, by simp [dig], ?_⟩
      rw [Bit.limbs_zero]
      refine Ev.step ?_
      simp only [letterbagref03_Text.l0]
      exact Ev.neg (by simp) (Ev.const _)
    · have hne : (Bit.limbs n).length ≠ 0 := fun h => by
        have := Bit.limbs_nil_iff.1 (List.eq_nil_of_length_eq_zero h); omega
      have hds := dig_step hp
      have h10 : (Bit.limbs 10).length ≤ 4 := Bit.limbs_length_le.2 (by decide)
      obtain ⟨b0, b1, b2, b3, g0, g1, g2, g3, z⟩ := bit_four (r := n % 10) (by omega)
      have hc : wrap64 (wrap64 (wrap64 (wrap64 (48 + b0) + wrap64 (2 * b1)) + wrap64 (4 * b2)) + wrap64 (8 * b3)) % 256 = ((48 + n % 10 : Nat) : Int) := by
        rw [wrap_in (x := 48 + b0) (by omega) (by omega), wrap_in (x := 2 * b1) (by omega) (by omega), wrap_in (x := 48 + b0 + 2 * b1) (by omega) (by omega), wrap_in (x := 4 * b2) (by omega) (by omega), wrap_in (x := 48 + b0 + 2 * b1 + 4 * b2) (by omega) (by omega), wrap_in (x := 8 * b3) (by omega) (by omega), wrap_in (by omega) (by omega)]
        omega
      have hstr : (strOfNums [((48 + n % 10 : Nat) : Int)]).data.toList = [UInt8.ofNat (48 + n % 10)] := rfl
      have hsz1 : (strOfNums [((48 + n % 10 : Nat) : Int)]).size = 1 := rfl
      have hcat : (strOfNums [((48 + n % 10 : Nat) : Int)] ++ s).data.toList = UInt8.ofNat (48 + n % 10) :: s.data.toList := by
        rw [ByteArray.data_append, Array.toList_append, hstr]; rfl
      have hsize : (strOfNums [((48 + n % 10 : Nat) : Int)] ++ s).size = 1 + s.size := by rw [ByteArray.size_append, hsz1]
      rw [hds, List.length_append] at hs
      obtain ⟨t, ht, he⟩ := ih (n / 10) (by omega) (strOfNums [((48 + n % 10 : Nat) : Int)] ++ s) (by rw [hsize]; simp at hs; omega) (Nat.le_trans (bit_len (Nat.div_le_self n 10)) hb)
      refine ⟨t, by rw [ht, hcat, hds, List.append_assoc]; rfl, ?_⟩
      refine Ev.step ?_
      simp only [letterbagref03_Text.l0]
      refine Ev.pos (by omega) ?_
      rw [bit_ten]
      refine Ev.bind (rdiv_n n 10 (by decide) (by omega)) ?_
      refine Ev.bind_eq (at_f _ 0) (Ev.bind_eq (at_f _ 1) (Ev.bind_eq (at_f _ 2) (Ev.bind_eq (at_f _ 3) (Ev.bind_eq rfl ?_))))
      rw [g0, g1, g2, g3, hc]
      exact Ev.pos (by rw [hsz1]; omega) he

theorem text_both {a : List Int} (ha : Lim a) (hl : a.length ≤ 40) : ∃ (t u : ByteArray) (e : Int), t.data.toList = u.data.toList ∧ nat_Text.f a = some (t, e) ∧ Ev (fun k => letterbagref03_Text.f k a) (u, e) := by
  by_cases hr : Rt a
  · have hae := rt_eq ha hr
    obtain ⟨n, hn⟩ : ∃ n, (val a).toNat = n := ⟨_, rfl⟩
    rw [hn] at hae
    subst hae
    have s40 : Sz 40 n := Sz.of hl
    have sn : Sz 1024 n := s40.le (by omega)
    have hd := decS_short s40 (by decide)
    have hb := sz_bits s40
    by_cases h0 : n = 0
    · subst h0
      refine ⟨textS 0, ⟨#[48]⟩, 0, rfl, Text_n sn, ?_⟩
      unfold letterbagref03_Text.f
      exact Ev.bind_eq (Right_n sn) (Ev.pos rfl (Ev.pos (by rw [limbs_zero]; rfl) (Ev.const _)))
    · have hdn : dig n = decS n := if_neg h0
      obtain ⟨u, hu, he⟩ := rtext_l0 n ⟨#[]⟩ (by rw [hdn]; simp [ByteArray.size]; omega) (by omega)
      refine ⟨textS n, u, 0, by rw [hu, hdn]; simp [textS], Text_n sn, ?_⟩
      unfold letterbagref03_Text.f
      have hne : (limbs n).length ≠ 0 := fun h => h0 (limbs_nil_iff.1 (List.eq_nil_of_length_eq_zero h))
      exact Ev.bind_eq (Right_n sn) (Ev.pos rfl (Ev.neg (by omega) (Ev.bind (bits_n n (by omega)) he)))
  · refine ⟨⟨#[]⟩, ⟨#[]⟩, 2, rfl, bad_text ha hr, ?_⟩
    unfold letterbagref03_Text.f
    exact Ev.bind_eq (right_no hr) (Ev.neg (by decide) (Ev.const _))
end Go.Proofs.YtgpninmfbooijaaDoor.Px

/-
  What the reference reads, in plain numbers: the same as nat.Read, and as an error the same number.
-/
namespace Go.Proofs.YtgpninmfbooijaaDoor.Px
open Go.RowKit Go.Proofs.YtgpninmfbooijaaDoorW.PrintWords Go.Proofs.YtgpninmfbooijaaDoorW.PrintLast Go.Proofs.YtgpninmfbooijaaDoorW.PrintMore Go.Proofs.YtgpninmfbooijaaDoor.Num

theorem size_list (s : ByteArray) : s.data.toList.length = s.size := by rw [Array.length_toList]; rfl
theorem bt_list (s : ByteArray) (i : Nat) (h : i < s.data.toList.length) : bt s (i : Int) = ((s.data.toList[i]'h).toNat : Int) := by
  have hs : i < s.size := by rw [← size_list]; exact h
  unfold bt
  rw [dif_pos (show (i : Int).toNat < s.size by rw [Int.toNat_natCast]; exact hs)]
  rfl

theorem sixteen (m : Nat) : 10 ^ m ≤ 2 ^ (4 * m) := by
  rw [Nat.pow_mul]
  exact Nat.pow_le_pow_left (by decide) m
theorem dval_bits {l : List UInt8} (h : ∀ b ∈ l, isDg b) : (Bit.limbs (dval l).toNat).length ≤ 4 * l.length := by
  rw [Bit.limbs_length_le]
  have h1 := dval_lt l h
  have h0 := dval_nonneg l h
  have h2 := sixteen l.length
  have h3 : (10 : Int) ^ l.length = ((10 ^ l.length : Nat) : Int) := by simp
  rw [h3] at h1
  omega

theorem rread_l1 (s : ByteArray) (l : List UInt8) (hl : s.data.toList = l) (hs : l.length ≤ 400) (hd : ∀ b ∈ l, isDg b) :
    ∀ d i : Nat, i + d = l.length → Ev (fun k => letterbagref03_Read.l1 k s (Bit.limbs (dval (l.take i)).toNat) (i : Int)) (fitS (dval l).toNat) := by
  have hsz : s.size = l.length := by rw [← hl, size_list]
  intro d
  induction d with
  | zero =>
    intro i hi
    have hb := dval_bits hd
    rw [List.take_of_length_le (by omega)]
    refine Ev.step ?_
    simp only [letterbagref03_Read.l1]
    exact Ev.neg (by omega) (Ev.bind (rfit_n _ (by omega)) (Ev.const _))
  | succ d ih =>
    intro i hi
    have hil : i < l.length := by omega
    have hdt : ∀ b ∈ l.take i, isDg b := fun b hb => hd b (List.mem_of_mem_take hb)
    have hb := dval_bits hdt
    rw [List.length_take, Nat.min_eq_left (by omega)] at hb
    have h0 := dval_nonneg _ hdt
    have hmore := dval_more l i hil
    have hdg := hd (l[i]'hil) (List.getElem_mem hil)
    unfold isDg at hdg
    have hbt : bt s (i : Int) = ((l[i]'hil).toNat : Int) := by subst hl; exact bt_list s i hil
    obtain ⟨v, hv⟩ := Int.eq_ofNat_of_zero_le h0
    have h := ih (i + 1) (by omega)
    rw [hmore, hv] at h
    rw [hv, Int.toNat_natCast] at hb ⊢
    generalize (l[i]'hil).toNat = c at *
    have h10 : (Bit.limbs 10).length ≤ 4 := Bit.limbs_length_le.2 (by decide)
    have hm := rmul_n 10 v (by omega)
    have hlen10 : (Bit.limbs (10 * v)).length ≤ 4 + (Bit.limbs v).length := by
      rw [Bit.limbs_length_le, Nat.pow_add]
      exact Nat.mul_lt_mul'' (by decide) (Bit.limbs_length_le.1 (Nat.le_refl _))
    have hc4 : (Bit.limbs (c - 48)).length ≤ 4 := Bit.limbs_length_le.2 (by omega)
    have hbits : Ev (fun k => letterbagref03_bits.f k [((c - 48 : Nat) : Int)]) (Bit.limbs (c - 48)) := by
      have := bits_ev (l := [((c - 48 : Nat) : Int)]) (Lim.mk (by rw [BB_eq]; omega) Lim.nil) (by simp)
      rw [val_cons, val_nil, Int.mul_zero, Int.add_zero, Int.toNat_natCast] at this
      exact this
    have ha := radd_n (10 * v) (c - 48) 0 (by omega)
    rw [Nat.pow_zero, Nat.one_mul] at ha
    refine Ev.step ?_
    simp only [letterbagref03_Read.l1]
    rw [hbt, show ((c : Int) - 48) % 256 = ((c - 48 : Nat) : Int) by omega, bit_ten]
    refine Ev.pos (by omega) (Ev.bind hm (Ev.pos (by omega) (Ev.bind hbits (Ev.bind ha ?_))))
    rw [wrap_in (by omega) (by omega)]
    rw [show ((v : Int) * 10 + ((c : Int) - 48)).toNat = 10 * v + (c - 48) by omega] at h
    exact h

theorem readS_bad {l : List UInt8} (h : ¬ isTxt l) : readS l = ([], 30) := if_neg h

theorem rread_l0 (s : ByteArray) (l : List UInt8) (hl : s.data.toList = l) (hs : l.length ≤ 400) :
    ∀ d i : Nat, i + d = l.length → (∀ b ∈ l.take i, isDg b) → Ev (fun k => letterbagref03_Read.l0 k s (i : Int)) (readS l) := by
  have hsz : s.size = l.length := by rw [← hl, size_list]
  intro d
  induction d with
  | zero =>
    intro i hi hd
    rw [List.take_of_length_le (by omega)] at hd
    have good : isTxt l → Ev (fun k => letterbagref03_Read.j1 k s [] false) (readS l) := by
      intro ht
      have h := rread_l1 s l hl hs hd l.length 0 (by omega)
      have e : readS l = fitS (dval l).toNat := by unfold readS; rw [if_pos ht, if_pos (by omega)]
      rw [e]
      rw [List.take_zero, show (dval []).toNat = 0 from rfl, Bit.limbs_zero] at h
      refine Ev.step ?_
      simp only [letterbagref03_Read.j1]
      exact Ev.neg (by decide) h
    have bad : ¬ isTxt l → Ev (fun k => letterbagref03_Read.j1 k s [] true) (readS l) := by
      intro ht
      rw [readS_bad ht]
      refine Ev.step ?_
      simp only [letterbagref03_Read.j1]
      exact Ev.pos trivial (Ev.const _)
    refine Ev.step ?_
    simp only [letterbagref03_Read.l0]
    refine Ev.neg (by omega) ?_
    by_cases h0 : l.length = 0
    · exact Ev.pos (by omega) (bad (fun h => h.1 (List.eq_nil_of_length_eq_zero h0)))
    · refine Ev.neg (by omega) ?_
      have hne : l ≠ [] := fun h => h0 (by rw [h]; rfl)
      by_cases h1 : 1 < l.length
      · refine Ev.pos (by omega) (Ev.pos (by omega) ?_)
        have hb0 : bt s 0 = ((l[0]'(by omega)).toNat : Int) := by subst hl; exact bt_list s 0 (by omega)
        rw [hb0]
        by_cases h48 : (l[0]'(by omega)).toNat = 48
        · rw [show (((l[0]'(by omega)).toNat : Int) == 48) = true by rw [h48]; rfl]
          refine bad (fun h => h.2.1 h1 ?_)
          rw [List.head?_eq_getElem?, List.getElem?_eq_getElem (by omega)]
          congr 1
          exact UInt8.toNat_inj.1 h48
        · rw [beq_false_of_ne (show ((l[0]'(by omega)).toNat : Int) ≠ 48 by omega)]
          refine good ⟨hne, fun _ he => h48 ?_, hd⟩
          rw [List.head?_eq_getElem?, List.getElem?_eq_getElem (by omega)] at he
          rw [Option.some.inj he]; rfl
      · exact Ev.neg (by omega) (good ⟨hne, fun h => absurd h h1, hd⟩)
  | succ d ih =>
    intro i hi hd
    have hil : i < l.length := by omega
    have hbt : bt s (i : Int) = ((l[i]'hil).toNat : Int) := by subst hl; exact bt_list s i hil
    have bad : ¬ isDg (l[i]'hil) → readS l = ([], 30) := fun h => readS_bad (fun ht => h (ht.2.2 _ (List.getElem_mem hil)))
    refine Ev.step ?_
    simp only [letterbagref03_Read.l0]
    rw [hbt]
    refine Ev.pos (by omega) (Ev.pos (by omega) ?_)
    by_cases h1 : (l[i]'hil).toNat < 48
    · rw [bad (fun h => by have := h.1; omega)]
      exact Ev.pos (by omega) (Ev.const _)
    · refine Ev.neg (by omega) ?_
      by_cases h2 : 57 < (l[i]'hil).toNat
      · rw [bad (fun h => by have := h.2; omega)]
        exact Ev.pos (by omega) (Ev.const _)
      · refine Ev.neg (by omega) ?_
        rw [wrap_in (by omega) (by omega)]
        refine ih (i + 1) (by omega) (fun b hb => ?_)
        rw [List.take_succ_eq_append_getElem hil, List.mem_append] at hb
        rcases hb with hb | hb
        · exact hd b hb
        · rw [List.mem_singleton] at hb
          subst hb
          exact ⟨by omega, by omega⟩

theorem read_both {s : ByteArray} (h : s.size ≤ 400) : ∃ r : List Int × Int, r.1.length ≤ 1024 ∧ nat_Read.f s = some r ∧ Ev (fun k => letterbagref03_Read.f k s) r := by
  have hl : s.data.toList.length ≤ 400 := by rw [size_list]; exact h
  refine ⟨readS s.data.toList, ?_, ?_, ?_⟩
  · unfold readS fitS
    split
    · split
      · split
        · assumption
        · simp
      · simp
    · simp
  · unfold nat_Read.f
    rw [if_pos (by omega)]
  · unfold letterbagref03_Read.f
    exact rread_l0 s _ rfl hl s.data.toList.length 0 (by omega) (by simp)
end Go.Proofs.YtgpninmfbooijaaDoor.Px
