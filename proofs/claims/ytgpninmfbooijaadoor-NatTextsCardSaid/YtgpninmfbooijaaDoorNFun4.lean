/-
  The decimal texts of numbers: they are read back, ten times a number has a zero more, and texts of one length are in the order of the numbers. Shifted limbs.
-/
import Derived.Test.YtgpninmfbooijaaDoorNFun
import Derived.Test.YtgpninmfbooijaaDoorPx6
namespace Go.Proofs.YtgpninmfbooijaaDoor.Px
open Go.RowKit Go.Proofs.YtgpninmfbooijaaDoorW.PrintWords Go.Proofs.YtgpninmfbooijaaDoorW.PrintLast Go.Proofs.YtgpninmfbooijaaDoorW.PrintMore Go.Proofs.YtgpninmfbooijaaDoor.Num

theorem decS_len {n k : Nat} (hk : 0 < k) : (decS n).length ≤ k ↔ n < 10 ^ k := by
  unfold decS
  by_cases h : n = 0
  · rw [if_pos h, h]
    exact ⟨fun _ => Nat.pow_pos (by decide), fun _ => hk⟩
  · rw [if_neg h, List.length_reverse, List.length_map]
    exact Dec.limbs_length_le

theorem decS_short {n j : Nat} (h : Sz j n) (hj : 0 < j) : (decS n).length ≤ 10 * j := by
  rw [decS_len (by omega), Nat.pow_mul]
  exact Nat.lt_of_lt_of_le h (Nat.pow_le_pow_left (by decide) j)

/-! ### the order of texts -/
/-! ### shifted limbs -/
end Go.Proofs.YtgpninmfbooijaaDoor.Px

/-
  Powers: nat.Pow at the limbs of a number.
-/
namespace Go.Proofs.YtgpninmfbooijaaDoor.Px
open Go.RowKit Go.Proofs.YtgpninmfbooijaaDoorW.PrintWords Go.Proofs.YtgpninmfbooijaaDoorW.PrintLast Go.Proofs.YtgpninmfbooijaaDoorW.PrintMore Go.Proofs.YtgpninmfbooijaaDoor.Num

theorem pow_sz {a n m k : Nat} (hk : 0 < k) (h : Sz k (a ^ n)) (hm : m ≤ n) : Sz k (a ^ m) := by
  rcases Nat.eq_zero_or_pos a with rfl | ha
  · have h1 : Sz k 1 := (Sz.of (k := 1) (by rw [limbs_pos (by decide), show 1 / 4294967296 = 0 from rfl, limbs_zero]; simp)).le hk
    rcases Nat.eq_zero_or_pos m with rfl | hm0
    · exact h1
    · rw [Nat.zero_pow hm0]; exact Sz.zero k
  · exact h.down (Nat.pow_le_pow_right ha hm)

theorem len_mul {m n : Nat} (hm : Sz 1024 m) (hn : Sz 1024 n) (h : Sz 1024 (m * n)) : (limbs m).length + (limbs n).length ≤ 1025 := by
  have h1 := hm.len
  have h2 := hn.len
  apply Nat.le_of_not_lt
  intro hlt
  have hb := mul_big (lm m) (lm n) (limbs_spec m).2.1 (limbs_spec n).2.1 (by omega) (by omega) hlt
  have hs := limbs_len_int.1 h.len
  rw [vl m, vl n, ← Int.natCast_mul] at hb
  exact absurd hb (Int.not_le.2 hs)

theorem mul_n {m n : Nat} (hm : Sz 1024 m) (hn : Sz 1024 n) : Ev (fun k => nat_mul.f k (limbs m) (limbs n)) (limbs (m * n)) := by
  have h1 := hm.len
  have h2 := hn.len
  have h := mul_ev (lm m) (lm n) (by omega)
  rw [vl m, vl n, ← Int.natCast_mul, Int.toNat_natCast] at h
  exact h
theorem fit_n {n : Nat} (hn : Sz 1024 n) : Ev (fun k => nat_fit.f k (limbs n)) (limbs n, 0) := by
  have h1 := hn.len
  have h := fit_ev (lm n) (by omega)
  rw [vl n, Int.toNat_natCast, fitS_ok hn] at h
  exact h

theorem pow_l1_step {x0 : List Int} {x1 x7 : Int} {rows : List (List Int)} {o x i : Nat} {r : List Int × Int} (hi : i < rows.length) (hl : rows.length ≤ 2) (hx : rd_L1 rows (i : Int) = limbs x)
    (so : Sz 1024 o) (sx : Sz 1024 x) (sox : Sz 1024 (o * x)) (next : Ev (fun k => nat_Pow.l1 k x0 x1 (limbs (o * x)) x7 rows (rows.length : Int) ((i + 1 : Nat) : Int)) r) :
    Ev (fun k => nat_Pow.l1 k x0 x1 (limbs o) x7 rows (rows.length : Int) (i : Int)) r := by
  have hlen := len_mul so sx sox
  refine Ev.succ (g := fun k => (nat_mul.f k (limbs o) (limbs x)).bind fun t214 => ((nat_fit.f k t214).bind fun bt217 => (if bt217.2 = 0 then (nat_Pow.l1 k x0 x1 bt217.1 x7 rows (rows.length : Int) ((i + 1 : Nat) : Int)) else (some (([] : List Int), bt217.2))))) (fun k => ?_) ?_
  · rw [nat_Pow.l1, if_pos (by omega), if_pos (by omega), if_pos (by omega), hx, wrap_in (x := ((limbs o).length : Int) + ((limbs x).length : Int)) (by omega) (by omega), if_neg (by omega), wrap_in (by omega) (by omega)]
    rfl
  · exact Ev.bind (mul_n so sx) (Ev.bind (fit_n sox) (Ev.pos rfl next))

theorem pow_l0 {a n : Nat} (sa : Sz 1024 a) (h : Sz 1024 (a ^ n)) (hn : n ≤ 32768) : ∀ j : Nat, j ≤ 16 → Ev (fun k => nat_Pow.l0 k (limbs a) (n : Int) (limbs (a ^ (n / 2 ^ j))) ((2 ^ j / 2 : Nat) : Int)) (limbs (a ^ n), 0) := by
  intro j
  induction j with
  | zero =>
    intro _
    rw [Nat.pow_zero, Nat.div_one]
    exact Ev.succ (g := fun _ => some (limbs (a ^ n), 0)) (fun k => by rw [nat_Pow.l0, if_neg (by omega)]) (Ev.const _)
  | succ j ih =>
    intro hj
    have ih := ih (by omega)
    have hp : 0 < 2 ^ j := Nat.pow_pos (by decide)
    have hp2 : 2 ^ j ≤ 2 ^ 16 := Nat.pow_le_pow_right (by decide) (by omega)
    have e1 : 2 ^ (j + 1) / 2 = 2 ^ j := by rw [Nat.pow_succ, Nat.mul_div_cancel _ (by decide)]
    have e2 : n / 2 ^ (j + 1) = n / 2 ^ j / 2 := by rw [Nat.pow_succ, Nat.div_div_eq_div_mul]
    rw [e1, e2]
    have e3 : Int.tdiv ((2 ^ j : Nat) : Int) 2 = ((2 ^ j / 2 : Nat) : Int) := (Int.ofNat_tdiv (2 ^ j) 2).symm
    have e4 : Int.tdiv (n : Int) ((2 ^ j : Nat) : Int) = ((n / 2 ^ j : Nat) : Int) := (Int.ofNat_tdiv n (2 ^ j)).symm
    have hle : n / 2 ^ j ≤ n := Nat.div_le_self _ _
    generalize hP : 2 ^ j = P at *
    generalize hq : n / P = q at *
    have e5 : Int.tmod (q : Int) 2 = ((q % 2 : Nat) : Int) := (Int.ofNat_tmod q 2).symm
    have so : Sz 1024 (a ^ (q / 2)) := pow_sz (by decide) h (by omega)
    have so2 : Sz 1024 (a ^ (q / 2) * a ^ (q / 2)) := by rw [← Nat.pow_add]; exact pow_sz (by decide) h (by omega)
    have tail : ∀ (o : Nat) (rows : List (List Int)), o = a ^ q → Ev (fun k => nat_Pow.l1 k (limbs a) (n : Int) (limbs o) (P : Int) rows (rows.length : Int) (rows.length : Int)) (limbs (a ^ n), 0) := by
      intro o rows ho
      subst ho
      refine Ev.succ (fun k => ?_) ih
      rw [nat_Pow.l1, if_neg (by omega), e3, wrap_in (by omega) (by omega)]
    rcases Nat.mod_two_eq_zero_or_one q with hb | hb
    · have hrow : ([limbs (a ^ (q / 2)), limbs a] : List (List Int)).take 1 = [limbs (a ^ (q / 2))] := rfl
      refine Ev.succ (g := fun k => nat_Pow.l1 k (limbs a) (n : Int) (limbs (a ^ (q / 2))) (P : Int) [limbs (a ^ (q / 2))] (([limbs (a ^ (q / 2))] : List (List Int)).length : Int) ((0 : Nat) : Int)) (fun k => ?_) ?_
      · rw [nat_Pow.l0, if_pos (by omega), Option.bind_some, if_neg (by omega), e4, wrap_in (x := (q : Int)) (by omega) (by omega), e5, hb, wrap_in (by omega) (by omega), if_pos (by omega), if_pos (by simp)]
        rfl
      · refine pow_l1_step (x := a ^ (q / 2)) (by simp) (by simp) rfl so so so2 ?_
        exact tail _ [limbs (a ^ (q / 2))] (by rw [← Nat.pow_add]; congr 1; omega)
    · have s3 : Sz 1024 (a ^ (q / 2) * a ^ (q / 2) * a) := by rw [← Nat.pow_add, ← Nat.pow_succ]; exact pow_sz (by decide) h (by omega)
      refine Ev.succ (g := fun k => nat_Pow.l1 k (limbs a) (n : Int) (limbs (a ^ (q / 2))) (P : Int) [limbs (a ^ (q / 2)), limbs a] (([limbs (a ^ (q / 2)), limbs a] : List (List Int)).length : Int) ((0 : Nat) : Int)) (fun k => ?_) ?_
      · rw [nat_Pow.l0, if_pos (by omega), Option.bind_some, if_neg (by omega), e4, wrap_in (x := (q : Int)) (by omega) (by omega), e5, hb, wrap_in (by omega) (by omega), if_pos (by omega), if_pos (by simp)]
        rfl
      · refine pow_l1_step (x := a ^ (q / 2)) (by simp) (by simp) rfl so so so2 ?_
        refine pow_l1_step (x := a) (by simp) (by simp) rfl so2 sa s3 ?_
        exact tail _ [limbs (a ^ (q / 2)), limbs a] (by rw [← Nat.pow_add, ← Nat.pow_succ]; congr 1; omega)

theorem pow_j2 {a n : Nat} (sa : Sz 1024 a) (h : Sz 1024 (a ^ n)) (hn : n ≤ 32768) : Ev (fun k => nat_Pow.j2 k (limbs a) (n : Int) (limbs 1)) (limbs (a ^ n), 0) := by
  have h0 := pow_l0 sa h hn 16 (by omega)
  rw [show n / 2 ^ 16 = 0 by omega, Nat.pow_zero, show ((2 ^ 16 / 2 : Nat) : Int) = 32768 from rfl] at h0
  exact Ev.succ (fun k => by rw [nat_Pow.j2, if_neg (by omega)]) h0

theorem Pow_ok {a n : Nat} (sa : Sz 1024 a) (h : Sz 1024 (a ^ n)) (hn : n ≤ 32768) : Ev (fun k => nat_Pow.f k (limbs a) (n : Int)) (limbs (a ^ n), 0) := by
  have hl := sa.len
  unfold nat_Pow.f
  refine Ev.bind_eq (Right_n sa) (Ev.pos rfl ?_)
  refine Ev.succ (g := fun k => (nat_Of.f k 1).bind fun t201 => (if ((limbs a).length : Int) = 0 then (nat_Pow.j1 k (limbs a) n t201 true) else (if ((limbs a).length : Int) = 1 then (if 0 < ((limbs a).length : Int) then (nat_Pow.j1 k (limbs a) n t201 ((rd (limbs a) 0) == 1)) else (none)) else (nat_Pow.j1 k (limbs a) n t201 false)))) (fun k => ?_) ?_
  · rw [nat_Pow.j0, if_neg (by rw [decide_eq_true_iff]; omega)]
  refine Ev.bind (Of_n (x := 1) (by decide)) ?_
  have full : Ev (fun k => nat_Pow.j1 k (limbs a) (n : Int) (limbs 1) false) (limbs (a ^ n), 0) :=
    Ev.succ (fun k => by rw [nat_Pow.j1, if_neg (by decide)]) (pow_j2 sa h hn)
  have one : a ^ n = a ^ (min n 1) → Ev (fun k => nat_Pow.j1 k (limbs a) (n : Int) (limbs 1) true) (limbs (a ^ n), 0) := by
    intro he
    rw [he] at h ⊢
    refine Ev.succ (fun k => ?_) (pow_j2 sa h (by omega))
    rw [nat_Pow.j1, if_pos rfl]
    congr 1
    unfold mn
    split <;> omega
  have hz : a = 0 → a ^ n = a ^ (min n 1) := by
    rintro rfl
    rcases Nat.eq_zero_or_pos n with rfl | hn0
    · rfl
    · rw [Nat.zero_pow hn0, Nat.zero_pow (by omega)]
  by_cases h0 : (limbs a).length = 0
  · exact Ev.pos (by omega) (one (hz (limbs_nil_iff.1 (List.eq_nil_of_length_eq_zero h0))))
  · refine Ev.neg (by omega) ?_
    by_cases h1 : (limbs a).length = 1
    · refine Ev.pos (by omega) (Ev.pos (by omega) ?_)
      by_cases he : rd (limbs a) 0 = 1
      · rw [show (rd (limbs a) 0 == 1) = true by rw [he]; rfl]
        obtain ⟨x, hx⟩ := List.length_eq_one_iff.1 h1
        have hv := vl a
        rw [hx] at he hv
        have : x = 1 := he
        subst this
        have ha : a = 1 := by simp [val] at hv; omega
        exact one (by rw [ha, Nat.one_pow, Nat.one_pow])
      · rw [beq_false_of_ne he]
        exact full
    · exact Ev.neg (by omega) full
end Go.Proofs.YtgpninmfbooijaaDoor.Px
