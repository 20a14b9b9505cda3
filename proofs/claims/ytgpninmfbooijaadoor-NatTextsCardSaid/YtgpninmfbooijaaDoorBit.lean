/-
  Bits and their value: plain facts on lists of whole numbers; no program in sight.
-/
import Derived.KernelRfl
namespace Go.Proofs.YtgpninmfbooijaaDoor.Bit

/-- The base of the limbs. -/
def BB : Int := 2
theorem BB_eq : BB = 2 := rfl
theorem BB_pos : 0 < BB := by rw [BB_eq]; omega

/-- The value of limbs, the lowest one first. -/
def val : List Int → Int
  | [] => 0
  | x :: xs => x + BB * val xs

/-- Every limb is from 0 to 1. -/
def Lim (xs : List Int) : Prop := ∀ x ∈ xs, 0 ≤ x ∧ x < BB

theorem Lim.nil : Lim [] := fun x hx => by simp at hx
theorem Lim.cons {x : Int} {xs : List Int} (h : Lim (x :: xs)) : (0 ≤ x ∧ x < BB) ∧ Lim xs :=
  ⟨h x (by simp), fun y hy => h y (by simp [hy])⟩
theorem Lim.mk {x : Int} {xs : List Int} (h0 : 0 ≤ x ∧ x < BB) (h : Lim xs) : Lim (x :: xs) := by
  intro y hy
  rcases List.mem_cons.1 hy with rfl | hy
  · exact h0
  · exact h y hy
theorem Lim.append {xs ys : List Int} (h : Lim xs) (h' : Lim ys) : Lim (xs ++ ys) := by
  intro y hy
  rcases List.mem_append.1 hy with hy | hy
  · exact h y hy
  · exact h' y hy
theorem Lim.take {xs : List Int} (h : Lim xs) (n : Nat) : Lim (xs.take n) := fun y hy => h y (List.mem_of_mem_take hy)
theorem Lim.drop {xs : List Int} (h : Lim xs) (n : Nat) : Lim (xs.drop n) := fun y hy => h y (List.mem_of_mem_drop hy)
theorem Lim.getD {xs : List Int} (h : Lim xs) (i : Nat) : 0 ≤ xs.getD i 0 ∧ xs.getD i 0 < BB := by
  rw [List.getD_eq_getElem?_getD]
  rcases Nat.lt_or_ge i xs.length with hi | hi
  · rw [List.getElem?_eq_getElem hi]
    exact h _ (List.getElem_mem hi)
  · rw [List.getElem?_eq_none hi]
    exact ⟨Int.le_refl _, BB_pos⟩
theorem Lim.set {xs : List Int} (h : Lim xs) (i : Nat) {v : Int} (hv : 0 ≤ v ∧ v < BB) : Lim (xs.set i v) := by
  intro y hy
  rcases List.mem_or_eq_of_mem_set hy with hy | rfl
  · exact h y hy
  · exact hv
theorem Lim.replicate (n : Nat) : Lim (List.replicate n 0) := by
  intro y hy
  rw [(List.mem_replicate.1 hy).2]
  exact ⟨Int.le_refl _, BB_pos⟩

theorem val_nil : val [] = 0 := rfl
theorem val_cons (x : Int) (xs : List Int) : val (x :: xs) = x + BB * val xs := rfl

theorem pow_pos (n : Nat) : 0 < BB ^ n := Int.pow_pos BB_pos
theorem pow_succ' (n : Nat) : BB ^ (n + 1) = BB * BB ^ n := by rw [Int.pow_succ, Int.mul_comm]

theorem val_append (xs ys : List Int) : val (xs ++ ys) = val xs + BB ^ xs.length * val ys := by
  induction xs with
  | nil => simp [val]
  | cons x xs ih =>
    simp only [List.cons_append, val, ih, List.length_cons, pow_succ']
    grind

theorem val_nonneg {xs : List Int} (h : Lim xs) : 0 ≤ val xs := by
  induction xs with
  | nil => simp [val]
  | cons x xs ih =>
    have := ih h.cons.2
    have h0 := h.cons.1.1
    have : 0 ≤ BB * val xs := Int.mul_nonneg (Int.le_of_lt BB_pos) this
    simp only [val]; omega

theorem val_lt {xs : List Int} (h : Lim xs) : val xs < BB ^ xs.length := by
  induction xs with
  | nil => simp [val]
  | cons x xs ih =>
    have i := ih h.cons.2
    have h0 := h.cons.1.2
    simp only [val, List.length_cons, pow_succ']
    have : BB * (val xs + 1) ≤ BB * BB ^ xs.length := Int.mul_le_mul_of_nonneg_left (by omega) (Int.le_of_lt BB_pos)
    rw [Int.mul_add] at this
    omega

theorem val_replicate (n : Nat) : val (List.replicate n 0) = 0 := by
  induction n with
  | zero => rfl
  | succ n ih => simp [List.replicate_succ, val, ih]

/-- One limb more of what was taken. -/
theorem val_take_succ (xs : List Int) (k : Nat) (h : k < xs.length) : val (xs.take (k + 1)) = val (xs.take k) + BB ^ k * xs.getD k 0 := by
  rw [List.take_succ_eq_append_getElem h, val_append]
  simp [val, List.getD_eq_getElem?_getD, List.getElem?_eq_getElem h, Nat.min_eq_left (Nat.le_of_lt h)]

theorem val_take_all (xs : List Int) (k : Nat) (h : xs.length ≤ k) : val (xs.take k) = val xs := by rw [List.take_of_length_le h]

/-- As if there were zeros behind the last limb. -/
theorem val_take_more (xs : List Int) (k : Nat) : val (xs.take (k + 1)) = val (xs.take k) + BB ^ k * xs.getD k 0 := by
  rcases Nat.lt_or_ge k xs.length with h | h
  · exact val_take_succ xs k h
  · rw [val_take_all xs k h, val_take_all xs (k + 1) (by omega), List.getD_eq_getElem?_getD, List.getElem?_eq_none h]
    simp

theorem val_split (xs : List Int) (k : Nat) (h : k ≤ xs.length) : val xs = val (xs.take k) + BB ^ k * val (xs.drop k) := by
  have := val_append (xs.take k) (xs.drop k)
  rw [List.take_append_drop] at this
  rw [this, List.length_take, Nat.min_eq_left h]

theorem val_drop_succ (xs : List Int) (k : Nat) (h : k < xs.length) : val (xs.drop k) = xs.getD k 0 + BB * val (xs.drop (k + 1)) := by
  rw [List.drop_eq_getElem_cons h]
  simp [val, List.getD_eq_getElem?_getD, List.getElem?_eq_getElem h]

theorem val_set (xs : List Int) (k : Nat) (h : k < xs.length) (v : Int) : val (xs.set k v) = val xs + BB ^ k * (v - xs.getD k 0) := by
  induction xs generalizing k with
  | nil => simp at h
  | cons x xs ih =>
    cases k with
    | zero => simp [val]; omega
    | succ k =>
      simp only [List.set_cons_succ, val, ih k (by simpa using h), List.getD_cons_succ, pow_succ']
      grind

/-! ### Right limbs -/
/-- No zero at the end. -/
def Tight (xs : List Int) : Prop := ∀ n, xs.length = n + 1 → xs.getD n 0 ≠ 0
theorem Tight.nil : Tight [] := fun n h => by simp at h

theorem pow_le_val {xs : List Int} (h : Lim xs) (n : Nat) (hn : xs.length = n + 1) (h0 : xs.getD n 0 ≠ 0) : BB ^ n ≤ val xs := by
  have e := val_split xs n (by omega)
  have e2 := val_drop_succ xs n (by omega)
  have hd : xs.drop (n + 1) = [] := List.drop_eq_nil_of_le (by omega)
  rw [hd, val_nil] at e2
  have hnn := val_nonneg (h.take n)
  have hg := h.getD n
  have : BB ^ n * 1 ≤ BB ^ n * xs.getD n 0 := Int.mul_le_mul_of_nonneg_left (by omega) (Int.le_of_lt (pow_pos n))
  rw [e, e2]
  simp only [Int.mul_zero, Int.add_zero]
  omega

theorem Tight.pos {xs : List Int} (h : Lim xs) (ht : Tight xs) (hne : xs ≠ []) : 0 < val xs := by
  obtain ⟨n, hn⟩ : ∃ n, xs.length = n + 1 := ⟨xs.length - 1, by have := List.length_pos_iff.2 hne; omega⟩
  exact Int.lt_of_lt_of_le (pow_pos n) (pow_le_val h n hn (ht n hn))

theorem Tight.tail {x : Int} {xs : List Int} (h : Tight (x :: xs)) : Tight xs := by
  intro n hn
  have := h (n + 1) (by simp [hn])
  simpa using this

/-- Limbs with the same value are the same. -/
theorem val_inj {xs ys : List Int} (hx : Lim xs) (hy : Lim ys) (tx : Tight xs) (ty : Tight ys) (h : val xs = val ys) : xs = ys := by
  induction xs generalizing ys with
  | nil =>
    cases ys with
    | nil => rfl
    | cons y ys => have := Tight.pos hy ty (by simp); rw [← h, val_nil] at this; omega
  | cons x xs ih =>
    cases ys with
    | nil => have := Tight.pos hx tx (by simp); rw [h, val_nil] at this; omega
    | cons y ys =>
      simp only [val] at h
      have h1 := hx.cons.1
      have h2 := hy.cons.1
      simp only [BB_eq] at h h1 h2
      have e1 : x = y := by omega
      have e2 : val xs = val ys := by omega
      rw [e1, ih hx.cons.2 hy.cons.2 tx.tail ty.tail e2]

/-- As many limbs, no zeros needed at the end. -/
theorem val_inj_len {xs ys : List Int} (hx : Lim xs) (hy : Lim ys) (hl : xs.length = ys.length) (h : val xs = val ys) : xs = ys := by
  induction xs generalizing ys with
  | nil => cases ys with
    | nil => rfl
    | cons y ys => simp at hl
  | cons x xs ih =>
    cases ys with
    | nil => simp at hl
    | cons y ys =>
      simp only [val] at h
      have h1 := hx.cons.1
      have h2 := hy.cons.1
      simp only [BB_eq] at h h1 h2
      have e1 : x = y := by omega
      have e2 : val xs = val ys := by omega
      rw [e1, ih hx.cons.2 hy.cons.2 (by simpa using hl) e2]

/-- The limbs of a number. -/
def limbs (n : Nat) : List Int := if h : n = 0 then [] else ((n % 2 : Nat) : Int) :: limbs (n / 2)
termination_by n
decreasing_by omega

theorem limbs_zero : limbs 0 = [] := by unfold limbs; simp
theorem limbs_pos {n : Nat} (h : 0 < n) : limbs n = ((n % 2 : Nat) : Int) :: limbs (n / 2) := by
  rw [limbs]; rw [dif_neg (by omega)]
theorem limbs_spec (n : Nat) : Lim (limbs n) ∧ Tight (limbs n) ∧ val (limbs n) = n := by
  induction n using Nat.strongRecOn with
  | ind n ih =>
    rcases Nat.eq_zero_or_pos n with rfl | h
    · rw [limbs_zero]; exact ⟨Lim.nil, Tight.nil, rfl⟩
    · obtain ⟨h1, h2, h3⟩ := ih (n / 2) (by omega)
      rw [limbs_pos h]
      refine ⟨Lim.mk ⟨by omega, by rw [BB_eq]; omega⟩ h1, ?_, ?_⟩
      · intro m hm
        cases m with
        | zero =>
          have hl : limbs (n / 2) = [] := List.eq_nil_of_length_eq_zero (by simpa using hm)
          rw [hl, val_nil] at h3
          simp only [List.getD_cons_zero]
          omega
        | succ m =>
          simp only [List.getD_cons_succ]
          exact h2 m (by simpa using hm)
      · simp only [val, h3, BB_eq]; omega

theorem limbs_of {xs : List Int} (hx : Lim xs) (tx : Tight xs) : xs = limbs (val xs).toNat := by
  obtain ⟨h1, h2, h3⟩ := limbs_spec (val xs).toNat
  refine val_inj hx h1 tx h2 ?_
  rw [h3]; exact (Int.toNat_of_nonneg (val_nonneg hx)).symm
theorem limbs_length_le {n k : Nat} : (limbs n).length ≤ k ↔ n < 2 ^ k := by
  obtain ⟨h1, h2, h3⟩ := limbs_spec n
  have hp : ∀ j : Nat, BB ^ j = ((2 ^ j : Nat) : Int) := fun j => by rw [BB_eq]; simp
  constructor
  · intro h
    have := val_lt h1
    rw [h3, hp] at this
    have h4 : n < 2 ^ (limbs n).length := by omega
    exact Nat.lt_of_lt_of_le h4 (Nat.pow_le_pow_right (by omega) h)
  · intro h
    apply Nat.le_of_not_lt
    intro hk
    obtain ⟨m, hm⟩ : ∃ m, (limbs n).length = m + 1 := ⟨(limbs n).length - 1, by omega⟩
    have := pow_le_val h1 m hm (h2 m hm)
    rw [h3, hp] at this
    have h4 : 2 ^ m ≤ n := by omega
    have := Nat.pow_le_pow_right (n := 2) (by omega) (show k ≤ m by omega)
    omega

theorem limbs_inj {a b : Nat} (h : limbs a = limbs b) : a = b := by
  have h1 := (limbs_spec a).2.2
  have h2 := (limbs_spec b).2.2
  rw [h, h2] at h1
  omega
theorem limbs_nil_iff {n : Nat} : limbs n = [] ↔ n = 0 := by
  constructor
  · intro h; rw [← limbs_zero] at h; exact limbs_inj h
  · rintro rfl; exact limbs_zero

/-- What is left of limbs when zeros at the end are cut off. -/
theorem trim_limbs {xs : List Int} (h : Lim xs) (m : Nat) (hm : m ≤ xs.length) (hz : ∀ j, m ≤ j → j < xs.length → xs.getD j 0 = 0) (ht : 0 < m → xs.getD (m - 1) 0 ≠ 0) :
    xs.take m = limbs (val xs).toNat := by
  have hv : val (xs.drop m) = 0 := by
    have : xs.drop m = List.replicate (xs.length - m) 0 := by
      apply List.ext_getElem
      · simp
      · intro i h1 h2
        simp only [List.getElem_drop, List.getElem_replicate]
        have := hz (m + i) (by omega) (by simp at h1; omega)
        rw [List.getD_eq_getElem?_getD, List.getElem?_eq_getElem (by simp at h1; omega)] at this
        simpa using this
    rw [this, val_replicate]
  have e := val_split xs m hm
  rw [hv, Int.mul_zero, Int.add_zero] at e
  rw [e]
  refine limbs_of (h.take m) ?_
  intro n hn
  rw [List.length_take, Nat.min_eq_left hm] at hn
  have := ht (by omega)
  rw [hn] at this
  simp only [Nat.add_sub_cancel] at this
  rw [List.getD_eq_getElem?_getD] at this ⊢
  rw [List.getElem?_take]
  rw [if_pos (by omega)]
  exact this
end Go.Proofs.YtgpninmfbooijaaDoor.Bit
