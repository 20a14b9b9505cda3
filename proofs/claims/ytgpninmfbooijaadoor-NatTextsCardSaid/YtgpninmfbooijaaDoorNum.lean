/-
  Limbs and their value: plain facts on lists of whole numbers; no program in sight.
-/
import Derived.KernelRfl
namespace Go.Proofs.YtgpninmfbooijaaDoor.Num

/-- The base of the limbs. -/
def BB : Int := 4294967296
theorem BB_eq : BB = 4294967296 := rfl
theorem BB_pos : 0 < BB := by rw [BB_eq]; omega

/-- The value of limbs, the lowest one first. -/
def val : List Int → Int
  | [] => 0
  | x :: xs => x + BB * val xs

/-- Every limb is from 0 to 2^32 - 1. -/
def Lim (xs : List Int) : Prop := ∀ x ∈ xs, 0 ≤ x ∧ x < BB

theorem Lim.nil : Lim [] := fun x hx => by simp at hx
theorem Lim.cons {x : Int} {xs : List Int} (h : Lim (x :: xs)) : (0 ≤ x ∧ x < BB) ∧ Lim xs :=
  ⟨h x (by simp), fun y hy => h y (by simp [hy])⟩
theorem Lim.mk {x : Int} {xs : List Int} (h0 : 0 ≤ x ∧ x < BB) (h : Lim xs) : Lim (x :: xs) := by
  intro y hy
  rcases List.mem_cons.1 hy with rfl | hy
  · exact h0
  · exact h y hy
theorem Lim.append {xs ys : List Int} (h : Lim xs) (h' : Lim ys) : Lim (xs ++ ys) := by
  intro y hy
  rcases List.mem_append.1 hy with hy | hy
  · exact h y hy
  · exact h' y hy
theorem Lim.take {xs : List Int} (h : Lim xs) (n : Nat) : Lim (xs.take n) := fun y hy => h y (List.mem_of_mem_take hy)
theorem Lim.drop {xs : List Int} (h : Lim xs) (n : Nat) : Lim (xs.drop n) := fun y hy => h y (List.mem_of_mem_drop hy)
theorem Lim.getD {xs : List Int} (h : Lim xs) (i : Nat) : 0 ≤ xs.getD i 0 ∧ xs.getD i 0 < BB := by
  rw [List.getD_eq_getElem?_getD]
  rcases Nat.lt_or_ge i xs.length with hi | hi
  · rw [List.getElem?_eq_getElem hi]
    exact h _ (List.getElem_mem hi)
  · rw [List.getElem?_eq_none hi]
    exact ⟨Int.le_refl _, BB_pos⟩
theorem Lim.set {xs : List Int} (h : Lim xs) (i : Nat) {v : Int} (hv : 0 ≤ v ∧ v < BB) : Lim (xs.set i v) := by
  intro y hy
  rcases List.mem_or_eq_of_mem_set hy with hy | rfl
  · exact h y hy
  · exact hv
theorem Lim.replicate (n : Nat) : Lim (List.replicate n 0) := by
  intro y hy
  rw [(List.mem_replicate.1 hy).2]
  exact ⟨Int.le_refl _, BB_pos⟩

theorem val_nil : val [] = 0 := rfl
theorem val_cons (x : Int) (xs : List Int) : val (x :: xs) = x + BB * val xs := rfl

theorem pow_pos (n : Nat) : 0 < BB ^ n := Int.pow_pos BB_pos
theorem pow_succ' (n : Nat) : BB ^ (n + 1) = BB * BB ^ n := by rw [Int.pow_succ, Int.mul_comm]

theorem val_append (xs ys : List Int) : val (xs ++ ys) = val xs + BB ^ xs.length * val ys := by
  induction xs with
  | nil => simp [val]
  | cons x xs ih =>
    simp only [List.cons_append, val, ih, List.length_cons, pow_succ']
    grind

theorem val_nonneg {xs : List Int} (h : Lim xs) : 0 ≤ val xs := by
  induction xs with
  | nil => simp [val]
  | cons x xs ih =>
    have := ih h.cons.2
    have h0 := h.cons.1.1
    have : 0 ≤ BB * val xs := Int.mul_nonneg (Int.le_of_lt BB_pos) this
    simp only [val]; omega

theorem val_lt {xs : List Int} (h : Lim xs) : val xs < BB ^ xs.length := by
  induction xs with
  | nil => simp [val]
  | cons x xs ih =>
    have i := ih h.cons.2
    have h0 := h.cons.1.2
    simp only [val, List.length_cons, pow_succ']
    have : BB * (val xs + 1) ≤ BB * BB ^ xs.length := Int.mul_le_mul_of_nonneg_left (by omega) (Int.le_of_lt BB_pos)
    rw [Int.mul_add] at this
    omega

theorem val_replicate (n : Nat) : val (List.replicate n 0) = 0 := by
  induction n with
  | zero => rfl
  | succ n ih => simp [List.replicate_succ, val, ih]

/-- One limb more of what was taken. -/
theorem val_take_succ (xs : List Int) (k : Nat) (h : k < xs.length) : val (xs.take (k + 1)) = val (xs.take k) + BB ^ k * xs.getD k 0 := by
  rw [List.take_succ_eq_append_getElem h, val_append]
  simp [val, List.getD_eq_getElem?_getD, List.getElem?_eq_getElem h, Nat.min_eq_left (Nat.le_of_lt h)]

theorem val_take_all (xs : List Int) (k : Nat) (h : xs.length ≤ k) : val (xs.take k) = val xs := by rw [List.take_of_length_le h]

/-- As if there were zeros behind the last limb. -/
theorem val_take_more (xs : List Int) (k : Nat) : val (xs.take (k + 1)) = val (xs.take k) + BB ^ k * xs.getD k 0 := by
  rcases Nat.lt_or_ge k xs.length with h | h
  · exact val_take_succ xs k h
  · rw [val_take_all xs k h, val_take_all xs (k + 1) (by omega), List.getD_eq_getElem?_getD, List.getElem?_eq_none h]
    simp

theorem val_split (xs : List Int) (k : Nat) (h : k ≤ xs.length) : val xs = val (xs.take k) + BB ^ k * val (xs.drop k) := by
  have := val_append (xs.take k) (xs.drop k)
  rw [List.take_append_drop] at this
  rw [this, List.length_take, Nat.min_eq_left h]

theorem val_drop_succ (xs : List Int) (k : Nat) (h : k < xs.length) : val (xs.drop k) = xs.getD k 0 + BB * val (xs.drop (k + 1)) := by
  rw [List.drop_eq_getElem_cons h]
  simp [val, List.getD_eq_getElem?_getD, List.getElem?_eq_getElem h]

theorem val_set (xs : List Int) (k : Nat) (h : k < xs.length) (v : Int) : val (xs.set k v) = val xs + BB ^ k * (v - xs.getD k 0) := by
  induction xs generalizing k with
  | nil => simp at h
  | cons x xs ih =>
    cases k with
    | zero => simp [val]; omega
    | succ k =>
      simp only [List.set_cons_succ, val, ih k (by simpa using h), List.getD_cons_succ, pow_succ']
      grind

/-! ### Right limbs -/
/-- No zero at the end. -/
def Tight (xs : List Int) : Prop := ∀ n, xs.length = n + 1 → xs.getD n 0 ≠ 0
theorem Tight.nil : Tight [] := fun n h => by simp at h

theorem pow_le_val {xs : List Int} (h : Lim xs) (n : Nat) (hn : xs.length = n + 1) (h0 : xs.getD n 0 ≠ 0) : BB ^ n ≤ val xs := by
  have e := val_split xs n (by omega)
  have e2 := val_drop_succ xs n (by omega)
  have hd : xs.drop (n + 1) = [] := List.drop_eq_nil_of_le (by omega)
  rw [hd, val_nil] at e2
  have hnn := val_nonneg (h.take n)
  have hg := h.getD n
  have : BB ^ n * 1 ≤ BB ^ n * xs.getD n 0 := Int.mul_le_mul_of_nonneg_left (by omega) (Int.le_of_lt (pow_pos n))
  rw [e, e2]
  simp only [Int.mul_zero, Int.add_zero]
  omega

theorem Tight.pos {xs : List Int} (h : Lim xs) (ht : Tight xs) (hne : xs ≠ []) : 0 < val xs := by
  obtain ⟨n, hn⟩ : ∃ n, xs.length = n + 1 := ⟨xs.length - 1, by have := List.length_pos_iff.2 hne; omega⟩
  exact Int.lt_of_lt_of_le (pow_pos n) (pow_le_val h n hn (ht n hn))

theorem Tight.tail {x : Int} {xs : List Int} (h : Tight (x :: xs)) : Tight xs := by
  intro n hn
  have := h (n + 1) (by simp [hn])
  simpa using this

/-- Limbs with the same value are the same. -/
theorem val_inj {xs ys : List Int} (hx : Lim xs) (hy : Lim ys) (tx : Tight xs) (ty : Tight ys) (h : val xs = val ys) : xs = ys := by
  induction xs generalizing ys with
  | nil =>
    cases ys with
    | nil => rfl
    | cons y ys => have := Tight.pos hy ty (by simp); rw [← h, val_nil] at this; omega
  | cons x xs ih =>
    cases ys with
    | nil => have := Tight.pos hx tx (by simp); rw [h, val_nil] at this; omega
    | cons y ys =>
      simp only [val] at h
      have h1 := hx.cons.1
      have h2 := hy.cons.1
      simp only [BB_eq] at h h1 h2
      have e1 : x = y := by omega
      have e2 : val xs = val ys := by omega
      rw [e1, ih hx.cons.2 hy.cons.2 tx.tail ty.tail e2]

/-- As many limbs, no zeros needed at the end. -/
theorem val_inj_len {xs ys : List Int} (hx : Lim xs) (hy : Lim ys) (hl : xs.length = ys.length) (h : val xs = val ys) : xs = ys := by
  induction xs generalizing ys with
  | nil => cases ys with
    | nil => rfl
    | cons y ys => simp at hl
  | cons x xs ih =>
    cases ys with
    | nil => simp at hl
    | cons y ys =>
      simp only [val] at h
      have h1 := hx.cons.1
      have h2 := hy.cons.1
      simp only [BB_eq] at h h1 h2
      have e1 : x = y := by omega
      have e2 : val xs = val ys := by omega
      rw [e1, ih hx.cons.2 hy.cons.2 (by simpa using hl) e2]

/-- The limbs of a number. -/
def limbs (n : Nat) : List Int := if h : n = 0 then [] else ((n % 4294967296 : Nat) : Int) :: limbs (n / 4294967296)
termination_by n
decreasing_by omega

theorem limbs_zero : limbs 0 = [] := by unfold limbs; simp
theorem limbs_pos {n : Nat} (h : 0 < n) : limbs n = ((n % 4294967296 : Nat) : Int) :: limbs (n / 4294967296) := by
  rw [limbs]; rw [dif_neg (by omega)]
theorem limbs_spec (n : Nat) : Lim (limbs n) ∧ Tight (limbs n) ∧ val (limbs n) = n := by
  induction n using Nat.strongRecOn with
  | ind n ih =>
    rcases Nat.eq_zero_or_pos n with rfl | h
    · rw [limbs_zero]; exact ⟨Lim.nil, Tight.nil, rfl⟩
    · obtain ⟨h1, h2, h3⟩ := ih (n / 4294967296) (by omega)
      rw [limbs_pos h]
      refine ⟨Lim.mk ⟨by omega, by rw [BB_eq]; omega⟩ h1, ?_, ?_⟩
      · intro m hm
        cases m with
        | zero =>
          have hl : limbs (n / 4294967296) = [] := List.eq_nil_of_length_eq_zero (by simpa using hm)
          rw [hl, val_nil] at h3
          simp only [List.getD_cons_zero]
          omega
        | succ m =>
          simp only [List.getD_cons_succ]
          exact h2 m (by simpa using hm)
      · simp only [val, h3, BB_eq]; omega

theorem limbs_of {xs : List Int} (hx : Lim xs) (tx : Tight xs) : xs = limbs (val xs).toNat := by
  obtain ⟨h1, h2, h3⟩ := limbs_spec (val xs).toNat
  refine val_inj hx h1 tx h2 ?_
  rw [h3]; exact (Int.toNat_of_nonneg (val_nonneg hx)).symm
theorem limbs_length_le {n k : Nat} : (limbs n).length ≤ k ↔ n < 4294967296 ^ k := by
  obtain ⟨h1, h2, h3⟩ := limbs_spec n
  have hp : ∀ j : Nat, BB ^ j = ((4294967296 ^ j : Nat) : Int) := fun j => by rw [BB_eq]; simp
  constructor
  · intro h
    have := val_lt h1
    rw [h3, hp] at this
    have h4 : n < 4294967296 ^ (limbs n).length := by omega
    exact Nat.lt_of_lt_of_le h4 (Nat.pow_le_pow_right (by omega) h)
  · intro h
    apply Nat.le_of_not_lt
    intro hk
    obtain ⟨m, hm⟩ : ∃ m, (limbs n).length = m + 1 := ⟨(limbs n).length - 1, by omega⟩
    have := pow_le_val h1 m hm (h2 m hm)
    rw [h3, hp] at this
    have h4 : 4294967296 ^ m ≤ n := by omega
    have := Nat.pow_le_pow_right (n := 4294967296) (by omega) (show k ≤ m by omega)
    omega

theorem limbs_inj {a b : Nat} (h : limbs a = limbs b) : a = b := by
  have h1 := (limbs_spec a).2.2
  have h2 := (limbs_spec b).2.2
  rw [h, h2] at h1
  omega
theorem limbs_nil_iff {n : Nat} : limbs n = [] ↔ n = 0 := by
  constructor
  · intro h; rw [← limbs_zero] at h; exact limbs_inj h
  · rintro rfl; exact limbs_zero

/-- What is left of limbs when zeros at the end are cut off. -/
theorem trim_limbs {xs : List Int} (h : Lim xs) (m : Nat) (hm : m ≤ xs.length) (hz : ∀ j, m ≤ j → j < xs.length → xs.getD j 0 = 0) (ht : 0 < m → xs.getD (m - 1) 0 ≠ 0) :
    xs.take m = limbs (val xs).toNat := by
  have hv : val (xs.drop m) = 0 := by
    have : xs.drop m = List.replicate (xs.length - m) 0 := by
      apply List.ext_getElem
      · simp
      · intro i h1 h2
        simp only [List.getElem_drop, List.getElem_replicate]
        have := hz (m + i) (by omega) (by simp at h1; omega)
        rw [List.getD_eq_getElem?_getD, List.getElem?_eq_getElem (by simp at h1; omega)] at this
        simpa using this
    rw [this, val_replicate]
  have e := val_split xs m hm
  rw [hv, Int.mul_zero, Int.add_zero] at e
  rw [e]
  refine limbs_of (h.take m) ?_
  intro n hn
  rw [List.length_take, Nat.min_eq_left hm] at hn
  have := ht (by omega)
  rw [hn] at this
  simp only [Nat.add_sub_cancel] at this
  rw [List.getD_eq_getElem?_getD] at this ⊢
  rw [List.getElem?_take]
  rw [if_pos (by omega)]
  exact this
end Go.Proofs.YtgpninmfbooijaaDoor.Num

/-
  What one round of each loop on limbs does to the values; plain facts, no program in sight.
-/
namespace Go.Proofs.YtgpninmfbooijaaDoor.Num

theorem val_take_set (L : List Int) (k : Nat) (h : k < L.length) (v : Int) : val ((L.set k v).take (k + 1)) = val (L.take k) + BB ^ k * v := by
  rw [val_take_succ _ k (by simpa using h), List.take_set_of_le (Nat.le_refl _)]
  simp [List.getD_eq_getElem?_getD, h]

theorem ediv_emod_BB (x : Int) : x = x % BB + BB * (x / BB) := by have := Int.mul_ediv_add_emod x BB; omega

theorem emod_BB (x : Int) : 0 ≤ x % BB ∧ x % BB < BB := ⟨Int.emod_nonneg _ (by rw [BB_eq]; omega), Int.emod_lt_of_pos _ BB_pos⟩

/-! ### sums -/
theorem add_step {a b L : List Int} {k : Nat} {c : Int} (hk : k < L.length)
    (h : val (L.take k) + BB ^ k * c = val (a.take k) + val (b.take k)) :
    val ((L.set k ((c + (a.getD k 0 + b.getD k 0)) % BB)).take (k + 1)) + BB ^ (k + 1) * ((c + (a.getD k 0 + b.getD k 0)) / BB) = val (a.take (k + 1)) + val (b.take (k + 1)) := by
  rw [val_take_set L k hk, val_take_more a k, val_take_more b k, pow_succ']
  have e := ediv_emod_BB (c + (a.getD k 0 + b.getD k 0))
  generalize (c + (a.getD k 0 + b.getD k 0)) / BB = q at *
  generalize (c + (a.getD k 0 + b.getD k 0)) % BB = r at *
  grind

theorem add_carry {a b : List Int} (ha : Lim a) (hb : Lim b) (k : Nat) {c : Int} (h0 : 0 ≤ c) (h1 : c ≤ 1) :
    0 ≤ (c + (a.getD k 0 + b.getD k 0)) / BB ∧ (c + (a.getD k 0 + b.getD k 0)) / BB ≤ 1 := by
  have h2 := ha.getD k
  have h3 := hb.getD k
  simp only [BB_eq] at *
  omega

/-! ### differences -/
/-- x is what the limb reads when 'less' is taken off in 64 bits: 'x % 2^64'; what is owed is its highest bit. -/
theorem sub_limb {a l : Int} (ha : 0 ≤ a ∧ a < BB) (hl : 0 ≤ l ∧ l ≤ BB) :
    ((a - l) % 18446744073709551616) % BB = (a - l) % BB ∧ ((a - l) % 18446744073709551616) / 9223372036854775808 = (if a < l then 1 else 0) ∧
    (a - l) = (a - l) % BB - BB * (if a < l then 1 else 0) := by
  simp only [BB_eq] at *
  refine ⟨by omega, ?_, ?_⟩
  · split <;> omega
  · split <;> omega

theorem sub_step {a b L : List Int} {k : Nat} {o o' r : Int} (hk : k < L.length)
    (h : val (L.take k) - BB ^ k * o = val (a.take k) - val (b.take k))
    (e : a.getD k 0 - (o + b.getD k 0) = r - BB * o') :
    val ((L.set k r).take (k + 1)) - BB ^ (k + 1) * o' = val (a.take (k + 1)) - val (b.take (k + 1)) := by
  rw [val_take_set L k hk, val_take_more a k, val_take_more b k, pow_succ']
  grind

/-! ### products -/
/-- One limb of the row of x: what stands at i + k, what is carried. -/
theorem mul_step {b L L0 : List Int} {i k : Nat} {x c : Int} (hk : i + k < L.length)
    (h : val L + BB ^ (i + k) * c = val L0 + BB ^ i * (x * val (b.take k))) :
    val (L.set (i + k) ((c + (x * b.getD k 0 + L.getD (i + k) 0)) % BB)) + BB ^ (i + (k + 1)) * ((c + (x * b.getD k 0 + L.getD (i + k) 0)) / BB)
      = val L0 + BB ^ i * (x * val (b.take (k + 1))) := by
  rw [val_set L (i + k) hk, val_take_more b k, ← Nat.add_assoc, pow_succ']
  have e := ediv_emod_BB (c + (x * b.getD k 0 + L.getD (i + k) 0))
  generalize (c + (x * b.getD k 0 + L.getD (i + k) 0)) / BB = q at *
  generalize (c + (x * b.getD k 0 + L.getD (i + k) 0)) % BB = r at *
  rw [Int.pow_add] at *
  grind

theorem mul_le_sq {x y m : Int} (hx : 0 ≤ x ∧ x ≤ m) (hy : 0 ≤ y ∧ y ≤ m) : 0 ≤ x * y ∧ x * y ≤ m * m :=
  ⟨Int.mul_nonneg hx.1 hy.1, Int.le_trans (Int.mul_le_mul_of_nonneg_left hy.2 hx.1) (Int.mul_le_mul_of_nonneg_right hx.2 (by omega))⟩

theorem mul_word {x y o c : Int} (hx : 0 ≤ x ∧ x < BB) (hy : 0 ≤ y ∧ y < BB) (ho : 0 ≤ o ∧ o < BB) (hc : 0 ≤ c ∧ c < BB) :
    0 ≤ x * y ∧ x * y ≤ 18446744065119617025 ∧ 0 ≤ c + (x * y + o) ∧ c + (x * y + o) ≤ 18446744073709551615 ∧ 0 ≤ (c + (x * y + o)) / BB ∧ (c + (x * y + o)) / BB < BB := by
  have h := mul_le_sq (m := 4294967295) ⟨hx.1, by rw [BB_eq] at hx; omega⟩ ⟨hy.1, by rw [BB_eq] at hy; omega⟩
  simp only [BB_eq] at *
  omega

/-- Behind the row: the carry stands at i + |b|. -/
theorem mul_row {b L L0 : List Int} {i : Nat} {x c : Int} (hk : i + b.length < L.length) (hz : L.getD (i + b.length) 0 = 0)
    (h : val L + BB ^ (i + b.length) * c = val L0 + BB ^ i * (x * val (b.take b.length))) :
    val (L.set (i + b.length) c) = val L0 + BB ^ i * (x * val b) := by
  rw [val_set L _ hk, hz]
  rw [List.take_length] at h
  grind

/-! ### division by one limb, from the top -/
/-! ### the step of a long division: how good the guess is -/
section
variable {U V v1 v2 top u2 P Vl Ul : Int}

/-- The first guess: the limb that is sought is not above it. -/
theorem guess_first (hP : 0 < P) (hv1 : 0 < v1) (hv2 : 0 ≤ v2) (hV : V = (v1 * BB + v2) * P + Vl) (hVl : 0 ≤ Vl)
    (hU : U = (top * BB + u2) * P + Ul) (hUl : Ul < P) (hu2 : u2 < BB) (htop : 0 ≤ top) : U < (top / v1 + 1) * V := by
  have e := Int.mul_ediv_add_emod top v1
  have h1 := Int.emod_lt_of_pos top hv1
  have h0 : 0 ≤ top / v1 := Int.ediv_nonneg htop (Int.le_of_lt hv1)
  generalize top / v1 = g at *
  generalize top % v1 = r at *
  have a1 : top + 1 ≤ (g + 1) * v1 := by
    have : (g + 1) * v1 = v1 * g + v1 := by grind
    omega
  have a2 : (top + 1) * BB ≤ (g + 1) * v1 * BB := Int.mul_le_mul_of_nonneg_right a1 (Int.le_of_lt BB_pos)
  have a3 : (top + 1) * BB * P ≤ (g + 1) * v1 * BB * P := Int.mul_le_mul_of_nonneg_right a2 (Int.le_of_lt hP)
  have a4 : (top * BB + u2 + 1) * P ≤ (top + 1) * BB * P := Int.mul_le_mul_of_nonneg_right (by rw [Int.add_mul]; omega) (Int.le_of_lt hP)
  have a5 : 0 ≤ (g + 1) * (v2 * P) := Int.mul_nonneg (by omega) (Int.mul_nonneg hv2 (Int.le_of_lt hP))
  have a6 : 0 ≤ (g + 1) * Vl := Int.mul_nonneg (by omega) hVl
  have a7 : (g + 1) * V = (g + 1) * v1 * BB * P + (g + 1) * (v2 * P) + (g + 1) * Vl := by rw [hV]; grind
  have a8 : (top * BB + u2 + 1) * P = (top * BB + u2) * P + P := by grind
  omega

/-- A guess that is seen to be too great. -/
theorem guess_down {g r : Int} (hP : 0 < P) (hV : V = (v1 * BB + v2) * P + Vl) (hVl : 0 ≤ Vl)
    (hU : U = (top * BB + u2) * P + Ul) (hUl : Ul < P) (hg : 0 ≤ g) (ht : top = g * v1 + r) (h : r * BB + u2 < g * v2) : U < g * V := by
  have a1 : top * BB + u2 + 1 ≤ g * (v1 * BB + v2) := by
    have : g * (v1 * BB + v2) = g * v1 * BB + g * v2 := by grind
    rw [this, ht, Int.add_mul]
    omega
  have a2 : (top * BB + u2 + 1) * P ≤ g * (v1 * BB + v2) * P := Int.mul_le_mul_of_nonneg_right a1 (Int.le_of_lt hP)
  have a3 : g * V = g * (v1 * BB + v2) * P + g * Vl := by rw [hV]; grind
  have a4 : 0 ≤ g * Vl := Int.mul_nonneg hg hVl
  have a5 : (top * BB + u2 + 1) * P = (top * BB + u2) * P + P := by grind
  omega

theorem guess_down_great {g : Int} (hV : 0 ≤ V) (hUV : U < BB * V) (h : BB ≤ g) : U < g * V :=
  Int.lt_of_lt_of_le hUV (Int.mul_le_mul_of_nonneg_right h hV)

/-- The last guess: too great by one at the most. -/
theorem guess_last {g r : Int} (hP : 0 < P) (hv1' : BB ≤ v1 * BB) (hv2 : 0 ≤ v2) (hV : V = (v1 * BB + v2) * P + Vl) (hVl : 0 ≤ Vl) (hVl' : Vl < P)
    (hU : U = (top * BB + u2) * P + Ul) (hUl : 0 ≤ Ul) (hgB : g < BB) (ht : top = g * v1 + r) (h : g * v2 ≤ r * BB + u2) : (g - 1) * V ≤ U := by
  have a1 : g * (v1 * BB + v2) ≤ top * BB + u2 := by
    have : g * (v1 * BB + v2) = g * v1 * BB + g * v2 := by grind
    rw [this, ht, Int.add_mul]
    omega
  have a2 : g * (v1 * BB + v2) * P ≤ (top * BB + u2) * P := Int.mul_le_mul_of_nonneg_right a1 (Int.le_of_lt hP)
  have a3 : (g - 1) * V = g * (v1 * BB + v2) * P + g * Vl - (v1 * BB + v2) * P - Vl := by rw [hV]; grind
  have a4 : g * Vl ≤ BB * P := Int.le_trans (Int.mul_le_mul_of_nonneg_right (Int.le_of_lt hgB) hVl) (Int.mul_le_mul_of_nonneg_left (Int.le_of_lt hVl') (Int.le_of_lt BB_pos))
  have a5 : BB * P ≤ (v1 * BB + v2) * P := Int.mul_le_mul_of_nonneg_right (by omega) (Int.le_of_lt hP)
  omega

/-- Where the loop is left because what is left over has more than 32 bits. -/
theorem guess_break {g r : Int} (hv2 : 0 ≤ v2 ∧ v2 < BB) (hu2 : 0 ≤ u2) (hg : 0 ≤ g) (hgB : g < BB) (hr : BB ≤ r) : g * v2 ≤ r * BB + u2 := by
  have a1 := mul_le_sq (m := BB) ⟨hg, Int.le_of_lt hgB⟩ ⟨hv2.1, Int.le_of_lt hv2.2⟩
  have a2 : BB * BB ≤ r * BB := Int.mul_le_mul_of_nonneg_right hr (Int.le_of_lt BB_pos)
  omega

theorem guess_break_lt {g r u1 u0 : Int} (hv1 : 0 < v1) (ht : top = g * v1 + r) (hr : BB ≤ r) (hu0 : u0 < BB) (htop : top = u1 * BB + u0) (hu1 : u1 ≤ v1) : g < BB := by
  have a1 : u1 * BB ≤ v1 * BB := Int.mul_le_mul_of_nonneg_right hu1 (Int.le_of_lt BB_pos)
  have a2 : g * v1 < BB * v1 := by rw [Int.mul_comm BB v1]; omega
  exact Int.lt_of_mul_lt_mul_right a2 (by omega)

/-- The highest limb of what is divided is at most that of the divisor. -/
theorem top_le {u1 Q Ur Vr : Int} (hQ : 0 < Q) (hU : U = u1 * (BB * Q) + Ur) (hUr : 0 ≤ Ur) (hV : V = v1 * Q + Vr) (hVr : Vr < Q) (h : U < BB * V) : u1 ≤ v1 := by
  have a1 : u1 * (BB * Q) < (v1 + 1) * (BB * Q) := by
    have e1 : BB * V = v1 * (BB * Q) + BB * Vr := by rw [hV]; grind
    have e2 : BB * Vr ≤ BB * Q := Int.mul_le_mul_of_nonneg_left (Int.le_of_lt hVr) (Int.le_of_lt BB_pos)
    have e3 : (v1 + 1) * (BB * Q) = v1 * (BB * Q) + BB * Q := by grind
    omega
  have := Int.lt_of_mul_lt_mul_right a1 (Int.mul_nonneg (Int.le_of_lt BB_pos) (Int.le_of_lt hQ))
  omega
end

/-! ### a multiple taken off; what was too much given back -/
theorem take_step {u v L : List Int} {k : Nat} {c o t y r o' : Int} (hk : k < L.length)
    (h : val (L.take k) = val (u.take k) - t * val (v.take k) + BB ^ k * (c + o))
    (hy : y = c + t * v.getD k 0) (e : u.getD k 0 - y % BB - o = r - BB * o') :
    val ((L.set k r).take (k + 1)) = val (u.take (k + 1)) - t * val (v.take (k + 1)) + BB ^ (k + 1) * (y / BB + o') := by
  rw [val_take_set L k hk, val_take_more u k, val_take_more v k, pow_succ']
  have e2 := ediv_emod_BB y
  generalize y / BB = q at *
  generalize y % BB = s at *

  grind

theorem take_limb {a x o : Int} (ha : 0 ≤ a ∧ a < BB) (hx : 0 ≤ x ∧ x < BB) (ho : 0 ≤ o ∧ o ≤ 1) :
    ((a - x - o) % 18446744073709551616) % BB = (a - x - o) % BB ∧ ((a - x - o) % 18446744073709551616) / 9223372036854775808 = (if a < x + o then 1 else 0) ∧
    (a - x - o) = (a - x - o) % BB - BB * (if a < x + o then 1 else 0) := by
  simp only [BB_eq] at *
  refine ⟨by omega, ?_, ?_⟩
  · split <;> omega
  · split <;> omega

theorem take_word {c t y : Int} (hc : 0 ≤ c ∧ c < BB) (ht : 0 ≤ t ∧ t < BB) (hy : 0 ≤ y ∧ y < BB) :
    0 ≤ t * y ∧ t * y ≤ 18446744065119617025 ∧ 0 ≤ c + t * y ∧ c + t * y ≤ 18446744073709551615 ∧ 0 ≤ (c + t * y) / BB ∧ (c + t * y) / BB < BB := by
  have h := mul_le_sq (m := 4294967295) ⟨ht.1, by rw [BB_eq] at ht; omega⟩ ⟨hy.1, by rw [BB_eq] at hy; omega⟩
  simp only [BB_eq] at *
  omega

/-! ### shifts by less than 32 bits: a multiple by two's power p, p * p' = 2^32 -/
theorem left_step {a L : List Int} {k : Nat} {p w c : Int} (hk : k + 1 < L.length)
    (hw : w = p * a.getD k 0) (h0 : val (L.take k) + BB ^ k * c = p * val (a.take k)) :
    val (((L.set k (c + w % BB)).set (k + 1) (w / BB)).take (k + 2)) = p * val (a.take (k + 1)) := by
  have e := ediv_emod_BB w
  rw [val_take_set _ (k + 1) (by simpa using hk), val_take_set L k (by omega), val_take_more a k, pow_succ']
  generalize w / BB = q at *
  generalize w % BB = s at *

  grind
end Go.Proofs.YtgpninmfbooijaaDoor.Num

/-
  Long division of limbs: what one round does; plain facts, no program in sight.
-/
namespace Go.Proofs.YtgpninmfbooijaaDoor.Num

theorem getD_part' (L : List Int) (j k : Nat) : (L.drop j).getD k 0 = L.getD (j + k) 0 := by simp [List.getD_eq_getElem?_getD]
theorem getD_take' (L : List Int) (n k : Nat) (h : k < n) : (L.take n).getD k 0 = L.getD k 0 := by simp [List.getD_eq_getElem?_getD, h]

theorem top2 (X : List Int) (m : Nat) (hl : X.length = m + 2) : val X = (X.getD (m + 1) 0 * BB + X.getD m 0) * BB ^ m + val (X.take m) := by
  have e := val_split X m (by omega)
  rw [val_drop_succ X m (by omega), val_drop_succ X (m + 1) (by omega), List.drop_eq_nil_of_le (by omega), val_nil] at e
  rw [e]; grind
theorem top3 (X : List Int) (m : Nat) (hl : X.length = m + 3) : val X = ((X.getD (m + 2) 0 * BB + X.getD (m + 1) 0) * BB + X.getD m 0) * BB ^ m + val (X.take m) := by
  have e := val_split X m (by omega)
  rw [val_drop_succ X m (by omega), val_drop_succ X (m + 1) (by omega), val_drop_succ X (m + 2) (by omega), List.drop_eq_nil_of_le (by omega), val_nil] at e
  rw [e]; grind

/-- The window of m + 3 limbs from j on. -/
def win (U : List Int) (j n : Nat) : List Int := (U.drop j).take n

structure LongInv (A V : Int) (U Q : List Int) (j1 : Nat) : Prop where
  limU : Lim U
  limQ : Lim Q
  eq : val U + BB ^ j1 * (V * val (Q.drop j1)) = A
  lt : val (U.drop j1) < V

theorem LongInv.window {A V : Int} {U Q : List Int} {j n : Nat} (h : LongInv A V U Q (j + 1)) (hV : V < BB ^ n) (hj : j + (n + 1) ≤ U.length) :
    val (win U j (n + 1)) = val (U.drop j) ∧ val (U.drop (j + (n + 1))) = 0 ∧ 0 ≤ val (win U j (n + 1)) ∧ val (win U j (n + 1)) < BB * V := by
  have e1 := val_split (U.drop (j + 1)) n (by rw [List.length_drop]; omega)
  rw [List.drop_drop, show j + 1 + n = j + (n + 1) by omega] at e1
  have n1 := val_nonneg ((h.limU.drop (j + 1)).take n)
  have n2 := val_nonneg (h.limU.drop (j + (n + 1)))
  have lt := h.lt
  have z : val (U.drop (j + (n + 1))) = 0 := by
    apply Int.le_antisymm _ n2
    apply Int.le_of_lt_add_one
    have : BB ^ n * val (U.drop (j + (n + 1))) < BB ^ n * 1 := by omega
    exact Int.lt_of_mul_lt_mul_left this (Int.le_of_lt (pow_pos n))
  have e2 := val_split (U.drop j) (n + 1) (by rw [List.length_drop]; omega)
  rw [List.drop_drop, z, Int.mul_zero, Int.add_zero] at e2
  have e3 := val_drop_succ U j (by omega)
  have n3 := val_nonneg ((h.limU.drop j).take (n + 1))
  have l3 := h.limU.getD j
  refine ⟨e2.symm, z, n3, ?_⟩
  show val ((U.drop j).take (n + 1)) < BB * V
  rw [← e2, e3]
  have : BB * (val (U.drop (j + 1)) + 1) ≤ BB * V := Int.mul_le_mul_of_nonneg_left (by omega) (Int.le_of_lt BB_pos)
  rw [Int.mul_add] at this
  omega

theorem LongInv.step {A V q : Int} {U Q L : List Int} {j n : Nat} (h : LongInv A V U Q (j + 1)) (hV : V < BB ^ n) (hj : j + (n + 1) ≤ U.length) (hjQ : j < Q.length)
    (hL : Lim L) (hlen : L.length = U.length) (hbef : L.take j = U.take j) (hbeh : ∀ i, j + (n + 1) ≤ i → L.getD i 0 = U.getD i 0)
    (hw : val (win L j (n + 1)) = val (win U j (n + 1)) - q * V) (hq0 : 0 ≤ q) (hq1 : q < BB) (hr : val (win U j (n + 1)) - q * V < V) : LongInv A V L (Q.set j q) j := by
  obtain ⟨w1, w2, w3, w4⟩ := h.window hV hj
  have e := h.eq
  have hd : L.drop (j + (n + 1)) = U.drop (j + (n + 1)) := by
    apply List.ext_getElem?
    intro i
    have := hbeh (j + (n + 1) + i) (by omega)
    rw [List.getElem?_drop, List.getElem?_drop]
    simp only [List.getD_eq_getElem?_getD] at this
    rcases Nat.lt_or_ge (j + (n + 1) + i) U.length with hi | hi
    · rw [List.getElem?_eq_getElem hi, List.getElem?_eq_getElem (by omega)] at this ⊢
      simpa using this
    · rw [List.getElem?_eq_none hi, List.getElem?_eq_none (by omega)]
  have eL := val_split (L.drop j) (n + 1) (by rw [List.length_drop]; omega)
  rw [List.drop_drop, hd, w2, Int.mul_zero, Int.add_zero] at eL
  have hLd : val (L.drop j) = val (U.drop j) - q * V := by rw [eL, ← w1]; exact hw
  refine ⟨hL, h.limQ.set _ ⟨hq0, hq1⟩, ?_, by rw [hLd, ← w1]; exact hr⟩
  have sL := val_split L j (by omega)
  have sU := val_split U j (by omega)
  have sQ := val_drop_succ (Q.set j q) j (by simpa using hjQ)
  have gQ : (Q.set j q).getD j 0 = q := by simp [List.getD_eq_getElem?_getD, hjQ]
  have dQ : (Q.set j q).drop (j + 1) = Q.drop (j + 1) := by rw [List.drop_set_of_lt (by omega)]
  rw [gQ, dQ] at sQ
  rw [hbef] at sL
  rw [sL, hLd, sQ, ← e, sU, pow_succ']
  grind

/-- What the guess must meet. -/
structure Guess (W V v1 v2 top u0 g r : Int) : Prop where
  g0 : 0 ≤ g
  r0 : 0 ≤ r
  htop : top = g * v1 + r
  up : W < (g + 1) * V

/-- The numbers of one round. -/
structure Round (W V v1 v2 u2 u1 u0 P Vl Ul : Int) : Prop where
  hP0 : 0 < P
  hv1 : 2147483648 ≤ v1 ∧ v1 < BB
  hv2 : 0 ≤ v2 ∧ v2 < BB
  hu2 : 0 ≤ u2 ∧ u2 < BB
  hu1 : 0 ≤ u1 ∧ u1 < BB
  hu0 : 0 ≤ u0 ∧ u0 < BB
  hV : V = (v1 * BB + v2) * P + Vl
  hVl : 0 ≤ Vl ∧ Vl < P
  hW : W = ((u2 * BB + u1) * BB + u0) * P + Ul
  hUl : 0 ≤ Ul ∧ Ul < P
  hlt : W < BB * V

section
variable {W V v1 v2 u2 u1 u0 P Vl Ul : Int}
theorem Round.Vpos (R : Round W V v1 v2 u2 u1 u0 P Vl Ul) : 0 < V := by
  have h1 := R.hV
  have h2 := R.hVl
  have h3 : 1 * P ≤ (v1 * BB + v2) * P := Int.mul_le_mul_of_nonneg_right (by have := R.hv1; have := R.hv2; rw [BB_eq] at *; omega) (Int.le_of_lt R.hP0)
  have := R.hP0
  omega

theorem Round.u2_le (R : Round W V v1 v2 u2 u1 u0 P Vl Ul) : u2 ≤ v1 := by
  refine top_le (U := W) (V := V) (Q := BB * P) (Ur := (u1 * BB + u0) * P + Ul) (Vr := v2 * P + Vl) (Int.mul_pos BB_pos R.hP0) ?_ ?_ ?_ ?_ R.hlt
  · rw [R.hW]; grind
  · have h1 : 0 ≤ (u1 * BB + u0) * P := Int.mul_nonneg (by have := R.hu1; have := R.hu0; rw [BB_eq] at *; omega) (Int.le_of_lt R.hP0)
    have := R.hUl
    omega
  · rw [R.hV]; grind
  · have h1 : (v2 + 1) * P ≤ BB * P := Int.mul_le_mul_of_nonneg_right (by have := R.hv2; omega) (Int.le_of_lt R.hP0)
    have := R.hVl
    rw [Int.add_mul] at h1
    omega

theorem Round.first (R : Round W V v1 v2 u2 u1 u0 P Vl Ul) : Guess W V v1 v2 (u2 * BB + u1) u0 ((u2 * BB + u1) / v1) ((u2 * BB + u1) % v1) ∧ (u2 * BB + u1) / v1 ≤ 4294967297 ∧ (u2 * BB + u1) % v1 < BB := by
  have hv := R.hv1
  have hv1 : 0 < v1 := by omega
  have ht : 0 ≤ u2 * BB + u1 := by have := R.hu2; have := R.hu1; rw [BB_eq]; omega
  have hle := R.u2_le
  refine ⟨⟨Int.ediv_nonneg ht (by omega), Int.emod_nonneg _ (by omega), by have h := Int.mul_ediv_add_emod (u2 * BB + u1) v1; rw [Int.mul_comm v1] at h; exact h.symm, ?_⟩, ?_, ?_⟩
  · exact guess_first R.hP0 hv1 R.hv2.1 R.hV R.hVl.1 R.hW R.hUl.2 R.hu0.2 ht
  · apply Int.le_of_lt_add_one
    apply Int.ediv_lt_of_lt_mul hv1
    have h1 : u2 * BB ≤ v1 * BB := Int.mul_le_mul_of_nonneg_right hle (Int.le_of_lt BB_pos)
    have := R.hu1
    rw [BB_eq] at *
    omega
  · have := Int.emod_lt_of_pos (u2 * BB + u1) hv1
    omega

theorem Round.down (R : Round W V v1 v2 u2 u1 u0 P Vl Ul) {g r : Int} (G : Guess W V v1 v2 (u2 * BB + u1) u0 g r) (h : BB ≤ g ∨ r * BB + u0 < g * v2) :
    Guess W V v1 v2 (u2 * BB + u1) u0 (g - 1) (r + v1) ∧ 1 ≤ g := by
  have hlt : W < g * V := by
    rcases h with h | h
    · exact guess_down_great (Int.le_of_lt R.Vpos) R.hlt h
    · exact guess_down R.hP0 R.hV R.hVl.1 R.hW R.hUl.2 G.g0 G.htop h
  have hW : 0 ≤ W := by
    have h1 : 0 ≤ ((u2 * BB + u1) * BB + u0) * P := Int.mul_nonneg (by have := R.hu2; have := R.hu1; have := R.hu0; rw [BB_eq] at *; omega) (Int.le_of_lt R.hP0)
    have h2 := R.hW
    have h3 := R.hUl
    omega
  have hg : 1 ≤ g := by
    apply Int.not_lt.mp
    intro hlt1
    have : g = 0 := by have := G.g0; omega
    rw [this, Int.zero_mul] at hlt
    omega
  have hv := R.hv1
  have hr := G.r0
  refine ⟨⟨by omega, by omega, ?_, by rw [show g - 1 + 1 = g by omega]; exact hlt⟩, hg⟩
  rw [G.htop]; grind

/-- Near enough: too great by one at the most. -/
structure Near (W V g : Int) : Prop where
  g0 : 0 ≤ g
  g1 : g < BB
  up : W < (g + 1) * V
  low : (g - 1) * V ≤ W

theorem Round.good (R : Round W V v1 v2 u2 u1 u0 P Vl Ul) {g r : Int} (G : Guess W V v1 v2 (u2 * BB + u1) u0 g r) (hg : g < BB) (h : g * v2 ≤ r * BB + u0) : Near W V g :=
  ⟨G.g0, hg, G.up, guess_last R.hP0 (by have := R.hv1; rw [BB_eq]; omega) R.hv2.1 R.hV R.hVl.1 R.hVl.2 R.hW R.hUl.1 hg G.htop h⟩

theorem Round.good_break (R : Round W V v1 v2 u2 u1 u0 P Vl Ul) {g r : Int} (G : Guess W V v1 v2 (u2 * BB + u1) u0 g r) (hr : BB ≤ r) : Near W V g := by
  have hg : g < BB := guess_break_lt (by have := R.hv1; omega) G.htop hr R.hu1.2 rfl R.u2_le
  exact R.good G hg (guess_break R.hv2 R.hu0.1 G.g0 hg hr)

theorem Near.pos {g w' B : Int} (G : Near W V g) (hw : w' = W - g * V + B * 1) (h1 : w' < B) (hW0 : 0 ≤ W) : 1 ≤ g := by
  apply Int.not_lt.mp
  intro hlt1
  have : g = 0 := by have := G.g0; omega
  rw [this, Int.zero_mul] at hw
  omega

/-- Behind the taking: nothing was owed, so the guess was right. -/
theorem Near.kept {g w' B : Int} (G : Near W V g) (hw : w' = W - g * V + B * 0) : w' = W - g * V ∧ W - g * V < V := by
  have := G.up
  rw [Int.add_mul] at this
  omega

/-- Something was owed: the guess was too great by one; what was given back carries over. -/
theorem Near.back {g w' w'' c B : Int} (G : Near W V g) (hw : w' = W - g * V + B * 1) (h1 : w' < B) (hg : w'' + B * c = w' + V) (hc : c = 0 ∨ c = 1) (h3 : w'' < B) (hW0 : 0 ≤ W) :
    w'' = W - (g - 1) * V ∧ W - (g - 1) * V < V ∧ 1 ≤ g := by
  have hl := G.low
  have e : (g - 1) * V = g * V - V := by rw [Int.sub_mul]; omega
  rw [e] at hl ⊢
  have h4 : 1 ≤ g := by
    apply Int.not_lt.mp
    intro hlt1
    have : g = 0 := by have := G.g0; omega
    rw [this, Int.zero_mul] at hw
    omega
  rcases hc with rfl | rfl
  · omega
  · omega
end

/-- The divisor, moved up: as many limbs as before, the highest one with its highest bit. -/
theorem moved {b V : List Int} {n : Nat} {p p' bt : Int} (hb : Lim b) (hV : Lim V) (hn : b.length = n + 1) (hVn : V.length = n + 2) (hv : val V = p * val b) (hbt : b.getD n 0 = bt)
    (hp : 0 < p) (hpp : p * p' = BB) (h0 : 2147483648 ≤ bt * p) (h1 : bt * p < BB) :
    val (V.take (n + 1)) = val V ∧ val V < BB ^ (n + 1) ∧ 2147483648 ≤ V.getD n 0 ∧ 2147483648 * BB ^ n ≤ val V := by
  have eb := val_split b n (by omega)
  rw [val_drop_succ b n (by omega), List.drop_eq_nil_of_le (by omega), val_nil, hbt, Int.mul_zero, Int.add_zero] at eb
  have lb := val_lt (hb.take n)
  rw [List.length_take, Nat.min_eq_left (by omega)] at lb
  have nb := val_nonneg (hb.take n)
  have hP := pow_pos n
  -- bt * p is a multiple of p below the base
  have hq : bt * p + p ≤ BB := by
    have e1 : bt * p < p' * p := by rw [Int.mul_comm p' p, hpp]; exact h1
    have e2 : bt < p' := Int.lt_of_mul_lt_mul_right e1 (Int.le_of_lt hp)
    have e3 : (bt + 1) * p ≤ p' * p := Int.mul_le_mul_of_nonneg_right (by omega) (Int.le_of_lt hp)
    rw [Int.add_mul, Int.mul_comm p' p, hpp] at e3
    omega
  have hup : val V < BB ^ (n + 1) := by
    rw [hv, eb, pow_succ']
    have e1 : p * (val (b.take n) + 1) ≤ p * BB ^ n := Int.mul_le_mul_of_nonneg_left (by omega) (Int.le_of_lt hp)
    have e2 : (bt * p + p) * BB ^ n ≤ BB * BB ^ n := Int.mul_le_mul_of_nonneg_right hq (Int.le_of_lt hP)
    have e3 : p * (val (b.take n) + BB ^ n * bt) = p * (val (b.take n) + 1) - p + (bt * p) * BB ^ n := by grind
    have e4 : (bt * p + p) * BB ^ n = (bt * p) * BB ^ n + p * BB ^ n := by grind
    rw [e3]
    omega
  have hlow : 2147483648 * BB ^ n ≤ val V := by
    rw [hv, eb]
    have e1 : 2147483648 * BB ^ n ≤ (bt * p) * BB ^ n := Int.mul_le_mul_of_nonneg_right h0 (Int.le_of_lt hP)
    have e2 : 0 ≤ p * val (b.take n) := Int.mul_nonneg (Int.le_of_lt hp) nb
    have e3 : p * (val (b.take n) + BB ^ n * bt) = p * val (b.take n) + (bt * p) * BB ^ n := by grind
    omega
  have eV := val_split V (n + 1) (by omega)
  have nV := val_nonneg (hV.take (n + 1))
  have hz : val (V.drop (n + 1)) = 0 := by
    have n2 := val_nonneg (hV.drop (n + 1))
    have : BB ^ (n + 1) * val (V.drop (n + 1)) < BB ^ (n + 1) * 1 := by omega
    have := Int.lt_of_mul_lt_mul_left this (Int.le_of_lt (pow_pos (n + 1)))
    omega
  rw [hz, Int.mul_zero, Int.add_zero] at eV
  refine ⟨eV.symm, hup, ?_, hlow⟩
  have e1 := val_take_succ V n (by omega)
  rw [← eV] at e1
  have l1 := val_lt (hV.take n)
  rw [List.length_take, Nat.min_eq_left (by omega)] at l1
  apply Int.not_lt.mp
  intro hlt
  have e2 : BB ^ n * (V.getD n 0 + 1) ≤ BB ^ n * 2147483648 := Int.mul_le_mul_of_nonneg_left (by omega) (Int.le_of_lt hP)
  rw [Int.mul_add] at e2
  have e3 := Int.mul_comm (BB ^ n) 2147483648
  omega

/-- The highest limbs of the dividend, moved up, are less than the divisor. -/
theorem start_lt {a U : List Int} {n k : Nat} {p V : Int} (ha : Lim a) (hU : Lim U) (hv : val U = p * val a) (hak : a.length = n + k) (hUl : k ≤ U.length)
    (hp : 0 < p) (hp2 : p ≤ 2147483648) (hV : 2147483648 * BB ^ n ≤ V) : val (U.drop k) < V := by
  have eU := val_split U k hUl
  have nU := val_nonneg (hU.take k)
  have la := val_lt ha
  rw [hak, Int.pow_add] at la
  have e1 : p * (val a + 1) ≤ p * (BB ^ n * BB ^ k) := Int.mul_le_mul_of_nonneg_left (by omega) (Int.le_of_lt hp)
  have e2 : p * (BB ^ n * BB ^ k) ≤ 2147483648 * (BB ^ n * BB ^ k) := Int.mul_le_mul_of_nonneg_right hp2 (Int.le_of_lt (Int.mul_pos (pow_pos n) (pow_pos k)))
  have e3 : 2147483648 * BB ^ n * BB ^ k ≤ V * BB ^ k := Int.mul_le_mul_of_nonneg_right hV (Int.le_of_lt (pow_pos k))
  rw [Int.mul_add] at e1
  have e4 : BB ^ k * val (U.drop k) < BB ^ k * V := by
    rw [Int.mul_comm (BB ^ k) V]
    rw [Int.mul_assoc] at e3
    omega
  exact Int.lt_of_mul_lt_mul_left e4 (Int.le_of_lt (pow_pos k))

theorem round_of {A : Int} {U Q V : List Int} {k n : Nat} {v1 v2 u2 u1 u0 : Int} (h : LongInv A (val V) U Q (k + 1)) (hVlim : Lim V) (hVn : n ≤ V.length) (hn : 2 ≤ n) (hVt : val (V.take n) = val V) (hVlt : val V < BB ^ n) (hk : k + (n + 1) ≤ U.length)
    (eu2 : U.getD (k + n) 0 = u2) (eu1 : U.getD (k + n - 1) 0 = u1) (eu0 : U.getD (k + n - 2) 0 = u0) (ev1 : V.getD (n - 1) 0 = v1) (ev2 : V.getD (n - 2) 0 = v2) (hv1 : 2147483648 ≤ v1) :
    Round (val (win U k (n + 1))) (val V) v1 v2 u2 u1 u0 (BB ^ (n - 2)) (val (V.take (n - 2))) (val ((win U k (n + 1)).take (n - 2))) := by
  obtain ⟨w1, w2, w3, w4⟩ := h.window hVlt hk
  obtain ⟨m, rfl⟩ : ∃ m, n = m + 2 := ⟨n - 2, by omega⟩
  have tU := top3 (win U k (m + 2 + 1)) m (by unfold win; rw [List.length_take, List.length_drop]; omega)
  have tV := top2 (V.take (m + 2)) m (by rw [List.length_take]; omega)
  have gU : ∀ i, i < m + 3 → (win U k (m + 2 + 1)).getD i 0 = U.getD (k + i) 0 := fun i hi => by unfold win; rw [getD_take' _ _ _ hi, getD_part']
  rw [gU _ (by omega), gU _ (by omega), gU _ (by omega), show k + (m + 2) = k + (m + 2) from rfl, eu2, show k + (m + 1) = k + (m + 2) - 1 by omega, eu1, show k + m = k + (m + 2) - 2 by omega, eu0] at tU
  rw [hVt, getD_take' _ _ _ (by omega), getD_take' _ _ _ (by omega), show V.getD (m + 1) 0 = v1 from ev1, show V.getD m 0 = v2 from ev2, List.take_take, Nat.min_eq_left (by omega)] at tV
  have l1 := val_lt (hVlim.take m)
  have l2 := val_lt (((h.limU.drop k).take (m + 2 + 1)).take m)
  rw [List.length_take, Nat.min_eq_left (by omega)] at l1
  rw [List.length_take, List.length_take, List.length_drop, Nat.min_eq_left (by omega)] at l2
  exact ⟨pow_pos _, ⟨hv1, by rw [← ev1]; exact (hVlim.getD _).2⟩, by rw [← ev2]; exact hVlim.getD _, by rw [← eu2]; exact h.limU.getD _, by rw [← eu1]; exact h.limU.getD _, by rw [← eu0]; exact h.limU.getD _,
    tV, ⟨val_nonneg (hVlim.take m), l1⟩, tU, ⟨val_nonneg (((h.limU.drop k).take (m + 2 + 1)).take m), l2⟩, w4⟩

/-- At the end: quotient and remainder, the latter moved up. -/
theorem long_end {p a b V : Int} {U Q : List Int} {n : Nat} (h : LongInv (p * a) V U Q 0) (hV : V = p * b) (hp : 0 < p) (hlt : V < BB ^ n) (hn : n ≤ U.length) :
    val (U.take n) / p = a % b ∧ val Q = a / b := by
  have e := h.eq
  have lt := h.lt
  simp only [Int.pow_zero, Int.one_mul, List.drop_zero] at e lt
  have n1 := val_nonneg (h.limU.take n)
  have n2 := val_nonneg (h.limU.drop n)
  have eU := val_split U n hn
  have hz : val (U.drop n) = 0 := by
    have : BB ^ n * val (U.drop n) < BB ^ n * 1 := by omega
    have := Int.lt_of_mul_lt_mul_left this (Int.le_of_lt (pow_pos n))
    omega
  rw [hz, Int.mul_zero, Int.add_zero] at eU
  rw [← eU]
  have e2 : val U = p * (a - b * val Q) := by rw [hV] at e; grind
  rw [e2] at lt ⊢
  rw [hV] at lt
  have hr1 : a - b * val Q < b := Int.lt_of_mul_lt_mul_left lt (Int.le_of_lt hp)
  have hr0 : 0 ≤ a - b * val Q := by
    apply Int.not_lt.mp
    intro hneg
    have : p * (a - b * val Q) < p * 0 := Int.mul_lt_mul_of_pos_left hneg hp
    rw [← e2, eU] at this
    omega
  rw [Int.mul_ediv_cancel_left _ (by omega)]
  have hb : 0 < b := by omega
  have hu := (Int.ediv_emod_unique hb (a := a) (r := a - b * val Q) (q := val Q)).2 ⟨by omega, hr0, hr1⟩
  exact ⟨hu.2.symm, hu.1.symm⟩
end Go.Proofs.YtgpninmfbooijaaDoor.Num
