/-
  height: rows of bars that a call makes.
-/
import Derived.Test.YtadojakbfpdjjaaDoorHMargin
import Derived.Test.YtadojakbfpdjjaaDoorHDraw
namespace Go.Proofs.YtadojakbfpdjjaaDoor.Px
open Go.RowKit Go.Maps Go.Proofs.YtadojakbfpdjjaaDoorW.PrintWords Go.Proofs.YtadojakbfpdjjaaDoorW.PrintLast Go.Proofs.YtadojakbfpdjjaaDoorW.PrintMore

abbrev kB : Kd Bar := k48
abbrev RB (w : World) (base : Nat) (v : Value) (l : List Bar) : Prop := Kd.R kB 48 w base (fun _ => True) v l
abbrev CB (w : World) (A : Option Addr) (l : List Bar) : Prop := Kd.C kB w A l.length l
def flatB : List Bar → List Value
  | [] => []
  | b :: l => .int .i64 b.f0 :: .int .i64 b.f1 :: .int .i64 b.f2 :: flatB l
theorem flatB_len : ∀ l, (flatB l).length = l.length * 3
  | [] => rfl
  | b :: l => by simp only [flatB, List.length_cons, flatB_len l]; omega
theorem flatB_get : ∀ (l : List Bar) (j : Nat) (p : Bar), l[j]? = some p → ((flatB l).drop (j * 3)).take 3 = [.int .i64 p.f0, .int .i64 p.f1, .int .i64 p.f2]
  | [], j, p, h => by simp at h
  | b :: l, 0, p, h => by
    obtain rfl : b = p := by simpa using h
    rfl
  | b :: l, j + 1, p, h => by
    have e : (j + 1) * 3 = j * 3 + 1 + 1 + 1 := by omega
    rw [e]
    simp only [flatB, List.drop_succ_cons]
    exact flatB_get l j p (by simpa using h)
theorem flatB_append : ∀ l m, flatB (l ++ m) = flatB l ++ flatB m
  | [], m => rfl
  | b :: l, m => by simp [flatB, flatB_append l m]
theorem flatB_one : ∀ l, ∀ u ∈ flatB l, u.oneCell' = true
  | [], u, h => by cases h
  | b :: l, u, h => by
    simp only [flatB, List.mem_cons] at h
    rcases h with rfl | rfl | rfl | h
    · rfl
    · rfl
    · rfl
    · exact flatB_one l u h
theorem reps_flatB (w : World) (base : Nat) (ok : Nat → Prop) (l : List Bar) : Reps (kB.M w base ok) kB.sz l (flatB l) :=
  ⟨flatB_len l, fun j p hj => by
    have := flatB_get l j p hj
    show kB.M w base ok p (((flatB l).drop (j * 3)).take 3)
    rw [this]
    exact k48_mkM _ _ _ p⟩
theorem RB_of_own {w : World} {base : Nat} {v : Value} {l : List Bar} (h : w.ownsRow base 48 3 v l.length (flatB l)) : RB w base v l :=
  ⟨fun _ _ => trivial, flatB l, h, reps_flatB _ _ _ l⟩
theorem flatB_unique {w : World} {base : Nat} {ok : Nat → Prop} : ∀ {l : List Bar} {cs : List Value}, Reps (kB.M w base ok) kB.sz l cs → cs = flatB l
  | [], cs, h => by
    have h1 := h.1
    rw [List.length_nil, Nat.zero_mul] at h1
    exact List.eq_nil_of_length_eq_zero h1
  | b :: l, cs, h => by
    have h1 : cs.length = (l.length + 1) * 3 := h.1
    obtain ⟨x, y, z, cs, rfl⟩ : ∃ x y z r, cs = x :: y :: z :: r := by
      match cs, h1 with
      | x :: y :: z :: r, _ => exact ⟨x, y, z, r, rfl⟩
      | [], h1 => simp at h1
      | [_], h1 => simp at h1; omega
      | [_, _], h1 => simp at h1; omega
    have h2 := k48_openM (h.2 0 b rfl)
    have h3 : [x, y, z] = [.int .i64 b.f0, .int .i64 b.f1, .int .i64 b.f2] := h2
    simp only [List.cons.injEq, and_true] at h3
    obtain ⟨rfl, rfl, rfl⟩ := h3
    have ih : cs = flatB l := flatB_unique ⟨by simp only [List.length_cons] at h1; show cs.length = l.length * 3; omega, fun j p hj => by
      have h4 := h.2 (j + 1) p (by simpa using hj)
      have e : (j + 1) * kB.sz = j * 3 + 1 + 1 + 1 := by show (j + 1) * 3 = _; omega
      rw [e] at h4
      exact h4⟩
    rw [ih]
    rfl
theorem RB_own {w : World} {base : Nat} {v : Value} {l : List Bar} (h : RB w base v l) : w.ownsRow base 48 3 v l.length (flatB l) := by
  obtain ⟨_, inner, ho, hr⟩ := h
  rw [← flatB_unique hr]
  exact ho
/-- A literal of bars. -/
theorem RB_block {w : World} {g base : Nat} {cs : Array Value} {l : List Bar} (h : w.heap[g]? = some (.cells cs 48 (0, 0))) (hc : cs.toList = flatB l) (hb : base ≤ g) (hl : l.length ≤ 9223372036854775807) : RB w base (.slice (some ⟨g, 0, none⟩) l.length l.length) l := by
  refine RB_of_own ⟨flatB_len l, .inr ⟨g, l.length, cs, rfl, hb, h, Nat.le_refl _, hl, ?_, ?_⟩⟩
  · have := congrArg List.length hc
    rw [flatB_len] at this
    simpa using this
  · rw [hc]
    exact List.take_of_length_le (Nat.le_of_eq (flatB_len l))
theorem CB_flat {w : World} {A : Option Addr} {l : List Bar} (h : CB w A l) : ∀ ad, A = some ad → ∀ j u, (flatB l)[j]? = some u → w.cell? (ad.add j) = some u := by
  intro ad hA j u hj
  have hjl : j < l.length * 3 := by rw [← flatB_len]; exact (List.getElem?_eq_some_iff.1 hj).1
  obtain ⟨hlen, _, hc⟩ := h
  obtain ⟨ad', hA', hc⟩ := hc (by omega)
  rw [hA] at hA'
  obtain rfl := Option.some.inj hA'
  have hq : j / 3 < l.length := by omega
  obtain ⟨c, hcl, hK, hcc⟩ := hc (j / 3) l[j / 3] (List.getElem?_eq_getElem hq)
  obtain rfl := k48_open hK
  have h1 := flatB_get l (j / 3) _ (List.getElem?_eq_getElem hq)
  have h2 : (((flatB l).drop (j / 3 * 3)).take 3)[j % 3]? = some u := by
    rw [List.getElem?_take_of_lt (by omega), List.getElem?_drop]
    rw [show j / 3 * 3 + j % 3 = j by omega]
    exact hj
  rw [h1] at h2
  have h3 := hcc (j % 3) u h2
  have e : j / 3 * kB.sz + j % 3 = j := by show j / 3 * 3 + j % 3 = j; omega
  rw [e] at h3
  exact h3
theorem CB_of_RB {w : World} {base : Nat} {v : Value} {l : List Bar} (h : RB w base v l) : ∃ A c, v = .slice A l.length c ∧ l.length ≤ c ∧ CB w A l := Kd.R_reads h
theorem CB_block {w : World} {g : Nat} {cs : Array Value} {l : List Bar} (h : w.heap[g]? = some (.cells cs 48 (0, 0))) (hc : cs.toList = flatB l) (hl : l.length ≤ 9223372036854775807) : CB w (some ⟨g, 0, none⟩) l := by
  obtain ⟨A, c, e, _, hC⟩ := CB_of_RB (RB_block (base := 0) h hc (Nat.zero_le _) hl)
  cases e
  exact hC
/-- Bars behind a full row: a new one. -/
theorem bar_append_grows (w : World) {ops : Array Oper} {rest : List Oper} {o : Oper} {a : Act} {Q : Exit → Act → World → Prop} (hg : o.guard = none) (s x : Operand)
    (hop : o.op = Op.call { callee := Callee.builtin Builtin.append, args := #[s, x], argTypes := #[24, 24] })
    (A : Option Addr) (cap : Nat) (l : List Bar) (hs : a.eval s = .slice A l.length cap) (hl : 0 < l.length) (hC : CB w A l) (g : Nat) (p : List Bar) (hx : a.eval x = .slice (some ⟨g, 0, none⟩) p.length p.length)
    (hP : CB w (some ⟨g, 0, none⟩) p) (hfull : cap < l.length + p.length) (hsz : l.length + p.length ≤ 1000000)
    (hK : ∀ v' w', RB w' w.heap.size v' (l ++ p) → w.grownBy w' none → wpList Tryd.prog ops Q rest (a.put o.dst v') w') : wpList Tryd.prog ops Q (o :: rest) a w := by
  obtain ⟨i0, hi, hz0, hz1, hz2⟩ := info_parts info48
  obtain ⟨ad, hA⟩ : ∃ ad, A = some ad := by
    obtain ⟨_, _, hc⟩ := hC
    obtain ⟨ad, hA, _⟩ := hc hl
    exact ⟨ad, hA⟩
  refine wpList_append_grows w hg s x _ hop 48 i0 _ 3 24 Tryd.underlying24 hi hz0 hz1 hz2 rfl (by decide) A l.length cap (flatB l) hs (fun h => by rw [hA] at h; cases h) (flatB_len l) (CB_flat hC)
    ⟨g, 0, none⟩ p.length p.length (flatB p) hx (flatB_len p) (CB_flat hP _ rfl) (flatB_one p) hfull (by unfold maxLen; omega) (by omega) (fun v' w' ho hg' => hK v' w' ?_ hg')
  refine RB_of_own ?_
  rw [List.length_append, flatB_append]
  exact ho
end Go.Proofs.YtadojakbfpdjjaaDoor.Px
