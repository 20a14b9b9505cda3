/-
  height: a number of a bar of a row of the call's own, stored anew.
-/
import Derived.Test.YtadojakbfpdjjaaDoorHRows
namespace Go.Proofs.YtadojakbfpdjjaaDoor.Px
open Go.RowKit Go.Maps Go.Proofs.YtadojakbfpdjjaaDoorW.PrintWords Go.Proofs.YtadojakbfpdjjaaDoorW.PrintLast Go.Proofs.YtadojakbfpdjjaaDoorW.PrintMore

theorem flatB_set0 : ∀ (l : List Bar) (k : Nat) (hk : k < l.length) (x : Int), flatB (l.set k ⟨x, l[k].f1, l[k].f2⟩) = (flatB l).set (k * 3) (.int .i64 x)
  | [], k, hk, x => by simp at hk
  | b :: l, 0, _, x => rfl
  | b :: l, k + 1, hk, x => by
    have ih := flatB_set0 l k (by simpa using hk) x
    rw [show (k + 1) * 3 = k * 3 + 1 + 1 + 1 by omega]
    simp only [List.set_cons_succ, List.getElem_cons_succ, flatB, ih]
theorem flatB_set1 : ∀ (l : List Bar) (k : Nat) (hk : k < l.length) (x : Int), flatB (l.set k ⟨l[k].f0, x, l[k].f2⟩) = (flatB l).set (k * 3 + 1) (.int .i64 x)
  | [], k, hk, x => by simp at hk
  | b :: l, 0, _, x => rfl
  | b :: l, k + 1, hk, x => by
    have ih := flatB_set1 l k (by simpa using hk) x
    rw [show (k + 1) * 3 + 1 = k * 3 + 1 + 1 + 1 + 1 by omega]
    simp only [List.set_cons_succ, List.getElem_cons_succ, flatB, ih]
theorem flatB_set2 : ∀ (l : List Bar) (k : Nat) (hk : k < l.length) (x : Int), flatB (l.set k ⟨l[k].f0, l[k].f1, x⟩) = (flatB l).set (k * 3 + 2) (.int .i64 x)
  | [], k, hk, x => by simp at hk
  | b :: l, 0, _, x => rfl
  | b :: l, k + 1, hk, x => by
    have ih := flatB_set2 l k (by simpa using hk) x
    rw [show (k + 1) * 3 + 2 = k * 3 + 2 + 1 + 1 + 1 by omega]
    simp only [List.set_cons_succ, List.getElem_cons_succ, flatB, ih]
theorem RB_form {w : World} {base : Nat} {v : Value} {l : List Bar} (h : RB w base v l) (hl : 0 < l.length) : ∃ g cap, v = .slice (some ⟨g, 0, none⟩) l.length cap ∧ base ≤ g := by
  obtain ⟨g, cap, h1, h2, _⟩ := World.ownsRow.form (RB_own h) hl
  exact ⟨g, cap, h1, h2⟩
section
variable {w : World} {base g cap : Nat} {l : List Bar}
theorem RB_put0 (h : RB w base (.slice (some ⟨g, 0, none⟩) l.length cap) l) (k : Nat) (hk : k < l.length) (x : Int) :
    RB (w.setCell ⟨g, k * 3, none⟩ (.int .i64 x)) base (.slice (some ⟨g, 0, none⟩) l.length cap) (l.set k ⟨x, l[k].f1, l[k].f2⟩) := by
  refine RB_of_own ?_
  rw [List.length_set, flatB_set0]
  exact (World.ownsRow.stored (RB_own h) (k * 3) (.int .i64 x)).1
theorem RB_put1 (h : RB w base (.slice (some ⟨g, 0, none⟩) l.length cap) l) (k : Nat) (hk : k < l.length) (x : Int) :
    RB (w.setCell ⟨g, k * 3 + 1, none⟩ (.int .i64 x)) base (.slice (some ⟨g, 0, none⟩) l.length cap) (l.set k ⟨l[k].f0, x, l[k].f2⟩) := by
  refine RB_of_own ?_
  rw [List.length_set, flatB_set1]
  exact (World.ownsRow.stored (RB_own h) (k * 3 + 1) (.int .i64 x)).1
theorem RB_put2 (h : RB w base (.slice (some ⟨g, 0, none⟩) l.length cap) l) (k : Nat) (hk : k < l.length) (x : Int) :
    RB (w.setCell ⟨g, k * 3 + 2, none⟩ (.int .i64 x)) base (.slice (some ⟨g, 0, none⟩) l.length cap) (l.set k ⟨l[k].f0, l[k].f1, x⟩) := by
  refine RB_of_own ?_
  rw [List.length_set, flatB_set2]
  exact (World.ownsRow.stored (RB_own h) (k * 3 + 2) (.int .i64 x)).1
theorem RB_frozen (h : RB w base (.slice (some ⟨g, 0, none⟩) l.length cap) l) (j : Nat) : w.frozen? ⟨g, j, none⟩ = false := World.ownsRow.frozenAt (RB_own h) j
theorem RB_cells (h : RB w base (.slice (some ⟨g, 0, none⟩) l.length cap) l) (k : Nat) (hk : k < l.length) :
    w.cell? ⟨g, k * 3, none⟩ = some (.int .i64 l[k].f0) ∧ w.cell? ⟨g, k * 3 + 1, none⟩ = some (.int .i64 l[k].f1) ∧ w.cell? ⟨g, k * 3 + 2, none⟩ = some (.int .i64 l[k].f2) := by
  have h1 := flatB_get l k _ (List.getElem?_eq_getElem hk)
  have hg : ∀ i, i < 3 → (flatB l)[k * 3 + i]? = ([.int .i64 l[k].f0, .int .i64 l[k].f1, .int .i64 l[k].f2] : List Value)[i]? := fun i hi => by
    rw [← h1, List.getElem?_take_of_lt hi, List.getElem?_drop]
  have hc := fun i (hi : i < 3) => World.ownsRow.cellAt (RB_own h) (k * 3 + i) (by omega)
  exact ⟨(hc 0 (by omega)).trans (hg 0 (by omega)), (hc 1 (by omega)).trans (hg 1 (by omega)), (hc 2 (by omega)).trans (hg 2 (by omega))⟩
end
theorem RB_read {w : World} {base g cap : Nat} {l m : List Bar} {n : Nat} (h : RB w base (.slice (some ⟨g, 0, none⟩) n cap) l) (hm : l = m) (hn : m.length = n) : n ≤ cap ∧ CB w (some ⟨g, 0, none⟩) m := by
  subst hm
  subst hn
  obtain ⟨A, c, e, h1, h2⟩ := CB_of_RB h
  cases e
  exact ⟨h1, h2⟩
/-- Bars behind a row of the call's own. -/
theorem bars_append {w0 W : World} {ops : Array Oper} {rest : List Oper} {o : Oper} {a : Act} {Q : Exit → Act → World → Prop} (base : Nat) (hgd : o.guard = none) (s x : Operand)
    (ho : o.op = .call { callee := .builtin .append, args := #[s, x], argTypes := #[24, 24] }) (v : Value) (xs l : List Bar) (A : Option Addr) (c : Nat) (hs : a.eval s = v) (hx : a.eval x = .slice A l.length c)
    (HO : RB W base v xs) (HR : CB W A l) (HB : Below base w0 W) (hbase : base ≤ W.heap.size) (hl : xs.length + l.length ≤ 1000000)
    (h : ∀ v1 w1, RB w1 base v1 (xs ++ l) → Below base w0 w1 → W.grownBy w1 v.ownBlock → wpList Tryd.prog ops Q rest (a.put o.dst v1) w1) : wpList Tryd.prog ops Q (o :: rest) a W :=
  Kd.R_append_rows (P := Tryd.prog) kB (Rr := kB.K W) (w0 := w0) base hgd s x 24 48 (.agg #[(.int .i64 0), (.int .i64 0), (.int .i64 0)]) 24 ho Tryd.underlying24 info48 rfl (by decide) (by omega) v xs l A l.length c (fun _ => True) (fun _ => False) hs hx HO HR
    (fun b cs hK => by obtain rfl := k48_open hK; exact k48_mkM _ _ _ b) (fun _ hk => hk.elim) (fun _ _ => trivial) HB hbase (by omega) (fun v1 w1 a1 a2 a3 _ => h v1 w1 a1 a2 a3)
end Go.Proofs.YtadojakbfpdjjaaDoor.Px
