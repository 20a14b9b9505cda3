/-
  height: a map of bars that a call makes, and what a walk knows of it.
-/
import Derived.Test.YtadojakbfpdjjaaDoorHPure
import Derived.Maps.RangeWalk
namespace Go.Proofs.YtadojakbfpdjjaaDoor.Px
open Go.RowKit Go.Maps Go.Proofs.YtadojakbfpdjjaaDoorW.PrintWords Go.Proofs.YtadojakbfpdjjaaDoorW.PrintLast Go.Proofs.YtadojakbfpdjjaaDoorW.PrintMore

abbrev DU := DataW Unit
def encB (b : Bar) : DU := .agg [.lit (.int .i64 b.f0), .lit (.int .i64 b.f1), .lit (.int .i64 b.f2)]
def barE : Value → Option (DU × List MemPlace)
  | .agg ⟨[.int .i64 a, .int .i64 b, .int .i64 c]⟩ => some (encB ⟨a, b, c⟩, [])
  | _ => none
theorem barE_mk (a b c : Int) : barE (.agg #[.int .i64 a, .int .i64 b, .int .i64 c]) = some (encB ⟨a, b, c⟩, []) := rfl
theorem barE_inv {v : Value} {z : DU × List MemPlace} (h : barE v = some z) : ∃ b : Bar, v = .agg #[.int .i64 b.f0, .int .i64 b.f1, .int .i64 b.f2] ∧ z = (encB b, []) := by
  unfold barE at h
  split at h
  · rename_i a b c
    cases h
    exact ⟨⟨a, b, c⟩, rfl, rfl⟩
  · cases h
theorem encB_inj {a b : Bar} (h : encB a = encB b) : a = b := by
  cases a; cases b
  simp [encB] at h
  obtain ⟨rfl, rfl, rfl⟩ := h
  rfl

theorem lawK : Keyed Tryd.prog 3 := int_keyed Tryd.underlying3
theorem zeroB (w : World) : (zeroValue 48).run Tryd.prog w = .ok (.agg #[.int .i64 0, .int .i64 0, .int .i64 0]) w := by kernel_rfl
theorem keyK (k : Int) (h0 : -9223372036854775808 ≤ k) (h1 : k ≤ 9223372036854775807) : keyOf Tryd.prog 3 (.int .i64 k) = some (.int .i64 k) := keyOf_int_mk Tryd.underlying3 (WalkArith.wf_i64 (by omega))
theorem isKey (k : Int) : WideAt.IsKeyLit (.int .i64 k) := trivial

/-- The map holds each bar at its place. -/
def MapIs (s : Stp) (l : List Bar) (D : DU) : Prop := ∀ k : Int, (barAt s l k = none → has D (.int .i64 k) = false) ∧ ∀ b, barAt s l k = some b → has D (.int .i64 k) = true ∧ ∀ zd, D.atKey (.int .i64 k) zd = encB b
abbrev owns (w : World) (m n : Nat) (D : DU) : Prop := w.ownsMap Tryd.prog 3 barE m n D

theorem owns_below {w w' : World} {m n : Nat} {D : DU} (h : owns w m n D) (hb : Below w.heap.size w w') : owns w' m n D := by
  have hlt := h.lt
  obtain ⟨es, clock, he, r⟩ := h
  exact ⟨es, clock, (hb.block m hlt).trans he, r⟩

theorem barAt_snoc (s : Stp) (l : List Bar) (b : Bar) (k : Int) : barAt s (l ++ [b]) k = (barAt s l k).or (if atB s b == k then some b else none) := by
  unfold barAt
  rw [List.find?_append]
  congr 1
  simp [List.find?]
  split <;> simp_all
theorem mapIs_nil (s : Stp) : MapIs s [] (.map []) := fun k => ⟨fun _ => rfl, fun b h => by simp [barAt] at h⟩
theorem mapIs_put {s : Stp} {l : List Bar} {D : DU} (h : MapIs s l D) (hD : IsMap D) {b : Bar} (hn : barAt s l (atB s b) = none) : MapIs s (l ++ [b]) (D.put (.int .i64 (atB s b)) (encB b)) := by
  intro k
  rw [barAt_snoc]
  by_cases hk : k = atB s b
  · subst hk
    rw [hn]
    simp only [beq_self_eq_true, if_true, Option.or_some]
    refine ⟨fun h => by simp at h, fun b' hb => ?_⟩
    obtain rfl := Option.some.inj hb
    exact ⟨has_put_same hD (isKey _) _, fun zd => atKey_put_same hD (isKey _) _ _⟩
  · have hne : (Lit.int .i64 k) ≠ .int .i64 (atB s b) := fun e => hk (by injection e)
    have hb : (atB s b == k) = false := by simpa using fun e => hk e.symm
    rw [hb]
    simp only [if_neg (by simp : ¬ false = true), Option.or_none]
    exact ⟨fun h1 => by rw [has_put_other hne]; exact (h k).1 h1, fun b' h1 => ⟨by rw [has_put_other hne]; exact ((h k).2 b' h1).1, fun zd => by rw [atKey_put_other hne]; exact ((h k).2 b' h1).2 zd⟩⟩

theorem barAt_none {s : Stp} {l : List Bar} {k : Int} : barAt s l k = none ↔ k ∉ l.map (atB s) := by
  unfold barAt
  rw [List.find?_eq_none]
  simp
theorem barAt_some {s : Stp} {l : List Bar} {k : Int} {b : Bar} (h : barAt s l k = some b) : b ∈ l ∧ atB s b = k := by
  unfold barAt at h
  exact ⟨List.mem_of_find?_eq_some h, by simpa using List.find?_some h⟩
theorem barAt_mem {s : Stp} : ∀ {l : List Bar}, (l.map (atB s)).Nodup → ∀ {b : Bar}, b ∈ l → barAt s l (atB s b) = some b
  | [], _, _, h => by cases h
  | c :: l, hn, b, h => by
    obtain ⟨h1, h2⟩ := List.nodup_cons.1 hn
    unfold barAt
    rcases List.mem_cons.1 h with rfl | h
    · simp [List.find?]
    · have hne : (atB s c == atB s b) = false := by
        refine beq_false_of_ne (fun e => h1 ?_)
        rw [e]
        exact List.mem_map.2 ⟨b, h, rfl⟩
      rw [List.find?_cons, hne]
      exact barAt_mem h2 h

theorem goodL_nil (s : Stp) : goodL s [] := ⟨(fun b h => by cases h), List.nodup_nil⟩
theorem goodL_snoc {s : Stp} {l : List Bar} {b : Bar} (h : goodL s l) (ho : onB s b) (hn : barAt s l (atB s b) = none) : goodL s (l ++ [b]) := by
  refine ⟨fun c hc => ?_, ?_⟩
  · rcases List.mem_append.1 hc with hc | hc
    · exact h.1 c hc
    · rw [List.mem_singleton] at hc; subst hc; exact ho
  · rw [List.map_append, List.nodup_append]
    refine ⟨h.2, by simp, fun a ha c hc => ?_⟩
    simp at hc
    subst hc
    intro e
    subst e
    exact barAt_none.1 hn ha
theorem goodL_take {s : Stp} {l : List Bar} (h : goodL s l) (k : Nat) : goodL s (l.take k) :=
  ⟨fun b hb => h.1 b (List.mem_of_mem_take hb), by rw [List.map_take]; exact h.2.sublist (List.take_sublist _ _)⟩
/-- A bar that makes a good list a bad one. -/
theorem goodL_bad {s : Stp} {l : List Bar} {k : Nat} (hk : k < l.length) (h : ¬ onB s l[k] ∨ barAt s (l.take k) (atB s l[k]) ≠ none) : ¬ goodL s l := by
  intro hg
  rcases h with h | h
  · exact h (hg.1 _ (List.getElem_mem hk))
  · refine h (barAt_none.2 fun hm => ?_)
    have h2 := (goodL_take hg (k + 1)).2
    rw [← List.take_append_getElem hk, List.map_append, List.nodup_append] at h2
    exact h2.2.2 _ hm _ (by simp) rfl

section
variable (w : World) {ops : Array Oper} {rest : List Oper} {o : Oper} {a : Act} {Q : Exit → Act → World → Prop}
/-- 'b, has := m[k]' at the operation. -/
theorem lookup_bar (hg : o.guard = none) (m x : Operand) (hop : o.op = Op.lookup 67 m x true) (b n : Nat) (D : DU)
    (hm : a.eval m = .map (some b)) (hown : owns w b n D) (k : Int) (h0 : -9223372036854775808 ≤ k) (h1 : k ≤ 9223372036854775807) (hx : a.eval x = .int .i64 k)
    (hK : ∀ c : Bar, D.atKey (.int .i64 k) (encB ⟨0, 0, 0⟩) = encB c → wpList Tryd.prog ops Q rest (a.put o.dst (.tuple #[.agg #[.int .i64 c.f0, .int .i64 c.f1, .int .i64 c.f2], .bool (has D (.int .i64 k))])) w) :
    wpList Tryd.prog ops Q (o :: rest) a w :=
  wpList_lookup_own_ok w hg m x _ hop _ _ lawK Tryd.underlying67 barE (zeroB w) (encB ⟨0, 0, 0⟩) [] rfl b n D hm hown _ _ hx (keyK k h0 h1) (fun v ps hv => by
    obtain ⟨c, rfl, hc⟩ := barE_inv hv
    exact hK c (congrArg Prod.fst hc))
end
theorem at_bar {w : World} {A : Option Addr} {xs : List Bar} (h : Kd.C k48 w A xs.length xs) (k : Nat) (hk : k < xs.length) : ∃ ad, A = some ad ∧ w.cell? (ad.add (k * 3)) = some (.int .i64 xs[k].f0) ∧ w.cell? ⟨(ad.add (k * 3)).block, (ad.add (k * 3)).off + 1, none⟩ = some (.int .i64 xs[k].f1) ∧ w.cell? ⟨(ad.add (k * 3)).block, (ad.add (k * 3)).off + 2, none⟩ = some (.int .i64 xs[k].f2) := by
  obtain ⟨ad, e, h1, h2, h3⟩ := at_T48 h (k : Int) (by omega) (by omega)
  have hr : rd_T48 xs (k : Int) = xs[k] := by
    unfold rd_T48
    rw [Int.toNat_natCast, List.getD_eq_getElem?_getD, List.getElem?_eq_getElem hk]
    rfl
  rw [hr, Int.toNat_natCast] at h1 h2 h3
  exact ⟨ad, e, h1, h2, h3⟩
theorem within_any (n lo hi : Int) (w : World) : Calls Tryd.prog 35 #[.int .i64 n, .int .i64 lo, .int .i64 hi] w fun e w' => e = .returned (.bool (decide (lo ≤ n ∧ n ≤ hi))) ∧ w' = w := by
  by_cases h0 : lo ≤ n
  · by_cases h1 : n ≤ hi
    · have e : decide (lo ≤ n ∧ n ≤ hi) = true := decide_eq_true ⟨h0, h1⟩
      rw [e]
      go_enter Tryd.func35, Tryd.ntmps35
      go_wp2
      go_ret
      exact ⟨rfl, rfl⟩
    · have e : decide (lo ≤ n ∧ n ≤ hi) = false := decide_eq_false (by omega)
      rw [e]
      go_enter Tryd.func35, Tryd.ntmps35
      go_wp2
      go_ret
      exact ⟨rfl, rfl⟩
  · have e : decide (lo ≤ n ∧ n ≤ hi) = false := decide_eq_false (by omega)
    rw [e]
    go_enter Tryd.func35, Tryd.ntmps35
    go_wp2
    go_ret
    exact ⟨rfl, rfl⟩
end Go.Proofs.YtadojakbfpdjjaaDoor.Px
