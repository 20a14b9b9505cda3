/-
  NatOrder in plain numbers: of two numbers one is less, or they are equal; the order stays with an addend and with a factor that is not zero.
-/
import Derived.Test.YtgpninmfbooijaaDoorAwake
import Derived.Test.YtgpninmfbooijaaDoorPx20
namespace Go.Proofs.YtgpninmfbooijaaDoor.Px
open Go.RowKit Go.Proofs.YtgpninmfbooijaaDoorW.PrintWords Go.Proofs.YtgpninmfbooijaaDoorW.PrintLast Go.Proofs.YtgpninmfbooijaaDoorW.PrintMore Go.Proofs.YtgpninmfbooijaaDoor.Num

theorem cmpN_add (a b c : Nat) : cmpN (a + c) (b + c) = cmpN a b := by
  unfold cmpN
  simp only [Nat.add_lt_add_iff_right]
theorem cmpN_mul {a b c : Nat} (hc : 0 < c) : cmpN (a * c) (b * c) = cmpN a b := by
  unfold cmpN
  simp only [Nat.mul_lt_mul_right hc]
theorem cmpN_self (a : Nat) : cmpN a a = 0 := by
  unfold cmpN
  rw [if_neg (Nat.lt_irrefl a), if_neg (Nat.lt_irrefl a)]

theorem order_end {a b c : Nat} (ta : Sz 500 a) (tb : Sz 500 b) (tc : Sz 500 c) : Ev (fun k => letterbaglaw03_NatOrder.j1 k (limbs a) (limbs b) (limbs c) (cmpN a b) false) true := by
  have sa : Sz 1024 a := ta.le (by omega)
  have sb : Sz 1024 b := tb.le (by omega)
  have sc : Sz 1024 c := tc.le (by omega)
  have sac : Sz 1024 (a + c) := (ta.add tc).le (by omega)
  have sbc : Sz 1024 (b + c) := (tb.add tc).le (by omega)
  have qac : Sz 1024 (a * c) := (ta.mul tc).le (by omega)
  have qbc : Sz 1024 (b * c) := (tb.mul tc).le (by omega)
  have t1 : Sz 500 1 := (Sz.small (by decide)).le (by omega)
  have s1 : Sz 1024 1 := t1.le (by omega)
  have sa1 : Sz 1024 (a + 1) := (ta.add t1).le (by omega)
  refine Ev.step ?_
  simp only [letterbaglaw03_NatOrder.j1]
  refine Ev.neg (by decide) ?_
  refine Ev.bind_eq (Add_ok sa sc sac) (Ev.bind_eq (Add_ok sb sc sbc) (Ev.bind (Mul_ok sa sc qac) (Ev.bind (Mul_ok sb sc qbc) (Ev.bind (Cmp_n sac sbc) (Ev.bind (Cmp_n qac qbc) (Ev.bind (Of_n (x := 1) (by decide)) (Ev.bind_eq (Add_ok sa s1 sa1) ?_)))))))
  refine Ev.pos (by simp [wrap0]) (Ev.pos (cmpN_add a b c) ?_)
  have hl : Ev (fun k => (letterbaglaw03_less.f k (limbs a) (limbs (a + 1))).bind fun t => some t) true := by
    refine Ev.bind (less_n sa sa1) (Ev.done ?_)
    exact decide_eq_true (Nat.lt_succ_self a)
  by_cases hc : c = 0
  · subst hc
    refine Ev.pos (by rw [limbs_zero]; rfl) (Ev.pos ?_ hl)
    simp only [Nat.mul_zero]
    exact cmpN_self 0
  · have hn : ¬ ((limbs c).length : Int) = 0 := fun h => hc (limbs_nil_iff.1 (List.eq_nil_of_length_eq_zero (by omega)))
    exact Ev.neg hn (Ev.pos (by omega) (Ev.pos (cmpN_mul (Nat.pos_of_ne_zero hc)) hl))

theorem letterbaglaw03_NatOrder.pure : letterbaglaw03_NatOrder.Pure := by
  intro l0 l1 l2 _ _ w0 _ _ w1 _ _ w2
  obtain ⟨a, ta, ea⟩ := number_n (lim_of w0) 500 500 rfl (by omega)
  obtain ⟨b, tb, eb⟩ := number_n (lim_of w1) 500 500 rfl (by omega)
  obtain ⟨c, tc, ec⟩ := number_n (lim_of w2) 500 500 rfl (by omega)
  have sa : Sz 1024 a := ta.le (by omega)
  have sb : Sz 1024 b := tb.le (by omega)
  have fin := order_end ta tb tc
  apply Ev.get
  unfold letterbaglaw03_NatOrder.f
  refine Ev.bind awake_ev (Ev.pos rfl (Ev.bind ea (Ev.bind eb (Ev.bind ec (Ev.bind (Cmp_n sa sb) (Ev.bind (Cmp_n sb sa) (Ev.pos (by simp [wrap0]) ?_)))))))
  have w1 : wrap64 (-1) = -1 := wrap_in (by omega) (by omega)
  have w2 : wrap64 1 = 1 := wrap_in (by omega) (by omega)
  rcases Nat.lt_trichotomy a b with h | h | h
  · have h1 : cmpN a b = -1 := by unfold cmpN; rw [if_pos h]
    have h2 : cmpN b a = 1 := by unfold cmpN; rw [if_neg (by omega), if_pos h]
    rw [h1] at fin
    rw [h1, h2]
    refine Ev.pos w1.symm (Ev.neg (by decide) (Ev.neg (by decide) (Ev.bind (same_n sa) ?_)))
    rw [decide_eq_false (show ¬ a = b by omega)]
    refine Ev.step ?_
    simp only [letterbaglaw03_NatOrder.j0]
    refine Ev.neg (by decide) (Ev.bind (Sub_no sb h) ?_)
    refine Ev.neg (by decide) (Ev.neg (by decide) (Ev.pos (by decide) (Ev.pos (by decide) (Ev.neg (by decide) fin))))
  · subst h
    have h1 := cmpN_self a
    rw [h1] at fin
    rw [h1]
    refine Ev.pos wrap0.symm (Ev.neg (by decide) (Ev.neg (by decide) (Ev.bind (same_n sa) ?_)))
    rw [decide_eq_true (show a = a from rfl)]
    refine Ev.step ?_
    simp only [letterbaglaw03_NatOrder.j0]
    refine Ev.neg (by decide) (Ev.bind (Sub_ok sa (Nat.le_refl a)) ?_)
    rw [Nat.sub_self, limbs_zero]
    exact Ev.neg (by decide) (Ev.pos (by decide) (Ev.pos (by decide) (Ev.neg (by decide) (Ev.pos (by decide) fin))))
  · have h1 : cmpN a b = 1 := by unfold cmpN; rw [if_neg (by omega), if_pos h]
    have h2 : cmpN b a = -1 := by unfold cmpN; rw [if_pos h]
    rw [h1] at fin
    rw [h1, h2]
    refine Ev.pos w2.symm (Ev.neg (by decide) (Ev.neg (by decide) (Ev.bind (same_n sa) ?_)))
    rw [decide_eq_false (show ¬ a = b by omega)]
    refine Ev.step ?_
    simp only [letterbaglaw03_NatOrder.j0]
    refine Ev.neg (by decide) (Ev.bind (Sub_ok sa (Nat.le_of_lt h)) ?_)
    exact Ev.neg (by simp) (Ev.pos (by decide) (Ev.pos rfl (Ev.neg (by decide) (Ev.neg (by decide) fin))))
end Go.Proofs.YtgpninmfbooijaaDoor.Px
