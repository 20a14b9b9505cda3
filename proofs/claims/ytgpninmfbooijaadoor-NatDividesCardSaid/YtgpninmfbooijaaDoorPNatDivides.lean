/-
  NatDivides in plain numbers: the dividend is the quotient times the divisor, plus the remainder, which is less.
-/
import Derived.Test.YtgpninmfbooijaaDoorAwake
import Derived.Test.YtgpninmfbooijaaDoorPx19
namespace Go.Proofs.YtgpninmfbooijaaDoor.Px
open Go.RowKit Go.Proofs.YtgpninmfbooijaaDoorW.PrintWords Go.Proofs.YtgpninmfbooijaaDoorW.PrintLast Go.Proofs.YtgpninmfbooijaaDoorW.PrintMore Go.Proofs.YtgpninmfbooijaaDoor.Num

theorem letterbaglaw03_NatDivides.pure : letterbaglaw03_NatDivides.Pure := by
  intro l0 l1 _ _ w0 _ _ w1
  obtain ⟨a, sa, ea⟩ := number_n (lim_of w0) 1024 1024 rfl (by omega)
  obtain ⟨b, sb, eb⟩ := number_n (lim_of w1) 1024 1024 rfl (by omega)
  apply Ev.get
  unfold letterbaglaw03_NatDivides.f
  refine Ev.bind awake_ev (Ev.pos rfl (Ev.bind ea (Ev.bind eb ?_)))
  by_cases hb : b = 0
  · subst hb
    refine Ev.bind (DivMod_zero sa) (Ev.pos ?_ (Ev.pos rfl (Ev.done (by simp [wrap0]))))
    rw [limbs_zero]; rfl
  · have hl : ¬ ((limbs b).length : Int) = 0 := fun h => hb (limbs_nil_iff.1 (List.eq_nil_of_length_eq_zero (by omega)))
    have hq : Sz 1024 (a / b) := sa.down (Nat.div_le_self a b)
    have hr : Sz 1024 (a % b) := sa.down (Nat.mod_le a b)
    have hd := Nat.div_add_mod a b
    have hlt := Nat.mod_lt a (Nat.pos_of_ne_zero hb)
    have hm : Sz 1024 (a / b * b) := sa.down (Nat.div_mul_le_self a b)
    have hs : a / b * b + a % b = a := by rw [Nat.mul_comm]; exact hd
    refine Ev.bind (DivMod_ok sa sb hb) (Ev.neg hl ?_)
    refine Ev.bind (Mul_ok hq sb hm) ?_
    refine Ev.bind_eq (Add_ok hm hr (by rw [hs]; exact sa)) ?_
    rw [hs]
    refine Ev.pos (by simp [wrap0]) (Ev.bind_eq (Right_n hq) (Ev.pos rfl (Ev.bind_eq (Right_n hr) (Ev.pos rfl (Ev.bind (less_n hr sb) (Ev.pos (decide_eq_true hlt) (Ev.bind (same_n sa) (Ev.done ?_))))))))
    exact decide_eq_true rfl
end Go.Proofs.YtgpninmfbooijaaDoor.Px
