/-
  NatRing in plain numbers: sums and products do not depend on the order of their parts, products of sums are sums of products, one and zero, and what was added can be subtracted.
-/
import Derived.Test.YtgpninmfbooijaaDoorAwake
import Derived.Test.YtgpninmfbooijaaDoorPx18
namespace Go.Proofs.YtgpninmfbooijaaDoor.Px
open Go.RowKit Go.Proofs.YtgpninmfbooijaaDoorW.PrintWords Go.Proofs.YtgpninmfbooijaaDoorW.PrintLast Go.Proofs.YtgpninmfbooijaaDoorW.PrintMore Go.Proofs.YtgpninmfbooijaaDoor.Num

theorem letterbaglaw03_NatRing.pure : letterbaglaw03_NatRing.Pure := by
  intro l0 l1 l2 _ _ w0 _ _ w1 _ _ w2
  obtain ⟨a, ta, ea⟩ := number_n (lim_of w0) 300 300 rfl (by omega)
  obtain ⟨b, tb, eb⟩ := number_n (lim_of w1) 300 300 rfl (by omega)
  obtain ⟨c, tc, ec⟩ := number_n (lim_of w2) 300 300 rfl (by omega)
  have sa : Sz 1024 a := ta.le (by omega)
  have sb : Sz 1024 b := tb.le (by omega)
  have sc : Sz 1024 c := tc.le (by omega)
  have tab : Sz 301 (a + b) := ta.add tb
  have tbc : Sz 301 (b + c) := tb.add tc
  have sab : Sz 1024 (a + b) := tab.le (by omega)
  have sbc : Sz 1024 (b + c) := tbc.le (by omega)
  have sabc : Sz 1024 (a + b + c) := (tab.add (tc.le (by omega))).le (by omega)
  have mab : Sz 600 (a * b) := (ta.mul tb).le (by omega)
  have mbc : Sz 600 (b * c) := (tb.mul tc).le (by omega)
  have mac : Sz 600 (a * c) := (ta.mul tc).le (by omega)
  have qab : Sz 1024 (a * b) := mab.le (by omega)
  have qbc : Sz 1024 (b * c) := mbc.le (by omega)
  have qac : Sz 1024 (a * c) := mac.le (by omega)
  have qabc : Sz 1024 (a * b * c) := (mab.mul tc).le (by omega)
  have qd : Sz 1024 (a * (b + c)) := (ta.mul tbc).le (by omega)
  have s1 : Sz 1024 1 := (Sz.small (by decide)).le (by omega)
  have e1 : a + (b + c) = a + b + c := by omega
  have e2 : b + a = a + b := by omega
  have e3 : a + b - b = a := by omega
  have e4 : b * a = a * b := Nat.mul_comm b a
  have e5 : a * (b * c) = a * b * c := (Nat.mul_assoc a b c).symm
  have e6 : a * b + a * c = a * (b + c) := (Nat.mul_add a b c).symm
  have e7 : a * 1 = a := Nat.mul_one a
  apply Ev.get
  unfold letterbaglaw03_NatRing.f
  refine Ev.bind awake_ev (Ev.pos rfl (Ev.bind ea (Ev.bind eb (Ev.bind ec ?_))))
  refine Ev.bind_eq (Add_ok sa sb sab) (Ev.bind_eq (Add_ok sb sa (by rw [e2]; exact sab)) (Ev.bind_eq (Add_ok sab sc sabc) (Ev.bind_eq (Add_ok sb sc sbc) (Ev.bind_eq (Add_ok sa sbc (by rw [e1]; exact sabc)) (Ev.bind (Sub_ok sab (by omega)) ?_)))))
  refine Ev.pos (by simp [wrap0]) (Ev.bind (same_n sab) (Ev.pos (decide_eq_true e2.symm) (Ev.bind (same_n sabc) (Ev.pos (decide_eq_true e1.symm) (Ev.bind (same_n (by rw [e3]; exact sa)) ?_)))))
  rw [decide_eq_true e3]
  refine Ev.step ?_
  simp only [letterbaglaw03_NatRing.j0]
  refine Ev.neg (by decide) ?_
  refine Ev.bind (Mul_ok sa sb qab) (Ev.bind (Mul_ok sb sa (by rw [e4]; exact qab)) (Ev.bind (Mul_ok qab sc qabc) (Ev.bind (Mul_ok sb sc qbc) (Ev.bind (Mul_ok sa qbc (by rw [e5]; exact qabc)) ?_))))
  refine Ev.pos (by simp [wrap0]) (Ev.bind (same_n qab) (Ev.pos (decide_eq_true e4.symm) (Ev.bind (same_n qabc) ?_)))
  rw [decide_eq_true e5.symm]
  refine Ev.step ?_
  simp only [letterbaglaw03_NatRing.j1]
  refine Ev.neg (by decide) ?_
  refine Ev.bind (Mul_ok sa sbc qd) (Ev.bind (Mul_ok sa sc qac) (Ev.bind_eq (Add_ok qab qac (by rw [e6]; exact qd)) (Ev.bind (Of_n (x := 1) (by decide)) (Ev.bind (Mul_ok sa s1 (by rw [e7]; exact sa)) (Ev.bind (Mul_zero sa) (Ev.bind_eq (Add_zero sa) ?_))))))
  refine Ev.pos (by simp [wrap0]) (Ev.bind (same_n qd) (Ev.pos (decide_eq_true e6.symm) (Ev.bind (same_n (by rw [e7]; exact sa)) (Ev.pos (decide_eq_true e7) (Ev.pos rfl (Ev.bind (same_n sa) (Ev.done ?_)))))))
  exact decide_eq_true rfl
end Go.Proofs.YtgpninmfbooijaaDoor.Px
