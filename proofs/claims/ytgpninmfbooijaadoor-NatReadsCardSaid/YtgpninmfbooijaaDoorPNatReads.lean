/-
  NatReads in plain numbers: texts are read back, ten times a number has a zero more, and the order of the texts is that of the numbers.
-/
import Derived.Test.YtgpninmfbooijaaDoorAwake
import Derived.Test.YtgpninmfbooijaaDoorPx17
namespace Go.Proofs.YtgpninmfbooijaaDoor.Px
open Go.RowKit Go.Proofs.YtgpninmfbooijaaDoorW.PrintWords Go.Proofs.YtgpninmfbooijaaDoorW.PrintLast Go.Proofs.YtgpninmfbooijaaDoorW.PrintMore Go.Proofs.YtgpninmfbooijaaDoor.Num

theorem bytesLess_iff : ∀ x y : List UInt8, Op.bytesLess x y = decide (x < y)
  | [], [] => by simp [Op.bytesLess]
  | _ :: _, [] => by simp [Op.bytesLess]
  | [], _ :: _ => by simp [Op.bytesLess]
  | a :: x, b :: y => by
    rw [Op.bytesLess, bytesLess_iff x y]
    simp only [List.cons_lt_cons_iff]
    by_cases h1 : a < b <;> by_cases h2 : a = b <;> by_cases h3 : x < y <;> simp [h1, h2, h3]

theorem textS_size (n : Nat) : (textS n).size = (decS n).length := by simp [textS, ByteArray.size]

theorem reads_end {a b : Nat} (ta : Sz 200 a) (tb : Sz 200 b) : Ev (fun k => letterbaglaw03_NatReads.j0 k (limbs a) (limbs b) (textS a) (textS b) false) true := by
  have sa : Sz 1024 a := ta.le (by omega)
  have sb : Sz 1024 b := tb.le (by omega)
  refine Ev.step ?_
  simp only [letterbaglaw03_NatReads.j0]
  refine Ev.neg (by decide) ?_
  rw [textS_size, textS_size]
  by_cases h : (decS a).length = (decS b).length
  · refine Ev.pos (by omega) (Ev.bind (less_n sa sb) (Ev.done ?_))
    rw [textS_bytes, textS_bytes, bytesLess_iff]
    have := decS_lt h
    rw [show decide (decS a < decS b) = decide (a < b) by rw [decide_eq_decide]; exact this]
    exact beq_self_eq_true _
  · refine Ev.neg (by omega) (Ev.bind (less_n sa sb) (Ev.done ?_))
    have : decide (a < b) = decide (((decS a).length : Int) < ((decS b).length : Int)) := by
      rw [decide_eq_decide]
      rcases Nat.lt_or_gt_of_ne h with h | h
      · have := decS_short_lt h
        exact ⟨fun _ => by omega, fun _ => this⟩
      · have := decS_short_lt h
        exact ⟨fun _ => by omega, fun _ => by omega⟩
    rw [this]
    exact beq_self_eq_true _

theorem letterbaglaw03_NatReads.pure : letterbaglaw03_NatReads.Pure := by
  intro l0 l1 _ _ w0 _ _ w1
  obtain ⟨a, ta, ea⟩ := number_n (lim_of w0) 200 200 rfl (by omega)
  obtain ⟨b, tb, eb⟩ := number_n (lim_of w1) 200 200 rfl (by omega)
  have sa : Sz 1024 a := ta.le (by omega)
  have sb : Sz 1024 b := tb.le (by omega)
  have t10 : Sz 2 10 := Sz.small (by decide)
  have q : Sz 1024 (a * 10) := (ta.mul t10).le (by omega)
  have fin := reads_end ta tb
  apply Ev.get
  unfold letterbaglaw03_NatReads.f
  refine Ev.bind awake_ev (Ev.pos rfl (Ev.bind ea (Ev.bind eb (Ev.bind_eq (Text_n sa) (Ev.bind_eq (Text_n sb) ?_)))))
  have hr : nat_Read.f (textS a) = some (limbs a, 0) := by rw [Read_n ta (by omega) (by omega), fitS_ok sa]
  refine Ev.bind_eq hr (Ev.bind (Of_n (x := 10) (by decide)) (Ev.bind (Mul_ok sa (t10.le (by omega)) q) (Ev.bind_eq (Text_n q) ?_)))
  refine Ev.pos (by simp [wrap0]) (Ev.bind (same_n sa) (Ev.pos (decide_eq_true rfl) ?_))
  have hlen := decS_short ta (by omega)
  by_cases ha : a = 0
  · subst ha
    have hz : ¬ ((limbs 0).length : Int) > 0 := by rw [limbs_zero]; simp
    refine Ev.neg hz (Ev.pos (by rw [limbs_zero]; rfl) ?_)
    have : ((textS (0 * 10)).toList != ([48] : List UInt8)) = false := by rw [textS_bytes]; rfl
    rw [this]
    exact fin
  · have hn : (limbs a).length ≠ 0 := fun h => ha (limbs_nil_iff.1 (List.eq_nil_of_length_eq_zero h))
    refine Ev.pos (by omega) (Ev.pos (by rw [textS_size]; omega) (Ev.pos ?_ (Ev.neg (by omega) fin)))
    rw [textS_bytes, decS_ten ha, ByteArray.toList_eq]
    simp [textS]
end Go.Proofs.YtgpninmfbooijaaDoor.Px
