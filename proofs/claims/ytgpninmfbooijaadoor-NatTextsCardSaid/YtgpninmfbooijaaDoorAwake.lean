/-
  The chapter's examples hold: awake answers true.
-/
import Derived.Test.YtgpninmfbooijaaDoorNFun4
import Derived.Test.YtgpninmfbooijaaDoorPx8
namespace Go.Proofs.YtgpninmfbooijaaDoor.Px
open Go.RowKit Go.Proofs.YtgpninmfbooijaaDoorW.PrintWords Go.Proofs.YtgpninmfbooijaaDoorW.PrintLast Go.Proofs.YtgpninmfbooijaaDoorW.PrintMore Go.Proofs.YtgpninmfbooijaaDoor.Num

theorem textS_bytes (n : Nat) : (textS n).toList = decS n := by rw [ByteArray.toList_eq]; rfl
theorem awake_ev : Ev (fun k => letterbaglaw03_awake.f k) true := by
  unfold letterbaglaw03_awake.f
  have s1 : Sz 1024 1 := (Sz.small (by decide)).le (by omega)
  have s2 : Sz 1024 2 := (Sz.small (by decide)).le (by omega)
  have s10 : Sz 2 10 := Sz.small (by decide)
  have sB : Sz 2 4294967296 := Sz.small (by decide)
  have sB2 : Sz 4 18446744073709551616 := sB.mul sB
  have t1 : decS 18446744073709551616 = [49, 56, 52, 52, 54, 55, 52, 52, 48, 55, 51, 55, 48, 57, 53, 53, 49, 54, 49, 54] := by simp [decS, Dec.limbs_pos, Dec.limbs_zero]
  have t2 : decS 1844674407370955161 = [49, 56, 52, 52, 54, 55, 52, 52, 48, 55, 51, 55, 48, 57, 53, 53, 49, 54, 49] := by simp [decS, Dec.limbs_pos, Dec.limbs_zero]
  have t3 : decS 100000000000000000000 = [49, 48, 48, 48, 48, 48, 48, 48, 48, 48, 48, 48, 48, 48, 48, 48, 48, 48, 48, 48, 48] := by simp [decS, Dec.limbs_pos, Dec.limbs_zero]
  have lB : limbs 4294967296 = [0, 1] := by simp [limbs_pos, limbs_zero]
  have lB2 : limbs 18446744073709551616 = [0, 0, 1] := by simp [limbs_pos, limbs_zero]
  have l6 : limbs 6 = [6] := by simp [limbs_pos, limbs_zero]
  have l1 : limbs 1 = [1] := by simp [limbs_pos, limbs_zero]
  refine Ev.bind (Of_n (x := 4294967296) (by decide)) ?_
  refine Ev.bind (Mul_ok (sB.le (by omega)) (sB.le (by omega)) (sB2.le (by omega))) ?_
  refine Ev.bind_eq (Text_n (sB2.le (by omega))) ?_
  refine Ev.bind (Of_n (x := 10) (by decide)) ?_
  refine Ev.bind (DivMod_ok (sB2.le (by omega)) (s10.le (by omega)) (by decide)) ?_
  refine Ev.bind_eq (Text_n ((sB2.down (Nat.div_le_self _ _)).le (by omega))) ?_
  refine Ev.bind (Of_n (x := 1) (by decide)) ?_
  refine Ev.bind (Of_n (x := 2) (by decide)) ?_
  refine Ev.bind (Sub_no s2 (by decide)) ?_
  rw [← lB2, ← lB, ← l6]
  refine Ev.bind (same_n (sB.le (by omega))) (Ev.pos (decide_eq_true rfl) ?_)
  refine Ev.bind (same_n (sB2.le (by omega))) (Ev.pos (decide_eq_true rfl) ?_)
  refine Ev.pos ((textS_bytes _).trans t1) (Ev.pos ((textS_bytes _).trans t2) ?_)
  refine Ev.bind (same_n ((s10.down (by decide)).le (by omega))) (Ev.pos (decide_eq_true (by decide)) ?_)
  refine Ev.pos (by simp [wrap0]) (Ev.step ?_)
  simp only [letterbaglaw03_awake.j0]
  refine Ev.neg (by decide) ?_
  refine Ev.bind (Of_n (x := 10) (by decide)) ?_
  have p10 : Sz 1024 (10 ^ 20) := Sz.le (j := 4) (show 10 ^ 20 < 4294967296 ^ 4 by decide) (by omega)
  refine Ev.bind (Pow_ok (a := 10) (n := 20) (s10.le (by omega)) p10 (by omega)) ?_
  refine Ev.bind_eq (Text_n p10) ?_
  have z : Ev (fun k => nat_Pow.f k [] 0) (limbs 1, 0) := by
    have := Pow_ok (a := 0) (n := 0) (Sz.zero 1024) s1 (by omega)
    rw [limbs_zero] at this
    exact this
  refine Ev.bind z ?_
  refine Ev.bind_eq (t := ([], 30)) ?_ ?_
  · unfold nat_Read.f
    rw [if_pos (by decide)]
    unfold readS
    rw [if_neg]
    rintro ⟨_, h, _⟩
    exact h (by decide) rfl
  · rw [← l1]
    refine Ev.pos ((textS_bytes _).trans t3) ?_
    refine Ev.bind (same_n s1) (Ev.pos (decide_eq_true rfl) (Ev.pos (by simp [wrap0]) (Ev.pos rfl ?_)))
    refine Ev.bind_eq (t := false) (right_no ?_) (Ev.done rfl)
    rintro ⟨_, h⟩
    exact h 1 rfl rfl
end Go.Proofs.YtgpninmfbooijaaDoor.Px
