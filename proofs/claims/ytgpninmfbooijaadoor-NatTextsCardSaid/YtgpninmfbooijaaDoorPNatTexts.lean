/-
  NatTexts in plain numbers: texts and powers are as specified.
-/
import Derived.Test.YtgpninmfbooijaaDoorRef4
import Derived.Test.YtgpninmfbooijaaDoorPx14
namespace Go.Proofs.YtgpninmfbooijaaDoor.Px
open Go.RowKit Go.Proofs.YtgpninmfbooijaaDoorW.PrintWords Go.Proofs.YtgpninmfbooijaaDoorW.PrintLast Go.Proofs.YtgpninmfbooijaaDoorW.PrintMore Go.Proofs.YtgpninmfbooijaaDoor.Num

theorem same_self (l : List Int) (h : l.length ≤ 1024) : Ev (fun k => letterbaglaw03_same.f k l l) true := by
  have := same_ev l l (by omega)
  rw [decide_eq_true rfl] at this
  exact this

theorem natTexts_ev {a p : List Int} {s : ByteArray} {n : Int} (ha : Lim a) (hp : Lim p) : Ev (fun k => letterbaglaw03_natTexts.f k a s p n) true := by
  have out : Ev (fun k => letterbaglaw03_natTexts.j0 k a s p n true) true := by
    refine Ev.step ?_
    simp only [letterbaglaw03_natTexts.j0]
    exact Ev.pos trivial (Ev.const _)
  unfold letterbaglaw03_natTexts.f
  by_cases h1 : (a.length : Int) > 40
  · exact Ev.pos h1 out
  · refine Ev.neg h1 ?_
    by_cases h2 : (s.size : Int) > 400
    · exact Ev.pos h2 out
    · refine Ev.neg h2 ?_
      by_cases h3 : (p.length : Int) > 3
      · exact Ev.pos h3 out
      · refine Ev.neg h3 ?_
        by_cases h4 : n > 30
        · rw [decide_eq_true h4]; exact out
        · rw [decide_eq_false h4]
          obtain ⟨t, u, e, htu, t1, t2⟩ := text_both ha (by omega)
          obtain ⟨r, hr, r1, r2⟩ := read_both (s := s) (by omega)
          obtain ⟨q, hq, q1, q2⟩ := pow_both hp (by omega) n (by omega)
          refine Ev.step ?_
          simp only [letterbaglaw03_natTexts.j0]
          refine Ev.neg (by decide) (Ev.bind_eq t1 (Ev.bind t2 (Ev.pos ?_ ?_)))
          · show t.toList = u.toList
            rw [ByteArray.toList_eq, ByteArray.toList_eq]; exact htu
          · simp only [bne_self_eq_false]
            refine Ev.step ?_
            simp only [letterbaglaw03_natTexts.j1]
            refine Ev.neg (by decide) (Ev.bind_eq r1 (Ev.bind r2 (Ev.bind q1 (Ev.bind q2 (Ev.bind (same_self r.1 hr) (Ev.pos rfl (Ev.pos rfl (Ev.bind (same_self q.1 hq) (Ev.pos rfl (Ev.done ?_))))))))))
            exact beq_self_eq_true _

theorem letterbaglaw03_NatTexts.pure : letterbaglaw03_NatTexts.Pure := by
  intro l0 a1 l2 a3 _ _ w0 _ _ _ w2 _
  apply Ev.get
  unfold letterbaglaw03_NatTexts.f
  exact Ev.bind awake_ev (Ev.pos rfl (Ev.bind (natTexts_ev (lim_of w0) (lim_of w2)) (Ev.const _)))
end Go.Proofs.YtgpninmfbooijaaDoor.Px
