/-
  height.Margin: by how much all numbers may be wrong; the map is ranged over in whatever order.
-/
import Derived.Test.YtadojakbfpdjjaaDoorHRead
namespace Go.Proofs.YtadojakbfpdjjaaDoor.Px
open Go.RowKit Go.Maps Go.Proofs.YtadojakbfpdjjaaDoorW.PrintWords Go.Proofs.YtadojakbfpdjjaaDoorW.PrintLast Go.Proofs.YtadojakbfpdjjaaDoorW.PrintMore

theorem minL_spec (s : Stp) (l : List Bar) : isMin s l (fun _ => True) (minL s l) := by
  have gen : ∀ (l : List Bar) (m : Int), l.foldl (fun m b => min m (roomB s b)) m ≤ m ∧ (∀ b ∈ l, l.foldl (fun m b => min m (roomB s b)) m ≤ roomB s b) ∧ (l.foldl (fun m b => min m (roomB s b)) m = m ∨ ∃ b ∈ l, l.foldl (fun m b => min m (roomB s b)) m = roomB s b) := by
    intro l
    induction l with
    | nil => intro m; exact ⟨Int.le_refl _, (fun b h => by cases h), .inl rfl⟩
    | cons b l ih =>
      intro m
      obtain ⟨h1, h2, h3⟩ := ih (min m (roomB s b))
      simp only [List.foldl_cons]
      refine ⟨by omega, fun c hc => ?_, ?_⟩
      · rcases List.mem_cons.1 hc with rfl | hc
        · omega
        · exact h2 c hc
      · rcases h3 with h3 | ⟨c, hc, h3⟩
        · rw [h3]
          by_cases h : m ≤ roomB s b
          · left; omega
          · right; exact ⟨b, List.mem_cons_self, by omega⟩
        · right; exact ⟨c, List.mem_cons_of_mem _ hc, h3⟩
  obtain ⟨h1, h2, h3⟩ := gen l 1048576
  exact ⟨h1, fun b hb _ => h2 b hb, h3.imp id (fun ⟨b, hb, h⟩ => ⟨b, hb, trivial, h⟩)⟩
theorem isMin_eq {s : Stp} {l : List Bar} {m : Int} (h : isMin s l (fun _ => True) m) : m = minL s l := by
  obtain ⟨a1, a2, a3⟩ := h
  obtain ⟨b1, b2, b3⟩ := minL_spec s l
  have h1 : m ≤ minL s l := by
    rcases b3 with e | ⟨b, hb, _, e⟩
    · omega
    · rw [e]; exact a2 b hb trivial
  have h2 : minL s l ≤ m := by
    rcases a3 with e | ⟨b, hb, _, e⟩
    · omega
    · rw [e]; exact b2 b hb trivial
  omega
/-- One bar more. -/
theorem isMin_step {s : Stp} {l : List Bar} {p q : Bar → Prop} {m : Int} {b : Bar} (h : isMin s l p m) (hb : b ∈ l) (hpq : ∀ c ∈ l, q c ↔ p c ∨ c = b) : isMin s l q (min m (roomB s b)) := by
  obtain ⟨h1, h2, h3⟩ := h
  refine ⟨by omega, fun c hc hq => ?_, ?_⟩
  · rcases (hpq c hc).1 hq with hp | rfl
    · have := h2 c hc hp; omega
    · omega
  · by_cases hm : m ≤ roomB s b
    · rcases h3 with h3 | ⟨c, hc, hp, h3⟩
      · left; omega
      · right; exact ⟨c, hc, (hpq c hc).2 (.inl hp), by omega⟩
    · right; exact ⟨b, hb, (hpq b hb).2 (.inr rfl), by omega⟩
theorem isMin_congr {s : Stp} {l : List Bar} {p q : Bar → Prop} {m : Int} (h : isMin s l p m) (hpq : ∀ c ∈ l, q c ↔ p c) : isMin s l q m :=
  ⟨h.1, fun b hb hq => h.2.1 b hb ((hpq b hb).1 hq), h.2.2.imp id (fun ⟨b, hb, hp, e⟩ => ⟨b, hb, (hpq b hb).2 hp, e⟩)⟩

abbrev rng (w : World) (m r n : Nat) (D : DU) (left : Lit → Bool) (cnt : Nat) : Prop := w.ranges Tryd.prog 3 barE m r n D left cnt
theorem room_any (s : Stp) (n : Int) (w : World) (hs : rightP s) (h0 : 0 ≤ n) (h1 : n ≤ 1048576) : Calls Tryd.prog 30 #[.agg #[.int .i64 s.f0, .int .i64 s.f1, .int .i64 s.f2, .int .i64 s.f3, .int .i64 s.f4, .int .i64 s.f5], .int .i64 n] w fun e w' => e = .returned (.int .i64 (roomN s n)) ∧ Below w.heap.size w w' :=
  height_Setup_room.calls s.f0 s.f1 s.f2 s.f3 s.f4 s.f5 n _ w (room_f hs h0 h1)
theorem errL_zero {s : Stp} {l : List Bar} (he : errL s l = 0) : l.length ≤ 400 ∧ rightP s ∧ (∀ b ∈ l, okBar b) ∧ goodL s l := by
  by_cases h4 : 400 < l.length
  · rw [errL_5 h4] at he; omega
  · by_cases hs : rightP s
    · by_cases hb : ∀ b ∈ l, okBar b
      · by_cases hg : goodL s l
        · exact ⟨by omega, hs, hb, hg⟩
        · rw [errL_210 h4 hs hb hg] at he; omega
      · rw [errL_bar h4 hs hb] at he; omega
    · rw [errL_2 h4 hs] at he; omega
theorem rng_below {w w' : World} {m r n : Nat} {D : DU} {left : Lit → Bool} {cnt : Nat} (h : rng w m r n D left cnt) (hb : Below w.heap.size w w') : rng w' m r n D left cnt := by
  have h1 := h.owns.lt
  have h2 := h.lt
  obtain ⟨es, clock, since, seen, c0, he, F, hs, hD, hr, rest⟩ := h
  exact ⟨es, clock, since, seen, c0, (hb.block m h1).trans he, F, hs, hD, (hb.block r h2).trans hr, rest⟩
section
variable (w : World) {ops : Array Oper} {rest : List Oper} {o : Oper} {a : Act} {Q : Exit → Act → World → Prop}
/-- A round over a map of bars: nothing is left, or some bar has come. -/
theorem next_bar (hg : o.guard = none) (it : Operand) (hop : o.op = Op.next it false) (m r n : Nat) (D : DU) (left : Lit → Bool) (cnt : Nat) (hit : a.eval it = .pointer (some ⟨r, 0, none⟩)) (h : rng w m r n D left cnt)
    (hDone : cnt = 0 → (∀ kl, left kl = false) → wpList Tryd.prog ops Q rest (a.put o.dst (.tuple #[.bool false])) w)
    (hMore : ∀ (x : Int) (c : Bar) (w' : World) (cnt' : Nat), left (.int .i64 x) = true → (∀ zd, D.atKey (.int .i64 x) zd = encB c) → rng w' m r n D (fun z => left z && !z.sameKey (.int .i64 x)) cnt' → cnt' < cnt →
      w.grownBy w' (some r) → w'.heap.size = w.heap.size → (Instr.entry (.pointer (some ⟨r, 0, none⟩))).run Tryd.prog w' = .ok (.tuple #[.int .i64 x, .agg #[.int .i64 c.f0, .int .i64 c.f1, .int .i64 c.f2]]) w' → wpList Tryd.prog ops Q rest (a.put o.dst (.tuple #[.bool true, .int .i64 x, .agg #[.int .i64 c.f0, .int .i64 c.f1, .int .i64 c.f2]])) w') :
    wpList Tryd.prog ops Q (o :: rest) a w :=
  wpList_next_ranges w hg it hop _ lawK barE (Value.int .i64) (fun c : Bar => .agg #[.int .i64 c.f0, .int .i64 c.f1, .int .i64 c.f2])
    (fun key kl hkey => by obtain ⟨x, rfl, _⟩ := keyOf_int_inv Tryd.underlying3 hkey; exact ⟨x, rfl⟩) (fun v y hv => by obtain ⟨c, rfl, _⟩ := barE_inv hv; exact ⟨c, rfl⟩) m r n D left cnt hit h hDone
    (fun x c kl y w' cnt' hkey hlk hv hat hrg hlt hgr hsz hen => by
      obtain ⟨x', ex, rfl, _⟩ := keyOf_int_inv Tryd.underlying3 hkey
      cases ex
      cases hv
      exact hMore x c w' cnt' hlk hat hrg hlt hgr hsz hen)
end
theorem run_min4 (w : World) (ts : Array TypeId) (t : TypeId) (x y z u : Int) :
    (Builtin.min_ ts t #[.int .i64 x, .int .i64 y, .int .i64 z, .int .i64 u]).run Tryd.prog w = .ok (.int .i64 (min (min (min x y) z) u)) w := by
  have e : ∀ a b : Int, (if b < a then b else a) = min a b := fun a b => by split <;> omega
  simp [Builtin.min_, Builtin.min2, e]
theorem came_bar {s : Stp} {l : List Bar} {D : DU} (h : MapIs s l D) {x : Int} {b : Bar} (hat : ∀ zd, D.atKey (.int .i64 x) zd = encB b) : b ∈ l ∧ atB s b = x := by
  have hh := has_true_of_atKey hat
  cases hb : barAt s l x with
  | none => rw [(h x).1 hb] at hh; cases hh
  | some c =>
    have h1 := ((h x).2 c hb).2 (encB b)
    rw [hat] at h1
    obtain rfl := encB_inj h1
    exact barAt_some hb
theorem left_step {s : Stp} {l : List Bar} {left : Lit → Bool} {b : Bar} {m : Int} (hg : goodL s l) (hb : b ∈ l) (h : isMin s l (fun c => left (.int .i64 (atB s c)) = false) m) :
    isMin s l (fun c => (left (.int .i64 (atB s c)) && !(Lit.int .i64 (atB s c)).sameKey (.int .i64 (atB s b))) = false) (min m (roomB s b)) := by
  refine isMin_step h hb (fun c hc => ?_)
  have hk : (Lit.int .i64 (atB s c)).sameKey (.int .i64 (atB s b)) = true ↔ c = b := by
    rw [WideAt.sameKey_iff (isKey _)]
    refine ⟨fun e => ?_, fun e => by rw [e]⟩
    have e1 : atB s c = atB s b := by injection e
    have h1 := barAt_mem hg.2 hc
    rw [e1, barAt_mem hg.2 hb] at h1
    exact (Option.some.inj h1).symm
  rw [← hk]
  cases left (.int .i64 (atB s c)) <;> cases (Lit.int .i64 (atB s c)).sameKey (.int .i64 (atB s b)) <;> simp
theorem left_start {s : Stp} {l : List Bar} {D : DU} (hg : goodL s l) (h : MapIs s l D) : isMin s l (fun c => has D (.int .i64 (atB s c)) = false) 1048576 :=
  ⟨Int.le_refl _, (fun b hb (hp : has D (.int .i64 (atB s b)) = false) => by rw [((h (atB s b)).2 b (barAt_mem hg.2 hb)).1] at hp; cases hp), .inl rfl⟩

set_option maxHeartbeats 8000000 in
set_option maxRecDepth 100000 in
theorem margin_walk (s : Stp) (A : Option Addr) (c : Nat) (l : List Bar) (w : World) (hl : Kd.C k48 w A l.length l) (hc : l.length ≤ c) :
    Calls Tryd.prog 11 #[.agg #[.int .i64 s.f0, .int .i64 s.f1, .int .i64 s.f2, .int .i64 s.f3, .int .i64 s.f4, .int .i64 s.f5], .slice A l.length c] w fun e w' => e = .returned (.tuple #[.int .i64 (marginL s l).1, .int .i64 (marginL s l).2]) ∧ Below w.heap.size w w' := by
  have HL := Aside0.mk hl
  have HC := Aside0.mk hc
  clear hl hc
  go_enter Tryd.func11, Tryd.ntmps11
  by_cases he : errL s l = 0
  · have HE := Aside0.mk he
    obtain ⟨hlen, hr, hall, hgd⟩ := errL_zero he
    have HR := Aside0.mk hr
    have HALL := Aside0.mk hall
    have HGD := Aside0.mk hgd
    clear he hr hall hgd
    go_wp2_with (first
      | (go_at_call 25; refine (place_good s A c l _ (Kd.C_below HL.out (below_alloc (Below.refl _ _) _)) HC.out HE.out).mono ?_; rintro e w1 ⟨m, D, rfl, hm, hown, hmap, hb⟩; have HB := Aside0.mk (below_step (below_alloc (Below.refl _ _) _) hb); have GB := Aside0.mk (blk_below (blk_new w (.cells #[.int .i64 s.f0, .int .i64 s.f1, .int .i64 s.f2, .int .i64 s.f3, .int .i64 s.f4, .int .i64 s.f5] 23 (0, 0))) hb); have HOW := Aside0.mk hown; have HM := Aside0.mk hmap; have HMM := Aside0.mk hm; clear hb hown hmap hm)
      | (at_range; refine wpList_range_own _ rfl _ 67 rfl 3 48 lawK Tryd.underlying67 _ m l.length D rfl HOW.out ?_; intro w2 hrg hg0 hs0; have n1_ := Aside0.mk hrg; have n2_ := Aside0.mk (Below.grown HB.out hg0 (below_size HB.out) (fun k hk => by cases hk)); have n3_ := Aside0.mk (blk_grown GB.out hg0 (by simp)); clear hrg hg0 hs0))
    go_frame
    obtain ⟨r, hr⟩ : ∃ r, w1.heap.size = r := ⟨_, rfl⟩
    have HRW := Aside0.mk (show w.heap.size < r by rw [← hr]; exact blk_lt GB.out)
    rw [hr] at n1_
    rw [hr]
    clear hr
    have hstart := left_start HGD.out HM.out
    have HST := Aside0.mk hstart
    clear hstart
    go_loopw [8] (fun v8 wx => ∃ (left : Lit → Bool) (cnt : Nat) (out : Int), v8 = .int .i64 out ∧ Aside0 (rng wx m r l.length D left cnt) ∧ Aside0 (isMin s l (fun c => left (.int .i64 (atB s c)) = false) out) ∧ Aside0 (wx.heap[w.heap.size]? = some (.cells #[.int .i64 s.f0, .int .i64 s.f1, .int .i64 s.f2, .int .i64 s.f3, .int .i64 s.f4, .int .i64 s.f5] 23 (0, 0))) ∧ Aside0 (Below w.heap.size w wx)) (fun _ wx => wx.rangeLeft m r)
    case atStart => exact ⟨_, _, _, rfl, n1_, HST, n3_, n2_⟩
    case round =>
      clear n1_ n2_ n3_ HST GB HB HOW HMM
      obtain ⟨left, cnt, out, rfl, HRG, HMI, GB, HB⟩ := hrel
      have HRG0 := HRG
      go_upto_region 9 with (first
        | (at_next; refine next_bar _ rfl _ rfl m r l.length D left cnt rfl HRG.out ?aD ?aM; (case' aD => intro hc0 hl0; have HL0 := Aside0.mk hl0; clear hl0); (case' aM => intro x b wn cntn hlx hat hrg hlt hgr hsz hen; obtain ⟨hbl, hbx⟩ := came_bar HM.out hat; have n1_ := Aside0.mk (Below.grown HB.out hgr (below_size HB.out) (fun k hk => by have := HRW.out; have := Option.some.inj hk; omega)); have n2_ := Aside0.mk (blk_grown GB.out hgr (fun h => by have := HRW.out; have := Option.some.inj h; omega)); have HAW := Aside0.mk (away_on HR.out (HALL.out b hbl) (HGD.out.1 b hbl)); have n3_ := Aside0.mk hrg; have HBL := Aside0.mk hbl; have HBX := Aside0.mk hbx; have HLT := Aside0.mk hlt; clear hrg hlt hgr hsz hat hlx hbl hbx HB GB HRG; have HB := n1_; have GB := n2_; have HRG := n3_; clear n1_ n2_ n3_; have hgz : w.heap.size < (wn).heap.size := blk_lt (GB.out); have hg0 : (wn).cell? ⟨w.heap.size, 0, none⟩ = some (.int .i64 s.f0) := (blk_cell (GB.out) 0).trans rfl; have hg1 : (wn).cell? ⟨w.heap.size, 1, none⟩ = some (.int .i64 s.f1) := (blk_cell (GB.out) 1).trans rfl; have hg2 : (wn).cell? ⟨w.heap.size, 2, none⟩ = some (.int .i64 s.f2) := (blk_cell (GB.out) 2).trans rfl; have hg3 : (wn).cell? ⟨w.heap.size, 3, none⟩ = some (.int .i64 s.f3) := (blk_cell (GB.out) 3).trans rfl; have hg4 : (wn).cell? ⟨w.heap.size, 4, none⟩ = some (.int .i64 s.f4) := (blk_cell (GB.out) 4).trans rfl; have hg5 : (wn).cell? ⟨w.heap.size, 5, none⟩ = some (.int .i64 s.f5) := (blk_cell (GB.out) 5).trans rfl))
        | (go_at_call 29; refine (height_Setup_away.calls s.f0 s.f1 s.f2 s.f3 s.f4 s.f5 b.f0 b.f1 b.f2 _ _ _ _ HAW.out).mono ?_; rintro e w3 ⟨rfl, hb⟩; have n1_ := Aside0.mk (below_step (below_alloc HB.out _) hb); have n2_ := Aside0.mk (blk_below (blk_alloc GB.out _) hb); have n3_ := Aside0.mk (blk_below (blk_new wn (.cells #[.int .i64 b.f0, .int .i64 b.f1, .int .i64 b.f2] 48 (0, 0))) hb); have n4_ := Aside0.mk (rng_below (HRG.out.alloc _) hb); clear hb HB GB HRG; have HB := n1_; have GB := n2_; have HRG := n4_; have BB := n3_; clear n1_ n2_ n3_ n4_; have hyz : w.heap.size < (w3).heap.size := blk_lt (GB.out); have hy0 : (w3).cell? ⟨w.heap.size, 0, none⟩ = some (.int .i64 s.f0) := (blk_cell (GB.out) 0).trans rfl; have hy1 : (w3).cell? ⟨w.heap.size, 1, none⟩ = some (.int .i64 s.f1) := (blk_cell (GB.out) 1).trans rfl; have hy2 : (w3).cell? ⟨w.heap.size, 2, none⟩ = some (.int .i64 s.f2) := (blk_cell (GB.out) 2).trans rfl; have hy3 : (w3).cell? ⟨w.heap.size, 3, none⟩ = some (.int .i64 s.f3) := (blk_cell (GB.out) 3).trans rfl; have hy4 : (w3).cell? ⟨w.heap.size, 4, none⟩ = some (.int .i64 s.f4) := (blk_cell (GB.out) 4).trans rfl; have hy5 : (w3).cell? ⟨w.heap.size, 5, none⟩ = some (.int .i64 s.f5) := (blk_cell (GB.out) 5).trans rfl; have hxz : wn.heap.size < (w3).heap.size := blk_lt (BB.out); have hx0 : (w3).cell? ⟨wn.heap.size, 0, none⟩ = some (.int .i64 b.f0) := (blk_cell (BB.out) 0).trans rfl; have hx1 : (w3).cell? ⟨wn.heap.size, 1, none⟩ = some (.int .i64 b.f1) := (blk_cell (BB.out) 1).trans rfl; have hx2 : (w3).cell? ⟨wn.heap.size, 2, none⟩ = some (.int .i64 b.f2) := (blk_cell (BB.out) 2).trans rfl))
      · have hbb := HALL.out b HBL.out
        have hon := HGD.out.1 b HBL.out
        have hd0 : 0 ≤ dB s b := by unfold dB; omega
        have hd1 : dB s b ≤ s.f3 := hon.2.2
        have hrr := HR.out
        unfold rightP at hrr
        have hsub : IntKind.i64.wrap (s.f3 - dB s b) = s.f3 - dB s b := IntWalk.i64_in _ (by omega)
        have HU := Aside0.mk hbb.2.1
        have HD := Aside0.mk hbb.2.2
        clear hbb hon hrr
        have hmin := run_min4
        go_region_held3 (fun W => Below w3.heap.size w3 W ∧ W.cell? ⟨w.heap.size, 0, none⟩ = some (.int .i64 s.f0) ∧ W.cell? ⟨w.heap.size, 1, none⟩ = some (.int .i64 s.f1) ∧ W.cell? ⟨w.heap.size, 2, none⟩ = some (.int .i64 s.f2) ∧ W.cell? ⟨w.heap.size, 3, none⟩ = some (.int .i64 s.f3) ∧ W.cell? ⟨w.heap.size, 4, none⟩ = some (.int .i64 s.f4) ∧ W.cell? ⟨w.heap.size, 5, none⟩ = some (.int .i64 s.f5) ∧ W.cell? ⟨wn.heap.size, 1, none⟩ = some (.int .i64 b.f1) ∧ W.cell? ⟨wn.heap.size, 2, none⟩ = some (.int .i64 b.f2))
          (first
            | exact ⟨below_drew1 (Below.refl _ _), hy0, hy1, hy2, hy3, hy4, hy5, hx1, hx2⟩
            | (go_split_ands; refine ⟨below_step (by assumption) hb, ?_, ?_, ?_, ?_, ?_, ?_, ?_, ?_⟩ <;> exact (hb.cell (World.block_lt_of_cell? _ _ (by assumption))).trans (by assumption))
            | (refine ⟨below_step (by assumption) hb, ?_, ?_, ?_, ?_, ?_, ?_, ?_, ?_⟩ <;> exact (hb.cell (World.block_lt_of_cell? _ _ (by assumption))).trans (by assumption))
            | (go_split_ands; refine ⟨?_, ?_, ?_, ?_, ?_, ?_, ?_, ?_, ?_⟩ <;> assumption)
            | (refine ⟨?_, ?_, ?_, ?_, ?_, ?_, ?_, ?_, ?_⟩ <;> assumption))
          (first | (go_at_call 30; (first | (with_reducible refine (room_any s b.f1 _ HR.out HU.out.1 HU.out.2).mono ?_) | (with_reducible refine (room_any s b.f2 _ HR.out HD.out.1 HD.out.2).mono ?_)); rintro e W1 ⟨rfl, hb⟩))
        go_wp2_with fail
        go_roundw
        case rel =>
          have hWB := And.left ‹Below w3.heap.size w3 _ ∧ _›
          refine ⟨_, _, _, rfl, ⟨rng_below HRG.out hWB⟩, ⟨?_⟩, ⟨blk_below GB.out hWB⟩, ⟨below_step HB.out hWB⟩⟩
          rw [← HBX.out]
          exact left_step HGD.out HBL.out HMI.out
        case measure => 
          have hWB := And.left ‹Below w3.heap.size w3 _ ∧ _›
          rw [(rng_below HRG.out hWB).left_eq, HRG0.out.left_eq]
          exact HLT.out
      · go_ret2
        have hmn : out = minL s l := isMin_eq (isMin_congr HMI.out (fun c _ => ⟨fun _ => HL0.out _, fun _ => trivial⟩))
        have e1 : marginL s l = (minL s l, 0) := by
          unfold marginL
          rw [if_pos HE.out]
        rw [hmn]
        exact ⟨by rw [e1]; rfl, HB.out⟩
  · go_wp2_with (go_at_call 25; refine (place_bad s A c l _ (Kd.C_below HL.out (below_alloc (Below.refl _ _) _)) HC.out he).mono ?_; rintro e w1 ⟨rfl, hb⟩; have HB := Aside0.mk (below_step (below_alloc (Below.refl _ _) _) hb); have hne : (errL s l != 0) = true := bne_iff_ne.2 he; have hne2 : (errL s l == 0) = false := beq_false_of_ne he)
    go_ret2
    have e1 : marginL s l = (0, errL s l) := by
      unfold marginL
      rw [if_neg he]
    exact ⟨by rw [e1]; rfl, HB.out⟩
end Go.Proofs.YtadojakbfpdjjaaDoor.Px
