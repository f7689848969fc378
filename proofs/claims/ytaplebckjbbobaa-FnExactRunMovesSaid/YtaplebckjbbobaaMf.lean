/- The program's MoveFraction answers as the reference's. -/
import Derived.Test.YtaplebckjbbobaaMove2
import Derived.Test.YtaplebckjbbobaaMathH
namespace Go.Proofs.Ytaplebckjbbobaa.Low
open Go.RowKit Go.Proofs.YtaplebckjbbobaaW.PrintWords Go.Proofs.YtaplebckjbbobaaW.PrintMore FracMath PFnExactMoveFraction

theorem move_any (m0 m1 m2 p q : Int) (w : World) (hm : Mv m0 m1 m2) (hx : Fr p q) (N D : Int) (hv : IsVal m0 m1 m2 p q N D) (r1 r2 r3 : Int) (hres : (r1, r2, r3) = if Fits N D then (N, D, 0) else (0, 0, 3)) :
    Calls Try.prog 68 #[.agg #[.int .i64 m0, .int .i64 m1, .int .i64 m2], .agg #[.int .i64 p, .int .i64 q]] w fun e w' => e = .returned (.tuple #[.agg #[.int .i64 r1, .int .i64 r2], .int .i64 r3]) ∧ Below w.heap.size w w' := by
  have inf : mvXY m0 m1 m2 p q = (1, 0) → r1 = 1 ∧ r2 = 0 ∧ r3 = 0 := fun h => by
    obtain ⟨rfl, rfl, hf⟩ := xy_cases hv h
    rw [if_pos hf] at hres
    simpa using hres
  have hx2 := hx
  obtain ⟨_, _, _, _, _, x6⟩ := hx2
  by_cases hq : q = 0
  · have hp1 : p = 1 := by omega
    by_cases h1 : m0 = 1
    · subst hq h1
      have hr := hv.rel
      have hxy : mvXY 1 m1 m2 p 0 = (0, 1) := by unfold mvXY; rw [if_neg (by decide), if_pos rfl, if_pos rfl]
      rw [hxy] at hr
      have hN : N = 0 := by simpa using hr
      have hD : D = 1 := by have := hv.cop; rw [hN] at this; simp [Int.gcd] at this; have := hv.nonneg; omega
      subst hN hD
      rw [if_pos (by decide)] at hres
      simp only [Prod.mk.injEq] at hres
      obtain ⟨rfl, rfl, rfl⟩ := hres
      exact move_one_inf p m1 m2 w
    · subst hq
      have hxy : mvXY m0 m1 m2 p 0 = (1, 0) := by
        unfold mvXY
        by_cases h2 : m0 = 2
        · rw [if_pos h2, if_pos rfl]
        · rw [if_neg h2, if_neg h1, if_pos rfl]
      obtain ⟨rfl, rfl, rfl⟩ := inf hxy
      exact move_inf p m0 m1 m2 h1 w
  · rcases hm with ⟨rfl, a, b, c, d⟩ | ⟨h0, rfl, rfl⟩
    · exact move_two m1 m2 p q w hx hq ⟨a, b⟩ ⟨c, d⟩ N D hv r1 r2 r3 hres
    · rcases h0 with rfl | rfl
      · exact move_zero p q w hx hq N D hv r1 r2 r3 hres
      · by_cases hp : p = 0
        · subst hp
          obtain ⟨rfl, rfl, rfl⟩ := inf (by unfold mvXY; rw [if_neg (by decide), if_pos rfl, if_neg hq, if_pos rfl])
          exact move_one_zero q 0 0 w hq
        · exact move_one p q w hx hq hp N D hv r1 r2 r3 hres

theorem gcd_l0 : ∀ (n : Nat) (a b : Int), b.natAbs ≤ n → bd a → bd b → Ev (fun k => impl_gcd.l0 k a b) (Int.gcd a b : Int) := by
  intro n
  induction n with
  | zero =>
    intro a b hn ha hb
    obtain rfl : b = 0 := by omega
    refine Ev.to (f := fun _ => some (Int.gcd a 0 : Int)) (fun k => ?_) (Ev.now _)
    simp only [impl_gcd.l0, if_true]
    rw [w64 (by unfold bd at *; omega), gcd_zero_abs]; rfl
  | succ n ih =>
    intro a b hn ha hb
    by_cases hz : b = 0
    · subst hz
      refine Ev.to (f := fun _ => some (Int.gcd a 0 : Int)) (fun k => ?_) (Ev.now _)
      simp only [impl_gcd.l0, if_true]
      rw [w64 (by unfold bd at *; omega), gcd_zero_abs]; rfl
    · have ht := tmod_bd a b hz
      refine Ev.to (f := fun k => impl_gcd.l0 k b (a.tmod b)) (fun k => by simp only [impl_gcd.l0]; rw [_root_.if_neg hz]) ?_
      rw [← gcd_tmod]
      exact ih b (a.tmod b) (by omega) hb (by unfold bd at *; omega)

theorem isFraction_ev (p q : Int) : ∃ k, impl_IsFraction.f k p q = some (decide (Fr p q)) := by
  refine Ev.rounds (g := fun k => impl_IsFraction.f k p q) ?_
  have bad : ¬ Fr p q → Ev (fun k => impl_IsFraction.j0 k true p q) (decide (Fr p q)) := fun h => by
    rw [decide_eq_false h]
    exact Ev.to (f := fun _ => some false) (fun k => by simp only [impl_IsFraction.j0, if_true]) (Ev.now _)
  have fr1 := @Fr
  unfold impl_IsFraction.f
  by_cases h1 : p < -1000000000
  · exact Ev.if_pos h1 (bad (by unfold Fr; omega))
  · refine Ev.if_neg h1 ?_
    by_cases h2 : p > 1000000000
    · exact Ev.if_pos h2 (bad (by unfold Fr; omega))
    · refine Ev.if_neg h2 ?_
      by_cases h3 : q < 0
      · exact Ev.if_pos h3 (bad (by unfold Fr; omega))
      · refine Ev.if_neg h3 ?_
        by_cases h4 : q > 1000000000
        · rw [decide_eq_true h4]; exact bad (by unfold Fr; omega)
        · rw [decide_eq_false h4]
          have tell : ∀ b : Bool, (b = true ↔ Fr p q) → Ev (fun _ => some b) (decide (Fr p q)) := fun b hb => by
            rw [show decide (Fr p q) = b from by cases b <;> simp_all]; exact Ev.now _
          by_cases h5 : q = 0
          · refine Ev.to (fun k => ?_) (tell (p == 1) ?_)
            · simp only [impl_IsFraction.j0, Bool.false_eq_true, if_false]; rw [if_pos h5]
            · subst h5
              unfold Fr
              simp only [beq_iff_eq, Int.gcd_zero_right]
              omega
          · refine Ev.to (f := fun k => (impl_gcd.f k p q).bind fun t => some (t == 1)) (fun k => ?_) (Ev.bind (gcd_l0 _ p q (Nat.le_refl _) (by unfold bd; omega) (by unfold bd; omega)) (tell _ ?_))
            · simp only [impl_IsFraction.j0, Bool.false_eq_true, if_false]; rw [if_neg h5]
            · unfold Fr
              simp only [beq_iff_eq]
              omega

theorem isMove_f (m0 m1 m2 : Int) : impl_IsMove.f m0 m1 m2 = some (decide (Mv m0 m1 m2)) := by
  have tell : ∀ b : Bool, (b = true ↔ Mv m0 m1 m2) → some b = some (decide (Mv m0 m1 m2)) := fun b hb => by
    rw [show decide (Mv m0 m1 m2) = b from by cases b <;> simp_all]
  unfold impl_IsMove.f
  repeat' split
  all_goals (refine tell _ ?_; unfold Mv; simp; try omega)

theorem isMove_any (m0 m1 m2 : Int) (w : World) : Calls Try.prog 47 #[.agg #[.int .i64 m0, .int .i64 m1, .int .i64 m2]] w fun e w' => e = .returned (.bool (decide (Mv m0 m1 m2))) ∧ Below w.heap.size w w' :=
  impl_IsMove.calls m0 m1 m2 _ w (isMove_f m0 m1 m2)
theorem isFraction_any (p q : Int) (w : World) : Calls Try.prog 41 #[.agg #[.int .i64 p, .int .i64 q]] w fun e w' => e = .returned (.bool (decide (Fr p q))) ∧ Below w.heap.size w w' := by
  obtain ⟨k, hk⟩ := isFraction_ev p q
  exact impl_IsFraction.calls k p q _ w hk

/-- three boxes laid at the call's head -/
structure B3 (w W : World) (o1 o2 o3 : Obj) : Prop where
  b1 : W.heap[w.heap.size]? = some o1
  b2 : W.heap[w.heap.size + 1]? = some o2
  b3 : W.heap[w.heap.size + 1 + 1]? = some o3
  bel : Below w.heap.size w W
  siz : w.heap.size + 1 + 1 + 1 ≤ W.heap.size
theorem B3.start (w : World) (o1 o2 o3 : Obj) : B3 w (((w.alloc o1).alloc o2).alloc o3) o1 o2 o3 := by
  refine ⟨?_, ?_, ?_, ?_, ?_⟩
  · simp only [alloc_at, World.size_alloc]; rw [if_neg (by omega), if_neg (by omega), if_pos trivial]
  · simp only [alloc_at, World.size_alloc]; rw [if_neg (by omega), if_pos trivial]
  · simp only [alloc_at, World.size_alloc]; rw [if_pos trivial]
  · exact (((Below.refl _ _).alloc (Nat.le_refl _) _).alloc (by simp) _).alloc (by simp; omega) _
  · simp
theorem B3.below {w W W' : World} {o1 o2 o3 : Obj} (h : B3 w W o1 o2 o3) (hb : Below W.heap.size W W') : B3 w W' o1 o2 o3 := by
  have hs := h.siz
  exact ⟨(hb.block _ (by omega)).trans h.b1, (hb.block _ (by omega)).trans h.b2, (hb.block _ (by omega)).trans h.b3, h.bel.trans (hb.mono (by omega)), Nat.le_trans hs hb.size⟩

set_option maxHeartbeats 1000000 in
theorem moveFraction_bad (m0 m1 m2 p q : Int) (w : World) (hbad : ¬ (Mv m0 m1 m2 ∧ Fr p q)) :
    Calls Try.prog 13 #[.agg #[.int .i64 m0, .int .i64 m1, .int .i64 m2], .agg #[.int .i64 p, .int .i64 q]] w fun e w' => e = .returned (.tuple #[.agg #[.int .i64 0, .int .i64 0], .int .i64 1]) ∧ Below w.heap.size w w' := by
  have hu26 := Try.underlying26
  have C1 := Lib.hid (fun W => isMove_any m0 m1 m2 W)
  have C2 := Lib.hid (fun W => isFraction_any p q W)
  have HB0 := Lib.hid (B3.start w (.cells #[.int .i64 m0, .int .i64 m1, .int .i64 m2] 29) (.cells #[.int .i64 p, .int .i64 q] 26) (.cells #[.int .i64 0, .int .i64 0] 26))
  by_cases hm : Mv m0 m1 m2
  · have hx : ¬ Fr p q := fun h => hbad ⟨hm, h⟩
    rw [decide_eq_true hm] at C1
    rw [decide_eq_false hx] at C2
    clear hm hx hbad
    go_enter Try.func13, Try.ntmps13
    go_wp2_with fail
    refine (C1.out _).mono ?_
    rintro e w1 ⟨rfl, hb⟩
    have HB1 := Lib.hid (HB0.out.below hb)
    clear hb
    have c0 := blk_cell HB1.out.b2 0
    have c1 := blk_cell HB1.out.b2 1
    simp only [List.getElem?_toArray, List.getElem?_cons_zero, List.getElem?_cons_succ] at c0 c1
    go_wp2_with fail
    refine (C2.out _).mono ?_
    rintro e w2 ⟨rfl, hb⟩
    have HB2 := Lib.hid (HB1.out.below hb)
    clear hb c0 c1
    have c0 := blk_cell HB2.out.b3 0
    have c1 := blk_cell HB2.out.b3 1
    have f0 := blk_frozen HB2.out.b3 0
    have f1 := blk_frozen HB2.out.b3 1
    simp only [List.getElem?_toArray, List.getElem?_cons_zero, List.getElem?_cons_succ] at c0 c1
    go_wp2
    refine bodyPost_ret (v := .tuple #[.agg #[.int .i64 0, .int .i64 0], .int .i64 1]) (by simp [results, Try.results13, go_sem, c0, c1]) rfl ⟨rfl, ?_⟩
    exact (HB2.out.bel.setCell (by simp; omega) _).setCell (by simp; omega) _
  · rw [decide_eq_false hm] at C1
    clear hm hbad
    go_enter Try.func13, Try.ntmps13
    go_wp2_with fail
    refine (C1.out _).mono ?_
    rintro e w1 ⟨rfl, hb⟩
    have HB1 := Lib.hid (HB0.out.below hb)
    clear hb
    have c0 := blk_cell HB1.out.b3 0
    have c1 := blk_cell HB1.out.b3 1
    have f0 := blk_frozen HB1.out.b3 0
    have f1 := blk_frozen HB1.out.b3 1
    simp only [List.getElem?_toArray, List.getElem?_cons_zero, List.getElem?_cons_succ] at c0 c1
    go_wp2
    refine bodyPost_ret (v := .tuple #[.agg #[.int .i64 0, .int .i64 0], .int .i64 1]) (by simp [results, Try.results13, go_sem, c0, c1]) rfl ⟨rfl, ?_⟩
    exact (HB1.out.bel.setCell (by simp; omega) _).setCell (by simp; omega) _

set_option maxHeartbeats 1000000 in
theorem moveFraction_good (m0 m1 m2 p q : Int) (w : World) (hm : Mv m0 m1 m2) (hx : Fr p q) (N D : Int) (hv : IsVal m0 m1 m2 p q N D) (r1 r2 r3 : Int) (hres : (r1, r2, r3) = if Fits N D then (N, D, 0) else (0, 0, 3)) :
    Calls Try.prog 13 #[.agg #[.int .i64 m0, .int .i64 m1, .int .i64 m2], .agg #[.int .i64 p, .int .i64 q]] w fun e w' => e = .returned (.tuple #[.agg #[.int .i64 r1, .int .i64 r2], .int .i64 r3]) ∧ Below w.heap.size w w' := by
  have hu26 := Try.underlying26
  have C1 := Lib.hid (fun W => isMove_any m0 m1 m2 W)
  have C2 := Lib.hid (fun W => isFraction_any p q W)
  have C3 := Lib.hid (fun W => move_any m0 m1 m2 p q W hm hx N D hv r1 r2 r3 hres)
  have HB0 := Lib.hid (B3.start w (.cells #[.int .i64 m0, .int .i64 m1, .int .i64 m2] 29) (.cells #[.int .i64 p, .int .i64 q] 26) (.cells #[.int .i64 0, .int .i64 0] 26))
  rw [decide_eq_true hm] at C1
  rw [decide_eq_true hx] at C2
  clear hm hx hv hres
  go_enter Try.func13, Try.ntmps13
  go_wp2_with fail
  refine (C1.out _).mono ?_
  rintro e w1 ⟨rfl, hb⟩
  have HB1 := Lib.hid (HB0.out.below hb)
  clear hb
  have c0 := blk_cell HB1.out.b2 0
  have c1 := blk_cell HB1.out.b2 1
  simp only [List.getElem?_toArray, List.getElem?_cons_zero, List.getElem?_cons_succ] at c0 c1
  go_wp2_with fail
  refine (C2.out _).mono ?_
  rintro e w2 ⟨rfl, hb⟩
  have HB2 := Lib.hid (HB1.out.below hb)
  clear hb c0 c1
  have c0 := blk_cell HB2.out.b2 0
  have c1 := blk_cell HB2.out.b2 1
  have d0 := blk_cell HB2.out.b1 0
  have d1 := blk_cell HB2.out.b1 1
  have d2 := blk_cell HB2.out.b1 2
  simp only [List.getElem?_toArray, List.getElem?_cons_zero, List.getElem?_cons_succ] at c0 c1 d0 d1 d2
  go_wp2_with fail
  refine (C3.out _).mono ?_
  rintro e w3 ⟨rfl, hb⟩
  have HB3 := Lib.hid (HB2.out.below hb)
  clear hb c0 c1 d0 d1 d2
  have c0 := blk_cell HB3.out.b3 0
  have c1 := blk_cell HB3.out.b3 1
  have f0 := blk_frozen HB3.out.b3 0
  have f1 := blk_frozen HB3.out.b3 1
  simp only [List.getElem?_toArray, List.getElem?_cons_zero, List.getElem?_cons_succ] at c0 c1
  go_wp2
  refine bodyPost_ret (v := .tuple #[.agg #[.int .i64 r1, .int .i64 r2], .int .i64 r3]) (by simp [results, Try.results13, go_sem, c0, c1]) rfl ⟨rfl, ?_⟩
  exact (HB3.out.bel.setCell (by simp; omega) _).setCell (by simp; omega) _

/-- Both return what the reference's answer is. -/
theorem moveFraction_any (m0 m1 m2 p q : Int) (w : World) (r1 r2 r3 : Int) (h : Answer m0 m1 m2 p q (r1, r2, r3)) :
    Calls Try.prog 13 #[.agg #[.int .i64 m0, .int .i64 m1, .int .i64 m2], .agg #[.int .i64 p, .int .i64 q]] w fun e w' => e = .returned (.tuple #[.agg #[.int .i64 r1, .int .i64 r2], .int .i64 r3]) ∧ Below w.heap.size w w' := by
  unfold Answer at h
  by_cases hc : Mv m0 m1 m2 ∧ Fr p q
  · rw [if_pos hc] at h
    obtain ⟨N, D, hv, hres⟩ := h
    exact moveFraction_good m0 m1 m2 p q w hc.1 hc.2 N D hv r1 r2 r3 hres
  · rw [if_neg hc] at h
    simp only [Prod.mk.injEq] at h
    obtain ⟨rfl, rfl, rfl⟩ := h
    exact moveFraction_bad m0 m1 m2 p q w hc
theorem spec_moveFraction_any (m0 m1 m2 p q : Int) : ∃ r1 r2 r3, Answer m0 m1 m2 p q (r1, r2, r3) ∧ ∀ w,
    Calls Try.prog 10 #[.agg #[.int .i64 m0, .int .i64 m1, .int .i64 m2], .agg #[.int .i64 p, .int .i64 q]] w fun e w' => e = .returned (.tuple #[.agg #[.int .i64 r1, .int .i64 r2], .int .i64 r3]) ∧ Below w.heap.size w w' := by
  obtain ⟨⟨r1, r2, r3⟩, ha, hev⟩ := spec_move_ev m0 m1 m2 p q
  obtain ⟨k, hk⟩ := hev.rounds
  exact ⟨r1, r2, r3, ha, fun w => spec_MoveFraction.calls k m0 m1 m2 p q r1 r2 r3 w hk⟩
end Go.Proofs.Ytaplebckjbbobaa.Low
