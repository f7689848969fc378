/- The reference's fractions, made and multiplied, are the fractions in least terms. -/
import Derived.Test.YtaplebckjbbobaaPFnExactMoveFractionx6
import Derived.Test.YtaplebckjbbobaaGcd
import Derived.IntWalk
import Derived.Test.YtaplebckjbbobaaMathA
namespace Go.Proofs.Ytaplebckjbbobaa.FracMath
open Go.RowKit Go.Proofs.YtaplebckjbbobaaW.PrintWords Go.Proofs.YtaplebckjbbobaaW.PrintMore PFnExactMoveFraction

/-! ### eventually -/
theorem Ev.if_pos {α : Type} {c : Prop} [Decidable c] {g f : Nat → Option α} {r : α} (h : c) (k : Ev g r) : Ev (fun n => if c then g n else f n) r := by
  simpa [h] using k
theorem Ev.if_neg {α : Type} {c : Prop} [Decidable c] {g f : Nat → Option α} {r : α} (h : ¬ c) (k : Ev f r) : Ev (fun n => if c then g n else f n) r := by
  simpa [h] using k
theorem Ev.to {α : Type} {g f : Nat → Option α} {r : α} (h : ∀ k, g (k + 1) = f k) (k : Ev f r) : Ev g r := Ev.step h k

def bd (a : Int) : Prop := -4611686018427387904 ≤ a ∧ a ≤ 4611686018427387904
theorem w64 {a : Int} (h : bd a) : wrap64 a = a := by unfold bd at h; exact Go.IntWalk.wrap64_in a (by omega)

theorem common_l0 : ∀ (n : Nat) (a b : Int), b.natAbs ≤ n → bd a → bd b → Ev (fun k => spec_l10Common.l0 k a b) (Int.gcd a b : Int) := by
  intro n
  induction n with
  | zero =>
    intro a b hn ha hb
    obtain rfl : b = 0 := by omega
    refine Ev.to (f := fun _ => some (Int.gcd a 0 : Int)) (fun k => ?_) (Ev.now _)
    simp only [spec_l10Common.l0, if_true]
    rw [w64 (by unfold bd at *; omega), gcd_zero_abs]; rfl
  | succ n ih =>
    intro a b hn ha hb
    by_cases hz : b = 0
    · subst hz
      refine Ev.to (f := fun _ => some (Int.gcd a 0 : Int)) (fun k => ?_) (Ev.now _)
      simp only [spec_l10Common.l0, if_true]
      rw [w64 (by unfold bd at *; omega), gcd_zero_abs]; rfl
    · have ht := tmod_bd a b hz
      refine Ev.to (f := fun k => spec_l10Common.l0 k b (a.tmod b)) (fun k => by simp only [spec_l10Common.l0]; rw [_root_.if_neg hz]) ?_
      rw [← gcd_tmod]
      exact ih b (a.tmod b) (by omega) hb (by unfold bd at *; omega)
theorem common_ev (a b : Int) (ha : bd a) (hb : bd b) : Ev (fun k => spec_l10Common.f k a b) (Int.gcd a b : Int) :=
  common_l0 _ a b (Nat.le_refl _) ha hb

/-- the numbers of a fraction -/
def Fr (p q : Int) : Prop := -1000000000 ≤ p ∧ p ≤ 1000000000 ∧ 0 ≤ q ∧ q ≤ 1000000000 ∧ Int.gcd p q = 1 ∧ (0 < q ∨ p = 1)
instance (p q : Int) : Decidable (Fr p q) := by unfold Fr; infer_instance

theorem in_f (a l h : Int) : spec_l01In.f a l h = some (decide (l ≤ a ∧ a ≤ h)) := by
  unfold spec_l01In.f
  split
  · congr 1; apply decide_eq_decide.2; omega
  · congr 1; symm; apply decide_eq_false; omega

theorem is_ev (p q : Int) : Ev (fun k => spec_l10Is.f k p q) (decide (Fr p q)) := by
  unfold spec_l10Is.f
  simp only [in_f, Option.bind_some, decide_eq_true_eq]
  by_cases h1 : -1000000000 ≤ p ∧ p ≤ 1000000000
  · refine Ev.if_pos h1 ?_
    by_cases h2 : 0 ≤ q ∧ q ≤ 1000000000
    · refine Ev.if_pos h2 (Ev.bind (common_ev p q (by unfold bd; omega) (by unfold bd; omega)) ?_)
      have hF : ∀ b : Bool, (b = true ↔ Fr p q) → Ev (fun _ => some b) (decide (Fr p q)) := fun b hb => by
        rw [show decide (Fr p q) = b from by cases b <;> simp_all]; exact Ev.now _
      by_cases h3 : (Int.gcd p q : Int) = 1
      · refine Ev.if_pos h3 ?_
        by_cases h4 : q > 0
        · refine Ev.if_pos h4 (hF _ ?_)
          simp only [true_iff]; exact ⟨h1.1, h1.2, h2.1, h2.2, by omega, .inl h4⟩
        · refine Ev.if_neg h4 (hF _ ?_)
          simp only [beq_iff_eq]
          exact ⟨fun h => ⟨h1.1, h1.2, h2.1, h2.2, by omega, .inr h⟩, fun h => h.2.2.2.2.2.resolve_left h4⟩
      · refine Ev.if_neg h3 (hF _ ?_)
        simp only [Bool.false_eq_true, false_iff]; intro h; exact h3 (by have := h.2.2.2.2.1; omega)
    · refine Ev.if_neg h2 ?_
      rw [decide_eq_false (by intro h; exact h2 ⟨h.2.2.1, h.2.2.2.1⟩)]; exact Ev.now _
  · refine Ev.if_neg h1 ?_
    rw [decide_eq_false (by intro h; exact h1 ⟨h.1, h.2.1⟩)]; exact Ev.now _

/-! ### coprime integers -/
theorem icop_mul {x y z : Int} (h1 : Int.gcd x y = 1) (h2 : Int.gcd z y = 1) : Int.gcd (x * z) y = 1 := by
  unfold Int.gcd at *
  rw [Int.natAbs_mul]
  exact Nat.Coprime.mul_left h1 h2
theorem icop_mul' {x y z : Int} (h1 : Int.gcd x y = 1) (h2 : Int.gcd x z = 1) : Int.gcd x (y * z) = 1 := by
  rw [Int.gcd_comm] at *; exact icop_mul h1 h2
theorem icop_left {x y z : Int} (h : Int.gcd (x * z) y = 1) : Int.gcd x y = 1 := by
  unfold Int.gcd at *
  rw [Int.natAbs_mul] at h
  exact Nat.Coprime.coprime_mul_right h
theorem icop_right {x y z : Int} (h : Int.gcd (x * z) y = 1) : Int.gcd z y = 1 := by
  rw [Int.mul_comm] at h; exact icop_left h
theorem abs_le_mul {s x : Int} (hs : s ≠ 0) : x.natAbs ≤ (s * x).natAbs := by
  rw [Int.natAbs_mul]
  have : 1 * x.natAbs ≤ s.natAbs * x.natAbs := Nat.mul_le_mul_right _ (by omega)
  omega
theorem bd_of {a : Int} (h : a.natAbs ≤ 4611686018427387904) : bd a := by unfold bd; omega

theorem bd_mul {x y : Int} (hx : x.natAbs ≤ 2000000000) (hy : y.natAbs ≤ 2000000000) : bd (x * y) := by
  apply bd_of
  rw [Int.natAbs_mul]
  have := Nat.mul_le_mul hx hy
  omega
theorem make_ev (a b : Int) (ha : a.natAbs ≤ 4000000000) (hb : b.natAbs ≤ 4000000000) (hne : a ≠ 0 ∨ b ≠ 0) :
    ∃ N D s : Int, s ≠ 0 ∧ a = s * N ∧ b = s * D ∧ Int.gcd N D = 1 ∧ (0 < D ∨ (D = 0 ∧ N = 1)) ∧ Ev (fun k => spec_l10Make.f k a b) (N, D, decide (Fr N D)) := by
  have hg : Int.gcd a b ≠ 0 := by
    intro h; rw [Int.gcd_eq_zero_iff] at h; omega
  obtain ⟨x, y, hx, hy, hxy⟩ := gcd_split a b hg
  have hev := common_ev a b (bd_of (by omega)) (bd_of (by omega))
  have hgb : (Int.gcd a b : Int) ≤ 4000000000 := by
    rcases hne with h | h
    · have := Int.gcd_le_natAbs_left b h; omega
    · have := Int.gcd_le_natAbs_right a h; omega
  generalize hgd : Int.gcd a b = g at *
  have hg0 : (g : Int) ≠ 0 := by omega
  have hgn : (0 : Int) ≤ g := by omega
  have pb1 : ¬ b < 0 → ¬ b = 0 → 0 < b := by omega
  have pb2 : b < 0 → 0 < -b := by omega
  -- the sign that is taken
  have key : ∀ s : Int, (s = g ∨ s = -g) → ∃ N D : Int, a = s * N ∧ b = s * D ∧ wrap64 (Int.tdiv a s) = N ∧ wrap64 (Int.tdiv b s) = D ∧ Int.gcd N D = 1 ∧ s ≠ 0 ∧ wrap64 s = s := by
    intro s hs
    have hs0 : s ≠ 0 := by omega
    obtain ⟨N, D, h1, h2, h3⟩ : ∃ N D : Int, a = s * N ∧ b = s * D ∧ Int.gcd N D = 1 := by
      rcases hs with rfl | rfl
      · exact ⟨x, y, hx, hy, hxy⟩
      · exact ⟨-x, -y, by rw [hx]; grind, by rw [hy]; grind, by simpa using hxy⟩
    have hN : N.natAbs ≤ a.natAbs := by rw [h1]; exact abs_le_mul hs0
    have hD : D.natAbs ≤ b.natAbs := by rw [h2]; exact abs_le_mul hs0
    refine ⟨N, D, h1, h2, ?_, ?_, h3, hs0, w64 (by unfold bd; omega)⟩
    · rw [h1, Int.mul_tdiv_cancel_left _ hs0]; exact w64 (bd_of (by omega))
    · rw [h2, Int.mul_tdiv_cancel_left _ hs0]; exact w64 (bd_of (by omega))
  by_cases h1 : b < 0
  · obtain ⟨N, D, e1, e2, e3, e4, e5, hs0, es⟩ := key (-g) (.inr rfl)
    refine ⟨N, D, -g, hs0, e1, e2, e5, .inl ?_, ?_⟩
    · exact split_pos (g := g) (a := -b) hgn (pb2 h1) (by rw [e2, Int.neg_mul, Int.neg_neg])
    · unfold spec_l10Make.f
      refine Ev.bind hev (Ev.if_pos h1 ?_)
      simp only [es]
      refine Ev.if_neg hs0 ?_
      simp only [e3, e4]
      exact Ev.bind (is_ev N D) (Ev.now _)
  · by_cases h2 : b = 0
    · by_cases h3 : a < 0
      · obtain ⟨N, D, e1, e2, e3, e4, e5, hs0, es⟩ := key (-g) (.inr rfl)
        have hD : D = 0 := by
          have : (-(g : Int)) * D = 0 := by rw [← e2]; exact h2
          rcases Int.mul_eq_zero.1 this with h | h
          · exact absurd h hs0
          · exact h
        refine ⟨N, D, -g, hs0, e1, e2, e5, .inr ⟨hD, ?_⟩, ?_⟩
        · subst hD
          have : N.natAbs = 1 := by simpa using e5
          rcases Int.lt_or_le 0 N with h | h
          · omega
          · have : N = -1 := by omega
            subst this; omega
        · unfold spec_l10Make.f
          refine Ev.bind hev (Ev.if_neg h1 (Ev.if_pos h2 (Ev.if_pos h3 ?_)))
          simp only [es]
          refine Ev.if_neg hs0 ?_
          simp only [e3, e4]
          exact Ev.bind (is_ev N D) (Ev.now _)
      · obtain ⟨N, D, e1, e2, e3, e4, e5, hs0, es⟩ := key g (.inl rfl)
        have hD : D = 0 := by
          have : (g : Int) * D = 0 := by rw [← e2]; exact h2
          rcases Int.mul_eq_zero.1 this with h | h
          · exact absurd h hs0
          · exact h
        refine ⟨N, D, g, hs0, e1, e2, e5, .inr ⟨hD, ?_⟩, ?_⟩
        · subst hD
          have : N.natAbs = 1 := by simpa using e5
          rcases Int.lt_or_le 0 N with h | h
          · omega
          · have : N = -1 := by omega
            subst this; omega
        · unfold spec_l10Make.f
          refine Ev.bind hev (Ev.if_neg h1 (Ev.if_pos h2 (Ev.if_neg h3 ?_)))
          refine Ev.if_neg hs0 ?_
          simp only [e3, e4]
          exact Ev.bind (is_ev N D) (Ev.now _)
    · obtain ⟨N, D, e1, e2, e3, e4, e5, hs0, es⟩ := key g (.inl rfl)
      refine ⟨N, D, g, hs0, e1, e2, e5, .inl ?_, ?_⟩
      · exact split_pos hgn (pb1 h1 h2) e2
      · unfold spec_l10Make.f
        refine Ev.bind hev (Ev.if_neg h1 (Ev.if_neg h2 ?_))
        refine Ev.if_neg hs0 ?_
        simp only [e3, e4]
        exact Ev.bind (is_ev N D) (Ev.now _)

theorem fr01 : Fr 0 1 := by decide

theorem times_ev (a0 a1 b0 b1 : Int) (ha0 : a0.natAbs ≤ 2000000000) (ha1 : a1.natAbs ≤ 2000000000) (hb0 : b0.natAbs ≤ 2000000000) (hb1 : b1.natAbs ≤ 2000000000)
    (ha : Int.gcd a0 a1 = 1) (hb : Int.gcd b0 b1 = 1) (pa : 0 < a1) (pb : 0 < b1) :
    ∃ N D : Int, 0 < D ∧ Int.gcd N D = 1 ∧ N * (a1 * b1) = a0 * b0 * D ∧ Ev (fun k => spec_l10Times.f k a0 a1 b0 b1) (N, D, decide (Fr N D)) := by
  have hev1 := common_ev a0 b1 (bd_of (by omega)) (bd_of (by omega))
  have hev2 := common_ev b0 a1 (bd_of (by omega)) (bd_of (by omega))
  have hg1 : Int.gcd a0 b1 ≠ 0 := by intro h; rw [Int.gcd_eq_zero_iff] at h; omega
  have hg2 : Int.gcd b0 a1 ≠ 0 := by intro h; rw [Int.gcd_eq_zero_iff] at h; omega
  obtain ⟨x, y, hx, hy, hxy⟩ := gcd_split a0 b1 hg1
  obtain ⟨u, v, hu, hv, huv⟩ := gcd_split b0 a1 hg2
  generalize hgd1 : Int.gcd a0 b1 = g1 at *
  generalize hgd2 : Int.gcd b0 a1 = g2 at *
  have hg1' : (g1 : Int) ≠ 0 := by omega
  have hg2' : (g2 : Int) ≠ 0 := by omega
  unfold spec_l10Times.f
  by_cases z1 : a0 = 0
  · refine ⟨0, 1, by omega, by decide, by rw [z1]; simp, ?_⟩
    refine Ev.bind hev1 (Ev.bind hev2 (Ev.if_neg hg1' (Ev.if_neg hg2' (Ev.if_pos z1 ?_))))
    rw [decide_eq_true fr01]; exact Ev.now _
  · by_cases z2 : b0 = 0
    · refine ⟨0, 1, by omega, by decide, by rw [z2]; simp, ?_⟩
      refine Ev.bind hev1 (Ev.bind hev2 (Ev.if_neg hg1' (Ev.if_neg hg2' (Ev.if_neg z1 (Ev.if_pos z2 ?_)))))
      rw [decide_eq_true fr01]; exact Ev.now _
    · have bx : x.natAbs ≤ a0.natAbs := by conv => { rhs; rw [hx] }; exact abs_le_mul hg1'
      have bu : u.natAbs ≤ b0.natAbs := by conv => { rhs; rw [hu] }; exact abs_le_mul hg2'
      have bv : v.natAbs ≤ a1.natAbs := by conv => { rhs; rw [hv] }; exact abs_le_mul hg2'
      have by' : y.natAbs ≤ b1.natAbs := by conv => { rhs; rw [hy] }; exact abs_le_mul hg1'
      have e1 : wrap64 (Int.tdiv a0 g1) = x := by rw [hx, Int.mul_tdiv_cancel_left _ hg1']; exact w64 (bd_of (by omega))
      have e2 : wrap64 (Int.tdiv b0 g2) = u := by rw [hu, Int.mul_tdiv_cancel_left _ hg2']; exact w64 (bd_of (by omega))
      have e3 : wrap64 (Int.tdiv a1 g2) = v := by rw [hv, Int.mul_tdiv_cancel_left _ hg2']; exact w64 (bd_of (by omega))
      have e4 : wrap64 (Int.tdiv b1 g1) = y := by rw [hy, Int.mul_tdiv_cancel_left _ hg1']; exact w64 (bd_of (by omega))
      have e5 : wrap64 (x * u) = x * u := w64 (bd_mul (Nat.le_trans bx ha0) (Nat.le_trans bu hb0))
      have e6 : wrap64 (v * y) = v * y := w64 (bd_mul (Nat.le_trans bv ha1) (Nat.le_trans by' hb1))
      have pv : 0 < v := split_pos (by omega) pa hv
      have py : 0 < y := split_pos (by omega) pb hy
      refine ⟨x * u, v * y, Int.mul_pos pv py, ?_, ?_, ?_⟩
      · have c1 : Int.gcd x v = 1 := by
          have h := ha
          rw [hx, hv] at h
          have := icop_right h
          rw [Int.gcd_comm] at this ⊢
          exact icop_right this
        have c2 : Int.gcd u y = 1 := by
          have h := hb
          rw [hu, hy] at h
          have := icop_right h
          rw [Int.gcd_comm] at this ⊢
          exact icop_right this
        exact icop_mul (icop_mul' c1 hxy) (icop_mul' huv c2)
      · clear e1 e2 e3 e4 e5 e6 bx bu bv by' hev1 hev2 ha0 ha1 hb0 hb1 ha hb hgd1 hgd2 pa pb
        subst hx hy hu hv
        grind
      · refine Ev.bind hev1 (Ev.bind hev2 (Ev.if_neg hg1' (Ev.if_neg hg2' (Ev.if_neg z1 (Ev.if_neg z2 ?_)))))
        simp only [e1, e2, e3, e4, e5, e6]
        exact Ev.bind (is_ev _ _) (Ev.now _)
end Go.Proofs.Ytaplebckjbbobaa.FracMath
