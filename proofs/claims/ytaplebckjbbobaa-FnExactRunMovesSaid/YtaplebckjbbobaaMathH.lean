/- The reference's value of a move at a fraction, and its check of moves. -/
import Derived.Test.YtaplebckjbbobaaMathG
namespace Go.Proofs.Ytaplebckjbbobaa.FracMath
open Go.RowKit Go.Proofs.YtaplebckjbbobaaW.PrintWords Go.Proofs.YtaplebckjbbobaaW.PrintMore PFnExactMoveFraction

theorem fits_fr {N D : Int} (hc : Int.gcd N D = 1) (h0 : 0 < D ∨ (D = 0 ∧ N = 1)) : decide (Fr N D) = decide (Fits N D) := by
  apply decide_eq_decide.2
  unfold Fr Fits
  omega

theorem at_ev (m0 m1 m2 p q N D : Int) (hm : Mv m0 m1 m2) (hx : Fr p q) (hv : IsVal m0 m1 m2 p q N D) : ∃ r, Told N D r ∧ Ev (fun k => spec_l10At.f k m0 m1 m2 p q) r := by
  have hX := hx
  obtain ⟨x1, x2, x3, x4, x5, x6⟩ := hx
  have made : ∀ N' D' : Int, Int.gcd N' D' = 1 → (0 < D' ∨ (D' = 0 ∧ N' = 1)) → IsVal m0 m1 m2 p q N' D' → Told N D (N', D', decide (Fr N' D')) := by
    intro N' D' h1 h2 h3
    obtain ⟨rfl, rfl⟩ := val_unique hm hX hv h3
    rw [fits_fr h1 h2]
    exact ⟨fun h => by rw [decide_eq_true h], fun h => decide_eq_false h⟩
  unfold spec_l10At.f
  rcases hm with ⟨rfl, h1, h2, h3, h4⟩ | ⟨h0, rfl, rfl⟩
  · obtain ⟨r, hr, hev⟩ := value_ev m1 m2 p q N D ⟨h1, h2⟩ ⟨h3, h4⟩ hX hv
    exact ⟨r, hr, Ev.if_pos rfl (Ev.bind hev (Ev.now _))⟩
  · have n2 : ¬ m0 = 2 := by omega
    by_cases h1 : m0 = 1
    · obtain ⟨N', D', s, e1, e2, e3, e4, e5, hev⟩ := make_ev q p (by omega) (by omega) (by omega)
      refine ⟨_, made N' D' e4 e5 ⟨e4, by omega, fun h => by omega, ?_⟩, Ev.if_neg n2 (Ev.if_pos h1 (Ev.bind hev (Ev.now _)))⟩
      unfold mvXY
      rw [if_neg n2, if_pos h1]
      have hrel : N' * p = q * D' := by
        have a : N' * p = N' * (s * D') := by rw [← e3]
        have b : q * D' = s * N' * D' := by rw [← e2]
        rw [a, b]; grind
      by_cases hq0 : q = 0
      · rw [if_pos hq0]
        show N' * 1 = 0 * D'
        have : p = 1 := by omega
        rw [hq0, this] at hrel; omega
      · rw [if_neg hq0]
        by_cases hp0 : p = 0
        · rw [if_pos hp0]
          show N' * 0 = 1 * D'
          rw [hp0] at hrel
          have : q * D' = 0 := by omega
          rcases Int.mul_eq_zero.1 this with h | h
          · exact absurd h hq0
          · rw [h]; simp
        · rw [if_neg hp0]
          by_cases hpn : p < 0
          · rw [if_pos hpn]
            show N' * (-p) = (-q) * D'
            rw [Int.mul_neg, hrel, Int.neg_mul]
          · rw [if_neg hpn]; exact hrel
    · by_cases hq0 : q = 0
      · refine ⟨(p, q, true), ?_, Ev.if_neg n2 (Ev.if_neg h1 (Ev.if_pos hq0 (Ev.now _)))⟩
        have hr := hv.rel
        unfold mvXY at hr
        rw [if_neg n2, if_neg h1, if_pos hq0] at hr
        have hD : D = 0 := by simp at hr; omega
        have hN := hv.inf hD
        subst hN hD
        have : p = 1 := by omega
        exact ⟨fun _ => by rw [this, hq0], fun h => absurd (by decide) h⟩
      · obtain ⟨N', D', s, e1, e2, e3, e4, e5, hev⟩ := make_ev (q - p) q (by omega) (by omega) (by omega)
        have hw1 : wrap64 (q - p) = q - p := w64' (by omega) (by omega)
        refine ⟨_, made N' D' e4 e5 ⟨e4, by omega, fun h => by omega, ?_⟩, Ev.if_neg n2 (Ev.if_neg h1 (Ev.if_neg hq0 (Ev.bind (by rw [hw1]; exact hev) (Ev.now _))))⟩
        unfold mvXY
        rw [if_neg n2, if_neg h1, if_neg hq0]
        show N' * q = (q - p) * D'
        have a : N' * q = N' * (s * D') := by rw [← e3]
        have b : (q - p) * D' = s * N' * D' := by rw [← e2]
        rw [a, b]; grind

theorem move_ok (m0 m1 m2 : Int) : Ev (fun k => spec_l10Move.f k m0 m1 m2) (decide (Mv m0 m1 m2)) := by
  have tell : ∀ b : Bool, (b = true ↔ Mv m0 m1 m2) → Ev (fun _ => some b) (decide (Mv m0 m1 m2)) := fun b hb => by
    rw [show decide (Mv m0 m1 m2) = b from by cases b <;> simp_all]; exact Ev.now _
  unfold spec_l10Move.f
  have two : m0 ≠ 0 → Ev (fun k => spec_l10Move.j0 k m0 (m0 == 1) m0 m1 m2) (decide (Mv m0 m1 m2)) := fun h0 => by
    by_cases h1 : m0 = 1
    · by_cases h2 : m1 = 0
      · refine Ev.to (fun k => ?_) (tell (m2 == 0) ?_)
        · simp only [spec_l10Move.j0, h1, beq_self_eq_true, if_true, h2]
        · unfold Mv; simp; omega
      · refine Ev.to (fun k => ?_) (tell false ?_)
        · simp only [spec_l10Move.j0, h1, beq_self_eq_true, if_true]; rw [if_neg h2]
        · unfold Mv; simp; omega
    · by_cases h2 : m0 = 2
      · refine Ev.to (fun k => ?_) (tell (decide (1 ≤ m1 ∧ m1 ≤ 20) && decide (1 ≤ m2 ∧ m2 ≤ 20)) ?_)
        · simp only [spec_l10Move.j0, h2, in_f, Option.bind_some]
          rw [if_neg (by decide)]; simp only [if_true]
          by_cases h3 : 1 ≤ m1 ∧ m1 ≤ 20
          · simp [h3]
          · simp [h3]
        · unfold Mv; simp; omega
      · refine Ev.to (fun k => ?_) (tell false ?_)
        · simp only [spec_l10Move.j0]; rw [if_neg (by simpa using h1), if_neg h2]
        · unfold Mv; simp; omega
  by_cases h0 : m0 = 0
  · refine Ev.if_pos h0 ?_
    by_cases h2 : m1 = 0
    · refine Ev.to (fun k => ?_) (tell (m2 == 0) ?_)
      · simp only [spec_l10Move.j0, h0, beq_self_eq_true, if_true, h2]
      · unfold Mv; simp; omega
    · refine Ev.to (fun k => ?_) (tell false ?_)
      · simp only [spec_l10Move.j0, h0, beq_self_eq_true, if_true]; rw [if_neg h2]
      · unfold Mv; simp; omega
  · exact Ev.if_neg h0 (two h0)

/-- what both functions return -/
def Answer (m0 m1 m2 p q : Int) (r : Int × Int × Int) : Prop :=
  if Mv m0 m1 m2 ∧ Fr p q then (∃ N D, IsVal m0 m1 m2 p q N D ∧ r = if Fits N D then (N, D, 0) else (0, 0, 3)) else r = (0, 0, 1)

theorem answer_unique {m0 m1 m2 p q : Int} {r r' : Int × Int × Int} (h : Answer m0 m1 m2 p q r) (h' : Answer m0 m1 m2 p q r') : r = r' := by
  unfold Answer at h h'
  by_cases c : Mv m0 m1 m2 ∧ Fr p q
  · rw [if_pos c] at h h'
    obtain ⟨N, D, hv, rfl⟩ := h
    obtain ⟨N', D', hv', rfl⟩ := h'
    obtain ⟨rfl, rfl⟩ := val_unique c.1 c.2 hv hv'
    rfl
  · rw [if_neg c] at h h'; rw [h, h']

theorem spec_move_ev (m0 m1 m2 p q : Int) : ∃ r, Answer m0 m1 m2 p q r ∧ Ev (fun k => spec_MoveFraction.f k m0 m1 m2 p q) r := by
  unfold spec_MoveFraction.f
  by_cases hm : Mv m0 m1 m2
  · by_cases hx : Fr p q
    · obtain ⟨N, D, hv⟩ := val_exists m0 m1 m2 p q hm hx
      obtain ⟨r, ht, hev⟩ := at_ev m0 m1 m2 p q N D hm hx hv
      refine ⟨if Fits N D then (N, D, 0) else (0, 0, 3), ?_, ?_⟩
      · unfold Answer; rw [if_pos ⟨hm, hx⟩]; exact ⟨N, D, hv, rfl⟩
      · refine Ev.bind (move_ok m0 m1 m2) (Ev.if_pos (decide_eq_true hm) (Ev.bind (is_ev p q) ?_))
        simp only [decide_eq_true hx, Bool.not_true]
        refine Ev.to (f := fun k => (spec_l10At.f k m0 m1 m2 p q).bind fun b => (if b.2.2 = true then some (b.1, b.2.1, 0) else some (0, 0, 3))) (fun k => ?_) (Ev.bind hev ?_)
        · simp only [spec_MoveFraction.j0, Bool.false_eq_true, if_false]
        · by_cases hf : Fits N D
          · rw [ht.1 hf, if_pos hf]; exact Ev.if_pos rfl (Ev.now _)
          · rw [if_neg hf]; exact Ev.if_neg (by rw [ht.2 hf]; simp) (Ev.now _)
    · refine ⟨(0, 0, 1), by unfold Answer; rw [if_neg (fun h => hx h.2)], ?_⟩
      refine Ev.bind (move_ok m0 m1 m2) (Ev.if_pos (decide_eq_true hm) (Ev.bind (is_ev p q) ?_))
      simp only [decide_eq_false hx, Bool.not_false]
      refine Ev.to (f := fun _ => some (0, 0, 1)) (fun k => ?_) (Ev.now _)
      simp only [spec_MoveFraction.j0, if_true]
  · refine ⟨(0, 0, 1), by unfold Answer; rw [if_neg (fun h => hm h.1)], ?_⟩
    refine Ev.bind (move_ok m0 m1 m2) (Ev.if_neg (by simpa using hm) ?_)
    refine Ev.to (f := fun _ => some (0, 0, 1)) (fun k => ?_) (Ev.now _)
    simp only [spec_MoveFraction.j0, if_true]
end Go.Proofs.Ytaplebckjbbobaa.FracMath
