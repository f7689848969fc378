/- The value of a move by the reference is the fraction in least terms, or none where a part of it is beyond the limit. -/
import Derived.Test.YtaplebckjbbobaaMathE
namespace Go.Proofs.Ytaplebckjbbobaa.FracMath
open Go.RowKit Go.Proofs.YtaplebckjbbobaaW.PrintWords Go.Proofs.YtaplebckjbbobaaW.PrintMore PFnExactMoveFraction

/-! ### where the value is within the limits, so are the parts -/
theorem pow_mul_le {a b s M : Nat} (hs : 2 ≤ s) (hb : 0 < b) (h : (a * b) ^ s ≤ b ^ s * M) : a * a ≤ M ∨ a = 0 := by
  rcases Nat.eq_zero_or_pos a with h0 | h0
  · exact .inr h0
  · left
    rw [Nat.mul_pow, Nat.mul_comm] at h
    have h1 := Nat.le_of_mul_le_mul_left h (Nat.pow_pos hb)
    have h2 : a ^ 2 ≤ a ^ s := Nat.pow_le_pow_right h0 hs
    rw [Nat.pow_two] at h2; omega

theorem lim_ok (P R Q f l N D : Nat) (hf : 1 ≤ f ∧ f ≤ 20) (hl : 1 ≤ l ∧ l ≤ 20) (hQ : 0 < Q) (hP : 0 < P) (hR : 0 < R) (hN : 0 < N) (hD : 0 < D)
    (c1 : Nat.Coprime Q P) (c2 : Nat.Coprime Q R) (h1 : P ≤ R + Q) (h2 : R ≤ P + Q)
    (hrel : N * (Q ^ (f + l) * (f ^ f * l ^ l)) = P ^ f * R ^ l * (f + l) ^ (f + l) * D) (bN : N ≤ 1000000000) (bD : D ≤ 1000000000) :
    Q ≤ 1264920 ∧ P < 25000000 ∧ R < 25000000 := by
  have hs : 0 < (f + l) ^ (f + l) := Nat.pow_pos (by omega)
  have hQ1 : Q ≤ 31623 * (f + l) := by
    rcases Nat.lt_or_ge (31623 * (f + l)) Q with h | h
    · exfalso
      have hcop : Nat.Coprime (Q ^ (f + l)) (P ^ f * R ^ l) := Nat.Coprime.mul_right (Nat.Coprime.pow _ _ c1) (Nat.Coprime.pow _ _ c2)
      have hd : Q ^ (f + l) ∣ P ^ f * R ^ l * ((f + l) ^ (f + l) * D) := ⟨N * (f ^ f * l ^ l), by rw [← Nat.mul_assoc, ← hrel, Nat.mul_left_comm]⟩
      have hd2 := hcop.dvd_of_dvd_mul_left hd
      have hle := Nat.le_of_dvd (Nat.mul_pos hs hD) hd2
      have h3 : (31623 * (f + l)) ^ (f + l) ≤ Q ^ (f + l) := Nat.pow_le_pow_left (by omega) _
      have h4 : (f + l) ^ (f + l) * D ≤ (f + l) ^ (f + l) * 1000000000 := Nat.mul_le_mul_left _ bD
      rcases pow_mul_le (s := f + l) (by omega) (by omega) (Nat.le_trans h3 (Nat.le_trans hle h4)) with h5 | h5 <;> omega
    · exact h
  have hQ2 : Q ≤ 1264920 := by omega
  have hle : P ^ f * R ^ l ≤ 1000000000 * (20 ^ f * 20 ^ l) := by
    have hcop : Nat.Coprime (P ^ f * R ^ l) (Q ^ (f + l)) := Nat.Coprime.mul_left (Nat.Coprime.pow _ _ c1.symm) (Nat.Coprime.pow _ _ c2.symm)
    have hd : P ^ f * R ^ l ∣ Q ^ (f + l) * (N * (f ^ f * l ^ l)) := ⟨(f + l) ^ (f + l) * D, by rw [← Nat.mul_assoc (P ^ f * R ^ l), ← hrel, Nat.mul_left_comm]⟩
    have hd2 := hcop.dvd_of_dvd_mul_left hd
    have hff : 0 < f ^ f * l ^ l := Nat.mul_pos (Nat.pow_pos (by omega)) (Nat.pow_pos (by omega))
    have h3 := Nat.le_of_dvd (Nat.mul_pos hN hff) hd2
    exact Nat.le_trans h3 (Nat.mul_le_mul bN (Nat.mul_le_mul (Nat.pow_le_pow_left hf.2 f) (Nat.pow_le_pow_left hl.2 l)))
  have hbig : 20000000 ≤ P → 20000000 ≤ R → False := by
    intro a b
    have h3 : 20000000 ^ f * 20000000 ^ l ≤ P ^ f * R ^ l := Nat.mul_le_mul (Nat.pow_le_pow_left a f) (Nat.pow_le_pow_left b l)
    rw [← Nat.pow_add] at h3 hle
    have h4 : (1000000 * 20) ^ (f + l) ≤ 20 ^ (f + l) * 1000000000 := by
      rw [Nat.mul_comm (20 ^ (f + l))]
      exact Nat.le_trans h3 hle
    rcases pow_mul_le (s := f + l) (by omega) (by omega) h4 with h5 | h5 <;> omega
  refine ⟨hQ2, ?_, ?_⟩
  · rcases Nat.lt_or_ge P 25000000 with h | h
    · exact h
    · exact (hbig (by omega) (by omega)).elim
  · rcases Nat.lt_or_ge R 25000000 with h | h
    · exact h
    · exact (hbig (by omega) (by omega)).elim

/-! ### moves and their values -/
def Mv (m0 m1 m2 : Int) : Prop := (m0 = 2 ∧ 1 ≤ m1 ∧ m1 ≤ 20 ∧ 1 ≤ m2 ∧ m2 ≤ 20) ∨ ((m0 = 0 ∨ m0 = 1) ∧ m1 = 0 ∧ m2 = 0)
instance (a b c : Int) : Decidable (Mv a b c) := by unfold Mv; infer_instance

/-- the value, not in least terms -/
def mvXY (m0 m1 m2 p q : Int) : Int × Int :=
  if m0 = 2 then (if q = 0 then (1, 0) else ((p * (m1 + m2)) ^ m1.toNat * ((q - p) * (m1 + m2)) ^ m2.toNat, (q * m1) ^ m1.toNat * (q * m2) ^ m2.toNat))
  else if m0 = 1 then (if q = 0 then (0, 1) else if p = 0 then (1, 0) else if p < 0 then (-q, -p) else (q, p))
  else (if q = 0 then (1, 0) else (q - p, q))

structure IsVal (m0 m1 m2 p q N D : Int) : Prop where
  cop : Int.gcd N D = 1
  nonneg : 0 ≤ D
  inf : D = 0 → N = 1
  rel : N * (mvXY m0 m1 m2 p q).2 = (mvXY m0 m1 m2 p q).1 * D

theorem xy_pos (m0 m1 m2 p q : Int) (hm : Mv m0 m1 m2) (hx : Fr p q) : 0 < (mvXY m0 m1 m2 p q).2 ∨ mvXY m0 m1 m2 p q = (1, 0) := by
  obtain ⟨_, _, hq, _, _, hqp⟩ := hx
  unfold mvXY
  by_cases h2 : m0 = 2
  · rw [if_pos h2]
    by_cases h : q = 0
    · rw [if_pos h]; exact .inr rfl
    · rw [if_neg h]
      rcases hm with ⟨_, a, _, b, _⟩ | ⟨h0, _⟩
      · exact .inl (Int.mul_pos (Int.pow_pos (Int.mul_pos (by omega) (by omega))) (Int.pow_pos (Int.mul_pos (by omega) (by omega))))
      · omega
  · rw [if_neg h2]
    by_cases h1 : m0 = 1
    · rw [if_pos h1]
      by_cases h : q = 0
      · rw [if_pos h]; exact .inl (by decide)
      · rw [if_neg h]
        by_cases hp : p = 0
        · rw [if_pos hp]; exact .inr rfl
        · rw [if_neg hp]
          by_cases hp2 : p < 0
          · rw [if_pos hp2]; exact .inl (by show 0 < -p; omega)
          · rw [if_neg hp2]; exact .inl (by show 0 < p; omega)
    · rw [if_neg h1]
      by_cases h : q = 0
      · rw [if_pos h]; exact .inr rfl
      · rw [if_neg h]; exact .inl (by show 0 < q; omega)

theorem val_exists (m0 m1 m2 p q : Int) (hm : Mv m0 m1 m2) (hx : Fr p q) : ∃ N D, IsVal m0 m1 m2 p q N D := by
  rcases xy_pos m0 m1 m2 p q hm hx with h | h
  · obtain ⟨N, D, h1, h2, h3⟩ := exists_red (mvXY m0 m1 m2 p q).1 (mvXY m0 m1 m2 p q).2 h
    exact ⟨N, D, h2, by omega, by omega, h3⟩
  · exact ⟨1, 0, by decide, by omega, fun _ => rfl, by rw [h]⟩

theorem val_unique {m0 m1 m2 p q N D N' D' : Int} (hm : Mv m0 m1 m2) (hx : Fr p q) (h : IsVal m0 m1 m2 p q N D) (h' : IsVal m0 m1 m2 p q N' D') : N = N' ∧ D = D' := by
  rcases xy_pos m0 m1 m2 p q hm hx with hp | hp
  · have pos : ∀ N D, IsVal m0 m1 m2 p q N D → 0 < D := fun N D h => by
      rcases Int.lt_or_eq_of_le h.nonneg with hd | hd
      · exact hd
      · have hr := h.rel
        rw [h.inf hd.symm, ← hd] at hr
        simp at hr; omega
    refine int_red_unique h.cop h'.cop (pos _ _ h) (pos _ _ h') ?_
    have r1 := h.rel
    have r2 := h'.rel
    refine Int.eq_of_mul_eq_mul_right (a := (mvXY m0 m1 m2 p q).2) (by omega) ?_
    generalize (mvXY m0 m1 m2 p q).1 = X at *
    generalize (mvXY m0 m1 m2 p q).2 = Y at *
    grind
  · have z : ∀ N D, IsVal m0 m1 m2 p q N D → N = 1 ∧ D = 0 := fun N D h => by
      have hr := h.rel
      rw [hp] at hr
      have hD : D = 0 := by simp at hr; omega
      exact ⟨h.inf hD, hD⟩
    have a := z _ _ h
    have b := z _ _ h'
    omega

/-- the value is within the limits -/
def Fits (N D : Int) : Prop := N.natAbs ≤ 1000000000 ∧ D ≤ 1000000000
instance (N D : Int) : Decidable (Fits N D) := by unfold Fits; infer_instance
theorem fr_of_val {m0 m1 m2 p q N D : Int} (h : IsVal m0 m1 m2 p q N D) (hf : Fits N D) : Fr N D := by
  unfold Fits at hf
  refine ⟨by omega, by omega, h.nonneg, hf.2, h.cop, ?_⟩
  rcases Int.lt_or_eq_of_le h.nonneg with hd | hd
  · exact .inl hd
  · exact .inr (h.inf hd.symm)
end Go.Proofs.Ytaplebckjbbobaa.FracMath
