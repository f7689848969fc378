/- The reference's move of a fraction: its value in least terms, or none where a part of it is beyond the limit. -/
import Derived.Test.YtaplebckjbbobaaMathF
namespace Go.Proofs.Ytaplebckjbbobaa.FracMath
open Go.RowKit Go.Proofs.YtaplebckjbbobaaW.PrintWords Go.Proofs.YtaplebckjbbobaaW.PrintMore PFnExactMoveFraction

theorem natAbs_le_of_dvd {a b : Int} (h : a ∣ b) (hb : b ≠ 0) : a.natAbs ≤ b.natAbs := Nat.le_of_dvd (by omega) (Int.natAbs_dvd_natAbs.2 h)
theorem idvd_left {N A X D : Int} (hc : Int.gcd N D = 1) (h : N * A = X * D) : N ∣ X := by
  have h1 : N.natAbs ∣ X.natAbs * D.natAbs := ⟨A.natAbs, by rw [← Int.natAbs_mul, ← Int.natAbs_mul, h]⟩
  exact Int.natAbs_dvd_natAbs.1 (Nat.Coprime.dvd_of_dvd_mul_right hc h1)
theorem idvd_right {N A X D : Int} (hc : Int.gcd N D = 1) (h : N * A = X * D) : D ∣ A := by
  have h1 : D.natAbs ∣ N.natAbs * A.natAbs := ⟨X.natAbs, by rw [← Int.natAbs_mul, ← Int.natAbs_mul, h, Int.mul_comm]⟩
  exact Int.natAbs_dvd_natAbs.1 (Nat.Coprime.dvd_of_dvd_mul_left (Nat.Coprime.symm hc) h1)

theorem fr_of {N D : Int} (hN : N.natAbs ≤ 1000000000) (hD : D ≤ 1000000000) (hp : 0 < D) (hc : Int.gcd N D = 1) : Fr N D := ⟨by omega, by omega, by omega, hD, hc, .inl hp⟩

/-- the part of a product: p s over q f, in least terms -/
theorem part_le {Na Da p s q f F0 F1 : Int} (hF : F0 * f = s * F1) (h : Na * (q * F1) = p * F0 * Da) (hF1 : F1 ≠ 0) : Na * (q * f) = p * s * Da := by
  have : F1 * (Na * (q * f)) = F1 * (p * s * Da) := by
    have e1 : F1 * (Na * (q * f)) = (Na * (q * F1)) * f := by grind
    rw [e1, h]
    have e2 : p * F0 * Da * f = p * (F0 * f) * Da := by grind
    rw [e2, hF]; grind
  exact Int.eq_of_mul_eq_mul_left hF1 this

theorem fits_parts {p q f l N D : Int} (hf : 1 ≤ f ∧ f ≤ 20) (hl : 1 ≤ l ∧ l ≤ 20) (hx : Fr p q) (hq : 0 < q) (hcop : Int.gcd N D = 1) (hD : 0 < D)
    (hrel : N * ((q * f) ^ f.toNat * (q * l) ^ l.toNat) = (p * (f + l)) ^ f.toNat * ((q - p) * (f + l)) ^ l.toNat * D) (hfit : Fits N D) :
    q ≤ 1264920 ∧ p.natAbs < 25000000 ∧ (q - p).natAbs < 25000000 := by
  obtain ⟨x1, x2, x3, x4, x5, _⟩ := hx
  by_cases hp : p = 0
  · subst hp; simp [Int.gcd] at x5; omega
  by_cases hr : q - p = 0
  · have : q = p := by omega
    subst this; simp [Int.gcd] at x5; omega
  obtain ⟨F, rfl⟩ := Int.eq_ofNat_of_zero_le (show 0 ≤ f by omega)
  obtain ⟨L, rfl⟩ := Int.eq_ofNat_of_zero_le (show 0 ≤ l by omega)
  obtain ⟨Q, rfl⟩ := Int.eq_ofNat_of_zero_le (show 0 ≤ q by omega)
  simp only [Int.toNat_natCast] at hrel
  have habs : N.natAbs * ((Q * F) ^ F * (Q * L) ^ L) = (p.natAbs * (F + L)) ^ F * ((Q - p : Int).natAbs * (F + L)) ^ L * D.natAbs := by
    have := congrArg Int.natAbs hrel
    simp only [Int.natAbs_mul, Int.natAbs_pow, Int.natAbs_natCast] at this
    rw [show ((F : Int) + L).natAbs = F + L from by omega] at this
    exact this
  have hrel2 : N.natAbs * (Q ^ (F + L) * (F ^ F * L ^ L)) = p.natAbs ^ F * (Q - p : Int).natAbs ^ L * (F + L) ^ (F + L) * D.natAbs := by
    rw [Nat.mul_pow, Nat.mul_pow, Nat.mul_pow, Nat.mul_pow] at habs
    rw [Nat.pow_add, Nat.pow_add]
    generalize Q ^ F = A at *
    generalize Q ^ L = B at *
    generalize (F + L) ^ F = A' at *
    generalize (F + L) ^ L = B' at *
    generalize p.natAbs ^ F = C at *
    generalize (Q - p : Int).natAbs ^ L = E at *
    generalize F ^ F = G at *
    generalize L ^ L = H at *
    clear hrel
    grind
  have hN0 : N ≠ 0 := by
    rintro rfl
    rw [Int.zero_mul] at hrel
    have h1 : (p * ((F : Int) + L)) ^ F ≠ 0 := Int.pow_ne_zero (Int.mul_ne_zero hp (by omega))
    have h2 : (((Q : Int) - p) * ((F : Int) + L)) ^ L ≠ 0 := Int.pow_ne_zero (Int.mul_ne_zero hr (by omega))
    exact absurd hrel.symm (Int.mul_ne_zero (Int.mul_ne_zero h1 h2) (by omega))
  have c1 : Nat.Coprime Q p.natAbs := by rw [Nat.coprime_comm]; exact x5
  have c2 : Nat.Coprime Q (Q - p : Int).natAbs := by
    have h := x5
    rw [Int.gcd_comm] at h
    have h3 : Int.gcd (Q : Int) (Q - p) = 1 := by
      rw [← h, show ((Q : Int) - p) = -p + Q * 1 from by omega]
      simp
    exact h3
  unfold Fits at hfit
  have := lim_ok p.natAbs (Q - p : Int).natAbs Q F L N.natAbs D.natAbs (by omega) (by omega) (by omega) (by omega) (by omega) (by omega) (by omega) c1 c2 (by omega) (by omega) hrel2 (by omega) (by omega)
  omega

def Told (N D : Int) (r : Int × Int × Bool) : Prop := (Fits N D → r = (N, D, true)) ∧ (¬ Fits N D → r.2.2 = false)

theorem value_ev (f l p q N D : Int) (hf : 1 ≤ f ∧ f ≤ 20) (hl : 1 ≤ l ∧ l ≤ 20) (hx : Fr p q) (hv : IsVal 2 f l p q N D) : ∃ r, Told N D r ∧ Ev (fun k => spec_l10Value.f k f l p q) r := by
  have hX := hx
  obtain ⟨x1, x2, x3, x4, x5, x6⟩ := hx
  unfold spec_l10Value.f
  by_cases hq0 : q = 0
  · have hp1 : p = 1 := x6.resolve_left (by omega)
    have hr := hv.rel
    unfold mvXY at hr
    rw [if_pos rfl, if_pos hq0] at hr
    have hD : D = 0 := by simp at hr; omega
    have hN := hv.inf hD
    refine ⟨(p, q, true), ⟨fun _ => by rw [hp1, hq0, hN, hD], fun h => absurd ?_ h⟩, Ev.if_pos hq0 (Ev.now _)⟩
    subst hN hD; decide
  · have hq : 0 < q := by omega
    have hr := hv.rel
    unfold mvXY at hr
    rw [if_pos rfl, if_neg hq0] at hr
    have hDp : 0 < D := by
      rcases Int.lt_or_eq_of_le hv.nonneg with h | h
      · exact h
      · exfalso
        rw [hv.inf h.symm, ← h, Int.mul_zero, Int.one_mul] at hr
        have : 0 < (q * f) ^ f.toNat * (q * l) ^ l.toNat := Int.mul_pos (Int.pow_pos (Int.mul_pos hq (by omega))) (Int.pow_pos (Int.mul_pos hq (by omega)))
        simp only at hr; omega
    simp only at hr
    obtain ⟨R0, R1, sr, hs1, hs2, hs3, hs4, hs5, evR⟩ := make_ev (q - p) q (by omega) (by omega) (by omega)
    obtain ⟨F0, F1, sf, hf1, hf2, hf3, hf4, hf5, evF⟩ := make_ev (f + l) f (by omega) (by omega) (by omega)
    obtain ⟨L0, L1, sl, hl1, hl2, hl3, hl4, hl5, evL⟩ := make_ev (f + l) l (by omega) (by omega) (by omega)
    have pos1 : ∀ {D' s : Int}, (0 < D' ∨ (D' = 0 ∧ s = 1)) → D' ≠ 0 → 0 < D' := fun h h' => by omega
    have hR1 : 0 < R1 := pos1 hs5 (by rintro rfl; rw [Int.mul_zero] at hs3; omega)
    have hF1 : 0 < F1 := pos1 hf5 (by rintro rfl; rw [Int.mul_zero] at hf3; omega)
    have hL1 : 0 < L1 := pos1 hl5 (by rintro rfl; rw [Int.mul_zero] at hl3; omega)
    have hcR : Int.gcd (q - p) q = 1 := by
      rw [Int.gcd_comm] at x5 ⊢
      rw [← x5, show (q - p) = -p + q * 1 from by omega]
      simp
    obtain ⟨q0, q1⟩ : R0 = q - p ∧ R1 = q := int_red_unique hs4 hcR hR1 hq (by
      have a : R0 * q = R0 * (sr * R1) := by rw [← hs3]
      have b : (q - p) * R1 = sr * R0 * R1 := by rw [← hs2]
      rw [a, b]; grind)
    rw [q0, q1] at evR
    clear hs1 hs2 hs3 hs5
    have hFF : F0 * f = (f + l) * F1 := by
      have a : F0 * f = F0 * (sf * F1) := by rw [← hf3]
      have b : (f + l) * F1 = sf * F0 * F1 := by rw [← hf2]
      rw [a, b]; grind
    have hLL : L0 * l = (f + l) * L1 := by
      have a : L0 * l = L0 * (sl * L1) := by rw [← hl3]
      have b : (f + l) * L1 = sl * L0 * L1 := by rw [← hl2]
      rw [a, b]; grind
    have bF0 : F0.natAbs ≤ 40 := by have h := abs_le_mul (x := F0) hf1; rw [← hf2] at h; omega
    have bF1 : F1.natAbs ≤ 20 := by have h := abs_le_mul (x := F1) hf1; rw [← hf3] at h; omega
    have bL0 : L0.natAbs ≤ 40 := by have h := abs_le_mul (x := L0) hl1; rw [← hl2] at h; omega
    have bL1 : L1.natAbs ≤ 20 := by have h := abs_le_mul (x := L1) hl1; rw [← hl3] at h; omega
    clear hf1 hf2 hf3 hl1 hl2 hl3 hf5 hl5
    obtain ⟨Na, Da, hDa, hca, hra, evA⟩ := times_ev p q F0 F1 (by omega) (by omega) (by omega) (by omega) x5 hf4 hq hF1
    obtain ⟨Nb, Db, hDb, hcb, hrb, evB⟩ := times_ev (q - p) q L0 L1 (by omega) (by omega) (by omega) (by omega) hcR hl4 hq hL1
    have hA := part_le hFF hra (by omega)
    have hB := part_le hLL hrb (by omega)
    -- within the limits
    have hparts : Fits N D → Fr (q - p) q ∧ Fr Na Da ∧ Fr Nb Db := by
      intro hfit
      obtain ⟨y1, y2, y3⟩ := fits_parts hf hl hX hq hv.cop hDp hr hfit
      have zero : ∀ {Nn Dd : Int}, 0 < Dd → Int.gcd Nn Dd = 1 → Nn = 0 → Fr Nn Dd := fun h1 h2 h3 => by
        subst h3
        have : (Int.gcd 0 _ : Nat) = 1 := h2
        simp [Int.gcd] at this
        exact fr_of (by omega) (by omega) h1 h2
      have num : ∀ {Nn Dd u S A : Int}, 0 < Dd → Int.gcd Nn Dd = 1 → Nn * (q * A) = u * S * Dd → u.natAbs < 25000000 → S.natAbs ≤ 40 → 0 < A → A.natAbs ≤ 20 → Fr Nn Dd := by
        intro Nn Dd u S A h1 h2 h3 h4 h5 h6 h7
        by_cases hz : u * S = 0
        · rw [hz, Int.zero_mul] at h3
          refine zero h1 h2 ?_
          rcases Int.mul_eq_zero.1 h3 with h | h
          · exact h
          · have := Int.mul_pos hq h6; omega
        · have d1 := natAbs_le_of_dvd (idvd_left h2 h3) hz
          have d2 := natAbs_le_of_dvd (idvd_right h2 h3) (by have := Int.mul_pos hq h6; omega)
          rw [Int.natAbs_mul] at d1 d2
          have e1 : u.natAbs * S.natAbs ≤ 25000000 * 40 := Nat.mul_le_mul (by omega) h5
          have e2 : q.natAbs * A.natAbs ≤ 1264920 * 20 := Nat.mul_le_mul (by omega) h7
          exact fr_of (by omega) (by omega) h1 h2
      exact ⟨fr_of (by omega) (by omega) hq hcR, num hDa hca hra y2 bF0 hF1 bF1, num hDb hcb hrb y3 bL0 hL1 bL1⟩
    have hw1 : wrap64 (q - p) = q - p := w64' (by omega) (by omega)
    have hw2 : wrap64 (f + l) = f + l := w64' (by omega) (by omega)
    have hbad : ¬ Fits N D → Told N D (0, 0, false) := fun h => ⟨fun h' => absurd h' h, fun _ => rfl⟩
    simp only [hw1, hw2]
    by_cases g1 : Fr (q - p) q
    · by_cases g2 : Fr Na Da
      · by_cases g3 : Fr Nb Db
        · -- the product
          have hprod := product_ev Na Da Nb Db f.toNat l.toNat g2 g3 hDa hDb (by omega) (by omega) (by omega) (by omega) N D hDp hv.cop (by
            have pA : (Na * (q * f)) ^ f.toNat = (p * (f + l) * Da) ^ f.toNat := by rw [hA]
            have pB : (Nb * (q * l)) ^ l.toNat = ((q - p) * (f + l) * Db) ^ l.toNat := by rw [hB]
            rw [Int.mul_pow, @Int.mul_pow (p * (f + l))] at pA
            rw [Int.mul_pow, @Int.mul_pow ((q - p) * (f + l))] at pB
            have hne : (q * f) ^ f.toNat * (q * l) ^ l.toNat ≠ 0 := by
              have := Int.mul_pos (Int.pow_pos (m := f.toNat) (Int.mul_pos hq (show 0 < f by omega))) (Int.pow_pos (m := l.toNat) (Int.mul_pos hq (show 0 < l by omega)))
              omega
            refine Int.eq_of_mul_eq_mul_right hne ?_
            clear hbad hparts evA evB evR evF evL hra hrb hA hB
            generalize (q * f) ^ f.toNat = A at *
            generalize (q * l) ^ l.toNat = B at *
            generalize (p * (f + l)) ^ f.toNat = C at *
            generalize ((q - p) * (f + l)) ^ l.toNat = E at *
            generalize Na ^ f.toNat = G at *
            generalize Nb ^ l.toNat = H at *
            generalize Da ^ f.toNat = I at *
            generalize Db ^ l.toNat = J at *
            have e1 : N * (I * J) * (A * B) = (N * (A * B)) * (I * J) := by grind
            have e2 : G * H * D * (A * B) = (G * A) * (H * B) * D := by grind
            rw [e1, hr, e2, pA, pB]; grind)
          refine ⟨if N.natAbs ≤ 1000000000 ∧ D ≤ 1000000000 then (N, D, true) else (0, 0, false), ?_, ?_⟩
          · unfold Told Fits
            by_cases hfit : N.natAbs ≤ 1000000000 ∧ D ≤ 1000000000
            · rw [if_pos hfit]; exact ⟨fun _ => rfl, fun h => absurd hfit h⟩
            · rw [if_neg hfit]; exact ⟨fun h => absurd h hfit, fun _ => rfl⟩
          · refine Ev.if_neg hq0 (Ev.bind evR (Ev.bind evF (Ev.bind evL (Ev.bind evA ?_))))
            simp only [decide_eq_true g1, decide_eq_true g2, if_true]
            refine Ev.to (f := fun k => (spec_l10Times.f k (q - p) q L0 L1).bind fun b => (if b.2.2 = true then ((spec_l10Product.f k Na Da f b.1 b.2.1 l).bind fun c => some (c.1, c.2.1, c.2.2)) else some (0, 0, false))) (fun k => ?_) (Ev.bind evB ?_)
            · simp only [spec_l10Value.j0, Bool.not_true, Bool.false_eq_true, if_false]
            · refine Ev.if_pos (decide_eq_true g3) (Ev.bind ?_ (Ev.now _))
              rw [show ((f.toNat : Nat) : Int) = f from by omega, show ((l.toNat : Nat) : Int) = l from by omega] at hprod
              exact hprod
        · refine ⟨(0, 0, false), hbad fun h => g3 (hparts h).2.2, ?_⟩
          refine Ev.if_neg hq0 (Ev.bind evR (Ev.bind evF (Ev.bind evL (Ev.bind evA ?_))))
          simp only [decide_eq_true g1, decide_eq_true g2, if_true]
          refine Ev.to (f := fun k => (spec_l10Times.f k (q - p) q L0 L1).bind fun b => (if b.2.2 = true then ((spec_l10Product.f k Na Da f b.1 b.2.1 l).bind fun c => some (c.1, c.2.1, c.2.2)) else some (0, 0, false))) (fun k => ?_) (Ev.bind evB ?_)
          · simp only [spec_l10Value.j0, Bool.not_true, Bool.false_eq_true, if_false]
          · exact Ev.if_neg (by simpa using g3) (Ev.now _)
      · refine ⟨(0, 0, false), hbad fun h => g2 (hparts h).2.1, ?_⟩
        refine Ev.if_neg hq0 (Ev.bind evR (Ev.bind evF (Ev.bind evL (Ev.bind evA ?_))))
        simp only [decide_eq_true g1, decide_eq_false g2, if_true]
        refine Ev.to (f := fun _ => some (0, 0, false)) (fun k => ?_) (Ev.now _)
        simp only [spec_l10Value.j0, Bool.not_false, if_true]
    · refine ⟨(0, 0, false), hbad fun h => g1 (hparts h).1, ?_⟩
      refine Ev.if_neg hq0 (Ev.bind evR (Ev.bind evF (Ev.bind evL (Ev.bind evA ?_))))
      simp only [decide_eq_false g1, Bool.false_eq_true, if_false]
      refine Ev.to (f := fun _ => some (0, 0, false)) (fun k => ?_) (Ev.now _)
      simp only [spec_l10Value.j0, if_true]
end Go.Proofs.Ytaplebckjbbobaa.FracMath
