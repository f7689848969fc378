/- The value of a move by the reference: the fraction in least terms, or none where a part of it is beyond the limit. -/
import Derived.Test.YtaplebckjbbobaaMathD
namespace Go.Proofs.Ytaplebckjbbobaa.FracMath
open Go.RowKit Go.Proofs.YtaplebckjbbobaaW.PrintWords Go.Proofs.YtaplebckjbbobaaW.PrintMore PFnExactMoveFraction

def sg (a : Int) (m : Nat) : Int := if a < 0 ∧ ¬ m % 2 = 0 then -1 else 1
theorem neg_pow_par (x : Int) : ∀ m : Nat, (-x) ^ m = (if m % 2 = 0 then 1 else -1) * x ^ m := by
  intro m
  induction m with
  | zero => simp
  | succ m ih =>
    rw [Int.pow_succ, Int.pow_succ, ih]
    by_cases h : m % 2 = 0
    · rw [_root_.if_pos h, _root_.if_neg (by omega)]; grind
    · rw [_root_.if_neg h, _root_.if_pos (by omega)]; grind
theorem pow_sg (a : Int) (m : Nat) : a ^ m = sg a m * ((a.natAbs ^ m : Nat) : Int) := by
  unfold sg
  rw [Int.natCast_pow]
  by_cases h : a < 0
  · obtain ⟨x, hx⟩ : ∃ x : Int, a = -x ∧ (a.natAbs : Int) = x := ⟨-a, by omega, by omega⟩
    rw [hx.2, hx.1, neg_pow_par]
    by_cases hm : m % 2 = 0
    · rw [_root_.if_pos hm, _root_.if_neg (by omega)]
    · rw [_root_.if_neg hm, _root_.if_pos ⟨by omega, hm⟩]
  · rw [_root_.if_neg (by omega), show (a.natAbs : Int) = a from by omega]; simp
theorem sg_or (a : Int) (m : Nat) : sg a m = 1 ∨ sg a m = -1 := by
  unfold sg; split <;> simp
theorem sg_pos {a : Int} (m : Nat) (h : 0 < a) : sg a m = 1 := by
  unfold sg; rw [_root_.if_neg (by omega)]

theorem l0_step (s : Int) (hs : s = 1 ∨ s = -1) (L P : List Int) (i m : Nat) (hi : i < 4) (hl : i < L.length) (hp : i < P.length) (hP : rd P i = m ∨ (rd P i = -(m : Int) ∧ 0 < rd L i)) (hL : (rd L i).natAbs ≤ 1000000000) (o1 o2 : Int) (r : Int × Int × Bool)
    (h : Ev (fun k => spec_l10Product.l0 k (s * sg (rd L i) m) (L.set i ((rd L i).natAbs : Int)) P ((i + 1 : Nat) : Int) o1 o2) r) : Ev (fun k => spec_l10Product.l0 k s L P i o1 o2) r := by
  have hself : 0 ≤ rd L i → L.set i ((rd L i).natAbs : Int) = L := fun h0 => by
    rw [rd_nat] at *
    apply List.ext_getElem?
    intro q
    by_cases hq : q = i
    · subst hq
      rw [List.getElem?_set_self hl, List.getElem?_eq_getElem hl]
      simp [List.getD, hl] at h0 ⊢; omega
    · rw [List.getElem?_set_ne (Ne.symm hq)]
  by_cases hneg : rd L i < 0
  · have hP' : rd P i = m := hP.resolve_right (by omega)
    have hs1 : wrap64 (-(rd L i)) = ((rd L i).natAbs : Int) := by rw [w64' (by omega) (by omega)]; omega
    have htm : Int.tmod (rd P i) 2 = ((m % 2 : Nat) : Int) := by rw [hP']; exact tmod_nat m 2
    have hs2 : wrap64 (-s) = -s := w64' (by omega) (by omega)
    refine Ev.to (fun k => ?_) h
    simp only [spec_l10Product.l0]
    rw [_root_.if_pos (by omega), _root_.if_pos (by omega), _root_.if_pos (by omega), _root_.if_pos hneg]
    simp only [Option.bind_some]
    rw [_root_.if_pos (by omega), htm, hs1, w64' (a := (i : Int) + 1) (by omega) (by omega), hs2, Int.toNat_natCast]
    unfold sg
    by_cases hm2 : m % 2 = 0
    · rw [_root_.if_pos (by omega), _root_.if_neg (by omega)]; simp
    · rw [_root_.if_neg (by omega), _root_.if_pos ⟨hneg, hm2⟩]; simp
  · refine Ev.to (fun k => ?_) h
    simp only [spec_l10Product.l0]
    rw [_root_.if_pos (by omega), _root_.if_pos (by omega), _root_.if_pos (by omega), _root_.if_neg hneg, w64' (a := (i : Int) + 1) (by omega) (by omega), hself (by omega)]
    unfold sg
    rw [_root_.if_neg (by omega)]; simp

theorem pow_pos' {a : Int} (h : 0 < a) (m : Nat) : 0 < a ^ m := Int.pow_pos h

theorem sign_rel {sa sb N C A B D : Int} (ha : sa = 1 ∨ sa = -1) (hb : sb = 1 ∨ sb = -1) (h : N * C = sa * A * (sb * B) * D) : sa * sb * N * C = A * B * D := by
  rcases ha with rfl | rfl <;> rcases hb with rfl | rfl <;> grind

theorem product_ev (a0 a1 b0 b1 : Int) (m n : Nat) (ha : Fr a0 a1) (hb : Fr b0 b1) (pa : 0 < a1) (pb : 0 < b1) (hm : m ≤ 20) (hn : n ≤ 20) (hm1 : 1 ≤ m) (hn1 : 1 ≤ n)
    (N D : Int) (hD : 0 < D) (hND : Int.gcd N D = 1) (hrel : N * (a1 ^ m * b1 ^ n) = a0 ^ m * b0 ^ n * D) :
    Ev (fun k => spec_l10Product.f k a0 a1 m b0 b1 n) (if N.natAbs ≤ 1000000000 ∧ D ≤ 1000000000 then (N, D, true) else (0, 0, false)) := by
  have qa := pow_pos' pa m
  have qb := pow_pos' pb n
  have hzero : a0 = 0 ∨ b0 = 0 → N = 0 ∧ D = 1 := by
    intro hz
    have h0 : N * (a1 ^ m * b1 ^ n) = 0 := by
      rw [hrel]
      rcases hz with rfl | rfl
      · rw [Int.zero_pow (by omega)]; simp
      · rw [Int.zero_pow (by omega)]; simp
    have hN : N = 0 := by
      rcases Int.mul_eq_zero.1 h0 with h | h
      · exact h
      · have := Int.mul_pos qa qb; omega
    refine ⟨hN, ?_⟩
    subst hN
    simp [Int.gcd] at hND; omega
  unfold spec_l10Product.f
  have hwm : wrap64 (-(m : Int)) = -(m : Int) := w64' (by omega) (by omega)
  have hwn : wrap64 (-(n : Int)) = -(n : Int) := w64' (by omega) (by omega)
  by_cases za : a0 = 0
  · obtain ⟨rfl, rfl⟩ := hzero (.inl za)
    rw [_root_.if_pos (by decide)]
    refine Ev.if_pos za (Ev.to (f := fun _ => some (0, 1, true)) (fun k => ?_) (Ev.now _))
    simp only [spec_l10Product.j0, if_true]
  · refine Ev.if_neg za ?_
    by_cases zb : b0 = 0
    · obtain ⟨rfl, rfl⟩ := hzero (.inr zb)
      rw [_root_.if_pos (by decide)]
      refine Ev.to (f := fun _ => some (0, 1, true)) (fun k => ?_) (Ev.now _)
      simp only [spec_l10Product.j0, zb, beq_self_eq_true, if_true]
    · have hA := ha
      have hB := hb
      obtain ⟨a_1, a_2, a_3, a_4, a_5, _⟩ := ha
      obtain ⟨b_1, b_2, b_3, b_4, b_5, _⟩ := hb
      have sa := pow_sg a0 m
      have sb := pow_sg b0 n
      -- the sign
      have hsor : sg a0 m * sg b0 n = 1 ∨ sg a0 m * sg b0 n = -1 := by
        rcases sg_or a0 m with h | h <;> rcases sg_or b0 n with h' | h' <;> rw [h, h'] <;> simp
      have na : 0 < a0.natAbs ^ m := Nat.pow_pos (by omega)
      have nb : 0 < b0.natAbs ^ n := Nat.pow_pos (by omega)
      have hrel1 : (sg a0 m * sg b0 n * N) * (a1 ^ m * b1 ^ n) = ((a0.natAbs ^ m : Nat) : Int) * ((b0.natAbs ^ n : Nat) : Int) * D := by
        rw [sa, sb] at hrel
        exact sign_rel (sg_or a0 m) (sg_or b0 n) hrel
      generalize hs : sg a0 m * sg b0 n = s at *
      have hpos : 0 < s * N := by
        have h1 : 0 < ((a0.natAbs ^ m : Nat) : Int) * ((b0.natAbs ^ n : Nat) : Int) * D := Int.mul_pos (Int.mul_pos (by omega) (by omega)) hD
        rw [← hrel1] at h1
        exact Int.pos_of_mul_pos_left h1 (Int.mul_pos qa qb)
      have hsN : s * N = (N.natAbs : Int) := by
        rcases hsor with h | h <;> rw [h] at hpos ⊢ <;> omega
      have hN2 : s * (N.natAbs : Int) = N := by
        rcases hsor with h | h <;> rw [h] at hpos ⊢ <;> omega
      refine Ev.to (f := fun k => spec_l10Product.l0 k 1 [a0, a1, b0, b1] [(m : Int), -m, n, -n] ((0 : Nat) : Int) 1 1) (fun k => ?_) ?_
      · simp only [spec_l10Product.j0]
        rw [_root_.if_neg (by simpa using zb), hwm, hwn]; rfl
      refine l0_step 1 (.inl rfl) _ _ 0 m (by omega) (by simp) (by simp) (.inl rfl) (by simp [rd]; omega) 1 1 _ ?_
      refine l0_step _ (by simpa using sg_or _ _) _ _ 1 m (by omega) (by simp) (by simp) (.inr ⟨rfl, by simpa [rd] using pa⟩) (by simp [rd]; omega) 1 1 _ ?_
      refine l0_step _ (by simpa [rd, sg_pos m pa] using sg_or _ _) _ _ 2 n (by omega) (by simp) (by simp) (.inl rfl) (by simp [rd]; omega) 1 1 _ ?_
      refine l0_step _ (by simpa [rd, sg_pos m pa, hs] using hsor) _ _ 3 n (by omega) (by simp) (by simp) (.inr ⟨rfl, by simpa [rd] using pb⟩) (by simp [rd]; omega) 1 1 _ ?_
      have hfin := product_l1 s hsor m n hm hn N.natAbs D.natAbs (by omega) (by rcases hsor with h | h <;> rw [h] at hpos <;> omega) hND (a0.natAbs + a1.natAbs + b0.natAbs + b1.natAbs) a0.natAbs a1.natAbs b0.natAbs b1.natAbs 1 1 (Nat.le_refl _) (by omega) (by omega) (by omega) (by omega) (by omega) (by omega)
        (by
          have h1 : (N.natAbs : Int) * ((a1.natAbs ^ m : Nat) * (b1.natAbs ^ n : Nat) : Nat) = ((a0.natAbs ^ m * b0.natAbs ^ n * D.natAbs : Nat) : Int) := by
            rw [← hsN]
            have e1 : ((a1.natAbs : Nat) : Int) = a1 := by omega
            have e2 : ((b1.natAbs : Nat) : Int) = b1 := by omega
            have e3 : ((D.natAbs : Nat) : Int) = D := by omega
            rw [Int.natCast_mul, Int.natCast_pow, Int.natCast_pow, e1, e2, hrel1]
            rw [Int.natCast_mul, Int.natCast_mul, e3]
          have h2 : N.natAbs * (a1.natAbs ^ m * b1.natAbs ^ n) = a0.natAbs ^ m * b0.natAbs ^ n * D.natAbs := by
            rw [← Int.natCast_mul] at h1; exact Int.ofNat.inj h1
          rw [Nat.one_mul, Nat.one_mul]; exact h2.symm)
        (Nat.coprime_one_left 1) ⟨Nat.coprime_one_left _, Nat.coprime_one_left _, Nat.coprime_one_left _, Nat.coprime_one_left _⟩ ⟨Nat.coprime_one_left _, Nat.coprime_one_left _, Nat.coprime_one_left _, Nat.coprime_one_left _⟩
      rw [hN2, show ((D.natAbs : Nat) : Int) = D from by omega] at hfin
      have hcond : (N.natAbs ≤ 1000000000 ∧ D.natAbs ≤ 1000000000) = (N.natAbs ≤ 1000000000 ∧ D ≤ 1000000000) := by
        apply propext; omega
      simp only [hcond] at hfin
      refine Ev.to (fun k => ?_) hfin
      simp only [spec_l10Product.l0]
      rw [_root_.if_neg (by omega)]
      simp only [List.set_cons_zero, List.set_cons_succ]
      have r0 : ∀ x0 x1 x2 x3 : Int, rd [x0, x1, x2, x3] ((0 : Nat) : Int) = x0 := fun _ _ _ _ => rfl
      have r1 : ∀ x0 x1 x2 x3 : Int, rd [x0, x1, x2, x3] ((1 : Nat) : Int) = x1 := fun _ _ _ _ => rfl
      have r2 : ∀ x0 x1 x2 x3 : Int, rd [x0, x1, x2, x3] ((2 : Nat) : Int) = x2 := fun _ _ _ _ => rfl
      have r3 : ∀ x0 x1 x2 x3 : Int, rd [x0, x1, x2, x3] ((3 : Nat) : Int) = x3 := fun _ _ _ _ => rfl
      simp only [r0, r1, r2, r3, sg_pos m pa, sg_pos n pb, Int.one_mul, Int.mul_one, hs]
      rfl
end Go.Proofs.Ytaplebckjbbobaa.FracMath
