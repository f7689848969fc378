/- The reference's product of powers of two fractions is the fraction in least terms, or none where a part of it is beyond the limit. -/
import Derived.Test.YtaplebckjbbobaaMathC
namespace Go.Proofs.Ytaplebckjbbobaa.FracMath
open Go.RowKit Go.Proofs.YtaplebckjbbobaaW.PrintWords Go.Proofs.YtaplebckjbbobaaW.PrintMore PFnExactMoveFraction

theorem rd_nat (L : List Int) (i : Nat) : rd L (i : Int) = L.getD i 0 := by simp [rd]
theorem rd_set (L : List Int) (i : Nat) (v : Int) (hi : i < L.length) : rd (L.set i v) (i : Int) = v := by
  rw [rd_nat]; simp [List.getD, hi]

theorem l3_ev (s : Int) (P : List Int) (p : Nat) (hp : 2 ≤ p) (o1 o2 : Int) (r : Int × Int × Bool) (i : Nat) (hP : i < P.length) (hPb : -20 ≤ rd P i ∧ rd P i ≤ 20) (c : Nat) (hc : ¬ p ∣ c) :
    ∀ (e : Nat) (L : List Int) (t : Int), i < L.length → rd L i = ((c * p ^ e : Nat) : Int) → c * p ^ e ≤ 1000000000 → i < 4 → -100000 ≤ t - 20 * (e : Int) → t + 20 * (e : Int) ≤ 100000 →
      Ev (fun k => spec_l10Product.l2 k s (L.set i c) P p (t + rd P i * e) ((i + 1 : Nat) : Int) o1 o2) r →
      Ev (fun k => spec_l10Product.l3 k s L P p t i o1 o2) r := by
  intro e
  induction e with
  | zero =>
    intro L t hL hr hb hi4 ht1 ht2 hev
    have hr' : rd L i = (c : Int) := by rw [hr]; simp
    have hset : L.set i (c : Int) = L := by
      rw [rd_nat] at hr'
      apply List.ext_getElem?
      intro q
      by_cases hq : q = i
      · subst hq
        rw [List.getElem?_set_self hL]
        simp [List.getD, hL] at hr'
        rw [List.getElem?_eq_getElem hL, hr']
      · rw [List.getElem?_set_ne (Ne.symm hq)]
    refine Ev.to (fun k => ?_) hev
    simp only [spec_l10Product.l3]
    rw [_root_.if_pos (Int.natCast_nonneg i), _root_.if_pos (by omega), _root_.if_neg (by omega), hr', tmod_nat, _root_.if_neg (by
      intro h; exact hc (Nat.dvd_of_mod_eq_zero (by omega))), hset, w64' (by omega) (by omega)]
    simp
  | succ e ih =>
    intro L t hL hr hb hi4 ht1 ht2 hev
    have hpe : c * p ^ (e + 1) = c * p ^ e * p := by rw [Nat.pow_succ, Nat.mul_assoc]
    have hle : c * p ^ e ≤ 1000000000 := by
      have : c * p ^ e * 1 ≤ c * p ^ e * p := Nat.mul_le_mul_left _ (by omega)
      omega
    have hmod : Int.tmod (rd L i) p = 0 := by rw [hr, tmod_nat, hpe, Nat.mul_mod_left]; rfl
    have hdiv : wrap64 (Int.tdiv (rd L i) p) = ((c * p ^ e : Nat) : Int) := by
      rw [hr, tdiv_nat, hpe, Nat.mul_div_cancel _ (by omega)]
      exact w64' (by omega) (by omega)
    have hst : ∀ k, spec_l10Product.l3 (k + 1) s L P p t i o1 o2 = spec_l10Product.l3 k s (L.set i ((c * p ^ e : Nat) : Int)) P p (t + rd P i) i o1 o2 := fun k => by
      simp only [spec_l10Product.l3]
      rw [_root_.if_pos (Int.natCast_nonneg i), _root_.if_pos (by omega), _root_.if_neg (by omega), _root_.if_pos hmod, _root_.if_pos (by omega), hdiv, Int.toNat_natCast, w64' (by omega) (by omega)]
    refine Ev.to hst (ih (L.set i ((c * p ^ e : Nat) : Int)) (t + rd P i) (by simpa using hL) (rd_set _ _ _ hL) hle hi4 (by omega) (by omega) ?_)
    rw [List.set_set]
    have : t + rd P i + rd P i * (e : Int) = t + rd P i * ((e + 1 : Nat) : Int) := by
      rw [Int.natCast_add]; grind
    rw [this]; exact hev

theorem l4_ok (s : Int) (L P : List Int) (p : Nat) (hp : 2 ≤ p) (o2 : Int) (r : Int × Int × Bool) : ∀ (j o1 : Nat), 1 ≤ o1 → o1 * p ^ j ≤ 1000000000 → j ≤ 100000 →
    Ev (fun k => spec_l10Product.l1 k s L P ((o1 * p ^ j : Nat) : Int) o2) r → Ev (fun k => spec_l10Product.l4 k s L P p j o1 o2) r := by
  intro j
  induction j with
  | zero =>
    intro o1 h1 hb hj hev
    refine Ev.to (f := fun k => spec_l10Product.l5 k s L P p ((0 : Nat) : Int) o1 o2) (fun k => ?_) (Ev.to (fun k => ?_) hev)
    · simp only [spec_l10Product.l4]; rw [_root_.if_neg (by omega)]
    · simp only [spec_l10Product.l5]; rw [_root_.if_neg (by omega)]; simp
  | succ j ih =>
    intro o1 h1 hb hj hev
    have hpe : o1 * p ^ (j + 1) = o1 * p * p ^ j := by rw [Nat.pow_succ]; grind
    have hpj : 1 ≤ p ^ j := Nat.pow_pos (by omega)
    have hle : o1 * p ≤ 1000000000 := by
      have : o1 * p * 1 ≤ o1 * p * p ^ j := Nat.mul_le_mul_left _ hpj
      omega
    have hpos : 1 ≤ o1 * p := Nat.mul_pos (by omega) (by omega)
    have hcast : (o1 : Int) * p = ((o1 * p : Nat) : Int) := by simp
    rw [hpe] at hb hev
    refine Ev.to (fun k => ?_) (ih (o1 * p) hpos hb (by omega) hev)
    simp only [spec_l10Product.l4]
    rw [_root_.if_pos (by omega), hcast, w64' (by omega) (by omega), _root_.if_neg (by omega), w64' (by omega) (by omega)]
    congr 1; omega

theorem l4_bad (s : Int) (L P : List Int) (p : Nat) (hp : 2 ≤ p) (hpB : p ≤ 1000000000) (o2 : Int) : ∀ (j o1 : Nat), 1 ≤ o1 → o1 ≤ 1000000000 → 1000000000 < o1 * p ^ j → j ≤ 100000 →
    Ev (fun k => spec_l10Product.l4 k s L P p j o1 o2) ((0 : Int), (0 : Int), false) := by
  intro j
  induction j with
  | zero => intro o1 h1 ho hb hj; simp at hb; omega
  | succ j ih =>
    intro o1 h1 ho hb hj
    have hpe : o1 * p ^ (j + 1) = o1 * p * p ^ j := by rw [Nat.pow_succ]; grind
    have hmul := Nat.mul_le_mul ho hpB
    have hpos : 1 ≤ o1 * p := Nat.mul_pos (by omega) (by omega)
    have hcast : (o1 : Int) * p = ((o1 * p : Nat) : Int) := by simp
    by_cases hle : o1 * p ≤ 1000000000
    · rw [hpe] at hb
      refine Ev.to (fun k => ?_) (ih (o1 * p) hpos hle hb (by omega))
      simp only [spec_l10Product.l4]
      rw [_root_.if_pos (by omega), hcast, w64' (by omega) (by omega), _root_.if_neg (by omega), w64' (by omega) (by omega)]
      congr 1; omega
    · refine Ev.to (f := fun _ => some ((0 : Int), (0 : Int), false)) (fun k => ?_) (Ev.now _)
      simp only [spec_l10Product.l4]
      rw [_root_.if_pos (by omega), hcast, w64' (by omega) (by omega), _root_.if_pos (by omega)]

theorem l5_ok (s : Int) (L P : List Int) (p : Nat) (hp : 2 ≤ p) (o1 : Int) (r : Int × Int × Bool) : ∀ (j o2 : Nat), 1 ≤ o2 → o2 * p ^ j ≤ 1000000000 → j ≤ 100000 →
    Ev (fun k => spec_l10Product.l1 k s L P o1 ((o2 * p ^ j : Nat) : Int)) r → Ev (fun k => spec_l10Product.l5 k s L P p (-(j : Int)) o1 o2) r := by
  intro j
  induction j with
  | zero =>
    intro o2 h1 hb hj hev
    refine Ev.to (fun k => ?_) hev
    simp only [spec_l10Product.l5]; rw [_root_.if_neg (by omega)]; simp
  | succ j ih =>
    intro o2 h1 hb hj hev
    have hpe : o2 * p ^ (j + 1) = o2 * p * p ^ j := by rw [Nat.pow_succ]; grind
    have hpj : 1 ≤ p ^ j := Nat.pow_pos (by omega)
    have hle : o2 * p ≤ 1000000000 := by
      have : o2 * p * 1 ≤ o2 * p * p ^ j := Nat.mul_le_mul_left _ hpj
      omega
    have hpos : 1 ≤ o2 * p := Nat.mul_pos (by omega) (by omega)
    have hcast : (o2 : Int) * p = ((o2 * p : Nat) : Int) := by simp
    rw [hpe] at hb hev
    refine Ev.to (fun k => ?_) (ih (o2 * p) hpos hb (by omega) hev)
    simp only [spec_l10Product.l5]
    rw [_root_.if_pos (by omega), hcast, w64' (by omega) (by omega), _root_.if_neg (by omega), w64' (by omega) (by omega)]
    congr 1; omega

theorem l5_bad (s : Int) (L P : List Int) (p : Nat) (hp : 2 ≤ p) (hpB : p ≤ 1000000000) (o1 : Int) : ∀ (j o2 : Nat), 1 ≤ o2 → o2 ≤ 1000000000 → 1000000000 < o2 * p ^ j → j ≤ 100000 →
    Ev (fun k => spec_l10Product.l5 k s L P p (-(j : Int)) o1 o2) ((0 : Int), (0 : Int), false) := by
  intro j
  induction j with
  | zero => intro o2 h1 ho hb hj; simp at hb; omega
  | succ j ih =>
    intro o2 h1 ho hb hj
    have hpe : o2 * p ^ (j + 1) = o2 * p * p ^ j := by rw [Nat.pow_succ]; grind
    have hmul := Nat.mul_le_mul ho hpB
    have hpos : 1 ≤ o2 * p := Nat.mul_pos (by omega) (by omega)
    have hcast : (o2 : Int) * p = ((o2 * p : Nat) : Int) := by simp
    by_cases hle : o2 * p ≤ 1000000000
    · rw [hpe] at hb
      refine Ev.to (fun k => ?_) (ih (o2 * p) hpos hle hb (by omega))
      simp only [spec_l10Product.l5]
      rw [_root_.if_pos (by omega), hcast, w64' (by omega) (by omega), _root_.if_neg (by omega), w64' (by omega) (by omega)]
      congr 1; omega
    · refine Ev.to (f := fun _ => some ((0 : Int), (0 : Int), false)) (fun k => ?_) (Ev.now _)
      simp only [spec_l10Product.l5]
      rw [_root_.if_pos (by omega), hcast, w64' (by omega) (by omega), _root_.if_pos (by omega)]

theorem l4_neg (s : Int) (L P : List Int) (p : Nat) (j : Nat) (o1 o2 : Int) (r : Int × Int × Bool) (h : Ev (fun k => spec_l10Product.l5 k s L P p (-(j : Int)) o1 o2) r) : Ev (fun k => spec_l10Product.l4 k s L P p (-(j : Int)) o1 o2) r := by
  refine Ev.to (fun k => ?_) h
  simp only [spec_l10Product.l4]; rw [_root_.if_neg (by omega)]

theorem round_ev (s : Int) (m n : Nat) (hm : m ≤ 20) (hn : n ≤ 20) (p : Nat) (hp : 2 ≤ p) (o1 o2 : Int) (r : Int × Int × Bool) (c0 c1 c2 c3 e0 e1 e2 e3 : Nat)
    (h0 : ¬ p ∣ c0) (h1 : ¬ p ∣ c1) (h2 : ¬ p ∣ c2) (h3 : ¬ p ∣ c3) (z0 : 0 < c0) (z1 : 0 < c1) (z2 : 0 < c2) (z3 : 0 < c3)
    (b0 : c0 * p ^ e0 ≤ 1000000000) (b1 : c1 * p ^ e1 ≤ 1000000000) (b2 : c2 * p ^ e2 ≤ 1000000000) (b3 : c3 * p ^ e3 ≤ 1000000000)
    (h : Ev (fun k => spec_l10Product.l4 k s [(c0 : Int), c1, c2, c3] [(m : Int), -m, n, -n] p ((m : Int) * e0 - m * e1 + n * e2 - n * e3) o1 o2) r) :
    Ev (fun k => spec_l10Product.l2 k s [((c0 * p ^ e0 : Nat) : Int), (c1 * p ^ e1 : Nat), (c2 * p ^ e2 : Nat), (c3 * p ^ e3 : Nat)] [(m : Int), -m, n, -n] p 0 0 o1 o2) r := by
  have k0 := pow_lt_of hp z0 rfl (by omega : c0 * p ^ e0 < 2 ^ 31)
  have k1 := pow_lt_of hp z1 rfl (by omega : c1 * p ^ e1 < 2 ^ 31)
  have k2 := pow_lt_of hp z2 rfl (by omega : c2 * p ^ e2 < 2 ^ 31)
  have k3 := pow_lt_of hp z3 rfl (by omega : c3 * p ^ e3 < 2 ^ 31)
  have q0 : (m : Int) * e0 ≤ 20 * 31 := by
    have : m * e0 ≤ 20 * 31 := Nat.mul_le_mul hm (by omega)
    have hc : ((m * e0 : Nat) : Int) = (m : Int) * e0 := by simp
    omega
  have q0' : 0 ≤ (m : Int) * e0 := Int.mul_nonneg (by omega) (by omega)
  have q1 : (m : Int) * e1 ≤ 20 * 31 := by
    have : m * e1 ≤ 20 * 31 := Nat.mul_le_mul hm (by omega)
    have hc : ((m * e1 : Nat) : Int) = (m : Int) * e1 := by simp
    omega
  have q1' : 0 ≤ (m : Int) * e1 := Int.mul_nonneg (by omega) (by omega)
  have q2 : (n : Int) * e2 ≤ 20 * 31 := by
    have : n * e2 ≤ 20 * 31 := Nat.mul_le_mul hn (by omega)
    have hc : ((n * e2 : Nat) : Int) = (n : Int) * e2 := by simp
    omega
  have q2' : 0 ≤ (n : Int) * e2 := Int.mul_nonneg (by omega) (by omega)
  have go : ∀ (i : Nat) (L : List Int) (t : Int), i < 4 → Ev (fun k => spec_l10Product.l3 k s L [(m : Int), -m, n, -n] p t i o1 o2) r → Ev (fun k => spec_l10Product.l2 k s L [(m : Int), -m, n, -n] p t i o1 o2) r := fun i L t hi hev => by
    refine Ev.to (fun k => ?_) hev
    simp only [spec_l10Product.l2]; rw [_root_.if_pos (by omega)]
  have em : ∀ e : Nat, (-(m : Int)) * e = -((m : Int) * e) := fun e => Int.neg_mul _ _
  have en : ∀ e : Nat, (-(n : Int)) * e = -((n : Int) * e) := fun e => Int.neg_mul _ _
  refine go 0 _ _ (by omega) (l3_ev s _ p hp o1 o2 r 0 (by simp) (by simp [rd]; omega) c0 h0 e0 _ _ (by simp) (by simp [rd]) b0 (by omega) (by omega) (by omega) ?_)
  refine go 1 _ _ (by omega) (l3_ev s _ p hp o1 o2 r 1 (by simp) (by simp [rd]; omega) c1 h1 e1 _ _ (by simp) (by simp [rd]) b1 (by omega) (by simp [rd]; omega) (by simp [rd]; omega) ?_)
  refine go 2 _ _ (by omega) (l3_ev s _ p hp o1 o2 r 2 (by simp) (by simp [rd]; omega) c2 h2 e2 _ _ (by simp) (by simp [rd]) b2 (by omega) (by simp [rd, em]; omega) (by simp [rd, em]; omega) ?_)
  refine go 3 _ _ (by omega) (l3_ev s _ p hp o1 o2 r 3 (by simp) (by simp [rd]; omega) c3 h3 e3 _ _ (by simp) (by simp [rd]) b3 (by omega) (by simp [rd, em]; omega) (by simp [rd, em]; omega) ?_)
  refine Ev.to (fun k => ?_) h
  simp only [spec_l10Product.l2]
  rw [_root_.if_neg (by omega)]
  simp only [List.set_cons_zero, List.set_cons_succ]
  congr 1
  simp [rd, em, en]; omega

theorem cop_of_dvd_left {a b c : Nat} (h : Nat.Coprime a b) (hd : c ∣ b) : Nat.Coprime a c := h.coprime_dvd_right hd

/-- The loop of primes, from any state on. -/
theorem product_l1 (s : Int) (hs : s = 1 ∨ s = -1) (m n : Nat) (hm : m ≤ 20) (hn : n ≤ 20) (N D : Nat) (hD : 0 < D) (hN : 0 < N) (hND : Nat.Coprime N D) :
    ∀ (d n0 n1 n2 n3 o1 o2 : Nat), n0 + n1 + n2 + n3 ≤ d → (1 ≤ n0 ∧ n0 ≤ 1000000000) → (1 ≤ n1 ∧ n1 ≤ 1000000000) → (1 ≤ n2 ∧ n2 ≤ 1000000000) → (1 ≤ n3 ∧ n3 ≤ 1000000000) →
      (1 ≤ o1 ∧ o1 ≤ 1000000000) → (1 ≤ o2 ∧ o2 ≤ 1000000000) → o1 * n0 ^ m * n2 ^ n * D = N * (o2 * n1 ^ m * n3 ^ n) → Nat.Coprime o1 o2 →
      (Nat.Coprime o1 n1 ∧ Nat.Coprime o1 n3 ∧ Nat.Coprime o1 n0 ∧ Nat.Coprime o1 n2) → (Nat.Coprime o2 n0 ∧ Nat.Coprime o2 n2 ∧ Nat.Coprime o2 n1 ∧ Nat.Coprime o2 n3) →
      Ev (fun k => spec_l10Product.l1 k s [(n0 : Int), n1, n2, n3] [(m : Int), -m, n, -n] o1 o2) (if N ≤ 1000000000 ∧ D ≤ 1000000000 then (s * N, (D : Int), true) else (0, 0, false)) := by
  intro d
  induction d with
  | zero => intro n0 n1 n2 n3 o1 o2 hd h0; omega
  | succ d ih =>
    intro n0 n1 n2 n3 o1 o2 hd h0 h1 h2 h3 ho1 ho2 hrel hcop hc1 hc2
    rcases prime_ev n0 n1 n2 n3 h0 h1 h2 h3 with ⟨rfl, rfl, rfl, rfl, hev⟩ | ⟨p, hp, hdv, hev⟩
    · simp only [Nat.one_pow, Nat.mul_one] at hrel
      obtain ⟨rfl, rfl⟩ := nat_red_unique hcop hND hrel
      rw [_root_.if_pos ⟨ho1.2, ho2.2⟩]
      refine Ev.to (f := fun k => (spec_l10Prime.f k [((1 : Nat) : Int), (1 : Nat), (1 : Nat), (1 : Nat)]).bind _) (fun k => by simp only [spec_l10Product.l1]; rfl) (Ev.bind hev (Ev.if_pos rfl ?_))
      have : wrap64 ((o1 : Int) * s) = s * o1 := by
        rw [Int.mul_comm]
        refine w64' ?_ ?_ <;> rcases hs with rfl | rfl <;> omega
      rw [this]; exact Ev.now _
    · obtain ⟨e0, c0, x0, d0, z0⟩ := split_pow hp.1 n0 h0.1
      obtain ⟨e1, c1, x1, d1, z1⟩ := split_pow hp.1 n1 h1.1
      obtain ⟨e2, c2, x2, d2, z2⟩ := split_pow hp.1 n2 h2.1
      obtain ⟨e3, c3, x3, d3, z3⟩ := split_pow hp.1 n3 h3.1
      have hpp : ∀ e, 0 < p ^ e := fun e => Nat.pow_pos (by have := hp.1; omega)
      have hpB : p ≤ 1000000000 := by
        rcases hdv with h | h | h | h <;> have := Nat.le_of_dvd (by omega) h <;> omega
      have lo : ∀ c e : Nat, c * p ^ e = c * p ^ e → c ≤ c * p ^ e := fun c e _ => Nat.le_mul_of_pos_right _ (hpp e)
      have drop : ∀ c e : Nat, 0 < c → p ∣ c * p ^ e → ¬ p ∣ c → c < c * p ^ e := fun c e hc hd hn => by
        rcases e with _ | e
        · simp at hd; exact absurd hd hn
        · have h2 : 2 ≤ p ^ (e + 1) := Nat.le_trans hp.1 (by rw [Nat.pow_succ]; exact Nat.le_mul_of_pos_left _ (hpp e))
          have : c * 2 ≤ c * p ^ (e + 1) := Nat.mul_le_mul_left _ h2
          omega
      have k0 := pow_lt_of hp.1 z0 x0 (by omega)
      have k1 := pow_lt_of hp.1 z1 x1 (by omega)
      have k2 := pow_lt_of hp.1 z2 x2 (by omega)
      have k3 := pow_lt_of hp.1 z3 x3 (by omega)
      have q0 : m * e0 ≤ 20 * 31 := Nat.mul_le_mul hm (by omega)
      have q1 : m * e1 ≤ 20 * 31 := Nat.mul_le_mul hm (by omega)
      have q2 : n * e2 ≤ 20 * 31 := Nat.mul_le_mul hn (by omega)
      have q3 : n * e3 ≤ 20 * 31 := Nat.mul_le_mul hn (by omega)
      have hless : c0 + c1 + c2 + c3 ≤ d := by
        have l0 := lo c0 e0 rfl
        have l1 := lo c1 e1 rfl
        have l2 := lo c2 e2 rfl
        have l3 := lo c3 e3 rfl
        rcases hdv with h | h | h | h
        · have := drop c0 e0 z0 (x0 ▸ h) d0; omega
        · have := drop c1 e1 z1 (x1 ▸ h) d1; omega
        · have := drop c2 e2 z2 (x2 ▸ h) d2; omega
        · have := drop c3 e3 z3 (x3 ▸ h) d3; omega
      have pc : ∀ c, ¬ p ∣ c → Nat.Coprime p c := fun c h => prm_cop hp h
      have cd : ∀ n c e : Nat, n = c * p ^ e → c ∣ n := fun n c e h => ⟨p ^ e, h⟩
      have po2 : Nat.Coprime p o2 := by
        rcases hdv with h | h | h | h
        · exact (hc2.1.coprime_dvd_right h).symm
        · exact (hc2.2.2.1.coprime_dvd_right h).symm
        · exact (hc2.2.1.coprime_dvd_right h).symm
        · exact (hc2.2.2.2.coprime_dvd_right h).symm
      have po1 : Nat.Coprime p o1 := by
        rcases hdv with h | h | h | h
        · exact (hc1.2.2.1.coprime_dvd_right h).symm
        · exact (hc1.1.coprime_dvd_right h).symm
        · exact (hc1.2.2.2.coprime_dvd_right h).symm
        · exact (hc1.2.1.coprime_dvd_right h).symm
      have g10 := hc1.2.2.1.coprime_dvd_right (cd _ _ _ x0)
      have g11 := hc1.1.coprime_dvd_right (cd _ _ _ x1)
      have g12 := hc1.2.2.2.coprime_dvd_right (cd _ _ _ x2)
      have g13 := hc1.2.1.coprime_dvd_right (cd _ _ _ x3)
      have g20 := hc2.1.coprime_dvd_right (cd _ _ _ x0)
      have g21 := hc2.2.2.1.coprime_dvd_right (cd _ _ _ x1)
      have g22 := hc2.2.1.coprime_dvd_right (cd _ _ _ x2)
      have g23 := hc2.2.2.2.coprime_dvd_right (cd _ _ _ x3)
      -- the powers of p on both sides
      have hrel2 : o1 * c0 ^ m * c2 ^ n * D * p ^ (m * e0 + n * e2) = N * (o2 * c1 ^ m * c3 ^ n) * p ^ (m * e1 + n * e3) := by
        have a0 : n0 ^ m = c0 ^ m * p ^ (m * e0) := by rw [x0, Nat.mul_pow, ← Nat.pow_mul, Nat.mul_comm e0 m]
        have a1 : n1 ^ m = c1 ^ m * p ^ (m * e1) := by rw [x1, Nat.mul_pow, ← Nat.pow_mul, Nat.mul_comm e1 m]
        have a2 : n2 ^ n = c2 ^ n * p ^ (n * e2) := by rw [x2, Nat.mul_pow, ← Nat.pow_mul, Nat.mul_comm e2 n]
        have a3 : n3 ^ n = c3 ^ n * p ^ (n * e3) := by rw [x3, Nat.mul_pow, ← Nat.pow_mul, Nat.mul_comm e3 n]
        rw [a0, a1, a2, a3] at hrel
        rw [Nat.pow_add, Nat.pow_add]
        generalize p ^ (m * e0) = A at *
        generalize p ^ (m * e1) = B at *
        generalize p ^ (n * e2) = C at *
        generalize p ^ (n * e3) = E at *
        generalize c0 ^ m = A' at *
        generalize c1 ^ m = B' at *
        generalize c2 ^ n = C' at *
        generalize c3 ^ n = E' at *
        clear ih hev
        grind
      have hp0 : ¬ (p : Int) = 0 := by have := hp.1; omega
      refine Ev.to (f := fun k => (spec_l10Prime.f k [(n0 : Int), n1, n2, n3]).bind _) (fun k => by simp only [spec_l10Product.l1]; rfl) (Ev.bind hev (Ev.if_neg hp0 ?_))
      have hround := fun r => round_ev s m n hm hn p hp.1 o1 o2 r c0 c1 c2 c3 e0 e1 e2 e3 d0 d1 d2 d3 z0 z1 z2 z3 (by omega) (by omega) (by omega) (by omega)
      rw [← x0, ← x1, ← x2, ← x3] at hround
      refine hround _ ?_
      by_cases hT : m * e1 + n * e3 ≤ m * e0 + n * e2
      · obtain ⟨j, hj⟩ : ∃ j, m * e0 + n * e2 = (m * e1 + n * e3) + j := ⟨_, (Nat.add_sub_cancel' hT).symm⟩
        have ht : (m : Int) * e0 - m * e1 + n * e2 - n * e3 = (j : Int) := by
          have a0 : ((m * e0 : Nat) : Int) = (m : Int) * e0 := by simp
          have a1 : ((m * e1 : Nat) : Int) = (m : Int) * e1 := by simp
          have a2 : ((n * e2 : Nat) : Int) = (n : Int) * e2 := by simp
          have a3 : ((n * e3 : Nat) : Int) = (n : Int) * e3 := by simp
          omega
        rw [ht]
        have hrel3 : o1 * p ^ j * c0 ^ m * c2 ^ n * D = N * (o2 * c1 ^ m * c3 ^ n) := by
          rw [hj, Nat.pow_add] at hrel2
          refine Nat.eq_of_mul_eq_mul_right (hpp (m * e1 + n * e3)) ?_
          rw [← hrel2]
          generalize p ^ (m * e1 + n * e3) = A
          generalize p ^ j = B
          generalize c0 ^ m = A'
          generalize c2 ^ n = C'
          clear ih hev hround
          grind
        have hcp : Nat.Coprime (o1 * p ^ j) (o2 * c1 ^ m * c3 ^ n) :=
          Nat.Coprime.mul_left (Nat.Coprime.mul_right (Nat.Coprime.mul_right hcop (g11.pow_right m)) (g13.pow_right n))
            (Nat.Coprime.pow_left j (Nat.Coprime.mul_right (Nat.Coprime.mul_right po2 ((pc c1 d1).pow_right m)) ((pc c3 d3).pow_right n)))
        by_cases hfit : o1 * p ^ j ≤ 1000000000
        · refine l4_ok s _ _ p hp.1 o2 _ j o1 ho1.1 hfit (by omega) ?_
          refine ih c0 c1 c2 c3 (o1 * p ^ j) o2 hless ⟨z0, ?_⟩ ⟨z1, ?_⟩ ⟨z2, ?_⟩ ⟨z3, ?_⟩ ⟨Nat.mul_pos ho1.1 (hpp j), hfit⟩ ho2 hrel3 ?_ ⟨?_, ?_, ?_, ?_⟩ ⟨g20, g22, g21, g23⟩
          · have := lo c0 e0 rfl; omega
          · have := lo c1 e1 rfl; omega
          · have := lo c2 e2 rfl; omega
          · have := lo c3 e3 rfl; omega
          · exact Nat.Coprime.mul_left hcop (po2.pow_left j)
          · exact Nat.Coprime.mul_left g11 ((pc c1 d1).pow_left j)
          · exact Nat.Coprime.mul_left g13 ((pc c3 d3).pow_left j)
          · exact Nat.Coprime.mul_left g10 ((pc c0 d0).pow_left j)
          · exact Nat.Coprime.mul_left g12 ((pc c2 d2).pow_left j)
        · have hdvd : o1 * p ^ j ∣ N := hcp.dvd_of_dvd_mul_right ⟨c0 ^ m * c2 ^ n * D, by rw [← hrel3]; simp only [Nat.mul_assoc]⟩
          have := Nat.le_of_dvd hN hdvd
          rw [_root_.if_neg (by omega)]
          exact l4_bad s _ _ p hp.1 hpB o2 j o1 ho1.1 ho1.2 (by omega) (by omega)
      · obtain ⟨j, hj⟩ : ∃ j, m * e1 + n * e3 = (m * e0 + n * e2) + j := ⟨_, (Nat.add_sub_cancel' (by omega)).symm⟩
        have ht : (m : Int) * e0 - m * e1 + n * e2 - n * e3 = -(j : Int) := by
          have a0 : ((m * e0 : Nat) : Int) = (m : Int) * e0 := by simp
          have a1 : ((m * e1 : Nat) : Int) = (m : Int) * e1 := by simp
          have a2 : ((n * e2 : Nat) : Int) = (n : Int) * e2 := by simp
          have a3 : ((n * e3 : Nat) : Int) = (n : Int) * e3 := by simp
          omega
        rw [ht]
        have hrel3 : o1 * c0 ^ m * c2 ^ n * D = N * (o2 * p ^ j * c1 ^ m * c3 ^ n) := by
          rw [hj, Nat.pow_add p (m * e0 + n * e2) j] at hrel2
          refine Nat.eq_of_mul_eq_mul_right (hpp (m * e0 + n * e2)) ?_
          rw [hrel2]
          generalize p ^ (m * e0 + n * e2) = A
          generalize p ^ j = B
          generalize c1 ^ m = A'
          generalize c3 ^ n = C'
          clear ih hev hround
          grind
        have hcp : Nat.Coprime (o2 * p ^ j) (o1 * c0 ^ m * c2 ^ n) :=
          Nat.Coprime.mul_left (Nat.Coprime.mul_right (Nat.Coprime.mul_right hcop.symm (g20.pow_right m)) (g22.pow_right n))
            (Nat.Coprime.pow_left j (Nat.Coprime.mul_right (Nat.Coprime.mul_right po1 ((pc c0 d0).pow_right m)) ((pc c2 d2).pow_right n)))
        refine l4_neg s _ _ p j o1 o2 _ ?_
        by_cases hfit : o2 * p ^ j ≤ 1000000000
        · refine l5_ok s _ _ p hp.1 o1 _ j o2 ho2.1 hfit (by omega) ?_
          refine ih c0 c1 c2 c3 o1 (o2 * p ^ j) hless ⟨z0, ?_⟩ ⟨z1, ?_⟩ ⟨z2, ?_⟩ ⟨z3, ?_⟩ ho1 ⟨Nat.mul_pos ho2.1 (hpp j), hfit⟩ hrel3 ?_ ⟨g11, g13, g10, g12⟩ ⟨?_, ?_, ?_, ?_⟩
          · have := lo c0 e0 rfl; omega
          · have := lo c1 e1 rfl; omega
          · have := lo c2 e2 rfl; omega
          · have := lo c3 e3 rfl; omega
          · exact Nat.Coprime.mul_right hcop (po1.symm.pow_right j)
          · exact Nat.Coprime.mul_left g20 ((pc c0 d0).pow_left j)
          · exact Nat.Coprime.mul_left g22 ((pc c2 d2).pow_left j)
          · exact Nat.Coprime.mul_left g21 ((pc c1 d1).pow_left j)
          · exact Nat.Coprime.mul_left g23 ((pc c3 d3).pow_left j)
        · have hdvd : o2 * p ^ j ∣ D := hcp.dvd_of_dvd_mul_left ⟨N * c1 ^ m * c3 ^ n, by rw [hrel3]; grind⟩
          have := Nat.le_of_dvd hD hdvd
          rw [_root_.if_neg (by omega)]
          exact l5_bad s _ _ p hp.1 hpB o1 j o2 ho2.1 ho2.2 (by omega) (by omega)
end Go.Proofs.Ytaplebckjbbobaa.FracMath
