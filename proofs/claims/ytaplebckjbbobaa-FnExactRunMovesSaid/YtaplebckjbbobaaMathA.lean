/- Plain facts on prime and coprime numbers and reduced fractions. -/
namespace Go.Proofs.Ytaplebckjbbobaa.FracMath
/-! plain numbers -/
def M : Nat := 1000000000

def Prm (p : Nat) : Prop := 2 ≤ p ∧ ∀ d, d ∣ p → d = 1 ∨ d = p

theorem prm_cop {p n : Nat} (hp : Prm p) (h : ¬ p ∣ n) : Nat.Coprime p n := by
  rcases hp.2 _ (Nat.gcd_dvd_left p n) with h1 | h1
  · exact h1
  · exact absurd (h1 ▸ Nat.gcd_dvd_right p n) h

theorem prm_two {p : Nat} (hp : Prm p) : 2 ≤ p := hp.1

theorem prm_least {n p : Nat} (h2 : 2 ≤ p) (hd : p ∣ n) (hl : ∀ d, 2 ≤ d → d < p → ¬ d ∣ n) : Prm p := by
  refine ⟨h2, fun d hdp => ?_⟩
  have hp : 0 < p := by omega
  have hle := Nat.le_of_dvd hp hdp
  have hd0 : d ≠ 0 := by rintro rfl; have := Nat.eq_zero_of_zero_dvd hdp; omega
  by_cases h1 : d = 1
  · exact Or.inl h1
  · right
    by_cases h : d < p
    · exact absurd (Nat.dvd_trans hdp hd) (hl d (by omega) h)
    · omega

theorem prm_self {n p : Nat} (h2 : 2 ≤ n) (hl : ∀ d, 2 ≤ d → d < p → ¬ d ∣ n) (hp : n < p * p) : Prm n := by
  refine ⟨h2, fun d hdp => ?_⟩
  obtain ⟨e, he⟩ := hdp
  by_cases h1 : d = 1
  · exact Or.inl h1
  · right
    by_cases hn : d = n
    · exact hn
    · exfalso
      have hd0 : d ≠ 0 := by rintro rfl; simp at he; omega
      have he0 : e ≠ 0 := by rintro rfl; simp at he; omega
      have he1 : e ≠ 1 := by rintro rfl; simp at he; exact hn he.symm
      by_cases hdp : d < p
      · exact hl d (by omega) hdp ⟨e, he⟩
      · by_cases hep : e < p
        · exact hl e (by omega) hep ⟨d, by rw [he, Nat.mul_comm]⟩
        · have : p * p ≤ d * e := Nat.mul_le_mul (by omega) (by omega)
          omega

theorem split_pow {p : Nat} (hp : 2 ≤ p) : ∀ n : Nat, 0 < n → ∃ e c, n = c * p ^ e ∧ ¬ p ∣ c ∧ 0 < c := by
  intro n
  induction n using Nat.strongRecOn with
  | ind n ih =>
    intro hn
    by_cases h : p ∣ n
    · obtain ⟨m, rfl⟩ := h
      have hm : 0 < m := Nat.pos_of_ne_zero (by rintro rfl; simp at hn)
      have hlt : m < p * m := by
        have : 2 * m ≤ p * m := Nat.mul_le_mul_right m hp
        omega
      obtain ⟨e, c, h1, h2, h3⟩ := ih m hlt hm
      exact ⟨e + 1, c, by rw [Nat.pow_succ]; rw [h1] at *; grind, h2, h3⟩
    · exact ⟨0, n, by simp, h, hn⟩

theorem pow_lt_of {p e n c : Nat} (hp : 2 ≤ p) (hc : 0 < c) (h : n = c * p ^ e) (hn : n < 2 ^ 31) : e < 31 := by
  have h1 : 2 ^ e ≤ p ^ e := Nat.pow_le_pow_left hp e
  have h2 : 1 * p ^ e ≤ c * p ^ e := Nat.mul_le_mul_right _ hc
  by_cases he : e < 31
  · exact he
  · have : 2 ^ 31 ≤ 2 ^ e := Nat.pow_le_pow_right (by omega) (by omega)
    omega

theorem nat_red_unique {n1 d1 n2 d2 : Nat} (h1 : Nat.Coprime n1 d1) (h2 : Nat.Coprime n2 d2) (h : n1 * d2 = n2 * d1) : n1 = n2 ∧ d1 = d2 := by
  have a : n1 ∣ n2 := h1.dvd_of_dvd_mul_right ⟨d2, h.symm⟩
  have b : n2 ∣ n1 := h2.dvd_of_dvd_mul_right ⟨d1, h⟩
  have c : d1 ∣ d2 := h1.symm.dvd_of_dvd_mul_left ⟨n2, by rw [h, Nat.mul_comm]⟩
  have d : d2 ∣ d1 := h2.symm.dvd_of_dvd_mul_left ⟨n1, by rw [← h, Nat.mul_comm]⟩
  exact ⟨Nat.dvd_antisymm a b, Nat.dvd_antisymm c d⟩

theorem int_red_unique {n1 d1 n2 d2 : Int} (h1 : Int.gcd n1 d1 = 1) (h2 : Int.gcd n2 d2 = 1) (p1 : 0 < d1) (p2 : 0 < d2) (h : n1 * d2 = n2 * d1) : n1 = n2 ∧ d1 = d2 := by
  have hab : n1.natAbs * d2.natAbs = n2.natAbs * d1.natAbs := by rw [← Int.natAbs_mul, ← Int.natAbs_mul, h]
  obtain ⟨_, hd⟩ := nat_red_unique (n1 := n1.natAbs) (d1 := d1.natAbs) (n2 := n2.natAbs) (d2 := d2.natAbs) h1 h2 hab
  have hd' : d1 = d2 := by omega
  subst hd'
  exact ⟨Int.eq_of_mul_eq_mul_right (by omega) h, rfl⟩

theorem gcd_split (a b : Int) (h : Int.gcd a b ≠ 0) : ∃ x y : Int, a = (Int.gcd a b : Int) * x ∧ b = (Int.gcd a b : Int) * y ∧ Int.gcd x y = 1 := by
  obtain ⟨x, hx⟩ := Int.gcd_dvd_left a b
  obtain ⟨y, hy⟩ := Int.gcd_dvd_right a b
  refine ⟨x, y, hx, hy, ?_⟩
  generalize hgd : Int.gcd a b = g at *
  have h1 : g * 1 = g * Int.gcd x y := by
    rw [Nat.mul_one]
    conv => lhs; rw [← hgd, hx, hy, Int.gcd_mul_left]
    simp
  exact (Nat.eq_of_mul_eq_mul_left (by omega) h1).symm

theorem split_pos {g x a : Int} (hg : 0 ≤ g) (ha : 0 < a) (h : a = g * x) : 0 < x := by
  rcases Int.lt_or_le 0 x with h1 | h1
  · exact h1
  · have h2 : 0 ≤ g * (-x) := Int.mul_nonneg hg (by omega)
    have h3 : g * (-x) = -a := by rw [h]; grind
    omega

theorem exists_red (X Y : Int) (hY : 0 < Y) : ∃ N D : Int, 0 < D ∧ Int.gcd N D = 1 ∧ N * Y = X * D := by
  have hg : Int.gcd X Y ≠ 0 := by intro h; rw [Int.gcd_eq_zero_iff] at h; omega
  obtain ⟨x, y, hx, hy, hc⟩ := gcd_split X Y hg
  have hgn : (0 : Int) ≤ (Int.gcd X Y : Int) := by omega
  refine ⟨x, y, split_pos hgn hY hy, hc, ?_⟩
  generalize (Int.gcd X Y : Int) = g at *
  clear hg hgn hY hc
  subst hx hy
  grind
end Go.Proofs.Ytaplebckjbbobaa.FracMath
