/- The reference's product of powers is the fraction in least terms, where its parts are within the limit. -/
import Derived.Test.YtaplebckjbbobaaMathB
namespace Go.Proofs.Ytaplebckjbbobaa.FracMath
open Go.RowKit Go.Proofs.YtaplebckjbbobaaW.PrintWords Go.Proofs.YtaplebckjbbobaaW.PrintMore PFnExactMoveFraction

theorem w64' {a : Int} (h : -4611686018427387904 ≤ a) (h' : a ≤ 4611686018427387904) : wrap64 a = a := w64 ⟨h, h'⟩

theorem tmod_nat (n p : Nat) : Int.tmod (n : Int) (p : Int) = ((n % p : Nat) : Int) := by rw [← Int.ofNat_tmod]
theorem tdiv_nat (n p : Nat) : Int.tdiv (n : Int) (p : Int) = ((n / p : Nat) : Int) := by rw [← Int.ofNat_tdiv]

/-! ### the least prime divisor -/
theorem prime_l1 (L : List Int) (i : Nat) (hi : i < L.length) (n : Nat) (hn : rd L i = n) (h2 : 2 ≤ n) (hB : n ≤ 1000000000) :
    ∀ (d p : Nat), n + 2 - p ≤ d → 2 ≤ p → p ≤ 40000 → (∀ x, 2 ≤ x → x < p → ¬ x ∣ n) →
      ∃ r : Nat, Prm r ∧ r ∣ n ∧ Ev (fun k => spec_l10Prime.l1 k L i p) (r : Int) := by
  have hi' : (i : Int) < (L.length : Int) := by omega
  intro d
  induction d with
  | zero =>
    intro p hd hp hp4 hl
    have hpp : n < p * p := by
      have : n + 2 ≤ p := by omega
      have := Nat.mul_le_mul this this
      have h3 : (n + 2) * 1 ≤ (n + 2) * (n + 2) := Nat.mul_le_mul_left _ (by omega)
      omega
    refine ⟨n, prm_self h2 hl hpp, Nat.dvd_refl n, Ev.to (f := fun _ => some (n : Int)) (fun k => ?_) (Ev.now _)⟩
    have hpp' : ¬ (p : Int) * p ≤ n := by have : ((p * p : Nat) : Int) = (p : Int) * p := by simp
                                          omega
    have hb : p * p ≤ 40000 * 40000 := Nat.mul_le_mul hp4 hp4
    have hw : wrap64 ((p : Int) * p) = (p : Int) * p := by
      have : ((p * p : Nat) : Int) = (p : Int) * p := by simp
      exact w64' (by omega) (by omega)
    simp only [spec_l10Prime.l1]
    rw [_root_.if_pos (Int.natCast_nonneg i), _root_.if_pos hi', hw, hn, _root_.if_neg hpp']
  | succ d ih =>
    intro p hd hp hp4 hl
    have hb : p * p ≤ 40000 * 40000 := Nat.mul_le_mul hp4 hp4
    have hc : ((p * p : Nat) : Int) = (p : Int) * p := by simp
    have hw : wrap64 ((p : Int) * p) = (p : Int) * p := w64' (by omega) (by omega)
    by_cases hpp : n < p * p
    · refine ⟨n, prm_self h2 hl hpp, Nat.dvd_refl n, Ev.to (f := fun _ => some (n : Int)) (fun k => ?_) (Ev.now _)⟩
      simp only [spec_l10Prime.l1]
      rw [_root_.if_pos (Int.natCast_nonneg i), _root_.if_pos hi', hw, hn, _root_.if_neg (by omega)]
    · by_cases hdv : p ∣ n
      · refine ⟨p, prm_least hp hdv hl, hdv, Ev.to (f := fun _ => some (p : Int)) (fun k => ?_) (Ev.now _)⟩
        simp only [spec_l10Prime.l1]
        rw [_root_.if_pos (Int.natCast_nonneg i), _root_.if_pos hi', hw, hn, _root_.if_pos (by omega), _root_.if_neg (by omega), tmod_nat, _root_.if_pos (by rw [Nat.mod_eq_zero_of_dvd hdv]; rfl)]
      · have hlt : p < 31700 := by
          rcases Nat.lt_or_ge p 31700 with h | h
          · exact h
          · have := Nat.mul_le_mul h h; omega
        have hpn : p ≤ n := by
          have : p * 1 ≤ p * p := Nat.mul_le_mul_left _ (by omega)
          omega
        obtain ⟨r, h1, h3, h4⟩ := ih (p + 1) (by omega) (by omega) (by omega) (fun x hx hxp => by
          by_cases hxe : x = p
          · subst hxe; exact hdv
          · exact hl x hx (by omega))
        refine ⟨r, h1, h3, Ev.to (f := fun k => spec_l10Prime.l1 k L i ((p + 1 : Nat) : Int)) (fun k => ?_) h4⟩
        have hm : ¬ Int.tmod (n : Int) (p : Int) = 0 := by
          rw [tmod_nat]
          intro h
          exact hdv (Nat.dvd_of_mod_eq_zero (by omega))
        simp only [spec_l10Prime.l1]
        rw [_root_.if_pos (Int.natCast_nonneg i), _root_.if_pos hi', hw, hn, _root_.if_pos (by omega), _root_.if_neg (by omega), _root_.if_neg hm, w64' (by omega) (by omega)]
        congr 1

theorem prime_l0 (L : List Int) (hL : ∀ i : Nat, i < L.length → ∃ n : Nat, rd L i = n ∧ 1 ≤ n ∧ n ≤ 1000000000) (hlen : L.length ≤ 4) :
    ∀ (d i : Nat), L.length - i ≤ d → (∀ j, j < i → rd L j = 1) →
      ((∀ j : Nat, j < L.length → rd L j = 1) ∧ Ev (fun k => spec_l10Prime.l0 k L i) 0) ∨
      ∃ p : Nat, Prm p ∧ (∃ j n : Nat, j < L.length ∧ rd L j = n ∧ p ∣ n) ∧ Ev (fun k => spec_l10Prime.l0 k L i) (p : Int) := by
  intro d
  induction d with
  | zero =>
    intro i hd h1
    left
    refine ⟨fun j hj => h1 j (by omega), Ev.to (f := fun _ => some 0) (fun k => ?_) (Ev.now _)⟩
    simp only [spec_l10Prime.l0]
    rw [_root_.if_neg (by omega)]
  | succ d ih =>
    intro i hd h1
    by_cases hi : i < L.length
    · obtain ⟨n, hn, hn1, hn2⟩ := hL i hi
      by_cases hone : n = 1
      · have hr1 : rd L i = 1 := by rw [hn, hone]; rfl
        have hstep : ∀ k, spec_l10Prime.l0 (k + 1) L i = spec_l10Prime.l0 k L ((i + 1 : Nat) : Int) := fun k => by
          simp only [spec_l10Prime.l0]
          rw [_root_.if_pos (by omega), _root_.if_pos (by omega), _root_.if_pos hr1, w64' (by omega) (by omega)]
          congr 1
        rcases ih (i + 1) (by omega) (fun j hj => by
          by_cases hji : j = i
          · subst hji; exact hr1
          · exact h1 j (by omega)) with ⟨ha, hb⟩ | ⟨p, hp, hj, hb⟩
        · exact .inl ⟨ha, Ev.to hstep hb⟩
        · exact .inr ⟨p, hp, hj, Ev.to hstep hb⟩
      · obtain ⟨r, hr, hd', hev⟩ := prime_l1 L i hi n hn (by omega) hn2 (n + 2) 2 (by omega) (by omega) (by omega) (fun x hx hxp => by omega)
        refine .inr ⟨r, hr, ⟨i, n, hi, hn, hd'⟩, Ev.to (f := fun k => spec_l10Prime.l1 k L i ((2 : Nat) : Int)) (fun k => ?_) hev⟩
        simp only [spec_l10Prime.l0]
        rw [_root_.if_pos (by omega), _root_.if_pos (by omega), _root_.if_neg (by rw [hn]; omega)]
        rfl
    · left
      refine ⟨fun j hj => h1 j (by omega), Ev.to (f := fun _ => some 0) (fun k => ?_) (Ev.now _)⟩
      simp only [spec_l10Prime.l0]
      rw [_root_.if_neg (by omega)]

theorem prime_ev (n0 n1 n2 n3 : Nat) (h0 : 1 ≤ n0 ∧ n0 ≤ 1000000000) (h1 : 1 ≤ n1 ∧ n1 ≤ 1000000000) (h2 : 1 ≤ n2 ∧ n2 ≤ 1000000000) (h3 : 1 ≤ n3 ∧ n3 ≤ 1000000000) :
    (n0 = 1 ∧ n1 = 1 ∧ n2 = 1 ∧ n3 = 1 ∧ Ev (fun k => spec_l10Prime.f k [(n0 : Int), n1, n2, n3]) 0) ∨
    ∃ p : Nat, Prm p ∧ (p ∣ n0 ∨ p ∣ n1 ∨ p ∣ n2 ∨ p ∣ n3) ∧ Ev (fun k => spec_l10Prime.f k [(n0 : Int), n1, n2, n3]) (p : Int) := by
  have r0 : rd [(n0 : Int), n1, n2, n3] ((0 : Nat) : Int) = n0 := rfl
  have r1 : rd [(n0 : Int), n1, n2, n3] ((1 : Nat) : Int) = n1 := rfl
  have r2 : rd [(n0 : Int), n1, n2, n3] ((2 : Nat) : Int) = n2 := rfl
  have r3 : rd [(n0 : Int), n1, n2, n3] ((3 : Nat) : Int) = n3 := rfl
  have hcase : ∀ j : Nat, j < ([(n0 : Int), n1, n2, n3] : List Int).length → j = 0 ∨ j = 1 ∨ j = 2 ∨ j = 3 := fun j hj => by
    simp at hj; omega
  rcases prime_l0 [(n0 : Int), n1, n2, n3] (fun i hi => by
    rcases hcase i hi with rfl | rfl | rfl | rfl
    · exact ⟨n0, r0, h0⟩
    · exact ⟨n1, r1, h1⟩
    · exact ⟨n2, r2, h2⟩
    · exact ⟨n3, r3, h3⟩) (by simp) 4 0 (by simp) (fun j hj => by omega) with ⟨ha, hb⟩ | ⟨p, hp, ⟨j, n, hj, hn, hd⟩, hb⟩
  · left
    have a0 := ha 0 (by simp)
    have a1 := ha 1 (by simp)
    have a2 := ha 2 (by simp)
    have a3 := ha 3 (by simp)
    rw [r0] at a0; rw [r1] at a1; rw [r2] at a2; rw [r3] at a3
    exact ⟨by omega, by omega, by omega, by omega, hb⟩
  · right
    refine ⟨p, hp, ?_, hb⟩
    rcases hcase j hj with rfl | rfl | rfl | rfl
    · rw [r0] at hn; obtain rfl : n0 = n := by omega
      exact .inl hd
    · rw [r1] at hn; obtain rfl : n1 = n := by omega
      exact .inr (.inl hd)
    · rw [r2] at hn; obtain rfl : n2 = n := by omega
      exact .inr (.inr (.inl hd))
    · rw [r3] at hn; obtain rfl : n3 = n := by omega
      exact .inr (.inr (.inr hd))
end Go.Proofs.Ytaplebckjbbobaa.FracMath
