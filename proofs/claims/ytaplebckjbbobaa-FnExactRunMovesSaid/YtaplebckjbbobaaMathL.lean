/- The plain law of the program's 'lowest': common divisors taken away pair by pair leave the fraction in least terms. -/
import Derived.Test.YtaplebckjbbobaaMathF
import Derived.Test.YtaplebckjbbobaaPFnExactMoveFractionx7
namespace Go.Proofs.Ytaplebckjbbobaa.FracMath
open Go.RowKit Go.Proofs.YtaplebckjbbobaaW.PrintWords Go.Proofs.YtaplebckjbbobaaW.PrintMore PFnExactMoveFraction

def prodI : List Int → Int
  | [] => 1
  | a :: l => a * prodI l
theorem prodI_append (a b : List Int) : prodI (a ++ b) = prodI a * prodI b := by
  induction a with
  | nil => simp [prodI]
  | cons x a ih => simp only [List.cons_append, prodI, ih, Int.mul_assoc]
theorem prodI_set : ∀ (l : List Int) (i : Nat) (v : Int), i < l.length → prodI (l.set i v) = v * prodI (l.set i 1)
  | [], _, _, h => by simp at h
  | a :: l, 0, v, _ => by simp [prodI]
  | a :: l, i + 1, v, h => by
    simp only [List.set_cons_succ, prodI]
    rw [prodI_set l i v (by simpa using h)]
    exact Int.mul_left_comm _ _ _
theorem prodI_get (l : List Int) (i : Nat) (h : i < l.length) : prodI l = l.getD i 0 * prodI (l.set i 1) := by
  rw [← prodI_set l i _ h]
  congr 1
  apply List.ext_getElem?
  intro q
  by_cases hq : q = i
  · subst hq; rw [List.getElem?_set_self h]; simp [List.getD, h]
  · rw [List.getElem?_set_ne (Ne.symm hq)]

structure LInv (A0 B0 A B : List Int) (i k : Nat) : Prop where
  la : A.length = A0.length
  lb : B.length = B0.length
  same : ∃ c : Int, c ≠ 0 ∧ prodI A0 = c * prodI A ∧ prodI B0 = c * prodI B
  ba : ∀ j, j < A.length → (A.getD j 0).natAbs ≤ 2000000000
  bb : ∀ j, j < B.length → (B.getD j 0).natAbs ≤ 2000000000 ∧ B.getD j 0 ≠ 0
  cop : ∀ j l, j < A.length → l < B.length → (j < i ∨ (j = i ∧ l < k)) → Int.gcd (A.getD j 0) (B.getD l 0) = 1

theorem LInv.start {A B : List Int} (ha : ∀ j, j < A.length → (A.getD j 0).natAbs ≤ 2000000000) (hb : ∀ j, j < B.length → (B.getD j 0).natAbs ≤ 2000000000 ∧ B.getD j 0 ≠ 0) : LInv A B A B 0 0 :=
  ⟨rfl, rfl, ⟨1, by decide, by simp, by simp⟩, ha, hb, fun j l _ _ h => by omega⟩
theorem LInv.next {A0 B0 A B : List Int} {i : Nat} (h : LInv A0 B0 A B i B.length) : LInv A0 B0 A B (i + 1) 0 :=
  ⟨h.la, h.lb, h.same, h.ba, h.bb, fun j l h1 h2 h3 => h.cop j l h1 h2 (by omega)⟩

theorem getD_set (l : List Int) (i j : Nat) (v : Int) (hi : i < l.length) : (l.set i v).getD j 0 = if j = i then v else l.getD j 0 := by
  by_cases h : j = i
  · subst h; rw [if_pos rfl]; simp [List.getD, hi]
  · rw [if_neg h]; simp [List.getD, List.getElem?_set_ne (Ne.symm h)]

theorem gcd_div {a b : Int} (hb : b ≠ 0) : ∃ d x y : Int, d ≠ 0 ∧ (Int.gcd a b : Int) = d ∧ a = d * x ∧ b = d * y ∧ Int.gcd x y = 1 ∧ Int.tdiv a d = x ∧ Int.tdiv b d = y ∧ y ≠ 0 := by
  have hg : Int.gcd a b ≠ 0 := by intro h; rw [Int.gcd_eq_zero_iff] at h; exact hb h.2
  obtain ⟨x, y, h1, h2, h3⟩ := gcd_split a b hg
  generalize hgd : Int.gcd a b = g at *
  have hg0 : (g : Int) ≠ 0 := by omega
  exact ⟨g, x, y, hg0, rfl, h1, h2, h3, by rw [h1, Int.mul_tdiv_cancel_left _ hg0], by rw [h2, Int.mul_tdiv_cancel_left _ hg0], by rintro rfl; rw [Int.mul_zero] at h2; exact hb h2⟩

theorem cop_dvd {a x b : Int} (h : Int.gcd a b = 1) {d : Int} (e : a = d * x) : Int.gcd x b = 1 := by
  subst e; exact icop_right h

theorem LInv.step {A0 B0 A B : List Int} {i k : Nat} (h : LInv A0 B0 A B i k) (hi : i < A.length) (hk : k < B.length) :
    (Int.gcd (A.getD i 0) (B.getD k 0) : Int) ≠ 0 ∧ bd (Int.tdiv (A.getD i 0) (Int.gcd (A.getD i 0) (B.getD k 0))) ∧ bd (Int.tdiv (B.getD k 0) (Int.gcd (A.getD i 0) (B.getD k 0))) ∧
    LInv A0 B0 (A.set i (Int.tdiv (A.getD i 0) (Int.gcd (A.getD i 0) (B.getD k 0)))) (B.set k (Int.tdiv (B.getD k 0) (Int.gcd (A.getD i 0) (B.getD k 0)))) i (k + 1) := by
  obtain ⟨hbb, hb0⟩ := h.bb k hk
  have hba := h.ba i hi
  obtain ⟨d, x, y, hd, hgd, hx, hy, hxy, tx, ty, hy0⟩ := gcd_div (a := A.getD i 0) hb0
  rw [hgd, tx, ty]
  have lx : x.natAbs ≤ 2000000000 := by have := abs_le_mul (x := x) hd; rw [← hx] at this; omega
  have ly : y.natAbs ≤ 2000000000 := by have := abs_le_mul (x := y) hd; rw [← hy] at this; omega
  refine ⟨hd, bd_of (by omega), bd_of (by omega), ⟨by rw [List.length_set]; exact h.la, by rw [List.length_set]; exact h.lb, ?_, ?_, ?_, ?_⟩⟩
  · obtain ⟨c, hc, e1, e2⟩ := h.same
    refine ⟨c * d, Int.mul_ne_zero hc hd, ?_, ?_⟩
    · rw [e1, prodI_get A i hi, prodI_set A i x hi, hx]
      generalize prodI (A.set i 1) = P
      have : (d * x).tdiv d = x := Int.mul_tdiv_cancel_left _ hd
      grind
    · rw [e2, prodI_get B k hk, prodI_set B k y hk, hy]
      generalize prodI (B.set k 1) = P
      grind
  · intro j hj
    rw [getD_set A i j x hi]
    split
    · exact lx
    · exact h.ba j (by simpa using hj)
  · intro j hj
    rw [getD_set B k j y hk]
    split
    · exact ⟨ly, hy0⟩
    · exact h.bb j (by simpa using hj)
  · intro j l hj hl hjl
    rw [List.length_set] at hj hl
    rw [getD_set A i j x hi, getD_set B k l y hk]
    by_cases h1 : j = i
    · rw [if_pos h1]
      by_cases h2 : l = k
      · rw [if_pos h2]; exact hxy
      · rw [if_neg h2]
        exact cop_dvd (h.cop i l hi hl (by omega)) hx
    · rw [if_neg h1]
      by_cases h2 : l = k
      · rw [if_pos h2]
        have := h.cop j k hj hk (by omega)
        rw [Int.gcd_comm] at this ⊢
        exact cop_dvd this hy
      · rw [if_neg h2]; exact h.cop j l hj hl (by omega)

theorem prodI_cop_one {b : Int} : ∀ l : List Int, (∀ j, j < l.length → Int.gcd (l.getD j 0) b = 1) → Int.gcd (prodI l) b = 1
  | [], _ => by simp [prodI, Int.gcd]
  | a :: l, h => by
    simp only [prodI]
    refine icop_mul ?_ (prodI_cop_one l fun j hj => ?_)
    · simpa using h 0 (by simp)
    · simpa using h (j + 1) (by simpa using hj)
theorem prodI_cop {A B : List Int} (h : ∀ j l, j < A.length → l < B.length → Int.gcd (A.getD j 0) (B.getD l 0) = 1) : Int.gcd (prodI A) (prodI B) = 1 := by
  refine prodI_cop_one A fun j hj => ?_
  rw [Int.gcd_comm]
  refine prodI_cop_one B fun l hl => ?_
  rw [Int.gcd_comm]
  exact h j l hj hl
theorem prodI_ne {B : List Int} : (∀ j, j < B.length → B.getD j 0 ≠ 0) → prodI B ≠ 0 := by
  induction B with
  | nil => intro _; decide
  | cons a l ih =>
    intro h
    simp only [prodI]
    refine Int.mul_ne_zero (by simpa using h 0 (by simp)) (ih fun j hj => ?_)
    simpa using h (j + 1) (by simpa using hj)

/-- At the end: the fraction in least terms, but for the sign of both parts. -/
theorem LInv.done {A0 B0 A B : List Int} {i k : Nat} (h : LInv A0 B0 A B i k) (hi : A.length ≤ i) {N D : Int} (hD : 0 < D) (hc : Int.gcd N D = 1) (hr : N * prodI B0 = prodI A0 * D) :
    prodI B ≠ 0 ∧ ((0 < prodI B ∧ prodI A = N ∧ prodI B = D) ∨ (prodI B < 0 ∧ prodI A = -N ∧ prodI B = -D)) := by
  have hB := prodI_ne (fun j hj => (h.bb j hj).2)
  have hcop := prodI_cop (A := A) (B := B) (fun j l hj hl => h.cop j l hj hl (by omega))
  obtain ⟨c, hc0, e1, e2⟩ := h.same
  have hr2 : N * prodI B = prodI A * D := by
    rw [e1, e2] at hr
    refine Int.eq_of_mul_eq_mul_left hc0 ?_
    generalize prodI A = P at *
    generalize prodI B = Q at *
    grind
  refine ⟨hB, ?_⟩
  by_cases hp : 0 < prodI B
  · obtain ⟨h1, h2⟩ := int_red_unique hcop hc hp hD hr2.symm
    exact .inl ⟨hp, h1, h2⟩
  · obtain ⟨h1, h2⟩ := int_red_unique (n1 := -prodI A) (d1 := -prodI B) (by simpa using hcop) hc (by omega) hD (by
      rw [Int.neg_mul, Int.mul_neg, hr2])
    exact .inr ⟨by omega, by omega, by omega⟩

/-! ### the product of a list, and whether 0 is in it, as the program finds them -/
theorem prod_l0 (l : List Int) (hl : l.length ≤ 100000) (hb : ∀ j, j < l.length → (l.getD j 0).natAbs ≤ 2000000000 ∧ l.getD j 0 ≠ 0) :
    ∀ (d i : Nat) (t : Int), l.length - i ≤ d → i ≤ l.length → t ≠ 0 → t.natAbs ≤ 1000000000 →
      Ev (fun k => impl_product.l0 k t l (l.length : Int) i) (if (t * prodI (l.drop i)).natAbs ≤ 1000000000 then (t * prodI (l.drop i), true) else (0, false)) := by
  intro d
  induction d with
  | zero =>
    intro i t hd hi ht0 ht
    obtain rfl : i = l.length := by omega
    rw [List.drop_length]
    simp only [prodI, Int.mul_one]
    rw [if_pos ht]
    refine Ev.to (fun k => ?_) (Ev.now _)
    simp only [impl_product.l0]
    rw [if_neg (by omega)]
  | succ d ih =>
    intro i t hd hi ht0 ht
    by_cases hlt : i < l.length
    · obtain ⟨hb1, hb0⟩ := hb i hlt
      have hdrop : prodI (l.drop i) = l.getD i 0 * prodI (l.drop (i + 1)) := by
        rw [List.drop_eq_getElem_cons hlt]; simp [prodI, List.getD, hlt]
      have hrd : rd l (i : Int) = l.getD i 0 := rd_nat l i
      have hm : (t * l.getD i 0).natAbs ≤ 1000000000 * 2000000000 := by rw [Int.natAbs_mul]; exact Nat.mul_le_mul ht hb1
      have hw : wrap64 (t * rd l (i : Int)) = t * l.getD i 0 := by rw [hrd]; exact w64 (bd_of (by omega))
      have hne : t * l.getD i 0 ≠ 0 := Int.mul_ne_zero ht0 hb0
      rw [hdrop, ← Int.mul_assoc]
      by_cases hfit : (t * l.getD i 0).natAbs ≤ 1000000000
      · refine Ev.to (fun k => ?_) (ih (i + 1) (t * l.getD i 0) (by omega) (by omega) hne hfit)
        simp only [impl_product.l0]
        rw [if_pos (by omega), if_pos (by omega), if_pos (by omega), hw, if_neg (by omega), if_neg (by omega), w64' (a := (i : Int) + 1) (by omega) (by omega)]
        rfl
      · have hrest : prodI (l.drop (i + 1)) ≠ 0 := by
          refine prodI_ne fun j hj => ?_
          have := (hb (i + 1 + j) (by simp at hj; omega)).2
          simpa [List.getD, List.getElem?_drop] using this
        rw [if_neg (by
          rw [Int.natAbs_mul]
          have : (t * l.getD i 0).natAbs * 1 ≤ (t * l.getD i 0).natAbs * (prodI (l.drop (i + 1))).natAbs := Nat.mul_le_mul_left _ (by omega)
          omega)]
        refine Ev.to (f := fun _ => some (0, false)) (fun k => ?_) (Ev.now _)
        simp only [impl_product.l0]
        rw [if_pos (by omega), if_pos (by omega), if_pos (by omega), hw]
        by_cases hpos : t * l.getD i 0 > 1000000000
        · rw [if_pos hpos]
        · rw [if_neg hpos, if_pos (by omega)]
    · obtain rfl : i = l.length := by omega
      rw [List.drop_length]
      simp only [prodI, Int.mul_one]
      rw [if_pos ht]
      refine Ev.to (fun k => ?_) (Ev.now _)
      simp only [impl_product.l0]
      rw [if_neg (by omega)]
theorem prod_ev (l : List Int) (hl : l.length ≤ 100000) (hb : ∀ j, j < l.length → (l.getD j 0).natAbs ≤ 2000000000 ∧ l.getD j 0 ≠ 0) :
    ∃ k, impl_product.f k l = some (if (prodI l).natAbs ≤ 1000000000 then prodI l else 0, decide ((prodI l).natAbs ≤ 1000000000)) := by
  have h := prod_l0 l hl hb l.length 0 1 (by omega) (by omega) (by decide) (by decide)
  rw [List.drop_zero, Int.one_mul] at h
  obtain ⟨k, hk⟩ := h.rounds
  refine ⟨k, ?_⟩
  unfold impl_product.f
  rw [show (0 : Int) = ((0 : Nat) : Int) from rfl, hk]
  split <;> simp_all

theorem index_l0 (l : List Int) (hl : l.length ≤ 100000) : ∀ (d i : Nat), l.length - i ≤ d → ∃ r : Int, (0 ≤ r ↔ (0 : Int) ∈ l.drop i) ∧ Ev (fun k => slices_Index_int64_int64.l0 k l 0 (l.length : Int) i) r := by
  intro d
  induction d with
  | zero =>
    intro i hd
    refine ⟨-1, by rw [List.drop_eq_nil_of_le (by omega)]; simp, Ev.to (f := fun _ => some (-1)) (fun k => ?_) (Ev.now _)⟩
    simp only [slices_Index_int64_int64.l0]
    rw [if_neg (by omega)]
  | succ d ih =>
    intro i hd
    by_cases hlt : i < l.length
    · have hrd : rd l (i : Int) = l[i] := by rw [rd_nat]; simp [List.getD, hlt]
      by_cases hz : (0 : Int) = l[i]
      · refine ⟨i, ?_, Ev.to (f := fun _ => some (i : Int)) (fun k => ?_) (Ev.now _)⟩
        · rw [List.drop_eq_getElem_cons hlt, ← hz]; simp
        · simp only [slices_Index_int64_int64.l0]
          rw [if_pos (by omega), if_pos (by omega), if_pos (by omega), hrd, if_pos hz]
      · obtain ⟨r, h1, h2⟩ := ih (i + 1) (by omega)
        refine ⟨r, ?_, Ev.to (fun k => ?_) h2⟩
        · rw [h1, List.drop_eq_getElem_cons hlt, List.mem_cons]; exact ⟨.inr, fun h => h.resolve_left hz⟩
        · simp only [slices_Index_int64_int64.l0]
          rw [if_pos (by omega), if_pos (by omega), if_pos (by omega), hrd, if_neg hz, w64' (a := (i : Int) + 1) (by omega) (by omega)]
          rfl
    · refine ⟨-1, by rw [List.drop_eq_nil_of_le (by omega)]; simp, Ev.to (f := fun _ => some (-1)) (fun k => ?_) (Ev.now _)⟩
      simp only [slices_Index_int64_int64.l0]
      rw [if_neg (by omega)]
theorem contains_ev (l : List Int) (hl : l.length ≤ 100000) : ∃ k, slices_Contains_int64_int64.f k l 0 = some (decide ((0 : Int) ∈ l)) := by
  obtain ⟨r, h1, h2⟩ := index_l0 l hl l.length 0 (by omega)
  obtain ⟨k, hk⟩ := h2.rounds
  refine ⟨k, ?_⟩
  unfold slices_Contains_int64_int64.f slices_Index_int64_int64.f
  have hk' : slices_Index_int64_int64.l0 k l 0 (l.length : Int) 0 = some r := hk
  rw [hk']
  simp only [Option.bind_some]
  rw [List.drop_zero] at h1
  congr 1
  exact decide_eq_decide.2 h1
theorem prodI_zero {l : List Int} : (0 : Int) ∈ l ↔ prodI l = 0 := by
  induction l with
  | nil => simp [prodI]
  | cons a l ih =>
    simp only [List.mem_cons, prodI, Int.mul_eq_zero, ih]
    constructor
    · rintro (h | h)
      · exact .inl h.symm
      · exact .inr h
    · rintro (h | h)
      · exact .inl h.symm
      · exact .inr h
theorem ne_of_not_mem {l : List Int} (h : ¬ (0 : Int) ∈ l) (j : Nat) (hj : j < l.length) : l.getD j 0 ≠ 0 := by
  intro e
  apply h
  simp [List.getD, hj] at e
  rw [← e]; exact List.getElem_mem hj
end Go.Proofs.Ytaplebckjbbobaa.FracMath
