/- The two checks of a move, and its degree. -/
import Derived.Test.YtaplebckjbbobaaPassB
set_option linter.unusedSimpArgs false
namespace Go.Proofs.Ytaplebckjbbobaa.Grd
open Go.RowKit Bs

def Mv (m0 m1 m2 : Int) : Prop := (m0 = 2 ∧ 1 ≤ m1 ∧ m1 ≤ 20 ∧ 1 ≤ m2 ∧ m2 ≤ 20) ∨ ((m0 = 0 ∨ m0 = 1) ∧ m1 = 0 ∧ m2 = 0)
instance (a b c : Int) : Decidable (Mv a b c) := by unfold Mv; infer_instance

theorem in_any (a l h : Int) (w : World) : Calls Try.prog 88 #[.int .i64 a, .int .i64 l, .int .i64 h] w fun e w' => e = .returned (.bool (decide (l ≤ a ∧ a ≤ h))) ∧ w = w' := by
  by_cases h1 : l ≤ a
  · have hd := decide_eq_true h1
    have e1 : decide (l ≤ a ∧ a ≤ h) = decide (a ≤ h) := decide_eq_decide.2 ⟨fun x => x.2, fun x => ⟨h1, x⟩⟩
    rw [e1]
    clear e1
    go_enter Try.func88, Try.ntmps88
    go_wp2
    go_ret
    exact ⟨rfl, rfl⟩
  · have hd := decide_eq_false h1
    have e1 : decide (l ≤ a ∧ a ≤ h) = false := decide_eq_false fun x => h1 x.1
    rw [e1]
    clear e1
    go_enter Try.func88, Try.ntmps88
    go_wp2
    go_ret
    exact ⟨rfl, rfl⟩

set_option maxHeartbeats 1000000 in
theorem specMove_any (m0 m1 m2 : Int) (w : World) : Calls Try.prog 65 #[.agg #[.int .i64 m0, .int .i64 m1, .int .i64 m2]] w fun e w' => e = .returned (.bool (decide (Mv m0 m1 m2))) ∧ Below w.heap.size w w' := by
  have C1 := Lib.hid (fun W => in_any m1 1 20 W)
  have C2 := Lib.hid (fun W => in_any m2 1 20 W)
  have two : ∀ b : Bool, (b = true ↔ Mv m0 m1 m2) → decide (Mv m0 m1 m2) = b := fun b hb => by cases b <;> simp_all
  by_cases h01 : m0 = 0 ∨ m0 = 1
  · by_cases h1 : m1 = 0
    · rw [two (m2 == 0) (by unfold Mv; simp; omega)]
      clear two
      subst h1
      rcases h01 with rfl | rfl
      all_goals
        go_enter Try.func65, Try.ntmps65
        go_wp2
        go_ret
        exact ⟨rfl, below_alloc (Below.refl _ _) _⟩
    · rw [two false (by unfold Mv; simp; omega)]
      have h2 : (m1 == 0) = false := by simpa using h1
      clear two
      rcases h01 with rfl | rfl
      all_goals
        go_enter Try.func65, Try.ntmps65
        go_wp2
        go_ret
        exact ⟨rfl, below_alloc (Below.refl _ _) _⟩
  · have e0 : (m0 == 0) = false := by simp; omega
    have e1 : (m0 == 1) = false := by simp; omega
    by_cases h2 : m0 = 2
    · subst h2
      by_cases h3 : 1 ≤ m1 ∧ m1 ≤ 20
      · rw [decide_eq_true h3] at C1
        rw [two (decide (1 ≤ m2 ∧ m2 ≤ 20)) (by unfold Mv; simp; omega)]
        clear two h3 h01
        go_enter Try.func65, Try.ntmps65
        go_wp2_with fail
        refine (C1.out _).mono ?_
        rintro e w1 ⟨rfl, rfl⟩
        go_wp2_with fail
        refine (C2.out _).mono ?_
        rintro e w1 ⟨rfl, rfl⟩
        go_wp2
        go_ret
        exact ⟨by simp, below_alloc (Below.refl _ _) _⟩
      · rw [decide_eq_false h3] at C1
        rw [two false (by unfold Mv; simp; omega)]
        clear two h3 h01
        go_enter Try.func65, Try.ntmps65
        go_wp2_with fail
        refine (C1.out _).mono ?_
        rintro e w1 ⟨rfl, rfl⟩
        go_wp2
        go_ret
        exact ⟨rfl, below_alloc (Below.refl _ _) _⟩
    · have e2 : (m0 == 2) = false := by simpa using h2
      rw [two false (by unfold Mv; simp; omega)]
      clear two h2 h01
      go_enter Try.func65, Try.ntmps65
      go_wp2
      go_ret
      exact ⟨rfl, below_alloc (Below.refl _ _) _⟩

set_option maxHeartbeats 1000000 in
theorem isMove_any (m0 m1 m2 : Int) (w : World) : Calls Try.prog 47 #[.agg #[.int .i64 m0, .int .i64 m1, .int .i64 m2]] w fun e w' => e = .returned (.bool (decide (Mv m0 m1 m2))) ∧ Below w.heap.size w w' := by
  have two : ∀ b : Bool, (b = true ↔ Mv m0 m1 m2) → decide (Mv m0 m1 m2) = b := fun b hb => by cases b <;> simp_all
  by_cases h2 : m0 = 2
  · rw [two (decide (1 ≤ m1 ∧ m1 ≤ 20 ∧ 1 ≤ m2 ∧ m2 ≤ 20)) (by unfold Mv; simp; omega)]
    clear two
    subst h2
    go_enter Try.func47, Try.ntmps47
    go_wp2
    all_goals
      go_ret
      refine ⟨?_, below_alloc (Below.refl _ _) _⟩
      refine congrArg Ending.returned (congrArg Value.bool ?_)
      rw [Bool.eq_iff_iff]
      simp
      try omega
  · have e2 : (m0 == 2) = false := by simpa using h2
    by_cases h01 : m0 = 0 ∨ m0 = 1
    · rw [two (decide (m1 = 0 ∧ m2 = 0)) (by unfold Mv; simp; omega)]
      clear two
      rcases h01 with rfl | rfl
      all_goals
        go_enter Try.func47, Try.ntmps47
        go_wp2
      all_goals
        go_ret
        refine ⟨?_, below_alloc (Below.refl _ _) _⟩
        refine congrArg Ending.returned (congrArg Value.bool ?_)
        rw [Bool.eq_iff_iff]
        simp
        try omega
    · rw [two false (by unfold Mv; simp; omega)]
      have e0 : (m0 == 0) = false := by simp; omega
      have e1 : (m0 == 1) = false := by simp; omega
      clear two h01
      go_enter Try.func47, Try.ntmps47
      go_wp2
      go_ret
      exact ⟨rfl, below_alloc (Below.refl _ _) _⟩
theorem degree_any (m0 m1 m2 : Int) (w : World) : Calls Try.prog 73 #[.agg #[.int .i64 m0, .int .i64 m1, .int .i64 m2]] w fun e w' => e = .returned (.int .i64 (max (wrap64 (m1 + m2)) 1)) ∧ Below w.heap.size w w' := by
  go_enter Try.func73, Try.ntmps73
  go_wp2
  all_goals
    go_ret
    refine ⟨congrArg Ending.returned (congrArg (Value.int IntKind.i64) ?_), below_alloc (Below.refl _ _) _⟩
    try simp only [Array.getD_eq_getD_getElem?]
    omega
theorem spec_degree_any (m0 m1 m2 : Int) (w : World) : Calls Try.prog 72 #[.agg #[.int .i64 m0, .int .i64 m1, .int .i64 m2]] w fun e w' => e = .returned (.int .i64 (max 1 (wrap64 (m1 + m2)))) ∧ Below w.heap.size w w' := by
  go_enter Try.func72, Try.ntmps72
  go_wp2
  all_goals
    go_ret
    refine ⟨congrArg Ending.returned (congrArg (Value.int IntKind.i64) ?_), below_alloc (Below.refl _ _) _⟩
    try simp only [Array.getD_eq_getD_getElem?]
    omega
end Go.Proofs.Ytaplebckjbbobaa.Grd
