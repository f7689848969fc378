/- One times a small number. -/
import Derived.Test.YtaplebckjbbobaaBase
set_option linter.unusedSimpArgs false
namespace Go.Proofs.Ytaplebckjbbobaa.Grd
open Go.RowKit Bs

set_option maxHeartbeats 4000000 in
theorem mul_one (m : Nat) (hm : m ≤ 14) (w : World) : Calls Try.prog 103 #[.int .u64 1, .int .u64 (m : Int)] w fun e w' => e = .returned (.tuple #[.int .u64 0, .int .u64 (m : Int)]) ∧ w' = w := by
  have h : m = 0 ∨ m = 1 ∨ m = 2 ∨ m = 3 ∨ m = 4 ∨ m = 5 ∨ m = 6 ∨ m = 7 ∨ m = 8 ∨ m = 9 ∨ m = 10 ∨ m = 11 ∨ m = 12 ∨ m = 13 ∨ m = 14 := by omega
  rcases h with rfl | rfl | rfl | rfl | rfl | rfl | rfl | rfl | rfl | rfl | rfl | rfl | rfl | rfl | rfl
  all_goals
    go_enter Try.func103, Try.ntmps103
    go_wp2
    exact bodyPost_ret (results_tmp2 rfl _ _ _) rfl ⟨rfl, rfl⟩

end Go.Proofs.Ytaplebckjbbobaa.Grd
