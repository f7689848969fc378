/- The two gcd functions return the greatest common divisor and change nothing. -/
import Derived.Test.YtaplebckjbbobaaProg
import Derived.WalkKit
import Derived.KernelRfl
import Derived.RowKit
import Derived.IntWalk
import Derived.Lib.Hide
import Derived.Outline
import Derived.Deep.QuietTactic
import Derived.BigQuiet
import Derived.Laws.BitsLemmas
import Derived.WalkLawsBesides
namespace Go.Proofs.Ytaplebckjbbobaa
open Go.RowKit

theorem ret_int {k : IntKind} {a b : Int} (h : a = b) : Ending.returned (.int k a) = .returned (.int k b) := by rw [h]
theorem gcd_tmod (a b : Int) : Int.gcd b (a.tmod b) = Int.gcd a b := by
  rw [Int.gcd_comm a b]
  simp only [Int.gcd, Int.natAbs_tmod]
  rw [Nat.gcd_rec b.natAbs a.natAbs, Nat.gcd_comm]
theorem gcd_zero_abs (a : Int) : (Int.gcd a 0 : Int) = if a < -a then -a else a := by
  simp [Int.gcd]; split <;> omega
theorem tmod_bd (a b : Int) (hb : b ≠ 0) : (a.tmod b).natAbs < b.natAbs := by
  rw [Int.natAbs_tmod]; exact Nat.mod_lt _ (by omega)

set_option maxHeartbeats 400000 in
theorem impl_gcd_any (a b : Int) (w : World) (ha : -4611686018427387904 ≤ a) (ha' : a ≤ 4611686018427387904) (hb : -4611686018427387904 ≤ b) (hb' : b ≤ 4611686018427387904) :
    Calls Try.prog 87 #[.int .i64 a, .int .i64 b] w fun e w' => e = .returned (.int .i64 (Int.gcd a b)) ∧ ∃ n, w' = w.drewN n := by
  go_enter Try.func87, Try.ntmps87
  go_wp2
  go_loopw [0, 1] (fun x y wr => ∃ (a1 b1 : Int) (n : Nat), x = .int .i64 a1 ∧ y = .int .i64 b1 ∧ wr = w.drewN n ∧ Int.gcd a1 b1 = Int.gcd a b ∧ -4611686018427387904 ≤ a1 ∧ a1 ≤ 4611686018427387904 ∧ -4611686018427387904 ≤ b1 ∧ b1 ≤ 4611686018427387904) (fun _ y _ => (intOf y).natAbs)
  case atStart => exact ⟨a, b, 0, rfl, rfl, rfl, rfl, ha, ha', hb, hb'⟩
  case round =>
    obtain ⟨a1, b1, n, rfl, rfl, rfl, hg, h1, h2, h3, h4⟩ := hrel
    by_cases hz : b1 = 0
    · subst hz
      have hE : (Int.gcd a b : Int) = if a1 < -a1 then -a1 else a1 := by rw [← hg]; exact gcd_zero_abs a1
      have HE := Lib.hid hE
      clear hg hE
      go_wp2
      all_goals
        go_ret
        refine ⟨?_, n, rfl⟩
        refine ret_int ?_
        rw [HE.out]
        split <;> omega
    · have HG := Lib.hid hg
      clear hg
      have hz1 : (b1 != 0) = true := by simpa using hz
      have hz2 : (b1 == 0) = false := by simpa using hz
      go_wp2
      go_quiet (fail)
      go_wp2
      go_roundw
      case rel => exact ⟨b1, a1.tmod b1, n + nq, rfl, rfl, World.drewN_drewN _ _ _, by rw [gcd_tmod]; exact HG.out, h3, h4, by have := tmod_bd a1 b1 hz; omega, by have := tmod_bd a1 b1 hz; omega⟩
      case measure => simp [intOf]; exact Nat.mod_lt _ (by omega)
set_option maxHeartbeats 400000 in
theorem spec_gcd_any (a b : Int) (w : World) (ha : -4611686018427387904 ≤ a) (ha' : a ≤ 4611686018427387904) (hb : -4611686018427387904 ≤ b) (hb' : b ≤ 4611686018427387904) :
    Calls Try.prog 100 #[.int .i64 a, .int .i64 b] w fun e w' => e = .returned (.int .i64 (Int.gcd a b)) ∧ ∃ n, w' = w.drewN n := by
  go_enter Try.func100, Try.ntmps100
  go_wp2
  go_loopw [0, 1] (fun x y wr => ∃ (a1 b1 : Int) (n : Nat), x = .int .i64 a1 ∧ y = .int .i64 b1 ∧ wr = w.drewN n ∧ Int.gcd a1 b1 = Int.gcd a b ∧ -4611686018427387904 ≤ a1 ∧ a1 ≤ 4611686018427387904 ∧ -4611686018427387904 ≤ b1 ∧ b1 ≤ 4611686018427387904) (fun _ y _ => (intOf y).natAbs)
  case atStart => exact ⟨a, b, 0, rfl, rfl, rfl, rfl, ha, ha', hb, hb'⟩
  case round =>
    obtain ⟨a1, b1, n, rfl, rfl, rfl, hg, h1, h2, h3, h4⟩ := hrel
    by_cases hz : b1 = 0
    · subst hz
      have hE : (Int.gcd a b : Int) = if a1 < -a1 then -a1 else a1 := by rw [← hg]; exact gcd_zero_abs a1
      have HE := Lib.hid hE
      clear hg hE
      go_wp2
      all_goals
        go_ret
        refine ⟨?_, n, rfl⟩
        refine ret_int ?_
        rw [HE.out]
        split <;> omega
    · have HG := Lib.hid hg
      clear hg
      have hz1 : (b1 != 0) = true := by simpa using hz
      have hz2 : (b1 == 0) = false := by simpa using hz
      go_wp2
      go_roundw
      case rel => exact ⟨b1, a1.tmod b1, n, rfl, rfl, rfl, by rw [gcd_tmod]; exact HG.out, h3, h4, by have := tmod_bd a1 b1 hz; omega, by have := tmod_bd a1 b1 hz; omega⟩
      case measure => simp [intOf]; exact Nat.mod_lt _ (by omega)
end Go.Proofs.Ytaplebckjbbobaa
