/- The program's 'move' returns the value of a move in least terms, or the limit's code where a part of it is too great. -/
import Derived.Test.YtaplebckjbbobaaLow
namespace Go.Proofs.Ytaplebckjbbobaa.Low
open Go.RowKit Go.Proofs.YtaplebckjbbobaaW.PrintWords Go.Proofs.YtaplebckjbbobaaW.PrintMore FracMath PFnExactMoveFraction

theorem xy_cases {m0 m1 m2 p q N D : Int} (hv : IsVal m0 m1 m2 p q N D) (h : mvXY m0 m1 m2 p q = (1, 0)) : N = 1 ∧ D = 0 ∧ Fits N D := by
  have hr := hv.rel
  rw [h] at hr
  have hD : D = 0 := by simp at hr; omega
  have hN := hv.inf hD
  subst hN hD
  exact ⟨rfl, rfl, by decide⟩

theorem move_inf (p : Int) (m0 m1 m2 : Int) (h1 : m0 ≠ 1) (w : World) :
    Calls Try.prog 68 #[.agg #[.int .i64 m0, .int .i64 m1, .int .i64 m2], .agg #[.int .i64 p, .int .i64 0]] w fun e w' => e = .returned (.tuple #[.agg #[.int .i64 1, .int .i64 0], .int .i64 0]) ∧ Below w.heap.size w w' := by
  have hu26 := Try.underlying26
  have hm1 : (m0 == 1) = false := by simpa using h1
  go_enter Try.func68, Try.ntmps68
  go_wp2
  refine bodyPost_ret (v := .tuple #[.agg #[.int .i64 1, .int .i64 0], .int .i64 0]) (by simp [results, Try.results68, go_sem]) rfl ⟨rfl, ?_⟩
  repeat (first | exact Below.refl _ _ | (refine Below.setCell ?_ (by simp) _) | (refine Below.alloc ?_ (by simp <;> omega) _) | (refine Below.drew ?_))
theorem move_one_inf (p : Int) (m1 m2 : Int) (w : World) :
    Calls Try.prog 68 #[.agg #[.int .i64 1, .int .i64 m1, .int .i64 m2], .agg #[.int .i64 p, .int .i64 0]] w fun e w' => e = .returned (.tuple #[.agg #[.int .i64 0, .int .i64 1], .int .i64 0]) ∧ Below w.heap.size w w' := by
  have hu26 := Try.underlying26
  go_enter Try.func68, Try.ntmps68
  go_wp2
  refine bodyPost_ret (v := .tuple #[.agg #[.int .i64 0, .int .i64 1], .int .i64 0]) (by simp [results, Try.results68, go_sem]) rfl ⟨rfl, ?_⟩
  repeat (first | exact Below.refl _ _ | (refine Below.setCell ?_ (by simp) _) | (refine Below.alloc ?_ (by simp <;> omega) _) | (refine Below.drew ?_))
theorem move_one_zero (q : Int) (m1 m2 : Int) (w : World) (hq : q ≠ 0) :
    Calls Try.prog 68 #[.agg #[.int .i64 1, .int .i64 m1, .int .i64 m2], .agg #[.int .i64 0, .int .i64 q]] w fun e w' => e = .returned (.tuple #[.agg #[.int .i64 1, .int .i64 0], .int .i64 0]) ∧ Below w.heap.size w w' := by
  have hu26 := Try.underlying26
  have hm1 : (q == 0) = false := by simpa using hq
  go_enter Try.func68, Try.ntmps68
  go_wp2
  refine bodyPost_ret (v := .tuple #[.agg #[.int .i64 1, .int .i64 0], .int .i64 0]) (by simp [results, Try.results68, go_sem]) rfl ⟨rfl, ?_⟩
  repeat (first | exact Below.refl _ _ | (refine Below.setCell ?_ (by simp) _) | (refine Below.alloc ?_ (by simp <;> omega) _) | (refine Below.drew ?_))

theorem Rw.mk {w : World} {base g : Nat} (x : Int) (h : w.heap[g]? = some (.cells #[.int .i64 x] 2 (0, 0))) (hg : base ≤ g) : Rw w base g 1 1 [x] := by
  refine Rw.of (ok := fun _ => True) ?_
  exact Kd.R_of_own ⟨rfl, .inr ⟨g, 1, _, rfl, hg, h, Nat.le_refl _, by unfold maxLen; omega, rfl, rfl⟩⟩ (fun _ _ => trivial)

theorem alloc_at (w : World) (o : Obj) (k : Nat) : (w.alloc o).heap[k]? = if k = w.heap.size then some o else w.heap[k]? := by
  show (w.heap.push o)[k]? = _
  rw [Array.getElem?_push]

theorem red_val {N D : Int} (h0 : 0 ≤ D) (hinf : D = 0 → N = 1) {X Y : Int} (hY : 0 < Y) (h : N * Y = X * D) : 0 < D := by
  rcases Int.lt_or_eq_of_le h0 with hd | hd
  · exact hd
  · exfalso
    rw [hinf hd.symm, ← hd, Int.mul_zero] at h; omega

set_option maxHeartbeats 1000000 in
theorem move_zero (p q : Int) (w : World) (hx : Fr p q) (hq : q ≠ 0) (N D : Int) (hv : IsVal 0 0 0 p q N D) (r1 r2 r3 : Int) (hres : (r1, r2, r3) = if Fits N D then (N, D, 0) else (0, 0, 3)) :
    Calls Try.prog 68 #[.agg #[.int .i64 0, .int .i64 0, .int .i64 0], .agg #[.int .i64 p, .int .i64 q]] w fun e w' => e = .returned (.tuple #[.agg #[.int .i64 r1, .int .i64 r2], .int .i64 r3]) ∧ Below w.heap.size w w' := by
  have hu26 := Try.underlying26
  have hu90 := Try.underlying90
  have hm1 : (q == 0) = false := by simpa using hq
  obtain ⟨b1, b2, b3, b4, b5, b6⟩ := hx
  have hv2 := hv.rel
  unfold mvXY at hv2
  rw [if_neg (by decide), if_neg (by decide), if_neg hq] at hv2
  simp only at hv2
  have hDp := red_val hv.nonneg hv.inf (show 0 < q by omega) hv2
  have HC := Lib.hid (fun (W : World) (h1 : Rw W (w.heap.size + 1 + 1 + 1 + 1) (w.heap.size + 1 + 1 + 1 + 1) 1 1 [q - p]) (h2 : Rw W (w.heap.size + 1 + 1 + 1 + 1) (w.heap.size + 1 + 1 + 1 + 1 + 1) 1 1 [q]) (h3 : w.heap.size + 1 + 1 + 1 + 1 ≤ W.heap.size) => lowest_any W _ _ _ 1 1 1 1 [q - p] [q] h1 h2 (by omega) h3 (by omega) (by omega)
    (fun j hj => by obtain rfl : j = 0 := by simpa using hj
                    simp; omega) (fun j hj => by obtain rfl : j = 0 := by simpa using hj
                                                 simp; omega) N D hDp hv.cop (by simpa [prodI] using hv2) r1 r2 r3 hres)
  clear hv hres hv2 b5 b6
  go_enter Try.func68, Try.ntmps68
  go_wp2_with fail
  refine (HC.out _ (Rw.mk _ (by simp only [alloc_at, World.size_alloc]; simp) (Nat.le_refl _)) (Rw.mk _ (by simp only [alloc_at, World.size_alloc]; simp) (by omega)) (by simp)).mono ?_
  rintro e w1 ⟨rfl, hb⟩
  have hblk : w1.heap[w.heap.size + 1 + 1]? = some (.cells #[.int .i64 0, .int .i64 0] 26 (0, 0)) := (hb.block (w.heap.size + 1 + 1) (by omega)).trans (by simp only [alloc_at, World.size_alloc]; simp)
  have HB : Hid (Below w.heap.size w w1) := Lib.hid (Below.trans (by repeat (first | exact Below.refl _ _ | (refine Below.alloc ?_ (by simp <;> omega) _))) (hb.mono (by omega)))
  clear hb
  have hc0 := blk_cell hblk 0
  have hc1 := blk_cell hblk 1
  have hf0 := blk_frozen hblk 0
  have hf1 := blk_frozen hblk 1
  clear hblk
  go_wp2
  refine bodyPost_ret (v := .tuple #[.agg #[.int .i64 r1, .int .i64 r2], .int .i64 r3]) (by simp [results, Try.results68, go_sem, hc0, hc1]) rfl ⟨rfl, ?_⟩
  exact (HB.out.setCell (by simp <;> omega) _).setCell (by simp <;> omega) _

set_option maxHeartbeats 1000000 in
theorem move_one (p q : Int) (w : World) (hx : Fr p q) (hq : q ≠ 0) (hp : p ≠ 0) (N D : Int) (hv : IsVal 1 0 0 p q N D) (r1 r2 r3 : Int) (hres : (r1, r2, r3) = if Fits N D then (N, D, 0) else (0, 0, 3)) :
    Calls Try.prog 68 #[.agg #[.int .i64 1, .int .i64 0, .int .i64 0], .agg #[.int .i64 p, .int .i64 q]] w fun e w' => e = .returned (.tuple #[.agg #[.int .i64 r1, .int .i64 r2], .int .i64 r3]) ∧ Below w.heap.size w w' := by
  have hu26 := Try.underlying26
  have hu90 := Try.underlying90
  have hm1 : (q == 0) = false := by simpa using hq
  have hm2 : (p == 0) = false := by simpa using hp
  obtain ⟨b1, b2, b3, b4, b5, b6⟩ := hx
  have hv1 := hv.rel
  unfold mvXY at hv1
  rw [if_neg (by decide), if_pos rfl, if_neg hq, if_neg hp] at hv1
  have hv2 : N * p = q * D ∧ 0 < D := by
    by_cases hpn : p < 0
    · rw [if_pos hpn] at hv1
      simp only at hv1
      refine ⟨?_, red_val hv.nonneg hv.inf (show 0 < -p by omega) hv1⟩
      rw [Int.mul_neg, Int.neg_mul] at hv1; omega
    · rw [if_neg hpn] at hv1
      simp only at hv1
      exact ⟨hv1, red_val hv.nonneg hv.inf (show 0 < p by omega) hv1⟩
  obtain ⟨hv2, hDp⟩ := hv2
  have HC := Lib.hid (fun (W : World) (h1 : Rw W (w.heap.size + 1 + 1 + 1 + 1) (w.heap.size + 1 + 1 + 1 + 1) 1 1 [q]) (h2 : Rw W (w.heap.size + 1 + 1 + 1 + 1) (w.heap.size + 1 + 1 + 1 + 1 + 1) 1 1 [p]) (h3 : w.heap.size + 1 + 1 + 1 + 1 ≤ W.heap.size) => lowest_any W _ _ _ 1 1 1 1 [q] [p] h1 h2 (by omega) h3 (by omega) (by omega)
    (fun j hj => by obtain rfl : j = 0 := by simpa using hj
                    simp; omega) (fun j hj => by obtain rfl : j = 0 := by simpa using hj
                                                 simp; omega) N D hDp hv.cop (by simpa [prodI] using hv2) r1 r2 r3 hres)
  clear hv hres hv2 hv1 b5 b6
  go_enter Try.func68, Try.ntmps68
  go_wp2_with fail
  refine (HC.out _ (Rw.mk _ (by simp only [alloc_at, World.size_alloc]; simp) (Nat.le_refl _)) (Rw.mk _ (by simp only [alloc_at, World.size_alloc]; simp) (by omega)) (by simp)).mono ?_
  rintro e w1 ⟨rfl, hb⟩
  have hblk : w1.heap[w.heap.size + 1 + 1]? = some (.cells #[.int .i64 0, .int .i64 0] 26 (0, 0)) := (hb.block (w.heap.size + 1 + 1) (by omega)).trans (by simp only [alloc_at, World.size_alloc]; simp)
  have HB : Hid (Below w.heap.size w w1) := Lib.hid (Below.trans (by repeat (first | exact Below.refl _ _ | (refine Below.alloc ?_ (by simp <;> omega) _))) (hb.mono (by omega)))
  clear hb
  have hc0 := blk_cell hblk 0
  have hc1 := blk_cell hblk 1
  have hf0 := blk_frozen hblk 0
  have hf1 := blk_frozen hblk 1
  clear hblk
  go_wp2
  refine bodyPost_ret (v := .tuple #[.agg #[.int .i64 r1, .int .i64 r2], .int .i64 r3]) (by simp [results, Try.results68, go_sem, hc0, hc1]) rfl ⟨rfl, ?_⟩
  exact (HB.out.setCell (by simp <;> omega) _).setCell (by simp <;> omega) _
end Go.Proofs.Ytaplebckjbbobaa.Low
