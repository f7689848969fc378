/- Rows of numbers and lists of rows: comparing them, marking them, and finding the marks again. -/
import Derived.Test.YtaplebckjbbobaaBase
set_option linter.unusedSimpArgs false
namespace Go.Proofs.Ytaplebckjbbobaa.Grd
open Go.RowKit Bs

/-- block g begins with the numbers xs -/
def RowAt (W : World) (g : Nat) (xs : List Int) : Prop := ∃ cs : Array Value, W.heap[g]? = some (.cells cs 2 (0, 0)) ∧ ∀ (i : Nat) (x : Int), xs[i]? = some x → cs[i]? = some (.int .i64 x)
section
variable {w W W' : World} {g : Nat} {xs : List Int}
theorem RowAt.lt (h : RowAt W g xs) : g < W.heap.size := by obtain ⟨cs, h1, _⟩ := h; exact blk_lt h1
theorem RowAt.cell (h : RowAt W g xs) {i : Nat} {x : Int} (hi : xs[i]? = some x) : W.cell? ⟨g, i, none⟩ = some (.int .i64 x) ∧ W.frozen? ⟨g, i, none⟩ = false := by
  obtain ⟨cs, h1, h2⟩ := h
  exact ⟨(blk_cell h1 i).trans (h2 i x hi), blk_frozen h1 i⟩
theorem RowAt.below (h : RowAt W g xs) (hb : Below W.heap.size W W') : RowAt W' g xs := by
  obtain ⟨cs, h1, h2⟩ := h
  exact ⟨cs, blk_below h1 hb, h2⟩
theorem RowAt.same (h : RowAt W g xs) (hb : W'.heap[g]? = W.heap[g]?) : RowAt W' g xs := by
  obtain ⟨cs, h1, h2⟩ := h
  exact ⟨cs, hb.trans h1, h2⟩
theorem RowAt.set (h : RowAt W g xs) (i : Nat) (x : Int) : RowAt (W.setCell ⟨g, i, none⟩ (.int .i64 x)) g (xs.set i x) := by
  obtain ⟨cs, h1, h2⟩ := h
  refine ⟨_, blk_set h1 i _, fun j y hj => ?_⟩
  by_cases hij : i = j
  · subst hij
    have hl : i < xs.length := by
      have := (List.getElem?_eq_some_iff.1 hj).1
      simpa using this
    have hx : x = y := by simpa [hl] using hj
    subst hx
    have hc := h2 i (xs[i]) (by simp [hl])
    have hs : i < cs.size := (Array.getElem?_eq_some_iff.1 hc).1
    simp [Array.getElem?_setIfInBounds, hs]
  · have hj' : xs[j]? = some y := by rw [List.getElem?_set_ne hij] at hj; exact hj
    rw [Array.getElem?_setIfInBounds_ne hij]
    exact h2 j y hj'
end

/-- only block g was written -/
structure Only (g : Nat) (w w' : World) : Prop where
  os : w'.os = w.os
  tape : w'.tape = w.tape
  output : w'.output = w.output
  size : w'.heap.size = w.heap.size
  block : ∀ b, b ≠ g → w'.heap[b]? = w.heap[b]?
theorem Only.refl (g : Nat) (w : World) : Only g w w := ⟨rfl, rfl, rfl, rfl, fun _ _ => rfl⟩
theorem Only.set {g : Nat} {w w' : World} (h : Only g w w') (i : Nat) (v : Value) : Only g w (w'.setCell ⟨g, i, none⟩ v) :=
  ⟨h.os, h.tape, h.output, by rw [← h.size]; simp, fun b hb => (Below.heap_setCell _ _ _ b hb).trans (h.block b hb)⟩
theorem Only.below {g base : Nat} {w w' : World} (h : Only g w w') (hb : base ≤ g) : Below base w w' :=
  ⟨h.os, h.tape, h.output, by rw [h.size]; exact Nat.le_refl _, fun b hlt => h.block b (by omega)⟩

/-- the numbers k, k + 1, .. -/
def upto (k : Int) (n : Nat) : List Int := (List.range n).map fun (i : Nat) => k + (i : Int)
theorem upto_len (k : Int) (n : Nat) : (upto k n).length = n := by simp [upto]
theorem upto_at (k : Int) (n i : Nat) (h : i < n) : (upto k n)[i]? = some (k + i) := by simp [upto, h]

set_option maxHeartbeats 1000000 in
theorem eqInt64S_any (w : World) (g g2 n c c2 : Nat) (xs : List Int) (hn : n = xs.length) (hcap : n ≤ 1048576) (h : RowAt w g xs) (h' : RowAt w g2 xs) :
    Calls Try.prog 76 #[.slice (some ⟨g, 0, none⟩) n c, .slice (some ⟨g2, 0, none⟩) n c2] w fun e w' => e = .returned (.bool true) ∧ ∃ m, w' = w.drewN m := by
  have H1 := Lib.hid h
  have H2 := Lib.hid h'
  have HN := Lib.hid hn
  clear h h' hn
  go_enter Try.func76, Try.ntmps76
  go_wp2
  go_loopw [5] (fun i wr => ∃ (k m : Nat), i = .int .i64 k ∧ k ≤ n ∧ wr = w.drewN m) (fun i _ => n - (intOf i).toNat)
  case atStart => exact ⟨0, 0, rfl, Nat.zero_le _, rfl⟩
  case round =>
    obtain ⟨k, m, rfl, hk, hwr⟩ := hrel
    have HW := Lib.hid hwr
    by_cases hlt : k < n
    · obtain ⟨x, hx⟩ : ∃ x, xs[k]? = some x := ⟨xs[k]'(by rw [← HN.out]; exact hlt), by simp⟩
      have c0 : wr.cell? ⟨g, k, none⟩ = some (.int .i64 x) := by rw [hwr]; exact (H1.out.cell hx).1
      have d0 : wr.cell? ⟨g2, k, none⟩ = some (.int .i64 x) := by rw [hwr]; exact (H2.out.cell hx).1
      have hk1 : (0 : Int) ≤ (k : Int) := by omega
      have hk2 : (k : Int) < (n : Int) := by omega
      have z1 := add_at g 0 k
      have z2 := add_at g2 0 k
      rw [Nat.zero_add] at z1 z2
      have hxx : (x != x) = false := by simp
      clear hx hwr
      go_wp2
      go_quiet (fail)
      go_wp2
      go_roundw
      case rel => exact ⟨k + 1, m + nq, by go_num, by omega, by rw [HW.out]; exact World.drewN_drewN _ _ _⟩
      case measure => simp [intOf]; omega
    · go_wp2
      go_ret
      exact ⟨rfl, m, by first | exact hwr | rfl⟩

set_option maxHeartbeats 1000000 in
theorem markInt64S_any (w : World) (g n c : Nat) (xs : List Int) (k0 : Int) (hn : n = xs.length) (hcap : n ≤ 1048576) (hk0 : 0 ≤ k0) (hk0' : k0 ≤ 1048576) (h : RowAt w g xs) :
    Calls Try.prog 77 #[.slice (some ⟨g, 0, none⟩) n c, .int .i64 k0] w fun e w' => e = .returned (.int .i64 (k0 + n)) ∧ RowAt w' g (upto k0 n) ∧ Only g w w' := by
  have H1 := Lib.hid h
  have HN := Lib.hid hn
  clear h hn
  go_enter Try.func77, Try.ntmps77
  go_wp2
  go_loopw [1, 5] (fun a i wr => ∃ (k : Nat) (ys : List Int), i = .int .i64 k ∧ a = .int .i64 (k0 + k) ∧ k ≤ n ∧ ys.length = n ∧ (∀ j, j < k → ys[j]? = some (k0 + (j : Int))) ∧ RowAt wr g ys ∧ Only g w wr) (fun _ i _ => n - (intOf i).toNat)
  case atStart => exact ⟨0, xs, rfl, by simp, Nat.zero_le _, HN.out.symm, fun j hj => absurd hj (Nat.not_lt_zero _), H1.out, Only.refl _ _⟩
  case round =>
    obtain ⟨k, ys, rfl, rfl, hk, hlen, hys, hrow, honly⟩ := hrel
    have HY := Lib.hid hys
    have HR := Lib.hid hrow
    have HO := Lib.hid honly
    have HLn := Lib.hid hlen
    clear hys hrow honly hlen
    by_cases hlt : k < n
    · obtain ⟨x, hx⟩ : ∃ x, ys[k]? = some x := ⟨ys[k]'(by rw [HLn.out]; exact hlt), by simp⟩
      obtain ⟨c0, f0⟩ := HR.out.cell hx
      have hk1 : (0 : Int) ≤ (k : Int) := by omega
      have hk2 : (k : Int) < (n : Int) := by omega
      have z1 := add_at g 0 k
      rw [Nat.zero_add] at z1
      have w1 : wrap64 (k0 + (k : Int)) = k0 + k := Go.IntWalk.wrap64_in _ (by omega)
      have w2 : wrap64 (k0 + (k : Int) + 1) = k0 + k + 1 := Go.IntWalk.wrap64_in _ (by omega)
      clear hx
      go_wp2
      go_roundw
      case rel =>
        refine ⟨k + 1, ys.set k (k0 + k), by go_num, ?_, by omega, by rw [List.length_set]; exact HLn.out, fun j hj => ?_, HR.out.set k _, HO.out.set k _⟩
        · congr 1; omega
        · by_cases hjk : k = j
          · subst hjk
            have := HLn.out
            simp [show k < ys.length by omega]
          · rw [List.getElem?_set_ne hjk]; exact HY.out j (by omega)
      case measure => simp [intOf]; omega
    · obtain rfl : k = n := by omega
      have hfin : ys = upto k0 k := by
        apply List.ext_getElem?
        intro j
        by_cases hj : j < k
        · rw [HY.out j hj, upto_at k0 k j hj]
        · rw [List.getElem?_eq_none (by rw [HLn.out]; omega), List.getElem?_eq_none (by rw [upto_len]; omega)]
      have HR2 := Lib.hid (hfin ▸ HR.out)
      clear hfin
      go_wp2
      go_ret
      exact ⟨rfl, HR2.out, HO.out⟩

set_option maxHeartbeats 1000000 in
theorem heldInt64S_any (w : World) (g n c : Nat) (k0 : Int) (hcap : n ≤ 1048576) (hk0 : 0 ≤ k0) (hk0' : k0 ≤ 1048576) (h : RowAt w g (upto k0 n)) :
    Calls Try.prog 78 #[.slice (some ⟨g, 0, none⟩) n c, .int .i64 k0] w fun e w' => e = .returned (.int .i64 (k0 + n)) ∧ w' = w := by
  have H1 := Lib.hid h
  clear h
  go_enter Try.func78, Try.ntmps78
  go_wp2
  go_loopw [1, 5] (fun a i wr => ∃ (k : Nat), i = .int .i64 k ∧ a = .int .i64 (k0 + k) ∧ k ≤ n ∧ wr = w) (fun _ i _ => n - (intOf i).toNat)
  case atStart => exact ⟨0, rfl, by simp, Nat.zero_le _, rfl⟩
  case round =>
    obtain ⟨k, rfl, rfl, hk, rfl⟩ := hrel
    by_cases hlt : k < n
    · obtain ⟨c0, f0⟩ := H1.out.cell (upto_at k0 n k hlt)
      have hk1 : (0 : Int) ≤ (k : Int) := by omega
      have hk2 : (k : Int) < (n : Int) := by omega
      have z1 := add_at g 0 k
      rw [Nat.zero_add] at z1
      have w1 : wrap64 (k0 + (k : Int)) = k0 + k := Go.IntWalk.wrap64_in _ (by omega)
      have w2 : wrap64 (k0 + (k : Int) + 1) = k0 + k + 1 := Go.IntWalk.wrap64_in _ (by omega)
      have hxx : (k0 + (k : Int) != k0 + (k : Int)) = false := by simp
      go_wp2
      go_roundw
      case rel => refine ⟨k + 1, by go_num, ?_, by omega, ?_⟩ <;> first | trivial | (congr 1; omega)
      case measure => simp [intOf]; omega
    · obtain rfl : k = n := by omega
      go_wp2
      go_ret
      exact ⟨rfl, rfl⟩
end Go.Proofs.Ytaplebckjbbobaa.Grd
