/- Repeating a row of one number. -/
import Derived.Test.YtaplebckjbbobaaPassA
import Derived.Test.YtaplebckjbbobaaPassM
import Derived.Laws.CopyRow
import Derived.Laws.CopyOwn
set_option linter.unusedSimpArgs false
namespace Go.Proofs.Ytaplebckjbbobaa.Grd
open Go.RowKit Bs

theorem make90 (w : World) (n : Nat) (hn : n ≤ 1048576) : (Instr.makeSlice 90 (.int .i64 (n : Int)) (.int .i64 (n : Int))).run Try.prog w = .ok (.slice (some ⟨w.heap.size, 0, none⟩) n n) (w.alloc (.cells (madeCells #[.int .i64 0] n) 2)) := by
  obtain ⟨i0, hi, hz0, hz1, hz2⟩ := info_parts info2
  have h := run_make (P := Try.prog) w 90 2 i0 _ Try.underlying90 hi hz0 .i64 .i64 n n (by omega) (by omega) (by rw [hz2]; omega) (by omega)
  rw [hz1, Int.toNat_natCast, Nat.mul_one] at h
  exact h

/-- block g is n cells, of which the first k are 1 -/
def Ones (g n k : Nat) (W : World) : Prop := ∃ cur : Array Value, W.heap[g]? = some (.cells cur 2 (0, 0)) ∧ cur.size = n ∧ k ≤ n ∧ cur.toList.take k = List.replicate k (.int .i64 1)

theorem Ones.put {g n k c : Nat} {W : World} (h : Ones g n k W) (hc : k + c ≤ n) (a : Addr) (dLen dCap sLen sCap : Nat) (hn : c = Nat.min sLen dLen)
    (hsrc : ∀ j, j < c → W.cell? (a.add j) = some (.int .i64 1)) (base : Nat) (hb : base ≤ g) :
    ∃ W', (Builtin.copy_ #[90, 90] 3 #[.slice (some ⟨g, k, none⟩) dLen dCap, .slice (some a) sLen sCap]).run Try.prog W = .ok (.int .i64 (c : Int)) W' ∧ Ones g n (k + c) W' ∧ Below base W W' := by
  obtain ⟨cur, h1, h2, h3, h4⟩ := h
  obtain ⟨i0, hi, hz0, hz1, hz2⟩ := info_parts info2
  have hr := run_copy_row (P := Try.prog) W 90 90 3 2 g k dLen dCap a sLen sCap cur 2 (List.replicate c (.int .i64 1)) Try.underlying90 (by rw [hi]; simp [hz1]) h1 (by simpa using hn)
    (fun j v hv => by
      obtain ⟨hj, hv'⟩ := List.getElem?_eq_some_iff.1 hv
      simp at hj hv'
      rw [hsrc j hj, hv']) (by simp; omega) (fun v hv => by simp at hv; rw [hv.2]; rfl)
  refine ⟨_, by simpa [goInt] using hr, ⟨_, setRow_heap _ _ _ _ _ _ h1, ?_, hc, ?_⟩, below_setRow (Below.refl _ _) hb _⟩
  · simp; omega
  · simp only [List.length_replicate]
    rw [h4, ← List.append_assoc, List.replicate_append_replicate]
    exact List.take_left' (by simp)

theorem Ones.cell {g n k : Nat} {W : World} (h : Ones g n k W) (j : Nat) (hj : j < k) : W.cell? ⟨g, j, none⟩ = some (.int .i64 1) := by
  obtain ⟨cur, h1, h2, h3, h4⟩ := h
  rw [blk_cell h1]
  have : (cur.toList.take k)[j]? = some (.int .i64 1) := by rw [h4]; simp [hj]
  rw [List.getElem?_take_of_lt hj] at this
  simpa using this
theorem Ones.same {g n k : Nat} {W W' : World} (h : Ones g n k W) (hb : W'.heap[g]? = W.heap[g]?) : Ones g n k W' := by
  obtain ⟨cur, h1, h2⟩ := h
  exact ⟨cur, hb.trans h1, h2⟩
set_option maxHeartbeats 2000000 in
theorem repeat_any (m : Nat) (hm : m ≤ 14) (w : World) (g c : Nat) (h : RowAt w g [1]) :
    Calls Try.prog 74 #[.slice (some ⟨g, 0, none⟩) 1 c, .int .i64 (m : Int)] w fun e w' => (∃ g2, e = .returned (.slice (some ⟨g2, 0, none⟩) m m) ∧ w.heap.size ≤ g2 ∧ Ones g2 m m w') ∧ Below w.heap.size w w' := by
  have C1 := Lib.hid (fun W => mul_one m hm W)
  have hmk := fun W => make90 W m (by omega)
  have H := Lib.hid h
  have hm1 : (0 : Int) ≤ (m : Int) := by omega
  have hm2 : (m : Int) ≤ 14 := by omega
  clear h
  go_enter Try.func74, Try.ntmps74
  go_wp2_with fail
  refine (C1.out _).mono ?_
  rintro e w1 ⟨rfl, rfl⟩
  have hn1 : ¬ (9223372036854775807 : Int) < (m : Int) := by omega
  have hn2 : ¬ (m : Int) < 0 := by omega
  go_upto_region 7 with (fail)
  have hcell : ∀ j, j < Nat.min 1 m → (w1.alloc (.cells (madeCells #[.int .i64 0] m) 2)).cell? ((⟨g, 0, none⟩ : Addr).add j) = some (.int .i64 1) := fun j hj => by
    obtain rfl : j = 0 := by have : Nat.min 1 m ≤ 1 := Nat.min_le_left _ _; omega
    exact ((H.out.below (below_alloc (Below.refl _ _) _)).cell (i := 0) (x := 1) rfl).1
  have hones : Ones w1.heap.size m 0 (w1.alloc (.cells (madeCells #[.int .i64 0] m) 2)) := ⟨_, heap_alloc_new _ _, by simp [size_madeCells], Nat.zero_le _, by simp⟩
  obtain ⟨W', hrun, hon, hbw⟩ := hones.put (c := Nat.min 1 m) (by have : Nat.min 1 m ≤ m := Nat.min_le_right _ _; omega) ⟨g, 0, none⟩ m m 1 c rfl hcell w1.heap.size (Nat.le_refl _)
  have HO := Lib.hid hon
  have HB := Lib.hid ((below_alloc (Below.refl _ _) _).trans hbw)
  clear hones hcell hon hbw
  go_wp2
  go_loopw [8] (fun i wr => ∃ k : Nat, i = .int .i64 k ∧ k ≤ m ∧ (k = 0 → m = 0) ∧ Ones w1.heap.size m k wr ∧ Below w1.heap.size w1 wr) (fun i _ => m - (intOf i).toNat)
  case atStart =>
    rw [Nat.zero_add] at HO
    exact ⟨Nat.min 1 m, rfl, Nat.min_le_right _ _, fun h => by have : min 1 m = 0 := h; omega, HO.out, HB.out⟩
  case round =>
    clear HO HB hrun
    obtain ⟨k, rfl, hk, hk0, hon, hbel⟩ := hrel
    have HO := Lib.hid hon
    have HB := Lib.hid hbel
    clear hon hbel
    by_cases hlt : k < m
    · have hc1 : k + Nat.min k (m - k) ≤ m := by have : Nat.min k (m - k) ≤ m - k := Nat.min_le_right _ _; omega
      obtain ⟨W2, hrun, hon, hbw⟩ := (HO.out.same (W' := wr.drew) rfl).put (c := Nat.min k (m - k)) hc1 ⟨w1.heap.size, 0, none⟩ (m - k) (m - k) k m rfl (fun j hj => by
        have : Nat.min k (m - k) ≤ k := Nat.min_le_left _ _
        rw [add_at, Nat.zero_add]
        exact HO.out.cell j (by omega)) w1.heap.size (Nat.le_refl _)
      have hcpos : 0 < Nat.min k (m - k) := Nat.lt_min.2 ⟨by omega, by omega⟩
      have HO2 := Lib.hid hon
      have HB2 := Lib.hid (HB.out.drew.trans hbw)
      generalize Nat.min k (m - k) = cc at *
      have z1 := add_at w1.heap.size 0 k
      rw [Nat.zero_add] at z1
      have hk1 : (0 : Int) ≤ (k : Int) := by omega
      have hk2 : (k : Int) < (m : Int) := by omega
      have hk3 : (k : Int) ≤ (m : Int) := by omega
      clear hon hbw
      go_wp2
      go_region
      go_wp2
      go_roundw
      case rel => exact ⟨k + cc, by go_num, hc1, by omega, HO2.out, HB2.out⟩
      case measure => simp [intOf]; omega
    · obtain rfl : k = m := by omega
      go_wp2
      go_ret
      exact ⟨⟨_, rfl, Nat.le_refl _, HO.out⟩, HB.out⟩
end Go.Proofs.Ytaplebckjbbobaa.Grd
