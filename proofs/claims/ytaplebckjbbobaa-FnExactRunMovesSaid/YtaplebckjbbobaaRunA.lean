/- Lists of moves: what a slice of them reads as; the functions that read one. -/
import Derived.Test.YtaplebckjbbobaaMf
import Derived.Deep.RegionHeld3
import Derived.Deep.DeepCutAuto
import Derived.Deep.CutBlock
namespace Go.Proofs.Ytaplebckjbbobaa.Low
open Go.RowKit Go.Proofs.YtaplebckjbbobaaW.PrintWords Go.Proofs.YtaplebckjbbobaaW.PrintMore FracMath PFnExactMoveFraction

set_option linter.unusedSimpArgs false
abbrev M3 := Int × Int × Int
/-- the slice at ao reads as the list L of moves -/
def Lst (w : World) (ao : Option Addr) (L : List M3) : Prop := ∀ i m, L[i]? = some m → ∃ a, ao = some a ∧ a.block < w.heap.size ∧ w.cell? (a.add (i * 3)) = some (.int .i64 m.1) ∧ w.cell? ⟨(a.add (i * 3)).block, (a.add (i * 3)).off + 1, none⟩ = some (.int .i64 m.2.1) ∧ w.cell? ⟨(a.add (i * 3)).block, (a.add (i * 3)).off + 2, none⟩ = some (.int .i64 m.2.2)
theorem add_block (a : Addr) (k : Nat) : (a.add k).block = a.block := by unfold Addr.add; split <;> rfl
theorem Lst.below {w w1 : World} {ao : Option Addr} {L : List M3} (h : Lst w ao L) (hb : Below w.heap.size w w1) : Lst w1 ao L := by
  intro i m hi
  obtain ⟨a, ha, hlt, c0, c1, c2⟩ := h i m hi
  have hs := hb.size
  refine ⟨a, ha, by omega, ?_, ?_, ?_⟩
  · rw [hb.cell (by rw [add_block]; exact hlt)]; exact c0
  · rw [hb.cell (by show (a.add _).block < _; rw [add_block]; exact hlt)]; exact c1
  · rw [hb.cell (by show (a.add _).block < _; rw [add_block]; exact hlt)]; exact c2

theorem keep6 {x0 x1 x2 x3 x4 x5 : Addr} {v0 v1 v2 v3 v4 v5 : Value} {W W' : World} (hb : Below W.heap.size W W') (h : W.cell? x0 = some v0 ∧ W.cell? x1 = some v1 ∧ W.cell? x2 = some v2 ∧ W.cell? x3 = some v3 ∧ W.cell? x4 = some v4 ∧ W.cell? x5 = some v5) :
    W'.cell? x0 = some v0 ∧ W'.cell? x1 = some v1 ∧ W'.cell? x2 = some v2 ∧ W'.cell? x3 = some v3 ∧ W'.cell? x4 = some v4 ∧ W'.cell? x5 = some v5 :=
  ⟨pw_cell_below hb h.1, pw_cell_below hb h.2.1, pw_cell_below hb h.2.2.1, pw_cell_below hb h.2.2.2.1, pw_cell_below hb h.2.2.2.2.1, pw_cell_below hb h.2.2.2.2.2⟩

/-- the code of a list of moves -/
def mcode (L : List M3) : Int := if ∀ m ∈ L, Mv m.1 m.2.1 m.2.2 then (if L.length > 20 then 2 else 0) else 1
theorem mcode_bad {L : List M3} {k : Nat} {m : M3} (h : L[k]? = some m) (hb : ¬ Mv m.1 m.2.1 m.2.2) : mcode L = 1 := by
  unfold mcode
  rw [if_neg]
  intro hall
  exact hb (hall m (List.mem_of_getElem? h))
theorem mcode_done {L : List M3} (h : ∀ (k : Nat) (m : M3), L[k]? = some m → Mv m.1 m.2.1 m.2.2) : mcode L = if L.length > 20 then 2 else 0 := by
  unfold mcode
  rw [if_pos]
  intro m hm
  obtain ⟨k, hk⟩ := List.getElem?_of_mem hm
  exact h k m hk

set_option maxHeartbeats 1000000 in
theorem movesCode_any (w : World) (ao : Option Addr) (L : List M3) (n cap : Nat) (hn : n = L.length) (hcap : n ≤ 1048576) (h : Lst w ao L) :
    Calls Try.prog 70 #[.slice ao n cap] w fun e w' => e = .returned (.int .i64 (mcode L)) ∧ Below w.heap.size w w' := by
  have C1 := Lib.hid (fun m0 m1 m2 W => isMove_any m0 m1 m2 W)
  have HL := Lib.hid h
  have HN := Lib.hid hn
  clear h hn
  go_enter Try.func70, Try.ntmps70
  go_wp2
  go_loopw [7] (fun i wr => ∃ k : Nat, i = .int .i64 k ∧ k ≤ n ∧ (∀ (j : Nat) (m : M3), j < k → L[j]? = some m → Mv m.1 m.2.1 m.2.2) ∧ Below w.heap.size w wr) (fun i _ => n - (intOf i).toNat)
  case atStart => exact ⟨0, rfl, Nat.zero_le _, fun j m h => absurd h (Nat.not_lt_zero _), Below.refl _ _⟩
  case round =>
    obtain ⟨k, rfl, hk, hall, hbel⟩ := hrel
    by_cases hlt : k < n
    · obtain ⟨m, hm⟩ : ∃ m, L[k]? = some m := ⟨L[k]'(by rw [← HN.out]; exact hlt), by simp⟩
      obtain ⟨a, rfl, hab, c0, c1, c2⟩ := (HL.out.below hbel) k m hm
      have hk1 : (0 : Int) ≤ (k : Int) := by omega
      have hk2 : (k : Int) < (n : Int) := by omega
      have HA := Lib.hid hall
      have HB := Lib.hid hbel
      have HM := Lib.hid hm
      clear hall hbel hm
      go_wp2_with fail
      refine (C1.out _ _ _ _).mono ?_
      rintro e w1 ⟨rfl, hb⟩
      have HB2 := Lib.hid (below_step (below_alloc HB.out _) hb)
      by_cases hM : Mv m.1 m.2.1 m.2.2
      · rw [decide_eq_true hM]
        go_wp2
        go_roundw
        case rel =>
          refine ⟨k + 1, by go_num, by omega, fun j m' hj hm' => ?_, HB2.out⟩
          by_cases hjk : j < k
          · exact HA.out j m' hjk hm'
          · obtain rfl : j = k := by omega
            rw [HM.out] at hm'
            obtain rfl := Option.some.inj hm'
            exact hM
        case measure => simp [intOf]; omega
      · rw [decide_eq_false hM]
        go_wp2
        go_ret
        refine ⟨?_, HB2.out⟩
        rw [mcode_bad HM.out hM]; rfl
    · have hd : mcode L = if n > 20 then 2 else 0 := by
        rw [mcode_done (fun j m hm => hall j m (by have := (List.getElem?_eq_some_iff.1 hm).1; have := HN.out; omega) hm), HN.out]
      have HB := Lib.hid hbel
      clear hall hbel
      by_cases hg : n > 20
      · have hg' : (20 : Int) < (n : Int) := by omega
        rw [if_pos hg] at hd
        go_wp2
        go_ret
        refine ⟨?_, HB.out⟩
        first | rfl | (rw [hd]; rfl)
      · have hg' : ¬ (20 : Int) < (n : Int) := by omega
        rw [if_neg hg] at hd
        go_wp2
        go_ret
        refine ⟨?_, HB.out⟩
        first | rfl | (rw [hd]; rfl)

theorem spec_move_any (m0 m1 m2 : Int) (w : World) : Calls Try.prog 65 #[.agg #[.int .i64 m0, .int .i64 m1, .int .i64 m2]] w fun e w' => e = .returned (.bool (decide (Mv m0 m1 m2))) ∧ Below w.heap.size w w' := by
  obtain ⟨k, hk⟩ := (move_ok m0 m1 m2).rounds
  exact spec_l10Move.calls k m0 m1 m2 _ w hk
theorem spec_is_any (p q : Int) (w : World) : Calls Try.prog 66 #[.agg #[.int .i64 p, .int .i64 q]] w fun e w' => e = .returned (.bool (decide (Fr p q))) ∧ Below w.heap.size w w' := by
  obtain ⟨k, hk⟩ := (is_ev p q).rounds
  exact spec_l10Is.calls k p q _ w hk

set_option maxHeartbeats 1000000 in
theorem l10Moves_any (w : World) (ao : Option Addr) (L : List M3) (n cap : Nat) (hn : n = L.length) (hcap : n ≤ 1048576) (h : Lst w ao L) :
    Calls Try.prog 69 #[.slice ao n cap] w fun e w' => e = .returned (.int .i64 (mcode L)) ∧ Below w.heap.size w w' := by
  have C1 := Lib.hid (fun m0 m1 m2 W => spec_move_any m0 m1 m2 W)
  have HL := Lib.hid h
  have HN := Lib.hid hn
  clear h hn
  go_enter Try.func69, Try.ntmps69
  go_wp2
  go_loopw [3] (fun i wr => ∃ k : Nat, i = .int .i64 k ∧ k ≤ n ∧ (∀ (j : Nat) (m : M3), j < k → L[j]? = some m → Mv m.1 m.2.1 m.2.2) ∧ Below w.heap.size w wr) (fun i _ => n - (intOf i).toNat)
  case atStart => exact ⟨0, rfl, Nat.zero_le _, fun j m h => absurd h (Nat.not_lt_zero _), Below.refl _ _⟩
  case round =>
    obtain ⟨k, rfl, hk, hall, hbel⟩ := hrel
    by_cases hlt : k < n
    · obtain ⟨m, hm⟩ : ∃ m, L[k]? = some m := ⟨L[k]'(by rw [← HN.out]; exact hlt), by simp⟩
      obtain ⟨a, rfl, hab, c0, c1, c2⟩ := (HL.out.below hbel) k m hm
      have hk1 : (0 : Int) ≤ (k : Int) := by omega
      have hk2 : (k : Int) < (n : Int) := by omega
      have HA := Lib.hid hall
      have HB := Lib.hid hbel
      have HM := Lib.hid hm
      clear hall hbel hm
      go_wp2_with fail
      refine (C1.out _ _ _ _).mono ?_
      rintro e w1 ⟨rfl, hb⟩
      have HB2 := Lib.hid (below_step HB.out hb)
      by_cases hM : Mv m.1 m.2.1 m.2.2
      · rw [decide_eq_true hM]
        go_wp2
        go_roundw
        case rel =>
          refine ⟨k + 1, by go_num, by omega, fun j m' hj hm' => ?_, HB2.out⟩
          by_cases hjk : j < k
          · exact HA.out j m' hjk hm'
          · obtain rfl : j = k := by omega
            rw [HM.out] at hm'
            obtain rfl := Option.some.inj hm'
            exact hM
        case measure => simp [intOf]; omega
      · rw [decide_eq_false hM]
        go_wp2
        go_ret
        refine ⟨?_, HB2.out⟩
        rw [mcode_bad HM.out hM]; rfl
    · have hd : mcode L = if n > 20 then 2 else 0 := by
        rw [mcode_done (fun j m hm => hall j m (by have := (List.getElem?_eq_some_iff.1 hm).1; have := HN.out; omega) hm), HN.out]
      have HB := Lib.hid hbel
      clear hall hbel
      by_cases hg : n > 20
      · have hg' : (20 : Int) < (n : Int) := by omega
        rw [if_pos hg] at hd
        go_wp2
        go_ret
        refine ⟨?_, HB.out⟩
        first | rfl | (rw [hd]; rfl)
      · have hg' : ¬ (20 : Int) < (n : Int) := by omega
        rw [if_neg hg] at hd
        go_wp2
        go_ret
        refine ⟨?_, HB.out⟩
        first | rfl | (rw [hd]; rfl)

theorem eqMove_any (a b c : Int) (w : World) : Calls Try.prog 71 #[.agg #[.int .i64 a, .int .i64 b, .int .i64 c], .agg #[.int .i64 a, .int .i64 b, .int .i64 c]] w fun e w' => e = .returned (.bool true) ∧ Below w.heap.size w w' := by
  have h1 : (a != a) = false := by simp
  have h2 : (b != b) = false := by simp
  have h3 : (c != c) = false := by simp
  go_enter Try.func71, Try.ntmps71
  go_wp2
  go_ret
  exact ⟨rfl, ((Below.refl _ _).alloc (Nat.le_refl _) _).alloc (by simp) _⟩

theorem szMoveS_any (w : World) (ao : Option Addr) (n cap : Nat) (hcap : n ≤ 9223372036854775807) :
    Calls Try.prog 15 #[.slice ao n cap, .int .i64 1048576] w fun e w' => e = .returned (.int .i64 (if n ≤ 1048576 then 1048576 - (n : Int) else -1)) ∧ w' = w := by
  have hw : wrap64 (1048576 - (n : Int)) = 1048576 - (n : Int) := Go.IntWalk.wrap64_in _ (by omega)
  by_cases hle : n ≤ 1048576
  · have h1 : ¬ (1048576 - (n : Int)) < 0 := by omega
    rw [if_pos hle]
    go_enter Try.func15, Try.ntmps15
    go_wp2
    go_ret
    exact ⟨rfl, rfl⟩
  · have h1 : (1048576 - (n : Int)) < 0 := by omega
    rw [if_neg hle]
    go_enter Try.func15, Try.ntmps15
    go_wp2
    go_ret
    exact ⟨rfl, rfl⟩

set_option maxHeartbeats 1000000 in
theorem eqMoveS_any (w : World) (ao bo : Option Addr) (L : List M3) (n c1 c2 : Nat) (hn : n = L.length) (hcap : n ≤ 1048576) (h : Lst w ao L) (h' : Lst w bo L) :
    Calls Try.prog 19 #[.slice ao n c1, .slice bo n c2] w fun e w' => e = .returned (.bool true) ∧ Below w.heap.size w w' := by
  have C1 := Lib.hid (fun m0 m1 m2 W => eqMove_any m0 m1 m2 W)
  have HL := Lib.hid h
  have HL' := Lib.hid h'
  have HN := Lib.hid hn
  clear h h' hn
  go_enter Try.func19, Try.ntmps19
  go_wp2
  go_loopw [5] (fun i wr => ∃ k : Nat, i = .int .i64 k ∧ k ≤ n ∧ Below w.heap.size w wr) (fun i _ => n - (intOf i).toNat)
  case atStart => exact ⟨0, rfl, Nat.zero_le _, Below.refl _ _⟩
  case round =>
    obtain ⟨k, rfl, hk, hbel⟩ := hrel
    by_cases hlt : k < n
    · obtain ⟨m, hm⟩ : ∃ m, L[k]? = some m := ⟨L[k]'(by rw [← HN.out]; exact hlt), by simp⟩
      obtain ⟨a, rfl, hab, c0, c1, c2⟩ := (HL.out.below hbel) k m hm
      obtain ⟨b, rfl, hbb, d0, d1, d2⟩ := (HL'.out.below hbel) k m hm
      have hk1 : (0 : Int) ≤ (k : Int) := by omega
      have hk2 : (k : Int) < (n : Int) := by omega
      have HB := Lib.hid hbel
      clear hbel hm
      go_wp2_with fail
      go_region_held3 (fun W' => W'.cell? (a.add (k * 3)) = some (.int .i64 m.1) ∧ W'.cell? ⟨(a.add (k * 3)).block, (a.add (k * 3)).off + 1, none⟩ = some (.int .i64 m.2.1) ∧ W'.cell? ⟨(a.add (k * 3)).block, (a.add (k * 3)).off + 2, none⟩ = some (.int .i64 m.2.2) ∧ W'.cell? (b.add (k * 3)) = some (.int .i64 m.1) ∧ W'.cell? ⟨(b.add (k * 3)).block, (b.add (k * 3)).off + 1, none⟩ = some (.int .i64 m.2.1) ∧ W'.cell? ⟨(b.add (k * 3)).block, (b.add (k * 3)).off + 2, none⟩ = some (.int .i64 m.2.2))
        (first | (go_keep; done) | (apply keep6; (case hb => assumption); (case h => assumption)))
        ((first | (go_at_call 71; refine (C1.out _ _ _ _).mono ?_; rintro e w5 ⟨rfl, hb5⟩)))
      go_wp2
      go_roundw
      case rel => exact ⟨k + 1, by go_num, by omega, below_step HB.out.drew hb5⟩
      case measure => simp [intOf]; omega
    · go_wp2
      go_ret
      exact ⟨rfl, hbel⟩

theorem info29 : (Try.prog.info? 29).map (fun i => (i.zero, i.size, i.bytes)) = some (some (.agg #[.int .i64 0, .int .i64 0, .int .i64 0]), 3, 24) := by kernel_rfl
theorem zeros3 (N j : Nat) (h : j < N) : (madeCells #[.int .i64 0, .int .i64 0, .int .i64 0] N)[j]? = some (.int .i64 0) := by
  have h3 : j % 3 = 0 ∨ j % 3 = 1 ∨ j % 3 = 2 := by omega
  simp [madeCells, h]
  rcases h3 with e | e | e <;> simp [e]
theorem make29 (w : World) (n : Nat) (hn : n ≤ 1048576) : (Instr.makeSlice 37 (.int .i64 (n : Int)) (.int .i64 (n : Int))).run Try.prog w = .ok (.slice (some ⟨w.heap.size, 0, none⟩) n n) (w.alloc (.cells (madeCells #[.int .i64 0, .int .i64 0, .int .i64 0] (n * 3)) 29)) := by
  obtain ⟨i0, hi, hz0, hz1, hz2⟩ := info_parts info29
  have h := run_make (P := Try.prog) w 37 29 i0 _ Try.underlying37 hi hz0 .i64 .i64 n n (by omega) (by omega) (by rw [hz2]; omega) (by omega)
  rw [hz1, Int.toNat_natCast] at h
  exact h
/-- the first k of the list lie in block g, the rest of its 3 n cells are numbers -/
def Part (L : List M3) (g n k : Nat) (W : World) : Prop := ∃ cs : Array Value, W.heap[g]? = some (.cells cs 29 (0, 0)) ∧ (∀ j, j < n * 3 → ∃ z : Int, cs[j]? = some (.int .i64 z)) ∧ ∀ i (m : M3), i < k → L[i]? = some m → cs[i * 3]? = some (.int .i64 m.1) ∧ cs[i * 3 + 1]? = some (.int .i64 m.2.1) ∧ cs[i * 3 + 2]? = some (.int .i64 m.2.2)
theorem Part.below {L : List M3} {g n k : Nat} {W W' : World} (h : Part L g n k W) (hb : Below W.heap.size W W') : Part L g n k W' := by
  obtain ⟨cs, h1, h2, h3⟩ := h
  exact ⟨cs, blk_below h1 hb, h2, h3⟩
theorem Part.put {L : List M3} {g n k : Nat} {m : M3} {W : World} (h : Part L g n k W) (hk : k < n) (hm : L[k]? = some m) :
    Part L g n (k + 1) (((W.setCell ⟨g, k * 3, none⟩ (.int .i64 m.1)).setCell ⟨g, k * 3 + 1, none⟩ (.int .i64 m.2.1)).setCell ⟨g, k * 3 + 2, none⟩ (.int .i64 m.2.2)) := by
  obtain ⟨cs, h1, h2, h3⟩ := h
  have hsz : n * 3 ≤ cs.size := by
    rcases Nat.lt_or_ge cs.size (n * 3) with hlt | hge
    · obtain ⟨z, hz⟩ := h2 cs.size hlt
      simp at hz
    · exact hge
  refine ⟨_, blk_set (blk_set (blk_set h1 _ _) _ _) _ _, fun j hj => ?_, fun i m' hi hm' => ?_⟩
  · obtain ⟨z, hz⟩ := h2 j hj
    have hj' : j < cs.size := by omega
    by_cases e2 : k * 3 + 2 = j
    · subst e2; exact ⟨m.2.2, by simp [hj']⟩
    · by_cases e1 : k * 3 + 1 = j
      · subst e1; exact ⟨m.2.1, by simp [Array.getElem?_setIfInBounds, hj']⟩
      · by_cases e0 : k * 3 = j
        · subst e0; exact ⟨m.1, by simp [Array.getElem?_setIfInBounds, hj']⟩
        · exact ⟨z, by simp [Array.getElem?_setIfInBounds, e0, e1, e2]; simpa using hz⟩
  · by_cases hik : i < k
    · obtain ⟨a0, a1, a2⟩ := h3 i m' hik hm'
      have q0 : k * 3 ≠ i * 3 := by omega
      have q1 : k * 3 + 1 ≠ i * 3 := by omega
      have q2 : k * 3 + 2 ≠ i * 3 := by omega
      have q3 : k * 3 ≠ i * 3 + 1 := by omega
      have q4 : k ≠ i := by omega
      have q5 : k * 3 + 2 ≠ i * 3 + 1 := by omega
      have q6 : k * 3 ≠ i * 3 + 2 := by omega
      have q7 : k * 3 + 1 ≠ i * 3 + 2 := by omega
      refine ⟨?_, ?_, ?_⟩
      · simp only [Array.getElem?_setIfInBounds]; rw [if_neg q2, if_neg q1, if_neg q0]; exact a0
      · simp only [Array.getElem?_setIfInBounds]; rw [if_neg q5, if_neg (by omega), if_neg q3]; exact a1
      · simp only [Array.getElem?_setIfInBounds]; rw [if_neg (by omega), if_neg q7, if_neg q6]; exact a2
    · obtain rfl : i = k := by omega
      rw [hm] at hm'
      obtain rfl := Option.some.inj hm'
      have k0 : i * 3 < cs.size := by omega
      have k1 : i * 3 + 1 < cs.size := by omega
      have k2 : i * 3 + 2 < cs.size := by omega
      refine ⟨?_, ?_, ?_⟩
      · simp [Array.getElem?_setIfInBounds, k0, k1, k2]
      · simp [Array.getElem?_setIfInBounds, k0, k1, k2]
      · simp [Array.getElem?_setIfInBounds, k0, k1, k2]
theorem Part.cell {L : List M3} {g n k : Nat} {W : World} (h : Part L g n k W) (j : Nat) (hj : j < n * 3) : (∃ z : Int, W.cell? ⟨g, j, none⟩ = some (.int .i64 z)) ∧ W.frozen? ⟨g, j, none⟩ = false := by
  obtain ⟨cs, h1, h2, h3⟩ := h
  obtain ⟨z, hz⟩ := h2 j hj
  exact ⟨⟨z, by rw [blk_cell h1]; exact hz⟩, blk_frozen h1 j⟩
theorem add_zero0 (g x : Nat) : (⟨g, 0, none⟩ : Addr).add x = ⟨g, x, none⟩ := by
  unfold Addr.add
  split
  · rename_i h; rw [h]
  · simp
theorem Part.done {L : List M3} {g n : Nat} {W : World} (h : Part L g n n W) (hn : n = L.length) (hlt : g < W.heap.size) : Lst W (some ⟨g, 0, none⟩) L := by
  obtain ⟨cs, h1, h2, h3⟩ := h
  intro i m hi
  have hil : i < n := by rw [hn]; exact (List.getElem?_eq_some_iff.1 hi).1
  obtain ⟨a0, a1, a2⟩ := h3 i m hil hi
  refine ⟨_, rfl, hlt, ?_, ?_, ?_⟩
  · rw [add_zero0, blk_cell h1]; exact a0
  · rw [add_zero0]; exact (blk_cell h1 _).trans a1
  · rw [add_zero0]; exact (blk_cell h1 _).trans a2

set_option maxHeartbeats 1000000 in
set_option maxRecDepth 100000 in
theorem toMoveS_any (w : World) (ao : Option Addr) (L : List M3) (n cap : Nat) (hn : n = L.length) (hcap : n ≤ 1048576) (h : Lst w ao L) :
    Calls Try.prog 17 #[.slice ao n cap] w fun e w' => (∃ g : Nat, e = .returned (.slice (some ⟨g, 0, none⟩) n n) ∧ w.heap.size ≤ g ∧ Lst w' (some ⟨g, 0, none⟩) L) ∧ Below w.heap.size w w' := by
  have HL := Lib.hid h
  have HN := Lib.hid hn
  have hmk := fun W => make29 W n hcap
  have C1 := Lib.hid (fun m0 m1 m2 W => laws_toMove.calls m0 m1 m2 m0 m1 m2 W rfl)
  clear h hn
  go_enter Try.func17, Try.ntmps17
  go_wp2
  go_loopw [4] (fun i wr => ∃ k : Nat, i = .int .i64 k ∧ k ≤ n ∧ Part L w.heap.size n k wr ∧ Below w.heap.size w wr ∧ w.heap.size < wr.heap.size) (fun i _ => n - (intOf i).toNat)
  case atStart => exact ⟨0, rfl, Nat.zero_le _, ⟨_, heap_alloc_new _ _, fun j hj => ⟨0, zeros3 _ j hj⟩, fun i m hi => absurd hi (Nat.not_lt_zero _)⟩, below_alloc (Below.refl _ _) _, by simp⟩
  case round =>
    obtain ⟨k, rfl, hk, hpart, hbel, hsz⟩ := hrel
    by_cases hlt : k < n
    · obtain ⟨m, hm⟩ : ∃ m, L[k]? = some m := ⟨L[k]'(by rw [← HN.out]; exact hlt), by simp⟩
      obtain ⟨a, rfl, hab, c0, c1, c2⟩ := (HL.out.below hbel) k m hm
      have hk1 : (0 : Int) ≤ (k : Int) := by omega
      have hk2 : (k : Int) < (n : Int) := by omega
      have HB := Lib.hid hbel
      have HP := Lib.hid hpart
      have HM := Lib.hid hm
      clear hbel hpart hm
      go_wp2_with fail
      refine (C1.out _ _ _ _).mono ?_
      rintro e w5 ⟨rfl, hb5⟩
      have HP5 := Lib.hid (HP.out.below hb5)
      obtain ⟨⟨z0, d0⟩, f0⟩ := HP5.out.cell (k * 3) (by omega)
      obtain ⟨⟨z1, d1⟩, f1⟩ := HP5.out.cell (k * 3 + 1) (by omega)
      obtain ⟨⟨z2, d2⟩, f2⟩ := HP5.out.cell (k * 3 + 2) (by omega)
      have hz := add_zero0 w.heap.size (k * 3)
      have hs5 := hb5.size
      go_wp2
      go_roundw
      case rel => exact ⟨k + 1, rfl, by omega, HP5.out.put hlt HM.out, (((below_step HB.out hb5).setCell (Nat.le_refl _) _).setCell (Nat.le_refl _) _).setCell (Nat.le_refl _) _, by simp; omega⟩
      case measure => simp [intOf]; omega
    · obtain rfl : k = n := by omega
      have hL := hpart.done HN.out hsz
      go_wp2
      go_ret
      exact ⟨⟨_, rfl, Nat.le_refl _, hL⟩, hbel⟩
end Go.Proofs.Ytaplebckjbbobaa.Low
