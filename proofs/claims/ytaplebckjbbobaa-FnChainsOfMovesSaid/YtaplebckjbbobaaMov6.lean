/- The whole proof of fnChainsOfMoves_holds: its walks, its plain laws and its row; no condition is added. Part 6. -/
import Derived.Test.YtaplebckjbbobaaMov5
section
set_option linter.unusedSimpArgs false
namespace Go.Proofs.Ytaplebckjbbobaa.Dr
open Go.RowKit Bs Grd Fl
def Bts (W : World) (ao : Option Addr) (n : Nat) : Prop := ∀ i, i < n → ∃ (a : Addr) (x : Int), ao = some a ∧ W.cell? (a.add i) = some (.int .u8 x) ∧ 0 ≤ x ∧ x < 256
def Src (W : World) (b : Nat) (ao : Option Addr) (n : Nat) : Prop :=
  ∃ (cap k : Nat) (h : Int), W.heap[b]? = some (.cells #[.slice ao n cap, .int .i64 k, .int .u64 h] 127 (0, 0)) ∧ k ≤ n ∧ n ≤ 4096 ∧ Bts W ao n ∧ (∀ a, ao = some a → a.block ≠ b)
theorem wrap_u64b (n : Int) : 0 ≤ IntKind.u64.wrap n ∧ IntKind.u64.wrap n < 18446744073709551616 := by
  have : IntKind.u64.wrap n = n % 18446744073709551616 := by simp [IntKind.wrap, IntKind.bits, IntKind.signed]
  omega
theorem wraps_u64 (n : Int) (h₀ : 0 ≤ n) (h₁ : n < 2 ^ 31) : IntKind.u64.wrap n = n := by
  have : IntKind.u64.wrap n = n % 18446744073709551616 := by simp [IntKind.wrap, IntKind.bits, IntKind.signed]
  omega
theorem low24 (n : Int) : 0 ≤ wrap64 (bits BinOp.and IntKind.u64 (IntKind.u64.wrap n / 8589934592) 16777215) ∧ wrap64 (bits BinOp.and IntKind.u64 (IntKind.u64.wrap n / 8589934592) 16777215) ≤ 16777215 := by
  have hw := wrap_u64b n
  have h := bits_mask .u64 31 (by decide) wraps_u64 24 (by decide) (IntKind.u64.wrap n / 8589934592) (by omega) (by omega)
  have h2 : bits BinOp.and IntKind.u64 (IntKind.u64.wrap n / 8589934592) 16777215 = (IntKind.u64.wrap n / 8589934592) % 16777216 := by simpa using h
  rw [h2, Go.IntWalk.wrap64_in _ (by omega)]
  omega
theorem src_kp {w w' : World} {b : Nat} {ao : Option Addr} {n : Nat} (hk : Kp b w w') (hb : Bts w ao n) (hne : ∀ a, ao = some a → a.block ≠ b) : Bts w' ao n := by
  intro i hi
  obtain ⟨a, x, ha, hc, h0, h1⟩ := hb i hi
  have hlt := World.block_lt_of_cell? w _ hc
  exact ⟨a, x, ha, (World.cell?_of_block (hk.block _ hlt (by rw [Fl.add_block]; exact hne a ha))).trans hc, h0, h1⟩
set_option maxHeartbeats 1000000 in
set_option maxRecDepth 100000 in
theorem next_any (w : World) (b : Nat) (ao : Option Addr) (n : Nat) (m : Int) (hm : 1 ≤ m) (hm2 : m ≤ 1000000) (h : Src w b ao n) :
    Calls Try.prog 85 #[.pointer (some ⟨b, 0, none⟩), .int .i64 m] w fun e w' => ∃ x : Int, e = .returned (.int .i64 x) ∧ 0 ≤ x ∧ x < m ∧ Src w' b ao n ∧ Kp b w w' := by
  obtain ⟨cap, k, hh, hb, hk, hn, hbt, hne⟩ := h
  have c0 := blk_cell hb 0
  have c1 := blk_cell hb 1
  have c2 := blk_cell hb 2
  have f0 := blk_frozen hb 0
  have f1 := blk_frozen hb 1
  have f2 := blk_frozen hb 2
  simp only [List.getElem?_toArray, List.getElem?_cons_zero, List.getElem?_cons_succ] at c0 c1 c2
  have HB := Lib.hid hb
  have HT := Lib.hid hbt
  have HNe := Lib.hid hne
  clear hb hbt hne
  by_cases hlt : k < n
  · obtain ⟨a, x, rfl, cx, hx0, hx1⟩ := HT.out k hlt
    go_enter Try.func85, Try.ntmps85
    go_wp2
    obtain ⟨hl0, hl1⟩ := low24 (IntKind.u64.wrap (hh * 6364136223846793005) + 1442695040888963407)
    generalize wrap64 (bits BinOp.and IntKind.u64 (IntKind.u64.wrap (IntKind.u64.wrap (hh * 6364136223846793005) + 1442695040888963407) / 8589934592) 16777215) = x0 at hl0 hl1 ⊢
    generalize (IntKind.u64.wrap (IntKind.u64.wrap (hh * 6364136223846793005) + 1442695040888963407)) = z
    have hb1 : (w.setCell ⟨b, 2, none⟩ (.int .u64 z)).heap[b]? = some (.cells #[.slice (some a) n cap, .int .i64 k, .int .u64 z] 127 (0, 0)) := by simpa using blk_set HB.out 2 (.int .u64 z)
    have hkp1 := (Kp.refl b w).set 2 (.int .u64 z)
    have cx1 := (set_cell (W := w) (u := .int .u64 z) (pa := ⟨b, 2, none⟩) (a := a.add k) (by rw [Fl.add_block]; exact HNe.out a rfl)).trans cx
    clear c0 c1 c2 f0 f1 f2 cx
    generalize w.setCell ⟨b, 2, none⟩ (.int .u64 z) = W1 at hb1 hkp1 cx1 ⊢
    have c0 := blk_cell hb1 0
    have c1 := blk_cell hb1 1
    have c2 := blk_cell hb1 2
    have f0 := blk_frozen hb1 0
    have f1 := blk_frozen hb1 1
    have f2 := blk_frozen hb1 2
    simp only [List.getElem?_toArray, List.getElem?_cons_zero, List.getElem?_cons_succ] at c0 c1 c2
    have HK1 := Lib.hid hkp1
    have HB1 := Lib.hid hb1
    have hk1 : (0 : Int) ≤ (k : Int) := by omega
    have hk2 : (k : Int) < (n : Int) := by omega
    have w1 : wrap64 (x0 + x) = x0 + x := Go.IntWalk.wrap64_in _ (by omega)
    clear hkp1 hb1
    go_quiet (fail)
    go_wp2
    go_quiet (fail)
    go_wp2
    go_ret
    have hkp : ∀ q, Kp b w ((W1.drewN q).setCell ⟨b, 1, none⟩ (.int .i64 ((k : Int) + 1))) := fun q => (HK1.out.drewN q).set 1 _
    have hq : ∀ q, ((W1.drewN q).setCell ⟨b, 1, none⟩ (.int .i64 ((k : Int) + 1))).heap[b]? = some (.cells #[.slice (some a) n cap, .int .i64 ((k + 1 : Nat) : Int), .int .u64 z] 127 (0, 0)) := fun q => by
      simpa using blk_set (w := W1.drewN q) HB1.out 1 (.int .i64 ((k : Int) + 1))
    exact ⟨(x0 + x) % m, by first | rfl | (congr 1), Int.emod_nonneg _ (by omega), Int.emod_lt_of_pos _ (by omega), ⟨cap, k + 1, z, hq _, by omega, hn, src_kp (hkp _) HT.out HNe.out, HNe.out⟩, hkp _⟩
  · go_enter Try.func85, Try.ntmps85
    go_wp2
    obtain ⟨hl0, hl1⟩ := low24 (IntKind.u64.wrap (hh * 6364136223846793005) + 1442695040888963407)
    generalize wrap64 (bits BinOp.and IntKind.u64 (IntKind.u64.wrap (IntKind.u64.wrap (hh * 6364136223846793005) + 1442695040888963407) / 8589934592) 16777215) = x0 at hl0 hl1 ⊢
    generalize (IntKind.u64.wrap (IntKind.u64.wrap (hh * 6364136223846793005) + 1442695040888963407)) = z
    have hb1 : (w.setCell ⟨b, 2, none⟩ (.int .u64 z)).heap[b]? = some (.cells #[.slice ao n cap, .int .i64 k, .int .u64 z] 127 (0, 0)) := by simpa using blk_set HB.out 2 (.int .u64 z)
    have hkp1 := (Kp.refl b w).set 2 (.int .u64 z)
    clear c0 c1 c2 f0 f1 f2
    generalize w.setCell ⟨b, 2, none⟩ (.int .u64 z) = W1 at hb1 hkp1 ⊢
    have c0 := blk_cell hb1 0
    have c1 := blk_cell hb1 1
    simp only [List.getElem?_toArray, List.getElem?_cons_zero, List.getElem?_cons_succ] at c0 c1
    have HK1 := Lib.hid hkp1
    have HB1 := Lib.hid hb1
    have hk2 : ¬ (k : Int) < (n : Int) := by omega
    clear hkp1 hb1
    go_quiet (fail)
    go_wp2
    go_ret
    have hkp := HK1.out.drewN nq
    exact ⟨x0 % m, rfl, Int.emod_nonneg _ (by omega), Int.emod_lt_of_pos _ (by omega), ⟨cap, k, z, HB1.out, hk, hn, src_kp hkp HT.out HNe.out, HNe.out⟩, hkp⟩
set_option maxHeartbeats 1000000 in
set_option maxRecDepth 100000 in
theorem pick_any (w : World) (b g : Nat) (ao : Option Addr) (n m c : Nat) (L : List Int) (hm : m = L.length) (hm1 : 1 ≤ m) (hm2 : m ≤ 1000) (hg : RowAt w g L) (hne : g ≠ b) (h : Src w b ao n) :
    Calls Try.prog 86 #[.pointer (some ⟨b, 0, none⟩), .slice (some ⟨g, 0, none⟩) m c] w fun e w' => ∃ x : Int, e = .returned (.int .i64 x) ∧ x ∈ L ∧ Src w' b ao n ∧ Kp b w w' := by
  have HM := Lib.hid hm
  have HG := Lib.hid hg
  have C := Lib.hid (next_any w b ao n m (by omega) (by omega) h)
  clear hm hg h
  go_enter Try.func86, Try.ntmps86
  go_wp2_with fail
  refine (C.out).mono ?_
  rintro e w1 ⟨x, rfl, hx0, hx1, hs, hk⟩
  obtain ⟨y, hy⟩ : ∃ y, L[x.toNat]? = some y := ⟨L[x.toNat]'(by rw [← HM.out]; omega), by simp⟩
  have hrow : RowAt w1 g L := HG.out.same (hk.block g HG.out.lt hne)
  obtain ⟨c0, -⟩ := hrow.cell hy
  have z1 := add_at g 0 x.toNat
  rw [Nat.zero_add] at z1
  have HS := Lib.hid hs
  have HK := Lib.hid hk
  have HY := Lib.hid hy
  clear hs hk hy hrow C
  obtain ⟨q, rfl⟩ := Int.eq_ofNat_of_zero_le hx0
  rw [Int.toNat_natCast] at z1 c0 HY
  go_wp2
  go_ret
  exact ⟨y, rfl, List.mem_of_getElem? HY.out, HS.out, HK.out⟩
theorem Bts.below {w w1 : World} {ao : Option Addr} {n : Nat} (h : Bts w ao n) (hb : Below w.heap.size w w1) : Bts w1 ao n := by
  intro i hi
  obtain ⟨a, x, ha, hc, h0, h1⟩ := h i hi
  exact ⟨a, x, ha, cell_below hb hc, h0, h1⟩
theorem conv_len (n : Nat) (hn : n ≤ 4096) : IntKind.u64.wrap (n : Int) = n := by
  have : IntKind.u64.wrap (n : Int) = n % 18446744073709551616 := by simp [IntKind.wrap, IntKind.bits, IntKind.signed]
  omega
set_option maxHeartbeats 2000000 in
set_option maxRecDepth 100000 in
theorem from_any (w : World) (ao : Option Addr) (n cap : Nat) (hn : n ≤ 4096) (h : Bts w ao n) (hlt : ∀ a, ao = some a → a.block < w.heap.size) :
    Calls Try.prog 84 #[.slice ao n cap] w fun e w' => ∃ b, e = .returned (.pointer (some ⟨b, 0, none⟩)) ∧ w.heap.size ≤ b ∧ Src w' b ao n ∧ Below w.heap.size w w' := by
  have hu127 := Try.underlying127
  have HT := Lib.hid h
  have HLt := Lib.hid hlt
  have hc := conv_len n hn
  clear h hlt
  go_enter Try.func84, Try.ntmps84
  go_wp2
  go_loopw [4] (fun i wr => ∃ (k : Nat) (z : Int), i = .int .i64 k ∧ k ≤ n ∧ wr.heap[w.heap.size]? = some (.cells #[.slice ao n cap, .int .i64 0, .int .u64 z] 127 (0, 0)) ∧ Below w.heap.size w wr) (fun i _ => n - (intOf i).toNat)
  case atStart => exact ⟨0, _, rfl, Nat.zero_le _, heap_alloc_new _ _, below_alloc (Below.refl _ _) _⟩
  case round =>
    obtain ⟨k, z', rfl, hk, hb, hbel⟩ := hrel
    have HB := Lib.hid hb
    have HL := Lib.hid hbel
    have c2 := blk_cell hb 2
    have f2 := blk_frozen hb 2
    simp only [List.getElem?_toArray, List.getElem?_cons_zero, List.getElem?_cons_succ] at c2
    by_cases hlt : k < n
    · obtain ⟨a, x, rfl, cx, hx0, hx1⟩ := (HT.out.below hbel) k hlt
      have hk1 : (0 : Int) ≤ (k : Int) := by omega
      have hk2 : (k : Int) < (n : Int) := by omega
      have hk3 : (k : Int) < 4096 := by omega
      clear hb hbel
      go_wp2
      go_region
      go_wp2
      go_roundw
      case rel => exact ⟨k + 1, _, by go_num, by omega, by rw [hdrew]; simpa using blk_set HB.out 2 (.int .u64 _), (HL.out.setCell (Nat.le_refl _) _).drew⟩
      case measure => simp [intOf]; omega
    · have hk2 : ¬ (k : Int) < (n : Int) := by omega
      clear hb hbel c2 f2
      go_wp2
      go_ret
      exact ⟨w.heap.size, rfl, Nat.le_refl _, ⟨cap, 0, z', HB.out, Nat.zero_le _, hn, HT.out.below HL.out, fun a ha => by have := HLt.out a ha; omega⟩, HL.out⟩
end Go.Proofs.Ytaplebckjbbobaa.Dr
end
section
set_option linter.unusedSimpArgs false
namespace Go.Proofs.Ytaplebckjbbobaa.Dr
open Go.RowKit Bs Grd Fl
theorem Src.lt {W : World} {b n : Nat} {ao : Option Addr} (h : Src W b ao n) : b < W.heap.size := by
  obtain ⟨_, _, _, hb, _⟩ := h
  exact blk_lt hb
theorem Src.below {W W' : World} {b n : Nat} {ao : Option Addr} (h : Src W b ao n) (hb : Below W.heap.size W W') : Src W' b ao n := by
  obtain ⟨cap, k, z, h1, h2, h3, h4, h5⟩ := h
  exact ⟨cap, k, z, blk_below h1 hb, h2, h3, h4.below hb, h5⟩
structure DS (w W : World) (b : Nat) (ao : Option Addr) (n : Nat) (o : Obj) : Prop where
  src : Src W b ao n
  kp : Kp b w W
  box : W.heap[w.heap.size]? = some o
  ltb : b < w.heap.size
  siz : w.heap.size + 1 ≤ W.heap.size
  bts : Bts w ao n
section
variable {w W W' : World} {b n : Nat} {ao : Option Addr} {o : Obj}
theorem Src.bts (h : Src w b ao n) : Bts w ao n := by
  obtain ⟨_, _, _, _, _, _, h4, _⟩ := h
  exact h4
theorem DS.start (h : Src w b ao n) (o : Obj) : DS w (w.alloc o) b ao n o :=
  ⟨h.below (below_alloc (Below.refl _ _) _), (Kp.refl b w).below (below_alloc (Below.refl _ _) _), heap_alloc_new _ _, h.lt, by simp, h.bts⟩
theorem DS.step (h : DS w W b ao n o) (hs : Src W' b ao n) (hk : Kp b W W') : DS w W' b ao n o := by
  have h1 := h.ltb; have h2 := h.siz
  exact ⟨hs, h.kp.trans hk, (hk.block _ (by omega) (by omega)).trans h.box, h.ltb, Nat.le_trans h.siz hk.size, h.bts⟩
theorem DS.below (h : DS w W b ao n o) (hb : Below W.heap.size W W') : DS w W' b ao n o :=
  ⟨h.src.below hb, h.kp.below hb, blk_below h.box hb, h.ltb, Nat.le_trans h.siz hb.size, h.bts⟩
theorem Src.far {c : Nat} (h : Src W b ao n) (h0 : Bts w ao n) (hc : w.heap.size ≤ c) (hb : b < w.heap.size) (i : Nat) (v : Value) : Src (W.setCell ⟨c, i, none⟩ v) b ao n := by
  obtain ⟨cap, k, z, h1, h2, h3, h4, h5⟩ := h
  refine ⟨cap, k, z, blk_far h1 (by show b ≠ c; omega) _, h2, h3, fun j hj => ?_, h5⟩
  obtain ⟨a, x, ha, hx, e0, e1⟩ := h4 j hj
  obtain ⟨a', x', ha', hx', -, -⟩ := h0 j hj
  have e : a = a' := by rw [ha] at ha'; exact Option.some.inj ha'
  subst e
  have hlt := World.block_lt_of_cell? w _ hx'
  exact ⟨a, x, ha, (set_cell (W := W) (u := v) (pa := ⟨c, i, none⟩) (a := a.add j) (by show (a.add j).block ≠ c; omega)).trans hx, e0, e1⟩
theorem Kp.far {c : Nat} (h : Kp b w W) (hc : w.heap.size ≤ c) (i : Nat) (v : Value) : Kp b w (W.setCell ⟨c, i, none⟩ v) :=
  ⟨h.os, h.tape, h.output, by simpa using h.size, fun d hd hne => (Below.heap_setCell _ _ _ d (by show d ≠ c; omega)).trans (h.block d hd hne)⟩
theorem DS.put {cs : Array Value} {t : TypeId} (h : DS w W b ao n (.cells cs t (0, 0))) (i : Nat) (v : Value) : DS w (W.setCell ⟨w.heap.size, i, none⟩ v) b ao n (.cells (cs.setIfInBounds i v) t (0, 0)) :=
  ⟨h.src.far h.bts (Nat.le_refl _) h.ltb i v, Kp.far h.kp (Nat.le_refl _) i v, blk_set h.box i v, h.ltb, by simpa using h.siz, h.bts⟩
theorem DS.other {c : Nat} (h : DS w W b ao n o) (hc : w.heap.size < c) (i : Nat) (v : Value) : DS w (W.setCell ⟨c, i, none⟩ v) b ao n o :=
  ⟨h.src.far h.bts (Nat.le_of_lt hc) h.ltb i v, Kp.far h.kp (Nat.le_of_lt hc) i v, blk_far h.box (by show w.heap.size ≠ c; omega) v, h.ltb, by simpa using h.siz, h.bts⟩
theorem DS.put2 {x y : Value} (h : DS w W b ao n (.cells #[x, y] 26 (0, 0))) (u v : Value) : DS w ((W.setCell ⟨w.heap.size, 0, none⟩ u).setCell ⟨w.heap.size, 1, none⟩ v) b ao n (.cells #[u, v] 26 (0, 0)) := by
  simpa using (h.put 0 u).put 1 v
theorem DS.put3 {x y z : Value} (h : DS w W b ao n (.cells #[x, y, z] 29 (0, 0))) (u v t : Value) : DS w (((W.setCell ⟨w.heap.size, 0, none⟩ u).setCell ⟨w.heap.size, 1, none⟩ v).setCell ⟨w.heap.size, 2, none⟩ t) b ao n (.cells #[u, v, t] 29 (0, 0)) := by
  simpa using ((h.put 0 u).put 1 v).put 2 t
end
theorem row_new (W : World) (cs : Array Value) (L : List Int) (h : cs.toList = L.map (fun x => Value.int .i64 x)) : RowAt (W.alloc (.cells cs 2)) W.heap.size L := by
  refine ⟨cs, heap_alloc_new _ _, fun i x hi => ?_⟩
  have : cs.toList[i]? = some (.int .i64 x) := by rw [h, List.getElem?_map, hi]; rfl
  simpa using this
theorem make_any (num den : Int) (W : World) (hn : -1000000 ≤ num ∧ num ≤ 1000000) (hd : 1 ≤ den ∧ den ≤ 1000000) :
    Calls Try.prog 89 #[.int .i64 num, .int .i64 den] W fun e w' => (∃ p q r, e = .returned (.tuple #[.agg #[.int .i64 p, .int .i64 q], .bool r])) ∧ Below W.heap.size W w' := by
  obtain ⟨N, D, s, hs, ha, hb, hg, hD, hev⟩ := FracMath.make_ev num den (by omega) (by omega) (by omega)
  obtain ⟨k, hk⟩ := hev.rounds
  exact (PFnExactMoveFraction.spec_l10Make.calls k num den N D _ W hk).mono fun e w' ⟨he, hb'⟩ => ⟨⟨N, D, _, he⟩, hb'⟩
theorem res2 {W : World} {g : Nat} {x y : Value} (h : W.heap[g]? = some (.cells #[x, y] 26 (0, 0))) (u v : Value) :
    ((W.setCell ⟨g, 0, none⟩ u).setCell ⟨g, 1, none⟩ v).heap[g]? = some (.cells #[u, v] 26 (0, 0)) := by
  simpa using blk_set (blk_set h 0 u) 1 v
theorem cells2 {W : World} {g : Nat} {u v : Value} (h : W.heap[g]? = some (.cells #[u, v] 26 (0, 0))) : W.cell? ⟨g, 0, none⟩ = some u ∧ W.cell? ⟨g, 1, none⟩ = some v :=
  ⟨(blk_cell h 0).trans rfl, (blk_cell h 1).trans rfl⟩
def Drew (w : World) (b : Nat) (ao : Option Addr) (n : Nat) (w' : World) : Prop := Src w' b ao n ∧ Kp b w w'
def DrawnF (w : World) (b : Nat) (ao : Option Addr) (n : Nat) (e : Ending) (w' : World) : Prop := (∃ p q : Int, e = .returned (.agg #[.int .i64 p, .int .i64 q])) ∧ Drew w b ao n w'
theorem DS.drew {w W : World} {b n : Nat} {ao : Option Addr} {o : Obj} (h : DS w W b ao n o) : Drew w b ao n W := ⟨h.src, h.kp⟩
set_option maxHeartbeats 4000000 in
set_option maxRecDepth 100000 in
theorem draw_any (w : World) (b n : Nat) (ao : Option Addr) (h : Src w b ao n) :
    Calls Try.prog 90 #[.pointer (some ⟨b, 0, none⟩)] w (DrawnF w b ao n) := by
  have hu26 := Try.underlying26
  have HD0 := Lib.hid (DS.start h (.cells #[.int .i64 0, .int .i64 0] 26))
  clear h
  go_enter Try.func90, Try.ntmps90
  go_wp2_with fail
  refine (next_any _ b ao n 8 (by omega) (by omega) HD0.out.src).mono ?_
  rintro e w1 ⟨x1, rfl, l1, u1, hs, hk⟩
  have HD1 := Lib.hid (HD0.out.step hs hk)
  clear hs hk HD0
  go_wp2_with fail
  refine (next_any _ b ao n 30 (by omega) (by omega) HD1.out.src).mono ?_
  rintro e w2 ⟨x2, rfl, l2, u2, hs, hk⟩
  have HD2 := Lib.hid (HD1.out.step hs hk)
  clear hs hk HD1
  go_wp2_with fail
  refine (next_any _ b ao n 12 (by omega) (by omega) HD2.out.src).mono ?_
  rintro e w3 ⟨x3, rfl, l3, u3, hs, hk⟩
  have HD3 := Lib.hid (HD2.out.step hs hk)
  clear hs hk HD2
  go_wp2_with fail
  have HD4 := Lib.hid (HD3.out.below (below_alloc (Below.refl _ _) (.cells #[.int .i64 0, .int .i64 1, .int .i64 x1, .int .i64 (x2 - 10), .int .i64 x3] 2)))
  refine (pick_any _ b w3.heap.size ao n 5 5 [0, 1, x1, x2 - 10, x3] rfl (by omega) (by omega) (row_new w3 _ _ rfl) (by have := HD3.out.src.lt; omega) HD4.out.src).mono ?_
  rintro e w5 ⟨num, rfl, hnum, hs, hk⟩
  have hnb : -1000000 ≤ num ∧ num ≤ 1000000 := by
    simp at hnum
    omega
  have HD5 := Lib.hid (HD4.out.step hs hk)
  clear hs hk HD4 hnum HD3
  go_wp2_with fail
  refine (next_any _ b ao n 6 (by omega) (by omega) HD5.out.src).mono ?_
  rintro e w6 ⟨x4, rfl, l4, u4, hs, hk⟩
  have HD6 := Lib.hid (HD5.out.step hs hk)
  clear hs hk HD5
  go_wp2_with fail
  refine (next_any _ b ao n 12 (by omega) (by omega) HD6.out.src).mono ?_
  rintro e w7 ⟨x5, rfl, l5, u5, hs, hk⟩
  have HD7 := Lib.hid (HD6.out.step hs hk)
  clear hs hk HD6
  go_wp2_with fail
  have HD8 := Lib.hid (HD7.out.below (below_alloc (Below.refl _ _) (.cells #[.int .i64 1, .int .i64 2, .int .i64 (1 + x4), .int .i64 (1 + x5)] 2)))
  refine (pick_any _ b w7.heap.size ao n 4 4 [1, 2, 1 + x4, 1 + x5] rfl (by omega) (by omega) (row_new w7 _ _ rfl) (by have := HD7.out.src.lt; omega) HD8.out.src).mono ?_
  rintro e w9 ⟨den, rfl, hden, hs, hk⟩
  have hdb : 1 ≤ den ∧ den ≤ 1000000 := by
    simp at hden
    omega
  have HD9 := Lib.hid (HD8.out.step hs hk)
  clear hs hk HD8 hden HD7
  go_wp2_with fail
  refine (next_any _ b ao n 12 (by omega) (by omega) HD9.out.src).mono ?_
  rintro e w10 ⟨x6, rfl, l6, u6, hs, hk⟩
  have HD10 := Lib.hid (HD9.out.step hs hk)
  clear hs hk HD9
  have fz0 := blk_frozen HD10.out.box 0
  have fz1 := blk_frozen HD10.out.box 1
  obtain ⟨r0, r1⟩ := cells2 HD10.out.box
  have hsz := HD10.out.siz
  have l0 : w.heap.size < w10.heap.size := by omega
  by_cases hx6 : x6 = 0
  · subst hx6
    go_wp2
    have HF := Lib.hid (HD10.out.put2 (.int .i64 1) (.int .i64 0))
    obtain ⟨d0, d1⟩ := cells2 HF.out.box
    exact bodyPost_ret (v := .agg #[.int .i64 1, .int .i64 0]) (by simp [results, Try.results90, go_sem, d0, d1]) rfl ⟨⟨1, 0, rfl⟩, HF.out.drew⟩
  · have hx6' : (x6 == 0) = false := by simpa using hx6
    clear hx6
    have C89 := Lib.hid (make_any num den w10 hnb hdb)
    clear hnb hdb fz0 fz1 r0 r1
    go_wp2_with fail
    refine (C89.out).mono ?_
    rintro e w11 ⟨⟨p, q, r, rfl⟩, hb⟩
    have HD11 := Lib.hid (HD10.out.below hb)
    clear hb C89 HD10
    go_wp2_with fail
    have HD12 := Lib.hid (HD11.out.below (below_alloc (Below.refl _ _) (.cells #[.int .i64 p, .int .i64 q] 26)))
    refine (next_any _ b ao n 50 (by omega) (by omega) HD12.out.src).mono ?_
    rintro e w13 ⟨x7, rfl, l7, u7, hs, hk⟩
    have HD13 := Lib.hid (HD12.out.step hs hk)
    have hbx : w13.heap[w11.heap.size]? = some (.cells #[.int .i64 p, .int .i64 q] 26 (0, 0)) := (hk.block _ (by simp) (by have := HD11.out.src.lt; omega)).trans (heap_alloc_new w11 _)
    have hgt : w.heap.size < w11.heap.size := by have := HD11.out.siz; omega
    have hl13 := blk_lt hbx
    have HBx := Lib.hid hbx
    clear hs hk HD12 HD11 hbx
    have fz0 := blk_frozen HD13.out.box 0
    have fz1 := blk_frozen HD13.out.box 1
    obtain ⟨r0, r1⟩ := cells2 HD13.out.box
    have fx0 := blk_frozen HBx.out 0
    have fx1 := blk_frozen HBx.out 1
    obtain ⟨s0, s1⟩ := cells2 HBx.out
    have l13 : w.heap.size < w13.heap.size := by omega
    have hne1 : w.heap.size ≠ w11.heap.size := by omega
    have hne2 : w11.heap.size ≠ w.heap.size := by omega
    by_cases h0 : x7 = 0
    · subst h0
      go_wp2
      have HF := Lib.hid ((HD13.out.other hgt 1 (.int .i64 (wrap64 (-q)))).put2 (.int .i64 p) (.int .i64 (wrap64 (-q))))
      obtain ⟨d0, d1⟩ := cells2 HF.out.box
      exact bodyPost_ret (v := .agg #[.int .i64 (p), .int .i64 (wrap64 (-q))]) (by simp [results, Try.results90, go_sem, d0, d1]) rfl ⟨⟨_, _, rfl⟩, HF.out.drew⟩
    · have h0' : (x7 == 0) = false := by simpa using h0
      by_cases h1 : x7 = 1
      · subst h1
        go_wp2
        have HF := Lib.hid (((HD13.out.other hgt 0 (.int .i64 (wrap64 (p * 2)))).other hgt 1 (.int .i64 (wrap64 (q * 2)))).put2 (.int .i64 (wrap64 (p * 2))) (.int .i64 (wrap64 (q * 2))))
        obtain ⟨d0, d1⟩ := cells2 HF.out.box
        exact bodyPost_ret (v := .agg #[.int .i64 (wrap64 (p * 2)), .int .i64 (wrap64 (q * 2))]) (by simp [results, Try.results90, go_sem, d0, d1]) rfl ⟨⟨_, _, rfl⟩, HF.out.drew⟩
      · have h1' : (x7 == 1) = false := by simpa using h1
        by_cases h2 : x7 = 2
        · subst h2
          clear h0 h1
          go_wp2_with fail
          refine (next_any _ b ao n 3 (by omega) (by omega) HD13.out.src).mono ?_
          rintro e w14 ⟨x8, rfl, l8, u8, hs, hk⟩
          have HD14 := Lib.hid (HD13.out.step hs hk)
          have HBx2 := Lib.hid ((hk.block _ hl13 (by have := HD13.out.ltb; omega)).trans HBx.out)
          have hsz14 := hk.size
          clear hs hk HD13 HBx fz0 fz1 r0 r1 fx0 fx1 s0 s1
          have fz0 := blk_frozen HD14.out.box 0
          have fz1 := blk_frozen HD14.out.box 1
          obtain ⟨r0, r1⟩ := cells2 HD14.out.box
          have fx0 := blk_frozen HBx2.out 0
          have fx1 := blk_frozen HBx2.out 1
          obtain ⟨s0, s1⟩ := cells2 HBx2.out
          go_wp2
          have HF := Lib.hid ((HD14.out.other hgt 0 (.int .i64 (1000000000 - x8 + 1))).put2 (.int .i64 (1000000000 - x8 + 1)) (.int .i64 q))
          obtain ⟨d0, d1⟩ := cells2 HF.out.box
          exact bodyPost_ret (v := .agg #[.int .i64 (1000000000 - x8 + 1), .int .i64 (q)]) (by simp [results, Try.results90, go_sem, d0, d1]) rfl ⟨⟨_, _, rfl⟩, HF.out.drew⟩
        · have h2' : (x7 == 2) = false := by simpa using h2
          clear h0 h1 h2
          go_wp2
          have HF := Lib.hid (HD13.out.put2 (.int .i64 p) (.int .i64 q))
          obtain ⟨d0, d1⟩ := cells2 HF.out.box
          exact bodyPost_ret (v := .agg #[.int .i64 p, .int .i64 q]) (by simp [results, Try.results90, go_sem, d0, d1]) rfl ⟨⟨_, _, rfl⟩, HF.out.drew⟩
def DrawnM (w : World) (b : Nat) (ao : Option Addr) (n : Nat) (e : Ending) (w' : World) : Prop := (∃ m0 m1 m2 : Int, e = .returned (.agg #[.int .i64 m0, .int .i64 m1, .int .i64 m2])) ∧ Drew w b ao n w'
set_option maxHeartbeats 4000000 in
set_option maxRecDepth 100000 in
theorem drawMove_any (w : World) (b n : Nat) (ao : Option Addr) (h : Src w b ao n) :
    Calls Try.prog 93 #[.pointer (some ⟨b, 0, none⟩)] w (DrawnM w b ao n) := by
  have hu29 := Try.underlying29
  have HD0 := Lib.hid (DS.start h (.cells #[.int .i64 0, .int .i64 0, .int .i64 0] 29))
  clear h
  go_enter Try.func93, Try.ntmps93
  go_wp2_with fail
  refine (next_any _ b ao n 20 (by omega) (by omega) HD0.out.src).mono ?_
  rintro e w1 ⟨x1, rfl, l1, u1, hs, hk⟩
  have HD1 := Lib.hid (HD0.out.step hs hk)
  clear hs hk HD0
  by_cases h0 : x1 = 0
  · subst h0
    go_wp2_with fail
    have HD2 := Lib.hid (HD1.out.below (below_alloc (Below.refl _ _) (.cells #[.int .i64 3, .int .i64 (-1), .int .i64 1] 2)))
    refine (pick_any _ b w1.heap.size ao n 3 3 [3, -1, 1] rfl (by omega) (by omega) (row_new w1 _ _ rfl) (by have := HD1.out.src.lt; omega) HD2.out.src).mono ?_
    rintro e w3 ⟨y, rfl, hy, hs, hk⟩
    have HD3 := Lib.hid (HD2.out.step hs hk)
    clear hs hk HD2 hy HD1
    go_wp2_with fail
    refine (next_any _ b ao n 2 (by omega) (by omega) HD3.out.src).mono ?_
    rintro e w4 ⟨x2, rfl, l2, u2, hs, hk⟩
    have HD4 := Lib.hid (HD3.out.step hs hk)
    clear hs hk HD3
    have fz0 := blk_frozen HD4.out.box 0
    have fz1 := blk_frozen HD4.out.box 1
    have fz2 := blk_frozen HD4.out.box 2
    obtain ⟨r0, r1, r2⟩ := cells3 HD4.out.box
    go_wp2
    have HF := Lib.hid (HD4.out.put3 (.int .i64 y) (.int .i64 x2) (.int .i64 0))
    obtain ⟨d0, d1, d2⟩ := cells3 HF.out.box
    exact bodyPost_ret (v := .agg #[.int .i64 y, .int .i64 x2, .int .i64 0]) (by simp [results, Try.results93, go_sem, d0, d1, d2]) rfl ⟨⟨_, _, _, rfl⟩, HF.out.drew⟩
  · have h0' : (x1 == 0) = false := by simpa using h0
    by_cases h1 : x1 = 1
    · subst h1
      go_wp2_with fail
      have HD2 := Lib.hid (HD1.out.below (below_alloc (Below.refl _ _) (.cells #[.int .i64 0, .int .i64 21, .int .i64 20] 2)))
      refine (pick_any _ b w1.heap.size ao n 3 3 [0, 21, 20] rfl (by omega) (by omega) (row_new w1 _ _ rfl) (by have := HD1.out.src.lt; omega) HD2.out.src).mono ?_
      rintro e w4 ⟨y, rfl, hy, hs, hk⟩
      have HD4 := Lib.hid (HD2.out.step hs hk)
      clear hs hk HD2 hy HD1
      have fz0 := blk_frozen HD4.out.box 0
      have fz1 := blk_frozen HD4.out.box 1
      have fz2 := blk_frozen HD4.out.box 2
      obtain ⟨r0, r1, r2⟩ := cells3 HD4.out.box
      go_wp2
      have HF := Lib.hid (HD4.out.put3 (.int .i64 2) (.int .i64 y) (.int .i64 20))
      obtain ⟨d0, d1, d2⟩ := cells3 HF.out.box
      exact bodyPost_ret (v := .agg #[.int .i64 2, .int .i64 y, .int .i64 20]) (by simp [results, Try.results93, go_sem, d0, d1, d2]) rfl ⟨⟨_, _, _, rfl⟩, HF.out.drew⟩
    · have h1' : (x1 == 1) = false := by simpa using h1
      clear h0 h1
      go_wp2_with fail
      refine (next_any _ b ao n 3 (by omega) (by omega) HD1.out.src).mono ?_
      rintro e w2 ⟨x2, rfl, l2, u2, hs, hk⟩
      have HD2 := Lib.hid (HD1.out.step hs hk)
      clear hs hk HD1
      by_cases h2 : x2 = 0
      · subst h2
        go_wp2_with fail
        refine (next_any _ b ao n 2 (by omega) (by omega) HD2.out.src).mono ?_
        rintro e w4 ⟨x3, rfl, l3, u3, hs, hk⟩
        have HD4 := Lib.hid (HD2.out.step hs hk)
        clear hs hk HD2
        have fz0 := blk_frozen HD4.out.box 0
        have fz1 := blk_frozen HD4.out.box 1
        have fz2 := blk_frozen HD4.out.box 2
        obtain ⟨r0, r1, r2⟩ := cells3 HD4.out.box
        go_wp2
        have HF := Lib.hid (HD4.out.put3 (.int .i64 x3) (.int .i64 0) (.int .i64 0))
        obtain ⟨d0, d1, d2⟩ := cells3 HF.out.box
        exact bodyPost_ret (v := .agg #[.int .i64 x3, .int .i64 0, .int .i64 0]) (by simp [results, Try.results93, go_sem, d0, d1, d2]) rfl ⟨⟨_, _, _, rfl⟩, HF.out.drew⟩
      · have h2' : (x2 == 0) = false := by simpa using h2
        clear h2
        go_wp2_with fail
        refine (next_any _ b ao n 4 (by omega) (by omega) HD2.out.src).mono ?_
        rintro e w3 ⟨x3, rfl, l3, u3, hs, hk⟩
        have HD3 := Lib.hid (HD2.out.step hs hk)
        clear hs hk HD2
        go_wp2_with fail
        refine (next_any _ b ao n 4 (by omega) (by omega) HD3.out.src).mono ?_
        rintro e w4 ⟨x4, rfl, l4, u4, hs, hk⟩
        have HD4 := Lib.hid (HD3.out.step hs hk)
        clear hs hk HD3
        have fz0 := blk_frozen HD4.out.box 0
        have fz1 := blk_frozen HD4.out.box 1
        have fz2 := blk_frozen HD4.out.box 2
        obtain ⟨r0, r1, r2⟩ := cells3 HD4.out.box
        go_wp2
        have HF := Lib.hid (HD4.out.put3 (.int .i64 2) (.int .i64 (1 + x3)) (.int .i64 (1 + x4)))
        obtain ⟨d0, d1, d2⟩ := cells3 HF.out.box
        exact bodyPost_ret (v := .agg #[.int .i64 2, .int .i64 (1 + x3), .int .i64 (1 + x4)]) (by simp [results, Try.results93, go_sem, d0, d1, d2]) rfl ⟨⟨_, _, _, rfl⟩, HF.out.drew⟩
end Go.Proofs.Ytaplebckjbbobaa.Dr
end
section
set_option linter.unusedSimpArgs false
namespace Go.Proofs.Ytaplebckjbbobaa.Dr
open Go.RowKit Bs Grd Fl
open FracMath (Fr)
structure DX (w W : World) (b : Nat) (ao : Option Addr) (n : Nat) : Prop where
  src : Src W b ao n
  kp : Kp b w W
  ltb : b < w.heap.size
  bts : Bts w ao n
section
variable {w W W' : World} {b n : Nat} {ao : Option Addr} {row : Option Nat}
theorem DX.start (h : Src w b ao n) : DX w w b ao n := ⟨h, Kp.refl b w, h.lt, h.bts⟩
theorem DX.step (h : DX w W b ao n) (hs : Src W' b ao n) (hk : Kp b W W') : DX w W' b ao n := ⟨hs, h.kp.trans hk, h.ltb, h.bts⟩
theorem DX.below (h : DX w W b ao n) (hb : Below W.heap.size W W') : DX w W' b ao n := ⟨h.src.below hb, h.kp.below hb, h.ltb, h.bts⟩
theorem DX.other {c : Nat} (h : DX w W b ao n) (hc : w.heap.size ≤ c) (i : Nat) (v : Value) : DX w (W.setCell ⟨c, i, none⟩ v) b ao n := ⟨h.src.far h.bts hc h.ltb i v, Kp.far h.kp hc i v, h.ltb, h.bts⟩
theorem DX.size (h : DX w W b ao n) : w.heap.size ≤ W.heap.size := h.kp.size
theorem DX.grown (h : DX w W b ao n) (hg : W.grownBy W' row) (hr : ∀ k, row = some k → w.heap.size ≤ k) : DX w W' b ao n := by
  have hl := h.ltb
  obtain ⟨cap, k, z, h1, h2, h3, h4, h5⟩ := h.src
  refine ⟨⟨cap, k, z, (hg.block b (blk_lt h1) (fun e => by have := hr _ e.symm; omega)).trans h1, h2, h3, fun j hj => ?_, h5⟩, ⟨hg.os.trans h.kp.os, hg.tape.trans h.kp.tape, hg.output.trans h.kp.output, Nat.le_trans h.kp.size hg.size, fun c hc hne => (hg.block c (Nat.lt_of_lt_of_le hc h.kp.size) (fun e => by have := hr _ e.symm; omega)).trans (h.kp.block c hc hne)⟩, h.ltb, h.bts⟩
  obtain ⟨a, x, ha, hx, e0, e1⟩ := h4 j hj
  obtain ⟨a', x', ha', hx', -, -⟩ := h.bts j hj
  have e : a = a' := by rw [ha] at ha'; exact Option.some.inj ha'
  subst e
  have hlt := World.block_lt_of_cell? w _ hx'
  exact ⟨a, x, ha, hg.cell hx (fun e => by have := hr _ e.symm; omega), e0, e1⟩
theorem FOwn.kpt {base : Nat} {v : Value} {L : List F2} (h : FOwn W base v L) (hk : Kp b W W') (hb : b < base) : FOwn W' base v L := by
  obtain ⟨h1, h2⟩ := h
  refine ⟨h1, ?_⟩
  rcases h2 with h2 | ⟨g, cap, cur, rfl, hg, hh, r⟩
  · exact .inl h2
  · exact .inr ⟨g, cap, cur, rfl, hg, (hk.block g (blk_lt hh) (by omega)).trans hh, r⟩
end
def DrawnS (w : World) (b : Nat) (ao : Option Addr) (n : Nat) (e : Ending) (w' : World) : Prop :=
  (∃ g c L, e = .returned (.slice (some ⟨g, 0, none⟩) (List.length L) c) ∧ w.heap.size ≤ g ∧ FRow w' g L ∧ L.length ≤ 100) ∧ Drew w b ao n w'
set_option maxHeartbeats 8000000 in
set_option maxRecDepth 100000 in
theorem drawSet_any (w : World) (b n : Nat) (ao : Option Addr) (h : Src w b ao n) :
    Calls Try.prog 97 #[.pointer (some ⟨b, 0, none⟩)] w (DrawnS w b ao n) := by
  have hu26 := Try.underlying26
  have hu49 := Try.underlying49
  obtain ⟨i0, hi, hz0, hz1, hz2⟩ := info_parts info26
  have HI := Lib.hid hi
  have HD0 := Lib.hid (DX.start h)
  clear h hi
  have hlb := HD0.out.ltb
  go_enter Try.func97, Try.ntmps97
  go_wp2_with fail
  have HD1 := Lib.hid (HD0.out.below (below_alloc (Below.refl _ _) (.cells #[] 26)))
  have hown1 : FOwn (w.alloc (.cells #[] 26)) w.heap.size (.slice (some ⟨w.heap.size, 0, none⟩) 0 0) [] := by
    have := World.ownsRow_made (base := w.heap.size) (e := 26) (size := 2) w #[] 0 (Nat.le_refl _) (by unfold maxLen; omega) (by simp)
    simpa [FOwn, fcells] using this
  have HO1 := Lib.hid hown1
  clear hown1
  refine (next_any _ b ao n 6 (by omega) (by omega) HD1.out.src).mono ?_
  rintro e w2 ⟨x1, rfl, l1, j1, hs, hk⟩
  have HD2 := Lib.hid (HD1.out.step hs hk)
  have HO2 := Lib.hid (FOwn.kpt HO1.out hk hlb)
  clear hs hk HD1 HO1 HD0
  go_wp2_with fail
  have HD3 := Lib.hid (HD2.out.below (below_alloc (Below.refl _ _) (.cells #[.int .i64 1, .int .i64 1, .int .i64 2, .int .i64 2, .int .i64 3, .int .i64 x1] 2)))
  have HO3 : Hid (FOwn (w2.alloc (.cells #[.int .i64 1, .int .i64 1, .int .i64 2, .int .i64 2, .int .i64 3, .int .i64 x1] 2)) w.heap.size (.slice (some ⟨w.heap.size, 0, none⟩) 0 0) []) := Lib.hid (own_below HO2.out (below_alloc (Below.refl _ _) _))
  refine (pick_any _ b w2.heap.size ao n 6 6 [1, 1, 2, 2, 3, x1] rfl (by omega) (by omega) (row_new w2 _ _ rfl) (by have := HD2.out.src.lt; omega) HD3.out.src).mono ?_
  rintro e w4 ⟨y, rfl, hy, hs, hk⟩
  have hyb : 0 ≤ y ∧ y ≤ 6 := by
    simp at hy
    omega
  have HD4 := Lib.hid (HD3.out.step hs hk)
  have HO4 := Lib.hid (FOwn.kpt HO3.out hk hlb)
  clear hs hk HD3 HO3 HD2 HO2 hy
  go_wp2
  go_loopw [3, 4] (fun v i wr => ∃ (k : Int) (O : List F2), i = .int .i64 k ∧ 0 ≤ k ∧ k ≤ 6 ∧ (∀ x ∈ O, FR x) ∧ (O.length : Int) + k ≤ 6 ∧ FOwn wr w.heap.size v O ∧ v ≠ .slice none 0 0 ∧ DX w wr b ao n) (fun _ i _ => (intOf i).toNat)
  case atStart => exact ⟨y, [], rfl, hyb.1, hyb.2, fun x h => by simp at h, by simpa using hyb.2, HO4.out, by simp, HD4.out⟩
  case round =>
    clear HD4 HO4 hyb
    obtain ⟨k, O, rfl, hk0, hk6, hfr, hol, hown, hne, hx⟩ := hrel
    have HF := Lib.hid hfr
    have HO := Lib.hid hown
    have HE := Lib.hid hne
    have HX := Lib.hid hx
    clear hfr hown hne hx
    by_cases hpos : 0 < k
    · go_wp2_with fail
      refine (next_any _ b ao n 5 (by omega) (by omega) HX.out.src).mono ?_
      rintro e w2 ⟨x2, rfl, l2, j2, hs, hk⟩
      have HX2 := Lib.hid (HX.out.step hs hk)
      have HO2 := Lib.hid (FOwn.kpt HO.out hk hlb)
      clear hs hk HX HO
      go_wp2_with fail
      refine (next_any _ b ao n 5 (by omega) (by omega) HX2.out.src).mono ?_
      rintro e w3 ⟨x3, rfl, l3, j3, hs, hk⟩
      have HX3 := Lib.hid (HX2.out.step hs hk)
      have HO3 := Lib.hid (FOwn.kpt HO2.out hk hlb)
      clear hs hk HX2 HO2
      go_wp2_with fail
      refine (make_any x2 (1 + x3) w3 (by omega) (by omega)).mono ?_
      rintro e w4 ⟨⟨p, q, r, rfl⟩, hb⟩
      have HX4 := Lib.hid (HX3.out.below (hb.trans (below_alloc (Below.refl _ _) (.cells #[.int .i64 p, .int .i64 q] 26) |>.mono hb.size)))
      have HO4 : Hid (FOwn (w4.alloc (.cells #[.int .i64 p, .int .i64 q] 26)) w.heap.size u3 O) := Lib.hid (World.ownsRow.alloc (own_below HO3.out hb) _)
      have HOb : Hid (∀ k, u3.ownBlock = some k → k < w4.heap.size) := Lib.hid fun k hk => own_lt (own_below HO3.out hb) k hk
      have hgx := HX3.out.size
      have hgx2 : w.heap.size ≤ w4.heap.size := Nat.le_trans hgx hb.size
      clear hb HX3 HO3 hgx
      go_wp2_with fail
      refine (next_any _ b ao n 3 (by omega) (by omega) HX4.out.src).mono ?_
      rintro e w5 ⟨x5, rfl, l5, j5, hs, hk⟩
      have HX5 := Lib.hid (HX4.out.step hs hk)
      have HO5 := Lib.hid (FOwn.kpt HO4.out hk hlb)
      have hbx : w5.heap[w4.heap.size]? = some (.cells #[.int .i64 p, .int .i64 q] 26 (0, 0)) := (hk.block _ (by simp) (by omega)).trans (heap_alloc_new w4 _)
      have HBx := Lib.hid hbx
      clear hs hk HX4 HO4 hbx
      go_upto_if 30 with (fail)
      obtain ⟨W5, rfl⟩ : ∃ W5 : World, W5 = w5 := ⟨_, rfl⟩
      go_cut [32] (fun _ wc => ∃ p q : Int, wc.heap[w4.heap.size]? = some (.cells #[.int .i64 p, .int .i64 q] 26 (0, 0)) ∧ DX w wc b ao n ∧ FOwn wc w.heap.size u3 O)
      case first =>
        by_cases h5 : x5 = 0
        · subst h5
          go_wp2_with fail
          refine (draw_any _ b n ao HX5.out.src).mono ?_
          rintro e w6 ⟨⟨p', q', rfl⟩, hs, hk⟩
          have HX6 := Lib.hid (HX5.out.step hs hk)
          have HO6 := Lib.hid (FOwn.kpt HO5.out hk hlb)
          have hbx6 := (hk.block _ (blk_lt HBx.out) (by omega)).trans HBx.out
          have HBx6 := Lib.hid hbx6
          have fx0 := blk_frozen hbx6 0
          have fx1 := blk_frozen hbx6 1
          obtain ⟨s0, s1⟩ := cells2 hbx6
          clear hs hk hbx6
          go_wp2_with fail
          go_meet
          case rel => 
            exact ⟨p', q', res2 HBx6.out _ _, (HX6.out.other hgx2 0 _).other hgx2 1 _, own_set (own_set HO6.out (fun e => by have := HOb.out _ e.symm; exact absurd this (Nat.lt_irrefl _)) _) (fun e => by have := HOb.out _ e.symm; exact absurd this (Nat.lt_irrefl _)) _⟩
        · have h5' : (x5 == 0) = false := by simpa using h5
          clear h5
          go_wp2_with fail
          go_meet
          case rel => exact ⟨p, q, HBx.out, HX5.out, HO5.out⟩
      case rest =>
        obtain ⟨W6, rfl⟩ : ∃ W6 : World, W6 = wc := ⟨_, rfl⟩
        clear HX5 HO5 HBx
        obtain ⟨p, q, hbx, hx, ho⟩ := hcut
        have HX6 := Lib.hid hx
        have HO6 := Lib.hid ho
        have HBx6 := Lib.hid hbx
        obtain ⟨s0, s1⟩ := cells2 hbx
        clear hbx hx ho
        go_wp2_with fail
        refine (Low.spec_is_any p q _).mono ?_
        rintro e W7 ⟨rfl, hb⟩
        have HX7 := Lib.hid (HX6.out.below hb)
        have HO7 : Hid (FOwn W7 w.heap.size u3 O) := Lib.hid (own_below HO6.out hb)
        have HBx7 := Lib.hid (blk_below HBx6.out hb)
        clear hb HX6 HO6 HBx6 s0 s1
        by_cases hfr : Fr p q
        · rw [decide_eq_true hfr]
          obtain ⟨g, c, hv6⟩ := HO7.out.shape HE.out
          have hO3 := HO7.out
          rw [hv6] at hO3
          obtain ⟨hrow, hg, -, hlc, hcm⟩ := hO3.row
          unfold maxLen at hcm
          obtain ⟨nO, hnO⟩ : ∃ q, q = O.length := ⟨_, rfl⟩
          rw [← hnO] at hv6 hlc hO3 hol
          have HnO := Lib.hid hnO
          have HO4 := Lib.hid hO3
          have HR3 := Lib.hid hrow
          have hgl : g < W7.heap.size := hrow.lt
          have hgxl : w4.heap.size < W7.heap.size := blk_lt HBx7.out
          clear hO3 hrow hnO HO7 HE
          subst hv6
          go_upto_block 2 with (fail)
          go_cut [7] (fun v10 wl => ∃ j : Nat, v10 = .int .i64 j ∧ j ≤ nO ∧ (∀ (i : Nat) (y : F2), i < j → O[i]? = some y → Lt y (p, q)) ∧ (∀ y, O[j]? = some y → ¬ Lt y (p, q)) ∧ Below W7.heap.size W7 wl)
          case first =>
            go_wp2_with fail
            go_loopw [7] (fun i wl => ∃ j : Nat, i = .int .i64 j ∧ j ≤ nO ∧ (∀ (i : Nat) (y : F2), i < j → O[i]? = some y → Lt y (p, q)) ∧ Below W7.heap.size W7 wl) (fun i _ => nO - (intOf i).toNat)
            case atStart => exact ⟨0, rfl, Nat.zero_le _, fun i y h => absurd h (Nat.not_lt_zero _), Below.refl _ _⟩
            case round =>
              obtain ⟨j, rfl, hj, hlow, hbel⟩ := hrel
              have HLw := Lib.hid hlow
              have HB := Lib.hid hbel
              clear hlow hbel
              by_cases hlj : j < nO
              · obtain ⟨y, hy⟩ : ∃ y, O[j]? = some y := ⟨O[j]'(by rw [← HnO.out]; exact hlj), by simp⟩
                obtain ⟨c0, c1⟩ := (HR3.out.below HB.out).cell hy
                have hb3 := blk_below HBx7.out HB.out
                have b0 := blk_cell hb3 0
                have b1 := blk_cell hb3 1
                simp only [List.getElem?_toArray, List.getElem?_cons_zero, List.getElem?_cons_succ] at b0 b1
                have fy : FR y := HF.out y (List.mem_of_getElem? hy)
                have fx : FR (p, q) := hfr
                have C92 := Lib.hid (fun W => spec_compare_any y.1 y.2 p q W ⟨fy.1, fy.2.1, fy.2.2.1, fy.2.2.2.1⟩ ⟨fx.1, fx.2.1, fx.2.2.1, fx.2.2.2.1⟩)
                have HY := Lib.hid hy
                have hj1 : (0 : Int) ≤ (j : Int) := by omega
                have hj2 : (j : Int) < (nO : Int) := by omega
                have hg' : decide ((j : Int) < (nO : Int)) = true := decide_eq_true (by omega)
                have z1 := add_at g 0 (j * 2)
                rw [Nat.zero_add] at z1
                clear hy hb3 fy fx
                go_wp2_with fail
                go_region_held3 (fun W' => W'.cell? ⟨g, j * 2, none⟩ = some (.int .i64 y.1) ∧ W'.cell? ⟨g, j * 2 + 1, none⟩ = some (.int .i64 y.2) ∧ W'.cell? ⟨w4.heap.size, 0, none⟩ = some (.int .i64 p) ∧ W'.cell? ⟨w4.heap.size, 1, none⟩ = some (.int .i64 q))
                  (first | (go_keep; done) | (apply keep4; (case hb => assumption); (case h => assumption)))
                  ((first | (go_at_call 92; refine (C92.out _).mono ?_; rintro e w5 ⟨rfl, hb5⟩)))
                have HB5 := Lib.hid (below_step HB.out.drew hb5)
                by_cases hc : cmpF (y.1, y.2) (p, q) < 0
                · rw [decide_eq_true hc]
                  go_wp2_with fail
                  go_roundw
                  case rel =>
                    refine ⟨j + 1, by go_num, by omega, fun i z hi hz => ?_, HB5.out⟩
                    by_cases hij : i < j
                    · exact HLw.out i z hij hz
                    · obtain rfl : i = j := by omega
                      rw [HY.out] at hz
                      obtain rfl := Option.some.inj hz
                      exact hc
                  case measure => simp [intOf]; omega
                · rw [decide_eq_false hc]
                  go_wp2_with fail
                  go_meet
                  case rel => exact ⟨j, rfl, hj, HLw.out, fun z hz => by rw [HY.out] at hz; obtain rfl := Option.some.inj hz; exact Int.not_lt.2 hc, HB5.out⟩
              · have hg' : decide ((j : Int) < (nO : Int)) = false := decide_eq_false (by omega)
                go_wp2_with fail
                go_quiet (fail)
                go_wp2_with fail
                go_meet
                case rel => exact ⟨j, rfl, hj, HLw.out, fun z hz => by have := (List.getElem?_eq_some_iff.1 hz).1; have := HnO.out; omega, below_drewN HB.out _⟩
          case rest =>
            obtain ⟨W2, rfl⟩ : ∃ W2 : World, W2 = wc := ⟨_, rfl⟩
            obtain ⟨j, rfl, hj, hlow, hat, hbel⟩ := hcut
            have HLw := Lib.hid hlow
            have HAt := Lib.hid hat
            have HB := Lib.hid hbel
            clear hlow hat hbel
            go_upto_region 12 with (fail)
            go_cut [62] (fun v56 wx => ∃ b : Bool, v56 = .bool b ∧ (b = true → ∀ y, O[j]? = some y → y ≠ (p, q)) ∧ (b = false → O[j]? = some (p, q)) ∧ Below W7.heap.size W7 wx)
            case first =>
              by_cases hlj : j < nO
              · obtain ⟨y, hy⟩ : ∃ y, O[j]? = some y := ⟨O[j]'(by rw [← HnO.out]; exact hlj), by simp⟩
                obtain ⟨c0, c1⟩ := (HR3.out.below HB.out).cell hy
                have hb3 := blk_below HBx7.out HB.out
                have b0 := blk_cell hb3 0
                have b1 := blk_cell hb3 1
                simp only [List.getElem?_toArray, List.getElem?_cons_zero, List.getElem?_cons_succ] at b0 b1
                have hj1 : (0 : Int) ≤ (j : Int) := by omega
                have hj2 : (j : Int) < (nO : Int) := by omega
                have hg1 : ((j : Int) == (nO : Int)) = false := by simp; omega
                have z1 := add_at g 0 (j * 2)
                rw [Nat.zero_add] at z1
                have HY := Lib.hid hy
                clear hb3 hy
                by_cases hyx : y = (p, q)
                · have e1 : (p != p || q != q) = false := by simp
                  subst hyx
                  go_quiet (fail)
                  go_wp2_with fail
                  go_meet
                  case rel => exact ⟨_, rfl, fun h => by simp at h, fun _ => HY.out, below_drewN HB.out _⟩
                · have e1 : (y.1 == p) = false ∨ ((y.1 == p) = true ∧ (y.2 == q) = false) := by
                    by_cases h1 : y.1 = p
                    · right; exact ⟨by simpa using h1, by simp; intro h2; exact hyx (Prod.ext h1 h2)⟩
                    · left; simpa using h1
                  have HNe := Lib.hid hyx
                  clear hyx
                  rcases e1 with e1 | ⟨e1, e2⟩
                  all_goals
                    go_quiet (fail)
                    go_wp2_with fail
                    go_meet
                    case rel => exact ⟨_, rfl, fun _ z hz => by rw [HY.out] at hz; obtain rfl := Option.some.inj hz; exact HNe.out, fun h => by simp at h, below_drewN HB.out _⟩
              · obtain rfl : j = nO := by omega
                have hg1 : ((j : Int) == (j : Int)) = true := by simp
                go_quiet (fail)
                go_wp2_with fail
                go_meet
                case rel => exact ⟨_, rfl, fun _ z hz => by have := (List.getElem?_eq_some_iff.1 hz).1; have := HnO.out; omega, fun h => by simp at h, below_drewN HB.out _⟩
            case rest =>
              obtain ⟨W3, rfl⟩ : ∃ W3 : World, W3 = wc := ⟨_, rfl⟩
              obtain ⟨bb, rfl, htrue, hfalse, hbel⟩ := hcut
              have HTe := Lib.hid htrue
              have HFa := Lib.hid hfalse
              have HB := Lib.hid hbel
              clear htrue hfalse hbel
              cases bb with
              | false =>
                go_wp2_with fail
                go_roundw
                case rel => exact ⟨k - 1, O, by go_num, by omega, by omega, HF.out, by have := HnO.out; omega, own_below HO4.out HB.out, by simp, HX7.out.below HB.out⟩
                case measure => simp [intOf]; omega
              | true =>
                have hb3 := blk_below HBx7.out HB.out
                have b0 := blk_cell hb3 0
                have b1 := blk_cell hb3 1
                simp only [List.getElem?_toArray, List.getElem?_cons_zero, List.getElem?_cons_succ] at b0 b1
                have hrow := HR3.out.below HB.out
                have hW3 := HB.out.size
                have hgl3 := hrow.lt
                have hgx3 := blk_lt hb3
                have hj1 : (0 : Int) ≤ (j : Int) := by omega
                have hj2 : (j : Int) ≤ (nO : Int) := by omega
                have hj3 : (nO : Int) ≤ (c : Int) := by omega
                have hj4 : (j : Int) ≤ (c : Int) := by omega
                have hj5 : j ≤ c := by omega
                have z1 := add_at g 0 (j * 2)
                rw [Nat.zero_add] at z1
                have hdl : (fcells (O.drop j)).length = (nO - j) * 2 := by rw [fcells_len, List.length_drop, ← HnO.out]
                have HDl := Lib.hid hdl
                have hbB : w.heap.size ≤ W3.heap.size := by have := HX7.out.size; omega
                clear hb3 hdl
                have hOc : O.length ≤ c := by rw [← HnO.out]; exact hlc
                have HOc := Lib.hid hOc
                clear hOc
                go_wp2_with fail
                go_region_held3 (fun W' => W'.cell? ⟨w4.heap.size, 0, none⟩ = some (.int .i64 p) ∧ W'.cell? ⟨w4.heap.size, 1, none⟩ = some (.int .i64 q) ∧ FRow W' g O)
                  (first | (go_keep; done) | (exact ⟨b0, b1, hrow.drew⟩) | (apply keepX (x := (p, q)); (case hb => assumption); (case h => assumption)) | (apply keepXa (x := (p, q)); assumption) | (exact keepXg (x := (p, q)) hgrow (by simp [Value.ownBlock]; omega) (by simp [Value.ownBlock]; omega) (by assumption)))
                  ((refine step_append_any _ (by rfl) (.tmp 64) (.tmp 67) 49 (by rfl) (w.heap.size) 26 i0 (.agg #[.int .i64 0, .int .i64 0]) 2 16 hu49 HI.out hz0 hz1 hz2 rfl (by decide) (.slice (some ⟨W3.heap.size, 0, none⟩) 1 1) 1 (fcells [((p, q) : F2)]) (by rfl) (own_single (heap_alloc_new _ _) hbB) (if c = j then ⟨g, 0, none⟩ else ⟨g, j * 2, none⟩) (nO - j) (c - j) (fcells (O.drop j)) (slice_if c j ⟨g, 0, none⟩ ⟨g, j * 2, none⟩ (nO - j) (c - j)) HDl.out ((FRow.below (hrow) (below_alloc (Below.refl _ _) _)).news_if j c HOc.out) (fcells_one _) (by unfold maxLen; omega) (by omega) (by simp; omega) ?_; intro v' w6 ho hgrow hnil))
                have hv' : v' ≠ .slice none 0 0 := fun e => by have := hnil.1 e; simp at this
                have hD : (((p, q) : F2) :: O.drop j).length = 1 + (nO - j) := by rw [List.length_cons, List.length_drop, ← HnO.out]; omega
                have ho6 : FOwn w6 w.heap.size v' (((p, q) : F2) :: O.drop j) := by unfold FOwn; rw [hD]; exact ho
                obtain ⟨g6, c6, hv6⟩ := ho6.shape hv'
                rw [hD] at hv6
                subst hv6
                obtain ⟨hrow6, hg6, -, -, -⟩ := ho6.row
                have hg6l := hrow6.lt
                have hs6 : W3.heap.size + 1 ≤ w6.heap.size := by simpa using hgrow.size
                have hgr6 : FRow w6 g O := (FRow.below hrow (below_alloc (Below.refl _ _) _)).drew.grown hgrow (by simp [Value.ownBlock]; omega)
                have HX6 := Lib.hid (DX.grown ((HX7.out.below HB.out).below (below_alloc (Below.refl _ _) _).drew) hgrow (fun k hk => by simp [Value.ownBlock] at hk; omega))
                have HR6 := Lib.hid hrow6
                have HG6 := Lib.hid hgr6
                have HD6 := Lib.hid hD
                have hmade := World.ownsRow_made (base := w.heap.size) (e := 26) (size := 2) w6 #[] 0 (by omega) (by unfold maxLen; omega) (by simp)
                have HMade := Lib.hid hmade
                have htl : (fcells (O.take j)).length = j * 2 := by rw [fcells_len, List.length_take, ← HnO.out]; congr 1; omega
                have HTl := Lib.hid htl
                have hn7 : ∀ t u, (fcells (O.take j))[t]? = some u → (w6.alloc (.cells #[] 26)).cell? ((⟨g, 0, none⟩ : Addr).add t) = some u := (FRow.sub (FRow.below hgr6 (below_alloc (Below.refl _ _) _)) (fun i x hi => by
                  rw [List.getElem?_take] at hi
                  split at hi
                  · exact hi
                  · simp at hi)).news0
                have HN7 := Lib.hid hn7
                clear hv' hD ho6 hrow6 hgr6 hmade htl hn7 ho hgrow hnil hrow b0 b1 HR3 HO4
                go_wp2_with (at_builtin; refine wpList_append_own _ rfl (.tmp 69) (.tmp 72) 49 rfl (w.heap.size) 26 i0 (.agg #[.int .i64 0, .int .i64 0]) 2 16 hu49 HI.out hz0 hz1 hz2 rfl (by decide) (.slice (some ⟨w6.heap.size, 0, none⟩) 0 0) 0 [] rfl HMade.out ⟨g, 0, none⟩ j c (fcells (O.take j)) rfl HTl.out HN7.out (fcells_one _) (by unfold maxLen; omega) (by omega) (by simp; omega) ?_)
                all_goals
                  intro v7 w7 ho7 hgr7 hnil7
                  try rw [List.nil_append] at ho7
                  have ho7' : FOwn w7 w.heap.size v7 (O.take j) := by unfold FOwn; rw [show (O.take j).length = j by rw [List.length_take, ← HnO.out]; omega]; simpa using ho7
                  have hs7 : w6.heap.size + 1 ≤ w7.heap.size := by simpa using hgr7.size
                  have hr7 : FRow w7 g6 (((p, q) : F2) :: O.drop j) := (FRow.below HR6.out (below_alloc (Below.refl _ _) _)).grown hgr7 (by simp only [Value.ownBlock, ne_eq, Option.some.injEq]; omega)
                  have HXa := Lib.hid (DX.grown (HX6.out.below (below_alloc (Below.refl _ _) _)) hgr7 (fun k hk => by simp [Value.ownBlock] at hk; omega))
                  have hv7 : v7 ≠ .slice none 0 0 := by simpa using hnil7
                  have HOa := Lib.hid ho7'
                  have HN8 := Lib.hid hr7.news0
                  have hl8 : (fcells (((p, q) : F2) :: O.drop j)).length = (1 + (nO - j)) * 2 := by rw [fcells_len, HD6.out]
                  have HL8 := Lib.hid hl8
                  have HV7 := Lib.hid hv7
                  have htj : (O.take j).length = j := by rw [List.length_take, ← HnO.out]; omega
                  have HTj := Lib.hid htj
                  clear ho7 ho7' hgr7 hnil7 hr7 hv7 hl8 htj
                  go_wp2_with (at_builtin; refine wpList_append_own _ rfl (.tmp 73) (.tmp 74) 49 rfl (w.heap.size) 26 i0 (.agg #[.int .i64 0, .int .i64 0]) 2 16 hu49 HI.out hz0 hz1 hz2 rfl (by decide) v7 (O.take j).length (fcells (O.take j)) rfl HOa.out ⟨g6, 0, none⟩ (1 + (nO - j)) c6 (fcells (((p, q) : F2) :: O.drop j)) rfl HL8.out HN8.out (fcells_one _) (by rw [HTj.out]; unfold maxLen; omega) (by rw [HTj.out]; omega) (by omega) ?_)
                  intro v8 w8 ho8 hgr8 hnil8
                  rw [fcells_append] at ho8
                  have ho8' : FOwn w8 w.heap.size v8 (O.take j ++ ((p, q) : F2) :: O.drop j) := by unfold FOwn; rw [List.length_append, HD6.out]; simpa only [List.length_take] using ho8
                  have HO8 := Lib.hid ho8'
                  have HV8 : Hid (v8 ≠ .slice none 0 0) := Lib.hid fun e => HV7.out (by first | exact (hnil8.1 e).1 | exact absurd e hnil8 | exact (hnil8 e).elim)
                  have HX8 := Lib.hid (DX.grown HXa.out hgr8 (fun k hk => own_base HOa.out k hk))
                  clear ho8 ho8' hgr8 hnil8
                  go_wp2
                  go_roundw
                  case rel =>
                    refine ⟨k - 1, O.take j ++ ((p, q) : F2) :: O.drop j, by go_num, by omega, by omega, fun x hx => ?_, ?_, HO8.out, HV8.out, HX8.out⟩
                    · rcases (ins_mem (O := O) (x := (p, q)) j x).1 hx with h | h
                      · exact HF.out x h
                      · rw [h]; exact hfr
                    · rw [List.length_append, HTj.out, HD6.out]; omega
                  case measure => simp [intOf]; omega
        · rw [decide_eq_false hfr]
          clear hfr
          go_wp2_with fail
          go_roundw
          case rel => exact ⟨k - 1, O, by go_num, by omega, by omega, HF.out, by omega, HO7.out, HE.out, HX7.out⟩
          case measure => simp [intOf]; omega
    · obtain ⟨g, c, hv⟩ := HO.out.shape HE.out
      have hown := HO.out
      rw [hv] at hown
      obtain ⟨hrow, hg, -, hlc, hcm⟩ := hown.row
      unfold maxLen at hcm
      obtain ⟨nO, hnO⟩ : ∃ q, q = O.length := ⟨_, rfl⟩
      rw [← hnO] at hv hlc hown hol
      have HnO := Lib.hid hnO
      have HO2 := Lib.hid hown
      have HR := Lib.hid hrow
      have hgl := hrow.lt
      have hlb2 : g ≠ b := by omega
      clear hown hrow hnO HO HE
      subst hv
      by_cases hz : nO = 0
      · have h0 : ¬ (0 : Int) < (nO : Int) := by omega
        clear hz
        go_wp2
        go_ret
        exact ⟨⟨g, c, O, by rw [← HnO.out]; rfl, hg, HR.out, by have := HnO.out; omega⟩, HX.out.src, HX.out.kp⟩
      · have h0 : (0 : Int) < (nO : Int) := by omega
        go_wp2_with fail
        refine (next_any _ b ao n 24 (by omega) (by omega) HX.out.src).mono ?_
        rintro e w5 ⟨x5, rfl, l5, j5, hs, hk⟩
        have HX5 := Lib.hid (HX.out.step hs hk)
        have HO5 : Hid (FOwn w5 w.heap.size (.slice (some ⟨g, 0, none⟩) nO c) O) := Lib.hid (FOwn.kpt HO2.out hk hlb)
        have hrow5 := HR.out.same (hk.block g hgl hlb2)
        have HR5 := Lib.hid hrow5
        clear hs hk HX HO2 HR hrow5
        by_cases h5 : x5 = 0
        · subst h5
          obtain ⟨y0, hy0⟩ : ∃ y0, O[0]? = some y0 := ⟨O[0]'(by rw [← HnO.out]; omega), by simp⟩
          obtain ⟨s0, s1⟩ := HR5.out.cell hy0
          rw [Nat.zero_mul] at s0 s1
          have hsz5 := HX5.out.size
          clear hy0
          go_wp2_with (at_builtin; refine wpList_append_own _ rfl (.tmp 84) (.tmp 88) 49 rfl w.heap.size 26 i0 (.agg #[.int .i64 0, .int .i64 0]) 2 16 hu49 HI.out hz0 hz1 hz2 rfl (by decide) (.slice (some ⟨g, 0, none⟩) nO c) O.length (fcells O) rfl (World.ownsRow.alloc HO5.out _) ⟨w5.heap.size, 0, none⟩ 1 1 [.int .i64 y0.1, .int .i64 y0.2] rfl rfl ?c1 ?c2 ?c3 ?c4 ?c5 ?_)
          case c1 => exact fun j u hu => news_two w5 y0.1 y0.2 j u hu
          case c2 => intro u hu; simp at hu; rcases hu with rfl | rfl <;> rfl
          case c3 => rw [← HnO.out]; unfold maxLen; omega
          case c4 => rw [← HnO.out]; omega
          case c5 => simp; omega
          intro v' w6 ho hgr hnil
          have hne' : v' ≠ .slice none 0 0 := by simpa using hnil
          rw [fcells_snoc] at ho
          have ho' : FOwn w6 w.heap.size v' (O ++ [y0]) := by unfold FOwn; rw [List.length_append]; exact ho
          have hx6 := DX.grown (HX5.out.below (below_alloc (Below.refl _ _) (.cells #[.int .i64 y0.1, .int .i64 y0.2] 26))) hgr (fun k hk => by simp [Value.ownBlock] at hk; omega)
          obtain ⟨g6, c6, rfl⟩ := ho'.shape hne'
          obtain ⟨hrow6, hg6, -, -, -⟩ := ho'.row
          have HX6 := Lib.hid hx6
          have HR6 := Lib.hid hrow6
          have HL6 : Hid ((O ++ [y0]).length ≤ 100) := Lib.hid (by rw [List.length_append, ← HnO.out]; simp; omega)
          clear ho ho' hgr hnil hne' hx6 hrow6 s0 s1
          go_wp2
          go_ret
          exact ⟨⟨g6, c6, O ++ [y0], by first | rfl | (simp; done), hg6, HR6.out, HL6.out⟩, HX6.out.src, HX6.out.kp⟩
        · have h5' : (x5 == 0) = false := by simpa using h5
          clear h5
          go_wp2
          go_ret
          exact ⟨⟨g, c, O, by rw [← HnO.out]; rfl, hg, HR5.out, by have := HnO.out; omega⟩, HX5.out.src, HX5.out.kp⟩
end Go.Proofs.Ytaplebckjbbobaa.Dr
end
section
set_option linter.unusedSimpArgs false
namespace Go.Proofs.Ytaplebckjbbobaa.Dr
open Go.RowKit Bs Grd Fl
open FracMath (Fr)
open Low (M3 Lst)
section
variable {w W W' : World} {b n : Nat} {ao : Option Addr}
theorem MOwn.kpt {base : Nat} {v : Value} {L : List M3} (h : MOwn W base v L) (hk : Kp b W W') (hb : b < base) : MOwn W' base v L := by
  obtain ⟨h1, h2⟩ := h
  refine ⟨h1, ?_⟩
  rcases h2 with h2 | ⟨g, cap, cur, rfl, hg, hh, r⟩
  · exact .inl h2
  · exact .inr ⟨g, cap, cur, rfl, hg, (hk.block g (blk_lt hh) (by omega)).trans hh, r⟩
end
def DrawnL (w : World) (b : Nat) (ao : Option Addr) (n : Nat) (e : Ending) (w' : World) : Prop :=
  (∃ g c L, e = .returned (.slice (some ⟨g, 0, none⟩) (List.length L) c) ∧ w.heap.size ≤ g ∧ MRow w' g L ∧ L.length ≤ 100) ∧ Drew w b ao n w'
set_option maxHeartbeats 8000000 in
set_option maxRecDepth 100000 in
theorem drawMoves_any (w : World) (b n : Nat) (ao : Option Addr) (h : Src w b ao n) :
    Calls Try.prog 99 #[.pointer (some ⟨b, 0, none⟩)] w (DrawnL w b ao n) := by
  have hu29 := Try.underlying29
  have hu37 := Try.underlying37
  obtain ⟨i0, hi, hz0, hz1, hz2⟩ := info_parts minfo29
  have HI := Lib.hid hi
  have HD0 := Lib.hid (DX.start h)
  clear h hi
  have hlb := HD0.out.ltb
  go_enter Try.func99, Try.ntmps99
  go_wp2_with fail
  have HD1 := Lib.hid (HD0.out.below (below_alloc (Below.refl _ _) (.cells #[] 29)))
  have hown1 : MOwn (w.alloc (.cells #[] 29)) w.heap.size (.slice (some ⟨w.heap.size, 0, none⟩) 0 0) [] := by
    have := World.ownsRow_made (base := w.heap.size) (e := 29) (size := 3) w #[] 0 (Nat.le_refl _) (by unfold maxLen; omega) (by simp)
    simpa [MOwn, mcells] using this
  have HO1 := Lib.hid hown1
  clear hown1
  refine (next_any _ b ao n 5 (by omega) (by omega) HD1.out.src).mono ?_
  rintro e w2 ⟨x1, rfl, l1, j1, hs, hk⟩
  have HD2 := Lib.hid (HD1.out.step hs hk)
  have HO2 := Lib.hid (MOwn.kpt HO1.out hk hlb)
  clear hs hk HD1 HO1 HD0
  go_wp2
  go_loopw [3, 4] (fun v i wr => ∃ (k : Int) (O : List M3), i = .int .i64 k ∧ 0 ≤ k ∧ k ≤ 5 ∧ (O.length : Int) + k ≤ 5 ∧ MOwn wr w.heap.size v O ∧ v ≠ .slice none 0 0 ∧ DX w wr b ao n) (fun _ i _ => (intOf i).toNat)
  case atStart => exact ⟨x1, [], rfl, l1, by omega, by simp; omega, HO2.out, by simp, HD2.out⟩
  case round =>
    clear HD2 HO2
    obtain ⟨k, O, rfl, hk0, hk6, hol, hown, hne, hx⟩ := hrel
    have HO := Lib.hid hown
    have HE := Lib.hid hne
    have HX := Lib.hid hx
    clear hown hne hx
    by_cases hpos : 0 < k
    · go_wp2_with fail
      refine (drawMove_any _ b n ao HX.out.src).mono ?_
      rintro e w4 ⟨⟨m0, m1, m2, rfl⟩, hs, hk⟩
      have HX4 := Lib.hid (HX.out.step hs hk)
      have HO4 := Lib.hid (MOwn.kpt HO.out hk hlb)
      clear hs hk HX HO
      have hsz4 := HX4.out.size
      go_wp2_with (at_builtin; refine wpList_append_own _ rfl (.tmp 12) (.tmp 15) 37 rfl w.heap.size 29 i0 (.agg #[.int .i64 0, .int .i64 0, .int .i64 0]) 3 24 hu37 HI.out hz0 hz1 hz2 rfl (by decide) u3 O.length (mcells O) rfl (World.ownsRow.alloc HO4.out _) ⟨w4.heap.size, 0, none⟩ 1 1 [.int .i64 m0, .int .i64 m1, .int .i64 m2] rfl rfl ?c1 ?c2 ?c3 ?c4 ?c5 ?_)
      case c1 => exact fun j u hu => news_three w4 m0 m1 m2 j u hu
      case c2 => intro u hu; simp at hu; rcases hu with rfl | rfl | rfl <;> rfl
      case c3 => unfold maxLen; omega
      case c4 => omega
      case c5 => simp; omega
      intro v' w6 ho hgr hnil
      have hne' : v' ≠ .slice none 0 0 := by first | exact hnil | exact fun e => HE.out (hnil.1 e).1 | simpa using hnil
      have ho' : MOwn w6 w.heap.size v' (O ++ [(m0, m1, m2)]) := by
        unfold MOwn
        rw [List.length_append, ← mcells_snoc]
        simpa using ho
      have hx6 := DX.grown (HX4.out.below (below_alloc (Below.refl _ _) (.cells #[.int .i64 m0, .int .i64 m1, .int .i64 m2] 29))) hgr (fun k hk => own_base HO4.out k hk)
      have HO6 := Lib.hid ho'
      have HX6 := Lib.hid hx6
      have HE6 := Lib.hid hne'
      clear ho hgr hnil hne' ho' hx6
      go_wp2
      go_roundw
      case rel => exact ⟨k - 1, O ++ [(m0, m1, m2)], by go_num, by omega, by omega, by rw [List.length_append]; simp; omega, HO6.out, HE6.out, HX6.out⟩
      case measure => simp [intOf]; omega
    · have hol2 : O.length ≤ 5 := by omega
      clear hol
      go_wp2_with fail
      refine (next_any _ b ao n 30 (by omega) (by omega) HX.out.src).mono ?_
      rintro e w5 ⟨x5, rfl, l5, j5, hs, hk⟩
      have HX5 := Lib.hid (HX.out.step hs hk)
      have HO5 := Lib.hid (MOwn.kpt HO.out hk hlb)
      clear hs hk HX HO
      by_cases h5 : x5 = 0
      · subst h5
        go_wp2
        go_loopw [3] (fun v wr => ∃ (O : List M3), O.length ≤ 21 ∧ MOwn wr w.heap.size v O ∧ v ≠ .slice none 0 0 ∧ DX w wr b ao n) (fun v _ => 21 - slen v)
        case atStart => exact ⟨O, by omega, HO5.out, HE.out, HX5.out⟩
        case round =>
          clear HO5 HX5 HE hol2
          obtain ⟨O, hol, hown, hne, hx⟩ := hrel
          obtain ⟨g, c, rfl⟩ := hown.shape hne
          obtain ⟨nO, hnO⟩ : ∃ q, q = O.length := ⟨_, rfl⟩
          have HnO := Lib.hid hnO
          rw [← hnO] at hown hol ⊢
          have HO := Lib.hid hown
          have HX := Lib.hid hx
          have hsz4 := HX.out.size
          clear hown hne hx hnO
          by_cases h21 : nO ≤ 20
          · have h21' : (nO : Int) ≤ 20 := by omega
            go_wp2_with (at_builtin; refine wpList_append_own _ rfl (.tmp 23) (.tmp 25) 37 rfl w.heap.size 29 i0 (.agg #[.int .i64 0, .int .i64 0, .int .i64 0]) 3 24 hu37 HI.out hz0 hz1 hz2 rfl (by decide) (.slice (some ⟨g, 0, none⟩) nO c) O.length (mcells O) rfl (World.ownsRow.alloc HO.out _) ⟨wr.heap.size, 0, none⟩ 1 1 [.int .i64 0, .int .i64 0, .int .i64 0] rfl rfl ?c1 ?c2 ?c3 ?c4 ?c5 ?_)
            case c1 => exact fun j u hu => news_three wr 0 0 0 j u hu
            case c2 => intro u hu; simp at hu; rcases hu with rfl | rfl | rfl <;> rfl
            case c3 => rw [← HnO.out]; unfold maxLen; omega
            case c4 => rw [← HnO.out]; omega
            case c5 => simp; omega
            intro v' w6 ho hgr hnil
            have hne' : v' ≠ .slice none 0 0 := by simpa using hnil
            have ho' : MOwn w6 w.heap.size v' (O ++ [(0, 0, 0)]) := by
              unfold MOwn
              rw [List.length_append, ← mcells_snoc]
              simpa using ho
            have hx6 := DX.grown (HX.out.below (below_alloc (Below.refl _ _) (.cells #[.int .i64 0, .int .i64 0, .int .i64 0] 29))) hgr (fun k hk => own_base HO.out k hk)
            obtain ⟨g6, c6, rfl⟩ := ho'.shape hne'
            have hl6 : (O ++ [((0 : Int), (0 : Int), (0 : Int))]).length = nO + 1 := by rw [List.length_append, ← HnO.out]; rfl
            rw [hl6] at ho' ⊢
            have HO6 := Lib.hid ho'
            have HX6 := Lib.hid hx6
            have HL6 := Lib.hid hl6
            clear ho hgr hnil hne' ho' hx6 hl6
            go_wp2
            go_roundw
            case rel => exact ⟨O ++ [(0, 0, 0)], by rw [HL6.out]; omega, HO6.out, by simp, HX6.out⟩
            case measure => simp [slen]; omega
          · have h21' : ¬ (nO : Int) ≤ 20 := by omega
            obtain ⟨hrow, hg⟩ := HO.out.row
            have HR := Lib.hid hrow
            clear hrow
            go_wp2
            go_ret
            exact ⟨⟨g, c, O, by rw [← HnO.out]; rfl, hg, HR.out, by have := HnO.out; omega⟩, HX.out.src, HX.out.kp⟩
      · have h5' : (x5 == 0) = false := by simpa using h5
        clear h5
        obtain ⟨g, c, hv⟩ := HO5.out.shape HE.out
        have hown := HO5.out
        rw [hv] at hown
        obtain ⟨hrow, hg⟩ := hown.row
        have HR := Lib.hid hrow
        have HL := Lib.hid hol2
        obtain ⟨nO, hnO⟩ : ∃ q, q = O.length := ⟨_, rfl⟩
        rw [← hnO] at hv
        have HnO := Lib.hid hnO
        clear hown hrow HO5 HE hol2 hnO
        subst hv
        go_wp2
        go_ret
        exact ⟨⟨g, c, O, by rw [← HnO.out]; rfl, hg, HR.out, by have := HL.out; omega⟩, HX5.out.src, HX5.out.kp⟩
end Go.Proofs.Ytaplebckjbbobaa.Dr
end
section
set_option linter.unusedSimpArgs false
namespace Go.Proofs.Ytaplebckjbbobaa.Dr
open Go.RowKit Bs Grd Fl
open FracMath (Fr)
open Low (M3 Lst)
theorem big_any (w : World) (ao : Option Addr) (n cap : Nat) (hn : n ≤ 9223372036854775807) : Calls Try.prog 36 #[.slice ao n cap] w fun e w' => e = .returned (.bool (decide (4096 < n))) ∧ w' = w := by
  by_cases h : 4096 < n
  · have h' : (4096 : Int) < (n : Int) := by omega
    rw [decide_eq_true h]
    clear h
    go_enter Try.func36, Try.ntmps36
    go_wp2
    go_ret
    exact ⟨rfl, rfl⟩
  · have h' : ¬ (4096 : Int) < (n : Int) := by omega
    rw [decide_eq_false h]
    clear h
    go_enter Try.func36, Try.ntmps36
    go_wp2
    go_ret
    exact ⟨rfl, rfl⟩
theorem kp_below {w W W' : World} {b : Nat} (hb : Below w.heap.size w W) (hk : Kp b W W') (h : w.heap.size ≤ b) : Below w.heap.size w W' := hb.trans (hk.under h hb.size)
def SetD (w : World) (e : Ending) (w' : World) : Prop := (∃ g c L, e = .returned (.slice (some ⟨g, 0, none⟩) (List.length L) c) ∧ w.heap.size ≤ g ∧ FRow w' g L ∧ L.length ≤ 100) ∧ Below w.heap.size w w'
def MovesD (w : World) (e : Ending) (w' : World) : Prop := (∃ g c L, e = .returned (.slice (some ⟨g, 0, none⟩) (List.length L) c) ∧ w.heap.size ≤ g ∧ MRow w' g L ∧ L.length ≤ 100) ∧ Below w.heap.size w w'
def MoveSetD (w : World) (e : Ending) (w' : World) : Prop := (∃ m0 m1 m2 g c L, e = .returned (.tuple #[.agg #[.int .i64 m0, .int .i64 m1, .int .i64 m2], .slice (some ⟨g, 0, none⟩) (List.length L) c]) ∧ w.heap.size ≤ g ∧ FRow w' g L ∧ L.length ≤ 100) ∧ Below w.heap.size w w'
def MovesFrD (w : World) (e : Ending) (w' : World) : Prop := (∃ p q g c L, e = .returned (.tuple #[.slice (some ⟨g, 0, none⟩) (List.length L) c, .agg #[.int .i64 p, .int .i64 q]]) ∧ w.heap.size ≤ g ∧ MRow w' g L ∧ L.length ≤ 100) ∧ Below w.heap.size w w'
set_option maxHeartbeats 2000000 in
theorem drawNext_any (w : World) (ao : Option Addr) (n cap : Nat) (hn : n ≤ 4096) (h : Bts w ao n) (hlt : ∀ a, ao = some a → a.block < w.heap.size) : Calls Try.prog 56 #[.slice ao n cap] w (SetD w) := by
  have C := Lib.hid (from_any w ao n cap hn h hlt)
  clear h hlt
  go_enter Try.func56, Try.ntmps56
  go_wp2_with fail
  refine C.out.mono ?_
  rintro e w1 ⟨b, rfl, hb, hs, hbel⟩
  have HB := Lib.hid hbel
  have C2 := Lib.hid (drawSet_any w1 b n ao hs)
  clear hbel hs C
  go_wp2_with fail
  refine C2.out.mono ?_
  rintro e w2 ⟨⟨g, c, L, rfl, hg, hrow, hlen⟩, hd⟩
  obtain ⟨nL, hnL⟩ : ∃ q, q = L.length := ⟨_, rfl⟩
  rw [← hnL] at hlen ⊢
  have HN := Lib.hid hnL
  have HR := Lib.hid hrow
  have HD := Lib.hid hd
  have hsz := HB.out.size
  clear hnL hrow hd C2
  go_wp2
  go_ret
  exact ⟨⟨g, c, L, by rw [← HN.out]; rfl, by omega, HR.out, by rw [← HN.out]; exact hlen⟩, kp_below HB.out HD.out.2 hb⟩
set_option maxHeartbeats 2000000 in
theorem drawChain_any (w : World) (ao : Option Addr) (n cap : Nat) (hn : n ≤ 4096) (h : Bts w ao n) (hlt : ∀ a, ao = some a → a.block < w.heap.size) : Calls Try.prog 59 #[.slice ao n cap] w (SetD w) := by
  have C := Lib.hid (from_any w ao n cap hn h hlt)
  clear h hlt
  go_enter Try.func59, Try.ntmps59
  go_wp2_with fail
  refine C.out.mono ?_
  rintro e w1 ⟨b, rfl, hb, hs, hbel⟩
  have HB := Lib.hid hbel
  have C2 := Lib.hid (drawSet_any w1 b n ao hs)
  clear hbel hs C
  go_wp2_with fail
  refine C2.out.mono ?_
  rintro e w2 ⟨⟨g, c, L, rfl, hg, hrow, hlen⟩, hd⟩
  obtain ⟨nL, hnL⟩ : ∃ q, q = L.length := ⟨_, rfl⟩
  rw [← hnL] at hlen ⊢
  have HN := Lib.hid hnL
  have HR := Lib.hid hrow
  have HD := Lib.hid hd
  have hsz := HB.out.size
  clear hnL hrow hd C2
  go_wp2
  go_ret
  exact ⟨⟨g, c, L, by rw [← HN.out]; rfl, by omega, HR.out, by rw [← HN.out]; exact hlen⟩, kp_below HB.out HD.out.2 hb⟩
set_option maxHeartbeats 2000000 in
theorem drawDegree_any (w : World) (ao : Option Addr) (n cap : Nat) (hn : n ≤ 4096) (h : Bts w ao n) (hlt : ∀ a, ao = some a → a.block < w.heap.size) : Calls Try.prog 61 #[.slice ao n cap] w (MovesD w) := by
  have C := Lib.hid (from_any w ao n cap hn h hlt)
  clear h hlt
  go_enter Try.func61, Try.ntmps61
  go_wp2_with fail
  refine C.out.mono ?_
  rintro e w1 ⟨b, rfl, hb, hs, hbel⟩
  have HB := Lib.hid hbel
  have C2 := Lib.hid (drawMoves_any w1 b n ao hs)
  clear hbel hs C
  go_wp2_with fail
  refine C2.out.mono ?_
  rintro e w2 ⟨⟨g, c, L, rfl, hg, hrow, hlen⟩, hd⟩
  obtain ⟨nL, hnL⟩ : ∃ q, q = L.length := ⟨_, rfl⟩
  rw [← hnL] at hlen ⊢
  have HN := Lib.hid hnL
  have HR := Lib.hid hrow
  have HD := Lib.hid hd
  have hsz := HB.out.size
  clear hnL hrow hd C2
  go_wp2
  go_ret
  exact ⟨⟨g, c, L, by rw [← HN.out]; rfl, by omega, HR.out, by rw [← HN.out]; exact hlen⟩, kp_below HB.out HD.out.2 hb⟩
set_option maxHeartbeats 2000000 in
set_option maxRecDepth 100000 in
theorem drawImage_any (w : World) (ao : Option Addr) (n cap : Nat) (hn : n ≤ 4096) (h : Bts w ao n) (hlt : ∀ a, ao = some a → a.block < w.heap.size) : Calls Try.prog 52 #[.slice ao n cap] w (MoveSetD w) := by
  have hu29 := Try.underlying29
  have HX0 := Lib.hid (B1.start w (.cells #[.int .i64 0, .int .i64 0, .int .i64 0] 29))
  have C := Lib.hid (from_any (w.alloc (.cells #[.int .i64 0, .int .i64 0, .int .i64 0] 29)) ao n cap hn (h.below (below_alloc (Below.refl _ _) _)) (fun a ha => by have := hlt a ha; simp; omega))
  clear h hlt
  go_enter Try.func52, Try.ntmps52
  go_wp2_with fail
  refine C.out.mono ?_
  rintro e w1 ⟨b, rfl, hb, hs, hbel⟩
  have HX1 := Lib.hid (HX0.out.below hbel)
  have hb' : w.heap.size + 1 ≤ b := by simpa using hb
  have C2 := Lib.hid (drawMove_any w1 b n ao hs)
  clear hbel hs C HX0 hb
  go_wp2_with fail
  refine C2.out.mono ?_
  rintro e w2 ⟨⟨m0, m1, m2, rfl⟩, hs, hk⟩
  have HB2 := Lib.hid (kp_below HX1.out.bel hk (by omega))
  have HX2 := Lib.hid ((hk.block _ (by have := HX1.out.siz; omega) (by omega)).trans HX1.out.b1)
  have C3 := Lib.hid (drawSet_any w2 b n ao hs)
  clear hs hk C2 HX1
  go_wp2_with fail
  refine C3.out.mono ?_
  rintro e w3 ⟨⟨g, c, L, rfl, hg, hrow, hlen⟩, hs, hk⟩
  have hx3 := (hk.block _ (blk_lt HX2.out) (by omega)).trans HX2.out
  have HX3 := Lib.hid hx3
  have HB3 := Lib.hid (kp_below HB2.out hk (by omega))
  have hsz2 := HB2.out.size
  have hl2 := blk_lt HX2.out
  obtain ⟨nL, hnL⟩ : ∃ q, q = L.length := ⟨_, rfl⟩
  rw [← hnL] at hlen ⊢
  have HN := Lib.hid hnL
  have HR := Lib.hid hrow
  have fz0 := blk_frozen hx3 0
  have fz1 := blk_frozen hx3 1
  have fz2 := blk_frozen hx3 2
  obtain ⟨r0, r1, r2⟩ := cells3 hx3
  have hl3 := blk_lt hx3
  clear hnL hrow hs hk C3 hx3 HX2 HB2
  go_wp2
  have hf := res3 HX3.out (.int .i64 m0) (.int .i64 m1) (.int .i64 m2)
  obtain ⟨d0, d1, d2⟩ := cells3 hf
  refine bodyPost_ret (v := .tuple #[.agg #[.int .i64 m0, .int .i64 m1, .int .i64 m2], .slice (some ⟨g, 0, none⟩) nL c]) (by simp [results, Try.results52, go_sem, d0, d1, d2]) rfl ⟨⟨m0, m1, m2, g, c, L, by rw [← HN.out], by omega, ?_, by rw [← HN.out]; exact hlen⟩, below3 HB3.out _ _ _⟩
  have hne : g ≠ w.heap.size := by omega
  exact ((HR.out.same (Below.heap_setCell _ _ _ _ hne)).same (Below.heap_setCell _ _ _ _ hne)).same (Below.heap_setCell _ _ _ _ hne)
set_option maxHeartbeats 2000000 in
set_option maxRecDepth 100000 in
theorem drawRun_any (w : World) (ao : Option Addr) (n cap : Nat) (hn : n ≤ 4096) (h : Bts w ao n) (hlt : ∀ a, ao = some a → a.block < w.heap.size) : Calls Try.prog 64 #[.slice ao n cap] w (MovesFrD w) := by
  have hu26 := Try.underlying26
  have HX0 := Lib.hid (B1.start w (.cells #[.int .i64 0, .int .i64 0] 26))
  have C := Lib.hid (from_any (w.alloc (.cells #[.int .i64 0, .int .i64 0] 26)) ao n cap hn (h.below (below_alloc (Below.refl _ _) _)) (fun a ha => by have := hlt a ha; simp; omega))
  clear h hlt
  go_enter Try.func64, Try.ntmps64
  go_wp2_with fail
  refine C.out.mono ?_
  rintro e w1 ⟨b, rfl, hb, hs, hbel⟩
  have HX1 := Lib.hid (HX0.out.below hbel)
  have hb' : w.heap.size + 1 ≤ b := by simpa using hb
  have C2 := Lib.hid (drawMoves_any w1 b n ao hs)
  clear hbel hs C HX0 hb
  go_wp2_with fail
  refine C2.out.mono ?_
  rintro e w2 ⟨⟨g, c, L, rfl, hg, hrow, hlen⟩, hs, hk⟩
  have HB2 := Lib.hid (kp_below HX1.out.bel hk (by omega))
  have HX2 := Lib.hid ((hk.block _ (by have := HX1.out.siz; omega) (by omega)).trans HX1.out.b1)
  have C3 := Lib.hid (draw_any w2 b n ao hs)
  have hsz1 := HX1.out.siz
  obtain ⟨nL, hnL⟩ : ∃ q, q = L.length := ⟨_, rfl⟩
  rw [← hnL] at hlen ⊢
  have HN := Lib.hid hnL
  have HR := Lib.hid hrow
  have hgb : g ≠ b := by
    have := hs.lt
    intro e
    subst e
    obtain ⟨cs, h1, _⟩ := hrow
    obtain ⟨cap', k', z', h2, _⟩ := hs
    rw [h1] at h2
    simp at h2
  clear hs hk C2 HX1 hnL hrow
  go_wp2_with fail
  refine C3.out.mono ?_
  rintro e w3 ⟨⟨p, q, rfl⟩, hs, hk⟩
  have hx3 := (hk.block _ (blk_lt HX2.out) (by omega)).trans HX2.out
  have HX3 := Lib.hid hx3
  have HB3 := Lib.hid (kp_below HB2.out hk (by omega))
  have hrow3 : MRow w3 g L := HR.out.same (hk.block g HR.out.lt hgb)
  have HR3 := Lib.hid hrow3
  have fz0 := blk_frozen hx3 0
  have fz1 := blk_frozen hx3 1
  obtain ⟨r0, r1⟩ := cells2 hx3
  have hl3 := blk_lt hx3
  clear hs hk C3 hx3 HX2 HB2 hrow3 HR
  go_wp2
  have hf := res2 HX3.out (.int .i64 p) (.int .i64 q)
  obtain ⟨d0, d1⟩ := cells2 hf
  refine bodyPost_ret (v := .tuple #[.slice (some ⟨g, 0, none⟩) nL c, .agg #[.int .i64 p, .int .i64 q]]) (by simp [results, Try.results64, go_sem, d0, d1]) rfl ⟨⟨p, q, g, c, L, by rw [← HN.out], by omega, ?_, by rw [← HN.out]; exact hlen⟩, (HB3.out.setCell (Nat.le_refl _) _).setCell (Nat.le_refl _) _⟩
  have hne : g ≠ w.heap.size := by omega
  exact (HR3.out.same (Below.heap_setCell _ _ _ _ hne)).same (Below.heap_setCell _ _ _ _ hne)
end Go.Proofs.Ytaplebckjbbobaa.Dr
end
section
set_option linter.unusedSimpArgs false
namespace Go.Proofs.Ytaplebckjbbobaa.Dr
open Go.RowKit Bs Grd Fl
open FracMath (Fr Mv)
open Low (M3 Lst mcode)
set_option maxHeartbeats 1000000 in
theorem set9_any (w : World) (ao bo : Option Addr) (L : List F2) (n c1 c2 : Nat) (hn : n = L.length) (hcap : n ≤ 1048576) (h : FLst w ao L) (h' : FLst w bo L) :
    Calls Try.prog 53 #[.slice ao n c1, .slice bo n c2] w fun e w' => e = .returned (.bool true) ∧ Below w.heap.size w w' := by
  have hu26 := Try.underlying26
  have HL := Lib.hid h
  have HL' := Lib.hid h'
  have HN := Lib.hid hn
  clear h h' hn
  go_enter Try.func53, Try.ntmps53
  go_wp2
  go_loopw [5] (fun i wr => ∃ k : Nat, i = .int .i64 k ∧ k ≤ n ∧ Below w.heap.size w wr) (fun i _ => n - (intOf i).toNat)
  case atStart => exact ⟨0, rfl, Nat.zero_le _, Below.refl _ _⟩
  case round =>
    obtain ⟨k, rfl, hk, hbel⟩ := hrel
    by_cases hlt : k < n
    · obtain ⟨m, hm⟩ : ∃ m, L[k]? = some m := ⟨L[k]'(by rw [← HN.out]; exact hlt), by simp⟩
      obtain ⟨a, rfl, hab, c0, c1⟩ := (HL.out.below hbel) k m hm
      obtain ⟨b, rfl, hbb, d0, d1⟩ := (HL'.out.below hbel) k m hm
      have hk1 : (0 : Int) ≤ (k : Int) := by omega
      have hk2 : (k : Int) < (n : Int) := by omega
      have HB := Lib.hid hbel
      clear hbel hm
      go_wp2_with fail
      go_quiet (fail)
      go_wp2_with fail
      go_roundw
      case rel => exact ⟨k + 1, by go_num, by omega, below_drewN HB.out _⟩
      case measure => simp [intOf]; omega
    · go_wp2
      go_ret
      exact ⟨rfl, hbel⟩
set_option maxHeartbeats 1000000 in
theorem moves9_any (w : World) (ao bo : Option Addr) (L : List M3) (n c1 c2 : Nat) (hn : n = L.length) (hcap : n ≤ 1048576) (h : Lst w ao L) (h' : Lst w bo L) :
    Calls Try.prog 60 #[.slice ao n c1, .slice bo n c2] w fun e w' => e = .returned (.bool true) ∧ Below w.heap.size w w' := by
  have hu29 := Try.underlying29
  have HL := Lib.hid h
  have HL' := Lib.hid h'
  have HN := Lib.hid hn
  clear h h' hn
  go_enter Try.func60, Try.ntmps60
  go_wp2
  go_loopw [5] (fun i wr => ∃ k : Nat, i = .int .i64 k ∧ k ≤ n ∧ Below w.heap.size w wr) (fun i _ => n - (intOf i).toNat)
  case atStart => exact ⟨0, rfl, Nat.zero_le _, Below.refl _ _⟩
  case round =>
    obtain ⟨k, rfl, hk, hbel⟩ := hrel
    by_cases hlt : k < n
    · obtain ⟨m, hm⟩ : ∃ m, L[k]? = some m := ⟨L[k]'(by rw [← HN.out]; exact hlt), by simp⟩
      obtain ⟨a, rfl, hab, c0, c1, c2⟩ := (HL.out.below hbel) k m hm
      obtain ⟨b, rfl, hbb, d0, d1, d2⟩ := (HL'.out.below hbel) k m hm
      have hk1 : (0 : Int) ≤ (k : Int) := by omega
      have hk2 : (k : Int) < (n : Int) := by omega
      have HB := Lib.hid hbel
      clear hbel hm
      go_wp2_with fail
      go_quiet (fail)
      go_wp2_with fail
      go_roundw
      case rel => exact ⟨k + 1, by go_num, by omega, below_drewN HB.out _⟩
      case measure => simp [intOf]; omega
    · go_wp2
      go_ret
      exact ⟨rfl, hbel⟩
theorem spec_isSet_any (w : World) (ao : Option Addr) (L : List F2) (n cap : Nat) (hn : n = L.length) (hcap : n ≤ 1048576) (h : FLst w ao L) (r : Bool) (hr : r = true ↔ SetOk L) :
    Calls Try.prog 55 #[.slice ao n cap] w fun e w' => e = .returned (.bool r) ∧ Below w.heap.size w w' := by
  have C := Lib.hid (l10Set_any w ao L n cap hn hcap h r hr)
  clear h hn hr
  go_enter Try.func55, Try.ntmps55
  go_wp2_with fail
  refine C.out.mono ?_
  rintro e w1 ⟨rfl, hb⟩
  go_wp2
  go_ret
  exact ⟨rfl, hb⟩
def NxAns (L : List F2) (m : M3) (c : Int) : Prop := (SetOk L ∧ (m, c) = nextOf L) ∨ (¬ SetOk L ∧ m = (0, 0, 0) ∧ c = 1)
theorem nxAns_unique {L : List F2} {m m' : M3} {c c' : Int} (h : NxAns L m c) (h' : NxAns L m' c') : m = m' ∧ c = c' := by
  rcases h with ⟨a, b⟩ | ⟨a, b, d⟩
  · rcases h' with ⟨a', b'⟩ | ⟨a', _⟩
    · have := b.trans b'.symm
      simpa using this
    · exact absurd a a'
  · rcases h' with ⟨a', b'⟩ | ⟨a', b', d'⟩
    · exact absurd a' a
    · exact ⟨b.trans b'.symm, d.trans d'.symm⟩
theorem next_zero (L : List F2) : (nextOf L).2 ≠ 0 → (nextOf L).1 = (0, 0, 0) := by
  unfold nextOf
  cases pick L with
  | none => intro _; rfl
  | some x =>
    simp only [nextF]
    split
    · intro h; exact absurd rfl h
    · split
      · intro h; exact absurd rfl h
      · split
        · intro h; exact absurd rfl h
        · intro _; rfl
def NxPost (w : World) (L : List F2) (e : Ending) (w' : World) : Prop := (∃ m0 m1 m2 c, e = .returned (.tuple #[.agg #[.int .i64 m0, .int .i64 m1, .int .i64 m2], .int .i64 c]) ∧ NxAns L (m0, m1, m2) c) ∧ Below w.heap.size w w'
set_option maxHeartbeats 2000000 in
set_option maxRecDepth 100000 in
theorem impl_next_any (w : World) (ao : Option Addr) (L : List F2) (n cap : Nat) (hn : n = L.length) (hcap : n ≤ 1048576) (h : FLst w ao L) :
    Calls Try.prog 57 #[.slice ao n cap] w (NxPost w L) := by
  have hu29 := Try.underlying29
  have HL := Lib.hid h
  have HN := Lib.hid hn
  have HX0 := Lib.hid (B1.start w (.cells #[.int .i64 0, .int .i64 0, .int .i64 0] 29))
  clear h hn
  obtain ⟨r, hr⟩ : ∃ r : Bool, r = true ↔ SetOk L := ⟨@decide (SetOk L) (Classical.propDecidable _), by simp⟩
  have C54 := Lib.hid (fun W (hW : FLst W ao L) => isSet_any W ao L n cap HN.out hcap hW r hr)
  have HR := Lib.hid hr
  clear hr
  go_enter Try.func57, Try.ntmps57
  go_wp2_with fail
  refine (C54.out _ (HL.out.below HX0.out.bel)).mono ?_
  rintro e w1 ⟨rfl, hb⟩
  have HX1 := Lib.hid (HX0.out.below hb)
  clear hb HX0 C54
  cases r with
  | false =>
    have HA : Hid (NxAns L (0, 0, 0) 1) := Lib.hid (.inr ⟨fun h => by have := HR.out.2 h; simp at this, rfl, rfl⟩)
    have hsz := HX1.out.siz
    have l0 : w.heap.size < w1.heap.size := by omega
    obtain ⟨r0, r1, r2⟩ := cells3 HX1.out.b1
    have fz0 := blk_frozen HX1.out.b1 0
    have fz1 := blk_frozen HX1.out.b1 1
    have fz2 := blk_frozen HX1.out.b1 2
    clear HR
    go_wp2
    obtain ⟨d0, d1, d2⟩ := cells3 (res3 HX1.out.b1 (.int .i64 0) (.int .i64 0) (.int .i64 0))
    exact bodyPost_ret (v := .tuple #[.agg #[.int .i64 0, .int .i64 0, .int .i64 0], .int .i64 1]) (by simp [results, Try.results57, go_sem, d0, d1, d2]) rfl ⟨⟨0, 0, 0, 1, rfl, HA.out⟩, below3 HX1.out.bel _ _ _⟩
  | true =>
    have HS := Lib.hid (HR.out.1 rfl)
    clear HR
    have C83 := Lib.hid (nextMove_any w1 ao L n cap HN.out (by rw [HN.out]; exact HS.out.2.2) HS.out.fr (HL.out.below HX1.out.bel))
    obtain ⟨⟨⟨m0, m1, m2⟩, c⟩, hN⟩ : ∃ N, nextOf L = N := ⟨_, rfl⟩
    rw [hN] at C83
    simp only at C83
    have HA : Hid (NxAns L (m0, m1, m2) c) := Lib.hid (.inl ⟨HS.out, hN.symm⟩)
    clear hN
    go_wp2_with fail
    refine C83.out.mono ?_
    rintro e w2 ⟨rfl, hb⟩
    have HX2 := Lib.hid (HX1.out.below hb)
    clear hb HX1 C83
    have hsz := HX2.out.siz
    have l0 : w.heap.size < w2.heap.size := by omega
    obtain ⟨r0, r1, r2⟩ := cells3 HX2.out.b1
    have fz0 := blk_frozen HX2.out.b1 0
    have fz1 := blk_frozen HX2.out.b1 1
    have fz2 := blk_frozen HX2.out.b1 2
    go_wp2
    obtain ⟨d0, d1, d2⟩ := cells3 (res3 HX2.out.b1 (.int .i64 m0) (.int .i64 m1) (.int .i64 m2))
    exact bodyPost_ret (v := .tuple #[.agg #[.int .i64 m0, .int .i64 m1, .int .i64 m2], .int .i64 c]) (by simp [results, Try.results57, go_sem, d0, d1, d2]) rfl ⟨⟨m0, m1, m2, c, rfl, HA.out⟩, below3 HX2.out.bel _ _ _⟩
set_option maxHeartbeats 2000000 in
set_option maxRecDepth 100000 in
theorem spec_next_any (w : World) (ao : Option Addr) (L : List F2) (n cap : Nat) (hn : n = L.length) (hcap : n ≤ 1048576) (h : FLst w ao L) :
    Calls Try.prog 58 #[.slice ao n cap] w (NxPost w L) := by
  have hu29 := Try.underlying29
  have HL := Lib.hid h
  have HN := Lib.hid hn
  have HX0 := Lib.hid (B1.start w (.cells #[.int .i64 0, .int .i64 0, .int .i64 0] 29))
  clear h hn
  obtain ⟨r, hr⟩ : ∃ r : Bool, r = true ↔ SetOk L := ⟨@decide (SetOk L) (Classical.propDecidable _), by simp⟩
  have C79 := Lib.hid (fun W (hW : FLst W ao L) => l10Set_any W ao L n cap HN.out hcap hW r hr)
  have HR := Lib.hid hr
  clear hr
  go_enter Try.func58, Try.ntmps58
  go_wp2_with fail
  refine (C79.out _ (HL.out.below HX0.out.bel)).mono ?_
  rintro e w1 ⟨rfl, hb⟩
  have HX1 := Lib.hid (HX0.out.below hb)
  clear hb HX0 C79
  cases r with
  | false =>
    have HA : Hid (NxAns L (0, 0, 0) 1) := Lib.hid (.inr ⟨fun h => by have := HR.out.2 h; simp at this, rfl, rfl⟩)
    have hsz := HX1.out.siz
    have l0 : w.heap.size < w1.heap.size := by omega
    obtain ⟨r0, r1, r2⟩ := cells3 HX1.out.b1
    have fz0 := blk_frozen HX1.out.b1 0
    have fz1 := blk_frozen HX1.out.b1 1
    have fz2 := blk_frozen HX1.out.b1 2
    clear HR
    go_wp2
    obtain ⟨d0, d1, d2⟩ := cells3 (res3 HX1.out.b1 (.int .i64 0) (.int .i64 0) (.int .i64 0))
    exact bodyPost_ret (v := .tuple #[.agg #[.int .i64 0, .int .i64 0, .int .i64 0], .int .i64 1]) (by simp [results, Try.results58, go_sem, d0, d1, d2]) rfl ⟨⟨0, 0, 0, 1, rfl, HA.out⟩, below3 HX1.out.bel _ _ _⟩
  | true =>
    have HS := Lib.hid (HR.out.1 rfl)
    clear HR
    have C98 := Lib.hid (l10Next_any w1 ao L n cap HN.out (by rw [HN.out]; exact HS.out.2.2) HS.out.fr (HL.out.below HX1.out.bel))
    go_wp2_with fail
    refine C98.out.mono ?_
    rintro e w2 ⟨⟨m0, m1, m2, ok, done, rfl, hres⟩, hb⟩
    have HX2 := Lib.hid (HX1.out.below hb)
    clear hb HX1 C98
    have hsz := HX2.out.siz
    have l0 : w.heap.size < w2.heap.size := by omega
    obtain ⟨r0, r1, r2⟩ := cells3 HX2.out.b1
    have fz0 := blk_frozen HX2.out.b1 0
    have fz1 := blk_frozen HX2.out.b1 1
    have fz2 := blk_frozen HX2.out.b1 2
    rcases hres with ⟨h5, rfl⟩ | ⟨h0, rfl, rfl, hm⟩ | ⟨h3, rfl, rfl⟩
    · have HA : Hid (NxAns L (0, 0, 0) 5) := Lib.hid (.inl ⟨HS.out, by have := next_zero L (by omega); exact (Prod.ext this h5).symm⟩)
      clear h5
      go_wp2
      obtain ⟨d0, d1, d2⟩ := cells3 (blk_alloc (res3 HX2.out.b1 (.int .i64 0) (.int .i64 0) (.int .i64 0)) (.cells #[.int .i64 m0, .int .i64 m1, .int .i64 m2] 29))
      exact bodyPost_ret (v := .tuple #[.agg #[.int .i64 0, .int .i64 0, .int .i64 0], .int .i64 5]) (by simp [results, Try.results58, go_sem, d0, d1, d2]) rfl ⟨⟨0, 0, 0, 5, rfl, HA.out⟩, below_alloc (below3 HX2.out.bel _ _ _) _⟩
    · have HA : Hid (NxAns L (m0, m1, m2) 0) := Lib.hid (.inl ⟨HS.out, Prod.ext hm h0.symm⟩)
      clear h0 hm
      go_wp2
      obtain ⟨d0, d1, d2⟩ := cells3 (blk_alloc (res3 HX2.out.b1 (.int .i64 m0) (.int .i64 m1) (.int .i64 m2)) (.cells #[.int .i64 m0, .int .i64 m1, .int .i64 m2] 29))
      exact bodyPost_ret (v := .tuple #[.agg #[.int .i64 m0, .int .i64 m1, .int .i64 m2], .int .i64 0]) (by simp [results, Try.results58, go_sem, d0, d1, d2]) rfl ⟨⟨m0, m1, m2, 0, rfl, HA.out⟩, below_alloc (below3 HX2.out.bel _ _ _) _⟩
    · have HA : Hid (NxAns L (0, 0, 0) 3) := Lib.hid (.inl ⟨HS.out, by have := next_zero L (by omega); exact (Prod.ext this h3).symm⟩)
      clear h3
      go_wp2
      obtain ⟨d0, d1, d2⟩ := cells3 (blk_alloc (res3 HX2.out.b1 (.int .i64 0) (.int .i64 0) (.int .i64 0)) (.cells #[.int .i64 m0, .int .i64 m1, .int .i64 m2] 29))
      exact bodyPost_ret (v := .tuple #[.agg #[.int .i64 0, .int .i64 0, .int .i64 0], .int .i64 3]) (by simp [results, Try.results58, go_sem, d0, d1, d2]) rfl ⟨⟨0, 0, 0, 3, rfl, HA.out⟩, below_alloc (below3 HX2.out.bel _ _ _) _⟩
def dg (m : M3) : Int := max (m.2.1 + m.2.2) 1
def degF : List M3 → Int → Int × Int
  | [], a => (a, 0)
  | m :: L, a => if 1000000000 < a * dg m then (0, 3) else degF L (a * dg m)
def degAns (L : List M3) : Int × Int := if mcode L = 0 then degF L 1 else (0, mcode L)
theorem dg_bd {m : M3} (h : Mv m.1 m.2.1 m.2.2) : 1 ≤ dg m ∧ dg m ≤ 40 ∧ wrap64 (m.2.1 + m.2.2) = m.2.1 + m.2.2 := by
  unfold dg
  rcases h with ⟨_, h1, h2, h3, h4⟩ | ⟨_, h1, h2⟩
  · refine ⟨by omega, by omega, Go.IntWalk.wrap64_in _ (by omega)⟩
  · refine ⟨by omega, by omega, Go.IntWalk.wrap64_in _ (by omega)⟩
theorem degree_any (m0 m1 m2 : Int) (w : World) (h : Mv m0 m1 m2) : Calls Try.prog 73 #[.agg #[.int .i64 m0, .int .i64 m1, .int .i64 m2]] w fun e w' => e = .returned (.int .i64 (dg (m0, m1, m2))) ∧ Below w.heap.size w w' := by
  have hw := (dg_bd (m := (m0, m1, m2)) h).2.2
  simp only at hw
  have HW := Lib.hid hw
  clear hw h
  go_enter Try.func73, Try.ntmps73
  go_wp2
  all_goals
    go_ret
    refine ⟨congrArg Ending.returned (congrArg (Value.int IntKind.i64) ?_), below_alloc (Below.refl _ _) _⟩
    unfold dg
    have := HW.out
    try simp only [Array.getD_eq_getD_getElem?]
    omega
theorem spec_degree_any (m0 m1 m2 : Int) (w : World) (h : Mv m0 m1 m2) : Calls Try.prog 72 #[.agg #[.int .i64 m0, .int .i64 m1, .int .i64 m2]] w fun e w' => e = .returned (.int .i64 (dg (m0, m1, m2))) ∧ Below w.heap.size w w' := by
  have hw := (dg_bd (m := (m0, m1, m2)) h).2.2
  simp only at hw
  have HW := Lib.hid hw
  clear hw h
  go_enter Try.func72, Try.ntmps72
  go_wp2
  all_goals
    go_ret
    refine ⟨congrArg Ending.returned (congrArg (Value.int IntKind.i64) ?_), below_alloc (Below.refl _ _) _⟩
    unfold dg
    have := HW.out
    try simp only [Array.getD_eq_getD_getElem?]
    omega
end Go.Proofs.Ytaplebckjbbobaa.Dr
end
section
set_option linter.unusedSimpArgs false
namespace Go.Proofs.Ytaplebckjbbobaa.Dr
open Go.RowKit Bs Grd Fl
open FracMath (Fr Mv)
open Low (M3 Lst mcode)
theorem degF_at {L : List M3} {k : Nat} {m : M3} {a : Int} (h : L[k]? = some m) : degF (L.drop k) a = if 1000000000 < a * dg m then (0, 3) else degF (L.drop (k + 1)) (a * dg m) := by
  rw [Low.drop_at h]; rfl
set_option maxHeartbeats 2000000 in
set_option maxRecDepth 100000 in
theorem impl_degreeOf_any (w : World) (ao : Option Addr) (L : List M3) (n cap : Nat) (d c : Int) (hd : degAns L = (d, c)) (hn : n = L.length) (hcap : n ≤ 1048576) (h : Lst w ao L) :
    Calls Try.prog 62 #[.slice ao n cap] w fun e w' => e = .returned (.tuple #[.int .i64 d, .int .i64 c]) ∧ Below w.heap.size w w' := by
  have HL := Lib.hid h
  have HN := Lib.hid hn
  have HD := Lib.hid hd
  have C70 := Lib.hid (Low.movesCode_any w ao L n cap hn hcap h)
  clear h hn hd
  go_enter Try.func62, Try.ntmps62
  go_wp2_with fail
  refine C70.out.mono ?_
  rintro e w1 ⟨rfl, hb⟩
  have HB1 := Lib.hid hb
  clear hb C70
  by_cases hc : mcode L = 0
  · rw [hc]
    have hM := Low.mcode_zero hc
    have hd := HD.out
    unfold degAns at hd
    rw [if_pos hc] at hd
    have HM := Lib.hid hM
    have HDD := Lib.hid hd
    clear hM hd hc HD
    go_wp2
    go_loopw [5, 15] (fun v i wr => ∃ (k : Nat) (a : Int), i = .int .i64 k ∧ v = .int .i64 a ∧ k ≤ n ∧ 1 ≤ a ∧ a ≤ 1000000000 ∧ degF (L.drop k) a = (d, c) ∧ Below w.heap.size w wr) (fun _ i _ => n - (intOf i).toNat)
    case atStart => exact ⟨0, 1, rfl, rfl, Nat.zero_le _, by omega, by omega, HDD.out, HB1.out⟩
    case round =>
      obtain ⟨k, a, rfl, rfl, hk, ha1, ha2, hdd, hbel⟩ := hrel
      have HB := Lib.hid hbel
      have HE := Lib.hid hdd
      clear HB1 HDD
      by_cases hlt : k < n
      · obtain ⟨m, hm⟩ : ∃ m, L[k]? = some m := ⟨L[k]'(by rw [← HN.out]; exact hlt), by simp⟩
        obtain ⟨ad, rfl, hab, c0, c1, c2⟩ := (HL.out.below hbel) k m hm
        have hk1 : (0 : Int) ≤ (k : Int) := by omega
        have hk2 : (k : Int) < (n : Int) := by omega
        have hmv := HM.out m (List.mem_of_getElem? hm)
        obtain ⟨g1, g2, -⟩ := dg_bd hmv
        have C73 := Lib.hid (fun W => degree_any m.1 m.2.1 m.2.2 W hmv)
        have hat := degF_at (a := a) hm
        rw [hdd] at hat
        have HAt := Lib.hid hat
        have hp1 : 1 ≤ a * dg m := by
          have := Int.mul_le_mul ha1 g1 (by omega) (by omega)
          simpa using this
        have hp2 : a * dg m ≤ 40000000000 := by
          have := Int.mul_le_mul ha2 g2 (by omega) (by omega)
          simpa using this
        clear hbel hm hdd hat hmv
        go_wp2_with fail
        refine (C73.out _).mono ?_
        rintro e w3 ⟨rfl, hb⟩
        have HB3 := Lib.hid (below_step (below_alloc HB.out _) hb)
        have e1 : dg (m.1, m.2.1, m.2.2) = dg m := rfl
        rw [e1]
        generalize hy : a * dg m = y at hp1 hp2 HAt
        have hyw : wrap64 (a * dg m) = y := by rw [hy]; exact Go.IntWalk.wrap64_in _ (by omega)
        clear hb e1 hy g1 g2 C73
        by_cases hbig : 1000000000 < y
        · have hh := HAt.out
          rw [if_pos hbig] at hh
          simp only [Prod.mk.injEq] at hh
          obtain ⟨rfl, rfl⟩ := hh
          go_wp2
          go_ret2
          exact ⟨rfl, HB3.out⟩
        · have hh := HAt.out
          rw [if_neg hbig] at hh
          have HH := Lib.hid hh.symm
          clear hh
          go_wp2
          go_roundw
          case rel => exact ⟨k + 1, y, by go_num, congrArg (Value.int IntKind.i64) hyw, by omega, hp1, by omega, HH.out, HB3.out⟩
          case measure => simp [intOf]; omega
      · have hdr : L.drop k = [] := List.drop_eq_nil_of_le (by have := HN.out; omega)
        rw [hdr] at hdd
        simp only [degF, Prod.mk.injEq] at hdd
        obtain ⟨rfl, rfl⟩ := hdd
        clear hdr
        go_wp2
        go_ret2
        exact ⟨rfl, HB.out⟩
  · have hd := HD.out
    unfold degAns at hd
    rw [if_neg hc] at hd
    simp only [Prod.mk.injEq] at hd
    obtain ⟨rfl, rfl⟩ := hd
    have hc' : (mcode L != 0) = true := by simpa using hc
    clear HD hc
    go_wp2
    go_ret2
    exact ⟨rfl, HB1.out⟩
set_option maxHeartbeats 2000000 in
set_option maxRecDepth 100000 in
theorem spec_degreeOf_any (w : World) (ao : Option Addr) (L : List M3) (n cap : Nat) (d c : Int) (hd : degAns L = (d, c)) (hn : n = L.length) (hcap : n ≤ 1048576) (h : Lst w ao L) :
    Calls Try.prog 63 #[.slice ao n cap] w fun e w' => e = .returned (.tuple #[.int .i64 d, .int .i64 c]) ∧ Below w.heap.size w w' := by
  have HL := Lib.hid h
  have HN := Lib.hid hn
  have HD := Lib.hid hd
  have C69 := Lib.hid (Low.l10Moves_any w ao L n cap hn hcap h)
  clear h hn hd
  go_enter Try.func63, Try.ntmps63
  go_wp2_with fail
  refine C69.out.mono ?_
  rintro e w1 ⟨rfl, hb⟩
  have HB1 := Lib.hid hb
  clear hb C69
  by_cases hc : mcode L = 0
  · rw [hc]
    have hM := Low.mcode_zero hc
    have hd := HD.out
    unfold degAns at hd
    rw [if_pos hc] at hd
    have HM := Lib.hid hM
    have HDD := Lib.hid hd
    clear hM hd hc HD
    go_wp2
    go_loopw [5, 6] (fun v i wr => ∃ (k : Nat) (a : Int), i = .int .i64 k ∧ v = .int .i64 a ∧ k ≤ n ∧ 1 ≤ a ∧ a ≤ 1000000000 ∧ degF (L.drop k) a = (d, c) ∧ Below w.heap.size w wr) (fun _ i _ => n - (intOf i).toNat)
    case atStart => exact ⟨0, 1, rfl, rfl, Nat.zero_le _, by omega, by omega, HDD.out, HB1.out⟩
    case round =>
      obtain ⟨k, a, rfl, rfl, hk, ha1, ha2, hdd, hbel⟩ := hrel
      have HB := Lib.hid hbel
      have HE := Lib.hid hdd
      clear HB1 HDD
      by_cases hlt : k < n
      · obtain ⟨m, hm⟩ : ∃ m, L[k]? = some m := ⟨L[k]'(by rw [← HN.out]; exact hlt), by simp⟩
        obtain ⟨ad, rfl, hab, c0, c1, c2⟩ := (HL.out.below hbel) k m hm
        have hk1 : (0 : Int) ≤ (k : Int) := by omega
        have hk2 : (k : Int) < (n : Int) := by omega
        have hmv := HM.out m (List.mem_of_getElem? hm)
        obtain ⟨g1, g2, -⟩ := dg_bd hmv
        have C72 := Lib.hid (fun W => spec_degree_any m.1 m.2.1 m.2.2 W hmv)
        have hat := degF_at (a := a) hm
        rw [hdd] at hat
        have HAt := Lib.hid hat
        have hp1 : 1 ≤ a * dg m := by
          have := Int.mul_le_mul ha1 g1 (by omega) (by omega)
          simpa using this
        have hp2 : a * dg m ≤ 40000000000 := by
          have := Int.mul_le_mul ha2 g2 (by omega) (by omega)
          simpa using this
        clear hbel hm hdd hat hmv
        go_wp2_with fail
        refine (C72.out _).mono ?_
        rintro e w3 ⟨rfl, hb⟩
        have HB3 := Lib.hid (below_step HB.out hb)
        have e1 : dg (m.1, m.2.1, m.2.2) = dg m := rfl
        rw [e1]
        generalize hy : a * dg m = y at hp1 hp2 HAt
        have hyw : wrap64 (a * dg m) = y := by rw [hy]; exact Go.IntWalk.wrap64_in _ (by omega)
        clear hb e1 hy g1 g2 C72
        by_cases hbig : 1000000000 < y
        · have hh := HAt.out
          rw [if_pos hbig] at hh
          simp only [Prod.mk.injEq] at hh
          obtain ⟨rfl, rfl⟩ := hh
          go_wp2
          go_ret2
          exact ⟨rfl, HB3.out⟩
        · have hh := HAt.out
          rw [if_neg hbig] at hh
          have HH := Lib.hid hh.symm
          clear hh
          go_wp2
          go_roundw
          case rel => exact ⟨k + 1, y, by go_num, congrArg (Value.int IntKind.i64) hyw, by omega, hp1, by omega, HH.out, HB3.out⟩
          case measure => simp [intOf]; omega
      · have hdr : L.drop k = [] := List.drop_eq_nil_of_le (by have := HN.out; omega)
        rw [hdr] at hdd
        simp only [degF, Prod.mk.injEq] at hdd
        obtain ⟨rfl, rfl⟩ := hdd
        clear hdr
        go_wp2
        go_ret2
        exact ⟨rfl, HB.out⟩
  · have hd := HD.out
    unfold degAns at hd
    rw [if_neg hc] at hd
    simp only [Prod.mk.injEq] at hd
    obtain ⟨rfl, rfl⟩ := hd
    have hc' : (mcode L != 0) = true := by simpa using hc
    clear HD hc
    go_wp2
    go_ret2
    exact ⟨rfl, HB1.out⟩
end Go.Proofs.Ytaplebckjbbobaa.Dr
end
section
set_option linter.unusedSimpArgs false
namespace Go.Proofs.Ytaplebckjbbobaa.Dr
open Go.RowKit Bs Grd Fl
open FracMath (Fr Mv IsVal Fits)
open Low (M3 Lst mcode Ran RunAns)
theorem nextOf_five {L : List F2} (h : (nextOf L).2 = 5) : ∀ x ∈ L, opn x = false := by
  unfold nextOf at h
  cases hp : pick L with
  | none =>
    intro x hx
    unfold pick at hp
    rw [List.find?_eq_none] at hp
    simpa using hp x hx
  | some x =>
    rw [hp] at h
    simp only [nextF] at h
    split at h
    · simp at h
    · split at h
      · simp at h
      · split at h <;> simp at h
theorem ch_run {V : M3 → F2 → F2} (hV : ValsAll V) {L : List F2} {O R : List M3} {c : Int} (h : Ch V L O R c) (hf : ∀ x ∈ L, FR x) (hc : c = 0) :
    ∃ S, R = O ++ S ∧ (∀ m ∈ S, Mv m.1 m.2.1 m.2.2) ∧ ∀ x ∈ L, ∃ y : F2, opn y = false ∧ Ran S x.1 x.2 (y.1, y.2, 0) := by
  induction h with
  | done h => exact ⟨[], by simp, fun m h => by simp at h, fun x hx => ⟨x, nextOf_five h x hx, rfl⟩⟩
  | lim h h2 => simp at hc
  | bad h h2 h3 => simp at hc
  | @step L L' O R c h h2 h3 h4 h5 k ih =>
    obtain ⟨S, hS, hM, hall⟩ := ih h4.1 hc
    refine ⟨(nextOf L).1 :: S, by rw [hS]; simp, fun m hm => ?_, fun x hx => ?_⟩
    · rcases List.mem_cons.1 hm with e | e
      · rw [e]; exact next_mv h
      · exact hM m e
    · obtain ⟨y, hy, hr⟩ := hall (V (nextOf L).1 x) ((h5 _).2 (List.mem_map.2 ⟨x, hx, rfl⟩))
      exact ⟨y, hy, _, _, hV (nextOf L).1 (next_mv h) x (hf x hx), .inl ⟨h3 x hx, hr⟩⟩
theorem ch_none {V : M3 → F2 → F2} {L : List F2} {O R : List M3} {c : Int} (h : Ch V L O R c) (hc : c ≠ 0) : R = [] := by
  induction h with
  | done h => exact absurd rfl hc
  | lim h h2 => rfl
  | bad h h2 h3 => rfl
  | step h h2 h3 h4 h5 k ih => exact ih hc
theorem ch_empty {V : M3 → F2 → F2} {R : List M3} {c : Int} (h : Ch V [] [] R c) : R = [] := by
  cases h with
  | done h => rfl
  | lim h h2 => rfl
  | bad h h2 h3 => rfl
  | step h => exact absurd h (by decide)
structure ChKnown (L : List F2) (R : List M3) (c : Int) : Prop where
  none : c ≠ 0 → R = []
  len : R.length ≤ 20
  run : c = 0 → ∀ x ∈ L, ∃ y : F2, opn y = false ∧ RunAns R x.1 x.2 (y.1, y.2, 0)
  empty : L = [] → R = []
theorem chKnown {V : M3 → F2 → F2} (hV : ValsAll V) {L : List F2} {R : List M3} {c : Int} (h : ChAns V L R c) (hl : R.length ≤ 20) : ChKnown L R c := by
  refine ⟨fun hc => ?_, hl, fun hc x hx => ?_, fun hL => ?_⟩
  · rcases h with ⟨_, h⟩ | ⟨_, h, _⟩
    · exact ch_none h hc
    · exact h
  · rcases h with ⟨hs, h⟩ | ⟨_, _, h⟩
    · obtain ⟨S, hS, hM, hall⟩ := ch_run hV h hs.fr hc
      rw [List.nil_append] at hS
      subst hS
      obtain ⟨y, hy, hr⟩ := hall x hx
      refine ⟨y, hy, ?_⟩
      have hm : mcode R = 0 := by
        unfold mcode
        rw [if_pos hM, if_neg (by omega)]
      unfold RunAns
      rw [if_pos (hs.fr x hx), if_pos hm]
      exact hr
    · omega
  · rcases h with ⟨_, h⟩ | ⟨_, h, _⟩
    · subst hL; exact ch_empty h
    · exact h
theorem setOk_of_asc {R : List F2} (h : Asc R) (hl : R.length ≤ 12) : SetOk R := by
  refine ⟨h.1, fun i x y hx hy => ?_, hl⟩
  obtain ⟨h1, e1⟩ := List.getElem?_eq_some_iff.1 hx
  obtain ⟨h2, e2⟩ := List.getElem?_eq_some_iff.1 hy
  have := List.pairwise_iff_getElem.1 h.2 i (i + 1) h1 h2 (by omega)
  rw [e1, e2] at this
  exact this
theorem img_at {m0 m1 m2 : Int} {L : List F2} {vf : F2 → F2} {R : List F2} (hv : Vals m0 m1 m2 vf) (h : ImgAns m0 m1 m2 L vf R 0) :
    SetOk R ∧ R.length ≤ L.length ∧ ∀ x ∈ L, vf x ∈ R ∧ FracMath.Answer m0 m1 m2 x.1 x.2 ((vf x).1, (vf x).2, 0) := by
  rcases h with ⟨a, b, c, d, e, _⟩ | ⟨_, _, _, h⟩ | ⟨_, _, h⟩
  · refine ⟨setOk_of_asc c (by have := a.2.2.2; omega), e, fun x hx => ⟨(d _).2 (List.mem_map.2 ⟨x, hx, rfl⟩), ?_⟩⟩
    have hfr := a.2.fr x hx
    unfold FracMath.Answer
    rw [if_pos ⟨a.1, hfr⟩]
    exact ⟨_, _, hv a.1 x hfr, by rw [if_pos (b x hx)]⟩
  · omega
  · omega
end Go.Proofs.Ytaplebckjbbobaa.Dr
end
section
namespace Go.Proofs.Ytaplebckjbbobaa.Low
open Go.RowKit Go.Proofs.YtaplebckjbbobaaW.PrintWords Go.Proofs.YtaplebckjbbobaaW.PrintMore FracMath PFnExactMoveFraction
set_option linter.unusedSimpArgs false
abbrev C5 (x : Addr) (b : Nat) (m0 m1 m2 p q : Int) (W : World) : Prop := W.cell? x = some (.int .i64 m0) ∧ W.cell? ⟨x.block, x.off + 1, none⟩ = some (.int .i64 m1) ∧ W.cell? ⟨x.block, x.off + 2, none⟩ = some (.int .i64 m2) ∧ W.cell? ⟨b, 0, none⟩ = some (.int .i64 p) ∧ W.cell? ⟨b, 1, none⟩ = some (.int .i64 q)
section
variable {x : Addr} {b g : Nat} {m0 m1 m2 p q : Int} {W W' : World} {o o' : Obj} {u v : Value}
theorem keepC (hb : Below W.heap.size W W') (h : C5 x b m0 m1 m2 p q W) : C5 x b m0 m1 m2 p q W' :=
  ⟨pw_cell_below hb h.1, pw_cell_below hb h.2.1, pw_cell_below hb h.2.2.1, pw_cell_below hb h.2.2.2.1, pw_cell_below hb h.2.2.2.2⟩
theorem keepCa (h : C5 x b m0 m1 m2 p q W) : C5 x b m0 m1 m2 p q (W.alloc o) := keepC (below_alloc (Below.refl _ _) o) h
theorem alloc_cell' {a : Addr} (h : a.block < W.heap.size) : (W.alloc o).cell? a = W.cell? a := World.cell?_of_block (w := W) (Below.heap_alloc W o a.block h)
theorem set_cell' {pa : Addr} {a : Addr} (h : a.block ≠ pa.block) : (W.setCell pa u).cell? a = W.cell? a := World.cell?_of_block (w := W) (Below.heap_setCell W pa u a.block h)
theorem keepCc (hx : x.block < W.heap.size) (hb : b < W.heap.size) (h : C5 x b m0 m1 m2 p q (W.alloc o)) : C5 x b m0 m1 m2 p q (W.alloc o') := by
  have e : ∀ a : Addr, a.block < W.heap.size → (W.alloc o').cell? a = (W.alloc o).cell? a := fun a ha => (alloc_cell' ha).trans (alloc_cell' ha).symm
  exact ⟨(e x hx).trans h.1, (e ⟨x.block, x.off + 1, none⟩ hx).trans h.2.1, (e ⟨x.block, x.off + 2, none⟩ hx).trans h.2.2.1, (e ⟨b, 0, none⟩ hb).trans h.2.2.2.1, (e ⟨b, 1, none⟩ hb).trans h.2.2.2.2⟩
theorem keepCd (hx : x.block < g) (hb : b < g) (h : C5 x b m0 m1 m2 p q W) : C5 x b m0 m1 m2 p q ((W.setCell ⟨g, 0, none⟩ u).setCell ⟨g, 1, none⟩ v) := by
  have e : ∀ a : Addr, a.block < g → ((W.setCell ⟨g, 0, none⟩ u).setCell ⟨g, 1, none⟩ v).cell? a = W.cell? a := fun a ha => (set_cell' (Nat.ne_of_lt ha)).trans (set_cell' (Nat.ne_of_lt ha))
  exact ⟨(e x hx).trans h.1, (e ⟨x.block, x.off + 1, none⟩ hx).trans h.2.1, (e ⟨x.block, x.off + 2, none⟩ hx).trans h.2.2.1, (e ⟨b, 0, none⟩ hb).trans h.2.2.2.1, (e ⟨b, 1, none⟩ hb).trans h.2.2.2.2⟩
end
def NB (W0 : World) (r1 r2 : Int) (g : Nat) (W : World) : Prop := W.heap[g]? = some (.cells #[.int .i64 r1, .int .i64 r2] 26 (0, 0)) ∧ W0.heap.size ≤ g ∧ Below W0.heap.size W0 W
theorem NB.new {W0 W : World} (h : Below W0.heap.size W0 W) (r1 r2 : Int) : NB W0 r1 r2 W.heap.size (W.alloc (.cells #[.int .i64 r1, .int .i64 r2] 26)) := ⟨heap_alloc_new _ _, h.size, below_alloc h _⟩
theorem NB.below {W0 W W' : World} {r1 r2 : Int} {g : Nat} (h : NB W0 r1 r2 g W) (hb : Below W.heap.size W W') : NB W0 r1 r2 g W' := ⟨blk_below h.1 hb, h.2.1, below_step h.2.2 hb⟩
theorem NB.drew {W0 W : World} {r1 r2 : Int} {g : Nat} (h : NB W0 r1 r2 g W) : NB W0 r1 r2 g W.drew := ⟨h.1, h.2.1, h.2.2.drew⟩
theorem NB.put {W0 W : World} {s1 s2 : Int} {g : Nat} (h : NB W0 s1 s2 g W) (r1 r2 : Int) : NB W0 r1 r2 g ((W.setCell ⟨g, 0, none⟩ (.int .i64 r1)).setCell ⟨g, 1, none⟩ (.int .i64 r2)) :=
  ⟨by simpa using blk_set (blk_set h.1 0 (.int .i64 r1)) 1 (.int .i64 r2), h.2.1, (h.2.2.setCell h.2.1 _).setCell h.2.1 _⟩
theorem bcell {W w1 : World} (hb : Below W.heap.size W w1) : (∀ b o, b < W.heap.size → w1.cell? ⟨b, o, none⟩ = W.cell? ⟨b, o, none⟩) ∧ (∀ b o, b < W.heap.size → w1.frozen? ⟨b, o, none⟩ = W.frozen? ⟨b, o, none⟩) :=
  ⟨fun b o h => hb.cell (p := ⟨b, o, none⟩) h, fun b o h => hb.frozen (p := ⟨b, o, none⟩) h⟩
theorem hdrew (w : World) : w.drew.heap = w.heap := rfl
set_option maxHeartbeats 1000000 in
set_option maxRecDepth 100000 in
theorem spec_run_any (w : World) (ao : Option Addr) (L : List M3) (n cap : Nat) (p q r1 r2 r3 : Int) (hn : n = L.length) (hcap : n ≤ 1048576) (h : Lst w ao L) (hr : RunAns L p q (r1, r2, r3)) :
    Calls Try.prog 16 #[.slice ao n cap, .agg #[.int .i64 p, .int .i64 q]] w fun e w' => e = .returned (.tuple #[.agg #[.int .i64 r1, .int .i64 r2], .int .i64 r3]) ∧ Below w.heap.size w w' := by
  have hu26 := Try.underlying26
  have HL := Lib.hid h
  have HN := Lib.hid hn
  have HR := Lib.hid hr
  have C1 := Lib.hid (fun W => spec_is_any p q W)
  have C2 := Lib.hid (fun W (hW : Lst W ao L) => l10Moves_any W ao L n cap hn hcap hW)
  have HQ := Lib.hid (Q2.start w p q 0 0)
  clear h hn hr
  go_enter Try.func16, Try.ntmps16
  go_wp2_with fail
  refine (C1.out _).mono ?_
  rintro e w1 ⟨rfl, hb⟩
  have HQ1 := Lib.hid (HQ.out.below hb)
  clear hb HQ C1
  obtain ⟨⟨a0, a1⟩, c0, c1⟩ := HQ1.out.cells
  obtain ⟨⟨g0, g1⟩, f0, f1⟩ := HQ1.out.frozen
  by_cases hx : Fr p q
  · rw [decide_eq_true hx]
    clear a0 a1 c0 c1 g0 g1 f0 f1
    go_wp2_with fail
    refine (C2.out _ (HL.out.below HQ1.out.bel)).mono ?_
    rintro e w2 ⟨rfl, hb⟩
    have HQ2 := Lib.hid (HQ1.out.below hb)
    clear hb HQ1 C2
    obtain ⟨⟨a0, a1⟩, c0, c1⟩ := HQ2.out.cells
    obtain ⟨⟨g0, g1⟩, f0, f1⟩ := HQ2.out.frozen
    by_cases hc : mcode L = 0
    · rw [hc]
      clear a0 a1 c0 c1 g0 g1 f0 f1
      go_wp2
      go_loopw [7] (fun i wr => ∃ (k : Nat) (p' q' : Int), i = .int .i64 k ∧ k ≤ n ∧ Fr p' q' ∧ Ran (L.drop k) p' q' (r1, r2, r3) ∧ Q2 w wr p' q' 0 0) (fun i _ => n - (intOf i).toNat)
      case atStart =>
        have hh := HR.out
        unfold RunAns at hh
        rw [if_pos hx, if_pos hc] at hh
        exact ⟨0, p, q, rfl, Nat.zero_le _, hx, hh, HQ2.out⟩
      case round =>
        obtain ⟨k, p', q', rfl, hk, hx', hran, hq⟩ := hrel
        have HQ := Lib.hid hq
        have HRN := Lib.hid hran
        clear hq hran
        by_cases hlt : k < n
        · obtain ⟨m, hm⟩ : ∃ m, L[k]? = some m := ⟨L[k]'(by rw [← HN.out]; exact hlt), by simp⟩
          have hM := mcode_zero hc m (List.mem_of_getElem? hm)
          obtain ⟨N, D, hv, hcase⟩ : ∃ N D, IsVal m.1 m.2.1 m.2.2 p' q' N D ∧ ((Fits N D ∧ Ran (L.drop (k + 1)) N D (r1, r2, r3)) ∨ (¬ Fits N D ∧ (r1, r2, r3) = (0, 0, 3))) := by
            have hh := HRN.out
            rw [drop_at hm] at hh
            exact hh
          obtain ⟨a, rfl, hab, c0, c1, c2⟩ := (HL.out.below HQ.out.bel) k m hm
          obtain ⟨⟨x0, x1⟩, y0, y1⟩ := HQ.out.cells
          obtain ⟨s1, s2, s3, ht, hcall⟩ := at_any m.1 m.2.1 m.2.2 p' q' N D hM hx' hv
          have C3 := Lib.hid hcall
          have hk1 : (0 : Int) ≤ (k : Int) := by omega
          have hk2 : (k : Int) < (n : Int) := by omega
          have HV := Lib.hid hv
          have HC := Lib.hid hcase
          have HT := Lib.hid ht
          have hsz := HQ.out.siz
          have hxb : (a.add (k * 3)).block < wr.heap.size := by rw [add_block]; exact hab
          have l0 : w.heap.size < wr.heap.size := by omega
          have l1 : w.heap.size + 1 < wr.heap.size := by omega
          clear hv hcase ht hm hM hx' hcall
          go_upto_region 9 with (fail)
          go_cut [8, 9] (fun v8 v9 wc => ∃ g : Nat, v8 = .pointer (some ⟨g, 0, none⟩) ∧ v9 = .bool s3 ∧ NB wr s1 s2 g wc)
          case first =>
            have z0 : w.heap.size + 1 + 1 ≤ wr.drew.heap.size := hsz
            have hxd : (a.add (k * 3)).block < wr.drew.heap.size := hxb
            go_region_held3 (fun W' => W'.cell? (a.add (k * 3)) = some (.int .i64 m.1) ∧ W'.cell? ⟨(a.add (k * 3)).block, (a.add (k * 3)).off + 1, none⟩ = some (.int .i64 m.2.1) ∧ W'.cell? ⟨(a.add (k * 3)).block, (a.add (k * 3)).off + 2, none⟩ = some (.int .i64 m.2.2) ∧ W'.cell? ⟨w.heap.size, 0, none⟩ = some (.int .i64 p') ∧ W'.cell? ⟨w.heap.size, 1, none⟩ = some (.int .i64 q'))
              (first | (go_keep; done) | (apply keepC; (case hb => assumption); (case h => assumption)) | (apply keepCa; assumption) | (apply keepCc; (case hx => first | assumption | omega); (case hb => omega); (case h => assumption)) | (apply keepCd; (case hx => first | assumption | omega); (case hb => omega); (case h => assumption)))
              ((first
                | (go_at_call 67; refine (C3.out _).mono ?_; rintro e w3 ⟨rfl, hb3⟩; have z3 := hb3.size; have y3 := hb3.size; (try simp at y3); obtain ⟨k3, q3⟩ := bcell hb3; (try simp only [hdrew, World.size_alloc] at k3 q3 y3); (try have u3 : wr.heap.size < w3.heap.size := by omega))))
            · go_wp2
              go_meet
              case rel => exact ⟨_, rfl, rfl, NB.new (below_step (Below.refl _ _).drew hb3) s1 s2⟩
            · go_wp2
              go_meet
              case rel => exact ⟨_, rfl, rfl, ((NB.new (Below.refl _ _) 0 0).drew.below hb3).put s1 s2⟩
          case rest =>
            obtain ⟨g, rfl, rfl, hnb⟩ := hcut
            have HQ3 := Lib.hid (HQ.out.below hnb.2.2)
            have hgg : wr.heap.size ≤ g := hnb.2.1
            have e0 := blk_cell hnb.1 0
            have e1 := blk_cell hnb.1 1
            simp only [List.getElem?_toArray, List.getElem?_cons_zero, List.getElem?_cons_succ] at e0 e1
            clear hnb c0 c1 c2 x0 x1 y0 y1 HQ
            obtain ⟨⟨x0, x1⟩, y0, y1⟩ := HQ3.out.cells
            obtain ⟨⟨g0, g1⟩, f0, f1⟩ := HQ3.out.frozen
            have hsz3 := HQ3.out.siz
            rcases HC.out with ⟨hf, hran'⟩ | ⟨hf, hres⟩
            · have hs := HT.out.1 hf
              simp only [Prod.mk.injEq] at hs
              obtain ⟨rfl, rfl, rfl⟩ := hs
              have HRN' := Lib.hid hran'
              have hx3 := fits_Fr HV.out hf
              clear hran' HC HT
              go_wp2
              go_roundw
              case rel => exact ⟨k + 1, _, _, by go_num, by omega, hx3, HRN'.out, HQ3.out.put _ _⟩
              case measure => simp [intOf]; omega
            · have hs := HT.out.2 hf
              simp only [Prod.mk.injEq] at hs hres
              obtain rfl : s3 = false := hs
              obtain ⟨rfl, rfl, rfl⟩ := hres
              clear HC HT
              go_wp2
              have HX := Lib.hid (HQ3.out.put2 0 0)
              obtain ⟨_, z0, z1⟩ := HX.out.cells
              exact bodyPost_ret (v := .tuple #[.agg #[.int .i64 0, .int .i64 0], .int .i64 3]) (by simp [results, Try.results16, go_sem, z0, z1, y0, y1]) rfl ⟨rfl, HX.out.bel⟩
        · have hh := HRN.out
          rw [show k = L.length from by have := HN.out; omega, List.drop_length] at hh
          obtain ⟨⟨x0, x1⟩, y0, y1⟩ := HQ.out.cells
          obtain ⟨⟨g0, g1⟩, f0, f1⟩ := HQ.out.frozen
          simp only [Ran, Prod.mk.injEq] at hh
          obtain ⟨rfl, rfl, rfl⟩ := hh
          go_wp2
          refine bodyPost_ret (v := .tuple #[.agg #[.int .i64 r1, .int .i64 r2], .int .i64 0]) (by simp [results, Try.results16, go_sem, y0, y1]) rfl ⟨rfl, ?_⟩
          exact (HQ.out.bel.setCell (by simp) _).setCell (by simp) _
    · have hh := HR.out
      unfold RunAns at hh
      rw [if_pos hx, if_neg hc] at hh
      simp only [Prod.mk.injEq] at hh
      obtain ⟨rfl, rfl, rfl⟩ := hh
      have hc' : (mcode L != 0) = true := by simpa using hc
      go_wp2
      refine bodyPost_ret (v := .tuple #[.agg #[.int .i64 0, .int .i64 0], .int .i64 (mcode L)]) (by simp [results, Try.results16, go_sem, c0, c1]) rfl ⟨rfl, ?_⟩
      exact (HQ2.out.bel.setCell (by simp) _).setCell (by simp) _
  · rw [decide_eq_false hx]
    have hh := HR.out
    unfold RunAns at hh
    rw [if_neg hx] at hh
    simp only [Prod.mk.injEq] at hh
    obtain ⟨rfl, rfl, rfl⟩ := hh
    go_wp2
    refine bodyPost_ret (v := .tuple #[.agg #[.int .i64 0, .int .i64 0], .int .i64 1]) (by simp [results, Try.results16, go_sem, c0, c1]) rfl ⟨rfl, ?_⟩
    exact (HQ1.out.bel.setCell (by simp) _).setCell (by simp) _
end Go.Proofs.Ytaplebckjbbobaa.Low
end
section
set_option linter.unusedSimpArgs false
namespace Go.Proofs.Ytaplebckjbbobaa.Fl
open Go.RowKit Bs Grd
open FracMath (Fr IsVal Fits Mv)
open Low (M3 Lst)
theorem MNew.reads {w w' : World} {ao : Option Addr} {c : Nat} {R : List M3} (h : MNew w w' ao c R) : Lst w' ao R := by
  rcases h with ⟨g, rfl, h2, h3⟩ | ⟨_, rfl, _⟩
  · exact h3.reads
  · intro i m hi; simp at hi
end Go.Proofs.Ytaplebckjbbobaa.Fl
end
section
set_option linter.unusedSimpArgs false
namespace Go.Proofs.Ytaplebckjbbobaa.Dr
open Go.RowKit Bs Grd Fl
open FracMath (Fr Mv IsVal Fits)
open Low (M3 Lst mcode Ran RunAns)
structure Held (w W : World) (m0 m1 m2 : Int) (vf : F2 → F2) (L1 R1 L2 : List F2) (R2 : List M3) (bm g1 g2 : Nat) (a1 a2 : Option Addr) (c1 c2 : Nat) (k1 k2 : Int) : Prop where
  bel : Below w.heap.size w W
  box : W.heap[bm]? = some (.cells #[.int .i64 m0, .int .i64 m1, .int .i64 m2] 29 (0, 0))
  l1 : FRow W g1 L1
  r1 : FLst W a1 R1
  l2 : FRow W g2 L2
  r2 : Lst W a2 R2
theorem Held.below {w W W' : World} {m0 m1 m2 : Int} {vf : F2 → F2} {L1 R1 L2 : List F2} {R2 : List M3} {bm g1 g2 : Nat} {a1 a2 : Option Addr} {c1 c2 : Nat} {k1 k2 : Int} (h : Held w W m0 m1 m2 vf L1 R1 L2 R2 bm g1 g2 a1 a2 c1 c2 k1 k2) (hb : Below W.heap.size W W') : Held w W' m0 m1 m2 vf L1 R1 L2 R2 bm g1 g2 a1 a2 c1 c2 k1 k2 :=
  ⟨below_step h.bel hb, blk_below h.box hb, h.l1.below hb, h.r1.below hb, h.l2.below hb, h.r2.below hb⟩
set_option maxHeartbeats 20000000 in
set_option maxRecDepth 100000 in
theorem law_chains (w : World) (ao : Option Addr) (n cap : Nat) (hmax : n ≤ 9223372036854775807) (h : Bts w ao n) (hlt : ∀ a, ao = some a → a.block < w.heap.size) :
    Calls Try.prog 9 #[.slice ao n cap] w fun e w' => e = .returned (.bool true) ∧ Below w.heap.size w w' := by
  have hu26 := Try.underlying26
  have hu29 := Try.underlying29
  have HBt := Lib.hid h
  have HLt := Lib.hid hlt
  have C36 := Lib.hid (big_any w ao n cap hmax)
  clear h hlt
  go_enter Try.func9, Try.ntmps9
  go_wp2_with fail
  refine C36.out.mono ?_
  rintro e w0 ⟨rfl, hw0⟩
  have HB0 : Hid (Below w.heap.size w w0) := Lib.hid (by rw [hw0]; exact Below.refl _ _)
  clear hw0 C36
  by_cases hbig : 4096 < n
  · rw [decide_eq_true hbig]
    clear hbig
    go_wp2
    go_ret
    exact ⟨rfl, HB0.out⟩
  · rw [decide_eq_false hbig]
    have hn : n ≤ 4096 := by omega
    have HN4 := Lib.hid hn
    clear hbig hmax hn
    have hltW : ∀ W, Below w.heap.size w W → ∀ a, ao = some a → a.block < W.heap.size := fun W hW a ha => Nat.lt_of_lt_of_le (HLt.out a ha) hW.size
    have HLW := Lib.hid hltW
    clear hltW
    go_wp2_with fail
    refine (drawImage_any w0 ao n cap HN4.out (HBt.out.below HB0.out) (HLW.out _ HB0.out)).mono ?_
    rintro e w1 ⟨⟨m0, m1, m2, g1, c1, L1, rfl, hg1, hrow1, hlen1⟩, hb⟩
    obtain ⟨n1, hn1⟩ : ∃ q, q = L1.length := ⟨_, rfl⟩
    rw [← hn1] at hlen1 ⊢
    have HN1 := Lib.hid hn1
    have HB1 := Lib.hid (below_step HB0.out hb)
    have HL1 := Lib.hid (hrow1.below (below_alloc (Below.refl _ _) (.cells #[.int .i64 m0, .int .i64 m1, .int .i64 m2] 29)))
    have HBx1 := Lib.hid (heap_alloc_new w1 (.cells #[.int .i64 m0, .int .i64 m1, .int .i64 m2] 29))
    have HB1a := Lib.hid (below_alloc HB1.out (.cells #[.int .i64 m0, .int .i64 m1, .int .i64 m2] 29))
    clear hb hg1 hrow1 hn1 HB0 HB1
    obtain ⟨vf, hvf⟩ := vals_exist m0 m1 m2
    have HVf := Lib.hid hvf
    clear hvf
    obtain ⟨d0, d1, d2⟩ := cells3 HBx1.out
    go_wp2_with fail
    refine (impl_imageOf_any _ m0 m1 m2 _ L1 n1 c1 vf HN1.out (by omega) HVf.out HL1.out.reads).mono ?_
    rintro e w2 ⟨a1, ca1, R1, k1, rfl, hans, hnew, hb⟩
    obtain ⟨nr1, hnr1⟩ : ∃ q, q = R1.length := ⟨_, rfl⟩
    rw [← hnr1]
    have HNr1 := Lib.hid hnr1
    have hnr1l : nr1 ≤ 1048576 := by
      have h1 := HN1.out
      rcases hans with ⟨_, _, _, _, h2, _⟩ | ⟨_, _, h2, _⟩ | ⟨_, h2, _⟩
      · omega
      · rw [hnr1, h2]; simp
      · rw [hnr1, h2]; simp
    have HA1 := Lib.hid hans
    have HB2 := Lib.hid (below_step HB1a.out hb)
    have HL2 := Lib.hid (HL1.out.below hb)
    have HR2 := Lib.hid hnew.reads
    have HBx2 := Lib.hid (blk_below HBx1.out hb)
    clear hb hans hnew hnr1 HB1a HL1 HBx1 d0 d1 d2
    obtain ⟨d0, d1, d2⟩ := cells3 HBx2.out
    go_wp2_with fail
    refine (spec_imageOf_any _ m0 m1 m2 _ L1 n1 c1 vf HN1.out (by omega) HVf.out HL2.out.reads).mono ?_
    rintro e w3 ⟨a3, ca3, R3, k3, rfl, hans, hnew, hb⟩
    obtain ⟨e1, e2⟩ := imgAns_unique hans HA1.out
    subst e1 e2
    rw [← HNr1.out]
    have HB3 := Lib.hid (below_step HB2.out hb)
    have HL3 := Lib.hid (HL2.out.below hb)
    have HR3 := Lib.hid (HR2.out.below hb)
    have HS3 := Lib.hid hnew.reads
    have HBx3 := Lib.hid (blk_below HBx2.out hb)
    have hkk : (k3 != k3) = false := by simp
    clear hb hans hnew HB2 HL2 HR2 HBx2 d0 d1 d2
    go_wp2_with fail
    refine (set9_any _ a1 a3 R3 nr1 ca1 ca3 HNr1.out hnr1l HR3.out HS3.out).mono ?_
    rintro e w4 ⟨rfl, hb⟩
    have HB4 := Lib.hid (below_step HB3.out hb)
    have HL4 := Lib.hid (HL3.out.below hb)
    have HR4 := Lib.hid (HR3.out.below hb)
    have HBx4 := Lib.hid (blk_below HBx3.out hb)
    clear hb HB3 HL3 HR3 HS3 HBx3
    obtain ⟨r, hr⟩ : ∃ r : Bool, r = true ↔ SetOk L1 := ⟨@decide (SetOk L1) (Classical.propDecidable _), by simp⟩
    have HRr := Lib.hid hr
    have hrr : (r != r) = false := by cases r <;> rfl
    clear hr
    go_wp2_with fail
    refine (isSet_any _ _ L1 n1 c1 HN1.out (by omega) HL4.out.reads r HRr.out).mono ?_
    rintro e w5 ⟨rfl, hb⟩
    have HB5 := Lib.hid (below_step HB4.out hb)
    have HL5 := Lib.hid (HL4.out.below hb)
    have HR5 := Lib.hid (HR4.out.below hb)
    have HBx5 := Lib.hid (blk_below HBx4.out hb)
    clear hb HB4 HL4 HR4 HBx4
    go_wp2_with fail
    refine (spec_isSet_any _ _ L1 n1 c1 HN1.out (by omega) HL5.out.reads r HRr.out).mono ?_
    rintro e w6 ⟨rfl, hb⟩
    have HB6 := Lib.hid (below_step HB5.out hb)
    have HL6 := Lib.hid (HL5.out.below hb)
    have HR6 := Lib.hid (HR5.out.below hb)
    have HBx6 := Lib.hid (blk_below HBx5.out hb)
    clear hb HB5 HL5 HR5 HBx5
    go_wp2_with fail
    refine (drawNext_any w6 ao n cap HN4.out (HBt.out.below HB6.out) (HLW.out _ HB6.out)).mono ?_
    rintro e w7 ⟨⟨g7, c7, L7, rfl, hg7, hrow7, hlen7⟩, hb⟩
    obtain ⟨n7, hn7⟩ : ∃ q, q = L7.length := ⟨_, rfl⟩
    rw [← hn7] at hlen7 ⊢
    have HN7 := Lib.hid hn7
    have HB7 := Lib.hid (below_step HB6.out hb)
    have HL7 := Lib.hid (HL6.out.below hb)
    have HR7 := Lib.hid (HR6.out.below hb)
    have HBx7 := Lib.hid (blk_below HBx6.out hb)
    have HM7 := Lib.hid hrow7
    clear hb hg7 hrow7 hn7 HB6 HL6 HR6 HBx6
    go_wp2_with fail
    refine (impl_next_any w7 _ L7 n7 c7 HN7.out (by omega) HM7.out.reads).mono ?_
    rintro e w8 ⟨⟨p0, p1, p2, k8, rfl, hans⟩, hb⟩
    have HA8 := Lib.hid hans
    have hb8 := below_alloc hb (.cells #[.int .i64 p0, .int .i64 p1, .int .i64 p2] 29)
    have HB8 := Lib.hid (below_step HB7.out hb8)
    have HL8 := Lib.hid (HL7.out.below hb8)
    have HR8 := Lib.hid (HR7.out.below hb8)
    have HBx8 := Lib.hid (blk_below HBx7.out hb8)
    have HM8 := Lib.hid (HM7.out.below hb8)
    have HP8 := Lib.hid (heap_alloc_new w8 (.cells #[.int .i64 p0, .int .i64 p1, .int .i64 p2] 29))
    clear hb hb8 hans HB7 HL7 HR7 HBx7 HM7
    go_wp2_with fail
    refine (spec_next_any _ _ L7 n7 c7 HN7.out (by omega) HM8.out.reads).mono ?_
    rintro e w9 ⟨⟨q0, q1, q2, k9, rfl, hans⟩, hb⟩
    obtain ⟨e1, e2⟩ := nxAns_unique hans HA8.out
    simp only [Prod.mk.injEq] at e1
    obtain ⟨rfl, rfl, rfl⟩ := e1
    subst e2
    have hb9 := below_alloc hb (.cells #[.int .i64 q0, .int .i64 q1, .int .i64 q2] 29)
    have HB9 := Lib.hid (below_step HB8.out hb9)
    have HL9 := Lib.hid (HL8.out.below hb9)
    have HR9 := Lib.hid (HR8.out.below hb9)
    have HBx9 := Lib.hid (blk_below HBx8.out hb9)
    obtain ⟨s0, s1, s2⟩ := cells3 (blk_below HP8.out hb9)
    have hkk9 : (k9 != k9) = false := by simp
    have hl9 := blk_lt (blk_below HP8.out hb)
    clear hb hb9 hans HB8 HL8 HR8 HBx8 HM8 HP8 HA8
    go_wp2_with fail
    refine (drawChain_any _ ao n cap HN4.out (HBt.out.below HB9.out) (HLW.out _ HB9.out)).mono ?_
    rintro e w10 ⟨⟨g2, c2, L2, rfl, hg2, hrow2, hlen2⟩, hb⟩
    obtain ⟨n2, hn2⟩ : ∃ q, q = L2.length := ⟨_, rfl⟩
    rw [← hn2] at hlen2 ⊢
    have HN2 := Lib.hid hn2
    have HB10 := Lib.hid (below_step HB9.out hb)
    have HL10 := Lib.hid (HL9.out.below hb)
    have HR10 := Lib.hid (HR9.out.below hb)
    have HBx10 := Lib.hid (blk_below HBx9.out hb)
    have HM10 := Lib.hid hrow2
    clear hb hg2 hrow2 hn2 HB9 HL9 HR9 HBx9 s0 s1 s2
    obtain ⟨V, hV⟩ := valsAll_exist
    have HV := Lib.hid hV
    clear hV
    go_wp2_with fail
    refine (impl_chainOf_any _ V _ L2 n2 c2 HV.out HN2.out (by omega) HM10.out.reads (fun a ha => by cases ha; exact HM10.out.lt)).mono ?_
    rintro e w11 ⟨a2, ca2, R2, k2, rfl, hans, hnew, hlenR, hb⟩
    obtain ⟨nr2, hnr2⟩ : ∃ q, q = R2.length := ⟨_, rfl⟩
    rw [← hnr2] at hlenR ⊢
    have HNr2 := Lib.hid hnr2
    have HA2 := Lib.hid hans
    have HB11 := Lib.hid (below_step HB10.out hb)
    have HL11 := Lib.hid (HL10.out.below hb)
    have HR11 := Lib.hid (HR10.out.below hb)
    have HBx11 := Lib.hid (blk_below HBx10.out hb)
    have HM11 := Lib.hid (HM10.out.below hb)
    have HC11 := Lib.hid hnew.reads
    clear hb hans hnew hnr2 HB10 HL10 HR10 HBx10 HM10
    go_wp2_with fail
    refine (spec_chainOf_any _ V _ L2 n2 c2 HV.out HN2.out (by omega) HM11.out.reads (fun a ha => by cases ha; exact HM11.out.lt)).mono ?_
    rintro e w12 ⟨a3', ca3', R3', k3', rfl, hans, hnew, hlenR', hb⟩
    obtain ⟨e1, e2⟩ := chAns_unique hans HA2.out
    subst e1 e2
    rw [← HNr2.out]
    have hkk2 : (k3' != k3') = false := by simp
    have HB12 := Lib.hid (below_step HB11.out hb)
    have HL12 := Lib.hid (HL11.out.below hb)
    have HR12 := Lib.hid (HR11.out.below hb)
    have HBx12 := Lib.hid (blk_below HBx11.out hb)
    have HM12 := Lib.hid (HM11.out.below hb)
    have HC12 := Lib.hid (HC11.out.below hb)
    have HD12 := Lib.hid hnew.reads
    clear hb hans hnew HB11 HL11 HR11 HBx11 HM11 HC11 hlenR'
    go_wp2_with fail
    refine (moves9_any _ a2 a3' R3' nr2 ca2 ca3' HNr2.out (by omega) HC12.out HD12.out).mono ?_
    rintro e w13 ⟨rfl, hb⟩
    have HK13 : Hid (Held w w13 m0 m1 m2 vf L1 R3 L2 R3' w1.heap.size g1 g2 a1 a2 0 0 0 0) := Lib.hid (Held.below ⟨HB12.out, HBx12.out, HL12.out, HR12.out, HM12.out, HC12.out⟩ hb)
    clear hb HB12 HL12 HR12 HBx12 HM12 HC12 HD12
    go_wp2_with fail
    refine (drawDegree_any _ ao n cap HN4.out (HBt.out.below HK13.out.bel) (HLW.out _ HK13.out.bel)).mono ?_
    rintro e w14 ⟨⟨g14, c14, L14, rfl, hg14, hrow14, hlen14⟩, hb⟩
    obtain ⟨n14, hn14⟩ : ∃ q, q = L14.length := ⟨_, rfl⟩
    rw [← hn14] at hlen14 ⊢
    have HN14 := Lib.hid hn14
    have HK14 := Lib.hid (HK13.out.below hb)
    have HM14 := Lib.hid hrow14
    clear hb hg14 hrow14 hn14 HK13
    obtain ⟨⟨d, dc⟩, hdg⟩ : ∃ p, degAns L14 = p := ⟨_, rfl⟩
    have HDg := Lib.hid hdg
    clear hdg
    go_wp2_with fail
    refine (impl_degreeOf_any _ _ L14 n14 c14 d dc HDg.out HN14.out (by omega) HM14.out.reads).mono ?_
    rintro e w15 ⟨rfl, hb⟩
    have HK15 := Lib.hid (HK14.out.below hb)
    have HM15 := Lib.hid (HM14.out.below hb)
    clear hb HK14 HM14
    go_wp2_with fail
    refine (spec_degreeOf_any _ _ L14 n14 c14 d dc HDg.out HN14.out (by omega) HM15.out.reads).mono ?_
    rintro e w16 ⟨rfl, hb⟩
    have HK16 := Lib.hid (HK15.out.below hb)
    have hdd1 : (d != d) = false := by simp
    have hdd2 : (dc != dc) = false := by simp
    clear hb HK15 HM15
    go_wp2_with fail
    refine (drawRun_any _ ao n cap HN4.out (HBt.out.below HK16.out.bel) (HLW.out _ HK16.out.bel)).mono ?_
    rintro e w17 ⟨⟨p, q, g17, c17, L17, rfl, hg17, hrow17, hlen17⟩, hb⟩
    obtain ⟨n17, hn17⟩ : ∃ q, q = L17.length := ⟨_, rfl⟩
    rw [← hn17] at hlen17 ⊢
    have HN17 := Lib.hid hn17
    have hb17 := below_alloc hb (.cells #[.int .i64 p, .int .i64 q] 26)
    have HK17 := Lib.hid (HK16.out.below hb17)
    have HM17 := Lib.hid (hrow17.below (below_alloc (Below.refl _ _) (.cells #[.int .i64 p, .int .i64 q] 26)))
    have HX17 := Lib.hid (heap_alloc_new w17 (.cells #[.int .i64 p, .int .i64 q] 26))
    clear hb hb17 hg17 hrow17 hn17 HK16 
    obtain ⟨r1, r2, r3, hra⟩ := Low.runAns_exists L17 p q
    have HRa := Lib.hid hra
    obtain ⟨s0, s1⟩ := cells2 HX17.out
    clear hra
    go_wp2_with fail
    refine (Low.impl_run_any _ _ L17 n17 c17 p q r1 r2 r3 HN17.out (by omega) HM17.out.reads HRa.out).mono ?_
    rintro e w18 ⟨rfl, hb⟩
    have hb18 := below_alloc hb (.cells #[.int .i64 r1, .int .i64 r2] 26)
    have HK18 := Lib.hid (HK17.out.below hb18)
    have HM18 := Lib.hid (HM17.out.below hb18)
    have HX18 := Lib.hid (blk_below HX17.out hb18)
    have HY18 := Lib.hid (heap_alloc_new w18 (.cells #[.int .i64 r1, .int .i64 r2] 26))
    clear hb hb18 s0 s1 HK17 HM17 HX17
    obtain ⟨s0, s1⟩ := cells2 HX18.out
    go_wp2_with fail
    refine (Low.spec_run_any _ _ L17 n17 c17 p q r1 r2 r3 HN17.out (by omega) HM18.out.reads HRa.out).mono ?_
    rintro e w19 ⟨rfl, hb⟩
    have hb19 := below_alloc hb (.cells #[.int .i64 r1, .int .i64 r2] 26)
    have HK19 := Lib.hid (HK18.out.below hb19)
    have hy19 := blk_below HY18.out hb19
    have hl19 := blk_lt (blk_below HY18.out hb)
    have hrr3 : (r3 != r3) = false := by simp
    clear s0 s1
    obtain ⟨s0, s1⟩ := cells2 hy19
    clear hb hb19 hy19 HK18 HM18 HX18 HY18
    go_upto_region 28 with (fail)
    clear s0 s1 hkk hkk9 hdd1 hdd2 hrr3 hl9 hl19 hrr hkk2 HN14 HN17 HDg HRa HN7 HRr HLt HBt HN4 HLW
    generalize w19.alloc (.cells #[.int .i64 r1, .int .i64 r2] 26) = W at HK19 ⊢
    go_cut [160] (fun v160 wc => v160 = .bool (k3 == 0) ∧ wc = W)
    case first =>
      go_wp2_with fail
      go_meet
      case rel => exact ⟨rfl, rfl⟩
    case rest =>
    obtain ⟨rfl, rfl⟩ := hcut
    obtain ⟨W, rfl⟩ : ∃ W : World, W = wc := ⟨_, rfl⟩
    go_upto_if 160 with (fail)
    go_cut [160] (fun _ wc => Held w wc m0 m1 m2 vf L1 R3 L2 R3' w1.heap.size g1 g2 a1 a2 0 0 0 0)
    case first =>
      by_cases hk0 : k3 = 0
      · subst hk0
        obtain ⟨hset, hlen, hall⟩ := img_at HVf.out HA1.out
        have HSet := Lib.hid hset
        have HLen := Lib.hid hlen
        have HAll := Lib.hid hall
        clear hset hlen hall
        go_wp2_with fail
        go_loopw [30] (fun i wr => ∃ k : Nat, i = .int .i64 k ∧ k ≤ n1 ∧ Held w wr m0 m1 m2 vf L1 R3 L2 R3' w1.heap.size g1 g2 a1 a2 0 0 0 0) (fun i _ => n1 - (intOf i).toNat)
        case atStart => exact ⟨0, rfl, Nat.zero_le _, HK19.out⟩
        case round =>
          clear HK19
          obtain ⟨k, rfl, hk, hheld⟩ := hrel
          have HK := Lib.hid hheld
          clear hheld
          by_cases hlt : k < n1
          · obtain ⟨x, hx⟩ : ∃ x, L1[k]? = some x := ⟨L1[k]'(by rw [← HN1.out]; exact hlt), by simp⟩
            obtain ⟨c0, c1'⟩ := HK.out.l1.cell hx
            obtain ⟨b0, b1, b2⟩ := cells3 HK.out.box
            have hk1 : (0 : Int) ≤ (k : Int) := by omega
            have hk2 : (k : Int) < (n1 : Int) := by omega
            have z1 := add_at g1 0 (k * 2)
            rw [Nat.zero_add] at z1
            obtain ⟨hmem, hansx⟩ := HAll.out x (List.mem_of_getElem? hx)
            have C13 := Lib.hid (fun W => Low.moveFraction_any m0 m1 m2 x.1 x.2 W (vf x).1 (vf x).2 0 hansx)
            have HMem := Lib.hid hmem
            have hgl := HK.out.l1.lt
            have hbl := blk_lt HK.out.box
            clear hx hmem hansx
            go_upto_region 32 with (fail)
            obtain ⟨Wr, rfl⟩ : ∃ Wr : World, Wr = wr := ⟨_, rfl⟩
            go_cut [31, 32] (fun v31 v32 wc => ∃ g : Nat, v31 = .pointer (some ⟨g, 0, none⟩) ∧ v32 = .int .i64 0 ∧ NB Wr (vf x).1 (vf x).2 g wc)
            case first =>
              have z0 : w1.heap.size < Wr.drew.heap.size := hbl
              have hxd : g1 < Wr.drew.heap.size := hgl
              go_region_held3 (fun W' => W'.cell? ⟨g1, k * 2, none⟩ = some (.int .i64 x.1) ∧ W'.cell? ⟨g1, k * 2 + 1, none⟩ = some (.int .i64 x.2) ∧ W'.cell? ⟨w1.heap.size, 0, none⟩ = some (.int .i64 m0) ∧ W'.cell? ⟨w1.heap.size, 1, none⟩ = some (.int .i64 m1) ∧ W'.cell? ⟨w1.heap.size, 2, none⟩ = some (.int .i64 m2))
                (first | (go_keep; done) | (exact ⟨c0, c1', b0, b1, b2⟩) | (apply keepD (x := ⟨g1, k * 2, none⟩); (case hb => assumption); (case h => assumption)) | (apply keepDa (x := ⟨g1, k * 2, none⟩); assumption) | (apply keepDc (x := ⟨g1, k * 2, none⟩); (case hx => first | assumption | omega); (case hb => first | assumption | omega); (case h => assumption)) | (apply keepDd (x := ⟨g1, k * 2, none⟩); (case hx => first | assumption | omega); (case hb => first | assumption | omega); (case h => assumption)))
                ((first
                  | (go_at_call 13; refine (C13.out _).mono ?_; rintro e w3' ⟨rfl, hb3⟩; have z3 := hb3.size; have y3 := hb3.size; (try simp at y3); obtain ⟨k3x, q3⟩ := bcell hb3; (try simp only [hdrew, World.size_alloc] at k3x q3 y3); (try have u3x : Wr.heap.size < w3'.heap.size := by omega))))
              · go_wp2_with fail
                go_meet
                case rel => exact ⟨_, rfl, rfl, NB.new (below_step (Below.refl _ _).drew hb3) (vf x).1 (vf x).2⟩
              · go_wp2_with fail
                go_meet
                case rel => exact ⟨_, rfl, rfl, ((NB.new (Below.refl _ _) 0 0).drew.below hb3).put (vf x).1 (vf x).2⟩
            case rest =>
              obtain ⟨W2, rfl⟩ : ∃ W2 : World, W2 = wc := ⟨_, rfl⟩
              obtain ⟨gy, rfl, rfl, hnb⟩ := hcut
              have HK2 := Lib.hid (HK.out.below hnb.2.2)
              have HY2 := Lib.hid hnb.1
              have hne1 : Hid (vf x ∈ R3) := HMem
              clear hnb HK c0 c1' b0 b1 b2 C13 hgl hbl
              go_wp2_with fail
              go_loopw [33, 34] (fun v33 v34 wr => ∃ (j : Nat) (b : Bool), v34 = .int .i64 j ∧ j ≤ nr1 ∧ v33 = .bool b ∧ (b = true ↔ vf x ∈ R3.take j) ∧ Below W2.heap.size W2 wr) (fun _ i _ => nr1 - (intOf i).toNat)
              case atStart => exact ⟨0, false, rfl, Nat.zero_le _, rfl, by simp, Below.refl _ _⟩
              case round =>
                obtain ⟨j, b, rfl, hj, rfl, hbm, hbel⟩ := hrel
                have HM := Lib.hid hbm
                have HB := Lib.hid hbel
                clear hbm hbel
                by_cases hjl : j < nr1
                · obtain ⟨y, hy⟩ : ∃ y, R3[j]? = some y := ⟨R3[j]'(by rw [← HNr1.out]; exact hjl), by simp⟩
                  obtain ⟨a, rfl, hab, c0, c1'⟩ := (HK2.out.r1.below HB.out) j y hy
                  obtain ⟨s0, s1⟩ := cells2 (blk_below HY2.out HB.out)
                  have hj1 : (0 : Int) ≤ (j : Int) := by omega
                  have hj2 : (j : Int) < (nr1 : Int) := by omega
                  have hts : R3.take (j + 1) = R3.take j ++ [y] := by
                    obtain ⟨h1, h2⟩ := List.getElem?_eq_some_iff.1 hy
                    rw [List.take_succ_eq_append_getElem h1, h2]
                  have HTs := Lib.hid hts
                  clear hy hts
                  cases b with
                  | true =>
                    have hin := HM.out.1 rfl
                    have HIn := Lib.hid hin
                    clear s0 s1 c0 c1' hin HM
                    go_upto_region 37 with (fail)
                    go_quiet (fail)
                    go_wp2_with fail
                    go_roundw
                    case rel =>
                      refine ⟨j + 1, true, by go_num, by omega, rfl, ?_, below_drewN HB.out _⟩
                      rw [HTs.out, List.mem_append]
                      exact ⟨fun _ => .inl HIn.out, fun _ => rfl⟩
                    case measure => simp [intOf]; omega
                  | false =>
                    have hno : ¬ vf x ∈ R3.take j := fun h => by have := HM.out.2 h; simp at this
                    have HNo := Lib.hid hno
                    clear hno
                    by_cases hyx : y = vf x
                    · subst hyx
                      go_wp2_with fail
                      go_quiet (fail)
                      go_wp2_with fail
                      go_roundw
                      case rel =>
                        refine ⟨j + 1, true, by go_num, by omega, rfl, ?_, below_drewN HB.out _⟩
                        rw [HTs.out, List.mem_append]
                        exact ⟨fun _ => .inr (List.mem_singleton.2 rfl), fun _ => rfl⟩
                      case measure => simp [intOf]; omega
                    · have e1 : (y.1 == (vf x).1) = false ∨ ((y.1 == (vf x).1) = true ∧ (y.2 == (vf x).2) = false) := by
                        by_cases h1 : y.1 = (vf x).1
                        · right; exact ⟨by simpa using h1, by simp; intro h2; exact hyx (Prod.ext h1 h2)⟩
                        · left; simpa using h1
                      have HNe := Lib.hid hyx
                      clear hyx
                      rcases e1 with e1 | ⟨e1, e2⟩
                      all_goals
                        go_wp2_with fail
                        go_quiet (fail)
                        go_wp2_with fail
                        go_roundw
                        case rel =>
                          refine ⟨j + 1, false, by go_num, by omega, rfl, ?_, below_drewN HB.out _⟩
                          rw [HTs.out, List.mem_append, List.mem_singleton]
                          constructor
                          · intro h; simp at h
                          · rintro (h | h)
                            · exact absurd h HNo.out
                            · exact absurd h.symm HNe.out
                        case measure => simp [intOf]; omega
                · have hb : b = true := HM.out.2 (by rw [List.take_of_length_le (by have := HNr1.out; omega)]; exact hne1.out)
                  subst hb
                  clear HM
                  have HKe := Lib.hid (HK2.out.below HB.out)
                  clear HB HK2 HY2
                  go_wp2_with fail
                  exact ⟨⟨k + 1, by go_num, by omega, HKe.out⟩, by simp [intOf]; omega⟩
          · have hlen := HLen.out
            rw [← HN1.out, ← HNr1.out] at hlen
            have hlen' : ¬ (n1 : Int) < (nr1 : Int) := by omega
            go_wp2_with fail
            refine (isSet_any _ a1 R3 nr1 ca1 HNr1.out (by omega) HK.out.r1 true ⟨fun _ => HSet.out, fun _ => rfl⟩).mono ?_
            rintro e w20 ⟨rfl, hb⟩
            have HKe := Lib.hid (HK.out.below hb)
            clear hb HK
            go_wp2_with fail
            go_meet
            case rel => exact HKe.out
      · have hk0' : (k3 == 0) = false := by simpa using hk0
        clear hk0
        go_wp2_with fail
        go_meet
        case rel => exact HK19.out
    case rest =>
      obtain ⟨Wz, rfl⟩ : ∃ Wz : World, Wz = wc := ⟨_, rfl⟩
      have HKz := Lib.hid hcut
      have HCK := Lib.hid (chKnown HV.out HA2.out (by rw [← HNr2.out]; exact hlenR))
      clear hcut HK19 HA1 HA2 HV
      by_cases hk2 : k3' = 0
      · subst hk2
        go_wp2_with fail
        go_loopw [35] (fun i wr => ∃ k : Nat, i = .int .i64 k ∧ k ≤ n2 ∧ Held w wr m0 m1 m2 vf L1 R3 L2 R3' w1.heap.size g1 g2 a1 a2 0 0 0 0) (fun i _ => n2 - (intOf i).toNat)
        case atStart => exact ⟨0, rfl, Nat.zero_le _, HKz.out⟩
        case round =>
          clear HKz
          obtain ⟨k, rfl, hk, hheld⟩ := hrel
          have HK := Lib.hid hheld
          clear hheld
          by_cases hlt : k < n2
          · obtain ⟨x, hx⟩ : ∃ x, L2[k]? = some x := ⟨L2[k]'(by rw [← HN2.out]; exact hlt), by simp⟩
            obtain ⟨c0, c1'⟩ := HK.out.l2.cell hx
            have hk1 : (0 : Int) ≤ (k : Int) := by omega
            have hk2 : (k : Int) < (n2 : Int) := by omega
            have z1 := add_at g2 0 (k * 2)
            rw [Nat.zero_add] at z1
            obtain ⟨y, hop, hans⟩ := HCK.out.run rfl x (List.mem_of_getElem? hx)
            have hcase : (y.1 != 0) = false ∨ ((y.1 != 0) = true ∧ (y.2 != 0) = false) ∨ ((y.1 != 0) = true ∧ (y.2 != 0) = true ∧ (y.1 != y.2) = false) := by
              have h := of_decide_eq_false hop
              by_cases e1 : y.1 = 0
              · left; simp [e1]
              · by_cases e2 : y.2 = 0
                · right; left; simp [e1, e2]
                · right; right
                  have e3 : y.1 = y.2 := Classical.byContradiction fun e3 => h ⟨e2, e1, e3⟩
                  exact ⟨by simpa using e1, by simpa using e2, by simpa using e3⟩
            have C18 := Lib.hid (fun W (hW : Lst W a2 R3') => Low.impl_run_any W a2 R3' nr2 ca2 x.1 x.2 y.1 y.2 0 HNr2.out (by omega) hW hans)
            clear hx hop hans
            go_wp2_with fail
            refine (C18.out _ HK.out.r2).mono ?_
            rintro e w20 ⟨rfl, hb⟩
            have HKe := Lib.hid (HK.out.below (below_alloc hb (.cells #[.int .i64 y.1, .int .i64 y.2] 26)))
            obtain ⟨s0, s1⟩ := cells2 (heap_alloc_new w20 (.cells #[.int .i64 y.1, .int .i64 y.2] 26))
            clear hb HK C18 c0 c1'
            rcases hcase with e1 | ⟨e1, e2⟩ | ⟨e1, e2, e3⟩
            all_goals
              go_wp2_with fail
              go_roundw
              case rel => exact ⟨k + 1, by go_num, by omega, HKe.out⟩
              case measure => simp [intOf]; omega
          · by_cases hz : nr2 = 0
            · have hz' : ((nr2 : Int) == 0) = true := by simp; omega
              clear hz
              go_wp2_with fail
              go_ret
              exact ⟨rfl, HK.out.bel⟩
            · have hz' : ((nr2 : Int) == 0) = false := by simp; omega
              have hpos : 0 < n2 := by
                rcases Nat.eq_zero_or_pos n2 with h | h
                · exfalso
                  have hL : L2 = [] := List.eq_nil_of_length_eq_zero (by rw [← HN2.out]; exact h)
                  have := HCK.out.empty hL
                  have h2 := HNr2.out
                  rw [this] at h2
                  exact hz h2
                · exact h
              have hpos' : (0 : Int) < (n2 : Int) := by omega
              have hdec : decide ((0 : Int) < (n2 : Int)) = true := decide_eq_true hpos'
              clear hz
              go_wp2_with fail
              go_ret
              exact ⟨rfl, HK.out.bel⟩
      · have hR : nr2 = 0 := by
          have := HCK.out.none hk2
          have h2 := HNr2.out
          rw [this] at h2
          exact h2
        have hz' : ((nr2 : Int) == 0) = true := by simp; omega
        have hk2' : (k3' != 0) = true := by simpa using hk2
        clear hk2 hR
        go_wp2_with fail
        go_ret
        exact ⟨rfl, HKz.out.bel⟩
end Go.Proofs.Ytaplebckjbbobaa.Dr
end
