/- Small plain lemmas on worlds, blocks and rounds, used by every walk of this seat. -/
import Derived.Test.YtaplebckjbbobaaProg
import Derived.WalkKit
import Derived.KernelRfl
import Derived.RowKit
import Derived.IntWalk
import Derived.Lib.Hide
import Derived.Outline
import Derived.Deep.QuietTactic
import Derived.BigQuiet
import Derived.Laws.BitsLemmas
import Derived.WalkLawsBesides
import Derived.OwnWalk
import Derived.Laws.OwnMore
import Derived.Laws.Rows
import Derived.Maps.AppendAt
import Derived.Deep.RegionHeld3
import Derived.Deep.DeepCutAuto
import Derived.Deep.CutBlock
import Derived.Deep.LoopGhost
namespace Go.Proofs.Ytaplebckjbbobaa.Bs
open Go.RowKit

/-! ### rounds -/
def Ev {α : Type} (g : Nat → Option α) (r : α) : Prop := ∃ K, ∀ k, K ≤ k → g k = some r
theorem Ev.now {α : Type} (r : α) : Ev (fun _ => some r) r := ⟨0, fun _ _ => rfl⟩
theorem Ev.rounds {α : Type} {g : Nat → Option α} {r : α} (h : Ev g r) : ∃ k, g k = some r := ⟨h.choose, h.choose_spec _ (Nat.le_refl _)⟩
theorem Ev.bind {α β : Type} {g : Nat → Option α} {f : Nat → α → Option β} {a : α} {r : β} (h : Ev g a) (k : Ev (fun n => f n a) r) : Ev (fun n => (g n).bind (f n)) r := by
  obtain ⟨K, h⟩ := h
  obtain ⟨K2, k⟩ := k
  exact ⟨K + K2, fun n hn => by show (g n).bind (f n) = some r; rw [h n (by omega)]; exact k n (by omega)⟩
theorem Ev.step {α : Type} {g f : Nat → Option α} {r : α} (h : ∀ k, g (k + 1) = f k) (k : Ev f r) : Ev g r := by
  obtain ⟨K, k⟩ := k
  refine ⟨K + 1, fun n hn => ?_⟩
  cases n with
  | zero => omega
  | succ n => rw [h]; exact k n (by omega)
def rd (xs : List Int) (i : Int) : Int := xs.getD i.toNat 0
def nums (k : IntKind) (xs : List Int) : List Value := xs.map fun x => .int k x

/-! ### blocks -/
section
variable {w w1 W : World} {g : Nat} {o : Obj} {t : TypeId} {cs : Array Value}
theorem blk_lt (h : w.heap[g]? = some o) : g < w.heap.size := (Array.getElem?_eq_some_iff.1 h).1
theorem blk_cell (h : w.heap[g]? = some (.cells cs t (0, 0))) (i : Nat) : w.cell? ⟨g, i, none⟩ = cs[i]? := cell_of_row w g i cs t (0, 0) h
theorem blk_frozen (h : w.heap[g]? = some (.cells cs t (0, 0))) (i : Nat) : w.frozen? ⟨g, i, none⟩ = false := by simp [World.frozen?, h]
theorem blk_set (h : w.heap[g]? = some (.cells cs t (0, 0))) (i : Nat) (u : Value) : (w.setCell ⟨g, i, none⟩ u).heap[g]? = some (.cells (cs.setIfInBounds i u) t (0, 0)) := by
  simp [World.setCell, Array.getElem?_modify, h]
theorem blk_far (h : w.heap[g]? = some o) {p : Addr} (hp : g ≠ p.block) (u : Value) : (w.setCell p u).heap[g]? = some o := (Below.heap_setCell w p u g hp).trans h
theorem blk_alloc (h : w.heap[g]? = some o) (o2 : Obj) : (w.alloc o2).heap[g]? = some o := (Below.heap_alloc w o2 g (blk_lt h)).trans h
theorem blk_below (h : w.heap[g]? = some o) (hb : Below w.heap.size w w1) : w1.heap[g]? = some o := (hb.block g (blk_lt h)).trans h
theorem below_alloc (h : Below w.heap.size w W) (o : Obj) : Below w.heap.size w (W.alloc o) := h.alloc h.size o
theorem below_drewN {B : Nat} (h : Below B w W) (n : Nat) : Below B w (W.drewN n) := ⟨h.os, h.tape, h.output, h.size, h.block⟩
theorem below_step (h : Below w.heap.size w W) (k : Below W.heap.size W w1) : Below w.heap.size w w1 := h.trans (k.mono h.size)
theorem cell_below (hb : Below w.heap.size w w1) {a : Addr} {v : Value} (hc : w.cell? a = some v) : w1.cell? a = some v := (hb.cell (World.block_lt_of_cell? w a hc)).trans hc
theorem bcell (hb : Below W.heap.size W w1) : (∀ b o, b < W.heap.size → w1.cell? ⟨b, o, none⟩ = W.cell? ⟨b, o, none⟩) ∧ (∀ b o, b < W.heap.size → w1.frozen? ⟨b, o, none⟩ = W.frozen? ⟨b, o, none⟩) :=
  ⟨fun b o h => hb.cell (p := ⟨b, o, none⟩) h, fun b o h => hb.frozen (p := ⟨b, o, none⟩) h⟩
theorem alloc_at (w : World) (o : Obj) (k : Nat) : (w.alloc o).heap[k]? = if k = w.heap.size then some o else w.heap[k]? := by
  show (w.heap.push o)[k]? = _
  rw [Array.getElem?_push]
theorem alloc_cell {a : Addr} (h : a.block < W.heap.size) : (W.alloc o).cell? a = W.cell? a := World.cell?_of_block (w := W) (Below.heap_alloc W o a.block h)
theorem set_cell {pa : Addr} {u : Value} {a : Addr} (h : a.block ≠ pa.block) : (W.setCell pa u).cell? a = W.cell? a := World.cell?_of_block (w := W) (Below.heap_setCell W pa u a.block h)
theorem add_at (g o j : Nat) : (⟨g, o, none⟩ : Addr).add j = ⟨g, o + j, none⟩ := by unfold Addr.add; split <;> simp_all
theorem own_base {base : Nat} {e : TypeId} {size n : Nat} {v : Value} {xs : List Value} (h : w.ownsRow base e size v n xs) (k : Nat) (hk : v.ownBlock = some k) : base ≤ k := (h.lt k hk).1
theorem own_lt {base : Nat} {e : TypeId} {size n : Nat} {v : Value} {xs : List Value} (h : w.ownsRow base e size v n xs) (k : Nat) (hk : v.ownBlock = some k) : k < w.heap.size := (h.lt k hk).2
theorem own_below {base : Nat} {e : TypeId} {size n : Nat} {v : Value} {xs : List Value} (h : w.ownsRow base e size v n xs) (hb : Below w.heap.size w w1) : w1.ownsRow base e size v n xs := by
  obtain ⟨h1, h2⟩ := h
  refine ⟨h1, ?_⟩
  rcases h2 with h2 | ⟨g, cap, cur, rfl, hg, hh, r⟩
  · exact .inl h2
  · exact .inr ⟨g, cap, cur, rfl, hg, blk_below hh hb, r⟩
theorem own_set {base : Nat} {e : TypeId} {size n : Nat} {v : Value} {xs : List Value} (h : w.ownsRow base e size v n xs) {p : Addr} (hne : some p.block ≠ v.ownBlock) (u : Value) : (w.setCell p u).ownsRow base e size v n xs := by
  obtain ⟨h1, h2⟩ := h
  refine ⟨h1, ?_⟩
  rcases h2 with h2 | ⟨g, cap, cur, rfl, hg, hh, r⟩
  · exact .inl h2
  · exact .inr ⟨g, cap, cur, rfl, hg, blk_far hh (fun e => hne (by rw [← e]; rfl)) u, r⟩
theorem hdrew (w : World) : w.drew.heap = w.heap := rfl
end
/-- only draws were made -/
structure Drawn0 (w w' : World) : Prop where mk :: (out : ∃ n, w' = w.drewN n)
theorem Drawn0.below {w w' : World} (h : Drawn0 w w') : Below w.heap.size w w' := by
  obtain ⟨n, rfl⟩ := h.out
  exact below_drewN (Below.refl _ _) n
theorem info2 : (Try.prog.info? 2).map (fun i => (i.zero, i.size, i.bytes)) = some (some (.int .i64 0), 1, 8) := by kernel_rfl
theorem ret_int {k : IntKind} {a b : Int} (h : a = b) : Ending.returned (.int k a) = .returned (.int k b) := by rw [h]

/-! ### boxes laid at a call's head -/
structure B1 (w W : World) (o1 : Obj) : Prop where
  b1 : W.heap[w.heap.size]? = some o1
  bel : Below w.heap.size w W
  siz : w.heap.size + 1 ≤ W.heap.size
theorem B1.start (w : World) (o1 : Obj) : B1 w (w.alloc o1) o1 := ⟨heap_alloc_new _ _, below_alloc (Below.refl _ _) _, by simp⟩
theorem B1.below {w W W' : World} {o1 : Obj} (h : B1 w W o1) (hb : Below W.heap.size W W') : B1 w W' o1 :=
  ⟨blk_below h.b1 hb, below_step h.bel hb, Nat.le_trans h.siz hb.size⟩
structure B2 (w W : World) (o1 o2 : Obj) : Prop where
  b1 : W.heap[w.heap.size]? = some o1
  b2 : W.heap[w.heap.size + 1]? = some o2
  bel : Below w.heap.size w W
  siz : w.heap.size + 1 + 1 ≤ W.heap.size
theorem B2.start (w : World) (o1 o2 : Obj) : B2 w ((w.alloc o1).alloc o2) o1 o2 := by
  refine ⟨?_, ?_, ?_, ?_⟩
  · simp only [alloc_at, World.size_alloc]; rw [if_neg (by omega), if_pos trivial]
  · simp only [alloc_at, World.size_alloc]; rw [if_pos trivial]
  · exact below_alloc (below_alloc (Below.refl _ _) _) _
  · simp
theorem B2.below {w W W' : World} {o1 o2 : Obj} (h : B2 w W o1 o2) (hb : Below W.heap.size W W') : B2 w W' o1 o2 :=
  ⟨blk_below h.b1 hb, blk_below h.b2 hb, below_step h.bel hb, Nat.le_trans h.siz hb.size⟩
structure B3 (w W : World) (o1 o2 o3 : Obj) : Prop where
  b1 : W.heap[w.heap.size]? = some o1
  b2 : W.heap[w.heap.size + 1]? = some o2
  b3 : W.heap[w.heap.size + 1 + 1]? = some o3
  bel : Below w.heap.size w W
  siz : w.heap.size + 1 + 1 + 1 ≤ W.heap.size
theorem B3.start (w : World) (o1 o2 o3 : Obj) : B3 w (((w.alloc o1).alloc o2).alloc o3) o1 o2 o3 := by
  refine ⟨?_, ?_, ?_, ?_, ?_⟩
  · simp only [alloc_at, World.size_alloc]; rw [if_neg (by omega), if_neg (by omega), if_pos trivial]
  · simp only [alloc_at, World.size_alloc]; rw [if_neg (by omega), if_pos trivial]
  · simp only [alloc_at, World.size_alloc]; rw [if_pos trivial]
  · exact below_alloc (below_alloc (below_alloc (Below.refl _ _) _) _) _
  · simp
theorem B3.below {w W W' : World} {o1 o2 o3 : Obj} (h : B3 w W o1 o2 o3) (hb : Below W.heap.size W W') : B3 w W' o1 o2 o3 :=
  ⟨blk_below h.b1 hb, blk_below h.b2 hb, blk_below h.b3 hb, below_step h.bel hb, Nat.le_trans h.siz hb.size⟩

/-- what stands behind a call whose struct result was stored into a new box -/
def NB (W0 : World) (r1 r2 : Int) (g : Nat) (W : World) : Prop := W.heap[g]? = some (.cells #[.int .i64 r1, .int .i64 r2] 26 (0, 0)) ∧ W0.heap.size ≤ g ∧ Below W0.heap.size W0 W
theorem NB.new {W0 W : World} (h : Below W0.heap.size W0 W) (r1 r2 : Int) : NB W0 r1 r2 W.heap.size (W.alloc (.cells #[.int .i64 r1, .int .i64 r2] 26)) := ⟨heap_alloc_new _ _, h.size, below_alloc h _⟩
theorem NB.below {W0 W W' : World} {r1 r2 : Int} {g : Nat} (h : NB W0 r1 r2 g W) (hb : Below W.heap.size W W') : NB W0 r1 r2 g W' := ⟨blk_below h.1 hb, h.2.1, below_step h.2.2 hb⟩
theorem NB.drew {W0 W : World} {r1 r2 : Int} {g : Nat} (h : NB W0 r1 r2 g W) : NB W0 r1 r2 g W.drew := ⟨h.1, h.2.1, h.2.2.drew⟩
theorem NB.put {W0 W : World} {s1 s2 : Int} {g : Nat} (h : NB W0 s1 s2 g W) (r1 r2 : Int) : NB W0 r1 r2 g ((W.setCell ⟨g, 0, none⟩ (.int .i64 r1)).setCell ⟨g, 1, none⟩ (.int .i64 r2)) :=
  ⟨by simpa using blk_set (blk_set h.1 0 (.int .i64 r1)) 1 (.int .i64 r2), h.2.1, (h.2.2.setCell h.2.1 _).setCell h.2.1 _⟩
end Go.Proofs.Ytaplebckjbbobaa.Bs
