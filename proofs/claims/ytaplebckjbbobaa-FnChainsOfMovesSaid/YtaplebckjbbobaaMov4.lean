/- The whole proof of fnChainsOfMoves_holds: its walks, its plain laws and its row; no condition is added. Part 4. -/
import Derived.Test.YtaplebckjbbobaaMov3
import Derived.Test.YtaplebckjbbobaaProg
import Derived.WalkKit
import Derived.KernelRfl
import Derived.RowKit
import Derived.IntWalk
import Derived.Lib.Hide
import Derived.Outline
import Derived.Deep.QuietTactic
import Derived.BigQuiet
import Derived.Laws.BitsLemmas
import Derived.WalkLawsBesides
import Derived.OwnWalk
import Derived.Laws.OwnMore
import Derived.Laws.Rows
import Derived.Maps.AppendAt
import Derived.Deep.RegionHeld3
import Derived.Deep.DeepCutAuto
import Derived.Deep.CutBlock
import Derived.Deep.LoopGhost
section
namespace Go.Proofs.Ytaplebckjbbobaa.Bs
open Go.RowKit
def Ev {α : Type} (g : Nat → Option α) (r : α) : Prop := ∃ K, ∀ k, K ≤ k → g k = some r
theorem Ev.now {α : Type} (r : α) : Ev (fun _ => some r) r := ⟨0, fun _ _ => rfl⟩
theorem Ev.rounds {α : Type} {g : Nat → Option α} {r : α} (h : Ev g r) : ∃ k, g k = some r := ⟨h.choose, h.choose_spec _ (Nat.le_refl _)⟩
theorem Ev.bind {α β : Type} {g : Nat → Option α} {f : Nat → α → Option β} {a : α} {r : β} (h : Ev g a) (k : Ev (fun n => f n a) r) : Ev (fun n => (g n).bind (f n)) r := by
  obtain ⟨K, h⟩ := h
  obtain ⟨K2, k⟩ := k
  exact ⟨K + K2, fun n hn => by show (g n).bind (f n) = some r; rw [h n (by omega)]; exact k n (by omega)⟩
theorem Ev.step {α : Type} {g f : Nat → Option α} {r : α} (h : ∀ k, g (k + 1) = f k) (k : Ev f r) : Ev g r := by
  obtain ⟨K, k⟩ := k
  refine ⟨K + 1, fun n hn => ?_⟩
  cases n with
  | zero => omega
  | succ n => rw [h]; exact k n (by omega)
def rd (xs : List Int) (i : Int) : Int := xs.getD i.toNat 0
def nums (k : IntKind) (xs : List Int) : List Value := xs.map fun x => .int k x
section
variable {w w1 W : World} {g : Nat} {o : Obj} {t : TypeId} {cs : Array Value}
theorem blk_lt (h : w.heap[g]? = some o) : g < w.heap.size := (Array.getElem?_eq_some_iff.1 h).1
theorem blk_cell (h : w.heap[g]? = some (.cells cs t (0, 0))) (i : Nat) : w.cell? ⟨g, i, none⟩ = cs[i]? := cell_of_row w g i cs t (0, 0) h
theorem blk_frozen (h : w.heap[g]? = some (.cells cs t (0, 0))) (i : Nat) : w.frozen? ⟨g, i, none⟩ = false := by simp [World.frozen?, h]
theorem blk_set (h : w.heap[g]? = some (.cells cs t (0, 0))) (i : Nat) (u : Value) : (w.setCell ⟨g, i, none⟩ u).heap[g]? = some (.cells (cs.setIfInBounds i u) t (0, 0)) := by
  simp [World.setCell, Array.getElem?_modify, h]
theorem blk_far (h : w.heap[g]? = some o) {p : Addr} (hp : g ≠ p.block) (u : Value) : (w.setCell p u).heap[g]? = some o := (Below.heap_setCell w p u g hp).trans h
theorem blk_alloc (h : w.heap[g]? = some o) (o2 : Obj) : (w.alloc o2).heap[g]? = some o := (Below.heap_alloc w o2 g (blk_lt h)).trans h
theorem blk_below (h : w.heap[g]? = some o) (hb : Below w.heap.size w w1) : w1.heap[g]? = some o := (hb.block g (blk_lt h)).trans h
theorem below_alloc (h : Below w.heap.size w W) (o : Obj) : Below w.heap.size w (W.alloc o) := h.alloc h.size o
theorem below_drewN {B : Nat} (h : Below B w W) (n : Nat) : Below B w (W.drewN n) := ⟨h.os, h.tape, h.output, h.size, h.block⟩
theorem below_step (h : Below w.heap.size w W) (k : Below W.heap.size W w1) : Below w.heap.size w w1 := h.trans (k.mono h.size)
theorem cell_below (hb : Below w.heap.size w w1) {a : Addr} {v : Value} (hc : w.cell? a = some v) : w1.cell? a = some v := (hb.cell (World.block_lt_of_cell? w a hc)).trans hc
theorem bcell (hb : Below W.heap.size W w1) : (∀ b o, b < W.heap.size → w1.cell? ⟨b, o, none⟩ = W.cell? ⟨b, o, none⟩) ∧ (∀ b o, b < W.heap.size → w1.frozen? ⟨b, o, none⟩ = W.frozen? ⟨b, o, none⟩) :=
  ⟨fun b o h => hb.cell (p := ⟨b, o, none⟩) h, fun b o h => hb.frozen (p := ⟨b, o, none⟩) h⟩
theorem alloc_at (w : World) (o : Obj) (k : Nat) : (w.alloc o).heap[k]? = if k = w.heap.size then some o else w.heap[k]? := by
  show (w.heap.push o)[k]? = _
  rw [Array.getElem?_push]
theorem alloc_cell {a : Addr} (h : a.block < W.heap.size) : (W.alloc o).cell? a = W.cell? a := World.cell?_of_block (w := W) (Below.heap_alloc W o a.block h)
theorem set_cell {pa : Addr} {u : Value} {a : Addr} (h : a.block ≠ pa.block) : (W.setCell pa u).cell? a = W.cell? a := World.cell?_of_block (w := W) (Below.heap_setCell W pa u a.block h)
theorem add_at (g o j : Nat) : (⟨g, o, none⟩ : Addr).add j = ⟨g, o + j, none⟩ := by unfold Addr.add; split <;> simp_all
theorem own_base {base : Nat} {e : TypeId} {size n : Nat} {v : Value} {xs : List Value} (h : w.ownsRow base e size v n xs) (k : Nat) (hk : v.ownBlock = some k) : base ≤ k := (h.lt k hk).1
theorem own_lt {base : Nat} {e : TypeId} {size n : Nat} {v : Value} {xs : List Value} (h : w.ownsRow base e size v n xs) (k : Nat) (hk : v.ownBlock = some k) : k < w.heap.size := (h.lt k hk).2
theorem own_below {base : Nat} {e : TypeId} {size n : Nat} {v : Value} {xs : List Value} (h : w.ownsRow base e size v n xs) (hb : Below w.heap.size w w1) : w1.ownsRow base e size v n xs := by
  obtain ⟨h1, h2⟩ := h
  refine ⟨h1, ?_⟩
  rcases h2 with h2 | ⟨g, cap, cur, rfl, hg, hh, r⟩
  · exact .inl h2
  · exact .inr ⟨g, cap, cur, rfl, hg, blk_below hh hb, r⟩
theorem own_set {base : Nat} {e : TypeId} {size n : Nat} {v : Value} {xs : List Value} (h : w.ownsRow base e size v n xs) {p : Addr} (hne : some p.block ≠ v.ownBlock) (u : Value) : (w.setCell p u).ownsRow base e size v n xs := by
  obtain ⟨h1, h2⟩ := h
  refine ⟨h1, ?_⟩
  rcases h2 with h2 | ⟨g, cap, cur, rfl, hg, hh, r⟩
  · exact .inl h2
  · exact .inr ⟨g, cap, cur, rfl, hg, blk_far hh (fun e => hne (by rw [← e]; rfl)) u, r⟩
theorem hdrew (w : World) : w.drew.heap = w.heap := rfl
end
structure Drawn0 (w w' : World) : Prop where mk :: (out : ∃ n, w' = w.drewN n)
theorem info2 : (Try.prog.info? 2).map (fun i => (i.zero, i.size, i.bytes)) = some (some (.int .i64 0), 1, 8) := by kernel_rfl
theorem ret_int {k : IntKind} {a b : Int} (h : a = b) : Ending.returned (.int k a) = .returned (.int k b) := by rw [h]
structure B1 (w W : World) (o1 : Obj) : Prop where
  b1 : W.heap[w.heap.size]? = some o1
  bel : Below w.heap.size w W
  siz : w.heap.size + 1 ≤ W.heap.size
theorem B1.start (w : World) (o1 : Obj) : B1 w (w.alloc o1) o1 := ⟨heap_alloc_new _ _, below_alloc (Below.refl _ _) _, by simp⟩
theorem B1.below {w W W' : World} {o1 : Obj} (h : B1 w W o1) (hb : Below W.heap.size W W') : B1 w W' o1 :=
  ⟨blk_below h.b1 hb, below_step h.bel hb, Nat.le_trans h.siz hb.size⟩
structure B2 (w W : World) (o1 o2 : Obj) : Prop where
  b1 : W.heap[w.heap.size]? = some o1
  b2 : W.heap[w.heap.size + 1]? = some o2
  bel : Below w.heap.size w W
  siz : w.heap.size + 1 + 1 ≤ W.heap.size
structure B3 (w W : World) (o1 o2 o3 : Obj) : Prop where
  b1 : W.heap[w.heap.size]? = some o1
  b2 : W.heap[w.heap.size + 1]? = some o2
  b3 : W.heap[w.heap.size + 1 + 1]? = some o3
  bel : Below w.heap.size w W
  siz : w.heap.size + 1 + 1 + 1 ≤ W.heap.size
theorem B3.start (w : World) (o1 o2 o3 : Obj) : B3 w (((w.alloc o1).alloc o2).alloc o3) o1 o2 o3 := by
  refine ⟨?_, ?_, ?_, ?_, ?_⟩
  · simp only [alloc_at, World.size_alloc]; rw [if_neg (by omega), if_neg (by omega), if_pos trivial]
  · simp only [alloc_at, World.size_alloc]; rw [if_neg (by omega), if_pos trivial]
  · simp only [alloc_at, World.size_alloc]; rw [if_pos trivial]
  · exact below_alloc (below_alloc (below_alloc (Below.refl _ _) _) _) _
  · simp
theorem B3.below {w W W' : World} {o1 o2 o3 : Obj} (h : B3 w W o1 o2 o3) (hb : Below W.heap.size W W') : B3 w W' o1 o2 o3 :=
  ⟨blk_below h.b1 hb, blk_below h.b2 hb, blk_below h.b3 hb, below_step h.bel hb, Nat.le_trans h.siz hb.size⟩
def NB (W0 : World) (r1 r2 : Int) (g : Nat) (W : World) : Prop := W.heap[g]? = some (.cells #[.int .i64 r1, .int .i64 r2] 26 (0, 0)) ∧ W0.heap.size ≤ g ∧ Below W0.heap.size W0 W
theorem NB.new {W0 W : World} (h : Below W0.heap.size W0 W) (r1 r2 : Int) : NB W0 r1 r2 W.heap.size (W.alloc (.cells #[.int .i64 r1, .int .i64 r2] 26)) := ⟨heap_alloc_new _ _, h.size, below_alloc h _⟩
theorem NB.below {W0 W W' : World} {r1 r2 : Int} {g : Nat} (h : NB W0 r1 r2 g W) (hb : Below W.heap.size W W') : NB W0 r1 r2 g W' := ⟨blk_below h.1 hb, h.2.1, below_step h.2.2 hb⟩
theorem NB.drew {W0 W : World} {r1 r2 : Int} {g : Nat} (h : NB W0 r1 r2 g W) : NB W0 r1 r2 g W.drew := ⟨h.1, h.2.1, h.2.2.drew⟩
theorem NB.put {W0 W : World} {s1 s2 : Int} {g : Nat} (h : NB W0 s1 s2 g W) (r1 r2 : Int) : NB W0 r1 r2 g ((W.setCell ⟨g, 0, none⟩ (.int .i64 r1)).setCell ⟨g, 1, none⟩ (.int .i64 r2)) :=
  ⟨by simpa using blk_set (blk_set h.1 0 (.int .i64 r1)) 1 (.int .i64 r2), h.2.1, (h.2.2.setCell h.2.1 _).setCell h.2.1 _⟩
end Go.Proofs.Ytaplebckjbbobaa.Bs
end
section
set_option linter.unusedSimpArgs false
namespace Go.Proofs.Ytaplebckjbbobaa.Grd
open Go.RowKit Bs
def RowAt (W : World) (g : Nat) (xs : List Int) : Prop := ∃ cs : Array Value, W.heap[g]? = some (.cells cs 2 (0, 0)) ∧ ∀ (i : Nat) (x : Int), xs[i]? = some x → cs[i]? = some (.int .i64 x)
section
variable {w W W' : World} {g : Nat} {xs : List Int}
theorem RowAt.lt (h : RowAt W g xs) : g < W.heap.size := by obtain ⟨cs, h1, _⟩ := h; exact blk_lt h1
theorem RowAt.cell (h : RowAt W g xs) {i : Nat} {x : Int} (hi : xs[i]? = some x) : W.cell? ⟨g, i, none⟩ = some (.int .i64 x) ∧ W.frozen? ⟨g, i, none⟩ = false := by
  obtain ⟨cs, h1, h2⟩ := h
  exact ⟨(blk_cell h1 i).trans (h2 i x hi), blk_frozen h1 i⟩
theorem RowAt.same (h : RowAt W g xs) (hb : W'.heap[g]? = W.heap[g]?) : RowAt W' g xs := by
  obtain ⟨cs, h1, h2⟩ := h
  exact ⟨cs, hb.trans h1, h2⟩
end
def upto (k : Int) (n : Nat) : List Int := (List.range n).map fun (i : Nat) => k + (i : Int)
end Go.Proofs.Ytaplebckjbbobaa.Grd
end
section
set_option linter.unusedSimpArgs false
namespace Go.Proofs.Ytaplebckjbbobaa.Fl
open Go.RowKit Bs Grd
abbrev F2 := Int × Int
theorem add_block (a : Addr) (k : Nat) : (a.add k).block = a.block := by unfold Addr.add; split <;> rfl
def FLst (w : World) (ao : Option Addr) (L : List F2) : Prop := ∀ (i : Nat) (m : F2), L[i]? = some m → ∃ a, ao = some a ∧ a.block < w.heap.size ∧ w.cell? (a.add (i * 2)) = some (.int .i64 m.1) ∧ w.cell? ⟨(a.add (i * 2)).block, (a.add (i * 2)).off + 1, none⟩ = some (.int .i64 m.2)
theorem FLst.below {w w1 : World} {ao : Option Addr} {L : List F2} (h : FLst w ao L) (hb : Below w.heap.size w w1) : FLst w1 ao L := by
  intro i m hi
  obtain ⟨a, ha, hlt, c0, c1⟩ := h i m hi
  exact ⟨a, ha, Nat.lt_of_lt_of_le hlt hb.size, cell_below hb c0, cell_below hb c1⟩
def FRow (W : World) (g : Nat) (L : List F2) : Prop := ∃ cs : Array Value, W.heap[g]? = some (.cells cs 26 (0, 0)) ∧ ∀ (i : Nat) (m : F2), L[i]? = some m → cs[i * 2]? = some (.int .i64 m.1) ∧ cs[i * 2 + 1]? = some (.int .i64 m.2)
section
variable {w W W' : World} {g : Nat} {L : List F2}
theorem FRow.lt (h : FRow W g L) : g < W.heap.size := by obtain ⟨cs, h1, _⟩ := h; exact blk_lt h1
theorem FRow.cell (h : FRow W g L) {i : Nat} {m : F2} (hi : L[i]? = some m) : W.cell? ⟨g, i * 2, none⟩ = some (.int .i64 m.1) ∧ W.cell? ⟨g, i * 2 + 1, none⟩ = some (.int .i64 m.2) := by
  obtain ⟨cs, h1, h2⟩ := h
  exact ⟨(blk_cell h1 _).trans (h2 i m hi).1, (blk_cell h1 _).trans (h2 i m hi).2⟩
theorem FRow.frozen (h : FRow W g L) (j : Nat) : W.frozen? ⟨g, j, none⟩ = false := by
  obtain ⟨cs, h1, h2⟩ := h
  exact blk_frozen h1 j
theorem FRow.below (h : FRow W g L) (hb : Below W.heap.size W W') : FRow W' g L := by
  obtain ⟨cs, h1, h2⟩ := h
  exact ⟨cs, blk_below h1 hb, h2⟩
theorem FRow.same (h : FRow W g L) (hb : W'.heap[g]? = W.heap[g]?) : FRow W' g L := by
  obtain ⟨cs, h1, h2⟩ := h
  exact ⟨cs, hb.trans h1, h2⟩
theorem FRow.reads (h : FRow W g L) : FLst W (some ⟨g, 0, none⟩) L := by
  intro i m hi
  obtain ⟨c0, c1⟩ := h.cell hi
  have z := add_at g 0 (i * 2)
  rw [Nat.zero_add] at z
  exact ⟨_, rfl, h.lt, by rw [z]; exact c0, by rw [z]; exact c1⟩
theorem FRow.put (h : FRow W g L) {k : Nat} (hk : k < L.length) (m : F2) : FRow ((W.setCell ⟨g, k * 2, none⟩ (.int .i64 m.1)).setCell ⟨g, k * 2 + 1, none⟩ (.int .i64 m.2)) g (L.set k m) := by
  obtain ⟨cs, h1, h2⟩ := h
  obtain ⟨_, s1⟩ := h2 k (L[k]) (by simp [hk])
  have hs : k * 2 + 1 < cs.size := (Array.getElem?_eq_some_iff.1 s1).1
  refine ⟨_, blk_set (blk_set h1 _ _) _ _, fun i x hi => ?_⟩
  by_cases hik : k = i
  · subst hik
    have hx : m = x := by simpa [hk] using hi
    subst hx
    have q : k * 2 < cs.size := by omega
    constructor
    · rw [Array.getElem?_setIfInBounds_ne (by omega)]; simp [q]
    · simp [hs]
  · have hi' : L[i]? = some x := by rw [List.getElem?_set_ne hik] at hi; exact hi
    obtain ⟨a0, a1⟩ := h2 i x hi'
    constructor
    · rw [Array.getElem?_setIfInBounds_ne (by omega), Array.getElem?_setIfInBounds_ne (by omega)]; exact a0
    · rw [Array.getElem?_setIfInBounds_ne (by omega), Array.getElem?_setIfInBounds_ne (by omega)]; exact a1
end
theorem info26 : (Try.prog.info? 26).map (fun i => (i.zero, i.size, i.bytes)) = some (some (.agg #[.int .i64 0, .int .i64 0]), 2, 16) := by kernel_rfl
theorem keep4 {x0 x1 x2 x3 : Addr} {v0 v1 v2 v3 : Value} {W W' : World} (hb : Below W.heap.size W W') (h : W.cell? x0 = some v0 ∧ W.cell? x1 = some v1 ∧ W.cell? x2 = some v2 ∧ W.cell? x3 = some v3) :
    W'.cell? x0 = some v0 ∧ W'.cell? x1 = some v1 ∧ W'.cell? x2 = some v2 ∧ W'.cell? x3 = some v3 := ⟨cell_below hb h.1, cell_below hb h.2.1, cell_below hb h.2.2.1, cell_below hb h.2.2.2⟩
end Go.Proofs.Ytaplebckjbbobaa.Fl
end
section
set_option linter.unusedSimpArgs false
namespace Go.Proofs.Ytaplebckjbbobaa.Fl
open Go.RowKit Bs Grd
def Sm (x : F2) : Prop := -1000000000 ≤ x.1 ∧ x.1 ≤ 1000000000 ∧ 0 ≤ x.2 ∧ x.2 ≤ 1000000000
def cmpF (x y : F2) : Int := if x = y then 0 else if x.2 = 0 then 1 else if y.2 = 0 ∨ x.1 * y.2 < y.1 * x.2 then -1 else 1
theorem mul_sm {a b : Int} (ha : -1000000000 ≤ a) (ha' : a ≤ 1000000000) (hb : 0 ≤ b) (hb' : b ≤ 1000000000) : wrap64 (a * b) = a * b := by
  apply Go.IntWalk.wrap64_in
  have h1 : a * b ≤ 1000000000 * b := Int.mul_le_mul_of_nonneg_right ha' hb
  have h2 : -1000000000 * b ≤ a * b := Int.mul_le_mul_of_nonneg_right ha hb
  omega
set_option maxHeartbeats 1000000 in
set_option maxRecDepth 100000 in
theorem compare_any (a b c d : Int) (w : World) (hx : Sm (a, b)) (hy : Sm (c, d)) : Calls Try.prog 91 #[.agg #[.int .i64 a, .int .i64 b], .agg #[.int .i64 c, .int .i64 d]] w fun e w' => e = .returned (.int .i64 (cmpF (a, b) (c, d))) ∧ Below w.heap.size w w' := by
  obtain ⟨x1, x2, x3, x4⟩ := hx
  obtain ⟨y1, y2, y3, y4⟩ := hy
  have m1 := mul_sm x1 x2 y3 y4
  have m2 := mul_sm y1 y2 x3 x4
  simp only at m1 m2
  have hu26 := Try.underlying26
  clear x1 x2 x3 x4 y1 y2 y3 y4
  have key : ∀ v : Int, (a = c ∧ b = d → v = 0) → (¬ (a = c ∧ b = d) → b = 0 → v = 1) → (¬ (a = c ∧ b = d) → b ≠ 0 → (d = 0 ∨ a * d < c * b) → v = -1) → (¬ (a = c ∧ b = d) → b ≠ 0 → ¬ (d = 0 ∨ a * d < c * b) → v = 1) → v = cmpF (a, b) (c, d) := by
    intro v k1 k2 k3 k4
    unfold cmpF
    simp only [Prod.mk.injEq]
    by_cases e1 : a = c ∧ b = d
    · rw [if_pos e1]; exact k1 e1
    · rw [if_neg e1]
      by_cases e2 : b = 0
      · rw [if_pos e2]; exact k2 e1 e2
      · rw [if_neg e2]
        by_cases e3 : d = 0 ∨ a * d < c * b
        · rw [if_pos e3]; exact k3 e1 e2 e3
        · rw [if_neg e3]; exact k4 e1 e2 e3
  have K := Lib.hid key
  clear key
  go_enter Try.func91, Try.ntmps91
  go_wp2
  all_goals
    go_ret
    refine ⟨congrArg Ending.returned (congrArg (Value.int IntKind.i64) (K.out _ ?_ ?_ ?_ ?_)), below_alloc (below_alloc (Below.refl _ _) _) _⟩
  all_goals
    clear K
    try simp only [beq_iff_eq, beq_eq_false_iff_ne, ne_eq] at *
    intros
    first | rfl | omega | grind
set_option maxHeartbeats 1000000 in
set_option maxRecDepth 100000 in
theorem spec_compare_any (a b c d : Int) (w : World) (hx : Sm (a, b)) (hy : Sm (c, d)) : Calls Try.prog 92 #[.agg #[.int .i64 a, .int .i64 b], .agg #[.int .i64 c, .int .i64 d]] w fun e w' => e = .returned (.int .i64 (cmpF (a, b) (c, d))) ∧ Below w.heap.size w w' := by
  obtain ⟨x1, x2, x3, x4⟩ := hx
  obtain ⟨y1, y2, y3, y4⟩ := hy
  have m1 := mul_sm x1 x2 y3 y4
  have m2 := mul_sm y1 y2 x3 x4
  simp only at m1 m2
  have hu26 := Try.underlying26
  clear x1 x2 x3 x4 y1 y2 y3 y4
  have key : ∀ v : Int, (a = c ∧ b = d → v = 0) → (¬ (a = c ∧ b = d) → b = 0 → v = 1) → (¬ (a = c ∧ b = d) → b ≠ 0 → (d = 0 ∨ a * d < c * b) → v = -1) → (¬ (a = c ∧ b = d) → b ≠ 0 → ¬ (d = 0 ∨ a * d < c * b) → v = 1) → v = cmpF (a, b) (c, d) := by
    intro v k1 k2 k3 k4
    unfold cmpF
    simp only [Prod.mk.injEq]
    by_cases e1 : a = c ∧ b = d
    · rw [if_pos e1]; exact k1 e1
    · rw [if_neg e1]
      by_cases e2 : b = 0
      · rw [if_pos e2]; exact k2 e1 e2
      · rw [if_neg e2]
        by_cases e3 : d = 0 ∨ a * d < c * b
        · rw [if_pos e3]; exact k3 e1 e2 e3
        · rw [if_neg e3]; exact k4 e1 e2 e3
  have K := Lib.hid key
  clear key
  go_enter Try.func92, Try.ntmps92
  go_wp2
  all_goals
    go_ret
    refine ⟨congrArg Ending.returned (congrArg (Value.int IntKind.i64) (K.out _ ?_ ?_ ?_ ?_)), below_alloc (below_alloc (Below.refl _ _) _) _⟩
  all_goals
    clear K
    try simp only [beq_iff_eq, beq_eq_false_iff_ne, ne_eq] at *
    intros
    first | rfl | omega | grind
end Go.Proofs.Ytaplebckjbbobaa.Fl
end
section
namespace Go.Proofs.Ytaplebckjbbobaa
open Go.RowKit
theorem ret_int {k : IntKind} {a b : Int} (h : a = b) : Ending.returned (.int k a) = .returned (.int k b) := by rw [h]
theorem gcd_tmod (a b : Int) : Int.gcd b (a.tmod b) = Int.gcd a b := by
  rw [Int.gcd_comm a b]
  simp only [Int.gcd, Int.natAbs_tmod]
  rw [Nat.gcd_rec b.natAbs a.natAbs, Nat.gcd_comm]
theorem gcd_zero_abs (a : Int) : (Int.gcd a 0 : Int) = if a < -a then -a else a := by
  simp [Int.gcd]; split <;> omega
theorem tmod_bd (a b : Int) (hb : b ≠ 0) : (a.tmod b).natAbs < b.natAbs := by
  rw [Int.natAbs_tmod]; exact Nat.mod_lt _ (by omega)
set_option maxHeartbeats 400000 in
theorem impl_gcd_any (a b : Int) (w : World) (ha : -4611686018427387904 ≤ a) (ha' : a ≤ 4611686018427387904) (hb : -4611686018427387904 ≤ b) (hb' : b ≤ 4611686018427387904) :
    Calls Try.prog 87 #[.int .i64 a, .int .i64 b] w fun e w' => e = .returned (.int .i64 (Int.gcd a b)) ∧ ∃ n, w' = w.drewN n := by
  go_enter Try.func87, Try.ntmps87
  go_wp2
  go_loopw [0, 1] (fun x y wr => ∃ (a1 b1 : Int) (n : Nat), x = .int .i64 a1 ∧ y = .int .i64 b1 ∧ wr = w.drewN n ∧ Int.gcd a1 b1 = Int.gcd a b ∧ -4611686018427387904 ≤ a1 ∧ a1 ≤ 4611686018427387904 ∧ -4611686018427387904 ≤ b1 ∧ b1 ≤ 4611686018427387904) (fun _ y _ => (intOf y).natAbs)
  case atStart => exact ⟨a, b, 0, rfl, rfl, rfl, rfl, ha, ha', hb, hb'⟩
  case round =>
    obtain ⟨a1, b1, n, rfl, rfl, rfl, hg, h1, h2, h3, h4⟩ := hrel
    by_cases hz : b1 = 0
    · subst hz
      have hE : (Int.gcd a b : Int) = if a1 < -a1 then -a1 else a1 := by rw [← hg]; exact gcd_zero_abs a1
      have HE := Lib.hid hE
      clear hg hE
      go_wp2
      all_goals
        go_ret
        refine ⟨?_, n, rfl⟩
        refine ret_int ?_
        rw [HE.out]
        split <;> omega
    · have HG := Lib.hid hg
      clear hg
      have hz1 : (b1 != 0) = true := by simpa using hz
      have hz2 : (b1 == 0) = false := by simpa using hz
      go_wp2
      go_quiet (fail)
      go_wp2
      go_roundw
      case rel => exact ⟨b1, a1.tmod b1, n + nq, rfl, rfl, World.drewN_drewN _ _ _, by rw [gcd_tmod]; exact HG.out, h3, h4, by have := tmod_bd a1 b1 hz; omega, by have := tmod_bd a1 b1 hz; omega⟩
      case measure => simp [intOf]; exact Nat.mod_lt _ (by omega)
end Go.Proofs.Ytaplebckjbbobaa
end
section
namespace Go.Proofs.Ytaplebckjbbobaa.FracMath
def Prm (p : Nat) : Prop := 2 ≤ p ∧ ∀ d, d ∣ p → d = 1 ∨ d = p
theorem prm_cop {p n : Nat} (hp : Prm p) (h : ¬ p ∣ n) : Nat.Coprime p n := by
  rcases hp.2 _ (Nat.gcd_dvd_left p n) with h1 | h1
  · exact h1
  · exact absurd (h1 ▸ Nat.gcd_dvd_right p n) h
theorem prm_least {n p : Nat} (h2 : 2 ≤ p) (hd : p ∣ n) (hl : ∀ d, 2 ≤ d → d < p → ¬ d ∣ n) : Prm p := by
  refine ⟨h2, fun d hdp => ?_⟩
  have hp : 0 < p := by omega
  have hle := Nat.le_of_dvd hp hdp
  have hd0 : d ≠ 0 := by rintro rfl; have := Nat.eq_zero_of_zero_dvd hdp; omega
  by_cases h1 : d = 1
  · exact Or.inl h1
  · right
    by_cases h : d < p
    · exact absurd (Nat.dvd_trans hdp hd) (hl d (by omega) h)
    · omega
theorem prm_self {n p : Nat} (h2 : 2 ≤ n) (hl : ∀ d, 2 ≤ d → d < p → ¬ d ∣ n) (hp : n < p * p) : Prm n := by
  refine ⟨h2, fun d hdp => ?_⟩
  obtain ⟨e, he⟩ := hdp
  by_cases h1 : d = 1
  · exact Or.inl h1
  · right
    by_cases hn : d = n
    · exact hn
    · exfalso
      have hd0 : d ≠ 0 := by rintro rfl; simp at he; omega
      have he0 : e ≠ 0 := by rintro rfl; simp at he; omega
      have he1 : e ≠ 1 := by rintro rfl; simp at he; exact hn he.symm
      by_cases hdp : d < p
      · exact hl d (by omega) hdp ⟨e, he⟩
      · by_cases hep : e < p
        · exact hl e (by omega) hep ⟨d, by rw [he, Nat.mul_comm]⟩
        · have : p * p ≤ d * e := Nat.mul_le_mul (by omega) (by omega)
          omega
theorem split_pow {p : Nat} (hp : 2 ≤ p) : ∀ n : Nat, 0 < n → ∃ e c, n = c * p ^ e ∧ ¬ p ∣ c ∧ 0 < c := by
  intro n
  induction n using Nat.strongRecOn with
  | ind n ih =>
    intro hn
    by_cases h : p ∣ n
    · obtain ⟨m, rfl⟩ := h
      have hm : 0 < m := Nat.pos_of_ne_zero (by rintro rfl; simp at hn)
      have hlt : m < p * m := by
        have : 2 * m ≤ p * m := Nat.mul_le_mul_right m hp
        omega
      obtain ⟨e, c, h1, h2, h3⟩ := ih m hlt hm
      exact ⟨e + 1, c, by rw [Nat.pow_succ]; rw [h1] at *; grind, h2, h3⟩
    · exact ⟨0, n, by simp, h, hn⟩
theorem pow_lt_of {p e n c : Nat} (hp : 2 ≤ p) (hc : 0 < c) (h : n = c * p ^ e) (hn : n < 2 ^ 31) : e < 31 := by
  have h1 : 2 ^ e ≤ p ^ e := Nat.pow_le_pow_left hp e
  have h2 : 1 * p ^ e ≤ c * p ^ e := Nat.mul_le_mul_right _ hc
  by_cases he : e < 31
  · exact he
  · have : 2 ^ 31 ≤ 2 ^ e := Nat.pow_le_pow_right (by omega) (by omega)
    omega
theorem nat_red_unique {n1 d1 n2 d2 : Nat} (h1 : Nat.Coprime n1 d1) (h2 : Nat.Coprime n2 d2) (h : n1 * d2 = n2 * d1) : n1 = n2 ∧ d1 = d2 := by
  have a : n1 ∣ n2 := h1.dvd_of_dvd_mul_right ⟨d2, h.symm⟩
  have b : n2 ∣ n1 := h2.dvd_of_dvd_mul_right ⟨d1, h⟩
  have c : d1 ∣ d2 := h1.symm.dvd_of_dvd_mul_left ⟨n2, by rw [h, Nat.mul_comm]⟩
  have d : d2 ∣ d1 := h2.symm.dvd_of_dvd_mul_left ⟨n1, by rw [← h, Nat.mul_comm]⟩
  exact ⟨Nat.dvd_antisymm a b, Nat.dvd_antisymm c d⟩
theorem int_red_unique {n1 d1 n2 d2 : Int} (h1 : Int.gcd n1 d1 = 1) (h2 : Int.gcd n2 d2 = 1) (p1 : 0 < d1) (p2 : 0 < d2) (h : n1 * d2 = n2 * d1) : n1 = n2 ∧ d1 = d2 := by
  have hab : n1.natAbs * d2.natAbs = n2.natAbs * d1.natAbs := by rw [← Int.natAbs_mul, ← Int.natAbs_mul, h]
  obtain ⟨_, hd⟩ := nat_red_unique (n1 := n1.natAbs) (d1 := d1.natAbs) (n2 := n2.natAbs) (d2 := d2.natAbs) h1 h2 hab
  have hd' : d1 = d2 := by omega
  subst hd'
  exact ⟨Int.eq_of_mul_eq_mul_right (by omega) h, rfl⟩
theorem gcd_split (a b : Int) (h : Int.gcd a b ≠ 0) : ∃ x y : Int, a = (Int.gcd a b : Int) * x ∧ b = (Int.gcd a b : Int) * y ∧ Int.gcd x y = 1 := by
  obtain ⟨x, hx⟩ := Int.gcd_dvd_left a b
  obtain ⟨y, hy⟩ := Int.gcd_dvd_right a b
  refine ⟨x, y, hx, hy, ?_⟩
  generalize hgd : Int.gcd a b = g at *
  have h1 : g * 1 = g * Int.gcd x y := by
    rw [Nat.mul_one]
    conv => lhs; rw [← hgd, hx, hy, Int.gcd_mul_left]
    simp
  exact (Nat.eq_of_mul_eq_mul_left (by omega) h1).symm
theorem split_pos {g x a : Int} (hg : 0 ≤ g) (ha : 0 < a) (h : a = g * x) : 0 < x := by
  rcases Int.lt_or_le 0 x with h1 | h1
  · exact h1
  · have h2 : 0 ≤ g * (-x) := Int.mul_nonneg hg (by omega)
    have h3 : g * (-x) = -a := by rw [h]; grind
    omega
theorem exists_red (X Y : Int) (hY : 0 < Y) : ∃ N D : Int, 0 < D ∧ Int.gcd N D = 1 ∧ N * Y = X * D := by
  have hg : Int.gcd X Y ≠ 0 := by intro h; rw [Int.gcd_eq_zero_iff] at h; omega
  obtain ⟨x, y, hx, hy, hc⟩ := gcd_split X Y hg
  have hgn : (0 : Int) ≤ (Int.gcd X Y : Int) := by omega
  refine ⟨x, y, split_pos hgn hY hy, hc, ?_⟩
  generalize (Int.gcd X Y : Int) = g at *
  clear hg hgn hY hc
  subst hx hy
  grind
end Go.Proofs.Ytaplebckjbbobaa.FracMath
end
section
namespace Go.Proofs.Ytaplebckjbbobaa.FracMath
open Go.RowKit Go.Proofs.YtaplebckjbbobaaW.PrintWords Go.Proofs.YtaplebckjbbobaaW.PrintMore PFnExactMoveFraction
theorem Ev.if_pos {α : Type} {c : Prop} [Decidable c] {g f : Nat → Option α} {r : α} (h : c) (k : Ev g r) : Ev (fun n => if c then g n else f n) r := by
  simpa [h] using k
theorem Ev.if_neg {α : Type} {c : Prop} [Decidable c] {g f : Nat → Option α} {r : α} (h : ¬ c) (k : Ev f r) : Ev (fun n => if c then g n else f n) r := by
  simpa [h] using k
theorem Ev.to {α : Type} {g f : Nat → Option α} {r : α} (h : ∀ k, g (k + 1) = f k) (k : Ev f r) : Ev g r := Ev.step h k
def bd (a : Int) : Prop := -4611686018427387904 ≤ a ∧ a ≤ 4611686018427387904
theorem w64 {a : Int} (h : bd a) : wrap64 a = a := by unfold bd at h; exact Go.IntWalk.wrap64_in a (by omega)
theorem common_l0 : ∀ (n : Nat) (a b : Int), b.natAbs ≤ n → bd a → bd b → Ev (fun k => spec_l10Common.l0 k a b) (Int.gcd a b : Int) := by
  intro n
  induction n with
  | zero =>
    intro a b hn ha hb
    obtain rfl : b = 0 := by omega
    refine Ev.to (f := fun _ => some (Int.gcd a 0 : Int)) (fun k => ?_) (Ev.now _)
    simp only [spec_l10Common.l0, if_true]
    rw [w64 (by unfold bd at *; omega), gcd_zero_abs]; rfl
  | succ n ih =>
    intro a b hn ha hb
    by_cases hz : b = 0
    · subst hz
      refine Ev.to (f := fun _ => some (Int.gcd a 0 : Int)) (fun k => ?_) (Ev.now _)
      simp only [spec_l10Common.l0, if_true]
      rw [w64 (by unfold bd at *; omega), gcd_zero_abs]; rfl
    · have ht := tmod_bd a b hz
      refine Ev.to (f := fun k => spec_l10Common.l0 k b (a.tmod b)) (fun k => by simp only [spec_l10Common.l0]; rw [_root_.if_neg hz]) ?_
      rw [← gcd_tmod]
      exact ih b (a.tmod b) (by omega) hb (by unfold bd at *; omega)
theorem common_ev (a b : Int) (ha : bd a) (hb : bd b) : Ev (fun k => spec_l10Common.f k a b) (Int.gcd a b : Int) :=
  common_l0 _ a b (Nat.le_refl _) ha hb
def Fr (p q : Int) : Prop := -1000000000 ≤ p ∧ p ≤ 1000000000 ∧ 0 ≤ q ∧ q ≤ 1000000000 ∧ Int.gcd p q = 1 ∧ (0 < q ∨ p = 1)
instance (p q : Int) : Decidable (Fr p q) := by unfold Fr; infer_instance
theorem in_f (a l h : Int) : spec_l01In.f a l h = some (decide (l ≤ a ∧ a ≤ h)) := by
  unfold spec_l01In.f
  split
  · congr 1; apply decide_eq_decide.2; omega
  · congr 1; symm; apply decide_eq_false; omega
theorem is_ev (p q : Int) : Ev (fun k => spec_l10Is.f k p q) (decide (Fr p q)) := by
  unfold spec_l10Is.f
  simp only [in_f, Option.bind_some, decide_eq_true_eq]
  by_cases h1 : -1000000000 ≤ p ∧ p ≤ 1000000000
  · refine Ev.if_pos h1 ?_
    by_cases h2 : 0 ≤ q ∧ q ≤ 1000000000
    · refine Ev.if_pos h2 (Ev.bind (common_ev p q (by unfold bd; omega) (by unfold bd; omega)) ?_)
      have hF : ∀ b : Bool, (b = true ↔ Fr p q) → Ev (fun _ => some b) (decide (Fr p q)) := fun b hb => by
        rw [show decide (Fr p q) = b from by cases b <;> simp_all]; exact Ev.now _
      by_cases h3 : (Int.gcd p q : Int) = 1
      · refine Ev.if_pos h3 ?_
        by_cases h4 : q > 0
        · refine Ev.if_pos h4 (hF _ ?_)
          simp only [true_iff]; exact ⟨h1.1, h1.2, h2.1, h2.2, by omega, .inl h4⟩
        · refine Ev.if_neg h4 (hF _ ?_)
          simp only [beq_iff_eq]
          exact ⟨fun h => ⟨h1.1, h1.2, h2.1, h2.2, by omega, .inr h⟩, fun h => h.2.2.2.2.2.resolve_left h4⟩
      · refine Ev.if_neg h3 (hF _ ?_)
        simp only [Bool.false_eq_true, false_iff]; intro h; exact h3 (by have := h.2.2.2.2.1; omega)
    · refine Ev.if_neg h2 ?_
      rw [decide_eq_false (by intro h; exact h2 ⟨h.2.2.1, h.2.2.2.1⟩)]; exact Ev.now _
  · refine Ev.if_neg h1 ?_
    rw [decide_eq_false (by intro h; exact h1 ⟨h.1, h.2.1⟩)]; exact Ev.now _
theorem icop_mul {x y z : Int} (h1 : Int.gcd x y = 1) (h2 : Int.gcd z y = 1) : Int.gcd (x * z) y = 1 := by
  unfold Int.gcd at *
  rw [Int.natAbs_mul]
  exact Nat.Coprime.mul_left h1 h2
theorem icop_mul' {x y z : Int} (h1 : Int.gcd x y = 1) (h2 : Int.gcd x z = 1) : Int.gcd x (y * z) = 1 := by
  rw [Int.gcd_comm] at *; exact icop_mul h1 h2
theorem icop_left {x y z : Int} (h : Int.gcd (x * z) y = 1) : Int.gcd x y = 1 := by
  unfold Int.gcd at *
  rw [Int.natAbs_mul] at h
  exact Nat.Coprime.coprime_mul_right h
theorem icop_right {x y z : Int} (h : Int.gcd (x * z) y = 1) : Int.gcd z y = 1 := by
  rw [Int.mul_comm] at h; exact icop_left h
theorem abs_le_mul {s x : Int} (hs : s ≠ 0) : x.natAbs ≤ (s * x).natAbs := by
  rw [Int.natAbs_mul]
  have : 1 * x.natAbs ≤ s.natAbs * x.natAbs := Nat.mul_le_mul_right _ (by omega)
  omega
theorem bd_of {a : Int} (h : a.natAbs ≤ 4611686018427387904) : bd a := by unfold bd; omega
theorem bd_mul {x y : Int} (hx : x.natAbs ≤ 2000000000) (hy : y.natAbs ≤ 2000000000) : bd (x * y) := by
  apply bd_of
  rw [Int.natAbs_mul]
  have := Nat.mul_le_mul hx hy
  omega
theorem make_ev (a b : Int) (ha : a.natAbs ≤ 4000000000) (hb : b.natAbs ≤ 4000000000) (hne : a ≠ 0 ∨ b ≠ 0) :
    ∃ N D s : Int, s ≠ 0 ∧ a = s * N ∧ b = s * D ∧ Int.gcd N D = 1 ∧ (0 < D ∨ (D = 0 ∧ N = 1)) ∧ Ev (fun k => spec_l10Make.f k a b) (N, D, decide (Fr N D)) := by
  have hg : Int.gcd a b ≠ 0 := by
    intro h; rw [Int.gcd_eq_zero_iff] at h; omega
  obtain ⟨x, y, hx, hy, hxy⟩ := gcd_split a b hg
  have hev := common_ev a b (bd_of (by omega)) (bd_of (by omega))
  have hgb : (Int.gcd a b : Int) ≤ 4000000000 := by
    rcases hne with h | h
    · have := Int.gcd_le_natAbs_left b h; omega
    · have := Int.gcd_le_natAbs_right a h; omega
  generalize hgd : Int.gcd a b = g at *
  have hg0 : (g : Int) ≠ 0 := by omega
  have hgn : (0 : Int) ≤ g := by omega
  have pb1 : ¬ b < 0 → ¬ b = 0 → 0 < b := by omega
  have pb2 : b < 0 → 0 < -b := by omega
  have key : ∀ s : Int, (s = g ∨ s = -g) → ∃ N D : Int, a = s * N ∧ b = s * D ∧ wrap64 (Int.tdiv a s) = N ∧ wrap64 (Int.tdiv b s) = D ∧ Int.gcd N D = 1 ∧ s ≠ 0 ∧ wrap64 s = s := by
    intro s hs
    have hs0 : s ≠ 0 := by omega
    obtain ⟨N, D, h1, h2, h3⟩ : ∃ N D : Int, a = s * N ∧ b = s * D ∧ Int.gcd N D = 1 := by
      rcases hs with rfl | rfl
      · exact ⟨x, y, hx, hy, hxy⟩
      · exact ⟨-x, -y, by rw [hx]; grind, by rw [hy]; grind, by simpa using hxy⟩
    have hN : N.natAbs ≤ a.natAbs := by rw [h1]; exact abs_le_mul hs0
    have hD : D.natAbs ≤ b.natAbs := by rw [h2]; exact abs_le_mul hs0
    refine ⟨N, D, h1, h2, ?_, ?_, h3, hs0, w64 (by unfold bd; omega)⟩
    · rw [h1, Int.mul_tdiv_cancel_left _ hs0]; exact w64 (bd_of (by omega))
    · rw [h2, Int.mul_tdiv_cancel_left _ hs0]; exact w64 (bd_of (by omega))
  by_cases h1 : b < 0
  · obtain ⟨N, D, e1, e2, e3, e4, e5, hs0, es⟩ := key (-g) (.inr rfl)
    refine ⟨N, D, -g, hs0, e1, e2, e5, .inl ?_, ?_⟩
    · exact split_pos (g := g) (a := -b) hgn (pb2 h1) (by rw [e2, Int.neg_mul, Int.neg_neg])
    · unfold spec_l10Make.f
      refine Ev.bind hev (Ev.if_pos h1 ?_)
      simp only [es]
      refine Ev.if_neg hs0 ?_
      simp only [e3, e4]
      exact Ev.bind (is_ev N D) (Ev.now _)
  · by_cases h2 : b = 0
    · by_cases h3 : a < 0
      · obtain ⟨N, D, e1, e2, e3, e4, e5, hs0, es⟩ := key (-g) (.inr rfl)
        have hD : D = 0 := by
          have : (-(g : Int)) * D = 0 := by rw [← e2]; exact h2
          rcases Int.mul_eq_zero.1 this with h | h
          · exact absurd h hs0
          · exact h
        refine ⟨N, D, -g, hs0, e1, e2, e5, .inr ⟨hD, ?_⟩, ?_⟩
        · subst hD
          have : N.natAbs = 1 := by simpa using e5
          rcases Int.lt_or_le 0 N with h | h
          · omega
          · have : N = -1 := by omega
            subst this; omega
        · unfold spec_l10Make.f
          refine Ev.bind hev (Ev.if_neg h1 (Ev.if_pos h2 (Ev.if_pos h3 ?_)))
          simp only [es]
          refine Ev.if_neg hs0 ?_
          simp only [e3, e4]
          exact Ev.bind (is_ev N D) (Ev.now _)
      · obtain ⟨N, D, e1, e2, e3, e4, e5, hs0, es⟩ := key g (.inl rfl)
        have hD : D = 0 := by
          have : (g : Int) * D = 0 := by rw [← e2]; exact h2
          rcases Int.mul_eq_zero.1 this with h | h
          · exact absurd h hs0
          · exact h
        refine ⟨N, D, g, hs0, e1, e2, e5, .inr ⟨hD, ?_⟩, ?_⟩
        · subst hD
          have : N.natAbs = 1 := by simpa using e5
          rcases Int.lt_or_le 0 N with h | h
          · omega
          · have : N = -1 := by omega
            subst this; omega
        · unfold spec_l10Make.f
          refine Ev.bind hev (Ev.if_neg h1 (Ev.if_pos h2 (Ev.if_neg h3 ?_)))
          refine Ev.if_neg hs0 ?_
          simp only [e3, e4]
          exact Ev.bind (is_ev N D) (Ev.now _)
    · obtain ⟨N, D, e1, e2, e3, e4, e5, hs0, es⟩ := key g (.inl rfl)
      refine ⟨N, D, g, hs0, e1, e2, e5, .inl ?_, ?_⟩
      · exact split_pos hgn (pb1 h1 h2) e2
      · unfold spec_l10Make.f
        refine Ev.bind hev (Ev.if_neg h1 (Ev.if_neg h2 ?_))
        refine Ev.if_neg hs0 ?_
        simp only [e3, e4]
        exact Ev.bind (is_ev N D) (Ev.now _)
theorem fr01 : Fr 0 1 := by decide
theorem times_ev (a0 a1 b0 b1 : Int) (ha0 : a0.natAbs ≤ 2000000000) (ha1 : a1.natAbs ≤ 2000000000) (hb0 : b0.natAbs ≤ 2000000000) (hb1 : b1.natAbs ≤ 2000000000)
    (ha : Int.gcd a0 a1 = 1) (hb : Int.gcd b0 b1 = 1) (pa : 0 < a1) (pb : 0 < b1) :
    ∃ N D : Int, 0 < D ∧ Int.gcd N D = 1 ∧ N * (a1 * b1) = a0 * b0 * D ∧ Ev (fun k => spec_l10Times.f k a0 a1 b0 b1) (N, D, decide (Fr N D)) := by
  have hev1 := common_ev a0 b1 (bd_of (by omega)) (bd_of (by omega))
  have hev2 := common_ev b0 a1 (bd_of (by omega)) (bd_of (by omega))
  have hg1 : Int.gcd a0 b1 ≠ 0 := by intro h; rw [Int.gcd_eq_zero_iff] at h; omega
  have hg2 : Int.gcd b0 a1 ≠ 0 := by intro h; rw [Int.gcd_eq_zero_iff] at h; omega
  obtain ⟨x, y, hx, hy, hxy⟩ := gcd_split a0 b1 hg1
  obtain ⟨u, v, hu, hv, huv⟩ := gcd_split b0 a1 hg2
  generalize hgd1 : Int.gcd a0 b1 = g1 at *
  generalize hgd2 : Int.gcd b0 a1 = g2 at *
  have hg1' : (g1 : Int) ≠ 0 := by omega
  have hg2' : (g2 : Int) ≠ 0 := by omega
  unfold spec_l10Times.f
  by_cases z1 : a0 = 0
  · refine ⟨0, 1, by omega, by decide, by rw [z1]; simp, ?_⟩
    refine Ev.bind hev1 (Ev.bind hev2 (Ev.if_neg hg1' (Ev.if_neg hg2' (Ev.if_pos z1 ?_))))
    rw [decide_eq_true fr01]; exact Ev.now _
  · by_cases z2 : b0 = 0
    · refine ⟨0, 1, by omega, by decide, by rw [z2]; simp, ?_⟩
      refine Ev.bind hev1 (Ev.bind hev2 (Ev.if_neg hg1' (Ev.if_neg hg2' (Ev.if_neg z1 (Ev.if_pos z2 ?_)))))
      rw [decide_eq_true fr01]; exact Ev.now _
    · have bx : x.natAbs ≤ a0.natAbs := by conv => { rhs; rw [hx] }; exact abs_le_mul hg1'
      have bu : u.natAbs ≤ b0.natAbs := by conv => { rhs; rw [hu] }; exact abs_le_mul hg2'
      have bv : v.natAbs ≤ a1.natAbs := by conv => { rhs; rw [hv] }; exact abs_le_mul hg2'
      have by' : y.natAbs ≤ b1.natAbs := by conv => { rhs; rw [hy] }; exact abs_le_mul hg1'
      have e1 : wrap64 (Int.tdiv a0 g1) = x := by rw [hx, Int.mul_tdiv_cancel_left _ hg1']; exact w64 (bd_of (by omega))
      have e2 : wrap64 (Int.tdiv b0 g2) = u := by rw [hu, Int.mul_tdiv_cancel_left _ hg2']; exact w64 (bd_of (by omega))
      have e3 : wrap64 (Int.tdiv a1 g2) = v := by rw [hv, Int.mul_tdiv_cancel_left _ hg2']; exact w64 (bd_of (by omega))
      have e4 : wrap64 (Int.tdiv b1 g1) = y := by rw [hy, Int.mul_tdiv_cancel_left _ hg1']; exact w64 (bd_of (by omega))
      have e5 : wrap64 (x * u) = x * u := w64 (bd_mul (Nat.le_trans bx ha0) (Nat.le_trans bu hb0))
      have e6 : wrap64 (v * y) = v * y := w64 (bd_mul (Nat.le_trans bv ha1) (Nat.le_trans by' hb1))
      have pv : 0 < v := split_pos (by omega) pa hv
      have py : 0 < y := split_pos (by omega) pb hy
      refine ⟨x * u, v * y, Int.mul_pos pv py, ?_, ?_, ?_⟩
      · have c1 : Int.gcd x v = 1 := by
          have h := ha
          rw [hx, hv] at h
          have := icop_right h
          rw [Int.gcd_comm] at this ⊢
          exact icop_right this
        have c2 : Int.gcd u y = 1 := by
          have h := hb
          rw [hu, hy] at h
          have := icop_right h
          rw [Int.gcd_comm] at this ⊢
          exact icop_right this
        exact icop_mul (icop_mul' c1 hxy) (icop_mul' huv c2)
      · clear e1 e2 e3 e4 e5 e6 bx bu bv by' hev1 hev2 ha0 ha1 hb0 hb1 ha hb hgd1 hgd2 pa pb
        subst hx hy hu hv
        grind
      · refine Ev.bind hev1 (Ev.bind hev2 (Ev.if_neg hg1' (Ev.if_neg hg2' (Ev.if_neg z1 (Ev.if_neg z2 ?_)))))
        simp only [e1, e2, e3, e4, e5, e6]
        exact Ev.bind (is_ev _ _) (Ev.now _)
end Go.Proofs.Ytaplebckjbbobaa.FracMath
end
section
namespace Go.Proofs.Ytaplebckjbbobaa.FracMath
open Go.RowKit Go.Proofs.YtaplebckjbbobaaW.PrintWords Go.Proofs.YtaplebckjbbobaaW.PrintMore PFnExactMoveFraction
theorem w64' {a : Int} (h : -4611686018427387904 ≤ a) (h' : a ≤ 4611686018427387904) : wrap64 a = a := w64 ⟨h, h'⟩
theorem tmod_nat (n p : Nat) : Int.tmod (n : Int) (p : Int) = ((n % p : Nat) : Int) := by rw [← Int.ofNat_tmod]
theorem tdiv_nat (n p : Nat) : Int.tdiv (n : Int) (p : Int) = ((n / p : Nat) : Int) := by rw [← Int.ofNat_tdiv]
theorem prime_l1 (L : List Int) (i : Nat) (hi : i < L.length) (n : Nat) (hn : rd L i = n) (h2 : 2 ≤ n) (hB : n ≤ 1000000000) :
    ∀ (d p : Nat), n + 2 - p ≤ d → 2 ≤ p → p ≤ 40000 → (∀ x, 2 ≤ x → x < p → ¬ x ∣ n) →
      ∃ r : Nat, Prm r ∧ r ∣ n ∧ Ev (fun k => spec_l10Prime.l1 k L i p) (r : Int) := by
  have hi' : (i : Int) < (L.length : Int) := by omega
  intro d
  induction d with
  | zero =>
    intro p hd hp hp4 hl
    have hpp : n < p * p := by
      have : n + 2 ≤ p := by omega
      have := Nat.mul_le_mul this this
      have h3 : (n + 2) * 1 ≤ (n + 2) * (n + 2) := Nat.mul_le_mul_left _ (by omega)
      omega
    refine ⟨n, prm_self h2 hl hpp, Nat.dvd_refl n, Ev.to (f := fun _ => some (n : Int)) (fun k => ?_) (Ev.now _)⟩
    have hpp' : ¬ (p : Int) * p ≤ n := by have : ((p * p : Nat) : Int) = (p : Int) * p := by simp
                                          omega
    have hb : p * p ≤ 40000 * 40000 := Nat.mul_le_mul hp4 hp4
    have hw : wrap64 ((p : Int) * p) = (p : Int) * p := by
      have : ((p * p : Nat) : Int) = (p : Int) * p := by simp
      exact w64' (by omega) (by omega)
    simp only [spec_l10Prime.l1]
    rw [_root_.if_pos (Int.natCast_nonneg i), _root_.if_pos hi', hw, hn, _root_.if_neg hpp']
  | succ d ih =>
    intro p hd hp hp4 hl
    have hb : p * p ≤ 40000 * 40000 := Nat.mul_le_mul hp4 hp4
    have hc : ((p * p : Nat) : Int) = (p : Int) * p := by simp
    have hw : wrap64 ((p : Int) * p) = (p : Int) * p := w64' (by omega) (by omega)
    by_cases hpp : n < p * p
    · refine ⟨n, prm_self h2 hl hpp, Nat.dvd_refl n, Ev.to (f := fun _ => some (n : Int)) (fun k => ?_) (Ev.now _)⟩
      simp only [spec_l10Prime.l1]
      rw [_root_.if_pos (Int.natCast_nonneg i), _root_.if_pos hi', hw, hn, _root_.if_neg (by omega)]
    · by_cases hdv : p ∣ n
      · refine ⟨p, prm_least hp hdv hl, hdv, Ev.to (f := fun _ => some (p : Int)) (fun k => ?_) (Ev.now _)⟩
        simp only [spec_l10Prime.l1]
        rw [_root_.if_pos (Int.natCast_nonneg i), _root_.if_pos hi', hw, hn, _root_.if_pos (by omega), _root_.if_neg (by omega), tmod_nat, _root_.if_pos (by rw [Nat.mod_eq_zero_of_dvd hdv]; rfl)]
      · have hlt : p < 31700 := by
          rcases Nat.lt_or_ge p 31700 with h | h
          · exact h
          · have := Nat.mul_le_mul h h; omega
        have hpn : p ≤ n := by
          have : p * 1 ≤ p * p := Nat.mul_le_mul_left _ (by omega)
          omega
        obtain ⟨r, h1, h3, h4⟩ := ih (p + 1) (by omega) (by omega) (by omega) (fun x hx hxp => by
          by_cases hxe : x = p
          · subst hxe; exact hdv
          · exact hl x hx (by omega))
        refine ⟨r, h1, h3, Ev.to (f := fun k => spec_l10Prime.l1 k L i ((p + 1 : Nat) : Int)) (fun k => ?_) h4⟩
        have hm : ¬ Int.tmod (n : Int) (p : Int) = 0 := by
          rw [tmod_nat]
          intro h
          exact hdv (Nat.dvd_of_mod_eq_zero (by omega))
        simp only [spec_l10Prime.l1]
        rw [_root_.if_pos (Int.natCast_nonneg i), _root_.if_pos hi', hw, hn, _root_.if_pos (by omega), _root_.if_neg (by omega), _root_.if_neg hm, w64' (by omega) (by omega)]
        congr 1
theorem prime_l0 (L : List Int) (hL : ∀ i : Nat, i < L.length → ∃ n : Nat, rd L i = n ∧ 1 ≤ n ∧ n ≤ 1000000000) (hlen : L.length ≤ 4) :
    ∀ (d i : Nat), L.length - i ≤ d → (∀ j, j < i → rd L j = 1) →
      ((∀ j : Nat, j < L.length → rd L j = 1) ∧ Ev (fun k => spec_l10Prime.l0 k L i) 0) ∨
      ∃ p : Nat, Prm p ∧ (∃ j n : Nat, j < L.length ∧ rd L j = n ∧ p ∣ n) ∧ Ev (fun k => spec_l10Prime.l0 k L i) (p : Int) := by
  intro d
  induction d with
  | zero =>
    intro i hd h1
    left
    refine ⟨fun j hj => h1 j (by omega), Ev.to (f := fun _ => some 0) (fun k => ?_) (Ev.now _)⟩
    simp only [spec_l10Prime.l0]
    rw [_root_.if_neg (by omega)]
  | succ d ih =>
    intro i hd h1
    by_cases hi : i < L.length
    · obtain ⟨n, hn, hn1, hn2⟩ := hL i hi
      by_cases hone : n = 1
      · have hr1 : rd L i = 1 := by rw [hn, hone]; rfl
        have hstep : ∀ k, spec_l10Prime.l0 (k + 1) L i = spec_l10Prime.l0 k L ((i + 1 : Nat) : Int) := fun k => by
          simp only [spec_l10Prime.l0]
          rw [_root_.if_pos (by omega), _root_.if_pos (by omega), _root_.if_pos hr1, w64' (by omega) (by omega)]
          congr 1
        rcases ih (i + 1) (by omega) (fun j hj => by
          by_cases hji : j = i
          · subst hji; exact hr1
          · exact h1 j (by omega)) with ⟨ha, hb⟩ | ⟨p, hp, hj, hb⟩
        · exact .inl ⟨ha, Ev.to hstep hb⟩
        · exact .inr ⟨p, hp, hj, Ev.to hstep hb⟩
      · obtain ⟨r, hr, hd', hev⟩ := prime_l1 L i hi n hn (by omega) hn2 (n + 2) 2 (by omega) (by omega) (by omega) (fun x hx hxp => by omega)
        refine .inr ⟨r, hr, ⟨i, n, hi, hn, hd'⟩, Ev.to (f := fun k => spec_l10Prime.l1 k L i ((2 : Nat) : Int)) (fun k => ?_) hev⟩
        simp only [spec_l10Prime.l0]
        rw [_root_.if_pos (by omega), _root_.if_pos (by omega), _root_.if_neg (by rw [hn]; omega)]
        rfl
    · left
      refine ⟨fun j hj => h1 j (by omega), Ev.to (f := fun _ => some 0) (fun k => ?_) (Ev.now _)⟩
      simp only [spec_l10Prime.l0]
      rw [_root_.if_neg (by omega)]
theorem prime_ev (n0 n1 n2 n3 : Nat) (h0 : 1 ≤ n0 ∧ n0 ≤ 1000000000) (h1 : 1 ≤ n1 ∧ n1 ≤ 1000000000) (h2 : 1 ≤ n2 ∧ n2 ≤ 1000000000) (h3 : 1 ≤ n3 ∧ n3 ≤ 1000000000) :
    (n0 = 1 ∧ n1 = 1 ∧ n2 = 1 ∧ n3 = 1 ∧ Ev (fun k => spec_l10Prime.f k [(n0 : Int), n1, n2, n3]) 0) ∨
    ∃ p : Nat, Prm p ∧ (p ∣ n0 ∨ p ∣ n1 ∨ p ∣ n2 ∨ p ∣ n3) ∧ Ev (fun k => spec_l10Prime.f k [(n0 : Int), n1, n2, n3]) (p : Int) := by
  have r0 : rd [(n0 : Int), n1, n2, n3] ((0 : Nat) : Int) = n0 := rfl
  have r1 : rd [(n0 : Int), n1, n2, n3] ((1 : Nat) : Int) = n1 := rfl
  have r2 : rd [(n0 : Int), n1, n2, n3] ((2 : Nat) : Int) = n2 := rfl
  have r3 : rd [(n0 : Int), n1, n2, n3] ((3 : Nat) : Int) = n3 := rfl
  have hcase : ∀ j : Nat, j < ([(n0 : Int), n1, n2, n3] : List Int).length → j = 0 ∨ j = 1 ∨ j = 2 ∨ j = 3 := fun j hj => by
    simp at hj; omega
  rcases prime_l0 [(n0 : Int), n1, n2, n3] (fun i hi => by
    rcases hcase i hi with rfl | rfl | rfl | rfl
    · exact ⟨n0, r0, h0⟩
    · exact ⟨n1, r1, h1⟩
    · exact ⟨n2, r2, h2⟩
    · exact ⟨n3, r3, h3⟩) (by simp) 4 0 (by simp) (fun j hj => by omega) with ⟨ha, hb⟩ | ⟨p, hp, ⟨j, n, hj, hn, hd⟩, hb⟩
  · left
    have a0 := ha 0 (by simp)
    have a1 := ha 1 (by simp)
    have a2 := ha 2 (by simp)
    have a3 := ha 3 (by simp)
    rw [r0] at a0; rw [r1] at a1; rw [r2] at a2; rw [r3] at a3
    exact ⟨by omega, by omega, by omega, by omega, hb⟩
  · right
    refine ⟨p, hp, ?_, hb⟩
    rcases hcase j hj with rfl | rfl | rfl | rfl
    · rw [r0] at hn; obtain rfl : n0 = n := by omega
      exact .inl hd
    · rw [r1] at hn; obtain rfl : n1 = n := by omega
      exact .inr (.inl hd)
    · rw [r2] at hn; obtain rfl : n2 = n := by omega
      exact .inr (.inr (.inl hd))
    · rw [r3] at hn; obtain rfl : n3 = n := by omega
      exact .inr (.inr (.inr hd))
end Go.Proofs.Ytaplebckjbbobaa.FracMath
end
section
namespace Go.Proofs.Ytaplebckjbbobaa.FracMath
open Go.RowKit Go.Proofs.YtaplebckjbbobaaW.PrintWords Go.Proofs.YtaplebckjbbobaaW.PrintMore PFnExactMoveFraction
theorem rd_nat (L : List Int) (i : Nat) : rd L (i : Int) = L.getD i 0 := by simp [rd]
theorem rd_set (L : List Int) (i : Nat) (v : Int) (hi : i < L.length) : rd (L.set i v) (i : Int) = v := by
  rw [rd_nat]; simp [List.getD, hi]
theorem l3_ev (s : Int) (P : List Int) (p : Nat) (hp : 2 ≤ p) (o1 o2 : Int) (r : Int × Int × Bool) (i : Nat) (hP : i < P.length) (hPb : -20 ≤ rd P i ∧ rd P i ≤ 20) (c : Nat) (hc : ¬ p ∣ c) :
    ∀ (e : Nat) (L : List Int) (t : Int), i < L.length → rd L i = ((c * p ^ e : Nat) : Int) → c * p ^ e ≤ 1000000000 → i < 4 → -100000 ≤ t - 20 * (e : Int) → t + 20 * (e : Int) ≤ 100000 →
      Ev (fun k => spec_l10Product.l2 k s (L.set i c) P p (t + rd P i * e) ((i + 1 : Nat) : Int) o1 o2) r →
      Ev (fun k => spec_l10Product.l3 k s L P p t i o1 o2) r := by
  intro e
  induction e with
  | zero =>
    intro L t hL hr hb hi4 ht1 ht2 hev
    have hr' : rd L i = (c : Int) := by rw [hr]; simp
    have hset : L.set i (c : Int) = L := by
      rw [rd_nat] at hr'
      apply List.ext_getElem?
      intro q
      by_cases hq : q = i
      · subst hq
        rw [List.getElem?_set_self hL]
        simp [List.getD, hL] at hr'
        rw [List.getElem?_eq_getElem hL, hr']
      · rw [List.getElem?_set_ne (Ne.symm hq)]
    refine Ev.to (fun k => ?_) hev
    simp only [spec_l10Product.l3]
    rw [_root_.if_pos (Int.natCast_nonneg i), _root_.if_pos (by omega), _root_.if_neg (by omega), hr', tmod_nat, _root_.if_neg (by
      intro h; exact hc (Nat.dvd_of_mod_eq_zero (by omega))), hset, w64' (by omega) (by omega)]
    simp
  | succ e ih =>
    intro L t hL hr hb hi4 ht1 ht2 hev
    have hpe : c * p ^ (e + 1) = c * p ^ e * p := by rw [Nat.pow_succ, Nat.mul_assoc]
    have hle : c * p ^ e ≤ 1000000000 := by
      have : c * p ^ e * 1 ≤ c * p ^ e * p := Nat.mul_le_mul_left _ (by omega)
      omega
    have hmod : Int.tmod (rd L i) p = 0 := by rw [hr, tmod_nat, hpe, Nat.mul_mod_left]; rfl
    have hdiv : wrap64 (Int.tdiv (rd L i) p) = ((c * p ^ e : Nat) : Int) := by
      rw [hr, tdiv_nat, hpe, Nat.mul_div_cancel _ (by omega)]
      exact w64' (by omega) (by omega)
    have hst : ∀ k, spec_l10Product.l3 (k + 1) s L P p t i o1 o2 = spec_l10Product.l3 k s (L.set i ((c * p ^ e : Nat) : Int)) P p (t + rd P i) i o1 o2 := fun k => by
      simp only [spec_l10Product.l3]
      rw [_root_.if_pos (Int.natCast_nonneg i), _root_.if_pos (by omega), _root_.if_neg (by omega), _root_.if_pos hmod, _root_.if_pos (by omega), hdiv, Int.toNat_natCast, w64' (by omega) (by omega)]
    refine Ev.to hst (ih (L.set i ((c * p ^ e : Nat) : Int)) (t + rd P i) (by simpa using hL) (rd_set _ _ _ hL) hle hi4 (by omega) (by omega) ?_)
    rw [List.set_set]
    have : t + rd P i + rd P i * (e : Int) = t + rd P i * ((e + 1 : Nat) : Int) := by
      rw [Int.natCast_add]; grind
    rw [this]; exact hev
theorem l4_ok (s : Int) (L P : List Int) (p : Nat) (hp : 2 ≤ p) (o2 : Int) (r : Int × Int × Bool) : ∀ (j o1 : Nat), 1 ≤ o1 → o1 * p ^ j ≤ 1000000000 → j ≤ 100000 →
    Ev (fun k => spec_l10Product.l1 k s L P ((o1 * p ^ j : Nat) : Int) o2) r → Ev (fun k => spec_l10Product.l4 k s L P p j o1 o2) r := by
  intro j
  induction j with
  | zero =>
    intro o1 h1 hb hj hev
    refine Ev.to (f := fun k => spec_l10Product.l5 k s L P p ((0 : Nat) : Int) o1 o2) (fun k => ?_) (Ev.to (fun k => ?_) hev)
    · simp only [spec_l10Product.l4]; rw [_root_.if_neg (by omega)]
    · simp only [spec_l10Product.l5]; rw [_root_.if_neg (by omega)]; simp
  | succ j ih =>
    intro o1 h1 hb hj hev
    have hpe : o1 * p ^ (j + 1) = o1 * p * p ^ j := by rw [Nat.pow_succ]; grind
    have hpj : 1 ≤ p ^ j := Nat.pow_pos (by omega)
    have hle : o1 * p ≤ 1000000000 := by
      have : o1 * p * 1 ≤ o1 * p * p ^ j := Nat.mul_le_mul_left _ hpj
      omega
    have hpos : 1 ≤ o1 * p := Nat.mul_pos (by omega) (by omega)
    have hcast : (o1 : Int) * p = ((o1 * p : Nat) : Int) := by simp
    rw [hpe] at hb hev
    refine Ev.to (fun k => ?_) (ih (o1 * p) hpos hb (by omega) hev)
    simp only [spec_l10Product.l4]
    rw [_root_.if_pos (by omega), hcast, w64' (by omega) (by omega), _root_.if_neg (by omega), w64' (by omega) (by omega)]
    congr 1; omega
theorem l4_bad (s : Int) (L P : List Int) (p : Nat) (hp : 2 ≤ p) (hpB : p ≤ 1000000000) (o2 : Int) : ∀ (j o1 : Nat), 1 ≤ o1 → o1 ≤ 1000000000 → 1000000000 < o1 * p ^ j → j ≤ 100000 →
    Ev (fun k => spec_l10Product.l4 k s L P p j o1 o2) ((0 : Int), (0 : Int), false) := by
  intro j
  induction j with
  | zero => intro o1 h1 ho hb hj; simp at hb; omega
  | succ j ih =>
    intro o1 h1 ho hb hj
    have hpe : o1 * p ^ (j + 1) = o1 * p * p ^ j := by rw [Nat.pow_succ]; grind
    have hmul := Nat.mul_le_mul ho hpB
    have hpos : 1 ≤ o1 * p := Nat.mul_pos (by omega) (by omega)
    have hcast : (o1 : Int) * p = ((o1 * p : Nat) : Int) := by simp
    by_cases hle : o1 * p ≤ 1000000000
    · rw [hpe] at hb
      refine Ev.to (fun k => ?_) (ih (o1 * p) hpos hle hb (by omega))
      simp only [spec_l10Product.l4]
      rw [_root_.if_pos (by omega), hcast, w64' (by omega) (by omega), _root_.if_neg (by omega), w64' (by omega) (by omega)]
      congr 1; omega
    · refine Ev.to (f := fun _ => some ((0 : Int), (0 : Int), false)) (fun k => ?_) (Ev.now _)
      simp only [spec_l10Product.l4]
      rw [_root_.if_pos (by omega), hcast, w64' (by omega) (by omega), _root_.if_pos (by omega)]
theorem l5_ok (s : Int) (L P : List Int) (p : Nat) (hp : 2 ≤ p) (o1 : Int) (r : Int × Int × Bool) : ∀ (j o2 : Nat), 1 ≤ o2 → o2 * p ^ j ≤ 1000000000 → j ≤ 100000 →
    Ev (fun k => spec_l10Product.l1 k s L P o1 ((o2 * p ^ j : Nat) : Int)) r → Ev (fun k => spec_l10Product.l5 k s L P p (-(j : Int)) o1 o2) r := by
  intro j
  induction j with
  | zero =>
    intro o2 h1 hb hj hev
    refine Ev.to (fun k => ?_) hev
    simp only [spec_l10Product.l5]; rw [_root_.if_neg (by omega)]; simp
  | succ j ih =>
    intro o2 h1 hb hj hev
    have hpe : o2 * p ^ (j + 1) = o2 * p * p ^ j := by rw [Nat.pow_succ]; grind
    have hpj : 1 ≤ p ^ j := Nat.pow_pos (by omega)
    have hle : o2 * p ≤ 1000000000 := by
      have : o2 * p * 1 ≤ o2 * p * p ^ j := Nat.mul_le_mul_left _ hpj
      omega
    have hpos : 1 ≤ o2 * p := Nat.mul_pos (by omega) (by omega)
    have hcast : (o2 : Int) * p = ((o2 * p : Nat) : Int) := by simp
    rw [hpe] at hb hev
    refine Ev.to (fun k => ?_) (ih (o2 * p) hpos hb (by omega) hev)
    simp only [spec_l10Product.l5]
    rw [_root_.if_pos (by omega), hcast, w64' (by omega) (by omega), _root_.if_neg (by omega), w64' (by omega) (by omega)]
    congr 1; omega
theorem l5_bad (s : Int) (L P : List Int) (p : Nat) (hp : 2 ≤ p) (hpB : p ≤ 1000000000) (o1 : Int) : ∀ (j o2 : Nat), 1 ≤ o2 → o2 ≤ 1000000000 → 1000000000 < o2 * p ^ j → j ≤ 100000 →
    Ev (fun k => spec_l10Product.l5 k s L P p (-(j : Int)) o1 o2) ((0 : Int), (0 : Int), false) := by
  intro j
  induction j with
  | zero => intro o2 h1 ho hb hj; simp at hb; omega
  | succ j ih =>
    intro o2 h1 ho hb hj
    have hpe : o2 * p ^ (j + 1) = o2 * p * p ^ j := by rw [Nat.pow_succ]; grind
    have hmul := Nat.mul_le_mul ho hpB
    have hpos : 1 ≤ o2 * p := Nat.mul_pos (by omega) (by omega)
    have hcast : (o2 : Int) * p = ((o2 * p : Nat) : Int) := by simp
    by_cases hle : o2 * p ≤ 1000000000
    · rw [hpe] at hb
      refine Ev.to (fun k => ?_) (ih (o2 * p) hpos hle hb (by omega))
      simp only [spec_l10Product.l5]
      rw [_root_.if_pos (by omega), hcast, w64' (by omega) (by omega), _root_.if_neg (by omega), w64' (by omega) (by omega)]
      congr 1; omega
    · refine Ev.to (f := fun _ => some ((0 : Int), (0 : Int), false)) (fun k => ?_) (Ev.now _)
      simp only [spec_l10Product.l5]
      rw [_root_.if_pos (by omega), hcast, w64' (by omega) (by omega), _root_.if_pos (by omega)]
theorem l4_neg (s : Int) (L P : List Int) (p : Nat) (j : Nat) (o1 o2 : Int) (r : Int × Int × Bool) (h : Ev (fun k => spec_l10Product.l5 k s L P p (-(j : Int)) o1 o2) r) : Ev (fun k => spec_l10Product.l4 k s L P p (-(j : Int)) o1 o2) r := by
  refine Ev.to (fun k => ?_) h
  simp only [spec_l10Product.l4]; rw [_root_.if_neg (by omega)]
theorem round_ev (s : Int) (m n : Nat) (hm : m ≤ 20) (hn : n ≤ 20) (p : Nat) (hp : 2 ≤ p) (o1 o2 : Int) (r : Int × Int × Bool) (c0 c1 c2 c3 e0 e1 e2 e3 : Nat)
    (h0 : ¬ p ∣ c0) (h1 : ¬ p ∣ c1) (h2 : ¬ p ∣ c2) (h3 : ¬ p ∣ c3) (z0 : 0 < c0) (z1 : 0 < c1) (z2 : 0 < c2) (z3 : 0 < c3)
    (b0 : c0 * p ^ e0 ≤ 1000000000) (b1 : c1 * p ^ e1 ≤ 1000000000) (b2 : c2 * p ^ e2 ≤ 1000000000) (b3 : c3 * p ^ e3 ≤ 1000000000)
    (h : Ev (fun k => spec_l10Product.l4 k s [(c0 : Int), c1, c2, c3] [(m : Int), -m, n, -n] p ((m : Int) * e0 - m * e1 + n * e2 - n * e3) o1 o2) r) :
    Ev (fun k => spec_l10Product.l2 k s [((c0 * p ^ e0 : Nat) : Int), (c1 * p ^ e1 : Nat), (c2 * p ^ e2 : Nat), (c3 * p ^ e3 : Nat)] [(m : Int), -m, n, -n] p 0 0 o1 o2) r := by
  have k0 := pow_lt_of hp z0 rfl (by omega : c0 * p ^ e0 < 2 ^ 31)
  have k1 := pow_lt_of hp z1 rfl (by omega : c1 * p ^ e1 < 2 ^ 31)
  have k2 := pow_lt_of hp z2 rfl (by omega : c2 * p ^ e2 < 2 ^ 31)
  have k3 := pow_lt_of hp z3 rfl (by omega : c3 * p ^ e3 < 2 ^ 31)
  have q0 : (m : Int) * e0 ≤ 20 * 31 := by
    have : m * e0 ≤ 20 * 31 := Nat.mul_le_mul hm (by omega)
    have hc : ((m * e0 : Nat) : Int) = (m : Int) * e0 := by simp
    omega
  have q0' : 0 ≤ (m : Int) * e0 := Int.mul_nonneg (by omega) (by omega)
  have q1 : (m : Int) * e1 ≤ 20 * 31 := by
    have : m * e1 ≤ 20 * 31 := Nat.mul_le_mul hm (by omega)
    have hc : ((m * e1 : Nat) : Int) = (m : Int) * e1 := by simp
    omega
  have q1' : 0 ≤ (m : Int) * e1 := Int.mul_nonneg (by omega) (by omega)
  have q2 : (n : Int) * e2 ≤ 20 * 31 := by
    have : n * e2 ≤ 20 * 31 := Nat.mul_le_mul hn (by omega)
    have hc : ((n * e2 : Nat) : Int) = (n : Int) * e2 := by simp
    omega
  have q2' : 0 ≤ (n : Int) * e2 := Int.mul_nonneg (by omega) (by omega)
  have go : ∀ (i : Nat) (L : List Int) (t : Int), i < 4 → Ev (fun k => spec_l10Product.l3 k s L [(m : Int), -m, n, -n] p t i o1 o2) r → Ev (fun k => spec_l10Product.l2 k s L [(m : Int), -m, n, -n] p t i o1 o2) r := fun i L t hi hev => by
    refine Ev.to (fun k => ?_) hev
    simp only [spec_l10Product.l2]; rw [_root_.if_pos (by omega)]
  have em : ∀ e : Nat, (-(m : Int)) * e = -((m : Int) * e) := fun e => Int.neg_mul _ _
  have en : ∀ e : Nat, (-(n : Int)) * e = -((n : Int) * e) := fun e => Int.neg_mul _ _
  refine go 0 _ _ (by omega) (l3_ev s _ p hp o1 o2 r 0 (by simp) (by simp [rd]; omega) c0 h0 e0 _ _ (by simp) (by simp [rd]) b0 (by omega) (by omega) (by omega) ?_)
  refine go 1 _ _ (by omega) (l3_ev s _ p hp o1 o2 r 1 (by simp) (by simp [rd]; omega) c1 h1 e1 _ _ (by simp) (by simp [rd]) b1 (by omega) (by simp [rd]; omega) (by simp [rd]; omega) ?_)
  refine go 2 _ _ (by omega) (l3_ev s _ p hp o1 o2 r 2 (by simp) (by simp [rd]; omega) c2 h2 e2 _ _ (by simp) (by simp [rd]) b2 (by omega) (by simp [rd, em]; omega) (by simp [rd, em]; omega) ?_)
  refine go 3 _ _ (by omega) (l3_ev s _ p hp o1 o2 r 3 (by simp) (by simp [rd]; omega) c3 h3 e3 _ _ (by simp) (by simp [rd]) b3 (by omega) (by simp [rd, em]; omega) (by simp [rd, em]; omega) ?_)
  refine Ev.to (fun k => ?_) h
  simp only [spec_l10Product.l2]
  rw [_root_.if_neg (by omega)]
  simp only [List.set_cons_zero, List.set_cons_succ]
  congr 1
  simp [rd, em, en]; omega
theorem product_l1 (s : Int) (hs : s = 1 ∨ s = -1) (m n : Nat) (hm : m ≤ 20) (hn : n ≤ 20) (N D : Nat) (hD : 0 < D) (hN : 0 < N) (hND : Nat.Coprime N D) :
    ∀ (d n0 n1 n2 n3 o1 o2 : Nat), n0 + n1 + n2 + n3 ≤ d → (1 ≤ n0 ∧ n0 ≤ 1000000000) → (1 ≤ n1 ∧ n1 ≤ 1000000000) → (1 ≤ n2 ∧ n2 ≤ 1000000000) → (1 ≤ n3 ∧ n3 ≤ 1000000000) →
      (1 ≤ o1 ∧ o1 ≤ 1000000000) → (1 ≤ o2 ∧ o2 ≤ 1000000000) → o1 * n0 ^ m * n2 ^ n * D = N * (o2 * n1 ^ m * n3 ^ n) → Nat.Coprime o1 o2 →
      (Nat.Coprime o1 n1 ∧ Nat.Coprime o1 n3 ∧ Nat.Coprime o1 n0 ∧ Nat.Coprime o1 n2) → (Nat.Coprime o2 n0 ∧ Nat.Coprime o2 n2 ∧ Nat.Coprime o2 n1 ∧ Nat.Coprime o2 n3) →
      Ev (fun k => spec_l10Product.l1 k s [(n0 : Int), n1, n2, n3] [(m : Int), -m, n, -n] o1 o2) (if N ≤ 1000000000 ∧ D ≤ 1000000000 then (s * N, (D : Int), true) else (0, 0, false)) := by
  intro d
  induction d with
  | zero => intro n0 n1 n2 n3 o1 o2 hd h0; omega
  | succ d ih =>
    intro n0 n1 n2 n3 o1 o2 hd h0 h1 h2 h3 ho1 ho2 hrel hcop hc1 hc2
    rcases prime_ev n0 n1 n2 n3 h0 h1 h2 h3 with ⟨rfl, rfl, rfl, rfl, hev⟩ | ⟨p, hp, hdv, hev⟩
    · simp only [Nat.one_pow, Nat.mul_one] at hrel
      obtain ⟨rfl, rfl⟩ := nat_red_unique hcop hND hrel
      rw [_root_.if_pos ⟨ho1.2, ho2.2⟩]
      refine Ev.to (f := fun k => (spec_l10Prime.f k [((1 : Nat) : Int), (1 : Nat), (1 : Nat), (1 : Nat)]).bind _) (fun k => by simp only [spec_l10Product.l1]; rfl) (Ev.bind hev (Ev.if_pos rfl ?_))
      have : wrap64 ((o1 : Int) * s) = s * o1 := by
        rw [Int.mul_comm]
        refine w64' ?_ ?_ <;> rcases hs with rfl | rfl <;> omega
      rw [this]; exact Ev.now _
    · obtain ⟨e0, c0, x0, d0, z0⟩ := split_pow hp.1 n0 h0.1
      obtain ⟨e1, c1, x1, d1, z1⟩ := split_pow hp.1 n1 h1.1
      obtain ⟨e2, c2, x2, d2, z2⟩ := split_pow hp.1 n2 h2.1
      obtain ⟨e3, c3, x3, d3, z3⟩ := split_pow hp.1 n3 h3.1
      have hpp : ∀ e, 0 < p ^ e := fun e => Nat.pow_pos (by have := hp.1; omega)
      have hpB : p ≤ 1000000000 := by
        rcases hdv with h | h | h | h <;> have := Nat.le_of_dvd (by omega) h <;> omega
      have lo : ∀ c e : Nat, c * p ^ e = c * p ^ e → c ≤ c * p ^ e := fun c e _ => Nat.le_mul_of_pos_right _ (hpp e)
      have drop : ∀ c e : Nat, 0 < c → p ∣ c * p ^ e → ¬ p ∣ c → c < c * p ^ e := fun c e hc hd hn => by
        rcases e with _ | e
        · simp at hd; exact absurd hd hn
        · have h2 : 2 ≤ p ^ (e + 1) := Nat.le_trans hp.1 (by rw [Nat.pow_succ]; exact Nat.le_mul_of_pos_left _ (hpp e))
          have : c * 2 ≤ c * p ^ (e + 1) := Nat.mul_le_mul_left _ h2
          omega
      have k0 := pow_lt_of hp.1 z0 x0 (by omega)
      have k1 := pow_lt_of hp.1 z1 x1 (by omega)
      have k2 := pow_lt_of hp.1 z2 x2 (by omega)
      have k3 := pow_lt_of hp.1 z3 x3 (by omega)
      have q0 : m * e0 ≤ 20 * 31 := Nat.mul_le_mul hm (by omega)
      have q1 : m * e1 ≤ 20 * 31 := Nat.mul_le_mul hm (by omega)
      have q2 : n * e2 ≤ 20 * 31 := Nat.mul_le_mul hn (by omega)
      have q3 : n * e3 ≤ 20 * 31 := Nat.mul_le_mul hn (by omega)
      have hless : c0 + c1 + c2 + c3 ≤ d := by
        have l0 := lo c0 e0 rfl
        have l1 := lo c1 e1 rfl
        have l2 := lo c2 e2 rfl
        have l3 := lo c3 e3 rfl
        rcases hdv with h | h | h | h
        · have := drop c0 e0 z0 (x0 ▸ h) d0; omega
        · have := drop c1 e1 z1 (x1 ▸ h) d1; omega
        · have := drop c2 e2 z2 (x2 ▸ h) d2; omega
        · have := drop c3 e3 z3 (x3 ▸ h) d3; omega
      have pc : ∀ c, ¬ p ∣ c → Nat.Coprime p c := fun c h => prm_cop hp h
      have cd : ∀ n c e : Nat, n = c * p ^ e → c ∣ n := fun n c e h => ⟨p ^ e, h⟩
      have po2 : Nat.Coprime p o2 := by
        rcases hdv with h | h | h | h
        · exact (hc2.1.coprime_dvd_right h).symm
        · exact (hc2.2.2.1.coprime_dvd_right h).symm
        · exact (hc2.2.1.coprime_dvd_right h).symm
        · exact (hc2.2.2.2.coprime_dvd_right h).symm
      have po1 : Nat.Coprime p o1 := by
        rcases hdv with h | h | h | h
        · exact (hc1.2.2.1.coprime_dvd_right h).symm
        · exact (hc1.1.coprime_dvd_right h).symm
        · exact (hc1.2.2.2.coprime_dvd_right h).symm
        · exact (hc1.2.1.coprime_dvd_right h).symm
      have g10 := hc1.2.2.1.coprime_dvd_right (cd _ _ _ x0)
      have g11 := hc1.1.coprime_dvd_right (cd _ _ _ x1)
      have g12 := hc1.2.2.2.coprime_dvd_right (cd _ _ _ x2)
      have g13 := hc1.2.1.coprime_dvd_right (cd _ _ _ x3)
      have g20 := hc2.1.coprime_dvd_right (cd _ _ _ x0)
      have g21 := hc2.2.2.1.coprime_dvd_right (cd _ _ _ x1)
      have g22 := hc2.2.1.coprime_dvd_right (cd _ _ _ x2)
      have g23 := hc2.2.2.2.coprime_dvd_right (cd _ _ _ x3)
      have hrel2 : o1 * c0 ^ m * c2 ^ n * D * p ^ (m * e0 + n * e2) = N * (o2 * c1 ^ m * c3 ^ n) * p ^ (m * e1 + n * e3) := by
        have a0 : n0 ^ m = c0 ^ m * p ^ (m * e0) := by rw [x0, Nat.mul_pow, ← Nat.pow_mul, Nat.mul_comm e0 m]
        have a1 : n1 ^ m = c1 ^ m * p ^ (m * e1) := by rw [x1, Nat.mul_pow, ← Nat.pow_mul, Nat.mul_comm e1 m]
        have a2 : n2 ^ n = c2 ^ n * p ^ (n * e2) := by rw [x2, Nat.mul_pow, ← Nat.pow_mul, Nat.mul_comm e2 n]
        have a3 : n3 ^ n = c3 ^ n * p ^ (n * e3) := by rw [x3, Nat.mul_pow, ← Nat.pow_mul, Nat.mul_comm e3 n]
        rw [a0, a1, a2, a3] at hrel
        rw [Nat.pow_add, Nat.pow_add]
        generalize p ^ (m * e0) = A at *
        generalize p ^ (m * e1) = B at *
        generalize p ^ (n * e2) = C at *
        generalize p ^ (n * e3) = E at *
        generalize c0 ^ m = A' at *
        generalize c1 ^ m = B' at *
        generalize c2 ^ n = C' at *
        generalize c3 ^ n = E' at *
        clear ih hev
        grind
      have hp0 : ¬ (p : Int) = 0 := by have := hp.1; omega
      refine Ev.to (f := fun k => (spec_l10Prime.f k [(n0 : Int), n1, n2, n3]).bind _) (fun k => by simp only [spec_l10Product.l1]; rfl) (Ev.bind hev (Ev.if_neg hp0 ?_))
      have hround := fun r => round_ev s m n hm hn p hp.1 o1 o2 r c0 c1 c2 c3 e0 e1 e2 e3 d0 d1 d2 d3 z0 z1 z2 z3 (by omega) (by omega) (by omega) (by omega)
      rw [← x0, ← x1, ← x2, ← x3] at hround
      refine hround _ ?_
      by_cases hT : m * e1 + n * e3 ≤ m * e0 + n * e2
      · obtain ⟨j, hj⟩ : ∃ j, m * e0 + n * e2 = (m * e1 + n * e3) + j := ⟨_, (Nat.add_sub_cancel' hT).symm⟩
        have ht : (m : Int) * e0 - m * e1 + n * e2 - n * e3 = (j : Int) := by
          have a0 : ((m * e0 : Nat) : Int) = (m : Int) * e0 := by simp
          have a1 : ((m * e1 : Nat) : Int) = (m : Int) * e1 := by simp
          have a2 : ((n * e2 : Nat) : Int) = (n : Int) * e2 := by simp
          have a3 : ((n * e3 : Nat) : Int) = (n : Int) * e3 := by simp
          omega
        rw [ht]
        have hrel3 : o1 * p ^ j * c0 ^ m * c2 ^ n * D = N * (o2 * c1 ^ m * c3 ^ n) := by
          rw [hj, Nat.pow_add] at hrel2
          refine Nat.eq_of_mul_eq_mul_right (hpp (m * e1 + n * e3)) ?_
          rw [← hrel2]
          generalize p ^ (m * e1 + n * e3) = A
          generalize p ^ j = B
          generalize c0 ^ m = A'
          generalize c2 ^ n = C'
          clear ih hev hround
          grind
        have hcp : Nat.Coprime (o1 * p ^ j) (o2 * c1 ^ m * c3 ^ n) :=
          Nat.Coprime.mul_left (Nat.Coprime.mul_right (Nat.Coprime.mul_right hcop (g11.pow_right m)) (g13.pow_right n))
            (Nat.Coprime.pow_left j (Nat.Coprime.mul_right (Nat.Coprime.mul_right po2 ((pc c1 d1).pow_right m)) ((pc c3 d3).pow_right n)))
        by_cases hfit : o1 * p ^ j ≤ 1000000000
        · refine l4_ok s _ _ p hp.1 o2 _ j o1 ho1.1 hfit (by omega) ?_
          refine ih c0 c1 c2 c3 (o1 * p ^ j) o2 hless ⟨z0, ?_⟩ ⟨z1, ?_⟩ ⟨z2, ?_⟩ ⟨z3, ?_⟩ ⟨Nat.mul_pos ho1.1 (hpp j), hfit⟩ ho2 hrel3 ?_ ⟨?_, ?_, ?_, ?_⟩ ⟨g20, g22, g21, g23⟩
          · have := lo c0 e0 rfl; omega
          · have := lo c1 e1 rfl; omega
          · have := lo c2 e2 rfl; omega
          · have := lo c3 e3 rfl; omega
          · exact Nat.Coprime.mul_left hcop (po2.pow_left j)
          · exact Nat.Coprime.mul_left g11 ((pc c1 d1).pow_left j)
          · exact Nat.Coprime.mul_left g13 ((pc c3 d3).pow_left j)
          · exact Nat.Coprime.mul_left g10 ((pc c0 d0).pow_left j)
          · exact Nat.Coprime.mul_left g12 ((pc c2 d2).pow_left j)
        · have hdvd : o1 * p ^ j ∣ N := hcp.dvd_of_dvd_mul_right ⟨c0 ^ m * c2 ^ n * D, by rw [← hrel3]; simp only [Nat.mul_assoc]⟩
          have := Nat.le_of_dvd hN hdvd
          rw [_root_.if_neg (by omega)]
          exact l4_bad s _ _ p hp.1 hpB o2 j o1 ho1.1 ho1.2 (by omega) (by omega)
      · obtain ⟨j, hj⟩ : ∃ j, m * e1 + n * e3 = (m * e0 + n * e2) + j := ⟨_, (Nat.add_sub_cancel' (by omega)).symm⟩
        have ht : (m : Int) * e0 - m * e1 + n * e2 - n * e3 = -(j : Int) := by
          have a0 : ((m * e0 : Nat) : Int) = (m : Int) * e0 := by simp
          have a1 : ((m * e1 : Nat) : Int) = (m : Int) * e1 := by simp
          have a2 : ((n * e2 : Nat) : Int) = (n : Int) * e2 := by simp
          have a3 : ((n * e3 : Nat) : Int) = (n : Int) * e3 := by simp
          omega
        rw [ht]
        have hrel3 : o1 * c0 ^ m * c2 ^ n * D = N * (o2 * p ^ j * c1 ^ m * c3 ^ n) := by
          rw [hj, Nat.pow_add p (m * e0 + n * e2) j] at hrel2
          refine Nat.eq_of_mul_eq_mul_right (hpp (m * e0 + n * e2)) ?_
          rw [hrel2]
          generalize p ^ (m * e0 + n * e2) = A
          generalize p ^ j = B
          generalize c1 ^ m = A'
          generalize c3 ^ n = C'
          clear ih hev hround
          grind
        have hcp : Nat.Coprime (o2 * p ^ j) (o1 * c0 ^ m * c2 ^ n) :=
          Nat.Coprime.mul_left (Nat.Coprime.mul_right (Nat.Coprime.mul_right hcop.symm (g20.pow_right m)) (g22.pow_right n))
            (Nat.Coprime.pow_left j (Nat.Coprime.mul_right (Nat.Coprime.mul_right po1 ((pc c0 d0).pow_right m)) ((pc c2 d2).pow_right n)))
        refine l4_neg s _ _ p j o1 o2 _ ?_
        by_cases hfit : o2 * p ^ j ≤ 1000000000
        · refine l5_ok s _ _ p hp.1 o1 _ j o2 ho2.1 hfit (by omega) ?_
          refine ih c0 c1 c2 c3 o1 (o2 * p ^ j) hless ⟨z0, ?_⟩ ⟨z1, ?_⟩ ⟨z2, ?_⟩ ⟨z3, ?_⟩ ho1 ⟨Nat.mul_pos ho2.1 (hpp j), hfit⟩ hrel3 ?_ ⟨g11, g13, g10, g12⟩ ⟨?_, ?_, ?_, ?_⟩
          · have := lo c0 e0 rfl; omega
          · have := lo c1 e1 rfl; omega
          · have := lo c2 e2 rfl; omega
          · have := lo c3 e3 rfl; omega
          · exact Nat.Coprime.mul_right hcop (po1.symm.pow_right j)
          · exact Nat.Coprime.mul_left g20 ((pc c0 d0).pow_left j)
          · exact Nat.Coprime.mul_left g22 ((pc c2 d2).pow_left j)
          · exact Nat.Coprime.mul_left g21 ((pc c1 d1).pow_left j)
          · exact Nat.Coprime.mul_left g23 ((pc c3 d3).pow_left j)
        · have hdvd : o2 * p ^ j ∣ D := hcp.dvd_of_dvd_mul_left ⟨N * c1 ^ m * c3 ^ n, by rw [hrel3]; grind⟩
          have := Nat.le_of_dvd hD hdvd
          rw [_root_.if_neg (by omega)]
          exact l5_bad s _ _ p hp.1 hpB o1 j o2 ho2.1 ho2.2 (by omega) (by omega)
end Go.Proofs.Ytaplebckjbbobaa.FracMath
end
section
namespace Go.Proofs.Ytaplebckjbbobaa.FracMath
open Go.RowKit Go.Proofs.YtaplebckjbbobaaW.PrintWords Go.Proofs.YtaplebckjbbobaaW.PrintMore PFnExactMoveFraction
def sg (a : Int) (m : Nat) : Int := if a < 0 ∧ ¬ m % 2 = 0 then -1 else 1
theorem neg_pow_par (x : Int) : ∀ m : Nat, (-x) ^ m = (if m % 2 = 0 then 1 else -1) * x ^ m := by
  intro m
  induction m with
  | zero => simp
  | succ m ih =>
    rw [Int.pow_succ, Int.pow_succ, ih]
    by_cases h : m % 2 = 0
    · rw [_root_.if_pos h, _root_.if_neg (by omega)]; grind
    · rw [_root_.if_neg h, _root_.if_pos (by omega)]; grind
theorem pow_sg (a : Int) (m : Nat) : a ^ m = sg a m * ((a.natAbs ^ m : Nat) : Int) := by
  unfold sg
  rw [Int.natCast_pow]
  by_cases h : a < 0
  · obtain ⟨x, hx⟩ : ∃ x : Int, a = -x ∧ (a.natAbs : Int) = x := ⟨-a, by omega, by omega⟩
    rw [hx.2, hx.1, neg_pow_par]
    by_cases hm : m % 2 = 0
    · rw [_root_.if_pos hm, _root_.if_neg (by omega)]
    · rw [_root_.if_neg hm, _root_.if_pos ⟨by omega, hm⟩]
  · rw [_root_.if_neg (by omega), show (a.natAbs : Int) = a from by omega]; simp
theorem sg_or (a : Int) (m : Nat) : sg a m = 1 ∨ sg a m = -1 := by
  unfold sg; split <;> simp
theorem sg_pos {a : Int} (m : Nat) (h : 0 < a) : sg a m = 1 := by
  unfold sg; rw [_root_.if_neg (by omega)]
theorem l0_step (s : Int) (hs : s = 1 ∨ s = -1) (L P : List Int) (i m : Nat) (hi : i < 4) (hl : i < L.length) (hp : i < P.length) (hP : rd P i = m ∨ (rd P i = -(m : Int) ∧ 0 < rd L i)) (hL : (rd L i).natAbs ≤ 1000000000) (o1 o2 : Int) (r : Int × Int × Bool)
    (h : Ev (fun k => spec_l10Product.l0 k (s * sg (rd L i) m) (L.set i ((rd L i).natAbs : Int)) P ((i + 1 : Nat) : Int) o1 o2) r) : Ev (fun k => spec_l10Product.l0 k s L P i o1 o2) r := by
  have hself : 0 ≤ rd L i → L.set i ((rd L i).natAbs : Int) = L := fun h0 => by
    rw [rd_nat] at *
    apply List.ext_getElem?
    intro q
    by_cases hq : q = i
    · subst hq
      rw [List.getElem?_set_self hl, List.getElem?_eq_getElem hl]
      simp [List.getD, hl] at h0 ⊢; omega
    · rw [List.getElem?_set_ne (Ne.symm hq)]
  by_cases hneg : rd L i < 0
  · have hP' : rd P i = m := hP.resolve_right (by omega)
    have hs1 : wrap64 (-(rd L i)) = ((rd L i).natAbs : Int) := by rw [w64' (by omega) (by omega)]; omega
    have htm : Int.tmod (rd P i) 2 = ((m % 2 : Nat) : Int) := by rw [hP']; exact tmod_nat m 2
    have hs2 : wrap64 (-s) = -s := w64' (by omega) (by omega)
    refine Ev.to (fun k => ?_) h
    simp only [spec_l10Product.l0]
    rw [_root_.if_pos (by omega), _root_.if_pos (by omega), _root_.if_pos (by omega), _root_.if_pos hneg]
    simp only [Option.bind_some]
    rw [_root_.if_pos (by omega), htm, hs1, w64' (a := (i : Int) + 1) (by omega) (by omega), hs2, Int.toNat_natCast]
    unfold sg
    by_cases hm2 : m % 2 = 0
    · rw [_root_.if_pos (by omega), _root_.if_neg (by omega)]; simp
    · rw [_root_.if_neg (by omega), _root_.if_pos ⟨hneg, hm2⟩]; simp
  · refine Ev.to (fun k => ?_) h
    simp only [spec_l10Product.l0]
    rw [_root_.if_pos (by omega), _root_.if_pos (by omega), _root_.if_pos (by omega), _root_.if_neg hneg, w64' (a := (i : Int) + 1) (by omega) (by omega), hself (by omega)]
    unfold sg
    rw [_root_.if_neg (by omega)]; simp
theorem pow_pos' {a : Int} (h : 0 < a) (m : Nat) : 0 < a ^ m := Int.pow_pos h
theorem sign_rel {sa sb N C A B D : Int} (ha : sa = 1 ∨ sa = -1) (hb : sb = 1 ∨ sb = -1) (h : N * C = sa * A * (sb * B) * D) : sa * sb * N * C = A * B * D := by
  rcases ha with rfl | rfl <;> rcases hb with rfl | rfl <;> grind
theorem product_ev (a0 a1 b0 b1 : Int) (m n : Nat) (ha : Fr a0 a1) (hb : Fr b0 b1) (pa : 0 < a1) (pb : 0 < b1) (hm : m ≤ 20) (hn : n ≤ 20) (hm1 : 1 ≤ m) (hn1 : 1 ≤ n)
    (N D : Int) (hD : 0 < D) (hND : Int.gcd N D = 1) (hrel : N * (a1 ^ m * b1 ^ n) = a0 ^ m * b0 ^ n * D) :
    Ev (fun k => spec_l10Product.f k a0 a1 m b0 b1 n) (if N.natAbs ≤ 1000000000 ∧ D ≤ 1000000000 then (N, D, true) else (0, 0, false)) := by
  have qa := pow_pos' pa m
  have qb := pow_pos' pb n
  have hzero : a0 = 0 ∨ b0 = 0 → N = 0 ∧ D = 1 := by
    intro hz
    have h0 : N * (a1 ^ m * b1 ^ n) = 0 := by
      rw [hrel]
      rcases hz with rfl | rfl
      · rw [Int.zero_pow (by omega)]; simp
      · rw [Int.zero_pow (by omega)]; simp
    have hN : N = 0 := by
      rcases Int.mul_eq_zero.1 h0 with h | h
      · exact h
      · have := Int.mul_pos qa qb; omega
    refine ⟨hN, ?_⟩
    subst hN
    simp [Int.gcd] at hND; omega
  unfold spec_l10Product.f
  have hwm : wrap64 (-(m : Int)) = -(m : Int) := w64' (by omega) (by omega)
  have hwn : wrap64 (-(n : Int)) = -(n : Int) := w64' (by omega) (by omega)
  by_cases za : a0 = 0
  · obtain ⟨rfl, rfl⟩ := hzero (.inl za)
    rw [_root_.if_pos (by decide)]
    refine Ev.if_pos za (Ev.to (f := fun _ => some (0, 1, true)) (fun k => ?_) (Ev.now _))
    simp only [spec_l10Product.j0, if_true]
  · refine Ev.if_neg za ?_
    by_cases zb : b0 = 0
    · obtain ⟨rfl, rfl⟩ := hzero (.inr zb)
      rw [_root_.if_pos (by decide)]
      refine Ev.to (f := fun _ => some (0, 1, true)) (fun k => ?_) (Ev.now _)
      simp only [spec_l10Product.j0, zb, beq_self_eq_true, if_true]
    · have hA := ha
      have hB := hb
      obtain ⟨a_1, a_2, a_3, a_4, a_5, _⟩ := ha
      obtain ⟨b_1, b_2, b_3, b_4, b_5, _⟩ := hb
      have sa := pow_sg a0 m
      have sb := pow_sg b0 n
      have hsor : sg a0 m * sg b0 n = 1 ∨ sg a0 m * sg b0 n = -1 := by
        rcases sg_or a0 m with h | h <;> rcases sg_or b0 n with h' | h' <;> rw [h, h'] <;> simp
      have na : 0 < a0.natAbs ^ m := Nat.pow_pos (by omega)
      have nb : 0 < b0.natAbs ^ n := Nat.pow_pos (by omega)
      have hrel1 : (sg a0 m * sg b0 n * N) * (a1 ^ m * b1 ^ n) = ((a0.natAbs ^ m : Nat) : Int) * ((b0.natAbs ^ n : Nat) : Int) * D := by
        rw [sa, sb] at hrel
        exact sign_rel (sg_or a0 m) (sg_or b0 n) hrel
      generalize hs : sg a0 m * sg b0 n = s at *
      have hpos : 0 < s * N := by
        have h1 : 0 < ((a0.natAbs ^ m : Nat) : Int) * ((b0.natAbs ^ n : Nat) : Int) * D := Int.mul_pos (Int.mul_pos (by omega) (by omega)) hD
        rw [← hrel1] at h1
        exact Int.pos_of_mul_pos_left h1 (Int.mul_pos qa qb)
      have hsN : s * N = (N.natAbs : Int) := by
        rcases hsor with h | h <;> rw [h] at hpos ⊢ <;> omega
      have hN2 : s * (N.natAbs : Int) = N := by
        rcases hsor with h | h <;> rw [h] at hpos ⊢ <;> omega
      refine Ev.to (f := fun k => spec_l10Product.l0 k 1 [a0, a1, b0, b1] [(m : Int), -m, n, -n] ((0 : Nat) : Int) 1 1) (fun k => ?_) ?_
      · simp only [spec_l10Product.j0]
        rw [_root_.if_neg (by simpa using zb), hwm, hwn]; rfl
      refine l0_step 1 (.inl rfl) _ _ 0 m (by omega) (by simp) (by simp) (.inl rfl) (by simp [rd]; omega) 1 1 _ ?_
      refine l0_step _ (by simpa using sg_or _ _) _ _ 1 m (by omega) (by simp) (by simp) (.inr ⟨rfl, by simpa [rd] using pa⟩) (by simp [rd]; omega) 1 1 _ ?_
      refine l0_step _ (by simpa [rd, sg_pos m pa] using sg_or _ _) _ _ 2 n (by omega) (by simp) (by simp) (.inl rfl) (by simp [rd]; omega) 1 1 _ ?_
      refine l0_step _ (by simpa [rd, sg_pos m pa, hs] using hsor) _ _ 3 n (by omega) (by simp) (by simp) (.inr ⟨rfl, by simpa [rd] using pb⟩) (by simp [rd]; omega) 1 1 _ ?_
      have hfin := product_l1 s hsor m n hm hn N.natAbs D.natAbs (by omega) (by rcases hsor with h | h <;> rw [h] at hpos <;> omega) hND (a0.natAbs + a1.natAbs + b0.natAbs + b1.natAbs) a0.natAbs a1.natAbs b0.natAbs b1.natAbs 1 1 (Nat.le_refl _) (by omega) (by omega) (by omega) (by omega) (by omega) (by omega)
        (by
          have h1 : (N.natAbs : Int) * ((a1.natAbs ^ m : Nat) * (b1.natAbs ^ n : Nat) : Nat) = ((a0.natAbs ^ m * b0.natAbs ^ n * D.natAbs : Nat) : Int) := by
            rw [← hsN]
            have e1 : ((a1.natAbs : Nat) : Int) = a1 := by omega
            have e2 : ((b1.natAbs : Nat) : Int) = b1 := by omega
            have e3 : ((D.natAbs : Nat) : Int) = D := by omega
            rw [Int.natCast_mul, Int.natCast_pow, Int.natCast_pow, e1, e2, hrel1]
            rw [Int.natCast_mul, Int.natCast_mul, e3]
          have h2 : N.natAbs * (a1.natAbs ^ m * b1.natAbs ^ n) = a0.natAbs ^ m * b0.natAbs ^ n * D.natAbs := by
            rw [← Int.natCast_mul] at h1; exact Int.ofNat.inj h1
          rw [Nat.one_mul, Nat.one_mul]; exact h2.symm)
        (Nat.coprime_one_left 1) ⟨Nat.coprime_one_left _, Nat.coprime_one_left _, Nat.coprime_one_left _, Nat.coprime_one_left _⟩ ⟨Nat.coprime_one_left _, Nat.coprime_one_left _, Nat.coprime_one_left _, Nat.coprime_one_left _⟩
      rw [hN2, show ((D.natAbs : Nat) : Int) = D from by omega] at hfin
      have hcond : (N.natAbs ≤ 1000000000 ∧ D.natAbs ≤ 1000000000) = (N.natAbs ≤ 1000000000 ∧ D ≤ 1000000000) := by
        apply propext; omega
      simp only [hcond] at hfin
      refine Ev.to (fun k => ?_) hfin
      simp only [spec_l10Product.l0]
      rw [_root_.if_neg (by omega)]
      simp only [List.set_cons_zero, List.set_cons_succ]
      have r0 : ∀ x0 x1 x2 x3 : Int, rd [x0, x1, x2, x3] ((0 : Nat) : Int) = x0 := fun _ _ _ _ => rfl
      have r1 : ∀ x0 x1 x2 x3 : Int, rd [x0, x1, x2, x3] ((1 : Nat) : Int) = x1 := fun _ _ _ _ => rfl
      have r2 : ∀ x0 x1 x2 x3 : Int, rd [x0, x1, x2, x3] ((2 : Nat) : Int) = x2 := fun _ _ _ _ => rfl
      have r3 : ∀ x0 x1 x2 x3 : Int, rd [x0, x1, x2, x3] ((3 : Nat) : Int) = x3 := fun _ _ _ _ => rfl
      simp only [r0, r1, r2, r3, sg_pos m pa, sg_pos n pb, Int.one_mul, Int.mul_one, hs]
      rfl
end Go.Proofs.Ytaplebckjbbobaa.FracMath
end
section
namespace Go.Proofs.Ytaplebckjbbobaa.FracMath
open Go.RowKit Go.Proofs.YtaplebckjbbobaaW.PrintWords Go.Proofs.YtaplebckjbbobaaW.PrintMore PFnExactMoveFraction
theorem pow_mul_le {a b s M : Nat} (hs : 2 ≤ s) (hb : 0 < b) (h : (a * b) ^ s ≤ b ^ s * M) : a * a ≤ M ∨ a = 0 := by
  rcases Nat.eq_zero_or_pos a with h0 | h0
  · exact .inr h0
  · left
    rw [Nat.mul_pow, Nat.mul_comm] at h
    have h1 := Nat.le_of_mul_le_mul_left h (Nat.pow_pos hb)
    have h2 : a ^ 2 ≤ a ^ s := Nat.pow_le_pow_right h0 hs
    rw [Nat.pow_two] at h2; omega
theorem lim_ok (P R Q f l N D : Nat) (hf : 1 ≤ f ∧ f ≤ 20) (hl : 1 ≤ l ∧ l ≤ 20) (hQ : 0 < Q) (hP : 0 < P) (hR : 0 < R) (hN : 0 < N) (hD : 0 < D)
    (c1 : Nat.Coprime Q P) (c2 : Nat.Coprime Q R) (h1 : P ≤ R + Q) (h2 : R ≤ P + Q)
    (hrel : N * (Q ^ (f + l) * (f ^ f * l ^ l)) = P ^ f * R ^ l * (f + l) ^ (f + l) * D) (bN : N ≤ 1000000000) (bD : D ≤ 1000000000) :
    Q ≤ 1264920 ∧ P < 25000000 ∧ R < 25000000 := by
  have hs : 0 < (f + l) ^ (f + l) := Nat.pow_pos (by omega)
  have hQ1 : Q ≤ 31623 * (f + l) := by
    rcases Nat.lt_or_ge (31623 * (f + l)) Q with h | h
    · exfalso
      have hcop : Nat.Coprime (Q ^ (f + l)) (P ^ f * R ^ l) := Nat.Coprime.mul_right (Nat.Coprime.pow _ _ c1) (Nat.Coprime.pow _ _ c2)
      have hd : Q ^ (f + l) ∣ P ^ f * R ^ l * ((f + l) ^ (f + l) * D) := ⟨N * (f ^ f * l ^ l), by rw [← Nat.mul_assoc, ← hrel, Nat.mul_left_comm]⟩
      have hd2 := hcop.dvd_of_dvd_mul_left hd
      have hle := Nat.le_of_dvd (Nat.mul_pos hs hD) hd2
      have h3 : (31623 * (f + l)) ^ (f + l) ≤ Q ^ (f + l) := Nat.pow_le_pow_left (by omega) _
      have h4 : (f + l) ^ (f + l) * D ≤ (f + l) ^ (f + l) * 1000000000 := Nat.mul_le_mul_left _ bD
      rcases pow_mul_le (s := f + l) (by omega) (by omega) (Nat.le_trans h3 (Nat.le_trans hle h4)) with h5 | h5 <;> omega
    · exact h
  have hQ2 : Q ≤ 1264920 := by omega
  have hle : P ^ f * R ^ l ≤ 1000000000 * (20 ^ f * 20 ^ l) := by
    have hcop : Nat.Coprime (P ^ f * R ^ l) (Q ^ (f + l)) := Nat.Coprime.mul_left (Nat.Coprime.pow _ _ c1.symm) (Nat.Coprime.pow _ _ c2.symm)
    have hd : P ^ f * R ^ l ∣ Q ^ (f + l) * (N * (f ^ f * l ^ l)) := ⟨(f + l) ^ (f + l) * D, by rw [← Nat.mul_assoc (P ^ f * R ^ l), ← hrel, Nat.mul_left_comm]⟩
    have hd2 := hcop.dvd_of_dvd_mul_left hd
    have hff : 0 < f ^ f * l ^ l := Nat.mul_pos (Nat.pow_pos (by omega)) (Nat.pow_pos (by omega))
    have h3 := Nat.le_of_dvd (Nat.mul_pos hN hff) hd2
    exact Nat.le_trans h3 (Nat.mul_le_mul bN (Nat.mul_le_mul (Nat.pow_le_pow_left hf.2 f) (Nat.pow_le_pow_left hl.2 l)))
  have hbig : 20000000 ≤ P → 20000000 ≤ R → False := by
    intro a b
    have h3 : 20000000 ^ f * 20000000 ^ l ≤ P ^ f * R ^ l := Nat.mul_le_mul (Nat.pow_le_pow_left a f) (Nat.pow_le_pow_left b l)
    rw [← Nat.pow_add] at h3 hle
    have h4 : (1000000 * 20) ^ (f + l) ≤ 20 ^ (f + l) * 1000000000 := by
      rw [Nat.mul_comm (20 ^ (f + l))]
      exact Nat.le_trans h3 hle
    rcases pow_mul_le (s := f + l) (by omega) (by omega) h4 with h5 | h5 <;> omega
  refine ⟨hQ2, ?_, ?_⟩
  · rcases Nat.lt_or_ge P 25000000 with h | h
    · exact h
    · exact (hbig (by omega) (by omega)).elim
  · rcases Nat.lt_or_ge R 25000000 with h | h
    · exact h
    · exact (hbig (by omega) (by omega)).elim
def Mv (m0 m1 m2 : Int) : Prop := (m0 = 2 ∧ 1 ≤ m1 ∧ m1 ≤ 20 ∧ 1 ≤ m2 ∧ m2 ≤ 20) ∨ ((m0 = 0 ∨ m0 = 1) ∧ m1 = 0 ∧ m2 = 0)
instance (a b c : Int) : Decidable (Mv a b c) := by unfold Mv; infer_instance
def mvXY (m0 m1 m2 p q : Int) : Int × Int :=
  if m0 = 2 then (if q = 0 then (1, 0) else ((p * (m1 + m2)) ^ m1.toNat * ((q - p) * (m1 + m2)) ^ m2.toNat, (q * m1) ^ m1.toNat * (q * m2) ^ m2.toNat))
  else if m0 = 1 then (if q = 0 then (0, 1) else if p = 0 then (1, 0) else if p < 0 then (-q, -p) else (q, p))
  else (if q = 0 then (1, 0) else (q - p, q))
structure IsVal (m0 m1 m2 p q N D : Int) : Prop where
  cop : Int.gcd N D = 1
  nonneg : 0 ≤ D
  inf : D = 0 → N = 1
  rel : N * (mvXY m0 m1 m2 p q).2 = (mvXY m0 m1 m2 p q).1 * D
theorem xy_pos (m0 m1 m2 p q : Int) (hm : Mv m0 m1 m2) (hx : Fr p q) : 0 < (mvXY m0 m1 m2 p q).2 ∨ mvXY m0 m1 m2 p q = (1, 0) := by
  obtain ⟨_, _, hq, _, _, hqp⟩ := hx
  unfold mvXY
  by_cases h2 : m0 = 2
  · rw [if_pos h2]
    by_cases h : q = 0
    · rw [if_pos h]; exact .inr rfl
    · rw [if_neg h]
      rcases hm with ⟨_, a, _, b, _⟩ | ⟨h0, _⟩
      · exact .inl (Int.mul_pos (Int.pow_pos (Int.mul_pos (by omega) (by omega))) (Int.pow_pos (Int.mul_pos (by omega) (by omega))))
      · omega
  · rw [if_neg h2]
    by_cases h1 : m0 = 1
    · rw [if_pos h1]
      by_cases h : q = 0
      · rw [if_pos h]; exact .inl (by decide)
      · rw [if_neg h]
        by_cases hp : p = 0
        · rw [if_pos hp]; exact .inr rfl
        · rw [if_neg hp]
          by_cases hp2 : p < 0
          · rw [if_pos hp2]; exact .inl (by show 0 < -p; omega)
          · rw [if_neg hp2]; exact .inl (by show 0 < p; omega)
    · rw [if_neg h1]
      by_cases h : q = 0
      · rw [if_pos h]; exact .inr rfl
      · rw [if_neg h]; exact .inl (by show 0 < q; omega)
theorem val_exists (m0 m1 m2 p q : Int) (hm : Mv m0 m1 m2) (hx : Fr p q) : ∃ N D, IsVal m0 m1 m2 p q N D := by
  rcases xy_pos m0 m1 m2 p q hm hx with h | h
  · obtain ⟨N, D, h1, h2, h3⟩ := exists_red (mvXY m0 m1 m2 p q).1 (mvXY m0 m1 m2 p q).2 h
    exact ⟨N, D, h2, by omega, by omega, h3⟩
  · exact ⟨1, 0, by decide, by omega, fun _ => rfl, by rw [h]⟩
theorem val_unique {m0 m1 m2 p q N D N' D' : Int} (hm : Mv m0 m1 m2) (hx : Fr p q) (h : IsVal m0 m1 m2 p q N D) (h' : IsVal m0 m1 m2 p q N' D') : N = N' ∧ D = D' := by
  rcases xy_pos m0 m1 m2 p q hm hx with hp | hp
  · have pos : ∀ N D, IsVal m0 m1 m2 p q N D → 0 < D := fun N D h => by
      rcases Int.lt_or_eq_of_le h.nonneg with hd | hd
      · exact hd
      · have hr := h.rel
        rw [h.inf hd.symm, ← hd] at hr
        simp at hr; omega
    refine int_red_unique h.cop h'.cop (pos _ _ h) (pos _ _ h') ?_
    have r1 := h.rel
    have r2 := h'.rel
    refine Int.eq_of_mul_eq_mul_right (a := (mvXY m0 m1 m2 p q).2) (by omega) ?_
    generalize (mvXY m0 m1 m2 p q).1 = X at *
    generalize (mvXY m0 m1 m2 p q).2 = Y at *
    grind
  · have z : ∀ N D, IsVal m0 m1 m2 p q N D → N = 1 ∧ D = 0 := fun N D h => by
      have hr := h.rel
      rw [hp] at hr
      have hD : D = 0 := by simp at hr; omega
      exact ⟨h.inf hD, hD⟩
    have a := z _ _ h
    have b := z _ _ h'
    omega
def Fits (N D : Int) : Prop := N.natAbs ≤ 1000000000 ∧ D ≤ 1000000000
instance (N D : Int) : Decidable (Fits N D) := by unfold Fits; infer_instance
theorem fr_of_val {m0 m1 m2 p q N D : Int} (h : IsVal m0 m1 m2 p q N D) (hf : Fits N D) : Fr N D := by
  unfold Fits at hf
  refine ⟨by omega, by omega, h.nonneg, hf.2, h.cop, ?_⟩
  rcases Int.lt_or_eq_of_le h.nonneg with hd | hd
  · exact .inl hd
  · exact .inr (h.inf hd.symm)
end Go.Proofs.Ytaplebckjbbobaa.FracMath
end
section
set_option linter.unusedSimpArgs false
namespace Go.Proofs.Ytaplebckjbbobaa.Fl
open FracMath (Fr int_red_unique)
abbrev FR (x : F2) : Prop := Fr x.1 x.2
def Lt (x y : F2) : Prop := cmpF x y < 0
theorem fr_inf {x : F2} (h : FR x) (h0 : x.2 = 0) : x = (1, 0) := by
  obtain ⟨_, _, _, _, _, h6⟩ := h
  have : x.1 = 1 := by omega
  exact Prod.ext this h0
theorem lt_iff {x y : F2} : Lt x y ↔ x ≠ y ∧ x.2 ≠ 0 ∧ (y.2 = 0 ∨ x.1 * y.2 < y.1 * x.2) := by
  unfold Lt cmpF
  by_cases h1 : x = y
  · simp [h1]
  · by_cases h2 : x.2 = 0
    · simp [h1, h2]
    · by_cases h3 : y.2 = 0 ∨ x.1 * y.2 < y.1 * x.2
      · simp [h1, h2, h3]
      · simp [h1, h2, h3]
theorem fr_pos {x : F2} (h : FR x) (h0 : x.2 ≠ 0) : 0 < x.2 := by
  obtain ⟨_, _, h3, _⟩ := h
  omega
theorem lt_trans {x y z : F2} (hx : FR x) (hy : FR y) (hz : FR z) (h1 : Lt x y) (h2 : Lt y z) : Lt x z := by
  rw [lt_iff] at h1 h2 ⊢
  obtain ⟨a1, a2, a3⟩ := h1
  obtain ⟨b1, b2, b3⟩ := h2
  have px := fr_pos hx a2
  have py := fr_pos hy b2
  by_cases hz0 : z.2 = 0
  · exact ⟨fun e => a2 (by rw [e]; exact hz0), a2, .inl hz0⟩
  · have pz := fr_pos hz hz0
    have c1 : x.1 * y.2 < y.1 * x.2 := by rcases a3 with h | h; exact absurd h b2; exact h
    have c2 : y.1 * z.2 < z.1 * y.2 := by rcases b3 with h | h; exact absurd h hz0; exact h
    have d1 : x.1 * y.2 * z.2 < y.1 * x.2 * z.2 := Int.mul_lt_mul_of_pos_right c1 pz
    have d2 : y.1 * z.2 * x.2 < z.1 * y.2 * x.2 := Int.mul_lt_mul_of_pos_right c2 px
    have d3 : y.2 * (x.1 * z.2) < y.2 * (z.1 * x.2) := by
      have e1 : x.1 * y.2 * z.2 = y.2 * (x.1 * z.2) := by grind
      have e2 : y.1 * x.2 * z.2 = y.1 * z.2 * x.2 := by grind
      have e3 : z.1 * y.2 * x.2 = y.2 * (z.1 * x.2) := by grind
      omega
    have d4 : x.1 * z.2 < z.1 * x.2 := Int.lt_of_mul_lt_mul_left d3 (by omega)
    refine ⟨fun e => ?_, a2, .inr d4⟩
    subst e
    omega
theorem lt_irrefl (x : F2) : ¬ Lt x x := by rw [lt_iff]; intro h; exact h.1 rfl
theorem lt_total {x y : F2} (hx : FR x) (hy : FR y) (hne : x ≠ y) : Lt x y ∨ Lt y x := by
  rw [lt_iff, lt_iff]
  by_cases h1 : x.2 = 0
  · right
    refine ⟨hne.symm, fun h2 => hne ((fr_inf hx h1).trans (fr_inf hy h2).symm), .inl h1⟩
  · by_cases h2 : y.2 = 0
    · exact .inl ⟨hne, h1, .inl h2⟩
    · rcases Int.lt_trichotomy (x.1 * y.2) (y.1 * x.2) with h | h | h
      · exact .inl ⟨hne, h1, .inr h⟩
      · have := int_red_unique hx.2.2.2.2.1 hy.2.2.2.2.1 (fr_pos hx h1) (fr_pos hy h2) h
        exact absurd (Prod.ext this.1 this.2) hne
      · exact .inr ⟨hne.symm, h2, .inr h⟩
theorem lt_asymm {x y : F2} (hx : FR x) (hy : FR y) (h : Lt x y) : ¬ Lt y x := fun k => lt_irrefl x (lt_trans hx hy hx h k)
def Asc (L : List F2) : Prop := (∀ x ∈ L, FR x) ∧ L.Pairwise Lt
theorem asc_unique : ∀ (L M : List F2), Asc L → Asc M → (∀ x, x ∈ L ↔ x ∈ M) → L = M
  | [], [], _, _, _ => rfl
  | [], y :: M, _, _, h => absurd ((h y).2 (by simp)) (by simp)
  | x :: L, [], _, _, h => absurd ((h x).1 (by simp)) (by simp)
  | x :: L, y :: M, hL, hM, h => by
    obtain ⟨fL, pL⟩ := hL
    obtain ⟨fM, pM⟩ := hM
    have pL' := List.pairwise_cons.1 pL
    have pM' := List.pairwise_cons.1 pM
    have hxy : x = y := by
      apply Classical.byContradiction
      intro hne
      have h1 : x ∈ y :: M := (h x).1 (by simp)
      have h2 : y ∈ x :: L := (h y).2 (by simp)
      have h3 : x ∈ M := by simpa [hne] using h1
      have h4 : y ∈ L := by simpa [Ne.symm hne] using h2
      exact lt_asymm (fL x (by simp)) (fM y (by simp)) (pL'.1 y h4) (pM'.1 x h3)
    subst hxy
    have ht : L = M := by
      refine asc_unique L M ⟨fun z hz => fL z (by simp [hz]), pL'.2⟩ ⟨fun z hz => fM z (by simp [hz]), pM'.2⟩ fun z => ?_
      constructor
      · intro hz
        have := (h z).1 (by simp [hz])
        rcases List.mem_cons.1 this with e | e
        · subst e; exact absurd (pL'.1 z hz) (lt_irrefl z)
        · exact e
      · intro hz
        have := (h z).2 (by simp [hz])
        rcases List.mem_cons.1 this with e | e
        · subst e; exact absurd (pM'.1 z hz) (lt_irrefl z)
        · exact e
    rw [ht]
theorem ins_asc {O : List F2} {x : F2} (hO : Asc O) (hx : FR x) (k : Nat) (hk : k ≤ O.length) (hb : ∀ (i : Nat) (y : F2), i < k → O[i]? = some y → Lt y x) (ha : ∀ y, O[k]? = some y → ¬ Lt y x ∧ y ≠ x) :
    Asc (O.take k ++ x :: O.drop k) := by
  obtain ⟨fO, pO⟩ := hO
  have hsub : ∀ y ∈ O.take k, Lt y x := fun y hy => by
    obtain ⟨i, hi⟩ := List.getElem?_of_mem hy
    have hik : i < k := by
      have := (List.getElem?_eq_some_iff.1 hi).1
      simp at this; omega
    rw [List.getElem?_take_of_lt hik] at hi
    exact hb i y hik hi
  have hp := pO
  rw [← List.take_append_drop k O, List.pairwise_append] at hp
  obtain ⟨p1, p2, p3⟩ := hp
  have hafter : ∀ z ∈ O.drop k, Lt x z := by
    intro z hz
    have hkl : k < O.length := by
      rcases Nat.lt_or_ge k O.length with h | h
      · exact h
      · rw [List.drop_eq_nil_of_le h] at hz; simp at hz
    rw [List.drop_eq_getElem_cons hkl] at hz p2
    have hy := ha O[k] (by simp [hkl])
    have fy : FR O[k] := fO _ (List.getElem_mem hkl)
    have hxy : Lt x O[k] := (lt_total fy hx hy.2).resolve_left hy.1
    rcases List.mem_cons.1 hz with e | e
    · rw [e]; exact hxy
    · exact lt_trans hx fy (fO z (List.mem_of_mem_drop e)) hxy ((List.pairwise_cons.1 p2).1 z e)
  refine ⟨fun z hz => ?_, ?_⟩
  · rcases List.mem_append.1 hz with h | h
    · exact fO z (List.mem_of_mem_take h)
    · rcases List.mem_cons.1 h with e | e
      · rw [e]; exact hx
      · exact fO z (List.mem_of_mem_drop e)
  · rw [List.pairwise_append]
    refine ⟨p1, List.pairwise_cons.2 ⟨hafter, p2⟩, fun a ha' b hb' => ?_⟩
    rcases List.mem_cons.1 hb' with e | e
    · rw [e]; exact hsub a ha'
    · exact p3 a ha' b e
theorem ins_mem {O : List F2} {x : F2} (k : Nat) (z : F2) : z ∈ O.take k ++ x :: O.drop k ↔ z ∈ O ∨ z = x := by
  have : z ∈ O ↔ z ∈ O.take k ∨ z ∈ O.drop k := by
    rw [← List.mem_append, List.take_append_drop]
  rw [List.mem_append, List.mem_cons, this]
  constructor
  · rintro (h | h | h)
    · exact .inl (.inl h)
    · exact .inr h
    · exact .inl (.inr h)
  · rintro ((h | h) | h)
    · exact .inl h
    · exact .inr (.inr h)
    · exact .inr (.inl h)
end Go.Proofs.Ytaplebckjbbobaa.Fl
end
section
set_option linter.unusedSimpArgs false
namespace Go.Proofs.Ytaplebckjbbobaa.Fl
open FracMath (Fr)
def Srt (L : List F2) : Prop := L.Pairwise fun a b => ¬ Lt b a
structure Mid (L0 M : List F2) (A : List F2) (v : F2) (B C : List F2) : Prop where
  eq : M = A ++ v :: (B ++ C)
  srt : Srt (A ++ B)
  big : ∀ b ∈ B, Lt v b
  perm : M.Perm L0
theorem Mid.start {L0 M : List F2} {k : Nat} {v : F2} (hk : M[k]? = some v) (hs : Srt (M.take k)) (hp : M.Perm L0) : Mid L0 M (M.take k) v [] (M.drop (k + 1)) := by
  obtain ⟨hl, he⟩ := List.getElem?_eq_some_iff.1 hk
  refine ⟨?_, by simpa using hs, fun b hb => by simp at hb, hp⟩
  rw [List.nil_append, ← he, ← List.drop_eq_getElem_cons hl, List.take_append_drop]
theorem Mid.down {L0 M A : List F2} {u v : F2} {B C : List F2} (h : Mid L0 M (A ++ [u]) v B C) (hlt : Lt v u) : Mid L0 (A ++ v :: (u :: B ++ C)) A v (u :: B) C := by
  refine ⟨rfl, by have := h.srt; rwa [List.append_assoc] at this, fun b hb => ?_, ?_⟩
  · rcases List.mem_cons.1 hb with e | e
    · rw [e]; exact hlt
    · exact h.big b e
  · refine List.Perm.trans ?_ h.perm
    rw [h.eq, List.append_assoc]
    exact List.Perm.append_left A (by simpa using List.Perm.swap u v (B ++ C))
theorem Mid.done {L0 M A : List F2} {v : F2} {B C : List F2} (hf : ∀ x ∈ M, FR x) (h : Mid L0 M A v B C) (hA : A = [] ∨ ∃ A' u, A = A' ++ [u] ∧ ¬ Lt v u) : Srt (M.take (A.length + 1 + B.length)) := by
  have ht : M.take (A.length + 1 + B.length) = A ++ v :: B := by
    rw [h.eq]
    have : A ++ v :: (B ++ C) = (A ++ v :: B) ++ C := by simp
    rw [this]
    exact List.take_left' (by simp; omega)
  rw [ht]
  have fm : ∀ x, x ∈ A ∨ x = v ∨ x ∈ B → FR x := fun x hx => hf x (by rw [h.eq]; simp; rcases hx with h | h | h <;> simp [h])
  have hs := h.srt
  unfold Srt at hs ⊢
  rw [List.pairwise_append] at hs ⊢
  obtain ⟨p1, p2, p3⟩ := hs
  refine ⟨p1, List.pairwise_cons.2 ⟨fun b hb => lt_asymm (fm v (.inr (.inl rfl))) (fm b (.inr (.inr hb))) (h.big b hb), p2⟩, fun a ha b hb => ?_⟩
  rcases List.mem_cons.1 hb with e | e
  · subst e
    rcases hA with hA | ⟨A', u, hA, hu⟩
    · rw [hA] at ha; simp at ha
    · rw [hA] at ha p1
      rcases List.mem_append.1 ha with h' | h'
      · have hau := (List.pairwise_append.1 p1).2.2 a h' u (by simp)
        intro hba
        have fu : FR u := fm u (.inl (by rw [hA]; simp))
        have fa : FR a := fm a (.inl (by rw [hA]; simp [h']))
        have fb : FR b := fm b (.inr (.inl rfl))
        by_cases e : u = b
        · exact hau (e ▸ hba)
        · rcases lt_total fb fu (Ne.symm e) with k | k
          · exact hu k
          · exact hau (lt_trans fu fb fa k hba)
      · have : a = u := by simpa using h'
        rw [this]; exact hu
  · exact p3 a ha b e
end Go.Proofs.Ytaplebckjbbobaa.Fl
end
section
set_option linter.unusedSimpArgs false
namespace Go.Proofs.Ytaplebckjbbobaa.Fl
open Go.RowKit Bs Grd
open FracMath (Fr)
structure Kp (g : Nat) (w w' : World) : Prop where
  os : w'.os = w.os
  tape : w'.tape = w.tape
  output : w'.output = w.output
  size : w.heap.size ≤ w'.heap.size
  block : ∀ b, b < w.heap.size → b ≠ g → w'.heap[b]? = w.heap[b]?
theorem Kp.refl (g : Nat) (w : World) : Kp g w w := ⟨rfl, rfl, rfl, Nat.le_refl _, fun _ _ _ => rfl⟩
theorem Kp.set {g : Nat} {w w' : World} (h : Kp g w w') (i : Nat) (v : Value) : Kp g w (w'.setCell ⟨g, i, none⟩ v) :=
  ⟨h.os, h.tape, h.output, by simpa using h.size, fun b hb hne => (Below.heap_setCell _ _ _ b hne).trans (h.block b hb hne)⟩
theorem Kp.drew {g : Nat} {w w' : World} (h : Kp g w w') : Kp g w w'.drew := ⟨h.os, h.tape, h.output, h.size, h.block⟩
theorem Kp.drewN {g : Nat} {w w' : World} (h : Kp g w w') (n : Nat) : Kp g w (w'.drewN n) := ⟨h.os, h.tape, h.output, h.size, h.block⟩
theorem Kp.below {g : Nat} {w w' w2 : World} (h : Kp g w w') (hb : Below w'.heap.size w' w2) : Kp g w w2 :=
  ⟨hb.os.trans h.os, hb.tape.trans h.tape, hb.output.trans h.output, Nat.le_trans h.size hb.size, fun b hlt hne => (hb.block b (Nat.lt_of_lt_of_le hlt h.size)).trans (h.block b hlt hne)⟩
theorem Kp.under {g base : Nat} {w w' : World} (h : Kp g w w') (hg : base ≤ g) (hs : base ≤ w.heap.size) : Below base w w' :=
  ⟨h.os, h.tape, h.output, h.size, fun b hb => h.block b (by omega) (by omega)⟩
theorem FRow.drewN {w : World} {g : Nat} {L : List F2} (h : FRow w g L) (n : Nat) : FRow (w.drewN n) g L := h.same rfl
theorem FRow.drew {w : World} {g : Nat} {L : List F2} (h : FRow w g L) : FRow w.drew g L := h.same rfl
theorem Kp.trans {g : Nat} {a b c : World} (h : Kp g a b) (k : Kp g b c) : Kp g a c :=
  ⟨k.os.trans h.os, k.tape.trans h.tape, k.output.trans h.output, Nat.le_trans h.size k.size, fun i hi hne => (k.block i (Nat.lt_of_lt_of_le hi h.size) hne).trans (h.block i hi hne)⟩
set_option maxHeartbeats 4000000 in
set_option maxRecDepth 100000 in
theorem insertCmp_any (w : World) (g n c : Nat) (L : List F2) (hn : n = L.length) (hcap : n ≤ 1000) (hf : ∀ x ∈ L, FR x) (h : FRow w g L) :
    Calls Try.prog 132 #[.slice (some ⟨g, 0, none⟩) n c, .int .i64 0, .int .i64 (n : Int), .func (.func 91) #[] #[]] w fun e w' => e = .returned (.tuple #[]) ∧ ∃ M, FRow w' g M ∧ M.Perm L ∧ Srt M ∧ Kp g w w' := by
  have hu26 := Try.underlying26
  have H := Lib.hid h
  have HN := Lib.hid hn
  have HF := Lib.hid hf
  clear h hn hf
  go_enter Try.func132, Try.ntmps132
  go_wp2
  go_loopw [8] (fun i wr => ∃ (k : Nat) (M : List F2), i = .int .i64 k ∧ 1 ≤ k ∧ k ≤ n + 1 ∧ FRow wr g M ∧ M.Perm L ∧ Srt (M.take k) ∧ Kp g w wr) (fun i _ => n + 1 - (intOf i).toNat)
  case atStart => exact ⟨1, L, rfl, Nat.le_refl _, by omega, H.out, List.Perm.refl _, by cases L <;> simp [Srt], Kp.refl _ _⟩
  case round =>
    obtain ⟨k, M, rfl, hk1, hk2, hrow, hperm, hsrt, hkp⟩ := hrel
    have HR := Lib.hid hrow
    have HP := Lib.hid hperm
    have HS := Lib.hid hsrt
    have HK := Lib.hid hkp
    have hlen : M.length = n := by rw [hperm.length_eq]; exact HN.out.symm
    clear hrow hperm hsrt hkp
    by_cases hlt : k < n
    · obtain ⟨v, hv⟩ : ∃ v, M[k]? = some v := ⟨M[k]'(by omega), by simp⟩
      have hmid := Mid.start hv HS.out HP.out
      have HM := Lib.hid hmid
      have hA : (M.take k).length = k := by simp; omega
      have HA := Lib.hid hA
      clear hmid hv hA
      go_wp2
      go_loopw [9] (fun i wr2 => ∃ (j : Nat) (M2 A : List F2) (B : List F2), i = .int .i64 j ∧ A.length = j ∧ j ≤ k ∧ Mid L M2 A v B (M.drop (k + 1)) ∧ j + B.length = k ∧ FRow wr2 g M2 ∧ Kp g w wr2) (fun i _ => (intOf i).toNat)
      case atStart => exact ⟨k, M, M.take k, [], rfl, HA.out, Nat.le_refl _, HM.out, by simp, HR.out, HK.out⟩
      case round =>
        clear HR HP HS HK HM HA
        obtain ⟨j, M2, A, B, rfl, hjA, hjk, hmid, hjB, hrow, hkp⟩ := hrel
        have HM := Lib.hid hmid
        have HR := Lib.hid hrow
        have HK := Lib.hid hkp
        clear hmid hrow hkp
        cases j with
        | zero =>
          go_wp2
          go_quiet (fail)
          go_wp2
          have hA0 : A = [] := List.eq_nil_of_length_eq_zero hjA
          have hd := HM.out.done (fun x hx => HF.out x ((HM.out.perm.mem_iff).1 hx)) (.inl hA0)
          rw [hA0, List.length_nil, show 0 + 1 + B.length = k + 1 by omega] at hd
          exact ⟨⟨k + 1, M2, by go_num, by omega, by omega, HR.out.drewN nq, HM.out.perm, hd, HK.out.drewN nq⟩, by simp [intOf]; omega⟩
        | succ j =>
          obtain ⟨A', u, rfl⟩ : ∃ A' u, A = A' ++ [u] := by
            rcases List.eq_nil_or_concat A with h | ⟨A', u, h⟩
            · rw [h] at hjA; simp at hjA
            · exact ⟨A', u, by rw [h, List.concat_eq_append]⟩
          have hA' : A'.length = j := by simpa using hjA
          have gv : M2[j + 1]? = some v := by rw [HM.out.eq]; rw [List.getElem?_append_right (by omega), hjA]; simp
          have gu : M2[j]? = some u := by rw [HM.out.eq, List.append_assoc, List.getElem?_append_right (by omega), hA']; simp
          obtain ⟨c0, c1⟩ := HR.out.cell gv
          obtain ⟨d0, d1⟩ := HR.out.cell gu
          have f0 := HR.out.frozen ((j + 1) * 2)
          have f1 := HR.out.frozen ((j + 1) * 2 + 1)
          have f2 := HR.out.frozen (j * 2)
          have f3 := HR.out.frozen (j * 2 + 1)
          have fv : FR v := HF.out v ((HM.out.perm.mem_iff).1 (List.mem_of_getElem? gv))
          have fu : FR u := HF.out u ((HM.out.perm.mem_iff).1 (List.mem_of_getElem? gu))
          have C91 := Lib.hid (fun W => compare_any v.1 v.2 u.1 u.2 W ⟨fv.1, fv.2.1, fv.2.2.1, fv.2.2.2.1⟩ ⟨fu.1, fu.2.1, fu.2.2.1, fu.2.2.2.1⟩)
          have hw : IntKind.i64.wrap ((j : Int) + 1 - 1) = j := by rw [IntKind.wrap_i64]; omega
          have hw2 : IntKind.i64.wrap (j : Int) = j := by rw [IntKind.wrap_i64]; omega
          have hj1 : (0 : Int) ≤ (j : Int) := by omega
          have hj2 : (j : Int) < (n : Int) := by omega
          have hj3 : (0 : Int) ≤ (j : Int) + 1 := by omega
          have hj4 : (j : Int) + 1 < (n : Int) := by omega
          have hj5 : ((j : Int) + 1).toNat = j + 1 := by omega
          have hg : decide ((0 : Int) < (j : Int) + 1) = true := decide_eq_true (by omega)
          have z1 := add_at g 0 ((j + 1) * 2)
          have z2 := add_at g 0 (j * 2)
          rw [Nat.zero_add] at z1 z2
          clear gv gu
          go_wp2_with fail
          go_region_held3 (fun W' => W'.cell? ⟨g, (j + 1) * 2, none⟩ = some (.int .i64 v.1) ∧ W'.cell? ⟨g, (j + 1) * 2 + 1, none⟩ = some (.int .i64 v.2) ∧ W'.cell? ⟨g, j * 2, none⟩ = some (.int .i64 u.1) ∧ W'.cell? ⟨g, j * 2 + 1, none⟩ = some (.int .i64 u.2))
            (first | (go_keep; done) | (apply keep4; (case hb => assumption); (case h => assumption)))
            ((first | (go_at_call 91; refine (C91.out _).mono ?_; rintro e w5 ⟨rfl, hb5⟩)))
          have HR5 := Lib.hid (HR.out.drew.below hb5)
          have HK5 := Lib.hid (HK.out.drew.below hb5)
          clear c0 c1 d0 d1 f0 f1 f2 f3
          obtain ⟨c0, c1⟩ := HR5.out.cell (show M2[j + 1]? = some v by rw [HM.out.eq]; rw [List.getElem?_append_right (by omega), hjA]; simp)
          obtain ⟨d0, d1⟩ := HR5.out.cell (show M2[j]? = some u by rw [HM.out.eq, List.append_assoc, List.getElem?_append_right (by omega), hA']; simp)
          have f0 := HR5.out.frozen ((j + 1) * 2)
          have f1 := HR5.out.frozen ((j + 1) * 2 + 1)
          have f2 := HR5.out.frozen (j * 2)
          have f3 := HR5.out.frozen (j * 2 + 1)
          by_cases hlu : cmpF (v.1, v.2) (u.1, u.2) < 0
          · rw [decide_eq_true hlu]
            have hl2 : M2.length = n := by rw [HM.out.perm.length_eq]; exact HN.out.symm
            have hset : (M2.set (j + 1) u).set j v = A' ++ v :: (u :: B ++ M.drop (k + 1)) := by
              rw [HM.out.eq]
              rw [List.set_append_right _ _ (by omega), hjA, Nat.sub_self]
              simp only [List.set_cons_zero, List.append_assoc]
              rw [List.set_append_right _ _ (by omega), hA', Nat.sub_self]
              simp
            have HM2 := Lib.hid (HM.out.down hlu)
            have HP5 := Lib.hid (hset ▸ (HR5.out.put (k := j + 1) (by omega) u).put (k := j) (by rw [List.length_set]; omega) v)
            have hnn : (j + 1) * 2 + 1 ≠ j * 2 := by omega
            clear hset
            go_wp2
            go_region
            go_wp2
            exact ⟨⟨j, _, A', u :: B, rfl, hA', by omega, HM2.out, by simp only [List.length_cons]; omega, HP5.out.drew, ((((HK5.out.set _ _).set _ _).set _ _).set _ _).drew⟩, by simp [intOf]⟩
          · rw [decide_eq_false hlu]
            have hd := HM.out.done (fun x hx => HF.out x ((HM.out.perm.mem_iff).1 hx)) (.inr ⟨A', u, rfl, hlu⟩)
            rw [hjA, show j + 1 + 1 + B.length = k + 1 by omega] at hd
            have HD := Lib.hid hd
            clear hd
            go_wp2
            exact ⟨⟨k + 1, M2, by go_num, by omega, by omega, HR5.out, HM.out.perm, HD.out, HK5.out⟩, by simp [intOf]; omega⟩
    · have hall : M.take k = M := List.take_of_length_le (by omega)
      have hs := HS.out
      rw [hall] at hs
      go_wp2
      exact bodyPost_end (v := .tuple #[]) (by simp [results, Try.results132, go_sem]) rfl ⟨rfl, M, HR.out, HP.out, hs, HK.out⟩
end Go.Proofs.Ytaplebckjbbobaa.Fl
end
section
set_option linter.unusedSimpArgs false
namespace Go.Proofs.Ytaplebckjbbobaa.Fl
open Go.RowKit Bs Grd
set_option maxHeartbeats 4000000 in
set_option maxRecDepth 100000 in
theorem len64_small (n : Nat) (hn : n ≤ 12) (w : World) : Calls Try.prog 131 #[.int .u64 (n : Int)] w fun e w' => (∃ k : Int, e = .returned (.int .i64 k)) ∧ w' = w := by
  have h : n = 0 ∨ n = 1 ∨ n = 2 ∨ n = 3 ∨ n = 4 ∨ n = 5 ∨ n = 6 ∨ n = 7 ∨ n = 8 ∨ n = 9 ∨ n = 10 ∨ n = 11 ∨ n = 12 := by omega
  rcases h with rfl | rfl | rfl | rfl | rfl | rfl | rfl | rfl | rfl | rfl | rfl | rfl | rfl
  all_goals
    go_enter Try.func131, Try.ntmps131
    go_wp2
    go_ret
    exact ⟨⟨_, rfl⟩, rfl⟩
theorem len_small (n : Nat) (hn : n ≤ 12) (w : World) : Calls Try.prog 117 #[.int .u64 (n : Int)] w fun e w' => (∃ k : Int, e = .returned (.int .i64 k)) ∧ w' = w := by
  have C := Lib.hid (fun W => len64_small n hn W)
  go_enter Try.func117, Try.ntmps117
  go_wp2_with fail
  refine (C.out _).mono ?_
  rintro e w1 ⟨⟨k, rfl⟩, rfl⟩
  go_wp2
  go_ret
  exact ⟨⟨_, rfl⟩, rfl⟩
set_option maxHeartbeats 1000000 in
set_option maxRecDepth 100000 in
theorem pdqCmp_any (w : World) (g n c : Nat) (k : Int) (L : List F2) (hn : n = L.length) (hcap : n ≤ 12) (hf : ∀ x ∈ L, FR x) (h : FRow w g L) :
    Calls Try.prog 118 #[.slice (some ⟨g, 0, none⟩) n c, .int .i64 0, .int .i64 (n : Int), .int .i64 k, .func (.func 91) #[] #[]] w fun e w' => e = .returned (.tuple #[]) ∧ ∃ M, FRow w' g M ∧ M.Perm L ∧ Srt M ∧ Kp g w w' := by
  have C := Lib.hid (insertCmp_any w g n c L hn (by omega) hf h)
  have hle : decide ((n : Int) ≤ 12) = true := decide_eq_true (by omega)
  have hw : wrap64 (n : Int) = n := Go.IntWalk.wrap64_in _ (by omega)
  clear h hf hn
  go_enter Try.func118, Try.ntmps118
  go_wp2
  go_loopw [1, 2, 3] (fun a b l wr => a = .int .i64 0 ∧ b = .int .i64 (n : Int) ∧ l = .int .i64 k ∧ wr = w) (fun _ _ _ _ => 0)
  case atStart => exact ⟨rfl, rfl, rfl, rfl⟩
  case round =>
    obtain ⟨rfl, rfl, rfl, rfl⟩ := hrel
    go_wp2_with fail
    refine C.out.mono ?_
    rintro e w1 ⟨rfl, hM⟩
    go_wp2
    exact bodyPost_ret (v := .tuple #[]) (by simp [results, Try.results118, go_sem]) rfl ⟨rfl, hM⟩
theorem sortFunc_any (w : World) (g n c : Nat) (L : List F2) (hn : n = L.length) (hcap : n ≤ 12) (hf : ∀ x ∈ L, FR x) (h : FRow w g L) :
    Calls Try.prog 106 #[.slice (some ⟨g, 0, none⟩) n c, .func (.func 91) #[] #[]] w fun e w' => e = .returned (.tuple #[]) ∧ ∃ M, FRow w' g M ∧ M.Perm L ∧ Srt M ∧ Kp g w w' := by
  have C := Lib.hid (fun k => pdqCmp_any w g n c k L hn hcap hf h)
  have C2 := Lib.hid (len_small n hcap w)
  have hn1 : (0 : Int) ≤ (n : Int) := by omega
  have hn2 : (n : Int) ≤ 12 := by omega
  clear h hf hn
  go_enter Try.func106, Try.ntmps106
  go_wp2_with fail
  refine C2.out.mono ?_
  rintro e w1 ⟨⟨k, rfl⟩, rfl⟩
  go_wp2_with fail
  refine (C.out k).mono ?_
  rintro e w2 ⟨rfl, hM⟩
  go_wp2
  exact bodyPost_end (v := .tuple #[]) (by simp [results, Try.results106, go_sem]) rfl ⟨rfl, hM⟩
end Go.Proofs.Ytaplebckjbbobaa.Fl
end
section
set_option linter.unusedSimpArgs false
namespace Go.Proofs.Ytaplebckjbbobaa.Fl
open FracMath (Fr)
def dd1 (D : List F2) (x : F2) : List F2 := if D.getLast? = some x then D else D ++ [x]
def dd (M : List F2) : List F2 := M.foldl dd1 []
theorem dd_snoc (M : List F2) (x : F2) : dd (M ++ [x]) = dd1 (dd M) x := by simp [dd]
theorem dd_last : ∀ (M : List F2), (dd M).getLast? = M.getLast? := by
  intro M
  rcases List.eq_nil_or_concat M with h | ⟨A, x, h⟩
  · subst h; rfl
  · rw [h, List.concat_eq_append, dd_snoc]
    unfold dd1
    split
    · rename_i h2; rw [h2]; simp
    · simp
theorem dd1_mem (D : List F2) (y x : F2) : x ∈ dd1 D y ↔ x ∈ D ∨ x = y := by
  unfold dd1
  split
  · rename_i h2
    have hy : y ∈ D := List.mem_of_getLast? h2
    constructor
    · intro h; exact .inl h
    · rintro (h | h)
      · exact h
      · rw [h]; exact hy
  · simp
theorem fold_mem : ∀ (M D : List F2) (x : F2), x ∈ M.foldl dd1 D ↔ x ∈ D ∨ x ∈ M
  | [], D, x => by simp
  | y :: M, D, x => by
    rw [List.foldl_cons, fold_mem M, dd1_mem, List.mem_cons]
    exact or_assoc
theorem dd_mem (M : List F2) (x : F2) : x ∈ dd M ↔ x ∈ M := by rw [dd, fold_mem]; simp
theorem dd1_asc {D : List F2} {x : F2} (hD : Asc D) (hx : FR x) (h : ∀ d ∈ D, ¬ Lt x d) : Asc (dd1 D x) := by
  unfold dd1
  split
  · exact hD
  · rename_i hl
    refine ⟨fun z hz => ?_, ?_⟩
    · rcases List.mem_append.1 hz with k | k
      · exact hD.1 z k
      · rw [List.mem_singleton.1 k]; exact hx
    · rw [List.pairwise_append]
      refine ⟨hD.2, by simp, fun d hd y hy => ?_⟩
      rw [List.mem_singleton.1 hy]
      have fd := hD.1 d hd
      by_cases e : d = x
      · exfalso
        rcases List.eq_nil_or_concat D with hn | ⟨A, l, hn⟩
        · rw [hn] at hd; simp at hd
        · rw [List.concat_eq_append] at hn
          have hll : l ≠ x := fun e2 => hl (by rw [hn, e2]; simp)
          have hdl : Lt d l := by
            have hp := hD.2
            rw [hn, List.pairwise_append] at hp
            rw [hn] at hd
            rcases List.mem_append.1 hd with k | k
            · exact hp.2.2 d k l (by simp)
            · exact absurd ((List.mem_singleton.1 k).symm.trans e) hll
          exact h l (by rw [hn]; simp) (e ▸ hdl)
      · exact (lt_total fd hx e).resolve_right (h d hd)
theorem fold_asc : ∀ (M D : List F2), Asc D → (∀ x ∈ M, FR x) → Srt M → (∀ d ∈ D, ∀ m ∈ M, ¬ Lt m d) → Asc (M.foldl dd1 D)
  | [], D, hD, _, _, _ => hD
  | y :: M, D, hD, hf, hs, h => by
    rw [List.foldl_cons]
    have hs' := List.pairwise_cons.1 hs
    refine fold_asc M _ (dd1_asc hD (hf y (by simp)) (fun d hd => h d hd y (by simp))) (fun x hx => hf x (by simp [hx])) hs'.2 fun d hd m hm => ?_
    rcases (dd1_mem D y d).1 hd with k | k
    · exact h d k m (by simp [hm])
    · rw [k]; exact hs'.1 m hm
theorem dd_asc {M : List F2} (hf : ∀ x ∈ M, FR x) (hs : Srt M) : Asc (dd M) := fold_asc M [] ⟨fun x h => by simp at h, List.Pairwise.nil⟩ hf hs (fun d h => by simp at h)
end Go.Proofs.Ytaplebckjbbobaa.Fl
end
