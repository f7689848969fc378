/- For every move and fraction the law FnExactMoveFraction returns true, and the arguments read as before. -/
import Derived.Test.YtaplebckjbbobaaMf
import Derived.Deep.RegionHeld3
import Derived.Deep.DeepCutAuto
import Derived.Deep.CutBlock
namespace Go.Proofs.Ytaplebckjbbobaa.Low
open Go.RowKit Go.Proofs.YtaplebckjbbobaaW.PrintWords Go.Proofs.YtaplebckjbbobaaW.PrintMore FracMath PFnExactMoveFraction

/-- two boxes laid at the call's head -/
structure B2 (w W : World) (o1 o2 : Obj) : Prop where
  b1 : W.heap[w.heap.size]? = some o1
  b2 : W.heap[w.heap.size + 1]? = some o2
  bel : Below w.heap.size w W
  siz : w.heap.size + 1 + 1 ≤ W.heap.size
theorem B2.start (w : World) (o1 o2 : Obj) : B2 w ((w.alloc o1).alloc o2) o1 o2 := by
  refine ⟨?_, ?_, ?_, ?_⟩
  · simp only [alloc_at, World.size_alloc]; rw [if_neg (by omega), if_pos trivial]
  · simp only [alloc_at, World.size_alloc]; rw [if_pos trivial]
  · exact ((Below.refl _ _).alloc (Nat.le_refl _) _).alloc (by simp) _
  · simp
theorem B2.below {w W W' : World} {o1 o2 : Obj} (h : B2 w W o1 o2) (hb : Below W.heap.size W W') : B2 w W' o1 o2 := by
  have hs := h.siz
  exact ⟨(hb.block _ (by omega)).trans h.b1, (hb.block _ (by omega)).trans h.b2, h.bel.trans (hb.mono (by omega)), Nat.le_trans hs hb.size⟩

theorem eqFraction_any (a b : Int) (w : World) : Calls Try.prog 14 #[.agg #[.int .i64 a, .int .i64 b], .agg #[.int .i64 a, .int .i64 b]] w fun e w' => e = .returned (.bool true) ∧ Below w.heap.size w w' := by
  have h1 : (a != a) = false := by simp
  have h2 : (b != b) = false := by simp
  go_enter Try.func14, Try.ntmps14
  go_wp2
  go_ret
  exact ⟨rfl, ((Below.refl _ _).alloc (Nat.le_refl _) _).alloc (by simp) _⟩

theorem bcell {W w1 : World} (hb : Below W.heap.size W w1) : (∀ b o, b < W.heap.size → w1.cell? ⟨b, o, none⟩ = W.cell? ⟨b, o, none⟩) ∧ (∀ b o, b < W.heap.size → w1.frozen? ⟨b, o, none⟩ = W.frozen? ⟨b, o, none⟩) :=
  ⟨fun b o h => hb.cell (p := ⟨b, o, none⟩) h, fun b o h => hb.frozen (p := ⟨b, o, none⟩) h⟩
theorem hdrew (w : World) : w.drew.heap = w.heap := rfl
def S5 (b : Nat) (m0 m1 m2 p q : Int) (W' : World) : Prop := W'.cell? ⟨b, 0, none⟩ = some (.int .i64 m0) ∧ W'.cell? ⟨b, 1, none⟩ = some (.int .i64 m1) ∧ W'.cell? ⟨b, 2, none⟩ = some (.int .i64 m2) ∧ W'.cell? ⟨b + 1, 0, none⟩ = some (.int .i64 p) ∧ W'.cell? ⟨b + 1, 1, none⟩ = some (.int .i64 q)
theorem keep5 {b : Nat} {m0 m1 m2 p q : Int} {W W' : World} (hb : Below W.heap.size W W') (h : W.cell? ⟨b, 0, none⟩ = some (.int .i64 m0) ∧ W.cell? ⟨b, 1, none⟩ = some (.int .i64 m1) ∧ W.cell? ⟨b, 2, none⟩ = some (.int .i64 m2) ∧ W.cell? ⟨b + 1, 0, none⟩ = some (.int .i64 p) ∧ W.cell? ⟨b + 1, 1, none⟩ = some (.int .i64 q)) :
    W'.cell? ⟨b, 0, none⟩ = some (.int .i64 m0) ∧ W'.cell? ⟨b, 1, none⟩ = some (.int .i64 m1) ∧ W'.cell? ⟨b, 2, none⟩ = some (.int .i64 m2) ∧ W'.cell? ⟨b + 1, 0, none⟩ = some (.int .i64 p) ∧ W'.cell? ⟨b + 1, 1, none⟩ = some (.int .i64 q) :=
  ⟨pw_cell_below hb h.1, pw_cell_below hb h.2.1, pw_cell_below hb h.2.2.1, pw_cell_below hb h.2.2.2.1, pw_cell_below hb h.2.2.2.2⟩
theorem keep5a {b : Nat} {m0 m1 m2 p q : Int} {W : World} {o : Obj} (h : W.cell? ⟨b, 0, none⟩ = some (.int .i64 m0) ∧ W.cell? ⟨b, 1, none⟩ = some (.int .i64 m1) ∧ W.cell? ⟨b, 2, none⟩ = some (.int .i64 m2) ∧ W.cell? ⟨b + 1, 0, none⟩ = some (.int .i64 p) ∧ W.cell? ⟨b + 1, 1, none⟩ = some (.int .i64 q)) :
    (W.alloc o).cell? ⟨b, 0, none⟩ = some (.int .i64 m0) ∧ (W.alloc o).cell? ⟨b, 1, none⟩ = some (.int .i64 m1) ∧ (W.alloc o).cell? ⟨b, 2, none⟩ = some (.int .i64 m2) ∧ (W.alloc o).cell? ⟨b + 1, 0, none⟩ = some (.int .i64 p) ∧ (W.alloc o).cell? ⟨b + 1, 1, none⟩ = some (.int .i64 q) := keep5 (below_alloc (Below.refl _ _) o) h

theorem alloc_cell {W : World} {o : Obj} {a : Addr} (h : a.block < W.heap.size) : (W.alloc o).cell? a = W.cell? a := World.cell?_of_block (w := W) (Below.heap_alloc W o a.block h)
theorem keep5c {b : Nat} {m0 m1 m2 p q : Int} {W : World} {o o' : Obj} (hlt : b + 1 < W.heap.size) (h : (W.alloc o).cell? ⟨b, 0, none⟩ = some (.int .i64 m0) ∧ (W.alloc o).cell? ⟨b, 1, none⟩ = some (.int .i64 m1) ∧ (W.alloc o).cell? ⟨b, 2, none⟩ = some (.int .i64 m2) ∧ (W.alloc o).cell? ⟨b + 1, 0, none⟩ = some (.int .i64 p) ∧ (W.alloc o).cell? ⟨b + 1, 1, none⟩ = some (.int .i64 q)) :
    (W.alloc o').cell? ⟨b, 0, none⟩ = some (.int .i64 m0) ∧ (W.alloc o').cell? ⟨b, 1, none⟩ = some (.int .i64 m1) ∧ (W.alloc o').cell? ⟨b, 2, none⟩ = some (.int .i64 m2) ∧ (W.alloc o').cell? ⟨b + 1, 0, none⟩ = some (.int .i64 p) ∧ (W.alloc o').cell? ⟨b + 1, 1, none⟩ = some (.int .i64 q) := by
  rw [alloc_cell (by simp; omega), alloc_cell (by simp; omega), alloc_cell (by simp; omega), alloc_cell (by simp; omega), alloc_cell (by simp; omega)] at h
  exact keep5a h

theorem set_cell {W : World} {pa : Addr} {u : Value} {a : Addr} (h : a.block ≠ pa.block) : (W.setCell pa u).cell? a = W.cell? a := World.cell?_of_block (w := W) (Below.heap_setCell W pa u a.block h)
theorem keep5d {b g : Nat} {m0 m1 m2 p q : Int} {W : World} {u v : Value} (hlt : b + 1 < g) (h : W.cell? ⟨b, 0, none⟩ = some (.int .i64 m0) ∧ W.cell? ⟨b, 1, none⟩ = some (.int .i64 m1) ∧ W.cell? ⟨b, 2, none⟩ = some (.int .i64 m2) ∧ W.cell? ⟨b + 1, 0, none⟩ = some (.int .i64 p) ∧ W.cell? ⟨b + 1, 1, none⟩ = some (.int .i64 q)) :
    ((W.setCell ⟨g, 0, none⟩ u).setCell ⟨g, 1, none⟩ v).cell? ⟨b, 0, none⟩ = some (.int .i64 m0) ∧ ((W.setCell ⟨g, 0, none⟩ u).setCell ⟨g, 1, none⟩ v).cell? ⟨b, 1, none⟩ = some (.int .i64 m1) ∧ ((W.setCell ⟨g, 0, none⟩ u).setCell ⟨g, 1, none⟩ v).cell? ⟨b, 2, none⟩ = some (.int .i64 m2) ∧ ((W.setCell ⟨g, 0, none⟩ u).setCell ⟨g, 1, none⟩ v).cell? ⟨b + 1, 0, none⟩ = some (.int .i64 p) ∧ ((W.setCell ⟨g, 0, none⟩ u).setCell ⟨g, 1, none⟩ v).cell? ⟨b + 1, 1, none⟩ = some (.int .i64 q) := by
  simp only [set_cell (W := W.setCell ⟨g, 0, none⟩ u) (pa := ⟨g, 1, none⟩) (u := v) (a := ⟨b, _, none⟩) (show b ≠ g by omega), set_cell (W := W) (pa := ⟨g, 0, none⟩) (u := u) (a := ⟨b, _, none⟩) (show b ≠ g by omega),
    set_cell (W := W.setCell ⟨g, 0, none⟩ u) (pa := ⟨g, 1, none⟩) (u := v) (a := ⟨b + 1, _, none⟩) (show b + 1 ≠ g by omega), set_cell (W := W) (pa := ⟨g, 0, none⟩) (u := u) (a := ⟨b + 1, _, none⟩) (show b + 1 ≠ g by omega)]
  exact h

/-- what stands behind a call whose struct result was stored into a new box -/
def NB (W0 : World) (r1 r2 : Int) (g : Nat) (W : World) : Prop := W.heap[g]? = some (.cells #[.int .i64 r1, .int .i64 r2] 26 (0, 0)) ∧ W0.heap.size ≤ g ∧ Below W0.heap.size W0 W
theorem NB.new {W0 W : World} (h : Below W0.heap.size W0 W) (r1 r2 : Int) : NB W0 r1 r2 W.heap.size (W.alloc (.cells #[.int .i64 r1, .int .i64 r2] 26)) := ⟨heap_alloc_new _ _, h.size, below_alloc h _⟩
theorem NB.below {W0 W W' : World} {r1 r2 : Int} {g : Nat} (h : NB W0 r1 r2 g W) (hb : Below W.heap.size W W') : NB W0 r1 r2 g W' := ⟨blk_below h.1 hb, h.2.1, below_step h.2.2 hb⟩
theorem NB.drew {W0 W : World} {r1 r2 : Int} {g : Nat} (h : NB W0 r1 r2 g W) : NB W0 r1 r2 g W.drew := ⟨h.1, h.2.1, h.2.2.drew⟩
theorem NB.put {W0 W : World} {s1 s2 : Int} {g : Nat} (h : NB W0 s1 s2 g W) (r1 r2 : Int) : NB W0 r1 r2 g ((W.setCell ⟨g, 0, none⟩ (.int .i64 r1)).setCell ⟨g, 1, none⟩ (.int .i64 r2)) :=
  ⟨by simpa using blk_set (blk_set h.1 0 (.int .i64 r1)) 1 (.int .i64 r2), h.2.1, (h.2.2.setCell h.2.1 _).setCell h.2.1 _⟩
theorem B2.cells {w W : World} {m0 m1 m2 p q : Int} (h : B2 w W (.cells #[.int .i64 m0, .int .i64 m1, .int .i64 m2] 23) (.cells #[.int .i64 p, .int .i64 q] 25)) :
    (W.cell? ⟨w.heap.size, 0, none⟩ = some (.int .i64 m0) ∧ W.cell? ⟨w.heap.size, 1, none⟩ = some (.int .i64 m1) ∧ W.cell? ⟨w.heap.size, 2, none⟩ = some (.int .i64 m2)) ∧ W.cell? ⟨w.heap.size + 1, 0, none⟩ = some (.int .i64 p) ∧ W.cell? ⟨w.heap.size + 1, 1, none⟩ = some (.int .i64 q) :=
  ⟨⟨blk_cell h.b1 0, blk_cell h.b1 1, blk_cell h.b1 2⟩, blk_cell h.b2 0, blk_cell h.b2 1⟩

set_option linter.unusedSimpArgs false
set_option maxHeartbeats 4000000 in
set_option maxRecDepth 100000 in
theorem law_walk (m0 m1 m2 p q : Int) (w : World) :
    Calls Try.prog 3 #[.agg #[.int .i64 m0, .int .i64 m1, .int .i64 m2], .agg #[.int .i64 p, .int .i64 q]] w fun e w' => e = .returned (.bool true) ∧ Below w.heap.size w w' := by
  have hu26 := Try.underlying26
  obtain ⟨r1, r2, r3, ha, hs⟩ := spec_moveFraction_any m0 m1 m2 p q
  have S10 := Lib.hid hs
  have S13 := Lib.hid (fun W => moveFraction_any m0 m1 m2 p q W r1 r2 r3 ha)
  have S11 := Lib.hid (fun W => laws_toMove.calls m0 m1 m2 m0 m1 m2 W rfl)
  have S12 := Lib.hid (fun W => laws_toFraction.calls p q p q W rfl)
  have HB0 := Lib.hid (B2.start w (.cells #[.int .i64 m0, .int .i64 m1, .int .i64 m2] 23) (.cells #[.int .i64 p, .int .i64 q] 25))
  clear ha hs
  go_enter Try.func3, Try.ntmps3
  go_upto_region 1 with (fail)
  generalize hW : ((w.alloc (.cells #[.int .i64 m0, .int .i64 m1, .int .i64 m2] 23)).alloc (.cells #[.int .i64 p, .int .i64 q] 25)) = W at HB0 ⊢
  clear hW
  go_cut [5, 6] (fun v5 v6 wc => ∃ g : Nat, v5 = .pointer (some ⟨g, 0, none⟩) ∧ v6 = .int .i64 r3 ∧ NB W r1 r2 g wc)
  case first =>
    obtain ⟨⟨a0, a1, a2⟩, b0, b1⟩ := HB0.out.cells
    have z0 : w.heap.size + 1 + 1 ≤ W.drew.heap.size := HB0.out.siz
    have z00 : w.heap.size + 1 + 1 ≤ W.heap.size := HB0.out.siz
    go_region_held3 (fun W' => W'.cell? ⟨w.heap.size, 0, none⟩ = some (.int .i64 m0) ∧ W'.cell? ⟨w.heap.size, 1, none⟩ = some (.int .i64 m1) ∧ W'.cell? ⟨w.heap.size, 2, none⟩ = some (.int .i64 m2) ∧ W'.cell? ⟨w.heap.size + 1, 0, none⟩ = some (.int .i64 p) ∧ W'.cell? ⟨w.heap.size + 1, 1, none⟩ = some (.int .i64 q))
      (first | (go_keep; done) | (apply keep5; (case hb => assumption); (case h => assumption)) | (apply keep5a; assumption) | (apply keep5c; (case hlt => omega); (case h => assumption)) | (apply keep5d; (case hlt => omega); (case h => assumption)))
      ((first
        | (go_at_call 11; refine (S11.out _).mono ?_; rintro e w1 ⟨rfl, hb1⟩; have z1 := hb1.size; have y1 := hb1.size; (try simp at y1); obtain ⟨k1, q1⟩ := bcell hb1; (try simp only [hdrew, World.size_alloc] at k1 q1 y1); (try have u1 : W.heap.size < w1.heap.size := by omega))
        | (go_at_call 12; refine (S12.out _).mono ?_; rintro e w2 ⟨rfl, hb2⟩; have z2 := hb2.size; have y2 := hb2.size; (try simp at y2); obtain ⟨k2, q2⟩ := bcell hb2; (try simp only [hdrew, World.size_alloc] at k2 q2 y2); (try have u2 : W.heap.size < w2.heap.size := by omega); (try have u12 : w1.heap.size < w2.heap.size := by omega))
        | (go_at_call 10; refine (S10.out _).mono ?_; rintro e w3 ⟨rfl, hb3⟩; have z3 := hb3.size; have y3 := hb3.size; (try simp at y3); obtain ⟨k3, q3⟩ := bcell hb3; (try simp only [hdrew, World.size_alloc] at k3 q3 y3); (try have u3 : W.heap.size < w3.heap.size := by omega); (try have u13 : w1.heap.size < w3.heap.size := by omega); (try have u23 : w2.heap.size < w3.heap.size := by omega))))
    · go_wp2
      go_meet
      case rel => exact ⟨_, rfl, rfl, NB.new (below_step (below_step (below_step (Below.refl _ _).drew hb1) hb2) hb3) r1 r2⟩
    · go_wp2
      go_meet
      case rel => exact ⟨_, rfl, rfl, ((NB.new (below_step (below_step (Below.refl _ _).drew hb1) hb2) 0 0).below hb3).put r1 r2⟩
    · go_wp2
      go_meet
      case rel => exact ⟨_, rfl, rfl, (((NB.new (below_step (Below.refl _ _).drew hb1) 0 0).below hb2).below hb3).put r1 r2⟩
    · go_wp2
      go_meet
      case rel => exact ⟨_, rfl, rfl, ((((NB.new (Below.refl _ _) 0 0).drew.below hb1).below hb2).below hb3).put r1 r2⟩
  case rest =>
    obtain ⟨g, rfl, rfl, hnb⟩ := hcut
    have HG := Lib.hid hnb
    have HB1 := Lib.hid (HB0.out.below hnb.2.2)
    clear hnb
    go_upto_region 2 with (fail)
    generalize wc = W1 at HG HB1 ⊢
    go_cut [7, 8] (fun v7 v8 wc => ∃ g : Nat, v7 = .pointer (some ⟨g, 0, none⟩) ∧ v8 = .int .i64 r3 ∧ NB W1 r1 r2 g wc)
    case first =>
      obtain ⟨⟨a0, a1, a2⟩, b0, b1⟩ := HB1.out.cells
      have z0 : w.heap.size + 1 + 1 ≤ W1.drew.heap.size := HB1.out.siz
      have z00 : w.heap.size + 1 + 1 ≤ W1.heap.size := HB1.out.siz
      go_region_held3 (fun W' => W'.cell? ⟨w.heap.size, 0, none⟩ = some (.int .i64 m0) ∧ W'.cell? ⟨w.heap.size, 1, none⟩ = some (.int .i64 m1) ∧ W'.cell? ⟨w.heap.size, 2, none⟩ = some (.int .i64 m2) ∧ W'.cell? ⟨w.heap.size + 1, 0, none⟩ = some (.int .i64 p) ∧ W'.cell? ⟨w.heap.size + 1, 1, none⟩ = some (.int .i64 q))
        (first | (go_keep; done) | (apply keep5; (case hb => assumption); (case h => assumption)) | (apply keep5a; assumption) | (apply keep5c; (case hlt => omega); (case h => assumption)) | (apply keep5d; (case hlt => omega); (case h => assumption)))
        ((first
          | (go_at_call 11; refine (S11.out _).mono ?_; rintro e w1 ⟨rfl, hb1⟩; have z1 := hb1.size; have y1 := hb1.size; (try simp at y1); obtain ⟨k1, q1⟩ := bcell hb1; (try simp only [hdrew, World.size_alloc] at k1 q1 y1); (try have u1 : W1.heap.size < w1.heap.size := by omega))
          | (go_at_call 12; refine (S12.out _).mono ?_; rintro e w2 ⟨rfl, hb2⟩; have z2 := hb2.size; have y2 := hb2.size; (try simp at y2); obtain ⟨k2, q2⟩ := bcell hb2; (try simp only [hdrew, World.size_alloc] at k2 q2 y2); (try have u2 : W1.heap.size < w2.heap.size := by omega); (try have u12 : w1.heap.size < w2.heap.size := by omega))
          | (go_at_call 13; refine (S13.out _).mono ?_; rintro e w3 ⟨rfl, hb3⟩; have z3 := hb3.size; have y3 := hb3.size; (try simp at y3); obtain ⟨k3, q3⟩ := bcell hb3; (try simp only [hdrew, World.size_alloc] at k3 q3 y3); (try have u3 : W1.heap.size < w3.heap.size := by omega); (try have u13 : w1.heap.size < w3.heap.size := by omega); (try have u23 : w2.heap.size < w3.heap.size := by omega))))
      · go_wp2
        go_meet
        case rel => exact ⟨_, rfl, rfl, NB.new (below_step (below_step (below_step (Below.refl _ _).drew hb1) hb2) hb3) r1 r2⟩
      · go_wp2
        go_meet
        case rel => exact ⟨_, rfl, rfl, ((NB.new (below_step (below_step (Below.refl _ _).drew hb1) hb2) 0 0).below hb3).put r1 r2⟩
      · go_wp2
        go_meet
        case rel => exact ⟨_, rfl, rfl, (((NB.new (below_step (Below.refl _ _).drew hb1) 0 0).below hb2).below hb3).put r1 r2⟩
      · go_wp2
        go_meet
        case rel => exact ⟨_, rfl, rfl, ((((NB.new (Below.refl _ _) 0 0).drew.below hb1).below hb2).below hb3).put r1 r2⟩
    case rest =>
      obtain ⟨g2, rfl, rfl, hnb⟩ := hcut
      have e0 := blk_cell (HG.out.below hnb.2.2).1 0
      have e1 := blk_cell (HG.out.below hnb.2.2).1 1
      have c0 := blk_cell hnb.1 0
      have c1 := blk_cell hnb.1 1
      simp only [List.getElem?_toArray, List.getElem?_cons_zero, List.getElem?_cons_succ] at e0 e1 c0 c1
      have HB2 := Lib.hid ((HB1.out.below hnb.2.2).bel)
      clear hnb HB1 HG HB0
      go_wp2_with (go_at_call 14; refine (eqFraction_any _ _ _).mono ?_; rintro e w9 ⟨rfl, hb9⟩)
      go_ret
      exact ⟨rfl, below_step HB2.out hb9⟩
end Go.Proofs.Ytaplebckjbbobaa.Low
