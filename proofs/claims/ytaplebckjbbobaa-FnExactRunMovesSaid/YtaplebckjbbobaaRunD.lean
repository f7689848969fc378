/- For every list of moves and every fraction the law FnExactRunMoves returns true, and the arguments read as before. -/
import Derived.Test.YtaplebckjbbobaaRunC
namespace Go.Proofs.Ytaplebckjbbobaa.Low
open Go.RowKit Go.Proofs.YtaplebckjbbobaaW.PrintWords Go.Proofs.YtaplebckjbbobaaW.PrintMore FracMath PFnExactMoveFraction
set_option linter.unusedSimpArgs false

theorem eqFraction_any (a b : Int) (w : World) : Calls Try.prog 14 #[.agg #[.int .i64 a, .int .i64 b], .agg #[.int .i64 a, .int .i64 b]] w fun e w' => e = .returned (.bool true) ∧ Below w.heap.size w w' := by
  have h1 : (a != a) = false := by simp
  have h2 : (b != b) = false := by simp
  go_enter Try.func14, Try.ntmps14
  go_wp2
  go_ret
  exact ⟨rfl, ((Below.refl _ _).alloc (Nat.le_refl _) _).alloc (by simp) _⟩

/-- the box's cells and the list -/
abbrev CL (b : Nat) (p q : Int) (ao : Option Addr) (L : List M3) (W : World) : Prop := W.cell? ⟨b, 0, none⟩ = some (.int .i64 p) ∧ W.cell? ⟨b, 1, none⟩ = some (.int .i64 q) ∧ Lst W ao L
theorem Lst.alloc {W : World} {ao : Option Addr} {L : List M3} (h : Lst W ao L) (o : Obj) : Lst (W.alloc o) ao L := h.below (below_alloc (Below.refl _ _) o)
section
variable {b g : Nat} {p q : Int} {ao : Option Addr} {L : List M3} {W W' : World} {o o' : Obj} {u v : Value}
theorem keepL (hb : Below W.heap.size W W') (h : CL b p q ao L W) : CL b p q ao L W' :=
  ⟨pw_cell_below hb h.1, pw_cell_below hb h.2.1, h.2.2.below hb⟩
theorem keepW (h0 : W.cell? ⟨b, 0, none⟩ = some (.int .i64 p)) (h1 : W.cell? ⟨b, 1, none⟩ = some (.int .i64 q)) (h : Lst W ao L) (hb : Below W.heap.size W W') : CL b p q ao L W' := keepL hb ⟨h0, h1, h⟩
theorem keepLa (h : CL b p q ao L W) : CL b p q ao L (W.alloc o) := keepL (below_alloc (Below.refl _ _) o) h
end

set_option maxHeartbeats 1000000 in
set_option maxRecDepth 100000 in
theorem law_run (w : World) (ao : Option Addr) (L : List M3) (n cap : Nat) (p q : Int) (hn : n = L.length) (hmax : n ≤ 9223372036854775807) (h : Lst w ao L) :
    Calls Try.prog 4 #[.slice ao n cap, .agg #[.int .i64 p, .int .i64 q]] w fun e w' => e = .returned (.bool true) ∧ Below w.heap.size w w' := by
  have hu26 := Try.underlying26
  have S15 := Lib.hid (fun W => szMoveS_any W ao n cap hmax)
  have HL := Lib.hid h
  have HN := Lib.hid hn
  have hB0 := below_alloc (Below.refl w.heap.size w) (.cells #[.int .i64 p, .int .i64 q] 25)
  have hb0 : (w.alloc (.cells #[.int .i64 p, .int .i64 q] 25)).heap[w.heap.size]? = some (.cells #[.int .i64 p, .int .i64 q] 25 (0, 0)) := heap_alloc_new _ _
  have HB := Lib.hid hB0
  have HX := Lib.hid hb0
  clear h hn hB0 hb0
  go_enter Try.func4, Try.ntmps4
  go_wp2_with fail
  generalize (w.alloc (.cells #[.int .i64 p, .int .i64 q] 25)) = W at HB HX ⊢
  refine (S15.out _).mono ?_
  rintro e w1 ⟨rfl, rfl⟩
  by_cases hle : n ≤ 1048576
  · rw [if_pos hle]
    have hnn : ¬ (1048576 - (n : Int)) < 0 := by omega
    obtain ⟨r1, r2, r3, hr⟩ := runAns_exists L p q
    have S16 := Lib.hid (fun W ao cap (hW : Lst W ao L) => spec_run_any W ao L n cap p q r1 r2 r3 HN.out hle hW hr)
    have S18 := Lib.hid (fun W ao cap (hW : Lst W ao L) => impl_run_any W ao L n cap p q r1 r2 r3 HN.out hle hW hr)
    have S17 := Lib.hid (fun W (hW : Lst W ao L) => toMoveS_any W ao L n cap HN.out hle hW)
    have S19 := Lib.hid (fun W ao bo c1 c2 (hW : Lst W ao L) (hW' : Lst W bo L) => eqMoveS_any W ao bo L n c1 c2 HN.out hle hW hW')
    have S12 := Lib.hid (fun W => laws_toFraction.calls p q p q W rfl)
    clear hr S15
    go_upto_region 5 with (fail)
    go_cut [6, 7] (fun v6 v7 wc => ∃ g : Nat, v6 = .pointer (some ⟨g, 0, none⟩) ∧ v7 = .int .i64 r3 ∧ NB w1 r1 r2 g wc)
    case first =>
      obtain ⟨c0, c1⟩ : w1.cell? ⟨w.heap.size, 0, none⟩ = some (.int .i64 p) ∧ w1.cell? ⟨w.heap.size, 1, none⟩ = some (.int .i64 q) := ⟨blk_cell HX.out 0, blk_cell HX.out 1⟩
      have hL1 := HL.out.below HB.out
      have z00 := blk_lt HX.out
      have z0 : w.heap.size < w1.drew.heap.size := z00
      go_region_held3 (fun W' => W'.cell? ⟨w.heap.size, 0, none⟩ = some (.int .i64 p) ∧ W'.cell? ⟨w.heap.size, 1, none⟩ = some (.int .i64 q) ∧ Lst W' ao L)
        (first | (go_keep; done) | (exact ⟨c0, c1, hL1⟩) | (apply keepL; (case hb => assumption); (case h => assumption)) | (apply keepLa; assumption) | (refine keepW c0 c1 hL1 ?_; repeat (first | exact Below.refl _ _ | exact (Below.refl _ _).drew | refine Below.drew ?_ | refine below_alloc ?_ _ | refine below_step ?_ hb4 | refine below_step ?_ hb3 | refine below_step ?_ hb2 | refine Below.setCell ?_ (by first | exact Nat.le_refl _ | omega | (simp; done) | (simp; omega)) _)))
        ((first
          | (go_at_call 17; refine (S17.out _ (by first | exact hL1 | exact Lst.alloc hL1 _)).mono ?_; rintro e w2 ⟨⟨g2, rfl, hg2, hL2⟩, hb2⟩; have y2 := hb2.size; (try simp at y2); obtain ⟨k2, q2⟩ := bcell hb2; (try simp only [hdrew, World.size_alloc] at k2 q2 y2); (try have u2 : w1.heap.size < w2.heap.size := by omega))
          | (go_at_call 12; refine (S12.out _).mono ?_; rintro e w3 ⟨rfl, hb3⟩; have y3 := hb3.size; (try simp at y3); obtain ⟨k3, q3⟩ := bcell hb3; (try simp only [hdrew, World.size_alloc] at k3 q3 y3); (try have u3 : w1.heap.size < w3.heap.size := by omega); (try have u23 : w2.heap.size < w3.heap.size := by omega))
          | (go_at_call 16; refine (S16.out _ _ _ (by repeat (first | exact hL2 | refine Lst.below ?_ hb3 | refine Lst.alloc ?_ _))).mono ?_; rintro e w4 ⟨rfl, hb4⟩; have y4 := hb4.size; (try simp at y4); obtain ⟨k4, q4⟩ := bcell hb4; (try simp only [hdrew, World.size_alloc] at k4 q4 y4); (try have u4 : w1.heap.size < w4.heap.size := by omega); (try have u24 : w2.heap.size < w4.heap.size := by omega); (try have u34 : w3.heap.size < w4.heap.size := by omega))))
      · go_wp2
        go_meet
        case rel => exact ⟨_, rfl, rfl, NB.new (below_step (below_step (below_step (Below.refl _ _).drew hb2) hb3) hb4) r1 r2⟩
      · go_wp2
        go_meet
        case rel => exact ⟨_, rfl, rfl, ((NB.new (below_step (below_step (Below.refl _ _).drew hb2) hb3) 0 0).below hb4).put r1 r2⟩
      · go_wp2
        go_meet
        case rel => exact ⟨_, rfl, rfl, (((NB.new (below_step (Below.refl _ _).drew hb2) 0 0).below hb3).below hb4).put r1 r2⟩
      · go_wp2
        go_meet
        case rel => exact ⟨_, rfl, rfl, ((((NB.new (Below.refl _ _) 0 0).drew.below hb2).below hb3).below hb4).put r1 r2⟩
    case rest =>
      obtain ⟨g, rfl, rfl, hnb⟩ := hcut
      have HG := Lib.hid hnb
      have HB1 := Lib.hid (below_step HB.out hnb.2.2)
      have HX1 := Lib.hid (blk_below HX.out hnb.2.2)
      clear hnb HB HX
      go_wp2_with fail
      refine (S17.out _ (HL.out.below HB1.out)).mono ?_
      rintro e w5 ⟨⟨g2, rfl, hg2, hL2⟩, hb⟩
      have HL2 := Lib.hid hL2
      have HG2 := Lib.hid (HG.out.below hb)
      have HB2 := Lib.hid (below_step HB1.out hb)
      have HX2 := Lib.hid (blk_below HX1.out hb)
      clear hb hL2 hg2 HB1 HX1 HG
      have c0 := blk_cell HX2.out 0
      have c1 := blk_cell HX2.out 1
      simp only [List.getElem?_toArray, List.getElem?_cons_zero, List.getElem?_cons_succ] at c0 c1
      go_wp2_with fail
      refine (S12.out _).mono ?_
      rintro e w6 ⟨rfl, hb⟩
      have HL3 := Lib.hid (HL2.out.below hb)
      have HG3 := Lib.hid (HG2.out.below hb)
      have HB3 := Lib.hid (below_step HB2.out hb)
      clear hb c0 c1 HL2 HG2 HB2 HX2
      go_wp2_with fail
      refine (S18.out _ _ _ HL3.out).mono ?_
      rintro e w7 ⟨rfl, hb⟩
      have HL4 := Lib.hid (HL3.out.below hb)
      have HG4 := Lib.hid (HG3.out.below hb)
      have HB4 := Lib.hid (below_step HB3.out hb)
      clear hb HL3 HG3 HB3
      have hgl := blk_lt HG4.out.1
      have c0 := blk_cell HG4.out.1 0
      have c1 := blk_cell HG4.out.1 1
      simp only [List.getElem?_toArray, List.getElem?_cons_zero, List.getElem?_cons_succ] at c0 c1
      go_wp2_with fail
      refine (eqFraction_any _ _ _).mono ?_
      rintro e w8 ⟨rfl, hb⟩
      have HL5 := Lib.hid ((HL4.out.alloc _).below hb)
      have HB5 := Lib.hid (below_step (below_alloc HB4.out _) hb)
      clear hb HL4 HG4 HB4 c0 c1
      go_wp2_with fail
      refine (S17.out _ (HL.out.below HB5.out)).mono ?_
      rintro e w9 ⟨⟨g3, rfl, hg3, hL3⟩, hb⟩
      have HL6 := Lib.hid (HL5.out.below hb)
      have HB6 := Lib.hid (below_step HB5.out hb)
      clear hb
      go_wp2_with fail
      refine (S19.out _ _ _ _ _ HL6.out hL3).mono ?_
      rintro e w10 ⟨rfl, hb⟩
      have HB7 := Lib.hid (below_step HB6.out hb)
      go_wp2
      go_ret
      exact ⟨rfl, HB7.out⟩
  · rw [if_neg hle]
    go_wp2
    go_ret
    exact ⟨rfl, HB.out⟩
end Go.Proofs.Ytaplebckjbbobaa.Low
