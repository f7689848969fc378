/- The reference's RunMoves. -/
import Derived.Test.YtaplebckjbbobaaRunB
namespace Go.Proofs.Ytaplebckjbbobaa.Low
open Go.RowKit Go.Proofs.YtaplebckjbbobaaW.PrintWords Go.Proofs.YtaplebckjbbobaaW.PrintMore FracMath PFnExactMoveFraction
set_option linter.unusedSimpArgs false

/-- the cells of a move in a list and of a box -/
abbrev C5 (x : Addr) (b : Nat) (m0 m1 m2 p q : Int) (W : World) : Prop := W.cell? x = some (.int .i64 m0) ∧ W.cell? ⟨x.block, x.off + 1, none⟩ = some (.int .i64 m1) ∧ W.cell? ⟨x.block, x.off + 2, none⟩ = some (.int .i64 m2) ∧ W.cell? ⟨b, 0, none⟩ = some (.int .i64 p) ∧ W.cell? ⟨b, 1, none⟩ = some (.int .i64 q)
section
variable {x : Addr} {b g : Nat} {m0 m1 m2 p q : Int} {W W' : World} {o o' : Obj} {u v : Value}
theorem keepC (hb : Below W.heap.size W W') (h : C5 x b m0 m1 m2 p q W) : C5 x b m0 m1 m2 p q W' :=
  ⟨pw_cell_below hb h.1, pw_cell_below hb h.2.1, pw_cell_below hb h.2.2.1, pw_cell_below hb h.2.2.2.1, pw_cell_below hb h.2.2.2.2⟩
theorem keepCa (h : C5 x b m0 m1 m2 p q W) : C5 x b m0 m1 m2 p q (W.alloc o) := keepC (below_alloc (Below.refl _ _) o) h
theorem alloc_cell' {a : Addr} (h : a.block < W.heap.size) : (W.alloc o).cell? a = W.cell? a := World.cell?_of_block (w := W) (Below.heap_alloc W o a.block h)
theorem set_cell' {pa : Addr} {a : Addr} (h : a.block ≠ pa.block) : (W.setCell pa u).cell? a = W.cell? a := World.cell?_of_block (w := W) (Below.heap_setCell W pa u a.block h)
theorem keepCc (hx : x.block < W.heap.size) (hb : b < W.heap.size) (h : C5 x b m0 m1 m2 p q (W.alloc o)) : C5 x b m0 m1 m2 p q (W.alloc o') := by
  have e : ∀ a : Addr, a.block < W.heap.size → (W.alloc o').cell? a = (W.alloc o).cell? a := fun a ha => (alloc_cell' ha).trans (alloc_cell' ha).symm
  exact ⟨(e x hx).trans h.1, (e ⟨x.block, x.off + 1, none⟩ hx).trans h.2.1, (e ⟨x.block, x.off + 2, none⟩ hx).trans h.2.2.1, (e ⟨b, 0, none⟩ hb).trans h.2.2.2.1, (e ⟨b, 1, none⟩ hb).trans h.2.2.2.2⟩
theorem keepCd (hx : x.block < g) (hb : b < g) (h : C5 x b m0 m1 m2 p q W) : C5 x b m0 m1 m2 p q ((W.setCell ⟨g, 0, none⟩ u).setCell ⟨g, 1, none⟩ v) := by
  have e : ∀ a : Addr, a.block < g → ((W.setCell ⟨g, 0, none⟩ u).setCell ⟨g, 1, none⟩ v).cell? a = W.cell? a := fun a ha => (set_cell' (Nat.ne_of_lt ha)).trans (set_cell' (Nat.ne_of_lt ha))
  exact ⟨(e x hx).trans h.1, (e ⟨x.block, x.off + 1, none⟩ hx).trans h.2.1, (e ⟨x.block, x.off + 2, none⟩ hx).trans h.2.2.1, (e ⟨b, 0, none⟩ hb).trans h.2.2.2.1, (e ⟨b, 1, none⟩ hb).trans h.2.2.2.2⟩
end

/-- what stands behind a call whose fraction was stored into a new box -/
def NB (W0 : World) (r1 r2 : Int) (g : Nat) (W : World) : Prop := W.heap[g]? = some (.cells #[.int .i64 r1, .int .i64 r2] 26 (0, 0)) ∧ W0.heap.size ≤ g ∧ Below W0.heap.size W0 W
theorem NB.new {W0 W : World} (h : Below W0.heap.size W0 W) (r1 r2 : Int) : NB W0 r1 r2 W.heap.size (W.alloc (.cells #[.int .i64 r1, .int .i64 r2] 26)) := ⟨heap_alloc_new _ _, h.size, below_alloc h _⟩
theorem NB.below {W0 W W' : World} {r1 r2 : Int} {g : Nat} (h : NB W0 r1 r2 g W) (hb : Below W.heap.size W W') : NB W0 r1 r2 g W' := ⟨blk_below h.1 hb, h.2.1, below_step h.2.2 hb⟩
theorem NB.drew {W0 W : World} {r1 r2 : Int} {g : Nat} (h : NB W0 r1 r2 g W) : NB W0 r1 r2 g W.drew := ⟨h.1, h.2.1, h.2.2.drew⟩
theorem NB.put {W0 W : World} {s1 s2 : Int} {g : Nat} (h : NB W0 s1 s2 g W) (r1 r2 : Int) : NB W0 r1 r2 g ((W.setCell ⟨g, 0, none⟩ (.int .i64 r1)).setCell ⟨g, 1, none⟩ (.int .i64 r2)) :=
  ⟨by simpa using blk_set (blk_set h.1 0 (.int .i64 r1)) 1 (.int .i64 r2), h.2.1, (h.2.2.setCell h.2.1 _).setCell h.2.1 _⟩
theorem bcell {W w1 : World} (hb : Below W.heap.size W w1) : (∀ b o, b < W.heap.size → w1.cell? ⟨b, o, none⟩ = W.cell? ⟨b, o, none⟩) ∧ (∀ b o, b < W.heap.size → w1.frozen? ⟨b, o, none⟩ = W.frozen? ⟨b, o, none⟩) :=
  ⟨fun b o h => hb.cell (p := ⟨b, o, none⟩) h, fun b o h => hb.frozen (p := ⟨b, o, none⟩) h⟩
theorem hdrew (w : World) : w.drew.heap = w.heap := rfl

set_option maxHeartbeats 1000000 in
set_option maxRecDepth 100000 in
theorem spec_run_any (w : World) (ao : Option Addr) (L : List M3) (n cap : Nat) (p q r1 r2 r3 : Int) (hn : n = L.length) (hcap : n ≤ 1048576) (h : Lst w ao L) (hr : RunAns L p q (r1, r2, r3)) :
    Calls Try.prog 16 #[.slice ao n cap, .agg #[.int .i64 p, .int .i64 q]] w fun e w' => e = .returned (.tuple #[.agg #[.int .i64 r1, .int .i64 r2], .int .i64 r3]) ∧ Below w.heap.size w w' := by
  have hu26 := Try.underlying26
  have HL := Lib.hid h
  have HN := Lib.hid hn
  have HR := Lib.hid hr
  have C1 := Lib.hid (fun W => spec_is_any p q W)
  have C2 := Lib.hid (fun W (hW : Lst W ao L) => l10Moves_any W ao L n cap hn hcap hW)
  have HQ := Lib.hid (Q2.start w p q 0 0)
  clear h hn hr
  go_enter Try.func16, Try.ntmps16
  go_wp2_with fail
  refine (C1.out _).mono ?_
  rintro e w1 ⟨rfl, hb⟩
  have HQ1 := Lib.hid (HQ.out.below hb)
  clear hb HQ C1
  obtain ⟨⟨a0, a1⟩, c0, c1⟩ := HQ1.out.cells
  obtain ⟨⟨g0, g1⟩, f0, f1⟩ := HQ1.out.frozen
  by_cases hx : Fr p q
  · rw [decide_eq_true hx]
    clear a0 a1 c0 c1 g0 g1 f0 f1
    go_wp2_with fail
    refine (C2.out _ (HL.out.below HQ1.out.bel)).mono ?_
    rintro e w2 ⟨rfl, hb⟩
    have HQ2 := Lib.hid (HQ1.out.below hb)
    clear hb HQ1 C2
    obtain ⟨⟨a0, a1⟩, c0, c1⟩ := HQ2.out.cells
    obtain ⟨⟨g0, g1⟩, f0, f1⟩ := HQ2.out.frozen
    by_cases hc : mcode L = 0
    · rw [hc]
      clear a0 a1 c0 c1 g0 g1 f0 f1
      go_wp2
      go_loopw [7] (fun i wr => ∃ (k : Nat) (p' q' : Int), i = .int .i64 k ∧ k ≤ n ∧ Fr p' q' ∧ Ran (L.drop k) p' q' (r1, r2, r3) ∧ Q2 w wr p' q' 0 0) (fun i _ => n - (intOf i).toNat)
      case atStart =>
        have hh := HR.out
        unfold RunAns at hh
        rw [if_pos hx, if_pos hc] at hh
        exact ⟨0, p, q, rfl, Nat.zero_le _, hx, hh, HQ2.out⟩
      case round =>
        obtain ⟨k, p', q', rfl, hk, hx', hran, hq⟩ := hrel
        have HQ := Lib.hid hq
        have HRN := Lib.hid hran
        clear hq hran
        by_cases hlt : k < n
        · obtain ⟨m, hm⟩ : ∃ m, L[k]? = some m := ⟨L[k]'(by rw [← HN.out]; exact hlt), by simp⟩
          have hM := mcode_zero hc m (List.mem_of_getElem? hm)
          obtain ⟨N, D, hv, hcase⟩ : ∃ N D, IsVal m.1 m.2.1 m.2.2 p' q' N D ∧ ((Fits N D ∧ Ran (L.drop (k + 1)) N D (r1, r2, r3)) ∨ (¬ Fits N D ∧ (r1, r2, r3) = (0, 0, 3))) := by
            have hh := HRN.out
            rw [drop_at hm] at hh
            exact hh
          obtain ⟨a, rfl, hab, c0, c1, c2⟩ := (HL.out.below HQ.out.bel) k m hm
          obtain ⟨⟨x0, x1⟩, y0, y1⟩ := HQ.out.cells
          obtain ⟨s1, s2, s3, ht, hcall⟩ := at_any m.1 m.2.1 m.2.2 p' q' N D hM hx' hv
          have C3 := Lib.hid hcall
          have hk1 : (0 : Int) ≤ (k : Int) := by omega
          have hk2 : (k : Int) < (n : Int) := by omega
          have HV := Lib.hid hv
          have HC := Lib.hid hcase
          have HT := Lib.hid ht
          have hsz := HQ.out.siz
          have hxb : (a.add (k * 3)).block < wr.heap.size := by rw [add_block]; exact hab
          have l0 : w.heap.size < wr.heap.size := by omega
          have l1 : w.heap.size + 1 < wr.heap.size := by omega
          clear hv hcase ht hm hM hx' hcall
          go_upto_region 9 with (fail)
          go_cut [8, 9] (fun v8 v9 wc => ∃ g : Nat, v8 = .pointer (some ⟨g, 0, none⟩) ∧ v9 = .bool s3 ∧ NB wr s1 s2 g wc)
          case first =>
            have z0 : w.heap.size + 1 + 1 ≤ wr.drew.heap.size := hsz
            have hxd : (a.add (k * 3)).block < wr.drew.heap.size := hxb
            go_region_held3 (fun W' => W'.cell? (a.add (k * 3)) = some (.int .i64 m.1) ∧ W'.cell? ⟨(a.add (k * 3)).block, (a.add (k * 3)).off + 1, none⟩ = some (.int .i64 m.2.1) ∧ W'.cell? ⟨(a.add (k * 3)).block, (a.add (k * 3)).off + 2, none⟩ = some (.int .i64 m.2.2) ∧ W'.cell? ⟨w.heap.size, 0, none⟩ = some (.int .i64 p') ∧ W'.cell? ⟨w.heap.size, 1, none⟩ = some (.int .i64 q'))
              (first | (go_keep; done) | (apply keepC; (case hb => assumption); (case h => assumption)) | (apply keepCa; assumption) | (apply keepCc; (case hx => first | assumption | omega); (case hb => omega); (case h => assumption)) | (apply keepCd; (case hx => first | assumption | omega); (case hb => omega); (case h => assumption)))
              ((first
                | (go_at_call 67; refine (C3.out _).mono ?_; rintro e w3 ⟨rfl, hb3⟩; have z3 := hb3.size; have y3 := hb3.size; (try simp at y3); obtain ⟨k3, q3⟩ := bcell hb3; (try simp only [hdrew, World.size_alloc] at k3 q3 y3); (try have u3 : wr.heap.size < w3.heap.size := by omega))))
            · go_wp2
              go_meet
              case rel => exact ⟨_, rfl, rfl, NB.new (below_step (Below.refl _ _).drew hb3) s1 s2⟩
            · go_wp2
              go_meet
              case rel => exact ⟨_, rfl, rfl, ((NB.new (Below.refl _ _) 0 0).drew.below hb3).put s1 s2⟩
          case rest =>
            obtain ⟨g, rfl, rfl, hnb⟩ := hcut
            have HQ3 := Lib.hid (HQ.out.below hnb.2.2)
            have hgg : wr.heap.size ≤ g := hnb.2.1
            have e0 := blk_cell hnb.1 0
            have e1 := blk_cell hnb.1 1
            simp only [List.getElem?_toArray, List.getElem?_cons_zero, List.getElem?_cons_succ] at e0 e1
            clear hnb c0 c1 c2 x0 x1 y0 y1 HQ
            obtain ⟨⟨x0, x1⟩, y0, y1⟩ := HQ3.out.cells
            obtain ⟨⟨g0, g1⟩, f0, f1⟩ := HQ3.out.frozen
            have hsz3 := HQ3.out.siz
            rcases HC.out with ⟨hf, hran'⟩ | ⟨hf, hres⟩
            · have hs := HT.out.1 hf
              simp only [Prod.mk.injEq] at hs
              obtain ⟨rfl, rfl, rfl⟩ := hs
              have HRN' := Lib.hid hran'
              have hx3 := fits_Fr HV.out hf
              clear hran' HC HT
              go_wp2
              go_roundw
              case rel => exact ⟨k + 1, _, _, by go_num, by omega, hx3, HRN'.out, HQ3.out.put _ _⟩
              case measure => simp [intOf]; omega
            · have hs := HT.out.2 hf
              simp only [Prod.mk.injEq] at hs hres
              obtain rfl : s3 = false := hs
              obtain ⟨rfl, rfl, rfl⟩ := hres
              clear HC HT
              go_wp2
              have HX := Lib.hid (HQ3.out.put2 0 0)
              obtain ⟨_, z0, z1⟩ := HX.out.cells
              exact bodyPost_ret (v := .tuple #[.agg #[.int .i64 0, .int .i64 0], .int .i64 3]) (by simp [results, Try.results16, go_sem, z0, z1, y0, y1]) rfl ⟨rfl, HX.out.bel⟩
        · have hh := HRN.out
          rw [show k = L.length from by have := HN.out; omega, List.drop_length] at hh
          obtain ⟨⟨x0, x1⟩, y0, y1⟩ := HQ.out.cells
          obtain ⟨⟨g0, g1⟩, f0, f1⟩ := HQ.out.frozen
          simp only [Ran, Prod.mk.injEq] at hh
          obtain ⟨rfl, rfl, rfl⟩ := hh
          go_wp2
          refine bodyPost_ret (v := .tuple #[.agg #[.int .i64 r1, .int .i64 r2], .int .i64 0]) (by simp [results, Try.results16, go_sem, y0, y1]) rfl ⟨rfl, ?_⟩
          exact (HQ.out.bel.setCell (by simp) _).setCell (by simp) _
    · have hh := HR.out
      unfold RunAns at hh
      rw [if_pos hx, if_neg hc] at hh
      simp only [Prod.mk.injEq] at hh
      obtain ⟨rfl, rfl, rfl⟩ := hh
      have hc' : (mcode L != 0) = true := by simpa using hc
      go_wp2
      refine bodyPost_ret (v := .tuple #[.agg #[.int .i64 0, .int .i64 0], .int .i64 (mcode L)]) (by simp [results, Try.results16, go_sem, c0, c1]) rfl ⟨rfl, ?_⟩
      exact (HQ2.out.bel.setCell (by simp) _).setCell (by simp) _
  · rw [decide_eq_false hx]
    have hh := HR.out
    unfold RunAns at hh
    rw [if_neg hx] at hh
    simp only [Prod.mk.injEq] at hh
    obtain ⟨rfl, rfl, rfl⟩ := hh
    go_wp2
    refine bodyPost_ret (v := .tuple #[.agg #[.int .i64 0, .int .i64 0], .int .i64 1]) (by simp [results, Try.results16, go_sem, c0, c1]) rfl ⟨rfl, ?_⟩
    exact (HQ1.out.bel.setCell (by simp) _).setCell (by simp) _
end Go.Proofs.Ytaplebckjbbobaa.Low
