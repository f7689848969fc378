/- The value of a list of moves: the program's and the reference's RunMoves. -/
import Derived.Test.YtaplebckjbbobaaRunA
namespace Go.Proofs.Ytaplebckjbbobaa.Low
open Go.RowKit Go.Proofs.YtaplebckjbbobaaW.PrintWords Go.Proofs.YtaplebckjbbobaaW.PrintMore FracMath PFnExactMoveFraction
set_option linter.unusedSimpArgs false

/-- what a list of moves makes of a fraction -/
def Ran : List M3 → Int → Int → Int × Int × Int → Prop
  | [], p, q, r => r = (p, q, 0)
  | m :: L, p, q, r => ∃ N D, IsVal m.1 m.2.1 m.2.2 p q N D ∧ ((Fits N D ∧ Ran L N D r) ∨ (¬ Fits N D ∧ r = (0, 0, 3)))
theorem fits_Fr {m0 m1 m2 p q N D : Int} (hv : IsVal m0 m1 m2 p q N D) (h : Fits N D) : Fr N D := by
  have h0 : 0 < D ∨ (D = 0 ∧ N = 1) := by
    have := hv.nonneg
    by_cases hD : D = 0
    · exact .inr ⟨hD, hv.inf hD⟩
    · exact .inl (by omega)
  have := fits_fr hv.cop h0
  rw [decide_eq_true h] at this
  exact of_decide_eq_true this
theorem ran_exists : ∀ (L : List M3) (p q : Int), (∀ m ∈ L, Mv m.1 m.2.1 m.2.2) → Fr p q → ∃ r, Ran L p q r := by
  intro L
  induction L with
  | nil => intro p q _ _; exact ⟨_, rfl⟩
  | cons m L ih =>
    intro p q hm hx
    obtain ⟨N, D, hv⟩ := val_exists m.1 m.2.1 m.2.2 p q (hm m (by simp)) hx
    by_cases hf : Fits N D
    · obtain ⟨r, hr⟩ := ih N D (fun m' h => hm m' (by simp [h])) (fits_Fr hv hf)
      exact ⟨r, N, D, hv, .inl ⟨hf, hr⟩⟩
    · exact ⟨_, N, D, hv, .inr ⟨hf, rfl⟩⟩
/-- the answer of RunMoves -/
def RunAns (L : List M3) (p q : Int) (r : Int × Int × Int) : Prop := if Fr p q then (if mcode L = 0 then Ran L p q r else r = (0, 0, mcode L)) else r = (0, 0, 1)
theorem mcode_zero {L : List M3} (h : mcode L = 0) : ∀ m ∈ L, Mv m.1 m.2.1 m.2.2 := by
  unfold mcode at h
  by_cases hall : ∀ m ∈ L, Mv m.1 m.2.1 m.2.2
  · exact hall
  · rw [if_neg hall] at h; omega
theorem runAns_exists (L : List M3) (p q : Int) : ∃ r1 r2 r3, RunAns L p q (r1, r2, r3) := by
  unfold RunAns
  by_cases hx : Fr p q
  · by_cases hc : mcode L = 0
    · obtain ⟨⟨r1, r2, r3⟩, hr⟩ := ran_exists L p q (mcode_zero hc) hx
      exact ⟨r1, r2, r3, by rw [if_pos hx, if_pos hc]; exact hr⟩
    · exact ⟨0, 0, mcode L, by rw [if_pos hx, if_neg hc]⟩
  · exact ⟨0, 0, 1, by rw [if_neg hx]⟩

/-- two boxes of fractions laid at the call's head -/
structure Q2 (w W : World) (p q r s : Int) : Prop where
  b1 : W.heap[w.heap.size]? = some (.cells #[.int .i64 p, .int .i64 q] 26 (0, 0))
  b2 : W.heap[w.heap.size + 1]? = some (.cells #[.int .i64 r, .int .i64 s] 26 (0, 0))
  bel : Below w.heap.size w W
  siz : w.heap.size + 1 + 1 ≤ W.heap.size
theorem Q2.start (w : World) (p q r s : Int) : Q2 w ((w.alloc (.cells #[.int .i64 p, .int .i64 q] 26)).alloc (.cells #[.int .i64 r, .int .i64 s] 26)) p q r s := by
  refine ⟨?_, ?_, ?_, ?_⟩
  · simp only [alloc_at, World.size_alloc]; rw [if_neg (by omega), if_pos trivial]
  · simp only [alloc_at, World.size_alloc]; rw [if_pos trivial]
  · exact ((Below.refl _ _).alloc (Nat.le_refl _) _).alloc (by simp) _
  · simp
theorem Q2.below {w W W' : World} {p q r s : Int} (h : Q2 w W p q r s) (hb : Below W.heap.size W W') : Q2 w W' p q r s := by
  have hs := h.siz
  exact ⟨(hb.block _ (by omega)).trans h.b1, (hb.block _ (by omega)).trans h.b2, h.bel.trans (hb.mono (by omega)), Nat.le_trans hs hb.size⟩
theorem Q2.put {w W : World} {p q r s : Int} (h : Q2 w W p q r s) (p' q' : Int) : Q2 w ((W.setCell ⟨w.heap.size, 0, none⟩ (.int .i64 p')).setCell ⟨w.heap.size, 1, none⟩ (.int .i64 q')) p' q' r s := by
  refine ⟨by simpa using blk_set (blk_set h.b1 0 (.int .i64 p')) 1 (.int .i64 q'), ?_, (h.bel.setCell (Nat.le_refl _) _).setCell (Nat.le_refl _) _, by simpa using h.siz⟩
  rw [Below.heap_setCell _ _ _ _ (by show w.heap.size + 1 ≠ w.heap.size; omega), Below.heap_setCell _ _ _ _ (by show w.heap.size + 1 ≠ w.heap.size; omega)]
  exact h.b2
theorem Q2.put2 {w W : World} {p q r s : Int} (h : Q2 w W p q r s) (r' s' : Int) : Q2 w ((W.setCell ⟨w.heap.size + 1, 0, none⟩ (.int .i64 r')).setCell ⟨w.heap.size + 1, 1, none⟩ (.int .i64 s')) p q r' s' := by
  refine ⟨?_, by simpa using blk_set (blk_set h.b2 0 (.int .i64 r')) 1 (.int .i64 s'), (h.bel.setCell (by simp) _).setCell (by simp) _, by simpa using h.siz⟩
  rw [Below.heap_setCell _ _ _ _ (by show w.heap.size ≠ w.heap.size + 1; omega), Below.heap_setCell _ _ _ _ (by show w.heap.size ≠ w.heap.size + 1; omega)]
  exact h.b1
theorem Q2.cells {w W : World} {p q r s : Int} (h : Q2 w W p q r s) : (W.cell? ⟨w.heap.size, 0, none⟩ = some (.int .i64 p) ∧ W.cell? ⟨w.heap.size, 1, none⟩ = some (.int .i64 q)) ∧ W.cell? ⟨w.heap.size + 1, 0, none⟩ = some (.int .i64 r) ∧ W.cell? ⟨w.heap.size + 1, 1, none⟩ = some (.int .i64 s) :=
  ⟨⟨blk_cell h.b1 0, blk_cell h.b1 1⟩, blk_cell h.b2 0, blk_cell h.b2 1⟩
theorem Q2.frozen {w W : World} {p q r s : Int} (h : Q2 w W p q r s) : (W.frozen? ⟨w.heap.size, 0, none⟩ = false ∧ W.frozen? ⟨w.heap.size, 1, none⟩ = false) ∧ W.frozen? ⟨w.heap.size + 1, 0, none⟩ = false ∧ W.frozen? ⟨w.heap.size + 1, 1, none⟩ = false :=
  ⟨⟨blk_frozen h.b1 0, blk_frozen h.b1 1⟩, blk_frozen h.b2 0, blk_frozen h.b2 1⟩

theorem at_any (m0 m1 m2 p q N D : Int) (hm : Mv m0 m1 m2) (hx : Fr p q) (hv : IsVal m0 m1 m2 p q N D) : ∃ r1 r2 r3, FracMath.Told N D (r1, r2, r3) ∧ ∀ w,
    Calls Try.prog 67 #[.agg #[.int .i64 m0, .int .i64 m1, .int .i64 m2], .agg #[.int .i64 p, .int .i64 q]] w fun e w' => e = .returned (.tuple #[.agg #[.int .i64 r1, .int .i64 r2], .bool r3]) ∧ Below w.heap.size w w' := by
  obtain ⟨⟨r1, r2, r3⟩, ht, hev⟩ := at_ev m0 m1 m2 p q N D hm hx hv
  obtain ⟨k, hk⟩ := hev.rounds
  exact ⟨r1, r2, r3, ht, fun w => spec_l10At.calls k m0 m1 m2 p q r1 r2 r3 w hk⟩

theorem drop_at {L : List M3} {k : Nat} {m : M3} (h : L[k]? = some m) : L.drop k = m :: L.drop (k + 1) := by
  obtain ⟨hk, he⟩ := List.getElem?_eq_some_iff.1 h
  rw [List.drop_eq_getElem_cons hk, he]

set_option maxHeartbeats 1000000 in
set_option maxRecDepth 100000 in
theorem impl_run_any (w : World) (ao : Option Addr) (L : List M3) (n cap : Nat) (p q r1 r2 r3 : Int) (hn : n = L.length) (hcap : n ≤ 1048576) (h : Lst w ao L) (hr : RunAns L p q (r1, r2, r3)) :
    Calls Try.prog 18 #[.slice ao n cap, .agg #[.int .i64 p, .int .i64 q]] w fun e w' => e = .returned (.tuple #[.agg #[.int .i64 r1, .int .i64 r2], .int .i64 r3]) ∧ Below w.heap.size w w' := by
  have hu26 := Try.underlying26
  have HL := Lib.hid h
  have HN := Lib.hid hn
  have HR := Lib.hid hr
  have C1 := Lib.hid (fun W => isFraction_any p q W)
  have C2 := Lib.hid (fun W (hW : Lst W ao L) => movesCode_any W ao L n cap hn hcap hW)
  have HQ := Lib.hid (Q2.start w p q 0 0)
  clear h hn hr
  go_enter Try.func18, Try.ntmps18
  go_wp2_with fail
  refine (C1.out _).mono ?_
  rintro e w1 ⟨rfl, hb⟩
  have HQ1 := Lib.hid (HQ.out.below hb)
  clear hb HQ C1
  obtain ⟨⟨a0, a1⟩, c0, c1⟩ := HQ1.out.cells
  obtain ⟨⟨g0, g1⟩, f0, f1⟩ := HQ1.out.frozen
  by_cases hx : Fr p q
  · rw [decide_eq_true hx]
    clear a0 a1 c0 c1 g0 g1 f0 f1
    go_wp2_with fail
    refine (C2.out _ (HL.out.below HQ1.out.bel)).mono ?_
    rintro e w2 ⟨rfl, hb⟩
    have HQ2 := Lib.hid (HQ1.out.below hb)
    clear hb HQ1 C2
    obtain ⟨⟨a0, a1⟩, c0, c1⟩ := HQ2.out.cells
    obtain ⟨⟨g0, g1⟩, f0, f1⟩ := HQ2.out.frozen
    by_cases hc : mcode L = 0
    · rw [hc]
      clear a0 a1 c0 c1 g0 g1 f0 f1
      go_wp2
      go_loopw [23] (fun i wr => ∃ (k : Nat) (p' q' : Int), i = .int .i64 k ∧ k ≤ n ∧ Fr p' q' ∧ Ran (L.drop k) p' q' (r1, r2, r3) ∧ Q2 w wr p' q' 0 0) (fun i _ => n - (intOf i).toNat)
      case atStart =>
        have hh := HR.out
        unfold RunAns at hh
        rw [if_pos hx, if_pos hc] at hh
        exact ⟨0, p, q, rfl, Nat.zero_le _, hx, hh, HQ2.out⟩
      case round =>
        obtain ⟨k, p', q', rfl, hk, hx', hran, hq⟩ := hrel
        have HQ := Lib.hid hq
        have HRN := Lib.hid hran
        clear hq hran
        by_cases hlt : k < n
        · obtain ⟨m, hm⟩ : ∃ m, L[k]? = some m := ⟨L[k]'(by rw [← HN.out]; exact hlt), by simp⟩
          have hM := mcode_zero hc m (List.mem_of_getElem? hm)
          obtain ⟨N, D, hv, hcase⟩ : ∃ N D, IsVal m.1 m.2.1 m.2.2 p' q' N D ∧ ((Fits N D ∧ Ran (L.drop (k + 1)) N D (r1, r2, r3)) ∨ (¬ Fits N D ∧ (r1, r2, r3) = (0, 0, 3))) := by
            have hh := HRN.out
            rw [drop_at hm] at hh
            exact hh
          obtain ⟨a, rfl, hab, c0, c1, c2⟩ := (HL.out.below HQ.out.bel) k m hm
          obtain ⟨⟨x0, x1⟩, y0, y1⟩ := HQ.out.cells
          obtain ⟨s1, s2, s3, hs⟩ : ∃ s1 s2 s3 : Int, (s1, s2, s3) = if Fits N D then (N, D, 0) else (0, 0, 3) := by
            by_cases hf : Fits N D
            · exact ⟨N, D, 0, by rw [if_pos hf]⟩
            · exact ⟨0, 0, 3, by rw [if_neg hf]⟩
          have C3 := Lib.hid (fun W => move_any m.1 m.2.1 m.2.2 p' q' W hM hx' N D hv s1 s2 s3 hs)
          have hk1 : (0 : Int) ≤ (k : Int) := by omega
          have hk2 : (k : Int) < (n : Int) := by omega
          have HV := Lib.hid hv
          have HC := Lib.hid hcase
          have HS := Lib.hid hs
          have hsz := HQ.out.siz
          have l0 : w.heap.size < wr.heap.size := by omega
          have l1 : w.heap.size + 1 < wr.heap.size := by omega
          clear hv hcase hs hm hM hx'
          go_wp2_with fail
          refine (C3.out _).mono ?_
          rintro e w3 ⟨rfl, hb⟩
          have HQ3 := Lib.hid ((HQ.out.below (below_alloc (Below.refl _ _) _)).below hb)
          clear hb c0 c1 c2 x0 x1 y0 y1 HQ
          obtain ⟨⟨x0, x1⟩, y0, y1⟩ := HQ3.out.cells
          obtain ⟨⟨g0, g1⟩, f0, f1⟩ := HQ3.out.frozen
          have hsz3 := HQ3.out.siz
          have l2 : w.heap.size < w3.heap.size := by omega
          have l3 : w.heap.size + 1 < w3.heap.size := by omega
          rcases HC.out with ⟨hf, hran'⟩ | ⟨hf, hres⟩
          · have hs := HS.out
            rw [if_pos hf] at hs
            simp only [Prod.mk.injEq] at hs
            obtain ⟨rfl, rfl, rfl⟩ := hs
            have HRN' := Lib.hid hran'
            have hx3 := fits_Fr HV.out hf
            clear hran' HC HS
            go_wp2
            go_roundw
            case rel => exact ⟨k + 1, _, _, by go_num, by omega, hx3, HRN'.out, (HQ3.out.put _ _).below (below_alloc (Below.refl _ _) _)⟩
            case measure => simp [intOf]; omega
          · have hs := HS.out
            rw [if_neg hf] at hs
            simp only [Prod.mk.injEq] at hs hres
            obtain ⟨rfl, rfl, rfl⟩ := hs
            obtain ⟨rfl, rfl, rfl⟩ := hres
            clear HC HS
            go_wp2
            have HX := Lib.hid ((HQ3.out.put2 0 0).below (below_alloc (Below.refl _ _) (.cells #[.int .i64 0, .int .i64 0] 26)))
            obtain ⟨_, z0, z1⟩ := HX.out.cells
            exact bodyPost_ret (v := .tuple #[.agg #[.int .i64 0, .int .i64 0], .int .i64 3]) (by simp [results, Try.results18, go_sem, z0, z1]) rfl ⟨rfl, HX.out.bel⟩
        · have hh := HRN.out
          rw [show k = L.length from by have := HN.out; omega, List.drop_length] at hh
          obtain ⟨⟨x0, x1⟩, y0, y1⟩ := HQ.out.cells
          obtain ⟨⟨g0, g1⟩, f0, f1⟩ := HQ.out.frozen
          simp only [Ran, Prod.mk.injEq] at hh
          obtain ⟨rfl, rfl, rfl⟩ := hh
          go_wp2
          refine bodyPost_ret (v := .tuple #[.agg #[.int .i64 r1, .int .i64 r2], .int .i64 0]) (by simp [results, Try.results18, go_sem, y0, y1]) rfl ⟨rfl, ?_⟩
          exact (HQ.out.bel.setCell (by simp) _).setCell (by simp) _
    · have hh := HR.out
      unfold RunAns at hh
      rw [if_pos hx, if_neg hc] at hh
      simp only [Prod.mk.injEq] at hh
      obtain ⟨rfl, rfl, rfl⟩ := hh
      have hc' : (mcode L != 0) = true := by simpa using hc
      go_wp2
      refine bodyPost_ret (v := .tuple #[.agg #[.int .i64 0, .int .i64 0], .int .i64 (mcode L)]) (by simp [results, Try.results18, go_sem, c0, c1]) rfl ⟨rfl, ?_⟩
      exact (HQ2.out.bel.setCell (by simp) _).setCell (by simp) _
  · rw [decide_eq_false hx]
    have hh := HR.out
    unfold RunAns at hh
    rw [if_neg hx] at hh
    simp only [Prod.mk.injEq] at hh
    obtain ⟨rfl, rfl, rfl⟩ := hh
    go_wp2
    refine bodyPost_ret (v := .tuple #[.agg #[.int .i64 0, .int .i64 0], .int .i64 1]) (by simp [results, Try.results18, go_sem, c0, c1]) rfl ⟨rfl, ?_⟩
    exact (HQ1.out.bel.setCell (by simp) _).setCell (by simp) _
end Go.Proofs.Ytaplebckjbbobaa.Low
