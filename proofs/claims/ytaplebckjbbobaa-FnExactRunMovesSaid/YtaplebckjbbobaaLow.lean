/- The program's 'lowest' returns the fraction in least terms of two products, or the limit's code where a part of it is too great. -/
import Derived.Test.YtaplebckjbbobaaMathL
import Derived.Outline
import Derived.Lib.Hide
import Derived.WalkLawsBesides
namespace Go.Proofs.Ytaplebckjbbobaa.Low
open Go.RowKit Go.Proofs.YtaplebckjbbobaaW.PrintWords Go.Proofs.YtaplebckjbbobaaW.PrintMore FracMath PFnExactMoveFraction

/-- block g holds a row of numbers that the call has made, from base on -/
def Rw (w : World) (base g n cap : Nat) (xs : List Int) : Prop := n = xs.length ∧ Kd.R (Kd.int .i64) 2 w base (fun k => k = g) (.slice (some ⟨g, 0, none⟩) n cap) xs
section
variable {w w1 : World} {base g g2 n cap : Nat} {xs : List Int}
theorem Rw.of {ok : Nat → Prop} (h : Kd.R (Kd.int .i64) 2 w base ok (.slice (some ⟨g, 0, none⟩) n cap) xs) : Rw w base g n cap xs := by
  refine ⟨(Kd.R_reads' h).1, Kd.R_mono (Kd.R_tight rfl h) (fun k hk => ?_)⟩
  simpa [Value.ownBlock] using hk
theorem Rw.cell (h : Rw w base g n cap xs) (i : Nat) (hi : i < xs.length) : w.cell? ⟨g, i, none⟩ = some (.int .i64 (xs.getD i 0)) ∧ w.frozen? ⟨g, i, none⟩ = false := by
  have h1 := Kd.R_celln (0 : Int) h.2 (i : Int) (by omega) (by have := h.1; omega)
  simpa [rdOf, Kd.int] using h1
theorem Rw.set (h : Rw w base g n cap xs) (i : Nat) (x : Int) : Rw (w.setCell ⟨g, i, none⟩ (.int .i64 x)) base g n cap (xs.set i x) := by
  refine ⟨by rw [List.length_set]; exact h.1, ?_⟩
  exact Kd.R_putn h.2 (i : Int) x
theorem Rw.far (h : Rw w base g n cap xs) (hne : g ≠ g2) (i : Nat) (u : Value) : Rw (w.setCell ⟨g2, i, none⟩ u) base g n cap xs :=
  ⟨h.1, Kd.R_far (p := ⟨g2, i, none⟩) h.2 (fun k hk => by subst hk; exact hne) u⟩
theorem Rw.below (h : Rw w base g n cap xs) (hb : Below w.heap.size w w1) : Rw w1 base g n cap xs := ⟨h.1, Kd.R_below h.2 hb⟩
theorem Rw.drewN (h : Rw w base g n cap xs) (m : Nat) : Rw (w.drewN m) base g n cap xs := ⟨h.1, Kd.R_drewN h.2 m⟩
theorem Rw.alloc (h : Rw w base g n cap xs) (o : Obj) : Rw (w.alloc o) base g n cap xs := ⟨h.1, Kd.R_alloc h.2 o⟩
theorem Rw.reads (h : Rw w base g n cap xs) : Kd.C (Kd.int .i64) w (some ⟨g, 0, none⟩) xs.length xs ∧ xs.length ≤ cap := by
  have := Kd.R_reads' h.2
  exact ⟨this.2.2, by omega⟩
theorem Rw.base_le (h : Rw w base g n cap xs) : base ≤ g := Kd.R_base h.2 g rfl
theorem Rw.lt (h : Rw w base g n cap xs) : g < w.heap.size := Kd.R_lt h.2 g rfl
end

theorem contains_any {w : World} {base g n cap : Nat} {xs : List Int} (h : Rw w base g n cap xs) (hn : n ≤ 1000) :
    Calls Try.prog 112 #[.slice (some ⟨g, 0, none⟩) n cap, .int .i64 0] w fun e w' => e = .returned (.bool (decide ((0 : Int) ∈ xs))) ∧ Drawn0 w w' := by
  obtain ⟨k, hk⟩ := contains_ev xs (by have := h.1; omega)
  have := slices_Contains_int64_int64.calls k (some ⟨g, 0, none⟩) cap xs 0 _ w h.reads.1 h.reads.2 hk
  rw [← h.1] at this; exact this
theorem product_any {w : World} {base g n cap : Nat} {xs : List Int} (h : Rw w base g n cap xs) (hn : n ≤ 1000) (hb : ∀ j, j < xs.length → (xs.getD j 0).natAbs ≤ 2000000000 ∧ xs.getD j 0 ≠ 0) :
    Calls Try.prog 113 #[.slice (some ⟨g, 0, none⟩) n cap] w fun e w' => e = .returned (.tuple #[.int .i64 (if (prodI xs).natAbs ≤ 1000000000 then prodI xs else 0), .bool (decide ((prodI xs).natAbs ≤ 1000000000))]) ∧ Drawn0 w w' := by
  obtain ⟨k, hk⟩ := prod_ev xs (by have := h.1; omega) hb
  have := impl_product.calls k (some ⟨g, 0, none⟩) cap xs _ _ w h.reads.1 h.reads.2 hk
  rw [← h.1] at this; exact this

set_option maxHeartbeats 1000000 in
set_option maxRecDepth 100000 in
theorem lowest_any (w : World) (base g1 g2 n1 n2 c1 c2 : Nat) (A B : List Int) (h1 : Rw w base g1 n1 c1 A) (h2 : Rw w base g2 n2 c2 B) (hne : g1 ≠ g2) (hbase : base ≤ w.heap.size)
    (hlA : n1 ≤ 1000) (hlB : n2 ≤ 1000) (bA : ∀ j, j < A.length → (A.getD j 0).natAbs ≤ 2000000000) (bB : ∀ j, j < B.length → (B.getD j 0).natAbs ≤ 2000000000 ∧ B.getD j 0 ≠ 0)
    (N D : Int) (hD : 0 < D) (hc : Int.gcd N D = 1) (hr : N * prodI B = prodI A * D) (r1 r2 r3 : Int) (hres : (r1, r2, r3) = if Fits N D then (N, D, 0) else (0, 0, 3)) :
    Calls Try.prog 102 #[.slice (some ⟨g1, 0, none⟩) n1 c1, .slice (some ⟨g2, 0, none⟩) n2 c2] w fun e w' =>
      e = .returned (.tuple #[.agg #[.int .i64 r1, .int .i64 r2], .int .i64 r3]) ∧ Below base w w' := by
  have hu26 := Try.underlying26
  have hg1 := h1.lt
  have hg2 := h2.lt
  have H1 := Lib.hid h1
  have H2 := Lib.hid h2
  have HI := Lib.hid (LInv.start bA bB)
  have HR := Lib.hid (And.intro hc hr)
  have HS := Lib.hid hres
  clear h1 h2 bA bB hc hr hres
  go_enter Try.func102, Try.ntmps102
  go_wp2
  go_loopw [15] (fun i wr => ∃ (k : Nat) (A' B' : List Int), i = .int .i64 k ∧ k ≤ n1 ∧ LInv A B A' B' k 0 ∧ Rw wr base g1 n1 c1 A' ∧ Rw wr base g2 n2 c2 B' ∧ wr.heap[w.heap.size]? = some (.cells #[.int .i64 0, .int .i64 0] 26 (0, 0)) ∧ Below base w wr ∧ w.heap.size < wr.heap.size) (fun i _ => n1 - (intOf i).toNat)
  case atStart => exact ⟨0, A, B, rfl, Nat.zero_le _, HI.out, H1.out.alloc _, H2.out.alloc _, heap_alloc_new _ _, (Below.refl _ _).alloc hbase _, by simp⟩
  case round =>
    obtain ⟨k, A', B', rfl, hk, hinv, hr1, hr2, hblk, hbel, hsz⟩ := hrel
    have HI' := Lib.hid hinv
    have R1 := Lib.hid hr1
    have R2 := Lib.hid hr2
    have HK := Lib.hid hblk
    have HB := Lib.hid hbel
    clear hinv hr1 hr2 hblk hbel HI H1 H2
    by_cases hlt : k < n1
    · go_wp2
      go_loopw [20] (fun j wr' => ∃ (l : Nat) (A2 B2 : List Int), j = .int .i64 l ∧ l ≤ n2 ∧ LInv A B A2 B2 k l ∧ Rw wr' base g1 n1 c1 A2 ∧ Rw wr' base g2 n2 c2 B2 ∧ wr'.heap[w.heap.size]? = some (.cells #[.int .i64 0, .int .i64 0] 26 (0, 0)) ∧ Below base w wr' ∧ w.heap.size < wr'.heap.size) (fun j _ => n2 - (intOf j).toNat)
      case atStart => exact ⟨0, A', B', rfl, Nat.zero_le _, HI'.out, R1.out, R2.out, HK.out, HB.out, hsz⟩
      case round =>
        clear HI' R1 R2 HK HB
        obtain ⟨l, A2, B2, rfl, hl, hinv, hr1, hr2, hblk, hbel, hsz2⟩ := hrel
        have HLA := Lib.hid hr1.1
        have HLB := Lib.hid hr2.1
        have HI' := Lib.hid hinv
        have R1 := Lib.hid hr1
        have R2 := Lib.hid hr2
        have HK := Lib.hid hblk
        have HB := Lib.hid hbel
        by_cases hlt2 : l < n2
        · have ea := (hr1.cell k (by rw [← hr1.1]; exact hlt)).1
          have eb := (hr2.cell l (by rw [← hr2.1]; exact hlt2)).1
          have fa := (hr1.cell k (by rw [← hr1.1]; exact hlt)).2
          have fb := (hr2.cell l (by rw [← hr2.1]; exact hlt2)).2
          have hst := hinv.step (by rw [← hr1.1]; exact hlt) (by rw [← hr2.1]; exact hlt2)
          have ba := hinv.ba k (by rw [← hr1.1]; exact hlt)
          have bb := (hinv.bb l (by rw [← hr2.1]; exact hlt2)).1
          clear hinv hr1 hr2 hblk hbel
          generalize A2.getD k 0 = a at *
          generalize B2.getD l 0 = b at *
          have hgd := impl_gcd_any a b
          have HGD := Lib.hid hgd
          clear hgd
          have hd1 : ((Int.gcd a b : Int) != 0) = true := by simpa using hst.1
          have hd2 : ((Int.gcd a b : Int) == 0) = false := by simpa using hst.1
          have hd3 : ¬ (Int.gcd a b : Int) = 0 := hst.1
          have HST := Lib.hid hst
          clear hst
          generalize hg : (Int.gcd a b : Int) = d at *
          have hk1 : (0 : Int) ≤ (k : Int) := by omega
          have hk2 : (k : Int) < (n1 : Int) := by omega
          have hl1 : (0 : Int) ≤ (l : Int) := by omega
          have hl2 : (l : Int) < (n2 : Int) := by omega
          go_wp2
          go_quiet ((go_at_call 87; refine Calls.quiet_of (HGD.out _ ?_ ?_ ?_ ?_) <;> omega))
          go_wp2
          go_roundw
          case rel =>
            obtain ⟨hz, q1, q2, q3⟩ := HST.out
            have e1 := w64 q1
            have e2 := w64 q2
            try simp only [e1]
            try simp only [e2]
            refine ⟨l + 1, _, _, by go_num, by omega, q3, ?_, ?_, ?_, ?_, by simp; omega⟩
            · exact ((R1.out.drewN nq).set k _).far hne l _
            · exact ((R2.out.drewN nq).far (Ne.symm hne) k _).set l _
            · exact (Below.heap_setCell _ _ _ _ (by show w.heap.size ≠ g2; omega)).trans ((Below.heap_setCell _ _ _ _ (by show w.heap.size ≠ g1; omega)).trans HK.out)
            · exact ((pw_below_drewN HB.out nq).setCell R1.out.base_le _).setCell R2.out.base_le _
          case measure => simp [intOf]; omega
        · go_wp2
          go_roundw
          case rel =>
            have hn := HI'.out
            rw [show l = B2.length from by have := HLB.out; omega] at hn
            exact ⟨k + 1, A2, B2, by go_num, by omega, hn.next, R1.out, R2.out, HK.out, HB.out, hsz2⟩
          case measure => simp [intOf]; omega
    · have hdone := HI'.out.done (by have := R1.out.1; omega) hD HR.out.1 HR.out.2
      have HCt := Lib.hid (contains_any R1.out hlA)
      have hgA : g1 ≠ w.heap.size := by omega
      by_cases hz : (0 : Int) ∈ A'
      · have hz' := decide_eq_true hz
        have hN : N = 0 := by have h0 := prodI_zero.1 hz; rcases hdone.2 with h | h <;> omega
        have hD1 : D = 1 := by have h0 := HR.out.1; rw [hN] at h0; simp [Int.gcd] at h0; omega
        have hF : Fits N D := by rw [hN, hD1]; decide
        have hS := HS.out
        rw [if_pos hF, hN, hD1] at hS
        simp only [Prod.mk.injEq] at hS
        obtain ⟨rfl, rfl, rfl⟩ := hS
        clear hN hD1 hF hdone hz
        have hb1 : ∀ (m : Nat), (wr.drewN m).heap[w.heap.size]? = some (.cells #[.int .i64 0, .int .i64 0] 26 (0, 0)) := fun m => HK.out
        go_wp2_with fail
        refine HCt.out.mono ?_
        rintro e w1 ⟨rfl, m, rfl⟩
        have hc0 := blk_cell (hb1 m) 0
        have hc1 := blk_cell (hb1 m) 1
        have hf0 := blk_frozen (hb1 m) 0
        have hf1 := blk_frozen (hb1 m) 1
        go_wp2
        refine bodyPost_ret (v := .tuple #[.agg #[.int .i64 0, .int .i64 1], .int .i64 0]) (by simp [results, Try.results102, go_sem, hc0, hc1]) rfl ⟨rfl, ?_⟩
        exact ((pw_below_drewN HB.out m).setCell hbase _).setCell hbase _
      · have hz' := decide_eq_false hz
        have hb1 : ∀ (m : Nat), (wr.drewN m).heap[w.heap.size]? = some (.cells #[.int .i64 0, .int .i64 0] 26 (0, 0)) := fun m => HK.out
        have hb2 := fun m : Nat => ((pw_below_drewN HB.out m).setCell hbase (p := ⟨w.heap.size, 0, none⟩) (.int .i64 r1)).setCell hbase (p := ⟨w.heap.size, 1, none⟩) (.int .i64 r2)
        have HP1 := Lib.hid (fun m : Nat => product_any (R1.out.drewN m) hlA (fun j hj => ⟨HI'.out.ba j hj, ne_of_not_mem hz j hj⟩))
        have HP2 := Lib.hid (fun m : Nat => product_any (R2.out.drewN m) hlB HI'.out.bb)
        have hS := HS.out
        have HB1 := Lib.hid hb1
        have HB2 := Lib.hid hb2
        clear hb1 hb2
        generalize prodI A' = P at *
        generalize prodI B' = Q at *
        by_cases c1 : P.natAbs ≤ 1000000000
        · by_cases c2 : Q.natAbs ≤ 1000000000
          · rw [if_pos (show Fits N D by unfold Fits; omega)] at hS
            simp only [Prod.mk.injEq] at hS
            obtain ⟨rfl, rfl, rfl⟩ := hS
            rw [if_pos c1, decide_eq_true c1] at HP1
            rw [if_pos c2, decide_eq_true c2] at HP2
            rcases hdone.2 with ⟨hp, rfl, rfl⟩ | ⟨hp, rfl, rfl⟩
            · have hq : ¬ Q < 0 := by omega
              clear hz hdone
              go_wp2_with fail
              refine HCt.out.mono ?_
              rintro e w1 ⟨rfl, m, rfl⟩
              go_wp2_with fail
              refine (HP1.out _).mono ?_
              rintro e w1 ⟨rfl, m2, rfl⟩
              rw [World.drewN_drewN]
              go_wp2_with fail
              refine (HP2.out _).mono ?_
              rintro e w1 ⟨rfl, m3, rfl⟩
              rw [World.drewN_drewN]
              have hb1 := HB1.out (m + m2 + m3)
              have hc0 := blk_cell hb1 0
              have hc1 := blk_cell hb1 1
              have hf0 := blk_frozen hb1 0
              have hf1 := blk_frozen hb1 1
              go_wp2
              refine bodyPost_ret (v := .tuple #[.agg #[.int .i64 P, .int .i64 Q], .int .i64 0]) (by simp [results, Try.results102, go_sem, hc0, hc1]) rfl ⟨rfl, HB2.out _⟩
            · have hq : -r2 < 0 := by omega
              have hq2 : -1000000000 ≤ r1 ∧ r1 ≤ 1000000000 := by omega
              have hq3 : r2 ≤ 1000000000 := by omega
              clear hz hdone
              go_wp2_with fail
              refine HCt.out.mono ?_
              rintro e w1 ⟨rfl, m, rfl⟩
              go_wp2_with fail
              refine (HP1.out _).mono ?_
              rintro e w1 ⟨rfl, m2, rfl⟩
              rw [World.drewN_drewN]
              go_wp2_with fail
              refine (HP2.out _).mono ?_
              rintro e w1 ⟨rfl, m3, rfl⟩
              rw [World.drewN_drewN]
              have hb1 := HB1.out (m + m2 + m3)
              have hc0 := blk_cell hb1 0
              have hc1 := blk_cell hb1 1
              have hf0 := blk_frozen hb1 0
              have hf1 := blk_frozen hb1 1
              go_wp2
              refine bodyPost_ret (v := .tuple #[.agg #[.int .i64 r1, .int .i64 r2], .int .i64 0]) (by simp [results, Try.results102, go_sem, hc0, hc1]) rfl ⟨rfl, HB2.out _⟩
          · rw [if_neg (show ¬ Fits N D by unfold Fits; omega)] at hS
            simp only [Prod.mk.injEq] at hS
            obtain ⟨rfl, rfl, rfl⟩ := hS
            rw [if_pos c1, decide_eq_true c1] at HP1
            rw [if_neg c2, decide_eq_false c2] at HP2
            clear hz hdone
            go_wp2_with fail
            refine HCt.out.mono ?_
            rintro e w1 ⟨rfl, m, rfl⟩
            go_wp2_with fail
            refine (HP1.out _).mono ?_
            rintro e w1 ⟨rfl, m2, rfl⟩
            rw [World.drewN_drewN]
            go_wp2_with fail
            refine (HP2.out _).mono ?_
            rintro e w1 ⟨rfl, m3, rfl⟩
            rw [World.drewN_drewN]
            have hb1 := HB1.out (m + m2 + m3)
            have hc0 := blk_cell hb1 0
            have hc1 := blk_cell hb1 1
            have hf0 := blk_frozen hb1 0
            have hf1 := blk_frozen hb1 1
            go_wp2
            refine bodyPost_ret (v := .tuple #[.agg #[.int .i64 0, .int .i64 0], .int .i64 3]) (by simp [results, Try.results102, go_sem, hc0, hc1]) rfl ⟨rfl, HB2.out _⟩
        · by_cases c2 : Q.natAbs ≤ 1000000000
          · rw [if_neg (show ¬ Fits N D by unfold Fits; omega)] at hS
            simp only [Prod.mk.injEq] at hS
            obtain ⟨rfl, rfl, rfl⟩ := hS
            rw [if_neg c1, decide_eq_false c1] at HP1
            rw [if_pos c2, decide_eq_true c2] at HP2
            clear hz hdone
            go_wp2_with fail
            refine HCt.out.mono ?_
            rintro e w1 ⟨rfl, m, rfl⟩
            go_wp2_with fail
            refine (HP1.out _).mono ?_
            rintro e w1 ⟨rfl, m2, rfl⟩
            rw [World.drewN_drewN]
            go_wp2_with fail
            refine (HP2.out _).mono ?_
            rintro e w1 ⟨rfl, m3, rfl⟩
            rw [World.drewN_drewN]
            have hb1 := HB1.out (m + m2 + m3)
            have hc0 := blk_cell hb1 0
            have hc1 := blk_cell hb1 1
            have hf0 := blk_frozen hb1 0
            have hf1 := blk_frozen hb1 1
            go_wp2
            refine bodyPost_ret (v := .tuple #[.agg #[.int .i64 0, .int .i64 0], .int .i64 3]) (by simp [results, Try.results102, go_sem, hc0, hc1]) rfl ⟨rfl, HB2.out _⟩
          · rw [if_neg (show ¬ Fits N D by unfold Fits; omega)] at hS
            simp only [Prod.mk.injEq] at hS
            obtain ⟨rfl, rfl, rfl⟩ := hS
            rw [if_neg c1, decide_eq_false c1] at HP1
            rw [if_neg c2, decide_eq_false c2] at HP2
            clear hz hdone
            go_wp2_with fail
            refine HCt.out.mono ?_
            rintro e w1 ⟨rfl, m, rfl⟩
            go_wp2_with fail
            refine (HP1.out _).mono ?_
            rintro e w1 ⟨rfl, m2, rfl⟩
            rw [World.drewN_drewN]
            go_wp2_with fail
            refine (HP2.out _).mono ?_
            rintro e w1 ⟨rfl, m3, rfl⟩
            rw [World.drewN_drewN]
            have hb1 := HB1.out (m + m2 + m3)
            have hc0 := blk_cell hb1 0
            have hc1 := blk_cell hb1 1
            have hf0 := blk_frozen hb1 0
            have hf1 := blk_frozen hb1 1
            go_wp2
            refine bodyPost_ret (v := .tuple #[.agg #[.int .i64 0, .int .i64 0], .int .i64 3]) (by simp [results, Try.results102, go_sem, hc0, hc1]) rfl ⟨rfl, HB2.out _⟩
end Go.Proofs.Ytaplebckjbbobaa.Low
