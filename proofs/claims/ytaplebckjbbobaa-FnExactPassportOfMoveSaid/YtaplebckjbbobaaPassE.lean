/- The program's passport of a move. -/
import Derived.Test.YtaplebckjbbobaaPassD
set_option linter.unusedSimpArgs false
namespace Go.Proofs.Ytaplebckjbbobaa.Grd
open Go.RowKit Bs

theorem pass_fin2 {w wr : World} {x y : Int} {M g g0 cap : Nat} (hb : Below w.heap.size w wr) (hr0 : RowAt wr g0 [x, y]) (hrow : RowAt wr g (2 :: List.replicate M 1)) (hln : 1 + M = (2 :: List.replicate M (1 : Int)).length)
    (hg : w.heap.size ≤ g) (hg0 : w.heap.size ≤ g0) (hne : g0 ≠ g) (hl0 : g0 < wr.heap.size) (hM : M ≤ 14) (s : Int) :
    PRes w [[x, y], 2 :: List.replicate M 1, [s]] 0 (.returned (.tuple #[.slice (some ⟨wr.heap.size + 1, 0, none⟩) 3 3, .int .i64 0]))
      ((wr.alloc (.cells #[.int .i64 s] 2)).alloc (.cells #[.slice (some ⟨g0, 0, none⟩) 2 2, .slice (some ⟨g, 0, none⟩) (1 + M) cap, .slice (some ⟨wr.heap.size, 0, none⟩) 1 1] 90)) := by
  have k1 := (hr0.alloc (.cells #[.int .i64 s] 2)).alloc (.cells #[.slice (some ⟨g0, 0, none⟩) 2 2, .slice (some ⟨g, 0, none⟩) (1 + M) cap, .slice (some ⟨wr.heap.size, 0, none⟩) 1 1] 90)
  have k2 := (hrow.alloc (.cells #[.int .i64 s] 2)).alloc (.cells #[.slice (some ⟨g0, 0, none⟩) 2 2, .slice (some ⟨g, 0, none⟩) (1 + M) cap, .slice (some ⟨wr.heap.size, 0, none⟩) 1 1] 90)
  have k3 := (RowAt.new wr s).alloc (.cells #[.slice (some ⟨g0, 0, none⟩) 2 2, .slice (some ⟨g, 0, none⟩) (1 + M) cap, .slice (some ⟨wr.heap.size, 0, none⟩) 1 1] 90)
  have kG := heap_alloc_new (wr.alloc (.cells #[.int .i64 s] 2)) (.cells #[.slice (some ⟨g0, 0, none⟩) 2 2, .slice (some ⟨g, 0, none⟩) (1 + M) cap, .slice (some ⟨wr.heap.size, 0, none⟩) 1 1] 90)
  have hs := hb.size
  have hl := hrow.lt
  simp only [World.size_alloc] at kG
  exact PRes.three (cap := 3) (x1 := [x, y]) (x2 := 2 :: List.replicate M 1) (x3 := [s]) (below_alloc (below_alloc hb _) _) (by rw [← hln]; exact kG) k1 k2 k3 hne (by omega) (by omega) hg0 hg (by omega) (by simp) (by rw [← hln]; omega) (by simp) 0
set_option maxHeartbeats 2000000 in
set_option maxRecDepth 100000 in
theorem impl_pass_any (m0 m1 m2 : Int) (w : World) (rows : List (List Int)) (code : Int) (hp : PassAns m0 m1 m2 rows code) :
    Calls Try.prog 21 #[.agg #[.int .i64 m0, .int .i64 m1, .int .i64 m2]] w (PRes w rows code) := by
  have C1 := Lib.hid (fun W => isMove_any m0 m1 m2 W)
  have C2 := Lib.hid (fun W => degree_any m0 m1 m2 W)
  have hbox := Lib.hid (B1.start w (.cells #[.int .i64 m0, .int .i64 m1, .int .i64 m2] 29))
  unfold PassAns at hp
  by_cases h1 : Mv m0 m1 m2
  · rw [if_pos h1] at hp
    rw [decide_eq_true h1] at C1
    have hw : wrap64 (m1 + m2) = m1 + m2 := Go.IntWalk.wrap64_in _ (by unfold Mv at h1; omega)
    rw [hw] at C2
    go_enter Try.func21, Try.ntmps21
    go_wp2_with fail
    refine (C2.out _).mono ?_
    rintro e w1 ⟨rfl, hb⟩
    have HB1 := Lib.hid (hbox.out.below hb)
    clear hb hbox C2 hw
    have c0 := blk_cell HB1.out.b1 0
    have c1 := blk_cell HB1.out.b1 1
    have c2 := blk_cell HB1.out.b1 2
    simp only [List.getElem?_toArray, List.getElem?_cons_zero, List.getElem?_cons_succ] at c0 c1 c2
    go_wp2_with fail
    refine (C1.out _).mono ?_
    rintro e w2 ⟨rfl, hb⟩
    have HB2 := Lib.hid (HB1.out.below hb)
    clear hb HB1 C1 c0 c1 c2
    have c0 := blk_cell HB2.out.b1 0
    have c1 := blk_cell HB2.out.b1 1
    have c2 := blk_cell HB2.out.b1 2
    simp only [List.getElem?_toArray, List.getElem?_cons_zero, List.getElem?_cons_succ] at c0 c1 c2
    have l0 : w.heap.size < w2.heap.size := HB2.out.siz
    by_cases h2 : m1 + m2 > 16
    · rw [if_pos h2] at hp
      obtain ⟨rfl, rfl⟩ := hp
      have h3 : (16 : Int) < max (m1 + m2) 1 := by omega
      go_wp2
      exact bodyPost_ret (v := .tuple #[.slice none 0 0, .int .i64 3]) (by simp [results, Try.results21, go_sem]) rfl (PRes.nil HB2.out.bel 3)
    · rw [if_neg h2] at hp
      have h3 : ¬ (16 : Int) < max (m1 + m2) 1 := by omega
      by_cases h4 : m0 < 2
      · rw [if_pos h4] at hp
        obtain ⟨rfl, rfl⟩ := hp
        have h5 : m1 = 0 ∧ m2 = 0 := by unfold Mv at h1; omega
        obtain ⟨rfl, rfl⟩ := h5
        go_wp2
        refine bodyPost_ret (v := .tuple #[.slice (some ⟨w2.heap.size + 1 + 1 + 1, 0, none⟩) 3 3, .int .i64 0]) (by simp [results, Try.results21, go_sem]) rfl ?_
        have k1 := (((RowAt.new w2 1).alloc (.cells #[.int .i64 1] 2)).alloc (.cells #[.int .i64 1] 2)).alloc (.cells #[.slice (some ⟨w2.heap.size, 0, none⟩) 1 1, .slice (some ⟨w2.heap.size + 1, 0, none⟩) 1 1, .slice (some ⟨w2.heap.size + 1 + 1, 0, none⟩) 1 1] 90)
        have k2 := ((RowAt.new (w2.alloc (.cells #[.int .i64 1] 2)) 1).alloc (.cells #[.int .i64 1] 2)).alloc (.cells #[.slice (some ⟨w2.heap.size, 0, none⟩) 1 1, .slice (some ⟨w2.heap.size + 1, 0, none⟩) 1 1, .slice (some ⟨w2.heap.size + 1 + 1, 0, none⟩) 1 1] 90)
        have k3 := (RowAt.new ((w2.alloc (.cells #[.int .i64 1] 2)).alloc (.cells #[.int .i64 1] 2)) 1).alloc (.cells #[.slice (some ⟨w2.heap.size, 0, none⟩) 1 1, .slice (some ⟨w2.heap.size + 1, 0, none⟩) 1 1, .slice (some ⟨w2.heap.size + 1 + 1, 0, none⟩) 1 1] 90)
        have kG := heap_alloc_new (((w2.alloc (.cells #[.int .i64 1] 2)).alloc (.cells #[.int .i64 1] 2)).alloc (.cells #[.int .i64 1] 2)) (.cells #[.slice (some ⟨w2.heap.size, 0, none⟩) 1 1, .slice (some ⟨w2.heap.size + 1, 0, none⟩) 1 1, .slice (some ⟨w2.heap.size + 1 + 1, 0, none⟩) 1 1] 90)
        simp only [World.size_alloc] at k1 k2 k3 kG
        exact PRes.three (x1 := [1]) (x2 := [1]) (x3 := [1]) (below_alloc (below_alloc (below_alloc (below_alloc HB2.out.bel _) _) _) _) kG k1 k2 k3 (by omega) (by omega) (by omega) (by omega) (by omega) (by omega) (by decide) (by decide) (by decide) 0
      · rw [if_neg h4] at hp
        obtain ⟨rfl, rfl⟩ := hp
        have h5 : 1 ≤ m1 ∧ 1 ≤ m2 ∧ m0 = 2 := by unfold Mv at h1; omega
        obtain ⟨i0, hi, hz0, hz1, hz2⟩ := info_parts info2
        have hu90 := Try.underlying90
        have hmx : max (m1 + m2) 1 = m1 + m2 := by omega
        obtain ⟨M, hM⟩ : ∃ M : Nat, m1 + m2 - 2 = (M : Int) := ⟨(m1 + m2 - 2).toNat, by omega⟩
        have hw2 : wrap64 (m1 + m2 - 2) = M := by rw [hM]; exact Go.IntWalk.wrap64_in _ (by omega)
        rw [hmx]
        have h6 : ¬ (16 : Int) < m1 + m2 := by omega
        have h7 : (m1 + m2 == 1) = false := by simp; omega
        go_wp2_with fail
        have hr1 := RowAt.new (w2.alloc (.cells #[.int .i64 2] 2)) 1
        rw [World.size_alloc] at hr1
        refine (repeat_any M (by omega) _ _ _ hr1).mono ?_
        rintro e w3 ⟨⟨g2, rfl, hg2, hones⟩, hb3⟩
        have HB3 := Lib.hid ((HB2.out.below (below_alloc (below_alloc (Below.refl _ _) _) _)).below hb3)
        have hb23 := below_step (below_alloc (below_alloc (Below.refl _ _) (.cells #[.int .i64 2] 2)) (.cells #[.int .i64 1] 2)) hb3
        have hown : w3.ownsRow w2.heap.size 2 1 (.slice (some ⟨w2.heap.size, 0, none⟩) 1 1) 1 (nums .i64 [2]) :=
          ⟨rfl, .inr ⟨_, _, _, rfl, Nat.le_refl _, blk_below (blk_alloc (heap_alloc_new w2 (.cells #[.int .i64 2] 2)) (.cells #[.int .i64 1] 2)) hb3, by decide, by decide, rfl, rfl⟩⟩
        have HO := Lib.hid hown
        have HN := Lib.hid hones
        have hs3 := hb23.size
        have HS := Lib.hid hb23
        clear hr1 hb3 hown hones hb23
        go_wp2_with (at_builtin; refine wpList_append_own_at _ rfl (.tmp 8) (.tmp 12) 90 rfl w2.heap.size 2 i0 (.int .i64 0) 1 8 hu90 hi hz0 hz1 hz2 rfl (by decide) _ _ _ rfl HO.out ⟨g2, 0, none⟩ M M (List.replicate M (.int .i64 1)) rfl (by simp) ?c1 ?c2 ?c3 ?c4 ?c5 ?_)
        case c1 =>
          intro j u hu
          obtain ⟨hj, hv⟩ := List.getElem?_eq_some_iff.1 hu
          simp at hj hv
          rw [add_at, Nat.zero_add, ← hv]
          exact HN.out.cell j hj
        case c2 => intro u hu; simp at hu; rw [hu.2]; rfl
        case c3 => unfold maxLen; omega
        case c4 => omega
        case c5 => exact hs3
        intro v1 w4 ho hg _ hat
        have ho' : w4.ownsRow w2.heap.size 2 1 v1 (1 + M) (nums .i64 (2 :: List.replicate M 1)) := by simpa [nums] using ho
        obtain ⟨g, cap, rfl, hgb, hrow, hln⟩ := own_row ho' (by omega)
        have HB4 := Lib.hid (B1.grown HB3.out hg (fun k hk => by have := own_base HO.out k hk; omega))
        have HR := Lib.hid hrow
        have hgl := hrow.lt
        clear ho ho' hg hat hrow HB3 HO HN HS
        have d0 := blk_cell HB4.out.b1 0
        have d1 := blk_cell HB4.out.b1 1
        have d2 := blk_cell HB4.out.b1 2
        simp only [List.getElem?_toArray, List.getElem?_cons_zero, List.getElem?_cons_succ] at d0 d1 d2
        have l4 : w.heap.size < w4.heap.size := HB4.out.siz
        have HLn := Lib.hid hln
        clear hln
        go_wp2_with fail
        refine (descending_any m1 m2 _ _ _ (RowAt.new2 w4 m1 m2)).mono ?_
        rintro e w5 ⟨rfl, hr5, honly⟩
        have HB5 := Lib.hid ((below_alloc HB4.out.bel _).trans (honly.below (by omega)))
        have HR5 := Lib.hid (((HR.out.alloc (.cells #[.int .i64 m1, .int .i64 m2] 2))).same (honly.block g (by omega)))
        have hs5 := honly.size
        rw [World.size_alloc] at hs5
        have HF := Lib.hid (pass_fin2 (cap := cap) (M := M) HB5.out hr5 HR5.out HLn.out (by omega) (by omega) (by omega) (by omega) (by omega) (m1 + m2))
        clear hr5 honly hs5
        go_wp2
        exact bodyPost_ret (v := .tuple #[.slice (some ⟨w5.heap.size + 1, 0, none⟩) 3 3, .int .i64 0]) (by simp [results, Try.results21, go_sem]) rfl (by rw [show (m1 + m2 - 2).toNat = M by omega]; exact HF.out)
  · rw [if_neg h1] at hp
    obtain ⟨rfl, rfl⟩ := hp
    rw [decide_eq_false h1] at C1
    go_enter Try.func21, Try.ntmps21
    go_wp2_with fail
    refine (C2.out _).mono ?_
    rintro e w1 ⟨rfl, hb⟩
    have HB1 := Lib.hid (hbox.out.below hb)
    clear hb hbox C2
    have c0 := blk_cell HB1.out.b1 0
    have c1 := blk_cell HB1.out.b1 1
    have c2 := blk_cell HB1.out.b1 2
    simp only [List.getElem?_toArray, List.getElem?_cons_zero, List.getElem?_cons_succ] at c0 c1 c2
    go_wp2_with fail
    refine (C1.out _).mono ?_
    rintro e w2 ⟨rfl, hb⟩
    go_wp2
    exact bodyPost_ret (v := .tuple #[.slice none 0 0, .int .i64 1]) (by simp [results, Try.results21, go_sem]) rfl (PRes.nil (HB1.out.below hb).bel 1)
end Go.Proofs.Ytaplebckjbbobaa.Grd
