/- For every move the law FnExactPassportOfMove returns true. -/
import Derived.Test.YtaplebckjbbobaaPassE
set_option linter.unusedSimpArgs false
namespace Go.Proofs.Ytaplebckjbbobaa.Grd
open Go.RowKit Bs

theorem toMove_any (m0 m1 m2 : Int) (w : World) : Calls Try.prog 11 #[.agg #[.int .i64 m0, .int .i64 m1, .int .i64 m2]] w fun e w' => e = .returned (.agg #[.int .i64 m0, .int .i64 m1, .int .i64 m2]) ∧ Below w.heap.size w w' := by
  have hu29 := Try.underlying29
  go_enter Try.func11, Try.ntmps11
  go_wp2
  exact bodyPost_ret (v := .agg #[.int .i64 m0, .int .i64 m1, .int .i64 m2]) (by simp [results, Try.results11, go_sem]) rfl ⟨rfl, below_alloc (below_alloc (below_alloc (Below.refl _ _) _) _) _⟩

set_option maxHeartbeats 2000000 in
set_option maxRecDepth 100000 in
theorem law_pass (m0 m1 m2 : Int) (w : World) :
    Calls Try.prog 5 #[.agg #[.int .i64 m0, .int .i64 m1, .int .i64 m2]] w fun e w' => e = .returned (.bool true) ∧ Below w.heap.size w w' := by
  obtain ⟨rows, code, hp⟩ := passAns_exists m0 m1 m2
  have S11 := Lib.hid (fun W => toMove_any m0 m1 m2 W)
  have S20 := Lib.hid (fun W => spec_pass_any m0 m1 m2 W rows code hp)
  have S21 := Lib.hid (fun W => impl_pass_any m0 m1 m2 W rows code hp)
  have hbox := Lib.hid (B1.start w (.cells #[.int .i64 m0, .int .i64 m1, .int .i64 m2] 23))
  clear hp
  go_enter Try.func5, Try.ntmps5
  go_wp2_with fail
  refine (S11.out _).mono ?_
  rintro e w1 ⟨rfl, hb⟩
  have HB1 := Lib.hid (hbox.out.below hb)
  clear hb hbox
  go_wp2_with fail
  refine (S20.out _).mono ?_
  rintro e w2 ⟨ao, cap, rs, rfl, hg, hrows, hbase, h3, hb⟩
  have HB2 := Lib.hid (HB1.out.below hb)
  have G0 := Lib.hid hg
  have R0 := Lib.hid hrows
  have L0 := Lib.hid h3
  clear hb hg hrows hbase h3 HB1
  have d0 := blk_cell HB2.out.b1 0
  have d1 := blk_cell HB2.out.b1 1
  have d2 := blk_cell HB2.out.b1 2
  simp only [List.getElem?_toArray, List.getElem?_cons_zero, List.getElem?_cons_succ] at d0 d1 d2
  go_wp2_with fail
  refine (S11.out _).mono ?_
  rintro e w3 ⟨rfl, hb⟩
  have HB3 := Lib.hid (HB2.out.below hb)
  have G1 := Lib.hid (G0.out.below hb)
  clear hb d0 d1 d2 HB2 G0
  have W3 := Lib.hid HB3.out.bel
  go_wp2_with fail
  refine (S21.out _).mono ?_
  rintro e w4 ⟨bo, cap2, rs2, rfl, hg, hrows, hbase, h3, hb⟩
  have T4 := Lib.hid hb
  have I0 := Lib.hid hg
  have RI := Lib.hid hrows
  have BI := Lib.hid hbase
  clear hb hg hrows hbase h3
  have hlen : rs2.length = rs.length := by have := congrArg List.length (RI.out.trans R0.out.symm); simpa using this
  have HLen := Lib.hid hlen
  have hcc : (code != code) = false := by simp
  obtain ⟨n, hn⟩ : ∃ n, n = rs.length := ⟨_, rfl⟩
  have HN := Lib.hid hn
  have hn3 : n ≤ 3 := by rw [hn]; exact L0.out
  rw [hlen, ← hn]
  clear hlen hn L0
  go_wp2_with fail
  refine (eqInt64SS_any _ _ _ _ _ _ rs2 rs (HN.out.trans HLen.out.symm) (by omega) I0.out (G1.out.below T4.out) (RI.out.trans R0.out.symm)).mono ?_
  rintro e w5 ⟨rfl, hb⟩
  have T5 := Lib.hid (below_step T4.out hb)
  have I1 := Lib.hid (I0.out.below hb)
  clear hb T4 I0
  go_wp2_with fail
  refine (markInt64SS_any _ w3.heap.size _ _ _ rs2 (HN.out.trans HLen.out.symm) (by omega) I1.out BI.out).mono ?_
  rintro e w6 ⟨rfl, hb, rs2', hg2, hsh, hheld⟩
  have T6 := Lib.hid (T5.out.trans hb)
  have I2 := Lib.hid hg2
  have HSh := Lib.hid hsh
  have HH := Lib.hid hheld
  have hl' : rs2'.length = rs2.length := by have := congrArg List.length hsh; simpa [shape] using this
  have htot : total rs2' = total rs2 := total_shape hsh
  have HT := Lib.hid htot
  have HL2 := Lib.hid ((HN.out.trans HLen.out.symm).trans hl'.symm)
  have C24 := Lib.hid (fun W hW => heldInt64SS_any W bo n cap2 rs2' HL2.out (by omega) hW HH.out)
  rw [htot] at C24
  clear hb hg2 hsh hheld T5 I1 htot hl'
  go_wp2_with fail
  refine (C24.out _ I2.out).mono ?_
  rintro e w7 ⟨rfl, rfl⟩
  have hpos : ¬ ((1 : Int) + (total rs2 : Int)) < 0 := by omega
  have hmm : ((1 : Int) + (total rs2 : Int) != (1 : Int) + (total rs2 : Int)) = false := by simp
  have HBx := Lib.hid (HB3.out.below T6.out)
  have d0 := blk_cell HBx.out.b1 0
  have d1 := blk_cell HBx.out.b1 1
  have d2 := blk_cell HBx.out.b1 2
  simp only [List.getElem?_toArray, List.getElem?_cons_zero, List.getElem?_cons_succ] at d0 d1 d2
  go_wp2_with fail
  refine (S11.out _).mono ?_
  rintro e w8 ⟨rfl, hb⟩
  have T8 := Lib.hid (below_step T6.out hb)
  have I3 := Lib.hid (I2.out.below hb)
  clear hb d0 d1 d2 T6 I2 HBx
  go_wp2_with fail
  refine (S21.out _).mono ?_
  rintro e w9 ⟨co, cap3, rs3, rfl, hg, hrows, hbase, h3, hb⟩
  have T9 := Lib.hid (below_step T8.out hb)
  have I4 := Lib.hid (I3.out.below hb)
  have J0 := Lib.hid hg
  have RJ := Lib.hid hrows
  clear hb hg hrows hbase h3 T8 I3
  have hlen3 : rs3.length = n := by have := congrArg List.length (RJ.out.trans R0.out.symm); rw [HN.out]; simpa using this
  have HL3 := Lib.hid hlen3
  rw [hlen3]
  clear hlen3
  go_wp2_with fail
  refine (eqInt64SS_any _ _ _ _ _ _ rs3 rs HL3.out.symm (by omega) J0.out (G1.out.below T9.out) (RJ.out.trans R0.out.symm)).mono ?_
  rintro e w10 ⟨rfl, hb⟩
  have T10 := Lib.hid (below_step T9.out hb)
  have I5 := Lib.hid (I4.out.below hb)
  clear hb T9 I4
  go_wp2_with fail
  refine (C24.out _ I5.out).mono ?_
  rintro e w11 ⟨rfl, rfl⟩
  go_wp2
  go_ret
  exact ⟨rfl, below_step W3.out T10.out⟩
end Go.Proofs.Ytaplebckjbbobaa.Grd
