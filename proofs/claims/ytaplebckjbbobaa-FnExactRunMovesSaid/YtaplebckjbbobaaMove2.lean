/- The program's 'move' of Kind 2: the value in least terms, or the limit's code where a part of it is too great. -/
import Derived.Test.YtaplebckjbbobaaMove
import Derived.Maps.AppendAt
namespace Go.Proofs.Ytaplebckjbbobaa.Low
open Go.RowKit Go.Proofs.YtaplebckjbbobaaW.PrintWords Go.Proofs.YtaplebckjbbobaaW.PrintMore FracMath PFnExactMoveFraction

def rep : Nat → List Int → List Int
  | 0, _ => []
  | i + 1, l => rep i l ++ l
theorem rep_len (l : List Int) : ∀ i, (rep i l).length = i * l.length
  | 0 => by simp [rep]
  | i + 1 => by rw [rep, List.length_append, rep_len l i, Nat.succ_mul]
theorem rep_prod (l : List Int) : ∀ i, prodI (rep i l) = prodI l ^ i
  | 0 => by simp [rep, prodI]
  | i + 1 => by rw [rep, prodI_append, rep_prod l i, Int.pow_succ]

/-- two rows that grow, beside four boxes -/
structure MS (w wr : World) (f l p q : Int) (v9 v10 : Value) (xs ys : List Int) : Prop where
  own9 : wr.ownsRow (w.heap.size + 1 + 1 + 1 + 1) 2 1 v9 xs.length (nums .i64 xs)
  own10 : wr.ownsRow (w.heap.size + 1 + 1 + 1 + 1) 2 1 v10 ys.length (nums .i64 ys)
  ne : v9.ownBlock ≠ v10.ownBlock
  bx : wr.heap[w.heap.size + 1]? = some (.cells #[.int .i64 p, .int .i64 q] 26 (0, 0))
  br : wr.heap[w.heap.size + 1 + 1]? = some (.cells #[.int .i64 0, .int .i64 0] 26 (0, 0))
  bel : Below w.heap.size w wr
  siz : w.heap.size + 1 + 1 + 1 + 1 ≤ wr.heap.size
section
variable {w wr w1 : World} {f l p q : Int} {v9 v10 v' : Value} {xs ys : List Int}
theorem MS.alloc (h : MS w wr f l p q v9 v10 xs ys) (o : Obj) : MS w (wr.alloc o) f l p q v9 v10 xs ys :=
  ⟨h.own9.alloc o, h.own10.alloc o, h.ne, blk_alloc h.bx o, blk_alloc h.br o, h.bel.alloc (by have := h.siz; omega) o, by have := h.siz; simp; omega⟩
theorem MS.drewN (h : MS w wr f l p q v9 v10 xs ys) (m : Nat) : MS w (wr.drewN m) f l p q v9 v10 xs ys :=
  ⟨h.own9, h.own10, h.ne, h.bx, h.br, pw_below_drewN h.bel m, h.siz⟩
theorem MS.app9 (h : MS w wr f l p q v9 v10 xs ys) {zs : List Int} (ho : w1.ownsRow (w.heap.size + 1 + 1 + 1 + 1) 2 1 v' (xs ++ zs).length (nums .i64 (xs ++ zs))) (hg : wr.grownBy w1 v9.ownBlock) (hat : v'.ownBlock = v9.ownBlock ∨ v'.ownBlock = some wr.heap.size) : MS w w1 f l p q v' v10 (xs ++ zs) ys := by
  have hs := h.siz
  have far : ∀ k, k < w.heap.size + 1 + 1 + 1 + 1 → w1.heap[k]? = wr.heap[k]? := fun k hk => hg.block k (by omega) (fun e => by have := own_base h.own9 k e.symm; omega)
  refine ⟨ho, h.own10.kept hg (.inr (Ne.symm h.ne)), ?_, (far _ (by omega)).trans h.bx, (far _ (by omega)).trans h.br, ?_, Nat.le_trans hs hg.size⟩
  · rcases hat with e | e
    · rw [e]; exact h.ne
    · rw [e]; intro e2; have := own_lt h.own10 _ e2.symm; omega
  · exact h.bel.trans ⟨hg.os, hg.tape, hg.output, hg.size, fun k hk => far k (by omega)⟩
theorem MS.app10 (h : MS w wr f l p q v9 v10 xs ys) {zs : List Int} (ho : w1.ownsRow (w.heap.size + 1 + 1 + 1 + 1) 2 1 v' (ys ++ zs).length (nums .i64 (ys ++ zs))) (hg : wr.grownBy w1 v10.ownBlock) (hat : v'.ownBlock = v10.ownBlock ∨ v'.ownBlock = some wr.heap.size) : MS w w1 f l p q v9 v' xs (ys ++ zs) := by
  have hs := h.siz
  have far : ∀ k, k < w.heap.size + 1 + 1 + 1 + 1 → w1.heap[k]? = wr.heap[k]? := fun k hk => hg.block k (by omega) (fun e => by have := own_base h.own10 k e.symm; omega)
  refine ⟨h.own9.kept hg (.inr h.ne), ho, ?_, (far _ (by omega)).trans h.bx, (far _ (by omega)).trans h.br, ?_, Nat.le_trans hs hg.size⟩
  · rcases hat with e | e
    · rw [e]; exact h.ne
    · rw [e]; intro e2; have := own_lt h.own9 _ e2; omega
  · exact h.bel.trans ⟨hg.os, hg.tape, hg.output, hg.size, fun k hk => far k (by omega)⟩
theorem two_new (w : World) (a b : Value) (e : TypeId) (j : Nat) (u : Value) (h : [a, b][j]? = some u) : (w.alloc (.cells #[a, b] e)).cell? ((⟨w.heap.size, 0, none⟩ : Addr).add j) = some u := by
  rw [add_at]
  have hb : (w.alloc (.cells #[a, b] e)).heap[w.heap.size]? = some (.cells #[a, b] e (0, 0)) := heap_alloc_new w _
  rw [blk_cell hb, Nat.zero_add]
  simpa using h
theorem nums_snoc (xs : List Int) (a b : Int) : nums .i64 xs ++ [.int .i64 a, .int .i64 b] = nums .i64 (xs ++ [a, b]) := by simp [nums]
theorem rep_snoc (X : List Int) (i : Nat) (l : List Int) : X ++ rep i l ++ l = X ++ rep (i + 1) l := by rw [List.append_assoc]; rfl
/-- a row that is not empty -/
theorem own_form {W : World} {base : Nat} {v : Value} {xs : List Int} (h : W.ownsRow base 2 1 v xs.length (nums .i64 xs)) (hp : 0 < xs.length) : ∃ g cap n, n = xs.length ∧ v = .slice (some ⟨g, 0, none⟩) n cap ∧ Rw W base g n cap xs := by
  have hR : Kd.R (Kd.int .i64) 2 W base (fun _ => True) v xs := Kd.R_of_own h (fun _ _ => trivial)
  obtain ⟨g, cap, rfl, _⟩ := Kd.R_form hR hp
  exact ⟨g, cap, _, rfl, rfl, Rw.of hR⟩
theorem rep_bd {l : List Int} (hl : ∀ a, a ∈ l → a.natAbs ≤ 2000000000) : ∀ i a, a ∈ rep i l → a.natAbs ≤ 2000000000
  | 0, a, h => by simp [rep] at h
  | i + 1, a, h => by
    rw [rep, List.mem_append] at h
    exact h.elim (rep_bd hl i a) (hl a)
theorem rep_all {P : Int → Prop} {l : List Int} (hl : ∀ a, a ∈ l → P a) : ∀ i a, a ∈ rep i l → P a
  | 0, a, h => by simp [rep] at h
  | i + 1, a, h => by
    rw [rep, List.mem_append] at h
    exact h.elim (rep_all hl i a) (hl a)
theorem getD_mem {l : List Int} {j : Nat} (h : j < l.length) : l.getD j 0 ∈ l := by
  simp [List.getD, h]
theorem MS.start (w : World) (f l p q : Int) (A D : Obj) (n : Nat) : MS w ((((((w.alloc A).alloc (.cells #[.int .i64 p, .int .i64 q] 26)).alloc (.cells #[.int .i64 0, .int .i64 0] 26)).alloc D).drewN n).alloc (.cells #[] 2) |>.alloc (.cells #[] 2)) f l p q
    (.slice (some ⟨w.heap.size + 1 + 1 + 1 + 1, 0, none⟩) 0 0) (.slice (some ⟨w.heap.size + 1 + 1 + 1 + 1 + 1, 0, none⟩) 0 0) [] [] := by
  refine ⟨⟨rfl, .inr ⟨_, 0, #[], rfl, by omega, ?_, Nat.le_refl _, by unfold maxLen; omega, rfl, rfl⟩⟩, ⟨rfl, .inr ⟨_, 0, #[], rfl, by omega, ?_, Nat.le_refl _, by unfold maxLen; omega, rfl, rfl⟩⟩, by simp [Value.ownBlock], ?_, ?_, ?_, ?_⟩
  · simp only [alloc_at, World.size_alloc, World.heap_drewN]; simp
  · simp only [alloc_at, World.size_alloc, World.heap_drewN]; simp
  · simp only [alloc_at, World.size_alloc, World.heap_drewN]; simp
  · simp only [alloc_at, World.size_alloc, World.heap_drewN]; simp
  · exact ((pw_below_drewN (((((Below.refl _ _).alloc (Nat.le_refl _) _).alloc (by simp) _).alloc (by simp; omega) _).alloc (by simp; omega) _) n).alloc (by simp; omega) _).alloc (by simp; omega) _
  · simp
end

set_option maxHeartbeats 2000000 in
set_option maxRecDepth 100000 in
theorem move_two (f l p q : Int) (w : World) (hx : Fr p q) (hq : q ≠ 0) (hf : 1 ≤ f ∧ f ≤ 20) (hl : 1 ≤ l ∧ l ≤ 20) (N D : Int) (hv : IsVal 2 f l p q N D) (r1 r2 r3 : Int) (hres : (r1, r2, r3) = if Fits N D then (N, D, 0) else (0, 0, 3)) :
    Calls Try.prog 68 #[.agg #[.int .i64 2, .int .i64 f, .int .i64 l], .agg #[.int .i64 p, .int .i64 q]] w fun e w' => e = .returned (.tuple #[.agg #[.int .i64 r1, .int .i64 r2], .int .i64 r3]) ∧ Below w.heap.size w w' := by
  have hu26 := Try.underlying26
  have hm1 : (q == 0) = false := by simpa using hq
  obtain ⟨b1, b2, b3, b4, b5, b6⟩ := hx
  obtain ⟨hf1, hf2⟩ := hf
  obtain ⟨hl1, hl2⟩ := hl
  clear b5 b6
  go_enter Try.func68, Try.ntmps68
  go_wp2
  go_quiet (fail)
  go_wp2
  obtain ⟨i0, hi, hz0, hz1, hz2⟩ := info_parts info2
  have HV := Lib.hid (And.intro hv hres)
  clear hv hres
  have hu90 := Try.underlying90
  go_loopw [9, 10, 73] (fun v9 v10 v73 wr => ∃ (i : Nat), v73 = .int .i64 i ∧ (i : Int) ≤ f ∧ MS w wr f l p q v9 v10 (rep i [p, f + l]) (rep i [q, f])) (fun _ _ v73 _ => f.toNat - (intOf v73).toNat)
  case atStart => exact ⟨0, rfl, by omega, MS.start w f l p q _ _ nq⟩
  case round =>
    obtain ⟨i, rfl, hif, hms⟩ := hrel
    by_cases hlt : (i : Int) < f
    · have hcp := blk_cell hms.bx 0
      have hcq := blk_cell hms.bx 1
      simp only [List.getElem?_toArray, List.getElem?_cons_zero, List.getElem?_cons_succ] at hcp hcq
      have HM := Lib.hid hms
      clear hms
      have hsz1 : (i * 2 + 2 ≤ 100000) := by omega
      have hlen1 : (rep i [p, f + l]).length = i * 2 := rep_len _ i
      have hlen2 : (rep i [q, f]).length = i * 2 := rep_len _ i
      have HL := Lib.hid (And.intro hlen1 hlen2)
      clear hlen1 hlen2
      go_wp2_with (at_builtin; refine wpList_append_own_at _ rfl (.tmp 75) (.tmp 81) 90 rfl (w.heap.size + 1 + 1 + 1 + 1) 2 i0 (.int .i64 0) 1 8 hu90 hi hz0 hz1 hz2 rfl (by decide) _ _ _ rfl (HM.out.own9.alloc _) ⟨wr.heap.size, 0, none⟩ 2 2 [.int .i64 p, .int .i64 (f + l)] rfl rfl ?c1 ?c2 ?c3 ?c4 ?c5 ?_)
      case c1 => exact fun j u h => two_new _ _ _ _ j u h
      case c2 => intro u hu; simp at hu; rcases hu with rfl | rfl <;> rfl
      case c3 => have := HL.out.1; unfold maxLen; omega
      case c4 => have := HL.out.1; omega
      case c5 => have := HM.out.siz; simp; omega
      intro v1 w1 ho hg _ hat
      have HM1 := Lib.hid ((HM.out.alloc _).app9 (zs := [p, f + l]) (by rw [← nums_snoc, List.length_append]; exact ho) hg (by rw [World.size_alloc]; exact hat))
      clear ho hg hat HM hcp hcq
      have hcp := blk_cell HM1.out.bx 0
      have hcq := blk_cell HM1.out.bx 1
      simp only [List.getElem?_toArray, List.getElem?_cons_zero, List.getElem?_cons_succ] at hcp hcq
      go_wp2_with (at_builtin; refine wpList_append_own_at _ rfl (.tmp 83) (.tmp 87) 90 rfl (w.heap.size + 1 + 1 + 1 + 1) 2 i0 (.int .i64 0) 1 8 hu90 hi hz0 hz1 hz2 rfl (by decide) _ _ _ rfl (HM1.out.own10.alloc _) ⟨w1.heap.size, 0, none⟩ 2 2 [.int .i64 q, .int .i64 f] rfl rfl ?d1 ?d2 ?d3 ?d4 ?d5 ?_)
      case d1 => exact fun j u h => two_new _ _ _ _ j u h
      case d2 => intro u hu; simp at hu; rcases hu with rfl | rfl <;> rfl
      case d3 => have := HL.out.2; unfold maxLen; omega
      case d4 => have := HL.out.2; omega
      case d5 => have := HM1.out.siz; simp; omega
      intro v2 w2 ho hg _ hat
      have HM2 := Lib.hid ((HM1.out.alloc _).app10 (zs := [q, f]) (by rw [← nums_snoc, List.length_append]; exact ho) hg (by rw [World.size_alloc]; exact hat))
      clear ho hg hat HM1 hcp hcq
      go_wp2
      go_roundw
      case rel => exact ⟨i + 1, by go_num, by omega, HM2.out⟩
      case measure => simp [intOf]; omega
    · obtain rfl : f = i := by omega
      have HM := Lib.hid hms
      clear hms
      go_wp2
      go_loopw [9, 10, 91] (fun v9 v10 v91 wr2 => ∃ (j : Nat), v91 = .int .i64 j ∧ (j : Int) ≤ l ∧ MS w wr2 i l p q v9 v10 (rep i [p, i + l] ++ rep j [q - p, i + l]) (rep i [q, i] ++ rep j [q, l])) (fun _ _ v91 _ => l.toNat - (intOf v91).toNat)
      case atStart => exact ⟨0, rfl, by omega, by simpa [rep] using HM.out⟩
      case round =>
        clear HM
        obtain ⟨j, rfl, hjl, hms⟩ := hrel
        by_cases hlt2 : (j : Int) < l
        · have hcp := blk_cell hms.bx 0
          have hcq := blk_cell hms.bx 1
          simp only [List.getElem?_toArray, List.getElem?_cons_zero, List.getElem?_cons_succ] at hcp hcq
          have HM := Lib.hid hms
          clear hms
          have hsz1 : (j * 2 + 2 ≤ 100000) := by omega
          have HL := Lib.hid (show (rep i [p, (i : Int) + l] ++ rep j [q - p, (i : Int) + l]).length = i * 2 + j * 2 ∧ (rep i [q, (i : Int)] ++ rep j [q, l]).length = i * 2 + j * 2 from ⟨by rw [List.length_append, rep_len, rep_len]; rfl, by rw [List.length_append, rep_len, rep_len]; rfl⟩)
          go_wp2_with (at_builtin; refine wpList_append_own_at _ rfl (.tmp 93) (.tmp 102) 90 rfl (w.heap.size + 1 + 1 + 1 + 1) 2 i0 (.int .i64 0) 1 8 hu90 hi hz0 hz1 hz2 rfl (by decide) _ _ _ rfl (HM.out.own9.alloc _) ⟨wr.heap.size, 0, none⟩ 2 2 [.int .i64 (q - p), .int .i64 (i + l)] rfl rfl ?c1 ?c2 ?c3 ?c4 ?c5 ?_)
          case c1 => exact fun j u h => two_new _ _ _ _ j u h
          case c2 => intro u hu; simp at hu; rcases hu with rfl | rfl <;> rfl
          case c3 => have := HL.out.1; unfold maxLen; omega
          case c4 => have := HL.out.1; omega
          case c5 => have := HM.out.siz; simp; omega
          intro v1 w1 ho hg _ hat
          have HM1 := Lib.hid ((HM.out.alloc _).app9 (zs := [q - p, i + l]) (by rw [← nums_snoc, List.length_append, List.length_append]; exact ho) hg (by rw [World.size_alloc]; exact hat))
          clear ho hg hat HM hcp hcq
          have hcp := blk_cell HM1.out.bx 0
          have hcq := blk_cell HM1.out.bx 1
          simp only [List.getElem?_toArray, List.getElem?_cons_zero, List.getElem?_cons_succ] at hcp hcq
          go_wp2_with (at_builtin; refine wpList_append_own_at _ rfl (.tmp 104) (.tmp 108) 90 rfl (w.heap.size + 1 + 1 + 1 + 1) 2 i0 (.int .i64 0) 1 8 hu90 hi hz0 hz1 hz2 rfl (by decide) _ _ _ rfl (HM1.out.own10.alloc _) ⟨w1.heap.size, 0, none⟩ 2 2 [.int .i64 q, .int .i64 l] rfl rfl ?d1 ?d2 ?d3 ?d4 ?d5 ?_)
          case d1 => exact fun j u h => two_new _ _ _ _ j u h
          case d2 => intro u hu; simp at hu; rcases hu with rfl | rfl <;> rfl
          case d3 => have := HL.out.2; unfold maxLen; omega
          case d4 => have := HL.out.2; omega
          case d5 => have := HM1.out.siz; simp; omega
          intro v2 w2 ho hg _ hat
          have HM2 := Lib.hid ((HM1.out.alloc _).app10 (zs := [q, l]) (by rw [← nums_snoc, List.length_append, List.length_append]; exact ho) hg (by rw [World.size_alloc]; exact hat))
          clear ho hg hat HM1 hcp hcq
          go_wp2
          go_roundw
          case rel => exact ⟨j + 1, by go_num, by omega, by have h := HM2.out; rw [rep_snoc, rep_snoc] at h; exact h⟩
          case measure => simp [intOf]; omega
        · obtain rfl : l = j := by omega
          have hv := HV.out.1
          have hr := hv.rel
          unfold mvXY at hr
          rw [if_pos rfl, if_neg hq] at hr
          simp only [Int.toNat_natCast] at hr
          have hDp := red_val hv.nonneg hv.inf (Int.mul_pos (Int.pow_pos (Int.mul_pos (show 0 < q by omega) (show (0 : Int) < i by omega))) (Int.pow_pos (Int.mul_pos (show 0 < q by omega) (show (0 : Int) < j by omega)))) hr
          have l9 : (rep i [p, (i : Int) + j] ++ rep j [q - p, (i : Int) + j]).length = i * 2 + j * 2 := by rw [List.length_append, rep_len, rep_len]; rfl
          have l10 : (rep i [q, (i : Int)] ++ rep j [q, (j : Int)]).length = i * 2 + j * 2 := by rw [List.length_append, rep_len, rep_len]; rfl
          obtain ⟨g1, c1, n9, hn9, rfl, hw1⟩ := own_form hms.own9 (by omega)
          obtain ⟨g2, c2, n10, hn10, rfl, hw2⟩ := own_form hms.own10 (by omega)
          have hgne : g1 ≠ g2 := by
            have h := hms.ne
            simpa [Value.ownBlock] using h
          have hbd : ∀ a, a ∈ rep i [p, (i : Int) + j] ++ rep j [q - p, (i : Int) + j] → a.natAbs ≤ 2000000000 := fun a ha => by
            rw [List.mem_append] at ha
            exact ha.elim (rep_bd (l := [p, (i : Int) + j]) (by intro x hx; simp at hx; rcases hx with rfl | rfl <;> omega) i a) (rep_bd (l := [q - p, (i : Int) + j]) (by intro x hx; simp at hx; rcases hx with rfl | rfl <;> omega) j a)
          have hbd2 : ∀ a, a ∈ rep i [q, (i : Int)] ++ rep j [q, (j : Int)] → a.natAbs ≤ 2000000000 ∧ a ≠ 0 := fun a ha => by
            rw [List.mem_append] at ha
            exact ha.elim (rep_all (P := fun a => a.natAbs ≤ 2000000000 ∧ a ≠ 0) (l := [q, (i : Int)]) (by intro x hx; simp at hx; rcases hx with rfl | rfl <;> omega) i a) (rep_all (P := fun a => a.natAbs ≤ 2000000000 ∧ a ≠ 0) (l := [q, (j : Int)]) (by intro x hx; simp at hx; rcases hx with rfl | rfl <;> omega) j a)
          have HC := Lib.hid (lowest_any wr _ g1 g2 _ _ c1 c2 _ _ hw1 hw2 hgne hms.siz (by omega) (by omega) (fun k hk => hbd _ (getD_mem hk)) (fun k hk => hbd2 _ (getD_mem hk)) N D hDp hv.cop
            (by rw [prodI_append, prodI_append, rep_prod, rep_prod, rep_prod, rep_prod]
                simp only [prodI, Int.mul_one]
                exact hr) r1 r2 r3 HV.out.2)
          have HM := Lib.hid hms
          clear hms hv hr l9 l10 hw1 hw2 hbd hbd2 hn9 hn10
          go_wp2_with fail
          refine HC.out.mono ?_
          rintro e w1 ⟨rfl, hb⟩
          have hblk := (hb.block (w.heap.size + 1 + 1) (by omega)).trans HM.out.br
          have HB : Hid (Below w.heap.size w w1) := Lib.hid (HM.out.bel.trans (hb.mono (by omega)))
          clear hb
          have hc0 := blk_cell hblk 0
          have hc1 := blk_cell hblk 1
          have hf0 := blk_frozen hblk 0
          have hf1 := blk_frozen hblk 1
          clear hblk
          go_wp2
          refine bodyPost_ret (v := .tuple #[.agg #[.int .i64 r1, .int .i64 r2], .int .i64 r3]) (by simp [results, Try.results68, go_sem, hc0, hc1]) rfl ⟨rfl, ?_⟩
          exact (HB.out.setCell (by simp <;> omega) _).setCell (by simp <;> omega) _
end Go.Proofs.Ytaplebckjbbobaa.Low
