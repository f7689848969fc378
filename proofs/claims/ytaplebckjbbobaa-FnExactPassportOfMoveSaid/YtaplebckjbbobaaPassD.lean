/- The reference's passport of a move. -/
import Derived.Test.YtaplebckjbbobaaPassC
set_option linter.unusedSimpArgs false
namespace Go.Proofs.Ytaplebckjbbobaa.Grd
open Go.RowKit Bs

/-- the answer: the rows and the code -/
def PassAns (m0 m1 m2 : Int) (rows : List (List Int)) (code : Int) : Prop :=
  if Mv m0 m1 m2 then (if m1 + m2 > 16 then rows = [] ∧ code = 3 else if m0 < 2 then rows = [[1], [1], [1]] ∧ code = 0
    else rows = [[max m1 m2, min m1 m2], 2 :: List.replicate (m1 + m2 - 2).toNat 1, [m1 + m2]] ∧ code = 0) else rows = [] ∧ code = 1
theorem passAns_exists (m0 m1 m2 : Int) : ∃ rows code, PassAns m0 m1 m2 rows code := by
  unfold PassAns
  by_cases h1 : Mv m0 m1 m2
  · by_cases h2 : m1 + m2 > 16
    · exact ⟨[], 3, by rw [if_pos h1, if_pos h2]; exact ⟨rfl, rfl⟩⟩
    · by_cases h3 : m0 < 2
      · exact ⟨[[1], [1], [1]], 0, by rw [if_pos h1, if_neg h2, if_pos h3]; exact ⟨rfl, rfl⟩⟩
      · exact ⟨_, 0, by rw [if_pos h1, if_neg h2, if_neg h3]; exact ⟨rfl, rfl⟩⟩
  · exact ⟨[], 1, by rw [if_neg h1]; exact ⟨rfl, rfl⟩⟩
def PRes (w : World) (rows : List (List Int)) (code : Int) (e : Ending) (w' : World) : Prop :=
  ∃ (ao : Option Addr) (cap : Nat) (rs : List R3), e = .returned (.tuple #[.slice ao rs.length cap, .int .i64 code]) ∧ Grid w' ao rs ∧ rs.map (·.2.2) = rows ∧ (∀ r ∈ rs, w.heap.size ≤ r.1) ∧ rs.length ≤ 3 ∧ Below w.heap.size w w'
theorem PRes.nil {w w' : World} (hb : Below w.heap.size w w') (code : Int) : PRes w [] code (.returned (.tuple #[.slice none 0 0, .int .i64 code])) w' :=
  ⟨none, 0, [], rfl, Grid.nil _, rfl, fun r h => by simp at h, by simp, hb⟩
theorem RowAt.ne {W : World} {g G : Nat} {xs : List Int} {cs : Array Value} (h : RowAt W g xs) (hG : W.heap[G]? = some (.cells cs 90 (0, 0))) : G ≠ g := by
  obtain ⟨c2, h2, _⟩ := h
  intro e
  subst e
  rw [hG] at h2
  simp at h2
theorem PRes.three {w W : World} {G g1 g2 g3 c1 c2 c3 cap : Nat} {x1 x2 x3 : List Int} (hb : Below w.heap.size w W)
    (hG : W.heap[G]? = some (.cells #[.slice (some ⟨g1, 0, none⟩) x1.length c1, .slice (some ⟨g2, 0, none⟩) x2.length c2, .slice (some ⟨g3, 0, none⟩) x3.length c3] 90 (0, 0)))
    (h1 : RowAt W g1 x1) (h2 : RowAt W g2 x2) (h3 : RowAt W g3 x3) (d12 : g1 ≠ g2) (d13 : g1 ≠ g3) (d23 : g2 ≠ g3) (b1 : w.heap.size ≤ g1) (b2 : w.heap.size ≤ g2) (b3 : w.heap.size ≤ g3)
    (l1 : x1.length ≤ 1000) (l2 : x2.length ≤ 1000) (l3 : x3.length ≤ 1000) (code : Int) :
    PRes w [x1, x2, x3] code (.returned (.tuple #[.slice (some ⟨G, 0, none⟩) 3 cap, .int .i64 code])) W := by
  refine ⟨some ⟨G, 0, none⟩, cap, [(g1, c1, x1), (g2, c2, x2), (g3, c3, x3)], rfl, ⟨fun i r hi => ?_, fun i j r s hi hj hij => ?_, fun r hr => ?_⟩, rfl, fun r hr => ?_, by simp, hb⟩
  · match i, hi with
    | 0, hi =>
      have e : (g1, c1, x1) = r := by simpa using hi
      subst e
      exact ⟨⟨G, rfl, blk_cell hG 0, h1.ne hG⟩, h1⟩
    | 1, hi =>
      have e : (g2, c2, x2) = r := by simpa using hi
      subst e
      exact ⟨⟨G, rfl, blk_cell hG 1, h2.ne hG⟩, h2⟩
    | 2, hi =>
      have e : (g3, c3, x3) = r := by simpa using hi
      subst e
      exact ⟨⟨G, rfl, blk_cell hG 2, h3.ne hG⟩, h3⟩
    | n + 3, hi => simp at hi
  · match i, j, hi, hj with
    | 0, 0, _, _ | 1, 1, _, _ | 2, 2, _, _ => exact absurd rfl hij
    | 0, 1, hi, hj => simp at hi hj; subst hi hj; exact d12
    | 0, 2, hi, hj => simp at hi hj; subst hi hj; exact d13
    | 1, 0, hi, hj => simp at hi hj; subst hi hj; exact d12.symm
    | 1, 2, hi, hj => simp at hi hj; subst hi hj; exact d23
    | 2, 0, hi, hj => simp at hi hj; subst hi hj; exact d13.symm
    | 2, 1, hi, hj => simp at hi hj; subst hi hj; exact d23.symm
    | n + 3, _, hi, _ => simp at hi
    | _, n + 3, _, hj => simp at hj
  · simp at hr
    rcases hr with rfl | rfl | rfl <;> assumption
  · simp at hr
    rcases hr with rfl | rfl | rfl <;> assumption
theorem RowAt.new (W : World) (x : Int) : RowAt (W.alloc (.cells #[.int .i64 x] 2)) W.heap.size [x] := ⟨_, heap_alloc_new _ _, fun i y hi => by
  match i, hi with
  | 0, hi => simpa using hi
  | n + 1, hi => simp at hi⟩
theorem RowAt.new2 (W : World) (x y : Int) : RowAt (W.alloc (.cells #[.int .i64 x, .int .i64 y] 2)) W.heap.size [x, y] := ⟨_, heap_alloc_new _ _, fun i z hi => by
  match i, hi with
  | 0, hi => simpa using hi
  | 1, hi => simpa using hi
  | n + 2, hi => simp at hi⟩
theorem RowAt.alloc {W : World} {g : Nat} {xs : List Int} (h : RowAt W g xs) (o : Obj) : RowAt (W.alloc o) g xs := h.below (below_alloc (Below.refl _ _) o)

theorem B1.grown {w W W' : World} {o : Obj} {row : Option Nat} (h : B1 w W o) (hg : W.grownBy W' row) (hr : ∀ k, row = some k → w.heap.size + 1 ≤ k) : B1 w W' o :=
  ⟨(hg.block _ (by have := h.siz; omega) (fun e => by have := hr _ e.symm; omega)).trans h.b1, h.bel.grown hg (by have := h.siz; omega) (fun k hk => by have := hr k hk; omega), Nat.le_trans h.siz hg.size⟩
theorem own_row {W : World} {base n : Nat} {v : Value} {zs : List Int} (h : W.ownsRow base 2 1 v n (nums .i64 zs)) (hn : 0 < n) : ∃ g cap, v = .slice (some ⟨g, 0, none⟩) n cap ∧ base ≤ g ∧ RowAt W g zs ∧ n = zs.length := by
  obtain ⟨h1, h2⟩ := h
  have hl : n = zs.length := by simpa [nums] using h1.symm
  rcases h2 with ⟨_, h0⟩ | ⟨g, cap, cur, rfl, hb, hh, _, _, _, ht⟩
  · omega
  · refine ⟨g, cap, rfl, hb, ⟨cur, hh, fun i x hi => ?_⟩, hl⟩
    have hil : i < zs.length := (List.getElem?_eq_some_iff.1 hi).1
    have : (cur.toList.take (n * 1))[i]? = some (.int .i64 x) := by rw [ht]; simp [nums, hi]
    rw [List.getElem?_take_of_lt (by omega)] at this
    simpa using this
theorem nums_one (j : Nat) : nums .i64 (2 :: List.replicate j 1) ++ [.int .i64 1] = nums .i64 (2 :: List.replicate (j + 1) 1) := by
  simp [nums, List.replicate_succ']
theorem news_one (W : World) (x : Int) (j : Nat) (u : Value) (h : [Value.int .i64 x][j]? = some u) : (W.alloc (.cells #[.int .i64 x] 2)).cell? ((⟨W.heap.size, 0, none⟩ : Addr).add j) = some u := by
  match j, h with
  | 0, h =>
    have e : Value.int .i64 x = u := by simpa using h
    subst e
    exact ((RowAt.new W x).cell (i := 0) (x := x) rfl).1
  | n + 1, h => simp at h
theorem pass_fin {w wr : World} {m1 m2 : Int} {j g cap : Nat} (x y : Int) (hx : x = max m1 m2) (hy : y = min m1 m2) (hb : Below w.heap.size w wr) (hrow : RowAt wr g (2 :: List.replicate j 1)) (hjj : (m1 + m2 - 2).toNat = j) (hln : j + 1 = (2 :: List.replicate j (1 : Int)).length)
    (hg : w.heap.size + 1 ≤ g) (hrl : g < wr.heap.size) (h16 : m1 + m2 ≤ 16) :
    PRes w [[max m1 m2, min m1 m2], 2 :: List.replicate (m1 + m2 - 2).toNat 1, [m1 + m2]] 0 (.returned (.tuple #[.slice (some ⟨wr.heap.size + 1 + 1, 0, none⟩) 3 3, .int .i64 0]))
      (((wr.alloc (.cells #[.int .i64 x, .int .i64 y] 2)).alloc (.cells #[.int .i64 (m1 + m2)] 2)).alloc (.cells #[.slice (some ⟨wr.heap.size, 0, none⟩) 2 2, .slice (some ⟨g, 0, none⟩) (j + 1) cap, .slice (some ⟨wr.heap.size + 1, 0, none⟩) 1 1] 90)) := by
  rw [hjj, ← hx, ← hy]
  have k1 := ((RowAt.new2 wr x y).alloc (.cells #[.int .i64 (m1 + m2)] 2)).alloc (.cells #[.slice (some ⟨wr.heap.size, 0, none⟩) 2 2, .slice (some ⟨g, 0, none⟩) (j + 1) cap, .slice (some ⟨wr.heap.size + 1, 0, none⟩) 1 1] 90)
  have k2 := ((hrow.alloc (.cells #[.int .i64 x, .int .i64 y] 2)).alloc (.cells #[.int .i64 (m1 + m2)] 2)).alloc (.cells #[.slice (some ⟨wr.heap.size, 0, none⟩) 2 2, .slice (some ⟨g, 0, none⟩) (j + 1) cap, .slice (some ⟨wr.heap.size + 1, 0, none⟩) 1 1] 90)
  have k3 := (RowAt.new (wr.alloc (.cells #[.int .i64 x, .int .i64 y] 2)) (m1 + m2)).alloc (.cells #[.slice (some ⟨wr.heap.size, 0, none⟩) 2 2, .slice (some ⟨g, 0, none⟩) (j + 1) cap, .slice (some ⟨wr.heap.size + 1, 0, none⟩) 1 1] 90)
  have kG := heap_alloc_new ((wr.alloc (.cells #[.int .i64 x, .int .i64 y] 2)).alloc (.cells #[.int .i64 (m1 + m2)] 2)) (.cells #[.slice (some ⟨wr.heap.size, 0, none⟩) 2 2, .slice (some ⟨g, 0, none⟩) (j + 1) cap, .slice (some ⟨wr.heap.size + 1, 0, none⟩) 1 1] 90)
  have hs := hb.size
  simp only [World.size_alloc] at k1 k2 k3 kG
  exact PRes.three (cap := 3) (x1 := [x, y]) (x2 := 2 :: List.replicate j 1) (x3 := [m1 + m2]) (below_alloc (below_alloc (below_alloc hb _) _) _) (by rw [← hln]; exact kG) k1 k2 k3 (by omega) (by omega) (by omega) (by omega) (by omega) (by omega) (by simp) (by rw [← hln]; omega) (by simp) 0
set_option maxHeartbeats 2000000 in
set_option maxRecDepth 100000 in
theorem spec_pass_any (m0 m1 m2 : Int) (w : World) (rows : List (List Int)) (code : Int) (hp : PassAns m0 m1 m2 rows code) :
    Calls Try.prog 20 #[.agg #[.int .i64 m0, .int .i64 m1, .int .i64 m2]] w (PRes w rows code) := by
  have C1 := Lib.hid (fun W => specMove_any m0 m1 m2 W)
  have C2 := Lib.hid (fun W => spec_degree_any m0 m1 m2 W)
  have hbox := Lib.hid (B1.start w (.cells #[.int .i64 m0, .int .i64 m1, .int .i64 m2] 29))
  unfold PassAns at hp
  by_cases h1 : Mv m0 m1 m2
  · rw [if_pos h1] at hp
    rw [decide_eq_true h1] at C1
    have hw : wrap64 (m1 + m2) = m1 + m2 := Go.IntWalk.wrap64_in _ (by unfold Mv at h1; omega)
    have hsum : max 1 (m1 + m2) > 16 ↔ m1 + m2 > 16 := by omega
    rw [hw] at C2
    go_enter Try.func20, Try.ntmps20
    go_wp2_with fail
    refine (C1.out _).mono ?_
    rintro e w1 ⟨rfl, hb⟩
    have HB1 := Lib.hid (hbox.out.below hb)
    clear hb hbox C1
    have c0 := blk_cell HB1.out.b1 0
    have c1 := blk_cell HB1.out.b1 1
    have c2 := blk_cell HB1.out.b1 2
    simp only [List.getElem?_toArray, List.getElem?_cons_zero, List.getElem?_cons_succ] at c0 c1 c2
    go_wp2_with fail
    refine (C2.out _).mono ?_
    rintro e w2 ⟨rfl, hb⟩
    have HB2 := Lib.hid (HB1.out.below hb)
    clear hb HB1 C2 c0 c1 c2
    have c0 := blk_cell HB2.out.b1 0
    have c1 := blk_cell HB2.out.b1 1
    have c2 := blk_cell HB2.out.b1 2
    simp only [List.getElem?_toArray, List.getElem?_cons_zero, List.getElem?_cons_succ] at c0 c1 c2
    have l0 : w.heap.size < w2.heap.size := HB2.out.siz
    by_cases h2 : m1 + m2 > 16
    · rw [if_pos h2] at hp
      obtain ⟨rfl, rfl⟩ := hp
      have h3 : (16 : Int) < max 1 (m1 + m2) := by omega
      go_wp2
      exact bodyPost_ret (v := .tuple #[.slice none 0 0, .int .i64 3]) (by simp [results, Try.results20, go_sem]) rfl (PRes.nil HB2.out.bel 3)
    · rw [if_neg h2] at hp
      have h3 : ¬ (16 : Int) < max 1 (m1 + m2) := by omega
      by_cases h4 : m0 < 2
      · rw [if_pos h4] at hp
        obtain ⟨rfl, rfl⟩ := hp
        go_wp2
        refine bodyPost_ret (v := .tuple #[.slice (some ⟨w2.heap.size + 1 + 1 + 1, 0, none⟩) 3 3, .int .i64 0]) (by simp [results, Try.results20, go_sem]) rfl ?_
        have k1 := (((RowAt.new w2 1).alloc (.cells #[.int .i64 1] 2)).alloc (.cells #[.int .i64 1] 2)).alloc (.cells #[.slice (some ⟨w2.heap.size, 0, none⟩) 1 1, .slice (some ⟨w2.heap.size + 1, 0, none⟩) 1 1, .slice (some ⟨w2.heap.size + 1 + 1, 0, none⟩) 1 1] 90)
        have k2 := ((RowAt.new (w2.alloc (.cells #[.int .i64 1] 2)) 1).alloc (.cells #[.int .i64 1] 2)).alloc (.cells #[.slice (some ⟨w2.heap.size, 0, none⟩) 1 1, .slice (some ⟨w2.heap.size + 1, 0, none⟩) 1 1, .slice (some ⟨w2.heap.size + 1 + 1, 0, none⟩) 1 1] 90)
        have k3 := (RowAt.new ((w2.alloc (.cells #[.int .i64 1] 2)).alloc (.cells #[.int .i64 1] 2)) 1).alloc (.cells #[.slice (some ⟨w2.heap.size, 0, none⟩) 1 1, .slice (some ⟨w2.heap.size + 1, 0, none⟩) 1 1, .slice (some ⟨w2.heap.size + 1 + 1, 0, none⟩) 1 1] 90)
        have kG := heap_alloc_new (((w2.alloc (.cells #[.int .i64 1] 2)).alloc (.cells #[.int .i64 1] 2)).alloc (.cells #[.int .i64 1] 2)) (.cells #[.slice (some ⟨w2.heap.size, 0, none⟩) 1 1, .slice (some ⟨w2.heap.size + 1, 0, none⟩) 1 1, .slice (some ⟨w2.heap.size + 1 + 1, 0, none⟩) 1 1] 90)
        simp only [World.size_alloc] at k1 k2 k3 kG
        exact PRes.three (x1 := [1]) (x2 := [1]) (x3 := [1]) (below_alloc (below_alloc (below_alloc (below_alloc HB2.out.bel _) _) _) _) kG k1 k2 k3 (by omega) (by omega) (by omega) (by omega) (by omega) (by omega) (by decide) (by decide) (by decide) 0
      · rw [if_neg h4] at hp
        obtain ⟨rfl, rfl⟩ := hp
        have h5 : 1 ≤ m1 ∧ 1 ≤ m2 ∧ m0 = 2 := by unfold Mv at h1; omega
        obtain ⟨i0, hi, hz0, hz1, hz2⟩ := info_parts info2
        have hu90 := Try.underlying90
        go_wp2
        go_loopw [4, 5] (fun v4 v5 wr => ∃ j : Nat, v5 = .int .i64 (m1 + m2 - j) ∧ (j : Int) ≤ m1 + m2 - 2 ∧ wr.ownsRow (w.heap.size + 1) 2 1 v4 (j + 1) (nums .i64 (2 :: List.replicate j 1)) ∧ B1 w wr (.cells #[.int .i64 m0, .int .i64 m1, .int .i64 m2] 29)) (fun _ v5 _ => (intOf v5).toNat)
        case atStart =>
          refine ⟨0, by simp, by omega, ⟨rfl, .inr ⟨_, _, _, rfl, l0, heap_alloc_new _ _, by decide, by decide, rfl, rfl⟩⟩, HB2.out.below (below_alloc (Below.refl _ _) _)⟩
        case round =>
          obtain ⟨j, rfl, hj, hown, hbx⟩ := hrel
          have HO := Lib.hid hown
          have HX := Lib.hid hbx
          clear hown hbx HB2
          have d0 := blk_cell HX.out.b1 0
          have d1 := blk_cell HX.out.b1 1
          have d2 := blk_cell HX.out.b1 2
          simp only [List.getElem?_toArray, List.getElem?_cons_zero, List.getElem?_cons_succ] at d0 d1 d2
          have hsz := HX.out.siz
          by_cases hlt : (2 : Int) < m1 + m2 - j
          · go_wp2_with (at_builtin; refine wpList_append_own_at _ rfl (.tmp 32) (.tmp 33) 90 rfl (w.heap.size + 1) 2 i0 (.int .i64 0) 1 8 hu90 hi hz0 hz1 hz2 rfl (by decide) _ _ _ rfl (HO.out.alloc _) ⟨wr.heap.size, 0, none⟩ 1 1 [.int .i64 1] rfl rfl ?c1 ?c2 ?c3 ?c4 ?c5 ?_)
            case c1 => exact fun j u hu => news_one wr 1 j u hu
            case c2 => intro u hu; simp at hu; rw [hu]; rfl
            case c3 => unfold maxLen; omega
            case c4 => omega
            case c5 => simp; omega
            intro v1 w1' ho hg _ hat
            rw [nums_one] at ho
            have HO2 := Lib.hid ho
            have HX2 := Lib.hid (B1.grown (HX.out.below (below_alloc (Below.refl _ _) _)) hg (fun k hk => own_base HO.out k hk))
            clear ho hg hat HX HO d0 d1 d2
            go_wp2
            go_roundw
            case rel => exact ⟨j + 1, by congr 1; omega, by omega, HO2.out, HX2.out⟩
            case measure => simp [intOf]; omega
          · have hjj : (m1 + m2 - 2).toNat = j := by omega
            obtain ⟨g, cap, rfl, hg, hrow, hln⟩ := own_row HO.out (Nat.succ_pos j)
            have hrl := hrow.lt
            have l1 : w.heap.size < wr.heap.size := hsz
            have HF := Lib.hid (fun x y hx hy => pass_fin (m1 := m1) (m2 := m2) (cap := cap) x y hx hy HX.out.bel hrow hjj hln hg hrl (by omega))
            clear hln hjj hrow hg hrl hsum HO
            rcases Int.lt_trichotomy m1 m2 with hmm | rfl | hmm
            · have hm3 : m1 ≤ m2 := by omega
              have hm4 : ¬ m2 ≤ m1 := by omega
              go_wp2
              exact bodyPost_ret (v := .tuple #[.slice (some ⟨wr.heap.size + 1 + 1, 0, none⟩) 3 3, .int .i64 0]) (by simp [results, Try.results20, go_sem]) rfl (HF.out m2 m1 (by omega) (by omega))
            · go_wp2
              exact bodyPost_ret (v := .tuple #[.slice (some ⟨wr.heap.size + 1 + 1, 0, none⟩) 3 3, .int .i64 0]) (by simp [results, Try.results20, go_sem]) rfl (by have hh := HF.out m1 m1 (by omega) (by omega); rw [Int.max_self, Int.min_self] at hh; exact hh)
            · have hm3 : m2 ≤ m1 := by omega
              have hm4 : ¬ m1 ≤ m2 := by omega
              go_wp2
              exact bodyPost_ret (v := .tuple #[.slice (some ⟨wr.heap.size + 1 + 1, 0, none⟩) 3 3, .int .i64 0]) (by simp [results, Try.results20, go_sem]) rfl (HF.out m1 m2 (by omega) (by omega))
  · rw [if_neg h1] at hp
    obtain ⟨rfl, rfl⟩ := hp
    rw [decide_eq_false h1] at C1
    go_enter Try.func20, Try.ntmps20
    go_wp2_with fail
    refine (C1.out _).mono ?_
    rintro e w1 ⟨rfl, hb⟩
    go_wp2
    exact bodyPost_ret (v := .tuple #[.slice none 0 0, .int .i64 1]) (by simp [results, Try.results20, go_sem]) rfl (PRes.nil (hbox.out.below hb).bel 1)
end Go.Proofs.Ytaplebckjbbobaa.Grd
