/- Lists of rows. -/
import Derived.Test.YtaplebckjbbobaaGridA
set_option linter.unusedSimpArgs false
namespace Go.Proofs.Ytaplebckjbbobaa.Grd
open Go.RowKit Bs

/-- a row: its block, its capacity, its numbers -/
abbrev R3 := Nat × Nat × List Int
/-- the list of rows at ao -/
structure Grid (W : World) (ao : Option Addr) (rs : List R3) : Prop where
  row : ∀ (i : Nat) (r : R3), rs[i]? = some r → (∃ G, ao = some ⟨G, 0, none⟩ ∧ W.cell? ⟨G, i, none⟩ = some (.slice (some ⟨r.1, 0, none⟩) r.2.2.length r.2.1) ∧ G ≠ r.1) ∧ RowAt W r.1 r.2.2
  dis : ∀ (i j : Nat) (r s : R3), rs[i]? = some r → rs[j]? = some s → i ≠ j → r.1 ≠ s.1
  small : ∀ r ∈ rs, r.2.2.length ≤ 1000
theorem Grid.below {W W' : World} {ao : Option Addr} {rs : List R3} (h : Grid W ao rs) (hb : Below W.heap.size W W') : Grid W' ao rs := by
  refine ⟨fun i r hi => ?_, h.dis, h.small⟩
  obtain ⟨⟨G, e, hc, hne⟩, hr⟩ := h.row i r hi
  exact ⟨⟨G, e, cell_below hb hc, hne⟩, hr.below hb⟩
theorem Grid.nil (W : World) : Grid W none [] := ⟨fun i r h => by simp at h, fun i j r s h => by simp at h, fun r h => by simp at h⟩
def total (rs : List R3) : Nat := (rs.map fun r => r.2.2.length).sum
theorem total_drop {rs : List R3} {k : Nat} {r : R3} (h : rs[k]? = some r) : total (rs.drop k) = r.2.2.length + total (rs.drop (k + 1)) := by
  obtain ⟨hk, he⟩ := List.getElem?_eq_some_iff.1 h
  rw [List.drop_eq_getElem_cons hk, he]
  simp [total]
theorem total_le {rs : List R3} (h : ∀ r ∈ rs, r.2.2.length ≤ 1000) : total rs ≤ 1000 * rs.length := by
  induction rs with
  | nil => simp [total]
  | cons r rs ih =>
    have h1 := ih fun r hr => h r (by simp [hr])
    have h2 := h r (by simp)
    simp only [total, List.map_cons, List.sum_cons, List.length_cons] at *
    omega
/-- the rows hold k, k + 1, .. one after the other -/
def Held : Int → List R3 → Prop
  | _, [] => True
  | k, r :: rs => r.2.2 = upto k r.2.2.length ∧ Held (k + r.2.2.length) rs
theorem held_snoc : ∀ (A : List R3) (k : Int) (r : R3), Held k A → r.2.2 = upto (k + total A) r.2.2.length → Held k (A ++ [r])
  | [], k, r, _, h => by simpa [Held, total] using h
  | a :: A, k, r, hA, h => by
    refine ⟨hA.1, held_snoc A _ r hA.2 ?_⟩
    rw [show k + (a.2.2.length : Int) + (total A : Int) = k + (total (a :: A) : Int) from by simp [total]; omega]
    exact h
theorem held_at : ∀ (rs : List R3) (k : Int) (j : Nat) (r : R3), Held k rs → rs[j]? = some r → r.2.2 = upto (k + total (rs.take j)) r.2.2.length
  | [], _, _, _, _, h => by simp at h
  | a :: rs, k, 0, r, hh, h => by
    obtain rfl : a = r := by simpa using h
    simpa [total] using hh.1
  | a :: rs, k, j + 1, r, hh, h => by
    have := held_at rs _ j r hh.2 (by simpa using h)
    rw [show k + (a.2.2.length : Int) + (total (rs.take j) : Int) = k + (total ((a :: rs).take (j + 1)) : Int) from by simp [total]; omega] at this
    exact this
theorem total_take {rs : List R3} {k : Nat} {r : R3} (h : rs[k]? = some r) : total (rs.take (k + 1)) = total (rs.take k) + r.2.2.length := by
  obtain ⟨hk, he⟩ := List.getElem?_eq_some_iff.1 h
  rw [List.take_add_one, h]
  simp [total]
theorem total_take_le {rs : List R3} (h : ∀ r ∈ rs, r.2.2.length ≤ 1000) (k : Nat) : total (rs.take k) ≤ 1000 * k := by
  have := total_le (rs := rs.take k) fun r hr => h r (List.mem_of_mem_take hr)
  have h2 : (rs.take k).length ≤ k := by simp; omega
  have : 1000 * (rs.take k).length ≤ 1000 * k := Nat.mul_le_mul_left _ h2
  omega
def shape (rs : List R3) : List (Nat × Nat × Nat) := rs.map fun r => (r.1, r.2.1, r.2.2.length)
theorem total_shape {rs rs' : List R3} (h : shape rs = shape rs') : total rs = total rs' := by
  have : ∀ l : List R3, total l = ((shape l).map fun s => s.2.2).sum := fun l => by simp [total, shape, Function.comp_def]
  rw [this, this, h]
theorem shape_at {rs rs' : List R3} (h : shape rs' = shape rs) {k : Nat} {r : R3} (hk : rs[k]? = some r) : ∃ r', rs'[k]? = some r' ∧ r'.1 = r.1 ∧ r'.2.1 = r.2.1 ∧ r'.2.2.length = r.2.2.length := by
  have h1 : (shape rs')[k]? = (shape rs)[k]? := by rw [h]
  simp only [shape, List.getElem?_map, hk, Option.map_some] at h1
  cases hr : rs'[k]? with
  | none => rw [hr] at h1; simp at h1
  | some r' =>
    rw [hr] at h1
    simp only [Option.map_some, Option.some.injEq, Prod.mk.injEq] at h1
    exact ⟨r', rfl, h1.1, h1.2.1, h1.2.2⟩
/-- a row was written anew -/
theorem Grid.put {W W' : World} {ao : Option Addr} {rs : List R3} (h : Grid W ao rs) {k : Nat} {r : R3} (hk : rs[k]? = some r) (ho : Only r.1 W W') {ys : List Int} (hl : ys.length = r.2.2.length) (hr : RowAt W' r.1 ys) :
    Grid W' ao (rs.set k (r.1, r.2.1, ys)) := by
  have hkl : k < rs.length := (List.getElem?_eq_some_iff.1 hk).1
  have at_ : ∀ (i : Nat) (s : R3), (rs.set k (r.1, r.2.1, ys))[i]? = some s → (i = k ∧ s = (r.1, r.2.1, ys)) ∨ (i ≠ k ∧ rs[i]? = some s) := by
    intro i s hi
    by_cases hik : i = k
    · subst hik
      left
      simp [hkl] at hi
      exact ⟨rfl, hi.symm⟩
    · right
      rw [List.getElem?_set_ne (Ne.symm hik)] at hi
      exact ⟨hik, hi⟩
  have far : ∀ (G i : Nat), G ≠ r.1 → W'.cell? ⟨G, i, none⟩ = W.cell? ⟨G, i, none⟩ := fun G i hG => World.cell?_of_block (w := W) (ho.block G hG)
  refine ⟨fun i s hi => ?_, fun i j s t hi hj hij => ?_, fun s hs => ?_⟩
  · rcases at_ i s hi with ⟨rfl, rfl⟩ | ⟨hik, hi'⟩
    · obtain ⟨⟨G, e, hc, hne⟩, _⟩ := h.row i r hk
      exact ⟨⟨G, e, by rw [far G _ hne]; simpa [hl] using hc, hne⟩, hr⟩
    · obtain ⟨⟨G, e, hc, hne⟩, hr'⟩ := h.row i s hi'
      obtain ⟨⟨G2, e2, _, hne2⟩, _⟩ := h.row k r hk
      obtain rfl : G = G2 := by rw [e] at e2; simpa using e2
      have hsr : s.1 ≠ r.1 := h.dis i k s r hi' hk hik
      exact ⟨⟨G, e, by rw [far G _ hne2]; exact hc, hne⟩, hr'.same (ho.block _ hsr)⟩
  · have key : ∀ (i : Nat) (s : R3), (rs.set k (r.1, r.2.1, ys))[i]? = some s → ∃ s', rs[i]? = some s' ∧ s'.1 = s.1 := fun i s hi => by
      rcases at_ i s hi with ⟨rfl, rfl⟩ | ⟨_, hi'⟩
      · exact ⟨r, hk, rfl⟩
      · exact ⟨s, hi', rfl⟩
    obtain ⟨s', hs', e1⟩ := key i s hi
    obtain ⟨t', ht', e2⟩ := key j t hj
    rw [← e1, ← e2]
    exact h.dis i j s' t' hs' ht' hij
  · obtain ⟨i, hi⟩ := List.getElem?_of_mem hs
    rcases at_ i s hi with ⟨rfl, rfl⟩ | ⟨_, hi'⟩
    · show ys.length ≤ 1000
      rw [hl]; exact h.small r (List.mem_of_getElem? hk)
    · exact h.small s (List.mem_of_getElem? hi')
theorem shape_set {rs : List R3} {k : Nat} {r : R3} (hk : rs[k]? = some r) {ys : List Int} (hl : ys.length = r.2.2.length) : shape (rs.set k (r.1, r.2.1, ys)) = shape rs := by
  apply List.ext_getElem?
  intro i
  have hkl : k < rs.length := (List.getElem?_eq_some_iff.1 hk).1
  by_cases hik : k = i
  · subst hik
    have : rs[k] = r := by have := (List.getElem?_eq_some_iff.1 hk).2; exact this
    simp [shape, hkl, hl, this]
  · simp [shape, List.getElem?_set_ne hik]

set_option maxHeartbeats 1000000 in
theorem markInt64SS_any (w : World) (base : Nat) (ao : Option Addr) (n c : Nat) (rs : List R3) (hn : n = rs.length) (hcap : n ≤ 1000) (h : Grid w ao rs) (hbase : ∀ r ∈ rs, base ≤ r.1) :
    Calls Try.prog 23 #[.slice ao n c, .int .i64 1] w fun e w' => e = .returned (.int .i64 (1 + total rs)) ∧ Below base w w' ∧ ∃ rs', Grid w' ao rs' ∧ shape rs' = shape rs ∧ Held 1 rs' := by
  have H1 := Lib.hid h
  have HN := Lib.hid hn
  have HB := Lib.hid hbase
  have C77 := Lib.hid (fun W g n c xs k0 h1 h2 h3 h4 h5 => markInt64S_any W g n c xs k0 h1 h2 h3 h4 h5)
  clear h hn hbase
  go_enter Try.func23, Try.ntmps23
  go_wp2
  go_loopw [1, 5] (fun a i wr => ∃ (k : Nat) (rs' : List R3), i = .int .i64 k ∧ a = .int .i64 (1 + total (rs'.take k)) ∧ k ≤ n ∧ shape rs' = shape rs ∧ Held 1 (rs'.take k) ∧ Grid wr ao rs' ∧ Below base w wr) (fun _ i _ => n - (intOf i).toNat)
  case atStart => exact ⟨0, rs, rfl, by simp [total], Nat.zero_le _, rfl, trivial, H1.out, Below.refl _ _⟩
  case round =>
    obtain ⟨k, rs', rfl, rfl, hk, hsh, hheld, hgrid, hbel⟩ := hrel
    have HS := Lib.hid hsh
    have HH := Lib.hid hheld
    have HG := Lib.hid hgrid
    have HBe := Lib.hid hbel
    clear hsh hheld hgrid hbel
    by_cases hlt : k < n
    · obtain ⟨r0, hr0⟩ : ∃ r, rs[k]? = some r := ⟨rs[k]'(by rw [← HN.out]; exact hlt), by simp⟩
      obtain ⟨r, hr, e1, e2, e3⟩ := shape_at HS.out hr0
      have hb := HB.out r0 (List.mem_of_getElem? hr0)
      rw [← e1] at hb
      have hsm := HG.out.small r (List.mem_of_getElem? hr)
      obtain ⟨⟨G, rfl, hc, hne⟩, hrow⟩ := HG.out.row k r hr
      have ht := total_take_le HG.out.small k
      have hk1 : (0 : Int) ≤ (k : Int) := by omega
      have hk2 : (k : Int) < (n : Int) := by omega
      have z1 := add_at G 0 k
      rw [Nat.zero_add] at z1
      have HR := Lib.hid hr
      have HRow := Lib.hid hrow
      clear hr hrow hr0 e1 e2 e3
      go_wp2_with fail
      refine (C77.out _ _ _ _ r.2.2 _ rfl (by omega) (by omega) (by omega) HRow.out).mono ?_
      rintro e w2 ⟨rfl, hrow2, honly⟩
      have HG2 := Lib.hid (HG.out.put HR.out honly (upto_len _ _) hrow2)
      have HBe2 := Lib.hid (HBe.out.trans (honly.below hb))
      clear hrow2 honly hb
      go_wp2
      go_roundw
      case rel =>
        have hkl : k < rs'.length := (List.getElem?_eq_some_iff.1 HR.out).1
        have hset : (rs'.set k (r.1, r.2.1, upto (1 + total (rs'.take k)) r.2.2.length)).take (k + 1) = rs'.take k ++ [(r.1, r.2.1, upto (1 + total (rs'.take k)) r.2.2.length)] := by
          rw [List.take_add_one]
          simp only [List.getElem?_set, hkl, if_true, Option.toList_some]
          congr 1
          apply List.ext_getElem?
          intro i
          by_cases hik : i < k
          · rw [List.getElem?_take_of_lt hik, List.getElem?_take_of_lt hik, List.getElem?_set_ne (by omega)]
          · rw [List.getElem?_take_eq_none (by omega), List.getElem?_take_eq_none (by omega)]
        refine ⟨k + 1, _, by go_num, ?_, by omega, (shape_set HR.out (upto_len _ _)).trans HS.out, ?_, HG2.out, HBe2.out⟩
        · rw [hset]
          congr 1
          simp [total, upto_len]
          omega
        · rw [hset]
          refine held_snoc _ _ _ HH.out ?_
          simp [upto_len]
      case measure => simp [intOf]; omega
    · obtain rfl : k = n := by omega
      have hln : rs'.length = rs.length := by have := congrArg List.length HS.out; simpa [shape] using this
      have hall : rs'.take k = rs' := by rw [List.take_of_length_le]; rw [hln, HN.out]; exact Nat.le_refl _
      rw [hall]
      have hH := HH.out
      rw [hall] at hH
      rw [total_shape HS.out]
      go_wp2
      go_ret
      exact ⟨rfl, HBe.out, rs', HG.out, HS.out, hH⟩

set_option maxHeartbeats 1000000 in
theorem heldInt64SS_any (w : World) (ao : Option Addr) (n c : Nat) (rs : List R3) (hn : n = rs.length) (hcap : n ≤ 1000) (h : Grid w ao rs) (hheld : Held 1 rs) :
    Calls Try.prog 24 #[.slice ao n c, .int .i64 1] w fun e w' => e = .returned (.int .i64 (1 + total rs)) ∧ w' = w := by
  have H1 := Lib.hid h
  have HN := Lib.hid hn
  have HH := Lib.hid hheld
  have C78 := Lib.hid (fun W g n c k0 h1 h2 h3 h4 => heldInt64S_any W g n c k0 h1 h2 h3 h4)
  clear h hn hheld
  go_enter Try.func24, Try.ntmps24
  go_wp2
  go_loopw [1, 5] (fun a i wr => ∃ (k : Nat), i = .int .i64 k ∧ a = .int .i64 (1 + total (rs.take k)) ∧ k ≤ n ∧ wr = w) (fun _ i _ => n - (intOf i).toNat)
  case atStart => exact ⟨0, rfl, by simp [total], Nat.zero_le _, rfl⟩
  case round =>
    obtain ⟨k, rfl, rfl, hk, rfl⟩ := hrel
    by_cases hlt : k < n
    · obtain ⟨r, hr⟩ : ∃ r, rs[k]? = some r := ⟨rs[k]'(by rw [← HN.out]; exact hlt), by simp⟩
      obtain ⟨⟨G, rfl, hc, hne⟩, hrow⟩ := H1.out.row k r hr
      have hsm := H1.out.small r (List.mem_of_getElem? hr)
      have ht := total_take_le H1.out.small k
      rw [held_at rs 1 k r HH.out hr] at hrow
      have htk := total_take hr
      have hk1 : (0 : Int) ≤ (k : Int) := by omega
      have hk2 : (k : Int) < (n : Int) := by omega
      have z1 := add_at G 0 k
      rw [Nat.zero_add] at z1
      have HRow := Lib.hid hrow
      have HT := Lib.hid htk
      have hpos : ¬ ((1 : Int) + (total (rs.take k) : Int) + (r.2.2.length : Int)) < 0 := by omega
      clear hr hrow htk
      go_wp2_with fail
      refine (C78.out _ _ _ _ _ (by omega) (by omega) (by omega) HRow.out).mono ?_
      rintro e w2 ⟨rfl, rfl⟩
      go_wp2
      go_roundw
      case rel =>
        refine ⟨k + 1, by go_num, ?_, by omega, ?_⟩
        · rw [HT.out]; congr 1; omega
        · first | trivial | rfl
      case measure => simp [intOf]; omega
    · obtain rfl : k = n := by omega
      have hall : rs.take k = rs := by rw [List.take_of_length_le]; rw [HN.out]; exact Nat.le_refl _
      rw [hall]
      go_wp2
      go_ret
      exact ⟨rfl, rfl⟩

theorem keep2g {x0 x1 : Addr} {v0 v1 : Value} {W W' : World} (hb : Below W.heap.size W W') (h : W.cell? x0 = some v0 ∧ W.cell? x1 = some v1) : W'.cell? x0 = some v0 ∧ W'.cell? x1 = some v1 := ⟨cell_below hb h.1, cell_below hb h.2⟩
set_option maxHeartbeats 1000000 in
theorem eqInt64SS_any (w : World) (ao bo : Option Addr) (n c c2 : Nat) (rs rs2 : List R3) (hn : n = rs.length) (hcap : n ≤ 1000) (h : Grid w ao rs) (h' : Grid w bo rs2) (he : rs.map (·.2.2) = rs2.map (·.2.2)) :
    Calls Try.prog 22 #[.slice ao n c, .slice bo n c2] w fun e w' => e = .returned (.bool true) ∧ Below w.heap.size w w' := by
  have H1 := Lib.hid h
  have H2 := Lib.hid h'
  have HN := Lib.hid hn
  have HE := Lib.hid he
  have C76 := Lib.hid (fun W g g2 n c c2 xs h1 h2 h3 h4 => eqInt64S_any W g g2 n c c2 xs h1 h2 h3 h4)
  clear h h' hn he
  go_enter Try.func22, Try.ntmps22
  go_wp2
  go_loopw [5] (fun i wr => ∃ (k : Nat), i = .int .i64 k ∧ k ≤ n ∧ Below w.heap.size w wr) (fun i _ => n - (intOf i).toNat)
  case atStart => exact ⟨0, rfl, Nat.zero_le _, Below.refl _ _⟩
  case round =>
    obtain ⟨k, rfl, hk, hbel⟩ := hrel
    by_cases hlt : k < n
    · obtain ⟨r, hr⟩ : ∃ r, rs[k]? = some r := ⟨rs[k]'(by rw [← HN.out]; exact hlt), by simp⟩
      obtain ⟨r2, hr2, hxs⟩ : ∃ r2, rs2[k]? = some r2 ∧ r2.2.2 = r.2.2 := by
        have h1 : (rs.map (·.2.2))[k]? = (rs2.map (·.2.2))[k]? := by rw [HE.out]
        simp only [List.getElem?_map, hr, Option.map_some] at h1
        cases hh : rs2[k]? with
        | none => rw [hh] at h1; simp at h1
        | some r2 => rw [hh] at h1; exact ⟨r2, rfl, by simpa using h1.symm⟩
      obtain ⟨⟨G, rfl, hc, _⟩, hrow⟩ := (H1.out.below hbel).row k r hr
      obtain ⟨⟨G2, rfl, hc2, _⟩, hrow2⟩ := (H2.out.below hbel).row k r2 hr2
      have hsm := H1.out.small r (List.mem_of_getElem? hr)
      rw [hxs] at hc2 hrow2
      have hk1 : (0 : Int) ≤ (k : Int) := by omega
      have hk2 : (k : Int) < (n : Int) := by omega
      have z1 := add_at G 0 k
      have z2 := add_at G2 0 k
      rw [Nat.zero_add] at z1 z2
      have HRow := Lib.hid hrow
      have HRow2 := Lib.hid hrow2
      have HBe := Lib.hid hbel
      clear hr hr2 hrow hrow2 hxs hbel
      go_wp2_with fail
      go_region_held3 (fun W' => W'.cell? ⟨G, k, none⟩ = some (.slice (some ⟨r.1, 0, none⟩) r.2.2.length r.2.1) ∧ W'.cell? ⟨G2, k, none⟩ = some (.slice (some ⟨r2.1, 0, none⟩) r.2.2.length r2.2.1))
        (first | (go_keep; done) | (apply keep2g; (case hb => assumption); (case h => assumption)))
        ((first | (go_at_call 76; refine (C76.out _ _ _ _ _ _ r.2.2 rfl (by omega) (RowAt.same (W' := wr.drew) HRow.out rfl) (RowAt.same (W' := wr.drew) HRow2.out rfl)).mono ?_; rintro e w5 ⟨rfl, m5, hw5⟩; have hb5 := below_drewN (Below.refl wr.drew.heap.size wr.drew) m5; rw [← hw5] at hb5)))
      go_wp2
      go_roundw
      case rel => exact ⟨k + 1, by go_num, by omega, by first | exact below_drewN HBe.out _ | exact below_step HBe.out.drew hb5⟩
      case measure => simp [intOf]; omega
    · go_wp2
      go_ret
      exact ⟨rfl, hbel⟩
end Go.Proofs.Ytaplebckjbbobaa.Grd
