/- The whole proof of fnChainsOfMoves_holds: its walks, its plain laws and its row; no condition is added. Part 5. -/
import Derived.Test.YtaplebckjbbobaaMov4
import Derived.Laws.CopyRow
import Derived.Laws.CopyOwn
import Derived.RegionTactic
import Derived.ChangeAlike
import Derived.Outline
import Derived.Lib.Hide
import Derived.WalkLawsBesides
import Derived.Maps.AppendAt
import Derived.Deep.RegionHeld3
import Derived.Deep.DeepCutAuto
import Derived.Deep.CutBlock
import Derived.BigGuard
import Derived.BigCall
import Derived.Deep.AppendLies
section
set_option linter.unusedSimpArgs false
namespace Go.Proofs.Ytaplebckjbbobaa.Fl
open Go.RowKit Bs Grd
theorem setRow_kp (w : World) (g : Nat) (cs : Array Value) : Kp g w (w.setRow g cs) :=
  ⟨rfl, rfl, rfl, by simp [World.setRow], fun b _ hne => by simp [World.setRow, Array.getElem?_modify, Ne.symm hne]⟩
def FFull (W : World) (g c : Nat) (M : List F2) : Prop := ∃ cs : Array Value, W.heap[g]? = some (.cells cs 26 (0, 0)) ∧ c * 2 ≤ cs.size ∧ ∀ (i : Nat) (x : F2), M[i]? = some x → cs[i * 2]? = some (.int .i64 x.1) ∧ cs[i * 2 + 1]? = some (.int .i64 x.2)
theorem FRow.full {W : World} {g : Nat} {M : List F2} (h : FRow W g M) : FFull W g M.length M := by
  obtain ⟨cs, h1, h2⟩ := h
  refine ⟨cs, h1, ?_, h2⟩
  cases hM : M.length with
  | zero => omega
  | succ k =>
    obtain ⟨_, s1⟩ := h2 k (M[k]'(by omega)) (by simp)
    have := (Array.getElem?_eq_some_iff.1 s1).1
    omega
theorem FRow.sub {W : World} {g : Nat} {M : List F2} (h : FRow W g M) {N : List F2} (hN : ∀ (i : Nat) (x : F2), N[i]? = some x → M[i]? = some x) : FRow W g N := by
  obtain ⟨cs, h1, h2⟩ := h
  exact ⟨cs, h1, fun i x hi => h2 i x (hN i x hi)⟩
theorem zc_at (m i : Nat) (v : Value) (h : (Builtin.zeroCells (Value.agg #[.int .i64 0, .int .i64 0]).cells m).toList[i]? = some v) : v = .int .i64 0 := by
  simp [Builtin.zeroCells, Value.cells] at h
  obtain ⟨j, _, h⟩ := h
  have h2 : j % 2 = 0 ∨ j % 2 = 1 := by omega
  rcases h2 with e | e <;> rw [e] at h <;> exact h.symm
theorem clear_tail {W : World} {g k m c : Nat} {M : List F2} (h : FRow W g M) (hm : 0 < m) (hk : k + m = M.length) :
    ∃ W', (∀ ty, (Builtin.clear_ #[49] ty #[.slice (some ⟨g, k * 2, none⟩) m c]).run Try.prog W = .ok (.tuple #[]) W') ∧ FRow W' g (M.take k) ∧ Kp g W W' := by
  obtain ⟨cs, h1, h2, h3⟩ := h.full
  have hz := Try.zeroValue26
  have hlen : (Builtin.zeroCells (Value.agg #[.int .i64 0, .int .i64 0]).cells m).toList.length = m * 2 := by simp [Builtin.zeroCells, Value.cells]
  have hone : ∀ v ∈ (Builtin.zeroCells (Value.agg #[.int .i64 0, .int .i64 0]).cells m).toList, v.oneCell' = true := by
    intro v hv
    obtain ⟨i, hi⟩ := List.getElem?_of_mem hv
    rw [zc_at m i v hi]; rfl
  have hst := run_storeCells_at Try.prog g (k * 2) 26 _ 0 cs W h1 (by rw [hlen]; omega) hone
  have hrun : ∀ W', (storeCells ⟨g, k * 2, none⟩ (Builtin.zeroCells (Value.agg #[.int .i64 0, .int .i64 0]).cells m).toList 0).run Try.prog W = .ok () W' → ∀ ty, (Builtin.clear_ #[49] ty #[.slice (some ⟨g, k * 2, none⟩) m c]).run Try.prog W = .ok (.tuple #[]) W' := by
    intro W' hW ty
    obtain ⟨m', rfl⟩ : ∃ m', m = m' + 1 := ⟨m - 1, by omega⟩
    simp [Builtin.clear_, run_underlying Try.underlying49, hz, hW]
  have hsz : ∀ zs : List Value, zs.length = m * 2 → ∀ j, j < k * 2 → (List.take (k * 2 + 0) cs.toList ++ zs ++ List.drop (k * 2 + 0 + zs.length) cs.toList).toArray[j]? = cs[j]? := by
    intro zs _ j hj
    rw [List.getElem?_toArray, List.append_assoc, List.getElem?_append_left (by simp; omega), List.getElem?_take_of_lt (by omega)]
    simp
  refine ⟨_, hrun _ hst, ⟨_, setRow_heap W g cs _ 26 (0, 0) h1, fun i x hi => ?_⟩, setRow_kp W g _⟩
  obtain ⟨hik, hi'⟩ : i < k ∧ M[i]? = some x := by
    rw [List.getElem?_take] at hi
    split at hi
    · exact ⟨‹_›, hi⟩
    · simp at hi
  obtain ⟨a0, a1⟩ := h3 i x hi'
  exact ⟨(hsz _ hlen _ (by omega)).trans a0, (hsz _ hlen _ (by omega)).trans a1⟩
end Go.Proofs.Ytaplebckjbbobaa.Fl
end
section
set_option linter.unusedSimpArgs false
namespace Go.Proofs.Ytaplebckjbbobaa.Fl
open Go.RowKit Bs Grd
theorem dd_take {M : List F2} {k : Nat} {x : F2} (hx : M[k]? = some x) : dd (M.take (k + 1)) = dd1 (dd (M.take k)) x := by
  obtain ⟨hk, he⟩ := List.getElem?_eq_some_iff.1 hx
  rw [List.take_succ_eq_append_getElem hk, he, dd_snoc]
theorem dd_len (M : List F2) : (dd M).length ≤ M.length := by
  unfold dd
  have : ∀ (L D : List F2), (L.foldl dd1 D).length ≤ D.length + L.length := by
    intro L
    induction L with
    | nil => intro D; simp
    | cons x L ih =>
      intro D
      rw [List.foldl_cons]
      have h1 := ih (dd1 D x)
      have h2 : (dd1 D x).length ≤ D.length + 1 := by unfold dd1; split <;> simp
      simp only [List.length_cons]; omega
  simpa using this M []
structure Cmp (M N : List F2) (j kk : Nat) : Prop where
  len : N.length = M.length
  low : N.take kk = dd (M.take j)
  lt : kk < j
  le : j ≤ M.length
  high : ∀ i, j ≤ i + 1 → N[i]? = M[i]?
theorem Cmp.kk {M N : List F2} {j kk : Nat} (h : Cmp M N j kk) : kk = (dd (M.take j)).length := by
  have := congrArg List.length h.low
  rw [List.length_take] at this
  have h1 := h.len; have h2 := h.lt; have h3 := h.le
  omega
theorem Cmp.skip {M N : List F2} {j kk : Nat} {x : F2} (h : Cmp M N j kk) (hx : M[j]? = some x) (hy : M[j - 1]? = some x) : Cmp M N (j + 1) kk := by
  have hl := (List.getElem?_eq_some_iff.1 hx).1
  refine ⟨h.len, ?_, by have := h.lt; omega, by omega, fun i hi => h.high i (by omega)⟩
  rw [dd_take hx, h.low]
  unfold dd1
  rw [if_pos]
  rw [dd_last, List.getLast?_take]
  have := h.lt
  rw [if_neg (by omega), hy]; rfl
theorem Cmp.keep {M N : List F2} {j kk : Nat} {x y : F2} (h : Cmp M N j kk) (hx : M[j]? = some x) (hy : M[j - 1]? = some y) (hne : x ≠ y) : Cmp M (N.set kk x) (j + 1) (kk + 1) := by
  have hl := (List.getElem?_eq_some_iff.1 hx).1
  have h1 := h.lt; have h2 := h.len
  refine ⟨by rw [List.length_set]; exact h.len, ?_, by omega, by omega, fun i hi => by rw [List.getElem?_set_ne (by omega)]; exact h.high i (by omega)⟩
  rw [dd_take hx, ← h.low]
  unfold dd1
  rw [if_neg]
  · rw [List.take_succ_eq_append_getElem (by rw [List.length_set]; omega)]
    simp [List.take_set_of_le]
  · rw [h.low, dd_last, List.getLast?_take, if_neg (by omega), hy]
    simp
    exact fun e => hne e.symm
theorem Cmp.start {M : List F2} {k : Nat} {x : F2} (hk : 1 ≤ k) (hx : M[k]? = some x) (hy : M[k - 1]? = some x) (hl : dd (M.take k) = M.take k) : Cmp M M (k + 1) k := by
  have hlt := (List.getElem?_eq_some_iff.1 hx).1
  refine ⟨rfl, ?_, by omega, by omega, fun _ _ => rfl⟩
  rw [dd_take hx, hl]
  unfold dd1
  rw [if_pos]
  rw [List.getLast?_take, if_neg (by omega), hy]; rfl
theorem dd_step {M : List F2} {k : Nat} {x y : F2} (hk : 1 ≤ k) (hx : M[k]? = some x) (hy : M[k - 1]? = some y) (hne : x ≠ y) (hl : dd (M.take k) = M.take k) : dd (M.take (k + 1)) = M.take (k + 1) := by
  have hlt := (List.getElem?_eq_some_iff.1 hx).1
  rw [dd_take hx, hl]
  unfold dd1
  rw [if_neg]
  · rw [List.take_succ_eq_append_getElem hlt, (List.getElem?_eq_some_iff.1 hx).2]
  · rw [List.getLast?_take, if_neg (by omega), hy]
    simp
    exact fun e => hne e.symm
set_option maxHeartbeats 4000000 in
set_option maxRecDepth 100000 in
theorem compact_any (w : World) (g n c : Nat) (M : List F2) (hn : n = M.length) (hcap : n ≤ 1000) (hc : n ≤ c) (hc2 : c ≤ maxLen) (h : FRow w g M) :
    Calls Try.prog 107 #[.slice (some ⟨g, 0, none⟩) n c] w fun e w' => e = .returned (.slice (some ⟨g, 0, none⟩) (dd M).length c) ∧ FRow w' g (dd M) ∧ Kp g w w' := by
  unfold maxLen at hc2
  have hu26 := Try.underlying26
  have H := Lib.hid h
  have HN := Lib.hid hn
  clear h hn
  by_cases hlt2 : n < 2
  · have hd : dd M = M := by
      match M, HN.out with
      | [], _ => rfl
      | [x], _ => rfl
      | x :: y :: M, e => simp at e; omega
    have HD := Lib.hid hd
    clear hd
    go_enter Try.func107, Try.ntmps107
    go_wp2
    go_ret
    refine ⟨?_, by rw [HD.out]; exact H.out, Kp.refl _ _⟩
    rw [HD.out, ← HN.out]; rfl
  · go_enter Try.func107, Try.ntmps107
    go_wp2
    go_loopw [3] (fun i wr => ∃ (k m : Nat), i = .int .i64 k ∧ 1 ≤ k ∧ k ≤ n ∧ dd (M.take k) = M.take k ∧ wr = w.drewN m) (fun i _ => n - (intOf i).toNat)
    case atStart => exact ⟨1, 0, rfl, Nat.le_refl _, by omega, by cases M <;> rfl, rfl⟩
    case round =>
      obtain ⟨k, m, rfl, hk1, hk2, hd, hwr⟩ := hrel
      have HD := Lib.hid hd
      have HW := Lib.hid hwr
      have hrow : FRow wr g M := by rw [hwr]; exact H.out.drewN m
      have HR := Lib.hid hrow
      clear hd hwr hrow
      by_cases hlt : k < n
      · obtain ⟨x, hx⟩ : ∃ x, M[k]? = some x := ⟨M[k]'(by rw [← HN.out]; exact hlt), by simp⟩
        obtain ⟨y, hy⟩ : ∃ y, M[k - 1]? = some y := ⟨M[k - 1]'(by rw [← HN.out]; omega), by simp⟩
        obtain ⟨j, rfl⟩ : ∃ j, k = j + 1 := ⟨k - 1, by omega⟩
        rw [Nat.add_sub_cancel] at hy
        obtain ⟨c0, c1⟩ := HR.out.cell hx
        obtain ⟨d0, d1⟩ := HR.out.cell hy
        have HX := Lib.hid hx
        have HY := Lib.hid hy
        have z1 := add_at g 0 ((j + 1) * 2)
        have z2 := add_at g 0 (j * 2)
        rw [Nat.zero_add] at z1 z2
        have hw : IntKind.i64.wrap ((j : Int) + 1 - 1) = j := by rw [IntKind.wrap_i64]; omega
        have hw2 : IntKind.i64.wrap (j : Int) = j := by rw [IntKind.wrap_i64]; omega
        have hj1 : (0 : Int) ≤ (j : Int) := by omega
        have hj2 : (j : Int) < (n : Int) := by omega
        have hj3 : (0 : Int) ≤ (j : Int) + 1 := by omega
        have hj4 : (j : Int) + 1 < (n : Int) := by omega
        have hj5 : ((j : Int) + 1).toNat = j + 1 := by omega
        clear hx hy
        by_cases hxy : x = y
        · obtain rfl := hxy
          have e1 : (x.1 == x.1 && x.2 == x.2) = true := by simp
          go_wp2_with fail
          go_quiet (fail)
          have HC := Lib.hid (Cmp.start (by omega) HX.out HY.out HD.out)
          have HR2 := Lib.hid (HR.out.drewN nq)
          have HK2 : Hid (Kp g w (wr.drewN nq)) := Lib.hid (by rw [HW.out]; exact ((Kp.refl g w).drewN m).drewN nq)
          clear HX HY HD HR HW c0 c1 d0 d1 z1 z2 hw hw2 e1
          go_wp2
          go_loopw [3, 5] (fun a i wr2 => ∃ (kk t : Nat) (N : List F2), a = .int .i64 kk ∧ i = .int .i64 ((t : Int) + 1) ∧ j + 1 + (t + 1) ≤ n ∧ Cmp M N (j + 1 + (t + 1)) kk ∧ FRow wr2 g N ∧ Kp g w wr2) (fun _ i _ => n - (intOf i).toNat)
          case atStart => exact ⟨j + 1, 0, M, rfl, rfl, by omega, HC.out, HR2.out, HK2.out⟩
          case round =>
            clear HC HR2 HK2
            obtain ⟨kk, t, N, rfl, rfl, ht, hcmp, hrow, hkp⟩ := hrel
            have HR := Lib.hid hrow
            have HK := Lib.hid hkp
            have HC := Lib.hid hcmp
            have hkk1 := hcmp.lt
            have hNl : N.length = n := by rw [hcmp.len]; exact HN.out.symm
            clear hrow hkp hcmp
            have hk0 : (0 : Int) ≤ (kk : Int) := by omega
            have hk3 : (kk : Int) ≤ (n : Int) := by omega
            by_cases hlt3 : j + 1 + (t + 1) < n
            · obtain ⟨u, hu⟩ : ∃ u, M[j + 1 + (t + 1)]? = some u := ⟨M[j + 1 + (t + 1)]'(by rw [← HN.out]; omega), by simp⟩
              obtain ⟨v, hv⟩ : ∃ v, M[j + 1 + t]? = some v := ⟨M[j + 1 + t]'(by rw [← HN.out]; omega), by simp⟩
              obtain ⟨q, hq⟩ : ∃ q, N[kk]? = some q := ⟨N[kk]'(by omega), by simp⟩
              obtain ⟨c0, c1⟩ := HR.out.cell ((HC.out.high _ (by omega)).trans hu)
              obtain ⟨d0, d1⟩ := HR.out.cell ((HC.out.high _ (by omega)).trans hv)
              obtain ⟨q0, q1⟩ := HR.out.cell hq
              have f0 := HR.out.frozen (kk * 2)
              have f1 := HR.out.frozen (kk * 2 + 1)
              rw [show (j + 1 + (t + 1)) * 2 = (j + 1) * 2 + (t + 1) * 2 by omega] at c0 c1
              rw [show (j + 1 + t) * 2 = (j + 1) * 2 + t * 2 by omega] at d0 d1
              have z1 := add_at g ((j + 1) * 2) ((t + 1) * 2)
              have z2 := add_at g ((j + 1) * 2) (t * 2)
              have z3 := add_at g 0 (kk * 2)
              rw [Nat.zero_add] at z3
              have HU := Lib.hid hu
              have HV : Hid (M[j + 1 + (t + 1) - 1]? = some v) := Lib.hid hv
              clear hu hv hq
              have hw : IntKind.i64.wrap ((t : Int) + 1 - 1) = t := by rw [IntKind.wrap_i64]; omega
              have hw2 : IntKind.i64.wrap (t : Int) = t := by rw [IntKind.wrap_i64]; omega
              have hi1 : (0 : Int) ≤ (t : Int) := by omega
              have hi2 : (t : Int) + 1 < ((n - (j + 1) : Nat) : Int) := by omega
              have hi3 : (t : Int) < ((n - (j + 1) : Nat) : Int) := by omega
              have hi4 : ((t : Int) + 1).toNat = t + 1 := by omega
              have hi5 : (0 : Int) ≤ (t : Int) + 1 := by omega
              have hi6 : (kk : Int) < (n : Int) := by omega
              by_cases huv : u = v
              · obtain rfl := huv
                have e1 : (u.1 != u.1 || u.2 != u.2) = false := by simp
                go_wp2_with fail
                go_quiet (fail)
                go_wp2_with fail
                go_roundw
                case rel => exact ⟨kk, t + 1, N, rfl, by go_num, by omega, HC.out.skip HU.out HV.out, HR.out.drewN nq, HK.out.drewN nq⟩
                case measure => simp [intOf]; omega
              · have HC2 := Lib.hid (HC.out.keep HU.out HV.out huv)
                have HP := Lib.hid (HR.out.put (k := kk) (by omega) u)
                have e1 : (u.1 == v.1) = false ∨ ((u.1 == v.1) = true ∧ (u.2 == v.2) = false) := by
                  by_cases h1 : u.1 = v.1
                  · right; exact ⟨by simpa using h1, by simp; intro h2; exact huv (Prod.ext h1 h2)⟩
                  · left; simpa using h1
                clear huv
                rcases e1 with e1 | ⟨e1, e2⟩
                all_goals
                  go_wp2_with fail
                  go_quiet (fail)
                  go_wp2_with fail
                  go_roundw
                  case rel => exact ⟨kk + 1, t + 1, N.set kk u, by go_num, by go_num, by omega, HC2.out, HP.out.drewN nq, ((HK.out.drewN nq).set _ _).set _ _⟩
                  case measure => simp [intOf]; omega
            · have hend : j + 1 + (t + 1) = n := by omega
              obtain ⟨W', hcl, hrow', hkp'⟩ := clear_tail (c := c - kk) HR.out (k := kk) (m := n - kk) (by omega) (by omega)
              have hMt : M.take (j + 1 + (t + 1)) = M := List.take_of_length_le (by have := HN.out; omega)
              have hl := HC.out.low
              have hlk := HC.out.kk
              rw [hMt] at hl hlk
              rw [hl] at hrow'
              have HR' := Lib.hid hrow'
              have HL := Lib.hid hlk
              clear hl hlk hMt
              have HK' := Lib.hid (HK.out.trans hkp')
              have z3 := add_at g 0 (kk * 2)
              rw [Nat.zero_add] at z3
              have hi6 : (kk : Int) < (n : Int) := by omega
              have hi7 : kk < n := by omega
              have hi8 : kk ≤ c := by omega
              have hi9 : kk ≠ c := by omega
              have hnlt : ¬ (t : Int) + 1 < ((n - (j + 1) : Nat) : Int) := by omega
              clear hkp' hrow' HC HK HR
              go_wp2
              go_ret
              refine ⟨?_, HR'.out, HK'.out⟩
              rw [← HL.out]; rfl
        · have e1 : (x.1 == y.1) = false ∨ ((x.1 == y.1) = true ∧ (x.2 == y.2) = false) := by
            by_cases h1 : x.1 = y.1
            · right; exact ⟨by simpa using h1, by simp; intro h2; exact hxy (Prod.ext h1 h2)⟩
            · left; simpa using h1
          have HD2 := Lib.hid (dd_step (by omega) HX.out HY.out hxy HD.out)
          clear hxy
          rcases e1 with e1 | ⟨e1, e2⟩
          all_goals
            go_wp2_with fail
            go_quiet (fail)
            go_wp2_with fail
            go_roundw
            case rel => exact ⟨j + 1 + 1, m + nq, by go_num, by omega, by omega, HD2.out, by rw [HW.out]; exact World.drewN_drewN _ _ _⟩
            case measure => simp [intOf]; omega
      · have hall : M.take k = M := List.take_of_length_le (by have := HN.out; omega)
        have hd := HD.out
        rw [hall] at hd
        have HD2 := Lib.hid hd
        obtain rfl : k = n := by omega
        clear hd hall
        go_wp2
        go_ret
        refine ⟨?_, by rw [HD2.out]; exact HR.out, by rw [HW.out]; exact (Kp.refl g w).drewN m⟩
        rw [HD2.out, ← HN.out]; rfl
end Go.Proofs.Ytaplebckjbbobaa.Fl
end
section
namespace Go.Proofs.Ytaplebckjbbobaa.FracMath
open Go.RowKit Go.Proofs.YtaplebckjbbobaaW.PrintWords Go.Proofs.YtaplebckjbbobaaW.PrintMore PFnExactMoveFraction
def prodI : List Int → Int
  | [] => 1
  | a :: l => a * prodI l
theorem prodI_append (a b : List Int) : prodI (a ++ b) = prodI a * prodI b := by
  induction a with
  | nil => simp [prodI]
  | cons x a ih => simp only [List.cons_append, prodI, ih, Int.mul_assoc]
theorem prodI_set : ∀ (l : List Int) (i : Nat) (v : Int), i < l.length → prodI (l.set i v) = v * prodI (l.set i 1)
  | [], _, _, h => by simp at h
  | a :: l, 0, v, _ => by simp [prodI]
  | a :: l, i + 1, v, h => by
    simp only [List.set_cons_succ, prodI]
    rw [prodI_set l i v (by simpa using h)]
    exact Int.mul_left_comm _ _ _
theorem prodI_get (l : List Int) (i : Nat) (h : i < l.length) : prodI l = l.getD i 0 * prodI (l.set i 1) := by
  rw [← prodI_set l i _ h]
  congr 1
  apply List.ext_getElem?
  intro q
  by_cases hq : q = i
  · subst hq; rw [List.getElem?_set_self h]; simp [List.getD, h]
  · rw [List.getElem?_set_ne (Ne.symm hq)]
structure LInv (A0 B0 A B : List Int) (i k : Nat) : Prop where
  la : A.length = A0.length
  lb : B.length = B0.length
  same : ∃ c : Int, c ≠ 0 ∧ prodI A0 = c * prodI A ∧ prodI B0 = c * prodI B
  ba : ∀ j, j < A.length → (A.getD j 0).natAbs ≤ 2000000000
  bb : ∀ j, j < B.length → (B.getD j 0).natAbs ≤ 2000000000 ∧ B.getD j 0 ≠ 0
  cop : ∀ j l, j < A.length → l < B.length → (j < i ∨ (j = i ∧ l < k)) → Int.gcd (A.getD j 0) (B.getD l 0) = 1
theorem LInv.start {A B : List Int} (ha : ∀ j, j < A.length → (A.getD j 0).natAbs ≤ 2000000000) (hb : ∀ j, j < B.length → (B.getD j 0).natAbs ≤ 2000000000 ∧ B.getD j 0 ≠ 0) : LInv A B A B 0 0 :=
  ⟨rfl, rfl, ⟨1, by decide, by simp, by simp⟩, ha, hb, fun j l _ _ h => by omega⟩
theorem LInv.next {A0 B0 A B : List Int} {i : Nat} (h : LInv A0 B0 A B i B.length) : LInv A0 B0 A B (i + 1) 0 :=
  ⟨h.la, h.lb, h.same, h.ba, h.bb, fun j l h1 h2 h3 => h.cop j l h1 h2 (by omega)⟩
theorem getD_set (l : List Int) (i j : Nat) (v : Int) (hi : i < l.length) : (l.set i v).getD j 0 = if j = i then v else l.getD j 0 := by
  by_cases h : j = i
  · subst h; rw [if_pos rfl]; simp [List.getD, hi]
  · rw [if_neg h]; simp [List.getD, List.getElem?_set_ne (Ne.symm h)]
theorem gcd_div {a b : Int} (hb : b ≠ 0) : ∃ d x y : Int, d ≠ 0 ∧ (Int.gcd a b : Int) = d ∧ a = d * x ∧ b = d * y ∧ Int.gcd x y = 1 ∧ Int.tdiv a d = x ∧ Int.tdiv b d = y ∧ y ≠ 0 := by
  have hg : Int.gcd a b ≠ 0 := by intro h; rw [Int.gcd_eq_zero_iff] at h; exact hb h.2
  obtain ⟨x, y, h1, h2, h3⟩ := gcd_split a b hg
  generalize hgd : Int.gcd a b = g at *
  have hg0 : (g : Int) ≠ 0 := by omega
  exact ⟨g, x, y, hg0, rfl, h1, h2, h3, by rw [h1, Int.mul_tdiv_cancel_left _ hg0], by rw [h2, Int.mul_tdiv_cancel_left _ hg0], by rintro rfl; rw [Int.mul_zero] at h2; exact hb h2⟩
theorem cop_dvd {a x b : Int} (h : Int.gcd a b = 1) {d : Int} (e : a = d * x) : Int.gcd x b = 1 := by
  subst e; exact icop_right h
theorem LInv.step {A0 B0 A B : List Int} {i k : Nat} (h : LInv A0 B0 A B i k) (hi : i < A.length) (hk : k < B.length) :
    (Int.gcd (A.getD i 0) (B.getD k 0) : Int) ≠ 0 ∧ bd (Int.tdiv (A.getD i 0) (Int.gcd (A.getD i 0) (B.getD k 0))) ∧ bd (Int.tdiv (B.getD k 0) (Int.gcd (A.getD i 0) (B.getD k 0))) ∧
    LInv A0 B0 (A.set i (Int.tdiv (A.getD i 0) (Int.gcd (A.getD i 0) (B.getD k 0)))) (B.set k (Int.tdiv (B.getD k 0) (Int.gcd (A.getD i 0) (B.getD k 0)))) i (k + 1) := by
  obtain ⟨hbb, hb0⟩ := h.bb k hk
  have hba := h.ba i hi
  obtain ⟨d, x, y, hd, hgd, hx, hy, hxy, tx, ty, hy0⟩ := gcd_div (a := A.getD i 0) hb0
  rw [hgd, tx, ty]
  have lx : x.natAbs ≤ 2000000000 := by have := abs_le_mul (x := x) hd; rw [← hx] at this; omega
  have ly : y.natAbs ≤ 2000000000 := by have := abs_le_mul (x := y) hd; rw [← hy] at this; omega
  refine ⟨hd, bd_of (by omega), bd_of (by omega), ⟨by rw [List.length_set]; exact h.la, by rw [List.length_set]; exact h.lb, ?_, ?_, ?_, ?_⟩⟩
  · obtain ⟨c, hc, e1, e2⟩ := h.same
    refine ⟨c * d, Int.mul_ne_zero hc hd, ?_, ?_⟩
    · rw [e1, prodI_get A i hi, prodI_set A i x hi, hx]
      generalize prodI (A.set i 1) = P
      have : (d * x).tdiv d = x := Int.mul_tdiv_cancel_left _ hd
      grind
    · rw [e2, prodI_get B k hk, prodI_set B k y hk, hy]
      generalize prodI (B.set k 1) = P
      grind
  · intro j hj
    rw [getD_set A i j x hi]
    split
    · exact lx
    · exact h.ba j (by simpa using hj)
  · intro j hj
    rw [getD_set B k j y hk]
    split
    · exact ⟨ly, hy0⟩
    · exact h.bb j (by simpa using hj)
  · intro j l hj hl hjl
    rw [List.length_set] at hj hl
    rw [getD_set A i j x hi, getD_set B k l y hk]
    by_cases h1 : j = i
    · rw [if_pos h1]
      by_cases h2 : l = k
      · rw [if_pos h2]; exact hxy
      · rw [if_neg h2]
        exact cop_dvd (h.cop i l hi hl (by omega)) hx
    · rw [if_neg h1]
      by_cases h2 : l = k
      · rw [if_pos h2]
        have := h.cop j k hj hk (by omega)
        rw [Int.gcd_comm] at this ⊢
        exact cop_dvd this hy
      · rw [if_neg h2]; exact h.cop j l hj hl (by omega)
theorem prodI_cop_one {b : Int} : ∀ l : List Int, (∀ j, j < l.length → Int.gcd (l.getD j 0) b = 1) → Int.gcd (prodI l) b = 1
  | [], _ => by simp [prodI, Int.gcd]
  | a :: l, h => by
    simp only [prodI]
    refine icop_mul ?_ (prodI_cop_one l fun j hj => ?_)
    · simpa using h 0 (by simp)
    · simpa using h (j + 1) (by simpa using hj)
theorem prodI_cop {A B : List Int} (h : ∀ j l, j < A.length → l < B.length → Int.gcd (A.getD j 0) (B.getD l 0) = 1) : Int.gcd (prodI A) (prodI B) = 1 := by
  refine prodI_cop_one A fun j hj => ?_
  rw [Int.gcd_comm]
  refine prodI_cop_one B fun l hl => ?_
  rw [Int.gcd_comm]
  exact h j l hj hl
theorem prodI_ne {B : List Int} : (∀ j, j < B.length → B.getD j 0 ≠ 0) → prodI B ≠ 0 := by
  induction B with
  | nil => intro _; decide
  | cons a l ih =>
    intro h
    simp only [prodI]
    refine Int.mul_ne_zero (by simpa using h 0 (by simp)) (ih fun j hj => ?_)
    simpa using h (j + 1) (by simpa using hj)
theorem LInv.done {A0 B0 A B : List Int} {i k : Nat} (h : LInv A0 B0 A B i k) (hi : A.length ≤ i) {N D : Int} (hD : 0 < D) (hc : Int.gcd N D = 1) (hr : N * prodI B0 = prodI A0 * D) :
    prodI B ≠ 0 ∧ ((0 < prodI B ∧ prodI A = N ∧ prodI B = D) ∨ (prodI B < 0 ∧ prodI A = -N ∧ prodI B = -D)) := by
  have hB := prodI_ne (fun j hj => (h.bb j hj).2)
  have hcop := prodI_cop (A := A) (B := B) (fun j l hj hl => h.cop j l hj hl (by omega))
  obtain ⟨c, hc0, e1, e2⟩ := h.same
  have hr2 : N * prodI B = prodI A * D := by
    rw [e1, e2] at hr
    refine Int.eq_of_mul_eq_mul_left hc0 ?_
    generalize prodI A = P at *
    generalize prodI B = Q at *
    grind
  refine ⟨hB, ?_⟩
  by_cases hp : 0 < prodI B
  · obtain ⟨h1, h2⟩ := int_red_unique hcop hc hp hD hr2.symm
    exact .inl ⟨hp, h1, h2⟩
  · obtain ⟨h1, h2⟩ := int_red_unique (n1 := -prodI A) (d1 := -prodI B) (by simpa using hcop) hc (by omega) hD (by
      rw [Int.neg_mul, Int.mul_neg, hr2])
    exact .inr ⟨by omega, by omega, by omega⟩
theorem prod_l0 (l : List Int) (hl : l.length ≤ 100000) (hb : ∀ j, j < l.length → (l.getD j 0).natAbs ≤ 2000000000 ∧ l.getD j 0 ≠ 0) :
    ∀ (d i : Nat) (t : Int), l.length - i ≤ d → i ≤ l.length → t ≠ 0 → t.natAbs ≤ 1000000000 →
      Ev (fun k => impl_product.l0 k t l (l.length : Int) i) (if (t * prodI (l.drop i)).natAbs ≤ 1000000000 then (t * prodI (l.drop i), true) else (0, false)) := by
  intro d
  induction d with
  | zero =>
    intro i t hd hi ht0 ht
    obtain rfl : i = l.length := by omega
    rw [List.drop_length]
    simp only [prodI, Int.mul_one]
    rw [if_pos ht]
    refine Ev.to (fun k => ?_) (Ev.now _)
    simp only [impl_product.l0]
    rw [if_neg (by omega)]
  | succ d ih =>
    intro i t hd hi ht0 ht
    by_cases hlt : i < l.length
    · obtain ⟨hb1, hb0⟩ := hb i hlt
      have hdrop : prodI (l.drop i) = l.getD i 0 * prodI (l.drop (i + 1)) := by
        rw [List.drop_eq_getElem_cons hlt]; simp [prodI, List.getD, hlt]
      have hrd : rd l (i : Int) = l.getD i 0 := rd_nat l i
      have hm : (t * l.getD i 0).natAbs ≤ 1000000000 * 2000000000 := by rw [Int.natAbs_mul]; exact Nat.mul_le_mul ht hb1
      have hw : wrap64 (t * rd l (i : Int)) = t * l.getD i 0 := by rw [hrd]; exact w64 (bd_of (by omega))
      have hne : t * l.getD i 0 ≠ 0 := Int.mul_ne_zero ht0 hb0
      rw [hdrop, ← Int.mul_assoc]
      by_cases hfit : (t * l.getD i 0).natAbs ≤ 1000000000
      · refine Ev.to (fun k => ?_) (ih (i + 1) (t * l.getD i 0) (by omega) (by omega) hne hfit)
        simp only [impl_product.l0]
        rw [if_pos (by omega), if_pos (by omega), if_pos (by omega), hw, if_neg (by omega), if_neg (by omega), w64' (a := (i : Int) + 1) (by omega) (by omega)]
        rfl
      · have hrest : prodI (l.drop (i + 1)) ≠ 0 := by
          refine prodI_ne fun j hj => ?_
          have := (hb (i + 1 + j) (by simp at hj; omega)).2
          simpa [List.getD, List.getElem?_drop] using this
        rw [if_neg (by
          rw [Int.natAbs_mul]
          have : (t * l.getD i 0).natAbs * 1 ≤ (t * l.getD i 0).natAbs * (prodI (l.drop (i + 1))).natAbs := Nat.mul_le_mul_left _ (by omega)
          omega)]
        refine Ev.to (f := fun _ => some (0, false)) (fun k => ?_) (Ev.now _)
        simp only [impl_product.l0]
        rw [if_pos (by omega), if_pos (by omega), if_pos (by omega), hw]
        by_cases hpos : t * l.getD i 0 > 1000000000
        · rw [if_pos hpos]
        · rw [if_neg hpos, if_pos (by omega)]
    · obtain rfl : i = l.length := by omega
      rw [List.drop_length]
      simp only [prodI, Int.mul_one]
      rw [if_pos ht]
      refine Ev.to (fun k => ?_) (Ev.now _)
      simp only [impl_product.l0]
      rw [if_neg (by omega)]
theorem prod_ev (l : List Int) (hl : l.length ≤ 100000) (hb : ∀ j, j < l.length → (l.getD j 0).natAbs ≤ 2000000000 ∧ l.getD j 0 ≠ 0) :
    ∃ k, impl_product.f k l = some (if (prodI l).natAbs ≤ 1000000000 then prodI l else 0, decide ((prodI l).natAbs ≤ 1000000000)) := by
  have h := prod_l0 l hl hb l.length 0 1 (by omega) (by omega) (by decide) (by decide)
  rw [List.drop_zero, Int.one_mul] at h
  obtain ⟨k, hk⟩ := h.rounds
  refine ⟨k, ?_⟩
  unfold impl_product.f
  rw [show (0 : Int) = ((0 : Nat) : Int) from rfl, hk]
  split <;> simp_all
theorem index_l0 (l : List Int) (hl : l.length ≤ 100000) : ∀ (d i : Nat), l.length - i ≤ d → ∃ r : Int, (0 ≤ r ↔ (0 : Int) ∈ l.drop i) ∧ Ev (fun k => slices_Index_int64_int64.l0 k l 0 (l.length : Int) i) r := by
  intro d
  induction d with
  | zero =>
    intro i hd
    refine ⟨-1, by rw [List.drop_eq_nil_of_le (by omega)]; simp, Ev.to (f := fun _ => some (-1)) (fun k => ?_) (Ev.now _)⟩
    simp only [slices_Index_int64_int64.l0]
    rw [if_neg (by omega)]
  | succ d ih =>
    intro i hd
    by_cases hlt : i < l.length
    · have hrd : rd l (i : Int) = l[i] := by rw [rd_nat]; simp [List.getD, hlt]
      by_cases hz : (0 : Int) = l[i]
      · refine ⟨i, ?_, Ev.to (f := fun _ => some (i : Int)) (fun k => ?_) (Ev.now _)⟩
        · rw [List.drop_eq_getElem_cons hlt, ← hz]; simp
        · simp only [slices_Index_int64_int64.l0]
          rw [if_pos (by omega), if_pos (by omega), if_pos (by omega), hrd, if_pos hz]
      · obtain ⟨r, h1, h2⟩ := ih (i + 1) (by omega)
        refine ⟨r, ?_, Ev.to (fun k => ?_) h2⟩
        · rw [h1, List.drop_eq_getElem_cons hlt, List.mem_cons]; exact ⟨.inr, fun h => h.resolve_left hz⟩
        · simp only [slices_Index_int64_int64.l0]
          rw [if_pos (by omega), if_pos (by omega), if_pos (by omega), hrd, if_neg hz, w64' (a := (i : Int) + 1) (by omega) (by omega)]
          rfl
    · refine ⟨-1, by rw [List.drop_eq_nil_of_le (by omega)]; simp, Ev.to (f := fun _ => some (-1)) (fun k => ?_) (Ev.now _)⟩
      simp only [slices_Index_int64_int64.l0]
      rw [if_neg (by omega)]
theorem contains_ev (l : List Int) (hl : l.length ≤ 100000) : ∃ k, slices_Contains_int64_int64.f k l 0 = some (decide ((0 : Int) ∈ l)) := by
  obtain ⟨r, h1, h2⟩ := index_l0 l hl l.length 0 (by omega)
  obtain ⟨k, hk⟩ := h2.rounds
  refine ⟨k, ?_⟩
  unfold slices_Contains_int64_int64.f slices_Index_int64_int64.f
  have hk' : slices_Index_int64_int64.l0 k l 0 (l.length : Int) 0 = some r := hk
  rw [hk']
  simp only [Option.bind_some]
  rw [List.drop_zero] at h1
  congr 1
  exact decide_eq_decide.2 h1
theorem prodI_zero {l : List Int} : (0 : Int) ∈ l ↔ prodI l = 0 := by
  induction l with
  | nil => simp [prodI]
  | cons a l ih =>
    simp only [List.mem_cons, prodI, Int.mul_eq_zero, ih]
    constructor
    · rintro (h | h)
      · exact .inl h.symm
      · exact .inr h
    · rintro (h | h)
      · exact .inl h.symm
      · exact .inr h
theorem ne_of_not_mem {l : List Int} (h : ¬ (0 : Int) ∈ l) (j : Nat) (hj : j < l.length) : l.getD j 0 ≠ 0 := by
  intro e
  apply h
  simp [List.getD, hj] at e
  rw [← e]; exact List.getElem_mem hj
end Go.Proofs.Ytaplebckjbbobaa.FracMath
end
section
namespace Go.Proofs.Ytaplebckjbbobaa.Low
open Go.RowKit Go.Proofs.YtaplebckjbbobaaW.PrintWords Go.Proofs.YtaplebckjbbobaaW.PrintMore FracMath PFnExactMoveFraction
def Rw (w : World) (base g n cap : Nat) (xs : List Int) : Prop := n = xs.length ∧ Kd.R (Kd.int .i64) 2 w base (fun k => k = g) (.slice (some ⟨g, 0, none⟩) n cap) xs
section
variable {w w1 : World} {base g g2 n cap : Nat} {xs : List Int}
theorem Rw.of {ok : Nat → Prop} (h : Kd.R (Kd.int .i64) 2 w base ok (.slice (some ⟨g, 0, none⟩) n cap) xs) : Rw w base g n cap xs := by
  refine ⟨(Kd.R_reads' h).1, Kd.R_mono (Kd.R_tight rfl h) (fun k hk => ?_)⟩
  simpa [Value.ownBlock] using hk
theorem Rw.cell (h : Rw w base g n cap xs) (i : Nat) (hi : i < xs.length) : w.cell? ⟨g, i, none⟩ = some (.int .i64 (xs.getD i 0)) ∧ w.frozen? ⟨g, i, none⟩ = false := by
  have h1 := Kd.R_celln (0 : Int) h.2 (i : Int) (by omega) (by have := h.1; omega)
  simpa [rdOf, Kd.int] using h1
theorem Rw.set (h : Rw w base g n cap xs) (i : Nat) (x : Int) : Rw (w.setCell ⟨g, i, none⟩ (.int .i64 x)) base g n cap (xs.set i x) := by
  refine ⟨by rw [List.length_set]; exact h.1, ?_⟩
  exact Kd.R_putn h.2 (i : Int) x
theorem Rw.far (h : Rw w base g n cap xs) (hne : g ≠ g2) (i : Nat) (u : Value) : Rw (w.setCell ⟨g2, i, none⟩ u) base g n cap xs :=
  ⟨h.1, Kd.R_far (p := ⟨g2, i, none⟩) h.2 (fun k hk => by subst hk; exact hne) u⟩
theorem Rw.drewN (h : Rw w base g n cap xs) (m : Nat) : Rw (w.drewN m) base g n cap xs := ⟨h.1, Kd.R_drewN h.2 m⟩
theorem Rw.alloc (h : Rw w base g n cap xs) (o : Obj) : Rw (w.alloc o) base g n cap xs := ⟨h.1, Kd.R_alloc h.2 o⟩
theorem Rw.reads (h : Rw w base g n cap xs) : Kd.C (Kd.int .i64) w (some ⟨g, 0, none⟩) xs.length xs ∧ xs.length ≤ cap := by
  have := Kd.R_reads' h.2
  exact ⟨this.2.2, by omega⟩
theorem Rw.base_le (h : Rw w base g n cap xs) : base ≤ g := Kd.R_base h.2 g rfl
theorem Rw.lt (h : Rw w base g n cap xs) : g < w.heap.size := Kd.R_lt h.2 g rfl
end
theorem contains_any {w : World} {base g n cap : Nat} {xs : List Int} (h : Rw w base g n cap xs) (hn : n ≤ 1000) :
    Calls Try.prog 112 #[.slice (some ⟨g, 0, none⟩) n cap, .int .i64 0] w fun e w' => e = .returned (.bool (decide ((0 : Int) ∈ xs))) ∧ Drawn0 w w' := by
  obtain ⟨k, hk⟩ := contains_ev xs (by have := h.1; omega)
  have := slices_Contains_int64_int64.calls k (some ⟨g, 0, none⟩) cap xs 0 _ w h.reads.1 h.reads.2 hk
  rw [← h.1] at this; exact this
theorem product_any {w : World} {base g n cap : Nat} {xs : List Int} (h : Rw w base g n cap xs) (hn : n ≤ 1000) (hb : ∀ j, j < xs.length → (xs.getD j 0).natAbs ≤ 2000000000 ∧ xs.getD j 0 ≠ 0) :
    Calls Try.prog 113 #[.slice (some ⟨g, 0, none⟩) n cap] w fun e w' => e = .returned (.tuple #[.int .i64 (if (prodI xs).natAbs ≤ 1000000000 then prodI xs else 0), .bool (decide ((prodI xs).natAbs ≤ 1000000000))]) ∧ Drawn0 w w' := by
  obtain ⟨k, hk⟩ := prod_ev xs (by have := h.1; omega) hb
  have := impl_product.calls k (some ⟨g, 0, none⟩) cap xs _ _ w h.reads.1 h.reads.2 hk
  rw [← h.1] at this; exact this
set_option maxHeartbeats 1000000 in
set_option maxRecDepth 100000 in
theorem lowest_any (w : World) (base g1 g2 n1 n2 c1 c2 : Nat) (A B : List Int) (h1 : Rw w base g1 n1 c1 A) (h2 : Rw w base g2 n2 c2 B) (hne : g1 ≠ g2) (hbase : base ≤ w.heap.size)
    (hlA : n1 ≤ 1000) (hlB : n2 ≤ 1000) (bA : ∀ j, j < A.length → (A.getD j 0).natAbs ≤ 2000000000) (bB : ∀ j, j < B.length → (B.getD j 0).natAbs ≤ 2000000000 ∧ B.getD j 0 ≠ 0)
    (N D : Int) (hD : 0 < D) (hc : Int.gcd N D = 1) (hr : N * prodI B = prodI A * D) (r1 r2 r3 : Int) (hres : (r1, r2, r3) = if Fits N D then (N, D, 0) else (0, 0, 3)) :
    Calls Try.prog 102 #[.slice (some ⟨g1, 0, none⟩) n1 c1, .slice (some ⟨g2, 0, none⟩) n2 c2] w fun e w' =>
      e = .returned (.tuple #[.agg #[.int .i64 r1, .int .i64 r2], .int .i64 r3]) ∧ Below base w w' := by
  have hu26 := Try.underlying26
  have hg1 := h1.lt
  have hg2 := h2.lt
  have H1 := Lib.hid h1
  have H2 := Lib.hid h2
  have HI := Lib.hid (LInv.start bA bB)
  have HR := Lib.hid (And.intro hc hr)
  have HS := Lib.hid hres
  clear h1 h2 bA bB hc hr hres
  go_enter Try.func102, Try.ntmps102
  go_wp2
  go_loopw [15] (fun i wr => ∃ (k : Nat) (A' B' : List Int), i = .int .i64 k ∧ k ≤ n1 ∧ LInv A B A' B' k 0 ∧ Rw wr base g1 n1 c1 A' ∧ Rw wr base g2 n2 c2 B' ∧ wr.heap[w.heap.size]? = some (.cells #[.int .i64 0, .int .i64 0] 26 (0, 0)) ∧ Below base w wr ∧ w.heap.size < wr.heap.size) (fun i _ => n1 - (intOf i).toNat)
  case atStart => exact ⟨0, A, B, rfl, Nat.zero_le _, HI.out, H1.out.alloc _, H2.out.alloc _, heap_alloc_new _ _, (Below.refl _ _).alloc hbase _, by simp⟩
  case round =>
    obtain ⟨k, A', B', rfl, hk, hinv, hr1, hr2, hblk, hbel, hsz⟩ := hrel
    have HI' := Lib.hid hinv
    have R1 := Lib.hid hr1
    have R2 := Lib.hid hr2
    have HK := Lib.hid hblk
    have HB := Lib.hid hbel
    clear hinv hr1 hr2 hblk hbel HI H1 H2
    by_cases hlt : k < n1
    · go_wp2
      go_loopw [20] (fun j wr' => ∃ (l : Nat) (A2 B2 : List Int), j = .int .i64 l ∧ l ≤ n2 ∧ LInv A B A2 B2 k l ∧ Rw wr' base g1 n1 c1 A2 ∧ Rw wr' base g2 n2 c2 B2 ∧ wr'.heap[w.heap.size]? = some (.cells #[.int .i64 0, .int .i64 0] 26 (0, 0)) ∧ Below base w wr' ∧ w.heap.size < wr'.heap.size) (fun j _ => n2 - (intOf j).toNat)
      case atStart => exact ⟨0, A', B', rfl, Nat.zero_le _, HI'.out, R1.out, R2.out, HK.out, HB.out, hsz⟩
      case round =>
        clear HI' R1 R2 HK HB
        obtain ⟨l, A2, B2, rfl, hl, hinv, hr1, hr2, hblk, hbel, hsz2⟩ := hrel
        have HLA := Lib.hid hr1.1
        have HLB := Lib.hid hr2.1
        have HI' := Lib.hid hinv
        have R1 := Lib.hid hr1
        have R2 := Lib.hid hr2
        have HK := Lib.hid hblk
        have HB := Lib.hid hbel
        by_cases hlt2 : l < n2
        · have ea := (hr1.cell k (by rw [← hr1.1]; exact hlt)).1
          have eb := (hr2.cell l (by rw [← hr2.1]; exact hlt2)).1
          have fa := (hr1.cell k (by rw [← hr1.1]; exact hlt)).2
          have fb := (hr2.cell l (by rw [← hr2.1]; exact hlt2)).2
          have hst := hinv.step (by rw [← hr1.1]; exact hlt) (by rw [← hr2.1]; exact hlt2)
          have ba := hinv.ba k (by rw [← hr1.1]; exact hlt)
          have bb := (hinv.bb l (by rw [← hr2.1]; exact hlt2)).1
          clear hinv hr1 hr2 hblk hbel
          generalize A2.getD k 0 = a at *
          generalize B2.getD l 0 = b at *
          have hgd := impl_gcd_any a b
          have HGD := Lib.hid hgd
          clear hgd
          have hd1 : ((Int.gcd a b : Int) != 0) = true := by simpa using hst.1
          have hd2 : ((Int.gcd a b : Int) == 0) = false := by simpa using hst.1
          have hd3 : ¬ (Int.gcd a b : Int) = 0 := hst.1
          have HST := Lib.hid hst
          clear hst
          generalize hg : (Int.gcd a b : Int) = d at *
          have hk1 : (0 : Int) ≤ (k : Int) := by omega
          have hk2 : (k : Int) < (n1 : Int) := by omega
          have hl1 : (0 : Int) ≤ (l : Int) := by omega
          have hl2 : (l : Int) < (n2 : Int) := by omega
          go_wp2
          go_quiet ((go_at_call 87; refine Calls.quiet_of (HGD.out _ ?_ ?_ ?_ ?_) <;> omega))
          go_wp2
          go_roundw
          case rel =>
            obtain ⟨hz, q1, q2, q3⟩ := HST.out
            have e1 := w64 q1
            have e2 := w64 q2
            try simp only [e1]
            try simp only [e2]
            refine ⟨l + 1, _, _, by go_num, by omega, q3, ?_, ?_, ?_, ?_, by simp; omega⟩
            · exact ((R1.out.drewN nq).set k _).far hne l _
            · exact ((R2.out.drewN nq).far (Ne.symm hne) k _).set l _
            · exact (Below.heap_setCell _ _ _ _ (by show w.heap.size ≠ g2; omega)).trans ((Below.heap_setCell _ _ _ _ (by show w.heap.size ≠ g1; omega)).trans HK.out)
            · exact ((pw_below_drewN HB.out nq).setCell R1.out.base_le _).setCell R2.out.base_le _
          case measure => simp [intOf]; omega
        · go_wp2
          go_roundw
          case rel =>
            have hn := HI'.out
            rw [show l = B2.length from by have := HLB.out; omega] at hn
            exact ⟨k + 1, A2, B2, by go_num, by omega, hn.next, R1.out, R2.out, HK.out, HB.out, hsz2⟩
          case measure => simp [intOf]; omega
    · have hdone := HI'.out.done (by have := R1.out.1; omega) hD HR.out.1 HR.out.2
      have HCt := Lib.hid (contains_any R1.out hlA)
      have hgA : g1 ≠ w.heap.size := by omega
      by_cases hz : (0 : Int) ∈ A'
      · have hz' := decide_eq_true hz
        have hN : N = 0 := by have h0 := prodI_zero.1 hz; rcases hdone.2 with h | h <;> omega
        have hD1 : D = 1 := by have h0 := HR.out.1; rw [hN] at h0; simp [Int.gcd] at h0; omega
        have hF : Fits N D := by rw [hN, hD1]; decide
        have hS := HS.out
        rw [if_pos hF, hN, hD1] at hS
        simp only [Prod.mk.injEq] at hS
        obtain ⟨rfl, rfl, rfl⟩ := hS
        clear hN hD1 hF hdone hz
        have hb1 : ∀ (m : Nat), (wr.drewN m).heap[w.heap.size]? = some (.cells #[.int .i64 0, .int .i64 0] 26 (0, 0)) := fun m => HK.out
        go_wp2_with fail
        refine HCt.out.mono ?_
        rintro e w1 ⟨rfl, m, rfl⟩
        have hc0 := blk_cell (hb1 m) 0
        have hc1 := blk_cell (hb1 m) 1
        have hf0 := blk_frozen (hb1 m) 0
        have hf1 := blk_frozen (hb1 m) 1
        go_wp2
        refine bodyPost_ret (v := .tuple #[.agg #[.int .i64 0, .int .i64 1], .int .i64 0]) (by simp [results, Try.results102, go_sem, hc0, hc1]) rfl ⟨rfl, ?_⟩
        exact ((pw_below_drewN HB.out m).setCell hbase _).setCell hbase _
      · have hz' := decide_eq_false hz
        have hb1 : ∀ (m : Nat), (wr.drewN m).heap[w.heap.size]? = some (.cells #[.int .i64 0, .int .i64 0] 26 (0, 0)) := fun m => HK.out
        have hb2 := fun m : Nat => ((pw_below_drewN HB.out m).setCell hbase (p := ⟨w.heap.size, 0, none⟩) (.int .i64 r1)).setCell hbase (p := ⟨w.heap.size, 1, none⟩) (.int .i64 r2)
        have HP1 := Lib.hid (fun m : Nat => product_any (R1.out.drewN m) hlA (fun j hj => ⟨HI'.out.ba j hj, ne_of_not_mem hz j hj⟩))
        have HP2 := Lib.hid (fun m : Nat => product_any (R2.out.drewN m) hlB HI'.out.bb)
        have hS := HS.out
        have HB1 := Lib.hid hb1
        have HB2 := Lib.hid hb2
        clear hb1 hb2
        generalize prodI A' = P at *
        generalize prodI B' = Q at *
        by_cases c1 : P.natAbs ≤ 1000000000
        · by_cases c2 : Q.natAbs ≤ 1000000000
          · rw [if_pos (show Fits N D by unfold Fits; omega)] at hS
            simp only [Prod.mk.injEq] at hS
            obtain ⟨rfl, rfl, rfl⟩ := hS
            rw [if_pos c1, decide_eq_true c1] at HP1
            rw [if_pos c2, decide_eq_true c2] at HP2
            rcases hdone.2 with ⟨hp, rfl, rfl⟩ | ⟨hp, rfl, rfl⟩
            · have hq : ¬ Q < 0 := by omega
              clear hz hdone
              go_wp2_with fail
              refine HCt.out.mono ?_
              rintro e w1 ⟨rfl, m, rfl⟩
              go_wp2_with fail
              refine (HP1.out _).mono ?_
              rintro e w1 ⟨rfl, m2, rfl⟩
              rw [World.drewN_drewN]
              go_wp2_with fail
              refine (HP2.out _).mono ?_
              rintro e w1 ⟨rfl, m3, rfl⟩
              rw [World.drewN_drewN]
              have hb1 := HB1.out (m + m2 + m3)
              have hc0 := blk_cell hb1 0
              have hc1 := blk_cell hb1 1
              have hf0 := blk_frozen hb1 0
              have hf1 := blk_frozen hb1 1
              go_wp2
              refine bodyPost_ret (v := .tuple #[.agg #[.int .i64 P, .int .i64 Q], .int .i64 0]) (by simp [results, Try.results102, go_sem, hc0, hc1]) rfl ⟨rfl, HB2.out _⟩
            · have hq : -r2 < 0 := by omega
              have hq2 : -1000000000 ≤ r1 ∧ r1 ≤ 1000000000 := by omega
              have hq3 : r2 ≤ 1000000000 := by omega
              clear hz hdone
              go_wp2_with fail
              refine HCt.out.mono ?_
              rintro e w1 ⟨rfl, m, rfl⟩
              go_wp2_with fail
              refine (HP1.out _).mono ?_
              rintro e w1 ⟨rfl, m2, rfl⟩
              rw [World.drewN_drewN]
              go_wp2_with fail
              refine (HP2.out _).mono ?_
              rintro e w1 ⟨rfl, m3, rfl⟩
              rw [World.drewN_drewN]
              have hb1 := HB1.out (m + m2 + m3)
              have hc0 := blk_cell hb1 0
              have hc1 := blk_cell hb1 1
              have hf0 := blk_frozen hb1 0
              have hf1 := blk_frozen hb1 1
              go_wp2
              refine bodyPost_ret (v := .tuple #[.agg #[.int .i64 r1, .int .i64 r2], .int .i64 0]) (by simp [results, Try.results102, go_sem, hc0, hc1]) rfl ⟨rfl, HB2.out _⟩
          · rw [if_neg (show ¬ Fits N D by unfold Fits; omega)] at hS
            simp only [Prod.mk.injEq] at hS
            obtain ⟨rfl, rfl, rfl⟩ := hS
            rw [if_pos c1, decide_eq_true c1] at HP1
            rw [if_neg c2, decide_eq_false c2] at HP2
            clear hz hdone
            go_wp2_with fail
            refine HCt.out.mono ?_
            rintro e w1 ⟨rfl, m, rfl⟩
            go_wp2_with fail
            refine (HP1.out _).mono ?_
            rintro e w1 ⟨rfl, m2, rfl⟩
            rw [World.drewN_drewN]
            go_wp2_with fail
            refine (HP2.out _).mono ?_
            rintro e w1 ⟨rfl, m3, rfl⟩
            rw [World.drewN_drewN]
            have hb1 := HB1.out (m + m2 + m3)
            have hc0 := blk_cell hb1 0
            have hc1 := blk_cell hb1 1
            have hf0 := blk_frozen hb1 0
            have hf1 := blk_frozen hb1 1
            go_wp2
            refine bodyPost_ret (v := .tuple #[.agg #[.int .i64 0, .int .i64 0], .int .i64 3]) (by simp [results, Try.results102, go_sem, hc0, hc1]) rfl ⟨rfl, HB2.out _⟩
        · by_cases c2 : Q.natAbs ≤ 1000000000
          · rw [if_neg (show ¬ Fits N D by unfold Fits; omega)] at hS
            simp only [Prod.mk.injEq] at hS
            obtain ⟨rfl, rfl, rfl⟩ := hS
            rw [if_neg c1, decide_eq_false c1] at HP1
            rw [if_pos c2, decide_eq_true c2] at HP2
            clear hz hdone
            go_wp2_with fail
            refine HCt.out.mono ?_
            rintro e w1 ⟨rfl, m, rfl⟩
            go_wp2_with fail
            refine (HP1.out _).mono ?_
            rintro e w1 ⟨rfl, m2, rfl⟩
            rw [World.drewN_drewN]
            go_wp2_with fail
            refine (HP2.out _).mono ?_
            rintro e w1 ⟨rfl, m3, rfl⟩
            rw [World.drewN_drewN]
            have hb1 := HB1.out (m + m2 + m3)
            have hc0 := blk_cell hb1 0
            have hc1 := blk_cell hb1 1
            have hf0 := blk_frozen hb1 0
            have hf1 := blk_frozen hb1 1
            go_wp2
            refine bodyPost_ret (v := .tuple #[.agg #[.int .i64 0, .int .i64 0], .int .i64 3]) (by simp [results, Try.results102, go_sem, hc0, hc1]) rfl ⟨rfl, HB2.out _⟩
          · rw [if_neg (show ¬ Fits N D by unfold Fits; omega)] at hS
            simp only [Prod.mk.injEq] at hS
            obtain ⟨rfl, rfl, rfl⟩ := hS
            rw [if_neg c1, decide_eq_false c1] at HP1
            rw [if_neg c2, decide_eq_false c2] at HP2
            clear hz hdone
            go_wp2_with fail
            refine HCt.out.mono ?_
            rintro e w1 ⟨rfl, m, rfl⟩
            go_wp2_with fail
            refine (HP1.out _).mono ?_
            rintro e w1 ⟨rfl, m2, rfl⟩
            rw [World.drewN_drewN]
            go_wp2_with fail
            refine (HP2.out _).mono ?_
            rintro e w1 ⟨rfl, m3, rfl⟩
            rw [World.drewN_drewN]
            have hb1 := HB1.out (m + m2 + m3)
            have hc0 := blk_cell hb1 0
            have hc1 := blk_cell hb1 1
            have hf0 := blk_frozen hb1 0
            have hf1 := blk_frozen hb1 1
            go_wp2
            refine bodyPost_ret (v := .tuple #[.agg #[.int .i64 0, .int .i64 0], .int .i64 3]) (by simp [results, Try.results102, go_sem, hc0, hc1]) rfl ⟨rfl, HB2.out _⟩
end Go.Proofs.Ytaplebckjbbobaa.Low
end
section
namespace Go.Proofs.Ytaplebckjbbobaa.Low
open Go.RowKit Go.Proofs.YtaplebckjbbobaaW.PrintWords Go.Proofs.YtaplebckjbbobaaW.PrintMore FracMath PFnExactMoveFraction
theorem xy_cases {m0 m1 m2 p q N D : Int} (hv : IsVal m0 m1 m2 p q N D) (h : mvXY m0 m1 m2 p q = (1, 0)) : N = 1 ∧ D = 0 ∧ Fits N D := by
  have hr := hv.rel
  rw [h] at hr
  have hD : D = 0 := by simp at hr; omega
  have hN := hv.inf hD
  subst hN hD
  exact ⟨rfl, rfl, by decide⟩
theorem move_inf (p : Int) (m0 m1 m2 : Int) (h1 : m0 ≠ 1) (w : World) :
    Calls Try.prog 68 #[.agg #[.int .i64 m0, .int .i64 m1, .int .i64 m2], .agg #[.int .i64 p, .int .i64 0]] w fun e w' => e = .returned (.tuple #[.agg #[.int .i64 1, .int .i64 0], .int .i64 0]) ∧ Below w.heap.size w w' := by
  have hu26 := Try.underlying26
  have hm1 : (m0 == 1) = false := by simpa using h1
  go_enter Try.func68, Try.ntmps68
  go_wp2
  refine bodyPost_ret (v := .tuple #[.agg #[.int .i64 1, .int .i64 0], .int .i64 0]) (by simp [results, Try.results68, go_sem]) rfl ⟨rfl, ?_⟩
  repeat (first | exact Below.refl _ _ | (refine Below.setCell ?_ (by simp) _) | (refine Below.alloc ?_ (by simp <;> omega) _) | (refine Below.drew ?_))
theorem move_one_inf (p : Int) (m1 m2 : Int) (w : World) :
    Calls Try.prog 68 #[.agg #[.int .i64 1, .int .i64 m1, .int .i64 m2], .agg #[.int .i64 p, .int .i64 0]] w fun e w' => e = .returned (.tuple #[.agg #[.int .i64 0, .int .i64 1], .int .i64 0]) ∧ Below w.heap.size w w' := by
  have hu26 := Try.underlying26
  go_enter Try.func68, Try.ntmps68
  go_wp2
  refine bodyPost_ret (v := .tuple #[.agg #[.int .i64 0, .int .i64 1], .int .i64 0]) (by simp [results, Try.results68, go_sem]) rfl ⟨rfl, ?_⟩
  repeat (first | exact Below.refl _ _ | (refine Below.setCell ?_ (by simp) _) | (refine Below.alloc ?_ (by simp <;> omega) _) | (refine Below.drew ?_))
theorem move_one_zero (q : Int) (m1 m2 : Int) (w : World) (hq : q ≠ 0) :
    Calls Try.prog 68 #[.agg #[.int .i64 1, .int .i64 m1, .int .i64 m2], .agg #[.int .i64 0, .int .i64 q]] w fun e w' => e = .returned (.tuple #[.agg #[.int .i64 1, .int .i64 0], .int .i64 0]) ∧ Below w.heap.size w w' := by
  have hu26 := Try.underlying26
  have hm1 : (q == 0) = false := by simpa using hq
  go_enter Try.func68, Try.ntmps68
  go_wp2
  refine bodyPost_ret (v := .tuple #[.agg #[.int .i64 1, .int .i64 0], .int .i64 0]) (by simp [results, Try.results68, go_sem]) rfl ⟨rfl, ?_⟩
  repeat (first | exact Below.refl _ _ | (refine Below.setCell ?_ (by simp) _) | (refine Below.alloc ?_ (by simp <;> omega) _) | (refine Below.drew ?_))
theorem Rw.mk {w : World} {base g : Nat} (x : Int) (h : w.heap[g]? = some (.cells #[.int .i64 x] 2 (0, 0))) (hg : base ≤ g) : Rw w base g 1 1 [x] := by
  refine Rw.of (ok := fun _ => True) ?_
  exact Kd.R_of_own ⟨rfl, .inr ⟨g, 1, _, rfl, hg, h, Nat.le_refl _, by unfold maxLen; omega, rfl, rfl⟩⟩ (fun _ _ => trivial)
theorem alloc_at (w : World) (o : Obj) (k : Nat) : (w.alloc o).heap[k]? = if k = w.heap.size then some o else w.heap[k]? := by
  show (w.heap.push o)[k]? = _
  rw [Array.getElem?_push]
theorem red_val {N D : Int} (h0 : 0 ≤ D) (hinf : D = 0 → N = 1) {X Y : Int} (hY : 0 < Y) (h : N * Y = X * D) : 0 < D := by
  rcases Int.lt_or_eq_of_le h0 with hd | hd
  · exact hd
  · exfalso
    rw [hinf hd.symm, ← hd, Int.mul_zero] at h; omega
set_option maxHeartbeats 1000000 in
theorem move_zero (p q : Int) (w : World) (hx : Fr p q) (hq : q ≠ 0) (N D : Int) (hv : IsVal 0 0 0 p q N D) (r1 r2 r3 : Int) (hres : (r1, r2, r3) = if Fits N D then (N, D, 0) else (0, 0, 3)) :
    Calls Try.prog 68 #[.agg #[.int .i64 0, .int .i64 0, .int .i64 0], .agg #[.int .i64 p, .int .i64 q]] w fun e w' => e = .returned (.tuple #[.agg #[.int .i64 r1, .int .i64 r2], .int .i64 r3]) ∧ Below w.heap.size w w' := by
  have hu26 := Try.underlying26
  have hu90 := Try.underlying90
  have hm1 : (q == 0) = false := by simpa using hq
  obtain ⟨b1, b2, b3, b4, b5, b6⟩ := hx
  have hv2 := hv.rel
  unfold mvXY at hv2
  rw [if_neg (by decide), if_neg (by decide), if_neg hq] at hv2
  simp only at hv2
  have hDp := red_val hv.nonneg hv.inf (show 0 < q by omega) hv2
  have HC := Lib.hid (fun (W : World) (h1 : Rw W (w.heap.size + 1 + 1 + 1 + 1) (w.heap.size + 1 + 1 + 1 + 1) 1 1 [q - p]) (h2 : Rw W (w.heap.size + 1 + 1 + 1 + 1) (w.heap.size + 1 + 1 + 1 + 1 + 1) 1 1 [q]) (h3 : w.heap.size + 1 + 1 + 1 + 1 ≤ W.heap.size) => lowest_any W _ _ _ 1 1 1 1 [q - p] [q] h1 h2 (by omega) h3 (by omega) (by omega)
    (fun j hj => by obtain rfl : j = 0 := by simpa using hj
                    simp; omega) (fun j hj => by obtain rfl : j = 0 := by simpa using hj
                                                 simp; omega) N D hDp hv.cop (by simpa [prodI] using hv2) r1 r2 r3 hres)
  clear hv hres hv2 b5 b6
  go_enter Try.func68, Try.ntmps68
  go_wp2_with fail
  refine (HC.out _ (Rw.mk _ (by simp only [alloc_at, World.size_alloc]; simp) (Nat.le_refl _)) (Rw.mk _ (by simp only [alloc_at, World.size_alloc]; simp) (by omega)) (by simp)).mono ?_
  rintro e w1 ⟨rfl, hb⟩
  have hblk : w1.heap[w.heap.size + 1 + 1]? = some (.cells #[.int .i64 0, .int .i64 0] 26 (0, 0)) := (hb.block (w.heap.size + 1 + 1) (by omega)).trans (by simp only [alloc_at, World.size_alloc]; simp)
  have HB : Hid (Below w.heap.size w w1) := Lib.hid (Below.trans (by repeat (first | exact Below.refl _ _ | (refine Below.alloc ?_ (by simp <;> omega) _))) (hb.mono (by omega)))
  clear hb
  have hc0 := blk_cell hblk 0
  have hc1 := blk_cell hblk 1
  have hf0 := blk_frozen hblk 0
  have hf1 := blk_frozen hblk 1
  clear hblk
  go_wp2
  refine bodyPost_ret (v := .tuple #[.agg #[.int .i64 r1, .int .i64 r2], .int .i64 r3]) (by simp [results, Try.results68, go_sem, hc0, hc1]) rfl ⟨rfl, ?_⟩
  exact (HB.out.setCell (by simp <;> omega) _).setCell (by simp <;> omega) _
set_option maxHeartbeats 1000000 in
theorem move_one (p q : Int) (w : World) (hx : Fr p q) (hq : q ≠ 0) (hp : p ≠ 0) (N D : Int) (hv : IsVal 1 0 0 p q N D) (r1 r2 r3 : Int) (hres : (r1, r2, r3) = if Fits N D then (N, D, 0) else (0, 0, 3)) :
    Calls Try.prog 68 #[.agg #[.int .i64 1, .int .i64 0, .int .i64 0], .agg #[.int .i64 p, .int .i64 q]] w fun e w' => e = .returned (.tuple #[.agg #[.int .i64 r1, .int .i64 r2], .int .i64 r3]) ∧ Below w.heap.size w w' := by
  have hu26 := Try.underlying26
  have hu90 := Try.underlying90
  have hm1 : (q == 0) = false := by simpa using hq
  have hm2 : (p == 0) = false := by simpa using hp
  obtain ⟨b1, b2, b3, b4, b5, b6⟩ := hx
  have hv1 := hv.rel
  unfold mvXY at hv1
  rw [if_neg (by decide), if_pos rfl, if_neg hq, if_neg hp] at hv1
  have hv2 : N * p = q * D ∧ 0 < D := by
    by_cases hpn : p < 0
    · rw [if_pos hpn] at hv1
      simp only at hv1
      refine ⟨?_, red_val hv.nonneg hv.inf (show 0 < -p by omega) hv1⟩
      rw [Int.mul_neg, Int.neg_mul] at hv1; omega
    · rw [if_neg hpn] at hv1
      simp only at hv1
      exact ⟨hv1, red_val hv.nonneg hv.inf (show 0 < p by omega) hv1⟩
  obtain ⟨hv2, hDp⟩ := hv2
  have HC := Lib.hid (fun (W : World) (h1 : Rw W (w.heap.size + 1 + 1 + 1 + 1) (w.heap.size + 1 + 1 + 1 + 1) 1 1 [q]) (h2 : Rw W (w.heap.size + 1 + 1 + 1 + 1) (w.heap.size + 1 + 1 + 1 + 1 + 1) 1 1 [p]) (h3 : w.heap.size + 1 + 1 + 1 + 1 ≤ W.heap.size) => lowest_any W _ _ _ 1 1 1 1 [q] [p] h1 h2 (by omega) h3 (by omega) (by omega)
    (fun j hj => by obtain rfl : j = 0 := by simpa using hj
                    simp; omega) (fun j hj => by obtain rfl : j = 0 := by simpa using hj
                                                 simp; omega) N D hDp hv.cop (by simpa [prodI] using hv2) r1 r2 r3 hres)
  clear hv hres hv2 hv1 b5 b6
  go_enter Try.func68, Try.ntmps68
  go_wp2_with fail
  refine (HC.out _ (Rw.mk _ (by simp only [alloc_at, World.size_alloc]; simp) (Nat.le_refl _)) (Rw.mk _ (by simp only [alloc_at, World.size_alloc]; simp) (by omega)) (by simp)).mono ?_
  rintro e w1 ⟨rfl, hb⟩
  have hblk : w1.heap[w.heap.size + 1 + 1]? = some (.cells #[.int .i64 0, .int .i64 0] 26 (0, 0)) := (hb.block (w.heap.size + 1 + 1) (by omega)).trans (by simp only [alloc_at, World.size_alloc]; simp)
  have HB : Hid (Below w.heap.size w w1) := Lib.hid (Below.trans (by repeat (first | exact Below.refl _ _ | (refine Below.alloc ?_ (by simp <;> omega) _))) (hb.mono (by omega)))
  clear hb
  have hc0 := blk_cell hblk 0
  have hc1 := blk_cell hblk 1
  have hf0 := blk_frozen hblk 0
  have hf1 := blk_frozen hblk 1
  clear hblk
  go_wp2
  refine bodyPost_ret (v := .tuple #[.agg #[.int .i64 r1, .int .i64 r2], .int .i64 r3]) (by simp [results, Try.results68, go_sem, hc0, hc1]) rfl ⟨rfl, ?_⟩
  exact (HB.out.setCell (by simp <;> omega) _).setCell (by simp <;> omega) _
end Go.Proofs.Ytaplebckjbbobaa.Low
end
section
namespace Go.Proofs.Ytaplebckjbbobaa.Low
open Go.RowKit Go.Proofs.YtaplebckjbbobaaW.PrintWords Go.Proofs.YtaplebckjbbobaaW.PrintMore FracMath PFnExactMoveFraction
def rep : Nat → List Int → List Int
  | 0, _ => []
  | i + 1, l => rep i l ++ l
theorem rep_len (l : List Int) : ∀ i, (rep i l).length = i * l.length
  | 0 => by simp [rep]
  | i + 1 => by rw [rep, List.length_append, rep_len l i, Nat.succ_mul]
theorem rep_prod (l : List Int) : ∀ i, prodI (rep i l) = prodI l ^ i
  | 0 => by simp [rep, prodI]
  | i + 1 => by rw [rep, prodI_append, rep_prod l i, Int.pow_succ]
structure MS (w wr : World) (f l p q : Int) (v9 v10 : Value) (xs ys : List Int) : Prop where
  own9 : wr.ownsRow (w.heap.size + 1 + 1 + 1 + 1) 2 1 v9 xs.length (nums .i64 xs)
  own10 : wr.ownsRow (w.heap.size + 1 + 1 + 1 + 1) 2 1 v10 ys.length (nums .i64 ys)
  ne : v9.ownBlock ≠ v10.ownBlock
  bx : wr.heap[w.heap.size + 1]? = some (.cells #[.int .i64 p, .int .i64 q] 26 (0, 0))
  br : wr.heap[w.heap.size + 1 + 1]? = some (.cells #[.int .i64 0, .int .i64 0] 26 (0, 0))
  bel : Below w.heap.size w wr
  siz : w.heap.size + 1 + 1 + 1 + 1 ≤ wr.heap.size
section
variable {w wr w1 : World} {f l p q : Int} {v9 v10 v' : Value} {xs ys : List Int}
theorem MS.alloc (h : MS w wr f l p q v9 v10 xs ys) (o : Obj) : MS w (wr.alloc o) f l p q v9 v10 xs ys :=
  ⟨h.own9.alloc o, h.own10.alloc o, h.ne, blk_alloc h.bx o, blk_alloc h.br o, h.bel.alloc (by have := h.siz; omega) o, by have := h.siz; simp; omega⟩
theorem MS.app9 (h : MS w wr f l p q v9 v10 xs ys) {zs : List Int} (ho : w1.ownsRow (w.heap.size + 1 + 1 + 1 + 1) 2 1 v' (xs ++ zs).length (nums .i64 (xs ++ zs))) (hg : wr.grownBy w1 v9.ownBlock) (hat : v'.ownBlock = v9.ownBlock ∨ v'.ownBlock = some wr.heap.size) : MS w w1 f l p q v' v10 (xs ++ zs) ys := by
  have hs := h.siz
  have far : ∀ k, k < w.heap.size + 1 + 1 + 1 + 1 → w1.heap[k]? = wr.heap[k]? := fun k hk => hg.block k (by omega) (fun e => by have := own_base h.own9 k e.symm; omega)
  refine ⟨ho, h.own10.kept hg (.inr (Ne.symm h.ne)), ?_, (far _ (by omega)).trans h.bx, (far _ (by omega)).trans h.br, ?_, Nat.le_trans hs hg.size⟩
  · rcases hat with e | e
    · rw [e]; exact h.ne
    · rw [e]; intro e2; have := own_lt h.own10 _ e2.symm; omega
  · exact h.bel.trans ⟨hg.os, hg.tape, hg.output, hg.size, fun k hk => far k (by omega)⟩
theorem MS.app10 (h : MS w wr f l p q v9 v10 xs ys) {zs : List Int} (ho : w1.ownsRow (w.heap.size + 1 + 1 + 1 + 1) 2 1 v' (ys ++ zs).length (nums .i64 (ys ++ zs))) (hg : wr.grownBy w1 v10.ownBlock) (hat : v'.ownBlock = v10.ownBlock ∨ v'.ownBlock = some wr.heap.size) : MS w w1 f l p q v9 v' xs (ys ++ zs) := by
  have hs := h.siz
  have far : ∀ k, k < w.heap.size + 1 + 1 + 1 + 1 → w1.heap[k]? = wr.heap[k]? := fun k hk => hg.block k (by omega) (fun e => by have := own_base h.own10 k e.symm; omega)
  refine ⟨h.own9.kept hg (.inr h.ne), ho, ?_, (far _ (by omega)).trans h.bx, (far _ (by omega)).trans h.br, ?_, Nat.le_trans hs hg.size⟩
  · rcases hat with e | e
    · rw [e]; exact h.ne
    · rw [e]; intro e2; have := own_lt h.own9 _ e2; omega
  · exact h.bel.trans ⟨hg.os, hg.tape, hg.output, hg.size, fun k hk => far k (by omega)⟩
theorem two_new (w : World) (a b : Value) (e : TypeId) (j : Nat) (u : Value) (h : [a, b][j]? = some u) : (w.alloc (.cells #[a, b] e)).cell? ((⟨w.heap.size, 0, none⟩ : Addr).add j) = some u := by
  rw [add_at]
  have hb : (w.alloc (.cells #[a, b] e)).heap[w.heap.size]? = some (.cells #[a, b] e (0, 0)) := heap_alloc_new w _
  rw [blk_cell hb, Nat.zero_add]
  simpa using h
theorem nums_snoc (xs : List Int) (a b : Int) : nums .i64 xs ++ [.int .i64 a, .int .i64 b] = nums .i64 (xs ++ [a, b]) := by simp [nums]
theorem rep_snoc (X : List Int) (i : Nat) (l : List Int) : X ++ rep i l ++ l = X ++ rep (i + 1) l := by rw [List.append_assoc]; rfl
theorem own_form {W : World} {base : Nat} {v : Value} {xs : List Int} (h : W.ownsRow base 2 1 v xs.length (nums .i64 xs)) (hp : 0 < xs.length) : ∃ g cap n, n = xs.length ∧ v = .slice (some ⟨g, 0, none⟩) n cap ∧ Rw W base g n cap xs := by
  have hR : Kd.R (Kd.int .i64) 2 W base (fun _ => True) v xs := Kd.R_of_own h (fun _ _ => trivial)
  obtain ⟨g, cap, rfl, _⟩ := Kd.R_form hR hp
  exact ⟨g, cap, _, rfl, rfl, Rw.of hR⟩
theorem rep_bd {l : List Int} (hl : ∀ a, a ∈ l → a.natAbs ≤ 2000000000) : ∀ i a, a ∈ rep i l → a.natAbs ≤ 2000000000
  | 0, a, h => by simp [rep] at h
  | i + 1, a, h => by
    rw [rep, List.mem_append] at h
    exact h.elim (rep_bd hl i a) (hl a)
theorem rep_all {P : Int → Prop} {l : List Int} (hl : ∀ a, a ∈ l → P a) : ∀ i a, a ∈ rep i l → P a
  | 0, a, h => by simp [rep] at h
  | i + 1, a, h => by
    rw [rep, List.mem_append] at h
    exact h.elim (rep_all hl i a) (hl a)
theorem getD_mem {l : List Int} {j : Nat} (h : j < l.length) : l.getD j 0 ∈ l := by
  simp [List.getD, h]
theorem MS.start (w : World) (f l p q : Int) (A D : Obj) (n : Nat) : MS w ((((((w.alloc A).alloc (.cells #[.int .i64 p, .int .i64 q] 26)).alloc (.cells #[.int .i64 0, .int .i64 0] 26)).alloc D).drewN n).alloc (.cells #[] 2) |>.alloc (.cells #[] 2)) f l p q
    (.slice (some ⟨w.heap.size + 1 + 1 + 1 + 1, 0, none⟩) 0 0) (.slice (some ⟨w.heap.size + 1 + 1 + 1 + 1 + 1, 0, none⟩) 0 0) [] [] := by
  refine ⟨⟨rfl, .inr ⟨_, 0, #[], rfl, by omega, ?_, Nat.le_refl _, by unfold maxLen; omega, rfl, rfl⟩⟩, ⟨rfl, .inr ⟨_, 0, #[], rfl, by omega, ?_, Nat.le_refl _, by unfold maxLen; omega, rfl, rfl⟩⟩, by simp [Value.ownBlock], ?_, ?_, ?_, ?_⟩
  · simp only [alloc_at, World.size_alloc, World.heap_drewN]; simp
  · simp only [alloc_at, World.size_alloc, World.heap_drewN]; simp
  · simp only [alloc_at, World.size_alloc, World.heap_drewN]; simp
  · simp only [alloc_at, World.size_alloc, World.heap_drewN]; simp
  · exact ((pw_below_drewN (((((Below.refl _ _).alloc (Nat.le_refl _) _).alloc (by simp) _).alloc (by simp; omega) _).alloc (by simp; omega) _) n).alloc (by simp; omega) _).alloc (by simp; omega) _
  · simp
end
set_option maxHeartbeats 2000000 in
set_option maxRecDepth 100000 in
theorem move_two (f l p q : Int) (w : World) (hx : Fr p q) (hq : q ≠ 0) (hf : 1 ≤ f ∧ f ≤ 20) (hl : 1 ≤ l ∧ l ≤ 20) (N D : Int) (hv : IsVal 2 f l p q N D) (r1 r2 r3 : Int) (hres : (r1, r2, r3) = if Fits N D then (N, D, 0) else (0, 0, 3)) :
    Calls Try.prog 68 #[.agg #[.int .i64 2, .int .i64 f, .int .i64 l], .agg #[.int .i64 p, .int .i64 q]] w fun e w' => e = .returned (.tuple #[.agg #[.int .i64 r1, .int .i64 r2], .int .i64 r3]) ∧ Below w.heap.size w w' := by
  have hu26 := Try.underlying26
  have hm1 : (q == 0) = false := by simpa using hq
  obtain ⟨b1, b2, b3, b4, b5, b6⟩ := hx
  obtain ⟨hf1, hf2⟩ := hf
  obtain ⟨hl1, hl2⟩ := hl
  clear b5 b6
  go_enter Try.func68, Try.ntmps68
  go_wp2
  go_quiet (fail)
  go_wp2
  obtain ⟨i0, hi, hz0, hz1, hz2⟩ := info_parts info2
  have HV := Lib.hid (And.intro hv hres)
  clear hv hres
  have hu90 := Try.underlying90
  go_loopw [9, 10, 73] (fun v9 v10 v73 wr => ∃ (i : Nat), v73 = .int .i64 i ∧ (i : Int) ≤ f ∧ MS w wr f l p q v9 v10 (rep i [p, f + l]) (rep i [q, f])) (fun _ _ v73 _ => f.toNat - (intOf v73).toNat)
  case atStart => exact ⟨0, rfl, by omega, MS.start w f l p q _ _ nq⟩
  case round =>
    obtain ⟨i, rfl, hif, hms⟩ := hrel
    by_cases hlt : (i : Int) < f
    · have hcp := blk_cell hms.bx 0
      have hcq := blk_cell hms.bx 1
      simp only [List.getElem?_toArray, List.getElem?_cons_zero, List.getElem?_cons_succ] at hcp hcq
      have HM := Lib.hid hms
      clear hms
      have hsz1 : (i * 2 + 2 ≤ 100000) := by omega
      have hlen1 : (rep i [p, f + l]).length = i * 2 := rep_len _ i
      have hlen2 : (rep i [q, f]).length = i * 2 := rep_len _ i
      have HL := Lib.hid (And.intro hlen1 hlen2)
      clear hlen1 hlen2
      go_wp2_with (at_builtin; refine wpList_append_own_at _ rfl (.tmp 75) (.tmp 81) 90 rfl (w.heap.size + 1 + 1 + 1 + 1) 2 i0 (.int .i64 0) 1 8 hu90 hi hz0 hz1 hz2 rfl (by decide) _ _ _ rfl (HM.out.own9.alloc _) ⟨wr.heap.size, 0, none⟩ 2 2 [.int .i64 p, .int .i64 (f + l)] rfl rfl ?c1 ?c2 ?c3 ?c4 ?c5 ?_)
      case c1 => exact fun j u h => two_new _ _ _ _ j u h
      case c2 => intro u hu; simp at hu; rcases hu with rfl | rfl <;> rfl
      case c3 => have := HL.out.1; unfold maxLen; omega
      case c4 => have := HL.out.1; omega
      case c5 => have := HM.out.siz; simp; omega
      intro v1 w1 ho hg _ hat
      have HM1 := Lib.hid ((HM.out.alloc _).app9 (zs := [p, f + l]) (by rw [← nums_snoc, List.length_append]; exact ho) hg (by rw [World.size_alloc]; exact hat))
      clear ho hg hat HM hcp hcq
      have hcp := blk_cell HM1.out.bx 0
      have hcq := blk_cell HM1.out.bx 1
      simp only [List.getElem?_toArray, List.getElem?_cons_zero, List.getElem?_cons_succ] at hcp hcq
      go_wp2_with (at_builtin; refine wpList_append_own_at _ rfl (.tmp 83) (.tmp 87) 90 rfl (w.heap.size + 1 + 1 + 1 + 1) 2 i0 (.int .i64 0) 1 8 hu90 hi hz0 hz1 hz2 rfl (by decide) _ _ _ rfl (HM1.out.own10.alloc _) ⟨w1.heap.size, 0, none⟩ 2 2 [.int .i64 q, .int .i64 f] rfl rfl ?d1 ?d2 ?d3 ?d4 ?d5 ?_)
      case d1 => exact fun j u h => two_new _ _ _ _ j u h
      case d2 => intro u hu; simp at hu; rcases hu with rfl | rfl <;> rfl
      case d3 => have := HL.out.2; unfold maxLen; omega
      case d4 => have := HL.out.2; omega
      case d5 => have := HM1.out.siz; simp; omega
      intro v2 w2 ho hg _ hat
      have HM2 := Lib.hid ((HM1.out.alloc _).app10 (zs := [q, f]) (by rw [← nums_snoc, List.length_append]; exact ho) hg (by rw [World.size_alloc]; exact hat))
      clear ho hg hat HM1 hcp hcq
      go_wp2
      go_roundw
      case rel => exact ⟨i + 1, by go_num, by omega, HM2.out⟩
      case measure => simp [intOf]; omega
    · obtain rfl : f = i := by omega
      have HM := Lib.hid hms
      clear hms
      go_wp2
      go_loopw [9, 10, 91] (fun v9 v10 v91 wr2 => ∃ (j : Nat), v91 = .int .i64 j ∧ (j : Int) ≤ l ∧ MS w wr2 i l p q v9 v10 (rep i [p, i + l] ++ rep j [q - p, i + l]) (rep i [q, i] ++ rep j [q, l])) (fun _ _ v91 _ => l.toNat - (intOf v91).toNat)
      case atStart => exact ⟨0, rfl, by omega, by simpa [rep] using HM.out⟩
      case round =>
        clear HM
        obtain ⟨j, rfl, hjl, hms⟩ := hrel
        by_cases hlt2 : (j : Int) < l
        · have hcp := blk_cell hms.bx 0
          have hcq := blk_cell hms.bx 1
          simp only [List.getElem?_toArray, List.getElem?_cons_zero, List.getElem?_cons_succ] at hcp hcq
          have HM := Lib.hid hms
          clear hms
          have hsz1 : (j * 2 + 2 ≤ 100000) := by omega
          have HL := Lib.hid (show (rep i [p, (i : Int) + l] ++ rep j [q - p, (i : Int) + l]).length = i * 2 + j * 2 ∧ (rep i [q, (i : Int)] ++ rep j [q, l]).length = i * 2 + j * 2 from ⟨by rw [List.length_append, rep_len, rep_len]; rfl, by rw [List.length_append, rep_len, rep_len]; rfl⟩)
          go_wp2_with (at_builtin; refine wpList_append_own_at _ rfl (.tmp 93) (.tmp 102) 90 rfl (w.heap.size + 1 + 1 + 1 + 1) 2 i0 (.int .i64 0) 1 8 hu90 hi hz0 hz1 hz2 rfl (by decide) _ _ _ rfl (HM.out.own9.alloc _) ⟨wr.heap.size, 0, none⟩ 2 2 [.int .i64 (q - p), .int .i64 (i + l)] rfl rfl ?c1 ?c2 ?c3 ?c4 ?c5 ?_)
          case c1 => exact fun j u h => two_new _ _ _ _ j u h
          case c2 => intro u hu; simp at hu; rcases hu with rfl | rfl <;> rfl
          case c3 => have := HL.out.1; unfold maxLen; omega
          case c4 => have := HL.out.1; omega
          case c5 => have := HM.out.siz; simp; omega
          intro v1 w1 ho hg _ hat
          have HM1 := Lib.hid ((HM.out.alloc _).app9 (zs := [q - p, i + l]) (by rw [← nums_snoc, List.length_append, List.length_append]; exact ho) hg (by rw [World.size_alloc]; exact hat))
          clear ho hg hat HM hcp hcq
          have hcp := blk_cell HM1.out.bx 0
          have hcq := blk_cell HM1.out.bx 1
          simp only [List.getElem?_toArray, List.getElem?_cons_zero, List.getElem?_cons_succ] at hcp hcq
          go_wp2_with (at_builtin; refine wpList_append_own_at _ rfl (.tmp 104) (.tmp 108) 90 rfl (w.heap.size + 1 + 1 + 1 + 1) 2 i0 (.int .i64 0) 1 8 hu90 hi hz0 hz1 hz2 rfl (by decide) _ _ _ rfl (HM1.out.own10.alloc _) ⟨w1.heap.size, 0, none⟩ 2 2 [.int .i64 q, .int .i64 l] rfl rfl ?d1 ?d2 ?d3 ?d4 ?d5 ?_)
          case d1 => exact fun j u h => two_new _ _ _ _ j u h
          case d2 => intro u hu; simp at hu; rcases hu with rfl | rfl <;> rfl
          case d3 => have := HL.out.2; unfold maxLen; omega
          case d4 => have := HL.out.2; omega
          case d5 => have := HM1.out.siz; simp; omega
          intro v2 w2 ho hg _ hat
          have HM2 := Lib.hid ((HM1.out.alloc _).app10 (zs := [q, l]) (by rw [← nums_snoc, List.length_append, List.length_append]; exact ho) hg (by rw [World.size_alloc]; exact hat))
          clear ho hg hat HM1 hcp hcq
          go_wp2
          go_roundw
          case rel => exact ⟨j + 1, by go_num, by omega, by have h := HM2.out; rw [rep_snoc, rep_snoc] at h; exact h⟩
          case measure => simp [intOf]; omega
        · obtain rfl : l = j := by omega
          have hv := HV.out.1
          have hr := hv.rel
          unfold mvXY at hr
          rw [if_pos rfl, if_neg hq] at hr
          simp only [Int.toNat_natCast] at hr
          have hDp := red_val hv.nonneg hv.inf (Int.mul_pos (Int.pow_pos (Int.mul_pos (show 0 < q by omega) (show (0 : Int) < i by omega))) (Int.pow_pos (Int.mul_pos (show 0 < q by omega) (show (0 : Int) < j by omega)))) hr
          have l9 : (rep i [p, (i : Int) + j] ++ rep j [q - p, (i : Int) + j]).length = i * 2 + j * 2 := by rw [List.length_append, rep_len, rep_len]; rfl
          have l10 : (rep i [q, (i : Int)] ++ rep j [q, (j : Int)]).length = i * 2 + j * 2 := by rw [List.length_append, rep_len, rep_len]; rfl
          obtain ⟨g1, c1, n9, hn9, rfl, hw1⟩ := own_form hms.own9 (by omega)
          obtain ⟨g2, c2, n10, hn10, rfl, hw2⟩ := own_form hms.own10 (by omega)
          have hgne : g1 ≠ g2 := by
            have h := hms.ne
            simpa [Value.ownBlock] using h
          have hbd : ∀ a, a ∈ rep i [p, (i : Int) + j] ++ rep j [q - p, (i : Int) + j] → a.natAbs ≤ 2000000000 := fun a ha => by
            rw [List.mem_append] at ha
            exact ha.elim (rep_bd (l := [p, (i : Int) + j]) (by intro x hx; simp at hx; rcases hx with rfl | rfl <;> omega) i a) (rep_bd (l := [q - p, (i : Int) + j]) (by intro x hx; simp at hx; rcases hx with rfl | rfl <;> omega) j a)
          have hbd2 : ∀ a, a ∈ rep i [q, (i : Int)] ++ rep j [q, (j : Int)] → a.natAbs ≤ 2000000000 ∧ a ≠ 0 := fun a ha => by
            rw [List.mem_append] at ha
            exact ha.elim (rep_all (P := fun a => a.natAbs ≤ 2000000000 ∧ a ≠ 0) (l := [q, (i : Int)]) (by intro x hx; simp at hx; rcases hx with rfl | rfl <;> omega) i a) (rep_all (P := fun a => a.natAbs ≤ 2000000000 ∧ a ≠ 0) (l := [q, (j : Int)]) (by intro x hx; simp at hx; rcases hx with rfl | rfl <;> omega) j a)
          have HC := Lib.hid (lowest_any wr _ g1 g2 _ _ c1 c2 _ _ hw1 hw2 hgne hms.siz (by omega) (by omega) (fun k hk => hbd _ (getD_mem hk)) (fun k hk => hbd2 _ (getD_mem hk)) N D hDp hv.cop
            (by rw [prodI_append, prodI_append, rep_prod, rep_prod, rep_prod, rep_prod]
                simp only [prodI, Int.mul_one]
                exact hr) r1 r2 r3 HV.out.2)
          have HM := Lib.hid hms
          clear hms hv hr l9 l10 hw1 hw2 hbd hbd2 hn9 hn10
          go_wp2_with fail
          refine HC.out.mono ?_
          rintro e w1 ⟨rfl, hb⟩
          have hblk := (hb.block (w.heap.size + 1 + 1) (by omega)).trans HM.out.br
          have HB : Hid (Below w.heap.size w w1) := Lib.hid (HM.out.bel.trans (hb.mono (by omega)))
          clear hb
          have hc0 := blk_cell hblk 0
          have hc1 := blk_cell hblk 1
          have hf0 := blk_frozen hblk 0
          have hf1 := blk_frozen hblk 1
          clear hblk
          go_wp2
          refine bodyPost_ret (v := .tuple #[.agg #[.int .i64 r1, .int .i64 r2], .int .i64 r3]) (by simp [results, Try.results68, go_sem, hc0, hc1]) rfl ⟨rfl, ?_⟩
          exact (HB.out.setCell (by simp <;> omega) _).setCell (by simp <;> omega) _
end Go.Proofs.Ytaplebckjbbobaa.Low
end
section
namespace Go.Proofs.Ytaplebckjbbobaa.FracMath
open Go.RowKit Go.Proofs.YtaplebckjbbobaaW.PrintWords Go.Proofs.YtaplebckjbbobaaW.PrintMore PFnExactMoveFraction
theorem natAbs_le_of_dvd {a b : Int} (h : a ∣ b) (hb : b ≠ 0) : a.natAbs ≤ b.natAbs := Nat.le_of_dvd (by omega) (Int.natAbs_dvd_natAbs.2 h)
theorem idvd_left {N A X D : Int} (hc : Int.gcd N D = 1) (h : N * A = X * D) : N ∣ X := by
  have h1 : N.natAbs ∣ X.natAbs * D.natAbs := ⟨A.natAbs, by rw [← Int.natAbs_mul, ← Int.natAbs_mul, h]⟩
  exact Int.natAbs_dvd_natAbs.1 (Nat.Coprime.dvd_of_dvd_mul_right hc h1)
theorem idvd_right {N A X D : Int} (hc : Int.gcd N D = 1) (h : N * A = X * D) : D ∣ A := by
  have h1 : D.natAbs ∣ N.natAbs * A.natAbs := ⟨X.natAbs, by rw [← Int.natAbs_mul, ← Int.natAbs_mul, h, Int.mul_comm]⟩
  exact Int.natAbs_dvd_natAbs.1 (Nat.Coprime.dvd_of_dvd_mul_left (Nat.Coprime.symm hc) h1)
theorem fr_of {N D : Int} (hN : N.natAbs ≤ 1000000000) (hD : D ≤ 1000000000) (hp : 0 < D) (hc : Int.gcd N D = 1) : Fr N D := ⟨by omega, by omega, by omega, hD, hc, .inl hp⟩
theorem part_le {Na Da p s q f F0 F1 : Int} (hF : F0 * f = s * F1) (h : Na * (q * F1) = p * F0 * Da) (hF1 : F1 ≠ 0) : Na * (q * f) = p * s * Da := by
  have : F1 * (Na * (q * f)) = F1 * (p * s * Da) := by
    have e1 : F1 * (Na * (q * f)) = (Na * (q * F1)) * f := by grind
    rw [e1, h]
    have e2 : p * F0 * Da * f = p * (F0 * f) * Da := by grind
    rw [e2, hF]; grind
  exact Int.eq_of_mul_eq_mul_left hF1 this
theorem fits_parts {p q f l N D : Int} (hf : 1 ≤ f ∧ f ≤ 20) (hl : 1 ≤ l ∧ l ≤ 20) (hx : Fr p q) (hq : 0 < q) (hcop : Int.gcd N D = 1) (hD : 0 < D)
    (hrel : N * ((q * f) ^ f.toNat * (q * l) ^ l.toNat) = (p * (f + l)) ^ f.toNat * ((q - p) * (f + l)) ^ l.toNat * D) (hfit : Fits N D) :
    q ≤ 1264920 ∧ p.natAbs < 25000000 ∧ (q - p).natAbs < 25000000 := by
  obtain ⟨x1, x2, x3, x4, x5, _⟩ := hx
  by_cases hp : p = 0
  · subst hp; simp [Int.gcd] at x5; omega
  by_cases hr : q - p = 0
  · have : q = p := by omega
    subst this; simp [Int.gcd] at x5; omega
  obtain ⟨F, rfl⟩ := Int.eq_ofNat_of_zero_le (show 0 ≤ f by omega)
  obtain ⟨L, rfl⟩ := Int.eq_ofNat_of_zero_le (show 0 ≤ l by omega)
  obtain ⟨Q, rfl⟩ := Int.eq_ofNat_of_zero_le (show 0 ≤ q by omega)
  simp only [Int.toNat_natCast] at hrel
  have habs : N.natAbs * ((Q * F) ^ F * (Q * L) ^ L) = (p.natAbs * (F + L)) ^ F * ((Q - p : Int).natAbs * (F + L)) ^ L * D.natAbs := by
    have := congrArg Int.natAbs hrel
    simp only [Int.natAbs_mul, Int.natAbs_pow, Int.natAbs_natCast] at this
    rw [show ((F : Int) + L).natAbs = F + L from by omega] at this
    exact this
  have hrel2 : N.natAbs * (Q ^ (F + L) * (F ^ F * L ^ L)) = p.natAbs ^ F * (Q - p : Int).natAbs ^ L * (F + L) ^ (F + L) * D.natAbs := by
    rw [Nat.mul_pow, Nat.mul_pow, Nat.mul_pow, Nat.mul_pow] at habs
    rw [Nat.pow_add, Nat.pow_add]
    generalize Q ^ F = A at *
    generalize Q ^ L = B at *
    generalize (F + L) ^ F = A' at *
    generalize (F + L) ^ L = B' at *
    generalize p.natAbs ^ F = C at *
    generalize (Q - p : Int).natAbs ^ L = E at *
    generalize F ^ F = G at *
    generalize L ^ L = H at *
    clear hrel
    grind
  have hN0 : N ≠ 0 := by
    rintro rfl
    rw [Int.zero_mul] at hrel
    have h1 : (p * ((F : Int) + L)) ^ F ≠ 0 := Int.pow_ne_zero (Int.mul_ne_zero hp (by omega))
    have h2 : (((Q : Int) - p) * ((F : Int) + L)) ^ L ≠ 0 := Int.pow_ne_zero (Int.mul_ne_zero hr (by omega))
    exact absurd hrel.symm (Int.mul_ne_zero (Int.mul_ne_zero h1 h2) (by omega))
  have c1 : Nat.Coprime Q p.natAbs := by rw [Nat.coprime_comm]; exact x5
  have c2 : Nat.Coprime Q (Q - p : Int).natAbs := by
    have h := x5
    rw [Int.gcd_comm] at h
    have h3 : Int.gcd (Q : Int) (Q - p) = 1 := by
      rw [← h, show ((Q : Int) - p) = -p + Q * 1 from by omega]
      simp
    exact h3
  unfold Fits at hfit
  have := lim_ok p.natAbs (Q - p : Int).natAbs Q F L N.natAbs D.natAbs (by omega) (by omega) (by omega) (by omega) (by omega) (by omega) (by omega) c1 c2 (by omega) (by omega) hrel2 (by omega) (by omega)
  omega
def Told (N D : Int) (r : Int × Int × Bool) : Prop := (Fits N D → r = (N, D, true)) ∧ (¬ Fits N D → r.2.2 = false)
theorem value_ev (f l p q N D : Int) (hf : 1 ≤ f ∧ f ≤ 20) (hl : 1 ≤ l ∧ l ≤ 20) (hx : Fr p q) (hv : IsVal 2 f l p q N D) : ∃ r, Told N D r ∧ Ev (fun k => spec_l10Value.f k f l p q) r := by
  have hX := hx
  obtain ⟨x1, x2, x3, x4, x5, x6⟩ := hx
  unfold spec_l10Value.f
  by_cases hq0 : q = 0
  · have hp1 : p = 1 := x6.resolve_left (by omega)
    have hr := hv.rel
    unfold mvXY at hr
    rw [if_pos rfl, if_pos hq0] at hr
    have hD : D = 0 := by simp at hr; omega
    have hN := hv.inf hD
    refine ⟨(p, q, true), ⟨fun _ => by rw [hp1, hq0, hN, hD], fun h => absurd ?_ h⟩, Ev.if_pos hq0 (Ev.now _)⟩
    subst hN hD; decide
  · have hq : 0 < q := by omega
    have hr := hv.rel
    unfold mvXY at hr
    rw [if_pos rfl, if_neg hq0] at hr
    have hDp : 0 < D := by
      rcases Int.lt_or_eq_of_le hv.nonneg with h | h
      · exact h
      · exfalso
        rw [hv.inf h.symm, ← h, Int.mul_zero, Int.one_mul] at hr
        have : 0 < (q * f) ^ f.toNat * (q * l) ^ l.toNat := Int.mul_pos (Int.pow_pos (Int.mul_pos hq (by omega))) (Int.pow_pos (Int.mul_pos hq (by omega)))
        simp only at hr; omega
    simp only at hr
    obtain ⟨R0, R1, sr, hs1, hs2, hs3, hs4, hs5, evR⟩ := make_ev (q - p) q (by omega) (by omega) (by omega)
    obtain ⟨F0, F1, sf, hf1, hf2, hf3, hf4, hf5, evF⟩ := make_ev (f + l) f (by omega) (by omega) (by omega)
    obtain ⟨L0, L1, sl, hl1, hl2, hl3, hl4, hl5, evL⟩ := make_ev (f + l) l (by omega) (by omega) (by omega)
    have pos1 : ∀ {D' s : Int}, (0 < D' ∨ (D' = 0 ∧ s = 1)) → D' ≠ 0 → 0 < D' := fun h h' => by omega
    have hR1 : 0 < R1 := pos1 hs5 (by rintro rfl; rw [Int.mul_zero] at hs3; omega)
    have hF1 : 0 < F1 := pos1 hf5 (by rintro rfl; rw [Int.mul_zero] at hf3; omega)
    have hL1 : 0 < L1 := pos1 hl5 (by rintro rfl; rw [Int.mul_zero] at hl3; omega)
    have hcR : Int.gcd (q - p) q = 1 := by
      rw [Int.gcd_comm] at x5 ⊢
      rw [← x5, show (q - p) = -p + q * 1 from by omega]
      simp
    obtain ⟨q0, q1⟩ : R0 = q - p ∧ R1 = q := int_red_unique hs4 hcR hR1 hq (by
      have a : R0 * q = R0 * (sr * R1) := by rw [← hs3]
      have b : (q - p) * R1 = sr * R0 * R1 := by rw [← hs2]
      rw [a, b]; grind)
    rw [q0, q1] at evR
    clear hs1 hs2 hs3 hs5
    have hFF : F0 * f = (f + l) * F1 := by
      have a : F0 * f = F0 * (sf * F1) := by rw [← hf3]
      have b : (f + l) * F1 = sf * F0 * F1 := by rw [← hf2]
      rw [a, b]; grind
    have hLL : L0 * l = (f + l) * L1 := by
      have a : L0 * l = L0 * (sl * L1) := by rw [← hl3]
      have b : (f + l) * L1 = sl * L0 * L1 := by rw [← hl2]
      rw [a, b]; grind
    have bF0 : F0.natAbs ≤ 40 := by have h := abs_le_mul (x := F0) hf1; rw [← hf2] at h; omega
    have bF1 : F1.natAbs ≤ 20 := by have h := abs_le_mul (x := F1) hf1; rw [← hf3] at h; omega
    have bL0 : L0.natAbs ≤ 40 := by have h := abs_le_mul (x := L0) hl1; rw [← hl2] at h; omega
    have bL1 : L1.natAbs ≤ 20 := by have h := abs_le_mul (x := L1) hl1; rw [← hl3] at h; omega
    clear hf1 hf2 hf3 hl1 hl2 hl3 hf5 hl5
    obtain ⟨Na, Da, hDa, hca, hra, evA⟩ := times_ev p q F0 F1 (by omega) (by omega) (by omega) (by omega) x5 hf4 hq hF1
    obtain ⟨Nb, Db, hDb, hcb, hrb, evB⟩ := times_ev (q - p) q L0 L1 (by omega) (by omega) (by omega) (by omega) hcR hl4 hq hL1
    have hA := part_le hFF hra (by omega)
    have hB := part_le hLL hrb (by omega)
    have hparts : Fits N D → Fr (q - p) q ∧ Fr Na Da ∧ Fr Nb Db := by
      intro hfit
      obtain ⟨y1, y2, y3⟩ := fits_parts hf hl hX hq hv.cop hDp hr hfit
      have zero : ∀ {Nn Dd : Int}, 0 < Dd → Int.gcd Nn Dd = 1 → Nn = 0 → Fr Nn Dd := fun h1 h2 h3 => by
        subst h3
        have : (Int.gcd 0 _ : Nat) = 1 := h2
        simp [Int.gcd] at this
        exact fr_of (by omega) (by omega) h1 h2
      have num : ∀ {Nn Dd u S A : Int}, 0 < Dd → Int.gcd Nn Dd = 1 → Nn * (q * A) = u * S * Dd → u.natAbs < 25000000 → S.natAbs ≤ 40 → 0 < A → A.natAbs ≤ 20 → Fr Nn Dd := by
        intro Nn Dd u S A h1 h2 h3 h4 h5 h6 h7
        by_cases hz : u * S = 0
        · rw [hz, Int.zero_mul] at h3
          refine zero h1 h2 ?_
          rcases Int.mul_eq_zero.1 h3 with h | h
          · exact h
          · have := Int.mul_pos hq h6; omega
        · have d1 := natAbs_le_of_dvd (idvd_left h2 h3) hz
          have d2 := natAbs_le_of_dvd (idvd_right h2 h3) (by have := Int.mul_pos hq h6; omega)
          rw [Int.natAbs_mul] at d1 d2
          have e1 : u.natAbs * S.natAbs ≤ 25000000 * 40 := Nat.mul_le_mul (by omega) h5
          have e2 : q.natAbs * A.natAbs ≤ 1264920 * 20 := Nat.mul_le_mul (by omega) h7
          exact fr_of (by omega) (by omega) h1 h2
      exact ⟨fr_of (by omega) (by omega) hq hcR, num hDa hca hra y2 bF0 hF1 bF1, num hDb hcb hrb y3 bL0 hL1 bL1⟩
    have hw1 : wrap64 (q - p) = q - p := w64' (by omega) (by omega)
    have hw2 : wrap64 (f + l) = f + l := w64' (by omega) (by omega)
    have hbad : ¬ Fits N D → Told N D (0, 0, false) := fun h => ⟨fun h' => absurd h' h, fun _ => rfl⟩
    simp only [hw1, hw2]
    by_cases g1 : Fr (q - p) q
    · by_cases g2 : Fr Na Da
      · by_cases g3 : Fr Nb Db
        · -- the product
          have hprod := product_ev Na Da Nb Db f.toNat l.toNat g2 g3 hDa hDb (by omega) (by omega) (by omega) (by omega) N D hDp hv.cop (by
            have pA : (Na * (q * f)) ^ f.toNat = (p * (f + l) * Da) ^ f.toNat := by rw [hA]
            have pB : (Nb * (q * l)) ^ l.toNat = ((q - p) * (f + l) * Db) ^ l.toNat := by rw [hB]
            rw [Int.mul_pow, @Int.mul_pow (p * (f + l))] at pA
            rw [Int.mul_pow, @Int.mul_pow ((q - p) * (f + l))] at pB
            have hne : (q * f) ^ f.toNat * (q * l) ^ l.toNat ≠ 0 := by
              have := Int.mul_pos (Int.pow_pos (m := f.toNat) (Int.mul_pos hq (show 0 < f by omega))) (Int.pow_pos (m := l.toNat) (Int.mul_pos hq (show 0 < l by omega)))
              omega
            refine Int.eq_of_mul_eq_mul_right hne ?_
            clear hbad hparts evA evB evR evF evL hra hrb hA hB
            generalize (q * f) ^ f.toNat = A at *
            generalize (q * l) ^ l.toNat = B at *
            generalize (p * (f + l)) ^ f.toNat = C at *
            generalize ((q - p) * (f + l)) ^ l.toNat = E at *
            generalize Na ^ f.toNat = G at *
            generalize Nb ^ l.toNat = H at *
            generalize Da ^ f.toNat = I at *
            generalize Db ^ l.toNat = J at *
            have e1 : N * (I * J) * (A * B) = (N * (A * B)) * (I * J) := by grind
            have e2 : G * H * D * (A * B) = (G * A) * (H * B) * D := by grind
            rw [e1, hr, e2, pA, pB]; grind)
          refine ⟨if N.natAbs ≤ 1000000000 ∧ D ≤ 1000000000 then (N, D, true) else (0, 0, false), ?_, ?_⟩
          · unfold Told Fits
            by_cases hfit : N.natAbs ≤ 1000000000 ∧ D ≤ 1000000000
            · rw [if_pos hfit]; exact ⟨fun _ => rfl, fun h => absurd hfit h⟩
            · rw [if_neg hfit]; exact ⟨fun h => absurd h hfit, fun _ => rfl⟩
          · refine Ev.if_neg hq0 (Ev.bind evR (Ev.bind evF (Ev.bind evL (Ev.bind evA ?_))))
            simp only [decide_eq_true g1, decide_eq_true g2, if_true]
            refine Ev.to (f := fun k => (spec_l10Times.f k (q - p) q L0 L1).bind fun b => (if b.2.2 = true then ((spec_l10Product.f k Na Da f b.1 b.2.1 l).bind fun c => some (c.1, c.2.1, c.2.2)) else some (0, 0, false))) (fun k => ?_) (Ev.bind evB ?_)
            · simp only [spec_l10Value.j0, Bool.not_true, Bool.false_eq_true, if_false]
            · refine Ev.if_pos (decide_eq_true g3) (Ev.bind ?_ (Ev.now _))
              rw [show ((f.toNat : Nat) : Int) = f from by omega, show ((l.toNat : Nat) : Int) = l from by omega] at hprod
              exact hprod
        · refine ⟨(0, 0, false), hbad fun h => g3 (hparts h).2.2, ?_⟩
          refine Ev.if_neg hq0 (Ev.bind evR (Ev.bind evF (Ev.bind evL (Ev.bind evA ?_))))
          simp only [decide_eq_true g1, decide_eq_true g2, if_true]
          refine Ev.to (f := fun k => (spec_l10Times.f k (q - p) q L0 L1).bind fun b => (if b.2.2 = true then ((spec_l10Product.f k Na Da f b.1 b.2.1 l).bind fun c => some (c.1, c.2.1, c.2.2)) else some (0, 0, false))) (fun k => ?_) (Ev.bind evB ?_)
          · simp only [spec_l10Value.j0, Bool.not_true, Bool.false_eq_true, if_false]
          · exact Ev.if_neg (by simpa using g3) (Ev.now _)
      · refine ⟨(0, 0, false), hbad fun h => g2 (hparts h).2.1, ?_⟩
        refine Ev.if_neg hq0 (Ev.bind evR (Ev.bind evF (Ev.bind evL (Ev.bind evA ?_))))
        simp only [decide_eq_true g1, decide_eq_false g2, if_true]
        refine Ev.to (f := fun _ => some (0, 0, false)) (fun k => ?_) (Ev.now _)
        simp only [spec_l10Value.j0, Bool.not_false, if_true]
    · refine ⟨(0, 0, false), hbad fun h => g1 (hparts h).1, ?_⟩
      refine Ev.if_neg hq0 (Ev.bind evR (Ev.bind evF (Ev.bind evL (Ev.bind evA ?_))))
      simp only [decide_eq_false g1, Bool.false_eq_true, if_false]
      refine Ev.to (f := fun _ => some (0, 0, false)) (fun k => ?_) (Ev.now _)
      simp only [spec_l10Value.j0, if_true]
end Go.Proofs.Ytaplebckjbbobaa.FracMath
end
section
namespace Go.Proofs.Ytaplebckjbbobaa.FracMath
open Go.RowKit Go.Proofs.YtaplebckjbbobaaW.PrintWords Go.Proofs.YtaplebckjbbobaaW.PrintMore PFnExactMoveFraction
theorem fits_fr {N D : Int} (hc : Int.gcd N D = 1) (h0 : 0 < D ∨ (D = 0 ∧ N = 1)) : decide (Fr N D) = decide (Fits N D) := by
  apply decide_eq_decide.2
  unfold Fr Fits
  omega
theorem at_ev (m0 m1 m2 p q N D : Int) (hm : Mv m0 m1 m2) (hx : Fr p q) (hv : IsVal m0 m1 m2 p q N D) : ∃ r, Told N D r ∧ Ev (fun k => spec_l10At.f k m0 m1 m2 p q) r := by
  have hX := hx
  obtain ⟨x1, x2, x3, x4, x5, x6⟩ := hx
  have made : ∀ N' D' : Int, Int.gcd N' D' = 1 → (0 < D' ∨ (D' = 0 ∧ N' = 1)) → IsVal m0 m1 m2 p q N' D' → Told N D (N', D', decide (Fr N' D')) := by
    intro N' D' h1 h2 h3
    obtain ⟨rfl, rfl⟩ := val_unique hm hX hv h3
    rw [fits_fr h1 h2]
    exact ⟨fun h => by rw [decide_eq_true h], fun h => decide_eq_false h⟩
  unfold spec_l10At.f
  rcases hm with ⟨rfl, h1, h2, h3, h4⟩ | ⟨h0, rfl, rfl⟩
  · obtain ⟨r, hr, hev⟩ := value_ev m1 m2 p q N D ⟨h1, h2⟩ ⟨h3, h4⟩ hX hv
    exact ⟨r, hr, Ev.if_pos rfl (Ev.bind hev (Ev.now _))⟩
  · have n2 : ¬ m0 = 2 := by omega
    by_cases h1 : m0 = 1
    · obtain ⟨N', D', s, e1, e2, e3, e4, e5, hev⟩ := make_ev q p (by omega) (by omega) (by omega)
      refine ⟨_, made N' D' e4 e5 ⟨e4, by omega, fun h => by omega, ?_⟩, Ev.if_neg n2 (Ev.if_pos h1 (Ev.bind hev (Ev.now _)))⟩
      unfold mvXY
      rw [if_neg n2, if_pos h1]
      have hrel : N' * p = q * D' := by
        have a : N' * p = N' * (s * D') := by rw [← e3]
        have b : q * D' = s * N' * D' := by rw [← e2]
        rw [a, b]; grind
      by_cases hq0 : q = 0
      · rw [if_pos hq0]
        show N' * 1 = 0 * D'
        have : p = 1 := by omega
        rw [hq0, this] at hrel; omega
      · rw [if_neg hq0]
        by_cases hp0 : p = 0
        · rw [if_pos hp0]
          show N' * 0 = 1 * D'
          rw [hp0] at hrel
          have : q * D' = 0 := by omega
          rcases Int.mul_eq_zero.1 this with h | h
          · exact absurd h hq0
          · rw [h]; simp
        · rw [if_neg hp0]
          by_cases hpn : p < 0
          · rw [if_pos hpn]
            show N' * (-p) = (-q) * D'
            rw [Int.mul_neg, hrel, Int.neg_mul]
          · rw [if_neg hpn]; exact hrel
    · by_cases hq0 : q = 0
      · refine ⟨(p, q, true), ?_, Ev.if_neg n2 (Ev.if_neg h1 (Ev.if_pos hq0 (Ev.now _)))⟩
        have hr := hv.rel
        unfold mvXY at hr
        rw [if_neg n2, if_neg h1, if_pos hq0] at hr
        have hD : D = 0 := by simp at hr; omega
        have hN := hv.inf hD
        subst hN hD
        have : p = 1 := by omega
        exact ⟨fun _ => by rw [this, hq0], fun h => absurd (by decide) h⟩
      · obtain ⟨N', D', s, e1, e2, e3, e4, e5, hev⟩ := make_ev (q - p) q (by omega) (by omega) (by omega)
        have hw1 : wrap64 (q - p) = q - p := w64' (by omega) (by omega)
        refine ⟨_, made N' D' e4 e5 ⟨e4, by omega, fun h => by omega, ?_⟩, Ev.if_neg n2 (Ev.if_neg h1 (Ev.if_neg hq0 (Ev.bind (by rw [hw1]; exact hev) (Ev.now _))))⟩
        unfold mvXY
        rw [if_neg n2, if_neg h1, if_neg hq0]
        show N' * q = (q - p) * D'
        have a : N' * q = N' * (s * D') := by rw [← e3]
        have b : (q - p) * D' = s * N' * D' := by rw [← e2]
        rw [a, b]; grind
theorem move_ok (m0 m1 m2 : Int) : Ev (fun k => spec_l10Move.f k m0 m1 m2) (decide (Mv m0 m1 m2)) := by
  have tell : ∀ b : Bool, (b = true ↔ Mv m0 m1 m2) → Ev (fun _ => some b) (decide (Mv m0 m1 m2)) := fun b hb => by
    rw [show decide (Mv m0 m1 m2) = b from by cases b <;> simp_all]; exact Ev.now _
  unfold spec_l10Move.f
  have two : m0 ≠ 0 → Ev (fun k => spec_l10Move.j0 k m0 (m0 == 1) m0 m1 m2) (decide (Mv m0 m1 m2)) := fun h0 => by
    by_cases h1 : m0 = 1
    · by_cases h2 : m1 = 0
      · refine Ev.to (fun k => ?_) (tell (m2 == 0) ?_)
        · simp only [spec_l10Move.j0, h1, beq_self_eq_true, if_true, h2]
        · unfold Mv; simp; omega
      · refine Ev.to (fun k => ?_) (tell false ?_)
        · simp only [spec_l10Move.j0, h1, beq_self_eq_true, if_true]; rw [if_neg h2]
        · unfold Mv; simp; omega
    · by_cases h2 : m0 = 2
      · refine Ev.to (fun k => ?_) (tell (decide (1 ≤ m1 ∧ m1 ≤ 20) && decide (1 ≤ m2 ∧ m2 ≤ 20)) ?_)
        · simp only [spec_l10Move.j0, h2, in_f, Option.bind_some]
          rw [if_neg (by decide)]; simp only [if_true]
          by_cases h3 : 1 ≤ m1 ∧ m1 ≤ 20
          · simp [h3]
          · simp [h3]
        · unfold Mv; simp; omega
      · refine Ev.to (fun k => ?_) (tell false ?_)
        · simp only [spec_l10Move.j0]; rw [if_neg (by simpa using h1), if_neg h2]
        · unfold Mv; simp; omega
  by_cases h0 : m0 = 0
  · refine Ev.if_pos h0 ?_
    by_cases h2 : m1 = 0
    · refine Ev.to (fun k => ?_) (tell (m2 == 0) ?_)
      · simp only [spec_l10Move.j0, h0, beq_self_eq_true, if_true, h2]
      · unfold Mv; simp; omega
    · refine Ev.to (fun k => ?_) (tell false ?_)
      · simp only [spec_l10Move.j0, h0, beq_self_eq_true, if_true]; rw [if_neg h2]
      · unfold Mv; simp; omega
  · exact Ev.if_neg h0 (two h0)
def Answer (m0 m1 m2 p q : Int) (r : Int × Int × Int) : Prop :=
  if Mv m0 m1 m2 ∧ Fr p q then (∃ N D, IsVal m0 m1 m2 p q N D ∧ r = if Fits N D then (N, D, 0) else (0, 0, 3)) else r = (0, 0, 1)
end Go.Proofs.Ytaplebckjbbobaa.FracMath
end
section
namespace Go.Proofs.Ytaplebckjbbobaa.Low
open Go.RowKit Go.Proofs.YtaplebckjbbobaaW.PrintWords Go.Proofs.YtaplebckjbbobaaW.PrintMore FracMath PFnExactMoveFraction
theorem move_any (m0 m1 m2 p q : Int) (w : World) (hm : Mv m0 m1 m2) (hx : Fr p q) (N D : Int) (hv : IsVal m0 m1 m2 p q N D) (r1 r2 r3 : Int) (hres : (r1, r2, r3) = if Fits N D then (N, D, 0) else (0, 0, 3)) :
    Calls Try.prog 68 #[.agg #[.int .i64 m0, .int .i64 m1, .int .i64 m2], .agg #[.int .i64 p, .int .i64 q]] w fun e w' => e = .returned (.tuple #[.agg #[.int .i64 r1, .int .i64 r2], .int .i64 r3]) ∧ Below w.heap.size w w' := by
  have inf : mvXY m0 m1 m2 p q = (1, 0) → r1 = 1 ∧ r2 = 0 ∧ r3 = 0 := fun h => by
    obtain ⟨rfl, rfl, hf⟩ := xy_cases hv h
    rw [if_pos hf] at hres
    simpa using hres
  have hx2 := hx
  obtain ⟨_, _, _, _, _, x6⟩ := hx2
  by_cases hq : q = 0
  · have hp1 : p = 1 := by omega
    by_cases h1 : m0 = 1
    · subst hq h1
      have hr := hv.rel
      have hxy : mvXY 1 m1 m2 p 0 = (0, 1) := by unfold mvXY; rw [if_neg (by decide), if_pos rfl, if_pos rfl]
      rw [hxy] at hr
      have hN : N = 0 := by simpa using hr
      have hD : D = 1 := by have := hv.cop; rw [hN] at this; simp [Int.gcd] at this; have := hv.nonneg; omega
      subst hN hD
      rw [if_pos (by decide)] at hres
      simp only [Prod.mk.injEq] at hres
      obtain ⟨rfl, rfl, rfl⟩ := hres
      exact move_one_inf p m1 m2 w
    · subst hq
      have hxy : mvXY m0 m1 m2 p 0 = (1, 0) := by
        unfold mvXY
        by_cases h2 : m0 = 2
        · rw [if_pos h2, if_pos rfl]
        · rw [if_neg h2, if_neg h1, if_pos rfl]
      obtain ⟨rfl, rfl, rfl⟩ := inf hxy
      exact move_inf p m0 m1 m2 h1 w
  · rcases hm with ⟨rfl, a, b, c, d⟩ | ⟨h0, rfl, rfl⟩
    · exact move_two m1 m2 p q w hx hq ⟨a, b⟩ ⟨c, d⟩ N D hv r1 r2 r3 hres
    · rcases h0 with rfl | rfl
      · exact move_zero p q w hx hq N D hv r1 r2 r3 hres
      · by_cases hp : p = 0
        · subst hp
          obtain ⟨rfl, rfl, rfl⟩ := inf (by unfold mvXY; rw [if_neg (by decide), if_pos rfl, if_neg hq, if_pos rfl])
          exact move_one_zero q 0 0 w hq
        · exact move_one p q w hx hq hp N D hv r1 r2 r3 hres
theorem gcd_l0 : ∀ (n : Nat) (a b : Int), b.natAbs ≤ n → bd a → bd b → Ev (fun k => impl_gcd.l0 k a b) (Int.gcd a b : Int) := by
  intro n
  induction n with
  | zero =>
    intro a b hn ha hb
    obtain rfl : b = 0 := by omega
    refine Ev.to (f := fun _ => some (Int.gcd a 0 : Int)) (fun k => ?_) (Ev.now _)
    simp only [impl_gcd.l0, if_true]
    rw [w64 (by unfold bd at *; omega), gcd_zero_abs]; rfl
  | succ n ih =>
    intro a b hn ha hb
    by_cases hz : b = 0
    · subst hz
      refine Ev.to (f := fun _ => some (Int.gcd a 0 : Int)) (fun k => ?_) (Ev.now _)
      simp only [impl_gcd.l0, if_true]
      rw [w64 (by unfold bd at *; omega), gcd_zero_abs]; rfl
    · have ht := tmod_bd a b hz
      refine Ev.to (f := fun k => impl_gcd.l0 k b (a.tmod b)) (fun k => by simp only [impl_gcd.l0]; rw [_root_.if_neg hz]) ?_
      rw [← gcd_tmod]
      exact ih b (a.tmod b) (by omega) hb (by unfold bd at *; omega)
theorem isFraction_ev (p q : Int) : ∃ k, impl_IsFraction.f k p q = some (decide (Fr p q)) := by
  refine Ev.rounds (g := fun k => impl_IsFraction.f k p q) ?_
  have bad : ¬ Fr p q → Ev (fun k => impl_IsFraction.j0 k true p q) (decide (Fr p q)) := fun h => by
    rw [decide_eq_false h]
    exact Ev.to (f := fun _ => some false) (fun k => by simp only [impl_IsFraction.j0, if_true]) (Ev.now _)
  have fr1 := @Fr
  unfold impl_IsFraction.f
  by_cases h1 : p < -1000000000
  · exact Ev.if_pos h1 (bad (by unfold Fr; omega))
  · refine Ev.if_neg h1 ?_
    by_cases h2 : p > 1000000000
    · exact Ev.if_pos h2 (bad (by unfold Fr; omega))
    · refine Ev.if_neg h2 ?_
      by_cases h3 : q < 0
      · exact Ev.if_pos h3 (bad (by unfold Fr; omega))
      · refine Ev.if_neg h3 ?_
        by_cases h4 : q > 1000000000
        · rw [decide_eq_true h4]; exact bad (by unfold Fr; omega)
        · rw [decide_eq_false h4]
          have tell : ∀ b : Bool, (b = true ↔ Fr p q) → Ev (fun _ => some b) (decide (Fr p q)) := fun b hb => by
            rw [show decide (Fr p q) = b from by cases b <;> simp_all]; exact Ev.now _
          by_cases h5 : q = 0
          · refine Ev.to (fun k => ?_) (tell (p == 1) ?_)
            · simp only [impl_IsFraction.j0, Bool.false_eq_true, if_false]; rw [if_pos h5]
            · subst h5
              unfold Fr
              simp only [beq_iff_eq, Int.gcd_zero_right]
              omega
          · refine Ev.to (f := fun k => (impl_gcd.f k p q).bind fun t => some (t == 1)) (fun k => ?_) (Ev.bind (gcd_l0 _ p q (Nat.le_refl _) (by unfold bd; omega) (by unfold bd; omega)) (tell _ ?_))
            · simp only [impl_IsFraction.j0, Bool.false_eq_true, if_false]; rw [if_neg h5]
            · unfold Fr
              simp only [beq_iff_eq]
              omega
theorem isMove_f (m0 m1 m2 : Int) : impl_IsMove.f m0 m1 m2 = some (decide (Mv m0 m1 m2)) := by
  have tell : ∀ b : Bool, (b = true ↔ Mv m0 m1 m2) → some b = some (decide (Mv m0 m1 m2)) := fun b hb => by
    rw [show decide (Mv m0 m1 m2) = b from by cases b <;> simp_all]
  unfold impl_IsMove.f
  repeat' split
  all_goals (refine tell _ ?_; unfold Mv; simp; try omega)
theorem isMove_any (m0 m1 m2 : Int) (w : World) : Calls Try.prog 47 #[.agg #[.int .i64 m0, .int .i64 m1, .int .i64 m2]] w fun e w' => e = .returned (.bool (decide (Mv m0 m1 m2))) ∧ Below w.heap.size w w' :=
  impl_IsMove.calls m0 m1 m2 _ w (isMove_f m0 m1 m2)
theorem isFraction_any (p q : Int) (w : World) : Calls Try.prog 41 #[.agg #[.int .i64 p, .int .i64 q]] w fun e w' => e = .returned (.bool (decide (Fr p q))) ∧ Below w.heap.size w w' := by
  obtain ⟨k, hk⟩ := isFraction_ev p q
  exact impl_IsFraction.calls k p q _ w hk
structure B3 (w W : World) (o1 o2 o3 : Obj) : Prop where
  b1 : W.heap[w.heap.size]? = some o1
  b2 : W.heap[w.heap.size + 1]? = some o2
  b3 : W.heap[w.heap.size + 1 + 1]? = some o3
  bel : Below w.heap.size w W
  siz : w.heap.size + 1 + 1 + 1 ≤ W.heap.size
theorem B3.start (w : World) (o1 o2 o3 : Obj) : B3 w (((w.alloc o1).alloc o2).alloc o3) o1 o2 o3 := by
  refine ⟨?_, ?_, ?_, ?_, ?_⟩
  · simp only [alloc_at, World.size_alloc]; rw [if_neg (by omega), if_neg (by omega), if_pos trivial]
  · simp only [alloc_at, World.size_alloc]; rw [if_neg (by omega), if_pos trivial]
  · simp only [alloc_at, World.size_alloc]; rw [if_pos trivial]
  · exact (((Below.refl _ _).alloc (Nat.le_refl _) _).alloc (by simp) _).alloc (by simp; omega) _
  · simp
theorem B3.below {w W W' : World} {o1 o2 o3 : Obj} (h : B3 w W o1 o2 o3) (hb : Below W.heap.size W W') : B3 w W' o1 o2 o3 := by
  have hs := h.siz
  exact ⟨(hb.block _ (by omega)).trans h.b1, (hb.block _ (by omega)).trans h.b2, (hb.block _ (by omega)).trans h.b3, h.bel.trans (hb.mono (by omega)), Nat.le_trans hs hb.size⟩
set_option maxHeartbeats 1000000 in
theorem moveFraction_bad (m0 m1 m2 p q : Int) (w : World) (hbad : ¬ (Mv m0 m1 m2 ∧ Fr p q)) :
    Calls Try.prog 13 #[.agg #[.int .i64 m0, .int .i64 m1, .int .i64 m2], .agg #[.int .i64 p, .int .i64 q]] w fun e w' => e = .returned (.tuple #[.agg #[.int .i64 0, .int .i64 0], .int .i64 1]) ∧ Below w.heap.size w w' := by
  have hu26 := Try.underlying26
  have C1 := Lib.hid (fun W => isMove_any m0 m1 m2 W)
  have C2 := Lib.hid (fun W => isFraction_any p q W)
  have HB0 := Lib.hid (B3.start w (.cells #[.int .i64 m0, .int .i64 m1, .int .i64 m2] 29) (.cells #[.int .i64 p, .int .i64 q] 26) (.cells #[.int .i64 0, .int .i64 0] 26))
  by_cases hm : Mv m0 m1 m2
  · have hx : ¬ Fr p q := fun h => hbad ⟨hm, h⟩
    rw [decide_eq_true hm] at C1
    rw [decide_eq_false hx] at C2
    clear hm hx hbad
    go_enter Try.func13, Try.ntmps13
    go_wp2_with fail
    refine (C1.out _).mono ?_
    rintro e w1 ⟨rfl, hb⟩
    have HB1 := Lib.hid (HB0.out.below hb)
    clear hb
    have c0 := blk_cell HB1.out.b2 0
    have c1 := blk_cell HB1.out.b2 1
    simp only [List.getElem?_toArray, List.getElem?_cons_zero, List.getElem?_cons_succ] at c0 c1
    go_wp2_with fail
    refine (C2.out _).mono ?_
    rintro e w2 ⟨rfl, hb⟩
    have HB2 := Lib.hid (HB1.out.below hb)
    clear hb c0 c1
    have c0 := blk_cell HB2.out.b3 0
    have c1 := blk_cell HB2.out.b3 1
    have f0 := blk_frozen HB2.out.b3 0
    have f1 := blk_frozen HB2.out.b3 1
    simp only [List.getElem?_toArray, List.getElem?_cons_zero, List.getElem?_cons_succ] at c0 c1
    go_wp2
    refine bodyPost_ret (v := .tuple #[.agg #[.int .i64 0, .int .i64 0], .int .i64 1]) (by simp [results, Try.results13, go_sem, c0, c1]) rfl ⟨rfl, ?_⟩
    exact (HB2.out.bel.setCell (by simp; omega) _).setCell (by simp; omega) _
  · rw [decide_eq_false hm] at C1
    clear hm hbad
    go_enter Try.func13, Try.ntmps13
    go_wp2_with fail
    refine (C1.out _).mono ?_
    rintro e w1 ⟨rfl, hb⟩
    have HB1 := Lib.hid (HB0.out.below hb)
    clear hb
    have c0 := blk_cell HB1.out.b3 0
    have c1 := blk_cell HB1.out.b3 1
    have f0 := blk_frozen HB1.out.b3 0
    have f1 := blk_frozen HB1.out.b3 1
    simp only [List.getElem?_toArray, List.getElem?_cons_zero, List.getElem?_cons_succ] at c0 c1
    go_wp2
    refine bodyPost_ret (v := .tuple #[.agg #[.int .i64 0, .int .i64 0], .int .i64 1]) (by simp [results, Try.results13, go_sem, c0, c1]) rfl ⟨rfl, ?_⟩
    exact (HB1.out.bel.setCell (by simp; omega) _).setCell (by simp; omega) _
set_option maxHeartbeats 1000000 in
theorem moveFraction_good (m0 m1 m2 p q : Int) (w : World) (hm : Mv m0 m1 m2) (hx : Fr p q) (N D : Int) (hv : IsVal m0 m1 m2 p q N D) (r1 r2 r3 : Int) (hres : (r1, r2, r3) = if Fits N D then (N, D, 0) else (0, 0, 3)) :
    Calls Try.prog 13 #[.agg #[.int .i64 m0, .int .i64 m1, .int .i64 m2], .agg #[.int .i64 p, .int .i64 q]] w fun e w' => e = .returned (.tuple #[.agg #[.int .i64 r1, .int .i64 r2], .int .i64 r3]) ∧ Below w.heap.size w w' := by
  have hu26 := Try.underlying26
  have C1 := Lib.hid (fun W => isMove_any m0 m1 m2 W)
  have C2 := Lib.hid (fun W => isFraction_any p q W)
  have C3 := Lib.hid (fun W => move_any m0 m1 m2 p q W hm hx N D hv r1 r2 r3 hres)
  have HB0 := Lib.hid (B3.start w (.cells #[.int .i64 m0, .int .i64 m1, .int .i64 m2] 29) (.cells #[.int .i64 p, .int .i64 q] 26) (.cells #[.int .i64 0, .int .i64 0] 26))
  rw [decide_eq_true hm] at C1
  rw [decide_eq_true hx] at C2
  clear hm hx hv hres
  go_enter Try.func13, Try.ntmps13
  go_wp2_with fail
  refine (C1.out _).mono ?_
  rintro e w1 ⟨rfl, hb⟩
  have HB1 := Lib.hid (HB0.out.below hb)
  clear hb
  have c0 := blk_cell HB1.out.b2 0
  have c1 := blk_cell HB1.out.b2 1
  simp only [List.getElem?_toArray, List.getElem?_cons_zero, List.getElem?_cons_succ] at c0 c1
  go_wp2_with fail
  refine (C2.out _).mono ?_
  rintro e w2 ⟨rfl, hb⟩
  have HB2 := Lib.hid (HB1.out.below hb)
  clear hb c0 c1
  have c0 := blk_cell HB2.out.b2 0
  have c1 := blk_cell HB2.out.b2 1
  have d0 := blk_cell HB2.out.b1 0
  have d1 := blk_cell HB2.out.b1 1
  have d2 := blk_cell HB2.out.b1 2
  simp only [List.getElem?_toArray, List.getElem?_cons_zero, List.getElem?_cons_succ] at c0 c1 d0 d1 d2
  go_wp2_with fail
  refine (C3.out _).mono ?_
  rintro e w3 ⟨rfl, hb⟩
  have HB3 := Lib.hid (HB2.out.below hb)
  clear hb c0 c1 d0 d1 d2
  have c0 := blk_cell HB3.out.b3 0
  have c1 := blk_cell HB3.out.b3 1
  have f0 := blk_frozen HB3.out.b3 0
  have f1 := blk_frozen HB3.out.b3 1
  simp only [List.getElem?_toArray, List.getElem?_cons_zero, List.getElem?_cons_succ] at c0 c1
  go_wp2
  refine bodyPost_ret (v := .tuple #[.agg #[.int .i64 r1, .int .i64 r2], .int .i64 r3]) (by simp [results, Try.results13, go_sem, c0, c1]) rfl ⟨rfl, ?_⟩
  exact (HB3.out.bel.setCell (by simp; omega) _).setCell (by simp; omega) _
theorem moveFraction_any (m0 m1 m2 p q : Int) (w : World) (r1 r2 r3 : Int) (h : Answer m0 m1 m2 p q (r1, r2, r3)) :
    Calls Try.prog 13 #[.agg #[.int .i64 m0, .int .i64 m1, .int .i64 m2], .agg #[.int .i64 p, .int .i64 q]] w fun e w' => e = .returned (.tuple #[.agg #[.int .i64 r1, .int .i64 r2], .int .i64 r3]) ∧ Below w.heap.size w w' := by
  unfold Answer at h
  by_cases hc : Mv m0 m1 m2 ∧ Fr p q
  · rw [if_pos hc] at h
    obtain ⟨N, D, hv, hres⟩ := h
    exact moveFraction_good m0 m1 m2 p q w hc.1 hc.2 N D hv r1 r2 r3 hres
  · rw [if_neg hc] at h
    simp only [Prod.mk.injEq] at h
    obtain ⟨rfl, rfl, rfl⟩ := h
    exact moveFraction_bad m0 m1 m2 p q w hc
end Go.Proofs.Ytaplebckjbbobaa.Low
end
section
namespace Go.Proofs.Ytaplebckjbbobaa.Low
open Go.RowKit Go.Proofs.YtaplebckjbbobaaW.PrintWords Go.Proofs.YtaplebckjbbobaaW.PrintMore FracMath PFnExactMoveFraction
set_option linter.unusedSimpArgs false
abbrev M3 := Int × Int × Int
def Lst (w : World) (ao : Option Addr) (L : List M3) : Prop := ∀ i m, L[i]? = some m → ∃ a, ao = some a ∧ a.block < w.heap.size ∧ w.cell? (a.add (i * 3)) = some (.int .i64 m.1) ∧ w.cell? ⟨(a.add (i * 3)).block, (a.add (i * 3)).off + 1, none⟩ = some (.int .i64 m.2.1) ∧ w.cell? ⟨(a.add (i * 3)).block, (a.add (i * 3)).off + 2, none⟩ = some (.int .i64 m.2.2)
theorem add_block (a : Addr) (k : Nat) : (a.add k).block = a.block := by unfold Addr.add; split <;> rfl
theorem Lst.below {w w1 : World} {ao : Option Addr} {L : List M3} (h : Lst w ao L) (hb : Below w.heap.size w w1) : Lst w1 ao L := by
  intro i m hi
  obtain ⟨a, ha, hlt, c0, c1, c2⟩ := h i m hi
  have hs := hb.size
  refine ⟨a, ha, by omega, ?_, ?_, ?_⟩
  · rw [hb.cell (by rw [add_block]; exact hlt)]; exact c0
  · rw [hb.cell (by show (a.add _).block < _; rw [add_block]; exact hlt)]; exact c1
  · rw [hb.cell (by show (a.add _).block < _; rw [add_block]; exact hlt)]; exact c2
def mcode (L : List M3) : Int := if ∀ m ∈ L, Mv m.1 m.2.1 m.2.2 then (if L.length > 20 then 2 else 0) else 1
theorem mcode_bad {L : List M3} {k : Nat} {m : M3} (h : L[k]? = some m) (hb : ¬ Mv m.1 m.2.1 m.2.2) : mcode L = 1 := by
  unfold mcode
  rw [if_neg]
  intro hall
  exact hb (hall m (List.mem_of_getElem? h))
theorem mcode_done {L : List M3} (h : ∀ (k : Nat) (m : M3), L[k]? = some m → Mv m.1 m.2.1 m.2.2) : mcode L = if L.length > 20 then 2 else 0 := by
  unfold mcode
  rw [if_pos]
  intro m hm
  obtain ⟨k, hk⟩ := List.getElem?_of_mem hm
  exact h k m hk
set_option maxHeartbeats 1000000 in
theorem movesCode_any (w : World) (ao : Option Addr) (L : List M3) (n cap : Nat) (hn : n = L.length) (hcap : n ≤ 1048576) (h : Lst w ao L) :
    Calls Try.prog 70 #[.slice ao n cap] w fun e w' => e = .returned (.int .i64 (mcode L)) ∧ Below w.heap.size w w' := by
  have C1 := Lib.hid (fun m0 m1 m2 W => isMove_any m0 m1 m2 W)
  have HL := Lib.hid h
  have HN := Lib.hid hn
  clear h hn
  go_enter Try.func70, Try.ntmps70
  go_wp2
  go_loopw [7] (fun i wr => ∃ k : Nat, i = .int .i64 k ∧ k ≤ n ∧ (∀ (j : Nat) (m : M3), j < k → L[j]? = some m → Mv m.1 m.2.1 m.2.2) ∧ Below w.heap.size w wr) (fun i _ => n - (intOf i).toNat)
  case atStart => exact ⟨0, rfl, Nat.zero_le _, fun j m h => absurd h (Nat.not_lt_zero _), Below.refl _ _⟩
  case round =>
    obtain ⟨k, rfl, hk, hall, hbel⟩ := hrel
    by_cases hlt : k < n
    · obtain ⟨m, hm⟩ : ∃ m, L[k]? = some m := ⟨L[k]'(by rw [← HN.out]; exact hlt), by simp⟩
      obtain ⟨a, rfl, hab, c0, c1, c2⟩ := (HL.out.below hbel) k m hm
      have hk1 : (0 : Int) ≤ (k : Int) := by omega
      have hk2 : (k : Int) < (n : Int) := by omega
      have HA := Lib.hid hall
      have HB := Lib.hid hbel
      have HM := Lib.hid hm
      clear hall hbel hm
      go_wp2_with fail
      refine (C1.out _ _ _ _).mono ?_
      rintro e w1 ⟨rfl, hb⟩
      have HB2 := Lib.hid (below_step (below_alloc HB.out _) hb)
      by_cases hM : Mv m.1 m.2.1 m.2.2
      · rw [decide_eq_true hM]
        go_wp2
        go_roundw
        case rel =>
          refine ⟨k + 1, by go_num, by omega, fun j m' hj hm' => ?_, HB2.out⟩
          by_cases hjk : j < k
          · exact HA.out j m' hjk hm'
          · obtain rfl : j = k := by omega
            rw [HM.out] at hm'
            obtain rfl := Option.some.inj hm'
            exact hM
        case measure => simp [intOf]; omega
      · rw [decide_eq_false hM]
        go_wp2
        go_ret
        refine ⟨?_, HB2.out⟩
        rw [mcode_bad HM.out hM]; rfl
    · have hd : mcode L = if n > 20 then 2 else 0 := by
        rw [mcode_done (fun j m hm => hall j m (by have := (List.getElem?_eq_some_iff.1 hm).1; have := HN.out; omega) hm), HN.out]
      have HB := Lib.hid hbel
      clear hall hbel
      by_cases hg : n > 20
      · have hg' : (20 : Int) < (n : Int) := by omega
        rw [if_pos hg] at hd
        go_wp2
        go_ret
        refine ⟨?_, HB.out⟩
        first | rfl | (rw [hd]; rfl)
      · have hg' : ¬ (20 : Int) < (n : Int) := by omega
        rw [if_neg hg] at hd
        go_wp2
        go_ret
        refine ⟨?_, HB.out⟩
        first | rfl | (rw [hd]; rfl)
theorem spec_move_any (m0 m1 m2 : Int) (w : World) : Calls Try.prog 65 #[.agg #[.int .i64 m0, .int .i64 m1, .int .i64 m2]] w fun e w' => e = .returned (.bool (decide (Mv m0 m1 m2))) ∧ Below w.heap.size w w' := by
  obtain ⟨k, hk⟩ := (move_ok m0 m1 m2).rounds
  exact spec_l10Move.calls k m0 m1 m2 _ w hk
theorem spec_is_any (p q : Int) (w : World) : Calls Try.prog 66 #[.agg #[.int .i64 p, .int .i64 q]] w fun e w' => e = .returned (.bool (decide (Fr p q))) ∧ Below w.heap.size w w' := by
  obtain ⟨k, hk⟩ := (is_ev p q).rounds
  exact spec_l10Is.calls k p q _ w hk
set_option maxHeartbeats 1000000 in
theorem l10Moves_any (w : World) (ao : Option Addr) (L : List M3) (n cap : Nat) (hn : n = L.length) (hcap : n ≤ 1048576) (h : Lst w ao L) :
    Calls Try.prog 69 #[.slice ao n cap] w fun e w' => e = .returned (.int .i64 (mcode L)) ∧ Below w.heap.size w w' := by
  have C1 := Lib.hid (fun m0 m1 m2 W => spec_move_any m0 m1 m2 W)
  have HL := Lib.hid h
  have HN := Lib.hid hn
  clear h hn
  go_enter Try.func69, Try.ntmps69
  go_wp2
  go_loopw [3] (fun i wr => ∃ k : Nat, i = .int .i64 k ∧ k ≤ n ∧ (∀ (j : Nat) (m : M3), j < k → L[j]? = some m → Mv m.1 m.2.1 m.2.2) ∧ Below w.heap.size w wr) (fun i _ => n - (intOf i).toNat)
  case atStart => exact ⟨0, rfl, Nat.zero_le _, fun j m h => absurd h (Nat.not_lt_zero _), Below.refl _ _⟩
  case round =>
    obtain ⟨k, rfl, hk, hall, hbel⟩ := hrel
    by_cases hlt : k < n
    · obtain ⟨m, hm⟩ : ∃ m, L[k]? = some m := ⟨L[k]'(by rw [← HN.out]; exact hlt), by simp⟩
      obtain ⟨a, rfl, hab, c0, c1, c2⟩ := (HL.out.below hbel) k m hm
      have hk1 : (0 : Int) ≤ (k : Int) := by omega
      have hk2 : (k : Int) < (n : Int) := by omega
      have HA := Lib.hid hall
      have HB := Lib.hid hbel
      have HM := Lib.hid hm
      clear hall hbel hm
      go_wp2_with fail
      refine (C1.out _ _ _ _).mono ?_
      rintro e w1 ⟨rfl, hb⟩
      have HB2 := Lib.hid (below_step HB.out hb)
      by_cases hM : Mv m.1 m.2.1 m.2.2
      · rw [decide_eq_true hM]
        go_wp2
        go_roundw
        case rel =>
          refine ⟨k + 1, by go_num, by omega, fun j m' hj hm' => ?_, HB2.out⟩
          by_cases hjk : j < k
          · exact HA.out j m' hjk hm'
          · obtain rfl : j = k := by omega
            rw [HM.out] at hm'
            obtain rfl := Option.some.inj hm'
            exact hM
        case measure => simp [intOf]; omega
      · rw [decide_eq_false hM]
        go_wp2
        go_ret
        refine ⟨?_, HB2.out⟩
        rw [mcode_bad HM.out hM]; rfl
    · have hd : mcode L = if n > 20 then 2 else 0 := by
        rw [mcode_done (fun j m hm => hall j m (by have := (List.getElem?_eq_some_iff.1 hm).1; have := HN.out; omega) hm), HN.out]
      have HB := Lib.hid hbel
      clear hall hbel
      by_cases hg : n > 20
      · have hg' : (20 : Int) < (n : Int) := by omega
        rw [if_pos hg] at hd
        go_wp2
        go_ret
        refine ⟨?_, HB.out⟩
        first | rfl | (rw [hd]; rfl)
      · have hg' : ¬ (20 : Int) < (n : Int) := by omega
        rw [if_neg hg] at hd
        go_wp2
        go_ret
        refine ⟨?_, HB.out⟩
        first | rfl | (rw [hd]; rfl)
end Go.Proofs.Ytaplebckjbbobaa.Low
end
section
set_option linter.unusedSimpArgs false
namespace Go.Proofs.Ytaplebckjbbobaa.Fl
open Go.RowKit Bs Grd
open FracMath (Fr)
def SetOk (L : List F2) : Prop := (∀ m ∈ L, Fr m.1 m.2) ∧ (∀ (i : Nat) (x y : F2), L[i]? = some x → L[i + 1]? = some y → cmpF x y < 0) ∧ L.length ≤ 12
theorem fr_sm {m : F2} (h : Fr m.1 m.2) : Sm (m.1, m.2) := ⟨h.1, h.2.1, h.2.2.1, h.2.2.2.1⟩
theorem keep2g {x0 x1 : Addr} {v0 v1 : Value} {W W' : World} (hb : Below W.heap.size W W') (h : W.cell? x0 = some v0 ∧ W.cell? x1 = some v1) : W'.cell? x0 = some v0 ∧ W'.cell? x1 = some v1 := ⟨cell_below hb h.1, cell_below hb h.2⟩
set_option maxHeartbeats 4000000 in
set_option maxRecDepth 100000 in
theorem isSet_any (w : World) (ao : Option Addr) (L : List F2) (n cap : Nat) (hn : n = L.length) (hcap : n ≤ 1048576) (h : FLst w ao L) (r : Bool) (hr : r = true ↔ SetOk L) :
    Calls Try.prog 54 #[.slice ao n cap] w fun e w' => e = .returned (.bool r) ∧ Below w.heap.size w w' := by
  have hu26 := Try.underlying26
  have HL := Lib.hid h
  have HN := Lib.hid hn
  have HR := Lib.hid hr
  clear h hn hr
  go_enter Try.func54, Try.ntmps54
  go_wp2
  go_loopw [7] (fun i wr => ∃ k : Nat, i = .int .i64 k ∧ k ≤ n ∧ (∀ (j : Nat) (x : F2), j < k → L[j]? = some x → Fr x.1 x.2) ∧ (∀ (j : Nat) (x y : F2), j + 1 < k → L[j]? = some x → L[j + 1]? = some y → cmpF x y < 0) ∧ Below w.heap.size w wr) (fun i _ => n - (intOf i).toNat)
  case atStart => exact ⟨0, rfl, Nat.zero_le _, fun j x hj => absurd hj (Nat.not_lt_zero _), fun j x y hj => absurd hj (Nat.not_lt_zero _), Below.refl _ _⟩
  case round =>
    obtain ⟨k, rfl, hk, hfr, hord, hbel⟩ := hrel
    have HF := Lib.hid hfr
    have HO := Lib.hid hord
    have HB := Lib.hid hbel
    clear hfr hord
    by_cases hlt : k < n
    · obtain ⟨m, hm⟩ : ∃ m, L[k]? = some m := ⟨L[k]'(by rw [← HN.out]; exact hlt), by simp⟩
      obtain ⟨a, rfl, hab, c0, c1⟩ := (HL.out.below hbel) k m hm
      have hk1 : (0 : Int) ≤ (k : Int) := by omega
      have hk2 : (k : Int) < (n : Int) := by omega
      have HM := Lib.hid hm
      clear hm hbel
      by_cases hx : Fr m.1 m.2
      · have C41 := Lib.hid (fun W => Low.isFraction_any m.1 m.2 W)
        rw [decide_eq_true hx] at C41
        have HX := Lib.hid hx
        cases k with
        | zero =>
          have c0z : wr.cell? a = some (.int .i64 m.1) := c0
          have c1z : wr.cell? ⟨a.block, a.off + 1, none⟩ = some (.int .i64 m.2) := c1
          clear hx
          go_wp2_with fail
          have s0 : (wr.alloc (.cells #[.int .i64 m.1, .int .i64 m.2] 26)).drew.cell? ⟨wr.heap.size, 0, none⟩ = some (.int .i64 m.1) := (blk_cell (heap_alloc_new wr (.cells #[.int .i64 m.1, .int .i64 m.2] 26)) 0).trans rfl
          have s1 : (wr.alloc (.cells #[.int .i64 m.1, .int .i64 m.2] 26)).drew.cell? ⟨wr.heap.size, 1, none⟩ = some (.int .i64 m.2) := (blk_cell (heap_alloc_new wr (.cells #[.int .i64 m.1, .int .i64 m.2] 26)) 1).trans rfl
          refine wp_region_held_drew (S := fun W' => W'.cell? ⟨wr.heap.size, 0, none⟩ = some (.int .i64 m.1) ∧ W'.cell? ⟨wr.heap.size, 1, none⟩ = some (.int .i64 m.2)) (by kernel_rfl) ⟨s0, s1⟩ (fun hHeld => ?_)
          refine wpAnyH_take (i := 0) (oi := _) (v := ?_) rfl (by kernel_rfl) (by kernel_rfl) (by kernel_rfl) (fun _ _ _ h => h) (Or.inl ⟨by rfl, ?_⟩) hHeld ?_
          rotate_left
          · rintro w' ⟨t0, t1⟩
            go_simp
            with_reducible rfl
          simp only [Act.put, List.setIfInBounds_toArray, List.set_cons_zero, List.set_cons_succ]
          refine wpAnyH_ready (rs := [1]) (by kernel_rfl) (by simp) ?_
          refine AllReadyH.cons (o := { dst := some 13, op := .call { callee := .value (.func 41), args := #[.tmp 12], argTypes := #[26] }, type := 4, pos := "l10_belyi.go:148", after := #[{ on := 0, ground := .data }], guard := none }) rfl (fun K hK => ?_) AllReadyH.nil
          go_simp
          go_at_call 41
          refine (C41.out _).mono ?_
          rintro e w5 ⟨rfl, hb5⟩
          refine hK.out _ _ (keep2g hb5 hHeld) (fun hHeld5 => ?_)
          clear hK hHeld
          try simp only [Act.put, List.getElem_toArray, List.getElem_cons_succ, List.getElem_cons_zero, List.setIfInBounds_toArray, List.set_cons_zero, List.set_cons_succ]
          refine wpAnyH_take (i := 2) (oi := _) (v := ?_) rfl (by kernel_rfl) (by kernel_rfl) (by kernel_rfl) (fun _ _ _ h => h) (Or.inl ⟨by rfl, ?_⟩) hHeld5 ?_
          rotate_left
          · rintro w' ⟨t0, t1⟩
            go_simp
            try with_reducible rfl
          try simp only [Act.put, List.getElem_toArray, List.getElem_cons_succ, List.getElem_cons_zero, List.setIfInBounds_toArray, List.set_cons_zero, List.set_cons_succ]
          refine wpAnyH_take (i := 3) (oi := _) (v := ?_) rfl (by kernel_rfl) (by kernel_rfl) (by kernel_rfl) (fun _ _ _ h => h) (Or.inl ⟨by rfl, ?_⟩) hHeld5 ?_
          rotate_left
          · rintro w' ⟨t0, t1⟩
            go_simp
            try with_reducible rfl
          try simp only [Act.put, List.getElem_toArray, List.getElem_cons_succ, List.getElem_cons_zero, List.setIfInBounds_toArray, List.set_cons_zero, List.set_cons_succ]
          refine wpAnyH_take (i := 4) (oi := _) (v := ?_) rfl (by kernel_rfl) (by kernel_rfl) (by kernel_rfl) (fun _ _ _ h => h) (Or.inl ⟨by rfl, ?_⟩) hHeld5 ?_
          rotate_left
          · rintro w' ⟨t0, t1⟩
            go_simp
            try with_reducible rfl
          try simp only [Act.put, List.getElem_toArray, List.getElem_cons_succ, List.getElem_cons_zero, List.setIfInBounds_toArray, List.set_cons_zero, List.set_cons_succ]
          refine wpAnyH_take (i := 5) (oi := _) (v := ?_) rfl (by kernel_rfl) (by kernel_rfl) (by kernel_rfl) (fun _ _ _ h => h) (Or.inl ⟨by rfl, ?_⟩) hHeld5 ?_
          rotate_left
          · rintro w' ⟨t0, t1⟩
            go_simp
            try with_reducible rfl
          try simp only [Act.put, List.getElem_toArray, List.getElem_cons_succ, List.getElem_cons_zero, List.setIfInBounds_toArray, List.set_cons_zero, List.set_cons_succ]
          refine wpAnyH_take (i := 6) (oi := _) (v := ?_) rfl (by kernel_rfl) (by kernel_rfl) (by kernel_rfl) (fun _ _ _ h => h) (Or.inl ⟨by rfl, ?_⟩) hHeld5 ?_
          rotate_left
          · rintro w' ⟨t0, t1⟩
            go_simp
            try with_reducible rfl
          try simp only [Act.put, List.getElem_toArray, List.getElem_cons_succ, List.getElem_cons_zero, List.setIfInBounds_toArray, List.set_cons_zero, List.set_cons_succ]
          refine wpAnyH_take (i := 7) (oi := _) (v := undef) rfl (by kernel_rfl) (by kernel_rfl) (by kernel_rfl) (fun _ _ _ h => h) (Or.inr ⟨by rfl, rfl⟩) hHeld5 ?_
          try simp only [Act.put, List.getElem_toArray, List.getElem_cons_succ, List.getElem_cons_zero, List.setIfInBounds_toArray, List.set_cons_zero, List.set_cons_succ]
          refine wpAnyH_take (i := 8) (oi := _) (v := undef) rfl (by kernel_rfl) (by kernel_rfl) (by kernel_rfl) (fun _ _ _ h => h) (Or.inr ⟨by rfl, rfl⟩) hHeld5 ?_
          try simp only [Act.put, List.getElem_toArray, List.getElem_cons_succ, List.getElem_cons_zero, List.setIfInBounds_toArray, List.set_cons_zero, List.set_cons_succ]
          refine wpAnyH_take (i := 9) (oi := _) (v := undef) rfl (by kernel_rfl) (by kernel_rfl) (by kernel_rfl) (fun _ _ _ h => h) (Or.inr ⟨by rfl, rfl⟩) hHeld5 ?_
          try simp only [Act.put, List.getElem_toArray, List.getElem_cons_succ, List.getElem_cons_zero, List.setIfInBounds_toArray, List.set_cons_zero, List.set_cons_succ]
          refine wpAnyH_take (i := 10) (oi := _) (v := undef) rfl (by kernel_rfl) (by kernel_rfl) (by kernel_rfl) (fun _ _ _ h => h) (Or.inr ⟨by rfl, rfl⟩) hHeld5 ?_
          try simp only [Act.put, List.getElem_toArray, List.getElem_cons_succ, List.getElem_cons_zero, List.setIfInBounds_toArray, List.set_cons_zero, List.set_cons_succ]
          refine wpAnyH_take (i := 11) (oi := _) (v := undef) rfl (by kernel_rfl) (by kernel_rfl) (by kernel_rfl) (fun _ _ _ h => h) (Or.inr ⟨by rfl, rfl⟩) hHeld5 ?_
          try simp only [Act.put, List.getElem_toArray, List.getElem_cons_succ, List.getElem_cons_zero, List.setIfInBounds_toArray, List.set_cons_zero, List.set_cons_succ]
          refine wpAnyH_take (i := 12) (oi := _) (v := undef) rfl (by kernel_rfl) (by kernel_rfl) (by kernel_rfl) (fun _ _ _ h => h) (Or.inr ⟨by rfl, rfl⟩) hHeld5 ?_
          try simp only [Act.put, List.getElem_toArray, List.getElem_cons_succ, List.getElem_cons_zero, List.setIfInBounds_toArray, List.set_cons_zero, List.set_cons_succ]
          refine wpAnyH_take (i := 13) (oi := _) (v := undef) rfl (by kernel_rfl) (by kernel_rfl) (by kernel_rfl) (fun _ _ _ h => h) (Or.inr ⟨by rfl, rfl⟩) hHeld5 ?_
          try simp only [Act.put, List.getElem_toArray, List.getElem_cons_succ, List.getElem_cons_zero, List.setIfInBounds_toArray, List.set_cons_zero, List.set_cons_succ]
          refine wpAnyH_take (i := 14) (oi := _) (v := undef) rfl (by kernel_rfl) (by kernel_rfl) (by kernel_rfl) (fun _ _ _ h => h) (Or.inr ⟨by rfl, rfl⟩) hHeld5 ?_
          try simp only [Act.put, List.getElem_toArray, List.getElem_cons_succ, List.getElem_cons_zero, List.setIfInBounds_toArray, List.set_cons_zero, List.set_cons_succ]
          refine wpAnyH_take (i := 15) (oi := _) (v := ?_) rfl (by kernel_rfl) (by kernel_rfl) (by kernel_rfl) (fun _ _ _ h => h) (Or.inl ⟨by rfl, ?_⟩) hHeld5 ?_
          rotate_left
          · rintro w' ⟨t0, t1⟩
            go_simp
            try with_reducible rfl
          try simp only [Act.put, List.getElem_toArray, List.getElem_cons_succ, List.getElem_cons_zero, List.setIfInBounds_toArray, List.set_cons_zero, List.set_cons_succ]
          refine wpAnyH_take (i := 16) (oi := _) (v := ?_) rfl (by kernel_rfl) (by kernel_rfl) (by kernel_rfl) (fun _ _ _ h => h) (Or.inl ⟨by rfl, ?_⟩) hHeld5 ?_
          rotate_left
          · rintro w' ⟨t0, t1⟩
            go_simp
            try with_reducible rfl
          try simp only [Act.put, List.getElem_toArray, List.getElem_cons_succ, List.getElem_cons_zero, List.setIfInBounds_toArray, List.set_cons_zero, List.set_cons_succ]
          refine wpAnyH_done (by kernel_rfl) ?_ _
          have HB5 := Lib.hid (below_step (below_alloc HB.out _).drew hb5)
          go_wp2
          go_roundw
          case rel => exact ⟨1, by go_num, by omega, fun j x hj hx => by
            obtain rfl : j = 0 := by omega
            rw [HM.out] at hx
            obtain rfl := Option.some.inj hx
            exact HX.out, fun j x y hj => absurd hj (by omega), HB5.out⟩
          case measure => simp [intOf]; omega
        | succ j =>
          obtain ⟨m', hm'⟩ : ∃ m', L[j]? = some m' := ⟨L[j]'(by have := HN.out; omega), by simp⟩
          obtain ⟨a', ha', hab', e0, e1⟩ := (HL.out.below HB.out) j m' hm'
          obtain rfl : a = a' := by simpa using ha'
          have hx' : Fr m'.1 m'.2 := HF.out j m' (by omega) hm'
          have C91 := Lib.hid (fun W => compare_any m'.1 m'.2 m.1 m.2 W (fr_sm hx') (fr_sm hx))
          have hw' : wrap64 ((j : Int) + 1 - 1) = j := by rw [Int.add_sub_cancel]; exact Go.IntWalk.wrap64_in _ (by omega)
          have hw : IntKind.i64.wrap ((j : Int) + 1 - 1) = j := by rw [IntKind.wrap_i64]; omega
          have hw2 : IntKind.i64.wrap (j : Int) = j := by rw [IntKind.wrap_i64]; omega
          have hj1 : (0 : Int) ≤ (j : Int) := by omega
          have hj2 : (j : Int) < (n : Int) := by omega
          have hg : decide ((0 : Int) < (j : Int) + 1) = true := decide_eq_true (by omega)
          have e0' := cell_below (below_alloc (Below.refl _ _) (.cells #[.int .i64 m.1, .int .i64 m.2] 26)) e0
          have e1' := cell_below (below_alloc (Below.refl _ _) (.cells #[.int .i64 m.1, .int .i64 m.2] 26)) e1
          have HM' := Lib.hid hm'
          clear hx hx' hm' ha'
          go_wp2_with fail
          go_region_held3 (fun W' => W'.cell? ⟨wr.heap.size, 0, none⟩ = some (.int .i64 m.1) ∧ W'.cell? ⟨wr.heap.size, 1, none⟩ = some (.int .i64 m.2) ∧ W'.cell? (a.add (j * 2)) = some (.int .i64 m'.1) ∧ W'.cell? ⟨(a.add (j * 2)).block, (a.add (j * 2)).off + 1, none⟩ = some (.int .i64 m'.2))
            (first | (go_keep; done) | (apply keep4; (case hb => assumption); (case h => assumption)))
            ((first | (go_at_call 41; refine (C41.out _).mono ?_; rintro e w5 ⟨rfl, hb5⟩) | (go_at_call 91; refine (C91.out _).mono ?_; rintro e w6 ⟨rfl, hb6⟩)))
          have HB6 := Lib.hid (below_step (below_step (below_alloc HB.out _).drew hb5) hb6)
          have hM' : L[j]? = some m' := HM'.out
          by_cases hc : cmpF (m'.1, m'.2) (m.1, m.2) < 0
          · have hc1 : decide (0 ≤ cmpF (m'.1, m'.2) (m.1, m.2)) = false := decide_eq_false (by omega)
            rw [hc1]
            clear hM'
            go_wp2
            go_roundw
            case rel =>
              refine ⟨j + 1 + 1, by go_num, by omega, fun i x hi hx => ?_, fun i x y hi hx hy => ?_, HB6.out⟩
              · by_cases hij : i < j + 1
                · exact HF.out i x hij hx
                · obtain rfl : i = j + 1 := by omega
                  rw [HM.out] at hx
                  obtain rfl := Option.some.inj hx
                  exact HX.out
              · by_cases hij : i + 1 < j + 1
                · exact HO.out i x y hij hx hy
                · obtain rfl : i = j := by omega
                  rw [HM.out] at hy
                  rw [HM'.out] at hx
                  obtain rfl := Option.some.inj hx
                  obtain rfl := Option.some.inj hy
                  exact hc
            case measure => simp [intOf]; omega
          · have hc1 : decide (0 ≤ cmpF (m'.1, m'.2) (m.1, m.2)) = true := decide_eq_true (by omega)
            rw [hc1]
            have hrf : r = false := by
              cases r with
              | false => rfl
              | true => exact absurd ((HR.out.1 rfl).2.1 j m' m hM' HM.out) hc
            subst hrf
            clear hM'
            go_wp2
            go_ret
            exact ⟨rfl, HB6.out⟩
      · have C41 := Lib.hid (fun W => Low.isFraction_any m.1 m.2 W)
        rw [decide_eq_false hx] at C41
        have hrf : r = false := by
          cases r with
          | false => rfl
          | true => exact absurd ((HR.out.1 rfl).1 m (List.mem_of_getElem? HM.out)) hx
        subst hrf
        clear hx
        go_wp2_with fail
        have s0 : (wr.alloc (.cells #[.int .i64 m.1, .int .i64 m.2] 26)).drew.cell? ⟨wr.heap.size, 0, none⟩ = some (.int .i64 m.1) := (blk_cell (heap_alloc_new wr (.cells #[.int .i64 m.1, .int .i64 m.2] 26)) 0).trans rfl
        have s1 : (wr.alloc (.cells #[.int .i64 m.1, .int .i64 m.2] 26)).drew.cell? ⟨wr.heap.size, 1, none⟩ = some (.int .i64 m.2) := (blk_cell (heap_alloc_new wr (.cells #[.int .i64 m.1, .int .i64 m.2] 26)) 1).trans rfl
        refine wp_region_held_drew (S := fun W' => W'.cell? ⟨wr.heap.size, 0, none⟩ = some (.int .i64 m.1) ∧ W'.cell? ⟨wr.heap.size, 1, none⟩ = some (.int .i64 m.2)) (by kernel_rfl) ⟨s0, s1⟩ (fun hHeld => ?_)
        refine wpAnyH_take (i := 0) (oi := _) (v := ?_) rfl (by kernel_rfl) (by kernel_rfl) (by kernel_rfl) (fun _ _ _ h => h) (Or.inl ⟨by rfl, ?_⟩) hHeld ?_
        rotate_left
        · rintro w' ⟨t0, t1⟩
          go_simp
          with_reducible rfl
        simp only [Act.put, List.setIfInBounds_toArray, List.set_cons_zero, List.set_cons_succ]
        refine wpAnyH_ready (rs := [1]) (by kernel_rfl) (by simp) ?_
        refine AllReadyH.cons (o := { dst := some 13, op := .call { callee := .value (.func 41), args := #[.tmp 12], argTypes := #[26] }, type := 4, pos := "l10_belyi.go:148", after := #[{ on := 0, ground := .data }], guard := none }) rfl (fun K hK => ?_) AllReadyH.nil
        go_simp
        go_at_call 41
        refine (C41.out _).mono ?_
        rintro e w5 ⟨rfl, hb5⟩
        refine hK.out _ _ (keep2g hb5 hHeld) (fun hHeld5 => ?_)
        clear hK hHeld
        try simp only [Act.put, List.getElem_toArray, List.getElem_cons_succ, List.getElem_cons_zero, List.setIfInBounds_toArray, List.set_cons_zero, List.set_cons_succ]
        refine wpAnyH_take (i := 2) (oi := _) (v := ?_) rfl (by kernel_rfl) (by kernel_rfl) (by kernel_rfl) (fun _ _ _ h => h) (Or.inl ⟨by rfl, ?_⟩) hHeld5 ?_
        rotate_left
        · rintro w' ⟨t0, t1⟩
          go_simp
          try with_reducible rfl
        try simp only [Act.put, List.getElem_toArray, List.getElem_cons_succ, List.getElem_cons_zero, List.setIfInBounds_toArray, List.set_cons_zero, List.set_cons_succ]
        refine wpAnyH_take (i := 3) (oi := _) (v := ?_) rfl (by kernel_rfl) (by kernel_rfl) (by kernel_rfl) (fun _ _ _ h => h) (Or.inl ⟨by rfl, ?_⟩) hHeld5 ?_
        rotate_left
        · rintro w' ⟨t0, t1⟩
          go_simp
          try with_reducible rfl
        try simp only [Act.put, List.getElem_toArray, List.getElem_cons_succ, List.getElem_cons_zero, List.setIfInBounds_toArray, List.set_cons_zero, List.set_cons_succ]
        refine wpAnyH_take (i := 4) (oi := _) (v := undef) rfl (by kernel_rfl) (by kernel_rfl) (by kernel_rfl) (fun _ _ _ h => h) (Or.inr ⟨by rfl, rfl⟩) hHeld5 ?_
        try simp only [Act.put, List.getElem_toArray, List.getElem_cons_succ, List.getElem_cons_zero, List.setIfInBounds_toArray, List.set_cons_zero, List.set_cons_succ]
        refine wpAnyH_take (i := 5) (oi := _) (v := undef) rfl (by kernel_rfl) (by kernel_rfl) (by kernel_rfl) (fun _ _ _ h => h) (Or.inr ⟨by rfl, rfl⟩) hHeld5 ?_
        try simp only [Act.put, List.getElem_toArray, List.getElem_cons_succ, List.getElem_cons_zero, List.setIfInBounds_toArray, List.set_cons_zero, List.set_cons_succ]
        refine wpAnyH_take (i := 6) (oi := _) (v := undef) rfl (by kernel_rfl) (by kernel_rfl) (by kernel_rfl) (fun _ _ _ h => h) (Or.inr ⟨by rfl, rfl⟩) hHeld5 ?_
        try simp only [Act.put, List.getElem_toArray, List.getElem_cons_succ, List.getElem_cons_zero, List.setIfInBounds_toArray, List.set_cons_zero, List.set_cons_succ]
        refine wpAnyH_take (i := 7) (oi := _) (v := undef) rfl (by kernel_rfl) (by kernel_rfl) (by kernel_rfl) (fun _ _ _ h => h) (Or.inr ⟨by rfl, rfl⟩) hHeld5 ?_
        try simp only [Act.put, List.getElem_toArray, List.getElem_cons_succ, List.getElem_cons_zero, List.setIfInBounds_toArray, List.set_cons_zero, List.set_cons_succ]
        refine wpAnyH_take (i := 8) (oi := _) (v := undef) rfl (by kernel_rfl) (by kernel_rfl) (by kernel_rfl) (fun _ _ _ h => h) (Or.inr ⟨by rfl, rfl⟩) hHeld5 ?_
        try simp only [Act.put, List.getElem_toArray, List.getElem_cons_succ, List.getElem_cons_zero, List.setIfInBounds_toArray, List.set_cons_zero, List.set_cons_succ]
        refine wpAnyH_take (i := 9) (oi := _) (v := undef) rfl (by kernel_rfl) (by kernel_rfl) (by kernel_rfl) (fun _ _ _ h => h) (Or.inr ⟨by rfl, rfl⟩) hHeld5 ?_
        try simp only [Act.put, List.getElem_toArray, List.getElem_cons_succ, List.getElem_cons_zero, List.setIfInBounds_toArray, List.set_cons_zero, List.set_cons_succ]
        refine wpAnyH_take (i := 10) (oi := _) (v := undef) rfl (by kernel_rfl) (by kernel_rfl) (by kernel_rfl) (fun _ _ _ h => h) (Or.inr ⟨by rfl, rfl⟩) hHeld5 ?_
        try simp only [Act.put, List.getElem_toArray, List.getElem_cons_succ, List.getElem_cons_zero, List.setIfInBounds_toArray, List.set_cons_zero, List.set_cons_succ]
        refine wpAnyH_take (i := 11) (oi := _) (v := undef) rfl (by kernel_rfl) (by kernel_rfl) (by kernel_rfl) (fun _ _ _ h => h) (Or.inr ⟨by rfl, rfl⟩) hHeld5 ?_
        try simp only [Act.put, List.getElem_toArray, List.getElem_cons_succ, List.getElem_cons_zero, List.setIfInBounds_toArray, List.set_cons_zero, List.set_cons_succ]
        refine wpAnyH_take (i := 12) (oi := _) (v := undef) rfl (by kernel_rfl) (by kernel_rfl) (by kernel_rfl) (fun _ _ _ h => h) (Or.inr ⟨by rfl, rfl⟩) hHeld5 ?_
        try simp only [Act.put, List.getElem_toArray, List.getElem_cons_succ, List.getElem_cons_zero, List.setIfInBounds_toArray, List.set_cons_zero, List.set_cons_succ]
        refine wpAnyH_take (i := 13) (oi := _) (v := undef) rfl (by kernel_rfl) (by kernel_rfl) (by kernel_rfl) (fun _ _ _ h => h) (Or.inr ⟨by rfl, rfl⟩) hHeld5 ?_
        try simp only [Act.put, List.getElem_toArray, List.getElem_cons_succ, List.getElem_cons_zero, List.setIfInBounds_toArray, List.set_cons_zero, List.set_cons_succ]
        refine wpAnyH_take (i := 14) (oi := _) (v := undef) rfl (by kernel_rfl) (by kernel_rfl) (by kernel_rfl) (fun _ _ _ h => h) (Or.inr ⟨by rfl, rfl⟩) hHeld5 ?_
        try simp only [Act.put, List.getElem_toArray, List.getElem_cons_succ, List.getElem_cons_zero, List.setIfInBounds_toArray, List.set_cons_zero, List.set_cons_succ]
        refine wpAnyH_take (i := 15) (oi := _) (v := undef) rfl (by kernel_rfl) (by kernel_rfl) (by kernel_rfl) (fun _ _ _ h => h) (Or.inr ⟨by rfl, rfl⟩) hHeld5 ?_
        try simp only [Act.put, List.getElem_toArray, List.getElem_cons_succ, List.getElem_cons_zero, List.setIfInBounds_toArray, List.set_cons_zero, List.set_cons_succ]
        refine wpAnyH_take (i := 16) (oi := _) (v := ?_) rfl (by kernel_rfl) (by kernel_rfl) (by kernel_rfl) (fun _ _ _ h => h) (Or.inl ⟨by rfl, ?_⟩) hHeld5 ?_
        rotate_left
        · rintro w' ⟨t0, t1⟩
          go_simp
          try with_reducible rfl
        try simp only [Act.put, List.getElem_toArray, List.getElem_cons_succ, List.getElem_cons_zero, List.setIfInBounds_toArray, List.set_cons_zero, List.set_cons_succ]
        refine wpAnyH_done (by kernel_rfl) ?_ _
        go_wp2
        go_ret
        exact ⟨rfl, below_step (below_alloc HB.out _).drew hb5⟩
    · obtain rfl : k = n := by omega
      have hrr : r = decide (k ≤ 12) := by
        rw [Bool.eq_iff_iff, HR.out, decide_eq_true_iff]
        constructor
        · intro h; rw [HN.out]; exact h.2.2
        · intro h
          refine ⟨fun m hm => ?_, fun i x y hx hy => ?_, by rw [← HN.out]; exact h⟩
          · obtain ⟨i, hi⟩ := List.getElem?_of_mem hm
            exact HF.out i m (by rw [HN.out]; exact (List.getElem?_eq_some_iff.1 hi).1) hi
          · exact HO.out i x y (by rw [HN.out]; exact (List.getElem?_eq_some_iff.1 hy).1) hx hy
      subst hrr
      have hle : decide ((k : Int) ≤ 12) = decide (k ≤ 12) := decide_eq_decide.2 (by omega)
      go_wp2
      go_ret
      exact ⟨by first | rfl | (rw [← hle]; rfl) | simp, hbel⟩
end Go.Proofs.Ytaplebckjbbobaa.Fl
end
section
set_option linter.unusedSimpArgs false
namespace Go.Proofs.Ytaplebckjbbobaa.Fl
open Go.RowKit Bs Grd
open FracMath (Fr)
set_option maxHeartbeats 4000000 in
set_option maxRecDepth 100000 in
theorem l10Set_any (w : World) (ao : Option Addr) (L : List F2) (n cap : Nat) (hn : n = L.length) (hcap : n ≤ 1048576) (h : FLst w ao L) (r : Bool) (hr : r = true ↔ SetOk L) :
    Calls Try.prog 79 #[.slice ao n cap] w fun e w' => e = .returned (.bool r) ∧ Below w.heap.size w w' := by
  have hu26 := Try.underlying26
  have HL := Lib.hid h
  have HN := Lib.hid hn
  have HR := Lib.hid hr
  clear h hn hr
  go_enter Try.func79, Try.ntmps79
  go_wp2
  go_loopw [3] (fun i wr => ∃ k : Nat, i = .int .i64 k ∧ k ≤ n ∧ (∀ (j : Nat) (x : F2), j < k → L[j]? = some x → Fr x.1 x.2) ∧ (∀ (j : Nat) (x y : F2), j + 1 < k → L[j]? = some x → L[j + 1]? = some y → cmpF x y < 0) ∧ Below w.heap.size w wr) (fun i _ => n - (intOf i).toNat)
  case atStart => exact ⟨0, rfl, Nat.zero_le _, fun j x hj => absurd hj (Nat.not_lt_zero _), fun j x y hj => absurd hj (Nat.not_lt_zero _), Below.refl _ _⟩
  case round =>
    obtain ⟨k, rfl, hk, hfr, hord, hbel⟩ := hrel
    have HF := Lib.hid hfr
    have HO := Lib.hid hord
    have HB := Lib.hid hbel
    clear hfr hord
    by_cases hlt : k < n
    · obtain ⟨m, hm⟩ : ∃ m, L[k]? = some m := ⟨L[k]'(by rw [← HN.out]; exact hlt), by simp⟩
      obtain ⟨a, rfl, hab, c0, c1⟩ := (HL.out.below hbel) k m hm
      have hk1 : (0 : Int) ≤ (k : Int) := by omega
      have hk2 : (k : Int) < (n : Int) := by omega
      have HM := Lib.hid hm
      clear hm hbel
      by_cases hx : Fr m.1 m.2
      · have C41 := Lib.hid (fun W => Low.spec_is_any m.1 m.2 W)
        rw [decide_eq_true hx] at C41
        have HX := Lib.hid hx
        cases k with
        | zero =>
          have c0z : wr.cell? a = some (.int .i64 m.1) := c0
          have c1z : wr.cell? ⟨a.block, a.off + 1, none⟩ = some (.int .i64 m.2) := c1
          clear hx
          go_wp2_with fail
          have s0 : wr.drew.cell? a = some (.int .i64 m.1) := c0z
          have s1 : wr.drew.cell? ⟨a.block, a.off + 1, none⟩ = some (.int .i64 m.2) := c1z
          refine wp_region_held_drew (S := fun W' => W'.cell? a = some (.int .i64 m.1) ∧ W'.cell? ⟨a.block, a.off + 1, none⟩ = some (.int .i64 m.2)) (by kernel_rfl) ⟨s0, s1⟩ (fun hHeld => ?_)
          refine wpAnyH_take (i := 0) (oi := _) (v := ?_) rfl (by kernel_rfl) (by kernel_rfl) (by kernel_rfl) (fun _ _ _ h => h) (Or.inl ⟨by rfl, ?_⟩) hHeld ?_
          rotate_left
          · rintro w' ⟨t0, t1⟩
            go_simp
            try with_reducible rfl
          try simp only [Act.put, List.getElem_toArray, List.getElem_cons_succ, List.getElem_cons_zero, List.setIfInBounds_toArray, List.set_cons_zero, List.set_cons_succ]
          refine wpAnyH_take (i := 1) (oi := _) (v := ?_) rfl (by kernel_rfl) (by kernel_rfl) (by kernel_rfl) (fun _ _ _ h => h) (Or.inl ⟨by rfl, ?_⟩) hHeld ?_
          rotate_left
          · rintro w' ⟨t0, t1⟩
            go_simp
            try with_reducible rfl
          try simp only [Act.put, List.getElem_toArray, List.getElem_cons_succ, List.getElem_cons_zero, List.setIfInBounds_toArray, List.set_cons_zero, List.set_cons_succ]
          refine wpAnyH_take (i := 2) (oi := _) (v := ?_) rfl (by kernel_rfl) (by kernel_rfl) (by kernel_rfl) (fun _ _ _ h => h) (Or.inl ⟨by rfl, ?_⟩) hHeld ?_
          rotate_left
          · rintro w' ⟨t0, t1⟩
            go_simp
            try with_reducible rfl
          try simp only [Act.put, List.getElem_toArray, List.getElem_cons_succ, List.getElem_cons_zero, List.setIfInBounds_toArray, List.set_cons_zero, List.set_cons_succ]
          refine wpAnyH_take (i := 3) (oi := _) (v := ?_) rfl (by kernel_rfl) (by kernel_rfl) (by kernel_rfl) (fun _ _ _ h => h) (Or.inl ⟨by rfl, ?_⟩) hHeld ?_
          rotate_left
          · rintro w' ⟨t0, t1⟩
            go_simp
            try with_reducible rfl
          try simp only [Act.put, List.getElem_toArray, List.getElem_cons_succ, List.getElem_cons_zero, List.setIfInBounds_toArray, List.set_cons_zero, List.set_cons_succ]
          refine wpAnyH_ready (rs := [4]) (by kernel_rfl) (by simp) ?_
          refine AllReadyH.cons (o := { dst := some 14, op := .call { callee := .value (.func 66), args := #[.tmp 13], argTypes := #[26] }, type := 4, pos := "l10_belyi.go:199", after := #[{ on := 3, ground := .data }], guard := none }) rfl (fun K hK => ?_) AllReadyH.nil
          go_simp
          go_at_call 66
          refine (C41.out _).mono ?_
          rintro e w5 ⟨rfl, hb5⟩
          refine hK.out _ _ (keep2g hb5 hHeld) (fun hHeld5 => ?_)
          clear hK hHeld
          try simp only [Act.put, List.getElem_toArray, List.getElem_cons_succ, List.getElem_cons_zero, List.setIfInBounds_toArray, List.set_cons_zero, List.set_cons_succ]
          refine wpAnyH_take (i := 5) (oi := _) (v := ?_) rfl (by kernel_rfl) (by kernel_rfl) (by kernel_rfl) (fun _ _ _ h => h) (Or.inl ⟨by rfl, ?_⟩) hHeld5 ?_
          rotate_left
          · rintro w' ⟨t0, t1⟩
            go_simp
            try with_reducible rfl
          try simp only [Act.put, List.getElem_toArray, List.getElem_cons_succ, List.getElem_cons_zero, List.setIfInBounds_toArray, List.set_cons_zero, List.set_cons_succ]
          refine wpAnyH_take (i := 6) (oi := _) (v := ?_) rfl (by kernel_rfl) (by kernel_rfl) (by kernel_rfl) (fun _ _ _ h => h) (Or.inl ⟨by rfl, ?_⟩) hHeld5 ?_
          rotate_left
          · rintro w' ⟨t0, t1⟩
            go_simp
            try with_reducible rfl
          try simp only [Act.put, List.getElem_toArray, List.getElem_cons_succ, List.getElem_cons_zero, List.setIfInBounds_toArray, List.set_cons_zero, List.set_cons_succ]
          refine wpAnyH_take (i := 7) (oi := _) (v := ?_) rfl (by kernel_rfl) (by kernel_rfl) (by kernel_rfl) (fun _ _ _ h => h) (Or.inl ⟨by rfl, ?_⟩) hHeld5 ?_
          rotate_left
          · rintro w' ⟨t0, t1⟩
            go_simp
            try with_reducible rfl
          try simp only [Act.put, List.getElem_toArray, List.getElem_cons_succ, List.getElem_cons_zero, List.setIfInBounds_toArray, List.set_cons_zero, List.set_cons_succ]
          refine wpAnyH_take (i := 8) (oi := _) (v := ?_) rfl (by kernel_rfl) (by kernel_rfl) (by kernel_rfl) (fun _ _ _ h => h) (Or.inl ⟨by rfl, ?_⟩) hHeld5 ?_
          rotate_left
          · rintro w' ⟨t0, t1⟩
            go_simp
            try with_reducible rfl
          try simp only [Act.put, List.getElem_toArray, List.getElem_cons_succ, List.getElem_cons_zero, List.setIfInBounds_toArray, List.set_cons_zero, List.set_cons_succ]
          refine wpAnyH_take (i := 9) (oi := _) (v := ?_) rfl (by kernel_rfl) (by kernel_rfl) (by kernel_rfl) (fun _ _ _ h => h) (Or.inl ⟨by rfl, ?_⟩) hHeld5 ?_
          rotate_left
          · rintro w' ⟨t0, t1⟩
            go_simp
            try with_reducible rfl
          try simp only [Act.put, List.getElem_toArray, List.getElem_cons_succ, List.getElem_cons_zero, List.setIfInBounds_toArray, List.set_cons_zero, List.set_cons_succ]
          refine wpAnyH_take (i := 10) (oi := _) (v := undef) rfl (by kernel_rfl) (by kernel_rfl) (by kernel_rfl) (fun _ _ _ h => h) (Or.inr ⟨by rfl, rfl⟩) hHeld5 ?_
          try simp only [Act.put, List.getElem_toArray, List.getElem_cons_succ, List.getElem_cons_zero, List.setIfInBounds_toArray, List.set_cons_zero, List.set_cons_succ]
          refine wpAnyH_take (i := 11) (oi := _) (v := undef) rfl (by kernel_rfl) (by kernel_rfl) (by kernel_rfl) (fun _ _ _ h => h) (Or.inr ⟨by rfl, rfl⟩) hHeld5 ?_
          try simp only [Act.put, List.getElem_toArray, List.getElem_cons_succ, List.getElem_cons_zero, List.setIfInBounds_toArray, List.set_cons_zero, List.set_cons_succ]
          refine wpAnyH_take (i := 12) (oi := _) (v := undef) rfl (by kernel_rfl) (by kernel_rfl) (by kernel_rfl) (fun _ _ _ h => h) (Or.inr ⟨by rfl, rfl⟩) hHeld5 ?_
          try simp only [Act.put, List.getElem_toArray, List.getElem_cons_succ, List.getElem_cons_zero, List.setIfInBounds_toArray, List.set_cons_zero, List.set_cons_succ]
          refine wpAnyH_take (i := 13) (oi := _) (v := undef) rfl (by kernel_rfl) (by kernel_rfl) (by kernel_rfl) (fun _ _ _ h => h) (Or.inr ⟨by rfl, rfl⟩) hHeld5 ?_
          try simp only [Act.put, List.getElem_toArray, List.getElem_cons_succ, List.getElem_cons_zero, List.setIfInBounds_toArray, List.set_cons_zero, List.set_cons_succ]
          refine wpAnyH_take (i := 14) (oi := _) (v := undef) rfl (by kernel_rfl) (by kernel_rfl) (by kernel_rfl) (fun _ _ _ h => h) (Or.inr ⟨by rfl, rfl⟩) hHeld5 ?_
          try simp only [Act.put, List.getElem_toArray, List.getElem_cons_succ, List.getElem_cons_zero, List.setIfInBounds_toArray, List.set_cons_zero, List.set_cons_succ]
          refine wpAnyH_take (i := 15) (oi := _) (v := undef) rfl (by kernel_rfl) (by kernel_rfl) (by kernel_rfl) (fun _ _ _ h => h) (Or.inr ⟨by rfl, rfl⟩) hHeld5 ?_
          try simp only [Act.put, List.getElem_toArray, List.getElem_cons_succ, List.getElem_cons_zero, List.setIfInBounds_toArray, List.set_cons_zero, List.set_cons_succ]
          refine wpAnyH_take (i := 16) (oi := _) (v := undef) rfl (by kernel_rfl) (by kernel_rfl) (by kernel_rfl) (fun _ _ _ h => h) (Or.inr ⟨by rfl, rfl⟩) hHeld5 ?_
          try simp only [Act.put, List.getElem_toArray, List.getElem_cons_succ, List.getElem_cons_zero, List.setIfInBounds_toArray, List.set_cons_zero, List.set_cons_succ]
          refine wpAnyH_take (i := 17) (oi := _) (v := undef) rfl (by kernel_rfl) (by kernel_rfl) (by kernel_rfl) (fun _ _ _ h => h) (Or.inr ⟨by rfl, rfl⟩) hHeld5 ?_
          try simp only [Act.put, List.getElem_toArray, List.getElem_cons_succ, List.getElem_cons_zero, List.setIfInBounds_toArray, List.set_cons_zero, List.set_cons_succ]
          refine wpAnyH_take (i := 18) (oi := _) (v := undef) rfl (by kernel_rfl) (by kernel_rfl) (by kernel_rfl) (fun _ _ _ h => h) (Or.inr ⟨by rfl, rfl⟩) hHeld5 ?_
          try simp only [Act.put, List.getElem_toArray, List.getElem_cons_succ, List.getElem_cons_zero, List.setIfInBounds_toArray, List.set_cons_zero, List.set_cons_succ]
          refine wpAnyH_take (i := 19) (oi := _) (v := undef) rfl (by kernel_rfl) (by kernel_rfl) (by kernel_rfl) (fun _ _ _ h => h) (Or.inr ⟨by rfl, rfl⟩) hHeld5 ?_
          try simp only [Act.put, List.getElem_toArray, List.getElem_cons_succ, List.getElem_cons_zero, List.setIfInBounds_toArray, List.set_cons_zero, List.set_cons_succ]
          refine wpAnyH_take (i := 20) (oi := _) (v := undef) rfl (by kernel_rfl) (by kernel_rfl) (by kernel_rfl) (fun _ _ _ h => h) (Or.inr ⟨by rfl, rfl⟩) hHeld5 ?_
          try simp only [Act.put, List.getElem_toArray, List.getElem_cons_succ, List.getElem_cons_zero, List.setIfInBounds_toArray, List.set_cons_zero, List.set_cons_succ]
          refine wpAnyH_take (i := 21) (oi := _) (v := ?_) rfl (by kernel_rfl) (by kernel_rfl) (by kernel_rfl) (fun _ _ _ h => h) (Or.inl ⟨by rfl, ?_⟩) hHeld5 ?_
          rotate_left
          · rintro w' ⟨t0, t1⟩
            go_simp
            try with_reducible rfl
          try simp only [Act.put, List.getElem_toArray, List.getElem_cons_succ, List.getElem_cons_zero, List.setIfInBounds_toArray, List.set_cons_zero, List.set_cons_succ]
          refine wpAnyH_take (i := 22) (oi := _) (v := ?_) rfl (by kernel_rfl) (by kernel_rfl) (by kernel_rfl) (fun _ _ _ h => h) (Or.inl ⟨by rfl, ?_⟩) hHeld5 ?_
          rotate_left
          · rintro w' ⟨t0, t1⟩
            go_simp
            try with_reducible rfl
          try simp only [Act.put, List.getElem_toArray, List.getElem_cons_succ, List.getElem_cons_zero, List.setIfInBounds_toArray, List.set_cons_zero, List.set_cons_succ]
          refine wpAnyH_done (by kernel_rfl) ?_ _
          have HB5 := Lib.hid (below_step HB.out.drew hb5)
          go_wp2
          go_roundw
          case rel => exact ⟨1, by go_num, by omega, fun j x hj hx => by
            obtain rfl : j = 0 := by omega
            rw [HM.out] at hx
            obtain rfl := Option.some.inj hx
            exact HX.out, fun j x y hj => absurd hj (by omega), HB5.out⟩
          case measure => simp [intOf]; omega
        | succ j =>
          obtain ⟨m', hm'⟩ : ∃ m', L[j]? = some m' := ⟨L[j]'(by have := HN.out; omega), by simp⟩
          obtain ⟨a', ha', hab', e0, e1⟩ := (HL.out.below HB.out) j m' hm'
          obtain rfl : a = a' := by simpa using ha'
          have hx' : Fr m'.1 m'.2 := HF.out j m' (by omega) hm'
          have C91 := Lib.hid (fun W => spec_compare_any m'.1 m'.2 m.1 m.2 W (fr_sm hx') (fr_sm hx))
          have hw' : wrap64 ((j : Int) + 1 - 1) = j := by rw [Int.add_sub_cancel]; exact Go.IntWalk.wrap64_in _ (by omega)
          have hw : IntKind.i64.wrap ((j : Int) + 1 - 1) = j := by rw [IntKind.wrap_i64]; omega
          have hw2 : IntKind.i64.wrap (j : Int) = j := by rw [IntKind.wrap_i64]; omega
          have hj1 : (0 : Int) ≤ (j : Int) := by omega
          have hj2 : (j : Int) < (n : Int) := by omega
          have hj3 : (0 : Int) ≤ (j : Int) + 1 := by omega
          have hj4 : (j : Int) + 1 < (n : Int) := by omega
          have hj5 : ((j : Int) + 1).toNat = j + 1 := by omega
          have hg : decide ((0 : Int) < (j : Int) + 1) = true := decide_eq_true (by omega)
          have HM' := Lib.hid hm'
          clear hx hx' hm' ha'
          go_wp2_with fail
          go_region_held3 (fun W' => W'.cell? (a.add ((j + 1) * 2)) = some (.int .i64 m.1) ∧ W'.cell? ⟨(a.add ((j + 1) * 2)).block, (a.add ((j + 1) * 2)).off + 1, none⟩ = some (.int .i64 m.2) ∧ W'.cell? (a.add (j * 2)) = some (.int .i64 m'.1) ∧ W'.cell? ⟨(a.add (j * 2)).block, (a.add (j * 2)).off + 1, none⟩ = some (.int .i64 m'.2))
            (first | (go_keep; done) | (apply keep4; (case hb => assumption); (case h => assumption)))
            ((first | (go_at_call 66; refine (C41.out _).mono ?_; rintro e w5 ⟨rfl, hb5⟩) | (go_at_call 92; refine (C91.out _).mono ?_; rintro e w6 ⟨rfl, hb6⟩)))
          have HB6 := Lib.hid (below_step (below_step HB.out.drew hb5) hb6)
          have hM' : L[j]? = some m' := HM'.out
          by_cases hc : cmpF (m'.1, m'.2) (m.1, m.2) < 0
          · have hc1 : decide (0 ≤ cmpF (m'.1, m'.2) (m.1, m.2)) = false := decide_eq_false (by omega)
            rw [hc1]
            clear hM'
            go_wp2
            go_roundw
            case rel =>
              refine ⟨j + 1 + 1, by go_num, by omega, fun i x hi hx => ?_, fun i x y hi hx hy => ?_, HB6.out⟩
              · by_cases hij : i < j + 1
                · exact HF.out i x hij hx
                · obtain rfl : i = j + 1 := by omega
                  rw [HM.out] at hx
                  obtain rfl := Option.some.inj hx
                  exact HX.out
              · by_cases hij : i + 1 < j + 1
                · exact HO.out i x y hij hx hy
                · obtain rfl : i = j := by omega
                  rw [HM.out] at hy
                  rw [HM'.out] at hx
                  obtain rfl := Option.some.inj hx
                  obtain rfl := Option.some.inj hy
                  exact hc
            case measure => simp [intOf]; omega
          · have hc1 : decide (0 ≤ cmpF (m'.1, m'.2) (m.1, m.2)) = true := decide_eq_true (by omega)
            rw [hc1]
            have hrf : r = false := by
              cases r with
              | false => rfl
              | true => exact absurd ((HR.out.1 rfl).2.1 j m' m hM' HM.out) hc
            subst hrf
            clear hM'
            go_wp2
            go_ret
            exact ⟨rfl, HB6.out⟩
      · have C41 := Lib.hid (fun W => Low.spec_is_any m.1 m.2 W)
        rw [decide_eq_false hx] at C41
        have hrf : r = false := by
          cases r with
          | false => rfl
          | true => exact absurd ((HR.out.1 rfl).1 m (List.mem_of_getElem? HM.out)) hx
        subst hrf
        clear hx
        go_wp2_with fail
        have s0 : wr.drew.cell? (a.add (k * 2)) = some (.int .i64 m.1) := c0
        have s1 : wr.drew.cell? ⟨(a.add (k * 2)).block, (a.add (k * 2)).off + 1, none⟩ = some (.int .i64 m.2) := c1
        refine wp_region_held_drew (S := fun W' => W'.cell? (a.add (k * 2)) = some (.int .i64 m.1) ∧ W'.cell? ⟨(a.add (k * 2)).block, (a.add (k * 2)).off + 1, none⟩ = some (.int .i64 m.2)) (by kernel_rfl) ⟨s0, s1⟩ (fun hHeld => ?_)
        refine wpAnyH_take (i := 0) (oi := _) (v := ?_) rfl (by kernel_rfl) (by kernel_rfl) (by kernel_rfl) (fun _ _ _ h => h) (Or.inl ⟨by rfl, ?_⟩) hHeld ?_
        rotate_left
        · rintro w' ⟨t0, t1⟩
          go_simp
          try with_reducible rfl
        try simp only [Act.put, List.getElem_toArray, List.getElem_cons_succ, List.getElem_cons_zero, List.setIfInBounds_toArray, List.set_cons_zero, List.set_cons_succ]
        refine wpAnyH_take (i := 1) (oi := _) (v := ?_) rfl (by kernel_rfl) (by kernel_rfl) (by kernel_rfl) (fun _ _ _ h => h) (Or.inl ⟨by rfl, ?_⟩) hHeld ?_
        rotate_left
        · rintro w' ⟨t0, t1⟩
          go_simp
          try with_reducible rfl
        try simp only [Act.put, List.getElem_toArray, List.getElem_cons_succ, List.getElem_cons_zero, List.setIfInBounds_toArray, List.set_cons_zero, List.set_cons_succ]
        refine wpAnyH_take (i := 2) (oi := _) (v := ?_) rfl (by kernel_rfl) (by kernel_rfl) (by kernel_rfl) (fun _ _ _ h => h) (Or.inl ⟨by rfl, ?_⟩) hHeld ?_
        rotate_left
        · rintro w' ⟨t0, t1⟩
          go_simp
          try with_reducible rfl
        try simp only [Act.put, List.getElem_toArray, List.getElem_cons_succ, List.getElem_cons_zero, List.setIfInBounds_toArray, List.set_cons_zero, List.set_cons_succ]
        refine wpAnyH_take (i := 3) (oi := _) (v := ?_) rfl (by kernel_rfl) (by kernel_rfl) (by kernel_rfl) (fun _ _ _ h => h) (Or.inl ⟨by rfl, ?_⟩) hHeld ?_
        rotate_left
        · rintro w' ⟨t0, t1⟩
          go_simp
          try with_reducible rfl
        try simp only [Act.put, List.getElem_toArray, List.getElem_cons_succ, List.getElem_cons_zero, List.setIfInBounds_toArray, List.set_cons_zero, List.set_cons_succ]
        refine wpAnyH_ready (rs := [4]) (by kernel_rfl) (by simp) ?_
        refine AllReadyH.cons (o := { dst := some 14, op := .call { callee := .value (.func 66), args := #[.tmp 13], argTypes := #[26] }, type := 4, pos := "l10_belyi.go:199", after := #[{ on := 3, ground := .data }], guard := none }) rfl (fun K hK => ?_) AllReadyH.nil
        go_simp
        go_at_call 66
        refine (C41.out _).mono ?_
        rintro e w5 ⟨rfl, hb5⟩
        refine hK.out _ _ (keep2g hb5 hHeld) (fun hHeld5 => ?_)
        clear hK hHeld
        try simp only [Act.put, List.getElem_toArray, List.getElem_cons_succ, List.getElem_cons_zero, List.setIfInBounds_toArray, List.set_cons_zero, List.set_cons_succ]
        refine wpAnyH_take (i := 5) (oi := _) (v := ?_) rfl (by kernel_rfl) (by kernel_rfl) (by kernel_rfl) (fun _ _ _ h => h) (Or.inl ⟨by rfl, ?_⟩) hHeld5 ?_
        rotate_left
        · rintro w' ⟨t0, t1⟩
          go_simp
          try with_reducible rfl
        try simp only [Act.put, List.getElem_toArray, List.getElem_cons_succ, List.getElem_cons_zero, List.setIfInBounds_toArray, List.set_cons_zero, List.set_cons_succ]
        refine wpAnyH_take (i := 6) (oi := _) (v := ?_) rfl (by kernel_rfl) (by kernel_rfl) (by kernel_rfl) (fun _ _ _ h => h) (Or.inl ⟨by rfl, ?_⟩) hHeld5 ?_
        rotate_left
        · rintro w' ⟨t0, t1⟩
          go_simp
          try with_reducible rfl
        try simp only [Act.put, List.getElem_toArray, List.getElem_cons_succ, List.getElem_cons_zero, List.setIfInBounds_toArray, List.set_cons_zero, List.set_cons_succ]
        refine wpAnyH_take (i := 7) (oi := _) (v := undef) rfl (by kernel_rfl) (by kernel_rfl) (by kernel_rfl) (fun _ _ _ h => h) (Or.inr ⟨by rfl, rfl⟩) hHeld5 ?_
        try simp only [Act.put, List.getElem_toArray, List.getElem_cons_succ, List.getElem_cons_zero, List.setIfInBounds_toArray, List.set_cons_zero, List.set_cons_succ]
        refine wpAnyH_take (i := 8) (oi := _) (v := undef) rfl (by kernel_rfl) (by kernel_rfl) (by kernel_rfl) (fun _ _ _ h => h) (Or.inr ⟨by rfl, rfl⟩) hHeld5 ?_
        try simp only [Act.put, List.getElem_toArray, List.getElem_cons_succ, List.getElem_cons_zero, List.setIfInBounds_toArray, List.set_cons_zero, List.set_cons_succ]
        refine wpAnyH_take (i := 9) (oi := _) (v := undef) rfl (by kernel_rfl) (by kernel_rfl) (by kernel_rfl) (fun _ _ _ h => h) (Or.inr ⟨by rfl, rfl⟩) hHeld5 ?_
        try simp only [Act.put, List.getElem_toArray, List.getElem_cons_succ, List.getElem_cons_zero, List.setIfInBounds_toArray, List.set_cons_zero, List.set_cons_succ]
        refine wpAnyH_take (i := 10) (oi := _) (v := undef) rfl (by kernel_rfl) (by kernel_rfl) (by kernel_rfl) (fun _ _ _ h => h) (Or.inr ⟨by rfl, rfl⟩) hHeld5 ?_
        try simp only [Act.put, List.getElem_toArray, List.getElem_cons_succ, List.getElem_cons_zero, List.setIfInBounds_toArray, List.set_cons_zero, List.set_cons_succ]
        refine wpAnyH_take (i := 11) (oi := _) (v := undef) rfl (by kernel_rfl) (by kernel_rfl) (by kernel_rfl) (fun _ _ _ h => h) (Or.inr ⟨by rfl, rfl⟩) hHeld5 ?_
        try simp only [Act.put, List.getElem_toArray, List.getElem_cons_succ, List.getElem_cons_zero, List.setIfInBounds_toArray, List.set_cons_zero, List.set_cons_succ]
        refine wpAnyH_take (i := 12) (oi := _) (v := undef) rfl (by kernel_rfl) (by kernel_rfl) (by kernel_rfl) (fun _ _ _ h => h) (Or.inr ⟨by rfl, rfl⟩) hHeld5 ?_
        try simp only [Act.put, List.getElem_toArray, List.getElem_cons_succ, List.getElem_cons_zero, List.setIfInBounds_toArray, List.set_cons_zero, List.set_cons_succ]
        refine wpAnyH_take (i := 13) (oi := _) (v := undef) rfl (by kernel_rfl) (by kernel_rfl) (by kernel_rfl) (fun _ _ _ h => h) (Or.inr ⟨by rfl, rfl⟩) hHeld5 ?_
        try simp only [Act.put, List.getElem_toArray, List.getElem_cons_succ, List.getElem_cons_zero, List.setIfInBounds_toArray, List.set_cons_zero, List.set_cons_succ]
        refine wpAnyH_take (i := 14) (oi := _) (v := undef) rfl (by kernel_rfl) (by kernel_rfl) (by kernel_rfl) (fun _ _ _ h => h) (Or.inr ⟨by rfl, rfl⟩) hHeld5 ?_
        try simp only [Act.put, List.getElem_toArray, List.getElem_cons_succ, List.getElem_cons_zero, List.setIfInBounds_toArray, List.set_cons_zero, List.set_cons_succ]
        refine wpAnyH_take (i := 15) (oi := _) (v := undef) rfl (by kernel_rfl) (by kernel_rfl) (by kernel_rfl) (fun _ _ _ h => h) (Or.inr ⟨by rfl, rfl⟩) hHeld5 ?_
        try simp only [Act.put, List.getElem_toArray, List.getElem_cons_succ, List.getElem_cons_zero, List.setIfInBounds_toArray, List.set_cons_zero, List.set_cons_succ]
        refine wpAnyH_take (i := 16) (oi := _) (v := undef) rfl (by kernel_rfl) (by kernel_rfl) (by kernel_rfl) (fun _ _ _ h => h) (Or.inr ⟨by rfl, rfl⟩) hHeld5 ?_
        try simp only [Act.put, List.getElem_toArray, List.getElem_cons_succ, List.getElem_cons_zero, List.setIfInBounds_toArray, List.set_cons_zero, List.set_cons_succ]
        refine wpAnyH_take (i := 17) (oi := _) (v := undef) rfl (by kernel_rfl) (by kernel_rfl) (by kernel_rfl) (fun _ _ _ h => h) (Or.inr ⟨by rfl, rfl⟩) hHeld5 ?_
        try simp only [Act.put, List.getElem_toArray, List.getElem_cons_succ, List.getElem_cons_zero, List.setIfInBounds_toArray, List.set_cons_zero, List.set_cons_succ]
        refine wpAnyH_take (i := 18) (oi := _) (v := undef) rfl (by kernel_rfl) (by kernel_rfl) (by kernel_rfl) (fun _ _ _ h => h) (Or.inr ⟨by rfl, rfl⟩) hHeld5 ?_
        try simp only [Act.put, List.getElem_toArray, List.getElem_cons_succ, List.getElem_cons_zero, List.setIfInBounds_toArray, List.set_cons_zero, List.set_cons_succ]
        refine wpAnyH_take (i := 19) (oi := _) (v := undef) rfl (by kernel_rfl) (by kernel_rfl) (by kernel_rfl) (fun _ _ _ h => h) (Or.inr ⟨by rfl, rfl⟩) hHeld5 ?_
        try simp only [Act.put, List.getElem_toArray, List.getElem_cons_succ, List.getElem_cons_zero, List.setIfInBounds_toArray, List.set_cons_zero, List.set_cons_succ]
        refine wpAnyH_take (i := 20) (oi := _) (v := undef) rfl (by kernel_rfl) (by kernel_rfl) (by kernel_rfl) (fun _ _ _ h => h) (Or.inr ⟨by rfl, rfl⟩) hHeld5 ?_
        try simp only [Act.put, List.getElem_toArray, List.getElem_cons_succ, List.getElem_cons_zero, List.setIfInBounds_toArray, List.set_cons_zero, List.set_cons_succ]
        refine wpAnyH_take (i := 21) (oi := _) (v := undef) rfl (by kernel_rfl) (by kernel_rfl) (by kernel_rfl) (fun _ _ _ h => h) (Or.inr ⟨by rfl, rfl⟩) hHeld5 ?_
        try simp only [Act.put, List.getElem_toArray, List.getElem_cons_succ, List.getElem_cons_zero, List.setIfInBounds_toArray, List.set_cons_zero, List.set_cons_succ]
        refine wpAnyH_take (i := 22) (oi := _) (v := ?_) rfl (by kernel_rfl) (by kernel_rfl) (by kernel_rfl) (fun _ _ _ h => h) (Or.inl ⟨by rfl, ?_⟩) hHeld5 ?_
        rotate_left
        · rintro w' ⟨t0, t1⟩
          go_simp
          try with_reducible rfl
        try simp only [Act.put, List.getElem_toArray, List.getElem_cons_succ, List.getElem_cons_zero, List.setIfInBounds_toArray, List.set_cons_zero, List.set_cons_succ]
        refine wpAnyH_done (by kernel_rfl) ?_ _
        go_wp2
        go_ret
        exact ⟨rfl, below_step HB.out.drew hb5⟩
    · obtain rfl : k = n := by omega
      have hrr : r = decide (k ≤ 12) := by
        rw [Bool.eq_iff_iff, HR.out, decide_eq_true_iff]
        constructor
        · intro h; rw [HN.out]; exact h.2.2
        · intro h
          refine ⟨fun m hm => ?_, fun i x y hx hy => ?_, by rw [← HN.out]; exact h⟩
          · obtain ⟨i, hi⟩ := List.getElem?_of_mem hm
            exact HF.out i m (by rw [HN.out]; exact (List.getElem?_eq_some_iff.1 hi).1) hi
          · exact HO.out i x y (by rw [HN.out]; exact (List.getElem?_eq_some_iff.1 hy).1) hx hy
      subst hrr
      have hle : decide ((k : Int) ≤ 12) = decide (k ≤ 12) := decide_eq_decide.2 (by omega)
      go_wp2
      go_ret
      exact ⟨by first | rfl | (rw [← hle]; rfl) | simp, hbel⟩
end Go.Proofs.Ytaplebckjbbobaa.Fl
end
section
set_option linter.unusedSimpArgs false
namespace Go.Proofs.Ytaplebckjbbobaa.Fl
open Go.RowKit Bs Grd
open FracMath (Fr IsVal Fits Mv)
def fcells (L : List F2) : List Value := L.flatMap fun m => [.int .i64 m.1, .int .i64 m.2]
theorem fcells_len (L : List F2) : (fcells L).length = L.length * 2 := by
  unfold fcells
  induction L with
  | nil => rfl
  | cons x L ih => simp only [List.flatMap_cons, List.length_append, ih, List.length_cons, List.length_nil]; omega
theorem fcells_at : ∀ (L : List F2) (i : Nat) (x : F2), L[i]? = some x → (fcells L)[i * 2]? = some (.int .i64 x.1) ∧ (fcells L)[i * 2 + 1]? = some (.int .i64 x.2)
  | [], i, x, h => by simp at h
  | y :: L, 0, x, h => by
    have e : y = x := by simpa using h
    subst e
    exact ⟨rfl, rfl⟩
  | y :: L, i + 1, x, h => by
    have ih := fcells_at L i x (by simpa using h)
    rw [show (i + 1) * 2 = i * 2 + 1 + 1 by omega, show fcells (y :: L) = .int .i64 y.1 :: .int .i64 y.2 :: fcells L from rfl]
    exact ih
theorem fcells_snoc (L : List F2) (x : F2) : fcells L ++ [.int .i64 x.1, .int .i64 x.2] = fcells (L ++ [x]) := by simp [fcells]
theorem fcells_append (L M : List F2) : fcells L ++ fcells M = fcells (L ++ M) := by simp [fcells]
def FOwn (W : World) (base : Nat) (v : Value) (L : List F2) : Prop := W.ownsRow base 26 2 v L.length (fcells L)
theorem FOwn.row {W : World} {base g c n : Nat} {L : List F2} (h : FOwn W base (.slice (some ⟨g, 0, none⟩) n c) L) : FRow W g L ∧ base ≤ g ∧ n = L.length ∧ n ≤ c ∧ c ≤ maxLen := by
  obtain ⟨h1, h2⟩ := h
  rcases h2 with ⟨h2, _⟩ | ⟨g', cap, cur, h2, hb, hh, hn, hm, hs, ht⟩
  · cases h2
  · cases h2
    refine ⟨⟨cur, hh, fun i x hi => ?_⟩, hb, rfl, hn, hm⟩
    obtain ⟨a0, a1⟩ := fcells_at L i x hi
    rw [← ht] at a0 a1
    have hi2 := (List.getElem?_eq_some_iff.1 hi).1
    rw [List.getElem?_take_of_lt (by omega)] at a0 a1
    exact ⟨by simpa using a0, by simpa using a1⟩
theorem FOwn.shape {W : World} {base : Nat} {v : Value} {L : List F2} (h : FOwn W base v L) (hv : v ≠ .slice none 0 0) : ∃ g c, v = .slice (some ⟨g, 0, none⟩) L.length c := by
  rcases h.2 with ⟨h2, _⟩ | ⟨g', cap, cur, h2, _⟩
  · exact absurd h2 hv
  · exact ⟨_, _, h2⟩
theorem news_two (W : World) (x y : Int) (j : Nat) (u : Value) (h : [Value.int .i64 x, .int .i64 y][j]? = some u) : (W.alloc (.cells #[.int .i64 x, .int .i64 y] 26)).cell? ((⟨W.heap.size, 0, none⟩ : Addr).add j) = some u := by
  rw [add_at, Nat.zero_add]
  have hb := blk_cell (heap_alloc_new W (.cells #[.int .i64 x, .int .i64 y] 26))
  match j, h with
  | 0, h => exact (hb 0).trans (by simpa using h)
  | 1, h => exact (hb 1).trans (by simpa using h)
  | n + 2, h => simp at h
theorem B1.grown {w W W' : World} {o : Obj} {row : Option Nat} (h : B1 w W o) (hg : W.grownBy W' row) (hr : ∀ k, row = some k → w.heap.size + 1 ≤ k) : B1 w W' o := by
  have hs := h.siz
  refine ⟨(hg.block _ (by omega) fun e => ?_).trans h.b1, ?_, Nat.le_trans h.siz hg.size⟩
  · have := hr _ e.symm; omega
  · exact ⟨hg.os.trans h.bel.os, hg.tape.trans h.bel.tape, hg.output.trans h.bel.output, Nat.le_trans h.bel.size hg.size, fun b hb => (hg.block b (Nat.lt_of_lt_of_le hb h.bel.size) fun e => by have := hr _ e.symm; omega).trans (h.bel.block b hb)⟩
def ImgPost (w : World) (L : List F2) (vf : F2 → F2) (e : Ending) (w' : World) : Prop :=
  (((∀ x ∈ L, Fits (vf x).1 (vf x).2) ∧ ∃ g c R, e = .returned (.tuple #[.slice (some ⟨g, 0, none⟩) R.length c, .int .i64 0]) ∧ w.heap.size ≤ g ∧ FRow w' g R ∧ Asc R ∧ (∀ x, x ∈ R ↔ x ∈ L.map vf) ∧ R.length ≤ L.length) ∨
    (¬ (∀ x ∈ L, Fits (vf x).1 (vf x).2) ∧ e = .returned (.tuple #[.slice none 0 0, .int .i64 3]))) ∧ Below w.heap.size w w'
set_option maxHeartbeats 2000000 in
set_option maxRecDepth 100000 in
theorem image_any (w : World) (m0 m1 m2 : Int) (ao : Option Addr) (L : List F2) (n cap : Nat) (vf : F2 → F2) (hm : Mv m0 m1 m2) (hn : n = L.length) (hcap : n ≤ 12) (hf : ∀ x ∈ L, FR x)
    (hvf : ∀ x ∈ L, IsVal m0 m1 m2 x.1 x.2 (vf x).1 (vf x).2) (h : FLst w ao L) :
    Calls Try.prog 81 #[.agg #[.int .i64 m0, .int .i64 m1, .int .i64 m2], .slice ao n cap] w (ImgPost w L vf) := by
  have hu26 := Try.underlying26
  have hu49 := Try.underlying49
  obtain ⟨i0, hi, hz0, hz1, hz2⟩ := info_parts info26
  have HL := Lib.hid h
  have HN := Lib.hid hn
  have HF := Lib.hid hf
  have HV := Lib.hid hvf
  have HX0 := Lib.hid (B1.start w (.cells #[.int .i64 m0, .int .i64 m1, .int .i64 m2] 29))
  have HI := Lib.hid hi
  clear h hn hf hvf hi
  go_enter Try.func81, Try.ntmps81
  go_wp2
  go_loopw [6, 14] (fun v i wr => ∃ (k : Nat) (O : List F2), i = .int .i64 k ∧ k ≤ n ∧ O = (L.take k).map vf ∧ (∀ (j : Nat) (x : F2), j < k → L[j]? = some x → Fits (vf x).1 (vf x).2) ∧ FOwn wr (w.heap.size + 1) v O ∧ v ≠ .slice none 0 0 ∧ B1 w wr (.cells #[.int .i64 m0, .int .i64 m1, .int .i64 m2] 29)) (fun _ i _ => n - (intOf i).toNat)
  case atStart =>
    refine ⟨0, [], rfl, Nat.zero_le _, rfl, fun j x h => absurd h (Nat.not_lt_zero _), ?_, by simp, HX0.out.below (below_alloc (Below.refl _ _) _)⟩
    have := World.ownsRow_made (base := w.heap.size + 1) (e := 26) (size := 2) (w.alloc (.cells #[.int .i64 m0, .int .i64 m1, .int .i64 m2] 29)) #[] 0 (by simp) (by unfold maxLen; omega) (by simp)
    simpa [FOwn, fcells] using this
  case round =>
    clear HX0
    obtain ⟨k, O, rfl, hk, hO, hfit, hown, hne, hx⟩ := hrel
    have HOq := Lib.hid hO
    have HO := Lib.hid hown
    have HX := Lib.hid hx
    have HT := Lib.hid hfit
    have HE := Lib.hid hne
    clear hown hx hfit hne hO
    by_cases hlt : k < n
    · obtain ⟨m, hmk⟩ : ∃ m, L[k]? = some m := ⟨L[k]'(by rw [← HN.out]; exact hlt), by simp⟩
      obtain ⟨a, rfl, hab, c0, c1⟩ := (HL.out.below HX.out.bel) k m hmk
      have hk1 : (0 : Int) ≤ (k : Int) := by omega
      have hk2 : (k : Int) < (n : Int) := by omega
      have b0 := blk_cell HX.out.b1 0
      have b1 := blk_cell HX.out.b1 1
      have b2 := blk_cell HX.out.b1 2
      simp only [List.getElem?_toArray, List.getElem?_cons_zero, List.getElem?_cons_succ] at b0 b1 b2
      have hsz := HX.out.siz
      have l0 : w.heap.size < wr.heap.size := by omega
      have hmem := List.mem_of_getElem? hmk
      obtain ⟨s1, s2, s3, hs⟩ : ∃ s1 s2 s3 : Int, (s1, s2, s3) = if Fits (vf m).1 (vf m).2 then ((vf m).1, (vf m).2, 0) else (0, 0, 3) := by
        by_cases hf : Fits (vf m).1 (vf m).2
        · exact ⟨_, _, 0, by rw [if_pos hf]⟩
        · exact ⟨0, 0, 3, by rw [if_neg hf]⟩
      have C3 := Lib.hid (fun W => Low.move_any m0 m1 m2 m.1 m.2 W hm (HF.out m hmem) _ _ (HV.out m hmem) s1 s2 s3 hs)
      have HS := Lib.hid hs
      have HM := Lib.hid hmk
      clear hs hmk hmem
      go_wp2_with fail
      refine (C3.out _).mono ?_
      rintro e w3 ⟨rfl, hb⟩
      have HX3 := Lib.hid ((HX.out.below (below_alloc (Below.refl _ _) (.cells #[.int .i64 m.1, .int .i64 m.2] 26))).below hb)
      have HO3 := Lib.hid (own_below (HO.out.alloc (.cells #[.int .i64 m.1, .int .i64 m.2] 26)) hb)
      clear hb c0 c1 b0 b1 b2 HX HO
      by_cases hf : Fits (vf m).1 (vf m).2
      · have hs := HS.out
        rw [if_pos hf] at hs
        simp only [Prod.mk.injEq] at hs
        obtain ⟨rfl, rfl, rfl⟩ := hs
        clear HS
        have hFR : FR (vf m) := FracMath.fr_of_val (HV.out m (List.mem_of_getElem? HM.out)) hf
        have HG : Hid (FR (vf m)) := Lib.hid hFR
        have hsnoc : O ++ [vf m] = (L.take (k + 1)).map vf := by
          obtain ⟨h1, h2⟩ := List.getElem?_eq_some_iff.1 HM.out
          rw [List.take_succ_eq_append_getElem h1, h2, HOq.out]; simp
        have HSn := Lib.hid hsnoc
        have hll : O.length ≤ 12 := by
          have := HN.out
          rw [HOq.out]; simp; omega
        clear hFR hsnoc
        go_wp2_with (at_builtin; refine wpList_append_own _ rfl (.tmp 27) (.tmp 29) 49 rfl (w.heap.size + 1) 26 i0 (.agg #[.int .i64 0, .int .i64 0]) 2 16 hu49 HI.out hz0 hz1 hz2 rfl (by decide) _ _ _ rfl ((HO3.out.alloc _).alloc _) ⟨w3.heap.size + 1, 0, none⟩ 1 1 [.int .i64 (vf m).1, .int .i64 (vf m).2] rfl rfl ?c1 ?c2 ?c3 ?c4 ?c5 ?_)
        case c1 => intro j u hu; have := news_two (w3.alloc (.cells #[.int .i64 (vf m).1, .int .i64 (vf m).2] 26)) (vf m).1 (vf m).2 j u hu; simpa using this
        case c2 => intro u hu; simp at hu; rcases hu with rfl | rfl <;> rfl
        case c3 => unfold maxLen; omega
        case c4 => omega
        case c5 => have := HX3.out.siz; simp; omega
        intro v' w4 ho hg hnil
        rw [fcells_snoc] at ho
        have HO4 : Hid (FOwn w4 (w.heap.size + 1) v' (O ++ [vf m])) := Lib.hid (by
          unfold FOwn
          rw [List.length_append]
          exact ho)
        have HE4 : Hid (v' ≠ .slice none 0 0) := Lib.hid hnil
        have HX4 := Lib.hid (B1.grown ((HX3.out.below (below_alloc (Below.refl _ _) _)).below (below_alloc (Below.refl _ _) _)) hg (fun k hk => own_base HO3.out k hk))
        clear ho hg hnil HX3 HO3 HE
        go_wp2
        go_roundw
        case rel =>
          refine ⟨k + 1, O ++ [vf m], by go_num, by omega, HSn.out, fun j x hj hx => ?_, HO4.out, HE4.out, HX4.out⟩
          by_cases hjk : j < k
          · exact HT.out j x hjk hx
          · obtain rfl : j = k := by omega
            rw [HM.out] at hx
            obtain rfl := Option.some.inj hx
            exact hf
        case measure => simp [intOf]; omega
      · have hs := HS.out
        rw [if_neg hf] at hs
        simp only [Prod.mk.injEq] at hs
        obtain ⟨rfl, rfl, rfl⟩ := hs
        clear HS
        go_wp2
        go_ret2
        exact ⟨.inr ⟨fun hall => hf (hall m (List.mem_of_getElem? HM.out)), rfl⟩, below_step HX3.out.bel (below_alloc (Below.refl _ _) _)⟩
    · obtain rfl : k = n := by omega
      have hall : ∀ x ∈ L, Fits (vf x).1 (vf x).2 := fun x hx => by
        obtain ⟨i, hi⟩ := List.getElem?_of_mem hx
        exact HT.out i x (by rw [HN.out]; exact (List.getElem?_eq_some_iff.1 hi).1) hi
      have hown := HO.out
      rw [HOq.out, List.take_of_length_le (by have := HN.out; omega)] at hown
      obtain ⟨g, c, rfl⟩ := hown.shape HE.out
      obtain ⟨hrow, hg, _, hlc, hcm⟩ := hown.row
      rw [List.length_map, ← HN.out] at hlc
      rw [List.length_map, ← HN.out]
      have hfs : ∀ x ∈ L.map vf, FR x := fun x hx => by
        obtain ⟨y, hy, rfl⟩ := List.mem_map.1 hx
        exact FracMath.fr_of_val (HV.out y hy) (hall y hy)
      have C1 := Lib.hid (sortFunc_any wr g k c (L.map vf) (by rw [List.length_map]; exact HN.out) hcap hfs hrow)
      have HA := Lib.hid hall
      have HFS := Lib.hid hfs
      have hkm : k ≤ c := hlc
      have HCM := Lib.hid hcm
      clear hall hown hrow hfs hcm HO HE HT
      go_wp2_with fail
      refine (C1.out).mono ?_
      rintro e w2 ⟨rfl, M, hrow, hperm, hsrt, hkp⟩
      have hml : k = M.length := by rw [hperm.length_eq, List.length_map]; exact HN.out
      have C2 := Lib.hid (compact_any w2 g k c M hml (by omega) hkm HCM.out hrow)
      have HMf : Hid (∀ x ∈ M, FR x) := Lib.hid fun x hx => HFS.out x (hperm.mem_iff.1 hx)
      have HML := Lib.hid hml
      have HP := Lib.hid hperm
      have HS := Lib.hid hsrt
      have HK := Lib.hid hkp
      clear hrow hperm hsrt hkp hml
      go_wp2_with fail
      refine (C2.out).mono ?_
      rintro e w5 ⟨rfl, hrow, hkp⟩
      have HR := Lib.hid hrow
      have HK2 := Lib.hid hkp
      clear hrow hkp
      go_wp2
      go_ret2
      have hsz := HX.out.siz
      refine ⟨.inl ⟨HA.out, g, c, dd M, rfl, by omega, HR.out, dd_asc HMf.out HS.out, fun x => ?_, ?_⟩, ?_⟩
      · rw [dd_mem, HP.out.mem_iff]
      · have := dd_len M
        have h1 := HML.out
        have h2 := HN.out
        omega
      · have h1 := (HK.out.trans HK2.out)
        exact HX.out.bel.trans (h1.under (by omega) (by omega))
end Go.Proofs.Ytaplebckjbbobaa.Fl
end
section
namespace Go.Proofs.Ytaplebckjbbobaa.Low
open Go.RowKit Go.Proofs.YtaplebckjbbobaaW.PrintWords Go.Proofs.YtaplebckjbbobaaW.PrintMore FracMath PFnExactMoveFraction
set_option linter.unusedSimpArgs false
def Ran : List M3 → Int → Int → Int × Int × Int → Prop
  | [], p, q, r => r = (p, q, 0)
  | m :: L, p, q, r => ∃ N D, IsVal m.1 m.2.1 m.2.2 p q N D ∧ ((Fits N D ∧ Ran L N D r) ∨ (¬ Fits N D ∧ r = (0, 0, 3)))
theorem fits_Fr {m0 m1 m2 p q N D : Int} (hv : IsVal m0 m1 m2 p q N D) (h : Fits N D) : Fr N D := by
  have h0 : 0 < D ∨ (D = 0 ∧ N = 1) := by
    have := hv.nonneg
    by_cases hD : D = 0
    · exact .inr ⟨hD, hv.inf hD⟩
    · exact .inl (by omega)
  have := fits_fr hv.cop h0
  rw [decide_eq_true h] at this
  exact of_decide_eq_true this
theorem ran_exists : ∀ (L : List M3) (p q : Int), (∀ m ∈ L, Mv m.1 m.2.1 m.2.2) → Fr p q → ∃ r, Ran L p q r := by
  intro L
  induction L with
  | nil => intro p q _ _; exact ⟨_, rfl⟩
  | cons m L ih =>
    intro p q hm hx
    obtain ⟨N, D, hv⟩ := val_exists m.1 m.2.1 m.2.2 p q (hm m (by simp)) hx
    by_cases hf : Fits N D
    · obtain ⟨r, hr⟩ := ih N D (fun m' h => hm m' (by simp [h])) (fits_Fr hv hf)
      exact ⟨r, N, D, hv, .inl ⟨hf, hr⟩⟩
    · exact ⟨_, N, D, hv, .inr ⟨hf, rfl⟩⟩
def RunAns (L : List M3) (p q : Int) (r : Int × Int × Int) : Prop := if Fr p q then (if mcode L = 0 then Ran L p q r else r = (0, 0, mcode L)) else r = (0, 0, 1)
theorem mcode_zero {L : List M3} (h : mcode L = 0) : ∀ m ∈ L, Mv m.1 m.2.1 m.2.2 := by
  unfold mcode at h
  by_cases hall : ∀ m ∈ L, Mv m.1 m.2.1 m.2.2
  · exact hall
  · rw [if_neg hall] at h; omega
theorem runAns_exists (L : List M3) (p q : Int) : ∃ r1 r2 r3, RunAns L p q (r1, r2, r3) := by
  unfold RunAns
  by_cases hx : Fr p q
  · by_cases hc : mcode L = 0
    · obtain ⟨⟨r1, r2, r3⟩, hr⟩ := ran_exists L p q (mcode_zero hc) hx
      exact ⟨r1, r2, r3, by rw [if_pos hx, if_pos hc]; exact hr⟩
    · exact ⟨0, 0, mcode L, by rw [if_pos hx, if_neg hc]⟩
  · exact ⟨0, 0, 1, by rw [if_neg hx]⟩
structure Q2 (w W : World) (p q r s : Int) : Prop where
  b1 : W.heap[w.heap.size]? = some (.cells #[.int .i64 p, .int .i64 q] 26 (0, 0))
  b2 : W.heap[w.heap.size + 1]? = some (.cells #[.int .i64 r, .int .i64 s] 26 (0, 0))
  bel : Below w.heap.size w W
  siz : w.heap.size + 1 + 1 ≤ W.heap.size
theorem Q2.start (w : World) (p q r s : Int) : Q2 w ((w.alloc (.cells #[.int .i64 p, .int .i64 q] 26)).alloc (.cells #[.int .i64 r, .int .i64 s] 26)) p q r s := by
  refine ⟨?_, ?_, ?_, ?_⟩
  · simp only [alloc_at, World.size_alloc]; rw [if_neg (by omega), if_pos trivial]
  · simp only [alloc_at, World.size_alloc]; rw [if_pos trivial]
  · exact ((Below.refl _ _).alloc (Nat.le_refl _) _).alloc (by simp) _
  · simp
theorem Q2.below {w W W' : World} {p q r s : Int} (h : Q2 w W p q r s) (hb : Below W.heap.size W W') : Q2 w W' p q r s := by
  have hs := h.siz
  exact ⟨(hb.block _ (by omega)).trans h.b1, (hb.block _ (by omega)).trans h.b2, h.bel.trans (hb.mono (by omega)), Nat.le_trans hs hb.size⟩
theorem Q2.put {w W : World} {p q r s : Int} (h : Q2 w W p q r s) (p' q' : Int) : Q2 w ((W.setCell ⟨w.heap.size, 0, none⟩ (.int .i64 p')).setCell ⟨w.heap.size, 1, none⟩ (.int .i64 q')) p' q' r s := by
  refine ⟨by simpa using blk_set (blk_set h.b1 0 (.int .i64 p')) 1 (.int .i64 q'), ?_, (h.bel.setCell (Nat.le_refl _) _).setCell (Nat.le_refl _) _, by simpa using h.siz⟩
  rw [Below.heap_setCell _ _ _ _ (by show w.heap.size + 1 ≠ w.heap.size; omega), Below.heap_setCell _ _ _ _ (by show w.heap.size + 1 ≠ w.heap.size; omega)]
  exact h.b2
theorem Q2.put2 {w W : World} {p q r s : Int} (h : Q2 w W p q r s) (r' s' : Int) : Q2 w ((W.setCell ⟨w.heap.size + 1, 0, none⟩ (.int .i64 r')).setCell ⟨w.heap.size + 1, 1, none⟩ (.int .i64 s')) p q r' s' := by
  refine ⟨?_, by simpa using blk_set (blk_set h.b2 0 (.int .i64 r')) 1 (.int .i64 s'), (h.bel.setCell (by simp) _).setCell (by simp) _, by simpa using h.siz⟩
  rw [Below.heap_setCell _ _ _ _ (by show w.heap.size ≠ w.heap.size + 1; omega), Below.heap_setCell _ _ _ _ (by show w.heap.size ≠ w.heap.size + 1; omega)]
  exact h.b1
theorem Q2.cells {w W : World} {p q r s : Int} (h : Q2 w W p q r s) : (W.cell? ⟨w.heap.size, 0, none⟩ = some (.int .i64 p) ∧ W.cell? ⟨w.heap.size, 1, none⟩ = some (.int .i64 q)) ∧ W.cell? ⟨w.heap.size + 1, 0, none⟩ = some (.int .i64 r) ∧ W.cell? ⟨w.heap.size + 1, 1, none⟩ = some (.int .i64 s) :=
  ⟨⟨blk_cell h.b1 0, blk_cell h.b1 1⟩, blk_cell h.b2 0, blk_cell h.b2 1⟩
theorem Q2.frozen {w W : World} {p q r s : Int} (h : Q2 w W p q r s) : (W.frozen? ⟨w.heap.size, 0, none⟩ = false ∧ W.frozen? ⟨w.heap.size, 1, none⟩ = false) ∧ W.frozen? ⟨w.heap.size + 1, 0, none⟩ = false ∧ W.frozen? ⟨w.heap.size + 1, 1, none⟩ = false :=
  ⟨⟨blk_frozen h.b1 0, blk_frozen h.b1 1⟩, blk_frozen h.b2 0, blk_frozen h.b2 1⟩
theorem at_any (m0 m1 m2 p q N D : Int) (hm : Mv m0 m1 m2) (hx : Fr p q) (hv : IsVal m0 m1 m2 p q N D) : ∃ r1 r2 r3, FracMath.Told N D (r1, r2, r3) ∧ ∀ w,
    Calls Try.prog 67 #[.agg #[.int .i64 m0, .int .i64 m1, .int .i64 m2], .agg #[.int .i64 p, .int .i64 q]] w fun e w' => e = .returned (.tuple #[.agg #[.int .i64 r1, .int .i64 r2], .bool r3]) ∧ Below w.heap.size w w' := by
  obtain ⟨⟨r1, r2, r3⟩, ht, hev⟩ := at_ev m0 m1 m2 p q N D hm hx hv
  obtain ⟨k, hk⟩ := hev.rounds
  exact ⟨r1, r2, r3, ht, fun w => spec_l10At.calls k m0 m1 m2 p q r1 r2 r3 w hk⟩
theorem drop_at {L : List M3} {k : Nat} {m : M3} (h : L[k]? = some m) : L.drop k = m :: L.drop (k + 1) := by
  obtain ⟨hk, he⟩ := List.getElem?_eq_some_iff.1 h
  rw [List.drop_eq_getElem_cons hk, he]
set_option maxHeartbeats 1000000 in
set_option maxRecDepth 100000 in
theorem impl_run_any (w : World) (ao : Option Addr) (L : List M3) (n cap : Nat) (p q r1 r2 r3 : Int) (hn : n = L.length) (hcap : n ≤ 1048576) (h : Lst w ao L) (hr : RunAns L p q (r1, r2, r3)) :
    Calls Try.prog 18 #[.slice ao n cap, .agg #[.int .i64 p, .int .i64 q]] w fun e w' => e = .returned (.tuple #[.agg #[.int .i64 r1, .int .i64 r2], .int .i64 r3]) ∧ Below w.heap.size w w' := by
  have hu26 := Try.underlying26
  have HL := Lib.hid h
  have HN := Lib.hid hn
  have HR := Lib.hid hr
  have C1 := Lib.hid (fun W => isFraction_any p q W)
  have C2 := Lib.hid (fun W (hW : Lst W ao L) => movesCode_any W ao L n cap hn hcap hW)
  have HQ := Lib.hid (Q2.start w p q 0 0)
  clear h hn hr
  go_enter Try.func18, Try.ntmps18
  go_wp2_with fail
  refine (C1.out _).mono ?_
  rintro e w1 ⟨rfl, hb⟩
  have HQ1 := Lib.hid (HQ.out.below hb)
  clear hb HQ C1
  obtain ⟨⟨a0, a1⟩, c0, c1⟩ := HQ1.out.cells
  obtain ⟨⟨g0, g1⟩, f0, f1⟩ := HQ1.out.frozen
  by_cases hx : Fr p q
  · rw [decide_eq_true hx]
    clear a0 a1 c0 c1 g0 g1 f0 f1
    go_wp2_with fail
    refine (C2.out _ (HL.out.below HQ1.out.bel)).mono ?_
    rintro e w2 ⟨rfl, hb⟩
    have HQ2 := Lib.hid (HQ1.out.below hb)
    clear hb HQ1 C2
    obtain ⟨⟨a0, a1⟩, c0, c1⟩ := HQ2.out.cells
    obtain ⟨⟨g0, g1⟩, f0, f1⟩ := HQ2.out.frozen
    by_cases hc : mcode L = 0
    · rw [hc]
      clear a0 a1 c0 c1 g0 g1 f0 f1
      go_wp2
      go_loopw [23] (fun i wr => ∃ (k : Nat) (p' q' : Int), i = .int .i64 k ∧ k ≤ n ∧ Fr p' q' ∧ Ran (L.drop k) p' q' (r1, r2, r3) ∧ Q2 w wr p' q' 0 0) (fun i _ => n - (intOf i).toNat)
      case atStart =>
        have hh := HR.out
        unfold RunAns at hh
        rw [if_pos hx, if_pos hc] at hh
        exact ⟨0, p, q, rfl, Nat.zero_le _, hx, hh, HQ2.out⟩
      case round =>
        obtain ⟨k, p', q', rfl, hk, hx', hran, hq⟩ := hrel
        have HQ := Lib.hid hq
        have HRN := Lib.hid hran
        clear hq hran
        by_cases hlt : k < n
        · obtain ⟨m, hm⟩ : ∃ m, L[k]? = some m := ⟨L[k]'(by rw [← HN.out]; exact hlt), by simp⟩
          have hM := mcode_zero hc m (List.mem_of_getElem? hm)
          obtain ⟨N, D, hv, hcase⟩ : ∃ N D, IsVal m.1 m.2.1 m.2.2 p' q' N D ∧ ((Fits N D ∧ Ran (L.drop (k + 1)) N D (r1, r2, r3)) ∨ (¬ Fits N D ∧ (r1, r2, r3) = (0, 0, 3))) := by
            have hh := HRN.out
            rw [drop_at hm] at hh
            exact hh
          obtain ⟨a, rfl, hab, c0, c1, c2⟩ := (HL.out.below HQ.out.bel) k m hm
          obtain ⟨⟨x0, x1⟩, y0, y1⟩ := HQ.out.cells
          obtain ⟨s1, s2, s3, hs⟩ : ∃ s1 s2 s3 : Int, (s1, s2, s3) = if Fits N D then (N, D, 0) else (0, 0, 3) := by
            by_cases hf : Fits N D
            · exact ⟨N, D, 0, by rw [if_pos hf]⟩
            · exact ⟨0, 0, 3, by rw [if_neg hf]⟩
          have C3 := Lib.hid (fun W => move_any m.1 m.2.1 m.2.2 p' q' W hM hx' N D hv s1 s2 s3 hs)
          have hk1 : (0 : Int) ≤ (k : Int) := by omega
          have hk2 : (k : Int) < (n : Int) := by omega
          have HV := Lib.hid hv
          have HC := Lib.hid hcase
          have HS := Lib.hid hs
          have hsz := HQ.out.siz
          have l0 : w.heap.size < wr.heap.size := by omega
          have l1 : w.heap.size + 1 < wr.heap.size := by omega
          clear hv hcase hs hm hM hx'
          go_wp2_with fail
          refine (C3.out _).mono ?_
          rintro e w3 ⟨rfl, hb⟩
          have HQ3 := Lib.hid ((HQ.out.below (below_alloc (Below.refl _ _) _)).below hb)
          clear hb c0 c1 c2 x0 x1 y0 y1 HQ
          obtain ⟨⟨x0, x1⟩, y0, y1⟩ := HQ3.out.cells
          obtain ⟨⟨g0, g1⟩, f0, f1⟩ := HQ3.out.frozen
          have hsz3 := HQ3.out.siz
          have l2 : w.heap.size < w3.heap.size := by omega
          have l3 : w.heap.size + 1 < w3.heap.size := by omega
          rcases HC.out with ⟨hf, hran'⟩ | ⟨hf, hres⟩
          · have hs := HS.out
            rw [if_pos hf] at hs
            simp only [Prod.mk.injEq] at hs
            obtain ⟨rfl, rfl, rfl⟩ := hs
            have HRN' := Lib.hid hran'
            have hx3 := fits_Fr HV.out hf
            clear hran' HC HS
            go_wp2
            go_roundw
            case rel => exact ⟨k + 1, _, _, by go_num, by omega, hx3, HRN'.out, (HQ3.out.put _ _).below (below_alloc (Below.refl _ _) _)⟩
            case measure => simp [intOf]; omega
          · have hs := HS.out
            rw [if_neg hf] at hs
            simp only [Prod.mk.injEq] at hs hres
            obtain ⟨rfl, rfl, rfl⟩ := hs
            obtain ⟨rfl, rfl, rfl⟩ := hres
            clear HC HS
            go_wp2
            have HX := Lib.hid ((HQ3.out.put2 0 0).below (below_alloc (Below.refl _ _) (.cells #[.int .i64 0, .int .i64 0] 26)))
            obtain ⟨_, z0, z1⟩ := HX.out.cells
            exact bodyPost_ret (v := .tuple #[.agg #[.int .i64 0, .int .i64 0], .int .i64 3]) (by simp [results, Try.results18, go_sem, z0, z1]) rfl ⟨rfl, HX.out.bel⟩
        · have hh := HRN.out
          rw [show k = L.length from by have := HN.out; omega, List.drop_length] at hh
          obtain ⟨⟨x0, x1⟩, y0, y1⟩ := HQ.out.cells
          obtain ⟨⟨g0, g1⟩, f0, f1⟩ := HQ.out.frozen
          simp only [Ran, Prod.mk.injEq] at hh
          obtain ⟨rfl, rfl, rfl⟩ := hh
          go_wp2
          refine bodyPost_ret (v := .tuple #[.agg #[.int .i64 r1, .int .i64 r2], .int .i64 0]) (by simp [results, Try.results18, go_sem, y0, y1]) rfl ⟨rfl, ?_⟩
          exact (HQ.out.bel.setCell (by simp) _).setCell (by simp) _
    · have hh := HR.out
      unfold RunAns at hh
      rw [if_pos hx, if_neg hc] at hh
      simp only [Prod.mk.injEq] at hh
      obtain ⟨rfl, rfl, rfl⟩ := hh
      have hc' : (mcode L != 0) = true := by simpa using hc
      go_wp2
      refine bodyPost_ret (v := .tuple #[.agg #[.int .i64 0, .int .i64 0], .int .i64 (mcode L)]) (by simp [results, Try.results18, go_sem, c0, c1]) rfl ⟨rfl, ?_⟩
      exact (HQ2.out.bel.setCell (by simp) _).setCell (by simp) _
  · rw [decide_eq_false hx]
    have hh := HR.out
    unfold RunAns at hh
    rw [if_neg hx] at hh
    simp only [Prod.mk.injEq] at hh
    obtain ⟨rfl, rfl, rfl⟩ := hh
    go_wp2
    refine bodyPost_ret (v := .tuple #[.agg #[.int .i64 0, .int .i64 0], .int .i64 1]) (by simp [results, Try.results18, go_sem, c0, c1]) rfl ⟨rfl, ?_⟩
    exact (HQ1.out.bel.setCell (by simp) _).setCell (by simp) _
end Go.Proofs.Ytaplebckjbbobaa.Low
end
section
set_option linter.unusedSimpArgs false
namespace Go.Proofs.Ytaplebckjbbobaa.Fl
open Go.RowKit Bs Grd
open FracMath (Fr IsVal Fits Mv)
section
variable {x : Addr} {b g : Nat} {m0 m1 m2 p q : Int} {W W' : World} {o o' : Obj} {u v : Value}
abbrev D5 (x : Addr) (b : Nat) (m0 m1 m2 p q : Int) (W : World) : Prop := W.cell? x = some (.int .i64 p) ∧ W.cell? ⟨x.block, x.off + 1, none⟩ = some (.int .i64 q) ∧ W.cell? ⟨b, 0, none⟩ = some (.int .i64 m0) ∧ W.cell? ⟨b, 1, none⟩ = some (.int .i64 m1) ∧ W.cell? ⟨b, 2, none⟩ = some (.int .i64 m2)
theorem keepD (hb : Below W.heap.size W W') (h : D5 x b m0 m1 m2 p q W) : D5 x b m0 m1 m2 p q W' :=
  ⟨cell_below hb h.1, cell_below hb h.2.1, cell_below hb h.2.2.1, cell_below hb h.2.2.2.1, cell_below hb h.2.2.2.2⟩
theorem keepDa (h : D5 x b m0 m1 m2 p q W) : D5 x b m0 m1 m2 p q (W.alloc o) := keepD (below_alloc (Below.refl _ _) o) h
theorem keepDc (hx : x.block < W.heap.size) (hb : b < W.heap.size) (h : D5 x b m0 m1 m2 p q (W.alloc o)) : D5 x b m0 m1 m2 p q (W.alloc o') := by
  have e : ∀ a : Addr, a.block < W.heap.size → (W.alloc o').cell? a = (W.alloc o).cell? a := fun a ha => (alloc_cell ha).trans (alloc_cell ha).symm
  exact ⟨(e x hx).trans h.1, (e ⟨x.block, x.off + 1, none⟩ hx).trans h.2.1, (e ⟨b, 0, none⟩ hb).trans h.2.2.1, (e ⟨b, 1, none⟩ hb).trans h.2.2.2.1, (e ⟨b, 2, none⟩ hb).trans h.2.2.2.2⟩
theorem keepDd (hx : x.block < g) (hb : b < g) (h : D5 x b m0 m1 m2 p q W) : D5 x b m0 m1 m2 p q ((W.setCell ⟨g, 0, none⟩ u).setCell ⟨g, 1, none⟩ v) := by
  have e : ∀ a : Addr, a.block < g → ((W.setCell ⟨g, 0, none⟩ u).setCell ⟨g, 1, none⟩ v).cell? a = W.cell? a := fun a ha => (set_cell (Nat.ne_of_lt ha)).trans (set_cell (Nat.ne_of_lt ha))
  exact ⟨(e x hx).trans h.1, (e ⟨x.block, x.off + 1, none⟩ hx).trans h.2.1, (e ⟨b, 0, none⟩ hb).trans h.2.2.1, (e ⟨b, 1, none⟩ hb).trans h.2.2.2.1, (e ⟨b, 2, none⟩ hb).trans h.2.2.2.2⟩
end
theorem fcells_inv : ∀ (L : List F2) (t : Nat) (u : Value), (fcells L)[t]? = some u → ∃ i x, L[i]? = some x ∧ ((t = i * 2 ∧ u = .int .i64 x.1) ∨ (t = i * 2 + 1 ∧ u = .int .i64 x.2))
  | [], t, u, h => by simp [fcells] at h
  | y :: L, 0, u, h => ⟨0, y, rfl, .inl ⟨rfl, by have : some (Value.int .i64 y.1) = some u := h; exact (Option.some.inj this).symm⟩⟩
  | y :: L, 1, u, h => ⟨0, y, rfl, .inr ⟨rfl, by have : some (Value.int .i64 y.2) = some u := h; exact (Option.some.inj this).symm⟩⟩
  | y :: L, t + 2, u, h => by
    obtain ⟨i, x, hi, hx⟩ := fcells_inv L t u h
    refine ⟨i + 1, x, by simpa using hi, ?_⟩
    rcases hx with ⟨rfl, e⟩ | ⟨rfl, e⟩
    · exact .inl ⟨by omega, e⟩
    · exact .inr ⟨by omega, e⟩
theorem FRow.news {W : World} {g : Nat} {O : List F2} (h : FRow W g O) (j : Nat) : ∀ t u, (fcells (O.drop j))[t]? = some u → W.cell? ((⟨g, j * 2, none⟩ : Addr).add t) = some u := by
  intro t u hu
  obtain ⟨i, x, hi, hx⟩ := fcells_inv _ t u hu
  rw [List.getElem?_drop] at hi
  obtain ⟨c0, c1⟩ := h.cell hi
  rw [add_at]
  rcases hx with ⟨rfl, rfl⟩ | ⟨rfl, rfl⟩
  · rw [show j * 2 + i * 2 = (j + i) * 2 by omega]; exact c0
  · rw [show j * 2 + (i * 2 + 1) = (j + i) * 2 + 1 by omega]; exact c1
theorem FRow.news0 {W : World} {g : Nat} {O : List F2} (h : FRow W g O) : ∀ t u, (fcells O)[t]? = some u → W.cell? ((⟨g, 0, none⟩ : Addr).add t) = some u := by
  have := h.news 0
  simpa using this
theorem slice_if (c j : Nat) (x y : Addr) (n m : Nat) : Value.slice (if c = j then some x else some y) n m = .slice (some (if c = j then x else y)) n m := by split <;> rfl
theorem FRow.news_if {W : World} {g : Nat} {O : List F2} (h : FRow W g O) (j c : Nat) (hc : O.length ≤ c) : ∀ t u, (fcells (O.drop j))[t]? = some u → W.cell? ((if c = j then (⟨g, 0, none⟩ : Addr) else ⟨g, j * 2, none⟩).add t) = some u := by
  intro t u hu
  by_cases hcj : c = j
  · rw [List.drop_eq_nil_of_le (by omega)] at hu
    simp [fcells] at hu
  · rw [if_neg hcj]; exact h.news j t u hu
theorem fcells_one (L : List F2) : ∀ u ∈ fcells L, u.oneCell' = true := by
  intro u hu
  obtain ⟨t, ht⟩ := List.getElem?_of_mem hu
  obtain ⟨i, x, _, ⟨_, rfl⟩ | ⟨_, rfl⟩⟩ := fcells_inv L t u ht <;> rfl
theorem own_single {W : World} {B base : Nat} {x : F2} (h : W.heap[B]? = some (.cells #[.int .i64 x.1, .int .i64 x.2] 26 (0, 0))) (hb : base ≤ B) : W.ownsRow base 26 2 (.slice (some ⟨B, 0, none⟩) 1 1) 1 (fcells [x]) :=
  ⟨rfl, .inr ⟨B, 1, _, rfl, hb, h, Nat.le_refl _, by unfold maxLen; omega, rfl, rfl⟩⟩
theorem FRow.grown {W W' : World} {g : Nat} {L : List F2} {row : Option Nat} (h : FRow W g L) (hg : W.grownBy W' row) (hne : row ≠ some g) : FRow W' g L :=
  h.same (hg.block g h.lt (fun e => hne e.symm))
theorem step_append_any {P : Program} (w : World) {ops : Array Oper} {o : Oper} {a : Act} {K : Act → World → Prop} {Q : Exit → Act → World → Prop} {E : Prop} (hgd : o.guard = none) (s x : Operand) (t : TypeId)
    (ho : o.op = .call { callee := .builtin .append, args := #[s, x], argTypes := #[t, t] })
    (base : Nat) (e : TypeId) (i : TypeInfo) (z : Value) (size bytes : Nat) (ht : P.underlying t = some (.slice e)) (hi : P.info? e = some i) (hz : i.zero = some z)
    (hsize : i.size = size) (hby : i.bytes = bytes) (hzs : z.cells.size = size) (hsz : 0 < size)
    (v : Value) (n : Nat) (xs : List Value) (hs : a.eval s = v) (hown : w.ownsRow base e size v n xs)
    (ad : Addr) (m c : Nat) (news : List Value) (hx : a.eval x = .slice (some ad) m c) (hl : news.length = m * size) (hnews : ∀ j u, news[j]? = some u → w.cell? (ad.add j) = some u) (h1 : ∀ u ∈ news, u.oneCell' = true)
    (h63 : n + m ≤ maxLen) (hbytes : (n + m) * bytes ≤ 140737488355328) (hbase : base ≤ w.heap.size)
    (h : ∀ v' w', w'.ownsRow base e size v' (n + m) (xs ++ news) → w.grownBy w' v.ownBlock → (v' = .slice none 0 0 ↔ v = .slice none 0 0 ∧ m = 0) → K (a.put o.dst v') w') :
    if Region.wanted o (yielded ops a.tmps) = true then Oper.wp P o a w K Q else E := by
  have hw : Region.wanted o (yielded ops a.tmps) = true := by simp [Region.wanted, hgd]
  rw [if_pos hw]
  obtain ⟨v', w', hr, h2, h3, h4, _⟩ := run_append_own_at (P := P) w base t o.type e i z size bytes ht hi hz hsize hby hzs hsz v n xs hown ad m c news hl hnews h1 h63 hbytes hbase
  unfold Oper.wp execOp
  simp only [ho, resolve, invoke, builtin, Sem.run_bind, Sem.run_pure, Result.andThen_ok, List.map_toArray, List.map_cons, List.map_nil, hs, hx, hr]
  exact h v' w' h2 h3 h4
section
variable {gx g : Nat} {x : F2} {O : List F2} {W W' : World} {o : Obj} {row : Option Nat}
theorem keepX (hb : Below W.heap.size W W') (h : W.cell? ⟨gx, 0, none⟩ = some (.int .i64 x.1) ∧ W.cell? ⟨gx, 1, none⟩ = some (.int .i64 x.2) ∧ FRow W g O) : W'.cell? ⟨gx, 0, none⟩ = some (.int .i64 x.1) ∧ W'.cell? ⟨gx, 1, none⟩ = some (.int .i64 x.2) ∧ FRow W' g O :=
  ⟨cell_below hb h.1, cell_below hb h.2.1, h.2.2.below hb⟩
theorem keepXa (h : W.cell? ⟨gx, 0, none⟩ = some (.int .i64 x.1) ∧ W.cell? ⟨gx, 1, none⟩ = some (.int .i64 x.2) ∧ FRow W g O) : (W.alloc o).cell? ⟨gx, 0, none⟩ = some (.int .i64 x.1) ∧ (W.alloc o).cell? ⟨gx, 1, none⟩ = some (.int .i64 x.2) ∧ FRow (W.alloc o) g O :=
  keepX (below_alloc (Below.refl _ _) o) h
theorem keepXg (hg : W.grownBy W' row) (h1 : row ≠ some gx) (h2 : row ≠ some g) (h : W.cell? ⟨gx, 0, none⟩ = some (.int .i64 x.1) ∧ W.cell? ⟨gx, 1, none⟩ = some (.int .i64 x.2) ∧ FRow W g O) : W'.cell? ⟨gx, 0, none⟩ = some (.int .i64 x.1) ∧ W'.cell? ⟨gx, 1, none⟩ = some (.int .i64 x.2) ∧ FRow W' g O :=
  ⟨hg.cell h.1 (fun e => h1 e.symm), hg.cell h.2.1 (fun e => h1 e.symm), h.2.2.grown hg h2⟩
end
def SpecImg (w : World) (L : List F2) (vf : F2 → F2) (e : Ending) (w' : World) : Prop :=
  (((∀ x ∈ L, Fits (vf x).1 (vf x).2) ∧ ∃ g c R, e = .returned (.tuple #[.slice (some ⟨g, 0, none⟩) R.length c, .bool true]) ∧ w.heap.size ≤ g ∧ FRow w' g R ∧ Asc R ∧ (∀ x, x ∈ R ↔ x ∈ L.map vf) ∧ R.length ≤ L.length) ∨
    (¬ (∀ x ∈ L, Fits (vf x).1 (vf x).2) ∧ e = .returned (.tuple #[.slice none 0 0, .bool false]))) ∧ Below w.heap.size w w'
set_option maxHeartbeats 4000000 in
set_option maxRecDepth 100000 in
theorem spec_image_any (w : World) (m0 m1 m2 : Int) (ao : Option Addr) (L : List F2) (n cap : Nat) (vf : F2 → F2) (hm : Mv m0 m1 m2) (hn : n = L.length) (hcap : n ≤ 12) (hf : ∀ x ∈ L, FR x)
    (hvf : ∀ x ∈ L, IsVal m0 m1 m2 x.1 x.2 (vf x).1 (vf x).2) (h : FLst w ao L) :
    Calls Try.prog 80 #[.agg #[.int .i64 m0, .int .i64 m1, .int .i64 m2], .slice ao n cap] w (SpecImg w L vf) := by
  have hu26 := Try.underlying26
  have hu49 := Try.underlying49
  obtain ⟨i0, hi, hz0, hz1, hz2⟩ := info_parts info26
  have HL := Lib.hid h
  have HN := Lib.hid hn
  have HF := Lib.hid hf
  have HV := Lib.hid hvf
  have HX0 := Lib.hid (B1.start w (.cells #[.int .i64 m0, .int .i64 m1, .int .i64 m2] 29))
  have HI := Lib.hid hi
  have HM0 := Lib.hid hm
  clear h hn hf hvf hi hm
  go_enter Try.func80, Try.ntmps80
  go_wp2
  go_loopw [6, 7] (fun v i wr => ∃ (k : Nat) (O : List F2), i = .int .i64 k ∧ k ≤ n ∧ Asc O ∧ O.length ≤ k ∧ (∀ x, x ∈ O ↔ x ∈ (L.take k).map vf) ∧ (∀ (j : Nat) (x : F2), j < k → L[j]? = some x → Fits (vf x).1 (vf x).2) ∧ FOwn wr (w.heap.size + 1) v O ∧ v ≠ .slice none 0 0 ∧ B1 w wr (.cells #[.int .i64 m0, .int .i64 m1, .int .i64 m2] 29)) (fun _ i _ => n - (intOf i).toNat)
  case atStart =>
    refine ⟨0, [], rfl, Nat.zero_le _, ⟨fun x h => by simp at h, List.Pairwise.nil⟩, Nat.le_refl _, fun x => by simp, fun j x h => absurd h (Nat.not_lt_zero _), ?_, by simp, HX0.out.below (below_alloc (Below.refl _ _) _)⟩
    have := World.ownsRow_made (base := w.heap.size + 1) (e := 26) (size := 2) (w.alloc (.cells #[.int .i64 m0, .int .i64 m1, .int .i64 m2] 29)) #[] 0 (by simp) (by unfold maxLen; omega) (by simp)
    simpa [FOwn, fcells] using this
  case round =>
    clear HX0
    obtain ⟨k, O, rfl, hk, hasc, hol, hmem, hfit, hown, hne, hx⟩ := hrel
    have HO := Lib.hid hown
    have HX := Lib.hid hx
    have HT := Lib.hid hfit
    have HE := Lib.hid hne
    have HA := Lib.hid hasc
    have HMm := Lib.hid hmem
    clear hown hx hfit hne hasc hmem
    by_cases hlt : k < n
    · obtain ⟨m, hmk⟩ : ∃ m, L[k]? = some m := ⟨L[k]'(by rw [← HN.out]; exact hlt), by simp⟩
      obtain ⟨a, rfl, hab, c0, c1⟩ := (HL.out.below HX.out.bel) k m hmk
      have hk1 : (0 : Int) ≤ (k : Int) := by omega
      have hk2 : (k : Int) < (n : Int) := by omega
      have b0 := blk_cell HX.out.b1 0
      have b1 := blk_cell HX.out.b1 1
      have b2 := blk_cell HX.out.b1 2
      simp only [List.getElem?_toArray, List.getElem?_cons_zero, List.getElem?_cons_succ] at b0 b1 b2
      have hsz := HX.out.siz
      have l0 : w.heap.size < wr.heap.size := by omega
      have hme := List.mem_of_getElem? hmk
      obtain ⟨s1, s2, s3, ht, hcall⟩ := Low.at_any m0 m1 m2 m.1 m.2 _ _ HM0.out (HF.out m hme) (HV.out m hme)
      have C3 := Lib.hid hcall
      have HTo := Lib.hid ht
      have HM := Lib.hid hmk
      have hxb : (a.add (k * 2)).block < wr.heap.size := by rw [add_block]; exact hab
      clear ht hmk hme hcall
      go_upto_region 5 with (fail)
      go_cut [8, 9] (fun v8 v9 wc => ∃ g : Nat, v8 = .pointer (some ⟨g, 0, none⟩) ∧ v9 = .bool s3 ∧ NB wr s1 s2 g wc)
      case first =>
        have z0 : w.heap.size + 1 ≤ wr.drew.heap.size := hsz
        have hxd : (a.add (k * 2)).block < wr.drew.heap.size := hxb
        go_region_held3 (fun W' => W'.cell? (a.add (k * 2)) = some (.int .i64 m.1) ∧ W'.cell? ⟨(a.add (k * 2)).block, (a.add (k * 2)).off + 1, none⟩ = some (.int .i64 m.2) ∧ W'.cell? ⟨w.heap.size, 0, none⟩ = some (.int .i64 m0) ∧ W'.cell? ⟨w.heap.size, 1, none⟩ = some (.int .i64 m1) ∧ W'.cell? ⟨w.heap.size, 2, none⟩ = some (.int .i64 m2))
          (first | (go_keep; done) | (apply keepD; (case hb => assumption); (case h => assumption)) | (apply keepDa; assumption) | (apply keepDc; (case hx => first | assumption | omega); (case hb => omega); (case h => assumption)) | (apply keepDd; (case hx => first | assumption | omega); (case hb => omega); (case h => assumption)))
          ((first
            | (go_at_call 67; refine (C3.out _).mono ?_; rintro e w3 ⟨rfl, hb3⟩; have z3 := hb3.size; have y3 := hb3.size; (try simp at y3); obtain ⟨k3, q3⟩ := bcell hb3; (try simp only [hdrew, World.size_alloc] at k3 q3 y3); (try have u3 : wr.heap.size < w3.heap.size := by omega))))
        · go_wp2
          go_meet
          case rel => exact ⟨_, rfl, rfl, NB.new (below_step (Below.refl _ _).drew hb3) s1 s2⟩
        · go_wp2
          go_meet
          case rel => exact ⟨_, rfl, rfl, ((NB.new (Below.refl _ _) 0 0).drew.below hb3).put s1 s2⟩
      case rest =>
        obtain ⟨W1, rfl⟩ : ∃ W1 : World, W1 = wc := ⟨_, rfl⟩
        obtain ⟨gx, rfl, rfl, hnb⟩ := hcut
        have HX3 := Lib.hid (HX.out.below hnb.2.2)
        have HO3 : Hid (FOwn W1 (w.heap.size + 1) u6 O) := Lib.hid (own_below HO.out hnb.2.2)
        have hgg : wr.heap.size ≤ gx := hnb.2.1
        have HB3 := Lib.hid hnb
        clear hnb c0 c1 b0 b1 b2 HX HO
        by_cases hf : Fits (vf m).1 (vf m).2
        · have hs := HTo.out.1 hf
          simp only [Prod.mk.injEq] at hs
          obtain ⟨rfl, rfl, rfl⟩ := hs
          clear HTo
          have hFx : FR (vf m) := FracMath.fr_of_val (HV.out m (List.mem_of_getElem? HM.out)) hf
          have HFx := Lib.hid hFx
          obtain ⟨g, c, hv6⟩ := HO3.out.shape HE.out
          have hO3 := HO3.out
          rw [hv6] at hO3
          obtain ⟨hrow, hg, -, hlc, hcm⟩ := hO3.row
          unfold maxLen at hcm
          obtain ⟨nO, hnO⟩ : ∃ q, q = O.length := ⟨_, rfl⟩
          rw [← hnO] at hv6 hlc hO3 hol
          have HnO := Lib.hid hnO
          have HO4 := Lib.hid hO3
          have HR3 := Lib.hid hrow
          have hgl : g < W1.heap.size := hrow.lt
          have hgxl : gx < W1.heap.size := blk_lt HB3.out.1
          clear hO3 hrow hFx hnO HO3 HE
          subst hv6
          go_upto_block 2 with (fail)
          go_cut [10] (fun v10 wl => ∃ j : Nat, v10 = .int .i64 j ∧ j ≤ nO ∧ (∀ (i : Nat) (y : F2), i < j → O[i]? = some y → Lt y (vf m)) ∧ (∀ y, O[j]? = some y → ¬ Lt y (vf m)) ∧ Below W1.heap.size W1 wl)
          case first =>
            go_wp2_with fail
            go_loopw [10] (fun i wl => ∃ j : Nat, i = .int .i64 j ∧ j ≤ nO ∧ (∀ (i : Nat) (y : F2), i < j → O[i]? = some y → Lt y (vf m)) ∧ Below W1.heap.size W1 wl) (fun i _ => nO - (intOf i).toNat)
            case atStart => exact ⟨0, rfl, Nat.zero_le _, fun i y h => absurd h (Nat.not_lt_zero _), Below.refl _ _⟩
            case round =>
              obtain ⟨j, rfl, hj, hlow, hbel⟩ := hrel
              have HLw := Lib.hid hlow
              have HB := Lib.hid hbel
              clear hlow hbel
              by_cases hlj : j < nO
              · obtain ⟨y, hy⟩ : ∃ y, O[j]? = some y := ⟨O[j]'(by rw [← HnO.out]; exact hlj), by simp⟩
                obtain ⟨c0, c1⟩ := (HR3.out.below HB.out).cell hy
                obtain ⟨hb3, -, -⟩ := HB3.out.below HB.out
                have b0 := blk_cell hb3 0
                have b1 := blk_cell hb3 1
                simp only [List.getElem?_toArray, List.getElem?_cons_zero, List.getElem?_cons_succ] at b0 b1
                have fy : FR y := HA.out.1 y (List.mem_of_getElem? hy)
                have fx := HFx.out
                have C92 := Lib.hid (fun W => spec_compare_any y.1 y.2 (vf m).1 (vf m).2 W ⟨fy.1, fy.2.1, fy.2.2.1, fy.2.2.2.1⟩ ⟨fx.1, fx.2.1, fx.2.2.1, fx.2.2.2.1⟩)
                have HY := Lib.hid hy
                have hj1 : (0 : Int) ≤ (j : Int) := by omega
                have hj2 : (j : Int) < (nO : Int) := by omega
                have hg' : decide ((j : Int) < (nO : Int)) = true := decide_eq_true (by omega)
                have z1 := add_at g 0 (j * 2)
                rw [Nat.zero_add] at z1
                clear hy hb3 fy fx
                go_wp2_with fail
                go_region_held3 (fun W' => W'.cell? ⟨g, j * 2, none⟩ = some (.int .i64 y.1) ∧ W'.cell? ⟨g, j * 2 + 1, none⟩ = some (.int .i64 y.2) ∧ W'.cell? ⟨gx, 0, none⟩ = some (.int .i64 (vf m).1) ∧ W'.cell? ⟨gx, 1, none⟩ = some (.int .i64 (vf m).2))
                  (first | (go_keep; done) | (apply keep4; (case hb => assumption); (case h => assumption)))
                  ((first | (go_at_call 92; refine (C92.out _).mono ?_; rintro e w5 ⟨rfl, hb5⟩)))
                have HB5 := Lib.hid (below_step HB.out.drew hb5)
                by_cases hc : cmpF (y.1, y.2) ((vf m).1, (vf m).2) < 0
                · rw [decide_eq_true hc]
                  go_wp2_with fail
                  go_roundw
                  case rel =>
                    refine ⟨j + 1, by go_num, by omega, fun i z hi hz => ?_, HB5.out⟩
                    by_cases hij : i < j
                    · exact HLw.out i z hij hz
                    · obtain rfl : i = j := by omega
                      rw [HY.out] at hz
                      obtain rfl := Option.some.inj hz
                      exact hc
                  case measure => simp [intOf]; omega
                · rw [decide_eq_false hc]
                  go_wp2_with fail
                  go_meet
                  case rel => exact ⟨j, rfl, hj, HLw.out, fun z hz => by rw [HY.out] at hz; obtain rfl := Option.some.inj hz; exact Int.not_lt.2 hc, HB5.out⟩
              · have hg' : decide ((j : Int) < (nO : Int)) = false := decide_eq_false (by omega)
                go_wp2_with fail
                go_quiet (fail)
                go_wp2_with fail
                go_meet
                case rel => exact ⟨j, rfl, hj, HLw.out, fun z hz => by have := (List.getElem?_eq_some_iff.1 hz).1; have := HnO.out; omega, below_drewN HB.out _⟩
          case rest =>
            obtain ⟨W2, rfl⟩ : ∃ W2 : World, W2 = wc := ⟨_, rfl⟩
            obtain ⟨j, rfl, hj, hlow, hat, hbel⟩ := hcut
            have HLw := Lib.hid hlow
            have HAt := Lib.hid hat
            have HB := Lib.hid hbel
            clear hlow hat hbel
            go_upto_region 11 with (fail)
            go_cut [56] (fun v56 wx => ∃ b : Bool, v56 = .bool b ∧ (b = true → ∀ y, O[j]? = some y → y ≠ vf m) ∧ (b = false → O[j]? = some (vf m)) ∧ Below W1.heap.size W1 wx)
            case first =>
              by_cases hlj : j < nO
              · obtain ⟨y, hy⟩ : ∃ y, O[j]? = some y := ⟨O[j]'(by rw [← HnO.out]; exact hlj), by simp⟩
                obtain ⟨c0, c1⟩ := (HR3.out.below HB.out).cell hy
                obtain ⟨hb3, -, -⟩ := HB3.out.below HB.out
                have b0 := blk_cell hb3 0
                have b1 := blk_cell hb3 1
                simp only [List.getElem?_toArray, List.getElem?_cons_zero, List.getElem?_cons_succ] at b0 b1
                have hj1 : (0 : Int) ≤ (j : Int) := by omega
                have hj2 : (j : Int) < (nO : Int) := by omega
                have hg1 : ((j : Int) == (nO : Int)) = false := by simp; omega
                have z1 := add_at g 0 (j * 2)
                rw [Nat.zero_add] at z1
                have HY := Lib.hid hy
                clear hb3 hy
                by_cases hyx : y = vf m
                · have e1 : ((vf m).1 != (vf m).1 || (vf m).2 != (vf m).2) = false := by simp
                  subst hyx
                  go_quiet (fail)
                  go_wp2_with fail
                  go_meet
                  case rel => exact ⟨_, rfl, fun h => by simp at h, fun _ => HY.out, below_drewN HB.out _⟩
                · have e1 : (y.1 == (vf m).1) = false ∨ ((y.1 == (vf m).1) = true ∧ (y.2 == (vf m).2) = false) := by
                    by_cases h1 : y.1 = (vf m).1
                    · right; exact ⟨by simpa using h1, by simp; intro h2; exact hyx (Prod.ext h1 h2)⟩
                    · left; simpa using h1
                  have HNe := Lib.hid hyx
                  clear hyx
                  rcases e1 with e1 | ⟨e1, e2⟩
                  all_goals
                    go_quiet (fail)
                    go_wp2_with fail
                    go_meet
                    case rel => exact ⟨_, rfl, fun _ z hz => by rw [HY.out] at hz; obtain rfl := Option.some.inj hz; exact HNe.out, fun h => by simp at h, below_drewN HB.out _⟩
              · obtain rfl : j = nO := by omega
                have hg1 : ((j : Int) == (j : Int)) = true := by simp
                go_quiet (fail)
                go_wp2_with fail
                go_meet
                case rel => exact ⟨_, rfl, fun _ z hz => by have := (List.getElem?_eq_some_iff.1 hz).1; have := HnO.out; omega, fun h => by simp at h, below_drewN HB.out _⟩
            case rest =>
              obtain ⟨W3, rfl⟩ : ∃ W3 : World, W3 = wc := ⟨_, rfl⟩
              obtain ⟨bb, rfl, htrue, hfalse, hbel⟩ := hcut
              have htk : (L.take (k + 1)).map vf = (L.take k).map vf ++ [vf m] := by
                obtain ⟨h1, h2⟩ := List.getElem?_eq_some_iff.1 HM.out
                rw [List.take_succ_eq_append_getElem h1, h2]; simp
              have HTk := Lib.hid htk
              have HTe := Lib.hid htrue
              have HFa := Lib.hid hfalse
              have HB := Lib.hid hbel
              have HT2 : Hid (∀ (j : Nat) (x : F2), j < k + 1 → L[j]? = some x → Fits (vf x).1 (vf x).2) := Lib.hid fun i x hi hx => by
                by_cases hik : i < k
                · exact HT.out i x hik hx
                · obtain rfl : i = k := by omega
                  rw [HM.out] at hx
                  obtain rfl := Option.some.inj hx
                  exact hf
              clear htk htrue hfalse hbel
              cases bb with
              | false =>
                go_wp2_with fail
                go_roundw
                case rel =>
                  refine ⟨k + 1, O, by go_num, by omega, HA.out, by have := HnO.out; omega, fun x => ?_, HT2.out, own_below HO4.out HB.out, by simp, HX3.out.below HB.out⟩
                  rw [HTk.out, List.mem_append, ← HMm.out x]
                  constructor
                  · exact fun h => .inl h
                  · rintro (h | h)
                    · exact h
                    · rw [List.mem_singleton.1 h]; exact List.mem_of_getElem? (HFa.out rfl)
                case measure => simp [intOf]; omega
              | true =>
                obtain ⟨hb3, -, -⟩ := HB3.out.below HB.out
                have b0 := blk_cell hb3 0
                have b1 := blk_cell hb3 1
                simp only [List.getElem?_toArray, List.getElem?_cons_zero, List.getElem?_cons_succ] at b0 b1
                have hrow := HR3.out.below HB.out
                have hW3 := HB.out.size
                have hgl3 := hrow.lt
                have hgx3 := blk_lt hb3
                have hj1 : (0 : Int) ≤ (j : Int) := by omega
                have hj2 : (j : Int) ≤ (nO : Int) := by omega
                have hj3 : (nO : Int) ≤ (c : Int) := by omega
                have hj4 : (j : Int) ≤ (c : Int) := by omega
                have hj5 : j ≤ c := by omega
                have z1 := add_at g 0 (j * 2)
                rw [Nat.zero_add] at z1
                have hdl : (fcells (O.drop j)).length = (nO - j) * 2 := by rw [fcells_len, List.length_drop, ← HnO.out]
                have HDl := Lib.hid hdl
                have hbB : w.heap.size + 1 ≤ W3.heap.size := by have := HX3.out.siz; omega
                clear hb3 hdl
                have hOc : O.length ≤ c := by rw [← HnO.out]; exact hlc
                have HOc := Lib.hid hOc
                clear hOc
                go_wp2_with fail
                go_region_held3 (fun W' => W'.cell? ⟨gx, 0, none⟩ = some (.int .i64 (vf m).1) ∧ W'.cell? ⟨gx, 1, none⟩ = some (.int .i64 (vf m).2) ∧ FRow W' g O)
                  (first | (go_keep; done) | (exact ⟨b0, b1, hrow.drew⟩) | (apply keepX; (case hb => assumption); (case h => assumption)) | (apply keepXa; assumption) | (exact keepXg hgrow (by simp [Value.ownBlock]; omega) (by simp [Value.ownBlock]; omega) (by assumption)))
                  ((refine step_append_any _ (by rfl) (.tmp 58) (.tmp 61) 49 (by rfl) (w.heap.size + 1) 26 i0 (.agg #[.int .i64 0, .int .i64 0]) 2 16 hu49 HI.out hz0 hz1 hz2 rfl (by decide) (.slice (some ⟨W3.heap.size, 0, none⟩) 1 1) 1 (fcells [vf m]) (by rfl) (own_single (heap_alloc_new _ _) hbB) (if c = j then ⟨g, 0, none⟩ else ⟨g, j * 2, none⟩) (nO - j) (c - j) (fcells (O.drop j)) (slice_if c j ⟨g, 0, none⟩ ⟨g, j * 2, none⟩ (nO - j) (c - j)) HDl.out ((FRow.below (hrow) (below_alloc (Below.refl _ _) _)).news_if j c HOc.out) (fcells_one _) (by unfold maxLen; omega) (by omega) (by simp; omega) ?_; intro v' w6 ho hgrow hnil))
                have hv' : v' ≠ .slice none 0 0 := fun e => by have := hnil.1 e; simp at this
                have hD : (vf m :: O.drop j).length = 1 + (nO - j) := by rw [List.length_cons, List.length_drop, ← HnO.out]; omega
                have ho6 : FOwn w6 (w.heap.size + 1) v' (vf m :: O.drop j) := by unfold FOwn; rw [hD]; exact ho
                obtain ⟨g6, c6, hv6⟩ := ho6.shape hv'
                rw [hD] at hv6
                subst hv6
                obtain ⟨hrow6, hg6, -, -, -⟩ := ho6.row
                have hg6l := hrow6.lt
                have hs6 : W3.heap.size + 1 ≤ w6.heap.size := by simpa using hgrow.size
                have hgr6 : FRow w6 g O := (FRow.below hrow (below_alloc (Below.refl _ _) _)).drew.grown hgrow (by simp [Value.ownBlock]; omega)
                have HX6 := Lib.hid (B1.grown ((HX3.out.below HB.out).below (below_alloc (Below.refl _ _) _).drew) hgrow (fun k hk => by simp [Value.ownBlock] at hk; omega))
                have HR6 := Lib.hid hrow6
                have HG6 := Lib.hid hgr6
                have HD6 := Lib.hid hD
                have hmade := World.ownsRow_made (base := w.heap.size + 1) (e := 26) (size := 2) w6 #[] 0 (by omega) (by unfold maxLen; omega) (by simp)
                have HMade := Lib.hid hmade
                have htl : (fcells (O.take j)).length = j * 2 := by rw [fcells_len, List.length_take, ← HnO.out]; congr 1; omega
                have HTl := Lib.hid htl
                have hn7 : ∀ t u, (fcells (O.take j))[t]? = some u → (w6.alloc (.cells #[] 26)).cell? ((⟨g, 0, none⟩ : Addr).add t) = some u := (FRow.sub (FRow.below hgr6 (below_alloc (Below.refl _ _) _)) (fun i x hi => by
                  rw [List.getElem?_take] at hi
                  split at hi
                  · exact hi
                  · simp at hi)).news0
                have HN7 := Lib.hid hn7
                clear hv' hD ho6 hrow6 hgr6 hmade htl hn7 ho hgrow hnil hrow b0 b1 HB3 HR3 HO4
                go_wp2_with (at_builtin; refine wpList_append_own _ rfl (.tmp 63) (.tmp 66) 49 rfl (w.heap.size + 1) 26 i0 (.agg #[.int .i64 0, .int .i64 0]) 2 16 hu49 HI.out hz0 hz1 hz2 rfl (by decide) (.slice (some ⟨w6.heap.size, 0, none⟩) 0 0) 0 [] rfl HMade.out ⟨g, 0, none⟩ j c (fcells (O.take j)) rfl HTl.out HN7.out (fcells_one _) (by unfold maxLen; omega) (by omega) (by simp; omega) ?_)
                all_goals
                  intro v7 w7 ho7 hgr7 hnil7
                  try rw [List.nil_append] at ho7
                  have ho7' : FOwn w7 (w.heap.size + 1) v7 (O.take j) := by unfold FOwn; rw [show (O.take j).length = j by rw [List.length_take, ← HnO.out]; omega]; simpa using ho7
                  have hs7 : w6.heap.size + 1 ≤ w7.heap.size := by simpa using hgr7.size
                  have hr7 : FRow w7 g6 (vf m :: O.drop j) := (FRow.below HR6.out (below_alloc (Below.refl _ _) _)).grown hgr7 (by simp only [Value.ownBlock, ne_eq, Option.some.injEq]; omega)
                  have HX7 := Lib.hid (B1.grown (HX6.out.below (below_alloc (Below.refl _ _) _)) hgr7 (fun k hk => by simp [Value.ownBlock] at hk; omega))
                  have hv7 : v7 ≠ .slice none 0 0 := by simpa using hnil7
                  have HO7 := Lib.hid ho7'
                  have HN8 := Lib.hid hr7.news0
                  have hl8 : (fcells (vf m :: O.drop j)).length = (1 + (nO - j)) * 2 := by rw [fcells_len, HD6.out]
                  have HL8 := Lib.hid hl8
                  have HV7 := Lib.hid hv7
                  have htj : (O.take j).length = j := by rw [List.length_take, ← HnO.out]; omega
                  have HTj := Lib.hid htj
                  clear ho7 ho7' hgr7 hnil7 hr7 hv7 hl8 htj
                  go_wp2_with (at_builtin; refine wpList_append_own _ rfl (.tmp 67) (.tmp 68) 49 rfl (w.heap.size + 1) 26 i0 (.agg #[.int .i64 0, .int .i64 0]) 2 16 hu49 HI.out hz0 hz1 hz2 rfl (by decide) v7 (O.take j).length (fcells (O.take j)) rfl HO7.out ⟨g6, 0, none⟩ (1 + (nO - j)) c6 (fcells (vf m :: O.drop j)) rfl HL8.out HN8.out (fcells_one _) (by rw [HTj.out]; unfold maxLen; omega) (by rw [HTj.out]; omega) (by omega) ?_)
                  intro v8 w8 ho8 hgr8 hnil8
                  rw [fcells_append] at ho8
                  have ho8' : FOwn w8 (w.heap.size + 1) v8 (O.take j ++ vf m :: O.drop j) := by unfold FOwn; rw [List.length_append, HD6.out]; simpa only [List.length_take] using ho8
                  have HO8 := Lib.hid ho8'
                  have HV8 : Hid (v8 ≠ .slice none 0 0) := Lib.hid fun e => HV7.out (by first | exact (hnil8.1 e).1 | exact absurd e hnil8 | exact (hnil8 e).elim)
                  have HX8 := Lib.hid (B1.grown HX7.out hgr8 (fun k hk => own_base HO7.out k hk))
                  clear ho8 ho8' hgr8 hnil8
                  go_wp2
                  go_roundw
                  case rel =>
                    refine ⟨k + 1, O.take j ++ vf m :: O.drop j, by go_num, by omega, ins_asc HA.out HFx.out j (by rw [← HnO.out]; exact hj) HLw.out (fun y hy => ⟨HAt.out y hy, HTe.out trivial y hy⟩), ?_, fun x => ?_, HT2.out, HO8.out, HV8.out, HX8.out⟩
                    · rw [List.length_append, HTj.out, HD6.out]; omega
                    · rw [ins_mem, HTk.out, List.mem_append, ← HMm.out x, List.mem_singleton]
                  case measure => simp [intOf]; omega
        · have hs := HTo.out.2 hf
          obtain rfl : s3 = false := hs
          clear HTo
          go_wp2
          go_ret2
          exact ⟨.inr ⟨fun hall => hf (hall m (List.mem_of_getElem? HM.out)), rfl⟩, HX3.out.bel⟩
    · obtain rfl : k = n := by omega
      have hall : ∀ x ∈ L, Fits (vf x).1 (vf x).2 := fun x hx => by
        obtain ⟨i, hi⟩ := List.getElem?_of_mem hx
        exact HT.out i x (by rw [HN.out]; exact (List.getElem?_eq_some_iff.1 hi).1) hi
      have hmm := HMm.out
      rw [List.take_of_length_le (by have := HN.out; omega)] at hmm
      obtain ⟨g, c, rfl⟩ := HO.out.shape HE.out
      obtain ⟨hrow, hg, _, hlc, hcm⟩ := HO.out.row
      have HR := Lib.hid hrow
      have HAl := Lib.hid hall
      have HMM := Lib.hid hmm
      clear hrow hall hmm HMm HT HO
      go_wp2
      go_ret2
      exact ⟨.inl ⟨HAl.out, g, c, O, rfl, by omega, HR.out, HA.out, HMM.out, by have := HN.out; omega⟩, HX.out.bel⟩
end Go.Proofs.Ytaplebckjbbobaa.Fl
end
section
set_option linter.unusedSimpArgs false
namespace Go.Proofs.Ytaplebckjbbobaa.Fl
open Go.RowKit Bs Grd
open FracMath (Fr IsVal Fits Mv)
def Vals (m0 m1 m2 : Int) (vf : F2 → F2) : Prop := Mv m0 m1 m2 → ∀ x, FR x → IsVal m0 m1 m2 x.1 x.2 (vf x).1 (vf x).2
theorem vals_exist (m0 m1 m2 : Int) : ∃ vf, Vals m0 m1 m2 vf := by
  have h : ∀ x : F2, ∃ y : F2, Mv m0 m1 m2 → FR x → IsVal m0 m1 m2 x.1 x.2 y.1 y.2 := by
    intro x
    by_cases hm : Mv m0 m1 m2
    · by_cases hx : FR x
      · obtain ⟨N, D, hv⟩ := FracMath.val_exists m0 m1 m2 x.1 x.2 hm hx
        exact ⟨(N, D), fun _ _ => hv⟩
      · exact ⟨(0, 0), fun _ h => absurd h hx⟩
    · exact ⟨(0, 0), fun h => absurd h hm⟩
  exact ⟨fun x => (h x).choose, fun hm x hx => (h x).choose_spec hm hx⟩
def ImgAns (m0 m1 m2 : Int) (L : List F2) (vf : F2 → F2) (R : List F2) (code : Int) : Prop :=
  ((Mv m0 m1 m2 ∧ SetOk L) ∧ (∀ x ∈ L, Fits (vf x).1 (vf x).2) ∧ Asc R ∧ (∀ x, x ∈ R ↔ x ∈ L.map vf) ∧ R.length ≤ L.length ∧ code = 0) ∨
  ((Mv m0 m1 m2 ∧ SetOk L) ∧ ¬ (∀ x ∈ L, Fits (vf x).1 (vf x).2) ∧ R = [] ∧ code = 3) ∨ (¬ (Mv m0 m1 m2 ∧ SetOk L) ∧ R = [] ∧ code = 1)
theorem imgAns_unique {m0 m1 m2 : Int} {L : List F2} {vf : F2 → F2} {R R' : List F2} {code code' : Int} (h : ImgAns m0 m1 m2 L vf R code) (h' : ImgAns m0 m1 m2 L vf R' code') : R = R' ∧ code = code' := by
  rcases h with ⟨a, b, c, d, _, e⟩ | ⟨a, b, c, d⟩ | ⟨a, b, c⟩
  · rcases h' with ⟨a', b', c', d', _, e'⟩ | ⟨a', b', c', d'⟩ | ⟨a', b', c'⟩
    · exact ⟨asc_unique R R' c c' fun x => (d x).trans (d' x).symm, e.trans e'.symm⟩
    · exact absurd b b'
    · exact absurd a a'
  · rcases h' with ⟨a', b', c', d', _, e'⟩ | ⟨a', b', c', d'⟩ | ⟨a', b', c'⟩
    · exact absurd b' b
    · exact ⟨c.trans c'.symm, d.trans d'.symm⟩
    · exact absurd a a'
  · rcases h' with ⟨a', b', c', d', _, e'⟩ | ⟨a', b', c', d'⟩ | ⟨a', b', c'⟩
    · exact absurd a' a
    · exact absurd a' a
    · exact ⟨b.trans b'.symm, c.trans c'.symm⟩
def FNew (w : World) (w' : World) (ao : Option Addr) (c : Nat) (R : List F2) : Prop := (∃ g, ao = some ⟨g, 0, none⟩ ∧ w.heap.size ≤ g ∧ FRow w' g R) ∨ (ao = none ∧ R = [] ∧ c = 0)
theorem FNew.reads {w w' : World} {ao : Option Addr} {c : Nat} {R : List F2} (h : FNew w w' ao c R) : FLst w' ao R := by
  rcases h with ⟨g, rfl, h2, h3⟩ | ⟨_, rfl, _⟩
  · exact h3.reads
  · intro i m hi; simp at hi
def IRes (w : World) (m0 m1 m2 : Int) (L : List F2) (vf : F2 → F2) (e : Ending) (w' : World) : Prop :=
  ∃ ao c R code, e = .returned (.tuple #[.slice ao R.length c, .int .i64 code]) ∧ ImgAns m0 m1 m2 L vf R code ∧ FNew w w' ao c R ∧ Below w.heap.size w w'
theorem SetOk.fr {L : List F2} (h : SetOk L) : ∀ x ∈ L, FR x := fun x hx => h.1 x hx
set_option maxHeartbeats 2000000 in
set_option maxRecDepth 100000 in
theorem impl_imageOf_any (w : World) (m0 m1 m2 : Int) (ao : Option Addr) (L : List F2) (n cap : Nat) (vf : F2 → F2) (hn : n = L.length) (hcap : n ≤ 1048576) (hvf : Vals m0 m1 m2 vf) (h : FLst w ao L) :
    Calls Try.prog 28 #[.agg #[.int .i64 m0, .int .i64 m1, .int .i64 m2], .slice ao n cap] w (IRes w m0 m1 m2 L vf) := by
  have HX0 := Lib.hid (B1.start w (.cells #[.int .i64 m0, .int .i64 m1, .int .i64 m2] 29))
  have HL := Lib.hid h
  have HN := Lib.hid hn
  have HV := Lib.hid hvf
  have C47 := Lib.hid (fun W => Low.isMove_any m0 m1 m2 W)
  clear h hn hvf
  obtain ⟨r, hr⟩ : ∃ r : Bool, r = true ↔ SetOk L := ⟨@decide (SetOk L) (Classical.propDecidable _), by simp⟩
  have C54 := Lib.hid (fun W (hW : FLst W ao L) => isSet_any W ao L n cap HN.out hcap hW r hr)
  have HR := Lib.hid hr
  clear hr
  go_enter Try.func28, Try.ntmps28
  go_wp2_with fail
  refine (C47.out _).mono ?_
  rintro e w1 ⟨rfl, hb⟩
  have HX1 := Lib.hid (HX0.out.below hb)
  clear hb HX0
  by_cases hm : Mv m0 m1 m2
  · rw [decide_eq_true hm]
    have HM := Lib.hid hm
    clear hm
    go_wp2_with fail
    refine (C54.out _ (HL.out.below HX1.out.bel)).mono ?_
    rintro e w2 ⟨rfl, hb⟩
    have HX2 := Lib.hid (HX1.out.below hb)
    clear hb HX1
    cases r with
    | true =>
      have HS := Lib.hid (HR.out.1 rfl)
      have b0 := blk_cell HX2.out.b1 0
      have b1 := blk_cell HX2.out.b1 1
      have b2 := blk_cell HX2.out.b1 2
      simp only [List.getElem?_toArray, List.getElem?_cons_zero, List.getElem?_cons_succ] at b0 b1 b2
      clear HR C54
      go_wp2_with fail
      refine (image_any _ m0 m1 m2 ao L n cap vf HM.out HN.out (by rw [HN.out]; exact HS.out.2.2) HS.out.fr (fun x hx => HV.out HM.out x (HS.out.fr x hx)) (HL.out.below HX2.out.bel)).mono ?_
      rintro e w3 ⟨hres, hb⟩
      have HB3 := Lib.hid (below_step HX2.out.bel hb)
      have hs2 := HX2.out.bel.size
      rcases hres with ⟨hall, g, c, R, rfl, hg, hrow, hasc, hmem, hlen⟩ | ⟨hnot, rfl⟩
      · have HAns : Hid (ImgAns m0 m1 m2 L vf R 0) := Lib.hid (.inl ⟨⟨HM.out, HS.out⟩, hall, hasc, hmem, hlen, rfl⟩)
        have HRw := Lib.hid hrow
        clear hall hrow hasc hmem hlen hb b0 b1 b2
        go_wp2
        go_ret2
        exact ⟨_, _, R, 0, rfl, HAns.out, .inl ⟨g, rfl, by omega, HRw.out⟩, HB3.out⟩
      · have HAns : Hid (ImgAns m0 m1 m2 L vf [] 3) := Lib.hid (.inr (.inl ⟨⟨HM.out, HS.out⟩, hnot, rfl, rfl⟩))
        clear hnot hb b0 b1 b2
        go_wp2
        go_ret2
        exact ⟨_, _, [], 3, rfl, HAns.out, .inr ⟨rfl, rfl, rfl⟩, HB3.out⟩
    | false =>
      have HAns : Hid (ImgAns m0 m1 m2 L vf [] 1) := Lib.hid (.inr (.inr ⟨fun h => by have := HR.out.2 h.2; simp at this, rfl, rfl⟩))
      clear HR C54
      go_wp2
      go_ret2
      exact ⟨_, _, [], 1, rfl, HAns.out, .inr ⟨rfl, rfl, rfl⟩, HX2.out.bel⟩
  · rw [decide_eq_false hm]
    have HAns : Hid (ImgAns m0 m1 m2 L vf [] 1) := Lib.hid (.inr (.inr ⟨fun h => hm h.1, rfl, rfl⟩))
    clear hm
    go_wp2
    go_ret2
    exact ⟨_, _, [], 1, rfl, HAns.out, .inr ⟨rfl, rfl, rfl⟩, HX1.out.bel⟩
set_option maxHeartbeats 2000000 in
set_option maxRecDepth 100000 in
theorem spec_imageOf_any (w : World) (m0 m1 m2 : Int) (ao : Option Addr) (L : List F2) (n cap : Nat) (vf : F2 → F2) (hn : n = L.length) (hcap : n ≤ 1048576) (hvf : Vals m0 m1 m2 vf) (h : FLst w ao L) :
    Calls Try.prog 26 #[.agg #[.int .i64 m0, .int .i64 m1, .int .i64 m2], .slice ao n cap] w (IRes w m0 m1 m2 L vf) := by
  have HX0 := Lib.hid (B1.start w (.cells #[.int .i64 m0, .int .i64 m1, .int .i64 m2] 29))
  have HL := Lib.hid h
  have HN := Lib.hid hn
  have HV := Lib.hid hvf
  have C65 := Lib.hid (fun W => Low.spec_move_any m0 m1 m2 W)
  clear h hn hvf
  obtain ⟨r, hr⟩ : ∃ r : Bool, r = true ↔ SetOk L := ⟨@decide (SetOk L) (Classical.propDecidable _), by simp⟩
  have C79 := Lib.hid (fun W (hW : FLst W ao L) => l10Set_any W ao L n cap HN.out hcap hW r hr)
  have HR := Lib.hid hr
  clear hr
  go_enter Try.func26, Try.ntmps26
  go_wp2_with fail
  refine (C65.out _).mono ?_
  rintro e w1 ⟨rfl, hb⟩
  have HX1 := Lib.hid (HX0.out.below hb)
  clear hb HX0
  by_cases hm : Mv m0 m1 m2
  · rw [decide_eq_true hm]
    have HM := Lib.hid hm
    clear hm
    go_wp2_with fail
    refine (C79.out _ (HL.out.below HX1.out.bel)).mono ?_
    rintro e w2 ⟨rfl, hb⟩
    have HX2 := Lib.hid (HX1.out.below hb)
    clear hb HX1
    cases r with
    | true =>
      have HS := Lib.hid (HR.out.1 rfl)
      have b0 := blk_cell HX2.out.b1 0
      have b1 := blk_cell HX2.out.b1 1
      have b2 := blk_cell HX2.out.b1 2
      simp only [List.getElem?_toArray, List.getElem?_cons_zero, List.getElem?_cons_succ] at b0 b1 b2
      clear HR C79
      go_wp2_with fail
      refine (spec_image_any _ m0 m1 m2 ao L n cap vf HM.out HN.out (by rw [HN.out]; exact HS.out.2.2) HS.out.fr (fun x hx => HV.out HM.out x (HS.out.fr x hx)) (HL.out.below HX2.out.bel)).mono ?_
      rintro e w3 ⟨hres, hb⟩
      have HB3 := Lib.hid (below_step HX2.out.bel hb)
      have hs2 := HX2.out.bel.size
      rcases hres with ⟨hall, g, c, R, rfl, hg, hrow, hasc, hmem, hlen⟩ | ⟨hnot, rfl⟩
      · have HAns : Hid (ImgAns m0 m1 m2 L vf R 0) := Lib.hid (.inl ⟨⟨HM.out, HS.out⟩, hall, hasc, hmem, hlen, rfl⟩)
        have HRw := Lib.hid hrow
        clear hall hrow hasc hmem hlen hb b0 b1 b2
        go_wp2
        go_ret2
        exact ⟨_, _, R, 0, rfl, HAns.out, .inl ⟨g, rfl, by omega, HRw.out⟩, HB3.out⟩
      · have HAns : Hid (ImgAns m0 m1 m2 L vf [] 3) := Lib.hid (.inr (.inl ⟨⟨HM.out, HS.out⟩, hnot, rfl, rfl⟩))
        clear hnot hb b0 b1 b2
        go_wp2
        go_ret2
        exact ⟨_, _, [], 3, rfl, HAns.out, .inr ⟨rfl, rfl, rfl⟩, HB3.out⟩
    | false =>
      have HAns : Hid (ImgAns m0 m1 m2 L vf [] 1) := Lib.hid (.inr (.inr ⟨fun h => by have := HR.out.2 h.2; simp at this, rfl, rfl⟩))
      clear HR C79
      go_wp2
      go_ret2
      exact ⟨_, _, [], 1, rfl, HAns.out, .inr ⟨rfl, rfl, rfl⟩, HX2.out.bel⟩
  · rw [decide_eq_false hm]
    have HAns : Hid (ImgAns m0 m1 m2 L vf [] 1) := Lib.hid (.inr (.inr ⟨fun h => hm h.1, rfl, rfl⟩))
    clear hm
    go_wp2
    go_ret2
    exact ⟨_, _, [], 1, rfl, HAns.out, .inr ⟨rfl, rfl, rfl⟩, HX1.out.bel⟩
end Go.Proofs.Ytaplebckjbbobaa.Fl
end
namespace Go.Proofs.Ytaplebckjbbobaa.Fl
end Go.Proofs.Ytaplebckjbbobaa.Fl
section
set_option linter.unusedSimpArgs false
namespace Go.Proofs.Ytaplebckjbbobaa.Fl
open Go.RowKit Bs Grd
open FracMath (Fr IsVal Fits Mv)
open Low (M3 Lst)
def mcells (L : List M3) : List Value := L.flatMap fun m => [.int .i64 m.1, .int .i64 m.2.1, .int .i64 m.2.2]
theorem mcells_at : ∀ (L : List M3) (i : Nat) (x : M3), L[i]? = some x → (mcells L)[i * 3]? = some (.int .i64 x.1) ∧ (mcells L)[i * 3 + 1]? = some (.int .i64 x.2.1) ∧ (mcells L)[i * 3 + 2]? = some (.int .i64 x.2.2)
  | [], i, x, h => by simp at h
  | y :: L, 0, x, h => by
    have e : y = x := by simpa using h
    subst e
    exact ⟨rfl, rfl, rfl⟩
  | y :: L, i + 1, x, h => by
    have ih := mcells_at L i x (by simpa using h)
    rw [show (i + 1) * 3 = i * 3 + 1 + 1 + 1 by omega, show mcells (y :: L) = .int .i64 y.1 :: .int .i64 y.2.1 :: .int .i64 y.2.2 :: mcells L from rfl]
    exact ih
theorem mcells_snoc (L : List M3) (x : M3) : mcells L ++ [.int .i64 x.1, .int .i64 x.2.1, .int .i64 x.2.2] = mcells (L ++ [x]) := by simp [mcells]
def MRow (W : World) (g : Nat) (L : List M3) : Prop := ∃ cs : Array Value, W.heap[g]? = some (.cells cs 29 (0, 0)) ∧ ∀ (i : Nat) (m : M3), L[i]? = some m → cs[i * 3]? = some (.int .i64 m.1) ∧ cs[i * 3 + 1]? = some (.int .i64 m.2.1) ∧ cs[i * 3 + 2]? = some (.int .i64 m.2.2)
section
variable {w W W' : World} {g : Nat} {L : List M3}
theorem MRow.lt (h : MRow W g L) : g < W.heap.size := by obtain ⟨cs, h1, _⟩ := h; exact blk_lt h1
theorem MRow.cell (h : MRow W g L) {i : Nat} {m : M3} (hi : L[i]? = some m) : W.cell? ⟨g, i * 3, none⟩ = some (.int .i64 m.1) ∧ W.cell? ⟨g, i * 3 + 1, none⟩ = some (.int .i64 m.2.1) ∧ W.cell? ⟨g, i * 3 + 2, none⟩ = some (.int .i64 m.2.2) := by
  obtain ⟨cs, h1, h2⟩ := h
  exact ⟨(blk_cell h1 _).trans (h2 i m hi).1, (blk_cell h1 _).trans (h2 i m hi).2.1, (blk_cell h1 _).trans (h2 i m hi).2.2⟩
theorem MRow.below (h : MRow W g L) (hb : Below W.heap.size W W') : MRow W' g L := by
  obtain ⟨cs, h1, h2⟩ := h
  exact ⟨cs, blk_below h1 hb, h2⟩
theorem MRow.same (h : MRow W g L) (hb : W'.heap[g]? = W.heap[g]?) : MRow W' g L := by
  obtain ⟨cs, h1, h2⟩ := h
  exact ⟨cs, hb.trans h1, h2⟩
theorem MRow.reads (h : MRow W g L) : Lst W (some ⟨g, 0, none⟩) L := by
  intro i m hi
  obtain ⟨c0, c1, c2⟩ := h.cell hi
  have z := add_at g 0 (i * 3)
  rw [Nat.zero_add] at z
  exact ⟨_, rfl, h.lt, by rw [z]; exact c0, by rw [z]; exact c1, by rw [z]; exact c2⟩
end
def MOwn (W : World) (base : Nat) (v : Value) (L : List M3) : Prop := W.ownsRow base 29 3 v L.length (mcells L)
theorem MOwn.row {W : World} {base g c n : Nat} {L : List M3} (h : MOwn W base (.slice (some ⟨g, 0, none⟩) n c) L) : MRow W g L ∧ base ≤ g := by
  obtain ⟨h1, h2⟩ := h
  rcases h2 with ⟨h2, _⟩ | ⟨g', cap, cur, h2, hb, hh, hn, hm, hs, ht⟩
  · cases h2
  · cases h2
    refine ⟨⟨cur, hh, fun i x hi => ?_⟩, hb⟩
    obtain ⟨a0, a1, a2⟩ := mcells_at L i x hi
    rw [← ht] at a0 a1 a2
    have hi2 := (List.getElem?_eq_some_iff.1 hi).1
    rw [List.getElem?_take_of_lt (by omega)] at a0 a1 a2
    exact ⟨by simpa using a0, by simpa using a1, by simpa using a2⟩
theorem MOwn.shape {W : World} {base : Nat} {v : Value} {L : List M3} (h : MOwn W base v L) (hv : v ≠ .slice none 0 0) : ∃ g c, v = .slice (some ⟨g, 0, none⟩) L.length c := by
  rcases h.2 with ⟨h2, _⟩ | ⟨g', cap, cur, h2, _⟩
  · exact absurd h2 hv
  · exact ⟨_, _, h2⟩
theorem news_three (W : World) (x y z : Int) (j : Nat) (u : Value) (h : [Value.int .i64 x, .int .i64 y, .int .i64 z][j]? = some u) : (W.alloc (.cells #[.int .i64 x, .int .i64 y, .int .i64 z] 29)).cell? ((⟨W.heap.size, 0, none⟩ : Addr).add j) = some u := by
  rw [add_at, Nat.zero_add]
  have hb := blk_cell (heap_alloc_new W (.cells #[.int .i64 x, .int .i64 y, .int .i64 z] 29))
  match j, h with
  | 0, h => exact (hb 0).trans (by simpa using h)
  | 1, h => exact (hb 1).trans (by simpa using h)
  | 2, h => exact (hb 2).trans (by simpa using h)
  | n + 3, h => simp at h
theorem minfo29 : (Try.prog.info? 29).map (fun i => (i.zero, i.size, i.bytes)) = some (some (.agg #[.int .i64 0, .int .i64 0, .int .i64 0]), 3, 24) := by kernel_rfl
end Go.Proofs.Ytaplebckjbbobaa.Fl
end
section
set_option linter.unusedSimpArgs false
namespace Go.Proofs.Ytaplebckjbbobaa.Fl
open Go.RowKit Bs Grd
open FracMath (Fr IsVal Fits Mv)
open Low (M3 Lst)
def opn (x : F2) : Bool := decide (x.2 ≠ 0 ∧ x.1 ≠ 0 ∧ x.1 ≠ x.2)
def pick (L : List F2) : Option F2 := L.find? opn
def nextF (x : F2) : M3 × Int := if x.1 < 0 then ((0, 0, 0), 0) else if x.2 < x.1 then ((1, 0, 0), 0) else if Mv 2 x.1 (x.2 - x.1) then ((2, x.1, x.2 - x.1), 0) else ((0, 0, 0), 3)
def nextOf (L : List F2) : M3 × Int := match pick L with
  | none => ((0, 0, 0), 5)
  | some x => nextF x
theorem pick_none {L : List F2} (h : ∀ (j : Nat) (x : F2), L[j]? = some x → opn x = false) : pick L = none := by
  unfold pick
  rw [List.find?_eq_none]
  intro x hx
  obtain ⟨j, hj⟩ := List.getElem?_of_mem hx
  simp [h j x hj]
theorem pick_some {L : List F2} {k : Nat} {x : F2} (hk : L[k]? = some x) (ho : opn x = true) (h : ∀ (j : Nat) (y : F2), j < k → L[j]? = some y → opn y = false) : pick L = some x := by
  unfold pick
  obtain ⟨hl, he⟩ := List.getElem?_eq_some_iff.1 hk
  have hs : L = L.take k ++ x :: L.drop (k + 1) := by
    rw [← he, ← List.drop_eq_getElem_cons hl, List.take_append_drop]
  rw [hs, List.find?_append]
  have hn : (L.take k).find? opn = none := by
    rw [List.find?_eq_none]
    intro y hy
    obtain ⟨j, hj⟩ := List.getElem?_of_mem hy
    have hjk : j < k := by
      have := (List.getElem?_eq_some_iff.1 hj).1
      simp at this; omega
    rw [List.getElem?_take_of_lt hjk] at hj
    simp [h j y hjk hj]
  rw [hn]
  simp [ho]
theorem next_mv {L : List F2} (h : (nextOf L).2 = 0) : Mv (nextOf L).1.1 (nextOf L).1.2.1 (nextOf L).1.2.2 := by
  unfold nextOf at h ⊢
  cases hp : pick L with
  | none => rw [hp] at h; simp at h
  | some x =>
    rw [hp] at h
    simp only at h ⊢
    unfold nextF at h ⊢
    split
    · exact .inr ⟨.inl rfl, rfl, rfl⟩
    · rename_i h1
      rw [if_neg h1] at h
      split
      · exact .inr ⟨.inr rfl, rfl, rfl⟩
      · rename_i h2
        rw [if_neg h2] at h
        split
        · assumption
        · rename_i h3; rw [if_neg h3] at h; simp at h
set_option maxHeartbeats 2000000 in
set_option maxRecDepth 100000 in
theorem open_any (w : World) (ao : Option Addr) (L : List F2) (n cap : Nat) (hn : n = L.length) (hcap : n ≤ 12) (h : FLst w ao L) :
    Calls Try.prog 108 #[.slice ao n cap] w fun e w' => (∃ p q b, e = .returned (.tuple #[.agg #[.int .i64 p, .int .i64 q], .bool b]) ∧ ((b = true ∧ pick L = some (p, q)) ∨ (b = false ∧ pick L = none))) ∧ Below w.heap.size w w' := by
  have hu26 := Try.underlying26
  have HL := Lib.hid h
  have HN := Lib.hid hn
  have HX0 := Lib.hid (B1.start w (.cells #[.int .i64 0, .int .i64 0] 26))
  clear h hn
  go_enter Try.func108, Try.ntmps108
  go_wp2
  go_loopw [8] (fun i wr => ∃ k : Nat, i = .int .i64 k ∧ k ≤ n ∧ (∀ (j : Nat) (x : F2), j < k → L[j]? = some x → opn x = false) ∧ B1 w wr (.cells #[.int .i64 0, .int .i64 0] 26)) (fun i _ => n - (intOf i).toNat)
  case atStart => exact ⟨0, rfl, Nat.zero_le _, fun j x h => absurd h (Nat.not_lt_zero _), HX0.out⟩
  case round =>
    obtain ⟨k, rfl, hk, hall, hx⟩ := hrel
    have HA := Lib.hid hall
    have HX := Lib.hid hx
    have hsz := hx.siz
    have b0 := blk_cell hx.b1 0
    have b1 := blk_cell hx.b1 1
    have fz0 := blk_frozen hx.b1 0
    have fz1 := blk_frozen hx.b1 1
    simp only [List.getElem?_toArray, List.getElem?_cons_zero, List.getElem?_cons_succ] at b0 b1
    clear hall hx HX0
    by_cases hlt : k < n
    · obtain ⟨m, hmk⟩ : ∃ m, L[k]? = some m := ⟨L[k]'(by rw [← HN.out]; exact hlt), by simp⟩
      obtain ⟨a, rfl, hab, c0, c1⟩ := (HL.out.below HX.out.bel) k m hmk
      have hk1 : (0 : Int) ≤ (k : Int) := by omega
      have hk2 : (k : Int) < (n : Int) := by omega
      have l0 : w.heap.size < wr.heap.size := by omega
      have HM := Lib.hid hmk
      clear hmk
      have hcase : (m.2 != 0) = false ∨ ((m.2 != 0) = true ∧ (m.1 != 0) = false) ∨ ((m.2 != 0) = true ∧ (m.1 != 0) = true ∧ (m.1 != m.2) = false) ∨ ((m.2 != 0) = true ∧ (m.1 != 0) = true ∧ (m.1 != m.2) = true) := by
        cases (m.2 != 0) <;> cases (m.1 != 0) <;> cases (m.1 != m.2) <;> simp
      have hop : opn m = ((m.2 != 0) && (m.1 != 0) && (m.1 != m.2)) := by
        rw [Bool.eq_iff_iff]
        simp [opn, and_assoc]
      have HOp := Lib.hid hop
      clear hop
      have hnext : opn m = false → ∀ (j : Nat) (x : F2), j < k + 1 → L[j]? = some x → opn x = false := fun hm j x hj hx => by
        by_cases hjk : j < k
        · exact HA.out j x hjk hx
        · obtain rfl : j = k := by omega
          rw [HM.out] at hx
          obtain rfl := Option.some.inj hx
          exact hm
      have HNx := Lib.hid hnext
      clear hnext
      rcases hcase with e1 | ⟨e1, e2⟩ | ⟨e1, e2, e3⟩ | ⟨e1, e2, e3⟩
      · have HO : Hid (opn m = false) := Lib.hid (by rw [HOp.out, e1]; simp)
        go_wp2
        go_roundw
        case rel => exact ⟨k + 1, by go_num, by omega, HNx.out HO.out, HX.out.below (below_alloc (Below.refl _ _) _)⟩
        case measure => simp [intOf]; omega
      · have HO : Hid (opn m = false) := Lib.hid (by rw [HOp.out, e2]; simp)
        go_wp2
        go_roundw
        case rel => exact ⟨k + 1, by go_num, by omega, HNx.out HO.out, HX.out.below (below_alloc (Below.refl _ _) _)⟩
        case measure => simp [intOf]; omega
      · have HO : Hid (opn m = false) := Lib.hid (by rw [HOp.out, e3]; simp)
        go_wp2
        go_roundw
        case rel => exact ⟨k + 1, by go_num, by omega, HNx.out HO.out, HX.out.below (below_alloc (Below.refl _ _) _)⟩
        case measure => simp [intOf]; omega
      · have HO : Hid (opn m = true) := Lib.hid (by rw [HOp.out, e1, e2, e3]; rfl)
        have HP := Lib.hid (pick_some HM.out HO.out HA.out)
        go_wp2
        have hcell0 : (((wr.setCell ⟨w.heap.size, 0, none⟩ (.int .i64 m.1)).setCell ⟨w.heap.size, 1, none⟩ (.int .i64 m.2)).alloc (.cells #[.int .i64 m.1, .int .i64 m.2] 26)).heap[w.heap.size]? = some (.cells #[.int .i64 m.1, .int .i64 m.2] 26 (0, 0)) := by
          refine blk_alloc ?_ _
          simpa using blk_set (blk_set HX.out.b1 0 (.int .i64 m.1)) 1 (.int .i64 m.2)
        have d0 := blk_cell hcell0 0
        have d1 := blk_cell hcell0 1
        simp only [List.getElem?_toArray, List.getElem?_cons_zero, List.getElem?_cons_succ] at d0 d1
        refine bodyPost_ret (v := .tuple #[.agg #[.int .i64 m.1, .int .i64 m.2], .bool true]) (by simp [results, Try.results108, go_sem, d0, d1]) rfl ⟨⟨m.1, m.2, true, rfl, .inl ⟨rfl, HP.out⟩⟩, ?_⟩
        exact below_alloc ((HX.out.bel.setCell (Nat.le_refl _) _).setCell (Nat.le_refl _) _) _
    · obtain rfl : k = n := by omega
      have HP : Hid (pick L = none) := Lib.hid (pick_none fun j x hj => HA.out j x (by rw [HN.out]; exact (List.getElem?_eq_some_iff.1 hj).1) hj)
      go_wp2
      have hcell0 : ((wr.setCell ⟨w.heap.size, 0, none⟩ (.int .i64 0)).setCell ⟨w.heap.size, 1, none⟩ (.int .i64 0)).heap[w.heap.size]? = some (.cells #[.int .i64 0, .int .i64 0] 26 (0, 0)) := by
        simpa using blk_set (blk_set HX.out.b1 0 (.int .i64 0)) 1 (.int .i64 0)
      have d0 := blk_cell hcell0 0
      have d1 := blk_cell hcell0 1
      simp only [List.getElem?_toArray, List.getElem?_cons_zero, List.getElem?_cons_succ] at d0 d1
      refine bodyPost_ret (v := .tuple #[.agg #[.int .i64 0, .int .i64 0], .bool false]) (by simp [results, Try.results108, go_sem, d0, d1]) rfl ⟨⟨0, 0, false, rfl, .inr ⟨rfl, HP.out⟩⟩, ?_⟩
      exact ((HX.out.bel.setCell (Nat.le_refl _) _).setCell (Nat.le_refl _) _)
end Go.Proofs.Ytaplebckjbbobaa.Fl
end
section
set_option linter.unusedSimpArgs false
namespace Go.Proofs.Ytaplebckjbbobaa.Fl
open Go.RowKit Bs Grd
open FracMath (Fr IsVal Fits Mv)
open Low (M3 Lst)
theorem res3 {W : World} {g : Nat} {x y z : Value} (h : W.heap[g]? = some (.cells #[x, y, z] 29 (0, 0))) (u v t : Value) :
    (((W.setCell ⟨g, 0, none⟩ u).setCell ⟨g, 1, none⟩ v).setCell ⟨g, 2, none⟩ t).heap[g]? = some (.cells #[u, v, t] 29 (0, 0)) := by
  simpa using blk_set (blk_set (blk_set h 0 u) 1 v) 2 t
theorem cells3 {W : World} {g : Nat} {u v t : Value} (h : W.heap[g]? = some (.cells #[u, v, t] 29 (0, 0))) : W.cell? ⟨g, 0, none⟩ = some u ∧ W.cell? ⟨g, 1, none⟩ = some v ∧ W.cell? ⟨g, 2, none⟩ = some t :=
  ⟨(blk_cell h 0).trans rfl, (blk_cell h 1).trans rfl, (blk_cell h 2).trans rfl⟩
theorem below3 {w W : World} (h : Below w.heap.size w W) (u v t : Value) : Below w.heap.size w (((W.setCell ⟨w.heap.size, 0, none⟩ u).setCell ⟨w.heap.size, 1, none⟩ v).setCell ⟨w.heap.size, 2, none⟩ t) :=
  ((h.setCell (Nat.le_refl _) _).setCell (Nat.le_refl _) _).setCell (Nat.le_refl _) _
set_option maxHeartbeats 4000000 in
set_option maxRecDepth 100000 in
theorem nextMove_any (w : World) (ao : Option Addr) (L : List F2) (n cap : Nat) (hn : n = L.length) (hcap : n ≤ 12) (hf : ∀ x ∈ L, FR x) (h : FLst w ao L) :
    Calls Try.prog 83 #[.slice ao n cap] w fun e w' => e = .returned (.tuple #[.agg #[.int .i64 (nextOf L).1.1, .int .i64 (nextOf L).1.2.1, .int .i64 (nextOf L).1.2.2], .int .i64 (nextOf L).2]) ∧ Below w.heap.size w w' := by
  have hu26 := Try.underlying26
  have hu29 := Try.underlying29
  have HL := Lib.hid h
  have HX0 := Lib.hid (B1.start w (.cells #[.int .i64 0, .int .i64 0, .int .i64 0] 29))
  have C1 := Lib.hid (fun W (hW : FLst W ao L) => open_any W ao L n cap hn hcap hW)
  have HF := Lib.hid hf
  clear h hn hf
  go_enter Try.func83, Try.ntmps83
  go_wp2_with fail
  refine (C1.out _ (HL.out.below HX0.out.bel)).mono ?_
  rintro e w1 ⟨⟨p, q, b, rfl, hp⟩, hb⟩
  have HX1 := Lib.hid (HX0.out.below hb)
  clear hb HX0 C1
  have hs1 := HX1.out.siz
  have l0 : w.heap.size < w1.heap.size := by omega
  obtain ⟨c0, c1, c2⟩ := cells3 HX1.out.b1
  have f0 := blk_frozen HX1.out.b1 0
  have f1 := blk_frozen HX1.out.b1 1
  have f2 := blk_frozen HX1.out.b1 2
  have hfin : ∀ (m0 m1 m2 c : Int), nextOf L = ((m0, m1, m2), c) → (Value.tuple #[.agg #[.int .i64 m0, .int .i64 m1, .int .i64 m2], .int .i64 c]) = .tuple #[.agg #[.int .i64 (nextOf L).1.1, .int .i64 (nextOf L).1.2.1, .int .i64 (nextOf L).1.2.2], .int .i64 (nextOf L).2] := by
    intro m0 m1 m2 c h; rw [h]
  have HFin := Lib.hid hfin
  clear hfin
  rcases hp with ⟨rfl, hp⟩ | ⟨rfl, hp⟩
  · have hnx : nextOf L = nextF (p, q) := by unfold nextOf; rw [hp]
    have hFR : FR (p, q) := HF.out _ (List.mem_of_find?_eq_some hp)
    obtain ⟨x1, x2, x3, x4, -, -⟩ := hFR
    simp only at x1 x2 x3 x4
    have HNx := Lib.hid hnx
    clear hnx hp
    by_cases hneg : p < 0
    · have hv : nextOf L = ((0, 0, 0), 0) := by rw [HNx.out]; unfold nextF; rw [if_pos hneg]
      have HV := Lib.hid hv
      clear hv
      go_wp2
      have hr := blk_alloc (res3 HX1.out.b1 (.int .i64 0) (.int .i64 0) (.int .i64 0)) (.cells #[.int .i64 p, .int .i64 q] 26)
      obtain ⟨d0, d1, d2⟩ := cells3 hr
      refine bodyPost_ret (v := .tuple #[.agg #[.int .i64 0, .int .i64 0, .int .i64 0], .int .i64 0]) (by simp [results, Try.results83, go_sem, d0, d1, d2]) rfl ⟨congrArg Ending.returned (HFin.out _ _ _ _ HV.out), ?_⟩
      exact below_alloc (below3 HX1.out.bel _ _ _) _
    · by_cases hgt : q < p
      · have hv : nextOf L = ((1, 0, 0), 0) := by rw [HNx.out]; unfold nextF; rw [if_neg hneg, if_pos hgt]
        have HV := Lib.hid hv
        clear hv
        go_wp2
        have hr := blk_alloc (res3 HX1.out.b1 (.int .i64 1) (.int .i64 0) (.int .i64 0)) (.cells #[.int .i64 p, .int .i64 q] 26)
        obtain ⟨d0, d1, d2⟩ := cells3 hr
        refine bodyPost_ret (v := .tuple #[.agg #[.int .i64 1, .int .i64 0, .int .i64 0], .int .i64 0]) (by simp [results, Try.results83, go_sem, d0, d1, d2]) rfl ⟨congrArg Ending.returned (HFin.out _ _ _ _ HV.out), ?_⟩
        exact below_alloc (below3 HX1.out.bel _ _ _) _
      · have C47 := Lib.hid (fun W => Low.isMove_any 2 p (q - p) W)
        go_wp2_with fail
        refine (C47.out _).mono ?_
        rintro e w5 ⟨rfl, hb⟩
        have HX5 := Lib.hid ((HX1.out.below (below_alloc (below_alloc (Below.refl _ _) (.cells #[.int .i64 p, .int .i64 q] 26)) (.cells #[.int .i64 2, .int .i64 p, .int .i64 (q - p)] 29))).below hb)
        have hm5 := blk_below (heap_alloc_new (w1.alloc (.cells #[.int .i64 p, .int .i64 q] 26)) (.cells #[.int .i64 2, .int .i64 p, .int .i64 (q - p)] 29)) hb
        rw [World.size_alloc] at hm5
        clear hb c0 c1 c2 f0 f1 f2
        have hs5 := HX5.out.siz
        have l5 : w.heap.size < w5.heap.size := by omega
        have l6 : w1.heap.size + 1 < w5.heap.size := blk_lt hm5
        obtain ⟨c0, c1, c2⟩ := cells3 HX5.out.b1
        obtain ⟨e0, e1, e2⟩ := cells3 hm5
        have f0 := blk_frozen HX5.out.b1 0
        have f1 := blk_frozen HX5.out.b1 1
        have f2 := blk_frozen HX5.out.b1 2
        have HM5 := Lib.hid hm5
        clear hm5
        by_cases hmv : Mv 2 p (q - p)
        · have hv : nextOf L = ((2, p, q - p), 0) := by rw [HNx.out]; unfold nextF; rw [if_neg (Int.not_lt.2 hneg), if_neg (Int.not_lt.2 hgt), if_pos hmv]
          have HV := Lib.hid hv
          rw [decide_eq_true hmv]
          clear hv hmv
          go_wp2
          have hr := res3 HX5.out.b1 (.int .i64 2) (.int .i64 p) (.int .i64 (q - p))
          obtain ⟨d0, d1, d2⟩ := cells3 hr
          refine bodyPost_ret (v := .tuple #[.agg #[.int .i64 2, .int .i64 p, .int .i64 (q - p)], .int .i64 0]) (by simp [results, Try.results83, go_sem, d0, d1, d2]) rfl ⟨congrArg Ending.returned (HFin.out _ _ _ _ HV.out), ?_⟩
          exact below3 HX5.out.bel _ _ _
        · have hv : nextOf L = ((0, 0, 0), 3) := by rw [HNx.out]; unfold nextF; rw [if_neg (Int.not_lt.2 hneg), if_neg (Int.not_lt.2 hgt), if_neg hmv]
          have HV := Lib.hid hv
          rw [decide_eq_false hmv]
          clear hv hmv
          go_wp2
          have hr := res3 HX5.out.b1 (.int .i64 0) (.int .i64 0) (.int .i64 0)
          obtain ⟨d0, d1, d2⟩ := cells3 hr
          refine bodyPost_ret (v := .tuple #[.agg #[.int .i64 0, .int .i64 0, .int .i64 0], .int .i64 3]) (by simp [results, Try.results83, go_sem, d0, d1, d2]) rfl ⟨congrArg Ending.returned (HFin.out _ _ _ _ HV.out), ?_⟩
          exact below3 HX5.out.bel _ _ _
  · have hv : nextOf L = ((0, 0, 0), 5) := by unfold nextOf; rw [hp]
    have HV := Lib.hid hv
    clear hv hp
    go_wp2
    have hr := blk_alloc (res3 HX1.out.b1 (.int .i64 0) (.int .i64 0) (.int .i64 0)) (.cells #[.int .i64 p, .int .i64 q] 26)
    obtain ⟨d0, d1, d2⟩ := cells3 hr
    refine bodyPost_ret (v := .tuple #[.agg #[.int .i64 0, .int .i64 0, .int .i64 0], .int .i64 5]) (by simp [results, Try.results83, go_sem, d0, d1, d2]) rfl ⟨congrArg Ending.returned (HFin.out _ _ _ _ HV.out), ?_⟩
    exact below_alloc (below3 HX1.out.bel _ _ _) _
end Go.Proofs.Ytaplebckjbbobaa.Fl
end
section
set_option linter.unusedSimpArgs false
namespace Go.Proofs.Ytaplebckjbbobaa.Fl
open Go.RowKit Bs Grd
open FracMath (Fr IsVal Fits Mv)
open Low (M3 Lst)
section
variable {b g : Nat} {u v t x y z : Value} {W W' : World}
theorem keep3 (hb : Below W.heap.size W W') (h : W.cell? ⟨b, 0, none⟩ = some u ∧ W.cell? ⟨b, 1, none⟩ = some v ∧ W.cell? ⟨b, 2, none⟩ = some t) : W'.cell? ⟨b, 0, none⟩ = some u ∧ W'.cell? ⟨b, 1, none⟩ = some v ∧ W'.cell? ⟨b, 2, none⟩ = some t :=
  ⟨cell_below hb h.1, cell_below hb h.2.1, cell_below hb h.2.2⟩
theorem keep3s (hne : b ≠ g) (h : W.cell? ⟨b, 0, none⟩ = some u ∧ W.cell? ⟨b, 1, none⟩ = some v ∧ W.cell? ⟨b, 2, none⟩ = some t) :
    (((W.setCell ⟨g, 0, none⟩ x).setCell ⟨g, 1, none⟩ y).setCell ⟨g, 2, none⟩ z).cell? ⟨b, 0, none⟩ = some u ∧ (((W.setCell ⟨g, 0, none⟩ x).setCell ⟨g, 1, none⟩ y).setCell ⟨g, 2, none⟩ z).cell? ⟨b, 1, none⟩ = some v ∧ (((W.setCell ⟨g, 0, none⟩ x).setCell ⟨g, 1, none⟩ y).setCell ⟨g, 2, none⟩ z).cell? ⟨b, 2, none⟩ = some t := by
  have e : ∀ o, (((W.setCell ⟨g, 0, none⟩ x).setCell ⟨g, 1, none⟩ y).setCell ⟨g, 2, none⟩ z).cell? ⟨b, o, none⟩ = W.cell? ⟨b, o, none⟩ := fun o => (set_cell (by exact hne)).trans ((set_cell (by exact hne)).trans (set_cell (by exact hne)))
  exact ⟨(e 0).trans h.1, (e 1).trans h.2.1, (e 2).trans h.2.2⟩
end
def NextRes (L : List F2) (m : M3) (ok done : Bool) : Prop :=
  ((nextOf L).2 = 5 ∧ done = true) ∨ ((nextOf L).2 = 0 ∧ done = false ∧ ok = true ∧ m = (nextOf L).1) ∨ ((nextOf L).2 = 3 ∧ done = false ∧ ok = false)
def NextPost (w : World) (L : List F2) (e : Ending) (w' : World) : Prop :=
  (∃ m0 m1 m2 ok done, e = .returned (.tuple #[.agg #[.int .i64 m0, .int .i64 m1, .int .i64 m2], .bool ok, .bool done]) ∧ NextRes L (m0, m1, m2) ok done) ∧ Below w.heap.size w w'
set_option maxHeartbeats 4000000 in
set_option maxRecDepth 100000 in
theorem l10Next_any (w : World) (ao : Option Addr) (L : List F2) (n cap : Nat) (hn : n = L.length) (hcap : n ≤ 12) (hf : ∀ x ∈ L, FR x) (h : FLst w ao L) :
    Calls Try.prog 98 #[.slice ao n cap] w (NextPost w L) := by
  have hu26 := Try.underlying26
  have hu29 := Try.underlying29
  have HL := Lib.hid h
  have HN := Lib.hid hn
  have HX0 := Lib.hid (B1.start w (.cells #[.int .i64 0, .int .i64 0, .int .i64 0] 29))
  have HF := Lib.hid hf
  clear h hn hf
  go_enter Try.func98, Try.ntmps98
  go_wp2
  go_loopw [5] (fun i wr => ∃ k : Nat, i = .int .i64 k ∧ k ≤ n ∧ (∀ (j : Nat) (x : F2), j < k → L[j]? = some x → opn x = false) ∧ B1 w wr (.cells #[.int .i64 0, .int .i64 0, .int .i64 0] 29)) (fun i _ => n - (intOf i).toNat)
  case atStart => exact ⟨0, rfl, Nat.zero_le _, fun j x h => absurd h (Nat.not_lt_zero _), HX0.out⟩
  case round =>
    obtain ⟨k, rfl, hk, hall, hx⟩ := hrel
    have HA := Lib.hid hall
    have HX := Lib.hid hx
    have hsz := hx.siz
    obtain ⟨b0, b1, b2⟩ := cells3 hx.b1
    have fz0 := blk_frozen hx.b1 0
    have fz1 := blk_frozen hx.b1 1
    have fz2 := blk_frozen hx.b1 2
    clear hall hx HX0
    by_cases hlt : k < n
    · obtain ⟨m, hmk⟩ : ∃ m, L[k]? = some m := ⟨L[k]'(by rw [← HN.out]; exact hlt), by simp⟩
      obtain ⟨a, rfl, hab, c0, c1⟩ := (HL.out.below HX.out.bel) k m hmk
      have hk1 : (0 : Int) ≤ (k : Int) := by omega
      have hk2 : (k : Int) < (n : Int) := by omega
      have l0 : w.heap.size < wr.heap.size := by omega
      have HM := Lib.hid hmk
      clear hmk
      have hcase : (m.2 == 0) = true ∨ ((m.2 == 0) = false ∧ (m.1 == 0) = true) ∨ ((m.2 == 0) = false ∧ (m.1 == 0) = false ∧ (m.1 == m.2) = true) ∨ ((m.2 == 0) = false ∧ (m.1 == 0) = false ∧ (m.1 == m.2) = false) := by
        cases (m.2 == 0) <;> cases (m.1 == 0) <;> cases (m.1 == m.2) <;> simp
      have hop : opn m = (!(m.2 == 0) && !(m.1 == 0) && !(m.1 == m.2)) := by
        rw [Bool.eq_iff_iff]
        simp [opn, and_assoc]
      have HOp := Lib.hid hop
      clear hop
      have hnext : opn m = false → ∀ (j : Nat) (x : F2), j < k + 1 → L[j]? = some x → opn x = false := fun hm j x hj hx => by
        by_cases hjk : j < k
        · exact HA.out j x hjk hx
        · obtain rfl : j = k := by omega
          rw [HM.out] at hx
          obtain rfl := Option.some.inj hx
          exact hm
      have HNx := Lib.hid hnext
      clear hnext
      rcases hcase with e1 | ⟨e1, e2⟩ | ⟨e1, e2, e3⟩ | ⟨e1, e2, e3⟩
      · have HO : Hid (opn m = false) := Lib.hid (by rw [HOp.out, e1]; simp)
        go_wp2
        go_roundw
        case rel => exact ⟨k + 1, by go_num, by omega, HNx.out HO.out, HX.out.below (below_alloc (Below.refl _ _) _)⟩
        case measure => simp [intOf]; omega
      · have HO : Hid (opn m = false) := Lib.hid (by rw [HOp.out, e2]; simp)
        go_wp2
        go_roundw
        case rel => exact ⟨k + 1, by go_num, by omega, HNx.out HO.out, HX.out.below (below_alloc (Below.refl _ _) _)⟩
        case measure => simp [intOf]; omega
      · have HO : Hid (opn m = false) := Lib.hid (by rw [HOp.out, e3]; simp)
        go_wp2
        go_roundw
        case rel => exact ⟨k + 1, by go_num, by omega, HNx.out HO.out, HX.out.below (below_alloc (Below.refl _ _) _)⟩
        case measure => simp [intOf]; omega
      · have HO : Hid (opn m = true) := Lib.hid (by rw [HOp.out, e1, e2, e3]; rfl)
        have hnx : nextOf L = nextF m := by unfold nextOf; rw [pick_some HM.out HO.out HA.out]
        obtain ⟨x1, x2, x3, x4, -, -⟩ : FR m := HF.out m (List.mem_of_getElem? HM.out)
        have HNxt := Lib.hid hnx
        clear hnx HNx
        by_cases hneg : m.1 < 0
        · have hv : nextOf L = ((0, 0, 0), 0) := by rw [HNxt.out]; unfold nextF; rw [if_pos hneg]
          have HR : Hid (NextRes L (0, 0, 0) true false) := Lib.hid (.inr (.inl ⟨by rw [hv], rfl, rfl, by rw [hv]⟩))
          clear hv
          go_wp2
          have hr := blk_alloc (res3 HX.out.b1 (.int .i64 0) (.int .i64 0) (.int .i64 0)) (.cells #[.int .i64 m.1, .int .i64 m.2] 26)
          obtain ⟨d0, d1, d2⟩ := cells3 hr
          refine bodyPost_ret (v := .tuple #[.agg #[.int .i64 0, .int .i64 0, .int .i64 0], .bool true, .bool false]) (by simp [results, Try.results98, go_sem, d0, d1, d2]) rfl ⟨⟨0, 0, 0, true, false, rfl, HR.out⟩, ?_⟩
          exact below_alloc (below3 HX.out.bel _ _ _) _
        · by_cases hgt : m.2 < m.1
          · have hv : nextOf L = ((1, 0, 0), 0) := by rw [HNxt.out]; unfold nextF; rw [if_neg hneg, if_pos hgt]
            have HR : Hid (NextRes L (1, 0, 0) true false) := Lib.hid (.inr (.inl ⟨by rw [hv], rfl, rfl, by rw [hv]⟩))
            clear hv
            go_wp2
            have hr := blk_alloc (res3 HX.out.b1 (.int .i64 1) (.int .i64 0) (.int .i64 0)) (.cells #[.int .i64 m.1, .int .i64 m.2] 26)
            obtain ⟨d0, d1, d2⟩ := cells3 hr
            refine bodyPost_ret (v := .tuple #[.agg #[.int .i64 1, .int .i64 0, .int .i64 0], .bool true, .bool false]) (by simp [results, Try.results98, go_sem, d0, d1, d2]) rfl ⟨⟨1, 0, 0, true, false, rfl, HR.out⟩, ?_⟩
            exact below_alloc (below3 HX.out.bel _ _ _) _
          · have hv : nextOf L = if Mv 2 m.1 (m.2 - m.1) then ((2, m.1, m.2 - m.1), 0) else ((0, 0, 0), 3) := by rw [HNxt.out]; unfold nextF; rw [if_neg hneg, if_neg hgt]
            have HR : Hid (NextRes L (2, m.1, m.2 - m.1) (decide (Mv 2 m.1 (m.2 - m.1))) false) := Lib.hid (by
              unfold NextRes
              rw [hv]
              by_cases hm : Mv 2 m.1 (m.2 - m.1)
              · rw [if_pos hm]; exact .inr (.inl ⟨rfl, rfl, decide_eq_true hm, rfl⟩)
              · rw [if_neg hm]; exact .inr (.inr ⟨rfl, rfl, decide_eq_false hm⟩))
            have C65 := Lib.hid (fun W => Low.spec_move_any 2 m.1 (m.2 - m.1) W)
            clear hv
            go_wp2_with fail
            have hm5 := heap_alloc_new (wr.alloc (.cells #[.int .i64 m.1, .int .i64 m.2] 26)) (.cells #[.int .i64 2, .int .i64 m.1, .int .i64 (m.2 - m.1)] 29)
            rw [World.size_alloc] at hm5
            obtain ⟨e0, e1, e2⟩ := cells3 hm5
            have hne : wr.heap.size + 1 ≠ w.heap.size := by omega
            have l1 : w.heap.size < wr.heap.size + 1 := by omega
            have l2 : w.heap.size < wr.heap.size + 1 + 1 := by omega
            have hb1 := blk_alloc (blk_alloc HX.out.b1 (.cells #[.int .i64 m.1, .int .i64 m.2] 26)) (.cells #[.int .i64 2, .int .i64 m.1, .int .i64 (m.2 - m.1)] 29)
            have HB1 := Lib.hid hb1
            clear hb1 hm5
            go_region_held3 (fun W' => W'.cell? ⟨wr.heap.size + 1, 0, none⟩ = some (.int .i64 2) ∧ W'.cell? ⟨wr.heap.size + 1, 1, none⟩ = some (.int .i64 m.1) ∧ W'.cell? ⟨wr.heap.size + 1, 2, none⟩ = some (.int .i64 (m.2 - m.1)))
              (first | (go_keep; done) | (exact ⟨e0, e1, e2⟩) | (apply keep3; (case hb => assumption); (case h => assumption)) | (apply keep3s hne; assumption))
              ((first | (go_at_call 65; refine (C65.out _).mono ?_; rintro e w5 ⟨rfl, hb5⟩; obtain ⟨k5, q5⟩ := bcell hb5; (try simp only [hdrew, World.size_alloc] at k5 q5))))
            have hb1 := res3 ((hb5.block _ (by show w.heap.size < ((wr.alloc _).alloc _).heap.size; simp; omega)).trans HB1.out) (.int .i64 2) (.int .i64 m.1) (.int .i64 (m.2 - m.1))
            have HB5 := Lib.hid (below3 (below_step (below_alloc (below_alloc HX.out.bel (.cells #[.int .i64 m.1, .int .i64 m.2] 26)) (.cells #[.int .i64 2, .int .i64 m.1, .int .i64 (m.2 - m.1)] 29)).drew hb5) (.int .i64 2) (.int .i64 m.1) (.int .i64 (m.2 - m.1)))
            obtain ⟨d0, d1, d2⟩ := cells3 hb1
            clear k5 q5 e0 e1 e2 b0 b1 b2 fz0 fz1 fz2 hb1
            go_wp2
            exact bodyPost_ret (v := .tuple #[.agg #[.int .i64 2, .int .i64 m.1, .int .i64 (m.2 - m.1)], .bool (decide (Mv 2 m.1 (m.2 - m.1))), .bool false]) (by simp [results, Try.results98, go_sem, d0, d1, d2]) rfl ⟨⟨2, m.1, m.2 - m.1, _, false, rfl, HR.out⟩, HB5.out⟩
    · obtain rfl : k = n := by omega
      have hv : nextOf L = ((0, 0, 0), 5) := by unfold nextOf; rw [pick_none fun j x hj => HA.out j x (by rw [HN.out]; exact (List.getElem?_eq_some_iff.1 hj).1) hj]
      have HR : Hid (NextRes L (0, 0, 0) true true) := Lib.hid (.inl ⟨by rw [hv], rfl⟩)
      clear hv
      go_wp2
      have hr := res3 HX.out.b1 (.int .i64 0) (.int .i64 0) (.int .i64 0)
      obtain ⟨d0, d1, d2⟩ := cells3 hr
      refine bodyPost_ret (v := .tuple #[.agg #[.int .i64 0, .int .i64 0, .int .i64 0], .bool true, .bool true]) (by simp [results, Try.results98, go_sem, d0, d1, d2]) rfl ⟨⟨0, 0, 0, true, true, rfl, HR.out⟩, ?_⟩
      exact below3 HX.out.bel _ _ _
end Go.Proofs.Ytaplebckjbbobaa.Fl
end
section
set_option linter.unusedSimpArgs false
namespace Go.Proofs.Ytaplebckjbbobaa.Fl
open Go.RowKit Bs Grd
open FracMath (Fr IsVal Fits Mv)
open Low (M3 Lst)
def AllFit (vf : F2 → F2) (L : List F2) : Prop := ∀ x ∈ L, Fits (vf x).1 (vf x).2
inductive Ch (V : M3 → F2 → F2) : List F2 → List M3 → List M3 → Int → Prop
  | done {L : List F2} {O : List M3} (h : (nextOf L).2 = 5) : Ch V L O O 0
  | lim {L : List F2} {O : List M3} (h : (nextOf L).2 ≠ 5) (h2 : (nextOf L).2 ≠ 0 ∨ O.length = 20) : Ch V L O [] 3
  | bad {L : List F2} {O : List M3} (h : (nextOf L).2 = 0) (h2 : O.length ≠ 20) (h3 : ¬ AllFit (V (nextOf L).1) L) : Ch V L O [] 3
  | step {L L' : List F2} {O R : List M3} {c : Int} (h : (nextOf L).2 = 0) (h2 : O.length ≠ 20) (h3 : AllFit (V (nextOf L).1) L) (h4 : Asc L') (h5 : ∀ x, x ∈ L' ↔ x ∈ L.map (V (nextOf L).1)) (k : Ch V L' (O ++ [(nextOf L).1]) R c) : Ch V L O R c
theorem ch_unique {V : M3 → F2 → F2} {L : List F2} {O R R' : List M3} {c c' : Int} (h : Ch V L O R c) (h' : Ch V L O R' c') : R = R' ∧ c = c' := by
  induction h generalizing R' c' with
  | done h =>
    cases h' with
    | done => exact ⟨rfl, rfl⟩
    | lim a => exact absurd h a
    | bad a => omega
    | step a => omega
  | lim h h2 =>
    cases h' with
    | done a => exact absurd a h
    | lim => exact ⟨rfl, rfl⟩
    | bad a b => rcases h2 with h2 | h2 <;> contradiction
    | step a b => rcases h2 with h2 | h2 <;> contradiction
  | bad h h2 h3 =>
    cases h' with
    | done a => omega
    | lim a b => rcases b with b | b <;> contradiction
    | bad => exact ⟨rfl, rfl⟩
    | step _ _ a => exact absurd a h3
  | step h h2 h3 h4 h5 _ ih =>
    cases h' with
    | done a => omega
    | lim a b => rcases b with b | b <;> contradiction
    | bad _ _ a => exact absurd h3 a
    | step _ _ _ a4 a5 k =>
      have e := asc_unique _ _ h4 a4 fun x => (h5 x).trans (a5 x).symm
      subst e
      exact ih k
theorem next_code (L : List F2) : (nextOf L).2 = 5 ∨ (nextOf L).2 = 0 ∨ (nextOf L).2 = 3 := by
  unfold nextOf
  cases pick L with
  | none => exact .inl rfl
  | some x =>
    right
    simp only [nextF]
    split
    · exact .inl rfl
    · split
      · exact .inl rfl
      · split
        · exact .inl rfl
        · exact .inr rfl
def ValsAll (V : M3 → F2 → F2) : Prop := ∀ m : M3, Vals m.1 m.2.1 m.2.2 (V m)
theorem valsAll_exist : ∃ V, ValsAll V :=
  ⟨fun m => (vals_exist m.1 m.2.1 m.2.2).choose, fun m => (vals_exist m.1 m.2.1 m.2.2).choose_spec⟩
def ChAns (V : M3 → F2 → F2) (L : List F2) (R : List M3) (c : Int) : Prop := (SetOk L ∧ Ch V L [] R c) ∨ (¬ SetOk L ∧ R = [] ∧ c = 1)
theorem chAns_unique {V : M3 → F2 → F2} {L : List F2} {R R' : List M3} {c c' : Int} (h : ChAns V L R c) (h' : ChAns V L R' c') : R = R' ∧ c = c' := by
  rcases h with ⟨a, b⟩ | ⟨a, b, e⟩
  · rcases h' with ⟨a', b'⟩ | ⟨a', _⟩
    · exact ch_unique b b'
    · exact absurd a a'
  · rcases h' with ⟨a', b'⟩ | ⟨a', b', e'⟩
    · exact absurd a' a
    · exact ⟨b.trans b'.symm, e.trans e'.symm⟩
def MNew (w : World) (w' : World) (ao : Option Addr) (c : Nat) (R : List M3) : Prop := (∃ g, ao = some ⟨g, 0, none⟩ ∧ w.heap.size ≤ g ∧ MRow w' g R) ∨ (ao = none ∧ R = [] ∧ c = 0)
def CRes (w : World) (V : M3 → F2 → F2) (L : List F2) (e : Ending) (w' : World) : Prop :=
  ∃ ao cap R c, e = .returned (.tuple #[.slice ao R.length cap, .int .i64 c]) ∧ ChAns V L R c ∧ MNew w w' ao cap R ∧ R.length ≤ 20 ∧ Below w.heap.size w w'
def slen (v : Value) : Nat := match v with | .slice _ n _ => n | _ => 0
theorem FLst.grown {w w' : World} {ao : Option Addr} {L : List F2} {row : Option Nat} (h : FLst w ao L) (hg : w.grownBy w' row) (hne : ∀ a, ao = some a → row ≠ some a.block) : FLst w' ao L := by
  intro i m hi
  obtain ⟨a, ha, hlt, c0, c1⟩ := h i m hi
  have e : some (a.add (i * 2)).block ≠ row := by rw [add_block]; exact fun e => hne a ha e.symm
  exact ⟨a, ha, Nat.lt_of_lt_of_le hlt hg.size, hg.cell c0 e, hg.cell c1 e⟩
theorem below_grown {w W W' : World} {row : Option Nat} (h : Below w.heap.size w W) (hg : W.grownBy W' row) (hr : ∀ k, row = some k → w.heap.size ≤ k) : Below w.heap.size w W' :=
  ⟨hg.os.trans h.os, hg.tape.trans h.tape, hg.output.trans h.output, Nat.le_trans h.size hg.size, fun b hb => (hg.block b (Nat.lt_of_lt_of_le hb h.size) fun e => by have := hr _ e.symm; omega).trans (h.block b hb)⟩
def Apt (ao : Option Addr) (v : Value) : Prop := ∀ a, ao = some a → v.ownBlock ≠ some a.block
def ChInv (V : M3 → F2 → F2) (w : World) (L : List F2) (s v : Value) (wr : World) : Prop :=
  ∃ (Lk : List F2) (Ok : List M3) (ao : Option Addr) (n cap : Nat), s = .slice ao n cap ∧ n = Lk.length ∧ n ≤ 12 ∧ (∀ x ∈ Lk, FR x) ∧ FLst wr ao Lk ∧ (∀ a, ao = some a → a.block < wr.heap.size) ∧ MOwn wr w.heap.size v Ok ∧ v ≠ .slice none 0 0 ∧ Apt ao v ∧ Ok.length ≤ 20 ∧
    (∀ R c, Ch V Lk Ok R c → Ch V L [] R c) ∧ Below w.heap.size w wr
set_option maxHeartbeats 4000000 in
set_option maxRecDepth 100000 in
theorem impl_chainOf_any (w : World) (V : M3 → F2 → F2) (ao : Option Addr) (L : List F2) (n cap : Nat) (hV : ValsAll V) (hn : n = L.length) (hcap : n ≤ 1048576) (h : FLst w ao L) (hao : ∀ a, ao = some a → a.block < w.heap.size) :
    Calls Try.prog 33 #[.slice ao n cap] w (CRes w V L) := by
  have hu29 := Try.underlying29
  have hu37 := Try.underlying37
  obtain ⟨i0, hi, hz0, hz1, hz2⟩ := info_parts minfo29
  have HI := Lib.hid hi
  have HL := Lib.hid h
  have HN := Lib.hid hn
  have HV := Lib.hid hV
  have HAo := Lib.hid hao
  clear h hn hV hi hao
  obtain ⟨r, hr⟩ : ∃ r : Bool, r = true ↔ SetOk L := ⟨@decide (SetOk L) (Classical.propDecidable _), by simp⟩
  have C54 := Lib.hid (isSet_any w ao L n cap HN.out hcap HL.out r hr)
  have HR := Lib.hid hr
  clear hr
  go_enter Try.func33, Try.ntmps33
  go_wp2_with fail
  refine (C54.out).mono ?_
  rintro e w1 ⟨rfl, hb⟩
  have HB1 := Lib.hid hb
  clear hb C54
  cases r with
  | false =>
    have HAns : Hid (ChAns V L [] 1) := Lib.hid (.inr ⟨fun h => by have := HR.out.2 h; simp at this, rfl, rfl⟩)
    clear HR
    go_wp2
    go_ret2
    exact ⟨none, 0, [], 1, rfl, HAns.out, .inr ⟨rfl, rfl, rfl⟩, by simp, HB1.out⟩
  | true =>
    have HS := Lib.hid (HR.out.1 rfl)
    clear HR
    go_wp2
    go_loopw [0, 4] (fun s v wr => ChInv V w L s v wr) (fun _ v _ => 21 - slen v)
    case atStart =>
      have hm := World.ownsRow_made (base := w.heap.size) (e := 29) (size := 3) w1 #[] 0 HB1.out.size (by unfold maxLen; omega) (by simp)
      refine ⟨L, [], ao, n, cap, rfl, HN.out, by rw [HN.out]; exact HS.out.2.2, HS.out.fr, (HL.out.below HB1.out).below (below_alloc (Below.refl _ _) _), fun a ha => by have := HAo.out a ha; have := HB1.out.size; simp; omega, by simpa [MOwn, mcells] using hm, by simp, fun a ha => ?_, by simp, fun R c h => h, below_alloc HB1.out _⟩
      have := HAo.out a ha
      have h2 := HB1.out.size
      simp [Value.ownBlock]; omega
    case round =>
      obtain ⟨Lk, Ok, bo, k, cp, rfl, hk, hk12, hfr, hls, hbo, hown, hne, hapt, hlen, hch, hbel⟩ := hrel
      have HF := Lib.hid hfr
      have HK := Lib.hid hk
      have HLs := Lib.hid hls
      have HBo := Lib.hid hbo
      have HApt := Lib.hid hapt
      have HCh := Lib.hid hch
      have HB := Lib.hid hbel
      obtain ⟨g, c, rfl⟩ := hown.shape hne
      obtain ⟨nO, hnO⟩ : ∃ q, q = Ok.length := ⟨_, rfl⟩
      have HnO := Lib.hid hnO
      rw [← hnO] at hown hlen ⊢
      have HO := Lib.hid hown
      clear hfr hk hls hbo hown hne hapt hch hbel hnO HB1
      obtain ⟨⟨⟨m0, m1, m2⟩, cd⟩, hN⟩ : ∃ N, nextOf Lk = N := ⟨_, rfl⟩
      have C83 := Lib.hid (nextMove_any wr bo Lk k cp HK.out hk12 HF.out HLs.out)
      have hcode := next_code Lk
      rw [hN] at C83 hcode
      have HNx := Lib.hid hN
      simp only at C83 hcode
      clear hN
      go_wp2_with fail
      refine (C83.out).mono ?_
      rintro e w2 ⟨rfl, hb⟩
      have HB2 := Lib.hid (below_step HB.out hb)
      have HLs2 := Lib.hid (HLs.out.below hb)
      have HO2 : Hid (MOwn w2 w.heap.size (.slice (some ⟨g, 0, none⟩) nO c) Ok) := Lib.hid (own_below HO.out hb)
      have HBo2 : Hid (∀ a, bo = some a → a.block < w2.heap.size) := Lib.hid fun a ha => Nat.lt_of_lt_of_le (HBo.out a ha) hb.size
      clear hb C83 HB HLs HO HBo
      rcases hcode with rfl | rfl | rfl
      · have HAns : Hid (ChAns V L Ok 0) := Lib.hid (.inl ⟨HS.out, HCh.out _ _ (.done (by rw [HNx.out]))⟩)
        obtain ⟨hrow, hg⟩ := HO2.out.row
        have HRw := Lib.hid (hrow.below (below_alloc (Below.refl _ _) (.cells #[.int .i64 m0, .int .i64 m1, .int .i64 m2] 29)))
        clear hrow
        go_wp2
        go_ret2
        exact ⟨_, c, Ok, 0, by rw [← HnO.out]; rfl, HAns.out, .inl ⟨g, rfl, hg, HRw.out⟩, by rw [← HnO.out]; exact hlen, below_alloc HB2.out _⟩
      · by_cases h20 : nO = 20
        · have HAns : Hid (ChAns V L [] 3) := Lib.hid (.inl ⟨HS.out, HCh.out _ _ (.lim (by rw [HNx.out]; simp) (.inr (by rw [← HnO.out]; exact h20)))⟩)
          have h20' : ((nO : Int) == 20) = true := by simp; omega
          go_wp2
          go_ret2
          exact ⟨none, 0, [], 3, rfl, HAns.out, .inr ⟨rfl, rfl, rfl⟩, by simp, below_alloc HB2.out _⟩
        · have h20' : ((nO : Int) == 20) = false := by simp; omega
          have hm : Mv m0 m1 m2 := by
            have := next_mv (L := Lk) (by rw [HNx.out])
            rw [HNx.out] at this
            exact this
          have HM := Lib.hid hm
          clear hm
          go_wp2_with (at_builtin; refine wpList_append_own_at _ rfl (.tmp 28) (.tmp 30) 37 rfl w.heap.size 29 i0 (.agg #[.int .i64 0, .int .i64 0, .int .i64 0]) 3 24 hu37 HI.out hz0 hz1 hz2 rfl (by decide) (.slice (some ⟨g, 0, none⟩) nO c) Ok.length (mcells Ok) rfl ((HO2.out.alloc _).alloc _) ⟨w2.heap.size + 1, 0, none⟩ 1 1 [.int .i64 m0, .int .i64 m1, .int .i64 m2] rfl rfl ?c1 ?c2 ?c3 ?c4 ?c5 ?_)
          case c1 => intro j u hu; have := news_three (w2.alloc (.cells #[.int .i64 m0, .int .i64 m1, .int .i64 m2] 29)) m0 m1 m2 j u hu; simpa using this
          case c2 => intro u hu; simp at hu; rcases hu with rfl | rfl | rfl <;> rfl
          case c3 => rw [← HnO.out]; unfold maxLen; omega
          case c4 => rw [← HnO.out]; omega
          case c5 => have := HB2.out.size; simp; omega
          intro v' w4 ho hg hnil hat
          have hne' : v' ≠ .slice none 0 0 := by simpa using hnil
          have hgl : g < w2.heap.size := (HO2.out.row.1).lt
          have ho' : MOwn w4 w.heap.size v' (Ok ++ [(m0, m1, m2)]) := by
            unfold MOwn
            rw [List.length_append, ← mcells_snoc]
            simpa using ho
          have hs4 : w2.heap.size + 1 + 1 ≤ w4.heap.size := by simpa using hg.size
          have hbox : w4.heap[w2.heap.size]? = some (.cells #[.int .i64 m0, .int .i64 m1, .int .i64 m2] 29 (0, 0)) :=
            (hg.block _ (by simp; omega) (by simp [Value.ownBlock]; omega)).trans (blk_alloc (heap_alloc_new w2 _) _)
          have hls4 := (HLs2.out.below (below_alloc (below_alloc (Below.refl _ _) (.cells #[.int .i64 m0, .int .i64 m1, .int .i64 m2] 29)) (.cells #[.int .i64 m0, .int .i64 m1, .int .i64 m2] 29))).grown hg (fun a ha => HApt.out a ha)
          have hb4 := below_grown (below_alloc (below_alloc HB2.out (.cells #[.int .i64 m0, .int .i64 m1, .int .i64 m2] 29)) (.cells #[.int .i64 m0, .int .i64 m1, .int .i64 m2] 29)) hg (fun k hk => own_base HO2.out k hk)
          obtain ⟨g4, c4, rfl⟩ := ho'.shape hne'
          have hl4 : (Ok ++ [(m0, m1, m2)]).length = nO + 1 := by rw [List.length_append, ← HnO.out]; rfl
          rw [hl4] at ho' ⊢
          have hg4l := (ho'.row.1).lt
          have HO4 := Lib.hid ho'
          have HB4 := Lib.hid hb4
          have HL4 := Lib.hid hl4
          have C81 := Lib.hid (image_any w4 m0 m1 m2 bo Lk k cp (V (m0, m1, m2)) HM.out HK.out hk12 HF.out (fun x hx => HV.out (m0, m1, m2) HM.out x (HF.out x hx)) hls4)
          obtain ⟨e0, e1, e2⟩ := cells3 hbox
          clear ho hg hnil hat hne' ho' hls4 hb4 hl4 HO2 HB2 HLs2 hbox
          go_wp2_with fail
          refine (C81.out).mono ?_
          rintro e w5 ⟨hres, hb⟩
          have HB5 := Lib.hid (below_step HB4.out hb)
          have HO5 : Hid (MOwn w5 w.heap.size (.slice (some ⟨g4, 0, none⟩) (nO + 1) c4) (Ok ++ [(m0, m1, m2)])) := Lib.hid (own_below HO4.out hb)
          have hs5 := hb.size
          clear hb C81
          rcases hres with ⟨hall, g5, c5, R, rfl, hg5, hrow, hasc, hmem, hlenR⟩ | ⟨hnot, rfl⟩
          · have hStep : ∀ R' c', Ch V R (Ok ++ [(m0, m1, m2)]) R' c' → Ch V L [] R' c' := fun R' c' hc => HCh.out _ _ (.step (L' := R) (by rw [HNx.out]) (by rw [← HnO.out]; exact h20) (by rw [HNx.out]; exact hall) hasc (by rw [HNx.out]; exact hmem) (by rw [HNx.out]; exact hc))
            have hg5l := hrow.lt
            have HSt := Lib.hid hStep
            have HRw := Lib.hid hrow
            have HAs := Lib.hid hasc
            have HRl : Hid (R.length ≤ 12) := Lib.hid (by have := HK.out; omega)
            clear hall hrow hasc hmem hlenR hStep e0 e1 e2
            go_wp2
            go_roundw
            case rel => exact ⟨R, Ok ++ [(m0, m1, m2)], _, R.length, c5, rfl, rfl, HRl.out, HAs.out.1, HRw.out.reads, fun a ha => by cases ha; exact hg5l, HO5.out, by simp, fun a ha => by cases ha; simp [Value.ownBlock]; omega, by rw [HL4.out]; omega, HSt.out, HB5.out⟩
            case measure => simp [slen]; omega
          · have HAns : Hid (ChAns V L [] 3) := Lib.hid (.inl ⟨HS.out, HCh.out _ _ (.bad (by rw [HNx.out]) (by rw [← HnO.out]; exact h20) (by rw [HNx.out]; exact hnot))⟩)
            clear hnot e0 e1 e2
            go_wp2
            go_ret2
            exact ⟨none, 0, [], 3, rfl, HAns.out, .inr ⟨rfl, rfl, rfl⟩, by simp, HB5.out⟩
      · have HAns : Hid (ChAns V L [] 3) := Lib.hid (.inl ⟨HS.out, HCh.out _ _ (.lim (by rw [HNx.out]; simp) (.inl (by rw [HNx.out]; simp)))⟩)
        go_wp2
        go_ret2
        exact ⟨none, 0, [], 3, rfl, HAns.out, .inr ⟨rfl, rfl, rfl⟩, by simp, below_alloc HB2.out _⟩
end Go.Proofs.Ytaplebckjbbobaa.Fl
end
section
set_option linter.unusedSimpArgs false
namespace Go.Proofs.Ytaplebckjbbobaa.Fl
open Go.RowKit Bs Grd
open FracMath (Fr IsVal Fits Mv)
open Low (M3 Lst)
def LRes (w : World) (V : M3 → F2 → F2) (L : List F2) (e : Ending) (w' : World) : Prop :=
  ∃ ao cap R c b, e = .returned (.tuple #[.slice ao R.length cap, .bool b]) ∧ Ch V L [] R c ∧ ((c = 0 ∧ b = true) ∨ (c = 3 ∧ b = false ∧ R = [])) ∧ MNew w w' ao cap R ∧ R.length ≤ 20 ∧ Below w.heap.size w w'
set_option maxHeartbeats 4000000 in
set_option maxRecDepth 100000 in
theorem l10Chain_any (w : World) (V : M3 → F2 → F2) (ao : Option Addr) (L : List F2) (n cap : Nat) (hV : ValsAll V) (hn : n = L.length) (hS : SetOk L) (h : FLst w ao L) (hao : ∀ a, ao = some a → a.block < w.heap.size) :
    Calls Try.prog 82 #[.slice ao n cap] w (LRes w V L) := by
  have hu29 := Try.underlying29
  have hu37 := Try.underlying37
  obtain ⟨i0, hi, hz0, hz1, hz2⟩ := info_parts minfo29
  have HI := Lib.hid hi
  have HL := Lib.hid h
  have HN := Lib.hid hn
  have HV := Lib.hid hV
  have HAo := Lib.hid hao
  have HS := Lib.hid hS
  clear h hn hV hi hao hS
  go_enter Try.func82, Try.ntmps82
  go_wp2
  go_loopw [0, 4] (fun s v wr => ChInv V w L s v wr) (fun _ v _ => 21 - slen v)
  case atStart =>
    have hm := World.ownsRow_made (base := w.heap.size) (e := 29) (size := 3) w #[] 0 (Nat.le_refl _) (by unfold maxLen; omega) (by simp)
    refine ⟨L, [], ao, n, cap, rfl, HN.out, by rw [HN.out]; exact HS.out.2.2, HS.out.fr, HL.out.below (below_alloc (Below.refl _ _) _), fun a ha => by have := HAo.out a ha; simp; omega, by simpa [MOwn, mcells] using hm, by simp, fun a ha => ?_, by simp, fun R c h => h, below_alloc (Below.refl _ _) _⟩
    have := HAo.out a ha
    simp [Value.ownBlock]; omega
  case round =>
    obtain ⟨Lk, Ok, bo, k, cp, rfl, hk, hk12, hfr, hls, hbo, hown, hne, hapt, hlen, hch, hbel⟩ := hrel
    have HF := Lib.hid hfr
    have HK := Lib.hid hk
    have HLs := Lib.hid hls
    have HBo := Lib.hid hbo
    have HApt := Lib.hid hapt
    have HCh := Lib.hid hch
    have HB := Lib.hid hbel
    obtain ⟨g, c, rfl⟩ := hown.shape hne
    obtain ⟨nO, hnO⟩ : ∃ q, q = Ok.length := ⟨_, rfl⟩
    have HnO := Lib.hid hnO
    rw [← hnO] at hown hlen ⊢
    have HO := Lib.hid hown
    clear hfr hk hls hbo hown hne hapt hch hbel hnO
    have C98 := Lib.hid (l10Next_any wr bo Lk k cp HK.out hk12 HF.out HLs.out)
    go_wp2_with fail
    refine (C98.out).mono ?_
    rintro e w2 ⟨⟨m0, m1, m2, ok, done, rfl, hres⟩, hb⟩
    have HB2 := Lib.hid (below_step HB.out hb)
    have HLs2 := Lib.hid (HLs.out.below hb)
    have HO2 : Hid (MOwn w2 w.heap.size (.slice (some ⟨g, 0, none⟩) nO c) Ok) := Lib.hid (own_below HO.out hb)
    have hgl : g < w2.heap.size := (HO2.out.row.1).lt
    clear hb C98 HB HLs HO HBo
    rcases hres with ⟨h5, rfl⟩ | ⟨h0, rfl, rfl, hm⟩ | ⟨h3, rfl, rfl⟩
    · have HC : Hid (Ch V L [] Ok 0) := Lib.hid (HCh.out _ _ (.done h5))
      obtain ⟨hrow, hg⟩ := HO2.out.row
      have HRw := Lib.hid (hrow.below (below_alloc (Below.refl _ _) (.cells #[.int .i64 m0, .int .i64 m1, .int .i64 m2] 29)))
      clear hrow h5
      go_wp2
      go_ret2
      exact ⟨_, c, Ok, 0, true, by rw [← HnO.out]; rfl, HC.out, .inl ⟨rfl, rfl⟩, .inl ⟨g, rfl, hg, HRw.out⟩, by rw [← HnO.out]; exact hlen, below_alloc HB2.out _⟩
    · by_cases h20 : nO = 20
      · have HC : Hid (Ch V L [] [] 3) := Lib.hid (HCh.out _ _ (.lim (by rw [h0]; simp) (.inr (by rw [← HnO.out]; exact h20))))
        have h20' : ((nO : Int) == 20) = true := by simp; omega
        clear h0 hm
        go_wp2
        go_ret2
        exact ⟨none, 0, [], 3, false, rfl, HC.out, .inr ⟨rfl, rfl, rfl⟩, .inr ⟨rfl, rfl, rfl⟩, by simp, below_alloc HB2.out _⟩
      · have h20' : ((nO : Int) == 20) = false := by simp; omega
        have hmv : Mv m0 m1 m2 := by
          have := next_mv h0
          rw [← hm] at this
          exact this
        have HM := Lib.hid hmv
        have HZ := Lib.hid h0
        have HE := Lib.hid hm
        have hbox2 := heap_alloc_new w2 (.cells #[.int .i64 m0, .int .i64 m1, .int .i64 m2] 29)
        have HBx := Lib.hid hbox2
        have C80 := Lib.hid (spec_image_any (w2.alloc (.cells #[.int .i64 m0, .int .i64 m1, .int .i64 m2] 29)) m0 m1 m2 bo Lk k cp (V (m0, m1, m2)) HM.out HK.out hk12 HF.out (fun x hx => HV.out (m0, m1, m2) HM.out x (HF.out x hx)) (HLs2.out.below (below_alloc (Below.refl _ _) _)))
        clear h0 hm hmv hbox2
        go_wp2_with fail
        refine (C80.out).mono ?_
        rintro e w5 ⟨hres, hb⟩
        have HB5 := Lib.hid (below_step (below_alloc HB2.out _) hb)
        have HO5 : Hid (MOwn w5 w.heap.size (.slice (some ⟨g, 0, none⟩) nO c) Ok) := Lib.hid (own_below (World.ownsRow.alloc HO2.out _) hb)
        have hs5 : w2.heap.size + 1 ≤ w5.heap.size := by simpa using hb.size
        have HBx5 := Lib.hid (blk_below HBx.out hb)
        clear hb C80 HBx HB2 HO2 HLs2
        rcases hres with ⟨hall, g5, c5, R, rfl, hg5, hrow, hasc, hmem, hlenR⟩ | ⟨hnot, rfl⟩
        · have hStep : ∀ R' c', Ch V R (Ok ++ [(m0, m1, m2)]) R' c' → Ch V L [] R' c' := fun R' c' hc => HCh.out _ _ (.step (L' := R) HZ.out (by rw [← HnO.out]; exact h20) (by rw [← HE.out]; exact hall) hasc (by rw [← HE.out]; exact hmem) (by rw [← HE.out]; exact hc))
          have hg5l := hrow.lt
          have hg5' : w2.heap.size + 1 ≤ g5 := by simpa using hg5
          have HSt := Lib.hid hStep
          have HRw := Lib.hid hrow
          have HAs := Lib.hid hasc
          have HRl : Hid (R.length ≤ 12) := Lib.hid (by have := HK.out; omega)
          obtain ⟨e0, e1, e2⟩ := cells3 HBx5.out
          clear hall hrow hasc hmem hlenR hStep hg5
          go_wp2_with (at_builtin; refine wpList_append_own_at _ rfl (.tmp 34) (.tmp 36) 37 rfl w.heap.size 29 i0 (.agg #[.int .i64 0, .int .i64 0, .int .i64 0]) 3 24 hu37 HI.out hz0 hz1 hz2 rfl (by decide) (.slice (some ⟨g, 0, none⟩) nO c) Ok.length (mcells Ok) rfl (HO5.out.alloc _) ⟨w5.heap.size, 0, none⟩ 1 1 [.int .i64 m0, .int .i64 m1, .int .i64 m2] rfl rfl ?c1 ?c2 ?c3 ?c4 ?c5 ?_)
          case c1 => intro j u hu; exact news_three w5 m0 m1 m2 j u hu
          case c2 => intro u hu; simp at hu; rcases hu with rfl | rfl | rfl <;> rfl
          case c3 => rw [← HnO.out]; unfold maxLen; omega
          case c4 => rw [← HnO.out]; omega
          case c5 => have := HB5.out.size; simp; omega
          intro v' w6 ho hg hnil hat
          have hne' : v' ≠ .slice none 0 0 := by simpa using hnil
          have ho' : MOwn w6 w.heap.size v' (Ok ++ [(m0, m1, m2)]) := by
            unfold MOwn
            rw [List.length_append, ← mcells_snoc]
            simpa using ho
          have hb6 := below_grown (below_alloc HB5.out (.cells #[.int .i64 m0, .int .i64 m1, .int .i64 m2] 29)) hg (fun k hk => own_base HO5.out k hk)
          have hrow6 := (FRow.below HRw.out (below_alloc (Below.refl _ _) (.cells #[.int .i64 m0, .int .i64 m1, .int .i64 m2] 29))).grown hg (by simp [Value.ownBlock]; omega)
          have hs6 : w5.heap.size + 1 ≤ w6.heap.size := by simpa using hg.size
          obtain ⟨g6, c6, rfl⟩ := ho'.shape hne'
          have hg6 : g6 ≠ g5 := by
            rcases hat with hat | hat
            · have : g6 = g := by simpa [Value.ownBlock] using hat
              omega
            · have : g6 = w5.heap.size + 1 := by simpa [Value.ownBlock] using hat
              omega
          have hl6 : (Ok ++ [(m0, m1, m2)]).length = nO + 1 := by rw [List.length_append, ← HnO.out]; rfl
          rw [hl6] at ho' ⊢
          have HO6 := Lib.hid ho'
          have HB6 := Lib.hid hb6
          have HR6 := Lib.hid hrow6
          have HL6 := Lib.hid hl6
          clear ho hg hnil hat hne' ho' hb6 hrow6 hl6 e0 e1 e2
          go_wp2
          go_roundw
          case rel => exact ⟨R, Ok ++ [(m0, m1, m2)], _, R.length, c5, rfl, rfl, HRl.out, HAs.out.1, HR6.out.reads, fun a ha => by cases ha; show g5 < _; omega, HO6.out, by simp, fun a ha => by cases ha; simp [Value.ownBlock]; omega, by rw [HL6.out]; omega, HSt.out, HB6.out⟩
          case measure => simp [slen]; omega
        · have HC : Hid (Ch V L [] [] 3) := Lib.hid (HCh.out _ _ (.bad HZ.out (by rw [← HnO.out]; exact h20) (by rw [← HE.out]; exact hnot)))
          clear hnot
          go_wp2
          go_ret2
          exact ⟨none, 0, [], 3, false, rfl, HC.out, .inr ⟨rfl, rfl, rfl⟩, .inr ⟨rfl, rfl, rfl⟩, by simp, HB5.out⟩
    · have HC : Hid (Ch V L [] [] 3) := Lib.hid (HCh.out _ _ (.lim (by rw [h3]; simp) (.inl (by rw [h3]; simp))))
      clear h3
      go_wp2
      go_ret2
      exact ⟨none, 0, [], 3, false, rfl, HC.out, .inr ⟨rfl, rfl, rfl⟩, .inr ⟨rfl, rfl, rfl⟩, by simp, below_alloc HB2.out _⟩
theorem MNew.base {w W w' : World} {ao : Option Addr} {c : Nat} {R : List M3} (h : MNew W w' ao c R) (hb : w.heap.size ≤ W.heap.size) : MNew w w' ao c R := by
  rcases h with ⟨g, h1, h2, h3⟩ | h
  · exact .inl ⟨g, h1, by omega, h3⟩
  · exact .inr h
set_option maxHeartbeats 4000000 in
set_option maxRecDepth 100000 in
theorem spec_chainOf_any (w : World) (V : M3 → F2 → F2) (ao : Option Addr) (L : List F2) (n cap : Nat) (hV : ValsAll V) (hn : n = L.length) (hcap : n ≤ 1048576) (h : FLst w ao L) (hao : ∀ a, ao = some a → a.block < w.heap.size) :
    Calls Try.prog 32 #[.slice ao n cap] w (CRes w V L) := by
  have HL := Lib.hid h
  have HN := Lib.hid hn
  have HV := Lib.hid hV
  have HAo := Lib.hid hao
  clear h hn hV hao
  obtain ⟨r, hr⟩ : ∃ r : Bool, r = true ↔ SetOk L := ⟨@decide (SetOk L) (Classical.propDecidable _), by simp⟩
  have C79 := Lib.hid (l10Set_any w ao L n cap HN.out hcap HL.out r hr)
  have HR := Lib.hid hr
  clear hr
  go_enter Try.func32, Try.ntmps32
  go_wp2_with fail
  refine (C79.out).mono ?_
  rintro e w1 ⟨rfl, hb⟩
  have HB1 := Lib.hid hb
  clear hb C79
  cases r with
  | false =>
    have HAns : Hid (ChAns V L [] 1) := Lib.hid (.inr ⟨fun h => by have := HR.out.2 h; simp at this, rfl, rfl⟩)
    clear HR
    go_wp2
    go_ret2
    exact ⟨none, 0, [], 1, rfl, HAns.out, .inr ⟨rfl, rfl, rfl⟩, by simp, HB1.out⟩
  | true =>
    have HS := Lib.hid (HR.out.1 rfl)
    clear HR
    have C82 := Lib.hid (l10Chain_any w1 V ao L n cap HV.out HN.out HS.out (HL.out.below HB1.out) (fun a ha => Nat.lt_of_lt_of_le (HAo.out a ha) HB1.out.size))
    go_wp2_with fail
    refine (C82.out).mono ?_
    rintro e w2 ⟨a2, c2, R, c, b, rfl, hch, hcb, hnew, hlen, hb⟩
    have HB2 := Lib.hid (below_step HB1.out hb)
    have HNw := Lib.hid (hnew.base HB1.out.size)
    have HC := Lib.hid hch
    obtain ⟨nR, hnR⟩ : ∃ q, q = R.length := ⟨_, rfl⟩
    have HnR := Lib.hid hnR
    rw [← hnR] at hlen ⊢
    clear hb hch hnew C82 hnR
    rcases hcb with ⟨rfl, rfl⟩ | ⟨rfl, rfl, hR0⟩
    · go_wp2
      go_ret2
      exact ⟨a2, c2, R, 0, by rw [← HnR.out]; rfl, .inl ⟨HS.out, HC.out⟩, HNw.out, by rw [← HnR.out]; exact hlen, HB2.out⟩
    · have HC0 : Hid (Ch V L [] [] 3) := Lib.hid (hR0 ▸ HC.out)
      clear hR0
      go_wp2
      go_ret2
      exact ⟨none, 0, [], 3, rfl, .inl ⟨HS.out, HC0.out⟩, .inr ⟨rfl, rfl, rfl⟩, by simp, HB2.out⟩
end Go.Proofs.Ytaplebckjbbobaa.Fl
end
