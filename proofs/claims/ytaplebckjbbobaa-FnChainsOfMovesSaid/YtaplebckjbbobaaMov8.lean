/- The whole proof of fnChainsOfMoves_holds: its walks, its plain laws and its row; no condition is added. Part 8. -/
import Derived.Test.YtaplebckjbbobaaMov7
import Derived.Test.YtaplebckjbbobaaRows
section
namespace Go.Proofs.Ytaplebckjbbobaa.MovesLaw
open Go.ChangeShapes Go.WideShapes Go.ChangeAt Go.RowKit Go.Joins Go.Deep FrRow
set_option linter.unusedVariables false
theorem cells5 : Try.prog.cellsOf 5 = 1 := by kernel_rfl
theorem shape_lt {W : World} {b : Nat} {x : TypeId × Nat} (h : W.shape? b = some x) : b < W.heap.size := by
  rcases Nat.lt_or_ge b W.heap.size with hl | hg
  · exact hl
  · have : W.heap[b]? = none := Array.getElem?_eq_none hg
    simp [World.shape?, this] at h
set_option maxRecDepth 100000 in
theorem open_bytes {H : Type} {enc : TypeId × Value → H} {W : World} {base b0 : Nat} {r : Reach} {spare : Nat → Bool} {held : Bool} {v : Value} {d : DataW H} {p : List MemPlace}
    (hval : Value.okWide Try.prog W r b0 60 v) (h : DataW.Trod enc Try.prog W base spare held 60 v d p) :
    ∃ (ao : Option Addr) (n cap : Nat), v = .slice ao n cap ∧ n ≤ 9223372036854775807 ∧ Dr.Bts W ao n ∧ (∀ a, ao = some a → a.block < W.heap.size) := by
  obtain ⟨ao, n, cap, rfl⟩ := okWide_slice Try.underlying60 hval
  obtain ⟨fuel, hf⟩ := h
  rcases open_ints Try.underlying60 Try.underlying5 cells5 hf with ⟨hcs, _⟩ | ⟨a, len, cap', zs, hcs, _, hl, hm, hz, _, hcell, hwf⟩
  · simp [Value.cells] at hcs
    obtain ⟨rfl, rfl, rfl⟩ := hcs
    exact ⟨none, 0, 0, rfl, by omega, fun i hi => absurd hi (Nat.not_lt_zero _), fun a ha => by cases ha⟩
  · simp [Value.cells] at hcs
    obtain ⟨rfl, rfl, rfl⟩ := hcs
    have hlz : n ≤ zs.length := by rw [hz]; split <;> omega
    refine ⟨some a, n, cap, rfl, by simp only [maxLen] at hm; omega, fun i hi => ?_, fun a' ha' => ?_⟩
    · have hc := hcell i (by omega)
      have hx : zs.getD i 0 ∈ zs := by
        rw [List.getD_eq_getElem?_getD, List.getElem?_eq_getElem (by omega)]
        exact List.getElem_mem _
      have hw := hwf _ hx
      simp only [Lit.wf, IntKind.min, IntKind.max, IntKind.signed, IntKind.bits, Bool.and_eq_true, decide_eq_true_eq, Bool.false_eq_true, if_false] at hw
      exact ⟨a, _, rfl, hc, hw.1, by omega⟩
    · cases ha'
      simp only [Value.okWide, Try.underlying60, Cell.okWide, Cell.ok] at hval
      obtain ⟨_, _, _, _, row, cells, hs, _⟩ := hval
      exact shape_lt hs
set_option maxRecDepth 100000 in
theorem lifted (os : Os) (started : os.Started) (H : Type) (enc : TypeId × Value → H) :
    ReturnsInHanded {} Try.checked os 9 .any (Rows.fnChainsOfMovesSpec.pre6 enc Try.prog Try.f9 Rows.fnChainsOfMovesRow.domain false) (Rows.fnChainsOfMovesSpec.post enc Try.prog Try.f9 false true false false) := by
  refine returnsInHanded_of_change (C := Try.checked) own started (by kernel_rfl) Try.func9
    (ChangeSpec.witness6 (enc := enc) (C := Try.checked) false ⟨#[], #[.slice none 0 0], []⟩ 8 (by kernel_rfl) (by kernel_rfl) (by kernel_rfl) (by kernel_rfl)) ?_
  intro W base args ds gs before hval0 hW hcnd _
  have hval : ∀ (j : Nat) t v, Try.f9.params[j]? = some t → args[j]? = some v → Value.okWide Try.prog W .any base t v := hval0
  have hW' := hW
  obtain ⟨p, q, hA0, hV, rfl, hfz, hnd⟩ := hW
  have hA : DataW.TrodAll enc Try.prog W 0 (fun _ => true) true Try.f9.params.toList args.toList ds p := hA0
  rw [Try.params9] at hA hval
  obtain ⟨v0, vs0, d0, ds0, p0, q0, hargs, rfl, rfl, h0, r0⟩ := trodAll_cons hA
  obtain ⟨rfl, rfl, rfl⟩ := trodAll_nil r0
  obtain rfl : args = #[v0] := by cases args; simp_all
  obtain ⟨rfl, rfl⟩ := trodVars_none hV
  have k0 := h0
  have lt0 : ∀ x ∈ p0, x.block < W.heap.size := by obtain ⟨m, hm⟩ := k0; exact DataW.trod_lt m _ _ _ hm
  obtain ⟨ao, n, cap, e0, hmax, hL, hlt⟩ := open_bytes (hval 0 60 v0 rfl rfl) h0
  clear hA0 hval0
  have hwalk := Dr.law_chains W ao n cap hmax hL hlt
  rw [← e0] at hwalk
  refine hwalk.mono fun e W' ⟨he, bel⟩ => ?_
  subst he
  exact ⟨_, rfl, _, _, _, [], _, [], hW', trodAll_mk1 (shut_bool Try.underlying4 _), (trodAll_cons_mk (Below.trod laidOut (by kernel_rfl) (of_decide_eq_true (by kernel_rfl)) k0 bel lt0) trodAll_mk0), rfl, bel.frame _, fun h => by cases h⟩
theorem over : Rows.fnChainsOfMovesRow.holds Try.pinned (OpenSpec.ofChange Rows.fnChainsOfMovesSpec) :=
  OpenClaim.holds_of_wide 9 Try.f9 rfl rfl rfl rfl rfl rfl rfl ⟨rfl, rfl, rfl, rfl, rfl⟩ rfl rfl rfl rfl rfl (by kernel_rfl) Try.func9 (by kernel_rfl)
    (of_decide_eq_true (by kernel_rfl)) (by unfold Func.isWrapper; first | (rw [if_pos (by decide +kernel)]; kernel_rfl) | (rw [if_neg (by decide +kernel)]; exact ⟨rfl, rfl⟩))
    (fun os started H enc _ => lifted os started H enc)
theorem fnChainsOfMoves_holds : Rows.FnChainsOfMovesSaid := over
#print axioms fnChainsOfMoves_holds
end Go.Proofs.Ytaplebckjbbobaa.MovesLaw
end
