/- Sorting two numbers. -/
import Derived.Test.YtaplebckjbbobaaGridB
set_option linter.unusedSimpArgs false
namespace Go.Proofs.Ytaplebckjbbobaa.Grd
open Go.RowKit Bs

set_option maxHeartbeats 4000000 in
set_option maxRecDepth 100000 in
theorem len64_two (w : World) : Calls Try.prog 131 #[.int .u64 2] w fun e w' => (∃ k : Int, e = .returned (.int .i64 k)) ∧ w' = w := by
  go_enter Try.func131, Try.ntmps131
  go_wp2
  go_ret
  exact ⟨⟨_, rfl⟩, rfl⟩
theorem len_two (w : World) : Calls Try.prog 117 #[.int .u64 2] w fun e w' => (∃ k : Int, e = .returned (.int .i64 k)) ∧ w' = w := by
  go_enter Try.func117, Try.ntmps117
  go_wp2_with (go_at_call 131; refine (len64_two _).mono ?_; rintro e w1 ⟨⟨k, rfl⟩, rfl⟩)
  go_ret
  exact ⟨⟨_, rfl⟩, rfl⟩

theorem nan_any (a : Int) (w : World) : Calls Try.prog 145 #[.int .i64 a] w fun e w' => e = .returned (.bool false) ∧ w' = w := by
  have h1 : (a != a) = false := by simp
  go_enter Try.func145, Try.ntmps145
  go_wp2
  go_ret
  exact ⟨rfl, rfl⟩
theorem less_any (a b : Int) (w : World) : Calls Try.prog 127 #[.int .i64 a, .int .i64 b] w fun e w' => e = .returned (.bool (decide (a < b))) ∧ w' = w := by
  have C := Lib.hid (fun a W => nan_any a W)
  go_enter Try.func127, Try.ntmps127
  go_wp2_with (go_at_call 145; refine (C.out _ _).mono ?_; rintro e w1 ⟨rfl, rfl⟩)
  go_ret
  exact ⟨rfl, rfl⟩
theorem Only.trans {g : Nat} {a b c : World} (h : Only g a b) (k : Only g b c) : Only g a c := ⟨k.os.trans h.os, k.tape.trans h.tape, k.output.trans h.output, k.size.trans h.size, fun i hi => (k.block i hi).trans (h.block i hi)⟩
theorem Only.drew {g : Nat} {w w' : World} (h : Only g w w') : Only g w w'.drew := ⟨h.os, h.tape, h.output, h.size, h.block⟩
theorem Only.drewN {g : Nat} {w w' : World} (h : Only g w w') (n : Nat) : Only g w (w'.drewN n) := ⟨h.os, h.tape, h.output, h.size, h.block⟩
theorem RowAt.drewN {w : World} {g : Nat} {xs : List Int} (h : RowAt w g xs) (n : Nat) : RowAt (w.drewN n) g xs := h.same rfl
theorem RowAt.drew {w : World} {g : Nat} {xs : List Int} (h : RowAt w g xs) : RowAt w.drew g xs := h.same rfl
theorem RowAt.two {w : World} {g : Nat} {a b : Int} (h : RowAt w g [a, b]) (x y : Int) : RowAt ((w.setCell ⟨g, 1, none⟩ (.int .i64 y)).setCell ⟨g, 0, none⟩ (.int .i64 x)) g [x, y] := by simpa using (h.set 1 y).set 0 x

theorem RowAt.two' {w : World} {g : Nat} {a b : Int} (h : RowAt w g [a, b]) (x y : Int) : RowAt ((w.setCell ⟨g, 0, none⟩ (.int .i64 x)).setCell ⟨g, 1, none⟩ (.int .i64 y)) g [x, y] := by simpa using (h.set 0 x).set 1 y
set_option maxHeartbeats 1000000 in
theorem insert_swap (a b : Int) (w : World) (g c : Nat) (hab : b < a) (h : RowAt w g [a, b]) :
    Calls Try.prog 121 #[.slice (some ⟨g, 0, none⟩) 2 c, .int .i64 0, .int .i64 2] w fun e w' => e = .returned (.tuple #[]) ∧ RowAt w' g [b, a] ∧ Only g w w' := by
  have H := Lib.hid h
  have C := Lib.hid (fun a b W => less_any a b W)
  have hd := decide_eq_true hab
  have wz : IntKind.i64.wrap 0 = 0 := by decide
  clear h
  go_enter Try.func121, Try.ntmps121
  go_wp2
  go_loopw [6] (fun i wr => ((i = .int .i64 1 ∧ RowAt wr g [a, b]) ∨ (i = .int .i64 2 ∧ RowAt wr g [b, a])) ∧ Only g w wr) (fun i _ => 2 - (intOf i).toNat)
  case atStart => exact ⟨.inl ⟨rfl, H.out⟩, Only.refl _ _⟩
  case round =>
    obtain ⟨⟨rfl, hrow⟩ | ⟨rfl, hrow⟩, honly⟩ := hrel
    · have HR := Lib.hid hrow
      have HO := Lib.hid honly
      clear hrow honly
      go_wp2
      go_loopw [7] (fun i wr2 => ((i = .int .i64 1 ∧ RowAt wr2 g [a, b]) ∨ (i = .int .i64 0 ∧ RowAt wr2 g [b, a])) ∧ Only g w wr2) (fun i _ => (intOf i).toNat)
      case atStart => exact ⟨.inl ⟨rfl, HR.out⟩, HO.out⟩
      case round =>
        obtain ⟨⟨rfl, hrow⟩ | ⟨rfl, hrow⟩, honly⟩ := hrel
        · have HR2 := Lib.hid hrow
          have HO2 := Lib.hid honly
          clear HR HO honly
          obtain ⟨c0, f0⟩ := hrow.cell (i := 0) (x := a) rfl
          obtain ⟨c1, f1⟩ := hrow.cell (i := 1) (x := b) rfl
          clear hrow
          go_wp2
          go_quiet ((go_at_call 127; refine Calls.quiet_of_same (C.out b a _)))
          go_wp2
          have HR3 := Lib.hid (HR2.out.drewN nq)
          have HO3 := Lib.hid (HO2.out.drewN nq)
          clear HR2 HO2 c0 c1 f0 f1
          generalize wr.drewN nq = W at HR3 HO3 ⊢
          obtain ⟨c0, f0⟩ := HR3.out.cell (i := 0) (x := a) rfl
          obtain ⟨c1, f1⟩ := HR3.out.cell (i := 1) (x := b) rfl
          go_region
          go_wp2
          go_roundw
          case rel => exact ⟨.inr ⟨rfl, (HR3.out.two b a).drew⟩, ((HO3.out.set 1 _).set 0 _).drew⟩
          case measure => decide
        · have HR2 := Lib.hid hrow
          have HO2 := Lib.hid honly
          clear HR HO honly hrow
          go_wp2
          go_quiet (fail)
          go_wp2
          exact ⟨⟨.inr ⟨rfl, HR2.out.drewN nq⟩, HO2.out.drewN nq⟩, by decide⟩
    · go_wp2
      exact bodyPost_end (v := .tuple #[]) (by simp [results, Try.results121, go_sem]) rfl ⟨rfl, hrow, honly⟩
set_option maxHeartbeats 1000000 in
theorem insert_stay (a b : Int) (w : World) (g c : Nat) (hab : ¬ b < a) (h : RowAt w g [a, b]) :
    Calls Try.prog 121 #[.slice (some ⟨g, 0, none⟩) 2 c, .int .i64 0, .int .i64 2] w fun e w' => e = .returned (.tuple #[]) ∧ RowAt w' g [a, b] ∧ Only g w w' := by
  have H := Lib.hid h
  have C := Lib.hid (fun a b W => less_any a b W)
  have hd := decide_eq_false hab
  have wz : IntKind.i64.wrap 0 = 0 := by decide
  clear h
  go_enter Try.func121, Try.ntmps121
  go_wp2
  go_loopw [6] (fun i wr => ((i = .int .i64 1 ∧ RowAt wr g [a, b]) ∨ (i = .int .i64 2 ∧ RowAt wr g [a, b])) ∧ Only g w wr) (fun i _ => 2 - (intOf i).toNat)
  case atStart => exact ⟨.inl ⟨rfl, H.out⟩, Only.refl _ _⟩
  case round =>
    obtain ⟨⟨rfl, hrow⟩ | ⟨rfl, hrow⟩, honly⟩ := hrel
    · have HR := Lib.hid hrow
      have HO := Lib.hid honly
      clear hrow honly
      go_wp2
      go_loopw [7] (fun i wr2 => i = .int .i64 1 ∧ RowAt wr2 g [a, b] ∧ Only g w wr2) (fun i _ => (intOf i).toNat)
      case atStart => exact ⟨rfl, HR.out, HO.out⟩
      case round =>
        obtain ⟨rfl, hrow, honly⟩ := hrel
        have HR2 := Lib.hid hrow
        have HO2 := Lib.hid honly
        clear HR HO honly
        obtain ⟨c0, f0⟩ := hrow.cell (i := 0) (x := a) rfl
        obtain ⟨c1, f1⟩ := hrow.cell (i := 1) (x := b) rfl
        clear hrow
        go_wp2
        go_quiet ((go_at_call 127; refine Calls.quiet_of_same (C.out b a _)))
        go_wp2
        exact ⟨⟨.inr ⟨rfl, HR2.out.drewN nq⟩, HO2.out.drewN nq⟩, by decide⟩
    · go_wp2
      exact bodyPost_end (v := .tuple #[]) (by simp [results, Try.results121, go_sem]) rfl ⟨rfl, hrow, honly⟩

theorem insert_any (a b : Int) (w : World) (g c : Nat) (h : RowAt w g [a, b]) :
    Calls Try.prog 121 #[.slice (some ⟨g, 0, none⟩) 2 c, .int .i64 0, .int .i64 2] w fun e w' => e = .returned (.tuple #[]) ∧ RowAt w' g [min a b, max a b] ∧ Only g w w' := by
  by_cases hab : b < a
  · rw [show min a b = b by omega, show max a b = a by omega]; exact insert_swap a b w g c hab h
  · rw [show min a b = a by omega, show max a b = b by omega]; exact insert_stay a b w g c hab h
set_option maxHeartbeats 1000000 in
set_option maxRecDepth 100000 in
theorem pdq_any (a b k : Int) (w : World) (g c : Nat) (h : RowAt w g [a, b]) :
    Calls Try.prog 116 #[.slice (some ⟨g, 0, none⟩) 2 c, .int .i64 0, .int .i64 2, .int .i64 k] w fun e w' => e = .returned (.tuple #[]) ∧ RowAt w' g [min a b, max a b] ∧ Only g w w' := by
  have C := Lib.hid (fun W hW => insert_any a b W g c hW)
  have H := Lib.hid h
  clear h
  go_enter Try.func116, Try.ntmps116
  go_wp2
  go_loopw [1, 2, 3] (fun a b l wr => a = .int .i64 0 ∧ b = .int .i64 2 ∧ l = .int .i64 k ∧ wr = w) (fun _ _ _ _ => 0)
  case atStart => exact ⟨rfl, rfl, rfl, rfl⟩
  case round =>
    obtain ⟨rfl, rfl, rfl, rfl⟩ := hrel
    go_wp2_with fail
    refine (C.out _ H.out).mono ?_
    rintro e w1 ⟨rfl, hr, ho⟩
    go_wp2
    exact bodyPost_ret (v := .tuple #[]) (by simp [results, Try.results116, go_sem]) rfl ⟨rfl, hr, ho⟩
theorem sort_any (a b : Int) (w : World) (g c : Nat) (h : RowAt w g [a, b]) :
    Calls Try.prog 104 #[.slice (some ⟨g, 0, none⟩) 2 c] w fun e w' => e = .returned (.tuple #[]) ∧ RowAt w' g [min a b, max a b] ∧ Only g w w' := by
  have C := Lib.hid (fun k W hW => pdq_any a b k W g c hW)
  have C2 := Lib.hid (fun W => len_two W)
  have H := Lib.hid h
  clear h
  go_enter Try.func104, Try.ntmps104
  go_wp2_with fail
  refine (C2.out _).mono ?_
  rintro e w1 ⟨⟨k, rfl⟩, rfl⟩
  go_wp2_with fail
  refine (C.out k _ H.out).mono ?_
  rintro e w1 ⟨rfl, hr, ho⟩
  go_wp2
  exact bodyPost_end (v := .tuple #[]) (by simp [results, Try.results104, go_sem]) rfl ⟨rfl, hr, ho⟩
set_option maxHeartbeats 1000000 in
theorem reverse_any (a b : Int) (w : World) (g c : Nat) (h : RowAt w g [a, b]) :
    Calls Try.prog 105 #[.slice (some ⟨g, 0, none⟩) 2 c] w fun e w' => e = .returned (.tuple #[]) ∧ RowAt w' g [b, a] ∧ Only g w w' := by
  have H := Lib.hid h
  clear h
  go_enter Try.func105, Try.ntmps105
  go_wp2
  go_loopw [2, 3] (fun i j wr => ((i = .int .i64 0 ∧ j = .int .i64 1 ∧ RowAt wr g [a, b]) ∨ (i = .int .i64 1 ∧ j = .int .i64 0 ∧ RowAt wr g [b, a])) ∧ Only g w wr) (fun i _ _ => 1 - (intOf i).toNat)
  case atStart => exact ⟨.inl ⟨rfl, rfl, H.out⟩, Only.refl _ _⟩
  case round =>
    obtain ⟨⟨rfl, rfl, hrow⟩ | ⟨rfl, rfl, hrow⟩, honly⟩ := hrel
    · have HR := Lib.hid hrow
      have HO := Lib.hid honly
      obtain ⟨c0, f0⟩ := hrow.cell (i := 0) (x := a) rfl
      obtain ⟨c1, f1⟩ := hrow.cell (i := 1) (x := b) rfl
      clear hrow honly
      go_wp2
      go_region
      go_wp2
      go_roundw
      case rel => exact ⟨.inr ⟨rfl, rfl, (HR.out.two' b a).drew⟩, ((HO.out.set 0 _).set 1 _).drew⟩
      case measure => decide
    · go_wp2
      exact bodyPost_end (v := .tuple #[]) (by simp [results, Try.results105, go_sem]) rfl ⟨rfl, hrow, honly⟩
theorem descending_any (a b : Int) (w : World) (g c : Nat) (h : RowAt w g [a, b]) :
    Calls Try.prog 75 #[.slice (some ⟨g, 0, none⟩) 2 c] w fun e w' => e = .returned (.slice (some ⟨g, 0, none⟩) 2 c) ∧ RowAt w' g [max a b, min a b] ∧ Only g w w' := by
  have C1 := Lib.hid (fun W hW => sort_any a b W g c hW)
  have C2 := Lib.hid (fun W hW => reverse_any (min a b) (max a b) W g c hW)
  have H := Lib.hid h
  clear h
  go_enter Try.func75, Try.ntmps75
  go_wp2_with fail
  refine (C1.out _ H.out).mono ?_
  rintro e w1 ⟨rfl, hr, ho⟩
  have HO := Lib.hid ho
  clear ho
  go_wp2_with fail
  refine (C2.out _ hr).mono ?_
  rintro e w2 ⟨rfl, hr2, ho2⟩
  go_wp2
  go_ret
  exact ⟨rfl, hr2, HO.out.trans ho2⟩
end Go.Proofs.Ytaplebckjbbobaa.Grd
