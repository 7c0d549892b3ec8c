/- WORDS: an argument that is a time (six whole numbers). -/
import Derived.Test.YtkmkeimofhpkeaaDoorOpen
namespace Go.Proofs.YtkmkeimofhpkeaaDoor
set_option linter.unusedVariables false
set_option linter.unusedSimpArgs false
open Go.ChangeShapes Go.WideShapes Go.ChangeAt Go.RowKit Go.Joins Go.Deep

theorem cells3 : Tryd.prog.cellsOf 3 = 1 := by kernel_rfl
theorem cells34 : Tryd.prog.cellsOf 34 = 6 := by kernel_rfl
theorem array6 {α : Type} {cs : Array α} (h : cs.size = 6) : ∃ c0 c1 c2 c3 c4 c5, cs = #[c0, c1, c2, c3, c4, c5] := by
  obtain ⟨l⟩ := cs
  match l, h with
  | [c0, c1, c2, c3, c4, c5], _ => exact ⟨c0, c1, c2, c3, c4, c5, rfl⟩

section
variable {H : Type} {enc : TypeId × Value → H} {w : World} {base : Nat} {spare : Nat → Bool} {held : Bool}

theorem field_int {n : Nat} {c : Value} {o : Option (DataW H × List MemPlace)} (h : DataW.trod enc Tryd.prog w base spare held n 3 [c] = o) (ho : o.isSome = true) : ∃ k, c = .int .i64 k ∧ -9223372036854775808 ≤ k ∧ k ≤ 9223372036854775807 := by
  obtain ⟨y, rfl⟩ := Option.isSome_iff_exists.1 ho
  obtain ⟨a, e0, _, w0⟩ := DataW.trod_int Tryd.underlying3 h
  simp only [List.cons.injEq, and_true] at e0
  have b0 := bounds_i64 w0
  exact ⟨a, e0, b0.1, b0.2⟩

set_option maxRecDepth 100000 in
theorem open_time {r : Reach} {b0 : Nat} {v : Value} {d : DataW H} {p : List MemPlace} (hv : Value.okWide Tryd.prog w r b0 34 v) (h : DataW.Trod enc Tryd.prog w base spare held 34 v d p) :
    ∃ t0 t1 t2 t3 t4 t5 : Int, v = tagg t0 t1 t2 t3 t4 t5 ∧ True := by
  obtain ⟨cs, rfl, hsz⟩ := okWide_struct Tryd.underlying34 hv
  obtain ⟨c0, c1, c2, c3, c4, c5, rfl⟩ := array6 (hsz.trans cells34)
  obtain ⟨fuel, hf⟩ := h
  obtain ⟨xs, n, _, hx, hl, hlen, hfld⟩ := DataW.trod_struct Tryd.underlying34 hf
  have hlen6 : xs.length = 6 := by simpa using hlen
  have g0 := hfld 0 _ rfl
  have g1 := hfld 1 _ rfl
  have g2 := hfld 2 _ rfl
  have g3 := hfld 3 _ rfl
  have g4 := hfld 4 _ rfl
  have g5 := hfld 5 _ rfl
  simp only [cells3, Value.cells] at g0 g1 g2 g3 g4 g5
  obtain ⟨k0, rfl, -⟩ := field_int (by simpa [cells3] using g0) (by simp [hlen6])
  obtain ⟨k1, rfl, -⟩ := field_int (by simpa [cells3] using g1) (by simp [hlen6])
  obtain ⟨k2, rfl, -⟩ := field_int (by simpa [cells3] using g2) (by simp [hlen6])
  obtain ⟨k3, rfl, -⟩ := field_int (by simpa [cells3] using g3) (by simp [hlen6])
  obtain ⟨k4, rfl, -⟩ := field_int (by simpa [cells3] using g4) (by simp [hlen6])
  obtain ⟨k5, rfl, -⟩ := field_int (by simpa [cells3] using g5) (by simp [hlen6])
  exact ⟨k0, k1, k2, k3, k4, k5, rfl, trivial⟩
end

end Go.Proofs.YtkmkeimofhpkeaaDoor
