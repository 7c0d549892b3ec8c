/- WALKS: health's Ends, suspect. -/
import Derived.Test.YtadhcnfgbiokcaaHeWalk2
namespace Go.Proofs.Ytadhcnfgbiokcaa
set_option linter.unusedVariables false
set_option linter.unusedSimpArgs false
open Go.RowKit

/-- A suspicion is as it may be. -/
structure SuOk (cf : Int) (x : Su) : Prop where
  w : x.w < 18446744073709551616
  o1 : 1 ≤ He.ones x.w
  o2 : (He.ones x.w : Int) ≤ cf + 1
  f : 0 ≤ x.f ∧ x.f ≤ 1099511627776
  i : 0 ≤ x.i ∧ x.i ≤ 1073741824
def endVal (h : Hs) : Option Su → Value
  | some x => .tuple #[.int .i64 (endOf h x), .bool true]
  | none => .tuple #[.int .i64 0, .bool false]

set_option maxRecDepth 100000 in
set_option maxHeartbeats 1000000 in
theorem Ends_near (g : Nat) (h : Hs) (k : Nat) (w : World) (H : IsH w g h) (HO : HOk h) (hk : k < 64) (hs : ∀ x, h.s k = some x → SuOk h.cf x) :
    Calls Try.prog 11 #[.pointer (some ⟨g, 0, none⟩), .int .u16 (k : Int)] w fun e w' => e = .returned (endVal h (h.s k)) ∧ Below w.heap.size w w' := by
  have d0 := H.cell k 0 hk (by omega)
  have d1 := H.cell k 1 hk (by omega)
  have d2 := H.cell k 2 hk (by omega)
  have d3 := H.cell k 3 hk (by omega)
  have hkI : (k : Int) < 64 := by omega
  have hk0 : (0 : Int) ≤ (k : Int) := by omega
  have HH := Lib.hid H
  have HHO := Lib.hid HO
  clear H HO
  cases hx : h.s k with
  | none =>
    rw [hx] at d0 d1 d2 d3
    simp only [su, List.getElem?_cons_zero, List.getElem?_cons_succ, Nat.add_zero] at d0 d1 d2 d3
    have HX := Lib.hid hx
    clear hx hs
    go_enter Try.func11, Try.ntmps11
    go_wp2
    refine bodyPost_ret (v := endVal h none) (by simp [results, Try.results11, go_sem, endVal]) rfl ⟨rfl, Below.refl _ _⟩
  | some x =>
    rw [hx] at d0 d1 d2 d3
    simp only [su, List.getElem?_cons_zero, List.getElem?_cons_succ, Nat.add_zero] at d0 d1 d2 d3
    have hso := hs x hx
    have HS := Lib.hid hso
    clear hx hs hso
    go_enter Try.func11, Try.ntmps11
    go_wp2_with fail
    refine (ends_any g h x _ HH.out HHO.out HS.out.w HS.out.o1 HS.out.o2 HS.out.f).mono ?_
    rintro e w1 ⟨rfl, hb⟩
    have HB := Lib.hid hb
    clear hb
    go_wp2
    refine bodyPost_ret (v := endVal h (some x)) (by simp [results, Try.results11, go_sem, endVal]) rfl ⟨rfl, HB.out⟩

theorem suspect_any (n i : Int) (w : World) : Calls Try.prog 10 #[.int .u16 n, .int .i64 i] w fun e w' => e = .returned (.agg #[.int .u16 n, .int .u8 1, .int .i64 i]) ∧ Below w.heap.size w w' := by
  go_enter Try.func10, Try.ntmps10
  go_wp2
  refine bodyPost_ret (v := .agg #[.int .u16 n, .int .u8 1, .int .i64 i]) (by simp [results, Try.results10, go_sem]) rfl ⟨rfl, (Below.refl _ _).alloc (Nat.le_refl _) _⟩

end Go.Proofs.Ytadhcnfgbiokcaa
