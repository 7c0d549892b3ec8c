/- WORDS: how a table of members lies in memory: one block of 257 cells. -/
import Derived.Test.YtnlpgjdgiappcaaProg
import Derived.Test.YtnlpgjdgiappcaaMbPure3
import Derived.Test.YtnlpgjdgiappcaaCw
namespace Go.Proofs.Ytnlpgjdgiappcaa
set_option linter.unusedVariables false
set_option linter.unusedSimpArgs false
open Go.RowKit

/-! ### a member; a place; a table -/
def mcells (m : Pl.M) : Array Value := #[.int .u16 m.n, .int .u8 m.s, .int .i64 m.i]
def mzero : Pl.M := ⟨0, 0, 0⟩
def sc : Option Pl.M → List Value
  | none => [.bool false, .int .u16 0, .int .u8 0, .int .i64 0]
  | some m => [.bool true, .int .u16 m.n, .int .u8 m.s, .int .i64 m.i]
def tl (z : Int) (f : Pl.Tab) : List Value := .int .u16 z :: (List.range 64).flatMap (fun k => sc (f k))
def tcells (z : Int) (f : Pl.Tab) : Array Value := (tl z f).toArray

theorem sc_length (o : Option Pl.M) : (sc o).length = 4 := by cases o <;> rfl

theorem flat_length (f : Nat → List Value) (h : ∀ k, (f k).length = 4) (n : Nat) : ((List.range n).flatMap f).length = 4 * n := by
  induction n with
  | zero => rfl
  | succ n ih => rw [List.range_succ, List.flatMap_append, List.length_append, ih]; simp [h]; omega

theorem flat_get (f : Nat → List Value) (h : ∀ k, (f k).length = 4) (n : Nat) : ∀ k j, k < n → j < 4 → ((List.range n).flatMap f)[k * 4 + j]? = (f k)[j]? := by
  induction n with
  | zero => intro k j hk; omega
  | succ n ih =>
    intro k j hk hj
    rw [List.range_succ, List.flatMap_append]
    by_cases hkn : k < n
    · rw [List.getElem?_append_left (by rw [flat_length f h]; omega)]
      exact ih k j hkn hj
    · obtain rfl : k = n := by omega
      rw [List.getElem?_append_right (by rw [flat_length f h]; omega), flat_length f h]
      have e : k * 4 + j - 4 * k = j := by omega
      rw [e]
      simp

theorem tl_length (z : Int) (f : Pl.Tab) : (tl z f).length = 257 := by
  unfold tl
  rw [List.length_cons, flat_length _ (fun k => sc_length (f k))]
theorem tcells_size (z : Int) (f : Pl.Tab) : (tcells z f).size = 257 := by simp [tcells, tl_length]
theorem tcells_zero (z : Int) (f : Pl.Tab) : (tcells z f)[0]? = some (.int .u16 z) := by simp [tcells, tl]
theorem tcells_at (z : Int) (f : Pl.Tab) (k j : Nat) (hk : k < 64) (hj : j < 4) : (tcells z f)[1 + k * 4 + j]? = (sc (f k))[j]? := by
  have e : 1 + k * 4 + j = (k * 4 + j) + 1 := by omega
  simp only [tcells, tl, List.getElem?_toArray]
  rw [e, List.getElem?_cons_succ]
  exact flat_get _ (fun k => sc_length (f k)) 64 k j hk hj

/-- The table with place k turned. -/
def at_ (f : Pl.Tab) (k : Nat) (o : Option Pl.M) : Pl.Tab := fun j => if j = k then o else f j
theorem put_at (f : Pl.Tab) (m : Pl.M) : Pl.put f m = at_ f m.n.toNat (some m) := rfl

theorem tcells_set (z : Int) (f : Pl.Tab) (k : Nat) (hk : k < 64) (o : Option Pl.M) (v0 v1 v2 v3 : Value) (h : sc o = [v0, v1, v2, v3]) :
    ((((tcells z f).setIfInBounds (1 + k * 4) v0).setIfInBounds (1 + k * 4 + 1) v1).setIfInBounds (1 + k * 4 + 2) v2).setIfInBounds (1 + k * 4 + 3) v3 = tcells z (at_ f k o) := by
  apply Array.ext_getElem?
  intro i
  simp only [Array.getElem?_setIfInBounds, tcells_size, Array.size_setIfInBounds]
  rcases Nat.eq_zero_or_pos i with rfl | hi
  · rw [if_neg (by omega), if_neg (by omega), if_neg (by omega), if_neg (by omega), tcells_zero, tcells_zero]
  · by_cases hi2 : i < 257
    · obtain ⟨q, j, hq, hj, rfl⟩ : ∃ q j, q < 64 ∧ j < 4 ∧ i = 1 + q * 4 + j := ⟨(i - 1) / 4, (i - 1) % 4, by omega, by omega, by omega⟩
      rw [tcells_at z _ q j hq hj, tcells_at z _ q j hq hj]
      unfold at_
      by_cases hqk : q = k
      · subst hqk
        rw [if_pos rfl, h]
        rcases (show j = 0 ∨ j = 1 ∨ j = 2 ∨ j = 3 by omega) with rfl | rfl | rfl | rfl
        · rw [if_neg (by omega), if_neg (by omega), if_neg (by omega), if_pos (by omega), if_pos (by omega)]; rfl
        · rw [if_neg (by omega), if_neg (by omega), if_pos (by omega), if_pos (by omega)]; rfl
        · rw [if_neg (by omega), if_pos (by omega), if_pos (by omega)]; rfl
        · rw [if_pos (by omega), if_pos (by omega)]; rfl
      · rw [if_neg hqk, if_neg (by omega), if_neg (by omega), if_neg (by omega), if_neg (by omega)]
    · rw [if_neg (by omega), if_neg (by omega), if_neg (by omega), if_neg (by omega)]
      rw [Array.getElem?_eq_none (by rw [tcells_size]; omega), Array.getElem?_eq_none (by rw [tcells_size]; omega)]

/-- A table lies at block g. -/
def IsT (w : World) (g : Nat) (z : Int) (f : Pl.Tab) : Prop := Blk w g 98 (tcells z f)
section
variable {w w' : World} {g : Nat} {z : Int} {f : Pl.Tab}
theorem IsT.lt (h : IsT w g z f) : g < w.heap.size := Blk.lt h
theorem IsT.self_ (h : IsT w g z f) : w.cell? ⟨g, 0, none⟩ = some (.int .u16 z) := (Blk.cell h 0).trans (tcells_zero z f)
theorem IsT.cell (h : IsT w g z f) (k j : Nat) (hk : k < 64) (hj : j < 4) : w.cell? ⟨g, 1 + k * 4 + j, none⟩ = (sc (f k))[j]? := (Blk.cell h _).trans (tcells_at z f k j hk hj)
theorem IsT.frozen (h : IsT w g z f) (i : Nat) : w.frozen? ⟨g, i, none⟩ = false := Blk.frozen h i
theorem IsT.below {B : Nat} (h : IsT w g z f) (hb : Below B w w') (hg : g < B) : IsT w' g z f := Blk.below h hb hg
theorem IsT.grown {row : Option Nat} (h : IsT w g z f) (hb : w.grownBy w' row) (hg : some g ≠ row) : IsT w' g z f := Blk.grown h hb hg
theorem IsT.far (h : IsT w g z f) {p : Addr} (hp : p.block ≠ g) (u : Value) : IsT (w.setCell p u) g z f := Blk.far h (fun e => hp e.symm) u
theorem IsT.alloc (h : IsT w g z f) (o : Obj) : IsT (w.alloc o) g z f := Blk.alloc h o
theorem IsT.drewN (h : IsT w g z f) (n : Nat) : IsT (w.drewN n) g z f := h
theorem IsT.drew (h : IsT w g z f) : IsT w.drew g z f := h
theorem IsT.set_ (h : IsT w g z f) (k : Nat) (hk : k < 64) (o : Option Pl.M) (v0 v1 v2 v3 : Value) (ho : sc o = [v0, v1, v2, v3]) :
    IsT ((((w.setCell ⟨g, 1 + k * 4, none⟩ v0).setCell ⟨g, 1 + k * 4 + 1, none⟩ v1).setCell ⟨g, 1 + k * 4 + 2, none⟩ v2).setCell ⟨g, 1 + k * 4 + 3, none⟩ v3) g z (at_ f k o) := by
  have := Blk.set_ (Blk.set_ (Blk.set_ (Blk.set_ h (1 + k * 4) v0) (1 + k * 4 + 1) v1) (1 + k * 4 + 2) v2) (1 + k * 4 + 3) v3
  rw [tcells_set z f k hk o v0 v1 v2 v3 ho] at this
  exact this
end

theorem zero_cells (z : Int) : Try.zeroCells98.setIfInBounds 0 (.int .u16 z) = tcells z (fun _ => none) := by
  have e : Try.zeroCells98 = tcells 0 (fun _ => none) := by kernel_rfl
  rw [e]
  apply Array.ext_getElem?
  intro i
  simp only [Array.getElem?_setIfInBounds, tcells_size]
  rcases Nat.eq_zero_or_pos i with rfl | hi
  · simp [tcells_zero]
  · rw [if_neg (by omega)]
    obtain ⟨j, rfl⟩ : ∃ j, i = j + 1 := ⟨i - 1, by omega⟩
    simp [tcells, tl]

end Go.Proofs.Ytnlpgjdgiappcaa
