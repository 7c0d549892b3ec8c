/- WORDS: how a health lies in memory: one block of 261 cells. -/
import Derived.Test.YtadhcnfgbiokcaaBits
namespace Go.Proofs.Ytadhcnfgbiokcaa
set_option linter.unusedVariables false
set_option linter.unusedSimpArgs false
open Go.RowKit

/-- A suspicion. -/
structure Su where
  i : Int
  f : Int
  w : Nat
/-- A health: itself, its rule, its score, its suspicions. -/
structure Hs where
  me : Int
  mn : Int
  mx : Int
  cf : Int
  sc : Int
  s : Nat → Option Su
def su : Option Su → List Value
  | none => [.bool false, .int .i64 0, .int .i64 0, .int .u64 0]
  | some x => [.bool true, .int .i64 x.i, .int .i64 x.f, .int .u64 (x.w : Int)]
theorem su_length (o : Option Su) : (su o).length = 4 := by cases o <;> rfl
def hhead (h : Hs) : List Value := [.int .u16 h.me, .int .i64 h.mn, .int .i64 h.mx, .int .i64 h.cf, .int .i64 h.sc]
def hcells (h : Hs) : Array Value := (hhead h ++ (List.range 64).flatMap (fun k => su (h.s k))).toArray
theorem flat_length (f : Nat → List Value) (h : ∀ k, (f k).length = 4) (n : Nat) : ((List.range n).flatMap f).length = 4 * n := by
  induction n with
  | zero => rfl
  | succ n ih => rw [List.range_succ, List.flatMap_append, List.length_append, ih]; simp [h]; omega
theorem flat_get (f : Nat → List Value) (h : ∀ k, (f k).length = 4) (n : Nat) : ∀ k j, k < n → j < 4 → ((List.range n).flatMap f)[k * 4 + j]? = (f k)[j]? := by
  induction n with
  | zero => intro k j hk; omega
  | succ n ih =>
    intro k j hk hj
    rw [List.range_succ, List.flatMap_append]
    by_cases hkn : k < n
    · rw [List.getElem?_append_left (by rw [flat_length f h]; omega)]
      exact ih k j hkn hj
    · obtain rfl : k = n := by omega
      rw [List.getElem?_append_right (by rw [flat_length f h]; omega), flat_length f h]
      have e : k * 4 + j - 4 * k = j := by omega
      rw [e]
      simp
theorem hcells_size (h : Hs) : (hcells h).size = 261 := by
  simp only [hcells, List.size_toArray, List.length_append, hhead, List.length_cons, List.length_nil]
  rw [flat_length _ (fun k => su_length (h.s k))]
theorem hcells_head (h : Hs) (j : Nat) (hj : j < 5) : (hcells h)[j]? = (hhead h)[j]? := by
  simp only [hcells, List.getElem?_toArray]
  exact List.getElem?_append_left (by simp [hhead]; omega)
theorem hcells_at (h : Hs) (k j : Nat) (hk : k < 64) (hj : j < 4) : (hcells h)[5 + k * 4 + j]? = (su (h.s k))[j]? := by
  simp only [hcells, List.getElem?_toArray]
  rw [List.getElem?_append_right (by simp [hhead]; omega)]
  have e : 5 + k * 4 + j - (hhead h).length = k * 4 + j := by simp [hhead]; omega
  rw [e]
  exact flat_get _ (fun k => su_length (h.s k)) 64 k j hk hj
/-- A health with the suspicion of k turned. -/
def Hs.at_ (h : Hs) (k : Nat) (o : Option Su) : Hs := { h with s := fun j => if j = k then o else h.s j }
theorem idx261 {i : Nat} (h : i < 261) : i < 5 ∨ ∃ q j, q < 64 ∧ j < 4 ∧ i = 5 + q * 4 + j := by
  by_cases h5 : i < 5
  · exact .inl h5
  · exact .inr ⟨(i - 5) / 4, (i - 5) % 4, by omega, by omega, by omega⟩
theorem hcells_set (h : Hs) (k : Nat) (hk : k < 64) (o : Option Su) (v0 v1 v2 v3 : Value) (ho : su o = [v0, v1, v2, v3]) :
    ((((hcells h).setIfInBounds (5 + k * 4) v0).setIfInBounds (5 + k * 4 + 1) v1).setIfInBounds (5 + k * 4 + 2) v2).setIfInBounds (5 + k * 4 + 3) v3 = hcells (h.at_ k o) := by
  apply Array.ext_getElem?
  intro i
  simp only [Array.getElem?_setIfInBounds, hcells_size, Array.size_setIfInBounds]
  by_cases hi : i < 261
  · rcases idx261 hi with hi | ⟨q, j, hq, hj, rfl⟩
    · rw [if_neg (by omega), if_neg (by omega), if_neg (by omega), if_neg (by omega), hcells_head _ _ hi, hcells_head _ _ hi]
      rfl
    · rw [hcells_at _ q j hq hj, hcells_at _ q j hq hj]
      unfold Hs.at_
      by_cases hqk : q = k
      · subst hqk
        simp only [if_true, ho]
        rcases (show j = 0 ∨ j = 1 ∨ j = 2 ∨ j = 3 by omega) with rfl | rfl | rfl | rfl
        · rw [if_neg (by omega), if_neg (by omega), if_neg (by omega), if_pos (by omega), if_pos (by omega)]; rfl
        · rw [if_neg (by omega), if_neg (by omega), if_pos (by omega), if_pos (by omega)]; rfl
        · rw [if_neg (by omega), if_pos (by omega), if_pos (by omega)]; rfl
        · rw [if_pos (by omega), if_pos (by omega)]; rfl
      · simp only [if_neg hqk]
        rw [if_neg (by omega), if_neg (by omega), if_neg (by omega), if_neg (by omega)]
  · rw [if_neg (by omega), if_neg (by omega), if_neg (by omega), if_neg (by omega)]
    rw [Array.getElem?_eq_none (by rw [hcells_size]; omega), Array.getElem?_eq_none (by rw [hcells_size]; omega)]
theorem hcells_score (h : Hs) (x : Int) : (hcells h).setIfInBounds 4 (.int .i64 x) = hcells { h with sc := x } := by
  apply Array.ext_getElem?
  intro i
  simp only [Array.getElem?_setIfInBounds, hcells_size]
  by_cases hi : i < 261
  · rcases idx261 hi with hi | ⟨q, j, hq, hj, rfl⟩
    · rw [hcells_head _ _ hi, hcells_head _ _ hi]
      rcases (show i = 0 ∨ i = 1 ∨ i = 2 ∨ i = 3 ∨ i = 4 by omega) with rfl | rfl | rfl | rfl | rfl <;> simp [hhead]
    · rw [if_neg (by omega), hcells_at _ q j hq hj, hcells_at _ q j hq hj]
  · rw [if_neg (by omega), Array.getElem?_eq_none (by rw [hcells_size]; omega), Array.getElem?_eq_none (by rw [hcells_size]; omega)]

/-- A health lies at block g. -/
def IsH (w : World) (g : Nat) (h : Hs) : Prop := Blk w g 69 (hcells h)
section
variable {w w' : World} {g : Nat} {h : Hs}
theorem IsH.lt (H : IsH w g h) : g < w.heap.size := Blk.lt H
theorem IsH.head (H : IsH w g h) (j : Nat) (hj : j < 5) : w.cell? ⟨g, j, none⟩ = (hhead h)[j]? := (Blk.cell H j).trans (hcells_head h j hj)
theorem IsH.cell (H : IsH w g h) (k j : Nat) (hk : k < 64) (hj : j < 4) : w.cell? ⟨g, 5 + k * 4 + j, none⟩ = (su (h.s k))[j]? := (Blk.cell H _).trans (hcells_at h k j hk hj)
theorem IsH.frozen (H : IsH w g h) (i : Nat) : w.frozen? ⟨g, i, none⟩ = false := Blk.frozen H i
theorem IsH.below {B : Nat} (H : IsH w g h) (hb : Below B w w') (hg : g < B) : IsH w' g h := Blk.below H hb hg
theorem IsH.alloc (H : IsH w g h) (o : Obj) : IsH (w.alloc o) g h := Blk.alloc H o
theorem IsH.drew (H : IsH w g h) : IsH w.drew g h := H
theorem IsH.drewN (H : IsH w g h) (n : Nat) : IsH (w.drewN n) g h := H
theorem IsH.grown {row : Option Nat} (H : IsH w g h) (hb : w.grownBy w' row) (hg : some g ≠ row) : IsH w' g h := Blk.grown H hb hg
theorem IsH.set_ (H : IsH w g h) (k : Nat) (hk : k < 64) (o : Option Su) (v0 v1 v2 v3 : Value) (ho : su o = [v0, v1, v2, v3]) :
    IsH ((((w.setCell ⟨g, 5 + k * 4, none⟩ v0).setCell ⟨g, 5 + k * 4 + 1, none⟩ v1).setCell ⟨g, 5 + k * 4 + 2, none⟩ v2).setCell ⟨g, 5 + k * 4 + 3, none⟩ v3) g (h.at_ k o) := by
  have := Blk.set_ (Blk.set_ (Blk.set_ (Blk.set_ H (5 + k * 4) v0) (5 + k * 4 + 1) v1) (5 + k * 4 + 2) v2) (5 + k * 4 + 3) v3
  rw [hcells_set h k hk o v0 v1 v2 v3 ho] at this
  exact this
theorem IsH.score (H : IsH w g h) (x : Int) : IsH (w.setCell ⟨g, 4, none⟩ (.int .i64 x)) g { h with sc := x } := by
  have := Blk.set_ H 4 (.int .i64 x)
  rw [hcells_score] at this
  exact this
end

/-! ### one more bit -/
def cnt : Nat → Nat → Nat
  | 0, _ => 0
  | n + 1, x => x % 2 + cnt n (x / 2)
theorem cnt_8 (n x : Nat) : cnt (n + 8) x = He.ones8 (x % 256) + cnt n (x / 256) := by
  have e : ∀ y : Nat, cnt (n + 8) y = y % 2 + (y / 2 % 2 + (y / 2 / 2 % 2 + (y / 2 / 2 / 2 % 2 + (y / 2 / 2 / 2 / 2 % 2 + (y / 2 / 2 / 2 / 2 / 2 % 2 + (y / 2 / 2 / 2 / 2 / 2 / 2 % 2 + (y / 2 / 2 / 2 / 2 / 2 / 2 / 2 % 2 + cnt n (y / 2 / 2 / 2 / 2 / 2 / 2 / 2 / 2)))))))) := fun y => rfl
  rw [e x]
  have e2 : x / 2 / 2 / 2 / 2 / 2 / 2 / 2 / 2 = x / 256 := by omega
  rw [e2]
  unfold He.ones8
  generalize cnt n (x / 256) = r
  omega
theorem ones_cnt (x : Nat) (hx : x < 18446744073709551616) : He.ones x = cnt 64 x := by
  rw [cnt_8 56, cnt_8 48, cnt_8 40, cnt_8 32, cnt_8 24, cnt_8 16, cnt_8 8, cnt_8 0]
  unfold He.ones cnt
  have a1 : x / 256 / 256 = x / 65536 := by omega
  have a2 : x / 65536 / 256 = x / 16777216 := by omega
  have a3 : x / 16777216 / 256 = x / 4294967296 := by omega
  have a4 : x / 4294967296 / 256 = x / 1099511627776 := by omega
  have a5 : x / 1099511627776 / 256 = x / 281474976710656 := by omega
  have a6 : x / 281474976710656 / 256 = x / 72057594037927936 := by omega
  have a7 : x / 72057594037927936 % 256 = x / 72057594037927936 := by omega
  rw [a1, a2, a3, a4, a5, a6, a7]
  omega
theorem cnt_more (n : Nat) : ∀ (k x : Nat), k < n → x / 2 ^ k % 2 = 0 → cnt n (x + 2 ^ k) = cnt n x + 1 := by
  induction n with
  | zero => intro k x hk; omega
  | succ n ih =>
    intro k x hk h
    rcases k with _ | k
    · simp only [Nat.pow_zero, Nat.div_one] at h ⊢
      rw [cnt, cnt, show (x + 1) / 2 = x / 2 by omega]
      omega
    · have e : (2 : Nat) ^ (k + 1) = 2 * 2 ^ k := by rw [Nat.pow_succ]; omega
      have h2 : x / 2 / 2 ^ k % 2 = 0 := by rw [Nat.div_div_eq_div_mul, ← e]; exact h
      have := ih k (x / 2) (by omega) h2
      rw [cnt, cnt, e, show (x + 2 * 2 ^ k) / 2 = x / 2 + 2 ^ k by omega, this]
      omega

end Go.Proofs.Ytadhcnfgbiokcaa
