/- WORDS: a list of bytes that came in. -/
import Derived.Test.YtnidjfmbbfoheaaRxHead
namespace Go.Proofs.Ytnidjfmbbfoheaa
set_option linter.unusedVariables false
set_option linter.unusedSimpArgs false
open Go.ChangeShapes Go.WideShapes Go.ChangeAt Go.RowKit Go.Joins Go.Deep
theorem list_of {α : Type} (p : Nat → α → Prop) (n : Nat) (h : ∀ i, i < n → ∃ x, p i x) : ∃ l : List α, l.length = n ∧ ∀ i x, l[i]? = some x → p i x := by
  induction n with
  | zero => exact ⟨[], rfl, by simp⟩
  | succ n ih =>
    obtain ⟨l, hl, hp⟩ := ih (fun i hi => h i (by omega))
    obtain ⟨x, hx⟩ := h n (by omega)
    refine ⟨l ++ [x], by simp [hl], fun i y hy => ?_⟩
    by_cases hi : i < l.length
    · rw [List.getElem?_append_left hi] at hy; exact hp i y hy
    · rw [List.getElem?_append_right (by omega)] at hy
      have : i - l.length = 0 := by
        have := (List.getElem?_eq_some_iff.1 hy).1
        simp at this
        omega
      rw [this] at hy
      simp at hy
      subst hy
      have e : i = n := by omega
      rw [e]; exact hx
theorem addr_some {W : World} {a : Addr} {v : Value} (h : W.cell? a = some v) : a = ⟨a.block, a.off, none⟩ := by
  unfold World.cell? at h
  split at h
  · split at h
    · cases h
    · rename_i hs
      cases a with
      | mk b o s => cases s <;> simp_all
  · cases h
/-- Bytes in a row. -/
def u8s (l : List Int) : List Value := l.map fun x => .int .u8 x
theorem u8s_length (l : List Int) : (u8s l).length = l.length * 1 := by simp [u8s]
theorem u8s_get (l : List Int) (k : Nat) (x : Int) (h : l[k]? = some x) : (u8s l)[k]? = some (.int .u8 x) := by simp [u8s, h]
section
variable {H : Type} {enc : TypeId × Value → H} {w : World} {base : Nat} {spare : Nat → Bool} {held : Bool}
theorem und33b : Try.prog.underlying 33 = some (.slice 5) := by kernel_rfl
theorem cells5 : Try.prog.cellsOf 5 = 1 := by kernel_rfl
set_option maxRecDepth 100000 in
/-- A slice of bytes that came in. -/
theorem open_u8s {r : Reach} {b0 : Nat} {v : Value} {d : DataW H} {p : List MemPlace} (hv : Value.okWide Try.prog w r b0 33 v) (h : DataW.Trod enc Try.prog w base spare held 33 v d p) :
    ∃ A c l, v = .slice A l.length c ∧ Reads w (fun b => b < w.heap.size) 1 A l.length (u8s l) ∧ ∀ x ∈ l, 0 ≤ x ∧ x ≤ 255 := by
  obtain ⟨a0, len, cap, rfl⟩ := okWide_slice und33b hv
  obtain ⟨fuel, hf⟩ := h
  rcases open_slice und33b hf with ⟨hcs, hx⟩ | ⟨a, len', cap', m, n, D, Pp, hcs, hb, hl, hc, hm, hx, hi⟩
  · have hcs' : Value.slice a0 len cap = .slice none 0 0 := by simpa [Value.cells] using hcs
    rw [hcs']
    exact ⟨none, 0, [], rfl, Reads.nil _ _ _ _, by simp⟩
  · have hcs' : Value.slice a0 len cap = .slice (some a) len' cap' := by simpa [Value.cells] using hcs
    injection hcs' with e1 e2 e3
    subst e1 e2 e3
    have hlm : len ≤ m := by rw [hm]; split <;> omega
    have hel : ∀ i, i < len → ∃ x : Int, (0 ≤ x ∧ x ≤ 255) ∧ w.cell? (a.add i) = some (.int .u8 x) := by
      intro i hlt
      obtain ⟨cs, hcells, ht⟩ := hi i (by omega)
      rw [cells5] at hcells
      obtain ⟨_, hlen, hat⟩ := World.cells?_some hcells
      obtain ⟨c0, rfl⟩ : ∃ c0, cs = [c0] := by
        match cs, hlen with
        | [c0], _ => exact ⟨c0, rfl⟩
      obtain ⟨x, e0, _, w0⟩ := DataW.trod_int Try.underlying5 ht
      simp only [List.cons.injEq, and_true] at e0
      subst e0
      refine ⟨x, bounds_u8 w0, ?_⟩
      have := hat 0 (by omega)
      simpa [Addr.add, Nat.mul_one] using this
    obtain ⟨l, hll, hlx⟩ := list_of (fun i x => (0 ≤ x ∧ x ≤ 255) ∧ w.cell? (a.add i) = some (.int .u8 x)) len hel
    subst hll
    refine ⟨some a, cap, l, rfl, ⟨u8s_length l, fun hn => ?_⟩, fun m hm => ?_⟩
    · have h0 := hlx 0 _ (List.getElem?_eq_getElem hn)
      have ha : a = ⟨a.block, a.off, none⟩ := by
        have := addr_some h0.2
        simpa [Addr.add] using this
      refine ⟨a.block, a.off, by rw [← ha], World.block_lt_of_cell? w a (by have := h0.2; simpa [Addr.add] using this), fun j u hu => ?_⟩
      have hj : j < l.length := by
        have := (List.getElem?_eq_some_iff.1 hu).1
        rw [u8s_length] at this
        omega
      have hx := hlx j _ (List.getElem?_eq_getElem hj)
      have hg := u8s_get l j _ (List.getElem?_eq_getElem hj)
      rw [hg] at hu
      rw [← hu, ← hx.2, ha, Addr.add_mid]
    · obtain ⟨k, hk⟩ := List.mem_iff_getElem?.1 hm
      exact (hlx k m hk).1
end
end Go.Proofs.Ytnidjfmbbfoheaa
