/- WORDS: arguments that are members, or slices of them. -/
import Derived.Test.YtnlpgjdgiappcaaCl
import Derived.Test.YtnlpgjdgiappcaaMbWalk3
namespace Go.Proofs.Ytnlpgjdgiappcaa
set_option linter.unusedVariables false
set_option linter.unusedSimpArgs false
open Go.ChangeShapes Go.WideShapes Go.ChangeAt Go.RowKit Go.Joins Go.Deep

theorem tOwn : ownKnob Try.prog.godebug = none := by kernel_rfl
theorem tLaid : laidOutB Try.prog = true := by kernel_rfl

section
variable {H : Type} {enc : TypeId × Value → H} {w : World} {base : Nat} {spare : Nat → Bool} {held : Bool}

theorem mfields (n : Nat) {c0 c1 c2 : Value} {y0 y1 y2 : DataW H × List MemPlace}
    (h0 : DataW.trod enc Try.prog w base spare held n 22 [c0] = some y0) (h1 : DataW.trod enc Try.prog w base spare held n 23 [c1] = some y1) (h2 : DataW.trod enc Try.prog w base spare held n 3 [c2] = some y2) :
    ∃ m : Pl.M, c0 = .int .u16 m.n ∧ c1 = .int .u8 m.s ∧ c2 = .int .i64 m.i ∧ Pl.MOk m := by
  obtain ⟨a, e0, _, w0⟩ := DataW.trod_int Try.underlying22 h0
  obtain ⟨b, e1, _, w1⟩ := DataW.trod_int Try.underlying23 h1
  obtain ⟨c, e2, _, w2⟩ := DataW.trod_int Try.underlying3 h2
  simp only [List.cons.injEq, and_true] at e0 e1 e2
  have b0 := bounds_u16 w0
  have b1 := bounds_u8 w1
  have b2 := bounds_i64 w2
  exact ⟨⟨a, b, c⟩, e0, e1, e2, ⟨b0.1, b0.2, b1.1, b1.2, b2.1, b2.2⟩⟩

theorem cells25 : Try.prog.cellsOf 25 = 3 := by kernel_rfl

set_option maxRecDepth 100000 in
theorem open_member {r : Reach} {b0 : Nat} {v : Value} {d : DataW H} {p : List MemPlace} (hv : Value.okWide Try.prog w r b0 25 v) (h : DataW.Trod enc Try.prog w base spare held 25 v d p) :
    ∃ m, v = .agg (mcells m) ∧ Pl.MOk m := by
  obtain ⟨c0, c1, c2, y0, y1, y2, n, rfl, _, _, h0, h1, h2⟩ := open_agg3 Try.underlying25 (by kernel_rfl) cells25 hv h
  obtain ⟨m, rfl, rfl, rfl, hm⟩ := mfields n h0 h1 h2
  exact ⟨m, rfl, hm⟩

theorem cells22 : Try.prog.cellsOf 22 = 1 := by kernel_rfl
theorem cells23 : Try.prog.cellsOf 23 = 1 := by kernel_rfl
theorem cells3 : Try.prog.cellsOf 3 = 1 := by kernel_rfl

theorem list_of {α : Type} (p : Nat → α → Prop) (n : Nat) (h : ∀ i, i < n → ∃ x, p i x) : ∃ l : List α, l.length = n ∧ ∀ i x, l[i]? = some x → p i x := by
  induction n with
  | zero => exact ⟨[], rfl, by simp⟩
  | succ n ih =>
    obtain ⟨l, hl, hp⟩ := ih (fun i hi => h i (by omega))
    obtain ⟨x, hx⟩ := h n (by omega)
    refine ⟨l ++ [x], by simp [hl], fun i y hy => ?_⟩
    by_cases hi : i < l.length
    · rw [List.getElem?_append_left hi] at hy; exact hp i y hy
    · rw [List.getElem?_append_right (by omega)] at hy
      have : i - l.length = 0 := by
        have := (List.getElem?_eq_some_iff.1 hy).1
        simp at this
        omega
      rw [this] at hy
      simp at hy
      subst hy
      have e : i = n := by omega
      rw [e]; exact hx

theorem addr_some {W : World} {a : Addr} {v : Value} (h : W.cell? a = some v) : a = ⟨a.block, a.off, none⟩ := by
  unfold World.cell? at h
  split at h
  · split at h
    · cases h
    · rename_i hs
      cases a with
      | mk b o s => cases s <;> simp_all
  · cases h

theorem add_plain (a : Addr) (n : Nat) (h : a = ⟨a.block, a.off, none⟩) : a.add n = ⟨a.block, a.off + n, none⟩ := by
  rw [h, Addr.add_mid]

set_option maxRecDepth 100000 in
/-- A slice of members that came in. -/
theorem open_members {r : Reach} {b0 : Nat} {v : Value} {d : DataW H} {p : List MemPlace} (hv : Value.okWide Try.prog w r b0 36 v) (h : DataW.Trod enc Try.prog w base spare held 36 v d p) :
    ∃ A c l, v = .slice A l.length c ∧ ReadsM w (fun b => b < w.heap.size) A l ∧ ∀ m ∈ l, Pl.MOk m := by
  obtain ⟨a0, len, cap, rfl⟩ := okWide_slice Try.underlying36 hv
  obtain ⟨fuel, hf⟩ := h
  rcases open_slice Try.underlying36 hf with ⟨hcs, hx⟩ | ⟨a, len', cap', m, n, D, Pp, hcs, hb, hl, hc, hm, hx, hi⟩
  · have hcs' : Value.slice a0 len cap = .slice none 0 0 := by simpa [Value.cells] using hcs
    rw [hcs']
    exact ⟨none, 0, [], rfl, Reads.nil _ _ _ _, by simp⟩
  · have hcs' : Value.slice a0 len cap = .slice (some a) len' cap' := by simpa [Value.cells] using hcs
    injection hcs' with e1 e2 e3
    subst e1 e2 e3
    have hlm : len ≤ m := by rw [hm]; split <;> omega
    have hel : ∀ i, i < len → ∃ x : Pl.M, Pl.MOk x ∧ w.cell? (a.add (i * 3)) = some (.int .u16 x.n) ∧ w.cell? ((a.add (i * 3)).add 1) = some (.int .u8 x.s) ∧ w.cell? ((a.add (i * 3)).add 2) = some (.int .i64 x.i) := by
      intro i hlt
      obtain ⟨cs, hcells, ht⟩ := hi i (by omega)
      rw [cells25] at hcells
      obtain ⟨_, hlen, hat⟩ := World.cells?_some hcells
      obtain ⟨ys, n', _, hy, hyl, _, hfld⟩ := DataW.trod_struct Try.underlying25 ht
      obtain ⟨c0, c1, c2, rfl⟩ : ∃ c0 c1 c2, cs = [c0, c1, c2] := by
        match cs, hlen with
        | [c0, c1, c2], _ => exact ⟨c0, c1, c2, rfl⟩
      obtain ⟨y0, y1, y2, rfl⟩ : ∃ y0 y1 y2, ys = [y0, y1, y2] := by
        match ys, hyl with
        | [y0, y1, y2], _ => exact ⟨y0, y1, y2, rfl⟩
      have g0 := hfld 0 _ rfl
      have g1 := hfld 1 _ rfl
      have g2 := hfld 2 _ rfl
      simp only [cells22, cells23, cells3, List.drop_zero, List.drop_succ_cons, List.take_succ_cons, List.take_zero, List.getElem?_cons_zero, List.getElem?_cons_succ] at g0 g1 g2
      obtain ⟨x, rfl, rfl, rfl, hx⟩ := mfields n' g0 g1 g2
      refine ⟨x, hx, ?_, ?_, ?_⟩
      · have := hat 0 (by omega); simpa [Addr.add] using this
      · have := hat 1 (by omega); simpa using this
      · have := hat 2 (by omega); simpa using this
    obtain ⟨l, hll, hlx⟩ := list_of (fun i x => Pl.MOk x ∧ w.cell? (a.add (i * 3)) = some (.int .u16 x.n) ∧ w.cell? ((a.add (i * 3)).add 1) = some (.int .u8 x.s) ∧ w.cell? ((a.add (i * 3)).add 2) = some (.int .i64 x.i)) len hel
    subst hll
    refine ⟨some a, cap, l, rfl, ⟨rows_length l, fun hn => ?_⟩, fun m hm => ?_⟩
    · have h0 := hlx 0 _ (List.getElem?_eq_getElem hn)
      have ha : a = ⟨a.block, a.off, none⟩ := by
        have := addr_some h0.2.1
        simpa [Addr.add] using this
      refine ⟨a.block, a.off, by rw [← ha], World.block_lt_of_cell? w a (by have := h0.2.1; simpa [Addr.add] using this), fun j u hu => ?_⟩
      obtain ⟨k, q, hk, hq, rfl⟩ : ∃ k q, k < l.length ∧ q < 3 ∧ j = k * 3 + q := by
        have := (List.getElem?_eq_some_iff.1 hu).1
        rw [rows_length] at this
        exact ⟨j / 3, j % 3, by omega, by omega, by omega⟩
      obtain ⟨_, h1, h2, h3⟩ := hlx k _ (List.getElem?_eq_getElem hk)
      obtain ⟨r0, r1, r2⟩ := rows_get l k _ (List.getElem?_eq_getElem hk)
      rw [ha] at h1 h2 h3
      rw [Addr.add_mid] at h1 h2 h3
      rw [Addr.add_mid] at h2 h3
      rcases (show q = 0 ∨ q = 1 ∨ q = 2 by omega) with rfl | rfl | rfl
      · rw [Nat.add_zero] at hu ⊢; rw [← hu, r0]; exact h1
      · rw [← hu, r1]; exact h2
      · rw [← hu, r2]; exact h3
    · obtain ⟨k, hk⟩ := List.mem_iff_getElem?.1 hm
      exact (hlx k m hk).1
end

end Go.Proofs.Ytnlpgjdgiappcaa
