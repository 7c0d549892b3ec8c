/- WORDS: calls that came in; a call on both, whichever. -/
import Derived.Test.YtadhcnfgbiokcaaHeSame
import Derived.Test.YtadhcnfgbiokcaaHeOpen2
namespace Go.Proofs.Ytadhcnfgbiokcaa
set_option linter.unusedVariables false
set_option linter.unusedSimpArgs false
open Go.ChangeShapes Go.WideShapes Go.ChangeAt Go.RowKit Go.Joins Go.Deep
theorem do_any (g : Nat) (S : Nat → Prop) (r : Rs) (v : Value) (a : Ac) (w : World) (hB : Both w g S v r) (ha : AcOk a) :
    Calls Try.prog 19 #[.pointer (some ⟨g, 0, none⟩), v, .agg #[.int .u8 a.k, .int .u16 a.n, .int .u8 a.st, .int .i64 a.i, .int .u16 a.fr, .int .i64 a.now, .int .i64 a.by_]] w fun e w' => ∃ v', e = .returned (.tuple #[v', .bool true]) ∧ w.grownBy w' (some g) ∧ Both w' g (fun b => S b ∨ w.heap.size ≤ b) v' (rdo r a) := by
  unfold rdo
  by_cases h2 : a.k % 4 = 2
  · rw [if_pos h2]; exact do_clr g S r v a.k a.n a.st a.i a.fr a.now a.by_ w hB ha.n ha.fr ha.k h2
  · rw [if_neg h2]
    by_cases h3 : a.k % 4 = 3
    · rw [if_pos h3]; exact do_bump g S r v a.k a.n a.st a.i a.fr a.now a.by_ w hB ha.n ha.fr ha.k h3
    · rw [if_neg h3]; exact do_sus g S r v a.k a.n a.st a.i a.fr a.now a.by_ w hB ha.n ha.fr ha.k h2 h3
theorem Both.below {w w' : World} {g : Nat} {S : Nat → Prop} {v : Value} {r : Rs} (h : Both w g S v r) (hb : Below w.heap.size w w') : Both w' g S v r :=
  ⟨h.1.below hb h.1.lt, h.2.1.below hb, h.2.2⟩
/-- The document's health as cells. -/
def hcl (r : Rs) (A : Option Addr) (n c : Nat) : Array Value := #[.int .u16 r.me, .int .i64 r.mn, .int .i64 r.mx, .int .i64 r.cf, .int .i64 r.sc, .slice A n c]
theorem Both.imp {w : World} {g : Nat} {S S' : Nat → Prop} {v : Value} {r : Rs} (h : Both w g S v r) (h1 : ∀ b, S b → S' b) (h2 : ∀ b, S' b → b ≠ g) : Both w g S' v r :=
  ⟨h.1, h.2.1.imp h1, h.2.2.1, h2⟩
theorem Both.keep {w w' : World} {g : Nat} {S : Nat → Prop} {v : Value} {r : Rs} (h : Both w g S v r) (hg : w'.heap[g]? = w.heap[g]?) (hk : ∀ b, S b → w'.heap[b]? = w.heap[b]?) : Both w' g S v r :=
  ⟨hg.trans h.1, h.2.1.keep hk, h.2.2.1, h.2.2.2⟩
theorem Both.form {w : World} {g : Nat} {S : Nat → Prop} {v : Value} {r : Rs} (h : Both w g S v r) : ∃ A n c, v = .agg (hcl r A n c) := by
  obtain ⟨A, c, L, hv, _⟩ := h.2.1
  exact ⟨A, L.length, c, hv⟩
/-! ### calls in a row -/
def acs (l : List Ac) : List Value := l.flatMap acells
theorem acs_length (l : List Ac) : (acs l).length = l.length * 7 := by
  induction l with
  | nil => rfl
  | cons m l ih => simp only [acs, List.flatMap_cons, List.length_append, List.length_cons] at *; rw [ih]; simp [acells]; omega
theorem acs_get (l : List Ac) (k : Nat) (m : Ac) (h : l[k]? = some m) : ∀ j, j < 7 → (acs l)[k * 7 + j]? = (acells m)[j]? := by
  induction l generalizing k with
  | nil => simp at h
  | cons x l ih =>
    intro j hj
    have e : acs (x :: l) = acells x ++ acs l := rfl
    have hl : (acells x).length = 7 := rfl
    rw [e]
    cases k with
    | zero =>
      simp at h; subst h
      rw [List.getElem?_append_left (by rw [hl]; omega)]
      simp
    | succ k =>
      simp at h
      rw [List.getElem?_append_right (by rw [hl]; omega), hl, show (k + 1) * 7 + j - 7 = k * 7 + j by omega]
      exact ih k h j hj
def ReadsA (w : World) (S : Nat → Prop) (A : Option Addr) (l : List Ac) : Prop := Reads w S 7 A l.length (acs l)
theorem ReadsA.at_ {w : World} {S : Nat → Prop} {A : Option Addr} {l : List Ac} (h : ReadsA w S A l) (k : Nat) (m : Ac) (hk : l[k]? = some m) :
    ∃ b o, A = some ⟨b, o, none⟩ ∧ S b ∧ ∀ j u, (acells m)[j]? = some u → w.cell? ⟨b, o + k * 7 + j, none⟩ = some u := by
  have hlt := (List.getElem?_eq_some_iff.1 hk).1
  obtain ⟨b, o, hA, hb, hc⟩ := h.2 (by omega)
  refine ⟨b, o, hA, hb, fun j u hu => ?_⟩
  have hj : j < 7 := (List.getElem?_eq_some_iff.1 hu).1
  rw [Nat.add_assoc]
  exact hc _ _ ((acs_get l k m hk j hj).trans hu)
section
variable {H : Type} {enc : TypeId × Value → H} {w : World} {base : Nat} {spare : Nat → Bool} {held : Bool}
theorem und50 : Try.prog.underlying 50 = some (.slice 59) := by kernel_rfl
set_option maxRecDepth 100000 in
/-- A slice of calls that came in. -/
theorem open_acts {r : Reach} {b0 : Nat} {v : Value} {d : DataW H} {p : List MemPlace} (hv : Value.okWide Try.prog w r b0 50 v) (h : DataW.Trod enc Try.prog w base spare held 50 v d p) :
    ∃ A c l, v = .slice A l.length c ∧ ReadsA w (fun b => b < w.heap.size) A l ∧ ∀ a ∈ l, AcOk a := by
  obtain ⟨a0, len, cap, rfl⟩ := okWide_slice und50 hv
  obtain ⟨fuel, hf⟩ := h
  rcases open_slice und50 hf with ⟨hcs, hx⟩ | ⟨a, len', cap', m, n, D, Pp, hcs, hb, hl, hc, hm, hx, hi⟩
  · have hcs' : Value.slice a0 len cap = .slice none 0 0 := by simpa [Value.cells] using hcs
    rw [hcs']
    exact ⟨none, 0, [], rfl, Reads.nil _ _ _ _, by simp⟩
  · have hcs' : Value.slice a0 len cap = .slice (some a) len' cap' := by simpa [Value.cells] using hcs
    injection hcs' with e1 e2 e3
    subst e1 e2 e3
    have hlm : len ≤ m := by rw [hm]; split <;> omega
    have hel : ∀ i, i < len → ∃ x : Ac, AcOk x ∧ ∀ j u, (acells x)[j]? = some u → w.cell? ((a.add (i * 7)).add j) = some u := by
      intro i hlt
      obtain ⟨cs, hcells, ht⟩ := hi i (by omega)
      rw [cells59] at hcells
      obtain ⟨_, hlen, hat⟩ := World.cells?_some hcells
      obtain ⟨ys, n', _, hy, hyl, _, hfld⟩ := DataW.trod_struct Try.underlying59 ht
      obtain ⟨c0, c1, c2, c3, c4, c5, c6, rfl⟩ : ∃ c0 c1 c2 c3 c4 c5 c6, cs = [c0, c1, c2, c3, c4, c5, c6] := by
        match cs, hlen with
        | [c0, c1, c2, c3, c4, c5, c6], _ => exact ⟨c0, c1, c2, c3, c4, c5, c6, rfl⟩
      obtain ⟨y0, y1, y2, y3, y4, rfl⟩ : ∃ y0 y1 y2 y3 y4, ys = [y0, y1, y2, y3, y4] := by
        match ys, hyl with
        | [y0, y1, y2, y3, y4], _ => exact ⟨y0, y1, y2, y3, y4, rfl⟩
      have g0 : DataW.trod enc Try.prog w base spare held n' 5 (List.take (Try.prog.cellsOf 5) (List.drop 0 [c0, c1, c2, c3, c4, c5, c6])) = some y0 := hfld 0 _ rfl
      have g1 : DataW.trod enc Try.prog w base spare held n' 33 (List.take (Try.prog.cellsOf 33) (List.drop 1 [c0, c1, c2, c3, c4, c5, c6])) = some y1 := hfld 1 _ rfl
      have g2 : DataW.trod enc Try.prog w base spare held n' 22 (List.take (Try.prog.cellsOf 22) (List.drop 4 [c0, c1, c2, c3, c4, c5, c6])) = some y2 := hfld 2 _ rfl
      have g3 : DataW.trod enc Try.prog w base spare held n' 3 (List.take (Try.prog.cellsOf 3) (List.drop 5 [c0, c1, c2, c3, c4, c5, c6])) = some y3 := hfld 3 _ rfl
      have g4 : DataW.trod enc Try.prog w base spare held n' 3 (List.take (Try.prog.cellsOf 3) (List.drop 6 [c0, c1, c2, c3, c4, c5, c6])) = some y4 := hfld 4 _ rfl
      simp only [cells22, cells5, cells3, cells33, List.drop_zero, List.drop_succ_cons, List.take_succ_cons, List.take_zero, List.getElem?_cons_zero, List.getElem?_cons_succ] at g0 g1 g2 g3 g4
      obtain ⟨k, e0, _, w0⟩ := DataW.trod_int Try.underlying5 g0
      obtain ⟨fr, e2, _, w2⟩ := DataW.trod_int Try.underlying22 g2
      obtain ⟨now, e3, _, w3⟩ := DataW.trod_int Try.underlying3 g3
      obtain ⟨by_, e4, _, w4⟩ := DataW.trod_int Try.underlying3 g4
      obtain ⟨zs, n'', _, _, hzl, _, hfm⟩ := DataW.trod_struct Try.underlying33 g1
      obtain ⟨z0, z1, z2, rfl⟩ : ∃ z0 z1 z2, zs = [z0, z1, z2] := by
        match zs, hzl with
        | [z0, z1, z2], _ => exact ⟨z0, z1, z2, rfl⟩
      have m0 : DataW.trod enc Try.prog w base spare held n'' 22 (List.take (Try.prog.cellsOf 22) (List.drop 0 [c1, c2, c3])) = some z0 := hfm 0 _ rfl
      have m1 : DataW.trod enc Try.prog w base spare held n'' 31 (List.take (Try.prog.cellsOf 31) (List.drop 1 [c1, c2, c3])) = some z1 := hfm 1 _ rfl
      have m2 : DataW.trod enc Try.prog w base spare held n'' 3 (List.take (Try.prog.cellsOf 3) (List.drop 2 [c1, c2, c3])) = some z2 := hfm 2 _ rfl
      simp only [cells22, cells31, cells3, List.drop_zero, List.drop_succ_cons, List.take_succ_cons, List.take_zero, List.getElem?_cons_zero, List.getElem?_cons_succ] at m0 m1 m2
      obtain ⟨mn, f0, _, v0⟩ := DataW.trod_int Try.underlying22 m0
      obtain ⟨ms, f1, _, v1⟩ := DataW.trod_int Try.underlying31 m1
      obtain ⟨mi, f2, _, v2⟩ := DataW.trod_int Try.underlying3 m2
      try simp only [List.cons.injEq, and_true] at e0
      try simp only [List.cons.injEq, and_true] at e2
      try simp only [List.cons.injEq, and_true] at e3
      try simp only [List.cons.injEq, and_true] at e4
      try simp only [List.cons.injEq, and_true] at f0
      try simp only [List.cons.injEq, and_true] at f1
      try simp only [List.cons.injEq, and_true] at f2
      subst e0 e2 e3 e4 f0 f1 f2
      refine ⟨⟨k, mn, ms, mi, fr, now, by_⟩, ⟨bounds_u8 w0, bounds_u16 v0, bounds_u16 w2⟩, fun j u hu => ?_⟩
      have hj : j < 7 := (List.getElem?_eq_some_iff.1 hu).1
      have := hat j (by omega)
      rw [this]
      exact hu
    obtain ⟨l, hll, hlx⟩ := list_of (fun i x => AcOk x ∧ ∀ j u, (acells x)[j]? = some u → w.cell? ((a.add (i * 7)).add j) = some u) len hel
    subst hll
    refine ⟨some a, cap, l, rfl, ⟨acs_length l, fun hn => ?_⟩, fun m hm => ?_⟩
    · have h0 := (hlx 0 _ (List.getElem?_eq_getElem hn)).2 0 _ rfl
      have ha : a = ⟨a.block, a.off, none⟩ := by
        have := addr_some h0
        simpa [Addr.add] using this
      refine ⟨a.block, a.off, by rw [← ha], World.block_lt_of_cell? w a (by simpa [Addr.add] using h0), fun j u hu => ?_⟩
      obtain ⟨k, q, hk, hq, rfl⟩ : ∃ k q, k < l.length ∧ q < 7 ∧ j = k * 7 + q := by
        have := (List.getElem?_eq_some_iff.1 hu).1
        rw [acs_length] at this
        exact ⟨j / 7, j % 7, by omega, by omega, by omega⟩
      have h1 := (hlx k _ (List.getElem?_eq_getElem hk)).2 q u (by rw [← acs_get l k _ (List.getElem?_eq_getElem hk) q hq]; exact hu)
      rw [ha, Addr.add_mid, Addr.add_mid] at h1
      rw [← Nat.add_assoc]
      exact h1
    · obtain ⟨k, hk⟩ := List.mem_iff_getElem?.1 hm
      exact (hlx k m hk).1
set_option maxRecDepth 100000 in
theorem open_rule {r : Reach} {b0 : Nat} {v : Value} {d : DataW H} {p : List MemPlace} (hv : Value.okWide Try.prog w r b0 49 v) (h : DataW.Trod enc Try.prog w base spare held 49 v d p) :
    ∃ mn mx cf, v = .agg #[.int .i64 mn, .int .i64 mx, .int .i64 cf] := by
  obtain ⟨c0, c1, c2, y0, y1, y2, n, rfl, _, _, h0, h1, h2⟩ := open_agg3 Try.underlying49 (by kernel_rfl) cells49 hv h
  obtain ⟨a, e0, _, w0⟩ := DataW.trod_int Try.underlying3 h0
  obtain ⟨b, e1, _, w1⟩ := DataW.trod_int Try.underlying3 h1
  obtain ⟨c, e2, _, w2⟩ := DataW.trod_int Try.underlying3 h2
  simp only [List.cons.injEq, and_true] at e0 e1 e2
  exact ⟨a, b, c, by rw [e0, e1, e2]⟩
end
end Go.Proofs.Ytadhcnfgbiokcaa
