/- WORDS: acts that came in. -/
import Derived.Test.YtnlpgjdgiappcaaPrD4
import Derived.Test.YtnlpgjdgiappcaaMbOpen
namespace Go.Proofs.Ytnlpgjdgiappcaa
set_option linter.unusedVariables false
set_option linter.unusedSimpArgs false
open Go.ChangeShapes Go.WideShapes Go.ChangeAt Go.RowKit Go.Joins Go.Deep

theorem rflat_length {α : Type} (f : α → List Value) (k : Nat) (hf : ∀ a, (f a).length = k) (l : List α) : (l.flatMap f).length = l.length * k := by
  induction l with
  | nil => simp
  | cons a r ih => simp [ih, hf, Nat.add_mul]; omega
theorem rflat_get {α : Type} (f : α → List Value) (k : Nat) (hf : ∀ a, (f a).length = k) (l : List α) : ∀ (i q : Nat) (a : α), l[i]? = some a → q < k → (l.flatMap f)[i * k + q]? = (f a)[q]? := by
  induction l with
  | nil => intro i q a h; simp at h
  | cons b r ih =>
    intro i q a h hq
    cases i with
    | zero =>
      simp at h; subst h
      rw [Nat.zero_mul, Nat.zero_add, List.flatMap_cons, List.getElem?_append_left (by rw [hf]; exact hq)]
    | succ i =>
      simp only [List.getElem?_cons_succ] at h
      rw [List.flatMap_cons, List.getElem?_append_right (by rw [hf, Nat.add_mul]; omega), hf, show (i + 1) * k + q - k = i * k + q by rw [Nat.add_mul]; omega]
      exact ih i q a h hq
section
variable {H : Type} {enc : TypeId × Value → H} {w : World} {base : Nat} {spare : Nat → Bool} {held : Bool}
set_option maxRecDepth 100000 in
/-- A slice that came in, of whatever elements. -/
theorem row_of {t e k : Nat} (ht : Try.prog.underlying t = some (.slice e)) (hk : Try.prog.cellsOf e = k) (k0 : 0 < k) {α : Type} (f : α → List Value) (Q : α → Prop) (hf : ∀ a, (f a).length = k)
    (helem : ∀ (n : Nat) (cs : List Value) (y : DataW H × List MemPlace), cs.length = k → DataW.trod enc Try.prog w base spare held n e cs = some y → ∃ a, cs = f a ∧ Q a)
    {fuel : Nat} {c : Value} {x : DataW H × List MemPlace} (h : DataW.trod enc Try.prog w base spare held fuel t [c] = some x) :
    ∃ (A : Option Addr) (cp : Nat) (l : List α), c = .slice A l.length cp ∧ Reads w (fun b => b < w.heap.size) k A l.length (l.flatMap f) ∧ (∀ a ∈ l, Q a) ∧ l.length ≤ cp ∧ cp ≤ maxLen ∧ (A = none → cp = 0) := by
  rcases open_slice ht h with ⟨hcs, hx⟩ | ⟨a, len, cap, m, n, D, Pp, hcs, hb, hl, hc, hm, hx, hi⟩
  · injection hcs with hcs
    subst hcs
    exact ⟨none, 0, [], rfl, Reads.nil _ _ _ _, by simp, Nat.le_refl _, Nat.zero_le _, fun _ => rfl⟩
  · injection hcs with hcs
    subst hcs
    have hlm : len ≤ m := by rw [hm]; split <;> omega
    have hel : ∀ i, i < len → ∃ x : α, Q x ∧ ∀ q, q < k → w.cell? ((a.add (i * k)).add q) = (f x)[q]? := by
      intro i hlt
      obtain ⟨cs, hcells, ht⟩ := hi i (by omega)
      rw [hk] at hcells
      obtain ⟨_, hlen, hat⟩ := World.cells?_some hcells
      obtain ⟨x, rfl, hq⟩ := helem n cs _ hlen ht
      exact ⟨x, hq, fun q hq => hat q hq⟩
    obtain ⟨l, hll, hlx⟩ := list_of (fun i x => Q x ∧ ∀ q, q < k → w.cell? ((a.add (i * k)).add q) = (f x)[q]?) len hel
    subst hll
    refine ⟨some a, cap, l, rfl, ⟨rflat_length f k hf l, fun hn => ?_⟩, fun m hm => ?_, hl, hc, fun h => by cases h⟩
    · have h0 := (hlx 0 _ (List.getElem?_eq_getElem hn)).2 0 k0
      obtain ⟨v0, hfl⟩ : ∃ v0, (f l[0])[0]? = some v0 := ⟨(f l[0])[0]'(by rw [hf]; exact k0), List.getElem?_eq_getElem _⟩
      rw [hfl, Nat.zero_mul] at h0
      have ha : a = ⟨a.block, a.off, none⟩ := by
        have := addr_some h0
        simpa [Addr.add] using this
      refine ⟨a.block, a.off, by rw [← ha], World.block_lt_of_cell? w a (by simpa [Addr.add] using h0), fun j u hu => ?_⟩
      obtain ⟨i, q, hi, hq, rfl⟩ : ∃ i q, i < l.length ∧ q < k ∧ j = i * k + q := by
        have := (List.getElem?_eq_some_iff.1 hu).1
        rw [rflat_length f k hf] at this
        exact ⟨j / k, j % k, (Nat.div_lt_iff_lt_mul k0).2 this, Nat.mod_lt _ k0, by rw [Nat.mul_comm]; exact (Nat.div_add_mod j k).symm⟩
      have h1 := (hlx i _ (List.getElem?_eq_getElem hi)).2 q hq
      rw [rflat_get f k hf l i q _ (List.getElem?_eq_getElem hi) hq] at hu
      rw [hu, ha, Addr.add_mid, Addr.add_mid, Nat.add_assoc] at h1
      exact h1
    · obtain ⟨i, hi⟩ := List.mem_iff_getElem?.1 hm
      exact (hlx i m hi).1
end


/-! ### acts -/
structure Ac.Ok (a : Ac) : Prop where
  k0 : 0 ≤ a.k
  k1 : a.k ≤ 255
  b0 : 0 ≤ a.b
  b1 : a.b ≤ 255
  d0 : 0 ≤ a.d
  d1 : a.d ≤ 4294967295
  m : Pl.MOk a.m
  s0 : -9223372036854775808 ≤ a.s
  s1 : a.s ≤ 9223372036854775807
def acl (a : Ac) : List Value := [.int .u8 a.k, .int .u8 a.b, .int .u32 a.d, .int .u16 a.m.n, .int .u8 a.m.s, .int .i64 a.m.i, .int .i64 a.s]
def acs (l : List Ac) : List Value := l.flatMap acl
section
variable {H : Type} {enc : TypeId × Value → H} {w : World} {base : Nat} {spare : Nat → Bool} {held : Bool}
theorem und75 : Try.prog.underlying 75 = some (.slice 85) := by kernel_rfl
theorem cells85 : Try.prog.cellsOf 85 = 7 := by kernel_rfl
theorem cells5 : Try.prog.cellsOf 5 = 1 := by kernel_rfl
theorem cells64 : Try.prog.cellsOf 64 = 1 := by kernel_rfl
set_option maxRecDepth 100000 in
theorem act_of {n : Nat} {cs : List Value} {y : DataW H × List MemPlace} (hl : cs.length = 7) (ht : DataW.trod enc Try.prog w base spare held n 85 cs = some y) : ∃ a : Ac, cs = acl a ∧ a.Ok := by
  obtain ⟨ys, n', _, hy, hyl, _, hfld⟩ := DataW.trod_struct Try.underlying85 ht
  obtain ⟨c0, c1, c2, c3, c4, c5, c6, rfl⟩ : ∃ c0 c1 c2 c3 c4 c5 c6, cs = [c0, c1, c2, c3, c4, c5, c6] := by
    match cs, hl with
    | [c0, c1, c2, c3, c4, c5, c6], _ => exact ⟨c0, c1, c2, c3, c4, c5, c6, rfl⟩
  obtain ⟨y0, y1, y2, y3, y4, rfl⟩ : ∃ y0 y1 y2 y3 y4, ys = [y0, y1, y2, y3, y4] := by
    match ys, hyl with
    | [y0, y1, y2, y3, y4], _ => exact ⟨y0, y1, y2, y3, y4, rfl⟩
  have g0 := hfld 0 _ rfl
  have g1 := hfld 1 _ rfl
  have g2 := hfld 2 _ rfl
  have g3 := hfld 3 _ rfl
  have g4 := hfld 4 _ rfl
  have h0 : DataW.trod enc Try.prog w base spare held n' 5 [c0] = some y0 := by
    have : DataW.trod enc Try.prog w base spare held n' 5 (List.take (Try.prog.cellsOf 5) [c0, c1, c2, c3, c4, c5, c6]) = some y0 := g0
    rwa [cells5] at this
  have h1 : DataW.trod enc Try.prog w base spare held n' 5 [c1] = some y1 := by
    have : DataW.trod enc Try.prog w base spare held n' 5 (List.take (Try.prog.cellsOf 5) [c1, c2, c3, c4, c5, c6]) = some y1 := g1
    rwa [cells5] at this
  have h2 : DataW.trod enc Try.prog w base spare held n' 64 [c2] = some y2 := by
    have : DataW.trod enc Try.prog w base spare held n' 64 (List.take (Try.prog.cellsOf 64) [c2, c3, c4, c5, c6]) = some y2 := g2
    rwa [cells64] at this
  have h3 : DataW.trod enc Try.prog w base spare held n' 25 [c3, c4, c5] = some y3 := by
    have : DataW.trod enc Try.prog w base spare held n' 25 (List.take (Try.prog.cellsOf 25) [c3, c4, c5, c6]) = some y3 := g3
    rwa [cells25] at this
  have h4 : DataW.trod enc Try.prog w base spare held n' 3 [c6] = some y4 := by
    have : DataW.trod enc Try.prog w base spare held n' 3 (List.take (Try.prog.cellsOf 3) [c6]) = some y4 := g4
    rwa [cells3] at this
  obtain ⟨a0, e0, _, w0⟩ := DataW.trod_int Try.underlying5 h0
  obtain ⟨a1, e1, _, w1⟩ := DataW.trod_int Try.underlying5 h1
  obtain ⟨a2, e2, _, w2⟩ := DataW.trod_int Try.underlying64 h2
  obtain ⟨a4, e4, _, w4⟩ := DataW.trod_int Try.underlying3 h4
  obtain ⟨ys, n'', _, hy, hyl, _, hfld⟩ := DataW.trod_struct Try.underlying25 h3
  obtain ⟨z0, z1, z2, rfl⟩ : ∃ y0 y1 y2, ys = [y0, y1, y2] := by
    match ys, hyl with
    | [y0, y1, y2], _ => exact ⟨y0, y1, y2, rfl⟩
  have g0 := hfld 0 _ rfl
  have g1 := hfld 1 _ rfl
  have g2 := hfld 2 _ rfl
  simp only [cells22, cells23, cells3, List.drop_zero, List.drop_succ_cons, List.take_succ_cons, List.take_zero, List.getElem?_cons_zero, List.getElem?_cons_succ] at g0 g1 g2
  obtain ⟨m, rfl, rfl, rfl, hm⟩ := mfields n'' g0 g1 g2
  simp only [List.cons.injEq, and_true] at e0 e1 e2 e4
  subst e0 e1 e2 e4
  have b0 := bounds_u8 w0
  have b1 := bounds_u8 w1
  have b2 := bounds_u32 w2
  have b4 := bounds_i64 w4
  exact ⟨⟨a0, a1, a2, m, a4⟩, rfl, b0.1, b0.2, b1.1, b1.2, b2.1, b2.2, hm, b4.1, b4.2⟩
set_option maxRecDepth 100000 in
/-- A row of acts that came in. -/
theorem open_acts {r : Reach} {b0 : Nat} {v : Value} {d : DataW H} {p : List MemPlace} (hv : Value.okWide Try.prog w r b0 75 v) (h : DataW.Trod enc Try.prog w base spare held 75 v d p) :
    ∃ A c l, v = .slice A l.length c ∧ Reads w (fun b => b < w.heap.size) 7 A l.length (acs l) ∧ ∀ a ∈ l, Ac.Ok a := by
  obtain ⟨a0, len, cap, rfl⟩ := okWide_slice und75 hv
  obtain ⟨fuel, hf⟩ := h
  obtain ⟨A, cp, l, e, R, o, _, _, _⟩ := row_of und75 cells85 (by decide) acl Ac.Ok (fun _ => rfl) (fun n cs y hl ht => act_of hl ht) hf
  exact ⟨A, cp, l, e, R, o⟩
end
/-- An act's cells, at its place. -/
theorem acs_at {w : World} {b o : Nat} {l : List Ac} (h : ∀ j u, (acs l)[j]? = some u → w.cell? ⟨b, o + j, none⟩ = some u) {i : Nat} {a : Ac} (ha : l[i]? = some a) :
    w.cell? ⟨b, o + i * 7, none⟩ = some (.int .u8 a.k) ∧ w.cell? ⟨b, o + i * 7 + 1, none⟩ = some (.int .u8 a.b) ∧ w.cell? ⟨b, o + i * 7 + 2, none⟩ = some (.int .u32 a.d) ∧ w.cell? ⟨b, o + i * 7 + 3, none⟩ = some (.int .u16 a.m.n) ∧ w.cell? ⟨b, o + i * 7 + 4, none⟩ = some (.int .u8 a.m.s) ∧ w.cell? ⟨b, o + i * 7 + 5, none⟩ = some (.int .i64 a.m.i) ∧ w.cell? ⟨b, o + i * 7 + 6, none⟩ = some (.int .i64 a.s) := by
  have q : ∀ j, j < 7 → ∀ u, (acl a)[j]? = some u → w.cell? ⟨b, o + i * 7 + j, none⟩ = some u := fun j hj u hu => by
    have := h (i * 7 + j) u ((rflat_get acl 7 (fun _ => rfl) l i j a ha hj).trans hu)
    rwa [← Nat.add_assoc] at this
  exact ⟨q 0 (by omega) _ rfl, q 1 (by omega) _ rfl, q 2 (by omega) _ rfl, q 3 (by omega) _ rfl, q 4 (by omega) _ rfl, q 5 (by omega) _ rfl, q 6 (by omega) _ rfl⟩
end Go.Proofs.Ytnlpgjdgiappcaa
