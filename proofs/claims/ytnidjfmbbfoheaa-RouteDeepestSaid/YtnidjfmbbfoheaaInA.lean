/- WORDS: rows of any element that came in: texts, matchers, pairs, rules, rows of pairs. -/
import Derived.Test.YtnidjfmbbfoheaaMaSplits
namespace Go.Proofs.Ytnidjfmbbfoheaa
set_option linter.unusedVariables false
set_option linter.unusedSimpArgs false
open Go.ChangeShapes Go.WideShapes Go.ChangeAt Go.RowKit Go.Joins Go.Deep

theorem flat_length {α : Type} (f : α → List Value) (k : Nat) (hf : ∀ a, (f a).length = k) (l : List α) : (l.flatMap f).length = l.length * k := by
  induction l with
  | nil => simp
  | cons a r ih => simp [ih, hf, Nat.add_mul]; omega
theorem flat_get {α : Type} (f : α → List Value) (k : Nat) (hf : ∀ a, (f a).length = k) (l : List α) : ∀ (i q : Nat) (a : α), l[i]? = some a → q < k → (l.flatMap f)[i * k + q]? = (f a)[q]? := by
  induction l with
  | nil => intro i q a h; simp at h
  | cons b r ih =>
    intro i q a h hq
    cases i with
    | zero =>
      simp at h; subst h
      rw [Nat.zero_mul, Nat.zero_add, List.flatMap_cons, List.getElem?_append_left (by rw [hf]; exact hq)]
    | succ i =>
      simp only [List.getElem?_cons_succ] at h
      rw [List.flatMap_cons, List.getElem?_append_right (by rw [hf, Nat.add_mul]; omega), hf, show (i + 1) * k + q - k = i * k + q by rw [Nat.add_mul]; omega]
      exact ih i q a h hq
section
variable {H : Type} {enc : TypeId × Value → H} {w : World} {base : Nat} {spare : Nat → Bool} {held : Bool}
set_option maxRecDepth 100000 in
/-- A slice that came in, of whatever elements. -/
theorem row_of {t e k : Nat} (ht : Try.prog.underlying t = some (.slice e)) (hk : Try.prog.cellsOf e = k) (k0 : 0 < k) {α : Type} (f : α → List Value) (Q : α → Prop) (hf : ∀ a, (f a).length = k)
    (helem : ∀ (n : Nat) (cs : List Value) (y : DataW H × List MemPlace), cs.length = k → DataW.trod enc Try.prog w base spare held n e cs = some y → ∃ a, cs = f a ∧ Q a)
    {fuel : Nat} {c : Value} {x : DataW H × List MemPlace} (h : DataW.trod enc Try.prog w base spare held fuel t [c] = some x) :
    ∃ (A : Option Addr) (cp : Nat) (l : List α), c = .slice A l.length cp ∧ Reads w (fun b => b < w.heap.size) k A l.length (l.flatMap f) ∧ (∀ a ∈ l, Q a) ∧ l.length ≤ cp ∧ cp ≤ maxLen ∧ (A = none → cp = 0) := by
  rcases open_slice ht h with ⟨hcs, hx⟩ | ⟨a, len, cap, m, n, D, Pp, hcs, hb, hl, hc, hm, hx, hi⟩
  · injection hcs with hcs
    subst hcs
    exact ⟨none, 0, [], rfl, Reads.nil _ _ _ _, by simp, Nat.le_refl _, Nat.zero_le _, fun _ => rfl⟩
  · injection hcs with hcs
    subst hcs
    have hlm : len ≤ m := by rw [hm]; split <;> omega
    have hel : ∀ i, i < len → ∃ x : α, Q x ∧ ∀ q, q < k → w.cell? ((a.add (i * k)).add q) = (f x)[q]? := by
      intro i hlt
      obtain ⟨cs, hcells, ht⟩ := hi i (by omega)
      rw [hk] at hcells
      obtain ⟨_, hlen, hat⟩ := World.cells?_some hcells
      obtain ⟨x, rfl, hq⟩ := helem n cs _ hlen ht
      exact ⟨x, hq, fun q hq => hat q hq⟩
    obtain ⟨l, hll, hlx⟩ := list_of (fun i x => Q x ∧ ∀ q, q < k → w.cell? ((a.add (i * k)).add q) = (f x)[q]?) len hel
    subst hll
    refine ⟨some a, cap, l, rfl, ⟨flat_length f k hf l, fun hn => ?_⟩, fun m hm => ?_, hl, hc, fun h => by cases h⟩
    · have h0 := (hlx 0 _ (List.getElem?_eq_getElem hn)).2 0 k0
      obtain ⟨v0, hfl⟩ : ∃ v0, (f l[0])[0]? = some v0 := ⟨(f l[0])[0]'(by rw [hf]; exact k0), List.getElem?_eq_getElem _⟩
      rw [hfl, Nat.zero_mul] at h0
      have ha : a = ⟨a.block, a.off, none⟩ := by
        have := addr_some h0
        simpa [Addr.add] using this
      refine ⟨a.block, a.off, by rw [← ha], World.block_lt_of_cell? w a (by simpa [Addr.add] using h0), fun j u hu => ?_⟩
      obtain ⟨i, q, hi, hq, rfl⟩ : ∃ i q, i < l.length ∧ q < k ∧ j = i * k + q := by
        have := (List.getElem?_eq_some_iff.1 hu).1
        rw [flat_length f k hf] at this
        exact ⟨j / k, j % k, (Nat.div_lt_iff_lt_mul k0).2 this, Nat.mod_lt _ k0, by rw [Nat.mul_comm]; exact (Nat.div_add_mod j k).symm⟩
      have h1 := (hlx i _ (List.getElem?_eq_getElem hi)).2 q hq
      rw [flat_get f k hf l i q _ (List.getElem?_eq_getElem hi) hq] at hu
      rw [hu, ha, Addr.add_mid, Addr.add_mid, Nat.add_assoc] at h1
      exact h1
    · obtain ⟨i, hi⟩ := List.mem_iff_getElem?.1 hm
      exact (hlx i m hi).1
end

/-! ### texts -/
def TxOk (s : List Nat) : Prop := (∀ x ∈ s, x < 256) ∧ s.length ≤ 9223372036854775807
def tx (s : List Nat) : List Value := [.string (bs s)]
def pcells (p : Pr) : List Value := [.string (bs p.n), .string (bs p.v)]
def mtcells (m : Mt) : List Value := [.string (bs m.n), .int .u8 m.op, .string (bs m.v)]
theorem prs_flat (l : List Pr) : l.flatMap pcells = prs l := by
  induction l with
  | nil => rfl
  | cons p r ih => rw [List.flatMap_cons, ih]; rfl
theorem mts_flat (l : List Mt) : l.flatMap mtcells = mts l := by
  induction l with
  | nil => rfl
  | cons p r ih => rw [List.flatMap_cons, ih]; rfl
/-- Rows with their places. -/
structure PR where
  A : Option Addr
  c : Nat
  l : List Pr
structure MR where
  A : Option Addr
  c : Nat
  l : List Mt
structure TR where
  A : Option Addr
  c : Nat
  l : List (List Nat)
def PR.val (p : PR) : Value := .slice p.A p.l.length p.c
def MR.val (p : MR) : Value := .slice p.A p.l.length p.c
def TR.val (p : TR) : Value := .slice p.A p.l.length p.c
def PR.In (p : PR) (w : World) : Prop := ReadsP w (fun b => b < w.heap.size) p.A p.l ∧ ∀ x ∈ p.l, x.Ok
def MR.In (p : MR) (w : World) : Prop := ReadsMt w (fun b => b < w.heap.size) p.A p.l ∧ ∀ x ∈ p.l, x.Ok
def TR.In (p : TR) (w : World) : Prop := Reads w (fun b => b < w.heap.size) 1 p.A p.l.length (p.l.flatMap tx) ∧ ∀ x ∈ p.l, TxOk x
theorem PR.In.below {p : PR} {w w' : World} (h : p.In w) (hb : Below w.heap.size w w') : p.In w' := ⟨readsP_below h.1 hb, h.2⟩
theorem MR.In.below {p : MR} {w w' : World} (h : p.In w) (hb : Below w.heap.size w w') : p.In w' := ⟨readsMt_below h.1 hb, h.2⟩
theorem TR.In.below {p : TR} {w w' : World} (h : p.In w) (hb : Below w.heap.size w w') : p.In w' := ⟨(h.1.below (by omega) hb).imp (fun b hb' => Nat.lt_of_lt_of_le hb' hb.size), h.2⟩
/-- A rule. -/
structure Rl where
  s : MR
  t : MR
  e : TR
def Rl.cells (r : Rl) : List Value := [r.s.val, r.t.val, r.e.val]
def Rl.In (r : Rl) (w : World) : Prop := r.s.In w ∧ r.t.In w ∧ r.e.In w
theorem Rl.In.below {p : Rl} {w w' : World} (h : p.In w) (hb : Below w.heap.size w w') : p.In w' := ⟨h.1.below hb, h.2.1.below hb, h.2.2.below hb⟩
section
variable {H : Type} {enc : TypeId × Value → H} {w : World} {base : Nat} {spare : Nat → Bool} {held : Bool}
theorem und45b : Try.prog.underlying 45 = some (.slice 9) := by kernel_rfl
theorem und49b : Try.prog.underlying 49 = some (.slice 47) := by kernel_rfl
theorem und50b : Try.prog.underlying 50 = some (.slice 38) := by kernel_rfl
theorem und52b : Try.prog.underlying 52 = some (.array 2 38) := by kernel_rfl
theorem cells47 : Try.prog.cellsOf 47 = 3 := by kernel_rfl
theorem cells38 : Try.prog.cellsOf 38 = 1 := by kernel_rfl
theorem cells44 : Try.prog.cellsOf 44 = 1 := by kernel_rfl
theorem cells45 : Try.prog.cellsOf 45 = 1 := by kernel_rfl
theorem cells52 : Try.prog.cellsOf 52 = 2 := by kernel_rfl
theorem one_of {cs : List Value} (h : cs.length = 1) : ∃ c, cs = [c] := by
  match cs, h with
  | [c], _ => exact ⟨c, rfl⟩
set_option maxRecDepth 100000 in
theorem tr_of {n : Nat} {c : Value} {y : DataW H × List MemPlace} (h : DataW.trod enc Try.prog w base spare held n 45 [c] = some y) : ∃ r : TR, c = r.val ∧ r.In w := by
  obtain ⟨A, cp, l, e, R, o, _, _, _⟩ := row_of und45b cells9 (by decide) tx TxOk (fun _ => rfl) (fun n cs y hl h => by
    obtain ⟨c, rfl⟩ := one_of hl
    obtain ⟨s, rfl, a, b⟩ := str_field n h
    exact ⟨s, rfl, a, b⟩) h
  exact ⟨⟨A, cp, l⟩, e, R, o⟩
set_option maxRecDepth 100000 in
theorem pr_of {n : Nat} {c : Value} {y : DataW H × List MemPlace} (h : DataW.trod enc Try.prog w base spare held n 38 [c] = some y) : ∃ r : PR, c = r.val ∧ r.In w := by
  obtain ⟨A, cp, l, e, R, o, _, _, _⟩ := row_of und38b cells43 (by decide) pcells Pr.Ok (fun _ => rfl) (fun n cs y hl ht => by
    obtain ⟨ys, n', _, hy, hyl, _, hfld⟩ := DataW.trod_struct Try.underlying43 ht
    obtain ⟨c0, c1, rfl⟩ : ∃ c0 c1, cs = [c0, c1] := by
      match cs, hl with
      | [c0, c1], _ => exact ⟨c0, c1, rfl⟩
    obtain ⟨y0, y1, rfl⟩ : ∃ y0 y1, ys = [y0, y1] := by
      match ys, hyl with
      | [y0, y1], _ => exact ⟨y0, y1, rfl⟩
    have g0 := hfld 0 _ rfl
    have g1 := hfld 1 _ rfl
    simp only [cells9, List.drop_zero, List.drop_succ_cons, List.take_succ_cons, List.take_zero, List.getElem?_cons_zero, List.getElem?_cons_succ] at g0 g1
    obtain ⟨s0, rfl, a0, b0⟩ := str_field n' g0
    obtain ⟨s1, rfl, a1, b1⟩ := str_field n' g1
    exact ⟨⟨s0, s1⟩, rfl, a0, b0, a1, b1⟩) h
  rw [prs_flat] at R
  exact ⟨⟨A, cp, l⟩, e, R, o⟩
set_option maxRecDepth 100000 in
theorem mr_of {n : Nat} {c : Value} {y : DataW H × List MemPlace} (h : DataW.trod enc Try.prog w base spare held n 44 [c] = some y) : ∃ r : MR, c = r.val ∧ r.In w := by
  obtain ⟨A, cp, l, e, R, o, _, _, _⟩ := row_of und44b cells37 (by decide) mtcells Mt.Ok (fun _ => rfl) (fun n cs y hl ht => by
    obtain ⟨ys, n', _, hy, hyl, _, hfld⟩ := DataW.trod_struct Try.underlying37 ht
    obtain ⟨c0, c1, c2, rfl⟩ : ∃ c0 c1 c2, cs = [c0, c1, c2] := by
      match cs, hl with
      | [c0, c1, c2], _ => exact ⟨c0, c1, c2, rfl⟩
    obtain ⟨y0, y1, y2, rfl⟩ : ∃ y0 y1 y2, ys = [y0, y1, y2] := by
      match ys, hyl with
      | [y0, y1, y2], _ => exact ⟨y0, y1, y2, rfl⟩
    have g0 := hfld 0 _ rfl
    have g1 := hfld 1 _ rfl
    have g2 := hfld 2 _ rfl
    simp only [cells9, cells35, List.drop_zero, List.drop_succ_cons, List.take_succ_cons, List.take_zero, List.getElem?_cons_zero, List.getElem?_cons_succ] at g0 g1 g2
    obtain ⟨s0, rfl, a0, b0⟩ := str_field n' g0
    obtain ⟨x, e1, _, w1⟩ := DataW.trod_int Try.underlying35 g1
    obtain ⟨s2, rfl, a2, b2⟩ := str_field n' g2
    have e1' : List.take (Try.prog.cellsOf 35) (List.drop 1 [.string (bs s0), c1, .string (bs s2)]) = [.int .u8 x] := e1
    rw [cells35] at e1'
    injection e1' with e1'
    subst e1'
    have b1 := bounds_u8 w1
    exact ⟨⟨s0, s2, x⟩, rfl, a0, b0, a2, b2, b1.1, b1.2⟩) h
  rw [mts_flat] at R
  exact ⟨⟨A, cp, l⟩, e, R, o⟩
set_option maxRecDepth 100000 in
theorem rl_of {n : Nat} {cs : List Value} {y : DataW H × List MemPlace} (hl : cs.length = 3) (ht : DataW.trod enc Try.prog w base spare held n 47 cs = some y) : ∃ r : Rl, cs = r.cells ∧ r.In w := by
  obtain ⟨ys, n', _, hy, hyl, _, hfld⟩ := DataW.trod_struct Try.underlying47 ht
  obtain ⟨c0, c1, c2, rfl⟩ : ∃ c0 c1 c2, cs = [c0, c1, c2] := by
    match cs, hl with
    | [c0, c1, c2], _ => exact ⟨c0, c1, c2, rfl⟩
  obtain ⟨y0, y1, y2, rfl⟩ : ∃ y0 y1 y2, ys = [y0, y1, y2] := by
    match ys, hyl with
    | [y0, y1, y2], _ => exact ⟨y0, y1, y2, rfl⟩
  have g0 := hfld 0 _ rfl
  have g1 := hfld 1 _ rfl
  have g2 := hfld 2 _ rfl
  have h0 : DataW.trod enc Try.prog w base spare held n' 44 [c0] = some y0 := by
    have : DataW.trod enc Try.prog w base spare held n' 44 (List.take (Try.prog.cellsOf 44) [c0, c1, c2]) = some y0 := g0
    rwa [cells44] at this
  have h1 : DataW.trod enc Try.prog w base spare held n' 44 [c1] = some y1 := by
    have : DataW.trod enc Try.prog w base spare held n' 44 (List.take (Try.prog.cellsOf 44) [c1, c2]) = some y1 := g1
    rwa [cells44] at this
  have h2 : DataW.trod enc Try.prog w base spare held n' 45 [c2] = some y2 := by
    have : DataW.trod enc Try.prog w base spare held n' 45 (List.take (Try.prog.cellsOf 45) [c2]) = some y2 := g2
    rwa [cells45] at this
  obtain ⟨r0, rfl, i0⟩ := mr_of h0
  obtain ⟨r1, rfl, i1⟩ := mr_of h1
  obtain ⟨r2, rfl, i2⟩ := tr_of h2
  exact ⟨⟨r0, r1, r2⟩, rfl, i0, i1, i2⟩
set_option maxRecDepth 100000 in
theorem open_rule {r : Reach} {b0 : Nat} {v : Value} {d : DataW H} {p : List MemPlace} (hv : Value.okWide Try.prog w r b0 47 v) (h : DataW.Trod enc Try.prog w base spare held 47 v d p) :
    ∃ m : Rl, v = .agg m.cells.toArray ∧ m.In w := by
  obtain ⟨c0, c1, c2, y0, y1, y2, n, rfl, _, _, h0, h1, h2⟩ := open_agg3 Try.underlying47 (by kernel_rfl) cells47 hv h
  obtain ⟨r0, rfl, i0⟩ := mr_of h0
  obtain ⟨r1, rfl, i1⟩ := mr_of h1
  obtain ⟨r2, rfl, i2⟩ := tr_of h2
  exact ⟨⟨r0, r1, r2⟩, rfl, i0, i1, i2⟩
set_option maxRecDepth 100000 in
theorem open_pr {r : Reach} {b0 : Nat} {v : Value} {d : DataW H} {p : List MemPlace} (hv : Value.okWide Try.prog w r b0 38 v) (h : DataW.Trod enc Try.prog w base spare held 38 v d p) : ∃ m : PR, v = m.val ∧ m.In w := by
  obtain ⟨a0, len, cap, rfl⟩ := okWide_slice und38b hv
  obtain ⟨fuel, hf⟩ := h
  exact pr_of (by simpa [Value.cells] using hf)
set_option maxRecDepth 100000 in
theorem open_rules {r : Reach} {b0 : Nat} {v : Value} {d : DataW H} {p : List MemPlace} (hv : Value.okWide Try.prog w r b0 49 v) (h : DataW.Trod enc Try.prog w base spare held 49 v d p) :
    ∃ (A : Option Addr) (c : Nat) (l : List Rl), v = .slice A l.length c ∧ Reads w (fun b => b < w.heap.size) 3 A l.length (l.flatMap Rl.cells) ∧ (∀ r ∈ l, r.In w) ∧ l.length ≤ c ∧ c ≤ 9223372036854775807 ∧ (A = none → c = 0) := by
  obtain ⟨a0, len, cap, rfl⟩ := okWide_slice und49b hv
  obtain ⟨fuel, hf⟩ := h
  obtain ⟨A, cp, l, e, R, o, hc, hm, hz⟩ := row_of und49b cells47 (by decide) Rl.cells (fun r => r.In w) (fun _ => rfl) (fun n cs y hl ht => rl_of hl ht) (c := .slice a0 len cap) (by simpa [Value.cells] using hf)
  exact ⟨A, cp, l, e, R, o, hc, hm, hz⟩
set_option maxRecDepth 100000 in
theorem open_pairss {r : Reach} {b0 : Nat} {v : Value} {d : DataW H} {p : List MemPlace} (hv : Value.okWide Try.prog w r b0 50 v) (h : DataW.Trod enc Try.prog w base spare held 50 v d p) :
    ∃ (A : Option Addr) (c : Nat) (l : List PR), v = .slice A l.length c ∧ Reads w (fun b => b < w.heap.size) 1 A l.length (l.flatMap fun p : PR => [p.val]) ∧ (∀ r ∈ l, r.In w) ∧ l.length ≤ c ∧ c ≤ 9223372036854775807 ∧ (A = none → c = 0) := by
  obtain ⟨a0, len, cap, rfl⟩ := okWide_slice und50b hv
  obtain ⟨fuel, hf⟩ := h
  obtain ⟨A, cp, l, e, R, o, hc, hm, hz⟩ := row_of und50b cells38 (by decide) (fun p : PR => [p.val]) (fun r => r.In w) (fun _ => rfl) (fun n cs y hl ht => by
    obtain ⟨c, rfl⟩ := one_of hl
    obtain ⟨r, rfl, i⟩ := pr_of ht
    exact ⟨r, rfl, i⟩) (c := .slice a0 len cap) (by simpa [Value.cells] using hf)
  exact ⟨A, cp, l, e, R, o, hc, hm, hz⟩
set_option maxRecDepth 100000 in
theorem open_two {r : Reach} {b0 : Nat} {v : Value} {d : DataW H} {p : List MemPlace} (hv : Value.okWide Try.prog w r b0 52 v) (h : DataW.Trod enc Try.prog w base spare held 52 v d p) :
    ∃ p q : PR, v = .agg #[p.val, q.val] ∧ p.In w ∧ q.In w := by
  obtain ⟨cs, rfl, hsz⟩ : ∃ cs, v = .agg cs ∧ cs.size = 2 := by
    simp only [Value.okWide, und52b] at hv
    obtain ⟨cs, h1, h2, _⟩ := hv
    exact ⟨cs, h1, by rw [h2, cells52]⟩
  obtain ⟨c0, c1, rfl⟩ := array2 hsz
  obtain ⟨fuel, hf⟩ := h
  have hf' : DataW.trod enc Try.prog w base spare held fuel 52 [c0, c1] = some (d, p) := hf
  obtain ⟨xs, m, _, _, _, hxl, hel⟩ := DataW.trod_array und52b hf'
  obtain ⟨y0, y1, rfl⟩ : ∃ y0 y1, xs = [y0, y1] := by
    match xs, hxl with
    | [y0, y1], _ => exact ⟨y0, y1, rfl⟩
  have g0 := hel 0 (by decide)
  have g1 := hel 1 (by decide)
  rw [cells38] at g0 g1
  obtain ⟨r0, rfl, i0⟩ := pr_of (show DataW.trod enc Try.prog w base spare held m 38 [c0] = some y0 from g0)
  obtain ⟨r1, rfl, i1⟩ := pr_of (show DataW.trod enc Try.prog w base spare held m 38 [c1] = some y1 from g1)
  exact ⟨r0, r1, rfl, i0, i1⟩
end
end Go.Proofs.Ytnidjfmbbfoheaa
