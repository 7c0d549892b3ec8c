/- WORDS: rows of any element that came in: texts, matchers, pairs, rules, rows of pairs. -/
import Derived.Test.YtnidjfmbbfoheaaMaSplits
import Derived.Test.YtnidjfmbbfoheaaMaNot
namespace Go.Proofs.Ytnidjfmbbfoheaa
set_option linter.unusedVariables false
set_option linter.unusedSimpArgs false
open Go.ChangeShapes Go.WideShapes Go.ChangeAt Go.RowKit Go.Joins Go.Deep

theorem flat_length {α : Type} (f : α → List Value) (k : Nat) (hf : ∀ a, (f a).length = k) (l : List α) : (l.flatMap f).length = l.length * k := by
  induction l with
  | nil => simp
  | cons a r ih => simp [ih, hf, Nat.add_mul]; omega
theorem flat_get {α : Type} (f : α → List Value) (k : Nat) (hf : ∀ a, (f a).length = k) (l : List α) : ∀ (i q : Nat) (a : α), l[i]? = some a → q < k → (l.flatMap f)[i * k + q]? = (f a)[q]? := by
  induction l with
  | nil => intro i q a h; simp at h
  | cons b r ih =>
    intro i q a h hq
    cases i with
    | zero =>
      simp at h; subst h
      rw [Nat.zero_mul, Nat.zero_add, List.flatMap_cons, List.getElem?_append_left (by rw [hf]; exact hq)]
    | succ i =>
      simp only [List.getElem?_cons_succ] at h
      rw [List.flatMap_cons, List.getElem?_append_right (by rw [hf, Nat.add_mul]; omega), hf, show (i + 1) * k + q - k = i * k + q by rw [Nat.add_mul]; omega]
      exact ih i q a h hq
section
variable {H : Type} {enc : TypeId × Value → H} {w : World} {base : Nat} {spare : Nat → Bool} {held : Bool}
set_option maxRecDepth 100000 in
/-- A slice that came in, of whatever elements. -/
theorem row_of {t e k : Nat} (ht : Try.prog.underlying t = some (.slice e)) (hk : Try.prog.cellsOf e = k) (k0 : 0 < k) {α : Type} (f : α → List Value) (Q : α → Prop) (hf : ∀ a, (f a).length = k)
    (helem : ∀ (n : Nat) (cs : List Value) (y : DataW H × List MemPlace), cs.length = k → DataW.trod enc Try.prog w base spare held n e cs = some y → ∃ a, cs = f a ∧ Q a)
    {fuel : Nat} {c : Value} {x : DataW H × List MemPlace} (h : DataW.trod enc Try.prog w base spare held fuel t [c] = some x) :
    ∃ (A : Option Addr) (cp : Nat) (l : List α), c = .slice A l.length cp ∧ Reads w (fun b => b < w.heap.size) k A l.length (l.flatMap f) ∧ (∀ a ∈ l, Q a) ∧ l.length ≤ cp ∧ cp ≤ maxLen ∧ (A = none → cp = 0) := by
  rcases open_slice ht h with ⟨hcs, hx⟩ | ⟨a, len, cap, m, n, D, Pp, hcs, hb, hl, hc, hm, hx, hi⟩
  · injection hcs with hcs
    subst hcs
    exact ⟨none, 0, [], rfl, Reads.nil _ _ _ _, by simp, Nat.le_refl _, Nat.zero_le _, fun _ => rfl⟩
  · injection hcs with hcs
    subst hcs
    have hlm : len ≤ m := by rw [hm]; split <;> omega
    have hel : ∀ i, i < len → ∃ x : α, Q x ∧ ∀ q, q < k → w.cell? ((a.add (i * k)).add q) = (f x)[q]? := by
      intro i hlt
      obtain ⟨cs, hcells, ht⟩ := hi i (by omega)
      rw [hk] at hcells
      obtain ⟨_, hlen, hat⟩ := World.cells?_some hcells
      obtain ⟨x, rfl, hq⟩ := helem n cs _ hlen ht
      exact ⟨x, hq, fun q hq => hat q hq⟩
    obtain ⟨l, hll, hlx⟩ := list_of (fun i x => Q x ∧ ∀ q, q < k → w.cell? ((a.add (i * k)).add q) = (f x)[q]?) len hel
    subst hll
    refine ⟨some a, cap, l, rfl, ⟨flat_length f k hf l, fun hn => ?_⟩, fun m hm => ?_, hl, hc, fun h => by cases h⟩
    · have h0 := (hlx 0 _ (List.getElem?_eq_getElem hn)).2 0 k0
      obtain ⟨v0, hfl⟩ : ∃ v0, (f l[0])[0]? = some v0 := ⟨(f l[0])[0]'(by rw [hf]; exact k0), List.getElem?_eq_getElem _⟩
      rw [hfl, Nat.zero_mul] at h0
      have ha : a = ⟨a.block, a.off, none⟩ := by
        have := addr_some h0
        simpa [Addr.add] using this
      refine ⟨a.block, a.off, by rw [← ha], World.block_lt_of_cell? w a (by simpa [Addr.add] using h0), fun j u hu => ?_⟩
      obtain ⟨i, q, hi, hq, rfl⟩ : ∃ i q, i < l.length ∧ q < k ∧ j = i * k + q := by
        have := (List.getElem?_eq_some_iff.1 hu).1
        rw [flat_length f k hf] at this
        exact ⟨j / k, j % k, (Nat.div_lt_iff_lt_mul k0).2 this, Nat.mod_lt _ k0, by rw [Nat.mul_comm]; exact (Nat.div_add_mod j k).symm⟩
      have h1 := (hlx i _ (List.getElem?_eq_getElem hi)).2 q hq
      rw [flat_get f k hf l i q _ (List.getElem?_eq_getElem hi) hq] at hu
      rw [hu, ha, Addr.add_mid, Addr.add_mid, Nat.add_assoc] at h1
      exact h1
    · obtain ⟨i, hi⟩ := List.mem_iff_getElem?.1 hm
      exact (hlx i m hi).1
end

/-! ### texts -/
def TxOk (s : List Nat) : Prop := (∀ x ∈ s, x < 256) ∧ s.length ≤ 9223372036854775807
def tx (s : List Nat) : List Value := [.string (bs s)]
def pcells (p : Pr) : List Value := [.string (bs p.n), .string (bs p.v)]
def mtcells (m : Mt) : List Value := [.string (bs m.n), .int .u8 m.op, .string (bs m.v)]
theorem prs_flat (l : List Pr) : l.flatMap pcells = prs l := by
  induction l with
  | nil => rfl
  | cons p r ih => rw [List.flatMap_cons, ih]; rfl
theorem mts_flat (l : List Mt) : l.flatMap mtcells = mts l := by
  induction l with
  | nil => rfl
  | cons p r ih => rw [List.flatMap_cons, ih]; rfl
/-- Rows with their places. -/
structure PR where
  A : Option Addr
  c : Nat
  l : List Pr
structure MR where
  A : Option Addr
  c : Nat
  l : List Mt
structure TR where
  A : Option Addr
  c : Nat
  l : List (List Nat)
def PR.val (p : PR) : Value := .slice p.A p.l.length p.c
def MR.val (p : MR) : Value := .slice p.A p.l.length p.c
def TR.val (p : TR) : Value := .slice p.A p.l.length p.c
def PR.In (p : PR) (w : World) : Prop := ReadsP w (fun b => b < w.heap.size) p.A p.l ∧ ∀ x ∈ p.l, x.Ok
def MR.In (p : MR) (w : World) : Prop := ReadsMt w (fun b => b < w.heap.size) p.A p.l ∧ ∀ x ∈ p.l, x.Ok
def TR.In (p : TR) (w : World) : Prop := Reads w (fun b => b < w.heap.size) 1 p.A p.l.length (p.l.flatMap tx) ∧ ∀ x ∈ p.l, TxOk x
theorem PR.In.below {p : PR} {w w' : World} (h : p.In w) (hb : Below w.heap.size w w') : p.In w' := ⟨readsP_below h.1 hb, h.2⟩
theorem MR.In.below {p : MR} {w w' : World} (h : p.In w) (hb : Below w.heap.size w w') : p.In w' := ⟨readsMt_below h.1 hb, h.2⟩
theorem TR.In.below {p : TR} {w w' : World} (h : p.In w) (hb : Below w.heap.size w w') : p.In w' := ⟨(h.1.below (by omega) hb).imp (fun b hb' => Nat.lt_of_lt_of_le hb' hb.size), h.2⟩
/-- A rule. -/
structure Rl where
  s : MR
  t : MR
  e : TR
def Rl.cells (r : Rl) : List Value := [r.s.val, r.t.val, r.e.val]
def Rl.In (r : Rl) (w : World) : Prop := r.s.In w ∧ r.t.In w ∧ r.e.In w
theorem Rl.In.below {p : Rl} {w w' : World} (h : p.In w) (hb : Below w.heap.size w w') : p.In w' := ⟨h.1.below hb, h.2.1.below hb, h.2.2.below hb⟩
section
variable {H : Type} {enc : TypeId × Value → H} {w : World} {base : Nat} {spare : Nat → Bool} {held : Bool}
theorem und45b : Try.prog.underlying 45 = some (.slice 9) := by kernel_rfl
theorem und49b : Try.prog.underlying 49 = some (.slice 47) := by kernel_rfl
theorem und50b : Try.prog.underlying 50 = some (.slice 38) := by kernel_rfl
theorem und52b : Try.prog.underlying 52 = some (.array 2 38) := by kernel_rfl
theorem cells47 : Try.prog.cellsOf 47 = 3 := by kernel_rfl
theorem cells38 : Try.prog.cellsOf 38 = 1 := by kernel_rfl
theorem cells44 : Try.prog.cellsOf 44 = 1 := by kernel_rfl
theorem cells45 : Try.prog.cellsOf 45 = 1 := by kernel_rfl
theorem cells52 : Try.prog.cellsOf 52 = 2 := by kernel_rfl
theorem one_of {cs : List Value} (h : cs.length = 1) : ∃ c, cs = [c] := by
  match cs, h with
  | [c], _ => exact ⟨c, rfl⟩
set_option maxRecDepth 100000 in
theorem tr_of {n : Nat} {c : Value} {y : DataW H × List MemPlace} (h : DataW.trod enc Try.prog w base spare held n 45 [c] = some y) : ∃ r : TR, c = r.val ∧ r.In w := by
  obtain ⟨A, cp, l, e, R, o, _, _, _⟩ := row_of und45b cells9 (by decide) tx TxOk (fun _ => rfl) (fun n cs y hl h => by
    obtain ⟨c, rfl⟩ := one_of hl
    obtain ⟨s, rfl, a, b⟩ := str_field n h
    exact ⟨s, rfl, a, b⟩) h
  exact ⟨⟨A, cp, l⟩, e, R, o⟩
set_option maxRecDepth 100000 in
theorem pr_of {n : Nat} {c : Value} {y : DataW H × List MemPlace} (h : DataW.trod enc Try.prog w base spare held n 38 [c] = some y) : ∃ r : PR, c = r.val ∧ r.In w := by
  obtain ⟨A, cp, l, e, R, o, _, _, _⟩ := row_of und38b cells43 (by decide) pcells Pr.Ok (fun _ => rfl) (fun n cs y hl ht => by
    obtain ⟨ys, n', _, hy, hyl, _, hfld⟩ := DataW.trod_struct Try.underlying43 ht
    obtain ⟨c0, c1, rfl⟩ : ∃ c0 c1, cs = [c0, c1] := by
      match cs, hl with
      | [c0, c1], _ => exact ⟨c0, c1, rfl⟩
    obtain ⟨y0, y1, rfl⟩ : ∃ y0 y1, ys = [y0, y1] := by
      match ys, hyl with
      | [y0, y1], _ => exact ⟨y0, y1, rfl⟩
    have g0 := hfld 0 _ rfl
    have g1 := hfld 1 _ rfl
    simp only [cells9, List.drop_zero, List.drop_succ_cons, List.take_succ_cons, List.take_zero, List.getElem?_cons_zero, List.getElem?_cons_succ] at g0 g1
    obtain ⟨s0, rfl, a0, b0⟩ := str_field n' g0
    obtain ⟨s1, rfl, a1, b1⟩ := str_field n' g1
    exact ⟨⟨s0, s1⟩, rfl, a0, b0, a1, b1⟩) h
  rw [prs_flat] at R
  exact ⟨⟨A, cp, l⟩, e, R, o⟩
set_option maxRecDepth 100000 in
theorem mr_of {n : Nat} {c : Value} {y : DataW H × List MemPlace} (h : DataW.trod enc Try.prog w base spare held n 44 [c] = some y) : ∃ r : MR, c = r.val ∧ r.In w := by
  obtain ⟨A, cp, l, e, R, o, _, _, _⟩ := row_of und44b cells37 (by decide) mtcells Mt.Ok (fun _ => rfl) (fun n cs y hl ht => by
    obtain ⟨ys, n', _, hy, hyl, _, hfld⟩ := DataW.trod_struct Try.underlying37 ht
    obtain ⟨c0, c1, c2, rfl⟩ : ∃ c0 c1 c2, cs = [c0, c1, c2] := by
      match cs, hl with
      | [c0, c1, c2], _ => exact ⟨c0, c1, c2, rfl⟩
    obtain ⟨y0, y1, y2, rfl⟩ : ∃ y0 y1 y2, ys = [y0, y1, y2] := by
      match ys, hyl with
      | [y0, y1, y2], _ => exact ⟨y0, y1, y2, rfl⟩
    have g0 := hfld 0 _ rfl
    have g1 := hfld 1 _ rfl
    have g2 := hfld 2 _ rfl
    simp only [cells9, cells35, List.drop_zero, List.drop_succ_cons, List.take_succ_cons, List.take_zero, List.getElem?_cons_zero, List.getElem?_cons_succ] at g0 g1 g2
    obtain ⟨s0, rfl, a0, b0⟩ := str_field n' g0
    obtain ⟨x, e1, _, w1⟩ := DataW.trod_int Try.underlying35 g1
    obtain ⟨s2, rfl, a2, b2⟩ := str_field n' g2
    have e1' : List.take (Try.prog.cellsOf 35) (List.drop 1 [.string (bs s0), c1, .string (bs s2)]) = [.int .u8 x] := e1
    rw [cells35] at e1'
    injection e1' with e1'
    subst e1'
    have b1 := bounds_u8 w1
    exact ⟨⟨s0, s2, x⟩, rfl, a0, b0, a2, b2, b1.1, b1.2⟩) h
  rw [mts_flat] at R
  exact ⟨⟨A, cp, l⟩, e, R, o⟩
set_option maxRecDepth 100000 in
theorem rl_of {n : Nat} {cs : List Value} {y : DataW H × List MemPlace} (hl : cs.length = 3) (ht : DataW.trod enc Try.prog w base spare held n 47 cs = some y) : ∃ r : Rl, cs = r.cells ∧ r.In w := by
  obtain ⟨ys, n', _, hy, hyl, _, hfld⟩ := DataW.trod_struct Try.underlying47 ht
  obtain ⟨c0, c1, c2, rfl⟩ : ∃ c0 c1 c2, cs = [c0, c1, c2] := by
    match cs, hl with
    | [c0, c1, c2], _ => exact ⟨c0, c1, c2, rfl⟩
  obtain ⟨y0, y1, y2, rfl⟩ : ∃ y0 y1 y2, ys = [y0, y1, y2] := by
    match ys, hyl with
    | [y0, y1, y2], _ => exact ⟨y0, y1, y2, rfl⟩
  have g0 := hfld 0 _ rfl
  have g1 := hfld 1 _ rfl
  have g2 := hfld 2 _ rfl
  have h0 : DataW.trod enc Try.prog w base spare held n' 44 [c0] = some y0 := by
    have : DataW.trod enc Try.prog w base spare held n' 44 (List.take (Try.prog.cellsOf 44) [c0, c1, c2]) = some y0 := g0
    rwa [cells44] at this
  have h1 : DataW.trod enc Try.prog w base spare held n' 44 [c1] = some y1 := by
    have : DataW.trod enc Try.prog w base spare held n' 44 (List.take (Try.prog.cellsOf 44) [c1, c2]) = some y1 := g1
    rwa [cells44] at this
  have h2 : DataW.trod enc Try.prog w base spare held n' 45 [c2] = some y2 := by
    have : DataW.trod enc Try.prog w base spare held n' 45 (List.take (Try.prog.cellsOf 45) [c2]) = some y2 := g2
    rwa [cells45] at this
  obtain ⟨r0, rfl, i0⟩ := mr_of h0
  obtain ⟨r1, rfl, i1⟩ := mr_of h1
  obtain ⟨r2, rfl, i2⟩ := tr_of h2
  exact ⟨⟨r0, r1, r2⟩, rfl, i0, i1, i2⟩
set_option maxRecDepth 100000 in
theorem open_rule {r : Reach} {b0 : Nat} {v : Value} {d : DataW H} {p : List MemPlace} (hv : Value.okWide Try.prog w r b0 47 v) (h : DataW.Trod enc Try.prog w base spare held 47 v d p) :
    ∃ m : Rl, v = .agg m.cells.toArray ∧ m.In w := by
  obtain ⟨c0, c1, c2, y0, y1, y2, n, rfl, _, _, h0, h1, h2⟩ := open_agg3 Try.underlying47 (by kernel_rfl) cells47 hv h
  obtain ⟨r0, rfl, i0⟩ := mr_of h0
  obtain ⟨r1, rfl, i1⟩ := mr_of h1
  obtain ⟨r2, rfl, i2⟩ := tr_of h2
  exact ⟨⟨r0, r1, r2⟩, rfl, i0, i1, i2⟩
set_option maxRecDepth 100000 in
theorem open_pr {r : Reach} {b0 : Nat} {v : Value} {d : DataW H} {p : List MemPlace} (hv : Value.okWide Try.prog w r b0 38 v) (h : DataW.Trod enc Try.prog w base spare held 38 v d p) : ∃ m : PR, v = m.val ∧ m.In w := by
  obtain ⟨a0, len, cap, rfl⟩ := okWide_slice und38b hv
  obtain ⟨fuel, hf⟩ := h
  exact pr_of (by simpa [Value.cells] using hf)
set_option maxRecDepth 100000 in
theorem open_rules {r : Reach} {b0 : Nat} {v : Value} {d : DataW H} {p : List MemPlace} (hv : Value.okWide Try.prog w r b0 49 v) (h : DataW.Trod enc Try.prog w base spare held 49 v d p) :
    ∃ (A : Option Addr) (c : Nat) (l : List Rl), v = .slice A l.length c ∧ Reads w (fun b => b < w.heap.size) 3 A l.length (l.flatMap Rl.cells) ∧ (∀ r ∈ l, r.In w) ∧ l.length ≤ c ∧ c ≤ 9223372036854775807 ∧ (A = none → c = 0) := by
  obtain ⟨a0, len, cap, rfl⟩ := okWide_slice und49b hv
  obtain ⟨fuel, hf⟩ := h
  obtain ⟨A, cp, l, e, R, o, hc, hm, hz⟩ := row_of und49b cells47 (by decide) Rl.cells (fun r => r.In w) (fun _ => rfl) (fun n cs y hl ht => rl_of hl ht) (c := .slice a0 len cap) (by simpa [Value.cells] using hf)
  exact ⟨A, cp, l, e, R, o, hc, hm, hz⟩
set_option maxRecDepth 100000 in
theorem open_pairss {r : Reach} {b0 : Nat} {v : Value} {d : DataW H} {p : List MemPlace} (hv : Value.okWide Try.prog w r b0 50 v) (h : DataW.Trod enc Try.prog w base spare held 50 v d p) :
    ∃ (A : Option Addr) (c : Nat) (l : List PR), v = .slice A l.length c ∧ Reads w (fun b => b < w.heap.size) 1 A l.length (l.flatMap fun p : PR => [p.val]) ∧ (∀ r ∈ l, r.In w) ∧ l.length ≤ c ∧ c ≤ 9223372036854775807 ∧ (A = none → c = 0) := by
  obtain ⟨a0, len, cap, rfl⟩ := okWide_slice und50b hv
  obtain ⟨fuel, hf⟩ := h
  obtain ⟨A, cp, l, e, R, o, hc, hm, hz⟩ := row_of und50b cells38 (by decide) (fun p : PR => [p.val]) (fun r => r.In w) (fun _ => rfl) (fun n cs y hl ht => by
    obtain ⟨c, rfl⟩ := one_of hl
    obtain ⟨r, rfl, i⟩ := pr_of ht
    exact ⟨r, rfl, i⟩) (c := .slice a0 len cap) (by simpa [Value.cells] using hf)
  exact ⟨A, cp, l, e, R, o, hc, hm, hz⟩
set_option maxRecDepth 100000 in
theorem open_two {r : Reach} {b0 : Nat} {v : Value} {d : DataW H} {p : List MemPlace} (hv : Value.okWide Try.prog w r b0 52 v) (h : DataW.Trod enc Try.prog w base spare held 52 v d p) :
    ∃ p q : PR, v = .agg #[p.val, q.val] ∧ p.In w ∧ q.In w := by
  obtain ⟨cs, rfl, hsz⟩ : ∃ cs, v = .agg cs ∧ cs.size = 2 := by
    simp only [Value.okWide, und52b] at hv
    obtain ⟨cs, h1, h2, _⟩ := hv
    exact ⟨cs, h1, by rw [h2, cells52]⟩
  obtain ⟨c0, c1, rfl⟩ := array2 hsz
  obtain ⟨fuel, hf⟩ := h
  have hf' : DataW.trod enc Try.prog w base spare held fuel 52 [c0, c1] = some (d, p) := hf
  obtain ⟨xs, m, _, _, _, hxl, hel⟩ := DataW.trod_array und52b hf'
  obtain ⟨y0, y1, rfl⟩ : ∃ y0 y1, xs = [y0, y1] := by
    match xs, hxl with
    | [y0, y1], _ => exact ⟨y0, y1, rfl⟩
  have g0 := hel 0 (by decide)
  have g1 := hel 1 (by decide)
  rw [cells38] at g0 g1
  obtain ⟨r0, rfl, i0⟩ := pr_of (show DataW.trod enc Try.prog w base spare held m 38 [c0] = some y0 from g0)
  obtain ⟨r1, rfl, i1⟩ := pr_of (show DataW.trod enc Try.prog w base spare held m 38 [c1] = some y1 from g1)
  exact ⟨r0, r1, rfl, i0, i1⟩
end
end Go.Proofs.Ytnidjfmbbfoheaa

/- WALKS: slices.IndexFunc at texts and at rows of pairs; inhibit.By. -/
namespace Go.Proofs.Ytnidjfmbbfoheaa
set_option linter.unusedVariables false
set_option linter.unusedSimpArgs false
open Go.RowKit Go.BigFrame

theorem flat_one {α : Type} (f : α → List Value) (v : α → Value) (hf : ∀ a, f a = [v a]) (l : List α) (i : Nat) (a : α) (h : l[i]? = some a) : (l.flatMap f)[i]? = some (v a) := by
  have := flat_get f 1 (fun a => by rw [hf]; rfl) l i 0 a h (by omega)
  rw [hf] at this
  simpa using this
set_option maxRecDepth 100000 in
set_option maxHeartbeats 2000000 in
theorem idx101 (q : List Nat → Bool) (g : Nat) (lb : Array Value) (eg : ∀ args w, (callFunc g args).run Try.prog w = .ok (.enter g args) w) (A0 : Option Addr) (cp : Nat) (l : List (List Nat)) (w : World) (hlen : l.length ≤ 4294967296) (R : Reads w (fun b => b < w.heap.size) 1 A0 l.length (l.flatMap tx))
    (hp : ∀ (W : World) (m : List Nat), m ∈ l → Below w.heap.size w W → Calls Try.prog g (#[.string (bs m)] ++ lb) W fun e w' => e = .returned (.bool (q m)) ∧ Below W.heap.size W w') :
    Calls Try.prog 101 #[.slice A0 l.length cp, .func (.func g) #[] lb] w fun e w' => ∃ k : Int, e = .returned (.int .i64 k) ∧ (decide (0 ≤ k) = l.any q) ∧ Below w.heap.size w w' := by
  have HR := Lib.hid R
  have HP := Lib.hid hp
  clear R hp
  go_enter Try.func101, Try.ntmps101
  go_wp2
  go_loopg [5, 8] l.length (fun gg s5 s8 wr => ∃ i : Nat, s8 = .int .i64 (i : Int) ∧ i ≤ l.length ∧ l.length - i ≤ gg ∧ Hid (∀ (j : Nat) (x : List Nat), j < i → l[j]? = some x → q x = false) ∧ Hid (Below w.heap.size w wr))
  case atStart => exact ⟨0, by go_num, by omega, by omega, Lib.hid (fun j x h => by omega), Lib.hid (Below.refl _ _)⟩
  case round =>
    obtain ⟨i, rfl, hi, hgg, HJ, K1⟩ := hrel
    by_cases hlt : i < l.length
    · have hiI : (i : Int) < (l.length : Int) := by omega
      have hi0 : (0 : Int) ≤ (i : Int) := by omega
      obtain ⟨b, o, rfl, hb, hcell⟩ := (HR.out.below (by omega) K1.out).2 (by omega)
      obtain ⟨m, hm⟩ : ∃ m, l[i]? = some m := ⟨_, List.getElem?_eq_getElem hlt⟩
      have c0 := hcell i _ (flat_one tx (fun s => .string (bs s)) (fun _ => rfl) l i m hm)
      have hcall := Lib.hid (HP.out wr m (List.mem_of_getElem? hm) K1.out)
      have HM := Lib.hid hm
      clear hcell hm
      generalize bs m = mn at *
      obtain ⟨Q, hQ⟩ : ∃ Q, q m = Q := ⟨_, rfl⟩
      rw [hQ] at hcall
      have HQ := Lib.hid hQ
      clear hQ
      cases Q with
      | true =>
        go_wp2_with (go_at_fn g; refine hcall.out.mono ?_; rintro e w2 ⟨rfl, hb2⟩; have K2 := Lib.hid (below_then K1.out K1.out.size hb2); clear hb2)
        go_ret
        refine ⟨i, rfl, ?_, K2.out⟩
        rw [decide_eq_true hi0]
        symm
        rw [List.any_eq_true]
        exact ⟨m, List.mem_of_getElem? HM.out, HQ.out⟩
      | false =>
        go_wp2_with (go_at_fn g; refine hcall.out.mono ?_; rintro e w2 ⟨rfl, hb2⟩; have K2 := Lib.hid (below_then K1.out K1.out.size hb2); clear hb2)
        go_roundg (l.length - (i + 1))
        case measure => omega
        case rel =>
          refine ⟨i + 1, by go_num, by omega, by omega, Lib.hid (fun j x hj hx => ?_), K2⟩
          by_cases hji : j = i
          · subst hji; rw [HM.out] at hx; injection hx with hx; subst hx; exact HQ.out
          · exact HJ.out j x (by omega) hx
    · have hie : i = l.length := by omega
      have hv : l.any q = false := any_pre l q (fun j x hx => HJ.out j x (by rw [hie]; exact (List.getElem?_eq_some_iff.1 hx).1) hx)
      have HV := Lib.hid hv
      clear hv
      subst hie
      go_wp2
      go_ret
      exact ⟨-1, rfl, by rw [HV.out]; rfl, K1.out⟩
set_option maxRecDepth 100000 in
set_option maxHeartbeats 2000000 in
theorem idx104 (q : PR → Bool) (g : Nat) (lb : Array Value) (eg : ∀ args w, (callFunc g args).run Try.prog w = .ok (.enter g args) w) (A0 : Option Addr) (cp : Nat) (l : List PR) (w : World) (hlen : l.length ≤ 4294967296) (R : Reads w (fun b => b < w.heap.size) 1 A0 l.length (l.flatMap fun p : PR => [p.val]))
    (hp : ∀ (W : World) (m : PR), m ∈ l → Below w.heap.size w W → Calls Try.prog g (#[m.val] ++ lb) W fun e w' => e = .returned (.bool (q m)) ∧ Below W.heap.size W w') :
    Calls Try.prog 104 #[.slice A0 l.length cp, .func (.func g) #[] lb] w fun e w' => ∃ k : Int, e = .returned (.int .i64 k) ∧ (decide (0 ≤ k) = l.any q) ∧ Below w.heap.size w w' := by
  have HR := Lib.hid R
  have HP := Lib.hid hp
  clear R hp
  go_enter Try.func104, Try.ntmps104
  go_wp2
  go_loopg [5, 8] l.length (fun gg s5 s8 wr => ∃ i : Nat, s8 = .int .i64 (i : Int) ∧ i ≤ l.length ∧ l.length - i ≤ gg ∧ Hid (∀ (j : Nat) (x : PR), j < i → l[j]? = some x → q x = false) ∧ Hid (Below w.heap.size w wr))
  case atStart => exact ⟨0, by go_num, by omega, by omega, Lib.hid (fun j x h => by omega), Lib.hid (Below.refl _ _)⟩
  case round =>
    obtain ⟨i, rfl, hi, hgg, HJ, K1⟩ := hrel
    by_cases hlt : i < l.length
    · have hiI : (i : Int) < (l.length : Int) := by omega
      have hi0 : (0 : Int) ≤ (i : Int) := by omega
      obtain ⟨b, o, rfl, hb, hcell⟩ := (HR.out.below (by omega) K1.out).2 (by omega)
      obtain ⟨m, hm⟩ : ∃ m, l[i]? = some m := ⟨_, List.getElem?_eq_getElem hlt⟩
      have c0 := hcell i _ (flat_one (fun p : PR => [p.val]) PR.val (fun _ => rfl) l i m hm)
      have hcall := Lib.hid (HP.out wr m (List.mem_of_getElem? hm) K1.out)
      have HM := Lib.hid hm
      clear hcell hm
      unfold PR.val at c0 hcall
      generalize m.l.length = ml at *
      generalize m.A = mA at *
      generalize m.c = mc at *
      obtain ⟨Q, hQ⟩ : ∃ Q, q m = Q := ⟨_, rfl⟩
      rw [hQ] at hcall
      have HQ := Lib.hid hQ
      clear hQ
      cases Q with
      | true =>
        go_wp2_with (go_at_fn g; refine hcall.out.mono ?_; rintro e w2 ⟨rfl, hb2⟩; have K2 := Lib.hid (below_then K1.out K1.out.size hb2); clear hb2)
        go_ret
        refine ⟨i, rfl, ?_, K2.out⟩
        rw [decide_eq_true hi0]
        symm
        rw [List.any_eq_true]
        exact ⟨m, List.mem_of_getElem? HM.out, HQ.out⟩
      | false =>
        go_wp2_with (go_at_fn g; refine hcall.out.mono ?_; rintro e w2 ⟨rfl, hb2⟩; have K2 := Lib.hid (below_then K1.out K1.out.size hb2); clear hb2)
        go_roundg (l.length - (i + 1))
        case measure => omega
        case rel =>
          refine ⟨i + 1, by go_num, by omega, by omega, Lib.hid (fun j x hj hx => ?_), K2⟩
          by_cases hji : j = i
          · subst hji; rw [HM.out] at hx; injection hx with hx; subst hx; exact HQ.out
          · exact HJ.out j x (by omega) hx
    · have hie : i = l.length := by omega
      have hv : l.any q = false := any_pre l q (fun j x hx => HJ.out j x (by rw [hie]; exact (List.getElem?_eq_some_iff.1 hx).1) hx)
      have HV := Lib.hid hv
      clear hv
      subst hie
      go_wp2
      go_ret
      exact ⟨-1, rfl, by rw [HV.out]; rfl, K1.out⟩
set_option maxRecDepth 100000 in
theorem contains66 (q : List Nat → Bool) (g : Nat) (lb : Array Value) (eg : ∀ args w, (callFunc g args).run Try.prog w = .ok (.enter g args) w) (A0 : Option Addr) (cp : Nat) (l : List (List Nat)) (w : World) (hlen : l.length ≤ 4294967296) (R : Reads w (fun b => b < w.heap.size) 1 A0 l.length (l.flatMap tx))
    (hp : ∀ (W : World) (m : List Nat), m ∈ l → Below w.heap.size w W → Calls Try.prog g (#[.string (bs m)] ++ lb) W fun e w' => e = .returned (.bool (q m)) ∧ Below W.heap.size W w') :
    Calls Try.prog 66 #[.slice A0 l.length cp, .func (.func g) #[] lb] w fun e w' => e = .returned (.bool (l.any q)) ∧ Below w.heap.size w w' := by
  have H := Lib.hid (idx101 q g lb eg A0 cp l w hlen R hp)
  clear R hp
  go_enter Try.func66, Try.ntmps66
  go_wp2_with (go_at_call 101; refine H.out.mono ?_; rintro e w2 ⟨k, rfl, hk, hb2⟩; have K2 := Lib.hid hb2; have HK := Lib.hid hk; clear hb2 hk)
  go_ret
  exact ⟨by rw [← HK.out]; rfl, K2.out⟩
/-- A row of labels that is light: few, short. -/
def PR.Light (p : PR) : Prop := p.l.length ≤ 40 ∧ ∀ x ∈ p.l, x.v.length ≤ 200
theorem PR.Light.big {p : PR} (h : p.Light) : ∀ x ∈ p.l, x.v.length ≤ 1000000000 := fun x hx => by have := h.2 x hx; omega
theorem get_pr (p : PR) (n : List Nat) (w : World) (hn : TxOk n) (H : p.In w) (hp : p.Light) : Calls Try.prog 36 #[p.val, .string (bs n)] w fun e w' => e = .returned (.string (bs (getB p.l n))) ∧ Below w.heap.size w w' :=
  get_any p.A p.c p.l n w hn.1 (by have := hp.1; omega) H.1 H.2
theorem all_pr (m : MR) (p : PR) (w : World) (Hm : m.In w) (hm : m.l.length ≤ 4294967296) (H : p.In w) (hp : p.Light) : Calls Try.prog 40 #[m.val, p.val] w fun e w' => e = .returned (.bool (allB m.l p.l)) ∧ Below w.heap.size w w' :=
  all_any m.A m.c m.l p.A p.c p.l w hm (by have := hp.1; omega) Hm.1 Hm.2 H.1 H.2 hp.big
def differs (a b : List Pr) (n : List Nat) : Bool := decide (getB a n ≠ getB b n)
theorem eg65 : ∀ args w, (callFunc 65 args).run Try.prog w = .ok (.enter 65 args) w := enters_of Try.func65 (by kernel_rfl) rfl
set_option maxRecDepth 100000 in
set_option maxHeartbeats 2000000 in
theorem clos65 (a b : PR) (n : List Nat) (B1 B2 : Nat) (w : World) (hn : TxOk n) (h1 : Blk w B1 38 #[a.val]) (h2 : Blk w B2 38 #[b.val]) (Ha : a.In w) (Hb : b.In w) (la : a.Light) (lb : b.Light) :
    Calls Try.prog 65 #[.string (bs n), .pointer (some ⟨B1, 0, none⟩), .pointer (some ⟨B2, 0, none⟩)] w fun e w' => e = .returned (.bool (differs a.l b.l n)) ∧ Below w.heap.size w w' := by
  have e0 := fun y : Ext w.heap.size w => (Ext.blk h1 h1.lt (x := y)).cell 0
  have e1 := fun y : Ext w.heap.size w => (Ext.blk h2 h2.lt (x := y)).cell 0
  simp only [List.getElem?_toArray, List.getElem?_cons_zero, List.getElem?_cons_succ] at e0 e1
  have HA : Hid (∀ x : Ext w.heap.size w, Calls Try.prog 36 #[a.val, .string (bs n)] x.W fun e w' => e = .returned (.string (bs (getB a.l n))) ∧ Below x.W.heap.size x.W w') := Lib.hid (fun x => get_pr a n x.W hn (Ha.below x.h) la)
  have HB : Hid (∀ x : Ext w.heap.size w, Calls Try.prog 36 #[b.val, .string (bs n)] x.W fun e w' => e = .returned (.string (bs (getB b.l n))) ∧ Below x.W.heap.size x.W w') := Lib.hid (fun x => get_pr b n x.W hn (Hb.below x.h) lb)
  have hcmp := bs_beq (getB_lt a.l n Ha.2) (getB_lt b.l n Hb.2)
  have hne : ((bs (getB a.l n)).toList != (bs (getB b.l n)).toList) = !decide (getB a.l n = getB b.l n) := by rw [← hcmp]; rfl
  have hd : differs a.l b.l n = !decide (getB a.l n = getB b.l n) := by unfold differs; simp
  rw [hd]
  clear hd h1 h2 Ha Hb la lb hn
  unfold PR.val at *
  generalize decide (getB a.l n = getB b.l n) = D at *
  generalize bs (getB a.l n) = ga at *
  generalize bs (getB b.l n) = gb at *
  generalize bs n = nb at *
  generalize a.l.length = al at *
  generalize b.l.length = bl at *
  generalize a.A = aA at *
  generalize b.A = bA at *
  generalize a.c = ac at *
  generalize b.c = bc at *
  cases D
  all_goals
    go_enter Try.func65, Try.ntmps65
    go_wp2_with fail
    refine wp_region_exts (by kernel_rfl) (by kernel_rfl) ?_
    repeat
      first
        | go_big_quiet_skip
        | (go_big_quiet_want; go_big_quiet_op
           first
             | go_big_quiet_on
             | (apply Exists.intro
                refine ⟨fun x => ?_, ?_⟩
                · (first
                    | (go_at_call 36; with_reducible exact calls_ext (Nat.le_refl _) (HA.out x))
                    | (go_at_call 36; with_reducible exact calls_ext (Nat.le_refl _) (HB.out x)))
                go_big_quiet_on
                try (skip)))
    refine wpQuiet_nil ?_
    rintro _ ⟨x, rfl⟩
    have KX := Lib.hid x.h
    clear e0 e1
    go_wp2
    go_ret
    exact ⟨rfl, KX.out⟩
end Go.Proofs.Ytnidjfmbbfoheaa

/- WALKS: inhibit.By. -/
namespace Go.Proofs.Ytnidjfmbbfoheaa
set_option linter.unusedVariables false
set_option linter.unusedSimpArgs false
open Go.RowKit

def byB (r : Rl) (a b : List Pr) : Bool := allB r.s.l a && allB r.t.l b && !(allB r.t.l a && allB r.s.l b) && !(r.e.l.any (differs a b))
def Rl.val (r : Rl) : Value := .agg #[r.s.val, r.t.val, r.e.val]
def Rl.Small (r : Rl) : Prop := r.s.l.length ≤ 4294967296 ∧ r.t.l.length ≤ 4294967296 ∧ r.e.l.length ≤ 4294967296
theorem contains_tr (q : List Nat → Bool) (g : Nat) (lb : Array Value) (eg : ∀ args w, (callFunc g args).run Try.prog w = .ok (.enter g args) w) (t : TR) (w : World) (hlen : t.l.length ≤ 4294967296) (R : t.In w)
    (hp : ∀ (W : World) (m : List Nat), m ∈ t.l → Below w.heap.size w W → Calls Try.prog g (#[.string (bs m)] ++ lb) W fun e w' => e = .returned (.bool (q m)) ∧ Below W.heap.size W w') :
    Calls Try.prog 66 #[t.val, .func (.func g) #[] lb] w fun e w' => e = .returned (.bool (t.l.any q)) ∧ Below w.heap.size w w' :=
  contains66 q g lb eg t.A t.c t.l w hlen R.1 hp
set_option maxRecDepth 100000 in
set_option maxHeartbeats 4000000 in
theorem by_any (r : Rl) (a b : PR) (w : World) (Hr : r.In w) (hr : r.Small) (Ha : a.In w) (Hb : b.In w) (la : a.Light) (lb : b.Light) :
    Calls Try.prog 35 #[r.val, a.val, b.val] w fun e w' => e = .returned (.bool (byB r a.l b.l)) ∧ Below w.heap.size w w' := by
  have HSA := Lib.hid (fun w' (hb : Below w.heap.size w w') => all_pr r.s a w' (Hr.1.below hb) hr.1 (Ha.below hb) la)
  have HTB := Lib.hid (fun w' (hb : Below w.heap.size w w') => all_pr r.t b w' (Hr.2.1.below hb) hr.2.1 (Hb.below hb) lb)
  have HTA := Lib.hid (fun w' (hb : Below w.heap.size w w') => all_pr r.t a w' (Hr.2.1.below hb) hr.2.1 (Ha.below hb) la)
  have HSB := Lib.hid (fun w' (hb : Below w.heap.size w w') => all_pr r.s b w' (Hr.1.below hb) hr.1 (Hb.below hb) lb)
  have HE := Lib.hid (fun (B1 B2 : Nat) (w' : World) (hb : Below w.heap.size w w') (h1 : Blk w' B1 38 #[a.val]) (h2 : Blk w' B2 38 #[b.val]) =>
    contains_tr (differs a.l b.l) 65 #[.pointer (some ⟨B1, 0, none⟩), .pointer (some ⟨B2, 0, none⟩)] eg65 r.e w' hr.2.2 (Hr.2.2.below hb) (fun W m hm hB =>
      clos65 a b m B1 B2 W (Hr.2.2.2 m hm) (h1.below hB h1.lt) (h2.below hB h2.lt) ((Ha.below hb).below hB) ((Hb.below hb).below hB) la lb))
  unfold byB
  clear Hr hr Ha Hb la lb
  generalize allB r.s.l a.l = SA at *
  generalize allB r.t.l b.l = TB at *
  generalize allB r.t.l a.l = TA at *
  generalize allB r.s.l b.l = SB at *
  generalize r.e.l.any (differs a.l b.l) = D at *
  unfold Rl.val
  unfold MR.val TR.val PR.val at *
  generalize r.s.l.length = sl at *
  generalize r.s.A = sA at *
  generalize r.s.c = sc at *
  generalize r.t.l.length = tl at *
  generalize r.t.A = tA at *
  generalize r.t.c = tc at *
  generalize r.e.l.length = el at *
  generalize r.e.A = eA at *
  generalize r.e.c = ec at *
  generalize a.l.length = al at *
  generalize a.A = aA at *
  generalize a.c = ac at *
  generalize b.l.length = bl at *
  generalize b.A = bA at *
  generalize b.c = bc at *
  have s1 : (w.alloc (.cells #[.slice sA sl sc, .slice tA tl tc, .slice eA el ec] 47)).heap.size = w.heap.size + 1 := by simp
  have s2 : ((w.alloc (.cells #[.slice sA sl sc, .slice tA tl tc, .slice eA el ec] 47)).alloc (.cells #[.slice aA al ac] 38)).heap.size = w.heap.size + 1 + 1 := by simp
  have K0 := Lib.hid ((((Below.refl w.heap.size w).alloc (Nat.le_refl _) (.cells #[.slice sA sl sc, .slice tA tl tc, .slice eA el ec] 47)).alloc (by rw [s1]; omega) (.cells #[.slice aA al ac] 38)).alloc (by rw [s2]; omega) (.cells #[.slice bA bl bc] 38))
  have BR0 : Hid (Blk (((w.alloc (.cells #[.slice sA sl sc, .slice tA tl tc, .slice eA el ec] 47)).alloc (.cells #[.slice aA al ac] 38)).alloc (.cells #[.slice bA bl bc] 38)) w.heap.size 47 #[.slice sA sl sc, .slice tA tl tc, .slice eA el ec]) := Lib.hid (((Blk.new w 47 _).alloc _).alloc _)
  have BA0 : Hid (Blk (((w.alloc (.cells #[.slice sA sl sc, .slice tA tl tc, .slice eA el ec] 47)).alloc (.cells #[.slice aA al ac] 38)).alloc (.cells #[.slice bA bl bc] 38)) (w.heap.size + 1) 38 #[.slice aA al ac]) := Lib.hid ((Blk.new_at (by simp)).alloc _)
  have BB0 : Hid (Blk (((w.alloc (.cells #[.slice sA sl sc, .slice tA tl tc, .slice eA el ec] 47)).alloc (.cells #[.slice aA al ac] 38)).alloc (.cells #[.slice bA bl bc] 38)) (w.heap.size + 1 + 1) 38 #[.slice bA bl bc]) := Lib.hid (Blk.new_at (by simp))
  clear s1 s2
  go_enter Try.func35, Try.ntmps35
  go_upto_region 1 with fail
  have y0 := BR0.out.cell 0
  have y1 := BR0.out.cell 1
  have y2 := BR0.out.cell 2
  have ya := BA0.out.cell 0
  have yb := BB0.out.cell 0
  simp only [List.getElem?_toArray, List.getElem?_cons_zero, List.getElem?_cons_succ] at y0 y1 y2 ya yb
  go_wp2_with fail
  refine (HSA.out _ K0.out).mono ?_
  rintro e w1 ⟨rfl, hk⟩
  have K1 := Lib.hid (below_then K0.out K0.out.size hk)
  have BR1 := Lib.hid (BR0.out.below hk BR0.out.lt)
  have BA1 := Lib.hid (BA0.out.below hk BA0.out.lt)
  have BB1 := Lib.hid (BB0.out.below hk BB0.out.lt)
  clear hk y0 y1 y2 ya yb
  have y0 := BR1.out.cell 0
  have y1 := BR1.out.cell 1
  have y2 := BR1.out.cell 2
  have ya := BA1.out.cell 0
  have yb := BB1.out.cell 0
  simp only [List.getElem?_toArray, List.getElem?_cons_zero, List.getElem?_cons_succ] at y0 y1 y2 ya yb
  cases SA
  · go_wp2
    go_ret
    exact ⟨rfl, K1.out⟩
  · skip
    go_wp2_with fail
    refine (HTB.out _ K1.out).mono ?_
    rintro e w2 ⟨rfl, hk⟩
    have K2 := Lib.hid (below_then K1.out K1.out.size hk)
    have BR2 := Lib.hid (BR1.out.below hk BR1.out.lt)
    have BA2 := Lib.hid (BA1.out.below hk BA1.out.lt)
    have BB2 := Lib.hid (BB1.out.below hk BB1.out.lt)
    clear hk y0 y1 y2 ya yb
    have y0 := BR2.out.cell 0
    have y1 := BR2.out.cell 1
    have y2 := BR2.out.cell 2
    have ya := BA2.out.cell 0
    have yb := BB2.out.cell 0
    simp only [List.getElem?_toArray, List.getElem?_cons_zero, List.getElem?_cons_succ] at y0 y1 y2 ya yb
    cases TB
    · go_wp2
      go_ret
      exact ⟨rfl, K2.out⟩
    · skip
      go_wp2_with fail
      refine (HTA.out _ K2.out).mono ?_
      rintro e w3 ⟨rfl, hk⟩
      have K3 := Lib.hid (below_then K2.out K2.out.size hk)
      have BR3 := Lib.hid (BR2.out.below hk BR2.out.lt)
      have BA3 := Lib.hid (BA2.out.below hk BA2.out.lt)
      have BB3 := Lib.hid (BB2.out.below hk BB2.out.lt)
      clear hk y0 y1 y2 ya yb
      have y0 := BR3.out.cell 0
      have y1 := BR3.out.cell 1
      have y2 := BR3.out.cell 2
      have ya := BA3.out.cell 0
      have yb := BB3.out.cell 0
      simp only [List.getElem?_toArray, List.getElem?_cons_zero, List.getElem?_cons_succ] at y0 y1 y2 ya yb
      cases TA
      · skip
        go_wp2_with fail
        refine (HE.out (w.heap.size + 1) (w.heap.size + 1 + 1) _ K3.out BA3.out BB3.out).mono ?_
        rintro e w4 ⟨rfl, hk⟩
        have K4 := Lib.hid (below_then K3.out K3.out.size hk)
        clear hk y0 y1 y2 ya yb
        go_wp2
        go_ret
        exact ⟨rfl, K4.out⟩
      · skip
        go_wp2_with fail
        refine (HSB.out _ K3.out).mono ?_
        rintro e w4 ⟨rfl, hk⟩
        have K4 := Lib.hid (below_then K3.out K3.out.size hk)
        have BR4 := Lib.hid (BR3.out.below hk BR3.out.lt)
        have BA4 := Lib.hid (BA3.out.below hk BA3.out.lt)
        have BB4 := Lib.hid (BB3.out.below hk BB3.out.lt)
        clear hk y0 y1 y2 ya yb
        have y0 := BR4.out.cell 0
        have y1 := BR4.out.cell 1
        have y2 := BR4.out.cell 2
        have ya := BA4.out.cell 0
        have yb := BB4.out.cell 0
        simp only [List.getElem?_toArray, List.getElem?_cons_zero, List.getElem?_cons_succ] at y0 y1 y2 ya yb
        cases SB
        · skip
          go_wp2_with fail
          refine (HE.out (w.heap.size + 1) (w.heap.size + 1 + 1) _ K4.out BA4.out BB4.out).mono ?_
          rintro e w5 ⟨rfl, hk⟩
          have K5 := Lib.hid (below_then K4.out K4.out.size hk)
          clear hk y0 y1 y2 ya yb
          go_wp2
          go_ret
          exact ⟨rfl, K5.out⟩
        · go_wp2
          go_ret
          exact ⟨rfl, K4.out⟩
end Go.Proofs.Ytnidjfmbbfoheaa

/- WALKS: the document's Light of inhibit. -/
namespace Go.Proofs.Ytnidjfmbbfoheaa
set_option linter.unusedVariables false
set_option linter.unusedSimpArgs false
open Go.RowKit

def fewB (r : Rl) : Bool := decide (r.s.l.length ≤ 12) && decide (r.t.l.length ≤ 12) && decide (r.e.l.length ≤ 40)
def light6B (rs : List Rl) (ls : List PR) : Bool := decide (rs.length ≤ 12) && decide (ls.length ≤ 40) && ls.all (fun p => lightB p.l) && rs.all fewB
theorem light_pr (p : PR) (w : World) (H : p.In w) : Calls Try.prog 29 #[.slice none 0 0, p.val] w fun e w' => e = .returned (.bool (lightB p.l)) ∧ Below w.heap.size w w' := light_any p.A p.c p.l w H.1 H.2
set_option maxRecDepth 100000 in
theorem light6_far1 (Ar : Option Addr) (cr n : Nat) (v : Value) (w : World) (h : 12 < n) : Calls Try.prog 33 #[.slice Ar n cr, v] w fun e w' => e = .returned (.bool false) ∧ Below w.heap.size w w' := by
  have i1 : (12 : Int) < (n : Int) := by omega
  go_enter Try.func33, Try.ntmps33
  go_wp2
  go_ret
  exact ⟨rfl, Below.refl _ _⟩
set_option maxRecDepth 100000 in
theorem light6_far2 (Ar : Option Addr) (cr n : Nat) (Al : Option Addr) (cl m : Nat) (w : World) (h : n ≤ 12) (h2 : 40 < m) : Calls Try.prog 33 #[.slice Ar n cr, .slice Al m cl] w fun e w' => e = .returned (.bool false) ∧ Below w.heap.size w w' := by
  have i1 : ¬ (12 : Int) < (n : Int) := by omega
  have i2 : (40 : Int) < (m : Int) := by omega
  go_enter Try.func33, Try.ntmps33
  go_wp2
  go_ret
  exact ⟨rfl, Below.refl _ _⟩
theorem all_pre {α : Type} (l : List α) (q : α → Bool) (h : ∀ (j : Nat) (x : α), l[j]? = some x → q x = true) : l.all q = true := by
  rw [List.all_eq_true]
  intro x hx
  obtain ⟨k, hk⟩ := List.mem_iff_getElem?.1 hx
  exact h k x hk
theorem all_not {α : Type} (l : List α) (q : α → Bool) (i : Nat) (x : α) (h : l[i]? = some x) (hq : q x = false) : l.all q = false := by
  rw [Bool.eq_false_iff]
  intro ha
  rw [List.all_eq_true] at ha
  have := ha x (List.mem_of_getElem? h)
  rw [hq] at this
  cases this
set_option maxRecDepth 100000 in
set_option maxHeartbeats 4000000 in
theorem light6_near (Ar : Option Addr) (cr : Nat) (rs : List Rl) (Al : Option Addr) (cl : Nat) (ls : List PR) (w : World) (h1 : rs.length ≤ 12) (h2 : ls.length ≤ 40)
    (Rr : Reads w (fun b => b < w.heap.size) 3 Ar rs.length (rs.flatMap Rl.cells)) (Rl' : Reads w (fun b => b < w.heap.size) 1 Al ls.length (ls.flatMap fun p : PR => [p.val])) (hl : ∀ p ∈ ls, p.In w) :
    Calls Try.prog 33 #[.slice Ar rs.length cr, .slice Al ls.length cl] w fun e w' => e = .returned (.bool (ls.all (fun p => lightB p.l) && rs.all fewB)) ∧ Below w.heap.size w w' := by
  have HRr := Lib.hid Rr
  have HRl := Lib.hid Rl'
  have HL := Lib.hid (fun (p : PR) (hp : p ∈ ls) (w' : World) (hb : Below w.heap.size w w') => light_pr p w' ((hl p hp).below hb))
  obtain ⟨G1, hG1⟩ : ∃ G, ls.all (fun p => lightB p.l) = G := ⟨_, rfl⟩
  obtain ⟨G2, hG2⟩ : ∃ G, rs.all fewB = G := ⟨_, rfl⟩
  rw [hG1, hG2]
  have HG1 := Lib.hid hG1
  have HG2 := Lib.hid hG2
  clear Rr Rl' hl hG1 hG2
  have i1 : ¬ (12 : Int) < (rs.length : Int) := by omega
  have i2 : ¬ (40 : Int) < (ls.length : Int) := by omega
  go_enter Try.func33, Try.ntmps33
  go_wp2
  go_loopg [5] ls.length (fun gg s5 wr => ∃ i : Nat, s5 = .int .i64 (i : Int) ∧ i ≤ ls.length ∧ ls.length - i ≤ gg ∧ Hid (∀ (j : Nat) (x : PR), j < i → ls[j]? = some x → lightB x.l = true) ∧ Hid (Below w.heap.size w wr))
  case atStart => exact ⟨0, by go_num, by omega, by omega, Lib.hid (fun j x h => by omega), Lib.hid (Below.refl _ _)⟩
  case round =>
    obtain ⟨i, rfl, hi, hgg, HJ, K1⟩ := hrel
    by_cases hlt : i < ls.length
    · have hiI : (i : Int) < (ls.length : Int) := by omega
      have hi0 : (0 : Int) ≤ (i : Int) := by omega
      obtain ⟨b, o, rfl, hb, hcell⟩ := (HRl.out.below (by omega) K1.out).2 (by omega)
      obtain ⟨m, hm⟩ : ∃ m, ls[i]? = some m := ⟨_, List.getElem?_eq_getElem hlt⟩
      have c0 := hcell i _ (flat_one (fun p : PR => [p.val]) PR.val (fun _ => rfl) ls i m hm)
      have hcall := Lib.hid (HL.out m (List.mem_of_getElem? hm) wr K1.out)
      have HM := Lib.hid hm
      clear hcell hm
      unfold PR.val at c0 hcall
      generalize m.l.length = ml at *
      generalize m.A = mA at *
      generalize m.c = mc at *
      obtain ⟨Q, hQ⟩ : ∃ Q, lightB m.l = Q := ⟨_, rfl⟩
      rw [hQ] at hcall
      have HQ := Lib.hid hQ
      clear hQ
      cases Q with
      | false =>
        go_wp2_with fail
        refine hcall.out.mono ?_
        rintro e w2 ⟨rfl, hk⟩
        have K2 := Lib.hid (below_then K1.out K1.out.size hk)
        clear hk
        have hv : G1 = false := by rw [← HG1.out]; exact all_not ls _ i m HM.out HQ.out
        subst hv
        go_wp2
        go_ret
        exact ⟨rfl, K2.out⟩
      | true =>
        go_wp2_with fail
        refine hcall.out.mono ?_
        rintro e w2 ⟨rfl, hk⟩
        have K2 := Lib.hid (below_then K1.out K1.out.size hk)
        clear hk
        go_wp2
        go_roundg (ls.length - (i + 1))
        case measure => omega
        case rel =>
          refine ⟨i + 1, by go_num, by omega, by omega, Lib.hid (fun j x hj hx => ?_), K2⟩
          by_cases hji : j = i
          · subst hji; rw [HM.out] at hx; injection hx with hx; subst hx; exact HQ.out
          · exact HJ.out j x (by omega) hx
    · have hie : i = ls.length := by omega
      have hv : G1 = true := by
        rw [← HG1.out]
        exact all_pre ls _ (fun j x hx => HJ.out j x (by rw [hie]; exact (List.getElem?_eq_some_iff.1 hx).1) hx)
      subst hv
      subst hie
      clear HJ
      obtain ⟨wo, hwo⟩ : ∃ X, X = wr := ⟨_, rfl⟩
      subst hwo
      go_wp2
      go_loopg [6] rs.length (fun gg s6 wr => ∃ i : Nat, s6 = .int .i64 (i : Int) ∧ i ≤ rs.length ∧ rs.length - i ≤ gg ∧ Hid (∀ (j : Nat) (x : Rl), j < i → rs[j]? = some x → fewB x = true) ∧ Hid (Below w.heap.size w wr))
      case atStart => exact ⟨0, by go_num, by omega, by omega, Lib.hid (fun j x h => by omega), K1⟩
      case round =>
        obtain ⟨k, rfl, hk, hgg2, HJ, K3⟩ := hrel
        by_cases hlt2 : k < rs.length
        · have hkI : (k : Int) < (rs.length : Int) := by omega
          have hk0 : (0 : Int) ≤ (k : Int) := by omega
          obtain ⟨b, o, rfl, hb, hcell⟩ := (HRr.out.below (by omega) K3.out).2 (by omega)
          obtain ⟨m, hm⟩ : ∃ m, rs[k]? = some m := ⟨_, List.getElem?_eq_getElem hlt2⟩
          have c0 := (hcell _ _ (flat_get Rl.cells 3 (fun _ => rfl) rs k 0 m hm (by omega))).trans (show (Rl.cells m)[0]? = some m.s.val from rfl)
          have c1 := hcell _ _ (flat_get Rl.cells 3 (fun _ => rfl) rs k 1 m hm (by omega))
          have c2 := hcell _ _ (flat_get Rl.cells 3 (fun _ => rfl) rs k 2 m hm (by omega))
          rw [← Nat.add_assoc] at c1 c2
          rw [Nat.add_zero] at c0
          have HM := Lib.hid hm
          have hfew : fewB m = (decide (m.s.l.length ≤ 12) && decide (m.t.l.length ≤ 12) && decide (m.e.l.length ≤ 40)) := rfl
          have HF := Lib.hid hfew
          clear hcell hm hfew
          unfold MR.val at c0 c1
          unfold TR.val at c2
          generalize m.s.l.length = n1 at *
          generalize m.t.l.length = n2 at *
          generalize m.e.l.length = n3 at *
          generalize m.s.A = a1 at *
          generalize m.t.A = a2 at *
          generalize m.e.A = a3 at *
          generalize m.s.c = d1 at *
          generalize m.t.c = d2 at *
          generalize m.e.c = d3 at *
          by_cases g1 : n1 ≤ 12
          · have j1 : ¬ (12 : Int) < (n1 : Int) := by omega
            by_cases g2 : n2 ≤ 12
            · have j2 : ¬ (12 : Int) < (n2 : Int) := by omega
              by_cases g3 : n3 ≤ 40
              · have j3 : ¬ (40 : Int) < (n3 : Int) := by omega
                go_wp2
                go_roundg (rs.length - (k + 1))
                case measure => omega
                case rel =>
                  refine ⟨k + 1, by go_num, by omega, by omega, Lib.hid (fun j x hj hx => ?_), K3⟩
                  by_cases hji : j = k
                  · subst hji; rw [HM.out] at hx; injection hx with hx; subst hx; rw [HF.out]; simp [g1, g2, g3]
                  · exact HJ.out j x (by omega) hx
              · have j3 : (40 : Int) < (n3 : Int) := by omega
                have hv : G2 = false := by rw [← HG2.out]; exact all_not rs _ k m HM.out (by rw [HF.out]; simp [g3])
                subst hv
                go_wp2
                go_ret
                exact ⟨rfl, K3.out⟩
            · have j2 : (12 : Int) < (n2 : Int) := by omega
              have hv : G2 = false := by rw [← HG2.out]; exact all_not rs _ k m HM.out (by rw [HF.out]; simp [g2])
              subst hv
              go_wp2
              go_ret
              exact ⟨rfl, K3.out⟩
          · have j1 : (12 : Int) < (n1 : Int) := by omega
            have hv : G2 = false := by rw [← HG2.out]; exact all_not rs _ k m HM.out (by rw [HF.out]; simp [g1])
            subst hv
            go_wp2
            go_ret
            exact ⟨rfl, K3.out⟩
        · have hke : k = rs.length := by omega
          have hv : G2 = true := by
            rw [← HG2.out]
            exact all_pre rs _ (fun j x hx => HJ.out j x (by rw [hke]; exact (List.getElem?_eq_some_iff.1 hx).1) hx)
          subst hv
          subst hke
          go_wp2
          go_ret
          exact ⟨rfl, K3.out⟩
theorem light6_any (Ar : Option Addr) (cr : Nat) (rs : List Rl) (Al : Option Addr) (cl : Nat) (ls : List PR) (w : World)
    (Rr : Reads w (fun b => b < w.heap.size) 3 Ar rs.length (rs.flatMap Rl.cells)) (Rl' : Reads w (fun b => b < w.heap.size) 1 Al ls.length (ls.flatMap fun p : PR => [p.val])) (hl : ∀ p ∈ ls, p.In w) :
    Calls Try.prog 33 #[.slice Ar rs.length cr, .slice Al ls.length cl] w fun e w' => e = .returned (.bool (light6B rs ls)) ∧ Below w.heap.size w w' := by
  unfold light6B
  by_cases h1 : rs.length ≤ 12
  · by_cases h2 : ls.length ≤ 40
    · rw [decide_eq_true h1, decide_eq_true h2]
      exact light6_near Ar cr rs Al cl ls w h1 h2 Rr Rl' hl
    · rw [decide_eq_false h2, Bool.and_false]
      exact light6_far2 Ar cr _ Al cl _ w h1 (by omega)
  · rw [decide_eq_false h1]
    exact light6_far1 Ar cr _ _ w (by omega)
theorem few_small {r : Rl} (h : fewB r = true) : r.Small := by
  unfold fewB at h
  simp only [Bool.and_eq_true, decide_eq_true_eq] at h
  exact ⟨by omega, by omega, by omega⟩
theorem light_pr_is {p : PR} (h : lightB p.l = true) : p.Light := light_is h
end Go.Proofs.Ytnidjfmbbfoheaa
