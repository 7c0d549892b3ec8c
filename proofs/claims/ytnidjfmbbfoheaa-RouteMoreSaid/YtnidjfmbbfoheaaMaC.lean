/- WORDS: matchers and pairs that came in; rows of pairs. -/
import Derived.Test.YtnidjfmbbfoheaaMaB
import Derived.Test.YtnidjfmbbfoheaaRxOpen
import Derived.Test.YtnidjfmbbfoheaaRxQuotes
namespace Go.Proofs.Ytnidjfmbbfoheaa
set_option linter.unusedVariables false
set_option linter.unusedSimpArgs false
open Go.ChangeShapes Go.WideShapes Go.ChangeAt Go.RowKit Go.Joins Go.Deep

/-- A label: its name, its value. -/
structure Pr where
  n : List Nat
  v : List Nat
deriving DecidableEq
def Pr.Ok (p : Pr) : Prop := (∀ x ∈ p.n, x < 256) ∧ p.n.length ≤ 9223372036854775807 ∧ (∀ x ∈ p.v, x < 256) ∧ p.v.length ≤ 9223372036854775807
def prs : List Pr → List Value
  | [] => []
  | p :: r => .string (bs p.n) :: .string (bs p.v) :: prs r
theorem prs_length (l : List Pr) : (prs l).length = l.length * 2 := by
  induction l with
  | nil => rfl
  | cons p r ih => simp [prs, ih]; omega
theorem prs_get (l : List Pr) : ∀ (k : Nat) (p : Pr), l[k]? = some p → (prs l)[k * 2]? = some (.string (bs p.n)) ∧ (prs l)[k * 2 + 1]? = some (.string (bs p.v)) := by
  induction l with
  | nil => intro k p h; simp at h
  | cons q r ih =>
    intro k p h
    cases k with
    | zero => simp at h; subst h; exact ⟨rfl, rfl⟩
    | succ k =>
      simp only [List.getElem?_cons_succ] at h
      have := ih k p h
      rw [show (k + 1) * 2 = k * 2 + 1 + 1 by omega]
      exact this
theorem prs_app (a b : List Pr) : prs (a ++ b) = prs a ++ prs b := by
  induction a with
  | nil => rfl
  | cons p r ih => simp [prs, ih]
abbrev ReadsP (w : World) (S : Nat → Prop) (A : Option Addr) (l : List Pr) : Prop := Reads w S 2 A l.length (prs l)

/-- A matcher: its name, its value, its operation. -/
structure Mt where
  n : List Nat
  v : List Nat
  op : Int
deriving DecidableEq
def Mt.Ok (m : Mt) : Prop := (∀ x ∈ m.n, x < 256) ∧ m.n.length ≤ 9223372036854775807 ∧ (∀ x ∈ m.v, x < 256) ∧ m.v.length ≤ 9223372036854775807 ∧ 0 ≤ m.op ∧ m.op ≤ 255
def Mt.val (m : Mt) : Value := mval m.n m.v m.op
def mts : List Mt → List Value
  | [] => []
  | m :: r => .string (bs m.n) :: .int .u8 m.op :: .string (bs m.v) :: mts r
theorem mts_length (l : List Mt) : (mts l).length = l.length * 3 := by
  induction l with
  | nil => rfl
  | cons p r ih => simp [mts, ih]; omega
theorem mts_get (l : List Mt) : ∀ (k : Nat) (p : Mt), l[k]? = some p → (mts l)[k * 3]? = some (.string (bs p.n)) ∧ (mts l)[k * 3 + 1]? = some (.int .u8 p.op) ∧ (mts l)[k * 3 + 2]? = some (.string (bs p.v)) := by
  induction l with
  | nil => intro k p h; simp at h
  | cons q r ih =>
    intro k p h
    cases k with
    | zero => simp at h; subst h; exact ⟨rfl, rfl, rfl⟩
    | succ k =>
      simp only [List.getElem?_cons_succ] at h
      have := ih k p h
      rw [show (k + 1) * 3 = k * 3 + 1 + 1 + 1 by omega]
      exact this
theorem mts_app (a b : List Mt) : mts (a ++ b) = mts a ++ mts b := by
  induction a with
  | nil => rfl
  | cons p r ih => simp [mts, ih]
abbrev ReadsMt (w : World) (S : Nat → Prop) (A : Option Addr) (l : List Mt) : Prop := Reads w S 3 A l.length (mts l)

theorem nats_of (s : ByteArray) (h : s.size ≤ 9223372036854775807) : ∃ n, s = bs n ∧ (∀ x ∈ n, x < 256) ∧ n.length ≤ 9223372036854775807 := by
  refine ⟨nats s.data.toList, ?_, nats_lt _, ?_⟩
  · rw [bs_nats]
  · rw [nats_len, Array.length_toList]; exact h
section
variable {H : Type} {enc : TypeId × Value → H} {w : World} {base : Nat} {spare : Nat → Bool} {held : Bool}
theorem und38b : Try.prog.underlying 38 = some (.slice 43) := by kernel_rfl
theorem und44b : Try.prog.underlying 44 = some (.slice 37) := by kernel_rfl
theorem cells43 : Try.prog.cellsOf 43 = 2 := by kernel_rfl
theorem cells37 : Try.prog.cellsOf 37 = 3 := by kernel_rfl
theorem cells9 : Try.prog.cellsOf 9 = 1 := by kernel_rfl
theorem cells35 : Try.prog.cellsOf 35 = 1 := by kernel_rfl
theorem str_field (n : Nat) {c : Value} {y : DataW H × List MemPlace} (h : DataW.trod enc Try.prog w base spare held n 9 [c] = some y) : ∃ s, c = .string (bs s) ∧ (∀ x ∈ s, x < 256) ∧ s.length ≤ 9223372036854775807 := by
  obtain ⟨b, e0, _, w0⟩ := DataW.trod_string Try.underlying9 h
  simp only [List.cons.injEq, and_true] at e0
  obtain ⟨s, rfl, h1, h2⟩ := nats_of b w0
  exact ⟨s, e0, h1, h2⟩
set_option maxRecDepth 100000 in
theorem open_matcher {r : Reach} {b0 : Nat} {v : Value} {d : DataW H} {p : List MemPlace} (hv : Value.okWide Try.prog w r b0 37 v) (h : DataW.Trod enc Try.prog w base spare held 37 v d p) :
    ∃ m : Mt, v = m.val ∧ m.Ok := by
  obtain ⟨c0, c1, c2, y0, y1, y2, n, rfl, _, _, h0, h1, h2⟩ := open_agg3 Try.underlying37 (by kernel_rfl) cells37 hv h
  obtain ⟨s0, rfl, a0, b0⟩ := str_field n h0
  obtain ⟨x, e1, _, w1⟩ := DataW.trod_int Try.underlying35 h1
  obtain ⟨s2, rfl, a2, b2⟩ := str_field n h2
  simp only [List.cons.injEq, and_true] at e1
  subst e1
  have b1 := bounds_u8 w1
  exact ⟨⟨s0, s2, x⟩, rfl, a0, b0, a2, b2, b1.1, b1.2⟩
theorem add_plain (a : Addr) (n : Nat) (h : a = ⟨a.block, a.off, none⟩) : a.add n = ⟨a.block, a.off + n, none⟩ := by
  rw [h, Addr.add_mid]
set_option maxRecDepth 100000 in
/-- A slice of pairs that came in. -/
theorem open_pairs {r : Reach} {b0 : Nat} {v : Value} {d : DataW H} {p : List MemPlace} (hv : Value.okWide Try.prog w r b0 38 v) (h : DataW.Trod enc Try.prog w base spare held 38 v d p) :
    ∃ A c l, v = .slice A l.length c ∧ ReadsP w (fun b => b < w.heap.size) A l ∧ ∀ m ∈ l, Pr.Ok m := by
  obtain ⟨a0, len, cap, rfl⟩ := okWide_slice und38b hv
  obtain ⟨fuel, hf⟩ := h
  rcases open_slice und38b hf with ⟨hcs, hx⟩ | ⟨a, len', cap', m, n, D, Pp, hcs, hb, hl, hc, hm, hx, hi⟩
  · have hcs' : Value.slice a0 len cap = .slice none 0 0 := by simpa [Value.cells] using hcs
    rw [hcs']
    exact ⟨none, 0, [], rfl, Reads.nil _ _ _ _, by simp⟩
  · have hcs' : Value.slice a0 len cap = .slice (some a) len' cap' := by simpa [Value.cells] using hcs
    injection hcs' with e1 e2 e3
    subst e1 e2 e3
    have hlm : len ≤ m := by rw [hm]; split <;> omega
    have hel : ∀ i, i < len → ∃ x : Pr, Pr.Ok x ∧ w.cell? (a.add (i * 2)) = some (.string (bs x.n)) ∧ w.cell? ((a.add (i * 2)).add 1) = some (.string (bs x.v)) := by
      intro i hlt
      obtain ⟨cs, hcells, ht⟩ := hi i (by omega)
      rw [cells43] at hcells
      obtain ⟨_, hlen, hat⟩ := World.cells?_some hcells
      obtain ⟨ys, n', _, hy, hyl, _, hfld⟩ := DataW.trod_struct Try.underlying43 ht
      obtain ⟨c0, c1, rfl⟩ : ∃ c0 c1, cs = [c0, c1] := by
        match cs, hlen with
        | [c0, c1], _ => exact ⟨c0, c1, rfl⟩
      obtain ⟨y0, y1, rfl⟩ : ∃ y0 y1, ys = [y0, y1] := by
        match ys, hyl with
        | [y0, y1], _ => exact ⟨y0, y1, rfl⟩
      have g0 := hfld 0 _ rfl
      have g1 := hfld 1 _ rfl
      simp only [cells9, List.drop_zero, List.drop_succ_cons, List.take_succ_cons, List.take_zero, List.getElem?_cons_zero, List.getElem?_cons_succ] at g0 g1
      obtain ⟨s0, rfl, a0, b0⟩ := str_field n' g0
      obtain ⟨s1, rfl, a1, b1⟩ := str_field n' g1
      refine ⟨⟨s0, s1⟩, ⟨a0, b0, a1, b1⟩, ?_, ?_⟩
      · have := hat 0 (by omega); simpa [Addr.add] using this
      · have := hat 1 (by omega); simpa using this
    obtain ⟨l, hll, hlx⟩ := list_of (fun i x => Pr.Ok x ∧ w.cell? (a.add (i * 2)) = some (.string (bs x.n)) ∧ w.cell? ((a.add (i * 2)).add 1) = some (.string (bs x.v))) len hel
    subst hll
    refine ⟨some a, cap, l, rfl, ⟨prs_length l, fun hn => ?_⟩, fun m hm => ?_⟩
    · have h0 := hlx 0 _ (List.getElem?_eq_getElem hn)
      have ha : a = ⟨a.block, a.off, none⟩ := by
        have := addr_some h0.2.1
        simpa [Addr.add] using this
      refine ⟨a.block, a.off, by rw [← ha], World.block_lt_of_cell? w a (by have := h0.2.1; simpa [Addr.add] using this), fun j u hu => ?_⟩
      obtain ⟨k, q, hk, hq, rfl⟩ : ∃ k q, k < l.length ∧ q < 2 ∧ j = k * 2 + q := by
        have := (List.getElem?_eq_some_iff.1 hu).1
        rw [prs_length] at this
        exact ⟨j / 2, j % 2, by omega, by omega, by omega⟩
      obtain ⟨_, h1, h2⟩ := hlx k _ (List.getElem?_eq_getElem hk)
      obtain ⟨r0, r1⟩ := prs_get l k _ (List.getElem?_eq_getElem hk)
      rw [ha] at h1 h2
      rw [Addr.add_mid] at h1 h2
      rw [Addr.add_mid] at h2
      rcases (show q = 0 ∨ q = 1 by omega) with rfl | rfl
      · rw [Nat.add_zero] at hu ⊢; rw [← hu, r0]; exact h1
      · rw [← hu, r1]; exact h2
    · obtain ⟨k, hk⟩ := List.mem_iff_getElem?.1 hm
      exact (hlx k m hk).1
set_option maxRecDepth 100000 in
/-- A slice of matchers that came in. -/
theorem open_matchers {r : Reach} {b0 : Nat} {v : Value} {d : DataW H} {p : List MemPlace} (hv : Value.okWide Try.prog w r b0 44 v) (h : DataW.Trod enc Try.prog w base spare held 44 v d p) :
    ∃ A c l, v = .slice A l.length c ∧ ReadsMt w (fun b => b < w.heap.size) A l ∧ ∀ m ∈ l, Mt.Ok m := by
  obtain ⟨a0, len, cap, rfl⟩ := okWide_slice und44b hv
  obtain ⟨fuel, hf⟩ := h
  rcases open_slice und44b hf with ⟨hcs, hx⟩ | ⟨a, len', cap', m, n, D, Pp, hcs, hb, hl, hc, hm, hx, hi⟩
  · have hcs' : Value.slice a0 len cap = .slice none 0 0 := by simpa [Value.cells] using hcs
    rw [hcs']
    exact ⟨none, 0, [], rfl, Reads.nil _ _ _ _, by simp⟩
  · have hcs' : Value.slice a0 len cap = .slice (some a) len' cap' := by simpa [Value.cells] using hcs
    injection hcs' with e1 e2 e3
    subst e1 e2 e3
    have hlm : len ≤ m := by rw [hm]; split <;> omega
    have hel : ∀ i, i < len → ∃ x : Mt, Mt.Ok x ∧ w.cell? (a.add (i * 3)) = some (.string (bs x.n)) ∧ w.cell? ((a.add (i * 3)).add 1) = some (.int .u8 x.op) ∧ w.cell? ((a.add (i * 3)).add 2) = some (.string (bs x.v)) := by
      intro i hlt
      obtain ⟨cs, hcells, ht⟩ := hi i (by omega)
      rw [cells37] at hcells
      obtain ⟨_, hlen, hat⟩ := World.cells?_some hcells
      obtain ⟨ys, n', _, hy, hyl, _, hfld⟩ := DataW.trod_struct Try.underlying37 ht
      obtain ⟨c0, c1, c2, rfl⟩ : ∃ c0 c1 c2, cs = [c0, c1, c2] := by
        match cs, hlen with
        | [c0, c1, c2], _ => exact ⟨c0, c1, c2, rfl⟩
      obtain ⟨y0, y1, y2, rfl⟩ : ∃ y0 y1 y2, ys = [y0, y1, y2] := by
        match ys, hyl with
        | [y0, y1, y2], _ => exact ⟨y0, y1, y2, rfl⟩
      have g0 := hfld 0 _ rfl
      have g1 := hfld 1 _ rfl
      have g2 := hfld 2 _ rfl
      simp only [cells9, cells35, List.drop_zero, List.drop_succ_cons, List.take_succ_cons, List.take_zero, List.getElem?_cons_zero, List.getElem?_cons_succ] at g0 g1 g2
      obtain ⟨s0, rfl, a0, b0⟩ := str_field n' g0
      obtain ⟨x, e1, _, w1⟩ := DataW.trod_int Try.underlying35 g1
      obtain ⟨s2, rfl, a2, b2⟩ := str_field n' g2
      have e1' : List.take (Try.prog.cellsOf 35) (List.drop 1 [.string (bs s0), c1, .string (bs s2)]) = [.int .u8 x] := e1
      rw [cells35] at e1'
      injection e1' with e1'
      subst e1'
      have b1 := bounds_u8 w1
      refine ⟨⟨s0, s2, x⟩, ⟨a0, b0, a2, b2, b1.1, b1.2⟩, ?_, ?_, ?_⟩
      · have := hat 0 (by omega); simpa [Addr.add] using this
      · have := hat 1 (by omega); simpa using this
      · have := hat 2 (by omega); simpa using this
    obtain ⟨l, hll, hlx⟩ := list_of (fun i x => Mt.Ok x ∧ w.cell? (a.add (i * 3)) = some (.string (bs x.n)) ∧ w.cell? ((a.add (i * 3)).add 1) = some (.int .u8 x.op) ∧ w.cell? ((a.add (i * 3)).add 2) = some (.string (bs x.v))) len hel
    subst hll
    refine ⟨some a, cap, l, rfl, ⟨mts_length l, fun hn => ?_⟩, fun m hm => ?_⟩
    · have h0 := hlx 0 _ (List.getElem?_eq_getElem hn)
      have ha : a = ⟨a.block, a.off, none⟩ := by
        have := addr_some h0.2.1
        simpa [Addr.add] using this
      refine ⟨a.block, a.off, by rw [← ha], World.block_lt_of_cell? w a (by have := h0.2.1; simpa [Addr.add] using this), fun j u hu => ?_⟩
      obtain ⟨k, q, hk, hq, rfl⟩ : ∃ k q, k < l.length ∧ q < 3 ∧ j = k * 3 + q := by
        have := (List.getElem?_eq_some_iff.1 hu).1
        rw [mts_length] at this
        exact ⟨j / 3, j % 3, by omega, by omega, by omega⟩
      obtain ⟨_, h1, h2, h3⟩ := hlx k _ (List.getElem?_eq_getElem hk)
      obtain ⟨r0, r1, r2⟩ := mts_get l k _ (List.getElem?_eq_getElem hk)
      rw [ha] at h1 h2 h3
      rw [Addr.add_mid] at h1 h2 h3
      rw [Addr.add_mid] at h2 h3
      rcases (show q = 0 ∨ q = 1 ∨ q = 2 by omega) with rfl | rfl | rfl
      · rw [Nat.add_zero] at hu ⊢; rw [← hu, r0]; exact h1
      · rw [← hu, r1]; exact h2
      · rw [← hu, r2]; exact h3
    · obtain ⟨k, hk⟩ := List.mem_iff_getElem?.1 hm
      exact (hlx k m hk).1
end

/-! ### what is told, as plain functions -/
def getB : List Pr → List Nat → List Nat
  | [], _ => []
  | p :: r, n => if p.n = n then p.v else getB r n
def checkB (m : Mt) : Int := if nameB m.n = false then 6 else if 3 < m.op then 2 else if 64 < m.v.length then 5 else if m.op < 2 then 0 else errOf m.v
def oneB (m : Mt) (l : List Pr) : Bool :=
  if checkB m ≠ 0 then false
  else if m.op < 2 then (decide (getB l m.n = m.v) == decide (m.op = 0))
  else ((Rx.like m.v (getB l m.n) == some true) == decide (m.op = 2))
def allB (ms : List Mt) (l : List Pr) : Bool := ms.all fun m => oneB m l
/-- Light: few labels, short values. -/
def lightB (l : List Pr) : Bool := decide (l.length ≤ 40) && l.all fun p => decide (p.v.length ≤ 200)
theorem checkB_is (m : Mt) : checkB m = 6 ∨ checkB m = 2 ∨ checkB m = 5 ∨ checkB m = 0 ∨ checkB m = 9 := by
  unfold checkB errOf
  split
  · exact .inl rfl
  · split
    · exact .inr (.inl rfl)
    · split
      · exact .inr (.inr (.inl rfl))
      · split
        · exact .inr (.inr (.inr (.inl rfl)))
        · split
          · exact .inr (.inr (.inr (.inr rfl)))
          · exact .inr (.inr (.inr (.inl rfl)))
theorem check_any (m : Mt) (hm : m.Ok) (w : World) : Calls Try.prog 31 #[m.val] w fun e w' => e = .returned (.int .i64 (checkB m)) ∧ Below w.heap.size w w' := by
  obtain ⟨h1, h2, h3, h4, h5, h6⟩ := hm
  unfold checkB Mt.val
  by_cases a : nameB m.n = false
  · rw [if_pos a]; exact check_name m.n m.v m.op h1 h2 a w
  · rw [if_neg a]
    have a' : nameB m.n = true := by simpa using a
    by_cases b : 3 < m.op
    · rw [if_pos b]; exact check_op m.n m.v m.op h1 h2 a' h5 h6 b w
    · rw [if_neg b]
      by_cases c : 64 < m.v.length
      · rw [if_pos c]; exact check_long m.n m.v m.op h1 h2 a' h5 h6 (by omega) h4 c w
      · rw [if_neg c]
        by_cases d : m.op < 2
        · rw [if_pos d]; exact check_ok m.n m.v m.op h1 h2 a' h5 h6 d (by omega) w
        · rw [if_neg d]; exact check_rx m.n m.v m.op h1 h2 a' (by omega) (by omega) (by omega) h3 w
end Go.Proofs.Ytnidjfmbbfoheaa
