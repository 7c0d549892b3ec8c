/- WORDS: routes and configurations that came in, with their capacities. -/
import Derived.Test.YtnidjfmbbfoheaaT1
namespace Go.Proofs.Ytnidjfmbbfoheaa
set_option linter.unusedVariables false
set_option linter.unusedSimpArgs false
open Go.ChangeShapes Go.WideShapes Go.ChangeAt Go.RowKit Go.Joins Go.Deep

def Ro.Fit (r : Ro) : Prop := r.ms.l.length ≤ r.ms.c ∧ r.by_.l.length ≤ r.by_.c
def Rl.Fit (r : Rl) : Prop := r.s.l.length ≤ r.s.c ∧ r.t.l.length ≤ r.t.c ∧ r.e.l.length ≤ r.e.c
structure Cf.Fit (c : Cf) : Prop where
  n : c.l.length ≤ c.c
  m : c.rl.length ≤ c.d
  ro : ∀ r ∈ c.l, r.Fit
  rr : ∀ r ∈ c.rl, r.Fit
section
variable {H : Type} {enc : TypeId × Value → H} {w : World} {base : Nat} {spare : Nat → Bool} {held : Bool}
set_option maxRecDepth 100000 in
theorem tr_of2 {n : Nat} {c : Value} {y : DataW H × List MemPlace} (h : DataW.trod enc Try.prog w base spare held n 45 [c] = some y) : ∃ r : TR, c = r.val ∧ r.In w ∧ r.l.length ≤ r.c := by
  obtain ⟨A, cp, l, e, R, o, hc, _, _⟩ := row_of und45b cells9 (by decide) tx TxOk (fun _ => rfl) (fun n cs y hl h => by
    obtain ⟨c, rfl⟩ := one_of hl
    obtain ⟨s, rfl, a, b⟩ := str_field n h
    exact ⟨s, rfl, a, b⟩) h
  exact ⟨⟨A, cp, l⟩, e, ⟨R, o⟩, hc⟩
set_option maxRecDepth 100000 in
theorem mr_of2 {n : Nat} {c : Value} {y : DataW H × List MemPlace} (h : DataW.trod enc Try.prog w base spare held n 44 [c] = some y) : ∃ r : MR, c = r.val ∧ r.In w ∧ r.l.length ≤ r.c := by
  obtain ⟨A, cp, l, e, R, o, hc, _, _⟩ := row_of und44b cells37 (by decide) mtcells Mt.Ok (fun _ => rfl) (fun n cs y hl ht => by
    obtain ⟨ys, n', _, hy, hyl, _, hfld⟩ := DataW.trod_struct Try.underlying37 ht
    obtain ⟨c0, c1, c2, rfl⟩ : ∃ c0 c1 c2, cs = [c0, c1, c2] := by
      match cs, hl with
      | [c0, c1, c2], _ => exact ⟨c0, c1, c2, rfl⟩
    obtain ⟨y0, y1, y2, rfl⟩ : ∃ y0 y1 y2, ys = [y0, y1, y2] := by
      match ys, hyl with
      | [y0, y1, y2], _ => exact ⟨y0, y1, y2, rfl⟩
    have g0 := hfld 0 _ rfl
    have g1 := hfld 1 _ rfl
    have g2 := hfld 2 _ rfl
    simp only [cells9, cells35, List.drop_zero, List.drop_succ_cons, List.take_succ_cons, List.take_zero, List.getElem?_cons_zero, List.getElem?_cons_succ] at g0 g1 g2
    obtain ⟨s0, rfl, a0, b0⟩ := str_field n' g0
    obtain ⟨x, e1, _, w1⟩ := DataW.trod_int Try.underlying35 g1
    obtain ⟨s2, rfl, a2, b2⟩ := str_field n' g2
    have e1' : List.take (Try.prog.cellsOf 35) (List.drop 1 [.string (bs s0), c1, .string (bs s2)]) = [.int .u8 x] := e1
    rw [cells35] at e1'
    injection e1' with e1'
    subst e1'
    have b1 := bounds_u8 w1
    exact ⟨⟨s0, s2, x⟩, rfl, a0, b0, a2, b2, b1.1, b1.2⟩) h
  rw [mts_flat] at R
  exact ⟨⟨A, cp, l⟩, e, ⟨R, o⟩, hc⟩
set_option maxRecDepth 100000 in
theorem ro_of2 {n : Nat} {cs : List Value} {y : DataW H × List MemPlace} (hl : cs.length = 8) (ht : DataW.trod enc Try.prog w base spare held n 77 cs = some y) : ∃ r : Ro, cs = r.cells ∧ r.In w ∧ r.Fit := by
  obtain ⟨ys, n', _, hy, hyl, _, hfld⟩ := DataW.trod_struct Try.underlying77 ht
  obtain ⟨c0, c1, c2, c3, c4, c5, c6, c7, rfl⟩ : ∃ c0 c1 c2 c3 c4 c5 c6 c7, cs = [c0, c1, c2, c3, c4, c5, c6, c7] := by
    match cs, hl with
    | [c0, c1, c2, c3, c4, c5, c6, c7], _ => exact ⟨c0, c1, c2, c3, c4, c5, c6, c7, rfl⟩
  obtain ⟨y0, y1, y2, y3, y4, y5, y6, y7, rfl⟩ : ∃ y0 y1 y2 y3 y4 y5 y6 y7, ys = [y0, y1, y2, y3, y4, y5, y6, y7] := by
    match ys, hyl with
    | [y0, y1, y2, y3, y4, y5, y6, y7], _ => exact ⟨y0, y1, y2, y3, y4, y5, y6, y7, rfl⟩
  have h0 : DataW.trod enc Try.prog w base spare held n' 3 [c0] = some y0 := by
    have : DataW.trod enc Try.prog w base spare held n' 3 (List.take (Try.prog.cellsOf 3) [c0, c1, c2, c3, c4, c5, c6, c7]) = some y0 := hfld 0 _ rfl
    rwa [cells3r] at this
  have h1 : DataW.trod enc Try.prog w base spare held n' 44 [c1] = some y1 := by
    have : DataW.trod enc Try.prog w base spare held n' 44 (List.take (Try.prog.cellsOf 44) [c1, c2, c3, c4, c5, c6, c7]) = some y1 := hfld 1 _ rfl
    rwa [cells44] at this
  have h2 : DataW.trod enc Try.prog w base spare held n' 4 [c2] = some y2 := by
    have : DataW.trod enc Try.prog w base spare held n' 4 (List.take (Try.prog.cellsOf 4) [c2, c3, c4, c5, c6, c7]) = some y2 := hfld 2 _ rfl
    rwa [cells4r] at this
  have h3 : DataW.trod enc Try.prog w base spare held n' 45 [c3] = some y3 := by
    have : DataW.trod enc Try.prog w base spare held n' 45 (List.take (Try.prog.cellsOf 45) [c3, c4, c5, c6, c7]) = some y3 := hfld 3 _ rfl
    rwa [cells45] at this
  have h4 : DataW.trod enc Try.prog w base spare held n' 9 [c4] = some y4 := by
    have : DataW.trod enc Try.prog w base spare held n' 9 (List.take (Try.prog.cellsOf 9) [c4, c5, c6, c7]) = some y4 := hfld 4 _ rfl
    rwa [cells9] at this
  have h5 : DataW.trod enc Try.prog w base spare held n' 3 [c5] = some y5 := by
    have : DataW.trod enc Try.prog w base spare held n' 3 (List.take (Try.prog.cellsOf 3) [c5, c6, c7]) = some y5 := hfld 5 _ rfl
    rwa [cells3r] at this
  have h6 : DataW.trod enc Try.prog w base spare held n' 3 [c6] = some y6 := by
    have : DataW.trod enc Try.prog w base spare held n' 3 (List.take (Try.prog.cellsOf 3) [c6, c7]) = some y6 := hfld 6 _ rfl
    rwa [cells3r] at this
  have h7 : DataW.trod enc Try.prog w base spare held n' 3 [c7] = some y7 := by
    have : DataW.trod enc Try.prog w base spare held n' 3 (List.take (Try.prog.cellsOf 3) [c7]) = some y7 := hfld 7 _ rfl
    rwa [cells3r] at this
  obtain ⟨a0, e0, _, w0⟩ := DataW.trod_int Try.underlying3 h0
  obtain ⟨r1, rfl, i1, j1⟩ := mr_of2 h1
  obtain ⟨b2, e2, _⟩ := DataW.trod_bool Try.underlying4 h2
  obtain ⟨r3, rfl, i3, j3⟩ := tr_of2 h3
  obtain ⟨s4, rfl, a4, b4⟩ := str_field n' h4
  obtain ⟨a5, e5, _, w5⟩ := DataW.trod_int Try.underlying3 h5
  obtain ⟨a6, e6, _, w6⟩ := DataW.trod_int Try.underlying3 h6
  obtain ⟨a7, e7, _, w7⟩ := DataW.trod_int Try.underlying3 h7
  simp only [List.cons.injEq, and_true] at e0 e2 e5 e6 e7
  subst e0 e2 e5 e6 e7
  exact ⟨⟨a0, r1, b2, r3, s4, a5, a6, a7⟩, rfl, ⟨i1, i3, a4, b4⟩, j1, j3⟩
set_option maxRecDepth 100000 in
theorem rl_of2 {n : Nat} {cs : List Value} {y : DataW H × List MemPlace} (hl : cs.length = 3) (ht : DataW.trod enc Try.prog w base spare held n 47 cs = some y) : ∃ r : Rl, cs = r.cells ∧ r.In w ∧ r.Fit := by
  obtain ⟨ys, n', _, hy, hyl, _, hfld⟩ := DataW.trod_struct Try.underlying47 ht
  obtain ⟨c0, c1, c2, rfl⟩ : ∃ c0 c1 c2, cs = [c0, c1, c2] := by
    match cs, hl with
    | [c0, c1, c2], _ => exact ⟨c0, c1, c2, rfl⟩
  obtain ⟨y0, y1, y2, rfl⟩ : ∃ y0 y1 y2, ys = [y0, y1, y2] := by
    match ys, hyl with
    | [y0, y1, y2], _ => exact ⟨y0, y1, y2, rfl⟩
  have g0 := hfld 0 _ rfl
  have g1 := hfld 1 _ rfl
  have g2 := hfld 2 _ rfl
  have h0 : DataW.trod enc Try.prog w base spare held n' 44 [c0] = some y0 := by
    have : DataW.trod enc Try.prog w base spare held n' 44 (List.take (Try.prog.cellsOf 44) [c0, c1, c2]) = some y0 := g0
    rwa [cells44] at this
  have h1 : DataW.trod enc Try.prog w base spare held n' 44 [c1] = some y1 := by
    have : DataW.trod enc Try.prog w base spare held n' 44 (List.take (Try.prog.cellsOf 44) [c1, c2]) = some y1 := g1
    rwa [cells44] at this
  have h2 : DataW.trod enc Try.prog w base spare held n' 45 [c2] = some y2 := by
    have : DataW.trod enc Try.prog w base spare held n' 45 (List.take (Try.prog.cellsOf 45) [c2]) = some y2 := g2
    rwa [cells45] at this
  obtain ⟨r0, rfl, i0, j0⟩ := mr_of2 h0
  obtain ⟨r1, rfl, i1, j1⟩ := mr_of2 h1
  obtain ⟨r2, rfl, i2, j2⟩ := tr_of2 h2
  exact ⟨⟨r0, r1, r2⟩, rfl, ⟨i0, i1, i2⟩, j0, j1, j2⟩
set_option maxRecDepth 100000 in
/-- A configuration that came in. -/
theorem open_cf2 {r : Reach} {b0 : Nat} {v : Value} {d : DataW H} {p : List MemPlace} (hv : Value.okWide Try.prog w r b0 70 v) (h : DataW.Trod enc Try.prog w base spare held 70 v d p) :
    ∃ c : Cf, v = c.val ∧ c.In w ∧ c.Fit := by
  obtain ⟨c0, c1, c2, c3, y0, y1, y2, y3, n, rfl, _, _, h0, h1, h2, h3⟩ := open_agg4 Try.underlying70 (by kernel_rfl) cells70 hv h
  obtain ⟨A, cp, l, rfl, R, o, hc, _⟩ := row_of und68b cells77 (by decide) Ro.cells (fun r => r.In w ∧ r.Fit) (fun _ => rfl) (fun n cs y hl ht => ro_of2 hl ht) h0
  obtain ⟨B, cq, rl, rfl, R', o', hd, _⟩ := row_of und49b cells47 (by decide) Rl.cells (fun r => r.In w ∧ r.Fit) (fun _ => rfl) (fun n cs y hl ht => rl_of2 hl ht) h1
  obtain ⟨a2, e2, _, w2⟩ := DataW.trod_int Try.underlying3 h2
  obtain ⟨a3, e3, _, w3⟩ := DataW.trod_int Try.underlying3 h3
  simp only [List.cons.injEq, and_true] at e2 e3
  subst e2 e3
  exact ⟨⟨A, cp, l, B, cq, rl, a2, a3⟩, rfl, ⟨R, fun r hr => (o r hr).1, R', fun r hr => (o' r hr).1⟩, ⟨hc, hd, fun r hr => (o r hr).2, fun r hr => (o' r hr).2⟩⟩
end
end Go.Proofs.Ytnidjfmbbfoheaa
