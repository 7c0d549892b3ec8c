/- WORDS: routes and configurations that came in, with their capacities. -/
import Derived.Test.YtnidjfmbbfoheaaT1
import Derived.Test.YtnidjfmbbfoheaaDChecks
import Derived.Test.YtnidjfmbbfoheaaT2
namespace Go.Proofs.Ytnidjfmbbfoheaa
set_option linter.unusedVariables false
set_option linter.unusedSimpArgs false
open Go.ChangeShapes Go.WideShapes Go.ChangeAt Go.RowKit Go.Joins Go.Deep

def Ro.Fit (r : Ro) : Prop := r.ms.l.length ≤ r.ms.c ∧ r.by_.l.length ≤ r.by_.c
def Rl.Fit (r : Rl) : Prop := r.s.l.length ≤ r.s.c ∧ r.t.l.length ≤ r.t.c ∧ r.e.l.length ≤ r.e.c
structure Cf.Fit (c : Cf) : Prop where
  n : c.l.length ≤ c.c
  m : c.rl.length ≤ c.d
  ro : ∀ r ∈ c.l, r.Fit
  rr : ∀ r ∈ c.rl, r.Fit
section
variable {H : Type} {enc : TypeId × Value → H} {w : World} {base : Nat} {spare : Nat → Bool} {held : Bool}
set_option maxRecDepth 100000 in
theorem tr_of2 {n : Nat} {c : Value} {y : DataW H × List MemPlace} (h : DataW.trod enc Try.prog w base spare held n 45 [c] = some y) : ∃ r : TR, c = r.val ∧ r.In w ∧ r.l.length ≤ r.c := by
  obtain ⟨A, cp, l, e, R, o, hc, _, _⟩ := row_of und45b cells9 (by decide) tx TxOk (fun _ => rfl) (fun n cs y hl h => by
    obtain ⟨c, rfl⟩ := one_of hl
    obtain ⟨s, rfl, a, b⟩ := str_field n h
    exact ⟨s, rfl, a, b⟩) h
  exact ⟨⟨A, cp, l⟩, e, ⟨R, o⟩, hc⟩
set_option maxRecDepth 100000 in
theorem mr_of2 {n : Nat} {c : Value} {y : DataW H × List MemPlace} (h : DataW.trod enc Try.prog w base spare held n 44 [c] = some y) : ∃ r : MR, c = r.val ∧ r.In w ∧ r.l.length ≤ r.c := by
  obtain ⟨A, cp, l, e, R, o, hc, _, _⟩ := row_of und44b cells37 (by decide) mtcells Mt.Ok (fun _ => rfl) (fun n cs y hl ht => by
    obtain ⟨ys, n', _, hy, hyl, _, hfld⟩ := DataW.trod_struct Try.underlying37 ht
    obtain ⟨c0, c1, c2, rfl⟩ : ∃ c0 c1 c2, cs = [c0, c1, c2] := by
      match cs, hl with
      | [c0, c1, c2], _ => exact ⟨c0, c1, c2, rfl⟩
    obtain ⟨y0, y1, y2, rfl⟩ : ∃ y0 y1 y2, ys = [y0, y1, y2] := by
      match ys, hyl with
      | [y0, y1, y2], _ => exact ⟨y0, y1, y2, rfl⟩
    have g0 := hfld 0 _ rfl
    have g1 := hfld 1 _ rfl
    have g2 := hfld 2 _ rfl
    simp only [cells9, cells35, List.drop_zero, List.drop_succ_cons, List.take_succ_cons, List.take_zero, List.getElem?_cons_zero, List.getElem?_cons_succ] at g0 g1 g2
    obtain ⟨s0, rfl, a0, b0⟩ := str_field n' g0
    obtain ⟨x, e1, _, w1⟩ := DataW.trod_int Try.underlying35 g1
    obtain ⟨s2, rfl, a2, b2⟩ := str_field n' g2
    have e1' : List.take (Try.prog.cellsOf 35) (List.drop 1 [.string (bs s0), c1, .string (bs s2)]) = [.int .u8 x] := e1
    rw [cells35] at e1'
    injection e1' with e1'
    subst e1'
    have b1 := bounds_u8 w1
    exact ⟨⟨s0, s2, x⟩, rfl, a0, b0, a2, b2, b1.1, b1.2⟩) h
  rw [mts_flat] at R
  exact ⟨⟨A, cp, l⟩, e, ⟨R, o⟩, hc⟩
set_option maxRecDepth 100000 in
theorem ro_of2 {n : Nat} {cs : List Value} {y : DataW H × List MemPlace} (hl : cs.length = 8) (ht : DataW.trod enc Try.prog w base spare held n 77 cs = some y) : ∃ r : Ro, cs = r.cells ∧ r.In w ∧ r.Fit := by
  obtain ⟨ys, n', _, hy, hyl, _, hfld⟩ := DataW.trod_struct Try.underlying77 ht
  obtain ⟨c0, c1, c2, c3, c4, c5, c6, c7, rfl⟩ : ∃ c0 c1 c2 c3 c4 c5 c6 c7, cs = [c0, c1, c2, c3, c4, c5, c6, c7] := by
    match cs, hl with
    | [c0, c1, c2, c3, c4, c5, c6, c7], _ => exact ⟨c0, c1, c2, c3, c4, c5, c6, c7, rfl⟩
  obtain ⟨y0, y1, y2, y3, y4, y5, y6, y7, rfl⟩ : ∃ y0 y1 y2 y3 y4 y5 y6 y7, ys = [y0, y1, y2, y3, y4, y5, y6, y7] := by
    match ys, hyl with
    | [y0, y1, y2, y3, y4, y5, y6, y7], _ => exact ⟨y0, y1, y2, y3, y4, y5, y6, y7, rfl⟩
  have h0 : DataW.trod enc Try.prog w base spare held n' 3 [c0] = some y0 := by
    have : DataW.trod enc Try.prog w base spare held n' 3 (List.take (Try.prog.cellsOf 3) [c0, c1, c2, c3, c4, c5, c6, c7]) = some y0 := hfld 0 _ rfl
    rwa [cells3r] at this
  have h1 : DataW.trod enc Try.prog w base spare held n' 44 [c1] = some y1 := by
    have : DataW.trod enc Try.prog w base spare held n' 44 (List.take (Try.prog.cellsOf 44) [c1, c2, c3, c4, c5, c6, c7]) = some y1 := hfld 1 _ rfl
    rwa [cells44] at this
  have h2 : DataW.trod enc Try.prog w base spare held n' 4 [c2] = some y2 := by
    have : DataW.trod enc Try.prog w base spare held n' 4 (List.take (Try.prog.cellsOf 4) [c2, c3, c4, c5, c6, c7]) = some y2 := hfld 2 _ rfl
    rwa [cells4r] at this
  have h3 : DataW.trod enc Try.prog w base spare held n' 45 [c3] = some y3 := by
    have : DataW.trod enc Try.prog w base spare held n' 45 (List.take (Try.prog.cellsOf 45) [c3, c4, c5, c6, c7]) = some y3 := hfld 3 _ rfl
    rwa [cells45] at this
  have h4 : DataW.trod enc Try.prog w base spare held n' 9 [c4] = some y4 := by
    have : DataW.trod enc Try.prog w base spare held n' 9 (List.take (Try.prog.cellsOf 9) [c4, c5, c6, c7]) = some y4 := hfld 4 _ rfl
    rwa [cells9] at this
  have h5 : DataW.trod enc Try.prog w base spare held n' 3 [c5] = some y5 := by
    have : DataW.trod enc Try.prog w base spare held n' 3 (List.take (Try.prog.cellsOf 3) [c5, c6, c7]) = some y5 := hfld 5 _ rfl
    rwa [cells3r] at this
  have h6 : DataW.trod enc Try.prog w base spare held n' 3 [c6] = some y6 := by
    have : DataW.trod enc Try.prog w base spare held n' 3 (List.take (Try.prog.cellsOf 3) [c6, c7]) = some y6 := hfld 6 _ rfl
    rwa [cells3r] at this
  have h7 : DataW.trod enc Try.prog w base spare held n' 3 [c7] = some y7 := by
    have : DataW.trod enc Try.prog w base spare held n' 3 (List.take (Try.prog.cellsOf 3) [c7]) = some y7 := hfld 7 _ rfl
    rwa [cells3r] at this
  obtain ⟨a0, e0, _, w0⟩ := DataW.trod_int Try.underlying3 h0
  obtain ⟨r1, rfl, i1, j1⟩ := mr_of2 h1
  obtain ⟨b2, e2, _⟩ := DataW.trod_bool Try.underlying4 h2
  obtain ⟨r3, rfl, i3, j3⟩ := tr_of2 h3
  obtain ⟨s4, rfl, a4, b4⟩ := str_field n' h4
  obtain ⟨a5, e5, _, w5⟩ := DataW.trod_int Try.underlying3 h5
  obtain ⟨a6, e6, _, w6⟩ := DataW.trod_int Try.underlying3 h6
  obtain ⟨a7, e7, _, w7⟩ := DataW.trod_int Try.underlying3 h7
  simp only [List.cons.injEq, and_true] at e0 e2 e5 e6 e7
  subst e0 e2 e5 e6 e7
  exact ⟨⟨a0, r1, b2, r3, s4, a5, a6, a7⟩, rfl, ⟨i1, i3, a4, b4⟩, j1, j3⟩
set_option maxRecDepth 100000 in
theorem rl_of2 {n : Nat} {cs : List Value} {y : DataW H × List MemPlace} (hl : cs.length = 3) (ht : DataW.trod enc Try.prog w base spare held n 47 cs = some y) : ∃ r : Rl, cs = r.cells ∧ r.In w ∧ r.Fit := by
  obtain ⟨ys, n', _, hy, hyl, _, hfld⟩ := DataW.trod_struct Try.underlying47 ht
  obtain ⟨c0, c1, c2, rfl⟩ : ∃ c0 c1 c2, cs = [c0, c1, c2] := by
    match cs, hl with
    | [c0, c1, c2], _ => exact ⟨c0, c1, c2, rfl⟩
  obtain ⟨y0, y1, y2, rfl⟩ : ∃ y0 y1 y2, ys = [y0, y1, y2] := by
    match ys, hyl with
    | [y0, y1, y2], _ => exact ⟨y0, y1, y2, rfl⟩
  have g0 := hfld 0 _ rfl
  have g1 := hfld 1 _ rfl
  have g2 := hfld 2 _ rfl
  have h0 : DataW.trod enc Try.prog w base spare held n' 44 [c0] = some y0 := by
    have : DataW.trod enc Try.prog w base spare held n' 44 (List.take (Try.prog.cellsOf 44) [c0, c1, c2]) = some y0 := g0
    rwa [cells44] at this
  have h1 : DataW.trod enc Try.prog w base spare held n' 44 [c1] = some y1 := by
    have : DataW.trod enc Try.prog w base spare held n' 44 (List.take (Try.prog.cellsOf 44) [c1, c2]) = some y1 := g1
    rwa [cells44] at this
  have h2 : DataW.trod enc Try.prog w base spare held n' 45 [c2] = some y2 := by
    have : DataW.trod enc Try.prog w base spare held n' 45 (List.take (Try.prog.cellsOf 45) [c2]) = some y2 := g2
    rwa [cells45] at this
  obtain ⟨r0, rfl, i0, j0⟩ := mr_of2 h0
  obtain ⟨r1, rfl, i1, j1⟩ := mr_of2 h1
  obtain ⟨r2, rfl, i2, j2⟩ := tr_of2 h2
  exact ⟨⟨r0, r1, r2⟩, rfl, ⟨i0, i1, i2⟩, j0, j1, j2⟩
set_option maxRecDepth 100000 in
/-- A configuration that came in. -/
theorem open_cf2 {r : Reach} {b0 : Nat} {v : Value} {d : DataW H} {p : List MemPlace} (hv : Value.okWide Try.prog w r b0 70 v) (h : DataW.Trod enc Try.prog w base spare held 70 v d p) :
    ∃ c : Cf, v = c.val ∧ c.In w ∧ c.Fit := by
  obtain ⟨c0, c1, c2, c3, y0, y1, y2, y3, n, rfl, _, _, h0, h1, h2, h3⟩ := open_agg4 Try.underlying70 (by kernel_rfl) cells70 hv h
  obtain ⟨A, cp, l, rfl, R, o, hc, _⟩ := row_of und68b cells77 (by decide) Ro.cells (fun r => r.In w ∧ r.Fit) (fun _ => rfl) (fun n cs y hl ht => ro_of2 hl ht) h0
  obtain ⟨B, cq, rl, rfl, R', o', hd, _⟩ := row_of und49b cells47 (by decide) Rl.cells (fun r => r.In w ∧ r.Fit) (fun _ => rfl) (fun n cs y hl ht => rl_of2 hl ht) h1
  obtain ⟨a2, e2, _, w2⟩ := DataW.trod_int Try.underlying3 h2
  obtain ⟨a3, e3, _, w3⟩ := DataW.trod_int Try.underlying3 h3
  simp only [List.cons.injEq, and_true] at e2 e3
  subst e2 e3
  exact ⟨⟨A, cp, l, B, cq, rl, a2, a3⟩, rfl, ⟨R, fun r hr => (o r hr).1, R', fun r hr => (o' r hr).1⟩, ⟨hc, hd, fun r hr => (o r hr).2, fun r hr => (o' r hr).2⟩⟩
end
end Go.Proofs.Ytnidjfmbbfoheaa

/- WALKS: the document's In, names, route, rule. -/
namespace Go.Proofs.Ytnidjfmbbfoheaa
set_option linter.unusedVariables false
set_option linter.unusedSimpArgs false
open Go.RowKit Go.BigFrame

set_option maxRecDepth 100000 in
set_option maxHeartbeats 2000000 in
theorem refIn_any (A0 : Option Addr) (cp : Nat) (l : List (List Nat)) (n : List Nat) (w : World) (hn : ∀ x ∈ n, x < 256) (hlen : l.length ≤ 9223372036854775807) (R : Reads w (fun b => b < w.heap.size) 1 A0 l.length (l.flatMap tx)) (hl : ∀ p ∈ l, TxOk p) :
    Calls Try.prog 115 #[.slice A0 l.length cp, .string (bs n)] w fun e w' => e = .returned (.bool (decide (n ∈ l))) ∧ w' = w := by
  obtain ⟨G, hG⟩ : ∃ G, decide (n ∈ l) = G := ⟨_, rfl⟩
  rw [hG]
  have HG := Lib.hid hG
  have HR := Lib.hid R
  have HL := Lib.hid hl
  have HN := Lib.hid hn
  clear hG R hl hn
  obtain ⟨bn, hbn⟩ : ∃ b, bs n = b := ⟨_, rfl⟩
  rw [hbn]
  have HB := Lib.hid hbn
  clear hbn
  go_enter Try.func115, Try.ntmps115
  go_wp2
  go_loop [5] (fun s5 => ∃ i : Nat, s5 = .int .i64 (i : Int) ∧ i ≤ l.length ∧ Hid (∀ j q, j < i → l[j]? = some q → q ≠ n)) (fun s5 => l.length - (intOf s5).toNat)
  case atStart => exact ⟨0, by go_num, by omega, Lib.hid (fun j q h => by omega)⟩
  case round =>
    obtain ⟨i, rfl, hi, HJ⟩ := hrel
    by_cases hlt : i < l.length
    · have hiI : (i : Int) < (l.length : Int) := by omega
      have hi0 : (0 : Int) ≤ (i : Int) := by omega
      obtain ⟨b, o, rfl, hb, hcell⟩ := HR.out.2 (by omega)
      obtain ⟨p, hp⟩ : ∃ p, l[i]? = some p := ⟨_, List.getElem?_eq_getElem hlt⟩
      have c0 := hcell i _ (flat_one tx (fun s => .string (bs s)) (fun _ => rfl) l i p hp)
      have hpo := HL.out p (List.mem_of_getElem? hp)
      have hcmp := bs_beq hpo.1 HN.out
      have HP := Lib.hid hp
      clear hp hcell hpo
      rw [HB.out] at hcmp
      by_cases he : p = n
      · rw [decide_eq_true he] at hcmp
        have hv : G = true := by rw [← HG.out]; exact decide_eq_true (he ▸ List.mem_of_getElem? HP.out)
        subst hv
        clear he HP
        generalize bs p = pn at *
        go_wp2
        go_ret
        exact ⟨rfl, rfl⟩
      · rw [decide_eq_false he] at hcmp
        have HE := Lib.hid he
        clear he
        generalize bs p = pn at *
        go_wp2
        go_round
        case rel =>
          refine ⟨i + 1, by go_num, by omega, Lib.hid (fun j q hj hq => ?_)⟩
          by_cases hji : j = i
          · subst hji; rw [HP.out] at hq; injection hq with hq; subst hq; exact HE.out
          · exact HJ.out j q (by omega) hq
        case measure => simp [intOf]; omega
    · have hie : i = l.length := by omega
      have hv : G = false := by
        rw [← HG.out]
        refine decide_eq_false (fun hm => ?_)
        obtain ⟨k, hk⟩ := List.mem_iff_getElem?.1 hm
        exact HJ.out k n (by rw [hie]; exact (List.getElem?_eq_some_iff.1 hk).1) hk rfl
      subst hv
      subst hie
      go_wp2
      go_ret
      exact ⟨rfl, rfl⟩

theorem reads_pre {w : World} {S : Nat → Prop} {A : Option Addr} {l : List (List Nat)} (h : Reads w S 1 A l.length (l.flatMap tx)) (i : Nat) (hi : i ≤ l.length) : Reads w S 1 A (l.take i).length ((l.take i).flatMap tx) := by
  refine ⟨by rw [flat_length tx 1 (fun _ => rfl)], fun hn => ?_⟩
  have hpos : 0 < l.length := by have := hn; rw [List.length_take] at this; omega
  obtain ⟨b, o, rfl, hb, hcell⟩ := h.2 hpos
  refine ⟨b, o, rfl, hb, fun j u hu => hcell j u ?_⟩
  have hj := (List.getElem?_eq_some_iff.1 hu).1
  rw [flat_length tx 1 (fun _ => rfl), Nat.mul_one] at hj
  have hj2 : j < l.length := by rw [List.length_take] at hj; omega
  have e1 := flat_one tx (fun s => Value.string (bs s)) (fun _ => rfl) (l.take i) j _ (List.getElem?_eq_getElem hj)
  have e2 := flat_one tx (fun s => Value.string (bs s)) (fun _ => rfl) l j _ (List.getElem?_eq_getElem hj2)
  rw [e1] at hu
  rw [e2, ← hu]
  simp [List.getElem_take]
set_option maxRecDepth 100000 in
set_option maxHeartbeats 2000000 in
theorem rnames_any (p : TR) (w : World) (H : p.In w) (hfit : p.l.length ≤ p.c) : Calls Try.prog 108 #[p.val] w fun e w' => e = .returned (.int .i64 (namesB p.l)) ∧ Below w.heap.size w w' := by
  obtain ⟨A, cp, l⟩ := p
  obtain ⟨R, O⟩ := H
  simp only at R O hfit
  have HR := Lib.hid R
  have HO := Lib.hid O
  clear R O
  unfold TR.val namesB
  simp only
  by_cases h8 : 8 < l.length
  · rw [if_pos h8]
    have j8 : decide ((l.length : Int) > 8) = true := by simp; omega
    go_enter Try.func108, Try.ntmps108
    go_wp2
    go_ret
    exact ⟨rfl, Below.refl _ _⟩
  rw [if_neg h8]
  obtain ⟨G, hG⟩ : ∃ G, namesGo [] l = G := ⟨_, rfl⟩
  rw [hG]
  have HG := Lib.hid hG
  clear hG
  have j8 : decide ((l.length : Int) > 8) = false := by simp; omega
  have KM := Lib.hid (Below.refl w.heap.size w)
  go_enter Try.func108, Try.ntmps108
  go_wp2
  clear j8
  go_loopw [3] (fun i wr => ∃ j : Nat, i = .int .i64 (j : Int) ∧ j ≤ l.length ∧ Hid (namesGo [] (l.take j) = true) ∧ Hid (Below w.heap.size w wr)) (fun i _ => l.length - (intOf i).toNat)
  case atStart => exact ⟨0, rfl, by omega, Lib.hid rfl, KM⟩
  case round =>
    obtain ⟨i, rfl, hi, HN, K1⟩ := hrel
    by_cases hlt : i < l.length
    · have hkI : (i : Int) < (l.length : Int) := by omega
      have hk0 : (0 : Int) ≤ (i : Int) := by omega
      have hkc : (i : Int) ≤ (cp : Int) := by omega
      obtain ⟨m, hm⟩ : ∃ m, l[i]? = some m := ⟨_, List.getElem?_eq_getElem hlt⟩
      have HR1 := Lib.hid ((HR.out.below (by omega) K1.out).imp (fun b hb' => Nat.lt_of_lt_of_le hb' K1.out.size))
      obtain ⟨b, o, rfl, hb, hcell⟩ := HR1.out.2 (by omega)
      have c0 := hcell i _ (flat_one tx (fun s => .string (bs s)) (fun _ => rfl) l i m hm)
      have hOm := HO.out m (List.mem_of_getElem? hm)
      have HOm := Lib.hid hOm
      have hdrop : l.drop i = m :: l.drop (i + 1) := by
        have h' := List.getElem?_eq_getElem hlt
        rw [hm] at h'
        injection h' with h'
        rw [List.drop_eq_getElem_cons hlt, ← h']
      have hsp : G = (nameB m && !(decide (m ∈ l.take i)) && namesGo (l.take i ++ [m]) (l.drop (i + 1))) := by
        rw [← HG.out, namesGo_split l [] i (by omega), HN.out, hdrop, List.nil_append]
        simp only [namesGo, Bool.true_and]
        cases nameB m <;> cases decide (m ∈ l.take i) <;> rfl
      have HSP := Lib.hid hsp
      have htk : l.take (i + 1) = l.take i ++ [m] := by rw [List.take_add_one, hm]; rfl
      have HTK := Lib.hid htk
      clear hcell hOm hdrop hsp htk hm
      obtain ⟨sn, hsn⟩ : ∃ x, decide (m ∈ l.take i) = x := ⟨_, rfl⟩
      obtain ⟨nb, hnb⟩ : ∃ x, nameB m = x := ⟨_, rfl⟩
      have HSN := Lib.hid hsn
      have HNB := Lib.hid hnb
      have HNA := Lib.hid (fun w => refName_any m HOm.out.1 HOm.out.2 w)
      rw [hnb] at HNA
      have HIN : Hid (∀ k : Nat, Calls Try.prog 115 #[.slice (some ⟨b, o, none⟩) i cp, .string (bs m)] (wr.drewN k) fun e w' => e = .returned (.bool sn) ∧ w' = wr.drewN k) := Lib.hid (fun k => by
        have h := refIn_any (some ⟨b, o, none⟩) cp (l.take i) m (wr.drewN k) HOm.out.1 (by rw [List.length_take]; omega) (reads_pre ((HR1.out.below (by omega) (below_drewN (Below.refl wr.heap.size wr) k)).imp (fun b hb' => Nat.lt_of_lt_of_le hb' (below_drewN (Below.refl wr.heap.size wr) k).size)) i hi) (fun x hx => HO.out x (List.mem_of_mem_take hx))
        rw [hsn, List.length_take, Nat.min_eq_left hi] at h
        exact h)
      clear hsn hnb HR1
      cases nb with
      | false =>
        have hv : G = false := by rw [HSP.out, HNB.out]; simp
        subst hv
        go_wp2
        go_quiet ((go_at_call 67; exact Calls.quiet_of_same (HNA.out _)))
        go_wp2
        go_ret
        exact ⟨rfl, below_drewN K1.out _⟩
      | true =>
        cases sn with
        | true =>
          have hv : G = false := by rw [HSP.out, HSN.out]; simp
          subst hv
          go_wp2
          go_quiet (first | (go_at_call 67; exact Calls.quiet_of_same (HNA.out _)) | (go_at_call 115; exact Calls.quiet_of_same (HIN.out _)))
          go_wp2
          go_ret
          exact ⟨rfl, below_drewN K1.out _⟩
        | false =>
          go_wp2
          go_quiet (first | (go_at_call 67; exact Calls.quiet_of_same (HNA.out _)) | (go_at_call 115; exact Calls.quiet_of_same (HIN.out _)))
          go_wp2
          go_roundw
          case rel =>
            refine ⟨i + 1, by go_num, by omega, Lib.hid ?_, Lib.hid (below_drewN K1.out _)⟩
            rw [HTK.out, namesGo_split (l.take i ++ [m]) [] i (by simp; omega)]
            have e1 : (l.take i ++ [m]).take i = l.take i := by rw [List.take_append_of_le_length (by simp; omega), List.take_take]; simp
            have e2 : (l.take i ++ [m]).drop i = [m] := by rw [List.drop_append_of_le_length (by simp; omega)]; simp
            rw [e1, e2, HN.out, List.nil_append]
            simp [namesGo, HNB.out, of_decide_eq_false HSN.out]
          case measure => simp [intOf]; omega
    · have hie : i = l.length := by omega
      have hv : G = true := by
        rw [← HG.out, ← HN.out, hie, List.take_length]
      subst hv
      subst hie
      go_wp2
      go_ret
      exact ⟨rfl, K1.out⟩
end Go.Proofs.Ytnidjfmbbfoheaa

/- WALKS: the document's route, rule, tree, Check. -/
namespace Go.Proofs.Ytnidjfmbbfoheaa
set_option linter.unusedVariables false
set_option linter.unusedSimpArgs false
open Go.RowKit Go.BigFrame

theorem beq_is {x : Int} (h : x = 0) : (x == 0) = true := by simp [h]
theorem beq_no {x : Int} (h : ¬ x = 0) : (x == 0) = false := by simp [h]
set_option maxRecDepth 100000 in
set_option maxHeartbeats 2000000 in
theorem rroute_any (r : Ro) (w : World) (H : r.In w) (HF : r.Fit) : Calls Try.prog 79 #[.agg r.cells.toArray] w fun e w' => e = .returned (.int .i64 (routeB r)) ∧ Below w.heap.size w w' := by
  obtain ⟨par, ms, cont, bz, rc, wt, iv, rp⟩ := r
  obtain ⟨H1, H2, H3⟩ := H
  have HF2 : bz.l.length ≤ bz.c := HF.2
  clear HF
  unfold routeB Ro.cells MR.val TR.val
  simp only at H1 H2 H3 ⊢
  have M1 : Hid (∀ X, Below w.heap.size w X → Calls Try.prog 39 #[.slice ms.A ms.l.length ms.c] X fun e w' => e = .returned (.int .i64 (checkAllB ms.l)) ∧ Below X.heap.size X w') := Lib.hid (fun X hX => rcheckall_any ms X (H1.below hX))
  have M2 : Hid (∀ X, Below w.heap.size w X → Calls Try.prog 108 #[.slice bz.A bz.l.length bz.c] X fun e w' => e = .returned (.int .i64 (namesB bz.l)) ∧ Below X.heap.size X w') := Lib.hid (fun X hX => rnames_any bz X (H2.below hX) HF2)
  have M3 : Hid (∀ X, Calls Try.prog 67 #[.string (bs rc)] X fun e w' => e = .returned (.bool (nameB rc)) ∧ w' = X) := Lib.hid (fun X => refName_any rc H3.1 H3.2 X)
  clear H1 H2 H3 HF2
  generalize checkAllB ms.l = E1 at *
  generalize namesB bz.l = E2 at *
  generalize nameB rc = nb at *
  generalize ms.l.length = n1 at *
  generalize bz.l.length = n2 at *
  generalize ms.A = mA at *
  generalize bz.A = bA at *
  generalize ms.c = mc at *
  generalize bz.c = bc at *
  generalize bs rc = s at *
  obtain ⟨G, hG⟩ : ∃ G, (if E1 ≠ 0 then E1 else if E2 ≠ 0 then E2 else if nb = false then (6 : Int) else if (withinB wt 0 && withinB iv 1 && withinB rp 1) = true then 0 else 13) = G := ⟨_, rfl⟩
  rw [hG]
  have HG := Lib.hid hG
  clear hG
  have K1 := Lib.hid ((Below.refl w.heap.size w).alloc (Nat.le_refl _) (.cells #[.int .i64 par, .slice mA n1 mc, .bool cont, .slice bA n2 bc, .string s, .int .i64 wt, .int .i64 iv, .int .i64 rp] 77))
  have BB := Lib.hid (Blk.new w 77 #[.int .i64 par, .slice mA n1 mc, .bool cont, .slice bA n2 bc, .string s, .int .i64 wt, .int .i64 iv, .int .i64 rp])
  have hlt : w.heap.size < (w.alloc (.cells #[.int .i64 par, .slice mA n1 mc, .bool cont, .slice bA n2 bc, .string s, .int .i64 wt, .int .i64 iv, .int .i64 rp] 77)).heap.size := by simp
  go_enter Try.func79, Try.ntmps79
  go_upto_region 1 with fail
  generalize w.alloc (.cells #[.int .i64 par, .slice mA n1 mc, .bool cont, .slice bA n2 bc, .string s, .int .i64 wt, .int .i64 iv, .int .i64 rp] 77) = w1 at *
  obtain ⟨bx, hbx⟩ : ∃ b, w.heap.size = b := ⟨_, rfl⟩
  rw [hbx] at hlt
  have BX : Hid (Blk w1 bx 77 #[.int .i64 par, .slice mA n1 mc, .bool cont, .slice bA n2 bc, .string s, .int .i64 wt, .int .i64 iv, .int .i64 rp]) := Lib.hid (by rw [← hbx]; exact BB.out)
  rw [hbx]
  clear hbx BB
  have HB : Hid (∀ X, Below w1.heap.size w1 X → X.cell? ⟨bx, 1, none⟩ = some (.slice mA n1 mc) ∧ X.cell? ⟨bx, 3, none⟩ = some (.slice bA n2 bc) ∧ X.cell? ⟨bx, 4, none⟩ = some (.string s) ∧ X.cell? ⟨bx, 5, none⟩ = some (.int .i64 wt) ∧ X.cell? ⟨bx, 6, none⟩ = some (.int .i64 iv) ∧ X.cell? ⟨bx, 7, none⟩ = some (.int .i64 rp)) := Lib.hid (fun X hX => by
    have h := BX.out.below hX hlt
    exact ⟨h.cell 1, h.cell 3, h.cell 4, h.cell 5, h.cell 6, h.cell 7⟩)
  have L1 := Lib.hid (Below.refl w1.heap.size w1)
  obtain ⟨z1, z3, z4, z5, z6, z7⟩ := HB.out w1 L1.out
  by_cases e1 : E1 = 0
  · have f1 := bne_no e1
    have f1' := beq_is e1
    rw [if_neg (fun h => h e1)] at HG
    go_wp2_with fail
    refine (M1.out _ (below_then K1.out K1.out.size L1.out)).mono ?_
    rintro e x2 ⟨rfl, hb⟩
    have L2 := Lib.hid (below_then L1.out L1.out.size hb)
    clear hb z1 z3 z4 z5 z6 z7 e1
    obtain ⟨z1, z3, z4, z5, z6, z7⟩ := HB.out _ L2.out
    by_cases e2 : E2 = 0
    · have f2 := bne_no e2
      rw [if_neg (fun h => h e2)] at HG
      go_wp2_with fail
      refine (M2.out _ (below_then K1.out K1.out.size L2.out)).mono ?_
      rintro e x3 ⟨rfl, hb⟩
      have L3 := Lib.hid (below_then L2.out L2.out.size hb)
      clear hb z1 z3 z4 z5 z6 z7 e2
      obtain ⟨z1, z3, z4, z5, z6, z7⟩ := HB.out _ L3.out
      cases nb with
      | false =>
        obtain rfl : G = 6 := by rw [← HG.out]; rfl
        go_wp2_with fail
        refine (M3.out _).mono ?_
        rintro e w9 ⟨rfl, rfl⟩
        go_wp2
        go_ret
        exact ⟨rfl, below_then K1.out K1.out.size L3.out⟩
      | true =>
        rw [if_neg (by decide)] at HG
        go_wp2_with fail
        refine (M3.out _).mono ?_
        rintro e w9 ⟨rfl, rfl⟩
        by_cases t0 : wt < 0
        · have q0 : decide (wt < 0) = true := decide_eq_true t0
          obtain rfl : G = 13 := by
            rw [← HG.out, if_neg]
            simp only [withinB, Bool.and_eq_true, decide_eq_true_eq]
            omega
          clear t0
          go_wp2
          go_ret
          exact ⟨rfl, below_then K1.out K1.out.size L3.out⟩
        · have q0 : decide (wt < 0) = false := decide_eq_false t0
          have u0 : 0 ≤ wt := by omega
          clear t0
          by_cases t1 : iv < 1
          · have q1 : decide (iv < 1) = true := decide_eq_true t1
            obtain rfl : G = 13 := by
              rw [← HG.out, if_neg]
              simp only [withinB, Bool.and_eq_true, decide_eq_true_eq]
              omega
            clear t1
            go_wp2
            go_ret
            exact ⟨rfl, below_then K1.out K1.out.size L3.out⟩
          · have q1 : decide (iv < 1) = false := decide_eq_false t1
            have u1 : 1 ≤ iv := by omega
            clear t1
            by_cases t2 : rp < 1
            · have q2 : decide (rp < 1) = true := decide_eq_true t2
              obtain rfl : G = 13 := by
                rw [← HG.out, if_neg]
                simp only [withinB, Bool.and_eq_true, decide_eq_true_eq]
                omega
              clear t2
              go_wp2
              go_ret
              exact ⟨rfl, below_then K1.out K1.out.size L3.out⟩
            · have q2 : decide (rp < 1) = false := decide_eq_false t2
              have u2 : 1 ≤ rp := by omega
              clear t2
              by_cases t3 : 1099511627776 < wt
              · have q3 : decide (wt > 1099511627776) = true := decide_eq_true t3
                obtain rfl : G = 13 := by
                  rw [← HG.out, if_neg]
                  simp only [withinB, Bool.and_eq_true, decide_eq_true_eq]
                  omega
                clear t3
                go_wp2
                go_ret
                exact ⟨rfl, below_then K1.out K1.out.size L3.out⟩
              · have q3 : decide (wt > 1099511627776) = false := decide_eq_false t3
                have u3 : wt ≤ 1099511627776 := by omega
                clear t3
                by_cases t4 : 1099511627776 < iv
                · have q4 : decide (iv > 1099511627776) = true := decide_eq_true t4
                  obtain rfl : G = 13 := by
                    rw [← HG.out, if_neg]
                    simp only [withinB, Bool.and_eq_true, decide_eq_true_eq]
                    omega
                  clear t4
                  go_wp2
                  go_ret
                  exact ⟨rfl, below_then K1.out K1.out.size L3.out⟩
                · have q4 : decide (iv > 1099511627776) = false := decide_eq_false t4
                  have u4 : iv ≤ 1099511627776 := by omega
                  clear t4
                  by_cases t5 : 1099511627776 < rp
                  · have q5 : decide (rp > 1099511627776) = true := decide_eq_true t5
                    obtain rfl : G = 13 := by
                      rw [← HG.out, if_neg]
                      simp only [withinB, Bool.and_eq_true, decide_eq_true_eq]
                      omega
                    clear t5
                    go_wp2
                    go_ret
                    exact ⟨rfl, below_then K1.out K1.out.size L3.out⟩
                  · have q5 : decide (rp > 1099511627776) = false := decide_eq_false t5
                    have u5 : rp ≤ 1099511627776 := by omega
                    clear t5
                    obtain rfl : G = 0 := by
                      rw [← HG.out, if_pos]
                      simp only [withinB, Bool.and_eq_true, decide_eq_true_eq]
                      omega
                    clear u0 u1 u2 u3 u4 u5
                    go_wp2
                    go_ret
                    exact ⟨rfl, below_then K1.out K1.out.size L3.out⟩
    · have f2 := bne_is e2
      obtain rfl : G = E2 := by rw [← HG.out, if_pos e2]
      go_wp2_with fail
      refine (M2.out _ (below_then K1.out K1.out.size L2.out)).mono ?_
      rintro e x3 ⟨rfl, hb⟩
      have L3 := Lib.hid (below_then L2.out L2.out.size hb)
      clear hb
      go_wp2
      go_ret
      exact ⟨rfl, below_then K1.out K1.out.size L3.out⟩
  · have f1 := bne_is e1
    have f1' := beq_no e1
    obtain rfl : G = E1 := by rw [← HG.out, if_pos e1]
    go_wp2_with fail
    refine (M1.out _ (below_then K1.out K1.out.size L1.out)).mono ?_
    rintro e x2 ⟨rfl, hb⟩
    have L2 := Lib.hid (below_then L1.out L1.out.size hb)
    clear hb
    go_wp2
    go_ret
    exact ⟨rfl, below_then K1.out K1.out.size L2.out⟩
set_option maxRecDepth 100000 in
set_option maxHeartbeats 2000000 in
theorem rrule_any (r : Rl) (w : World) (H : r.In w) (HF : r.Fit) : Calls Try.prog 80 #[.agg r.cells.toArray] w fun e w' => e = .returned (.int .i64 (ruleB r)) ∧ Below w.heap.size w w' := by
  obtain ⟨sr, tr, er⟩ := r
  obtain ⟨H1, H2, H3⟩ := H
  have HF2 : er.l.length ≤ er.c := HF.2.2
  clear HF
  unfold ruleB Rl.cells MR.val TR.val
  simp only at H1 H2 H3 ⊢
  have M1 : Hid (∀ X, Below w.heap.size w X → Calls Try.prog 39 #[.slice sr.A sr.l.length sr.c] X fun e w' => e = .returned (.int .i64 (checkAllB sr.l)) ∧ Below X.heap.size X w') := Lib.hid (fun X hX => rcheckall_any sr X (H1.below hX))
  have M2 : Hid (∀ X, Below w.heap.size w X → Calls Try.prog 39 #[.slice tr.A tr.l.length tr.c] X fun e w' => e = .returned (.int .i64 (checkAllB tr.l)) ∧ Below X.heap.size X w') := Lib.hid (fun X hX => rcheckall_any tr X (H2.below hX))
  have M3 : Hid (∀ X, Below w.heap.size w X → Calls Try.prog 108 #[.slice er.A er.l.length er.c] X fun e w' => e = .returned (.int .i64 (namesB er.l)) ∧ Below X.heap.size X w') := Lib.hid (fun X hX => rnames_any er X (H3.below hX) HF2)
  clear H1 H2 H3 HF2
  generalize checkAllB sr.l = E1 at *
  generalize checkAllB tr.l = E2 at *
  generalize namesB er.l = E3 at *
  generalize sr.l.length = n1 at *
  generalize tr.l.length = n2 at *
  generalize er.l.length = n3 at *
  generalize sr.A = sA at *
  generalize tr.A = tA at *
  generalize er.A = eA at *
  generalize sr.c = sc at *
  generalize tr.c = tc at *
  generalize er.c = ec at *
  obtain ⟨G, hG⟩ : ∃ G, (if E1 ≠ 0 then E1 else if E2 ≠ 0 then E2 else E3) = G := ⟨_, rfl⟩
  rw [hG]
  have HG := Lib.hid hG
  clear hG
  have K1 := Lib.hid ((Below.refl w.heap.size w).alloc (Nat.le_refl _) (.cells #[.slice sA n1 sc, .slice tA n2 tc, .slice eA n3 ec] 47))
  have BB := Lib.hid (Blk.new w 47 #[.slice sA n1 sc, .slice tA n2 tc, .slice eA n3 ec])
  have hlt : w.heap.size < (w.alloc (.cells #[.slice sA n1 sc, .slice tA n2 tc, .slice eA n3 ec] 47)).heap.size := by simp
  go_enter Try.func80, Try.ntmps80
  go_upto_region 1 with fail
  generalize w.alloc (.cells #[.slice sA n1 sc, .slice tA n2 tc, .slice eA n3 ec] 47) = w1 at *
  obtain ⟨bx, hbx⟩ : ∃ b, w.heap.size = b := ⟨_, rfl⟩
  rw [hbx] at hlt
  have BX : Hid (Blk w1 bx 47 #[.slice sA n1 sc, .slice tA n2 tc, .slice eA n3 ec]) := Lib.hid (by rw [← hbx]; exact BB.out)
  rw [hbx]
  clear hbx BB
  have HB : Hid (∀ X, Below w1.heap.size w1 X → X.cell? ⟨bx, 0, none⟩ = some (.slice sA n1 sc) ∧ X.cell? ⟨bx, 1, none⟩ = some (.slice tA n2 tc) ∧ X.cell? ⟨bx, 2, none⟩ = some (.slice eA n3 ec)) := Lib.hid (fun X hX => by
    have h := BX.out.below hX hlt
    exact ⟨h.cell 0, h.cell 1, h.cell 2⟩)
  have L1 := Lib.hid (Below.refl w1.heap.size w1)
  obtain ⟨z0, z1, z2⟩ := HB.out w1 L1.out
  by_cases e1 : E1 = 0
  · have f1' := beq_is e1
    rw [if_neg (fun h => h e1)] at HG
    go_wp2_with fail
    refine (M1.out _ (below_then K1.out K1.out.size L1.out)).mono ?_
    rintro e x2 ⟨rfl, hb⟩
    have L2 := Lib.hid (below_then L1.out L1.out.size hb)
    clear hb z0 z1 z2 e1
    obtain ⟨z0, z1, z2⟩ := HB.out _ L2.out
    by_cases e2 : E2 = 0
    · have f2' := beq_is e2
      rw [if_neg (fun h => h e2)] at HG
      go_wp2_with fail
      refine (M2.out _ (below_then K1.out K1.out.size L2.out)).mono ?_
      rintro e x3 ⟨rfl, hb⟩
      have L3 := Lib.hid (below_then L2.out L2.out.size hb)
      clear hb z0 z1 z2 e2
      obtain ⟨z0, z1, z2⟩ := HB.out _ L3.out
      obtain rfl : G = E3 := HG.out.symm
      go_wp2_with fail
      refine (M3.out _ (below_then K1.out K1.out.size L3.out)).mono ?_
      rintro e x4 ⟨rfl, hb⟩
      have L4 := Lib.hid (below_then L3.out L3.out.size hb)
      clear hb
      go_wp2
      go_ret
      exact ⟨rfl, below_then K1.out K1.out.size L4.out⟩
    · have f2' := beq_no e2
      obtain rfl : G = E2 := by rw [← HG.out, if_pos e2]
      go_wp2_with fail
      refine (M2.out _ (below_then K1.out K1.out.size L2.out)).mono ?_
      rintro e x3 ⟨rfl, hb⟩
      have L3 := Lib.hid (below_then L2.out L2.out.size hb)
      clear hb
      go_wp2
      go_ret
      exact ⟨rfl, below_then K1.out K1.out.size L3.out⟩
  · have f1' := beq_no e1
    obtain rfl : G = E1 := by rw [← HG.out, if_pos e1]
    go_wp2_with fail
    refine (M1.out _ (below_then K1.out K1.out.size L1.out)).mono ?_
    rintro e x2 ⟨rfl, hb⟩
    have L2 := Lib.hid (below_then L1.out L1.out.size hb)
    clear hb
    go_wp2
    go_ret
    exact ⟨rfl, below_then K1.out K1.out.size L2.out⟩

/-! ### tree -/
def treeB (l : List Ro) : Bool := headOk l && parsOk l
set_option maxRecDepth 100000 in
set_option maxHeartbeats 2000000 in
theorem rtree_any (A : Option Addr) (cp : Nat) (l : List Ro) (w : World) (hlen : l.length ≤ 1000) (RT0 : Reads w (fun b => b < w.heap.size) 8 A l.length (l.flatMap Ro.cells)) : Calls Try.prog 78 #[.slice A l.length cp] w fun e w' => e = .returned (.bool (treeB l)) ∧ w' = w := by
  have RT := Lib.hid RT0
  clear RT0
  obtain ⟨G, hG⟩ : ∃ G, treeB l = G := ⟨_, rfl⟩
  rw [hG]
  unfold treeB at hG
  have HG := Lib.hid hG
  clear hG
  by_cases h3 : l.length = 0
  · have j3 : ((l.length : Int) == 0) = true := beq_iff_eq.2 (by omega)
    have hl0 : l = [] := List.length_eq_zero_iff.1 h3
    obtain rfl : G = false := by rw [← HG.out, hl0]; rfl
    clear hl0 h3
    go_enter Try.func78, Try.ntmps78
    go_wp2
    go_ret
    exact ⟨rfl, rfl⟩
  have j3 : ((l.length : Int) == 0) = false := beq_eq_false_iff_ne.2 (by omega)
  obtain ⟨m, hm⟩ : ∃ m, l[0]? = some m := ⟨_, List.getElem?_eq_getElem (by omega)⟩
  obtain ⟨b, o, rfl, hb, hcell⟩ := RT.out.2 (by omega)
  have hat := ro_at hcell hm
  rw [Nat.zero_mul, Nat.add_zero] at hat
  obtain ⟨c0, c1, _⟩ := hat
  have hi0 : (0 : Int) < (l.length : Int) := by omega
  have hhead : headOk l = m.ms.l.isEmpty := by
    cases l with
    | nil => simp at h3
    | cons r0 rest => simp at hm; subst hm; rfl
  rw [hhead] at HG
  have HM0 := Lib.hid hm
  clear hhead hm hcell
  unfold MR.val at c1
  obtain ⟨n0, hn0⟩ : ∃ n, m.ms.l.length = n := ⟨_, rfl⟩
  rw [hn0] at c1
  have HN0 := Lib.hid hn0
  clear hn0 h3
  by_cases hp : m.par = -1
  · have f1 : (m.par != -1) = false := by simp [hp]
    have HP0 := Lib.hid hp
    clear hp
    by_cases h4 : 0 < n0
    · have j4 : decide ((n0 : Int) > 0) = true := by simp; omega
      have j5 : decide (0 < n0) = true := by simp; omega
      obtain rfl : G = false := by
        rw [← HG.out]
        have : m.ms.l.isEmpty = false := by
          rw [List.isEmpty_eq_false_iff]
          intro e
          have := HN0.out
          rw [e] at this
          simp at this
          omega
        rw [this]
        rfl
      generalize m.par = par at *
      generalize m.ms.A = mA at *
      generalize m.ms.c = mc at *
      go_enter Try.func78, Try.ntmps78
      go_wp2
      go_ret
      exact ⟨rfl, rfl⟩
    have j4 : decide ((n0 : Int) > 0) = false := by simp; omega
    have j5 : decide (0 < n0) = false := by simp; omega
    have HG2 : Hid (parsOk l = G) := Lib.hid (by
      have : m.ms.l = [] := List.length_eq_zero_iff.1 (by have := HN0.out; omega)
      rw [← HG.out, this]
      simp)
    clear HG h4
    have HJ0 : Hid (∀ (q : Nat) (x : Ro), q < 1 → l[q]? = some x → parOk q x.par = true) := Lib.hid (fun q x hq hx => by
      obtain rfl : q = 0 := by omega
      rw [HM0.out] at hx
      injection hx with hx
      subst hx
      simp [parOk, HP0.out])
    clear HP0 HN0 HM0
    generalize m.par = par at *
    generalize m.ms.A = mA at *
    generalize m.ms.c = mc at *
    go_enter Try.func78, Try.ntmps78
    go_wp2
    clear j3 j4 j5 f1 c0 c1
    go_loop [3] (fun i => ∃ j : Nat, i = .int .i64 (j : Int) ∧ 1 ≤ j ∧ j ≤ l.length ∧ Hid (∀ (q : Nat) (x : Ro), q < j → l[q]? = some x → parOk q x.par = true)) (fun i => l.length - (intOf i).toNat)
    case atStart => exact ⟨1, rfl, by omega, by omega, HJ0⟩
    case round =>
      obtain ⟨i, rfl, hi1, hi, HJ⟩ := hrel
      by_cases hlt2 : i < l.length
      · have hkI : (i : Int) < (l.length : Int) := by omega
        have hk0 : (0 : Int) ≤ (i : Int) := by omega
        obtain ⟨m, hm⟩ : ∃ m, l[i]? = some m := ⟨_, List.getElem?_eq_getElem hlt2⟩
        obtain ⟨b', o', e1, hb, hcell⟩ := RT.out.2 (by omega)
        injection e1 with e1
        injection e1 with e1 e2
        subst e1 e2
        obtain ⟨c0, c1, c2, c3, c4, c5, c6, c7⟩ := ro_at hcell hm
        have HM := Lib.hid hm
        clear hcell hm hb c1 c2 c3 c4 c5 c6 c7
        obtain ⟨par, hpar⟩ : ∃ p, m.par = p := ⟨_, rfl⟩
        rw [hpar] at c0
        have HPA := Lib.hid hpar
        clear hpar
        by_cases hp : par < 0
        · have f3 : decide (par < 0) = true := by simp; omega
          obtain rfl : G = false := by rw [← HG2.out]; exact parsOk_not HM.out (by rw [HPA.out]; simp [parOk, show ¬ i = 0 by omega]; omega)
          clear HM HG2 HPA
          go_wp2
          go_ret
          exact ⟨rfl, rfl⟩
        · have f3 : decide (par < 0) = false := by simp; omega
          by_cases hq : par ≥ (i : Int)
          · have f4 : decide (par ≥ (i : Int)) = true := by simp; omega
            obtain rfl : G = false := by rw [← HG2.out]; exact parsOk_not HM.out (by rw [HPA.out]; simp [parOk, show ¬ i = 0 by omega]; omega)
            clear HM HG2 HPA
            go_wp2
            go_ret
            exact ⟨rfl, rfl⟩
          · have f4 : decide (par ≥ (i : Int)) = false := by simp; omega
            go_wp2
            go_round
            case rel =>
              refine ⟨i + 1, by go_num, by omega, by omega, Lib.hid (fun q x hq hx => ?_)⟩
              by_cases hji : q = i
              · subst hji; rw [HM.out] at hx; injection hx with hx; subst hx; rw [HPA.out]; simp [parOk, show ¬ q = 0 by omega]; omega
              · exact HJ.out q x (by omega) hx
            case measure => simp [intOf]; omega
      · have hie : i = l.length := by omega
        obtain rfl : G = true := by rw [← HG2.out]; exact parsOk_all (fun q x hx => HJ.out q x (by rw [hie]; exact (List.getElem?_eq_some_iff.1 hx).1) hx)
        subst hie
        go_wp2
        go_ret
        exact ⟨rfl, rfl⟩
  · have f1 : (m.par != -1) = true := by rw [bne_iff_ne]; exact hp
    obtain rfl : G = false := by rw [← HG.out, parsOk_not HM0.out (by simp [parOk, hp])]; simp
    clear hp HG
    generalize m.par = par at *
    generalize m.ms.A = mA at *
    generalize m.ms.c = mc at *
    go_enter Try.func78, Try.ntmps78
    go_wp2
    go_ret
    exact ⟨rfl, rfl⟩
set_option maxRecDepth 100000 in
set_option maxHeartbeats 4000000 in
theorem rcheck48_any (c : Cf) (w : World) (H : c.In w) (HFT : c.Fit) : Calls Try.prog 48 #[c.val] w fun e w' => e = .returned (.int .i64 (cfB c)) ∧ Below w.heap.size w w' := by
  have K1 := Lib.hid ((Below.refl w.heap.size w).alloc (Nat.le_refl _) (.cells c.cells 70))
  have HC := Lib.hid (H.below ((Below.refl w.heap.size w).alloc (Nat.le_refl _) (.cells c.cells 70)))
  have BB := Lib.hid (Blk.new w 70 c.cells)
  have hlt : w.heap.size < (w.alloc (.cells c.cells 70)).heap.size := by simp
  obtain ⟨G, hG⟩ : ∃ G, cfB c = G := ⟨_, rfl⟩
  rw [hG]
  unfold cfB at hG
  have FO := Lib.hid HFT.ro
  have FR := Lib.hid HFT.rr
  clear HFT
  have HG := Lib.hid hG
  clear hG H
  obtain ⟨A, cp, l, B, cq, rl, pt, rs⟩ := c
  have RT := Lib.hid HC.out.rt
  have RU := Lib.hid HC.out.ru
  have RO := Lib.hid HC.out.ro
  have RR := Lib.hid HC.out.rr
  clear HC
  unfold Cf.val
  simp only [Cf.cells] at K1 BB RT RU RO RR FO FR HG hlt ⊢
  go_enter Try.func48, Try.ntmps48
  go_upto_region 1 with fail
  generalize w.alloc (.cells #[.slice A l.length cp, .slice B rl.length cq, .int .i64 pt, .int .i64 rs] 70) = w1 at *
  obtain ⟨bx, hbx⟩ : ∃ b, w.heap.size = b := ⟨_, rfl⟩
  have BX : Hid (Blk w1 bx 70 #[.slice A l.length cp, .slice B rl.length cq, .int .i64 pt, .int .i64 rs]) := Lib.hid (by rw [← hbx]; exact BB.out)
  rw [hbx] at hlt
  rw [hbx]
  clear hbx BB
  have HB : Hid (∀ X, Below w1.heap.size w1 X → X.cell? ⟨bx, 0, none⟩ = some (.slice A l.length cp) ∧ X.cell? ⟨bx, 1, none⟩ = some (.slice B rl.length cq) ∧ X.cell? ⟨bx, 2, none⟩ = some (.int .i64 pt) ∧ X.cell? ⟨bx, 3, none⟩ = some (.int .i64 rs)) := Lib.hid (fun X hX => by
    have h := BX.out.below hX hlt
    exact ⟨h.cell 0, h.cell 1, h.cell 2, h.cell 3⟩)
  have L1 := Lib.hid (Below.refl w1.heap.size w1)
  obtain ⟨z0, z1, z2, z3⟩ := HB.out w1 L1.out
  by_cases h1 : 16 < l.length
  · have j1 : decide ((l.length : Int) > 16) = true := by simp; omega
    obtain rfl : G = 5 := by rw [← HG.out, if_pos (.inl h1)]
    go_wp2
    go_ret
    exact ⟨rfl, K1.out⟩
  have j1 : decide ((l.length : Int) > 16) = false := by simp; omega
  by_cases h2 : 8 < rl.length
  · have j2 : decide ((rl.length : Int) > 8) = true := by simp; omega
    obtain rfl : G = 5 := by rw [← HG.out, if_pos (.inr h2)]
    go_wp2
    go_ret
    exact ⟨rfl, K1.out⟩
  have j2 : decide ((rl.length : Int) > 8) = false := by simp; omega
  rw [if_neg (show ¬ (16 < l.length ∨ 8 < rl.length) by omega)] at HG
  cases htr : treeB l with
  | false =>
    obtain rfl : G = 10 := by
      rw [← HG.out]
      unfold treeB at htr
      cases hh : headOk l with
      | false => rw [if_pos rfl]
      | true => rw [hh] at htr; rw [if_neg (by decide), if_pos (by simpa using htr)]
    have HT := Lib.hid (rtree_any A cp l w1 (by omega) (RT.out))
    rw [htr] at HT
    clear htr
    go_wp2_with fail
    refine HT.out.mono ?_
    rintro e w9 ⟨rfl, hw9⟩
    have hw8 := hw9.symm
    clear hw9
    subst hw8
    go_wp2
    go_ret
    exact ⟨rfl, K1.out⟩
  | true =>
    have HT := Lib.hid (rtree_any A cp l w1 (by omega) (RT.out))
    rw [htr] at HT
    have h2 : headOk l = true ∧ parsOk l = true := by unfold treeB at htr; simpa using htr
    rw [if_neg (by rw [h2.1]; decide), if_neg (by rw [h2.2]; decide)] at HG
    have K2 := L1
    clear htr h2
    go_wp2_with fail
    refine HT.out.mono ?_
    rintro e w9 ⟨rfl, hw9⟩
    have hw8 := hw9.symm
    clear hw9
    subst hw8
    go_wp2
    clear j1 j2 z0 z1 z2 z3 HT
    go_loopw [3] (fun i wr => ∃ j : Nat, i = .int .i64 (j : Int) ∧ j ≤ l.length ∧ Hid (∀ (q : Nat) (x : Ro), q < j → l[q]? = some x → routeB x = 0) ∧ Hid (Below w1.heap.size w1 wr)) (fun i _ => l.length - (intOf i).toNat)
    case atStart => exact ⟨0, rfl, by omega, Lib.hid (fun q x h => by omega), K2⟩
    case round =>
      obtain ⟨i, rfl, hi, HJ, K3⟩ := hrel
      obtain ⟨z0, z1, z2, z3⟩ := HB.out _ K3.out
      by_cases hlt2 : i < l.length
      · have hkI : (i : Int) < (l.length : Int) := by omega
        have hk0 : (0 : Int) ≤ (i : Int) := by omega
        obtain ⟨m, hm⟩ : ∃ m, l[i]? = some m := ⟨_, List.getElem?_eq_getElem hlt2⟩
        obtain ⟨b', o', e1, hb, hcell⟩ := (RT.out.below (by omega) K3.out).2 (by omega)
        subst e1
        obtain ⟨c0, c1, c2, c3, c4, c5, c6, c7⟩ := ro_at hcell hm
        have HM := Lib.hid hm
        have HO : Hid (∀ X, Below w1.heap.size w1 X → Calls Try.prog 79 #[.agg m.cells.toArray] X fun e w' => e = .returned (.int .i64 (routeB m)) ∧ Below X.heap.size X w') := Lib.hid (fun X hX => rroute_any m X ((RO.out m (List.mem_of_getElem? hm)).below hX) (FO.out m (List.mem_of_getElem? hm)))
        obtain ⟨E, hE⟩ : ∃ E, routeB m = E := ⟨_, rfl⟩
        rw [hE] at HO
        have HE := Lib.hid hE
        clear hcell hm hb hE
        obtain ⟨m', hm'⟩ : ∃ m', m = m' := ⟨_, rfl⟩
        have HMM := Lib.hid hm'
        rw [hm'] at c0 c1 c2 c3 c4 c5 c6 c7 HO
        clear hm'
        obtain ⟨par, ms, cont, bz, rc, wt, iv, rp⟩ := m'
        unfold MR.val at c1
        unfold TR.val at c3
        unfold Ro.cells MR.val TR.val at HO
        simp only at c0 c1 c2 c3 c4 c5 c6 c7 HO
        clear HMM
        generalize ms.l.length = n1 at *
        generalize bz.l.length = n2 at *
        generalize ms.A = mA at *
        generalize bz.A = bA at *
        generalize ms.c = mc at *
        generalize bz.c = bc at *
        generalize bs rc = s at *
        by_cases he : E = 0
        · have he' := bne_no he
          go_wp2_with fail
          refine (HO.out _ K3.out).mono ?_
          rintro e w3 ⟨rfl, hb⟩
          have K4 := Lib.hid (below_then K3.out K3.out.size hb)
          clear hb
          go_wp2
          go_roundw
          case rel =>
            refine ⟨i + 1, by go_num, by omega, Lib.hid (fun q x hq hx => ?_), K4⟩
            by_cases hji : q = i
            · subst hji; rw [HM.out] at hx; injection hx with hx; subst hx; rw [HE.out]; exact he
            · exact HJ.out q x (by omega) hx
          case measure => simp [intOf]; omega
        · have he' := bne_is he
          obtain rfl : G = E := by
            have h := firstE_stop routeB l i m HM.out HJ.out _ rfl (by rw [HE.out]; exact he)
            rw [HE.out] at h
            rw [← HG.out, if_pos (by rw [← h]; exact he), h]
          go_wp2_with fail
          refine (HO.out _ K3.out).mono ?_
          rintro e w3 ⟨rfl, hb⟩
          have K4 := Lib.hid (below_then K3.out K3.out.size hb)
          clear hb
          go_wp2
          go_ret
          exact ⟨rfl, below_then K1.out K1.out.size K4.out⟩
      · have hie : i = l.length := by omega
        rw [if_neg (fun h => h (firstE_zero _ _ (fun x hx => by
          obtain ⟨q, hq⟩ := List.mem_iff_getElem?.1 hx
          exact HJ.out q x (by rw [hie]; exact (List.getElem?_eq_some_iff.1 hq).1) hq)))] at HG
        subst hie
        clear HJ K2
        obtain ⟨wb, rfl⟩ : ∃ x, x = wr := ⟨wr, rfl⟩
        obtain ⟨z0, z1, z2, z3⟩ := HB.out wb K3.out
        go_wp2
        clear z1 z2 z3 z0
        go_loopw [5] (fun i wr => ∃ j : Nat, i = .int .i64 (j : Int) ∧ j ≤ rl.length ∧ Hid (∀ (q : Nat) (x : Rl), q < j → rl[q]? = some x → ruleB x = 0) ∧ Hid (Below w1.heap.size w1 wr)) (fun i _ => rl.length - (intOf i).toNat)
        case atStart => exact ⟨0, rfl, by omega, Lib.hid (fun q x h => by omega), K3⟩
        case round =>
          obtain ⟨i, rfl, hi, HJ, K4⟩ := hrel
          obtain ⟨z0, z1, z2, z3⟩ := HB.out _ K4.out
          by_cases hlt2 : i < rl.length
          · have hkI : (i : Int) < (rl.length : Int) := by omega
            have hk0 : (0 : Int) ≤ (i : Int) := by omega
            obtain ⟨m, hm⟩ : ∃ m, rl[i]? = some m := ⟨_, List.getElem?_eq_getElem hlt2⟩
            obtain ⟨b2, o2, e1, hb, hcell⟩ := (RU.out.below (by omega) K4.out).2 (by omega)
            subst e1
            obtain ⟨c0, c1, c2⟩ := rl_at hcell hm
            have HM := Lib.hid hm
            have HO : Hid (∀ X, Below w1.heap.size w1 X → Calls Try.prog 80 #[.agg m.cells.toArray] X fun e w' => e = .returned (.int .i64 (ruleB m)) ∧ Below X.heap.size X w') := Lib.hid (fun X hX => rrule_any m X ((RR.out m (List.mem_of_getElem? hm)).below hX) (FR.out m (List.mem_of_getElem? hm)))
            obtain ⟨E, hE⟩ : ∃ E, ruleB m = E := ⟨_, rfl⟩
            rw [hE] at HO
            have HE := Lib.hid hE
            clear hcell hm hb hE
            obtain ⟨m', hm'⟩ : ∃ m', m = m' := ⟨_, rfl⟩
            rw [hm'] at c0 c1 c2 HO
            clear hm'
            obtain ⟨ms, mt, me⟩ := m'
            unfold MR.val at c0 c1
            unfold TR.val at c2
            unfold Rl.cells MR.val TR.val at HO
            simp only at c0 c1 c2 HO
            generalize ms.l.length = n1 at *
            generalize mt.l.length = n2 at *
            generalize me.l.length = n3 at *
            generalize ms.A = sA at *
            generalize mt.A = tA at *
            generalize me.A = eA at *
            generalize ms.c = sc at *
            generalize mt.c = tc at *
            generalize me.c = ec at *
            by_cases he : E = 0
            · have he' := bne_no he
              go_wp2_with fail
              refine (HO.out _ K4.out).mono ?_
              rintro e w3 ⟨rfl, hb⟩
              have K5 := Lib.hid (below_then K4.out K4.out.size hb)
              clear hb
              go_wp2
              go_roundw
              case rel =>
                refine ⟨i + 1, by go_num, by omega, Lib.hid (fun q x hq hx => ?_), K5⟩
                by_cases hji : q = i
                · subst hji; rw [HM.out] at hx; injection hx with hx; subst hx; rw [HE.out]; exact he
                · exact HJ.out q x (by omega) hx
              case measure => simp [intOf]; omega
            · have he' := bne_is he
              obtain rfl : G = E := by
                have h := firstE_stop ruleB rl i m HM.out HJ.out _ rfl (by rw [HE.out]; exact he)
                rw [HE.out] at h
                rw [← HG.out, if_pos (by rw [← h]; exact he), h]
              go_wp2_with fail
              refine (HO.out _ K4.out).mono ?_
              rintro e w3 ⟨rfl, hb⟩
              have K5 := Lib.hid (below_then K4.out K4.out.size hb)
              clear hb
              go_wp2
              go_ret
              exact ⟨rfl, below_then K1.out K1.out.size K5.out⟩
          · have hie : i = rl.length := by omega
            rw [if_neg (fun h => h (firstE_zero _ _ (fun x hx => by
              obtain ⟨q, hq⟩ := List.mem_iff_getElem?.1 hx
              exact HJ.out q x (by rw [hie]; exact (List.getElem?_eq_some_iff.1 hq).1) hq)))] at HG
            subst hie
            clear HJ K3
            obtain ⟨wd, rfl⟩ : ∃ x, x = wr := ⟨wr, rfl⟩
            obtain ⟨z0, z1, z2, z3⟩ := HB.out wd K4.out
            by_cases t0 : pt < 1
            · have q0 : decide (pt < 1) = true := decide_eq_true t0
              obtain rfl : G = 13 := by
                rw [← HG.out, if_neg]
                simp only [withinB, Bool.and_eq_true, decide_eq_true_eq]
                omega
              clear t0
              go_wp2
              go_ret
              exact ⟨rfl, below_then K1.out K1.out.size K4.out⟩
            · have q0 : decide (pt < 1) = false := decide_eq_false t0
              have u0 : 1 ≤ pt := by omega
              clear t0
              by_cases t1 : rs < 1
              · have q1 : decide (rs < 1) = true := decide_eq_true t1
                obtain rfl : G = 13 := by
                  rw [← HG.out, if_neg]
                  simp only [withinB, Bool.and_eq_true, decide_eq_true_eq]
                  omega
                clear t1
                go_wp2
                go_ret
                exact ⟨rfl, below_then K1.out K1.out.size K4.out⟩
              · have q1 : decide (rs < 1) = false := decide_eq_false t1
                have u1 : 1 ≤ rs := by omega
                clear t1
                by_cases t2 : 1099511627776 < pt
                · have q2 : decide (pt > 1099511627776) = true := decide_eq_true t2
                  obtain rfl : G = 13 := by
                    rw [← HG.out, if_neg]
                    simp only [withinB, Bool.and_eq_true, decide_eq_true_eq]
                    omega
                  clear t2
                  go_wp2
                  go_ret
                  exact ⟨rfl, below_then K1.out K1.out.size K4.out⟩
                · have q2 : decide (pt > 1099511627776) = false := decide_eq_false t2
                  have u2 : pt ≤ 1099511627776 := by omega
                  clear t2
                  by_cases t3 : 1099511627776 < rs
                  · have q3 : decide (rs > 1099511627776) = true := decide_eq_true t3
                    obtain rfl : G = 13 := by
                      rw [← HG.out, if_neg]
                      simp only [withinB, Bool.and_eq_true, decide_eq_true_eq]
                      omega
                    clear t3
                    go_wp2
                    go_ret
                    exact ⟨rfl, below_then K1.out K1.out.size K4.out⟩
                  · have q3 : decide (rs > 1099511627776) = false := decide_eq_false t3
                    have u3 : rs ≤ 1099511627776 := by omega
                    clear t3
                    obtain rfl : G = 0 := by
                      rw [← HG.out, if_pos]
                      simp only [withinB, Bool.and_eq_true, decide_eq_true_eq]
                      omega
                    clear u0 u1 u2 u3
                    go_wp2
                    go_ret
                    exact ⟨rfl, below_then K1.out K1.out.size K4.out⟩
end Go.Proofs.Ytnidjfmbbfoheaa
