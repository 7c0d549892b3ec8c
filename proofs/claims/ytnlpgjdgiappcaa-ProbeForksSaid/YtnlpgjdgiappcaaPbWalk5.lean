/- WALK: probe's late. -/
import Derived.Test.YtnlpgjdgiappcaaPbWalk4
namespace Go.Proofs.Ytnlpgjdgiappcaa
set_option linter.unusedVariables false
set_option linter.unusedSimpArgs false
set_option linter.unusedSectionVars false
open Go.RowKit

/-- What late hands back. -/
structure LateEnd (w : World) (g gt : Nat) (me : Int) (R : Pl.Pb × Pl.Tab × List Pl.Ou × List Pl.M) (e : Ending) (w' : World) : Prop where
  ret : ∃ vo vn om, e = .returned (.tuple #[vo, vn]) ∧ w'.ownsRow w.heap.size 69 7 vo R.2.2.1.length (outs R.2.2.1) ∧ R.2.2.2 = om.toList ∧ OneM w' w.heap.size vn om
  gr : Grow2 w w' g gt
  p : IsPb w' g R.1
  t : IsT w' gt me R.2.1
theorem late_nil {w w' : World} {g gt : Nat} {me : Int} {q : Pl.Pb} {F : Pl.Tab} (hg : Grow2 w w' g gt) (hp : IsPb w' g q) (ht : IsT w' gt me F) : LateEnd w g gt me (q, F, [], []) (.returned (.tuple #[.slice none 0 0, .slice none 0 0])) w' :=
  ⟨⟨_, _, none, rfl, by simpa [outs] using own_nil w' w.heap.size 69 7, rfl, rfl⟩, hg, hp, ht⟩

def helpO (p : Pl.Pb) (d : Option Int) : List Pl.Ou := match d with | some n => [⟨n, 2, p.me, p.nd, p.seq⟩] | none => []
theorem own_one {w : World} {base : Nat} {e : TypeId} {size : Nat} {cs : Array Value} (hb : base ≤ w.heap.size) (hs : cs.size = size) : (w.alloc (.cells cs e)).ownsRow base e size (.slice (some ⟨w.heap.size, 0, none⟩) 1 1) 1 cs.toList :=
  ⟨by rw [Array.length_toList, hs, Nat.one_mul], .inr ⟨_, 1, cs, rfl, hb, heap_alloc_new w _, Nat.le_refl _, by unfold maxLen; omega, by omega, by rw [Nat.one_mul, ← hs, List.take_of_length_le (by simp)]⟩⟩
theorem OneM.keep {w w' : World} {base base' : Nat} {v : Value} {o : Option Pl.M} (h : OneM w base v o) (hb : base' ≤ base) (hk : ∀ b, base ≤ b → b < w.heap.size → w'.heap[b]? = w.heap[b]?) : OneM w' base' v o := by
  cases o with
  | none => exact h
  | some m =>
    obtain ⟨b, e, h1, h2⟩ := h
    exact ⟨b, e, by omega, (hk b h1 h2.lt).trans h2⟩
theorem getVal_eqp (o : Option Pl.M) : ∃ b, getVal o = .tuple #[.agg (mcells (o.getD ⟨0, 0, 0⟩)), .bool b] := by
  cases o with
  | none => exact ⟨false, rfl⟩
  | some m => exact ⟨true, rfl⟩

section
variable (g gt : Nat) (p : Pl.Pb) (f : Pl.Tab) (now draw : Int) (w : World) (H : IsPb w g p) (hT : IsT w gt p.me f) (hp : Pl.PbOk p) (hf : Pl.TOk p.me f) (h0 : 0 ≤ now) (h1 : now ≤ 1099511627776) (d0 : 0 ≤ draw) (d1 : draw ≤ 4294967295)
include H hT hp hf h0 h1

set_option maxRecDepth 100000 in
set_option maxHeartbeats 2000000 in
theorem late_closed (hop : p.op = false) :
    Calls Try.prog 53 #[.pointer (some ⟨g, 0, none⟩), .int .i64 now, .int .u32 draw, .pointer (some ⟨gt, 0, none⟩)] w (LateEnd w g gt p.me (p, f, [], [])) := by
  have hlt := H.lt
  have c8 := H.head 8 (by omega)
  have c5 := H.head 5 (by omega)
  simp only [phead, List.getElem?_cons_zero, List.getElem?_cons_succ] at c8 c5
  rw [hop] at c5
  have b0 := hp.at0
  have b1 := hp.at1
  have PP := Lib.hid H
  have TT := Lib.hid hT
  clear H hT hp hf hop
  go_enter Try.func53, Try.ntmps53
  go_wp2
  go_ret2
  exact late_nil (.refl w g gt) PP.out TT.out

set_option maxRecDepth 100000 in
set_option maxHeartbeats 2000000 in
theorem late_gone (hop : p.op = true) (hper : p.per ≤ now - p.at_) (hnd : f p.nd.toNat = none) :
    Calls Try.prog 53 #[.pointer (some ⟨g, 0, none⟩), .int .i64 now, .int .u32 draw, .pointer (some ⟨gt, 0, none⟩)] w (LateEnd w g gt p.me ({ p with op := false }, f, [], [])) := by
  have hlt := H.lt
  have hne := H.ne_ hT (by decide)
  obtain ⟨k, hk⟩ : ∃ k : Nat, p.nd = (k : Int) := ⟨p.nd.toNat, by have := hp.nd0; omega⟩
  have hk64 : k < 64 := by have := hp.nd1; omega
  rw [hk, Int.toNat_natCast] at hnd
  have c8 := H.head 8 (by omega)
  have c5 := H.head 5 (by omega)
  have c1 := H.head 1 (by omega)
  have c7 := H.head 7 (by omega)
  simp only [phead, List.getElem?_cons_zero, List.getElem?_cons_succ] at c8 c5 c1 c7
  rw [hop] at c5
  rw [hk] at c7
  have hfz := H.frozen
  have b0 := hp.at0
  have b1 := hp.at1
  have b2 := hp.per0
  have b3 := hp.per1
  have PP := Lib.hid H
  have TT := Lib.hid hT
  have HN := Lib.hid hne
  have HND := Lib.hid hnd
  clear H hT hp hf hop hk hne hnd
  go_enter Try.func53, Try.ntmps53
  go_wp2_with fail
  refine (get_near gt p.me f k (f k) _ (TT.out.far (p := ⟨g, 5, none⟩) HN.out _) hk64 rfl).mono ?_
  rw [HND.out]
  rintro e w1 ⟨rfl, hb⟩
  have P1 := Lib.hid ((PP.out.set_op false).below hb (PP.out.set_op false).lt)
  have T1 := Lib.hid ((TT.out.far (p := ⟨g, 5, none⟩) HN.out (.bool false)).below hb (TT.out.far (p := ⟨g, 5, none⟩) HN.out (.bool false)).lt)
  have G1 := Lib.hid (((Grow2.refl w g gt).setCell (p := ⟨g, 5, none⟩) (.inl rfl) (.bool false)).then_ hb)
  clear hb
  simp only [getVal, mcells, mzero]
  go_wp2
  go_ret2
  exact late_nil (G1.out.alloc _) (P1.out.alloc _) (T1.out.alloc _)

set_option maxRecDepth 100000 in
set_option maxHeartbeats 4000000 in
theorem late_due (hop : p.op = true) (hper : p.per ≤ now - p.at_) (m : Pl.M) (hnd : f p.nd.toNat = some m) :
    Calls Try.prog 53 #[.pointer (some ⟨g, 0, none⟩), .int .i64 now, .int .u32 draw, .pointer (some ⟨gt, 0, none⟩)] w
      (LateEnd w g gt p.me (Pl.watch { p with op := false } (((Pl.heard p.me f ⟨m.n, 1, m.i⟩) p.nd.toNat).getD ⟨0, 0, 0⟩) now, Pl.heard p.me f ⟨m.n, 1, m.i⟩, [], (Pl.hear p.me f ⟨m.n, 1, m.i⟩).toList)) := by
  have hlt := H.lt
  have hne := H.ne_ hT (by decide)
  obtain ⟨k, hk⟩ : ∃ k : Nat, p.nd = (k : Int) := ⟨p.nd.toNat, by have := hp.nd0; omega⟩
  have hk64 : k < 64 := by have := hp.nd1; omega
  have ek : p.nd.toNat = k := by omega
  rw [ek] at hnd ⊢
  clear ek
  have hm1 := Pl.mok_at hf hnd 1 (by omega)
  have hf2 := Pl.heard_ok hf hm1
  have hm2 : Pl.MOk ((Pl.heard p.me f ⟨m.n, 1, m.i⟩ k).getD ⟨0, 0, 0⟩) := by
    cases hx : Pl.heard p.me f ⟨m.n, 1, m.i⟩ k with
    | none => exact ⟨by decide, by decide, by decide, by decide, by decide, by decide⟩
    | some x =>
      obtain ⟨q1, q2, q3, q4, q5, q6⟩ := hf2.at_ k x hx
      exact ⟨by simp only [Option.getD]; omega, by simp only [Option.getD]; omega, by simp only [Option.getD]; omega, by simp only [Option.getD]; omega, by simp only [Option.getD]; omega, by simp only [Option.getD]; omega⟩
  have c8 := H.head 8 (by omega)
  have c5 := H.head 5 (by omega)
  have c1 := H.head 1 (by omega)
  have c7 := H.head 7 (by omega)
  simp only [phead, List.getElem?_cons_zero, List.getElem?_cons_succ] at c8 c5 c1 c7
  rw [hop] at c5
  rw [hk] at c7
  have hfz := H.frozen
  have b0 := hp.at0
  have b1 := hp.at1
  have b2 := hp.per0
  have b3 := hp.per1
  have PP := Lib.hid H
  have TT := Lib.hid hT
  have HN := Lib.hid hne
  have HND := Lib.hid hnd
  have HM1 := Lib.hid hm1
  have HM2 := Lib.hid hm2
  have HKK := Lib.hid hk
  clear H hT hp hf hop hk hne hnd hm1 hm2 hf2
  go_enter Try.func53, Try.ntmps53
  go_wp2_with fail
  refine (get_near gt p.me f k (f k) _ (TT.out.far (p := ⟨g, 5, none⟩) HN.out _) hk64 rfl).mono ?_
  rw [HND.out]
  rintro e w1 ⟨rfl, hb⟩
  have P1 := Lib.hid ((PP.out.set_op false).below hb (PP.out.set_op false).lt)
  have T1 := Lib.hid ((TT.out.far (p := ⟨g, 5, none⟩) HN.out (.bool false)).below hb (TT.out.far (p := ⟨g, 5, none⟩) HN.out (.bool false)).lt)
  have G1 := Lib.hid (((Grow2.refl w g gt).setCell (p := ⟨g, 5, none⟩) (.inl rfl) (.bool false)).then_ hb)
  clear hb c8 c5 c1 c7 hfz
  simp only [getVal, mcells]
  go_wp2_with fail
  refine (says_any gt p.me f m 1 _ (T1.out.alloc _) HM1.out).mono ?_
  rintro e w2 ⟨v, rfl, hO, hg2, hT2⟩
  have B2 := Lib.hid ((Blk.new w1 25 #[.int .u16 m.n, .int .u8 m.s, .int .i64 m.i]).grown hg2 (fun e => by injection e with e; have := T1.out.lt; omega))
  have P2 := Lib.hid ((P1.out.alloc (.cells #[.int .u16 m.n, .int .u8 m.s, .int .i64 m.i] 25)).grown hg2 (fun e => HN.out (by injection e)))
  have G2 := Lib.hid ((G1.out.alloc (.cells #[.int .u16 m.n, .int .u8 m.s, .int .i64 m.i] 25)).trans (.snd hg2))
  have OO := Lib.hid hO
  have T2 := Lib.hid hT2
  have hs2 := hg2.size
  have hsw1 : w.heap.size ≤ w1.heap.size := G1.out.size
  have hsw : w.heap.size ≤ (w1.alloc (.cells #[.int .u16 m.n, .int .u8 m.s, .int .i64 m.i] 25)).heap.size := (G1.out.alloc _).size
  have hgl2 := P2.out.lt
  have hw1g : g < w1.heap.size := P1.out.lt
  have hw1t : gt < w1.heap.size := T1.out.lt
  have e7 := P2.out.head 7 (by omega)
  simp only [phead, List.getElem?_cons_zero, List.getElem?_cons_succ] at e7
  rw [HKK.out] at e7
  have q0 := B2.out.cell 0
  have q1 := B2.out.cell 1
  have q2 := B2.out.cell 2
  have qf := B2.out.frozen
  simp only [List.getElem?_toArray, List.getElem?_cons_zero, List.getElem?_cons_succ] at q0 q1 q2
  have hbl := B2.out.lt
  simp at hs2 hsw
  clear hO hg2 hT2
  go_wp2_with fail
  refine (get_near gt p.me (Pl.heard p.me f ⟨m.n, 1, m.i⟩) k _ _ T2.out hk64 rfl).mono ?_
  rintro e w3 ⟨rfl, hb⟩
  have B3 := Lib.hid (B2.out.below hb B2.out.lt)
  have P3 := Lib.hid (P2.out.below hb P2.out.lt)
  have T3 := Lib.hid (T2.out.below hb T2.out.lt)
  have G3 := Lib.hid (G2.out.then_ hb)
  have HB := Lib.hid hb
  clear e7 q0 q1 q2 qf
  have q0 := B3.out.cell 0
  have q1 := B3.out.cell 1
  have q2 := B3.out.cell 2
  have qf := B3.out.frozen
  simp only [List.getElem?_toArray, List.getElem?_cons_zero, List.getElem?_cons_succ] at q0 q1 q2
  have hbl3 := B3.out.lt
  have hs3 := hb.size
  clear hb
  obtain ⟨bb, hbb⟩ := getVal_eqp (Pl.heard p.me f ⟨m.n, 1, m.i⟩ k)
  rw [hbb]
  generalize hx : (Pl.heard p.me f ⟨m.n, 1, m.i⟩ k).getD ⟨0, 0, 0⟩ = x at *
  have HX := Lib.hid hx
  clear hx hbb
  simp only [mcells]
  go_wp2_with fail
  have n1 : g ≠ w1.heap.size := by omega
  refine (watch_any g { p with op := false } x now _ (((P3.out.far (a := ⟨w1.heap.size, 0, none⟩) (fun e => n1 e.symm) _).far (a := ⟨w1.heap.size, 1, none⟩) (fun e => n1 e.symm) _).far (a := ⟨w1.heap.size, 2, none⟩) (fun e => n1 e.symm) _) HM2.out).mono ?_
  rintro e w4 ⟨rfl, hg4, hP4⟩
  have T4 := Lib.hid ((((T3.out.far (p := ⟨w1.heap.size, 0, none⟩) (fun e => by simp only at e; omega) _).far (p := ⟨w1.heap.size, 1, none⟩) (fun e => by simp only at e; omega) _).far (p := ⟨w1.heap.size, 2, none⟩) (fun e => by simp only at e; omega) _).grown hg4 (fun e => HN.out (by injection e with e; exact e.symm)))
  have G4 := Lib.hid ((((G3.out.setCell (p := ⟨w1.heap.size, 0, none⟩) (.inr (.inr (by simp only; omega))) _).setCell (p := ⟨w1.heap.size, 1, none⟩) (.inr (.inr (by simp only; omega))) _).setCell (p := ⟨w1.heap.size, 2, none⟩) (.inr (.inr (by simp only; omega))) _).trans (.fst hg4))
  have O4 := Lib.hid (OO.out.keep (w' := w4) (base' := w.heap.size) (by simp; omega) (fun b hb hb2 => by
    simp at hb
    rw [hg4.block b (by simp [World.setCell]; omega) (fun e => by injection e with e; omega)]
    rw [Below.heap_setCell _ _ _ b (by simp only; omega), Below.heap_setCell _ _ _ b (by simp only; omega), Below.heap_setCell _ _ _ b (by simp only; omega)]
    exact HB.out.block b hb2))
  have P4 := Lib.hid hP4
  clear hg4 hP4
  go_wp2
  go_ret2
  exact ⟨⟨_, _, _, rfl, by simpa [outs] using own_nil w4 w.heap.size 69 7, rfl, O4.out⟩, G4.out, P4.out, T4.out⟩

include d0 d1 in
set_option maxRecDepth 100000 in
set_option maxHeartbeats 4000000 in
theorem late_help (hop : p.op = true) (hper : now - p.at_ < p.per) (htmo : p.tmo ≤ now - p.at_) (hh : p.hlp = false) :
    Calls Try.prog 53 #[.pointer (some ⟨g, 0, none⟩), .int .i64 now, .int .u32 draw, .pointer (some ⟨gt, 0, none⟩)] w
      (LateEnd w g gt p.me ({ p with hlp := true }, f, helpO p (Pl.drawn (Pl.othersP p f p.nd) draw), [])) := by
  have hlt := H.lt
  have hne := H.ne_ hT (by decide)
  have c8 := H.head 8 (by omega)
  have c5 := H.head 5 (by omega)
  have c1 := H.head 1 (by omega)
  have c2 := H.head 2 (by omega)
  have c6 := H.head 6 (by omega)
  have c7 := H.head 7 (by omega)
  simp only [phead, List.getElem?_cons_zero, List.getElem?_cons_succ] at c8 c5 c1 c7 c2 c6
  rw [hop] at c5
  rw [hh] at c6
  have hfz := H.frozen
  have b0 := hp.at0
  have b1 := hp.at1
  have b2 := hp.per0
  have b3 := hp.per1
  have b4 := hp.tmo0
  have b5 := hp.tmo1
  have PP := Lib.hid (H.set_hlp true)
  have TT := Lib.hid (hT.far (p := ⟨g, 6, none⟩) hne (.bool true))
  have HN := Lib.hid hne
  have hol := Pl.others_len p f p.nd
  have eo : Pl.othersP { p with hlp := true } f p.nd = Pl.othersP p f p.nd := rfl
  have EO := Lib.hid eo
  clear H hT hp hf hop hne hh eo
  go_enter Try.func53, Try.ntmps53
  go_wp2_with fail
  refine (others_any g gt p.me f { p with hlp := true } p.nd _ PP.out TT.out).mono ?_
  rw [EO.out]
  rintro e w1 ⟨A, c, rfl, hR, hb⟩
  have P1 := Lib.hid (PP.out.below hb PP.out.lt)
  have T1 := Lib.hid (TT.out.below hb TT.out.lt)
  have G1 := Lib.hid (((Grow2.refl w g gt).setCell (p := ⟨g, 6, none⟩) (.inl rfl) (.bool true)).then_ hb)
  have RR := Lib.hid hR
  clear hb hR c8 c5 c1 c2 c6 c7 hfz
  cases hd : Pl.drawn (Pl.othersP p f p.nd) draw with
  | none =>
    have hlen : (Pl.othersP p f p.nd).length = 0 := by
      rcases Nat.eq_zero_or_pos (Pl.othersP p f p.nd).length with h | h
      · exact h
      · obtain ⟨n, hn, _⟩ := Pl.drawn_some (l := Pl.othersP p f p.nd) (by intro e; rw [e] at h; simp at h) d0
        rw [hn] at hd
        cases hd
    rw [hlen]
    have HD := Lib.hid hd
    clear hlen hd hol
    go_wp2_with fail
    refine (drawn_nil A c draw _).mono ?_
    rintro e w2 ⟨rfl, hb⟩
    have P2 := Lib.hid (P1.out.below hb P1.out.lt)
    have T2 := Lib.hid (T1.out.below hb T1.out.lt)
    have G2 := Lib.hid (G1.out.then_ hb)
    clear hb
    simp only [drawnVal]
    go_wp2
    go_ret2
    rw [HD.out]
    exact late_nil G2.out P2.out T2.out
  | some n =>
    have HD := Lib.hid hd
    clear hd
    go_wp2_with fail
    refine (drawn_some A c (Pl.othersP p f p.nd) draw n _ _ RR.out d0 d1 HD.out hol).mono ?_
    rintro e w2 ⟨rfl, hb⟩
    have P2 := Lib.hid (P1.out.below hb P1.out.lt)
    have T2 := Lib.hid (T1.out.below hb T1.out.lt)
    have G2 := Lib.hid (G1.out.then_ hb)
    have e7 := P2.out.head 7 (by omega)
    simp only [phead, List.getElem?_cons_zero, List.getElem?_cons_succ] at e7
    clear hb hol
    simp only [drawnVal]
    go_wp2_with fail
    refine (packet_any g { p with hlp := true } 2 p.nd _ P2.out).mono ?_
    rintro e w3 ⟨rfl, hb⟩
    have P3 := Lib.hid (P2.out.below hb P2.out.lt)
    have T3 := Lib.hid (T2.out.below hb T2.out.lt)
    have G3 := Lib.hid (G2.out.then_ hb)
    clear hb e7
    simp only [pkt]
    go_wp2
    go_ret2
    rw [HD.out]
    have hO := own_one (w := w3) (e := 69) (size := 7) (base := w.heap.size) (cs := (oc ⟨n, 2, p.me, p.nd, p.seq⟩).toArray) G3.out.size rfl
    exact ⟨⟨_, _, none, rfl, hO, rfl, rfl⟩, G3.out.alloc _, P3.out.alloc _, T3.out.alloc _⟩

set_option maxRecDepth 100000 in
set_option maxHeartbeats 2000000 in
theorem late_wait (hop : p.op = true) (hper : now - p.at_ < p.per) (hx : now - p.at_ < p.tmo ∨ p.hlp = true) :
    Calls Try.prog 53 #[.pointer (some ⟨g, 0, none⟩), .int .i64 now, .int .u32 draw, .pointer (some ⟨gt, 0, none⟩)] w (LateEnd w g gt p.me (p, f, [], [])) := by
  have hlt := H.lt
  have c8 := H.head 8 (by omega)
  have c5 := H.head 5 (by omega)
  have c1 := H.head 1 (by omega)
  have c2 := H.head 2 (by omega)
  have c6 := H.head 6 (by omega)
  simp only [phead, List.getElem?_cons_zero, List.getElem?_cons_succ] at c8 c5 c1 c2 c6
  rw [hop] at c5
  have b0 := hp.at0
  have b1 := hp.at1
  have b2 := hp.per0
  have b3 := hp.per1
  have b4 := hp.tmo0
  have b5 := hp.tmo1
  have PP := Lib.hid H
  have TT := Lib.hid hT
  clear H hT hp hf hop
  by_cases ht : now - p.at_ < p.tmo
  · clear hx
    go_enter Try.func53, Try.ntmps53
    go_wp2
    go_ret2
    exact late_nil (.refl w g gt) PP.out TT.out
  · have hh : p.hlp = true := hx.resolve_left ht
    rw [hh] at c6
    clear hx hh
    go_enter Try.func53, Try.ntmps53
    go_wp2
    go_ret2
    exact late_nil (.refl w g gt) PP.out TT.out

include d0 d1 in
theorem late_any :
    Calls Try.prog 53 #[.pointer (some ⟨g, 0, none⟩), .int .i64 now, .int .u32 draw, .pointer (some ⟨gt, 0, none⟩)] w (LateEnd w g gt p.me (Pl.late now draw p f)) := by
  unfold Pl.late
  by_cases hno : p.op = false
  · rw [if_pos hno]; exact late_closed g gt p f now draw w H hT hp hf h0 h1 hno
  · rw [if_neg hno]
    have hop : p.op = true := by simpa using hno
    by_cases h2 : p.per ≤ now - p.at_
    · rw [if_pos h2]
      cases hnd : f p.nd.toNat with
      | none => exact late_gone g gt p f now draw w H hT hp hf h0 h1 hop h2 hnd
      | some m => exact late_due g gt p f now draw w H hT hp hf h0 h1 hop h2 m hnd
    · rw [if_neg h2]
      by_cases h3 : p.tmo ≤ now - p.at_ ∧ p.hlp = false
      · rw [if_pos h3]
        have := late_help g gt p f now draw w H hT hp hf h0 h1 d0 d1 hop (by omega) h3.1 h3.2
        cases hd : Pl.drawn (Pl.othersP p f p.nd) draw with
        | none => rw [hd] at this; exact this
        | some n => rw [hd] at this; exact this
      · rw [if_neg h3]
        exact late_wait g gt p f now draw w H hT hp hf h0 h1 hop (by omega) (by
          by_cases h : now - p.at_ < p.tmo
          · exact .inl h
          · refine .inr ?_
            cases hh : p.hlp with
            | true => rfl
            | false => exact absurd ⟨by omega, hh⟩ h3)
end
end Go.Proofs.Ytnlpgjdgiappcaa
