/- WALK: probe's Tick. -/
import Derived.Test.YtnlpgjdgiappcaaPbWalk5
namespace Go.Proofs.Ytnlpgjdgiappcaa
set_option linter.unusedVariables false
set_option linter.unusedSimpArgs false
set_option linter.unusedSectionVars false
open Go.RowKit

theorem out_info : (Try.prog.info? 69).map (fun i => (i.zero, i.size, i.bytes)) = some (some (.agg #[.int .u16 0, .int .u8 0, .int .u16 0, .int .u16 0, .int .i64 0, .slice none 0 0, .slice none 0 0]), 7, 72) := by kernel_rfl
theorem own_own_ne {w : World} {b1 b2 n1 n2 s1 s2 : Nat} {e1 e2 : TypeId} {v1 v2 : Value} {x1 x2 : List Value} (h1 : w.ownsRow b1 e1 s1 v1 n1 x1) (h2 : w.ownsRow b2 e2 s2 v2 n2 x2) (hne : e1 ≠ e2) : ∀ k, v1.ownBlock = some k → v2.ownBlock ≠ some k := by
  intro k hk hk2
  rcases h1.2 with ⟨rfl, _⟩ | ⟨g1, c1, cur1, rfl, _, q1, _⟩
  · simp [Value.ownBlock] at hk
  · rcases h2.2 with ⟨rfl, _⟩ | ⟨g2, c2, cur2, rfl, _, q2, _⟩
    · simp [Value.ownBlock] at hk2
    · simp [Value.ownBlock] at hk hk2
      subst hk hk2
      rw [q1] at q2
      injection q2 with q2
      injection q2 with _ q2
      exact hne q2

theorem own_mono {w : World} {base base' n : Nat} {e : TypeId} {size : Nat} {v : Value} {xs : List Value} (h : w.ownsRow base e size v n xs) (hb : base' ≤ base) : w.ownsRow base' e size v n xs := by
  refine ⟨h.1, ?_⟩
  rcases h.2 with h2 | ⟨g, cap, cur, h1, h2, h3⟩
  · exact .inl h2
  · exact .inr ⟨g, cap, cur, h1, by omega, h3⟩
/-- What Tick hands back. -/
structure TickEnd (w : World) (g gt : Nat) (me : Int) (R : Pl.Pb × Pl.Tab × List Pl.Ou × List Pl.M) (e : Ending) (w' : World) : Prop where
  ret : ∃ vo vn, e = .returned (.tuple #[vo, vn]) ∧ w'.ownsRow w.heap.size 69 7 vo R.2.2.1.length (outs R.2.2.1) ∧ w'.ownsRow w.heap.size 25 3 vn R.2.2.2.length (rows R.2.2.2)
  gr : Grow2 w w' g gt
  p : IsPb w' g R.1
  t : IsT w' gt me R.2.1

theorem ptick_no (g gt : Nat) (p : Pl.Pb) (f : Pl.Tab) (now draw : Int) (w : World) (H : IsPb w g p) (hT : IsT w gt p.me f) (hm : Pl.may now 0 = false) :
    Calls Try.prog 34 #[.pointer (some ⟨g, 0, none⟩), .int .i64 now, .int .u32 draw, .pointer (some ⟨gt, 0, none⟩)] w (TickEnd w g gt p.me (Pl.tick now draw p f)) := by
  have e : Pl.tick now draw p f = (p, f, [], []) := by unfold Pl.tick; rw [if_neg (by rw [hm]; decide)]
  rw [e]
  have PP := Lib.hid H
  have TT := Lib.hid hT
  have HM := Lib.hid hm
  clear H hT hm e
  go_enter Try.func34, Try.ntmps34
  go_wp2_with fail
  refine (pmay_any now 0 _).mono ?_
  rw [HM.out]
  rintro e w1 ⟨rfl, hb⟩
  have P1 := Lib.hid (PP.out.below hb PP.out.lt)
  have T1 := Lib.hid (TT.out.below hb TT.out.lt)
  have G1 := Lib.hid ((Grow2.refl w g gt).then_ hb)
  clear hb
  go_wp2
  go_ret2
  exact ⟨⟨_, _, rfl, by simpa [outs] using own_nil w1 w.heap.size 69 7, by simpa [rows] using own_nil w1 w.heap.size 25 3⟩, G1.out, P1.out, T1.out⟩

set_option maxRecDepth 100000 in
set_option maxHeartbeats 4000000 in
theorem ptick_yes (g gt : Nat) (p : Pl.Pb) (f : Pl.Tab) (now draw : Int) (w : World) (H : IsPb w g p) (hT : IsT w gt p.me f) (hp : Pl.PbOk p) (hf : Pl.TOk p.me f) (d0 : 0 ≤ draw) (d1 : draw ≤ 4294967295) (s0 : 0 ≤ p.seq) (s1 : p.seq ≤ 4611686018427387904) (hm : Pl.may now 0 = true) :
    Calls Try.prog 34 #[.pointer (some ⟨g, 0, none⟩), .int .i64 now, .int .u32 draw, .pointer (some ⟨gt, 0, none⟩)] w (TickEnd w g gt p.me (Pl.tick now draw p f)) := by
  have hn := hm
  simp [Pl.may] at hn
  obtain ⟨h0, h1⟩ := hn
  have hgl := H.lt
  have hgtl := hT.lt
  have i1 := Pl.buryN_inv (now := now) hp hf 64
  rw [← Pl.bury_eq] at i1
  have et : Pl.tick now draw p f =
      (if (Pl.late now draw (Pl.bury now p f).1 (Pl.bury now p f).2.1).1.op = true ∨ now < (Pl.late now draw (Pl.bury now p f).1 (Pl.bury now p f).2.1).1.nxt then
        ((Pl.late now draw (Pl.bury now p f).1 (Pl.bury now p f).2.1).1, (Pl.late now draw (Pl.bury now p f).1 (Pl.bury now p f).2.1).2.1, (Pl.late now draw (Pl.bury now p f).1 (Pl.bury now p f).2.1).2.2.1, (Pl.bury now p f).2.2 ++ (Pl.late now draw (Pl.bury now p f).1 (Pl.bury now p f).2.1).2.2.2)
      else match Pl.drawn (Pl.othersP (Pl.late now draw (Pl.bury now p f).1 (Pl.bury now p f).2.1).1 (Pl.late now draw (Pl.bury now p f).1 (Pl.bury now p f).2.1).2.1 (Pl.late now draw (Pl.bury now p f).1 (Pl.bury now p f).2.1).1.me) draw with
        | some n => ({ (Pl.late now draw (Pl.bury now p f).1 (Pl.bury now p f).2.1).1 with seq := (Pl.late now draw (Pl.bury now p f).1 (Pl.bury now p f).2.1).1.seq + 1, op := true, hlp := false, nd := n, at_ := now, nxt := now + (Pl.late now draw (Pl.bury now p f).1 (Pl.bury now p f).2.1).1.per }, (Pl.late now draw (Pl.bury now p f).1 (Pl.bury now p f).2.1).2.1, (Pl.late now draw (Pl.bury now p f).1 (Pl.bury now p f).2.1).2.2.1 ++ [⟨n, 0, (Pl.late now draw (Pl.bury now p f).1 (Pl.bury now p f).2.1).1.me, n, (Pl.late now draw (Pl.bury now p f).1 (Pl.bury now p f).2.1).1.seq + 1⟩], (Pl.bury now p f).2.2 ++ (Pl.late now draw (Pl.bury now p f).1 (Pl.bury now p f).2.1).2.2.2)
        | none => ((Pl.late now draw (Pl.bury now p f).1 (Pl.bury now p f).2.1).1, (Pl.late now draw (Pl.bury now p f).1 (Pl.bury now p f).2.1).2.1, (Pl.late now draw (Pl.bury now p f).1 (Pl.bury now p f).2.1).2.2.1, (Pl.bury now p f).2.2 ++ (Pl.late now draw (Pl.bury now p f).1 (Pl.bury now p f).2.1).2.2.2)) := by
    unfold Pl.tick
    rw [if_pos hm]
    rfl
  obtain ⟨T, hTe⟩ : ∃ T, Pl.tick now draw p f = T := ⟨_, rfl⟩
  rw [hTe] at et ⊢
  have PP := Lib.hid H
  have TT := Lib.hid hT
  have HM := Lib.hid hm
  have HP := Lib.hid hp
  have HF := Lib.hid hf
  have ET := Lib.hid et
  clear H hT hm hp hf et hTe
  go_enter Try.func34, Try.ntmps34
  go_wp2_with fail
  refine (pmay_any now 0 _).mono ?_
  rw [HM.out]
  rintro e w1 ⟨rfl, hb⟩
  have P1 := Lib.hid (PP.out.below hb PP.out.lt)
  have T1 := Lib.hid (TT.out.below hb TT.out.lt)
  have G1 := Lib.hid ((Grow2.refl w g gt).then_ hb)
  clear hb
  go_wp2_with fail
  refine (bury_any g gt p f now _ P1.out T1.out HP.out HF.out h0 h1).mono ?_
  rintro e w2 ⟨vb, rfl, hO, hg2, hP2, hT2⟩
  generalize hB : Pl.bury now p f = B at *
  obtain ⟨p1, f1, nw⟩ := B
  simp only at hO hP2 hT2 i1
  obtain ⟨i1, i2, i3, i4⟩ := i1
  have eme := i3.me
  have G2 := Lib.hid (G1.out.trans hg2)
  have hs1 := G1.out.size
  have hs12 := hg2.size
  have O2 := Lib.hid hO
  have P2 := Lib.hid hP2
  rw [← eme] at i2 hT2
  have T2 := Lib.hid hT2
  have EME := Lib.hid eme
  have i5 := Pl.late_inv (now := now) (draw := draw) i1 i2
  have I1 := Lib.hid i1
  have I2 := Lib.hid i2
  have HB := Lib.hid hB
  have hseq1 := i3.seq
  have hs2 := G2.out.size
  clear hO hg2 hP2 hT2 hB i1 i2 eme
  go_wp2_with fail
  refine (late_any g gt p1 f1 now draw _ P2.out T2.out I1.out I2.out h0 h1 d0 d1).mono ?_
  rintro e w3 ⟨⟨vo, vn, om, rfl, hO, hom, hN⟩, hg3, hP3, hT3⟩
  generalize hL : Pl.late now draw p1 f1 = L at *
  obtain ⟨p2, f2, os, mo⟩ := L
  simp only at hO hom hP3 hT3 i5
  subst hom
  obtain ⟨j1, j2, j3, j4, j5, j6, j7, j8⟩ := i5
  have G3 := Lib.hid (G2.out.trans hg3)
  have hvb : ∀ k, vb.ownBlock = some k → w1.heap.size ≤ k ∧ k < w2.heap.size := fun k hk => ⟨own_base O2.out k hk, own_lt O2.out k hk⟩
  have O3 := Lib.hid (own_grow2 O2.out hg3 (fun e => by have := hvb g e; omega) (fun e => by have := hvb gt e; omega))
  have OU := Lib.hid hO
  have ON := Lib.hid hN
  have P3 := Lib.hid hP3
  have T3 := Lib.hid hT3
  have hs3 := G3.out.size
  have hs23 := hg3.size
  have hs13 : w1.heap.size ≤ w3.heap.size := by omega
  have hvo : ∀ k, vo.ownBlock = some k → w2.heap.size ≤ k := fun k hk => own_base OU.out k hk
  have J1 := Lib.hid j1
  have J2 := Lib.hid j2
  have HL := Lib.hid hL
  clear hO hN hg3 hP3 hT3 hL hvb hvo j2
  have hnl : nw.length ≤ 64 := i4
  have hv : ∀ k, vb.ownBlock = some k → w1.heap.size ≤ k := fun k hk => own_base O3.out k hk
  have hlen4 : (nw ++ om.toList).length = nw.length + om.toList.length := List.length_append
  have HLEN := Lib.hid hlen4
  clear hlen4
  have b3 := j1.nxt0
  have b4 := j1.nxt1
  have b5 := j1.per0
  have b6 := j1.per1
  have sq0 : 0 ≤ p2.seq := by omega
  have sq1 : p2.seq ≤ 4611686018427387904 := by omega
  clear j3 j4 j5 j6 hseq1
  clear i3
  by_cases hop : p2.op = true
  · have hT : T = (p2, f2, os, nw ++ om.toList) := by rw [ET.out, if_pos (.inl hop)]
    have TE := Lib.hid hT
    have HOP := Lib.hid hop
    clear hop hT
    go_wp2_with (at_builtin; (refine app_opt w1.heap.size rfl (.tmp 38) (.tmp 39) rfl _ nw.length (rows nw) rfl _ om _ rfl ON.out O3.out hs13 (by omega) ?_); intro v1 w4 ho4 hg4 hat; have O4 := Lib.hid ho4; have G4 : Hid (w3.grownBy w4 vb.ownBlock) := Lib.hid hg4; have P4 := Lib.hid (P3.out.grown G4.out (fun e => by have := hv g e.symm; omega)); have T4 := Lib.hid (T3.out.grown G4.out (fun e => by have := hv gt e.symm; omega)); have U4 := Lib.hid (own_grown OU.out G4.out (fun k hk => own_own_ne O3.out OU.out (by decide) k hk)); have K4 := Lib.hid (g2_own G3.out O3.out hs1 G4.out); have hs4 := K4.out.size; have c3 := P4.out.head 3 (by omega); have c5 := P4.out.head 5 (by omega); have c0 := P4.out.head 0 (by omega); have hfz := P4.out.frozen; have hg4l := P4.out.lt; have hs34 := G4.out.size; simp only [phead, List.getElem?_cons_zero, List.getElem?_cons_succ] at c3 c5 c0; rw [HOP.out] at c5; clear ho4 hg4 hat)
    go_ret2
    rw [TE.out]
    exact ⟨⟨_, _, rfl, own_mono U4.out hs2, by rw [HLEN.out, rows_append]; exact own_mono O4.out hs1⟩, K4.out, P4.out, by rw [← EME.out]; exact T4.out⟩
  · have hop2 : p2.op = false := by simpa using hop
    have HOP := Lib.hid hop2
    by_cases hnx : now < p2.nxt
    · have hT : T = (p2, f2, os, nw ++ om.toList) := by rw [ET.out, if_pos (.inr hnx)]
      have TE := Lib.hid hT
      clear hop hop2 hT
      go_wp2_with (at_builtin; (refine app_opt w1.heap.size rfl (.tmp 38) (.tmp 39) rfl _ nw.length (rows nw) rfl _ om _ rfl ON.out O3.out hs13 (by omega) ?_); intro v1 w4 ho4 hg4 hat; have O4 := Lib.hid ho4; have G4 : Hid (w3.grownBy w4 vb.ownBlock) := Lib.hid hg4; have P4 := Lib.hid (P3.out.grown G4.out (fun e => by have := hv g e.symm; omega)); have T4 := Lib.hid (T3.out.grown G4.out (fun e => by have := hv gt e.symm; omega)); have U4 := Lib.hid (own_grown OU.out G4.out (fun k hk => own_own_ne O3.out OU.out (by decide) k hk)); have K4 := Lib.hid (g2_own G3.out O3.out hs1 G4.out); have hs4 := K4.out.size; have c3 := P4.out.head 3 (by omega); have c5 := P4.out.head 5 (by omega); have c0 := P4.out.head 0 (by omega); have hfz := P4.out.frozen; have hg4l := P4.out.lt; have hs34 := G4.out.size; simp only [phead, List.getElem?_cons_zero, List.getElem?_cons_succ] at c3 c5 c0; rw [HOP.out] at c5; clear ho4 hg4 hat)
      go_ret2
      rw [TE.out]
      exact ⟨⟨_, _, rfl, own_mono U4.out hs2, by rw [HLEN.out, rows_append]; exact own_mono O4.out hs1⟩, K4.out, P4.out, by rw [← EME.out]; exact T4.out⟩
    · have hno : ¬ (p2.op = true ∨ now < p2.nxt) := fun h => h.elim hop hnx
      have hET := ET.out
      rw [if_neg hno] at hET
      have ET2 := Lib.hid hET
      have hol := Pl.others_len p2 f2 p2.me
      clear hop hop2 hno hET ET
      go_wp2_with (at_builtin; (refine app_opt w1.heap.size rfl (.tmp 38) (.tmp 39) rfl _ nw.length (rows nw) rfl _ om _ rfl ON.out O3.out hs13 (by omega) ?_); intro v1 w4 ho4 hg4 hat; have O4 := Lib.hid ho4; have G4 : Hid (w3.grownBy w4 vb.ownBlock) := Lib.hid hg4; have P4 := Lib.hid (P3.out.grown G4.out (fun e => by have := hv g e.symm; omega)); have T4 := Lib.hid (T3.out.grown G4.out (fun e => by have := hv gt e.symm; omega)); have U4 := Lib.hid (own_grown OU.out G4.out (fun k hk => own_own_ne O3.out OU.out (by decide) k hk)); have K4 := Lib.hid (g2_own G3.out O3.out hs1 G4.out); have hs4 := K4.out.size; have c3 := P4.out.head 3 (by omega); have c5 := P4.out.head 5 (by omega); have c0 := P4.out.head 0 (by omega); have hfz := P4.out.frozen; have hg4l := P4.out.lt; have hs34 := G4.out.size; simp only [phead, List.getElem?_cons_zero, List.getElem?_cons_succ] at c3 c5 c0; rw [HOP.out] at c5; clear ho4 hg4 hat)
      refine (others_any g gt p1.me f2 p2 p2.me _ P4.out T4.out).mono ?_
      rintro e w5 ⟨A, c, rfl, hR, hb⟩
      have P5 := Lib.hid (P4.out.below hb P4.out.lt)
      have T5 := Lib.hid (T4.out.below hb T4.out.lt)
      have K5 := Lib.hid (K4.out.then_ hb)
      have O5 := Lib.hid (own_below O4.out hb)
      have U5 := Lib.hid (own_below U4.out hb)
      have RR := Lib.hid hR
      have hs5 := hb.size
      clear hb hR c3 c5 c0 hfz
      cases hd : Pl.drawn (Pl.othersP p2 f2 p2.me) draw with
      | none =>
        have hlen : (Pl.othersP p2 f2 p2.me).length = 0 := by
          rcases Nat.eq_zero_or_pos (Pl.othersP p2 f2 p2.me).length with h | h
          · exact h
          · obtain ⟨n, hn, _⟩ := Pl.drawn_some (l := Pl.othersP p2 f2 p2.me) (by intro e; rw [e] at h; simp at h) d0
            rw [hn] at hd
            cases hd
        rw [hlen]
        have hT := ET2.out
        rw [hd] at hT
        have TE := Lib.hid hT
        clear hlen hd hol hT
        go_wp2_with fail
        refine (drawn_nil A c draw _).mono ?_
        rintro e w6 ⟨rfl, hb⟩
        have P6 := Lib.hid (P5.out.below hb P5.out.lt)
        have T6 := Lib.hid (T5.out.below hb T5.out.lt)
        have K6 := Lib.hid (K5.out.then_ hb)
        have O6 := Lib.hid (own_below O5.out hb)
        have U6 := Lib.hid (own_below U5.out hb)
        clear hb
        simp only [drawnVal]
        go_wp2
        go_ret2
        rw [TE.out]
        exact ⟨⟨_, _, rfl, own_mono U6.out hs2, by rw [HLEN.out, rows_append]; exact own_mono O6.out hs1⟩, K6.out, P6.out, by rw [← EME.out]; exact T6.out⟩
      | some n =>
        have hT := ET2.out
        rw [hd] at hT
        have TE := Lib.hid hT
        have HD := Lib.hid hd
        clear hd hT
        go_wp2_with fail
        refine (drawn_some A c (Pl.othersP p2 f2 p2.me) draw n _ _ RR.out d0 d1 HD.out hol).mono ?_
        rintro e w6 ⟨rfl, hb⟩
        have P6 := Lib.hid (P5.out.below hb P5.out.lt)
        have T6 := Lib.hid (T5.out.below hb T5.out.lt)
        have K6 := Lib.hid (K5.out.then_ hb)
        have O6 := Lib.hid (own_below O5.out hb)
        have U6 := Lib.hid (own_below U5.out hb)
        have e0 := P6.out.head 0 (by omega)
        have e1 := P6.out.head 1 (by omega)
        have e3 := P6.out.head 3 (by omega)
        have e4 := P6.out.head 4 (by omega)
        have e5 := P6.out.head 5 (by omega)
        have e6 := P6.out.head 6 (by omega)
        have e7 := P6.out.head 7 (by omega)
        have e8 := P6.out.head 8 (by omega)
        have ef := P6.out.frozen
        simp only [phead, List.getElem?_cons_zero, List.getElem?_cons_succ] at e0 e1 e3 e4 e5 e6 e7 e8
        have hs6 := K6.out.size
        have hs26 : w2.heap.size ≤ w6.heap.size := by have := hb.size; omega
        have hgl6 := P6.out.lt
        have hgtl6 := T6.out.lt
        have hne6 := P6.out.ne_ T6.out (by decide)
        have HNE := Lib.hid hne6
        clear hb hol hne6
        simp only [drawnVal]
        go_wp2_with fail
        have PX := Lib.hid ((((((P6.out.set_seq (p2.seq + 1)).set_op true).set_hlp false).set_nd n).set_at now).set_nxt (now + p2.per))
        refine (packet_any g { p2 with seq := p2.seq + 1, op := true, hlp := false, nd := n, at_ := now, nxt := now + p2.per } 0 n _ PX.out).mono ?_
        rintro e w7 ⟨rfl, hb⟩
        have P7 := Lib.hid (PX.out.below hb PX.out.lt)
        have T7 := Lib.hid (((((((T6.out.far (p := ⟨g, 4, none⟩) HNE.out _).far (p := ⟨g, 5, none⟩) HNE.out _).far (p := ⟨g, 6, none⟩) HNE.out _).far (p := ⟨g, 7, none⟩) HNE.out _).far (p := ⟨g, 8, none⟩) HNE.out _).far (p := ⟨g, 3, none⟩) HNE.out _).below hb (by simp [World.setCell]; exact hgtl6))
        have K7 := Lib.hid (((((((K6.out.setCell (p := ⟨g, 4, none⟩) (.inl rfl) _).setCell (p := ⟨g, 5, none⟩) (.inl rfl) _).setCell (p := ⟨g, 6, none⟩) (.inl rfl) _).setCell (p := ⟨g, 7, none⟩) (.inl rfl) _).setCell (p := ⟨g, 8, none⟩) (.inl rfl) _).setCell (p := ⟨g, 3, none⟩) (.inl rfl) _).then_ hb)
        have six : ∀ {base nn : Nat} {e : TypeId} {sz : Nat} {v : Value} {xs : List Value}, w6.ownsRow base e sz v nn xs → w.heap.size ≤ base → w7.ownsRow base e sz v nn xs := by
          intro base nn e sz v xs ho hbs
          have hx : ∀ k, some g = some k → v.ownBlock ≠ some k := fun k hk hv => by injection hk with hk; have := own_base ho k hv; omega
          have q1 := own_grown ho (grown_setCell (g := g) (World.grownBy.refl _ _) (p := ⟨g, 4, none⟩) (.inl rfl) (.int .i64 (p2.seq + 1))) hx
          have q2 := own_grown q1 (grown_setCell (g := g) (World.grownBy.refl _ _) (p := ⟨g, 5, none⟩) (.inl rfl) (.bool true)) hx
          have q3 := own_grown q2 (grown_setCell (g := g) (World.grownBy.refl _ _) (p := ⟨g, 6, none⟩) (.inl rfl) (.bool false)) hx
          have q4 := own_grown q3 (grown_setCell (g := g) (World.grownBy.refl _ _) (p := ⟨g, 7, none⟩) (.inl rfl) (.int .u16 n)) hx
          have q5 := own_grown q4 (grown_setCell (g := g) (World.grownBy.refl _ _) (p := ⟨g, 8, none⟩) (.inl rfl) (.int .i64 now)) hx
          have q6 := own_grown q5 (grown_setCell (g := g) (World.grownBy.refl _ _) (p := ⟨g, 3, none⟩) (.inl rfl) (.int .i64 (now + p2.per))) hx
          exact own_below q6 hb
        have O7 := Lib.hid (six O6.out hs1)
        have U7 := Lib.hid (six U6.out hs2)
        have hs7 : w2.heap.size ≤ w7.heap.size := by have := hb.size; simp [World.setCell] at this; omega
        clear hb six e0 e1 e3 e4 e5 e6 e7 e8 ef
        simp only [pkt]
        go_wp2_with (at_builtin; (refine app_row w2.heap.size rfl (.tmp 91) (.tmp 97) 61 69 _ 7 72 rfl Try.underlying61 out_info rfl (by omega) _ _ _ (oc ⟨n, 0, p2.me, n, p2.seq + 1⟩).toArray rfl _ rfl rfl (by simp [oc, Value.oneCell']) rfl U7.out hs7 (by omega) (by omega) ?_); intro v2 w8 ho8 hg8 hat; have U8 := Lib.hid ho8; have G8 := Lib.hid hg8; clear ho8 hg8 hat)
        go_ret2
        have hvo : ∀ k, vo.ownBlock = some k → w2.heap.size ≤ k := fun k hk => own_base U7.out k hk
        rw [TE.out]
        refine ⟨⟨_, _, rfl, ?_, ?_⟩, ?_, ?_, ?_⟩
        · simp only
          rw [List.length_append, outs_append]
          have := own_mono U8.out hs2
          simpa [outs] using this
        · simp only
          rw [HLEN.out, rows_append]
          exact own_mono (own_grown O7.out G8.out (fun k hk => own_own_ne U7.out O7.out (by decide) k hk)) hs1
        · exact g2_own K7.out U7.out hs2 G8.out
        · exact P7.out.grown G8.out (fun e => by have := hvo g e.symm; omega)
        · rw [← EME.out]; exact T7.out.grown G8.out (fun e => by have := hvo gt e.symm; omega)
end Go.Proofs.Ytnlpgjdgiappcaa
