/- The statement ProbeOthers: nobody asks itself, or about itself, or one that is dead; help is never asked of the one that it is about. Conditions: none. -/
import Derived.Test.YtnlpgjdgiappcaaPrE
import Derived.Test.YtnlpgjdgiappcaaMbDoc7
import Derived.Test.YtnlpgjdgiappcaaMbDoc8
namespace Go.Proofs.Ytnlpgjdgiappcaa
set_option linter.unusedVariables false
set_option linter.unusedSimpArgs false
open Go.ChangeShapes Go.WideShapes Go.ChangeAt Go.RowKit Go.Joins Go.Deep

theorem Blk.mem6 {w : World} {g : Nat} {t : TypeId} {a0 a1 a2 a3 a4 a5 : Value} (h : Blk w g t #[a0, a1, a2, a3, a4, a5]) (x0 x1 x2 x3 x4 x5 : Value) :
    Blk ((((((w.setCell ⟨g, 0, none⟩ x0).setCell ⟨g, 1, none⟩ x1).setCell ⟨g, 2, none⟩ x2).setCell ⟨g, 3, none⟩ x3).setCell ⟨g, 4, none⟩ x4).setCell ⟨g, 5, none⟩ x5) g t #[x0, x1, x2, x3, x4, x5] :=
  (((((h.set_ 0 x0).set_ 1 x1).set_ 2 x2).set_ 3 x3).set_ 4 x4).set_ 5 x5

/-- A tick, at an act's time: what goes out. -/
theorem tick_others (w0 W W' : World) (g gp gt j : Nat) (z : Int) {p : Pl.Pb} {F : Pl.Tab} {r : Pl.Rp} {A : Option Addr} {cA : Nat} {G : Pl.Tab} {B : Option Addr} {cB : Nat} {now d : Int} {e : Ending}
    (HW : WS W g gp gt p F r A cA z G B cB now) (hO : Pl.PbOk p) (hme : p.me = z) (hF : Pl.TOk z F) (hG : Pl.TOk z G) (hl0 : 0 ≤ p.seq) (hl1 : p.seq ≤ j) (hn0 : 0 ≤ now) (hn1 : now ≤ 64 * ((j : Int) + 1)) (hlen : r.w.length ≤ j) (hnd : Pl.NdOk p) (hK : Below w0.heap.size w0 W)
    (hgp : w0.heap.size ≤ gp) (hgt : w0.heap.size ≤ gt) (hE : TickEnd W gp gt p.me (Pl.tick now d p F) e W') :
    RI w0 W' g gp gt (j + 1) z (Pl.tick now d p F).1.seq ∧ IsT W' gt z (Pl.tick now d p F).2.1 ∧ Pl.TOk z (Pl.tick now d p F).2.1 ∧ ∀ o ∈ (Pl.tick now d p F).2.2.1, Pl.OutOk z (Pl.tick now d p F).2.1 o := by
  obtain ⟨a1, a2, a3, a4, a5, a6, a7, a8⟩ := Pl.tick_inv (now := now) (draw := d) hO (by rw [hme]; exact hF)
  obtain ⟨b1, b2, b3, b4⟩ := Pl.tick_shape (now := now) (draw := d) hO (by rw [hme]; exact hF) hnd
  refine ⟨⟨_, _, _, _, _, _, _, _, _, HW.ticked hE.gr hE.p a3 hE.t, a1, by rw [a3, hme], by rw [← hme]; exact a2, hG, rfl, by omega, by omega, hn0, by omega, by omega, b1, ?_⟩, by rw [← hme]; exact hE.t, by rw [← hme]; exact a2, by rw [← hme]; exact b2⟩
  exact hK.trans (below_of_grow2 hE.gr hK.size hgp hgt)
theorem RI.below {w0 W X : World} {g gp gt j : Nat} {z la : Int} (H : RI w0 W g gp gt j z la) (hb : Below W.heap.size W X) : RI w0 X g gp gt j z la := by
  obtain ⟨p8, F8, r8, A8, cA8, G8, B8, cB8, now8, hW8, c1, c2, c3, c4, c5, c6, c7, c8, c9, c10, c11, hK8⟩ := H
  exact ⟨_, _, _, _, _, _, _, _, _, hW8.below hb, c1, c2, c3, c4, c5, c6, c7, c8, c9, c10, c11, below_then hK8 hK8.size hb⟩
set_option maxRecDepth 100000 in
set_option maxHeartbeats 4000000 in
theorem others_walk (s : Int) (hs0 : 0 ≤ s) (Al : Option Addr) (cl : Nat) (l : List Ac) (w : World) (rl : Reads w (fun b => b < w.heap.size) 7 Al l.length (acs l)) (ml : ∀ a ∈ l, a.Ok) :
    Calls Try.prog 12 #[.int .u16 s, .slice Al l.length cl] w fun e w' => e = .returned (.bool true) ∧ Below w.heap.size w w' := by
  have RL := Lib.hid rl
  have ML := Lib.hid ml
  obtain ⟨z, hz⟩ : ∃ z, s.tmod 64 = z := ⟨_, rfl⟩
  have hz01 : 0 ≤ z ∧ z < 64 := by
    rw [← hz, Int.tmod_eq_emod_of_nonneg hs0]
    omega
  obtain ⟨hz0, hz1⟩ := hz01
  clear rl ml
  go_enter Try.func12, Try.ntmps12
  go_wp2_with fail
  refine (made_yes z _ hz0 hz1).mono ?_
  rintro e w1 ⟨g, gp, gt, B, cB, rfl, hb, hg, hgp, hgt, hW⟩
  have HW := Lib.hid hW
  have K1 := Lib.hid hb
  have hG : Hid (w.heap.size ≤ g) := Lib.hid hg
  have hGp : Hid (w.heap.size ≤ gp) := Lib.hid hgp
  have hGt : Hid (w.heap.size ≤ gt) := Lib.hid hgt
  clear hb hg hgp hgt hz
  have y0 := hW.blk.cell 0
  simp only [wcells, List.getElem?_toArray, List.getElem?_cons_zero, List.getElem?_cons_succ] at y0
  clear hW
  by_cases hL : 200 < l.length
  · have hL' : decide ((l.length : Int) > 200) = true := by simp; omega
    go_wp2_with fail
    refine (pawake_any _).mono ?_
    rintro e w2 ⟨rfl, hb⟩
    have K2 := Lib.hid (below_then K1.out K1.out.size hb)
    clear hb
    go_wp2
    go_ret
    exact ⟨rfl, K2.out⟩
  have hL' : decide ((l.length : Int) > 200) = false := by simp; omega
  have HR1 : Hid (∃ v, RI w w1 g gp gt 0 z v) := Lib.hid ⟨0, _, _, _, _, _, _, _, _, _, HW.out, Pl.pnew_ok (by omega) (by omega) (by decide) (by decide), rfl, Pl.newT_ok (by omega) (by omega), Pl.newT_ok (by omega) (by omega), rfl, by omega, by omega, by omega, by omega, by simp [Pl.rnew], (fun h => by cases h), K1.out⟩
  go_wp2
  clear y0
  go_loopw [7] (fun i wr => ∃ (j : Nat), j ≤ l.length ∧ i = .int .i64 (j : Int) ∧ ∃ v, RI w wr g gp gt j z v) (fun i _ => l.length - (intOf i).toNat)
  case atStart => exact ⟨0, by omega, rfl, HR1.out⟩
  case round =>
    obtain ⟨j, hj, rfl, v, hRI⟩ := hrel
    have HR := Lib.hid hRI
    obtain ⟨p, F, r, A, cA, G, B', cB', now, hW, hO, hme, hF, hG', hs, hl0, hl1, hn0, hn1, hlen, hnd, hK⟩ := hRI
    have W2 := Lib.hid hW
    have OO := Lib.hid hO
    have ME := Lib.hid hme
    have TF := Lib.hid hF
    have TG := Lib.hid hG'
    have SQ := Lib.hid hs
    have LN := Lib.hid hlen
    have ND := Lib.hid hnd
    have K2 := Lib.hid hK
    clear HW K1 HR1 hO hme hF hG' hlen hnd hK
    have y0 := hW.blk.cell 0
    have y1 := hW.blk.cell 1
    have y14 := hW.blk.cell 14
    simp only [wcells, List.getElem?_toArray, List.getElem?_cons_zero, List.getElem?_cons_succ] at y0 y1 y14
    have yf := hW.blk.frozen
    have lg := hW.blk.lt
    have hne1 := hW.ne1
    have hne2 := hW.ne2
    clear hW
    by_cases hjl : j < l.length
    · have hjI0 : (0 : Int) ≤ (j : Int) := by omega
      have hjI1 : (j : Int) < (l.length : Int) := by omega
      obtain ⟨a, ha⟩ : ∃ a, l[j]? = some a := ⟨l[j], List.getElem?_eq_getElem hjl⟩
      have hao := ML.out a (List.mem_of_getElem? ha)
      have AO := Lib.hid hao
      obtain ⟨b, o, rfl, hbb, hcell⟩ := RL.out.2 (by omega)
      have HBB : Hid (b < w.heap.size) := Lib.hid hbb
      have hC0 := acs_at hcell ha
      have HC0 := Lib.hid hC0
      have HCW : Hid (∀ X, Below w.heap.size w X → X.cell? ⟨b, o + j * 7, none⟩ = some (.int .u8 a.k) ∧ X.cell? ⟨b, o + j * 7 + 1, none⟩ = some (.int .u8 a.b) ∧ X.cell? ⟨b, o + j * 7 + 2, none⟩ = some (.int .u32 a.d) ∧ X.cell? ⟨b, o + j * 7 + 3, none⟩ = some (.int .u16 a.m.n) ∧ X.cell? ⟨b, o + j * 7 + 4, none⟩ = some (.int .u8 a.m.s) ∧ X.cell? ⟨b, o + j * 7 + 5, none⟩ = some (.int .i64 a.m.i) ∧ X.cell? ⟨b, o + j * 7 + 6, none⟩ = some (.int .i64 a.s)) := Lib.hid (fun X hX => ⟨(hX.cell (p := ⟨b, _, none⟩) hbb).trans hC0.1, (hX.cell (p := ⟨b, _, none⟩) hbb).trans hC0.2.1, (hX.cell (p := ⟨b, _, none⟩) hbb).trans hC0.2.2.1, (hX.cell (p := ⟨b, _, none⟩) hbb).trans hC0.2.2.2.1, (hX.cell (p := ⟨b, _, none⟩) hbb).trans hC0.2.2.2.2.1, (hX.cell (p := ⟨b, _, none⟩) hbb).trans hC0.2.2.2.2.2.1, (hX.cell (p := ⟨b, _, none⟩) hbb).trans hC0.2.2.2.2.2.2⟩)
      have hkr : a.k.tmod 5 = 0 ∨ a.k.tmod 5 = 1 ∨ a.k.tmod 5 = 2 ∨ a.k.tmod 5 = 3 ∨ a.k.tmod 5 = 4 := by
        have := hao.k0
        rw [Int.tmod_eq_emod_of_nonneg this]
        omega
      clear hcell hC0 ha hao hbb
      obtain ⟨x0, x1, x2, x3, x4, x5, x6⟩ := HCW.out wr K2.out
      have hkr2 : (a.k.tmod 5 = 0 ∨ a.k.tmod 5 = 1) ∨ (a.k.tmod 5 = 2 ∨ a.k.tmod 5 = 3 ∨ a.k.tmod 5 = 4) := by omega
      rcases hkr2 with hk01 | hk234
      · have hk1 : decide (a.k.tmod 5 > 1) = false := by simp; omega
        obtain ⟨bb, hbb⟩ : ∃ bb, a.b.tmod 64 = bb := ⟨_, rfl⟩
        have hb0 := AO.out.b0
        have hbb2 : 0 ≤ bb ∧ bb < 64 := by
          rw [← hbb, Int.tmod_eq_emod_of_nonneg hb0]
          omega
        obtain ⟨hbb3, hbb4⟩ := hbb2
        have hw1 : IntKind.i64.wrap bb = bb := by rw [IntKind.wrap_i64]; omega
        have hw2 : IntKind.i64.wrap (now + bb) = now + bb := by rw [IntKind.wrap_i64]; omega
        clear hb0
        go_wp2
        go_still_tail 12, (by kernel_rfl)
        change wpList _ _ _ _ _ (World.drew wr)
        have W4 := Lib.hid ((W2.out.setNow (now + bb)).drew)
        have K4 := Lib.hid ((K2.out.setCell (p := ⟨g, 14, none⟩) hG.out (.int .i64 (now + bb))).drew)
        go_upto_region 10 with fail
        generalize (wr.setCell ⟨g, 14, none⟩ (.int .i64 (now + bb))).drew = w4 at *
        obtain ⟨nn, hnn⟩ : ∃ x, now + bb = x := ⟨_, rfl⟩
        rw [hnn] at W4 hw2
        have hn2 : 0 ≤ nn ∧ nn ≤ 64 * ((j : Int) + 1) := by omega
        clear y0 y1 y14 yf lg x0 x1 x2 x3 x4 x5 x6
        have y0 := W4.out.blk.cell 0
        have y1 := W4.out.blk.cell 1
        have y14 := W4.out.blk.cell 14
        simp only [wcells, List.getElem?_toArray, List.getElem?_cons_zero, List.getElem?_cons_succ] at y0 y1 y14
        have yf := W4.out.blk.frozen
        have lg := W4.out.blk.lt
        obtain ⟨x0, x1, x2, x3, x4, x5, x6⟩ := HCW.out w4 K4.out
        have HS4 : Hid (w4.cell? ⟨g, 0, none⟩ = some (.pointer (some ⟨gp, 0, none⟩)) ∧ w4.cell? ⟨g, 1, none⟩ = some (.pointer (some ⟨gt, 0, none⟩)) ∧ w4.cell? ⟨g, 14, none⟩ = some (.int .i64 nn) ∧ w4.cell? ⟨b, o + j * 7 + 2, none⟩ = some (.int .u32 a.d)) := Lib.hid ⟨y0, y1, y14, x2⟩
        have HQ5 : ∀ X : World, (∀ q, q < w4.heap.size → q ≠ gp → q ≠ gt → X.heap[q]? = w4.heap[q]?) → X.cell? ⟨g, 0, none⟩ = some (.pointer (some ⟨gp, 0, none⟩)) ∧ X.cell? ⟨g, 1, none⟩ = some (.pointer (some ⟨gt, 0, none⟩)) ∧ X.cell? ⟨g, 14, none⟩ = some (.int .i64 nn) ∧ X.cell? ⟨b, o + j * 7 + 2, none⟩ = some (.int .u32 a.d) := by
          intro X hX
          have hgq := hX g lg hne1 hne2
          have hbq := hX b (Nat.lt_of_lt_of_le HBB.out K4.out.size) (by have := HBB.out; have := hGp.out; omega) (by have := HBB.out; have := hGt.out; omega)
          exact ⟨(World.cell?_of_block (a := ⟨g, 0, none⟩) hgq).trans y0, (World.cell?_of_block (a := ⟨g, 1, none⟩) hgq).trans y1, (World.cell?_of_block (a := ⟨g, 14, none⟩) hgq).trans y14, (World.cell?_of_block (a := ⟨b, _, none⟩) hbq).trans x2⟩
        have HQ6 := Lib.hid HQ5
        clear HQ5
        have TK : Hid (Calls Try.prog 34 #[.pointer (some ⟨gp, 0, none⟩), .int .i64 nn, .int .u32 a.d, .pointer (some ⟨gt, 0, none⟩)] w4.drew fun e w5 => (RI w w5 g gp gt (j + 1) z (Pl.tick nn a.d p F).1.seq ∧ IsT w5 gt z (Pl.tick nn a.d p F).2.1 ∧ Pl.TOk z (Pl.tick nn a.d p F).2.1 ∧ (∀ o ∈ (Pl.tick nn a.d p F).2.2.1, Pl.OutOk z (Pl.tick nn a.d p F).2.1 o)) ∧ (∃ Ao co vn, e = .returned (.tuple #[.slice Ao (Pl.tick nn a.d p F).2.2.1.length co, vn]) ∧ w5.ownsRow w4.heap.size 69 7 (.slice Ao (Pl.tick nn a.d p F).2.2.1.length co) (Pl.tick nn a.d p F).2.2.1.length (outs (Pl.tick nn a.d p F).2.2.1)) ∧ (w5.cell? ⟨g, 0, none⟩ = some (.pointer (some ⟨gp, 0, none⟩)) ∧ w5.cell? ⟨g, 1, none⟩ = some (.pointer (some ⟨gt, 0, none⟩)) ∧ w5.cell? ⟨g, 14, none⟩ = some (.int .i64 nn) ∧ w5.cell? ⟨b, o + j * 7 + 2, none⟩ = some (.int .u32 a.d))) := by
          refine Lib.hid ((ptick_any gp gt p F nn a.d _ W4.out.pb.drew W4.out.tb.drew OO.out (by rw [ME.out]; exact TF.out) AO.out.d0 AO.out.d1 (by rw [SQ.out]; omega) (by rw [SQ.out]; omega)).mono ?_)
          rintro e w5 hE
          refine ⟨tick_others w w4.drew w5 g gp gt j z W4.out.drew OO.out ME.out TF.out TG.out (by rw [SQ.out]; omega) (by rw [SQ.out]; omega) hn2.1 hn2.2 LN.out ND.out K4.out.drew hGp.out hGt.out hE, ?_, HQ6.out w5 hE.gr.block⟩
          obtain ⟨vo, vn, he, ho, hn⟩ := hE.ret
          obtain ⟨Ao, co, rfl⟩ := own_slice ho
          exact ⟨Ao, co, vn, he, ho⟩
        go_region_held3 (fun X => X.cell? ⟨g, 0, none⟩ = some (.pointer (some ⟨gp, 0, none⟩)) ∧ X.cell? ⟨g, 1, none⟩ = some (.pointer (some ⟨gt, 0, none⟩)) ∧ X.cell? ⟨g, 14, none⟩ = some (.int .i64 nn) ∧ X.cell? ⟨b, o + j * 7 + 2, none⟩ = some (.int .u32 a.d)) (first | assumption | exact HS4.out)
          ((go_at_call 34
            refine TK.out.mono ?_
            rintro e w5 ⟨hR5, ⟨Ao, co, vn, rfl, ho⟩, HS5⟩
            have W5 := Lib.hid hR5
            have HO5 := Lib.hid ho
            clear hR5 ho))
        obtain ⟨_, _, _, _, _, _, _, sh8⟩ := Pl.tick_inv (now := nn) (draw := a.d) OO.out (by rw [ME.out]; exact TF.out)
        have y51 : w5.cell? ⟨g, 1, none⟩ = some (.pointer (some ⟨gt, 0, none⟩)) := HS5.2.1
        have lg5 : g < w5.heap.size := World.block_lt_of_cell? w5 _ y51
        clear TK y0 y1 y14 yf lg x0 x1 x2 x3 x4 x5 x6 HS4 HS5 HQ6
        generalize (Pl.tick nn a.d p F).2.2.1 = O at *
        generalize (Pl.tick nn a.d p F).2.1 = F' at *
        generalize (Pl.tick nn a.d p F).1.seq = v' at *
        go_wp2
        go_loopw [10] (fun k wr => ∃ i : Nat, i ≤ O.length ∧ k = .int .i64 (i : Int) ∧ Hid (Below w5.heap.size w5 wr)) (fun k _ => O.length - (intOf k).toNat)
        case atStart => exact ⟨0, by omega, rfl, Lib.hid (Below.refl _ _)⟩
        case round =>
          clear hkr hk01 hk1
          obtain ⟨i, hi, rfl, B6⟩ := hrel
          by_cases hil : i < O.length
          · obtain ⟨x, hx⟩ : ∃ x, O[i]? = some x := ⟨O[i], List.getElem?_eq_getElem hil⟩
            obtain ⟨b5, c5, he5, hb5, hl5, hc⟩ := outs_row HO5.out (by omega)
            injection he5 with e1 e2 e3
            subst e1 e3
            obtain ⟨s0, s1, s2, s3, s4, s5, s6⟩ := hc i x hx
            have hok := W5.out.2.2.2 x (List.mem_of_getElem? hx)
            obtain ⟨m, hm, hms⟩ := hok.is
            have HOK := Lib.hid hok
            have HM := Lib.hid hm
            obtain ⟨me, hme5⟩ := W5.out.2.2.1.me
            have hmen : me.n = z := by
              have := (W5.out.2.2.1.at_ _ _ hme5).2.1
              omega
            obtain ⟨mn, ms, mi⟩ := me
            simp only at hmen
            subst hmen
            have HME := Lib.hid hme5
            have q0 := (B6.out.cell (p := ⟨b5, i * 7, none⟩) hl5).trans s0
            have q1 := (B6.out.cell (p := ⟨b5, i * 7 + 1, none⟩) hl5).trans s1
            have q2 := (B6.out.cell (p := ⟨b5, i * 7 + 2, none⟩) hl5).trans s2
            have q3 := (B6.out.cell (p := ⟨b5, i * 7 + 3, none⟩) hl5).trans s3
            have q4 := (B6.out.cell (p := ⟨b5, i * 7 + 4, none⟩) hl5).trans s4
            have q5 := (B6.out.cell (p := ⟨b5, i * 7 + 5, none⟩) hl5).trans s5
            have q6 := (B6.out.cell (p := ⟨b5, i * 7 + 6, none⟩) hl5).trans s6
            have y1 := (B6.out.cell (p := ⟨g, 1, none⟩) lg5).trans y51
            have l5 : b5 < wr.heap.size := Nat.lt_of_lt_of_le hl5 B6.out.size
            have l6 : g < wr.heap.size := Nat.lt_of_lt_of_le lg5 B6.out.size
            obtain ⟨n0, m1, m2⟩ := m
            simp only at hms
            have T6 : Hid (IsT wr gt mn F') := Lib.hid (W5.out.2.1.below B6.out W5.out.2.1.lt)
            have HGET : Hid (∀ X, SB wr.heap.size wr X → Calls Try.prog 20 #[.pointer (some ⟨gt, 0, none⟩), .int .u16 x.to_] X fun e w' => e = .returned (.tuple #[.agg #[.int .u16 n0, .int .u8 m1, .int .i64 m2], .bool true]) ∧ Below X.heap.size X w') := Lib.hid (fun X hX => by
              have h := get_tok gt mn F' x.to_ X (T6.out.below hX.2.2 T6.out.lt) W5.out.2.2.1 HOK.out.t0
              rw [HM.out] at h
              exact h)
            have HSELF : Hid (∀ X, SB wr.heap.size wr X → Calls Try.prog 19 #[.pointer (some ⟨gt, 0, none⟩)] X fun e w' => e = .returned (.agg #[.int .u16 mn, .int .u8 ms, .int .i64 mi]) ∧ Below X.heap.size X w') := Lib.hid (fun X hX =>
              self_any gt mn F' ⟨mn, ms, mi⟩ X (T6.out.below hX.2.2 T6.out.lt) hz0 hz1 HME.out)
            have HSW := Lib.hid (keepB (Below.refl wr.heap.size wr))
            have hiI0 : (0 : Int) ≤ (i : Int) := by omega
            have hiI1 : (i : Int) < (O.length : Int) := by omega
            have hfr := hok.fr
            have hne := hok.ne
            have hab := hok.ab
            have hask := hok.ask
            have hping := hok.ping
            clear hc hx hm hok s0 s1 s2 s3 s4 s5 s6 hme5
            go_wp2_with fail
            go_upto_region 14 with fail
            go_cut [11, 12] from 92 to 184 (fun s11 s12 wx => ∃ (b8 : Nat), s11 = .pointer (some ⟨b8, 0, none⟩) ∧ s12 = .bool true ∧ wr.heap.size ≤ b8 ∧ Go.RowKit.Hid (Blk wx b8 25 #[.int .u16 n0, .int .u8 m1, .int .i64 m2]) ∧ Go.RowKit.Hid (Below wr.heap.size wr wx))
            case first =>
              go_region_held3 (fun X => SB wr.heap.size wr X) (((repeat (with_reducible first | assumption | exact HSW.out | refine sb_drew ?_ | refine sb_alloc ?_ (Nat.le_refl _) _ | refine sb_set ?_ ?_ _)); all_goals first | done | (with_reducible exact Nat.le_refl _) | (simp; done) | (simp; omega) | omega))
                (first
                  | (go_at_call 20; refine (HGET.out _ (by assumption)).mono ?_; rintro e w6 ⟨rfl, hb1⟩; have S1 : SB wr.heap.size wr w6 := sb_then (by assumption) hb1; have L1 := hb1.size; have B1 := Lib.hid hb1
                     first
                       | (obtain ⟨K0, k0, k1⟩ := kept1 hb1; have a0 := K0.cell 0; have a1 := K0.cell 1; have a2 := K0.cell 2; have f0 := K0.frozen; have BK0 := Lib.hid K0; clear K0; simp only [List.getElem?_toArray, List.getElem?_cons_zero, List.getElem?_cons_succ] at a0 a1 a2)
                       | skip
                     clear hb1))
              all_goals
                go_wp2
                go_meet
                case rel =>
                  try simp only [drew_size] at L1
                  try simp at L1
                  refine ⟨_, rfl, rfl, ?_, Lib.hid ?_, Lib.hid (by assumption : SB wr.heap.size wr _).2.2⟩
                  · omega
                  · repeat (with_reducible first | exact BK0.out | apply Blk.mem3 | refine Blk.new_at ?_ | refine Blk.alloc ?_ _ | refine Blk.far ?_ ?_ _)
                    all_goals first | done | (simp; done) | (simp; omega)
            case rest =>
              obtain ⟨b8, rfl, rfl, h8, D8, K8⟩ := hcut
              have hw8 := K8.out.size
              have d0 := D8.out.cell 0
              have d1 := D8.out.cell 1
              have d2 := D8.out.cell 2
              simp only [List.getElem?_toArray, List.getElem?_cons_zero, List.getElem?_cons_succ] at d0 d1 d2
              have l8 := D8.out.lt
              have n8 : wc.heap.size ≠ b8 := by omega
              have n5 : wc.heap.size ≠ b5 := by omega
              have ng : wc.heap.size ≠ g := by omega
              have p0 := (K8.out.cell (p := ⟨b5, i * 7, none⟩) l5).trans q0
              have p1 := (K8.out.cell (p := ⟨b5, i * 7 + 1, none⟩) l5).trans q1
              have p2 := (K8.out.cell (p := ⟨b5, i * 7 + 2, none⟩) l5).trans q2
              have p3 := (K8.out.cell (p := ⟨b5, i * 7 + 3, none⟩) l5).trans q3
              have p4 := (K8.out.cell (p := ⟨b5, i * 7 + 4, none⟩) l5).trans q4
              have p5 := (K8.out.cell (p := ⟨b5, i * 7 + 5, none⟩) l5).trans q5
              have p6 := (K8.out.cell (p := ⟨b5, i * 7 + 6, none⟩) l5).trans q6
              have z1 := (K8.out.cell (p := ⟨g, 1, none⟩) l6).trans y1
              have HQ0 := Lib.hid q0
              have HY1 := Lib.hid y1
              have HSV := HSW
              clear HSW
              have HSW : Hid (SB wr.heap.size wr wc) := Lib.hid (keepB K8.out)
              clear q0 q1 q2 q3 q4 q5 q6 y1
              obtain ⟨xt, xk, xf, xa, xs⟩ := x
              simp only at *
              obtain rfl := hfr
              have e1 : (m1 == 2) = false := beq_eq_false_iff_ne.2 hms
              have e2 : (xt == xf) = false := beq_eq_false_iff_ne.2 hne
              have e3 : (xa == xf) = false := beq_eq_false_iff_ne.2 hab
              have hcs : (xk = 2 ∧ (xa == xt) = false) ∨ (xk = 0 ∧ xa = xt) ∨ ((xk == 2) = false ∧ (xk == 0) = false) := by
                by_cases k2 : xk = 2
                · exact .inl ⟨k2, beq_eq_false_iff_ne.2 (hask k2)⟩
                · by_cases k0 : xk = 0
                  · exact .inr (.inl ⟨k0, hping k0⟩)
                  · exact .inr (.inr ⟨beq_eq_false_iff_ne.2 k2, beq_eq_false_iff_ne.2 k0⟩)
              clear hask hping hms hne hab hil hi
              have hil : i + 1 ≤ O.length := by omega
              have SSTEP : ∀ (xk : Int) (X Y : World), (fun X => X.cell? ⟨b8, 1, none⟩ = some (.int .u8 m1) ∧ X.cell? ⟨b5, i * 7, none⟩ = some (.int .u16 xt) ∧ X.cell? ⟨g, 1, none⟩ = some (.pointer (some ⟨gt, 0, none⟩)) ∧ X.cell? ⟨wc.heap.size, 0, none⟩ = some (.int .u8 xk) ∧ X.cell? ⟨wc.heap.size, 1, none⟩ = some (.int .u16 xf) ∧ X.cell? ⟨wc.heap.size, 2, none⟩ = some (.int .u16 xa) ∧ SB wr.heap.size wr X) X → Below X.heap.size X Y → (fun X => X.cell? ⟨b8, 1, none⟩ = some (.int .u8 m1) ∧ X.cell? ⟨b5, i * 7, none⟩ = some (.int .u16 xt) ∧ X.cell? ⟨g, 1, none⟩ = some (.pointer (some ⟨gt, 0, none⟩)) ∧ X.cell? ⟨wc.heap.size, 0, none⟩ = some (.int .u8 xk) ∧ X.cell? ⟨wc.heap.size, 1, none⟩ = some (.int .u16 xf) ∧ X.cell? ⟨wc.heap.size, 2, none⟩ = some (.int .u16 xa) ∧ SB wr.heap.size wr X) Y := by
                intro xk X Y ⟨h1, h2, h3, h4, h5, h6, h7⟩ hb
                have L : ∀ a v, X.cell? a = some v → a.block < X.heap.size := fun a v h => World.block_lt_of_cell? X a h
                exact ⟨(hb.cell (L _ _ h1)).trans h1, (hb.cell (L _ _ h2)).trans h2, (hb.cell (L _ _ h3)).trans h3, (hb.cell (L _ _ h4)).trans h4, (hb.cell (L _ _ h5)).trans h5, (hb.cell (L _ _ h6)).trans h6, sb_then h7 hb⟩
              have hfd : ∀ X : World, (Instr.field 25 (.agg #[.int .u16 xf, .int .u8 ms, .int .i64 mi]) 0).run Try.prog X = .ok (.int .u16 xf) X := fun _ => by kernel_rfl
              have SST := Lib.hid SSTEP
              clear SSTEP
              rcases hcs with ⟨rfl, e4⟩ | ⟨rfl, rfl⟩ | ⟨e4, e5⟩
              · skip
                have HS7 : Hid ((fun X => X.cell? ⟨b8, 1, none⟩ = some (.int .u8 m1) ∧ X.cell? ⟨b5, i * 7, none⟩ = some (.int .u16 xt) ∧ X.cell? ⟨g, 1, none⟩ = some (.pointer (some ⟨gt, 0, none⟩)) ∧ X.cell? ⟨wc.heap.size, 0, none⟩ = some (.int .u8 2) ∧ X.cell? ⟨wc.heap.size, 1, none⟩ = some (.int .u16 xf) ∧ X.cell? ⟨wc.heap.size, 2, none⟩ = some (.int .u16 xa) ∧ SB wr.heap.size wr X) (wc.alloc (Obj.cells #[.int .u8 2, .int .u16 xf, .int .u16 xa, .int .i64 xs, .slice none 0 0, .slice none 0 0] 67)).drew) := by
                  have BK7 : Blk (wc.alloc (Obj.cells #[.int .u8 2, .int .u16 xf, .int .u16 xa, .int .i64 xs, .slice none 0 0, .slice none 0 0] 67)) wc.heap.size 67 #[.int .u8 2, .int .u16 xf, .int .u16 xa, .int .i64 xs, .slice none 0 0, .slice none 0 0] := Blk.new_at rfl
                  have S7 : SB wr.heap.size wr (wc.alloc (Obj.cells #[.int .u8 2, .int .u16 xf, .int .u16 xa, .int .i64 xs, .slice none 0 0, .slice none 0 0] 67)) := sb_alloc HSW.out (Nat.le_refl _) _
                  exact Lib.hid ⟨(D8.out.alloc _).cell 1, (S7.1 b5 (i * 7) l5).trans HQ0.out, (S7.1 g 1 l6).trans HY1.out, BK7.cell 0, BK7.cell 1, BK7.cell 2, sb_drew S7⟩
                go_upto_region 16 with fail
                refine wp_region_held_drew (S := (fun X => X.cell? ⟨b8, 1, none⟩ = some (.int .u8 m1) ∧ X.cell? ⟨b5, i * 7, none⟩ = some (.int .u16 xt) ∧ X.cell? ⟨g, 1, none⟩ = some (.pointer (some ⟨gt, 0, none⟩)) ∧ X.cell? ⟨wc.heap.size, 0, none⟩ = some (.int .u8 2) ∧ X.cell? ⟨wc.heap.size, 1, none⟩ = some (.int .u16 xf) ∧ X.cell? ⟨wc.heap.size, 2, none⟩ = some (.int .u16 xa) ∧ SB wr.heap.size wr X)) (by kernel_rfl) (by exact HS7.out) (fun hHeld => ?_)
                refine wpAnyH_take (i := 0) (v := ?_) (by simp only [List.getElem?_toArray, List.getElem?_cons_succ, List.getElem?_cons_zero]; exact rfl) (by decide +kernel) (by decide +kernel) (by decide +kernel) (by exact fun _ _ _ h => h) (Or.inl ⟨by rfl, ?_⟩) (by assumption) ?_
                rotate_left
                · (intro w hSw; (try dsimp only at hSw); go_simp; try with_reducible rfl)
                try simp only [Act.put, List.setIfInBounds_toArray, List.set_cons_zero, List.set_cons_succ]
                refine wpAnyH_take (i := 1) (v := ?_) (by simp only [List.getElem?_toArray, List.getElem?_cons_succ, List.getElem?_cons_zero]; exact rfl) (by decide +kernel) (by decide +kernel) (by decide +kernel) (by exact fun _ _ _ h => h) (Or.inl ⟨by rfl, ?_⟩) (by assumption) ?_
                rotate_left
                · (intro w hSw; (try dsimp only at hSw); go_simp; try with_reducible rfl)
                try simp only [Act.put, List.setIfInBounds_toArray, List.set_cons_zero, List.set_cons_succ]
                refine wpAnyH_take (i := 2) (v := ?_) (by simp only [List.getElem?_toArray, List.getElem?_cons_succ, List.getElem?_cons_zero]; exact rfl) (by decide +kernel) (by decide +kernel) (by decide +kernel) (by exact fun _ _ _ h => h) (Or.inl ⟨by rfl, ?_⟩) (by assumption) ?_
                rotate_left
                · (intro w hSw; (try dsimp only at hSw); go_simp; try with_reducible rfl)
                try simp only [Act.put, List.setIfInBounds_toArray, List.set_cons_zero, List.set_cons_succ]
                refine wpAnyH_take (i := 3) (v := ?_) (by simp only [List.getElem?_toArray, List.getElem?_cons_succ, List.getElem?_cons_zero]; exact rfl) (by decide +kernel) (by decide +kernel) (by decide +kernel) (by exact fun _ _ _ h => h) (Or.inl ⟨by rfl, ?_⟩) (by assumption) ?_
                rotate_left
                · (intro w hSw; (try dsimp only at hSw); go_simp; try with_reducible rfl)
                try simp only [Act.put, List.setIfInBounds_toArray, List.set_cons_zero, List.set_cons_succ]
                refine wpAnyH_take (i := 4) (v := ?_) (by simp only [List.getElem?_toArray, List.getElem?_cons_succ, List.getElem?_cons_zero]; exact rfl) (by decide +kernel) (by decide +kernel) (by decide +kernel) (by exact fun _ _ _ h => h) (Or.inl ⟨by rfl, ?_⟩) (by assumption) ?_
                rotate_left
                · (intro w hSw; (try dsimp only at hSw); go_simp; try with_reducible rfl)
                try simp only [Act.put, List.setIfInBounds_toArray, List.set_cons_zero, List.set_cons_succ]
                refine wpAnyH_take (i := 5) (v := ?_) (by simp only [List.getElem?_toArray, List.getElem?_cons_succ, List.getElem?_cons_zero]; exact rfl) (by decide +kernel) (by decide +kernel) (by decide +kernel) (by exact fun _ _ _ h => h) (Or.inl ⟨by rfl, ?_⟩) (by assumption) ?_
                rotate_left
                · (intro w hSw; (try dsimp only at hSw); go_simp; try with_reducible rfl)
                try simp only [Act.put, List.setIfInBounds_toArray, List.set_cons_zero, List.set_cons_succ]
                refine wpAnyH_take (i := 6) (v := ?_) (by simp only [List.getElem?_toArray, List.getElem?_cons_succ, List.getElem?_cons_zero]; exact rfl) (by decide +kernel) (by decide +kernel) (by decide +kernel) (by exact fun _ _ _ h => h) (Or.inl ⟨by rfl, ?_⟩) (by assumption) ?_
                rotate_left
                · (intro w hSw; (try dsimp only at hSw); go_simp; try with_reducible rfl)
                try simp only [Act.put, List.setIfInBounds_toArray, List.set_cons_zero, List.set_cons_succ]
                refine wpAnyH_take (i := 7) (v := ?_) (by simp only [List.getElem?_toArray, List.getElem?_cons_succ, List.getElem?_cons_zero]; exact rfl) (by decide +kernel) (by decide +kernel) (by decide +kernel) (by exact fun _ _ _ h => h) (Or.inl ⟨by rfl, ?_⟩) (by assumption) ?_
                rotate_left
                · (intro w hSw; (try dsimp only at hSw); go_simp; try with_reducible rfl)
                try simp only [Act.put, List.setIfInBounds_toArray, List.set_cons_zero, List.set_cons_succ]
                refine wpAnyH_take (i := 8) (v := ?_) (by simp only [List.getElem?_toArray, List.getElem?_cons_succ, List.getElem?_cons_zero]; exact rfl) (by decide +kernel) (by decide +kernel) (by decide +kernel) (by exact fun _ _ _ h => h) (Or.inl ⟨by rfl, ?_⟩) (by assumption) ?_
                rotate_left
                · (intro w hSw; (try dsimp only at hSw); go_simp; try with_reducible rfl)
                try simp only [Act.put, List.setIfInBounds_toArray, List.set_cons_zero, List.set_cons_succ]
                refine wpAnyH_take (i := 9) (v := ?_) (by simp only [List.getElem?_toArray, List.getElem?_cons_succ, List.getElem?_cons_zero]; exact rfl) (by decide +kernel) (by decide +kernel) (by decide +kernel) (by exact fun _ _ _ h => h) (Or.inl ⟨by rfl, ?_⟩) (by assumption) ?_
                rotate_left
                · (intro w hSw; (try dsimp only at hSw); go_simp; try with_reducible rfl)
                try simp only [Act.put, List.setIfInBounds_toArray, List.set_cons_zero, List.set_cons_succ]
                refine wpAnyH_take (i := 10) (v := ?_) (by simp only [List.getElem?_toArray, List.getElem?_cons_succ, List.getElem?_cons_zero]; exact rfl) (by decide +kernel) (by decide +kernel) (by decide +kernel) (by exact fun _ _ _ h => h) (Or.inl ⟨by rfl, ?_⟩) (by assumption) ?_
                rotate_left
                · (intro w hSw; (try dsimp only at hSw); go_simp; try with_reducible rfl)
                try simp only [Act.put, List.setIfInBounds_toArray, List.set_cons_zero, List.set_cons_succ]
                refine wpAnyH_take (i := 11) (v := ?_) (by simp only [List.getElem?_toArray, List.getElem?_cons_succ, List.getElem?_cons_zero]; exact rfl) (by decide +kernel) (by decide +kernel) (by decide +kernel) (by exact fun _ _ _ h => h) (Or.inl ⟨by rfl, ?_⟩) (by assumption) ?_
                rotate_left
                · (intro w hSw; (try dsimp only at hSw); go_simp; try with_reducible rfl)
                try simp only [Act.put, List.setIfInBounds_toArray, List.set_cons_zero, List.set_cons_succ]
                refine wpAnyH_take (i := 12) (v := ?_) (by simp only [List.getElem?_toArray, List.getElem?_cons_succ, List.getElem?_cons_zero]; exact rfl) (by decide +kernel) (by decide +kernel) (by decide +kernel) (by exact fun _ _ _ h => h) (Or.inl ⟨by rfl, ?_⟩) (by assumption) ?_
                rotate_left
                · (intro w hSw; (try dsimp only at hSw); go_simp; try with_reducible rfl)
                try simp only [Act.put, List.setIfInBounds_toArray, List.set_cons_zero, List.set_cons_succ]
                refine wpAnyH_take (i := 13) (v := ?_) (by simp only [List.getElem?_toArray, List.getElem?_cons_succ, List.getElem?_cons_zero]; exact rfl) (by decide +kernel) (by decide +kernel) (by decide +kernel) (by exact fun _ _ _ h => h) (Or.inl ⟨by rfl, ?_⟩) (by assumption) ?_
                rotate_left
                · (intro w hSw; (try dsimp only at hSw); go_simp; try with_reducible rfl)
                try simp only [Act.put, List.setIfInBounds_toArray, List.set_cons_zero, List.set_cons_succ]
                refine wpAnyH_take (i := 14) (v := ?_) (by simp only [List.getElem?_toArray, List.getElem?_cons_succ, List.getElem?_cons_zero]; exact rfl) (by decide +kernel) (by decide +kernel) (by decide +kernel) (by exact fun _ _ _ h => h) (Or.inl ⟨by rfl, ?_⟩) (by assumption) ?_
                rotate_left
                · (intro w hSw; (try dsimp only at hSw); go_simp; try with_reducible rfl)
                try simp only [Act.put, List.setIfInBounds_toArray, List.set_cons_zero, List.set_cons_succ]
                refine wpAnyH_take (i := 15) (v := ?_) (by simp only [List.getElem?_toArray, List.getElem?_cons_succ, List.getElem?_cons_zero]; exact rfl) (by decide +kernel) (by decide +kernel) (by decide +kernel) (by exact fun _ _ _ h => h) (Or.inl ⟨by rfl, ?_⟩) (by assumption) ?_
                rotate_left
                · (intro w hSw; (try dsimp only at hSw); go_simp; try with_reducible rfl)
                try simp only [Act.put, List.setIfInBounds_toArray, List.set_cons_zero, List.set_cons_succ]
                refine wpAnyH_take (i := 16) (v := ?_) (by simp only [List.getElem?_toArray, List.getElem?_cons_succ, List.getElem?_cons_zero]; exact rfl) (by decide +kernel) (by decide +kernel) (by decide +kernel) (by exact fun _ _ _ h => h) (Or.inl ⟨by rfl, ?_⟩) (by assumption) ?_
                rotate_left
                · (intro w hSw; (try dsimp only at hSw); go_simp; try with_reducible rfl)
                try simp only [Act.put, List.setIfInBounds_toArray, List.set_cons_zero, List.set_cons_succ]
                refine wpAnyH_ready (rs := [17]) (by kernel_rfl) (by simp) ?_
                refine AllReadyH.cons (by simp only [List.getElem?_toArray, List.getElem?_cons_succ, List.getElem?_cons_zero]; exact rfl) (fun K hK => ?_) AllReadyH.nil
                go_simp
                go_at_call 19
                refine (HSELF.out _ hHeld.2.2.2.2.2.2).mono ?_
                rintro e w8 ⟨rfl, hb8⟩
                have HS8 := SST.out _ _ w8 hHeld hb8
                clear hb8
                go_wp2_with fail
                refine hK.out _ _ (by exact HS8) (fun hHeld => ?_)
                clear hK K
                try simp only [Act.put, List.setIfInBounds_toArray, List.set_cons_zero, List.set_cons_succ]
                refine wpAnyH_take (i := 18) (v := ?_) (by simp only [List.getElem?_toArray, List.getElem?_cons_succ, List.getElem?_cons_zero]; exact rfl) (by decide +kernel) (by decide +kernel) (by decide +kernel) (by exact fun _ _ _ h => h) (Or.inl ⟨by rfl, ?_⟩) (by assumption) ?_
                rotate_left
                · (intro w hSw; (try dsimp only at hSw); go_simp; try with_reducible rfl)
                try simp only [Act.put, List.setIfInBounds_toArray, List.set_cons_zero, List.set_cons_succ]
                refine wpAnyH_take (i := 19) (v := ?_) (by simp only [List.getElem?_toArray, List.getElem?_cons_succ, List.getElem?_cons_zero]; exact rfl) (by decide +kernel) (by decide +kernel) (by decide +kernel) (by exact fun _ _ _ h => h) (Or.inl ⟨by rfl, ?_⟩) (by assumption) ?_
                rotate_left
                · (intro w hSw; (try dsimp only at hSw); go_simp; try with_reducible rfl)
                try simp only [Act.put, List.setIfInBounds_toArray, List.set_cons_zero, List.set_cons_succ]
                refine wpAnyH_take (i := 20) (v := ?_) (by simp only [List.getElem?_toArray, List.getElem?_cons_succ, List.getElem?_cons_zero]; exact rfl) (by decide +kernel) (by decide +kernel) (by decide +kernel) (by exact fun _ _ _ h => h) (Or.inl ⟨by rfl, ?_⟩) (by assumption) ?_
                rotate_left
                · (intro w hSw; (try dsimp only at hSw); go_simp; try with_reducible rfl)
                try simp only [Act.put, List.setIfInBounds_toArray, List.set_cons_zero, List.set_cons_succ]
                refine wpAnyH_take (i := 21) (v := ?_) (by simp only [List.getElem?_toArray, List.getElem?_cons_succ, List.getElem?_cons_zero]; exact rfl) (by decide +kernel) (by decide +kernel) (by decide +kernel) (by exact fun _ _ _ h => h) (Or.inl ⟨by rfl, ?_⟩) (by assumption) ?_
                rotate_left
                · (intro w hSw; (try dsimp only at hSw); go_simp; try with_reducible rfl)
                try simp only [Act.put, List.setIfInBounds_toArray, List.set_cons_zero, List.set_cons_succ]
                refine wpAnyH_take (i := 22) (v := ?_) (by simp only [List.getElem?_toArray, List.getElem?_cons_succ, List.getElem?_cons_zero]; exact rfl) (by decide +kernel) (by decide +kernel) (by decide +kernel) (by exact fun _ _ _ h => h) (Or.inl ⟨by rfl, ?_⟩) (by assumption) ?_
                rotate_left
                · (intro w hSw; (try dsimp only at hSw); go_simp; try with_reducible rfl)
                try simp only [Act.put, List.setIfInBounds_toArray, List.set_cons_zero, List.set_cons_succ]
                refine wpAnyH_take (i := 23) (v := ?_) (by simp only [List.getElem?_toArray, List.getElem?_cons_succ, List.getElem?_cons_zero]; exact rfl) (by decide +kernel) (by decide +kernel) (by decide +kernel) (by exact fun _ _ _ h => h) (Or.inl ⟨by rfl, ?_⟩) (by assumption) ?_
                rotate_left
                · (intro w hSw; (try dsimp only at hSw); go_simp; try with_reducible rfl)
                try simp only [Act.put, List.setIfInBounds_toArray, List.set_cons_zero, List.set_cons_succ]
                refine wpAnyH_take (i := 24) (v := ?_) (by simp only [List.getElem?_toArray, List.getElem?_cons_succ, List.getElem?_cons_zero]; exact rfl) (by decide +kernel) (by decide +kernel) (by decide +kernel) (by exact fun _ _ _ h => h) (Or.inl ⟨by rfl, ?_⟩) (by assumption) ?_
                rotate_left
                · (intro w hSw; (try dsimp only at hSw); go_simp; try with_reducible rfl)
                try simp only [Act.put, List.setIfInBounds_toArray, List.set_cons_zero, List.set_cons_succ]
                refine wpAnyH_take (i := 25) (v := ?_) (by simp only [List.getElem?_toArray, List.getElem?_cons_succ, List.getElem?_cons_zero]; exact rfl) (by decide +kernel) (by decide +kernel) (by decide +kernel) (by exact fun _ _ _ h => h) (Or.inl ⟨by rfl, ?_⟩) (by assumption) ?_
                rotate_left
                · (intro w hSw; (try dsimp only at hSw); go_simp; try with_reducible rfl)
                try simp only [Act.put, List.setIfInBounds_toArray, List.set_cons_zero, List.set_cons_succ]
                refine wpAnyH_take (i := 26) (v := ?_) (by simp only [List.getElem?_toArray, List.getElem?_cons_succ, List.getElem?_cons_zero]; exact rfl) (by decide +kernel) (by decide +kernel) (by decide +kernel) (by exact fun _ _ _ h => h) (Or.inl ⟨by rfl, ?_⟩) (by assumption) ?_
                rotate_left
                · (intro w hSw; (try dsimp only at hSw); go_simp; try with_reducible rfl)
                try simp only [Act.put, List.setIfInBounds_toArray, List.set_cons_zero, List.set_cons_succ]
                refine wpAnyH_take (i := 27) (v := ?_) (by simp only [List.getElem?_toArray, List.getElem?_cons_succ, List.getElem?_cons_zero]; exact rfl) (by decide +kernel) (by decide +kernel) (by decide +kernel) (by exact fun _ _ _ h => h) (Or.inl ⟨by rfl, ?_⟩) (by assumption) ?_
                rotate_left
                · (intro w hSw; (try dsimp only at hSw); go_simp; try with_reducible rfl)
                try simp only [Act.put, List.setIfInBounds_toArray, List.set_cons_zero, List.set_cons_succ]
                refine wpAnyH_ready (rs := [28]) (by kernel_rfl) (by simp) ?_
                refine AllReadyH.cons (by simp only [List.getElem?_toArray, List.getElem?_cons_succ, List.getElem?_cons_zero]; exact rfl) (fun K hK => ?_) AllReadyH.nil
                go_simp
                go_at_call 19
                refine (HSELF.out _ hHeld.2.2.2.2.2.2).mono ?_
                rintro e w8 ⟨rfl, hb8⟩
                have HS8 := SST.out _ _ w8 hHeld hb8
                clear hb8
                go_wp2_with fail
                refine hK.out _ _ (by exact HS8) (fun hHeld => ?_)
                clear hK K
                try simp only [Act.put, List.setIfInBounds_toArray, List.set_cons_zero, List.set_cons_succ]
                refine wpAnyH_take (i := 29) (v := ?_) (by simp only [List.getElem?_toArray, List.getElem?_cons_succ, List.getElem?_cons_zero]; exact rfl) (by decide +kernel) (by decide +kernel) (by decide +kernel) (by exact fun _ _ _ h => h) (Or.inl ⟨by rfl, ?_⟩) (by assumption) ?_
                rotate_left
                · (intro w hSw; (try dsimp only at hSw); go_simp; try with_reducible rfl)
                try simp only [Act.put, List.setIfInBounds_toArray, List.set_cons_zero, List.set_cons_succ]
                refine wpAnyH_take (i := 30) (v := ?_) (by simp only [List.getElem?_toArray, List.getElem?_cons_succ, List.getElem?_cons_zero]; exact rfl) (by decide +kernel) (by decide +kernel) (by decide +kernel) (by exact fun _ _ _ h => h) (Or.inl ⟨by rfl, ?_⟩) (by assumption) ?_
                rotate_left
                · (intro w hSw; (try dsimp only at hSw); go_simp; try with_reducible rfl)
                try simp only [Act.put, List.setIfInBounds_toArray, List.set_cons_zero, List.set_cons_succ]
                refine wpAnyH_take (i := 31) (v := ?_) (by simp only [List.getElem?_toArray, List.getElem?_cons_succ, List.getElem?_cons_zero]; exact rfl) (by decide +kernel) (by decide +kernel) (by decide +kernel) (by exact fun _ _ _ h => h) (Or.inl ⟨by rfl, ?_⟩) (by assumption) ?_
                rotate_left
                · (intro w hSw; (try dsimp only at hSw); go_simp; try with_reducible rfl)
                try simp only [Act.put, List.setIfInBounds_toArray, List.set_cons_zero, List.set_cons_succ]
                refine wpAnyH_take (i := 32) (v := ?_) (by simp only [List.getElem?_toArray, List.getElem?_cons_succ, List.getElem?_cons_zero]; exact rfl) (by decide +kernel) (by decide +kernel) (by decide +kernel) (by exact fun _ _ _ h => h) (Or.inl ⟨by rfl, ?_⟩) (by assumption) ?_
                rotate_left
                · (intro w hSw; (try dsimp only at hSw); go_simp; try with_reducible rfl)
                try simp only [Act.put, List.setIfInBounds_toArray, List.set_cons_zero, List.set_cons_succ]
                refine wpAnyH_take (i := 33) (v := ?_) (by simp only [List.getElem?_toArray, List.getElem?_cons_succ, List.getElem?_cons_zero]; exact rfl) (by decide +kernel) (by decide +kernel) (by decide +kernel) (by exact fun _ _ _ h => h) (Or.inl ⟨by rfl, ?_⟩) (by assumption) ?_
                rotate_left
                · (intro w hSw; (try dsimp only at hSw); go_simp; try with_reducible rfl)
                try simp only [Act.put, List.setIfInBounds_toArray, List.set_cons_zero, List.set_cons_succ]
                refine wpAnyH_take (i := 34) (v := ?_) (by simp only [List.getElem?_toArray, List.getElem?_cons_succ, List.getElem?_cons_zero]; exact rfl) (by decide +kernel) (by decide +kernel) (by decide +kernel) (by exact fun _ _ _ h => h) (Or.inl ⟨by rfl, ?_⟩) (by assumption) ?_
                rotate_left
                · (intro w hSw; (try dsimp only at hSw); go_simp; try with_reducible rfl)
                try simp only [Act.put, List.setIfInBounds_toArray, List.set_cons_zero, List.set_cons_succ]
                refine wpAnyH_take (i := 35) (v := ?_) (by simp only [List.getElem?_toArray, List.getElem?_cons_succ, List.getElem?_cons_zero]; exact rfl) (by decide +kernel) (by decide +kernel) (by decide +kernel) (by exact fun _ _ _ h => h) (Or.inl ⟨by rfl, ?_⟩) (by assumption) ?_
                rotate_left
                · (intro w hSw; (try dsimp only at hSw); go_simp; try with_reducible rfl)
                try simp only [Act.put, List.setIfInBounds_toArray, List.set_cons_zero, List.set_cons_succ]
                refine wpAnyH_take (i := 36) (v := ?_) (by simp only [List.getElem?_toArray, List.getElem?_cons_succ, List.getElem?_cons_zero]; exact rfl) (by decide +kernel) (by decide +kernel) (by decide +kernel) (by exact fun _ _ _ h => h) (Or.inl ⟨by rfl, ?_⟩) (by assumption) ?_
                rotate_left
                · (intro w hSw; (try dsimp only at hSw); go_simp; try with_reducible rfl)
                try simp only [Act.put, List.setIfInBounds_toArray, List.set_cons_zero, List.set_cons_succ]
                refine wpAnyH_take (i := 37) (v := ?_) (by simp only [List.getElem?_toArray, List.getElem?_cons_succ, List.getElem?_cons_zero]; exact rfl) (by decide +kernel) (by decide +kernel) (by decide +kernel) (by exact fun _ _ _ h => h) (Or.inl ⟨by rfl, ?_⟩) (by assumption) ?_
                rotate_left
                · (intro w hSw; (try dsimp only at hSw); go_simp; try with_reducible rfl)
                try simp only [Act.put, List.setIfInBounds_toArray, List.set_cons_zero, List.set_cons_succ]
                refine wpAnyH_take (i := 38) (v := ?_) (by simp only [List.getElem?_toArray, List.getElem?_cons_succ, List.getElem?_cons_zero]; exact rfl) (by decide +kernel) (by decide +kernel) (by decide +kernel) (by exact fun _ _ _ h => h) (Or.inl ⟨by rfl, ?_⟩) (by assumption) ?_
                rotate_left
                · (intro w hSw; (try dsimp only at hSw); go_simp; try with_reducible rfl)
                try simp only [Act.put, List.setIfInBounds_toArray, List.set_cons_zero, List.set_cons_succ]
                refine wpAnyH_take (i := 39) (v := ?_) (by simp only [List.getElem?_toArray, List.getElem?_cons_succ, List.getElem?_cons_zero]; exact rfl) (by decide +kernel) (by decide +kernel) (by decide +kernel) (by exact fun _ _ _ h => h) (Or.inl ⟨by rfl, ?_⟩) (by assumption) ?_
                rotate_left
                · (intro w hSw; (try dsimp only at hSw); go_simp; try with_reducible rfl)
                try simp only [Act.put, List.setIfInBounds_toArray, List.set_cons_zero, List.set_cons_succ]
                refine wpAnyH_take (i := 40) (v := ?_) (by simp only [List.getElem?_toArray, List.getElem?_cons_succ, List.getElem?_cons_zero]; exact rfl) (by decide +kernel) (by decide +kernel) (by decide +kernel) (by exact fun _ _ _ h => h) (Or.inl ⟨by rfl, ?_⟩) (by assumption) ?_
                rotate_left
                · (intro w hSw; (try dsimp only at hSw); go_simp; try with_reducible rfl)
                try simp only [Act.put, List.setIfInBounds_toArray, List.set_cons_zero, List.set_cons_succ]
                refine wpAnyH_take (i := 41) (v := ?_) (by simp only [List.getElem?_toArray, List.getElem?_cons_succ, List.getElem?_cons_zero]; exact rfl) (by decide +kernel) (by decide +kernel) (by decide +kernel) (by exact fun _ _ _ h => h) (Or.inl ⟨by rfl, ?_⟩) (by assumption) ?_
                rotate_left
                · (intro w hSw; (try dsimp only at hSw); go_simp; try with_reducible rfl)
                try simp only [Act.put, List.setIfInBounds_toArray, List.set_cons_zero, List.set_cons_succ]
                refine wpAnyH_take (i := 42) (v := ?_) (by simp only [List.getElem?_toArray, List.getElem?_cons_succ, List.getElem?_cons_zero]; exact rfl) (by decide +kernel) (by decide +kernel) (by decide +kernel) (by exact fun _ _ _ h => h) (Or.inl ⟨by rfl, ?_⟩) (by assumption) ?_
                rotate_left
                · (intro w hSw; (try dsimp only at hSw); go_simp; try with_reducible rfl)
                try simp only [Act.put, List.setIfInBounds_toArray, List.set_cons_zero, List.set_cons_succ]
                refine wpAnyH_take (i := 43) (v := ?_) (by simp only [List.getElem?_toArray, List.getElem?_cons_succ, List.getElem?_cons_zero]; exact rfl) (by decide +kernel) (by decide +kernel) (by decide +kernel) (by exact fun _ _ _ h => h) (Or.inl ⟨by rfl, ?_⟩) (by assumption) ?_
                rotate_left
                · (intro w hSw; (try dsimp only at hSw); go_simp; try with_reducible rfl)
                try simp only [Act.put, List.setIfInBounds_toArray, List.set_cons_zero, List.set_cons_succ]
                refine wpAnyH_take (i := 44) (v := ?_) (by simp only [List.getElem?_toArray, List.getElem?_cons_succ, List.getElem?_cons_zero]; exact rfl) (by decide +kernel) (by decide +kernel) (by decide +kernel) (by exact fun _ _ _ h => h) (Or.inl ⟨by rfl, ?_⟩) (by assumption) ?_
                rotate_left
                · (intro w hSw; (try dsimp only at hSw); go_simp; try with_reducible rfl)
                try simp only [Act.put, List.setIfInBounds_toArray, List.set_cons_zero, List.set_cons_succ]
                refine wpAnyH_take (i := 45) (v := ?_) (by simp only [List.getElem?_toArray, List.getElem?_cons_succ, List.getElem?_cons_zero]; exact rfl) (by decide +kernel) (by decide +kernel) (by decide +kernel) (by exact fun _ _ _ h => h) (Or.inl ⟨by rfl, ?_⟩) (by assumption) ?_
                rotate_left
                · (intro w hSw; (try dsimp only at hSw); go_simp; try with_reducible rfl)
                try simp only [Act.put, List.setIfInBounds_toArray, List.set_cons_zero, List.set_cons_succ]
                refine wpAnyH_take (i := 46) (v := ?_) (by simp only [List.getElem?_toArray, List.getElem?_cons_succ, List.getElem?_cons_zero]; exact rfl) (by decide +kernel) (by decide +kernel) (by decide +kernel) (by exact fun _ _ _ h => h) (Or.inl ⟨by rfl, ?_⟩) (by assumption) ?_
                rotate_left
                · (intro w hSw; (try dsimp only at hSw); go_simp; try with_reducible rfl)
                try simp only [Act.put, List.setIfInBounds_toArray, List.set_cons_zero, List.set_cons_succ]
                refine wpAnyH_take (i := 47) (v := ?_) (by simp only [List.getElem?_toArray, List.getElem?_cons_succ, List.getElem?_cons_zero]; exact rfl) (by decide +kernel) (by decide +kernel) (by decide +kernel) (by exact fun _ _ _ h => h) (Or.inl ⟨by rfl, ?_⟩) (by assumption) ?_
                rotate_left
                · (intro w hSw; (try dsimp only at hSw); go_simp; try with_reducible rfl)
                try simp only [Act.put, List.setIfInBounds_toArray, List.set_cons_zero, List.set_cons_succ]
                refine wpAnyH_take (i := 48) (v := ?_) (by simp only [List.getElem?_toArray, List.getElem?_cons_succ, List.getElem?_cons_zero]; exact rfl) (by decide +kernel) (by decide +kernel) (by decide +kernel) (by exact fun _ _ _ h => h) (Or.inl ⟨by rfl, ?_⟩) (by assumption) ?_
                rotate_left
                · (intro w hSw; (try dsimp only at hSw); go_simp; try with_reducible rfl)
                try simp only [Act.put, List.setIfInBounds_toArray, List.set_cons_zero, List.set_cons_succ]
                refine wpAnyH_take (i := 49) (v := ?_) (by simp only [List.getElem?_toArray, List.getElem?_cons_succ, List.getElem?_cons_zero]; exact rfl) (by decide +kernel) (by decide +kernel) (by decide +kernel) (by exact fun _ _ _ h => h) (Or.inl ⟨by rfl, ?_⟩) (by assumption) ?_
                rotate_left
                · (intro w hSw; (try dsimp only at hSw); go_simp; try with_reducible rfl)
                try simp only [Act.put, List.setIfInBounds_toArray, List.set_cons_zero, List.set_cons_succ]
                refine wpAnyH_take (i := 50) (v := ?_) (by simp only [List.getElem?_toArray, List.getElem?_cons_succ, List.getElem?_cons_zero]; exact rfl) (by decide +kernel) (by decide +kernel) (by decide +kernel) (by exact fun _ _ _ h => h) (Or.inl ⟨by rfl, ?_⟩) (by assumption) ?_
                rotate_left
                · (intro w hSw; (try dsimp only at hSw); go_simp; try with_reducible rfl)
                try simp only [Act.put, List.setIfInBounds_toArray, List.set_cons_zero, List.set_cons_succ]
                refine wpAnyH_take (i := 51) (v := ?_) (by simp only [List.getElem?_toArray, List.getElem?_cons_succ, List.getElem?_cons_zero]; exact rfl) (by decide +kernel) (by decide +kernel) (by decide +kernel) (by exact fun _ _ _ h => h) (Or.inl ⟨by rfl, ?_⟩) (by assumption) ?_
                rotate_left
                · (intro w hSw; (try dsimp only at hSw); go_simp; try with_reducible rfl)
                try simp only [Act.put, List.setIfInBounds_toArray, List.set_cons_zero, List.set_cons_succ]
                refine wpAnyH_take (i := 52) (v := ?_) (by simp only [List.getElem?_toArray, List.getElem?_cons_succ, List.getElem?_cons_zero]; exact rfl) (by decide +kernel) (by decide +kernel) (by decide +kernel) (by exact fun _ _ _ h => h) (Or.inl ⟨by rfl, ?_⟩) (by assumption) ?_
                rotate_left
                · (intro w hSw; (try dsimp only at hSw); go_simp; try with_reducible rfl)
                try simp only [Act.put, List.setIfInBounds_toArray, List.set_cons_zero, List.set_cons_succ]
                refine wpAnyH_take (i := 53) (v := ?_) (by simp only [List.getElem?_toArray, List.getElem?_cons_succ, List.getElem?_cons_zero]; exact rfl) (by decide +kernel) (by decide +kernel) (by decide +kernel) (by exact fun _ _ _ h => h) (Or.inl ⟨by rfl, ?_⟩) (by assumption) ?_
                rotate_left
                · (intro w hSw; (try dsimp only at hSw); go_simp; try with_reducible rfl)
                try simp only [Act.put, List.setIfInBounds_toArray, List.set_cons_zero, List.set_cons_succ]
                refine wpAnyH_take (i := 54) (v := ?_) (by simp only [List.getElem?_toArray, List.getElem?_cons_succ, List.getElem?_cons_zero]; exact rfl) (by decide +kernel) (by decide +kernel) (by decide +kernel) (by exact fun _ _ _ h => h) (Or.inl ⟨by rfl, ?_⟩) (by assumption) ?_
                rotate_left
                · (intro w hSw; (try dsimp only at hSw); go_simp; try with_reducible rfl)
                try simp only [Act.put, List.setIfInBounds_toArray, List.set_cons_zero, List.set_cons_succ]
                refine wpAnyH_take (i := 55) (v := ?_) (by simp only [List.getElem?_toArray, List.getElem?_cons_succ, List.getElem?_cons_zero]; exact rfl) (by decide +kernel) (by decide +kernel) (by decide +kernel) (by exact fun _ _ _ h => h) (Or.inl ⟨by rfl, ?_⟩) (by assumption) ?_
                rotate_left
                · (intro w hSw; (try dsimp only at hSw); go_simp; try with_reducible rfl)
                try simp only [Act.put, List.setIfInBounds_toArray, List.set_cons_zero, List.set_cons_succ]
                refine wpAnyH_take (i := 56) (v := ?_) (by simp only [List.getElem?_toArray, List.getElem?_cons_succ, List.getElem?_cons_zero]; exact rfl) (by decide +kernel) (by decide +kernel) (by decide +kernel) (by exact fun _ _ _ h => h) (Or.inl ⟨by rfl, ?_⟩) (by assumption) ?_
                rotate_left
                · (intro w hSw; (try dsimp only at hSw); go_simp; try with_reducible rfl)
                try simp only [Act.put, List.setIfInBounds_toArray, List.set_cons_zero, List.set_cons_succ]
                refine wpAnyH_take (i := 57) (v := ?_) (by simp only [List.getElem?_toArray, List.getElem?_cons_succ, List.getElem?_cons_zero]; exact rfl) (by decide +kernel) (by decide +kernel) (by decide +kernel) (by exact fun _ _ _ h => h) (Or.inl ⟨by rfl, ?_⟩) (by assumption) ?_
                rotate_left
                · (intro w hSw; (try dsimp only at hSw); go_simp; try with_reducible rfl)
                try simp only [Act.put, List.setIfInBounds_toArray, List.set_cons_zero, List.set_cons_succ]
                refine wpAnyH_take (i := 58) (v := ?_) (by simp only [List.getElem?_toArray, List.getElem?_cons_succ, List.getElem?_cons_zero]; exact rfl) (by decide +kernel) (by decide +kernel) (by decide +kernel) (by exact fun _ _ _ h => h) (Or.inl ⟨by rfl, ?_⟩) (by assumption) ?_
                rotate_left
                · (intro w hSw; (try dsimp only at hSw); go_simp; try with_reducible rfl)
                try simp only [Act.put, List.setIfInBounds_toArray, List.set_cons_zero, List.set_cons_succ]
                refine wpAnyH_take (i := 59) (v := undef) (by simp only [List.getElem?_toArray, List.getElem?_cons_succ, List.getElem?_cons_zero]; exact rfl) (by decide +kernel) (by decide +kernel) (by decide +kernel) (by exact fun _ _ _ h => h) (Or.inr ⟨by rfl, rfl⟩) (by assumption) ?_
                try simp only [Act.put, List.setIfInBounds_toArray, List.set_cons_zero, List.set_cons_succ]
                refine wpAnyH_take (i := 60) (v := undef) (by simp only [List.getElem?_toArray, List.getElem?_cons_succ, List.getElem?_cons_zero]; exact rfl) (by decide +kernel) (by decide +kernel) (by decide +kernel) (by exact fun _ _ _ h => h) (Or.inr ⟨by rfl, rfl⟩) (by assumption) ?_
                try simp only [Act.put, List.setIfInBounds_toArray, List.set_cons_zero, List.set_cons_succ]
                refine wpAnyH_take (i := 61) (v := undef) (by simp only [List.getElem?_toArray, List.getElem?_cons_succ, List.getElem?_cons_zero]; exact rfl) (by decide +kernel) (by decide +kernel) (by decide +kernel) (by exact fun _ _ _ h => h) (Or.inr ⟨by rfl, rfl⟩) (by assumption) ?_
                try simp only [Act.put, List.setIfInBounds_toArray, List.set_cons_zero, List.set_cons_succ]
                refine wpAnyH_take (i := 62) (v := undef) (by simp only [List.getElem?_toArray, List.getElem?_cons_succ, List.getElem?_cons_zero]; exact rfl) (by decide +kernel) (by decide +kernel) (by decide +kernel) (by exact fun _ _ _ h => h) (Or.inr ⟨by rfl, rfl⟩) (by assumption) ?_
                try simp only [Act.put, List.setIfInBounds_toArray, List.set_cons_zero, List.set_cons_succ]
                refine wpAnyH_take (i := 63) (v := undef) (by simp only [List.getElem?_toArray, List.getElem?_cons_succ, List.getElem?_cons_zero]; exact rfl) (by decide +kernel) (by decide +kernel) (by decide +kernel) (by exact fun _ _ _ h => h) (Or.inr ⟨by rfl, rfl⟩) (by assumption) ?_
                try simp only [Act.put, List.setIfInBounds_toArray, List.set_cons_zero, List.set_cons_succ]
                refine wpAnyH_take (i := 64) (v := undef) (by simp only [List.getElem?_toArray, List.getElem?_cons_succ, List.getElem?_cons_zero]; exact rfl) (by decide +kernel) (by decide +kernel) (by decide +kernel) (by exact fun _ _ _ h => h) (Or.inr ⟨by rfl, rfl⟩) (by assumption) ?_
                try simp only [Act.put, List.setIfInBounds_toArray, List.set_cons_zero, List.set_cons_succ]
                refine wpAnyH_take (i := 65) (v := undef) (by simp only [List.getElem?_toArray, List.getElem?_cons_succ, List.getElem?_cons_zero]; exact rfl) (by decide +kernel) (by decide +kernel) (by decide +kernel) (by exact fun _ _ _ h => h) (Or.inr ⟨by rfl, rfl⟩) (by assumption) ?_
                try simp only [Act.put, List.setIfInBounds_toArray, List.set_cons_zero, List.set_cons_succ]
                refine wpAnyH_take (i := 66) (v := undef) (by simp only [List.getElem?_toArray, List.getElem?_cons_succ, List.getElem?_cons_zero]; exact rfl) (by decide +kernel) (by decide +kernel) (by decide +kernel) (by exact fun _ _ _ h => h) (Or.inr ⟨by rfl, rfl⟩) (by assumption) ?_
                try simp only [Act.put, List.setIfInBounds_toArray, List.set_cons_zero, List.set_cons_succ]
                refine wpAnyH_take (i := 67) (v := ?_) (by simp only [List.getElem?_toArray, List.getElem?_cons_succ, List.getElem?_cons_zero]; exact rfl) (by decide +kernel) (by decide +kernel) (by decide +kernel) (by exact fun _ _ _ h => h) (Or.inl ⟨by rfl, ?_⟩) (by assumption) ?_
                rotate_left
                · (intro w hSw; (try dsimp only at hSw); go_simp; try with_reducible rfl)
                try simp only [Act.put, List.setIfInBounds_toArray, List.set_cons_zero, List.set_cons_succ]
                refine wpAnyH_take (i := 68) (v := ?_) (by simp only [List.getElem?_toArray, List.getElem?_cons_succ, List.getElem?_cons_zero]; exact rfl) (by decide +kernel) (by decide +kernel) (by decide +kernel) (by exact fun _ _ _ h => h) (Or.inl ⟨by rfl, ?_⟩) (by assumption) ?_
                rotate_left
                · (intro w hSw; (try dsimp only at hSw); go_simp; try with_reducible rfl)
                try simp only [Act.put, List.setIfInBounds_toArray, List.set_cons_zero, List.set_cons_succ]
                refine wpAnyH_done (by kernel_rfl) ?_ _
                have SF := Lib.hid hHeld.2.2.2.2.2.2
                clear HS8 hHeld
                go_wp2
                go_roundw
                case rel => exact ⟨i + 1, hil, by go_num, Lib.hid (below_then B6.out B6.out.size SF.out.2.2)⟩
                case measure => simp [intOf]; omega
              · skip
                have HS7 : Hid ((fun X => X.cell? ⟨b8, 1, none⟩ = some (.int .u8 m1) ∧ X.cell? ⟨b5, i * 7, none⟩ = some (.int .u16 xa) ∧ X.cell? ⟨g, 1, none⟩ = some (.pointer (some ⟨gt, 0, none⟩)) ∧ X.cell? ⟨wc.heap.size, 0, none⟩ = some (.int .u8 0) ∧ X.cell? ⟨wc.heap.size, 1, none⟩ = some (.int .u16 xf) ∧ X.cell? ⟨wc.heap.size, 2, none⟩ = some (.int .u16 xa) ∧ SB wr.heap.size wr X) (wc.alloc (Obj.cells #[.int .u8 0, .int .u16 xf, .int .u16 xa, .int .i64 xs, .slice none 0 0, .slice none 0 0] 67)).drew) := by
                  have BK7 : Blk (wc.alloc (Obj.cells #[.int .u8 0, .int .u16 xf, .int .u16 xa, .int .i64 xs, .slice none 0 0, .slice none 0 0] 67)) wc.heap.size 67 #[.int .u8 0, .int .u16 xf, .int .u16 xa, .int .i64 xs, .slice none 0 0, .slice none 0 0] := Blk.new_at rfl
                  have S7 : SB wr.heap.size wr (wc.alloc (Obj.cells #[.int .u8 0, .int .u16 xf, .int .u16 xa, .int .i64 xs, .slice none 0 0, .slice none 0 0] 67)) := sb_alloc HSW.out (Nat.le_refl _) _
                  exact Lib.hid ⟨(D8.out.alloc _).cell 1, (S7.1 b5 (i * 7) l5).trans HQ0.out, (S7.1 g 1 l6).trans HY1.out, BK7.cell 0, BK7.cell 1, BK7.cell 2, sb_drew S7⟩
                go_upto_region 16 with fail
                refine wp_region_held_drew (S := (fun X => X.cell? ⟨b8, 1, none⟩ = some (.int .u8 m1) ∧ X.cell? ⟨b5, i * 7, none⟩ = some (.int .u16 xa) ∧ X.cell? ⟨g, 1, none⟩ = some (.pointer (some ⟨gt, 0, none⟩)) ∧ X.cell? ⟨wc.heap.size, 0, none⟩ = some (.int .u8 0) ∧ X.cell? ⟨wc.heap.size, 1, none⟩ = some (.int .u16 xf) ∧ X.cell? ⟨wc.heap.size, 2, none⟩ = some (.int .u16 xa) ∧ SB wr.heap.size wr X)) (by kernel_rfl) (by exact HS7.out) (fun hHeld => ?_)
                refine wpAnyH_take (i := 0) (v := ?_) (by simp only [List.getElem?_toArray, List.getElem?_cons_succ, List.getElem?_cons_zero]; exact rfl) (by decide +kernel) (by decide +kernel) (by decide +kernel) (by exact fun _ _ _ h => h) (Or.inl ⟨by rfl, ?_⟩) (by assumption) ?_
                rotate_left
                · (intro w hSw; (try dsimp only at hSw); go_simp; try with_reducible rfl)
                try simp only [Act.put, List.setIfInBounds_toArray, List.set_cons_zero, List.set_cons_succ]
                refine wpAnyH_take (i := 1) (v := ?_) (by simp only [List.getElem?_toArray, List.getElem?_cons_succ, List.getElem?_cons_zero]; exact rfl) (by decide +kernel) (by decide +kernel) (by decide +kernel) (by exact fun _ _ _ h => h) (Or.inl ⟨by rfl, ?_⟩) (by assumption) ?_
                rotate_left
                · (intro w hSw; (try dsimp only at hSw); go_simp; try with_reducible rfl)
                try simp only [Act.put, List.setIfInBounds_toArray, List.set_cons_zero, List.set_cons_succ]
                refine wpAnyH_take (i := 2) (v := ?_) (by simp only [List.getElem?_toArray, List.getElem?_cons_succ, List.getElem?_cons_zero]; exact rfl) (by decide +kernel) (by decide +kernel) (by decide +kernel) (by exact fun _ _ _ h => h) (Or.inl ⟨by rfl, ?_⟩) (by assumption) ?_
                rotate_left
                · (intro w hSw; (try dsimp only at hSw); go_simp; try with_reducible rfl)
                try simp only [Act.put, List.setIfInBounds_toArray, List.set_cons_zero, List.set_cons_succ]
                refine wpAnyH_take (i := 3) (v := ?_) (by simp only [List.getElem?_toArray, List.getElem?_cons_succ, List.getElem?_cons_zero]; exact rfl) (by decide +kernel) (by decide +kernel) (by decide +kernel) (by exact fun _ _ _ h => h) (Or.inl ⟨by rfl, ?_⟩) (by assumption) ?_
                rotate_left
                · (intro w hSw; (try dsimp only at hSw); go_simp; try with_reducible rfl)
                try simp only [Act.put, List.setIfInBounds_toArray, List.set_cons_zero, List.set_cons_succ]
                refine wpAnyH_take (i := 4) (v := ?_) (by simp only [List.getElem?_toArray, List.getElem?_cons_succ, List.getElem?_cons_zero]; exact rfl) (by decide +kernel) (by decide +kernel) (by decide +kernel) (by exact fun _ _ _ h => h) (Or.inl ⟨by rfl, ?_⟩) (by assumption) ?_
                rotate_left
                · (intro w hSw; (try dsimp only at hSw); go_simp; try with_reducible rfl)
                try simp only [Act.put, List.setIfInBounds_toArray, List.set_cons_zero, List.set_cons_succ]
                refine wpAnyH_take (i := 5) (v := ?_) (by simp only [List.getElem?_toArray, List.getElem?_cons_succ, List.getElem?_cons_zero]; exact rfl) (by decide +kernel) (by decide +kernel) (by decide +kernel) (by exact fun _ _ _ h => h) (Or.inl ⟨by rfl, ?_⟩) (by assumption) ?_
                rotate_left
                · (intro w hSw; (try dsimp only at hSw); go_simp; try with_reducible rfl)
                try simp only [Act.put, List.setIfInBounds_toArray, List.set_cons_zero, List.set_cons_succ]
                refine wpAnyH_take (i := 6) (v := ?_) (by simp only [List.getElem?_toArray, List.getElem?_cons_succ, List.getElem?_cons_zero]; exact rfl) (by decide +kernel) (by decide +kernel) (by decide +kernel) (by exact fun _ _ _ h => h) (Or.inl ⟨by rfl, ?_⟩) (by assumption) ?_
                rotate_left
                · (intro w hSw; (try dsimp only at hSw); go_simp; try with_reducible rfl)
                try simp only [Act.put, List.setIfInBounds_toArray, List.set_cons_zero, List.set_cons_succ]
                refine wpAnyH_take (i := 7) (v := ?_) (by simp only [List.getElem?_toArray, List.getElem?_cons_succ, List.getElem?_cons_zero]; exact rfl) (by decide +kernel) (by decide +kernel) (by decide +kernel) (by exact fun _ _ _ h => h) (Or.inl ⟨by rfl, ?_⟩) (by assumption) ?_
                rotate_left
                · (intro w hSw; (try dsimp only at hSw); go_simp; try with_reducible rfl)
                try simp only [Act.put, List.setIfInBounds_toArray, List.set_cons_zero, List.set_cons_succ]
                refine wpAnyH_take (i := 8) (v := ?_) (by simp only [List.getElem?_toArray, List.getElem?_cons_succ, List.getElem?_cons_zero]; exact rfl) (by decide +kernel) (by decide +kernel) (by decide +kernel) (by exact fun _ _ _ h => h) (Or.inl ⟨by rfl, ?_⟩) (by assumption) ?_
                rotate_left
                · (intro w hSw; (try dsimp only at hSw); go_simp; try with_reducible rfl)
                try simp only [Act.put, List.setIfInBounds_toArray, List.set_cons_zero, List.set_cons_succ]
                refine wpAnyH_take (i := 9) (v := ?_) (by simp only [List.getElem?_toArray, List.getElem?_cons_succ, List.getElem?_cons_zero]; exact rfl) (by decide +kernel) (by decide +kernel) (by decide +kernel) (by exact fun _ _ _ h => h) (Or.inl ⟨by rfl, ?_⟩) (by assumption) ?_
                rotate_left
                · (intro w hSw; (try dsimp only at hSw); go_simp; try with_reducible rfl)
                try simp only [Act.put, List.setIfInBounds_toArray, List.set_cons_zero, List.set_cons_succ]
                refine wpAnyH_take (i := 10) (v := ?_) (by simp only [List.getElem?_toArray, List.getElem?_cons_succ, List.getElem?_cons_zero]; exact rfl) (by decide +kernel) (by decide +kernel) (by decide +kernel) (by exact fun _ _ _ h => h) (Or.inl ⟨by rfl, ?_⟩) (by assumption) ?_
                rotate_left
                · (intro w hSw; (try dsimp only at hSw); go_simp; try with_reducible rfl)
                try simp only [Act.put, List.setIfInBounds_toArray, List.set_cons_zero, List.set_cons_succ]
                refine wpAnyH_take (i := 11) (v := ?_) (by simp only [List.getElem?_toArray, List.getElem?_cons_succ, List.getElem?_cons_zero]; exact rfl) (by decide +kernel) (by decide +kernel) (by decide +kernel) (by exact fun _ _ _ h => h) (Or.inl ⟨by rfl, ?_⟩) (by assumption) ?_
                rotate_left
                · (intro w hSw; (try dsimp only at hSw); go_simp; try with_reducible rfl)
                try simp only [Act.put, List.setIfInBounds_toArray, List.set_cons_zero, List.set_cons_succ]
                refine wpAnyH_take (i := 12) (v := ?_) (by simp only [List.getElem?_toArray, List.getElem?_cons_succ, List.getElem?_cons_zero]; exact rfl) (by decide +kernel) (by decide +kernel) (by decide +kernel) (by exact fun _ _ _ h => h) (Or.inl ⟨by rfl, ?_⟩) (by assumption) ?_
                rotate_left
                · (intro w hSw; (try dsimp only at hSw); go_simp; try with_reducible rfl)
                try simp only [Act.put, List.setIfInBounds_toArray, List.set_cons_zero, List.set_cons_succ]
                refine wpAnyH_take (i := 13) (v := ?_) (by simp only [List.getElem?_toArray, List.getElem?_cons_succ, List.getElem?_cons_zero]; exact rfl) (by decide +kernel) (by decide +kernel) (by decide +kernel) (by exact fun _ _ _ h => h) (Or.inl ⟨by rfl, ?_⟩) (by assumption) ?_
                rotate_left
                · (intro w hSw; (try dsimp only at hSw); go_simp; try with_reducible rfl)
                try simp only [Act.put, List.setIfInBounds_toArray, List.set_cons_zero, List.set_cons_succ]
                refine wpAnyH_take (i := 14) (v := ?_) (by simp only [List.getElem?_toArray, List.getElem?_cons_succ, List.getElem?_cons_zero]; exact rfl) (by decide +kernel) (by decide +kernel) (by decide +kernel) (by exact fun _ _ _ h => h) (Or.inl ⟨by rfl, ?_⟩) (by assumption) ?_
                rotate_left
                · (intro w hSw; (try dsimp only at hSw); go_simp; try with_reducible rfl)
                try simp only [Act.put, List.setIfInBounds_toArray, List.set_cons_zero, List.set_cons_succ]
                refine wpAnyH_take (i := 15) (v := ?_) (by simp only [List.getElem?_toArray, List.getElem?_cons_succ, List.getElem?_cons_zero]; exact rfl) (by decide +kernel) (by decide +kernel) (by decide +kernel) (by exact fun _ _ _ h => h) (Or.inl ⟨by rfl, ?_⟩) (by assumption) ?_
                rotate_left
                · (intro w hSw; (try dsimp only at hSw); go_simp; try with_reducible rfl)
                try simp only [Act.put, List.setIfInBounds_toArray, List.set_cons_zero, List.set_cons_succ]
                refine wpAnyH_take (i := 16) (v := ?_) (by simp only [List.getElem?_toArray, List.getElem?_cons_succ, List.getElem?_cons_zero]; exact rfl) (by decide +kernel) (by decide +kernel) (by decide +kernel) (by exact fun _ _ _ h => h) (Or.inl ⟨by rfl, ?_⟩) (by assumption) ?_
                rotate_left
                · (intro w hSw; (try dsimp only at hSw); go_simp; try with_reducible rfl)
                try simp only [Act.put, List.setIfInBounds_toArray, List.set_cons_zero, List.set_cons_succ]
                refine wpAnyH_ready (rs := [17]) (by kernel_rfl) (by simp) ?_
                refine AllReadyH.cons (by simp only [List.getElem?_toArray, List.getElem?_cons_succ, List.getElem?_cons_zero]; exact rfl) (fun K hK => ?_) AllReadyH.nil
                go_simp
                go_at_call 19
                refine (HSELF.out _ hHeld.2.2.2.2.2.2).mono ?_
                rintro e w8 ⟨rfl, hb8⟩
                have HS8 := SST.out _ _ w8 hHeld hb8
                clear hb8
                go_wp2_with fail
                refine hK.out _ _ (by exact HS8) (fun hHeld => ?_)
                clear hK K
                try simp only [Act.put, List.setIfInBounds_toArray, List.set_cons_zero, List.set_cons_succ]
                refine wpAnyH_take (i := 18) (v := ?_) (by simp only [List.getElem?_toArray, List.getElem?_cons_succ, List.getElem?_cons_zero]; exact rfl) (by decide +kernel) (by decide +kernel) (by decide +kernel) (by exact fun _ _ _ h => h) (Or.inl ⟨by rfl, ?_⟩) (by assumption) ?_
                rotate_left
                · (intro w hSw; (try dsimp only at hSw); go_simp; try with_reducible rfl)
                try simp only [Act.put, List.setIfInBounds_toArray, List.set_cons_zero, List.set_cons_succ]
                refine wpAnyH_take (i := 19) (v := ?_) (by simp only [List.getElem?_toArray, List.getElem?_cons_succ, List.getElem?_cons_zero]; exact rfl) (by decide +kernel) (by decide +kernel) (by decide +kernel) (by exact fun _ _ _ h => h) (Or.inl ⟨by rfl, ?_⟩) (by assumption) ?_
                rotate_left
                · (intro w hSw; (try dsimp only at hSw); go_simp; try with_reducible rfl)
                try simp only [Act.put, List.setIfInBounds_toArray, List.set_cons_zero, List.set_cons_succ]
                refine wpAnyH_take (i := 20) (v := ?_) (by simp only [List.getElem?_toArray, List.getElem?_cons_succ, List.getElem?_cons_zero]; exact rfl) (by decide +kernel) (by decide +kernel) (by decide +kernel) (by exact fun _ _ _ h => h) (Or.inl ⟨by rfl, ?_⟩) (by assumption) ?_
                rotate_left
                · (intro w hSw; (try dsimp only at hSw); go_simp; try with_reducible rfl)
                try simp only [Act.put, List.setIfInBounds_toArray, List.set_cons_zero, List.set_cons_succ]
                refine wpAnyH_take (i := 21) (v := ?_) (by simp only [List.getElem?_toArray, List.getElem?_cons_succ, List.getElem?_cons_zero]; exact rfl) (by decide +kernel) (by decide +kernel) (by decide +kernel) (by exact fun _ _ _ h => h) (Or.inl ⟨by rfl, ?_⟩) (by assumption) ?_
                rotate_left
                · (intro w hSw; (try dsimp only at hSw); go_simp; try with_reducible rfl)
                try simp only [Act.put, List.setIfInBounds_toArray, List.set_cons_zero, List.set_cons_succ]
                refine wpAnyH_take (i := 22) (v := ?_) (by simp only [List.getElem?_toArray, List.getElem?_cons_succ, List.getElem?_cons_zero]; exact rfl) (by decide +kernel) (by decide +kernel) (by decide +kernel) (by exact fun _ _ _ h => h) (Or.inl ⟨by rfl, ?_⟩) (by assumption) ?_
                rotate_left
                · (intro w hSw; (try dsimp only at hSw); go_simp; try with_reducible rfl)
                try simp only [Act.put, List.setIfInBounds_toArray, List.set_cons_zero, List.set_cons_succ]
                refine wpAnyH_take (i := 23) (v := ?_) (by simp only [List.getElem?_toArray, List.getElem?_cons_succ, List.getElem?_cons_zero]; exact rfl) (by decide +kernel) (by decide +kernel) (by decide +kernel) (by exact fun _ _ _ h => h) (Or.inl ⟨by rfl, ?_⟩) (by assumption) ?_
                rotate_left
                · (intro w hSw; (try dsimp only at hSw); go_simp; try with_reducible rfl)
                try simp only [Act.put, List.setIfInBounds_toArray, List.set_cons_zero, List.set_cons_succ]
                refine wpAnyH_take (i := 24) (v := ?_) (by simp only [List.getElem?_toArray, List.getElem?_cons_succ, List.getElem?_cons_zero]; exact rfl) (by decide +kernel) (by decide +kernel) (by decide +kernel) (by exact fun _ _ _ h => h) (Or.inl ⟨by rfl, ?_⟩) (by assumption) ?_
                rotate_left
                · (intro w hSw; (try dsimp only at hSw); go_simp; try with_reducible rfl)
                try simp only [Act.put, List.setIfInBounds_toArray, List.set_cons_zero, List.set_cons_succ]
                refine wpAnyH_take (i := 25) (v := ?_) (by simp only [List.getElem?_toArray, List.getElem?_cons_succ, List.getElem?_cons_zero]; exact rfl) (by decide +kernel) (by decide +kernel) (by decide +kernel) (by exact fun _ _ _ h => h) (Or.inl ⟨by rfl, ?_⟩) (by assumption) ?_
                rotate_left
                · (intro w hSw; (try dsimp only at hSw); go_simp; try with_reducible rfl)
                try simp only [Act.put, List.setIfInBounds_toArray, List.set_cons_zero, List.set_cons_succ]
                refine wpAnyH_take (i := 26) (v := ?_) (by simp only [List.getElem?_toArray, List.getElem?_cons_succ, List.getElem?_cons_zero]; exact rfl) (by decide +kernel) (by decide +kernel) (by decide +kernel) (by exact fun _ _ _ h => h) (Or.inl ⟨by rfl, ?_⟩) (by assumption) ?_
                rotate_left
                · (intro w hSw; (try dsimp only at hSw); go_simp; try with_reducible rfl)
                try simp only [Act.put, List.setIfInBounds_toArray, List.set_cons_zero, List.set_cons_succ]
                refine wpAnyH_take (i := 27) (v := ?_) (by simp only [List.getElem?_toArray, List.getElem?_cons_succ, List.getElem?_cons_zero]; exact rfl) (by decide +kernel) (by decide +kernel) (by decide +kernel) (by exact fun _ _ _ h => h) (Or.inl ⟨by rfl, ?_⟩) (by assumption) ?_
                rotate_left
                · (intro w hSw; (try dsimp only at hSw); go_simp; try with_reducible rfl)
                try simp only [Act.put, List.setIfInBounds_toArray, List.set_cons_zero, List.set_cons_succ]
                refine wpAnyH_ready (rs := [28]) (by kernel_rfl) (by simp) ?_
                refine AllReadyH.cons (by simp only [List.getElem?_toArray, List.getElem?_cons_succ, List.getElem?_cons_zero]; exact rfl) (fun K hK => ?_) AllReadyH.nil
                go_simp
                go_at_call 19
                refine (HSELF.out _ hHeld.2.2.2.2.2.2).mono ?_
                rintro e w8 ⟨rfl, hb8⟩
                have HS8 := SST.out _ _ w8 hHeld hb8
                clear hb8
                go_wp2_with fail
                refine hK.out _ _ (by exact HS8) (fun hHeld => ?_)
                clear hK K
                try simp only [Act.put, List.setIfInBounds_toArray, List.set_cons_zero, List.set_cons_succ]
                refine wpAnyH_take (i := 29) (v := ?_) (by simp only [List.getElem?_toArray, List.getElem?_cons_succ, List.getElem?_cons_zero]; exact rfl) (by decide +kernel) (by decide +kernel) (by decide +kernel) (by exact fun _ _ _ h => h) (Or.inl ⟨by rfl, ?_⟩) (by assumption) ?_
                rotate_left
                · (intro w hSw; (try dsimp only at hSw); go_simp; try with_reducible rfl)
                try simp only [Act.put, List.setIfInBounds_toArray, List.set_cons_zero, List.set_cons_succ]
                refine wpAnyH_take (i := 30) (v := ?_) (by simp only [List.getElem?_toArray, List.getElem?_cons_succ, List.getElem?_cons_zero]; exact rfl) (by decide +kernel) (by decide +kernel) (by decide +kernel) (by exact fun _ _ _ h => h) (Or.inl ⟨by rfl, ?_⟩) (by assumption) ?_
                rotate_left
                · (intro w hSw; (try dsimp only at hSw); go_simp; try with_reducible rfl)
                try simp only [Act.put, List.setIfInBounds_toArray, List.set_cons_zero, List.set_cons_succ]
                refine wpAnyH_take (i := 31) (v := ?_) (by simp only [List.getElem?_toArray, List.getElem?_cons_succ, List.getElem?_cons_zero]; exact rfl) (by decide +kernel) (by decide +kernel) (by decide +kernel) (by exact fun _ _ _ h => h) (Or.inl ⟨by rfl, ?_⟩) (by assumption) ?_
                rotate_left
                · (intro w hSw; (try dsimp only at hSw); go_simp; try with_reducible rfl)
                try simp only [Act.put, List.setIfInBounds_toArray, List.set_cons_zero, List.set_cons_succ]
                refine wpAnyH_take (i := 32) (v := ?_) (by simp only [List.getElem?_toArray, List.getElem?_cons_succ, List.getElem?_cons_zero]; exact rfl) (by decide +kernel) (by decide +kernel) (by decide +kernel) (by exact fun _ _ _ h => h) (Or.inl ⟨by rfl, ?_⟩) (by assumption) ?_
                rotate_left
                · (intro w hSw; (try dsimp only at hSw); go_simp; try with_reducible rfl)
                try simp only [Act.put, List.setIfInBounds_toArray, List.set_cons_zero, List.set_cons_succ]
                refine wpAnyH_take (i := 33) (v := ?_) (by simp only [List.getElem?_toArray, List.getElem?_cons_succ, List.getElem?_cons_zero]; exact rfl) (by decide +kernel) (by decide +kernel) (by decide +kernel) (by exact fun _ _ _ h => h) (Or.inl ⟨by rfl, ?_⟩) (by assumption) ?_
                rotate_left
                · (intro w hSw; (try dsimp only at hSw); go_simp; try with_reducible rfl)
                try simp only [Act.put, List.setIfInBounds_toArray, List.set_cons_zero, List.set_cons_succ]
                refine wpAnyH_take (i := 34) (v := ?_) (by simp only [List.getElem?_toArray, List.getElem?_cons_succ, List.getElem?_cons_zero]; exact rfl) (by decide +kernel) (by decide +kernel) (by decide +kernel) (by exact fun _ _ _ h => h) (Or.inl ⟨by rfl, ?_⟩) (by assumption) ?_
                rotate_left
                · (intro w hSw; (try dsimp only at hSw); go_simp; try with_reducible rfl)
                try simp only [Act.put, List.setIfInBounds_toArray, List.set_cons_zero, List.set_cons_succ]
                refine wpAnyH_take (i := 35) (v := ?_) (by simp only [List.getElem?_toArray, List.getElem?_cons_succ, List.getElem?_cons_zero]; exact rfl) (by decide +kernel) (by decide +kernel) (by decide +kernel) (by exact fun _ _ _ h => h) (Or.inl ⟨by rfl, ?_⟩) (by assumption) ?_
                rotate_left
                · (intro w hSw; (try dsimp only at hSw); go_simp; try with_reducible rfl)
                try simp only [Act.put, List.setIfInBounds_toArray, List.set_cons_zero, List.set_cons_succ]
                refine wpAnyH_take (i := 36) (v := ?_) (by simp only [List.getElem?_toArray, List.getElem?_cons_succ, List.getElem?_cons_zero]; exact rfl) (by decide +kernel) (by decide +kernel) (by decide +kernel) (by exact fun _ _ _ h => h) (Or.inl ⟨by rfl, ?_⟩) (by assumption) ?_
                rotate_left
                · (intro w hSw; (try dsimp only at hSw); go_simp; try with_reducible rfl)
                try simp only [Act.put, List.setIfInBounds_toArray, List.set_cons_zero, List.set_cons_succ]
                refine wpAnyH_take (i := 37) (v := ?_) (by simp only [List.getElem?_toArray, List.getElem?_cons_succ, List.getElem?_cons_zero]; exact rfl) (by decide +kernel) (by decide +kernel) (by decide +kernel) (by exact fun _ _ _ h => h) (Or.inl ⟨by rfl, ?_⟩) (by assumption) ?_
                rotate_left
                · (intro w hSw; (try dsimp only at hSw); go_simp; try with_reducible rfl)
                try simp only [Act.put, List.setIfInBounds_toArray, List.set_cons_zero, List.set_cons_succ]
                refine wpAnyH_take (i := 38) (v := ?_) (by simp only [List.getElem?_toArray, List.getElem?_cons_succ, List.getElem?_cons_zero]; exact rfl) (by decide +kernel) (by decide +kernel) (by decide +kernel) (by exact fun _ _ _ h => h) (Or.inl ⟨by rfl, ?_⟩) (by assumption) ?_
                rotate_left
                · (intro w hSw; (try dsimp only at hSw); go_simp; try with_reducible rfl)
                try simp only [Act.put, List.setIfInBounds_toArray, List.set_cons_zero, List.set_cons_succ]
                refine wpAnyH_take (i := 39) (v := ?_) (by simp only [List.getElem?_toArray, List.getElem?_cons_succ, List.getElem?_cons_zero]; exact rfl) (by decide +kernel) (by decide +kernel) (by decide +kernel) (by exact fun _ _ _ h => h) (Or.inl ⟨by rfl, ?_⟩) (by assumption) ?_
                rotate_left
                · (intro w hSw; (try dsimp only at hSw); go_simp; try with_reducible rfl)
                try simp only [Act.put, List.setIfInBounds_toArray, List.set_cons_zero, List.set_cons_succ]
                refine wpAnyH_take (i := 40) (v := ?_) (by simp only [List.getElem?_toArray, List.getElem?_cons_succ, List.getElem?_cons_zero]; exact rfl) (by decide +kernel) (by decide +kernel) (by decide +kernel) (by exact fun _ _ _ h => h) (Or.inl ⟨by rfl, ?_⟩) (by assumption) ?_
                rotate_left
                · (intro w hSw; (try dsimp only at hSw); go_simp; try with_reducible rfl)
                try simp only [Act.put, List.setIfInBounds_toArray, List.set_cons_zero, List.set_cons_succ]
                refine wpAnyH_take (i := 41) (v := ?_) (by simp only [List.getElem?_toArray, List.getElem?_cons_succ, List.getElem?_cons_zero]; exact rfl) (by decide +kernel) (by decide +kernel) (by decide +kernel) (by exact fun _ _ _ h => h) (Or.inl ⟨by rfl, ?_⟩) (by assumption) ?_
                rotate_left
                · (intro w hSw; (try dsimp only at hSw); go_simp; try with_reducible rfl)
                try simp only [Act.put, List.setIfInBounds_toArray, List.set_cons_zero, List.set_cons_succ]
                refine wpAnyH_take (i := 42) (v := ?_) (by simp only [List.getElem?_toArray, List.getElem?_cons_succ, List.getElem?_cons_zero]; exact rfl) (by decide +kernel) (by decide +kernel) (by decide +kernel) (by exact fun _ _ _ h => h) (Or.inl ⟨by rfl, ?_⟩) (by assumption) ?_
                rotate_left
                · (intro w hSw; (try dsimp only at hSw); go_simp; try with_reducible rfl)
                try simp only [Act.put, List.setIfInBounds_toArray, List.set_cons_zero, List.set_cons_succ]
                refine wpAnyH_take (i := 43) (v := ?_) (by simp only [List.getElem?_toArray, List.getElem?_cons_succ, List.getElem?_cons_zero]; exact rfl) (by decide +kernel) (by decide +kernel) (by decide +kernel) (by exact fun _ _ _ h => h) (Or.inl ⟨by rfl, ?_⟩) (by assumption) ?_
                rotate_left
                · (intro w hSw; (try dsimp only at hSw); go_simp; try with_reducible rfl)
                try simp only [Act.put, List.setIfInBounds_toArray, List.set_cons_zero, List.set_cons_succ]
                refine wpAnyH_take (i := 44) (v := undef) (by simp only [List.getElem?_toArray, List.getElem?_cons_succ, List.getElem?_cons_zero]; exact rfl) (by decide +kernel) (by decide +kernel) (by decide +kernel) (by exact fun _ _ _ h => h) (Or.inr ⟨by rfl, rfl⟩) (by assumption) ?_
                try simp only [Act.put, List.setIfInBounds_toArray, List.set_cons_zero, List.set_cons_succ]
                refine wpAnyH_take (i := 45) (v := undef) (by simp only [List.getElem?_toArray, List.getElem?_cons_succ, List.getElem?_cons_zero]; exact rfl) (by decide +kernel) (by decide +kernel) (by decide +kernel) (by exact fun _ _ _ h => h) (Or.inr ⟨by rfl, rfl⟩) (by assumption) ?_
                try simp only [Act.put, List.setIfInBounds_toArray, List.set_cons_zero, List.set_cons_succ]
                refine wpAnyH_take (i := 46) (v := undef) (by simp only [List.getElem?_toArray, List.getElem?_cons_succ, List.getElem?_cons_zero]; exact rfl) (by decide +kernel) (by decide +kernel) (by decide +kernel) (by exact fun _ _ _ h => h) (Or.inr ⟨by rfl, rfl⟩) (by assumption) ?_
                try simp only [Act.put, List.setIfInBounds_toArray, List.set_cons_zero, List.set_cons_succ]
                refine wpAnyH_take (i := 47) (v := undef) (by simp only [List.getElem?_toArray, List.getElem?_cons_succ, List.getElem?_cons_zero]; exact rfl) (by decide +kernel) (by decide +kernel) (by decide +kernel) (by exact fun _ _ _ h => h) (Or.inr ⟨by rfl, rfl⟩) (by assumption) ?_
                try simp only [Act.put, List.setIfInBounds_toArray, List.set_cons_zero, List.set_cons_succ]
                refine wpAnyH_take (i := 48) (v := undef) (by simp only [List.getElem?_toArray, List.getElem?_cons_succ, List.getElem?_cons_zero]; exact rfl) (by decide +kernel) (by decide +kernel) (by decide +kernel) (by exact fun _ _ _ h => h) (Or.inr ⟨by rfl, rfl⟩) (by assumption) ?_
                try simp only [Act.put, List.setIfInBounds_toArray, List.set_cons_zero, List.set_cons_succ]
                refine wpAnyH_take (i := 49) (v := undef) (by simp only [List.getElem?_toArray, List.getElem?_cons_succ, List.getElem?_cons_zero]; exact rfl) (by decide +kernel) (by decide +kernel) (by decide +kernel) (by exact fun _ _ _ h => h) (Or.inr ⟨by rfl, rfl⟩) (by assumption) ?_
                try simp only [Act.put, List.setIfInBounds_toArray, List.set_cons_zero, List.set_cons_succ]
                refine wpAnyH_take (i := 50) (v := undef) (by simp only [List.getElem?_toArray, List.getElem?_cons_succ, List.getElem?_cons_zero]; exact rfl) (by decide +kernel) (by decide +kernel) (by decide +kernel) (by exact fun _ _ _ h => h) (Or.inr ⟨by rfl, rfl⟩) (by assumption) ?_
                try simp only [Act.put, List.setIfInBounds_toArray, List.set_cons_zero, List.set_cons_succ]
                refine wpAnyH_take (i := 51) (v := undef) (by simp only [List.getElem?_toArray, List.getElem?_cons_succ, List.getElem?_cons_zero]; exact rfl) (by decide +kernel) (by decide +kernel) (by decide +kernel) (by exact fun _ _ _ h => h) (Or.inr ⟨by rfl, rfl⟩) (by assumption) ?_
                try simp only [Act.put, List.setIfInBounds_toArray, List.set_cons_zero, List.set_cons_succ]
                refine wpAnyH_take (i := 52) (v := ?_) (by simp only [List.getElem?_toArray, List.getElem?_cons_succ, List.getElem?_cons_zero]; exact rfl) (by decide +kernel) (by decide +kernel) (by decide +kernel) (by exact fun _ _ _ h => h) (Or.inl ⟨by rfl, ?_⟩) (by assumption) ?_
                rotate_left
                · (intro w hSw; (try dsimp only at hSw); go_simp; try with_reducible rfl)
                try simp only [Act.put, List.setIfInBounds_toArray, List.set_cons_zero, List.set_cons_succ]
                refine wpAnyH_take (i := 53) (v := ?_) (by simp only [List.getElem?_toArray, List.getElem?_cons_succ, List.getElem?_cons_zero]; exact rfl) (by decide +kernel) (by decide +kernel) (by decide +kernel) (by exact fun _ _ _ h => h) (Or.inl ⟨by rfl, ?_⟩) (by assumption) ?_
                rotate_left
                · (intro w hSw; (try dsimp only at hSw); go_simp; try with_reducible rfl)
                try simp only [Act.put, List.setIfInBounds_toArray, List.set_cons_zero, List.set_cons_succ]
                refine wpAnyH_take (i := 54) (v := ?_) (by simp only [List.getElem?_toArray, List.getElem?_cons_succ, List.getElem?_cons_zero]; exact rfl) (by decide +kernel) (by decide +kernel) (by decide +kernel) (by exact fun _ _ _ h => h) (Or.inl ⟨by rfl, ?_⟩) (by assumption) ?_
                rotate_left
                · (intro w hSw; (try dsimp only at hSw); go_simp; try with_reducible rfl)
                try simp only [Act.put, List.setIfInBounds_toArray, List.set_cons_zero, List.set_cons_succ]
                refine wpAnyH_take (i := 55) (v := ?_) (by simp only [List.getElem?_toArray, List.getElem?_cons_succ, List.getElem?_cons_zero]; exact rfl) (by decide +kernel) (by decide +kernel) (by decide +kernel) (by exact fun _ _ _ h => h) (Or.inl ⟨by rfl, ?_⟩) (by assumption) ?_
                rotate_left
                · (intro w hSw; (try dsimp only at hSw); go_simp; try with_reducible rfl)
                try simp only [Act.put, List.setIfInBounds_toArray, List.set_cons_zero, List.set_cons_succ]
                refine wpAnyH_take (i := 56) (v := ?_) (by simp only [List.getElem?_toArray, List.getElem?_cons_succ, List.getElem?_cons_zero]; exact rfl) (by decide +kernel) (by decide +kernel) (by decide +kernel) (by exact fun _ _ _ h => h) (Or.inl ⟨by rfl, ?_⟩) (by assumption) ?_
                rotate_left
                · (intro w hSw; (try dsimp only at hSw); go_simp; try with_reducible rfl)
                try simp only [Act.put, List.setIfInBounds_toArray, List.set_cons_zero, List.set_cons_succ]
                refine wpAnyH_take (i := 57) (v := ?_) (by simp only [List.getElem?_toArray, List.getElem?_cons_succ, List.getElem?_cons_zero]; exact rfl) (by decide +kernel) (by decide +kernel) (by decide +kernel) (by exact fun _ _ _ h => h) (Or.inl ⟨by rfl, ?_⟩) (by assumption) ?_
                rotate_left
                · (intro w hSw; (try dsimp only at hSw); go_simp; try with_reducible rfl)
                try simp only [Act.put, List.setIfInBounds_toArray, List.set_cons_zero, List.set_cons_succ]
                refine wpAnyH_take (i := 58) (v := ?_) (by simp only [List.getElem?_toArray, List.getElem?_cons_succ, List.getElem?_cons_zero]; exact rfl) (by decide +kernel) (by decide +kernel) (by decide +kernel) (by exact fun _ _ _ h => h) (Or.inl ⟨by rfl, ?_⟩) (by assumption) ?_
                rotate_left
                · (intro w hSw; (try dsimp only at hSw); go_simp; try with_reducible rfl)
                try simp only [Act.put, List.setIfInBounds_toArray, List.set_cons_zero, List.set_cons_succ]
                refine wpAnyH_take (i := 59) (v := ?_) (by simp only [List.getElem?_toArray, List.getElem?_cons_succ, List.getElem?_cons_zero]; exact rfl) (by decide +kernel) (by decide +kernel) (by decide +kernel) (by exact fun _ _ _ h => h) (Or.inl ⟨by rfl, ?_⟩) (by assumption) ?_
                rotate_left
                · (intro w hSw; (try dsimp only at hSw); go_simp; try with_reducible rfl)
                try simp only [Act.put, List.setIfInBounds_toArray, List.set_cons_zero, List.set_cons_succ]
                refine wpAnyH_take (i := 60) (v := ?_) (by simp only [List.getElem?_toArray, List.getElem?_cons_succ, List.getElem?_cons_zero]; exact rfl) (by decide +kernel) (by decide +kernel) (by decide +kernel) (by exact fun _ _ _ h => h) (Or.inl ⟨by rfl, ?_⟩) (by assumption) ?_
                rotate_left
                · (intro w hSw; (try dsimp only at hSw); go_simp; try with_reducible rfl)
                try simp only [Act.put, List.setIfInBounds_toArray, List.set_cons_zero, List.set_cons_succ]
                refine wpAnyH_take (i := 61) (v := ?_) (by simp only [List.getElem?_toArray, List.getElem?_cons_succ, List.getElem?_cons_zero]; exact rfl) (by decide +kernel) (by decide +kernel) (by decide +kernel) (by exact fun _ _ _ h => h) (Or.inl ⟨by rfl, ?_⟩) (by assumption) ?_
                rotate_left
                · (intro w hSw; (try dsimp only at hSw); go_simp; try with_reducible rfl)
                try simp only [Act.put, List.setIfInBounds_toArray, List.set_cons_zero, List.set_cons_succ]
                refine wpAnyH_take (i := 62) (v := ?_) (by simp only [List.getElem?_toArray, List.getElem?_cons_succ, List.getElem?_cons_zero]; exact rfl) (by decide +kernel) (by decide +kernel) (by decide +kernel) (by exact fun _ _ _ h => h) (Or.inl ⟨by rfl, ?_⟩) (by assumption) ?_
                rotate_left
                · (intro w hSw; (try dsimp only at hSw); go_simp; try with_reducible rfl)
                try simp only [Act.put, List.setIfInBounds_toArray, List.set_cons_zero, List.set_cons_succ]
                refine wpAnyH_take (i := 63) (v := ?_) (by simp only [List.getElem?_toArray, List.getElem?_cons_succ, List.getElem?_cons_zero]; exact rfl) (by decide +kernel) (by decide +kernel) (by decide +kernel) (by exact fun _ _ _ h => h) (Or.inl ⟨by rfl, ?_⟩) (by assumption) ?_
                rotate_left
                · (intro w hSw; (try dsimp only at hSw); go_simp; try with_reducible rfl)
                try simp only [Act.put, List.setIfInBounds_toArray, List.set_cons_zero, List.set_cons_succ]
                refine wpAnyH_take (i := 64) (v := ?_) (by simp only [List.getElem?_toArray, List.getElem?_cons_succ, List.getElem?_cons_zero]; exact rfl) (by decide +kernel) (by decide +kernel) (by decide +kernel) (by exact fun _ _ _ h => h) (Or.inl ⟨by rfl, ?_⟩) (by assumption) ?_
                rotate_left
                · (intro w hSw; (try dsimp only at hSw); go_simp; try with_reducible rfl)
                try simp only [Act.put, List.setIfInBounds_toArray, List.set_cons_zero, List.set_cons_succ]
                refine wpAnyH_take (i := 65) (v := ?_) (by simp only [List.getElem?_toArray, List.getElem?_cons_succ, List.getElem?_cons_zero]; exact rfl) (by decide +kernel) (by decide +kernel) (by decide +kernel) (by exact fun _ _ _ h => h) (Or.inl ⟨by rfl, ?_⟩) (by assumption) ?_
                rotate_left
                · (intro w hSw; (try dsimp only at hSw); go_simp; try with_reducible rfl)
                try simp only [Act.put, List.setIfInBounds_toArray, List.set_cons_zero, List.set_cons_succ]
                refine wpAnyH_take (i := 66) (v := ?_) (by simp only [List.getElem?_toArray, List.getElem?_cons_succ, List.getElem?_cons_zero]; exact rfl) (by decide +kernel) (by decide +kernel) (by decide +kernel) (by exact fun _ _ _ h => h) (Or.inl ⟨by rfl, ?_⟩) (by assumption) ?_
                rotate_left
                · (intro w hSw; (try dsimp only at hSw); go_simp; try with_reducible rfl)
                try simp only [Act.put, List.setIfInBounds_toArray, List.set_cons_zero, List.set_cons_succ]
                refine wpAnyH_take (i := 67) (v := ?_) (by simp only [List.getElem?_toArray, List.getElem?_cons_succ, List.getElem?_cons_zero]; exact rfl) (by decide +kernel) (by decide +kernel) (by decide +kernel) (by exact fun _ _ _ h => h) (Or.inl ⟨by rfl, ?_⟩) (by assumption) ?_
                rotate_left
                · (intro w hSw; (try dsimp only at hSw); go_simp; try with_reducible rfl)
                try simp only [Act.put, List.setIfInBounds_toArray, List.set_cons_zero, List.set_cons_succ]
                refine wpAnyH_take (i := 68) (v := ?_) (by simp only [List.getElem?_toArray, List.getElem?_cons_succ, List.getElem?_cons_zero]; exact rfl) (by decide +kernel) (by decide +kernel) (by decide +kernel) (by exact fun _ _ _ h => h) (Or.inl ⟨by rfl, ?_⟩) (by assumption) ?_
                rotate_left
                · (intro w hSw; (try dsimp only at hSw); go_simp; try with_reducible rfl)
                try simp only [Act.put, List.setIfInBounds_toArray, List.set_cons_zero, List.set_cons_succ]
                refine wpAnyH_done (by kernel_rfl) ?_ _
                have SF := Lib.hid hHeld.2.2.2.2.2.2
                clear HS8 hHeld
                go_wp2
                go_roundw
                case rel => exact ⟨i + 1, hil, by go_num, Lib.hid (below_then B6.out B6.out.size SF.out.2.2)⟩
                case measure => simp [intOf]; omega
              · skip
                have HS7 : Hid ((fun X => X.cell? ⟨b8, 1, none⟩ = some (.int .u8 m1) ∧ X.cell? ⟨b5, i * 7, none⟩ = some (.int .u16 xt) ∧ X.cell? ⟨g, 1, none⟩ = some (.pointer (some ⟨gt, 0, none⟩)) ∧ X.cell? ⟨wc.heap.size, 0, none⟩ = some (.int .u8 xk) ∧ X.cell? ⟨wc.heap.size, 1, none⟩ = some (.int .u16 xf) ∧ X.cell? ⟨wc.heap.size, 2, none⟩ = some (.int .u16 xa) ∧ SB wr.heap.size wr X) (wc.alloc (Obj.cells #[.int .u8 xk, .int .u16 xf, .int .u16 xa, .int .i64 xs, .slice none 0 0, .slice none 0 0] 67)).drew) := by
                  have BK7 : Blk (wc.alloc (Obj.cells #[.int .u8 xk, .int .u16 xf, .int .u16 xa, .int .i64 xs, .slice none 0 0, .slice none 0 0] 67)) wc.heap.size 67 #[.int .u8 xk, .int .u16 xf, .int .u16 xa, .int .i64 xs, .slice none 0 0, .slice none 0 0] := Blk.new_at rfl
                  have S7 : SB wr.heap.size wr (wc.alloc (Obj.cells #[.int .u8 xk, .int .u16 xf, .int .u16 xa, .int .i64 xs, .slice none 0 0, .slice none 0 0] 67)) := sb_alloc HSW.out (Nat.le_refl _) _
                  exact Lib.hid ⟨(D8.out.alloc _).cell 1, (S7.1 b5 (i * 7) l5).trans HQ0.out, (S7.1 g 1 l6).trans HY1.out, BK7.cell 0, BK7.cell 1, BK7.cell 2, sb_drew S7⟩
                go_upto_region 16 with fail
                refine wp_region_held_drew (S := (fun X => X.cell? ⟨b8, 1, none⟩ = some (.int .u8 m1) ∧ X.cell? ⟨b5, i * 7, none⟩ = some (.int .u16 xt) ∧ X.cell? ⟨g, 1, none⟩ = some (.pointer (some ⟨gt, 0, none⟩)) ∧ X.cell? ⟨wc.heap.size, 0, none⟩ = some (.int .u8 xk) ∧ X.cell? ⟨wc.heap.size, 1, none⟩ = some (.int .u16 xf) ∧ X.cell? ⟨wc.heap.size, 2, none⟩ = some (.int .u16 xa) ∧ SB wr.heap.size wr X)) (by kernel_rfl) (by exact HS7.out) (fun hHeld => ?_)
                refine wpAnyH_take (i := 0) (v := ?_) (by simp only [List.getElem?_toArray, List.getElem?_cons_succ, List.getElem?_cons_zero]; exact rfl) (by decide +kernel) (by decide +kernel) (by decide +kernel) (by exact fun _ _ _ h => h) (Or.inl ⟨by rfl, ?_⟩) (by assumption) ?_
                rotate_left
                · (intro w hSw; (try dsimp only at hSw); go_simp; try with_reducible rfl)
                try simp only [Act.put, List.setIfInBounds_toArray, List.set_cons_zero, List.set_cons_succ]
                refine wpAnyH_take (i := 1) (v := ?_) (by simp only [List.getElem?_toArray, List.getElem?_cons_succ, List.getElem?_cons_zero]; exact rfl) (by decide +kernel) (by decide +kernel) (by decide +kernel) (by exact fun _ _ _ h => h) (Or.inl ⟨by rfl, ?_⟩) (by assumption) ?_
                rotate_left
                · (intro w hSw; (try dsimp only at hSw); go_simp; try with_reducible rfl)
                try simp only [Act.put, List.setIfInBounds_toArray, List.set_cons_zero, List.set_cons_succ]
                refine wpAnyH_take (i := 2) (v := ?_) (by simp only [List.getElem?_toArray, List.getElem?_cons_succ, List.getElem?_cons_zero]; exact rfl) (by decide +kernel) (by decide +kernel) (by decide +kernel) (by exact fun _ _ _ h => h) (Or.inl ⟨by rfl, ?_⟩) (by assumption) ?_
                rotate_left
                · (intro w hSw; (try dsimp only at hSw); go_simp; try with_reducible rfl)
                try simp only [Act.put, List.setIfInBounds_toArray, List.set_cons_zero, List.set_cons_succ]
                refine wpAnyH_take (i := 3) (v := ?_) (by simp only [List.getElem?_toArray, List.getElem?_cons_succ, List.getElem?_cons_zero]; exact rfl) (by decide +kernel) (by decide +kernel) (by decide +kernel) (by exact fun _ _ _ h => h) (Or.inl ⟨by rfl, ?_⟩) (by assumption) ?_
                rotate_left
                · (intro w hSw; (try dsimp only at hSw); go_simp; try with_reducible rfl)
                try simp only [Act.put, List.setIfInBounds_toArray, List.set_cons_zero, List.set_cons_succ]
                refine wpAnyH_take (i := 4) (v := ?_) (by simp only [List.getElem?_toArray, List.getElem?_cons_succ, List.getElem?_cons_zero]; exact rfl) (by decide +kernel) (by decide +kernel) (by decide +kernel) (by exact fun _ _ _ h => h) (Or.inl ⟨by rfl, ?_⟩) (by assumption) ?_
                rotate_left
                · (intro w hSw; (try dsimp only at hSw); go_simp; try with_reducible rfl)
                try simp only [Act.put, List.setIfInBounds_toArray, List.set_cons_zero, List.set_cons_succ]
                refine wpAnyH_take (i := 5) (v := ?_) (by simp only [List.getElem?_toArray, List.getElem?_cons_succ, List.getElem?_cons_zero]; exact rfl) (by decide +kernel) (by decide +kernel) (by decide +kernel) (by exact fun _ _ _ h => h) (Or.inl ⟨by rfl, ?_⟩) (by assumption) ?_
                rotate_left
                · (intro w hSw; (try dsimp only at hSw); go_simp; try with_reducible rfl)
                try simp only [Act.put, List.setIfInBounds_toArray, List.set_cons_zero, List.set_cons_succ]
                refine wpAnyH_take (i := 6) (v := ?_) (by simp only [List.getElem?_toArray, List.getElem?_cons_succ, List.getElem?_cons_zero]; exact rfl) (by decide +kernel) (by decide +kernel) (by decide +kernel) (by exact fun _ _ _ h => h) (Or.inl ⟨by rfl, ?_⟩) (by assumption) ?_
                rotate_left
                · (intro w hSw; (try dsimp only at hSw); go_simp; try with_reducible rfl)
                try simp only [Act.put, List.setIfInBounds_toArray, List.set_cons_zero, List.set_cons_succ]
                refine wpAnyH_take (i := 7) (v := ?_) (by simp only [List.getElem?_toArray, List.getElem?_cons_succ, List.getElem?_cons_zero]; exact rfl) (by decide +kernel) (by decide +kernel) (by decide +kernel) (by exact fun _ _ _ h => h) (Or.inl ⟨by rfl, ?_⟩) (by assumption) ?_
                rotate_left
                · (intro w hSw; (try dsimp only at hSw); go_simp; try with_reducible rfl)
                try simp only [Act.put, List.setIfInBounds_toArray, List.set_cons_zero, List.set_cons_succ]
                refine wpAnyH_take (i := 8) (v := ?_) (by simp only [List.getElem?_toArray, List.getElem?_cons_succ, List.getElem?_cons_zero]; exact rfl) (by decide +kernel) (by decide +kernel) (by decide +kernel) (by exact fun _ _ _ h => h) (Or.inl ⟨by rfl, ?_⟩) (by assumption) ?_
                rotate_left
                · (intro w hSw; (try dsimp only at hSw); go_simp; try with_reducible rfl)
                try simp only [Act.put, List.setIfInBounds_toArray, List.set_cons_zero, List.set_cons_succ]
                refine wpAnyH_take (i := 9) (v := ?_) (by simp only [List.getElem?_toArray, List.getElem?_cons_succ, List.getElem?_cons_zero]; exact rfl) (by decide +kernel) (by decide +kernel) (by decide +kernel) (by exact fun _ _ _ h => h) (Or.inl ⟨by rfl, ?_⟩) (by assumption) ?_
                rotate_left
                · (intro w hSw; (try dsimp only at hSw); go_simp; try with_reducible rfl)
                try simp only [Act.put, List.setIfInBounds_toArray, List.set_cons_zero, List.set_cons_succ]
                refine wpAnyH_take (i := 10) (v := ?_) (by simp only [List.getElem?_toArray, List.getElem?_cons_succ, List.getElem?_cons_zero]; exact rfl) (by decide +kernel) (by decide +kernel) (by decide +kernel) (by exact fun _ _ _ h => h) (Or.inl ⟨by rfl, ?_⟩) (by assumption) ?_
                rotate_left
                · (intro w hSw; (try dsimp only at hSw); go_simp; try with_reducible rfl)
                try simp only [Act.put, List.setIfInBounds_toArray, List.set_cons_zero, List.set_cons_succ]
                refine wpAnyH_take (i := 11) (v := ?_) (by simp only [List.getElem?_toArray, List.getElem?_cons_succ, List.getElem?_cons_zero]; exact rfl) (by decide +kernel) (by decide +kernel) (by decide +kernel) (by exact fun _ _ _ h => h) (Or.inl ⟨by rfl, ?_⟩) (by assumption) ?_
                rotate_left
                · (intro w hSw; (try dsimp only at hSw); go_simp; try with_reducible rfl)
                try simp only [Act.put, List.setIfInBounds_toArray, List.set_cons_zero, List.set_cons_succ]
                refine wpAnyH_take (i := 12) (v := ?_) (by simp only [List.getElem?_toArray, List.getElem?_cons_succ, List.getElem?_cons_zero]; exact rfl) (by decide +kernel) (by decide +kernel) (by decide +kernel) (by exact fun _ _ _ h => h) (Or.inl ⟨by rfl, ?_⟩) (by assumption) ?_
                rotate_left
                · (intro w hSw; (try dsimp only at hSw); go_simp; try with_reducible rfl)
                try simp only [Act.put, List.setIfInBounds_toArray, List.set_cons_zero, List.set_cons_succ]
                refine wpAnyH_take (i := 13) (v := ?_) (by simp only [List.getElem?_toArray, List.getElem?_cons_succ, List.getElem?_cons_zero]; exact rfl) (by decide +kernel) (by decide +kernel) (by decide +kernel) (by exact fun _ _ _ h => h) (Or.inl ⟨by rfl, ?_⟩) (by assumption) ?_
                rotate_left
                · (intro w hSw; (try dsimp only at hSw); go_simp; try with_reducible rfl)
                try simp only [Act.put, List.setIfInBounds_toArray, List.set_cons_zero, List.set_cons_succ]
                refine wpAnyH_take (i := 14) (v := ?_) (by simp only [List.getElem?_toArray, List.getElem?_cons_succ, List.getElem?_cons_zero]; exact rfl) (by decide +kernel) (by decide +kernel) (by decide +kernel) (by exact fun _ _ _ h => h) (Or.inl ⟨by rfl, ?_⟩) (by assumption) ?_
                rotate_left
                · (intro w hSw; (try dsimp only at hSw); go_simp; try with_reducible rfl)
                try simp only [Act.put, List.setIfInBounds_toArray, List.set_cons_zero, List.set_cons_succ]
                refine wpAnyH_take (i := 15) (v := ?_) (by simp only [List.getElem?_toArray, List.getElem?_cons_succ, List.getElem?_cons_zero]; exact rfl) (by decide +kernel) (by decide +kernel) (by decide +kernel) (by exact fun _ _ _ h => h) (Or.inl ⟨by rfl, ?_⟩) (by assumption) ?_
                rotate_left
                · (intro w hSw; (try dsimp only at hSw); go_simp; try with_reducible rfl)
                try simp only [Act.put, List.setIfInBounds_toArray, List.set_cons_zero, List.set_cons_succ]
                refine wpAnyH_take (i := 16) (v := ?_) (by simp only [List.getElem?_toArray, List.getElem?_cons_succ, List.getElem?_cons_zero]; exact rfl) (by decide +kernel) (by decide +kernel) (by decide +kernel) (by exact fun _ _ _ h => h) (Or.inl ⟨by rfl, ?_⟩) (by assumption) ?_
                rotate_left
                · (intro w hSw; (try dsimp only at hSw); go_simp; try with_reducible rfl)
                try simp only [Act.put, List.setIfInBounds_toArray, List.set_cons_zero, List.set_cons_succ]
                refine wpAnyH_ready (rs := [17]) (by kernel_rfl) (by simp) ?_
                refine AllReadyH.cons (by simp only [List.getElem?_toArray, List.getElem?_cons_succ, List.getElem?_cons_zero]; exact rfl) (fun K hK => ?_) AllReadyH.nil
                go_simp
                go_at_call 19
                refine (HSELF.out _ hHeld.2.2.2.2.2.2).mono ?_
                rintro e w8 ⟨rfl, hb8⟩
                have HS8 := SST.out _ _ w8 hHeld hb8
                clear hb8
                go_wp2_with fail
                refine hK.out _ _ (by exact HS8) (fun hHeld => ?_)
                clear hK K
                try simp only [Act.put, List.setIfInBounds_toArray, List.set_cons_zero, List.set_cons_succ]
                refine wpAnyH_take (i := 18) (v := ?_) (by simp only [List.getElem?_toArray, List.getElem?_cons_succ, List.getElem?_cons_zero]; exact rfl) (by decide +kernel) (by decide +kernel) (by decide +kernel) (by exact fun _ _ _ h => h) (Or.inl ⟨by rfl, ?_⟩) (by assumption) ?_
                rotate_left
                · (intro w hSw; (try dsimp only at hSw); go_simp; try with_reducible rfl)
                try simp only [Act.put, List.setIfInBounds_toArray, List.set_cons_zero, List.set_cons_succ]
                refine wpAnyH_take (i := 19) (v := ?_) (by simp only [List.getElem?_toArray, List.getElem?_cons_succ, List.getElem?_cons_zero]; exact rfl) (by decide +kernel) (by decide +kernel) (by decide +kernel) (by exact fun _ _ _ h => h) (Or.inl ⟨by rfl, ?_⟩) (by assumption) ?_
                rotate_left
                · (intro w hSw; (try dsimp only at hSw); go_simp; try with_reducible rfl)
                try simp only [Act.put, List.setIfInBounds_toArray, List.set_cons_zero, List.set_cons_succ]
                refine wpAnyH_take (i := 20) (v := ?_) (by simp only [List.getElem?_toArray, List.getElem?_cons_succ, List.getElem?_cons_zero]; exact rfl) (by decide +kernel) (by decide +kernel) (by decide +kernel) (by exact fun _ _ _ h => h) (Or.inl ⟨by rfl, ?_⟩) (by assumption) ?_
                rotate_left
                · (intro w hSw; (try dsimp only at hSw); go_simp; try with_reducible rfl)
                try simp only [Act.put, List.setIfInBounds_toArray, List.set_cons_zero, List.set_cons_succ]
                refine wpAnyH_take (i := 21) (v := ?_) (by simp only [List.getElem?_toArray, List.getElem?_cons_succ, List.getElem?_cons_zero]; exact rfl) (by decide +kernel) (by decide +kernel) (by decide +kernel) (by exact fun _ _ _ h => h) (Or.inl ⟨by rfl, ?_⟩) (by assumption) ?_
                rotate_left
                · (intro w hSw; (try dsimp only at hSw); go_simp; try with_reducible rfl)
                try simp only [Act.put, List.setIfInBounds_toArray, List.set_cons_zero, List.set_cons_succ]
                refine wpAnyH_take (i := 22) (v := ?_) (by simp only [List.getElem?_toArray, List.getElem?_cons_succ, List.getElem?_cons_zero]; exact rfl) (by decide +kernel) (by decide +kernel) (by decide +kernel) (by exact fun _ _ _ h => h) (Or.inl ⟨by rfl, ?_⟩) (by assumption) ?_
                rotate_left
                · (intro w hSw; (try dsimp only at hSw); go_simp; try with_reducible rfl)
                try simp only [Act.put, List.setIfInBounds_toArray, List.set_cons_zero, List.set_cons_succ]
                refine wpAnyH_take (i := 23) (v := ?_) (by simp only [List.getElem?_toArray, List.getElem?_cons_succ, List.getElem?_cons_zero]; exact rfl) (by decide +kernel) (by decide +kernel) (by decide +kernel) (by exact fun _ _ _ h => h) (Or.inl ⟨by rfl, ?_⟩) (by assumption) ?_
                rotate_left
                · (intro w hSw; (try dsimp only at hSw); go_simp; try with_reducible rfl)
                try simp only [Act.put, List.setIfInBounds_toArray, List.set_cons_zero, List.set_cons_succ]
                refine wpAnyH_take (i := 24) (v := ?_) (by simp only [List.getElem?_toArray, List.getElem?_cons_succ, List.getElem?_cons_zero]; exact rfl) (by decide +kernel) (by decide +kernel) (by decide +kernel) (by exact fun _ _ _ h => h) (Or.inl ⟨by rfl, ?_⟩) (by assumption) ?_
                rotate_left
                · (intro w hSw; (try dsimp only at hSw); go_simp; try with_reducible rfl)
                try simp only [Act.put, List.setIfInBounds_toArray, List.set_cons_zero, List.set_cons_succ]
                refine wpAnyH_take (i := 25) (v := ?_) (by simp only [List.getElem?_toArray, List.getElem?_cons_succ, List.getElem?_cons_zero]; exact rfl) (by decide +kernel) (by decide +kernel) (by decide +kernel) (by exact fun _ _ _ h => h) (Or.inl ⟨by rfl, ?_⟩) (by assumption) ?_
                rotate_left
                · (intro w hSw; (try dsimp only at hSw); go_simp; try with_reducible rfl)
                try simp only [Act.put, List.setIfInBounds_toArray, List.set_cons_zero, List.set_cons_succ]
                refine wpAnyH_take (i := 26) (v := ?_) (by simp only [List.getElem?_toArray, List.getElem?_cons_succ, List.getElem?_cons_zero]; exact rfl) (by decide +kernel) (by decide +kernel) (by decide +kernel) (by exact fun _ _ _ h => h) (Or.inl ⟨by rfl, ?_⟩) (by assumption) ?_
                rotate_left
                · (intro w hSw; (try dsimp only at hSw); go_simp; try with_reducible rfl)
                try simp only [Act.put, List.setIfInBounds_toArray, List.set_cons_zero, List.set_cons_succ]
                refine wpAnyH_take (i := 27) (v := ?_) (by simp only [List.getElem?_toArray, List.getElem?_cons_succ, List.getElem?_cons_zero]; exact rfl) (by decide +kernel) (by decide +kernel) (by decide +kernel) (by exact fun _ _ _ h => h) (Or.inl ⟨by rfl, ?_⟩) (by assumption) ?_
                rotate_left
                · (intro w hSw; (try dsimp only at hSw); go_simp; try with_reducible rfl)
                try simp only [Act.put, List.setIfInBounds_toArray, List.set_cons_zero, List.set_cons_succ]
                refine wpAnyH_ready (rs := [28]) (by kernel_rfl) (by simp) ?_
                refine AllReadyH.cons (by simp only [List.getElem?_toArray, List.getElem?_cons_succ, List.getElem?_cons_zero]; exact rfl) (fun K hK => ?_) AllReadyH.nil
                go_simp
                go_at_call 19
                refine (HSELF.out _ hHeld.2.2.2.2.2.2).mono ?_
                rintro e w8 ⟨rfl, hb8⟩
                have HS8 := SST.out _ _ w8 hHeld hb8
                clear hb8
                go_wp2_with fail
                refine hK.out _ _ (by exact HS8) (fun hHeld => ?_)
                clear hK K
                try simp only [Act.put, List.setIfInBounds_toArray, List.set_cons_zero, List.set_cons_succ]
                refine wpAnyH_take (i := 29) (v := ?_) (by simp only [List.getElem?_toArray, List.getElem?_cons_succ, List.getElem?_cons_zero]; exact rfl) (by decide +kernel) (by decide +kernel) (by decide +kernel) (by exact fun _ _ _ h => h) (Or.inl ⟨by rfl, ?_⟩) (by assumption) ?_
                rotate_left
                · (intro w hSw; (try dsimp only at hSw); go_simp; try with_reducible rfl)
                try simp only [Act.put, List.setIfInBounds_toArray, List.set_cons_zero, List.set_cons_succ]
                refine wpAnyH_take (i := 30) (v := ?_) (by simp only [List.getElem?_toArray, List.getElem?_cons_succ, List.getElem?_cons_zero]; exact rfl) (by decide +kernel) (by decide +kernel) (by decide +kernel) (by exact fun _ _ _ h => h) (Or.inl ⟨by rfl, ?_⟩) (by assumption) ?_
                rotate_left
                · (intro w hSw; (try dsimp only at hSw); go_simp; try with_reducible rfl)
                try simp only [Act.put, List.setIfInBounds_toArray, List.set_cons_zero, List.set_cons_succ]
                refine wpAnyH_take (i := 31) (v := ?_) (by simp only [List.getElem?_toArray, List.getElem?_cons_succ, List.getElem?_cons_zero]; exact rfl) (by decide +kernel) (by decide +kernel) (by decide +kernel) (by exact fun _ _ _ h => h) (Or.inl ⟨by rfl, ?_⟩) (by assumption) ?_
                rotate_left
                · (intro w hSw; (try dsimp only at hSw); go_simp; try with_reducible rfl)
                try simp only [Act.put, List.setIfInBounds_toArray, List.set_cons_zero, List.set_cons_succ]
                refine wpAnyH_take (i := 32) (v := ?_) (by simp only [List.getElem?_toArray, List.getElem?_cons_succ, List.getElem?_cons_zero]; exact rfl) (by decide +kernel) (by decide +kernel) (by decide +kernel) (by exact fun _ _ _ h => h) (Or.inl ⟨by rfl, ?_⟩) (by assumption) ?_
                rotate_left
                · (intro w hSw; (try dsimp only at hSw); go_simp; try with_reducible rfl)
                try simp only [Act.put, List.setIfInBounds_toArray, List.set_cons_zero, List.set_cons_succ]
                refine wpAnyH_take (i := 33) (v := ?_) (by simp only [List.getElem?_toArray, List.getElem?_cons_succ, List.getElem?_cons_zero]; exact rfl) (by decide +kernel) (by decide +kernel) (by decide +kernel) (by exact fun _ _ _ h => h) (Or.inl ⟨by rfl, ?_⟩) (by assumption) ?_
                rotate_left
                · (intro w hSw; (try dsimp only at hSw); go_simp; try with_reducible rfl)
                try simp only [Act.put, List.setIfInBounds_toArray, List.set_cons_zero, List.set_cons_succ]
                refine wpAnyH_take (i := 34) (v := ?_) (by simp only [List.getElem?_toArray, List.getElem?_cons_succ, List.getElem?_cons_zero]; exact rfl) (by decide +kernel) (by decide +kernel) (by decide +kernel) (by exact fun _ _ _ h => h) (Or.inl ⟨by rfl, ?_⟩) (by assumption) ?_
                rotate_left
                · (intro w hSw; (try dsimp only at hSw); go_simp; try with_reducible rfl)
                try simp only [Act.put, List.setIfInBounds_toArray, List.set_cons_zero, List.set_cons_succ]
                refine wpAnyH_take (i := 35) (v := ?_) (by simp only [List.getElem?_toArray, List.getElem?_cons_succ, List.getElem?_cons_zero]; exact rfl) (by decide +kernel) (by decide +kernel) (by decide +kernel) (by exact fun _ _ _ h => h) (Or.inl ⟨by rfl, ?_⟩) (by assumption) ?_
                rotate_left
                · (intro w hSw; (try dsimp only at hSw); go_simp; try with_reducible rfl)
                try simp only [Act.put, List.setIfInBounds_toArray, List.set_cons_zero, List.set_cons_succ]
                refine wpAnyH_take (i := 36) (v := ?_) (by simp only [List.getElem?_toArray, List.getElem?_cons_succ, List.getElem?_cons_zero]; exact rfl) (by decide +kernel) (by decide +kernel) (by decide +kernel) (by exact fun _ _ _ h => h) (Or.inl ⟨by rfl, ?_⟩) (by assumption) ?_
                rotate_left
                · (intro w hSw; (try dsimp only at hSw); go_simp; try with_reducible rfl)
                try simp only [Act.put, List.setIfInBounds_toArray, List.set_cons_zero, List.set_cons_succ]
                refine wpAnyH_take (i := 37) (v := ?_) (by simp only [List.getElem?_toArray, List.getElem?_cons_succ, List.getElem?_cons_zero]; exact rfl) (by decide +kernel) (by decide +kernel) (by decide +kernel) (by exact fun _ _ _ h => h) (Or.inl ⟨by rfl, ?_⟩) (by assumption) ?_
                rotate_left
                · (intro w hSw; (try dsimp only at hSw); go_simp; try with_reducible rfl)
                try simp only [Act.put, List.setIfInBounds_toArray, List.set_cons_zero, List.set_cons_succ]
                refine wpAnyH_take (i := 38) (v := ?_) (by simp only [List.getElem?_toArray, List.getElem?_cons_succ, List.getElem?_cons_zero]; exact rfl) (by decide +kernel) (by decide +kernel) (by decide +kernel) (by exact fun _ _ _ h => h) (Or.inl ⟨by rfl, ?_⟩) (by assumption) ?_
                rotate_left
                · (intro w hSw; (try dsimp only at hSw); go_simp; try with_reducible rfl)
                try simp only [Act.put, List.setIfInBounds_toArray, List.set_cons_zero, List.set_cons_succ]
                refine wpAnyH_take (i := 39) (v := ?_) (by simp only [List.getElem?_toArray, List.getElem?_cons_succ, List.getElem?_cons_zero]; exact rfl) (by decide +kernel) (by decide +kernel) (by decide +kernel) (by exact fun _ _ _ h => h) (Or.inl ⟨by rfl, ?_⟩) (by assumption) ?_
                rotate_left
                · (intro w hSw; (try dsimp only at hSw); go_simp; try with_reducible rfl)
                try simp only [Act.put, List.setIfInBounds_toArray, List.set_cons_zero, List.set_cons_succ]
                refine wpAnyH_take (i := 40) (v := ?_) (by simp only [List.getElem?_toArray, List.getElem?_cons_succ, List.getElem?_cons_zero]; exact rfl) (by decide +kernel) (by decide +kernel) (by decide +kernel) (by exact fun _ _ _ h => h) (Or.inl ⟨by rfl, ?_⟩) (by assumption) ?_
                rotate_left
                · (intro w hSw; (try dsimp only at hSw); go_simp; try with_reducible rfl)
                try simp only [Act.put, List.setIfInBounds_toArray, List.set_cons_zero, List.set_cons_succ]
                refine wpAnyH_take (i := 41) (v := ?_) (by simp only [List.getElem?_toArray, List.getElem?_cons_succ, List.getElem?_cons_zero]; exact rfl) (by decide +kernel) (by decide +kernel) (by decide +kernel) (by exact fun _ _ _ h => h) (Or.inl ⟨by rfl, ?_⟩) (by assumption) ?_
                rotate_left
                · (intro w hSw; (try dsimp only at hSw); go_simp; try with_reducible rfl)
                try simp only [Act.put, List.setIfInBounds_toArray, List.set_cons_zero, List.set_cons_succ]
                refine wpAnyH_take (i := 42) (v := ?_) (by simp only [List.getElem?_toArray, List.getElem?_cons_succ, List.getElem?_cons_zero]; exact rfl) (by decide +kernel) (by decide +kernel) (by decide +kernel) (by exact fun _ _ _ h => h) (Or.inl ⟨by rfl, ?_⟩) (by assumption) ?_
                rotate_left
                · (intro w hSw; (try dsimp only at hSw); go_simp; try with_reducible rfl)
                try simp only [Act.put, List.setIfInBounds_toArray, List.set_cons_zero, List.set_cons_succ]
                refine wpAnyH_take (i := 43) (v := ?_) (by simp only [List.getElem?_toArray, List.getElem?_cons_succ, List.getElem?_cons_zero]; exact rfl) (by decide +kernel) (by decide +kernel) (by decide +kernel) (by exact fun _ _ _ h => h) (Or.inl ⟨by rfl, ?_⟩) (by assumption) ?_
                rotate_left
                · (intro w hSw; (try dsimp only at hSw); go_simp; try with_reducible rfl)
                try simp only [Act.put, List.setIfInBounds_toArray, List.set_cons_zero, List.set_cons_succ]
                refine wpAnyH_take (i := 44) (v := undef) (by simp only [List.getElem?_toArray, List.getElem?_cons_succ, List.getElem?_cons_zero]; exact rfl) (by decide +kernel) (by decide +kernel) (by decide +kernel) (by exact fun _ _ _ h => h) (Or.inr ⟨by rfl, rfl⟩) (by assumption) ?_
                try simp only [Act.put, List.setIfInBounds_toArray, List.set_cons_zero, List.set_cons_succ]
                refine wpAnyH_take (i := 45) (v := undef) (by simp only [List.getElem?_toArray, List.getElem?_cons_succ, List.getElem?_cons_zero]; exact rfl) (by decide +kernel) (by decide +kernel) (by decide +kernel) (by exact fun _ _ _ h => h) (Or.inr ⟨by rfl, rfl⟩) (by assumption) ?_
                try simp only [Act.put, List.setIfInBounds_toArray, List.set_cons_zero, List.set_cons_succ]
                refine wpAnyH_take (i := 46) (v := undef) (by simp only [List.getElem?_toArray, List.getElem?_cons_succ, List.getElem?_cons_zero]; exact rfl) (by decide +kernel) (by decide +kernel) (by decide +kernel) (by exact fun _ _ _ h => h) (Or.inr ⟨by rfl, rfl⟩) (by assumption) ?_
                try simp only [Act.put, List.setIfInBounds_toArray, List.set_cons_zero, List.set_cons_succ]
                refine wpAnyH_take (i := 47) (v := undef) (by simp only [List.getElem?_toArray, List.getElem?_cons_succ, List.getElem?_cons_zero]; exact rfl) (by decide +kernel) (by decide +kernel) (by decide +kernel) (by exact fun _ _ _ h => h) (Or.inr ⟨by rfl, rfl⟩) (by assumption) ?_
                try simp only [Act.put, List.setIfInBounds_toArray, List.set_cons_zero, List.set_cons_succ]
                refine wpAnyH_take (i := 48) (v := undef) (by simp only [List.getElem?_toArray, List.getElem?_cons_succ, List.getElem?_cons_zero]; exact rfl) (by decide +kernel) (by decide +kernel) (by decide +kernel) (by exact fun _ _ _ h => h) (Or.inr ⟨by rfl, rfl⟩) (by assumption) ?_
                try simp only [Act.put, List.setIfInBounds_toArray, List.set_cons_zero, List.set_cons_succ]
                refine wpAnyH_take (i := 49) (v := undef) (by simp only [List.getElem?_toArray, List.getElem?_cons_succ, List.getElem?_cons_zero]; exact rfl) (by decide +kernel) (by decide +kernel) (by decide +kernel) (by exact fun _ _ _ h => h) (Or.inr ⟨by rfl, rfl⟩) (by assumption) ?_
                try simp only [Act.put, List.setIfInBounds_toArray, List.set_cons_zero, List.set_cons_succ]
                refine wpAnyH_take (i := 50) (v := undef) (by simp only [List.getElem?_toArray, List.getElem?_cons_succ, List.getElem?_cons_zero]; exact rfl) (by decide +kernel) (by decide +kernel) (by decide +kernel) (by exact fun _ _ _ h => h) (Or.inr ⟨by rfl, rfl⟩) (by assumption) ?_
                try simp only [Act.put, List.setIfInBounds_toArray, List.set_cons_zero, List.set_cons_succ]
                refine wpAnyH_take (i := 51) (v := undef) (by simp only [List.getElem?_toArray, List.getElem?_cons_succ, List.getElem?_cons_zero]; exact rfl) (by decide +kernel) (by decide +kernel) (by decide +kernel) (by exact fun _ _ _ h => h) (Or.inr ⟨by rfl, rfl⟩) (by assumption) ?_
                try simp only [Act.put, List.setIfInBounds_toArray, List.set_cons_zero, List.set_cons_succ]
                refine wpAnyH_take (i := 52) (v := ?_) (by simp only [List.getElem?_toArray, List.getElem?_cons_succ, List.getElem?_cons_zero]; exact rfl) (by decide +kernel) (by decide +kernel) (by decide +kernel) (by exact fun _ _ _ h => h) (Or.inl ⟨by rfl, ?_⟩) (by assumption) ?_
                rotate_left
                · (intro w hSw; (try dsimp only at hSw); go_simp; try with_reducible rfl)
                try simp only [Act.put, List.setIfInBounds_toArray, List.set_cons_zero, List.set_cons_succ]
                refine wpAnyH_take (i := 53) (v := ?_) (by simp only [List.getElem?_toArray, List.getElem?_cons_succ, List.getElem?_cons_zero]; exact rfl) (by decide +kernel) (by decide +kernel) (by decide +kernel) (by exact fun _ _ _ h => h) (Or.inl ⟨by rfl, ?_⟩) (by assumption) ?_
                rotate_left
                · (intro w hSw; (try dsimp only at hSw); go_simp; try with_reducible rfl)
                try simp only [Act.put, List.setIfInBounds_toArray, List.set_cons_zero, List.set_cons_succ]
                refine wpAnyH_take (i := 54) (v := ?_) (by simp only [List.getElem?_toArray, List.getElem?_cons_succ, List.getElem?_cons_zero]; exact rfl) (by decide +kernel) (by decide +kernel) (by decide +kernel) (by exact fun _ _ _ h => h) (Or.inl ⟨by rfl, ?_⟩) (by assumption) ?_
                rotate_left
                · (intro w hSw; (try dsimp only at hSw); go_simp; try with_reducible rfl)
                try simp only [Act.put, List.setIfInBounds_toArray, List.set_cons_zero, List.set_cons_succ]
                refine wpAnyH_take (i := 55) (v := ?_) (by simp only [List.getElem?_toArray, List.getElem?_cons_succ, List.getElem?_cons_zero]; exact rfl) (by decide +kernel) (by decide +kernel) (by decide +kernel) (by exact fun _ _ _ h => h) (Or.inl ⟨by rfl, ?_⟩) (by assumption) ?_
                rotate_left
                · (intro w hSw; (try dsimp only at hSw); go_simp; try with_reducible rfl)
                try simp only [Act.put, List.setIfInBounds_toArray, List.set_cons_zero, List.set_cons_succ]
                refine wpAnyH_take (i := 56) (v := ?_) (by simp only [List.getElem?_toArray, List.getElem?_cons_succ, List.getElem?_cons_zero]; exact rfl) (by decide +kernel) (by decide +kernel) (by decide +kernel) (by exact fun _ _ _ h => h) (Or.inl ⟨by rfl, ?_⟩) (by assumption) ?_
                rotate_left
                · (intro w hSw; (try dsimp only at hSw); go_simp; try with_reducible rfl)
                try simp only [Act.put, List.setIfInBounds_toArray, List.set_cons_zero, List.set_cons_succ]
                refine wpAnyH_take (i := 57) (v := ?_) (by simp only [List.getElem?_toArray, List.getElem?_cons_succ, List.getElem?_cons_zero]; exact rfl) (by decide +kernel) (by decide +kernel) (by decide +kernel) (by exact fun _ _ _ h => h) (Or.inl ⟨by rfl, ?_⟩) (by assumption) ?_
                rotate_left
                · (intro w hSw; (try dsimp only at hSw); go_simp; try with_reducible rfl)
                try simp only [Act.put, List.setIfInBounds_toArray, List.set_cons_zero, List.set_cons_succ]
                refine wpAnyH_take (i := 58) (v := ?_) (by simp only [List.getElem?_toArray, List.getElem?_cons_succ, List.getElem?_cons_zero]; exact rfl) (by decide +kernel) (by decide +kernel) (by decide +kernel) (by exact fun _ _ _ h => h) (Or.inl ⟨by rfl, ?_⟩) (by assumption) ?_
                rotate_left
                · (intro w hSw; (try dsimp only at hSw); go_simp; try with_reducible rfl)
                try simp only [Act.put, List.setIfInBounds_toArray, List.set_cons_zero, List.set_cons_succ]
                refine wpAnyH_take (i := 59) (v := undef) (by simp only [List.getElem?_toArray, List.getElem?_cons_succ, List.getElem?_cons_zero]; exact rfl) (by decide +kernel) (by decide +kernel) (by decide +kernel) (by exact fun _ _ _ h => h) (Or.inr ⟨by rfl, rfl⟩) (by assumption) ?_
                try simp only [Act.put, List.setIfInBounds_toArray, List.set_cons_zero, List.set_cons_succ]
                refine wpAnyH_take (i := 60) (v := undef) (by simp only [List.getElem?_toArray, List.getElem?_cons_succ, List.getElem?_cons_zero]; exact rfl) (by decide +kernel) (by decide +kernel) (by decide +kernel) (by exact fun _ _ _ h => h) (Or.inr ⟨by rfl, rfl⟩) (by assumption) ?_
                try simp only [Act.put, List.setIfInBounds_toArray, List.set_cons_zero, List.set_cons_succ]
                refine wpAnyH_take (i := 61) (v := undef) (by simp only [List.getElem?_toArray, List.getElem?_cons_succ, List.getElem?_cons_zero]; exact rfl) (by decide +kernel) (by decide +kernel) (by decide +kernel) (by exact fun _ _ _ h => h) (Or.inr ⟨by rfl, rfl⟩) (by assumption) ?_
                try simp only [Act.put, List.setIfInBounds_toArray, List.set_cons_zero, List.set_cons_succ]
                refine wpAnyH_take (i := 62) (v := undef) (by simp only [List.getElem?_toArray, List.getElem?_cons_succ, List.getElem?_cons_zero]; exact rfl) (by decide +kernel) (by decide +kernel) (by decide +kernel) (by exact fun _ _ _ h => h) (Or.inr ⟨by rfl, rfl⟩) (by assumption) ?_
                try simp only [Act.put, List.setIfInBounds_toArray, List.set_cons_zero, List.set_cons_succ]
                refine wpAnyH_take (i := 63) (v := undef) (by simp only [List.getElem?_toArray, List.getElem?_cons_succ, List.getElem?_cons_zero]; exact rfl) (by decide +kernel) (by decide +kernel) (by decide +kernel) (by exact fun _ _ _ h => h) (Or.inr ⟨by rfl, rfl⟩) (by assumption) ?_
                try simp only [Act.put, List.setIfInBounds_toArray, List.set_cons_zero, List.set_cons_succ]
                refine wpAnyH_take (i := 64) (v := undef) (by simp only [List.getElem?_toArray, List.getElem?_cons_succ, List.getElem?_cons_zero]; exact rfl) (by decide +kernel) (by decide +kernel) (by decide +kernel) (by exact fun _ _ _ h => h) (Or.inr ⟨by rfl, rfl⟩) (by assumption) ?_
                try simp only [Act.put, List.setIfInBounds_toArray, List.set_cons_zero, List.set_cons_succ]
                refine wpAnyH_take (i := 65) (v := undef) (by simp only [List.getElem?_toArray, List.getElem?_cons_succ, List.getElem?_cons_zero]; exact rfl) (by decide +kernel) (by decide +kernel) (by decide +kernel) (by exact fun _ _ _ h => h) (Or.inr ⟨by rfl, rfl⟩) (by assumption) ?_
                try simp only [Act.put, List.setIfInBounds_toArray, List.set_cons_zero, List.set_cons_succ]
                refine wpAnyH_take (i := 66) (v := undef) (by simp only [List.getElem?_toArray, List.getElem?_cons_succ, List.getElem?_cons_zero]; exact rfl) (by decide +kernel) (by decide +kernel) (by decide +kernel) (by exact fun _ _ _ h => h) (Or.inr ⟨by rfl, rfl⟩) (by assumption) ?_
                try simp only [Act.put, List.setIfInBounds_toArray, List.set_cons_zero, List.set_cons_succ]
                refine wpAnyH_take (i := 67) (v := ?_) (by simp only [List.getElem?_toArray, List.getElem?_cons_succ, List.getElem?_cons_zero]; exact rfl) (by decide +kernel) (by decide +kernel) (by decide +kernel) (by exact fun _ _ _ h => h) (Or.inl ⟨by rfl, ?_⟩) (by assumption) ?_
                rotate_left
                · (intro w hSw; (try dsimp only at hSw); go_simp; try with_reducible rfl)
                try simp only [Act.put, List.setIfInBounds_toArray, List.set_cons_zero, List.set_cons_succ]
                refine wpAnyH_take (i := 68) (v := ?_) (by simp only [List.getElem?_toArray, List.getElem?_cons_succ, List.getElem?_cons_zero]; exact rfl) (by decide +kernel) (by decide +kernel) (by decide +kernel) (by exact fun _ _ _ h => h) (Or.inl ⟨by rfl, ?_⟩) (by assumption) ?_
                rotate_left
                · (intro w hSw; (try dsimp only at hSw); go_simp; try with_reducible rfl)
                try simp only [Act.put, List.setIfInBounds_toArray, List.set_cons_zero, List.set_cons_succ]
                refine wpAnyH_done (by kernel_rfl) ?_ _
                have SF := Lib.hid hHeld.2.2.2.2.2.2
                clear HS8 hHeld
                go_wp2
                go_roundw
                case rel => exact ⟨i + 1, hil, by go_num, Lib.hid (below_then B6.out B6.out.size SF.out.2.2)⟩
                case measure => simp [intOf]; omega
          · obtain rfl : i = O.length := by omega
            have HRF : Hid (RI w wr g gp gt (j + 1) z v') := Lib.hid (W5.out.1.below B6.out)
            go_wp2
            go_roundw
            case rel => exact ⟨j + 1, by omega, by go_num, _, HRF.out⟩
            case measure => simp [intOf]; omega
      · have hk1 : decide (a.k.tmod 5 > 1) = true := by simp; omega
        go_wp2_with fail
        refine (do_step w wr g gp gt j z v a HR.out (by omega) AO.out hk234 hG.out hGp.out hGt.out).mono ?_
        rintro e w4 ⟨⟨b4, rfl⟩, hR4⟩
        have R9 := Lib.hid hR4
        clear hR4
        go_wp2
        go_roundw
        case rel => exact ⟨j + 1, by omega, by go_num, _, R9.out⟩
        case measure => simp [intOf]; omega
    · go_wp2_with fail
      refine (pawake_any _).mono ?_
      rintro e w5 ⟨rfl, hb⟩
      have K5 := Lib.hid (below_then K2.out K2.out.size hb)
      clear hb
      go_wp2
      go_ret
      exact ⟨rfl, K5.out⟩
set_option maxRecDepth 100000 in
theorem probeOthers_lifted (os : Os) (started : os.Started) (H : Type) (enc : TypeId × Value → H) :
    ReturnsInHanded {} Try.checked os 12 .any (Rows.probeOthersSpec.pre6 enc Try.prog Try.f12 Rows.probeOthersRow.domain false) (Rows.probeOthersSpec.post enc Try.prog Try.f12 false true false false) := by
  refine returnsInHanded_of_change (C := Try.checked) tOwn started (by kernel_rfl) Try.func12
    (ChangeSpec.witness6 (enc := enc) (C := Try.checked) false ⟨#[], #[.int .u16 0, .slice none 0 0], []⟩ 8 (by kernel_rfl) (by kernel_rfl) (by kernel_rfl) (by kernel_rfl)) ?_
  intro W base args ds gs before hval0 hW hcnd _
  have hval : ∀ (j : Nat) t v, Try.f12.params[j]? = some t → args[j]? = some v → Value.okWide Try.prog W .any base t v := hval0
  have hW' := hW
  obtain ⟨p, q, hA0, hV, rfl, hfz, hnd⟩ := hW
  have hA : DataW.TrodAll enc Try.prog W 0 (fun _ => true) true Try.f12.params.toList args.toList ds p := hA0
  rw [Try.params12] at hA hval
  obtain ⟨v0, vs0, d0, ds0, p0, q0, hargs, rfl, rfl, h0, r0⟩ := trodAll_cons hA
  obtain ⟨v1, vs1, d1, ds1, p1, q1, rfl, rfl, rfl, h1, r1⟩ := trodAll_cons r0
  obtain ⟨rfl, rfl, rfl⟩ := trodAll_nil r1
  obtain rfl : args = #[v0, v1] := by cases args; simp_all
  obtain ⟨s, rfl, rfl, rfl, ws⟩ := open_int Try.underlying22 (hval 0 22 v0 rfl rfl) h0
  obtain ⟨Al, cl, l, rfl, rl, ml⟩ := open_acts (hval 1 75 v1 rfl rfl) h1
  refine (others_walk s (bounds_u16 ws).1 Al cl l W rl ml).mono fun e W' ⟨he, hb⟩ => ?_
  subst he
  exact ⟨_, rfl, law_post tLaid (by decide +kernel) hW' rfl (by kernel_rfl) Try.underlying4 rfl hb⟩

/-- The statement. -/
theorem probeOthers_holds : Rows.ProbeOthersSaid :=
  OpenClaim.holds_of_wide 12 Try.f12 rfl rfl rfl rfl rfl rfl rfl ⟨rfl, rfl, rfl, rfl, rfl⟩ rfl rfl rfl rfl rfl (by kernel_rfl) Try.func12 (by kernel_rfl)
    (of_decide_eq_true (by kernel_rfl)) (by unfold Func.isWrapper; rw [if_neg (of_decide_eq_false (by kernel_rfl))]; exact ⟨rfl, rfl⟩)
    (fun os started H enc _ => probeOthers_lifted os started H enc)
#print axioms probeOthers_holds
end Go.Proofs.Ytnlpgjdgiappcaa
