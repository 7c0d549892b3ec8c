/- WALKS: the parser's pattern. -/
import Derived.Test.YtnidjfmbbfoheaaRxP5
namespace Go.Proofs.Ytnidjfmbbfoheaa
set_option linter.unusedVariables false
set_option linter.unusedSimpArgs false
open Go.RowKit
theorem patA_succ (m : Nat) (s : List Nat) : Rx.patA (m + 1) s = match Rx.rowA m .nil s with
    | none => none
    | some (o, s1) => Rx.barsA m o s1 := by
  have e : Rx.patA (m + 1) s = (match Rx.rowA m .nil s with | none => none | some (o, s1) => Rx.barsA m o s1) := by
    conv => lhs; unfold Rx.patA
    cases Rx.rowA m .nil s <;> rfl
  exact e
theorem barsA_yes (m : Nat) (o : Rx.Re) (r : List Nat) : Rx.barsA (m + 1) o (124 :: r) = match Rx.rowA m .nil r with
    | none => none
    | some (q, s1) => Rx.barsA m (.alt o q) s1 := by
  have e : Rx.barsA (m + 1) o (124 :: r) = (match Rx.rowA m .nil r with | none => none | some (q, s1) => Rx.barsA m (.alt o q) s1) := by
    conv => lhs; unfold Rx.barsA
    simp only [List.head?_cons, if_true, List.tail_cons]
    cases Rx.rowA m .nil r <;> rfl
  exact e
theorem barsA_no (m : Nat) (o : Rx.Re) (S : List Nat) (h : S.head? ≠ some 124) : Rx.barsA (m + 1) o S = some (o, S) := by
  conv => lhs; unfold Rx.barsA
  rw [if_neg h]
set_option maxRecDepth 100000 in
set_option maxHeartbeats 16000000 in
theorem pat_ok (n0 : Nat) (hrow : ∀ m, m < n0 → RowOk m) : PatOk n0 := by
  intro B gp s st v w H hs hb hn0
  obtain ⟨n1, rfl⟩ : ∃ k, n0 = k + 1 := ⟨n0 - 1, by omega⟩
  have HP := Lib.hid H
  have HS := Lib.hid hs
  have HROW := Lib.hid hrow
  have hgp := H.lt
  have hat := hrow n1 (by omega) B gp s st v _ (H.alloc (.cells #[.int .i64 0, .int .i64 0] 101)) hs (by omega) (by omega)
  have HAT := Lib.hid hat
  have heq := patA_succ n1 s
  obtain ⟨R, hR⟩ : ∃ R, Rx.patA (n1 + 1) s = R := ⟨_, rfl⟩
  rw [hR] at heq ⊢
  clear H hs hrow hat hR
  cases ha : Rx.rowA n1 .nil s with
  | none =>
    rw [ha] at heq
    have HRR := Lib.hid heq
    have HA := Lib.hid ha
    clear heq ha
    go_enter Try.func62, Try.ntmps62
    go_wp2_with fail
    refine HAT.out.mono ?_
    rw [HA.out]
    rintro e w1 ⟨rfl, hG⟩
    refine ⟨rfl, ?_⟩
    rw [HRR.out]
    exact ⟨rfl, ((PG.refl w gp v.ownBlock).alloc _).trans (.refl _ _) hG⟩
  | some q =>
    obtain ⟨a0, s1⟩ := q
    rw [ha] at heq
    simp only at heq
    have hleft := (Rx.read_left n1).2.2.1 _ _ _ _ ha
    obtain ⟨hl1, hl2, hl3⟩ := hleft
    simp only [Rx.cnt] at hl3
    have hs1 := hl1.1
    have HS1 : Hid (∀ y ∈ s1, y < 256) := Lib.hid (fun y hy => HS.out y (hl1.2 y hy))
    have HRR := Lib.hid heq
    have HA := Lib.hid ha
    clear heq ha hl1 hl2
    go_enter Try.func62, Try.ntmps62
    go_wp2_with fail
    refine HAT.out.mono ?_
    rw [HA.out]
    rintro e w1 ⟨rfl, ⟨v1, hP1, hN1⟩, hG1⟩
    have P1 := Lib.hid hP1
    have N1 : Hid (Nx w v v1) := Lib.hid (hN1.imp id (fun ⟨b, e, h⟩ => ⟨b, e, by simp at h; omega⟩))
    have G1 := Lib.hid (((PG.refl w gp v.ownBlock).alloc (.cells #[.int .i64 0, .int .i64 0] 101)).trans (.refl _ _) hG1)
    have BX := Lib.hid (Blk.ps (HP.out.alloc (.cells #[.int .i64 0, .int .i64 0] 101)) (Blk.new w 101 #[.int .i64 0, .int .i64 0]) ⟨by decide, by decide⟩ hG1)
    clear hP1 hN1 hG1
    simp only [pcv]
    go_wp2
    have hw1 : w.heap.size ≤ w1.heap.size := G1.out.size
    have hbx := BX.out.lt
    have BO : Hid (Blk (w1.alloc (.cells #[.int .i64 (((Rx.gen a0 st).1.a : Nat) : Int), .int .i64 (((Rx.gen a0 st).1.z : Nat) : Int)] 101)) w1.heap.size 101 #[.int .i64 (((Rx.gen a0 st).1.a : Nat) : Int), .int .i64 (((Rx.gen a0 st).1.z : Nat) : Int)]) := Lib.hid (Blk.new w1 101 _)
    go_loopg [5] s1.length (fun gg s5 wr => ∃ (m : Nat) (a : Rx.Re) (S : List Nat) (v' : Value), Hid (R = Rx.barsA m a S) ∧ m ≤ n1 ∧ 8 * S.length + 3 ≤ m ∧ S.length ≤ gg ∧ S.length ≤ s1.length ∧ Rx.cnt a + 4 * S.length ≤ 1 + 4 * s.length ∧ Hid (∀ y ∈ S, y < 256) ∧ Hid (Ps wr B gp S (Rx.gen a st).2 v') ∧ Hid (Nx w v v') ∧ Hid (PG w wr gp v.ownBlock) ∧ Hid (Blk wr w.heap.size 101 #[.int .i64 0, .int .i64 0]) ∧ Hid (Blk wr w1.heap.size 101 #[.int .i64 (((Rx.gen a st).1.a : Nat) : Int), .int .i64 (((Rx.gen a st).1.z : Nat) : Int)]))
    case atStart => exact ⟨n1, a0, s1, v1, HRR, Nat.le_refl _, by omega, Nat.le_refl _, Nat.le_refl _, by omega, HS1, Lib.hid (P1.out.alloc _), N1, Lib.hid (G1.out.alloc _), Lib.hid (BX.out.alloc _), BO⟩
    case round =>
      obtain ⟨m, a, S, v', E, hm, hm8, hgg, hSs, hcnt, HSS, P2, N2, G2, BX2, BO2⟩ := hrel
      obtain ⟨m, rfl⟩ : ∃ k, m = k + 1 := ⟨m - 1, by omega⟩
      have hglen := Rx.gen_len a st
      have hgok := Rx.gen_ok a st
      have gz := hgok.z1
      have gz0 := hgok.z0
      have ga := hgok.a1
      have HGL := Lib.hid hglen
      obtain ⟨L0, hL0⟩ : ∃ L0, (Rx.gen a st).2.length = L0 := ⟨_, rfl⟩
      rw [hL0] at gz ga
      have hL0a : L0 ≤ st.length + Rx.cnt a := by rw [← hL0, hglen]; exact Nat.le_refl _
      have hL0b : st.length + Rx.cnt a ≤ L0 := by rw [← hL0, hglen]; exact Nat.le_refl _
      have HL0 := Lib.hid hL0
      clear hglen hgok hL0
      by_cases h124 : S.head? = some 124
      · obtain ⟨r, hr⟩ : ∃ r, S = 124 :: r := ⟨S.tail, Rx.head_cons h124⟩
        subst hr
        clear h124
        have hrl : r.length + 1 ≤ s1.length := by simpa using hSs
        have hrg : r.length + 1 ≤ gk := by simpa using hgg
        have hrc : Rx.cnt a + 4 * (r.length + 1) ≤ 1 + 4 * s.length := by simpa using hcnt
        have hrm : 8 * (r.length + 1) + 3 ≤ m + 1 := by simpa using hm8
        clear hSs hgg hcnt hm8
        have HSR : Hid (∀ y ∈ r, y < 256) := Lib.hid (fun y hy => HSS.out y (List.mem_cons_of_mem _ hy))
        have heq := barsA_yes m a r
        go_wp2_with fail
        refine (is_yes B gp 124 r _ v' _ P2.out HSS.out).mono ?_
        rintro e w3 ⟨rfl, rfl⟩
        have P3 := Lib.hid (P2.out.text r)
        have G3 := Lib.hid (G2.out.setCell (p := ⟨gp, 0, none⟩) (.inl rfl) (.string (bs r)))
        have BX3 := Lib.hid (BX2.out.far (p := ⟨gp, 0, none⟩) (BX2.out.ne_ P2.out.blk (by decide)) (.string (bs r)))
        have BO3 := Lib.hid (BO2.out.far (p := ⟨gp, 0, none⟩) (BO2.out.ne_ P2.out.blk (by decide)) (.string (bs r)))
        generalize hW3 : wr.setCell ⟨gp, 0, none⟩ (.string (bs r)) = W3 at *
        clear hW3
        have hrw := HROW.out m (by omega) B gp r (Rx.gen a st).2 v' W3 P3.out HSR.out (by rw [HL0.out]; omega) (by omega)
        have HRW := Lib.hid hrw
        clear hrw
        cases hra : Rx.rowA m .nil r with
        | none =>
          rw [hra] at heq
          have hRr : R = none := by rw [E.out, heq]
          have HRN := Lib.hid hRr
          have HRA := Lib.hid hra
          clear heq hRr hra
          go_wp2_with fail
          refine HRW.out.mono ?_
          rw [HRA.out]
          rintro e w4 ⟨rfl, hG⟩
          refine ⟨rfl, ?_⟩
          rw [HRN.out]
          exact ⟨rfl, G3.out.trans N2.out hG⟩
        | some q =>
          obtain ⟨b, s2⟩ := q
          rw [hra] at heq
          simp only at heq
          have hleft := (Rx.read_left m).2.2.1 _ _ _ _ hra
          obtain ⟨hl1, hl2, hl4⟩ := hleft
          simp only [Rx.cnt] at hl4
          have hs2 := hl1.1
          have HS2 : Hid (∀ y ∈ s2, y < 256) := Lib.hid (fun y hy => HSR.out y (hl1.2 y hy))
          have HRA := Lib.hid hra
          have E2 := Lib.hid (E.out.trans heq)
          have hgok2 := Rx.gen_ok b (Rx.gen a st).2
          have ga2 := hgok2.a0
          have ga3 := hgok2.a1
          have gz2 := hgok2.z0
          have gz3 := hgok2.z1
          obtain ⟨L2, hL2⟩ : ∃ L2, (Rx.gen b (Rx.gen a st).2).2.length = L2 := ⟨_, rfl⟩
          have hL2n : L2 = L0 + Rx.cnt b := by rw [← hL2, Rx.gen_len, HL0.out]
          have hL2a : L2 ≤ L0 + Rx.cnt b := by omega
          have hL2b : L0 + Rx.cnt b ≤ L2 := by omega
          rw [hL2] at ga3 gz3
          rw [HL0.out] at ga2 gz2
          have HL2 := Lib.hid hL2
          clear heq hra hl1 hl2 hgok2 hL2 hL2n
          go_wp2_with fail
          refine HRW.out.mono ?_
          rw [HRA.out]
          rintro e w4 ⟨rfl, ⟨v4, hP4, hN4⟩, hG4⟩
          have P4 := Lib.hid hP4
          have N4 : Hid (Nx w v v4) := Lib.hid (N2.out.trans G3.out.size hN4)
          have G4 := Lib.hid (G3.out.trans N2.out hG4)
          have BX4 := Lib.hid (Blk.ps P3.out BX3.out ⟨by decide, by decide⟩ hG4)
          have BO4 := Lib.hid (Blk.ps P3.out BO3.out ⟨by decide, by decide⟩ hG4)
          clear hP4 hN4 hG4
          have hw14 : w1.heap.size < w4.heap.size := BO4.out.lt
          have hw4 : w.heap.size ≤ w4.heap.size := G4.out.size
          simp only [pcv]
          have P4' := Lib.hid (P4.out.alloc (.cells #[.int .i64 (((Rx.gen b (Rx.gen a st).2).1.a : Nat) : Int), .int .i64 (((Rx.gen b (Rx.gen a st).2).1.z : Nat) : Int)] 101))
          go_wp2_with fail
          refine (free_any B gp s2 _ v4 _ P4'.out (by rw [HL2.out]; omega)).mono ?_
          rw [HL2.out]
          rintro e w5 ⟨rfl, ⟨v5, hP5, hN5⟩, hG5⟩
          have P5 := Lib.hid hP5
          have G4a := Lib.hid (G4.out.alloc (.cells #[.int .i64 (((Rx.gen b (Rx.gen a st).2).1.a : Nat) : Int), .int .i64 (((Rx.gen b (Rx.gen a st).2).1.z : Nat) : Int)] 101))
          have N5 : Hid (Nx w v v5) := Lib.hid (N4.out.trans G4a.out.size hN5)
          have G5 := Lib.hid (G4a.out.trans N4.out hG5)
          have BX5 := Lib.hid (Blk.ps P4'.out (BX4.out.alloc _) ⟨by decide, by decide⟩ hG5)
          have BO5 := Lib.hid (Blk.ps P4'.out (BO4.out.alloc _) ⟨by decide, by decide⟩ hG5)
          have BM5 := Lib.hid (Blk.ps P4'.out (Blk.new w4 101 #[.int .i64 (((Rx.gen b (Rx.gen a st).2).1.a : Nat) : Int), .int .i64 (((Rx.gen b (Rx.gen a st).2).1.z : Nat) : Int)]) ⟨by decide, by decide⟩ hG5)
          have hst5 : ((Rx.gen b (Rx.gen a st).2).2 ++ [Rx.free]).length = L2 + 1 := by rw [List.length_append, HL2.out]; rfl
          have HL5 := Lib.hid hst5
          generalize hA : (Rx.gen a st).1.a = A1 at *
          generalize hZ : (Rx.gen a st).1.z = Z1 at *
          generalize hA2 : (Rx.gen b (Rx.gen a st).2).1.a = A2 at *
          generalize hZ2 : (Rx.gen b (Rx.gen a st).2).1.z = Z2 at *
          generalize hM : w4.heap.size = M4 at *
          have EA := Lib.hid hA
          have EZ := Lib.hid hZ
          have EA2 := Lib.hid hA2
          have EZ2 := Lib.hid hZ2
          clear hP5 hN5 hG5 hst5 hA hZ hA2 hZ2 hM
          have hzl : Z1 < ((Rx.gen b (Rx.gen a st).2).2 ++ [Rx.free]).length := by rw [HL5.out]; omega
          have hzl2 : Z2 < ((Rx.gen b (Rx.gen a st).2).2 ++ [Rx.free]).length := by rw [HL5.out]; omega
          obtain ⟨g4, k4, ua, ub, hv4, ⟨cur4, hB4⟩, y1, _⟩ := P5.out.at_row hzl
          obtain ⟨g4', k4', ua', ub', hv4', _, y1', _⟩ := P5.out.at_row hzl2
          have hgg' : g4' = g4 := by
            rw [hv4] at hv4'
            injection hv4' with e _ _
            injection e with e
            injection e with e
            exact e.symm
          subst hgg'
          have HZL := Lib.hid hzl
          have HZL2 := Lib.hid hzl2
          have HV4 := Lib.hid hv4
          have HB4 := Lib.hid hB4
          have c4 := P5.out.c1
          rw [hv4, HL5.out] at c4
          have l4 := P5.out.lt
          have q0 := BO5.out.cell 0
          have q1 := BO5.out.cell 1
          have m0 := BM5.out.cell 0
          have m1 := BM5.out.cell 1
          have qf := BO5.out.frozen
          have ql := BO5.out.lt
          have ml := BM5.out.lt
          have bf := hB4.frozen
          have bl := hB4.lt
          simp only [List.getElem?_toArray, List.getElem?_cons_zero, List.getElem?_cons_succ] at q0 q1 m0 m1
          have hneG : g4' ≠ w1.heap.size := hB4.ne_ BO5.out (by decide)
          have hneG' := hneG.symm
          have hneM : g4' ≠ M4 := hB4.ne_ BM5.out (by decide)
          have hneM' := hneM.symm
          have hneP : g4' ≠ gp := hB4.ne_ P5.out.blk (by decide)
          have hneP' := hneP.symm
          have hzz : Z1 * 3 + 1 ≠ Z2 * 3 + 1 := by omega
          have hzz' : Z2 * 3 + 1 ≠ Z1 * 3 + 1 := by omega
          have hzn : Z1 ≠ Z2 := by omega
          have hzn' : Z2 ≠ Z1 := by omega
          have HNG := Lib.hid hneG
          clear hv4 hv4' hB4 hzl hzl2
          obtain ⟨L1, hL1⟩ : ∃ L1, L2 + 1 = L1 := ⟨_, rfl⟩
          rw [hL1] at c4
          have hZa : (0 : Int) ≤ (Z1 : Int) := by omega
          have hZb : (Z1 : Int) < (L1 : Int) := by omega
          have hZc : (0 : Int) ≤ (Z2 : Int) := by omega
          have hZd : (Z2 : Int) < (L1 : Int) := by omega
          have hZe : Z1 < L1 := by omega
          have hZf : Z2 < L1 := by omega
          have HL1 := Lib.hid hL1
          have hs5 := G5.out.size
          clear hL1
          go_wp2
          go_region_held3 (fun X => X.cell? ⟨gp, 1, none⟩ = some (.slice (some ⟨g4', 0, none⟩) L1 k4) ∧ X.cell? ⟨w1.heap.size, 1, none⟩ = some (.int .i64 (Z1 : Int)) ∧ X.cell? ⟨M4, 1, none⟩ = some (.int .i64 (Z2 : Int))) (go_keep) (fail)
          have PN := Lib.hid ((P5.out.next HV4.out HZL.out (L2 : Int)).next (k := Z2) (by rw [Rx.nextAt_length]; exact HV4.out) (by rw [Rx.nextAt_length]; exact HZL2.out) (L2 : Int))
          have GN := Lib.hid (((G5.out.store N5.out (p := ⟨g4', Z1 * 3 + 1, none⟩) (by rw [HV4.out]; rfl) (.int .i64 (L2 : Int))).store N5.out (p := ⟨g4', Z2 * 3 + 1, none⟩) (by rw [HV4.out]; rfl) (.int .i64 (L2 : Int))))
          have BXN := Lib.hid ((BX5.out.far (p := ⟨g4', Z1 * 3 + 1, none⟩) (BX5.out.ne_ HB4.out (by decide)) (.int .i64 (L2 : Int))).far (p := ⟨g4', Z2 * 3 + 1, none⟩) (BX5.out.ne_ HB4.out (by decide)) (.int .i64 (L2 : Int)))
          have BON := Lib.hid ((BO5.out.far (p := ⟨g4', Z1 * 3 + 1, none⟩) (BO5.out.ne_ HB4.out (by decide)) (.int .i64 (L2 : Int))).far (p := ⟨g4', Z2 * 3 + 1, none⟩) (BO5.out.ne_ HB4.out (by decide)) (.int .i64 (L2 : Int)))
          go_wp2_with fail
          refine (add_any B gp s2 _ v5 _ PN.out.drew ⟨none, (A1 : Int), (A2 : Int)⟩ none trivial (by rw [Rx.nextAt_length, Rx.nextAt_length, HL5.out]; omega)).mono ?_
          rw [show (Rx.nextAt (Rx.nextAt ((Rx.gen b (Rx.gen a st).2).2 ++ [Rx.free]) Z1 (L2 : Int)) Z2 (L2 : Int)).length = L1 by rw [Rx.nextAt_length, Rx.nextAt_length, HL5.out]; exact HL1.out]
          rintro e w6 ⟨rfl, ⟨v6, hP6, hN6⟩, hG6⟩
          have P6 := Lib.hid hP6
          have N6 : Hid (Nx w v v6) := Lib.hid (N5.out.trans GN.out.drew.size hN6)
          have G6 := Lib.hid (GN.out.drew.trans N5.out hG6)
          have BX6 := Lib.hid (Blk.ps PN.out.drew BXN.out.drew ⟨by decide, by decide⟩ hG6)
          have BO6 := Lib.hid (Blk.ps PN.out.drew BON.out.drew ⟨by decide, by decide⟩ hG6)
          clear hP6 hN6 hG6 q0 q1 qf ql c4 l4 bf bl y1 y1' m0 m1 ml hneG hneG' hneP hneP' hneM hneM' hzz hzz' hzn hzn'
          have q0 := BO6.out.cell 0
          have q1 := BO6.out.cell 1
          have qf := BO6.out.frozen
          have ql := BO6.out.lt
          simp only [List.getElem?_toArray, List.getElem?_cons_zero, List.getElem?_cons_succ] at q0 q1
          go_wp2
          have hg1 : (Rx.gen (.alt a b) st).1.a = L1 := by rw [← HL1.out, ← HL2.out]; rfl
          have hg2 : (Rx.gen (.alt a b) st).1.z = L2 := by rw [← HL2.out]; rfl
          have hg3 : (Rx.gen (.alt a b) st).2 = Rx.nextAt (Rx.nextAt ((Rx.gen b (Rx.gen a st).2).2 ++ [Rx.free]) Z1 (L2 : Int)) Z2 (L2 : Int) ++ [⟨none, (A1 : Int), (A2 : Int)⟩] := by rw [← HL2.out, ← EA.out, ← EZ.out, ← EA2.out, ← EZ2.out]; rfl
          have PF := (P6.out.far BO6.out ⟨by decide, by decide, by decide⟩ (p := ⟨w1.heap.size, 0, none⟩) rfl (.int .i64 (L1 : Int))).far (BO6.out.set_ 0 _) ⟨by decide, by decide, by decide⟩ (p := ⟨w1.heap.size, 1, none⟩) rfl (.int .i64 (L2 : Int))
          rw [← hg3] at PF
          have PFH := Lib.hid PF
          have GF := Lib.hid ((G6.out.setCell (p := ⟨w1.heap.size, 0, none⟩) (.inr (.inr hw1)) (.int .i64 (L1 : Int))).setCell (p := ⟨w1.heap.size, 1, none⟩) (.inr (.inr hw1)) (.int .i64 (L2 : Int)))
          have BXF := Lib.hid ((BX6.out.far (p := ⟨w1.heap.size, 0, none⟩) (by show w.heap.size ≠ w1.heap.size; omega) (.int .i64 (L1 : Int))).far (p := ⟨w1.heap.size, 1, none⟩) (by show w.heap.size ≠ w1.heap.size; omega) (.int .i64 (L2 : Int)))
          have BOF := (BO6.out.set_ 0 (.int .i64 (L1 : Int))).set_ 1 (.int .i64 (L2 : Int))
          have BOFH : Hid (Blk ((w6.setCell ⟨w1.heap.size, 0, none⟩ (.int .i64 (L1 : Int))).setCell ⟨w1.heap.size, 1, none⟩ (.int .i64 (L2 : Int))) w1.heap.size 101 #[.int .i64 (((Rx.gen (.alt a b) st).1.a : Nat) : Int), .int .i64 (((Rx.gen (.alt a b) st).1.z : Nat) : Int)]) := Lib.hid (by rw [hg1, hg2]; exact BOF)
          go_roundg s2.length
          case measure => omega
          case rel => exact ⟨m, .alt a b, s2, v6, E2, by omega, by omega, Nat.le_refl _, by omega, by simp only [Rx.cnt]; omega, HS2, PFH, N6, GF, BXF, BOFH⟩
      · have hre := barsA_no m a S h124
        go_wp2_with fail
        refine (is_no B gp S 124 _ v' _ P2.out HSS.out h124).mono ?_
        rintro e w3 ⟨rfl, rfl⟩
        have HRE := Lib.hid hre
        have q0 := BO2.out.cell 0
        have q1 := BO2.out.cell 1
        have x0 := BX2.out.cell 0
        have x1 := BX2.out.cell 1
        have xf := BX2.out.frozen
        have xl := BX2.out.lt
        simp only [List.getElem?_toArray, List.getElem?_cons_zero, List.getElem?_cons_succ] at q0 q1 x0 x1
        clear hre h124
        go_wp2
        refine bodyPost_ret (v := pcv (Rx.gen a st).1) (by simp [results, Try.results62, go_sem, pcv, x0, x1]) rfl ?_
        rw [E.out, HRE.out]
        refine ⟨rfl, ⟨v', ?_, N2.out⟩, (G2.out.setCell (.inr (.inr (Nat.le_refl _))) _).setCell (.inr (.inr (Nat.le_refl _))) _⟩
        exact (P2.out.far BX2.out ⟨by decide, by decide, by decide⟩ rfl _).far (BX2.out.set_ 0 _) ⟨by decide, by decide, by decide⟩ rfl _
end Go.Proofs.Ytnidjfmbbfoheaa

