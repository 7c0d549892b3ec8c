/- WALKS: the parser's part. -/
import Derived.Test.YtnidjfmbbfoheaaRxP4
namespace Go.Proofs.Ytnidjfmbbfoheaa
set_option linter.unusedVariables false
set_option linter.unusedSimpArgs false
open Go.RowKit
theorem repsA_star (a : Rx.Re) (r : List Nat) : Rx.repsA a (42 :: r) = Rx.repsA (.star a) r := rfl
theorem repsA_plus (a : Rx.Re) (r : List Nat) : Rx.repsA a (43 :: r) = Rx.repsA (.plus a) r := rfl
theorem repsA_opt (a : Rx.Re) (r : List Nat) : Rx.repsA a (63 :: r) = Rx.repsA (.opt a) r := rfl
theorem repsA_end (a : Rx.Re) (S : List Nat) (h1 : S.head? ≠ some 42) (h2 : S.head? ≠ some 43) (h3 : S.head? ≠ some 63) : Rx.repsA a S = (.junk a, S) := by
  cases S with
  | nil => rfl
  | cons c r =>
    have e : Rx.repsA a (c :: r) = if c = 42 then Rx.repsA (.star a) r else if c = 43 then Rx.repsA (.plus a) r else if c = 63 then Rx.repsA (.opt a) r else (.junk a, c :: r) := rfl
    rw [e, if_neg (fun e => h1 (by rw [e]; rfl)), if_neg (fun e => h2 (by rw [e]; rfl)), if_neg (fun e => h3 (by rw [e]; rfl))]
theorem partA_succ (m : Nat) (s : List Nat) : Rx.partA (m + 1) s = match Rx.atomA m s with
    | none => none
    | some (a, s1) => some (Rx.repsA a s1) := by
  have e : Rx.partA (m + 1) s = (match Rx.atomA m s with | none => none | some (a, s1) => some (Rx.repsA a s1)) := by
    conv => lhs; unfold Rx.partA
    cases Rx.atomA m s <;> rfl
  exact e
set_option maxRecDepth 100000 in
set_option maxHeartbeats 16000000 in
theorem part_ok (n0 : Nat) (hatom : ∀ m, m < n0 → AtomOk m) : PartOk n0 := by
  intro B gp s st v w H hs hb hn0
  obtain ⟨m, rfl⟩ : ∃ k, n0 = k + 1 := ⟨n0 - 1, by omega⟩
  have HP := Lib.hid H
  have HS := Lib.hid hs
  have hgp := H.lt
  have hat := hatom m (by omega) B gp s st v _ (H.alloc (.cells #[.int .i64 0, .int .i64 0] 101)) hs (by omega) (by omega)
  have HAT := Lib.hid hat
  have heq := partA_succ m s
  obtain ⟨R, hR⟩ : ∃ R, Rx.partA (m + 1) s = R := ⟨_, rfl⟩
  rw [hR] at heq ⊢
  clear H hs hatom hat hR
  cases ha : Rx.atomA m s with
  | none =>
    rw [ha] at heq
    have HRR := Lib.hid heq
    have HA := Lib.hid ha
    clear heq ha
    go_enter Try.func112, Try.ntmps112
    go_wp2_with fail
    refine HAT.out.mono ?_
    rw [HA.out]
    rintro e w1 ⟨rfl, hG⟩
    refine ⟨rfl, ?_⟩
    rw [HRR.out]
    exact ⟨rfl, ((PG.refl w gp v.ownBlock).alloc _).trans (.refl _ _) hG⟩
  | some q =>
    obtain ⟨a0, s1⟩ := q
    rw [ha] at heq
    simp only at heq
    have hleft := (Rx.read_left m).2.2.2.2 _ _ _ ha
    obtain ⟨hl1, hl2, hl3⟩ := hleft
    have hs1 := hl1.1
    have HS1 : Hid (∀ y ∈ s1, y < 256) := Lib.hid (fun y hy => HS.out y (hl1.2 y hy))
    have HRR := Lib.hid heq
    have HA := Lib.hid ha
    clear heq ha hl1 hl2
    go_enter Try.func112, Try.ntmps112
    go_wp2_with fail
    refine HAT.out.mono ?_
    rw [HA.out]
    rintro e w1 ⟨rfl, ⟨v1, hP1, hN1⟩, hG1⟩
    have P1 := Lib.hid hP1
    have N1 : Hid (Nx w v v1) := Lib.hid (hN1.imp id (fun ⟨b, e, h⟩ => ⟨b, e, by simp at h; omega⟩))
    have G1 := Lib.hid (((PG.refl w gp v.ownBlock).alloc (.cells #[.int .i64 0, .int .i64 0] 101)).trans (.refl _ _) hG1)
    have BX := Lib.hid (Blk.ps (HP.out.alloc (.cells #[.int .i64 0, .int .i64 0] 101)) (Blk.new w 101 #[.int .i64 0, .int .i64 0]) ⟨by decide, by decide⟩ hG1)
    clear hP1 hN1 hG1
    simp only [pcv]
    go_wp2
    have hw1 : w.heap.size ≤ w1.heap.size := G1.out.size
    have hbx := BX.out.lt
    have BO : Hid (Blk (w1.alloc (.cells #[.int .i64 (((Rx.gen a0 st).1.a : Nat) : Int), .int .i64 (((Rx.gen a0 st).1.z : Nat) : Int)] 101)) w1.heap.size 101 #[.int .i64 (((Rx.gen a0 st).1.a : Nat) : Int), .int .i64 (((Rx.gen a0 st).1.z : Nat) : Int)]) := Lib.hid (Blk.new w1 101 _)
    go_loopg [4] s1.length (fun gg s4 wr => ∃ (a : Rx.Re) (S : List Nat) (v' : Value), Hid (R = some (Rx.repsA a S)) ∧ S.length ≤ gg ∧ S.length ≤ s1.length ∧ Rx.cnt a + 2 * S.length ≤ Rx.cnt a0 + 2 * s1.length ∧ Hid (∀ y ∈ S, y < 256) ∧ Hid (Ps wr B gp S (Rx.gen a st).2 v') ∧ Hid (Nx w v v') ∧ Hid (PG w wr gp v.ownBlock) ∧ Hid (Blk wr w.heap.size 101 #[.int .i64 0, .int .i64 0]) ∧ Hid (Blk wr w1.heap.size 101 #[.int .i64 (((Rx.gen a st).1.a : Nat) : Int), .int .i64 (((Rx.gen a st).1.z : Nat) : Int)]))
    case atStart => exact ⟨a0, s1, v1, HRR, Nat.le_refl _, Nat.le_refl _, Nat.le_refl _, HS1, Lib.hid (P1.out.alloc _), N1, Lib.hid (G1.out.alloc _), Lib.hid (BX.out.alloc _), BO⟩
    case round =>
      obtain ⟨a, S, v', E, hgg, hSs, hcnt, HSS, P2, N2, G2, BX2, BO2⟩ := hrel
      have hglen := Rx.gen_len a st
      have hgok := Rx.gen_ok a st
      have gz := hgok.z1
      have gz0 := hgok.z0
      have HGL := Lib.hid hglen
      rw [hglen] at gz
      obtain ⟨L0, hL0⟩ : ∃ L0, (Rx.gen a st).2.length = L0 := ⟨_, rfl⟩
      have hL0a : L0 ≤ st.length + Rx.cnt a := by rw [← hL0, hglen]; exact Nat.le_refl _
      have hL0b : st.length + Rx.cnt a ≤ L0 := by rw [← hL0, hglen]; exact Nat.le_refl _
      clear hglen hgok
      go_wp2_with fail
      refine (free_any B gp S _ v' _ P2.out (by rw [HGL.out]; omega)).mono ?_
      rw [hL0]
      rintro e w3 ⟨rfl, ⟨v3, hP3, hN3⟩, hG3⟩
      have P3 := Lib.hid hP3
      have N3 : Hid (Nx w v v3) := Lib.hid (N2.out.trans G2.out.size hN3)
      have G3 := Lib.hid (G2.out.trans N2.out hG3)
      have BX3 := Lib.hid (Blk.ps P2.out BX2.out ⟨by decide, by decide⟩ hG3)
      have BO3 := Lib.hid (Blk.ps P2.out BO2.out ⟨by decide, by decide⟩ hG3)
      have hst3 : ((Rx.gen a st).2 ++ [Rx.free]).length = L0 + 1 := by rw [List.length_append, hL0]; rfl
      have HL3 := Lib.hid hst3
      have HL0 := Lib.hid hL0
      generalize hA : (Rx.gen a st).1.a = A4 at *
      generalize hZ : (Rx.gen a st).1.z = Z at *
      have EA := Lib.hid hA
      have EZ := Lib.hid hZ
      have hZ0 : (0 : Int) ≤ (Z : Int) := by omega
      have hZ1 : (Z : Int) < ((L0 + 1 : Nat) : Int) := by omega
      clear hP3 hN3 hG3 hst3 hL0 hA hZ
      by_cases h42 : S.head? = some 42
      · obtain ⟨r, hr⟩ : ∃ r, S = 42 :: r := ⟨S.tail, Rx.head_cons h42⟩
        subst hr
        clear h42
        have hrl : r.length + 1 ≤ s1.length := by simpa using hSs
        have hrg : r.length + 1 ≤ gk := by simpa using hgg
        have hrc : Rx.cnt a + 2 * (r.length + 1) ≤ Rx.cnt a0 + 2 * s1.length := by simpa using hcnt
        clear hSs hgg hcnt
        have HSR : Hid (∀ y ∈ r, y < 256) := Lib.hid (fun y hy => HSS.out y (List.mem_cons_of_mem _ hy))
        go_wp2_with fail
        refine (is_yes B gp 42 r _ v3 _ P3.out HSS.out).mono ?_
        rintro e w4 ⟨rfl, rfl⟩
        have P4 := Lib.hid (P3.out.text r)
        have G4 := Lib.hid (G3.out.setCell (p := ⟨gp, 0, none⟩) (.inl rfl) (.string (bs r)))
        have BX4 := Lib.hid (BX3.out.far (p := ⟨gp, 0, none⟩) (BX3.out.ne_ P3.out.blk (by decide)) (.string (bs r)))
        have BO4 := Lib.hid (BO3.out.far (p := ⟨gp, 0, none⟩) (BO3.out.ne_ P3.out.blk (by decide)) (.string (bs r)))
        generalize hW4 : w3.setCell ⟨gp, 0, none⟩ (.string (bs r)) = W4 at *
        clear hW4
        have hzl : Z < ((Rx.gen a st).2 ++ [Rx.free]).length := by rw [HL3.out]; omega
        obtain ⟨g4, k4, ua, ub, hv4, ⟨cur4, hB4⟩, y1, y2⟩ := P4.out.at_row hzl
        have HZL := Lib.hid hzl
        have HV4 := Lib.hid hv4
        have HB4 := Lib.hid hB4
        have c4 := P4.out.c1
        rw [hv4, HL3.out] at c4
        have l4 := P4.out.lt
        have q0 := BO4.out.cell 0
        have q1 := BO4.out.cell 1
        have qf := BO4.out.frozen
        have ql := BO4.out.lt
        have bf := hB4.frozen
        have bl := hB4.lt
        simp only [List.getElem?_toArray, List.getElem?_cons_zero, List.getElem?_cons_succ] at q0 q1
        have hneG : g4 ≠ w1.heap.size := hB4.ne_ BO4.out (by decide)
        have hneG' := hneG.symm
        have hneP : g4 ≠ gp := hB4.ne_ P4.out.blk (by decide)
        have hneP' := hneP.symm
        have HNG := Lib.hid hneG
        clear hv4 hB4 hzl
        obtain ⟨L1, hL1⟩ : ∃ L1, L0 + 1 = L1 := ⟨_, rfl⟩
        rw [hL1] at c4 hZ1
        have hZ2 : Z < L1 := by omega
        have HL1 := Lib.hid hL1
        have hs4 := G4.out.size
        clear hL1
        go_wp2
        go_region_held3 (fun X => X.cell? ⟨gp, 1, none⟩ = some (.slice (some ⟨g4, 0, none⟩) L1 k4) ∧ X.cell? ⟨w1.heap.size, 0, none⟩ = some (.int .i64 (A4 : Int)) ∧ X.cell? ⟨w1.heap.size, 1, none⟩ = some (.int .i64 (Z : Int))) (go_keep) (fail)
        have PN := Lib.hid ((P4.out.next HV4.out HZL.out (A4 : Int)).other (k := Z) (by rw [Rx.nextAt_length]; exact HV4.out) (by rw [Rx.nextAt_length]; exact HZL.out) (L0 : Int))
        have GN := Lib.hid (((G4.out.store N3.out (p := ⟨g4, Z * 3 + 1, none⟩) (by rw [HV4.out]; rfl) (.int .i64 (A4 : Int))).store N3.out (p := ⟨g4, Z * 3 + 2, none⟩) (by rw [HV4.out]; rfl) (.int .i64 (L0 : Int))))
        have BXN := Lib.hid ((BX4.out.far (p := ⟨g4, Z * 3 + 1, none⟩) (BX4.out.ne_ HB4.out (by decide)) (.int .i64 (A4 : Int))).far (p := ⟨g4, Z * 3 + 2, none⟩) (BX4.out.ne_ HB4.out (by decide)) (.int .i64 (L0 : Int)))
        have BON := Lib.hid ((BO4.out.far (p := ⟨g4, Z * 3 + 1, none⟩) (BO4.out.ne_ HB4.out (by decide)) (.int .i64 (A4 : Int))).far (p := ⟨g4, Z * 3 + 2, none⟩) (BO4.out.ne_ HB4.out (by decide)) (.int .i64 (L0 : Int)))
        go_wp2_with fail
        refine (add_any B gp r _ v3 _ PN.out.drew ⟨none, (A4 : Int), (L0 : Int)⟩ none trivial (by rw [Rx.otherAt_length, Rx.nextAt_length, HL3.out]; omega)).mono ?_
        rw [show (Rx.otherAt (Rx.nextAt ((Rx.gen a st).2 ++ [Rx.free]) Z (A4 : Int)) Z (L0 : Int)).length = L1 by rw [Rx.otherAt_length, Rx.nextAt_length, HL3.out]; exact HL1.out]
        rintro e w5 ⟨rfl, ⟨v5, hP5, hN5⟩, hG5⟩
        have P5 := Lib.hid hP5
        have N5 : Hid (Nx w v v5) := Lib.hid (N3.out.trans GN.out.drew.size hN5)
        have G5 := Lib.hid (GN.out.drew.trans N3.out hG5)
        have BX5 := Lib.hid (Blk.ps PN.out.drew BXN.out.drew ⟨by decide, by decide⟩ hG5)
        have BO5 := Lib.hid (Blk.ps PN.out.drew BON.out.drew ⟨by decide, by decide⟩ hG5)
        clear hP5 hN5 hG5 q0 q1 qf ql c4 l4 bf bl y1 y2 hneG hneG' hneP hneP'
        have q0 := BO5.out.cell 0
        have q1 := BO5.out.cell 1
        have qf := BO5.out.frozen
        have ql := BO5.out.lt
        simp only [List.getElem?_toArray, List.getElem?_cons_zero, List.getElem?_cons_succ] at q0 q1
        go_wp2
        have hg1 : (Rx.gen (.star a) st).1.a = L1 := by rw [← HL1.out, ← HL0.out]; rfl
        have hg2 : (Rx.gen (.star a) st).1.z = L0 := by rw [← HL0.out]; rfl
        have hg3 : (Rx.gen (.star a) st).2 = Rx.otherAt (Rx.nextAt ((Rx.gen a st).2 ++ [Rx.free]) Z (A4 : Int)) Z (L0 : Int) ++ [⟨none, (A4 : Int), (L0 : Int)⟩] := by rw [← HL0.out, ← EA.out, ← EZ.out]; rfl
        have PF := (P5.out.far BO5.out ⟨by decide, by decide, by decide⟩ (p := ⟨w1.heap.size, 0, none⟩) rfl (.int .i64 (L1 : Int))).far (BO5.out.set_ 0 _) ⟨by decide, by decide, by decide⟩ (p := ⟨w1.heap.size, 1, none⟩) rfl (.int .i64 (L0 : Int))
        rw [← hg3] at PF
        have PFH := Lib.hid PF
        have GF := Lib.hid ((G5.out.setCell (p := ⟨w1.heap.size, 0, none⟩) (.inr (.inr hw1)) (.int .i64 (L1 : Int))).setCell (p := ⟨w1.heap.size, 1, none⟩) (.inr (.inr hw1)) (.int .i64 (L0 : Int)))
        have BXF := Lib.hid ((BX5.out.far (p := ⟨w1.heap.size, 0, none⟩) (by show w.heap.size ≠ w1.heap.size; omega) (.int .i64 (L1 : Int))).far (p := ⟨w1.heap.size, 1, none⟩) (by show w.heap.size ≠ w1.heap.size; omega) (.int .i64 (L0 : Int)))
        have BOF := (BO5.out.set_ 0 (.int .i64 (L1 : Int))).set_ 1 (.int .i64 (L0 : Int))
        have BOFH : Hid (Blk ((w5.setCell ⟨w1.heap.size, 0, none⟩ (.int .i64 (L1 : Int))).setCell ⟨w1.heap.size, 1, none⟩ (.int .i64 (L0 : Int))) w1.heap.size 101 #[.int .i64 (((Rx.gen (.star a) st).1.a : Nat) : Int), .int .i64 (((Rx.gen (.star a) st).1.z : Nat) : Int)]) := Lib.hid (by rw [hg1, hg2]; exact BOF)
        go_roundg r.length
        case measure => omega
        case rel => exact ⟨.star a, r, v5, Lib.hid (by rw [E.out]; rfl), Nat.le_refl _, by omega, by simp only [Rx.cnt]; omega, HSR, PFH, N5, GF, BXF, BOFH⟩
      · by_cases h43 : S.head? = some 43
        · obtain ⟨r, hr⟩ : ∃ r, S = 43 :: r := ⟨S.tail, Rx.head_cons h43⟩
          subst hr
          clear h43
          have hrl : r.length + 1 ≤ s1.length := by simpa using hSs
          have hrg : r.length + 1 ≤ gk := by simpa using hgg
          have hrc : Rx.cnt a + 2 * (r.length + 1) ≤ Rx.cnt a0 + 2 * s1.length := by simpa using hcnt
          clear hSs hgg hcnt
          have HSR : Hid (∀ y ∈ r, y < 256) := Lib.hid (fun y hy => HSS.out y (List.mem_cons_of_mem _ hy))
          go_wp2_with fail
          refine (is_no B gp (43 :: r) 42 _ v3 _ P3.out HSS.out h42).mono ?_
          rintro e w3 ⟨rfl, rfl⟩
          go_wp2_with fail
          refine (is_yes B gp 43 r _ v3 _ P3.out HSS.out).mono ?_
          rintro e w4 ⟨rfl, rfl⟩
          have P4 := Lib.hid (P3.out.text r)
          have G4 := Lib.hid (G3.out.setCell (p := ⟨gp, 0, none⟩) (.inl rfl) (.string (bs r)))
          have BX4 := Lib.hid (BX3.out.far (p := ⟨gp, 0, none⟩) (BX3.out.ne_ P3.out.blk (by decide)) (.string (bs r)))
          have BO4 := Lib.hid (BO3.out.far (p := ⟨gp, 0, none⟩) (BO3.out.ne_ P3.out.blk (by decide)) (.string (bs r)))
          generalize hW4 : w3.setCell ⟨gp, 0, none⟩ (.string (bs r)) = W4 at *
          clear hW4
          have hzl : Z < ((Rx.gen a st).2 ++ [Rx.free]).length := by rw [HL3.out]; omega
          obtain ⟨g4, k4, ua, ub, hv4, ⟨cur4, hB4⟩, y1, y2⟩ := P4.out.at_row hzl
          have HZL := Lib.hid hzl
          have HV4 := Lib.hid hv4
          have HB4 := Lib.hid hB4
          have c4 := P4.out.c1
          rw [hv4, HL3.out] at c4
          have l4 := P4.out.lt
          have q0 := BO4.out.cell 0
          have q1 := BO4.out.cell 1
          have qf := BO4.out.frozen
          have ql := BO4.out.lt
          have bf := hB4.frozen
          have bl := hB4.lt
          simp only [List.getElem?_toArray, List.getElem?_cons_zero, List.getElem?_cons_succ] at q0 q1
          have hneG : g4 ≠ w1.heap.size := hB4.ne_ BO4.out (by decide)
          have hneG' := hneG.symm
          have hneP : g4 ≠ gp := hB4.ne_ P4.out.blk (by decide)
          have hneP' := hneP.symm
          have HNG := Lib.hid hneG
          clear hv4 hB4 hzl
          obtain ⟨L1, hL1⟩ : ∃ L1, L0 + 1 = L1 := ⟨_, rfl⟩
          rw [hL1] at c4 hZ1
          have hZ2 : Z < L1 := by omega
          have HL1 := Lib.hid hL1
          have hs4 := G4.out.size
          clear hL1
          go_wp2
          go_region_held3 (fun X => X.cell? ⟨gp, 1, none⟩ = some (.slice (some ⟨g4, 0, none⟩) L1 k4) ∧ X.cell? ⟨w1.heap.size, 0, none⟩ = some (.int .i64 (A4 : Int)) ∧ X.cell? ⟨w1.heap.size, 1, none⟩ = some (.int .i64 (Z : Int))) (go_keep) (fail)
          have PN := Lib.hid ((P4.out.next HV4.out HZL.out (A4 : Int)).other (k := Z) (by rw [Rx.nextAt_length]; exact HV4.out) (by rw [Rx.nextAt_length]; exact HZL.out) (L0 : Int))
          have GN := Lib.hid (((G4.out.store N3.out (p := ⟨g4, Z * 3 + 1, none⟩) (by rw [HV4.out]; rfl) (.int .i64 (A4 : Int))).store N3.out (p := ⟨g4, Z * 3 + 2, none⟩) (by rw [HV4.out]; rfl) (.int .i64 (L0 : Int))))
          have BXN := Lib.hid ((BX4.out.far (p := ⟨g4, Z * 3 + 1, none⟩) (BX4.out.ne_ HB4.out (by decide)) (.int .i64 (A4 : Int))).far (p := ⟨g4, Z * 3 + 2, none⟩) (BX4.out.ne_ HB4.out (by decide)) (.int .i64 (L0 : Int)))
          have BON := Lib.hid ((BO4.out.far (p := ⟨g4, Z * 3 + 1, none⟩) (BO4.out.ne_ HB4.out (by decide)) (.int .i64 (A4 : Int))).far (p := ⟨g4, Z * 3 + 2, none⟩) (BO4.out.ne_ HB4.out (by decide)) (.int .i64 (L0 : Int)))
          go_wp2
          have hg1 : (Rx.gen (.plus a) st).1.a = A4 := by rw [← EA.out]; rfl
          have hg2 : (Rx.gen (.plus a) st).1.z = L0 := by rw [← HL0.out]; rfl
          have hg3 : (Rx.gen (.plus a) st).2 = Rx.otherAt (Rx.nextAt ((Rx.gen a st).2 ++ [Rx.free]) Z (A4 : Int)) Z (L0 : Int) := by rw [← HL0.out, ← EA.out, ← EZ.out]; rfl
          have PF := PN.out.drew.far BON.out.drew ⟨by decide, by decide, by decide⟩ (p := ⟨w1.heap.size, 1, none⟩) rfl (.int .i64 (L0 : Int))
          rw [← hg3] at PF
          have PFH := Lib.hid PF
          have GF := Lib.hid (GN.out.drew.setCell (p := ⟨w1.heap.size, 1, none⟩) (.inr (.inr hw1)) (.int .i64 (L0 : Int)))
          have BXF := Lib.hid (BXN.out.drew.far (p := ⟨w1.heap.size, 1, none⟩) (by show w.heap.size ≠ w1.heap.size; omega) (.int .i64 (L0 : Int)))
          have BOF := BON.out.drew.set_ 1 (.int .i64 (L0 : Int))
          have BOFH : Hid (Blk (_ : World) w1.heap.size 101 #[.int .i64 (((Rx.gen (.plus a) st).1.a : Nat) : Int), .int .i64 (((Rx.gen (.plus a) st).1.z : Nat) : Int)]) := Lib.hid (by rw [hg1, hg2]; exact BOF)
          go_roundg r.length
          case measure => omega
          case rel => exact ⟨.plus a, r, v3, Lib.hid (by rw [E.out]; rfl), Nat.le_refl _, by omega, by simp only [Rx.cnt]; omega, HSR, PFH, N3, GF, BXF, BOFH⟩
        · by_cases h63 : S.head? = some 63
          · obtain ⟨r, hr⟩ : ∃ r, S = 63 :: r := ⟨S.tail, Rx.head_cons h63⟩
            subst hr
            clear h63
            have hrl : r.length + 1 ≤ s1.length := by simpa using hSs
            have hrg : r.length + 1 ≤ gk := by simpa using hgg
            have hrc : Rx.cnt a + 2 * (r.length + 1) ≤ Rx.cnt a0 + 2 * s1.length := by simpa using hcnt
            clear hSs hgg hcnt
            have HSR : Hid (∀ y ∈ r, y < 256) := Lib.hid (fun y hy => HSS.out y (List.mem_cons_of_mem _ hy))
            go_wp2_with fail
            refine (is_no B gp (63 :: r) 42 _ v3 _ P3.out HSS.out h42).mono ?_
            rintro e w3 ⟨rfl, rfl⟩
            go_wp2_with fail
            refine (is_no B gp (63 :: r) 43 _ v3 _ P3.out HSS.out h43).mono ?_
            rintro e w3 ⟨rfl, rfl⟩
            go_wp2_with fail
            refine (is_yes B gp 63 r _ v3 _ P3.out HSS.out).mono ?_
            rintro e w4 ⟨rfl, rfl⟩
            have P4 := Lib.hid (P3.out.text r)
            have G4 := Lib.hid (G3.out.setCell (p := ⟨gp, 0, none⟩) (.inl rfl) (.string (bs r)))
            have BX4 := Lib.hid (BX3.out.far (p := ⟨gp, 0, none⟩) (BX3.out.ne_ P3.out.blk (by decide)) (.string (bs r)))
            have BO4 := Lib.hid (BO3.out.far (p := ⟨gp, 0, none⟩) (BO3.out.ne_ P3.out.blk (by decide)) (.string (bs r)))
            generalize hW4 : w3.setCell ⟨gp, 0, none⟩ (.string (bs r)) = W4 at *
            clear hW4
            have hzl : Z < ((Rx.gen a st).2 ++ [Rx.free]).length := by rw [HL3.out]; omega
            obtain ⟨g4, k4, ua, ub, hv4, ⟨cur4, hB4⟩, y1, y2⟩ := P4.out.at_row hzl
            have HZL := Lib.hid hzl
            have HV4 := Lib.hid hv4
            have HB4 := Lib.hid hB4
            have c4 := P4.out.c1
            rw [hv4, HL3.out] at c4
            have l4 := P4.out.lt
            have q0 := BO4.out.cell 0
            have q1 := BO4.out.cell 1
            have qf := BO4.out.frozen
            have ql := BO4.out.lt
            have bf := hB4.frozen
            have bl := hB4.lt
            simp only [List.getElem?_toArray, List.getElem?_cons_zero, List.getElem?_cons_succ] at q0 q1
            have hneG : g4 ≠ w1.heap.size := hB4.ne_ BO4.out (by decide)
            have hneG' := hneG.symm
            have hneP : g4 ≠ gp := hB4.ne_ P4.out.blk (by decide)
            have hneP' := hneP.symm
            have HNG := Lib.hid hneG
            clear hv4 hB4 hzl
            obtain ⟨L1, hL1⟩ : ∃ L1, L0 + 1 = L1 := ⟨_, rfl⟩
            rw [hL1] at c4 hZ1
            have hZ2 : Z < L1 := by omega
            have HL1 := Lib.hid hL1
            have hs4 := G4.out.size
            clear hL1
            go_wp2
            go_region_held3 (fun X => X.cell? ⟨gp, 1, none⟩ = some (.slice (some ⟨g4, 0, none⟩) L1 k4) ∧ X.cell? ⟨w1.heap.size, 0, none⟩ = some (.int .i64 (A4 : Int)) ∧ X.cell? ⟨w1.heap.size, 1, none⟩ = some (.int .i64 (Z : Int))) (go_keep) (fail)
            have PN := Lib.hid (P4.out.next HV4.out HZL.out (L0 : Int))
            have GN := Lib.hid (G4.out.store N3.out (p := ⟨g4, Z * 3 + 1, none⟩) (by rw [HV4.out]; rfl) (.int .i64 (L0 : Int)))
            have BXN := Lib.hid (BX4.out.far (p := ⟨g4, Z * 3 + 1, none⟩) (BX4.out.ne_ HB4.out (by decide)) (.int .i64 (L0 : Int)))
            have BON := Lib.hid (BO4.out.far (p := ⟨g4, Z * 3 + 1, none⟩) (BO4.out.ne_ HB4.out (by decide)) (.int .i64 (L0 : Int)))
            go_wp2_with fail
            refine (add_any B gp r _ v3 _ PN.out.drew ⟨none, (A4 : Int), (L0 : Int)⟩ none trivial (by rw [Rx.nextAt_length, HL3.out]; omega)).mono ?_
            rw [show (Rx.nextAt ((Rx.gen a st).2 ++ [Rx.free]) Z (L0 : Int)).length = L1 by rw [Rx.nextAt_length, HL3.out]; exact HL1.out]
            rintro e w5 ⟨rfl, ⟨v5, hP5, hN5⟩, hG5⟩
            have P5 := Lib.hid hP5
            have N5 : Hid (Nx w v v5) := Lib.hid (N3.out.trans GN.out.drew.size hN5)
            have G5 := Lib.hid (GN.out.drew.trans N3.out hG5)
            have BX5 := Lib.hid (Blk.ps PN.out.drew BXN.out.drew ⟨by decide, by decide⟩ hG5)
            have BO5 := Lib.hid (Blk.ps PN.out.drew BON.out.drew ⟨by decide, by decide⟩ hG5)
            clear hP5 hN5 hG5 q0 q1 qf ql c4 l4 bf bl y1 y2 hneG hneG' hneP hneP'
            have q0 := BO5.out.cell 0
            have q1 := BO5.out.cell 1
            have qf := BO5.out.frozen
            have ql := BO5.out.lt
            simp only [List.getElem?_toArray, List.getElem?_cons_zero, List.getElem?_cons_succ] at q0 q1
            go_wp2
            have hg1 : (Rx.gen (.opt a) st).1.a = L1 := by rw [← HL1.out, ← HL0.out]; rfl
            have hg2 : (Rx.gen (.opt a) st).1.z = L0 := by rw [← HL0.out]; rfl
            have hg3 : (Rx.gen (.opt a) st).2 = Rx.nextAt ((Rx.gen a st).2 ++ [Rx.free]) Z (L0 : Int) ++ [⟨none, (A4 : Int), (L0 : Int)⟩] := by rw [← HL0.out, ← EA.out, ← EZ.out]; rfl
            have PF := (P5.out.far BO5.out ⟨by decide, by decide, by decide⟩ (p := ⟨w1.heap.size, 0, none⟩) rfl (.int .i64 (L1 : Int))).far (BO5.out.set_ 0 _) ⟨by decide, by decide, by decide⟩ (p := ⟨w1.heap.size, 1, none⟩) rfl (.int .i64 (L0 : Int))
            rw [← hg3] at PF
            have PFH := Lib.hid PF
            have GF := Lib.hid ((G5.out.setCell (p := ⟨w1.heap.size, 0, none⟩) (.inr (.inr hw1)) (.int .i64 (L1 : Int))).setCell (p := ⟨w1.heap.size, 1, none⟩) (.inr (.inr hw1)) (.int .i64 (L0 : Int)))
            have BXF := Lib.hid ((BX5.out.far (p := ⟨w1.heap.size, 0, none⟩) (by show w.heap.size ≠ w1.heap.size; omega) (.int .i64 (L1 : Int))).far (p := ⟨w1.heap.size, 1, none⟩) (by show w.heap.size ≠ w1.heap.size; omega) (.int .i64 (L0 : Int)))
            have BOF := (BO5.out.set_ 0 (.int .i64 (L1 : Int))).set_ 1 (.int .i64 (L0 : Int))
            have BOFH : Hid (Blk ((w5.setCell ⟨w1.heap.size, 0, none⟩ (.int .i64 (L1 : Int))).setCell ⟨w1.heap.size, 1, none⟩ (.int .i64 (L0 : Int))) w1.heap.size 101 #[.int .i64 (((Rx.gen (.opt a) st).1.a : Nat) : Int), .int .i64 (((Rx.gen (.opt a) st).1.z : Nat) : Int)]) := Lib.hid (by rw [hg1, hg2]; exact BOF)
            go_roundg r.length
            case measure => omega
            case rel => exact ⟨.opt a, r, v5, Lib.hid (by rw [E.out]; rfl), Nat.le_refl _, by omega, by simp only [Rx.cnt]; omega, HSR, PFH, N5, GF, BXF, BOFH⟩
          · have hre := repsA_end a S h42 h43 h63
            go_wp2_with fail
            refine (is_no B gp S 42 _ v3 _ P3.out HSS.out h42).mono ?_
            rintro e w3 ⟨rfl, rfl⟩
            go_wp2_with fail
            refine (is_no B gp S 43 _ v3 _ P3.out HSS.out h43).mono ?_
            rintro e w3 ⟨rfl, rfl⟩
            go_wp2_with fail
            refine (is_no B gp S 63 _ v3 _ P3.out HSS.out h63).mono ?_
            rintro e w3 ⟨rfl, rfl⟩
            have HRE := Lib.hid hre
            have q0 := BO3.out.cell 0
            have q1 := BO3.out.cell 1
            have x0 := BX3.out.cell 0
            have x1 := BX3.out.cell 1
            have xf := BX3.out.frozen
            have xl := BX3.out.lt
            simp only [List.getElem?_toArray, List.getElem?_cons_zero, List.getElem?_cons_succ] at q0 q1 x0 x1
            clear hre h42 h43 h63
            go_wp2
            have hpc : (Rx.gen (.junk a) st).1 = ⟨A4, Z⟩ := by rw [← EA.out, ← EZ.out]; rfl
            refine bodyPost_ret (v := pcv (Rx.gen (.junk a) st).1) (by rw [hpc]; simp [results, Try.results112, go_sem, pcv, x0, x1]) rfl ?_
            rw [E.out, HRE.out]
            refine ⟨rfl, ⟨v3, ?_, N3.out⟩, (G3.out.setCell (.inr (.inr (Nat.le_refl _))) _).setCell (.inr (.inr (Nat.le_refl _))) _⟩
            exact (P3.out.far BX3.out ⟨by decide, by decide, by decide⟩ rfl _).far (BX3.out.set_ 0 _) ⟨by decide, by decide, by decide⟩ rfl _
end Go.Proofs.Ytnidjfmbbfoheaa

