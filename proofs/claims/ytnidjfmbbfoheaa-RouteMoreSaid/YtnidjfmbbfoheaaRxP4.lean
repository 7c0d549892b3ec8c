/- WALKS: the parser's row. -/
import Derived.Test.YtnidjfmbbfoheaaRxP3
import Derived.Outline
namespace Go.Proofs.Ytnidjfmbbfoheaa
set_option linter.unusedVariables false
set_option linter.unusedSimpArgs false
open Go.RowKit

section
variable {w w1 : World} {B gp : Nat} {s : List Nat} {st : List Rx.St} {v v1 : Value}
theorem Ps.next (H : Ps w B gp s st v) {g c k : Nat} (hv : v = .slice (some ⟨g, 0, none⟩) st.length c) (hk : k < st.length) (n : Int) : Ps (w.setCell ⟨g, k * 3 + 1, none⟩ (.int .i64 n)) B gp s (Rx.nextAt st k n) v := by
  subst hv
  have hr := H.row.next hk n
  rw [Rx.nextAt_length] at hr
  obtain ⟨g', c', p, e, _, ⟨cur, hB⟩, _⟩ := H.row.at_ (List.getElem?_eq_getElem hk)
  injection e with e _ _
  injection e with e
  injection e with e
  subst e
  exact ⟨H.blk.far (p := ⟨g, k * 3 + 1, none⟩) (H.blk.ne_ hB (by decide)) _, hr, H.base⟩
theorem Ps.other (H : Ps w B gp s st v) {g c k : Nat} (hv : v = .slice (some ⟨g, 0, none⟩) st.length c) (hk : k < st.length) (n : Int) : Ps (w.setCell ⟨g, k * 3 + 2, none⟩ (.int .i64 n)) B gp s (Rx.otherAt st k n) v := by
  subst hv
  have hr := H.row.other hk n
  rw [Rx.otherAt_length] at hr
  obtain ⟨g', c', p, e, _, ⟨cur, hB⟩, _⟩ := H.row.at_ (List.getElem?_eq_getElem hk)
  injection e with e _ _
  injection e with e
  injection e with e
  subst e
  exact ⟨H.blk.far (p := ⟨g, k * 3 + 2, none⟩) (H.blk.ne_ hB (by decide)) _, hr, H.base⟩
theorem PG.store (h : PG w w1 gp v.ownBlock) (hn : Nx w v v1) {p : Addr} (hp : v1.ownBlock = some p.block) (u : Value) : PG w (w1.setCell p u) gp v.ownBlock := by
  refine h.setCell ?_ u
  rcases hn with hn | ⟨b, hn, hb⟩
  · exact .inr (.inl (by rw [← hn, hp]))
  · rw [hn] at hp; injection hp with hp; exact .inr (.inr (by omega))
end

theorem Ps.at_row {w : World} {B gp : Nat} {s : List Nat} {st : List Rx.St} {v : Value} (H : Ps w B gp s st v) {k : Nat} (hk : k < st.length) : ∃ g c a b, v = .slice (some ⟨g, 0, none⟩) st.length c ∧ (∃ cur, Blk w g 105 cur) ∧ w.cell? ⟨g, k * 3 + 1, none⟩ = some a ∧ w.cell? ⟨g, k * 3 + 2, none⟩ = some b := by
  obtain ⟨g, c, p, e, _, hB, _, h1, h2, _⟩ := H.row.at_ (List.getElem?_eq_getElem hk)
  exact ⟨g, c, _, _, e, hB, h1, h2⟩
/-- What a part of the parser hands back. -/
def PatEnd (w : World) (B gp : Nat) (st : List Rx.St) (v : Value) (r : Option (Rx.Re × List Nat)) (e : Ending) (w' : World) : Prop :=
  match r with
  | none => e = .panicked badChain ∧ PG w w' gp v.ownBlock
  | some (r, s') => e = .returned (pcv (Rx.gen r st).1) ∧ PE w B gp v s' (Rx.gen r st).2 w'
def PatOk (n : Nat) : Prop := ∀ (B gp : Nat) (s : List Nat) (st : List Rx.St) (v : Value) (w : World), Ps w B gp s st v → (∀ x ∈ s, x < 256) → st.length + 16 * s.length + 6 ≤ 900000 → 8 * s.length + 4 ≤ n →
  Calls Try.prog 62 #[.pointer (some ⟨gp, 0, none⟩)] w (PatEnd w B gp st v (Rx.patA n s))
def RowOk (n : Nat) : Prop := ∀ (B gp : Nat) (s : List Nat) (st : List Rx.St) (v : Value) (w : World), Ps w B gp s st v → (∀ x ∈ s, x < 256) → st.length + 16 * s.length + 6 ≤ 900000 → 8 * s.length + 3 ≤ n →
  Calls Try.prog 97 #[.pointer (some ⟨gp, 0, none⟩)] w (PatEnd w B gp st v (Rx.rowA n .nil s))
def PartOk (n : Nat) : Prop := ∀ (B gp : Nat) (s : List Nat) (st : List Rx.St) (v : Value) (w : World), Ps w B gp s st v → (∀ x ∈ s, x < 256) → st.length + 16 * s.length + 5 ≤ 900000 → 8 * s.length + 2 ≤ n →
  Calls Try.prog 112 #[.pointer (some ⟨gp, 0, none⟩)] w (PatEnd w B gp st v (Rx.partA n s))
def AtomOk (n : Nat) : Prop := ∀ (B gp : Nat) (s : List Nat) (st : List Rx.St) (v : Value) (w : World), Ps w B gp s st v → (∀ x ∈ s, x < 256) → st.length + 16 * s.length + 5 ≤ 900000 → 8 * s.length + 1 ≤ n →
  Calls Try.prog 116 #[.pointer (some ⟨gp, 0, none⟩)] w (PatEnd w B gp st v (Rx.atomA n s))

theorem rowA_succ (m : Nat) (o : Rx.Re) (S : List Nat) : Rx.rowA (m + 1) o S = if S = [] ∨ S.head? = some 124 ∨ S.head? = some 41 then some (o, S) else
    match Rx.partA m S with
    | none => none
    | some (p, s1) => Rx.rowA m (.cat o p) s1 := by
  conv => lhs; unfold Rx.rowA
  split <;> rfl

set_option maxRecDepth 100000 in
set_option maxHeartbeats 8000000 in
theorem row_ok (n0 : Nat) (hpart : ∀ m, m < n0 → PartOk m) : RowOk n0 := by
  intro B gp s st v w H hs hb hn0
  have HP := Lib.hid H
  have HS := Lib.hid hs
  have HPART := Lib.hid hpart
  have hgp := H.lt
  obtain ⟨R, hR⟩ : ∃ R, Rx.rowA n0 .nil s = R := ⟨_, rfl⟩
  rw [hR]
  have HR := Lib.hid hR
  clear H hs hpart hR
  go_enter Try.func97, Try.ntmps97
  go_wp2_with fail
  refine (free_any B gp s st v _ (HP.out.alloc _) (by omega)).mono ?_
  rintro e w1 ⟨rfl, ⟨v1, hP1, hN1⟩, hG1⟩
  have P1 : Hid (Ps w1 B gp s (Rx.gen .nil st).2 v1) := Lib.hid hP1
  have N1 : Hid (Nx w v v1) := Lib.hid (hN1.imp id (fun ⟨b, e, h⟩ => ⟨b, e, by simp at h; omega⟩))
  have G1 := Lib.hid (((PG.refl w gp v.ownBlock).alloc (.cells #[.int .i64 0, .int .i64 0] 101)).trans (.refl _ _) hG1)
  have BX := Lib.hid (Blk.ps (HP.out.alloc (.cells #[.int .i64 0, .int .i64 0] 101)) (Blk.new w 101 #[.int .i64 0, .int .i64 0]) ⟨by decide, by decide⟩ hG1)
  clear hP1 hN1 hG1
  go_wp2
  have hw1 : w.heap.size ≤ w1.heap.size := G1.out.size
  have hbx := BX.out.lt
  have BO : Hid (Blk (w1.alloc (.cells #[.int .i64 (st.length : Int), .int .i64 (st.length : Int)] 101)) w1.heap.size 101 #[.int .i64 (((Rx.gen .nil st).1.a : Nat) : Int), .int .i64 (((Rx.gen .nil st).1.z : Nat) : Int)]) := Lib.hid (Blk.new w1 101 _)
  go_loopg [20] s.length (fun gg s20 wr => ∃ (m : Nat) (o : Rx.Re) (S : List Nat) (v' : Value), Hid (R = Rx.rowA m o S) ∧ m ≤ n0 ∧ 8 * S.length + 3 ≤ m ∧ S.length ≤ gg ∧ S.length ≤ s.length ∧ Rx.cnt o + 4 * S.length ≤ 1 + 4 * s.length ∧ Hid (∀ y ∈ S, y < 256) ∧ Hid (Ps wr B gp S (Rx.gen o st).2 v') ∧ Hid (Nx w v v') ∧ Hid (PG w wr gp v.ownBlock) ∧ Hid (Blk wr w.heap.size 101 #[.int .i64 0, .int .i64 0]) ∧ Hid (Blk wr w1.heap.size 101 #[.int .i64 (((Rx.gen o st).1.a : Nat) : Int), .int .i64 (((Rx.gen o st).1.z : Nat) : Int)]))
  case atStart => exact ⟨n0, .nil, s, v1, Lib.hid HR.out.symm, Nat.le_refl _, hn0, Nat.le_refl _, Nat.le_refl _, by simp [Rx.cnt], HS, Lib.hid (P1.out.alloc _), N1, Lib.hid (G1.out.alloc _), Lib.hid (BX.out.alloc _), BO⟩
  case round =>
    obtain ⟨m, o, S, v', E, hm, hm8, hgg, hSs, hcnt, HSS, P2, N2, G2, BX2, BO2⟩ := hrel
    obtain ⟨m, rfl⟩ : ∃ k, m = k + 1 := ⟨m - 1, by omega⟩
    have heq := rowA_succ m o S
    have hpk := peek_any B gp S _ v' wr P2.out HSS.out
    have HPK := Lib.hid hpk
    have hglen := Rx.gen_len o st
    have hgok := Rx.gen_ok o st
    have gz := hgok.z1
    have gz0 := hgok.z0
    have c1 := P2.out.c1
    have hlt := P2.out.lt
    have q0 := BO2.out.cell 0
    have q1 := BO2.out.cell 1
    have qf := BO2.out.frozen
    have ql := BO2.out.lt
    simp only [List.getElem?_toArray, List.getElem?_cons_zero, List.getElem?_cons_succ] at q0 q1
    have x0 := BX2.out.cell 0
    have x1 := BX2.out.cell 1
    have xf := BX2.out.frozen
    have xl := BX2.out.lt
    simp only [List.getElem?_toArray, List.getElem?_cons_zero, List.getElem?_cons_succ] at x0 x1
    have HG := Lib.hid hgok
    have HGL := Lib.hid hglen
    rw [hglen] at gz
    clear hpk hglen hgok
    by_cases hend : S = [] ∨ S.head? = some 124 ∨ S.head? = some 41
    · rw [if_pos hend] at heq
      have hRr : R = some (o, S) := by rw [E.out, heq]
      have HRR := Lib.hid hRr
      have fin : ∀ W, W = (wr.setCell ⟨w.heap.size, 0, none⟩ (.int .i64 (((Rx.gen o st).1.a : Nat) : Int))).setCell ⟨w.heap.size, 1, none⟩ (.int .i64 (((Rx.gen o st).1.z : Nat) : Int)) → PatEnd w B gp st v (some (o, S)) (.returned (pcv (Rx.gen o st).1)) W := by
        rintro W rfl
        refine ⟨rfl, ⟨v', ?_, N2.out⟩, (G2.out.setCell (.inr (.inr (Nat.le_refl _))) _).setCell (.inr (.inr (Nat.le_refl _))) _⟩
        exact (P2.out.far BX2.out ⟨by decide, by decide, by decide⟩ rfl _).far (BX2.out.set_ 0 _) ⟨by decide, by decide, by decide⟩ rfl _
      have FIN := Lib.hid fin
      clear heq hRr fin
      cases S with
      | nil =>
        go_wp2_with fail
        refine HPK.out.mono ?_
        rintro e w3 ⟨rfl, rfl⟩
        simp only [peekVal]
        go_wp2
        refine bodyPost_ret (v := pcv (Rx.gen o st).1) (by simp [results, Try.results97, go_sem, pcv, x0, x1]) rfl ?_
        rw [HRR.out]
        exact FIN.out _ rfl
      | cons c r =>
        have hc : c = 124 ∨ c = 41 := by
          rcases hend with h | h | h
          · cases h
          · left; simpa using h
          · right; simpa using h
        clear hend
        rcases hc with rfl | rfl
        all_goals
          go_wp2_with fail
          refine HPK.out.mono ?_
          rintro e w3 ⟨rfl, rfl⟩
          simp only [peekVal]
          go_wp2
          refine bodyPost_ret (v := pcv (Rx.gen o st).1) (by simp [results, Try.results97, go_sem, pcv, x0, x1]) rfl ?_
          rw [HRR.out]
          exact FIN.out _ rfl
    · rw [if_neg hend] at heq
      cases S with
      | nil => exact absurd (.inl rfl) hend
      | cons c r =>
        have hc1 : c ≠ 124 := fun e => hend (.inr (.inl (by rw [e]; rfl)))
        have hc2 : c ≠ 41 := fun e => hend (.inr (.inr (by rw [e]; rfl)))
        have h1 : ((c : Int) == 124) = false := beq_eq_false_iff_ne.2 (by omega)
        have h2 : ((c : Int) == 41) = false := beq_eq_false_iff_ne.2 (by omega)
        have h1n : (c == 124) = false := beq_eq_false_iff_ne.2 hc1
        have h2n : (c == 41) = false := beq_eq_false_iff_ne.2 hc2
        clear hc1 hc2
        simp only [List.length_cons] at hm8 hgg hSs hcnt
        have hp := HPART.out m (by omega) B gp (c :: r) (Rx.gen o st).2 v' wr P2.out HSS.out (by rw [HGL.out]; simp only [List.length_cons]; omega) (by simp only [List.length_cons]; omega)
        have HPC := Lib.hid hp
        clear hp hend
        cases hpa : Rx.partA m (c :: r) with
        | none =>
          rw [hpa] at heq
          have hRr : R = none := by rw [E.out, heq]
          have HRR := Lib.hid hRr
          have HPA := Lib.hid hpa
          clear heq hRr hpa
          go_wp2_with fail
          refine HPK.out.mono ?_
          rintro e w3 ⟨rfl, rfl⟩
          simp only [peekVal]
          go_wp2_with fail
          refine HPC.out.mono ?_
          rw [HPA.out]
          rintro e w4 ⟨rfl, hG⟩
          refine ⟨rfl, ?_⟩
          rw [HRR.out]
          exact ⟨rfl, G2.out.trans N2.out hG⟩
        | some q =>
          obtain ⟨p, S1⟩ := q
          rw [hpa] at heq
          simp only at heq
          have hleft := (Rx.read_left m).2.2.2.1 _ _ _ hpa
          obtain ⟨hl1, hl2, hl3⟩ := hleft
          have hS1 := hl1.1
          have HS1 : Hid (∀ y ∈ S1, y < 256) := Lib.hid (fun y hy => HSS.out y (hl1.2 y hy))
          simp only [List.length_cons] at hS1 hl3
          have HPA := Lib.hid hpa
          have E2 := Lib.hid (E.out.trans heq)
          have hgok2 := Rx.gen_ok p (Rx.gen o st).2
          have ga2 := hgok2.a0
          have ga3 := hgok2.a1
          have gz2 := hgok2.z0
          have gz3 := hgok2.z1
          have hglen2 := Rx.gen_len p (Rx.gen o st).2
          rw [hglen2, HGL.out] at ga3 gz3
          rw [HGL.out] at ga2 gz2
          have HG2 := Lib.hid hgok2
          have HGL2 := Lib.hid hglen2
          clear heq hpa hl1 hl2 hgok2 hglen2
          go_wp2_with fail
          refine HPK.out.mono ?_
          rintro e w3 ⟨rfl, rfl⟩
          simp only [peekVal]
          go_wp2_with fail
          refine HPC.out.mono ?_
          rw [HPA.out]
          rintro e w4 ⟨rfl, ⟨v4, hP4, hN4⟩, hG4⟩
          have P4 := Lib.hid hP4
          have N4 : Hid (Nx w v v4) := Lib.hid (N2.out.trans G2.out.size hN4)
          have G4 := Lib.hid (G2.out.trans N2.out hG4)
          have BX4 := Lib.hid (Blk.ps P2.out BX2.out ⟨by decide, by decide⟩ hG4)
          have BO4 := Lib.hid (Blk.ps P2.out BO2.out ⟨by decide, by decide⟩ hG4)
          have hs4 := G4.out.size
          clear hP4 hN4 hG4 q0 q1 qf x0 x1 xf c1
          have hz4 : (Rx.gen o st).1.z < (Rx.gen p (Rx.gen o st).2).2.length := by rw [HGL2.out, HGL.out]; omega
          obtain ⟨g4, k4, ua, ub, hv4, ⟨cur4, hB4⟩, y1, y2⟩ := P4.out.at_row hz4
          have HV4 := Lib.hid hv4
          have HB4 := Lib.hid hB4
          have HZ4 := Lib.hid hz4
          have c4 := P4.out.c1
          rw [hv4] at c4
          have l4 := P4.out.lt
          have q0 := BO4.out.cell 0
          have q1 := BO4.out.cell 1
          have qf := BO4.out.frozen
          have ql4 := BO4.out.lt
          simp only [List.getElem?_toArray, List.getElem?_cons_zero, List.getElem?_cons_succ] at q0 q1
          have bf := hB4.frozen
          have bl := hB4.lt
          have hlenI : (((Rx.gen p (Rx.gen o st).2).2.length : Nat) : Int) = ((st.length + Rx.cnt o + Rx.cnt p : Nat) : Int) := by rw [HGL2.out, HGL.out]
          rw [show (Rx.gen p (Rx.gen o st).2).2.length = st.length + Rx.cnt o + Rx.cnt p by rw [HGL2.out, HGL.out]] at c4
          obtain ⟨LN, hLN⟩ : ∃ LN, st.length + Rx.cnt o + Rx.cnt p = LN := ⟨_, rfl⟩
          rw [hLN] at c4 ga3 gz3
          have HLN := Lib.hid hLN
          generalize hZ : (Rx.gen o st).1.z = Z at *
          generalize hA : (Rx.gen p (Rx.gen o st).2).1.a = A4 at *
          generalize hE : (Rx.gen p (Rx.gen o st).2).1.z = Z4 at *
          have EZ := Lib.hid hZ
          have EA := Lib.hid hA
          have EE := Lib.hid hE
          have hZ0 : (0 : Int) ≤ (Z : Int) := by omega
          have hZ1 : (Z : Int) < (LN : Int) := by omega
          have hZ2 : Z < LN := by omega
          clear hv4 hB4 hz4 hZ hA hE hlenI hLN
          simp only [pcv, EA.out, EE.out]
          go_wp2
          have P5 := Lib.hid (P4.out.alloc (.cells #[.int .i64 (A4 : Int), .int .i64 (Z4 : Int)] 101))
          have G5 := Lib.hid (G4.out.alloc (.cells #[.int .i64 (A4 : Int), .int .i64 (Z4 : Int)] 101))
          have BX5 := Lib.hid (BX4.out.alloc (.cells #[.int .i64 (A4 : Int), .int .i64 (Z4 : Int)] 101))
          have BO5 := Lib.hid (BO4.out.alloc (.cells #[.int .i64 (A4 : Int), .int .i64 (Z4 : Int)] 101))
          have HB5 := Lib.hid (HB4.out.alloc (.cells #[.int .i64 (A4 : Int), .int .i64 (Z4 : Int)] 101))
          have HM5 := Lib.hid (Blk.new w4 101 #[.int .i64 (A4 : Int), .int .i64 (Z4 : Int)])
          have l5 := P5.out.lt
          have ql5 := BO5.out.lt
          have bl5 := HB5.out.lt
          have ml5 := HM5.out.lt
          have hcv := HV4.out
          have q0 := BO5.out.cell 0
          have q1 := BO5.out.cell 1
          have qf := BO5.out.frozen
          have m0 := HM5.out.cell 0
          have m1 := HM5.out.cell 1
          have bf := HB5.out.frozen
          have c5 := P5.out.c1
          obtain ⟨g5, k5, va, vb, hv5, _, z1, z2⟩ := P5.out.at_row (k := Z) HZ4.out
          rw [hcv] at hv5
          injection hv5 with e1 _ e3
          injection e1 with e1
          injection e1 with e1
          subst e1
          rw [hcv, show (Rx.gen p (Rx.gen o st).2).2.length = LN by rw [HGL2.out, HGL.out]; exact HLN.out] at c5
          simp only [List.getElem?_toArray, List.getElem?_cons_zero, List.getElem?_cons_succ] at q0 q1 m0 m1
          have hneG : g4 ≠ w1.heap.size := HB5.out.ne_ BO5.out (by decide)
          have hneM : w4.heap.size ≠ g4 := by have := HB4.out.lt; omega
          have HNG := Lib.hid hneG
          have hneG' := hneG.symm
          have hneM' := hneM.symm
          clear hcv e3 y1 y2 c4 l4 ql4 bl
          generalize hW5 : w4.alloc (.cells #[.int .i64 (A4 : Int), .int .i64 (Z4 : Int)] 101) = W5 at *
          have HW5 := Lib.hid hW5
          generalize hM : w4.heap.size = M5 at *
          have HMM := Lib.hid hM
          clear hW5 hM
          go_still_tail 10, (by kernel_rfl)
          change wpList _ _ _ _ _ (World.drew W5)
          go_wp2
          have PN := P5.out.next HV4.out HZ4.out (A4 : Int)
          have BON := BO5.out.far (p := ⟨g4, Z * 3 + 1, none⟩) HNG.out.symm (.int .i64 (A4 : Int))
          have PF := PN.far BON ⟨by decide, by decide, by decide⟩ (p := ⟨w1.heap.size, 1, none⟩) rfl (.int .i64 (Z4 : Int))
          have hgen : (Rx.gen (.cat o p) st).2 = Rx.nextAt (Rx.gen p (Rx.gen o st).2).2 Z (A4 : Int) := by rw [← EZ.out, ← EA.out]; rfl
          have hgz : (Rx.gen (.cat o p) st).1.z = Z4 := by rw [← EE.out]; rfl
          have hga : (Rx.gen (.cat o p) st).1.a = (Rx.gen o st).1.a := rfl
          rw [← hgen] at PF
          have PFH := Lib.hid PF
          have GF := Lib.hid ((G5.out.store N4.out (p := ⟨g4, Z * 3 + 1, none⟩) (by rw [HV4.out]; rfl) (.int .i64 (A4 : Int))).setCell (p := ⟨w1.heap.size, 1, none⟩) (.inr (.inr (by show w.heap.size ≤ w1.heap.size; omega))) (.int .i64 (Z4 : Int)))
          have BXF := Lib.hid ((BX5.out.far (p := ⟨g4, Z * 3 + 1, none⟩) (BX5.out.ne_ HB5.out (by decide)) (.int .i64 (A4 : Int))).far (p := ⟨w1.heap.size, 1, none⟩) (by show w.heap.size ≠ w1.heap.size; omega) (.int .i64 (Z4 : Int)))
          have BOF := BON.set_ 1 (.int .i64 (Z4 : Int))
          have BOFH : Hid (Blk ((W5.setCell ⟨g4, Z * 3 + 1, none⟩ (.int .i64 (A4 : Int))).setCell ⟨w1.heap.size, 1, none⟩ (.int .i64 (Z4 : Int))) w1.heap.size 101 #[.int .i64 (((Rx.gen (.cat o p) st).1.a : Nat) : Int), .int .i64 (((Rx.gen (.cat o p) st).1.z : Nat) : Int)]) := Lib.hid (by rw [hgz, hga]; exact BOF)
          go_roundg S1.length
          case measure => omega
          case rel => exact ⟨m, .cat o p, S1, v4, E2, by omega, by omega, Nat.le_refl _, by omega, by simp only [Rx.cnt]; omega, HS1, Lib.hid PFH.out.drew, N4, Lib.hid GF.out.drew, Lib.hid BXF.out.drew, Lib.hid BOFH.out.drew⟩
end Go.Proofs.Ytnidjfmbbfoheaa
