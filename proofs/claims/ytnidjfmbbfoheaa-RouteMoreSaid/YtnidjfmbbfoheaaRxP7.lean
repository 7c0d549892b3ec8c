/- WALKS: the parser's atom; the grammar's parts, all of them. -/
import Derived.Test.YtnidjfmbbfoheaaRxP6
import Derived.Test.YtnidjfmbbfoheaaRxLay
namespace Go.Proofs.Ytnidjfmbbfoheaa
set_option linter.unusedVariables false
set_option linter.unusedSimpArgs false
open Go.RowKit
theorem atomA_cons (m c : Nat) (r : List Nat) : Rx.atomA (m + 1) (c :: r) =
      if c = 40 then
        match Rx.patA m r with
        | none => none
        | some (o, s1) => if s1.head? = some 41 then some (o, s1.tail) else none
      else if c = 91 then (Rx.setP r).map (fun q => (.set q.1, q.2))
      else if c = 46 then some (.set Rx.allSet, r)
      else if c = 92 then (match r with | [] => none | d :: r' => some (.set (Rx.single d), r'))
      else if c ∈ Rx.special then none
      else some (.set (Rx.single c), r) := by
  conv => lhs; unfold Rx.atomA
  rfl
/-- The bytes that are in, k of them. -/
def someIn (k : Nat) : List Bool := List.replicate k true ++ List.replicate (256 - k) false
theorem someIn_zero : someIn 0 = Rx.noSet := by unfold someIn Rx.noSet; rw [List.replicate_zero, List.nil_append, Nat.sub_zero]
theorem someIn_all : someIn 256 = Rx.allSet := by unfold someIn Rx.allSet; rw [Nat.sub_self, List.replicate_zero, List.append_nil]
theorem someIn_len (k : Nat) (h : k ≤ 256) : (someIn k).length = 256 := by unfold someIn; rw [List.length_append, List.length_replicate, List.length_replicate]; omega
theorem someIn_succ (k : Nat) (h : k < 256) : (someIn k).set k true = someIn (k + 1) := by
  apply List.ext_getElem?
  intro i
  rw [List.getElem?_set, someIn_len k (by omega)]
  unfold someIn
  by_cases h1 : k = i
  · subst h1
    rw [if_pos rfl, if_pos h, List.getElem?_append_left (by simp), List.getElem?_replicate, if_pos (by omega)]
  · rw [if_neg h1]
    by_cases h2 : i < k
    · rw [List.getElem?_append_left (by simpa using h2), List.getElem?_append_left (by simp; omega), List.getElem?_replicate, List.getElem?_replicate, if_pos h2, if_pos (by omega)]
    · rw [List.getElem?_append_right (by simp; omega), List.getElem?_append_right (by simp; omega), List.getElem?_replicate, List.getElem?_replicate, List.length_replicate, List.length_replicate]
      by_cases h3 : i < 256
      · rw [if_pos (by omega), if_pos (by omega)]
      · rw [if_neg (by omega), if_neg (by omega)]
set_option maxRecDepth 100000 in
set_option maxHeartbeats 16000000 in
theorem atom_ok (n0 : Nat) (hpat : ∀ m, m < n0 → PatOk m) : AtomOk n0 := by
  intro B gp s st v w H hs hb hn0
  obtain ⟨m, rfl⟩ : ∃ k, n0 = k + 1 := ⟨n0 - 1, by omega⟩
  have HP := Lib.hid H
  have HS := Lib.hid hs
  have hgp := H.lt
  have HPAT := Lib.hid (hpat m (by omega))
  clear H hs hpat
  cases s with
  | nil =>
    have e : Rx.atomA (m + 1) [] = none := by conv => lhs; unfold Rx.atomA
    rw [e]
    go_enter Try.func116, Try.ntmps116
    go_wp2_with fail
    refine (take_bad B gp st v _ (HP.out.alloc _)).mono ?_
    rintro e w1 ⟨rfl, rfl⟩
    exact ⟨rfl, rfl, (PG.refl w gp v.ownBlock).alloc _⟩
  | cons c r =>
    have heq := atomA_cons m c r
    obtain ⟨R, hR⟩ : ∃ R, Rx.atomA (m + 1) (c :: r) = R := ⟨_, rfl⟩
    rw [hR] at heq ⊢
    have hcb : c < 256 := HS.out c (by simp)
    have HSR : Hid (∀ y ∈ r, y < 256) := Lib.hid (fun y hy => HS.out y (List.mem_cons_of_mem _ hy))
    simp only [List.length_cons] at hb hn0
    have htk := take_any B gp c r st v _ (HP.out.alloc (.cells #[.int .i64 0, .int .i64 0] 101)) HS.out
    have HTK := Lib.hid htk
    have P1 := Lib.hid ((HP.out.alloc (.cells #[.int .i64 0, .int .i64 0] 101)).text r)
    have G1 := Lib.hid (((PG.refl w gp v.ownBlock).alloc (.cells #[.int .i64 0, .int .i64 0] 101)).setCell (p := ⟨gp, 0, none⟩) (.inl rfl) (.string (bs r)))
    have BX1 := Lib.hid ((Blk.new w 101 #[.int .i64 0, .int .i64 0]).far (p := ⟨gp, 0, none⟩) (by show w.heap.size ≠ gp; omega) (.string (bs r)))
    generalize hW1 : (w.alloc (.cells #[.int .i64 0, .int .i64 0] 101)).setCell ⟨gp, 0, none⟩ (.string (bs r)) = W1 at *
    have HW1 := Lib.hid hW1
    clear htk hR hW1
    by_cases h40 : c = 40
    · rw [if_pos h40] at heq
      subst h40
      have hpc := HPAT.out B gp r st v W1 P1.out HSR.out (by omega) (by omega)
      have HPC := Lib.hid hpc
      clear hpc
      cases hpa : Rx.patA m r with
      | none =>
        rw [hpa] at heq
        have HRR := Lib.hid heq
        have HPA := Lib.hid hpa
        clear heq hpa
        go_enter Try.func116, Try.ntmps116
        go_wp2_with fail
        refine HTK.out.mono ?_
        rintro e w2 ⟨rfl, hw2⟩
        rw [hw2]
        clear hw2 w2
        go_wp2_with fail
        refine HPC.out.mono ?_
        rw [HPA.out]
        rintro e w3 ⟨rfl, hG⟩
        refine ⟨rfl, ?_⟩
        rw [HRR.out]
        exact ⟨rfl, G1.out.trans (.refl _ _) hG⟩
      | some q =>
        obtain ⟨o, s1⟩ := q
        rw [hpa] at heq
        simp only at heq
        have hleft := (Rx.read_left m).1 _ _ _ hpa
        have HS1 : Hid (∀ y ∈ s1, y < 256) := Lib.hid (fun y hy => HSR.out y (hleft.1.2 y hy))
        have HPA := Lib.hid hpa
        have HEQ := Lib.hid heq
        clear hpa hleft heq
        go_enter Try.func116, Try.ntmps116
        go_wp2_with fail
        refine HTK.out.mono ?_
        rintro e w2 ⟨rfl, hw2⟩
        rw [hw2]
        clear hw2 w2
        go_wp2_with fail
        refine HPC.out.mono ?_
        rw [HPA.out]
        rintro e w3 ⟨rfl, ⟨v3, hP3, hN3⟩, hG3⟩
        have P3 := Lib.hid hP3
        have N3 : Hid (Nx w v v3) := Lib.hid ((Nx.refl w v).trans G1.out.size hN3)
        have G3 := Lib.hid (G1.out.trans (.refl _ _) hG3)
        have BX3 := Lib.hid (Blk.ps P1.out BX1.out ⟨by decide, by decide⟩ hG3)
        have hw3 : w.heap.size < w3.heap.size := BX3.out.lt
        clear hP3 hN3 hG3
        simp only [pcv]
        have P3' := Lib.hid (P3.out.alloc (.cells #[.int .i64 (((Rx.gen o st).1.a : Nat) : Int), .int .i64 (((Rx.gen o st).1.z : Nat) : Int)] 101))
        have G3' := Lib.hid (G3.out.alloc (.cells #[.int .i64 (((Rx.gen o st).1.a : Nat) : Int), .int .i64 (((Rx.gen o st).1.z : Nat) : Int)] 101))
        have BX3' := Lib.hid (BX3.out.alloc (.cells #[.int .i64 (((Rx.gen o st).1.a : Nat) : Int), .int .i64 (((Rx.gen o st).1.z : Nat) : Int)] 101))
        have BM3 := Lib.hid (Blk.new w3 101 #[.int .i64 (((Rx.gen o st).1.a : Nat) : Int), .int .i64 (((Rx.gen o st).1.z : Nat) : Int)])
        by_cases h41 : s1.head? = some 41
        · have heq := HEQ.out
          rw [if_pos h41] at heq
          obtain ⟨t, ht⟩ : ∃ t, s1 = 41 :: t := ⟨s1.tail, Rx.head_cons h41⟩
          subst ht
          simp only [List.tail_cons] at heq
          have HRR := Lib.hid heq
          clear heq h41
          go_wp2_with fail
          refine (is_yes B gp 41 t _ v3 _ P3'.out HS1.out).mono ?_
          rintro e w4 ⟨rfl, rfl⟩
          have P4 := Lib.hid (P3'.out.text t)
          have G4 := Lib.hid (G3'.out.setCell (p := ⟨gp, 0, none⟩) (.inl rfl) (.string (bs t)))
          have BX4 := Lib.hid (BX3'.out.far (p := ⟨gp, 0, none⟩) (BX3'.out.ne_ P3'.out.blk (by decide)) (.string (bs t)))
          have BM4 := Lib.hid (BM3.out.far (p := ⟨gp, 0, none⟩) (BM3.out.ne_ P3'.out.blk (by decide)) (.string (bs t)))
          have x0 := BX4.out.cell 0
          have x1 := BX4.out.cell 1
          have m0 := BM4.out.cell 0
          have m1 := BM4.out.cell 1
          have xf := BX4.out.frozen
          have xl := BX4.out.lt
          simp only [List.getElem?_toArray, List.getElem?_cons_zero, List.getElem?_cons_succ] at x0 x1 m0 m1
          generalize hW4 : (w3.alloc (.cells #[.int .i64 (((Rx.gen o st).1.a : Nat) : Int), .int .i64 (((Rx.gen o st).1.z : Nat) : Int)] 101)).setCell ⟨gp, 0, none⟩ (.string (bs t)) = W4 at *
          clear hW4
          go_wp2
          refine bodyPost_ret (v := pcv (Rx.gen o st).1) (by simp [results, Try.results116, go_sem, pcv, x0, x1]) rfl ?_
          rw [HRR.out]
          refine ⟨rfl, ⟨v3, ?_, N3.out⟩, (G4.out.setCell (.inr (.inr (Nat.le_refl _))) _).setCell (.inr (.inr (Nat.le_refl _))) _⟩
          exact (P4.out.far BX4.out ⟨by decide, by decide, by decide⟩ rfl _).far (BX4.out.set_ 0 _) ⟨by decide, by decide, by decide⟩ rfl _
        · have heq := HEQ.out
          rw [if_neg h41] at heq
          have HRR := Lib.hid heq
          clear heq
          go_wp2_with fail
          refine (is_no B gp s1 41 _ v3 _ P3'.out HS1.out h41).mono ?_
          rintro e w4 ⟨rfl, rfl⟩
          go_wp2
          refine ⟨rfl, ?_⟩
          rw [HRR.out]
          exact ⟨rfl, G3'.out⟩
    · by_cases h91 : c = 91
      · rw [if_neg h40, if_pos h91] at heq
        subst h91
        have hsa := set_any B gp r st v W1 P1.out HSR.out
        have HSA := Lib.hid hsa
        clear hsa h40
        cases hsp : Rx.setP r with
        | none =>
          rw [hsp] at heq
          have HRR : Hid (R = none) := Lib.hid heq
          have HSP := Lib.hid hsp
          clear heq hsp
          go_enter Try.func116, Try.ntmps116
          go_wp2_with fail
          refine HTK.out.mono ?_
          rintro e w2 ⟨rfl, hw2⟩
          rw [hw2]
          clear hw2 w2
          go_wp2_with fail
          refine HSA.out.mono ?_
          rw [HSP.out]
          rintro e w3 ⟨rfl, hG⟩
          refine ⟨rfl, ?_⟩
          rw [HRR.out]
          exact ⟨rfl, G1.out.trans (.refl _ _) hG⟩
        | some q =>
          obtain ⟨x, s1⟩ := q
          rw [hsp] at heq
          have HRR : Hid (R = some (.set x, s1)) := Lib.hid heq
          have HSP := Lib.hid hsp
          clear heq hsp
          go_enter Try.func116, Try.ntmps116
          go_wp2_with fail
          refine HTK.out.mono ?_
          rintro e w2 ⟨rfl, hw2⟩
          rw [hw2]
          clear hw2 w2
          go_wp2_with fail
          refine HSA.out.mono ?_
          rw [HSP.out]
          rintro e w3 ⟨b, rfl, hb3, hB3, hP3, hG3⟩
          have P3 := Lib.hid hP3
          have G3 := Lib.hid (G1.out.trans (.refl _ _) hG3)
          have BX3 := Lib.hid (Blk.ps P1.out BX1.out ⟨by decide, by decide⟩ hG3)
          have hgpb := P3.out.base
          have S3 : Hid (SetOk w3 B (some b) (some x)) := Lib.hid ⟨by have := P1.out.lt; omega, hB3⟩
          clear hB3 hP3 hG3
          go_wp2_with fail
          refine (one_any B gp b (x) s1 st v _ P3.out S3.out (by omega)).mono ?_
          rintro e w8 ⟨rfl, ⟨v8, hP8, hN8⟩, hG8⟩
          have P8 := Lib.hid hP8
          have G8 := Lib.hid (G3.out.trans (.refl _ _) hG8)
          have N8 : Hid (Nx w v v8) := Lib.hid ((Nx.refl w v).trans G3.out.size hN8)
          have BX8 := Lib.hid (Blk.ps P3.out BX3.out ⟨by decide, by decide⟩ hG8)
          have x0 := BX8.out.cell 0
          have x1 := BX8.out.cell 1
          have xf := BX8.out.frozen
          have xl := BX8.out.lt
          simp only [List.getElem?_toArray, List.getElem?_cons_zero, List.getElem?_cons_succ] at x0 x1
          clear hP8 hN8 hG8
          simp only [pcv]
          go_wp2
          refine bodyPost_ret (v := pcv (Rx.gen (.set (x)) st).1) (by simp [results, Try.results116, go_sem, pcv, x0, x1]) rfl ?_
          rw [HRR.out]
          refine ⟨rfl, ⟨v8, ?_, N8.out⟩, (G8.out.setCell (.inr (.inr (Nat.le_refl _))) _).setCell (.inr (.inr (Nat.le_refl _))) _⟩
          exact (P8.out.far BX8.out ⟨by decide, by decide, by decide⟩ rfl _).far (BX8.out.set_ 0 _) ⟨by decide, by decide, by decide⟩ rfl _
      · by_cases h46 : c = 46
        · rw [if_neg h40, if_neg h91, if_pos h46] at heq
          subst h46
          have HRR := Lib.hid heq
          clear heq h40 h91
          go_enter Try.func116, Try.ntmps116
          go_wp2_with fail
          refine HTK.out.mono ?_
          rintro e w2 ⟨rfl, hw2⟩
          rw [hw2]
          clear hw2 w2
          have BZ : Hid (Blk (W1.alloc (.cells Try.zeroCells164 164)) W1.heap.size 164 (bv (someIn 0))) := Lib.hid (by rw [someIn_zero, ← zero164]; exact Blk.new _ _ _)
          have P2 := Lib.hid (P1.out.alloc (.cells Try.zeroCells164 164))
          have G2 := Lib.hid (G1.out.alloc (.cells Try.zeroCells164 164))
          have BX2 := Lib.hid (BX1.out.alloc (.cells Try.zeroCells164 164))
          have hw12 : w.heap.size < W1.heap.size := BX1.out.lt
          go_wp2
          go_loopw [34] (fun i W => ∃ k : Nat, k ≤ 256 ∧ i = .int .i64 (k : Int) ∧ Hid (Below W1.heap.size W1 W) ∧ Hid (Blk W W1.heap.size 164 (bv (someIn k)))) (fun i _ => 256 - (intOf i).toNat)
          case atStart => exact ⟨0, by omega, rfl, Lib.hid ((Below.refl _ _).alloc (Nat.le_refl _) _), BZ⟩
          case round =>
            obtain ⟨k, hk, rfl, K3, B3⟩ := hrel
            by_cases hlt : k < 256
            · have hI0 : (0 : Int) ≤ (k : Int) := by omega
              have hI1 : (k : Int) < 256 := by omega
              obtain ⟨u, hu⟩ : ∃ u, (bv (someIn k))[k]? = some u := ⟨_, Array.getElem?_eq_getElem (by rw [bv_size, someIn_len _ hk]; omega)⟩
              have hcell := (B3.out.cell k).trans hu
              have hfr := B3.out.frozen k
              have hblt := B3.out.lt
              clear hu
              go_wp2
              go_roundw
              case rel =>
                refine ⟨k + 1, by omega, by go_num, Lib.hid (K3.out.setCell (Nat.le_refl _) _), Lib.hid ?_⟩
                have := B3.out.set_ k (.bool true)
                rw [bv_set, someIn_succ k hlt] at this
                exact this
              case measure => simp [intOf]; omega
            · obtain rfl : k = 256 := by omega
              have P3 := Lib.hid (P1.out.below K3.out)
              have G3 := Lib.hid (G1.out.then_ K3.out)
              have BX3 := Lib.hid (BX1.out.below K3.out BX1.out.lt)
              have S3 : Hid (SetOk wr B (some W1.heap.size) (some Rx.allSet)) := Lib.hid ⟨by have := P1.out.base; have := P1.out.lt; omega, by have := B3.out; rw [someIn_all] at this; exact this⟩
              go_wp2_with fail
              refine (one_any B gp W1.heap.size (Rx.allSet) r st v _ P3.out S3.out (by omega)).mono ?_
              rintro e w8 ⟨rfl, ⟨v8, hP8, hN8⟩, hG8⟩
              have P8 := Lib.hid hP8
              have G8 := Lib.hid (G3.out.trans (.refl _ _) hG8)
              have N8 : Hid (Nx w v v8) := Lib.hid ((Nx.refl w v).trans G3.out.size hN8)
              have BX8 := Lib.hid (Blk.ps P3.out BX3.out ⟨by decide, by decide⟩ hG8)
              have x0 := BX8.out.cell 0
              have x1 := BX8.out.cell 1
              have xf := BX8.out.frozen
              have xl := BX8.out.lt
              simp only [List.getElem?_toArray, List.getElem?_cons_zero, List.getElem?_cons_succ] at x0 x1
              clear hP8 hN8 hG8
              simp only [pcv]
              go_wp2
              refine bodyPost_ret (v := pcv (Rx.gen (.set (Rx.allSet)) st).1) (by simp [results, Try.results116, go_sem, pcv, x0, x1]) rfl ?_
              rw [HRR.out]
              refine ⟨rfl, ⟨v8, ?_, N8.out⟩, (G8.out.setCell (.inr (.inr (Nat.le_refl _))) _).setCell (.inr (.inr (Nat.le_refl _))) _⟩
              exact (P8.out.far BX8.out ⟨by decide, by decide, by decide⟩ rfl _).far (BX8.out.set_ 0 _) ⟨by decide, by decide, by decide⟩ rfl _
        · by_cases h92 : c = 92
          · rw [if_neg h40, if_neg h91, if_neg h46, if_pos h92] at heq
            subst h92
            clear h40 h91 h46
            cases r with
            | nil =>
              have HRR : Hid (R = none) := Lib.hid heq
              clear heq
              go_enter Try.func116, Try.ntmps116
              go_wp2_with fail
              refine HTK.out.mono ?_
              rintro e w2 ⟨rfl, hw2⟩
              rw [hw2]
              clear hw2 w2
              go_wp2_with fail
              refine (take_bad B gp st v _ P1.out).mono ?_
              rintro e w3 ⟨rfl, rfl⟩
              refine ⟨rfl, ?_⟩
              rw [HRR.out]
              exact ⟨rfl, G1.out⟩
            | cons d r =>
              have HRR : Hid (R = some (.set (Rx.single d), r)) := Lib.hid heq
              have hdb : d < 256 := HSR.out d (by simp)
              clear heq
              have P2 := Lib.hid (P1.out.text r)
              have G2 := Lib.hid (G1.out.setCell (p := ⟨gp, 0, none⟩) (.inl rfl) (.string (bs r)))
              have BX2 := Lib.hid (BX1.out.far (p := ⟨gp, 0, none⟩) (BX1.out.ne_ P1.out.blk (by decide)) (.string (bs r)))
              go_enter Try.func116, Try.ntmps116
              go_wp2_with fail
              refine HTK.out.mono ?_
              rintro e w2 ⟨rfl, hw2⟩
              rw [hw2]
              clear hw2 w2
              go_wp2_with fail
              refine (take_any B gp d r st v _ P1.out HSR.out).mono ?_
              rintro e w3 ⟨rfl, rfl⟩
              go_wp2_with fail
              refine (single_any d _ hdb).mono ?_
              rintro e w3 ⟨b, rfl, hb3, hb4, hB3⟩
              have P3 := Lib.hid (P2.out.below hb3)
              have G3 := Lib.hid (G2.out.then_ hb3)
              have BX3 := Lib.hid (BX2.out.below hb3 BX2.out.lt)
              have S3 : Hid (SetOk w3 B (some b) (some (Rx.single d))) := Lib.hid ⟨by have := P2.out.base; have := P2.out.lt; omega, hB3⟩
              clear hb3 hb4 hB3
              go_wp2_with fail
              refine (one_any B gp b (Rx.single d) r st v _ P3.out S3.out (by omega)).mono ?_
              rintro e w8 ⟨rfl, ⟨v8, hP8, hN8⟩, hG8⟩
              have P8 := Lib.hid hP8
              have G8 := Lib.hid (G3.out.trans (.refl _ _) hG8)
              have N8 : Hid (Nx w v v8) := Lib.hid ((Nx.refl w v).trans G3.out.size hN8)
              have BX8 := Lib.hid (Blk.ps P3.out BX3.out ⟨by decide, by decide⟩ hG8)
              have x0 := BX8.out.cell 0
              have x1 := BX8.out.cell 1
              have xf := BX8.out.frozen
              have xl := BX8.out.lt
              simp only [List.getElem?_toArray, List.getElem?_cons_zero, List.getElem?_cons_succ] at x0 x1
              clear hP8 hN8 hG8
              simp only [pcv]
              go_wp2
              refine bodyPost_ret (v := pcv (Rx.gen (.set (Rx.single d)) st).1) (by simp [results, Try.results116, go_sem, pcv, x0, x1]) rfl ?_
              rw [HRR.out]
              refine ⟨rfl, ⟨v8, ?_, N8.out⟩, (G8.out.setCell (.inr (.inr (Nat.le_refl _))) _).setCell (.inr (.inr (Nat.le_refl _))) _⟩
              exact (P8.out.far BX8.out ⟨by decide, by decide, by decide⟩ rfl _).far (BX8.out.set_ 0 _) ⟨by decide, by decide, by decide⟩ rfl _
          · by_cases hsp : c ∈ Rx.special
            · rw [if_neg h40, if_neg h91, if_neg h46, if_neg h92, if_pos hsp] at heq
              have HRR := Lib.hid heq
              have hspI : 0 ≤ spAt c := by have := sp_iff hcb; rw [decide_eq_true hsp] at this; simpa using this.symm
              have n40 : ((c : Int) == 40) = false := beq_eq_false_iff_ne.2 (by omega)
              have n40' : (c == 40) = false := beq_eq_false_iff_ne.2 (by omega)
              have n91 : ((c : Int) == 91) = false := beq_eq_false_iff_ne.2 (by omega)
              have n91' : (c == 91) = false := beq_eq_false_iff_ne.2 (by omega)
              have n46 : ((c : Int) == 46) = false := beq_eq_false_iff_ne.2 (by omega)
              have n46' : (c == 46) = false := beq_eq_false_iff_ne.2 (by omega)
              have n92 : ((c : Int) == 92) = false := beq_eq_false_iff_ne.2 (by omega)
              have n92' : (c == 92) = false := beq_eq_false_iff_ne.2 (by omega)
              clear heq h40 h91 h46 h92 hsp
              go_enter Try.func116, Try.ntmps116
              go_wp2_with fail
              refine HTK.out.mono ?_
              rintro e w2 ⟨rfl, hw2⟩
              rw [hw2]
              clear hw2 w2
              go_wp2_with fail
              refine (indexSp c hcb _).mono ?_
              rintro e w3 ⟨rfl, rfl⟩
              go_wp2
              refine ⟨rfl, ?_⟩
              rw [HRR.out]
              exact ⟨rfl, G1.out⟩
            · rw [if_neg h40, if_neg h91, if_neg h46, if_neg h92, if_neg hsp] at heq
              have HRR : Hid (R = some (.set (Rx.single c), r)) := Lib.hid heq
              have hspI : ¬ 0 ≤ spAt c := by have := sp_iff hcb; rw [decide_eq_false hsp] at this; simpa using this.symm
              have n40 : ((c : Int) == 40) = false := beq_eq_false_iff_ne.2 (by omega)
              have n40' : (c == 40) = false := beq_eq_false_iff_ne.2 (by omega)
              have n91 : ((c : Int) == 91) = false := beq_eq_false_iff_ne.2 (by omega)
              have n91' : (c == 91) = false := beq_eq_false_iff_ne.2 (by omega)
              have n46 : ((c : Int) == 46) = false := beq_eq_false_iff_ne.2 (by omega)
              have n46' : (c == 46) = false := beq_eq_false_iff_ne.2 (by omega)
              have n92 : ((c : Int) == 92) = false := beq_eq_false_iff_ne.2 (by omega)
              have n92' : (c == 92) = false := beq_eq_false_iff_ne.2 (by omega)
              clear heq h40 h91 h46 h92 hsp
              go_enter Try.func116, Try.ntmps116
              go_wp2_with fail
              refine HTK.out.mono ?_
              rintro e w2 ⟨rfl, hw2⟩
              rw [hw2]
              clear hw2 w2
              go_wp2_with fail
              refine (indexSp c hcb _).mono ?_
              rintro e w3 ⟨rfl, rfl⟩
              go_wp2_with fail
              refine (single_any c _ hcb).mono ?_
              rintro e w3 ⟨b, rfl, hb3, hb4, hB3⟩
              have P3 := Lib.hid (P1.out.below hb3)
              have G3 := Lib.hid (G1.out.then_ hb3)
              have BX3 := Lib.hid (BX1.out.below hb3 BX1.out.lt)
              have S3 : Hid (SetOk w3 B (some b) (some (Rx.single c))) := Lib.hid ⟨by have := P1.out.base; have := P1.out.lt; omega, hB3⟩
              clear hb3 hb4 hB3
              go_wp2_with fail
              refine (one_any B gp b (Rx.single c) r st v _ P3.out S3.out (by omega)).mono ?_
              rintro e w8 ⟨rfl, ⟨v8, hP8, hN8⟩, hG8⟩
              have P8 := Lib.hid hP8
              have G8 := Lib.hid (G3.out.trans (.refl _ _) hG8)
              have N8 : Hid (Nx w v v8) := Lib.hid ((Nx.refl w v).trans G3.out.size hN8)
              have BX8 := Lib.hid (Blk.ps P3.out BX3.out ⟨by decide, by decide⟩ hG8)
              have x0 := BX8.out.cell 0
              have x1 := BX8.out.cell 1
              have xf := BX8.out.frozen
              have xl := BX8.out.lt
              simp only [List.getElem?_toArray, List.getElem?_cons_zero, List.getElem?_cons_succ] at x0 x1
              clear hP8 hN8 hG8
              simp only [pcv]
              go_wp2
              refine bodyPost_ret (v := pcv (Rx.gen (.set (Rx.single c)) st).1) (by simp [results, Try.results116, go_sem, pcv, x0, x1]) rfl ?_
              rw [HRR.out]
              refine ⟨rfl, ⟨v8, ?_, N8.out⟩, (G8.out.setCell (.inr (.inr (Nat.le_refl _))) _).setCell (.inr (.inr (Nat.le_refl _))) _⟩
              exact (P8.out.far BX8.out ⟨by decide, by decide, by decide⟩ rfl _).far (BX8.out.set_ 0 _) ⟨by decide, by decide, by decide⟩ rfl _

/-- All the parts of the grammar, whatever the pattern. -/
theorem all_ok : ∀ n, PatOk n ∧ RowOk n ∧ PartOk n ∧ AtomOk n := by
  intro n
  induction n using Nat.strongRecOn with
  | ind n ih => exact ⟨pat_ok n (fun m hm => (ih m hm).2.1), row_ok n (fun m hm => (ih m hm).2.2.1), part_ok n (fun m hm => (ih m hm).2.2.2), atom_ok n (fun m hm => (ih m hm).1)⟩
end Go.Proofs.Ytnidjfmbbfoheaa

