/- WALK: watchfirelaw15.same: a table and the document's table of the same members are the same. -/
import Derived.Test.YtnlpgjdgiappcaaMbDoc6
import Derived.Test.YtnlpgjdgiappcaaMbSame
namespace Go.Proofs.Ytnlpgjdgiappcaa
set_option linter.unusedVariables false
set_option linter.unusedSimpArgs false
open Go.RowKit

theorem get_tok (g : Nat) (z : Int) (F : Pl.Tab) (n : Int) (w : World) (hT : IsT w g z F) (hF : Pl.TOk z F) (h0 : 0 ≤ n) :
    Calls Try.prog 20 #[.pointer (some ⟨g, 0, none⟩), .int .u16 n] w fun e w' => e = .returned (getVal (F n.toNat)) ∧ Below w.heap.size w w' := by
  obtain ⟨k, rfl⟩ : ∃ k : Nat, n = (k : Int) := ⟨n.toNat, by omega⟩
  rw [Int.toNat_natCast]
  by_cases h : k < 64
  · exact get_near g z F k _ w hT h rfl
  · have e : F k = none := by
      cases hk : F k with
      | none => rfl
      | some m => exact absurd (hF.at_ k m hk).1 h
    rw [e]
    exact get_far g _ w (by omega)
theorem posT_eq (z : Int) (F : Pl.Tab) : Pl.posT z F = below_ z (theres (Pl.listT F)) := rfl

set_option maxRecDepth 100000 in
set_option maxHeartbeats 4000000 in
theorem same15_any (g : Nat) (z : Int) (F : Pl.Tab) (A : Option Addr) (c : Nat) (n : Int) (w : World) (hT : IsT w g z F) (hF : Pl.TOk z F) (hR : ReadsM w (fun _ => True) A (Pl.listT F)) (h0 : 0 ≤ n) :
    Calls Try.prog 29 #[.pointer (some ⟨g, 0, none⟩), .agg #[.int .u16 z, .slice A (Pl.listT F).length c], .int .u16 n] w fun e w' => e = .returned (.bool true) ∧ Below w.heap.size w w' := by
  have hl := listLen F
  have hfind := Pl.find_list hF n h0
  have hb : Below w.heap.size w (w.alloc (.cells #[.int .u16 z, .slice A (Pl.listT F).length c] 46)) := (Below.refl _ _).alloc (Nat.le_refl _) _
  have HB := Lib.hid hb
  have RR := Lib.hid (hR.below (by omega) hb)
  have HR0 := Lib.hid hR
  have B0 := Lib.hid (Blk.new w 46 #[.int .u16 z, .slice A (Pl.listT F).length c])
  have TT := Lib.hid (hT.alloc (.cells #[.int .u16 z, .slice A (Pl.listT F).length c] 46))
  have HF := Lib.hid hF
  have hgl := hT.lt
  clear hb hR hT hF
  go_enter Try.func29, Try.ntmps29
  go_wp2_with fail
  refine (get_tok g z F n _ TT.out HF.out h0).mono ?_
  rintro e w1 ⟨rfl, hb1⟩
  have hs0 : w.heap.size < (w.alloc (.cells #[.int .u16 z, .slice A (Pl.listT F).length c] 46)).heap.size := by simp
  have K1 := Lib.hid (below_then HB.out (by omega) hb1)
  have B1 := Lib.hid (B0.out.below hb1 B0.out.lt)
  have T1 := Lib.hid (TT.out.below hb1 TT.out.lt)
  have R1 := Lib.hid (RR.out.below (by omega) hb1)
  have l1 : w.heap.size < w1.heap.size := Nat.lt_of_lt_of_le hs0 hb1.size
  have q0 := B1.out.cell 0
  have q1 := B1.out.cell 1
  simp only [List.getElem?_toArray, List.getElem?_cons_zero, List.getElem?_cons_succ] at q0 q1
  clear hb1 HB RR B0 TT hs0
  obtain ⟨m, hm⟩ : ∃ m, (F n.toNat).getD mzero = m := ⟨_, rfl⟩
  obtain ⟨b, hb⟩ : ∃ b, (F n.toNat).isSome = b := ⟨_, rfl⟩
  have hv : getVal (F n.toNat) = .tuple #[.agg (mcells m), .bool b] := by rw [← hm, ← hb]; cases F n.toNat <;> rfl
  rw [hv]
  have HV := Lib.hid hv
  have HFIND := Lib.hid hfind
  clear hm hb hv hfind
  obtain ⟨m0, m1, m2⟩ := m
  simp only [mcells]
  go_wp2_with fail
  refine (refGet_any z n A c (Pl.listT F) _ (Reads.below R1.out (by omega) (Below.alloc (Below.refl _ w1) (Nat.le_refl _) (.cells #[.int .u16 m0, .int .u8 m1, .int .i64 m2] 25))) (by omega)).mono ?_
  rw [HFIND.out, HV.out]
  rintro e w2 ⟨rfl, hb2⟩
  have K2 := Lib.hid ((K1.out.alloc (by omega) (.cells #[.int .u16 m0, .int .u8 m1, .int .i64 m2] 25)).trans (hb2.mono (by simp; omega)))
  have B2 := Lib.hid ((B1.out.alloc (.cells #[.int .u16 m0, .int .u8 m1, .int .i64 m2] 25)).below hb2 (B1.out.alloc _).lt)
  have C2 := Lib.hid ((Blk.new w1 25 #[.int .u16 m0, .int .u8 m1, .int .i64 m2]).below hb2 (Blk.new w1 25 #[.int .u16 m0, .int .u8 m1, .int .i64 m2]).lt)
  have T2 := Lib.hid ((T1.out.alloc (.cells #[.int .u16 m0, .int .u8 m1, .int .i64 m2] 25)).below hb2 (T1.out.alloc _).lt)
  have R2 := Lib.hid ((Reads.below R1.out (by omega) (Below.alloc (Below.refl _ w1) (Nat.le_refl _) (.cells #[.int .u16 m0, .int .u8 m1, .int .i64 m2] 25))).below (by omega) hb2)
  have l2 : w1.heap.size < w2.heap.size := Nat.lt_of_lt_of_le (by simp) hb2.size
  clear hb2 q0 q1 K1 B1 T1 R1
  simp only [mcells]
  go_wp2_with fail
  refine (list_any g z F _ (T2.out.alloc (.cells #[.int .u16 m0, .int .u8 m1, .int .i64 m2] 25))).mono ?_
  rintro e w3 ⟨v3, rfl, ho3, hb3⟩
  obtain ⟨A3, c3, rfl, r3⟩ := Reads.of_own ho3
  have hlow := own_base ho3
  have K3 := Lib.hid ((K2.out.alloc (by omega) (.cells #[.int .u16 m0, .int .u8 m1, .int .i64 m2] 25)).trans (hb3.mono (by simp; omega)))
  have B3 := Lib.hid ((B2.out.alloc (.cells #[.int .u16 m0, .int .u8 m1, .int .i64 m2] 25)).below hb3 (B2.out.alloc _).lt)
  have C3 := Lib.hid ((C2.out.alloc (.cells #[.int .u16 m0, .int .u8 m1, .int .i64 m2] 25)).below hb3 (C2.out.alloc _).lt)
  have D3 := Lib.hid ((Blk.new w2 25 #[.int .u16 m0, .int .u8 m1, .int .i64 m2]).below hb3 (Blk.new w2 25 #[.int .u16 m0, .int .u8 m1, .int .i64 m2]).lt)
  have T3 := Lib.hid ((T2.out.alloc (.cells #[.int .u16 m0, .int .u8 m1, .int .i64 m2] 25)).below hb3 (T2.out.alloc _).lt)
  have R3 := Lib.hid ((Reads.below R2.out (by omega) (Below.alloc (Below.refl _ w2) (Nat.le_refl _) (.cells #[.int .u16 m0, .int .u8 m1, .int .i64 m2] 25))).below (by omega) hb3)
  have l3 : w2.heap.size < w3.heap.size := Nat.lt_of_lt_of_le (by simp) hb3.size
  clear K2 B2 C2 T2 R2
  have q0 := B3.out.cell 0
  have q1 := B3.out.cell 1
  have c0 := C3.out.cell 0
  have c1 := C3.out.cell 1
  have c2 := C3.out.cell 2
  have d0 := D3.out.cell 0
  have d1 := D3.out.cell 1
  have d2 := D3.out.cell 2
  simp only [List.getElem?_toArray, List.getElem?_cons_zero, List.getElem?_cons_succ] at q0 q1 c0 c1 c2 d0 d1 d2
  have O3 := Lib.hid ho3
  have RA := Lib.hid (r3.imp (S' := fun _ => True) fun _ _ => trivial : ReadsM w3 (fun _ => True) A3 (Pl.listT F))
  obtain ⟨me, hme⟩ := HF.out.me
  have ME := Lib.hid hme
  have FME := Lib.hid ((Pl.find_list HF.out z HF.out.self0).trans hme)
  have hz0 := HF.out.self0
  have hz1 := HF.out.self1
  have hw13 : w1.heap.size < w3.heap.size := by omega
  have hw03 : w.heap.size < w3.heap.size := by omega
  have hth := there_length F
  have HTT := Lib.hid (fun X (h : SB w3.heap.size w3 X) => (T3.out.below h.2.2 T3.out.lt : IsT X g z F))
  have HRR := Lib.hid (fun X (h : SB w3.heap.size w3 X) => (R3.out.below (by omega) h.2.2 : ReadsM X (fun _ => True) A (Pl.listT F)))
  have HRA := Lib.hid (fun X (h : SB w3.heap.size w3 X) => (RA.out.below (by omega) h.2.2 : ReadsM X (fun _ => True) A3 (Pl.listT F)))
  have HSB := Lib.hid (fun X X' (h : SB w3.heap.size w3 X) (k : Below X.heap.size X X') => (keepB (below_then h.2.2 h.2.2.size k) : SB w3.heap.size w3 X'))
  obtain ⟨e0, e1, e2⟩ := me
  clear ho3 r3 hlow hb3 hme
  go_upto_region 4 with fail
  go_cut [12] from 14 (fun s12 wx => s12 = .bool true ∧ Go.RowKit.Hid (Below w3.heap.size w3 wx))
  case first =>
    go_region_held3 (fun X => SB w3.heap.size w3 X) (first | assumption | exact keepB (Below.refl _ _).drew)
      (first
        | (go_at_call 23; refine (same_any A3 A c3 c _ _ _ (HRA.out _ (by assumption)) (HRR.out _ (by assumption)) (by omega) (by omega)).mono ?_; rw [decide_eq_true (rfl : Pl.listT F = Pl.listT F)]; rintro e w4 ⟨rfl, hb4⟩; have S4 : SB w3.heap.size w3 w4 := HSB.out _ _ (by assumption) hb4; clear hb4)
        | (go_at_call 19; refine (self_any g z F ⟨e0, e1, e2⟩ _ (HTT.out _ (by assumption)) hz0 hz1 ME.out).mono ?_; simp only [mcells]; rintro e w5 ⟨rfl, hb5⟩; have S5 : SB w3.heap.size w3 w5 := HSB.out _ _ (by assumption) hb5; clear hb5)
        | (go_at_call 47; refine (refSelf_any z A c (Pl.listT F) ⟨e0, e1, e2⟩ _ (HRR.out _ (by assumption)) (by omega) FME.out).mono ?_; simp only [mcells]; rintro e w6 ⟨rfl, hb6⟩; have S6 : SB w3.heap.size w3 w6 := HSB.out _ _ (by assumption) hb6; clear hb6)
        | (go_at_call 25; refine (there_any g z F _ (HTT.out _ (by assumption))).mono ?_; rintro e w7 ⟨v7, rfl, ho7, hb7⟩; obtain ⟨A7, c7, rfl, r7⟩ := Reads.of_own ho7; have R7 := Lib.hid (r7.imp (S' := fun _ => True) fun _ _ => trivial); have S7 : SB w3.heap.size w3 w7 := HSB.out _ _ (by assumption) hb7; clear hb7 ho7 r7)
        | (go_at_call 49; refine (refThere_any z A c (Pl.listT F) _ (HRR.out _ (by assumption)) (by omega)).mono ?_; rintro e w8 ⟨v8, rfl, ho8, hb8⟩; obtain ⟨A8, c8, rfl, r8⟩ := Reads.of_own ho8; have R8 := Lib.hid (r8.imp (S' := fun _ => True) fun _ _ => trivial); have R7' := Lib.hid (R7.out.below (by omega) hb8); have S8 : SB w3.heap.size w3 w8 := HSB.out _ _ (by assumption) hb8; clear hb8 ho8 r8)
        | (go_at_call 48; refine (sameNodes_any A7 A8 c7 c8 (Pl.thereT F) _ R7'.out R8.out (by omega)).mono ?_; rintro e w9 ⟨rfl, hb9⟩; have S9 : SB w3.heap.size w3 w9 := HSB.out _ _ (by assumption) hb9; clear hb9)
        | (go_at_call 26; refine (position_any g z F _ (HTT.out _ (by assumption))).mono ?_; rintro e w10 ⟨rfl, hb10⟩; have S10 : SB w3.heap.size w3 w10 := HSB.out _ _ (by assumption) hb10; clear hb10)
        | (go_at_call 50; refine (refPos_any z A c (Pl.listT F) _ (HRR.out _ (by assumption)) (by omega)).mono ?_; rintro e w11 ⟨rfl, hb11⟩; have S11 : SB w3.heap.size w3 w11 := HSB.out _ _ (by assumption) hb11; clear hb11))
    all_goals
      go_wp2_with fail
      go_meet
      case rel => exact ⟨by rw [posT_eq]; simp, S11.2.2⟩
  case rest =>
    obtain ⟨rfl, K4⟩ := hcut
    have hpos : 0 < (Pl.listT F).length := by
      have : (⟨e0, e1, e2⟩ : Pl.M) ∈ Pl.listT F := List.mem_filterMap.2 ⟨z.toNat, List.mem_range.2 (by omega), ME.out⟩
      exact List.length_pos_of_mem this
    rcases O3.out.2 with ⟨e, hn⟩ | ⟨p, cap, cur, e, hp, hblk, hncap, -, hcs, htk⟩
    · omega
    injection e with e _ ec
    subst e
    have hp1 : w.heap.size + 1 ≤ p := by
      have : w2.heap.size < (w2.alloc (.cells #[.int .u16 m0, .int .u8 m1, .int .i64 m2] 25)).heap.size := by simp
      omega
    have hpl : p < w3.heap.size := (Array.getElem?_eq_some_iff.1 hblk).1
    have hcell : ∀ j, j < (Pl.listT F).length → ∃ v : Int, cur[j * 3 + 2]? = some (.int .i64 v) := fun j hj => by
      obtain ⟨x, hx⟩ : ∃ x, (Pl.listT F)[j]? = some x := ⟨_, List.getElem?_eq_getElem hj⟩
      refine ⟨x.i, ?_⟩
      have h := (rows_get _ j x hx).2.2
      rw [← htk, List.getElem?_take] at h
      split at h
      · rw [← Array.getElem?_toList]; exact h
      · cases h
    have HBK := Lib.hid (Blk.below (hblk : Blk w3 p 25 cur) K4.out hpl)
    have HC := Lib.hid hcell
    have K5 := Lib.hid (below_then K3.out (by omega) K4.out)
    have B5 := Lib.hid (B3.out.below K4.out (by omega))
    have T5 := Lib.hid (T3.out.below K4.out T3.out.lt)
    have hwc := K4.out.size
    clear hblk hcell htk hcs hncap ec HTT HRR HRA HSB q0 q1 c0 c1 c2 d0 d1 d2
    go_wp2
    go_loopw [13] (fun i wr => ∃ (k : Nat) (cur : Array Value), k ≤ (Pl.listT F).length ∧ i = .int .i64 k ∧ Below (w.heap.size + 1) wc wr ∧ Blk wr p 25 cur ∧ ∀ j, j < (Pl.listT F).length → ∃ v : Int, cur[j * 3 + 2]? = some (.int .i64 v)) (fun i _ => (Pl.listT F).length - (intOf i).toNat)
    case atStart => exact ⟨0, cur, Nat.zero_le _, rfl, Below.refl _ _, HBK.out, HC.out⟩
    case round =>
      obtain ⟨k, cu, hk, rfl, hbw, hbk, hcl⟩ := hrel
      by_cases hlt : k < (Pl.listT F).length
      · obtain ⟨v, hv⟩ := hcl k hlt
        have c2 := (hbk.cell (k * 3 + 2)).trans hv
        have f2 := hbk.frozen
        have hge0 : (0 : Int) ≤ (k : Int) := by omega
        have hltI : (k : Int) < ((Pl.listT F).length : Int) := by omega
        have HBW := Lib.hid hbw
        have HB2 := Lib.hid hbk
        have HC2 := Lib.hid hcl
        have HV := Lib.hid hv
        clear hbw hbk hcl hv
        go_wp2
        go_roundw
        case rel =>
          refine ⟨k + 1, _, by omega, by go_num, HBW.out.setCell (p := ⟨p, k * 3 + 2, none⟩) hp1 _, HB2.out.set_ (k * 3 + 2) _, fun j hj => ?_⟩
          obtain ⟨u, hu⟩ := HC2.out j hj
          have hlt2 := (Array.getElem?_eq_some_iff.1 hu).1
          by_cases e : j = k
          · subst e
            exact ⟨_, Array.getElem?_setIfInBounds_self_of_lt hlt2⟩
          · rw [Array.getElem?_setIfInBounds_ne (by omega)]
            exact ⟨u, hu⟩
        case measure => simp [intOf]; omega
      · obtain rfl : k = (Pl.listT F).length := by omega
        have hwr := hbw.size
        have K6 := Lib.hid ((K5.out.trans (hbw.mono (by omega))) : Below w.heap.size w wr)
        have B6 := Lib.hid (B5.out.below hbw (by omega))
        have T6 := Lib.hid (T5.out.below hbw (by omega))
        have R6 := Lib.hid (HR0.out.below (by omega) K6.out : ReadsM wr (fun _ => True) A (Pl.listT F))
        have q0 := B6.out.cell 0
        have q1 := B6.out.cell 1
        simp only [List.getElem?_toArray, List.getElem?_cons_zero, List.getElem?_cons_succ] at q0 q1
        have hw6 : w.heap.size < wr.heap.size := B6.out.lt
        clear hbw hbk hcl
        go_wp2
        go_region_held3 (fun X => SB wr.heap.size wr X) (first | assumption | exact keepB (Below.refl _ _).drew)
          (first
            | (go_at_call 24; refine (list_any g z F _ (T6.out.below (Below.refl _ _).drew T6.out.lt)).mono ?_; rintro e w7 ⟨v7, rfl, ho7, hb7⟩; obtain ⟨A7, c7, rfl, r7⟩ := Reads.of_own ho7; have R7 := Lib.hid (r7.imp (S' := fun _ => True) fun _ _ => trivial : ReadsM w7 (fun _ => True) A7 (Pl.listT F)); have S7 : SB wr.heap.size wr w7 := keepB (below_then (Below.refl _ _).drew (Nat.le_refl _) hb7); clear hb7 ho7 r7)
            | (go_at_call 23; refine (same_any A7 A c7 c _ _ _ R7.out (R6.out.below (by omega) S7.2.2) (by omega) (by omega)).mono ?_; rw [decide_eq_true (rfl : Pl.listT F = Pl.listT F)]; rintro e w8 ⟨rfl, hb8⟩; have S8 : SB wr.heap.size wr w8 := keepB (below_then S7.2.2 S7.2.2.size hb8); clear hb8))
        all_goals
          go_wp2
          go_ret
          exact ⟨rfl, below_then K6.out (by omega) S8.2.2⟩

end Go.Proofs.Ytnlpgjdgiappcaa
