/- The statement MemberHears: whatever a node hears, it sees the others, and tells, as the document says. Conditions: none. -/
import Derived.Test.YtnlpgjdgiappcaaMbPlaces
import Derived.Test.YtnlpgjdgiappcaaCq
import Derived.Test.YtnlpgjdgiappcaaMbDoc7
import Derived.Test.YtnlpgjdgiappcaaMbDoc8
namespace Go.Proofs.Ytnlpgjdgiappcaa
set_option linter.unusedVariables false
set_option linter.unusedSimpArgs false
open Go.ChangeShapes Go.WideShapes Go.ChangeAt Go.RowKit

theorem getD_heard (o : Option Pl.M) : heardVal o = .tuple #[.agg (mcells (o.getD mzero)), .bool o.isSome] := by cases o <;> rfl

set_option maxRecDepth 100000 in
set_option maxHeartbeats 4000000 in
theorem hears_walk (s : Int) (A : Option Addr) (c : Nat) (l : List Pl.M) (nd : Int) (w : World) (hs : 0 ≤ s ∧ s ≤ 65535) (hl : ReadsM w (fun b => b < w.heap.size) A l) (hml : ∀ m ∈ l, Pl.MOk m) (hnd : 0 ≤ nd) (h1 : l.length ≤ 200) :
    Calls Try.prog 6 #[.int .u16 s, .slice A l.length c, .int .u16 nd] w fun e w' => e = .returned (.bool true) ∧ Below w.heap.size w w' := by
  obtain ⟨z, hz⟩ : ∃ z, s % 64 = z := ⟨_, rfl⟩
  have hz0 : 0 ≤ z := by omega
  have hz1 : z < 64 := by omega
  have g1 : ¬ (200 : Int) < l.length := by omega
  have hln : ReadsM w (fun b => b < w.heap.size) A l := hl
  have HL := Lib.hid hl
  have HML := Lib.hid hml
  clear hl hml
  go_enter Try.func6, Try.ntmps6
  go_wp2_with fail
  refine (new_any s _ hs.1 hs.2).mono ?_
  rintro e w1 ⟨g, rfl, hb1, hg, hT1⟩
  rw [hz] at hT1
  have K1 := Lib.hid hb1
  have T1 := Lib.hid hT1
  have hgw : w.heap.size ≤ g := hg
  clear hb1 hT1
  go_wp2_with fail
  refine (refNew_any s _ hs.1 hs.2).mono ?_
  rintro e w2 ⟨A2, c2, rfl, hb2, hr2⟩
  rw [hz] at hr2
  have hgl1 := T1.out.lt
  have K2 := Lib.hid (below_then K1.out K1.out.size hb2)
  have T2 := Lib.hid (T1.out.below hb2 T1.out.lt)
  rw [hz]
  have l2 := hb2.size
  have R2 := Lib.hid ((Reads.there hr2 (by simp)).imp (S' := fun b => b ≠ g ∧ b ≠ w2.heap.size) fun b hb => ⟨by omega, by omega⟩ : ReadsM w2 (fun b => b ≠ g ∧ b ≠ w2.heap.size) A2 [⟨z, 0, 0⟩])
  clear hb2 hr2 K1 T1 hz
  go_wp2_with fail
  have K3 := Lib.hid (K2.out.alloc K2.out.size (.cells #[.int .u16 z, .slice A2 1 c2] 46))
  have T3 := Lib.hid (T2.out.alloc (.cells #[.int .u16 z, .slice A2 1 c2] 46))
  have B3 := Lib.hid (Blk.new w2 46 #[.int .u16 z, .slice A2 1 c2])
  have R3 := Lib.hid (ReadsM.alloc R2.out (.cells #[.int .u16 z, .slice A2 1 c2] 46))
  have hg2 := T2.out.lt
  have hw2 := K2.out.size
  have hnew := listT_new hz0 hz1
  have HN := Lib.hid hnew
  clear K2 T2 R2 hnew
  generalize hbb : w2.heap.size = b8 at *
  generalize w2.alloc (.cells #[.int .u16 z, .slice A2 1 c2] 46) = w3 at *
  go_loopw [9] (fun i wr => ∃ (k : Nat) (F : Pl.Tab) (A' : Option Addr) (c' : Nat), k ≤ l.length ∧ i = .int .i64 k ∧ Below w.heap.size w wr ∧ IsT wr g z F ∧ Pl.TOk z F ∧ Blk wr b8 46 #[.int .u16 z, .slice A' (Pl.listT F).length c'] ∧
    ReadsM wr (fun b => b ≠ g ∧ b ≠ b8) A' (Pl.listT F)) (fun i _ => l.length - (intOf i).toNat)
  case atStart => exact ⟨0, _, A2, c2, Nat.zero_le _, rfl, K3.out, T3.out, Pl.newT_ok hz0 hz1, by rw [HN.out]; exact B3.out, by rw [HN.out]; exact R3.out⟩
  case round =>
    obtain ⟨k, F, A', c', hk, rfl, hbw, hT, hF, hB, hR⟩ := hrel
    by_cases hlt : k < l.length
    · obtain ⟨x, hx⟩ : ∃ x, l[k]? = some x := ⟨l[k], List.getElem?_eq_getElem hlt⟩
      have hxm : Pl.MOk x := HML.out x (List.mem_of_getElem? hx)
      have hL' : ReadsM wr (fun b => b < w.heap.size) A l := HL.out.below (by omega) hbw
      obtain ⟨p, o, rfl, hpb, r0, r1, r2⟩ := hL'.at_ k x hx
      have hwr := hbw.size
      have hF1 := Pl.heard_ok hF hxm
      have hgr := hT.lt
      have h8r := hB.lt
      obtain ⟨y, hy⟩ : ∃ y, (Pl.hear z F x).getD mzero = y := ⟨_, rfl⟩
      obtain ⟨b, hb⟩ : ∃ b, (Pl.hear z F x).isSome = b := ⟨_, rfl⟩
      have hv : heardVal (Pl.hear z F x) = .tuple #[.agg (mcells y), .bool b] := by rw [getD_heard, hy, hb]
      have hv2 : ∀ v, rheardVal v (Pl.hear z F x) = .tuple #[v, .agg (mcells y), .bool b] := fun v => by rw [getD_hear, hy, hb]
      have HX := Lib.hid hx
      have HXM := Lib.hid hxm
      have BW := Lib.hid hbw
      have TW := Lib.hid hT
      have HF := Lib.hid hF
      have HF1 := Lib.hid hF1
      have BB := Lib.hid hB
      have RW := Lib.hid hR
      have HV := Lib.hid hv
      have HV2 := Lib.hid hv2
      have hge : (0 : Int) ≤ (k : Int) := by omega
      have hltI : (k : Int) < (l.length : Int) := by omega
      clear hx hxm hbw hT hF hF1 hB hR hL' hy hb hv hv2 K3 T3 B3 R3
      go_wp2_with fail
      refine (hear_any g z F x _ TW.out HXM.out).mono ?_
      rw [HV.out]
      rintro e w4 ⟨rfl, hg4, hT4⟩
      obtain ⟨y0, y1, y2⟩ := y
      simp only [mcells]
      have K4 := Lib.hid (BW.out.grown hg4 hwr (fun k e => by injection e with e; omega))
      have T4 := Lib.hid hT4
      have B4 := Lib.hid (BB.out.grown hg4 (fun e => by injection e with e; omega))
      have R4 := Lib.hid (Reads.grown RW.out (by omega) hg4 (fun b hb e => hb.1 (by injection e)) : ReadsM w4 (fun b => b ≠ g ∧ b ≠ b8) A' (Pl.listT F))
      have l4 := hg4.size
      clear hg4 hT4 BW TW BB RW r0 r1 r2
      go_upto_region 8 with fail
      have T5 := Lib.hid (T4.out.alloc (.cells #[.int .u16 y0, .int .u8 y1, .int .i64 y2] 25))
      have K5 := Lib.hid (K4.out.alloc K4.out.size (.cells #[.int .u16 y0, .int .u8 y1, .int .i64 y2] 25))
      have B5 := Lib.hid (B4.out.alloc (.cells #[.int .u16 y0, .int .u8 y1, .int .i64 y2] 25))
      have R5 := Lib.hid (ReadsM.alloc R4.out (.cells #[.int .u16 y0, .int .u8 y1, .int .i64 y2] 25))
      have C5 := Lib.hid (Blk.new w4 25 #[.int .u16 y0, .int .u8 y1, .int .i64 y2])
      have l5 : w4.heap.size < (w4.alloc (.cells #[.int .u16 y0, .int .u8 y1, .int .i64 y2] 25)).heap.size := by simp
      clear T4 K4 B4 R4
      generalize hb10 : w4.heap.size = b10 at *
      generalize w4.alloc (.cells #[.int .u16 y0, .int .u8 y1, .int .i64 y2] 25) = w5 at *
      have hL' : ReadsM w5 (fun b => b < w.heap.size) (some ⟨p, o, none⟩) l := HL.out.below (by omega) K5.out
      obtain ⟨-, r0, r1, r2⟩ := hL'.cellz HX.out
      have q0 := B5.out.cell 0
      have q1 := B5.out.cell 1
      simp only [List.getElem?_toArray, List.getElem?_cons_zero, List.getElem?_cons_succ] at q0 q1
      have hgl : b8 < w5.heap.size := B5.out.lt
      have hbl : p < w5.heap.size := by omega
      have hHC : ∀ X, SB w5.heap.size w5 X → Calls Try.prog 28 #[.agg #[.int .u16 z, .slice A' (Pl.listT F).length c'], .agg #[.int .u16 x.n, .int .u8 x.s, .int .i64 x.i]] X fun e w' => ∃ A1 c1, e = .returned (.tuple #[.agg #[.int .u16 z, .slice A1 (Pl.listT (Pl.heard z F x)).length c1], .agg #[.int .u16 y0, .int .u8 y1, .int .i64 y2], .bool b]) ∧
          ReadsM w' (fun q => ((q ≠ g ∧ q ≠ b8) ∧ q < w5.heap.size) ∨ X.heap.size ≤ q) A1 (Pl.listT (Pl.heard z F x)) ∧ Below X.heap.size X w' := fun X hX => by
        have h := refHear_any z F A' c' x X (fun q => ((q ≠ g ∧ q ≠ b8) ∧ q < w5.heap.size) ∨ X.heap.size ≤ q) HF.out HXM.out
          (((Reads.there R5.out (by omega)).below (by omega) hX.2.2).imp fun b hb => .inl hb) (fun b hb => .inr hb)
        simp only [HV2.out] at h
        exact h
      have HC := Lib.hid hHC
      have HSW := Lib.hid (keepB (Below.refl w5.heap.size w5))
      clear hHC hL'
      go_cut [12, 13, 14] from 38 to 47 (fun s8 s9 s10 wx => ∃ (b12 b13 : Nat) (A1 : Option Addr) (c1 : Nat), s8 = .pointer (some ⟨b12, 0, none⟩) ∧ s9 = .pointer (some ⟨b13, 0, none⟩) ∧ s10 = .bool b ∧ w5.heap.size ≤ b12 ∧ w5.heap.size ≤ b13 ∧ b12 ≠ b13 ∧
        Go.RowKit.Hid (Blk wx b12 46 #[.int .u16 z, .slice A1 (Pl.listT (Pl.heard z F x)).length c1]) ∧ Go.RowKit.Hid (Blk wx b13 25 #[.int .u16 y0, .int .u8 y1, .int .i64 y2]) ∧ Go.RowKit.Hid (Below w5.heap.size w5 wx) ∧
        Go.RowKit.Hid (ReadsM wx (fun q => q ≠ g ∧ q ≠ b8 ∧ q ≠ b12 ∧ q ≠ b13) A1 (Pl.listT (Pl.heard z F x))))
      case first =>
        go_region_held3 (fun X => SB w5.heap.size w5 X) (((repeat (with_reducible first | assumption | exact HSW.out | refine sb_drew ?_ | refine sb_alloc ?_ (Nat.le_refl _) _ | refine sb_set ?_ ?_ _)); all_goals first | done | (simp; done) | (simp; omega)))
          (first
            | (go_at_call 28; refine (HC.out _ (by assumption)).mono ?_; rintro e w6 ⟨A1, c1, rfl, hr1, hb1⟩; have S1 : SB w5.heap.size w5 w6 := sb_then (by assumption) hb1; have R1 := Lib.hid hr1; have L1 := hb1.size; have B1 := Lib.hid hb1
               first
                 | (obtain ⟨K0, K1, k0, k1, k2, k3⟩ := kept2 hb1; have a0 := K0.cell 0; have a1 := K0.cell 1; have a2 := K0.cell 2; have b0 := K1.cell 0; have b1 := K1.cell 1; have b2 := K1.cell 2; have f0 := K0.frozen; have f1 := K1.frozen; have BK0 := Lib.hid K0; have BK1 := Lib.hid K1; clear K0 K1; simp only [List.getElem?_toArray, List.getElem?_cons_zero, List.getElem?_cons_succ] at a0 a1 a2 b0 b1 b2)
                 | (obtain ⟨K0, k0, k1⟩ := kept1 hb1; have a0 := K0.cell 0; have a1 := K0.cell 1; have a2 := K0.cell 2; have f0 := K0.frozen; have BK0 := Lib.hid K0; clear K0; simp only [List.getElem?_toArray, List.getElem?_cons_zero, List.getElem?_cons_succ] at a0 a1 a2)
                 | skip
               clear hr1 hb1))
        all_goals
          go_wp2
          go_meet
          case rel =>
            try simp only [drew_size] at L1
            try simp at L1
            refine ⟨_, _, A1, c1, rfl, rfl, rfl, ?_, ?_, ?_, Lib.hid ?_, Lib.hid ?_, Lib.hid (by assumption : SB w5.heap.size w5 _).2.2, Lib.hid ?_⟩
            · omega
            · omega
            · omega
            · repeat (with_reducible first | exact BK0.out | exact BK1.out | apply Blk.mem2 | refine Blk.new_at ?_ | refine Blk.alloc ?_ _ | refine Blk.far ?_ ?_ _)
              all_goals first | done | (simp; done) | (simp; omega)
            · repeat (with_reducible first | exact BK0.out | exact BK1.out | apply Blk.mem3 | refine Blk.new_at ?_ | refine Blk.alloc ?_ _ | refine Blk.far ?_ ?_ _)
              all_goals first | done | (simp; done) | (simp; omega)
            · repeat (with_reducible first | refine ReadsM.set ?_ ?_ _ | refine ReadsM.alloc ?_ _)
              all_goals first | exact (fun b hb => hb.2.2.1) | exact (fun b hb => hb.2.2.2) | skip
              refine (Reads.there R1.out (by omega)).imp fun b hb => ?_
              obtain ⟨h | h, h'⟩ := hb
              · exact ⟨h.1.1, h.1.2, by omega, by omega⟩
              · try simp only [drew_size] at h
                try simp at h
                exact ⟨by omega, by omega, by omega, by omega⟩
      case rest =>
        obtain ⟨b12, b13, A1, c1, rfl, rfl, rfl, h12, h13, h1213, D12, D13, K, RR⟩ := hcut
        obtain ⟨xm, hxe⟩ : ∃ xm, xm = x := ⟨_, rfl⟩
        subst hxe
        have B6 := Lib.hid (B5.out.below K.out hgl)
        have C6 := Lib.hid (C5.out.below K.out (show b10 < w5.heap.size by omega))
        have T6 := Lib.hid (T5.out.below K.out T5.out.lt)
        have K6 := Lib.hid (below_then K5.out K5.out.size K.out)
        have s0 := D12.out.cell 0
        have s1 := D12.out.cell 1
        have t0 := B6.out.cell 0
        have t1 := B6.out.cell 1
        have t2 := B6.out.frozen
        simp only [List.getElem?_toArray, List.getElem?_cons_zero, List.getElem?_cons_succ] at s0 s1 t0 t1
        have hg5 : g < b10 := by omega
        have h8b : b8 < b10 := by omega
        have B7 := Lib.hid (Blk.mem2 B6.out (.int .u16 z) (.slice A1 (Pl.listT (Pl.heard z F xm)).length c1))
        have C7 := Lib.hid ((C6.out.far (p := ⟨b8, 0, none⟩) (show b10 ≠ b8 by omega) (.int .u16 z)).far (p := ⟨b8, 1, none⟩) (show b10 ≠ b8 by omega) (.slice A1 (Pl.listT (Pl.heard z F xm)).length c1))
        have D7 := Lib.hid ((D13.out.far (p := ⟨b8, 0, none⟩) (show b13 ≠ b8 by omega) (.int .u16 z)).far (p := ⟨b8, 1, none⟩) (show b13 ≠ b8 by omega) (.slice A1 (Pl.listT (Pl.heard z F xm)).length c1))
        have T7 := Lib.hid ((Blk.far T6.out (p := ⟨b8, 0, none⟩) (show g ≠ b8 by omega) (.int .u16 z)).far (p := ⟨b8, 1, none⟩) (show g ≠ b8 by omega) (.slice A1 (Pl.listT (Pl.heard z F xm)).length c1) : IsT _ g z (Pl.heard z F xm))
        have K7 := Lib.hid ((K6.out.setCell (p := ⟨b8, 0, none⟩) (show w.heap.size ≤ b8 by omega) (.int .u16 z)).setCell (p := ⟨b8, 1, none⟩) (show w.heap.size ≤ b8 by omega) (.slice A1 (Pl.listT (Pl.heard z F xm)).length c1))
        have R7 := Lib.hid (((ReadsM.set (p := ⟨b8, 0, none⟩) RR.out (fun b hb => hb.2.1) (.int .u16 z)).set (p := ⟨b8, 1, none⟩) (fun b hb => hb.2.1) (.slice A1 (Pl.listT (Pl.heard z F xm)).length c1)).imp (S' := fun q => q ≠ g ∧ q ≠ b8) fun b hb => ⟨hb.1, hb.2.1⟩)
        go_upto_region 10 with fail
        clear r0 r1 r2 q0 q1 s0 s1 t0 t1 t2 HC HSW T5 K5 B5 R5 C5 D12 D13 K RR B6 C6 T6 K6
        generalize ((wc.setCell ⟨b8, 0, none⟩ (.int .u16 z)).setCell ⟨b8, 1, none⟩ (.slice A1 (Pl.listT (Pl.heard z F xm)).length c1)) = W6 at *
        have rr : ReadsM W6 (fun b => b < w.heap.size) (some ⟨p, o, none⟩) l := HL.out.below (by omega) K7.out
        rcases k with _ | j
        · have hq0 := fun x : Ext W6.heap.size W6 => (ReadsM.cellz (Reads.below rr (by omega : 0 < 3) x.h) HX.out).2.1
          have hq1 := fun x : Ext W6.heap.size W6 => (ReadsM.cellz (Reads.below rr (by omega : 0 < 3) x.h) HX.out).2.2.1
          have hq2 := fun x : Ext W6.heap.size W6 => (ReadsM.cellz (Reads.below rr (by omega : 0 < 3) x.h) HX.out).2.2.2
          have hu0 := fun x : Ext W6.heap.size W6 => (Ext.blk C7.out C7.out.lt (x := x)).cell 0
          have hu1 := fun x : Ext W6.heap.size W6 => (Ext.blk C7.out C7.out.lt (x := x)).cell 1
          have hu2 := fun x : Ext W6.heap.size W6 => (Ext.blk C7.out C7.out.lt (x := x)).cell 2
          have hv0 := fun x : Ext W6.heap.size W6 => (Ext.blk D7.out D7.out.lt (x := x)).cell 0
          have hv1 := fun x : Ext W6.heap.size W6 => (Ext.blk D7.out D7.out.lt (x := x)).cell 1
          have hv2 := fun x : Ext W6.heap.size W6 => (Ext.blk D7.out D7.out.lt (x := x)).cell 2
          have ht0 := fun x : Ext W6.heap.size W6 => (Ext.blk B7.out B7.out.lt (x := x)).cell 0
          have ht1 := fun x : Ext W6.heap.size W6 => (Ext.blk B7.out B7.out.lt (x := x)).cell 1
          simp only [List.getElem?_toArray, List.getElem?_cons_zero, List.getElem?_cons_succ] at hq0 hq1 hq2 hu0 hu1 hu2 hv0 hv1 hv2 ht0 ht1
          clear rr
          refine wp_region_exts (by kernel_rfl) (by kernel_rfl) ?_
          repeat
            first
              | go_big_quiet_skip
              | (go_big_quiet_want; go_big_quiet_op
                 first
                   | go_big_quiet_on
                   | (apply Exists.intro
                      refine ⟨fun x => ?_, ?_⟩
                      · (first | (go_at_call 29; exact calls_ext (Nat.le_refl _) (same15_any g z _ A1 c1 nd _ (Ext.blk T7.out T7.out.lt) HF1.out (Reads.below (R7.out.imp fun _ _ => trivial) (by omega) x.h) hnd)))
                      go_big_quiet_on
                      try (skip)))
          refine wpQuiet_nil ?_
          rintro _ ⟨x, rfl⟩
          have KX := Lib.hid (below_then K7.out K7.out.size x.h)
          have TX := Lib.hid (T7.out.below x.h T7.out.lt)
          have BX := Lib.hid (B7.out.below x.h B7.out.lt)
          have RX := Lib.hid (R7.out.below (by omega) x.h : ReadsM x.W (fun q => q ≠ g ∧ q ≠ b8) A1 (Pl.listT (Pl.heard z F xm)))
          clear hu0 hu1 hu2 hv0 hv1 hv2 ht0 ht1 hq0 hq1 hq2
          go_wp2
          go_roundw
          case rel => exact ⟨0 + 1, _, A1, c1, by omega, by go_num, KX.out, TX.out, HF1.out, BX.out, RX.out⟩
          case measure => simp [intOf]; omega
        · obtain ⟨xj, hxj⟩ : ∃ xj, l[j]? = some xj := ⟨l[j], List.getElem?_eq_getElem (by omega)⟩
          have hq0 := fun x : Ext W6.heap.size W6 => (ReadsM.cellz (Reads.below rr (by omega : 0 < 3) x.h) HX.out).2.1
          have hq1 := fun x : Ext W6.heap.size W6 => (ReadsM.cellz (Reads.below rr (by omega : 0 < 3) x.h) HX.out).2.2.1
          have hq2 := fun x : Ext W6.heap.size W6 => (ReadsM.cellz (Reads.below rr (by omega : 0 < 3) x.h) HX.out).2.2.2
          have hp0 := fun x : Ext W6.heap.size W6 => (ReadsM.cellz (Reads.below rr (by omega : 0 < 3) x.h) hxj).2.1
          have hp1 := fun x : Ext W6.heap.size W6 => (ReadsM.cellz (Reads.below rr (by omega : 0 < 3) x.h) hxj).2.2.1
          have hp2 := fun x : Ext W6.heap.size W6 => (ReadsM.cellz (Reads.below rr (by omega : 0 < 3) x.h) hxj).2.2.2
          have hu0 := fun x : Ext W6.heap.size W6 => (Ext.blk C7.out C7.out.lt (x := x)).cell 0
          have hu1 := fun x : Ext W6.heap.size W6 => (Ext.blk C7.out C7.out.lt (x := x)).cell 1
          have hu2 := fun x : Ext W6.heap.size W6 => (Ext.blk C7.out C7.out.lt (x := x)).cell 2
          have hv0 := fun x : Ext W6.heap.size W6 => (Ext.blk D7.out D7.out.lt (x := x)).cell 0
          have hv1 := fun x : Ext W6.heap.size W6 => (Ext.blk D7.out D7.out.lt (x := x)).cell 1
          have hv2 := fun x : Ext W6.heap.size W6 => (Ext.blk D7.out D7.out.lt (x := x)).cell 2
          have ht0 := fun x : Ext W6.heap.size W6 => (Ext.blk B7.out B7.out.lt (x := x)).cell 0
          have ht1 := fun x : Ext W6.heap.size W6 => (Ext.blk B7.out B7.out.lt (x := x)).cell 1
          simp only [List.getElem?_toArray, List.getElem?_cons_zero, List.getElem?_cons_succ] at hq0 hq1 hq2 hp0 hp1 hp2 hu0 hu1 hu2 hv0 hv1 hv2 ht0 ht1
          have hpos : (0 : Int) < ((j + 1 : Nat) : Int) := by omega
          have hjn : ((j + 1 : Nat) : Int) - 1 = (j : Int) := by omega
          have hj0 : (0 : Int) ≤ (j : Int) := by omega
          have hjl : (j : Int) < (l.length : Int) := by omega
          clear rr hxj
          refine wp_region_exts (by kernel_rfl) (by kernel_rfl) ?_
          repeat
            first
              | go_big_quiet_skip
              | (go_big_quiet_want; go_big_quiet_op
                 first
                   | go_big_quiet_on
                   | (apply Exists.intro
                      refine ⟨fun x => ?_, ?_⟩
                      · (first | (go_at_call 29; exact calls_ext (Nat.le_refl _) (same15_any g z _ A1 c1 nd _ (Ext.blk T7.out T7.out.lt) HF1.out (Reads.below (R7.out.imp fun _ _ => trivial) (by omega) x.h) hnd)) | (go_at_call 21; exact calls_ext (Nat.le_refl _) (above_any xm xj _)) | (go_at_call 30; exact calls_ext (Nat.le_refl _) (refAbove_any xm xj _)))
                      go_big_quiet_on
                      try (skip)))
          refine wpQuiet_nil ?_
          rintro _ ⟨x, rfl⟩
          have KX := Lib.hid (below_then K7.out K7.out.size x.h)
          have TX := Lib.hid (T7.out.below x.h T7.out.lt)
          have BX := Lib.hid (B7.out.below x.h B7.out.lt)
          have RX := Lib.hid (R7.out.below (by omega) x.h : ReadsM x.W (fun q => q ≠ g ∧ q ≠ b8) A1 (Pl.listT (Pl.heard z F xm)))
          clear hu0 hu1 hu2 hv0 hv1 hv2 ht0 ht1 hq0 hq1 hq2 hp0 hp1 hp2
          go_wp2
          go_roundw
          case rel => exact ⟨j + 1 + 1, _, A1, c1, by omega, by go_num, KX.out, TX.out, HF1.out, BX.out, RX.out⟩
          case measure => simp [intOf]; omega
    · obtain rfl : k = l.length := by omega
      have KW := Lib.hid hbw
      have TW := Lib.hid hT
      have BW := Lib.hid hB
      have HF := Lib.hid hF
      have RW := Lib.hid (hR.imp (S' := fun _ => True) fun _ _ => trivial : ReadsM wr (fun _ => True) A' (Pl.listT F))
      have q0 := hB.cell 0
      have q1 := hB.cell 1
      simp only [List.getElem?_toArray, List.getElem?_cons_zero, List.getElem?_cons_succ] at q0 q1
      clear hbw hT hF hB hR
      go_wp2_with fail
      refine (same15_any g z F A' c' nd _ TW.out HF.out RW.out hnd).mono ?_
      rintro e w12 ⟨rfl, hb12⟩
      have K12 := Lib.hid (below_then KW.out KW.out.size hb12)
      clear hb12
      go_wp2_with fail
      refine (awake_any _).mono ?_
      rintro e w13 ⟨rfl, hb13⟩
      have K13 := Lib.hid (below_then K12.out K12.out.size hb13)
      clear hb13
      go_wp2
      go_ret
      exact ⟨rfl, K13.out⟩

set_option maxRecDepth 100000 in
set_option maxHeartbeats 1000000 in
theorem hears_long (s : Int) (A : Option Addr) (c n : Nat) (nd : Int) (w : World) (h : 200 < n) :
    Calls Try.prog 6 #[.int .u16 s, .slice A n c, .int .u16 nd] w fun e w' => e = .returned (.bool true) ∧ Below w.heap.size w w' := by
  have g1 : (200 : Int) < n := by omega
  go_enter Try.func6, Try.ntmps6
  go_wp2_with fail
  refine (awake_any _).mono ?_
  rintro e w1 ⟨rfl, hb⟩
  have HB := Lib.hid hb
  clear hb
  go_wp2
  go_ret
  exact ⟨rfl, HB.out⟩

theorem hears_all (s : Int) (A : Option Addr) (c : Nat) (l : List Pl.M) (nd : Int) (w : World) (hs : 0 ≤ s ∧ s ≤ 65535) (hl : ReadsM w (fun b => b < w.heap.size) A l) (hml : ∀ m ∈ l, Pl.MOk m) (hnd : 0 ≤ nd) :
    Calls Try.prog 6 #[.int .u16 s, .slice A l.length c, .int .u16 nd] w fun e w' => e = .returned (.bool true) ∧ Below w.heap.size w w' := by
  by_cases h1 : l.length ≤ 200
  · exact hears_walk s A c l nd w hs hl hml hnd h1
  · exact hears_long s A c _ nd w (by omega)

set_option maxRecDepth 100000 in
theorem memberHears_lifted (os : Os) (started : os.Started) (H : Type) (enc : TypeId × Value → H) :
    ReturnsInHanded {} Try.checked os 6 .any (Rows.memberHearsSpec.pre6 enc Try.prog Try.f6 Rows.memberHearsRow.domain false) (Rows.memberHearsSpec.post enc Try.prog Try.f6 false true false false) := by
  refine returnsInHanded_of_change (C := Try.checked) tOwn started (by kernel_rfl) Try.func6
    (ChangeSpec.witness6 (enc := enc) (C := Try.checked) false ⟨#[], #[.int .u16 0, .slice none 0 0, .int .u16 0], []⟩ 8 (by kernel_rfl) (by kernel_rfl) (by kernel_rfl) (by kernel_rfl)) ?_
  intro W base args ds gs before hval0 hW hcnd _
  have hval : ∀ (j : Nat) t v, Try.f6.params[j]? = some t → args[j]? = some v → Value.okWide Try.prog W .any base t v := hval0
  have hW' := hW
  obtain ⟨p, q, hA0, hV, rfl, hfz, hnd⟩ := hW
  have hA : DataW.TrodAll enc Try.prog W 0 (fun _ => true) true Try.f6.params.toList args.toList ds p := hA0
  rw [Try.params6] at hA hval
  obtain ⟨v0, vs0, d0, ds0, p0, q0, hargs, rfl, rfl, h0, r0⟩ := trodAll_cons hA
  obtain ⟨v1, vs1, d1, ds1, p1, q1, rfl, rfl, rfl, h1, r1⟩ := trodAll_cons r0
  obtain ⟨v2, vs2, d2, ds2, p2, q2, rfl, rfl, rfl, h2, r2⟩ := trodAll_cons r1
  obtain ⟨rfl, rfl, rfl⟩ := trodAll_nil r2
  obtain rfl : args = #[v0, v1, v2] := by cases args; simp_all
  obtain ⟨s, rfl, rfl, rfl, ws⟩ := open_int Try.underlying22 (hval 0 22 v0 rfl rfl) h0
  obtain ⟨Al, cl, l, rfl, rl, ml⟩ := open_members (hval 1 36 v1 rfl rfl) h1
  obtain ⟨n, rfl, rfl, rfl, wn⟩ := open_int Try.underlying22 (hval 2 22 v2 rfl rfl) h2
  refine (hears_all s Al cl l n W (bounds_u16 ws) rl ml (bounds_u16 wn).1).mono fun e W' ⟨he, hb⟩ => ?_
  subst he
  exact ⟨_, rfl, law_post tLaid (by decide +kernel) hW' rfl (by kernel_rfl) Try.underlying4 rfl hb⟩

/-- The statement. -/
theorem memberHears_holds : Rows.MemberHearsSaid :=
  OpenClaim.holds_of_wide 6 Try.f6 rfl rfl rfl rfl rfl rfl rfl ⟨rfl, rfl, rfl, rfl, rfl⟩ rfl rfl rfl rfl rfl (by kernel_rfl) Try.func6 (by kernel_rfl)
    (of_decide_eq_true (by kernel_rfl)) (by unfold Func.isWrapper; rw [if_neg (of_decide_eq_false (by kernel_rfl))]; exact ⟨rfl, rfl⟩)
    (fun os started H enc _ => memberHears_lifted os started H enc)
#print axioms memberHears_holds

end Go.Proofs.Ytnlpgjdgiappcaa
