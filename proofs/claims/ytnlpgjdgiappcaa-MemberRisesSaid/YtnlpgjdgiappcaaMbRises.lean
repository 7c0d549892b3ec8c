/- The statement MemberRises: what a node hears never lets a member be below what it was; nobody goes away; it is never below what may be and was heard; the node itself stays alive. Conditions: none. -/
import Derived.Test.YtnlpgjdgiappcaaMbPlaces
import Derived.Test.YtnlpgjdgiappcaaCq
namespace Go.Proofs.Ytnlpgjdgiappcaa
set_option linter.unusedVariables false
set_option linter.unusedSimpArgs false
open Go.ChangeShapes Go.WideShapes Go.ChangeAt Go.RowKit

theorem get_ex (g : Nat) (z : Int) (f : Pl.Tab) (n : Int) (w : World) (hT : IsT w g z f) (h0 : 0 ≤ n) :
    ∃ o, Calls Try.prog 20 #[.pointer (some ⟨g, 0, none⟩), .int .u16 n] w fun e w' => e = .returned (getVal o) ∧ Below w.heap.size w w' := by
  obtain ⟨k, rfl⟩ : ∃ k : Nat, n = (k : Int) := ⟨n.toNat, by omega⟩
  by_cases h : k < 64
  · exact ⟨_, get_near g z f k _ w hT h rfl⟩
  · exact ⟨_, get_far g _ w (by omega)⟩

theorem ReadsM.cells_ {w : World} {S : Nat → Prop} {p o : Nat} {l : List Pl.M} (h : ReadsM w S (some ⟨p, o, none⟩) l) {k : Nat} {m : Pl.M} (hk : l[k]? = some m) :
    S p ∧ w.cell? ⟨p, o + k * 3, none⟩ = some (.int .u16 m.n) ∧ w.cell? ⟨p, o + k * 3 + 1, none⟩ = some (.int .u8 m.s) ∧ w.cell? ⟨p, o + k * 3 + 2, none⟩ = some (.int .i64 m.i) := by
  obtain ⟨p', o', e, h0, h1, h2, h3⟩ := h.at_ k m hk
  injection e with e
  injection e with e1 e2
  subst e1 e2
  exact ⟨h0, h1, h2, h3⟩

set_option maxRecDepth 100000 in
set_option maxHeartbeats 4000000 in
theorem rises_walk (s : Int) (A : Option Addr) (c : Nat) (l : List Pl.M) (w : World) (hs : 0 ≤ s ∧ s ≤ 65535) (hl : ReadsM w (fun b => b < w.heap.size) A l) (hml : ∀ m ∈ l, Pl.MOk m) (h1 : l.length ≤ 150) :
    Calls Try.prog 7 #[.int .u16 s, .slice A l.length c] w fun e w' => e = .returned (.bool true) ∧ Below w.heap.size w w' := by
  obtain ⟨z, hz⟩ : ∃ z, s % 64 = z := ⟨_, rfl⟩
  have hz0 : 0 ≤ z := by omega
  have hz1 : z < 64 := by omega
  have g1 : ¬ (150 : Int) < l.length := by omega
  have HL := Lib.hid hl
  have HML := Lib.hid hml
  clear hl hml
  go_enter Try.func7, Try.ntmps7
  go_wp2_with fail
  refine (new_any s _ hs.1 hs.2).mono ?_
  rintro e w1 ⟨g, rfl, hb1, hg, hT1⟩
  rw [hz] at hT1
  have K1 := Lib.hid hb1
  have T1 := Lib.hid hT1
  have hgw : w.heap.size ≤ g := hg
  clear hb1 hT1 hz
  go_wp2
  go_loopw [6] (fun i wr => ∃ (k : Nat) (F : Pl.Tab), k ≤ l.length ∧ i = .int .i64 k ∧ Below w.heap.size w wr ∧ IsT wr g z F ∧ Pl.TOk z F ∧ Pl.Me z F) (fun i _ => l.length - (intOf i).toNat)
  case atStart => exact ⟨0, _, Nat.zero_le _, rfl, K1.out, T1.out, Pl.newT_ok hz0 hz1, Pl.newT_me z⟩
  case round =>
    obtain ⟨k, F, hk, rfl, hbw, hT, hF, hM⟩ := hrel
    by_cases hlt : k < l.length
    · obtain ⟨x, hx⟩ : ∃ x, l[k]? = some x := ⟨l[k], List.getElem?_eq_getElem hlt⟩
      have hxm : Pl.MOk x := HML.out x (List.mem_of_getElem? hx)
      have KW := Lib.hid hbw
      have TW := Lib.hid hT
      have HF := Lib.hid hF
      have HM := Lib.hid hM
      have HX := Lib.hid hx
      have HXM := Lib.hid hxm
      have hfl := listT_len F
      clear hbw hT hF hM hx hxm T1 K1
      go_wp2_with fail
      refine (list_any g z F _ TW.out).mono ?_
      rintro e w2 ⟨v2, rfl, ho2, hb2⟩
      obtain ⟨A2, c2, rfl, r2⟩ := Reads.of_own ho2
      have hlow := own_base ho2
      have R2 := Lib.hid ((r2.there (by omega)).imp (S' := fun b => b ≠ g ∧ b < w2.heap.size) fun b hb => ⟨by have := hlow b hb.1; have := TW.out.lt; omega, hb.2⟩ : ReadsM w2 (fun b => b ≠ g ∧ b < w2.heap.size) A2 (Pl.listT F))
      have K2 := Lib.hid (below_then KW.out KW.out.size hb2)
      have T2 := Lib.hid (TW.out.below hb2 TW.out.lt)
      have l2 := hb2.size
      clear ho2 hb2 r2 hlow KW TW
      have r0 : ReadsM w2 (fun b => b < w.heap.size) A l := HL.out.below (by omega) K2.out
      obtain ⟨p, o, rfl, hpb, d0, d1, d2⟩ := r0.at_ k x HX.out
      clear r0
      go_wp2_with fail
      refine (hear_any g z F x _ T2.out HXM.out).mono ?_
      rintro e w3 ⟨rfl, hg3, hT3⟩
      have hpg : p ≠ g := by omega
      have K3 := Lib.hid (K2.out.grown hg3 K2.out.size (fun k e => by injection e with e; omega))
      have R3 := Lib.hid ((R2.out.grown (by omega) hg3 (fun b hb e => hb.1 (by injection e))).imp (S' := fun b => b < w3.heap.size) fun b hb => Nat.lt_of_lt_of_le hb.2 hg3.size : ReadsM w3 (fun b => b < w3.heap.size) A2 (Pl.listT F))
      have T3 := Lib.hid hT3
      clear hg3 hT3 d0 d1 d2 R2 T2 K2
      have l3 := K3.out.size
      generalize heardVal (Pl.hear z F x) = hv
      go_wp2
      obtain ⟨wo, rfl⟩ : ∃ wo : World, wo = w3 := ⟨_, rfl⟩
      go_loopw [8] (fun i wr => ∃ j : Nat, j ≤ (Pl.listT F).length ∧ i = .int .i64 j ∧ Below wo.heap.size wo wr) (fun i _ => (Pl.listT F).length - (intOf i).toNat)
      case atStart => exact ⟨0, Nat.zero_le _, rfl, Below.refl _ _⟩
      case round =>
        obtain ⟨j, hj, rfl, hbi⟩ := hrel
        by_cases hlj : j < (Pl.listT F).length
        · obtain ⟨m, hm⟩ : ∃ m, (Pl.listT F)[j]? = some m := ⟨_, List.getElem?_eq_getElem hlj⟩
          have hFm := Pl.listT_mem HF.out (List.mem_of_getElem? hm)
          obtain ⟨y, hy, hyb⟩ := Pl.heard_rises (self := z) (m := x) hFm
          have hmok := listT_mok HF.out m (List.mem_of_getElem? hm)
          obtain ⟨_, hmn, _⟩ := HF.out.at_ _ _ hFm
          obtain ⟨mn, ms, mi⟩ := m
          obtain ⟨nk, rfl⟩ : ∃ nk : Nat, mn = nk := ⟨mn.toNat, by have := hmok.n0; simp only at this; omega⟩
          simp only [Int.toNat_natCast] at hy hFm
          have hnk := (HF.out.at_ _ _ hFm).1
          obtain ⟨yn, ys, yi⟩ := y
          have ri : ReadsM wr (fun b => b < wo.heap.size) A2 (Pl.listT F) := R3.out.below (by omega) hbi
          have hR3 := R3
          obtain ⟨p2, o2, rfl, hpb2, e0, e1, e2⟩ := ri.at_ j _ hm
          simp only at e0 e1 e2
          have HYB := Lib.hid hyb
          have HY := Lib.hid hy
          have KI := Lib.hid (below_then K3.out K3.out.size hbi)
          have TI := Lib.hid (T3.out.below hbi T3.out.lt)
          have BI := Lib.hid hbi
          have li := hbi.size
          have hge : (0 : Int) ≤ (j : Int) := by omega
          have hltI : (j : Int) < ((Pl.listT F).length : Int) := by omega
          have HM0 := Lib.hid hm
          clear hyb hy hm hFm hbi ri hmn hmok hR3
          go_wp2_with fail
          refine (get_near g z _ nk _ _ TI.out hnk HY.out).mono ?_
          rintro e w4 ⟨rfl, hb4⟩
          have K4 := Lib.hid (below_then BI.out BI.out.size hb4)
          have T4 := Lib.hid (TI.out.below hb4 TI.out.lt)
          have l4 := hb4.size
          clear hb4
          simp only [getVal, mcells]
          go_wp2_with fail
          have C9 := Lib.hid (Blk.new w4 25 #[.int .u16 yn, .int .u8 ys, .int .i64 yi])
          have T9 := Lib.hid (T4.out.alloc (.cells #[.int .u16 yn, .int .u8 ys, .int .i64 yi] 25))
          have K9 := Lib.hid (K4.out.alloc K4.out.size (.cells #[.int .u16 yn, .int .u8 ys, .int .i64 yi] 25))
          clear e0 e1 e2 K4 T4 TI BI
          generalize w4.alloc (.cells #[.int .u16 yn, .int .u8 ys, .int .i64 yi] 25) = W9 at *
          have rr : ReadsM W9 (fun b => b < wo.heap.size) (some ⟨p2, o2, none⟩) (Pl.listT F) := R3.out.below (by omega) K9.out
          have hq0 := fun x : Ext W9.heap.size W9 => (ReadsM.cells_ (Reads.below rr (by omega : 0 < 3) x.h) HM0.out).2.1
          have hq1 := fun x : Ext W9.heap.size W9 => (ReadsM.cells_ (Reads.below rr (by omega : 0 < 3) x.h) HM0.out).2.2.1
          have hq2 := fun x : Ext W9.heap.size W9 => (ReadsM.cells_ (Reads.below rr (by omega : 0 < 3) x.h) HM0.out).2.2.2
          have hr0 := fun x : Ext W9.heap.size W9 => (Ext.blk C9.out C9.out.lt (x := x)).cell 0
          have hr1 := fun x : Ext W9.heap.size W9 => (Ext.blk C9.out C9.out.lt (x := x)).cell 1
          have hr2 := fun x : Ext W9.heap.size W9 => (Ext.blk C9.out C9.out.lt (x := x)).cell 2
          simp only [List.getElem?_toArray, List.getElem?_cons_zero, List.getElem?_cons_succ] at hq0 hq1 hq2 hr0 hr1 hr2
          clear rr
          refine wp_region_exts (by kernel_rfl) (by kernel_rfl) ?_
          repeat
            first
              | go_big_quiet_skip
              | (go_big_quiet_want; go_big_quiet_op
                 first
                   | go_big_quiet_on
                   | (apply Exists.intro
                      refine ⟨fun x => ?_, ?_⟩
                      · ((go_at_call 21; exact calls_ext (Nat.le_refl _) (above_any ⟨(nk : Int), ms, mi⟩ ⟨yn, ys, yi⟩ _)))
                      go_big_quiet_on
                      try (simp only [mcells, HYB.out])))
          refine wpQuiet_nil ?_
          rintro _ ⟨x, rfl⟩
          have KX := Lib.hid (below_then K9.out K9.out.size x.h)
          clear hq0 hq1 hq2 hr0 hr1 hr2
          go_wp2
          go_roundw
          case rel => exact ⟨j + 1, by omega, by go_num, KX.out⟩
          case measure => simp [intOf]; omega
        · obtain rfl : j = (Pl.listT F).length := by omega
          have KI := Lib.hid (below_then K3.out K3.out.size hbi)
          have TI := Lib.hid (T3.out.below hbi T3.out.lt)
          have li := hbi.size
          have hFx := Pl.heard_ok HF.out HXM.out
          have hMx := Pl.heard_me HM.out HF.out HXM.out
          have hlst := fun h => Pl.heard_least (self := z) (f := F) (m := x) h
          have HFX := Lib.hid hFx
          have HMX := Lib.hid hMx
          obtain ⟨me, hme⟩ := hFx.me
          have hMe : (me.s != 0) = false ∨ ((me.s != 0) = true ∧ ¬ me.i < 1073741824) := by
            rcases hMx me hme with e | e
            · exact .inl (by simpa using e)
            · by_cases e2 : me.s = 0
              · exact .inl (by simpa using e2)
              · exact .inr ⟨by simpa using e2, e⟩
          have ME := Lib.hid hme
          have li := hbi.size
          have hge : (0 : Int) ≤ (k : Int) := by omega
          have hltI : (k : Int) < (l.length : Int) := by omega
          have rl : ReadsM wr (fun b => b < w.heap.size) (some ⟨p, o, none⟩) l := HL.out.below (by omega) KI.out
          obtain ⟨-, d0, d1, d2⟩ := rl.cells_ HX.out
          clear rl hbi K3 T3 hFx hMx hme
          obtain ⟨xn, xs, xi⟩ := x
          obtain ⟨nk, rfl⟩ : ∃ nk : Nat, xn = nk := ⟨xn.toNat, by have := HXM.out.n0; simp only at this; omega⟩
          simp only [Int.toNat_natCast] at d0 d1 d2 hlst
          by_cases hmay : Pl.mayM ⟨(nk : Int), xs, xi⟩ = true
          · obtain ⟨⟨yn, ys, yi⟩, hy, hyb⟩ := hlst hmay
            have hxn : nk < 64 := by have := (Pl.mayM_iff.1 hmay).1; simp only at this; omega
            have HY := Lib.hid hy
            have HYB := Lib.hid hyb
            have HMAY := Lib.hid hmay
            clear hlst hy hyb hmay
            go_wp2_with fail
            refine (get_near g z _ nk _ _ TI.out hxn HY.out).mono ?_
            -- ok
            rintro e w5 ⟨rfl, hb5⟩
            have K5 := Lib.hid (below_then KI.out KI.out.size hb5)
            have T5 := Lib.hid (TI.out.below hb5 TI.out.lt)
            have l5 := hb5.size
            clear hb5 KI TI
            simp only [getVal, mcells, mzero]
            go_wp2_with fail
            have C9 := Lib.hid (Blk.new w5 25 #[.int .u16 yn, .int .u8 ys, .int .i64 yi])
            have T9 := Lib.hid (T5.out.alloc (.cells #[.int .u16 yn, .int .u8 ys, .int .i64 yi] 25))
            have K9 := Lib.hid (K5.out.alloc K5.out.size (.cells #[.int .u16 yn, .int .u8 ys, .int .i64 yi] 25))
            clear d0 d1 d2 K5 T5
            generalize w5.alloc (.cells #[.int .u16 yn, .int .u8 ys, .int .i64 yi] 25) = W9 at *
            have rr : ReadsM W9 (fun b => b < w.heap.size) (some ⟨p, o, none⟩) l := HL.out.below (by omega) K9.out
            have hq0 := fun x : Ext W9.heap.size W9 => (ReadsM.cells_ (Reads.below rr (by omega : 0 < 3) x.h) HX.out).2.1
            have hq1 := fun x : Ext W9.heap.size W9 => (ReadsM.cells_ (Reads.below rr (by omega : 0 < 3) x.h) HX.out).2.2.1
            have hq2 := fun x : Ext W9.heap.size W9 => (ReadsM.cells_ (Reads.below rr (by omega : 0 < 3) x.h) HX.out).2.2.2
            have hr0 := fun x : Ext W9.heap.size W9 => (Ext.blk C9.out C9.out.lt (x := x)).cell 0
            have hr1 := fun x : Ext W9.heap.size W9 => (Ext.blk C9.out C9.out.lt (x := x)).cell 1
            have hr2 := fun x : Ext W9.heap.size W9 => (Ext.blk C9.out C9.out.lt (x := x)).cell 2
            simp only [List.getElem?_toArray, List.getElem?_cons_zero, List.getElem?_cons_succ] at hq0 hq1 hq2 hr0 hr1 hr2
            clear rr
            refine wp_region_exts (by kernel_rfl) (by kernel_rfl) ?_
            repeat
              first
                | go_big_quiet_skip
                | (go_big_quiet_want; go_big_quiet_op
                   first
                     | go_big_quiet_on
                     | (apply Exists.intro
                        refine ⟨fun x => ?_, ?_⟩
                        · (first | (go_at_call 15; exact calls_ext (Nat.le_refl _) (refMay_any ⟨(nk : Int), xs, xi⟩ _ HXM.out)) | (go_at_call 21; exact calls_ext (Nat.le_refl _) (above_any ⟨(nk : Int), xs, xi⟩ ⟨yn, ys, yi⟩ _)))
                        go_big_quiet_on
                        try (simp only [mcells, HMAY.out, HYB.out])))
            refine wpQuiet_nil ?_
            rintro _ ⟨x, rfl⟩
            have KX := Lib.hid (below_then K9.out K9.out.size x.h)
            have TX := Lib.hid (T9.out.below x.h T9.out.lt)
            have lx := x.h.size
            clear hq0 hq1 hq2 hr0 hr1 hr2
            go_wp2_with fail
            refine (self_any g z _ me _ TX.out hz0 hz1 ME.out).mono ?_
            rintro e w10 ⟨rfl, hb10⟩
            have K10 := Lib.hid (below_then KX.out KX.out.size hb10)
            have T10 := Lib.hid (TX.out.below hb10 TX.out.lt)
            clear hb10 KX TX
            simp only [mcells]
            rcases hMe with tm | ⟨tm, tm2⟩
            all_goals
              go_wp2
              go_roundw
              case rel => exact ⟨k + 1, _, by omega, by go_num, K10.out.alloc K10.out.size _, T10.out.alloc _, HFX.out, HMX.out⟩
              case measure => simp [intOf]; omega
          · have hmay : Pl.mayM ⟨(nk : Int), xs, xi⟩ = false := by simpa using hmay
            have HMAY := Lib.hid hmay
            obtain ⟨oo, hget⟩ := get_ex g z _ (nk : Int) _ TI.out (by omega)
            clear hlst hmay
            rcases oo with _ | ⟨yn, ys, yi⟩
            · go_wp2_with fail
              refine (hget).mono ?_
              -- ok
              rintro e w5 ⟨rfl, hb5⟩
              have K5 := Lib.hid (below_then KI.out KI.out.size hb5)
              have T5 := Lib.hid (TI.out.below hb5 TI.out.lt)
              have l5 := hb5.size
              clear hb5 KI TI
              simp only [getVal, mcells, mzero]
              go_wp2_with fail
              have C9 := Lib.hid (Blk.new w5 25 #[.int .u16 0, .int .u8 0, .int .i64 0])
              have T9 := Lib.hid (T5.out.alloc (.cells #[.int .u16 0, .int .u8 0, .int .i64 0] 25))
              have K9 := Lib.hid (K5.out.alloc K5.out.size (.cells #[.int .u16 0, .int .u8 0, .int .i64 0] 25))
              clear d0 d1 d2 K5 T5
              generalize w5.alloc (.cells #[.int .u16 0, .int .u8 0, .int .i64 0] 25) = W9 at *
              have rr : ReadsM W9 (fun b => b < w.heap.size) (some ⟨p, o, none⟩) l := HL.out.below (by omega) K9.out
              have hq0 := fun x : Ext W9.heap.size W9 => (ReadsM.cells_ (Reads.below rr (by omega : 0 < 3) x.h) HX.out).2.1
              have hq1 := fun x : Ext W9.heap.size W9 => (ReadsM.cells_ (Reads.below rr (by omega : 0 < 3) x.h) HX.out).2.2.1
              have hq2 := fun x : Ext W9.heap.size W9 => (ReadsM.cells_ (Reads.below rr (by omega : 0 < 3) x.h) HX.out).2.2.2
              have hr0 := fun x : Ext W9.heap.size W9 => (Ext.blk C9.out C9.out.lt (x := x)).cell 0
              have hr1 := fun x : Ext W9.heap.size W9 => (Ext.blk C9.out C9.out.lt (x := x)).cell 1
              have hr2 := fun x : Ext W9.heap.size W9 => (Ext.blk C9.out C9.out.lt (x := x)).cell 2
              simp only [List.getElem?_toArray, List.getElem?_cons_zero, List.getElem?_cons_succ] at hq0 hq1 hq2 hr0 hr1 hr2
              clear rr
              refine wp_region_exts (by kernel_rfl) (by kernel_rfl) ?_
              repeat
                first
                  | go_big_quiet_skip
                  | (go_big_quiet_want; go_big_quiet_op
                     first
                       | go_big_quiet_on
                       | (apply Exists.intro
                          refine ⟨fun x => ?_, ?_⟩
                          · (first | (go_at_call 15; exact calls_ext (Nat.le_refl _) (refMay_any ⟨(nk : Int), xs, xi⟩ _ HXM.out)) | (go_at_call 21; exact calls_ext (Nat.le_refl _) (above_any ⟨(nk : Int), xs, xi⟩ ⟨0, 0, 0⟩ _)))
                          go_big_quiet_on
                          try (simp only [mcells, HMAY.out])))
              refine wpQuiet_nil ?_
              rintro _ ⟨x, rfl⟩
              have KX := Lib.hid (below_then K9.out K9.out.size x.h)
              have TX := Lib.hid (T9.out.below x.h T9.out.lt)
              have lx := x.h.size
              clear hq0 hq1 hq2 hr0 hr1 hr2
              go_wp2_with fail
              refine (self_any g z _ me _ TX.out hz0 hz1 ME.out).mono ?_
              rintro e w10 ⟨rfl, hb10⟩
              have K10 := Lib.hid (below_then KX.out KX.out.size hb10)
              have T10 := Lib.hid (TX.out.below hb10 TX.out.lt)
              clear hb10 KX TX
              simp only [mcells]
              rcases hMe with tm | ⟨tm, tm2⟩
              all_goals
                go_wp2
                go_roundw
                case rel => exact ⟨k + 1, _, by omega, by go_num, K10.out.alloc K10.out.size _, T10.out.alloc _, HFX.out, HMX.out⟩
                case measure => simp [intOf]; omega
            · go_wp2_with fail
              refine (hget).mono ?_
              -- ok
              rintro e w5 ⟨rfl, hb5⟩
              have K5 := Lib.hid (below_then KI.out KI.out.size hb5)
              have T5 := Lib.hid (TI.out.below hb5 TI.out.lt)
              have l5 := hb5.size
              clear hb5 KI TI
              simp only [getVal, mcells, mzero]
              go_wp2_with fail
              have C9 := Lib.hid (Blk.new w5 25 #[.int .u16 yn, .int .u8 ys, .int .i64 yi])
              have T9 := Lib.hid (T5.out.alloc (.cells #[.int .u16 yn, .int .u8 ys, .int .i64 yi] 25))
              have K9 := Lib.hid (K5.out.alloc K5.out.size (.cells #[.int .u16 yn, .int .u8 ys, .int .i64 yi] 25))
              clear d0 d1 d2 K5 T5
              generalize w5.alloc (.cells #[.int .u16 yn, .int .u8 ys, .int .i64 yi] 25) = W9 at *
              have rr : ReadsM W9 (fun b => b < w.heap.size) (some ⟨p, o, none⟩) l := HL.out.below (by omega) K9.out
              have hq0 := fun x : Ext W9.heap.size W9 => (ReadsM.cells_ (Reads.below rr (by omega : 0 < 3) x.h) HX.out).2.1
              have hq1 := fun x : Ext W9.heap.size W9 => (ReadsM.cells_ (Reads.below rr (by omega : 0 < 3) x.h) HX.out).2.2.1
              have hq2 := fun x : Ext W9.heap.size W9 => (ReadsM.cells_ (Reads.below rr (by omega : 0 < 3) x.h) HX.out).2.2.2
              have hr0 := fun x : Ext W9.heap.size W9 => (Ext.blk C9.out C9.out.lt (x := x)).cell 0
              have hr1 := fun x : Ext W9.heap.size W9 => (Ext.blk C9.out C9.out.lt (x := x)).cell 1
              have hr2 := fun x : Ext W9.heap.size W9 => (Ext.blk C9.out C9.out.lt (x := x)).cell 2
              simp only [List.getElem?_toArray, List.getElem?_cons_zero, List.getElem?_cons_succ] at hq0 hq1 hq2 hr0 hr1 hr2
              clear rr
              refine wp_region_exts (by kernel_rfl) (by kernel_rfl) ?_
              repeat
                first
                  | go_big_quiet_skip
                  | (go_big_quiet_want; go_big_quiet_op
                     first
                       | go_big_quiet_on
                       | (apply Exists.intro
                          refine ⟨fun x => ?_, ?_⟩
                          · (first | (go_at_call 15; exact calls_ext (Nat.le_refl _) (refMay_any ⟨(nk : Int), xs, xi⟩ _ HXM.out)) | (go_at_call 21; exact calls_ext (Nat.le_refl _) (above_any ⟨(nk : Int), xs, xi⟩ ⟨yn, ys, yi⟩ _)))
                          go_big_quiet_on
                          try (simp only [mcells, HMAY.out])))
              refine wpQuiet_nil ?_
              rintro _ ⟨x, rfl⟩
              have KX := Lib.hid (below_then K9.out K9.out.size x.h)
              have TX := Lib.hid (T9.out.below x.h T9.out.lt)
              have lx := x.h.size
              clear hq0 hq1 hq2 hr0 hr1 hr2
              go_wp2_with fail
              refine (self_any g z _ me _ TX.out hz0 hz1 ME.out).mono ?_
              rintro e w10 ⟨rfl, hb10⟩
              have K10 := Lib.hid (below_then KX.out KX.out.size hb10)
              have T10 := Lib.hid (TX.out.below hb10 TX.out.lt)
              clear hb10 KX TX
              simp only [mcells]
              rcases hMe with tm | ⟨tm, tm2⟩
              all_goals
                go_wp2
                go_roundw
                case rel => exact ⟨k + 1, _, by omega, by go_num, K10.out.alloc K10.out.size _, T10.out.alloc _, HFX.out, HMX.out⟩
                case measure => simp [intOf]; omega
    · obtain rfl : k = l.length := by omega
      have KW := Lib.hid hbw
      have TW := Lib.hid hT
      clear hbw hT hF hM
      go_wp2_with fail
      refine (awake_any _).mono ?_
      rintro e w13 ⟨rfl, hb13⟩
      have K13 := Lib.hid (below_then KW.out KW.out.size hb13)
      clear hb13
      go_wp2
      go_ret
      exact ⟨rfl, K13.out⟩

set_option maxRecDepth 100000 in
set_option maxHeartbeats 1000000 in
theorem rises_long (s : Int) (A : Option Addr) (c n : Nat) (w : World) (h : 150 < n) :
    Calls Try.prog 7 #[.int .u16 s, .slice A n c] w fun e w' => e = .returned (.bool true) ∧ Below w.heap.size w w' := by
  have g1 : (150 : Int) < n := by omega
  go_enter Try.func7, Try.ntmps7
  go_wp2_with fail
  refine (awake_any _).mono ?_
  rintro e w1 ⟨rfl, hb⟩
  have HB := Lib.hid hb
  clear hb
  go_wp2
  go_ret
  exact ⟨rfl, HB.out⟩

theorem rises_all (s : Int) (A : Option Addr) (c : Nat) (l : List Pl.M) (w : World) (hs : 0 ≤ s ∧ s ≤ 65535) (hl : ReadsM w (fun b => b < w.heap.size) A l) (hml : ∀ m ∈ l, Pl.MOk m) :
    Calls Try.prog 7 #[.int .u16 s, .slice A l.length c] w fun e w' => e = .returned (.bool true) ∧ Below w.heap.size w w' := by
  by_cases h1 : l.length ≤ 150
  · exact rises_walk s A c l w hs hl hml h1
  · exact rises_long s A c _ w (by omega)

set_option maxRecDepth 100000 in
theorem memberRises_lifted (os : Os) (started : os.Started) (H : Type) (enc : TypeId × Value → H) :
    ReturnsInHanded {} Try.checked os 7 .any (Rows.memberRisesSpec.pre6 enc Try.prog Try.f7 Rows.memberRisesRow.domain false) (Rows.memberRisesSpec.post enc Try.prog Try.f7 false true false false) := by
  refine returnsInHanded_of_change (C := Try.checked) tOwn started (by kernel_rfl) Try.func7
    (ChangeSpec.witness6 (enc := enc) (C := Try.checked) false ⟨#[], #[.int .u16 0, .slice none 0 0], []⟩ 8 (by kernel_rfl) (by kernel_rfl) (by kernel_rfl) (by kernel_rfl)) ?_
  intro W base args ds gs before hval0 hW hcnd _
  have hval : ∀ (j : Nat) t v, Try.f7.params[j]? = some t → args[j]? = some v → Value.okWide Try.prog W .any base t v := hval0
  have hW' := hW
  obtain ⟨p, q, hA0, hV, rfl, hfz, hnd⟩ := hW
  have hA : DataW.TrodAll enc Try.prog W 0 (fun _ => true) true Try.f7.params.toList args.toList ds p := hA0
  rw [Try.params7] at hA hval
  obtain ⟨v0, vs0, d0, ds0, p0, q0, hargs, rfl, rfl, h0, r0⟩ := trodAll_cons hA
  obtain ⟨v1, vs1, d1, ds1, p1, q1, rfl, rfl, rfl, h1, r1⟩ := trodAll_cons r0
  obtain ⟨rfl, rfl, rfl⟩ := trodAll_nil r1
  obtain rfl : args = #[v0, v1] := by cases args; simp_all
  obtain ⟨s, rfl, rfl, rfl, ws⟩ := open_int Try.underlying22 (hval 0 22 v0 rfl rfl) h0
  obtain ⟨Al, cl, l, rfl, rl, ml⟩ := open_members (hval 1 36 v1 rfl rfl) h1
  refine (rises_all s Al cl l W (bounds_u16 ws) rl ml).mono fun e W' ⟨he, hb⟩ => ?_
  subst he
  exact ⟨_, rfl, law_post tLaid (by decide +kernel) hW' rfl (by kernel_rfl) Try.underlying4 rfl hb⟩

/-- The statement. -/
theorem memberRises_holds : Rows.MemberRisesSaid :=
  OpenClaim.holds_of_wide 7 Try.f7 rfl rfl rfl rfl rfl rfl rfl ⟨rfl, rfl, rfl, rfl, rfl⟩ rfl rfl rfl rfl rfl (by kernel_rfl) Try.func7 (by kernel_rfl)
    (of_decide_eq_true (by kernel_rfl)) (by unfold Func.isWrapper; rw [if_neg (of_decide_eq_false (by kernel_rfl))]; exact ⟨rfl, rfl⟩)
    (fun os started H enc _ => memberRises_lifted os started H enc)
#print axioms memberRises_holds

end Go.Proofs.Ytnlpgjdgiappcaa
