/- The statement HealthPlays: any suspicions, clearings and bumps lead to the ends, and the waits, that the document says. Conditions: none. -/
import Derived.Test.YtadhcnfgbiokcaaHeActs
import Derived.Test.YtadhcnfgbiokcaaHeAwake
namespace Go.Proofs.Ytadhcnfgbiokcaa
set_option linter.unusedVariables false
set_option linter.unusedSimpArgs false
open Go.ChangeShapes Go.WideShapes Go.ChangeAt Go.RowKit
theorem both_new {w : World} {g : Nat} {me mn mx cf : Int} (h1 : 0 ≤ me) (h : newErr me mn mx cf = 0) (H : IsH w g ⟨me, mn, mx, cf, 0, fun _ => none⟩) (S : Nat → Prop) (hS : ∀ b, S b → b ≠ g) : Both w g S (.agg #[.int .u16 me, .int .i64 mn, .int .i64 mx, .int .i64 cf, .int .i64 0, .slice none 0 0]) (rnew me mn mx cf) := by
  unfold newErr at h
  have a : ¬ (64 ≤ me ∨ cf < 0 ∨ 16 < cf) := fun q => by rw [if_pos q] at h; omega
  have b : ¬ (mn < 1 ∨ mx < mn ∨ 1073741824 < mx) := fun q => by rw [if_neg a, if_pos q] at h; omega
  exact ⟨H, ⟨none, 0, [], rfl, rfl, Reads.nil _ _ _ _, fun x hx => (List.not_mem_nil hx).elim⟩, rnew_ok (by omega) (by omega) (by omega), hS⟩
set_option maxRecDepth 100000 in
set_option maxHeartbeats 8000000 in
theorem healthPlays_walk (me mn mx cf : Int) (Al : Option Addr) (cl : Nat) (l : List Ac) (w : World) (hme : 0 ≤ me ∧ me ≤ 65535) (hR : ReadsA w (fun b => b < w.heap.size) Al l) (hA : ∀ a ∈ l, AcOk a) :
    Calls Try.prog 6 #[.int .u16 me, .agg #[.int .i64 mn, .int .i64 mx, .int .i64 cf], .slice Al l.length cl] w fun e w' => e = .returned (.bool true) ∧ Below w.heap.size w w' := by
  obtain ⟨me0, me1⟩ := hme
  have HRd := Lib.hid hR
  have HAc := Lib.hid hA
  clear hR hA
  have KS : Hid (∀ {W}, Below (w.alloc (.cells #[.int .i64 mn, .int .i64 mx, .int .i64 cf] 49)).heap.size (w.alloc (.cells #[.int .i64 mn, .int .i64 mx, .int .i64 cf] 49)) W → Below w.heap.size w W) := Lib.hid (fun h => ((Below.refl _ w).alloc (Nat.le_refl _) _).trans (h.mono (by simp)))
  have D0 := Lib.hid (Blk.new w 49 #[.int .i64 mn, .int .i64 mx, .int .i64 cf])
  have l30 : w.heap.size < (w.alloc (.cells #[.int .i64 mn, .int .i64 mx, .int .i64 cf] 49)).heap.size := by simp
  by_cases hne : newErr me mn mx cf = 0
  · have HNE := Lib.hid hne
    clear hne
    have bnd : 0 ≤ me ∧ me < 64 ∧ 0 ≤ cf ∧ cf ≤ 16 ∧ 1 ≤ mn ∧ mn ≤ mx ∧ mx ≤ 1073741824 := by
      have h := HNE.out
      unfold newErr at h
      have a : ¬ (64 ≤ me ∨ cf < 0 ∨ 16 < cf) := fun q => by rw [if_pos q] at h; omega
      have b : ¬ (mn < 1 ∨ mx < mn ∨ 1073741824 < mx) := fun q => by rw [if_neg a, if_pos q] at h; omega
      omega
    have HBN := Lib.hid bnd
    clear bnd
    go_enter Try.func6, Try.ntmps6
    go_wp2_with fail
    refine (new_any me mn mx cf _ ⟨HBN.out.1, HBN.out.2.1⟩ ⟨HBN.out.2.2.1, HBN.out.2.2.2.1⟩ ⟨HBN.out.2.2.2.2.1, HBN.out.2.2.2.2.2.1, HBN.out.2.2.2.2.2.2⟩).mono ?_
    rintro e w1 ⟨g, rfl, hb, hg, hH⟩
    have D1 := Lib.hid (D0.out.below hb l30)
    have K1 := Lib.hid (KS.out hb)
    have hgw : w.heap.size < g := Nat.lt_of_lt_of_le l30 hg
    have hH1 := Lib.hid hH
    have l1 : w.heap.size < w1.heap.size := Nat.lt_of_lt_of_le l30 hb.size
    have lg1 := hH.lt
    clear hb hg hH l30 D0 KS
    have q0 := D1.out.cell 0
    have q1 := D1.out.cell 1
    have q2 := D1.out.cell 2
    simp only [List.getElem?_toArray, List.getElem?_cons_zero, List.getElem?_cons_succ] at q0 q1 q2
    go_wp2_with fail
    refine (rnew_any me mn mx cf _).mono ?_
    rw [show rnewVal me mn mx cf = .tuple #[.agg #[.int .u16 me, .int .i64 mn, .int .i64 mx, .int .i64 cf, .int .i64 0, .slice none 0 0], .int .i64 0] by unfold rnewVal; rw [if_pos HNE.out, HNE.out]; rfl]
    rintro e w2 ⟨rfl, hb⟩
    have K2 := Lib.hid (below_then K1.out K1.out.size hb)
    have hH2 := Lib.hid (hH1.out.below hb hH1.out.lt)
    have l2 : w.heap.size < w2.heap.size := Nat.lt_of_lt_of_le l1 hb.size
    have lg2 := hH2.out.lt
    clear hb q0 q1 q2 K1 hH1 D1
    by_cases hlen : l.length ≤ 200
    case' neg => have hlenI : ¬ (l.length : Int) ≤ 200 := by omega
    case' pos => have hlenI : (l.length : Int) ≤ 200 := by omega
    case neg =>
      go_wp2_with fail
      refine (awake_any _).mono ?_
      rintro e w3 ⟨rfl, hb⟩
      have K3 := Lib.hid (below_then (K2.out.alloc (Nat.le_of_lt l2) (.cells #[.int .u16 me, .int .i64 mn, .int .i64 mx, .int .i64 cf, .int .i64 0, .slice none 0 0] 53)) (by simp; omega) hb)
      clear hb
      go_wp2
      go_ret
      exact ⟨rfl, K3.out⟩
    case pos =>
      have hB0 := (both_new me0 HNE.out hH2.out (fun b => b ≠ g ∧ b ≠ w2.heap.size) (fun b hb => hb.1)).below ((Below.refl _ w2).alloc (Nat.le_refl _) (.cells #[.int .u16 me, .int .i64 mn, .int .i64 mx, .int .i64 cf, .int .i64 0, .slice none 0 0] 53))
      have HB0 := Lib.hid hB0
      have BX0 := Lib.hid (Blk.new w2 53 #[.int .u16 me, .int .i64 mn, .int .i64 mx, .int .i64 cf, .int .i64 0, .slice none 0 0])
      have K3 := Lib.hid (K2.out.alloc (Nat.le_of_lt l2) (.cells #[.int .u16 me, .int .i64 mn, .int .i64 mx, .int .i64 cf, .int .i64 0, .slice none 0 0] 53))
      clear hB0
      go_wp2
      obtain ⟨b9, hb9⟩ : ∃ b, w2.heap.size = b := ⟨_, rfl⟩
      rw [hb9] at BX0 l2 lg2 HB0
      rw [hb9]
      clear hb9 hH2 K2
      generalize (w2.alloc (.cells #[.int .u16 me, .int .i64 mn, .int .i64 mx, .int .i64 cf, .int .i64 0, .slice none 0 0] 53)) = W at *
      go_loopw [11, 12] (fun o i wr => ∃ (k : Nat) (r : Rs) (A : Option Addr) (n c : Nat), k ≤ l.length ∧ i = .int .i64 k ∧ o = .bool true ∧ Blk wr b9 53 #[.int .u16 r.me, .int .i64 r.mn, .int .i64 r.mx, .int .i64 r.cf, .int .i64 r.sc, .slice A n c] ∧ Both wr g (fun b => b ≠ g ∧ b ≠ b9) (.agg #[.int .u16 r.me, .int .i64 r.mn, .int .i64 r.mx, .int .i64 r.cf, .int .i64 r.sc, .slice A n c]) r ∧ Below w.heap.size w wr) (fun _ i _ => l.length - (intOf i).toNat)
      case atStart => exact ⟨0, rnew me mn mx cf, none, 0, 0, Nat.zero_le _, rfl, rfl, BX0.out, HB0.out, K3.out⟩
      case round =>
        obtain ⟨k, r, A, n, c, hk, rfl, rfl, hbx, hbo, hbw⟩ := hrel
        have BX := Lib.hid hbx
        have BO := Lib.hid hbo
        have HBW := Lib.hid hbw
        have lb9 := hbx.lt
        have lgw := hbo.1.lt
        have lw := hbw.size
        have xf := hbx.frozen
        have x0 := hbx.cell 0
        have x1 := hbx.cell 1
        have x2 := hbx.cell 2
        have x3 := hbx.cell 3
        have x4 := hbx.cell 4
        have x5 := hbx.cell 5
        simp only [List.getElem?_toArray, List.getElem?_cons_zero, List.getElem?_cons_succ] at x0 x1 x2 x3 x4 x5
        clear hbx hbo hbw BX0 HB0 K3
        by_cases hlt : k < l.length
        · obtain ⟨a, ha⟩ : ∃ a, l[k]? = some a := ⟨l[k], List.getElem?_eq_getElem hlt⟩
          have hok := HAc.out a (List.mem_of_getElem? ha)
          have HOK := Lib.hid hok
          have hn1 := hok.n
          have hR' : ReadsA wr (fun b => b < w.heap.size) Al l := Reads.below HRd.out (by omega) HBW.out
          obtain ⟨p, o, rfl, hp, hc⟩ := hR'.at_ k a ha
          have a0 := hc 0 _ rfl
          have a1 := hc 1 _ rfl
          have a2 := hc 2 _ rfl
          have a3 := hc 3 _ rfl
          have a4 := hc 4 _ rfl
          have a5 := hc 5 _ rfl
          have a6 := hc 6 _ rfl
          simp only [Nat.add_zero] at a0
          have HC := Lib.hid hc
          have hge0 : (0 : Int) ≤ (k : Int) := by omega
          have hltI : (k : Int) < (l.length : Int) := by omega
          have hpw : p < wr.heap.size := by omega
          have hD : ∀ X, Below wr.heap.size wr X → Calls Try.prog 19 #[.pointer (some ⟨g, 0, none⟩), .agg #[.int .u16 r.me, .int .i64 r.mn, .int .i64 r.mx, .int .i64 r.cf, .int .i64 r.sc, .slice A n c], .agg #[.int .u8 a.k, .int .u16 a.n, .int .u8 a.st, .int .i64 a.i, .int .u16 a.fr, .int .i64 a.now, .int .i64 a.by_]] X fun e w' => ∃ A' n' c', e = .returned (.tuple #[.agg #[.int .u16 (rdo r a).me, .int .i64 (rdo r a).mn, .int .i64 (rdo r a).mx, .int .i64 (rdo r a).cf, .int .i64 (rdo r a).sc, .slice A' n' c'], .bool true]) ∧ wr.grownBy w' (some g) ∧ Both w' g (fun b => b ≠ g ∧ b ≠ b9) (.agg #[.int .u16 (rdo r a).me, .int .i64 (rdo r a).mn, .int .i64 (rdo r a).mx, .int .i64 (rdo r a).cf, .int .i64 (rdo r a).sc, .slice A' n' c']) (rdo r a) := fun X hX => by
            refine (do_any g _ r _ a X (BO.out.below hX) HOK.out).mono ?_
            rintro e w' ⟨v', rfl, hgr, hb⟩
            obtain ⟨A', n', c', hv⟩ := hb.form
            subst hv
            have hXs := hX.size
            exact ⟨A', n', c', rfl, World.grownBy.trans (grown_of_below hX (some g)) hgr, hb.imp (fun b hb => by rcases hb with hb | hb; exact hb; exact ⟨by omega, by omega⟩) (fun b hb => hb.1)⟩
          have HD := Lib.hid hD
          clear hR' hc ha hD hok
          generalize hrr : rdo r a = rr at *
          clear hrr
          have hb00 : Below wr.heap.size wr wr := Below.refl _ _
          go_wp2
          go_region_with (go_at_call 19; refine (HD.out _ ?_).mono ?_; (first | assumption | exact Below.drew (by assumption) | exact below_drewN (by assumption) _); rintro e w4 ⟨A', n', c', rfl, hgr, hbo4⟩; have BX4 := Lib.hid (BX.out.grown hgr (by intro e; injection e with e; omega)); have BO4 := Lib.hid hbo4; have HG4 := Lib.hid hgr; have lw4 := hgr.size; clear hgr hbo4; have y0 := BX4.out.cell 0; have y1 := BX4.out.cell 1; have y2 := BX4.out.cell 2; have y3 := BX4.out.cell 3; have y4 := BX4.out.cell 4; have y5 := BX4.out.cell 5; have yf := BX4.out.frozen; simp only [List.getElem?_toArray, List.getElem?_cons_zero, List.getElem?_cons_succ] at y0 y1 y2 y3 y4 y5)
          all_goals
            have BX5 := Lib.hid (BX4.out.six (.int .u16 rr.me) (.int .i64 rr.mn) (.int .i64 rr.mx) (.int .i64 rr.cf) (.int .i64 rr.sc) (.slice A' n' c'))
            have BO5 := Lib.hid (BO4.out.keep (below_heap_six w4 b9 g (by omega) (.int .u16 rr.me) (.int .i64 rr.mn) (.int .i64 rr.mx) (.int .i64 rr.cf) (.int .i64 rr.sc) (.slice A' n' c')) (fun b hb => below_heap_six w4 b9 b hb.2 (.int .u16 rr.me) (.int .i64 rr.mn) (.int .i64 rr.mx) (.int .i64 rr.cf) (.int .i64 rr.sc) (.slice A' n' c')))
            have HG5 := Lib.hid (grown_six (World.grownBy.trans (grown_of_below HBW.out (some g)) HG4.out) (Nat.le_of_lt l2) (.int .u16 rr.me) (.int .i64 rr.mn) (.int .i64 rr.mx) (.int .i64 rr.cf) (.int .i64 rr.sc) (.slice A' n' c'))
            have HC5 := Lib.hid (fun (j : Nat) (u : Value) (hu : (acells a)[j]? = some u) => (World.cell?_of_block (a := ⟨p, o + k * 7 + j, none⟩) ((below_heap_six w4 b9 p (by omega) (.int .u16 rr.me) (.int .i64 rr.mn) (.int .i64 rr.mx) (.int .i64 rr.cf) (.int .i64 rr.sc) (.slice A' n' c')).trans (HG4.out.block p hpw (by intro e; injection e with e; omega)))).trans (HC.out j u hu))
            have K5 := Lib.hid (below_of_grown (Nat.le_refl _) HG5.out (fun q e => by injection e with e; omega))
            have lw5 := K5.out.size
            have lp5 : p < ((((((w4.setCell ⟨b9, 0, none⟩ (.int .u16 rr.me)).setCell ⟨b9, 1, none⟩ (.int .i64 rr.mn)).setCell ⟨b9, 2, none⟩ (.int .i64 rr.mx)).setCell ⟨b9, 3, none⟩ (.int .i64 rr.cf)).setCell ⟨b9, 4, none⟩ (.int .i64 rr.sc)).setCell ⟨b9, 5, none⟩ (.slice A' n' c')).heap.size := by omega
            clear y0 y1 y2 y3 y4 y5 yf a0 a1 a2 a3 a4 a5 a6 x0 x1 x2 x3 x4 x5 xf
            go_wp2
            generalize hact : Act.put _ _ _ = act0
            simp [Act.put] at hact
            subst hact
            generalize ((((((w4.setCell ⟨b9, 0, none⟩ (.int .u16 rr.me)).setCell ⟨b9, 1, none⟩ (.int .i64 rr.mn)).setCell ⟨b9, 2, none⟩ (.int .i64 rr.mx)).setCell ⟨b9, 3, none⟩ (.int .i64 rr.cf)).setCell ⟨b9, 4, none⟩ (.int .i64 rr.sc)).setCell ⟨b9, 5, none⟩ (.slice A' n' c')) = W5 at *
            have e0 := fun y : Ext W5.heap.size W5 => (Ext.blk BX5.out BX5.out.lt (x := y)).cell 0
            have e1 := fun y : Ext W5.heap.size W5 => (Ext.blk BX5.out BX5.out.lt (x := y)).cell 1
            have e2 := fun y : Ext W5.heap.size W5 => (Ext.blk BX5.out BX5.out.lt (x := y)).cell 2
            have e3 := fun y : Ext W5.heap.size W5 => (Ext.blk BX5.out BX5.out.lt (x := y)).cell 3
            have e4 := fun y : Ext W5.heap.size W5 => (Ext.blk BX5.out BX5.out.lt (x := y)).cell 4
            have e5 := fun y : Ext W5.heap.size W5 => (Ext.blk BX5.out BX5.out.lt (x := y)).cell 5
            have f1 := fun y : Ext W5.heap.size W5 => Ext.cell (x := y) lp5 (HC5.out 1 _ rfl)
            have f5 := fun y : Ext W5.heap.size W5 => Ext.cell (x := y) lp5 (HC5.out 5 _ rfl)
            simp only [List.getElem?_toArray, List.getElem?_cons_zero, List.getElem?_cons_succ] at e0 e1 e2 e3 e4 e5
            refine wp_region_exts (by kernel_rfl) (by kernel_rfl) ?_
            repeat
              first
                | go_big_quiet_skip
                | (go_big_quiet_want; go_big_quiet_op
                   first
                     | go_big_quiet_on
                     | (apply Exists.intro
                        refine ⟨fun x => ?_, ?_⟩
                        · (go_at_call 20; exact calls_ext (Nat.le_refl _) (same_any g _ rr _ a.n a.now _ (BO5.out.below x.h) hn1))
                        go_big_quiet_on
                        try (skip)))
            refine wpQuiet_nil ?_
            rintro _ ⟨x, rfl⟩
            have BX6 := Lib.hid (BX5.out.below x.h BX5.out.lt)
            have BO6 := Lib.hid (BO5.out.below x.h)
            have K6 := Lib.hid (below_then K5.out lw5 x.h)
            clear e0 e1 e2 e3 e4 e5 f1 f5
            generalize x.W = W6 at *
            go_wp2
            go_roundw
            case rel => exact ⟨k + 1, rr, A', n', c', by omega, by go_num, rfl, BX6.out, BO6.out, K6.out⟩
            case measure => simp [intOf]; omega
        · obtain rfl : k = l.length := by omega
          go_wp2_with fail
          refine (awake_any _).mono ?_
          rintro e w3 ⟨rfl, hb⟩
          have K3 := Lib.hid (below_then HBW.out lw hb)
          clear hb
          go_wp2
          go_ret
          exact ⟨rfl, K3.out⟩
  · have hn0 : (newErr me mn mx cf == 0) = false := by simpa using hne
    obtain ⟨ne, hne2⟩ : ∃ ne, newErr me mn mx cf = ne := ⟨_, rfl⟩
    have N1 := Lib.hid (fun X => new_no me mn mx cf X hne)
    have N2 := Lib.hid (show rnewVal me mn mx cf = .tuple #[.agg #[.int .u16 0, .int .i64 0, .int .i64 0, .int .i64 0, .int .i64 0, .slice none 0 0], .int .i64 ne] by unfold rnewVal; rw [if_neg hne, hne2]; rfl)
    rw [hne2] at hne hn0 N1
    clear hne2
    go_enter Try.func6, Try.ntmps6
    go_wp2_with fail
    refine (N1.out _).mono ?_
    rintro e w1 ⟨rfl, hb⟩
    have D1 := Lib.hid (D0.out.below hb l30)
    have K1 := Lib.hid (KS.out hb)
    clear hb l30 D0 KS
    have q0 := D1.out.cell 0
    have q1 := D1.out.cell 1
    have q2 := D1.out.cell 2
    simp only [List.getElem?_toArray, List.getElem?_cons_zero, List.getElem?_cons_succ] at q0 q1 q2
    go_wp2_with fail
    refine (rnew_any me mn mx cf _).mono ?_
    rw [N2.out]
    rintro e w2 ⟨rfl, hb⟩
    have K2 := Lib.hid (below_then K1.out K1.out.size hb)
    have l2 := K2.out.size
    clear hb q0 q1 q2
    go_wp2_with fail
    refine (awake_any _).mono ?_
    rintro e w3 ⟨rfl, hb⟩
    have K3 := Lib.hid (below_then (K2.out.alloc l2 (.cells #[.int .u16 0, .int .i64 0, .int .i64 0, .int .i64 0, .int .i64 0, .slice none 0 0] 53)) (by simp; omega) hb)
    clear hb
    go_wp2
    go_ret
    exact ⟨rfl, K3.out⟩
set_option maxRecDepth 100000 in
theorem healthPlays_lifted (os : Os) (started : os.Started) (H : Type) (enc : TypeId × Value → H) :
    ReturnsInHanded {} Try.checked os 6 .any (Rows.healthPlaysSpec.pre6 enc Try.prog Try.f6 Rows.healthPlaysRow.domain false) (Rows.healthPlaysSpec.post enc Try.prog Try.f6 false true false false) := by
  refine returnsInHanded_of_change (C := Try.checked) tOwn started (by kernel_rfl) Try.func6
    (ChangeSpec.witness6 (enc := enc) (C := Try.checked) false ⟨#[], #[.int .u16 0, .agg #[.int .i64 0, .int .i64 0, .int .i64 0], .slice none 0 0], []⟩ 8 (by kernel_rfl) (by kernel_rfl) (by kernel_rfl) (by kernel_rfl)) ?_
  intro W base args ds gs before hval0 hW hcnd _
  have hval : ∀ (j : Nat) t v, Try.f6.params[j]? = some t → args[j]? = some v → Value.okWide Try.prog W .any base t v := hval0
  have hW' := hW
  obtain ⟨p, q, hA0, hV, rfl, hfz, hnd⟩ := hW
  have hA : DataW.TrodAll enc Try.prog W 0 (fun _ => true) true Try.f6.params.toList args.toList ds p := hA0
  rw [Try.params6] at hA hval
  obtain ⟨v0, vs0, d0, ds0, p0, q0, hargs, rfl, rfl, h0, r0⟩ := trodAll_cons hA
  obtain ⟨v1, vs1, d1, ds1, p1, q1, rfl, rfl, rfl, h1, r1⟩ := trodAll_cons r0
  obtain ⟨v2, vs2, d2, ds2, p2, q2, rfl, rfl, rfl, h2, r2⟩ := trodAll_cons r1
  obtain ⟨rfl, rfl, rfl⟩ := trodAll_nil r2
  obtain rfl : args = #[v0, v1, v2] := by cases args; simp_all
  obtain ⟨m, rfl, rfl, rfl, wm⟩ := open_int Try.underlying22 (hval 0 22 v0 rfl rfl) h0
  obtain ⟨q0, q1, q2, rfl⟩ := open_rule (hval 1 49 v1 rfl rfl) h1
  obtain ⟨Al, cl, l, rfl, rl, ol⟩ := open_acts (hval 2 50 v2 rfl rfl) h2
  refine (healthPlays_walk m q0 q1 q2 Al cl l W (bounds_u16 wm) rl ol).mono fun e W' ⟨he, hb⟩ => ?_
  subst he
  exact ⟨_, rfl, law_post tLaid (by decide +kernel) hW' rfl (by kernel_rfl) Try.underlying4 rfl hb⟩

/-- The statement. -/
theorem healthPlays_holds : Rows.HealthPlaysSaid :=
  OpenClaim.holds_of_wide 6 Try.f6 rfl rfl rfl rfl rfl rfl rfl ⟨rfl, rfl, rfl, rfl, rfl⟩ rfl rfl rfl rfl rfl (by kernel_rfl) Try.func6 (by kernel_rfl)
    (of_decide_eq_true (by kernel_rfl)) (by unfold Func.isWrapper; rw [if_neg (of_decide_eq_false (by kernel_rfl))]; exact ⟨rfl, rfl⟩)
    (fun os started H enc _ => healthPlays_lifted os started H enc)
#print axioms healthPlays_holds
end Go.Proofs.Ytadhcnfgbiokcaa
