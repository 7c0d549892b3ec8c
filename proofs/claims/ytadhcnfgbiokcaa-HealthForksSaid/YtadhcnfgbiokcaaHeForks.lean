/- The statement HealthForks: a fork is as the health is, and goes its own way; one that is not there suspects nobody. Conditions: none. -/
import Derived.Test.YtadhcnfgbiokcaaHePlays
import Derived.Test.YtadhcnfgbiokcaaHeNil
namespace Go.Proofs.Ytadhcnfgbiokcaa
set_option linter.unusedVariables false
set_option linter.unusedSimpArgs false
open Go.ChangeShapes Go.WideShapes Go.ChangeAt Go.RowKit
theorem Both.grown {w w' : World} {g q : Nat} {S : Nat → Prop} {v : Value} {r : Rs} (h : Both w g S v r) (hg : w.grownBy w' (some q)) (hne : g ≠ q) (hS : ∀ b, S b → b ≠ q) : Both w' g S v r :=
  ⟨h.1.grown hg (by intro e; injection e with e; exact hne e), h.2.1.grown hg (fun b hb e => by injection e with e; exact hS b hb e), h.2.2.1, h.2.2.2⟩
theorem Both.there {w : World} {g : Nat} {S : Nat → Prop} {v : Value} {r : Rs} (h : Both w g S v r) : Both w g (fun b => S b ∧ b < w.heap.size) v r :=
  ⟨h.1, h.2.1.there, h.2.2.1, fun b hb => h.2.2.2 b hb.1⟩
set_option maxRecDepth 100000 in
set_option maxHeartbeats 20000000 in
theorem healthForks_walk (mn mx cf : Int) (Al Am : Option Addr) (cl cm : Nat) (l m : List Ac) (w : World) (hR : ReadsA w (fun b => b < w.heap.size) Al l) (hA : ∀ a ∈ l, AcOk a) (hRm : ReadsA w (fun b => b < w.heap.size) Am m) (hAm : ∀ a ∈ m, AcOk a) :
    Calls Try.prog 7 #[.agg #[.int .i64 mn, .int .i64 mx, .int .i64 cf], .slice Al l.length cl, .slice Am m.length cm] w fun e w' => e = .returned (.bool true) ∧ Below w.heap.size w w' := by
  have HRd := Lib.hid hR
  have HAc := Lib.hid hA
  have HRm := Lib.hid hRm
  have HAm := Lib.hid hAm
  clear hR hA hRm hAm
  have KS : Hid (∀ {W}, Below (w.alloc (.cells #[.int .i64 mn, .int .i64 mx, .int .i64 cf] 49)).heap.size (w.alloc (.cells #[.int .i64 mn, .int .i64 mx, .int .i64 cf] 49)) W → Below w.heap.size w W) := Lib.hid (fun h => ((Below.refl _ w).alloc (Nat.le_refl _) _).trans (h.mono (by simp)))
  have D0 := Lib.hid (Blk.new w 49 #[.int .i64 mn, .int .i64 mx, .int .i64 cf])
  have l30 : w.heap.size < (w.alloc (.cells #[.int .i64 mn, .int .i64 mx, .int .i64 cf] 49)).heap.size := by simp
  by_cases hne : newErr 3 mn mx cf = 0
  · have HNE := Lib.hid hne
    clear hne
    have bnd : 0 ≤ cf ∧ cf ≤ 16 ∧ 1 ≤ mn ∧ mn ≤ mx ∧ mx ≤ 1073741824 := by
      have h := HNE.out
      unfold newErr at h
      have a : ¬ (64 ≤ (3 : Int) ∨ cf < 0 ∨ 16 < cf) := fun q => by rw [if_pos q] at h; omega
      have b : ¬ (mn < 1 ∨ mx < mn ∨ 1073741824 < mx) := fun q => by rw [if_neg a, if_pos q] at h; omega
      omega
    have HBN := Lib.hid bnd
    clear bnd
    go_enter Try.func7, Try.ntmps7
    go_wp2_with fail
    refine (new_any 3 mn mx cf _ (by omega) ⟨HBN.out.1, HBN.out.2.1⟩ ⟨HBN.out.2.2.1, HBN.out.2.2.2.1, HBN.out.2.2.2.2⟩).mono ?_
    rintro e w1 ⟨g, rfl, hb, hg, hH⟩
    have D1 := Lib.hid (D0.out.below hb l30)
    have K1 := Lib.hid (KS.out hb)
    have hgw : w.heap.size < g := Nat.lt_of_lt_of_le l30 hg
    have hH1 := Lib.hid hH
    have l1 : w.heap.size < w1.heap.size := Nat.lt_of_lt_of_le l30 hb.size
    have lg1 := hH.lt
    clear hb hg hH l30 D0 KS
    have q0 := D1.out.cell 0
    have q1 := D1.out.cell 1
    have q2 := D1.out.cell 2
    simp only [List.getElem?_toArray, List.getElem?_cons_zero, List.getElem?_cons_succ] at  q0 q1 q2
    go_wp2_with fail
    refine (rnew_any 3 mn mx cf _).mono ?_
    rw [show rnewVal 3 mn mx cf = .tuple #[.agg #[.int .u16 3, .int .i64 mn, .int .i64 mx, .int .i64 cf, .int .i64 0, .slice none 0 0], .int .i64 0] by unfold rnewVal; rw [if_pos HNE.out, HNE.out]; rfl]
    rintro e w2 ⟨rfl, hb⟩
    have K2 := Lib.hid (below_then K1.out K1.out.size hb)
    have hH2 := Lib.hid (hH1.out.below hb hH1.out.lt)
    have l2 : w.heap.size < w2.heap.size := Nat.lt_of_lt_of_le l1 hb.size
    have lg2 := hH2.out.lt
    clear hb q0 q1 q2 K1 hH1 D1
    by_cases hlen : l.length ≤ 100 ∧ m.length ≤ 100
    case neg =>
      have hh : ¬ l.length ≤ 100 ∨ (l.length ≤ 100 ∧ ¬ m.length ≤ 100) := by omega
      clear hlen
      rcases hh with h1 | ⟨h1, h2⟩
      case' inl => have h1I : ¬ (l.length : Int) ≤ 100 := by omega
      case' inr => have h1I : (l.length : Int) ≤ 100 := by omega
      case' inr => have h2I : ¬ (m.length : Int) ≤ 100 := by omega
      all_goals
        go_wp2_with fail
        refine (awake_any _).mono ?_
        rintro e w3 ⟨rfl, hb⟩
        have K3 := Lib.hid (below_then (K2.out.alloc (Nat.le_of_lt l2) (.cells #[.int .u16 3, .int .i64 mn, .int .i64 mx, .int .i64 cf, .int .i64 0, .slice none 0 0] 53)) (by simp; omega) hb)
        clear hb
        go_wp2
        go_ret
        exact ⟨rfl, K3.out⟩
    case pos =>
      obtain ⟨hl1, hl2⟩ := hlen
      have hl1I : (l.length : Int) ≤ 100 := by omega
      have hl2I : (m.length : Int) ≤ 100 := by omega
      have hB0 := (both_new (by omega) HNE.out hH2.out (fun b => b ≠ g ∧ b ≠ w2.heap.size) (fun b hb => hb.1)).below ((Below.refl _ w2).alloc (Nat.le_refl _) (.cells #[.int .u16 3, .int .i64 mn, .int .i64 mx, .int .i64 cf, .int .i64 0, .slice none 0 0] 53))
      have HB0 := Lib.hid hB0
      have BX0 := Lib.hid (Blk.new w2 53 #[.int .u16 3, .int .i64 mn, .int .i64 mx, .int .i64 cf, .int .i64 0, .slice none 0 0])
      have K3 := Lib.hid (K2.out.alloc (Nat.le_of_lt l2) (.cells #[.int .u16 3, .int .i64 mn, .int .i64 mx, .int .i64 cf, .int .i64 0, .slice none 0 0] 53))
      clear hB0
      go_wp2
      obtain ⟨b9, hb9⟩ : ∃ b, w2.heap.size = b := ⟨_, rfl⟩
      rw [hb9] at BX0 l2 lg2 HB0
      rw [hb9]
      clear hb9 hH2 K2
      generalize (w2.alloc (.cells #[.int .u16 3, .int .i64 mn, .int .i64 mx, .int .i64 cf, .int .i64 0, .slice none 0 0] 53)) = W at *
      go_loopw [11] (fun i wr => ∃ (k : Nat) (r : Rs) (A : Option Addr) (n c : Nat), k ≤ l.length ∧ i = .int .i64 k ∧ Blk wr b9 53 #[.int .u16 r.me, .int .i64 r.mn, .int .i64 r.mx, .int .i64 r.cf, .int .i64 r.sc, .slice A n c] ∧ Both wr g (fun b => b ≠ g ∧ b ≠ b9) (.agg #[.int .u16 r.me, .int .i64 r.mn, .int .i64 r.mx, .int .i64 r.cf, .int .i64 r.sc, .slice A n c]) r ∧ Below w.heap.size w wr) (fun i _ => l.length - (intOf i).toNat)
      case atStart => exact ⟨0, rnew 3 mn mx cf, none, 0, 0, Nat.zero_le _, rfl, BX0.out, HB0.out, K3.out⟩
      case round =>
        obtain ⟨k, r, A, n, c, hk, rfl, hbx, hbo, hbw⟩ := hrel
        have BX := Lib.hid hbx
        have BO := Lib.hid hbo
        have HBW := Lib.hid hbw
        have lb9 := hbx.lt
        have lgw := hbo.1.lt
        have lw := hbw.size
        have xf := hbx.frozen
        have x0 := hbx.cell 0
        have x1 := hbx.cell 1
        have x2 := hbx.cell 2
        have x3 := hbx.cell 3
        have x4 := hbx.cell 4
        have x5 := hbx.cell 5
        simp only [List.getElem?_toArray, List.getElem?_cons_zero, List.getElem?_cons_succ] at  x0 x1 x2 x3 x4 x5
        clear hbx hbo hbw BX0 HB0 K3
        by_cases hlt : k < l.length
        · obtain ⟨a, ha⟩ : ∃ a, l[k]? = some a := ⟨l[k], List.getElem?_eq_getElem hlt⟩
          have hok := HAc.out a (List.mem_of_getElem? ha)
          have HOK := Lib.hid hok
          have hR' : ReadsA wr (fun b => b < w.heap.size) Al l := Reads.below HRd.out (by omega) HBW.out
          obtain ⟨p, o, rfl, hp, hc⟩ := hR'.at_ k a ha
          have a0 := hc 0 _ rfl
          have a1 := hc 1 _ rfl
          have a2 := hc 2 _ rfl
          have a3 := hc 3 _ rfl
          have a4 := hc 4 _ rfl
          have a5 := hc 5 _ rfl
          have a6 := hc 6 _ rfl
          simp only [Nat.add_zero] at a0
          have hge0 : (0 : Int) ≤ (k : Int) := by omega
          have hltI : (k : Int) < (l.length : Int) := by omega
          have hpw : p < wr.heap.size := by omega
          have hD : ∀ X, Below wr.heap.size wr X → Calls Try.prog 19 #[.pointer (some ⟨g, 0, none⟩), .agg #[.int .u16 r.me, .int .i64 r.mn, .int .i64 r.mx, .int .i64 r.cf, .int .i64 r.sc, .slice A n c], .agg #[.int .u8 a.k, .int .u16 a.n, .int .u8 a.st, .int .i64 a.i, .int .u16 a.fr, .int .i64 a.now, .int .i64 a.by_]] X fun e w' => ∃ A' n' c', e = .returned (.tuple #[.agg #[.int .u16 (rdo r a).me, .int .i64 (rdo r a).mn, .int .i64 (rdo r a).mx, .int .i64 (rdo r a).cf, .int .i64 (rdo r a).sc, .slice A' n' c'], .bool true]) ∧ wr.grownBy w' (some g) ∧ Both w' g (fun b => b ≠ g ∧ b ≠ b9) (.agg #[.int .u16 (rdo r a).me, .int .i64 (rdo r a).mn, .int .i64 (rdo r a).mx, .int .i64 (rdo r a).cf, .int .i64 (rdo r a).sc, .slice A' n' c']) (rdo r a) := fun X hX => by
            refine (do_any g _ r _ a X (BO.out.below hX) HOK.out).mono ?_
            rintro e w' ⟨v', rfl, hgr, hb⟩
            obtain ⟨A', n', c', hv⟩ := hb.form
            subst hv
            have hXs := hX.size
            exact ⟨A', n', c', rfl, World.grownBy.trans (grown_of_below hX (some g)) hgr, hb.imp (fun b hb => by rcases hb with hb | hb; exact hb; exact ⟨by omega, by omega⟩) (fun b hb => hb.1)⟩
          have HD := Lib.hid hD
          clear hR' hc ha hD hok
          generalize hrr : rdo r a = rr at *
          clear hrr
          have hb00 : Below wr.heap.size wr wr := Below.refl _ _
          go_wp2
          go_region_with (go_at_call 19; refine (HD.out _ ?_).mono ?_; (first | assumption | exact Below.drew (by assumption) | exact below_drewN (by assumption) _); rintro e w4 ⟨A', n', c', rfl, hgr, hbo4⟩; have BX4 := Lib.hid (BX.out.grown hgr (by intro e; injection e with e; omega)); have BO4 := Lib.hid hbo4; have HG4 := Lib.hid hgr; have lw4 := hgr.size; clear hgr hbo4; have y0 := BX4.out.cell 0; have y1 := BX4.out.cell 1; have y2 := BX4.out.cell 2; have y3 := BX4.out.cell 3; have y4 := BX4.out.cell 4; have y5 := BX4.out.cell 5; have yf := BX4.out.frozen; simp only [List.getElem?_toArray, List.getElem?_cons_zero, List.getElem?_cons_succ] at  y0 y1 y2 y3 y4 y5)
          all_goals
            have BX5 := Lib.hid (BX4.out.six (.int .u16 rr.me) (.int .i64 rr.mn) (.int .i64 rr.mx) (.int .i64 rr.cf) (.int .i64 rr.sc) (.slice A' n' c'))
            have BO5 := Lib.hid (BO4.out.keep (below_heap_six w4 b9 g (by omega) (.int .u16 rr.me) (.int .i64 rr.mn) (.int .i64 rr.mx) (.int .i64 rr.cf) (.int .i64 rr.sc) (.slice A' n' c')) (fun b hb => below_heap_six w4 b9 b hb.2 (.int .u16 rr.me) (.int .i64 rr.mn) (.int .i64 rr.mx) (.int .i64 rr.cf) (.int .i64 rr.sc) (.slice A' n' c')))
            have HG5 := Lib.hid (grown_six (World.grownBy.trans (grown_of_below HBW.out (some g)) HG4.out) (Nat.le_of_lt l2) (.int .u16 rr.me) (.int .i64 rr.mn) (.int .i64 rr.mx) (.int .i64 rr.cf) (.int .i64 rr.sc) (.slice A' n' c'))
            have K5 := Lib.hid (below_of_grown (Nat.le_refl _) HG5.out (fun q e => by injection e with e; omega))
            go_wp2
            go_roundw
            case rel => exact ⟨k + 1, rr, A', n', c', by omega, by go_num, BX5.out, BO5.out, K5.out⟩
            case measure => simp [intOf]; omega
        · obtain rfl : k = l.length := by omega
          have hF : ∀ X, SB wr.heap.size wr X → Calls Try.prog 21 #[.pointer (some ⟨g, 0, none⟩)] X fun e w' => ∃ g2, e = .returned (.pointer (some ⟨g2, 0, none⟩)) ∧ Below X.heap.size X w' ∧ X.heap.size ≤ g2 ∧ IsH w' g2 (ofR r) := fun X hX => fork_any g (ofR r) X (BO.out.1.below hX.2.2 BO.out.1.lt)
          have HF := Lib.hid hF
          have HSW := Lib.hid (keepB (Below.refl wr.heap.size wr))
          clear hF
          go_upto_region 9 with fail
          go_cut [12, 13] from 60 to 62 (fun s12 s13 wx => ∃ g2 b13, s12 = .pointer (some ⟨g2, 0, none⟩) ∧ s13 = .pointer (some ⟨b13, 0, none⟩) ∧ wr.heap.size ≤ g2 ∧ wr.heap.size ≤ b13 ∧ g2 ≠ b13 ∧ Go.RowKit.Hid (Blk wx b13 53 #[.int .u16 r.me, .int .i64 r.mn, .int .i64 r.mx, .int .i64 r.cf, .int .i64 r.sc, .slice A n c]) ∧ Go.RowKit.Hid (IsH wx g2 (ofR r)) ∧ Go.RowKit.Hid (Below wr.heap.size wr wx))
          case first =>
            go_region_held3 (fun X => SB wr.heap.size wr X) (((repeat (with_reducible first | assumption | exact HSW.out | refine sb_drew ?_ | refine sb_alloc ?_ (Nat.le_refl _) _ | refine sb_set ?_ ?_ _)); all_goals first | done | (simp; done) | (simp; omega)))
              (first
                | (go_at_call 21; refine (HF.out _ (by assumption)).mono ?_; rintro e w4 ⟨g2, rfl, hbx, hg2, hH2⟩; have S4 : SB wr.heap.size wr w4 := sb_then (by assumption) hbx; have G2 := Lib.hid hH2; have L4 := hbx.size; have LG := hH2.lt
                   first
                     | (obtain ⟨K0, k0, k1⟩ := kept1 hbx; have z0 := K0.cell 0; have z1 := K0.cell 1; have z2 := K0.cell 2; have z3 := K0.cell 3; have z4 := K0.cell 4; have z5 := K0.cell 5; have zf := K0.frozen; have BK0 := Lib.hid K0; clear K0; simp only [List.getElem?_toArray, List.getElem?_cons_zero, List.getElem?_cons_succ] at z0 z1 z2 z3 z4 z5)
                     | skip
                   clear hbx hH2))
            all_goals
              go_wp2
              go_meet
              case rel =>
                try simp only [drew_size] at hg2 L4
                try simp at hg2
                try simp at L4
                refine ⟨_, _, rfl, rfl, ?_, ?_, ?_, Lib.hid ?_, Lib.hid ?_, Lib.hid (by assumption : SB wr.heap.size wr _).2.2⟩
                · omega
                · omega
                · omega
                · repeat (with_reducible first | exact BK0.out | apply Blk.six | refine Blk.drew ?_ | refine Blk.new_at ?_ | refine Blk.alloc ?_ _)
                  all_goals first | done | (simp; done) | (simp; omega)
                · unfold IsH
                  repeat (with_reducible first | refine Blk.drew ?_ | refine Blk.alloc ?_ _ | refine Blk.far6 ?_ ?_ _ _ _ _ _ _)
                  all_goals first | exact G2.out | (simp; omega) | omega
          case rest =>
            obtain ⟨g2, b13, rfl, rfl, hg2, hb13, hne2, D13, DH, DK⟩ := hcut
            have BOa := Lib.hid ((BO.out.there).below DK.out)
            have BOb := Lib.hid (show Both wc g2 (fun b => b ≠ g2 ∧ b ≠ b13) (.agg #[.int .u16 r.me, .int .i64 r.mn, .int .i64 r.mx, .int .i64 r.cf, .int .i64 r.sc, .slice A n c]) r from ⟨DH.out, (BOa.out.2.1).imp (fun b hb => ⟨by have := hb.2; omega, by have := hb.2; omega⟩), BOa.out.2.2.1, fun b hb => hb.1⟩)
            have BXa := Lib.hid (BX.out.below DK.out lb9)
            have KC := Lib.hid (below_then HBW.out lw DK.out)
            have hg2w : w.heap.size ≤ g2 := by omega
            have hgg2 : g ≠ g2 := by omega
            have hb9g2 : b9 ≠ g2 := by omega
            have hb9b13 : b9 ≠ b13 := by omega
            have hgb13 : g ≠ b13 := by omega
            have hb13w : w.heap.size ≤ b13 := by omega
            clear x0 x1 x2 x3 x4 x5 xf
            go_wp2
            go_loopw [15] (fun i wq => ∃ (k : Nat) (r2 : Rs) (A2 : Option Addr) (n2 c2 : Nat), k ≤ m.length ∧ i = .int .i64 k ∧ Blk wq b13 53 #[.int .u16 r2.me, .int .i64 r2.mn, .int .i64 r2.mx, .int .i64 r2.cf, .int .i64 r2.sc, .slice A2 n2 c2] ∧ Both wq g2 (fun b => b ≠ g2 ∧ b ≠ b13) (.agg #[.int .u16 r2.me, .int .i64 r2.mn, .int .i64 r2.mx, .int .i64 r2.cf, .int .i64 r2.sc, .slice A2 n2 c2]) r2 ∧ Blk wq b9 53 #[.int .u16 r.me, .int .i64 r.mn, .int .i64 r.mx, .int .i64 r.cf, .int .i64 r.sc, .slice A n c] ∧ Both wq g (fun b => (b ≠ g ∧ b ≠ b9) ∧ b < wr.heap.size) (.agg #[.int .u16 r.me, .int .i64 r.mn, .int .i64 r.mx, .int .i64 r.cf, .int .i64 r.sc, .slice A n c]) r ∧ Below w.heap.size w wq) (fun i _ => m.length - (intOf i).toNat)
            case atStart => exact ⟨0, r, A, n, c, Nat.zero_le _, rfl, D13.out, BOb.out, BXa.out, BOa.out, KC.out⟩
            case round =>
              obtain ⟨k, r2, A2, n2, c2, hk2, rfl, hbx, hbo, hbx9, hbo9, hbw⟩ := hrel
              have PX := Lib.hid hbx
              have PO := Lib.hid hbo
              have QX := Lib.hid hbx9
              have QO := Lib.hid hbo9
              have HBQ := Lib.hid hbw
              have lb13 := hbx.lt
              have lgq := hbo.1.lt
              have lb9q := hbx9.lt
              have lgq9 := hbo9.1.lt
              have lwr := hbw.size
              have xf := hbx.frozen
              have x0 := hbx.cell 0
              have x1 := hbx.cell 1
              have x2 := hbx.cell 2
              have x3 := hbx.cell 3
              have x4 := hbx.cell 4
              have x5 := hbx.cell 5
              simp only [List.getElem?_toArray, List.getElem?_cons_zero, List.getElem?_cons_succ] at  x0 x1 x2 x3 x4 x5
              clear hbx hbo hbx9 hbo9 hbw
              by_cases hlt2 : k < m.length
              · obtain ⟨a, ha⟩ : ∃ a, m[k]? = some a := ⟨m[k], List.getElem?_eq_getElem hlt2⟩
                have hok := HAm.out a (List.mem_of_getElem? ha)
                have HOK := Lib.hid hok
                have hR' : ReadsA wr (fun b => b < w.heap.size) Am m := Reads.below HRm.out (by omega) HBQ.out
                obtain ⟨p, o, rfl, hp, hc⟩ := hR'.at_ k a ha
                have a0 := hc 0 _ rfl
                have a1 := hc 1 _ rfl
                have a2 := hc 2 _ rfl
                have a3 := hc 3 _ rfl
                have a4 := hc 4 _ rfl
                have a5 := hc 5 _ rfl
                have a6 := hc 6 _ rfl
                simp only [Nat.add_zero] at a0
                have hge0 : (0 : Int) ≤ (k : Int) := by omega
                have hltI : (k : Int) < (m.length : Int) := by omega
                have hpw : p < wr.heap.size := by omega
                have hD : ∀ X, Below wr.heap.size wr X → Calls Try.prog 19 #[.pointer (some ⟨g2, 0, none⟩), .agg #[.int .u16 r2.me, .int .i64 r2.mn, .int .i64 r2.mx, .int .i64 r2.cf, .int .i64 r2.sc, .slice A2 n2 c2], .agg #[.int .u8 a.k, .int .u16 a.n, .int .u8 a.st, .int .i64 a.i, .int .u16 a.fr, .int .i64 a.now, .int .i64 a.by_]] X fun e w' => ∃ A' n' c', e = .returned (.tuple #[.agg #[.int .u16 (rdo r2 a).me, .int .i64 (rdo r2 a).mn, .int .i64 (rdo r2 a).mx, .int .i64 (rdo r2 a).cf, .int .i64 (rdo r2 a).sc, .slice A' n' c'], .bool true]) ∧ wr.grownBy w' (some g2) ∧ Both w' g2 (fun b => b ≠ g2 ∧ b ≠ b13) (.agg #[.int .u16 (rdo r2 a).me, .int .i64 (rdo r2 a).mn, .int .i64 (rdo r2 a).mx, .int .i64 (rdo r2 a).cf, .int .i64 (rdo r2 a).sc, .slice A' n' c']) (rdo r2 a) := fun X hX => by
                  refine (do_any g2 _ r2 _ a X (PO.out.below hX) HOK.out).mono ?_
                  rintro e w' ⟨v', rfl, hgr, hb⟩
                  obtain ⟨A', n', c', hv⟩ := hb.form
                  subst hv
                  have hXs := hX.size
                  exact ⟨A', n', c', rfl, World.grownBy.trans (grown_of_below hX (some g2)) hgr, hb.imp (fun b hb => by rcases hb with hb | hb; exact hb; exact ⟨by omega, by omega⟩) (fun b hb => hb.1)⟩
                have HD := Lib.hid hD
                clear hR' hc ha hD hok
                generalize hrr : rdo r2 a = rr at *
                clear hrr
                have hb00 : Below wr.heap.size wr wr := Below.refl _ _
                go_wp2
                go_region_with (go_at_call 19; refine (HD.out _ ?_).mono ?_; (first | assumption | exact Below.drew (by assumption) | exact below_drewN (by assumption) _); rintro e w4 ⟨A', n', c', rfl, hgr, hbo4⟩; have BX4 := Lib.hid (PX.out.grown hgr (by intro e; injection e with e; omega)); have BO4 := Lib.hid hbo4; have HG4 := Lib.hid hgr; have lw4 := hgr.size; clear hgr hbo4; have y0 := BX4.out.cell 0; have y1 := BX4.out.cell 1; have y2 := BX4.out.cell 2; have y3 := BX4.out.cell 3; have y4 := BX4.out.cell 4; have y5 := BX4.out.cell 5; have yf := BX4.out.frozen; simp only [List.getElem?_toArray, List.getElem?_cons_zero, List.getElem?_cons_succ] at  y0 y1 y2 y3 y4 y5)
                all_goals
                  have BX5 := Lib.hid (BX4.out.six (.int .u16 rr.me) (.int .i64 rr.mn) (.int .i64 rr.mx) (.int .i64 rr.cf) (.int .i64 rr.sc) (.slice A' n' c'))
                  have BO5 := Lib.hid (BO4.out.keep (below_heap_six w4 b13 g2 hne2 (.int .u16 rr.me) (.int .i64 rr.mn) (.int .i64 rr.mx) (.int .i64 rr.cf) (.int .i64 rr.sc) (.slice A' n' c')) (fun b hb => below_heap_six w4 b13 b hb.2 (.int .u16 rr.me) (.int .i64 rr.mn) (.int .i64 rr.mx) (.int .i64 rr.cf) (.int .i64 rr.sc) (.slice A' n' c')))
                  have HG5 := Lib.hid (grown_six (World.grownBy.trans (grown_of_below HBQ.out (some g2)) HG4.out) hb13w (.int .u16 rr.me) (.int .i64 rr.mn) (.int .i64 rr.mx) (.int .i64 rr.cf) (.int .i64 rr.sc) (.slice A' n' c'))
                  have K5 := Lib.hid (below_of_grown (Nat.le_refl _) HG5.out (fun q e => by injection e with e; omega))
                  have QX5 := Lib.hid (Blk.far6 (QX.out.grown HG4.out (by intro e; injection e with e; omega)) hb9b13 (.int .u16 rr.me) (.int .i64 rr.mn) (.int .i64 rr.mx) (.int .i64 rr.cf) (.int .i64 rr.sc) (.slice A' n' c'))
                  have QO5 := Lib.hid ((QO.out.grown HG4.out hgg2 (fun b hb => by have := hb.2; omega)).keep (below_heap_six w4 b13 g hgb13 (.int .u16 rr.me) (.int .i64 rr.mn) (.int .i64 rr.mx) (.int .i64 rr.cf) (.int .i64 rr.sc) (.slice A' n' c')) (fun b hb => below_heap_six w4 b13 b (by have := hb.2; omega) (.int .u16 rr.me) (.int .i64 rr.mn) (.int .i64 rr.mx) (.int .i64 rr.cf) (.int .i64 rr.sc) (.slice A' n' c')))
                  go_wp2
                  go_roundw
                  case rel => exact ⟨k + 1, rr, A', n', c', by omega, by go_num, BX5.out, BO5.out, QX5.out, QO5.out, K5.out⟩
                  case measure => simp [intOf]; omega
              · obtain rfl : k = m.length := by omega
                have hK0 : Below wr.heap.size wr wr := Below.refl _ _
                have N0 := Lib.hid hK0
                clear hK0 x0 x1 x2 x3 x4 x5 xf
                go_wp2_with fail
                refine (nil_ends _ 1).mono ?_
                rintro e v1 ⟨rfl, hb⟩
                have N1 := Lib.hid (below_then N0.out N0.out.size hb)
                clear hb N0
                go_wp2_with fail
                refine (suspect_any 1 0 _).mono ?_
                rintro e v2 ⟨rfl, hb⟩
                have N2 := Lib.hid (below_then N1.out N1.out.size hb)
                clear hb N1
                go_wp2_with fail
                refine (nil_sus _ 1 0 2 0).mono ?_
                rintro e v3 ⟨rfl, hb⟩
                have N3 := Lib.hid (below_then N2.out N2.out.size hb)
                clear hb N2
                go_wp2_with fail
                refine (suspect_any 1 0 _).mono ?_
                rintro e v4 ⟨rfl, hb⟩
                have N4 := Lib.hid (below_then N3.out N3.out.size hb)
                clear hb N3
                go_wp2_with fail
                refine (nil_clear _ 1 0).mono ?_
                rintro e v5 ⟨rfl, hb⟩
                have N5 := Lib.hid (below_then N4.out N4.out.size hb)
                clear hb N4
                go_wp2_with fail
                refine (nil_bump _ 1).mono ?_
                rintro e v6 ⟨rfl, hb⟩
                have N6 := Lib.hid (below_then N5.out N5.out.size hb)
                clear hb N5
                go_wp2_with fail
                refine (nil_score _).mono ?_
                rintro e v7 ⟨rfl, hb⟩
                have N7 := Lib.hid (below_then N6.out N6.out.size hb)
                clear hb N6
                go_wp2_with fail
                refine (nil_wait _ 5).mono ?_
                rintro e v8 ⟨rfl, hb⟩
                have N8 := Lib.hid (below_then N7.out N7.out.size hb)
                clear hb N7
                go_wp2_with fail
                refine (nil_due _ 9).mono ?_
                rintro e v9 ⟨rfl, hb⟩
                have N9 := Lib.hid (below_then N8.out N8.out.size hb)
                clear hb N8
                go_wp2_with fail
                refine (nil_len _).mono ?_
                rintro e v10 ⟨rfl, hb⟩
                have N10 := Lib.hid (below_then N9.out N9.out.size hb)
                clear hb N9
                go_wp2_with fail
                refine (nil_fork _).mono ?_
                rintro e v11 ⟨rfl, hb⟩
                have N11 := Lib.hid (below_then N10.out N10.out.size hb)
                clear hb N10
                have PX11 := Lib.hid (PX.out.below N11.out lb13)
                have PO11 := Lib.hid (PO.out.below N11.out)
                have QX11 := Lib.hid (QX.out.below N11.out lb9q)
                have QO11 := Lib.hid (QO.out.below N11.out)
                have K11 := Lib.hid (below_then HBQ.out HBQ.out.size N11.out)
                have lp11 := PX11.out.lt
                have lq11 := QX11.out.lt
                go_wp2
                go_loopw [20] (fun i wz => ∃ k : Nat, k ≤ 8 ∧ i = .int .u16 k ∧ Below v11.heap.size v11 wz) (fun i _ => 8 - (intOf i).toNat)
                case atStart => exact ⟨0, by omega, rfl, Below.refl _ _⟩
                case round =>
                  obtain ⟨k, hk8, rfl, hbz⟩ := hrel
                  have HZ := Lib.hid hbz
                  have bz1 := PX11.out.below hbz lp11
                  clear hbz
                  by_cases h8 : k < 8
                  · have h8I : (k : Int) < 8 := by omega
                    have hk0 : (0 : Int) ≤ (k : Int) := by omega
                    have x0 := bz1.cell 0
                    have x1 := bz1.cell 1
                    have x2 := bz1.cell 2
                    have x3 := bz1.cell 3
                    have x4 := bz1.cell 4
                    have x5 := bz1.cell 5
                    simp only [List.getElem?_toArray, List.getElem?_cons_zero, List.getElem?_cons_succ] at  x0 x1 x2 x3 x4 x5
                    clear bz1
                    go_wp2_with fail
                    refine (same_any g2 _ r2 _ (k : Int) 50 _ (PO11.out.below HZ.out) ⟨by omega, by omega⟩).mono ?_
                    rintro e u1 ⟨rfl, hb⟩
                    have Z1 := Lib.hid (below_then HZ.out HZ.out.size hb)
                    clear hb x0 x1 x2 x3 x4 x5
                    have bz2 := QX11.out.below Z1.out lq11
                    have x0 := bz2.cell 0
                    have x1 := bz2.cell 1
                    have x2 := bz2.cell 2
                    have x3 := bz2.cell 3
                    have x4 := bz2.cell 4
                    have x5 := bz2.cell 5
                    simp only [List.getElem?_toArray, List.getElem?_cons_zero, List.getElem?_cons_succ] at  x0 x1 x2 x3 x4 x5
                    clear bz2
                    go_wp2_with fail
                    refine (same_any g _ r _ (k : Int) 50 _ (QO11.out.below Z1.out) ⟨by omega, by omega⟩).mono ?_
                    rintro e u2 ⟨rfl, hb⟩
                    have Z2 := Lib.hid (below_then Z1.out Z1.out.size hb)
                    clear hb x0 x1 x2 x3 x4 x5
                    go_wp2
                    go_roundw
                    case rel => exact ⟨k + 1, by omega, by go_num, Z2.out⟩
                    case measure => simp [intOf]; omega
                  · obtain rfl : k = 8 := by omega
                    clear bz1
                    go_wp2_with fail
                    refine (awake_any _).mono ?_
                    rintro e u1 ⟨rfl, hb⟩
                    have Z1 := Lib.hid (below_then K11.out K11.out.size (below_then HZ.out HZ.out.size hb))
                    clear hb
                    go_wp2
                    go_ret
                    exact ⟨rfl, Z1.out⟩
  · have hn0 : (newErr 3 mn mx cf == 0) = false := by simpa using hne
    obtain ⟨ne, hne2⟩ : ∃ ne, newErr 3 mn mx cf = ne := ⟨_, rfl⟩
    have N1 := Lib.hid (fun X => new_no 3 mn mx cf X hne)
    have N2 := Lib.hid (show rnewVal 3 mn mx cf = .tuple #[.agg #[.int .u16 0, .int .i64 0, .int .i64 0, .int .i64 0, .int .i64 0, .slice none 0 0], .int .i64 ne] by unfold rnewVal; rw [if_neg hne, hne2]; rfl)
    rw [hne2] at hne hn0 N1
    clear hne2
    go_enter Try.func7, Try.ntmps7
    go_wp2_with fail
    refine (N1.out _).mono ?_
    rintro e w1 ⟨rfl, hb⟩
    have D1 := Lib.hid (D0.out.below hb l30)
    have K1 := Lib.hid (KS.out hb)
    clear hb l30 D0 KS
    have q0 := D1.out.cell 0
    have q1 := D1.out.cell 1
    have q2 := D1.out.cell 2
    simp only [List.getElem?_toArray, List.getElem?_cons_zero, List.getElem?_cons_succ] at  q0 q1 q2
    go_wp2_with fail
    refine (rnew_any 3 mn mx cf _).mono ?_
    rw [N2.out]
    rintro e w2 ⟨rfl, hb⟩
    have K2 := Lib.hid (below_then K1.out K1.out.size hb)
    have l2 := K2.out.size
    clear hb q0 q1 q2
    go_wp2_with fail
    refine (awake_any _).mono ?_
    rintro e w3 ⟨rfl, hb⟩
    have K3 := Lib.hid (below_then (K2.out.alloc l2 (.cells #[.int .u16 0, .int .i64 0, .int .i64 0, .int .i64 0, .int .i64 0, .slice none 0 0] 53)) (by simp; omega) hb)
    clear hb
    go_wp2
    go_ret
    exact ⟨rfl, K3.out⟩
set_option maxRecDepth 100000 in
theorem healthForks_lifted (os : Os) (started : os.Started) (H : Type) (enc : TypeId × Value → H) :
    ReturnsInHanded {} Try.checked os 7 .any (Rows.healthForksSpec.pre6 enc Try.prog Try.f7 Rows.healthForksRow.domain false) (Rows.healthForksSpec.post enc Try.prog Try.f7 false true false false) := by
  refine returnsInHanded_of_change (C := Try.checked) tOwn started (by kernel_rfl) Try.func7
    (ChangeSpec.witness6 (enc := enc) (C := Try.checked) false ⟨#[], #[.agg #[.int .i64 0, .int .i64 0, .int .i64 0], .slice none 0 0, .slice none 0 0], []⟩ 8 (by kernel_rfl) (by kernel_rfl) (by kernel_rfl) (by kernel_rfl)) ?_
  intro W base args ds gs before hval0 hW hcnd _
  have hval : ∀ (j : Nat) t v, Try.f7.params[j]? = some t → args[j]? = some v → Value.okWide Try.prog W .any base t v := hval0
  have hW' := hW
  obtain ⟨p, q, hA0, hV, rfl, hfz, hnd⟩ := hW
  have hA : DataW.TrodAll enc Try.prog W 0 (fun _ => true) true Try.f7.params.toList args.toList ds p := hA0
  rw [Try.params7] at hA hval
  obtain ⟨v0, vs0, d0, ds0, p0, q0, hargs, rfl, rfl, h0, r0⟩ := trodAll_cons hA
  obtain ⟨v1, vs1, d1, ds1, p1, q1, rfl, rfl, rfl, h1, r1⟩ := trodAll_cons r0
  obtain ⟨v2, vs2, d2, ds2, p2, q2, rfl, rfl, rfl, h2, r2⟩ := trodAll_cons r1
  obtain ⟨rfl, rfl, rfl⟩ := trodAll_nil r2
  obtain rfl : args = #[v0, v1, v2] := by cases args; simp_all
  obtain ⟨q0, q1, q2, rfl⟩ := open_rule (hval 0 49 v0 rfl rfl) h0
  obtain ⟨Al, cl, l, rfl, rl, ol⟩ := open_acts (hval 1 50 v1 rfl rfl) h1
  obtain ⟨Am, cm, m, rfl, rm, om⟩ := open_acts (hval 2 50 v2 rfl rfl) h2
  refine (healthForks_walk q0 q1 q2 Al Am cl cm l m W rl ol rm om).mono fun e W' ⟨he, hb⟩ => ?_
  subst he
  exact ⟨_, rfl, law_post tLaid (by decide +kernel) hW' rfl (by kernel_rfl) Try.underlying4 rfl hb⟩

/-- The statement. -/
theorem healthForks_holds : Rows.HealthForksSaid :=
  OpenClaim.holds_of_wide 7 Try.f7 rfl rfl rfl rfl rfl rfl rfl ⟨rfl, rfl, rfl, rfl, rfl⟩ rfl rfl rfl rfl rfl (by kernel_rfl) Try.func7 (by kernel_rfl)
    (of_decide_eq_true (by kernel_rfl)) (by unfold Func.isWrapper; rw [if_neg (of_decide_eq_false (by kernel_rfl))]; exact ⟨rfl, rfl⟩)
    (fun os started H enc _ => healthForks_lifted os started H enc)
#print axioms healthForks_holds
end Go.Proofs.Ytadhcnfgbiokcaa
