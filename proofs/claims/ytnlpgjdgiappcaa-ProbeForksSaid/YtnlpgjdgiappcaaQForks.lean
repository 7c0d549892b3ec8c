/- The statement ProbeForks: a fork goes its own way; a probe that is not there asks nobody; a time that may not be is none. Conditions: none. -/
import Derived.Test.YtnlpgjdgiappcaaQ8
import Derived.Test.YtnlpgjdgiappcaaQ9
import Derived.Deep.CutBlock
namespace Go.Proofs.Ytnlpgjdgiappcaa
set_option linter.unusedVariables false
set_option linter.unusedSimpArgs false
open Go.ChangeShapes Go.WideShapes Go.ChangeAt Go.RowKit Go.Joins Go.Deep

theorem sb_kept {B : Nat} {w X : World} (h : SB B w X) : Below B w X := h.2.2
theorem RJ.kept {w0 W : World} {g gp gt j : Nat} (H : RJ w0 W g gp gt j) : Below w0.heap.size w0 W := by
  obtain ⟨p, F, A, cA, B, cB, now, hW, c1, c2, c3, c4, c5, c6, hK⟩ := H
  exact hK
set_option maxRecDepth 100000 in
set_option maxHeartbeats 1000000 in
theorem tick_nil (gt : Nat) (now draw : Int) (w : World) : Calls Try.prog 34 #[.pointer none, .int .i64 now, .int .u32 draw, .pointer (some ⟨gt, 0, none⟩)] w fun e w' => e = .returned (.tuple #[.slice none 0 0, .slice none 0 0]) ∧ Below w.heap.size w w' := by
  go_enter Try.func34, Try.ntmps34
  go_wp2
  refine bodyPost_ret (v := .tuple #[.slice none 0 0, .slice none 0 0]) (by simp [results, Try.results34, go_sem]) rfl ⟨rfl, Below.refl _ _⟩
set_option maxRecDepth 100000 in
set_option maxHeartbeats 1000000 in
theorem tick_nilt (g : Nat) (now draw : Int) (w : World) : Calls Try.prog 34 #[.pointer (some ⟨g, 0, none⟩), .int .i64 now, .int .u32 draw, .pointer none] w fun e w' => e = .returned (.tuple #[.slice none 0 0, .slice none 0 0]) ∧ Below w.heap.size w w' := by
  go_enter Try.func34, Try.ntmps34
  go_wp2
  refine bodyPost_ret (v := .tuple #[.slice none 0 0, .slice none 0 0]) (by simp [results, Try.results34, go_sem]) rfl ⟨rfl, Below.refl _ _⟩
set_option maxRecDepth 100000 in
set_option maxHeartbeats 1000000 in
theorem watch_nil (n s i now : Int) (w : World) : Calls Try.prog 42 #[.pointer none, .agg #[.int .u16 n, .int .u8 s, .int .i64 i], .int .i64 now] w fun e w' => (∃ v, e = .returned v) ∧ Below w.heap.size w w' := by
  go_enter Try.func42, Try.ntmps42
  go_wp2
  go_quiet (fail)
  go_wp2
  refine bodyPost_ret (results_none rfl _ _ _) rfl ?_
  exact ⟨⟨_, rfl⟩, below_drewN ((Below.refl _ _).alloc (Nat.le_refl _) _) _⟩
theorem tick_bad (g gt : Nat) (now draw : Int) (w : World) (hm : Pl.may now 0 = false) : Calls Try.prog 34 #[.pointer (some ⟨g, 0, none⟩), .int .i64 now, .int .u32 draw, .pointer (some ⟨gt, 0, none⟩)] w fun e w' => e = .returned (.tuple #[.slice none 0 0, .slice none 0 0]) ∧ Below w.heap.size w w' := by
  have HM := Lib.hid hm
  clear hm
  go_enter Try.func34, Try.ntmps34
  go_wp2_with fail
  refine (pmay_any now 0 _).mono ?_
  rw [HM.out]
  rintro e w1 ⟨rfl, hb⟩
  have K1 := Lib.hid hb
  clear hb
  go_wp2
  refine bodyPost_ret (v := .tuple #[.slice none 0 0, .slice none 0 0]) (by simp [results, Try.results34, go_sem]) rfl ⟨rfl, K1.out⟩
set_option maxRecDepth 100000 in
set_option maxHeartbeats 8000000 in
theorem forks_walk (Al : Option Addr) (cl : Nat) (l : List Ac) (Am : Option Addr) (cm : Nat) (m : List Ac) (now : Int) (w : World) (rl : Reads w (fun b => b < w.heap.size) 7 Al l.length (acs l)) (ml : ∀ a ∈ l, a.Ok) (rm : Reads w (fun b => b < w.heap.size) 7 Am m.length (acs m)) (mm : ∀ a ∈ m, a.Ok) :
    Calls Try.prog 14 #[.slice Al l.length cl, .slice Am m.length cm, .int .i64 now] w fun e w' => e = .returned (.bool true) ∧ Below w.heap.size w w' := by
  have RL := Lib.hid rl
  have ML := Lib.hid ml
  have RM := Lib.hid rm
  have MM := Lib.hid mm
  clear rl ml rm mm
  go_enter Try.func14, Try.ntmps14
  go_wp2_with fail
  refine (made_yes 2 _ (by omega) (by omega)).mono ?_
  rintro e w1 ⟨g, gp, gt, B, cB, rfl, hb, hg, hgp, hgt, hW⟩
  rw [(Pl.ag_new 2 10 3).eq] at hW
  have K1 := Lib.hid hb
  have HG1 := Lib.hid hg
  have HG2 := Lib.hid hgp
  have HG3 := Lib.hid hgt
  have HR1 : Hid (RJ w w1 g gp gt 0) := Lib.hid ⟨Pl.pnew 2 10 3, _, _, _, _, _, _, hW, Pl.pnew_ok (by omega) (by omega) (by decide) (by decide), (show Pl.TOk 2 _ from Pl.newT_ok (by decide) (by decide)), by show (0 : Int) ≤ 0; omega, by show (0 : Int) ≤ 0; omega, by omega, by omega, hb⟩
  have y0 := hW.blk.cell 0
  simp only [wcells, List.getElem?_toArray, List.getElem?_cons_zero, List.getElem?_cons_succ] at y0
  clear hW hb hg hgp hgt
  by_cases hL : 100 < l.length
  · have hL' : decide ((l.length : Int) > 100) = true := by simp; omega
    go_wp2_with fail
    refine (pawake_any _).mono ?_
    rintro e w3 ⟨rfl, hb⟩
    have K3 := Lib.hid (below_then K1.out K1.out.size hb)
    clear hb
    go_wp2
    go_ret
    exact ⟨rfl, K3.out⟩
  have hL' : decide ((l.length : Int) > 100) = false := by simp; omega
  by_cases hM : 100 < m.length
  · have hM' : decide ((m.length : Int) > 100) = true := by simp; omega
    go_wp2_with fail
    refine (pawake_any _).mono ?_
    rintro e w3 ⟨rfl, hb⟩
    have K3 := Lib.hid (below_then K1.out K1.out.size hb)
    clear hb
    go_wp2
    go_ret
    exact ⟨rfl, K3.out⟩
  have hM' : decide ((m.length : Int) > 100) = false := by simp; omega
  go_wp2
  clear y0 hL' hM'
  go_loopw [9] (fun i wr => ∃ (j : Nat), j ≤ l.length ∧ i = .int .i64 (j : Int) ∧ RJ w wr g gp gt j) (fun i _ => l.length - (intOf i).toNat)
  case atStart => exact ⟨0, by omega, rfl, HR1.out⟩
  case round =>
    obtain ⟨j, hj, rfl, hRI⟩ := hrel
    have HR := Lib.hid hRI
    clear hRI
    by_cases hjl : j < l.length
    · skip
      have hjI0 : (0 : Int) ≤ (j : Int) := by omega
      have hjI1 : (j : Int) < (l.length : Int) := by omega
      obtain ⟨a, ha⟩ : ∃ a, l[j]? = some a := ⟨l[j], List.getElem?_eq_getElem hjl⟩
      have hao := ML.out a (List.mem_of_getElem? ha)
      obtain ⟨b, o, rfl, hbb, hcell⟩ := RL.out.2 (by omega)
      have hC0 := acs_at hcell ha
      have hK : Below w.heap.size w wr := HR.out.kept
      have q0 := (hK.cell (p := ⟨b, _, none⟩) hbb).trans hC0.1
      have q1 := (hK.cell (p := ⟨b, _, none⟩) hbb).trans hC0.2.1
      have q2 := (hK.cell (p := ⟨b, _, none⟩) hbb).trans hC0.2.2.1
      have q3 := (hK.cell (p := ⟨b, _, none⟩) hbb).trans hC0.2.2.2.1
      have q4 := (hK.cell (p := ⟨b, _, none⟩) hbb).trans hC0.2.2.2.2.1
      have q5 := (hK.cell (p := ⟨b, _, none⟩) hbb).trans hC0.2.2.2.2.2.1
      have q6 := (hK.cell (p := ⟨b, _, none⟩) hbb).trans hC0.2.2.2.2.2.2
      have HDO := Lib.hid (do_any w wr g gp gt j a HR.out (by omega) hao HG1.out HG2.out HG3.out)
      unfold acells at HDO
      clear hK hcell hC0 ha hao hbb
      go_wp2_with fail
      refine HDO.out.mono ?_
      rintro e w4 ⟨rfl, hR4⟩
      have R4 := Lib.hid hR4
      clear hR4
      go_wp2
      go_roundw
      case rel => exact ⟨j + 1, by omega, by go_num, R4.out⟩
      case measure => simp [intOf]; omega
    obtain rfl : j = l.length := by omega
    have hdl : decide ((l.length : Int) < (l.length : Int)) = false := by simp
    obtain ⟨p, F, A, cA, B', cB', now0, hW, c1, c2, c3, c4, c5, c6, hK⟩ := HR.out
    have W2 := Lib.hid hW
    have KW := Lib.hid hK
    have C := Lib.hid (And.intro c1 (And.intro c2 (And.intro c3 (And.intro c4 (And.intro c5 c6)))))
    obtain ⟨r, hr⟩ : ∃ r, Pl.ofP p = r := ⟨_, rfl⟩
    have HRR := Lib.hid hr
    have q2 := hW.blk
    rw [hr] at q2
    unfold wcells at q2
    have y0 := q2.cell 0
    have y1 := q2.cell 1
    have y2 := q2.cell 2
    have y3 := q2.cell 3
    have y4 := q2.cell 4
    have y5 := q2.cell 5
    have y6 := q2.cell 6
    have y7 := q2.cell 7
    have y8 := q2.cell 8
    have y9 := q2.cell 9
    have y10 := q2.cell 10
    have y11 := q2.cell 11
    have y12 := q2.cell 12
    have y13 := q2.cell 13
    have y14 := q2.cell 14
    simp only [wcells, List.getElem?_toArray, List.getElem?_cons_zero, List.getElem?_cons_succ] at y0 y1 y2 y3 y4 y5 y6 y7 y8 y9 y10 y11 y12 y13 y14
    have lg := hW.blk.lt
    have lp := hW.pb.lt
    have lt_ := hW.tb.lt
    clear q2 hr hW hK c1 c2 c3 c4 c5 c6 K1 HR1
    obtain ⟨me, hme⟩ : ∃ n, p.me = n := ⟨_, rfl⟩
    have HME := Lib.hid hme
    obtain ⟨nW, hnW⟩ : ∃ n, r.w.length = n := ⟨_, rfl⟩
    have HNW := Lib.hid hnW
    obtain ⟨nF, hnF⟩ : ∃ n, (Pl.listT F).length = n := ⟨_, rfl⟩
    have HNF := Lib.hid hnF
    simp only [hme, hnW, hnF] at y11 y12 y13
    clear hme hnW hnF
    have HSW := Lib.hid (keepB (Below.refl wr.heap.size wr))
    have HP : Hid (∀ X, SB wr.heap.size wr X → Calls Try.prog 41 #[.pointer (some ⟨gp, 0, none⟩)] X fun e w' => ∃ g', e = .returned (.pointer (some ⟨g', 0, none⟩)) ∧ Below X.heap.size X w' ∧ X.heap.size ≤ g' ∧ IsPb w' g' p) := Lib.hid (fun X hX => pfork_any gp p X (W2.out.pb.below hX.2.2 W2.out.pb.lt))
    have HTT : Hid (∀ X, SB wr.heap.size wr X → Calls Try.prog 32 #[.pointer (some ⟨gt, 0, none⟩)] X fun e w' => ∃ g', e = .returned (.pointer (some ⟨g', 0, none⟩)) ∧ Below X.heap.size X w' ∧ X.heap.size ≤ g' ∧ IsT w' g' p.me F) := Lib.hid (fun X hX => fork_any gt p.me F X (W2.out.tb.below hX.2.2 W2.out.tb.lt))
    go_upto_region 8 with fail
    go_cut [10] from 62 to 205 (fun s10 wx => ∃ gf pf tf, s10 = .pointer (some ⟨gf, 0, none⟩) ∧ wr.heap.size ≤ gf ∧ wr.heap.size ≤ pf ∧ wr.heap.size ≤ tf ∧ gf ≠ pf ∧ gf ≠ tf ∧ pf ≠ tf ∧ Go.RowKit.Hid (Below wr.heap.size wr wx) ∧ Go.RowKit.Hid (Blk wx gf 83 #[.pointer (some ⟨pf, 0, none⟩), .pointer (some ⟨tf, 0, none⟩), .int .u16 r.me, .int .i64 r.per, .int .i64 r.tmo, .int .i64 r.nxt, .int .i64 r.seq, .bool r.op, .bool r.hlp, .int .u16 r.nd, .int .i64 r.at_, .slice A nW cA, .int .u16 me, .slice B' nF cB', .int .i64 now0]) ∧ Go.RowKit.Hid (IsPb wx pf p) ∧ Go.RowKit.Hid (IsT wx tf p.me F))
    case first =>
      go_region_held3 (fun X => SB wr.heap.size wr X) (((repeat (with_reducible first | assumption | exact HSW.out | refine sb_drew ?_ | refine sb_alloc ?_ (Nat.le_refl _) _)); all_goals first | done | (simp; done) | (simp; omega)))
        (first
          | (go_at_call 41
             refine (HP.out _ (by assumption)).mono ?_
             rintro e w4 ⟨pf, rfl, hbx, hpf, hP4⟩
             have S4 : SB wr.heap.size wr w4 := sb_then (by assumption) hbx
             have P4 := Lib.hid hP4
             have LP4 := hP4.lt
             have L4 := hbx.size
             clear hP4)
          | (go_at_call 32
             refine (HTT.out _ (by assumption)).mono ?_
             rintro e w5 ⟨tf, rfl, hby, htf, hT5⟩
             have S5 : SB wr.heap.size wr w5 := sb_then (by assumption) hby
             have T5 := Lib.hid hT5
             have LT5 := hT5.lt
             have HBY := Lib.hid hby
             have L5 := hby.size
             clear hT5))
      all_goals
        go_wp2
        go_meet
        case rel =>
          try simp only [drew_size] at hpf L4 htf L5
          have hb5 := HBY.out
          have h44 := S4.2.2.size
          have P5 := P4.out.below hb5 (by first | exact LP4 | (simp; exact LP4))
          refine ⟨w5.heap.size, pf, tf, rfl, by omega, by omega, by omega, by omega, by omega, by omega, Lib.hid ?_, Lib.hid ?_, Lib.hid ?_, Lib.hid ?_⟩
          · refine sb_kept ?_
            ((repeat (with_reducible first | assumption | exact HSW.out | refine sb_drew ?_ | refine sb_alloc ?_ (Nat.le_refl _) _)); all_goals first | done | (simp; done) | (simp; omega))
          · (repeat (with_reducible first | exact Blk.new_at (by simp) | refine Blk.drew ?_))
          · first | exact IsPb.alloc P5 _ | exact (IsPb.alloc P5 _).drew
          · first | exact IsT.alloc T5.out _ | exact (IsT.alloc T5.out _).drew
    case rest =>
      obtain ⟨gf, pf, tf, rfl, hgf, hpf, htf, n1, n2, n3, KF, BF, PF, TF⟩ := hcut
      clear y0 y1 y2 y3 y4 y5 y6 y7 y8 y9 y10 y11 y12 y13 y14 HSW HP HTT
      have HF1 := Lib.hid hgf
      have HF2 := Lib.hid hpf
      have HF3 := Lib.hid htf
      have KWF := Lib.hid (below_then KW.out KW.out.size KF.out)
      have W3 := Lib.hid (W2.out.below KF.out)
      have WF : Hid (WS wc gf pf tf p F (Pl.ofP p) A cA p.me F B' cB' now0) := Lib.hid (by
        refine ⟨?_, PF.out, TF.out, ?_, ?_, n1, n2, n3⟩
        · rw [HRR.out, HNF.out, HME.out]; unfold wcells; rw [HNW.out]; exact BF.out
        · exact ((W2.out.rw_.there (by omega)).below (by omega) KF.out).imp (fun b hb => ⟨by omega, by omega, by omega⟩)
        · exact ((Reads.there W2.out.gl (by omega)).below (by omega) KF.out).imp (fun b hb => ⟨by omega, by omega, by omega⟩))
      have RF : Hid (RJ wr wc gf pf tf l.length) := Lib.hid ⟨_, _, _, _, _, _, _, WF.out, C.out.1, C.out.2.1, C.out.2.2.1, C.out.2.2.2.1, C.out.2.2.2.2.1, C.out.2.2.2.2.2, KF.out⟩
      have y0 := BF.out.cell 0
      simp only [List.getElem?_toArray, List.getElem?_cons_zero] at y0
      obtain ⟨wb, rfl⟩ : ∃ x, x = wr := ⟨wr, rfl⟩
      go_wp2
      clear y0 hgf hpf htf n1 n2 n3 BF PF TF WF HR
      go_loopw [11] (fun i wq => ∃ (k : Nat), k ≤ m.length ∧ i = .int .i64 (k : Int) ∧ RJ wb wq gf pf tf (l.length + k)) (fun i _ => m.length - (intOf i).toNat)
      case atStart => exact ⟨0, by omega, rfl, RF.out⟩
      case round =>
        obtain ⟨k, hk, rfl, hRI⟩ := hrel
        have HR := Lib.hid hRI
        clear hRI
        by_cases hjl : k < m.length
        · skip
          have hjI0 : (0 : Int) ≤ (k : Int) := by omega
          have hjI1 : (k : Int) < (m.length : Int) := by omega
          obtain ⟨a, ha⟩ : ∃ a, m[k]? = some a := ⟨m[k], List.getElem?_eq_getElem hjl⟩
          have hao := MM.out a (List.mem_of_getElem? ha)
          obtain ⟨b, o, rfl, hbb, hcell⟩ := RM.out.2 (by omega)
          have hC0 := acs_at hcell ha
          have hK : Below w.heap.size w wr := below_then KW.out KW.out.size HR.out.kept
          have q0 := (hK.cell (p := ⟨b, _, none⟩) hbb).trans hC0.1
          have q1 := (hK.cell (p := ⟨b, _, none⟩) hbb).trans hC0.2.1
          have q2 := (hK.cell (p := ⟨b, _, none⟩) hbb).trans hC0.2.2.1
          have q3 := (hK.cell (p := ⟨b, _, none⟩) hbb).trans hC0.2.2.2.1
          have q4 := (hK.cell (p := ⟨b, _, none⟩) hbb).trans hC0.2.2.2.2.1
          have q5 := (hK.cell (p := ⟨b, _, none⟩) hbb).trans hC0.2.2.2.2.2.1
          have q6 := (hK.cell (p := ⟨b, _, none⟩) hbb).trans hC0.2.2.2.2.2.2
          have HDO := Lib.hid (do_any wb wr gf pf tf (l.length + k) a HR.out (by omega) hao HF1.out HF2.out HF3.out)
          unfold acells at HDO
          clear hK hcell hC0 ha hao hbb
          go_wp2_with fail
          refine HDO.out.mono ?_
          rintro e w4 ⟨rfl, hR4⟩
          have R4 := Lib.hid hR4
          clear hR4
          go_wp2
          go_roundw
          case rel => exact ⟨k + 1, by omega, by go_num, R4.out⟩
          case measure => simp [intOf]; omega
        obtain rfl : k = m.length := by omega
        have hdm : decide ((m.length : Int) < (m.length : Int)) = false := by simp
        clear RF KWF W3 KF
        have K5 := Lib.hid (below_then KW.out KW.out.size HR.out.kept)
        have W5 := Lib.hid (W2.out.below HR.out.kept)
        obtain ⟨p2, F2, A2, cA2, B2, cB2, now2, hW2, _, _, _, _, _, _, _⟩ := HR.out
        have WF5 := Lib.hid hW2
        clear hW2
        have y0 := W5.out.blk.cell 0
        have y1 := W5.out.blk.cell 1
        simp only [wcells, List.getElem?_toArray, List.getElem?_cons_zero, List.getElem?_cons_succ] at y0 y1
        go_wp2_with fail
        refine (tick_nil gt now 1 _).mono ?_
        rintro e w6 ⟨rfl, hb⟩
        have K6 := Lib.hid (below_then K5.out K5.out.size hb)
        have W6 := Lib.hid (W5.out.below hb)
        have WF6 := Lib.hid (WF5.out.below hb)
        clear hb y0 y1
        go_wp2_with fail
        refine (watch_nil 0 1 0 now _).mono ?_
        rintro e w7 ⟨⟨v7, rfl⟩, hb⟩
        have K7 := Lib.hid (below_then K6.out K6.out.size hb)
        have W7 := Lib.hid (W6.out.below hb)
        have WF7 := Lib.hid (WF6.out.below hb)
        clear hb
        go_wp2_with fail
        refine (asked_nil _).mono ?_
        rintro e w8 ⟨rfl, hb⟩
        have K8 := Lib.hid (below_then K7.out K7.out.size hb)
        have W8 := Lib.hid (W7.out.below hb)
        have WF8 := Lib.hid (WF7.out.below hb)
        clear hb
        go_wp2_with fail
        refine (ack_nil 1 1 _).mono ?_
        rintro e w9 ⟨rfl, hb⟩
        have K9 := Lib.hid (below_then K8.out K8.out.size hb)
        have W9 := Lib.hid (W8.out.below hb)
        have WF9 := Lib.hid (WF8.out.below hb)
        clear hb
        go_wp2_with fail
        refine (pfork_nil _).mono ?_
        rintro e w10 ⟨rfl, hb⟩
        have K10 := Lib.hid (below_then K9.out K9.out.size hb)
        have W10 := Lib.hid (W9.out.below hb)
        have WF10 := Lib.hid (WF9.out.below hb)
        clear hb K5 K6 K7 K8 K9 W5 W6 W7 W8 W9 WF5 WF6 WF7 WF8 WF9
        have y0 := W10.out.blk.cell 0
        have y1 := W10.out.blk.cell 1
        simp only [wcells, List.getElem?_toArray, List.getElem?_cons_zero, List.getElem?_cons_succ] at y0 y1
        by_cases hgood : 0 ≤ now ∧ now ≤ 1099511627776
        · have hd1 : decide (now < 0) = false := by simp; omega
          have hd2 : decide (now > 1099511627776) = false := by simp; omega
          go_wp2_with fail
          refine (tick_nilt gp 5 1 _).mono ?_
          rintro e w12 ⟨rfl, hb⟩
          have K12 := Lib.hid (below_then K10.out K10.out.size hb)
          have W12 := Lib.hid (W10.out.below hb)
          have WF12 := Lib.hid (WF10.out.below hb)
          clear hb y0 y1
          go_wp2_with fail
          refine (same40_any gf pf tf p2 F2 A2 cA2 B2 cB2 now2 _ WF12.out).mono ?_
          rintro e w13 ⟨rfl, hb⟩
          have K13 := Lib.hid (below_then K12.out K12.out.size hb)
          have W13 := Lib.hid (W12.out.below hb)
          clear hb
          go_wp2_with fail
          refine (same40_any g gp gt p F A cA B' cB' now0 _ W13.out).mono ?_
          rintro e w14 ⟨rfl, hb⟩
          have K14 := Lib.hid (below_then K13.out K13.out.size hb)
          clear hb
          go_wp2_with fail
          refine (pawake_any _).mono ?_
          rintro e w15 ⟨rfl, hb⟩
          have K15 := Lib.hid (below_then K14.out K14.out.size hb)
          clear hb
          go_wp2
          go_ret
          exact ⟨rfl, K15.out⟩
        · have TK : Hid (Calls Try.prog 34 #[.pointer (some ⟨gp, 0, none⟩), .int .i64 now, .int .u32 1, .pointer (some ⟨gt, 0, none⟩)] w10.drew fun e w11 => e = .returned (.tuple #[.slice none 0 0, .slice none 0 0]) ∧ WS w11 g gp gt p F (Pl.ofP p) A cA p.me F B' cB' now0 ∧ WS w11 gf pf tf p2 F2 (Pl.ofP p2) A2 cA2 p2.me F2 B2 cB2 now2 ∧ Below w.heap.size w w11 ∧ (w11.cell? ⟨g, 0, none⟩ = some (.pointer (some ⟨gp, 0, none⟩)) ∧ w11.cell? ⟨g, 1, none⟩ = some (.pointer (some ⟨gt, 0, none⟩)))) := by
            refine Lib.hid ((tick_bad gp gt now 1 _ (by simp [Pl.may]; omega)).mono ?_)
            rintro e w11 ⟨he, hb⟩
            have W11 := W10.out.drew.below hb
            have v0 := W11.blk.cell 0
            have v1 := W11.blk.cell 1
            simp only [wcells, List.getElem?_toArray, List.getElem?_cons_zero, List.getElem?_cons_succ] at v0 v1
            exact ⟨he, W11, WF10.out.drew.below hb, below_then K10.out.drew K10.out.drew.size hb, v0, v1⟩
          have HS4 : Hid (w10.cell? ⟨g, 0, none⟩ = some (.pointer (some ⟨gp, 0, none⟩)) ∧ w10.cell? ⟨g, 1, none⟩ = some (.pointer (some ⟨gt, 0, none⟩))) := Lib.hid ⟨y0, y1⟩
          obtain ⟨d1, d2, hd1, hd2, hdd⟩ : ∃ d1 d2, decide (now < 0) = d1 ∧ decide (now > 1099511627776) = d2 ∧ (d1 = true ∨ d1 = false ∧ d2 = true) := by
            refine ⟨_, _, rfl, rfl, ?_⟩
            simp only [decide_eq_true_eq, decide_eq_false_iff_not]
            omega
          rcases hdd with rfl | ⟨rfl, rfl⟩
          · go_upto_region 22 with fail
            go_region_held3 (fun X => X.cell? ⟨g, 0, none⟩ = some (.pointer (some ⟨gp, 0, none⟩)) ∧ X.cell? ⟨g, 1, none⟩ = some (.pointer (some ⟨gt, 0, none⟩))) (first | assumption | exact HS4.out)
              ((go_at_call 34
                refine TK.out.mono ?_
                rintro e w11 ⟨rfl, hW11, hWF11, hK11, HS5⟩
                have W11 := Lib.hid hW11
                have WF11 := Lib.hid hWF11
                have K11 := Lib.hid hK11
                clear hW11 hWF11 hK11))
            clear TK y0 y1 HS4 HS5 W10 WF10 K10
            have y0 := W11.out.blk.cell 0
            have y1 := W11.out.blk.cell 1
            simp only [wcells, List.getElem?_toArray, List.getElem?_cons_zero, List.getElem?_cons_succ] at y0 y1
            go_wp2_with fail
            refine (tick_nilt gp 5 1 _).mono ?_
            rintro e w12 ⟨rfl, hb⟩
            have K12 := Lib.hid (below_then K11.out K11.out.size hb)
            have W12 := Lib.hid (W11.out.below hb)
            have WF12 := Lib.hid (WF11.out.below hb)
            clear hb y0 y1
            go_wp2_with fail
            refine (same40_any gf pf tf p2 F2 A2 cA2 B2 cB2 now2 _ WF12.out).mono ?_
            rintro e w13 ⟨rfl, hb⟩
            have K13 := Lib.hid (below_then K12.out K12.out.size hb)
            have W13 := Lib.hid (W12.out.below hb)
            clear hb
            go_wp2_with fail
            refine (same40_any g gp gt p F A cA B' cB' now0 _ W13.out).mono ?_
            rintro e w14 ⟨rfl, hb⟩
            have K14 := Lib.hid (below_then K13.out K13.out.size hb)
            clear hb
            go_wp2_with fail
            refine (pawake_any _).mono ?_
            rintro e w15 ⟨rfl, hb⟩
            have K15 := Lib.hid (below_then K14.out K14.out.size hb)
            clear hb
            go_wp2
            go_ret
            exact ⟨rfl, K15.out⟩
          · go_upto_region 22 with fail
            go_region_held3 (fun X => X.cell? ⟨g, 0, none⟩ = some (.pointer (some ⟨gp, 0, none⟩)) ∧ X.cell? ⟨g, 1, none⟩ = some (.pointer (some ⟨gt, 0, none⟩))) (first | assumption | exact HS4.out)
              ((go_at_call 34
                refine TK.out.mono ?_
                rintro e w11 ⟨rfl, hW11, hWF11, hK11, HS5⟩
                have W11 := Lib.hid hW11
                have WF11 := Lib.hid hWF11
                have K11 := Lib.hid hK11
                clear hW11 hWF11 hK11))
            clear TK y0 y1 HS4 HS5 W10 WF10 K10
            have y0 := W11.out.blk.cell 0
            have y1 := W11.out.blk.cell 1
            simp only [wcells, List.getElem?_toArray, List.getElem?_cons_zero, List.getElem?_cons_succ] at y0 y1
            go_wp2_with fail
            refine (tick_nilt gp 5 1 _).mono ?_
            rintro e w12 ⟨rfl, hb⟩
            have K12 := Lib.hid (below_then K11.out K11.out.size hb)
            have W12 := Lib.hid (W11.out.below hb)
            have WF12 := Lib.hid (WF11.out.below hb)
            clear hb y0 y1
            go_wp2_with fail
            refine (same40_any gf pf tf p2 F2 A2 cA2 B2 cB2 now2 _ WF12.out).mono ?_
            rintro e w13 ⟨rfl, hb⟩
            have K13 := Lib.hid (below_then K12.out K12.out.size hb)
            have W13 := Lib.hid (W12.out.below hb)
            clear hb
            go_wp2_with fail
            refine (same40_any g gp gt p F A cA B' cB' now0 _ W13.out).mono ?_
            rintro e w14 ⟨rfl, hb⟩
            have K14 := Lib.hid (below_then K13.out K13.out.size hb)
            clear hb
            go_wp2_with fail
            refine (pawake_any _).mono ?_
            rintro e w15 ⟨rfl, hb⟩
            have K15 := Lib.hid (below_then K14.out K14.out.size hb)
            clear hb
            go_wp2
            go_ret
            exact ⟨rfl, K15.out⟩
set_option maxRecDepth 100000 in
theorem probeForks_lifted (os : Os) (started : os.Started) (H : Type) (enc : TypeId × Value → H) :
    ReturnsInHanded {} Try.checked os 14 .any (Rows.probeForksSpec.pre6 enc Try.prog Try.f14 Rows.probeForksRow.domain false) (Rows.probeForksSpec.post enc Try.prog Try.f14 false true false false) := by
  refine returnsInHanded_of_change (C := Try.checked) tOwn started (by kernel_rfl) Try.func14
    (ChangeSpec.witness6 (enc := enc) (C := Try.checked) false ⟨#[], #[.slice none 0 0, .slice none 0 0, .int .i64 0], []⟩ 8 (by kernel_rfl) (by kernel_rfl) (by kernel_rfl) (by kernel_rfl)) ?_
  intro W base args ds gs before hval0 hW hcnd _
  have hval : ∀ (j : Nat) t v, Try.f14.params[j]? = some t → args[j]? = some v → Value.okWide Try.prog W .any base t v := hval0
  have hW' := hW
  obtain ⟨p, q, hA0, hV, rfl, hfz, hnd⟩ := hW
  have hA : DataW.TrodAll enc Try.prog W 0 (fun _ => true) true Try.f14.params.toList args.toList ds p := hA0
  rw [Try.params14] at hA hval
  obtain ⟨v0, vs0, d0, ds0, p0, q0, hargs, rfl, rfl, h0, r0⟩ := trodAll_cons hA
  obtain ⟨v1, vs1, d1, ds1, p1, q1, rfl, rfl, rfl, h1, r1⟩ := trodAll_cons r0
  obtain ⟨v2, vs2, d2, ds2, p2, q2, rfl, rfl, rfl, h2, r2⟩ := trodAll_cons r1
  obtain ⟨rfl, rfl, rfl⟩ := trodAll_nil r2
  obtain rfl : args = #[v0, v1, v2] := by cases args; simp_all
  obtain ⟨Al, cl, l, rfl, rl, ml⟩ := open_acts (hval 0 75 v0 rfl rfl) h0
  obtain ⟨Am, cm, m, rfl, rm, mm⟩ := open_acts (hval 1 75 v1 rfl rfl) h1
  obtain ⟨now, rfl, rfl, rfl, wnow⟩ := open_int Try.underlying3 (hval 2 3 v2 rfl rfl) h2
  refine (forks_walk Al cl l Am cm m now W rl ml rm mm).mono fun e W' ⟨he, hb⟩ => ?_
  subst he
  exact ⟨_, rfl, law_post tLaid (by decide +kernel) hW' rfl (by kernel_rfl) Try.underlying4 rfl hb⟩

/-- The statement. -/
theorem probeForks_holds : Rows.ProbeForksSaid :=
  OpenClaim.holds_of_wide 14 Try.f14 rfl rfl rfl rfl rfl rfl rfl ⟨rfl, rfl, rfl, rfl, rfl⟩ rfl rfl rfl rfl rfl (by kernel_rfl) Try.func14 (by kernel_rfl)
    (of_decide_eq_true (by kernel_rfl)) (by unfold Func.isWrapper; rw [if_neg (of_decide_eq_false (by kernel_rfl))]; exact ⟨rfl, rfl⟩)
    (fun os started H enc _ => probeForks_lifted os started H enc)
#print axioms probeForks_holds
end Go.Proofs.Ytnlpgjdgiappcaa
