/- The statement MatchBack. Conditions: none. -/
import Derived.Test.YtnidjfmbbfoheaaBkC
import Derived.Test.YtnidjfmbbfoheaaInEqual
namespace Go.Proofs.Ytnidjfmbbfoheaa
set_option linter.unusedVariables false
set_option linter.unusedSimpArgs false
open Go.ChangeShapes Go.WideShapes Go.ChangeAt Go.RowKit Go.Joins Go.Deep Go.BigFrame

set_option maxRecDepth 100000 in
theorem back_far (m : Mt) (s : List Nat) (p : Value) (w : World) (h : 200 < s.length) : Calls Try.prog 17 #[m.val, .string (bs s), p] w fun e w' => e = .returned (.bool true) ∧ Below w.heap.size w w' := by
  have z := bs_size s
  have hI : (200 : Int) < (s.length : Int) := by omega
  unfold Mt.val mval
  generalize bs m.n = mn at *
  generalize bs m.v = mv at *
  generalize bs s = t at *
  have K1 := Lib.hid ((Below.refl w.heap.size w).alloc (Nat.le_refl _) (.cells #[.string mn, .int .u8 m.op, .string mv] 37))
  go_enter Try.func17, Try.ntmps17
  go_wp2_with fail
  refine (awake4 _).mono ?_
  rintro e w2 ⟨rfl, hk⟩
  have K3 := Lib.hid (below_then K1.out K1.out.size hk)
  clear hk
  go_wp2
  go_ret
  exact ⟨rfl, K3.out⟩
set_option maxRecDepth 100000 in
theorem back_dark (m : Mt) (s : List Nat) (p : PR) (w : World) (h : ¬ 200 < s.length) (H : p.In w) (hl : lightB p.l = false) : Calls Try.prog 17 #[m.val, .string (bs s), p.val] w fun e w' => e = .returned (.bool true) ∧ Below w.heap.size w w' := by
  have HL := Lib.hid (fun w' (hb : Below w.heap.size w w') => light_any p.A p.c p.l w' (H.below hb).1 (H.below hb).2)
  rw [hl] at HL
  have z := bs_size s
  have hI : ¬ (200 : Int) < (s.length : Int) := by omega
  clear H hl
  unfold Mt.val mval PR.val at *
  generalize bs m.n = mn at *
  generalize bs m.v = mv at *
  generalize bs s = t at *
  have K1 := Lib.hid ((Below.refl w.heap.size w).alloc (Nat.le_refl _) (.cells #[.string mn, .int .u8 m.op, .string mv] 37))
  go_enter Try.func17, Try.ntmps17
  go_wp2_with fail
  refine (HL.out _ K1.out).mono ?_
  rintro e w1 ⟨rfl, hk⟩
  have K2 := Lib.hid (below_then K1.out K1.out.size hk)
  clear hk
  go_wp2_with fail
  refine (awake4 _).mono ?_
  rintro e w2 ⟨rfl, hk⟩
  have K3 := Lib.hid (below_then K2.out K2.out.size hk)
  clear hk
  go_wp2
  go_ret
  exact ⟨rfl, K3.out⟩
set_option maxRecDepth 100000 in
set_option maxHeartbeats 8000000 in
theorem back_main (m : Mt) (hm : m.Ok) (s : List Nat) (hs : ∀ x ∈ s, x < 256) (p : PR) (w : World) (h : s.length ≤ 200) (H : p.In w) (hl : lightB p.l = true) : Calls Try.prog 17 #[m.val, .string (bs s), p.val] w fun e w' => e = .returned (.bool true) ∧ Below w.heap.size w w' := by
  have hpl : p.Light := light_is hl
  have HL := Lib.hid (fun w' (hb : Below w.heap.size w w') => light_any p.A p.c p.l w' (H.below hb).1 (H.below hb).2)
  rw [hl] at HL
  have HR := Lib.hid (fun w' => read_any s hs (by omega) w')
  have HCm := Lib.hid (fun w' => check_any m hm w')
  have HTm : Hid (checkB m = 0 → ∀ w', Calls Try.prog 44 #[m.val] w' fun e w2 => e = .returned (.string (bs (textB m))) ∧ Below w'.heap.size w' w2) :=
    Lib.hid (fun hc w' => text_any m (by have := (text_short hc).1; omega) (by have := (text_short hc).2.1; omega) w')
  have HRm : Hid (checkB m = 0 → ∃ B : Mt, (∀ w', Calls Try.prog 42 #[.string (bs (textB m))] w' fun e w2 => e = .returned (.tuple #[B.val, .int .i64 0]) ∧ Below w'.heap.size w' w2) ∧ (∀ w', Calls Try.prog 44 #[B.val] w' fun e w2 => e = .returned (.string (bs (textB m))) ∧ Below w'.heap.size w' w2) ∧ B.n = m.n ∧ (∀ w', Below w.heap.size w w' → Calls Try.prog 32 #[B.val, p.val] w' fun e w2 => e = .returned (.bool (oneB B p.l)) ∧ Below w'.heap.size w' w2) ∧ B.Ok) :=
    Lib.hid (fun hc => by
      obtain ⟨e1, e2, e3⟩ := readB_text hm hc
      have hlen := (text_short hc).2.2
      have hr := fun w' => read_any (textB m) (text_lt hm) (by omega) w'
      rcases readB_is (textB m) (text_lt hm) (by omega) with h0 | ⟨_, _, h3, h4, h5, h6⟩
      · rw [h0] at e1; cases e1
      · refine ⟨(readB (textB m)).1, ?_, ?_, e3, ?_, h4⟩
        · intro w'
          have := hr w'
          unfold resVal at this
          rw [e1] at this
          exact this
        · intro w'
          have := text_any (readB (textB m)).1 (by omega) (by omega) w'
          rw [e2] at this
          exact this
        · intro w' hb
          exact mone_any p.A p.c p.l _ w' h4 (by have := hpl.1; omega) (H.below hb).1 H.2 hpl.big)
  have HOm := Lib.hid (fun w' (hb : Below w.heap.size w w') => mone_any p.A p.c p.l m w' hm (by have := hpl.1; omega) (H.below hb).1 H.2 hpl.big)
  have hread : (readB s = (zeroM, 4)) ∨ ((readB s).2 = 0 ∧ (∀ w', Calls Try.prog 44 #[(readB s).1.val] w' fun e w2 => e = .returned (.string (bs s)) ∧ Below w'.heap.size w' w2) ∧ (∀ w', Calls Try.prog 31 #[(readB s).1.val] w' fun e w2 => e = .returned (.int .i64 0) ∧ Below w'.heap.size w' w2)) := by
    rcases readB_is s hs (by omega) with h0 | ⟨h1, h2, h3, h4, h5, h6⟩
    · exact .inl h0
    · refine .inr ⟨h1, fun w' => ?_, fun w' => ?_⟩
      · have := text_any (readB s).1 (by omega) (by omega) w'
        rw [h2] at this
        exact this
      · have := check_any (readB s).1 h4 w'
        rw [h3] at this
        exact this
  have HRead := Lib.hid hread
  have z := bs_size s
  have hI : ¬ (200 : Int) < (s.length : Int) := by omega
  have hmo := hm.2.2.2.2
  have HMok := Lib.hid hm
  clear H hl hread hs hm
  unfold resVal at HR
  unfold PR.val at *
  generalize hpn : p.l.length = pn at *
  have K1 := Lib.hid ((Below.refl w.heap.size w).alloc (Nat.le_refl _) (.cells #[.string (bs m.n), .int .u8 m.op, .string (bs m.v)] 37))
  have B1 := Lib.hid (Blk.new w 37 #[.string (bs m.n), .int .u8 m.op, .string (bs m.v)])
  rcases HRead.out with h0 | ⟨h1, h2, h3⟩
  · rw [h0] at HR
    clear HRead h0
    obtain ⟨C, hC⟩ : ∃ C, checkB m = C := ⟨_, rfl⟩
    rw [hC] at HCm
    have HC := Lib.hid hC
    clear hC
    unfold Mt.val mval zeroM at *
    simp only [bs_nil] at HR
    generalize bs s = t at *
    generalize hmn : bs m.n = mn at *
    generalize hmv : bs m.v = mv at *
    generalize hmop : m.op = mop at *
    have HMN := Lib.hid hmn
    have HMV := Lib.hid hmv
    have HMO := Lib.hid hmop
    clear hmn hmv hmop hpn
    go_enter Try.func17, Try.ntmps17
    go_wp2_with fail
    refine (HL.out _ K1.out).mono ?_
    rintro e w1 ⟨rfl, hk⟩
    have K2 := Lib.hid (below_then K1.out K1.out.size hk)
    have B2 := Lib.hid (B1.out.below hk B1.out.lt)
    clear hk
    go_wp2_with fail
    refine (HR.out _).mono ?_
    rintro e w2 ⟨rfl, hk⟩
    have K3 := Lib.hid (below_then K2.out K2.out.size hk)
    have B3 := Lib.hid (B2.out.below hk B2.out.lt)
    clear hk
    have K5 := Lib.hid (K3.out.alloc K3.out.size (.cells #[.string ⟨#[]⟩, .int .u8 0, .string ⟨#[]⟩] 37))
    have B5 := Lib.hid (B3.out.alloc (.cells #[.string ⟨#[]⟩, .int .u8 0, .string ⟨#[]⟩] 37))
    go_upto_region 6 with fail
    generalize w2.alloc (.cells #[.string ⟨#[]⟩, .int .u8 0, .string ⟨#[]⟩] 37) = w5 at *
    clear B1 B2 HR
    have m0 := B5.out.cell 0
    have m1 := B5.out.cell 1
    have m2 := B5.out.cell 2
    simp only [List.getElem?_toArray, List.getElem?_cons_zero, List.getElem?_cons_succ] at m0 m1 m2
    go_wp2_with fail
    refine (HCm.out _).mono ?_
    rintro e w6 ⟨rfl, hk⟩
    have K6 := Lib.hid (below_then K5.out K5.out.size hk)
    have B6 := Lib.hid (B5.out.below hk B5.out.lt)
    clear hk m0 m1 m2
    by_cases hC0 : C = 0
    · subst hC0
      obtain ⟨B, r1, r2, r3, r4, r5⟩ := HRm.out HC.out
      have htm := HTm.out HC.out
      have hbv := bs_beq r5.2.2.1 HMok.out.2.2.1
      have hop : (B.op == m.op) = decide (B.op = m.op) := by rw [Bool.eq_iff_iff]; simp
      have hBm : B = m ∨ B.op ≠ m.op ∨ B.v ≠ m.v := by
        by_cases e1 : B.op = m.op
        · by_cases e2 : B.v = m.v
          · left
            cases B; cases m
            simp only at r3 e1 e2
            subst r3 e1 e2
            rfl
          · exact .inr (.inr e2)
        · exact .inr (.inl e1)
      rw [r3, HMN.out] at r1 r2 r4
      rw [HMV.out] at hbv
      rw [HMO.out] at hop
      have R1 := Lib.hid r1
      have R2 := Lib.hid r2
      have R4 := Lib.hid r4
      have HTT := Lib.hid htm
      have HBV := Lib.hid hbv
      have HOP := Lib.hid hop
      have HBM := Lib.hid hBm
      clear r1 r2 r3 r4 r5 htm hbv hop hBm HRm HTm HMok
      generalize hbvv : bs B.v = bv at *
      generalize hboo : B.op = bo at *
      generalize bs (textB m) = tt at *
      have HBVV := Lib.hid hbvv
      have HBOO := Lib.hid hboo
      clear hbvv hboo
      have m0 := B6.out.cell 0
      have m1 := B6.out.cell 1
      have m2 := B6.out.cell 2
      simp only [List.getElem?_toArray, List.getElem?_cons_zero, List.getElem?_cons_succ] at m0 m1 m2
      go_wp2_with fail
      refine (HTT.out _).mono ?_
      rintro e w7 ⟨rfl, hk⟩
      have K7 := Lib.hid (below_then K6.out K6.out.size hk)
      have B7 := Lib.hid (B6.out.below hk B6.out.lt)
      clear hk m0 m1 m2
      go_wp2_with fail
      refine (R1.out _).mono ?_
      rintro e w8 ⟨rfl, hk⟩
      have K8 := Lib.hid (below_then K7.out K7.out.size hk)
      have B8 := Lib.hid (B7.out.below hk B7.out.lt)
      clear hk
      have K9 := Lib.hid (K8.out.alloc K8.out.size (.cells #[.string mn, .int .u8 bo, .string bv] 37))
      have B9 := Lib.hid (B8.out.alloc (.cells #[.string mn, .int .u8 bo, .string bv] 37))
      have N9 := Lib.hid (Blk.new w8 37 #[.string mn, .int .u8 bo, .string bv])
      go_upto_region 9 with fail
      generalize w8.alloc (.cells #[.string mn, .int .u8 bo, .string bv] 37) = w9 at *
      have e0 := fun y : Ext w9.heap.size w9 => (Ext.blk B9.out B9.out.lt (x := y)).cell 0
      have e1 := fun y : Ext w9.heap.size w9 => (Ext.blk B9.out B9.out.lt (x := y)).cell 1
      have e2 := fun y : Ext w9.heap.size w9 => (Ext.blk B9.out B9.out.lt (x := y)).cell 2
      have f0 := fun y : Ext w9.heap.size w9 => (Ext.blk N9.out N9.out.lt (x := y)).cell 0
      have f1 := fun y : Ext w9.heap.size w9 => (Ext.blk N9.out N9.out.lt (x := y)).cell 1
      have f2 := fun y : Ext w9.heap.size w9 => (Ext.blk N9.out N9.out.lt (x := y)).cell 2
      simp only [List.getElem?_toArray, List.getElem?_cons_zero, List.getElem?_cons_succ] at e0 e1 e2 f0 f1 f2
      have hne1 : (tt.toList != tt.toList) = false := by simp
      have hne2 : (mn.toList != mn.toList) = false := by simp
      refine wp_region_exts (by kernel_rfl) (by kernel_rfl) ?_
      repeat
        first
          | go_big_quiet_skip
          | (go_big_quiet_want; go_big_quiet_op
             first
               | go_big_quiet_on
               | (apply Exists.intro
                  refine ⟨fun x => ?_, ?_⟩
                  · (first
                      | (go_at_call 44; with_reducible exact calls_ext (Nat.le_refl _) (HTT.out _))
                      | (go_at_call 44; with_reducible exact calls_ext (Nat.le_refl _) (R2.out _)))
                  go_big_quiet_on
                  try (skip)))
      refine wpQuiet_nil ?_
      rintro _ ⟨x, rfl⟩
      have KX := Lib.hid (below_then K9.out K9.out.size x.h)
      have BX := Lib.hid (B9.out.below x.h B9.out.lt)
      have NX := Lib.hid (N9.out.below x.h N9.out.lt)
      clear e0 e1 e2 f0 f1 f2
      generalize x.W = wx at *
      have e0 := fun y : Ext wx.heap.size wx => (Ext.blk BX.out BX.out.lt (x := y)).cell 0
      have e1 := fun y : Ext wx.heap.size wx => (Ext.blk BX.out BX.out.lt (x := y)).cell 1
      have e2 := fun y : Ext wx.heap.size wx => (Ext.blk BX.out BX.out.lt (x := y)).cell 2
      have f0 := fun y : Ext wx.heap.size wx => (Ext.blk NX.out NX.out.lt (x := y)).cell 0
      have f1 := fun y : Ext wx.heap.size wx => (Ext.blk NX.out NX.out.lt (x := y)).cell 1
      have f2 := fun y : Ext wx.heap.size wx => (Ext.blk NX.out NX.out.lt (x := y)).cell 2
      simp only [List.getElem?_toArray, List.getElem?_cons_zero, List.getElem?_cons_succ] at e0 e1 e2 f0 f1 f2
      go_upto_region 11 with fail
      rcases HBM.out with hb | hb | hb
      · subst hb
        have ebo : bo = mop := HBOO.out.symm.trans HMO.out
        have ebv : bv = mv := HBVV.out.symm.trans HMV.out
        subst ebo ebv
        have hne3 : (bv.toList != bv.toList) = false := by simp
        have HQ1 : Hid (∀ x : Ext wx.heap.size wx, Calls Try.prog 32 #[.agg #[.string mn, .int .u8 bo, .string bv], .slice p.A pn p.c] x.W fun e w' => e = .returned (.bool (oneB B p.l)) ∧ Below x.W.heap.size x.W w') := Lib.hid (fun x => HOm.out _ (below_then KX.out KX.out.size x.h))
        generalize oneB B p.l = Q at *
        clear HBV HOP HBM
        cases Q
        all_goals
          refine wp_region_exts (by kernel_rfl) (by kernel_rfl) ?_
          repeat
            first
              | go_big_quiet_skip
              | (go_big_quiet_want; go_big_quiet_op
                 first
                   | go_big_quiet_on
                   | (apply Exists.intro
                      refine ⟨fun x => ?_, ?_⟩
                      · (first
                          | (go_at_call 32; with_reducible exact calls_ext (Nat.le_refl _) (HQ1.out x))
                          | (go_at_call 30; exact calls_ext (Nat.le_refl _) (awake4 _)))
                      go_big_quiet_on
                      try (skip)))
          refine wpQuiet_nil ?_
          rintro _ ⟨x, rfl⟩
          have KY := Lib.hid (below_then KX.out KX.out.size x.h)
          clear e0 e1 e2 f0 f1 f2
          go_wp2
          go_ret
          exact ⟨rfl, KY.out⟩
      · have hop2 : (bo == mop) = false := by rw [HOP.out, decide_eq_false_iff_not]; rw [← HMO.out]; exact hb
        clear HBV HOP HBM
        refine wp_region_exts (by kernel_rfl) (by kernel_rfl) ?_
        repeat
          first
            | go_big_quiet_skip
            | (go_big_quiet_want; go_big_quiet_op
               first
                 | go_big_quiet_on
                 | (apply Exists.intro
                    refine ⟨fun x => ?_, ?_⟩
                    · (first
                        | (go_at_call 30; exact calls_ext (Nat.le_refl _) (awake4 _)))
                    go_big_quiet_on
                    try (skip)))
        refine wpQuiet_nil ?_
        rintro _ ⟨x, rfl⟩
        have KY := Lib.hid (below_then KX.out KX.out.size x.h)
        clear e0 e1 e2 f0 f1 f2
        go_wp2
        go_ret
        exact ⟨rfl, KY.out⟩
      · have hbv2 : (bv.toList == mv.toList) = false := by rw [HBV.out, decide_eq_false_iff_not]; exact hb
        clear HBV HOP HBM
        refine wp_region_exts (by kernel_rfl) (by kernel_rfl) ?_
        repeat
          first
            | go_big_quiet_skip
            | (go_big_quiet_want; go_big_quiet_op
               first
                 | go_big_quiet_on
                 | (apply Exists.intro
                    refine ⟨fun x => ?_, ?_⟩
                    · (first
                        | (go_at_call 30; exact calls_ext (Nat.le_refl _) (awake4 _)))
                    go_big_quiet_on
                    try (skip)))
        refine wpQuiet_nil ?_
        rintro _ ⟨x, rfl⟩
        have KY := Lib.hid (below_then KX.out KX.out.size x.h)
        clear e0 e1 e2 f0 f1 f2
        go_wp2
        go_ret
        exact ⟨rfl, KY.out⟩
    · have hz : (C != 0) = true := by rw [bne_iff_ne]; exact hC0
      go_wp2_with fail
      refine (awake4 _).mono ?_
      rintro e w7 ⟨rfl, hk⟩
      have K7 := Lib.hid (below_then K6.out K6.out.size hk)
      clear hk
      go_wp2
      go_ret
      exact ⟨rfl, K7.out⟩
  · obtain ⟨A, hA⟩ : ∃ A, (readB s).1 = A := ⟨_, rfl⟩
    rw [hA] at HR h2 h3
    rw [h1] at HR
    have HTA := Lib.hid h2
    have HCA := Lib.hid h3
    clear HRead h1 h2 h3 hA
    obtain ⟨C, hC⟩ : ∃ C, checkB m = C := ⟨_, rfl⟩
    rw [hC] at HCm
    have HC := Lib.hid hC
    clear hC
    unfold Mt.val mval at *
    generalize bs s = t at *
    generalize bs A.n = an at *
    generalize bs A.v = av at *
    generalize A.op = ao at *
    generalize hmn : bs m.n = mn at *
    generalize hmv : bs m.v = mv at *
    generalize hmop : m.op = mop at *
    have HMN := Lib.hid hmn
    have HMV := Lib.hid hmv
    have HMO := Lib.hid hmop
    clear hmn hmv hmop hpn
    go_enter Try.func17, Try.ntmps17
    go_wp2_with fail
    refine (HL.out _ K1.out).mono ?_
    rintro e w1 ⟨rfl, hk⟩
    have K2 := Lib.hid (below_then K1.out K1.out.size hk)
    have B2 := Lib.hid (B1.out.below hk B1.out.lt)
    clear hk
    go_wp2_with fail
    refine (HR.out _).mono ?_
    rintro e w2 ⟨rfl, hk⟩
    have K3 := Lib.hid (below_then K2.out K2.out.size hk)
    have B3 := Lib.hid (B2.out.below hk B2.out.lt)
    clear hk
    have K3' := Lib.hid (K3.out.alloc K3.out.size (.cells #[.string an, .int .u8 ao, .string av] 37))
    have B3' := Lib.hid (B3.out.alloc (.cells #[.string an, .int .u8 ao, .string av] 37))
    have N3 := Lib.hid (Blk.new w2 37 #[.string an, .int .u8 ao, .string av])
    go_wp2_with fail
    refine (HTA.out _).mono ?_
    rintro e w4 ⟨rfl, hk⟩
    have K4 := Lib.hid (below_then K3'.out K3'.out.size hk)
    have B4 := Lib.hid (B3'.out.below hk B3'.out.lt)
    have N4 := Lib.hid (N3.out.below hk N3.out.lt)
    clear hk
    have hne0 : (t.toList != t.toList) = false := by simp
    have n0 := N4.out.cell 0
    have n1 := N4.out.cell 1
    have n2 := N4.out.cell 2
    simp only [List.getElem?_toArray, List.getElem?_cons_zero, List.getElem?_cons_succ] at n0 n1 n2
    go_wp2_with fail
    refine (HCA.out _).mono ?_
    rintro e w5 ⟨rfl, hk⟩
    have K5 := Lib.hid (below_then K4.out K4.out.size hk)
    have B5 := Lib.hid (B4.out.below hk B4.out.lt)
    clear hk n0 n1 n2 N3 N4
    go_upto_region 6 with fail
    clear B1 B2 HR
    have m0 := B5.out.cell 0
    have m1 := B5.out.cell 1
    have m2 := B5.out.cell 2
    simp only [List.getElem?_toArray, List.getElem?_cons_zero, List.getElem?_cons_succ] at m0 m1 m2
    go_wp2_with fail
    refine (HCm.out _).mono ?_
    rintro e w6 ⟨rfl, hk⟩
    have K6 := Lib.hid (below_then K5.out K5.out.size hk)
    have B6 := Lib.hid (B5.out.below hk B5.out.lt)
    clear hk m0 m1 m2
    by_cases hC0 : C = 0
    · subst hC0
      obtain ⟨B, r1, r2, r3, r4, r5⟩ := HRm.out HC.out
      have htm := HTm.out HC.out
      have hbv := bs_beq r5.2.2.1 HMok.out.2.2.1
      have hop : (B.op == m.op) = decide (B.op = m.op) := by rw [Bool.eq_iff_iff]; simp
      have hBm : B = m ∨ B.op ≠ m.op ∨ B.v ≠ m.v := by
        by_cases e1 : B.op = m.op
        · by_cases e2 : B.v = m.v
          · left
            cases B; cases m
            simp only at r3 e1 e2
            subst r3 e1 e2
            rfl
          · exact .inr (.inr e2)
        · exact .inr (.inl e1)
      rw [r3, HMN.out] at r1 r2 r4
      rw [HMV.out] at hbv
      rw [HMO.out] at hop
      have R1 := Lib.hid r1
      have R2 := Lib.hid r2
      have R4 := Lib.hid r4
      have HTT := Lib.hid htm
      have HBV := Lib.hid hbv
      have HOP := Lib.hid hop
      have HBM := Lib.hid hBm
      clear r1 r2 r3 r4 r5 htm hbv hop hBm HRm HTm HMok
      generalize hbvv : bs B.v = bv at *
      generalize hboo : B.op = bo at *
      generalize bs (textB m) = tt at *
      have HBVV := Lib.hid hbvv
      have HBOO := Lib.hid hboo
      clear hbvv hboo
      have m0 := B6.out.cell 0
      have m1 := B6.out.cell 1
      have m2 := B6.out.cell 2
      simp only [List.getElem?_toArray, List.getElem?_cons_zero, List.getElem?_cons_succ] at m0 m1 m2
      go_wp2_with fail
      refine (HTT.out _).mono ?_
      rintro e w7 ⟨rfl, hk⟩
      have K7 := Lib.hid (below_then K6.out K6.out.size hk)
      have B7 := Lib.hid (B6.out.below hk B6.out.lt)
      clear hk m0 m1 m2
      go_wp2_with fail
      refine (R1.out _).mono ?_
      rintro e w8 ⟨rfl, hk⟩
      have K8 := Lib.hid (below_then K7.out K7.out.size hk)
      have B8 := Lib.hid (B7.out.below hk B7.out.lt)
      clear hk
      have K9 := Lib.hid (K8.out.alloc K8.out.size (.cells #[.string mn, .int .u8 bo, .string bv] 37))
      have B9 := Lib.hid (B8.out.alloc (.cells #[.string mn, .int .u8 bo, .string bv] 37))
      have N9 := Lib.hid (Blk.new w8 37 #[.string mn, .int .u8 bo, .string bv])
      go_upto_region 9 with fail
      generalize w8.alloc (.cells #[.string mn, .int .u8 bo, .string bv] 37) = w9 at *
      have e0 := fun y : Ext w9.heap.size w9 => (Ext.blk B9.out B9.out.lt (x := y)).cell 0
      have e1 := fun y : Ext w9.heap.size w9 => (Ext.blk B9.out B9.out.lt (x := y)).cell 1
      have e2 := fun y : Ext w9.heap.size w9 => (Ext.blk B9.out B9.out.lt (x := y)).cell 2
      have f0 := fun y : Ext w9.heap.size w9 => (Ext.blk N9.out N9.out.lt (x := y)).cell 0
      have f1 := fun y : Ext w9.heap.size w9 => (Ext.blk N9.out N9.out.lt (x := y)).cell 1
      have f2 := fun y : Ext w9.heap.size w9 => (Ext.blk N9.out N9.out.lt (x := y)).cell 2
      simp only [List.getElem?_toArray, List.getElem?_cons_zero, List.getElem?_cons_succ] at e0 e1 e2 f0 f1 f2
      have hne1 : (tt.toList != tt.toList) = false := by simp
      have hne2 : (mn.toList != mn.toList) = false := by simp
      refine wp_region_exts (by kernel_rfl) (by kernel_rfl) ?_
      repeat
        first
          | go_big_quiet_skip
          | (go_big_quiet_want; go_big_quiet_op
             first
               | go_big_quiet_on
               | (apply Exists.intro
                  refine ⟨fun x => ?_, ?_⟩
                  · (first
                      | (go_at_call 44; with_reducible exact calls_ext (Nat.le_refl _) (HTT.out _))
                      | (go_at_call 44; with_reducible exact calls_ext (Nat.le_refl _) (R2.out _)))
                  go_big_quiet_on
                  try (skip)))
      refine wpQuiet_nil ?_
      rintro _ ⟨x, rfl⟩
      have KX := Lib.hid (below_then K9.out K9.out.size x.h)
      have BX := Lib.hid (B9.out.below x.h B9.out.lt)
      have NX := Lib.hid (N9.out.below x.h N9.out.lt)
      clear e0 e1 e2 f0 f1 f2
      generalize x.W = wx at *
      have e0 := fun y : Ext wx.heap.size wx => (Ext.blk BX.out BX.out.lt (x := y)).cell 0
      have e1 := fun y : Ext wx.heap.size wx => (Ext.blk BX.out BX.out.lt (x := y)).cell 1
      have e2 := fun y : Ext wx.heap.size wx => (Ext.blk BX.out BX.out.lt (x := y)).cell 2
      have f0 := fun y : Ext wx.heap.size wx => (Ext.blk NX.out NX.out.lt (x := y)).cell 0
      have f1 := fun y : Ext wx.heap.size wx => (Ext.blk NX.out NX.out.lt (x := y)).cell 1
      have f2 := fun y : Ext wx.heap.size wx => (Ext.blk NX.out NX.out.lt (x := y)).cell 2
      simp only [List.getElem?_toArray, List.getElem?_cons_zero, List.getElem?_cons_succ] at e0 e1 e2 f0 f1 f2
      go_upto_region 11 with fail
      rcases HBM.out with hb | hb | hb
      · subst hb
        have ebo : bo = mop := HBOO.out.symm.trans HMO.out
        have ebv : bv = mv := HBVV.out.symm.trans HMV.out
        subst ebo ebv
        have hne3 : (bv.toList != bv.toList) = false := by simp
        have HQ1 : Hid (∀ x : Ext wx.heap.size wx, Calls Try.prog 32 #[.agg #[.string mn, .int .u8 bo, .string bv], .slice p.A pn p.c] x.W fun e w' => e = .returned (.bool (oneB B p.l)) ∧ Below x.W.heap.size x.W w') := Lib.hid (fun x => HOm.out _ (below_then KX.out KX.out.size x.h))
        generalize oneB B p.l = Q at *
        clear HBV HOP HBM
        cases Q
        all_goals
          refine wp_region_exts (by kernel_rfl) (by kernel_rfl) ?_
          repeat
            first
              | go_big_quiet_skip
              | (go_big_quiet_want; go_big_quiet_op
                 first
                   | go_big_quiet_on
                   | (apply Exists.intro
                      refine ⟨fun x => ?_, ?_⟩
                      · (first
                          | (go_at_call 32; with_reducible exact calls_ext (Nat.le_refl _) (HQ1.out x))
                          | (go_at_call 30; exact calls_ext (Nat.le_refl _) (awake4 _)))
                      go_big_quiet_on
                      try (skip)))
          refine wpQuiet_nil ?_
          rintro _ ⟨x, rfl⟩
          have KY := Lib.hid (below_then KX.out KX.out.size x.h)
          clear e0 e1 e2 f0 f1 f2
          go_wp2
          go_ret
          exact ⟨rfl, KY.out⟩
      · have hop2 : (bo == mop) = false := by rw [HOP.out, decide_eq_false_iff_not]; rw [← HMO.out]; exact hb
        clear HBV HOP HBM
        refine wp_region_exts (by kernel_rfl) (by kernel_rfl) ?_
        repeat
          first
            | go_big_quiet_skip
            | (go_big_quiet_want; go_big_quiet_op
               first
                 | go_big_quiet_on
                 | (apply Exists.intro
                    refine ⟨fun x => ?_, ?_⟩
                    · (first
                        | (go_at_call 30; exact calls_ext (Nat.le_refl _) (awake4 _)))
                    go_big_quiet_on
                    try (skip)))
        refine wpQuiet_nil ?_
        rintro _ ⟨x, rfl⟩
        have KY := Lib.hid (below_then KX.out KX.out.size x.h)
        clear e0 e1 e2 f0 f1 f2
        go_wp2
        go_ret
        exact ⟨rfl, KY.out⟩
      · have hbv2 : (bv.toList == mv.toList) = false := by rw [HBV.out, decide_eq_false_iff_not]; exact hb
        clear HBV HOP HBM
        refine wp_region_exts (by kernel_rfl) (by kernel_rfl) ?_
        repeat
          first
            | go_big_quiet_skip
            | (go_big_quiet_want; go_big_quiet_op
               first
                 | go_big_quiet_on
                 | (apply Exists.intro
                    refine ⟨fun x => ?_, ?_⟩
                    · (first
                        | (go_at_call 30; exact calls_ext (Nat.le_refl _) (awake4 _)))
                    go_big_quiet_on
                    try (skip)))
        refine wpQuiet_nil ?_
        rintro _ ⟨x, rfl⟩
        have KY := Lib.hid (below_then KX.out KX.out.size x.h)
        clear e0 e1 e2 f0 f1 f2
        go_wp2
        go_ret
        exact ⟨rfl, KY.out⟩
    · have hz : (C != 0) = true := by rw [bne_iff_ne]; exact hC0
      go_wp2_with fail
      refine (awake4 _).mono ?_
      rintro e w7 ⟨rfl, hk⟩
      have K7 := Lib.hid (below_then K6.out K6.out.size hk)
      clear hk
      go_wp2
      go_ret
      exact ⟨rfl, K7.out⟩
theorem back_law (m : Mt) (hm : m.Ok) (s : List Nat) (hs : TxOk s) (p : PR) (w : World) (H : p.In w) : Calls Try.prog 17 #[m.val, .string (bs s), p.val] w fun e w' => e = .returned (.bool true) ∧ Below w.heap.size w w' := by
  by_cases h : 200 < s.length
  · exact back_far m s _ w h
  · cases hl : lightB p.l with
    | false => exact back_dark m s p w h H hl
    | true => exact back_main m hm s hs.1 p w (by omega) H hl
set_option maxRecDepth 100000 in
theorem matchBack_lifted (os : Os) (started : os.Started) (H : Type) (enc : TypeId × Value → H) :
    ReturnsInHanded {} Try.checked os 17 .any (Rows.matchBackSpec.pre6 enc Try.prog Try.f17 Rows.matchBackRow.domain false) (Rows.matchBackSpec.post enc Try.prog Try.f17 false true false false) := by
  refine returnsInHanded_of_change (C := Try.checked) tOwn started (by kernel_rfl) Try.func17
    (ChangeSpec.witness6 (enc := enc) (C := Try.checked) false ⟨#[], #[.agg #[.string ⟨#[]⟩, .int .u8 0, .string ⟨#[]⟩], .string ⟨#[]⟩, .slice none 0 0], []⟩ 8 (by kernel_rfl) (by kernel_rfl) (by kernel_rfl) (by kernel_rfl)) ?_
  intro W base args ds gs before hval0 hW hcnd _
  have hval : ∀ (j : Nat) t v, Try.f17.params[j]? = some t → args[j]? = some v → Value.okWide Try.prog W .any base t v := hval0
  have hW' := hW
  obtain ⟨p, q, hA0, hV, rfl, hfz, hnd⟩ := hW
  have hA : DataW.TrodAll enc Try.prog W 0 (fun _ => true) true Try.f17.params.toList args.toList ds p := hA0
  rw [Try.params17] at hA hval
  obtain ⟨v0, vs0, d0, ds0, p0, q0, hargs, rfl, rfl, h0, r0⟩ := trodAll_cons hA
  obtain ⟨v1, vs1, d1, ds1, p1, q1, rfl, rfl, rfl, h1, r1⟩ := trodAll_cons r0
  obtain ⟨v2, vs2, d2, ds2, p2, q2, rfl, rfl, rfl, h2, r2⟩ := trodAll_cons r1
  obtain ⟨rfl, rfl, rfl⟩ := trodAll_nil r2
  obtain rfl : args = #[v0, v1, v2] := by cases args; simp_all
  obtain ⟨m, rfl, om⟩ := open_matcher (hval 0 37 v0 rfl rfl) h0
  obtain ⟨t, rfl, ot⟩ := open_tx (hval 1 9 v1 rfl rfl) h1
  obtain ⟨p, rfl, ip⟩ := open_pr (hval 2 38 v2 rfl rfl) h2
  refine (back_law m om t ot p W ip).mono fun e W' ⟨he, hb⟩ => ?_
  subst he
  exact ⟨_, rfl, law_post tLaid (by decide +kernel) hW' rfl (by kernel_rfl) Try.underlying4 rfl hb⟩

/-- The closed facts of the row. -/
theorem matchBack_facts : joinedFacts Try.pinned.checked.prog 17 Try.f17 Rows.matchBackSpec Rows.matchBackRow = true := joined_at 17 Try.f17 Rows.matchBackSpec Rows.matchBackRow (by
  intro P hP h1 h2 h3
  unfold joinedFacts
  rw [h1, h2, h3]
  subst hP
  kernel_rfl)
/-- The statement. -/
theorem matchBack_holds : Rows.MatchBackSaid :=
  OpenClaim.holds_of_wide 17 Try.f17 rfl rfl rfl rfl rfl rfl rfl ⟨rfl, rfl, rfl, rfl, rfl⟩ rfl rfl rfl rfl rfl (by kernel_rfl) Try.func17 matchBack_facts
    (of_decide_eq_true (by kernel_rfl)) (by unfold Func.isWrapper; rw [if_neg (of_decide_eq_false (by kernel_rfl))]; exact ⟨rfl, rfl⟩)
    (fun os started H enc _ => matchBack_lifted os started H enc)
#print axioms matchBack_holds
end Go.Proofs.Ytnidjfmbbfoheaa
