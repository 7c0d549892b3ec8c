/- The statement MemberRefutes: whatever is said of a node, it says of itself what is above that, and alive; who hears both sees it alive. Conditions: none. -/
import Derived.Test.YtnlpgjdgiappcaaMbAwake
import Derived.Test.YtnlpgjdgiappcaaMbRefPure
import Derived.Test.YtnlpgjdgiappcaaMbOpen
import Derived.Test.YtnlpgjdgiappcaaCr
namespace Go.Proofs.Ytnlpgjdgiappcaa
set_option linter.unusedVariables false
set_option linter.unusedSimpArgs false
open Go.ChangeShapes Go.WideShapes Go.ChangeAt Go.RowKit

theorem keepS_then {B : Nat} {w W w2 : World} (hs : B ≤ w.heap.size) (h : SB B w W) (k : Below W.heap.size W w2) : SB B w w2 := keepB_then hs h.2.2 k

set_option maxRecDepth 100000 in
set_option maxHeartbeats 2000000 in
theorem refutes_walk (a b : Int) (m : Pl.M) (w : World) (ha : 0 ≤ a ∧ a ≤ 65535) (hb : 0 ≤ b ∧ b ≤ 65535) (hm : Pl.MOk m) :
    Calls Try.prog 3 #[.int .u16 a, .agg (mcells m), .int .u16 b] w fun e w' => e = .returned (.bool true) ∧ Below w.heap.size w w' := by
  obtain ⟨n, s, i⟩ := m
  obtain ⟨zk, hz⟩ : ∃ zk : Nat, a % 64 = (zk : Int) := ⟨(a % 64).toNat, by omega⟩
  obtain ⟨o, ho⟩ : ∃ o, b % 64 = o := ⟨_, rfl⟩
  have hz0 : 0 ≤ (zk : Int) := by omega
  have hz1 : (zk : Int) < 64 := by omega
  have ho0 : 0 ≤ o := by omega
  have ho1 : o < 64 := by omega
  have hm2 : Pl.MOk ⟨(zk : Int), s, i⟩ := ⟨hz0, by simp only; omega, hm.s0, hm.s1, hm.i0, hm.i1⟩
  by_cases c1 : Pl.mayM ⟨(zk : Int), s, i⟩ = true
  · by_cases c2 : i = 1073741824
    · have t2 : (i == 1073741824) = true := by simpa using c2
      clear c2
      have C1 := Lib.hid c1
      unfold mcells
      go_enter Try.func3, Try.ntmps3
      go_wp2_with fail
      refine (refMay_any ⟨(zk : Int), s, i⟩ _ hm2).mono ?_
      rw [C1.out]
      rintro e w1 ⟨rfl, hb1⟩
      have b1 := (Blk.new w 25 #[.int .u16 (zk : Int), .int .u8 s, .int .i64 i]).below hb1 (by simp)
      have q2 := b1.cell 2
      simp only [List.getElem?_toArray, List.getElem?_cons_zero, List.getElem?_cons_succ] at q2
      have K1 := Lib.hid (((Below.refl _ w).alloc (Nat.le_refl _) (.cells #[.int .u16 (zk : Int), .int .u8 s, .int .i64 i] 25)).trans (hb1.mono (by simp)))
      clear b1 hb1 c1
      go_wp2_with fail
      refine (awake_any _).mono ?_
      rintro e w2 ⟨rfl, hb2⟩
      have K2 := Lib.hid (below_then K1.out K1.out.size hb2)
      clear hb2
      go_wp2
      go_ret
      exact ⟨rfl, K2.out⟩
    · by_cases c3 : (zk : Int) = o
      · have t2 : (i == 1073741824) = false := by simpa using c2
        have t3 : ((zk : Int) == o) = true := by simpa using c3
        clear c2 c3
        have C1 := Lib.hid c1
        unfold mcells
        go_enter Try.func3, Try.ntmps3
        go_wp2_with fail
        refine (refMay_any ⟨(zk : Int), s, i⟩ _ hm2).mono ?_
        rw [C1.out]
        rintro e w1 ⟨rfl, hb1⟩
        have b1 := (Blk.new w 25 #[.int .u16 (zk : Int), .int .u8 s, .int .i64 i]).below hb1 (by simp)
        have q2 := b1.cell 2
        simp only [List.getElem?_toArray, List.getElem?_cons_zero, List.getElem?_cons_succ] at q2
        have K1 := Lib.hid (((Below.refl _ w).alloc (Nat.le_refl _) (.cells #[.int .u16 (zk : Int), .int .u8 s, .int .i64 i] 25)).trans (hb1.mono (by simp)))
        clear b1 hb1 c1
        go_wp2_with fail
        refine (awake_any _).mono ?_
        rintro e w2 ⟨rfl, hb2⟩
        have K2 := Lib.hid (below_then K1.out K1.out.size hb2)
        clear hb2
        go_wp2
        go_ret
        exact ⟨rfl, K2.out⟩
      · obtain ⟨⟨sn, ss, si⟩, p1, p2, p3, p4, p5, p6, p7, p8⟩ := Pl.refutes (zk : Int) o ⟨(zk : Int), s, i⟩ hz0 hz1 c1 rfl hm.s0 c2 c3 ho0
        simp only at p2 p6 p7 p8
        subst p2 p6
        have hzk : zk < 64 := by omega
        have hS : Pl.MOk ⟨(zk : Int), 0, si⟩ := mok_lit _ _ _ (by omega)
        rw [Int.toNat_natCast] at p4
        have t2 : (i == 1073741824) = false := by simpa using c2
        have t3 : ((zk : Int) == o) = false := by simpa using c3
        have C1 := Lib.hid c1
        have P1 := Lib.hid p1
        have P3 := Lib.hid p3
        have P4 := Lib.hid p4
        have P5 := Lib.hid p5
        clear c1 c2 c3 p1 p3 p4 p5
        unfold mcells
        go_enter Try.func3, Try.ntmps3
        go_wp2_with fail
        refine (refMay_any ⟨(zk : Int), s, i⟩ _ hm2).mono ?_
        rw [C1.out]
        rintro e w1 ⟨rfl, hb1⟩
        have b1 := (Blk.new w 25 #[.int .u16 (zk : Int), .int .u8 s, .int .i64 i]).below hb1 (by simp)
        have k1 := ((Below.refl _ w).alloc (Nat.le_refl _) (.cells #[.int .u16 (zk : Int), .int .u8 s, .int .i64 i] 25)).trans (hb1.mono (by simp))
        have q0 := b1.cell 0
        have q1 := b1.cell 1
        have q2 := b1.cell 2
        simp only [List.getElem?_toArray, List.getElem?_cons_zero, List.getElem?_cons_succ] at q0 q1 q2
        have B1 := Lib.hid b1
        have K1 := Lib.hid k1
        clear b1 k1 hb1
        go_wp2_with fail
        refine (new_any a _ ha.1 ha.2).mono ?_
        rintro e w2 ⟨g, rfl, hb2, hg, hT2⟩
        rw [hz] at hT2
        have B2 := Lib.hid (B1.out.below hb2 B1.out.lt)
        have K2 := Lib.hid (below_then K1.out K1.out.size hb2)
        have T2 := Lib.hid hT2
        clear hb2 hT2 q0 q1 q2
        go_wp2_with fail
        refine (new_any b _ hb.1 hb.2).mono ?_
        rintro e w3 ⟨h, rfl, hb3, hh, hU3⟩
        rw [ho] at hU3
        have hgh : g < h := Nat.lt_of_lt_of_le T2.out.lt hh
        have b3 := B2.out.below hb3 B2.out.lt
        have q0 := b3.cell 0
        have q1 := b3.cell 1
        have q2 := b3.cell 2
        simp only [List.getElem?_toArray, List.getElem?_cons_zero, List.getElem?_cons_succ] at q0 q1 q2
        have B3 := Lib.hid b3
        have K3 := Lib.hid (below_then K2.out K2.out.size hb3)
        have T3 := Lib.hid (T2.out.below hb3 T2.out.lt)
        have U3 := Lib.hid hU3
        clear hb3 hU3 b3
        go_wp2_with fail
        refine (hear_any g (zk : Int) _ ⟨(zk : Int), s, i⟩ _ T3.out hm2).mono ?_
        rintro e w4 ⟨rfl, hg4, hT4⟩
        have hsz : w.heap.size < w2.heap.size := Nat.lt_of_le_of_lt (by have := K1.out.size; omega) T2.out.lt
        have hgw : w.heap.size < g := Nat.lt_of_lt_of_le B1.out.lt hg
        have b4 := B3.out.grown hg4 (fun e => by injection e with e; omega)
        have q0 := b4.cell 0
        have q1 := b4.cell 1
        have q2 := b4.cell 2
        simp only [List.getElem?_toArray, List.getElem?_cons_zero, List.getElem?_cons_succ] at q0 q1 q2
        have B4 := Lib.hid b4
        have l4 : w.heap.size < w4.heap.size := b4.lt
        have n4 := Nat.ne_of_lt l4
        have K4 := Lib.hid (K3.out.grown hg4 K3.out.size (fun k e => by injection e with e; omega))
        have T4 := Lib.hid hT4
        have U4 := Lib.hid (U3.out.grown hg4 (fun e => by injection e with e; omega))
        clear hg4 hT4 b4
        generalize hx : Pl.hear (zk : Int) (Pl.newT (zk : Int)) ⟨(zk : Int), s, i⟩ = x at *
        have HX := Lib.hid hx
        clear hx
        have hx2 : x = none ∨ x = some ⟨(zk : Int), 0, si⟩ := by
          cases x with
          | none => exact .inl rfl
          | some x => exact .inr (by rw [P3.out x rfl])
        clear P3 HX
        rcases hx2 with rfl | rfl
        all_goals
          simp only [heardVal, mcells, mzero]
          go_wp2_with fail
          refine (hear_any h o _ ⟨(zk : Int), s, i⟩ _ (U4.out.alloc _) hm2).mono ?_
          rintro e w5 ⟨rfl, hg5, hU5⟩
          have l5 : w4.heap.size < w5.heap.size := Nat.lt_of_lt_of_le (by simp) hg5.size
          have l5' : w.heap.size < w5.heap.size := by omega
          have K5 := Lib.hid ((K4.out.alloc K4.out.size _).grown hg5 (by have := K4.out.size; simp; omega) (fun k e => by injection e with e; have := U4.out.lt; have := K3.out.size; omega))
          have b5 := (B4.out.alloc _).grown hg5 (fun e => by injection e with e; omega)
          have a5 := (Blk.new w4 25 _).grown hg5 (fun e => by injection e with e; have := U4.out.lt; omega)
          have B5 := Lib.hid b5
          have A5 := Lib.hid a5
          have T5 := Lib.hid ((T4.out.alloc _).grown hg5 (fun e => by injection e with e; omega))
          have U5 := Lib.hid hU5
          clear b5 a5 hg5 hU5 q0 q1 q2
          go_wp2_with fail
          refine (self_any g (zk : Int) _ ⟨(zk : Int), 0, si⟩ _ T5.out hz0 hz1 P1.out).mono ?_
          rintro e w6 ⟨rfl, hb6⟩
          have K6 := Lib.hid (below_then K5.out K5.out.size hb6)
          have B6 := Lib.hid (B5.out.below hb6 B5.out.lt)
          have A6 := Lib.hid (A5.out.below hb6 A5.out.lt)
          have T6 := Lib.hid (T5.out.below hb6 T5.out.lt)
          have U6 := Lib.hid (U5.out.below hb6 U5.out.lt)
          have l6 : w4.heap.size < w6.heap.size := A6.out.lt
          clear hb6
          go_wp2_with fail
          refine (hear_any h o _ ⟨(zk : Int), 0, si⟩ _ U6.out hS).mono ?_
          rintro e w7 ⟨rfl, hg7, hU7⟩
          have K7 := Lib.hid (K6.out.grown hg7 K6.out.size (fun k e => by injection e with e; have := U4.out.lt; have := K3.out.size; omega))
          have B7 := Lib.hid (B6.out.grown hg7 (fun e => by injection e with e; omega))
          have A7 := Lib.hid (A6.out.grown hg7 (fun e => by injection e with e; have := U4.out.lt; omega))
          have T7 := Lib.hid (T6.out.grown hg7 (fun e => by injection e with e; omega))
          have U7 := Lib.hid hU7
          clear hg7 hU7
          go_wp2_with fail
          refine (get_near h o _ zk (some ⟨(zk : Int), 0, si⟩) _ U7.out hzk P4.out).mono ?_
          rintro e w8 ⟨rfl, hb8⟩
          have K8 := Lib.hid (below_then K7.out K7.out.size hb8)
          have B8 := Lib.hid (B7.out.below hb8 B7.out.lt)
          have A8 := Lib.hid (A7.out.below hb8 A7.out.lt)
          have T8 := Lib.hid (T7.out.below hb8 T7.out.lt)
          clear hb8
          simp only [getVal, mcells]
          go_wp2_with fail
          have B9 := Lib.hid (B8.out.alloc (.cells #[.int .u16 (zk : Int), .int .u8 0, .int .i64 si] 25))
          have A9 := Lib.hid (A8.out.alloc (.cells #[.int .u16 (zk : Int), .int .u8 0, .int .i64 si] 25))
          have C9 := Lib.hid (Blk.new w8 25 #[.int .u16 (zk : Int), .int .u8 0, .int .i64 si])
          have T9 := Lib.hid (T8.out.alloc (.cells #[.int .u16 (zk : Int), .int .u8 0, .int .i64 si] 25))
          have K9 := Lib.hid (K8.out.alloc K8.out.size (.cells #[.int .u16 (zk : Int), .int .u8 0, .int .i64 si] 25))
          generalize w8.alloc (.cells #[.int .u16 (zk : Int), .int .u8 0, .int .i64 si] 25) = W9 at *
          have hq0 := fun x : Ext W9.heap.size W9 => (Ext.blk B9.out B9.out.lt (x := x)).cell 0
          have hq1 := fun x : Ext W9.heap.size W9 => (Ext.blk B9.out B9.out.lt (x := x)).cell 1
          have hq2 := fun x : Ext W9.heap.size W9 => (Ext.blk B9.out B9.out.lt (x := x)).cell 2
          have hr0 := fun x : Ext W9.heap.size W9 => (Ext.blk A9.out A9.out.lt (x := x)).cell 0
          have hr1 := fun x : Ext W9.heap.size W9 => (Ext.blk A9.out A9.out.lt (x := x)).cell 1
          have hr2 := fun x : Ext W9.heap.size W9 => (Ext.blk A9.out A9.out.lt (x := x)).cell 2
          have hu0 := fun x : Ext W9.heap.size W9 => (Ext.blk C9.out C9.out.lt (x := x)).cell 0
          have hu1 := fun x : Ext W9.heap.size W9 => (Ext.blk C9.out C9.out.lt (x := x)).cell 1
          have hu2 := fun x : Ext W9.heap.size W9 => (Ext.blk C9.out C9.out.lt (x := x)).cell 2
          simp only [List.getElem?_toArray, List.getElem?_cons_zero, List.getElem?_cons_succ] at hq0 hq1 hq2 hr0 hr1 hr2 hu0 hu1 hu2
          refine wp_region_ext W9.heap.size (by kernel_rfl) (by kernel_rfl) ?_
          repeat
            refine wpQuiet_step (fun K hK => ?_)
            go_simp
            first
              | (refine hK _ ?_; clear hK K)
              | (apply Exists.intro
                 refine ⟨fun x => ?_, hK _ ?_⟩
                 first
                   | (go_at_call 19; exact calls_ext (Nat.le_refl _) (self_any g (zk : Int) _ ⟨(zk : Int), 0, si⟩ _ (T9.out.below x.h T9.out.lt) hz0 hz1 P1.out))
                   | (go_at_call 21; exact calls_ext (Nat.le_refl _) (above_any ⟨(zk : Int), s, i⟩ ⟨(zk : Int), 0, si⟩ _))
                   | (go_at_call 16; exact calls_ext (Nat.le_refl _) (awake_any _))
                 try simp only [mcells, P5.out]
                 clear hK K)
          refine wpQuiet_nil ?_
          rintro _ ⟨x, rfl⟩
          go_wp2
          go_ret
          exact ⟨rfl, below_then K9.out K9.out.size x.h⟩
  · have c1 : Pl.mayM ⟨(zk : Int), s, i⟩ = false := by simpa using c1
    have C1 := Lib.hid c1
    unfold mcells
    go_enter Try.func3, Try.ntmps3
    go_wp2_with fail
    refine (refMay_any ⟨(zk : Int), s, i⟩ _ hm2).mono ?_
    rw [C1.out]
    rintro e w1 ⟨rfl, hb1⟩
    have b1 := (Blk.new w 25 #[.int .u16 (zk : Int), .int .u8 s, .int .i64 i]).below hb1 (by simp)
    have q2 := b1.cell 2
    simp only [List.getElem?_toArray, List.getElem?_cons_zero, List.getElem?_cons_succ] at q2
    have K1 := Lib.hid (((Below.refl _ w).alloc (Nat.le_refl _) (.cells #[.int .u16 (zk : Int), .int .u8 s, .int .i64 i] 25)).trans (hb1.mono (by simp)))
    clear b1 hb1 c1
    go_wp2_with fail
    refine (awake_any _).mono ?_
    rintro e w2 ⟨rfl, hb2⟩
    have K2 := Lib.hid (below_then K1.out K1.out.size hb2)
    clear hb2
    go_wp2
    go_ret
    exact ⟨rfl, K2.out⟩

set_option maxRecDepth 100000 in
theorem refutes_lifted (os : Os) (started : os.Started) (H : Type) (enc : TypeId × Value → H) :
    ReturnsInHanded {} Try.checked os 3 .any (Rows.memberRefutesSpec.pre6 enc Try.prog Try.f3 Rows.memberRefutesRow.domain false) (Rows.memberRefutesSpec.post enc Try.prog Try.f3 false true false false) := by
  refine returnsInHanded_of_change (C := Try.checked) tOwn started (by kernel_rfl) Try.func3
    (ChangeSpec.witness6 (enc := enc) (C := Try.checked) false ⟨#[], #[.int .u16 0, .agg #[.int .u16 0, .int .u8 0, .int .i64 0], .int .u16 0], []⟩ 8 (by kernel_rfl) (by kernel_rfl) (by kernel_rfl) (by kernel_rfl)) ?_
  intro W base args ds gs before hval0 hW hcnd _
  have hval : ∀ (j : Nat) t v, Try.f3.params[j]? = some t → args[j]? = some v → Value.okWide Try.prog W .any base t v := hval0
  have hW' := hW
  obtain ⟨p, q, hA0, hV, rfl, hfz, hnd⟩ := hW
  have hA : DataW.TrodAll enc Try.prog W 0 (fun _ => true) true Try.f3.params.toList args.toList ds p := hA0
  rw [Try.params3] at hA hval
  obtain ⟨v0, v1, v2, d0, d1, d2, p0, p1, p2, rfl, rfl, rfl, h0, h1, h2⟩ := trodAll_three hA
  obtain ⟨a, rfl, rfl, rfl, wa⟩ := open_int Try.underlying22 (hval 0 22 v0 rfl rfl) h0
  obtain ⟨m, rfl, hm⟩ := open_member (hval 1 25 v1 rfl rfl) h1
  obtain ⟨b, rfl, rfl, rfl, wb⟩ := open_int Try.underlying22 (hval 2 22 v2 rfl rfl) h2
  refine (refutes_walk a b m W (bounds_u16 wa) (bounds_u16 wb) hm).mono fun e W' ⟨he, hb⟩ => ?_
  subst he
  exact ⟨_, rfl, law_post tLaid (by decide +kernel) hW' rfl (by kernel_rfl) Try.underlying4 rfl hb⟩

theorem memberRefutes_holds : Rows.MemberRefutesSaid :=
  OpenClaim.holds_of_wide 3 Try.f3 rfl rfl rfl rfl rfl rfl rfl ⟨rfl, rfl, rfl, rfl, rfl⟩ rfl rfl rfl rfl rfl (by kernel_rfl) Try.func3 (by kernel_rfl)
    (of_decide_eq_true (by kernel_rfl)) (by unfold Func.isWrapper; rw [if_neg (of_decide_eq_false (by kernel_rfl))]; exact ⟨rfl, rfl⟩)
    (fun os started H enc _ => refutes_lifted os started H enc)
#print axioms memberRefutes_holds

end Go.Proofs.Ytnlpgjdgiappcaa
