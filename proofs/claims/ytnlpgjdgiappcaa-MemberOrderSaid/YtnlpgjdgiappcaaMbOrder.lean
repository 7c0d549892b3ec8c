/- The statement MemberOrder: how others are seen does not hang on the order in which they were heard of, nor on how often. Conditions: none. -/
import Derived.Test.YtnlpgjdgiappcaaMbSame
import Derived.Test.YtnlpgjdgiappcaaMbAwake
import Derived.Test.YtnlpgjdgiappcaaMbOpen
namespace Go.Proofs.Ytnlpgjdgiappcaa
set_option linter.unusedVariables false
set_option linter.unusedSimpArgs false
open Go.ChangeShapes Go.WideShapes Go.ChangeAt Go.RowKit

def flt (z : Int) (l : List Pl.M) : List Pl.M := l.filter (fun m => decide (m.n ≠ z))
theorem flt_yes (z : Int) (l : List Pl.M) (k : Nat) (x : Pl.M) (h : l[k]? = some x) (hx : (x.n != z) = true) : flt z (l.take (k + 1)) = flt z (l.take k) ++ [x] := by
  rw [take_one l k x h]; simp [flt, List.filter_append, List.filter_cons, show x.n ≠ z by simpa using hx]
theorem flt_no (z : Int) (l : List Pl.M) (k : Nat) (x : Pl.M) (h : l[k]? = some x) (hx : (x.n != z) = false) : flt z (l.take (k + 1)) = flt z (l.take k) := by
  rw [take_one l k x h]; simp [flt, List.filter_append, List.filter_cons, show x.n = z by simpa using hx]
theorem flt_length (z : Int) (l : List Pl.M) : (flt z l).length ≤ l.length := List.length_filter_le _ _
theorem flt_ok (z : Int) (l : List Pl.M) (h : ∀ m ∈ l, Pl.MOk m) : ∀ m ∈ flt z l, Pl.MOk m ∧ m.n ≠ z := by
  intro m hm
  have := List.mem_filter.1 hm
  exact ⟨h m this.1, by simpa using this.2⟩

set_option maxRecDepth 100000 in
set_option maxHeartbeats 4000000 in
theorem order_walk (s : Int) (A B : Option Addr) (c d : Nat) (a b : List Pl.M) (w : World) (hs : 0 ≤ s ∧ s ≤ 65535) (ha : ReadsM w (fun b => b < w.heap.size) A a) (hb : ReadsM w (fun b => b < w.heap.size) B b)
    (hma : ∀ m ∈ a, Pl.MOk m) (hmb : ∀ m ∈ b, Pl.MOk m) (h1 : a.length ≤ 100) (h2 : b.length ≤ 100) :
    Calls Try.prog 4 #[.int .u16 s, .slice A a.length c, .slice B b.length d] w fun e w' => e = .returned (.bool true) ∧ Below w.heap.size w w' := by
  obtain ⟨z, hz⟩ : ∃ z, s % 64 = z := ⟨_, rfl⟩
  have hz0 : 0 ≤ z := by omega
  have hz1 : z < 64 := by omega
  have g1 : ¬ (100 : Int) < a.length := by omega
  have g2 : ¬ (100 : Int) < b.length := by omega
  go_enter Try.func4, Try.ntmps4
  go_wp2
  go_loopw [8, 10] (fun v i wr => ∃ k : Nat, k ≤ a.length ∧ i = .int .i64 k ∧ wr.ownsRow w.heap.size 25 3 v (flt z (a.take k)).length (rows (flt z (a.take k))) ∧ Below w.heap.size w wr) (fun _ i _ => a.length - (intOf i).toNat)
  case atStart => exact ⟨0, Nat.zero_le _, rfl, by simpa [flt, rows] using own_nil w w.heap.size 25 3, Below.refl _ _⟩
  case round =>
    obtain ⟨k, hk, rfl, hown, hbw⟩ := hrel
    obtain ⟨A1, c1, rfl, hx1⟩ := Reads.of_own hown
    have hfl : (flt z (a.take k)).length ≤ k := Nat.le_trans (flt_length _ _) (List.length_take_le _ _)
    by_cases hlt : k < a.length
    · obtain ⟨x, hx⟩ : ∃ x, a[k]? = some x := ⟨a[k], List.getElem?_eq_getElem hlt⟩
      have ra : ReadsM wr (fun b => b < w.heap.size) A a := ha.below (by omega) hbw
      obtain ⟨p, o, rfl, _, d0, d1, d2⟩ := ra.at_ k x hx
      have HA := Lib.hid ha
      have HB := Lib.hid hb
      have HO := Lib.hid hown
      have HW := Lib.hid hbw
      have hsz := hbw.size
      have HX := Lib.hid hx
      clear ha hb ra hown hbw hx hx1
      by_cases hxz : (x.n != z) = true
      · have HF := Lib.hid (flt_yes z a k x HX.out hxz)
        go_wp2_with (at_builtin; (refine app_row w.heap.size rfl (.tmp 38) (.tmp 43) 36 25 _ 3 16 rfl Try.underlying36 member_info rfl (by omega) _ _ _ _ rfl _ rfl (by simp) (by simp [Value.oneCell']) rfl HO.out (by omega) (by omega) (by omega) ?_); intro v1 w2 ho2 hg2 hat; have HO2 := Lib.hid ho2; have HG2 := Lib.hid hg2; clear ho2 hg2 hat)
        go_roundw
        case rel =>
          refine ⟨k + 1, by omega, by go_num, ?_, HW.out.grown HG2.out hsz (own_base HO.out)⟩
          rw [HF.out, List.length_append, rows_append]; exact HO2.out
        case measure => simp [intOf]; omega
      · have hxz' : (x.n != z) = false := by simpa using hxz
        have HF := Lib.hid (flt_no z a k x HX.out hxz')
        clear hxz
        go_wp2
        go_roundw
        case rel => exact ⟨k + 1, by omega, by go_num, by rw [HF.out]; exact HO.out, HW.out⟩
        case measure => simp [intOf]; omega
    · obtain rfl : k = a.length := by omega
      rw [List.take_length] at hown hx1
      have hx1' : ReadsM wr (fun b => b < wr.heap.size) A1 (flt z a) := (hx1.there (by omega)).imp fun _ h => h.2
      rw [List.take_length]
      generalize hX : flt z a = X at *
      have HX := Lib.hid hX
      have HA := Lib.hid ha
      have HB := Lib.hid hb
      have HXR := Lib.hid hx1'
      have HW := Lib.hid hbw
      have hsz := hbw.size
      clear ha hb hown hx1 hx1' hbw hX hfl
      go_wp2
      obtain ⟨wo, rfl⟩ : ∃ wo : World, wo = wr := ⟨_, rfl⟩
      go_loopw [9, 11] (fun v i wr => ∃ k : Nat, k ≤ b.length ∧ i = .int .i64 k ∧ wr.ownsRow wo.heap.size 25 3 v (flt z (b.take k)).length (rows (flt z (b.take k))) ∧ Below wo.heap.size wo wr) (fun _ i _ => b.length - (intOf i).toNat)
      case atStart => exact ⟨0, Nat.zero_le _, rfl, by simpa [flt, rows] using own_nil wo wo.heap.size 25 3, Below.refl _ _⟩
      case round =>
        obtain ⟨k, hk, rfl, hown, hbw⟩ := hrel
        obtain ⟨A2, c2, rfl, hx2⟩ := Reads.of_own hown
        have hfl : (flt z (b.take k)).length ≤ k := Nat.le_trans (flt_length _ _) (List.length_take_le _ _)
        by_cases hlt : k < b.length
        · obtain ⟨x, hx⟩ : ∃ x, b[k]? = some x := ⟨b[k], List.getElem?_eq_getElem hlt⟩
          have ra : ReadsM wr (fun b => b < w.heap.size) B b := (HB.out.below (by omega) HW.out).below (by omega) hbw
          obtain ⟨p, o, rfl, _, d0, d1, d2⟩ := ra.at_ k x hx
          have HO := Lib.hid hown
          have HW2 := Lib.hid hbw
          have hsz2 := hbw.size
          have HY := Lib.hid hx
          clear ra hown hbw hx hx2
          by_cases hxz : (x.n != z) = true
          · have HF := Lib.hid (flt_yes z b k x HY.out hxz)
            go_wp2_with (at_builtin; (refine app_row wo.heap.size rfl (.tmp 58) (.tmp 63) 36 25 _ 3 16 rfl Try.underlying36 member_info rfl (by omega) _ _ _ _ rfl _ rfl (by simp) (by simp [Value.oneCell']) rfl HO.out (by omega) (by omega) (by omega) ?_); intro v1 w2 ho2 hg2 hat; have HO2 := Lib.hid ho2; have HG2 := Lib.hid hg2; clear ho2 hg2 hat)
            go_roundw
            case rel =>
              refine ⟨k + 1, by omega, by go_num, ?_, HW2.out.grown HG2.out hsz2 (own_base HO.out)⟩
              rw [HF.out, List.length_append, rows_append]; exact HO2.out
            case measure => simp [intOf]; omega
          · have hxz' : (x.n != z) = false := by simpa using hxz
            have HF := Lib.hid (flt_no z b k x HY.out hxz')
            clear hxz
            go_wp2
            go_roundw
            case rel => exact ⟨k + 1, by omega, by go_num, by rw [HF.out]; exact HO.out, HW2.out⟩
            case measure => simp [intOf]; omega
        · obtain rfl : k = b.length := by omega
          rw [List.take_length] at hown hx2
          rw [List.take_length]
          generalize hY : flt z b = Y at *
          have HY := Lib.hid hY
          have HYR := Lib.hid ((hx2.there (by omega)).imp (S' := fun b => b < wr.heap.size) fun _ h => h.2 : ReadsM wr (fun b => b < wr.heap.size) A2 Y)
          have HXR1 := Lib.hid ((HXR.out.below (by omega) hbw).imp (S' := fun b => b < wr.heap.size) fun _ h => Nat.lt_of_lt_of_le h hbw.size : ReadsM wr (fun b => b < wr.heap.size) A1 X)
          have HW1 := Lib.hid (below_then HW.out HW.out.size hbw)
          have hX1 : X.length ≤ 100 := by rw [← HX.out]; exact Nat.le_trans (flt_length _ _) h1
          have hY1 : Y.length ≤ 100 := by rw [← HY.out]; exact Nat.le_trans (flt_length _ _) h2
          clear hown hx2 hbw hY hfl HXR HW
          go_wp2_with fail
          refine (new_any s _ hs.1 hs.2).mono ?_
          rintro e u1 ⟨g, rfl, hb1, hg, hT⟩
          rw [hz] at hT
          have K1 := Lib.hid (below_then HW1.out HW1.out.size hb1)
          have X1 := Lib.hid (HXR1.out.below (by omega) hb1)
          have Y1 := Lib.hid (HYR.out.below (by omega) hb1)
          have T1 := Lib.hid hT
          have hN : wr.heap.size ≤ g := hg
          clear hb1 hT
          go_wp2_with fail
          refine (new_any s _ hs.1 hs.2).mono ?_
          rintro e u2 ⟨h, rfl, hb2, hh, hU⟩
          rw [hz] at hU
          have hgh : g < h := Nat.lt_of_lt_of_le T1.out.lt hh
          have K2 := Lib.hid (below_then K1.out K1.out.size hb2)
          have X2 := Lib.hid (X1.out.below (by omega) hb2)
          have Y2 := Lib.hid (Y1.out.below (by omega) hb2)
          have T2 := Lib.hid (T1.out.below hb2 T1.out.lt)
          have U2 := Lib.hid hU
          have hN2 : w.heap.size ≤ wr.heap.size := HW1.out.size
          have hmX : ∀ m ∈ X, Pl.MOk m ∧ m.n ≠ z := by rw [← HX.out]; exact flt_ok z a hma
          have hmY : ∀ m ∈ Y, Pl.MOk m ∧ m.n ≠ z := by rw [← HY.out]; exact flt_ok z b hmb
          have HMX := Lib.hid hmX
          have HMY := Lib.hid hmY
          clear hb2 hU T1 X1 Y1 K1 HXR1 HYR hmX hmY
          go_wp2_with fail
          refine (merge_any g z _ A1 _ X _ T2.out (fun m hm => (HMX.out m hm).1) (by omega) (X2.out.imp fun q hq => by omega)).mono ?_
          rintro e u3 ⟨v3, rfl, ho3, hg3, hT3⟩
          have K3 := Lib.hid (K2.out.grown hg3 K2.out.size (fun k e => by injection e with e; omega))
          have X3 := Lib.hid (X2.out.grown (by omega) hg3 (fun q hq e => by injection e with e; omega))
          have Y3 := Lib.hid (Y2.out.grown (by omega) hg3 (fun q hq e => by injection e with e; omega))
          have T3 := Lib.hid hT3
          have U3 := Lib.hid (U2.out.grown hg3 (fun e => by injection e with e; omega))
          clear hg3 hT3 ho3 T2 U2 X2 Y2 K2
          go_wp2_with fail
          refine (merge_any g z _ A2 _ Y _ T3.out (fun m hm => (HMY.out m hm).1) (by omega) (Y3.out.imp fun q hq => by omega)).mono ?_
          rintro e u4 ⟨v4, rfl, ho4, hg4, hT4⟩
          have K4 := Lib.hid (K3.out.grown hg4 K3.out.size (fun k e => by injection e with e; omega))
          have X4 := Lib.hid (X3.out.grown (by omega) hg4 (fun q hq e => by injection e with e; omega))
          have Y4 := Lib.hid (Y3.out.grown (by omega) hg4 (fun q hq e => by injection e with e; omega))
          have T4 := Lib.hid hT4
          have U4 := Lib.hid (U3.out.grown hg4 (fun e => by injection e with e; omega))
          clear hg4 hT4 ho4 T3 U3 X3 Y3 K3
          go_wp2_with fail
          refine (merge_any h z _ A2 _ Y _ U4.out (fun m hm => (HMY.out m hm).1) (by omega) (Y4.out.imp fun q hq => by omega)).mono ?_
          rintro e u5 ⟨v5, rfl, ho5, hg5, hT5⟩
          have K5 := Lib.hid (K4.out.grown hg5 K4.out.size (fun k e => by injection e with e; omega))
          have X5 := Lib.hid (X4.out.grown (by omega) hg5 (fun q hq e => by injection e with e; omega))
          have Y5 := Lib.hid (Y4.out.grown (by omega) hg5 (fun q hq e => by injection e with e; omega))
          have U5 := Lib.hid hT5
          have T5 := Lib.hid (T4.out.grown hg5 (fun e => by injection e with e; omega))
          clear hg5 hT5 ho5 T4 U4 X4 Y4 K4
          go_wp2_with fail
          refine (merge_any h z _ A1 _ X _ U5.out (fun m hm => (HMX.out m hm).1) (by omega) (X5.out.imp fun q hq => by omega)).mono ?_
          rintro e u6 ⟨v6, rfl, ho6, hg6, hT6⟩
          have K6 := Lib.hid (K5.out.grown hg6 K5.out.size (fun k e => by injection e with e; omega))
          have X6 := Lib.hid (X5.out.grown (by omega) hg6 (fun q hq e => by injection e with e; omega))
          have Y6 := Lib.hid (Y5.out.grown (by omega) hg6 (fun q hq e => by injection e with e; omega))
          have U6 := Lib.hid hT6
          have T6 := Lib.hid (T5.out.grown hg6 (fun e => by injection e with e; omega))
          clear hg6 hT6 ho6 T5 U5 X5 Y5 K5
          go_wp2_with fail
          refine (merge_any h z _ A2 _ Y _ U6.out (fun m hm => (HMY.out m hm).1) (by omega) (Y6.out.imp fun q hq => by omega)).mono ?_
          rintro e u7 ⟨v7, rfl, ho7, hg7, hT7⟩
          have K7 := Lib.hid (K6.out.grown hg7 K6.out.size (fun k e => by injection e with e; omega))
          have X7 := Lib.hid (X6.out.grown (by omega) hg7 (fun q hq e => by injection e with e; omega))
          have Y7 := Lib.hid (Y6.out.grown (by omega) hg7 (fun q hq e => by injection e with e; omega))
          have U7 := Lib.hid hT7
          have T7 := Lib.hid (T6.out.grown hg7 (fun e => by injection e with e; omega))
          clear hg7 hT7 ho7 T6 U6 X6 Y6 K6
          have hcomm := Pl.merge_comm (Pl.newT_ok hz0 hz1) X Y HMX.out HMY.out
          have hG : Pl.TOk z (Pl.merge z (Pl.merge z (Pl.newT z) X) Y) := Pl.merge_ok Y (Pl.merge_ok X (Pl.newT_ok hz0 hz1) (fun m hm => (HMX.out m hm).1)) (fun m hm => (HMY.out m hm).1)
          have T8 := Lib.hid T7.out
          have U8 := U7.out
          rw [← hcomm] at U8
          generalize Pl.merge z (Pl.merge z (Pl.newT z) X) Y = G at *
          have HU8 := Lib.hid U8
          have HG := Lib.hid hG
          have hgl : (Pl.listT G).length ≤ 64 := by
            have := List.length_filterMap_le G (List.range 64)
            rwa [List.length_range] at this
          clear hcomm U8 T7 U7 hG X7 Y7
          go_wp2_with fail
          refine (list_any g z G _ T8.out).mono ?_
          rintro e u8 ⟨v8, rfl, ho8, hb8⟩
          obtain ⟨L1, k1, rfl, r8⟩ := Reads.of_own ho8
          have R8 := Lib.hid (r8.imp (S' := fun _ => True) fun _ _ => trivial : ReadsM u8 (fun _ => True) L1 (Pl.listT G))
          have K8 := Lib.hid (below_then K7.out K7.out.size hb8)
          have T9 := Lib.hid (T8.out.below hb8 T8.out.lt)
          have U9 := Lib.hid (HU8.out.below hb8 HU8.out.lt)
          clear ho8 hb8 r8 T8 HU8 K7
          go_wp2_with fail
          refine (list_any h z G _ U9.out).mono ?_
          rintro e u9 ⟨v9, rfl, ho9, hb9⟩
          obtain ⟨L2, k2, rfl, r9⟩ := Reads.of_own ho9
          have R9 := Lib.hid (r9.imp (S' := fun _ => True) fun _ _ => trivial : ReadsM u9 (fun _ => True) L2 (Pl.listT G))
          have R9' := Lib.hid (R8.out.below (by omega) hb9 : ReadsM u9 (fun _ => True) L1 (Pl.listT G))
          have K9 := Lib.hid (below_then K8.out K8.out.size hb9)
          have T10 := Lib.hid (T9.out.below hb9 T9.out.lt)
          have U10 := Lib.hid (U9.out.below hb9 U9.out.lt)
          clear ho9 hb9 r9 T9 U9 K8 R8
          go_wp2_with fail
          refine (same_any L1 L2 _ _ _ _ _ R9'.out R9.out (by omega) (by omega)).mono ?_
          rw [decide_eq_true (rfl : Pl.listT G = Pl.listT G)]
          rintro e u10 ⟨rfl, hb10⟩
          have K10 := Lib.hid (below_then K9.out K9.out.size hb10)
          have T11 := Lib.hid (T10.out.below hb10 T10.out.lt)
          have U11 := Lib.hid (U10.out.below hb10 U10.out.lt)
          clear hb10 T10 U10 K9 R9 R9'
          go_wp2_with fail
          refine (list_any g z G _ T11.out).mono ?_
          rintro e u11 ⟨v11, rfl, ho11, hb11⟩
          obtain ⟨L3, k3, rfl, r11⟩ := Reads.of_own ho11
          have hlow := own_base ho11
          have hne : ReadsM u11 (fun q => q ≠ h) L3 (Pl.listT G) := r11.imp fun q hq => by have := hlow q hq; have := U11.out.lt; omega
          have R11 := Lib.hid hne
          have K11 := Lib.hid (below_then K10.out K10.out.size hb11)
          have U12 := Lib.hid (U11.out.below hb11 U11.out.lt)
          clear ho11 hb11 r11 T11 U11 K10 hne hlow
          go_wp2_with fail
          have hlm := Pl.merge_old (self := z) (Pl.listT G) (fun m hm => Pl.listT_mem HG.out hm)
          have hml : ∀ m ∈ Pl.listT G, Pl.MOk m := fun m hm => by
            obtain ⟨j, hj, e⟩ := List.mem_filterMap.1 hm
            obtain ⟨a1, a2, a3, a4, a5, a6⟩ := HG.out.at_ j m e
            exact ⟨by omega, by omega, by omega, by omega, by omega, by omega⟩
          refine (merge_any h z G L3 _ (Pl.listT G) _ U12.out hml (by omega) R11.out).mono ?_
          rw [hlm.2]
          rintro e u12 ⟨v12, rfl, ho12, hg12, -⟩
          obtain ⟨L4, k4, rfl⟩ := own_slice ho12
          have K12 := Lib.hid (K11.out.grown hg12 K11.out.size (fun k e => by injection e with e; omega))
          clear ho12 hg12 hlm hml K11 U12 R11
          simp only [List.length_nil]
          go_wp2_with fail
          refine (awake_any _).mono ?_
          rintro e u13 ⟨rfl, hb13⟩
          have K13 := Lib.hid (below_then K12.out K12.out.size hb13)
          clear hb13
          go_wp2
          go_ret
          exact ⟨rfl, K13.out⟩

set_option maxRecDepth 100000 in
set_option maxHeartbeats 1000000 in
theorem order_long (s : Int) (A B : Option Addr) (c d na nb : Nat) (w : World) (h : 100 < na ∨ na ≤ 100 ∧ 100 < nb) :
    Calls Try.prog 4 #[.int .u16 s, .slice A na c, .slice B nb d] w fun e w' => e = .returned (.bool true) ∧ Below w.heap.size w w' := by
  rcases h with h | ⟨h, h'⟩
  · have g1 : (100 : Int) < na := by omega
    go_enter Try.func4, Try.ntmps4
    go_wp2_with fail
    refine (awake_any _).mono ?_
    rintro e w1 ⟨rfl, hb⟩
    have HB := Lib.hid hb
    clear hb
    go_wp2
    go_ret
    exact ⟨rfl, HB.out⟩
  · have g1 : ¬ (100 : Int) < na := by omega
    have g2 : (100 : Int) < nb := by omega
    go_enter Try.func4, Try.ntmps4
    go_wp2_with fail
    refine (awake_any _).mono ?_
    rintro e w1 ⟨rfl, hb⟩
    have HB := Lib.hid hb
    clear hb
    go_wp2
    go_ret
    exact ⟨rfl, HB.out⟩

theorem order_all (s : Int) (A B : Option Addr) (c d : Nat) (a b : List Pl.M) (w : World) (hs : 0 ≤ s ∧ s ≤ 65535) (ha : ReadsM w (fun b => b < w.heap.size) A a) (hb : ReadsM w (fun b => b < w.heap.size) B b)
    (hma : ∀ m ∈ a, Pl.MOk m) (hmb : ∀ m ∈ b, Pl.MOk m) :
    Calls Try.prog 4 #[.int .u16 s, .slice A a.length c, .slice B b.length d] w fun e w' => e = .returned (.bool true) ∧ Below w.heap.size w w' := by
  by_cases h1 : a.length ≤ 100
  · by_cases h2 : b.length ≤ 100
    · exact order_walk s A B c d a b w hs ha hb hma hmb h1 h2
    · exact order_long s A B c d _ _ w (.inr ⟨h1, by omega⟩)
  · exact order_long s A B c d _ _ w (.inl (by omega))

set_option maxRecDepth 100000 in
theorem memberOrder_lifted (os : Os) (started : os.Started) (H : Type) (enc : TypeId × Value → H) :
    ReturnsInHanded {} Try.checked os 4 .any (Rows.memberOrderSpec.pre6 enc Try.prog Try.f4 Rows.memberOrderRow.domain false) (Rows.memberOrderSpec.post enc Try.prog Try.f4 false true false false) := by
  refine returnsInHanded_of_change (C := Try.checked) tOwn started (by kernel_rfl) Try.func4
    (ChangeSpec.witness6 (enc := enc) (C := Try.checked) false ⟨#[], #[.int .u16 0, .slice none 0 0, .slice none 0 0], []⟩ 8 (by kernel_rfl) (by kernel_rfl) (by kernel_rfl) (by kernel_rfl)) ?_
  intro W base args ds gs before hval0 hW hcnd _
  have hval : ∀ (j : Nat) t v, Try.f4.params[j]? = some t → args[j]? = some v → Value.okWide Try.prog W .any base t v := hval0
  have hW' := hW
  obtain ⟨p, q, hA0, hV, rfl, hfz, hnd⟩ := hW
  have hA : DataW.TrodAll enc Try.prog W 0 (fun _ => true) true Try.f4.params.toList args.toList ds p := hA0
  rw [Try.params4] at hA hval
  obtain ⟨v0, vs0, d0, ds0, p0, q0, hargs, rfl, rfl, h0, r0⟩ := trodAll_cons hA
  obtain ⟨v1, vs1, d1, ds1, p1, q1, rfl, rfl, rfl, h1, r1⟩ := trodAll_cons r0
  obtain ⟨v2, vs2, d2, ds2, p2, q2, rfl, rfl, rfl, h2, r2⟩ := trodAll_cons r1
  obtain ⟨rfl, rfl, rfl⟩ := trodAll_nil r2
  obtain rfl : args = #[v0, v1, v2] := by cases args; simp_all
  obtain ⟨s, rfl, rfl, rfl, ws⟩ := open_int Try.underlying22 (hval 0 22 v0 rfl rfl) h0
  obtain ⟨Aa, ca, a, rfl, ra, ma⟩ := open_members (hval 1 36 v1 rfl rfl) h1
  obtain ⟨Ab, cb, b, rfl, rb, mb⟩ := open_members (hval 2 36 v2 rfl rfl) h2
  refine (order_all s Aa Ab ca cb a b W (bounds_u16 ws) ra rb ma mb).mono fun e W' ⟨he, hb⟩ => ?_
  subst he
  exact ⟨_, rfl, law_post tLaid (by decide +kernel) hW' rfl (by kernel_rfl) Try.underlying4 rfl hb⟩

/-- The statement. -/
theorem memberOrder_holds : Rows.MemberOrderSaid :=
  OpenClaim.holds_of_wide 4 Try.f4 rfl rfl rfl rfl rfl rfl rfl ⟨rfl, rfl, rfl, rfl, rfl⟩ rfl rfl rfl rfl rfl (by kernel_rfl) Try.func4 (by kernel_rfl)
    (of_decide_eq_true (by kernel_rfl)) (by unfold Func.isWrapper; rw [if_neg (of_decide_eq_false (by kernel_rfl))]; exact ⟨rfl, rfl⟩)
    (fun os started H enc _ => memberOrder_lifted os started H enc)
#print axioms memberOrder_holds

end Go.Proofs.Ytnlpgjdgiappcaa
