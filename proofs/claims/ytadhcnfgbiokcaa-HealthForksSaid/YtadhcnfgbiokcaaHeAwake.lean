/- WALKS: health's awake. -/
import Derived.Test.YtadhcnfgbiokcaaHeDue
import Derived.Test.YtadhcnfgbiokcaaHeClear
import Derived.Test.YtadhcnfgbiokcaaHeLen
namespace Go.Proofs.Ytadhcnfgbiokcaa
set_option linter.unusedVariables false
set_option linter.unusedSimpArgs false
open Go.RowKit
def hnew (me mn mx cf : Int) : Hs := ⟨me, mn, mx, cf, 0, fun _ => none⟩
theorem hnew_ok {me mn mx cf : Int} (h1 : 0 ≤ me ∧ me < 64) (h2 : 0 ≤ cf ∧ cf ≤ 16) (h3 : 1 ≤ mn ∧ mn ≤ mx ∧ mx ≤ 1073741824) : HsOk (hnew me mn mx cf) :=
  ⟨⟨h1, h3.1, h3.2.1, h3.2.2, h2, by simp [hnew]⟩, fun k x h => by cases h⟩
def aw0 : Hs := hnew 0 10 40 3
def aw1 : Hs := (susp aw0 1 1 0 2 0).2
def aw2 : Hs := (susp aw1 1 1 0 2 5).2
def aw3 : Hs := (susp aw2 1 1 0 3 5).2
def aw4 : Hs := { aw3 with sc := bumped aw3.sc 1 }
theorem aw0_ok : HsOk aw0 := hnew_ok (by omega) (by omega) (by omega)
theorem aw1_ok : HsOk aw1 := susp_ok _ _ _ _ _ _ aw0_ok (by omega) (by omega)
theorem aw2_ok : HsOk aw2 := susp_ok _ _ _ _ _ _ aw1_ok (by omega) (by omega)
theorem aw3_ok : HsOk aw3 := susp_ok _ _ _ _ _ _ aw2_ok (by omega) (by omega)
theorem bump_ok {h : Hs} (H : HsOk h) (b : Int) : HsOk { h with sc := bumped h.sc b } :=
  ⟨⟨H.ok.me, H.ok.mn, H.ok.mx, H.ok.mx2, H.ok.cf, by simp only; unfold bumped; omega⟩, H.su⟩
theorem aw4_ok : HsOk aw4 := bump_ok aw3_ok 1
theorem aw_1 : (susp aw0 1 1 0 2 0).1 = true := by decide +kernel
theorem aw_2 : (susp aw1 1 1 0 2 5).1 = false := by decide +kernel
theorem aw_3 : (susp aw2 1 1 0 3 5).1 = true := by decide +kernel
theorem aw_4 : bumped aw3.sc 1 = 1 := by decide +kernel
theorem aw_5 : endVal aw4 (aw4.s 1) = .tuple #[.int .i64 60, .bool true] := by kernel_rfl
theorem aw_6 : (dueS aw4 59 64).length = 0 := by decide +kernel
theorem aw_7 : (dueS aw4 60 64).length = 1 := by decide +kernel
theorem grown_below {w W w1 : World} {g : Nat} (hb : Below w.heap.size w W) (hg : w.heap.size ≤ g) (h : W.grownBy w1 (some g)) : Below w.heap.size w w1 :=
  hb.trans (below_of_grown hb.size h (fun k e => by injection e with e; omega))
set_option maxRecDepth 100000 in
set_option maxHeartbeats 2000000 in
theorem awake_any (w : World) : Calls Try.prog 12 #[] w fun e w' => e = .returned (.bool true) ∧ Below w.heap.size w w' := by
  go_enter Try.func12, Try.ntmps12
  go_wp2_with fail
  refine (new_any 0 10 40 3 _ (by omega) (by omega) (by omega)).mono ?_
  rintro e w0 ⟨g, rfl, hb, hg, hH⟩
  have HI0 : Hid (IsH w0 g aw0) := Lib.hid hH
  have K0 := Lib.hid hb
  have l0 := hb.size
  have hlt := hH.lt
  clear hb hH
  go_wp2_with fail
  refine (suspect_any 1 0 _).mono ?_
  rintro e w1 ⟨rfl, hb⟩
  have K1 := Lib.hid (below_then K0.out K0.out.size hb)
  have HI1 := Lib.hid (HI0.out.below hb HI0.out.lt)
  have l1 := K1.out.size
  clear hb K0 HI0 l0
  go_wp2_with fail
  refine (suspect_any2 g aw0 1 1 0 2 0 _ HI1.out aw0_ok (by omega) (by omega)).mono ?_
  rw [aw_1]
  rintro e w2 ⟨rfl, hgr, hH⟩
  have K2 := Lib.hid (grown_below K1.out hg hgr)
  have HI2 : Hid (IsH w2 g aw1) := Lib.hid hH
  have l2 := K2.out.size
  clear hgr hH K1 HI1 l1
  go_wp2_with fail
  refine (suspect_any 1 0 _).mono ?_
  rintro e w3 ⟨rfl, hb⟩
  have K3 := Lib.hid (below_then K2.out K2.out.size hb)
  have HI3 := Lib.hid (HI2.out.below hb HI2.out.lt)
  have l3 := K3.out.size
  clear hb K2 HI2 l2
  go_wp2_with fail
  refine (suspect_any2 g aw1 1 1 0 2 5 _ HI3.out aw1_ok (by omega) (by omega)).mono ?_
  rw [aw_2]
  rintro e w4 ⟨rfl, hgr, hH⟩
  have K4 := Lib.hid (grown_below K3.out hg hgr)
  have HI4 : Hid (IsH w4 g aw2) := Lib.hid hH
  have l4 := K4.out.size
  clear hgr hH K3 HI3 l3
  go_wp2_with fail
  refine (suspect_any 1 0 _).mono ?_
  rintro e w5 ⟨rfl, hb⟩
  have K5 := Lib.hid (below_then K4.out K4.out.size hb)
  have HI5 := Lib.hid (HI4.out.below hb HI4.out.lt)
  have l5 := K5.out.size
  clear hb K4 HI4 l4
  go_wp2_with fail
  refine (suspect_any2 g aw2 1 1 0 3 5 _ HI5.out aw2_ok (by omega) (by omega)).mono ?_
  rw [aw_3]
  rintro e w6 ⟨rfl, hgr, hH⟩
  have K6 := Lib.hid (grown_below K5.out hg hgr)
  have HI6 : Hid (IsH w6 g aw3) := Lib.hid hH
  have l6 := K6.out.size
  clear hgr hH K5 HI5 l5
  go_wp2_with fail
  refine (bump_any g aw3 1 _ HI6.out aw3_ok.ok.sc).mono ?_
  rintro e w7 ⟨rfl, hgr, hH⟩
  rw [aw_4]
  have K7 := Lib.hid (grown_below K6.out hg hgr)
  have HI7 : Hid (IsH w7 g aw4) := Lib.hid hH
  have l7 := K7.out.size
  clear hgr hH K6 HI6 l6
  go_wp2_with fail
  refine (Ends_near g aw4 1 _ HI7.out aw4_ok.ok (by omega) (fun x hx => aw4_ok.su 1 x hx)).mono ?_
  rw [aw_5]
  rintro e w8 ⟨rfl, hb⟩
  have K8 := Lib.hid (below_then K7.out K7.out.size hb)
  have HI8 := Lib.hid (HI7.out.below hb HI7.out.lt)
  have l8 := K8.out.size
  clear hb K7 HI7 l7
  go_wp2_with fail
  refine (due_any g aw4 59 _ HI8.out aw4_ok).mono ?_
  rw [aw_6]
  rintro e w9 ⟨v, rfl, ho, hb⟩
  obtain ⟨A9, c9, rfl⟩ := own_slice ho
  have K9 := Lib.hid (below_then K8.out K8.out.size hb)
  have HI9 := Lib.hid (HI8.out.below hb HI8.out.lt)
  have l9 := K9.out.size
  clear hb ho K8 HI8 l8
  go_wp2_with fail
  refine (due_any g aw4 60 _ HI9.out aw4_ok).mono ?_
  rw [aw_7]
  rintro e w10 ⟨v, rfl, ho, hb⟩
  obtain ⟨A10, c10, rfl⟩ := own_slice ho
  have K10 := Lib.hid (below_then K9.out K9.out.size hb)
  have HI10 := Lib.hid (HI9.out.below hb HI9.out.lt)
  have l10 := K10.out.size
  clear hb ho K9 HI9 l9
  go_wp2
  go_ret
  exact ⟨rfl, K10.out⟩
end Go.Proofs.Ytadhcnfgbiokcaa
