/- The statement HealthEnough: with as many others as may confirm a suspicion ends at the least span; those who say so twice do not count. Conditions: none. -/
import Derived.Test.YtadhcnfgbiokcaaHeLaw
import Derived.Test.YtadhcnfgbiokcaaHeOpen
namespace Go.Proofs.Ytadhcnfgbiokcaa
set_option linter.unusedVariables false
set_option linter.unusedSimpArgs false
open Go.ChangeShapes Go.WideShapes Go.ChangeAt Go.RowKit
def en (lo hi kk : Int) (j : Nat) : Hs := (hnew 0 lo hi kk).at_ 1 (some ⟨0, 0, 2 ^ (3 + j) - 4⟩)
theorem enp : ∀ j, j < 17 → ((2 ^ (3 + j) - 4) / 2 ^ (3 + j) % 2 = 0 ∧ 2 ^ (3 + j) - 4 + 2 ^ (3 + j) = 2 ^ (3 + (j + 1)) - 4 ∧ He.ones (2 ^ (3 + j) - 4) = j + 1 ∧ (2 ^ (3 + (j + 1)) - 4) / 2 ^ (3 + j) % 2 = 1 ∧ 2 ^ (3 + j) - 4 < 18446744073709551616 ∧ (2 ^ (3 + j) - 4) / 2 ^ 40 % 2 = 0) := by decide +kernel
section
variable (lo hi kk : Int)
theorem enm (h : Hs) (hme : h.me = 0) (fr t : Int) (hf : fr < 64) (ht : 0 ≤ t ∧ t ≤ 1099511627776) : susMay h 1 1 0 fr t :=
  ⟨rfl, by omega, hf, by omega, by omega, by omega, ht.1, ht.2⟩
theorem en_0 : susp (hnew 0 lo hi kk) 1 1 0 2 0 = (true, en lo hi kk 0) := by
  unfold susp
  rw [if_pos (enm _ rfl _ _ (by omega) (by omega))]
  rfl
theorem en_s (j : Nat) : (en lo hi kk j).s 1 = some ⟨0, 0, 2 ^ (3 + j) - 4⟩ := rfl
theorem en_t (j : Nat) (h : (j : Int) < kk) (h1 : j < 16) : susp (en lo hi kk j) 1 1 0 (3 + (j : Int)) 1 = (true, en lo hi kk (j + 1)) := by
  obtain ⟨e1, e2, e3, e4, e5, e6⟩ := enp j (by omega)
  have e0 : (3 + (j : Int)).toNat = 3 + j := by omega
  rw [susp_more_eq (x := ⟨0, 0, 2 ^ (3 + j) - 4⟩) (enm _ rfl _ _ (by omega) (by omega)) (en_s lo hi kk j) rfl (by rw [e0]; exact e1) (by simp only [e3]; show ((j + 1 : Nat) : Int) ≤ kk; omega), e0]
  simp only [e2]
  unfold en
  exact congrArg (fun q => (true, q)) (at_at _ 1 _ _)
theorem en_f (j : Nat) (h1 : j < 16) : susp (en lo hi kk (j + 1)) 1 1 0 (3 + (j : Int)) 1 = (false, en lo hi kk (j + 1)) := by
  obtain ⟨e1, e2, e3, e4, e5, e6⟩ := enp j (by omega)
  have e0 : (3 + (j : Int)).toNat = 3 + j := by omega
  exact susp_no_eq (enm _ rfl _ _ (by omega) (by omega)) (en_s lo hi kk (j + 1)) (Int.le_refl _) (.inr (.inl (by rw [e0]; exact e4)))
theorem en_e (j : Nat) (h1 : j < 17) : endVal (en lo hi (j : Int) j) ((en lo hi (j : Int) j).s 1) = .tuple #[.int .i64 lo, .bool true] := by
  obtain ⟨e1, e2, e3, e4, e5, e6⟩ := enp j h1
  have e : endOf (en lo hi (j : Int) j) ⟨0, 0, 2 ^ (3 + j) - 4⟩ = lo := by
    show 0 + spanOf (en lo hi (j : Int) j) (He.ones (2 ^ (3 + j) - 4)) * (0 + 1) = lo
    rw [e3]
    show 0 + (if 0 < (j : Int) then hi - (hi - lo) * (((j + 1 : Nat) : Int) - 1) / (j : Int) else lo) * (0 + 1) = lo
    split
    · rw [show ((j + 1 : Nat) : Int) - 1 = (j : Int) by omega, Int.mul_ediv_cancel _ (by omega)]
      omega
    · omega
  show Value.tuple #[.int .i64 (endOf (en lo hi (j : Int) j) ⟨0, 0, 2 ^ (3 + j) - 4⟩), .bool true] = _
  rw [e]
variable (HL : 1 ≤ lo ∧ lo ≤ hi ∧ hi ≤ 1073741824)
theorem en_l (j : Nat) (h1 : j < 17) : susp (en lo hi (j : Int) j) 1 1 0 40 1 = (false, en lo hi (j : Int) j) := by
  obtain ⟨e1, e2, e3, e4, e5, e6⟩ := enp j h1
  exact susp_no_eq (enm _ rfl _ _ (by omega) (by omega)) (en_s lo hi (j : Int) j) (Int.le_refl _) (.inr (.inr (by simp only [e3]; show (j : Int) < ((j + 1 : Nat) : Int); omega)))
include HL in
theorem en_ok (j : Nat) (hk : 0 ≤ kk ∧ kk ≤ 16) (h1 : (j : Int) ≤ kk) : HsOk (en lo hi kk j) := by
  obtain ⟨e1, e2, e3, e4, e5, e6⟩ := enp j (by omega)
  have h0 := hnew_ok (me := 0) (by omega) hk HL
  refine ⟨⟨h0.ok.me, h0.ok.mn, h0.ok.mx, h0.ok.mx2, h0.ok.cf, h0.ok.sc⟩, fun q x h => ?_⟩
  have h' : (if q = 1 then some (⟨0, 0, 2 ^ (3 + j) - 4⟩ : Su) else none) = some x := h
  split at h'
  · injection h' with h'
    subst h'
    exact ⟨e5, by simp only [e3]; omega, by simp only [e3]; show _ ≤ kk + 1; omega, ⟨by simp, by simp⟩, ⟨by simp, by simp⟩⟩
  · cases h'
end
set_option maxRecDepth 100000 in
set_option maxHeartbeats 2000000 in
theorem healthEnough_walk (a b c : Int) (w : World) (ha : 0 ≤ a ∧ a ≤ 65535) (hb : 0 ≤ b ∧ b ≤ 65535) (hc : 0 ≤ c ∧ c ≤ 255) :
    Calls Try.prog 3 #[.agg #[.int .u16 a, .int .u16 b], .int .u8 c] w fun e w' => e = .returned (.bool true) ∧ Below w.heap.size w w' := by
  obtain ⟨a0, a1⟩ := ha
  obtain ⟨b0, b1⟩ := hb
  obtain ⟨c0, c1⟩ := hc
  obtain ⟨kk, hkk⟩ : ∃ kk, c % 17 = kk := ⟨_, rfl⟩
  have k0 : 0 ≤ kk := by omega
  have k1 : kk ≤ 16 := by omega
  have KS : Hid (∀ {W}, Below (w.alloc (.cells #[.int .u16 a, .int .u16 b] 23)).heap.size (w.alloc (.cells #[.int .u16 a, .int .u16 b] 23)) W → Below w.heap.size w W) := Lib.hid (fun h => ((Below.refl _ w).alloc (Nat.le_refl _) _).trans (h.mono (by simp)))
  have KG : Hid (∀ {g : Nat}, (w.alloc (.cells #[.int .u16 a, .int .u16 b] 23)).heap.size ≤ g → w.heap.size ≤ g) := Lib.hid (fun h => by simp at h; omega)
  rcases (show a < b ∨ a = b ∨ b < a by omega) with h | h | h
  · go_enter Try.func3, Try.ntmps3
    have HL : Hid (1 ≤ (1 + a) ∧ (1 + a) ≤ (1 + b) ∧ (1 + b) ≤ 1073741824) := Lib.hid ⟨by omega, by omega, by omega⟩
    go_wp2_with fail
    refine (new_any 0 (1 + a) (1 + b) kk _ (by omega) (by omega) HL.out).mono ?_
    rintro e w0 ⟨g, rfl, hb, hg, hH⟩
    have HI0 : Hid (IsH w0 g (hnew 0 (1 + a) (1 + b) kk)) := Lib.hid hH
    have K0 := Lib.hid (KS.out hb)
    have hg : w.heap.size ≤ g := KG.out hg
    have l0 := K0.out.size
    have hlt := hH.lt
    clear hb hH
    go_wp2_with fail
    refine (suspect_any 1 0 _).mono ?_
    rintro e w1 ⟨rfl, hb⟩
    have K1 := Lib.hid (below_then K0.out K0.out.size hb)
    have HI1 := Lib.hid (HI0.out.below hb HI0.out.lt)
    have l1 := K1.out.size
    clear hb K0 HI0 l0
    go_wp2_with fail
    refine (suspect_any2 g (hnew 0 (1 + a) (1 + b) kk) 1 1 0 2 0 _ HI1.out (hnew_ok (by omega) (by omega) HL.out) (by omega) (by omega)).mono ?_
    rw [en_0 _ _ _]
    rintro e w2 ⟨rfl, hgr, hH⟩
    have K2 := Lib.hid (grown_below K1.out hg hgr)
    have HI2 : Hid (IsH w2 g (en (1 + a) (1 + b) kk 0)) := Lib.hid hH
    have l2 := K2.out.size
    clear hgr hH K1 HI1 l1
    go_wp2
    go_loopw [10] (fun i wr => ∃ j : Nat, (j : Int) ≤ kk ∧ i = .int .i64 j ∧ Below w.heap.size w wr ∧ IsH wr g (en (1 + a) (1 + b) kk j)) (fun i _ => kk.toNat - (intOf i).toNat)
    case atStart => exact ⟨0, by omega, rfl, K2.out, HI2.out⟩
    case round =>
      obtain ⟨j, hj, rfl, hbw, hHw⟩ := hrel
      have K0 := Lib.hid hbw
      have HI0 := Lib.hid hHw
      have l0 := hbw.size
      clear hbw hHw K2 HI2 l2
      by_cases hjk : (j : Int) < kk
      · go_wp2_with fail
        refine (suspect_any 1 0 _).mono ?_
        rintro e w1 ⟨rfl, hb⟩
        have K1 := Lib.hid (below_then K0.out K0.out.size hb)
        have HI1 := Lib.hid (HI0.out.below hb HI0.out.lt)
        have l1 := K1.out.size
        clear hb K0 HI0 l0
        go_wp2_with fail
        refine (suspect_any2 g (en (1 + a) (1 + b) kk j) 1 1 0 (3 + (j : Int)) 1 _ HI1.out (en_ok _ _ _ HL.out _ ⟨k0, k1⟩ (by omega)) (by omega) (by omega)).mono ?_
        rw [en_t _ _ _ j hjk (by omega)]
        rintro e w2 ⟨rfl, hgr, hH⟩
        have K2 := Lib.hid (grown_below K1.out hg hgr)
        have HI2 : Hid (IsH w2 g (en (1 + a) (1 + b) kk (j + 1))) := Lib.hid hH
        have l2 := K2.out.size
        clear hgr hH K1 HI1 l1
        go_wp2_with fail
        refine (suspect_any 1 0 _).mono ?_
        rintro e w3 ⟨rfl, hb⟩
        have K3 := Lib.hid (below_then K2.out K2.out.size hb)
        have HI3 := Lib.hid (HI2.out.below hb HI2.out.lt)
        have l3 := K3.out.size
        clear hb K2 HI2 l2
        go_wp2_with fail
        refine (suspect_any2 g (en (1 + a) (1 + b) kk (j + 1)) 1 1 0 (3 + (j : Int)) 1 _ HI3.out (en_ok _ _ _ HL.out _ ⟨k0, k1⟩ (by omega)) (by omega) (by omega)).mono ?_
        rw [en_f _ _ _ j (by omega)]
        rintro e w4 ⟨rfl, hgr, hH⟩
        have K4 := Lib.hid (grown_below K3.out hg hgr)
        have HI4 : Hid (IsH w4 g (en (1 + a) (1 + b) kk (j + 1))) := Lib.hid hH
        have l4 := K4.out.size
        clear hgr hH K3 HI3 l3
        go_wp2
        go_roundw
        case rel => exact ⟨j + 1, by omega, by go_num, K4.out, HI4.out⟩
        case measure => simp [intOf]; omega
      · obtain rfl : kk = (j : Int) := by omega
        go_wp2_with fail
        refine (Ends_near g (en (1 + a) (1 + b) (j : Int) j) 1 _ HI0.out (en_ok _ _ _ HL.out _ ⟨k0, k1⟩ (Int.le_refl _)).ok (by omega) (fun x hx => (en_ok _ _ _ HL.out _ ⟨k0, k1⟩ (Int.le_refl _)).su 1 x hx)).mono ?_
        rw [en_e _ _ j (by omega)]
        rintro e w1 ⟨rfl, hb⟩
        have K1 := Lib.hid (below_then K0.out K0.out.size hb)
        have HI1 := Lib.hid (HI0.out.below hb HI0.out.lt)
        have l1 := K1.out.size
        clear hb K0 HI0 l0
        go_wp2_with fail
        refine (suspect_any 1 0 _).mono ?_
        rintro e w2 ⟨rfl, hb⟩
        have K2 := Lib.hid (below_then K1.out K1.out.size hb)
        have HI2 := Lib.hid (HI1.out.below hb HI1.out.lt)
        have l2 := K2.out.size
        clear hb K1 HI1 l1
        go_wp2_with fail
        refine (suspect_any2 g (en (1 + a) (1 + b) (j : Int) j) 1 1 0 40 1 _ HI2.out (en_ok _ _ _ HL.out _ ⟨k0, k1⟩ (Int.le_refl _)) (by omega) (by omega)).mono ?_
        rw [en_l _ _ j (by omega)]
        rintro e w3 ⟨rfl, hgr, hH⟩
        have K3 := Lib.hid (grown_below K2.out hg hgr)
        have HI3 : Hid (IsH w3 g (en (1 + a) (1 + b) (j : Int) j)) := Lib.hid hH
        have l3 := K3.out.size
        clear hgr hH K2 HI2 l2
        go_wp2_with fail
        refine (awake_any _).mono ?_
        rintro e w4 ⟨rfl, hb⟩
        have K4 := Lib.hid (below_then K3.out K3.out.size hb)
        have HI4 := Lib.hid (HI3.out.below hb HI3.out.lt)
        have l4 := K4.out.size
        clear hb K3 HI3 l3
        go_wp2
        go_ret
        exact ⟨rfl, K4.out⟩
  · subst h
    go_enter Try.func3, Try.ntmps3
    have HL : Hid (1 ≤ (1 + a) ∧ (1 + a) ≤ (1 + a) ∧ (1 + a) ≤ 1073741824) := Lib.hid ⟨by omega, by omega, by omega⟩
    go_wp2_with fail
    refine (new_any 0 (1 + a) (1 + a) kk _ (by omega) (by omega) HL.out).mono ?_
    rintro e w0 ⟨g, rfl, hb, hg, hH⟩
    have HI0 : Hid (IsH w0 g (hnew 0 (1 + a) (1 + a) kk)) := Lib.hid hH
    have K0 := Lib.hid (KS.out hb)
    have hg : w.heap.size ≤ g := KG.out hg
    have l0 := K0.out.size
    have hlt := hH.lt
    clear hb hH
    go_wp2_with fail
    refine (suspect_any 1 0 _).mono ?_
    rintro e w1 ⟨rfl, hb⟩
    have K1 := Lib.hid (below_then K0.out K0.out.size hb)
    have HI1 := Lib.hid (HI0.out.below hb HI0.out.lt)
    have l1 := K1.out.size
    clear hb K0 HI0 l0
    go_wp2_with fail
    refine (suspect_any2 g (hnew 0 (1 + a) (1 + a) kk) 1 1 0 2 0 _ HI1.out (hnew_ok (by omega) (by omega) HL.out) (by omega) (by omega)).mono ?_
    rw [en_0 _ _ _]
    rintro e w2 ⟨rfl, hgr, hH⟩
    have K2 := Lib.hid (grown_below K1.out hg hgr)
    have HI2 : Hid (IsH w2 g (en (1 + a) (1 + a) kk 0)) := Lib.hid hH
    have l2 := K2.out.size
    clear hgr hH K1 HI1 l1
    go_wp2
    go_loopw [10] (fun i wr => ∃ j : Nat, (j : Int) ≤ kk ∧ i = .int .i64 j ∧ Below w.heap.size w wr ∧ IsH wr g (en (1 + a) (1 + a) kk j)) (fun i _ => kk.toNat - (intOf i).toNat)
    case atStart => exact ⟨0, by omega, rfl, K2.out, HI2.out⟩
    case round =>
      obtain ⟨j, hj, rfl, hbw, hHw⟩ := hrel
      have K0 := Lib.hid hbw
      have HI0 := Lib.hid hHw
      have l0 := hbw.size
      clear hbw hHw K2 HI2 l2
      by_cases hjk : (j : Int) < kk
      · go_wp2_with fail
        refine (suspect_any 1 0 _).mono ?_
        rintro e w1 ⟨rfl, hb⟩
        have K1 := Lib.hid (below_then K0.out K0.out.size hb)
        have HI1 := Lib.hid (HI0.out.below hb HI0.out.lt)
        have l1 := K1.out.size
        clear hb K0 HI0 l0
        go_wp2_with fail
        refine (suspect_any2 g (en (1 + a) (1 + a) kk j) 1 1 0 (3 + (j : Int)) 1 _ HI1.out (en_ok _ _ _ HL.out _ ⟨k0, k1⟩ (by omega)) (by omega) (by omega)).mono ?_
        rw [en_t _ _ _ j hjk (by omega)]
        rintro e w2 ⟨rfl, hgr, hH⟩
        have K2 := Lib.hid (grown_below K1.out hg hgr)
        have HI2 : Hid (IsH w2 g (en (1 + a) (1 + a) kk (j + 1))) := Lib.hid hH
        have l2 := K2.out.size
        clear hgr hH K1 HI1 l1
        go_wp2_with fail
        refine (suspect_any 1 0 _).mono ?_
        rintro e w3 ⟨rfl, hb⟩
        have K3 := Lib.hid (below_then K2.out K2.out.size hb)
        have HI3 := Lib.hid (HI2.out.below hb HI2.out.lt)
        have l3 := K3.out.size
        clear hb K2 HI2 l2
        go_wp2_with fail
        refine (suspect_any2 g (en (1 + a) (1 + a) kk (j + 1)) 1 1 0 (3 + (j : Int)) 1 _ HI3.out (en_ok _ _ _ HL.out _ ⟨k0, k1⟩ (by omega)) (by omega) (by omega)).mono ?_
        rw [en_f _ _ _ j (by omega)]
        rintro e w4 ⟨rfl, hgr, hH⟩
        have K4 := Lib.hid (grown_below K3.out hg hgr)
        have HI4 : Hid (IsH w4 g (en (1 + a) (1 + a) kk (j + 1))) := Lib.hid hH
        have l4 := K4.out.size
        clear hgr hH K3 HI3 l3
        go_wp2
        go_roundw
        case rel => exact ⟨j + 1, by omega, by go_num, K4.out, HI4.out⟩
        case measure => simp [intOf]; omega
      · obtain rfl : kk = (j : Int) := by omega
        go_wp2_with fail
        refine (Ends_near g (en (1 + a) (1 + a) (j : Int) j) 1 _ HI0.out (en_ok _ _ _ HL.out _ ⟨k0, k1⟩ (Int.le_refl _)).ok (by omega) (fun x hx => (en_ok _ _ _ HL.out _ ⟨k0, k1⟩ (Int.le_refl _)).su 1 x hx)).mono ?_
        rw [en_e _ _ j (by omega)]
        rintro e w1 ⟨rfl, hb⟩
        have K1 := Lib.hid (below_then K0.out K0.out.size hb)
        have HI1 := Lib.hid (HI0.out.below hb HI0.out.lt)
        have l1 := K1.out.size
        clear hb K0 HI0 l0
        go_wp2_with fail
        refine (suspect_any 1 0 _).mono ?_
        rintro e w2 ⟨rfl, hb⟩
        have K2 := Lib.hid (below_then K1.out K1.out.size hb)
        have HI2 := Lib.hid (HI1.out.below hb HI1.out.lt)
        have l2 := K2.out.size
        clear hb K1 HI1 l1
        go_wp2_with fail
        refine (suspect_any2 g (en (1 + a) (1 + a) (j : Int) j) 1 1 0 40 1 _ HI2.out (en_ok _ _ _ HL.out _ ⟨k0, k1⟩ (Int.le_refl _)) (by omega) (by omega)).mono ?_
        rw [en_l _ _ j (by omega)]
        rintro e w3 ⟨rfl, hgr, hH⟩
        have K3 := Lib.hid (grown_below K2.out hg hgr)
        have HI3 : Hid (IsH w3 g (en (1 + a) (1 + a) (j : Int) j)) := Lib.hid hH
        have l3 := K3.out.size
        clear hgr hH K2 HI2 l2
        go_wp2_with fail
        refine (awake_any _).mono ?_
        rintro e w4 ⟨rfl, hb⟩
        have K4 := Lib.hid (below_then K3.out K3.out.size hb)
        have HI4 := Lib.hid (HI3.out.below hb HI3.out.lt)
        have l4 := K4.out.size
        clear hb K3 HI3 l3
        go_wp2
        go_ret
        exact ⟨rfl, K4.out⟩
  · go_enter Try.func3, Try.ntmps3
    have HL : Hid (1 ≤ (1 + b) ∧ (1 + b) ≤ (1 + a) ∧ (1 + a) ≤ 1073741824) := Lib.hid ⟨by omega, by omega, by omega⟩
    go_wp2_with fail
    refine (new_any 0 (1 + b) (1 + a) kk _ (by omega) (by omega) HL.out).mono ?_
    rintro e w0 ⟨g, rfl, hb, hg, hH⟩
    have HI0 : Hid (IsH w0 g (hnew 0 (1 + b) (1 + a) kk)) := Lib.hid hH
    have K0 := Lib.hid (KS.out hb)
    have hg : w.heap.size ≤ g := KG.out hg
    have l0 := K0.out.size
    have hlt := hH.lt
    clear hb hH
    go_wp2_with fail
    refine (suspect_any 1 0 _).mono ?_
    rintro e w1 ⟨rfl, hb⟩
    have K1 := Lib.hid (below_then K0.out K0.out.size hb)
    have HI1 := Lib.hid (HI0.out.below hb HI0.out.lt)
    have l1 := K1.out.size
    clear hb K0 HI0 l0
    go_wp2_with fail
    refine (suspect_any2 g (hnew 0 (1 + b) (1 + a) kk) 1 1 0 2 0 _ HI1.out (hnew_ok (by omega) (by omega) HL.out) (by omega) (by omega)).mono ?_
    rw [en_0 _ _ _]
    rintro e w2 ⟨rfl, hgr, hH⟩
    have K2 := Lib.hid (grown_below K1.out hg hgr)
    have HI2 : Hid (IsH w2 g (en (1 + b) (1 + a) kk 0)) := Lib.hid hH
    have l2 := K2.out.size
    clear hgr hH K1 HI1 l1
    go_wp2
    go_loopw [10] (fun i wr => ∃ j : Nat, (j : Int) ≤ kk ∧ i = .int .i64 j ∧ Below w.heap.size w wr ∧ IsH wr g (en (1 + b) (1 + a) kk j)) (fun i _ => kk.toNat - (intOf i).toNat)
    case atStart => exact ⟨0, by omega, rfl, K2.out, HI2.out⟩
    case round =>
      obtain ⟨j, hj, rfl, hbw, hHw⟩ := hrel
      have K0 := Lib.hid hbw
      have HI0 := Lib.hid hHw
      have l0 := hbw.size
      clear hbw hHw K2 HI2 l2
      by_cases hjk : (j : Int) < kk
      · go_wp2_with fail
        refine (suspect_any 1 0 _).mono ?_
        rintro e w1 ⟨rfl, hb⟩
        have K1 := Lib.hid (below_then K0.out K0.out.size hb)
        have HI1 := Lib.hid (HI0.out.below hb HI0.out.lt)
        have l1 := K1.out.size
        clear hb K0 HI0 l0
        go_wp2_with fail
        refine (suspect_any2 g (en (1 + b) (1 + a) kk j) 1 1 0 (3 + (j : Int)) 1 _ HI1.out (en_ok _ _ _ HL.out _ ⟨k0, k1⟩ (by omega)) (by omega) (by omega)).mono ?_
        rw [en_t _ _ _ j hjk (by omega)]
        rintro e w2 ⟨rfl, hgr, hH⟩
        have K2 := Lib.hid (grown_below K1.out hg hgr)
        have HI2 : Hid (IsH w2 g (en (1 + b) (1 + a) kk (j + 1))) := Lib.hid hH
        have l2 := K2.out.size
        clear hgr hH K1 HI1 l1
        go_wp2_with fail
        refine (suspect_any 1 0 _).mono ?_
        rintro e w3 ⟨rfl, hb⟩
        have K3 := Lib.hid (below_then K2.out K2.out.size hb)
        have HI3 := Lib.hid (HI2.out.below hb HI2.out.lt)
        have l3 := K3.out.size
        clear hb K2 HI2 l2
        go_wp2_with fail
        refine (suspect_any2 g (en (1 + b) (1 + a) kk (j + 1)) 1 1 0 (3 + (j : Int)) 1 _ HI3.out (en_ok _ _ _ HL.out _ ⟨k0, k1⟩ (by omega)) (by omega) (by omega)).mono ?_
        rw [en_f _ _ _ j (by omega)]
        rintro e w4 ⟨rfl, hgr, hH⟩
        have K4 := Lib.hid (grown_below K3.out hg hgr)
        have HI4 : Hid (IsH w4 g (en (1 + b) (1 + a) kk (j + 1))) := Lib.hid hH
        have l4 := K4.out.size
        clear hgr hH K3 HI3 l3
        go_wp2
        go_roundw
        case rel => exact ⟨j + 1, by omega, by go_num, K4.out, HI4.out⟩
        case measure => simp [intOf]; omega
      · obtain rfl : kk = (j : Int) := by omega
        go_wp2_with fail
        refine (Ends_near g (en (1 + b) (1 + a) (j : Int) j) 1 _ HI0.out (en_ok _ _ _ HL.out _ ⟨k0, k1⟩ (Int.le_refl _)).ok (by omega) (fun x hx => (en_ok _ _ _ HL.out _ ⟨k0, k1⟩ (Int.le_refl _)).su 1 x hx)).mono ?_
        rw [en_e _ _ j (by omega)]
        rintro e w1 ⟨rfl, hb⟩
        have K1 := Lib.hid (below_then K0.out K0.out.size hb)
        have HI1 := Lib.hid (HI0.out.below hb HI0.out.lt)
        have l1 := K1.out.size
        clear hb K0 HI0 l0
        go_wp2_with fail
        refine (suspect_any 1 0 _).mono ?_
        rintro e w2 ⟨rfl, hb⟩
        have K2 := Lib.hid (below_then K1.out K1.out.size hb)
        have HI2 := Lib.hid (HI1.out.below hb HI1.out.lt)
        have l2 := K2.out.size
        clear hb K1 HI1 l1
        go_wp2_with fail
        refine (suspect_any2 g (en (1 + b) (1 + a) (j : Int) j) 1 1 0 40 1 _ HI2.out (en_ok _ _ _ HL.out _ ⟨k0, k1⟩ (Int.le_refl _)) (by omega) (by omega)).mono ?_
        rw [en_l _ _ j (by omega)]
        rintro e w3 ⟨rfl, hgr, hH⟩
        have K3 := Lib.hid (grown_below K2.out hg hgr)
        have HI3 : Hid (IsH w3 g (en (1 + b) (1 + a) (j : Int) j)) := Lib.hid hH
        have l3 := K3.out.size
        clear hgr hH K2 HI2 l2
        go_wp2_with fail
        refine (awake_any _).mono ?_
        rintro e w4 ⟨rfl, hb⟩
        have K4 := Lib.hid (below_then K3.out K3.out.size hb)
        have HI4 := Lib.hid (HI3.out.below hb HI3.out.lt)
        have l4 := K4.out.size
        clear hb K3 HI3 l3
        go_wp2
        go_ret
        exact ⟨rfl, K4.out⟩
set_option maxRecDepth 100000 in
theorem healthEnough_lifted (os : Os) (started : os.Started) (H : Type) (enc : TypeId × Value → H) :
    ReturnsInHanded {} Try.checked os 3 .any (Rows.healthEnoughSpec.pre6 enc Try.prog Try.f3 Rows.healthEnoughRow.domain false) (Rows.healthEnoughSpec.post enc Try.prog Try.f3 false true false false) := by
  refine returnsInHanded_of_change (C := Try.checked) tOwn started (by kernel_rfl) Try.func3
    (ChangeSpec.witness6 (enc := enc) (C := Try.checked) false ⟨#[], #[.agg #[.int .u16 0, .int .u16 0], .int .u8 0], []⟩ 8 (by kernel_rfl) (by kernel_rfl) (by kernel_rfl) (by kernel_rfl)) ?_
  intro W base args ds gs before hval0 hW hcnd _
  have hval : ∀ (j : Nat) t v, Try.f3.params[j]? = some t → args[j]? = some v → Value.okWide Try.prog W .any base t v := hval0
  have hW' := hW
  obtain ⟨p, q, hA0, hV, rfl, hfz, hnd⟩ := hW
  have hA : DataW.TrodAll enc Try.prog W 0 (fun _ => true) true Try.f3.params.toList args.toList ds p := hA0
  rw [Try.params3] at hA hval
  obtain ⟨v0, vs0, d0, ds0, p0, q0, hargs, rfl, rfl, h0, r0⟩ := trodAll_cons hA
  obtain ⟨v1, vs1, d1, ds1, p1, q1, rfl, rfl, rfl, h1, r1⟩ := trodAll_cons r0
  obtain ⟨rfl, rfl, rfl⟩ := trodAll_nil r1
  obtain rfl : args = #[v0, v1] := by cases args; simp_all
  obtain ⟨a0, a1, rfl, ba0, ba1⟩ := open_pair16 (hval 0 23 v0 rfl rfl) h0
  obtain ⟨b, rfl, rfl, rfl, wb⟩ := open_int Try.underlying5 (hval 1 5 v1 rfl rfl) h1
  refine (healthEnough_walk a0 a1 b W ba0 ba1 (bounds_u8 wb)).mono fun e W' ⟨he, hb⟩ => ?_
  subst he
  exact ⟨_, rfl, law_post tLaid (by decide +kernel) hW' rfl (by kernel_rfl) Try.underlying4 rfl hb⟩

/-- The statement. -/
theorem healthEnough_holds : Rows.HealthEnoughSaid :=
  OpenClaim.holds_of_wide 3 Try.f3 rfl rfl rfl rfl rfl rfl rfl ⟨rfl, rfl, rfl, rfl, rfl⟩ rfl rfl rfl rfl rfl (by kernel_rfl) Try.func3 (by kernel_rfl)
    (of_decide_eq_true (by kernel_rfl)) (by unfold Func.isWrapper; rw [if_neg (of_decide_eq_false (by kernel_rfl))]; exact ⟨rfl, rfl⟩)
    (fun os started H enc _ => healthEnough_lifted os started H enc)
#print axioms healthEnough_holds
end Go.Proofs.Ytadhcnfgbiokcaa
