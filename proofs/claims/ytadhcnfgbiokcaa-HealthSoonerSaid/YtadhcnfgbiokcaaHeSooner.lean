/- The statement HealthSooner: each one more who suspects lets a suspicion end sooner, or as soon; it never ends ahead of the least span, nor behind the greatest one, times the score and one more. Conditions: none. -/
import Derived.Test.YtadhcnfgbiokcaaHeSoon
import Derived.Test.YtadhcnfgbiokcaaHeOpen2
namespace Go.Proofs.Ytadhcnfgbiokcaa
set_option linter.unusedVariables false
set_option linter.unusedSimpArgs false
open Go.ChangeShapes Go.WideShapes Go.ChangeAt Go.RowKit
set_option maxRecDepth 100000 in
set_option maxHeartbeats 20000000 in
theorem healthSooner_walk (a b d0 d1 : Int) (A : Option Addr) (cp : Nat) (l : List Int) (w : World) (ha : 0 ≤ a ∧ a ≤ 65535) (hb : 0 ≤ b ∧ b ≤ 65535) (hd0 : 0 ≤ d0 ∧ d0 ≤ 255) (hd1 : 0 ≤ d1 ∧ d1 ≤ 255) (hR : Reads w (fun b => b < w.heap.size) 1 A l.length (u8s l)) (hB : ∀ x ∈ l, 0 ≤ x ∧ x ≤ 255) :
    Calls Try.prog 4 #[.agg #[.int .u16 a, .int .u16 b], .agg #[.int .u8 d0, .int .u8 d1], .slice A l.length cp] w fun e w' => e = .returned (.bool true) ∧ Below w.heap.size w w' := by
  obtain ⟨a0, a1⟩ := ha
  obtain ⟨b0, b1⟩ := hb
  obtain ⟨d00, d01⟩ := hd0
  obtain ⟨d10, d11⟩ := hd1
  obtain ⟨kk, hkk⟩ : ∃ kk, d0 % 17 = kk := ⟨_, rfl⟩
  have k0 : 0 ≤ kk := by omega
  have k1 : kk ≤ 16 := by omega
  obtain ⟨sc, hsc⟩ : ∃ sc, d1 % 9 = sc := ⟨_, rfl⟩
  have s0 : 0 ≤ sc := by omega
  have s1 : sc ≤ 8 := by omega
  have HR := Lib.hid hR
  have HB := Lib.hid hB
  clear hR hB
  have KS : Hid (∀ {n : Nat} {W}, Below (((w.alloc (.cells #[.int .u16 a, .int .u16 b] 23)).alloc (.cells #[.int .u8 d0, .int .u8 d1] 39)).drewN n).heap.size (((w.alloc (.cells #[.int .u16 a, .int .u16 b] 23)).alloc (.cells #[.int .u8 d0, .int .u8 d1] 39)).drewN n) W → Below w.heap.size w W) := Lib.hid (fun h => (below_drewN (((Below.refl _ w).alloc (Nat.le_refl _) _).alloc (by simp) _) _).trans (h.mono (by show w.heap.size ≤ ((w.alloc (.cells #[.int .u16 a, .int .u16 b] 23)).alloc (.cells #[.int .u8 d0, .int .u8 d1] 39)).heap.size; simp; omega)))
  have KG : Hid (∀ {g : Nat}, ((w.alloc (.cells #[.int .u16 a, .int .u16 b] 23)).alloc (.cells #[.int .u8 d0, .int .u8 d1] 39)).heap.size ≤ g → w.heap.size ≤ g) := Lib.hid (fun h => by simp at h; omega)
  rcases (show a < b ∨ a = b ∨ b < a by omega) with h | h | h <;> by_cases hk : 0 < kk
  · go_enter Try.func4, Try.ntmps4
    go_wp2
    have HL : Hid (1 ≤ (1 + a) ∧ (1 + a) ≤ (1 + b) ∧ (1 + b) ≤ 1073741824) := Lib.hid ⟨by omega, by omega, by omega⟩
    obtain ⟨ML, hML⟩ : ∃ ML, (1 + a) * (sc + 1) = ML := ⟨_, rfl⟩
    obtain ⟨MH, hMH⟩ : ∃ MH, (1 + b) * (sc + 1) = MH := ⟨_, rfl⟩
    have ml0 : 0 ≤ ML := by rw [← hML]; exact Int.mul_nonneg (by omega) (by omega)
    have ml1 : ML ≤ MH := by rw [← hML, ← hMH]; exact Int.mul_le_mul_of_nonneg_right (by omega) (by omega)
    have mh1 : MH ≤ 65536 * 9 := by rw [← hMH]; exact Int.le_trans (Int.mul_le_mul_of_nonneg_left (by omega : sc + 1 ≤ 9) (by omega)) (Int.mul_le_mul_of_nonneg_right (by omega) (by omega))
    go_quiet (fail)
    go_wp2_with fail
    refine (new_any 0 (1 + a) (1 + b) kk _ (by omega) ⟨k0, k1⟩ HL.out).mono ?_
    rintro e w0 ⟨g, rfl, hb, hg, hH⟩
    have HI0 : Hid (IsH w0 g (hnew 0 (1 + a) (1 + b) kk)) := Lib.hid hH
    have K0 := Lib.hid (KS.out hb)
    have hg : w.heap.size ≤ g := KG.out hg
    have l0 := K0.out.size
    have hlt := hH.lt
    clear hb hH
    go_wp2_with fail
    refine (bump_any g (hnew 0 (1 + a) (1 + b) kk) sc _ HI0.out ⟨Int.le_refl _, by simp [hnew]⟩).mono ?_
    rw [show bumped (hnew 0 _ _ kk).sc sc = sc from bumped_0 ⟨s0, s1⟩]
    rintro e w1 ⟨rfl, hgr, hH⟩
    have K1 := Lib.hid (grown_below K0.out hg hgr)
    have HI1 : Hid (IsH w1 g (so0 (1 + a) (1 + b) kk sc)) := Lib.hid hH
    have l1 := K1.out.size
    clear hgr hH K0 HI0 l0
    go_wp2_with fail
    refine (suspect_any 1 0 _).mono ?_
    rintro e w2 ⟨rfl, hb⟩
    have K2 := Lib.hid (below_then K1.out K1.out.size hb)
    have HI2 := Lib.hid (HI1.out.below hb HI1.out.lt)
    have l2 := K2.out.size
    clear hb K1 HI1 l1
    go_wp2_with fail
    refine (suspect_any2 g (so0 (1 + a) (1 + b) kk sc) 1 1 0 2 100 _ HI2.out (so0_ok HL.out ⟨k0, k1⟩ ⟨s0, s1⟩) (by omega) (by omega)).mono ?_
    rw [so_1]
    rintro e w3 ⟨rfl, hgr, hH⟩
    have K3 := Lib.hid (grown_below K2.out hg hgr)
    have HI3 : Hid (IsH w3 g (so1 (1 + a) (1 + b) kk sc)) := Lib.hid hH
    have l3 := K3.out.size
    clear hgr hH K2 HI2 l2
    have HS : Hid (SoOk (1 + a) (1 + b) kk sc (so1 (1 + a) (1 + b) kk sc) ⟨0, 100, 4⟩) := Lib.hid (so1_ok HL.out ⟨k0, k1⟩ ⟨s0, s1⟩)
    go_wp2_with fail
    refine (score_any g (so1 (1 + a) (1 + b) kk sc) _ HI3.out).mono ?_
    rw [show (so1 (1 + a) (1 + b) kk sc).sc = sc from rfl]
    rintro e w4 ⟨rfl, hb⟩
    have K4 := Lib.hid (below_then K3.out K3.out.size hb)
    have HI4 := Lib.hid (HI3.out.below hb HI3.out.lt)
    have l4 := K4.out.size
    clear hb K3 HI3 l3
    obtain ⟨L0, hL0⟩ : ∃ L0, endOf (so1 (1 + a) (1 + b) kk sc) ⟨0, 100, 4⟩ = L0 := ⟨_, rfl⟩
    have L0h : L0 ≤ 100 + MH := by rw [← hL0, ← hMH]; exact soon_high HS.out
    have L0l : 100 + ML ≤ L0 := by rw [← hL0, ← hML]; exact soon_low HS.out
    have L0e : L0 = 100 + MH := by rw [← hL0, ← hMH]; exact so_2 hk
    have HL0 := Lib.hid hL0
    clear hL0
    go_wp2_with fail
    refine (Ends_near g (so1 (1 + a) (1 + b) kk sc) 1 _ HI4.out HS.out.ok.ok (by omega) (fun x hx => HS.out.ok.su 1 x hx)).mono ?_
    rw [show endVal (so1 (1 + a) (1 + b) kk sc) ((so1 (1 + a) (1 + b) kk sc).s 1) = .tuple #[.int .i64 L0, .bool true] by rw [← HL0.out]; rfl]
    rintro e w5 ⟨rfl, hb⟩
    have K5 := Lib.hid (below_then K4.out K4.out.size hb)
    have HI5 := Lib.hid (HI4.out.below hb HI4.out.lt)
    have l5 := K5.out.size
    clear hb K4 HI4 l4
    subst L0e
    clear L0h L0l
    go_wp2
    clear hkk hsc
    go_loopw [14, 16] (fun v i wr => ∃ (j : Nat) (hh : Hs) (x : Su), j ≤ l.length ∧ j ≤ 20 ∧ i = .int .i64 j ∧ v = .int .i64 (endOf hh x) ∧ SoOk (1 + a) (1 + b) kk sc hh x ∧ Below w.heap.size w wr ∧ IsH wr g hh) (fun _ i _ => 20 - (intOf i).toNat)
    case atStart => exact ⟨0, so1 (1 + a) (1 + b) kk sc, ⟨0, 100, 4⟩, by omega, by omega, rfl, by rw [HL0.out], HS.out, K5.out, HI5.out⟩
    case round =>
      obtain ⟨j, hh, x, hjl, hj20, rfl, rfl, hso, hbw, hHw⟩ := hrel
      have LE := soon_low hso
      have LH := soon_high hso
      rw [hML] at LE
      rw [hMH] at LH
      have HSo := Lib.hid hso
      have K0 := Lib.hid hbw
      have HI0 := Lib.hid hHw
      have l0 := hbw.size
      have lg := hHw.lt
      clear hso hbw hHw K5 HI5 l5 HS
      by_cases hj : j < l.length
      case' neg => have hjI : ¬ (j : Int) < (l.length : Int) := by omega
      case' pos => have hjI : (j : Int) < (l.length : Int) := by omega
      case neg =>
        go_wp2_with fail
        refine (awake_any _).mono ?_
        rintro e w1 ⟨rfl, hb⟩
        have K1 := Lib.hid (below_then K0.out K0.out.size hb)
        clear hb
        go_wp2
        go_ret
        exact ⟨rfl, K1.out⟩
      case pos =>
        by_cases h20 : j < 20
        case' neg => have h20I : ¬ (j : Int) < 20 := by omega
        case' pos => have h20I : (j : Int) < 20 := by omega
        case neg =>
          go_wp2_with fail
          refine (awake_any _).mono ?_
          rintro e w1 ⟨rfl, hb⟩
          have K1 := Lib.hid (below_then K0.out K0.out.size hb)
          clear hb
          go_wp2
          go_ret
          exact ⟨rfl, K1.out⟩
        case pos =>
          obtain ⟨u, hu⟩ : ∃ u, l[j]? = some u := ⟨l[j], List.getElem?_eq_getElem hj⟩
          have hu255 := HB.out u (List.mem_of_getElem? hu)
          obtain ⟨u0, u1⟩ := hu255
          obtain ⟨q, hq⟩ : ∃ q, u % 64 = q := ⟨_, rfl⟩
          have q0 : 0 ≤ q := by omega
          have HQ := Lib.hid (show IntKind.u16.wrap (u.tmod 64) = q by rw [Int.tmod_eq_emod_of_nonneg u0, hq, IntKind.wrap_u16]; omega)
          have q1 : q < 64 := by omega
          have hR' := (HR.out.imp (S' := fun b => b < w.heap.size) (fun b hb => hb)).below (by omega) K0.out
          obtain ⟨bk, o, rfl, hbl, hc⟩ := hR'.2 (by omega)
          have r0 := hc j _ (u8s_get l j u hu)
          have hj0 : (0 : Int) ≤ (j : Int) := by omega
          clear hR' hc hu
          obtain ⟨x', hso', hle⟩ := soon_step HSo.out q q0 q1
          have LE' := soon_low hso'
          have LH' := soon_high hso'
          rw [hML] at LE'
          rw [hMH] at LH'
          have hW9 : ∀ X, Below wr.heap.size wr X → Calls Try.prog 9 #[.pointer (some ⟨g, 0, none⟩), .agg #[.int .u16 1, .int .u8 1, .int .i64 0], .int .u16 q, .int .i64 200] X fun e w' => e = .returned (.bool (susp hh 1 1 0 q 200).1) ∧ Below w.heap.size w w' ∧ IsH w' g (susp hh 1 1 0 q 200).2 := fun X hX => by
            refine (suspect_any2 g hh 1 1 0 q 200 X (HI0.out.below hX HI0.out.lt) HSo.out.ok (by omega) q0).mono ?_
            rintro e w' ⟨e1, e2, e3⟩
            exact ⟨e1, grown_below (below_then K0.out K0.out.size hX) hg e2, e3⟩
          have HW9 := Lib.hid hW9
          have HSo' := Lib.hid hso'
          clear hW9 hso'
          generalize (susp hh 1 1 0 q 200).2 = hh' at *
          generalize (susp hh 1 1 0 q 200).1 = bb at *
          obtain ⟨E, hE⟩ : ∃ E, endOf hh x = E := ⟨_, rfl⟩
          rw [hE] at LE LH hle
          rw [hE]
          obtain ⟨E', hE'⟩ : ∃ E', endOf hh' x' = E' := ⟨_, rfl⟩
          rw [hE'] at LE' LH' hle
          have HE' := Lib.hid hE'
          clear hE hE'
          have hbw : bk < wr.heap.size := by omega
          have PK := Lib.hid (show (ML ≤ MH ∧ 0 ≤ ML ∧ MH ≤ 65536 * 9) ∧ (100 + ML ≤ E ∧ E ≤ 100 + MH) ∧ (100 + ML ≤ E' ∧ E' ≤ 100 + MH) ∧ E' ≤ E ∧ (0 ≤ sc ∧ sc ≤ 8) ∧ (0 ≤ kk ∧ kk ≤ 16) ∧ (0 ≤ a ∧ a ≤ 65535) ∧ (0 ≤ b ∧ b ≤ 65535) from ⟨⟨ml1, ml0, mh1⟩, ⟨LE, LH⟩, ⟨LE', LH'⟩, hle, ⟨s0, s1⟩, ⟨k0, k1⟩, ⟨a0, a1⟩, ⟨b0, b1⟩⟩)
          have HMM := Lib.hid (And.intro hML hMH)
          clear ml1 ml0 mh1 LE LH LE' LH' hle a1 b1 hML hMH
          go_wp2
          go_region_with (first
              | (go_at_call_of 10 (Value.int .u16 1); refine (suspect_any 1 0 _).mono ?_; rintro e w1 ⟨rfl, hb⟩; have B1 : Below wr.heap.size wr w1 := ⟨hb.os, hb.tape, hb.output, hb.size, hb.block⟩; have r1 := (B1.cell (p := ⟨bk, o + j, none⟩) hbw).trans r0; have K1 := Lib.hid B1; clear hb B1)
              | (go_at_call_of 9 (Value.int .i64 200); rw [HQ.out]; refine (HW9.out _ ?_).mono ?_; (first | exact K1.out | exact K1.out.drew | exact below_drewN K1.out _ | exact (below_drewN K1.out _).drew); rintro e w2 ⟨rfl, hb, hH⟩; have K2 := Lib.hid hb; have HI2 := Lib.hid hH; have l2 := hb.size; clear hb hH))
          all_goals
            obtain ⟨⟨ml1, ml0, mh1⟩, ⟨LE, LH⟩, ⟨LE', LH'⟩, hle, ⟨s0, s1⟩, ⟨k0, k1⟩, ⟨a0, a1⟩, ⟨b0, b1⟩⟩ := PK.out
            obtain ⟨hML, hMH⟩ := HMM.out
            go_wp2_with fail
            refine (Ends_near g hh' 1 _ HI2.out HSo'.out.ok.ok (by omega) (fun z hz => HSo'.out.ok.su 1 z hz)).mono ?_
            rw [show endVal hh' (hh'.s 1) = .tuple #[.int .i64 E', .bool true] by rw [HSo'.out.s, ← HE'.out]; rfl]
            rintro e w3 ⟨rfl, hb⟩
            have K3 := Lib.hid (below_then K2.out K2.out.size hb)
            have HI3 := Lib.hid (HI2.out.below hb HI2.out.lt)
            clear hb
            go_wp2
            go_roundw
            case rel => exact ⟨j + 1, hh', x', by omega, by omega, by go_num, by rw [HE'.out], HSo'.out, K3.out, HI3.out⟩
            case measure => simp [intOf]; omega
  · go_enter Try.func4, Try.ntmps4
    go_wp2
    have HL : Hid (1 ≤ (1 + a) ∧ (1 + a) ≤ (1 + b) ∧ (1 + b) ≤ 1073741824) := Lib.hid ⟨by omega, by omega, by omega⟩
    obtain ⟨ML, hML⟩ : ∃ ML, (1 + a) * (sc + 1) = ML := ⟨_, rfl⟩
    obtain ⟨MH, hMH⟩ : ∃ MH, (1 + b) * (sc + 1) = MH := ⟨_, rfl⟩
    have ml0 : 0 ≤ ML := by rw [← hML]; exact Int.mul_nonneg (by omega) (by omega)
    have ml1 : ML ≤ MH := by rw [← hML, ← hMH]; exact Int.mul_le_mul_of_nonneg_right (by omega) (by omega)
    have mh1 : MH ≤ 65536 * 9 := by rw [← hMH]; exact Int.le_trans (Int.mul_le_mul_of_nonneg_left (by omega : sc + 1 ≤ 9) (by omega)) (Int.mul_le_mul_of_nonneg_right (by omega) (by omega))
    go_quiet (fail)
    go_wp2_with fail
    refine (new_any 0 (1 + a) (1 + b) kk _ (by omega) ⟨k0, k1⟩ HL.out).mono ?_
    rintro e w0 ⟨g, rfl, hb, hg, hH⟩
    have HI0 : Hid (IsH w0 g (hnew 0 (1 + a) (1 + b) kk)) := Lib.hid hH
    have K0 := Lib.hid (KS.out hb)
    have hg : w.heap.size ≤ g := KG.out hg
    have l0 := K0.out.size
    have hlt := hH.lt
    clear hb hH
    go_wp2_with fail
    refine (bump_any g (hnew 0 (1 + a) (1 + b) kk) sc _ HI0.out ⟨Int.le_refl _, by simp [hnew]⟩).mono ?_
    rw [show bumped (hnew 0 _ _ kk).sc sc = sc from bumped_0 ⟨s0, s1⟩]
    rintro e w1 ⟨rfl, hgr, hH⟩
    have K1 := Lib.hid (grown_below K0.out hg hgr)
    have HI1 : Hid (IsH w1 g (so0 (1 + a) (1 + b) kk sc)) := Lib.hid hH
    have l1 := K1.out.size
    clear hgr hH K0 HI0 l0
    go_wp2_with fail
    refine (suspect_any 1 0 _).mono ?_
    rintro e w2 ⟨rfl, hb⟩
    have K2 := Lib.hid (below_then K1.out K1.out.size hb)
    have HI2 := Lib.hid (HI1.out.below hb HI1.out.lt)
    have l2 := K2.out.size
    clear hb K1 HI1 l1
    go_wp2_with fail
    refine (suspect_any2 g (so0 (1 + a) (1 + b) kk sc) 1 1 0 2 100 _ HI2.out (so0_ok HL.out ⟨k0, k1⟩ ⟨s0, s1⟩) (by omega) (by omega)).mono ?_
    rw [so_1]
    rintro e w3 ⟨rfl, hgr, hH⟩
    have K3 := Lib.hid (grown_below K2.out hg hgr)
    have HI3 : Hid (IsH w3 g (so1 (1 + a) (1 + b) kk sc)) := Lib.hid hH
    have l3 := K3.out.size
    clear hgr hH K2 HI2 l2
    have HS : Hid (SoOk (1 + a) (1 + b) kk sc (so1 (1 + a) (1 + b) kk sc) ⟨0, 100, 4⟩) := Lib.hid (so1_ok HL.out ⟨k0, k1⟩ ⟨s0, s1⟩)
    go_wp2_with fail
    refine (score_any g (so1 (1 + a) (1 + b) kk sc) _ HI3.out).mono ?_
    rw [show (so1 (1 + a) (1 + b) kk sc).sc = sc from rfl]
    rintro e w4 ⟨rfl, hb⟩
    have K4 := Lib.hid (below_then K3.out K3.out.size hb)
    have HI4 := Lib.hid (HI3.out.below hb HI3.out.lt)
    have l4 := K4.out.size
    clear hb K3 HI3 l3
    obtain ⟨L0, hL0⟩ : ∃ L0, endOf (so1 (1 + a) (1 + b) kk sc) ⟨0, 100, 4⟩ = L0 := ⟨_, rfl⟩
    have L0h : L0 ≤ 100 + MH := by rw [← hL0, ← hMH]; exact soon_high HS.out
    have L0l : 100 + ML ≤ L0 := by rw [← hL0, ← hML]; exact soon_low HS.out
    have HL0 := Lib.hid hL0
    clear hL0
    go_wp2_with fail
    refine (Ends_near g (so1 (1 + a) (1 + b) kk sc) 1 _ HI4.out HS.out.ok.ok (by omega) (fun x hx => HS.out.ok.su 1 x hx)).mono ?_
    rw [show endVal (so1 (1 + a) (1 + b) kk sc) ((so1 (1 + a) (1 + b) kk sc).s 1) = .tuple #[.int .i64 L0, .bool true] by rw [← HL0.out]; rfl]
    rintro e w5 ⟨rfl, hb⟩
    have K5 := Lib.hid (below_then K4.out K4.out.size hb)
    have HI5 := Lib.hid (HI4.out.below hb HI4.out.lt)
    have l5 := K5.out.size
    clear hb K4 HI4 l4
    go_wp2
    clear hkk hsc
    go_loopw [14, 16] (fun v i wr => ∃ (j : Nat) (hh : Hs) (x : Su), j ≤ l.length ∧ j ≤ 20 ∧ i = .int .i64 j ∧ v = .int .i64 (endOf hh x) ∧ SoOk (1 + a) (1 + b) kk sc hh x ∧ Below w.heap.size w wr ∧ IsH wr g hh) (fun _ i _ => 20 - (intOf i).toNat)
    case atStart => exact ⟨0, so1 (1 + a) (1 + b) kk sc, ⟨0, 100, 4⟩, by omega, by omega, rfl, by rw [HL0.out], HS.out, K5.out, HI5.out⟩
    case round =>
      obtain ⟨j, hh, x, hjl, hj20, rfl, rfl, hso, hbw, hHw⟩ := hrel
      have LE := soon_low hso
      have LH := soon_high hso
      rw [hML] at LE
      rw [hMH] at LH
      have HSo := Lib.hid hso
      have K0 := Lib.hid hbw
      have HI0 := Lib.hid hHw
      have l0 := hbw.size
      have lg := hHw.lt
      clear hso hbw hHw K5 HI5 l5 HS
      by_cases hj : j < l.length
      case' neg => have hjI : ¬ (j : Int) < (l.length : Int) := by omega
      case' pos => have hjI : (j : Int) < (l.length : Int) := by omega
      case neg =>
        go_wp2_with fail
        refine (awake_any _).mono ?_
        rintro e w1 ⟨rfl, hb⟩
        have K1 := Lib.hid (below_then K0.out K0.out.size hb)
        clear hb
        go_wp2
        go_ret
        exact ⟨rfl, K1.out⟩
      case pos =>
        by_cases h20 : j < 20
        case' neg => have h20I : ¬ (j : Int) < 20 := by omega
        case' pos => have h20I : (j : Int) < 20 := by omega
        case neg =>
          go_wp2_with fail
          refine (awake_any _).mono ?_
          rintro e w1 ⟨rfl, hb⟩
          have K1 := Lib.hid (below_then K0.out K0.out.size hb)
          clear hb
          go_wp2
          go_ret
          exact ⟨rfl, K1.out⟩
        case pos =>
          obtain ⟨u, hu⟩ : ∃ u, l[j]? = some u := ⟨l[j], List.getElem?_eq_getElem hj⟩
          have hu255 := HB.out u (List.mem_of_getElem? hu)
          obtain ⟨u0, u1⟩ := hu255
          obtain ⟨q, hq⟩ : ∃ q, u % 64 = q := ⟨_, rfl⟩
          have q0 : 0 ≤ q := by omega
          have HQ := Lib.hid (show IntKind.u16.wrap (u.tmod 64) = q by rw [Int.tmod_eq_emod_of_nonneg u0, hq, IntKind.wrap_u16]; omega)
          have q1 : q < 64 := by omega
          have hR' := (HR.out.imp (S' := fun b => b < w.heap.size) (fun b hb => hb)).below (by omega) K0.out
          obtain ⟨bk, o, rfl, hbl, hc⟩ := hR'.2 (by omega)
          have r0 := hc j _ (u8s_get l j u hu)
          have hj0 : (0 : Int) ≤ (j : Int) := by omega
          clear hR' hc hu
          obtain ⟨x', hso', hle⟩ := soon_step HSo.out q q0 q1
          have LE' := soon_low hso'
          have LH' := soon_high hso'
          rw [hML] at LE'
          rw [hMH] at LH'
          have hW9 : ∀ X, Below wr.heap.size wr X → Calls Try.prog 9 #[.pointer (some ⟨g, 0, none⟩), .agg #[.int .u16 1, .int .u8 1, .int .i64 0], .int .u16 q, .int .i64 200] X fun e w' => e = .returned (.bool (susp hh 1 1 0 q 200).1) ∧ Below w.heap.size w w' ∧ IsH w' g (susp hh 1 1 0 q 200).2 := fun X hX => by
            refine (suspect_any2 g hh 1 1 0 q 200 X (HI0.out.below hX HI0.out.lt) HSo.out.ok (by omega) q0).mono ?_
            rintro e w' ⟨e1, e2, e3⟩
            exact ⟨e1, grown_below (below_then K0.out K0.out.size hX) hg e2, e3⟩
          have HW9 := Lib.hid hW9
          have HSo' := Lib.hid hso'
          clear hW9 hso'
          generalize (susp hh 1 1 0 q 200).2 = hh' at *
          generalize (susp hh 1 1 0 q 200).1 = bb at *
          obtain ⟨E, hE⟩ : ∃ E, endOf hh x = E := ⟨_, rfl⟩
          rw [hE] at LE LH hle
          rw [hE]
          obtain ⟨E', hE'⟩ : ∃ E', endOf hh' x' = E' := ⟨_, rfl⟩
          rw [hE'] at LE' LH' hle
          have HE' := Lib.hid hE'
          clear hE hE'
          have hbw : bk < wr.heap.size := by omega
          have PK := Lib.hid (show (ML ≤ MH ∧ 0 ≤ ML ∧ MH ≤ 65536 * 9) ∧ (100 + ML ≤ E ∧ E ≤ 100 + MH) ∧ (100 + ML ≤ E' ∧ E' ≤ 100 + MH) ∧ E' ≤ E ∧ (0 ≤ sc ∧ sc ≤ 8) ∧ (0 ≤ kk ∧ kk ≤ 16) ∧ (0 ≤ a ∧ a ≤ 65535) ∧ (0 ≤ b ∧ b ≤ 65535) from ⟨⟨ml1, ml0, mh1⟩, ⟨LE, LH⟩, ⟨LE', LH'⟩, hle, ⟨s0, s1⟩, ⟨k0, k1⟩, ⟨a0, a1⟩, ⟨b0, b1⟩⟩)
          have HMM := Lib.hid (And.intro hML hMH)
          clear ml1 ml0 mh1 LE LH LE' LH' hle a1 b1 hML hMH L0h L0l
          go_wp2
          go_region_with (first
              | (go_at_call_of 10 (Value.int .u16 1); refine (suspect_any 1 0 _).mono ?_; rintro e w1 ⟨rfl, hb⟩; have B1 : Below wr.heap.size wr w1 := ⟨hb.os, hb.tape, hb.output, hb.size, hb.block⟩; have r1 := (B1.cell (p := ⟨bk, o + j, none⟩) hbw).trans r0; have K1 := Lib.hid B1; clear hb B1)
              | (go_at_call_of 9 (Value.int .i64 200); rw [HQ.out]; refine (HW9.out _ ?_).mono ?_; (first | exact K1.out | exact K1.out.drew | exact below_drewN K1.out _ | exact (below_drewN K1.out _).drew); rintro e w2 ⟨rfl, hb, hH⟩; have K2 := Lib.hid hb; have HI2 := Lib.hid hH; have l2 := hb.size; clear hb hH))
          all_goals
            obtain ⟨⟨ml1, ml0, mh1⟩, ⟨LE, LH⟩, ⟨LE', LH'⟩, hle, ⟨s0, s1⟩, ⟨k0, k1⟩, ⟨a0, a1⟩, ⟨b0, b1⟩⟩ := PK.out
            obtain ⟨hML, hMH⟩ := HMM.out
            go_wp2_with fail
            refine (Ends_near g hh' 1 _ HI2.out HSo'.out.ok.ok (by omega) (fun z hz => HSo'.out.ok.su 1 z hz)).mono ?_
            rw [show endVal hh' (hh'.s 1) = .tuple #[.int .i64 E', .bool true] by rw [HSo'.out.s, ← HE'.out]; rfl]
            rintro e w3 ⟨rfl, hb⟩
            have K3 := Lib.hid (below_then K2.out K2.out.size hb)
            have HI3 := Lib.hid (HI2.out.below hb HI2.out.lt)
            clear hb
            go_wp2
            go_roundw
            case rel => exact ⟨j + 1, hh', x', by omega, by omega, by go_num, by rw [HE'.out], HSo'.out, K3.out, HI3.out⟩
            case measure => simp [intOf]; omega
  · subst h
    go_enter Try.func4, Try.ntmps4
    go_wp2
    have HL : Hid (1 ≤ (1 + a) ∧ (1 + a) ≤ (1 + a) ∧ (1 + a) ≤ 1073741824) := Lib.hid ⟨by omega, by omega, by omega⟩
    obtain ⟨MH, hMH⟩ : ∃ MH, (1 + a) * (sc + 1) = MH := ⟨_, rfl⟩
    have ml0 : 0 ≤ MH := by rw [← hMH]; exact Int.mul_nonneg (by omega) (by omega)
    have ml1 : MH ≤ MH := by omega
    have mh1 : MH ≤ 65536 * 9 := by rw [← hMH]; exact Int.le_trans (Int.mul_le_mul_of_nonneg_left (by omega : sc + 1 ≤ 9) (by omega)) (Int.mul_le_mul_of_nonneg_right (by omega) (by omega))
    go_quiet (fail)
    go_wp2_with fail
    refine (new_any 0 (1 + a) (1 + a) kk _ (by omega) ⟨k0, k1⟩ HL.out).mono ?_
    rintro e w0 ⟨g, rfl, hb, hg, hH⟩
    have HI0 : Hid (IsH w0 g (hnew 0 (1 + a) (1 + a) kk)) := Lib.hid hH
    have K0 := Lib.hid (KS.out hb)
    have hg : w.heap.size ≤ g := KG.out hg
    have l0 := K0.out.size
    have hlt := hH.lt
    clear hb hH
    go_wp2_with fail
    refine (bump_any g (hnew 0 (1 + a) (1 + a) kk) sc _ HI0.out ⟨Int.le_refl _, by simp [hnew]⟩).mono ?_
    rw [show bumped (hnew 0 _ _ kk).sc sc = sc from bumped_0 ⟨s0, s1⟩]
    rintro e w1 ⟨rfl, hgr, hH⟩
    have K1 := Lib.hid (grown_below K0.out hg hgr)
    have HI1 : Hid (IsH w1 g (so0 (1 + a) (1 + a) kk sc)) := Lib.hid hH
    have l1 := K1.out.size
    clear hgr hH K0 HI0 l0
    go_wp2_with fail
    refine (suspect_any 1 0 _).mono ?_
    rintro e w2 ⟨rfl, hb⟩
    have K2 := Lib.hid (below_then K1.out K1.out.size hb)
    have HI2 := Lib.hid (HI1.out.below hb HI1.out.lt)
    have l2 := K2.out.size
    clear hb K1 HI1 l1
    go_wp2_with fail
    refine (suspect_any2 g (so0 (1 + a) (1 + a) kk sc) 1 1 0 2 100 _ HI2.out (so0_ok HL.out ⟨k0, k1⟩ ⟨s0, s1⟩) (by omega) (by omega)).mono ?_
    rw [so_1]
    rintro e w3 ⟨rfl, hgr, hH⟩
    have K3 := Lib.hid (grown_below K2.out hg hgr)
    have HI3 : Hid (IsH w3 g (so1 (1 + a) (1 + a) kk sc)) := Lib.hid hH
    have l3 := K3.out.size
    clear hgr hH K2 HI2 l2
    have HS : Hid (SoOk (1 + a) (1 + a) kk sc (so1 (1 + a) (1 + a) kk sc) ⟨0, 100, 4⟩) := Lib.hid (so1_ok HL.out ⟨k0, k1⟩ ⟨s0, s1⟩)
    go_wp2_with fail
    refine (score_any g (so1 (1 + a) (1 + a) kk sc) _ HI3.out).mono ?_
    rw [show (so1 (1 + a) (1 + a) kk sc).sc = sc from rfl]
    rintro e w4 ⟨rfl, hb⟩
    have K4 := Lib.hid (below_then K3.out K3.out.size hb)
    have HI4 := Lib.hid (HI3.out.below hb HI3.out.lt)
    have l4 := K4.out.size
    clear hb K3 HI3 l3
    obtain ⟨L0, hL0⟩ : ∃ L0, endOf (so1 (1 + a) (1 + a) kk sc) ⟨0, 100, 4⟩ = L0 := ⟨_, rfl⟩
    have L0h : L0 ≤ 100 + MH := by rw [← hL0, ← hMH]; exact soon_high HS.out
    have L0l : 100 + MH ≤ L0 := by rw [← hL0, ← hMH]; exact soon_low HS.out
    have L0e : L0 = 100 + MH := by rw [← hL0, ← hMH]; exact so_2 hk
    have HL0 := Lib.hid hL0
    clear hL0
    go_wp2_with fail
    refine (Ends_near g (so1 (1 + a) (1 + a) kk sc) 1 _ HI4.out HS.out.ok.ok (by omega) (fun x hx => HS.out.ok.su 1 x hx)).mono ?_
    rw [show endVal (so1 (1 + a) (1 + a) kk sc) ((so1 (1 + a) (1 + a) kk sc).s 1) = .tuple #[.int .i64 L0, .bool true] by rw [← HL0.out]; rfl]
    rintro e w5 ⟨rfl, hb⟩
    have K5 := Lib.hid (below_then K4.out K4.out.size hb)
    have HI5 := Lib.hid (HI4.out.below hb HI4.out.lt)
    have l5 := K5.out.size
    clear hb K4 HI4 l4
    subst L0e
    clear L0h L0l
    go_wp2
    clear hkk hsc
    go_loopw [14, 16] (fun v i wr => ∃ (j : Nat) (hh : Hs) (x : Su), j ≤ l.length ∧ j ≤ 20 ∧ i = .int .i64 j ∧ v = .int .i64 (endOf hh x) ∧ SoOk (1 + a) (1 + a) kk sc hh x ∧ Below w.heap.size w wr ∧ IsH wr g hh) (fun _ i _ => 20 - (intOf i).toNat)
    case atStart => exact ⟨0, so1 (1 + a) (1 + a) kk sc, ⟨0, 100, 4⟩, by omega, by omega, rfl, by rw [HL0.out], HS.out, K5.out, HI5.out⟩
    case round =>
      obtain ⟨j, hh, x, hjl, hj20, rfl, rfl, hso, hbw, hHw⟩ := hrel
      have LE := soon_low hso
      have LH := soon_high hso
      rw [hMH] at LE
      rw [hMH] at LH
      have HSo := Lib.hid hso
      have K0 := Lib.hid hbw
      have HI0 := Lib.hid hHw
      have l0 := hbw.size
      have lg := hHw.lt
      clear hso hbw hHw K5 HI5 l5 HS
      by_cases hj : j < l.length
      case' neg => have hjI : ¬ (j : Int) < (l.length : Int) := by omega
      case' pos => have hjI : (j : Int) < (l.length : Int) := by omega
      case neg =>
        go_wp2_with fail
        refine (awake_any _).mono ?_
        rintro e w1 ⟨rfl, hb⟩
        have K1 := Lib.hid (below_then K0.out K0.out.size hb)
        clear hb
        go_wp2
        go_ret
        exact ⟨rfl, K1.out⟩
      case pos =>
        by_cases h20 : j < 20
        case' neg => have h20I : ¬ (j : Int) < 20 := by omega
        case' pos => have h20I : (j : Int) < 20 := by omega
        case neg =>
          go_wp2_with fail
          refine (awake_any _).mono ?_
          rintro e w1 ⟨rfl, hb⟩
          have K1 := Lib.hid (below_then K0.out K0.out.size hb)
          clear hb
          go_wp2
          go_ret
          exact ⟨rfl, K1.out⟩
        case pos =>
          obtain ⟨u, hu⟩ : ∃ u, l[j]? = some u := ⟨l[j], List.getElem?_eq_getElem hj⟩
          have hu255 := HB.out u (List.mem_of_getElem? hu)
          obtain ⟨u0, u1⟩ := hu255
          obtain ⟨q, hq⟩ : ∃ q, u % 64 = q := ⟨_, rfl⟩
          have q0 : 0 ≤ q := by omega
          have HQ := Lib.hid (show IntKind.u16.wrap (u.tmod 64) = q by rw [Int.tmod_eq_emod_of_nonneg u0, hq, IntKind.wrap_u16]; omega)
          have q1 : q < 64 := by omega
          have hR' := (HR.out.imp (S' := fun b => b < w.heap.size) (fun b hb => hb)).below (by omega) K0.out
          obtain ⟨bk, o, rfl, hbl, hc⟩ := hR'.2 (by omega)
          have r0 := hc j _ (u8s_get l j u hu)
          have hj0 : (0 : Int) ≤ (j : Int) := by omega
          clear hR' hc hu
          obtain ⟨x', hso', hle⟩ := soon_step HSo.out q q0 q1
          have LE' := soon_low hso'
          have LH' := soon_high hso'
          rw [hMH] at LE'
          rw [hMH] at LH'
          have hW9 : ∀ X, Below wr.heap.size wr X → Calls Try.prog 9 #[.pointer (some ⟨g, 0, none⟩), .agg #[.int .u16 1, .int .u8 1, .int .i64 0], .int .u16 q, .int .i64 200] X fun e w' => e = .returned (.bool (susp hh 1 1 0 q 200).1) ∧ Below w.heap.size w w' ∧ IsH w' g (susp hh 1 1 0 q 200).2 := fun X hX => by
            refine (suspect_any2 g hh 1 1 0 q 200 X (HI0.out.below hX HI0.out.lt) HSo.out.ok (by omega) q0).mono ?_
            rintro e w' ⟨e1, e2, e3⟩
            exact ⟨e1, grown_below (below_then K0.out K0.out.size hX) hg e2, e3⟩
          have HW9 := Lib.hid hW9
          have HSo' := Lib.hid hso'
          clear hW9 hso'
          generalize (susp hh 1 1 0 q 200).2 = hh' at *
          generalize (susp hh 1 1 0 q 200).1 = bb at *
          obtain ⟨E, hE⟩ : ∃ E, endOf hh x = E := ⟨_, rfl⟩
          rw [hE] at LE LH hle
          rw [hE]
          obtain ⟨E', hE'⟩ : ∃ E', endOf hh' x' = E' := ⟨_, rfl⟩
          rw [hE'] at LE' LH' hle
          have HE' := Lib.hid hE'
          clear hE hE'
          have hbw : bk < wr.heap.size := by omega
          have PK := Lib.hid (show (MH ≤ MH ∧ 0 ≤ MH ∧ MH ≤ 65536 * 9) ∧ (100 + MH ≤ E ∧ E ≤ 100 + MH) ∧ (100 + MH ≤ E' ∧ E' ≤ 100 + MH) ∧ E' ≤ E ∧ (0 ≤ sc ∧ sc ≤ 8) ∧ (0 ≤ kk ∧ kk ≤ 16) ∧ (0 ≤ a ∧ a ≤ 65535) ∧ (0 ≤ a ∧ a ≤ 65535) from ⟨⟨ml1, ml0, mh1⟩, ⟨LE, LH⟩, ⟨LE', LH'⟩, hle, ⟨s0, s1⟩, ⟨k0, k1⟩, ⟨a0, a1⟩, ⟨b0, b1⟩⟩)
          have HMM := Lib.hid (And.intro hMH hMH)
          clear ml1 ml0 mh1 LE LH LE' LH' hle a1 b1 hMH
          go_wp2
          go_region_with (first
              | (go_at_call_of 10 (Value.int .u16 1); refine (suspect_any 1 0 _).mono ?_; rintro e w1 ⟨rfl, hb⟩; have B1 : Below wr.heap.size wr w1 := ⟨hb.os, hb.tape, hb.output, hb.size, hb.block⟩; have r1 := (B1.cell (p := ⟨bk, o + j, none⟩) hbw).trans r0; have K1 := Lib.hid B1; clear hb B1)
              | (go_at_call_of 9 (Value.int .i64 200); rw [HQ.out]; refine (HW9.out _ ?_).mono ?_; (first | exact K1.out | exact K1.out.drew | exact below_drewN K1.out _ | exact (below_drewN K1.out _).drew); rintro e w2 ⟨rfl, hb, hH⟩; have K2 := Lib.hid hb; have HI2 := Lib.hid hH; have l2 := hb.size; clear hb hH))
          all_goals
            obtain ⟨⟨ml1, ml0, mh1⟩, ⟨LE, LH⟩, ⟨LE', LH'⟩, hle, ⟨s0, s1⟩, ⟨k0, k1⟩, ⟨a0, a1⟩, ⟨b0, b1⟩⟩ := PK.out
            obtain ⟨hMH, _⟩ := HMM.out
            go_wp2_with fail
            refine (Ends_near g hh' 1 _ HI2.out HSo'.out.ok.ok (by omega) (fun z hz => HSo'.out.ok.su 1 z hz)).mono ?_
            rw [show endVal hh' (hh'.s 1) = .tuple #[.int .i64 E', .bool true] by rw [HSo'.out.s, ← HE'.out]; rfl]
            rintro e w3 ⟨rfl, hb⟩
            have K3 := Lib.hid (below_then K2.out K2.out.size hb)
            have HI3 := Lib.hid (HI2.out.below hb HI2.out.lt)
            clear hb
            go_wp2
            go_roundw
            case rel => exact ⟨j + 1, hh', x', by omega, by omega, by go_num, by rw [HE'.out], HSo'.out, K3.out, HI3.out⟩
            case measure => simp [intOf]; omega
  · subst h
    go_enter Try.func4, Try.ntmps4
    go_wp2
    have HL : Hid (1 ≤ (1 + a) ∧ (1 + a) ≤ (1 + a) ∧ (1 + a) ≤ 1073741824) := Lib.hid ⟨by omega, by omega, by omega⟩
    obtain ⟨MH, hMH⟩ : ∃ MH, (1 + a) * (sc + 1) = MH := ⟨_, rfl⟩
    have ml0 : 0 ≤ MH := by rw [← hMH]; exact Int.mul_nonneg (by omega) (by omega)
    have ml1 : MH ≤ MH := by omega
    have mh1 : MH ≤ 65536 * 9 := by rw [← hMH]; exact Int.le_trans (Int.mul_le_mul_of_nonneg_left (by omega : sc + 1 ≤ 9) (by omega)) (Int.mul_le_mul_of_nonneg_right (by omega) (by omega))
    go_quiet (fail)
    go_wp2_with fail
    refine (new_any 0 (1 + a) (1 + a) kk _ (by omega) ⟨k0, k1⟩ HL.out).mono ?_
    rintro e w0 ⟨g, rfl, hb, hg, hH⟩
    have HI0 : Hid (IsH w0 g (hnew 0 (1 + a) (1 + a) kk)) := Lib.hid hH
    have K0 := Lib.hid (KS.out hb)
    have hg : w.heap.size ≤ g := KG.out hg
    have l0 := K0.out.size
    have hlt := hH.lt
    clear hb hH
    go_wp2_with fail
    refine (bump_any g (hnew 0 (1 + a) (1 + a) kk) sc _ HI0.out ⟨Int.le_refl _, by simp [hnew]⟩).mono ?_
    rw [show bumped (hnew 0 _ _ kk).sc sc = sc from bumped_0 ⟨s0, s1⟩]
    rintro e w1 ⟨rfl, hgr, hH⟩
    have K1 := Lib.hid (grown_below K0.out hg hgr)
    have HI1 : Hid (IsH w1 g (so0 (1 + a) (1 + a) kk sc)) := Lib.hid hH
    have l1 := K1.out.size
    clear hgr hH K0 HI0 l0
    go_wp2_with fail
    refine (suspect_any 1 0 _).mono ?_
    rintro e w2 ⟨rfl, hb⟩
    have K2 := Lib.hid (below_then K1.out K1.out.size hb)
    have HI2 := Lib.hid (HI1.out.below hb HI1.out.lt)
    have l2 := K2.out.size
    clear hb K1 HI1 l1
    go_wp2_with fail
    refine (suspect_any2 g (so0 (1 + a) (1 + a) kk sc) 1 1 0 2 100 _ HI2.out (so0_ok HL.out ⟨k0, k1⟩ ⟨s0, s1⟩) (by omega) (by omega)).mono ?_
    rw [so_1]
    rintro e w3 ⟨rfl, hgr, hH⟩
    have K3 := Lib.hid (grown_below K2.out hg hgr)
    have HI3 : Hid (IsH w3 g (so1 (1 + a) (1 + a) kk sc)) := Lib.hid hH
    have l3 := K3.out.size
    clear hgr hH K2 HI2 l2
    have HS : Hid (SoOk (1 + a) (1 + a) kk sc (so1 (1 + a) (1 + a) kk sc) ⟨0, 100, 4⟩) := Lib.hid (so1_ok HL.out ⟨k0, k1⟩ ⟨s0, s1⟩)
    go_wp2_with fail
    refine (score_any g (so1 (1 + a) (1 + a) kk sc) _ HI3.out).mono ?_
    rw [show (so1 (1 + a) (1 + a) kk sc).sc = sc from rfl]
    rintro e w4 ⟨rfl, hb⟩
    have K4 := Lib.hid (below_then K3.out K3.out.size hb)
    have HI4 := Lib.hid (HI3.out.below hb HI3.out.lt)
    have l4 := K4.out.size
    clear hb K3 HI3 l3
    obtain ⟨L0, hL0⟩ : ∃ L0, endOf (so1 (1 + a) (1 + a) kk sc) ⟨0, 100, 4⟩ = L0 := ⟨_, rfl⟩
    have L0h : L0 ≤ 100 + MH := by rw [← hL0, ← hMH]; exact soon_high HS.out
    have L0l : 100 + MH ≤ L0 := by rw [← hL0, ← hMH]; exact soon_low HS.out
    have HL0 := Lib.hid hL0
    clear hL0
    go_wp2_with fail
    refine (Ends_near g (so1 (1 + a) (1 + a) kk sc) 1 _ HI4.out HS.out.ok.ok (by omega) (fun x hx => HS.out.ok.su 1 x hx)).mono ?_
    rw [show endVal (so1 (1 + a) (1 + a) kk sc) ((so1 (1 + a) (1 + a) kk sc).s 1) = .tuple #[.int .i64 L0, .bool true] by rw [← HL0.out]; rfl]
    rintro e w5 ⟨rfl, hb⟩
    have K5 := Lib.hid (below_then K4.out K4.out.size hb)
    have HI5 := Lib.hid (HI4.out.below hb HI4.out.lt)
    have l5 := K5.out.size
    clear hb K4 HI4 l4
    go_wp2
    clear hkk hsc
    go_loopw [14, 16] (fun v i wr => ∃ (j : Nat) (hh : Hs) (x : Su), j ≤ l.length ∧ j ≤ 20 ∧ i = .int .i64 j ∧ v = .int .i64 (endOf hh x) ∧ SoOk (1 + a) (1 + a) kk sc hh x ∧ Below w.heap.size w wr ∧ IsH wr g hh) (fun _ i _ => 20 - (intOf i).toNat)
    case atStart => exact ⟨0, so1 (1 + a) (1 + a) kk sc, ⟨0, 100, 4⟩, by omega, by omega, rfl, by rw [HL0.out], HS.out, K5.out, HI5.out⟩
    case round =>
      obtain ⟨j, hh, x, hjl, hj20, rfl, rfl, hso, hbw, hHw⟩ := hrel
      have LE := soon_low hso
      have LH := soon_high hso
      rw [hMH] at LE
      rw [hMH] at LH
      have HSo := Lib.hid hso
      have K0 := Lib.hid hbw
      have HI0 := Lib.hid hHw
      have l0 := hbw.size
      have lg := hHw.lt
      clear hso hbw hHw K5 HI5 l5 HS
      by_cases hj : j < l.length
      case' neg => have hjI : ¬ (j : Int) < (l.length : Int) := by omega
      case' pos => have hjI : (j : Int) < (l.length : Int) := by omega
      case neg =>
        go_wp2_with fail
        refine (awake_any _).mono ?_
        rintro e w1 ⟨rfl, hb⟩
        have K1 := Lib.hid (below_then K0.out K0.out.size hb)
        clear hb
        go_wp2
        go_ret
        exact ⟨rfl, K1.out⟩
      case pos =>
        by_cases h20 : j < 20
        case' neg => have h20I : ¬ (j : Int) < 20 := by omega
        case' pos => have h20I : (j : Int) < 20 := by omega
        case neg =>
          go_wp2_with fail
          refine (awake_any _).mono ?_
          rintro e w1 ⟨rfl, hb⟩
          have K1 := Lib.hid (below_then K0.out K0.out.size hb)
          clear hb
          go_wp2
          go_ret
          exact ⟨rfl, K1.out⟩
        case pos =>
          obtain ⟨u, hu⟩ : ∃ u, l[j]? = some u := ⟨l[j], List.getElem?_eq_getElem hj⟩
          have hu255 := HB.out u (List.mem_of_getElem? hu)
          obtain ⟨u0, u1⟩ := hu255
          obtain ⟨q, hq⟩ : ∃ q, u % 64 = q := ⟨_, rfl⟩
          have q0 : 0 ≤ q := by omega
          have HQ := Lib.hid (show IntKind.u16.wrap (u.tmod 64) = q by rw [Int.tmod_eq_emod_of_nonneg u0, hq, IntKind.wrap_u16]; omega)
          have q1 : q < 64 := by omega
          have hR' := (HR.out.imp (S' := fun b => b < w.heap.size) (fun b hb => hb)).below (by omega) K0.out
          obtain ⟨bk, o, rfl, hbl, hc⟩ := hR'.2 (by omega)
          have r0 := hc j _ (u8s_get l j u hu)
          have hj0 : (0 : Int) ≤ (j : Int) := by omega
          clear hR' hc hu
          obtain ⟨x', hso', hle⟩ := soon_step HSo.out q q0 q1
          have LE' := soon_low hso'
          have LH' := soon_high hso'
          rw [hMH] at LE'
          rw [hMH] at LH'
          have hW9 : ∀ X, Below wr.heap.size wr X → Calls Try.prog 9 #[.pointer (some ⟨g, 0, none⟩), .agg #[.int .u16 1, .int .u8 1, .int .i64 0], .int .u16 q, .int .i64 200] X fun e w' => e = .returned (.bool (susp hh 1 1 0 q 200).1) ∧ Below w.heap.size w w' ∧ IsH w' g (susp hh 1 1 0 q 200).2 := fun X hX => by
            refine (suspect_any2 g hh 1 1 0 q 200 X (HI0.out.below hX HI0.out.lt) HSo.out.ok (by omega) q0).mono ?_
            rintro e w' ⟨e1, e2, e3⟩
            exact ⟨e1, grown_below (below_then K0.out K0.out.size hX) hg e2, e3⟩
          have HW9 := Lib.hid hW9
          have HSo' := Lib.hid hso'
          clear hW9 hso'
          generalize (susp hh 1 1 0 q 200).2 = hh' at *
          generalize (susp hh 1 1 0 q 200).1 = bb at *
          obtain ⟨E, hE⟩ : ∃ E, endOf hh x = E := ⟨_, rfl⟩
          rw [hE] at LE LH hle
          rw [hE]
          obtain ⟨E', hE'⟩ : ∃ E', endOf hh' x' = E' := ⟨_, rfl⟩
          rw [hE'] at LE' LH' hle
          have HE' := Lib.hid hE'
          clear hE hE'
          have hbw : bk < wr.heap.size := by omega
          have PK := Lib.hid (show (MH ≤ MH ∧ 0 ≤ MH ∧ MH ≤ 65536 * 9) ∧ (100 + MH ≤ E ∧ E ≤ 100 + MH) ∧ (100 + MH ≤ E' ∧ E' ≤ 100 + MH) ∧ E' ≤ E ∧ (0 ≤ sc ∧ sc ≤ 8) ∧ (0 ≤ kk ∧ kk ≤ 16) ∧ (0 ≤ a ∧ a ≤ 65535) ∧ (0 ≤ a ∧ a ≤ 65535) from ⟨⟨ml1, ml0, mh1⟩, ⟨LE, LH⟩, ⟨LE', LH'⟩, hle, ⟨s0, s1⟩, ⟨k0, k1⟩, ⟨a0, a1⟩, ⟨b0, b1⟩⟩)
          have HMM := Lib.hid (And.intro hMH hMH)
          clear ml1 ml0 mh1 LE LH LE' LH' hle a1 b1 hMH L0h L0l
          go_wp2
          go_region_with (first
              | (go_at_call_of 10 (Value.int .u16 1); refine (suspect_any 1 0 _).mono ?_; rintro e w1 ⟨rfl, hb⟩; have B1 : Below wr.heap.size wr w1 := ⟨hb.os, hb.tape, hb.output, hb.size, hb.block⟩; have r1 := (B1.cell (p := ⟨bk, o + j, none⟩) hbw).trans r0; have K1 := Lib.hid B1; clear hb B1)
              | (go_at_call_of 9 (Value.int .i64 200); rw [HQ.out]; refine (HW9.out _ ?_).mono ?_; (first | exact K1.out | exact K1.out.drew | exact below_drewN K1.out _ | exact (below_drewN K1.out _).drew); rintro e w2 ⟨rfl, hb, hH⟩; have K2 := Lib.hid hb; have HI2 := Lib.hid hH; have l2 := hb.size; clear hb hH))
          all_goals
            obtain ⟨⟨ml1, ml0, mh1⟩, ⟨LE, LH⟩, ⟨LE', LH'⟩, hle, ⟨s0, s1⟩, ⟨k0, k1⟩, ⟨a0, a1⟩, ⟨b0, b1⟩⟩ := PK.out
            obtain ⟨hMH, _⟩ := HMM.out
            go_wp2_with fail
            refine (Ends_near g hh' 1 _ HI2.out HSo'.out.ok.ok (by omega) (fun z hz => HSo'.out.ok.su 1 z hz)).mono ?_
            rw [show endVal hh' (hh'.s 1) = .tuple #[.int .i64 E', .bool true] by rw [HSo'.out.s, ← HE'.out]; rfl]
            rintro e w3 ⟨rfl, hb⟩
            have K3 := Lib.hid (below_then K2.out K2.out.size hb)
            have HI3 := Lib.hid (HI2.out.below hb HI2.out.lt)
            clear hb
            go_wp2
            go_roundw
            case rel => exact ⟨j + 1, hh', x', by omega, by omega, by go_num, by rw [HE'.out], HSo'.out, K3.out, HI3.out⟩
            case measure => simp [intOf]; omega
  · go_enter Try.func4, Try.ntmps4
    go_wp2
    have HL : Hid (1 ≤ (1 + b) ∧ (1 + b) ≤ (1 + a) ∧ (1 + a) ≤ 1073741824) := Lib.hid ⟨by omega, by omega, by omega⟩
    obtain ⟨ML, hML⟩ : ∃ ML, (1 + b) * (sc + 1) = ML := ⟨_, rfl⟩
    obtain ⟨MH, hMH⟩ : ∃ MH, (1 + a) * (sc + 1) = MH := ⟨_, rfl⟩
    have ml0 : 0 ≤ ML := by rw [← hML]; exact Int.mul_nonneg (by omega) (by omega)
    have ml1 : ML ≤ MH := by rw [← hML, ← hMH]; exact Int.mul_le_mul_of_nonneg_right (by omega) (by omega)
    have mh1 : MH ≤ 65536 * 9 := by rw [← hMH]; exact Int.le_trans (Int.mul_le_mul_of_nonneg_left (by omega : sc + 1 ≤ 9) (by omega)) (Int.mul_le_mul_of_nonneg_right (by omega) (by omega))
    go_quiet (fail)
    go_wp2_with fail
    refine (new_any 0 (1 + b) (1 + a) kk _ (by omega) ⟨k0, k1⟩ HL.out).mono ?_
    rintro e w0 ⟨g, rfl, hb, hg, hH⟩
    have HI0 : Hid (IsH w0 g (hnew 0 (1 + b) (1 + a) kk)) := Lib.hid hH
    have K0 := Lib.hid (KS.out hb)
    have hg : w.heap.size ≤ g := KG.out hg
    have l0 := K0.out.size
    have hlt := hH.lt
    clear hb hH
    go_wp2_with fail
    refine (bump_any g (hnew 0 (1 + b) (1 + a) kk) sc _ HI0.out ⟨Int.le_refl _, by simp [hnew]⟩).mono ?_
    rw [show bumped (hnew 0 _ _ kk).sc sc = sc from bumped_0 ⟨s0, s1⟩]
    rintro e w1 ⟨rfl, hgr, hH⟩
    have K1 := Lib.hid (grown_below K0.out hg hgr)
    have HI1 : Hid (IsH w1 g (so0 (1 + b) (1 + a) kk sc)) := Lib.hid hH
    have l1 := K1.out.size
    clear hgr hH K0 HI0 l0
    go_wp2_with fail
    refine (suspect_any 1 0 _).mono ?_
    rintro e w2 ⟨rfl, hb⟩
    have K2 := Lib.hid (below_then K1.out K1.out.size hb)
    have HI2 := Lib.hid (HI1.out.below hb HI1.out.lt)
    have l2 := K2.out.size
    clear hb K1 HI1 l1
    go_wp2_with fail
    refine (suspect_any2 g (so0 (1 + b) (1 + a) kk sc) 1 1 0 2 100 _ HI2.out (so0_ok HL.out ⟨k0, k1⟩ ⟨s0, s1⟩) (by omega) (by omega)).mono ?_
    rw [so_1]
    rintro e w3 ⟨rfl, hgr, hH⟩
    have K3 := Lib.hid (grown_below K2.out hg hgr)
    have HI3 : Hid (IsH w3 g (so1 (1 + b) (1 + a) kk sc)) := Lib.hid hH
    have l3 := K3.out.size
    clear hgr hH K2 HI2 l2
    have HS : Hid (SoOk (1 + b) (1 + a) kk sc (so1 (1 + b) (1 + a) kk sc) ⟨0, 100, 4⟩) := Lib.hid (so1_ok HL.out ⟨k0, k1⟩ ⟨s0, s1⟩)
    go_wp2_with fail
    refine (score_any g (so1 (1 + b) (1 + a) kk sc) _ HI3.out).mono ?_
    rw [show (so1 (1 + b) (1 + a) kk sc).sc = sc from rfl]
    rintro e w4 ⟨rfl, hb⟩
    have K4 := Lib.hid (below_then K3.out K3.out.size hb)
    have HI4 := Lib.hid (HI3.out.below hb HI3.out.lt)
    have l4 := K4.out.size
    clear hb K3 HI3 l3
    obtain ⟨L0, hL0⟩ : ∃ L0, endOf (so1 (1 + b) (1 + a) kk sc) ⟨0, 100, 4⟩ = L0 := ⟨_, rfl⟩
    have L0h : L0 ≤ 100 + MH := by rw [← hL0, ← hMH]; exact soon_high HS.out
    have L0l : 100 + ML ≤ L0 := by rw [← hL0, ← hML]; exact soon_low HS.out
    have L0e : L0 = 100 + MH := by rw [← hL0, ← hMH]; exact so_2 hk
    have HL0 := Lib.hid hL0
    clear hL0
    go_wp2_with fail
    refine (Ends_near g (so1 (1 + b) (1 + a) kk sc) 1 _ HI4.out HS.out.ok.ok (by omega) (fun x hx => HS.out.ok.su 1 x hx)).mono ?_
    rw [show endVal (so1 (1 + b) (1 + a) kk sc) ((so1 (1 + b) (1 + a) kk sc).s 1) = .tuple #[.int .i64 L0, .bool true] by rw [← HL0.out]; rfl]
    rintro e w5 ⟨rfl, hb⟩
    have K5 := Lib.hid (below_then K4.out K4.out.size hb)
    have HI5 := Lib.hid (HI4.out.below hb HI4.out.lt)
    have l5 := K5.out.size
    clear hb K4 HI4 l4
    subst L0e
    clear L0h L0l
    go_wp2
    clear hkk hsc
    go_loopw [14, 16] (fun v i wr => ∃ (j : Nat) (hh : Hs) (x : Su), j ≤ l.length ∧ j ≤ 20 ∧ i = .int .i64 j ∧ v = .int .i64 (endOf hh x) ∧ SoOk (1 + b) (1 + a) kk sc hh x ∧ Below w.heap.size w wr ∧ IsH wr g hh) (fun _ i _ => 20 - (intOf i).toNat)
    case atStart => exact ⟨0, so1 (1 + b) (1 + a) kk sc, ⟨0, 100, 4⟩, by omega, by omega, rfl, by rw [HL0.out], HS.out, K5.out, HI5.out⟩
    case round =>
      obtain ⟨j, hh, x, hjl, hj20, rfl, rfl, hso, hbw, hHw⟩ := hrel
      have LE := soon_low hso
      have LH := soon_high hso
      rw [hML] at LE
      rw [hMH] at LH
      have HSo := Lib.hid hso
      have K0 := Lib.hid hbw
      have HI0 := Lib.hid hHw
      have l0 := hbw.size
      have lg := hHw.lt
      clear hso hbw hHw K5 HI5 l5 HS
      by_cases hj : j < l.length
      case' neg => have hjI : ¬ (j : Int) < (l.length : Int) := by omega
      case' pos => have hjI : (j : Int) < (l.length : Int) := by omega
      case neg =>
        go_wp2_with fail
        refine (awake_any _).mono ?_
        rintro e w1 ⟨rfl, hb⟩
        have K1 := Lib.hid (below_then K0.out K0.out.size hb)
        clear hb
        go_wp2
        go_ret
        exact ⟨rfl, K1.out⟩
      case pos =>
        by_cases h20 : j < 20
        case' neg => have h20I : ¬ (j : Int) < 20 := by omega
        case' pos => have h20I : (j : Int) < 20 := by omega
        case neg =>
          go_wp2_with fail
          refine (awake_any _).mono ?_
          rintro e w1 ⟨rfl, hb⟩
          have K1 := Lib.hid (below_then K0.out K0.out.size hb)
          clear hb
          go_wp2
          go_ret
          exact ⟨rfl, K1.out⟩
        case pos =>
          obtain ⟨u, hu⟩ : ∃ u, l[j]? = some u := ⟨l[j], List.getElem?_eq_getElem hj⟩
          have hu255 := HB.out u (List.mem_of_getElem? hu)
          obtain ⟨u0, u1⟩ := hu255
          obtain ⟨q, hq⟩ : ∃ q, u % 64 = q := ⟨_, rfl⟩
          have q0 : 0 ≤ q := by omega
          have HQ := Lib.hid (show IntKind.u16.wrap (u.tmod 64) = q by rw [Int.tmod_eq_emod_of_nonneg u0, hq, IntKind.wrap_u16]; omega)
          have q1 : q < 64 := by omega
          have hR' := (HR.out.imp (S' := fun b => b < w.heap.size) (fun b hb => hb)).below (by omega) K0.out
          obtain ⟨bk, o, rfl, hbl, hc⟩ := hR'.2 (by omega)
          have r0 := hc j _ (u8s_get l j u hu)
          have hj0 : (0 : Int) ≤ (j : Int) := by omega
          clear hR' hc hu
          obtain ⟨x', hso', hle⟩ := soon_step HSo.out q q0 q1
          have LE' := soon_low hso'
          have LH' := soon_high hso'
          rw [hML] at LE'
          rw [hMH] at LH'
          have hW9 : ∀ X, Below wr.heap.size wr X → Calls Try.prog 9 #[.pointer (some ⟨g, 0, none⟩), .agg #[.int .u16 1, .int .u8 1, .int .i64 0], .int .u16 q, .int .i64 200] X fun e w' => e = .returned (.bool (susp hh 1 1 0 q 200).1) ∧ Below w.heap.size w w' ∧ IsH w' g (susp hh 1 1 0 q 200).2 := fun X hX => by
            refine (suspect_any2 g hh 1 1 0 q 200 X (HI0.out.below hX HI0.out.lt) HSo.out.ok (by omega) q0).mono ?_
            rintro e w' ⟨e1, e2, e3⟩
            exact ⟨e1, grown_below (below_then K0.out K0.out.size hX) hg e2, e3⟩
          have HW9 := Lib.hid hW9
          have HSo' := Lib.hid hso'
          clear hW9 hso'
          generalize (susp hh 1 1 0 q 200).2 = hh' at *
          generalize (susp hh 1 1 0 q 200).1 = bb at *
          obtain ⟨E, hE⟩ : ∃ E, endOf hh x = E := ⟨_, rfl⟩
          rw [hE] at LE LH hle
          rw [hE]
          obtain ⟨E', hE'⟩ : ∃ E', endOf hh' x' = E' := ⟨_, rfl⟩
          rw [hE'] at LE' LH' hle
          have HE' := Lib.hid hE'
          clear hE hE'
          have hbw : bk < wr.heap.size := by omega
          have PK := Lib.hid (show (ML ≤ MH ∧ 0 ≤ ML ∧ MH ≤ 65536 * 9) ∧ (100 + ML ≤ E ∧ E ≤ 100 + MH) ∧ (100 + ML ≤ E' ∧ E' ≤ 100 + MH) ∧ E' ≤ E ∧ (0 ≤ sc ∧ sc ≤ 8) ∧ (0 ≤ kk ∧ kk ≤ 16) ∧ (0 ≤ a ∧ a ≤ 65535) ∧ (0 ≤ b ∧ b ≤ 65535) from ⟨⟨ml1, ml0, mh1⟩, ⟨LE, LH⟩, ⟨LE', LH'⟩, hle, ⟨s0, s1⟩, ⟨k0, k1⟩, ⟨a0, a1⟩, ⟨b0, b1⟩⟩)
          have HMM := Lib.hid (And.intro hML hMH)
          clear ml1 ml0 mh1 LE LH LE' LH' hle a1 b1 hML hMH
          go_wp2
          go_region_with (first
              | (go_at_call_of 10 (Value.int .u16 1); refine (suspect_any 1 0 _).mono ?_; rintro e w1 ⟨rfl, hb⟩; have B1 : Below wr.heap.size wr w1 := ⟨hb.os, hb.tape, hb.output, hb.size, hb.block⟩; have r1 := (B1.cell (p := ⟨bk, o + j, none⟩) hbw).trans r0; have K1 := Lib.hid B1; clear hb B1)
              | (go_at_call_of 9 (Value.int .i64 200); rw [HQ.out]; refine (HW9.out _ ?_).mono ?_; (first | exact K1.out | exact K1.out.drew | exact below_drewN K1.out _ | exact (below_drewN K1.out _).drew); rintro e w2 ⟨rfl, hb, hH⟩; have K2 := Lib.hid hb; have HI2 := Lib.hid hH; have l2 := hb.size; clear hb hH))
          all_goals
            obtain ⟨⟨ml1, ml0, mh1⟩, ⟨LE, LH⟩, ⟨LE', LH'⟩, hle, ⟨s0, s1⟩, ⟨k0, k1⟩, ⟨a0, a1⟩, ⟨b0, b1⟩⟩ := PK.out
            obtain ⟨hML, hMH⟩ := HMM.out
            go_wp2_with fail
            refine (Ends_near g hh' 1 _ HI2.out HSo'.out.ok.ok (by omega) (fun z hz => HSo'.out.ok.su 1 z hz)).mono ?_
            rw [show endVal hh' (hh'.s 1) = .tuple #[.int .i64 E', .bool true] by rw [HSo'.out.s, ← HE'.out]; rfl]
            rintro e w3 ⟨rfl, hb⟩
            have K3 := Lib.hid (below_then K2.out K2.out.size hb)
            have HI3 := Lib.hid (HI2.out.below hb HI2.out.lt)
            clear hb
            go_wp2
            go_roundw
            case rel => exact ⟨j + 1, hh', x', by omega, by omega, by go_num, by rw [HE'.out], HSo'.out, K3.out, HI3.out⟩
            case measure => simp [intOf]; omega
  · go_enter Try.func4, Try.ntmps4
    go_wp2
    have HL : Hid (1 ≤ (1 + b) ∧ (1 + b) ≤ (1 + a) ∧ (1 + a) ≤ 1073741824) := Lib.hid ⟨by omega, by omega, by omega⟩
    obtain ⟨ML, hML⟩ : ∃ ML, (1 + b) * (sc + 1) = ML := ⟨_, rfl⟩
    obtain ⟨MH, hMH⟩ : ∃ MH, (1 + a) * (sc + 1) = MH := ⟨_, rfl⟩
    have ml0 : 0 ≤ ML := by rw [← hML]; exact Int.mul_nonneg (by omega) (by omega)
    have ml1 : ML ≤ MH := by rw [← hML, ← hMH]; exact Int.mul_le_mul_of_nonneg_right (by omega) (by omega)
    have mh1 : MH ≤ 65536 * 9 := by rw [← hMH]; exact Int.le_trans (Int.mul_le_mul_of_nonneg_left (by omega : sc + 1 ≤ 9) (by omega)) (Int.mul_le_mul_of_nonneg_right (by omega) (by omega))
    go_quiet (fail)
    go_wp2_with fail
    refine (new_any 0 (1 + b) (1 + a) kk _ (by omega) ⟨k0, k1⟩ HL.out).mono ?_
    rintro e w0 ⟨g, rfl, hb, hg, hH⟩
    have HI0 : Hid (IsH w0 g (hnew 0 (1 + b) (1 + a) kk)) := Lib.hid hH
    have K0 := Lib.hid (KS.out hb)
    have hg : w.heap.size ≤ g := KG.out hg
    have l0 := K0.out.size
    have hlt := hH.lt
    clear hb hH
    go_wp2_with fail
    refine (bump_any g (hnew 0 (1 + b) (1 + a) kk) sc _ HI0.out ⟨Int.le_refl _, by simp [hnew]⟩).mono ?_
    rw [show bumped (hnew 0 _ _ kk).sc sc = sc from bumped_0 ⟨s0, s1⟩]
    rintro e w1 ⟨rfl, hgr, hH⟩
    have K1 := Lib.hid (grown_below K0.out hg hgr)
    have HI1 : Hid (IsH w1 g (so0 (1 + b) (1 + a) kk sc)) := Lib.hid hH
    have l1 := K1.out.size
    clear hgr hH K0 HI0 l0
    go_wp2_with fail
    refine (suspect_any 1 0 _).mono ?_
    rintro e w2 ⟨rfl, hb⟩
    have K2 := Lib.hid (below_then K1.out K1.out.size hb)
    have HI2 := Lib.hid (HI1.out.below hb HI1.out.lt)
    have l2 := K2.out.size
    clear hb K1 HI1 l1
    go_wp2_with fail
    refine (suspect_any2 g (so0 (1 + b) (1 + a) kk sc) 1 1 0 2 100 _ HI2.out (so0_ok HL.out ⟨k0, k1⟩ ⟨s0, s1⟩) (by omega) (by omega)).mono ?_
    rw [so_1]
    rintro e w3 ⟨rfl, hgr, hH⟩
    have K3 := Lib.hid (grown_below K2.out hg hgr)
    have HI3 : Hid (IsH w3 g (so1 (1 + b) (1 + a) kk sc)) := Lib.hid hH
    have l3 := K3.out.size
    clear hgr hH K2 HI2 l2
    have HS : Hid (SoOk (1 + b) (1 + a) kk sc (so1 (1 + b) (1 + a) kk sc) ⟨0, 100, 4⟩) := Lib.hid (so1_ok HL.out ⟨k0, k1⟩ ⟨s0, s1⟩)
    go_wp2_with fail
    refine (score_any g (so1 (1 + b) (1 + a) kk sc) _ HI3.out).mono ?_
    rw [show (so1 (1 + b) (1 + a) kk sc).sc = sc from rfl]
    rintro e w4 ⟨rfl, hb⟩
    have K4 := Lib.hid (below_then K3.out K3.out.size hb)
    have HI4 := Lib.hid (HI3.out.below hb HI3.out.lt)
    have l4 := K4.out.size
    clear hb K3 HI3 l3
    obtain ⟨L0, hL0⟩ : ∃ L0, endOf (so1 (1 + b) (1 + a) kk sc) ⟨0, 100, 4⟩ = L0 := ⟨_, rfl⟩
    have L0h : L0 ≤ 100 + MH := by rw [← hL0, ← hMH]; exact soon_high HS.out
    have L0l : 100 + ML ≤ L0 := by rw [← hL0, ← hML]; exact soon_low HS.out
    have HL0 := Lib.hid hL0
    clear hL0
    go_wp2_with fail
    refine (Ends_near g (so1 (1 + b) (1 + a) kk sc) 1 _ HI4.out HS.out.ok.ok (by omega) (fun x hx => HS.out.ok.su 1 x hx)).mono ?_
    rw [show endVal (so1 (1 + b) (1 + a) kk sc) ((so1 (1 + b) (1 + a) kk sc).s 1) = .tuple #[.int .i64 L0, .bool true] by rw [← HL0.out]; rfl]
    rintro e w5 ⟨rfl, hb⟩
    have K5 := Lib.hid (below_then K4.out K4.out.size hb)
    have HI5 := Lib.hid (HI4.out.below hb HI4.out.lt)
    have l5 := K5.out.size
    clear hb K4 HI4 l4
    go_wp2
    clear hkk hsc
    go_loopw [14, 16] (fun v i wr => ∃ (j : Nat) (hh : Hs) (x : Su), j ≤ l.length ∧ j ≤ 20 ∧ i = .int .i64 j ∧ v = .int .i64 (endOf hh x) ∧ SoOk (1 + b) (1 + a) kk sc hh x ∧ Below w.heap.size w wr ∧ IsH wr g hh) (fun _ i _ => 20 - (intOf i).toNat)
    case atStart => exact ⟨0, so1 (1 + b) (1 + a) kk sc, ⟨0, 100, 4⟩, by omega, by omega, rfl, by rw [HL0.out], HS.out, K5.out, HI5.out⟩
    case round =>
      obtain ⟨j, hh, x, hjl, hj20, rfl, rfl, hso, hbw, hHw⟩ := hrel
      have LE := soon_low hso
      have LH := soon_high hso
      rw [hML] at LE
      rw [hMH] at LH
      have HSo := Lib.hid hso
      have K0 := Lib.hid hbw
      have HI0 := Lib.hid hHw
      have l0 := hbw.size
      have lg := hHw.lt
      clear hso hbw hHw K5 HI5 l5 HS
      by_cases hj : j < l.length
      case' neg => have hjI : ¬ (j : Int) < (l.length : Int) := by omega
      case' pos => have hjI : (j : Int) < (l.length : Int) := by omega
      case neg =>
        go_wp2_with fail
        refine (awake_any _).mono ?_
        rintro e w1 ⟨rfl, hb⟩
        have K1 := Lib.hid (below_then K0.out K0.out.size hb)
        clear hb
        go_wp2
        go_ret
        exact ⟨rfl, K1.out⟩
      case pos =>
        by_cases h20 : j < 20
        case' neg => have h20I : ¬ (j : Int) < 20 := by omega
        case' pos => have h20I : (j : Int) < 20 := by omega
        case neg =>
          go_wp2_with fail
          refine (awake_any _).mono ?_
          rintro e w1 ⟨rfl, hb⟩
          have K1 := Lib.hid (below_then K0.out K0.out.size hb)
          clear hb
          go_wp2
          go_ret
          exact ⟨rfl, K1.out⟩
        case pos =>
          obtain ⟨u, hu⟩ : ∃ u, l[j]? = some u := ⟨l[j], List.getElem?_eq_getElem hj⟩
          have hu255 := HB.out u (List.mem_of_getElem? hu)
          obtain ⟨u0, u1⟩ := hu255
          obtain ⟨q, hq⟩ : ∃ q, u % 64 = q := ⟨_, rfl⟩
          have q0 : 0 ≤ q := by omega
          have HQ := Lib.hid (show IntKind.u16.wrap (u.tmod 64) = q by rw [Int.tmod_eq_emod_of_nonneg u0, hq, IntKind.wrap_u16]; omega)
          have q1 : q < 64 := by omega
          have hR' := (HR.out.imp (S' := fun b => b < w.heap.size) (fun b hb => hb)).below (by omega) K0.out
          obtain ⟨bk, o, rfl, hbl, hc⟩ := hR'.2 (by omega)
          have r0 := hc j _ (u8s_get l j u hu)
          have hj0 : (0 : Int) ≤ (j : Int) := by omega
          clear hR' hc hu
          obtain ⟨x', hso', hle⟩ := soon_step HSo.out q q0 q1
          have LE' := soon_low hso'
          have LH' := soon_high hso'
          rw [hML] at LE'
          rw [hMH] at LH'
          have hW9 : ∀ X, Below wr.heap.size wr X → Calls Try.prog 9 #[.pointer (some ⟨g, 0, none⟩), .agg #[.int .u16 1, .int .u8 1, .int .i64 0], .int .u16 q, .int .i64 200] X fun e w' => e = .returned (.bool (susp hh 1 1 0 q 200).1) ∧ Below w.heap.size w w' ∧ IsH w' g (susp hh 1 1 0 q 200).2 := fun X hX => by
            refine (suspect_any2 g hh 1 1 0 q 200 X (HI0.out.below hX HI0.out.lt) HSo.out.ok (by omega) q0).mono ?_
            rintro e w' ⟨e1, e2, e3⟩
            exact ⟨e1, grown_below (below_then K0.out K0.out.size hX) hg e2, e3⟩
          have HW9 := Lib.hid hW9
          have HSo' := Lib.hid hso'
          clear hW9 hso'
          generalize (susp hh 1 1 0 q 200).2 = hh' at *
          generalize (susp hh 1 1 0 q 200).1 = bb at *
          obtain ⟨E, hE⟩ : ∃ E, endOf hh x = E := ⟨_, rfl⟩
          rw [hE] at LE LH hle
          rw [hE]
          obtain ⟨E', hE'⟩ : ∃ E', endOf hh' x' = E' := ⟨_, rfl⟩
          rw [hE'] at LE' LH' hle
          have HE' := Lib.hid hE'
          clear hE hE'
          have hbw : bk < wr.heap.size := by omega
          have PK := Lib.hid (show (ML ≤ MH ∧ 0 ≤ ML ∧ MH ≤ 65536 * 9) ∧ (100 + ML ≤ E ∧ E ≤ 100 + MH) ∧ (100 + ML ≤ E' ∧ E' ≤ 100 + MH) ∧ E' ≤ E ∧ (0 ≤ sc ∧ sc ≤ 8) ∧ (0 ≤ kk ∧ kk ≤ 16) ∧ (0 ≤ a ∧ a ≤ 65535) ∧ (0 ≤ b ∧ b ≤ 65535) from ⟨⟨ml1, ml0, mh1⟩, ⟨LE, LH⟩, ⟨LE', LH'⟩, hle, ⟨s0, s1⟩, ⟨k0, k1⟩, ⟨a0, a1⟩, ⟨b0, b1⟩⟩)
          have HMM := Lib.hid (And.intro hML hMH)
          clear ml1 ml0 mh1 LE LH LE' LH' hle a1 b1 hML hMH L0h L0l
          go_wp2
          go_region_with (first
              | (go_at_call_of 10 (Value.int .u16 1); refine (suspect_any 1 0 _).mono ?_; rintro e w1 ⟨rfl, hb⟩; have B1 : Below wr.heap.size wr w1 := ⟨hb.os, hb.tape, hb.output, hb.size, hb.block⟩; have r1 := (B1.cell (p := ⟨bk, o + j, none⟩) hbw).trans r0; have K1 := Lib.hid B1; clear hb B1)
              | (go_at_call_of 9 (Value.int .i64 200); rw [HQ.out]; refine (HW9.out _ ?_).mono ?_; (first | exact K1.out | exact K1.out.drew | exact below_drewN K1.out _ | exact (below_drewN K1.out _).drew); rintro e w2 ⟨rfl, hb, hH⟩; have K2 := Lib.hid hb; have HI2 := Lib.hid hH; have l2 := hb.size; clear hb hH))
          all_goals
            obtain ⟨⟨ml1, ml0, mh1⟩, ⟨LE, LH⟩, ⟨LE', LH'⟩, hle, ⟨s0, s1⟩, ⟨k0, k1⟩, ⟨a0, a1⟩, ⟨b0, b1⟩⟩ := PK.out
            obtain ⟨hML, hMH⟩ := HMM.out
            go_wp2_with fail
            refine (Ends_near g hh' 1 _ HI2.out HSo'.out.ok.ok (by omega) (fun z hz => HSo'.out.ok.su 1 z hz)).mono ?_
            rw [show endVal hh' (hh'.s 1) = .tuple #[.int .i64 E', .bool true] by rw [HSo'.out.s, ← HE'.out]; rfl]
            rintro e w3 ⟨rfl, hb⟩
            have K3 := Lib.hid (below_then K2.out K2.out.size hb)
            have HI3 := Lib.hid (HI2.out.below hb HI2.out.lt)
            clear hb
            go_wp2
            go_roundw
            case rel => exact ⟨j + 1, hh', x', by omega, by omega, by go_num, by rw [HE'.out], HSo'.out, K3.out, HI3.out⟩
            case measure => simp [intOf]; omega
set_option maxRecDepth 100000 in
theorem healthSooner_lifted (os : Os) (started : os.Started) (H : Type) (enc : TypeId × Value → H) :
    ReturnsInHanded {} Try.checked os 4 .any (Rows.healthSoonerSpec.pre6 enc Try.prog Try.f4 Rows.healthSoonerRow.domain false) (Rows.healthSoonerSpec.post enc Try.prog Try.f4 false true false false) := by
  refine returnsInHanded_of_change (C := Try.checked) tOwn started (by kernel_rfl) Try.func4
    (ChangeSpec.witness6 (enc := enc) (C := Try.checked) false ⟨#[], #[.agg #[.int .u16 0, .int .u16 0], .agg #[.int .u8 0, .int .u8 0], .slice none 0 0], []⟩ 8 (by kernel_rfl) (by kernel_rfl) (by kernel_rfl) (by kernel_rfl)) ?_
  intro W base args ds gs before hval0 hW hcnd _
  have hval : ∀ (j : Nat) t v, Try.f4.params[j]? = some t → args[j]? = some v → Value.okWide Try.prog W .any base t v := hval0
  have hW' := hW
  obtain ⟨p, q, hA0, hV, rfl, hfz, hnd⟩ := hW
  have hA : DataW.TrodAll enc Try.prog W 0 (fun _ => true) true Try.f4.params.toList args.toList ds p := hA0
  rw [Try.params4] at hA hval
  obtain ⟨v0, vs0, d0, ds0, p0, q0, hargs, rfl, rfl, h0, r0⟩ := trodAll_cons hA
  obtain ⟨v1, vs1, d1, ds1, p1, q1, rfl, rfl, rfl, h1, r1⟩ := trodAll_cons r0
  obtain ⟨v2, vs2, d2, ds2, p2, q2, rfl, rfl, rfl, h2, r2⟩ := trodAll_cons r1
  obtain ⟨rfl, rfl, rfl⟩ := trodAll_nil r2
  obtain rfl : args = #[v0, v1, v2] := by cases args; simp_all
  obtain ⟨a0, a1, rfl, ba0, ba1⟩ := open_pair16 (hval 0 23 v0 rfl rfl) h0
  obtain ⟨d0, d1, rfl, bd0, bd1⟩ := open_pair8 (hval 1 39 v1 rfl rfl) h1
  obtain ⟨Al, cl, l, rfl, rl, bl⟩ := open_u8s (hval 2 40 v2 rfl rfl) h2
  refine (healthSooner_walk a0 a1 d0 d1 Al cl l W ba0 ba1 bd0 bd1 rl bl).mono fun e W' ⟨he, hb⟩ => ?_
  subst he
  exact ⟨_, rfl, law_post tLaid (by decide +kernel) hW' rfl (by kernel_rfl) Try.underlying4 rfl hb⟩

/-- The statement. -/
theorem healthSooner_holds : Rows.HealthSoonerSaid :=
  OpenClaim.holds_of_wide 4 Try.f4 rfl rfl rfl rfl rfl rfl rfl ⟨rfl, rfl, rfl, rfl, rfl⟩ rfl rfl rfl rfl rfl (by kernel_rfl) Try.func4 (by kernel_rfl)
    (of_decide_eq_true (by kernel_rfl)) (by unfold Func.isWrapper; rw [if_neg (of_decide_eq_false (by kernel_rfl))]; exact ⟨rfl, rfl⟩)
    (fun os started H enc _ => healthSooner_lifted os started H enc)
#print axioms healthSooner_holds
end Go.Proofs.Ytadhcnfgbiokcaa
