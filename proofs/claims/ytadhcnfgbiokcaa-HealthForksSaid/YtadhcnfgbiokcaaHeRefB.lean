/- WALK: the document's health: with. -/
import Derived.Test.YtadhcnfgbiokcaaHeRefA
namespace Go.Proofs.Ytadhcnfgbiokcaa
set_option linter.unusedVariables false
set_option linter.unusedSimpArgs false
open Go.RowKit
set_option maxRecDepth 100000 in
set_option maxHeartbeats 4000000 in
theorem rwith_any (r : Rs) (A : Option Addr) (c : Nat) (L : List Em) (m : Em) (w : World) (hR : ReadsE w (fun _ => True) A L) (hlen : L.length ≤ 64) :
    Calls Try.prog 35 #[hval r A L.length c, .agg (em4 m).toArray] w fun e w' => ∃ A' c', e = .returned (hval r A' (setL L m).length c') ∧ w'.ownsRow w.heap.size 82 4 (.slice A' (setL L m).length c') (setL L m).length (ecells (setL L m)) ∧ Below w.heap.size w w' := by
  obtain ⟨⟨sn, si, sf, sw⟩, sA, sc'⟩ := m
  obtain ⟨me, mn, mx, cf, sc, rl⟩ := r
  have fin : ∀ (e : Ending) (w' : World) (B v : _) (l : List Em), w'.ownsRow B 82 4 v l.length (ecells l) → ∃ A' c', v = .slice A' l.length c' := fun e w' B v l h => own_slice h
  clear fin
  unfold hval em4
  simp only
  go_enter Try.func35, Try.ntmps35
  go_wp2
  have hB0 := ((Blk.new w 53 #[.int .u16 me, .int .i64 mn, .int .i64 mx, .int .i64 cf, .int .i64 sc, .slice A L.length c]).alloc (.cells #[.int .u16 sn, .int .i64 si, .int .i64 sf, .slice sA sw.length sc'] 82)).alloc (.cells #[.int .u16 0, .int .i64 0, .int .i64 0, .int .i64 0, .int .i64 0, .slice none 0 0] 53)
  have hB1 := (Blk.new (w.alloc (.cells #[.int .u16 me, .int .i64 mn, .int .i64 mx, .int .i64 cf, .int .i64 sc, .slice A L.length c] 53)) 82 #[.int .u16 sn, .int .i64 si, .int .i64 sf, .slice sA sw.length sc']).alloc (.cells #[.int .u16 0, .int .i64 0, .int .i64 0, .int .i64 0, .int .i64 0, .slice none 0 0] 53)
  have hB2 := Blk.new ((w.alloc (.cells #[.int .u16 me, .int .i64 mn, .int .i64 mx, .int .i64 cf, .int .i64 sc, .slice A L.length c] 53)).alloc (.cells #[.int .u16 sn, .int .i64 si, .int .i64 sf, .slice sA sw.length sc'] 82)) 53 #[.int .u16 0, .int .i64 0, .int .i64 0, .int .i64 0, .int .i64 0, .slice none 0 0]
  have hb : Below w.heap.size w (((w.alloc (.cells #[.int .u16 me, .int .i64 mn, .int .i64 mx, .int .i64 cf, .int .i64 sc, .slice A L.length c] 53)).alloc (.cells #[.int .u16 sn, .int .i64 si, .int .i64 sf, .slice sA sw.length sc'] 82)).alloc (.cells #[.int .u16 0, .int .i64 0, .int .i64 0, .int .i64 0, .int .i64 0, .slice none 0 0] 53)) :=
    (((Below.refl _ _).alloc (Nat.le_refl _) _).alloc (by simp) _).alloc (by simp; omega) _
  have hs1 : (w.alloc (.cells #[.int .u16 me, .int .i64 mn, .int .i64 mx, .int .i64 cf, .int .i64 sc, .slice A L.length c] 53)).heap.size = w.heap.size + 1 := by simp
  have hs2 : ((w.alloc (.cells #[.int .u16 me, .int .i64 mn, .int .i64 mx, .int .i64 cf, .int .i64 sc, .slice A L.length c] 53)).alloc (.cells #[.int .u16 sn, .int .i64 si, .int .i64 sf, .slice sA sw.length sc'] 82)).heap.size = w.heap.size + 1 + 1 := by simp
  rw [hs1] at hB1
  rw [hs2] at hB2
  have hR1 : ReadsE (((w.alloc (.cells #[.int .u16 me, .int .i64 mn, .int .i64 mx, .int .i64 cf, .int .i64 sc, .slice A L.length c] 53)).alloc (.cells #[.int .u16 sn, .int .i64 si, .int .i64 sf, .slice sA sw.length sc'] 82)).alloc (.cells #[.int .u16 0, .int .i64 0, .int .i64 0, .int .i64 0, .int .i64 0, .slice none 0 0] 53)) (fun _ => True) A L := hR.below (by omega) hb
  generalize (((w.alloc (.cells #[.int .u16 me, .int .i64 mn, .int .i64 mx, .int .i64 cf, .int .i64 sc, .slice A L.length c] 53)).alloc (.cells #[.int .u16 sn, .int .i64 si, .int .i64 sf, .slice sA sw.length sc'] 82)).alloc (.cells #[.int .u16 0, .int .i64 0, .int .i64 0, .int .i64 0, .int .i64 0, .slice none 0 0] 53)) = W at *
  generalize hw : w.heap.size = b0 at *
  have B0 := Lib.hid hB0
  have B1 := Lib.hid hB1
  have B2 := Lib.hid hB2
  have HB := Lib.hid hb
  have RR := Lib.hid hR1
  have HW := Lib.hid hw
  have hl2 := hB2.lt
  clear hB0 hB1 hB2 hb hs1 hs2 hR hR1 hw
  go_loopw [5, 6, 7] (fun v d i wr => ∃ (k : Nat) (out : List Em) (done : Bool), k ≤ L.length ∧ i = .int .i64 k ∧ d = .bool done ∧ (L.take k).foldl (setStep ⟨⟨sn, si, sf, sw⟩, sA, sc'⟩) ([], false) = (out, done) ∧ out.length ≤ k + done.toNat ∧
    wr.ownsRow W.heap.size 82 4 v out.length (ecells out) ∧ Below W.heap.size W wr) (fun _ _ i _ => L.length - (intOf i).toNat)
  case atStart => exact ⟨0, [], false, Nat.zero_le _, rfl, rfl, by simp, by simp, own_nil W W.heap.size 82 4, Below.refl _ _⟩
  case round =>
    obtain ⟨k, out, done, hk, rfl, rfl, hf, hol, hown, hbw⟩ := hrel
    obtain ⟨A1, c1, rfl⟩ := own_slice hown
    have bx0 := B0.out.below hbw B0.out.lt
    have bx1 := B1.out.below hbw B1.out.lt
    have q5 := bx0.cell 5
    have r0 := bx1.cell 0
    have r1 := bx1.cell 1
    have r2 := bx1.cell 2
    have r3 := bx1.cell 3
    simp only [List.getElem?_toArray, List.getElem?_cons_zero, List.getElem?_cons_succ] at q5 r0 r1 r2 r3
    have BX0 := Lib.hid bx0
    have BX1 := Lib.hid bx1
    have HO := Lib.hid hown
    have HBW := Lib.hid hbw
    have hsz := hbw.size
    by_cases hlt : k < L.length
    · obtain ⟨x, hx⟩ : ∃ x, L[k]? = some x := ⟨L[k], List.getElem?_eq_getElem hlt⟩
      have rw_ : ReadsE wr (fun _ => True) A L := RR.out.below (by omega) hbw
      obtain ⟨p, o, rfl, -, d0, d1, d2, d3⟩ := rw_.at_ k x hx
      have HF := Lib.hid hf
      have HX := Lib.hid hx
      have RW := Lib.hid rw_
      clear bx0 bx1 hown hbw rw_ hf hx
      have hge0 : (0 : Int) ≤ (k : Int) := by omega
      have hltI : (k : Int) < (L.length : Int) := by omega
      cases done with
      | true =>
        simp only [Bool.toNat_true] at hol
        cases hne : (x.e.n != sn) with
        | true =>
          have HS := Lib.hid (fold_one ⟨⟨sn, si, sf, sw⟩, sA, sc'⟩ L k x HX.out HF.out (setStep_ta (m := ⟨⟨sn, si, sf, sw⟩, sA, sc'⟩) out hne))
          go_wp2
          go_quiet (fail)
          go_wp2
          go_quiet (fail)
          go_wp2_with (at_builtin; (refine app_row W.heap.size rfl (.tmp 41) (.tmp 47) 51 82 _ 4 48 rfl und51 susp_info rfl (by omega) _ _ _ _ rfl _ rfl (by simp) (by simp [Value.oneCell']) rfl HO.out hsz (by first | omega | (simp; omega)) (by first | omega | (simp; omega)) ?_); intro v2 w2 ho2 hg2 hat; have HO2 := Lib.hid (set_own (x := x) ho2 rfl rfl); have HG2 := Lib.hid hg2; clear ho2 hg2 hat)
          go_roundw
          case rel => exact ⟨k + 1, _, _, by omega, by go_num, rfl, HS.out, by simp; omega, HO2.out, (below_drewN HBW.out _).grown HG2.out hsz (own_base HO.out)⟩
          case measure => simp [intOf]; omega
        | false =>
          have HS := Lib.hid (fold_one ⟨⟨sn, si, sf, sw⟩, sA, sc'⟩ L k x HX.out HF.out (setStep_tb (m := ⟨⟨sn, si, sf, sw⟩, sA, sc'⟩) out hne))
          go_wp2
          go_quiet (fail)
          go_wp2
          go_quiet (fail)
          go_wp2
          go_roundw
          case rel => exact ⟨k + 1, _, _, by omega, by go_num, rfl, HS.out, by simp; omega, HO.out, below_drewN HBW.out _⟩
          case measure => simp [intOf]; omega
      | false =>
        simp only [Bool.toNat_false] at hol
        by_cases hge : sn ≤ x.e.n
        · cases hne : (x.e.n != sn) with
          | true =>
            have HS := Lib.hid (fold_one ⟨⟨sn, si, sf, sw⟩, sA, sc'⟩ L k x HX.out HF.out (setStep_fa (m := ⟨⟨sn, si, sf, sw⟩, sA, sc'⟩) out hne hge))
            go_wp2
            go_quiet (fail)
            go_wp2_with (at_builtin; (refine app_row W.heap.size rfl (.tmp 28) (.tmp 30) 51 82 _ 4 48 rfl und51 susp_info rfl (by omega) _ _ _ _ rfl _ rfl (by simp) (by simp [Value.oneCell']) rfl HO.out hsz (by first | omega | (simp; omega)) (by first | omega | (simp; omega)) ?_); intro v2 w2 ho2 hg2 hat; have HO2 := Lib.hid (set_own (x := ⟨⟨sn, si, sf, sw⟩, sA, sc'⟩) ho2 rfl rfl); have HG2 := Lib.hid hg2; clear ho2 hg2 hat)
            have K2 := Lib.hid ((below_drewN HBW.out _).grown HG2.out hsz (own_base HO.out))
            have hsz := K2.out.size
            have bx0 := B0.out.below K2.out B0.out.lt
            have bx1 := B1.out.below K2.out B1.out.lt
            have e5 := bx0.cell 5
            have s0 := bx1.cell 0
            have s1 := bx1.cell 1
            have s2 := bx1.cell 2
            have s3 := bx1.cell 3
            simp only [List.getElem?_toArray, List.getElem?_cons_zero, List.getElem?_cons_succ] at e5 s0 s1 s2 s3
            obtain ⟨-, d0, d1, d2, d3⟩ := ReadsE.cellz (RR.out.below (by omega) K2.out) HX.out
            obtain ⟨A2, c2, rfl⟩ := own_slice HO2.out
            clear bx0 bx1
            go_wp2
            go_quiet (fail)
            go_wp2_with (at_builtin; (refine app_row W.heap.size rfl (.tmp 41) (.tmp 47) 51 82 _ 4 48 rfl und51 susp_info rfl (by omega) _ _ _ _ rfl _ rfl (by simp) (by simp [Value.oneCell']) rfl HO2.out hsz (by first | omega | (simp; omega)) (by first | omega | (simp; omega)) ?_); intro v3 w3 ho3 hg3 hat; have HO3 := Lib.hid (set_own (x := x) ho3 rfl rfl); have HG3 := Lib.hid hg3; clear ho3 hg3 hat)
            go_roundw
            case rel => exact ⟨k + 1, _, _, by omega, by go_num, rfl, HS.out, by simp; omega, HO3.out, (below_drewN K2.out _).grown HG3.out hsz (own_base HO2.out)⟩
            case measure => simp [intOf]; omega
          | false =>
            have HS := Lib.hid (fold_one ⟨⟨sn, si, sf, sw⟩, sA, sc'⟩ L k x HX.out HF.out (setStep_fb (m := ⟨⟨sn, si, sf, sw⟩, sA, sc'⟩) out hne hge))
            go_wp2
            go_quiet (fail)
            go_wp2_with (at_builtin; (refine app_row W.heap.size rfl (.tmp 28) (.tmp 30) 51 82 _ 4 48 rfl und51 susp_info rfl (by omega) _ _ _ _ rfl _ rfl (by simp) (by simp [Value.oneCell']) rfl HO.out hsz (by first | omega | (simp; omega)) (by first | omega | (simp; omega)) ?_); intro v2 w2 ho2 hg2 hat; have HO2 := Lib.hid (set_own (x := ⟨⟨sn, si, sf, sw⟩, sA, sc'⟩) ho2 rfl rfl); have HG2 := Lib.hid hg2; clear ho2 hg2 hat)
            have K2 := Lib.hid ((below_drewN HBW.out _).grown HG2.out hsz (own_base HO.out))
            have hsz := K2.out.size
            have bx0 := B0.out.below K2.out B0.out.lt
            have bx1 := B1.out.below K2.out B1.out.lt
            have e5 := bx0.cell 5
            have s0 := bx1.cell 0
            have s1 := bx1.cell 1
            have s2 := bx1.cell 2
            have s3 := bx1.cell 3
            simp only [List.getElem?_toArray, List.getElem?_cons_zero, List.getElem?_cons_succ] at e5 s0 s1 s2 s3
            obtain ⟨-, d0, d1, d2, d3⟩ := ReadsE.cellz (RR.out.below (by omega) K2.out) HX.out
            obtain ⟨A2, c2, rfl⟩ := own_slice HO2.out
            clear bx0 bx1
            go_wp2
            go_quiet (fail)
            go_wp2
            go_roundw
            case rel => exact ⟨k + 1, _, _, by omega, by go_num, rfl, HS.out, by simp; omega, HO2.out, below_drewN K2.out _⟩
            case measure => simp [intOf]; omega
        · have hne : (x.e.n != sn) = true := by simp; omega
          have HS := Lib.hid (fold_one ⟨⟨sn, si, sf, sw⟩, sA, sc'⟩ L k x HX.out HF.out (setStep_fc (m := ⟨⟨sn, si, sf, sw⟩, sA, sc'⟩) out hne hge))
          go_wp2
          go_quiet (fail)
          go_wp2
          go_quiet (fail)
          go_wp2_with (at_builtin; (refine app_row W.heap.size rfl (.tmp 41) (.tmp 47) 51 82 _ 4 48 rfl und51 susp_info rfl (by omega) _ _ _ _ rfl _ rfl (by simp) (by simp [Value.oneCell']) rfl HO.out hsz (by first | omega | (simp; omega)) (by first | omega | (simp; omega)) ?_); intro v2 w2 ho2 hg2 hat; have HO2 := Lib.hid (set_own (x := x) ho2 rfl rfl); have HG2 := Lib.hid hg2; clear ho2 hg2 hat)
          go_roundw
          case rel => exact ⟨k + 1, _, _, by omega, by go_num, rfl, HS.out, by simp; omega, HO2.out, (below_drewN HBW.out _).grown HG2.out hsz (own_base HO.out)⟩
          case measure => simp [intOf]; omega
    · obtain rfl : k = L.length := by omega
      rw [List.take_length] at hf
      have hq0 := bx0.cell 0
      have hq1 := bx0.cell 1
      have hq2 := bx0.cell 2
      have hq3 := bx0.cell 3
      have hq4 := bx0.cell 4
      have bf0 := bx0.frozen
      have HS := Lib.hid hf
      clear bx0 bx1 hown hbw hf
      have bx2 := B2.out.below HBW.out B2.out.lt
      have b20 := bx2.cell 0
      have b21 := bx2.cell 1
      have b22 := bx2.cell 2
      have b23 := bx2.cell 3
      have b24 := bx2.cell 4
      have b25 := bx2.cell 5
      have bf2 := bx2.frozen
      simp only [List.getElem?_toArray, List.getElem?_cons_zero, List.getElem?_cons_succ] at b20 b21 b22 b23 b24 b25 hq0 hq1 hq2 hq3 hq4
      have BX2 := Lib.hid bx2
      clear bx2
      cases done with
      | true =>
        have EQ := Lib.hid (show setL L ⟨⟨sn, si, sf, sw⟩, sA, sc'⟩ = out by rw [setL_fold HS.out]; rfl)
        go_wp2
        have bz0 := (BX0.out).set_ 5 (.slice A1 (out.length) c1)
        have bz2 := ((BX2.out).far (p := ⟨b0, 5, none⟩) (by show b0 + 1 + 1 ≠ b0; omega) (.slice A1 (out.length) c1)).six (.int .u16 me) (.int .i64 mn) (.int .i64 mx) (.int .i64 cf) (.int .i64 sc) (.slice A1 (out.length) c1)
        have g0 := bz2.cell 0
        have g1 := bz2.cell 1
        have g2 := bz2.cell 2
        have g3 := bz2.cell 3
        have g4 := bz2.cell 4
        have g5 := bz2.cell 5
        simp only [List.getElem?_toArray, List.getElem?_cons_zero, List.getElem?_cons_succ] at g0 g1 g2 g3 g4 g5
        refine bodyPost_ret (v := .agg #[.int .u16 me, .int .i64 mn, .int .i64 mx, .int .i64 cf, .int .i64 sc, .slice A1 (out.length) c1]) (by simp [results, Try.results35, go_sem, g0, g1, g2, g3, g4, g5]) rfl ⟨A1, c1, ?_, ?_, ?_⟩
        · rw [EQ.out]
        · rw [EQ.out, HW.out]
          exact own_lower (own_six (own_grown HO.out (grown_setCell (g := b0) (World.grownBy.refl _ _) (.inl rfl) _) (fun q e hv => by have := own_base HO.out q hv; injection e with e; omega)) (by omega)) (by omega)
        · rw [HW.out]
          exact below_six ((below_then HB.out (by omega) HBW.out).setCell (p := ⟨b0, 5, none⟩) (Nat.le_refl _) _) (by omega) _ _ _ _ _ _
      | false =>
        have EQ := Lib.hid (show setL L ⟨⟨sn, si, sf, sw⟩, sA, sc'⟩ = out ++ [⟨⟨sn, si, sf, sw⟩, sA, sc'⟩] by rw [setL_fold HS.out]; rfl)
        have VL := Lib.hid (show ∀ (A : Option Addr) (c : Nat), Value.slice A (out ++ ([⟨⟨sn, si, sf, sw⟩, sA, sc'⟩] : List Em)).length c = Value.slice A (out.length + 1) c by intros; simp)
        simp only [Bool.toNat_false] at hol
        clear b20 b21 b22 b23 b24 b25 bf2 BX2 hq0 hq1 hq2 hq3 hq4 bf0 BX0
        go_wp2_with (at_builtin; (refine app_row W.heap.size rfl (.tmp 51) (.tmp 53) 51 82 _ 4 48 rfl und51 susp_info rfl (by omega) _ _ _ _ rfl _ rfl (by simp) (by simp [Value.oneCell']) rfl HO.out hsz (by first | omega | (simp; omega)) (by first | omega | (simp; omega)) ?_); intro v3 w3 ho3 hg3 hat; obtain ⟨A3, c3, rfl⟩ := own_slice ho3; have HO3 := Lib.hid (set_own (x := ⟨⟨sn, si, sf, sw⟩, sA, sc'⟩) ho3 rfl rfl); have HG3 := Lib.hid hg3; clear ho3 hg3 hat; have K3 := Lib.hid (HBW.out.grown HG3.out hsz (own_base HO.out)); have bx2 := B2.out.below K3.out B2.out.lt; have bx0 := B0.out.below K3.out B0.out.lt; have BX0 := Lib.hid bx0; have hq0 := bx0.cell 0; have hq1 := bx0.cell 1; have hq2 := bx0.cell 2; have hq3 := bx0.cell 3; have hq4 := bx0.cell 4; have hq5 := bx0.cell 5; have bf0 := bx0.frozen; have b20 := bx2.cell 0; have b21 := bx2.cell 1; have b22 := bx2.cell 2; have b23 := bx2.cell 3; have b24 := bx2.cell 4; have b25 := bx2.cell 5; have bf2 := bx2.frozen; simp only [List.getElem?_toArray, List.getElem?_cons_zero, List.getElem?_cons_succ] at b20 b21 b22 b23 b24 b25 hq0 hq1 hq2 hq3 hq4 hq5; have BX2 := Lib.hid bx2; clear bx2 bx0)
        have bz0 := (BX0.out).set_ 5 (.slice A3 (out.length + 1) c3)
        have bz2 := ((BX2.out).far (p := ⟨b0, 5, none⟩) (by show b0 + 1 + 1 ≠ b0; omega) (.slice A3 (out.length + 1) c3)).six (.int .u16 me) (.int .i64 mn) (.int .i64 mx) (.int .i64 cf) (.int .i64 sc) (.slice A3 (out.length + 1) c3)
        have g0 := bz2.cell 0
        have g1 := bz2.cell 1
        have g2 := bz2.cell 2
        have g3 := bz2.cell 3
        have g4 := bz2.cell 4
        have g5 := bz2.cell 5
        simp only [List.getElem?_toArray, List.getElem?_cons_zero, List.getElem?_cons_succ] at g0 g1 g2 g3 g4 g5
        refine bodyPost_ret (v := .agg #[.int .u16 me, .int .i64 mn, .int .i64 mx, .int .i64 cf, .int .i64 sc, .slice A3 (out.length + 1) c3]) (by simp [results, Try.results35, go_sem, g0, g1, g2, g3, g4, g5]) rfl ⟨A3, c3, ?_, ?_, ?_⟩
        · rw [EQ.out]; simp
        · rw [EQ.out, HW.out, VL.out]
          exact own_lower (own_six (own_grown HO3.out (grown_setCell (g := b0) (World.grownBy.refl _ _) (.inl rfl) _) (fun q e hv => by have := own_base HO3.out q hv; injection e with e; omega)) (by omega)) (by omega)
        · rw [HW.out]
          exact below_six ((below_then HB.out (by omega) K3.out).setCell (p := ⟨b0, 5, none⟩) (Nat.le_refl _) _) (by omega) _ _ _ _ _ _

end Go.Proofs.Ytadhcnfgbiokcaa
