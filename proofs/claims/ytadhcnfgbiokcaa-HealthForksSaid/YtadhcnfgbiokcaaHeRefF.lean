/- WALK: the document's health: Clear. -/
import Derived.Test.YtadhcnfgbiokcaaHeRefB
namespace Go.Proofs.Ytadhcnfgbiokcaa
set_option linter.unusedVariables false
set_option linter.unusedSimpArgs false
open Go.RowKit
theorem filter_one (p : Em → Bool) (L : List Em) (k : Nat) (x : Em) (hx : L[k]? = some x) : (L.take (k + 1)).filter p = (L.take k).filter p ++ (if p x then [x] else []) := by
  rw [take_one L k x hx, List.filter_append]
  congr 1
  cases h : p x <;> simp [List.filter_cons, h]
set_option maxRecDepth 100000 in
set_option maxHeartbeats 4000000 in
theorem rclear_any (r : Rs) (A : Option Addr) (c : Nat) (L : List Em) (n st i : Int) (w : World) (hR : ReadsE w (fun _ => True) A L) (hlen : L.length ≤ 64) :
    Calls Try.prog 27 #[hval r A L.length c, .agg #[.int .u16 n, .int .u8 st, .int .i64 i]] w fun e w' => ∃ A' c', e = .returned (.tuple #[hval r A' (L.filter (fun x => rkeep n st i x.e)).length c', .bool (decide ((L.filter (fun x => rkeep n st i x.e)).length < L.length))]) ∧ w'.ownsRow w.heap.size 82 4 (.slice A' (L.filter (fun x => rkeep n st i x.e)).length c') (L.filter (fun x => rkeep n st i x.e)).length (ecells (L.filter (fun x => rkeep n st i x.e))) ∧ Below w.heap.size w w' := by
  have rk : ∀ x : Em, rkeep n st i x.e = (decide (¬ x.e.n = n) || decide (i < x.e.i) || (decide (x.e.i = i) && decide (¬ st = 2))) := fun x => rfl
  have RK := Lib.hid rk
  clear rk
  obtain ⟨me, mn, mx, cf, sc, rl⟩ := r
  unfold hval
  simp only
  go_enter Try.func27, Try.ntmps27
  go_wp2
  have hB0 := ((Blk.new w 53 #[.int .u16 me, .int .i64 mn, .int .i64 mx, .int .i64 cf, .int .i64 sc, .slice A L.length c]).alloc (.cells #[.int .u16 n, .int .u8 st, .int .i64 i] 33)).alloc (.cells #[.int .u16 0, .int .i64 0, .int .i64 0, .int .i64 0, .int .i64 0, .slice none 0 0] 53)
  have hB1 := (Blk.new (w.alloc (.cells #[.int .u16 me, .int .i64 mn, .int .i64 mx, .int .i64 cf, .int .i64 sc, .slice A L.length c] 53)) 33 #[.int .u16 n, .int .u8 st, .int .i64 i]).alloc (.cells #[.int .u16 0, .int .i64 0, .int .i64 0, .int .i64 0, .int .i64 0, .slice none 0 0] 53)
  have hB2 := Blk.new ((w.alloc (.cells #[.int .u16 me, .int .i64 mn, .int .i64 mx, .int .i64 cf, .int .i64 sc, .slice A L.length c] 53)).alloc (.cells #[.int .u16 n, .int .u8 st, .int .i64 i] 33)) 53 #[.int .u16 0, .int .i64 0, .int .i64 0, .int .i64 0, .int .i64 0, .slice none 0 0]
  have hb : Below w.heap.size w (((w.alloc (.cells #[.int .u16 me, .int .i64 mn, .int .i64 mx, .int .i64 cf, .int .i64 sc, .slice A L.length c] 53)).alloc (.cells #[.int .u16 n, .int .u8 st, .int .i64 i] 33)).alloc (.cells #[.int .u16 0, .int .i64 0, .int .i64 0, .int .i64 0, .int .i64 0, .slice none 0 0] 53)) :=
    (((Below.refl _ _).alloc (Nat.le_refl _) _).alloc (by simp) _).alloc (by simp; omega) _
  have hs1 : (w.alloc (.cells #[.int .u16 me, .int .i64 mn, .int .i64 mx, .int .i64 cf, .int .i64 sc, .slice A L.length c] 53)).heap.size = w.heap.size + 1 := by simp
  have hs2 : ((w.alloc (.cells #[.int .u16 me, .int .i64 mn, .int .i64 mx, .int .i64 cf, .int .i64 sc, .slice A L.length c] 53)).alloc (.cells #[.int .u16 n, .int .u8 st, .int .i64 i] 33)).heap.size = w.heap.size + 1 + 1 := by simp
  rw [hs1] at hB1
  rw [hs2] at hB2
  have hR1 : ReadsE (((w.alloc (.cells #[.int .u16 me, .int .i64 mn, .int .i64 mx, .int .i64 cf, .int .i64 sc, .slice A L.length c] 53)).alloc (.cells #[.int .u16 n, .int .u8 st, .int .i64 i] 33)).alloc (.cells #[.int .u16 0, .int .i64 0, .int .i64 0, .int .i64 0, .int .i64 0, .slice none 0 0] 53)) (fun _ => True) A L := hR.below (by omega) hb
  generalize (((w.alloc (.cells #[.int .u16 me, .int .i64 mn, .int .i64 mx, .int .i64 cf, .int .i64 sc, .slice A L.length c] 53)).alloc (.cells #[.int .u16 n, .int .u8 st, .int .i64 i] 33)).alloc (.cells #[.int .u16 0, .int .i64 0, .int .i64 0, .int .i64 0, .int .i64 0, .slice none 0 0] 53)) = W at *
  generalize hw : w.heap.size = b0 at *
  have B0 := Lib.hid hB0
  have B1 := Lib.hid hB1
  have B2 := Lib.hid hB2
  have HB := Lib.hid hb
  have RR := Lib.hid hR1
  have HW := Lib.hid hw
  have hl2 := hB2.lt
  clear hB0 hB1 hB2 hb hs1 hs2 hR hR1 hw
  go_loopw [6, 7] (fun v j wr => ∃ (k : Nat), k ≤ L.length ∧ j = .int .i64 k ∧ 
    wr.ownsRow W.heap.size 82 4 v ((L.take k).filter (fun x => rkeep n st i x.e)).length (ecells ((L.take k).filter (fun x => rkeep n st i x.e))) ∧ Below W.heap.size W wr) (fun _ j _ => L.length - (intOf j).toNat)
  case atStart => exact ⟨0, Nat.zero_le _, rfl, by simpa [ecells] using own_nil W W.heap.size 82 4, Below.refl _ _⟩
  case round =>
    obtain ⟨k, hk, rfl, hown, hbw⟩ := hrel
    have hfl : ((L.take k).filter (fun x => rkeep n st i x.e)).length ≤ k := by
      have h1 := List.length_filter_le (fun x : Em => rkeep n st i x.e) (L.take k)
      have h2 := List.length_take_le k L
      omega
    obtain ⟨A1, c1, rfl⟩ := own_slice hown
    have bx0 := B0.out.below hbw B0.out.lt
    have bx1 := B1.out.below hbw B1.out.lt
    have q5 := bx0.cell 5
    have r0 := bx1.cell 0
    have r1 := bx1.cell 1
    have r2 := bx1.cell 2
    simp only [List.getElem?_toArray, List.getElem?_cons_zero, List.getElem?_cons_succ] at q5 r0 r1 r2
    have BX0 := Lib.hid bx0
    have BX1 := Lib.hid bx1
    have HO := Lib.hid hown
    have HBW := Lib.hid hbw
    have hsz := hbw.size
    by_cases hlt : k < L.length
    · obtain ⟨x, hx⟩ : ∃ x, L[k]? = some x := ⟨L[k], List.getElem?_eq_getElem hlt⟩
      have rw_ : ReadsE wr (fun _ => True) A L := RR.out.below (by omega) hbw
      obtain ⟨p, o, rfl, -, d0, d1, d2, d3⟩ := rw_.at_ k x hx
      have HX := Lib.hid hx
      have RW := Lib.hid rw_
      have hs0 : W.heap.size ≤ (wr.alloc (.cells (em4 x).toArray 82)).heap.size := by simp; omega
      have HOA := Lib.hid (hown.alloc (.cells (em4 x).toArray 82))
      have HBA := Lib.hid (hbw.alloc hsz (.cells (em4 x).toArray 82))
      simp only [em4] at HOA HBA hs0
      clear bx0 bx1 hown hbw rw_ hx
      have hlb1 : b0 + 1 < wr.heap.size := by omega
      have hlb0 : b0 < wr.heap.size := by omega
      have hge0 : (0 : Int) ≤ (k : Int) := by omega
      have hltI : (k : Int) < (L.length : Int) := by omega
      have FO := Lib.hid (filter_one (fun x => rkeep n st i x.e) L k x HX.out)
      obtain ⟨fl, hfk⟩ : ∃ fl, ((L.take k).filter (fun x => rkeep n st i x.e)) = fl := ⟨_, rfl⟩
      rw [hfk] at HO HOA hfl FO
      rw [hfk]
      clear hfk
      by_cases c1 : x.e.n = n
      · have t1 : (x.e.n != n) = false := by simpa using c1
        have C1 := Lib.hid c1
        clear c1
        by_cases c2 : i < x.e.i
        · have c2' := c2
          have HK : Hid ((L.take (k + 1)).filter (fun x => rkeep n st i x.e) = fl ++ [x]) := Lib.hid (by rw [FO.out, if_pos (by simp only [RK.out]; simp; exact .inl (.inr c2))])
          go_wp2_with (at_builtin; (refine app_row W.heap.size rfl (.tmp 46) (.tmp 48) 51 82 _ 4 48 rfl und51 susp_info rfl (by omega) _ _ _ _ rfl _ rfl (by simp) (by simp [Value.oneCell']) rfl HOA.out hs0 (by first | omega | (simp; omega)) (by first | omega | (simp; omega)) ?_); intro v2 w2 ho2 hg2 hat; have HO2 := Lib.hid (set_own (x := x) ho2 rfl rfl); have HG2 := Lib.hid hg2; clear ho2 hg2 hat)
          go_roundw
          case rel => exact ⟨k + 1, by omega, by go_num, by rw [HK.out]; exact HO2.out, HBA.out.grown HG2.out hs0 (own_base HOA.out)⟩
          case measure => simp [intOf]; omega
        · by_cases c3 : x.e.i = i
          · have t3 : (x.e.i == i) = true := by simpa using c3
            have hni : ¬ i < x.e.i := by omega
            have C3 := Lib.hid c3
            clear c3
            by_cases c4 : st = 2
            · have t4 : (st != 2) = false := by simpa using c4
              have C4 := Lib.hid c4
              clear c4
              have HK : Hid ((L.take (k + 1)).filter (fun x => rkeep n st i x.e) = fl) := Lib.hid (by rw [FO.out, if_neg (by simp only [RK.out]; simp; exact ⟨⟨C1.out, by omega⟩, fun _ => C4.out⟩), List.append_nil])
              go_wp2
              go_roundw
              case rel => exact ⟨k + 1, by omega, by go_num, by rw [HK.out]; exact HOA.out, HBA.out⟩
              case measure => simp [intOf]; omega
            · have t4 : (st != 2) = true := by simpa using c4
              have C4 := Lib.hid c4
              clear c4
              have HK : Hid ((L.take (k + 1)).filter (fun x => rkeep n st i x.e) = fl ++ [x]) := Lib.hid (by rw [FO.out, if_pos (by simp only [RK.out]; simp; exact .inr ⟨C3.out, C4.out⟩)])
              go_wp2_with (at_builtin; (refine app_row W.heap.size rfl (.tmp 46) (.tmp 48) 51 82 _ 4 48 rfl und51 susp_info rfl (by omega) _ _ _ _ rfl _ rfl (by simp) (by simp [Value.oneCell']) rfl HOA.out hs0 (by first | omega | (simp; omega)) (by first | omega | (simp; omega)) ?_); intro v2 w2 ho2 hg2 hat; have HO2 := Lib.hid (set_own (x := x) ho2 rfl rfl); have HG2 := Lib.hid hg2; clear ho2 hg2 hat)
              go_roundw
              case rel => exact ⟨k + 1, by omega, by go_num, by rw [HK.out]; exact HO2.out, HBA.out.grown HG2.out hs0 (own_base HOA.out)⟩
              case measure => simp [intOf]; omega
          · have t3 : (x.e.i == i) = false := by simpa using c3
            have C3 := Lib.hid c3
            clear c3
            have HK : Hid ((L.take (k + 1)).filter (fun x => rkeep n st i x.e) = fl) := Lib.hid (by rw [FO.out, if_neg (by simp only [RK.out]; simp; exact ⟨⟨C1.out, by omega⟩, fun q => absurd q C3.out⟩), List.append_nil])
            go_wp2
            go_roundw
            case rel => exact ⟨k + 1, by omega, by go_num, by rw [HK.out]; exact HOA.out, HBA.out⟩
            case measure => simp [intOf]; omega
      · have t1 : (x.e.n != n) = true := by simpa using c1
        have C1 := Lib.hid c1
        clear c1
        have HK : Hid ((L.take (k + 1)).filter (fun x => rkeep n st i x.e) = fl ++ [x]) := Lib.hid (by rw [FO.out, if_pos (by simp only [RK.out]; simp; exact .inl (.inl C1.out))])
        go_wp2_with (at_builtin; (refine app_row W.heap.size rfl (.tmp 46) (.tmp 48) 51 82 _ 4 48 rfl und51 susp_info rfl (by omega) _ _ _ _ rfl _ rfl (by simp) (by simp [Value.oneCell']) rfl HOA.out hs0 (by first | omega | (simp; omega)) (by first | omega | (simp; omega)) ?_); intro v2 w2 ho2 hg2 hat; have HO2 := Lib.hid (set_own (x := x) ho2 rfl rfl); have HG2 := Lib.hid hg2; clear ho2 hg2 hat)
        go_roundw
        case rel => exact ⟨k + 1, by omega, by go_num, by rw [HK.out]; exact HO2.out, HBA.out.grown HG2.out hs0 (own_base HOA.out)⟩
        case measure => simp [intOf]; omega
    · obtain rfl : k = L.length := by omega
      rw [List.take_length] at HO hfl
      rw [List.take_length]
      have hq0 := bx0.cell 0
      have hq1 := bx0.cell 1
      have hq2 := bx0.cell 2
      have hq3 := bx0.cell 3
      have hq4 := bx0.cell 4
      have bf0 := bx0.frozen
      clear bx0 bx1 hown hbw
      have bx2 := B2.out.below HBW.out B2.out.lt
      have b20 := bx2.cell 0
      have b21 := bx2.cell 1
      have b22 := bx2.cell 2
      have b23 := bx2.cell 3
      have b24 := bx2.cell 4
      have b25 := bx2.cell 5
      have bf2 := bx2.frozen
      simp only [List.getElem?_toArray, List.getElem?_cons_zero, List.getElem?_cons_succ] at b20 b21 b22 b23 b24 b25 hq0 hq1 hq2 hq3 hq4
      have BX2 := Lib.hid bx2
      clear bx2
      obtain ⟨fl, hfk⟩ : ∃ fl, (L.filter (fun x => rkeep n st i x.e)) = fl := ⟨_, rfl⟩
      rw [hfk] at HO hfl
      have HFK := Lib.hid hfk
      rw [hfk]
      clear hfk
      go_wp2
      have bz2 := ((BX2.out).far (p := ⟨b0, 5, none⟩) (by show b0 + 1 + 1 ≠ b0; omega) (.slice A1 fl.length c1)).six (.int .u16 me) (.int .i64 mn) (.int .i64 mx) (.int .i64 cf) (.int .i64 sc) (.slice A1 fl.length c1)
      have g0 := bz2.cell 0
      have g1 := bz2.cell 1
      have g2 := bz2.cell 2
      have g3 := bz2.cell 3
      have g4 := bz2.cell 4
      have g5 := bz2.cell 5
      simp only [List.getElem?_toArray, List.getElem?_cons_zero, List.getElem?_cons_succ] at g0 g1 g2 g3 g4 g5
      refine bodyPost_ret (v := .tuple #[.agg #[.int .u16 me, .int .i64 mn, .int .i64 mx, .int .i64 cf, .int .i64 sc, .slice A1 fl.length c1], .bool (decide (fl.length < L.length))]) (by simp [results, Try.results27, go_sem, g0, g1, g2, g3, g4, g5]) rfl ⟨A1, c1, ?_, ?_, ?_⟩
      · rw [HFK.out]
      · rw [HFK.out, HW.out]
        exact own_lower (own_six (own_grown HO.out (grown_setCell (g := b0) (World.grownBy.refl _ _) (.inl rfl) _) (fun q e hv => by have := own_base HO.out q hv; injection e with e; omega)) (by omega)) (by omega)
      · rw [HW.out]
        exact below_six ((below_then HB.out (by omega) HBW.out).setCell (p := ⟨b0, 5, none⟩) (Nat.le_refl _) _) (by omega) _ _ _ _ _ _
end Go.Proofs.Ytadhcnfgbiokcaa
