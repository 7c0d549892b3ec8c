/- WALK: the document's table: Hear. -/
import Derived.Test.YtnlpgjdgiappcaaMbDoc3
import Derived.Test.YtnlpgjdgiappcaaMbHear
import Derived.Deep.RegionWith
import Derived.Deep.DeepCutAuto
namespace Go.Proofs.Ytnlpgjdgiappcaa
set_option linter.unusedVariables false
set_option linter.unusedSimpArgs false
open Go.RowKit
theorem set_at (z : Int) (A : Option Addr) (c : Nat) (L : List Pl.M) (y0 y1 y2 : Int) (w W : World) (b0 : Nat) (hlen : L.length ≤ 65536) (hb0 : b0 + 1 + 1 + 1 < W.heap.size) (v20 v21 v30 v31 v32 : Value)
    (D1 : Blk W (b0 + 1) 25 #[.int .u16 y0, .int .u8 y1, .int .i64 y2]) (D2 : Blk W (b0 + 1 + 1) 46 #[v20, v21]) (D3 : Blk W (b0 + 1 + 1 + 1) 25 #[v30, v31, v32]) (K : Below b0 w W) (hR : ReadsM W (fun _ => True) A L) :
    Calls Try.prog 46 #[.agg #[.int .u16 z, .slice A L.length c], .agg #[.int .u16 y0, .int .u8 y1, .int .i64 y2]] W.drew fun e w5 => ∃ A5 n c5, e = .returned (.agg #[.int .u16 z, .slice A5 n c5]) ∧
      Go.RowKit.Hid (w5.ownsRow W.heap.size 25 3 (.slice A5 n c5) (Pl.setL L ⟨y0, y1, y2⟩).length (rows (Pl.setL L ⟨y0, y1, y2⟩))) ∧
      w5.cell? ⟨b0 + 1, 0, none⟩ = some (.int .u16 y0) ∧ w5.cell? ⟨b0 + 1, 1, none⟩ = some (.int .u8 y1) ∧ w5.cell? ⟨b0 + 1, 2, none⟩ = some (.int .i64 y2) ∧
      w5.cell? ⟨b0 + 1 + 1, 0, none⟩ = some v20 ∧ w5.cell? ⟨b0 + 1 + 1, 1, none⟩ = some v21 ∧
      w5.cell? ⟨b0 + 1 + 1 + 1, 0, none⟩ = some v30 ∧ w5.cell? ⟨b0 + 1 + 1 + 1, 1, none⟩ = some v31 ∧ w5.cell? ⟨b0 + 1 + 1 + 1, 2, none⟩ = some v32 ∧
      (∀ i, w5.frozen? ⟨b0 + 1 + 1, i, none⟩ = false) ∧ (∀ i, w5.frozen? ⟨b0 + 1 + 1 + 1, i, none⟩ = false) ∧
      Go.RowKit.Hid (Blk w5 (b0 + 1 + 1) 46 #[v20, v21]) ∧ Go.RowKit.Hid (Blk w5 (b0 + 1 + 1 + 1) 25 #[v30, v31, v32]) ∧ Go.RowKit.Hid (Below b0 w w5) := by
  refine (refSet_any z A c L ⟨y0, y1, y2⟩ W.drew hR hlen).mono ?_
  rintro e w5 ⟨v5, rfl, ho5, hb5⟩
  obtain ⟨A5, c5, rfl⟩ := own_slice ho5
  have G1 := Blk.below (Blk.drew D1) hb5 (show b0 + 1 < W.heap.size by omega)
  have G2 := Blk.below (Blk.drew D2) hb5 (show b0 + 1 + 1 < W.heap.size by omega)
  have G3 := Blk.below (Blk.drew D3) hb5 (show b0 + 1 + 1 + 1 < W.heap.size by omega)
  exact ⟨A5, _, c5, rfl, Lib.hid ho5, G1.cell 0, G1.cell 1, G1.cell 2, G2.cell 0, G2.cell 1, G3.cell 0, G3.cell 1, G3.cell 2, G2.frozen, G3.frozen, Lib.hid G2, Lib.hid G3,
    Lib.hid (below_then (w1 := W.drew) K.drew (show b0 ≤ W.heap.size by omega) hb5)⟩

theorem own_three {w : World} {base g : Nat} {e : TypeId} {size n : Nat} {v a b c : Value} {xs : List Value} (h : w.ownsRow base e size v n xs) (hg : g < base) : (((w.setCell ⟨g, 0, none⟩ a).setCell ⟨g, 1, none⟩ b).setCell ⟨g, 2, none⟩ c).ownsRow base e size v n xs :=
  own_grown h (grown_setCell (g := g) (grown_setCell (g := g) (grown_setCell (g := g) (World.grownBy.refl w _) (.inl rfl) _) (.inl rfl) _) (.inl rfl) _) (fun k e hv => by have := own_base h k hv; injection e with e; omega)
theorem getVal_eq (o : Option Pl.M) : getVal o = .tuple #[.agg (mcells (o.getD mzero)), .bool o.isSome] := by cases o <;> rfl

set_option maxRecDepth 100000 in
set_option maxHeartbeats 4000000 in
/-- It may be, and is new, or above what is known. -/
theorem refHear_yes (z : Int) (A : Option Addr) (c : Nat) (L : List Pl.M) (m : Pl.M) (w : World) (hm : Pl.MOk m) (hR : ReadsM w (fun _ => True) A L) (hlen : L.length ≤ 65535)
    (hmay : Pl.mayM m = true) (hyes : Pl.findL L m.n = none ∨ ∃ o, Pl.findL L m.n = some o ∧ Pl.above m o = true) :
    Calls Try.prog 28 #[.agg #[.int .u16 z, .slice A L.length c], .agg (mcells m)] w fun e w' => ∃ v, e = .returned (rheardVal (.agg #[.int .u16 z, v]) (some (Pl.bump z m))) ∧
      w'.ownsRow w.heap.size 25 3 v (Pl.setL L (Pl.bump z m)).length (rows (Pl.setL L (Pl.bump z m))) ∧ Below w.heap.size w w' := by
  obtain ⟨mn, ms, mi⟩ := m
  have hbw := bump_ways z mn ms mi
  generalize Pl.bump z ⟨mn, ms, mi⟩ = y at *
  obtain ⟨y0, y1, y2⟩ := y
  unfold mcells
  simp only at hyes
  have hlen' : L.length ≤ 65536 := by omega
  have hi0 : 0 ≤ mi := (Pl.mayM_iff.1 hmay).2.2.1
  have hi1 : mi ≤ 1073741824 := (Pl.mayM_iff.1 hmay).2.2.2
  have HR := Lib.hid hR
  have HM := Lib.hid hm
  have HN := Lib.hid hyes
  have HMAY := Lib.hid hmay
  have HBW := Lib.hid hbw
  clear hR hm hyes hmay hbw
  go_enter Try.func28, Try.ntmps28
  go_wp2_with fail
  obtain ⟨hb, hB0, hB1, hB2, hB3⟩ := blk4 w #[.int .u16 z, .slice A L.length c] #[.int .u16 mn, .int .u8 ms, .int .i64 mi] #[.int .u16 0, .slice none 0 0] #[.int .u16 0, .int .u8 0, .int .i64 0] 46 25 46 25
  have hR1 : ReadsM ((((w.alloc (.cells #[.int .u16 z, .slice A L.length c] 46)).alloc (.cells #[.int .u16 mn, .int .u8 ms, .int .i64 mi] 25)).alloc (.cells #[.int .u16 0, .slice none 0 0] 46)).alloc (.cells #[.int .u16 0, .int .u8 0, .int .i64 0] 25)) (fun _ => True) A L := HR.out.below (by omega) hb
  generalize ((((w.alloc (.cells #[.int .u16 z, .slice A L.length c] 46)).alloc (.cells #[.int .u16 mn, .int .u8 ms, .int .i64 mi] 25)).alloc (.cells #[.int .u16 0, .slice none 0 0] 46)).alloc (.cells #[.int .u16 0, .int .u8 0, .int .i64 0] 25)) = W at *
  generalize hw : w.heap.size = b0 at *
  have B0 := Lib.hid hB0
  have B1 := Lib.hid hB1
  have B2 := Lib.hid hB2
  have B3 := Lib.hid hB3
  have HB := Lib.hid hb
  have RR := Lib.hid hR1
  have HW := Lib.hid hw
  have hl3 := hB3.lt
  clear hb hB0 hB1 hB2 hB3 hR1 hw
  refine (refGet_any z mn A c L _ RR.out hlen').mono ?_
  generalize hfo : Pl.findL L mn = fo at *
  have HFO := Lib.hid hfo
  clear hfo
  rintro e w1 ⟨rfl, hb1⟩
  have K1 := Lib.hid (below_then HB.out (by omega) hb1)
  have C0 := Lib.hid (B0.out.below hb1 B0.out.lt)
  have C1 := Lib.hid (B1.out.below hb1 B1.out.lt)
  have C2 := Lib.hid (B2.out.below hb1 B2.out.lt)
  have C3 := Lib.hid (B3.out.below hb1 B3.out.lt)
  have R1 := Lib.hid (RR.out.below (by omega) hb1)
  have l1 := hb1.size
  have m10 : b0 < w1.heap.size := by omega
  have m11 : b0 + 1 < w1.heap.size := by omega
  have n10 : b0 ≠ w1.heap.size := by omega
  have n11 : b0 + 1 ≠ w1.heap.size := by omega
  have n12 : b0 + 1 + 1 ≠ w1.heap.size := by omega
  have n13 : b0 + 1 + 1 + 1 ≠ w1.heap.size := by omega
  clear hb1 B0 B1 B2 B3 HB RR
  have hon : fo = none ∨ ∃ o, fo = some o ∧ Pl.above ⟨mn, ms, mi⟩ o = true := HN.out
  have HON := Lib.hid hon
  clear hon HN
  rw [getVal_eq]
  have q00 := C0.out.cell 0
  have q01 := C0.out.cell 1
  have q10 := C1.out.cell 0
  have q11 := C1.out.cell 1
  have q12 := C1.out.cell 2
  simp only [List.getElem?_toArray, List.getElem?_cons_zero, List.getElem?_cons_succ] at q00 q01 q10 q11 q12
  simp only [mcells]
  go_upto_region 2 with fail
  go_cut [27] from 9 (fun s27 wx => s27 = .bool false ∧ b0 + 1 + 1 + 1 < wx.heap.size ∧ Go.RowKit.Hid (Below b0 w wx) ∧ Go.RowKit.Hid (Blk wx b0 46 #[.int .u16 z, .slice A L.length c]) ∧ Go.RowKit.Hid (Blk wx (b0 + 1) 25 #[.int .u16 mn, .int .u8 ms, .int .i64 mi]) ∧
    Go.RowKit.Hid (Blk wx (b0 + 1 + 1) 46 #[.int .u16 0, .slice none 0 0]) ∧ Go.RowKit.Hid (Blk wx (b0 + 1 + 1 + 1) 25 #[.int .u16 0, .int .u8 0, .int .i64 0]) ∧ Go.RowKit.Hid (ReadsM wx (fun _ => True) A L))
  case first =>
    rcases HON.out with rfl | ⟨⟨o0, o1, o2⟩, rfl, hab⟩
    · have hl3 : b0 + 1 + 1 + 1 < w1.heap.size := by omega
      simp only [Option.getD_none, Option.getD_some, mzero, Option.isSome_none, Option.isSome_some]
      go_wp2_with fail
      refine (refMay_any ⟨mn, ms, mi⟩ _ HM.out).mono ?_
      rw [HMAY.out]
      rintro e w2 ⟨rfl, hb2⟩
      have K2 := Lib.hid ((K1.out.alloc (by omega) (.cells #[.int .u16 0, .int .u8 0, .int .i64 0] 25)).trans (hb2.mono (by simp; omega)))
      have E0 := Lib.hid ((C0.out.alloc (.cells #[.int .u16 0, .int .u8 0, .int .i64 0] 25)).below hb2 (C0.out.alloc _).lt)
      have E1 := Lib.hid ((C1.out.alloc (.cells #[.int .u16 0, .int .u8 0, .int .i64 0] 25)).below hb2 (C1.out.alloc _).lt)
      have E2 := Lib.hid ((C2.out.alloc (.cells #[.int .u16 0, .int .u8 0, .int .i64 0] 25)).below hb2 (C2.out.alloc _).lt)
      have E3 := Lib.hid ((C3.out.alloc (.cells #[.int .u16 0, .int .u8 0, .int .i64 0] 25)).below hb2 (C3.out.alloc _).lt)
      have E7 := Lib.hid ((Blk.new w1 25 #[.int .u16 0, .int .u8 0, .int .i64 0]).below hb2 (Blk.new w1 25 #[.int .u16 0, .int .u8 0, .int .i64 0]).lt)
      have l2 : w1.heap.size < w2.heap.size := Nat.lt_of_lt_of_le (by simp) hb2.size
      clear hb2 q00 q01 q10 q11 q12
      go_wp2
      go_meet
      case rel => exact ⟨rfl, by omega, K2, E0, E1, E2, E3, HR.out.below (by omega) (by rw [HW.out]; exact K2.out)⟩
    · have HAB := Lib.hid hab
      clear hab
      have hl3 : b0 + 1 + 1 + 1 < w1.heap.size := by omega
      simp only [Option.getD_none, Option.getD_some, mzero, Option.isSome_none, Option.isSome_some]
      go_wp2_with fail
      refine (refMay_any ⟨mn, ms, mi⟩ _ HM.out).mono ?_
      rw [HMAY.out]
      rintro e w2 ⟨rfl, hb2⟩
      have K2 := Lib.hid ((K1.out.alloc (by omega) (.cells #[.int .u16 o0, .int .u8 o1, .int .i64 o2] 25)).trans (hb2.mono (by simp; omega)))
      have E0 := Lib.hid ((C0.out.alloc (.cells #[.int .u16 o0, .int .u8 o1, .int .i64 o2] 25)).below hb2 (C0.out.alloc _).lt)
      have E1 := Lib.hid ((C1.out.alloc (.cells #[.int .u16 o0, .int .u8 o1, .int .i64 o2] 25)).below hb2 (C1.out.alloc _).lt)
      have E2 := Lib.hid ((C2.out.alloc (.cells #[.int .u16 o0, .int .u8 o1, .int .i64 o2] 25)).below hb2 (C2.out.alloc _).lt)
      have E3 := Lib.hid ((C3.out.alloc (.cells #[.int .u16 o0, .int .u8 o1, .int .i64 o2] 25)).below hb2 (C3.out.alloc _).lt)
      have E7 := Lib.hid ((Blk.new w1 25 #[.int .u16 o0, .int .u8 o1, .int .i64 o2]).below hb2 (Blk.new w1 25 #[.int .u16 o0, .int .u8 o1, .int .i64 o2]).lt)
      have l2 : w1.heap.size < w2.heap.size := Nat.lt_of_lt_of_le (by simp) hb2.size
      clear hb2 q00 q01 q10 q11 q12
      have e10 := E1.out.cell 0
      have e11 := E1.out.cell 1
      have e12 := E1.out.cell 2
      have e70 := E7.out.cell 0
      have e71 := E7.out.cell 1
      have e72 := E7.out.cell 2
      simp only [List.getElem?_toArray, List.getElem?_cons_zero, List.getElem?_cons_succ] at e10 e11 e12 e70 e71 e72
      go_wp2_with fail
      refine (refAbove_any ⟨mn, ms, mi⟩ ⟨o0, o1, o2⟩ _).mono ?_
      rw [HAB.out]
      rintro e w3 ⟨rfl, hb3⟩
      have K3 := Lib.hid (below_then K2.out (by omega) hb3)
      have l3 := hb3.size
      have F0 := Lib.hid (E0.out.below hb3 E0.out.lt)
      have F1 := Lib.hid (E1.out.below hb3 E1.out.lt)
      have F2 := Lib.hid (E2.out.below hb3 E2.out.lt)
      have F3 := Lib.hid (E3.out.below hb3 E3.out.lt)
      clear hb3 e10 e11 e12 e70 e71 e72
      go_wp2
      go_meet
      case rel => exact ⟨rfl, by omega, K3, F0, F1, F2, F3, HR.out.below (by omega) (by rw [HW.out]; exact K3.out)⟩
  case rest =>
    obtain ⟨rfl, hl3, K2, D0, D1, D2, D3, R2⟩ := hcut
    have r00 := D0.out.cell 0
    have r01 := D0.out.cell 1
    have r10 := D1.out.cell 0
    have r11 := D1.out.cell 1
    have r12 := D1.out.cell 2
    simp only [List.getElem?_toArray, List.getElem?_cons_zero, List.getElem?_cons_succ] at r00 r01 r10 r11 r12
    go_upto_region 4 with fail
    go_cut [44] from 9 (fun s44 wx => wx = wc ∧ ∃ b : Bool, s44 = .bool b ∧ (b = true → (⟨y0, y1, y2⟩ : Pl.M) = ⟨mn, 0, mi + 1⟩) ∧ (b = false → (⟨y0, y1, y2⟩ : Pl.M) = ⟨mn, ms, mi⟩))
    case first =>
      rcases HBW.out with ⟨t1, hy⟩ | ⟨t1, t2, hy⟩ | ⟨t1, t2, t3, hy⟩ | ⟨t1, t2, t3, hy⟩
      all_goals
        have HY := Lib.hid hy
        clear hy
        go_wp2
        go_meet
        case rel => first | exact ⟨rfl, _, rfl, (fun _ => HY.out), fun e => by cases e⟩ | exact ⟨rfl, _, rfl, (fun e => by cases e), fun _ => HY.out⟩
    case rest =>
      obtain ⟨rfl, b, rfl, hb1, hb2⟩ := hcut
      have c10 := D1.out.frozen
      go_upto_if 44 with fail
      go_cut [] from 9 (fun wx => b0 + 1 + 1 + 1 < wx.heap.size ∧ Go.RowKit.Hid (Below b0 w wx) ∧ Go.RowKit.Hid (Blk wx b0 46 #[.int .u16 z, .slice A L.length c]) ∧ Go.RowKit.Hid (Blk wx (b0 + 1) 25 #[.int .u16 y0, .int .u8 y1, .int .i64 y2]) ∧
        Go.RowKit.Hid (Blk wx (b0 + 1 + 1) 46 #[.int .u16 0, .slice none 0 0]) ∧ Go.RowKit.Hid (Blk wx (b0 + 1 + 1 + 1) 25 #[.int .u16 0, .int .u8 0, .int .i64 0]) ∧ Go.RowKit.Hid (ReadsM wx (fun _ => True) A L))
      case first =>
        cases b with
        | true =>
          have hy := hb1 rfl
          simp only [Pl.M.mk.injEq] at hy
          obtain ⟨rfl, rfl, rfl⟩ := hy
          clear hb1 hb2
          go_wp2
          go_meet
          case rel =>
            have K3 : Below b0 w ((wc.setCell ⟨b0 + 1, 1, none⟩ (.int .u8 0)).setCell ⟨b0 + 1, 2, none⟩ (.int .i64 (mi + 1))) := (K2.out.setCell (p := ⟨b0 + 1, 1, none⟩) (by simp) _).setCell (p := ⟨b0 + 1, 2, none⟩) (by simp) _
            exact ⟨by simp [World.setCell]; omega, K3, ((D0.out.far (p := ⟨b0 + 1, 1, none⟩) (show b0 ≠ b0 + 1 by omega) (.int .u8 0)).far (p := ⟨b0 + 1, 2, none⟩) (show b0 ≠ b0 + 1 by omega) (.int .i64 (mi + 1))), (D1.out.set_ 1 _).set_ 2 _, ((D2.out.far (p := ⟨b0 + 1, 1, none⟩) (show b0 + 1 + 1 ≠ b0 + 1 by omega) (.int .u8 0)).far (p := ⟨b0 + 1, 2, none⟩) (show b0 + 1 + 1 ≠ b0 + 1 by omega) (.int .i64 (mi + 1))), ((D3.out.far (p := ⟨b0 + 1, 1, none⟩) (show b0 + 1 + 1 + 1 ≠ b0 + 1 by omega) (.int .u8 0)).far (p := ⟨b0 + 1, 2, none⟩) (show b0 + 1 + 1 + 1 ≠ b0 + 1 by omega) (.int .i64 (mi + 1))), HR.out.below (by omega) (by rw [HW.out]; exact K3)⟩
        | false =>
          have hy := hb2 rfl
          simp only [Pl.M.mk.injEq] at hy
          obtain ⟨rfl, rfl, rfl⟩ := hy
          clear hb1 hb2
          go_wp2
          go_meet
          case rel => exact ⟨hl3, K2, D0, D1, D2, D3, R2⟩
      case rest =>
        clear K2 D0 D1 D2 D3 R2 r00 r01 r10 r11 r12 hl3 hb1 hb2 c10
        obtain ⟨hl3, K2, D0, D1, D2, D3, R2⟩ := hcut
        have r00 := D0.out.cell 0
        have r01 := D0.out.cell 1
        have r10 := D1.out.cell 0
        have r11 := D1.out.cell 1
        have r12 := D1.out.cell 2
        simp only [List.getElem?_toArray, List.getElem?_cons_zero, List.getElem?_cons_succ] at r00 r01 r10 r11 r12
        go_upto_region 7 with fail
        go_region_with (go_at_call 46; refine (set_at z A c L y0 y1 y2 w wc b0 hlen' hl3 _ _ _ _ _ D1.out D2.out D3.out K2.out R2.out).mono ?_; rintro e w5 ⟨A5, n5, c5, rfl, ho5, e10, e11, e12, e20, e21, e30, e31, e32, f2, f3, G2, G3, K5⟩)
        all_goals
          go_wp2
          have b2 := (((Blk.mem2 G2.out (.int .u16 z) (.slice A5 n5 c5)).far (p := ⟨b0 + 1 + 1 + 1, 0, none⟩) (by simp) (.int .u16 y0)).far (p := ⟨b0 + 1 + 1 + 1, 1, none⟩) (by simp) (.int .u8 y1)).far (p := ⟨b0 + 1 + 1 + 1, 2, none⟩) (by simp) (.int .i64 y2)
          have b3 := Blk.mem3 ((G3.out.far (p := ⟨b0 + 1 + 1, 0, none⟩) (by simp) (.int .u16 z)).far (p := ⟨b0 + 1 + 1, 1, none⟩) (by simp) (.slice A5 n5 c5)) (.int .u16 y0) (.int .u8 y1) (.int .i64 y2)
          have o5 := own_three (own_two (g := b0 + 1 + 1) (a := .int .u16 z) (b := .slice A5 n5 c5) ho5.out (by omega)) (g := b0 + 1 + 1 + 1) (a := .int .u16 y0) (b := .int .u8 y1) (c := .int .i64 y2) (by omega)
          have k5 := ((((K5.out.setCell (p := ⟨b0 + 1 + 1, 0, none⟩) (by simp; omega) (.int .u16 z)).setCell (p := ⟨b0 + 1 + 1, 1, none⟩) (by simp; omega) (.slice A5 n5 c5)).setCell (p := ⟨b0 + 1 + 1 + 1, 0, none⟩) (by simp; omega) (.int .u16 y0)).setCell (p := ⟨b0 + 1 + 1 + 1, 1, none⟩) (by simp; omega) (.int .u8 y1)).setCell (p := ⟨b0 + 1 + 1 + 1, 2, none⟩) (by simp; omega) (.int .i64 y2)
          have s20 := b2.cell 0
          have s21 := b2.cell 1
          have s30 := b3.cell 0
          have s31 := b3.cell 1
          have s32 := b3.cell 2
          simp only [List.getElem?_toArray, List.getElem?_cons_zero, List.getElem?_cons_succ] at s20 s21 s30 s31 s32
          refine bodyPost_ret (v := rheardVal (.agg #[.int .u16 z, .slice A5 n5 c5]) (some ⟨y0, y1, y2⟩)) (by simp [results, Try.results28, go_sem, s20, s21, s30, s31, s32, rheardVal, mcells]) rfl ⟨_, rfl, ?_, ?_⟩
          · rw [HW.out]
            exact own_lower o5 (by omega)
          · rw [HW.out]
            exact k5

end Go.Proofs.Ytnlpgjdgiappcaa
