/- WALK: the document's table: Hear. -/
import Derived.Test.YtnlpgjdgiappcaaMbDoc2
import Derived.Test.YtnlpgjdgiappcaaMbHear
import Derived.Deep.RegionWith
namespace Go.Proofs.Ytnlpgjdgiappcaa
set_option linter.unusedVariables false
set_option linter.unusedSimpArgs false
open Go.RowKit

/-- What the document's Hear hands back. -/
def rheardVal (t : Value) : Option Pl.M → Value
  | some m => .tuple #[t, .agg (mcells m), .bool true]
  | none => .tuple #[t, .agg (mcells mzero), .bool false]

theorem blk4 (w : World) (c0 c1 c2 c3 : Array Value) (t0 t1 t2 t3 : TypeId) :
    Below w.heap.size w ((((w.alloc (.cells c0 t0)).alloc (.cells c1 t1)).alloc (.cells c2 t2)).alloc (.cells c3 t3)) ∧
    Blk ((((w.alloc (.cells c0 t0)).alloc (.cells c1 t1)).alloc (.cells c2 t2)).alloc (.cells c3 t3)) w.heap.size t0 c0 ∧
    Blk ((((w.alloc (.cells c0 t0)).alloc (.cells c1 t1)).alloc (.cells c2 t2)).alloc (.cells c3 t3)) (w.heap.size + 1) t1 c1 ∧
    Blk ((((w.alloc (.cells c0 t0)).alloc (.cells c1 t1)).alloc (.cells c2 t2)).alloc (.cells c3 t3)) (w.heap.size + 1 + 1) t2 c2 ∧
    Blk ((((w.alloc (.cells c0 t0)).alloc (.cells c1 t1)).alloc (.cells c2 t2)).alloc (.cells c3 t3)) (w.heap.size + 1 + 1 + 1) t3 c3 := by
  have h1 := Blk.new (w.alloc (.cells c0 t0)) t1 c1
  have h2 := Blk.new ((w.alloc (.cells c0 t0)).alloc (.cells c1 t1)) t2 c2
  have h3 := Blk.new (((w.alloc (.cells c0 t0)).alloc (.cells c1 t1)).alloc (.cells c2 t2)) t3 c3
  have s1 : (w.alloc (.cells c0 t0)).heap.size = w.heap.size + 1 := by simp
  have s2 : ((w.alloc (.cells c0 t0)).alloc (.cells c1 t1)).heap.size = w.heap.size + 1 + 1 := by simp
  have s3 : (((w.alloc (.cells c0 t0)).alloc (.cells c1 t1)).alloc (.cells c2 t2)).heap.size = w.heap.size + 1 + 1 + 1 := by simp
  rw [s1] at h1
  rw [s2] at h2
  rw [s3] at h3
  exact ⟨((((Below.refl _ _).alloc (Nat.le_refl _) _).alloc (by omega) _).alloc (by omega) _).alloc (by omega) _,
    (((Blk.new w t0 c0).alloc _).alloc _).alloc _, (h1.alloc _).alloc _, h2.alloc _, h3⟩

set_option maxRecDepth 100000 in
set_option maxHeartbeats 2000000 in
/-- It may not be, or is not above what is known. -/
theorem refHear_no (z : Int) (A : Option Addr) (c : Nat) (L : List Pl.M) (m : Pl.M) (w : World) (hm : Pl.MOk m) (hR : ReadsM w (fun _ => True) A L) (hlen : L.length ≤ 65536)
    (hno : Pl.mayM m = false ∨ (Pl.mayM m = true ∧ ∃ o, Pl.findL L m.n = some o ∧ Pl.above m o = false)) :
    Calls Try.prog 28 #[.agg #[.int .u16 z, .slice A L.length c], .agg (mcells m)] w fun e w' => e = .returned (rheardVal (.agg #[.int .u16 z, .slice A L.length c]) none) ∧ Below w.heap.size w w' := by
  obtain ⟨mn, ms, mi⟩ := m
  unfold mcells
  simp only at hno
  have HR := Lib.hid hR
  have HM := Lib.hid hm
  have HN := Lib.hid hno
  clear hR hm hno
  go_enter Try.func28, Try.ntmps28
  go_wp2_with fail
  obtain ⟨hb, hB0, hB1, hB2, hB3⟩ := blk4 w #[.int .u16 z, .slice A L.length c] #[.int .u16 mn, .int .u8 ms, .int .i64 mi] #[.int .u16 0, .slice none 0 0] #[.int .u16 0, .int .u8 0, .int .i64 0] 46 25 46 25
  have hR1 : ReadsM ((((w.alloc (.cells #[.int .u16 z, .slice A L.length c] 46)).alloc (.cells #[.int .u16 mn, .int .u8 ms, .int .i64 mi] 25)).alloc (.cells #[.int .u16 0, .slice none 0 0] 46)).alloc (.cells #[.int .u16 0, .int .u8 0, .int .i64 0] 25)) (fun _ => True) A L := HR.out.below (by omega) hb
  generalize ((((w.alloc (.cells #[.int .u16 z, .slice A L.length c] 46)).alloc (.cells #[.int .u16 mn, .int .u8 ms, .int .i64 mi] 25)).alloc (.cells #[.int .u16 0, .slice none 0 0] 46)).alloc (.cells #[.int .u16 0, .int .u8 0, .int .i64 0] 25)) = W at *
  generalize hw : w.heap.size = b0 at *
  have B0 := Lib.hid hB0
  have B1 := Lib.hid hB1
  have B2 := Lib.hid hB2
  have B3 := Lib.hid hB3
  have HB := Lib.hid hb
  have RR := Lib.hid hR1
  have HW := Lib.hid hw
  have hl3 := hB3.lt
  clear hb hB0 hB1 hB2 hB3 hR1 hw HR
  refine (refGet_any z mn A c L _ RR.out hlen).mono ?_
  generalize hfo : Pl.findL L mn = fo at *
  have HFO := Lib.hid hfo
  clear hfo
  rintro e w1 ⟨rfl, hb1⟩
  have K1 := Lib.hid (below_then HB.out (by omega) hb1)
  have C0 := Lib.hid (B0.out.below hb1 B0.out.lt)
  have C1 := Lib.hid (B1.out.below hb1 B1.out.lt)
  have C2 := Lib.hid (B2.out.below hb1 B2.out.lt)
  have C3 := Lib.hid (B3.out.below hb1 B3.out.lt)
  have R1 := Lib.hid (RR.out.below (by omega) hb1)
  have l1 := hb1.size
  have m10 : b0 < w1.heap.size := by omega
  have m11 : b0 + 1 < w1.heap.size := by omega
  have n10 : b0 ≠ w1.heap.size := by omega
  have n11 : b0 + 1 ≠ w1.heap.size := by omega
  have n12 : b0 + 1 + 1 ≠ w1.heap.size := by omega
  have n13 : b0 + 1 + 1 + 1 ≠ w1.heap.size := by omega
  clear hb1 B0 B1 B2 B3 HB RR
  rcases HN.out with hmay | ⟨hmay, o, ho, hab⟩
  · have HMAY := Lib.hid hmay
    clear hmay HN
    rcases fo with _ | ⟨on, os, oi⟩
    · simp only [getVal, mcells, mzero]
      have q00 := C0.out.cell 0
      have q01 := C0.out.cell 1
      have q10 := C1.out.cell 0
      have q11 := C1.out.cell 1
      have q12 := C1.out.cell 2
      simp only [List.getElem?_toArray, List.getElem?_cons_zero, List.getElem?_cons_succ] at q00 q01 q10 q11 q12
      go_wp2_with fail
      refine (refMay_any ⟨mn, ms, mi⟩ _ HM.out).mono ?_
      rw [HMAY.out]
      rintro e w2 ⟨rfl, hb2⟩
      have K2 := Lib.hid ((K1.out.alloc (by omega) (.cells #[.int .u16 0, .int .u8 0, .int .i64 0] 25)).trans (hb2.mono (by simp; omega)))
      have D0 := Lib.hid ((C0.out.alloc (.cells #[.int .u16 0, .int .u8 0, .int .i64 0] 25)).below hb2 (C0.out.alloc _).lt)
      have D1 := Lib.hid ((C1.out.alloc (.cells #[.int .u16 0, .int .u8 0, .int .i64 0] 25)).below hb2 (C1.out.alloc _).lt)
      have D2 := Lib.hid ((C2.out.alloc (.cells #[.int .u16 0, .int .u8 0, .int .i64 0] 25)).below hb2 (C2.out.alloc _).lt)
      have D3 := Lib.hid ((C3.out.alloc (.cells #[.int .u16 0, .int .u8 0, .int .i64 0] 25)).below hb2 (C3.out.alloc _).lt)
      have D7 := Lib.hid ((Blk.new w1 25 #[.int .u16 0, .int .u8 0, .int .i64 0]).below hb2 (Blk.new w1 25 #[.int .u16 0, .int .u8 0, .int .i64 0]).lt)
      have R2 := Lib.hid ((R1.out.below (by omega) (Below.alloc (Below.refl _ w1) (Nat.le_refl _) (.cells #[.int .u16 0, .int .u8 0, .int .i64 0] 25))).below (by omega) hb2)
      have l2 : w1.heap.size < w2.heap.size := Nat.lt_of_lt_of_le (by simp) hb2.size
      clear hb2 C0 C1 C2 C3 K1 R1
      clear q00 q01 q10 q11 q12
      have r00 := D0.out.cell 0
      have r01 := D0.out.cell 1
      have r10 := D1.out.cell 0
      have r11 := D1.out.cell 1
      have r12 := D1.out.cell 2
      have r20 := D2.out.cell 0
      have r21 := D2.out.cell 1
      have r30 := D3.out.cell 0
      have r31 := D3.out.cell 1
      have r32 := D3.out.cell 2
      simp only [List.getElem?_toArray, List.getElem?_cons_zero, List.getElem?_cons_succ] at r00 r01 r10 r11 r12 r20 r21 r30 r31 r32
      have c20 := D2.out.frozen
      have c30 := D3.out.frozen
      go_wp2
      have b2 := (((Blk.mem2 D2.out (.int .u16 z) (.slice A L.length c)).far (p := ⟨b0 + 1 + 1 + 1, 0, none⟩) (by simp) (.int .u16 0)).far (p := ⟨b0 + 1 + 1 + 1, 1, none⟩) (by simp) (.int .u8 0)).far (p := ⟨b0 + 1 + 1 + 1, 2, none⟩) (by simp) (.int .i64 0)
      have b3 := Blk.mem3 ((D3.out.far (p := ⟨b0 + 1 + 1, 0, none⟩) (by simp) (.int .u16 z)).far (p := ⟨b0 + 1 + 1, 1, none⟩) (by simp) (.slice A L.length c)) (.int .u16 0) (.int .u8 0) (.int .i64 0)
      have s20 := b2.cell 0
      have s21 := b2.cell 1
      have s30 := b3.cell 0
      have s31 := b3.cell 1
      have s32 := b3.cell 2
      simp only [List.getElem?_toArray, List.getElem?_cons_zero, List.getElem?_cons_succ] at s20 s21 s30 s31 s32
      refine bodyPost_ret (v := rheardVal (.agg #[.int .u16 z, .slice A L.length c]) none) (by simp [results, Try.results28, go_sem, s20, s21, s30, s31, s32, rheardVal, mcells, mzero]) rfl ⟨rfl, ?_⟩
      rw [HW.out]
      exact ((((K2.out.setCell (p := ⟨b0 + 1 + 1, 0, none⟩) (by simp; omega) _).setCell (p := ⟨b0 + 1 + 1, 1, none⟩) (by simp; omega) _).setCell (p := ⟨b0 + 1 + 1 + 1, 0, none⟩) (by simp; omega) _).setCell (p := ⟨b0 + 1 + 1 + 1, 1, none⟩) (by simp; omega) _).setCell (p := ⟨b0 + 1 + 1 + 1, 2, none⟩) (by simp; omega) _
    · simp only [getVal, mcells, mzero]
      have q00 := C0.out.cell 0
      have q01 := C0.out.cell 1
      have q10 := C1.out.cell 0
      have q11 := C1.out.cell 1
      have q12 := C1.out.cell 2
      simp only [List.getElem?_toArray, List.getElem?_cons_zero, List.getElem?_cons_succ] at q00 q01 q10 q11 q12
      go_wp2_with fail
      refine (refMay_any ⟨mn, ms, mi⟩ _ HM.out).mono ?_
      rw [HMAY.out]
      rintro e w2 ⟨rfl, hb2⟩
      have K2 := Lib.hid ((K1.out.alloc (by omega) (.cells #[.int .u16 on, .int .u8 os, .int .i64 oi] 25)).trans (hb2.mono (by simp; omega)))
      have D0 := Lib.hid ((C0.out.alloc (.cells #[.int .u16 on, .int .u8 os, .int .i64 oi] 25)).below hb2 (C0.out.alloc _).lt)
      have D1 := Lib.hid ((C1.out.alloc (.cells #[.int .u16 on, .int .u8 os, .int .i64 oi] 25)).below hb2 (C1.out.alloc _).lt)
      have D2 := Lib.hid ((C2.out.alloc (.cells #[.int .u16 on, .int .u8 os, .int .i64 oi] 25)).below hb2 (C2.out.alloc _).lt)
      have D3 := Lib.hid ((C3.out.alloc (.cells #[.int .u16 on, .int .u8 os, .int .i64 oi] 25)).below hb2 (C3.out.alloc _).lt)
      have D7 := Lib.hid ((Blk.new w1 25 #[.int .u16 on, .int .u8 os, .int .i64 oi]).below hb2 (Blk.new w1 25 #[.int .u16 on, .int .u8 os, .int .i64 oi]).lt)
      have R2 := Lib.hid ((R1.out.below (by omega) (Below.alloc (Below.refl _ w1) (Nat.le_refl _) (.cells #[.int .u16 on, .int .u8 os, .int .i64 oi] 25))).below (by omega) hb2)
      have l2 : w1.heap.size < w2.heap.size := Nat.lt_of_lt_of_le (by simp) hb2.size
      clear hb2 C0 C1 C2 C3 K1 R1
      clear q00 q01 q10 q11 q12
      have r00 := D0.out.cell 0
      have r01 := D0.out.cell 1
      have r10 := D1.out.cell 0
      have r11 := D1.out.cell 1
      have r12 := D1.out.cell 2
      have r20 := D2.out.cell 0
      have r21 := D2.out.cell 1
      have r30 := D3.out.cell 0
      have r31 := D3.out.cell 1
      have r32 := D3.out.cell 2
      simp only [List.getElem?_toArray, List.getElem?_cons_zero, List.getElem?_cons_succ] at r00 r01 r10 r11 r12 r20 r21 r30 r31 r32
      have c20 := D2.out.frozen
      have c30 := D3.out.frozen
      go_wp2
      have b2 := (((Blk.mem2 D2.out (.int .u16 z) (.slice A L.length c)).far (p := ⟨b0 + 1 + 1 + 1, 0, none⟩) (by simp) (.int .u16 0)).far (p := ⟨b0 + 1 + 1 + 1, 1, none⟩) (by simp) (.int .u8 0)).far (p := ⟨b0 + 1 + 1 + 1, 2, none⟩) (by simp) (.int .i64 0)
      have b3 := Blk.mem3 ((D3.out.far (p := ⟨b0 + 1 + 1, 0, none⟩) (by simp) (.int .u16 z)).far (p := ⟨b0 + 1 + 1, 1, none⟩) (by simp) (.slice A L.length c)) (.int .u16 0) (.int .u8 0) (.int .i64 0)
      have s20 := b2.cell 0
      have s21 := b2.cell 1
      have s30 := b3.cell 0
      have s31 := b3.cell 1
      have s32 := b3.cell 2
      simp only [List.getElem?_toArray, List.getElem?_cons_zero, List.getElem?_cons_succ] at s20 s21 s30 s31 s32
      refine bodyPost_ret (v := rheardVal (.agg #[.int .u16 z, .slice A L.length c]) none) (by simp [results, Try.results28, go_sem, s20, s21, s30, s31, s32, rheardVal, mcells, mzero]) rfl ⟨rfl, ?_⟩
      rw [HW.out]
      exact ((((K2.out.setCell (p := ⟨b0 + 1 + 1, 0, none⟩) (by simp; omega) _).setCell (p := ⟨b0 + 1 + 1, 1, none⟩) (by simp; omega) _).setCell (p := ⟨b0 + 1 + 1 + 1, 0, none⟩) (by simp; omega) _).setCell (p := ⟨b0 + 1 + 1 + 1, 1, none⟩) (by simp; omega) _).setCell (p := ⟨b0 + 1 + 1 + 1, 2, none⟩) (by simp; omega) _
  · have HMAY := Lib.hid hmay
    subst ho
    obtain ⟨on, os, oi⟩ := o
    have HAB := Lib.hid hab
    clear hmay HN hab
    simp only [getVal, mcells, mzero]
    have q00 := C0.out.cell 0
    have q01 := C0.out.cell 1
    have q10 := C1.out.cell 0
    have q11 := C1.out.cell 1
    have q12 := C1.out.cell 2
    simp only [List.getElem?_toArray, List.getElem?_cons_zero, List.getElem?_cons_succ] at q00 q01 q10 q11 q12
    go_wp2_with fail
    refine (refMay_any ⟨mn, ms, mi⟩ _ HM.out).mono ?_
    rw [HMAY.out]
    rintro e w2 ⟨rfl, hb2⟩
    have K2 := Lib.hid ((K1.out.alloc (by omega) (.cells #[.int .u16 on, .int .u8 os, .int .i64 oi] 25)).trans (hb2.mono (by simp; omega)))
    have D0 := Lib.hid ((C0.out.alloc (.cells #[.int .u16 on, .int .u8 os, .int .i64 oi] 25)).below hb2 (C0.out.alloc _).lt)
    have D1 := Lib.hid ((C1.out.alloc (.cells #[.int .u16 on, .int .u8 os, .int .i64 oi] 25)).below hb2 (C1.out.alloc _).lt)
    have D2 := Lib.hid ((C2.out.alloc (.cells #[.int .u16 on, .int .u8 os, .int .i64 oi] 25)).below hb2 (C2.out.alloc _).lt)
    have D3 := Lib.hid ((C3.out.alloc (.cells #[.int .u16 on, .int .u8 os, .int .i64 oi] 25)).below hb2 (C3.out.alloc _).lt)
    have D7 := Lib.hid ((Blk.new w1 25 #[.int .u16 on, .int .u8 os, .int .i64 oi]).below hb2 (Blk.new w1 25 #[.int .u16 on, .int .u8 os, .int .i64 oi]).lt)
    have R2 := Lib.hid ((R1.out.below (by omega) (Below.alloc (Below.refl _ w1) (Nat.le_refl _) (.cells #[.int .u16 on, .int .u8 os, .int .i64 oi] 25))).below (by omega) hb2)
    have l2 : w1.heap.size < w2.heap.size := Nat.lt_of_lt_of_le (by simp) hb2.size
    clear hb2 C0 C1 C2 C3 K1 R1
    clear q00 q01 q10 q11 q12
    have r00 := D0.out.cell 0
    have r01 := D0.out.cell 1
    have r10 := D1.out.cell 0
    have r11 := D1.out.cell 1
    have r12 := D1.out.cell 2
    have r20 := D2.out.cell 0
    have r21 := D2.out.cell 1
    have r30 := D3.out.cell 0
    have r31 := D3.out.cell 1
    have r32 := D3.out.cell 2
    have r70 := D7.out.cell 0
    have r71 := D7.out.cell 1
    have r72 := D7.out.cell 2
    simp only [List.getElem?_toArray, List.getElem?_cons_zero, List.getElem?_cons_succ] at r00 r01 r10 r11 r12 r20 r21 r30 r31 r32 r70 r71 r72
    go_wp2_with fail
    refine (refAbove_any ⟨mn, ms, mi⟩ ⟨on, os, oi⟩ _).mono ?_
    rw [HAB.out]
    rintro e w3 ⟨rfl, hb3⟩
    have K3 := Lib.hid (below_then K2.out (by omega) hb3)
    have E0 := Lib.hid (D0.out.below hb3 D0.out.lt)
    have E1 := Lib.hid (D1.out.below hb3 D1.out.lt)
    have E2 := Lib.hid (D2.out.below hb3 D2.out.lt)
    have E3 := Lib.hid (D3.out.below hb3 D3.out.lt)
    clear r00 r01 r10 r11 r12 r20 r21 r30 r31 r32 r70 r71 r72
    have r00 := E0.out.cell 0
    have r01 := E0.out.cell 1
    have r10 := E1.out.cell 0
    have r11 := E1.out.cell 1
    have r12 := E1.out.cell 2
    have r20 := E2.out.cell 0
    have r21 := E2.out.cell 1
    have r30 := E3.out.cell 0
    have r31 := E3.out.cell 1
    have r32 := E3.out.cell 2
    simp only [List.getElem?_toArray, List.getElem?_cons_zero, List.getElem?_cons_succ] at r00 r01 r10 r11 r12 r20 r21 r30 r31 r32
    have c20 := E2.out.frozen
    have c30 := E3.out.frozen
    go_wp2
    have b2 := (((Blk.mem2 E2.out (.int .u16 z) (.slice A L.length c)).far (p := ⟨b0 + 1 + 1 + 1, 0, none⟩) (by simp) (.int .u16 0)).far (p := ⟨b0 + 1 + 1 + 1, 1, none⟩) (by simp) (.int .u8 0)).far (p := ⟨b0 + 1 + 1 + 1, 2, none⟩) (by simp) (.int .i64 0)
    have b3 := Blk.mem3 ((E3.out.far (p := ⟨b0 + 1 + 1, 0, none⟩) (by simp) (.int .u16 z)).far (p := ⟨b0 + 1 + 1, 1, none⟩) (by simp) (.slice A L.length c)) (.int .u16 0) (.int .u8 0) (.int .i64 0)
    have s20 := b2.cell 0
    have s21 := b2.cell 1
    have s30 := b3.cell 0
    have s31 := b3.cell 1
    have s32 := b3.cell 2
    simp only [List.getElem?_toArray, List.getElem?_cons_zero, List.getElem?_cons_succ] at s20 s21 s30 s31 s32
    refine bodyPost_ret (v := rheardVal (.agg #[.int .u16 z, .slice A L.length c]) none) (by simp [results, Try.results28, go_sem, s20, s21, s30, s31, s32, rheardVal, mcells, mzero]) rfl ⟨rfl, ?_⟩
    rw [HW.out]
    exact ((((K3.out.setCell (p := ⟨b0 + 1 + 1, 0, none⟩) (by simp; omega) _).setCell (p := ⟨b0 + 1 + 1, 1, none⟩) (by simp; omega) _).setCell (p := ⟨b0 + 1 + 1 + 1, 0, none⟩) (by simp; omega) _).setCell (p := ⟨b0 + 1 + 1 + 1, 1, none⟩) (by simp; omega) _).setCell (p := ⟨b0 + 1 + 1 + 1, 2, none⟩) (by simp; omega) _

end Go.Proofs.Ytnlpgjdgiappcaa
