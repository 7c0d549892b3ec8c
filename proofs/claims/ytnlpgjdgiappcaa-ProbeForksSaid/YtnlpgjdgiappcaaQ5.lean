/- WALK: the document's open: an open question that is due. -/
import Derived.Test.YtnlpgjdgiappcaaQ4
namespace Go.Proofs.Ytnlpgjdgiappcaa
set_option linter.unusedVariables false
set_option linter.unusedSimpArgs false
open Go.RowKit

set_option maxRecDepth 100000 in
set_option maxHeartbeats 4000000 in
theorem due_none (f0 f1 f2 f3 f4 f7 f8 : Int) (f6 : Bool) (A : Option Addr) (c : Nat) (L : List Pl.Wt) (B : Option Addr) (cB : Nat) (F : Pl.Tab) (now draw : Int) (w : World) (S : Nat → Prop) (hF : Pl.TOk f0 F) (h0 : 0 ≤ now) (h1 : now ≤ 1099511627776) (hp0 : 0 ≤ f8) (hp1 : f8 ≤ 1099511627776) (hi : f1 ≤ now - f8) (h7 : 0 ≤ f7) (hlen : L.length ≤ 1000000) (hm : F f7.toNat = none)
    (hR : ReadsWt w (fun b => S b ∧ b < w.heap.size) A L) (hB : ReadsM w (fun b => S b ∧ b < w.heap.size) B (Pl.listT F)) (hS : ∀ b, w.heap.size ≤ b → S b) :
    Calls Try.prog 67 #[.agg #[.int .u16 f0, .int .i64 f1, .int .i64 f2, .int .i64 f3, .int .i64 f4, .bool true, .bool f6, .int .u16 f7, .int .i64 f8, .slice A L.length c], .int .i64 now, .int .u32 draw, .agg #[.int .u16 f0, .slice B (Pl.listT F).length cB]] w fun e w' => OpEnd w S f0 (⟨f0, f1, f2, f3, f4, false, f6, f7, f8, L⟩, F, [], []) e w' := by
  have HA := Lib.hid hR
  have HB := Lib.hid hB
  have HS := Lib.hid hS
  have HF := Lib.hid hF
  obtain ⟨n, hn⟩ : ∃ n, L.length = n := ⟨_, rfl⟩
  obtain ⟨nB, hnB⟩ : ∃ n, (Pl.listT F).length = n := ⟨_, rfl⟩
  have HN := Lib.hid hn
  have HNB := Lib.hid hnB
  rw [HN.out, HNB.out]
  clear hR hB hS hF hn hnB
  have s1 : (w.alloc (.cells #[.int .u16 f0, .int .i64 f1, .int .i64 f2, .int .i64 f3, .int .i64 f4, .bool true, .bool f6, .int .u16 f7, .int .i64 f8, .slice A n c] 81)).heap.size = w.heap.size + 1 := by simp
  have s2 : ((w.alloc (.cells #[.int .u16 f0, .int .i64 f1, .int .i64 f2, .int .i64 f3, .int .i64 f4, .bool true, .bool f6, .int .u16 f7, .int .i64 f8, .slice A n c] 81)).alloc (.cells #[.int .u16 f0, .slice B nB cB] 46)).heap.size = w.heap.size + 1 + 1 := by simp
  have s3 : (((w.alloc (.cells #[.int .u16 f0, .int .i64 f1, .int .i64 f2, .int .i64 f3, .int .i64 f4, .bool true, .bool f6, .int .u16 f7, .int .i64 f8, .slice A n c] 81)).alloc (.cells #[.int .u16 f0, .slice B nB cB] 46)).alloc (.cells #[.int .u16 0, .int .i64 0, .int .i64 0, .int .i64 0, .int .i64 0, .bool false, .bool false, .int .u16 0, .int .i64 0, .slice none 0 0] 81)).heap.size = w.heap.size + 1 + 1 + 1 := by simp
  have K0 := Lib.hid (((((Below.refl w.heap.size w).alloc (Nat.le_refl _) (.cells #[.int .u16 f0, .int .i64 f1, .int .i64 f2, .int .i64 f3, .int .i64 f4, .bool true, .bool f6, .int .u16 f7, .int .i64 f8, .slice A n c] 81)).alloc (by rw [s1]; omega) (.cells #[.int .u16 f0, .slice B nB cB] 46)).alloc (by rw [s2]; omega) (.cells #[.int .u16 0, .int .i64 0, .int .i64 0, .int .i64 0, .int .i64 0, .bool false, .bool false, .int .u16 0, .int .i64 0, .slice none 0 0] 81)).alloc (by rw [s3]; omega) (.cells #[.int .u16 0, .slice none 0 0] 46))
  have BP0 : Hid (Blk ((((w.alloc (.cells #[.int .u16 f0, .int .i64 f1, .int .i64 f2, .int .i64 f3, .int .i64 f4, .bool true, .bool f6, .int .u16 f7, .int .i64 f8, .slice A n c] 81)).alloc (.cells #[.int .u16 f0, .slice B nB cB] 46)).alloc (.cells #[.int .u16 0, .int .i64 0, .int .i64 0, .int .i64 0, .int .i64 0, .bool false, .bool false, .int .u16 0, .int .i64 0, .slice none 0 0] 81)).alloc (.cells #[.int .u16 0, .slice none 0 0] 46)) w.heap.size 81 #[.int .u16 f0, .int .i64 f1, .int .i64 f2, .int .i64 f3, .int .i64 f4, .bool true, .bool f6, .int .u16 f7, .int .i64 f8, .slice A n c]) := Lib.hid ((((Blk.new w 81 #[.int .u16 f0, .int .i64 f1, .int .i64 f2, .int .i64 f3, .int .i64 f4, .bool true, .bool f6, .int .u16 f7, .int .i64 f8, .slice A n c]).alloc (.cells #[.int .u16 f0, .slice B nB cB] 46)).alloc (.cells #[.int .u16 0, .int .i64 0, .int .i64 0, .int .i64 0, .int .i64 0, .bool false, .bool false, .int .u16 0, .int .i64 0, .slice none 0 0] 81)).alloc (.cells #[.int .u16 0, .slice none 0 0] 46))
  have BT0 : Hid (Blk ((((w.alloc (.cells #[.int .u16 f0, .int .i64 f1, .int .i64 f2, .int .i64 f3, .int .i64 f4, .bool true, .bool f6, .int .u16 f7, .int .i64 f8, .slice A n c] 81)).alloc (.cells #[.int .u16 f0, .slice B nB cB] 46)).alloc (.cells #[.int .u16 0, .int .i64 0, .int .i64 0, .int .i64 0, .int .i64 0, .bool false, .bool false, .int .u16 0, .int .i64 0, .slice none 0 0] 81)).alloc (.cells #[.int .u16 0, .slice none 0 0] 46)) (w.heap.size + 1) 46 #[.int .u16 f0, .slice B nB cB]) := Lib.hid (((Blk.new_at' (w := (w.alloc (.cells #[.int .u16 f0, .int .i64 f1, .int .i64 f2, .int .i64 f3, .int .i64 f4, .bool true, .bool f6, .int .u16 f7, .int .i64 f8, .slice A n c] 81))) (t := 46) (cs := #[.int .u16 f0, .slice B nB cB]) s1.symm).alloc (.cells #[.int .u16 0, .int .i64 0, .int .i64 0, .int .i64 0, .int .i64 0, .bool false, .bool false, .int .u16 0, .int .i64 0, .slice none 0 0] 81)).alloc (.cells #[.int .u16 0, .slice none 0 0] 46))
  have BZ0 : Hid (Blk ((((w.alloc (.cells #[.int .u16 f0, .int .i64 f1, .int .i64 f2, .int .i64 f3, .int .i64 f4, .bool true, .bool f6, .int .u16 f7, .int .i64 f8, .slice A n c] 81)).alloc (.cells #[.int .u16 f0, .slice B nB cB] 46)).alloc (.cells #[.int .u16 0, .int .i64 0, .int .i64 0, .int .i64 0, .int .i64 0, .bool false, .bool false, .int .u16 0, .int .i64 0, .slice none 0 0] 81)).alloc (.cells #[.int .u16 0, .slice none 0 0] 46)) (w.heap.size + 1 + 1) 81 #[.int .u16 0, .int .i64 0, .int .i64 0, .int .i64 0, .int .i64 0, .bool false, .bool false, .int .u16 0, .int .i64 0, .slice none 0 0]) := Lib.hid ((Blk.new_at' (w := ((w.alloc (.cells #[.int .u16 f0, .int .i64 f1, .int .i64 f2, .int .i64 f3, .int .i64 f4, .bool true, .bool f6, .int .u16 f7, .int .i64 f8, .slice A n c] 81)).alloc (.cells #[.int .u16 f0, .slice B nB cB] 46))) (t := 81) (cs := #[.int .u16 0, .int .i64 0, .int .i64 0, .int .i64 0, .int .i64 0, .bool false, .bool false, .int .u16 0, .int .i64 0, .slice none 0 0]) s2.symm).alloc (.cells #[.int .u16 0, .slice none 0 0] 46))
  have BY0 : Hid (Blk ((((w.alloc (.cells #[.int .u16 f0, .int .i64 f1, .int .i64 f2, .int .i64 f3, .int .i64 f4, .bool true, .bool f6, .int .u16 f7, .int .i64 f8, .slice A n c] 81)).alloc (.cells #[.int .u16 f0, .slice B nB cB] 46)).alloc (.cells #[.int .u16 0, .int .i64 0, .int .i64 0, .int .i64 0, .int .i64 0, .bool false, .bool false, .int .u16 0, .int .i64 0, .slice none 0 0] 81)).alloc (.cells #[.int .u16 0, .slice none 0 0] 46)) (w.heap.size + 1 + 1 + 1) 46 #[.int .u16 0, .slice none 0 0]) := Lib.hid (Blk.new_at' (w := (((w.alloc (.cells #[.int .u16 f0, .int .i64 f1, .int .i64 f2, .int .i64 f3, .int .i64 f4, .bool true, .bool f6, .int .u16 f7, .int .i64 f8, .slice A n c] 81)).alloc (.cells #[.int .u16 f0, .slice B nB cB] 46)).alloc (.cells #[.int .u16 0, .int .i64 0, .int .i64 0, .int .i64 0, .int .i64 0, .bool false, .bool false, .int .u16 0, .int .i64 0, .slice none 0 0] 81))) (t := 46) (cs := #[.int .u16 0, .slice none 0 0]) s3.symm)
  have RM0 : Hid (ReadsM ((((w.alloc (.cells #[.int .u16 f0, .int .i64 f1, .int .i64 f2, .int .i64 f3, .int .i64 f4, .bool true, .bool f6, .int .u16 f7, .int .i64 f8, .slice A n c] 81)).alloc (.cells #[.int .u16 f0, .slice B nB cB] 46)).alloc (.cells #[.int .u16 0, .int .i64 0, .int .i64 0, .int .i64 0, .int .i64 0, .bool false, .bool false, .int .u16 0, .int .i64 0, .slice none 0 0] 81)).alloc (.cells #[.int .u16 0, .slice none 0 0] 46)) (fun b => S b ∧ b ≠ w.heap.size ∧ b ≠ w.heap.size + 1 ∧ b ≠ w.heap.size + 1 + 1 ∧ b ≠ w.heap.size + 1 + 1 + 1) B (Pl.listT F)) := Lib.hid ((HB.out.below (by omega) K0.out).imp (fun b hb => ⟨hb.1, by omega, by omega, by omega, by omega⟩))
  have RA0 : Hid (ReadsWt ((((w.alloc (.cells #[.int .u16 f0, .int .i64 f1, .int .i64 f2, .int .i64 f3, .int .i64 f4, .bool true, .bool f6, .int .u16 f7, .int .i64 f8, .slice A n c] 81)).alloc (.cells #[.int .u16 f0, .slice B nB cB] 46)).alloc (.cells #[.int .u16 0, .int .i64 0, .int .i64 0, .int .i64 0, .int .i64 0, .bool false, .bool false, .int .u16 0, .int .i64 0, .slice none 0 0] 81)).alloc (.cells #[.int .u16 0, .slice none 0 0] 46)) (fun b => S b ∧ b ≠ w.heap.size ∧ b ≠ w.heap.size + 1 ∧ b ≠ w.heap.size + 1 + 1 ∧ b ≠ w.heap.size + 1 + 1 + 1) A L) := Lib.hid ((HA.out.below (by omega) K0.out).imp (fun b hb => ⟨hb.1, by omega, by omega, by omega, by omega⟩))
  have hs4 : ((((w.alloc (.cells #[.int .u16 f0, .int .i64 f1, .int .i64 f2, .int .i64 f3, .int .i64 f4, .bool true, .bool f6, .int .u16 f7, .int .i64 f8, .slice A n c] 81)).alloc (.cells #[.int .u16 f0, .slice B nB cB] 46)).alloc (.cells #[.int .u16 0, .int .i64 0, .int .i64 0, .int .i64 0, .int .i64 0, .bool false, .bool false, .int .u16 0, .int .i64 0, .slice none 0 0] 81)).alloc (.cells #[.int .u16 0, .slice none 0 0] 46)).heap.size = w.heap.size + 1 + 1 + 1 + 1 := by rw [World.size_alloc, s3]
  clear s1 s2 s3
  go_enter Try.func67, Try.ntmps67
  go_upto_region 1 with fail
  generalize ((((w.alloc (.cells #[.int .u16 f0, .int .i64 f1, .int .i64 f2, .int .i64 f3, .int .i64 f4, .bool true, .bool f6, .int .u16 f7, .int .i64 f8, .slice A n c] 81)).alloc (.cells #[.int .u16 f0, .slice B nB cB] 46)).alloc (.cells #[.int .u16 0, .int .i64 0, .int .i64 0, .int .i64 0, .int .i64 0, .bool false, .bool false, .int .u16 0, .int .i64 0, .slice none 0 0] 81)).alloc (.cells #[.int .u16 0, .slice none 0 0] 46)) = w0 at *
  have hdd1 : decide (now - f8 ≥ f1) = true := by simp; omega
  have r0 := BP0.out.cell 0
  have r1 := BP0.out.cell 1
  have r2 := BP0.out.cell 2
  have r3 := BP0.out.cell 3
  have r4 := BP0.out.cell 4
  have r5 := BP0.out.cell 5
  have r6 := BP0.out.cell 6
  have r7 := BP0.out.cell 7
  have r8 := BP0.out.cell 8
  have r9 := BP0.out.cell 9
  have z0 := BZ0.out.cell 0
  have z1 := BZ0.out.cell 1
  have z2 := BZ0.out.cell 2
  have z3 := BZ0.out.cell 3
  have z4 := BZ0.out.cell 4
  have z5 := BZ0.out.cell 5
  have z6 := BZ0.out.cell 6
  have z7 := BZ0.out.cell 7
  have z8 := BZ0.out.cell 8
  have z9 := BZ0.out.cell 9
  have t0 := BT0.out.cell 0
  have t1 := BT0.out.cell 1
  have y0 := BY0.out.cell 0
  have y1 := BY0.out.cell 1
  have rf := BP0.out.frozen
  have tf := BT0.out.frozen
  have zf := BZ0.out.frozen
  have yf := BY0.out.frozen
  simp only [List.getElem?_toArray, List.getElem?_cons_zero, List.getElem?_cons_succ] at r0 z0 r1 z1 r2 z2 r3 z3 r4 z4 r5 z5 r6 z6 r7 z7 r8 z8 r9 z9 t0 t1 y0 y1
  have BP1 : Hid (Blk (w0.setCell ⟨w.heap.size, 5, none⟩ (.bool false)) w.heap.size 81 #[.int .u16 f0, .int .i64 f1, .int .i64 f2, .int .i64 f3, .int .i64 f4, .bool false, .bool f6, .int .u16 f7, .int .i64 f8, .slice A n c]) := by
    have h := BP0.out.set_ 5 (.bool false)
    simpa only [List.setIfInBounds_toArray, List.set_cons_succ, List.set_cons_zero] using Lib.hid h
  have BT1 := Lib.hid (BT0.out.far (p := ⟨w.heap.size, 5, none⟩) (by show w.heap.size + 1 ≠ w.heap.size; omega) (.bool false))
  have BZ1 := Lib.hid (BZ0.out.far (p := ⟨w.heap.size, 5, none⟩) (by show w.heap.size + 1 + 1 ≠ w.heap.size; omega) (.bool false))
  have BY1 := Lib.hid (BY0.out.far (p := ⟨w.heap.size, 5, none⟩) (by show w.heap.size + 1 + 1 + 1 ≠ w.heap.size; omega) (.bool false))
  have K1 := Lib.hid (K0.out.setCell (p := ⟨w.heap.size, 5, none⟩) (Nat.le_refl _) (.bool false))
  have RM1 := Lib.hid (ReadsM.set (p := ⟨w.heap.size, 5, none⟩) RM0.out (fun b hb => hb.2.1) (.bool false))
  have RA1 := Lib.hid (Reads.keep RA0.out (fun b hb => Below.heap_setCell w0 ⟨w.heap.size, 5, none⟩ (.bool false) b hb.2.1))
  have hs5 : (w0.setCell ⟨w.heap.size, 5, none⟩ (.bool false)).heap.size = w.heap.size + 1 + 1 + 1 + 1 := by simp only [World.setCell]; simpa using hs4
  have HGET := Lib.hid (refGet_any f0 f7 B cB (Pl.listT F) (w0.setCell ⟨w.heap.size, 5, none⟩ (.bool false)) (RM1.out.imp fun _ _ => trivial) (by have := listLen F; omega))
  have hfind := Pl.find_list HF.out f7 h7
  rw [hfind, hm, HNB.out] at HGET
  clear hfind
  go_wp2_with fail
  refine HGET.out.mono ?_
  rintro e w2 ⟨rfl, hb2⟩
  clear r0 z0 r1 z1 r2 z2 r3 z3 r4 z4 r5 z5 r6 z6 r7 z7 r8 z8 r9 z9 t0 t1 y0 y1 rf tf zf yf
  have K2 := Lib.hid (below_then K1.out K1.out.size hb2)
  have BP2 := Lib.hid (BP1.out.below hb2 BP1.out.lt)
  have BT2 := Lib.hid (BT1.out.below hb2 BT1.out.lt)
  have BZ2 := Lib.hid (BZ1.out.below hb2 BZ1.out.lt)
  have BY2 := Lib.hid (BY1.out.below hb2 BY1.out.lt)
  have RM2 := Lib.hid (Reads.below RM1.out (by omega) hb2)
  have RA2 := Lib.hid (Reads.below RA1.out (by omega) hb2)
  have hs6 := hb2.size
  rw [hs5] at hs6
  clear hb2 HGET
  simp only [getVal, mcells, mzero]
  have BP3 := Lib.hid (BP2.out.alloc (.cells #[.int .u16 0, .int .u8 0, .int .i64 0] 25))
  have BT3 := Lib.hid (BT2.out.alloc (.cells #[.int .u16 0, .int .u8 0, .int .i64 0] 25))
  have BZ3 := Lib.hid (BZ2.out.alloc (.cells #[.int .u16 0, .int .u8 0, .int .i64 0] 25))
  have BY3 := Lib.hid (BY2.out.alloc (.cells #[.int .u16 0, .int .u8 0, .int .i64 0] 25))
  have r0 := BP3.out.cell 0
  have r1 := BP3.out.cell 1
  have r2 := BP3.out.cell 2
  have r3 := BP3.out.cell 3
  have r4 := BP3.out.cell 4
  have r5 := BP3.out.cell 5
  have r6 := BP3.out.cell 6
  have r7 := BP3.out.cell 7
  have r8 := BP3.out.cell 8
  have r9 := BP3.out.cell 9
  have z0 := BZ3.out.cell 0
  have z1 := BZ3.out.cell 1
  have z2 := BZ3.out.cell 2
  have z3 := BZ3.out.cell 3
  have z4 := BZ3.out.cell 4
  have z5 := BZ3.out.cell 5
  have z6 := BZ3.out.cell 6
  have z7 := BZ3.out.cell 7
  have z8 := BZ3.out.cell 8
  have z9 := BZ3.out.cell 9
  have t0 := BT3.out.cell 0
  have t1 := BT3.out.cell 1
  have y0 := BY3.out.cell 0
  have y1 := BY3.out.cell 1
  have rf := BP3.out.frozen
  have tf := BT3.out.frozen
  have zf := BZ3.out.frozen
  have yf := BY3.out.frozen
  simp only [List.getElem?_toArray, List.getElem?_cons_zero, List.getElem?_cons_succ] at r0 z0 r1 z1 r2 z2 r3 z3 r4 z4 r5 z5 r6 z6 r7 z7 r8 z8 r9 z9 t0 t1 y0 y1
  go_wp2
  go_region
  go_wp2
  refine open_ret (g2 := w.heap.size + 1 + 1) (g3 := w.heap.size + 1 + 1 + 1) rfl rfl rfl rfl rfl (x0 := .int .u16 f0) (x1 := .int .i64 f1) (x2 := .int .i64 f2) (x3 := .int .i64 f3) (x4 := .int .i64 f4) (x5 := .bool false) (x6 := .bool f6) (x7 := .int .u16 f7) (x8 := .int .i64 f8) (x9 := .slice A n c) (z0 := .int .u16 f0) (z1 := .slice B nB cB) ?_ ?_ ?_
  · (repeat (with_reducible first | exact BZ2.out | refine Blk.drew ?_ | apply Blk.mem10 | refine Blk.alloc ?_ _ | refine Blk.far ?_ ?_ _)) <;> (first | done | (dsimp only; omega))
  · (repeat (with_reducible first | exact BY2.out | refine Blk.drew ?_ | apply Blk.mem2 | refine Blk.alloc ?_ _ | refine Blk.far ?_ ?_ _)) <;> (first | done | (dsimp only; omega))
  · have KEY : ∀ W : World, Grow2 w2 W (w.heap.size + 1 + 1) (w.heap.size + 1 + 1 + 1) → OpEnd w S f0 (⟨f0, f1, f2, f3, f4, false, f6, f7, f8, L⟩, F, [], []) (.returned (.tuple #[.agg #[.int .u16 f0, .int .i64 f1, .int .i64 f2, .int .i64 f3, .int .i64 f4, .bool false, .bool f6, .int .u16 f7, .int .i64 f8, .slice A n c], .agg #[.int .u16 f0, .slice B nB cB], .slice none 0 0, .slice none 0 0])) W := fun W G => ⟨⟨A, c, B, cB, _, _, (by simp only [rpc]; rw [HN.out, HNB.out]), ((RA2.out.there (by omega)).keep (fun b hb => G.block b hb.2 hb.1.2.2.2.1 hb.1.2.2.2.2)).imp (fun b hb => ⟨hb.1.1, by simp [Value.ownBlock]⟩), ((Reads.there RM2.out (by omega)).keep (fun b hb => G.block b hb.2 hb.1.2.2.2.1 hb.1.2.2.2.2)).imp (fun b hb => ⟨hb.1.1, by simp [Value.ownBlock]⟩), own_nil _ _ _ _, own_nil _ _ _ _⟩, K2.out.trans (below_of_grow2 G K2.out.size (by omega) (by omega))⟩
    refine KEY _ ?_
    (repeat (with_reducible first | exact Grow2.refl _ _ _ | refine Grow2.drew ?_ | refine Grow2.alloc ?_ _ | refine Grow2.setCell ?_ ?_ _)) <;> (first | done | exact .inl rfl | exact .inr (.inl rfl))
set_option maxRecDepth 100000 in
set_option maxHeartbeats 4000000 in
theorem due_some (f0 f1 f2 f3 f4 f7 f8 : Int) (f6 : Bool) (A : Option Addr) (c : Nat) (L : List Pl.Wt) (B : Option Addr) (cB : Nat) (F : Pl.Tab) (now draw : Int) (w : World) (S : Nat → Prop) (hF : Pl.TOk f0 F) (h0 : 0 ≤ now) (h1 : now ≤ 1099511627776) (hp0 : 0 ≤ f8) (hp1 : f8 ≤ 1099511627776) (hi : f1 ≤ now - f8) (h7 : 0 ≤ f7) (hlen : L.length ≤ 1000000) (m0 m1 m2 : Int) (hm : F f7.toNat = some ⟨m0, m1, m2⟩)
    (hR : ReadsWt w (fun b => S b ∧ b < w.heap.size) A L) (hB : ReadsM w (fun b => S b ∧ b < w.heap.size) B (Pl.listT F)) (hS : ∀ b, w.heap.size ≤ b → S b) :
    Calls Try.prog 67 #[.agg #[.int .u16 f0, .int .i64 f1, .int .i64 f2, .int .i64 f3, .int .i64 f4, .bool true, .bool f6, .int .u16 f7, .int .i64 f8, .slice A L.length c], .int .i64 now, .int .u32 draw, .agg #[.int .u16 f0, .slice B (Pl.listT F).length cB]] w fun e w' => OpEnd w S f0 (Pl.rwatch ⟨f0, f1, f2, f3, f4, false, f6, f7, f8, L⟩ (((Pl.heard f0 F ⟨m0, 1, m2⟩) f7.toNat).getD ⟨0, 0, 0⟩) now, Pl.heard f0 F ⟨m0, 1, m2⟩, [], (Pl.hear f0 F ⟨m0, 1, m2⟩).toList) e w' := by
  have HA := Lib.hid hR
  have HB := Lib.hid hB
  have HS := Lib.hid hS
  have HF := Lib.hid hF
  obtain ⟨n, hn⟩ : ∃ n, L.length = n := ⟨_, rfl⟩
  obtain ⟨nB, hnB⟩ : ∃ n, (Pl.listT F).length = n := ⟨_, rfl⟩
  have HN := Lib.hid hn
  have HNB := Lib.hid hnB
  rw [HN.out, HNB.out]
  clear hR hB hS hF hn hnB
  have s1 : (w.alloc (.cells #[.int .u16 f0, .int .i64 f1, .int .i64 f2, .int .i64 f3, .int .i64 f4, .bool true, .bool f6, .int .u16 f7, .int .i64 f8, .slice A n c] 81)).heap.size = w.heap.size + 1 := by simp
  have s2 : ((w.alloc (.cells #[.int .u16 f0, .int .i64 f1, .int .i64 f2, .int .i64 f3, .int .i64 f4, .bool true, .bool f6, .int .u16 f7, .int .i64 f8, .slice A n c] 81)).alloc (.cells #[.int .u16 f0, .slice B nB cB] 46)).heap.size = w.heap.size + 1 + 1 := by simp
  have s3 : (((w.alloc (.cells #[.int .u16 f0, .int .i64 f1, .int .i64 f2, .int .i64 f3, .int .i64 f4, .bool true, .bool f6, .int .u16 f7, .int .i64 f8, .slice A n c] 81)).alloc (.cells #[.int .u16 f0, .slice B nB cB] 46)).alloc (.cells #[.int .u16 0, .int .i64 0, .int .i64 0, .int .i64 0, .int .i64 0, .bool false, .bool false, .int .u16 0, .int .i64 0, .slice none 0 0] 81)).heap.size = w.heap.size + 1 + 1 + 1 := by simp
  have K0 := Lib.hid (((((Below.refl w.heap.size w).alloc (Nat.le_refl _) (.cells #[.int .u16 f0, .int .i64 f1, .int .i64 f2, .int .i64 f3, .int .i64 f4, .bool true, .bool f6, .int .u16 f7, .int .i64 f8, .slice A n c] 81)).alloc (by rw [s1]; omega) (.cells #[.int .u16 f0, .slice B nB cB] 46)).alloc (by rw [s2]; omega) (.cells #[.int .u16 0, .int .i64 0, .int .i64 0, .int .i64 0, .int .i64 0, .bool false, .bool false, .int .u16 0, .int .i64 0, .slice none 0 0] 81)).alloc (by rw [s3]; omega) (.cells #[.int .u16 0, .slice none 0 0] 46))
  have BP0 : Hid (Blk ((((w.alloc (.cells #[.int .u16 f0, .int .i64 f1, .int .i64 f2, .int .i64 f3, .int .i64 f4, .bool true, .bool f6, .int .u16 f7, .int .i64 f8, .slice A n c] 81)).alloc (.cells #[.int .u16 f0, .slice B nB cB] 46)).alloc (.cells #[.int .u16 0, .int .i64 0, .int .i64 0, .int .i64 0, .int .i64 0, .bool false, .bool false, .int .u16 0, .int .i64 0, .slice none 0 0] 81)).alloc (.cells #[.int .u16 0, .slice none 0 0] 46)) w.heap.size 81 #[.int .u16 f0, .int .i64 f1, .int .i64 f2, .int .i64 f3, .int .i64 f4, .bool true, .bool f6, .int .u16 f7, .int .i64 f8, .slice A n c]) := Lib.hid ((((Blk.new w 81 #[.int .u16 f0, .int .i64 f1, .int .i64 f2, .int .i64 f3, .int .i64 f4, .bool true, .bool f6, .int .u16 f7, .int .i64 f8, .slice A n c]).alloc (.cells #[.int .u16 f0, .slice B nB cB] 46)).alloc (.cells #[.int .u16 0, .int .i64 0, .int .i64 0, .int .i64 0, .int .i64 0, .bool false, .bool false, .int .u16 0, .int .i64 0, .slice none 0 0] 81)).alloc (.cells #[.int .u16 0, .slice none 0 0] 46))
  have BT0 : Hid (Blk ((((w.alloc (.cells #[.int .u16 f0, .int .i64 f1, .int .i64 f2, .int .i64 f3, .int .i64 f4, .bool true, .bool f6, .int .u16 f7, .int .i64 f8, .slice A n c] 81)).alloc (.cells #[.int .u16 f0, .slice B nB cB] 46)).alloc (.cells #[.int .u16 0, .int .i64 0, .int .i64 0, .int .i64 0, .int .i64 0, .bool false, .bool false, .int .u16 0, .int .i64 0, .slice none 0 0] 81)).alloc (.cells #[.int .u16 0, .slice none 0 0] 46)) (w.heap.size + 1) 46 #[.int .u16 f0, .slice B nB cB]) := Lib.hid (((Blk.new_at' (w := (w.alloc (.cells #[.int .u16 f0, .int .i64 f1, .int .i64 f2, .int .i64 f3, .int .i64 f4, .bool true, .bool f6, .int .u16 f7, .int .i64 f8, .slice A n c] 81))) (t := 46) (cs := #[.int .u16 f0, .slice B nB cB]) s1.symm).alloc (.cells #[.int .u16 0, .int .i64 0, .int .i64 0, .int .i64 0, .int .i64 0, .bool false, .bool false, .int .u16 0, .int .i64 0, .slice none 0 0] 81)).alloc (.cells #[.int .u16 0, .slice none 0 0] 46))
  have BZ0 : Hid (Blk ((((w.alloc (.cells #[.int .u16 f0, .int .i64 f1, .int .i64 f2, .int .i64 f3, .int .i64 f4, .bool true, .bool f6, .int .u16 f7, .int .i64 f8, .slice A n c] 81)).alloc (.cells #[.int .u16 f0, .slice B nB cB] 46)).alloc (.cells #[.int .u16 0, .int .i64 0, .int .i64 0, .int .i64 0, .int .i64 0, .bool false, .bool false, .int .u16 0, .int .i64 0, .slice none 0 0] 81)).alloc (.cells #[.int .u16 0, .slice none 0 0] 46)) (w.heap.size + 1 + 1) 81 #[.int .u16 0, .int .i64 0, .int .i64 0, .int .i64 0, .int .i64 0, .bool false, .bool false, .int .u16 0, .int .i64 0, .slice none 0 0]) := Lib.hid ((Blk.new_at' (w := ((w.alloc (.cells #[.int .u16 f0, .int .i64 f1, .int .i64 f2, .int .i64 f3, .int .i64 f4, .bool true, .bool f6, .int .u16 f7, .int .i64 f8, .slice A n c] 81)).alloc (.cells #[.int .u16 f0, .slice B nB cB] 46))) (t := 81) (cs := #[.int .u16 0, .int .i64 0, .int .i64 0, .int .i64 0, .int .i64 0, .bool false, .bool false, .int .u16 0, .int .i64 0, .slice none 0 0]) s2.symm).alloc (.cells #[.int .u16 0, .slice none 0 0] 46))
  have BY0 : Hid (Blk ((((w.alloc (.cells #[.int .u16 f0, .int .i64 f1, .int .i64 f2, .int .i64 f3, .int .i64 f4, .bool true, .bool f6, .int .u16 f7, .int .i64 f8, .slice A n c] 81)).alloc (.cells #[.int .u16 f0, .slice B nB cB] 46)).alloc (.cells #[.int .u16 0, .int .i64 0, .int .i64 0, .int .i64 0, .int .i64 0, .bool false, .bool false, .int .u16 0, .int .i64 0, .slice none 0 0] 81)).alloc (.cells #[.int .u16 0, .slice none 0 0] 46)) (w.heap.size + 1 + 1 + 1) 46 #[.int .u16 0, .slice none 0 0]) := Lib.hid (Blk.new_at' (w := (((w.alloc (.cells #[.int .u16 f0, .int .i64 f1, .int .i64 f2, .int .i64 f3, .int .i64 f4, .bool true, .bool f6, .int .u16 f7, .int .i64 f8, .slice A n c] 81)).alloc (.cells #[.int .u16 f0, .slice B nB cB] 46)).alloc (.cells #[.int .u16 0, .int .i64 0, .int .i64 0, .int .i64 0, .int .i64 0, .bool false, .bool false, .int .u16 0, .int .i64 0, .slice none 0 0] 81))) (t := 46) (cs := #[.int .u16 0, .slice none 0 0]) s3.symm)
  have RM0 : Hid (ReadsM ((((w.alloc (.cells #[.int .u16 f0, .int .i64 f1, .int .i64 f2, .int .i64 f3, .int .i64 f4, .bool true, .bool f6, .int .u16 f7, .int .i64 f8, .slice A n c] 81)).alloc (.cells #[.int .u16 f0, .slice B nB cB] 46)).alloc (.cells #[.int .u16 0, .int .i64 0, .int .i64 0, .int .i64 0, .int .i64 0, .bool false, .bool false, .int .u16 0, .int .i64 0, .slice none 0 0] 81)).alloc (.cells #[.int .u16 0, .slice none 0 0] 46)) (fun b => S b ∧ b ≠ w.heap.size ∧ b ≠ w.heap.size + 1 ∧ b ≠ w.heap.size + 1 + 1 ∧ b ≠ w.heap.size + 1 + 1 + 1) B (Pl.listT F)) := Lib.hid ((HB.out.below (by omega) K0.out).imp (fun b hb => ⟨hb.1, by omega, by omega, by omega, by omega⟩))
  have RA0 : Hid (ReadsWt ((((w.alloc (.cells #[.int .u16 f0, .int .i64 f1, .int .i64 f2, .int .i64 f3, .int .i64 f4, .bool true, .bool f6, .int .u16 f7, .int .i64 f8, .slice A n c] 81)).alloc (.cells #[.int .u16 f0, .slice B nB cB] 46)).alloc (.cells #[.int .u16 0, .int .i64 0, .int .i64 0, .int .i64 0, .int .i64 0, .bool false, .bool false, .int .u16 0, .int .i64 0, .slice none 0 0] 81)).alloc (.cells #[.int .u16 0, .slice none 0 0] 46)) (fun b => S b ∧ b ≠ w.heap.size ∧ b ≠ w.heap.size + 1 ∧ b ≠ w.heap.size + 1 + 1 ∧ b ≠ w.heap.size + 1 + 1 + 1) A L) := Lib.hid ((HA.out.below (by omega) K0.out).imp (fun b hb => ⟨hb.1, by omega, by omega, by omega, by omega⟩))
  have hs4 : ((((w.alloc (.cells #[.int .u16 f0, .int .i64 f1, .int .i64 f2, .int .i64 f3, .int .i64 f4, .bool true, .bool f6, .int .u16 f7, .int .i64 f8, .slice A n c] 81)).alloc (.cells #[.int .u16 f0, .slice B nB cB] 46)).alloc (.cells #[.int .u16 0, .int .i64 0, .int .i64 0, .int .i64 0, .int .i64 0, .bool false, .bool false, .int .u16 0, .int .i64 0, .slice none 0 0] 81)).alloc (.cells #[.int .u16 0, .slice none 0 0] 46)).heap.size = w.heap.size + 1 + 1 + 1 + 1 := by rw [World.size_alloc, s3]
  clear s1 s2 s3
  go_enter Try.func67, Try.ntmps67
  go_upto_region 1 with fail
  generalize ((((w.alloc (.cells #[.int .u16 f0, .int .i64 f1, .int .i64 f2, .int .i64 f3, .int .i64 f4, .bool true, .bool f6, .int .u16 f7, .int .i64 f8, .slice A n c] 81)).alloc (.cells #[.int .u16 f0, .slice B nB cB] 46)).alloc (.cells #[.int .u16 0, .int .i64 0, .int .i64 0, .int .i64 0, .int .i64 0, .bool false, .bool false, .int .u16 0, .int .i64 0, .slice none 0 0] 81)).alloc (.cells #[.int .u16 0, .slice none 0 0] 46)) = w0 at *
  have hdd1 : decide (now - f8 ≥ f1) = true := by simp; omega
  have r0 := BP0.out.cell 0
  have r1 := BP0.out.cell 1
  have r2 := BP0.out.cell 2
  have r3 := BP0.out.cell 3
  have r4 := BP0.out.cell 4
  have r5 := BP0.out.cell 5
  have r6 := BP0.out.cell 6
  have r7 := BP0.out.cell 7
  have r8 := BP0.out.cell 8
  have r9 := BP0.out.cell 9
  have z0 := BZ0.out.cell 0
  have z1 := BZ0.out.cell 1
  have z2 := BZ0.out.cell 2
  have z3 := BZ0.out.cell 3
  have z4 := BZ0.out.cell 4
  have z5 := BZ0.out.cell 5
  have z6 := BZ0.out.cell 6
  have z7 := BZ0.out.cell 7
  have z8 := BZ0.out.cell 8
  have z9 := BZ0.out.cell 9
  have t0 := BT0.out.cell 0
  have t1 := BT0.out.cell 1
  have y0 := BY0.out.cell 0
  have y1 := BY0.out.cell 1
  have rf := BP0.out.frozen
  have tf := BT0.out.frozen
  have zf := BZ0.out.frozen
  have yf := BY0.out.frozen
  simp only [List.getElem?_toArray, List.getElem?_cons_zero, List.getElem?_cons_succ] at r0 z0 r1 z1 r2 z2 r3 z3 r4 z4 r5 z5 r6 z6 r7 z7 r8 z8 r9 z9 t0 t1 y0 y1
  have BP1 : Hid (Blk (w0.setCell ⟨w.heap.size, 5, none⟩ (.bool false)) w.heap.size 81 #[.int .u16 f0, .int .i64 f1, .int .i64 f2, .int .i64 f3, .int .i64 f4, .bool false, .bool f6, .int .u16 f7, .int .i64 f8, .slice A n c]) := by
    have h := BP0.out.set_ 5 (.bool false)
    simpa only [List.setIfInBounds_toArray, List.set_cons_succ, List.set_cons_zero] using Lib.hid h
  have BT1 := Lib.hid (BT0.out.far (p := ⟨w.heap.size, 5, none⟩) (by show w.heap.size + 1 ≠ w.heap.size; omega) (.bool false))
  have BZ1 := Lib.hid (BZ0.out.far (p := ⟨w.heap.size, 5, none⟩) (by show w.heap.size + 1 + 1 ≠ w.heap.size; omega) (.bool false))
  have BY1 := Lib.hid (BY0.out.far (p := ⟨w.heap.size, 5, none⟩) (by show w.heap.size + 1 + 1 + 1 ≠ w.heap.size; omega) (.bool false))
  have K1 := Lib.hid (K0.out.setCell (p := ⟨w.heap.size, 5, none⟩) (Nat.le_refl _) (.bool false))
  have RM1 := Lib.hid (ReadsM.set (p := ⟨w.heap.size, 5, none⟩) RM0.out (fun b hb => hb.2.1) (.bool false))
  have RA1 := Lib.hid (Reads.keep RA0.out (fun b hb => Below.heap_setCell w0 ⟨w.heap.size, 5, none⟩ (.bool false) b hb.2.1))
  have hs5 : (w0.setCell ⟨w.heap.size, 5, none⟩ (.bool false)).heap.size = w.heap.size + 1 + 1 + 1 + 1 := by simp only [World.setCell]; simpa using hs4
  have HGET := Lib.hid (refGet_any f0 f7 B cB (Pl.listT F) (w0.setCell ⟨w.heap.size, 5, none⟩ (.bool false)) (RM1.out.imp fun _ _ => trivial) (by have := listLen F; omega))
  have hfind := Pl.find_list HF.out f7 h7
  rw [hfind, hm, HNB.out] at HGET
  clear hfind
  go_wp2_with fail
  refine HGET.out.mono ?_
  rintro e w2 ⟨rfl, hb2⟩
  clear r0 z0 r1 z1 r2 z2 r3 z3 r4 z4 r5 z5 r6 z6 r7 z7 r8 z8 r9 z9 t0 t1 y0 y1 rf tf zf yf
  have K2 := Lib.hid (below_then K1.out K1.out.size hb2)
  have BP2 := Lib.hid (BP1.out.below hb2 BP1.out.lt)
  have BT2 := Lib.hid (BT1.out.below hb2 BT1.out.lt)
  have BZ2 := Lib.hid (BZ1.out.below hb2 BZ1.out.lt)
  have BY2 := Lib.hid (BY1.out.below hb2 BY1.out.lt)
  have RM2 := Lib.hid (Reads.below RM1.out (by omega) hb2)
  have RA2 := Lib.hid (Reads.below RA1.out (by omega) hb2)
  have hs6 := hb2.size
  rw [hs5] at hs6
  clear hb2 HGET
  simp only [getVal, mcells]
  obtain ⟨ha1, ha2, ha3, ha4, ha5, ha6⟩ := HF.out.at_ _ _ hm
  simp only at ha1 ha2 ha3 ha4 ha5 ha6
  obtain rfl : f7 = m0 := by omega
  clear ha2
  have BP3 := Lib.hid (BP2.out.alloc (.cells #[.int .u16 f7, .int .u8 m1, .int .i64 m2] 25))
  have BT3 := Lib.hid (BT2.out.alloc (.cells #[.int .u16 f7, .int .u8 m1, .int .i64 m2] 25))
  have BZ3 := Lib.hid (BZ2.out.alloc (.cells #[.int .u16 f7, .int .u8 m1, .int .i64 m2] 25))
  have BY3 := Lib.hid (BY2.out.alloc (.cells #[.int .u16 f7, .int .u8 m1, .int .i64 m2] 25))
  have r0 := BP3.out.cell 0
  have r1 := BP3.out.cell 1
  have r2 := BP3.out.cell 2
  have r3 := BP3.out.cell 3
  have r4 := BP3.out.cell 4
  have r5 := BP3.out.cell 5
  have r6 := BP3.out.cell 6
  have r7 := BP3.out.cell 7
  have r8 := BP3.out.cell 8
  have r9 := BP3.out.cell 9
  have z0 := BZ3.out.cell 0
  have z1 := BZ3.out.cell 1
  have z2 := BZ3.out.cell 2
  have z3 := BZ3.out.cell 3
  have z4 := BZ3.out.cell 4
  have z5 := BZ3.out.cell 5
  have z6 := BZ3.out.cell 6
  have z7 := BZ3.out.cell 7
  have z8 := BZ3.out.cell 8
  have z9 := BZ3.out.cell 9
  have t0 := BT3.out.cell 0
  have t1 := BT3.out.cell 1
  have y0 := BY3.out.cell 0
  have y1 := BY3.out.cell 1
  have rf := BP3.out.frozen
  have tf := BT3.out.frozen
  have zf := BZ3.out.frozen
  have yf := BY3.out.frozen
  simp only [List.getElem?_toArray, List.getElem?_cons_zero, List.getElem?_cons_succ] at r0 z0 r1 z1 r2 z2 r3 z3 r4 z4 r5 z5 r6 z6 r7 z7 r8 z8 r9 z9 t0 t1 y0 y1
  clear BP3 BT3 BZ3 BY3
  have BP3 := Lib.hid (BP2.out.alloc (.cells #[.int .u16 f7, .int .u8 1, .int .i64 m2] 25))
  have BT3 := Lib.hid (BT2.out.alloc (.cells #[.int .u16 f7, .int .u8 1, .int .i64 m2] 25))
  have BZ3 := Lib.hid (BZ2.out.alloc (.cells #[.int .u16 f7, .int .u8 1, .int .i64 m2] 25))
  have BY3 := Lib.hid (BY2.out.alloc (.cells #[.int .u16 f7, .int .u8 1, .int .i64 m2] 25))
  have t3 := BT3.out.cell 0
  have t4 := BT3.out.cell 1
  simp only [List.getElem?_toArray, List.getElem?_cons_zero, List.getElem?_cons_succ] at t3 t4
  have K3 := Lib.hid (K2.out.alloc K2.out.size (.cells #[.int .u16 f7, .int .u8 1, .int .i64 m2] 25))
  have RM3 := Lib.hid (ReadsM.alloc (Reads.there RM2.out (by omega)) (.cells #[.int .u16 f7, .int .u8 1, .int .i64 m2] 25))
  have RA3 : Hid (ReadsWt _ _ A L) := Lib.hid (Reads.below (Reads.there RA2.out (by omega)) (by omega) ((Below.refl _ w2).alloc (Nat.le_refl _) (.cells #[.int .u16 f7, .int .u8 1, .int .i64 m2] 25)))
  have BM3 := Lib.hid (Blk.new w2 25 #[.int .u16 f7, .int .u8 1, .int .i64 m2])
  have hne2 : w.heap.size + 1 ≠ w2.heap.size := by omega
  have hne3 : w.heap.size ≠ w2.heap.size := by omega
  have HHR := Lib.hid (refHear_any f0 F B cB ⟨f7, 1, m2⟩ (w2.alloc (.cells #[.int .u16 f7, .int .u8 1, .int .i64 m2] 25)) (fun b => ((S b ∧ b ≠ w.heap.size ∧ b ≠ w.heap.size + 1 ∧ b ≠ w.heap.size + 1 + 1 ∧ b ≠ w.heap.size + 1 + 1 + 1) ∧ b < w2.heap.size) ∨ (w2.alloc (.cells #[.int .u16 f7, .int .u8 1, .int .i64 m2] 25)).heap.size ≤ b) HF.out ⟨by simp only; omega, by simp only; omega, by simp only; omega, by simp only; omega, by simp only; omega, by simp only; omega⟩
    (RM3.out.imp fun b hb => .inl hb) (fun b hb => .inr hb))
  rw [HNB.out] at HHR
  go_wp2_with fail
  refine HHR.out.mono ?_
  rintro e w4 ⟨A4, c4, rfl, hr4, hb4⟩
  have SZ4 := hb4.size
  rw [World.size_alloc] at SZ4
  have K4 := Lib.hid (below_then K3.out K3.out.size hb4)
  have BP4 := Lib.hid (BP3.out.below hb4 BP3.out.lt)
  have BT4 := Lib.hid (BT3.out.below hb4 BT3.out.lt)
  have BZ4 := Lib.hid (BZ3.out.below hb4 BZ3.out.lt)
  have BY4 := Lib.hid (BY3.out.below hb4 BY3.out.lt)
  have BM4 := Lib.hid (BM3.out.below hb4 BM3.out.lt)
  have RA4 := Lib.hid (Reads.below RA3.out (by omega) hb4)
  have RM4 : Hid (ReadsM w4 (fun b => S b ∧ b ≠ w.heap.size ∧ b ≠ w.heap.size + 1 ∧ b ≠ w.heap.size + 1 + 1 ∧ b ≠ w.heap.size + 1 + 1 + 1 ∧ b ≠ w2.heap.size) A4 (Pl.listT (Pl.heard f0 F ⟨f7, 1, m2⟩))) := by
    refine Lib.hid (hr4.imp fun b hb => ?_)
    rw [World.size_alloc] at hb
    rcases hb with hb | hb
    · exact ⟨hb.1.1, hb.1.2.1, hb.1.2.2.1, hb.1.2.2.2.1, hb.1.2.2.2.2, by omega⟩
    · exact ⟨HS.out b (by omega), by omega, by omega, by omega, by omega, by omega⟩
  clear hr4 hb4 HHR t3 t4
  clear r0 z0 r1 z1 r2 z2 r3 z3 r4 z4 r5 z5 r6 z6 r7 z7 r8 z8 r9 z9 t0 t1 y0 y1 rf tf zf yf
  obtain ⟨y5, hy5, _⟩ := Pl.heard_rises (self := f0) (m := ⟨f7, 1, m2⟩) hm
  have HOK := Lib.hid (Pl.heard_ok HF.out (m := ⟨f7, 1, m2⟩) ⟨by simp only; omega, by simp only; omega, by simp only; omega, by simp only; omega, by simp only; omega, by simp only; omega⟩)
  obtain ⟨p0, p1, p2⟩ := y5
  have hp0 : p0 = f7 := by have := (HOK.out.at_ _ _ hy5).2.1; simp only at this; omega
  rw [hp0] at hy5
  have HYY := Lib.hid hy5
  clear hy5 hm hp0
  cases hhe : Pl.hear f0 F ⟨f7, 1, m2⟩ with
  | none =>
    have HHE := Lib.hid hhe
    clear hhe
    simp only [rheardVal, mcells, mzero]
    have BPq := Lib.hid ((BP4.out.alloc (.cells #[.int .u16 f0, .slice A4 (Pl.listT (Pl.heard f0 F ⟨f7, 1, m2⟩)).length c4] 46)).alloc (.cells #[.int .u16 0, .int .u8 0, .int .i64 0] 25))
    have BTq := Lib.hid ((BT4.out.alloc (.cells #[.int .u16 f0, .slice A4 (Pl.listT (Pl.heard f0 F ⟨f7, 1, m2⟩)).length c4] 46)).alloc (.cells #[.int .u16 0, .int .u8 0, .int .i64 0] 25))
    have BZq := Lib.hid ((BZ4.out.alloc (.cells #[.int .u16 f0, .slice A4 (Pl.listT (Pl.heard f0 F ⟨f7, 1, m2⟩)).length c4] 46)).alloc (.cells #[.int .u16 0, .int .u8 0, .int .i64 0] 25))
    have BYq := Lib.hid ((BY4.out.alloc (.cells #[.int .u16 f0, .slice A4 (Pl.listT (Pl.heard f0 F ⟨f7, 1, m2⟩)).length c4] 46)).alloc (.cells #[.int .u16 0, .int .u8 0, .int .i64 0] 25))
    have r0 := BPq.out.cell 0
    have r1 := BPq.out.cell 1
    have r2 := BPq.out.cell 2
    have r3 := BPq.out.cell 3
    have r4 := BPq.out.cell 4
    have r5 := BPq.out.cell 5
    have r6 := BPq.out.cell 6
    have r7 := BPq.out.cell 7
    have r8 := BPq.out.cell 8
    have r9 := BPq.out.cell 9
    have z0 := BZq.out.cell 0
    have z1 := BZq.out.cell 1
    have z2 := BZq.out.cell 2
    have z3 := BZq.out.cell 3
    have z4 := BZq.out.cell 4
    have z5 := BZq.out.cell 5
    have z6 := BZq.out.cell 6
    have z7 := BZq.out.cell 7
    have z8 := BZq.out.cell 8
    have z9 := BZq.out.cell 9
    have t0 := BTq.out.cell 0
    have t1 := BTq.out.cell 1
    have y0 := BYq.out.cell 0
    have y1 := BYq.out.cell 1
    have rf := BPq.out.frozen
    have tf := BTq.out.frozen
    have zf := BZq.out.frozen
    have yf := BYq.out.frozen
    simp only [List.getElem?_toArray, List.getElem?_cons_zero, List.getElem?_cons_succ] at r0 z0 r1 z1 r2 z2 r3 z3 r4 z4 r5 z5 r6 z6 r7 z7 r8 z8 r9 z9 t0 t1 y0 y1
    have K5 := Lib.hid ((((K4.out.alloc K4.out.size (.cells #[.int .u16 f0, .slice A4 (Pl.listT (Pl.heard f0 F ⟨f7, 1, m2⟩)).length c4] 46)).alloc (by rw [World.size_alloc]; have := K4.out.size; omega) (.cells #[.int .u16 0, .int .u8 0, .int .i64 0] 25)).setCell (p := ⟨w.heap.size + 1, 0, none⟩) (by show w.heap.size ≤ w.heap.size + 1; omega) (.int .u16 f0)).setCell (p := ⟨w.heap.size + 1, 1, none⟩) (by show w.heap.size ≤ w.heap.size + 1; omega) (.slice A4 (Pl.listT (Pl.heard f0 F ⟨f7, 1, m2⟩)).length c4))
    have BP5 := Lib.hid ((BPq.out.far (p := ⟨w.heap.size + 1, 0, none⟩) (by show w.heap.size ≠ w.heap.size + 1; omega) (.int .u16 f0)).far (p := ⟨w.heap.size + 1, 1, none⟩) (by show w.heap.size ≠ w.heap.size + 1; omega) (.slice A4 (Pl.listT (Pl.heard f0 F ⟨f7, 1, m2⟩)).length c4))
    have BZ5 := Lib.hid ((BZq.out.far (p := ⟨w.heap.size + 1, 0, none⟩) (by show w.heap.size + 1 + 1 ≠ w.heap.size + 1; omega) (.int .u16 f0)).far (p := ⟨w.heap.size + 1, 1, none⟩) (by show w.heap.size + 1 + 1 ≠ w.heap.size + 1; omega) (.slice A4 (Pl.listT (Pl.heard f0 F ⟨f7, 1, m2⟩)).length c4))
    have BY5 := Lib.hid ((BYq.out.far (p := ⟨w.heap.size + 1, 0, none⟩) (by show w.heap.size + 1 + 1 + 1 ≠ w.heap.size + 1; omega) (.int .u16 f0)).far (p := ⟨w.heap.size + 1, 1, none⟩) (by show w.heap.size + 1 + 1 + 1 ≠ w.heap.size + 1; omega) (.slice A4 (Pl.listT (Pl.heard f0 F ⟨f7, 1, m2⟩)).length c4))
    have BM5 := Lib.hid ((((BM4.out.alloc (.cells #[.int .u16 f0, .slice A4 (Pl.listT (Pl.heard f0 F ⟨f7, 1, m2⟩)).length c4] 46)).alloc (.cells #[.int .u16 0, .int .u8 0, .int .i64 0] 25)).far (p := ⟨w.heap.size + 1, 0, none⟩) (by show w2.heap.size ≠ w.heap.size + 1; omega) (.int .u16 f0)).far (p := ⟨w.heap.size + 1, 1, none⟩) (by show w2.heap.size ≠ w.heap.size + 1; omega) (.slice A4 (Pl.listT (Pl.heard f0 F ⟨f7, 1, m2⟩)).length c4))
    have BT5 := Lib.hid (Blk.mem2 BTq.out (.int .u16 f0) (.slice A4 (Pl.listT (Pl.heard f0 F ⟨f7, 1, m2⟩)).length c4))
    have RM5 := Lib.hid (ReadsM.set (p := ⟨w.heap.size + 1, 1, none⟩) (ReadsM.set (p := ⟨w.heap.size + 1, 0, none⟩) (ReadsM.alloc (ReadsM.alloc RM4.out (.cells #[.int .u16 f0, .slice A4 (Pl.listT (Pl.heard f0 F ⟨f7, 1, m2⟩)).length c4] 46)) (.cells #[.int .u16 0, .int .u8 0, .int .i64 0] 25)) (fun b hb => hb.2.2.1) (.int .u16 f0)) (fun b hb => hb.2.2.1) (.slice A4 (Pl.listT (Pl.heard f0 F ⟨f7, 1, m2⟩)).length c4))
    have G5 : Grow2 w4 ((((w4.alloc (.cells #[.int .u16 f0, .slice A4 (Pl.listT (Pl.heard f0 F ⟨f7, 1, m2⟩)).length c4] 46)).alloc (.cells #[.int .u16 0, .int .u8 0, .int .i64 0] 25)).setCell ⟨w.heap.size + 1, 0, none⟩ (.int .u16 f0)).setCell ⟨w.heap.size + 1, 1, none⟩ (.slice A4 (Pl.listT (Pl.heard f0 F ⟨f7, 1, m2⟩)).length c4)) (w.heap.size + 1) (w.heap.size + 1) := by
      (repeat (with_reducible first | exact Grow2.refl _ _ _ | refine Grow2.drew ?_ | refine Grow2.alloc ?_ _ | refine Grow2.setCell ?_ ?_ _)) <;> (first | done | exact .inl rfl | exact .inr (.inl rfl))
    have RA5 := Lib.hid ((Reads.there RA4.out (by omega)).keep (fun b hb => G5.block b hb.2 hb.1.1.2.2.1 hb.1.1.2.2.1) |>.imp fun b hb => hb.1)
    have e5 : ((((w4.alloc (.cells #[.int .u16 f0, .slice A4 (Pl.listT (Pl.heard f0 F ⟨f7, 1, m2⟩)).length c4] 46)).alloc (.cells #[.int .u16 0, .int .u8 0, .int .i64 0] 25)).setCell ⟨w.heap.size + 1, 0, none⟩ (.int .u16 f0)).setCell ⟨w.heap.size + 1, 1, none⟩ (.slice A4 (Pl.listT (Pl.heard f0 F ⟨f7, 1, m2⟩)).length c4)).heap.size = w4.heap.size + 1 + 1 := by simp [World.setCell]
    have hq5 := BP5.out.cell 7
    have hq6 := BT5.out.cell 0
    have hq7 := BT5.out.cell 1
    simp only [List.getElem?_toArray, List.getElem?_cons_zero, List.getElem?_cons_succ] at hq5 hq6 hq7
    have HG2 := Lib.hid (refGet_any f0 f7 A4 c4 (Pl.listT (Pl.heard f0 F ⟨f7, 1, m2⟩)) ((((w4.alloc (.cells #[.int .u16 f0, .slice A4 (Pl.listT (Pl.heard f0 F ⟨f7, 1, m2⟩)).length c4] 46)).alloc (.cells #[.int .u16 0, .int .u8 0, .int .i64 0] 25)).setCell ⟨w.heap.size + 1, 0, none⟩ (.int .u16 f0)).setCell ⟨w.heap.size + 1, 1, none⟩ (.slice A4 (Pl.listT (Pl.heard f0 F ⟨f7, 1, m2⟩)).length c4)) (RM5.out.imp fun _ _ => trivial) (by have := listLen (Pl.heard f0 F ⟨f7, 1, m2⟩); omega))
    have hfi := Pl.find_list HOK.out f7 h7
    rw [hfi, HYY.out] at HG2
    clear hfi
    have OV5 := Lib.hid (own_nil ((((w4.alloc (.cells #[.int .u16 f0, .slice A4 (Pl.listT (Pl.heard f0 F ⟨f7, 1, m2⟩)).length c4] 46)).alloc (.cells #[.int .u16 0, .int .u8 0, .int .i64 0] 25)).setCell ⟨w.heap.size + 1, 0, none⟩ (.int .u16 f0)).setCell ⟨w.heap.size + 1, 1, none⟩ (.slice A4 (Pl.listT (Pl.heard f0 F ⟨f7, 1, m2⟩)).length c4)) (w2.heap.size + 1) 25 3)
    clear BPq BTq BZq BYq
    go_wp2_with fail
    clear r0 z0 r1 z1 r2 z2 r3 z3 r4 z4 r5 z5 r6 z6 r7 z7 r8 z8 r9 z9 t0 t1 y0 y1 rf tf zf yf
    clear hq5 hq6 hq7
    refine HG2.out.mono ?_
    rintro e w7 ⟨rfl, hb7⟩
    simp only [getVal, mcells]
    have SZ7 := hb7.size
    have K7 := Lib.hid (below_then K5.out K5.out.size hb7)
    have BP7 := Lib.hid (BP5.out.below hb7 BP5.out.lt)
    have BT7 := Lib.hid (BT5.out.below hb7 BT5.out.lt)
    have BZ7 := Lib.hid (BZ5.out.below hb7 BZ5.out.lt)
    have BY7 := Lib.hid (BY5.out.below hb7 BY5.out.lt)
    have BM7 := Lib.hid (BM5.out.below hb7 BM5.out.lt)
    have RM7 := Lib.hid (Reads.below RM5.out (by omega) hb7)
    have RA7 := Lib.hid (Reads.below RA5.out (by omega) hb7)
    have OV7 := Lib.hid (own_below OV5.out hb7)
    have SW7 : w4.heap.size ≤ w7.heap.size := Nat.le_trans (by omega) SZ7
    clear hb7 HG2
    have r0 := BP7.out.cell 0
    have r1 := BP7.out.cell 1
    have r2 := BP7.out.cell 2
    have r3 := BP7.out.cell 3
    have r4 := BP7.out.cell 4
    have r5 := BP7.out.cell 5
    have r6 := BP7.out.cell 6
    have r7 := BP7.out.cell 7
    have r8 := BP7.out.cell 8
    have r9 := BP7.out.cell 9
    have z0 := BZ7.out.cell 0
    have z1 := BZ7.out.cell 1
    have z2 := BZ7.out.cell 2
    have z3 := BZ7.out.cell 3
    have z4 := BZ7.out.cell 4
    have z5 := BZ7.out.cell 5
    have z6 := BZ7.out.cell 6
    have z7 := BZ7.out.cell 7
    have z8 := BZ7.out.cell 8
    have z9 := BZ7.out.cell 9
    have t0 := BT7.out.cell 0
    have t1 := BT7.out.cell 1
    have y0 := BY7.out.cell 0
    have y1 := BY7.out.cell 1
    have rf := BP7.out.frozen
    have tf := BT7.out.frozen
    have zf := BZ7.out.frozen
    have yf := BY7.out.frozen
    simp only [List.getElem?_toArray, List.getElem?_cons_zero, List.getElem?_cons_succ] at r0 z0 r1 z1 r2 z2 r3 z3 r4 z4 r5 z5 r6 z6 r7 z7 r8 z8 r9 z9 t0 t1 y0 y1
    have m0_ := BM7.out.cell 0
    have m1_ := BM7.out.cell 1
    have m2_ := BM7.out.cell 2
    have mf_ := BM7.out.frozen
    simp only [List.getElem?_toArray, List.getElem?_cons_zero, List.getElem?_cons_succ] at m0_ m1_ m2_
    have G7 : Grow2 w7 (((w7.setCell ⟨w2.heap.size, 0, none⟩ (.int .u16 f7)).setCell ⟨w2.heap.size, 1, none⟩ (.int .u8 p1)).setCell ⟨w2.heap.size, 2, none⟩ (.int .i64 p2)) w2.heap.size w2.heap.size := by
      (repeat (with_reducible first | exact Grow2.refl _ _ _ | refine Grow2.drew ?_ | refine Grow2.alloc ?_ _ | refine Grow2.setCell ?_ ?_ _)) <;> (first | done | exact .inl rfl | exact .inr (.inl rfl))
    have BPh := Lib.hid (BP7.out.grow2 G7 (by omega) (by omega))
    have BTh := Lib.hid (BT7.out.grow2 G7 (by omega) (by omega))
    have BZh := Lib.hid (BZ7.out.grow2 G7 (by omega) (by omega))
    have BYh := Lib.hid (BY7.out.grow2 G7 (by omega) (by omega))
    have Kh := Lib.hid (K7.out.trans (below_of_grow2 G7 K7.out.size (by omega) (by omega)))
    have RMh := Lib.hid ((Reads.there RM7.out (by omega)).keep (fun b hb => G7.block b hb.2 hb.1.2.2.2.2.2 hb.1.2.2.2.2.2))
    have RAh := Lib.hid ((Reads.there RA7.out (by omega)).keep (fun b hb => G7.block b hb.2 (by have := hb.1.2; omega) (by have := hb.1.2; omega)))
    have OVh := Lib.hid (own_grow2 OV7.out G7 (fun e => by have := own_base OV7.out _ e; omega) (fun e => by have := own_base OV7.out _ e; omega))
    have eh : (((w7.setCell ⟨w2.heap.size, 0, none⟩ (.int .u16 f7)).setCell ⟨w2.heap.size, 1, none⟩ (.int .u8 p1)).setCell ⟨w2.heap.size, 2, none⟩ (.int .i64 p2)).heap.size = w7.heap.size := by simp [World.setCell]
    have HWT : Hid (Calls Try.prog 59 #[.agg #[.int .u16 f0, .int .i64 f1, .int .i64 f2, .int .i64 f3, .int .i64 f4, .bool false, .bool f6, .int .u16 f7, .int .i64 f8, .slice A L.length c], .agg #[.int .u16 f7, .int .u8 p1, .int .i64 p2], .int .i64 now] (((w7.setCell ⟨w2.heap.size, 0, none⟩ (.int .u16 f7)).setCell ⟨w2.heap.size, 1, none⟩ (.int .u8 p1)).setCell ⟨w2.heap.size, 2, none⟩ (.int .i64 p2)) fun e w' => (∃ A' c', e = .returned (.agg #[.int .u16 f0, .int .i64 f1, .int .i64 f2, .int .i64 f3, .int .i64 f4, .bool false, .bool f6, .int .u16 f7, .int .i64 f8, .slice A' (Pl.rwatch ⟨f0, f1, f2, f3, f4, false, f6, f7, f8, L⟩ ⟨f7, p1, p2⟩ now).w.length c']) ∧ ReadsWt w' (fun b => S b ∧ b ≠ w.heap.size ∧ b ≠ w.heap.size + 1 ∧ b ≠ w.heap.size + 1 + 1 ∧ b ≠ w.heap.size + 1 + 1 + 1) A' (Pl.rwatch ⟨f0, f1, f2, f3, f4, false, f6, f7, f8, L⟩ ⟨f7, p1, p2⟩ now).w) ∧ Below (((w7.setCell ⟨w2.heap.size, 0, none⟩ (.int .u16 f7)).setCell ⟨w2.heap.size, 1, none⟩ (.int .u8 p1)).setCell ⟨w2.heap.size, 2, none⟩ (.int .i64 p2)).heap.size (((w7.setCell ⟨w2.heap.size, 0, none⟩ (.int .u16 f7)).setCell ⟨w2.heap.size, 1, none⟩ (.int .u8 p1)).setCell ⟨w2.heap.size, 2, none⟩ (.int .i64 p2)) w') := Lib.hid ((refWatch_any ⟨f0, f1, f2, f3, f4, false, f6, f7, f8, L⟩ A c ⟨f7, p1, p2⟩ now (((w7.setCell ⟨w2.heap.size, 0, none⟩ (.int .u16 f7)).setCell ⟨w2.heap.size, 1, none⟩ (.int .u8 p1)).setCell ⟨w2.heap.size, 2, none⟩ (.int .i64 p2)) (fun b => S b ∧ b ≠ w.heap.size ∧ b ≠ w.heap.size + 1 ∧ b ≠ w.heap.size + 1 + 1 ∧ b ≠ w.heap.size + 1 + 1 + 1) hlen (RAh.out.imp (fun b hb => ⟨hb.1.1, by rw [eh]; exact hb.2⟩)) (fun b hb => ⟨HS.out b (by omega), by omega, by omega, by omega, by omega⟩)).mono fun e w' ⟨⟨A', c', he, hr⟩, hb⟩ => ⟨⟨A', c', by rw [he, rpc_rwatch]; rfl, hr⟩, hb⟩)
    rw [HN.out] at HWT
    go_wp2_with fail
    refine HWT.out.mono ?_
    rintro e w8 ⟨⟨A8, c8, rfl, hr8⟩, hb8⟩
    have SZ8 := hb8.size
    rw [eh] at SZ8
    have BP8 := Lib.hid (BPh.out.below hb8 BPh.out.lt)
    have BT8 := Lib.hid (BTh.out.below hb8 BTh.out.lt)
    have BZ8 := Lib.hid (BZh.out.below hb8 BZh.out.lt)
    have BY8 := Lib.hid (BYh.out.below hb8 BYh.out.lt)
    have K8 := Lib.hid (below_then Kh.out Kh.out.size hb8)
    have RM8 := Lib.hid (Reads.below RMh.out (by omega) hb8)
    have RA8 := Lib.hid hr8
    have OV8 := Lib.hid (own_below OVh.out hb8)
    clear hb8 hr8 m0_ m1_ m2_ mf_
    clear r0 z0 r1 z1 r2 z2 r3 z3 r4 z4 r5 z5 r6 z6 r7 z7 r8 z8 r9 z9 t0 t1 y0 y1 rf tf zf yf
    have r0 := BP8.out.cell 0
    have r1 := BP8.out.cell 1
    have r2 := BP8.out.cell 2
    have r3 := BP8.out.cell 3
    have r4 := BP8.out.cell 4
    have r5 := BP8.out.cell 5
    have r6 := BP8.out.cell 6
    have r7 := BP8.out.cell 7
    have r8 := BP8.out.cell 8
    have r9 := BP8.out.cell 9
    have z0 := BZ8.out.cell 0
    have z1 := BZ8.out.cell 1
    have z2 := BZ8.out.cell 2
    have z3 := BZ8.out.cell 3
    have z4 := BZ8.out.cell 4
    have z5 := BZ8.out.cell 5
    have z6 := BZ8.out.cell 6
    have z7 := BZ8.out.cell 7
    have z8 := BZ8.out.cell 8
    have z9 := BZ8.out.cell 9
    have t0 := BT8.out.cell 0
    have t1 := BT8.out.cell 1
    have y0 := BY8.out.cell 0
    have y1 := BY8.out.cell 1
    have rf := BP8.out.frozen
    have tf := BT8.out.frozen
    have zf := BZ8.out.frozen
    have yf := BY8.out.frozen
    simp only [List.getElem?_toArray, List.getElem?_cons_zero, List.getElem?_cons_succ] at r0 z0 r1 z1 r2 z2 r3 z3 r4 z4 r5 z5 r6 z6 r7 z7 r8 z8 r9 z9 t0 t1 y0 y1
    go_wp2_with fail
    obtain ⟨w9, hw9⟩ : ∃ x, x = ((((((((((w8.setCell ⟨w.heap.size, 0, none⟩ (.int .u16 f0)).setCell ⟨w.heap.size, 1, none⟩ (.int .i64 f1)).setCell ⟨w.heap.size, 2, none⟩ (.int .i64 f2)).setCell ⟨w.heap.size, 3, none⟩ (.int .i64 f3)).setCell ⟨w.heap.size, 4, none⟩ (.int .i64 f4)).setCell ⟨w.heap.size, 5, none⟩ (.bool false)).setCell ⟨w.heap.size, 6, none⟩ (.bool f6)).setCell ⟨w.heap.size, 7, none⟩ (.int .u16 f7)).setCell ⟨w.heap.size, 8, none⟩ (.int .i64 f8)).setCell ⟨w.heap.size, 9, none⟩ (.slice A8 (Pl.rwatch ⟨f0, f1, f2, f3, f4, false, f6, f7, f8, L⟩ ⟨f7, p1, p2⟩ now).w.length c8)) := ⟨_, rfl⟩
    rw [← hw9]
    have BP9 : Hid (Blk w9 w.heap.size 81 #[.int .u16 f0, .int .i64 f1, .int .i64 f2, .int .i64 f3, .int .i64 f4, .bool false, .bool f6, .int .u16 f7, .int .i64 f8, .slice A8 (Pl.rwatch ⟨f0, f1, f2, f3, f4, false, f6, f7, f8, L⟩ ⟨f7, p1, p2⟩ now).w.length c8]) := by
      rw [hw9]
      exact Lib.hid (Blk.mem10 BP8.out _ _ _ _ _ _ _ _ _ _)
    have G9 : Grow2 w8 w9 w.heap.size w.heap.size := by
      rw [hw9]
      (repeat (with_reducible first | exact Grow2.refl _ _ _ | refine Grow2.drew ?_ | refine Grow2.alloc ?_ _ | refine Grow2.setCell ?_ ?_ _)) <;> (first | done | exact .inl rfl | exact .inr (.inl rfl))
    have e9 : w9.heap.size = w8.heap.size := by rw [hw9]; simp [World.setCell]
    clear hw9
    clear r0 z0 r1 z1 r2 z2 r3 z3 r4 z4 r5 z5 r6 z6 r7 z7 r8 z8 r9 z9 t0 t1 y0 y1 rf tf zf yf
    have BT9 := Lib.hid (BT8.out.grow2 G9 (by omega) (by omega))
    have BZ9 := Lib.hid (BZ8.out.grow2 G9 (by omega) (by omega))
    have BY9 := Lib.hid (BY8.out.grow2 G9 (by omega) (by omega))
    have K9 := Lib.hid (K8.out.trans (below_of_grow2 G9 K8.out.size (Nat.le_refl _) (Nat.le_refl _)))
    have RM9 := Lib.hid ((Reads.there RM8.out (by omega)).keep (fun b hb => G9.block b hb.2 hb.1.1.2.1 hb.1.1.2.1))
    have RA9 := Lib.hid ((Reads.there RA8.out (by omega)).keep (fun b hb => G9.block b hb.2 hb.1.2.1 hb.1.2.1))
    have OV9 := Lib.hid (own_grow2 OV8.out G9 (fun e => by have := own_base OV8.out _ e; omega) (fun e => by have := own_base OV8.out _ e; omega))
    have r0 := BP9.out.cell 0
    have r1 := BP9.out.cell 1
    have r2 := BP9.out.cell 2
    have r3 := BP9.out.cell 3
    have r4 := BP9.out.cell 4
    have r5 := BP9.out.cell 5
    have r6 := BP9.out.cell 6
    have r7 := BP9.out.cell 7
    have r8 := BP9.out.cell 8
    have r9 := BP9.out.cell 9
    have z0 := BZ9.out.cell 0
    have z1 := BZ9.out.cell 1
    have z2 := BZ9.out.cell 2
    have z3 := BZ9.out.cell 3
    have z4 := BZ9.out.cell 4
    have z5 := BZ9.out.cell 5
    have z6 := BZ9.out.cell 6
    have z7 := BZ9.out.cell 7
    have z8 := BZ9.out.cell 8
    have z9 := BZ9.out.cell 9
    have t0 := BT9.out.cell 0
    have t1 := BT9.out.cell 1
    have y0 := BY9.out.cell 0
    have y1 := BY9.out.cell 1
    have rf := BP9.out.frozen
    have tf := BT9.out.frozen
    have zf := BZ9.out.frozen
    have yf := BY9.out.frozen
    simp only [List.getElem?_toArray, List.getElem?_cons_zero, List.getElem?_cons_succ] at r0 z0 r1 z1 r2 z2 r3 z3 r4 z4 r5 z5 r6 z6 r7 z7 r8 z8 r9 z9 t0 t1 y0 y1
    go_region
    go_wp2
    refine open_ret (g2 := w.heap.size + 1 + 1) (g3 := w.heap.size + 1 + 1 + 1) rfl rfl rfl rfl rfl (x0 := .int .u16 f0) (x1 := .int .i64 f1) (x2 := .int .i64 f2) (x3 := .int .i64 f3) (x4 := .int .i64 f4) (x5 := .bool false) (x6 := .bool f6) (x7 := .int .u16 f7) (x8 := .int .i64 f8) (x9 := .slice A8 (Pl.rwatch ⟨f0, f1, f2, f3, f4, false, f6, f7, f8, L⟩ ⟨f7, p1, p2⟩ now).w.length c8) (z0 := .int .u16 f0) (z1 := .slice A4 (Pl.listT (Pl.heard f0 F ⟨f7, 1, m2⟩)).length c4) ?_ ?_ ?_
    · (repeat (with_reducible first | exact BZ9.out | refine Blk.drew ?_ | apply Blk.mem10 | refine Blk.alloc ?_ _ | refine Blk.far ?_ ?_ _)) <;> (first | done | (dsimp only; omega))
    · (repeat (with_reducible first | exact BY9.out | refine Blk.drew ?_ | apply Blk.mem2 | refine Blk.alloc ?_ _ | refine Blk.far ?_ ?_ _)) <;> (first | done | (dsimp only; omega))
    · have KEY : ∀ W : World, Grow2 w9 W (w.heap.size + 1 + 1) (w.heap.size + 1 + 1 + 1) → OpEnd w S f0 (Pl.rwatch ⟨f0, f1, f2, f3, f4, false, f6, f7, f8, L⟩ (((Pl.heard f0 F ⟨f7, 1, m2⟩) f7.toNat).getD ⟨0, 0, 0⟩) now, Pl.heard f0 F ⟨f7, 1, m2⟩, [], (Pl.hear f0 F ⟨f7, 1, m2⟩).toList) (.returned (.tuple #[.agg #[.int .u16 f0, .int .i64 f1, .int .i64 f2, .int .i64 f3, .int .i64 f4, .bool false, .bool f6, .int .u16 f7, .int .i64 f8, .slice A8 (Pl.rwatch ⟨f0, f1, f2, f3, f4, false, f6, f7, f8, L⟩ ⟨f7, p1, p2⟩ now).w.length c8], .agg #[.int .u16 f0, .slice A4 (Pl.listT (Pl.heard f0 F ⟨f7, 1, m2⟩)).length c4], .slice none 0 0, .slice none 0 0])) W := by
        intro W G
        rw [HYY.out, Option.getD_some, HHE.out]
        exact ⟨⟨A8, c8, A4, c4, _, _, (by rw [rpc_rwatch]; rfl), ((Reads.there RA9.out (by omega)).keep (fun b hb => G.block b hb.2 hb.1.1.2.2.2.1 hb.1.1.2.2.2.2)).imp (fun b hb => ⟨hb.1.1.1, by simp [Value.ownBlock]⟩), ((Reads.there RM9.out (by omega)).keep (fun b hb => G.block b hb.2 hb.1.1.1.2.2.2.1 hb.1.1.1.2.2.2.2.1)).imp (fun b hb => ⟨hb.1.1.1.1, by simp [Value.ownBlock]⟩), own_nil _ _ _ _, own_lower (own_grow2 OV9.out G (fun e => by have := own_base OV9.out _ e; omega) (fun e => by have := own_base OV9.out _ e; omega)) (by omega)⟩, K9.out.trans (below_of_grow2 G K9.out.size (by omega) (by omega))⟩
      refine KEY _ ?_
      (repeat (with_reducible first | exact Grow2.refl _ _ _ | refine Grow2.drew ?_ | refine Grow2.alloc ?_ _ | refine Grow2.setCell ?_ ?_ _)) <;> (first | done | exact .inl rfl | exact .inr (.inl rfl))
  | some y =>
    obtain ⟨v0, v1, v2⟩ := y
    have HHE := Lib.hid hhe
    clear hhe
    simp only [rheardVal, mcells]
    have BPq := Lib.hid ((BP4.out.alloc (.cells #[.int .u16 f0, .slice A4 (Pl.listT (Pl.heard f0 F ⟨f7, 1, m2⟩)).length c4] 46)).alloc (.cells #[.int .u16 v0, .int .u8 v1, .int .i64 v2] 25))
    have BTq := Lib.hid ((BT4.out.alloc (.cells #[.int .u16 f0, .slice A4 (Pl.listT (Pl.heard f0 F ⟨f7, 1, m2⟩)).length c4] 46)).alloc (.cells #[.int .u16 v0, .int .u8 v1, .int .i64 v2] 25))
    have BZq := Lib.hid ((BZ4.out.alloc (.cells #[.int .u16 f0, .slice A4 (Pl.listT (Pl.heard f0 F ⟨f7, 1, m2⟩)).length c4] 46)).alloc (.cells #[.int .u16 v0, .int .u8 v1, .int .i64 v2] 25))
    have BYq := Lib.hid ((BY4.out.alloc (.cells #[.int .u16 f0, .slice A4 (Pl.listT (Pl.heard f0 F ⟨f7, 1, m2⟩)).length c4] 46)).alloc (.cells #[.int .u16 v0, .int .u8 v1, .int .i64 v2] 25))
    have r0 := BPq.out.cell 0
    have r1 := BPq.out.cell 1
    have r2 := BPq.out.cell 2
    have r3 := BPq.out.cell 3
    have r4 := BPq.out.cell 4
    have r5 := BPq.out.cell 5
    have r6 := BPq.out.cell 6
    have r7 := BPq.out.cell 7
    have r8 := BPq.out.cell 8
    have r9 := BPq.out.cell 9
    have z0 := BZq.out.cell 0
    have z1 := BZq.out.cell 1
    have z2 := BZq.out.cell 2
    have z3 := BZq.out.cell 3
    have z4 := BZq.out.cell 4
    have z5 := BZq.out.cell 5
    have z6 := BZq.out.cell 6
    have z7 := BZq.out.cell 7
    have z8 := BZq.out.cell 8
    have z9 := BZq.out.cell 9
    have t0 := BTq.out.cell 0
    have t1 := BTq.out.cell 1
    have y0 := BYq.out.cell 0
    have y1 := BYq.out.cell 1
    have rf := BPq.out.frozen
    have tf := BTq.out.frozen
    have zf := BZq.out.frozen
    have yf := BYq.out.frozen
    simp only [List.getElem?_toArray, List.getElem?_cons_zero, List.getElem?_cons_succ] at r0 z0 r1 z1 r2 z2 r3 z3 r4 z4 r5 z5 r6 z6 r7 z7 r8 z8 r9 z9 t0 t1 y0 y1
    have K5 := Lib.hid ((((K4.out.alloc K4.out.size (.cells #[.int .u16 f0, .slice A4 (Pl.listT (Pl.heard f0 F ⟨f7, 1, m2⟩)).length c4] 46)).alloc (by rw [World.size_alloc]; have := K4.out.size; omega) (.cells #[.int .u16 v0, .int .u8 v1, .int .i64 v2] 25)).setCell (p := ⟨w.heap.size + 1, 0, none⟩) (by show w.heap.size ≤ w.heap.size + 1; omega) (.int .u16 f0)).setCell (p := ⟨w.heap.size + 1, 1, none⟩) (by show w.heap.size ≤ w.heap.size + 1; omega) (.slice A4 (Pl.listT (Pl.heard f0 F ⟨f7, 1, m2⟩)).length c4))
    have BP5 := Lib.hid ((BPq.out.far (p := ⟨w.heap.size + 1, 0, none⟩) (by show w.heap.size ≠ w.heap.size + 1; omega) (.int .u16 f0)).far (p := ⟨w.heap.size + 1, 1, none⟩) (by show w.heap.size ≠ w.heap.size + 1; omega) (.slice A4 (Pl.listT (Pl.heard f0 F ⟨f7, 1, m2⟩)).length c4))
    have BZ5 := Lib.hid ((BZq.out.far (p := ⟨w.heap.size + 1, 0, none⟩) (by show w.heap.size + 1 + 1 ≠ w.heap.size + 1; omega) (.int .u16 f0)).far (p := ⟨w.heap.size + 1, 1, none⟩) (by show w.heap.size + 1 + 1 ≠ w.heap.size + 1; omega) (.slice A4 (Pl.listT (Pl.heard f0 F ⟨f7, 1, m2⟩)).length c4))
    have BY5 := Lib.hid ((BYq.out.far (p := ⟨w.heap.size + 1, 0, none⟩) (by show w.heap.size + 1 + 1 + 1 ≠ w.heap.size + 1; omega) (.int .u16 f0)).far (p := ⟨w.heap.size + 1, 1, none⟩) (by show w.heap.size + 1 + 1 + 1 ≠ w.heap.size + 1; omega) (.slice A4 (Pl.listT (Pl.heard f0 F ⟨f7, 1, m2⟩)).length c4))
    have BM5 := Lib.hid ((((BM4.out.alloc (.cells #[.int .u16 f0, .slice A4 (Pl.listT (Pl.heard f0 F ⟨f7, 1, m2⟩)).length c4] 46)).alloc (.cells #[.int .u16 v0, .int .u8 v1, .int .i64 v2] 25)).far (p := ⟨w.heap.size + 1, 0, none⟩) (by show w2.heap.size ≠ w.heap.size + 1; omega) (.int .u16 f0)).far (p := ⟨w.heap.size + 1, 1, none⟩) (by show w2.heap.size ≠ w.heap.size + 1; omega) (.slice A4 (Pl.listT (Pl.heard f0 F ⟨f7, 1, m2⟩)).length c4))
    have BT5 := Lib.hid (Blk.mem2 BTq.out (.int .u16 f0) (.slice A4 (Pl.listT (Pl.heard f0 F ⟨f7, 1, m2⟩)).length c4))
    have RM5 := Lib.hid (ReadsM.set (p := ⟨w.heap.size + 1, 1, none⟩) (ReadsM.set (p := ⟨w.heap.size + 1, 0, none⟩) (ReadsM.alloc (ReadsM.alloc RM4.out (.cells #[.int .u16 f0, .slice A4 (Pl.listT (Pl.heard f0 F ⟨f7, 1, m2⟩)).length c4] 46)) (.cells #[.int .u16 v0, .int .u8 v1, .int .i64 v2] 25)) (fun b hb => hb.2.2.1) (.int .u16 f0)) (fun b hb => hb.2.2.1) (.slice A4 (Pl.listT (Pl.heard f0 F ⟨f7, 1, m2⟩)).length c4))
    have G5 : Grow2 w4 ((((w4.alloc (.cells #[.int .u16 f0, .slice A4 (Pl.listT (Pl.heard f0 F ⟨f7, 1, m2⟩)).length c4] 46)).alloc (.cells #[.int .u16 v0, .int .u8 v1, .int .i64 v2] 25)).setCell ⟨w.heap.size + 1, 0, none⟩ (.int .u16 f0)).setCell ⟨w.heap.size + 1, 1, none⟩ (.slice A4 (Pl.listT (Pl.heard f0 F ⟨f7, 1, m2⟩)).length c4)) (w.heap.size + 1) (w.heap.size + 1) := by
      (repeat (with_reducible first | exact Grow2.refl _ _ _ | refine Grow2.drew ?_ | refine Grow2.alloc ?_ _ | refine Grow2.setCell ?_ ?_ _)) <;> (first | done | exact .inl rfl | exact .inr (.inl rfl))
    have RA5 := Lib.hid ((Reads.there RA4.out (by omega)).keep (fun b hb => G5.block b hb.2 hb.1.1.2.2.1 hb.1.1.2.2.1) |>.imp fun b hb => hb.1)
    have e5 : ((((w4.alloc (.cells #[.int .u16 f0, .slice A4 (Pl.listT (Pl.heard f0 F ⟨f7, 1, m2⟩)).length c4] 46)).alloc (.cells #[.int .u16 v0, .int .u8 v1, .int .i64 v2] 25)).setCell ⟨w.heap.size + 1, 0, none⟩ (.int .u16 f0)).setCell ⟨w.heap.size + 1, 1, none⟩ (.slice A4 (Pl.listT (Pl.heard f0 F ⟨f7, 1, m2⟩)).length c4)).heap.size = w4.heap.size + 1 + 1 := by simp [World.setCell]
    have hq5 := BP5.out.cell 7
    have hq6 := BT5.out.cell 0
    have hq7 := BT5.out.cell 1
    simp only [List.getElem?_toArray, List.getElem?_cons_zero, List.getElem?_cons_succ] at hq5 hq6 hq7
    have OV5 := Lib.hid (own_nil ((((w4.alloc (.cells #[.int .u16 f0, .slice A4 (Pl.listT (Pl.heard f0 F ⟨f7, 1, m2⟩)).length c4] 46)).alloc (.cells #[.int .u16 v0, .int .u8 v1, .int .i64 v2] 25)).setCell ⟨w.heap.size + 1, 0, none⟩ (.int .u16 f0)).setCell ⟨w.heap.size + 1, 1, none⟩ (.slice A4 (Pl.listT (Pl.heard f0 F ⟨f7, 1, m2⟩)).length c4)) (w2.heap.size + 1) 25 3)
    clear BPq BTq BZq BYq
    go_wp2_with (
      (at_builtin
       refine app_row (w2.heap.size + 1) rfl (.tmp 52) (.tmp 54) 36 25 _ 3 16 rfl Try.underlying36 member_info rfl (by omega) _ 0 [] #[.int .u16 v0, .int .u8 v1, .int .i64 v2] rfl _ rfl (by simp) (by simp [Value.oneCell']) rfl OV5.out (by rw [e5]; omega) (by omega) (by omega) ?_
       intro v6 w6 hO hG0 hat
       have hG : World.grownBy _ w6 (none : Option Nat) := hG0
       clear hG0
       have SZ6 := hG.size
       rw [e5] at SZ6
       have OV6 : Hid (w6.ownsRow (w2.heap.size + 1) 25 3 v6 [(⟨v0, v1, v2⟩ : Pl.M)].length (rows [(⟨v0, v1, v2⟩ : Pl.M)])) := Lib.hid hO
       have K6 := Lib.hid (K5.out.trans (below_of_grown (B := w.heap.size) K5.out.size hG (fun q e => by cases e)))
       have BP6 := Lib.hid (BP5.out.grown hG (by simp))
       have BT6 := Lib.hid (BT5.out.grown hG (by simp))
       have BZ6 := Lib.hid (BZ5.out.grown hG (by simp))
       have BY6 := Lib.hid (BY5.out.grown hG (by simp))
       have BM6 := Lib.hid (BM5.out.grown hG (by simp))
       have RM6 := Lib.hid (Reads.grown RM5.out (by omega) hG (fun b hb e => by cases e))
       have RA6 := Lib.hid (Reads.grown RA5.out (by omega) hG (fun b hb e => by cases e))
       have HG2 := Lib.hid (refGet_any f0 f7 A4 c4 (Pl.listT (Pl.heard f0 F ⟨f7, 1, m2⟩)) w6 (RM6.out.imp fun _ _ => trivial) (by have := listLen (Pl.heard f0 F ⟨f7, 1, m2⟩); omega))
       have hfi := Pl.find_list HOK.out f7 h7
       rw [hfi, HYY.out] at HG2
       clear hfi
       clear hO hG hat
       clear r0 z0 r1 z1 r2 z2 r3 z3 r4 z4 r5 z5 r6 z6 r7 z7 r8 z8 r9 z9 t0 t1 y0 y1 rf tf zf yf
       clear hq5 hq6 hq7
       have hq5 := BP6.out.cell 7
       have hq6 := BT6.out.cell 0
       have hq7 := BT6.out.cell 1
       simp only [List.getElem?_toArray, List.getElem?_cons_zero, List.getElem?_cons_succ] at hq5 hq6 hq7))
    clear hq5 hq6 hq7
    refine HG2.out.mono ?_
    rintro e w7 ⟨rfl, hb7⟩
    simp only [getVal, mcells]
    have SZ7 := hb7.size
    have K7 := Lib.hid (below_then K6.out K6.out.size hb7)
    have BP7 := Lib.hid (BP6.out.below hb7 BP6.out.lt)
    have BT7 := Lib.hid (BT6.out.below hb7 BT6.out.lt)
    have BZ7 := Lib.hid (BZ6.out.below hb7 BZ6.out.lt)
    have BY7 := Lib.hid (BY6.out.below hb7 BY6.out.lt)
    have BM7 := Lib.hid (BM6.out.below hb7 BM6.out.lt)
    have RM7 := Lib.hid (Reads.below RM6.out (by omega) hb7)
    have RA7 := Lib.hid (Reads.below RA6.out (by omega) hb7)
    have OV7 := Lib.hid (own_below OV6.out hb7)
    have SW7 : w4.heap.size ≤ w7.heap.size := Nat.le_trans (by omega) SZ7
    clear hb7 HG2
    have r0 := BP7.out.cell 0
    have r1 := BP7.out.cell 1
    have r2 := BP7.out.cell 2
    have r3 := BP7.out.cell 3
    have r4 := BP7.out.cell 4
    have r5 := BP7.out.cell 5
    have r6 := BP7.out.cell 6
    have r7 := BP7.out.cell 7
    have r8 := BP7.out.cell 8
    have r9 := BP7.out.cell 9
    have z0 := BZ7.out.cell 0
    have z1 := BZ7.out.cell 1
    have z2 := BZ7.out.cell 2
    have z3 := BZ7.out.cell 3
    have z4 := BZ7.out.cell 4
    have z5 := BZ7.out.cell 5
    have z6 := BZ7.out.cell 6
    have z7 := BZ7.out.cell 7
    have z8 := BZ7.out.cell 8
    have z9 := BZ7.out.cell 9
    have t0 := BT7.out.cell 0
    have t1 := BT7.out.cell 1
    have y0 := BY7.out.cell 0
    have y1 := BY7.out.cell 1
    have rf := BP7.out.frozen
    have tf := BT7.out.frozen
    have zf := BZ7.out.frozen
    have yf := BY7.out.frozen
    simp only [List.getElem?_toArray, List.getElem?_cons_zero, List.getElem?_cons_succ] at r0 z0 r1 z1 r2 z2 r3 z3 r4 z4 r5 z5 r6 z6 r7 z7 r8 z8 r9 z9 t0 t1 y0 y1
    have m0_ := BM7.out.cell 0
    have m1_ := BM7.out.cell 1
    have m2_ := BM7.out.cell 2
    have mf_ := BM7.out.frozen
    simp only [List.getElem?_toArray, List.getElem?_cons_zero, List.getElem?_cons_succ] at m0_ m1_ m2_
    have G7 : Grow2 w7 (((w7.setCell ⟨w2.heap.size, 0, none⟩ (.int .u16 f7)).setCell ⟨w2.heap.size, 1, none⟩ (.int .u8 p1)).setCell ⟨w2.heap.size, 2, none⟩ (.int .i64 p2)) w2.heap.size w2.heap.size := by
      (repeat (with_reducible first | exact Grow2.refl _ _ _ | refine Grow2.drew ?_ | refine Grow2.alloc ?_ _ | refine Grow2.setCell ?_ ?_ _)) <;> (first | done | exact .inl rfl | exact .inr (.inl rfl))
    have BPh := Lib.hid (BP7.out.grow2 G7 (by omega) (by omega))
    have BTh := Lib.hid (BT7.out.grow2 G7 (by omega) (by omega))
    have BZh := Lib.hid (BZ7.out.grow2 G7 (by omega) (by omega))
    have BYh := Lib.hid (BY7.out.grow2 G7 (by omega) (by omega))
    have Kh := Lib.hid (K7.out.trans (below_of_grow2 G7 K7.out.size (by omega) (by omega)))
    have RMh := Lib.hid ((Reads.there RM7.out (by omega)).keep (fun b hb => G7.block b hb.2 hb.1.2.2.2.2.2 hb.1.2.2.2.2.2))
    have RAh := Lib.hid ((Reads.there RA7.out (by omega)).keep (fun b hb => G7.block b hb.2 (by have := hb.1.2; omega) (by have := hb.1.2; omega)))
    have OVh := Lib.hid (own_grow2 OV7.out G7 (fun e => by have := own_base OV7.out _ e; omega) (fun e => by have := own_base OV7.out _ e; omega))
    have eh : (((w7.setCell ⟨w2.heap.size, 0, none⟩ (.int .u16 f7)).setCell ⟨w2.heap.size, 1, none⟩ (.int .u8 p1)).setCell ⟨w2.heap.size, 2, none⟩ (.int .i64 p2)).heap.size = w7.heap.size := by simp [World.setCell]
    have HWT : Hid (Calls Try.prog 59 #[.agg #[.int .u16 f0, .int .i64 f1, .int .i64 f2, .int .i64 f3, .int .i64 f4, .bool false, .bool f6, .int .u16 f7, .int .i64 f8, .slice A L.length c], .agg #[.int .u16 f7, .int .u8 p1, .int .i64 p2], .int .i64 now] (((w7.setCell ⟨w2.heap.size, 0, none⟩ (.int .u16 f7)).setCell ⟨w2.heap.size, 1, none⟩ (.int .u8 p1)).setCell ⟨w2.heap.size, 2, none⟩ (.int .i64 p2)) fun e w' => (∃ A' c', e = .returned (.agg #[.int .u16 f0, .int .i64 f1, .int .i64 f2, .int .i64 f3, .int .i64 f4, .bool false, .bool f6, .int .u16 f7, .int .i64 f8, .slice A' (Pl.rwatch ⟨f0, f1, f2, f3, f4, false, f6, f7, f8, L⟩ ⟨f7, p1, p2⟩ now).w.length c']) ∧ ReadsWt w' (fun b => S b ∧ b ≠ w.heap.size ∧ b ≠ w.heap.size + 1 ∧ b ≠ w.heap.size + 1 + 1 ∧ b ≠ w.heap.size + 1 + 1 + 1) A' (Pl.rwatch ⟨f0, f1, f2, f3, f4, false, f6, f7, f8, L⟩ ⟨f7, p1, p2⟩ now).w) ∧ Below (((w7.setCell ⟨w2.heap.size, 0, none⟩ (.int .u16 f7)).setCell ⟨w2.heap.size, 1, none⟩ (.int .u8 p1)).setCell ⟨w2.heap.size, 2, none⟩ (.int .i64 p2)).heap.size (((w7.setCell ⟨w2.heap.size, 0, none⟩ (.int .u16 f7)).setCell ⟨w2.heap.size, 1, none⟩ (.int .u8 p1)).setCell ⟨w2.heap.size, 2, none⟩ (.int .i64 p2)) w') := Lib.hid ((refWatch_any ⟨f0, f1, f2, f3, f4, false, f6, f7, f8, L⟩ A c ⟨f7, p1, p2⟩ now (((w7.setCell ⟨w2.heap.size, 0, none⟩ (.int .u16 f7)).setCell ⟨w2.heap.size, 1, none⟩ (.int .u8 p1)).setCell ⟨w2.heap.size, 2, none⟩ (.int .i64 p2)) (fun b => S b ∧ b ≠ w.heap.size ∧ b ≠ w.heap.size + 1 ∧ b ≠ w.heap.size + 1 + 1 ∧ b ≠ w.heap.size + 1 + 1 + 1) hlen (RAh.out.imp (fun b hb => ⟨hb.1.1, by rw [eh]; exact hb.2⟩)) (fun b hb => ⟨HS.out b (by omega), by omega, by omega, by omega, by omega⟩)).mono fun e w' ⟨⟨A', c', he, hr⟩, hb⟩ => ⟨⟨A', c', by rw [he, rpc_rwatch]; rfl, hr⟩, hb⟩)
    rw [HN.out] at HWT
    go_wp2_with fail
    refine HWT.out.mono ?_
    rintro e w8 ⟨⟨A8, c8, rfl, hr8⟩, hb8⟩
    have SZ8 := hb8.size
    rw [eh] at SZ8
    have BP8 := Lib.hid (BPh.out.below hb8 BPh.out.lt)
    have BT8 := Lib.hid (BTh.out.below hb8 BTh.out.lt)
    have BZ8 := Lib.hid (BZh.out.below hb8 BZh.out.lt)
    have BY8 := Lib.hid (BYh.out.below hb8 BYh.out.lt)
    have K8 := Lib.hid (below_then Kh.out Kh.out.size hb8)
    have RM8 := Lib.hid (Reads.below RMh.out (by omega) hb8)
    have RA8 := Lib.hid hr8
    have OV8 := Lib.hid (own_below OVh.out hb8)
    clear hb8 hr8 m0_ m1_ m2_ mf_
    clear r0 z0 r1 z1 r2 z2 r3 z3 r4 z4 r5 z5 r6 z6 r7 z7 r8 z8 r9 z9 t0 t1 y0 y1 rf tf zf yf
    have r0 := BP8.out.cell 0
    have r1 := BP8.out.cell 1
    have r2 := BP8.out.cell 2
    have r3 := BP8.out.cell 3
    have r4 := BP8.out.cell 4
    have r5 := BP8.out.cell 5
    have r6 := BP8.out.cell 6
    have r7 := BP8.out.cell 7
    have r8 := BP8.out.cell 8
    have r9 := BP8.out.cell 9
    have z0 := BZ8.out.cell 0
    have z1 := BZ8.out.cell 1
    have z2 := BZ8.out.cell 2
    have z3 := BZ8.out.cell 3
    have z4 := BZ8.out.cell 4
    have z5 := BZ8.out.cell 5
    have z6 := BZ8.out.cell 6
    have z7 := BZ8.out.cell 7
    have z8 := BZ8.out.cell 8
    have z9 := BZ8.out.cell 9
    have t0 := BT8.out.cell 0
    have t1 := BT8.out.cell 1
    have y0 := BY8.out.cell 0
    have y1 := BY8.out.cell 1
    have rf := BP8.out.frozen
    have tf := BT8.out.frozen
    have zf := BZ8.out.frozen
    have yf := BY8.out.frozen
    simp only [List.getElem?_toArray, List.getElem?_cons_zero, List.getElem?_cons_succ] at r0 z0 r1 z1 r2 z2 r3 z3 r4 z4 r5 z5 r6 z6 r7 z7 r8 z8 r9 z9 t0 t1 y0 y1
    go_wp2_with fail
    obtain ⟨w9, hw9⟩ : ∃ x, x = ((((((((((w8.setCell ⟨w.heap.size, 0, none⟩ (.int .u16 f0)).setCell ⟨w.heap.size, 1, none⟩ (.int .i64 f1)).setCell ⟨w.heap.size, 2, none⟩ (.int .i64 f2)).setCell ⟨w.heap.size, 3, none⟩ (.int .i64 f3)).setCell ⟨w.heap.size, 4, none⟩ (.int .i64 f4)).setCell ⟨w.heap.size, 5, none⟩ (.bool false)).setCell ⟨w.heap.size, 6, none⟩ (.bool f6)).setCell ⟨w.heap.size, 7, none⟩ (.int .u16 f7)).setCell ⟨w.heap.size, 8, none⟩ (.int .i64 f8)).setCell ⟨w.heap.size, 9, none⟩ (.slice A8 (Pl.rwatch ⟨f0, f1, f2, f3, f4, false, f6, f7, f8, L⟩ ⟨f7, p1, p2⟩ now).w.length c8)) := ⟨_, rfl⟩
    rw [← hw9]
    have BP9 : Hid (Blk w9 w.heap.size 81 #[.int .u16 f0, .int .i64 f1, .int .i64 f2, .int .i64 f3, .int .i64 f4, .bool false, .bool f6, .int .u16 f7, .int .i64 f8, .slice A8 (Pl.rwatch ⟨f0, f1, f2, f3, f4, false, f6, f7, f8, L⟩ ⟨f7, p1, p2⟩ now).w.length c8]) := by
      rw [hw9]
      exact Lib.hid (Blk.mem10 BP8.out _ _ _ _ _ _ _ _ _ _)
    have G9 : Grow2 w8 w9 w.heap.size w.heap.size := by
      rw [hw9]
      (repeat (with_reducible first | exact Grow2.refl _ _ _ | refine Grow2.drew ?_ | refine Grow2.alloc ?_ _ | refine Grow2.setCell ?_ ?_ _)) <;> (first | done | exact .inl rfl | exact .inr (.inl rfl))
    have e9 : w9.heap.size = w8.heap.size := by rw [hw9]; simp [World.setCell]
    clear hw9
    clear r0 z0 r1 z1 r2 z2 r3 z3 r4 z4 r5 z5 r6 z6 r7 z7 r8 z8 r9 z9 t0 t1 y0 y1 rf tf zf yf
    have BT9 := Lib.hid (BT8.out.grow2 G9 (by omega) (by omega))
    have BZ9 := Lib.hid (BZ8.out.grow2 G9 (by omega) (by omega))
    have BY9 := Lib.hid (BY8.out.grow2 G9 (by omega) (by omega))
    have K9 := Lib.hid (K8.out.trans (below_of_grow2 G9 K8.out.size (Nat.le_refl _) (Nat.le_refl _)))
    have RM9 := Lib.hid ((Reads.there RM8.out (by omega)).keep (fun b hb => G9.block b hb.2 hb.1.1.2.1 hb.1.1.2.1))
    have RA9 := Lib.hid ((Reads.there RA8.out (by omega)).keep (fun b hb => G9.block b hb.2 hb.1.2.1 hb.1.2.1))
    have OV9 := Lib.hid (own_grow2 OV8.out G9 (fun e => by have := own_base OV8.out _ e; omega) (fun e => by have := own_base OV8.out _ e; omega))
    have r0 := BP9.out.cell 0
    have r1 := BP9.out.cell 1
    have r2 := BP9.out.cell 2
    have r3 := BP9.out.cell 3
    have r4 := BP9.out.cell 4
    have r5 := BP9.out.cell 5
    have r6 := BP9.out.cell 6
    have r7 := BP9.out.cell 7
    have r8 := BP9.out.cell 8
    have r9 := BP9.out.cell 9
    have z0 := BZ9.out.cell 0
    have z1 := BZ9.out.cell 1
    have z2 := BZ9.out.cell 2
    have z3 := BZ9.out.cell 3
    have z4 := BZ9.out.cell 4
    have z5 := BZ9.out.cell 5
    have z6 := BZ9.out.cell 6
    have z7 := BZ9.out.cell 7
    have z8 := BZ9.out.cell 8
    have z9 := BZ9.out.cell 9
    have t0 := BT9.out.cell 0
    have t1 := BT9.out.cell 1
    have y0 := BY9.out.cell 0
    have y1 := BY9.out.cell 1
    have rf := BP9.out.frozen
    have tf := BT9.out.frozen
    have zf := BZ9.out.frozen
    have yf := BY9.out.frozen
    simp only [List.getElem?_toArray, List.getElem?_cons_zero, List.getElem?_cons_succ] at r0 z0 r1 z1 r2 z2 r3 z3 r4 z4 r5 z5 r6 z6 r7 z7 r8 z8 r9 z9 t0 t1 y0 y1
    go_region
    go_wp2
    refine open_ret (g2 := w.heap.size + 1 + 1) (g3 := w.heap.size + 1 + 1 + 1) rfl rfl rfl rfl rfl (x0 := .int .u16 f0) (x1 := .int .i64 f1) (x2 := .int .i64 f2) (x3 := .int .i64 f3) (x4 := .int .i64 f4) (x5 := .bool false) (x6 := .bool f6) (x7 := .int .u16 f7) (x8 := .int .i64 f8) (x9 := .slice A8 (Pl.rwatch ⟨f0, f1, f2, f3, f4, false, f6, f7, f8, L⟩ ⟨f7, p1, p2⟩ now).w.length c8) (z0 := .int .u16 f0) (z1 := .slice A4 (Pl.listT (Pl.heard f0 F ⟨f7, 1, m2⟩)).length c4) ?_ ?_ ?_
    · (repeat (with_reducible first | exact BZ9.out | refine Blk.drew ?_ | apply Blk.mem10 | refine Blk.alloc ?_ _ | refine Blk.far ?_ ?_ _)) <;> (first | done | (dsimp only; omega))
    · (repeat (with_reducible first | exact BY9.out | refine Blk.drew ?_ | apply Blk.mem2 | refine Blk.alloc ?_ _ | refine Blk.far ?_ ?_ _)) <;> (first | done | (dsimp only; omega))
    · have KEY : ∀ W : World, Grow2 w9 W (w.heap.size + 1 + 1) (w.heap.size + 1 + 1 + 1) → OpEnd w S f0 (Pl.rwatch ⟨f0, f1, f2, f3, f4, false, f6, f7, f8, L⟩ (((Pl.heard f0 F ⟨f7, 1, m2⟩) f7.toNat).getD ⟨0, 0, 0⟩) now, Pl.heard f0 F ⟨f7, 1, m2⟩, [], (Pl.hear f0 F ⟨f7, 1, m2⟩).toList) (.returned (.tuple #[.agg #[.int .u16 f0, .int .i64 f1, .int .i64 f2, .int .i64 f3, .int .i64 f4, .bool false, .bool f6, .int .u16 f7, .int .i64 f8, .slice A8 (Pl.rwatch ⟨f0, f1, f2, f3, f4, false, f6, f7, f8, L⟩ ⟨f7, p1, p2⟩ now).w.length c8], .agg #[.int .u16 f0, .slice A4 (Pl.listT (Pl.heard f0 F ⟨f7, 1, m2⟩)).length c4], .slice none 0 0, v6])) W := by
        intro W G
        rw [HYY.out, Option.getD_some, HHE.out]
        exact ⟨⟨A8, c8, A4, c4, _, _, (by rw [rpc_rwatch]; rfl), ((Reads.there RA9.out (by omega)).keep (fun b hb => G.block b hb.2 hb.1.1.2.2.2.1 hb.1.1.2.2.2.2)).imp (fun b hb => ⟨hb.1.1.1, by simp [Value.ownBlock]⟩), ((Reads.there RM9.out (by omega)).keep (fun b hb => G.block b hb.2 hb.1.1.1.2.2.2.1 hb.1.1.1.2.2.2.2.1)).imp (fun b hb => ⟨hb.1.1.1.1, by simp [Value.ownBlock]⟩), own_nil _ _ _ _, own_lower (own_grow2 OV9.out G (fun e => by have := own_base OV9.out _ e; omega) (fun e => by have := own_base OV9.out _ e; omega)) (by omega)⟩, K9.out.trans (below_of_grow2 G K9.out.size (by omega) (by omega))⟩
      refine KEY _ ?_
      (repeat (with_reducible first | exact Grow2.refl _ _ _ | refine Grow2.drew ?_ | refine Grow2.alloc ?_ _ | refine Grow2.setCell ?_ ?_ _)) <;> (first | done | exact .inl rfl | exact .inr (.inl rfl))
end Go.Proofs.Ytnlpgjdgiappcaa

/- WALK: the document's open, of a probe. -/
namespace Go.Proofs.Ytnlpgjdgiappcaa
set_option linter.unusedVariables false
set_option linter.unusedSimpArgs false
open Go.RowKit

theorem helpR_drawn (f0 f7 f4 : Int) (o : Option Int) : (match o with | some n => (([⟨n, 2, f0, f7, f4⟩] : List Pl.Ou)) | none => []) = helpR f0 f7 f4 o := by cases o <;> rfl
theorem refOpen_any (r : Pl.Rp) (A : Option Addr) (c : Nat) (B : Option Addr) (cB : Nat) (F : Pl.Tab) (now draw : Int) (w : World) (S : Nat → Prop) (hF : Pl.TOk r.me F) (h0 : 0 ≤ now) (h1 : now ≤ 1099511627776) (hp0 : 0 ≤ r.at_) (hp1 : r.at_ ≤ 1099511627776) (h7 : 0 ≤ r.nd) (hd0 : 0 ≤ draw) (hd1 : draw ≤ 4294967295) (hlen : r.w.length ≤ 1000000)
    (hR : ReadsWt w (fun b => S b ∧ b < w.heap.size) A r.w) (hB : ReadsM w (fun b => S b ∧ b < w.heap.size) B (Pl.listT F)) (hS : ∀ b, w.heap.size ≤ b → S b) :
    Calls Try.prog 67 #[.agg (rpc r A r.w.length c), .int .i64 now, .int .u32 draw, .agg #[.int .u16 r.me, .slice B (Pl.listT F).length cB]] w fun e w' => OpEnd w S r.me (Pl.ropen now draw r F) e w' := by
  obtain ⟨f0, f1, f2, f3, f4, f5, f6, f7, f8, L⟩ := r
  simp only at *
  cases f5 with
  | false =>
    have e : Pl.ropen now draw ⟨f0, f1, f2, f3, f4, false, f6, f7, f8, L⟩ F = (⟨f0, f1, f2, f3, f4, false, f6, f7, f8, L⟩, F, [], []) := by unfold Pl.ropen; rfl
    rw [e]
    exact open_no f0 f1 f2 f3 f4 f7 f8 f6 A c L B cB F now draw w S hF h0 h1 hp0 hp1 hR hB hS
  | true =>
    by_cases hi : f1 ≤ now - f8
    · cases hm : F f7.toNat with
      | none =>
        have e : Pl.ropen now draw ⟨f0, f1, f2, f3, f4, true, f6, f7, f8, L⟩ F = (⟨f0, f1, f2, f3, f4, false, f6, f7, f8, L⟩, F, [], []) := by
          unfold Pl.ropen
          rw [if_neg (by simp), if_pos hi]
          simp only [hm]
        rw [e]
        exact due_none f0 f1 f2 f3 f4 f7 f8 f6 A c L B cB F now draw w S hF h0 h1 hp0 hp1 hi h7 hlen hm hR hB hS
      | some m =>
        obtain ⟨m0, m1, m2⟩ := m
        have e : Pl.ropen now draw ⟨f0, f1, f2, f3, f4, true, f6, f7, f8, L⟩ F = (Pl.rwatch ⟨f0, f1, f2, f3, f4, false, f6, f7, f8, L⟩ (((Pl.heard f0 F ⟨m0, 1, m2⟩) f7.toNat).getD ⟨0, 0, 0⟩) now, Pl.heard f0 F ⟨m0, 1, m2⟩, [], (Pl.hear f0 F ⟨m0, 1, m2⟩).toList) := by
          unfold Pl.ropen
          rw [if_neg (by simp), if_pos hi]
          simp only [hm]
        rw [e]
        exact due_some f0 f1 f2 f3 f4 f7 f8 f6 A c L B cB F now draw w S hF h0 h1 hp0 hp1 hi h7 hlen m0 m1 m2 hm hR hB hS
    · by_cases hj : f2 ≤ now - f8 ∧ f6 = false
      · obtain ⟨hj, rfl⟩ := hj
        have e : Pl.ropen now draw ⟨f0, f1, f2, f3, f4, true, false, f7, f8, L⟩ F = (⟨f0, f1, f2, f3, f4, true, true, f7, f8, L⟩, F, helpR f0 f7 f4 (Pl.drawn (Pl.othersR F f0 f7) draw), []) := by
          unfold Pl.ropen
          rw [if_neg (by simp), if_neg hi, if_pos ⟨hj, rfl⟩]
          simp only
          cases Pl.drawn (Pl.othersR F f0 f7) draw <;> rfl
        rw [e]
        exact open_help f0 f1 f2 f3 f4 f7 f8 A c L B cB F now draw w S hF h0 h1 hp0 hp1 hd0 hd1 (by omega) hj hR hB hS
      · have e : Pl.ropen now draw ⟨f0, f1, f2, f3, f4, true, f6, f7, f8, L⟩ F = (⟨f0, f1, f2, f3, f4, true, f6, f7, f8, L⟩, F, [], []) := by
          unfold Pl.ropen
          rw [if_neg (by simp), if_neg hi, if_neg hj]
        rw [e]
        refine open_idle f0 f1 f2 f3 f4 f7 f8 f6 A c L B cB F now draw w S hF h0 h1 hp0 hp1 (by omega) ?_ hR hB hS
        by_cases h2 : f2 ≤ now - f8
        · right
          cases f6 with
          | true => rfl
          | false => exact absurd ⟨h2, rfl⟩ hj
        · left; omega
end Go.Proofs.Ytnlpgjdgiappcaa
