/- WALKS: the document's health: Suspect. -/
import Derived.Test.YtadhcnfgbiokcaaHeRefB
namespace Go.Proofs.Ytadhcnfgbiokcaa
set_option linter.unusedVariables false
set_option linter.unusedSimpArgs false
open Go.RowKit
set_option maxRecDepth 100000 in
set_option maxHeartbeats 4000000 in
theorem rss_none (me mn mx cf sc n i fr now : Int) (A : Option Addr) (c : Nat) (L : List Em) (w : World) (h2 : ¬ 64 ≤ n) (h3 : ¬ 64 ≤ fr) (h4 : ¬ n = me) (h5 : ¬ i < 0) (h6 : ¬ 1073741824 < i) (h7 : ¬ now < 0) (h8 : ¬ 1099511627776 < now) (hR : ReadsE w (fun _ => True) A L) (hlen : L.length ≤ 64) (hf : findE L n = none) :
    Calls Try.prog 29 #[.agg #[.int .u16 me, .int .i64 mn, .int .i64 mx, .int .i64 cf, .int .i64 sc, .slice A L.length c], .agg #[.int .u16 n, .int .u8 1, .int .i64 i], .int .u16 fr, .int .i64 now] w fun e w' => ∃ Am cm A' c', e = .returned (.tuple #[.agg #[.int .u16 me, .int .i64 mn, .int .i64 mx, .int .i64 cf, .int .i64 sc, .slice A' (setL L ⟨⟨n, i, now, [fr]⟩, Am, cm⟩).length c'], .bool true]) ∧ w'.ownsRow w.heap.size 82 4 (.slice A' (setL L ⟨⟨n, i, now, [fr]⟩, Am, cm⟩).length c') (setL L ⟨⟨n, i, now, [fr]⟩, Am, cm⟩).length (ecells (setL L ⟨⟨n, i, now, [fr]⟩, Am, cm⟩)) ∧ Below w.heap.size w w' ∧ Reads w' (fun b => w.heap.size ≤ b) 1 Am 1 (u16s [fr]) := by
  have t4 : (n == me) = false := by simpa using h4
  have K0 : Below w.heap.size w (((w.alloc (.cells #[.int .u16 me, .int .i64 mn, .int .i64 mx, .int .i64 cf, .int .i64 sc, .slice A L.length c] 53)).alloc (.cells #[.int .u16 n, .int .u8 1, .int .i64 i] 33)).alloc (.cells #[.int .u16 0, .int .i64 0, .int .i64 0, .int .i64 0, .int .i64 0, .slice none 0 0] 53)) := (((Below.refl _ w).alloc (Nat.le_refl _) _).alloc (by simp) _).alloc (by simp; omega) _
  have hs1 : (w.alloc (.cells #[.int .u16 me, .int .i64 mn, .int .i64 mx, .int .i64 cf, .int .i64 sc, .slice A L.length c] 53)).heap.size = w.heap.size + 1 := by simp
  have hs2 : ((w.alloc (.cells #[.int .u16 me, .int .i64 mn, .int .i64 mx, .int .i64 cf, .int .i64 sc, .slice A L.length c] 53)).alloc (.cells #[.int .u16 n, .int .u8 1, .int .i64 i] 33)).heap.size = w.heap.size + 1 + 1 := by simp
  have hs3 : (((w.alloc (.cells #[.int .u16 me, .int .i64 mn, .int .i64 mx, .int .i64 cf, .int .i64 sc, .slice A L.length c] 53)).alloc (.cells #[.int .u16 n, .int .u8 1, .int .i64 i] 33)).alloc (.cells #[.int .u16 0, .int .i64 0, .int .i64 0, .int .i64 0, .int .i64 0, .slice none 0 0] 53)).heap.size = w.heap.size + 1 + 1 + 1 := by simp
  have C0 := ((Blk.new w 53 #[.int .u16 me, .int .i64 mn, .int .i64 mx, .int .i64 cf, .int .i64 sc, .slice A L.length c]).alloc (.cells #[.int .u16 n, .int .u8 1, .int .i64 i] 33)).alloc (.cells #[.int .u16 0, .int .i64 0, .int .i64 0, .int .i64 0, .int .i64 0, .slice none 0 0] 53)
  have C1 := (Blk.new (w.alloc (.cells #[.int .u16 me, .int .i64 mn, .int .i64 mx, .int .i64 cf, .int .i64 sc, .slice A L.length c] 53)) 33 #[.int .u16 n, .int .u8 1, .int .i64 i]).alloc (.cells #[.int .u16 0, .int .i64 0, .int .i64 0, .int .i64 0, .int .i64 0, .slice none 0 0] 53)
  have C2 := Blk.new ((w.alloc (.cells #[.int .u16 me, .int .i64 mn, .int .i64 mx, .int .i64 cf, .int .i64 sc, .slice A L.length c] 53)).alloc (.cells #[.int .u16 n, .int .u8 1, .int .i64 i] 33)) 53 #[.int .u16 0, .int .i64 0, .int .i64 0, .int .i64 0, .int .i64 0, .slice none 0 0]
  rw [hs1] at C1
  rw [hs2] at C2
  have D0 := Lib.hid C0
  have D1 := Lib.hid C1
  have D2 := Lib.hid C2
  have HK0 := Lib.hid K0
  have HR := Lib.hid hR
  have HF := Lib.hid hf
  have l30 : w.heap.size < (((w.alloc (.cells #[.int .u16 me, .int .i64 mn, .int .i64 mx, .int .i64 cf, .int .i64 sc, .slice A L.length c] 53)).alloc (.cells #[.int .u16 n, .int .u8 1, .int .i64 i] 33)).alloc (.cells #[.int .u16 0, .int .i64 0, .int .i64 0, .int .i64 0, .int .i64 0, .slice none 0 0] 53)).heap.size := by rw [hs3]; omega
  have l31 : w.heap.size + 1 < (((w.alloc (.cells #[.int .u16 me, .int .i64 mn, .int .i64 mx, .int .i64 cf, .int .i64 sc, .slice A L.length c] 53)).alloc (.cells #[.int .u16 n, .int .u8 1, .int .i64 i] 33)).alloc (.cells #[.int .u16 0, .int .i64 0, .int .i64 0, .int .i64 0, .int .i64 0, .slice none 0 0] 53)).heap.size := by rw [hs3]; omega
  have l32 : w.heap.size + 1 + 1 < (((w.alloc (.cells #[.int .u16 me, .int .i64 mn, .int .i64 mx, .int .i64 cf, .int .i64 sc, .slice A L.length c] 53)).alloc (.cells #[.int .u16 n, .int .u8 1, .int .i64 i] 33)).alloc (.cells #[.int .u16 0, .int .i64 0, .int .i64 0, .int .i64 0, .int .i64 0, .slice none 0 0] 53)).heap.size := by rw [hs3]; omega
  clear C0 C1 C2 K0 hR hf hs1 hs2 hs3
  go_enter Try.func29, Try.ntmps29
  go_wp2_with fail
  refine (rfind_any ⟨me, mn, mx, cf, sc, []⟩ n A c L _ (Reads.below HR.out (by omega) HK0.out) hlen).mono ?_
  rw [HF.out]
  rintro e w1 ⟨rfl, hb⟩
  have E0 := Lib.hid (D0.out.below hb l30)
  have E1 := Lib.hid (D1.out.below hb l31)
  have E2 := Lib.hid (D2.out.below hb l32)
  have HK1 := Lib.hid (below_then HK0.out HK0.out.size hb)
  have hl1 : w.heap.size + 1 + 1 < w1.heap.size := Nat.lt_of_lt_of_le l32 hb.size
  clear hb l30 l31 l32
  have hl0 : w.heap.size < w1.heap.size := by omega
  have hl01 : w.heap.size + 1 < w1.heap.size := by omega
  have q0 := E0.out.cell 0
  have q1 := E0.out.cell 1
  have q2 := E0.out.cell 2
  have q3 := E0.out.cell 3
  have q4 := E0.out.cell 4
  have q5 := E0.out.cell 5
  have r0 := E1.out.cell 0
  have r1 := E1.out.cell 1
  have r2 := E1.out.cell 2
  have z0 := E2.out.cell 0
  have z1 := E2.out.cell 1
  have z2 := E2.out.cell 2
  have z3 := E2.out.cell 3
  have z4 := E2.out.cell 4
  have z5 := E2.out.cell 5
  have zf := E2.out.frozen
  simp only [List.getElem?_toArray, List.getElem?_cons_zero, List.getElem?_cons_succ] at q0 q1 q2 q3 q4 q5 r0 r1 r2 z0 z1 z2 z3 z4 z5
  generalize hw : w.heap.size = b0 at *
  have HW := Lib.hid hw
  clear hw
  simp only [findVal, em4]
  have hsA : (w1.alloc (.cells #[.int .u16 0, .int .i64 0, .int .i64 0, .slice none 0 0] 82)).heap.size = w1.heap.size + 1 := by simp
  have HKA := Lib.hid ((HK1.out.alloc (by omega) (.cells #[.int .u16 0, .int .i64 0, .int .i64 0, .slice none 0 0] 82)).alloc (by simp; omega) (.cells #[.int .u16 fr] 22))
  have hKw := Lib.hid (((Below.refl w1.heap.size w1).alloc (Nat.le_refl _) (.cells #[.int .u16 0, .int .i64 0, .int .i64 0, .slice none 0 0] 82)).alloc (by simp) (.cells #[.int .u16 fr] 22))
  have hsB : ((w1.alloc (.cells #[.int .u16 0, .int .i64 0, .int .i64 0, .slice none 0 0] 82)).alloc (.cells #[.int .u16 fr] 22)).heap.size = w1.heap.size + 1 + 1 := by simp
  have BN := Blk.new (w1.alloc (.cells #[.int .u16 0, .int .i64 0, .int .i64 0, .slice none 0 0] 82)) 22 #[.int .u16 fr]
  rw [hsA] at BN
  have HBN := Lib.hid BN
  have l62 : b0 + 1 + 1 < ((w1.alloc (.cells #[.int .u16 0, .int .i64 0, .int .i64 0, .slice none 0 0] 82)).alloc (.cells #[.int .u16 fr] 22)).heap.size := by rw [hsB]; omega
  have ln : w1.heap.size + 1 < ((w1.alloc (.cells #[.int .u16 0, .int .i64 0, .int .i64 0, .slice none 0 0] 82)).alloc (.cells #[.int .u16 fr] 22)).heap.size := by rw [hsB]; omega
  have G2 := Lib.hid ((E2.out.alloc (.cells #[.int .u16 0, .int .i64 0, .int .i64 0, .slice none 0 0] 82)).alloc (.cells #[.int .u16 fr] 22))
  clear BN hsA hsB
  go_wp2_with fail
  refine (rwith_any ⟨me, mn, mx, cf, sc, []⟩ A c L ⟨⟨n, i, now, [fr]⟩, some ⟨w1.heap.size + 1, 0, none⟩, 1⟩ _ (Reads.below HR.out (by omega) (by rw [HW.out]; exact HKA.out)) hlen).mono ?_
  rintro e w2 ⟨A2, c2, rfl, ho, hb⟩
  have F2 := Lib.hid (G2.out.below hb l62)
  have FN := Lib.hid (HBN.out.below hb ln)
  have HK2 := Lib.hid (below_then HKA.out (by simp; omega) hb)
  have HO := Lib.hid ho
  have hl2 : b0 + 1 + 1 < w2.heap.size := Nat.lt_of_lt_of_le l62 hb.size
  clear ho hb z0 z1 z2 z3 z4 z5 zf l62 ln q0 q1 q2 q3 q4 q5 r0 r1 r2
  have z0 := F2.out.cell 0
  have z1 := F2.out.cell 1
  have z2 := F2.out.cell 2
  have z3 := F2.out.cell 3
  have z4 := F2.out.cell 4
  have z5 := F2.out.cell 5
  have zf := F2.out.frozen
  simp only [List.getElem?_toArray, List.getElem?_cons_zero, List.getElem?_cons_succ] at z0 z1 z2 z3 z4 z5
  simp only [hval]
  generalize hSL : setL L ⟨⟨n, i, now, [fr]⟩, some ⟨w1.heap.size + 1, 0, none⟩, 1⟩ = SL at *
  have HSL := Lib.hid hSL
  clear hSL
  go_wp2
  have bz2 := F2.out.six (.int .u16 me) (.int .i64 mn) (.int .i64 mx) (.int .i64 cf) (.int .i64 sc) (.slice A2 SL.length c2)
  have g0 := bz2.cell 0
  have g1 := bz2.cell 1
  have g2 := bz2.cell 2
  have g3 := bz2.cell 3
  have g4 := bz2.cell 4
  have g5 := bz2.cell 5
  simp only [List.getElem?_toArray, List.getElem?_cons_zero, List.getElem?_cons_succ] at g0 g1 g2 g3 g4 g5
  have SIX := Lib.hid (below_six (g := b0 + 1 + 1) HK2.out (by omega) (.int .u16 me) (.int .i64 mn) (.int .i64 mx) (.int .i64 cf) (.int .i64 sc) (.slice A2 SL.length c2))
  refine bodyPost_ret (v := .tuple #[.agg #[.int .u16 me, .int .i64 mn, .int .i64 mx, .int .i64 cf, .int .i64 sc, .slice A2 SL.length c2], .bool true]) (by simp [results, Try.results29, go_sem, g0, g1, g2, g3, g4, g5]) rfl ⟨some ⟨w1.heap.size + 1, 0, none⟩, 1, A2, c2, ?_, ?_, ?_, ?_⟩
  · rw [HSL.out]
  · rw [HSL.out, HW.out]
    exact own_lower (own_six (HO.out) (by simp; omega)) (by simp; omega)
  · rw [HW.out]; exact SIX.out
  · rw [HW.out]
    exact ⟨rfl, fun _ => ⟨_, _, rfl, by omega, fun j u hu => by rw [Nat.zero_add, (FN.out.far (p := ⟨b0 + 1 + 1, 0, none⟩) (by show w1.heap.size + 1 ≠ b0 + 1 + 1; omega) _ |>.far (p := ⟨b0 + 1 + 1, 1, none⟩) (by show w1.heap.size + 1 ≠ b0 + 1 + 1; omega) _ |>.far (p := ⟨b0 + 1 + 1, 2, none⟩) (by show w1.heap.size + 1 ≠ b0 + 1 + 1; omega) _ |>.far (p := ⟨b0 + 1 + 1, 3, none⟩) (by show w1.heap.size + 1 ≠ b0 + 1 + 1; omega) _ |>.far (p := ⟨b0 + 1 + 1, 4, none⟩) (by show w1.heap.size + 1 ≠ b0 + 1 + 1; omega) _ |>.far (p := ⟨b0 + 1 + 1, 5, none⟩) (by show w1.heap.size + 1 ≠ b0 + 1 + 1; omega) _).cell j]; simpa [u16s] using hu⟩⟩
set_option maxRecDepth 100000 in
set_option maxHeartbeats 4000000 in
theorem rss_low (me mn mx cf sc n i fr now : Int) (A : Option Addr) (c : Nat) (L : List Em) (w : World) (h2 : ¬ 64 ≤ n) (h3 : ¬ 64 ≤ fr) (h4 : ¬ n = me) (h5 : ¬ i < 0) (h6 : ¬ 1073741824 < i) (h7 : ¬ now < 0) (h8 : ¬ 1099511627776 < now) (hR : ReadsE w (fun _ => True) A L) (hlen : L.length ≤ 64) (x : Em) (hf : findE L n = some x) (hi : x.e.i < i) :
    Calls Try.prog 29 #[.agg #[.int .u16 me, .int .i64 mn, .int .i64 mx, .int .i64 cf, .int .i64 sc, .slice A L.length c], .agg #[.int .u16 n, .int .u8 1, .int .i64 i], .int .u16 fr, .int .i64 now] w fun e w' => ∃ Am cm A' c', e = .returned (.tuple #[.agg #[.int .u16 me, .int .i64 mn, .int .i64 mx, .int .i64 cf, .int .i64 sc, .slice A' (setL L ⟨⟨n, i, now, [fr]⟩, Am, cm⟩).length c'], .bool true]) ∧ w'.ownsRow w.heap.size 82 4 (.slice A' (setL L ⟨⟨n, i, now, [fr]⟩, Am, cm⟩).length c') (setL L ⟨⟨n, i, now, [fr]⟩, Am, cm⟩).length (ecells (setL L ⟨⟨n, i, now, [fr]⟩, Am, cm⟩)) ∧ Below w.heap.size w w' ∧ Reads w' (fun b => w.heap.size ≤ b) 1 Am 1 (u16s [fr]) := by
  have t4 : (n == me) = false := by simpa using h4
  have K0 : Below w.heap.size w (((w.alloc (.cells #[.int .u16 me, .int .i64 mn, .int .i64 mx, .int .i64 cf, .int .i64 sc, .slice A L.length c] 53)).alloc (.cells #[.int .u16 n, .int .u8 1, .int .i64 i] 33)).alloc (.cells #[.int .u16 0, .int .i64 0, .int .i64 0, .int .i64 0, .int .i64 0, .slice none 0 0] 53)) := (((Below.refl _ w).alloc (Nat.le_refl _) _).alloc (by simp) _).alloc (by simp; omega) _
  have hs1 : (w.alloc (.cells #[.int .u16 me, .int .i64 mn, .int .i64 mx, .int .i64 cf, .int .i64 sc, .slice A L.length c] 53)).heap.size = w.heap.size + 1 := by simp
  have hs2 : ((w.alloc (.cells #[.int .u16 me, .int .i64 mn, .int .i64 mx, .int .i64 cf, .int .i64 sc, .slice A L.length c] 53)).alloc (.cells #[.int .u16 n, .int .u8 1, .int .i64 i] 33)).heap.size = w.heap.size + 1 + 1 := by simp
  have hs3 : (((w.alloc (.cells #[.int .u16 me, .int .i64 mn, .int .i64 mx, .int .i64 cf, .int .i64 sc, .slice A L.length c] 53)).alloc (.cells #[.int .u16 n, .int .u8 1, .int .i64 i] 33)).alloc (.cells #[.int .u16 0, .int .i64 0, .int .i64 0, .int .i64 0, .int .i64 0, .slice none 0 0] 53)).heap.size = w.heap.size + 1 + 1 + 1 := by simp
  have C0 := ((Blk.new w 53 #[.int .u16 me, .int .i64 mn, .int .i64 mx, .int .i64 cf, .int .i64 sc, .slice A L.length c]).alloc (.cells #[.int .u16 n, .int .u8 1, .int .i64 i] 33)).alloc (.cells #[.int .u16 0, .int .i64 0, .int .i64 0, .int .i64 0, .int .i64 0, .slice none 0 0] 53)
  have C1 := (Blk.new (w.alloc (.cells #[.int .u16 me, .int .i64 mn, .int .i64 mx, .int .i64 cf, .int .i64 sc, .slice A L.length c] 53)) 33 #[.int .u16 n, .int .u8 1, .int .i64 i]).alloc (.cells #[.int .u16 0, .int .i64 0, .int .i64 0, .int .i64 0, .int .i64 0, .slice none 0 0] 53)
  have C2 := Blk.new ((w.alloc (.cells #[.int .u16 me, .int .i64 mn, .int .i64 mx, .int .i64 cf, .int .i64 sc, .slice A L.length c] 53)).alloc (.cells #[.int .u16 n, .int .u8 1, .int .i64 i] 33)) 53 #[.int .u16 0, .int .i64 0, .int .i64 0, .int .i64 0, .int .i64 0, .slice none 0 0]
  rw [hs1] at C1
  rw [hs2] at C2
  have D0 := Lib.hid C0
  have D1 := Lib.hid C1
  have D2 := Lib.hid C2
  have HK0 := Lib.hid K0
  have HR := Lib.hid hR
  have HF := Lib.hid hf
  have l30 : w.heap.size < (((w.alloc (.cells #[.int .u16 me, .int .i64 mn, .int .i64 mx, .int .i64 cf, .int .i64 sc, .slice A L.length c] 53)).alloc (.cells #[.int .u16 n, .int .u8 1, .int .i64 i] 33)).alloc (.cells #[.int .u16 0, .int .i64 0, .int .i64 0, .int .i64 0, .int .i64 0, .slice none 0 0] 53)).heap.size := by rw [hs3]; omega
  have l31 : w.heap.size + 1 < (((w.alloc (.cells #[.int .u16 me, .int .i64 mn, .int .i64 mx, .int .i64 cf, .int .i64 sc, .slice A L.length c] 53)).alloc (.cells #[.int .u16 n, .int .u8 1, .int .i64 i] 33)).alloc (.cells #[.int .u16 0, .int .i64 0, .int .i64 0, .int .i64 0, .int .i64 0, .slice none 0 0] 53)).heap.size := by rw [hs3]; omega
  have l32 : w.heap.size + 1 + 1 < (((w.alloc (.cells #[.int .u16 me, .int .i64 mn, .int .i64 mx, .int .i64 cf, .int .i64 sc, .slice A L.length c] 53)).alloc (.cells #[.int .u16 n, .int .u8 1, .int .i64 i] 33)).alloc (.cells #[.int .u16 0, .int .i64 0, .int .i64 0, .int .i64 0, .int .i64 0, .slice none 0 0] 53)).heap.size := by rw [hs3]; omega
  clear C0 C1 C2 K0 hR hf hs1 hs2 hs3
  go_enter Try.func29, Try.ntmps29
  go_wp2_with fail
  refine (rfind_any ⟨me, mn, mx, cf, sc, []⟩ n A c L _ (Reads.below HR.out (by omega) HK0.out) hlen).mono ?_
  rw [HF.out]
  rintro e w1 ⟨rfl, hb⟩
  have E0 := Lib.hid (D0.out.below hb l30)
  have E1 := Lib.hid (D1.out.below hb l31)
  have E2 := Lib.hid (D2.out.below hb l32)
  have HK1 := Lib.hid (below_then HK0.out HK0.out.size hb)
  have hl1 : w.heap.size + 1 + 1 < w1.heap.size := Nat.lt_of_lt_of_le l32 hb.size
  clear hb l30 l31 l32
  have hl0 : w.heap.size < w1.heap.size := by omega
  have hl01 : w.heap.size + 1 < w1.heap.size := by omega
  have q0 := E0.out.cell 0
  have q1 := E0.out.cell 1
  have q2 := E0.out.cell 2
  have q3 := E0.out.cell 3
  have q4 := E0.out.cell 4
  have q5 := E0.out.cell 5
  have r0 := E1.out.cell 0
  have r1 := E1.out.cell 1
  have r2 := E1.out.cell 2
  have z0 := E2.out.cell 0
  have z1 := E2.out.cell 1
  have z2 := E2.out.cell 2
  have z3 := E2.out.cell 3
  have z4 := E2.out.cell 4
  have z5 := E2.out.cell 5
  have zf := E2.out.frozen
  simp only [List.getElem?_toArray, List.getElem?_cons_zero, List.getElem?_cons_succ] at q0 q1 q2 q3 q4 q5 r0 r1 r2 z0 z1 z2 z3 z4 z5
  generalize hw : w.heap.size = b0 at *
  have HW := Lib.hid hw
  clear hw
  simp only [findVal, em4]
  have hsA : (w1.alloc (.cells #[.int .u16 x.e.n, .int .i64 x.e.i, .int .i64 x.e.f, .slice x.A x.e.who.length x.c] 82)).heap.size = w1.heap.size + 1 := by simp
  have HKA := Lib.hid ((HK1.out.alloc (by omega) (.cells #[.int .u16 x.e.n, .int .i64 x.e.i, .int .i64 x.e.f, .slice x.A x.e.who.length x.c] 82)).alloc (by simp; omega) (.cells #[.int .u16 fr] 22))
  have hKw := Lib.hid (((Below.refl w1.heap.size w1).alloc (Nat.le_refl _) (.cells #[.int .u16 x.e.n, .int .i64 x.e.i, .int .i64 x.e.f, .slice x.A x.e.who.length x.c] 82)).alloc (by simp) (.cells #[.int .u16 fr] 22))
  have hsB : ((w1.alloc (.cells #[.int .u16 x.e.n, .int .i64 x.e.i, .int .i64 x.e.f, .slice x.A x.e.who.length x.c] 82)).alloc (.cells #[.int .u16 fr] 22)).heap.size = w1.heap.size + 1 + 1 := by simp
  have BN := Blk.new (w1.alloc (.cells #[.int .u16 x.e.n, .int .i64 x.e.i, .int .i64 x.e.f, .slice x.A x.e.who.length x.c] 82)) 22 #[.int .u16 fr]
  rw [hsA] at BN
  have HBN := Lib.hid BN
  have l62 : b0 + 1 + 1 < ((w1.alloc (.cells #[.int .u16 x.e.n, .int .i64 x.e.i, .int .i64 x.e.f, .slice x.A x.e.who.length x.c] 82)).alloc (.cells #[.int .u16 fr] 22)).heap.size := by rw [hsB]; omega
  have ln : w1.heap.size + 1 < ((w1.alloc (.cells #[.int .u16 x.e.n, .int .i64 x.e.i, .int .i64 x.e.f, .slice x.A x.e.who.length x.c] 82)).alloc (.cells #[.int .u16 fr] 22)).heap.size := by rw [hsB]; omega
  have G2 := Lib.hid ((E2.out.alloc (.cells #[.int .u16 x.e.n, .int .i64 x.e.i, .int .i64 x.e.f, .slice x.A x.e.who.length x.c] 82)).alloc (.cells #[.int .u16 fr] 22))
  clear BN hsA hsB
  go_wp2_with fail
  refine (rwith_any ⟨me, mn, mx, cf, sc, []⟩ A c L ⟨⟨n, i, now, [fr]⟩, some ⟨w1.heap.size + 1, 0, none⟩, 1⟩ _ (Reads.below HR.out (by omega) (by rw [HW.out]; exact HKA.out)) hlen).mono ?_
  rintro e w2 ⟨A2, c2, rfl, ho, hb⟩
  have F2 := Lib.hid (G2.out.below hb l62)
  have FN := Lib.hid (HBN.out.below hb ln)
  have HK2 := Lib.hid (below_then HKA.out (by simp; omega) hb)
  have HO := Lib.hid ho
  have hl2 : b0 + 1 + 1 < w2.heap.size := Nat.lt_of_lt_of_le l62 hb.size
  clear ho hb z0 z1 z2 z3 z4 z5 zf l62 ln q0 q1 q2 q3 q4 q5 r0 r1 r2
  have z0 := F2.out.cell 0
  have z1 := F2.out.cell 1
  have z2 := F2.out.cell 2
  have z3 := F2.out.cell 3
  have z4 := F2.out.cell 4
  have z5 := F2.out.cell 5
  have zf := F2.out.frozen
  simp only [List.getElem?_toArray, List.getElem?_cons_zero, List.getElem?_cons_succ] at z0 z1 z2 z3 z4 z5
  simp only [hval]
  generalize hSL : setL L ⟨⟨n, i, now, [fr]⟩, some ⟨w1.heap.size + 1, 0, none⟩, 1⟩ = SL at *
  have HSL := Lib.hid hSL
  clear hSL
  go_wp2
  have bz2 := F2.out.six (.int .u16 me) (.int .i64 mn) (.int .i64 mx) (.int .i64 cf) (.int .i64 sc) (.slice A2 SL.length c2)
  have g0 := bz2.cell 0
  have g1 := bz2.cell 1
  have g2 := bz2.cell 2
  have g3 := bz2.cell 3
  have g4 := bz2.cell 4
  have g5 := bz2.cell 5
  simp only [List.getElem?_toArray, List.getElem?_cons_zero, List.getElem?_cons_succ] at g0 g1 g2 g3 g4 g5
  have SIX := Lib.hid (below_six (g := b0 + 1 + 1) HK2.out (by omega) (.int .u16 me) (.int .i64 mn) (.int .i64 mx) (.int .i64 cf) (.int .i64 sc) (.slice A2 SL.length c2))
  refine bodyPost_ret (v := .tuple #[.agg #[.int .u16 me, .int .i64 mn, .int .i64 mx, .int .i64 cf, .int .i64 sc, .slice A2 SL.length c2], .bool true]) (by simp [results, Try.results29, go_sem, g0, g1, g2, g3, g4, g5]) rfl ⟨some ⟨w1.heap.size + 1, 0, none⟩, 1, A2, c2, ?_, ?_, ?_, ?_⟩
  · rw [HSL.out]
  · rw [HSL.out, HW.out]
    exact own_lower (own_six (HO.out) (by simp; omega)) (by simp; omega)
  · rw [HW.out]; exact SIX.out
  · rw [HW.out]
    exact ⟨rfl, fun _ => ⟨_, _, rfl, by omega, fun j u hu => by rw [Nat.zero_add, (FN.out.far (p := ⟨b0 + 1 + 1, 0, none⟩) (by show w1.heap.size + 1 ≠ b0 + 1 + 1; omega) _ |>.far (p := ⟨b0 + 1 + 1, 1, none⟩) (by show w1.heap.size + 1 ≠ b0 + 1 + 1; omega) _ |>.far (p := ⟨b0 + 1 + 1, 2, none⟩) (by show w1.heap.size + 1 ≠ b0 + 1 + 1; omega) _ |>.far (p := ⟨b0 + 1 + 1, 3, none⟩) (by show w1.heap.size + 1 ≠ b0 + 1 + 1; omega) _ |>.far (p := ⟨b0 + 1 + 1, 4, none⟩) (by show w1.heap.size + 1 ≠ b0 + 1 + 1; omega) _ |>.far (p := ⟨b0 + 1 + 1, 5, none⟩) (by show w1.heap.size + 1 ≠ b0 + 1 + 1; omega) _).cell j]; simpa [u16s] using hu⟩⟩
set_option maxRecDepth 100000 in
set_option maxHeartbeats 4000000 in
theorem rss_old (me mn mx cf sc n i fr now : Int) (A : Option Addr) (c : Nat) (L : List Em) (w : World) (h2 : ¬ 64 ≤ n) (h3 : ¬ 64 ≤ fr) (h4 : ¬ n = me) (h5 : ¬ i < 0) (h6 : ¬ 1073741824 < i) (h7 : ¬ now < 0) (h8 : ¬ 1099511627776 < now) (hR : ReadsE w (fun _ => True) A L) (hlen : L.length ≤ 64) (x : Em) (hf : findE L n = some x) (hi : i < x.e.i) :
    Calls Try.prog 29 #[.agg #[.int .u16 me, .int .i64 mn, .int .i64 mx, .int .i64 cf, .int .i64 sc, .slice A L.length c], .agg #[.int .u16 n, .int .u8 1, .int .i64 i], .int .u16 fr, .int .i64 now] w fun e w' => e = .returned (.tuple #[.agg #[.int .u16 me, .int .i64 mn, .int .i64 mx, .int .i64 cf, .int .i64 sc, .slice A L.length c], .bool false]) ∧ Below w.heap.size w w' := by
  have t4 : (n == me) = false := by simpa using h4
  have K0 : Below w.heap.size w (((w.alloc (.cells #[.int .u16 me, .int .i64 mn, .int .i64 mx, .int .i64 cf, .int .i64 sc, .slice A L.length c] 53)).alloc (.cells #[.int .u16 n, .int .u8 1, .int .i64 i] 33)).alloc (.cells #[.int .u16 0, .int .i64 0, .int .i64 0, .int .i64 0, .int .i64 0, .slice none 0 0] 53)) := (((Below.refl _ w).alloc (Nat.le_refl _) _).alloc (by simp) _).alloc (by simp; omega) _
  have hs1 : (w.alloc (.cells #[.int .u16 me, .int .i64 mn, .int .i64 mx, .int .i64 cf, .int .i64 sc, .slice A L.length c] 53)).heap.size = w.heap.size + 1 := by simp
  have hs2 : ((w.alloc (.cells #[.int .u16 me, .int .i64 mn, .int .i64 mx, .int .i64 cf, .int .i64 sc, .slice A L.length c] 53)).alloc (.cells #[.int .u16 n, .int .u8 1, .int .i64 i] 33)).heap.size = w.heap.size + 1 + 1 := by simp
  have hs3 : (((w.alloc (.cells #[.int .u16 me, .int .i64 mn, .int .i64 mx, .int .i64 cf, .int .i64 sc, .slice A L.length c] 53)).alloc (.cells #[.int .u16 n, .int .u8 1, .int .i64 i] 33)).alloc (.cells #[.int .u16 0, .int .i64 0, .int .i64 0, .int .i64 0, .int .i64 0, .slice none 0 0] 53)).heap.size = w.heap.size + 1 + 1 + 1 := by simp
  have C0 := ((Blk.new w 53 #[.int .u16 me, .int .i64 mn, .int .i64 mx, .int .i64 cf, .int .i64 sc, .slice A L.length c]).alloc (.cells #[.int .u16 n, .int .u8 1, .int .i64 i] 33)).alloc (.cells #[.int .u16 0, .int .i64 0, .int .i64 0, .int .i64 0, .int .i64 0, .slice none 0 0] 53)
  have C1 := (Blk.new (w.alloc (.cells #[.int .u16 me, .int .i64 mn, .int .i64 mx, .int .i64 cf, .int .i64 sc, .slice A L.length c] 53)) 33 #[.int .u16 n, .int .u8 1, .int .i64 i]).alloc (.cells #[.int .u16 0, .int .i64 0, .int .i64 0, .int .i64 0, .int .i64 0, .slice none 0 0] 53)
  have C2 := Blk.new ((w.alloc (.cells #[.int .u16 me, .int .i64 mn, .int .i64 mx, .int .i64 cf, .int .i64 sc, .slice A L.length c] 53)).alloc (.cells #[.int .u16 n, .int .u8 1, .int .i64 i] 33)) 53 #[.int .u16 0, .int .i64 0, .int .i64 0, .int .i64 0, .int .i64 0, .slice none 0 0]
  rw [hs1] at C1
  rw [hs2] at C2
  have D0 := Lib.hid C0
  have D1 := Lib.hid C1
  have D2 := Lib.hid C2
  have HK0 := Lib.hid K0
  have HR := Lib.hid hR
  have HF := Lib.hid hf
  have l30 : w.heap.size < (((w.alloc (.cells #[.int .u16 me, .int .i64 mn, .int .i64 mx, .int .i64 cf, .int .i64 sc, .slice A L.length c] 53)).alloc (.cells #[.int .u16 n, .int .u8 1, .int .i64 i] 33)).alloc (.cells #[.int .u16 0, .int .i64 0, .int .i64 0, .int .i64 0, .int .i64 0, .slice none 0 0] 53)).heap.size := by rw [hs3]; omega
  have l31 : w.heap.size + 1 < (((w.alloc (.cells #[.int .u16 me, .int .i64 mn, .int .i64 mx, .int .i64 cf, .int .i64 sc, .slice A L.length c] 53)).alloc (.cells #[.int .u16 n, .int .u8 1, .int .i64 i] 33)).alloc (.cells #[.int .u16 0, .int .i64 0, .int .i64 0, .int .i64 0, .int .i64 0, .slice none 0 0] 53)).heap.size := by rw [hs3]; omega
  have l32 : w.heap.size + 1 + 1 < (((w.alloc (.cells #[.int .u16 me, .int .i64 mn, .int .i64 mx, .int .i64 cf, .int .i64 sc, .slice A L.length c] 53)).alloc (.cells #[.int .u16 n, .int .u8 1, .int .i64 i] 33)).alloc (.cells #[.int .u16 0, .int .i64 0, .int .i64 0, .int .i64 0, .int .i64 0, .slice none 0 0] 53)).heap.size := by rw [hs3]; omega
  clear C0 C1 C2 K0 hR hf hs1 hs2 hs3
  go_enter Try.func29, Try.ntmps29
  go_wp2_with fail
  refine (rfind_any ⟨me, mn, mx, cf, sc, []⟩ n A c L _ (Reads.below HR.out (by omega) HK0.out) hlen).mono ?_
  rw [HF.out]
  rintro e w1 ⟨rfl, hb⟩
  have E0 := Lib.hid (D0.out.below hb l30)
  have E1 := Lib.hid (D1.out.below hb l31)
  have E2 := Lib.hid (D2.out.below hb l32)
  have HK1 := Lib.hid (below_then HK0.out HK0.out.size hb)
  have hl1 : w.heap.size + 1 + 1 < w1.heap.size := Nat.lt_of_lt_of_le l32 hb.size
  clear hb l30 l31 l32
  have hl0 : w.heap.size < w1.heap.size := by omega
  have hl01 : w.heap.size + 1 < w1.heap.size := by omega
  have q0 := E0.out.cell 0
  have q1 := E0.out.cell 1
  have q2 := E0.out.cell 2
  have q3 := E0.out.cell 3
  have q4 := E0.out.cell 4
  have q5 := E0.out.cell 5
  have r0 := E1.out.cell 0
  have r1 := E1.out.cell 1
  have r2 := E1.out.cell 2
  have z0 := E2.out.cell 0
  have z1 := E2.out.cell 1
  have z2 := E2.out.cell 2
  have z3 := E2.out.cell 3
  have z4 := E2.out.cell 4
  have z5 := E2.out.cell 5
  have zf := E2.out.frozen
  simp only [List.getElem?_toArray, List.getElem?_cons_zero, List.getElem?_cons_succ] at q0 q1 q2 q3 q4 q5 r0 r1 r2 z0 z1 z2 z3 z4 z5
  generalize hw : w.heap.size = b0 at *
  have HW := Lib.hid hw
  clear hw
  simp only [findVal, em4]
  have hi' : ¬ x.e.i < i := by omega
  go_wp2
  have bz2 := (E2.out.six (.int .u16 me) (.int .i64 mn) (.int .i64 mx) (.int .i64 cf) (.int .i64 sc) (.slice A L.length c)).alloc (.cells #[.int .u16 x.e.n, .int .i64 x.e.i, .int .i64 x.e.f, .slice x.A x.e.who.length x.c] 82)
  have g0 := bz2.cell 0
  have g1 := bz2.cell 1
  have g2 := bz2.cell 2
  have g3 := bz2.cell 3
  have g4 := bz2.cell 4
  have g5 := bz2.cell 5
  simp only [List.getElem?_toArray, List.getElem?_cons_zero, List.getElem?_cons_succ] at g0 g1 g2 g3 g4 g5
  have SIX := Lib.hid ((below_six (g := b0 + 1 + 1) HK1.out (by omega) (.int .u16 me) (.int .i64 mn) (.int .i64 mx) (.int .i64 cf) (.int .i64 sc) (.slice A L.length c)).alloc (by simp [World.setCell]; omega) (.cells #[.int .u16 x.e.n, .int .i64 x.e.i, .int .i64 x.e.f, .slice x.A x.e.who.length x.c] 82))
  refine bodyPost_ret (v := .tuple #[.agg #[.int .u16 me, .int .i64 mn, .int .i64 mx, .int .i64 cf, .int .i64 sc, .slice A L.length c], .bool false]) (by simp [results, Try.results29, go_sem, g0, g1, g2, g3, g4, g5]) rfl ⟨rfl, by rw [HW.out]; exact SIX.out⟩
set_option maxRecDepth 100000 in
set_option maxHeartbeats 4000000 in
theorem rss_full (me mn mx cf sc n i fr now : Int) (A : Option Addr) (c : Nat) (L : List Em) (w : World) (h2 : ¬ 64 ≤ n) (h3 : ¬ 64 ≤ fr) (h4 : ¬ n = me) (h5 : ¬ i < 0) (h6 : ¬ 1073741824 < i) (h7 : ¬ now < 0) (h8 : ¬ 1099511627776 < now) (hR : ReadsE w (fun _ => True) A L) (hlen : L.length ≤ 64) (x : Em) (hf : findE L n = some x) (hi : ¬ x.e.i < i) (hj : ¬ i < x.e.i) (hc : cf < (x.e.who.length : Int)) :
    Calls Try.prog 29 #[.agg #[.int .u16 me, .int .i64 mn, .int .i64 mx, .int .i64 cf, .int .i64 sc, .slice A L.length c], .agg #[.int .u16 n, .int .u8 1, .int .i64 i], .int .u16 fr, .int .i64 now] w fun e w' => e = .returned (.tuple #[.agg #[.int .u16 me, .int .i64 mn, .int .i64 mx, .int .i64 cf, .int .i64 sc, .slice A L.length c], .bool false]) ∧ Below w.heap.size w w' := by
  have t4 : (n == me) = false := by simpa using h4
  have K0 : Below w.heap.size w (((w.alloc (.cells #[.int .u16 me, .int .i64 mn, .int .i64 mx, .int .i64 cf, .int .i64 sc, .slice A L.length c] 53)).alloc (.cells #[.int .u16 n, .int .u8 1, .int .i64 i] 33)).alloc (.cells #[.int .u16 0, .int .i64 0, .int .i64 0, .int .i64 0, .int .i64 0, .slice none 0 0] 53)) := (((Below.refl _ w).alloc (Nat.le_refl _) _).alloc (by simp) _).alloc (by simp; omega) _
  have hs1 : (w.alloc (.cells #[.int .u16 me, .int .i64 mn, .int .i64 mx, .int .i64 cf, .int .i64 sc, .slice A L.length c] 53)).heap.size = w.heap.size + 1 := by simp
  have hs2 : ((w.alloc (.cells #[.int .u16 me, .int .i64 mn, .int .i64 mx, .int .i64 cf, .int .i64 sc, .slice A L.length c] 53)).alloc (.cells #[.int .u16 n, .int .u8 1, .int .i64 i] 33)).heap.size = w.heap.size + 1 + 1 := by simp
  have hs3 : (((w.alloc (.cells #[.int .u16 me, .int .i64 mn, .int .i64 mx, .int .i64 cf, .int .i64 sc, .slice A L.length c] 53)).alloc (.cells #[.int .u16 n, .int .u8 1, .int .i64 i] 33)).alloc (.cells #[.int .u16 0, .int .i64 0, .int .i64 0, .int .i64 0, .int .i64 0, .slice none 0 0] 53)).heap.size = w.heap.size + 1 + 1 + 1 := by simp
  have C0 := ((Blk.new w 53 #[.int .u16 me, .int .i64 mn, .int .i64 mx, .int .i64 cf, .int .i64 sc, .slice A L.length c]).alloc (.cells #[.int .u16 n, .int .u8 1, .int .i64 i] 33)).alloc (.cells #[.int .u16 0, .int .i64 0, .int .i64 0, .int .i64 0, .int .i64 0, .slice none 0 0] 53)
  have C1 := (Blk.new (w.alloc (.cells #[.int .u16 me, .int .i64 mn, .int .i64 mx, .int .i64 cf, .int .i64 sc, .slice A L.length c] 53)) 33 #[.int .u16 n, .int .u8 1, .int .i64 i]).alloc (.cells #[.int .u16 0, .int .i64 0, .int .i64 0, .int .i64 0, .int .i64 0, .slice none 0 0] 53)
  have C2 := Blk.new ((w.alloc (.cells #[.int .u16 me, .int .i64 mn, .int .i64 mx, .int .i64 cf, .int .i64 sc, .slice A L.length c] 53)).alloc (.cells #[.int .u16 n, .int .u8 1, .int .i64 i] 33)) 53 #[.int .u16 0, .int .i64 0, .int .i64 0, .int .i64 0, .int .i64 0, .slice none 0 0]
  rw [hs1] at C1
  rw [hs2] at C2
  have D0 := Lib.hid C0
  have D1 := Lib.hid C1
  have D2 := Lib.hid C2
  have HK0 := Lib.hid K0
  have HR := Lib.hid hR
  have HF := Lib.hid hf
  have l30 : w.heap.size < (((w.alloc (.cells #[.int .u16 me, .int .i64 mn, .int .i64 mx, .int .i64 cf, .int .i64 sc, .slice A L.length c] 53)).alloc (.cells #[.int .u16 n, .int .u8 1, .int .i64 i] 33)).alloc (.cells #[.int .u16 0, .int .i64 0, .int .i64 0, .int .i64 0, .int .i64 0, .slice none 0 0] 53)).heap.size := by rw [hs3]; omega
  have l31 : w.heap.size + 1 < (((w.alloc (.cells #[.int .u16 me, .int .i64 mn, .int .i64 mx, .int .i64 cf, .int .i64 sc, .slice A L.length c] 53)).alloc (.cells #[.int .u16 n, .int .u8 1, .int .i64 i] 33)).alloc (.cells #[.int .u16 0, .int .i64 0, .int .i64 0, .int .i64 0, .int .i64 0, .slice none 0 0] 53)).heap.size := by rw [hs3]; omega
  have l32 : w.heap.size + 1 + 1 < (((w.alloc (.cells #[.int .u16 me, .int .i64 mn, .int .i64 mx, .int .i64 cf, .int .i64 sc, .slice A L.length c] 53)).alloc (.cells #[.int .u16 n, .int .u8 1, .int .i64 i] 33)).alloc (.cells #[.int .u16 0, .int .i64 0, .int .i64 0, .int .i64 0, .int .i64 0, .slice none 0 0] 53)).heap.size := by rw [hs3]; omega
  clear C0 C1 C2 K0 hR hf hs1 hs2 hs3
  go_enter Try.func29, Try.ntmps29
  go_wp2_with fail
  refine (rfind_any ⟨me, mn, mx, cf, sc, []⟩ n A c L _ (Reads.below HR.out (by omega) HK0.out) hlen).mono ?_
  rw [HF.out]
  rintro e w1 ⟨rfl, hb⟩
  have E0 := Lib.hid (D0.out.below hb l30)
  have E1 := Lib.hid (D1.out.below hb l31)
  have E2 := Lib.hid (D2.out.below hb l32)
  have HK1 := Lib.hid (below_then HK0.out HK0.out.size hb)
  have hl1 : w.heap.size + 1 + 1 < w1.heap.size := Nat.lt_of_lt_of_le l32 hb.size
  clear hb l30 l31 l32
  have hl0 : w.heap.size < w1.heap.size := by omega
  have hl01 : w.heap.size + 1 < w1.heap.size := by omega
  have q0 := E0.out.cell 0
  have q1 := E0.out.cell 1
  have q2 := E0.out.cell 2
  have q3 := E0.out.cell 3
  have q4 := E0.out.cell 4
  have q5 := E0.out.cell 5
  have r0 := E1.out.cell 0
  have r1 := E1.out.cell 1
  have r2 := E1.out.cell 2
  have z0 := E2.out.cell 0
  have z1 := E2.out.cell 1
  have z2 := E2.out.cell 2
  have z3 := E2.out.cell 3
  have z4 := E2.out.cell 4
  have z5 := E2.out.cell 5
  have zf := E2.out.frozen
  simp only [List.getElem?_toArray, List.getElem?_cons_zero, List.getElem?_cons_succ] at q0 q1 q2 q3 q4 q5 r0 r1 r2 z0 z1 z2 z3 z4 z5
  generalize hw : w.heap.size = b0 at *
  have HW := Lib.hid hw
  clear hw
  simp only [findVal, em4]
  go_wp2
  have bz2 := (E2.out.six (.int .u16 me) (.int .i64 mn) (.int .i64 mx) (.int .i64 cf) (.int .i64 sc) (.slice A L.length c)).alloc (.cells #[.int .u16 x.e.n, .int .i64 x.e.i, .int .i64 x.e.f, .slice x.A x.e.who.length x.c] 82)
  have g0 := bz2.cell 0
  have g1 := bz2.cell 1
  have g2 := bz2.cell 2
  have g3 := bz2.cell 3
  have g4 := bz2.cell 4
  have g5 := bz2.cell 5
  simp only [List.getElem?_toArray, List.getElem?_cons_zero, List.getElem?_cons_succ] at g0 g1 g2 g3 g4 g5
  have SIX := Lib.hid ((below_six (g := b0 + 1 + 1) HK1.out (by omega) (.int .u16 me) (.int .i64 mn) (.int .i64 mx) (.int .i64 cf) (.int .i64 sc) (.slice A L.length c)).alloc (by simp [World.setCell]; omega) (.cells #[.int .u16 x.e.n, .int .i64 x.e.i, .int .i64 x.e.f, .slice x.A x.e.who.length x.c] 82))
  refine bodyPost_ret (v := .tuple #[.agg #[.int .u16 me, .int .i64 mn, .int .i64 mx, .int .i64 cf, .int .i64 sc, .slice A L.length c], .bool false]) (by simp [results, Try.results29, go_sem, g0, g1, g2, g3, g4, g5]) rfl ⟨rfl, by rw [HW.out]; exact SIX.out⟩
end Go.Proofs.Ytadhcnfgbiokcaa
