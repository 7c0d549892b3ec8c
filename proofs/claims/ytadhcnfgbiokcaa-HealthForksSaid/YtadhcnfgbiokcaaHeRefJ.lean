/- WALKS: the document's health: Suspect. -/
import Derived.Test.YtadhcnfgbiokcaaHeRefB
namespace Go.Proofs.Ytadhcnfgbiokcaa
set_option linter.unusedVariables false
set_option linter.unusedSimpArgs false
open Go.RowKit
theorem u16s_one (l : List Int) : ∀ u ∈ u16s l, u.oneCell' = true := by
  intro u hu
  unfold u16s at hu
  obtain ⟨a, _, rfl⟩ := List.mem_map.1 hu
  rfl
theorem below_heap_six (w : World) (g b : Nat) (hb : b ≠ g) (a1 a2 a3 a4 a5 a6 : Value) :
    ((((((w.setCell ⟨g, 0, none⟩ a1).setCell ⟨g, 1, none⟩ a2).setCell ⟨g, 2, none⟩ a3).setCell ⟨g, 3, none⟩ a4).setCell ⟨g, 4, none⟩ a5).setCell ⟨g, 5, none⟩ a6).heap[b]? = w.heap[b]? :=
  (Below.heap_setCell _ ⟨g, 5, none⟩ _ b hb).trans ((Below.heap_setCell _ ⟨g, 4, none⟩ _ b hb).trans ((Below.heap_setCell _ ⟨g, 3, none⟩ _ b hb).trans ((Below.heap_setCell _ ⟨g, 2, none⟩ _ b hb).trans ((Below.heap_setCell _ ⟨g, 1, none⟩ _ b hb).trans (Below.heap_setCell _ ⟨g, 0, none⟩ _ b hb)))))
set_option maxRecDepth 100000 in
set_option maxHeartbeats 4000000 in
theorem rss_more (me mn mx cf sc n i fr now : Int) (A : Option Addr) (c : Nat) (L : List Em) (w : World) (h2 : ¬ 64 ≤ n) (h3 : ¬ 64 ≤ fr) (h4 : ¬ n = me) (h5 : ¬ i < 0) (h6 : ¬ 1073741824 < i) (h7 : ¬ now < 0) (h8 : ¬ 1099511627776 < now) (hR : ReadsE w (fun _ => True) A L) (hlen : L.length ≤ 64) (x : Em) (hf : findE L n = some x) (hi : ¬ x.e.i < i) (hj : ¬ i < x.e.i) (hc : ¬ cf < (x.e.who.length : Int)) (hw0 : 1 ≤ x.e.who.length) (hw1 : x.e.who.length ≤ 17) (hwr : Reads w (fun _ => True) 1 x.A x.e.who.length (u16s x.e.who)) :
    Calls Try.prog 29 #[.agg #[.int .u16 me, .int .i64 mn, .int .i64 mx, .int .i64 cf, .int .i64 sc, .slice A L.length c], .agg #[.int .u16 n, .int .u8 1, .int .i64 i], .int .u16 fr, .int .i64 now] w fun e w' => (fr ∈ x.e.who ∧ e = .returned (.tuple #[.agg #[.int .u16 me, .int .i64 mn, .int .i64 mx, .int .i64 cf, .int .i64 sc, .slice A L.length c], .bool false]) ∧ Below w.heap.size w w') ∨ (¬ fr ∈ x.e.who ∧ ∃ Am cm A' c', e = .returned (.tuple #[.agg #[.int .u16 me, .int .i64 mn, .int .i64 mx, .int .i64 cf, .int .i64 sc, .slice A' (setL L ⟨⟨x.e.n, x.e.i, x.e.f, x.e.who ++ [fr]⟩, Am, cm⟩).length c'], .bool true]) ∧ w'.ownsRow w.heap.size 82 4 (.slice A' (setL L ⟨⟨x.e.n, x.e.i, x.e.f, x.e.who ++ [fr]⟩, Am, cm⟩).length c') (setL L ⟨⟨x.e.n, x.e.i, x.e.f, x.e.who ++ [fr]⟩, Am, cm⟩).length (ecells (setL L ⟨⟨x.e.n, x.e.i, x.e.f, x.e.who ++ [fr]⟩, Am, cm⟩)) ∧ Below w.heap.size w w' ∧ Reads w' (fun b => w.heap.size ≤ b) 1 Am (x.e.who ++ [fr]).length (u16s (x.e.who ++ [fr]))) := by
  have HWR := Lib.hid hwr
  clear hwr
  have t4 : (n == me) = false := by simpa using h4
  have K0 : Below w.heap.size w (((w.alloc (.cells #[.int .u16 me, .int .i64 mn, .int .i64 mx, .int .i64 cf, .int .i64 sc, .slice A L.length c] 53)).alloc (.cells #[.int .u16 n, .int .u8 1, .int .i64 i] 33)).alloc (.cells #[.int .u16 0, .int .i64 0, .int .i64 0, .int .i64 0, .int .i64 0, .slice none 0 0] 53)) := (((Below.refl _ w).alloc (Nat.le_refl _) _).alloc (by simp) _).alloc (by simp; omega) _
  have hs1 : (w.alloc (.cells #[.int .u16 me, .int .i64 mn, .int .i64 mx, .int .i64 cf, .int .i64 sc, .slice A L.length c] 53)).heap.size = w.heap.size + 1 := by simp
  have hs2 : ((w.alloc (.cells #[.int .u16 me, .int .i64 mn, .int .i64 mx, .int .i64 cf, .int .i64 sc, .slice A L.length c] 53)).alloc (.cells #[.int .u16 n, .int .u8 1, .int .i64 i] 33)).heap.size = w.heap.size + 1 + 1 := by simp
  have hs3 : (((w.alloc (.cells #[.int .u16 me, .int .i64 mn, .int .i64 mx, .int .i64 cf, .int .i64 sc, .slice A L.length c] 53)).alloc (.cells #[.int .u16 n, .int .u8 1, .int .i64 i] 33)).alloc (.cells #[.int .u16 0, .int .i64 0, .int .i64 0, .int .i64 0, .int .i64 0, .slice none 0 0] 53)).heap.size = w.heap.size + 1 + 1 + 1 := by simp
  have C0 := ((Blk.new w 53 #[.int .u16 me, .int .i64 mn, .int .i64 mx, .int .i64 cf, .int .i64 sc, .slice A L.length c]).alloc (.cells #[.int .u16 n, .int .u8 1, .int .i64 i] 33)).alloc (.cells #[.int .u16 0, .int .i64 0, .int .i64 0, .int .i64 0, .int .i64 0, .slice none 0 0] 53)
  have C1 := (Blk.new (w.alloc (.cells #[.int .u16 me, .int .i64 mn, .int .i64 mx, .int .i64 cf, .int .i64 sc, .slice A L.length c] 53)) 33 #[.int .u16 n, .int .u8 1, .int .i64 i]).alloc (.cells #[.int .u16 0, .int .i64 0, .int .i64 0, .int .i64 0, .int .i64 0, .slice none 0 0] 53)
  have C2 := Blk.new ((w.alloc (.cells #[.int .u16 me, .int .i64 mn, .int .i64 mx, .int .i64 cf, .int .i64 sc, .slice A L.length c] 53)).alloc (.cells #[.int .u16 n, .int .u8 1, .int .i64 i] 33)) 53 #[.int .u16 0, .int .i64 0, .int .i64 0, .int .i64 0, .int .i64 0, .slice none 0 0]
  rw [hs1] at C1
  rw [hs2] at C2
  have D0 := Lib.hid C0
  have D1 := Lib.hid C1
  have D2 := Lib.hid C2
  have HK0 := Lib.hid K0
  have HR := Lib.hid hR
  have HF := Lib.hid hf
  have l30 : w.heap.size < (((w.alloc (.cells #[.int .u16 me, .int .i64 mn, .int .i64 mx, .int .i64 cf, .int .i64 sc, .slice A L.length c] 53)).alloc (.cells #[.int .u16 n, .int .u8 1, .int .i64 i] 33)).alloc (.cells #[.int .u16 0, .int .i64 0, .int .i64 0, .int .i64 0, .int .i64 0, .slice none 0 0] 53)).heap.size := by rw [hs3]; omega
  have l31 : w.heap.size + 1 < (((w.alloc (.cells #[.int .u16 me, .int .i64 mn, .int .i64 mx, .int .i64 cf, .int .i64 sc, .slice A L.length c] 53)).alloc (.cells #[.int .u16 n, .int .u8 1, .int .i64 i] 33)).alloc (.cells #[.int .u16 0, .int .i64 0, .int .i64 0, .int .i64 0, .int .i64 0, .slice none 0 0] 53)).heap.size := by rw [hs3]; omega
  have l32 : w.heap.size + 1 + 1 < (((w.alloc (.cells #[.int .u16 me, .int .i64 mn, .int .i64 mx, .int .i64 cf, .int .i64 sc, .slice A L.length c] 53)).alloc (.cells #[.int .u16 n, .int .u8 1, .int .i64 i] 33)).alloc (.cells #[.int .u16 0, .int .i64 0, .int .i64 0, .int .i64 0, .int .i64 0, .slice none 0 0] 53)).heap.size := by rw [hs3]; omega
  clear C0 C1 C2 K0 hR hf hs1 hs2 hs3
  go_enter Try.func29, Try.ntmps29
  go_wp2_with fail
  refine (rfind_any ⟨me, mn, mx, cf, sc, []⟩ n A c L _ (Reads.below HR.out (by omega) HK0.out) hlen).mono ?_
  rw [HF.out]
  rintro e w1 ⟨rfl, hb⟩
  have E0 := Lib.hid (D0.out.below hb l30)
  have E1 := Lib.hid (D1.out.below hb l31)
  have E2 := Lib.hid (D2.out.below hb l32)
  have HK1 := Lib.hid (below_then HK0.out HK0.out.size hb)
  have hl1 : w.heap.size + 1 + 1 < w1.heap.size := Nat.lt_of_lt_of_le l32 hb.size
  clear hb l30 l31 l32
  have hl0 : w.heap.size < w1.heap.size := by omega
  have hl01 : w.heap.size + 1 < w1.heap.size := by omega
  have q0 := E0.out.cell 0
  have q1 := E0.out.cell 1
  have q2 := E0.out.cell 2
  have q3 := E0.out.cell 3
  have q4 := E0.out.cell 4
  have q5 := E0.out.cell 5
  have r0 := E1.out.cell 0
  have r1 := E1.out.cell 1
  have r2 := E1.out.cell 2
  have z0 := E2.out.cell 0
  have z1 := E2.out.cell 1
  have z2 := E2.out.cell 2
  have z3 := E2.out.cell 3
  have z4 := E2.out.cell 4
  have z5 := E2.out.cell 5
  have zf := E2.out.frozen
  simp only [List.getElem?_toArray, List.getElem?_cons_zero, List.getElem?_cons_succ] at q0 q1 q2 q3 q4 q5 r0 r1 r2 z0 z1 z2 z3 z4 z5
  generalize hw : w.heap.size = b0 at *
  have HW := Lib.hid hw
  clear hw
  simp only [findVal, em4]
  have K4 : Below b0 w (w1.alloc (.cells #[.int .u16 x.e.n, .int .i64 x.e.i, .int .i64 x.e.f, .slice x.A x.e.who.length x.c] 82)) := HK1.out.alloc (by omega) _
  have hs4 : (w1.alloc (.cells #[.int .u16 x.e.n, .int .i64 x.e.i, .int .i64 x.e.f, .slice x.A x.e.who.length x.c] 82)).heap.size = w1.heap.size + 1 := by simp
  have G0 := Lib.hid (E0.out.alloc (.cells #[.int .u16 x.e.n, .int .i64 x.e.i, .int .i64 x.e.f, .slice x.A x.e.who.length x.c] 82))
  have G1 := Lib.hid (E1.out.alloc (.cells #[.int .u16 x.e.n, .int .i64 x.e.i, .int .i64 x.e.f, .slice x.A x.e.who.length x.c] 82))
  have G2 := Lib.hid (E2.out.alloc (.cells #[.int .u16 x.e.n, .int .i64 x.e.i, .int .i64 x.e.f, .slice x.A x.e.who.length x.c] 82))
  have GS := Lib.hid (Blk.new w1 82 #[.int .u16 x.e.n, .int .i64 x.e.i, .int .i64 x.e.f, .slice x.A x.e.who.length x.c])
  have WR := Lib.hid ((Reads.below HWR.out (by omega) (by rw [HW.out]; exact K4)).there (by omega))
  have HK4 := Lib.hid K4
  clear K4
  go_wp2
  clear q0 q1 q2 q3 q4 q5 z0 z1 z2 z3 z4 z5 zf
  generalize (w1.alloc (.cells #[.int .u16 x.e.n, .int .i64 x.e.i, .int .i64 x.e.f, .slice x.A x.e.who.length x.c] 82)) = W at *
  have s0 := GS.out.cell 0
  have s1 := GS.out.cell 1
  have s2 := GS.out.cell 2
  have s3 := GS.out.cell 3
  have q0 := G0.out.cell 0
  have q1 := G0.out.cell 1
  have q2 := G0.out.cell 2
  have q3 := G0.out.cell 3
  have q4 := G0.out.cell 4
  have q5 := G0.out.cell 5
  have z0 := G2.out.cell 0
  have z1 := G2.out.cell 1
  have z2 := G2.out.cell 2
  have z3 := G2.out.cell 3
  have z4 := G2.out.cell 4
  have z5 := G2.out.cell 5
  have zf := G2.out.frozen
  simp only [List.getElem?_toArray, List.getElem?_cons_zero, List.getElem?_cons_succ] at s0 s1 s2 s3 q0 q1 q2 q3 q4 q5 z0 z1 z2 z3 z4 z5
  clear r0 r1 r2
  go_loopw [12] (fun iv wr => ∃ k : Nat, k ≤ x.e.who.length ∧ iv = .int .i64 k ∧ ¬ fr ∈ x.e.who.take k ∧ wr = W) (fun iv _ => x.e.who.length - (intOf iv).toNat)
  case atStart => exact ⟨0, Nat.zero_le _, rfl, by simp, rfl⟩
  case round =>
    obtain ⟨k, hk, rfl, hnot, rfl⟩ := hrel
    have HNOT := Lib.hid hnot
    clear hnot
    by_cases hlt : k < x.e.who.length
    · obtain ⟨u, hu⟩ : ∃ u, x.e.who[k]? = some u := ⟨x.e.who[k], List.getElem?_eq_getElem hlt⟩
      obtain ⟨bk, o, hxA, hbk, hcw⟩ := WR.out.2 (by omega)
      have hcu := hcw k _ (u16s_get _ k u hu)
      have HU := Lib.hid hu
      have hge0 : (0 : Int) ≤ (k : Int) := by omega
      have hltI : (k : Int) < (x.e.who.length : Int) := by omega
      clear hcw hu
      rw [hxA] at s3
      by_cases huf : u = fr
      · have tu : (u == fr) = true := by simpa using huf
        have hmem : fr ∈ x.e.who := huf ▸ List.mem_of_getElem? HU.out
        have HM := Lib.hid hmem
        clear huf hmem
        go_wp2
        have bz2 := G2.out.six (.int .u16 me) (.int .i64 mn) (.int .i64 mx) (.int .i64 cf) (.int .i64 sc) (.slice A L.length c)
        have g0 := bz2.cell 0
        have g1 := bz2.cell 1
        have g2 := bz2.cell 2
        have g3 := bz2.cell 3
        have g4 := bz2.cell 4
        have g5 := bz2.cell 5
        simp only [List.getElem?_toArray, List.getElem?_cons_zero, List.getElem?_cons_succ] at g0 g1 g2 g3 g4 g5
        have SIX := Lib.hid (below_six (g := b0 + 1 + 1) HK4.out (by omega) (.int .u16 me) (.int .i64 mn) (.int .i64 mx) (.int .i64 cf) (.int .i64 sc) (.slice A L.length c))
        refine bodyPost_ret (v := .tuple #[.agg #[.int .u16 me, .int .i64 mn, .int .i64 mx, .int .i64 cf, .int .i64 sc, .slice A L.length c], .bool false]) (by simp [results, Try.results29, go_sem, g0, g1, g2, g3, g4, g5]) rfl (.inl ⟨HM.out, rfl, by rw [HW.out]; exact SIX.out⟩)
      · have tu : (u == fr) = false := by simpa using huf
        have HNK := Lib.hid (show ¬ fr ∈ x.e.who.take (k + 1) by
          rw [take_one _ k u HU.out, List.mem_append, List.mem_singleton]
          rintro (h | h)
          · exact HNOT.out h
          · exact huf h.symm)
        clear huf
        go_wp2
        go_roundw
        case rel => exact ⟨k + 1, by omega, by go_num, HNK.out, trivial⟩
        case measure => simp [intOf]; omega
    · obtain rfl : k = x.e.who.length := by omega
      have HN := Lib.hid (show ¬ fr ∈ x.e.who by have := HNOT.out; rwa [List.take_length] at this)
      obtain ⟨bk, o, hxA, hbk, hcw⟩ := WR.out.2 (by omega)
      have HCW := Lib.hid hcw
      rw [hxA] at s3
      clear hcw
      obtain ⟨i0, hi0, hzz⟩ := Option.map_eq_some_iff.1 u16_info
      simp only [Prod.mk.injEq] at hzz
      obtain ⟨hz0, hz1, hz2⟩ := hzz
      have HI := Lib.hid hi0
      have HZ := Lib.hid (⟨hz0, hz1, hz2⟩ : i0.zero = some (.int .u16 0) ∧ i0.size = 1 ∧ i0.bytes = 2)
      clear hi0 hz0 hz1 hz2
      obtain ⟨nw, hnw⟩ : ∃ nw, x.e.who ++ [fr] = nw := ⟨_, rfl⟩
      have HNW := Lib.hid hnw
      clear hnw
      go_wp2_with (at_builtin; first
        | (refine wpList_append_own_at wr rfl (.tmp 110) (.tmp 112) 80 rfl wr.heap.size 22 i0 (.int .u16 0) 1 2 und80 HI.out HZ.out.1 HZ.out.2.1 HZ.out.2.2 rfl (by omega) (.slice none 0 0) 0 [] rfl (own_nil wr wr.heap.size 22 1) ⟨bk, o, none⟩ x.e.who.length x.c (u16s x.e.who) rfl (u16s_length _) ?_ (u16s_one _) ?_ ?_ (Nat.le_refl _) ?_
           · intro j v hv; rw [Addr.add_mid]; exact HCW.out j v hv
           · simp only [maxLen]; omega
           · omega
           intro v5 w5 ho5 hg5 _ _
           have ho5' : w5.ownsRow wr.heap.size 22 1 v5 x.e.who.length (u16s x.e.who) := by simpa using ho5
           have K5 := Lib.hid (below_of_grown (Nat.le_refl _) hg5 (fun q e => by cases e) : Below wr.heap.size wr w5)
           have O5 := Lib.hid ho5'
           have l5 := K5.out.size
           clear ho5 ho5' hg5)
        | (refine app_row wr.heap.size rfl (.tmp 113) (.tmp 115) 80 22 _ 1 2 rfl und80 u16_info rfl (by omega) _ _ _ _ rfl _ rfl (by simp) (by simp [Value.oneCell']) rfl O5.out l5 (by first | omega | (simp; omega)) (by first | omega | (simp; omega)) ?_
           intro v6 w6 ho6 hg6 hat6
           have ho6' : w6.ownsRow wr.heap.size 22 1 v6 nw.length (u16s nw) := by rw [← HNW.out]; simpa [u16s] using ho6
           have K6 := Lib.hid (K5.out.trans (below_of_grown l5 hg6 (own_base O5.out)))
           have RW6 := Reads.of_own ho6'
           obtain ⟨A6, c6, rfl, hr6⟩ := RW6
           have HR6 := Lib.hid (hr6.imp (S' := fun b => wr.heap.size ≤ b) (fun b hb => own_base ho6' b hb))
           have hl6 := K6.out.size
           have ls6 : w1.heap.size < w6.heap.size := by omega
           have GS6 := Lib.hid (GS.out.below K6.out (by omega))
           have t0 := GS6.out.cell 0
           have t1 := GS6.out.cell 1
           have t2 := GS6.out.cell 2
           have t3 := GS6.out.cell 3
           have tf := GS6.out.frozen
           have G06 := Lib.hid (G0.out.below K6.out (by omega))
           have p0 := G06.out.cell 0
           have p1 := G06.out.cell 1
           have p2 := G06.out.cell 2
           have p3 := G06.out.cell 3
           have p4 := G06.out.cell 4
           have p5 := G06.out.cell 5
           simp only [List.getElem?_toArray, List.getElem?_cons_zero, List.getElem?_cons_succ] at t0 t1 t2 t3 p0 p1 p2 p3 p4 p5
           clear ho6 ho6' hg6 hat6 hr6)
        | fail)
      have KS6 := Lib.hid (((K6.out.mono (show w1.heap.size ≤ wr.heap.size by omega)).setCell (p := ⟨w1.heap.size, 3, none⟩) (Nat.le_refl _) (.slice A6 nw.length c6)))
      have HKB := Lib.hid (below_then (HK4.out) (by omega) ((K6.out.mono (Nat.le_refl _))) : Below b0 w w6)
      have HKC := Lib.hid (HKB.out.setCell (p := ⟨w1.heap.size, 3, none⟩) (by show b0 ≤ w1.heap.size; omega) (.slice A6 nw.length c6))
      have G26 := Lib.hid ((G2.out.below K6.out (by omega)).far (p := ⟨w1.heap.size, 3, none⟩) (by show b0 + 1 + 1 ≠ w1.heap.size; omega) (.slice A6 nw.length c6))
      have HRS := Lib.hid (Reads.keep HR6.out (w' := w6.setCell ⟨w1.heap.size, 3, none⟩ (.slice A6 nw.length c6)) (fun b hb => Below.heap_setCell w6 ⟨w1.heap.size, 3, none⟩ _ b (by show b ≠ w1.heap.size; omega)))
      have hsz7 : (w6.setCell ⟨w1.heap.size, 3, none⟩ (.slice A6 nw.length c6)).heap.size = w6.heap.size := by simp [World.setCell]
      generalize (w6.setCell ⟨w1.heap.size, 3, none⟩ (.slice A6 nw.length c6)) = w7 at *
      refine (rwith_any ⟨me, mn, mx, cf, sc, []⟩ A c L ⟨⟨x.e.n, x.e.i, x.e.f, nw⟩, A6, c6⟩ _ (Reads.below HR.out (by omega) (by rw [HW.out]; exact HKC.out)) hlen).mono ?_
      rintro e w8 ⟨A2, c2, rfl, ho, hb⟩
      have F2 := Lib.hid (G26.out.below hb (by omega))
      have HR8 := Lib.hid (Reads.below HRS.out (by omega) hb)
      have HK8 := Lib.hid (below_then HKC.out (by omega) hb)
      have HO := Lib.hid ho
      have hl8 : b0 + 1 + 1 < w8.heap.size := by have := hb.size; omega
      clear ho hb z0 z1 z2 z3 z4 z5 zf q0 q1 q2 q3 q4 q5 t0 t1 t2 t3 tf p0 p1 p2 p3 p4 p5
      have z0 := F2.out.cell 0
      have z1 := F2.out.cell 1
      have z2 := F2.out.cell 2
      have z3 := F2.out.cell 3
      have z4 := F2.out.cell 4
      have z5 := F2.out.cell 5
      have zf := F2.out.frozen
      simp only [List.getElem?_toArray, List.getElem?_cons_zero, List.getElem?_cons_succ] at z0 z1 z2 z3 z4 z5
      simp only [hval]
      generalize hSL : setL L ⟨⟨x.e.n, x.e.i, x.e.f, nw⟩, A6, c6⟩ = SL at *
      have HSL := Lib.hid hSL
      clear hSL
      go_wp2
      have bz2 := F2.out.six (.int .u16 me) (.int .i64 mn) (.int .i64 mx) (.int .i64 cf) (.int .i64 sc) (.slice A2 SL.length c2)
      have g0 := bz2.cell 0
      have g1 := bz2.cell 1
      have g2 := bz2.cell 2
      have g3 := bz2.cell 3
      have g4 := bz2.cell 4
      have g5 := bz2.cell 5
      simp only [List.getElem?_toArray, List.getElem?_cons_zero, List.getElem?_cons_succ] at g0 g1 g2 g3 g4 g5
      have SIX := Lib.hid (below_six (g := b0 + 1 + 1) HK8.out (by omega) (.int .u16 me) (.int .i64 mn) (.int .i64 mx) (.int .i64 cf) (.int .i64 sc) (.slice A2 SL.length c2))
      refine bodyPost_ret (v := .tuple #[.agg #[.int .u16 me, .int .i64 mn, .int .i64 mx, .int .i64 cf, .int .i64 sc, .slice A2 SL.length c2], .bool true]) (by simp [results, Try.results29, go_sem, g0, g1, g2, g3, g4, g5]) rfl (.inr ⟨HN.out, A6, c6, A2, c2, ?_, ?_, ?_, ?_⟩)
      · rw [HNW.out, HSL.out]
      · rw [HNW.out, HSL.out, HW.out]
        exact own_lower (own_six (HO.out) (by omega)) (by omega)
      · rw [HW.out]; exact SIX.out
      · rw [HNW.out, HW.out]
        exact (Reads.keep HR8.out (fun b hb => below_heap_six _ _ b (by omega) _ _ _ _ _ _)).imp (fun b hb => by omega)
end Go.Proofs.Ytadhcnfgbiokcaa
