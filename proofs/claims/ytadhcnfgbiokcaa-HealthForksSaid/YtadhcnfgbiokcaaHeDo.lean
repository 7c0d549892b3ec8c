/- WALK: a call on both: do. -/
import Derived.Test.YtadhcnfgbiokcaaHeRefK
namespace Go.Proofs.Ytadhcnfgbiokcaa
set_option linter.unusedVariables false
set_option linter.unusedSimpArgs false
open Go.RowKit
/-- A call. -/
structure Ac where
  k : Int
  n : Int
  st : Int
  i : Int
  fr : Int
  now : Int
  by_ : Int
structure AcOk (a : Ac) : Prop where
  k : 0 ≤ a.k ∧ a.k ≤ 255
  n : 0 ≤ a.n ∧ a.n ≤ 65535
  fr : 0 ≤ a.fr ∧ a.fr ≤ 65535
def acells (a : Ac) : List Value := [.int .u8 a.k, .int .u16 a.n, .int .u8 a.st, .int .i64 a.i, .int .u16 a.fr, .int .i64 a.now, .int .i64 a.by_]
/-- What a call makes of the document's health. -/
def rdo (r : Rs) (a : Ac) : Rs := if a.k % 4 = 2 then (rclr r a.n a.st a.i).2 else if a.k % 4 = 3 then rbump r a.by_ else (rsusp r a.n a.st a.i a.fr a.now).2
theorem rdo_ok {r : Rs} (H : RsOk r) {a : Ac} (ha : AcOk a) : RsOk (rdo r a) := by
  unfold rdo
  split
  · exact rclr_ok H _ _ _ ha.n.1
  · split
    · exact rbump_ok H _
    · exact rsusp_ok r H _ _ _ _ _ ha.n.1 ha.fr.1
theorem IsR.there {w : World} {S : Nat → Prop} {v : Value} {r : Rs} (h : IsR w S v r) : IsR w (fun b => S b ∧ b < w.heap.size) v r := by
  obtain ⟨A, c, L, h1, h2, h3, h4⟩ := h
  exact ⟨A, c, L, h1, h2, Reads.there h3 (by omega), fun x hx => Reads.there (h4 x hx) (by omega)⟩
theorem IsR.drew {w : World} {S : Nat → Prop} {v : Value} {r : Rs} (h : IsR w S v r) : IsR w.drew S v r := h
theorem IsR.keep {w w' : World} {S : Nat → Prop} {v : Value} {r : Rs} (h : IsR w S v r) (hk : ∀ b, S b → w'.heap[b]? = w.heap[b]?) : IsR w' S v r := by
  obtain ⟨A, c, L, h1, h2, h3, h4⟩ := h
  exact ⟨A, c, L, h1, h2, Reads.keep h3 hk, fun x hx => Reads.keep (h4 x hx) hk⟩
theorem grown_six {a w : World} {q g : Nat} (h : a.grownBy w (some g)) (hp : a.heap.size ≤ q) (a1 a2 a3 a4 a5 a6 : Value) :
    a.grownBy ((((((w.setCell ⟨q, 0, none⟩ a1).setCell ⟨q, 1, none⟩ a2).setCell ⟨q, 2, none⟩ a3).setCell ⟨q, 3, none⟩ a4).setCell ⟨q, 4, none⟩ a5).setCell ⟨q, 5, none⟩ a6) (some g) :=
  grown_setCell (g := g) (grown_setCell (g := g) (grown_setCell (g := g) (grown_setCell (g := g) (grown_setCell (g := g) (grown_setCell (g := g) h (.inr hp) _) (.inr hp) _) (.inr hp) _) (.inr hp) _) (.inr hp) _) (.inr hp) _
theorem Blk.far6 {w : World} {g q : Nat} {t : TypeId} {cs : Array Value} (h : Blk w g t cs) (hp : g ≠ q) (a1 a2 a3 a4 a5 a6 : Value) :
    Blk ((((((w.setCell ⟨q, 0, none⟩ a1).setCell ⟨q, 1, none⟩ a2).setCell ⟨q, 2, none⟩ a3).setCell ⟨q, 3, none⟩ a4).setCell ⟨q, 4, none⟩ a5).setCell ⟨q, 5, none⟩ a6) g t cs :=
  (((((h.far (p := ⟨q, 0, none⟩) hp _).far (p := ⟨q, 1, none⟩) hp _).far (p := ⟨q, 2, none⟩) hp _).far (p := ⟨q, 3, none⟩) hp _).far (p := ⟨q, 4, none⟩) hp _).far (p := ⟨q, 5, none⟩) hp _
/-- Both are there, and are one. -/
def Both (w : World) (g : Nat) (S : Nat → Prop) (v : Value) (r : Rs) : Prop := IsH w g (ofR r) ∧ IsR w S v r ∧ RsOk r ∧ ∀ b, S b → b ≠ g
set_option maxRecDepth 100000 in
set_option maxHeartbeats 4000000 in
theorem do_sus (g : Nat) (S : Nat → Prop) (r : Rs) (v : Value) (k n st i fr now bb : Int) (w : World) (hB : Both w g S v r) (hn : 0 ≤ n ∧ n ≤ 65535) (hfr : 0 ≤ fr ∧ fr ≤ 65535) (hk0 : 0 ≤ k ∧ k ≤ 255) (hk : ¬ k % 4 = 2) (hk' : ¬ k % 4 = 3) :
    Calls Try.prog 19 #[.pointer (some ⟨g, 0, none⟩), v, .agg #[.int .u8 k, .int .u16 n, .int .u8 st, .int .i64 i, .int .u16 fr, .int .i64 now, .int .i64 bb]] w fun e w' => ∃ v', e = .returned (.tuple #[v', .bool true]) ∧ w.grownBy w' (some g) ∧ Both w' g (fun b => S b ∨ w.heap.size ≤ b) v' ((rsusp r n st i fr now).2) := by
  obtain ⟨hH, hR, hO, hS⟩ := hB
  have HS := Lib.hid hS
  clear hS
  have hg := hH.lt
  have hRt := hR.there
  obtain ⟨A, c, L, rfl, hL, hRd, hWd⟩ := hR
  obtain ⟨n0, n1⟩ := hn
  obtain ⟨f0, f1⟩ := hfr
  obtain ⟨k0, k1⟩ := hk0
  have HR := Lib.hid hRt
  have HO := Lib.hid hO
  have K0 : Below w.heap.size w (((w.alloc (.cells #[.int .u16 r.me, .int .i64 r.mn, .int .i64 r.mx, .int .i64 r.cf, .int .i64 r.sc, .slice A L.length c] 53)).alloc (.cells #[.int .u8 k, .int .u16 n, .int .u8 st, .int .i64 i, .int .u16 fr, .int .i64 now, .int .i64 bb] 59)).alloc (.cells #[.int .u16 0, .int .i64 0, .int .i64 0, .int .i64 0, .int .i64 0, .slice none 0 0] 53)) := (((Below.refl _ w).alloc (Nat.le_refl _) _).alloc (by simp) _).alloc (by simp; omega) _
  have hs1 : (w.alloc (.cells #[.int .u16 r.me, .int .i64 r.mn, .int .i64 r.mx, .int .i64 r.cf, .int .i64 r.sc, .slice A L.length c] 53)).heap.size = w.heap.size + 1 := by simp
  have hs2 : ((w.alloc (.cells #[.int .u16 r.me, .int .i64 r.mn, .int .i64 r.mx, .int .i64 r.cf, .int .i64 r.sc, .slice A L.length c] 53)).alloc (.cells #[.int .u8 k, .int .u16 n, .int .u8 st, .int .i64 i, .int .u16 fr, .int .i64 now, .int .i64 bb] 59)).heap.size = w.heap.size + 1 + 1 := by simp
  have hs3 : (((w.alloc (.cells #[.int .u16 r.me, .int .i64 r.mn, .int .i64 r.mx, .int .i64 r.cf, .int .i64 r.sc, .slice A L.length c] 53)).alloc (.cells #[.int .u8 k, .int .u16 n, .int .u8 st, .int .i64 i, .int .u16 fr, .int .i64 now, .int .i64 bb] 59)).alloc (.cells #[.int .u16 0, .int .i64 0, .int .i64 0, .int .i64 0, .int .i64 0, .slice none 0 0] 53)).heap.size = w.heap.size + 1 + 1 + 1 := by simp
  have C0 := ((Blk.new w 53 #[.int .u16 r.me, .int .i64 r.mn, .int .i64 r.mx, .int .i64 r.cf, .int .i64 r.sc, .slice A L.length c]).alloc (.cells #[.int .u8 k, .int .u16 n, .int .u8 st, .int .i64 i, .int .u16 fr, .int .i64 now, .int .i64 bb] 59)).alloc (.cells #[.int .u16 0, .int .i64 0, .int .i64 0, .int .i64 0, .int .i64 0, .slice none 0 0] 53)
  have C1 := (Blk.new (w.alloc (.cells #[.int .u16 r.me, .int .i64 r.mn, .int .i64 r.mx, .int .i64 r.cf, .int .i64 r.sc, .slice A L.length c] 53)) 59 #[.int .u8 k, .int .u16 n, .int .u8 st, .int .i64 i, .int .u16 fr, .int .i64 now, .int .i64 bb]).alloc (.cells #[.int .u16 0, .int .i64 0, .int .i64 0, .int .i64 0, .int .i64 0, .slice none 0 0] 53)
  have C2 := Blk.new ((w.alloc (.cells #[.int .u16 r.me, .int .i64 r.mn, .int .i64 r.mx, .int .i64 r.cf, .int .i64 r.sc, .slice A L.length c] 53)).alloc (.cells #[.int .u8 k, .int .u16 n, .int .u8 st, .int .i64 i, .int .u16 fr, .int .i64 now, .int .i64 bb] 59)) 53 #[.int .u16 0, .int .i64 0, .int .i64 0, .int .i64 0, .int .i64 0, .slice none 0 0]
  rw [hs1] at C1
  rw [hs2] at C2
  have D0 := Lib.hid C0
  have D1 := Lib.hid C1
  have D2 := Lib.hid C2
  have HK0 := Lib.hid K0
  have HH3 := Lib.hid (hH.below K0 hg)
  have l30 : w.heap.size < (((w.alloc (.cells #[.int .u16 r.me, .int .i64 r.mn, .int .i64 r.mx, .int .i64 r.cf, .int .i64 r.sc, .slice A L.length c] 53)).alloc (.cells #[.int .u8 k, .int .u16 n, .int .u8 st, .int .i64 i, .int .u16 fr, .int .i64 now, .int .i64 bb] 59)).alloc (.cells #[.int .u16 0, .int .i64 0, .int .i64 0, .int .i64 0, .int .i64 0, .slice none 0 0] 53)).heap.size := by rw [hs3]; omega
  have l31 : w.heap.size + 1 < (((w.alloc (.cells #[.int .u16 r.me, .int .i64 r.mn, .int .i64 r.mx, .int .i64 r.cf, .int .i64 r.sc, .slice A L.length c] 53)).alloc (.cells #[.int .u8 k, .int .u16 n, .int .u8 st, .int .i64 i, .int .u16 fr, .int .i64 now, .int .i64 bb] 59)).alloc (.cells #[.int .u16 0, .int .i64 0, .int .i64 0, .int .i64 0, .int .i64 0, .slice none 0 0] 53)).heap.size := by rw [hs3]; omega
  have l32 : w.heap.size + 1 + 1 < (((w.alloc (.cells #[.int .u16 r.me, .int .i64 r.mn, .int .i64 r.mx, .int .i64 r.cf, .int .i64 r.sc, .slice A L.length c] 53)).alloc (.cells #[.int .u8 k, .int .u16 n, .int .u8 st, .int .i64 i, .int .u16 fr, .int .i64 now, .int .i64 bb] 59)).alloc (.cells #[.int .u16 0, .int .i64 0, .int .i64 0, .int .i64 0, .int .i64 0, .slice none 0 0] 53)).heap.size := by rw [hs3]; omega
  clear C0 C1 C2 K0 hs1 hs2 hH hRt hRd hWd hL hO
  unfold hval
  obtain ⟨kq, hkq⟩ : ∃ kq, k % 4 = kq := ⟨_, rfl⟩
  rw [hkq] at hk hk'
  have t2 : (kq == 2) = false := by simpa using hk
  have t3 : (kq == 3) = false := by simpa using hk'
  go_enter Try.func19, Try.ntmps19
  go_wp2_with fail
  refine (suspect_any2 g (ofR r) n st i fr now _ HH3.out HO.out.ok n0 f0).mono ?_
  rw [susp_of r HO.out n st i fr now n0 f0]
  rintro e w1 ⟨rfl, hgr, hH⟩
  have E0 := Lib.hid (D0.out.grown hgr (by intro e; injection e with e; omega))
  have E1 := Lib.hid (D1.out.grown hgr (by intro e; injection e with e; omega))
  have E2 := Lib.hid (D2.out.grown hgr (by intro e; injection e with e; omega))
  have HG1 := Lib.hid (World.grownBy.trans (grown_of_below HK0.out (some g)) hgr)
  have HH1 := Lib.hid hH
  have HR1 := Lib.hid (HR.out.grown (World.grownBy.trans (grown_of_below HK0.out (some g)) hgr) (fun b hb e => by injection e with e; exact HS.out b hb.1 e))
  have hl1 : w.heap.size + 1 + 1 < w1.heap.size := Nat.lt_of_lt_of_le l32 hgr.size
  clear hgr hH l30 l31 l32 HH3 hs3
  have hl0 : w.heap.size < w1.heap.size := by omega
  have hl01 : w.heap.size + 1 < w1.heap.size := by omega
  have q0 := E0.out.cell 0
  have q1 := E0.out.cell 1
  have q2 := E0.out.cell 2
  have q3 := E0.out.cell 3
  have q4 := E0.out.cell 4
  have q5 := E0.out.cell 5
  have a0 := E1.out.cell 0
  have a1 := E1.out.cell 1
  have a2 := E1.out.cell 2
  have a3 := E1.out.cell 3
  have a4 := E1.out.cell 4
  have a5 := E1.out.cell 5
  have a6 := E1.out.cell 6
  simp only [List.getElem?_toArray, List.getElem?_cons_zero, List.getElem?_cons_succ] at q0 q1 q2 q3 q4 q5 a0 a1 a2 a3 a4 a5 a6
  go_wp2_with fail
  refine (rsuspect_any r (hval r A L.length c) n st i fr now _ _ HR1.out HO.out n0 f0).mono ?_
  rintro e w2 ⟨v2, rfl, hR2, hb⟩
  generalize (rsusp r n st i fr now).1 = ok at *
  have hO2 : RsOk ((rsusp r n st i fr now).2) := rsusp_ok r HO.out n st i fr now n0 f0
  have HO2 := Lib.hid hO2
  clear hO2
  obtain ⟨rr, hrr⟩ : ∃ rr, ((rsusp r n st i fr now).2) = rr := ⟨_, rfl⟩
  rw [hrr] at HO2 hR2 HH1
  have HRR := Lib.hid hrr
  clear hrr
  have HR2 := Lib.hid hR2
  obtain ⟨A2, c2, L2, hv2, -, -, -⟩ := hR2
  have hv3 : v2 = .agg #[.int .u16 rr.me, .int .i64 rr.mn, .int .i64 rr.mx, .int .i64 rr.cf, .int .i64 rr.sc, .slice A2 L2.length c2] := hv2
  have HV3 := Lib.hid hv3
  clear hv2 hv3
  rw [HV3.out]
  have F2 := Lib.hid (E2.out.below hb hl1)
  have HG2 := Lib.hid (World.grownBy.trans HG1.out (grown_of_below hb (some g)))
  have HH2 := Lib.hid (HH1.out.below hb HH1.out.lt)
  have hl2 : w.heap.size + 1 + 1 < w2.heap.size := Nat.lt_of_lt_of_le hl1 hb.size
  clear hb q0 q1 q2 q3 q4 q5 a0 a1 a2 a3 a4 a5 a6
  have z0 := F2.out.cell 0
  have z1 := F2.out.cell 1
  have z2 := F2.out.cell 2
  have z3 := F2.out.cell 3
  have z4 := F2.out.cell 4
  have z5 := F2.out.cell 5
  have zf := F2.out.frozen
  simp only [List.getElem?_toArray, List.getElem?_cons_zero, List.getElem?_cons_succ] at z0 z1 z2 z3 z4 z5
  go_wp2
  have bz2 := (F2.out.six (.int .u16 rr.me) (.int .i64 rr.mn) (.int .i64 rr.mx) (.int .i64 rr.cf) (.int .i64 rr.sc) (.slice A2 L2.length c2)).alloc (.cells #[.int .u16 rr.me, .int .i64 rr.mn, .int .i64 rr.mx, .int .i64 rr.cf, .int .i64 rr.sc, .slice A2 L2.length c2] 53)
  have g0 := bz2.cell 0
  have g1 := bz2.cell 1
  have g2 := bz2.cell 2
  have g3 := bz2.cell 3
  have g4 := bz2.cell 4
  have g5 := bz2.cell 5
  simp only [List.getElem?_toArray, List.getElem?_cons_zero, List.getElem?_cons_succ] at g0 g1 g2 g3 g4 g5
  refine bodyPost_ret (v := .tuple #[.agg #[.int .u16 rr.me, .int .i64 rr.mn, .int .i64 rr.mx, .int .i64 rr.cf, .int .i64 rr.sc, .slice A2 L2.length c2], .bool true]) (by simp [results, Try.results19, go_sem, g0, g1, g2, g3, g4, g5]) rfl ⟨_, rfl, ?_, ?_⟩
  · exact grown_alloc (grown_six HG2.out (by omega) _ _ _ _ _ _) _
  · rw [HRR.out]
    refine ⟨(Blk.far6 (HH2.out) (by omega) _ _ _ _ _ _).alloc _, ?_, HO2.out, fun b hb => by rcases hb with hb | hb; exact HS.out b hb; omega⟩
    rw [← HV3.out]
    exact ((HR2.out.keep (fun b hb => below_heap_six _ _ b (by have h2 : b < w.heap.size ∨ w1.heap.size ≤ b := hb.imp (fun h => h.2) (fun h => h); omega) _ _ _ _ _ _)).below ((Below.refl _ _).alloc (Nat.le_refl _) _)).imp (fun b hb => hb.imp (fun h => h.1) (fun h => by omega))
set_option maxRecDepth 100000 in
set_option maxHeartbeats 4000000 in
theorem do_clr (g : Nat) (S : Nat → Prop) (r : Rs) (v : Value) (k n st i fr now bb : Int) (w : World) (hB : Both w g S v r) (hn : 0 ≤ n ∧ n ≤ 65535) (hfr : 0 ≤ fr ∧ fr ≤ 65535) (hk0 : 0 ≤ k ∧ k ≤ 255) (hk : k % 4 = 2) :
    Calls Try.prog 19 #[.pointer (some ⟨g, 0, none⟩), v, .agg #[.int .u8 k, .int .u16 n, .int .u8 st, .int .i64 i, .int .u16 fr, .int .i64 now, .int .i64 bb]] w fun e w' => ∃ v', e = .returned (.tuple #[v', .bool true]) ∧ w.grownBy w' (some g) ∧ Both w' g (fun b => S b ∨ w.heap.size ≤ b) v' ((rclr r n st i).2) := by
  obtain ⟨hH, hR, hO, hS⟩ := hB
  have HS := Lib.hid hS
  clear hS
  have hg := hH.lt
  have hRt := hR.there
  obtain ⟨A, c, L, rfl, hL, hRd, hWd⟩ := hR
  obtain ⟨n0, n1⟩ := hn
  obtain ⟨f0, f1⟩ := hfr
  obtain ⟨k0, k1⟩ := hk0
  have HR := Lib.hid hRt
  have HO := Lib.hid hO
  have K0 : Below w.heap.size w (((w.alloc (.cells #[.int .u16 r.me, .int .i64 r.mn, .int .i64 r.mx, .int .i64 r.cf, .int .i64 r.sc, .slice A L.length c] 53)).alloc (.cells #[.int .u8 k, .int .u16 n, .int .u8 st, .int .i64 i, .int .u16 fr, .int .i64 now, .int .i64 bb] 59)).alloc (.cells #[.int .u16 0, .int .i64 0, .int .i64 0, .int .i64 0, .int .i64 0, .slice none 0 0] 53)) := (((Below.refl _ w).alloc (Nat.le_refl _) _).alloc (by simp) _).alloc (by simp; omega) _
  have hs1 : (w.alloc (.cells #[.int .u16 r.me, .int .i64 r.mn, .int .i64 r.mx, .int .i64 r.cf, .int .i64 r.sc, .slice A L.length c] 53)).heap.size = w.heap.size + 1 := by simp
  have hs2 : ((w.alloc (.cells #[.int .u16 r.me, .int .i64 r.mn, .int .i64 r.mx, .int .i64 r.cf, .int .i64 r.sc, .slice A L.length c] 53)).alloc (.cells #[.int .u8 k, .int .u16 n, .int .u8 st, .int .i64 i, .int .u16 fr, .int .i64 now, .int .i64 bb] 59)).heap.size = w.heap.size + 1 + 1 := by simp
  have hs3 : (((w.alloc (.cells #[.int .u16 r.me, .int .i64 r.mn, .int .i64 r.mx, .int .i64 r.cf, .int .i64 r.sc, .slice A L.length c] 53)).alloc (.cells #[.int .u8 k, .int .u16 n, .int .u8 st, .int .i64 i, .int .u16 fr, .int .i64 now, .int .i64 bb] 59)).alloc (.cells #[.int .u16 0, .int .i64 0, .int .i64 0, .int .i64 0, .int .i64 0, .slice none 0 0] 53)).heap.size = w.heap.size + 1 + 1 + 1 := by simp
  have C0 := ((Blk.new w 53 #[.int .u16 r.me, .int .i64 r.mn, .int .i64 r.mx, .int .i64 r.cf, .int .i64 r.sc, .slice A L.length c]).alloc (.cells #[.int .u8 k, .int .u16 n, .int .u8 st, .int .i64 i, .int .u16 fr, .int .i64 now, .int .i64 bb] 59)).alloc (.cells #[.int .u16 0, .int .i64 0, .int .i64 0, .int .i64 0, .int .i64 0, .slice none 0 0] 53)
  have C1 := (Blk.new (w.alloc (.cells #[.int .u16 r.me, .int .i64 r.mn, .int .i64 r.mx, .int .i64 r.cf, .int .i64 r.sc, .slice A L.length c] 53)) 59 #[.int .u8 k, .int .u16 n, .int .u8 st, .int .i64 i, .int .u16 fr, .int .i64 now, .int .i64 bb]).alloc (.cells #[.int .u16 0, .int .i64 0, .int .i64 0, .int .i64 0, .int .i64 0, .slice none 0 0] 53)
  have C2 := Blk.new ((w.alloc (.cells #[.int .u16 r.me, .int .i64 r.mn, .int .i64 r.mx, .int .i64 r.cf, .int .i64 r.sc, .slice A L.length c] 53)).alloc (.cells #[.int .u8 k, .int .u16 n, .int .u8 st, .int .i64 i, .int .u16 fr, .int .i64 now, .int .i64 bb] 59)) 53 #[.int .u16 0, .int .i64 0, .int .i64 0, .int .i64 0, .int .i64 0, .slice none 0 0]
  rw [hs1] at C1
  rw [hs2] at C2
  have D0 := Lib.hid C0
  have D1 := Lib.hid C1
  have D2 := Lib.hid C2
  have HK0 := Lib.hid K0
  have HH3 := Lib.hid (hH.below K0 hg)
  have l30 : w.heap.size < (((w.alloc (.cells #[.int .u16 r.me, .int .i64 r.mn, .int .i64 r.mx, .int .i64 r.cf, .int .i64 r.sc, .slice A L.length c] 53)).alloc (.cells #[.int .u8 k, .int .u16 n, .int .u8 st, .int .i64 i, .int .u16 fr, .int .i64 now, .int .i64 bb] 59)).alloc (.cells #[.int .u16 0, .int .i64 0, .int .i64 0, .int .i64 0, .int .i64 0, .slice none 0 0] 53)).heap.size := by rw [hs3]; omega
  have l31 : w.heap.size + 1 < (((w.alloc (.cells #[.int .u16 r.me, .int .i64 r.mn, .int .i64 r.mx, .int .i64 r.cf, .int .i64 r.sc, .slice A L.length c] 53)).alloc (.cells #[.int .u8 k, .int .u16 n, .int .u8 st, .int .i64 i, .int .u16 fr, .int .i64 now, .int .i64 bb] 59)).alloc (.cells #[.int .u16 0, .int .i64 0, .int .i64 0, .int .i64 0, .int .i64 0, .slice none 0 0] 53)).heap.size := by rw [hs3]; omega
  have l32 : w.heap.size + 1 + 1 < (((w.alloc (.cells #[.int .u16 r.me, .int .i64 r.mn, .int .i64 r.mx, .int .i64 r.cf, .int .i64 r.sc, .slice A L.length c] 53)).alloc (.cells #[.int .u8 k, .int .u16 n, .int .u8 st, .int .i64 i, .int .u16 fr, .int .i64 now, .int .i64 bb] 59)).alloc (.cells #[.int .u16 0, .int .i64 0, .int .i64 0, .int .i64 0, .int .i64 0, .slice none 0 0] 53)).heap.size := by rw [hs3]; omega
  clear C0 C1 C2 K0 hs1 hs2 hH hRt hRd hWd hL hO
  unfold hval
  go_enter Try.func19, Try.ntmps19
  go_wp2_with fail
  refine (clear_any g (ofR r) n st i _ HH3.out n0).mono ?_
  rw [clr_of HO.out n st i n0]
  rintro e w1 ⟨rfl, hgr, hH⟩
  have E0 := Lib.hid (D0.out.grown hgr (by intro e; injection e with e; omega))
  have E1 := Lib.hid (D1.out.grown hgr (by intro e; injection e with e; omega))
  have E2 := Lib.hid (D2.out.grown hgr (by intro e; injection e with e; omega))
  have HG1 := Lib.hid (World.grownBy.trans (grown_of_below HK0.out (some g)) hgr)
  have HH1 := Lib.hid hH
  have HR1 := Lib.hid (HR.out.grown (World.grownBy.trans (grown_of_below HK0.out (some g)) hgr) (fun b hb e => by injection e with e; exact HS.out b hb.1 e))
  have hl1 : w.heap.size + 1 + 1 < w1.heap.size := Nat.lt_of_lt_of_le l32 hgr.size
  clear hgr hH l30 l31 l32 HH3 hs3
  have hl0 : w.heap.size < w1.heap.size := by omega
  have hl01 : w.heap.size + 1 < w1.heap.size := by omega
  have q0 := E0.out.cell 0
  have q1 := E0.out.cell 1
  have q2 := E0.out.cell 2
  have q3 := E0.out.cell 3
  have q4 := E0.out.cell 4
  have q5 := E0.out.cell 5
  have a0 := E1.out.cell 0
  have a1 := E1.out.cell 1
  have a2 := E1.out.cell 2
  have a3 := E1.out.cell 3
  have a4 := E1.out.cell 4
  have a5 := E1.out.cell 5
  have a6 := E1.out.cell 6
  simp only [List.getElem?_toArray, List.getElem?_cons_zero, List.getElem?_cons_succ] at q0 q1 q2 q3 q4 q5 a0 a1 a2 a3 a4 a5 a6
  go_wp2_with fail
  refine (rclear_any2 r (hval r A L.length c) n st i _ _ HR1.out HO.out).mono ?_
  rintro e w2 ⟨v2, rfl, hR2, hb⟩
  generalize (rclr r n st i).1 = ok at *
  have hO2 : RsOk ((rclr r n st i).2) := rclr_ok HO.out n st i n0
  have HO2 := Lib.hid hO2
  clear hO2
  obtain ⟨rr, hrr⟩ : ∃ rr, ((rclr r n st i).2) = rr := ⟨_, rfl⟩
  rw [hrr] at HO2 hR2 HH1
  have HRR := Lib.hid hrr
  clear hrr
  have HR2 := Lib.hid hR2
  obtain ⟨A2, c2, L2, hv2, -, -, -⟩ := hR2
  have hv3 : v2 = .agg #[.int .u16 rr.me, .int .i64 rr.mn, .int .i64 rr.mx, .int .i64 rr.cf, .int .i64 rr.sc, .slice A2 L2.length c2] := hv2
  have HV3 := Lib.hid hv3
  clear hv2 hv3
  rw [HV3.out]
  have F2 := Lib.hid (E2.out.below hb hl1)
  have HG2 := Lib.hid (World.grownBy.trans HG1.out (grown_of_below hb (some g)))
  have HH2 := Lib.hid (HH1.out.below hb HH1.out.lt)
  have hl2 : w.heap.size + 1 + 1 < w2.heap.size := Nat.lt_of_lt_of_le hl1 hb.size
  clear hb q0 q1 q2 q3 q4 q5 a0 a1 a2 a3 a4 a5 a6
  have z0 := F2.out.cell 0
  have z1 := F2.out.cell 1
  have z2 := F2.out.cell 2
  have z3 := F2.out.cell 3
  have z4 := F2.out.cell 4
  have z5 := F2.out.cell 5
  have zf := F2.out.frozen
  simp only [List.getElem?_toArray, List.getElem?_cons_zero, List.getElem?_cons_succ] at z0 z1 z2 z3 z4 z5
  go_wp2
  have bz2 := (F2.out.six (.int .u16 rr.me) (.int .i64 rr.mn) (.int .i64 rr.mx) (.int .i64 rr.cf) (.int .i64 rr.sc) (.slice A2 L2.length c2)).alloc (.cells #[.int .u16 rr.me, .int .i64 rr.mn, .int .i64 rr.mx, .int .i64 rr.cf, .int .i64 rr.sc, .slice A2 L2.length c2] 53)
  have g0 := bz2.cell 0
  have g1 := bz2.cell 1
  have g2 := bz2.cell 2
  have g3 := bz2.cell 3
  have g4 := bz2.cell 4
  have g5 := bz2.cell 5
  simp only [List.getElem?_toArray, List.getElem?_cons_zero, List.getElem?_cons_succ] at g0 g1 g2 g3 g4 g5
  refine bodyPost_ret (v := .tuple #[.agg #[.int .u16 rr.me, .int .i64 rr.mn, .int .i64 rr.mx, .int .i64 rr.cf, .int .i64 rr.sc, .slice A2 L2.length c2], .bool true]) (by simp [results, Try.results19, go_sem, g0, g1, g2, g3, g4, g5]) rfl ⟨_, rfl, ?_, ?_⟩
  · exact grown_alloc (grown_six HG2.out (by omega) _ _ _ _ _ _) _
  · rw [HRR.out]
    refine ⟨(Blk.far6 (HH2.out) (by omega) _ _ _ _ _ _).alloc _, ?_, HO2.out, fun b hb => by rcases hb with hb | hb; exact HS.out b hb; omega⟩
    rw [← HV3.out]
    exact ((HR2.out.keep (fun b hb => below_heap_six _ _ b (by have h2 : b < w.heap.size ∨ w1.heap.size ≤ b := hb.imp (fun h => h.2) (fun h => h); omega) _ _ _ _ _ _)).below ((Below.refl _ _).alloc (Nat.le_refl _) _)).imp (fun b hb => hb.imp (fun h => h.1) (fun h => by omega))
set_option maxRecDepth 100000 in
set_option maxHeartbeats 4000000 in
theorem do_bump (g : Nat) (S : Nat → Prop) (r : Rs) (v : Value) (k n st i fr now bb : Int) (w : World) (hB : Both w g S v r) (hn : 0 ≤ n ∧ n ≤ 65535) (hfr : 0 ≤ fr ∧ fr ≤ 65535) (hk0 : 0 ≤ k ∧ k ≤ 255) (hk : k % 4 = 3) :
    Calls Try.prog 19 #[.pointer (some ⟨g, 0, none⟩), v, .agg #[.int .u8 k, .int .u16 n, .int .u8 st, .int .i64 i, .int .u16 fr, .int .i64 now, .int .i64 bb]] w fun e w' => ∃ v', e = .returned (.tuple #[v', .bool true]) ∧ w.grownBy w' (some g) ∧ Both w' g (fun b => S b ∨ w.heap.size ≤ b) v' (rbump r bb) := by
  obtain ⟨hH, hR, hO, hS⟩ := hB
  have HS := Lib.hid hS
  clear hS
  have hg := hH.lt
  have hRt := hR.there
  obtain ⟨A, c, L, rfl, hL, hRd, hWd⟩ := hR
  obtain ⟨n0, n1⟩ := hn
  obtain ⟨f0, f1⟩ := hfr
  obtain ⟨k0, k1⟩ := hk0
  have HR := Lib.hid hRt
  have HO := Lib.hid hO
  have K0 : Below w.heap.size w (((w.alloc (.cells #[.int .u16 r.me, .int .i64 r.mn, .int .i64 r.mx, .int .i64 r.cf, .int .i64 r.sc, .slice A L.length c] 53)).alloc (.cells #[.int .u8 k, .int .u16 n, .int .u8 st, .int .i64 i, .int .u16 fr, .int .i64 now, .int .i64 bb] 59)).alloc (.cells #[.int .u16 0, .int .i64 0, .int .i64 0, .int .i64 0, .int .i64 0, .slice none 0 0] 53)) := (((Below.refl _ w).alloc (Nat.le_refl _) _).alloc (by simp) _).alloc (by simp; omega) _
  have hs1 : (w.alloc (.cells #[.int .u16 r.me, .int .i64 r.mn, .int .i64 r.mx, .int .i64 r.cf, .int .i64 r.sc, .slice A L.length c] 53)).heap.size = w.heap.size + 1 := by simp
  have hs2 : ((w.alloc (.cells #[.int .u16 r.me, .int .i64 r.mn, .int .i64 r.mx, .int .i64 r.cf, .int .i64 r.sc, .slice A L.length c] 53)).alloc (.cells #[.int .u8 k, .int .u16 n, .int .u8 st, .int .i64 i, .int .u16 fr, .int .i64 now, .int .i64 bb] 59)).heap.size = w.heap.size + 1 + 1 := by simp
  have hs3 : (((w.alloc (.cells #[.int .u16 r.me, .int .i64 r.mn, .int .i64 r.mx, .int .i64 r.cf, .int .i64 r.sc, .slice A L.length c] 53)).alloc (.cells #[.int .u8 k, .int .u16 n, .int .u8 st, .int .i64 i, .int .u16 fr, .int .i64 now, .int .i64 bb] 59)).alloc (.cells #[.int .u16 0, .int .i64 0, .int .i64 0, .int .i64 0, .int .i64 0, .slice none 0 0] 53)).heap.size = w.heap.size + 1 + 1 + 1 := by simp
  have C0 := ((Blk.new w 53 #[.int .u16 r.me, .int .i64 r.mn, .int .i64 r.mx, .int .i64 r.cf, .int .i64 r.sc, .slice A L.length c]).alloc (.cells #[.int .u8 k, .int .u16 n, .int .u8 st, .int .i64 i, .int .u16 fr, .int .i64 now, .int .i64 bb] 59)).alloc (.cells #[.int .u16 0, .int .i64 0, .int .i64 0, .int .i64 0, .int .i64 0, .slice none 0 0] 53)
  have C1 := (Blk.new (w.alloc (.cells #[.int .u16 r.me, .int .i64 r.mn, .int .i64 r.mx, .int .i64 r.cf, .int .i64 r.sc, .slice A L.length c] 53)) 59 #[.int .u8 k, .int .u16 n, .int .u8 st, .int .i64 i, .int .u16 fr, .int .i64 now, .int .i64 bb]).alloc (.cells #[.int .u16 0, .int .i64 0, .int .i64 0, .int .i64 0, .int .i64 0, .slice none 0 0] 53)
  have C2 := Blk.new ((w.alloc (.cells #[.int .u16 r.me, .int .i64 r.mn, .int .i64 r.mx, .int .i64 r.cf, .int .i64 r.sc, .slice A L.length c] 53)).alloc (.cells #[.int .u8 k, .int .u16 n, .int .u8 st, .int .i64 i, .int .u16 fr, .int .i64 now, .int .i64 bb] 59)) 53 #[.int .u16 0, .int .i64 0, .int .i64 0, .int .i64 0, .int .i64 0, .slice none 0 0]
  rw [hs1] at C1
  rw [hs2] at C2
  have D0 := Lib.hid C0
  have D1 := Lib.hid C1
  have D2 := Lib.hid C2
  have HK0 := Lib.hid K0
  have HH3 := Lib.hid (hH.below K0 hg)
  have l30 : w.heap.size < (((w.alloc (.cells #[.int .u16 r.me, .int .i64 r.mn, .int .i64 r.mx, .int .i64 r.cf, .int .i64 r.sc, .slice A L.length c] 53)).alloc (.cells #[.int .u8 k, .int .u16 n, .int .u8 st, .int .i64 i, .int .u16 fr, .int .i64 now, .int .i64 bb] 59)).alloc (.cells #[.int .u16 0, .int .i64 0, .int .i64 0, .int .i64 0, .int .i64 0, .slice none 0 0] 53)).heap.size := by rw [hs3]; omega
  have l31 : w.heap.size + 1 < (((w.alloc (.cells #[.int .u16 r.me, .int .i64 r.mn, .int .i64 r.mx, .int .i64 r.cf, .int .i64 r.sc, .slice A L.length c] 53)).alloc (.cells #[.int .u8 k, .int .u16 n, .int .u8 st, .int .i64 i, .int .u16 fr, .int .i64 now, .int .i64 bb] 59)).alloc (.cells #[.int .u16 0, .int .i64 0, .int .i64 0, .int .i64 0, .int .i64 0, .slice none 0 0] 53)).heap.size := by rw [hs3]; omega
  have l32 : w.heap.size + 1 + 1 < (((w.alloc (.cells #[.int .u16 r.me, .int .i64 r.mn, .int .i64 r.mx, .int .i64 r.cf, .int .i64 r.sc, .slice A L.length c] 53)).alloc (.cells #[.int .u8 k, .int .u16 n, .int .u8 st, .int .i64 i, .int .u16 fr, .int .i64 now, .int .i64 bb] 59)).alloc (.cells #[.int .u16 0, .int .i64 0, .int .i64 0, .int .i64 0, .int .i64 0, .slice none 0 0] 53)).heap.size := by rw [hs3]; omega
  clear C0 C1 C2 K0 hs1 hs2 hH hRt hRd hWd hL hO
  unfold hval
  go_enter Try.func19, Try.ntmps19
  go_wp2_with fail
  refine (bump_any g (ofR r) bb _ HH3.out HO.out.ok.ok.sc).mono ?_
  rw [← rbump_of r bb]
  rintro e w1 ⟨rfl, hgr, hH⟩
  have E0 := Lib.hid (D0.out.grown hgr (by intro e; injection e with e; omega))
  have E1 := Lib.hid (D1.out.grown hgr (by intro e; injection e with e; omega))
  have E2 := Lib.hid (D2.out.grown hgr (by intro e; injection e with e; omega))
  have HG1 := Lib.hid (World.grownBy.trans (grown_of_below HK0.out (some g)) hgr)
  have HH1 := Lib.hid hH
  have HR1 := Lib.hid (HR.out.grown (World.grownBy.trans (grown_of_below HK0.out (some g)) hgr) (fun b hb e => by injection e with e; exact HS.out b hb.1 e))
  have hl1 : w.heap.size + 1 + 1 < w1.heap.size := Nat.lt_of_lt_of_le l32 hgr.size
  clear hgr hH l30 l31 l32 HH3 hs3
  have hl0 : w.heap.size < w1.heap.size := by omega
  have hl01 : w.heap.size + 1 < w1.heap.size := by omega
  have q0 := E0.out.cell 0
  have q1 := E0.out.cell 1
  have q2 := E0.out.cell 2
  have q3 := E0.out.cell 3
  have q4 := E0.out.cell 4
  have q5 := E0.out.cell 5
  have a0 := E1.out.cell 0
  have a1 := E1.out.cell 1
  have a2 := E1.out.cell 2
  have a3 := E1.out.cell 3
  have a4 := E1.out.cell 4
  have a5 := E1.out.cell 5
  have a6 := E1.out.cell 6
  simp only [List.getElem?_toArray, List.getElem?_cons_zero, List.getElem?_cons_succ] at q0 q1 q2 q3 q4 q5 a0 a1 a2 a3 a4 a5 a6
  go_wp2_with fail
  refine (rbump_any2 r (hval r A L.length c) bb _ _ HR1.out HO.out).mono ?_
  rintro e w2 ⟨v2, rfl, hR2, hb⟩
  have hsc : bumped (ofR r).sc bb = (rbump r bb).sc := rfl
  rw [hsc]
  have hO2 : RsOk (rbump r bb) := rbump_ok HO.out bb
  have HO2 := Lib.hid hO2
  clear hO2
  obtain ⟨rr, hrr⟩ : ∃ rr, (rbump r bb) = rr := ⟨_, rfl⟩
  rw [hrr] at HO2 hR2 HH1 ⊢
  have HRR := Lib.hid hrr
  clear hrr
  have HR2 := Lib.hid hR2
  obtain ⟨A2, c2, L2, hv2, -, -, -⟩ := hR2
  have hv3 : v2 = .agg #[.int .u16 rr.me, .int .i64 rr.mn, .int .i64 rr.mx, .int .i64 rr.cf, .int .i64 rr.sc, .slice A2 L2.length c2] := hv2
  have HV3 := Lib.hid hv3
  clear hv2 hv3
  rw [HV3.out]
  have F2 := Lib.hid (E2.out.below hb hl1)
  have HG2 := Lib.hid (World.grownBy.trans HG1.out (grown_of_below hb (some g)))
  have HH2 := Lib.hid (HH1.out.below hb HH1.out.lt)
  have hl2 : w.heap.size + 1 + 1 < w2.heap.size := Nat.lt_of_lt_of_le hl1 hb.size
  clear hb q0 q1 q2 q3 q4 q5 a0 a1 a2 a3 a4 a5 a6
  have z0 := F2.out.cell 0
  have z1 := F2.out.cell 1
  have z2 := F2.out.cell 2
  have z3 := F2.out.cell 3
  have z4 := F2.out.cell 4
  have z5 := F2.out.cell 5
  have zf := F2.out.frozen
  simp only [List.getElem?_toArray, List.getElem?_cons_zero, List.getElem?_cons_succ] at z0 z1 z2 z3 z4 z5
  go_wp2
  go_region
  go_wp2
  have bz2 := ((F2.out.six (.int .u16 rr.me) (.int .i64 rr.mn) (.int .i64 rr.mx) (.int .i64 rr.cf) (.int .i64 rr.sc) (.slice A2 L2.length c2)).alloc (.cells #[.int .u16 rr.me, .int .i64 rr.mn, .int .i64 rr.mx, .int .i64 rr.cf, .int .i64 rr.sc, .slice A2 L2.length c2] 53)).drew
  have g0 := bz2.cell 0
  have g1 := bz2.cell 1
  have g2 := bz2.cell 2
  have g3 := bz2.cell 3
  have g4 := bz2.cell 4
  have g5 := bz2.cell 5
  simp only [List.getElem?_toArray, List.getElem?_cons_zero, List.getElem?_cons_succ] at g0 g1 g2 g3 g4 g5
  refine bodyPost_ret (v := .tuple #[.agg #[.int .u16 rr.me, .int .i64 rr.mn, .int .i64 rr.mx, .int .i64 rr.cf, .int .i64 rr.sc, .slice A2 L2.length c2], .bool true]) (by simp [results, Try.results19, go_sem, g0, g1, g2, g3, g4, g5]) rfl ⟨_, rfl, ?_, ?_⟩
  · exact grown_drew (grown_alloc (grown_six HG2.out (by omega) _ _ _ _ _ _) _)
  · rw [HRR.out]
    refine ⟨((Blk.far6 (HH2.out) (by omega) _ _ _ _ _ _).alloc _).drew, ?_, HO2.out, fun b hb => by rcases hb with hb | hb; exact HS.out b hb; omega⟩
    rw [← HV3.out]
    exact (((HR2.out.keep (fun b hb => below_heap_six _ _ b (by have h2 : b < w.heap.size := hb.2; omega) _ _ _ _ _ _)).below ((Below.refl _ _).alloc (Nat.le_refl _) _)).imp (fun b hb => .inl hb.1)).drew
end Go.Proofs.Ytadhcnfgbiokcaa
