/- WALKS: the world's acts on both: Ack. -/
import Derived.Test.YtnlpgjdgiappcaaPrW
namespace Go.Proofs.Ytnlpgjdgiappcaa
set_option linter.unusedVariables false
set_option linter.unusedSimpArgs false
open Go.RowKit

def tenr (w : World) (g : Nat) (a b c d e f h i j k : Value) : World := (((((((((w.setCell ⟨g, 2, none⟩ a).setCell ⟨g, 3, none⟩ b).setCell ⟨g, 4, none⟩ c).setCell ⟨g, 5, none⟩ d).setCell ⟨g, 6, none⟩ e).setCell ⟨g, 7, none⟩ f).setCell ⟨g, 8, none⟩ h).setCell ⟨g, 9, none⟩ i).setCell ⟨g, 10, none⟩ j).setCell ⟨g, 11, none⟩ k
theorem Blk.tenr {w : World} {g : Nat} {t : TypeId} {u0 u1 x0 x1 x2 x3 x4 x5 x6 x7 x8 x9 u2 u3 u4 : Value} (h : Blk w g t #[u0, u1, x0, x1, x2, x3, x4, x5, x6, x7, x8, x9, u2, u3, u4]) (a b c d e f h' i j k : Value) : Blk (tenr w g a b c d e f h' i j k) g t #[u0, u1, a, b, c, d, e, f, h', i, j, k, u2, u3, u4] := by
  unfold Ytnlpgjdgiappcaa.tenr
  have := (((((((((h.set_ 2 a).set_ 3 b).set_ 4 c).set_ 5 d).set_ 6 e).set_ 7 f).set_ 8 h').set_ 9 i).set_ 10 j).set_ 11 k
  simpa only [List.setIfInBounds_toArray, List.set_cons_succ, List.set_cons_zero] using this
theorem below_tenr {B : Nat} {a w : World} (h : Below B a w) {g : Nat} (hg : B ≤ g) (v0 v1 v2 v3 v4 v5 v6 v7 v8 v9 : Value) : Below B a (tenr w g v0 v1 v2 v3 v4 v5 v6 v7 v8 v9) :=
  ((((((((((h.setCell (p := ⟨g, 2, none⟩) hg v0).setCell (p := ⟨g, 3, none⟩) hg v1).setCell (p := ⟨g, 4, none⟩) hg v2).setCell (p := ⟨g, 5, none⟩) hg v3).setCell (p := ⟨g, 6, none⟩) hg v4).setCell (p := ⟨g, 7, none⟩) hg v5).setCell (p := ⟨g, 8, none⟩) hg v6).setCell (p := ⟨g, 9, none⟩) hg v7).setCell (p := ⟨g, 10, none⟩) hg v8).setCell (p := ⟨g, 11, none⟩) hg v9)
theorem heap_tenr (w : World) (g b : Nat) (h : b ≠ g) (v0 v1 v2 v3 v4 v5 v6 v7 v8 v9 : Value) : (tenr w g v0 v1 v2 v3 v4 v5 v6 v7 v8 v9).heap[b]? = w.heap[b]? :=
  (Below.heap_setCell _ ⟨g, 11, none⟩ v9 b h).trans ((Below.heap_setCell _ ⟨g, 10, none⟩ v8 b h).trans ((Below.heap_setCell _ ⟨g, 9, none⟩ v7 b h).trans ((Below.heap_setCell _ ⟨g, 8, none⟩ v6 b h).trans ((Below.heap_setCell _ ⟨g, 7, none⟩ v5 b h).trans ((Below.heap_setCell _ ⟨g, 6, none⟩ v4 b h).trans ((Below.heap_setCell _ ⟨g, 5, none⟩ v3 b h).trans ((Below.heap_setCell _ ⟨g, 4, none⟩ v2 b h).trans ((Below.heap_setCell _ ⟨g, 3, none⟩ v1 b h).trans (Below.heap_setCell _ ⟨g, 2, none⟩ v0 b h)))))))))
theorem size_tenr (w : World) (g : Nat) (v0 v1 v2 v3 v4 v5 v6 v7 v8 v9 : Value) : (tenr w g v0 v1 v2 v3 v4 v5 v6 v7 v8 v9).heap.size = w.heap.size := by simp [tenr, World.setCell]
theorem rack_w (r : Pl.Rp) (a s : Int) : (Pl.rack r a s).2.w = r.w := by unfold Pl.rack; split <;> rfl
theorem ack_me (p : Pl.Pb) (a s : Int) : (Pl.ack p a s).2.me = p.me := by unfold Pl.ack; split <;> rfl
set_option maxRecDepth 100000 in
set_option maxHeartbeats 4000000 in
theorem do_ack (g gp gt : Nat) (p : Pl.Pb) (F : Pl.Tab) (r : Pl.Rp) (A : Option Addr) (cA : Nat) (z : Int) (G : Pl.Tab) (B : Option Addr) (cB : Nat) (now : Int) (a : Ac) (w : World) (B0 : Nat) (hB0 : B0 ≤ w.heap.size) (hB1 : B0 ≤ g) (hB2 : B0 ≤ gp) (hB3 : B0 ≤ gt)
    (H : WS w g gp gt p F r A cA z G B cB now) (hk : a.k.tmod 5 = 2) :
    Calls Try.prog 39 #[.pointer (some ⟨g, 0, none⟩), .agg (acells a)] w fun e w' => ∃ b, e = .returned (.bool b) ∧ b = ((Pl.ack p a.m.n a.s).1 == (Pl.rack r a.m.n a.s).1) ∧ Below B0 w w' ∧ WS w' g gp gt (Pl.ack p a.m.n a.s).2 F (Pl.rack r a.m.n a.s).2 A cA z G B cB now := by
  have HH := Lib.hid H
  have BW0 := Lib.hid H.blk
  have lg := H.blk.lt
  have lp := H.pb.lt
  have lpw := H.pb.lt
  have hne := H.ne1
  have HP := Lib.hid H.pb
  have HAck := Lib.hid (fun (w' : World) (hP : IsPb w' gp p) => ack_any gp p a.m.n a.s w' hP)
  have HRack := Lib.hid (fun w' => refAck_any r A r.w.length cA a.m.n a.s w')
  clear H
  unfold rackVal at HRack
  unfold rpc at HRack
  unfold wcells at BW0
  unfold acells
  obtain ⟨c1, hc1⟩ : ∃ c, (Pl.ack p a.m.n a.s).1 = c := ⟨_, rfl⟩
  obtain ⟨c2, hc2⟩ : ∃ c, (Pl.rack r a.m.n a.s).1 = c := ⟨_, rfl⟩
  have HC1 := Lib.hid hc1
  have HC2 := Lib.hid hc2
  have HAck2 : Hid (∀ (w' : World), IsPb w' gp p → Calls Try.prog 35 #[.pointer (some ⟨gp, 0, none⟩), .int .u16 a.m.n, .int .i64 a.s] w' fun e w2 => e = .returned (.bool c1) ∧ w'.grownBy w2 (some gp) ∧ IsPb w2 gp (Pl.ack p a.m.n a.s).2) := Lib.hid (fun w' hP => by have := HAck.out w' hP; rw [hc1] at this; exact this)
  obtain ⟨q, hq⟩ : ∃ q, (Pl.rack r a.m.n a.s).2 = q := ⟨_, rfl⟩
  have HQ := Lib.hid hq
  have HRack2 : Hid (∀ (w' : World), Calls Try.prog 58 #[.agg #[.int .u16 r.me, .int .i64 r.per, .int .i64 r.tmo, .int .i64 r.nxt, .int .i64 r.seq, .bool r.op, .bool r.hlp, .int .u16 r.nd, .int .i64 r.at_, .slice A r.w.length cA], .int .u16 a.m.n, .int .i64 a.s] w' fun e w2 => e = .returned (.tuple #[.agg #[.int .u16 q.me, .int .i64 q.per, .int .i64 q.tmo, .int .i64 q.nxt, .int .i64 q.seq, .bool q.op, .bool q.hlp, .int .u16 q.nd, .int .i64 q.at_, .slice A r.w.length cA], .bool c2]) ∧ Below w'.heap.size w' w2) := Lib.hid (fun w' => by have := HRack.out w'; rw [hc2, hq] at this; exact this)
  clear HAck HRack hc1 hc2 hq
  generalize a.k = k0 at *
  generalize a.b = k1 at *
  generalize a.d = k2 at *
  have K1 := Lib.hid ((Below.refl B0 w).alloc hB0 (.cells #[.int .u8 k0, .int .u8 k1, .int .u32 k2, .int .u16 a.m.n, .int .u8 a.m.s, .int .i64 a.m.i, .int .i64 a.s] 85))
  have BA1 := Lib.hid (Blk.new w 85 #[.int .u8 k0, .int .u8 k1, .int .u32 k2, .int .u16 a.m.n, .int .u8 a.m.s, .int .i64 a.m.i, .int .i64 a.s])
  have BW1 := Lib.hid (BW0.out.alloc (.cells #[.int .u8 k0, .int .u8 k1, .int .u32 k2, .int .u16 a.m.n, .int .u8 a.m.s, .int .i64 a.m.i, .int .i64 a.s] 85))
  have P1 := Lib.hid (HP.out.alloc (.cells #[.int .u8 k0, .int .u8 k1, .int .u32 k2, .int .u16 a.m.n, .int .u8 a.m.s, .int .i64 a.m.i, .int .i64 a.s] 85))
  go_enter Try.func39, Try.ntmps39
  go_upto_region 3 with fail
  have KB1 : Hid (∀ b, b < w.heap.size → (w.alloc (.cells #[.int .u8 k0, .int .u8 k1, .int .u32 k2, .int .u16 a.m.n, .int .u8 a.m.s, .int .i64 a.m.i, .int .i64 a.s] 85)).heap[b]? = w.heap[b]?) := Lib.hid (fun b hb => Below.heap_alloc w _ b hb)
  have SZ1 : Hid (w.heap.size ≤ (w.alloc (.cells #[.int .u8 k0, .int .u8 k1, .int .u32 k2, .int .u16 a.m.n, .int .u8 a.m.s, .int .i64 a.m.i, .int .i64 a.s] 85)).heap.size) := Lib.hid (by simp)
  generalize w.alloc (.cells #[.int .u8 k0, .int .u8 k1, .int .u32 k2, .int .u16 a.m.n, .int .u8 a.m.s, .int .i64 a.m.i, .int .i64 a.s] 85) = w1 at *
  obtain ⟨ba, hba⟩ : ∃ b, w.heap.size = b := ⟨_, rfl⟩
  rw [hba]
  have HBA := Lib.hid hba
  have BA2 : Hid (Blk w1 ba 85 #[.int .u8 k0, .int .u8 k1, .int .u32 k2, .int .u16 a.m.n, .int .u8 a.m.s, .int .i64 a.m.i, .int .i64 a.s]) := Lib.hid (by rw [← hba]; exact BA1.out)
  have hgba : g ≠ ba := by omega
  have hpba : gp ≠ ba := by omega
  have hb0 : B0 ≤ ba := by omega
  clear BA1 hba BW0 HP
  have y0 := BW1.out.cell 0
  have y1 := BW1.out.cell 1
  have y2 := BW1.out.cell 2
  have y3 := BW1.out.cell 3
  have y4 := BW1.out.cell 4
  have y5 := BW1.out.cell 5
  have y6 := BW1.out.cell 6
  have y7 := BW1.out.cell 7
  have y8 := BW1.out.cell 8
  have y9 := BW1.out.cell 9
  have y10 := BW1.out.cell 10
  have y11 := BW1.out.cell 11
  have y12 := BW1.out.cell 12
  have y13 := BW1.out.cell 13
  have y14 := BW1.out.cell 14
  simp only [List.getElem?_toArray, List.getElem?_cons_zero, List.getElem?_cons_succ] at y0 y1 y2 y3 y4 y5 y6 y7 y8 y9 y10 y11 y12 y13 y14
  have x0 := BA2.out.cell 0
  have x1 := BA2.out.cell 1
  have x2 := BA2.out.cell 2
  have x3 := BA2.out.cell 3
  have x4 := BA2.out.cell 4
  have x5 := BA2.out.cell 5
  have x6 := BA2.out.cell 6
  simp only [List.getElem?_toArray, List.getElem?_cons_zero, List.getElem?_cons_succ] at x0 x1 x2 x3 x4 x5 x6
  go_still_tail 9, (by kernel_rfl)
  change wpList _ _ _ _ _ (World.drew w1)
  go_wp2_with fail
  refine (HAck2.out _ P1.out.drew).mono ?_
  rintro e w2 ⟨rfl, hgr, hP2⟩
  have P2 := Lib.hid hP2
  have BW2 := Lib.hid (BW1.out.drew.grown hgr (by intro e; injection e with e; exact hne e))
  have BA3 := Lib.hid (BA2.out.drew.grown hgr (by intro e; injection e with e; exact hpba e.symm))
  have K2 := Lib.hid (K1.out.drew.trans (below_of_grown (B := B0) (Nat.le_trans hB0 K1.out.drew.size) hgr (fun q e => by injection e with e; omega)))
  have KB2 : Hid (∀ b, b < w.heap.size → b ≠ gp → w2.heap[b]? = w.heap[b]?) := Lib.hid (fun b hb hne => (hgr.block b (by have := SZ1.out; show b < w1.heap.size; omega) (by intro e; injection e with e; exact hne e)).trans (KB1.out b hb))
  have SZ2 : Hid (w.heap.size ≤ w2.heap.size) := Lib.hid (Nat.le_trans SZ1.out hgr.size)
  clear hgr hP2 y0 y1 y2 y3 y4 y5 y6 y7 y8 y9 y10 y11 y12 y13 y14 x0 x1 x2 x3 x4 x5 x6
  have y0 := BW2.out.cell 0
  have y1 := BW2.out.cell 1
  have y2 := BW2.out.cell 2
  have y3 := BW2.out.cell 3
  have y4 := BW2.out.cell 4
  have y5 := BW2.out.cell 5
  have y6 := BW2.out.cell 6
  have y7 := BW2.out.cell 7
  have y8 := BW2.out.cell 8
  have y9 := BW2.out.cell 9
  have y10 := BW2.out.cell 10
  have y11 := BW2.out.cell 11
  have y12 := BW2.out.cell 12
  have y13 := BW2.out.cell 13
  have y14 := BW2.out.cell 14
  simp only [List.getElem?_toArray, List.getElem?_cons_zero, List.getElem?_cons_succ] at y0 y1 y2 y3 y4 y5 y6 y7 y8 y9 y10 y11 y12 y13 y14
  have x0 := BA3.out.cell 0
  have x1 := BA3.out.cell 1
  have x2 := BA3.out.cell 2
  have x3 := BA3.out.cell 3
  have x4 := BA3.out.cell 4
  have x5 := BA3.out.cell 5
  have x6 := BA3.out.cell 6
  simp only [List.getElem?_toArray, List.getElem?_cons_zero, List.getElem?_cons_succ] at x0 x1 x2 x3 x4 x5 x6
  have lg2 := BW2.out.lt
  have la2 := BA3.out.lt
  have HSW := Lib.hid (keepB (Below.refl w2.heap.size w2))
  go_upto_region 4 with fail
  go_cut [6, 7] from 29 to 41 (fun s6 s7 wx => ∃ b6, s6 = .pointer (some ⟨b6, 0, none⟩) ∧ s7 = .bool c2 ∧ w2.heap.size ≤ b6 ∧ Go.RowKit.Hid (SB w2.heap.size w2 wx) ∧ Go.RowKit.Hid (Blk wx b6 81 #[.int .u16 q.me, .int .i64 q.per, .int .i64 q.tmo, .int .i64 q.nxt, .int .i64 q.seq, .bool q.op, .bool q.hlp, .int .u16 q.nd, .int .i64 q.at_, .slice A r.w.length cA]))
  case first =>
    go_region_held3 (fun X => SB w2.heap.size w2 X) (((repeat (with_reducible first | assumption | exact HSW.out | refine sb_drew ?_ | refine sb_alloc ?_ (Nat.le_refl _) _ | refine sb_set ?_ ?_ _)); all_goals first | done | (with_reducible exact Nat.le_refl _) | (simp; done) | (simp; omega) | omega))
      (first
        | (go_at_call 58
           refine (HRack2.out _).mono ?_
           rintro e w3 ⟨rfl, hb⟩
           have S3 : SB w2.heap.size w2 w3 := sb_then (by assumption) hb
           have L3 := hb.size
           first
             | (obtain ⟨k0', k1', k2'⟩ := kept1 hb; have z0 := k0'.cell 0; have z1 := k0'.cell 1; have z2 := k0'.cell 2; have z3 := k0'.cell 3; have z4 := k0'.cell 4; have z5 := k0'.cell 5; have z6 := k0'.cell 6; have z7 := k0'.cell 7; have z8 := k0'.cell 8; have z9 := k0'.cell 9; have zf := k0'.frozen; have BK0 := Lib.hid k0'; clear k0'; simp only [List.getElem?_toArray, List.getElem?_cons_zero, List.getElem?_cons_succ] at z0 z1 z2 z3 z4 z5 z6 z7 z8 z9)
             | skip
           clear hb))
    all_goals
      go_wp2
      go_meet
      case rel =>
        refine ⟨_, rfl, rfl, ?_, Lib.hid ?_, Lib.hid ?_⟩
        · first | (with_reducible exact Nat.le_refl _) | exact S3.2.2.size
        · ((repeat (with_reducible first | assumption | exact HSW.out | refine sb_drew ?_ | refine sb_alloc ?_ (Nat.le_refl _) _ | refine sb_set ?_ ?_ _)); all_goals first | done | (with_reducible exact Nat.le_refl _) | (simp; done) | (simp; omega) | omega)
        · first
            | with_reducible exact Blk.new_at (by simp)
            | (have := BK0.out.ten (.int .u16 q.me) (.int .i64 q.per) (.int .i64 q.tmo) (.int .i64 q.nxt) (.int .i64 q.seq) (.bool q.op) (.bool q.hlp) (.int .u16 q.nd) (.int .i64 q.at_) (.slice A r.w.length cA)
               unfold ten at this
               exact this)
  case rest =>
    obtain ⟨b6, rfl, rfl, hb6, SX, BX6⟩ := hcut
    have BW3 := Lib.hid (BW2.out.below SX.out.2.2 lg2)
    have P3 := Lib.hid (P2.out.below SX.out.2.2 P2.out.lt)
    have K3 := Lib.hid (below_then K2.out (Nat.le_trans hB0 SZ2.out) SX.out.2.2)
    have KB3 : Hid (∀ b, b < w.heap.size → b ≠ gp → wc.heap[b]? = w.heap[b]?) := Lib.hid (fun b hb' hne => (SX.out.2.2.block b (by have := SZ2.out; omega)).trans (KB2.out b hb' hne))
    have SZ3 : Hid (w.heap.size ≤ wc.heap.size) := Lib.hid (Nat.le_trans SZ2.out SX.out.2.2.size)
    have lg3 := BW3.out.lt
    have lb6 := BX6.out.lt
    have ng6 : g ≠ b6 := by omega
    clear y0 y1 y2 y3 y4 y5 y6 y7 y8 y9 y10 y11 y12 y13 y14 x0 x1 x2 x3 x4 x5 x6
    have y0 := BW3.out.cell 0
    have y1 := BW3.out.cell 1
    have y2 := BW3.out.cell 2
    have y3 := BW3.out.cell 3
    have y4 := BW3.out.cell 4
    have y5 := BW3.out.cell 5
    have y6 := BW3.out.cell 6
    have y7 := BW3.out.cell 7
    have y8 := BW3.out.cell 8
    have y9 := BW3.out.cell 9
    have y10 := BW3.out.cell 10
    have y11 := BW3.out.cell 11
    have y12 := BW3.out.cell 12
    have y13 := BW3.out.cell 13
    have y14 := BW3.out.cell 14
    simp only [List.getElem?_toArray, List.getElem?_cons_zero, List.getElem?_cons_succ] at y0 y1 y2 y3 y4 y5 y6 y7 y8 y9 y10 y11 y12 y13 y14
    have z0 := BX6.out.cell 0
    have z1 := BX6.out.cell 1
    have z2 := BX6.out.cell 2
    have z3 := BX6.out.cell 3
    have z4 := BX6.out.cell 4
    have z5 := BX6.out.cell 5
    have z6 := BX6.out.cell 6
    have z7 := BX6.out.cell 7
    have z8 := BX6.out.cell 8
    have z9 := BX6.out.cell 9
    simp only [List.getElem?_toArray, List.getElem?_cons_zero, List.getElem?_cons_succ] at z0 z1 z2 z3 z4 z5 z6 z7 z8 z9
    have yf := BW3.out.frozen
    go_wp2
    have hqw : q.w = r.w := by rw [← HQ.out]; exact rack_w r _ _
    have bF := BW3.out.tenr (.int .u16 q.me) (.int .i64 q.per) (.int .i64 q.tmo) (.int .i64 q.nxt) (.int .i64 q.seq) (.bool q.op) (.bool q.hlp) (.int .u16 q.nd) (.int .i64 q.at_) (.slice A r.w.length cA)
    have kF := below_tenr K3.out hB1 (.int .u16 q.me) (.int .i64 q.per) (.int .i64 q.tmo) (.int .i64 q.nxt) (.int .i64 q.seq) (.bool q.op) (.bool q.hlp) (.int .u16 q.nd) (.int .i64 q.at_) (.slice A r.w.length cA)
    have hF : ∀ b, b ≠ g → (tenr wc g (.int .u16 q.me) (.int .i64 q.per) (.int .i64 q.tmo) (.int .i64 q.nxt) (.int .i64 q.seq) (.bool q.op) (.bool q.hlp) (.int .u16 q.nd) (.int .i64 q.at_) (.slice A r.w.length cA)).heap[b]? = wc.heap[b]? := fun b hne => heap_tenr wc g b hne _ _ _ _ _ _ _ _ _ _
    have hG : ∀ b, b < w.heap.size → b ≠ g → b ≠ gp → (tenr wc g (.int .u16 q.me) (.int .i64 q.per) (.int .i64 q.tmo) (.int .i64 q.nxt) (.int .i64 q.seq) (.bool q.op) (.bool q.hlp) (.int .u16 q.nd) (.int .i64 q.at_) (.slice A r.w.length cA)).heap[b]? = w.heap[b]? := fun b hb h1 h2 => (hF b h1).trans (KB3.out b hb h2)
    have hP := (hF gp (fun e => hne e.symm)).trans P3.out
    unfold tenr at bF kF hF hG hP
    go_ret
    refine ⟨_, rfl, by rw [HC1.out, HC2.out], kF, ?_⟩
    rw [HQ.out]
    refine ⟨?_, hP, ?_, ?_, ?_, HH.out.ne1, HH.out.ne2, HH.out.ne3⟩
    · rw [hqw]; exact bF
    · rw [ack_me]; exact (hG gt HH.out.tb.lt (fun e => HH.out.ne2 e.symm) (fun e => HH.out.ne3 e.symm)).trans HH.out.tb
    · rw [hqw]; exact ((HH.out.rw_.there (by omega)).keep (fun b hb => hG b hb.2 hb.1.1 hb.1.2.1)).imp (fun b hb => hb.1)
    · exact ((HH.out.gl.there (by omega)).keep (fun b hb => hG b hb.2 hb.1.1 hb.1.2.1)).imp (fun b hb => hb.1)
end Go.Proofs.Ytnlpgjdgiappcaa

/- WALKS: the world's acts on both: Watch. -/
namespace Go.Proofs.Ytnlpgjdgiappcaa
set_option linter.unusedVariables false
set_option linter.unusedSimpArgs false
open Go.RowKit

theorem watch_me (p : Pl.Pb) (m : Pl.M) (now : Int) : (Pl.watch p m now).me = p.me := by unfold Pl.watch; split <;> (try split) <;> rfl
theorem rpc_rwatch (r : Pl.Rp) (m : Pl.M) (now : Int) (A : Option Addr) (n c : Nat) : rpc (Pl.rwatch r m now) A n c = rpc r A n c := by
  unfold Pl.rwatch
  split
  · split <;> rfl
  · rfl
theorem wcells_rwatch (gp gt : Nat) (r : Pl.Rp) (m : Pl.M) (n' : Int) (A : Option Addr) (nA cA : Nat) (z : Int) (B : Option Addr) (nB cB : Nat) (now : Int) : wcells gp gt (Pl.rwatch r m n') A nA cA z B nB cB now = wcells gp gt r A nA cA z B nB cB now := by
  unfold Pl.rwatch
  split
  · split <;> rfl
  · rfl
set_option maxRecDepth 100000 in
set_option maxHeartbeats 1000000 in
theorem do_watch (g gp gt : Nat) (p : Pl.Pb) (F : Pl.Tab) (r : Pl.Rp) (A : Option Addr) (cA : Nat) (z : Int) (G : Pl.Tab) (B : Option Addr) (cB : Nat) (now : Int) (a : Ac) (w : World) (B0 : Nat) (hB0 : B0 ≤ w.heap.size) (hB1 : B0 ≤ g) (hB2 : B0 ≤ gp) (hB3 : B0 ≤ gt)
    (H : WS w g gp gt p F r A cA z G B cB now) (hk : a.k.tmod 5 = 3) (hm : Pl.MOk a.m) (hlen : r.w.length ≤ 1000000) :
    Calls Try.prog 39 #[.pointer (some ⟨g, 0, none⟩), .agg (acells a)] w fun e w' => e = .returned (.bool true) ∧ Below B0 w w' ∧ ∃ A' cA', WS w' g gp gt (Pl.watch p a.m now) F (Pl.rwatch r a.m now) A' cA' z G B cB now := by
  have HH := Lib.hid H
  have BW0 := Lib.hid H.blk
  have lg := H.blk.lt
  have lp := H.pb.lt
  have hne := H.ne1
  have HP := Lib.hid H.pb
  have HWa := Lib.hid (fun (w' : World) (hP : IsPb w' gp p) => watch_any gp p a.m now w' hP hm)
  have HRw := Lib.hid (fun (w' : World) (hR : ReadsWt w' (fun b => (b ≠ g ∧ b ≠ gp ∧ b ≠ gt) ∧ b < w'.heap.size) A r.w) (h : ∀ b, w'.heap.size ≤ b → b ≠ g ∧ b ≠ gp ∧ b ≠ gt) => refWatch_any r A cA a.m now w' (fun b => b ≠ g ∧ b ≠ gp ∧ b ≠ gt) hlen hR h)
  have RW0 := Lib.hid H.rw_
  have GL0 := Lib.hid H.gl
  have lt_ := H.tb.lt
  have TB0 := Lib.hid H.tb
  clear H
  obtain ⟨q, hq⟩ : ∃ q, (Pl.rwatch r a.m now).w = q := ⟨_, rfl⟩
  have HQ := Lib.hid hq
  simp only [rpc_rwatch, hq] at HRw
  unfold rpc mcells at HRw
  unfold mcells at HWa
  unfold wcells at BW0
  unfold acells
  obtain ⟨P', hP'⟩ : ∃ x, Pl.watch p a.m now = x := ⟨_, rfl⟩
  have HP' := Lib.hid hP'
  rw [hP'] at HWa
  clear hq hP' hlen hm
  generalize a.k = k0 at *
  generalize a.b = k1 at *
  generalize a.d = k2 at *
  generalize a.s = k3 at *
  obtain ⟨n0, hn0⟩ : ∃ x, a.m.n = x := ⟨_, rfl⟩
  obtain ⟨n1, hn1⟩ : ∃ x, a.m.s = x := ⟨_, rfl⟩
  obtain ⟨n2, hn2⟩ : ∃ x, a.m.i = x := ⟨_, rfl⟩
  simp only [hn0, hn1, hn2] at HRw HWa ⊢
  clear hn0 hn1 hn2
  have K1 := Lib.hid ((Below.refl B0 w).alloc hB0 (.cells #[.int .u8 k0, .int .u8 k1, .int .u32 k2, .int .u16 n0, .int .u8 n1, .int .i64 n2, .int .i64 k3] 85))
  have BA1 := Lib.hid (Blk.new w 85 #[.int .u8 k0, .int .u8 k1, .int .u32 k2, .int .u16 n0, .int .u8 n1, .int .i64 n2, .int .i64 k3])
  have BW1 := Lib.hid (BW0.out.alloc (.cells #[.int .u8 k0, .int .u8 k1, .int .u32 k2, .int .u16 n0, .int .u8 n1, .int .i64 n2, .int .i64 k3] 85))
  have P1 := Lib.hid (HP.out.alloc (.cells #[.int .u8 k0, .int .u8 k1, .int .u32 k2, .int .u16 n0, .int .u8 n1, .int .i64 n2, .int .i64 k3] 85))
  go_enter Try.func39, Try.ntmps39
  go_upto_region 3 with fail
  have KB1 : Hid (∀ b, b < w.heap.size → (w.alloc (.cells #[.int .u8 k0, .int .u8 k1, .int .u32 k2, .int .u16 n0, .int .u8 n1, .int .i64 n2, .int .i64 k3] 85)).heap[b]? = w.heap[b]?) := Lib.hid (fun b hb => Below.heap_alloc w _ b hb)
  have SZ1 : Hid (w.heap.size ≤ (w.alloc (.cells #[.int .u8 k0, .int .u8 k1, .int .u32 k2, .int .u16 n0, .int .u8 n1, .int .i64 n2, .int .i64 k3] 85)).heap.size) := Lib.hid (by simp)
  generalize w.alloc (.cells #[.int .u8 k0, .int .u8 k1, .int .u32 k2, .int .u16 n0, .int .u8 n1, .int .i64 n2, .int .i64 k3] 85) = w1 at *
  obtain ⟨ba, hba⟩ : ∃ b, w.heap.size = b := ⟨_, rfl⟩
  rw [hba]
  have HBA := Lib.hid hba
  have BA2 : Hid (Blk w1 ba 85 #[.int .u8 k0, .int .u8 k1, .int .u32 k2, .int .u16 n0, .int .u8 n1, .int .i64 n2, .int .i64 k3]) := Lib.hid (by rw [← hba]; exact BA1.out)
  have hgba : g ≠ ba := by omega
  have hpba : gp ≠ ba := by omega
  have hb0 : B0 ≤ ba := by omega
  clear BA1 hba BW0 HP
  have y0 := BW1.out.cell 0
  have y1 := BW1.out.cell 1
  have y2 := BW1.out.cell 2
  have y3 := BW1.out.cell 3
  have y4 := BW1.out.cell 4
  have y5 := BW1.out.cell 5
  have y6 := BW1.out.cell 6
  have y7 := BW1.out.cell 7
  have y8 := BW1.out.cell 8
  have y9 := BW1.out.cell 9
  have y10 := BW1.out.cell 10
  have y11 := BW1.out.cell 11
  have y12 := BW1.out.cell 12
  have y13 := BW1.out.cell 13
  have y14 := BW1.out.cell 14
  simp only [List.getElem?_toArray, List.getElem?_cons_zero, List.getElem?_cons_succ] at y0 y1 y2 y3 y4 y5 y6 y7 y8 y9 y10 y11 y12 y13 y14
  have x0 := BA2.out.cell 0
  have x1 := BA2.out.cell 1
  have x2 := BA2.out.cell 2
  have x3 := BA2.out.cell 3
  have x4 := BA2.out.cell 4
  have x5 := BA2.out.cell 5
  have x6 := BA2.out.cell 6
  simp only [List.getElem?_toArray, List.getElem?_cons_zero, List.getElem?_cons_succ] at x0 x1 x2 x3 x4 x5 x6
  go_wp2
  go_still_tail 10, (by kernel_rfl)
  change wpList _ _ _ _ _ (World.drew w1)
  go_wp2_with fail
  refine (HWa.out _ P1.out.drew).mono ?_
  rintro e w2 ⟨rfl, hgr, hP2⟩
  have P2 := Lib.hid hP2
  have BW2 := Lib.hid (BW1.out.drew.grown hgr (by intro e; injection e with e; exact hne e))
  have BA3 := Lib.hid (BA2.out.drew.grown hgr (by intro e; injection e with e; exact hpba e.symm))
  have K2 := Lib.hid (K1.out.drew.trans (below_of_grown (B := B0) (Nat.le_trans hB0 K1.out.drew.size) hgr (fun q e => by injection e with e; omega)))
  have KB2 : Hid (∀ b, b < w.heap.size → b ≠ gp → w2.heap[b]? = w.heap[b]?) := Lib.hid (fun b hb hne => (hgr.block b (by have := SZ1.out; show b < w1.heap.size; omega) (by intro e; injection e with e; exact hne e)).trans (KB1.out b hb))
  have SZ2 : Hid (w.heap.size ≤ w2.heap.size) := Lib.hid (Nat.le_trans SZ1.out hgr.size)
  clear hgr hP2
  clear y0 y1 y2 y3 y4 y5 y6 y7 y8 y9 y10 y11 y12 y13 y14 x0 x1 x2 x3 x4 x5 x6
  have y0 := BW2.out.cell 0
  have y1 := BW2.out.cell 1
  have y2 := BW2.out.cell 2
  have y3 := BW2.out.cell 3
  have y4 := BW2.out.cell 4
  have y5 := BW2.out.cell 5
  have y6 := BW2.out.cell 6
  have y7 := BW2.out.cell 7
  have y8 := BW2.out.cell 8
  have y9 := BW2.out.cell 9
  have y10 := BW2.out.cell 10
  have y11 := BW2.out.cell 11
  have y12 := BW2.out.cell 12
  have y13 := BW2.out.cell 13
  have y14 := BW2.out.cell 14
  simp only [List.getElem?_toArray, List.getElem?_cons_zero, List.getElem?_cons_succ] at y0 y1 y2 y3 y4 y5 y6 y7 y8 y9 y10 y11 y12 y13 y14
  have x0 := BA3.out.cell 0
  have x1 := BA3.out.cell 1
  have x2 := BA3.out.cell 2
  have x3 := BA3.out.cell 3
  have x4 := BA3.out.cell 4
  have x5 := BA3.out.cell 5
  have x6 := BA3.out.cell 6
  simp only [List.getElem?_toArray, List.getElem?_cons_zero, List.getElem?_cons_succ] at x0 x1 x2 x3 x4 x5 x6
  have lg2 := BW2.out.lt
  have la2 := BA3.out.lt
  have yf := BW2.out.frozen
  have HSW := Lib.hid (keepB (Below.refl w2.heap.size w2))
  have HRw2 : Hid (∀ X, Below w2.heap.size w2 X → Calls Try.prog 59 #[.agg #[.int .u16 r.me, .int .i64 r.per, .int .i64 r.tmo, .int .i64 r.nxt, .int .i64 r.seq, .bool r.op, .bool r.hlp, .int .u16 r.nd, .int .i64 r.at_, .slice A r.w.length cA], .agg #[.int .u16 n0, .int .u8 n1, .int .i64 n2], .int .i64 now] X fun e w' => (∃ A' c', e = .returned (.agg #[.int .u16 r.me, .int .i64 r.per, .int .i64 r.tmo, .int .i64 r.nxt, .int .i64 r.seq, .bool r.op, .bool r.hlp, .int .u16 r.nd, .int .i64 r.at_, .slice A' q.length c']) ∧ ReadsWt w' (fun b => b ≠ g ∧ b ≠ gp ∧ b ≠ gt) A' q) ∧ Below X.heap.size X w') := by
    refine Lib.hid (fun X hX => HRw.out X ?_ ?_)
    · refine ((RW0.out.there (by omega)).keep (w' := X) (fun b hb => ?_)).imp (fun b hb => ⟨hb.1, Nat.lt_of_lt_of_le hb.2 (Nat.le_trans SZ2.out hX.size)⟩)
      exact (hX.block b (Nat.lt_of_lt_of_le hb.2 SZ2.out)).trans (KB2.out b hb.2 hb.1.2.1)
    · intro b hb
      have h1 := hX.size
      have h2 := SZ2.out
      refine ⟨by omega, by omega, by omega⟩
  clear HRw
  go_upto_region 9 with fail
  go_region_with (go_at_call 59; refine (HRw2.out _ (Below.refl _ _).drew).mono ?_; rintro e w3 ⟨⟨A', c', rfl, hR3⟩, hb⟩; have hb' : Below w2.heap.size w2 w3 := below_then (Below.refl _ _).drew (Nat.le_refl _) hb; have BW3 := Lib.hid (BW2.out.below hb' lg2); have P3 := Lib.hid (P2.out.below hb' P2.out.lt); have K3 := Lib.hid (below_then K2.out (Nat.le_trans hB0 SZ2.out) hb'); have KB3 : Hid (∀ b, b < w.heap.size → b ≠ gp → w3.heap[b]? = w.heap[b]?) := Lib.hid (fun b hb'' hne => (hb'.block b (by have := SZ2.out; omega)).trans (KB2.out b hb'' hne)); have R3 := Lib.hid hR3; have lg3 := BW3.out.lt; clear hb hb' hR3; clear y0 y1 y2 y3 y4 y5 y6 y7 y8 y9 y10 y11 y12 y13 y14 x0 x1 x2 x3 x4 x5 x6; have y0 := BW3.out.cell 0; have y1 := BW3.out.cell 1; have y2 := BW3.out.cell 2; have y3 := BW3.out.cell 3; have y4 := BW3.out.cell 4; have y5 := BW3.out.cell 5; have y6 := BW3.out.cell 6; have y7 := BW3.out.cell 7; have y8 := BW3.out.cell 8; have y9 := BW3.out.cell 9; have y10 := BW3.out.cell 10; have y11 := BW3.out.cell 11; have y12 := BW3.out.cell 12; have y13 := BW3.out.cell 13; have y14 := BW3.out.cell 14; simp only [List.getElem?_toArray, List.getElem?_cons_zero, List.getElem?_cons_succ] at y0 y1 y2 y3 y4 y5 y6 y7 y8 y9 y10 y11 y12 y13 y14; have yf3 := BW3.out.frozen)
  all_goals
    go_wp2
    have bF := BW3.out.tenr (.int .u16 r.me) (.int .i64 r.per) (.int .i64 r.tmo) (.int .i64 r.nxt) (.int .i64 r.seq) (.bool r.op) (.bool r.hlp) (.int .u16 r.nd) (.int .i64 r.at_) (.slice A' q.length c')
    have kF := below_tenr K3.out hB1 (.int .u16 r.me) (.int .i64 r.per) (.int .i64 r.tmo) (.int .i64 r.nxt) (.int .i64 r.seq) (.bool r.op) (.bool r.hlp) (.int .u16 r.nd) (.int .i64 r.at_) (.slice A' q.length c')
    have hF : ∀ b, b ≠ g → (tenr w3 g (.int .u16 r.me) (.int .i64 r.per) (.int .i64 r.tmo) (.int .i64 r.nxt) (.int .i64 r.seq) (.bool r.op) (.bool r.hlp) (.int .u16 r.nd) (.int .i64 r.at_) (.slice A' q.length c')).heap[b]? = w3.heap[b]? := fun b hne => heap_tenr w3 g b hne _ _ _ _ _ _ _ _ _ _
    have hG : ∀ b, b < w.heap.size → b ≠ g → b ≠ gp → (tenr w3 g (.int .u16 r.me) (.int .i64 r.per) (.int .i64 r.tmo) (.int .i64 r.nxt) (.int .i64 r.seq) (.bool r.op) (.bool r.hlp) (.int .u16 r.nd) (.int .i64 r.at_) (.slice A' q.length c')).heap[b]? = w.heap[b]? := fun b hb h1 h2 => (hF b h1).trans (KB3.out b hb h2)
    have hP := (hF gp (fun e => hne e.symm)).trans P3.out
    unfold tenr at bF kF hF hG hP
    go_ret
    refine ⟨rfl, kF, A', c', ?_⟩
    refine ⟨?_, by rw [HP'.out]; exact hP, ?_, ?_, ?_, HH.out.ne1, HH.out.ne2, HH.out.ne3⟩
    · rw [wcells_rwatch, HQ.out]; exact bF
    · rw [watch_me]; exact (hG gt lt_ (fun e => HH.out.ne2 e.symm) (fun e => HH.out.ne3 e.symm)).trans TB0.out
    · rw [HQ.out]; exact R3.out.keep (fun b hb => hF b hb.1)
    · exact ((GL0.out.there (by omega)).keep (fun b hb => hG b hb.2 hb.1.1 hb.1.2.1)).imp (fun b hb => hb.1)
end Go.Proofs.Ytnlpgjdgiappcaa

/- WALKS: the world's acts on both: the table hears. -/
namespace Go.Proofs.Ytnlpgjdgiappcaa
set_option linter.unusedVariables false
set_option linter.unusedSimpArgs false
open Go.RowKit

theorem rheard_shape (o : Option Pl.M) : ∃ v2 v3, ∀ t, rheardVal t o = .tuple #[t, v2, v3] := by
  cases o with
  | none => exact ⟨_, _, fun t => rfl⟩
  | some m => exact ⟨_, _, fun t => rfl⟩
theorem heard_shape (o : Option Pl.M) : ∃ v2 v3, heardVal o = .tuple #[v2, v3] := by
  cases o with
  | none => exact ⟨_, _, rfl⟩
  | some m => exact ⟨_, _, rfl⟩
def twor (w : World) (g : Nat) (a b : Value) : World := (w.setCell ⟨g, 12, none⟩ a).setCell ⟨g, 13, none⟩ b
theorem Blk.twor {w : World} {g : Nat} {t : TypeId} {u0 u1 x0 x1 x2 x3 x4 x5 x6 x7 x8 x9 u2 u3 u4 : Value} (h : Blk w g t #[u0, u1, x0, x1, x2, x3, x4, x5, x6, x7, x8, x9, u2, u3, u4]) (a b : Value) : Blk (twor w g a b) g t #[u0, u1, x0, x1, x2, x3, x4, x5, x6, x7, x8, x9, a, b, u4] := by
  unfold Ytnlpgjdgiappcaa.twor
  have := (h.set_ 12 a).set_ 13 b
  simpa only [List.setIfInBounds_toArray, List.set_cons_succ, List.set_cons_zero] using this
set_option maxRecDepth 100000 in
set_option maxHeartbeats 1000000 in
theorem do_hear (g gp gt : Nat) (p : Pl.Pb) (F : Pl.Tab) (r : Pl.Rp) (A : Option Addr) (cA : Nat) (z : Int) (G : Pl.Tab) (B : Option Addr) (cB : Nat) (now : Int) (a : Ac) (w : World) (B0 : Nat) (hB0 : B0 ≤ w.heap.size) (hB1 : B0 ≤ g) (hB2 : B0 ≤ gp) (hB3 : B0 ≤ gt)
    (H : WS w g gp gt p F r A cA z G B cB now) (hk : a.k.tmod 5 = 4) (hm : Pl.MOk a.m) (hG : Pl.TOk z G) :
    Calls Try.prog 39 #[.pointer (some ⟨g, 0, none⟩), .agg (acells a)] w fun e w' => e = .returned (.bool true) ∧ Below B0 w w' ∧ ∃ B' cB', WS w' g gp gt p (Pl.heard p.me F a.m) r A cA z (Pl.heard z G a.m) B' cB' now := by
  have HH := Lib.hid H
  have BW0 := Lib.hid H.blk
  have lg := H.blk.lt
  have lp := H.pb.lt
  have hne := H.ne1
  have HP := Lib.hid H.pb
  have hne2 := H.ne2
  have hne3 := H.ne3
  have HWa := Lib.hid (fun (w' : World) (hT : IsT w' gt p.me F) => hear_any gt p.me F a.m w' hT hm)
  have HRw := Lib.hid (fun (w' : World) (hR : ReadsM w' (fun b => b ≠ g ∧ b ≠ gp ∧ b ≠ gt) B (Pl.listT G)) (h : ∀ b, w'.heap.size ≤ b → b ≠ g ∧ b ≠ gp ∧ b ≠ gt) => refHear_any z G B cB a.m w' (fun b => b ≠ g ∧ b ≠ gp ∧ b ≠ gt) hG hm hR h)
  obtain ⟨v2, v3, hv⟩ := rheard_shape (Pl.hear z G a.m)
  obtain ⟨v4, v5, hv'⟩ := heard_shape (Pl.hear p.me F a.m)
  simp only [hv] at HRw
  rw [hv'] at HWa
  have RW0 := Lib.hid H.rw_
  have GL0 := Lib.hid H.gl
  have lt_ := H.tb.lt
  have TB0 := Lib.hid H.tb
  clear H
  obtain ⟨lg0, hlg0⟩ : ∃ x, Pl.listT G = x := ⟨_, rfl⟩
  obtain ⟨lg1, hlg1⟩ : ∃ x, Pl.listT (Pl.heard z G a.m) = x := ⟨_, rfl⟩
  obtain ⟨F', hF'⟩ : ∃ x, Pl.heard p.me F a.m = x := ⟨_, rfl⟩
  have HL0 := Lib.hid hlg0
  have HL1 := Lib.hid hlg1
  have HF' := Lib.hid hF'
  simp only [hlg0, hlg1] at HRw
  rw [hlg0] at BW0 GL0
  rw [hF'] at HWa
  unfold mcells at HRw
  unfold mcells at HWa
  unfold wcells at BW0
  unfold acells
  clear hlg0 hlg1 hF' hm hG hv hv'
  generalize a.k = k0 at *
  generalize a.b = k1 at *
  generalize a.d = k2 at *
  generalize a.s = k3 at *
  obtain ⟨n0, hn0⟩ : ∃ x, a.m.n = x := ⟨_, rfl⟩
  obtain ⟨n1, hn1⟩ : ∃ x, a.m.s = x := ⟨_, rfl⟩
  obtain ⟨n2, hn2⟩ : ∃ x, a.m.i = x := ⟨_, rfl⟩
  simp only [hn0, hn1, hn2] at HRw HWa ⊢
  clear hn0 hn1 hn2
  have K1 := Lib.hid ((Below.refl B0 w).alloc hB0 (.cells #[.int .u8 k0, .int .u8 k1, .int .u32 k2, .int .u16 n0, .int .u8 n1, .int .i64 n2, .int .i64 k3] 85))
  have BA1 := Lib.hid (Blk.new w 85 #[.int .u8 k0, .int .u8 k1, .int .u32 k2, .int .u16 n0, .int .u8 n1, .int .i64 n2, .int .i64 k3])
  have BW1 := Lib.hid (BW0.out.alloc (.cells #[.int .u8 k0, .int .u8 k1, .int .u32 k2, .int .u16 n0, .int .u8 n1, .int .i64 n2, .int .i64 k3] 85))
  have P1 := Lib.hid (HP.out.alloc (.cells #[.int .u8 k0, .int .u8 k1, .int .u32 k2, .int .u16 n0, .int .u8 n1, .int .i64 n2, .int .i64 k3] 85))
  have T1 := Lib.hid (TB0.out.alloc (.cells #[.int .u8 k0, .int .u8 k1, .int .u32 k2, .int .u16 n0, .int .u8 n1, .int .i64 n2, .int .i64 k3] 85))
  go_enter Try.func39, Try.ntmps39
  go_upto_region 3 with fail
  have KB1 : Hid (∀ b, b < w.heap.size → (w.alloc (.cells #[.int .u8 k0, .int .u8 k1, .int .u32 k2, .int .u16 n0, .int .u8 n1, .int .i64 n2, .int .i64 k3] 85)).heap[b]? = w.heap[b]?) := Lib.hid (fun b hb => Below.heap_alloc w _ b hb)
  have SZ1 : Hid (w.heap.size ≤ (w.alloc (.cells #[.int .u8 k0, .int .u8 k1, .int .u32 k2, .int .u16 n0, .int .u8 n1, .int .i64 n2, .int .i64 k3] 85)).heap.size) := Lib.hid (by simp)
  generalize w.alloc (.cells #[.int .u8 k0, .int .u8 k1, .int .u32 k2, .int .u16 n0, .int .u8 n1, .int .i64 n2, .int .i64 k3] 85) = w1 at *
  obtain ⟨ba, hba⟩ : ∃ b, w.heap.size = b := ⟨_, rfl⟩
  rw [hba]
  have HBA := Lib.hid hba
  have BA2 : Hid (Blk w1 ba 85 #[.int .u8 k0, .int .u8 k1, .int .u32 k2, .int .u16 n0, .int .u8 n1, .int .i64 n2, .int .i64 k3]) := Lib.hid (by rw [← hba]; exact BA1.out)
  have hgba : g ≠ ba := by omega
  have hpba : gp ≠ ba := by omega
  have htba : gt ≠ ba := by omega
  have hb0 : B0 ≤ ba := by omega
  clear BA1 hba BW0
  have y0 := BW1.out.cell 0
  have y1 := BW1.out.cell 1
  have y2 := BW1.out.cell 2
  have y3 := BW1.out.cell 3
  have y4 := BW1.out.cell 4
  have y5 := BW1.out.cell 5
  have y6 := BW1.out.cell 6
  have y7 := BW1.out.cell 7
  have y8 := BW1.out.cell 8
  have y9 := BW1.out.cell 9
  have y10 := BW1.out.cell 10
  have y11 := BW1.out.cell 11
  have y12 := BW1.out.cell 12
  have y13 := BW1.out.cell 13
  have y14 := BW1.out.cell 14
  simp only [List.getElem?_toArray, List.getElem?_cons_zero, List.getElem?_cons_succ] at y0 y1 y2 y3 y4 y5 y6 y7 y8 y9 y10 y11 y12 y13 y14
  have x0 := BA2.out.cell 0
  have x1 := BA2.out.cell 1
  have x2 := BA2.out.cell 2
  have x3 := BA2.out.cell 3
  have x4 := BA2.out.cell 4
  have x5 := BA2.out.cell 5
  have x6 := BA2.out.cell 6
  simp only [List.getElem?_toArray, List.getElem?_cons_zero, List.getElem?_cons_succ] at x0 x1 x2 x3 x4 x5 x6
  go_wp2
  go_still_tail 6, (by kernel_rfl)
  change wpList _ _ _ _ _ (World.drew w1)
  go_wp2_with fail
  refine (HWa.out _ T1.out.drew).mono ?_
  rintro e w2 ⟨rfl, hgr, hP2⟩
  have P2 := Lib.hid hP2
  have BW2 := Lib.hid (BW1.out.drew.grown hgr (by intro e; injection e with e; exact hne2 e))
  have BA3 := Lib.hid (BA2.out.drew.grown hgr (by intro e; injection e with e; exact htba e.symm))
  have K2 := Lib.hid (K1.out.drew.trans (below_of_grown (B := B0) (Nat.le_trans hB0 K1.out.drew.size) hgr (fun q e => by injection e with e; omega)))
  have KB2 : Hid (∀ b, b < w.heap.size → b ≠ gt → w2.heap[b]? = w.heap[b]?) := Lib.hid (fun b hb hne => (hgr.block b (by have := SZ1.out; show b < w1.heap.size; omega) (by intro e; injection e with e; exact hne e)).trans (KB1.out b hb))
  have SZ2 : Hid (w.heap.size ≤ w2.heap.size) := Lib.hid (Nat.le_trans SZ1.out hgr.size)
  clear hgr hP2
  clear y0 y1 y2 y3 y4 y5 y6 y7 y8 y9 y10 y11 y12 y13 y14 x0 x1 x2 x3 x4 x5 x6
  have y0 := BW2.out.cell 0
  have y1 := BW2.out.cell 1
  have y2 := BW2.out.cell 2
  have y3 := BW2.out.cell 3
  have y4 := BW2.out.cell 4
  have y5 := BW2.out.cell 5
  have y6 := BW2.out.cell 6
  have y7 := BW2.out.cell 7
  have y8 := BW2.out.cell 8
  have y9 := BW2.out.cell 9
  have y10 := BW2.out.cell 10
  have y11 := BW2.out.cell 11
  have y12 := BW2.out.cell 12
  have y13 := BW2.out.cell 13
  have y14 := BW2.out.cell 14
  simp only [List.getElem?_toArray, List.getElem?_cons_zero, List.getElem?_cons_succ] at y0 y1 y2 y3 y4 y5 y6 y7 y8 y9 y10 y11 y12 y13 y14
  have x0 := BA3.out.cell 0
  have x1 := BA3.out.cell 1
  have x2 := BA3.out.cell 2
  have x3 := BA3.out.cell 3
  have x4 := BA3.out.cell 4
  have x5 := BA3.out.cell 5
  have x6 := BA3.out.cell 6
  simp only [List.getElem?_toArray, List.getElem?_cons_zero, List.getElem?_cons_succ] at x0 x1 x2 x3 x4 x5 x6
  have lg2 := BW2.out.lt
  have la2 := BA3.out.lt
  have yf := BW2.out.frozen
  have HSW := Lib.hid (keepB (Below.refl w2.heap.size w2))
  have HRw2 : Hid (∀ X, Below w2.heap.size w2 X → Calls Try.prog 28 #[.agg #[.int .u16 z, .slice B lg0.length cB], .agg #[.int .u16 n0, .int .u8 n1, .int .i64 n2]] X fun e w' => ∃ A' c', e = .returned (.tuple #[.agg #[.int .u16 z, .slice A' lg1.length c'], v2, v3]) ∧ ReadsM w' (fun b => b ≠ g ∧ b ≠ gp ∧ b ≠ gt) A' lg1 ∧ Below X.heap.size X w') := by
    refine Lib.hid (fun X hX => HRw.out X ?_ ?_)
    · refine ((GL0.out.there (by omega)).keep (w' := X) (fun b hb => ?_)).imp (fun b hb => hb.1)
      exact (hX.block b (Nat.lt_of_lt_of_le hb.2 SZ2.out)).trans (KB2.out b hb.2 hb.1.2.2)
    · intro b hb
      have h1 := hX.size
      have h2 := SZ2.out
      refine ⟨by omega, by omega, by omega⟩
  clear HRw
  go_upto_region 13 with fail
  go_region_with (go_at_call 28; refine (HRw2.out _ (Below.refl _ _).drew).mono ?_; rintro e w3 ⟨A', c', rfl, hR3, hb⟩; have hb' : Below w2.heap.size w2 w3 := below_then (Below.refl _ _).drew (Nat.le_refl _) hb; have BW3 := Lib.hid (BW2.out.below hb' lg2); have P3 := Lib.hid (P2.out.below hb' P2.out.lt); have K3 := Lib.hid (below_then K2.out (Nat.le_trans hB0 SZ2.out) hb'); have KB3 : Hid (∀ b, b < w.heap.size → b ≠ gt → w3.heap[b]? = w.heap[b]?) := Lib.hid (fun b hb'' hne => (hb'.block b (by have := SZ2.out; omega)).trans (KB2.out b hb'' hne)); have R3 := Lib.hid hR3; have lg3 := BW3.out.lt; clear hb hb' hR3; clear y0 y1 y2 y3 y4 y5 y6 y7 y8 y9 y10 y11 y12 y13 y14 x0 x1 x2 x3 x4 x5 x6; have y0 := BW3.out.cell 0; have y1 := BW3.out.cell 1; have y2 := BW3.out.cell 2; have y3 := BW3.out.cell 3; have y4 := BW3.out.cell 4; have y5 := BW3.out.cell 5; have y6 := BW3.out.cell 6; have y7 := BW3.out.cell 7; have y8 := BW3.out.cell 8; have y9 := BW3.out.cell 9; have y10 := BW3.out.cell 10; have y11 := BW3.out.cell 11; have y12 := BW3.out.cell 12; have y13 := BW3.out.cell 13; have y14 := BW3.out.cell 14; simp only [List.getElem?_toArray, List.getElem?_cons_zero, List.getElem?_cons_succ] at y0 y1 y2 y3 y4 y5 y6 y7 y8 y9 y10 y11 y12 y13 y14; have yf3 := BW3.out.frozen)
  all_goals
    go_wp2
    have bF := BW3.out.twor (.int .u16 z) (.slice A' lg1.length c')
    have kF : Below B0 w (twor w3 g (.int .u16 z) (.slice A' lg1.length c')) := (K3.out.setCell (p := ⟨g, 12, none⟩) hB1 _).setCell (p := ⟨g, 13, none⟩) hB1 _
    have hF : ∀ b, b ≠ g → (twor w3 g (.int .u16 z) (.slice A' lg1.length c')).heap[b]? = w3.heap[b]? := fun b hne => (Below.heap_setCell _ ⟨g, 13, none⟩ _ b hne).trans (Below.heap_setCell _ ⟨g, 12, none⟩ _ b hne)
    have hG : ∀ b, b < w.heap.size → b ≠ g → b ≠ gt → (twor w3 g (.int .u16 z) (.slice A' lg1.length c')).heap[b]? = w.heap[b]? := fun b hb h1 h2 => (hF b h1).trans (KB3.out b hb h2)
    have hT := (hF gt (fun e => hne2 e.symm)).trans P3.out
    unfold twor at bF kF hF hG hT
    go_ret
    refine ⟨rfl, kF, A', c', ?_⟩
    refine ⟨?_, (hG gp lp (fun e => hne e.symm) hne3).trans HP.out, ?_, ?_, ?_, HH.out.ne1, HH.out.ne2, HH.out.ne3⟩
    · rw [HL1.out]; exact bF
    · rw [HF'.out]; exact hT
    · exact ((RW0.out.there (by omega)).keep (fun b hb => hG b hb.2 hb.1.1 hb.1.2.2)).imp (fun b hb => hb.1)
    · rw [HL1.out]; exact R3.out.keep (fun b hb => hF b hb.1)
end Go.Proofs.Ytnlpgjdgiappcaa
