/- WORDS and WALKS: the law's world of a probe: made, and its acts on both. -/
import Derived.Test.YtnlpgjdgiappcaaPrWalk2
import Derived.Test.YtnlpgjdgiappcaaPbAwake
import Derived.Test.YtnlpgjdgiappcaaMbDoc8
namespace Go.Proofs.Ytnlpgjdgiappcaa
set_option linter.unusedVariables false
set_option linter.unusedSimpArgs false
open Go.RowKit

/-- What the world's block holds. -/
def wcells (gp gt : Nat) (r : Pl.Rp) (A : Option Addr) (nA cA : Nat) (z : Int) (B : Option Addr) (nB cB : Nat) (now : Int) : Array Value :=
  #[.pointer (some ⟨gp, 0, none⟩), .pointer (some ⟨gt, 0, none⟩), .int .u16 r.me, .int .i64 r.per, .int .i64 r.tmo, .int .i64 r.nxt, .int .i64 r.seq, .bool r.op, .bool r.hlp, .int .u16 r.nd, .int .i64 r.at_, .slice A nA cA, .int .u16 z, .slice B nB cB, .int .i64 now]
structure WS (w : World) (g gp gt : Nat) (p : Pl.Pb) (F : Pl.Tab) (r : Pl.Rp) (A : Option Addr) (cA : Nat) (z : Int) (G : Pl.Tab) (B : Option Addr) (cB : Nat) (now : Int) : Prop where
  blk : Blk w g 83 (wcells gp gt r A r.w.length cA z B (Pl.listT G).length cB now)
  pb : IsPb w gp p
  tb : IsT w gt p.me F
  rw_ : ReadsWt w (fun b => b ≠ g ∧ b ≠ gp ∧ b ≠ gt) A r.w
  gl : ReadsM w (fun b => b ≠ g ∧ b ≠ gp ∧ b ≠ gt) B (Pl.listT G)
  ne1 : g ≠ gp
  ne2 : g ≠ gt
  ne3 : gp ≠ gt
/-- An act: its kind, by how much later, its draw, its member, its number. -/
structure Ac where
  k : Int
  b : Int
  d : Int
  m : Pl.M
  s : Int
def acells (a : Ac) : Array Value := #[.int .u8 a.k, .int .u8 a.b, .int .u32 a.d, .int .u16 a.m.n, .int .u8 a.m.s, .int .i64 a.m.i, .int .i64 a.s]
set_option maxRecDepth 100000 in
set_option maxHeartbeats 4000000 in
theorem made_yes (s : Int) (w : World) (h0 : 0 ≤ s) (h1 : s < 64) :
    Calls Try.prog 38 #[.int .u16 s, .int .i64 10, .int .i64 3] w fun e w' => ∃ g gp gt B cB, e = .returned (.tuple #[.pointer (some ⟨g, 0, none⟩), .bool true]) ∧ Below w.heap.size w w' ∧ w.heap.size ≤ g ∧ w.heap.size ≤ gp ∧ w.heap.size ≤ gt ∧
      WS w' g gp gt (Pl.pnew s 10 3) (Pl.newT s) (Pl.rnew s 10 3) none 0 s (Pl.newT s) B cB 0 := by
  have HP := Lib.hid (fun w => pnew_yes s 10 3 w h0 h1 (by decide) (by decide))
  have hrn : rnewVal s 10 3 = .tuple #[.agg (rpc (Pl.rnew s 10 3) none 0 0), .int .i64 0] := by unfold rnewVal; rw [if_neg (by omega), if_pos (by decide)]
  have HR := Lib.hid (fun w => refPNew_any s 10 3 w)
  rw [hrn] at HR
  have hs : s % 64 = s := by omega
  have HT := Lib.hid (fun w => new_any s w h0 (by omega))
  have HU := Lib.hid (fun w => refNew_any s w h0 (by omega))
  rw [hs] at HT HU
  have HLn := Lib.hid (listT_new h0 h1)
  clear hrn hs h0 h1
  unfold rpc Pl.rnew at HR
  simp only at HR
  go_enter Try.func38, Try.ntmps38
  go_wp2_with fail
  refine (HP.out _).mono ?_
  rintro e w1 ⟨gp, rfl, hb1, hgp, hP1⟩
  have K1 := Lib.hid hb1
  have P1 := Lib.hid hP1
  have lP := hP1.lt
  clear hb1 hP1
  go_wp2_with fail
  refine (HR.out _).mono ?_
  rintro e w2 ⟨rfl, hb2⟩
  have K2 := Lib.hid (below_then K1.out K1.out.size hb2)
  have P2 := Lib.hid (P1.out.below hb2 P1.out.lt)
  clear hb2
  have K3 := Lib.hid (K2.out.alloc K2.out.size (.cells #[.int .u16 s, .int .i64 10, .int .i64 3, .int .i64 0, .int .i64 0, .bool false, .bool false, .int .u16 0, .int .i64 0, .slice none 0 0] 81))
  have P3 := Lib.hid (P2.out.alloc (.cells #[.int .u16 s, .int .i64 10, .int .i64 3, .int .i64 0, .int .i64 0, .bool false, .bool false, .int .u16 0, .int .i64 0, .slice none 0 0] 81))
  have B3 := Lib.hid (Blk.new w2 81 #[.int .u16 s, .int .i64 10, .int .i64 3, .int .i64 0, .int .i64 0, .bool false, .bool false, .int .u16 0, .int .i64 0, .slice none 0 0])
  go_upto_region 3 with fail
  generalize w2.alloc (.cells #[.int .u16 s, .int .i64 10, .int .i64 3, .int .i64 0, .int .i64 0, .bool false, .bool false, .int .u16 0, .int .i64 0, .slice none 0 0] 81) = w3 at *
  obtain ⟨b3, hb3⟩ : ∃ b, w2.heap.size = b := ⟨_, rfl⟩
  rw [hb3]
  have B3' : Hid (Blk w3 b3 81 #[.int .u16 s, .int .i64 10, .int .i64 3, .int .i64 0, .int .i64 0, .bool false, .bool false, .int .u16 0, .int .i64 0, .slice none 0 0]) := Lib.hid (by rw [← hb3]; exact B3.out)
  clear B3 hb3
  have hl3 := B3'.out.lt
  have HSW := Lib.hid (keepB (Below.refl w3.heap.size w3))
  have hT : ∀ X, SB w3.heap.size w3 X → Calls Try.prog 17 #[.int .u16 s] X fun e w' => ∃ g, e = .returned (.pointer (some ⟨g, 0, none⟩)) ∧ Below X.heap.size X w' ∧ X.heap.size ≤ g ∧ IsT w' g s (Pl.newT s) := fun X _ => HT.out X
  have hU : ∀ X, SB w3.heap.size w3 X → Calls Try.prog 27 #[.int .u16 s] X fun e w' => ∃ A c, e = .returned (.agg #[.int .u16 s, .slice A 1 c]) ∧ Below X.heap.size X w' ∧ ReadsM w' (fun b => X.heap.size ≤ b) A [⟨s, 0, 0⟩] := fun X _ => HU.out X
  have HT2 := Lib.hid hT
  have HU2 := Lib.hid hU
  have z0 := B3'.out.cell 0
  have z1 := B3'.out.cell 1
  have z2 := B3'.out.cell 2
  have z3 := B3'.out.cell 3
  have z4 := B3'.out.cell 4
  have z5 := B3'.out.cell 5
  have z6 := B3'.out.cell 6
  have z7 := B3'.out.cell 7
  have z8 := B3'.out.cell 8
  have z9 := B3'.out.cell 9
  simp only [List.getElem?_toArray, List.getElem?_cons_zero, List.getElem?_cons_succ] at z0 z1 z2 z3 z4 z5 z6 z7 z8 z9
  clear hT hU
  go_cut [6, 7] from 26 to 43 (fun s6 s7 wx => ∃ g gt B cB, s6 = .pointer (some ⟨g, 0, none⟩) ∧ s7 = .bool true ∧ w3.heap.size ≤ g ∧ w3.heap.size ≤ gt ∧ g ≠ gt ∧ Go.RowKit.Hid (SB w3.heap.size w3 wx) ∧ Go.RowKit.Hid (Blk wx g 83 #[.pointer (some ⟨gp, 0, none⟩), .pointer (some ⟨gt, 0, none⟩), .int .u16 s, .int .i64 10, .int .i64 3, .int .i64 0, .int .i64 0, .bool false, .bool false, .int .u16 0, .int .i64 0, .slice none 0 0, .int .u16 s, .slice B 1 cB, .int .i64 0]) ∧ Go.RowKit.Hid (IsT wx gt s (Pl.newT s)) ∧ Go.RowKit.Hid (ReadsM wx (fun b => w3.heap.size ≤ b ∧ b ≠ g ∧ b ≠ gt) B [⟨s, 0, 0⟩]))
  case first =>
    go_region_held3 (fun X => SB w3.heap.size w3 X) (((repeat (with_reducible first | assumption | exact HSW.out | refine sb_drew ?_ | refine sb_alloc ?_ (Nat.le_refl _) _)); all_goals first | done | (simp; done) | (simp; omega)))
      (first
        | (go_at_call 17
           refine (HT2.out _ (by assumption)).mono ?_
           rintro e w4 ⟨gt, rfl, hbx, hgt, hT4⟩
           have S4 : SB w3.heap.size w3 w4 := sb_then (by assumption) hbx
           have T4 := Lib.hid hT4
           have LT4 := hT4.lt
           have L4 := hbx.size
           clear hT4)
        | (go_at_call 27
           refine (HU2.out _ (by assumption)).mono ?_
           rintro e w5 ⟨B, cB, rfl, hby, hR5⟩
           have S5 : SB w3.heap.size w3 w5 := sb_then (by assumption) hby
           have R5 := Lib.hid hR5
           have HBY := Lib.hid hby
           have L5 := hby.size
           clear hR5))
    all_goals
      go_wp2
      go_meet
      case rel =>
        try simp only [drew_size] at hgt L4 L5
        have hb5 := HBY.out
        refine ⟨w5.heap.size, gt, B, cB, rfl, rfl, ?_, ?_, ?_, Lib.hid ?_, Lib.hid ?_, Lib.hid ?_, Lib.hid ?_⟩
        · exact S5.2.2.size
        · first | exact hgt | omega
        · omega
        · ((repeat (with_reducible first | assumption | exact HSW.out | refine sb_drew ?_ | refine sb_alloc ?_ (Nat.le_refl _) _)); all_goals first | done | (simp; done) | (simp; omega))
        · (repeat (with_reducible first | exact Blk.new_at (by simp) | refine Blk.drew ?_))
        · exact IsT.alloc (IsT.below T4.out hb5 (by first | exact LT4 | (simp; exact LT4))) _
        · refine ((R5.out.there (by omega)).below (by omega) ((Below.refl _ _).alloc (Nat.le_refl _) _)).imp (fun b hb => ?_)
          have h1 := hb.1
          have h2 := hb.2
          try simp only [drew_size] at h1 h2
          have h3 := S4.2.2.size
          exact ⟨by omega, by omega, by omega⟩
  case rest =>
    obtain ⟨g, gt, B, cB, rfl, rfl, hg, hgt, hne, SX, BX, TX, RX⟩ := hcut
    have K9 := Lib.hid (below_then K3.out K3.out.size SX.out.2.2)
    have P9 := Lib.hid (P3.out.below SX.out.2.2 P3.out.lt)
    have lp3 := P3.out.lt
    go_wp2
    refine bodyPost_ret (v := .tuple #[.pointer (some ⟨g, 0, none⟩), .bool true]) (by simp [results, Try.results38, go_sem]) rfl ?_
    have hw3 := K3.out.size
    refine ⟨g, gp, gt, B, cB, rfl, K9.out, by omega, hgp, by omega, ?_⟩
    refine ⟨?_, P9.out, TX.out, Reads.nil _ _ _ _, ?_, by omega, hne, by omega⟩
    · rw [HLn.out]
      exact BX.out
    · rw [HLn.out]
      exact RX.out.imp (fun b hb => ⟨hb.2.1, by omega, hb.2.2⟩)
end Go.Proofs.Ytnlpgjdgiappcaa
