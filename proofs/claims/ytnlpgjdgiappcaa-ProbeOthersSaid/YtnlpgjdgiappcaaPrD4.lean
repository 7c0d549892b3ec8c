/- WALKS: the world's acts on both: the table hears. -/
import Derived.Test.YtnlpgjdgiappcaaPrD3
namespace Go.Proofs.Ytnlpgjdgiappcaa
set_option linter.unusedVariables false
set_option linter.unusedSimpArgs false
open Go.RowKit

theorem rheard_shape (o : Option Pl.M) : ∃ v2 v3, ∀ t, rheardVal t o = .tuple #[t, v2, v3] := by
  cases o with
  | none => exact ⟨_, _, fun t => rfl⟩
  | some m => exact ⟨_, _, fun t => rfl⟩
theorem heard_shape (o : Option Pl.M) : ∃ v2 v3, heardVal o = .tuple #[v2, v3] := by
  cases o with
  | none => exact ⟨_, _, rfl⟩
  | some m => exact ⟨_, _, rfl⟩
def twor (w : World) (g : Nat) (a b : Value) : World := (w.setCell ⟨g, 12, none⟩ a).setCell ⟨g, 13, none⟩ b
theorem Blk.twor {w : World} {g : Nat} {t : TypeId} {u0 u1 x0 x1 x2 x3 x4 x5 x6 x7 x8 x9 u2 u3 u4 : Value} (h : Blk w g t #[u0, u1, x0, x1, x2, x3, x4, x5, x6, x7, x8, x9, u2, u3, u4]) (a b : Value) : Blk (twor w g a b) g t #[u0, u1, x0, x1, x2, x3, x4, x5, x6, x7, x8, x9, a, b, u4] := by
  unfold Ytnlpgjdgiappcaa.twor
  have := (h.set_ 12 a).set_ 13 b
  simpa only [List.setIfInBounds_toArray, List.set_cons_succ, List.set_cons_zero] using this
set_option maxRecDepth 100000 in
set_option maxHeartbeats 1000000 in
theorem do_hear (g gp gt : Nat) (p : Pl.Pb) (F : Pl.Tab) (r : Pl.Rp) (A : Option Addr) (cA : Nat) (z : Int) (G : Pl.Tab) (B : Option Addr) (cB : Nat) (now : Int) (a : Ac) (w : World) (B0 : Nat) (hB0 : B0 ≤ w.heap.size) (hB1 : B0 ≤ g) (hB2 : B0 ≤ gp) (hB3 : B0 ≤ gt)
    (H : WS w g gp gt p F r A cA z G B cB now) (hk : a.k.tmod 5 = 4) (hm : Pl.MOk a.m) (hG : Pl.TOk z G) :
    Calls Try.prog 39 #[.pointer (some ⟨g, 0, none⟩), .agg (acells a)] w fun e w' => e = .returned (.bool true) ∧ Below B0 w w' ∧ ∃ B' cB', WS w' g gp gt p (Pl.heard p.me F a.m) r A cA z (Pl.heard z G a.m) B' cB' now := by
  have HH := Lib.hid H
  have BW0 := Lib.hid H.blk
  have lg := H.blk.lt
  have lp := H.pb.lt
  have hne := H.ne1
  have HP := Lib.hid H.pb
  have hne2 := H.ne2
  have hne3 := H.ne3
  have HWa := Lib.hid (fun (w' : World) (hT : IsT w' gt p.me F) => hear_any gt p.me F a.m w' hT hm)
  have HRw := Lib.hid (fun (w' : World) (hR : ReadsM w' (fun b => b ≠ g ∧ b ≠ gp ∧ b ≠ gt) B (Pl.listT G)) (h : ∀ b, w'.heap.size ≤ b → b ≠ g ∧ b ≠ gp ∧ b ≠ gt) => refHear_any z G B cB a.m w' (fun b => b ≠ g ∧ b ≠ gp ∧ b ≠ gt) hG hm hR h)
  obtain ⟨v2, v3, hv⟩ := rheard_shape (Pl.hear z G a.m)
  obtain ⟨v4, v5, hv'⟩ := heard_shape (Pl.hear p.me F a.m)
  simp only [hv] at HRw
  rw [hv'] at HWa
  have RW0 := Lib.hid H.rw_
  have GL0 := Lib.hid H.gl
  have lt_ := H.tb.lt
  have TB0 := Lib.hid H.tb
  clear H
  obtain ⟨lg0, hlg0⟩ : ∃ x, Pl.listT G = x := ⟨_, rfl⟩
  obtain ⟨lg1, hlg1⟩ : ∃ x, Pl.listT (Pl.heard z G a.m) = x := ⟨_, rfl⟩
  obtain ⟨F', hF'⟩ : ∃ x, Pl.heard p.me F a.m = x := ⟨_, rfl⟩
  have HL0 := Lib.hid hlg0
  have HL1 := Lib.hid hlg1
  have HF' := Lib.hid hF'
  simp only [hlg0, hlg1] at HRw
  rw [hlg0] at BW0 GL0
  rw [hF'] at HWa
  unfold mcells at HRw
  unfold mcells at HWa
  unfold wcells at BW0
  unfold acells
  clear hlg0 hlg1 hF' hm hG hv hv'
  generalize a.k = k0 at *
  generalize a.b = k1 at *
  generalize a.d = k2 at *
  generalize a.s = k3 at *
  obtain ⟨n0, hn0⟩ : ∃ x, a.m.n = x := ⟨_, rfl⟩
  obtain ⟨n1, hn1⟩ : ∃ x, a.m.s = x := ⟨_, rfl⟩
  obtain ⟨n2, hn2⟩ : ∃ x, a.m.i = x := ⟨_, rfl⟩
  simp only [hn0, hn1, hn2] at HRw HWa ⊢
  clear hn0 hn1 hn2
  have K1 := Lib.hid ((Below.refl B0 w).alloc hB0 (.cells #[.int .u8 k0, .int .u8 k1, .int .u32 k2, .int .u16 n0, .int .u8 n1, .int .i64 n2, .int .i64 k3] 85))
  have BA1 := Lib.hid (Blk.new w 85 #[.int .u8 k0, .int .u8 k1, .int .u32 k2, .int .u16 n0, .int .u8 n1, .int .i64 n2, .int .i64 k3])
  have BW1 := Lib.hid (BW0.out.alloc (.cells #[.int .u8 k0, .int .u8 k1, .int .u32 k2, .int .u16 n0, .int .u8 n1, .int .i64 n2, .int .i64 k3] 85))
  have P1 := Lib.hid (HP.out.alloc (.cells #[.int .u8 k0, .int .u8 k1, .int .u32 k2, .int .u16 n0, .int .u8 n1, .int .i64 n2, .int .i64 k3] 85))
  have T1 := Lib.hid (TB0.out.alloc (.cells #[.int .u8 k0, .int .u8 k1, .int .u32 k2, .int .u16 n0, .int .u8 n1, .int .i64 n2, .int .i64 k3] 85))
  go_enter Try.func39, Try.ntmps39
  go_upto_region 3 with fail
  have KB1 : Hid (∀ b, b < w.heap.size → (w.alloc (.cells #[.int .u8 k0, .int .u8 k1, .int .u32 k2, .int .u16 n0, .int .u8 n1, .int .i64 n2, .int .i64 k3] 85)).heap[b]? = w.heap[b]?) := Lib.hid (fun b hb => Below.heap_alloc w _ b hb)
  have SZ1 : Hid (w.heap.size ≤ (w.alloc (.cells #[.int .u8 k0, .int .u8 k1, .int .u32 k2, .int .u16 n0, .int .u8 n1, .int .i64 n2, .int .i64 k3] 85)).heap.size) := Lib.hid (by simp)
  generalize w.alloc (.cells #[.int .u8 k0, .int .u8 k1, .int .u32 k2, .int .u16 n0, .int .u8 n1, .int .i64 n2, .int .i64 k3] 85) = w1 at *
  obtain ⟨ba, hba⟩ : ∃ b, w.heap.size = b := ⟨_, rfl⟩
  rw [hba]
  have HBA := Lib.hid hba
  have BA2 : Hid (Blk w1 ba 85 #[.int .u8 k0, .int .u8 k1, .int .u32 k2, .int .u16 n0, .int .u8 n1, .int .i64 n2, .int .i64 k3]) := Lib.hid (by rw [← hba]; exact BA1.out)
  have hgba : g ≠ ba := by omega
  have hpba : gp ≠ ba := by omega
  have htba : gt ≠ ba := by omega
  have hb0 : B0 ≤ ba := by omega
  clear BA1 hba BW0
  have y0 := BW1.out.cell 0
  have y1 := BW1.out.cell 1
  have y2 := BW1.out.cell 2
  have y3 := BW1.out.cell 3
  have y4 := BW1.out.cell 4
  have y5 := BW1.out.cell 5
  have y6 := BW1.out.cell 6
  have y7 := BW1.out.cell 7
  have y8 := BW1.out.cell 8
  have y9 := BW1.out.cell 9
  have y10 := BW1.out.cell 10
  have y11 := BW1.out.cell 11
  have y12 := BW1.out.cell 12
  have y13 := BW1.out.cell 13
  have y14 := BW1.out.cell 14
  simp only [List.getElem?_toArray, List.getElem?_cons_zero, List.getElem?_cons_succ] at y0 y1 y2 y3 y4 y5 y6 y7 y8 y9 y10 y11 y12 y13 y14
  have x0 := BA2.out.cell 0
  have x1 := BA2.out.cell 1
  have x2 := BA2.out.cell 2
  have x3 := BA2.out.cell 3
  have x4 := BA2.out.cell 4
  have x5 := BA2.out.cell 5
  have x6 := BA2.out.cell 6
  simp only [List.getElem?_toArray, List.getElem?_cons_zero, List.getElem?_cons_succ] at x0 x1 x2 x3 x4 x5 x6
  go_wp2
  go_still_tail 6, (by kernel_rfl)
  change wpList _ _ _ _ _ (World.drew w1)
  go_wp2_with fail
  refine (HWa.out _ T1.out.drew).mono ?_
  rintro e w2 ⟨rfl, hgr, hP2⟩
  have P2 := Lib.hid hP2
  have BW2 := Lib.hid (BW1.out.drew.grown hgr (by intro e; injection e with e; exact hne2 e))
  have BA3 := Lib.hid (BA2.out.drew.grown hgr (by intro e; injection e with e; exact htba e.symm))
  have K2 := Lib.hid (K1.out.drew.trans (below_of_grown (B := B0) (Nat.le_trans hB0 K1.out.drew.size) hgr (fun q e => by injection e with e; omega)))
  have KB2 : Hid (∀ b, b < w.heap.size → b ≠ gt → w2.heap[b]? = w.heap[b]?) := Lib.hid (fun b hb hne => (hgr.block b (by have := SZ1.out; show b < w1.heap.size; omega) (by intro e; injection e with e; exact hne e)).trans (KB1.out b hb))
  have SZ2 : Hid (w.heap.size ≤ w2.heap.size) := Lib.hid (Nat.le_trans SZ1.out hgr.size)
  clear hgr hP2
  clear y0 y1 y2 y3 y4 y5 y6 y7 y8 y9 y10 y11 y12 y13 y14 x0 x1 x2 x3 x4 x5 x6
  have y0 := BW2.out.cell 0
  have y1 := BW2.out.cell 1
  have y2 := BW2.out.cell 2
  have y3 := BW2.out.cell 3
  have y4 := BW2.out.cell 4
  have y5 := BW2.out.cell 5
  have y6 := BW2.out.cell 6
  have y7 := BW2.out.cell 7
  have y8 := BW2.out.cell 8
  have y9 := BW2.out.cell 9
  have y10 := BW2.out.cell 10
  have y11 := BW2.out.cell 11
  have y12 := BW2.out.cell 12
  have y13 := BW2.out.cell 13
  have y14 := BW2.out.cell 14
  simp only [List.getElem?_toArray, List.getElem?_cons_zero, List.getElem?_cons_succ] at y0 y1 y2 y3 y4 y5 y6 y7 y8 y9 y10 y11 y12 y13 y14
  have x0 := BA3.out.cell 0
  have x1 := BA3.out.cell 1
  have x2 := BA3.out.cell 2
  have x3 := BA3.out.cell 3
  have x4 := BA3.out.cell 4
  have x5 := BA3.out.cell 5
  have x6 := BA3.out.cell 6
  simp only [List.getElem?_toArray, List.getElem?_cons_zero, List.getElem?_cons_succ] at x0 x1 x2 x3 x4 x5 x6
  have lg2 := BW2.out.lt
  have la2 := BA3.out.lt
  have yf := BW2.out.frozen
  have HSW := Lib.hid (keepB (Below.refl w2.heap.size w2))
  have HRw2 : Hid (∀ X, Below w2.heap.size w2 X → Calls Try.prog 28 #[.agg #[.int .u16 z, .slice B lg0.length cB], .agg #[.int .u16 n0, .int .u8 n1, .int .i64 n2]] X fun e w' => ∃ A' c', e = .returned (.tuple #[.agg #[.int .u16 z, .slice A' lg1.length c'], v2, v3]) ∧ ReadsM w' (fun b => b ≠ g ∧ b ≠ gp ∧ b ≠ gt) A' lg1 ∧ Below X.heap.size X w') := by
    refine Lib.hid (fun X hX => HRw.out X ?_ ?_)
    · refine ((GL0.out.there (by omega)).keep (w' := X) (fun b hb => ?_)).imp (fun b hb => hb.1)
      exact (hX.block b (Nat.lt_of_lt_of_le hb.2 SZ2.out)).trans (KB2.out b hb.2 hb.1.2.2)
    · intro b hb
      have h1 := hX.size
      have h2 := SZ2.out
      refine ⟨by omega, by omega, by omega⟩
  clear HRw
  go_upto_region 13 with fail
  go_region_with (go_at_call 28; refine (HRw2.out _ (Below.refl _ _).drew).mono ?_; rintro e w3 ⟨A', c', rfl, hR3, hb⟩; have hb' : Below w2.heap.size w2 w3 := below_then (Below.refl _ _).drew (Nat.le_refl _) hb; have BW3 := Lib.hid (BW2.out.below hb' lg2); have P3 := Lib.hid (P2.out.below hb' P2.out.lt); have K3 := Lib.hid (below_then K2.out (Nat.le_trans hB0 SZ2.out) hb'); have KB3 : Hid (∀ b, b < w.heap.size → b ≠ gt → w3.heap[b]? = w.heap[b]?) := Lib.hid (fun b hb'' hne => (hb'.block b (by have := SZ2.out; omega)).trans (KB2.out b hb'' hne)); have R3 := Lib.hid hR3; have lg3 := BW3.out.lt; clear hb hb' hR3; clear y0 y1 y2 y3 y4 y5 y6 y7 y8 y9 y10 y11 y12 y13 y14 x0 x1 x2 x3 x4 x5 x6; have y0 := BW3.out.cell 0; have y1 := BW3.out.cell 1; have y2 := BW3.out.cell 2; have y3 := BW3.out.cell 3; have y4 := BW3.out.cell 4; have y5 := BW3.out.cell 5; have y6 := BW3.out.cell 6; have y7 := BW3.out.cell 7; have y8 := BW3.out.cell 8; have y9 := BW3.out.cell 9; have y10 := BW3.out.cell 10; have y11 := BW3.out.cell 11; have y12 := BW3.out.cell 12; have y13 := BW3.out.cell 13; have y14 := BW3.out.cell 14; simp only [List.getElem?_toArray, List.getElem?_cons_zero, List.getElem?_cons_succ] at y0 y1 y2 y3 y4 y5 y6 y7 y8 y9 y10 y11 y12 y13 y14; have yf3 := BW3.out.frozen)
  all_goals
    go_wp2
    have bF := BW3.out.twor (.int .u16 z) (.slice A' lg1.length c')
    have kF : Below B0 w (twor w3 g (.int .u16 z) (.slice A' lg1.length c')) := (K3.out.setCell (p := ⟨g, 12, none⟩) hB1 _).setCell (p := ⟨g, 13, none⟩) hB1 _
    have hF : ∀ b, b ≠ g → (twor w3 g (.int .u16 z) (.slice A' lg1.length c')).heap[b]? = w3.heap[b]? := fun b hne => (Below.heap_setCell _ ⟨g, 13, none⟩ _ b hne).trans (Below.heap_setCell _ ⟨g, 12, none⟩ _ b hne)
    have hG : ∀ b, b < w.heap.size → b ≠ g → b ≠ gt → (twor w3 g (.int .u16 z) (.slice A' lg1.length c')).heap[b]? = w.heap[b]? := fun b hb h1 h2 => (hF b h1).trans (KB3.out b hb h2)
    have hT := (hF gt (fun e => hne2 e.symm)).trans P3.out
    unfold twor at bF kF hF hG hT
    go_ret
    refine ⟨rfl, kF, A', c', ?_⟩
    refine ⟨?_, (hG gp lp (fun e => hne e.symm) hne3).trans HP.out, ?_, ?_, ?_, HH.out.ne1, HH.out.ne2, HH.out.ne3⟩
    · rw [HL1.out]; exact bF
    · rw [HF'.out]; exact hT
    · exact ((RW0.out.there (by omega)).keep (fun b hb => hG b hb.2 hb.1.1 hb.1.2.2)).imp (fun b hb => hb.1)
    · rw [HL1.out]; exact R3.out.keep (fun b hb => hF b hb.1)
end Go.Proofs.Ytnlpgjdgiappcaa
