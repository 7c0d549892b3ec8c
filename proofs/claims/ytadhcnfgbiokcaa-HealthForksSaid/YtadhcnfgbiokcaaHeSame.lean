/- WALK: do both have the same: same. -/
import Derived.Test.YtadhcnfgbiokcaaHeDo
namespace Go.Proofs.Ytadhcnfgbiokcaa
set_option linter.unusedVariables false
set_option linter.unusedSimpArgs false
open Go.RowKit
set_option maxRecDepth 100000 in
set_option maxHeartbeats 1000000 in
theorem Ends_far (g : Nat) (h : Hs) (n : Int) (w : World) (hn : 64 ≤ n) :
    Calls Try.prog 11 #[.pointer (some ⟨g, 0, none⟩), .int .u16 n] w fun e w' => e = .returned (.tuple #[.int .i64 0, .bool false]) ∧ Below w.heap.size w w' := by
  go_enter Try.func11, Try.ntmps11
  go_wp2
  refine bodyPost_ret (v := .tuple #[.int .i64 0, .bool false]) (by simp [results, Try.results11, go_sem]) rfl ⟨rfl, Below.refl _ _⟩
theorem Ends_both (g : Nat) (r : Rs) (n : Int) (w : World) (H : IsH w g (ofR r)) (HO : RsOk r) (h0 : 0 ≤ n) :
    Calls Try.prog 11 #[.pointer (some ⟨g, 0, none⟩), .int .u16 n] w fun e w' => e = .returned (rends r n) ∧ Below w.heap.size w w' := by
  by_cases h : n < 64
  · obtain ⟨k, rfl⟩ : ∃ k : Nat, n = (k : Int) := ⟨n.toNat, by omega⟩
    have := Ends_near g (ofR r) k w H HO.ok.ok (by omega) (fun x hx => HO.ok.su k x hx)
    rwa [ends_of HO k] at this
  · have := Ends_far g (ofR r) n w (by omega)
    unfold rends
    rw [rfind_far HO (by omega)]
    exact this
theorem rends_form (r : Rs) (n : Int) : ∃ E ok, rends r n = .tuple #[.int .i64 E, .bool ok] := by
  unfold rends
  cases rfind r.l n with
  | none => exact ⟨_, _, rfl⟩
  | some e => exact ⟨_, _, rfl⟩
set_option maxRecDepth 100000 in
set_option maxHeartbeats 4000000 in
theorem same_any (g : Nat) (S : Nat → Prop) (r : Rs) (v : Value) (n now : Int) (w : World) (hB : Both w g S v r) (hn : 0 ≤ n ∧ n ≤ 65535) :
    Calls Try.prog 20 #[.pointer (some ⟨g, 0, none⟩), v, .int .u16 n, .int .i64 now] w fun e w' => e = .returned (.bool true) ∧ Below w.heap.size w w' := by
  obtain ⟨hH, hR, hO, -⟩ := hB
  have hg := hH.lt
  obtain ⟨A, c, L, rfl, hL, hRd, hWd⟩ := hR
  obtain ⟨n0, n1⟩ := hn
  have hlen : L.length ≤ 64 := by have := hO.len; rw [← hL, List.length_map] at this; exact this
  have hlenI : lenS (ofR r).s 64 = L.length := by rw [len_of hO, ← hL, List.length_map]
  have hdue : dueS (ofR r) now 64 = dueE r now L := by rw [due_of hO, dueE_of, hL]
  have hD64 : (dueE r now L).length ≤ 64 := Nat.le_trans (dueE_le r now L) hlen
  obtain ⟨D, hD⟩ : ∃ D, dueE r now L = D := ⟨_, rfl⟩
  rw [hD] at hdue hD64
  have HD := Lib.hid hD
  have HDU := Lib.hid hdue
  have HLI := Lib.hid hlenI
  have HL := Lib.hid hL
  have HO := Lib.hid hO
  have HRd := Lib.hid (Reads.imp (S' := fun _ => True) hRd (fun _ _ => trivial))
  obtain ⟨E, ok, hEo⟩ := rends_form r n
  have HEO := Lib.hid hEo
  clear hD hdue hlenI hL hO hEo hWd
  have C0 := Blk.new w 53 #[.int .u16 r.me, .int .i64 r.mn, .int .i64 r.mx, .int .i64 r.cf, .int .i64 r.sc, .slice A L.length c]
  have hs1 : (w.alloc (.cells #[.int .u16 r.me, .int .i64 r.mn, .int .i64 r.mx, .int .i64 r.cf, .int .i64 r.sc, .slice A L.length c] 53)).heap.size = w.heap.size + 1 := by simp
  have K0 : Below w.heap.size w (w.alloc (.cells #[.int .u16 r.me, .int .i64 r.mn, .int .i64 r.mx, .int .i64 r.cf, .int .i64 r.sc, .slice A L.length c] 53)) := (Below.refl _ _).alloc (Nat.le_refl _) _
  have D0 := Lib.hid C0
  have HK0 := Lib.hid K0
  have HH0 := Lib.hid (hH.below K0 hg)
  have HR0 := Lib.hid (Reads.below HRd.out (by omega) K0)
  have l30 : w.heap.size < (w.alloc (.cells #[.int .u16 r.me, .int .i64 r.mn, .int .i64 r.mx, .int .i64 r.cf, .int .i64 r.sc, .slice A L.length c] 53)).heap.size := by rw [hs1]; omega
  clear C0 K0 hH hRd hs1
  unfold hval
  go_enter Try.func20, Try.ntmps20
  go_wp2_with fail
  refine (Ends_both g r n _ HH0.out HO.out n0).mono ?_
  rw [HEO.out]
  rintro e w1 ⟨rfl, hb⟩
  have D1 := Lib.hid (D0.out.below hb l30)
  have HH1 := Lib.hid (HH0.out.below hb HH0.out.lt)
  have HR1 := Lib.hid (Reads.below HR0.out (by omega) hb)
  have HK1 := Lib.hid (below_then HK0.out HK0.out.size hb)
  have hl1 : w.heap.size < w1.heap.size := Nat.lt_of_lt_of_le l30 hb.size
  clear hb l30 D0 HH0 HR0 HK0
  have q0 := D1.out.cell 0
  have q1 := D1.out.cell 1
  have q2 := D1.out.cell 2
  have q3 := D1.out.cell 3
  have q4 := D1.out.cell 4
  have q5 := D1.out.cell 5
  simp only [List.getElem?_toArray, List.getElem?_cons_zero, List.getElem?_cons_succ] at q0 q1 q2 q3 q4 q5
  go_wp2_with fail
  refine (rends_any r n A c L _ HO.out HL.out HR1.out).mono ?_
  rw [HEO.out]
  rintro e w2 ⟨rfl, hb⟩
  have D2 := Lib.hid (D1.out.below hb hl1)
  have HH2 := Lib.hid (HH1.out.below hb HH1.out.lt)
  have HR2 := Lib.hid (Reads.below HR1.out (by omega) hb)
  have HK2 := Lib.hid (below_then HK1.out HK1.out.size hb)
  have hl2 : w.heap.size < w2.heap.size := Nat.lt_of_lt_of_le hl1 hb.size
  clear hb hl1 D1 HH1 HR1 HK1 q0 q1 q2 q3 q4 q5
  have q0 := D2.out.cell 0
  have q1 := D2.out.cell 1
  have q2 := D2.out.cell 2
  have q3 := D2.out.cell 3
  have q4 := D2.out.cell 4
  have q5 := D2.out.cell 5
  simp only [List.getElem?_toArray, List.getElem?_cons_zero, List.getElem?_cons_succ] at q0 q1 q2 q3 q4 q5
  have hLEN : ∀ X, Below w2.heap.size w2 X → Calls Try.prog 16 #[.pointer (some ⟨g, 0, none⟩)] X fun e w' => e = .returned (.int .i64 (L.length : Int)) ∧ Below w2.heap.size w2 w' := fun X hX => by
    have := len_any g (ofR r) X (HH2.out.below hX HH2.out.lt)
    rw [HLI.out] at this
    exact this.mono (fun e w' h => ⟨h.1, below_then hX hX.size h.2⟩)
  have hSC : ∀ X, Below w2.heap.size w2 X → Calls Try.prog 14 #[.pointer (some ⟨g, 0, none⟩)] X fun e w' => e = .returned (.int .i64 r.sc) ∧ Below w2.heap.size w2 w' := fun X hX =>
    (score_any g (ofR r) X (HH2.out.below hX HH2.out.lt)).mono (fun e w' h => ⟨h.1, below_then hX hX.size h.2⟩)
  obtain ⟨Wt, hWt⟩ : ∃ Wt, (if 0 ≤ now ∧ now ≤ 1099511627776 then now * (r.sc + 1) else 0) = Wt := ⟨_, rfl⟩
  have hWA : ∀ X, Below w2.heap.size w2 X → Calls Try.prog 22 #[.pointer (some ⟨g, 0, none⟩), .int .i64 now] X fun e w' => e = .returned (.int .i64 Wt) ∧ Below w2.heap.size w2 w' := fun X hX => by
    have := wait_any g (ofR r) now X (HH2.out.below hX HH2.out.lt) HO.out.ok.ok.sc
    exact this.mono (fun e w' h => ⟨by rw [h.1, ← hWt]; rfl, below_then hX hX.size h.2⟩)
  have hWB : ∀ X, Below w2.heap.size w2 X → Calls Try.prog 31 #[.agg #[.int .u16 r.me, .int .i64 r.mn, .int .i64 r.mx, .int .i64 r.cf, .int .i64 r.sc, .slice A L.length c], .int .i64 now] X fun e w' => e = .returned (.int .i64 Wt) ∧ Below w2.heap.size w2 w' := fun X hX => by
    have := rwait_any r now A L.length c X HO.out.ok.ok.sc
    exact this.mono (fun e w' h => ⟨by rw [h.1, hWt], below_then hX hX.size h.2⟩)
  have hDA : ∀ X, Below w2.heap.size w2 X → Calls Try.prog 17 #[.pointer (some ⟨g, 0, none⟩), .int .i64 now] X fun e w' => ∃ A1 c1, e = .returned (.slice A1 D.length c1) ∧ ReadsM w' (fun _ => True) A1 D ∧ Below w2.heap.size w2 w' := fun X hX => by
    have := due_any g (ofR r) now X (HH2.out.below hX HH2.out.lt) HO.out.ok
    rw [HDU.out] at this
    refine this.mono ?_
    rintro e w' ⟨v, rfl, ho, hb⟩
    obtain ⟨A1, c1, rfl⟩ := own_slice ho
    exact ⟨A1, c1, rfl, Reads.imp (own_reads ho) (fun _ _ => trivial), below_then hX hX.size hb⟩
  have hDB : ∀ X, Below w2.heap.size w2 X → Calls Try.prog 33 #[.agg #[.int .u16 r.me, .int .i64 r.mn, .int .i64 r.mx, .int .i64 r.cf, .int .i64 r.sc, .slice A L.length c], .int .i64 now] X fun e w' => ∃ A1 c1, e = .returned (.slice A1 D.length c1) ∧ ReadsM w' (fun _ => True) A1 D ∧ Below X.heap.size X w' ∧ Below w2.heap.size w2 w' := fun X hX => by
    have := rdue_any r now A c L X HO.out HL.out (Reads.below HR2.out (by omega) hX)
    rw [HD.out] at this
    refine this.mono ?_
    rintro e w' ⟨v, rfl, ho, hb⟩
    obtain ⟨A1, c1, rfl⟩ := own_slice ho
    exact ⟨A1, c1, rfl, Reads.imp (own_reads ho) (fun _ _ => trivial), hb, below_then hX hX.size hb⟩
  have HLEN := Lib.hid hLEN
  have HSC := Lib.hid hSC
  have HWA := Lib.hid hWA
  have HWB := Lib.hid hWB
  have HDA := Lib.hid hDA
  have HDB := Lib.hid hDB
  clear hLEN hSC hWA hWB hDA hDB hWt
  have hb0 : Below w2.heap.size w2 w2 := Below.refl _ _
  go_wp2
  go_region_held3 (fun X => SB w2.heap.size w2 X) (first | assumption | exact keepB (by assumption) | exact keepB (Below.drew (by assumption)))
    (first
      | (go_at_call 16; refine (HLEN.out _ ?_).mono ?_; (first | assumption | exact Below.drew (by assumption)); rintro e wa ⟨rfl, hba⟩)
      | (go_at_call 14; refine (HSC.out _ ?_).mono ?_; (first | assumption | exact Below.drew (by assumption)); rintro e wb ⟨rfl, hbb⟩)
      | (go_at_call 22; refine (HWA.out _ ?_).mono ?_; (first | assumption | exact Below.drew (by assumption)); rintro e wc ⟨rfl, hbc⟩)
      | (go_at_call 31; refine (HWB.out _ ?_).mono ?_; (first | assumption | exact Below.drew (by assumption)); rintro e wd ⟨rfl, hbd⟩)
      | (go_at_call 17; refine (HDA.out _ ?_).mono ?_; (first | assumption | exact Below.drew (by assumption)); rintro e we ⟨A1, c1, rfl, hr1, hbe⟩; have HR1 := Lib.hid hr1; clear hr1)
      | (go_at_call 33; refine (HDB.out _ ?_).mono ?_; (first | assumption | exact Below.drew (by assumption)); rintro e wf ⟨A3, c3, rfl, hr3, hbx, hbf⟩; have HR3 := Lib.hid hr3; have HR1' := Lib.hid (Reads.below HR1.out (by omega) (show Below we.heap.size we wf from ⟨hbx.os, hbx.tape, hbx.output, hbx.size, hbx.block⟩)); clear hr3 hbx)
      | (go_at_call 32; refine (sameM_any A1 A3 c1 c3 D _ HR1'.out HR3.out hD64).mono ?_; rintro e wg ⟨rfl, hbg⟩; have hbh := below_then hbf hbf.size (show Below wf.heap.size wf wg from ⟨hbg.os, hbg.tape, hbg.output, hbg.size, hbg.block⟩)))
  all_goals
    go_wp2
    go_ret
    exact ⟨rfl, below_then HK2.out (by omega) hbh⟩
end Go.Proofs.Ytadhcnfgbiokcaa
