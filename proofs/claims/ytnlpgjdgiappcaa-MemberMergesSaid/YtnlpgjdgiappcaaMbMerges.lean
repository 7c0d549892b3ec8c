/- The statement MemberMerges: many heard at once: as the document says; a fork goes its own way; one that is not there hears nothing. Conditions: none. -/
import Derived.Test.YtnlpgjdgiappcaaMbPlaces
import Derived.Test.YtnlpgjdgiappcaaMbDoc7
import Derived.Test.YtnlpgjdgiappcaaMbDoc8
import Derived.Test.YtnlpgjdgiappcaaMbNil
namespace Go.Proofs.Ytnlpgjdgiappcaa
set_option linter.unusedVariables false
set_option linter.unusedSimpArgs false
open Go.ChangeShapes Go.WideShapes Go.ChangeAt Go.RowKit

set_option maxRecDepth 100000 in
set_option maxHeartbeats 4000000 in
theorem merges_walk (s : Int) (A : Option Addr) (c : Nat) (l : List Pl.M) (B : Option Addr) (d : Nat) (more : List Pl.M) (w : World) (hs : 0 ≤ s ∧ s ≤ 65535) (hl : ReadsM w (fun b => b < w.heap.size) A l) (hml : ∀ m ∈ l, Pl.MOk m)
    (hm : ReadsM w (fun b => b < w.heap.size) B more) (hmm : ∀ m ∈ more, Pl.MOk m) (h1 : l.length ≤ 200) (h2 : more.length ≤ 200) :
    Calls Try.prog 8 #[.int .u16 s, .slice A l.length c, .slice B more.length d] w fun e w' => e = .returned (.bool true) ∧ Below w.heap.size w w' := by
  obtain ⟨z, hz⟩ : ∃ z, s % 64 = z := ⟨_, rfl⟩
  have hz0 : 0 ≤ z := by omega
  have hz1 : z < 64 := by omega
  have g1 : ¬ (200 : Int) < l.length := by omega
  have g2 : ¬ (200 : Int) < more.length := by omega
  have HL := Lib.hid hl
  have HML := Lib.hid hml
  have HM := Lib.hid hm
  have HMM := Lib.hid hmm
  clear hl hml hm hmm
  go_enter Try.func8, Try.ntmps8
  go_wp2_with fail
  refine (new_any s _ hs.1 hs.2).mono ?_
  rintro e w1 ⟨g, rfl, hb1, hg, hT1⟩
  rw [hz] at hT1
  have K1 := Lib.hid hb1
  have T1 := Lib.hid hT1
  have hgw : w.heap.size ≤ g := hg
  clear hb1 hT1
  go_wp2_with fail
  refine (refNew_any s _ hs.1 hs.2).mono ?_
  rintro e w2 ⟨A2, c2, rfl, hb2, hr2⟩
  rw [hz] at hr2
  have hgl1 := T1.out.lt
  have K2 := Lib.hid (below_then K1.out K1.out.size hb2)
  have T2 := Lib.hid (T1.out.below hb2 T1.out.lt)
  rw [hz]
  have l2 := hb2.size
  have R2 := Lib.hid ((Reads.there hr2 (by simp)).imp (S' := fun b => b ≠ g ∧ b ≠ w2.heap.size) fun b hb => ⟨by omega, by omega⟩ : ReadsM w2 (fun b => b ≠ g ∧ b ≠ w2.heap.size) A2 [⟨z, 0, 0⟩])
  clear hb2 hr2 K1 T1 hz
  go_upto_region 4 with fail
  have K3 := Lib.hid (K2.out.alloc K2.out.size (.cells #[.int .u16 z, .slice A2 1 c2] 46))
  have T3 := Lib.hid (T2.out.alloc (.cells #[.int .u16 z, .slice A2 1 c2] 46))
  have B3 := Lib.hid (Blk.new w2 46 #[.int .u16 z, .slice A2 1 c2])
  have R3 := Lib.hid (ReadsM.alloc R2.out (.cells #[.int .u16 z, .slice A2 1 c2] 46))
  have hg2 := T2.out.lt
  have hw2 := K2.out.size
  have hnew := listT_new hz0 hz1
  have HN := Lib.hid hnew
  clear K2 T2 R2 hnew
  generalize hbb : w2.heap.size = b8 at *
  generalize w2.alloc (.cells #[.int .u16 z, .slice A2 1 c2] 46) = w3 at *
  have hF0 := Pl.newT_ok hz0 hz1
  obtain ⟨F0, hF0e⟩ : ∃ F0, Pl.newT z = F0 := ⟨_, rfl⟩
  rw [hF0e] at hF0 T3 HN
  have hlen0 : (Pl.listT F0).length = 1 := by rw [HN.out]; rfl
  have hF1 := Pl.merge_ok l hF0 HML.out
  obtain ⟨F1, hF1e⟩ : ∃ F1, Pl.merge z F0 l = F1 := ⟨_, rfl⟩
  obtain ⟨T1, hT1e⟩ : ∃ T1, Pl.told z F0 l = T1 := ⟨_, rfl⟩
  have hF2 := Pl.merge_ok more (hF1e ▸ hF1) HMM.out
  obtain ⟨F2, hF2e⟩ : ∃ F2, Pl.merge z F1 more = F2 := ⟨_, rfl⟩
  obtain ⟨T2, hT2e⟩ : ∃ T2, Pl.told z F1 more = T2 := ⟨_, rfl⟩
  have ht1 := told_length z F0 l
  have ht2 := told_length z F1 more
  rw [hF1e] at hF1
  rw [hF2e] at hF2
  rw [hT1e] at ht1
  rw [hT2e] at ht2
  have HF0 := Lib.hid hF0
  have HF1 := Lib.hid hF1
  have HF2 := Lib.hid hF2
  have E1 := Lib.hid hF1e
  have E2 := Lib.hid hF2e
  have E3 := Lib.hid hT1e
  have E4 := Lib.hid hT2e
  have hle1 := listLen F1
  have hle2 := listLen F2
  clear hF0 hF1 hF2 hF1e hF2e hT1e hT2e hF0e
  have h3s := B3.out.lt
  -- t.Merge(l)
  go_wp2_with fail
  refine (merge_any g z F0 A c l _ T3.out HML.out (by omega) ((HL.out.below (by omega) K3.out).imp fun b hb => by omega)).mono ?_
  rw [E1.out, E3.out]
  rintro e w4 ⟨v4, rfl, ho4, hg4, hT4⟩
  have hlow4 := own_base ho4
  obtain ⟨A4, c4, rfl, r4⟩ := Reads.of_own ho4
  have RA := Lib.hid ((Reads.there r4 (by omega)).imp (S' := fun b => b ≠ g ∧ b ≠ b8) fun b hb => ⟨by have := hlow4 b hb.1; have := T3.out.lt; omega, by have := hlow4 b hb.1; omega⟩ : ReadsM w4 (fun b => b ≠ g ∧ b ≠ b8) A4 T1)
  have K4 := Lib.hid (K3.out.grown hg4 K3.out.size (fun k e => by injection e with e; omega))
  have T4 := Lib.hid hT4
  have B4 := Lib.hid (B3.out.grown hg4 (fun e => by injection e with e; omega))
  have R4 := Lib.hid (Reads.grown R3.out (by omega) hg4 (fun b hb e => hb.1 (by injection e)) : ReadsM w4 (fun b => b ≠ g ∧ b ≠ b8) A2 [⟨z, 0, 0⟩])
  have l4 := hg4.size
  clear ho4 hlow4 r4 hg4 hT4 K3 T3 B3 R3
  have q0 := B4.out.cell 0
  have q1 := B4.out.cell 1
  simp only [List.getElem?_toArray, List.getElem?_cons_zero, List.getElem?_cons_succ] at q0 q1
  -- r.Merge(l)
  go_wp2_with fail
  have hcall := refMerge_any z F0 A2 c2 A c l w4 HF0.out HML.out (by omega) (fun b => b ≠ g ∧ b ≠ b8) (fun b hb => ⟨by have := T4.out.lt; omega, by omega⟩) (by rw [HN.out]; exact R4.out) ((HL.out.below (by omega) K4.out).imp fun _ _ => trivial)
  rw [hlen0] at hcall
  refine hcall.mono ?_
  clear hcall
  rw [E1.out, E3.out]
  rintro e w5 ⟨A5, c5, v5, rfl, hr5, ho5, hb5⟩
  have hlow5 := own_base ho5
  obtain ⟨A6, c6, rfl, r6⟩ := Reads.of_own ho5
  have RB5 := Lib.hid (r6.imp (S' := fun b => b ≠ g ∧ b ≠ b8) fun b hb => ⟨by have := hlow5 b hb; have := T4.out.lt; omega, by have := hlow5 b hb; omega⟩ : ReadsM w5 (fun b => b ≠ g ∧ b ≠ b8) A6 T1)
  have RA5 := Lib.hid (RA.out.below (by omega) hb5 : ReadsM w5 (fun b => b ≠ g ∧ b ≠ b8) A4 T1)
  have R5 := Lib.hid hr5
  have T5 := Lib.hid (T4.out.below hb5 T4.out.lt)
  have B5 := Lib.hid (B4.out.below hb5 B4.out.lt)
  have K5 := Lib.hid (below_then K4.out K4.out.size hb5)
  have l5 := hb5.size
  clear hlow5 r6 hr5 ho5 hb5 RA K4 T4 B4 R4 q0 q1
  have q0 := B5.out.cell 0
  have q1 := B5.out.cell 1
  have q2 := B5.out.frozen
  simp only [List.getElem?_toArray, List.getElem?_cons_zero, List.getElem?_cons_succ] at q0 q1
  go_upto_region 6 with fail
  have RB6 := Lib.hid ((ReadsM.set (p := ⟨b8, 0, none⟩) RB5.out (fun b hb => hb.2) (.int .u16 z)).set (p := ⟨b8, 1, none⟩) (fun b hb => hb.2) (.slice A5 (Pl.listT F1).length c5))
  have RA6 := Lib.hid ((ReadsM.set (p := ⟨b8, 0, none⟩) RA5.out (fun b hb => hb.2) (.int .u16 z)).set (p := ⟨b8, 1, none⟩) (fun b hb => hb.2) (.slice A5 (Pl.listT F1).length c5))
  have R6 := Lib.hid ((ReadsM.set (p := ⟨b8, 0, none⟩) R5.out (fun b hb => hb.2) (.int .u16 z)).set (p := ⟨b8, 1, none⟩) (fun b hb => hb.2) (.slice A5 (Pl.listT F1).length c5))
  have B6 := Lib.hid (Blk.mem2 B5.out (.int .u16 z) (.slice A5 (Pl.listT F1).length c5))
  have T6 := Lib.hid ((Blk.far T5.out (p := ⟨b8, 0, none⟩) (show g ≠ b8 by omega) (.int .u16 z)).far (p := ⟨b8, 1, none⟩) (show g ≠ b8 by omega) (.slice A5 (Pl.listT F1).length c5) : IsT _ g z F1)
  have K6 := Lib.hid ((K5.out.setCell (p := ⟨b8, 0, none⟩) (show w.heap.size ≤ b8 by omega) (.int .u16 z)).setCell (p := ⟨b8, 1, none⟩) (show w.heap.size ≤ b8 by omega) (.slice A5 (Pl.listT F1).length c5))
  have l6 : w5.heap.size = ((w5.setCell ⟨b8, 0, none⟩ (.int .u16 z)).setCell ⟨b8, 1, none⟩ (.slice A5 (Pl.listT F1).length c5)).heap.size := by simp [World.setCell]
  clear RB5 RA5 R5 B5 T5 K5 q0 q1 q2
  generalize ((w5.setCell ⟨b8, 0, none⟩ (.int .u16 z)).setCell ⟨b8, 1, none⟩ (.slice A5 (Pl.listT F1).length c5)) = w6 at *
  have q0 := B6.out.cell 0
  have q1 := B6.out.cell 1
  simp only [List.getElem?_toArray, List.getElem?_cons_zero, List.getElem?_cons_succ] at q0 q1
  have hgl : b8 < w6.heap.size := B6.out.lt
  have HTT := Lib.hid (fun X (h : SB w6.heap.size w6 X) => (T6.out.below h.2.2 T6.out.lt : IsT X g z F1))
  have HSW := Lib.hid (keepB (Below.refl w6.heap.size w6))
  go_cut [11, 12] from 43 to 45 (fun s11 s12 wx => ∃ (g' b12 : Nat), s11 = .pointer (some ⟨g', 0, none⟩) ∧ s12 = .pointer (some ⟨b12, 0, none⟩) ∧ w6.heap.size ≤ g' ∧ w6.heap.size ≤ b12 ∧ g' ≠ b12 ∧
    Go.RowKit.Hid (IsT wx g' z F1) ∧ Go.RowKit.Hid (Blk wx b12 46 #[.int .u16 z, .slice A5 (Pl.listT F1).length c5]) ∧ Go.RowKit.Hid (Below w6.heap.size w6 wx))
  case first =>
    go_region_held3 (fun X => SB w6.heap.size w6 X) (((repeat (with_reducible first | assumption | exact HSW.out | refine sb_drew ?_ | refine sb_alloc ?_ (Nat.le_refl _) _ | refine sb_set ?_ ?_ _)); all_goals first | done | (simp; done) | (simp; omega)))
      (first
        | (go_at_call 32; refine (fork_any g z F1 _ (HTT.out _ (by assumption))).mono ?_; rintro e w7 ⟨g', rfl, hb7, hge, hT7⟩; have S1 : SB w6.heap.size w6 w7 := sb_then (by assumption) hb7; have L1 := hb7.size; have T7 := Lib.hid hT7; have l7 := hT7.lt
           first
             | (obtain ⟨K0, k0, k1⟩ := kept1 hb7; have a0 := K0.cell 0; have a1 := K0.cell 1; have a2 := K0.cell 2; have f0 := K0.frozen; have BK0 := Lib.hid K0; clear K0; simp only [List.getElem?_toArray, List.getElem?_cons_zero, List.getElem?_cons_succ] at a0 a1 a2)
             | skip
           clear hb7 hT7))
    all_goals
      go_wp2
      go_meet
      case rel =>
        try simp only [drew_size] at L1 hge
        try simp at L1 hge
        refine ⟨_, _, rfl, rfl, ?_, ?_, ?_, Lib.hid ?_, Lib.hid ?_, Lib.hid (by assumption : SB w6.heap.size w6 _).2.2⟩
        · omega
        · omega
        · omega
        · unfold IsT
          have bt : Blk w7 g' 98 (tcells z F1) := T7.out
          repeat (with_reducible first | exact bt | refine Blk.alloc ?_ _ | refine Blk.far ?_ ?_ _)
          all_goals first | done | (simp; done) | omega | (dsimp only; omega) | (simp; omega)
        · repeat (with_reducible first | exact BK0.out | apply Blk.mem2 | refine Blk.new_at ?_ | refine Blk.alloc ?_ _ | refine Blk.far ?_ ?_ _)
          all_goals first | done | (simp; done) | omega | (dsimp only; omega) | (simp; omega)
  case rest =>
    obtain ⟨g', b12, rfl, rfl, hg', h12, hgb, T7, B7, K⟩ := hcut
    have S6 := Lib.hid (below_then K6.out K6.out.size K.out)
    have RL7 := Lib.hid (HL.out.below (by omega) S6.out : ReadsM wc (fun b => b < w.heap.size) A l)
    have RM7 := Lib.hid (HM.out.below (by omega) S6.out : ReadsM wc (fun b => b < w.heap.size) B more)
    have RA7 := Lib.hid ((((Reads.there RA6.out (by omega)).imp (S' := fun b => b ≠ g' ∧ b ≠ b12) fun b hb => ⟨by omega, by omega⟩).below (by omega) K.out) : ReadsM wc (fun b => b ≠ g' ∧ b ≠ b12) A4 T1)
    have RB7 := Lib.hid ((((Reads.there RB6.out (by omega)).imp (S' := fun b => b ≠ g' ∧ b ≠ b12) fun b hb => ⟨by omega, by omega⟩).below (by omega) K.out) : ReadsM wc (fun b => b ≠ g' ∧ b ≠ b12) A6 T1)
    have R7 := Lib.hid ((((Reads.there R6.out (by omega)).imp (S' := fun b => b ≠ g' ∧ b ≠ b12) fun b hb => ⟨by omega, by omega⟩).below (by omega) K.out) : ReadsM wc (fun b => b ≠ g' ∧ b ≠ b12) A5 (Pl.listT F1))
    have T6' := Lib.hid (T6.out.below K.out T6.out.lt)
    have B6' := Lib.hid (B6.out.below K.out B6.out.lt)
    have hg6 := T6.out.lt
    have hwc := K.out.size
    have hgc := T7.out.lt
    have hbc := B7.out.lt
    clear q0 q1 HTT HSW RA6 RB6 R6 B6 T6 K6 K
    -- f.Merge(more)
    go_wp2_with fail
    refine (merge_any g' z F1 B d more _ T7.out HMM.out (by omega) (RM7.out.imp fun b hb => by omega)).mono ?_
    rw [E2.out, E4.out]
    rintro e w8 ⟨v8, rfl, ho8, hg8, hT8⟩
    have hlow8 := own_base ho8
    obtain ⟨A8, c8, rfl, r8⟩ := Reads.of_own ho8
    have RC := Lib.hid (r8.imp (S' := fun b => b ≠ b12) fun b hb => (by have := hlow8 b hb; omega) : ReadsM w8 (fun b => b ≠ b12) A8 T2)
    have K8 := Lib.hid (S6.out.grown hg8 S6.out.size (fun k e => by injection e with e; omega))
    have RA8 := Lib.hid ((Reads.grown RA7.out (by omega) hg8 (fun b hb e => hb.1 (by injection e))).imp (S' := fun b => b ≠ b12) fun b hb => hb.2 : ReadsM w8 (fun b => b ≠ b12) A4 T1)
    have RB8 := Lib.hid ((Reads.grown RB7.out (by omega) hg8 (fun b hb e => hb.1 (by injection e))).imp (S' := fun b => b ≠ b12) fun b hb => hb.2 : ReadsM w8 (fun b => b ≠ b12) A6 T1)
    have R8 := Lib.hid ((Reads.grown R7.out (by omega) hg8 (fun b hb e => hb.1 (by injection e))).imp (S' := fun b => b ≠ b12) fun b hb => hb.2 : ReadsM w8 (fun b => b ≠ b12) A5 (Pl.listT F1))
    have T8 := Lib.hid hT8
    have G8 := Lib.hid (Blk.grown T6'.out hg8 (fun e => by injection e with e; omega) : IsT w8 g z F1)
    have B8 := Lib.hid (B7.out.grown hg8 (fun e => by injection e with e; omega))
    have D8 := Lib.hid (B6'.out.grown hg8 (fun e => by injection e with e; omega))
    have l8 := hg8.size
    clear ho8 hlow8 r8 hg8 hT8 S6 RL7 RM7 RA7 RB7 R7 T6' B6' T7 B7
    have q0 := B8.out.cell 0
    have q1 := B8.out.cell 1
    have q2 := B8.out.frozen
    simp only [List.getElem?_toArray, List.getElem?_cons_zero, List.getElem?_cons_succ] at q0 q1
    -- x.Merge(more)
    go_wp2_with fail
    refine (refMerge_any z F1 A5 c5 B d more w8 HF1.out HMM.out (by omega) (fun b => b ≠ b12) (fun b hb => by omega) R8.out ((HM.out.below (by omega) K8.out).imp fun _ _ => trivial)).mono ?_
    rw [E2.out, E4.out]
    rintro e w9 ⟨A9, c9, v9, rfl, hr9, ho9, hb9⟩
    have hlow9 := own_base ho9
    obtain ⟨A10, c10, rfl, r10⟩ := Reads.of_own ho9
    have RD9 := Lib.hid (r10.imp (S' := fun b => b ≠ b12) fun b hb => (by have := hlow9 b hb; omega) : ReadsM w9 (fun b => b ≠ b12) A10 T2)
    have RA9 := Lib.hid (RA8.out.below (by omega) hb9 : ReadsM w9 (fun b => b ≠ b12) A4 T1)
    have RB9 := Lib.hid (RB8.out.below (by omega) hb9 : ReadsM w9 (fun b => b ≠ b12) A6 T1)
    have RC9 := Lib.hid (RC.out.below (by omega) hb9 : ReadsM w9 (fun b => b ≠ b12) A8 T2)
    have R9 := Lib.hid (R8.out.below (by omega) hb9 : ReadsM w9 (fun b => b ≠ b12) A5 (Pl.listT F1))
    have X9 := Lib.hid hr9
    have T9 := Lib.hid (T8.out.below hb9 T8.out.lt)
    have G9 := Lib.hid (G8.out.below hb9 G8.out.lt)
    have B9 := Lib.hid (B8.out.below hb9 B8.out.lt)
    have D9 := Lib.hid (D8.out.below hb9 D8.out.lt)
    have K9 := Lib.hid (below_then K8.out K8.out.size hb9)
    have l9 := hb9.size
    clear hlow9 r10 hr9 ho9 hb9 RA8 RB8 RC R8 T8 G8 B8 D8 K8 q0 q1 q2
    have q0 := B9.out.cell 0
    have q1 := B9.out.cell 1
    have q2 := B9.out.frozen
    simp only [List.getElem?_toArray, List.getElem?_cons_zero, List.getElem?_cons_succ] at q0 q1
    go_upto_region 11 with fail
    have n1 : g ≠ b12 := by omega
    have n2 : b8 ≠ b12 := by omega
    have RAa := Lib.hid (((ReadsM.set (p := ⟨b12, 0, none⟩) RA9.out (fun b hb => hb) (.int .u16 z)).set (p := ⟨b12, 1, none⟩) (fun b hb => hb) (.slice A9 (Pl.listT F2).length c9)).imp (S' := fun _ => True) fun _ _ => trivial)
    have RBa := Lib.hid (((ReadsM.set (p := ⟨b12, 0, none⟩) RB9.out (fun b hb => hb) (.int .u16 z)).set (p := ⟨b12, 1, none⟩) (fun b hb => hb) (.slice A9 (Pl.listT F2).length c9)).imp (S' := fun _ => True) fun _ _ => trivial)
    have RCa := Lib.hid (((ReadsM.set (p := ⟨b12, 0, none⟩) RC9.out (fun b hb => hb) (.int .u16 z)).set (p := ⟨b12, 1, none⟩) (fun b hb => hb) (.slice A9 (Pl.listT F2).length c9)).imp (S' := fun _ => True) fun _ _ => trivial)
    have RDa := Lib.hid (((ReadsM.set (p := ⟨b12, 0, none⟩) RD9.out (fun b hb => hb) (.int .u16 z)).set (p := ⟨b12, 1, none⟩) (fun b hb => hb) (.slice A9 (Pl.listT F2).length c9)).imp (S' := fun _ => True) fun _ _ => trivial)
    have Ra := Lib.hid (((ReadsM.set (p := ⟨b12, 0, none⟩) R9.out (fun b hb => hb) (.int .u16 z)).set (p := ⟨b12, 1, none⟩) (fun b hb => hb) (.slice A9 (Pl.listT F2).length c9)).imp (S' := fun _ => True) fun _ _ => trivial)
    have Xa := Lib.hid (((ReadsM.set (p := ⟨b12, 0, none⟩) X9.out (fun b hb => hb) (.int .u16 z)).set (p := ⟨b12, 1, none⟩) (fun b hb => hb) (.slice A9 (Pl.listT F2).length c9)).imp (S' := fun _ => True) fun _ _ => trivial)
    have Ba := Lib.hid (Blk.mem2 B9.out (.int .u16 z) (.slice A9 (Pl.listT F2).length c9))
    have Da := Lib.hid ((D9.out.far (p := ⟨b12, 0, none⟩) n2 (.int .u16 z)).far (p := ⟨b12, 1, none⟩) n2 (.slice A9 (Pl.listT F2).length c9))
    have Ta := Lib.hid ((Blk.far T9.out (p := ⟨b12, 0, none⟩) hgb (.int .u16 z)).far (p := ⟨b12, 1, none⟩) hgb (.slice A9 (Pl.listT F2).length c9) : IsT _ g' z F2)
    have Ga := Lib.hid ((Blk.far G9.out (p := ⟨b12, 0, none⟩) n1 (.int .u16 z)).far (p := ⟨b12, 1, none⟩) n1 (.slice A9 (Pl.listT F2).length c9) : IsT _ g z F1)
    have Ka := Lib.hid ((K9.out.setCell (p := ⟨b12, 0, none⟩) (show w.heap.size ≤ b12 by omega) (.int .u16 z)).setCell (p := ⟨b12, 1, none⟩) (show w.heap.size ≤ b12 by omega) (.slice A9 (Pl.listT F2).length c9))
    clear RA9 RB9 RC9 RD9 R9 X9 B9 D9 T9 G9 K9 q0 q1 q2
    generalize ((w9.setCell ⟨b12, 0, none⟩ (.int .u16 z)).setCell ⟨b12, 1, none⟩ (.slice A9 (Pl.listT F2).length c9)) = wa at *
    -- none
    go_wp2_with fail
    refine (hear_nil mzero _).mono ?_
    rintro e wb ⟨rfl, hbb1⟩
    have KB := Lib.hid (below_then (Below.refl wa.heap.size wa) (Nat.le_refl _) hbb1)
    have lb := hbb1.size
    clear hbb1
    simp only [heardVal, mcells, mzero]
    go_wp2_with fail
    refine (get_nil 1 _).mono ?_
    rintro e wd ⟨rfl, hbd⟩
    have KD := Lib.hid (below_then (KB.out.alloc lb (.cells #[.int .u16 0, .int .u8 0, .int .i64 0] 25)) (by simp; omega) hbd)
    have C0 := Lib.hid ((Blk.new wb 25 #[.int .u16 0, .int .u8 0, .int .i64 0]).below hbd (by simp))
    have ld : wa.heap.size ≤ wd.heap.size := Nat.le_trans (by simp; omega) hbd.size
    clear hbd KB
    simp only [getVal, mcells, mzero]
    go_wp2_with fail
    have rl : ReadsM (wd.alloc (.cells #[.int .u16 0, .int .u8 0, .int .i64 0] 25)) (fun b => b < w.heap.size) A l := (HL.out.below (by omega) Ka.out).below (by omega) (KD.out.alloc ld _)
    refine (merge_nil A c l _ (by omega) (rl.imp fun _ _ => trivial)).mono ?_
    rintro e we ⟨rfl, hbe⟩
    have KE := Lib.hid (below_then (KD.out.alloc ld (.cells #[.int .u16 0, .int .u8 0, .int .i64 0] 25)) (Nat.le_trans ld (by simp)) hbe)
    have le := KE.out.size
    clear hbe rl KD C0
    go_wp2_with fail
    refine (self_nil _).mono ?_
    rintro e wf ⟨rfl, hbf⟩
    have KF := Lib.hid (below_then KE.out le hbf)
    have lf := KF.out.size
    clear hbf KE
    simp only [mcells, mzero]
    go_wp2_with fail
    refine (list_nil _).mono ?_
    rintro e wg ⟨vg, rfl, hog, hbg⟩
    obtain ⟨Ag, cg, rfl⟩ := own_slice hog
    have KG := Lib.hid (below_then KF.out lf hbg)
    have lg := KG.out.size
    clear hbg hog KF
    simp only [List.length_nil]
    go_wp2_with fail
    refine (there_nil _).mono ?_
    rintro e wh ⟨vh, rfl, hoh, hbh⟩
    obtain ⟨Ah, ch, rfl⟩ := own_slice hoh
    have KH := Lib.hid (below_then KG.out lg hbh)
    have lh := KH.out.size
    clear hbh hoh KG
    simp only [List.length_nil]
    go_wp2_with fail
    refine (position_nil _).mono ?_
    rintro e wi ⟨rfl, hbi⟩
    have KI := Lib.hid (below_then KH.out lh hbi)
    have li := KI.out.size
    clear hbi KH
    go_wp2_with fail
    refine (fork_nil _).mono ?_
    rintro e wj ⟨rfl, hbj⟩
    have KJ := Lib.hid (below_then KI.out li hbj)
    have lj := KJ.out.size
    clear hbj KI
    -- the answers
    have RAj := Lib.hid (RAa.out.below (by omega) KJ.out : ReadsM wj (fun _ => True) A4 T1)
    have RBj := Lib.hid (RBa.out.below (by omega) KJ.out : ReadsM wj (fun _ => True) A6 T1)
    go_wp2_with fail
    refine (same_any A4 A6 c4 c6 _ _ _ RAj.out RBj.out (by omega) (by omega)).mono ?_
    rw [decide_eq_true (rfl : T1 = T1)]
    rintro e wk ⟨rfl, hbk⟩
    have KK := Lib.hid (below_then KJ.out lj hbk)
    have lk := KK.out.size
    clear hbk KJ RAj RBj
    have RCj := Lib.hid (RCa.out.below (by omega) KK.out : ReadsM wk (fun _ => True) A8 T2)
    have RDj := Lib.hid (RDa.out.below (by omega) KK.out : ReadsM wk (fun _ => True) A10 T2)
    go_wp2_with fail
    refine (same_any A8 A10 c8 c10 _ _ _ RCj.out RDj.out (by omega) (by omega)).mono ?_
    rw [decide_eq_true (rfl : T2 = T2)]
    rintro e wl ⟨rfl, hbl⟩
    have KL := Lib.hid (below_then KK.out lk hbl)
    have ll := KL.out.size
    clear hbl KK RCj RDj
    have hDl := Da.out.below KL.out Da.out.lt
    have p0 := hDl.cell 0
    have p1 := hDl.cell 1
    simp only [List.getElem?_toArray, List.getElem?_cons_zero, List.getElem?_cons_succ] at p0 p1
    clear hDl
    go_wp2_with fail
    refine (same15_any g z F1 A5 c5 1 _ (Blk.below Ga.out KL.out (Blk.lt Ga.out)) HF1.out (Ra.out.below (by omega) KL.out) (by omega)).mono ?_
    rintro e wm ⟨rfl, hbm⟩
    have KM := Lib.hid (below_then KL.out ll hbm)
    have lm := KM.out.size
    clear hbm KL p0 p1
    have hBm := Ba.out.below KM.out Ba.out.lt
    have p0 := hBm.cell 0
    have p1 := hBm.cell 1
    simp only [List.getElem?_toArray, List.getElem?_cons_zero, List.getElem?_cons_succ] at p0 p1
    clear hBm
    go_wp2_with fail
    refine (same15_any g' z F2 A9 c9 1 _ (Blk.below Ta.out KM.out (Blk.lt Ta.out)) HF2.out (Xa.out.below (by omega) KM.out) (by omega)).mono ?_
    rintro e wn ⟨rfl, hbn⟩
    have KN := Lib.hid (below_then KM.out lm hbn)
    have ln := KN.out.size
    clear hbn KM p0 p1
    go_wp2_with fail
    refine (awake_any _).mono ?_
    rintro e wo ⟨rfl, hbo⟩
    have KO := Lib.hid (below_then KN.out ln hbo)
    clear hbo KN
    go_wp2
    go_ret
    exact ⟨rfl, below_then Ka.out Ka.out.size KO.out⟩

set_option maxRecDepth 100000 in
set_option maxHeartbeats 1000000 in
theorem merges_long1 (s : Int) (A B : Option Addr) (c d n k : Nat) (w : World) (h : 200 < n) :
    Calls Try.prog 8 #[.int .u16 s, .slice A n c, .slice B k d] w fun e w' => e = .returned (.bool true) ∧ Below w.heap.size w w' := by
  have g1 : (200 : Int) < n := by omega
  go_enter Try.func8, Try.ntmps8
  go_wp2_with fail
  refine (awake_any _).mono ?_
  rintro e w1 ⟨rfl, hb⟩
  have HB := Lib.hid hb
  clear hb
  go_wp2
  go_ret
  exact ⟨rfl, HB.out⟩

set_option maxRecDepth 100000 in
set_option maxHeartbeats 1000000 in
theorem merges_long2 (s : Int) (A B : Option Addr) (c d n k : Nat) (w : World) (h : n ≤ 200) (h' : 200 < k) :
    Calls Try.prog 8 #[.int .u16 s, .slice A n c, .slice B k d] w fun e w' => e = .returned (.bool true) ∧ Below w.heap.size w w' := by
  have g1 : ¬ (200 : Int) < n := by omega
  have g2 : (200 : Int) < k := by omega
  go_enter Try.func8, Try.ntmps8
  go_wp2_with fail
  refine (awake_any _).mono ?_
  rintro e w1 ⟨rfl, hb⟩
  have HB := Lib.hid hb
  clear hb
  go_wp2
  go_ret
  exact ⟨rfl, HB.out⟩

theorem merges_all (s : Int) (A : Option Addr) (c : Nat) (l : List Pl.M) (B : Option Addr) (d : Nat) (more : List Pl.M) (w : World) (hs : 0 ≤ s ∧ s ≤ 65535) (hl : ReadsM w (fun b => b < w.heap.size) A l) (hml : ∀ m ∈ l, Pl.MOk m)
    (hm : ReadsM w (fun b => b < w.heap.size) B more) (hmm : ∀ m ∈ more, Pl.MOk m) :
    Calls Try.prog 8 #[.int .u16 s, .slice A l.length c, .slice B more.length d] w fun e w' => e = .returned (.bool true) ∧ Below w.heap.size w w' := by
  by_cases h1 : l.length ≤ 200
  · by_cases h2 : more.length ≤ 200
    · exact merges_walk s A c l B d more w hs hl hml hm hmm h1 h2
    · exact merges_long2 s A B c d _ _ w h1 (by omega)
  · exact merges_long1 s A B c d _ _ w (by omega)

set_option maxRecDepth 100000 in
theorem memberMerges_lifted (os : Os) (started : os.Started) (H : Type) (enc : TypeId × Value → H) :
    ReturnsInHanded {} Try.checked os 8 .any (Rows.memberMergesSpec.pre6 enc Try.prog Try.f8 Rows.memberMergesRow.domain false) (Rows.memberMergesSpec.post enc Try.prog Try.f8 false true false false) := by
  refine returnsInHanded_of_change (C := Try.checked) tOwn started (by kernel_rfl) Try.func8
    (ChangeSpec.witness6 (enc := enc) (C := Try.checked) false ⟨#[], #[.int .u16 0, .slice none 0 0, .slice none 0 0], []⟩ 8 (by kernel_rfl) (by kernel_rfl) (by kernel_rfl) (by kernel_rfl)) ?_
  intro W base args ds gs before hval0 hW hcnd _
  have hval : ∀ (j : Nat) t v, Try.f8.params[j]? = some t → args[j]? = some v → Value.okWide Try.prog W .any base t v := hval0
  have hW' := hW
  obtain ⟨p, q, hA0, hV, rfl, hfz, hnd⟩ := hW
  have hA : DataW.TrodAll enc Try.prog W 0 (fun _ => true) true Try.f8.params.toList args.toList ds p := hA0
  rw [Try.params8] at hA hval
  obtain ⟨v0, vs0, d0, ds0, p0, q0, hargs, rfl, rfl, h0, r0⟩ := trodAll_cons hA
  obtain ⟨v1, vs1, d1, ds1, p1, q1, rfl, rfl, rfl, h1, r1⟩ := trodAll_cons r0
  obtain ⟨v2, vs2, d2, ds2, p2, q2, rfl, rfl, rfl, h2, r2⟩ := trodAll_cons r1
  obtain ⟨rfl, rfl, rfl⟩ := trodAll_nil r2
  obtain rfl : args = #[v0, v1, v2] := by cases args; simp_all
  obtain ⟨s, rfl, rfl, rfl, ws⟩ := open_int Try.underlying22 (hval 0 22 v0 rfl rfl) h0
  obtain ⟨Al, cl, l, rfl, rl, ml⟩ := open_members (hval 1 36 v1 rfl rfl) h1
  obtain ⟨Am, cm, m, rfl, rm, mm⟩ := open_members (hval 2 36 v2 rfl rfl) h2
  refine (merges_all s Al cl l Am cm m W (bounds_u16 ws) rl ml rm mm).mono fun e W' ⟨he, hb⟩ => ?_
  subst he
  exact ⟨_, rfl, law_post tLaid (by decide +kernel) hW' rfl (by kernel_rfl) Try.underlying4 rfl hb⟩

/-- The statement. -/
theorem memberMerges_holds : Rows.MemberMergesSaid :=
  OpenClaim.holds_of_wide 8 Try.f8 rfl rfl rfl rfl rfl rfl rfl ⟨rfl, rfl, rfl, rfl, rfl⟩ rfl rfl rfl rfl rfl (by kernel_rfl) Try.func8 (by kernel_rfl)
    (of_decide_eq_true (by kernel_rfl)) (by unfold Func.isWrapper; rw [if_neg (of_decide_eq_false (by kernel_rfl))]; exact ⟨rfl, rfl⟩)
    (fun os started H enc _ => memberMerges_lifted os started H enc)
#print axioms memberMerges_holds

end Go.Proofs.Ytnlpgjdgiappcaa
