/- WALK: the document's table: Merge. -/
import Derived.Test.YtnlpgjdgiappcaaMbDoc6
namespace Go.Proofs.Ytnlpgjdgiappcaa
set_option linter.unusedVariables false
set_option linter.unusedSimpArgs false
open Go.RowKit

theorem Blk.new_at {w : World} {g : Nat} {t : TypeId} {cs : Array Value} (h : g = w.heap.size) : Blk (w.alloc (.cells cs t)) g t cs := by subst h; exact Blk.new w t cs
theorem ReadsM.set {w : World} {S : Nat → Prop} {A : Option Addr} {l : List Pl.M} (h : ReadsM w S A l) {p : Addr} (hp : ∀ b, S b → b ≠ p.block) (u : Value) : ReadsM (w.setCell p u) S A l :=
  Reads.keep h fun b hb => Below.heap_setCell w p u b (hp b hb)
theorem ReadsM.alloc {w : World} {S : Nat → Prop} {A : Option Addr} {l : List Pl.M} (h : ReadsM w S A l) (o : Obj) : ReadsM (w.alloc o) S A l :=
  Reads.below h (by omega) ((Below.refl _ w).alloc (Nat.le_refl _) o)
theorem getD_hear (o : Option Pl.M) (v : Value) : rheardVal v o = .tuple #[v, .agg (mcells (o.getD mzero)), .bool o.isSome] := by cases o <;> rfl

theorem sb_alloc {B : Nat} {w X : World} (h : SB B w X) (hB : B ≤ w.heap.size) (o : Obj) : SB B w (X.alloc o) := keepB (h.2.2.alloc (Nat.le_trans hB h.2.2.size) o)
theorem sb_set {B : Nat} {w X : World} (h : SB B w X) {p : Addr} (hp : B ≤ p.block) (v : Value) : SB B w (X.setCell p v) := keepB (h.2.2.setCell hp v)

theorem drew_size (w : World) : w.drew.heap.size = w.heap.size := rfl
theorem sb_drew {B : Nat} {w X : World} (h : SB B w X) : SB B w X.drew := keepB h.2.2.drew
theorem sb_then {B : Nat} {w X w1 : World} (h : SB B w X) (hb : Below X.heap.size X w1) (hB : B ≤ w.heap.size := by exact Nat.le_refl _) : SB B w w1 := keepB (below_then h.2.2 (Nat.le_trans hB h.2.2.size) hb)
theorem kept1 {w w1 : World} {cs : Array Value} {t : TypeId} (hb : Below (w.alloc (.cells cs t)).drew.heap.size (w.alloc (.cells cs t)).drew w1) : Blk w1 w.heap.size t cs ∧ w.heap.size < w1.heap.size ∧ w.heap.size ≠ w1.heap.size := by
  have h : w.heap.size < (w.alloc (.cells cs t)).drew.heap.size := by simp
  have h2 := hb.size
  exact ⟨((Blk.new w t cs).drew).below hb h, by omega, by omega⟩
theorem kept2 {w w1 : World} {cs cs' : Array Value} {t t' : TypeId} (hb : Below ((w.alloc (.cells cs t)).alloc (.cells cs' t')).drew.heap.size ((w.alloc (.cells cs t)).alloc (.cells cs' t')).drew w1) :
    Blk w1 w.heap.size t cs ∧ Blk w1 (w.heap.size + 1) t' cs' ∧ w.heap.size < w1.heap.size ∧ w.heap.size ≠ w1.heap.size ∧ w.heap.size + 1 < w1.heap.size ∧ w.heap.size + 1 ≠ w1.heap.size := by
  have h : w.heap.size + 1 < ((w.alloc (.cells cs t)).alloc (.cells cs' t')).drew.heap.size := by simp
  have h2 := hb.size
  exact ⟨((Blk.new w t cs).alloc _).drew.below hb (by omega), (Blk.new_at (by simp)).drew.below hb h, by omega, by omega, by omega, by omega⟩

set_option maxRecDepth 100000 in
set_option maxHeartbeats 4000000 in
theorem refMerge_any (z : Int) (F : Pl.Tab) (A : Option Addr) (c : Nat) (AL : Option Addr) (cl : Nat) (l : List Pl.M) (w : World) (hF : Pl.TOk z F) (hm : ∀ m ∈ l, Pl.MOk m) (hlen : l.length ≤ 65536) (S : Nat → Prop) (hS : ∀ b, w.heap.size ≤ b → S b)
    (hR : ReadsM w S A (Pl.listT F)) (hL : ReadsM w (fun _ => True) AL l) :
    Calls Try.prog 31 #[.agg #[.int .u16 z, .slice A (Pl.listT F).length c], .slice AL l.length cl] w fun e w' => ∃ A' c' v, e = .returned (.tuple #[.agg #[.int .u16 z, .slice A' (Pl.listT (Pl.merge z F l)).length c'], v]) ∧
      ReadsM w' S A' (Pl.listT (Pl.merge z F l)) ∧ w'.ownsRow w.heap.size 25 3 v (Pl.told z F l).length (rows (Pl.told z F l)) ∧ Below w.heap.size w w' := by
  have hb : Below w.heap.size w ((w.alloc (.cells #[.int .u16 z, .slice A (Pl.listT F).length c] 46)).alloc (.cells #[.int .u16 0, .slice none 0 0] 46)) := ((Below.refl _ _).alloc (Nat.le_refl _) _).alloc (by simp) _
  have hB0 : Blk ((w.alloc (.cells #[.int .u16 z, .slice A (Pl.listT F).length c] 46)).alloc (.cells #[.int .u16 0, .slice none 0 0] 46)) w.heap.size 46 #[.int .u16 z, .slice A (Pl.listT F).length c] := (Blk.new w 46 _).alloc _
  have hB1 : Blk ((w.alloc (.cells #[.int .u16 z, .slice A (Pl.listT F).length c] 46)).alloc (.cells #[.int .u16 0, .slice none 0 0] 46)) (w.heap.size + 1) 46 #[.int .u16 0, .slice none 0 0] := Blk.new_at (by simp)
  have hR0 : ReadsM ((w.alloc (.cells #[.int .u16 z, .slice A (Pl.listT F).length c] 46)).alloc (.cells #[.int .u16 0, .slice none 0 0] 46)) (fun b => b ≠ w.heap.size ∧ b ≠ w.heap.size + 1 ∧ S b) A (Pl.listT F) :=
    (((Reads.there hR (by omega)).imp (S' := fun b => b ≠ w.heap.size ∧ b ≠ w.heap.size + 1 ∧ S b) (fun b h => ⟨by omega, by omega, h.1⟩)).below (by omega) hb)
  go_enter Try.func31, Try.ntmps31
  go_wp2_with fail
  have HL := Lib.hid hL
  have HF := Lib.hid hF
  have HM := Lib.hid hm
  have B00 := Lib.hid hB0
  have B01 := Lib.hid hB1
  have R00 := Lib.hid hR0
  have H0 := Lib.hid hb
  have h0 : w.heap.size + 2 ≤ ((w.alloc (.cells #[.int .u16 z, .slice A (Pl.listT F).length c] 46)).alloc (.cells #[.int .u16 0, .slice none 0 0] 46)).heap.size := by simp
  clear hL hF hm hB0 hB1 hR0 hR hb
  go_loopw [6, 7] (fun v i wr => ∃ (k : Nat) (A1 : Option Addr) (c1 : Nat), k ≤ l.length ∧ i = .int .i64 k ∧ wr.ownsRow (w.heap.size + 2) 25 3 v (Pl.told z F (l.take k)).length (rows (Pl.told z F (l.take k))) ∧ Below w.heap.size w wr ∧ w.heap.size + 2 ≤ wr.heap.size ∧
    Blk wr w.heap.size 46 #[.int .u16 z, .slice A1 (Pl.listT (Pl.merge z F (l.take k))).length c1] ∧ Blk wr (w.heap.size + 1) 46 #[.int .u16 0, .slice none 0 0] ∧
    ReadsM wr (fun b => b ≠ w.heap.size ∧ b ≠ w.heap.size + 1 ∧ v.ownBlock ≠ some b ∧ S b) A1 (Pl.listT (Pl.merge z F (l.take k)))) (fun _ i _ => l.length - (intOf i).toNat)
  case atStart => exact ⟨0, A, c, Nat.zero_le _, rfl, by simpa [Pl.told, rows] using own_nil _ (w.heap.size + 2) 25 3, H0.out, h0, by simpa [Pl.merge] using B00.out, B01.out, by simpa [Pl.merge, Value.ownBlock] using R00.out⟩
  case round =>
    obtain ⟨k, A1, c1, hk, rfl, hown, hbw, h2, hB0, hB1, hR1⟩ := hrel
    by_cases hlt : k < l.length
    · obtain ⟨m, hmk⟩ : ∃ m, l[k]? = some m := ⟨l[k], List.getElem?_eq_getElem hlt⟩
      have hL' : ReadsM wr (fun _ => True) AL l := HL.out.below (by omega) hbw
      obtain ⟨b, o, rfl, -, r0, r1, r2⟩ := hL'.at_ k m hmk
      have hmo := HM.out m (List.mem_of_getElem? hmk)
      have hFk := Pl.merge_ok (l.take k) HF.out (fun m h => HM.out m (List.mem_of_mem_take h))
      have e1 : Pl.told z F (l.take (k + 1)) = Pl.told z F (l.take k) ++ (Pl.hear z (Pl.merge z F (l.take k)) m).toList := by rw [take_one l k m hmk, Pl.told_append]; simp [Pl.told]
      have e2 : Pl.merge z F (l.take (k + 1)) = Pl.heard z (Pl.merge z F (l.take k)) m := by rw [take_one l k m hmk, Pl.merge_append]; rfl
      have hlen2 := told_length z F (l.take k)
      have hlen3 : (l.take k).length ≤ k := List.length_take_le _ _
      have E1 := Lib.hid e1
      have E2 := Lib.hid e2
      clear e1 e2
      generalize Pl.merge z F (l.take k) = Fk at *
      generalize hx : Pl.hear z Fk m = x at *
      generalize hF1 : Pl.heard z Fk m = F1 at *
      obtain ⟨y, hy⟩ : ∃ y, x.getD mzero = y := ⟨_, rfl⟩
      have HY := Lib.hid hy
      obtain ⟨y0, y1, y2⟩ := y
      have hbl : b < wr.heap.size := World.block_lt_of_cell? wr _ r0
      have hgl := hB0.lt
      have q0 := hB0.cell 0
      have q1 := hB0.cell 1
      simp only [List.getElem?_toArray, List.getElem?_cons_zero, List.getElem?_cons_succ] at q0 q1
      have hHC : ∀ X, SB wr.heap.size wr X → Calls Try.prog 28 #[.agg #[.int .u16 z, .slice A1 (Pl.listT Fk).length c1], .agg #[.int .u16 m.n, .int .u8 m.s, .int .i64 m.i]] X fun e w' => ∃ A' c', e = .returned (.tuple #[.agg #[.int .u16 z, .slice A' (Pl.listT F1).length c'], .agg #[.int .u16 y0, .int .u8 y1, .int .i64 y2], .bool x.isSome]) ∧
          ReadsM w' (fun b => ((b ≠ w.heap.size ∧ b ≠ w.heap.size + 1 ∧ u6.ownBlock ≠ some b ∧ S b) ∧ b < wr.heap.size) ∨ X.heap.size ≤ b) A' (Pl.listT F1) ∧ Below X.heap.size X w' := fun X hX => by
        have h := refHear_any z Fk A1 c1 m X (fun b => ((b ≠ w.heap.size ∧ b ≠ w.heap.size + 1 ∧ u6.ownBlock ≠ some b ∧ S b) ∧ b < wr.heap.size) ∨ X.heap.size ≤ b) hFk hmo
          (((Reads.there hR1 (by omega)).below (by omega) hX.2.2).imp fun b hb => .inl hb) (fun b hb => .inr hb)
        rw [hx, hF1] at h
        simp only [getD_hear, hy, mcells] at h
        exact h
      have HC := Lib.hid hHC
      have HSW := Lib.hid (keepB (Below.refl wr.heap.size wr))
      have OW := Lib.hid hown
      have BW := Lib.hid hbw
      have BB0 := Lib.hid hB0
      have BB1 := Lib.hid hB1
      have hlow : ∀ k, u6.ownBlock = some k → w.heap.size + 2 ≤ k ∧ k < wr.heap.size := fun k h => ⟨own_base hown k h, own_lt hown k h⟩
      have HLOW := Lib.hid hlow
      have HMK := Lib.hid hmk
      clear hy hHC hown hbw hB0 hB1 hR1 hlow hL' hmo hFk hx hF1 hmk
      have hge : (0 : Int) ≤ (k : Int) := by omega
      have hltI : (k : Int) < (l.length : Int) := by omega
      go_upto_region 5 with fail
      go_cut [8, 9, 10] from 11 to 32 (fun s8 s9 s10 wx => ∃ (b8 b9 : Nat) (A' : Option Addr) (c' : Nat), s8 = .pointer (some ⟨b8, 0, none⟩) ∧ s9 = .pointer (some ⟨b9, 0, none⟩) ∧ s10 = .bool x.isSome ∧ wr.heap.size ≤ b8 ∧ wr.heap.size ≤ b9 ∧ b8 ≠ b9 ∧
        Go.RowKit.Hid (Blk wx b8 46 #[.int .u16 z, .slice A' (Pl.listT F1).length c']) ∧ Go.RowKit.Hid (Blk wx b9 25 #[.int .u16 y0, .int .u8 y1, .int .i64 y2]) ∧ Go.RowKit.Hid (Below wr.heap.size wr wx) ∧
        Go.RowKit.Hid (ReadsM wx (fun b => b ≠ w.heap.size ∧ b ≠ w.heap.size + 1 ∧ u6.ownBlock ≠ some b ∧ b ≠ b8 ∧ b ≠ b9 ∧ S b) A' (Pl.listT F1)))
      case first =>
        go_region_held3 (fun X => SB wr.heap.size wr X) (((repeat (with_reducible first | assumption | exact HSW.out | refine sb_drew ?_ | refine sb_alloc ?_ (Nat.le_refl _) _ | refine sb_set ?_ ?_ _)); all_goals first | done | (simp; done) | (simp; omega)))
          (first
            | (go_at_call 28; refine (HC.out _ (by assumption)).mono ?_; rintro e w1 ⟨A', c', rfl, hr1, hb1⟩; have S1 : SB wr.heap.size wr w1 := sb_then (by assumption) hb1; have R1 := Lib.hid hr1; have L1 := hb1.size; have B1 := Lib.hid hb1
               first
                 | (obtain ⟨K0, K1, k0, k1, k2, k3⟩ := kept2 hb1; have a0 := K0.cell 0; have a1 := K0.cell 1; have a2 := K0.cell 2; have b0 := K1.cell 0; have b1 := K1.cell 1; have b2 := K1.cell 2; have f0 := K0.frozen; have f1 := K1.frozen; have BK0 := Lib.hid K0; have BK1 := Lib.hid K1; clear K0 K1; simp only [List.getElem?_toArray, List.getElem?_cons_zero, List.getElem?_cons_succ] at a0 a1 a2 b0 b1 b2)
                 | (obtain ⟨K0, k0, k1⟩ := kept1 hb1; have a0 := K0.cell 0; have a1 := K0.cell 1; have a2 := K0.cell 2; have f0 := K0.frozen; have BK0 := Lib.hid K0; clear K0; simp only [List.getElem?_toArray, List.getElem?_cons_zero, List.getElem?_cons_succ] at a0 a1 a2)
                 | skip
               clear hr1 hb1))
        all_goals
          go_wp2
          go_meet
          case rel =>
            try simp only [drew_size] at L1
            try simp at L1
            refine ⟨_, _, A', c', rfl, rfl, rfl, ?_, ?_, ?_, Lib.hid ?_, Lib.hid ?_, Lib.hid (by assumption : SB wr.heap.size wr _).2.2, Lib.hid ?_⟩
            · omega
            · omega
            · omega
            · repeat (with_reducible first | exact BK0.out | exact BK1.out | apply Blk.mem2 | refine Blk.new_at ?_ | refine Blk.alloc ?_ _ | refine Blk.far ?_ ?_ _)
              all_goals first | done | (simp; done) | (simp; omega)
            · repeat (with_reducible first | exact BK0.out | exact BK1.out | apply Blk.mem3 | refine Blk.new_at ?_ | refine Blk.alloc ?_ _ | refine Blk.far ?_ ?_ _)
              all_goals first | done | (simp; done) | (simp; omega)
            · repeat (with_reducible first | refine ReadsM.set ?_ ?_ _ | refine ReadsM.alloc ?_ _)
              all_goals first | exact (fun b hb => hb.2.2.2.1) | exact (fun b hb => hb.2.2.2.2.1) | skip
              refine (Reads.there R1.out (by omega)).imp fun b hb => ?_
              obtain ⟨h | h, h'⟩ := hb
              · exact ⟨h.1.1, h.1.2.1, h.1.2.2.1, by omega, by omega, h.1.2.2.2⟩
              · try simp only [drew_size] at h
                try simp at h
                exact ⟨by omega, by omega, fun e => by have := HLOW.out b e; omega, by omega, by omega, hS b (by omega)⟩
      case rest =>
        obtain ⟨b8, b9, A', c', rfl, rfl, rfl, h8, h9, h89, D8, D9, K, RR⟩ := hcut
        have C0 := Lib.hid (BB0.out.below K.out hgl)
        have C1 := Lib.hid (BB1.out.below K.out (show w.heap.size + 1 < wr.heap.size by omega))
        have O1 := Lib.hid (own_below OW.out K.out)
        have KW := Lib.hid (below_then BW.out BW.out.size K.out)
        have s0 := D8.out.cell 0
        have s1 := D8.out.cell 1
        have d0 := D9.out.cell 0
        have d1 := D9.out.cell 1
        have d2 := D9.out.cell 2
        have t0 := C0.out.cell 0
        have t1 := C0.out.cell 1
        have t2 := C0.out.frozen
        simp only [List.getElem?_toArray, List.getElem?_cons_zero, List.getElem?_cons_succ] at s0 s1 d0 d1 d2 t0 t1
        have hwc := K.out.size
        have n9 : w.heap.size ≠ b9 := by omega
        have n8 : w.heap.size ≠ b8 := by omega
        have KW2 := Lib.hid ((KW.out.setCell (p := ⟨w.heap.size, 0, none⟩) (Nat.le_refl _) (.int .u16 z)).setCell (p := ⟨w.heap.size, 1, none⟩) (Nat.le_refl _) (.slice A' (Pl.listT F1).length c'))
        have G0 := Lib.hid (Blk.mem2 C0.out (.int .u16 z) (.slice A' (Pl.listT F1).length c'))
        have G1 := Lib.hid ((C1.out.far (p := ⟨w.heap.size, 0, none⟩) (show w.heap.size + 1 ≠ w.heap.size by omega) (.int .u16 z)).far (p := ⟨w.heap.size, 1, none⟩) (show w.heap.size + 1 ≠ w.heap.size by omega) (.slice A' (Pl.listT F1).length c'))
        have O2 := Lib.hid (own_two (g := w.heap.size) (a := .int .u16 z) (b := .slice A' (Pl.listT F1).length c') O1.out (by omega))
        have RR2 := Lib.hid ((ReadsM.set (p := ⟨w.heap.size, 0, none⟩) RR.out (fun b hb => hb.1) (.int .u16 z)).set (p := ⟨w.heap.size, 1, none⟩) (fun b hb => hb.1) (.slice A' (Pl.listT F1).length c'))
        clear KW O1 C0 C1 RR K BB0 BB1 OW BW q0 q1 r0 r1 r2
        cases x with
        | none =>
          simp only [Option.isSome_none]
          go_wp2
          go_roundw
          case rel =>
            refine ⟨k + 1, A', c', by omega, by go_num, ?_, KW2.out, by simp [World.setCell]; omega, ?_, G1.out, ?_⟩
            · rw [E1.out, Option.toList_none, List.append_nil]; exact O2.out
            · rw [E2.out]; exact G0.out
            · rw [E2.out]; exact RR2.out.imp fun b hb => ⟨hb.1, hb.2.1, hb.2.2.1, hb.2.2.2.2.2⟩
          case measure => simp [intOf]; omega
        | some x =>
          have hy := HY.out
          simp only [Option.getD_some] at hy
          subst hy
          simp only [Option.isSome_some]
          go_wp2_with (at_builtin; (refine app_row (w.heap.size + 2) rfl (.tmp 29) (.tmp 31) 36 25 _ 3 16 rfl Try.underlying36 member_info rfl (by omega) _ _ _ _ rfl _ rfl (by simp) (by simp [Value.oneCell']) rfl O2.out (by simp [World.setCell]; omega) (by omega) (by omega) ?_); intro v1 w2 ho2 hg2 hat)
          go_roundw
          case rel =>
            have hrow : ∀ q, u6.ownBlock = some q → w.heap.size ≤ q := fun q hq => by have := HLOW.out q hq; omega
            have hWs : wc.heap.size = ((wc.setCell ⟨w.heap.size, 0, none⟩ (.int .u16 z)).setCell ⟨w.heap.size, 1, none⟩ (.slice A' (Pl.listT F1).length c')).heap.size := by simp [World.setCell]
            have hw2 := hg2.size
            refine ⟨k + 1, A', c', by omega, by go_num, ?_, KW2.out.trans (below_of_grown (by omega) hg2 hrow), by omega, ?_, G1.out.grown hg2 (fun e => by have := HLOW.out _ e.symm; omega), ?_⟩
            · rw [E1.out, Option.toList_some, List.length_append, rows_append]; exact ho2
            · rw [E2.out]; exact G0.out.grown hg2 (fun e => by have := HLOW.out _ e.symm; omega)
            · rw [E2.out]
              refine (((Reads.there RR2.out (by omega)).grown (by omega) hg2 (fun b hb e => hb.1.2.2.1 e.symm)).imp fun b hb => ⟨hb.1.1, hb.1.2.1, fun e => ?_, hb.1.2.2.2.2.2⟩)
              rcases hat with hat | ⟨b', hb', hge'⟩
              · exact hb.1.2.2.1 (hat ▸ e)
              · rw [hb'] at e
                injection e with e
                have := hb.2
                omega
          case measure => simp [intOf]; omega
    · obtain rfl : k = l.length := by omega
      rw [List.take_length] at hown hB0 hR1
      have q0 := hB0.cell 0
      have q1 := hB0.cell 1
      have p0 := hB1.cell 0
      have p1 := hB1.cell 1
      simp only [List.getElem?_toArray, List.getElem?_cons_zero, List.getElem?_cons_succ] at q0 q1 p0 p1
      have f1 := hB1.frozen
      have OW := Lib.hid hown
      have BW := Lib.hid hbw
      have BB0 := Lib.hid hB0
      have BB1 := Lib.hid hB1
      have RR := Lib.hid hR1
      clear hown hbw hB0 hB1 hR1
      go_wp2
      have G1 := Blk.mem2 BB1.out (.int .u16 z) (.slice A1 (Pl.listT (Pl.merge z F l)).length c1)
      have s0 := G1.cell 0
      have s1 := G1.cell 1
      simp only [List.getElem?_toArray, List.getElem?_cons_zero, List.getElem?_cons_succ] at s0 s1
      refine bodyPost_ret (v := .tuple #[.agg #[.int .u16 z, .slice A1 (Pl.listT (Pl.merge z F l)).length c1], u6]) (by simp [results, Try.results31, go_sem, s0, s1]) rfl ⟨A1, c1, u6, rfl, ?_, ?_, ?_⟩
      · exact ((ReadsM.set (p := ⟨w.heap.size + 1, 0, none⟩) RR.out (fun b hb => hb.2.1) (.int .u16 z)).set (p := ⟨w.heap.size + 1, 1, none⟩) (fun b hb => hb.2.1) (.slice A1 (Pl.listT (Pl.merge z F l)).length c1)).imp fun b hb => hb.2.2.2
      · exact own_lower (own_two (g := w.heap.size + 1) (a := .int .u16 z) (b := .slice A1 (Pl.listT (Pl.merge z F l)).length c1) OW.out (by omega)) (by omega)
      · exact (BW.out.setCell (p := ⟨w.heap.size + 1, 0, none⟩) (by simp) (.int .u16 z)).setCell (p := ⟨w.heap.size + 1, 1, none⟩) (by simp) (.slice A1 (Pl.listT (Pl.merge z F l)).length c1)

end Go.Proofs.Ytnlpgjdgiappcaa
