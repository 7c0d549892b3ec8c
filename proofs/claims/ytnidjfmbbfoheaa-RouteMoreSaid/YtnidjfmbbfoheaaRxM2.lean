/- WALKS: Match. -/
import Derived.Test.YtnidjfmbbfoheaaRxM1
import Derived.Deep.OwnRows
import Derived.Deep.LoopGhost
namespace Go.Proofs.Ytnidjfmbbfoheaa
set_option linter.unusedVariables false
set_option linter.unusedSimpArgs false
open Go.RowKit

theorem bool_info : (Try.prog.info? 4).map (fun i => (i.zero, i.size, i.bytes)) = some (some (.bool false), 1, 1) := by kernel_rfl
theorem und108 : Try.prog.underlying 108 = some (.slice 4) := by kernel_rfl
def offs (n : Nat) : Obj := .cells ((List.replicate n false).map Value.bool).toArray 4
theorem make_row (n : Nat) (hn : n ≤ 1000000) (w : World) : (Instr.makeSlice 108 (.int .i64 (n : Int)) (.int .i64 (n : Int))).run Try.prog w = .ok (.slice (some ⟨w.heap.size, 0, none⟩) n n) (w.alloc (offs n)) := by
  have h := run_make_row' (P := Try.prog) 108 4 (.bool false) 1 und108 bool_info rfl .i64 .i64 n (by omega) (by omega) w
  have e : madeCells #[.bool false] n = ((List.replicate n false).map Value.bool).toArray := by
    apply Array.ext'
    rw [toList_madeCells_one]
    simp
  rw [e] at h
  exact h
theorem Bw.made (w : World) (n : Nat) : Bw (w.alloc (offs n)) w.heap.size (List.replicate n false) := Blk.new _ _ _
theorem match_nil (t : ByteArray) (w : World) : Calls Try.prog 28 #[.pointer none, .string t] w fun e w' => e = .returned (.bool false) ∧ w' = w := by
  go_enter Try.func28, Try.ntmps28
  go_wp2
  go_ret
  exact ⟨rfl, rfl⟩

theorem IsRx.data {w : World} {B g : Nat} {c : Rx.Cm} (h : IsRx w B g c) (j : Nat) (q : Rx.St) (hq : c.st[j]? = some q) : ∃ g1 c1 p, w.cell? ⟨g, 0, none⟩ = some (.slice (some ⟨g1, 0, none⟩) c.st.length c1) ∧ w.cell? ⟨g1, j * 3, none⟩ = some (pv p) ∧ w.cell? ⟨g1, j * 3 + 1, none⟩ = some (.int .i64 q.nxt) ∧ w.cell? ⟨g1, j * 3 + 2, none⟩ = some (.int .i64 q.oth) ∧ SetOk w B p q.set := by
  obtain ⟨v, h1, h2, h3⟩ := h
  obtain ⟨g1, c1, p, rfl, _, _, r0, r1, r2, r3⟩ := h2.at_ hq
  refine ⟨g1, c1, p, ?_, r0, r1, r2, r3⟩
  have := h1.cell 0
  simpa using this
theorem stepOne_len (c : Rx.Cm) (X : List Bool) (y : Nat) (F : List Bool) (k : Nat) : (Rx.stepOne c X y F k).length = F.length := by
  unfold Rx.stepOne
  split
  · split
    · split
      · split
        · rw [Rx.reach_len]
        · rfl
      · rfl
    · rfl
  · rfl
theorem fold_len (c : Rx.Cm) (X : List Bool) (y : Nat) (l : List Nat) : ∀ F : List Bool, (l.foldl (Rx.stepOne c X y) F).length = F.length := by
  induction l with
  | nil => intro F; rfl
  | cons a l ih => intro F; rw [List.foldl_cons, ih, stepOne_len]
set_option maxRecDepth 100000 in
set_option maxHeartbeats 4000000 in
theorem match_any (c : Rx.Cm) (V : Rx.Val c) (hl : c.st.length ≤ 1000000) (t : List Nat) (ht : ∀ x ∈ t, x < 256) (htl : t.length ≤ 1000000000) (B g : Nat) (w : World) (H : IsRx w B g c) :
    Calls Try.prog 28 #[.pointer (some ⟨g, 0, none⟩), .string (bs t)] w fun e w' => e = .returned (.bool (Rx.matchC c t)) ∧ Below w.heap.size w w' := by
  obtain ⟨R, hR⟩ : ∃ R, Rx.matchC c t = R := ⟨_, rfl⟩
  rw [hR]
  have HR := Lib.hid hR
  clear hR
  have hreach : Hid (∀ (k : Int) (x : List Bool) (b : Nat) (W : World), IsRx W B g c → Bw W b x → x.length = c.st.length - 1 → -1 ≤ k → k < (c.st.length : Int) - 1 →
    Calls Try.prog 63 #[.pointer (some ⟨g, 0, none⟩), .int .i64 k, .slice (some ⟨b, 0, none⟩) (c.st.length - 1) (c.st.length - 1)] W fun e w' => e = .returned (.tuple #[]) ∧ Bw w' b (Rx.reach c.st c.st.length k x) ∧ W.grownBy w' (some b)) := Lib.hid (fun k x b W h1 h2 h3 h4 h5 => by
      have := reach_any c V B g hl c.st.length k x b W h1 h2 h3 h4 h5 (by have := Rx.cf_le x; have := V.len; omega)
      rwa [h3] at this)
  have HH := Lib.hid H
  have hVl := V.len
  have hVa := V.a
  have HVV := Lib.hid V
  obtain ⟨N, hN⟩ : ∃ N, c.st.length = N + 1 := ⟨c.st.length - 1, by omega⟩
  have e1 : c.st.length - 1 = N := by omega
  rw [hN] at hreach hVl hVa hl
  simp only [Nat.add_sub_cancel] at hreach hVa
  have HN := Lib.hid hN
  have HE1 := Lib.hid e1
  have hmk := make_row N (by omega)
  have htz := bs_size t
  have HTT := Lib.hid ht
  have hidx : Hid (∀ (k b : Nat), t[k]? = some b → ∀ w, (Instr.index 9 (.string (bs t)) (.int .i64 (k : Int))).run Try.prog w = .ok (.int .u8 (b : Int)) w) := Lib.hid (fun k b h w => idx_bs t k b h (ht b (List.mem_of_getElem? h)) w)
  obtain ⟨v, hg1, hrow, hbg⟩ := H
  obtain ⟨A, c1, rfl⟩ := hrow.len
  rw [hN] at hg1
  have y0 := hg1.cell 0
  have y1 := hg1.cell 1
  simp only [List.getElem?_toArray, List.getElem?_cons_zero, List.getElem?_cons_succ] at y0 y1
  have yl := hg1.lt
  have y2 : ∀ o, (w.alloc o).cell? ⟨g, 1, none⟩ = some (.int .i64 (c.a : Int)) := fun o => by rw [World.cell?_alloc_lt _ _ _ yl]; exact y1
  clear V ht hrow hg1 hN e1
  generalize bs t = bt at *
  go_enter Try.func28, Try.ntmps28
  go_wp2_with fail
  refine (hreach.out (c.a : Int) (List.replicate N false) w.heap.size _ (HH.out.below ((Below.refl _ _).alloc (Nat.le_refl _) _)) (Bw.made w N) List.length_replicate (by omega) (by omega)).mono ?_
  rintro e w1 ⟨rfl, hb1, hgr1⟩
  have hnone : Rx.noneIn c = List.replicate N false := by unfold Rx.noneIn; rw [HE1.out]
  have hst : Rx.reach c.st (N + 1) (c.a : Int) (List.replicate N false) = Rx.startIn c := by unfold Rx.startIn; rw [hnone, HN.out]
  rw [hst] at hb1
  have B1 := Lib.hid hb1
  have K1 := Lib.hid (((Below.refl w.heap.size w).alloc (Nat.le_refl _) (offs N)).trans (below_of_grown (B := w.heap.size) (by simp) hgr1 (fun k hk => by injection hk with hk; omega)))
  have HNO := Lib.hid hnone
  clear hb1 hgr1 hst hnone y0 y1 y2 yl
  have htlI : (0 : Int) ≤ (t.length : Int) := by omega
  go_wp2
  go_loopg [6, 31] t.length (fun gg s6 s31 wr => ∃ (i b : Nat), s6 = .slice (some ⟨b, 0, none⟩) N N ∧ s31 = .int .i64 (i : Int) ∧ i ≤ t.length ∧ t.length - i ≤ gg ∧ w.heap.size ≤ b ∧ Hid (Bw wr b ((t.take i).foldl (Rx.stepAll c) (Rx.startIn c))) ∧ Hid (Below w.heap.size w wr))
  case atStart => exact ⟨0, w.heap.size, rfl, by go_num, by omega, by omega, Nat.le_refl _, B1, K1⟩
  case round =>
    obtain ⟨wo, hwo⟩ : ∃ X, X = wr := ⟨_, rfl⟩
    subst hwo
    obtain ⟨i, b, rfl, rfl, hit, hgg, hbw, BN, K2⟩ := hrel
    have I2 := Lib.hid (HH.out.below K2.out)
    by_cases hlt : i < t.length
    · have hiI : (i : Int) < (t.length : Int) := by omega
      have hi0 : (0 : Int) ≤ (i : Int) := by omega
      obtain ⟨y, hy⟩ : ∃ y, t[i]? = some y := ⟨_, List.getElem?_eq_getElem hlt⟩
      have hyb : y < 256 := HTT.out y (List.mem_of_getElem? hy)
      have hidx2 := hidx.out i y hy
      have hXl : ((t.take i).foldl (Rx.stepAll c) (Rx.startIn c)).length = N := by
        have := (Rx.places_good HVV.out (t.take i)).len
        rw [HE1.out] at this
        exact this
      have hnext : (t.take (i + 1)).foldl (Rx.stepAll c) (Rx.startIn c) = Rx.stepAll c ((t.take i).foldl (Rx.stepAll c) (Rx.startIn c)) y := by
        have e : t.take (i + 1) = t.take i ++ [y] := by rw [List.take_add_one, hy]; rfl
        rw [e, List.foldl_append]
        rfl
      generalize hX : (t.take i).foldl (Rx.stepAll c) (Rx.startIn c) = X at *
      have HNX := Lib.hid hnext
      have HXL := Lib.hid hXl
      have hbl := Blk.lt BN.out
      clear hX hnext hXl hy
      have BN1 : Hid (Bw (wo.alloc (offs N)) b X) := Lib.hid (Blk.alloc BN.out (offs N))
      have BM1 : Hid (Bw (wo.alloc (offs N)) wo.heap.size (Rx.noneIn c)) := Lib.hid (by rw [HNO.out]; exact Bw.made wo N)
      have hws : w.heap.size ≤ wo.heap.size := K2.out.size
      have K3 : Hid (Below w.heap.size w (wo.alloc (offs N))) := Lib.hid (K2.out.alloc hws (offs N))
      have hNI : (N : Int) ≤ 1000000 := by omega
      have hyI : (y : Int) < 256 := by omega
      have hy0 : (0 : Int) ≤ (y : Int) := by omega
      go_wp2
      go_loopg [38] N (fun gg s38 W => ∃ j : Nat, s38 = .int .i64 (j : Int) ∧ j ≤ N ∧ N - j ≤ gg ∧ Hid (Bw W b X) ∧ Hid (Bw W wo.heap.size ((List.range j).foldl (Rx.stepOne c X y) (Rx.noneIn c))) ∧ Hid (Below w.heap.size w W))
      case atStart => exact ⟨0, by go_num, by omega, by omega, BN1, BM1, K3⟩
      case round =>
        obtain ⟨W, hWr⟩ : ∃ X, X = wr := ⟨_, rfl⟩
        subst hWr
        obtain ⟨j, rfl, hjN, hgj, BX, BF, KW⟩ := hrel
        by_cases hjl : j < N
        · have hjI : (j : Int) < (N : Int) := by omega
          have hj0 : (0 : Int) ≤ (j : Int) := by omega
          have IW := Lib.hid (HH.out.below KW.out)
          obtain ⟨q, hq⟩ : ∃ q, c.st[j]? = some q := ⟨_, List.getElem?_eq_getElem (by rw [HN.out]; omega)⟩
          obtain ⟨g1, c2, p, u0, u1, u2, u3, u4⟩ := IW.out.data j q hq
          rw [HN.out] at u0
          have hjI2 : (j : Int) < ((N + 1 : Nat) : Int) := by omega
          have hstep : (List.range (j + 1)).foldl (Rx.stepOne c X y) (Rx.noneIn c) = Rx.stepOne c X y ((List.range j).foldl (Rx.stepOne c X y) (Rx.noneIn c)) j := by rw [List.range_succ, List.foldl_append]; rfl
          have hFl : ((List.range j).foldl (Rx.stepOne c X y) (Rx.noneIn c)).length = N := by rw [fold_len, HNO.out, List.length_replicate]
          generalize hF : (List.range j).foldl (Rx.stepOne c X y) (Rx.noneIn c) = F at *
          have HST := Lib.hid hstep
          have HFL := Lib.hid hFl
          have HQ := Lib.hid hq
          have HU := Lib.hid u4
          have hbl2 := Blk.lt BX.out
          have hbl3 := Blk.lt BF.out
          clear hF hstep hFl hq u4
          obtain ⟨u, hu⟩ : ∃ u, X[j]? = some u := ⟨_, List.getElem?_eq_getElem (by rw [HXL.out]; omega)⟩
          have xc := BX.out.cell j u hu
          have HUX := Lib.hid hu
          clear hu
          have AX : ∀ o, Hid (Bw (W.alloc o) b X) := fun o => Lib.hid (Blk.alloc BX.out o)
          have AF : ∀ o, Hid (Bw (W.alloc o) wo.heap.size F) := fun o => Lib.hid (Blk.alloc BF.out o)
          have hwW : w.heap.size ≤ W.heap.size := KW.out.size
          have AK : ∀ o, Hid (Below w.heap.size w (W.alloc o)) := fun o => Lib.hid (KW.out.alloc hwW o)
          have AI : ∀ o, Hid (IsRx (W.alloc o) B g c) := fun o => Lib.hid (HH.out.below (AK o).out)
          rcases p with _ | b3
          · have hqs : q.set = none := by
              have := HU.out
              cases hs : q.set with
              | none => rfl
              | some y => rw [hs] at this; exact this.elim
            have hs1 : Rx.stepOne c X y F j = F := by
              unfold Rx.stepOne
              split
              · rw [HQ.out]; simp only [hqs]
              · rfl
            have HS1 := Lib.hid hs1
            clear hs1 hqs
            simp only [pv] at u1
            cases u with
            | false =>
              go_wp2
              go_quiet (fail)
              go_wp2
              go_roundg (N - (j + 1))
              case measure => omega
              case rel => exact ⟨j + 1, by go_num, by omega, Nat.le_refl _, AX _, Lib.hid (by rw [HST.out, HS1.out]; exact (AF _).out), Lib.hid (below_drewN (AK _).out _)⟩
            | true =>
              go_wp2
              go_quiet (fail)
              go_wp2
              go_roundg (N - (j + 1))
              case measure => omega
              case rel => exact ⟨j + 1, by go_num, by omega, Nat.le_refl _, AX _, Lib.hid (by rw [HST.out, HS1.out]; exact (AF _).out), Lib.hid (below_drewN (AK _).out _)⟩
          · obtain ⟨Y, hY⟩ : ∃ Y, q.set = some Y := by
              have := HU.out
              cases hs : q.set with
              | some y => exact ⟨y, rfl⟩
              | none => rw [hs] at this; exact this.elim
            have hbY : Blk W b3 164 (Y.map Value.bool).toArray := by have := HU.out; rw [hY] at this; exact this.2
            have hYl : Y.length = 256 := (HVV.out.st j q HQ.out).2.2.2.2 Y hY
            have hs1 : Rx.stepOne c X y F j = if u = true ∧ Y[y]? = some true then Rx.reach c.st c.st.length q.nxt F else F := by
              unfold Rx.stepOne
              rw [HUX.out, HQ.out]
              cases u with
              | false => simp
              | true => simp only [hY]; split <;> simp_all
            obtain ⟨z, hz⟩ : ∃ z, Y[y]? = some z := ⟨_, List.getElem?_eq_getElem (by omega)⟩
            rw [hz] at hs1
            have hb3l := hbY.lt
            have hcY : W.cell? ⟨b3, y, none⟩ = some (.bool z) := by rw [hbY.cell y]; simp [hz]
            have HQN := Lib.hid ((HVV.out.st j q HQ.out))
            clear hbY hYl hz hY
            simp only [pv] at u1
            cases u with
            | false =>
              have HS1 := Lib.hid (hs1.trans (if_neg (by simp)))
              clear hs1
              go_wp2
              go_quiet (fail)
              go_wp2
              go_roundg (N - (j + 1))
              case measure => omega
              case rel => exact ⟨j + 1, by go_num, by omega, Nat.le_refl _, AX _, Lib.hid (by rw [HST.out, HS1.out]; exact (AF _).out), Lib.hid (below_drewN (AK _).out _)⟩
            | true =>
              cases z with
              | false =>
                have HS1 := Lib.hid (hs1.trans (if_neg (by simp)))
                clear hs1
                go_wp2
                go_quiet (fail)
                go_wp2
                go_roundg (N - (j + 1))
                case measure => omega
                case rel => exact ⟨j + 1, by go_num, by omega, Nat.le_refl _, AX _, Lib.hid (by rw [HST.out, HS1.out]; exact (AF _).out), Lib.hid (below_drewN (AK _).out _)⟩
              | true =>
                have HS1 := Lib.hid (hs1.trans (if_pos ⟨rfl, rfl⟩))
                clear hs1
                go_wp2
                go_quiet (fail)
                go_wp2_with fail
                refine (hreach.out q.nxt F wo.heap.size _ (HH.out.below (below_drewN (AK _).out _)) (AF _).out HFL.out HQN.out.1 (by have := HQN.out.2.1; have := HN.out; omega)).mono ?_
                rintro e w5 ⟨rfl, hb5, hg5⟩
                rw [← HN.out, ← HS1.out, ← HST.out] at hb5
                have B5 := Lib.hid hb5
                have X5 := Lib.hid (Blk.grown (Blk.drewN (AX (.cells #[.pointer (some ⟨b3, 0, none⟩), .int .i64 q.nxt, .int .i64 q.oth] 105)).out nq) hg5 (fun e => by injection e with e; omega))
                have K5 := Lib.hid ((below_drewN (AK (.cells #[.pointer (some ⟨b3, 0, none⟩), .int .i64 q.nxt, .int .i64 q.oth] 105)).out _).trans (below_of_grown (B := w.heap.size) (below_drewN (AK (.cells #[.pointer (some ⟨b3, 0, none⟩), .int .i64 q.nxt, .int .i64 q.oth] 105)).out _).size hg5 (fun k hk => by injection hk with hk; omega)))
                clear hb5 hg5
                go_wp2
                go_roundg (N - (j + 1))
                case measure => omega
                case rel => exact ⟨j + 1, by go_num, by omega, Nat.le_refl _, X5, B5, K5⟩
        · have hje : j = N := by omega
          subst hje
          go_wp2
          go_roundg (t.length - (i + 1))
          case measure => omega
          case rel =>
            refine ⟨i + 1, wo.heap.size, rfl, by go_num, by omega, Nat.le_refl _, hws, Lib.hid ?_, KW⟩
            rw [HNX.out]
            unfold Rx.stepAll
            rw [HE1.out]
            exact BF.out
    · have hie : i = t.length := by omega
      subst hie
      rw [List.take_length] at BN
      obtain ⟨q, hq⟩ : ∃ q, c.st[N]? = some q := ⟨_, List.getElem?_eq_getElem (by rw [HN.out]; omega)⟩
      have hend : Rx.endOf c = q.oth := by unfold Rx.endOf; rw [HE1.out, hq]
      have hve := HVV.out.e
      rw [hend, HN.out] at hve
      obtain ⟨z, hz⟩ : ∃ z : Nat, q.oth = (z : Int) := ⟨q.oth.toNat, by omega⟩
      obtain ⟨g1, c2, p, u0, u1, u2, u3, u4⟩ := I2.out.data N q hq
      rw [hz] at u3 hve hend
      rw [HN.out] at u0
      have hxl : (t.foldl (Rx.stepAll c) (Rx.startIn c)).length = N := by
        have := (Rx.places_good HVV.out t).len
        rw [HE1.out] at this
        exact this
      have hzN : z < N := by omega
      have hcell := BN.out.get z (by rw [hxl]; exact hzN)
      have hm : Rx.matchC c t = (t.foldl (Rx.stepAll c) (Rx.startIn c))[z]'(by rw [hxl]; exact hzN) := by
        unfold Rx.matchC
        rw [hend, Int.toNat_natCast, List.getElem?_eq_getElem (by rw [hxl]; exact hzN)]
        cases (t.foldl (Rx.stepAll c) (Rx.startIn c))[z]'(by rw [hxl]; exact hzN) <;> simp
      rw [← hm, HR.out] at hcell
      have hzI : (z : Int) < (N : Int) := by omega
      have hz0 : (0 : Int) ≤ (z : Int) := by omega
      have hNI : (N : Int) < ((N + 1 : Nat) : Int) := by omega
      have hN0 : (0 : Int) ≤ (N : Int) := by omega
      clear hm hxl hve hend hq u4
      go_wp2
      go_ret
      exact ⟨rfl, K2.out⟩
end Go.Proofs.Ytnidjfmbbfoheaa
