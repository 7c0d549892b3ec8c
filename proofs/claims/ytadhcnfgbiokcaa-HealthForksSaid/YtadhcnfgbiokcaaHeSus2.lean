/- WALKS: health's Suspect: one more who says so. -/
import Derived.Test.YtadhcnfgbiokcaaHeWalk3
import Derived.Test.YtadhcnfgbiokcaaBits2
import Derived.Test.YtadhcnfgbiokcaaCq
namespace Go.Proofs.Ytadhcnfgbiokcaa
set_option linter.unusedVariables false
set_option linter.unusedSimpArgs false
open Go.RowKit
theorem hcells_who (h : Hs) (k : Nat) (hk : k < 64) (x : Su) (hs : h.s k = some x) (v : Nat) :
    (hcells h).setIfInBounds (5 + k * 4 + 3) (.int .u64 (v : Int)) = hcells (h.at_ k (some ⟨x.i, x.f, v⟩)) := by
  rw [← hcells_set h k hk (some ⟨x.i, x.f, v⟩) (.bool true) (.int .i64 x.i) (.int .i64 x.f) (.int .u64 (v : Int)) rfl]
  have e : ∀ (j : Nat) (u : Value), (su (some x))[j]? = some u → j < 4 → (hcells h).setIfInBounds (5 + k * 4 + j) u = hcells h := by
    intro j u hu hj
    apply Array.ext_getElem?
    intro i
    simp only [Array.getElem?_setIfInBounds]
    split
    · rename_i hji
      subst hji
      rw [hcells_at h k j hk hj, hs, hu]
      rw [if_pos (by rw [hcells_size]; omega)]
    · rfl
  have e0 := e 0 (.bool true) rfl (by omega)
  have e1 := e 1 (.int .i64 x.i) rfl (by omega)
  have e2 := e 2 (.int .i64 x.f) rfl (by omega)
  simp only [Nat.add_zero] at e0
  rw [e0, e1, e2]
theorem IsH.who {w : World} {g : Nat} {h : Hs} (H : IsH w g h) (k : Nat) (hk : k < 64) (x : Su) (hs : h.s k = some x) (v : Nat) :
    IsH (w.setCell ⟨g, 5 + k * 4 + 3, none⟩ (.int .u64 (v : Int))) g (h.at_ k (some ⟨x.i, x.f, v⟩)) := by
  have := Blk.set_ H (5 + k * 4 + 3) (.int .u64 (v : Int))
  rw [hcells_who h k hk x hs v] at this
  exact this
set_option maxRecDepth 100000 in
set_option maxHeartbeats 1000000 in
theorem sus_more (g : Nat) (h : Hs) (k fr : Nat) (i now : Int) (w : World) (H : IsH w g h) (HO : HOk h) (hk : k < 64) (hf : fr < 64) (hme : ¬ (k : Int) = h.me) (hi : 0 ≤ i ∧ i ≤ 1073741824) (hn : 0 ≤ now ∧ now ≤ 1099511627776) (x : Su) (hs : h.s k = some x) (hxi : x.i = i) (hxo : SuOk h.cf x) (hbit : x.w / 2 ^ fr % 2 = 0) (hcf : (He.ones x.w : Int) ≤ h.cf) :
    Calls Try.prog 9 #[.pointer (some ⟨g, 0, none⟩), .agg #[.int .u16 (k : Int), .int .u8 1, .int .i64 i], .int .u16 (fr : Int), .int .i64 now] w fun e w' => e = .returned (.bool true) ∧ w.grownBy w' (some g) ∧ IsH w' g (h.at_ k (some ⟨x.i, x.f, x.w + 2 ^ fr⟩)) := by
  have c0 := H.head 0 (by omega)
  simp only [hhead, List.getElem?_cons_zero, List.getElem?_cons_succ] at c0
  have d0 := H.cell k 0 hk (by omega)
  have d1 := H.cell k 1 hk (by omega)
  have d2 := H.cell k 2 hk (by omega)
  have d3 := H.cell k 3 hk (by omega)
  rw [hs] at d0 d1 d2 d3
  simp only [su, List.getElem?_cons_zero, List.getElem?_cons_succ, Nat.add_zero] at d0 d1 d2 d3
  have hf0 := H.frozen
  have hlt := H.lt
  have HH := Lib.hid H
  clear H
  obtain ⟨i0, i1⟩ := hi
  obtain ⟨n0, n1⟩ := hn
  have hkI : (k : Int) < 64 := by omega
  have hk0 : (0 : Int) ≤ (k : Int) := by omega
  have hfI : (fr : Int) < 64 := by omega
  have hmb : ((k : Int) == h.me) = false := by simpa using hme
  have hmx : ¬ (64 : Int) ≤ (if k < fr then (fr : Int) else (k : Int)) := by split <;> omega
  by_cases hkf : k < fr
  case' pos => have hkf' : (k : Int) < (fr : Int) := by omega
  case' neg => have hkf' : ¬ (k : Int) < (fr : Int) := by omega
  all_goals
    go_enter Try.func9, Try.ntmps9
    go_wp2
    go_quiet (fail)
    go_wp2_with fail
    refine (time_any now _).mono ?_
    rw [show (decide (0 ≤ now) && decide (now ≤ 1099511627776)) = true by simp [n0, n1]]
    rintro e w1 ⟨rfl, hb⟩
    have hb' : Below (w.alloc (.cells #[.int .u16 (k : Int), .int .u8 1, .int .i64 i] 33)).heap.size (w.alloc (.cells #[.int .u16 (k : Int), .int .u8 1, .int .i64 i] 33)) w1 := ⟨hb.os, hb.tape, hb.output, hb.size, hb.block⟩
    have hlW : g < (w.alloc (.cells #[.int .u16 (k : Int), .int .u8 1, .int .i64 i] 33)).heap.size := by simp; omega
    have hlX : w.heap.size < (w.alloc (.cells #[.int .u16 (k : Int), .int .u8 1, .int .i64 i] 33)).heap.size := by simp
    have H1 := Lib.hid ((HH.out.alloc (.cells #[.int .u16 (k : Int), .int .u8 1, .int .i64 i] 33)).below hb' hlW)
    have B1 := Lib.hid ((Blk.new w 33 #[.int .u16 (k : Int), .int .u8 1, .int .i64 i]).below hb' hlX)
    have K1 := Lib.hid (((Below.refl _ w).alloc (Nat.le_refl _) (.cells #[.int .u16 (k : Int), .int .u8 1, .int .i64 i] 33)).trans (hb'.mono (by simp)))
    clear hb hb' d0 d1 d2 d3 c0 hf0
    have d0 := H1.out.cell k 0 hk (by omega)
    have d1 := H1.out.cell k 1 hk (by omega)
    have d2 := H1.out.cell k 2 hk (by omega)
    have d3 := H1.out.cell k 3 hk (by omega)
    rw [hs] at d0 d1 d2 d3
    have b0 := B1.out.cell 0
    have b2 := B1.out.cell 2
    simp only [su, List.getElem?_toArray, List.getElem?_cons_zero, List.getElem?_cons_succ, Nat.add_zero] at d0 d1 d2 d3 b0 b2
    have hf0 := H1.out.frozen
    have hf64 : (fr : Int) < 64 := hfI
    obtain ⟨one, hone⟩ : ∃ one : Nat, 2 ^ fr = one := ⟨_, rfl⟩
    have honeb : one < 18446744073709551616 := by
      rw [← hone]
      exact Nat.lt_of_lt_of_le (Nat.pow_lt_pow_right (by omega) hf) (by decide)
    have hpw : IntKind.u64.wrap ((2 : Int) ^ fr) = (one : Int) := by
      rw [show ((2 : Int) ^ fr) = ((2 ^ fr : Nat) : Int) by simp, hone]
      exact wrap64n _ honeb
    have c3 := H1.out.head 3 (by omega)
    simp only [hhead, List.getElem?_cons_zero, List.getElem?_cons_succ] at c3
    subst hxi
    have hand : bits .and .u64 (x.w : Int) (one : Int) = 0 := by
      rw [and64 _ _ hxo.w honeb, ← hone, and_bit, if_neg (by omega)]; rfl
    have hor : bits .or .u64 (x.w : Int) (one : Int) = ((x.w + 2 ^ fr : Nat) : Int) := by
      rw [or64 _ _ hxo.w honeb, ← hone, or_bit _ _ hbit]
    go_wp2
    go_quiet (fail)
    go_wp2
    go_quiet (fail)
    go_wp2
    generalize hW9 : World.drewN (World.drewN w1 _) _ = W9
    have H9 : IsH W9 g h := by rw [← hW9]; exact (H1.out.drewN _).drewN _
    have B9 : Blk W9 w.heap.size 33 #[.int .u16 (k : Int), .int .u8 1, .int .i64 x.i] := by rw [← hW9]; exact (B1.out.drewN _).drewN _
    have K9 : Below w.heap.size w W9 := by rw [← hW9]; exact below_drewN (below_drewN K1.out _) _
    have HH9 := Lib.hid H9
    have HB9 := Lib.hid B9
    have HK9 := Lib.hid K9
    have e1 := fun y : Ext W9.heap.size W9 => (HH9.out.below y.h HH9.out.lt).cell k 1 hk (by omega)
    have e3 := fun y : Ext W9.heap.size W9 => (HH9.out.below y.h HH9.out.lt).cell k 3 hk (by omega)
    have e4 := fun y : Ext W9.heap.size W9 => (HH9.out.below y.h HH9.out.lt).head 3 (by omega)
    have e2 := fun y : Ext W9.heap.size W9 => (Ext.blk HB9.out HB9.out.lt (x := y)).cell 2
    rw [hs] at e1 e3
    simp only [su, hhead, List.getElem?_toArray, List.getElem?_cons_zero, List.getElem?_cons_succ] at e1 e2 e3 e4
    clear H9 B9 K9 hW9 d0 d1 d2 d3 b0 b2 c3 H1 B1 K1 hf0
    refine wp_region_exts (by kernel_rfl) (by kernel_rfl) ?_
    repeat
      first
        | go_big_quiet_skip
        | (go_big_quiet_want; go_big_quiet_op
           first
             | go_big_quiet_on
             | (apply Exists.intro
                refine ⟨fun x => ?_, ?_⟩
                · (go_at_call 24; exact calls_ext (Nat.le_refl _) (ones_any _ _ hxo.w))
                go_big_quiet_on
                try (skip)))
    refine wpQuiet_nil ?_
    rintro _ ⟨y, rfl⟩
    have HY := Lib.hid (HH9.out.below y.h HH9.out.lt)
    have KY := Lib.hid (HK9.out.trans (y.h.mono HK9.out.size))
    clear e1 e2 e3 e4
    have f3 := HY.out.cell k 3 hk (by omega)
    rw [hs] at f3
    simp only [su, List.getElem?_cons_zero, List.getElem?_cons_succ] at f3
    have fz := HY.out.frozen
    go_wp2
    go_ret
    refine ⟨rfl, ?_, ?_⟩
    · exact grown_setCell (g := g) (grown_of_below KY.out (some g)) (.inl rfl) _
    · have q := HY.out.who k hk x hs (x.w + one)
      rw [Int.natCast_add] at q
      rw [hone]
      exact q

end Go.Proofs.Ytadhcnfgbiokcaa
