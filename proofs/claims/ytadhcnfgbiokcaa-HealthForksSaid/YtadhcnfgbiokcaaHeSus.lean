/- WALKS: health's Suspect: a new suspicion. -/
import Derived.Test.YtadhcnfgbiokcaaHeWalk3
namespace Go.Proofs.Ytadhcnfgbiokcaa
set_option linter.unusedVariables false
set_option linter.unusedSimpArgs false
open Go.RowKit
set_option maxRecDepth 100000 in
set_option maxHeartbeats 1000000 in
theorem sus_none (g : Nat) (h : Hs) (k fr : Nat) (i now : Int) (w : World) (H : IsH w g h) (HO : HOk h) (hk : k < 64) (hf : fr < 64) (hme : ¬ (k : Int) = h.me) (hi : 0 ≤ i ∧ i ≤ 1073741824) (hn : 0 ≤ now ∧ now ≤ 1099511627776) (hs : h.s k = none) :
    Calls Try.prog 9 #[.pointer (some ⟨g, 0, none⟩), .agg #[.int .u16 (k : Int), .int .u8 1, .int .i64 i], .int .u16 (fr : Int), .int .i64 now] w fun e w' => e = .returned (.bool true) ∧ w.grownBy w' (some g) ∧ IsH w' g (h.at_ k (some ⟨i, now, 2 ^ fr⟩)) := by
  have c0 := H.head 0 (by omega)
  simp only [hhead, List.getElem?_cons_zero, List.getElem?_cons_succ] at c0
  have d0 := H.cell k 0 hk (by omega)
  have d1 := H.cell k 1 hk (by omega)
  have d2 := H.cell k 2 hk (by omega)
  have d3 := H.cell k 3 hk (by omega)
  rw [hs] at d0 d1 d2 d3
  simp only [su, List.getElem?_cons_zero, List.getElem?_cons_succ, Nat.add_zero] at d0 d1 d2 d3
  have hf0 := H.frozen
  have hlt := H.lt
  have HH := Lib.hid H
  clear H
  obtain ⟨i0, i1⟩ := hi
  obtain ⟨n0, n1⟩ := hn
  have hkI : (k : Int) < 64 := by omega
  have hk0 : (0 : Int) ≤ (k : Int) := by omega
  have hfI : (fr : Int) < 64 := by omega
  have hmb : ((k : Int) == h.me) = false := by simpa using hme
  have hmx : ¬ (64 : Int) ≤ (if k < fr then (fr : Int) else (k : Int)) := by split <;> omega
  by_cases hkf : k < fr
  case' pos => have hkf' : (k : Int) < (fr : Int) := by omega
  case' neg => have hkf' : ¬ (k : Int) < (fr : Int) := by omega
  all_goals
    go_enter Try.func9, Try.ntmps9
    go_wp2
    go_quiet (fail)
    go_wp2_with fail
    refine (time_any now _).mono ?_
    rw [show (decide (0 ≤ now) && decide (now ≤ 1099511627776)) = true by simp [n0, n1]]
    rintro e w1 ⟨rfl, hb⟩
    have hb' : Below (w.alloc (.cells #[.int .u16 (k : Int), .int .u8 1, .int .i64 i] 33)).heap.size (w.alloc (.cells #[.int .u16 (k : Int), .int .u8 1, .int .i64 i] 33)) w1 := ⟨hb.os, hb.tape, hb.output, hb.size, hb.block⟩
    have hlW : g < (w.alloc (.cells #[.int .u16 (k : Int), .int .u8 1, .int .i64 i] 33)).heap.size := by simp; omega
    have hlX : w.heap.size < (w.alloc (.cells #[.int .u16 (k : Int), .int .u8 1, .int .i64 i] 33)).heap.size := by simp
    have H1 := Lib.hid ((HH.out.alloc (.cells #[.int .u16 (k : Int), .int .u8 1, .int .i64 i] 33)).below hb' hlW)
    have B1 := Lib.hid ((Blk.new w 33 #[.int .u16 (k : Int), .int .u8 1, .int .i64 i]).below hb' hlX)
    have K1 := Lib.hid (((Below.refl _ w).alloc (Nat.le_refl _) (.cells #[.int .u16 (k : Int), .int .u8 1, .int .i64 i] 33)).trans (hb'.mono (by simp)))
    clear hb hb' d0 d1 d2 d3 c0 hf0
    have d0 := H1.out.cell k 0 hk (by omega)
    have d1 := H1.out.cell k 1 hk (by omega)
    have d2 := H1.out.cell k 2 hk (by omega)
    have d3 := H1.out.cell k 3 hk (by omega)
    rw [hs] at d0 d1 d2 d3
    have b0 := B1.out.cell 0
    have b2 := B1.out.cell 2
    simp only [su, List.getElem?_toArray, List.getElem?_cons_zero, List.getElem?_cons_succ, Nat.add_zero] at d0 d1 d2 d3 b0 b2
    have hf0 := H1.out.frozen
    have hf64 : (fr : Int) < 64 := hfI
    obtain ⟨one, hone⟩ : ∃ one : Nat, 2 ^ fr = one := ⟨_, rfl⟩
    have honeb : one < 18446744073709551616 := by
      rw [← hone]
      exact Nat.lt_of_lt_of_le (Nat.pow_lt_pow_right (by omega) hf) (by decide)
    have hpw : IntKind.u64.wrap ((2 : Int) ^ fr) = (one : Int) := by
      rw [show ((2 : Int) ^ fr) = ((2 ^ fr : Nat) : Int) by simp, hone]
      exact wrap64n _ honeb
    go_wp2
    go_quiet (fail)
    go_wp2
    go_quiet (fail)
    go_wp2
    go_ret
    refine ⟨rfl, ?_, ?_⟩
    · exact grown_setCell (g := g) (grown_setCell (g := g) (grown_setCell (g := g) (grown_setCell (g := g) (grown_drewN (grown_of_below K1.out (some g)) _) (.inl rfl) _) (.inl rfl) _) (.inl rfl) _) (.inl rfl) _
    · rw [hone]
      exact (H1.out.drewN _).set_ k hk (some ⟨i, now, one⟩) _ _ _ _ rfl
set_option maxRecDepth 100000 in
set_option maxHeartbeats 1000000 in
theorem sus_low (g : Nat) (h : Hs) (k fr : Nat) (i now : Int) (w : World) (H : IsH w g h) (HO : HOk h) (hk : k < 64) (hf : fr < 64) (hme : ¬ (k : Int) = h.me) (hi : 0 ≤ i ∧ i ≤ 1073741824) (hn : 0 ≤ now ∧ now ≤ 1099511627776) (x : Su) (hs : h.s k = some x) (hlow : x.i < i) :
    Calls Try.prog 9 #[.pointer (some ⟨g, 0, none⟩), .agg #[.int .u16 (k : Int), .int .u8 1, .int .i64 i], .int .u16 (fr : Int), .int .i64 now] w fun e w' => e = .returned (.bool true) ∧ w.grownBy w' (some g) ∧ IsH w' g (h.at_ k (some ⟨i, now, 2 ^ fr⟩)) := by
  have c0 := H.head 0 (by omega)
  simp only [hhead, List.getElem?_cons_zero, List.getElem?_cons_succ] at c0
  have d0 := H.cell k 0 hk (by omega)
  have d1 := H.cell k 1 hk (by omega)
  have d2 := H.cell k 2 hk (by omega)
  have d3 := H.cell k 3 hk (by omega)
  rw [hs] at d0 d1 d2 d3
  simp only [su, List.getElem?_cons_zero, List.getElem?_cons_succ, Nat.add_zero] at d0 d1 d2 d3
  have hf0 := H.frozen
  have hlt := H.lt
  have HH := Lib.hid H
  clear H
  obtain ⟨i0, i1⟩ := hi
  obtain ⟨n0, n1⟩ := hn
  have hkI : (k : Int) < 64 := by omega
  have hk0 : (0 : Int) ≤ (k : Int) := by omega
  have hfI : (fr : Int) < 64 := by omega
  have hmb : ((k : Int) == h.me) = false := by simpa using hme
  have hmx : ¬ (64 : Int) ≤ (if k < fr then (fr : Int) else (k : Int)) := by split <;> omega
  by_cases hkf : k < fr
  case' pos => have hkf' : (k : Int) < (fr : Int) := by omega
  case' neg => have hkf' : ¬ (k : Int) < (fr : Int) := by omega
  all_goals
    go_enter Try.func9, Try.ntmps9
    go_wp2
    go_quiet (fail)
    go_wp2_with fail
    refine (time_any now _).mono ?_
    rw [show (decide (0 ≤ now) && decide (now ≤ 1099511627776)) = true by simp [n0, n1]]
    rintro e w1 ⟨rfl, hb⟩
    have hb' : Below (w.alloc (.cells #[.int .u16 (k : Int), .int .u8 1, .int .i64 i] 33)).heap.size (w.alloc (.cells #[.int .u16 (k : Int), .int .u8 1, .int .i64 i] 33)) w1 := ⟨hb.os, hb.tape, hb.output, hb.size, hb.block⟩
    have hlW : g < (w.alloc (.cells #[.int .u16 (k : Int), .int .u8 1, .int .i64 i] 33)).heap.size := by simp; omega
    have hlX : w.heap.size < (w.alloc (.cells #[.int .u16 (k : Int), .int .u8 1, .int .i64 i] 33)).heap.size := by simp
    have H1 := Lib.hid ((HH.out.alloc (.cells #[.int .u16 (k : Int), .int .u8 1, .int .i64 i] 33)).below hb' hlW)
    have B1 := Lib.hid ((Blk.new w 33 #[.int .u16 (k : Int), .int .u8 1, .int .i64 i]).below hb' hlX)
    have K1 := Lib.hid (((Below.refl _ w).alloc (Nat.le_refl _) (.cells #[.int .u16 (k : Int), .int .u8 1, .int .i64 i] 33)).trans (hb'.mono (by simp)))
    clear hb hb' d0 d1 d2 d3 c0 hf0
    have d0 := H1.out.cell k 0 hk (by omega)
    have d1 := H1.out.cell k 1 hk (by omega)
    have d2 := H1.out.cell k 2 hk (by omega)
    have d3 := H1.out.cell k 3 hk (by omega)
    rw [hs] at d0 d1 d2 d3
    have b0 := B1.out.cell 0
    have b2 := B1.out.cell 2
    simp only [su, List.getElem?_toArray, List.getElem?_cons_zero, List.getElem?_cons_succ, Nat.add_zero] at d0 d1 d2 d3 b0 b2
    have hf0 := H1.out.frozen
    have hf64 : (fr : Int) < 64 := hfI
    obtain ⟨one, hone⟩ : ∃ one : Nat, 2 ^ fr = one := ⟨_, rfl⟩
    have honeb : one < 18446744073709551616 := by
      rw [← hone]
      exact Nat.lt_of_lt_of_le (Nat.pow_lt_pow_right (by omega) hf) (by decide)
    have hpw : IntKind.u64.wrap ((2 : Int) ^ fr) = (one : Int) := by
      rw [show ((2 : Int) ^ fr) = ((2 ^ fr : Nat) : Int) by simp, hone]
      exact wrap64n _ honeb
    go_wp2
    go_quiet (fail)
    go_wp2
    go_quiet (fail)
    go_wp2
    go_ret
    refine ⟨rfl, ?_, ?_⟩
    · exact grown_setCell (g := g) (grown_setCell (g := g) (grown_setCell (g := g) (grown_setCell (g := g) (grown_drewN (grown_of_below K1.out (some g)) _) (.inl rfl) _) (.inl rfl) _) (.inl rfl) _) (.inl rfl) _
    · rw [hone]
      exact (H1.out.drewN _).set_ k hk (some ⟨i, now, one⟩) _ _ _ _ rfl
end Go.Proofs.Ytadhcnfgbiokcaa
