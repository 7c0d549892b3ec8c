/- WALKS: health's Suspect: what its guards refuse. -/
import Derived.Test.YtadhcnfgbiokcaaHeWalk3
namespace Go.Proofs.Ytadhcnfgbiokcaa
set_option linter.unusedVariables false
set_option linter.unusedSimpArgs false
open Go.RowKit
set_option maxRecDepth 100000 in
set_option maxHeartbeats 1000000 in
theorem susr_state (g : Nat) (h : Hs) (n fr i now st : Int) (w : World) (H : IsH w g h) (hst : ¬ st = 1) :
    Calls Try.prog 9 #[.pointer (some ⟨g, 0, none⟩), .agg #[.int .u16 n, .int .u8 st, .int .i64 i], .int .u16 fr, .int .i64 now] w fun e w' => e = .returned (.bool false) ∧ Below w.heap.size w w' := by
  have c0 := H.head 0 (by omega)
  simp only [hhead, List.getElem?_cons_zero, List.getElem?_cons_succ] at c0
  have hlt := H.lt
  have HH := Lib.hid H
  clear H
  go_enter Try.func9, Try.ntmps9
  go_wp2
  go_quiet (fail)
  go_wp2
  go_ret
  exact ⟨rfl, below_drewN ((Below.refl _ _).alloc (Nat.le_refl _) _) _⟩
set_option maxRecDepth 100000 in
set_option maxHeartbeats 1000000 in
theorem susr_far (g : Nat) (h : Hs) (n fr i now : Int) (w : World) (H : IsH w g h) (hge : 64 ≤ n ∨ 64 ≤ fr) :
    Calls Try.prog 9 #[.pointer (some ⟨g, 0, none⟩), .agg #[.int .u16 n, .int .u8 1, .int .i64 i], .int .u16 fr, .int .i64 now] w fun e w' => e = .returned (.bool false) ∧ Below w.heap.size w w' := by
  have c0 := H.head 0 (by omega)
  simp only [hhead, List.getElem?_cons_zero, List.getElem?_cons_succ] at c0
  have hlt := H.lt
  have HH := Lib.hid H
  clear H
  by_cases hkf : n < fr
  case' pos => have hfr : (64 : Int) ≤ fr := by omega
  case' neg => have hfr : (64 : Int) ≤ n := by omega
  all_goals
    go_enter Try.func9, Try.ntmps9
    go_wp2
    go_quiet (fail)
    go_wp2
    go_ret
    exact ⟨rfl, below_drewN ((Below.refl _ _).alloc (Nat.le_refl _) _) _⟩
set_option maxRecDepth 100000 in
set_option maxHeartbeats 1000000 in
theorem susr_self (g : Nat) (h : Hs) (n fr i now : Int) (w : World) (H : IsH w g h) (hlt64 : n < 64 ∧ fr < 64) (hme : n = h.me) :
    Calls Try.prog 9 #[.pointer (some ⟨g, 0, none⟩), .agg #[.int .u16 n, .int .u8 1, .int .i64 i], .int .u16 fr, .int .i64 now] w fun e w' => e = .returned (.bool false) ∧ Below w.heap.size w w' := by
  have c0 := H.head 0 (by omega)
  simp only [hhead, List.getElem?_cons_zero, List.getElem?_cons_succ] at c0
  have hlt := H.lt
  have HH := Lib.hid H
  clear H
  obtain ⟨l0, l1⟩ := hlt64
  rw [← hme] at c0
  clear hme
  have hmb : (n == n) = true := by simp
  by_cases hkf : n < fr
  case' pos => have hmx : ¬ (64 : Int) ≤ (if n < fr then fr else n) := by rw [if_pos hkf]; omega
  case' neg => have hmx : ¬ (64 : Int) ≤ (if n < fr then fr else n) := by rw [if_neg hkf]; omega
  all_goals
    go_enter Try.func9, Try.ntmps9
    go_wp2
    go_quiet (fail)
    go_wp2
    go_ret
    exact ⟨rfl, below_drewN ((Below.refl _ _).alloc (Nat.le_refl _) _) _⟩
set_option maxRecDepth 100000 in
set_option maxHeartbeats 1000000 in
theorem susr_low (g : Nat) (h : Hs) (n fr i now : Int) (w : World) (H : IsH w g h) (hlt64 : n < 64 ∧ fr < 64) (hme : ¬ n = h.me) (hi : i < 0) :
    Calls Try.prog 9 #[.pointer (some ⟨g, 0, none⟩), .agg #[.int .u16 n, .int .u8 1, .int .i64 i], .int .u16 fr, .int .i64 now] w fun e w' => e = .returned (.bool false) ∧ Below w.heap.size w w' := by
  have c0 := H.head 0 (by omega)
  simp only [hhead, List.getElem?_cons_zero, List.getElem?_cons_succ] at c0
  have hlt := H.lt
  have HH := Lib.hid H
  clear H
  obtain ⟨l0, l1⟩ := hlt64
  have hmb : (n == h.me) = false := by simpa using hme
  by_cases hkf : n < fr
  case' pos => have hmx : ¬ (64 : Int) ≤ (if n < fr then fr else n) := by rw [if_pos hkf]; omega
  case' neg => have hmx : ¬ (64 : Int) ≤ (if n < fr then fr else n) := by rw [if_neg hkf]; omega
  all_goals
    go_enter Try.func9, Try.ntmps9
    go_wp2
    go_quiet (fail)
    go_wp2
    go_ret
    exact ⟨rfl, below_drewN ((Below.refl _ _).alloc (Nat.le_refl _) _) _⟩
set_option maxRecDepth 100000 in
set_option maxHeartbeats 1000000 in
theorem susr_high (g : Nat) (h : Hs) (n fr i now : Int) (w : World) (H : IsH w g h) (hlt64 : n < 64 ∧ fr < 64) (hme : ¬ n = h.me) (hi : 1073741824 < i) (hi0 : 0 ≤ i) :
    Calls Try.prog 9 #[.pointer (some ⟨g, 0, none⟩), .agg #[.int .u16 n, .int .u8 1, .int .i64 i], .int .u16 fr, .int .i64 now] w fun e w' => e = .returned (.bool false) ∧ Below w.heap.size w w' := by
  have c0 := H.head 0 (by omega)
  simp only [hhead, List.getElem?_cons_zero, List.getElem?_cons_succ] at c0
  have hlt := H.lt
  have HH := Lib.hid H
  clear H
  obtain ⟨l0, l1⟩ := hlt64
  have hmb : (n == h.me) = false := by simpa using hme
  by_cases hkf : n < fr
  case' pos => have hmx : ¬ (64 : Int) ≤ (if n < fr then fr else n) := by rw [if_pos hkf]; omega
  case' neg => have hmx : ¬ (64 : Int) ≤ (if n < fr then fr else n) := by rw [if_neg hkf]; omega
  all_goals
    go_enter Try.func9, Try.ntmps9
    go_wp2
    go_quiet (fail)
    go_wp2
    go_ret
    exact ⟨rfl, below_drewN ((Below.refl _ _).alloc (Nat.le_refl _) _) _⟩
set_option maxRecDepth 100000 in
set_option maxHeartbeats 1000000 in
theorem susr_time (g : Nat) (h : Hs) (n fr i now : Int) (w : World) (H : IsH w g h) (hlt64 : n < 64 ∧ fr < 64) (hme : ¬ n = h.me) (hi : 0 ≤ i ∧ i ≤ 1073741824) (hn : ¬ (0 ≤ now ∧ now ≤ 1099511627776)) :
    Calls Try.prog 9 #[.pointer (some ⟨g, 0, none⟩), .agg #[.int .u16 n, .int .u8 1, .int .i64 i], .int .u16 fr, .int .i64 now] w fun e w' => e = .returned (.bool false) ∧ Below w.heap.size w w' := by
  have c0 := H.head 0 (by omega)
  simp only [hhead, List.getElem?_cons_zero, List.getElem?_cons_succ] at c0
  have hlt := H.lt
  have HH := Lib.hid H
  clear H
  obtain ⟨i0, i1⟩ := hi
  have ht : (decide (0 ≤ now) && decide (now ≤ 1099511627776)) = false := by simp; omega
  have HT := Lib.hid ht
  clear ht hn
  obtain ⟨l0, l1⟩ := hlt64
  have hmb : (n == h.me) = false := by simpa using hme
  by_cases hkf : n < fr
  case' pos => have hmx : ¬ (64 : Int) ≤ (if n < fr then fr else n) := by rw [if_pos hkf]; omega
  case' neg => have hmx : ¬ (64 : Int) ≤ (if n < fr then fr else n) := by rw [if_neg hkf]; omega
  all_goals
    go_enter Try.func9, Try.ntmps9
    go_wp2
    go_quiet (fail)
    go_wp2_with fail
    refine (time_any now _).mono ?_
    rw [HT.out]
    rintro e w1 ⟨rfl, hb⟩
    have K1 := Lib.hid (((Below.refl _ w).alloc (Nat.le_refl _) (.cells #[.int .u16 n, .int .u8 1, .int .i64 i] 33)).trans ((show Below (w.alloc (.cells #[.int .u16 n, .int .u8 1, .int .i64 i] 33)).heap.size (w.alloc (.cells #[.int .u16 n, .int .u8 1, .int .i64 i] 33)) w1 from ⟨hb.os, hb.tape, hb.output, hb.size, hb.block⟩).mono (by simp)))
    clear hb
    go_wp2
    go_ret
    exact ⟨rfl, K1.out⟩
end Go.Proofs.Ytadhcnfgbiokcaa
