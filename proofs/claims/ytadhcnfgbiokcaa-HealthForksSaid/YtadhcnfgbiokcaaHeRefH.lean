/- WALKS: the document's health: Suspect. -/
import Derived.Test.YtadhcnfgbiokcaaHeRefB
namespace Go.Proofs.Ytadhcnfgbiokcaa
set_option linter.unusedVariables false
set_option linter.unusedSimpArgs false
open Go.RowKit
set_option maxRecDepth 100000 in
set_option maxHeartbeats 4000000 in
theorem rsr_state (me mn mx cf sc n i fr now st : Int) (A : Option Addr) (c : Nat) (L : List Em) (w : World) (h1 : ¬ st = 1) :
    Calls Try.prog 29 #[.agg #[.int .u16 me, .int .i64 mn, .int .i64 mx, .int .i64 cf, .int .i64 sc, .slice A L.length c], .agg #[.int .u16 n, .int .u8 st, .int .i64 i], .int .u16 fr, .int .i64 now] w fun e w' => e = .returned (.tuple #[.agg #[.int .u16 me, .int .i64 mn, .int .i64 mx, .int .i64 cf, .int .i64 sc, .slice A L.length c], .bool false]) ∧ Below w.heap.size w w' := by
  have KA := Lib.hid (((((Below.refl _ w).alloc (Nat.le_refl _) (.cells #[.int .u16 me, .int .i64 mn, .int .i64 mx, .int .i64 cf, .int .i64 sc, .slice A L.length c] 53))).alloc (by simp) (.cells #[.int .u16 n, .int .u8 st, .int .i64 i] 33)).alloc (by simp; omega) (.cells #[.int .u16 me, .int .i64 mn, .int .i64 mx, .int .i64 cf, .int .i64 sc, .slice A L.length c] 53))
  go_enter Try.func29, Try.ntmps29
  go_wp2
  refine bodyPost_ret (v := .tuple #[.agg #[.int .u16 me, .int .i64 mn, .int .i64 mx, .int .i64 cf, .int .i64 sc, .slice A L.length c], .bool false]) (by simp [results, Try.results29, go_sem]) rfl ⟨rfl, KA.out⟩
set_option maxRecDepth 100000 in
set_option maxHeartbeats 4000000 in
theorem rsr_far (me mn mx cf sc n i fr now : Int) (A : Option Addr) (c : Nat) (L : List Em) (w : World) (h2 : 64 ≤ n) :
    Calls Try.prog 29 #[.agg #[.int .u16 me, .int .i64 mn, .int .i64 mx, .int .i64 cf, .int .i64 sc, .slice A L.length c], .agg #[.int .u16 n, .int .u8 1, .int .i64 i], .int .u16 fr, .int .i64 now] w fun e w' => e = .returned (.tuple #[.agg #[.int .u16 me, .int .i64 mn, .int .i64 mx, .int .i64 cf, .int .i64 sc, .slice A L.length c], .bool false]) ∧ Below w.heap.size w w' := by
  have KA := Lib.hid (((((Below.refl _ w).alloc (Nat.le_refl _) (.cells #[.int .u16 me, .int .i64 mn, .int .i64 mx, .int .i64 cf, .int .i64 sc, .slice A L.length c] 53))).alloc (by simp) (.cells #[.int .u16 n, .int .u8 1, .int .i64 i] 33)).alloc (by simp; omega) (.cells #[.int .u16 me, .int .i64 mn, .int .i64 mx, .int .i64 cf, .int .i64 sc, .slice A L.length c] 53))
  go_enter Try.func29, Try.ntmps29
  go_wp2
  refine bodyPost_ret (v := .tuple #[.agg #[.int .u16 me, .int .i64 mn, .int .i64 mx, .int .i64 cf, .int .i64 sc, .slice A L.length c], .bool false]) (by simp [results, Try.results29, go_sem]) rfl ⟨rfl, KA.out⟩
set_option maxRecDepth 100000 in
set_option maxHeartbeats 4000000 in
theorem rsr_from (me mn mx cf sc n i fr now : Int) (A : Option Addr) (c : Nat) (L : List Em) (w : World) (h2 : ¬ 64 ≤ n) (h3 : 64 ≤ fr) :
    Calls Try.prog 29 #[.agg #[.int .u16 me, .int .i64 mn, .int .i64 mx, .int .i64 cf, .int .i64 sc, .slice A L.length c], .agg #[.int .u16 n, .int .u8 1, .int .i64 i], .int .u16 fr, .int .i64 now] w fun e w' => e = .returned (.tuple #[.agg #[.int .u16 me, .int .i64 mn, .int .i64 mx, .int .i64 cf, .int .i64 sc, .slice A L.length c], .bool false]) ∧ Below w.heap.size w w' := by
  have KA := Lib.hid (((((Below.refl _ w).alloc (Nat.le_refl _) (.cells #[.int .u16 me, .int .i64 mn, .int .i64 mx, .int .i64 cf, .int .i64 sc, .slice A L.length c] 53))).alloc (by simp) (.cells #[.int .u16 n, .int .u8 1, .int .i64 i] 33)).alloc (by simp; omega) (.cells #[.int .u16 me, .int .i64 mn, .int .i64 mx, .int .i64 cf, .int .i64 sc, .slice A L.length c] 53))
  go_enter Try.func29, Try.ntmps29
  go_wp2
  refine bodyPost_ret (v := .tuple #[.agg #[.int .u16 me, .int .i64 mn, .int .i64 mx, .int .i64 cf, .int .i64 sc, .slice A L.length c], .bool false]) (by simp [results, Try.results29, go_sem]) rfl ⟨rfl, KA.out⟩
set_option maxRecDepth 100000 in
set_option maxHeartbeats 4000000 in
theorem rsr_self (me mn mx cf sc n i fr now : Int) (A : Option Addr) (c : Nat) (L : List Em) (w : World) (h2 : ¬ n = n ∨ ¬ 64 ≤ n) (h3 : ¬ 64 ≤ fr) (h4 : n = me) :
    Calls Try.prog 29 #[.agg #[.int .u16 me, .int .i64 mn, .int .i64 mx, .int .i64 cf, .int .i64 sc, .slice A L.length c], .agg #[.int .u16 n, .int .u8 1, .int .i64 i], .int .u16 fr, .int .i64 now] w fun e w' => e = .returned (.tuple #[.agg #[.int .u16 me, .int .i64 mn, .int .i64 mx, .int .i64 cf, .int .i64 sc, .slice A L.length c], .bool false]) ∧ Below w.heap.size w w' := by
  have KA := Lib.hid (((((Below.refl _ w).alloc (Nat.le_refl _) (.cells #[.int .u16 me, .int .i64 mn, .int .i64 mx, .int .i64 cf, .int .i64 sc, .slice A L.length c] 53))).alloc (by simp) (.cells #[.int .u16 n, .int .u8 1, .int .i64 i] 33)).alloc (by simp; omega) (.cells #[.int .u16 me, .int .i64 mn, .int .i64 mx, .int .i64 cf, .int .i64 sc, .slice A L.length c] 53))
  have h2 : ¬ 64 ≤ n := by omega
  have t4 : (n == me) = true := by simpa using h4
  have H4 := Lib.hid h4
  clear h4
  go_enter Try.func29, Try.ntmps29
  go_wp2
  refine bodyPost_ret (v := .tuple #[.agg #[.int .u16 me, .int .i64 mn, .int .i64 mx, .int .i64 cf, .int .i64 sc, .slice A L.length c], .bool false]) (by simp [results, Try.results29, go_sem]) rfl ⟨rfl, KA.out⟩
set_option maxRecDepth 100000 in
set_option maxHeartbeats 4000000 in
theorem rsr_low (me mn mx cf sc n i fr now : Int) (A : Option Addr) (c : Nat) (L : List Em) (w : World) (h2 : ¬ 64 ≤ n) (h3 : ¬ 64 ≤ fr) (h4 : ¬ n = me) (h5 : i < 0) :
    Calls Try.prog 29 #[.agg #[.int .u16 me, .int .i64 mn, .int .i64 mx, .int .i64 cf, .int .i64 sc, .slice A L.length c], .agg #[.int .u16 n, .int .u8 1, .int .i64 i], .int .u16 fr, .int .i64 now] w fun e w' => e = .returned (.tuple #[.agg #[.int .u16 me, .int .i64 mn, .int .i64 mx, .int .i64 cf, .int .i64 sc, .slice A L.length c], .bool false]) ∧ Below w.heap.size w w' := by
  have KA := Lib.hid (((((Below.refl _ w).alloc (Nat.le_refl _) (.cells #[.int .u16 me, .int .i64 mn, .int .i64 mx, .int .i64 cf, .int .i64 sc, .slice A L.length c] 53))).alloc (by simp) (.cells #[.int .u16 n, .int .u8 1, .int .i64 i] 33)).alloc (by simp; omega) (.cells #[.int .u16 me, .int .i64 mn, .int .i64 mx, .int .i64 cf, .int .i64 sc, .slice A L.length c] 53))
  have t4 : (n == me) = false := by simpa using h4
  go_enter Try.func29, Try.ntmps29
  go_wp2
  refine bodyPost_ret (v := .tuple #[.agg #[.int .u16 me, .int .i64 mn, .int .i64 mx, .int .i64 cf, .int .i64 sc, .slice A L.length c], .bool false]) (by simp [results, Try.results29, go_sem]) rfl ⟨rfl, KA.out⟩
set_option maxRecDepth 100000 in
set_option maxHeartbeats 4000000 in
theorem rsr_high (me mn mx cf sc n i fr now : Int) (A : Option Addr) (c : Nat) (L : List Em) (w : World) (h2 : ¬ 64 ≤ n) (h3 : ¬ 64 ≤ fr) (h4 : ¬ n = me) (h5 : ¬ i < 0) (h6 : 1073741824 < i) :
    Calls Try.prog 29 #[.agg #[.int .u16 me, .int .i64 mn, .int .i64 mx, .int .i64 cf, .int .i64 sc, .slice A L.length c], .agg #[.int .u16 n, .int .u8 1, .int .i64 i], .int .u16 fr, .int .i64 now] w fun e w' => e = .returned (.tuple #[.agg #[.int .u16 me, .int .i64 mn, .int .i64 mx, .int .i64 cf, .int .i64 sc, .slice A L.length c], .bool false]) ∧ Below w.heap.size w w' := by
  have KA := Lib.hid (((((Below.refl _ w).alloc (Nat.le_refl _) (.cells #[.int .u16 me, .int .i64 mn, .int .i64 mx, .int .i64 cf, .int .i64 sc, .slice A L.length c] 53))).alloc (by simp) (.cells #[.int .u16 n, .int .u8 1, .int .i64 i] 33)).alloc (by simp; omega) (.cells #[.int .u16 me, .int .i64 mn, .int .i64 mx, .int .i64 cf, .int .i64 sc, .slice A L.length c] 53))
  have t4 : (n == me) = false := by simpa using h4
  go_enter Try.func29, Try.ntmps29
  go_wp2
  refine bodyPost_ret (v := .tuple #[.agg #[.int .u16 me, .int .i64 mn, .int .i64 mx, .int .i64 cf, .int .i64 sc, .slice A L.length c], .bool false]) (by simp [results, Try.results29, go_sem]) rfl ⟨rfl, KA.out⟩
set_option maxRecDepth 100000 in
set_option maxHeartbeats 4000000 in
theorem rsr_past (me mn mx cf sc n i fr now : Int) (A : Option Addr) (c : Nat) (L : List Em) (w : World) (h2 : ¬ 64 ≤ n) (h3 : ¬ 64 ≤ fr) (h4 : ¬ n = me) (h5 : ¬ i < 0) (h6 : ¬ 1073741824 < i) (h7 : now < 0) :
    Calls Try.prog 29 #[.agg #[.int .u16 me, .int .i64 mn, .int .i64 mx, .int .i64 cf, .int .i64 sc, .slice A L.length c], .agg #[.int .u16 n, .int .u8 1, .int .i64 i], .int .u16 fr, .int .i64 now] w fun e w' => e = .returned (.tuple #[.agg #[.int .u16 me, .int .i64 mn, .int .i64 mx, .int .i64 cf, .int .i64 sc, .slice A L.length c], .bool false]) ∧ Below w.heap.size w w' := by
  have KA := Lib.hid (((((Below.refl _ w).alloc (Nat.le_refl _) (.cells #[.int .u16 me, .int .i64 mn, .int .i64 mx, .int .i64 cf, .int .i64 sc, .slice A L.length c] 53))).alloc (by simp) (.cells #[.int .u16 n, .int .u8 1, .int .i64 i] 33)).alloc (by simp; omega) (.cells #[.int .u16 me, .int .i64 mn, .int .i64 mx, .int .i64 cf, .int .i64 sc, .slice A L.length c] 53))
  have t4 : (n == me) = false := by simpa using h4
  go_enter Try.func29, Try.ntmps29
  go_wp2
  refine bodyPost_ret (v := .tuple #[.agg #[.int .u16 me, .int .i64 mn, .int .i64 mx, .int .i64 cf, .int .i64 sc, .slice A L.length c], .bool false]) (by simp [results, Try.results29, go_sem]) rfl ⟨rfl, KA.out⟩
set_option maxRecDepth 100000 in
set_option maxHeartbeats 4000000 in
theorem rsr_late (me mn mx cf sc n i fr now : Int) (A : Option Addr) (c : Nat) (L : List Em) (w : World) (h2 : ¬ 64 ≤ n) (h3 : ¬ 64 ≤ fr) (h4 : ¬ n = me) (h5 : ¬ i < 0) (h6 : ¬ 1073741824 < i) (h7 : ¬ now < 0) (h8 : 1099511627776 < now) :
    Calls Try.prog 29 #[.agg #[.int .u16 me, .int .i64 mn, .int .i64 mx, .int .i64 cf, .int .i64 sc, .slice A L.length c], .agg #[.int .u16 n, .int .u8 1, .int .i64 i], .int .u16 fr, .int .i64 now] w fun e w' => e = .returned (.tuple #[.agg #[.int .u16 me, .int .i64 mn, .int .i64 mx, .int .i64 cf, .int .i64 sc, .slice A L.length c], .bool false]) ∧ Below w.heap.size w w' := by
  have KA := Lib.hid (((((Below.refl _ w).alloc (Nat.le_refl _) (.cells #[.int .u16 me, .int .i64 mn, .int .i64 mx, .int .i64 cf, .int .i64 sc, .slice A L.length c] 53))).alloc (by simp) (.cells #[.int .u16 n, .int .u8 1, .int .i64 i] 33)).alloc (by simp; omega) (.cells #[.int .u16 me, .int .i64 mn, .int .i64 mx, .int .i64 cf, .int .i64 sc, .slice A L.length c] 53))
  have t4 : (n == me) = false := by simpa using h4
  go_enter Try.func29, Try.ntmps29
  go_wp2
  refine bodyPost_ret (v := .tuple #[.agg #[.int .u16 me, .int .i64 mn, .int .i64 mx, .int .i64 cf, .int .i64 sc, .slice A L.length c], .bool false]) (by simp [results, Try.results29, go_sem]) rfl ⟨rfl, KA.out⟩
end Go.Proofs.Ytadhcnfgbiokcaa
