/- WALKS: match.Check. -/
import Derived.Test.YtnidjfmbbfoheaaMaA
import Derived.Test.YtnidjfmbbfoheaaRxBoth
namespace Go.Proofs.Ytnidjfmbbfoheaa
set_option linter.unusedVariables false
set_option linter.unusedSimpArgs false
open Go.RowKit

def mval (n v : List Nat) (op : Int) : Value := .agg #[.string (bs n), .int .u8 op, .string (bs v)]
set_option maxRecDepth 100000 in
theorem check_name (n v : List Nat) (op : Int) (hn : ∀ x ∈ n, x < 256) (ln : n.length ≤ 9223372036854775807) (h : nameB n = false) (w : World) :
    Calls Try.prog 31 #[mval n v op] w fun e w' => e = .returned (.int .i64 6) ∧ Below w.heap.size w w' := by
  have H := Lib.hid (fun w => name_any n hn ln w)
  rw [h] at H
  unfold mval
  clear hn h
  generalize bs n = bn at *
  generalize bs v = bv1 at *
  go_enter Try.func31, Try.ntmps31
  go_wp2_with fail
  refine (H.out _).mono ?_
  rintro e w1 ⟨rfl, rfl⟩
  go_wp2
  go_ret
  exact ⟨rfl, (Below.refl _ _).alloc (Nat.le_refl _) _⟩
set_option maxRecDepth 100000 in
theorem check_op (n v : List Nat) (op : Int) (hn : ∀ x ∈ n, x < 256) (ln : n.length ≤ 9223372036854775807) (h : nameB n = true) (h0 : 0 ≤ op) (h255 : op ≤ 255) (h3 : 3 < op) (w : World) :
    Calls Try.prog 31 #[mval n v op] w fun e w' => e = .returned (.int .i64 2) ∧ Below w.heap.size w w' := by
  have H := Lib.hid (fun w => name_any n hn ln w)
  rw [h] at H
  unfold mval
  have sv := bs_size v
  clear hn h
  generalize bs n = bn at *
  generalize bs v = bv1 at *
  go_enter Try.func31, Try.ntmps31
  go_wp2_with fail
  refine (H.out _).mono ?_
  rintro e w1 ⟨rfl, rfl⟩
  go_wp2
  go_ret
  exact ⟨rfl, (Below.refl _ _).alloc (Nat.le_refl _) _⟩
set_option maxRecDepth 100000 in
theorem check_long (n v : List Nat) (op : Int) (hn : ∀ x ∈ n, x < 256) (ln : n.length ≤ 9223372036854775807) (h : nameB n = true) (h0 : 0 ≤ op) (h255 : op ≤ 255) (h3 : op ≤ 3) (lv : v.length ≤ 9223372036854775807) (hv : 64 < v.length) (w : World) :
    Calls Try.prog 31 #[mval n v op] w fun e w' => e = .returned (.int .i64 5) ∧ Below w.heap.size w w' := by
  have H := Lib.hid (fun w => name_any n hn ln w)
  rw [h] at H
  unfold mval
  have sv := bs_size v
  have iv : (64 : Int) < (v.length : Int) := by omega
  clear hn h
  generalize bs n = bn at *
  generalize bs v = bv1 at *
  go_enter Try.func31, Try.ntmps31
  go_wp2_with fail
  refine (H.out _).mono ?_
  rintro e w1 ⟨rfl, rfl⟩
  go_wp2
  go_ret
  exact ⟨rfl, (Below.refl _ _).alloc (Nat.le_refl _) _⟩
set_option maxRecDepth 100000 in
theorem check_ok (n v : List Nat) (op : Int) (hn : ∀ x ∈ n, x < 256) (ln : n.length ≤ 9223372036854775807) (h : nameB n = true) (h0 : 0 ≤ op) (h255 : op ≤ 255) (h3 : op < 2) (hv : v.length ≤ 64) (w : World) :
    Calls Try.prog 31 #[mval n v op] w fun e w' => e = .returned (.int .i64 0) ∧ Below w.heap.size w w' := by
  have H := Lib.hid (fun w => name_any n hn ln w)
  rw [h] at H
  unfold mval
  have sv := bs_size v
  have iv : (v.length : Int) ≤ 64 := by omega
  have i3 : op ≤ 3 := by omega
  clear hn h
  generalize bs n = bn at *
  generalize bs v = bv1 at *
  go_enter Try.func31, Try.ntmps31
  go_wp2_with fail
  refine (H.out _).mono ?_
  rintro e w1 ⟨rfl, rfl⟩
  go_wp2
  go_ret
  exact ⟨rfl, (Below.refl _ _).alloc (Nat.le_refl _) _⟩
/-- What Compile tells, but for the pattern. -/
def errOf (v : List Nat) : Int := match Rx.readA v with | none => 9 | some _ => 0
theorem comp_err (v : List Nat) (hv : v.length ≤ 64) (hb : ∀ x ∈ v, x < 256) (w : World) : Calls Try.prog 27 #[.string (bs v)] w fun e w' => ∃ p, e = .returned (.tuple #[.pointer p, .int .i64 (errOf v)]) ∧ Below w.heap.size w w' := by
  unfold errOf
  cases h : Rx.readA v with
  | none => exact (comp_no h hv hb w).mono fun e w' ⟨a, b⟩ => ⟨_, a, b⟩
  | some r => exact (comp_yes h hv hb w).mono fun e w' ⟨g, a, _, b⟩ => ⟨_, a, b⟩
set_option maxRecDepth 100000 in
theorem check_rx (n v : List Nat) (op : Int) (hn : ∀ x ∈ n, x < 256) (ln : n.length ≤ 9223372036854775807) (h : nameB n = true) (h3 : op ≤ 3) (h2 : 2 ≤ op) (hv : v.length ≤ 64) (hb : ∀ x ∈ v, x < 256) (w : World) :
    Calls Try.prog 31 #[mval n v op] w fun e w' => e = .returned (.int .i64 (errOf v)) ∧ Below w.heap.size w w' := by
  have H := Lib.hid (fun w => name_any n hn ln w)
  have HC := Lib.hid (fun w => comp_err v hv hb w)
  rw [h] at H
  unfold mval
  have sv := bs_size v
  have iv : (v.length : Int) ≤ 64 := by omega
  generalize errOf v = E at *
  clear hn h hb
  generalize bs n = bn at *
  generalize bs v = bv1 at *
  go_enter Try.func31, Try.ntmps31
  go_wp2_with fail
  refine (H.out _).mono ?_
  rintro e w1 ⟨rfl, rfl⟩
  go_wp2_with fail
  refine (HC.out _).mono ?_
  rintro e w2 ⟨p, rfl, hk⟩
  have K2 := Lib.hid (below_then ((Below.refl w.heap.size w).alloc (Nat.le_refl _) _) ((Below.refl w.heap.size w).alloc (Nat.le_refl _) _).size hk)
  clear hk
  go_wp2
  go_ret
  exact ⟨rfl, K2.out⟩
end Go.Proofs.Ytnidjfmbbfoheaa
