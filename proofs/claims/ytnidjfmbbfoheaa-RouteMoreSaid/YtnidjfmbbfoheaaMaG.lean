/- WALKS: match.Text, awake of match. -/
import Derived.Test.YtnidjfmbbfoheaaMaF
namespace Go.Proofs.Ytnidjfmbbfoheaa
set_option linter.unusedVariables false
set_option linter.unusedSimpArgs false
open Go.RowKit

def signB (op : Int) : List Nat := if op = 0 then [61] else if op = 1 then [33, 61] else if op = 2 then [61, 126] else if op = 3 then [33, 126] else []
set_option maxRecDepth 100000 in
theorem sign_any (op : Int) (w : World) : Calls Try.prog 73 #[.int .u8 op] w fun e w' => e = .returned (.string (bs (signB op))) ∧ w' = w := by
  unfold signB
  by_cases h0 : op = 0
  · subst h0
    go_enter Try.func73, Try.ntmps73
    go_wp2
    go_ret
    exact ⟨rfl, rfl⟩
  · rw [if_neg h0]
    by_cases h1 : op = 1
    · subst h1
      go_enter Try.func73, Try.ntmps73
      go_wp2
      go_ret
      exact ⟨rfl, rfl⟩
    · rw [if_neg h1]
      by_cases h2 : op = 2
      · subst h2
        go_enter Try.func73, Try.ntmps73
        go_wp2
        go_ret
        exact ⟨rfl, rfl⟩
      · rw [if_neg h2]
        by_cases h3 : op = 3
        · subst h3
          go_enter Try.func73, Try.ntmps73
          go_wp2
          go_ret
          exact ⟨rfl, rfl⟩
        · rw [if_neg h3]
          have n0 : (op == 0) = false := by rw [Bool.eq_false_iff]; simpa using h0
          have n1 : (op == 1) = false := by rw [Bool.eq_false_iff]; simpa using h1
          have n2 : (op == 2) = false := by rw [Bool.eq_false_iff]; simpa using h2
          have n3 : (op == 3) = false := by rw [Bool.eq_false_iff]; simpa using h3
          go_enter Try.func73, Try.ntmps73
          go_wp2
          go_ret
          exact ⟨rfl, rfl⟩
def textB (m : Mt) : List Nat := m.n ++ signB m.op ++ m.v
theorem signB_len (op : Int) : (signB op).length ≤ 2 := by
  unfold signB
  repeat' split
  all_goals decide
set_option maxRecDepth 100000 in
theorem text_any (m : Mt) (h1 : m.n.length ≤ 1000000000) (h2 : m.v.length ≤ 1000000000) (w : World) : Calls Try.prog 44 #[m.val] w fun e w' => e = .returned (.string (bs (textB m))) ∧ Below w.heap.size w w' := by
  have e : bs (textB m) = bs m.n ++ bs (signB m.op) ++ bs m.v := by unfold textB; rw [bs_app, bs_app]
  rw [e]
  have H := Lib.hid (fun w => sign_any m.op w)
  have z1 := bs_size m.n
  have z2 := bs_size m.v
  have z3 := bs_size (signB m.op)
  have z4 := signB_len m.op
  have K1 := Lib.hid ((Below.refl w.heap.size w).alloc (Nat.le_refl _) (.cells #[.string (bs m.n), .int .u8 m.op, .string (bs m.v)] 37))
  unfold Mt.val mval at *
  generalize bs m.n = mn at *
  generalize bs m.v = mv at *
  generalize bs (signB m.op) = sv at *
  generalize m.op = mo at *
  go_enter Try.func44, Try.ntmps44
  go_wp2
  go_quiet ((go_at_call 73; exact Calls.quiet_of_same (H.out _)))
  go_wp2
  go_ret
  exact ⟨rfl, below_drewN K1.out _⟩

/-! ### awake -/
def wl : List Pr := [⟨[97], [49]⟩]
def wm1 : Mt := ⟨[97], [49, 124, 50], 2⟩
def wm2 : Mt := ⟨[98], [49], 1⟩
def wm3 : Mt := ⟨[97], [46], 3⟩
def wm4 : Mt := ⟨[97], [120], 3⟩
def wm5 : Mt := ⟨[97], [40], 2⟩
theorem ok1 : oneB wm1 wl = true := by decide +kernel
theorem ok2 : oneB wm2 wl = true := by decide +kernel
theorem ok3 : oneB wm3 wl = false := by decide +kernel
theorem ok5 : checkB wm5 = 9 := by decide +kernel
theorem wlOk : ∀ p ∈ wl, p.Ok := by intro p hp; simp only [wl, List.mem_singleton] at hp; subst hp; exact ⟨by decide, by decide, by decide, by decide⟩
theorem wlv : ∀ p ∈ wl, p.v.length ≤ 1000000000 := by intro p hp; simp only [wl, List.mem_singleton] at hp; subst hp; decide
theorem wl_reads {w w' : World} (hb : Below (w.heap.size + 1) (w.alloc (.cells #[.string ⟨#[97]⟩, .string ⟨#[49]⟩] 43)) w') : ReadsP w' (fun b => b < w'.heap.size) (some ⟨w.heap.size, 0, none⟩) wl := by
  have hB := (Blk.new w 43 #[.string ⟨#[97]⟩, .string ⟨#[49]⟩]).below hb (by omega)
  exact ⟨rfl, fun _ => ⟨_, 0, rfl, hB.lt, fun j u hu => by
    rw [Nat.zero_add, hB.cell j]
    rw [show prs wl = [.string ⟨#[97]⟩, .string ⟨#[49]⟩] from rfl] at hu
    simpa using hu⟩⟩
set_option maxRecDepth 100000 in
set_option maxHeartbeats 2000000 in
theorem awake4 (w : World) : Calls Try.prog 30 #[] w fun e w' => e = .returned (.bool true) ∧ Below w.heap.size w w' := by
  have b0 : Below w.heap.size w (w.alloc (.cells #[.string ⟨#[97]⟩, .string ⟨#[49]⟩] 43)) := (Below.refl w.heap.size w).alloc (Nat.le_refl _) _
  have s0 : (w.alloc (.cells #[.string ⟨#[97]⟩, .string ⟨#[49]⟩] 43)).heap.size = w.heap.size + 1 := by simp
  have B0 := Lib.hid b0
  have L0 := Lib.hid (show Below (w.heap.size + 1) (w.alloc (.cells #[.string ⟨#[97]⟩, .string ⟨#[49]⟩] 43)) (w.alloc (.cells #[.string ⟨#[97]⟩, .string ⟨#[49]⟩] 43)) from Below.refl _ _)
  have H1 : Hid (∀ w', Below (w.heap.size + 1) (w.alloc (.cells #[.string ⟨#[97]⟩, .string ⟨#[49]⟩] 43)) w' → Calls Try.prog 32 #[.agg #[.string ⟨#[97]⟩, .int .u8 2, .string ⟨#[49, 124, 50]⟩], .slice (some ⟨w.heap.size, 0, none⟩) 1 1] w' fun e w2 => e = .returned (.bool true) ∧ Below w'.heap.size w' w2) :=
    Lib.hid (fun w' hb => by have := mone_any (some ⟨w.heap.size, 0, none⟩) 1 wl wm1 w' ⟨by decide, by decide, by decide, by decide, by decide, by decide⟩ (by decide) (wl_reads hb) wlOk wlv; rw [ok1] at this; exact this)
  have H2 : Hid (∀ w', Below (w.heap.size + 1) (w.alloc (.cells #[.string ⟨#[97]⟩, .string ⟨#[49]⟩] 43)) w' → Calls Try.prog 32 #[.agg #[.string ⟨#[98]⟩, .int .u8 1, .string ⟨#[49]⟩], .slice (some ⟨w.heap.size, 0, none⟩) 1 1] w' fun e w2 => e = .returned (.bool true) ∧ Below w'.heap.size w' w2) :=
    Lib.hid (fun w' hb => by have := mone_any (some ⟨w.heap.size, 0, none⟩) 1 wl wm2 w' ⟨by decide, by decide, by decide, by decide, by decide, by decide⟩ (by decide) (wl_reads hb) wlOk wlv; rw [ok2] at this; exact this)
  have H3 : Hid (∀ w', Below (w.heap.size + 1) (w.alloc (.cells #[.string ⟨#[97]⟩, .string ⟨#[49]⟩] 43)) w' → Calls Try.prog 32 #[.agg #[.string ⟨#[97]⟩, .int .u8 3, .string ⟨#[46]⟩], .slice (some ⟨w.heap.size, 0, none⟩) 1 1] w' fun e w2 => e = .returned (.bool false) ∧ Below w'.heap.size w' w2) :=
    Lib.hid (fun w' hb => by have := mone_any (some ⟨w.heap.size, 0, none⟩) 1 wl wm3 w' ⟨by decide, by decide, by decide, by decide, by decide, by decide⟩ (by decide) (wl_reads hb) wlOk wlv; rw [ok3] at this; exact this)
  have H4 : Hid (∀ w', Calls Try.prog 44 #[.agg #[.string ⟨#[97]⟩, .int .u8 3, .string ⟨#[120]⟩]] w' fun e w2 => e = .returned (.string ⟨#[97, 33, 126, 120]⟩) ∧ Below w'.heap.size w' w2) :=
    Lib.hid (fun w' => text_any wm4 (by decide) (by decide) w')
  have H5 : Hid (∀ w', Calls Try.prog 31 #[.agg #[.string ⟨#[97]⟩, .int .u8 2, .string ⟨#[40]⟩]] w' fun e w2 => e = .returned (.int .i64 9) ∧ Below w'.heap.size w' w2) :=
    Lib.hid (fun w' => by have := check_any wm5 ⟨by decide, by decide, by decide, by decide, by decide, by decide⟩ w'; rw [ok5] at this; exact this)
  clear b0
  go_enter Try.func30, Try.ntmps30
  go_wp2_with fail
  refine (H1.out _ L0.out).mono ?_
  rintro e w1 ⟨rfl, hk⟩
  have L1 := Lib.hid (L0.out.trans (hk.mono (by rw [s0]; exact Nat.le_refl _)))
  clear hk
  go_wp2_with fail
  refine (H2.out _ L1.out).mono ?_
  rintro e w2 ⟨rfl, hk⟩
  have L2 := Lib.hid (below_then L1.out (by have := L1.out.size; omega) hk)
  clear hk
  go_wp2_with fail
  refine (H3.out _ L2.out).mono ?_
  rintro e w3 ⟨rfl, hk⟩
  have L3 := Lib.hid (below_then L2.out (by have := L2.out.size; omega) hk)
  clear hk
  go_wp2_with fail
  refine (H4.out _).mono ?_
  rintro e w4 ⟨rfl, hk⟩
  have L4 := Lib.hid (below_then L3.out (by have := L3.out.size; omega) hk)
  clear hk
  go_wp2_with fail
  refine (H5.out _).mono ?_
  rintro e w5 ⟨rfl, hk⟩
  have L5 := Lib.hid (below_then L4.out (by have := L4.out.size; omega) hk)
  clear hk
  go_wp2
  go_ret
  exact ⟨rfl, B0.out.trans (L5.out.mono (by omega))⟩
end Go.Proofs.Ytnidjfmbbfoheaa
