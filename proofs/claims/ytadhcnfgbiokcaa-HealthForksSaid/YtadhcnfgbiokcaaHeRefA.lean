/- WALKS: the document's health (watchfireref34): find, Bump, Wait, ends. -/
import Derived.Test.YtadhcnfgbiokcaaHeRefW
namespace Go.Proofs.Ytadhcnfgbiokcaa
set_option linter.unusedVariables false
set_option linter.unusedSimpArgs false
open Go.RowKit
set_option maxRecDepth 100000 in
set_option maxHeartbeats 1000000 in
theorem rfind_any (r : Rs) (n : Int) (A : Option Addr) (c : Nat) (L : List Em) (w : World) (hR : ReadsE w (fun _ => True) A L) (hlen : L.length ≤ 64) :
    Calls Try.prog 34 #[hval r A L.length c, .int .u16 n] w fun e w' => e = .returned (findVal (findE L n)) ∧ Below w.heap.size w w' := by
  obtain ⟨me, mn, mx, cf, sc, rl⟩ := r
  unfold hval
  simp only
  go_enter Try.func34, Try.ntmps34
  go_wp2
  have hb0 := (Blk.new w 53 #[.int .u16 me, .int .i64 mn, .int .i64 mx, .int .i64 cf, .int .i64 sc, .slice A L.length c]).alloc (.cells #[.int .u16 0, .int .i64 0, .int .i64 0, .slice none 0 0] 82)
  have hb1 := Blk.new (w.alloc (.cells #[.int .u16 me, .int .i64 mn, .int .i64 mx, .int .i64 cf, .int .i64 sc, .slice A L.length c] 53)) 82 #[.int .u16 0, .int .i64 0, .int .i64 0, .slice none 0 0]
  have hb : Below w.heap.size w ((w.alloc (.cells #[.int .u16 me, .int .i64 mn, .int .i64 mx, .int .i64 cf, .int .i64 sc, .slice A L.length c] 53)).alloc (.cells #[.int .u16 0, .int .i64 0, .int .i64 0, .slice none 0 0] 82)) :=
    ((Below.refl _ _).alloc (Nat.le_refl _) _).alloc (by simp) _
  have hs1 : (w.alloc (.cells #[.int .u16 me, .int .i64 mn, .int .i64 mx, .int .i64 cf, .int .i64 sc, .slice A L.length c] 53)).heap.size = w.heap.size + 1 := by simp
  rw [hs1] at hb1
  have hR1 : ReadsE ((w.alloc (.cells #[.int .u16 me, .int .i64 mn, .int .i64 mx, .int .i64 cf, .int .i64 sc, .slice A L.length c] 53)).alloc (.cells #[.int .u16 0, .int .i64 0, .int .i64 0, .slice none 0 0] 82)) (fun _ => True) A L := hR.below (by omega) hb
  generalize ((w.alloc (.cells #[.int .u16 me, .int .i64 mn, .int .i64 mx, .int .i64 cf, .int .i64 sc, .slice A L.length c] 53)).alloc (.cells #[.int .u16 0, .int .i64 0, .int .i64 0, .slice none 0 0] 82)) = W at *
  have f1 := hb1.frozen
  have q5 := hb0.cell 5
  have r0 := hb1.cell 0
  have r1 := hb1.cell 1
  have r2 := hb1.cell 2
  have r3 := hb1.cell 3
  simp only [List.getElem?_toArray, List.getElem?_cons_zero, List.getElem?_cons_succ] at q5 r0 r1 r2 r3
  generalize hw : w.heap.size = b0 at *
  have B1 := Lib.hid hb1
  have HB := Lib.hid hb
  have RR := Lib.hid hR1
  have HW := Lib.hid hw
  clear hb0 hb1 hb hs1 hR hR1 hw
  go_loopw [6] (fun i wr => ∃ k : Nat, k ≤ L.length ∧ i = .int .i64 k ∧ findE (L.take k) n = none ∧ wr = W) (fun i _ => L.length - (intOf i).toNat)
  case atStart => exact ⟨0, Nat.zero_le _, rfl, by simp [findE], rfl⟩
  case round =>
    obtain ⟨k, hk, rfl, hf, rfl⟩ := hrel
    by_cases hlt : k < L.length
    · obtain ⟨x, hx⟩ : ∃ x, L[k]? = some x := ⟨L[k], List.getElem?_eq_getElem hlt⟩
      obtain ⟨p, o, rfl, -, d0, d1, d2, d3⟩ := RR.out.at_ k x hx
      have HF := Lib.hid hf
      have HX := Lib.hid hx
      clear hf hx
      by_cases hn : x.e.n = n
      · have t0 : (x.e.n == n) = true := by simpa using hn
        have HFS := Lib.hid (find_some L n k x HF.out HX.out hn)
        clear hn
        go_wp2
        have bz := Blk.four B1.out (.int .u16 x.e.n) (.int .i64 x.e.i) (.int .i64 x.e.f) (.slice x.A x.e.who.length x.c)
        have z0 := bz.cell 0
        have z1 := bz.cell 1
        have z2 := bz.cell 2
        have z3 := bz.cell 3
        simp only [List.getElem?_toArray, List.getElem?_cons_zero, List.getElem?_cons_succ] at z0 z1 z2 z3
        refine bodyPost_ret (v := findVal (findE L n)) (by rw [HFS.out]; simp [results, Try.results34, go_sem, z0, z1, z2, z3, findVal, em4]) rfl ⟨rfl, ?_⟩
        rw [HW.out]
        exact below_four HB.out (by omega) _ _ _ _
      · have t0 : (x.e.n == n) = false := by simpa using hn
        have HFN := Lib.hid (find_none L n k x HF.out HX.out hn)
        clear hn
        go_wp2
        go_roundw
        case rel => exact ⟨k + 1, by omega, by go_num, HFN.out, trivial⟩
        case measure => simp [intOf]; omega
    · obtain rfl : k = L.length := by omega
      rw [List.take_length] at hf
      have HF := Lib.hid hf
      clear hf
      go_wp2
      have bz := Blk.four B1.out (.int .u16 0) (.int .i64 0) (.int .i64 0) (.slice none 0 0)
      have z0 := bz.cell 0
      have z1 := bz.cell 1
      have z2 := bz.cell 2
      have z3 := bz.cell 3
      simp only [List.getElem?_toArray, List.getElem?_cons_zero, List.getElem?_cons_succ] at z0 z1 z2 z3
      refine bodyPost_ret (v := findVal (findE L n)) (by rw [HF.out]; simp [results, Try.results34, go_sem, z0, z1, z2, z3, findVal]) rfl ⟨rfl, ?_⟩
      rw [HW.out]
      exact below_four HB.out (by omega) _ _ _ _

set_option maxRecDepth 100000 in
set_option maxHeartbeats 1000000 in
theorem rwait_any (r : Rs) (b : Int) (A : Option Addr) (n c : Nat) (w : World) (hs : 0 ≤ r.sc ∧ r.sc ≤ 8) :
    Calls Try.prog 31 #[hval r A n c, .int .i64 b] w fun e w' => e = .returned (.int .i64 (if 0 ≤ b ∧ b ≤ 1099511627776 then b * (r.sc + 1) else 0)) ∧ Below w.heap.size w w' := by
  obtain ⟨me, mn, mx, cf, sc, rl⟩ := r
  unfold hval
  simp only at hs ⊢
  obtain ⟨s0, s1⟩ := hs
  have hm : sc = 0 ∨ sc = 1 ∨ sc = 2 ∨ sc = 3 ∨ sc = 4 ∨ sc = 5 ∨ sc = 6 ∨ sc = 7 ∨ sc = 8 := by omega
  by_cases h0 : 0 ≤ b
  · by_cases h1 : b ≤ 1099511627776
    · have h := And.intro h0 h1
      rcases hm with rfl | rfl | rfl | rfl | rfl | rfl | rfl | rfl | rfl
      all_goals
        go_enter Try.func31, Try.ntmps31
        go_wp2
        go_ret
        exact ⟨by first | rfl | (rw [if_pos h]; rfl) | (rw [if_pos h]; simp), (Below.refl _ _).alloc (Nat.le_refl _) _⟩
    · have h : ¬ (0 ≤ b ∧ b ≤ 1099511627776) := fun q => h1 q.2
      go_enter Try.func31, Try.ntmps31
      go_wp2
      go_ret
      exact ⟨by first | rfl | (rw [if_neg h]; rfl), (Below.refl _ _).alloc (Nat.le_refl _) _⟩
  · have h : ¬ (0 ≤ b ∧ b ≤ 1099511627776) := fun q => h0 q.1
    go_enter Try.func31, Try.ntmps31
    go_wp2
    go_ret
    exact ⟨by first | rfl | (rw [if_neg h]; rfl), (Below.refl _ _).alloc (Nat.le_refl _) _⟩
end Go.Proofs.Ytadhcnfgbiokcaa
