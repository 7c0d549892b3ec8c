/- WALKS: member.may, Above, New: what each computes. -/
import Derived.Test.YtnlpgjdgiappcaaMbWords
namespace Go.Proofs.Ytnlpgjdgiappcaa
set_option linter.unusedVariables false
set_option linter.unusedSimpArgs false
open Go.RowKit

set_option maxHeartbeats 400000 in
theorem may_any (m : Pl.M) (w : World) (hm : Pl.MOk m) :
    Calls Try.prog 43 #[.agg (mcells m)] w fun e w' => e = .returned (.bool (Pl.mayM m)) ∧ Below w.heap.size w w' := by
  obtain ⟨n, s, i⟩ := m
  obtain ⟨n0, n1, s0, s1, i0, i1⟩ := hm
  simp only at n0 n1 s0 s1 i0 i1
  unfold mcells
  go_enter Try.func43, Try.ntmps43
  go_wp2
  all_goals
    go_ret
    refine ⟨ret_bool ?_, (Below.refl _ _).alloc (Nat.le_refl _) _⟩
    simp [Pl.mayM]
    try omega

set_option maxHeartbeats 400000 in
theorem above_any (a b : Pl.M) (w : World) :
    Calls Try.prog 21 #[.agg (mcells a), .agg (mcells b)] w fun e w' => e = .returned (.bool (Pl.above a b)) ∧ Below w.heap.size w w' := by
  unfold mcells
  go_enter Try.func21, Try.ntmps21
  go_wp2
  all_goals
    go_ret
    refine ⟨ret_bool ?_, ((Below.refl _ _).alloc (Nat.le_refl _) _).alloc (by simp) _⟩
    simp_all [Pl.above]

set_option maxRecDepth 100000 in
set_option maxHeartbeats 400000 in
theorem new_any (s : Int) (w : World) (h0 : 0 ≤ s) (h1 : s ≤ 65535) :
    Calls Try.prog 17 #[.int .u16 s] w fun e w' => ∃ g, e = .returned (.pointer (some ⟨g, 0, none⟩)) ∧ Below w.heap.size w w' ∧ w.heap.size ≤ g ∧ IsT w' g (s % 64) (Pl.newT (s % 64)) := by
  obtain ⟨k, hk, hk2⟩ : ∃ k : Nat, s % 64 = (k : Int) ∧ k < 64 := ⟨(s % 64).toNat, by omega, by omega⟩
  go_enter Try.func17, Try.ntmps17
  go_wp2
  rw [hk, zero_cells]
  have hT : IsT (w.alloc (.cells (tcells (k : Int) (fun _ => none)) 98)) w.heap.size k (fun _ => none) := Blk.new w 98 _
  have hB : Below w.heap.size w (w.alloc (.cells (tcells (k : Int) (fun _ => none)) 98)) := (Below.refl _ _).alloc (Nat.le_refl _) _
  generalize w.alloc (.cells (tcells (k : Int) (fun _ => none)) 98) = W at *
  generalize hg : w.heap.size = g at *
  have c0 := hT.self_
  have d0 := hT.cell k 0 hk2 (by omega)
  have d1 := hT.cell k 1 hk2 (by omega)
  have d2 := hT.cell k 2 hk2 (by omega)
  have d3 := hT.cell k 3 hk2 (by omega)
  have f0 := hT.frozen
  simp only [sc, List.getElem?_cons_zero, List.getElem?_cons_succ, Nat.add_zero] at d0 d1 d2 d3
  have hlt : (k : Int) < 64 := by omega
  have hge : (0 : Int) ≤ (k : Int) := by omega
  have HT := Lib.hid hT
  have HB := Lib.hid hB
  have HG := Lib.hid hg
  have HK := Lib.hid hk
  clear hT hB hg hk
  go_still_tail 14, (by kernel_rfl)
  change wpList _ _ _ _ _ W.drew
  go_wp2
  go_ret
  refine ⟨g, rfl, ?_, ?_, ?_⟩
  · rw [HG.out]
    exact ((((HB.out.setCell (p := ⟨g, _, none⟩) (Nat.le_refl _) _).setCell (p := ⟨g, _, none⟩) (Nat.le_refl _) _).setCell (p := ⟨g, _, none⟩) (Nat.le_refl _) _).setCell (p := ⟨g, _, none⟩) (Nat.le_refl _) _).drew
  · rw [HG.out]; exact Nat.le_refl _
  · rw [HK.out]
    have h := HT.out.set_ k hk2 (some ⟨k, 0, 0⟩) _ _ _ _ rfl
    have e : at_ (fun _ => none) k (some ⟨k, 0, 0⟩) = Pl.newT (k : Int) := by funext j; simp [at_, Pl.newT]
    rw [e] at h
    exact h

end Go.Proofs.Ytnlpgjdgiappcaa
