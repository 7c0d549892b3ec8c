/- WALKS: member's Hear in one contract, Self, Get, Fork, Merge. -/
import Derived.Test.YtnlpgjdgiappcaaMbHear
namespace Go.Proofs.Ytnlpgjdgiappcaa
set_option linter.unusedVariables false
set_option linter.unusedSimpArgs false
open Go.RowKit

/-- Hear, at whatever table and member. -/
theorem hear_any (g : Nat) (z : Int) (f : Pl.Tab) (m : Pl.M) (w : World) (hT : IsT w g z f) (hm : Pl.MOk m) :
    Calls Try.prog 18 #[.pointer (some ⟨g, 0, none⟩), .agg (mcells m)] w fun e w' => e = .returned (heardVal (Pl.hear z f m)) ∧ w.grownBy w' (some g) ∧ IsT w' g z (Pl.heard z f m) := by
  by_cases hmay : Pl.mayM m = true
  · cases ho : f m.n.toNat with
    | none =>
      have e1 : Pl.hear z f m = some (Pl.bump z m) := by simp [Pl.hear, hmay, ho]
      have e2 : Pl.heard z f m = Pl.put f (Pl.bump z m) := by simp [Pl.heard, e1]
      rw [e1, e2]
      exact hear_first g z f m w hT hm hmay ho
    | some o =>
      by_cases ha : Pl.above m o = true
      · have e1 : Pl.hear z f m = some (Pl.bump z m) := by simp [Pl.hear, hmay, ho, ha]
        have e2 : Pl.heard z f m = Pl.put f (Pl.bump z m) := by simp [Pl.heard, e1]
        rw [e1, e2]
        exact hear_above g z f m o w hT hm hmay ho ha
      · have e1 : Pl.hear z f m = none := by simp [Pl.hear, hmay, ho, ha]
        have e2 : Pl.heard z f m = f := by simp [Pl.heard, e1]
        rw [e1, e2]
        exact (hear_old g z f m o w hT hm hmay ho (by simpa using ha)).mono fun e w' ⟨he, hb⟩ => ⟨he, grown_of_below hb _, hT.below hb hT.lt⟩
  · have e1 : Pl.hear z f m = none := by simp [Pl.hear, hmay]
    have e2 : Pl.heard z f m = f := by simp [Pl.heard, e1]
    rw [e1, e2]
    exact (hear_bad g m w hm (by simpa using hmay)).mono fun e w' ⟨he, hb⟩ => ⟨he, grown_of_below hb _, hT.below hb hT.lt⟩

set_option maxRecDepth 100000 in
set_option maxHeartbeats 400000 in
theorem self_any (g : Nat) (z : Int) (f : Pl.Tab) (m : Pl.M) (w : World) (hT : IsT w g z f) (h0 : 0 ≤ z) (h1 : z < 64) (hf : f z.toNat = some m) :
    Calls Try.prog 19 #[.pointer (some ⟨g, 0, none⟩)] w fun e w' => e = .returned (.agg (mcells m)) ∧ Below w.heap.size w w' := by
  obtain ⟨k, rfl⟩ : ∃ k : Nat, z = (k : Int) := ⟨z.toNat, by omega⟩
  rw [Int.toNat_natCast] at hf
  have hlt : k < 64 := by omega
  have hg := hT.lt
  go_enter Try.func19, Try.ntmps19
  go_wp2
  have hB : Below w.heap.size w (w.alloc (.cells #[.int .u16 0, .int .u8 0, .int .i64 0] 25)) := (Below.refl _ _).alloc (Nat.le_refl _) _
  have hT1 := hT.alloc (.cells #[.int .u16 0, .int .u8 0, .int .i64 0] 25)
  have b0 := Blk.new w 25 #[.int .u16 0, .int .u8 0, .int .i64 0]
  generalize w.alloc (.cells #[.int .u16 0, .int .u8 0, .int .i64 0] 25) = W at *
  generalize hr : w.heap.size = r at *
  have q1 := b0.cell 0
  have q2 := b0.cell 1
  have q3 := b0.cell 2
  have q4 := b0.frozen
  simp only [List.getElem?_toArray, List.getElem?_cons_zero, List.getElem?_cons_succ] at q1 q2 q3
  have c0 := hT1.self_
  have e1 := hT1.cell k 1 hlt (by omega)
  have e2 := hT1.cell k 2 hlt (by omega)
  have e3 := hT1.cell k 3 hlt (by omega)
  rw [hf] at e1 e2 e3
  simp only [sc, List.getElem?_cons_zero, List.getElem?_cons_succ, Nat.add_zero] at e1 e2 e3
  have HB := Lib.hid hB
  have HR := Lib.hid hr
  have HF := Lib.hid hf
  clear hT hT1 b0 hB hf hr
  go_still_tail 10, (by kernel_rfl)
  change wpList _ _ _ _ _ (World.drew W)
  go_wp2
  refine bodyPost_ret (v := .agg (mcells m)) (by simp [results, Try.results19, go_sem, q1, q2, q3, mcells]) rfl ⟨rfl, ?_⟩
  rw [HR.out]
  exact ((((HB.out.setCell (Nat.le_refl _) _).setCell (Nat.le_refl _) _).setCell (Nat.le_refl _) _).drew)

/-- What Get hands back. -/
def getVal : Option Pl.M → Value
  | some m => .tuple #[.agg (mcells m), .bool true]
  | none => .tuple #[.agg (mcells mzero), .bool false]

set_option maxRecDepth 100000 in
set_option maxHeartbeats 400000 in
theorem get_far (g : Nat) (n : Int) (w : World) (h : 64 ≤ n) :
    Calls Try.prog 20 #[.pointer (some ⟨g, 0, none⟩), .int .u16 n] w fun e w' => e = .returned (getVal none) ∧ Below w.heap.size w w' := by
  go_enter Try.func20, Try.ntmps20
  go_wp2
  refine bodyPost_ret (v := getVal none) (by simp [results, Try.results20, go_sem, getVal, mcells, mzero]) rfl ⟨rfl, ?_⟩
  first
    | exact (Below.refl _ _).alloc (Nat.le_refl _) _
    | exact (((((Below.refl _ _).alloc (Nat.le_refl _) _).setCell (by simp) _).setCell (by simp) _).setCell (by simp) _)

set_option maxRecDepth 100000 in
set_option maxHeartbeats 400000 in
theorem get_near (g : Nat) (z : Int) (f : Pl.Tab) (k : Nat) (o : Option Pl.M) (w : World) (hT : IsT w g z f) (hlt : k < 64) (hf : f k = o) :
    Calls Try.prog 20 #[.pointer (some ⟨g, 0, none⟩), .int .u16 k] w fun e w' => e = .returned (getVal o) ∧ Below w.heap.size w w' := by
  have hg := hT.lt
  have hge : (0 : Int) ≤ (k : Int) := by omega
  have hlt' : (k : Int) < 64 := by omega
  cases o
  all_goals
    go_enter Try.func20, Try.ntmps20
    go_wp2
    have hB : Below w.heap.size w (w.alloc (.cells #[.int .u16 0, .int .u8 0, .int .i64 0] 25)) := (Below.refl _ _).alloc (Nat.le_refl _) _
    have hT1 := hT.alloc (.cells #[.int .u16 0, .int .u8 0, .int .i64 0] 25)
    have b0 := Blk.new w 25 #[.int .u16 0, .int .u8 0, .int .i64 0]
    generalize w.alloc (.cells #[.int .u16 0, .int .u8 0, .int .i64 0] 25) = W at *
    generalize hr : w.heap.size = r at *
    have q1 := b0.cell 0
    have q2 := b0.cell 1
    have q3 := b0.cell 2
    have q4 := b0.frozen
    simp only [List.getElem?_toArray, List.getElem?_cons_zero, List.getElem?_cons_succ] at q1 q2 q3
    have e0 := hT1.cell k 0 hlt (by omega)
    have e1 := hT1.cell k 1 hlt (by omega)
    have e2 := hT1.cell k 2 hlt (by omega)
    have e3 := hT1.cell k 3 hlt (by omega)
    rw [hf] at e0 e1 e2 e3
    simp only [sc, List.getElem?_cons_zero, List.getElem?_cons_succ, Nat.add_zero] at e0 e1 e2 e3
    have HB := Lib.hid hB
    have HR := Lib.hid hr
    have HF := Lib.hid hf
    clear hT hT1 b0 hB hf hr
    go_region_held3 (fun X => SB r W X) (first | exact keepB (Below.refl r W).drew | exact keepB ((((Below.refl r W).setCell (p := ⟨r, 0, none⟩) (Nat.le_refl _) _).setCell (p := ⟨r, 1, none⟩) (Nat.le_refl _) _).setCell (p := ⟨r, 2, none⟩) (Nat.le_refl _) _).drew) (fail)
    go_wp2
    refine bodyPost_ret (v := getVal _) (by simp [results, Try.results20, go_sem, q1, q2, q3, getVal, mcells, mzero]; first | done | rfl) rfl ⟨rfl, ?_⟩
    rw [HR.out]
    exact ((((HB.out.setCell (Nat.le_refl _) _).setCell (Nat.le_refl _) _).setCell (Nat.le_refl _) _).drew)

end Go.Proofs.Ytnlpgjdgiappcaa
