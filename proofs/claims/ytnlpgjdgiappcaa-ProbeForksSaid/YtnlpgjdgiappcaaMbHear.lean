/- WALK: member.Hear. -/
import Derived.Test.YtnlpgjdgiappcaaMbWalk1
namespace Go.Proofs.Ytnlpgjdgiappcaa
set_option linter.unusedVariables false
set_option linter.unusedSimpArgs false
open Go.RowKit

/-- What Hear hands back. -/
def heardVal : Option Pl.M → Value
  | some m => .tuple #[.agg (mcells m), .bool true]
  | none => .tuple #[.agg (mcells mzero), .bool false]



theorem below3 {w w1 : World} {o1 o2 : Obj} (hb : Below ((w.alloc o1).alloc o2).heap.size ((w.alloc o1).alloc o2) w1) : Below w.heap.size w w1 :=
  (((Below.refl _ _).alloc (Nat.le_refl _) _).alloc (by simp) _).trans (hb.mono (by simp; omega))

set_option maxHeartbeats 400000 in
theorem hear_bad (g : Nat) (m : Pl.M) (w : World) (hm : Pl.MOk m) (hno : Pl.mayM m = false) :
    Calls Try.prog 18 #[.pointer (some ⟨g, 0, none⟩), .agg (mcells m)] w fun e w' => e = .returned (heardVal none) ∧ Below w.heap.size w w' := by
  have HM := Lib.hid hno
  clear hno
  unfold mcells
  go_enter Try.func18, Try.ntmps18
  go_wp2_with (go_at_call 43; refine (may_any m _ hm).mono ?_; rw [HM.out]; rintro e w' ⟨rfl, hb⟩; obtain ⟨hc, hf⟩ := bcell hb)
  refine bodyPost_ret (v := heardVal none) (by simp [results, Try.results18, go_sem, hc, heardVal, mcells, mzero]) rfl ⟨rfl, ?_⟩
  have hB := below3 hb
  exact ((hB.setCell (by simp) _).setCell (by simp) _).setCell (by simp) _

set_option maxRecDepth 100000 in
set_option maxHeartbeats 1000000 in
theorem hear_old (g : Nat) (z : Int) (f : Pl.Tab) (m o : Pl.M) (w : World) (hT : IsT w g z f) (hm : Pl.MOk m) (hyes : Pl.mayM m = true) (ho : f m.n.toNat = some o) (hno : Pl.above m o = false) :
    Calls Try.prog 18 #[.pointer (some ⟨g, 0, none⟩), .agg (mcells m)] w fun e w' => e = .returned (heardVal none) ∧ Below w.heap.size w w' := by
  obtain ⟨hn, -⟩ := Pl.mayM_iff.1 hyes
  obtain ⟨n, s, i⟩ := m
  obtain ⟨k, rfl⟩ : ∃ k : Nat, n = (k : Int) := ⟨n.toNat, by have := hm.n0; simp at this ⊢; omega⟩
  simp only [Int.toNat_natCast] at ho hn
  have hlt : k < 64 := by omega
  have hg := hT.lt
  have d0 := hT.cell k 0 hlt (by omega)
  have d1 := hT.cell k 1 hlt (by omega)
  have d2 := hT.cell k 2 hlt (by omega)
  have d3 := hT.cell k 3 hlt (by omega)
  rw [ho] at d0 d1 d2 d3
  simp only [sc, List.getElem?_cons_zero, List.getElem?_cons_succ, Nat.add_zero] at d0 d1 d2 d3
  have hge : (0 : Int) ≤ (k : Int) := by omega
  have HM := Lib.hid hyes
  have HA := Lib.hid hno
  have HO := Lib.hid ho
  clear hno hyes ho
  unfold mcells
  go_enter Try.func18, Try.ntmps18
  go_wp2_with (go_at_call 43; refine (may_any ⟨k, s, i⟩ _ hm).mono ?_; rw [HM.out]; rintro e w' ⟨rfl, hb⟩; obtain ⟨hc, hf⟩ := bcell hb)
  go_quiet (fail)
  go_wp2_with fail
  have hB := below3 hb
  have b1 : Blk w' w.heap.size 25 #[.int .u16 k, .int .u8 s, .int .i64 i] := ((Blk.new w 25 _).alloc _).below hb (by simp; omega)
  have g1 := b1.cell 0
  have g2 := b1.cell 1
  have g3 := b1.cell 2
  simp only [List.getElem?_toArray, List.getElem?_cons_zero, List.getElem?_cons_succ] at g1 g2 g3
  have hT' := hT.below hB hg
  have e0 := hT'.cell k 0 hlt (by omega)
  have e1 := hT'.cell k 1 hlt (by omega)
  have e2 := hT'.cell k 2 hlt (by omega)
  have e3 := hT'.cell k 3 hlt (by omega)
  rw [HO.out] at e0 e1 e2 e3
  simp only [sc, List.getElem?_cons_zero, List.getElem?_cons_succ, Nat.add_zero] at e0 e1 e2 e3
  clear hT' d0 d1 d2 d3
  have b0 : Blk w' (w.heap.size + 1) 25 #[.int .u16 0, .int .u8 0, .int .i64 0] := by
    have h := Blk.new (w.alloc (.cells #[.int .u16 k, .int .u8 s, .int .i64 i] 25)) 25 #[.int .u16 0, .int .u8 0, .int .i64 0]
    rw [World.size_alloc] at h
    exact h.below hb (by simp)
  have q1 := b0.cell 0
  have q2 := b0.cell 1
  have q3 := b0.cell 2
  have q4 := b0.frozen
  simp only [List.getElem?_toArray, List.getElem?_cons_zero, List.getElem?_cons_succ] at q1 q2 q3
  obtain ⟨B, hBs⟩ : ∃ B, B = w'.heap.size := ⟨_, rfl⟩
  have k1 : g < B := by rw [hBs]; exact Nat.lt_of_lt_of_le hg hB.size
  have k2 : w.heap.size < B := by rw [hBs]; exact b1.lt
  have k3 : w.heap.size + 1 < B := by rw [hBs]; exact b0.lt
  have k4 : B ≤ w'.heap.size := Nat.le_of_eq hBs
  have k5 : w.heap.size ≤ B := Nat.le_of_lt k2
  clear hBs hc hf
  go_region_held3 (fun W => SB B w' W) (first | exact keepB ((below_drewN (Below.refl B w') nq).drew) | exact keepB (below_then (below_drewN (Below.refl B w') _) k4 hb2))
    (first | (go_at_call 21; refine (above_any ⟨k, s, i⟩ o _).mono ?_; rw [HA.out]; rintro e w2 ⟨rfl, hb2⟩))
  obtain ⟨hc2, hf2, hB2⟩ := ‹SB B w' w2›
  have HB := Lib.hid (hB.trans (hB2.mono k5))
  clear hB hB2 hb2 hb b1 b0 hT
  go_wp2
  refine bodyPost_ret (v := heardVal none) (by simp [results, Try.results18, go_sem, hc2, k3, q1, q2, q3, heardVal, mcells, mzero]) rfl ⟨rfl, ?_⟩
  exact ((HB.out.setCell (by simp) _).setCell (by simp) _).setCell (by simp) _

/-- The four ways in which a member that is taken is told. -/
theorem bump_ways (z : Int) (k s i : Int) :
    ((k == z) = false ∧ Pl.bump z ⟨k, s, i⟩ = ⟨k, s, i⟩) ∨ ((k == z) = true ∧ (s != 0) = false ∧ Pl.bump z ⟨k, s, i⟩ = ⟨k, s, i⟩) ∨
    ((k == z) = true ∧ (s != 0) = true ∧ decide (i < 1073741824) = false ∧ Pl.bump z ⟨k, s, i⟩ = ⟨k, s, i⟩) ∨
    ((k == z) = true ∧ (s != 0) = true ∧ decide (i < 1073741824) = true ∧ Pl.bump z ⟨k, s, i⟩ = ⟨k, 0, i + 1⟩) := by
  by_cases h1 : k = z
  · by_cases h2 : s = 0
    · exact .inr (.inl ⟨by simpa using h1, by simpa using h2, by simp [Pl.bump, h2]⟩)
    · by_cases h3 : i < 1073741824
      · exact .inr (.inr (.inr ⟨by simpa using h1, by simpa using h2, by simpa using h3, by simp [Pl.bump, h1, h2, h3]⟩))
      · exact .inr (.inr (.inl ⟨by simpa using h1, by simpa using h2, by simpa using h3, by simp [Pl.bump, h3]⟩))
  · exact .inl ⟨by simpa using h1, by simp [Pl.bump, h1]⟩

set_option maxRecDepth 100000 in
set_option maxHeartbeats 2000000 in
theorem hear_first (g : Nat) (z : Int) (f : Pl.Tab) (m : Pl.M) (w : World) (hT : IsT w g z f) (hm : Pl.MOk m) (hyes : Pl.mayM m = true) (ho : f m.n.toNat = none) :
    Calls Try.prog 18 #[.pointer (some ⟨g, 0, none⟩), .agg (mcells m)] w fun e w' => e = .returned (heardVal (some (Pl.bump z m))) ∧ w.grownBy w' (some g) ∧ IsT w' g z (Pl.put f (Pl.bump z m)) := by
  obtain ⟨hn, hs2, hi0, hi1⟩ := Pl.mayM_iff.1 hyes
  obtain ⟨n, s, i⟩ := m
  obtain ⟨k, rfl⟩ : ∃ k : Nat, n = (k : Int) := ⟨n.toNat, by have := hm.n0; simp at this ⊢; omega⟩
  simp only [Int.toNat_natCast] at ho hn hs2 hi0 hi1
  have hs0 := hm.s0
  simp only at hs0
  have hlt : k < 64 := by omega
  have hg := hT.lt
  have hge : (0 : Int) ≤ (k : Int) := by omega
  have HM := Lib.hid hyes
  have HO := Lib.hid ho
  clear hyes ho
  rcases bump_ways z k s i with ⟨t1, hb⟩ | ⟨t1, t2, hb⟩ | ⟨t1, t2, t3, hb⟩ | ⟨t1, t2, t3, hb⟩
  all_goals
    rw [hb]
    clear hb
    unfold mcells
    go_enter Try.func18, Try.ntmps18
    go_wp2_with (go_at_call 43; refine (may_any ⟨k, s, i⟩ _ hm).mono ?_; rw [HM.out]; rintro e w' ⟨rfl, hb⟩; obtain ⟨hc, hf⟩ := bcell hb)
    go_quiet (fail)
    go_wp2_with fail
    have hB := below3 hb
    have b1 : Blk w' w.heap.size 25 #[.int .u16 k, .int .u8 s, .int .i64 i] := ((Blk.new w 25 _).alloc _).below hb (by simp; omega)
    have b0 : Blk w' (w.heap.size + 1) 25 #[.int .u16 0, .int .u8 0, .int .i64 0] := by
      have h := Blk.new (w.alloc (.cells #[.int .u16 k, .int .u8 s, .int .i64 i] 25)) 25 #[.int .u16 0, .int .u8 0, .int .i64 0]
      rw [World.size_alloc] at h
      exact h.below hb (by simp)
    have hT' := hT.below hB hg
    have g1 := b1.cell 0
    have g2 := b1.cell 1
    have g3 := b1.cell 2
    have g4 := b1.frozen
    have q1 := b0.cell 0
    have q2 := b0.cell 1
    have q3 := b0.cell 2
    have q4 := b0.frozen
    simp only [List.getElem?_toArray, List.getElem?_cons_zero, List.getElem?_cons_succ] at g1 g2 g3 q1 q2 q3
    have c0 := hT'.self_
    have e0 := hT'.cell k 0 hlt (by omega)
    have e1 := hT'.cell k 1 hlt (by omega)
    have e2 := hT'.cell k 2 hlt (by omega)
    have e3 := hT'.cell k 3 hlt (by omega)
    have f0 := hT'.frozen
    rw [HO.out] at e0 e1 e2 e3
    simp only [sc, List.getElem?_cons_zero, List.getElem?_cons_succ, Nat.add_zero] at e0 e1 e2 e3
    have HT := Lib.hid hT'
    have HB := Lib.hid hB
    have n1 : w.heap.size ≠ g := by omega
    have n2 : w.heap.size + 1 ≠ g := by omega
    clear hT' hb b1 b0 hB hc hf hT
    go_quiet (fail)
    go_wp2_with fail
    go_quiet (fail)
    go_wp2
    refine bodyPost_ret (v := heardVal (some _)) (by simp [results, Try.results18, go_sem, q1, q2, q3, n1, n2, heardVal, mcells]) rfl ⟨rfl, ?_, ?_⟩
    · show World.grownBy w _ (some g)
      repeat (first | refine grown_setCell ?_ (by first | exact .inl rfl | exact .inr (by simp)) _ | refine grown_drewN ?_ _ | refine grown_drew ?_)
      exact grown_of_below HB.out _
    · rw [put_at]
      simp only [Int.toNat_natCast]
      refine IsT.far (IsT.far (IsT.far ?_ n2 _) n2 _) n2 _
      refine IsT.set_ ?_ k hlt _ _ _ _ _ rfl
      first | exact HT.out.drewN _ | exact ((HT.out.drewN _).far n1 _).far n1 _

set_option maxRecDepth 100000 in
set_option maxHeartbeats 2000000 in
theorem hear_above (g : Nat) (z : Int) (f : Pl.Tab) (m o : Pl.M) (w : World) (hT : IsT w g z f) (hm : Pl.MOk m) (hyes : Pl.mayM m = true) (ho : f m.n.toNat = some o) (hab : Pl.above m o = true) :
    Calls Try.prog 18 #[.pointer (some ⟨g, 0, none⟩), .agg (mcells m)] w fun e w' => e = .returned (heardVal (some (Pl.bump z m))) ∧ w.grownBy w' (some g) ∧ IsT w' g z (Pl.put f (Pl.bump z m)) := by
  obtain ⟨hn, hs2, hi0, hi1⟩ := Pl.mayM_iff.1 hyes
  obtain ⟨n, s, i⟩ := m
  obtain ⟨k, rfl⟩ : ∃ k : Nat, n = (k : Int) := ⟨n.toNat, by have := hm.n0; simp at this ⊢; omega⟩
  simp only [Int.toNat_natCast] at ho hn hs2 hi0 hi1
  have hs0 := hm.s0
  simp only at hs0
  have hlt : k < 64 := by omega
  have hg := hT.lt
  have hge : (0 : Int) ≤ (k : Int) := by omega
  have HM := Lib.hid hyes
  have HO := Lib.hid ho
  have HA := Lib.hid hab
  clear hyes ho hab
  rcases bump_ways z k s i with ⟨t1, hb⟩ | ⟨t1, t2, hb⟩ | ⟨t1, t2, t3, hb⟩ | ⟨t1, t2, t3, hb⟩
  all_goals
    rw [hb]
    clear hb
    unfold mcells
    go_enter Try.func18, Try.ntmps18
    go_wp2_with (go_at_call 43; refine (may_any ⟨k, s, i⟩ _ hm).mono ?_; rw [HM.out]; rintro e w' ⟨rfl, hb⟩; obtain ⟨hc, hf⟩ := bcell hb)
    go_quiet (fail)
    go_wp2_with fail
    have hB := below3 hb
    have b1 : Blk w' w.heap.size 25 #[.int .u16 k, .int .u8 s, .int .i64 i] := ((Blk.new w 25 _).alloc _).below hb (by simp; omega)
    have b0 : Blk w' (w.heap.size + 1) 25 #[.int .u16 0, .int .u8 0, .int .i64 0] := by
      have h := Blk.new (w.alloc (.cells #[.int .u16 k, .int .u8 s, .int .i64 i] 25)) 25 #[.int .u16 0, .int .u8 0, .int .i64 0]
      rw [World.size_alloc] at h
      exact h.below hb (by simp)
    have hT' := hT.below hB hg
    have g1 := b1.cell 0
    have g2 := b1.cell 1
    have g3 := b1.cell 2
    have g4 := b1.frozen
    have q1 := b0.cell 0
    have q2 := b0.cell 1
    have q3 := b0.cell 2
    have q4 := b0.frozen
    simp only [List.getElem?_toArray, List.getElem?_cons_zero, List.getElem?_cons_succ] at g1 g2 g3 q1 q2 q3
    have c0 := hT'.self_
    have e0 := hT'.cell k 0 hlt (by omega)
    have e1 := hT'.cell k 1 hlt (by omega)
    have e2 := hT'.cell k 2 hlt (by omega)
    have e3 := hT'.cell k 3 hlt (by omega)
    have f0 := hT'.frozen
    rw [HO.out] at e0 e1 e2 e3
    simp only [sc, List.getElem?_cons_zero, List.getElem?_cons_succ, Nat.add_zero] at e0 e1 e2 e3
    obtain ⟨B, hBs⟩ : ∃ B, B = w'.heap.size := ⟨_, rfl⟩
    have k1 : g < B := by rw [hBs]; exact hT'.lt
    have k2 : w.heap.size < B := by rw [hBs]; exact b1.lt
    have k3 : w.heap.size + 1 < B := by rw [hBs]; exact b0.lt
    have k4 : B ≤ w'.heap.size := Nat.le_of_eq hBs
    have k5 : w.heap.size ≤ B := Nat.le_of_lt k2
    have n1 : w.heap.size ≠ g := by omega
    have n2 : w.heap.size + 1 ≠ g := by omega
    clear hBs hc hf
    go_region_held3 (fun W => SB B w' W) (first | exact keepB ((below_drewN (Below.refl B w') nq).drew) | exact keepB (below_then (below_drewN (Below.refl B w') _) k4 hb2))
      (first | (go_at_call 21; refine (above_any ⟨k, s, i⟩ o _).mono ?_; rw [HA.out]; rintro e w2 ⟨rfl, hb2⟩))
    obtain ⟨hc2, hf2, hB2⟩ := ‹SB B w' w2›
    have HB := Lib.hid (hB.trans (hB2.mono k5))
    have HT := Lib.hid (hT'.below hB2 k1)
    clear hB hB2 hb2 hb b1 b0 hT hT'
    go_wp2_with fail
    go_quiet (fail)
    go_wp2
    refine bodyPost_ret (v := heardVal (some _)) (by simp [results, Try.results18, go_sem, hc2, k3, q1, q2, q3, n1, n2, heardVal, mcells]) rfl ⟨rfl, ?_, ?_⟩
    · show World.grownBy w _ (some g)
      repeat (first | refine grown_setCell ?_ (by first | exact .inl rfl | exact .inr (by simp)) _ | refine grown_drewN ?_ _ | refine grown_drew ?_)
      exact grown_of_below HB.out _
    · rw [put_at]
      simp only [Int.toNat_natCast]
      refine IsT.far (IsT.far (IsT.far ?_ n2 _) n2 _) n2 _
      refine IsT.set_ ?_ k hlt _ _ _ _ _ rfl
      first | exact HT.out.drewN _ | exact ((HT.out.drewN _).far n1 _).far n1 _

end Go.Proofs.Ytnlpgjdgiappcaa
