/- WALKS: the document's Text and number. -/
import Derived.Test.YtkmkeimofhpkeaaDoorText
import Derived.Test.YtkmkeimofhpkeaaDoorCq
import Derived.Deep.RegionWith
namespace Go.Proofs.YtkmkeimofhpkeaaDoor
set_option linter.unusedVariables false
set_option linter.unusedSimpArgs false
open Go.RowKit

set_option maxRecDepth 100000 in
set_option maxHeartbeats 4000000 in
theorem rtext_any (y m d k mi s : Int) (w : World) : Calls Tryd.prog 26 #[tagg y m d k mi s] w fun e w' => e = .returned (textVal y m d mi s) ∧ Below w.heap.size w w' := by
  unfold tagg
  have hB := Blk.new w 37 #[.int .i64 y, .int .i64 m, .int .i64 d, .int .i64 k, .int .i64 mi, .int .i64 s]
  have hK : Below w.heap.size w (w.alloc (.cells #[.int .i64 y, .int .i64 m, .int .i64 d, .int .i64 k, .int .i64 mi, .int .i64 s] 37)) := (Below.refl _ _).alloc (Nat.le_refl _) _
  have hl : w.heap.size < (w.alloc (.cells #[.int .i64 y, .int .i64 m, .int .i64 d, .int .i64 k, .int .i64 mi, .int .i64 s] 37)).heap.size := by simp
  go_enter Tryd.func26, Tryd.ntmps26
  go_upto_region 1 with fail
  generalize w.alloc (.cells #[.int .i64 y, .int .i64 m, .int .i64 d, .int .i64 k, .int .i64 mi, .int .i64 s] 37) = W at *
  have B := Lib.hid hB
  have K := Lib.hid hK
  clear hB hK
  have q0 := B.out.cell 0
  have q1 := B.out.cell 1
  have q2 := B.out.cell 2
  have q3 := B.out.cell 3
  have q4 := B.out.cell 4
  have q5 := B.out.cell 5
  simp only [List.getElem?_toArray, List.getElem?_cons_zero, List.getElem?_cons_succ] at q0 q1 q2 q3 q4 q5
  go_wp2_with fail
  refine (rsecs_any y m d k mi s 0 _).mono ?_
  by_cases hok : secOk y m d mi s
  · rw [show secVal y m d mi s 0 = .tuple #[.int .i64 (86400 * Cv.num y m d + 60 * mi + s - 60 * 0), .int .i64 0] by rw [secVal, if_neg (by omega), if_pos hok]]
    generalize 86400 * Cv.num y m d + 60 * mi + s - 60 * 0 = nn
    have htv : textVal y m d mi s = .string ⟨(textS y.toNat m.toNat d.toNat mi.toNat s.toNat).toArray⟩ := by rw [textVal, if_pos hok]
    obtain ⟨v1, v2, v3, v4, v5, v6⟩ := Cv.val_range hok.1
    obtain ⟨-, o1, o2, o3, o4⟩ := hok
    obtain ⟨Y, rfl⟩ : ∃ n : Nat, y = n := ⟨y.toNat, by omega⟩
    obtain ⟨M, rfl⟩ : ∃ n : Nat, m = n := ⟨m.toNat, by omega⟩
    obtain ⟨D, rfl⟩ : ∃ n : Nat, d = n := ⟨d.toNat, by omega⟩
    obtain ⟨T, rfl⟩ : ∃ n : Nat, mi = n := ⟨mi.toNat, by omega⟩
    obtain ⟨S, rfl⟩ : ∃ n : Nat, s = n := ⟨s.toNat, by omega⟩
    simp only [Int.toNat_natCast] at htv
    obtain ⟨P6, hP6, eP6⟩ : ∃ P6 : Nat, (T : Int) / 60 = (P6 : Int) ∧ T / 60 = P6 := ⟨T / 60, by omega, rfl⟩
    obtain ⟨R6, hR6, eR6⟩ : ∃ R6 : Nat, (T : Int) % 60 = (R6 : Int) ∧ T % 60 = R6 := ⟨T % 60, by omega, rfl⟩
    simp only [textS, eP6, eR6] at htv
    have hP100 : P6 < 100 := by omega
    have hR100 : R6 < 100 := by omega
    have hwP := wrap_small P6 hP100
    have htm : (T : Int).tmod 60 = (R6 : Int) := by rw [Int.tmod_eq_emod_of_nonneg (by omega)]; exact hR6
    have htd : (T : Int).tdiv 60 = (P6 : Int) := by rw [Int.tdiv_eq_ediv_of_nonneg (by omega)]; exact hP6
    have hwR := wrap_small R6 hR100
    have hS1 : S < 10000 := by omega
    have hM1 : M < 10000 := by omega
    have hD1 : D < 10000 := by omega
    have hY1 : Y < 10000 := by omega
    clear eP6 eR6
    have TV := Lib.hid htv
    rintro e w1 ⟨rfl, hb⟩
    have B1 := Lib.hid (B.out.below hb hl)
    have K1 := Lib.hid (below_then K.out K.out.size hb)
    clear hb B K q0 q1 q2 q3 q4 q5 htv
    go_upto_region 4 with fail
    have z0 := digs_length 4 Y
    have z1 := digs_length 2 M
    have z2 := digs_length 2 D
    have z3 := digs_length 2 P6
    have z4 := digs_length 2 R6
    have z5 := digs_length 2 S
    have hq0 := fun x : Ext w1.heap.size w1 => (Ext.blk B1.out B1.out.lt (x := x)).cell 0
    have hq1 := fun x : Ext w1.heap.size w1 => (Ext.blk B1.out B1.out.lt (x := x)).cell 1
    have hq2 := fun x : Ext w1.heap.size w1 => (Ext.blk B1.out B1.out.lt (x := x)).cell 2
    have hq4 := fun x : Ext w1.heap.size w1 => (Ext.blk B1.out B1.out.lt (x := x)).cell 4
    have hq5 := fun x : Ext w1.heap.size w1 => (Ext.blk B1.out B1.out.lt (x := x)).cell 5
    simp only [List.getElem?_toArray, List.getElem?_cons_zero, List.getElem?_cons_succ] at hq0 hq1 hq2 hq4 hq5
    refine wp_region_exts (by kernel_rfl) (by kernel_rfl) ?_
    repeat
      first
        | go_big_quiet_skip
        | (go_big_quiet_want; go_big_quiet_op
           first
             | go_big_quiet_on
             | (apply Exists.intro
                refine ⟨fun x => ?_, ?_⟩
                · (first | (go_at_call_of 35 (Value.int .i64 (Y : Int)); exact calls_ext (Nat.le_refl _) (told_any Y 4 _ (by omega) hY1)) | (go_at_call_of 35 (Value.int .i64 (M : Int)); exact calls_ext (Nat.le_refl _) (told_any M 2 _ (by omega) hM1)) | (go_at_call_of 35 (Value.int .i64 (D : Int)); exact calls_ext (Nat.le_refl _) (told_any D 2 _ (by omega) hD1)) | (go_at_call_of 35 (Value.int .i64 (P6 : Int)); exact calls_ext (Nat.le_refl _) (told_any P6 2 _ (by omega) (by omega))) | (go_at_call_of 35 (Value.int .i64 (R6 : Int)); exact calls_ext (Nat.le_refl _) (told_any R6 2 _ (by omega) (by omega))) | (go_at_call_of 35 (Value.int .i64 (S : Int)); exact calls_ext (Nat.le_refl _) (told_any S 2 _ (by omega) hS1)))
                go_big_quiet_on
                try (skip)))
    refine wpQuiet_nil ?_
    rintro _ ⟨x, rfl⟩
    have KX := Lib.hid (below_then K1.out K1.out.size x.h)
    clear hq0 hq1 hq2 hq4 hq5
    go_wp2
    go_ret
    refine ⟨?_, KX.out⟩
    rw [TV.out]
    exact congrArg (fun b => Ending.returned (Value.string b)) (ByteArray.ext (by simp))
  · rw [show secVal y m d mi s 0 = .tuple #[.int .i64 0, .int .i64 13] by rw [secVal, if_neg (by omega), if_neg hok]]
    have htv : textVal y m d mi s = .string ⟨#[]⟩ := by rw [textVal, if_neg hok]
    have TV := Lib.hid htv
    rintro e w1 ⟨rfl, hb⟩
    have K1 := Lib.hid (below_then K.out K.out.size hb)
    clear hb B K q0 q1 q2 q3 q4 q5 htv
    go_wp2
    go_ret
    exact ⟨by rw [TV.out]; rfl, K1.out⟩

/-! ### numbers of digits -/
def sb (s : List UInt8) (i : Nat) : Int := ((s.getD i 0).toNat : Int)
theorem sb_range (s : List UInt8) (i : Nat) : 0 ≤ sb s i ∧ sb s i ≤ 255 := by
  have := (s.getD i 0).toNat_lt
  unfold sb
  omega
def isD (s : List UInt8) (i : Nat) : Prop := 48 ≤ sb s i ∧ sb s i ≤ 57
instance (s : List UInt8) (i : Nat) : Decidable (isD s i) := inferInstanceAs (Decidable (_ ∧ _))
def numF (s : List UInt8) (a : Nat) : Nat → Int
  | 0 => 0
  | k + 1 => 10 * numF s a k + (sb s (a + k) - 48)
def numR (s : List UInt8) (a n : Nat) : Int := if ∀ j, j < n → isD s (a + j) then numF s a n else -1
theorem numF_bound (s : List UInt8) (a k : Nat) (h : ∀ j, j < k → isD s (a + j)) : 0 ≤ numF s a k ∧ numF s a k < 10 ^ k := by
  induction k with
  | zero => simp [numF]
  | succ k ih =>
    have h1 := ih (fun j hj => h j (by omega))
    have h2 := h k (by omega)
    unfold isD at h2
    rw [numF, Int.pow_succ]
    omega
theorem idx_str (s : List UInt8) (i : Nat) (hi : i < s.length) (w : World) : (Instr.index 9 (.string ⟨s.toArray⟩) (.int .i64 (i : Int))).run Tryd.prog w = .ok (.int .u8 (sb s i)) w := by
  have hs : (⟨s.toArray⟩ : ByteArray).size = s.length := by simp [ByteArray.size]
  rw [run_index_string w 9 _ .i64 i Tryd.underlying9, dif_pos ⟨by omega, by rw [hs]; omega⟩]
  simp only [Int.toNat_natCast]
  unfold sb
  rw [List.getD_eq_getElem?_getD, List.getElem?_eq_getElem hi]
  rfl

set_option maxRecDepth 100000 in
set_option maxHeartbeats 2000000 in
theorem number_any (s : List UInt8) (a n : Nat) (w : World) (hs : s.length = 19) (hn : n ≤ 4) (han : a + n ≤ 19) :
    Calls Tryd.prog 33 #[.string ⟨s.toArray⟩, .int .i64 (a : Int), .int .i64 (n : Int)] w fun e w' => e = .returned (.int .i64 (numR s a n)) ∧ Below w.heap.size w w' := by
  go_enter Tryd.func33, Tryd.ntmps33
  go_wp2
  go_loopw [7, 8] (fun xv iv wr => ∃ k : Nat, k ≤ n ∧ xv = .int .i64 (numF s a k) ∧ iv = .int .i64 ((a + k : Nat) : Int) ∧ (∀ j, j < k → isD s (a + j)) ∧ Below w.heap.size w wr) (fun _ iv _ => a + n - (intOf iv).toNat)
  case atStart => exact ⟨0, Nat.zero_le _, rfl, by simp, fun j hj => by omega, Below.refl _ _⟩
  case round =>
    obtain ⟨k, hk, rfl, rfl, hd, hbw⟩ := hrel
    have HW := Lib.hid hbw
    have hb := numF_bound s a k hd
    have h10 : (10 : Int) ^ k ≤ 10000 := by
      rcases (by omega : k = 0 ∨ k = 1 ∨ k = 2 ∨ k = 3 ∨ k = 4) with rfl | rfl | rfl | rfl | rfl <;> decide
    have b0 := hb.1
    have b1 : numF s a k < 10000 := by omega
    obtain ⟨p, hp⟩ : ∃ p, a + k = p := ⟨_, rfl⟩
    obtain ⟨F, hF⟩ : ∃ F, numF s a k = F := ⟨_, rfl⟩
    have hsucc : numF s a (k + 1) = 10 * F + (sb s p - 48) := by rw [numF, hF, hp]
    rw [hp, hF]
    rw [hF] at b0 b1
    have HD := Lib.hid hd
    have HS := Lib.hid hsucc
    have HF := Lib.hid hF
    clear hd hbw hb h10 hF hsucc
    by_cases hlt : k < n
    · have hidx := fun w => idx_str s p (by omega) w
      have hr := sb_range s p
      have r0 := hr.1
      have r1 := hr.2
      have hpn : (p : Int) < (a : Int) + (n : Int) := by omega
      have hin : isD s p ↔ 48 ≤ sb s p ∧ sb s p ≤ 57 := Iff.rfl
      have HIN := Lib.hid hin
      clear hin
      generalize sb s p = b at *
      have no : ¬ (48 ≤ b ∧ b ≤ 57) → numR s a n = -1 := fun h => by
        unfold numR
        rw [if_neg (fun e => h (HIN.out.1 (by have := e k hlt; rwa [hp] at this)))]
      have HNO := Lib.hid no
      clear no
      by_cases c1 : b < 48
      · go_wp2
        go_ret
        exact ⟨by rw [HNO.out (by omega)]; rfl, HW.out⟩
      · by_cases c2 : 57 < b
        · go_wp2
          go_ret
          exact ⟨by rw [HNO.out (by omega)]; rfl, HW.out⟩
        · have hp0 : (p : Int) < 100 := by omega
          go_wp2
          go_roundw
          case rel =>
            refine ⟨k + 1, by omega, int_eq (by rw [HS.out]), int_eq (by omega), fun j hj => ?_, HW.out⟩
            by_cases e : j < k
            · exact HD.out j e
            · obtain rfl : j = k := by omega
              rw [hp]
              exact HIN.out.2 (by omega)
          case measure => simp [intOf]; omega
    · obtain rfl : k = n := by omega
      have hpn : ¬ (p : Int) < (a : Int) + (k : Int) := by omega
      go_wp2
      go_ret
      refine ⟨?_, HW.out⟩
      rw [show numR s a k = F by unfold numR; rw [if_pos HD.out]; exact HF.out]
      rfl

end Go.Proofs.YtkmkeimofhpkeaaDoor
