/- WALKS: label.Name. -/
import Derived.Test.YtnidjfmbbfoheaaRxAwake
import Derived.Deep.LoopGhost
namespace Go.Proofs.Ytnidjfmbbfoheaa
set_option linter.unusedVariables false
set_option linter.unusedSimpArgs false
open Go.RowKit

def okc (c : Nat) : Bool := decide (c = 95) || (decide (97 ≤ c) && decide (c ≤ 122)) || (decide (48 ≤ c) && decide (c ≤ 57))
def nameB (s : List Nat) : Bool := match s with
  | [] => false
  | c :: r => decide ((c :: r).length ≤ 16) && !(decide (48 ≤ c) && decide (c ≤ 57)) && (c :: r).all okc
theorem name_nil (w : World) : Calls Try.prog 64 #[.string (bs [])] w fun e w' => e = .returned (.bool false) ∧ w' = w := by
  rw [bs_nil]
  go_enter Try.func64, Try.ntmps64
  go_wp2
  go_ret
  exact ⟨rfl, rfl⟩
theorem name_far (s : List Nat) (h : 16 < s.length) (hl : s.length ≤ 9223372036854775807) (w : World) : Calls Try.prog 64 #[.string (bs s)] w fun e w' => e = .returned (.bool false) ∧ w' = w := by
  have hz := bs_size s
  have hI : (16 : Int) < (s.length : Int) := by omega
  have he : (bs s).toList.isEmpty = false := by
    cases s with
    | nil => simp at h
    | cons c r => rw [bs_ne]; rfl
  generalize bs s = b at *
  go_enter Try.func64, Try.ntmps64
  go_wp2
  go_ret
  exact ⟨rfl, rfl⟩
theorem name_dig (c : Nat) (r : List Nat) (h : (c :: r).length ≤ 16) (h1 : 48 ≤ c) (h2 : c ≤ 57) (w : World) : Calls Try.prog 64 #[.string (bs (c :: r))] w fun e w' => e = .returned (.bool false) ∧ w' = w := by
  have hz := bs_size (c :: r)
  have hI : ¬ (16 : Int) < ((c :: r).length : Int) := by omega
  have he : (bs (c :: r)).toList.isEmpty = false := by rw [bs_ne]; rfl
  have hidx := fun w => idx_bs (c :: r) 0 c rfl (by omega) w
  simp only [Int.ofNat_zero, Int.natCast_zero] at hidx
  have i1 : (48 : Int) ≤ (c : Int) := by omega
  have i2 : (c : Int) ≤ 57 := by omega
  generalize bs (c :: r) = b at *
  generalize (c :: r).length = n at *
  go_enter Try.func64, Try.ntmps64
  go_wp2
  go_ret
  exact ⟨rfl, rfl⟩
theorem name_loop (s : List Nat) (c : Nat) (h0 : s[0]? = some c) (h : s.length ≤ 16) (hb : ∀ x ∈ s, x < 256) (h1 : ¬ (48 ≤ c ∧ c ≤ 57)) (w : World) : Calls Try.prog 64 #[.string (bs s)] w fun e w' => e = .returned (.bool (s.all okc)) ∧ w' = w := by
  have hz := bs_size s
  have he : (bs s).toList.isEmpty = false := by
    cases s with
    | nil => simp at h0
    | cons c r => rw [bs_ne]; rfl
  have hidx := fun w => idx_bs s 0 c h0 (hb c (List.mem_of_getElem? h0)) w
  simp only [Int.ofNat_zero, Int.natCast_zero] at hidx
  have HX : Hid (∀ (k b : Nat), s[k]? = some b → b < 256 ∧ ∀ w, (Instr.index 9 (.string (bs s)) (.int .i64 (k : Int))).run Try.prog w = .ok (.int .u8 (b : Int)) w) := Lib.hid (fun k b h => ⟨hb b (List.mem_of_getElem? h), fun w => idx_bs s k b h (hb b (List.mem_of_getElem? h)) w⟩)
  obtain ⟨R, hR⟩ : ∃ R, s.all okc = R := ⟨_, rfl⟩
  rw [hR]
  have HR := Lib.hid hR
  clear hb hR h0
  obtain ⟨n, hn⟩ : ∃ n, s.length = n := ⟨_, rfl⟩
  rw [hn] at hz h
  have HN := Lib.hid hn
  clear hn
  have hI : ¬ (16 : Int) < (n : Int) := by omega
  generalize bs s = b at *
  by_cases h48 : 48 ≤ c
  · have i1 : (48 : Int) ≤ (c : Int) := by omega
    have i2 : ¬ (c : Int) ≤ 57 := by omega
    go_enter Try.func64, Try.ntmps64
    go_wp2
    go_loopg [24] n (fun gg s24 wr => wr = w ∧ ∃ i : Nat, s24 = .int .i64 (i : Int) ∧ i ≤ n ∧ n - i ≤ gg ∧ Hid ((s.take i).all okc = true))
    case atStart => exact ⟨rfl, 0, by go_num, by omega, by omega, Lib.hid (by simp)⟩
    case round =>
      obtain ⟨rfl, i, rfl, hi, hgg, HA⟩ := hrel
      by_cases hlt : i < n
      · obtain ⟨y, hy⟩ : ∃ y, s[i]? = some y := ⟨_, List.getElem?_eq_getElem (by rw [HN.out]; exact hlt)⟩
        obtain ⟨hyb, hyx⟩ := HX.out i y hy
        have hiI : (i : Int) < (n : Int) := by omega
        have hi0 : (0 : Int) ≤ (i : Int) := by omega
        have HNX : Hid (okc y = true → (s.take (i + 1)).all okc = true) := Lib.hid (fun h => by rw [List.take_add_one, hy]; simp only [Option.toList_some, List.all_append, HA.out, List.all_cons, h, List.all_nil, Bool.and_self])
        have HNO : Hid (okc y = false → R = false) := Lib.hid (fun h => by rw [← HR.out, Bool.eq_false_iff]; intro h2; rw [List.all_eq_true] at h2; rw [h2 y (List.mem_of_getElem? hy)] at h; cases h)
        clear hy
        by_cases q1 : y = 95
        · subst q1
          have hok : okc 95 = true := by simp [okc]<;> omega
          go_wp2
          go_roundg (n - (i + 1))
          case measure => omega
          case rel => exact ⟨rfl, i + 1, by go_num, by omega, by omega, Lib.hid (HNX.out hok)⟩
        · have n1 : ((y : Int) != 95) = true := by rw [bne_iff_ne]; omega
          have n2 : (y != 95) = true := by rw [bne_iff_ne]; exact q1
          by_cases q2 : y < 97
          · have n3 : (y : Int) < 97 := by omega
            by_cases q3 : y < 48
            · have n4 : (y : Int) < 48 := by omega
              have hok : R = false := HNO.out (by simp [okc]; omega)
              subst hok
              go_wp2
              go_ret
              exact ⟨rfl, rfl⟩
            · have n4 : ¬ (y : Int) < 48 := by omega
              by_cases q4 : 57 < y
              · have n5 : (57 : Int) < (y : Int) := by omega
                have hok : R = false := HNO.out (by simp [okc]; omega)
                subst hok
                go_wp2
                go_ret
                exact ⟨rfl, rfl⟩
              · have n5 : ¬ (57 : Int) < (y : Int) := by omega
                have hok : okc y = true := by simp [okc]<;> omega
                go_wp2
                go_roundg (n - (i + 1))
                case measure => omega
                case rel => exact ⟨rfl, i + 1, by go_num, by omega, by omega, Lib.hid (HNX.out hok)⟩
          · have n3 : ¬ (y : Int) < 97 := by omega
            by_cases q3 : 122 < y
            · have n4 : (122 : Int) < (y : Int) := by omega
              have n5 : ¬ (y : Int) < 48 := by omega
              have n6 : (57 : Int) < (y : Int) := by omega
              have hok : R = false := HNO.out (by simp [okc]; omega)
              subst hok
              go_wp2
              go_ret
              exact ⟨rfl, rfl⟩
            · have n4 : ¬ (122 : Int) < (y : Int) := by omega
              have hok : okc y = true := by simp [okc]<;> omega
              go_wp2
              go_roundg (n - (i + 1))
              case measure => omega
              case rel => exact ⟨rfl, i + 1, by go_num, by omega, by omega, Lib.hid (HNX.out hok)⟩
      · have hie : i = n := by omega
        subst hie
        have hr : R = true := by rw [← HR.out, ← HA.out, ← HN.out, List.take_length]
        subst hr
        go_wp2
        go_ret
        exact ⟨rfl, rfl⟩
  · have i1 : ¬ (48 : Int) ≤ (c : Int) := by omega
    go_enter Try.func64, Try.ntmps64
    go_wp2
    go_loopg [24] n (fun gg s24 wr => wr = w ∧ ∃ i : Nat, s24 = .int .i64 (i : Int) ∧ i ≤ n ∧ n - i ≤ gg ∧ Hid ((s.take i).all okc = true))
    case atStart => exact ⟨rfl, 0, by go_num, by omega, by omega, Lib.hid (by simp)⟩
    case round =>
      obtain ⟨rfl, i, rfl, hi, hgg, HA⟩ := hrel
      by_cases hlt : i < n
      · obtain ⟨y, hy⟩ : ∃ y, s[i]? = some y := ⟨_, List.getElem?_eq_getElem (by rw [HN.out]; exact hlt)⟩
        obtain ⟨hyb, hyx⟩ := HX.out i y hy
        have hiI : (i : Int) < (n : Int) := by omega
        have hi0 : (0 : Int) ≤ (i : Int) := by omega
        have HNX : Hid (okc y = true → (s.take (i + 1)).all okc = true) := Lib.hid (fun h => by rw [List.take_add_one, hy]; simp only [Option.toList_some, List.all_append, HA.out, List.all_cons, h, List.all_nil, Bool.and_self])
        have HNO : Hid (okc y = false → R = false) := Lib.hid (fun h => by rw [← HR.out, Bool.eq_false_iff]; intro h2; rw [List.all_eq_true] at h2; rw [h2 y (List.mem_of_getElem? hy)] at h; cases h)
        clear hy
        by_cases q1 : y = 95
        · subst q1
          have hok : okc 95 = true := by simp [okc]<;> omega
          go_wp2
          go_roundg (n - (i + 1))
          case measure => omega
          case rel => exact ⟨rfl, i + 1, by go_num, by omega, by omega, Lib.hid (HNX.out hok)⟩
        · have n1 : ((y : Int) != 95) = true := by rw [bne_iff_ne]; omega
          have n2 : (y != 95) = true := by rw [bne_iff_ne]; exact q1
          by_cases q2 : y < 97
          · have n3 : (y : Int) < 97 := by omega
            by_cases q3 : y < 48
            · have n4 : (y : Int) < 48 := by omega
              have hok : R = false := HNO.out (by simp [okc]; omega)
              subst hok
              go_wp2
              go_ret
              exact ⟨rfl, rfl⟩
            · have n4 : ¬ (y : Int) < 48 := by omega
              by_cases q4 : 57 < y
              · have n5 : (57 : Int) < (y : Int) := by omega
                have hok : R = false := HNO.out (by simp [okc]; omega)
                subst hok
                go_wp2
                go_ret
                exact ⟨rfl, rfl⟩
              · have n5 : ¬ (57 : Int) < (y : Int) := by omega
                have hok : okc y = true := by simp [okc]<;> omega
                go_wp2
                go_roundg (n - (i + 1))
                case measure => omega
                case rel => exact ⟨rfl, i + 1, by go_num, by omega, by omega, Lib.hid (HNX.out hok)⟩
          · have n3 : ¬ (y : Int) < 97 := by omega
            by_cases q3 : 122 < y
            · have n4 : (122 : Int) < (y : Int) := by omega
              have n5 : ¬ (y : Int) < 48 := by omega
              have n6 : (57 : Int) < (y : Int) := by omega
              have hok : R = false := HNO.out (by simp [okc]; omega)
              subst hok
              go_wp2
              go_ret
              exact ⟨rfl, rfl⟩
            · have n4 : ¬ (122 : Int) < (y : Int) := by omega
              have hok : okc y = true := by simp [okc]<;> omega
              go_wp2
              go_roundg (n - (i + 1))
              case measure => omega
              case rel => exact ⟨rfl, i + 1, by go_num, by omega, by omega, Lib.hid (HNX.out hok)⟩
      · have hie : i = n := by omega
        subst hie
        have hr : R = true := by rw [← HR.out, ← HA.out, ← HN.out, List.take_length]
        subst hr
        go_wp2
        go_ret
        exact ⟨rfl, rfl⟩
theorem nameB_cons (c : Nat) (r : List Nat) : nameB (c :: r) = (decide ((c :: r).length ≤ 16) && !(decide (48 ≤ c) && decide (c ≤ 57)) && (c :: r).all okc) := rfl
theorem name_any (s : List Nat) (hb : ∀ x ∈ s, x < 256) (hl : s.length ≤ 9223372036854775807) (w : World) : Calls Try.prog 64 #[.string (bs s)] w fun e w' => e = .returned (.bool (nameB s)) ∧ w' = w := by
  cases s with
  | nil => exact name_nil w
  | cons c r =>
    by_cases h : 16 < (c :: r).length
    · have e : nameB (c :: r) = false := by rw [nameB_cons, decide_eq_false (show ¬ (c :: r).length ≤ 16 by omega)]; rfl
      rw [e]
      exact name_far _ h hl w
    · by_cases h1 : 48 ≤ c ∧ c ≤ 57
      · have e : nameB (c :: r) = false := by rw [nameB_cons, decide_eq_true h1.1, decide_eq_true h1.2]; simp
        rw [e]
        exact name_dig c r (by omega) h1.1 h1.2 w
      · have e : nameB (c :: r) = (c :: r).all okc := by
          rw [nameB_cons, decide_eq_true (show (c :: r).length ≤ 16 by omega)]
          have : (decide (48 ≤ c) && decide (c ≤ 57)) = false := by rw [Bool.eq_false_iff]; simp; omega
          rw [this]
          simp
        rw [e]
        exact name_loop (c :: r) c rfl (by omega) hb h1 w
end Go.Proofs.Ytnidjfmbbfoheaa
