/- WALKS: Quote. -/
import Derived.Test.YtnidjfmbbfoheaaRxLayB
import Derived.Test.YtnidjfmbbfoheaaRxM3
namespace Go.Proofs.Ytnidjfmbbfoheaa
set_option linter.unusedVariables false
set_option linter.unusedSimpArgs false
open Go.RowKit

def quo (c : Nat) : List Nat := if c ∈ Rx.special then [92, c] else [c]
def quoteA (s : List Nat) : List Nat := s.flatMap quo
theorem quo_len (c : Nat) : (quo c).length ≤ 2 := by unfold quo; split <;> simp
theorem quoteA_len (s : List Nat) : (quoteA s).length ≤ 2 * s.length := by
  induction s with
  | nil => simp [quoteA]
  | cons c r ih =>
    have := quo_len c
    have e : quoteA (c :: r) = quo c ++ quoteA r := rfl
    rw [e, List.length_append, List.length_cons]
    omega
def bc (l : List Nat) : List Value := Lib.byteCells (l.map UInt8.ofNat)
theorem bc_len (l : List Nat) : (bc l).length = l.length := by simp [bc, Lib.byteCells]
theorem bc_app (l : List Nat) (c : Nat) (hc : c < 256) : bc (l ++ [c]) = bc l ++ [.int .u8 (c : Int)] := by
  simp [bc, Lib.byteCells]
  omega
def IsB (B b : Nat) (l : List Nat) (w : World) : Prop := Lib.IsBuilder 86 5 B b (bc l) w
theorem writeB (B b c : Nat) (l : List Nat) (w : World) (h : IsB B b l w) (hc : c < 256) (hl : l.length ≤ 100000000000) (hB : B ≤ w.heap.size) :
    Calls Try.prog 58 #[.pointer (some ⟨b, 0, none⟩), .int .u8 (c : Int)] w fun e w' => e = .returned .nilIface ∧ IsB B b (l ++ [c]) w' ∧ Below B w w' := by
  have := Any.Builder_WriteByte lay167 layX B b (bc l) (c : Int) w h (by rw [bc_len]; omega) hB
  change Calls Try.prog 58 _ _ _ at this
  refine this.mono ?_
  rintro e w' ⟨rfl, h1, h2⟩
  refine ⟨rfl, ?_, h2⟩
  unfold IsB
  rw [bc_app l c hc]
  exact .inr h1
theorem stringB (B b : Nat) (l : List Nat) (w : World) (h : IsB B b l w) (hB : B ≤ w.heap.size) :
    Calls Try.prog 59 #[.pointer (some ⟨b, 0, none⟩)] w fun e w' => e = .returned (.string (bs l)) ∧ Below B w w' := by
  have := Any.Builder_String_any lay169 layX B b (l.map UInt8.ofNat) w h hB
  change Calls Try.prog 59 _ _ _ at this
  exact this
theorem quoteA_take (s : List Nat) (i y : Nat) (hy : s[i]? = some y) : quoteA (s.take (i + 1)) = quoteA (s.take i) ++ quo y := by
  have e : s.take (i + 1) = s.take i ++ [y] := by rw [List.take_add_one, hy]; rfl
  rw [e]
  unfold quoteA
  rw [List.flatMap_append]
  simp
set_option maxRecDepth 100000 in
set_option maxHeartbeats 2000000 in
theorem quote_any (s : List Nat) (hs : ∀ x ∈ s, x < 256) (hsl : s.length ≤ 1000000000) (w : World) :
    Calls Try.prog 23 #[.string (bs s)] w fun e w' => e = .returned (.string (bs (quoteA s))) ∧ Below w.heap.size w w' := by
  have htz := bs_size s
  have HS := Lib.hid hs
  have hidx : Hid (∀ (k b : Nat), s[k]? = some b → ∀ w, (Instr.index 9 (.string (bs s)) (.int .i64 (k : Int))).run Try.prog w = .ok (.int .u8 (b : Int)) w) := Lib.hid (fun k b h w => idx_bs s k b h (hs b (List.mem_of_getElem? h)) w)
  have B0 : Hid (IsB w.heap.size w.heap.size [] (w.alloc (.cells #[.pointer none, .slice none 0 0] 86))) := Lib.hid (Lib.fresh_isBuilder 86 5 w)
  have K0 := Lib.hid ((Below.refl w.heap.size w).alloc (Nat.le_refl _) (.cells #[.pointer none, .slice none 0 0] 86))
  clear hs
  generalize hbt : bs s = bt at *
  clear hbt
  go_enter Try.func23, Try.ntmps23
  go_wp2
  go_loopg [7] s.length (fun gg s7 wr => ∃ i : Nat, s7 = .int .i64 (i : Int) ∧ i ≤ s.length ∧ s.length - i ≤ gg ∧ Hid (IsB w.heap.size w.heap.size (quoteA (s.take i)) wr) ∧ Hid (Below w.heap.size w wr))
  case atStart => exact ⟨0, by go_num, by omega, by omega, B0, K0⟩
  case round =>
    obtain ⟨i, rfl, hi, hgg, B1, K1⟩ := hrel
    by_cases hlt : i < s.length
    · obtain ⟨y, hy⟩ : ∃ y, s[i]? = some y := ⟨_, List.getElem?_eq_getElem hlt⟩
      have hyb : y < 256 := HS.out y (List.mem_of_getElem? hy)
      have hidx2 := hidx.out i y hy
      have hnx := quoteA_take s i y hy
      have hql : (quoteA (s.take i)).length ≤ 10000000000 := by have := quoteA_len (s.take i); have : (s.take i).length ≤ s.length := (by rw [List.length_take]; omega); omega
      generalize quoteA (s.take i) = l at *
      have HNX := Lib.hid hnx
      clear hnx hy
      have hiI : (i : Int) < (s.length : Int) := by omega
      have hi0 : (0 : Int) ≤ (i : Int) := by omega
      go_wp2_with fail
      refine (indexSp y hyb _).mono ?_
      rintro e w2 ⟨rfl, rfl⟩
      have hsp := sp_iff hyb
      by_cases hm : y ∈ Rx.special
      · have h0 : 0 ≤ spAt y := by rw [decide_eq_true hm] at hsp; simpa using hsp.symm
        have hq : quo y = [92] ++ [y] := by unfold quo; rw [if_pos hm]; rfl
        rw [hq, ← List.append_assoc] at HNX
        clear hsp hm hq
        generalize spAt y = k at *
        go_wp2_with fail
        refine (writeB w.heap.size w.heap.size 92 l _ B1.out (by omega) (by omega) K1.out.size).mono ?_
        rintro e w3 ⟨rfl, hb3, hk3⟩
        have B3 := Lib.hid hb3
        have K3 := Lib.hid (K1.out.trans hk3)
        clear hb3 hk3
        go_wp2_with fail
        refine (writeB w.heap.size w.heap.size y (l ++ [92]) _ B3.out hyb (by rw [List.length_append]; simp; omega) K3.out.size).mono ?_
        rintro e w4 ⟨rfl, hb4, hk4⟩
        have B4 := Lib.hid hb4
        have K4 := Lib.hid (K3.out.trans hk4)
        clear hb4 hk4
        go_wp2
        go_roundg (s.length - (i + 1))
        case measure => omega
        case rel => exact ⟨i + 1, by go_num, by omega, Nat.le_refl _, Lib.hid (by rw [HNX.out]; exact B4.out), K4⟩
      · have h0 : ¬ 0 ≤ spAt y := by rw [decide_eq_false hm] at hsp; simpa using hsp.symm
        have hq : quo y = [y] := by unfold quo; rw [if_neg hm]
        rw [hq] at HNX
        clear hsp hm hq
        generalize spAt y = k at *
        go_wp2_with fail
        refine (writeB w.heap.size w.heap.size y l _ B1.out hyb (by omega) K1.out.size).mono ?_
        rintro e w4 ⟨rfl, hb4, hk4⟩
        have B4 := Lib.hid hb4
        have K4 := Lib.hid (K1.out.trans hk4)
        clear hb4 hk4
        go_wp2
        go_roundg (s.length - (i + 1))
        case measure => omega
        case rel => exact ⟨i + 1, by go_num, by omega, Nat.le_refl _, Lib.hid (by rw [HNX.out]; exact B4.out), K4⟩
    · have hie : i = s.length := by omega
      subst hie
      rw [List.take_length] at B1
      go_wp2_with fail
      refine (stringB w.heap.size w.heap.size (quoteA s) _ B1.out K1.out.size).mono ?_
      rintro e w3 ⟨rfl, hk3⟩
      have K3 := Lib.hid (K1.out.trans hk3)
      clear hk3
      go_wp2
      go_ret
      exact ⟨rfl, K3.out⟩
end Go.Proofs.Ytnidjfmbbfoheaa
