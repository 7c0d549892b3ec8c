/- WALKS: the document's Quote. -/
import Derived.Test.YtnidjfmbbfoheaaRxQ1
import Derived.Lib.AppendStr
namespace Go.Proofs.Ytnidjfmbbfoheaa
set_option linter.unusedVariables false
set_option linter.unusedSimpArgs false
open Go.RowKit

theorem special_any (c : Nat) (hc : c < 256) (w : World) : Calls Try.prog 60 #[.int .u8 (c : Int)] w fun e w' => e = .returned (.bool (decide (c ∈ Rx.special))) ∧ w' = w := by
  by_cases h : c ∈ Rx.special
  · rw [decide_eq_true h]
    simp only [Rx.special, List.mem_cons, List.not_mem_nil, or_false] at h
    rcases h with rfl | rfl | rfl | rfl | rfl | rfl | rfl | rfl | rfl | rfl
    all_goals
      go_enter Try.func60, Try.ntmps60
      go_wp2
      go_ret
      exact ⟨rfl, rfl⟩
  · rw [decide_eq_false h]
    simp only [Rx.special, List.mem_cons, List.not_mem_nil, or_false, not_or] at h
    obtain ⟨a0, a1, a2, a3, a4, a5, a6, a7, a8, a9⟩ := h
    have n0 : ((c : Int) == 40) = false := beq_eq_false_iff_ne.2 (by omega)
    have n1 : ((c : Int) == 41) = false := beq_eq_false_iff_ne.2 (by omega)
    have n2 : ((c : Int) == 91) = false := beq_eq_false_iff_ne.2 (by omega)
    have n3 : ((c : Int) == 93) = false := beq_eq_false_iff_ne.2 (by omega)
    have n4 : ((c : Int) == 124) = false := beq_eq_false_iff_ne.2 (by omega)
    have n5 : ((c : Int) == 42) = false := beq_eq_false_iff_ne.2 (by omega)
    have n6 : ((c : Int) == 43) = false := beq_eq_false_iff_ne.2 (by omega)
    have n7 : ((c : Int) == 63) = false := beq_eq_false_iff_ne.2 (by omega)
    have n8 : ((c : Int) == 46) = false := beq_eq_false_iff_ne.2 (by omega)
    have n9 : ((c : Int) == 92) = false := beq_eq_false_iff_ne.2 (by omega)
    have m0 : (c == 40) = false := beq_eq_false_iff_ne.2 a0
    have m1 : (c == 41) = false := beq_eq_false_iff_ne.2 a1
    have m2 : (c == 91) = false := beq_eq_false_iff_ne.2 a2
    have m3 : (c == 93) = false := beq_eq_false_iff_ne.2 a3
    have m4 : (c == 124) = false := beq_eq_false_iff_ne.2 a4
    have m5 : (c == 42) = false := beq_eq_false_iff_ne.2 a5
    have m6 : (c == 43) = false := beq_eq_false_iff_ne.2 a6
    have m7 : (c == 63) = false := beq_eq_false_iff_ne.2 a7
    have m8 : (c == 46) = false := beq_eq_false_iff_ne.2 a8
    have m9 : (c == 92) = false := beq_eq_false_iff_ne.2 a9
    go_enter Try.func60, Try.ntmps60
    go_wp2
    go_ret
    exact ⟨rfl, rfl⟩
theorem und33 : Try.prog.underlying 33 = some (.slice 5) := by kernel_rfl
theorem und5 : Try.prog.underlying 5 = some (.int .u8) := by kernel_rfl
theorem und9 : Try.prog.underlying 9 = some .string := by kernel_rfl
theorem byte_info : (Try.prog.info? 5).map (fun i => (i.zero, i.size, i.bytes)) = some (some (.int .u8 0), 1, 1) := by kernel_rfl
/-- Bytes of a call's own. -/
def Own (w : World) (B : Nat) (v : Value) (l : List Nat) : Prop := w.ownsRow B 5 1 v l.length (bc l)
set_option maxRecDepth 100000 in
set_option maxHeartbeats 2000000 in
theorem rquote_any (s : List Nat) (hs : ∀ x ∈ s, x < 256) (hsl : s.length ≤ 1000000000) (w : World) :
    Calls Try.prog 24 #[.string (bs s)] w fun e w' => e = .returned (.string (bs (quoteA s))) ∧ Below w.heap.size w w' := by
  obtain ⟨rq, hrq⟩ : ∃ rq, bs (quoteA s) = rq := ⟨_, rfl⟩
  rw [hrq]
  have HRQ := Lib.hid hrq
  clear hrq
  have htz := bs_size s
  have HS := Lib.hid hs
  have hidx : Hid (∀ (k b : Nat), s[k]? = some b → ∀ w, (Instr.index 9 (.string (bs s)) (.int .i64 (k : Int))).run Try.prog w = .ok (.int .u8 (b : Int)) w) := Lib.hid (fun k b h w => idx_bs s k b h (hs b (List.mem_of_getElem? h)) w)
  clear hs
  generalize hbt : bs s = bt at *
  clear hbt
  go_enter Try.func24, Try.ntmps24
  go_wp2
  go_loopg [3, 4] s.length (fun gg s3 s4 wr => ∃ i : Nat, s4 = .int .i64 (i : Int) ∧ i ≤ s.length ∧ s.length - i ≤ gg ∧ Hid (Own wr w.heap.size s3 (quoteA (s.take i))) ∧ Hid (quoteA (s.take i) = [] → s3 = .slice none 0 0) ∧ Hid (Below w.heap.size w wr))
  case atStart => exact ⟨0, by go_num, by omega, by omega, Lib.hid (own_nil w w.heap.size 5 1), Lib.hid (fun _ => rfl), Lib.hid (Below.refl _ _)⟩
  case round =>
    obtain ⟨i, rfl, hi, hgg, O1, Z1, K1⟩ := hrel
    obtain ⟨v1, hv1⟩ : ∃ X, X = u3 := ⟨_, rfl⟩
    subst hv1
    by_cases hlt : i < s.length
    · obtain ⟨y, hy⟩ : ∃ y, s[i]? = some y := ⟨_, List.getElem?_eq_getElem hlt⟩
      have hyb : y < 256 := HS.out y (List.mem_of_getElem? hy)
      have hidx2 := hidx.out i y hy
      have hnx := quoteA_take s i y hy
      have hql : (quoteA (s.take i)).length ≤ 3000000000 := by have := quoteA_len (s.take i); have : (s.take i).length ≤ s.length := (by rw [List.length_take]; omega); omega
      clear Z1
      generalize quoteA (s.take i) = l at *
      have HNX := Lib.hid hnx
      clear hnx hy
      have hiI : (i : Int) < (s.length : Int) := by omega
      have hi0 : (0 : Int) ≤ (i : Int) := by omega
      have hws := K1.out.size
      go_wp2_with fail
      refine (special_any y hyb _).mono ?_
      rintro e w2 ⟨rfl, hw2⟩
      rw [hw2]
      clear hw2 w2
      have HO1 : Hid (wr.ownsRow w.heap.size 5 1 v1 l.length (bc l)) := O1
      by_cases hm : y ∈ Rx.special
      · have hq : quo y = [92] ++ [y] := by unfold quo; rw [if_pos hm]; rfl
        rw [hq, ← List.append_assoc] at HNX
        rw [decide_eq_true hm]
        clear hm hq
        go_wp2_with (first | (at_builtin; (refine app_row w.heap.size rfl (.tmp 15) (.tmp 16) 33 5 _ 1 1 rfl und33 byte_info rfl (by omega) _ _ _ _ rfl _ rfl (by simp) (by simp [Value.oneCell']) rfl HO1.out hws (by omega) (by omega) ?_); intro v2 w2 ho2 hg2 hat; have HO2 : Hid (w2.ownsRow w.heap.size 5 1 v2 (l.length + 1) (bc l ++ [.int .u8 92])) := Lib.hid ho2; have K2 := Lib.hid (K1.out.trans (below_of_grown (B := w.heap.size) hws hg2 (own_base HO1.out))); clear ho2 hg2 hat; have hws2 := K2.out.size) | (at_builtin; (refine app_row w.heap.size rfl (.tmp 18) (.tmp 22) 33 5 _ 1 1 rfl und33 byte_info rfl (by omega) _ _ _ _ rfl _ rfl (by simp) (by simp [Value.oneCell']) rfl HO2.out hws2 (by omega) (by omega) ?_); intro v3 w3 ho3 hg3 hat; have HO3 : Hid (w3.ownsRow w.heap.size 5 1 v3 (l.length + 1 + 1) (bc l ++ [.int .u8 92] ++ [.int .u8 (y : Int)])) := Lib.hid ho3; have K3 := Lib.hid (K2.out.trans (below_of_grown (B := w.heap.size) hws2 hg3 (own_base HO2.out))); clear ho3 hg3 hat))
        go_roundg (s.length - (i + 1))
        case measure => omega
        case rel => exact ⟨i + 1, by go_num, by omega, Nat.le_refl _, Lib.hid (by unfold Own; rw [HNX.out, bc_app _ y hyb, bc_app _ 92 (by omega)]; simp only [List.length_append, List.length_singleton]; exact HO3.out), Lib.hid (by rw [HNX.out]; intro h; simp at h), K3⟩
      · have hq : quo y = [y] := by unfold quo; rw [if_neg hm]
        rw [hq] at HNX
        rw [decide_eq_false hm]
        clear hm hq
        go_wp2_with (at_builtin; (refine app_row w.heap.size rfl (.tmp 18) (.tmp 22) 33 5 _ 1 1 rfl und33 byte_info rfl (by omega) _ _ _ _ rfl _ rfl (by simp) (by simp [Value.oneCell']) rfl HO1.out hws (by omega) (by omega) ?_); intro v3 w3 ho3 hg3 hat; have HO3 : Hid (w3.ownsRow w.heap.size 5 1 v3 (l.length + 1) (bc l ++ [.int .u8 (y : Int)])) := Lib.hid ho3; have K3 := Lib.hid (K1.out.trans (below_of_grown (B := w.heap.size) hws hg3 (own_base HO1.out))); clear ho3 hg3 hat)
        go_roundg (s.length - (i + 1))
        case measure => omega
        case rel => exact ⟨i + 1, by go_num, by omega, Nat.le_refl _, Lib.hid (by unfold Own; rw [HNX.out, bc_app _ y hyb]; simp only [List.length_append, List.length_singleton]; exact HO3.out), Lib.hid (by rw [HNX.out]; intro h; simp at h), K3⟩
    · have hie : i = s.length := by omega
      subst hie
      rw [List.take_length] at O1 Z1
      by_cases hq : quoteA s = []
      · have hv := Z1.out hq
        subst hv
        have hrq2 : rq = ⟨#[]⟩ := by rw [← HRQ.out, hq]; rfl
        have HRQ2 := Lib.hid hrq2
        have hcv0 : ∀ w, (convert 33 9 (.slice none 0 0)).run Try.prog w = .ok (.string ⟨#[]⟩) w := fun w => by kernel_rfl
        clear Z1 hq hrq2
        go_wp2
        go_ret
        exact ⟨by rw [HRQ2.out]; rfl, K1.out⟩
      · have hl0 : 0 < (quoteA s).length := List.length_pos_iff.2 hq
        obtain ⟨g9, c9, rfl, hb9, _⟩ := own_form O1.out hl0
        have hcv := run_convert_bytes_back (P := Try.prog) wr 33 9 5 ⟨g9, 0, none⟩ c9 ((quoteA s).map UInt8.ofNat) und33 und5 und9 (fun j hj => by
          rw [Addr.add_mid, Nat.zero_add, O1.out.cellAt j (by simpa using hj)]
          unfold bc Lib.byteCells
          rw [List.getElem?_map, List.getElem?_eq_getElem hj]
          rfl)
        rw [List.length_map] at hcv
        have ebs : (⟨((quoteA s).map UInt8.ofNat).toArray⟩ : ByteArray) = bs (quoteA s) := rfl
        rw [ebs, HRQ.out] at hcv
        clear Z1 hq ebs
        go_wp2
        go_ret
        exact ⟨rfl, K1.out⟩
end Go.Proofs.Ytnidjfmbbfoheaa
