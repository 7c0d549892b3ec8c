/- WALKS: match.One. -/
import Derived.Test.YtnidjfmbbfoheaaMaD
namespace Go.Proofs.Ytnidjfmbbfoheaa
set_option linter.unusedVariables false
set_option linter.unusedSimpArgs false
open Go.RowKit

theorem getB_mem (l : List Pr) (n : List Nat) : getB l n = [] ∨ ∃ p ∈ l, getB l n = p.v := by
  induction l with
  | nil => exact .inl rfl
  | cons q r ih =>
    unfold getB
    split
    · exact .inr ⟨q, by simp, rfl⟩
    · rcases ih with h | ⟨p, hp, h⟩
      · exact .inl h
      · exact .inr ⟨p, by simp [hp], h⟩
theorem getB_lt (l : List Pr) (n : List Nat) (hl : ∀ p ∈ l, p.Ok) : ∀ x ∈ getB l n, x < 256 := by
  rcases getB_mem l n with h | ⟨p, hp, h⟩
  · rw [h]; simp
  · rw [h]; exact (hl p hp).2.2.1
theorem getB_len (l : List Pr) (n : List Nat) (hl : ∀ p ∈ l, p.v.length ≤ 1000000000) : (getB l n).length ≤ 1000000000 := by
  rcases getB_mem l n with h | ⟨p, hp, h⟩
  · rw [h]; simp
  · rw [h]; exact hl p hp
theorem checkB_op {m : Mt} (h : checkB m = 0) : nameB m.n = true ∧ m.op ≤ 3 ∧ m.v.length ≤ 64 := by
  unfold checkB at h
  split at h
  · cases h
  · split at h
    · cases h
    · split at h
      · cases h
      · rename_i a b c
        exact ⟨by simpa using a, by omega, by omega⟩
theorem checkB_read {m : Mt} (h : checkB m = 0) (h2 : ¬ m.op < 2) : ∃ r, Rx.readA m.v = some r := by
  obtain ⟨a, b, c⟩ := checkB_op h
  unfold checkB at h
  rw [if_neg (by rw [a]; simp), if_neg (by omega), if_neg (by omega), if_neg h2] at h
  unfold errOf at h
  cases e : Rx.readA m.v with
  | none => rw [e] at h; cases h
  | some r => exact ⟨r, rfl⟩
set_option maxRecDepth 100000 in
set_option maxHeartbeats 2000000 in
theorem mone_any (A0 : Option Addr) (cp : Nat) (l : List Pr) (m : Mt) (w : World) (hm : m.Ok) (hlen : l.length ≤ 9223372036854775807) (R : ReadsP w (fun b => b < w.heap.size) A0 l) (hl : ∀ p ∈ l, p.Ok) (hv : ∀ p ∈ l, p.v.length ≤ 1000000000) :
    Calls Try.prog 32 #[m.val, .slice A0 l.length cp] w fun e w' => e = .returned (.bool (oneB m l)) ∧ Below w.heap.size w w' := by
  have HC := Lib.hid (fun w => check_any m hm w)
  by_cases h0 : checkB m = 0
  · rw [h0] at HC
    obtain ⟨_, ho3, hvl⟩ := checkB_op h0
    have HG : Hid (∀ w', Below w.heap.size w w' → Calls Try.prog 36 #[.slice A0 l.length cp, .string (bs m.n)] w' fun e w2 => e = .returned (.string (bs (getB l m.n))) ∧ Below w'.heap.size w' w2) :=
      Lib.hid (fun w' hb => get_any A0 cp l m.n w' hm.1 hlen ((R.below (by omega) hb).imp (fun b hb' => Nat.lt_of_lt_of_le hb' hb.size)) hl)
    by_cases h2 : m.op < 2
    · have e : oneB m l = (decide (getB l m.n = m.v) == decide (m.op = 0)) := by unfold oneB; rw [if_neg (by rw [h0]; simp), if_pos h2]
      rw [e]
      have hcmp := bs_beq (getB_lt l m.n hl) hm.2.2.1
      generalize decide (getB l m.n = m.v) = E at *
      obtain ⟨_, _, _, _, o0, o1⟩ := hm
      unfold Mt.val mval at *
      generalize m.op = op at *
      have eop : (op == 0) = decide (op = 0) := by rw [Bool.eq_iff_iff]; simp
      generalize decide (op = 0) = D at *
      clear e h0 R hl hv
      generalize bs m.n = bn at *
      generalize bs m.v = bv1 at *
      generalize bs (getB l m.n) = bg at *
      go_enter Try.func32, Try.ntmps32
      go_wp2_with fail
      refine (HC.out _).mono ?_
      rintro e w1 ⟨rfl, hk⟩
      have K1 := Lib.hid (below_then ((Below.refl w.heap.size w).alloc (Nat.le_refl _) _) ((Below.refl w.heap.size w).alloc (Nat.le_refl _) _).size hk)
      have BX1 := Lib.hid ((Blk.new w 37 #[.string bn, .int .u8 op, .string bv1]).below hk (by simp))
      clear hk
      have y0 := BX1.out.cell 0
      have y1 := BX1.out.cell 1
      have y2 := BX1.out.cell 2
      simp only [List.getElem?_toArray, List.getElem?_cons_zero, List.getElem?_cons_succ] at y0 y1 y2
      go_wp2_with fail
      refine (HG.out _ K1.out).mono ?_
      rintro e w2 ⟨rfl, hk⟩
      have K2 := Lib.hid (below_then K1.out K1.out.size hk)
      have BX2 := Lib.hid (BX1.out.below hk BX1.out.lt)
      clear hk y0 y1 y2
      have y0 := BX2.out.cell 0
      have y1 := BX2.out.cell 1
      have y2 := BX2.out.cell 2
      simp only [List.getElem?_toArray, List.getElem?_cons_zero, List.getElem?_cons_succ] at y0 y1 y2
      go_wp2
      go_ret
      exact ⟨rfl, K2.out⟩
    · obtain ⟨r, hr⟩ := checkB_read h0 h2
      have e : oneB m l = ((Rx.like m.v (getB l m.n) == some true) == decide (m.op = 2)) := by unfold oneB; rw [if_neg (by rw [h0]; simp), if_neg h2]
      rw [e]
      have HL := Lib.hid (fun w => like_any m.v (getB l m.n) hm.2.2.1 (by omega) (getB_lt l m.n hl) (getB_len l m.n hv) w)
      have hlv : likeVal m.v (getB l m.n) = .tuple #[.bool (Rx.like m.v (getB l m.n) == some true), .int .i64 0] := by
        unfold likeVal
        rw [if_neg (by omega)]
        have : Rx.like m.v (getB l m.n) ≠ none := by
          unfold Rx.like Rx.compile
          rw [hr]; simp
        cases hh : Rx.like m.v (getB l m.n) with
        | none => exact absurd hh this
        | some b => cases b <;> rfl
      rw [hlv] at HL
      generalize (Rx.like m.v (getB l m.n) == some true) = E at *
      obtain ⟨_, _, _, _, o0, o1⟩ := hm
      unfold Mt.val mval at *
      generalize m.op = op at *
      have eop : (op == 2) = decide (op = 2) := by rw [Bool.eq_iff_iff]; simp
      generalize decide (op = 2) = D at *
      clear e h0 R hl hv hlv hr
      generalize bs m.n = bn at *
      generalize bs m.v = bv1 at *
      generalize bs (getB l m.n) = bg at *
      go_enter Try.func32, Try.ntmps32
      go_wp2_with fail
      refine (HC.out _).mono ?_
      rintro e w1 ⟨rfl, hk⟩
      have K1 := Lib.hid (below_then ((Below.refl w.heap.size w).alloc (Nat.le_refl _) _) ((Below.refl w.heap.size w).alloc (Nat.le_refl _) _).size hk)
      have BX1 := Lib.hid ((Blk.new w 37 #[.string bn, .int .u8 op, .string bv1]).below hk (by simp))
      clear hk
      have y0 := BX1.out.cell 0
      have y1 := BX1.out.cell 1
      have y2 := BX1.out.cell 2
      simp only [List.getElem?_toArray, List.getElem?_cons_zero, List.getElem?_cons_succ] at y0 y1 y2
      go_wp2_with fail
      refine (HG.out _ K1.out).mono ?_
      rintro e w2 ⟨rfl, hk⟩
      have K2 := Lib.hid (below_then K1.out K1.out.size hk)
      have BX2 := Lib.hid (BX1.out.below hk BX1.out.lt)
      clear hk y0 y1 y2
      have y0 := BX2.out.cell 0
      have y1 := BX2.out.cell 1
      have y2 := BX2.out.cell 2
      simp only [List.getElem?_toArray, List.getElem?_cons_zero, List.getElem?_cons_succ] at y0 y1 y2
      go_wp2_with fail
      refine (HL.out _).mono ?_
      rintro e w3 ⟨rfl, hk⟩
      have K3 := Lib.hid (below_then K2.out K2.out.size hk)
      have BX3 := Lib.hid (BX2.out.below hk BX2.out.lt)
      clear hk y0 y1 y2
      have y0 := BX3.out.cell 0
      have y1 := BX3.out.cell 1
      have y2 := BX3.out.cell 2
      simp only [List.getElem?_toArray, List.getElem?_cons_zero, List.getElem?_cons_succ] at y0 y1 y2
      go_wp2
      go_ret
      exact ⟨rfl, K3.out⟩
  · have e : oneB m l = false := by unfold oneB; rw [if_pos h0]
    rw [e]
    have hz : (checkB m != 0) = true := by rw [bne_iff_ne]; exact h0
    clear e R hl hv
    unfold Mt.val mval at *
    generalize checkB m = E at *
    generalize bs m.n = bn at *
    generalize bs m.v = bv1 at *
    go_enter Try.func32, Try.ntmps32
    go_wp2_with fail
    refine (HC.out _).mono ?_
    rintro e w1 ⟨rfl, hk⟩
    have K1 := Lib.hid (below_then ((Below.refl w.heap.size w).alloc (Nat.le_refl _) _) ((Below.refl w.heap.size w).alloc (Nat.le_refl _) _).size hk)
    clear hk
    go_wp2
    go_ret
    exact ⟨rfl, K1.out⟩
end Go.Proofs.Ytnidjfmbbfoheaa
