/- WALKS: Like. -/
import Derived.Test.YtnidjfmbbfoheaaRxM2
namespace Go.Proofs.Ytnidjfmbbfoheaa
set_option linter.unusedVariables false
set_option linter.unusedSimpArgs false
open Go.RowKit

theorem compile_read {s : List Nat} {c : Rx.Cm} (h : Rx.compile s = some c) : ∃ r, Rx.readA s = some r ∧ c = Rx.comp r := by
  unfold Rx.compile at h
  rw [Option.map_eq_some_iff] at h
  obtain ⟨r, h1, h2⟩ := h
  exact ⟨r, h1, h2.symm⟩
theorem read_pat {s : List Nat} {r : Rx.Re} (h : Rx.readA s = some r) : Rx.patA (8 * s.length + 8) s = some (r, []) := by
  unfold Rx.readA at h
  split at h
  · rename_i r' s1 h1
    split at h
    · injection h with h; subst h; rename_i h2; rw [h1, h2]
    · cases h
  · cases h
theorem read_sets {s : List Nat} {r : Rx.Re} (h : Rx.readA s = some r) : Rx.Sets r := ((Rx.read_left (8 * s.length + 8)).1 _ _ _ (read_pat h)).2.1
theorem read_cnt {s : List Nat} {r : Rx.Re} (h : Rx.readA s = some r) : Rx.cnt r ≤ 4 * s.length + 1 := by
  have := ((Rx.read_left (8 * s.length + 8)).1 _ _ _ (read_pat h)).2.2
  simp only [List.length_nil] at this
  omega
theorem compile_val {s : List Nat} {c : Rx.Cm} (h : Rx.compile s = some c) (hs : s.length ≤ 64) : Rx.Val c ∧ c.st.length ≤ 1000000 := by
  obtain ⟨r, h1, rfl⟩ := compile_read h
  refine ⟨Rx.comp_val r (read_sets h1), ?_⟩
  have h2 := Rx.gen_len r []
  have h3 := read_cnt h1
  unfold Rx.comp
  simp only [List.length_append, List.length_singleton, h2, List.length_nil]
  omega
def likeVal (s t : List Nat) : Value := if 64 < s.length then .tuple #[.bool false, .int .i64 5] else match Rx.like s t with
  | none => .tuple #[.bool false, .int .i64 9]
  | some b => .tuple #[.bool b, .int .i64 0]
theorem likeVal_far {s : List Nat} (t : List Nat) (h : 64 < s.length) : likeVal s t = .tuple #[.bool false, .int .i64 5] := if_pos h
theorem likeVal_none {s : List Nat} (t : List Nat) (h : ¬ 64 < s.length) (hc : Rx.compile s = none) : likeVal s t = .tuple #[.bool false, .int .i64 9] := by
  unfold likeVal Rx.like
  rw [if_neg h, hc]; rfl
theorem likeVal_some {s : List Nat} (t : List Nat) (h : ¬ 64 < s.length) {c : Rx.Cm} (hc : Rx.compile s = some c) : likeVal s t = .tuple #[.bool (Rx.matchC c t), .int .i64 0] := by
  unfold likeVal Rx.like
  rw [if_neg h, hc]; rfl
set_option maxRecDepth 100000 in
theorem like_any (s t : List Nat) (hs : ∀ x ∈ s, x < 256) (hsl : s.length < 2 ^ 60) (ht : ∀ x ∈ t, x < 256) (htl : t.length ≤ 1000000000) (w : World) :
    Calls Try.prog 26 #[.string (bs s), .string (bs t)] w fun e w' => e = .returned (likeVal s t) ∧ Below w.heap.size w w' := by
  by_cases h : 64 < s.length
  · rw [likeVal_far t h]
    have hc := compile_far s w h hsl
    have HC := Lib.hid hc
    clear hc hs ht h hsl
    generalize bs s = b1 at *
    generalize bs t = b2 at *
    go_enter Try.func26, Try.ntmps26
    go_wp2_with fail
    refine HC.out.mono ?_
    rintro e w1 ⟨rfl, hb⟩
    have HB := Lib.hid hb
    clear hb
    go_wp2
    refine bodyPost_ret (v := .tuple #[.bool false, .int .i64 5]) (by simp [results, Try.results26, go_sem]) rfl ⟨rfl, HB.out⟩
  · have hc := compile_near s w (by omega) hs
    have HC := Lib.hid hc
    clear hc
    have HS := Lib.hid h
    cases hcc : Rx.compile s with
    | none =>
      rw [likeVal_none t h hcc]
      have HCC := Lib.hid hcc
      clear hcc hs ht h hsl
      generalize hb1 : bs s = b1 at *
      generalize bs t = b2 at *
      clear hb1
      go_enter Try.func26, Try.ntmps26
      go_wp2_with fail
      refine HC.out.mono ?_
      unfold CompEnd
      rw [HCC.out]
      rintro e w1 ⟨hb, rfl⟩
      have HB := Lib.hid hb
      clear hb
      go_wp2
      refine bodyPost_ret (v := .tuple #[.bool false, .int .i64 9]) (by simp [results, Try.results26, go_sem]) rfl ⟨rfl, HB.out⟩
    | some c =>
      rw [likeVal_some t h hcc]
      have hv := compile_val hcc (by omega)
      have HM : Hid (∀ (B g : Nat) (W : World), IsRx W B g c → Calls Try.prog 28 #[.pointer (some ⟨g, 0, none⟩), .string (bs t)] W fun e w' => e = .returned (.bool (Rx.matchC c t)) ∧ Below W.heap.size W w') := Lib.hid (fun B g W H => match_any c hv.1 hv.2 t ht htl B g W H)
      have HCC := Lib.hid hcc
      clear hcc hs ht h hsl hv
      generalize hb1 : bs s = b1 at *
      generalize bs t = b2 at *
      generalize Rx.matchC c t = R at *
      clear hb1
      go_enter Try.func26, Try.ntmps26
      go_wp2_with fail
      refine HC.out.mono ?_
      unfold CompEnd
      rw [HCC.out]
      rintro e w1 ⟨hb, g, rfl, hI⟩
      have HB := Lib.hid hb
      have HI := Lib.hid hI
      clear hb hI
      go_wp2_with fail
      refine (HM.out _ g w1 HI.out).mono ?_
      rintro e w2 ⟨rfl, hb2⟩
      have HB2 := Lib.hid (below_then HB.out HB.out.size hb2)
      clear hb2
      go_wp2
      refine bodyPost_ret (v := .tuple #[.bool R, .int .i64 0]) (by simp [results, Try.results26, go_sem]) rfl ⟨rfl, HB2.out⟩
end Go.Proofs.Ytnidjfmbbfoheaa
