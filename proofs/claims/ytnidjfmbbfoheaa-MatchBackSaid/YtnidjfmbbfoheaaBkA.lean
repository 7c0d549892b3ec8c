/- WALKS: strings.CutPrefix, match.Read. -/
import Derived.Test.YtnidjfmbbfoheaaInA
import Derived.Lib.IndexLaws
namespace Go.Proofs.Ytnidjfmbbfoheaa
set_option linter.unusedVariables false
set_option linter.unusedSimpArgs false
open Go.RowKit Go.BigFrame Go.Shelf

/-! ### where a byte is -/
def ixB (c : Nat) (s : List Nat) : Int := Lib.indexByte (bs s).data.toList (UInt8.ofNat c)
theorem index_any (c : Nat) (hc : c < 256) (s : List Nat) (w : World) : Calls Try.prog 57 #[.string (bs s), .int .u8 (c : Int)] w fun e w' => e = .returned (.int .i64 (ixB c s)) ∧ w' = w := by
  have h := Any.strings_IndexByte lay57 (bs s) (c : Int) w
  change Calls Try.prog 57 _ _ _ at h
  exact h
theorem bs_data (s : List Nat) : (bs s).data.toList = s.map UInt8.ofNat := by simp [bs]
theorem ofNat_inj {a b : Nat} (ha : a < 256) (hb : b < 256) (h : UInt8.ofNat a = UInt8.ofNat b) : a = b := by
  have := congrArg UInt8.toNat h
  simp at this
  omega
theorem ixB_ge (c : Nat) (s : List Nat) : -1 ≤ ixB c s := Lib.indexByte_ge _ _
theorem ixB_some {c : Nat} {s : List Nat} (hc : c < 256) (hs : ∀ x ∈ s, x < 256) {n : Nat} (h : ixB c s = n) : s[n]? = some c ∧ ∀ k : Nat, k < n → s[k]? ≠ some c := by
  unfold ixB at h
  rw [bs_data] at h
  obtain ⟨h1, h2⟩ := Lib.indexByte_some h
  constructor
  · rw [List.getElem?_map] at h1
    obtain ⟨x, hx, he⟩ := Option.map_eq_some_iff.1 h1
    rw [hx, ofNat_inj (hs x (List.mem_of_getElem? hx)) hc he]
  · intro k hk hx
    apply h2 k hk
    rw [List.getElem?_map, hx]
    rfl
theorem ixB_none {c : Nat} {s : List Nat} (h : ixB c s = -1) : ∀ k : Nat, s[k]? ≠ some c := by
  unfold ixB at h
  rw [bs_data] at h
  intro k hx
  apply Lib.indexByte_none h k
  rw [List.getElem?_map, hx]
  rfl
/-- The first of the two signs. -/
def firstB (s : List Nat) : Int := if 0 ≤ ixB 33 s ∧ (ixB 61 s < 0 ∨ ixB 33 s < ixB 61 s) then ixB 33 s else ixB 61 s
theorem firstB_lt (s : List Nat) (hs : ∀ x ∈ s, x < 256) : firstB s = -1 ∨ ∃ n : Nat, firstB s = n ∧ n < s.length := by
  have key : ∀ c, c < 256 → ixB c s = -1 ∨ ∃ n : Nat, ixB c s = n ∧ n < s.length := by
    intro c hc
    have := ixB_ge c s
    by_cases h : ixB c s = -1
    · exact .inl h
    · obtain ⟨n, hn⟩ : ∃ n : Nat, ixB c s = n := ⟨(ixB c s).toNat, by omega⟩
      exact .inr ⟨n, hn, (List.getElem?_eq_some_iff.1 (ixB_some hc hs hn).1).1⟩
  unfold firstB
  split
  · rename_i h
    rcases key 33 (by decide) with h1 | h1
    · omega
    · exact .inr h1
  · exact key 61 (by decide)

/-! ### prefixes -/
def preB (g t : List Nat) : Bool := decide (t.take g.length = g)
set_option maxRecDepth 100000 in
theorem pre_any (t g : List Nat) (ht : ∀ x ∈ t, x < 256) (hg : ∀ x ∈ g, x < 256) (lt : t.length ≤ 9223372036854775807) (lg : g.length ≤ 9223372036854775807) (w : World) : Calls Try.prog 114 #[.string (bs t), .string (bs g)] w fun e w' => e = .returned (.bool (preB g t)) ∧ w' = w := by
  have z1 := bs_size t
  have z2 := bs_size g
  by_cases h : g.length ≤ t.length
  · have hI : (g.length : Int) ≤ (t.length : Int) := by omega
    have hcmp := bs_beq (a := t.take g.length) (b := g) (fun x hx => ht x (List.mem_of_mem_take hx)) hg
    have htk := bs_take t g.length h
    have hp : preB g t = decide (t.take g.length = g) := rfl
    rw [hp]
    generalize decide (t.take g.length = g) = P at *
    generalize bs (t.take g.length) = tg at *
    clear hp ht hg
    generalize bs t = bt at *
    generalize bs g = bg at *
    go_enter Try.func114, Try.ntmps114
    go_wp2
    go_ret
    exact ⟨rfl, rfl⟩
  · have hI : ¬ (g.length : Int) ≤ (t.length : Int) := by omega
    have hp : preB g t = false := by
      unfold preB
      rw [decide_eq_false_iff_not]
      intro e
      have := congrArg List.length e
      rw [List.length_take] at this
      omega
    rw [hp]
    clear hp ht hg
    generalize bs t = bt at *
    generalize bs g = bg at *
    go_enter Try.func114, Try.ntmps114
    go_wp2
    go_ret
    exact ⟨rfl, rfl⟩
def cutB (g t : List Nat) : List Nat := if preB g t = true then t.drop g.length else t
def cutVal (g t : List Nat) : Value := .tuple #[.string (bs (cutB g t)), .bool (preB g t)]
set_option maxRecDepth 100000 in
theorem cut106 (t g : List Nat) (ht : ∀ x ∈ t, x < 256) (hg : ∀ x ∈ g, x < 256) (lt : t.length ≤ 9223372036854775807) (lg : g.length ≤ 9223372036854775807) (w : World) : Calls Try.prog 106 #[.string (bs t), .string (bs g)] w fun e w' => e = .returned (cutVal g t) ∧ w' = w := by
  have H := Lib.hid (fun w => pre_any t g ht hg lt lg w)
  have z1 := bs_size t
  have z2 := bs_size g
  unfold cutVal cutB
  cases h : preB g t with
  | true =>
    rw [h] at H
    have hle : g.length ≤ t.length := by
      unfold preB at h
      rw [decide_eq_true_eq] at h
      have := congrArg List.length h
      rw [List.length_take] at this
      omega
    have hI : (g.length : Int) ≤ (t.length : Int) := by omega
    rw [if_pos rfl]
    have hd := bs_drop t g.length
    generalize bs (t.drop g.length) = td at *
    clear h ht hg
    generalize bs t = bt at *
    generalize bs g = bg at *
    go_enter Try.func106, Try.ntmps106
    go_wp2_with fail
    refine (H.out _).mono ?_
    rintro e w1 ⟨rfl, rfl⟩
    go_wp2
    exact bodyPost_ret (v := .tuple #[.string td, .bool true]) (by simp [results, Try.results106, go_sem]) rfl ⟨rfl, rfl⟩
  | false =>
    rw [h] at H
    rw [if_neg (by simp)]
    clear h ht hg
    generalize bs t = bt at *
    generalize bs g = bg at *
    go_enter Try.func106, Try.ntmps106
    go_wp2_with fail
    refine (H.out _).mono ?_
    rintro e w1 ⟨rfl, rfl⟩
    go_wp2
    exact bodyPost_ret (v := .tuple #[.string bt, .bool false]) (by simp [results, Try.results106, go_sem]) rfl ⟨rfl, rfl⟩
set_option maxRecDepth 100000 in
theorem cut_any (t g : List Nat) (ht : ∀ x ∈ t, x < 256) (hg : ∀ x ∈ g, x < 256) (lt : t.length ≤ 9223372036854775807) (lg : g.length ≤ 9223372036854775807) (w : World) : Calls Try.prog 72 #[.string (bs t), .string (bs g)] w fun e w' => e = .returned (cutVal g t) ∧ w' = w := by
  have H := Lib.hid (fun w => cut106 t g ht hg lt lg w)
  unfold cutVal at *
  generalize bs (cutB g t) = td at *
  generalize preB g t = P at *
  clear ht hg
  generalize bs t = bt at *
  generalize bs g = bg at *
  go_enter Try.func72, Try.ntmps72
  go_wp2_with fail
  refine (H.out _).mono ?_
  rintro e w1 ⟨rfl, rfl⟩
  go_wp2
  exact bodyPost_ret (v := .tuple #[.string td, .bool P]) (by simp [results, Try.results72, go_sem]) rfl ⟨rfl, rfl⟩
end Go.Proofs.Ytnidjfmbbfoheaa
