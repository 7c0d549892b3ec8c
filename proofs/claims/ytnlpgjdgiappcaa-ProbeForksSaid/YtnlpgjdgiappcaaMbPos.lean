/- WALKS: member's Position; every method of a table that is not there. -/
import Derived.Test.YtnlpgjdgiappcaaMbThere
namespace Go.Proofs.Ytnlpgjdgiappcaa
set_option linter.unusedVariables false
set_option linter.unusedSimpArgs false
open Go.RowKit Go.Shelf

theorem u16s_get (l : List Int) (k : Nat) (x : Int) (h : l[k]? = some x) : (u16s l)[k]? = some (.int .u16 x) := by simp [u16s, h]
def below_ (z : Int) (l : List Int) : Nat := (l.filter (fun n => decide (n < z))).length
theorem below_yes (z : Int) (l : List Int) (k : Nat) (x : Int) (h : l[k]? = some x) (hx : x < z) : below_ z (l.take (k + 1)) = below_ z (l.take k) + 1 := by
  rw [take_one l k x h]; simp [below_, List.filter_append, List.filter_cons, hx]
theorem below_no (z : Int) (l : List Int) (k : Nat) (x : Int) (h : l[k]? = some x) (hx : ¬ x < z) : below_ z (l.take (k + 1)) = below_ z (l.take k) := by
  rw [take_one l k x h]; simp [below_, List.filter_append, List.filter_cons, hx]
theorem below_le (z : Int) (l : List Int) : below_ z l ≤ l.length := List.length_filter_le _ _
theorem there_length (f : Pl.Tab) : (Pl.thereT f).length ≤ 64 := by
  unfold Pl.thereT Pl.listT
  rw [List.length_map]
  refine Nat.le_trans (List.length_filter_le _ _) ?_
  have := List.length_filterMap_le f (List.range 64)
  rwa [List.length_range] at this

set_option maxRecDepth 100000 in
set_option maxHeartbeats 1000000 in
theorem position_any (g : Nat) (z : Int) (f : Pl.Tab) (w : World) (hT : IsT w g z f) :
    Calls Try.prog 26 #[.pointer (some ⟨g, 0, none⟩)] w fun e w' => e = .returned (.int .i64 (Pl.posT z f)) ∧ Below w.heap.size w w' := by
  have hg := hT.lt
  have hl := there_length f
  go_enter Try.func26, Try.ntmps26
  go_wp2_with fail
  refine (there_any g z f _ hT).mono ?_
  rintro e w1 ⟨v, rfl, ho, hb⟩
  obtain ⟨A, c, rfl, hr⟩ := Reads.of_own ho
  have hT1 := hT.below hb hg
  have c0 := hT1.self_
  clear hT hT1 ho
  generalize ht : Pl.thereT f = l at *
  have HT := Lib.hid ht
  have HB := Lib.hid hb
  clear ht hb
  go_wp2
  go_loop [3, 9] (fun n i => ∃ k : Nat, k ≤ l.length ∧ i = .int .i64 k ∧ n = .int .i64 (below_ z (l.take k))) (fun _ i => l.length - (intOf i).toNat)
  case atStart => exact ⟨0, Nat.zero_le _, rfl, by simp [below_]⟩
  case round =>
    obtain ⟨k, hk, rfl, rfl⟩ := hrel
    have h3 := below_le z (l.take k)
    have h4 : (l.take k).length ≤ k := List.length_take_le _ _
    by_cases hlt : k < l.length
    · obtain ⟨x, hx⟩ : ∃ x, l[k]? = some x := ⟨l[k], List.getElem?_eq_getElem hlt⟩
      obtain ⟨b, o, rfl, _, hc⟩ := hr.2 (by omega)
      have hcell := hc k _ (u16s_get l k x hx)
      have HR := Lib.hid hr
      clear hr hc
      by_cases hxz : x < z
      · have HY := Lib.hid (below_yes z l k x hx hxz)
        have HX := Lib.hid hx
        clear hx
        go_wp2
        exact ⟨⟨k + 1, by omega, by go_num, by rw [HY.out]; go_num⟩, by simp [intOf]; omega⟩
      · have HY := Lib.hid (below_no z l k x hx hxz)
        have HX := Lib.hid hx
        clear hx
        go_wp2
        exact ⟨⟨k + 1, by omega, by go_num, by rw [HY.out]⟩, by simp [intOf]; omega⟩
    · obtain rfl : k = l.length := by omega
      rw [List.take_length]
      go_wp2
      go_ret
      refine ⟨?_, HB.out⟩
      have e : below_ z l = Pl.posT z f := by rw [← HT.out]; rfl
      rw [← e]
      rfl

/-! ### a table that is not there -/
set_option maxHeartbeats 400000 in
theorem hear_nil (m : Pl.M) (w : World) : Calls Try.prog 18 #[.pointer none, .agg (mcells m)] w fun e w' => e = .returned (heardVal none) ∧ Below w.heap.size w w' := by
  unfold mcells
  go_enter Try.func18, Try.ntmps18
  go_wp2
  refine bodyPost_ret (v := heardVal none) (by simp [results, Try.results18, go_sem, heardVal, mcells, mzero]) rfl ⟨rfl, ?_⟩
  exact ((Below.refl _ _).alloc (Nat.le_refl _) _).alloc (by simp) _
set_option maxHeartbeats 400000 in
theorem get_nil (n : Int) (w : World) : Calls Try.prog 20 #[.pointer none, .int .u16 n] w fun e w' => e = .returned (getVal none) ∧ Below w.heap.size w w' := by
  go_enter Try.func20, Try.ntmps20
  go_wp2
  refine bodyPost_ret (v := getVal none) (by simp [results, Try.results20, go_sem, getVal, mcells, mzero]) rfl ⟨rfl, ?_⟩
  exact (Below.refl _ _).alloc (Nat.le_refl _) _
set_option maxHeartbeats 400000 in
theorem self_nil (w : World) : Calls Try.prog 19 #[.pointer none] w fun e w' => e = .returned (.agg (mcells mzero)) ∧ Below w.heap.size w w' := by
  go_enter Try.func19, Try.ntmps19
  go_wp2
  refine bodyPost_ret (v := .agg (mcells mzero)) (by simp [results, Try.results19, go_sem, mcells, mzero]) rfl ⟨rfl, ?_⟩
  exact (Below.refl _ _).alloc (Nat.le_refl _) _
set_option maxHeartbeats 400000 in
theorem fork_nil (w : World) : Calls Try.prog 32 #[.pointer none] w fun e w' => e = .returned (.pointer none) ∧ Below w.heap.size w w' := by
  go_enter Try.func32, Try.ntmps32
  go_wp2
  go_ret
  exact ⟨rfl, Below.refl _ _⟩

set_option maxRecDepth 100000 in
set_option maxHeartbeats 1000000 in
theorem merge_nil (A : Option Addr) (c : Nat) (l : List Pl.M) (w : World) (hlen : l.length ≤ 65536) (hR : ReadsM w (fun _ => True) A l) :
    Calls Try.prog 22 #[.pointer none, .slice A l.length c] w fun e w' => e = .returned (.slice none 0 0) ∧ Below w.heap.size w w' := by
  go_enter Try.func22, Try.ntmps22
  go_wp2
  go_loopw [5, 12] (fun v i wr => ∃ k : Nat, k ≤ l.length ∧ i = .int .i64 k ∧ v = .slice none 0 0 ∧ Below w.heap.size w wr) (fun _ i _ => l.length - (intOf i).toNat)
  case atStart => exact ⟨0, Nat.zero_le _, rfl, rfl, Below.refl _ _⟩
  case round =>
    obtain ⟨k, hk, rfl, rfl, hb⟩ := hrel
    by_cases hlt : k < l.length
    · obtain ⟨m, hmk⟩ : ∃ m, l[k]? = some m := ⟨l[k], List.getElem?_eq_getElem hlt⟩
      have hR' : ReadsM wr (fun _ => True) A l := hR.below (by omega) hb
      obtain ⟨b, o, rfl, _, r0, r1, r2⟩ := hR'.at_ k m hmk
      have HR := Lib.hid hR
      have HB := Lib.hid hb
      clear hR hR' hb hmk
      go_wp2_with fail
      refine (hear_nil m _).mono ?_
      rintro e w1 ⟨rfl, hb1⟩
      have HB1 := Lib.hid (below_then ((HB.out.alloc HB.out.size (.cells #[.int .u16 m.n, .int .u8 m.s, .int .i64 m.i] 25))) (by have := HB.out.size; simp; omega) hb1)
      clear hb1
      simp only [heardVal, mzero, mcells]
      go_wp2
      go_roundw
      case rel => exact ⟨k + 1, by omega, by go_num, rfl, HB1.out.alloc HB1.out.size _⟩
      case measure => simp [intOf]; omega
    · obtain rfl : k = l.length := by omega
      go_wp2
      go_ret
      exact ⟨rfl, hb⟩

end Go.Proofs.Ytnlpgjdgiappcaa
