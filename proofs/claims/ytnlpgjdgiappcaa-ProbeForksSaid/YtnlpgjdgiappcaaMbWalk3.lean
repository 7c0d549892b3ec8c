/- WALKS: member's Fork, Merge. -/
import Derived.Test.YtnlpgjdgiappcaaMbWalk2
namespace Go.Proofs.Ytnlpgjdgiappcaa
set_option linter.unusedVariables false
set_option linter.unusedSimpArgs false
open Go.RowKit

theorem tl_one (z : Int) (f : Pl.Tab) : ∀ v ∈ tl z f, v.oneCell' = true := by
  intro v hv
  unfold tl at hv
  rcases List.mem_cons.1 hv with rfl | hv
  · rfl
  · obtain ⟨k, _, hk⟩ := List.mem_flatMap.1 hv
    cases h : f k <;> rw [h] at hk <;> simp [sc] at hk <;> rcases hk with rfl | rfl | rfl | rfl <;> rfl

theorem zero_size : Try.zeroCells98.size = 257 := by kernel_rfl
theorem fork_there (w : World) (z : Int) (f : Pl.Tab) : (w.alloc (.cells Try.zeroCells98 98)).there w.heap.size 0 (tl z f).toArray.size :=
  (Blk.new w 98 Try.zeroCells98).there _ (by rw [zero_size, List.size_toArray, tl_length]; omega)
theorem fork_info (z : Int) (f : Pl.Tab) : (Try.prog.info? 98).map (·.size) = some (tl z f).toArray.size := by rw [List.size_toArray, tl_length]; kernel_rfl

set_option maxRecDepth 100000 in
set_option maxHeartbeats 400000 in
theorem fork_any (g : Nat) (z : Int) (f : Pl.Tab) (w : World) (hT : IsT w g z f) :
    Calls Try.prog 32 #[.pointer (some ⟨g, 0, none⟩)] w fun e w' => ∃ g', e = .returned (.pointer (some ⟨g', 0, none⟩)) ∧ Below w.heap.size w w' ∧ w.heap.size ≤ g' ∧ IsT w' g' z f := by
  have hr : w.rangeAt g 0 (tl z f) := by have := Blk.range hT; simpa [tcells] using this
  have hl := tl_length z f
  have h1 := fork_there w z f
  have h2 := fork_info z f
  have h3 := all_oneCell_toArray (tl_one z f)
  have H1 := Lib.hid h1
  have H2 := Lib.hid h2
  have H3 := Lib.hid h3
  have HT := Lib.hid hT
  have HL := Lib.hid hl
  clear hT hl h1 h2 h3
  go_enter Try.func32, Try.ntmps32
  go_wp2_with (first | (refine wpList_load_mid rfl 98 _ rfl g 0 rfl (tl z f) _ hr Try.underlying98 rfl (by rw [HL.out]; kernel_rfl) ?_) | (refine wpList_store_mid rfl 98 _ _ rfl w.heap.size 0 (tl z f).toArray rfl rfl H1.out H2.out H3.out ?_))
  go_ret
  refine ⟨w.heap.size, rfl, below_setCells (Nat.le_refl _) _ _ ((Below.refl _ _).alloc (Nat.le_refl _) _), Nat.le_refl _, ?_⟩
  have h := Blk.setCells (tl z f) 0 (Blk.new w 98 Try.zeroCells98)
  rw [setAll_whole _ _ (by rw [HL.out, zero_size])] at h
  exact h

/-! ### members in a row -/
def row3 (m : Pl.M) : List Value := [.int .u16 m.n, .int .u8 m.s, .int .i64 m.i]
def rows (l : List Pl.M) : List Value := l.flatMap row3
theorem rows_length (l : List Pl.M) : (rows l).length = l.length * 3 := by
  induction l with
  | nil => rfl
  | cons m l ih => simp only [rows, List.flatMap_cons, List.length_append, List.length_cons] at *; rw [ih]; simp [row3]; omega
theorem rows_append (a b : List Pl.M) : rows (a ++ b) = rows a ++ rows b := by simp [rows]
theorem rows_get (l : List Pl.M) (k : Nat) (m : Pl.M) (h : l[k]? = some m) : (rows l)[k * 3]? = some (.int .u16 m.n) ∧ (rows l)[k * 3 + 1]? = some (.int .u8 m.s) ∧ (rows l)[k * 3 + 2]? = some (.int .i64 m.i) := by
  induction l generalizing k with
  | nil => simp at h
  | cons x l ih =>
    have e : rows (x :: l) = .int .u16 x.n :: .int .u8 x.s :: .int .i64 x.i :: rows l := rfl
    rw [e]
    cases k with
    | zero => simp at h; subst h; simp
    | succ k =>
      simp at h
      have h0 : (k + 1) * 3 = k * 3 + 3 := by omega
      rw [h0]
      simpa using ih k h
/-- A slice value reads as members. -/
def ReadsM (w : World) (S : Nat → Prop) (A : Option Addr) (l : List Pl.M) : Prop := Reads w S 3 A l.length (rows l)
theorem ReadsM.at_ {w : World} {S : Nat → Prop} {A : Option Addr} {l : List Pl.M} (h : ReadsM w S A l) (k : Nat) (m : Pl.M) (hk : l[k]? = some m) :
    ∃ b o, A = some ⟨b, o, none⟩ ∧ S b ∧ w.cell? ⟨b, o + k * 3, none⟩ = some (.int .u16 m.n) ∧ w.cell? ⟨b, o + k * 3 + 1, none⟩ = some (.int .u8 m.s) ∧ w.cell? ⟨b, o + k * 3 + 2, none⟩ = some (.int .i64 m.i) := by
  have hlt := (List.getElem?_eq_some_iff.1 hk).1
  obtain ⟨b, o, hA, hb, hc⟩ := h.2 (by omega)
  obtain ⟨h0, h1, h2⟩ := rows_get l k m hk
  exact ⟨b, o, hA, hb, hc _ _ h0, hc _ _ h1, hc _ _ h2⟩

theorem member_info : (Try.prog.info? 25).map (fun i => (i.zero, i.size, i.bytes)) = some (some (.agg #[.int .u16 0, .int .u8 0, .int .i64 0]), 3, 16) := by kernel_rfl

theorem take_one {α : Type} (l : List α) (k : Nat) (x : α) (h : l[k]? = some x) : l.take (k + 1) = l.take k ++ [x] := by
  rw [List.take_add_one, h]; rfl

theorem told_length (z : Int) (f : Pl.Tab) (l : List Pl.M) : (Pl.told z f l).length ≤ l.length := by
  induction l generalizing f with
  | nil => simp [Pl.told]
  | cons m l ih =>
    have := ih (Pl.heard z f m)
    cases h : Pl.hear z f m <;> simp [Pl.told, h] <;> omega

theorem grown_own {w W w2 : World} {g : Nat} {row : Option Nat} (h : w.grownBy W (some g)) (k : W.grownBy w2 row) (hr : ∀ q, row = some q → w.heap.size ≤ q) : w.grownBy w2 (some g) :=
  ⟨k.os.trans h.os, k.tape.trans h.tape, k.output.trans h.output, Nat.le_trans h.size k.size,
    fun i hi hne => (k.block i (Nat.lt_of_lt_of_le hi h.size) (fun e => by have := hr i e.symm; omega)).trans (h.block i hi hne)⟩

set_option maxRecDepth 100000 in
set_option maxHeartbeats 2000000 in
theorem merge_any (g : Nat) (z : Int) (f : Pl.Tab) (A : Option Addr) (c : Nat) (l : List Pl.M) (w : World) (hT : IsT w g z f) (hm : ∀ m ∈ l, Pl.MOk m) (hlen : l.length ≤ 65536) (hR : ReadsM w (fun b => b ≠ g) A l) :
    Calls Try.prog 22 #[.pointer (some ⟨g, 0, none⟩), .slice A l.length c] w fun e w' => ∃ v, e = .returned v ∧ w'.ownsRow w.heap.size 25 3 v (Pl.told z f l).length (rows (Pl.told z f l)) ∧ w.grownBy w' (some g) ∧ IsT w' g z (Pl.merge z f l) := by
  have hg := hT.lt
  go_enter Try.func22, Try.ntmps22
  go_wp2
  go_loopw [5, 12] (fun v i wr => ∃ k : Nat, k ≤ l.length ∧ i = .int .i64 k ∧ wr.ownsRow w.heap.size 25 3 v (Pl.told z f (l.take k)).length (rows (Pl.told z f (l.take k))) ∧ w.grownBy wr (some g) ∧ IsT wr g z (Pl.merge z f (l.take k))) (fun _ i _ => l.length - (intOf i).toNat)
  case atStart => exact ⟨0, Nat.zero_le _, rfl, by simpa [Pl.told, rows] using own_nil w w.heap.size 25 3, grown_of_below (Below.refl _ _) _, by simpa [Pl.merge] using hT⟩
  case round =>
    obtain ⟨k, hk, rfl, hown, hgr, hT'⟩ := hrel
    by_cases hlt : k < l.length
    · obtain ⟨m, hmk⟩ : ∃ m, l[k]? = some m := ⟨l[k], List.getElem?_eq_getElem hlt⟩
      have hR' : ReadsM wr (fun b => b ≠ g) A l := hR.grown (by omega) hgr (fun b hb e => hb (by injection e))
      obtain ⟨b, o, rfl, hb, r0, r1, r2⟩ := hR'.at_ k m hmk
      have hmo := hm m (List.mem_of_getElem? hmk)
      have HR := Lib.hid hR
      have HO := Lib.hid hown
      have HG := Lib.hid hgr
      have HT := Lib.hid hT'
      have HK := Lib.hid hmk
      clear hR hR' hown hgr hT' hT hmk
      go_wp2_with fail
      refine (hear_any g z _ m _ (HT.out.alloc _) hmo).mono ?_
      rintro e w1 ⟨rfl, hg1, hT1⟩
      have hg2 : w.grownBy w1 (some g) := World.grownBy.trans HG.out (World.grownBy.trans (World.grownBy_alloc wr _ _) hg1)
      have ho2 := own_grown (HO.out.alloc (.cells #[.int .u16 m.n, .int .u8 m.s, .int .i64 m.i] 25)) hg1 (fun q e hq => by injection e with e; have := own_base HO.out q hq; omega)
      have hge : w.heap.size ≤ w1.heap.size := hg2.size
      have HG1 := Lib.hid hg2
      have HO1 := Lib.hid ho2
      have HT1 := Lib.hid hT1
      have hlen2 := told_length z f (l.take k)
      have hlen3 : (l.take k).length ≤ k := List.length_take_le _ _
      have e1 : Pl.told z f (l.take (k + 1)) = Pl.told z f (l.take k) ++ (Pl.hear z (Pl.merge z f (l.take k)) m).toList := by rw [take_one l k m HK.out, Pl.told_append]; simp [Pl.told]
      have e2 : Pl.merge z f (l.take (k + 1)) = Pl.heard z (Pl.merge z f (l.take k)) m := by rw [take_one l k m HK.out, Pl.merge_append]; rfl
      have E1 := Lib.hid e1
      have E2 := Lib.hid e2
      clear e1 e2 hg1 hg2 ho2 hT1
      generalize hx : Pl.hear z (Pl.merge z f (l.take k)) m = x at *
      have HX := Lib.hid hx
      clear hx
      cases x with
      | none =>
        simp only [heardVal, mzero, mcells]
        go_wp2
        go_roundw
        case rel =>
          refine ⟨k + 1, by omega, by go_num, ?_, grown_alloc HG1.out _, ?_⟩
          · rw [E1.out, Option.toList_none, List.append_nil]; exact HO1.out.alloc _
          · rw [E2.out]; exact HT1.out.alloc _
        case measure => simp [intOf]; omega
      | some x =>
        simp only [heardVal, mcells]
        have hg3 := HO1.out.alloc (.cells #[.int .u16 x.n, .int .u8 x.s, .int .i64 x.i] 25)
        have HO2 := Lib.hid hg3
        clear hg3
        go_wp2_with (at_builtin; (refine app_row w.heap.size rfl (.tmp 23) (.tmp 25) 36 25 _ 3 16 rfl Try.underlying36 member_info rfl (by omega) _ _ _ _ rfl _ rfl (by simp) (by simp [Value.oneCell']) rfl HO2.out (by simp; omega) (by omega) (by omega) ?_); intro v1 w2 ho2 hg2 hat)
        go_roundw
        case rel =>
          have hrow : ∀ q, u5.ownBlock = some q → w.heap.size ≤ q := own_base HO1.out
          refine ⟨k + 1, by omega, by go_num, ?_, grown_own (grown_alloc HG1.out _) hg2 hrow, ?_⟩
          · rw [E1.out, Option.toList_some, List.length_append, rows_append]; exact ho2
          · rw [E2.out]; exact (HT1.out.alloc _).grown hg2 (fun e => by have := hrow g e.symm; omega)
        case measure => simp [intOf]; omega
    · obtain rfl : k = l.length := by omega
      rw [List.take_length] at hown hT'
      go_wp2
      go_ret
      exact ⟨_, rfl, hown, hgr, hT'⟩

end Go.Proofs.Ytnlpgjdgiappcaa
