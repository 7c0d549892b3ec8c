/- WALKS: health's Due. -/
import Derived.Test.YtadhcnfgbiokcaaHeArr
import Derived.Test.YtadhcnfgbiokcaaHeSus5
namespace Go.Proofs.Ytadhcnfgbiokcaa
set_option linter.unusedVariables false
set_option linter.unusedSimpArgs false
open Go.RowKit
/-- A member. -/
structure Mb where
  n : Int
  s : Int
  i : Int
def row3 (m : Mb) : List Value := [.int .u16 m.n, .int .u8 m.s, .int .i64 m.i]
def rows (l : List Mb) : List Value := l.flatMap row3
theorem rows_length (l : List Mb) : (rows l).length = l.length * 3 := by
  induction l with
  | nil => rfl
  | cons m l ih => simp only [rows, List.flatMap_cons, List.length_append, List.length_cons] at *; rw [ih]; simp [row3]; omega
theorem rows_append (a b : List Mb) : rows (a ++ b) = rows a ++ rows b := by simp [rows]
theorem rows_get (l : List Mb) (k : Nat) (m : Mb) (h : l[k]? = some m) : (rows l)[k * 3]? = some (.int .u16 m.n) ∧ (rows l)[k * 3 + 1]? = some (.int .u8 m.s) ∧ (rows l)[k * 3 + 2]? = some (.int .i64 m.i) := by
  induction l generalizing k with
  | nil => simp at h
  | cons x l ih =>
    have e : rows (x :: l) = .int .u16 x.n :: .int .u8 x.s :: .int .i64 x.i :: rows l := rfl
    rw [e]
    cases k with
    | zero => simp at h; subst h; simp
    | succ k =>
      simp at h
      have h0 : (k + 1) * 3 = k * 3 + 3 := by omega
      rw [h0]
      simpa using ih k h
/-- Who of the first n is due. -/
def dueS (h : Hs) (now : Int) : Nat → List Mb
  | 0 => []
  | n + 1 => dueS h now n ++ (match h.s n with | some x => if endOf h x ≤ now then [⟨(n : Int), 1, x.i⟩] else [] | none => [])
theorem dueS_le (h : Hs) (now : Int) (n : Nat) : (dueS h now n).length ≤ n := by
  induction n with
  | zero => exact Nat.le_refl _
  | succ n ih =>
    unfold dueS
    rw [List.length_append]
    split
    · split
      · simp; omega
      · simp; omega
    · simp; omega
theorem member_info : (Try.prog.info? 33).map (fun i => (i.zero, i.size, i.bytes)) = some (some (.agg #[.int .u16 0, .int .u8 0, .int .i64 0]), 3, 16) := by kernel_rfl
theorem und46 : Try.prog.underlying 46 = some (.slice 33) := by kernel_rfl
set_option maxRecDepth 100000 in
set_option maxHeartbeats 2000000 in
theorem due_any (g : Nat) (h : Hs) (now : Int) (w : World) (H : IsH w g h) (HO : HsOk h) :
    Calls Try.prog 17 #[.pointer (some ⟨g, 0, none⟩), .int .i64 now] w fun e w' => ∃ v, e = .returned v ∧ w'.ownsRow w.heap.size 33 3 v (dueS h now 64).length (rows (dueS h now 64)) ∧ Below w.heap.size w w' := by
  have hlt := H.lt
  have HH := Lib.hid H
  have HHO := Lib.hid HO
  clear H HO
  go_enter Try.func17, Try.ntmps17
  go_wp2_with fail
  refine wp_load_mid 67 _ rfl g 5 rfl (susCells h) _ HH.out.row und67 rfl (by rw [siz67, susCells_length]) ?_
  have HI := Lib.hid (fun j h0 h1 w => index67_su h j h0 h1 w)
  generalize (susCells h).toArray = A at *
  go_wp2
  go_loopw [5, 14] (fun v i wr => ∃ k : Nat, k ≤ 64 ∧ i = .int .i64 k ∧ wr.ownsRow w.heap.size 33 3 v (dueS h now k).length (rows (dueS h now k)) ∧ Below w.heap.size w wr) (fun _ i _ => 64 - (intOf i).toNat)
  case atStart => exact ⟨0, Nat.zero_le _, rfl, by simpa [dueS, rows] using own_nil w w.heap.size 33 3, Below.refl _ _⟩
  case round =>
    obtain ⟨k, hk, rfl, hown, hb⟩ := hrel
    have hle := dueS_le h now k
    have hb0 := hb.size
    have HB := Lib.hid hb
    have HOw := Lib.hid hown
    clear hb hown
    by_cases hlt : k < 64
    · have hltI : (k : Int) < 64 := by omega
      have hk0 : (0 : Int) ≤ (k : Int) := by omega
      have hl1 : dueS h now (k + 1) = dueS h now k ++ (match h.s k with | some x => if endOf h x ≤ now then [⟨(k : Int), 1, x.i⟩] else [] | none => []) := rfl
      have HL1 := Lib.hid hl1
      clear hl1
      have i0 := fun w => HI.out (k : Int) (by omega) (by omega) w
      rw [Int.toNat_natCast] at i0
      cases hx : h.s k with
      | none =>
        have HX := Lib.hid hx
        rw [hx] at i0
        clear hx
        simp only [su] at i0
        go_wp2
        go_roundw
        case rel =>
          refine ⟨k + 1, by omega, by go_num, ?_, HB.out.alloc hb0 _⟩
          rw [HL1.out, HX.out, List.append_nil]; exact HOw.out.alloc _
        case measure => simp [intOf]; omega
      | some x =>
        have HX := Lib.hid hx
        rw [hx] at i0
        have hso := HHO.out.su k x hx
        have HS := Lib.hid hso
        clear hx hso
        simp only [su] at i0
        have hlg : g < (wr.alloc (.cells #[.bool true, .int .i64 x.i, .int .i64 x.f, .int .u64 (x.w : Int)] 66)).heap.size := by simp; omega
        go_wp2_with fail
        refine (ends_any g h x _ ((HH.out.below HB.out HH.out.lt).alloc _) HHO.out.ok HS.out.w HS.out.o1 HS.out.o2 HS.out.f).mono ?_
        rintro e w1 ⟨rfl, hb1⟩
        have hlx : wr.heap.size < (wr.alloc (.cells #[.bool true, .int .i64 x.i, .int .i64 x.f, .int .u64 (x.w : Int)] 66)).heap.size := by simp
        have B1 := (Blk.new wr 66 #[.bool true, .int .i64 x.i, .int .i64 x.f, .int .u64 (x.w : Int)]).below hb1 hlx
        have c1 := B1.cell 1
        simp only [List.getElem?_toArray, List.getElem?_cons_zero, List.getElem?_cons_succ] at c1
        have HO1 := Lib.hid (own_below (HOw.out.alloc (.cells #[.bool true, .int .i64 x.i, .int .i64 x.f, .int .u64 (x.w : Int)] 66)) hb1)
        have HB1 := Lib.hid (below_then (HB.out.alloc hb0 (.cells #[.bool true, .int .i64 x.i, .int .i64 x.f, .int .u64 (x.w : Int)] 66)) (by have := HB.out.size; simp; omega) hb1)
        have hs1 : w.heap.size ≤ w1.heap.size := HB1.out.size
        clear hb1 B1
        obtain ⟨E, hE⟩ : ∃ E, endOf h x = E := ⟨_, rfl⟩
        rw [hE]
        have HE := Lib.hid hE
        clear hE
        by_cases hdue : E ≤ now
        · go_wp2_with (at_builtin; (refine app_row w.heap.size rfl (.tmp 27) (.tmp 33) 46 33 _ 3 16 rfl und46 member_info rfl (by omega) _ _ _ _ rfl _ rfl (by simp) (by simp [Value.oneCell']) rfl HO1.out hs1 (by omega) (by omega) ?_); intro v1 w2 ho2 hg2 hat)
          go_roundw
          case rel =>
            have hrow : ∀ q, u5.ownBlock = some q → w.heap.size ≤ q := own_base HO1.out
            refine ⟨k + 1, by omega, by go_num, ?_, HB1.out.trans (below_of_grown hs1 hg2 hrow)⟩
            rw [HL1.out, HX.out]
            simp only
            rw [HE.out, if_pos hdue, List.length_append, rows_append]
            exact ho2
          case measure => simp [intOf]; omega
        · go_wp2
          go_roundw
          case rel =>
            refine ⟨k + 1, by omega, by go_num, ?_, HB1.out⟩
            rw [HL1.out, HX.out]
            simp only
            rw [HE.out, if_neg (by omega), List.append_nil]
            exact HO1.out
          case measure => simp [intOf]; omega
    · obtain rfl : k = 64 := by omega
      go_wp2
      go_ret
      exact ⟨_, rfl, HOw.out, HB.out⟩
end Go.Proofs.Ytadhcnfgbiokcaa
