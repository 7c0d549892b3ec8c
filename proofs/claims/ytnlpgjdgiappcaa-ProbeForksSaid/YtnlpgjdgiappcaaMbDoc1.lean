/- WALKS: the document's table (watchfireref15): New, Above, Get, Self. -/
import Derived.Test.YtnlpgjdgiappcaaMbAwake
import Derived.Test.YtnlpgjdgiappcaaMbOpen
import Derived.Test.YtnlpgjdgiappcaaCq
namespace Go.Proofs.Ytnlpgjdgiappcaa
set_option linter.unusedVariables false
set_option linter.unusedSimpArgs false
open Go.RowKit

theorem refAbove_any (a b : Pl.M) (w : World) :
    Calls Try.prog 30 #[.agg (mcells a), .agg (mcells b)] w fun e w' => e = .returned (.bool (Pl.above a b)) ∧ Below w.heap.size w w' := by
  unfold mcells
  go_enter Try.func30, Try.ntmps30
  go_wp2
  all_goals
    go_ret
    refine ⟨ret_bool ?_, ((Below.refl _ _).alloc (Nat.le_refl _) _).alloc (by simp) _⟩
    simp_all [Pl.above]
    try omega

theorem listT_new {z : Int} (h0 : 0 ≤ z) (h1 : z < 64) : Pl.listT (Pl.newT z) = [⟨z, 0, 0⟩] := by
  obtain ⟨k, rfl⟩ : ∃ k : Nat, z = k := ⟨z.toNat, by omega⟩
  rw [Pl.split_list _ k (by omega)]
  have e1 : (List.range k).filterMap (Pl.newT (k : Int)) = [] := by
    rw [List.filterMap_eq_nil_iff]; intro j hj; have := List.mem_range.1 hj; simp [Pl.newT]; omega
  have e2 : (List.range' (k + 1) (63 - k)).filterMap (Pl.newT (k : Int)) = [] := by
    rw [List.filterMap_eq_nil_iff]; intro j hj; have := List.mem_range'_1.1 hj; simp [Pl.newT]; omega
  rw [e1, e2]
  simp [Pl.newT]

theorem Blk.mem3 {w : World} {g : Nat} {a b c : Value} (h : Blk w g 25 #[a, b, c]) (x y z : Value) : Blk (((w.setCell ⟨g, 0, none⟩ x).setCell ⟨g, 1, none⟩ y).setCell ⟨g, 2, none⟩ z) g 25 #[x, y, z] :=
  ((h.set_ 0 x).set_ 1 y).set_ 2 z
theorem Blk.mem2 {w : World} {g : Nat} {t : TypeId} {a b : Value} (h : Blk w g t #[a, b]) (x y : Value) : Blk ((w.setCell ⟨g, 0, none⟩ x).setCell ⟨g, 1, none⟩ y) g t #[x, y] :=
  (h.set_ 0 x).set_ 1 y

theorem ReadsM.cellz {w : World} {S : Nat → Prop} {p o : Nat} {l : List Pl.M} (h : ReadsM w S (some ⟨p, o, none⟩) l) {k : Nat} {m : Pl.M} (hk : l[k]? = some m) :
    S p ∧ w.cell? ⟨p, o + k * 3, none⟩ = some (.int .u16 m.n) ∧ w.cell? ⟨p, o + k * 3 + 1, none⟩ = some (.int .u8 m.s) ∧ w.cell? ⟨p, o + k * 3 + 2, none⟩ = some (.int .i64 m.i) := by
  obtain ⟨p', o', e, h0, h1, h2, h3⟩ := h.at_ k m hk
  injection e with e
  injection e with e1 e2
  subst e1 e2
  exact ⟨h0, h1, h2, h3⟩

/-- A document's table. -/
def rtab (z : Int) (A : Option Addr) (n c : Nat) : Value := .agg #[.int .u16 z, .slice A n c]

set_option maxRecDepth 100000 in
set_option maxHeartbeats 1000000 in
theorem refNew_any (s : Int) (w : World) (h0 : 0 ≤ s) (h1 : s ≤ 65535) :
    Calls Try.prog 27 #[.int .u16 s] w fun e w' => ∃ A c, e = .returned (.agg #[.int .u16 (s % 64), .slice A 1 c]) ∧ Below w.heap.size w w' ∧ ReadsM w' (fun b => w.heap.size ≤ b) A [⟨s % 64, 0, 0⟩] := by
  obtain ⟨k, hk, hk2⟩ : ∃ k : Nat, s % 64 = (k : Int) ∧ k < 64 := ⟨(s % 64).toNat, by omega, by omega⟩
  go_enter Try.func27, Try.ntmps27
  go_wp2
  have B0 := (Blk.new w 46 #[.int .u16 (k : Int), .slice (some ⟨w.heap.size + 1, 0, none⟩) 1 1]).alloc (.cells #[.int .u16 (k : Int), .int .u8 0, .int .i64 0] 25)
  have B1 := Blk.new (w.alloc (.cells #[.int .u16 (k : Int), .slice (some ⟨w.heap.size + 1, 0, none⟩) 1 1] 46)) 25 #[.int .u16 (k : Int), .int .u8 0, .int .i64 0]
  have hb : Below w.heap.size w ((w.alloc (.cells #[.int .u16 (k : Int), .slice (some ⟨w.heap.size + 1, 0, none⟩) 1 1] 46)).alloc (.cells #[.int .u16 (k : Int), .int .u8 0, .int .i64 0] 25)) :=
    ((Below.refl _ _).alloc (Nat.le_refl _) _).alloc (by simp) _
  have hs1 : (w.alloc (.cells #[.int .u16 (k : Int), .slice (some ⟨w.heap.size + 1, 0, none⟩) 1 1] 46)).heap.size = w.heap.size + 1 := by simp
  rw [hs1] at B1
  generalize ((w.alloc (.cells #[.int .u16 (k : Int), .slice (some ⟨w.heap.size + 1, 0, none⟩) 1 1] 46)).alloc (.cells #[.int .u16 (k : Int), .int .u8 0, .int .i64 0] 25)) = W at *
  have q0 := B0.cell 0
  have q1 := B0.cell 1
  simp only [List.getElem?_toArray, List.getElem?_cons_zero, List.getElem?_cons_succ] at q0 q1
  refine bodyPost_ret (v := .agg #[.int .u16 (k : Int), .slice (some ⟨w.heap.size + 1, 0, none⟩) 1 1]) (by simp [results, Try.results27, go_sem, q0, q1]) rfl ⟨_, _, by rw [hk], hb, rfl, fun _ => ⟨_, _, rfl, by simp, ?_⟩⟩
  intro j u hu
  rw [Nat.zero_add, B1.cell j]
  rw [hk] at hu
  simpa [rows, row3] using hu

theorem find_none (L : List Pl.M) (n : Int) (k : Nat) (x : Pl.M) (h : Pl.findL (L.take k) n = none) (hx : L[k]? = some x) (hn : x.n ≠ n) : Pl.findL (L.take (k + 1)) n = none := by
  rw [take_one L k x hx]
  unfold Pl.findL at *
  rw [List.find?_append, h]
  simp [hn]
theorem find_some (L : List Pl.M) (n : Int) (k : Nat) (x : Pl.M) (h : Pl.findL (L.take k) n = none) (hx : L[k]? = some x) (hn : x.n = n) : Pl.findL L n = some x := by
  have hlt := (List.getElem?_eq_some_iff.1 hx).1
  have e : L = L.take k ++ L.drop k := (List.take_append_drop k L).symm
  have e2 : L.drop k = x :: L.drop (k + 1) := by
    rw [List.drop_eq_getElem_cons hlt]
    rw [List.getElem?_eq_getElem hlt] at hx
    injection hx with hx
    rw [hx]
  unfold Pl.findL at *
  rw [e, List.find?_append, h, e2]
  simp [hn]

set_option maxRecDepth 100000 in
set_option maxHeartbeats 1000000 in
theorem refGet_any (z n : Int) (A : Option Addr) (c : Nat) (L : List Pl.M) (w : World) (hR : ReadsM w (fun _ => True) A L) (hlen : L.length ≤ 65536) :
    Calls Try.prog 45 #[.agg #[.int .u16 z, .slice A L.length c], .int .u16 n] w fun e w' => e = .returned (getVal (Pl.findL L n)) ∧ Below w.heap.size w w' := by
  go_enter Try.func45, Try.ntmps45
  go_wp2
  have hb0 := (Blk.new w 46 #[.int .u16 z, .slice A L.length c]).alloc (.cells #[.int .u16 0, .int .u8 0, .int .i64 0] 25)
  have hb1 := Blk.new (w.alloc (.cells #[.int .u16 z, .slice A L.length c] 46)) 25 #[.int .u16 0, .int .u8 0, .int .i64 0]
  have hb : Below w.heap.size w ((w.alloc (.cells #[.int .u16 z, .slice A L.length c] 46)).alloc (.cells #[.int .u16 0, .int .u8 0, .int .i64 0] 25)) :=
    ((Below.refl _ _).alloc (Nat.le_refl _) _).alloc (by simp) _
  have hs1 : (w.alloc (.cells #[.int .u16 z, .slice A L.length c] 46)).heap.size = w.heap.size + 1 := by simp
  rw [hs1] at hb1
  have hR1 : ReadsM ((w.alloc (.cells #[.int .u16 z, .slice A L.length c] 46)).alloc (.cells #[.int .u16 0, .int .u8 0, .int .i64 0] 25)) (fun _ => True) A L := hR.below (by omega) hb
  generalize ((w.alloc (.cells #[.int .u16 z, .slice A L.length c] 46)).alloc (.cells #[.int .u16 0, .int .u8 0, .int .i64 0] 25)) = W at *
  have f1 := hb1.frozen
  have q0 := hb0.cell 0
  have q1 := hb0.cell 1
  have r0 := hb1.cell 0
  have r1 := hb1.cell 1
  have r2 := hb1.cell 2
  simp only [List.getElem?_toArray, List.getElem?_cons_zero, List.getElem?_cons_succ] at q0 q1 r0 r1 r2
  generalize hw : w.heap.size = b0 at *
  have B1 := Lib.hid hb1
  have HB := Lib.hid hb
  have RR := Lib.hid hR1
  have HW := Lib.hid hw
  clear hb0 hb1 hb hs1 hR hR1 hw
  go_loopw [6] (fun i wr => ∃ k : Nat, k ≤ L.length ∧ i = .int .i64 k ∧ Pl.findL (L.take k) n = none ∧ wr = W) (fun i _ => L.length - (intOf i).toNat)
  case atStart => exact ⟨0, Nat.zero_le _, rfl, by simp [Pl.findL], rfl⟩
  case round =>
    obtain ⟨k, hk, rfl, hf, rfl⟩ := hrel
    by_cases hlt : k < L.length
    · obtain ⟨x, hx⟩ : ∃ x, L[k]? = some x := ⟨L[k], List.getElem?_eq_getElem hlt⟩
      obtain ⟨p, o, rfl, -, d0, d1, d2⟩ := RR.out.at_ k x hx
      have HF := Lib.hid hf
      have HX := Lib.hid hx
      clear hf hx
      by_cases hn : x.n = n
      · have t0 : (x.n == n) = true := by simpa using hn
        have HFS := Lib.hid (find_some L n k x HF.out HX.out hn)
        clear hn
        go_wp2
        refine bodyPost_ret (v := getVal (Pl.findL L n)) (by rw [HFS.out]; simp [results, Try.results45, go_sem, r0, r1, r2, f1, getVal, mcells]) rfl ⟨rfl, ?_⟩
        rw [HW.out]
        first
          | exact HB.out
          | exact ((HB.out.setCell (p := ⟨b0 + 1, 0, none⟩) (by simp) _).setCell (p := ⟨b0 + 1, 1, none⟩) (by simp) _).setCell (p := ⟨b0 + 1, 2, none⟩) (by simp) _
      · have t0 : (x.n == n) = false := by simpa using hn
        have HFN := Lib.hid (find_none L n k x HF.out HX.out hn)
        clear hn
        go_wp2
        go_roundw
        case rel => exact ⟨k + 1, by omega, by go_num, HFN.out, trivial⟩
        case measure => simp [intOf]; omega
    · obtain rfl : k = L.length := by omega
      rw [List.take_length] at hf
      have HF := Lib.hid hf
      clear hf
      go_wp2
      refine bodyPost_ret (v := getVal (Pl.findL L n)) (by rw [HF.out]; simp [results, Try.results45, go_sem, r0, r1, r2, f1, getVal, mcells, mzero]) rfl ⟨rfl, ?_⟩
      rw [HW.out]
      first
        | exact HB.out
        | exact ((HB.out.setCell (p := ⟨b0 + 1, 0, none⟩) (by simp) _).setCell (p := ⟨b0 + 1, 1, none⟩) (by simp) _).setCell (p := ⟨b0 + 1, 2, none⟩) (by simp) _

set_option maxRecDepth 100000 in
set_option maxHeartbeats 1000000 in
theorem refSelf_any (z : Int) (A : Option Addr) (c : Nat) (L : List Pl.M) (m : Pl.M) (w : World) (hR : ReadsM w (fun _ => True) A L) (hlen : L.length ≤ 65536) (hm : Pl.findL L z = some m) :
    Calls Try.prog 47 #[.agg #[.int .u16 z, .slice A L.length c]] w fun e w' => e = .returned (.agg (mcells m)) ∧ Below w.heap.size w w' := by
  have HM := Lib.hid hm
  have HR := Lib.hid hR
  clear hm hR
  go_enter Try.func47, Try.ntmps47
  go_wp2_with fail
  have hb0 := (Blk.new w 46 #[.int .u16 z, .slice A L.length c]).alloc (.cells #[.int .u16 0, .int .u8 0, .int .i64 0] 25)
  have hb1 := Blk.new (w.alloc (.cells #[.int .u16 z, .slice A L.length c] 46)) 25 #[.int .u16 0, .int .u8 0, .int .i64 0]
  have hb : Below w.heap.size w ((w.alloc (.cells #[.int .u16 z, .slice A L.length c] 46)).alloc (.cells #[.int .u16 0, .int .u8 0, .int .i64 0] 25)) :=
    ((Below.refl _ _).alloc (Nat.le_refl _) _).alloc (by simp) _
  have hs1 : (w.alloc (.cells #[.int .u16 z, .slice A L.length c] 46)).heap.size = w.heap.size + 1 := by simp
  rw [hs1] at hb1
  have hR1 : ReadsM ((w.alloc (.cells #[.int .u16 z, .slice A L.length c] 46)).alloc (.cells #[.int .u16 0, .int .u8 0, .int .i64 0] 25)) (fun _ => True) A L := HR.out.below (by omega) hb
  generalize ((w.alloc (.cells #[.int .u16 z, .slice A L.length c] 46)).alloc (.cells #[.int .u16 0, .int .u8 0, .int .i64 0] 25)) = W at *
  generalize hw : w.heap.size = b0 at *
  have B1 := Lib.hid hb1
  have HB := Lib.hid hb
  have RR := Lib.hid hR1
  have HW := Lib.hid hw
  have hsz := hb1.lt
  clear hb0 hb1 hb hs1 HR hR1 hw
  refine (refGet_any z z A c L _ RR.out hlen).mono ?_
  rw [HM.out]
  rintro e w1 ⟨rfl, hb2⟩
  have B2 := Lib.hid (B1.out.below hb2 B1.out.lt)
  have K2 := Lib.hid (below_then HB.out (by have := B1.out.lt; omega) hb2)
  have f1 := B2.out.frozen
  have hsz2 := B2.out.lt
  have n1 : b0 + 1 ≠ w1.heap.size := by omega
  have r0 := B2.out.cell 0
  have r1 := B2.out.cell 1
  have r2 := B2.out.cell 2
  simp only [List.getElem?_toArray, List.getElem?_cons_zero, List.getElem?_cons_succ] at r0 r1 r2
  clear hb2
  simp only [getVal, mcells]
  go_wp2
  have B5 := (Blk.mem3 B2.out (.int .u16 m.n) (.int .u8 m.s) (.int .i64 m.i)).alloc (.cells #[.int .u16 m.n, .int .u8 m.s, .int .i64 m.i] 25)
  have K5 := (((K2.out.setCell (p := ⟨b0 + 1, 0, none⟩) (by simp) (.int .u16 m.n)).setCell (p := ⟨b0 + 1, 1, none⟩) (by simp) (.int .u8 m.s)).setCell (p := ⟨b0 + 1, 2, none⟩) (by simp) (.int .i64 m.i)).alloc (by simp [World.setCell]; omega) (.cells #[.int .u16 m.n, .int .u8 m.s, .int .i64 m.i] 25)
  generalize ((((w1.setCell ⟨b0 + 1, 0, none⟩ (.int .u16 m.n)).setCell ⟨b0 + 1, 1, none⟩ (.int .u8 m.s)).setCell ⟨b0 + 1, 2, none⟩ (.int .i64 m.i)).alloc (.cells #[.int .u16 m.n, .int .u8 m.s, .int .i64 m.i] 25)) = W5 at *
  have s0 := B5.cell 0
  have s1 := B5.cell 1
  have s2 := B5.cell 2
  simp only [List.getElem?_toArray, List.getElem?_cons_zero, List.getElem?_cons_succ] at s0 s1 s2
  refine bodyPost_ret (v := .agg (mcells m)) (by simp [results, Try.results47, go_sem, s0, s1, s2, mcells]) rfl ⟨rfl, ?_⟩
  rw [HW.out]
  exact K5

end Go.Proofs.Ytnlpgjdgiappcaa
