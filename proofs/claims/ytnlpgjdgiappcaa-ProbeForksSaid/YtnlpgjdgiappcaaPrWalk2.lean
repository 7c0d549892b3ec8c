/- WALKS: the document's probe: Watch. -/
import Derived.Test.YtnlpgjdgiappcaaPrWalk1
namespace Go.Proofs.Ytnlpgjdgiappcaa
set_option linter.unusedVariables false
set_option linter.unusedSimpArgs false
open Go.RowKit

set_option maxRecDepth 100000 in
set_option maxHeartbeats 2000000 in
theorem refWatch_out (f0 f1 f2 f3 f4 : Int) (f5 f6 : Bool) (f7 f8 : Int) (A : Option Addr) (n c : Nat) (y0 y1 y2 now : Int) (w : World) (h : y1 ≠ 1 ∨ (y1 = 1 ∧ 64 ≤ y0) ∨ (y1 = 1 ∧ ¬ 64 ≤ y0 ∧ y0 = f0) ∨ (y1 = 1 ∧ ¬ 64 ≤ y0 ∧ y0 ≠ f0 ∧ now < 0) ∨ (y1 = 1 ∧ ¬ 64 ≤ y0 ∧ y0 ≠ f0 ∧ ¬ now < 0 ∧ 1099511627776 < now)) :
    Calls Try.prog 59 #[.agg #[.int .u16 f0, .int .i64 f1, .int .i64 f2, .int .i64 f3, .int .i64 f4, .bool f5, .bool f6, .int .u16 f7, .int .i64 f8, .slice A n c], .agg #[.int .u16 y0, .int .u8 y1, .int .i64 y2], .int .i64 now] w fun e w' => e = .returned (.agg #[.int .u16 f0, .int .i64 f1, .int .i64 f2, .int .i64 f3, .int .i64 f4, .bool f5, .bool f6, .int .u16 f7, .int .i64 f8, .slice A n c]) ∧ Below w.heap.size w w' := by
  rcases h with h1 | ⟨rfl, h2⟩ | ⟨rfl, h2, rfl⟩ | ⟨rfl, h2, h3, h4⟩ | ⟨rfl, h2, h3, h4, h5⟩
  · have h1 : (y1 != 1) = true := by rw [bne_iff_ne]; exact h1
    go_enter Try.func59, Try.ntmps59
    go_wp2
    have s2 : ((w.alloc (.cells #[.int .u16 f0, .int .i64 f1, .int .i64 f2, .int .i64 f3, .int .i64 f4, .bool f5, .bool f6, .int .u16 f7, .int .i64 f8, .slice A n c] 81)).alloc (.cells #[.int .u16 y0, .int .u8 y1, .int .i64 y2] 25)).heap.size = w.heap.size + 1 + 1 := by simp
    have fb := Blk.new_at' (w := (w.alloc (.cells #[.int .u16 f0, .int .i64 f1, .int .i64 f2, .int .i64 f3, .int .i64 f4, .bool f5, .bool f6, .int .u16 f7, .int .i64 f8, .slice A n c] 81)).alloc (.cells #[.int .u16 y0, .int .u8 y1, .int .i64 y2] 25)) (t := 81) (cs := #[.int .u16 f0, .int .i64 f1, .int .i64 f2, .int .i64 f3, .int .i64 f4, .bool f5, .bool f6, .int .u16 f7, .int .i64 f8, .slice A n c]) (g := w.heap.size + 1 + 1) s2.symm
    clear s2
    have s0 := fb.cell 0
    have s1 := fb.cell 1
    have s2 := fb.cell 2
    have s3 := fb.cell 3
    have s4 := fb.cell 4
    have s5 := fb.cell 5
    have s6 := fb.cell 6
    have s7 := fb.cell 7
    have s8 := fb.cell 8
    have s9 := fb.cell 9
    simp only [List.setIfInBounds_toArray, List.set_cons_succ, List.set_cons_zero, List.getElem?_toArray, List.getElem?_cons_zero, List.getElem?_cons_succ] at s0 s1 s2 s3 s4 s5 s6 s7 s8 s9
    refine bodyPost_ret (v := .agg #[.int .u16 f0, .int .i64 f1, .int .i64 f2, .int .i64 f3, .int .i64 f4, .bool f5, .bool f6, .int .u16 f7, .int .i64 f8, .slice A n c]) (by simp [results, Try.results59, go_sem, s0, s1, s2, s3, s4, s5, s6, s7, s8, s9]) rfl ?_
    exact ⟨rfl, (((Below.refl w.heap.size w).alloc (Nat.le_refl _) _).alloc (by simp) _).alloc (by simp; omega) _⟩
  · skip
    go_enter Try.func59, Try.ntmps59
    go_wp2
    have s2 : ((w.alloc (.cells #[.int .u16 f0, .int .i64 f1, .int .i64 f2, .int .i64 f3, .int .i64 f4, .bool f5, .bool f6, .int .u16 f7, .int .i64 f8, .slice A n c] 81)).alloc (.cells #[.int .u16 y0, .int .u8 1, .int .i64 y2] 25)).heap.size = w.heap.size + 1 + 1 := by simp
    have fb := Blk.new_at' (w := (w.alloc (.cells #[.int .u16 f0, .int .i64 f1, .int .i64 f2, .int .i64 f3, .int .i64 f4, .bool f5, .bool f6, .int .u16 f7, .int .i64 f8, .slice A n c] 81)).alloc (.cells #[.int .u16 y0, .int .u8 1, .int .i64 y2] 25)) (t := 81) (cs := #[.int .u16 f0, .int .i64 f1, .int .i64 f2, .int .i64 f3, .int .i64 f4, .bool f5, .bool f6, .int .u16 f7, .int .i64 f8, .slice A n c]) (g := w.heap.size + 1 + 1) s2.symm
    clear s2
    have s0 := fb.cell 0
    have s1 := fb.cell 1
    have s2 := fb.cell 2
    have s3 := fb.cell 3
    have s4 := fb.cell 4
    have s5 := fb.cell 5
    have s6 := fb.cell 6
    have s7 := fb.cell 7
    have s8 := fb.cell 8
    have s9 := fb.cell 9
    simp only [List.setIfInBounds_toArray, List.set_cons_succ, List.set_cons_zero, List.getElem?_toArray, List.getElem?_cons_zero, List.getElem?_cons_succ] at s0 s1 s2 s3 s4 s5 s6 s7 s8 s9
    refine bodyPost_ret (v := .agg #[.int .u16 f0, .int .i64 f1, .int .i64 f2, .int .i64 f3, .int .i64 f4, .bool f5, .bool f6, .int .u16 f7, .int .i64 f8, .slice A n c]) (by simp [results, Try.results59, go_sem, s0, s1, s2, s3, s4, s5, s6, s7, s8, s9]) rfl ?_
    exact ⟨rfl, (((Below.refl w.heap.size w).alloc (Nat.le_refl _) _).alloc (by simp) _).alloc (by simp; omega) _⟩
  · skip
    go_enter Try.func59, Try.ntmps59
    go_wp2
    have s2 : ((w.alloc (.cells #[.int .u16 y0, .int .i64 f1, .int .i64 f2, .int .i64 f3, .int .i64 f4, .bool f5, .bool f6, .int .u16 f7, .int .i64 f8, .slice A n c] 81)).alloc (.cells #[.int .u16 y0, .int .u8 1, .int .i64 y2] 25)).heap.size = w.heap.size + 1 + 1 := by simp
    have fb := Blk.new_at' (w := (w.alloc (.cells #[.int .u16 y0, .int .i64 f1, .int .i64 f2, .int .i64 f3, .int .i64 f4, .bool f5, .bool f6, .int .u16 f7, .int .i64 f8, .slice A n c] 81)).alloc (.cells #[.int .u16 y0, .int .u8 1, .int .i64 y2] 25)) (t := 81) (cs := #[.int .u16 y0, .int .i64 f1, .int .i64 f2, .int .i64 f3, .int .i64 f4, .bool f5, .bool f6, .int .u16 f7, .int .i64 f8, .slice A n c]) (g := w.heap.size + 1 + 1) s2.symm
    clear s2
    have s0 := fb.cell 0
    have s1 := fb.cell 1
    have s2 := fb.cell 2
    have s3 := fb.cell 3
    have s4 := fb.cell 4
    have s5 := fb.cell 5
    have s6 := fb.cell 6
    have s7 := fb.cell 7
    have s8 := fb.cell 8
    have s9 := fb.cell 9
    simp only [List.setIfInBounds_toArray, List.set_cons_succ, List.set_cons_zero, List.getElem?_toArray, List.getElem?_cons_zero, List.getElem?_cons_succ] at s0 s1 s2 s3 s4 s5 s6 s7 s8 s9
    refine bodyPost_ret (v := .agg #[.int .u16 y0, .int .i64 f1, .int .i64 f2, .int .i64 f3, .int .i64 f4, .bool f5, .bool f6, .int .u16 f7, .int .i64 f8, .slice A n c]) (by simp [results, Try.results59, go_sem, s0, s1, s2, s3, s4, s5, s6, s7, s8, s9]) rfl ?_
    exact ⟨rfl, (((Below.refl w.heap.size w).alloc (Nat.le_refl _) _).alloc (by simp) _).alloc (by simp; omega) _⟩
  · have h3 : (y0 == f0) = false := by rw [Bool.eq_false_iff]; simpa using h3
    go_enter Try.func59, Try.ntmps59
    go_wp2
    have s2 : ((w.alloc (.cells #[.int .u16 f0, .int .i64 f1, .int .i64 f2, .int .i64 f3, .int .i64 f4, .bool f5, .bool f6, .int .u16 f7, .int .i64 f8, .slice A n c] 81)).alloc (.cells #[.int .u16 y0, .int .u8 1, .int .i64 y2] 25)).heap.size = w.heap.size + 1 + 1 := by simp
    have fb := Blk.new_at' (w := (w.alloc (.cells #[.int .u16 f0, .int .i64 f1, .int .i64 f2, .int .i64 f3, .int .i64 f4, .bool f5, .bool f6, .int .u16 f7, .int .i64 f8, .slice A n c] 81)).alloc (.cells #[.int .u16 y0, .int .u8 1, .int .i64 y2] 25)) (t := 81) (cs := #[.int .u16 f0, .int .i64 f1, .int .i64 f2, .int .i64 f3, .int .i64 f4, .bool f5, .bool f6, .int .u16 f7, .int .i64 f8, .slice A n c]) (g := w.heap.size + 1 + 1) s2.symm
    clear s2
    have s0 := fb.cell 0
    have s1 := fb.cell 1
    have s2 := fb.cell 2
    have s3 := fb.cell 3
    have s4 := fb.cell 4
    have s5 := fb.cell 5
    have s6 := fb.cell 6
    have s7 := fb.cell 7
    have s8 := fb.cell 8
    have s9 := fb.cell 9
    simp only [List.setIfInBounds_toArray, List.set_cons_succ, List.set_cons_zero, List.getElem?_toArray, List.getElem?_cons_zero, List.getElem?_cons_succ] at s0 s1 s2 s3 s4 s5 s6 s7 s8 s9
    refine bodyPost_ret (v := .agg #[.int .u16 f0, .int .i64 f1, .int .i64 f2, .int .i64 f3, .int .i64 f4, .bool f5, .bool f6, .int .u16 f7, .int .i64 f8, .slice A n c]) (by simp [results, Try.results59, go_sem, s0, s1, s2, s3, s4, s5, s6, s7, s8, s9]) rfl ?_
    exact ⟨rfl, (((Below.refl w.heap.size w).alloc (Nat.le_refl _) _).alloc (by simp) _).alloc (by simp; omega) _⟩
  · have h3 : (y0 == f0) = false := by rw [Bool.eq_false_iff]; simpa using h3
    go_enter Try.func59, Try.ntmps59
    go_wp2
    have s2 : ((w.alloc (.cells #[.int .u16 f0, .int .i64 f1, .int .i64 f2, .int .i64 f3, .int .i64 f4, .bool f5, .bool f6, .int .u16 f7, .int .i64 f8, .slice A n c] 81)).alloc (.cells #[.int .u16 y0, .int .u8 1, .int .i64 y2] 25)).heap.size = w.heap.size + 1 + 1 := by simp
    have fb := Blk.new_at' (w := (w.alloc (.cells #[.int .u16 f0, .int .i64 f1, .int .i64 f2, .int .i64 f3, .int .i64 f4, .bool f5, .bool f6, .int .u16 f7, .int .i64 f8, .slice A n c] 81)).alloc (.cells #[.int .u16 y0, .int .u8 1, .int .i64 y2] 25)) (t := 81) (cs := #[.int .u16 f0, .int .i64 f1, .int .i64 f2, .int .i64 f3, .int .i64 f4, .bool f5, .bool f6, .int .u16 f7, .int .i64 f8, .slice A n c]) (g := w.heap.size + 1 + 1) s2.symm
    clear s2
    have s0 := fb.cell 0
    have s1 := fb.cell 1
    have s2 := fb.cell 2
    have s3 := fb.cell 3
    have s4 := fb.cell 4
    have s5 := fb.cell 5
    have s6 := fb.cell 6
    have s7 := fb.cell 7
    have s8 := fb.cell 8
    have s9 := fb.cell 9
    simp only [List.setIfInBounds_toArray, List.set_cons_succ, List.set_cons_zero, List.getElem?_toArray, List.getElem?_cons_zero, List.getElem?_cons_succ] at s0 s1 s2 s3 s4 s5 s6 s7 s8 s9
    refine bodyPost_ret (v := .agg #[.int .u16 f0, .int .i64 f1, .int .i64 f2, .int .i64 f3, .int .i64 f4, .bool f5, .bool f6, .int .u16 f7, .int .i64 f8, .slice A n c]) (by simp [results, Try.results59, go_sem, s0, s1, s2, s3, s4, s5, s6, s7, s8, s9]) rfl ?_
    exact ⟨rfl, (((Below.refl w.heap.size w).alloc (Nat.le_refl _) _).alloc (by simp) _).alloc (by simp; omega) _⟩
theorem und79 : Try.prog.underlying 79 = some (.slice 131) := by kernel_rfl
theorem info131 : (Try.prog.info? 131).map (fun i => (i.zero, i.size, i.bytes)) = some (some (.agg #[.int .u16 0, .int .i64 0, .int .i64 0]), 3, 24) := by kernel_rfl
theorem wgo_hit {m : Pl.M} {now : Int} {x : Pl.Wt} {r : List Pl.Wt} {d : Bool} (h : x.n = m.n ∧ m.i ≤ x.i) : Pl.wgo m now (x :: r) d = none := by
  conv => lhs; unfold Pl.wgo
  rw [if_pos h]
theorem wgo_on {m : Pl.M} {now : Int} {x : Pl.Wt} {r : List Pl.Wt} {d : Bool} (h : ¬ (x.n = m.n ∧ m.i ≤ x.i)) : Pl.wgo m now (x :: r) d = (Pl.wgo m now r (d || decide (m.n ≤ x.n))).map ((if d = false ∧ m.n ≤ x.n then [⟨m.n, m.i, now⟩] else []) ++ (if x.n = m.n then [] else [x]) ++ ·) := by
  conv => lhs; unfold Pl.wgo
  rw [if_neg h]
theorem wgo_step {m : Pl.M} {now : Int} {L : List Pl.Wt} {i : Nat} {x : Pl.Wt} {d d' : Bool} {O O' : List Pl.Wt} (hx : L[i]? = some x) (h : ¬ (x.n = m.n ∧ m.i ≤ x.i)) (hd : d' = (d || decide (m.n ≤ x.n)))
    (hO : O' = O ++ ((if d = false ∧ m.n ≤ x.n then [⟨m.n, m.i, now⟩] else []) ++ (if x.n = m.n then [] else [x])))
    (hw : Pl.wgo m now L false = (Pl.wgo m now (L.drop i) d).map (O ++ ·)) : Pl.wgo m now L false = (Pl.wgo m now (L.drop (i + 1)) d').map (O' ++ ·) := by
  have hi := (List.getElem?_eq_some_iff.1 hx).1
  have hdr : L.drop i = x :: L.drop (i + 1) := by
    rw [List.drop_eq_getElem_cons hi]
    rw [List.getElem?_eq_getElem hi] at hx
    rw [Option.some.inj hx]
  rw [hw, hdr, wgo_on h, Option.map_map, hd, hO]
  congr 1
  funext l
  simp
theorem wt_own {w : World} {base : Nat} {v : Value} {O : List Pl.Wt} {ys : List Value} {x : Pl.Wt} (h : w.ownsRow base 131 3 v (O.length + 1) (wts O ++ ys)) (hy : ys = wtc x) : w.ownsRow base 131 3 v (O ++ [x]).length (wts (O ++ [x])) := by
  rw [wts_app, List.length_append, List.length_singleton, show wts [x] = wtc x by simp [wts], ← hy]
  exact h
/-- What the loop leaves. -/
structure WatchEnd (w : World) (S : Nat → Prop) (f0 f1 f2 f3 f4 : Int) (f5 f6 : Bool) (f7 f8 : Int) (o : List Pl.Wt) (e : Ending) (w' : World) : Prop where
  e : ∃ A' c', e = .returned (.agg #[.int .u16 f0, .int .i64 f1, .int .i64 f2, .int .i64 f3, .int .i64 f4, .bool f5, .bool f6, .int .u16 f7, .int .i64 f8, .slice A' o.length c']) ∧ ReadsWt w' S A' o
  b : Below w.heap.size w w'
set_option maxRecDepth 100000 in
set_option maxHeartbeats 8000000 in
theorem refWatch_in (f0 f1 f2 f3 f4 : Int) (f5 f6 : Bool) (f7 f8 : Int) (A : Option Addr) (c : Nat) (L : List Pl.Wt) (m : Pl.M) (now : Int) (w : World) (S : Nat → Prop) (hn64 : ¬ 64 ≤ m.n) (hne : m.n ≠ f0) (h0 : ¬ now < 0) (h1 : ¬ 1099511627776 < now) (hs : m.s = 1) (hlen : L.length ≤ 1000000)
    (hR : ReadsWt w (fun b => S b ∧ b < w.heap.size) A L) (hS : ∀ b, w.heap.size ≤ b → S b) :
    Calls Try.prog 59 #[.agg #[.int .u16 f0, .int .i64 f1, .int .i64 f2, .int .i64 f3, .int .i64 f4, .bool f5, .bool f6, .int .u16 f7, .int .i64 f8, .slice A L.length c], .agg #[.int .u16 m.n, .int .u8 m.s, .int .i64 m.i], .int .i64 now] w fun e w' => WatchEnd w S f0 f1 f2 f3 f4 f5 f6 f7 f8 ((Pl.wgo m now L false).getD L) e w' := by
  have HR := Lib.hid hR
  have HS := Lib.hid hS
  obtain ⟨n, hn⟩ : ∃ n, L.length = n := ⟨_, rfl⟩
  have HN := Lib.hid hn
  rw [hn] at hlen
  have hne' : (m.n == f0) = false := by rw [Bool.eq_false_iff]; simpa using hne
  clear hR hS hn hne
  rw [hs]
  obtain ⟨y0, hy0⟩ : ∃ y, m.n = y := ⟨_, rfl⟩
  obtain ⟨y2, hy2⟩ : ∃ y, m.i = y := ⟨_, rfl⟩
  rw [hy0] at hne' hn64
  rw [hy0, hy2]
  have HY0 := Lib.hid hy0
  have HY2 := Lib.hid hy2
  clear hs hy0 hy2
  rw [HN.out]
  have s1 : (w.alloc (.cells #[.int .u16 f0, .int .i64 f1, .int .i64 f2, .int .i64 f3, .int .i64 f4, .bool f5, .bool f6, .int .u16 f7, .int .i64 f8, .slice A n c] 81)).heap.size = w.heap.size + 1 := by simp
  have s2 : ((w.alloc (.cells #[.int .u16 f0, .int .i64 f1, .int .i64 f2, .int .i64 f3, .int .i64 f4, .bool f5, .bool f6, .int .u16 f7, .int .i64 f8, .slice A n c] 81)).alloc (.cells #[.int .u16 y0, .int .u8 1, .int .i64 y2] 25)).heap.size = w.heap.size + 1 + 1 := by simp
  have K0 := Lib.hid ((((Below.refl w.heap.size w).alloc (Nat.le_refl _) (.cells #[.int .u16 f0, .int .i64 f1, .int .i64 f2, .int .i64 f3, .int .i64 f4, .bool f5, .bool f6, .int .u16 f7, .int .i64 f8, .slice A n c] 81)).alloc (by rw [s1]; omega) (.cells #[.int .u16 y0, .int .u8 1, .int .i64 y2] 25)).alloc (by rw [s2]; omega) (.cells #[.int .u16 0, .int .i64 0, .int .i64 0, .int .i64 0, .int .i64 0, .bool false, .bool false, .int .u16 0, .int .i64 0, .slice none 0 0] 81))
  have BR0 : Hid (Blk _ w.heap.size 81 #[.int .u16 f0, .int .i64 f1, .int .i64 f2, .int .i64 f3, .int .i64 f4, .bool f5, .bool f6, .int .u16 f7, .int .i64 f8, .slice A n c]) := Lib.hid (((Blk.new w 81 #[.int .u16 f0, .int .i64 f1, .int .i64 f2, .int .i64 f3, .int .i64 f4, .bool f5, .bool f6, .int .u16 f7, .int .i64 f8, .slice A n c]).alloc (.cells #[.int .u16 y0, .int .u8 1, .int .i64 y2] 25)).alloc (.cells #[.int .u16 0, .int .i64 0, .int .i64 0, .int .i64 0, .int .i64 0, .bool false, .bool false, .int .u16 0, .int .i64 0, .slice none 0 0] 81))
  have BM0 : Hid (Blk _ (w.heap.size + 1) 25 #[.int .u16 y0, .int .u8 1, .int .i64 y2]) := Lib.hid ((Blk.new_at' (w := w.alloc (.cells #[.int .u16 f0, .int .i64 f1, .int .i64 f2, .int .i64 f3, .int .i64 f4, .bool f5, .bool f6, .int .u16 f7, .int .i64 f8, .slice A n c] 81)) (t := 25) (cs := #[.int .u16 y0, .int .u8 1, .int .i64 y2]) s1.symm).alloc (.cells #[.int .u16 0, .int .i64 0, .int .i64 0, .int .i64 0, .int .i64 0, .bool false, .bool false, .int .u16 0, .int .i64 0, .slice none 0 0] 81))
  have BZ0 : Hid (Blk _ (w.heap.size + 1 + 1) 81 #[.int .u16 0, .int .i64 0, .int .i64 0, .int .i64 0, .int .i64 0, .bool false, .bool false, .int .u16 0, .int .i64 0, .slice none 0 0]) := Lib.hid (Blk.new_at' (w := (w.alloc (.cells #[.int .u16 f0, .int .i64 f1, .int .i64 f2, .int .i64 f3, .int .i64 f4, .bool f5, .bool f6, .int .u16 f7, .int .i64 f8, .slice A n c] 81)).alloc (.cells #[.int .u16 y0, .int .u8 1, .int .i64 y2] 25)) (t := 81) (cs := #[.int .u16 0, .int .i64 0, .int .i64 0, .int .i64 0, .int .i64 0, .bool false, .bool false, .int .u16 0, .int .i64 0, .slice none 0 0]) s2.symm)
  clear s1 s2
  go_enter Try.func59, Try.ntmps59
  go_wp2
  go_loopg [7, 8, 9] n (fun gg s7 s8 s9 wr => ∃ (i : Nat) (d : Bool) (O : List Pl.Wt), s9 = .int .i64 (i : Int) ∧ s8 = .bool d ∧ i ≤ n ∧ n - i ≤ gg ∧ O.length ≤ 2 * i ∧ Hid (wr.ownsRow (w.heap.size + 1 + 1 + 1) 131 3 s7 O.length (wts O)) ∧ Hid (Pl.wgo m now L false = (Pl.wgo m now (L.drop i) d).map (O ++ ·)) ∧ Hid (Below w.heap.size w wr) ∧ Hid (Blk wr w.heap.size 81 #[.int .u16 f0, .int .i64 f1, .int .i64 f2, .int .i64 f3, .int .i64 f4, .bool f5, .bool f6, .int .u16 f7, .int .i64 f8, .slice A n c]) ∧ Hid (Blk wr (w.heap.size + 1) 25 #[.int .u16 y0, .int .u8 1, .int .i64 y2]) ∧ Hid (Blk wr (w.heap.size + 1 + 1) 81 #[.int .u16 0, .int .i64 0, .int .i64 0, .int .i64 0, .int .i64 0, .bool false, .bool false, .int .u16 0, .int .i64 0, .slice none 0 0]))
  case atStart => exact ⟨0, false, [], by go_num, rfl, by omega, by omega, by simp, Lib.hid (own_nil _ _ _ _), Lib.hid (by simp), K0, BR0, BM0, BZ0⟩
  case round =>
    obtain ⟨i, d, O, rfl, rfl, hi, hgg, hOl, HO, HW, K1, BR1, BM1, BZ1⟩ := hrel
    have hws : w.heap.size + 1 + 1 + 1 ≤ wr.heap.size := BZ1.out.lt
    have hw0 : w.heap.size < wr.heap.size := by omega
    have hw1 : w.heap.size + 1 < wr.heap.size := by omega
    have hw2 : w.heap.size + 1 + 1 < wr.heap.size := by omega
    have hx0' : w.heap.size ≠ wr.heap.size := by omega
    have hx1' : w.heap.size + 1 ≠ wr.heap.size := by omega
    have hx2' : w.heap.size + 1 + 1 ≠ wr.heap.size := by omega
    have r0 := BR1.out.cell 0
    have r1 := BR1.out.cell 1
    have r2 := BR1.out.cell 2
    have r3 := BR1.out.cell 3
    have r4 := BR1.out.cell 4
    have r5 := BR1.out.cell 5
    have r6 := BR1.out.cell 6
    have r7 := BR1.out.cell 7
    have r8 := BR1.out.cell 8
    have r9 := BR1.out.cell 9
    have t0 := BM1.out.cell 0
    have t1 := BM1.out.cell 1
    have t2 := BM1.out.cell 2
    have zf := BZ1.out.frozen
    have rf := BR1.out.frozen
    have z0 := BZ1.out.cell 0
    have z1 := BZ1.out.cell 1
    have z2 := BZ1.out.cell 2
    have z3 := BZ1.out.cell 3
    have z4 := BZ1.out.cell 4
    have z5 := BZ1.out.cell 5
    have z6 := BZ1.out.cell 6
    have z7 := BZ1.out.cell 7
    have z8 := BZ1.out.cell 8
    have z9 := BZ1.out.cell 9
    simp only [List.getElem?_toArray, List.getElem?_cons_zero, List.getElem?_cons_succ] at r0 r1 r2 r3 r4 r5 r6 r7 r8 r9 t0 t1 t2 z0 z1 z2 z3 z4 z5 z6 z7 z8 z9
    by_cases hlt : i < n
    · have hiI : (i : Int) < (n : Int) := by omega
      have hi0 : (0 : Int) ≤ (i : Int) := by omega
      obtain ⟨b, o, rfl, hb, hcell⟩ := ((HR.out.imp (fun b hb => hb.2)).below (by omega) K1.out).2 (by rw [HN.out]; omega)
      obtain ⟨x, hx⟩ : ∃ x, L[i]? = some x := ⟨_, List.getElem?_eq_getElem (by rw [HN.out]; exact hlt)⟩
      obtain ⟨g0, g1, g2⟩ := wts_get L i x hx
      have c0 := hcell _ _ g0
      have c1 := hcell _ _ g1
      have c2 := hcell _ _ g2
      rw [← Nat.add_assoc] at c1 c2
      have HX := Lib.hid hx
      have HE1 : Hid (x.n = m.n ↔ x.n = y0) := Lib.hid (by rw [HY0.out])
      clear hcell hx g0 g1 g2
      obtain ⟨x0, hx0⟩ : ∃ y, x.n = y := ⟨_, rfl⟩
      obtain ⟨x1, hx1⟩ : ∃ y, x.i = y := ⟨_, rfl⟩
      obtain ⟨x2, hx2⟩ : ∃ y, x.f = y := ⟨_, rfl⟩
      rw [hx0] at c0
      rw [hx1] at c1
      rw [hx2] at c2
      have HX0 := Lib.hid hx0
      have HX1 := Lib.hid hx1
      have HX2 := Lib.hid hx2
      clear hx0 hx1 hx2 HE1
      have K2 := Lib.hid (K1.out.alloc K1.out.size (.cells #[.int .u16 x0, .int .i64 x1, .int .i64 x2] 131))
      have BR2 := Lib.hid (BR1.out.alloc (.cells #[.int .u16 x0, .int .i64 x1, .int .i64 x2] 131))
      have BM2 := Lib.hid (BM1.out.alloc (.cells #[.int .u16 x0, .int .i64 x1, .int .i64 x2] 131))
      have BZ2 := Lib.hid (BZ1.out.alloc (.cells #[.int .u16 x0, .int .i64 x1, .int .i64 x2] 131))
      have BX2 := Lib.hid (Blk.new wr 131 #[.int .u16 x0, .int .i64 x1, .int .i64 x2])
      have HO2 := Lib.hid (HO.out.alloc (.cells #[.int .u16 x0, .int .i64 x1, .int .i64 x2] 131))
      by_cases heq : x0 = y0
      · subst heq
        by_cases hle : y2 ≤ x1
        · have hnone : (Pl.wgo m now L false).getD L = L := by
            have hx := HX.out
            have hi' := (List.getElem?_eq_some_iff.1 hx).1
            have hdr : L.drop i = x :: L.drop (i + 1) := by
              rw [List.drop_eq_getElem_cons hi']
              rw [List.getElem?_eq_getElem hi'] at hx
              rw [Option.some.inj hx]
            rw [HW.out, hdr, wgo_hit ⟨by rw [HX0.out, HY0.out], by rw [HX1.out, HY2.out]; exact hle⟩]
            rfl
          have HNO := Lib.hid hnone
          clear hnone
          go_wp2
          have fb := (BZ1.out.ten (.int .u16 f0) (.int .i64 f1) (.int .i64 f2) (.int .i64 f3) (.int .i64 f4) (.bool f5) (.bool f6) (.int .u16 f7) (.int .i64 f8) (.slice (some ⟨b, o, none⟩) n c)).alloc (.cells #[.int .u16 x0, .int .i64 x1, .int .i64 x2] 131)
          unfold ten at fb
          have s0 := fb.cell 0
          have s1 := fb.cell 1
          have s2 := fb.cell 2
          have s3 := fb.cell 3
          have s4 := fb.cell 4
          have s5 := fb.cell 5
          have s6 := fb.cell 6
          have s7 := fb.cell 7
          have s8 := fb.cell 8
          have s9 := fb.cell 9
          simp only [List.setIfInBounds_toArray, List.set_cons_succ, List.set_cons_zero, List.getElem?_toArray, List.getElem?_cons_zero, List.getElem?_cons_succ] at s0 s1 s2 s3 s4 s5 s6 s7 s8 s9
          refine bodyPost_ret (v := .agg #[.int .u16 f0, .int .i64 f1, .int .i64 f2, .int .i64 f3, .int .i64 f4, .bool f5, .bool f6, .int .u16 f7, .int .i64 f8, .slice (some ⟨b, o, none⟩) n c]) (by simp [results, Try.results59, go_sem, s0, s1, s2, s3, s4, s5, s6, s7, s8, s9]) rfl ?_
          have KF := below_ten K1.out (g := w.heap.size + 1 + 1) (by omega) (.int .u16 f0) (.int .i64 f1) (.int .i64 f2) (.int .i64 f3) (.int .i64 f4) (.bool f5) (.bool f6) (.int .u16 f7) (.int .i64 f8) (.slice (some ⟨b, o, none⟩) n c)
          have KG := KF.alloc KF.size (.cells #[.int .u16 x0, .int .i64 x1, .int .i64 x2] 131)
          refine ⟨⟨some ⟨b, o, none⟩, c, by rw [HNO.out, HN.out], ?_⟩, KG⟩
          rw [HNO.out]
          exact (((HR.out.imp (fun b hb => hb)).keep (fun b hb => KG.block b hb.2)).imp (fun b hb => hb.1))
        · have hle' : ¬ x1 ≥ y2 := hle
          have HNH : Hid (¬ (x.n = m.n ∧ m.i ≤ x.i)) := Lib.hid (fun h => hle (by rw [← HX1.out, ← HY2.out]; exact h.2))
          have HXM : Hid (x.n = m.n) := Lib.hid (by rw [HX0.out, HY0.out])
          have HLE : Hid (m.n ≤ x.n) := Lib.hid (by rw [HX0.out, HY0.out]; exact Int.le_refl _)
          cases d with
          | true =>
            go_wp2
            go_roundg (n - (i + 1))
            case measure => omega
            case rel => exact ⟨i + 1, true, O, by go_num, rfl, by omega, by omega, by ((try simp only [List.length_append, List.length_singleton]); omega), Lib.hid HO2.out, Lib.hid (wgo_step HX.out HNH.out (by simp [HLE.out]) (by simp [HXM.out, HLE.out]) HW.out), K2, BR2, BM2, BZ2⟩
          | false =>
            go_wp2_with (
              (at_builtin
               refine app_row (w.heap.size + 1 + 1 + 1) rfl (.tmp 69) (.tmp 76) 79 131 _ 3 24 rfl und79 info131 rfl (by omega) _ (O).length (wts (O)) #[.int .u16 x0, .int .i64 y2, .int .i64 now] rfl _ rfl (by simp) (by simp [Value.oneCell']) rfl HO2.out (by have := BZ2.out.lt; omega) (by (try simp only [List.length_append, List.length_singleton]); omega) (by (try simp only [List.length_append, List.length_singleton]); omega) ?_
               intro v3 w3 hO hG hat
               have HO3 : Hid (w3.ownsRow (w.heap.size + 1 + 1 + 1) 131 3 v3 (O ++ [(⟨m.n, m.i, now⟩ : Pl.Wt)]).length (wts (O ++ [(⟨m.n, m.i, now⟩ : Pl.Wt)]))) := Lib.hid (wt_own (x := (⟨m.n, m.i, now⟩ : Pl.Wt)) hO (by simp only [wtc]; rw [HY0.out, HY2.out]))
               have K3 := Lib.hid (K2.out.trans (below_of_grown (B := w.heap.size) K2.out.size hG (fun q e => by have := own_base HO2.out q e; omega)))
               have BR3 := Lib.hid (BR2.out.grown hG (fun e => by have := own_base HO2.out _ e.symm; omega))
               have BM3 := Lib.hid (BM2.out.grown hG (fun e => by have := own_base HO2.out _ e.symm; omega))
               have BZ3 := Lib.hid (BZ2.out.grown hG (fun e => by have := own_base HO2.out _ e.symm; omega))
               have BX3 := Lib.hid (BX2.out.grown hG (fun e => by have := own_lt HO.out _ e.symm; omega))
               have p0 := BX3.out.cell 0
               have p1 := BX3.out.cell 1
               have p2 := BX3.out.cell 2
               have q0 := BM3.out.cell 0
               have q1 := BM3.out.cell 1
               have q2 := BM3.out.cell 2
               simp only [List.getElem?_toArray, List.getElem?_cons_zero, List.getElem?_cons_succ] at p0 p1 p2 q0 q1 q2
               clear hO hG hat))
            go_roundg (n - (i + 1))
            case measure => omega
            case rel => exact ⟨i + 1, true, O ++ [(⟨m.n, m.i, now⟩ : Pl.Wt)], by go_num, rfl, by omega, by omega, by ((try simp only [List.length_append, List.length_singleton]); omega), Lib.hid HO3.out, Lib.hid (wgo_step HX.out HNH.out (by simp [HLE.out]) (by simp [HXM.out, HLE.out]) HW.out), K3, BR3, BM3, BZ3⟩
      · have hne2 : (x0 == y0) = false := by rw [Bool.eq_false_iff]; simpa using heq
        have hne3 : (x0 != y0) = true := by rw [bne_iff_ne]; exact heq
        have HNH : Hid (¬ (x.n = m.n ∧ m.i ≤ x.i)) := Lib.hid (fun h => heq (by rw [← HX0.out, ← HY0.out]; exact h.1))
        have HXM : Hid (¬ x.n = m.n) := Lib.hid (by rw [HX0.out, HY0.out]; exact heq)
        clear heq
        cases d with
        | true =>
          have HLE := Lib.hid (show True from trivial)
          go_wp2_with (
            (at_builtin
             refine app_row (w.heap.size + 1 + 1 + 1) rfl (.tmp 83) (.tmp 85) 79 131 _ 3 24 rfl und79 info131 rfl (by omega) _ (O).length (wts (O)) #[.int .u16 x0, .int .i64 x1, .int .i64 x2] rfl _ rfl (by simp) (by simp [Value.oneCell']) rfl HO2.out (by have := BZ2.out.lt; omega) (by (try simp only [List.length_append, List.length_singleton]); omega) (by (try simp only [List.length_append, List.length_singleton]); omega) ?_
             intro v3 w3 hO hG hat
             have HO3 : Hid (w3.ownsRow (w.heap.size + 1 + 1 + 1) 131 3 v3 (O ++ [x]).length (wts (O ++ [x]))) := Lib.hid (wt_own (x := x) hO (by simp only [wtc]; rw [HX0.out, HX1.out, HX2.out]))
             have K3 := Lib.hid (K2.out.trans (below_of_grown (B := w.heap.size) K2.out.size hG (fun q e => by have := own_base HO2.out q e; omega)))
             have BR3 := Lib.hid (BR2.out.grown hG (fun e => by have := own_base HO2.out _ e.symm; omega))
             have BM3 := Lib.hid (BM2.out.grown hG (fun e => by have := own_base HO2.out _ e.symm; omega))
             have BZ3 := Lib.hid (BZ2.out.grown hG (fun e => by have := own_base HO2.out _ e.symm; omega))
             clear hO hG hat))
          go_roundg (n - (i + 1))
          case measure => omega
          case rel => exact ⟨i + 1, true, O ++ [x], by go_num, rfl, by omega, by omega, by ((try simp only [List.length_append, List.length_singleton]); omega), Lib.hid HO3.out, Lib.hid (wgo_step HX.out HNH.out (by simp [HLE.out]) (by simp [HXM.out, HLE.out]) HW.out), K3, BR3, BM3, BZ3⟩
        | false =>
          by_cases hge : y0 ≤ x0
          · have HLE : Hid (m.n ≤ x.n) := Lib.hid (by rw [HX0.out, HY0.out]; exact hge)
            go_wp2_with (first
              | (at_builtin
                 refine app_row (w.heap.size + 1 + 1 + 1) rfl (.tmp 69) (.tmp 76) 79 131 _ 3 24 rfl und79 info131 rfl (by omega) _ (O).length (wts (O)) #[.int .u16 y0, .int .i64 y2, .int .i64 now] rfl _ rfl (by simp) (by simp [Value.oneCell']) rfl HO2.out (by have := BZ2.out.lt; omega) (by (try simp only [List.length_append, List.length_singleton]); omega) (by (try simp only [List.length_append, List.length_singleton]); omega) ?_
                 intro v3 w3 hO hG hat
                 have HO3 : Hid (w3.ownsRow (w.heap.size + 1 + 1 + 1) 131 3 v3 (O ++ [(⟨m.n, m.i, now⟩ : Pl.Wt)]).length (wts (O ++ [(⟨m.n, m.i, now⟩ : Pl.Wt)]))) := Lib.hid (wt_own (x := (⟨m.n, m.i, now⟩ : Pl.Wt)) hO (by simp only [wtc]; rw [HY0.out, HY2.out]))
                 have K3 := Lib.hid (K2.out.trans (below_of_grown (B := w.heap.size) K2.out.size hG (fun q e => by have := own_base HO2.out q e; omega)))
                 have BR3 := Lib.hid (BR2.out.grown hG (fun e => by have := own_base HO2.out _ e.symm; omega))
                 have BM3 := Lib.hid (BM2.out.grown hG (fun e => by have := own_base HO2.out _ e.symm; omega))
                 have BZ3 := Lib.hid (BZ2.out.grown hG (fun e => by have := own_base HO2.out _ e.symm; omega))
                 have BX3 := Lib.hid (BX2.out.grown hG (fun e => by have := own_lt HO.out _ e.symm; omega))
                 have p0 := BX3.out.cell 0
                 have p1 := BX3.out.cell 1
                 have p2 := BX3.out.cell 2
                 have q0 := BM3.out.cell 0
                 have q1 := BM3.out.cell 1
                 have q2 := BM3.out.cell 2
                 simp only [List.getElem?_toArray, List.getElem?_cons_zero, List.getElem?_cons_succ] at p0 p1 p2 q0 q1 q2
                 clear hO hG hat)
              | (at_builtin
                 refine app_row (w.heap.size + 1 + 1 + 1) rfl (.tmp 83) (.tmp 85) 79 131 _ 3 24 rfl und79 info131 rfl (by omega) _ (O ++ [(⟨m.n, m.i, now⟩ : Pl.Wt)]).length (wts (O ++ [(⟨m.n, m.i, now⟩ : Pl.Wt)])) #[.int .u16 x0, .int .i64 x1, .int .i64 x2] rfl _ rfl (by simp) (by simp [Value.oneCell']) rfl HO3.out (by have := BZ3.out.lt; omega) (by (try simp only [List.length_append, List.length_singleton]); omega) (by (try simp only [List.length_append, List.length_singleton]); omega) ?_
                 intro v4 w4 hO hG hat
                 have HO4 : Hid (w4.ownsRow (w.heap.size + 1 + 1 + 1) 131 3 v4 (O ++ [(⟨m.n, m.i, now⟩ : Pl.Wt)] ++ [x]).length (wts (O ++ [(⟨m.n, m.i, now⟩ : Pl.Wt)] ++ [x]))) := Lib.hid (wt_own (x := x) hO (by simp only [wtc]; rw [HX0.out, HX1.out, HX2.out]))
                 have K4 := Lib.hid (K3.out.trans (below_of_grown (B := w.heap.size) K3.out.size hG (fun q e => by have := own_base HO3.out q e; omega)))
                 have BR4 := Lib.hid (BR3.out.grown hG (fun e => by have := own_base HO3.out _ e.symm; omega))
                 have BM4 := Lib.hid (BM3.out.grown hG (fun e => by have := own_base HO3.out _ e.symm; omega))
                 have BZ4 := Lib.hid (BZ3.out.grown hG (fun e => by have := own_base HO3.out _ e.symm; omega))
                 clear hO hG hat))
            go_roundg (n - (i + 1))
            case measure => omega
            case rel => exact ⟨i + 1, true, O ++ [(⟨m.n, m.i, now⟩ : Pl.Wt)] ++ [x], by go_num, rfl, by omega, by omega, by ((try simp only [List.length_append, List.length_singleton]); omega), Lib.hid HO4.out, Lib.hid (wgo_step HX.out HNH.out (by simp [HLE.out]) (by simp [HXM.out, HLE.out]) HW.out), K4, BR4, BM4, BZ4⟩
          · have HLE : Hid (¬ m.n ≤ x.n) := Lib.hid (by rw [HX0.out, HY0.out]; exact hge)
            go_wp2_with (
              (at_builtin
               refine app_row (w.heap.size + 1 + 1 + 1) rfl (.tmp 83) (.tmp 85) 79 131 _ 3 24 rfl und79 info131 rfl (by omega) _ (O).length (wts (O)) #[.int .u16 x0, .int .i64 x1, .int .i64 x2] rfl _ rfl (by simp) (by simp [Value.oneCell']) rfl HO2.out (by have := BZ2.out.lt; omega) (by (try simp only [List.length_append, List.length_singleton]); omega) (by (try simp only [List.length_append, List.length_singleton]); omega) ?_
               intro v3 w3 hO hG hat
               have HO3 : Hid (w3.ownsRow (w.heap.size + 1 + 1 + 1) 131 3 v3 (O ++ [x]).length (wts (O ++ [x]))) := Lib.hid (wt_own (x := x) hO (by simp only [wtc]; rw [HX0.out, HX1.out, HX2.out]))
               have K3 := Lib.hid (K2.out.trans (below_of_grown (B := w.heap.size) K2.out.size hG (fun q e => by have := own_base HO2.out q e; omega)))
               have BR3 := Lib.hid (BR2.out.grown hG (fun e => by have := own_base HO2.out _ e.symm; omega))
               have BM3 := Lib.hid (BM2.out.grown hG (fun e => by have := own_base HO2.out _ e.symm; omega))
               have BZ3 := Lib.hid (BZ2.out.grown hG (fun e => by have := own_base HO2.out _ e.symm; omega))
               clear hO hG hat))
            go_roundg (n - (i + 1))
            case measure => omega
            case rel => exact ⟨i + 1, false, O ++ [x], by go_num, rfl, by omega, by omega, by ((try simp only [List.length_append, List.length_singleton]); omega), Lib.hid HO3.out, Lib.hid (wgo_step HX.out HNH.out (by simp [HLE.out]) (by simp [HXM.out, HLE.out]) HW.out), K3, BR3, BM3, BZ3⟩
    · have hie : i = n := by omega
      subst hie
      have hfin : Pl.wgo m now L false = some (O ++ (if d = true then [] else [⟨m.n, m.i, now⟩])) := by
        rw [HW.out, List.drop_eq_nil_of_le (by rw [HN.out]; exact Nat.le_refl _)]
        rfl
      cases d with
      | true =>
        have hfv : (Pl.wgo m now L false).getD L = O := by rw [hfin]; simp
        have HFV := Lib.hid hfv
        clear hfin hfv
        have HO1 := Lib.hid HO.out
        obtain ⟨A7, c7, rfl, R7⟩ := Reads.of_own HO1.out
        go_wp2
        have fb := (BZ1.out.far (p := ⟨w.heap.size, 9, none⟩) (by show w.heap.size + 1 + 1 ≠ w.heap.size; omega) (.slice A7 O.length c7)).ten (.int .u16 f0) (.int .i64 f1) (.int .i64 f2) (.int .i64 f3) (.int .i64 f4) (.bool f5) (.bool f6) (.int .u16 f7) (.int .i64 f8) (.slice A7 O.length c7)
        have KF := below_ten (K1.out.setCell (p := ⟨w.heap.size, 9, none⟩) (Nat.le_refl _) (.slice A7 O.length c7)) (g := w.heap.size + 1 + 1) (by omega) (.int .u16 f0) (.int .i64 f1) (.int .i64 f2) (.int .i64 f3) (.int .i64 f4) (.bool f5) (.bool f6) (.int .u16 f7) (.int .i64 f8) (.slice A7 O.length c7)
        have KR := R7.keep (w' := ten (wr.setCell ⟨w.heap.size, 9, none⟩ (.slice A7 O.length c7)) (w.heap.size + 1 + 1) (.int .u16 f0) (.int .i64 f1) (.int .i64 f2) (.int .i64 f3) (.int .i64 f4) (.bool f5) (.bool f6) (.int .u16 f7) (.int .i64 f8) (.slice A7 O.length c7)) (fun b hb => (heap_ten _ _ b (by have := own_base HO1.out b hb; omega) _ _ _ _ _ _ _ _ _ _).trans (Below.heap_setCell wr ⟨w.heap.size, 9, none⟩ _ b (by have := own_base HO1.out b hb; show b ≠ w.heap.size; omega)))
        unfold ten at fb KF KR
        have s0 := fb.cell 0
        have s1 := fb.cell 1
        have s2 := fb.cell 2
        have s3 := fb.cell 3
        have s4 := fb.cell 4
        have s5 := fb.cell 5
        have s6 := fb.cell 6
        have s7 := fb.cell 7
        have s8 := fb.cell 8
        have s9 := fb.cell 9
        simp only [List.setIfInBounds_toArray, List.set_cons_succ, List.set_cons_zero, List.getElem?_toArray, List.getElem?_cons_zero, List.getElem?_cons_succ] at s0 s1 s2 s3 s4 s5 s6 s7 s8 s9
        refine bodyPost_ret (v := .agg #[.int .u16 f0, .int .i64 f1, .int .i64 f2, .int .i64 f3, .int .i64 f4, .bool f5, .bool f6, .int .u16 f7, .int .i64 f8, .slice A7 O.length c7]) (by simp [results, Try.results59, go_sem, s0, s1, s2, s3, s4, s5, s6, s7, s8, s9]) rfl ?_
        refine ⟨⟨A7, c7, by rw [HFV.out], ?_⟩, KF⟩
        rw [HFV.out]
        exact KR.imp (fun b hb => HS.out b (by have := own_base HO1.out b hb; omega))
      | false =>
        obtain ⟨O7, hO7⟩ : ∃ O7, O ++ [(⟨m.n, m.i, now⟩ : Pl.Wt)] = O7 := ⟨_, rfl⟩
        have hfv : (Pl.wgo m now L false).getD L = O7 := by rw [hfin, ← hO7]; simp
        have HFV := Lib.hid hfv
        have HO7 := Lib.hid hO7
        clear hfin hfv hO7
        have HO1 := Lib.hid HO.out
        go_wp2_with (
          (at_builtin
           refine app_row (w.heap.size + 1 + 1 + 1) rfl (.tmp 89) (.tmp 96) 79 131 _ 3 24 rfl und79 info131 rfl (by omega) _ (O).length (wts (O)) #[.int .u16 y0, .int .i64 y2, .int .i64 now] rfl _ rfl (by simp) (by simp [Value.oneCell']) rfl HO1.out (by have := BZ1.out.lt; omega) (by omega) (by omega) ?_
           intro v2 w2 hO hG hat
           have HO2 : Hid (w2.ownsRow (w.heap.size + 1 + 1 + 1) 131 3 v2 O7.length (wts O7)) := Lib.hid (by rw [← HO7.out]; exact wt_own (x := (⟨m.n, m.i, now⟩ : Pl.Wt)) hO (by simp only [wtc]; rw [HY0.out, HY2.out]))
           have K2 := Lib.hid (K1.out.trans (below_of_grown (B := w.heap.size) K1.out.size hG (fun q e => by have := own_base HO1.out q e; omega)))
           have BR2 := Lib.hid (BR1.out.grown hG (fun e => by have := own_base HO1.out _ e.symm; omega))
           have BM2 := Lib.hid (BM1.out.grown hG (fun e => by have := own_base HO1.out _ e.symm; omega))
           have BZ2 := Lib.hid (BZ1.out.grown hG (fun e => by have := own_base HO1.out _ e.symm; omega))
           clear hO hG hat
           obtain ⟨A7, c7, rfl, R7⟩ := Reads.of_own HO2.out
           clear r0 r1 r2 r3 r4 r5 r6 r7 r8 r9 z0 z1 z2 z3 z4 z5 z6 z7 z8 z9 zf
           have r0 := BR2.out.cell 0
           have r1 := BR2.out.cell 1
           have r2 := BR2.out.cell 2
           have r3 := BR2.out.cell 3
           have r4 := BR2.out.cell 4
           have r5 := BR2.out.cell 5
           have r6 := BR2.out.cell 6
           have r7 := BR2.out.cell 7
           have r8 := BR2.out.cell 8
           have r9 := BR2.out.cell 9
           have z0 := BZ2.out.cell 0
           have z1 := BZ2.out.cell 1
           have z2 := BZ2.out.cell 2
           have z3 := BZ2.out.cell 3
           have z4 := BZ2.out.cell 4
           have z5 := BZ2.out.cell 5
           have z6 := BZ2.out.cell 6
           have z7 := BZ2.out.cell 7
           have z8 := BZ2.out.cell 8
           have z9 := BZ2.out.cell 9
           have zf := BZ2.out.frozen
           have rf := BR2.out.frozen
           simp only [List.getElem?_toArray, List.getElem?_cons_zero, List.getElem?_cons_succ] at r0 r1 r2 r3 r4 r5 r6 r7 r8 r9 z0 z1 z2 z3 z4 z5 z6 z7 z8 z9))
        have fb := (BZ2.out.far (p := ⟨w.heap.size, 9, none⟩) (by show w.heap.size + 1 + 1 ≠ w.heap.size; omega) (.slice A7 O7.length c7)).ten (.int .u16 f0) (.int .i64 f1) (.int .i64 f2) (.int .i64 f3) (.int .i64 f4) (.bool f5) (.bool f6) (.int .u16 f7) (.int .i64 f8) (.slice A7 O7.length c7)
        have KF := below_ten (K2.out.setCell (p := ⟨w.heap.size, 9, none⟩) (Nat.le_refl _) (.slice A7 O7.length c7)) (g := w.heap.size + 1 + 1) (by omega) (.int .u16 f0) (.int .i64 f1) (.int .i64 f2) (.int .i64 f3) (.int .i64 f4) (.bool f5) (.bool f6) (.int .u16 f7) (.int .i64 f8) (.slice A7 O7.length c7)
        have KR := R7.keep (w' := ten (w2.setCell ⟨w.heap.size, 9, none⟩ (.slice A7 O7.length c7)) (w.heap.size + 1 + 1) (.int .u16 f0) (.int .i64 f1) (.int .i64 f2) (.int .i64 f3) (.int .i64 f4) (.bool f5) (.bool f6) (.int .u16 f7) (.int .i64 f8) (.slice A7 O7.length c7)) (fun b hb => (heap_ten _ _ b (by have := own_base HO2.out b hb; omega) _ _ _ _ _ _ _ _ _ _).trans (Below.heap_setCell w2 ⟨w.heap.size, 9, none⟩ _ b (by have := own_base HO2.out b hb; show b ≠ w.heap.size; omega)))
        unfold ten at fb KF KR
        have s0 := fb.cell 0
        have s1 := fb.cell 1
        have s2 := fb.cell 2
        have s3 := fb.cell 3
        have s4 := fb.cell 4
        have s5 := fb.cell 5
        have s6 := fb.cell 6
        have s7 := fb.cell 7
        have s8 := fb.cell 8
        have s9 := fb.cell 9
        simp only [List.setIfInBounds_toArray, List.set_cons_succ, List.set_cons_zero, List.getElem?_toArray, List.getElem?_cons_zero, List.getElem?_cons_succ] at s0 s1 s2 s3 s4 s5 s6 s7 s8 s9
        refine bodyPost_ret (v := .agg #[.int .u16 f0, .int .i64 f1, .int .i64 f2, .int .i64 f3, .int .i64 f4, .bool f5, .bool f6, .int .u16 f7, .int .i64 f8, .slice A7 O7.length c7]) (by simp [results, Try.results59, go_sem, s0, s1, s2, s3, s4, s5, s6, s7, s8, s9]) rfl ?_
        refine ⟨⟨A7, c7, by rw [HFV.out], ?_⟩, KF⟩
        rw [HFV.out]
        exact KR.imp (fun b hb => HS.out b (by have := own_base HO2.out b hb; omega))
theorem refWatch_any (r : Pl.Rp) (A : Option Addr) (c : Nat) (m : Pl.M) (now : Int) (w : World) (S : Nat → Prop) (hlen : r.w.length ≤ 1000000)
    (hR : ReadsWt w (fun b => S b ∧ b < w.heap.size) A r.w) (hS : ∀ b, w.heap.size ≤ b → S b) :
    Calls Try.prog 59 #[.agg (rpc r A r.w.length c), .agg (mcells m), .int .i64 now] w fun e w' =>
      (∃ A' c', e = .returned (.agg (rpc (Pl.rwatch r m now) A' (Pl.rwatch r m now).w.length c')) ∧ ReadsWt w' S A' (Pl.rwatch r m now).w) ∧ Below w.heap.size w w' := by
  by_cases h : m.s = 1 ∧ m.n < 64 ∧ m.n ≠ r.me ∧ Pl.may now 0 = true
  · have e : Pl.rwatch r m now = { r with w := (Pl.wgo m now r.w false).getD r.w } := by
      unfold Pl.rwatch
      rw [if_pos h]
      cases Pl.wgo m now r.w false <;> rfl
    rw [e]
    obtain ⟨h1, h2, h3, h4⟩ := h
    unfold Pl.may at h4
    simp only [Bool.and_eq_true, decide_eq_true_eq] at h4
    refine (refWatch_in r.me r.per r.tmo r.nxt r.seq r.op r.hlp r.nd r.at_ A c r.w m now w S (by omega) h3 (by omega) (by omega) h1 hlen hR hS).mono ?_
    rintro e w' ⟨⟨A', c', rfl, hR'⟩, hb⟩
    exact ⟨⟨A', c', rfl, hR'⟩, hb⟩
  · have e : Pl.rwatch r m now = r := if_neg h
    rw [e]
    have hc : m.s ≠ 1 ∨ (m.s = 1 ∧ 64 ≤ m.n) ∨ (m.s = 1 ∧ ¬ 64 ≤ m.n ∧ m.n = r.me) ∨ (m.s = 1 ∧ ¬ 64 ≤ m.n ∧ m.n ≠ r.me ∧ now < 0) ∨ (m.s = 1 ∧ ¬ 64 ≤ m.n ∧ m.n ≠ r.me ∧ ¬ now < 0 ∧ 1099511627776 < now) := by
      unfold Pl.may at h
      simp only [Bool.and_eq_true, decide_eq_true_eq] at h
      omega
    refine (refWatch_out r.me r.per r.tmo r.nxt r.seq r.op r.hlp r.nd r.at_ A r.w.length c m.n m.s m.i now w hc).mono ?_
    rintro e w' ⟨rfl, hb⟩
    exact ⟨⟨A, c, rfl, (hR.keep (fun b hb' => hb.block b hb'.2)).imp (fun b hb' => hb'.1)⟩, hb⟩
end Go.Proofs.Ytnlpgjdgiappcaa
