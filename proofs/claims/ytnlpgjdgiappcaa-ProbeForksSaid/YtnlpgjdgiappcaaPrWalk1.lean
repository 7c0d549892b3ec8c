/- WALKS: the document's probe: New, Ack, Watch. -/
import Derived.Test.YtnlpgjdgiappcaaPrPure
import Derived.Test.YtnlpgjdgiappcaaMbWalk2
import Derived.Deep.LoopGhost
namespace Go.Proofs.Ytnlpgjdgiappcaa
set_option linter.unusedVariables false
set_option linter.unusedSimpArgs false
open Go.RowKit

def wtc (x : Pl.Wt) : List Value := [.int .u16 x.n, .int .i64 x.i, .int .i64 x.f]
def wts (l : List Pl.Wt) : List Value := l.flatMap wtc
theorem wts_length (l : List Pl.Wt) : (wts l).length = l.length * 3 := by
  induction l with
  | nil => rfl
  | cons a r ih => simp only [wts, List.flatMap_cons, List.length_append] at *; rw [ih]; simp [wtc]; omega
theorem wts_app (a b : List Pl.Wt) : wts (a ++ b) = wts a ++ wts b := by simp [wts]
theorem wts_get (l : List Pl.Wt) : ∀ (k : Nat) (x : Pl.Wt), l[k]? = some x → (wts l)[k * 3]? = some (.int .u16 x.n) ∧ (wts l)[k * 3 + 1]? = some (.int .i64 x.i) ∧ (wts l)[k * 3 + 2]? = some (.int .i64 x.f) := by
  induction l with
  | nil => intro k x h; simp at h
  | cons a r ih =>
    intro k x h
    cases k with
    | zero => simp at h; subst h; exact ⟨rfl, rfl, rfl⟩
    | succ k =>
      simp only [List.getElem?_cons_succ] at h
      have := ih k x h
      rw [show (k + 1) * 3 = k * 3 + 1 + 1 + 1 by omega]
      exact this
abbrev ReadsWt (w : World) (S : Nat → Prop) (A : Option Addr) (l : List Pl.Wt) : Prop := Reads w S 3 A l.length (wts l)
/-- The document's probe, as ten cells. -/
def rpc (r : Pl.Rp) (A : Option Addr) (n c : Nat) : Array Value := #[.int .u16 r.me, .int .i64 r.per, .int .i64 r.tmo, .int .i64 r.nxt, .int .i64 r.seq, .bool r.op, .bool r.hlp, .int .u16 r.nd, .int .i64 r.at_, .slice A n c]
def rz : Array Value := #[.int .u16 0, .int .i64 0, .int .i64 0, .int .i64 0, .int .i64 0, .bool false, .bool false, .int .u16 0, .int .i64 0, .slice none 0 0]
def ten (w : World) (g : Nat) (a b c d e f h i j k : Value) : World := (((((((((w.setCell ⟨g, 0, none⟩ a).setCell ⟨g, 1, none⟩ b).setCell ⟨g, 2, none⟩ c).setCell ⟨g, 3, none⟩ d).setCell ⟨g, 4, none⟩ e).setCell ⟨g, 5, none⟩ f).setCell ⟨g, 6, none⟩ h).setCell ⟨g, 7, none⟩ i).setCell ⟨g, 8, none⟩ j).setCell ⟨g, 9, none⟩ k
theorem Blk.ten {w : World} {g : Nat} {t : TypeId} {x0 x1 x2 x3 x4 x5 x6 x7 x8 x9 : Value} (h : Blk w g t #[x0, x1, x2, x3, x4, x5, x6, x7, x8, x9]) (a b c d e f h' i j k : Value) : Blk (ten w g a b c d e f h' i j k) g t #[a, b, c, d, e, f, h', i, j, k] :=
  by
  unfold Ytnlpgjdgiappcaa.ten
  have := (((((((((h.set_ 0 a).set_ 1 b).set_ 2 c).set_ 3 d).set_ 4 e).set_ 5 f).set_ 6 h').set_ 7 i).set_ 8 j).set_ 9 k
  simpa only [List.setIfInBounds_toArray, List.set_cons_succ, List.set_cons_zero] using this
theorem below_ten {B : Nat} {a w : World} (h : Below B a w) {g : Nat} (hg : B ≤ g) (v0 v1 v2 v3 v4 v5 v6 v7 v8 v9 : Value) : Below B a (ten w g v0 v1 v2 v3 v4 v5 v6 v7 v8 v9) :=
  ((((((((((h.setCell (p := ⟨g, 0, none⟩) hg v0).setCell (p := ⟨g, 1, none⟩) hg v1).setCell (p := ⟨g, 2, none⟩) hg v2).setCell (p := ⟨g, 3, none⟩) hg v3).setCell (p := ⟨g, 4, none⟩) hg v4).setCell (p := ⟨g, 5, none⟩) hg v5).setCell (p := ⟨g, 6, none⟩) hg v6).setCell (p := ⟨g, 7, none⟩) hg v7).setCell (p := ⟨g, 8, none⟩) hg v8).setCell (p := ⟨g, 9, none⟩) hg v9)
theorem heap_ten (w : World) (g b : Nat) (h : b ≠ g) (v0 v1 v2 v3 v4 v5 v6 v7 v8 v9 : Value) : (ten w g v0 v1 v2 v3 v4 v5 v6 v7 v8 v9).heap[b]? = w.heap[b]? :=
  (Below.heap_setCell _ ⟨g, 9, none⟩ v9 b h).trans ((Below.heap_setCell _ ⟨g, 8, none⟩ v8 b h).trans ((Below.heap_setCell _ ⟨g, 7, none⟩ v7 b h).trans ((Below.heap_setCell _ ⟨g, 6, none⟩ v6 b h).trans ((Below.heap_setCell _ ⟨g, 5, none⟩ v5 b h).trans ((Below.heap_setCell _ ⟨g, 4, none⟩ v4 b h).trans ((Below.heap_setCell _ ⟨g, 3, none⟩ v3 b h).trans ((Below.heap_setCell _ ⟨g, 2, none⟩ v2 b h).trans ((Below.heap_setCell _ ⟨g, 1, none⟩ v1 b h).trans (Below.heap_setCell _ ⟨g, 0, none⟩ v0 b h)))))))))
def rackVal (r : Pl.Rp) (A : Option Addr) (n c : Nat) (b : Bool) : Value := .tuple #[.agg (rpc r A n c), .bool b]
theorem Blk.new_at' {w : World} {g : Nat} {t : TypeId} {cs : Array Value} (h : g = w.heap.size) : Blk (w.alloc (.cells cs t)) g t cs := by subst h; exact Blk.new w t cs
set_option maxRecDepth 100000 in
set_option maxHeartbeats 2000000 in
theorem refAck_any (r : Pl.Rp) (A : Option Addr) (n c : Nat) (about seq : Int) (w : World) :
    Calls Try.prog 58 #[.agg (rpc r A n c), .int .u16 about, .int .i64 seq] w fun e w' => e = .returned (rackVal (Pl.rack r about seq).2 A n c (Pl.rack r about seq).1) ∧ Below w.heap.size w w' := by
  by_cases h : r.op = true ∧ r.nd = about ∧ r.seq = seq
  · have e : Pl.rack r about seq = (true, { r with op := false }) := if_pos h
    rw [e]
    obtain ⟨h1, h2, h3⟩ := h
    unfold rackVal rpc
    simp only
    rw [h1, h2, h3]
    generalize r.me = f0 at *
    generalize r.per = f1 at *
    generalize r.tmo = f2 at *
    generalize r.nxt = f3 at *
    generalize r.hlp = f6 at *
    generalize r.at_ = f8 at *
    clear e h1 h2 h3
    go_enter Try.func58, Try.ntmps58
    go_wp2
    have fb := Blk.new_at' (w := w.alloc (.cells #[.int .u16 f0, .int .i64 f1, .int .i64 f2, .int .i64 f3, .int .i64 seq, .bool false, .bool f6, .int .u16 about, .int .i64 f8, .slice A n c] 81)) (t := 81) (cs := #[.int .u16 f0, .int .i64 f1, .int .i64 f2, .int .i64 f3, .int .i64 seq, .bool false, .bool f6, .int .u16 about, .int .i64 f8, .slice A n c]) (g := w.heap.size + 1) (by simp)
    have s0 := fb.cell 0
    have s1 := fb.cell 1
    have s2 := fb.cell 2
    have s3 := fb.cell 3
    have s4 := fb.cell 4
    have s5 := fb.cell 5
    have s6 := fb.cell 6
    have s7 := fb.cell 7
    have s8 := fb.cell 8
    have s9 := fb.cell 9
    simp only [List.getElem?_toArray, List.getElem?_cons_zero, List.getElem?_cons_succ] at s0 s1 s2 s3 s4 s5 s6 s7 s8 s9
    exact bodyPost_ret (v := .tuple #[.agg #[.int .u16 f0, .int .i64 f1, .int .i64 f2, .int .i64 f3, .int .i64 seq, .bool false, .bool f6, .int .u16 about, .int .i64 f8, .slice A n c], .bool true]) (by simp [results, Try.results58, go_sem, s0, s1, s2, s3, s4, s5, s6, s7, s8, s9]) rfl ⟨rfl, ((Below.refl w.heap.size w).alloc (Nat.le_refl _) _).alloc (by simp) _⟩
  · have e : Pl.rack r about seq = (false, r) := if_neg h
    rw [e]
    unfold rackVal rpc
    have hc : r.op = false ∨ (r.op = true ∧ r.nd ≠ about) ∨ (r.op = true ∧ r.nd = about ∧ r.seq ≠ seq) := by
      by_cases h1 : r.op = true
      · by_cases h2 : r.nd = about
        · exact .inr (.inr ⟨h1, h2, fun h3 => h ⟨h1, h2, h3⟩⟩)
        · exact .inr (.inl ⟨h1, h2⟩)
      · exact .inl (by simpa using h1)
    clear e h
    generalize r.me = f0 at *
    generalize r.per = f1 at *
    generalize r.tmo = f2 at *
    generalize r.nxt = f3 at *
    generalize r.seq = f4 at *
    generalize r.op = f5 at *
    generalize r.hlp = f6 at *
    generalize r.nd = f7 at *
    generalize r.at_ = f8 at *
    rcases hc with rfl | ⟨rfl, h2⟩ | ⟨rfl, rfl, h3⟩
    · go_enter Try.func58, Try.ntmps58
      go_wp2
      have fb := Blk.new_at' (w := w.alloc (.cells #[.int .u16 f0, .int .i64 f1, .int .i64 f2, .int .i64 f3, .int .i64 f4, .bool false, .bool f6, .int .u16 f7, .int .i64 f8, .slice A n c] 81)) (t := 81) (cs := #[.int .u16 f0, .int .i64 f1, .int .i64 f2, .int .i64 f3, .int .i64 f4, .bool false, .bool f6, .int .u16 f7, .int .i64 f8, .slice A n c]) (g := w.heap.size + 1) (by simp)
      have s0 := fb.cell 0
      have s1 := fb.cell 1
      have s2 := fb.cell 2
      have s3 := fb.cell 3
      have s4 := fb.cell 4
      have s5 := fb.cell 5
      have s6 := fb.cell 6
      have s7 := fb.cell 7
      have s8 := fb.cell 8
      have s9 := fb.cell 9
      simp only [List.getElem?_toArray, List.getElem?_cons_zero, List.getElem?_cons_succ] at s0 s1 s2 s3 s4 s5 s6 s7 s8 s9
      exact bodyPost_ret (v := .tuple #[.agg #[.int .u16 f0, .int .i64 f1, .int .i64 f2, .int .i64 f3, .int .i64 f4, .bool false, .bool f6, .int .u16 f7, .int .i64 f8, .slice A n c], .bool false]) (by simp [results, Try.results58, go_sem, s0, s1, s2, s3, s4, s5, s6, s7, s8, s9]) rfl ⟨rfl, ((Below.refl w.heap.size w).alloc (Nat.le_refl _) _).alloc (by simp) _⟩
    · have h2' : (f7 != about) = true := by rw [bne_iff_ne]; exact h2
      go_enter Try.func58, Try.ntmps58
      go_wp2
      have fb := Blk.new_at' (w := w.alloc (.cells #[.int .u16 f0, .int .i64 f1, .int .i64 f2, .int .i64 f3, .int .i64 f4, .bool true, .bool f6, .int .u16 f7, .int .i64 f8, .slice A n c] 81)) (t := 81) (cs := #[.int .u16 f0, .int .i64 f1, .int .i64 f2, .int .i64 f3, .int .i64 f4, .bool true, .bool f6, .int .u16 f7, .int .i64 f8, .slice A n c]) (g := w.heap.size + 1) (by simp)
      have s0 := fb.cell 0
      have s1 := fb.cell 1
      have s2 := fb.cell 2
      have s3 := fb.cell 3
      have s4 := fb.cell 4
      have s5 := fb.cell 5
      have s6 := fb.cell 6
      have s7 := fb.cell 7
      have s8 := fb.cell 8
      have s9 := fb.cell 9
      simp only [List.getElem?_toArray, List.getElem?_cons_zero, List.getElem?_cons_succ] at s0 s1 s2 s3 s4 s5 s6 s7 s8 s9
      exact bodyPost_ret (v := .tuple #[.agg #[.int .u16 f0, .int .i64 f1, .int .i64 f2, .int .i64 f3, .int .i64 f4, .bool true, .bool f6, .int .u16 f7, .int .i64 f8, .slice A n c], .bool false]) (by simp [results, Try.results58, go_sem, s0, s1, s2, s3, s4, s5, s6, s7, s8, s9]) rfl ⟨rfl, ((Below.refl w.heap.size w).alloc (Nat.le_refl _) _).alloc (by simp) _⟩
    · have h3' : (f4 != seq) = true := by rw [bne_iff_ne]; exact h3
      go_enter Try.func58, Try.ntmps58
      go_wp2
      have fb := Blk.new_at' (w := w.alloc (.cells #[.int .u16 f0, .int .i64 f1, .int .i64 f2, .int .i64 f3, .int .i64 f4, .bool true, .bool f6, .int .u16 f7, .int .i64 f8, .slice A n c] 81)) (t := 81) (cs := #[.int .u16 f0, .int .i64 f1, .int .i64 f2, .int .i64 f3, .int .i64 f4, .bool true, .bool f6, .int .u16 f7, .int .i64 f8, .slice A n c]) (g := w.heap.size + 1) (by simp)
      have s0 := fb.cell 0
      have s1 := fb.cell 1
      have s2 := fb.cell 2
      have s3 := fb.cell 3
      have s4 := fb.cell 4
      have s5 := fb.cell 5
      have s6 := fb.cell 6
      have s7 := fb.cell 7
      have s8 := fb.cell 8
      have s9 := fb.cell 9
      simp only [List.getElem?_toArray, List.getElem?_cons_zero, List.getElem?_cons_succ] at s0 s1 s2 s3 s4 s5 s6 s7 s8 s9
      exact bodyPost_ret (v := .tuple #[.agg #[.int .u16 f0, .int .i64 f1, .int .i64 f2, .int .i64 f3, .int .i64 f4, .bool true, .bool f6, .int .u16 f7, .int .i64 f8, .slice A n c], .bool false]) (by simp [results, Try.results58, go_sem, s0, s1, s2, s3, s4, s5, s6, s7, s8, s9]) rfl ⟨rfl, ((Below.refl w.heap.size w).alloc (Nat.le_refl _) _).alloc (by simp) _⟩
/-- Whether the times may be. -/
def timesB (per tmo : Int) : Bool := decide (1 ≤ per) && decide (1 ≤ tmo) && decide (per ≤ 1099511627776) && decide (tmo ≤ 1099511627776)
def rnewVal (me per tmo : Int) : Value := if 64 ≤ me then .tuple #[.agg rz, .int .i64 2] else if timesB per tmo = true then .tuple #[.agg (rpc (Pl.rnew me per tmo) none 0 0), .int .i64 0] else .tuple #[.agg rz, .int .i64 13]
set_option maxRecDepth 100000 in
set_option maxHeartbeats 2000000 in
theorem refPNew_any (me per tmo : Int) (w : World) :
    Calls Try.prog 57 #[.int .u16 me, .int .i64 per, .int .i64 tmo] w fun e w' => e = .returned (rnewVal me per tmo) ∧ Below w.heap.size w w' := by
  unfold rnewVal
  by_cases h : 64 ≤ me
  · rw [if_pos h]
    unfold rz
    go_enter Try.func57, Try.ntmps57
    go_wp2
    have fb := Blk.new w 81 #[.int .u16 0, .int .i64 0, .int .i64 0, .int .i64 0, .int .i64 0, .bool false, .bool false, .int .u16 0, .int .i64 0, .slice none 0 0]
    have s0 := fb.cell 0
    have s1 := fb.cell 1
    have s2 := fb.cell 2
    have s3 := fb.cell 3
    have s4 := fb.cell 4
    have s5 := fb.cell 5
    have s6 := fb.cell 6
    have s7 := fb.cell 7
    have s8 := fb.cell 8
    have s9 := fb.cell 9
    simp only [List.getElem?_toArray, List.getElem?_cons_zero, List.getElem?_cons_succ] at s0 s1 s2 s3 s4 s5 s6 s7 s8 s9
    exact bodyPost_ret (v := .tuple #[.agg #[.int .u16 0, .int .i64 0, .int .i64 0, .int .i64 0, .int .i64 0, .bool false, .bool false, .int .u16 0, .int .i64 0, .slice none 0 0], .int .i64 2]) (by simp [results, Try.results57, go_sem, s0, s1, s2, s3, s4, s5, s6, s7, s8, s9]) rfl ⟨rfl, (Below.refl w.heap.size w).alloc (Nat.le_refl _) _⟩
  · rw [if_neg h]
    have hc : (¬ 1 ≤ per) ∨ (1 ≤ per ∧ ¬ 1 ≤ tmo) ∨ (1 ≤ per ∧ 1 ≤ tmo ∧ ¬ per ≤ 1099511627776) ∨ (1 ≤ per ∧ 1 ≤ tmo ∧ per ≤ 1099511627776 ∧ ¬ tmo ≤ 1099511627776) ∨ (1 ≤ per ∧ 1 ≤ tmo ∧ per ≤ 1099511627776 ∧ tmo ≤ 1099511627776) := by omega
    rcases hc with h1 | ⟨h1, h2⟩ | ⟨h1, h2, h3⟩ | ⟨h1, h2, h3, h4⟩ | ⟨h1, h2, h3, h4⟩
    · have ht : timesB per tmo = false := by unfold timesB; simp [h1]
      rw [ht, if_neg (by simp)]
      unfold rz
      clear ht
      go_enter Try.func57, Try.ntmps57
      go_wp2
      have fb := Blk.new w 81 #[.int .u16 0, .int .i64 0, .int .i64 0, .int .i64 0, .int .i64 0, .bool false, .bool false, .int .u16 0, .int .i64 0, .slice none 0 0]
      have s0 := fb.cell 0
      have s1 := fb.cell 1
      have s2 := fb.cell 2
      have s3 := fb.cell 3
      have s4 := fb.cell 4
      have s5 := fb.cell 5
      have s6 := fb.cell 6
      have s7 := fb.cell 7
      have s8 := fb.cell 8
      have s9 := fb.cell 9
      simp only [List.getElem?_toArray, List.getElem?_cons_zero, List.getElem?_cons_succ] at s0 s1 s2 s3 s4 s5 s6 s7 s8 s9
      exact bodyPost_ret (v := .tuple #[.agg #[.int .u16 0, .int .i64 0, .int .i64 0, .int .i64 0, .int .i64 0, .bool false, .bool false, .int .u16 0, .int .i64 0, .slice none 0 0], .int .i64 13]) (by simp [results, Try.results57, go_sem, s0, s1, s2, s3, s4, s5, s6, s7, s8, s9]) rfl ⟨rfl, (Below.refl w.heap.size w).alloc (Nat.le_refl _) _⟩
    · have ht : timesB per tmo = false := by unfold timesB; simp [h1, h2]
      rw [ht, if_neg (by simp)]
      unfold rz
      clear ht
      go_enter Try.func57, Try.ntmps57
      go_wp2
      have fb := Blk.new w 81 #[.int .u16 0, .int .i64 0, .int .i64 0, .int .i64 0, .int .i64 0, .bool false, .bool false, .int .u16 0, .int .i64 0, .slice none 0 0]
      have s0 := fb.cell 0
      have s1 := fb.cell 1
      have s2 := fb.cell 2
      have s3 := fb.cell 3
      have s4 := fb.cell 4
      have s5 := fb.cell 5
      have s6 := fb.cell 6
      have s7 := fb.cell 7
      have s8 := fb.cell 8
      have s9 := fb.cell 9
      simp only [List.getElem?_toArray, List.getElem?_cons_zero, List.getElem?_cons_succ] at s0 s1 s2 s3 s4 s5 s6 s7 s8 s9
      exact bodyPost_ret (v := .tuple #[.agg #[.int .u16 0, .int .i64 0, .int .i64 0, .int .i64 0, .int .i64 0, .bool false, .bool false, .int .u16 0, .int .i64 0, .slice none 0 0], .int .i64 13]) (by simp [results, Try.results57, go_sem, s0, s1, s2, s3, s4, s5, s6, s7, s8, s9]) rfl ⟨rfl, (Below.refl w.heap.size w).alloc (Nat.le_refl _) _⟩
    · have ht : timesB per tmo = false := by unfold timesB; simp [h1, h2, h3]
      rw [ht, if_neg (by simp)]
      unfold rz
      clear ht
      go_enter Try.func57, Try.ntmps57
      go_wp2
      have fb := Blk.new w 81 #[.int .u16 0, .int .i64 0, .int .i64 0, .int .i64 0, .int .i64 0, .bool false, .bool false, .int .u16 0, .int .i64 0, .slice none 0 0]
      have s0 := fb.cell 0
      have s1 := fb.cell 1
      have s2 := fb.cell 2
      have s3 := fb.cell 3
      have s4 := fb.cell 4
      have s5 := fb.cell 5
      have s6 := fb.cell 6
      have s7 := fb.cell 7
      have s8 := fb.cell 8
      have s9 := fb.cell 9
      simp only [List.getElem?_toArray, List.getElem?_cons_zero, List.getElem?_cons_succ] at s0 s1 s2 s3 s4 s5 s6 s7 s8 s9
      exact bodyPost_ret (v := .tuple #[.agg #[.int .u16 0, .int .i64 0, .int .i64 0, .int .i64 0, .int .i64 0, .bool false, .bool false, .int .u16 0, .int .i64 0, .slice none 0 0], .int .i64 13]) (by simp [results, Try.results57, go_sem, s0, s1, s2, s3, s4, s5, s6, s7, s8, s9]) rfl ⟨rfl, (Below.refl w.heap.size w).alloc (Nat.le_refl _) _⟩
    · have ht : timesB per tmo = false := by unfold timesB; simp [h1, h2, h3, h4]
      rw [ht, if_neg (by simp)]
      unfold rz
      clear ht
      go_enter Try.func57, Try.ntmps57
      go_wp2
      have fb := Blk.new w 81 #[.int .u16 0, .int .i64 0, .int .i64 0, .int .i64 0, .int .i64 0, .bool false, .bool false, .int .u16 0, .int .i64 0, .slice none 0 0]
      have s0 := fb.cell 0
      have s1 := fb.cell 1
      have s2 := fb.cell 2
      have s3 := fb.cell 3
      have s4 := fb.cell 4
      have s5 := fb.cell 5
      have s6 := fb.cell 6
      have s7 := fb.cell 7
      have s8 := fb.cell 8
      have s9 := fb.cell 9
      simp only [List.getElem?_toArray, List.getElem?_cons_zero, List.getElem?_cons_succ] at s0 s1 s2 s3 s4 s5 s6 s7 s8 s9
      exact bodyPost_ret (v := .tuple #[.agg #[.int .u16 0, .int .i64 0, .int .i64 0, .int .i64 0, .int .i64 0, .bool false, .bool false, .int .u16 0, .int .i64 0, .slice none 0 0], .int .i64 13]) (by simp [results, Try.results57, go_sem, s0, s1, s2, s3, s4, s5, s6, s7, s8, s9]) rfl ⟨rfl, (Below.refl w.heap.size w).alloc (Nat.le_refl _) _⟩
    · have ht : timesB per tmo = true := by unfold timesB; simp [h1, h2, h3, h4]
      rw [ht, if_pos rfl]
      unfold rpc Pl.rnew
      simp only
      clear ht
      go_enter Try.func57, Try.ntmps57
      go_wp2
      have fb := Blk.new w 81 #[.int .u16 me, .int .i64 per, .int .i64 tmo, .int .i64 0, .int .i64 0, .bool false, .bool false, .int .u16 0, .int .i64 0, .slice none 0 0]
      have s0 := fb.cell 0
      have s1 := fb.cell 1
      have s2 := fb.cell 2
      have s3 := fb.cell 3
      have s4 := fb.cell 4
      have s5 := fb.cell 5
      have s6 := fb.cell 6
      have s7 := fb.cell 7
      have s8 := fb.cell 8
      have s9 := fb.cell 9
      simp only [List.getElem?_toArray, List.getElem?_cons_zero, List.getElem?_cons_succ] at s0 s1 s2 s3 s4 s5 s6 s7 s8 s9
      exact bodyPost_ret (v := .tuple #[.agg #[.int .u16 me, .int .i64 per, .int .i64 tmo, .int .i64 0, .int .i64 0, .bool false, .bool false, .int .u16 0, .int .i64 0, .slice none 0 0], .int .i64 0]) (by simp [results, Try.results57, go_sem, s0, s1, s2, s3, s4, s5, s6, s7, s8, s9]) rfl ⟨rfl, (Below.refl w.heap.size w).alloc (Nat.le_refl _) _⟩
end Go.Proofs.Ytnlpgjdgiappcaa
