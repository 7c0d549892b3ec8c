/- WORDS: how a probe lies in memory: one block of 201 cells. -/
import Derived.Test.YtnlpgjdgiappcaaMbPos
import Derived.Test.YtnlpgjdgiappcaaPbPure
namespace Go.Proofs.Ytnlpgjdgiappcaa
set_option linter.unusedVariables false
set_option linter.unusedSimpArgs false
open Go.RowKit

def wa (x : Pl.Wa) : List Value := [.bool x.is, .int .i64 x.i, .int .i64 x.f]
theorem wa_length (x : Pl.Wa) : (wa x).length = 3 := rfl
def phead (p : Pl.Pb) : List Value := [.int .u16 p.me, .int .i64 p.per, .int .i64 p.tmo, .int .i64 p.nxt, .int .i64 p.seq, .bool p.op, .bool p.hlp, .int .u16 p.nd, .int .i64 p.at_]
def pl (p : Pl.Pb) : List Value := phead p ++ (List.range 64).flatMap (fun k => wa (p.w k))
def pcells (p : Pl.Pb) : Array Value := (pl p).toArray
theorem flat3_length (f : Nat → List Value) (h : ∀ k, (f k).length = 3) (n : Nat) : ((List.range n).flatMap f).length = 3 * n := by
  induction n with
  | zero => rfl
  | succ n ih => rw [List.range_succ, List.flatMap_append, List.length_append, ih]; simp [h]; omega
theorem flat3_get (f : Nat → List Value) (h : ∀ k, (f k).length = 3) (n : Nat) : ∀ k j, k < n → j < 3 → ((List.range n).flatMap f)[k * 3 + j]? = (f k)[j]? := by
  induction n with
  | zero => intro k j hk; omega
  | succ n ih =>
    intro k j hk hj
    rw [List.range_succ, List.flatMap_append]
    by_cases hkn : k < n
    · rw [List.getElem?_append_left (by rw [flat3_length f h]; omega)]
      exact ih k j hkn hj
    · obtain rfl : k = n := by omega
      rw [List.getElem?_append_right (by rw [flat3_length f h]; omega), flat3_length f h]
      have e : k * 3 + j - 3 * k = j := by omega
      rw [e]
      simp
theorem pl_length (p : Pl.Pb) : (pl p).length = 201 := by
  simp only [pl, List.length_append, phead, List.length_cons, List.length_nil]
  rw [flat3_length _ (fun k => wa_length (p.w k))]
theorem pcells_size (p : Pl.Pb) : (pcells p).size = 201 := by simp [pcells, pl_length]
theorem pcells_head (p : Pl.Pb) (j : Nat) (hj : j < 9) : (pcells p)[j]? = (phead p)[j]? := by
  simp only [pcells, pl, List.getElem?_toArray]
  exact List.getElem?_append_left (by simp [phead]; omega)
theorem pcells_at (p : Pl.Pb) (k j : Nat) (hk : k < 64) (hj : j < 3) : (pcells p)[9 + k * 3 + j]? = (wa (p.w k))[j]? := by
  simp only [pcells, pl, List.getElem?_toArray]
  rw [List.getElem?_append_right (by simp [phead]; omega)]
  have e : 9 + k * 3 + j - (phead p).length = k * 3 + j := by simp [phead]; omega
  rw [e]
  exact flat3_get _ (fun k => wa_length (p.w k)) 64 k j hk hj
theorem idx201 {i : Nat} (h : i < 201) : i < 9 ∨ ∃ q j, q < 64 ∧ j < 3 ∧ i = 9 + q * 3 + j := by
  by_cases h5 : i < 9
  · exact .inl h5
  · exact .inr ⟨(i - 9) / 3, (i - 9) % 3, by omega, by omega, by omega⟩
/-- Two probes' cells are one, where they are so at each place. -/
theorem pcells_ext (a : Array Value) (p : Pl.Pb) (hs : a.size = 201) (h0 : ∀ i, i < 9 → a[i]? = (phead p)[i]?) (h1 : ∀ k j, k < 64 → j < 3 → a[9 + k * 3 + j]? = (wa (p.w k))[j]?) : a = pcells p := by
  apply Array.ext_getElem?
  intro i
  by_cases hi : i < 201
  · rcases idx201 hi with hi | ⟨q, j, hq, hj, rfl⟩
    · rw [h0 i hi, pcells_head p i hi]
    · rw [h1 q j hq hj, pcells_at p q j hq hj]
  · rw [Array.getElem?_eq_none (by omega), Array.getElem?_eq_none (by rw [pcells_size]; omega)]
/-- A cell of the head is turned. -/
theorem pcells_headset (p q : Pl.Pb) (i : Nat) (hi : i < 9) (v : Value) (hh : ∀ j, j < 9 → (phead q)[j]? = if i = j then some v else (phead p)[j]?) (hw : q.w = p.w) : (pcells p).setIfInBounds i v = pcells q := by
  refine pcells_ext _ _ (by rw [Array.size_setIfInBounds, pcells_size]) (fun j hj => ?_) (fun k j hk hj => ?_)
  · rw [Array.getElem?_setIfInBounds, hh j hj, pcells_size]
    split
    · rw [if_pos (by omega)]
    · exact pcells_head p j hj
  · rw [Array.getElem?_setIfInBounds, if_neg (by omega), pcells_at p k j hk hj, hw]
/-- A watched one's cell is turned. -/
theorem pcells_waset (p : Pl.Pb) (k i : Nat) (hk : k < 64) (hi : i < 3) (x : Pl.Wa) (v : Value) (hx : ∀ j, j < 3 → (wa x)[j]? = if i = j then some v else (wa (p.w k))[j]?) : (pcells p).setIfInBounds (9 + k * 3 + i) v = pcells (p.setW k x) := by
  refine pcells_ext _ _ (by rw [Array.size_setIfInBounds, pcells_size]) (fun j hj => ?_) (fun q j hq hj => ?_)
  · rw [Array.getElem?_setIfInBounds, if_neg (by omega), pcells_head p j hj]
    rfl
  · rw [Array.getElem?_setIfInBounds, pcells_size, pcells_at p q j hq hj]
    unfold Pl.Pb.setW
    by_cases hqk : q = k
    · subst hqk
      simp only [if_true]
      rw [hx j hj]
      by_cases hij : i = j
      · subst hij
        rw [if_pos rfl, if_pos (by omega), if_pos rfl]
      · rw [if_neg (by omega), if_neg hij]
    · simp only [if_neg hqk]
      rw [if_neg (by omega)]
theorem setW_setW (p : Pl.Pb) (k : Nat) (x y : Pl.Wa) : (p.setW k x).setW k y = p.setW k y := by
  unfold Pl.Pb.setW
  congr 1
  funext j
  by_cases h : j = k <;> simp [h]
theorem pl_one (p : Pl.Pb) : ∀ v ∈ pl p, v.oneCell' = true := by
  intro v hv
  unfold pl at hv
  rcases List.mem_append.1 hv with hv | hv
  · simp [phead] at hv
    rcases hv with rfl | rfl | rfl | rfl | rfl | rfl | rfl | rfl | rfl <;> rfl
  · obtain ⟨k, _, hk⟩ := List.mem_flatMap.1 hv
    simp [wa] at hk
    rcases hk with rfl | rfl | rfl <;> rfl

/-- A probe lies at block g. -/
def IsPb (w : World) (g : Nat) (p : Pl.Pb) : Prop := Blk w g 111 (pcells p)
section
variable {w w' : World} {g : Nat} {p : Pl.Pb}
theorem IsPb.lt (H : IsPb w g p) : g < w.heap.size := Blk.lt H
theorem IsPb.head (H : IsPb w g p) (j : Nat) (hj : j < 9) : w.cell? ⟨g, j, none⟩ = (phead p)[j]? := (Blk.cell H j).trans (pcells_head p j hj)
theorem IsPb.cell (H : IsPb w g p) (k j : Nat) (hk : k < 64) (hj : j < 3) : w.cell? ⟨g, 9 + k * 3 + j, none⟩ = (wa (p.w k))[j]? := (Blk.cell H _).trans (pcells_at p k j hk hj)
theorem IsPb.frozen (H : IsPb w g p) (i : Nat) : w.frozen? ⟨g, i, none⟩ = false := Blk.frozen H i
theorem IsPb.below {B : Nat} (H : IsPb w g p) (hb : Below B w w') (hg : g < B) : IsPb w' g p := Blk.below H hb hg
theorem IsPb.alloc (H : IsPb w g p) (o : Obj) : IsPb (w.alloc o) g p := Blk.alloc H o
theorem IsPb.drew (H : IsPb w g p) : IsPb w.drew g p := H
theorem IsPb.drewN (H : IsPb w g p) (n : Nat) : IsPb (w.drewN n) g p := H
theorem IsPb.grown {row : Option Nat} (H : IsPb w g p) (hb : w.grownBy w' row) (hg : some g ≠ row) : IsPb w' g p := Blk.grown H hb hg
theorem IsPb.far (H : IsPb w g p) {a : Addr} (hp : a.block ≠ g) (u : Value) : IsPb (w.setCell a u) g p := Blk.far H (fun e => hp e.symm) u
theorem IsPb.set_head (H : IsPb w g p) (q : Pl.Pb) (i : Nat) (hi : i < 9) (v : Value) (hh : ∀ j, j < 9 → (phead q)[j]? = if i = j then some v else (phead p)[j]?) (hw : q.w = p.w) : IsPb (w.setCell ⟨g, i, none⟩ v) g q := by
  have := Blk.set_ H i v
  rw [pcells_headset p q i hi v hh hw] at this
  exact this
theorem IsPb.set_wa (H : IsPb w g p) (k i : Nat) (hk : k < 64) (hi : i < 3) (x : Pl.Wa) (v : Value) (hx : ∀ j, j < 3 → (wa x)[j]? = if i = j then some v else (wa (p.w k))[j]?) : IsPb (w.setCell ⟨g, 9 + k * 3 + i, none⟩ v) g (p.setW k x) := by
  have := Blk.set_ H (9 + k * 3 + i) v
  rw [pcells_waset p k i hk hi x v hx] at this
  exact this
theorem IsPb.set_op (H : IsPb w g p) (b : Bool) : IsPb (w.setCell ⟨g, 5, none⟩ (.bool b)) g { p with op := b } := H.set_head _ 5 (by omega) _ (by
  intro j hj
  rcases (show j = 0 ∨ j = 1 ∨ j = 2 ∨ j = 3 ∨ j = 4 ∨ j = 5 ∨ j = 6 ∨ j = 7 ∨ j = 8 by omega) with rfl | rfl | rfl | rfl | rfl | rfl | rfl | rfl | rfl <;> rfl) rfl
theorem IsPb.set_hlp (H : IsPb w g p) (b : Bool) : IsPb (w.setCell ⟨g, 6, none⟩ (.bool b)) g { p with hlp := b } := H.set_head _ 6 (by omega) _ (by
  intro j hj
  rcases (show j = 0 ∨ j = 1 ∨ j = 2 ∨ j = 3 ∨ j = 4 ∨ j = 5 ∨ j = 6 ∨ j = 7 ∨ j = 8 by omega) with rfl | rfl | rfl | rfl | rfl | rfl | rfl | rfl | rfl <;> rfl) rfl
theorem IsPb.set_nd (H : IsPb w g p) (n : Int) : IsPb (w.setCell ⟨g, 7, none⟩ (.int .u16 n)) g { p with nd := n } := H.set_head _ 7 (by omega) _ (by
  intro j hj
  rcases (show j = 0 ∨ j = 1 ∨ j = 2 ∨ j = 3 ∨ j = 4 ∨ j = 5 ∨ j = 6 ∨ j = 7 ∨ j = 8 by omega) with rfl | rfl | rfl | rfl | rfl | rfl | rfl | rfl | rfl <;> rfl) rfl
theorem IsPb.set_at (H : IsPb w g p) (n : Int) : IsPb (w.setCell ⟨g, 8, none⟩ (.int .i64 n)) g { p with at_ := n } := H.set_head _ 8 (by omega) _ (by
  intro j hj
  rcases (show j = 0 ∨ j = 1 ∨ j = 2 ∨ j = 3 ∨ j = 4 ∨ j = 5 ∨ j = 6 ∨ j = 7 ∨ j = 8 by omega) with rfl | rfl | rfl | rfl | rfl | rfl | rfl | rfl | rfl <;> rfl) rfl
theorem IsPb.set_nxt (H : IsPb w g p) (n : Int) : IsPb (w.setCell ⟨g, 3, none⟩ (.int .i64 n)) g { p with nxt := n } := H.set_head _ 3 (by omega) _ (by
  intro j hj
  rcases (show j = 0 ∨ j = 1 ∨ j = 2 ∨ j = 3 ∨ j = 4 ∨ j = 5 ∨ j = 6 ∨ j = 7 ∨ j = 8 by omega) with rfl | rfl | rfl | rfl | rfl | rfl | rfl | rfl | rfl <;> rfl) rfl
theorem IsPb.set_seq (H : IsPb w g p) (n : Int) : IsPb (w.setCell ⟨g, 4, none⟩ (.int .i64 n)) g { p with seq := n } := H.set_head _ 4 (by omega) _ (by
  intro j hj
  rcases (show j = 0 ∨ j = 1 ∨ j = 2 ∨ j = 3 ∨ j = 4 ∨ j = 5 ∨ j = 6 ∨ j = 7 ∨ j = 8 by omega) with rfl | rfl | rfl | rfl | rfl | rfl | rfl | rfl | rfl <;> rfl) rfl
/-- What is watched is watched no more. -/
theorem IsPb.unwatch (H : IsPb w g p) (k : Nat) (hk : k < 64) : IsPb (w.setCell ⟨g, 9 + k * 3, none⟩ (.bool false)) g (p.setW k ⟨false, (p.w k).i, (p.w k).f⟩) := by
  refine H.set_wa k 0 hk (by omega) _ _ (fun j hj => ?_)
  rcases (show j = 0 ∨ j = 1 ∨ j = 2 by omega) with rfl | rfl | rfl <;> rfl
/-- Somebody is watched. -/
theorem IsPb.watch (H : IsPb w g p) (k : Nat) (hk : k < 64) (i f : Int) : IsPb (((w.setCell ⟨g, 9 + k * 3, none⟩ (.bool true)).setCell ⟨g, 9 + k * 3 + 1, none⟩ (.int .i64 i)).setCell ⟨g, 9 + k * 3 + 2, none⟩ (.int .i64 f)) g (p.setW k ⟨true, i, f⟩) := by
  have h0 := H.set_wa k 0 hk (by omega) ⟨true, (p.w k).i, (p.w k).f⟩ (.bool true) (fun j hj => by
    rcases (show j = 0 ∨ j = 1 ∨ j = 2 by omega) with rfl | rfl | rfl <;> rfl)
  have e1 : ∀ x : Pl.Wa, (p.setW k x).w k = x := fun x => by simp [Pl.Pb.setW]
  have h1 := h0.set_wa k 1 hk (by omega) ⟨true, i, (p.w k).f⟩ (.int .i64 i) (fun j hj => by
    rw [e1]
    rcases (show j = 0 ∨ j = 1 ∨ j = 2 by omega) with rfl | rfl | rfl <;> rfl)
  rw [setW_setW] at h1
  have h2 := h1.set_wa k 2 hk (by omega) ⟨true, i, f⟩ (.int .i64 f) (fun j hj => by
    rw [e1]
    rcases (show j = 0 ∨ j = 1 ∨ j = 2 by omega) with rfl | rfl | rfl <;> rfl)
  rw [setW_setW] at h2
  exact h2
end

/-! ### the world goes on but for two blocks -/
structure Grow2 (w w' : World) (a b : Nat) : Prop where
  os : w'.os = w.os
  tape : w'.tape = w.tape
  output : w'.output = w.output
  size : w.heap.size ≤ w'.heap.size
  block : ∀ i, i < w.heap.size → i ≠ a → i ≠ b → w'.heap[i]? = w.heap[i]?
section
variable {w w1 w2 : World} {a b : Nat}
theorem Grow2.refl (w : World) (a b : Nat) : Grow2 w w a b := ⟨rfl, rfl, rfl, Nat.le_refl _, fun _ _ _ _ => rfl⟩
theorem Grow2.trans (h : Grow2 w w1 a b) (k : Grow2 w1 w2 a b) : Grow2 w w2 a b :=
  ⟨k.os.trans h.os, k.tape.trans h.tape, k.output.trans h.output, Nat.le_trans h.size k.size, fun i hi ha hb => (k.block i (Nat.lt_of_lt_of_le hi h.size) ha hb).trans (h.block i hi ha hb)⟩
theorem Grow2.of_below (h : Below w.heap.size w w1) : Grow2 w w1 a b := ⟨h.os, h.tape, h.output, h.size, fun i hi _ _ => h.block i hi⟩
theorem Grow2.fst (h : w.grownBy w1 (some a)) : Grow2 w w1 a b := ⟨h.os, h.tape, h.output, h.size, fun i hi ha _ => h.block i hi (fun e => ha (by injection e))⟩
theorem Grow2.snd (h : w.grownBy w1 (some b)) : Grow2 w w1 a b := ⟨h.os, h.tape, h.output, h.size, fun i hi _ hb => h.block i hi (fun e => hb (by injection e))⟩
theorem Grow2.symm (h : Grow2 w w1 a b) : Grow2 w w1 b a := ⟨h.os, h.tape, h.output, h.size, fun i hi ha hb => h.block i hi hb ha⟩
/-- A row of the call's own grows. -/
theorem Grow2.own (h : Grow2 w w1 a b) {row : Option Nat} (k : w1.grownBy w2 row) (hr : ∀ q, row = some q → w.heap.size ≤ q) : Grow2 w w2 a b :=
  ⟨k.os.trans h.os, k.tape.trans h.tape, k.output.trans h.output, Nat.le_trans h.size k.size,
    fun i hi ha hb => (k.block i (Nat.lt_of_lt_of_le hi h.size) (fun e => by have := hr i e.symm; omega)).trans (h.block i hi ha hb)⟩
theorem Grow2.then_ (h : Grow2 w w1 a b) (k : Below w1.heap.size w1 w2) : Grow2 w w2 a b := h.trans (.of_below k)
theorem Grow2.alloc (h : Grow2 w w1 a b) (o : Obj) : Grow2 w (w1.alloc o) a b := h.then_ ((Below.refl _ _).alloc (Nat.le_refl _) _)
theorem Grow2.drew (h : Grow2 w w1 a b) : Grow2 w w1.drew a b := ⟨h.os, h.tape, h.output, h.size, h.block⟩
theorem Grow2.drewN (h : Grow2 w w1 a b) (n : Nat) : Grow2 w (w1.drewN n) a b := ⟨h.os, h.tape, h.output, h.size, h.block⟩
theorem Grow2.setCell (h : Grow2 w w1 a b) {p : Addr} (hp : p.block = a ∨ p.block = b ∨ w.heap.size ≤ p.block) (u : Value) : Grow2 w (w1.setCell p u) a b :=
  ⟨h.os, h.tape, h.output, by simpa [World.setCell] using h.size, fun i hi ha hb => (Below.heap_setCell w1 p u i (by
    rintro rfl
    rcases hp with hp | hp | hp
    · exact ha (by rw [hp])
    · exact hb (by rw [hp])
    · omega)).trans (h.block i hi ha hb)⟩
theorem Blk.grow2 {g : Nat} {t : TypeId} {cs : Array Value} (h : Blk w g t cs) (k : Grow2 w w1 a b) (ha : g ≠ a) (hb : g ≠ b) : Blk w1 g t cs := (k.block g h.lt ha hb).trans h
theorem own_grow2 {base : Nat} {e : TypeId} {size n : Nat} {v : Value} {xs : List Value} (h : w.ownsRow base e size v n xs) (k : Grow2 w w1 a b) (ha : v.ownBlock ≠ some a) (hb : v.ownBlock ≠ some b) : w1.ownsRow base e size v n xs := by
  cases hv : v.ownBlock with
  | none =>
    rcases h.2 with ⟨rfl, hx⟩ | ⟨g', cap, cur, rfl, _⟩
    · exact ⟨h.1, .inl ⟨rfl, hx⟩⟩
    · simp [Value.ownBlock] at hv
  | some q =>
    have hq := (h.lt q hv).2
    rcases h.2 with ⟨rfl, hx⟩ | ⟨g', cap, cur, rfl, h1, h2, h3⟩
    · exact ⟨h.1, .inl ⟨rfl, hx⟩⟩
    · have e1 : g' = q := by simpa [Value.ownBlock] using hv
      subst e1
      refine ⟨h.1, .inr ⟨g', cap, cur, rfl, h1, ?_, h3⟩⟩
      rw [k.block g' hq (fun e => ha (by rw [hv, e])) (fun e => hb (by rw [hv, e]))]
      exact h2
theorem below_of_grow2 {B : Nat} (h : Grow2 w w1 a b) (hB : B ≤ w.heap.size) (ha : B ≤ a) (hb : B ≤ b) : Below B w w1 :=
  ⟨h.os, h.tape, h.output, h.size, fun i hi => h.block i (by omega) (by omega) (by omega)⟩
end

/-! ### packets that go out -/
def oc (o : Pl.Ou) : List Value := [.int .u16 o.to_, .int .u8 o.k, .int .u16 o.fr, .int .u16 o.ab, .int .i64 o.sq, .slice none 0 0, .slice none 0 0]
def outs (l : List Pl.Ou) : List Value := l.flatMap oc
theorem outs_length (l : List Pl.Ou) : (outs l).length = l.length * 7 := by
  induction l with
  | nil => rfl
  | cons m l ih => simp only [outs, List.flatMap_cons, List.length_append, List.length_cons] at *; rw [ih]; simp [oc]; omega
theorem outs_append (a b : List Pl.Ou) : outs (a ++ b) = outs a ++ outs b := by simp [outs]
theorem outs_get (l : List Pl.Ou) (k j : Nat) (m : Pl.Ou) (h : l[k]? = some m) (hj : j < 7) : (outs l)[k * 7 + j]? = (oc m)[j]? := by
  induction l generalizing k with
  | nil => simp at h
  | cons x l ih =>
    have e : outs (x :: l) = oc x ++ outs l := rfl
    have hl : (oc x).length = 7 := rfl
    rw [e]
    cases k with
    | zero => simp at h; subst h; rw [List.getElem?_append_left (by omega)]; simp
    | succ k =>
      simp at h
      rw [List.getElem?_append_right (by omega), hl, show (k + 1) * 7 + j - 7 = k * 7 + j by omega]
      exact ih k h

end Go.Proofs.Ytnlpgjdgiappcaa
