/- WORDS: how a pattern's text, states, sets and the parser lie in memory. -/
import Derived.Test.YtnidjfmbbfoheaaProg
import Derived.Test.YtnidjfmbbfoheaaCw
import Derived.Test.YtnidjfmbbfoheaaRxC
namespace Go.Proofs.Ytnidjfmbbfoheaa
set_option linter.unusedVariables false
set_option linter.unusedSimpArgs false
open Go.RowKit

/-! ### texts -/
/-- A text of bytes. -/
def bs (s : List Nat) : ByteArray := ⟨(s.map UInt8.ofNat).toArray⟩
theorem bs_size (s : List Nat) : (bs s).size = s.length := by simp [bs, ByteArray.size]
theorem bs_nil : bs [] = ⟨#[]⟩ := rfl
theorem bs_list (s : List Nat) : (bs s).toList = s.map UInt8.ofNat := by
  rw [ByteArray.toList_eq]
  simp [bs]
theorem bs_tail (c : Nat) (r : List Nat) : (bs (c :: r)).extract 1 (bs (c :: r)).size = bs r := by
  apply ByteArray.ext
  rw [ByteArray.data_extract]
  simp [bs, ByteArray.size, List.take_of_length_le]
theorem idx_bs (s : List Nat) (k c : Nat) (h : s[k]? = some c) (hc : c < 256) (w : World) : (Instr.index 9 (.string (bs s)) (.int .i64 (k : Int))).run Try.prog w = .ok (.int .u8 (c : Int)) w := by
  have hk : k < s.length := (List.getElem?_eq_some_iff.1 h).1
  have hk2 : k < (bs s).size := by rw [bs_size]; exact hk
  rw [run_index_string w 9 _ .i64 k Try.underlying9, dif_pos ⟨by omega, by omega⟩]
  simp only [Int.toNat_natCast]
  have e : ((bs s)[k]'hk2).toNat = c := by
    have h1 : (bs s)[k]'hk2 = UInt8.ofNat (s[k]'hk) := by simp [bs, ByteArray.getElem_eq_getElem_data]
    have h2 : s[k]'hk = c := (List.getElem?_eq_some_iff.1 h).2
    rw [h1, h2]
    simp
    omega
  rw [e]

/-! ### rows of a call's own, written into -/
theorem own_set {w : World} {base n g cap : Nat} {e : TypeId} {size : Nat} {xs : List Value} (h : w.ownsRow base e size (.slice (some ⟨g, 0, none⟩) n cap) n xs) (i : Nat) (hi : i < n * size) (u : Value) :
    (w.setCell ⟨g, i, none⟩ u).ownsRow base e size (.slice (some ⟨g, 0, none⟩) n cap) n (xs.set i u) := by
  refine ⟨by rw [List.length_set]; exact h.1, ?_⟩
  rcases h.2 with ⟨h1, _⟩ | ⟨g', cap', cur, he, hb, hh, h1, h2, h3, h4⟩
  · cases h1
  · injection he with he1 he2 he3
    injection he1 with he1
    injection he1 with he1
    subst he1 he3
    refine .inr ⟨g, cap, cur.setIfInBounds i u, rfl, hb, ?_, h1, h2, by simp [h3], ?_⟩
    · simp [World.setCell, Array.getElem?_modify, hh]
    · rw [Array.toList_setIfInBounds, ← h4, List.take_set]
theorem own_form {w : World} {base n : Nat} {e : TypeId} {size : Nat} {v : Value} {xs : List Value} (h : w.ownsRow base e size v n xs) (hn : 0 < n) : ∃ g cap, v = .slice (some ⟨g, 0, none⟩) n cap ∧ base ≤ g ∧ ∃ cur, Blk w g e cur ∧ ∀ (j : Nat) (u : Value), xs[j]? = some u → w.cell? ⟨g, j, none⟩ = some u := by
  rcases h.2 with ⟨_, h0⟩ | ⟨g, cap, cur, rfl, hb, hh, _⟩
  · omega
  · refine ⟨g, cap, rfl, hb, cur, hh, fun j u hu => ?_⟩
    have := h.cells (g := g) rfl j u hu
    rwa [Addr.add_mid, Nat.zero_add] at this

/-! ### states -/
abbrev LS := List (Option Nat × Rx.St)
def pv : Option Nat → Value
  | none => .pointer none
  | some b => .pointer (some ⟨b, 0, none⟩)
def cs3 (x : Option Nat × Rx.St) : List Value := [pv x.1, .int .i64 x.2.nxt, .int .i64 x.2.oth]
def stc (L : LS) : List Value := L.flatMap cs3
theorem stc_length (L : LS) : (stc L).length = L.length * 3 := by
  induction L with
  | nil => rfl
  | cons m l ih => simp only [stc, List.flatMap_cons, List.length_append, List.length_cons] at *; rw [ih]; simp [cs3]; omega
theorem stc_append (a b : LS) : stc (a ++ b) = stc a ++ stc b := by simp [stc]
theorem stc_get (L : LS) (k j : Nat) (x : Option Nat × Rx.St) (h : L[k]? = some x) (hj : j < 3) : (stc L)[k * 3 + j]? = (cs3 x)[j]? := by
  induction L generalizing k with
  | nil => simp at h
  | cons y l ih =>
    have e : stc (y :: l) = cs3 y ++ stc l := rfl
    have hl : (cs3 y).length = 3 := rfl
    rw [e]
    cases k with
    | zero => simp at h; subst h; rw [List.getElem?_append_left (by omega)]; simp
    | succ k =>
      simp at h
      rw [List.getElem?_append_right (by omega), hl, show (k + 1) * 3 + j - 3 = k * 3 + j by omega]
      exact ih k h
theorem stc_modify (L : LS) (k j : Nat) (f : Option Nat × Rx.St → Option Nat × Rx.St) (u : Value) (hk : k < L.length) (hj : j < 3) (hf : ∀ x, cs3 (f x) = (cs3 x).set j u) : stc (L.modify k f) = (stc L).set (k * 3 + j) u := by
  induction L generalizing k with
  | nil => simp at hk
  | cons y l ih =>
    have hl : (cs3 y).length = 3 := rfl
    cases k with
    | zero =>
      have e : stc ((y :: l).modify 0 f) = cs3 (f y) ++ stc l := rfl
      have e2 : stc (y :: l) = cs3 y ++ stc l := rfl
      rw [e, e2, hf, Nat.zero_mul, Nat.zero_add, List.set_append_left _ _ (by omega)]
    | succ k =>
      have e : stc ((y :: l).modify (k + 1) f) = cs3 y ++ stc (l.modify k f) := rfl
      have e2 : stc (y :: l) = cs3 y ++ stc l := rfl
      rw [e, e2, ih k (by simpa using hk), List.set_append_right _ _ (by omega), hl, show (k + 1) * 3 + j - 3 = k * 3 + j by omega]
def nx (v : Int) (x : Option Nat × Rx.St) : Option Nat × Rx.St := (x.1, { x.2 with nxt := v })
def ox (v : Int) (x : Option Nat × Rx.St) : Option Nat × Rx.St := (x.1, { x.2 with oth := v })
theorem stc_next (L : LS) (k : Nat) (v : Int) (hk : k < L.length) : stc (L.modify k (nx v)) = (stc L).set (k * 3 + 1) (.int .i64 v) := stc_modify L k 1 _ _ hk (by omega) (fun x => rfl)
theorem stc_other (L : LS) (k : Nat) (v : Int) (hk : k < L.length) : stc (L.modify k (ox v)) = (stc L).set (k * 3 + 2) (.int .i64 v) := stc_modify L k 2 _ _ hk (by omega) (fun x => rfl)
theorem map_modify_snd (L : LS) (k : Nat) (f : Option Nat × Rx.St → Option Nat × Rx.St) (g : Rx.St → Rx.St) (h : ∀ x, (f x).2 = g x.2) : (L.modify k f).map Prod.snd = (L.map Prod.snd).modify k g := by
  induction L generalizing k with
  | nil => cases k <;> rfl
  | cons y l ih =>
    cases k with
    | zero => simp [h]
    | succ k => simp [ih]

/-- A set lies in a block of its own. -/
def SetOk (w : World) (B : Nat) : Option Nat → Option (List Bool) → Prop
  | none, none => True
  | some b, some x => B ≤ b ∧ Blk w b 164 (x.map Value.bool).toArray
  | _, _ => False
theorem SetOk.keep {w w' : World} {B : Nat} {p : Option Nat} {o : Option (List Bool)} (h : SetOk w B p o) (hk : ∀ b x, p = some b → o = some x → Blk w b 164 (x.map Value.bool).toArray → Blk w' b 164 (x.map Value.bool).toArray) : SetOk w' B p o := by
  cases p with
  | none => cases o with
    | none => trivial
    | some x => exact h
  | some b => cases o with
    | none => exact h
    | some x => exact ⟨h.1, hk b x rfl rfl h.2⟩
/-- States in a row of memory. -/
def Row (w : World) (B : Nat) (v : Value) (st : List Rx.St) : Prop := ∃ L : LS, L.map Prod.snd = st ∧ w.ownsRow B 105 3 v L.length (stc L) ∧ ∀ x ∈ L, SetOk w B x.1 x.2.set
/-- The parser: its text, its states. -/
structure Ps (w : World) (B gp : Nat) (s : List Nat) (st : List Rx.St) (v : Value) : Prop where
  blk : Blk w gp 99 #[.string (bs s), v]
  row : Row w B v st
  base : B ≤ gp

/-- The world goes on but for the parser, and its row. -/
structure PG (w w' : World) (gp : Nat) (row : Option Nat) : Prop where
  os : w'.os = w.os
  tape : w'.tape = w.tape
  output : w'.output = w.output
  size : w.heap.size ≤ w'.heap.size
  block : ∀ i, i < w.heap.size → i ≠ gp → some i ≠ row → w'.heap[i]? = w.heap[i]?
/-- The row is the one it was, or a new one. -/
def Nx (w : World) (v v' : Value) : Prop := v'.ownBlock = v.ownBlock ∨ ∃ b, v'.ownBlock = some b ∧ w.heap.size ≤ b
section
variable {w w1 w2 : World} {gp : Nat} {row : Option Nat}
theorem PG.refl (w : World) (gp : Nat) (row : Option Nat) : PG w w gp row := ⟨rfl, rfl, rfl, Nat.le_refl _, fun _ _ _ _ => rfl⟩
theorem PG.of_below (h : Below w.heap.size w w1) : PG w w1 gp row := ⟨h.os, h.tape, h.output, h.size, fun i hi _ _ => h.block i hi⟩
theorem PG.trans {v v1 : Value} (h : PG w w1 gp v.ownBlock) (hn : Nx w v v1) (k : PG w1 w2 gp v1.ownBlock) : PG w w2 gp v.ownBlock :=
  ⟨k.os.trans h.os, k.tape.trans h.tape, k.output.trans h.output, Nat.le_trans h.size k.size, fun i hi hg hr => (k.block i (Nat.lt_of_lt_of_le hi h.size) hg (fun e => by
    rcases hn with hn | ⟨b, hn, hb⟩
    · exact hr (e.trans hn)
    · rw [hn] at e; injection e with e; omega)).trans (h.block i hi hg hr)⟩
theorem PG.any (h : PG w w1 gp none) : PG w w1 gp row := ⟨h.os, h.tape, h.output, h.size, fun i hi hg _ => h.block i hi hg (by simp)⟩
theorem PG.trans0 (h : PG w w1 gp none) (k : PG w1 w2 gp none) : PG w w2 gp none :=
  ⟨k.os.trans h.os, k.tape.trans h.tape, k.output.trans h.output, Nat.le_trans h.size k.size, fun i hi hg hr => (k.block i (Nat.lt_of_lt_of_le hi h.size) hg (by simp)).trans (h.block i hi hg hr)⟩
theorem PG.then_ (h : PG w w1 gp row) (k : Below w1.heap.size w1 w2) : PG w w2 gp row :=
  ⟨k.os.trans h.os, k.tape.trans h.tape, k.output.trans h.output, Nat.le_trans h.size k.size, fun i hi hg hr => (k.block i (Nat.lt_of_lt_of_le hi h.size)).trans (h.block i hi hg hr)⟩
theorem PG.alloc (h : PG w w1 gp row) (o : Obj) : PG w (w1.alloc o) gp row := h.then_ ((Below.refl _ _).alloc (Nat.le_refl _) _)
theorem PG.drew (h : PG w w1 gp row) : PG w w1.drew gp row := ⟨h.os, h.tape, h.output, h.size, h.block⟩
theorem PG.drewN (h : PG w w1 gp row) (n : Nat) : PG w (w1.drewN n) gp row := ⟨h.os, h.tape, h.output, h.size, h.block⟩
theorem PG.setCell (h : PG w w1 gp row) {p : Addr} (hp : p.block = gp ∨ some p.block = row ∨ w.heap.size ≤ p.block) (u : Value) : PG w (w1.setCell p u) gp row :=
  ⟨h.os, h.tape, h.output, by simpa [World.setCell] using h.size, fun i hi hg hr => (Below.heap_setCell w1 p u i (by
    rintro rfl
    rcases hp with hp | hp | hp
    · exact hg (by rw [hp])
    · exact hr hp
    · omega)).trans (h.block i hi hg hr)⟩
theorem PG.own {v v1 : Value} (h : PG w w1 gp v.ownBlock) (hn : Nx w v v1) (k : w1.grownBy w2 v1.ownBlock) : PG w w2 gp v.ownBlock :=
  h.trans hn ⟨k.os, k.tape, k.output, k.size, fun i hi _ hr => k.block i hi hr⟩
theorem Blk.pg {g : Nat} {t : TypeId} {cs : Array Value} (h : Blk w g t cs) (k : PG w w1 gp row) (ha : g ≠ gp) (hb : some g ≠ row) : Blk w1 g t cs := (k.block g h.lt ha hb).trans h
theorem Nx.refl (w : World) (v : Value) : Nx w v v := .inl rfl
theorem Nx.trans {v v1 v2 : Value} (h : Nx w v v1) (hw : w.heap.size ≤ w1.heap.size) (k : Nx w1 v1 v2) : Nx w v v2 := by
  rcases k with k | ⟨b, k, hb⟩
  · rcases h with h | ⟨b, h, hb⟩
    · exact .inl (k.trans h)
    · exact .inr ⟨b, k.trans h, hb⟩
  · exact .inr ⟨b, k, by omega⟩
theorem below_of_pg {B : Nat} (h : PG w w1 gp row) (hB : B ≤ w.heap.size) (hg : B ≤ gp) (hr : ∀ k, row = some k → B ≤ k) : Below B w w1 :=
  ⟨h.os, h.tape, h.output, h.size, fun i hi => h.block i (by omega) (by omega) (fun e => by have := hr i e.symm; omega)⟩
end
section
variable {w w' : World} {B gp : Nat} {s : List Nat} {st : List Rx.St} {v : Value}
/-- Where all the blocks that matter are as they were. -/
theorem Row.keep (h : Row w B v st) (hk : ∀ g t cs, B ≤ g → (t = 105 ∨ t = 164) → Blk w g t cs → w'.heap[g]? = w.heap[g]?) : Row w' B v st := by
  obtain ⟨L, h1, h2, h3⟩ := h
  refine ⟨L, h1, ⟨h2.1, ?_⟩, fun x hx => (h3 x hx).keep (fun b y hb hy hblk => ?_)⟩
  · rcases h2.2 with h4 | ⟨g, cap, cur, e, hb, hh, h5⟩
    · exact .inl h4
    · exact .inr ⟨g, cap, cur, e, hb, (hk g 105 cur hb (.inl rfl) hh).trans hh, h5⟩
  · have := h3 x hx
    rw [hb, hy] at this
    exact (hk b 164 _ this.1 (.inr rfl) hblk).trans hblk
theorem Row.below (h : Row w B v st) (hb : Below w.heap.size w w') : Row w' B v st := h.keep (fun g t cs _ _ hg => hb.block g hg.lt)
theorem Row.alloc (h : Row w B v st) (o : Obj) : Row (w.alloc o) B v st := h.below ((Below.refl _ _).alloc (Nat.le_refl _) _)
theorem Row.far (h : Row w B v st) {g : Nat} {t : TypeId} {cs : Array Value} (hg : Blk w g t cs) (ht : t ≠ 105 ∧ t ≠ 164) {p : Addr} (hp : p.block = g) (u : Value) : Row (w.setCell p u) B v st := by
  refine h.keep (fun g' t' cs' _ ht' hg' => Below.heap_setCell w p u g' ?_)
  rintro rfl
  rw [hp] at hg'
  have := Blk.ne_ hg' hg (by rcases ht' with rfl | rfl; exact fun e => ht.1 e.symm; exact fun e => ht.2 e.symm)
  exact this rfl
theorem Ps.lt (h : Ps w B gp s st v) : gp < w.heap.size := h.blk.lt
theorem Ps.c0 (h : Ps w B gp s st v) : w.cell? ⟨gp, 0, none⟩ = some (.string (bs s)) := h.blk.cell 0
theorem Ps.c1 (h : Ps w B gp s st v) : w.cell? ⟨gp, 1, none⟩ = some v := h.blk.cell 1
theorem Ps.frozen (h : Ps w B gp s st v) (i : Nat) : w.frozen? ⟨gp, i, none⟩ = false := h.blk.frozen i
theorem Ps.below (h : Ps w B gp s st v) (hb : Below w.heap.size w w') : Ps w' B gp s st v := ⟨h.blk.below hb h.blk.lt, h.row.below hb, h.base⟩
theorem Ps.alloc (h : Ps w B gp s st v) (o : Obj) : Ps (w.alloc o) B gp s st v := h.below ((Below.refl _ _).alloc (Nat.le_refl _) _)
theorem Ps.drew (h : Ps w B gp s st v) : Ps w.drew B gp s st v := ⟨h.blk, h.row, h.base⟩
theorem Ps.drewN (h : Ps w B gp s st v) (n : Nat) : Ps (w.drewN n) B gp s st v := ⟨h.blk, h.row, h.base⟩
theorem Ps.far (h : Ps w B gp s st v) {g : Nat} {t : TypeId} {cs : Array Value} (hg : Blk w g t cs) (ht : t ≠ 105 ∧ t ≠ 164 ∧ t ≠ 99) {p : Addr} (hp : p.block = g) (u : Value) : Ps (w.setCell p u) B gp s st v :=
  ⟨h.blk.far (by rw [hp]; exact h.blk.ne_ hg (fun e => ht.2.2 e.symm)) u, h.row.far hg ⟨ht.1, ht.2.1⟩ hp u, h.base⟩
theorem Ps.pg0 (h : Ps w B gp s st v) (k : PG w w' gp none) {s' : List Nat} (hb : Blk w' gp 99 #[.string (bs s'), v]) : Ps w' B gp s' st v :=
  ⟨hb, h.row.keep (fun g t cs _ ht hg => k.block g hg.lt (hg.ne_ h.blk (by rcases ht with rfl | rfl <;> decide)) (by simp)), h.base⟩
/-- The text is turned. -/
theorem Ps.text (h : Ps w B gp s st v) (s' : List Nat) : Ps (w.setCell ⟨gp, 0, none⟩ (.string (bs s'))) B gp s' st v :=
  ⟨by have := h.blk.set_ 0 (.string (bs s')); exact this, h.row.far h.blk ⟨by decide, by decide⟩ rfl _, h.base⟩
theorem Row.len (h : Row w B v st) : ∃ A c, v = .slice A st.length c := by
  obtain ⟨L, h1, h2, h3⟩ := h
  obtain ⟨A, c, e⟩ := own_slice h2
  exact ⟨A, c, by rw [e, ← h1, List.length_map]⟩
/-- A state's other places. -/
theorem Row.at_ (h : Row w B v st) {k : Nat} {q : Rx.St} (hk : st[k]? = some q) : ∃ g c p, v = .slice (some ⟨g, 0, none⟩) st.length c ∧ B ≤ g ∧ (∃ cur, Blk w g 105 cur) ∧ w.cell? ⟨g, k * 3, none⟩ = some (pv p) ∧ w.cell? ⟨g, k * 3 + 1, none⟩ = some (.int .i64 q.nxt) ∧ w.cell? ⟨g, k * 3 + 2, none⟩ = some (.int .i64 q.oth) ∧ SetOk w B p q.set := by
  obtain ⟨L, h1, h2, h3⟩ := h
  subst h1
  rw [List.getElem?_map, Option.map_eq_some_iff] at hk
  obtain ⟨x, hx, rfl⟩ := hk
  have hlt := (List.getElem?_eq_some_iff.1 hx).1
  obtain ⟨g, cap, e, hb, cur, hB, hc⟩ := own_form h2 (by omega)
  refine ⟨g, cap, x.1, by rw [List.length_map]; exact e, hb, ⟨cur, hB⟩, hc _ _ ((stc_get L k 0 x hx (by omega)).trans rfl), hc _ _ ((stc_get L k 1 x hx (by omega)).trans rfl), hc _ _ ((stc_get L k 2 x hx (by omega)).trans rfl), h3 x (List.mem_of_getElem? hx)⟩
theorem row_set_keep {g i : Nat} {u : Value} {cur : Array Value} (hB : Blk w g 105 cur) {p : Option Nat} {o : Option (List Bool)} (h : SetOk w B p o) : SetOk (w.setCell ⟨g, i, none⟩ u) B p o :=
  h.keep (fun b x _ _ hb => hb.far (p := ⟨g, i, none⟩) (hb.ne_ hB (by decide)) u)
theorem Row.next {g c : Nat} (h : Row w B (.slice (some ⟨g, 0, none⟩) st.length c) st) {k : Nat} (hk : k < st.length) (n : Int) : Row (w.setCell ⟨g, k * 3 + 1, none⟩ (.int .i64 n)) B (.slice (some ⟨g, 0, none⟩) (Rx.nextAt st k n).length c) (Rx.nextAt st k n) := by
  obtain ⟨L, h1, h2, h3⟩ := h
  have hl : st.length = L.length := by rw [← h1, List.length_map]
  rw [hl] at h2 hk
  obtain ⟨g', cap, e, hb, cur, hB, _⟩ := own_form h2 (by omega)
  injection e with e _ _
  injection e with e
  injection e with e
  subst e
  refine ⟨L.modify k (nx n), ?_, ?_, fun x hx => ?_⟩
  · rw [map_modify_snd L k (nx n) (fun x => { x with nxt := n }) (fun x => rfl), h1]; rfl
  · rw [stc_next L k n hk, List.length_modify, Rx.nextAt_length, hl]
    exact own_set h2 _ (by omega) _
  · obtain ⟨j, hj⟩ := List.mem_iff_getElem?.1 hx
    rw [List.getElem?_modify] at hj
    obtain ⟨y, hy, rfl⟩ := Option.map_eq_some_iff.1 hj
    have := h3 y (List.mem_of_getElem? hy)
    split
    · exact row_set_keep hB this
    · exact row_set_keep hB this
theorem Row.other {g c : Nat} (h : Row w B (.slice (some ⟨g, 0, none⟩) st.length c) st) {k : Nat} (hk : k < st.length) (n : Int) : Row (w.setCell ⟨g, k * 3 + 2, none⟩ (.int .i64 n)) B (.slice (some ⟨g, 0, none⟩) (Rx.otherAt st k n).length c) (Rx.otherAt st k n) := by
  obtain ⟨L, h1, h2, h3⟩ := h
  have hl : st.length = L.length := by rw [← h1, List.length_map]
  rw [hl] at h2 hk
  obtain ⟨g', cap, e, hb, cur, hB, _⟩ := own_form h2 (by omega)
  injection e with e _ _
  injection e with e
  injection e with e
  subst e
  refine ⟨L.modify k (ox n), ?_, ?_, fun x hx => ?_⟩
  · rw [map_modify_snd L k (ox n) (fun x => { x with oth := n }) (fun x => rfl), h1]; rfl
  · rw [stc_other L k n hk, List.length_modify, Rx.otherAt_length, hl]
    exact own_set h2 _ (by omega) _
  · obtain ⟨j, hj⟩ := List.mem_iff_getElem?.1 hx
    rw [List.getElem?_modify] at hj
    obtain ⟨y, hy, rfl⟩ := Option.map_eq_some_iff.1 hj
    have := h3 y (List.mem_of_getElem? hy)
    split
    · exact row_set_keep hB this
    · exact row_set_keep hB this
end
end Go.Proofs.Ytnidjfmbbfoheaa
