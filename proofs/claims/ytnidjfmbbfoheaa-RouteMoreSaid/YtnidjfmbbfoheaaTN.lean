/- WALK: the document's Copy. -/
import Derived.Test.YtnidjfmbbfoheaaTC
namespace Go.Proofs.Ytnidjfmbbfoheaa
set_option linter.unusedVariables false
set_option linter.unusedSimpArgs false
open Go.RowKit

/-- What Copy hands back. -/
def CopyEnd (w : World) (c : Cf) (e : Ending) (w' : World) : Prop := ∃ (c' : Cf) (base : Nat), e = .returned c'.val ∧ Below w.heap.size w w' ∧ c'.Like c ∧ w.heap.size ≤ base ∧ w'.ownsRow base 77 8 (.slice c'.A c'.l.length c'.c) c'.l.length (c'.l.flatMap Ro.cells) ∧
  (∀ r ∈ c'.l, r.Own w' base (Value.slice c'.A c'.l.length c'.c).ownBlock) ∧ c'.In w' ∧ c'.Fit ∧
  ∃ base2, (∀ k, (Value.slice c'.A c'.l.length c'.c).ownBlock = some k → k < base2) ∧ w'.ownsRow base2 47 3 (.slice c'.B c'.rl.length c'.d) c'.rl.length (c'.rl.flatMap Rl.cells) ∧ ∀ r ∈ c'.rl, r.Own w' base2 (Value.slice c'.B c'.rl.length c'.d).ownBlock
def bigC (c : Cf) : Prop := c.l.length ≤ 1000 ∧ c.rl.length ≤ 1000 ∧ (∀ r ∈ c.l, r.ms.l.length ≤ 1000 ∧ r.by_.l.length ≤ 1000) ∧ (∀ r ∈ c.rl, r.s.l.length ≤ 1000 ∧ r.t.l.length ≤ 1000 ∧ r.e.l.length ≤ 1000)
theorem take_strip {α β : Type} (f : α → β) {l : List α} {i : Nat} {m a : α} {l' : List α} (hm : l[i]? = some m) (h : l'.map f = (l.take i).map f) (ha : f a = f m) : (l' ++ [a]).map f = (l.take (i + 1)).map f := by
  rw [List.take_add_one, hm, List.map_append, List.map_append, h]
  simp [ha]
theorem own_heap {w w' : World} {base e size n : Nat} {v : Value} {xs : List Value} (h : w.ownsRow base e size v n xs) (hk : ∀ k, v.ownBlock = some k → w'.heap[k]? = w.heap[k]?) : w'.ownsRow base e size v n xs := by
  refine ⟨h.1, ?_⟩
  rcases h.2 with h0 | ⟨g, cap, cur, rfl, hg, hh, r⟩
  · exact .inl h0
  · exact .inr ⟨g, cap, cur, rfl, hg, (hk g rfl).trans hh, r⟩
theorem reads_keepB {w W : World} {S_ size n lo : Nat} {A : Option Addr} {xs : List Value} (h : Reads w (fun b => b < S_) size A n xs) (hz : 0 < size) (hS : S_ ≤ lo) (hb : Below lo w W) : Reads W (fun b => b < S_) size A n xs :=
  h.keep (fun b hb' => hb.block b (Nat.lt_of_lt_of_le hb' hS))
theorem tx_one (l : List (List Nat)) : ∀ u ∈ l.flatMap tx, u.oneCell' = true := by
  intro u hu
  obtain ⟨x, _, hx⟩ := List.mem_flatMap.1 hu
  simp [tx] at hx
  subst hx
  rfl
/-- The routes that were copied so far. -/
structure CSt (w W : World) (base b1 b2 b3 : Nat) (C1 C2 C3 : Array Value) (v : Value) (i : Nat) (l' : List Ro) : Prop where
  o5 : W.ownsRow base 77 8 v i (l'.flatMap Ro.cells)
  ow : ∀ r ∈ l', r.Own W base v.ownBlock
  x1 : Blk W b1 70 C1
  x2 : Blk W b2 70 C2
  x3 : Blk W b3 70 C3
  k : Below w.heap.size w W
  bs : base ≤ W.heap.size
theorem CSt.below {w W W' : World} {base b1 b2 b3 i : Nat} {C1 C2 C3 : Array Value} {v : Value} {l' : List Ro} (h : CSt w W base b1 b2 b3 C1 C2 C3 v i l') (hb : Below W.heap.size W W') : CSt w W' base b1 b2 b3 C1 C2 C3 v i l' :=
  ⟨own_below h.o5 hb, fun r hr => (h.ow r hr).stays (Stays.below hb), h.x1.below hb h.x1.lt, h.x2.below hb h.x2.lt, h.x3.below hb h.x3.lt, below_then h.k h.k.size hb, Nat.le_trans h.bs hb.size⟩
/-- A route more. -/
theorem CSt.app {w W w1 : World} {base b1 b2 b3 i lo : Nat} {C1 C2 : Array Value} {v v1 p1 p2 p3 : Value} {l' : List Ro} {r : Ro} (h : CSt w W base b1 b2 b3 C1 C2 #[v, p1, p2, p3] v i l')
    (hr : r.Own W lo none) (hlo : base ≤ lo) (hv : ∀ k, v.ownBlock = some k → k < lo) (hb : b1 < base ∧ b2 < base ∧ b3 < base ∧ b1 ≠ b3 ∧ b2 ≠ b3 ∧ w.heap.size ≤ base ∧ w.heap.size ≤ b3)
    (ho : w1.ownsRow base 77 8 v1 (i + 1) ((l' ++ [r]).flatMap Ro.cells)) (hg : W.grownBy w1 v.ownBlock) (hat : v1.ownBlock = v.ownBlock ∨ ∃ b, v1.ownBlock = some b ∧ W.heap.size ≤ b) :
    CSt w (w1.setCell ⟨b3, 0, none⟩ v1) base b1 b2 b3 C1 C2 #[v1, p1, p2, p3] v1 (i + 1) (l' ++ [r]) := by
  obtain ⟨h1, h2, h3, h4, h5, h6, h7⟩ := hb
  have hne : ∀ b, b < base → some b ≠ v.ownBlock := fun b hb e => own_not2 h.o5 hb e.symm
  have hst : Stays W (w1.setCell ⟨b3, 0, none⟩ v1) base v.ownBlock v1.ownBlock := (Stays.grown hg hat).trans (Stays.cell (p := ⟨b3, 0, none⟩) h3 v1)
  have hlift : r.Own W base v.ownBlock := by
    have up : Stays W W lo none v.ownBlock := ⟨Nat.le_refl _, fun _ _ => rfl, fun b hb e => by have := hv b e; have := hb.1; omega⟩
    have h' := hr.stays up
    exact ⟨⟨h'.1.1.imp (fun b hb => ⟨Nat.le_trans hlo hb.1, hb.2⟩), h'.1.2⟩, ⟨h'.2.1.1.imp (fun b hb => ⟨Nat.le_trans hlo hb.1, hb.2⟩), h'.2.1.2⟩, h'.2.2⟩
  refine ⟨own_far2 ho (p := ⟨b3, 0, none⟩) (own_not2 ho h3) v1, fun r' hr' => ?_, (h.x1.grown hg (hne _ h1)).far (p := ⟨b3, 0, none⟩) h4 v1, (h.x2.grown hg (hne _ h2)).far (p := ⟨b3, 0, none⟩) h5 v1, ?_, ?_, ?_⟩
  · rcases List.mem_append.1 hr' with hr' | hr'
    · exact (h.ow r' hr').stays hst
    · simp at hr'; subst hr'; exact hlift.stays hst
  · have := (h.x3.grown hg (hne _ h3)).set_ 0 v1
    simpa using this
  · exact (h.k.grown hg h.k.size (fun k hk => by have := own_base h.o5 k hk; omega)).setCell (p := ⟨b3, 0, none⟩) h7 v1
  · exact Nat.le_trans h.bs (Nat.le_trans hg.size (by simp [World.setCell]))
/-- The rules that were copied so far. -/
structure DSt (w w2 W : World) (base2 b3 : Nat) (C3 : Array Value) (v6 : Value) (j : Nat) (l2 : List Rl) : Prop where
  kr : ∀ b, b < base2 → b ≠ b3 → W.heap[b]? = w2.heap[b]?
  o6 : W.ownsRow base2 47 3 v6 j (l2.flatMap Rl.cells)
  ow : ∀ r ∈ l2, r.Own W base2 v6.ownBlock
  x3 : Blk W b3 70 C3
  k : Below w.heap.size w W
  bs : base2 ≤ W.heap.size
theorem DSt.below {w w2 W W' : World} {base2 b3 j : Nat} {C3 : Array Value} {v6 : Value} {l2 : List Rl} (h : DSt w w2 W base2 b3 C3 v6 j l2) (hb : Below W.heap.size W W') : DSt w w2 W' base2 b3 C3 v6 j l2 :=
  ⟨fun b h1 h2 => (hb.block b (Nat.lt_of_lt_of_le h1 h.bs)).trans (h.kr b h1 h2), own_below h.o6 hb, fun r hr => (h.ow r hr).stays (Stays.below hb), h.x3.below hb h.x3.lt, below_then h.k h.k.size hb, Nat.le_trans h.bs hb.size⟩
theorem DSt.app {w w2 W w1 : World} {base2 b3 j lo : Nat} {v v6 v1 p2 p3 : Value} {l2 : List Rl} {r : Rl} (h : DSt w w2 W base2 b3 #[v, v6, p2, p3] v6 j l2)
    (hr : r.Own W lo none) (hlo : base2 ≤ lo) (hv : ∀ k, v6.ownBlock = some k → k < lo) (h3 : b3 < base2) (hw : w.heap.size ≤ base2) (hw3 : w.heap.size ≤ b3)
    (ho : w1.ownsRow base2 47 3 v1 (j + 1) ((l2 ++ [r]).flatMap Rl.cells)) (hg : W.grownBy w1 v6.ownBlock) (hat : v1.ownBlock = v6.ownBlock ∨ ∃ b, v1.ownBlock = some b ∧ W.heap.size ≤ b) :
    DSt w w2 (w1.setCell ⟨b3, 1, none⟩ v1) base2 b3 #[v, v1, p2, p3] v1 (j + 1) (l2 ++ [r]) := by
  have hne : ∀ b, b < base2 → some b ≠ v6.ownBlock := fun b hb e => own_not2 h.o6 hb e.symm
  have hst : Stays W (w1.setCell ⟨b3, 1, none⟩ v1) base2 v6.ownBlock v1.ownBlock := (Stays.grown hg hat).trans (Stays.cell (p := ⟨b3, 1, none⟩) h3 v1)
  have hlift : r.Own W base2 v6.ownBlock := by
    have up : Stays W W lo none v6.ownBlock := ⟨Nat.le_refl _, fun _ _ => rfl, fun b hb e => by have := hv b e; have := hb.1; omega⟩
    have h' := hr.stays up
    exact ⟨⟨h'.1.1.imp (fun b hb => ⟨Nat.le_trans hlo hb.1, hb.2⟩), h'.1.2⟩, ⟨h'.2.1.1.imp (fun b hb => ⟨Nat.le_trans hlo hb.1, hb.2⟩), h'.2.1.2⟩, ⟨h'.2.2.1.imp (fun b hb => ⟨Nat.le_trans hlo hb.1, hb.2⟩), h'.2.2.2⟩⟩
  refine ⟨fun b h1 h2 => ?_, own_far2 ho (p := ⟨b3, 1, none⟩) (own_not2 ho h3) v1, fun r' hr' => ?_, ?_, ?_, ?_⟩
  · refine (Below.heap_setCell w1 ⟨b3, 1, none⟩ v1 b h2).trans ?_
    exact (hg.block b (Nat.lt_of_lt_of_le h1 h.bs) (hne b h1)).trans (h.kr b h1 h2)
  · rcases List.mem_append.1 hr' with hr' | hr'
    · exact (h.ow r' hr').stays hst
    · simp at hr'; subst hr'; exact hlift.stays hst
  · have := (h.x3.grown hg (hne _ h3)).set_ 1 v1
    simpa using this
  · exact (h.k.grown hg h.k.size (fun k hk => by have := own_base h.o6 k hk; omega)).setCell (p := ⟨b3, 1, none⟩) hw3 v1
  · exact Nat.le_trans h.bs (Nat.le_trans hg.size (by simp [World.setCell]))
set_option maxRecDepth 100000 in
set_option maxHeartbeats 8000000 in
theorem refcopy_any (c : Cf) (w : World) (H : c.In w) (HBG : bigC c) : Calls Try.prog 52 #[c.val] w (CopyEnd w c) := by
  obtain ⟨hb1, hb2, hb3, hb4⟩ := HBG
  have HS1 := Lib.hid hb3
  have HS2 := Lib.hid hb4
  have HIN := Lib.hid H
  clear H hb3 hb4
  obtain ⟨A, cp, l, B, cq, rl, pt, rs⟩ := c
  obtain ⟨POST, HP⟩ : ∃ Q, CopyEnd w ⟨A, cp, l, B, cq, rl, pt, rs⟩ = Q := ⟨_, rfl⟩
  have HPOST := Lib.hid HP
  rw [HP]
  clear HP
  unfold Cf.val
  simp only [Cf.cells] at hb1 hb2 HS1 HS2 ⊢
  go_enter Try.func52, Try.ntmps52
  go_upto_region 3 with fail
  have K3 : Hid (Below w.heap.size w (((w.alloc (.cells #[.slice A l.length cp, .slice B rl.length cq, .int .i64 pt, .int .i64 rs] 70)).alloc (.cells #[.slice none 0 0, .slice none 0 0, .int .i64 0, .int .i64 0] 70)).alloc (.cells #[.slice none 0 0, .slice none 0 0, .int .i64 pt, .int .i64 rs] 70))) := Lib.hid ((((Below.refl w.heap.size w).alloc (Nat.le_refl _) _).alloc (by simp) _).alloc (by simp; omega) _)
  have Ba : Hid (Blk (((w.alloc (.cells #[.slice A l.length cp, .slice B rl.length cq, .int .i64 pt, .int .i64 rs] 70)).alloc (.cells #[.slice none 0 0, .slice none 0 0, .int .i64 0, .int .i64 0] 70)).alloc (.cells #[.slice none 0 0, .slice none 0 0, .int .i64 pt, .int .i64 rs] 70)) w.heap.size 70 #[.slice A l.length cp, .slice B rl.length cq, .int .i64 pt, .int .i64 rs]) := Lib.hid (((Blk.new w 70 #[.slice A l.length cp, .slice B rl.length cq, .int .i64 pt, .int .i64 rs]).alloc _).alloc _)
  have Bb : Hid (Blk (((w.alloc (.cells #[.slice A l.length cp, .slice B rl.length cq, .int .i64 pt, .int .i64 rs] 70)).alloc (.cells #[.slice none 0 0, .slice none 0 0, .int .i64 0, .int .i64 0] 70)).alloc (.cells #[.slice none 0 0, .slice none 0 0, .int .i64 pt, .int .i64 rs] 70)) (w.heap.size + 1) 70 #[.slice none 0 0, .slice none 0 0, .int .i64 0, .int .i64 0]) := Lib.hid ((Blk.new_at (by simp)).alloc _)
  have Bc : Hid (Blk (((w.alloc (.cells #[.slice A l.length cp, .slice B rl.length cq, .int .i64 pt, .int .i64 rs] 70)).alloc (.cells #[.slice none 0 0, .slice none 0 0, .int .i64 0, .int .i64 0] 70)).alloc (.cells #[.slice none 0 0, .slice none 0 0, .int .i64 pt, .int .i64 rs] 70)) (w.heap.size + 1 + 1) 70 #[.slice none 0 0, .slice none 0 0, .int .i64 pt, .int .i64 rs]) := Lib.hid (Blk.new_at (by simp))
  have hsz : (((w.alloc (.cells #[.slice A l.length cp, .slice B rl.length cq, .int .i64 pt, .int .i64 rs] 70)).alloc (.cells #[.slice none 0 0, .slice none 0 0, .int .i64 0, .int .i64 0] 70)).alloc (.cells #[.slice none 0 0, .slice none 0 0, .int .i64 pt, .int .i64 rs] 70)).heap.size = w.heap.size + 1 + 1 + 1 := by simp
  generalize (((w.alloc (.cells #[.slice A l.length cp, .slice B rl.length cq, .int .i64 pt, .int .i64 rs] 70)).alloc (.cells #[.slice none 0 0, .slice none 0 0, .int .i64 0, .int .i64 0] 70)).alloc (.cells #[.slice none 0 0, .slice none 0 0, .int .i64 pt, .int .i64 rs] 70)) = w3 at *
  obtain ⟨b3, hx3⟩ : ∃ b, w.heap.size + 1 + 1 = b := ⟨_, rfl⟩
  rw [hx3] at Bc ⊢
  obtain ⟨b2, hx2⟩ : ∃ b, w.heap.size + 1 = b := ⟨_, rfl⟩
  rw [hx2] at Bb ⊢
  obtain ⟨b1, hx1⟩ : ∃ b, w.heap.size = b := ⟨_, rfl⟩
  have Ba' : Hid (Blk w3 b1 70 #[.slice A l.length cp, .slice B rl.length cq, .int .i64 pt, .int .i64 rs]) := Lib.hid (by have h := Ba.out; rwa [hx1] at h)
  obtain ⟨base, hbase⟩ : ∃ b, w3.heap.size = b := ⟨_, rfl⟩
  have HN : Hid (b1 < b2 ∧ b2 < b3 ∧ b3 < base ∧ w.heap.size ≤ b1 ∧ base ≤ w3.heap.size) := Lib.hid (by omega)
  rw [hx1]
  clear Ba hx1 hx2 hx3 hsz hbase
  go_wp2
  have CS0 : Hid (CSt w w3 base b1 b2 b3 #[.slice A l.length cp, .slice B rl.length cq, .int .i64 pt, .int .i64 rs] #[.slice none 0 0, .slice none 0 0, .int .i64 0, .int .i64 0] #[.slice none 0 0, .slice none 0 0, .int .i64 pt, .int .i64 rs] (.slice none 0 0) 0 []) := Lib.hid ⟨own_nil _ _ _ _, (fun r h => by cases h), Ba'.out, Bb.out, Bc.out, K3.out, HN.out.2.2.2.2⟩
  have HNB : Hid (b1 < base ∧ b2 < base ∧ b3 < base ∧ b1 ≠ b3 ∧ b2 ≠ b3 ∧ w.heap.size ≤ base ∧ w.heap.size ≤ b3) := Lib.hid (by have := HN.out; omega)
  have HB2L : Hid (w.heap.size ≤ b2) := Lib.hid (by have := HN.out; omega)
  clear Ba' Bb Bc K3 HN
  go_loopw [4] (fun s4 wv => ∃ (i : Nat) (A5 : Option Addr) (c5 : Nat) (l' : List Ro), s4 = .int .i64 (i : Int) ∧ i ≤ l.length ∧ Hid (l'.length = i) ∧ Hid (l'.map Ro.strip = (l.take i).map Ro.strip) ∧ Hid (CSt w wv base b1 b2 b3 #[.slice A l.length cp, .slice B rl.length cq, .int .i64 pt, .int .i64 rs] #[.slice none 0 0, .slice none 0 0, .int .i64 0, .int .i64 0] #[.slice A5 i c5, .slice none 0 0, .int .i64 pt, .int .i64 rs] (.slice A5 i c5) i l')) (fun s4 _ => l.length - (intOf s4).toNat)
  case atStart => exact ⟨0, none, 0, [], rfl, by omega, Lib.hid rfl, Lib.hid rfl, CS0⟩
  case round =>
    obtain ⟨i, A5, c5, l', rfl, hi, HL', HL, CS⟩ := hrel
    obtain ⟨wo, rfl⟩ : ∃ x, x = wr := ⟨wr, rfl⟩
    have z0 := CS.out.x1.cell 0
    simp only [List.getElem?_toArray, List.getElem?_cons_zero, List.getElem?_cons_succ] at z0
    by_cases hlt : i < l.length
    · have hkI : (i : Int) < (l.length : Int) := by omega
      have hk0 : (0 : Int) ≤ (i : Int) := by omega
      obtain ⟨m, hm⟩ : ∃ m, l[i]? = some m := ⟨_, List.getElem?_eq_getElem hlt⟩
      have HC := Lib.hid (HIN.out.below CS.out.k)
      obtain ⟨bb, oo, e1, hbb, hcell⟩ := HC.out.rt.2 (by show 0 < l.length; omega)
      simp only at e1
      subst e1
      obtain ⟨c0, c1, c2, c3, c4, c5', c6, c7⟩ := ro_at hcell hm
      have HM := Lib.hid hm
      have HRI := Lib.hid (HC.out.ro m (List.mem_of_getElem? hm))
      have HSM := Lib.hid (HS1.out m (List.mem_of_getElem? hm))
      clear hcell hm hbb HC
      obtain ⟨par, ms, cont, bz, rc, wt, iv, rp⟩ := m
      obtain ⟨mA, mc, ml⟩ := ms
      obtain ⟨bA, bc, bl⟩ := bz
      obtain ⟨q1, q2, q3⟩ := HRI.out
      have RM : Hid (Reads wo (fun b => b < wo.heap.size) 3 mA ml.length (mts ml)) := Lib.hid q1.1
      have RB : Hid (Reads wo (fun b => b < wo.heap.size) 1 bA bl.length (bl.flatMap tx)) := Lib.hid q2.1
      have OM := Lib.hid q1.2
      have OB := Lib.hid q2.2
      have OT := Lib.hid q3
      obtain ⟨t1, t2⟩ := HSM.out
      clear q1 q2 q3 HRI HSM
      unfold MR.val at c1
      unfold TR.val at c3
      simp only at c0 c1 c2 c3 c4 c5' c6 c7 RM RB OM OB OT t1 t2
      obtain ⟨n1, hn1⟩ : ∃ n, ml.length = n := ⟨_, rfl⟩
      obtain ⟨n2, hn2⟩ : ∃ n, bl.length = n := ⟨_, rfl⟩
      obtain ⟨s, hs⟩ : ∃ s, bs rc = s := ⟨_, rfl⟩
      rw [hn1] at RM c1 t1
      rw [hn2] at RB c3 t2
      rw [hs] at c4
      have HN1 := Lib.hid hn1
      have HN2 := Lib.hid hn2
      have HSB := Lib.hid hs
      clear hn1 hn2 hs
      have KR : Hid (Below wo.heap.size wo (wo.alloc (.cells #[.int .i64 par, .slice mA n1 mc, .bool cont, .slice bA n2 bc, .string s, .int .i64 wt, .int .i64 iv, .int .i64 rp] 77))) := Lib.hid ((Below.refl wo.heap.size wo).alloc (Nat.le_refl _) _)
      have R5 := Lib.hid (Blk.new wo 77 #[.int .i64 par, .slice mA n1 mc, .bool cont, .slice bA n2 bc, .string s, .int .i64 wt, .int .i64 iv, .int .i64 rp])
      obtain ⟨b5, hb5⟩ : ∃ b, wo.heap.size = b := ⟨_, rfl⟩
      go_upto_region 7 with fail
      rw [hb5] at R5
      have HLO : Hid (b5 < wo.heap.size + 1 ∧ wo.heap.size ≤ b5 ∧ wo.heap.size + 1 ≤ (wo.alloc (.cells #[.int .i64 par, .slice mA n1 mc, .bool cont, .slice bA n2 bc, .string s, .int .i64 wt, .int .i64 iv, .int .i64 rp] 77)).heap.size) := Lib.hid (by simp; omega)
      generalize wo.alloc (.cells #[.int .i64 par, .slice mA n1 mc, .bool cont, .slice bA n2 bc, .string s, .int .i64 wt, .int .i64 iv, .int .i64 rp] 77) = wa at *
      have HWO := Lib.hid CS.out.o5
      have HBO := Lib.hid CS.out.bs
      have HCS5 := Lib.hid (fun X (h : Below wo.heap.size wo X) => CS.out.below h)
      clear CS z0 c0 c1 c2 c3 c4 c5' c6 c7 hb5
      obtain ⟨lo, hlo⟩ : ∃ x, wo.heap.size + 1 = x := ⟨_, rfl⟩
      rw [hlo] at HLO
      have HL0 := Lib.hid hlo
      clear hlo
      have y1 := (R5.out.alloc (.cells #[] 37)).cell 1
      simp only [List.getElem?_toArray, List.getElem?_cons_zero, List.getElem?_cons_succ] at y1
      have O2 : Hid ((wa.alloc (.cells #[] 37)).ownsRow lo 37 3 (.slice (some ⟨wa.heap.size, 0, none⟩) 0 0) 0 []) := Lib.hid (own_of_blk0 (Blk.new wa 37 #[]) HLO.out.2.2)
      have RM2 := Lib.hid ((RM.out.below (by omega) KR.out).below (by omega) ((Below.refl wa.heap.size wa).alloc (Nat.le_refl _) (.cells #[] 37)))
      have K2 := Lib.hid (KR.out.alloc KR.out.size (.cells #[] 37))
      have hl2 : lo ≤ (wa.alloc (.cells #[] 37)).heap.size := Nat.le_trans HLO.out.2.2 (by simp)
      go_upto_region 8 with (at_builtin; (refine app_reads lo rfl (.tmp 23) (.tmp 25) 44 37 _ 3 40 rfl und44c info37 rfl (by decide) _ 0 [] rfl _ mA n1 mc (mts ml) rfl RM2.out (mts_one ml) O2.out hl2 (by omega) (by omega) ?_); intro v1 w5 hO hG hat; have hO' : w5.ownsRow lo 37 3 v1 n1 (mts ml) := (by simpa using hO); obtain ⟨A1, k1, rfl⟩ := own_slice hO'; have O1 := Lib.hid hO'; have R6 := Lib.hid ((R5.out.alloc (.cells #[] 37)).grown hG (fun e => own_not2 O2.out HLO.out.1 e.symm)); have KR6 := Lib.hid (K2.out.trans (below_of_grown (B := wo.heap.size) K2.out.size hG (fun k hk => by have := own_base O2.out k hk; have := HL0.out; omega))); have hs5 : lo ≤ w5.heap.size := Nat.le_trans hl2 hG.size; have yf := R6.out.frozen 1; have y1' := R6.out.cell 1; simp only [List.getElem?_toArray, List.getElem?_cons_zero, List.getElem?_cons_succ] at y1'; clear hO hO' hG hat y1 O2 hl2; go_upto_region 8 with fail)
      have R7 : Hid (Blk (w5.setCell ⟨b5, 1, none⟩ (.slice A1 n1 k1)) b5 77 #[.int .i64 par, .slice A1 n1 k1, .bool cont, .slice bA n2 bc, .string s, .int .i64 wt, .int .i64 iv, .int .i64 rp]) := Lib.hid (by have h := R6.out.set_ 1 (.slice A1 n1 k1); simpa using h)
      have O7 := Lib.hid (own_far2 O1.out (p := ⟨b5, 1, none⟩) (own_not2 O1.out HLO.out.1) (.slice A1 n1 k1))
      have KR7 := Lib.hid (KR6.out.setCell (p := ⟨b5, 1, none⟩) HLO.out.2.1 (.slice A1 n1 k1))
      have hsz7 : lo ≤ (w5.setCell ⟨b5, 1, none⟩ (.slice A1 n1 k1)).heap.size := Nat.le_trans hs5 (by simp [World.setCell])
      clear R5 R6 O1 KR6 K2 RM2 yf y1'
      generalize w5.setCell ⟨b5, 1, none⟩ (.slice A1 n1 k1) = wb at *
      have y1 := (R7.out.alloc (.cells #[] 9)).cell 3
      simp only [List.getElem?_toArray, List.getElem?_cons_zero, List.getElem?_cons_succ] at y1
      have O2 : Hid ((wb.alloc (.cells #[] 9)).ownsRow lo 9 1 (.slice (some ⟨wb.heap.size, 0, none⟩) 0 0) 0 []) := Lib.hid (own_of_blk0 (Blk.new wb 9 #[]) hsz7)
      have OA := Lib.hid (own_alloc O7.out (.cells #[] 9))
      have HLT : Hid (∀ k, (Value.slice A1 n1 k1).ownBlock = some k → k ≠ wb.heap.size) := Lib.hid (fun k hk => by have := own_lt O7.out k hk; omega)
      have RM2 := Lib.hid ((RB.out.below (by omega) KR7.out).below (by omega) ((Below.refl wb.heap.size wb).alloc (Nat.le_refl _) (.cells #[] 9)))
      have K2 := Lib.hid (KR7.out.alloc KR7.out.size (.cells #[] 9))
      have hl2 : lo ≤ (wb.alloc (.cells #[] 9)).heap.size := Nat.le_trans hsz7 (by simp)
      clear O7
      go_upto_region 9 with (at_builtin; (refine app_reads lo rfl (.tmp 28) (.tmp 30) 45 9 _ 1 16 rfl und45c info9 rfl (by decide) _ 0 [] rfl _ bA n2 bc (bl.flatMap tx) rfl RM2.out (tx_one bl) O2.out hl2 (by omega) (by omega) ?_); intro v1 w6 hO hG hat; have hO' : w6.ownsRow lo 9 1 v1 n2 (bl.flatMap tx) := (by simpa using hO); obtain ⟨A2, k2, rfl⟩ := own_slice hO'; have O2' := Lib.hid hO'; have O1 := Lib.hid (own_grown OA.out hG (fun k hk e => HLT.out k e (by injection hk with hk; exact hk.symm))); have R8 := Lib.hid ((R7.out.alloc (.cells #[] 9)).grown hG (fun e => own_not2 O2.out HLO.out.1 e.symm)); have KR8 := Lib.hid (K2.out.trans (below_of_grown (B := wo.heap.size) K2.out.size hG (fun k hk => by have := own_base O2.out k hk; have := HL0.out; omega))); have yf := R8.out.frozen 3; have y1' := R8.out.cell 3; simp only [List.getElem?_toArray, List.getElem?_cons_zero, List.getElem?_cons_succ] at y1'; have hs5 : lo ≤ w6.heap.size := Nat.le_trans hl2 hG.size; clear hO hO' hG hat y1 O2 hl2; go_upto_region 9 with fail)
      have R9 : Hid (Blk (w6.setCell ⟨b5, 3, none⟩ (.slice A2 n2 k2)) b5 77 #[.int .i64 par, .slice A1 n1 k1, .bool cont, .slice A2 n2 k2, .string s, .int .i64 wt, .int .i64 iv, .int .i64 rp]) := Lib.hid (by have h := R8.out.set_ 3 (.slice A2 n2 k2); simpa using h)
      have O9 := Lib.hid (own_far2 O1.out (p := ⟨b5, 3, none⟩) (own_not2 O1.out HLO.out.1) (.slice A2 n2 k2))
      have P9 := Lib.hid (own_far2 O2'.out (p := ⟨b5, 3, none⟩) (own_not2 O2'.out HLO.out.1) (.slice A2 n2 k2))
      have KR9 := Lib.hid (KR8.out.setCell (p := ⟨b5, 3, none⟩) HLO.out.2.1 (.slice A2 n2 k2))
      clear R7 R8 O1 O2' KR8 KR7 K2 RM2 yf y1' OA HLT
      generalize w6.setCell ⟨b5, 3, none⟩ (.slice A2 n2 k2) = wc at *
      have CS := Lib.hid (HCS5.out wc KR9.out)
      have O5 := Lib.hid CS.out.o5
      have r0 := R9.out.cell 0
      have r1 := R9.out.cell 1
      have r2 := R9.out.cell 2
      have r3 := R9.out.cell 3
      have r4 := R9.out.cell 4
      have r5 := R9.out.cell 5
      have r6 := R9.out.cell 6
      have r7 := R9.out.cell 7
      have x0 := CS.out.x3.cell 0
      simp only [List.getElem?_toArray, List.getElem?_cons_zero, List.getElem?_cons_succ] at r0 r1 r2 r3 r4 r5 r6 r7 x0
      have hbs := CS.out.bs
      have hone : ∀ u ∈ (#[.int .i64 par, .slice A1 n1 k1, .bool cont, .slice A2 n2 k2, .string s, .int .i64 wt, .int .i64 iv, .int .i64 rp] : Array Value).toList, u.oneCell' = true := by intro u hu; simp at hu; rcases hu with rfl | rfl | rfl | rfl | rfl | rfl | rfl | rfl <;> rfl
      have hcap1 : n1 ≤ k1 := by obtain ⟨_, _, e, h, _⟩ := own_reads O9.out (by decide); injection e with _ _ e; omega
      have hcap2 : n2 ≤ k2 := by obtain ⟨_, _, e, h, _⟩ := own_reads P9.out (by decide); injection e with _ _ e; omega
      have HRO : Hid (Ro.Own ⟨par, ⟨A1, k1, ml⟩, cont, ⟨A2, k2, bl⟩, rc, wt, iv, rp⟩ wc lo none) := Lib.hid (by
        obtain ⟨a1, d1, e1, _, g1⟩ := own_reads O9.out (by decide)
        obtain ⟨a2, d2, e2, _, g2⟩ := own_reads P9.out (by decide)
        injection e1 with e1 _ _
        injection e2 with e2 _ _
        subst e1 e2
        refine ⟨⟨?_, OM.out, ?_⟩, ⟨?_, OB.out, ?_⟩, OT.out⟩
        · show Reads wc (OwnS wc lo none) 3 A1 ml.length (mts ml)
          rw [HN1.out]
          exact g1.imp (fun b hb => ⟨hb.1, hb.2.1, by simp⟩)
        · show ml.length ≤ k1
          rw [HN1.out]; exact hcap1
        · show Reads wc (OwnS wc lo none) 1 A2 bl.length (bl.flatMap tx)
          rw [HN2.out]
          exact g2.imp (fun b hb => ⟨hb.1, hb.2.1, by simp⟩)
        · show bl.length ≤ k2
          rw [HN2.out]; exact hcap2)
      have HVL : Hid (∀ k, (Value.slice A5 i c5).ownBlock = some k → k < lo) := Lib.hid (fun k hk => by have := own_lt HWO.out k hk; have := HL0.out; omega)
      have HBL : Hid (base ≤ lo) := Lib.hid (by have := HBO.out; have := HL0.out; omega)
      clear hcap1 hcap2 O9 P9
      go_upto_region 5 with (at_builtin; (refine app_row base rfl (.tmp 34) (.tmp 36) 68 77 _ 8 104 rfl und68c info77 rfl (by omega) _ i (l'.flatMap Ro.cells) #[.int .i64 par, .slice A1 n1 k1, .bool cont, .slice A2 n2 k2, .string s, .int .i64 wt, .int .i64 iv, .int .i64 rp] rfl _ rfl rfl hone rfl O5.out hbs (by omega) (by omega) ?_); intro v1 w7 ho hg hat; obtain ⟨A6, c6, rfl⟩ := own_slice ho; have CN := Lib.hid (CS.out.app (r := ⟨par, ⟨A1, k1, ml⟩, cont, ⟨A2, k2, bl⟩, rc, wt, iv, rp⟩) (l' := l') HRO.out HBL.out HVL.out HNB.out (by rw [List.flatMap_append]; simpa [Ro.cells, MR.val, TR.val, HN1.out, HN2.out, HSB.out] using ho) hg hat); have xf := (CS.out.x3.grown hg (fun e => own_not2 CS.out.o5 HNB.out.2.2.1 e.symm)).frozen 0; have x0' := (CS.out.x3.grown hg (fun e => own_not2 CS.out.o5 HNB.out.2.2.1 e.symm)).cell 0; simp only [List.getElem?_toArray, List.getElem?_cons_zero, List.getElem?_cons_succ] at x0'; clear ho hg hat hone hbs r0 r1 r2 r3 r4 r5 r6 r7 x0; go_upto_region 5 with fail)
      generalize w7.setCell ⟨b3, 0, none⟩ (.slice A6 (i + 1) c6) = w8 at *
      clear xf x0' R9 CS O5 HRO HVL HBL KR9
      go_wp2
      go_roundw
      case rel => exact ⟨i + 1, A6, c6, l' ++ [⟨par, ⟨A1, k1, ml⟩, cont, ⟨A2, k2, bl⟩, rc, wt, iv, rp⟩], by go_num, by omega, Lib.hid (by rw [List.length_append, HL'.out]; rfl), Lib.hid (take_strip Ro.strip HM.out HL.out rfl), CN⟩
      case measure => simp [intOf]; omega
    · have hie : i = l.length := by omega
      have HL2 : Hid (l'.map Ro.strip = l.map Ro.strip) := Lib.hid (by rw [HL.out, hie, List.take_length])
      have HLN : Hid (l'.length = i) := HL'
      clear HL HL' hi hlt
      subst hie
      go_wp2
      obtain ⟨w2, rfl⟩ : ∃ x, x = wo := ⟨wo, rfl⟩
      obtain ⟨base2, hb2⟩ : ∃ b, w2.heap.size = b := ⟨_, rfl⟩
      have HB2 : Hid (base2 = w2.heap.size) := Lib.hid hb2.symm
      have HNC : Hid (b1 < base2 ∧ b1 ≠ b3 ∧ b3 < base2 ∧ w.heap.size ≤ base2 ∧ w.heap.size ≤ b3) := Lib.hid (by have := CS.out.bs; have := HNB.out; omega)
      have D0 : Hid (DSt w w2 w2 base2 b3 #[.slice A5 l.length c5, .slice none 0 0, .int .i64 pt, .int .i64 rs] (.slice none 0 0) 0 []) := Lib.hid ⟨fun _ _ _ => rfl, own_nil _ _ _ _, (fun r h => by cases h), CS.out.x3, CS.out.k, by omega⟩
      clear hb2 z0
      go_loopw [6] (fun s6 wv => ∃ (j : Nat) (A6 : Option Addr) (c6 : Nat) (l2 : List Rl), s6 = .int .i64 (j : Int) ∧ j ≤ rl.length ∧ Hid (l2.length = j) ∧ Hid (l2.map Rl.strip = (rl.take j).map Rl.strip) ∧ Hid (DSt w w2 wv base2 b3 #[.slice A5 l.length c5, .slice A6 j c6, .int .i64 pt, .int .i64 rs] (.slice A6 j c6) j l2)) (fun s6 _ => rl.length - (intOf s6).toNat)
      case atStart => exact ⟨0, none, 0, [], rfl, by omega, Lib.hid rfl, Lib.hid rfl, D0⟩
      case round =>
        obtain ⟨j, A6, c6, l2, rfl, hj, HM', HML, DS⟩ := hrel
        obtain ⟨wo, rfl⟩ : ∃ x, x = wr := ⟨wr, rfl⟩
        have X1 : Hid (Blk wo b1 70 #[.slice A l.length cp, .slice B rl.length cq, .int .i64 pt, .int .i64 rs]) := Lib.hid ((DS.out.kr b1 HNC.out.1 HNC.out.2.1).trans CS.out.x1)
        have z1 := X1.out.cell 1
        simp only [List.getElem?_toArray, List.getElem?_cons_zero, List.getElem?_cons_succ] at z1
        by_cases hlt : j < rl.length
        · have hkI : (j : Int) < (rl.length : Int) := by omega
          have hk0 : (0 : Int) ≤ (j : Int) := by omega
          obtain ⟨m, hm⟩ : ∃ m, rl[j]? = some m := ⟨_, List.getElem?_eq_getElem hlt⟩
          have HC := Lib.hid (HIN.out.below DS.out.k)
          obtain ⟨bb, oo, e1, hbb, hcell⟩ := HC.out.ru.2 (by show 0 < rl.length; omega)
          simp only at e1
          subst e1
          obtain ⟨c0, c1, c2⟩ := rl_at hcell hm
          have HM := Lib.hid hm
          have HRI := Lib.hid (HC.out.rr m (List.mem_of_getElem? hm))
          have HSM := Lib.hid (HS2.out m (List.mem_of_getElem? hm))
          clear hcell hm hbb HC
          obtain ⟨⟨aA, ac, al⟩, ⟨bA, bc, bl⟩, ⟨eA, ec, el⟩⟩ := m
          obtain ⟨q1, q2, q3⟩ := HRI.out
          have RA : Hid (Reads wo (fun b => b < wo.heap.size) 3 aA al.length (mts al)) := Lib.hid q1.1
          have RB : Hid (Reads wo (fun b => b < wo.heap.size) 3 bA bl.length (mts bl)) := Lib.hid q2.1
          have RE : Hid (Reads wo (fun b => b < wo.heap.size) 1 eA el.length (el.flatMap tx)) := Lib.hid q3.1
          have OA := Lib.hid q1.2
          have OB := Lib.hid q2.2
          have OE := Lib.hid q3.2
          obtain ⟨t1, t2, t3⟩ := HSM.out
          clear q1 q2 q3 HRI HSM
          unfold MR.val at c0 c1
          unfold TR.val at c2
          simp only at c0 c1 c2 t1 t2 t3
          obtain ⟨n1, hn1⟩ : ∃ n, al.length = n := ⟨_, rfl⟩
          obtain ⟨n2, hn2⟩ : ∃ n, bl.length = n := ⟨_, rfl⟩
          obtain ⟨n3, hn3⟩ : ∃ n, el.length = n := ⟨_, rfl⟩
          rw [hn1] at RA c0 t1
          rw [hn2] at RB c1 t2
          rw [hn3] at RE c2 t3
          have HN1 := Lib.hid hn1
          have HN2 := Lib.hid hn2
          have HN3 := Lib.hid hn3
          clear hn1 hn2 hn3
          have KR : Hid (Below wo.heap.size wo (wo.alloc (.cells #[.slice aA n1 ac, .slice bA n2 bc, .slice eA n3 ec] 47))) := Lib.hid ((Below.refl wo.heap.size wo).alloc (Nat.le_refl _) _)
          have R7 := Lib.hid (Blk.new wo 47 #[.slice aA n1 ac, .slice bA n2 bc, .slice eA n3 ec])
          go_upto_region 14 with fail
          obtain ⟨b7, hb7⟩ : ∃ b, wo.heap.size = b := ⟨_, rfl⟩
          have DX := Lib.hid (DS.out.below KR.out)
          have HO6 := Lib.hid DS.out.o6
          rw [hb7] at R7 ⊢
          have HB7 := Lib.hid hb7
          clear hb7
          generalize wo.alloc (.cells #[.slice aA n1 ac, .slice bA n2 bc, .slice eA n3 ec] 47) = wx at *
          obtain ⟨lo, hlo⟩ : ∃ x, wx.heap.size = x := ⟨_, rfl⟩
          have hb7lo : b7 < lo := hlo ▸ R7.out.lt
          have hb3lo : b3 < lo := hlo ▸ DX.out.x3.lt
          have HSW := Lib.hid (keepB (hlo ▸ Below.refl wx.heap.size wx : Below lo wx wx))
          have RA2 := Lib.hid (RA.out.below (by omega) KR.out)
          have RB2 := Lib.hid (RB.out.below (by omega) KR.out)
          have RE2 := Lib.hid (RE.out.below (by omega) KR.out)
          have HLO := Lib.hid hlo
          have HN73 : Hid (b7 ≠ b3) := Lib.hid (by have := HB7.out; have := DS.out.x3.lt; omega)
          have r0 := R7.out.cell 0
          have r1 := R7.out.cell 1
          have r2 := R7.out.cell 2
          have x1 := DX.out.x3.cell 1
          simp only [List.getElem?_toArray, List.getElem?_cons_zero, List.getElem?_cons_succ] at r0 r1 r2 x1
          clear hlo c0 c1 c2 z1 RA RB RE
          have HS7 : Hid (∀ X, Below lo wx X → X.cell? ⟨b7, 0, none⟩ = some (.slice aA n1 ac) ∧ X.cell? ⟨b7, 1, none⟩ = some (.slice bA n2 bc) ∧ X.cell? ⟨b7, 2, none⟩ = some (.slice eA n3 ec)) := Lib.hid (fun X hb => ⟨(hb.cell (p := ⟨b7, 0, none⟩) hb7lo).trans r0, (hb.cell (p := ⟨b7, 1, none⟩) hb7lo).trans r1, (hb.cell (p := ⟨b7, 2, none⟩) hb7lo).trans r2⟩)
          have HX1 : Hid (∀ X, Below lo wx X → X.cell? ⟨b3, 1, none⟩ = some (.slice A6 j c6)) := Lib.hid (fun X hb => (hb.cell (p := ⟨b3, 1, none⟩) hb3lo).trans x1)
          clear r0 r1 r2 x1
          refine wp_region_held_drew (S := fun X => X.cell? ⟨b7, 0, none⟩ = some (.slice aA n1 ac) ∧ X.cell? ⟨b7, 1, none⟩ = some (.slice bA n2 bc) ∧ X.cell? ⟨b7, 2, none⟩ = some (.slice eA n3 ec)) (by kernel_rfl) (by exact HS7.out _ HSW.out.2.2.drew) (fun hHeld => ?_)
          refine wpAnyH_take (i := 0) (v := ?_) (by simp only [List.getElem?_toArray, List.getElem?_cons_succ, List.getElem?_cons_zero]; exact rfl) (by decide +kernel) (by decide +kernel) (by decide +kernel) (by exact fun _ _ _ h => h) (Or.inl ⟨by rfl, ?_⟩) (by assumption) ?_
          rotate_left
          · (intro w hSw; (try dsimp only at hSw); go_simp; try with_reducible rfl)
          try simp only [Act.put, List.setIfInBounds_toArray, List.set_cons_zero, List.set_cons_succ]
          refine wpAnyH_take (i := 3) (v := ?_) (by simp only [List.getElem?_toArray, List.getElem?_cons_succ, List.getElem?_cons_zero]; exact rfl) (by decide +kernel) (by decide +kernel) (by decide +kernel) (by exact fun _ _ _ h => h) (Or.inl ⟨by rfl, ?_⟩) (by assumption) ?_
          rotate_left
          · (intro w hSw; (try dsimp only at hSw); go_simp; try with_reducible rfl)
          try simp only [Act.put, List.setIfInBounds_toArray, List.set_cons_zero, List.set_cons_succ]
          refine wpAnyH_take (i := 4) (v := ?_) (by simp only [List.getElem?_toArray, List.getElem?_cons_succ, List.getElem?_cons_zero]; exact rfl) (by decide +kernel) (by decide +kernel) (by decide +kernel) (by exact fun _ _ _ h => h) (Or.inl ⟨by rfl, ?_⟩) (by assumption) ?_
          rotate_left
          · (intro w hSw; (try dsimp only at hSw); go_simp; try with_reducible rfl)
          try simp only [Act.put, List.setIfInBounds_toArray, List.set_cons_zero, List.set_cons_succ]
          refine wpAnyH_take (i := 7) (v := ?_) (by simp only [List.getElem?_toArray, List.getElem?_cons_succ, List.getElem?_cons_zero]; exact rfl) (by decide +kernel) (by decide +kernel) (by decide +kernel) (by exact fun _ _ _ h => h) (Or.inl ⟨by rfl, ?_⟩) (by assumption) ?_
          rotate_left
          · (intro w hSw; (try dsimp only at hSw); go_simp; try with_reducible rfl)
          try simp only [Act.put, List.setIfInBounds_toArray, List.set_cons_zero, List.set_cons_succ]
          refine wpAnyH_take (i := 8) (v := ?_) (by simp only [List.getElem?_toArray, List.getElem?_cons_succ, List.getElem?_cons_zero]; exact rfl) (by decide +kernel) (by decide +kernel) (by decide +kernel) (by exact fun _ _ _ h => h) (Or.inl ⟨by rfl, ?_⟩) (by assumption) ?_
          rotate_left
          · (intro w hSw; (try dsimp only at hSw); go_simp; try with_reducible rfl)
          try simp only [Act.put, List.setIfInBounds_toArray, List.set_cons_zero, List.set_cons_succ]
          refine wpAnyH_take (i := 11) (v := ?_) (by simp only [List.getElem?_toArray, List.getElem?_cons_succ, List.getElem?_cons_zero]; exact rfl) (by decide +kernel) (by decide +kernel) (by decide +kernel) (by exact fun _ _ _ h => h) (Or.inl ⟨by rfl, ?_⟩) (by assumption) ?_
          rotate_left
          · (intro w hSw; (try dsimp only at hSw); go_simp; try with_reducible rfl)
          try simp only [Act.put, List.setIfInBounds_toArray, List.set_cons_zero, List.set_cons_succ]
          refine wpAnyH_take (i := 12) (v := ?_) (by simp only [List.getElem?_toArray, List.getElem?_cons_succ, List.getElem?_cons_zero]; exact rfl) (by decide +kernel) (by decide +kernel) (by decide +kernel) (by exact fun _ _ _ h => h) (Or.inl ⟨by rfl, ?_⟩) (by assumption) ?_
          rotate_left
          · (intro w hSw; (try dsimp only at hSw); go_simp; try with_reducible rfl)
          try simp only [Act.put, List.setIfInBounds_toArray, List.set_cons_zero, List.set_cons_succ]
          refine wpAnyH_walk (J := fun n listed a w' => ∃ (p q r t x : Nat) (x52 x53 x56 x57 x60 x61 x64 x65 x66 : Value), a = ⟨#[Value.agg #[Value.slice A l.length cp, Value.slice (some { block := bb, off := oo }) rl.length cq, Value.int IntKind.i64 pt, Value.int IntKind.i64 rs], Value.pointer (some { block := b1, off := 0 }), Value.pointer (some { block := b2, off := 0 }), Value.pointer (some { block := b3, off := 0 }), Value.int IntKind.i64 ↑l.length, u5, Value.int IntKind.i64 ↑j, Value.pointer (some { block := b7, off := 0 }), Value.agg #[Value.slice A l.length cp, Value.slice (some { block := bb, off := oo }) rl.length cq, Value.int IntKind.i64 pt, Value.int IntKind.i64 rs], Value.pointer (some { block := b3, off := 0 }), Value.pointer (some { block := b3, off := 1 }), Value.int IntKind.i64 ↑l.length, Value.pointer (some { block := b1, off := 0 }), Value.slice A l.length cp, Value.int IntKind.i64 ↑l.length, Value.bool false, u16, u17, u18, u19, u20, u21, u22, u23, u24, u25, u26, u27, u28, u29, u30, u31, u32, u33, u34, u35, u36, u37, u38, Value.int IntKind.i64 ↑j, Value.pointer (some { block := b1, off := 1 }), Value.slice (some { block := bb, off := oo }) rl.length cq, Value.int IntKind.i64 ↑rl.length, Value.bool true, u44, u45, Value.pointer (some { block := b1, off := 1 }), Value.slice (some { block := bb, off := oo }) rl.length cq, Value.int IntKind.i64 ↑j, Value.pointer (some { block := bb, off := oo + j * 3 }), Value.agg #[Value.slice aA n1 ac, Value.slice bA n2 bc, Value.slice eA n3 ec], Value.pointer (some { block := b3, off := 1 }), x52, x53, Value.pointer (some { block := b7, off := 0 }), Value.slice aA n1 ac, x56, x57, Value.pointer (some { block := b7, off := 1 }), Value.slice bA n2 bc, x60, x61, Value.pointer (some { block := b7, off := 2 }), Value.slice eA n3 ec, x64, x65, x66, u67, u68, undef], []⟩ ∧ n + (p + q + r + t + x) = 12 ∧ ((p = 0 ∧ q = 0 ∧ r = 0 ∧ t = 0 ∧ x = 0 ∧ listed = #[true, false, false, true, true, false, false, true, true, false, false, true, true, false, false, false, false, false, false]) ∨ (p = 0 ∧ q = 0 ∧ r = 1 ∧ t = 0 ∧ x = 0 ∧ listed = #[true, false, false, true, true, false, false, true, true, false, true, true, true, false, false, false, false, false, false]) ∨ (p = 0 ∧ q = 1 ∧ r = 0 ∧ t = 0 ∧ x = 0 ∧ listed = #[true, false, false, true, true, false, true, true, true, false, false, true, true, false, false, false, false, false, false]) ∨ (p = 0 ∧ q = 1 ∧ r = 1 ∧ t = 0 ∧ x = 0 ∧ listed = #[true, false, false, true, true, false, true, true, true, false, true, true, true, false, false, false, false, false, false]) ∨ (p = 1 ∧ q = 0 ∧ r = 0 ∧ t = 0 ∧ x = 0 ∧ listed = #[true, false, true, true, true, false, false, true, true, false, false, true, true, false, false, false, false, false, false]) ∨ (p = 1 ∧ q = 0 ∧ r = 1 ∧ t = 0 ∧ x = 0 ∧ listed = #[true, false, true, true, true, false, false, true, true, false, true, true, true, false, false, false, false, false, false]) ∨ (p = 1 ∧ q = 1 ∧ r = 0 ∧ t = 0 ∧ x = 0 ∧ listed = #[true, false, true, true, true, false, true, true, true, false, false, true, true, false, false, false, false, false, false]) ∨ (p = 1 ∧ q = 1 ∧ r = 1 ∧ t = 0 ∧ x = 0 ∧ listed = #[true, false, true, true, true, false, true, true, true, false, true, true, true, false, false, false, false, false, false]) ∨ (p = 2 ∧ q = 0 ∧ r = 0 ∧ t = 0 ∧ x = 0 ∧ listed = #[true, false, true, true, true, true, false, true, true, false, false, true, true, false, false, false, false, false, false]) ∨ (p = 2 ∧ q = 0 ∧ r = 1 ∧ t = 0 ∧ x = 0 ∧ listed = #[true, false, true, true, true, true, false, true, true, false, true, true, true, false, false, false, false, false, false]) ∨ (p = 2 ∧ q = 1 ∧ r = 0 ∧ t = 0 ∧ x = 0 ∧ listed = #[true, false, true, true, true, true, true, true, true, false, false, true, true, false, false, false, false, false, false]) ∨ (p = 2 ∧ q = 1 ∧ r = 1 ∧ t = 0 ∧ x = 0 ∧ listed = #[true, false, true, true, true, true, true, true, true, false, true, true, true, false, false, false, false, false, false]) ∨ (p = 2 ∧ q = 2 ∧ r = 0 ∧ t = 0 ∧ x = 0 ∧ listed = #[true, false, true, true, true, true, true, true, true, true, false, true, true, false, false, false, false, false, false]) ∨ (p = 2 ∧ q = 2 ∧ r = 1 ∧ t = 0 ∧ x = 0 ∧ listed = #[true, false, true, true, true, true, true, true, true, true, true, true, true, false, false, false, false, false, false]) ∨ (p = 2 ∧ q = 2 ∧ r = 2 ∧ t = 0 ∧ x = 0 ∧ listed = #[true, false, true, true, true, true, true, true, true, true, true, true, true, true, false, false, false, false, false]) ∨ (p = 0 ∧ q = 0 ∧ r = 0 ∧ t = 0 ∧ x = 1 ∧ listed = #[true, true, false, true, true, false, false, true, true, false, false, true, true, false, false, false, false, false, false]) ∨ (p = 0 ∧ q = 0 ∧ r = 1 ∧ t = 0 ∧ x = 1 ∧ listed = #[true, true, false, true, true, false, false, true, true, false, true, true, true, false, false, false, false, false, false]) ∨ (p = 0 ∧ q = 1 ∧ r = 0 ∧ t = 0 ∧ x = 1 ∧ listed = #[true, true, false, true, true, false, true, true, true, false, false, true, true, false, false, false, false, false, false]) ∨ (p = 0 ∧ q = 1 ∧ r = 1 ∧ t = 0 ∧ x = 1 ∧ listed = #[true, true, false, true, true, false, true, true, true, false, true, true, true, false, false, false, false, false, false]) ∨ (p = 1 ∧ q = 0 ∧ r = 0 ∧ t = 0 ∧ x = 1 ∧ listed = #[true, true, true, true, true, false, false, true, true, false, false, true, true, false, false, false, false, false, false]) ∨ (p = 1 ∧ q = 0 ∧ r = 1 ∧ t = 0 ∧ x = 1 ∧ listed = #[true, true, true, true, true, false, false, true, true, false, true, true, true, false, false, false, false, false, false]) ∨ (p = 1 ∧ q = 1 ∧ r = 0 ∧ t = 0 ∧ x = 1 ∧ listed = #[true, true, true, true, true, false, true, true, true, false, false, true, true, false, false, false, false, false, false]) ∨ (p = 1 ∧ q = 1 ∧ r = 1 ∧ t = 0 ∧ x = 1 ∧ listed = #[true, true, true, true, true, false, true, true, true, false, true, true, true, false, false, false, false, false, false]) ∨ (p = 2 ∧ q = 0 ∧ r = 0 ∧ t = 0 ∧ x = 1 ∧ listed = #[true, true, true, true, true, true, false, true, true, false, false, true, true, false, false, false, false, false, false]) ∨ (p = 2 ∧ q = 0 ∧ r = 1 ∧ t = 0 ∧ x = 1 ∧ listed = #[true, true, true, true, true, true, false, true, true, false, true, true, true, false, false, false, false, false, false]) ∨ (p = 2 ∧ q = 1 ∧ r = 0 ∧ t = 0 ∧ x = 1 ∧ listed = #[true, true, true, true, true, true, true, true, true, false, false, true, true, false, false, false, false, false, false]) ∨ (p = 2 ∧ q = 1 ∧ r = 1 ∧ t = 0 ∧ x = 1 ∧ listed = #[true, true, true, true, true, true, true, true, true, false, true, true, true, false, false, false, false, false, false]) ∨ (p = 2 ∧ q = 2 ∧ r = 0 ∧ t = 0 ∧ x = 1 ∧ listed = #[true, true, true, true, true, true, true, true, true, true, false, true, true, false, false, false, false, false, false]) ∨ (p = 2 ∧ q = 2 ∧ r = 1 ∧ t = 0 ∧ x = 1 ∧ listed = #[true, true, true, true, true, true, true, true, true, true, true, true, true, false, false, false, false, false, false]) ∨ (p = 2 ∧ q = 2 ∧ r = 2 ∧ t = 0 ∧ x = 1 ∧ listed = #[true, true, true, true, true, true, true, true, true, true, true, true, true, true, false, false, false, false, false]) ∨ (p = 2 ∧ q = 2 ∧ r = 2 ∧ t = 1 ∧ x = 0 ∧ listed = #[true, false, true, true, true, true, true, true, true, true, true, true, true, true, true, false, false, false, false]) ∨ (p = 2 ∧ q = 2 ∧ r = 2 ∧ t = 1 ∧ x = 1 ∧ listed = #[true, true, true, true, true, true, true, true, true, true, true, true, true, true, true, false, false, false, false]) ∨ (p = 2 ∧ q = 2 ∧ r = 2 ∧ t = 2 ∧ x = 0 ∧ listed = #[true, false, true, true, true, true, true, true, true, true, true, true, true, true, true, true, false, false, false]) ∨ (p = 2 ∧ q = 2 ∧ r = 2 ∧ t = 2 ∧ x = 1 ∧ listed = #[true, true, true, true, true, true, true, true, true, true, true, true, true, true, true, true, false, false, false])) ∧ Hid (Tri wx w' lo n1 n2 n3 (mts al) (mts bl) (el.flatMap tx) p q r x53 x56 x57 x60 x61 x64) ∧ Hid (x = 1 → x52 = .slice A6 j c6) ∧ Hid (1 ≤ t → x65 = .agg #[x56, x60, x64]) ∧ Hid (t = 2 → ∃ g, x66 = .slice (some ⟨g, 0, none⟩) 1 1 ∧ Blk w' g 47 #[x56, x60, x64])) ?_ _ _ _ _ ⟨0, 0, 0, 0, 0, u52, u53, u56, u57, u60, u61, u64, u65, u66, rfl, by decide, .inl ⟨rfl, rfl, rfl, rfl, rfl, by decide +kernel⟩, Lib.hid ⟨Ch.zero, Ch.zero, Ch.zero, (fun k hk => by cases hk), (fun k hk => by cases hk), (fun k hk => by cases hk), HSW.out.2.2.drew, Nat.le_of_eq HLO.out.symm⟩, Lib.hid (fun h => by cases h), Lib.hid (fun h => by omega), Lib.hid (fun h => by cases h)⟩
          intro n listed a w9 hJ hnext
          have HNX : Shut _ := hnext
          clear hnext
          obtain ⟨p, q, r, t, x, x52, x53, x56, x57, x60, x61, x64, x65, x66, rfl, hn, hst, TRI, HX, HY, HZ⟩ := hJ
          rcases hst with ⟨rfl, rfl, rfl, rfl, rfl, rfl⟩ | ⟨rfl, rfl, rfl, rfl, rfl, rfl⟩ | ⟨rfl, rfl, rfl, rfl, rfl, rfl⟩ | ⟨rfl, rfl, rfl, rfl, rfl, rfl⟩ | ⟨rfl, rfl, rfl, rfl, rfl, rfl⟩ | ⟨rfl, rfl, rfl, rfl, rfl, rfl⟩ | ⟨rfl, rfl, rfl, rfl, rfl, rfl⟩ | ⟨rfl, rfl, rfl, rfl, rfl, rfl⟩ | ⟨rfl, rfl, rfl, rfl, rfl, rfl⟩ | ⟨rfl, rfl, rfl, rfl, rfl, rfl⟩ | ⟨rfl, rfl, rfl, rfl, rfl, rfl⟩ | ⟨rfl, rfl, rfl, rfl, rfl, rfl⟩ | ⟨rfl, rfl, rfl, rfl, rfl, rfl⟩ | ⟨rfl, rfl, rfl, rfl, rfl, rfl⟩ | ⟨rfl, rfl, rfl, rfl, rfl, rfl⟩ | ⟨rfl, rfl, rfl, rfl, rfl, rfl⟩ | ⟨rfl, rfl, rfl, rfl, rfl, rfl⟩ | ⟨rfl, rfl, rfl, rfl, rfl, rfl⟩ | ⟨rfl, rfl, rfl, rfl, rfl, rfl⟩ | ⟨rfl, rfl, rfl, rfl, rfl, rfl⟩ | ⟨rfl, rfl, rfl, rfl, rfl, rfl⟩ | ⟨rfl, rfl, rfl, rfl, rfl, rfl⟩ | ⟨rfl, rfl, rfl, rfl, rfl, rfl⟩ | ⟨rfl, rfl, rfl, rfl, rfl, rfl⟩ | ⟨rfl, rfl, rfl, rfl, rfl, rfl⟩ | ⟨rfl, rfl, rfl, rfl, rfl, rfl⟩ | ⟨rfl, rfl, rfl, rfl, rfl, rfl⟩ | ⟨rfl, rfl, rfl, rfl, rfl, rfl⟩ | ⟨rfl, rfl, rfl, rfl, rfl, rfl⟩ | ⟨rfl, rfl, rfl, rfl, rfl, rfl⟩ | ⟨rfl, rfl, rfl, rfl, rfl, rfl⟩ | ⟨rfl, rfl, rfl, rfl, rfl, rfl⟩ | ⟨rfl, rfl, rfl, rfl, rfl, rfl⟩ | ⟨rfl, rfl, rfl, rfl, rfl, rfl⟩
          · obtain rfl : n = 12 := by omega
            have z3 := HX1.out _ TRI.out.k
            refine wpAnyH_ready (rs := [1, 2, 6, 10]) (by decide +kernel) (by simp) ?_
            refine AllReadyH.cons (by simp only [List.getElem?_toArray, List.getElem?_cons_succ, List.getElem?_cons_zero]; exact rfl) (fun K hK => ?_) (AllReadyH.cons (by simp only [List.getElem?_toArray, List.getElem?_cons_succ, List.getElem?_cons_zero]; exact rfl) (fun K hK => ?_) (AllReadyH.cons (by simp only [List.getElem?_toArray, List.getElem?_cons_succ, List.getElem?_cons_zero]; exact rfl) (fun K hK => ?_) (AllReadyH.cons (by simp only [List.getElem?_toArray, List.getElem?_cons_succ, List.getElem?_cons_zero]; exact rfl) (fun K hK => ?_) AllReadyH.nil)))
            · go_simp
              have TN := TRI
              refine hK.out _ _ (HS7.out _ TN.out.k) (fun hH => HNX.out 11 _ _ _ (by decide) ⟨0, 0, 0, 0, 1, _, _, _, _, _, _, _, _, _, rfl, by decide, .inr (.inr (.inr (.inr (.inr (.inr (.inr (.inr (.inr (.inr (.inr (.inr (.inr (.inr (.inr (.inl ⟨rfl, rfl, rfl, rfl, rfl, by decide +kernel⟩))))))))))))))), TN, Lib.hid (fun _ => rfl), Lib.hid (fun h => by omega), Lib.hid (fun h => by cases h)⟩)
            · go_simp
              have TN := Lib.hid TRI.out.a0
              refine hK.out _ _ (HS7.out _ TN.out.k) (fun hH => HNX.out 11 _ _ _ (by decide) ⟨1, 0, 0, 0, 0, _, _, _, _, _, _, _, _, _, rfl, by decide, .inr (.inr (.inr (.inr (.inl ⟨rfl, rfl, rfl, rfl, rfl, by decide +kernel⟩)))), TN, Lib.hid (fun h => by cases h), Lib.hid (fun h => by omega), Lib.hid (fun h => by cases h)⟩)
            · go_simp
              have TN := Lib.hid TRI.out.b0
              refine hK.out _ _ (HS7.out _ TN.out.k) (fun hH => HNX.out 11 _ _ _ (by decide) ⟨0, 1, 0, 0, 0, _, _, _, _, _, _, _, _, _, rfl, by decide, .inr (.inr (.inl ⟨rfl, rfl, rfl, rfl, rfl, by decide +kernel⟩)), TN, Lib.hid (fun h => by cases h), Lib.hid (fun h => by omega), Lib.hid (fun h => by cases h)⟩)
            · go_simp
              have TN := Lib.hid TRI.out.c0
              refine hK.out _ _ (HS7.out _ TN.out.k) (fun hH => HNX.out 11 _ _ _ (by decide) ⟨0, 0, 1, 0, 0, _, _, _, _, _, _, _, _, _, rfl, by decide, .inr (.inl ⟨rfl, rfl, rfl, rfl, rfl, by decide +kernel⟩), TN, Lib.hid (fun h => by cases h), Lib.hid (fun h => by omega), Lib.hid (fun h => by cases h)⟩)
          · obtain rfl : n = 11 := by omega
            have z3 := HX1.out _ TRI.out.k
            refine wpAnyH_ready (rs := [1, 2, 6]) (by decide +kernel) (by simp) ?_
            refine AllReadyH.cons (by simp only [List.getElem?_toArray, List.getElem?_cons_succ, List.getElem?_cons_zero]; exact rfl) (fun K hK => ?_) (AllReadyH.cons (by simp only [List.getElem?_toArray, List.getElem?_cons_succ, List.getElem?_cons_zero]; exact rfl) (fun K hK => ?_) (AllReadyH.cons (by simp only [List.getElem?_toArray, List.getElem?_cons_succ, List.getElem?_cons_zero]; exact rfl) (fun K hK => ?_) AllReadyH.nil))
            · go_simp
              have TN := TRI
              refine hK.out _ _ (HS7.out _ TN.out.k) (fun hH => HNX.out 10 _ _ _ (by decide) ⟨0, 0, 1, 0, 1, _, _, _, _, _, _, _, _, _, rfl, by decide, .inr (.inr (.inr (.inr (.inr (.inr (.inr (.inr (.inr (.inr (.inr (.inr (.inr (.inr (.inr (.inr (.inl ⟨rfl, rfl, rfl, rfl, rfl, by decide +kernel⟩)))))))))))))))), TN, Lib.hid (fun _ => rfl), Lib.hid (fun h => by omega), Lib.hid (fun h => by cases h)⟩)
            · go_simp
              have TN := Lib.hid TRI.out.a0
              refine hK.out _ _ (HS7.out _ TN.out.k) (fun hH => HNX.out 10 _ _ _ (by decide) ⟨1, 0, 1, 0, 0, _, _, _, _, _, _, _, _, _, rfl, by decide, .inr (.inr (.inr (.inr (.inr (.inl ⟨rfl, rfl, rfl, rfl, rfl, by decide +kernel⟩))))), TN, Lib.hid (fun h => by cases h), Lib.hid (fun h => by omega), Lib.hid (fun h => by cases h)⟩)
            · go_simp
              have TN := Lib.hid TRI.out.b0
              refine hK.out _ _ (HS7.out _ TN.out.k) (fun hH => HNX.out 10 _ _ _ (by decide) ⟨0, 1, 1, 0, 0, _, _, _, _, _, _, _, _, _, rfl, by decide, .inr (.inr (.inr (.inl ⟨rfl, rfl, rfl, rfl, rfl, by decide +kernel⟩))), TN, Lib.hid (fun h => by cases h), Lib.hid (fun h => by omega), Lib.hid (fun h => by cases h)⟩)
          · obtain rfl : n = 11 := by omega
            have z3 := HX1.out _ TRI.out.k
            refine wpAnyH_ready (rs := [1, 2, 10]) (by decide +kernel) (by simp) ?_
            refine AllReadyH.cons (by simp only [List.getElem?_toArray, List.getElem?_cons_succ, List.getElem?_cons_zero]; exact rfl) (fun K hK => ?_) (AllReadyH.cons (by simp only [List.getElem?_toArray, List.getElem?_cons_succ, List.getElem?_cons_zero]; exact rfl) (fun K hK => ?_) (AllReadyH.cons (by simp only [List.getElem?_toArray, List.getElem?_cons_succ, List.getElem?_cons_zero]; exact rfl) (fun K hK => ?_) AllReadyH.nil))
            · go_simp
              have TN := TRI
              refine hK.out _ _ (HS7.out _ TN.out.k) (fun hH => HNX.out 10 _ _ _ (by decide) ⟨0, 1, 0, 0, 1, _, _, _, _, _, _, _, _, _, rfl, by decide, .inr (.inr (.inr (.inr (.inr (.inr (.inr (.inr (.inr (.inr (.inr (.inr (.inr (.inr (.inr (.inr (.inr (.inl ⟨rfl, rfl, rfl, rfl, rfl, by decide +kernel⟩))))))))))))))))), TN, Lib.hid (fun _ => rfl), Lib.hid (fun h => by omega), Lib.hid (fun h => by cases h)⟩)
            · go_simp
              have TN := Lib.hid TRI.out.a0
              refine hK.out _ _ (HS7.out _ TN.out.k) (fun hH => HNX.out 10 _ _ _ (by decide) ⟨1, 1, 0, 0, 0, _, _, _, _, _, _, _, _, _, rfl, by decide, .inr (.inr (.inr (.inr (.inr (.inr (.inl ⟨rfl, rfl, rfl, rfl, rfl, by decide +kernel⟩)))))), TN, Lib.hid (fun h => by cases h), Lib.hid (fun h => by omega), Lib.hid (fun h => by cases h)⟩)
            · go_simp
              have TN := Lib.hid TRI.out.c0
              refine hK.out _ _ (HS7.out _ TN.out.k) (fun hH => HNX.out 10 _ _ _ (by decide) ⟨0, 1, 1, 0, 0, _, _, _, _, _, _, _, _, _, rfl, by decide, .inr (.inr (.inr (.inl ⟨rfl, rfl, rfl, rfl, rfl, by decide +kernel⟩))), TN, Lib.hid (fun h => by cases h), Lib.hid (fun h => by omega), Lib.hid (fun h => by cases h)⟩)
          · obtain rfl : n = 10 := by omega
            have z3 := HX1.out _ TRI.out.k
            refine wpAnyH_ready (rs := [1, 2]) (by decide +kernel) (by simp) ?_
            refine AllReadyH.cons (by simp only [List.getElem?_toArray, List.getElem?_cons_succ, List.getElem?_cons_zero]; exact rfl) (fun K hK => ?_) (AllReadyH.cons (by simp only [List.getElem?_toArray, List.getElem?_cons_succ, List.getElem?_cons_zero]; exact rfl) (fun K hK => ?_) AllReadyH.nil)
            · go_simp
              have TN := TRI
              refine hK.out _ _ (HS7.out _ TN.out.k) (fun hH => HNX.out 9 _ _ _ (by decide) ⟨0, 1, 1, 0, 1, _, _, _, _, _, _, _, _, _, rfl, by decide, .inr (.inr (.inr (.inr (.inr (.inr (.inr (.inr (.inr (.inr (.inr (.inr (.inr (.inr (.inr (.inr (.inr (.inr (.inl ⟨rfl, rfl, rfl, rfl, rfl, by decide +kernel⟩)))))))))))))))))), TN, Lib.hid (fun _ => rfl), Lib.hid (fun h => by omega), Lib.hid (fun h => by cases h)⟩)
            · go_simp
              have TN := Lib.hid TRI.out.a0
              refine hK.out _ _ (HS7.out _ TN.out.k) (fun hH => HNX.out 9 _ _ _ (by decide) ⟨1, 1, 1, 0, 0, _, _, _, _, _, _, _, _, _, rfl, by decide, .inr (.inr (.inr (.inr (.inr (.inr (.inr (.inl ⟨rfl, rfl, rfl, rfl, rfl, by decide +kernel⟩))))))), TN, Lib.hid (fun h => by cases h), Lib.hid (fun h => by omega), Lib.hid (fun h => by cases h)⟩)
          · obtain rfl : n = 11 := by omega
            have z3 := HX1.out _ TRI.out.k
            refine wpAnyH_ready (rs := [1, 5, 6, 10]) (by decide +kernel) (by simp) ?_
            refine AllReadyH.cons (by simp only [List.getElem?_toArray, List.getElem?_cons_succ, List.getElem?_cons_zero]; exact rfl) (fun K hK => ?_) (AllReadyH.cons (by simp only [List.getElem?_toArray, List.getElem?_cons_succ, List.getElem?_cons_zero]; exact rfl) (fun K hK => ?_) (AllReadyH.cons (by simp only [List.getElem?_toArray, List.getElem?_cons_succ, List.getElem?_cons_zero]; exact rfl) (fun K hK => ?_) (AllReadyH.cons (by simp only [List.getElem?_toArray, List.getElem?_cons_succ, List.getElem?_cons_zero]; exact rfl) (fun K hK => ?_) AllReadyH.nil)))
            · go_simp
              have TN := TRI
              refine hK.out _ _ (HS7.out _ TN.out.k) (fun hH => HNX.out 10 _ _ _ (by decide) ⟨1, 0, 0, 0, 1, _, _, _, _, _, _, _, _, _, rfl, by decide, .inr (.inr (.inr (.inr (.inr (.inr (.inr (.inr (.inr (.inr (.inr (.inr (.inr (.inr (.inr (.inr (.inr (.inr (.inr (.inl ⟨rfl, rfl, rfl, rfl, rfl, by decide +kernel⟩))))))))))))))))))), TN, Lib.hid (fun _ => rfl), Lib.hid (fun h => by omega), Lib.hid (fun h => by cases h)⟩)
            · refine step_app_reads _ lo rfl (.tmp 53) (.tmp 55) 44 37 _ 3 40 rfl und44c info37 rfl (by decide) x53 0 [] rfl (fun b => b < wo.heap.size) aA n1 ac (mts al) rfl (reads_keepB RA2.out (by decide) (HLO.out ▸ KR.out.size) TRI.out.k) (mts_one al) (TRI.out.a.1 rfl) TRI.out.s (by omega) (by omega) ?_
              intro v1 w8 hO hG hat
              have TN := Lib.hid (TRI.out.a1' (v1 := v1) (w1 := w8) (show w8.ownsRow lo 37 3 v1 n1 (mts al) by simpa using hO) hG hat)
              refine hK.out _ _ (HS7.out _ TN.out.k) (fun hH => HNX.out 10 _ _ _ (by decide) ⟨2, 0, 0, 0, 0, _, _, _, _, _, _, _, _, _, rfl, by decide, .inr (.inr (.inr (.inr (.inr (.inr (.inr (.inr (.inl ⟨rfl, rfl, rfl, rfl, rfl, by decide +kernel⟩)))))))), TN, Lib.hid (fun h => by cases h), Lib.hid (fun h => by omega), Lib.hid (fun h => by cases h)⟩)
            · go_simp
              have TN := Lib.hid TRI.out.b0
              refine hK.out _ _ (HS7.out _ TN.out.k) (fun hH => HNX.out 10 _ _ _ (by decide) ⟨1, 1, 0, 0, 0, _, _, _, _, _, _, _, _, _, rfl, by decide, .inr (.inr (.inr (.inr (.inr (.inr (.inl ⟨rfl, rfl, rfl, rfl, rfl, by decide +kernel⟩)))))), TN, Lib.hid (fun h => by cases h), Lib.hid (fun h => by omega), Lib.hid (fun h => by cases h)⟩)
            · go_simp
              have TN := Lib.hid TRI.out.c0
              refine hK.out _ _ (HS7.out _ TN.out.k) (fun hH => HNX.out 10 _ _ _ (by decide) ⟨1, 0, 1, 0, 0, _, _, _, _, _, _, _, _, _, rfl, by decide, .inr (.inr (.inr (.inr (.inr (.inl ⟨rfl, rfl, rfl, rfl, rfl, by decide +kernel⟩))))), TN, Lib.hid (fun h => by cases h), Lib.hid (fun h => by omega), Lib.hid (fun h => by cases h)⟩)
          · obtain rfl : n = 10 := by omega
            have z3 := HX1.out _ TRI.out.k
            refine wpAnyH_ready (rs := [1, 5, 6]) (by decide +kernel) (by simp) ?_
            refine AllReadyH.cons (by simp only [List.getElem?_toArray, List.getElem?_cons_succ, List.getElem?_cons_zero]; exact rfl) (fun K hK => ?_) (AllReadyH.cons (by simp only [List.getElem?_toArray, List.getElem?_cons_succ, List.getElem?_cons_zero]; exact rfl) (fun K hK => ?_) (AllReadyH.cons (by simp only [List.getElem?_toArray, List.getElem?_cons_succ, List.getElem?_cons_zero]; exact rfl) (fun K hK => ?_) AllReadyH.nil))
            · go_simp
              have TN := TRI
              refine hK.out _ _ (HS7.out _ TN.out.k) (fun hH => HNX.out 9 _ _ _ (by decide) ⟨1, 0, 1, 0, 1, _, _, _, _, _, _, _, _, _, rfl, by decide, .inr (.inr (.inr (.inr (.inr (.inr (.inr (.inr (.inr (.inr (.inr (.inr (.inr (.inr (.inr (.inr (.inr (.inr (.inr (.inr (.inl ⟨rfl, rfl, rfl, rfl, rfl, by decide +kernel⟩)))))))))))))))))))), TN, Lib.hid (fun _ => rfl), Lib.hid (fun h => by omega), Lib.hid (fun h => by cases h)⟩)
            · refine step_app_reads _ lo rfl (.tmp 53) (.tmp 55) 44 37 _ 3 40 rfl und44c info37 rfl (by decide) x53 0 [] rfl (fun b => b < wo.heap.size) aA n1 ac (mts al) rfl (reads_keepB RA2.out (by decide) (HLO.out ▸ KR.out.size) TRI.out.k) (mts_one al) (TRI.out.a.1 rfl) TRI.out.s (by omega) (by omega) ?_
              intro v1 w8 hO hG hat
              have TN := Lib.hid (TRI.out.a1' (v1 := v1) (w1 := w8) (show w8.ownsRow lo 37 3 v1 n1 (mts al) by simpa using hO) hG hat)
              refine hK.out _ _ (HS7.out _ TN.out.k) (fun hH => HNX.out 9 _ _ _ (by decide) ⟨2, 0, 1, 0, 0, _, _, _, _, _, _, _, _, _, rfl, by decide, .inr (.inr (.inr (.inr (.inr (.inr (.inr (.inr (.inr (.inl ⟨rfl, rfl, rfl, rfl, rfl, by decide +kernel⟩))))))))), TN, Lib.hid (fun h => by cases h), Lib.hid (fun h => by omega), Lib.hid (fun h => by cases h)⟩)
            · go_simp
              have TN := Lib.hid TRI.out.b0
              refine hK.out _ _ (HS7.out _ TN.out.k) (fun hH => HNX.out 9 _ _ _ (by decide) ⟨1, 1, 1, 0, 0, _, _, _, _, _, _, _, _, _, rfl, by decide, .inr (.inr (.inr (.inr (.inr (.inr (.inr (.inl ⟨rfl, rfl, rfl, rfl, rfl, by decide +kernel⟩))))))), TN, Lib.hid (fun h => by cases h), Lib.hid (fun h => by omega), Lib.hid (fun h => by cases h)⟩)
          · obtain rfl : n = 10 := by omega
            have z3 := HX1.out _ TRI.out.k
            refine wpAnyH_ready (rs := [1, 5, 10]) (by decide +kernel) (by simp) ?_
            refine AllReadyH.cons (by simp only [List.getElem?_toArray, List.getElem?_cons_succ, List.getElem?_cons_zero]; exact rfl) (fun K hK => ?_) (AllReadyH.cons (by simp only [List.getElem?_toArray, List.getElem?_cons_succ, List.getElem?_cons_zero]; exact rfl) (fun K hK => ?_) (AllReadyH.cons (by simp only [List.getElem?_toArray, List.getElem?_cons_succ, List.getElem?_cons_zero]; exact rfl) (fun K hK => ?_) AllReadyH.nil))
            · go_simp
              have TN := TRI
              refine hK.out _ _ (HS7.out _ TN.out.k) (fun hH => HNX.out 9 _ _ _ (by decide) ⟨1, 1, 0, 0, 1, _, _, _, _, _, _, _, _, _, rfl, by decide, .inr (.inr (.inr (.inr (.inr (.inr (.inr (.inr (.inr (.inr (.inr (.inr (.inr (.inr (.inr (.inr (.inr (.inr (.inr (.inr (.inr (.inl ⟨rfl, rfl, rfl, rfl, rfl, by decide +kernel⟩))))))))))))))))))))), TN, Lib.hid (fun _ => rfl), Lib.hid (fun h => by omega), Lib.hid (fun h => by cases h)⟩)
            · refine step_app_reads _ lo rfl (.tmp 53) (.tmp 55) 44 37 _ 3 40 rfl und44c info37 rfl (by decide) x53 0 [] rfl (fun b => b < wo.heap.size) aA n1 ac (mts al) rfl (reads_keepB RA2.out (by decide) (HLO.out ▸ KR.out.size) TRI.out.k) (mts_one al) (TRI.out.a.1 rfl) TRI.out.s (by omega) (by omega) ?_
              intro v1 w8 hO hG hat
              have TN := Lib.hid (TRI.out.a1' (v1 := v1) (w1 := w8) (show w8.ownsRow lo 37 3 v1 n1 (mts al) by simpa using hO) hG hat)
              refine hK.out _ _ (HS7.out _ TN.out.k) (fun hH => HNX.out 9 _ _ _ (by decide) ⟨2, 1, 0, 0, 0, _, _, _, _, _, _, _, _, _, rfl, by decide, .inr (.inr (.inr (.inr (.inr (.inr (.inr (.inr (.inr (.inr (.inl ⟨rfl, rfl, rfl, rfl, rfl, by decide +kernel⟩)))))))))), TN, Lib.hid (fun h => by cases h), Lib.hid (fun h => by omega), Lib.hid (fun h => by cases h)⟩)
            · go_simp
              have TN := Lib.hid TRI.out.c0
              refine hK.out _ _ (HS7.out _ TN.out.k) (fun hH => HNX.out 9 _ _ _ (by decide) ⟨1, 1, 1, 0, 0, _, _, _, _, _, _, _, _, _, rfl, by decide, .inr (.inr (.inr (.inr (.inr (.inr (.inr (.inl ⟨rfl, rfl, rfl, rfl, rfl, by decide +kernel⟩))))))), TN, Lib.hid (fun h => by cases h), Lib.hid (fun h => by omega), Lib.hid (fun h => by cases h)⟩)
          · obtain rfl : n = 9 := by omega
            have z3 := HX1.out _ TRI.out.k
            refine wpAnyH_ready (rs := [1, 5]) (by decide +kernel) (by simp) ?_
            refine AllReadyH.cons (by simp only [List.getElem?_toArray, List.getElem?_cons_succ, List.getElem?_cons_zero]; exact rfl) (fun K hK => ?_) (AllReadyH.cons (by simp only [List.getElem?_toArray, List.getElem?_cons_succ, List.getElem?_cons_zero]; exact rfl) (fun K hK => ?_) AllReadyH.nil)
            · go_simp
              have TN := TRI
              refine hK.out _ _ (HS7.out _ TN.out.k) (fun hH => HNX.out 8 _ _ _ (by decide) ⟨1, 1, 1, 0, 1, _, _, _, _, _, _, _, _, _, rfl, by decide, .inr (.inr (.inr (.inr (.inr (.inr (.inr (.inr (.inr (.inr (.inr (.inr (.inr (.inr (.inr (.inr (.inr (.inr (.inr (.inr (.inr (.inr (.inl ⟨rfl, rfl, rfl, rfl, rfl, by decide +kernel⟩)))))))))))))))))))))), TN, Lib.hid (fun _ => rfl), Lib.hid (fun h => by omega), Lib.hid (fun h => by cases h)⟩)
            · refine step_app_reads _ lo rfl (.tmp 53) (.tmp 55) 44 37 _ 3 40 rfl und44c info37 rfl (by decide) x53 0 [] rfl (fun b => b < wo.heap.size) aA n1 ac (mts al) rfl (reads_keepB RA2.out (by decide) (HLO.out ▸ KR.out.size) TRI.out.k) (mts_one al) (TRI.out.a.1 rfl) TRI.out.s (by omega) (by omega) ?_
              intro v1 w8 hO hG hat
              have TN := Lib.hid (TRI.out.a1' (v1 := v1) (w1 := w8) (show w8.ownsRow lo 37 3 v1 n1 (mts al) by simpa using hO) hG hat)
              refine hK.out _ _ (HS7.out _ TN.out.k) (fun hH => HNX.out 8 _ _ _ (by decide) ⟨2, 1, 1, 0, 0, _, _, _, _, _, _, _, _, _, rfl, by decide, .inr (.inr (.inr (.inr (.inr (.inr (.inr (.inr (.inr (.inr (.inr (.inl ⟨rfl, rfl, rfl, rfl, rfl, by decide +kernel⟩))))))))))), TN, Lib.hid (fun h => by cases h), Lib.hid (fun h => by omega), Lib.hid (fun h => by cases h)⟩)
          · obtain rfl : n = 10 := by omega
            have z3 := HX1.out _ TRI.out.k
            refine wpAnyH_ready (rs := [1, 6, 10]) (by decide +kernel) (by simp) ?_
            refine AllReadyH.cons (by simp only [List.getElem?_toArray, List.getElem?_cons_succ, List.getElem?_cons_zero]; exact rfl) (fun K hK => ?_) (AllReadyH.cons (by simp only [List.getElem?_toArray, List.getElem?_cons_succ, List.getElem?_cons_zero]; exact rfl) (fun K hK => ?_) (AllReadyH.cons (by simp only [List.getElem?_toArray, List.getElem?_cons_succ, List.getElem?_cons_zero]; exact rfl) (fun K hK => ?_) AllReadyH.nil))
            · go_simp
              have TN := TRI
              refine hK.out _ _ (HS7.out _ TN.out.k) (fun hH => HNX.out 9 _ _ _ (by decide) ⟨2, 0, 0, 0, 1, _, _, _, _, _, _, _, _, _, rfl, by decide, .inr (.inr (.inr (.inr (.inr (.inr (.inr (.inr (.inr (.inr (.inr (.inr (.inr (.inr (.inr (.inr (.inr (.inr (.inr (.inr (.inr (.inr (.inr (.inl ⟨rfl, rfl, rfl, rfl, rfl, by decide +kernel⟩))))))))))))))))))))))), TN, Lib.hid (fun _ => rfl), Lib.hid (fun h => by omega), Lib.hid (fun h => by cases h)⟩)
            · go_simp
              have TN := Lib.hid TRI.out.b0
              refine hK.out _ _ (HS7.out _ TN.out.k) (fun hH => HNX.out 9 _ _ _ (by decide) ⟨2, 1, 0, 0, 0, _, _, _, _, _, _, _, _, _, rfl, by decide, .inr (.inr (.inr (.inr (.inr (.inr (.inr (.inr (.inr (.inr (.inl ⟨rfl, rfl, rfl, rfl, rfl, by decide +kernel⟩)))))))))), TN, Lib.hid (fun h => by cases h), Lib.hid (fun h => by omega), Lib.hid (fun h => by cases h)⟩)
            · go_simp
              have TN := Lib.hid TRI.out.c0
              refine hK.out _ _ (HS7.out _ TN.out.k) (fun hH => HNX.out 9 _ _ _ (by decide) ⟨2, 0, 1, 0, 0, _, _, _, _, _, _, _, _, _, rfl, by decide, .inr (.inr (.inr (.inr (.inr (.inr (.inr (.inr (.inr (.inl ⟨rfl, rfl, rfl, rfl, rfl, by decide +kernel⟩))))))))), TN, Lib.hid (fun h => by cases h), Lib.hid (fun h => by omega), Lib.hid (fun h => by cases h)⟩)
          · obtain rfl : n = 9 := by omega
            have z3 := HX1.out _ TRI.out.k
            refine wpAnyH_ready (rs := [1, 6]) (by decide +kernel) (by simp) ?_
            refine AllReadyH.cons (by simp only [List.getElem?_toArray, List.getElem?_cons_succ, List.getElem?_cons_zero]; exact rfl) (fun K hK => ?_) (AllReadyH.cons (by simp only [List.getElem?_toArray, List.getElem?_cons_succ, List.getElem?_cons_zero]; exact rfl) (fun K hK => ?_) AllReadyH.nil)
            · go_simp
              have TN := TRI
              refine hK.out _ _ (HS7.out _ TN.out.k) (fun hH => HNX.out 8 _ _ _ (by decide) ⟨2, 0, 1, 0, 1, _, _, _, _, _, _, _, _, _, rfl, by decide, .inr (.inr (.inr (.inr (.inr (.inr (.inr (.inr (.inr (.inr (.inr (.inr (.inr (.inr (.inr (.inr (.inr (.inr (.inr (.inr (.inr (.inr (.inr (.inr (.inl ⟨rfl, rfl, rfl, rfl, rfl, by decide +kernel⟩)))))))))))))))))))))))), TN, Lib.hid (fun _ => rfl), Lib.hid (fun h => by omega), Lib.hid (fun h => by cases h)⟩)
            · go_simp
              have TN := Lib.hid TRI.out.b0
              refine hK.out _ _ (HS7.out _ TN.out.k) (fun hH => HNX.out 8 _ _ _ (by decide) ⟨2, 1, 1, 0, 0, _, _, _, _, _, _, _, _, _, rfl, by decide, .inr (.inr (.inr (.inr (.inr (.inr (.inr (.inr (.inr (.inr (.inr (.inl ⟨rfl, rfl, rfl, rfl, rfl, by decide +kernel⟩))))))))))), TN, Lib.hid (fun h => by cases h), Lib.hid (fun h => by omega), Lib.hid (fun h => by cases h)⟩)
          · obtain rfl : n = 9 := by omega
            have z3 := HX1.out _ TRI.out.k
            refine wpAnyH_ready (rs := [1, 9, 10]) (by decide +kernel) (by simp) ?_
            refine AllReadyH.cons (by simp only [List.getElem?_toArray, List.getElem?_cons_succ, List.getElem?_cons_zero]; exact rfl) (fun K hK => ?_) (AllReadyH.cons (by simp only [List.getElem?_toArray, List.getElem?_cons_succ, List.getElem?_cons_zero]; exact rfl) (fun K hK => ?_) (AllReadyH.cons (by simp only [List.getElem?_toArray, List.getElem?_cons_succ, List.getElem?_cons_zero]; exact rfl) (fun K hK => ?_) AllReadyH.nil))
            · go_simp
              have TN := TRI
              refine hK.out _ _ (HS7.out _ TN.out.k) (fun hH => HNX.out 8 _ _ _ (by decide) ⟨2, 1, 0, 0, 1, _, _, _, _, _, _, _, _, _, rfl, by decide, .inr (.inr (.inr (.inr (.inr (.inr (.inr (.inr (.inr (.inr (.inr (.inr (.inr (.inr (.inr (.inr (.inr (.inr (.inr (.inr (.inr (.inr (.inr (.inr (.inr (.inl ⟨rfl, rfl, rfl, rfl, rfl, by decide +kernel⟩))))))))))))))))))))))))), TN, Lib.hid (fun _ => rfl), Lib.hid (fun h => by omega), Lib.hid (fun h => by cases h)⟩)
            · refine step_app_reads _ lo rfl (.tmp 57) (.tmp 59) 44 37 _ 3 40 rfl und44c info37 rfl (by decide) x57 0 [] rfl (fun b => b < wo.heap.size) bA n2 bc (mts bl) rfl (reads_keepB RB2.out (by decide) (HLO.out ▸ KR.out.size) TRI.out.k) (mts_one bl) (TRI.out.b.1 rfl) TRI.out.s (by omega) (by omega) ?_
              intro v1 w8 hO hG hat
              have TN := Lib.hid (TRI.out.b1' (v1 := v1) (w1 := w8) (show w8.ownsRow lo 37 3 v1 n2 (mts bl) by simpa using hO) hG hat)
              refine hK.out _ _ (HS7.out _ TN.out.k) (fun hH => HNX.out 8 _ _ _ (by decide) ⟨2, 2, 0, 0, 0, _, _, _, _, _, _, _, _, _, rfl, by decide, .inr (.inr (.inr (.inr (.inr (.inr (.inr (.inr (.inr (.inr (.inr (.inr (.inl ⟨rfl, rfl, rfl, rfl, rfl, by decide +kernel⟩)))))))))))), TN, Lib.hid (fun h => by cases h), Lib.hid (fun h => by omega), Lib.hid (fun h => by cases h)⟩)
            · go_simp
              have TN := Lib.hid TRI.out.c0
              refine hK.out _ _ (HS7.out _ TN.out.k) (fun hH => HNX.out 8 _ _ _ (by decide) ⟨2, 1, 1, 0, 0, _, _, _, _, _, _, _, _, _, rfl, by decide, .inr (.inr (.inr (.inr (.inr (.inr (.inr (.inr (.inr (.inr (.inr (.inl ⟨rfl, rfl, rfl, rfl, rfl, by decide +kernel⟩))))))))))), TN, Lib.hid (fun h => by cases h), Lib.hid (fun h => by omega), Lib.hid (fun h => by cases h)⟩)
          · obtain rfl : n = 8 := by omega
            have z3 := HX1.out _ TRI.out.k
            refine wpAnyH_ready (rs := [1, 9]) (by decide +kernel) (by simp) ?_
            refine AllReadyH.cons (by simp only [List.getElem?_toArray, List.getElem?_cons_succ, List.getElem?_cons_zero]; exact rfl) (fun K hK => ?_) (AllReadyH.cons (by simp only [List.getElem?_toArray, List.getElem?_cons_succ, List.getElem?_cons_zero]; exact rfl) (fun K hK => ?_) AllReadyH.nil)
            · go_simp
              have TN := TRI
              refine hK.out _ _ (HS7.out _ TN.out.k) (fun hH => HNX.out 7 _ _ _ (by decide) ⟨2, 1, 1, 0, 1, _, _, _, _, _, _, _, _, _, rfl, by decide, .inr (.inr (.inr (.inr (.inr (.inr (.inr (.inr (.inr (.inr (.inr (.inr (.inr (.inr (.inr (.inr (.inr (.inr (.inr (.inr (.inr (.inr (.inr (.inr (.inr (.inr (.inl ⟨rfl, rfl, rfl, rfl, rfl, by decide +kernel⟩)))))))))))))))))))))))))), TN, Lib.hid (fun _ => rfl), Lib.hid (fun h => by omega), Lib.hid (fun h => by cases h)⟩)
            · refine step_app_reads _ lo rfl (.tmp 57) (.tmp 59) 44 37 _ 3 40 rfl und44c info37 rfl (by decide) x57 0 [] rfl (fun b => b < wo.heap.size) bA n2 bc (mts bl) rfl (reads_keepB RB2.out (by decide) (HLO.out ▸ KR.out.size) TRI.out.k) (mts_one bl) (TRI.out.b.1 rfl) TRI.out.s (by omega) (by omega) ?_
              intro v1 w8 hO hG hat
              have TN := Lib.hid (TRI.out.b1' (v1 := v1) (w1 := w8) (show w8.ownsRow lo 37 3 v1 n2 (mts bl) by simpa using hO) hG hat)
              refine hK.out _ _ (HS7.out _ TN.out.k) (fun hH => HNX.out 7 _ _ _ (by decide) ⟨2, 2, 1, 0, 0, _, _, _, _, _, _, _, _, _, rfl, by decide, .inr (.inr (.inr (.inr (.inr (.inr (.inr (.inr (.inr (.inr (.inr (.inr (.inr (.inl ⟨rfl, rfl, rfl, rfl, rfl, by decide +kernel⟩))))))))))))), TN, Lib.hid (fun h => by cases h), Lib.hid (fun h => by omega), Lib.hid (fun h => by cases h)⟩)
          · obtain rfl : n = 8 := by omega
            have z3 := HX1.out _ TRI.out.k
            refine wpAnyH_ready (rs := [1, 10]) (by decide +kernel) (by simp) ?_
            refine AllReadyH.cons (by simp only [List.getElem?_toArray, List.getElem?_cons_succ, List.getElem?_cons_zero]; exact rfl) (fun K hK => ?_) (AllReadyH.cons (by simp only [List.getElem?_toArray, List.getElem?_cons_succ, List.getElem?_cons_zero]; exact rfl) (fun K hK => ?_) AllReadyH.nil)
            · go_simp
              have TN := TRI
              refine hK.out _ _ (HS7.out _ TN.out.k) (fun hH => HNX.out 7 _ _ _ (by decide) ⟨2, 2, 0, 0, 1, _, _, _, _, _, _, _, _, _, rfl, by decide, .inr (.inr (.inr (.inr (.inr (.inr (.inr (.inr (.inr (.inr (.inr (.inr (.inr (.inr (.inr (.inr (.inr (.inr (.inr (.inr (.inr (.inr (.inr (.inr (.inr (.inr (.inr (.inl ⟨rfl, rfl, rfl, rfl, rfl, by decide +kernel⟩))))))))))))))))))))))))))), TN, Lib.hid (fun _ => rfl), Lib.hid (fun h => by omega), Lib.hid (fun h => by cases h)⟩)
            · go_simp
              have TN := Lib.hid TRI.out.c0
              refine hK.out _ _ (HS7.out _ TN.out.k) (fun hH => HNX.out 7 _ _ _ (by decide) ⟨2, 2, 1, 0, 0, _, _, _, _, _, _, _, _, _, rfl, by decide, .inr (.inr (.inr (.inr (.inr (.inr (.inr (.inr (.inr (.inr (.inr (.inr (.inr (.inl ⟨rfl, rfl, rfl, rfl, rfl, by decide +kernel⟩))))))))))))), TN, Lib.hid (fun h => by cases h), Lib.hid (fun h => by omega), Lib.hid (fun h => by cases h)⟩)
          · obtain rfl : n = 7 := by omega
            have z3 := HX1.out _ TRI.out.k
            refine wpAnyH_ready (rs := [1, 13]) (by decide +kernel) (by simp) ?_
            refine AllReadyH.cons (by simp only [List.getElem?_toArray, List.getElem?_cons_succ, List.getElem?_cons_zero]; exact rfl) (fun K hK => ?_) (AllReadyH.cons (by simp only [List.getElem?_toArray, List.getElem?_cons_succ, List.getElem?_cons_zero]; exact rfl) (fun K hK => ?_) AllReadyH.nil)
            · go_simp
              have TN := TRI
              refine hK.out _ _ (HS7.out _ TN.out.k) (fun hH => HNX.out 6 _ _ _ (by decide) ⟨2, 2, 1, 0, 1, _, _, _, _, _, _, _, _, _, rfl, by decide, .inr (.inr (.inr (.inr (.inr (.inr (.inr (.inr (.inr (.inr (.inr (.inr (.inr (.inr (.inr (.inr (.inr (.inr (.inr (.inr (.inr (.inr (.inr (.inr (.inr (.inr (.inr (.inr (.inl ⟨rfl, rfl, rfl, rfl, rfl, by decide +kernel⟩)))))))))))))))))))))))))))), TN, Lib.hid (fun _ => rfl), Lib.hid (fun h => by omega), Lib.hid (fun h => by cases h)⟩)
            · refine step_app_reads _ lo rfl (.tmp 61) (.tmp 63) 45 9 _ 1 16 rfl und45c info9 rfl (by decide) x61 0 [] rfl (fun b => b < wo.heap.size) eA n3 ec (el.flatMap tx) rfl (reads_keepB RE2.out (by decide) (HLO.out ▸ KR.out.size) TRI.out.k) (tx_one el) (TRI.out.c.1 rfl) TRI.out.s (by omega) (by omega) ?_
              intro v1 w8 hO hG hat
              have TN := Lib.hid (TRI.out.c1' (v1 := v1) (w1 := w8) (show w8.ownsRow lo 9 1 v1 n3 (el.flatMap tx) by simpa using hO) hG hat)
              refine hK.out _ _ (HS7.out _ TN.out.k) (fun hH => HNX.out 6 _ _ _ (by decide) ⟨2, 2, 2, 0, 0, _, _, _, _, _, _, _, _, _, rfl, by decide, .inr (.inr (.inr (.inr (.inr (.inr (.inr (.inr (.inr (.inr (.inr (.inr (.inr (.inr (.inl ⟨rfl, rfl, rfl, rfl, rfl, by decide +kernel⟩)))))))))))))), TN, Lib.hid (fun h => by cases h), Lib.hid (fun h => by omega), Lib.hid (fun h => by cases h)⟩)
          · obtain rfl : n = 6 := by omega
            obtain ⟨A7, k7, rfl⟩ := own_slice (TRI.out.a.2 rfl)
            obtain ⟨A8, k8, rfl⟩ := own_slice (TRI.out.b.2 rfl)
            obtain ⟨A9, k9, rfl⟩ := own_slice (TRI.out.c.2 rfl)
            have hHeld9 := HS7.out _ TRI.out.k
            refine wpAnyH_take (i := 14) (v := ?_) (by simp only [List.getElem?_toArray, List.getElem?_cons_succ, List.getElem?_cons_zero]; exact rfl) (by decide +kernel) (by decide +kernel) (by decide +kernel) (by exact fun _ _ _ h => h) (Or.inl ⟨by rfl, ?_⟩) (by assumption) ?_
            rotate_left
            · (intro w hSw; (try dsimp only at hSw); go_simp; try with_reducible rfl)
            try simp only [Act.put, List.setIfInBounds_toArray, List.set_cons_zero, List.set_cons_succ]
            clear hHeld9
            have TN := TRI
            exact HNX.out 5 _ _ _ (by decide) ⟨2, 2, 2, 1, 0, _, _, _, _, _, _, _, _, _, rfl, by decide, .inr (.inr (.inr (.inr (.inr (.inr (.inr (.inr (.inr (.inr (.inr (.inr (.inr (.inr (.inr (.inr (.inr (.inr (.inr (.inr (.inr (.inr (.inr (.inr (.inr (.inr (.inr (.inr (.inr (.inr (.inl ⟨rfl, rfl, rfl, rfl, rfl, by decide +kernel⟩)))))))))))))))))))))))))))))), TN, Lib.hid (fun h => by cases h), Lib.hid (fun _ => rfl), Lib.hid (fun h => by cases h)⟩
          · obtain rfl : n = 11 := by omega
            refine wpAnyH_ready (rs := [2, 6, 10]) (by decide +kernel) (by simp) ?_
            refine AllReadyH.cons (by simp only [List.getElem?_toArray, List.getElem?_cons_succ, List.getElem?_cons_zero]; exact rfl) (fun K hK => ?_) (AllReadyH.cons (by simp only [List.getElem?_toArray, List.getElem?_cons_succ, List.getElem?_cons_zero]; exact rfl) (fun K hK => ?_) (AllReadyH.cons (by simp only [List.getElem?_toArray, List.getElem?_cons_succ, List.getElem?_cons_zero]; exact rfl) (fun K hK => ?_) AllReadyH.nil))
            · go_simp
              have TN := Lib.hid TRI.out.a0
              refine hK.out _ _ (HS7.out _ TN.out.k) (fun hH => HNX.out 10 _ _ _ (by decide) ⟨1, 0, 0, 0, 1, _, _, _, _, _, _, _, _, _, rfl, by decide, .inr (.inr (.inr (.inr (.inr (.inr (.inr (.inr (.inr (.inr (.inr (.inr (.inr (.inr (.inr (.inr (.inr (.inr (.inr (.inl ⟨rfl, rfl, rfl, rfl, rfl, by decide +kernel⟩))))))))))))))))))), TN, HX, Lib.hid (fun h => by omega), Lib.hid (fun h => by cases h)⟩)
            · go_simp
              have TN := Lib.hid TRI.out.b0
              refine hK.out _ _ (HS7.out _ TN.out.k) (fun hH => HNX.out 10 _ _ _ (by decide) ⟨0, 1, 0, 0, 1, _, _, _, _, _, _, _, _, _, rfl, by decide, .inr (.inr (.inr (.inr (.inr (.inr (.inr (.inr (.inr (.inr (.inr (.inr (.inr (.inr (.inr (.inr (.inr (.inl ⟨rfl, rfl, rfl, rfl, rfl, by decide +kernel⟩))))))))))))))))), TN, HX, Lib.hid (fun h => by omega), Lib.hid (fun h => by cases h)⟩)
            · go_simp
              have TN := Lib.hid TRI.out.c0
              refine hK.out _ _ (HS7.out _ TN.out.k) (fun hH => HNX.out 10 _ _ _ (by decide) ⟨0, 0, 1, 0, 1, _, _, _, _, _, _, _, _, _, rfl, by decide, .inr (.inr (.inr (.inr (.inr (.inr (.inr (.inr (.inr (.inr (.inr (.inr (.inr (.inr (.inr (.inr (.inl ⟨rfl, rfl, rfl, rfl, rfl, by decide +kernel⟩)))))))))))))))), TN, HX, Lib.hid (fun h => by omega), Lib.hid (fun h => by cases h)⟩)
          · obtain rfl : n = 10 := by omega
            refine wpAnyH_ready (rs := [2, 6]) (by decide +kernel) (by simp) ?_
            refine AllReadyH.cons (by simp only [List.getElem?_toArray, List.getElem?_cons_succ, List.getElem?_cons_zero]; exact rfl) (fun K hK => ?_) (AllReadyH.cons (by simp only [List.getElem?_toArray, List.getElem?_cons_succ, List.getElem?_cons_zero]; exact rfl) (fun K hK => ?_) AllReadyH.nil)
            · go_simp
              have TN := Lib.hid TRI.out.a0
              refine hK.out _ _ (HS7.out _ TN.out.k) (fun hH => HNX.out 9 _ _ _ (by decide) ⟨1, 0, 1, 0, 1, _, _, _, _, _, _, _, _, _, rfl, by decide, .inr (.inr (.inr (.inr (.inr (.inr (.inr (.inr (.inr (.inr (.inr (.inr (.inr (.inr (.inr (.inr (.inr (.inr (.inr (.inr (.inl ⟨rfl, rfl, rfl, rfl, rfl, by decide +kernel⟩)))))))))))))))))))), TN, HX, Lib.hid (fun h => by omega), Lib.hid (fun h => by cases h)⟩)
            · go_simp
              have TN := Lib.hid TRI.out.b0
              refine hK.out _ _ (HS7.out _ TN.out.k) (fun hH => HNX.out 9 _ _ _ (by decide) ⟨0, 1, 1, 0, 1, _, _, _, _, _, _, _, _, _, rfl, by decide, .inr (.inr (.inr (.inr (.inr (.inr (.inr (.inr (.inr (.inr (.inr (.inr (.inr (.inr (.inr (.inr (.inr (.inr (.inl ⟨rfl, rfl, rfl, rfl, rfl, by decide +kernel⟩)))))))))))))))))), TN, HX, Lib.hid (fun h => by omega), Lib.hid (fun h => by cases h)⟩)
          · obtain rfl : n = 10 := by omega
            refine wpAnyH_ready (rs := [2, 10]) (by decide +kernel) (by simp) ?_
            refine AllReadyH.cons (by simp only [List.getElem?_toArray, List.getElem?_cons_succ, List.getElem?_cons_zero]; exact rfl) (fun K hK => ?_) (AllReadyH.cons (by simp only [List.getElem?_toArray, List.getElem?_cons_succ, List.getElem?_cons_zero]; exact rfl) (fun K hK => ?_) AllReadyH.nil)
            · go_simp
              have TN := Lib.hid TRI.out.a0
              refine hK.out _ _ (HS7.out _ TN.out.k) (fun hH => HNX.out 9 _ _ _ (by decide) ⟨1, 1, 0, 0, 1, _, _, _, _, _, _, _, _, _, rfl, by decide, .inr (.inr (.inr (.inr (.inr (.inr (.inr (.inr (.inr (.inr (.inr (.inr (.inr (.inr (.inr (.inr (.inr (.inr (.inr (.inr (.inr (.inl ⟨rfl, rfl, rfl, rfl, rfl, by decide +kernel⟩))))))))))))))))))))), TN, HX, Lib.hid (fun h => by omega), Lib.hid (fun h => by cases h)⟩)
            · go_simp
              have TN := Lib.hid TRI.out.c0
              refine hK.out _ _ (HS7.out _ TN.out.k) (fun hH => HNX.out 9 _ _ _ (by decide) ⟨0, 1, 1, 0, 1, _, _, _, _, _, _, _, _, _, rfl, by decide, .inr (.inr (.inr (.inr (.inr (.inr (.inr (.inr (.inr (.inr (.inr (.inr (.inr (.inr (.inr (.inr (.inr (.inr (.inl ⟨rfl, rfl, rfl, rfl, rfl, by decide +kernel⟩)))))))))))))))))), TN, HX, Lib.hid (fun h => by omega), Lib.hid (fun h => by cases h)⟩)
          · obtain rfl : n = 9 := by omega
            refine wpAnyH_ready (rs := [2]) (by decide +kernel) (by simp) ?_
            refine AllReadyH.cons (by simp only [List.getElem?_toArray, List.getElem?_cons_succ, List.getElem?_cons_zero]; exact rfl) (fun K hK => ?_) AllReadyH.nil
            · go_simp
              have TN := Lib.hid TRI.out.a0
              refine hK.out _ _ (HS7.out _ TN.out.k) (fun hH => HNX.out 8 _ _ _ (by decide) ⟨1, 1, 1, 0, 1, _, _, _, _, _, _, _, _, _, rfl, by decide, .inr (.inr (.inr (.inr (.inr (.inr (.inr (.inr (.inr (.inr (.inr (.inr (.inr (.inr (.inr (.inr (.inr (.inr (.inr (.inr (.inr (.inr (.inl ⟨rfl, rfl, rfl, rfl, rfl, by decide +kernel⟩)))))))))))))))))))))), TN, HX, Lib.hid (fun h => by omega), Lib.hid (fun h => by cases h)⟩)
          · obtain rfl : n = 10 := by omega
            refine wpAnyH_ready (rs := [5, 6, 10]) (by decide +kernel) (by simp) ?_
            refine AllReadyH.cons (by simp only [List.getElem?_toArray, List.getElem?_cons_succ, List.getElem?_cons_zero]; exact rfl) (fun K hK => ?_) (AllReadyH.cons (by simp only [List.getElem?_toArray, List.getElem?_cons_succ, List.getElem?_cons_zero]; exact rfl) (fun K hK => ?_) (AllReadyH.cons (by simp only [List.getElem?_toArray, List.getElem?_cons_succ, List.getElem?_cons_zero]; exact rfl) (fun K hK => ?_) AllReadyH.nil))
            · refine step_app_reads _ lo rfl (.tmp 53) (.tmp 55) 44 37 _ 3 40 rfl und44c info37 rfl (by decide) x53 0 [] rfl (fun b => b < wo.heap.size) aA n1 ac (mts al) rfl (reads_keepB RA2.out (by decide) (HLO.out ▸ KR.out.size) TRI.out.k) (mts_one al) (TRI.out.a.1 rfl) TRI.out.s (by omega) (by omega) ?_
              intro v1 w8 hO hG hat
              have TN := Lib.hid (TRI.out.a1' (v1 := v1) (w1 := w8) (show w8.ownsRow lo 37 3 v1 n1 (mts al) by simpa using hO) hG hat)
              refine hK.out _ _ (HS7.out _ TN.out.k) (fun hH => HNX.out 9 _ _ _ (by decide) ⟨2, 0, 0, 0, 1, _, _, _, _, _, _, _, _, _, rfl, by decide, .inr (.inr (.inr (.inr (.inr (.inr (.inr (.inr (.inr (.inr (.inr (.inr (.inr (.inr (.inr (.inr (.inr (.inr (.inr (.inr (.inr (.inr (.inr (.inl ⟨rfl, rfl, rfl, rfl, rfl, by decide +kernel⟩))))))))))))))))))))))), TN, HX, Lib.hid (fun h => by omega), Lib.hid (fun h => by cases h)⟩)
            · go_simp
              have TN := Lib.hid TRI.out.b0
              refine hK.out _ _ (HS7.out _ TN.out.k) (fun hH => HNX.out 9 _ _ _ (by decide) ⟨1, 1, 0, 0, 1, _, _, _, _, _, _, _, _, _, rfl, by decide, .inr (.inr (.inr (.inr (.inr (.inr (.inr (.inr (.inr (.inr (.inr (.inr (.inr (.inr (.inr (.inr (.inr (.inr (.inr (.inr (.inr (.inl ⟨rfl, rfl, rfl, rfl, rfl, by decide +kernel⟩))))))))))))))))))))), TN, HX, Lib.hid (fun h => by omega), Lib.hid (fun h => by cases h)⟩)
            · go_simp
              have TN := Lib.hid TRI.out.c0
              refine hK.out _ _ (HS7.out _ TN.out.k) (fun hH => HNX.out 9 _ _ _ (by decide) ⟨1, 0, 1, 0, 1, _, _, _, _, _, _, _, _, _, rfl, by decide, .inr (.inr (.inr (.inr (.inr (.inr (.inr (.inr (.inr (.inr (.inr (.inr (.inr (.inr (.inr (.inr (.inr (.inr (.inr (.inr (.inl ⟨rfl, rfl, rfl, rfl, rfl, by decide +kernel⟩)))))))))))))))))))), TN, HX, Lib.hid (fun h => by omega), Lib.hid (fun h => by cases h)⟩)
          · obtain rfl : n = 9 := by omega
            refine wpAnyH_ready (rs := [5, 6]) (by decide +kernel) (by simp) ?_
            refine AllReadyH.cons (by simp only [List.getElem?_toArray, List.getElem?_cons_succ, List.getElem?_cons_zero]; exact rfl) (fun K hK => ?_) (AllReadyH.cons (by simp only [List.getElem?_toArray, List.getElem?_cons_succ, List.getElem?_cons_zero]; exact rfl) (fun K hK => ?_) AllReadyH.nil)
            · refine step_app_reads _ lo rfl (.tmp 53) (.tmp 55) 44 37 _ 3 40 rfl und44c info37 rfl (by decide) x53 0 [] rfl (fun b => b < wo.heap.size) aA n1 ac (mts al) rfl (reads_keepB RA2.out (by decide) (HLO.out ▸ KR.out.size) TRI.out.k) (mts_one al) (TRI.out.a.1 rfl) TRI.out.s (by omega) (by omega) ?_
              intro v1 w8 hO hG hat
              have TN := Lib.hid (TRI.out.a1' (v1 := v1) (w1 := w8) (show w8.ownsRow lo 37 3 v1 n1 (mts al) by simpa using hO) hG hat)
              refine hK.out _ _ (HS7.out _ TN.out.k) (fun hH => HNX.out 8 _ _ _ (by decide) ⟨2, 0, 1, 0, 1, _, _, _, _, _, _, _, _, _, rfl, by decide, .inr (.inr (.inr (.inr (.inr (.inr (.inr (.inr (.inr (.inr (.inr (.inr (.inr (.inr (.inr (.inr (.inr (.inr (.inr (.inr (.inr (.inr (.inr (.inr (.inl ⟨rfl, rfl, rfl, rfl, rfl, by decide +kernel⟩)))))))))))))))))))))))), TN, HX, Lib.hid (fun h => by omega), Lib.hid (fun h => by cases h)⟩)
            · go_simp
              have TN := Lib.hid TRI.out.b0
              refine hK.out _ _ (HS7.out _ TN.out.k) (fun hH => HNX.out 8 _ _ _ (by decide) ⟨1, 1, 1, 0, 1, _, _, _, _, _, _, _, _, _, rfl, by decide, .inr (.inr (.inr (.inr (.inr (.inr (.inr (.inr (.inr (.inr (.inr (.inr (.inr (.inr (.inr (.inr (.inr (.inr (.inr (.inr (.inr (.inr (.inl ⟨rfl, rfl, rfl, rfl, rfl, by decide +kernel⟩)))))))))))))))))))))), TN, HX, Lib.hid (fun h => by omega), Lib.hid (fun h => by cases h)⟩)
          · obtain rfl : n = 9 := by omega
            refine wpAnyH_ready (rs := [5, 10]) (by decide +kernel) (by simp) ?_
            refine AllReadyH.cons (by simp only [List.getElem?_toArray, List.getElem?_cons_succ, List.getElem?_cons_zero]; exact rfl) (fun K hK => ?_) (AllReadyH.cons (by simp only [List.getElem?_toArray, List.getElem?_cons_succ, List.getElem?_cons_zero]; exact rfl) (fun K hK => ?_) AllReadyH.nil)
            · refine step_app_reads _ lo rfl (.tmp 53) (.tmp 55) 44 37 _ 3 40 rfl und44c info37 rfl (by decide) x53 0 [] rfl (fun b => b < wo.heap.size) aA n1 ac (mts al) rfl (reads_keepB RA2.out (by decide) (HLO.out ▸ KR.out.size) TRI.out.k) (mts_one al) (TRI.out.a.1 rfl) TRI.out.s (by omega) (by omega) ?_
              intro v1 w8 hO hG hat
              have TN := Lib.hid (TRI.out.a1' (v1 := v1) (w1 := w8) (show w8.ownsRow lo 37 3 v1 n1 (mts al) by simpa using hO) hG hat)
              refine hK.out _ _ (HS7.out _ TN.out.k) (fun hH => HNX.out 8 _ _ _ (by decide) ⟨2, 1, 0, 0, 1, _, _, _, _, _, _, _, _, _, rfl, by decide, .inr (.inr (.inr (.inr (.inr (.inr (.inr (.inr (.inr (.inr (.inr (.inr (.inr (.inr (.inr (.inr (.inr (.inr (.inr (.inr (.inr (.inr (.inr (.inr (.inr (.inl ⟨rfl, rfl, rfl, rfl, rfl, by decide +kernel⟩))))))))))))))))))))))))), TN, HX, Lib.hid (fun h => by omega), Lib.hid (fun h => by cases h)⟩)
            · go_simp
              have TN := Lib.hid TRI.out.c0
              refine hK.out _ _ (HS7.out _ TN.out.k) (fun hH => HNX.out 8 _ _ _ (by decide) ⟨1, 1, 1, 0, 1, _, _, _, _, _, _, _, _, _, rfl, by decide, .inr (.inr (.inr (.inr (.inr (.inr (.inr (.inr (.inr (.inr (.inr (.inr (.inr (.inr (.inr (.inr (.inr (.inr (.inr (.inr (.inr (.inr (.inl ⟨rfl, rfl, rfl, rfl, rfl, by decide +kernel⟩)))))))))))))))))))))), TN, HX, Lib.hid (fun h => by omega), Lib.hid (fun h => by cases h)⟩)
          · obtain rfl : n = 8 := by omega
            refine wpAnyH_ready (rs := [5]) (by decide +kernel) (by simp) ?_
            refine AllReadyH.cons (by simp only [List.getElem?_toArray, List.getElem?_cons_succ, List.getElem?_cons_zero]; exact rfl) (fun K hK => ?_) AllReadyH.nil
            · refine step_app_reads _ lo rfl (.tmp 53) (.tmp 55) 44 37 _ 3 40 rfl und44c info37 rfl (by decide) x53 0 [] rfl (fun b => b < wo.heap.size) aA n1 ac (mts al) rfl (reads_keepB RA2.out (by decide) (HLO.out ▸ KR.out.size) TRI.out.k) (mts_one al) (TRI.out.a.1 rfl) TRI.out.s (by omega) (by omega) ?_
              intro v1 w8 hO hG hat
              have TN := Lib.hid (TRI.out.a1' (v1 := v1) (w1 := w8) (show w8.ownsRow lo 37 3 v1 n1 (mts al) by simpa using hO) hG hat)
              refine hK.out _ _ (HS7.out _ TN.out.k) (fun hH => HNX.out 7 _ _ _ (by decide) ⟨2, 1, 1, 0, 1, _, _, _, _, _, _, _, _, _, rfl, by decide, .inr (.inr (.inr (.inr (.inr (.inr (.inr (.inr (.inr (.inr (.inr (.inr (.inr (.inr (.inr (.inr (.inr (.inr (.inr (.inr (.inr (.inr (.inr (.inr (.inr (.inr (.inl ⟨rfl, rfl, rfl, rfl, rfl, by decide +kernel⟩)))))))))))))))))))))))))), TN, HX, Lib.hid (fun h => by omega), Lib.hid (fun h => by cases h)⟩)
          · obtain rfl : n = 9 := by omega
            refine wpAnyH_ready (rs := [6, 10]) (by decide +kernel) (by simp) ?_
            refine AllReadyH.cons (by simp only [List.getElem?_toArray, List.getElem?_cons_succ, List.getElem?_cons_zero]; exact rfl) (fun K hK => ?_) (AllReadyH.cons (by simp only [List.getElem?_toArray, List.getElem?_cons_succ, List.getElem?_cons_zero]; exact rfl) (fun K hK => ?_) AllReadyH.nil)
            · go_simp
              have TN := Lib.hid TRI.out.b0
              refine hK.out _ _ (HS7.out _ TN.out.k) (fun hH => HNX.out 8 _ _ _ (by decide) ⟨2, 1, 0, 0, 1, _, _, _, _, _, _, _, _, _, rfl, by decide, .inr (.inr (.inr (.inr (.inr (.inr (.inr (.inr (.inr (.inr (.inr (.inr (.inr (.inr (.inr (.inr (.inr (.inr (.inr (.inr (.inr (.inr (.inr (.inr (.inr (.inl ⟨rfl, rfl, rfl, rfl, rfl, by decide +kernel⟩))))))))))))))))))))))))), TN, HX, Lib.hid (fun h => by omega), Lib.hid (fun h => by cases h)⟩)
            · go_simp
              have TN := Lib.hid TRI.out.c0
              refine hK.out _ _ (HS7.out _ TN.out.k) (fun hH => HNX.out 8 _ _ _ (by decide) ⟨2, 0, 1, 0, 1, _, _, _, _, _, _, _, _, _, rfl, by decide, .inr (.inr (.inr (.inr (.inr (.inr (.inr (.inr (.inr (.inr (.inr (.inr (.inr (.inr (.inr (.inr (.inr (.inr (.inr (.inr (.inr (.inr (.inr (.inr (.inl ⟨rfl, rfl, rfl, rfl, rfl, by decide +kernel⟩)))))))))))))))))))))))), TN, HX, Lib.hid (fun h => by omega), Lib.hid (fun h => by cases h)⟩)
          · obtain rfl : n = 8 := by omega
            refine wpAnyH_ready (rs := [6]) (by decide +kernel) (by simp) ?_
            refine AllReadyH.cons (by simp only [List.getElem?_toArray, List.getElem?_cons_succ, List.getElem?_cons_zero]; exact rfl) (fun K hK => ?_) AllReadyH.nil
            · go_simp
              have TN := Lib.hid TRI.out.b0
              refine hK.out _ _ (HS7.out _ TN.out.k) (fun hH => HNX.out 7 _ _ _ (by decide) ⟨2, 1, 1, 0, 1, _, _, _, _, _, _, _, _, _, rfl, by decide, .inr (.inr (.inr (.inr (.inr (.inr (.inr (.inr (.inr (.inr (.inr (.inr (.inr (.inr (.inr (.inr (.inr (.inr (.inr (.inr (.inr (.inr (.inr (.inr (.inr (.inr (.inl ⟨rfl, rfl, rfl, rfl, rfl, by decide +kernel⟩)))))))))))))))))))))))))), TN, HX, Lib.hid (fun h => by omega), Lib.hid (fun h => by cases h)⟩)
          · obtain rfl : n = 8 := by omega
            refine wpAnyH_ready (rs := [9, 10]) (by decide +kernel) (by simp) ?_
            refine AllReadyH.cons (by simp only [List.getElem?_toArray, List.getElem?_cons_succ, List.getElem?_cons_zero]; exact rfl) (fun K hK => ?_) (AllReadyH.cons (by simp only [List.getElem?_toArray, List.getElem?_cons_succ, List.getElem?_cons_zero]; exact rfl) (fun K hK => ?_) AllReadyH.nil)
            · refine step_app_reads _ lo rfl (.tmp 57) (.tmp 59) 44 37 _ 3 40 rfl und44c info37 rfl (by decide) x57 0 [] rfl (fun b => b < wo.heap.size) bA n2 bc (mts bl) rfl (reads_keepB RB2.out (by decide) (HLO.out ▸ KR.out.size) TRI.out.k) (mts_one bl) (TRI.out.b.1 rfl) TRI.out.s (by omega) (by omega) ?_
              intro v1 w8 hO hG hat
              have TN := Lib.hid (TRI.out.b1' (v1 := v1) (w1 := w8) (show w8.ownsRow lo 37 3 v1 n2 (mts bl) by simpa using hO) hG hat)
              refine hK.out _ _ (HS7.out _ TN.out.k) (fun hH => HNX.out 7 _ _ _ (by decide) ⟨2, 2, 0, 0, 1, _, _, _, _, _, _, _, _, _, rfl, by decide, .inr (.inr (.inr (.inr (.inr (.inr (.inr (.inr (.inr (.inr (.inr (.inr (.inr (.inr (.inr (.inr (.inr (.inr (.inr (.inr (.inr (.inr (.inr (.inr (.inr (.inr (.inr (.inl ⟨rfl, rfl, rfl, rfl, rfl, by decide +kernel⟩))))))))))))))))))))))))))), TN, HX, Lib.hid (fun h => by omega), Lib.hid (fun h => by cases h)⟩)
            · go_simp
              have TN := Lib.hid TRI.out.c0
              refine hK.out _ _ (HS7.out _ TN.out.k) (fun hH => HNX.out 7 _ _ _ (by decide) ⟨2, 1, 1, 0, 1, _, _, _, _, _, _, _, _, _, rfl, by decide, .inr (.inr (.inr (.inr (.inr (.inr (.inr (.inr (.inr (.inr (.inr (.inr (.inr (.inr (.inr (.inr (.inr (.inr (.inr (.inr (.inr (.inr (.inr (.inr (.inr (.inr (.inl ⟨rfl, rfl, rfl, rfl, rfl, by decide +kernel⟩)))))))))))))))))))))))))), TN, HX, Lib.hid (fun h => by omega), Lib.hid (fun h => by cases h)⟩)
          · obtain rfl : n = 7 := by omega
            refine wpAnyH_ready (rs := [9]) (by decide +kernel) (by simp) ?_
            refine AllReadyH.cons (by simp only [List.getElem?_toArray, List.getElem?_cons_succ, List.getElem?_cons_zero]; exact rfl) (fun K hK => ?_) AllReadyH.nil
            · refine step_app_reads _ lo rfl (.tmp 57) (.tmp 59) 44 37 _ 3 40 rfl und44c info37 rfl (by decide) x57 0 [] rfl (fun b => b < wo.heap.size) bA n2 bc (mts bl) rfl (reads_keepB RB2.out (by decide) (HLO.out ▸ KR.out.size) TRI.out.k) (mts_one bl) (TRI.out.b.1 rfl) TRI.out.s (by omega) (by omega) ?_
              intro v1 w8 hO hG hat
              have TN := Lib.hid (TRI.out.b1' (v1 := v1) (w1 := w8) (show w8.ownsRow lo 37 3 v1 n2 (mts bl) by simpa using hO) hG hat)
              refine hK.out _ _ (HS7.out _ TN.out.k) (fun hH => HNX.out 6 _ _ _ (by decide) ⟨2, 2, 1, 0, 1, _, _, _, _, _, _, _, _, _, rfl, by decide, .inr (.inr (.inr (.inr (.inr (.inr (.inr (.inr (.inr (.inr (.inr (.inr (.inr (.inr (.inr (.inr (.inr (.inr (.inr (.inr (.inr (.inr (.inr (.inr (.inr (.inr (.inr (.inr (.inl ⟨rfl, rfl, rfl, rfl, rfl, by decide +kernel⟩)))))))))))))))))))))))))))), TN, HX, Lib.hid (fun h => by omega), Lib.hid (fun h => by cases h)⟩)
          · obtain rfl : n = 7 := by omega
            refine wpAnyH_ready (rs := [10]) (by decide +kernel) (by simp) ?_
            refine AllReadyH.cons (by simp only [List.getElem?_toArray, List.getElem?_cons_succ, List.getElem?_cons_zero]; exact rfl) (fun K hK => ?_) AllReadyH.nil
            · go_simp
              have TN := Lib.hid TRI.out.c0
              refine hK.out _ _ (HS7.out _ TN.out.k) (fun hH => HNX.out 6 _ _ _ (by decide) ⟨2, 2, 1, 0, 1, _, _, _, _, _, _, _, _, _, rfl, by decide, .inr (.inr (.inr (.inr (.inr (.inr (.inr (.inr (.inr (.inr (.inr (.inr (.inr (.inr (.inr (.inr (.inr (.inr (.inr (.inr (.inr (.inr (.inr (.inr (.inr (.inr (.inr (.inr (.inl ⟨rfl, rfl, rfl, rfl, rfl, by decide +kernel⟩)))))))))))))))))))))))))))), TN, HX, Lib.hid (fun h => by omega), Lib.hid (fun h => by cases h)⟩)
          · obtain rfl : n = 6 := by omega
            refine wpAnyH_ready (rs := [13]) (by decide +kernel) (by simp) ?_
            refine AllReadyH.cons (by simp only [List.getElem?_toArray, List.getElem?_cons_succ, List.getElem?_cons_zero]; exact rfl) (fun K hK => ?_) AllReadyH.nil
            · refine step_app_reads _ lo rfl (.tmp 61) (.tmp 63) 45 9 _ 1 16 rfl und45c info9 rfl (by decide) x61 0 [] rfl (fun b => b < wo.heap.size) eA n3 ec (el.flatMap tx) rfl (reads_keepB RE2.out (by decide) (HLO.out ▸ KR.out.size) TRI.out.k) (tx_one el) (TRI.out.c.1 rfl) TRI.out.s (by omega) (by omega) ?_
              intro v1 w8 hO hG hat
              have TN := Lib.hid (TRI.out.c1' (v1 := v1) (w1 := w8) (show w8.ownsRow lo 9 1 v1 n3 (el.flatMap tx) by simpa using hO) hG hat)
              refine hK.out _ _ (HS7.out _ TN.out.k) (fun hH => HNX.out 5 _ _ _ (by decide) ⟨2, 2, 2, 0, 1, _, _, _, _, _, _, _, _, _, rfl, by decide, .inr (.inr (.inr (.inr (.inr (.inr (.inr (.inr (.inr (.inr (.inr (.inr (.inr (.inr (.inr (.inr (.inr (.inr (.inr (.inr (.inr (.inr (.inr (.inr (.inr (.inr (.inr (.inr (.inr (.inl ⟨rfl, rfl, rfl, rfl, rfl, by decide +kernel⟩))))))))))))))))))))))))))))), TN, HX, Lib.hid (fun h => by omega), Lib.hid (fun h => by cases h)⟩)
          · obtain rfl : n = 5 := by omega
            obtain ⟨A7, k7, rfl⟩ := own_slice (TRI.out.a.2 rfl)
            obtain ⟨A8, k8, rfl⟩ := own_slice (TRI.out.b.2 rfl)
            obtain ⟨A9, k9, rfl⟩ := own_slice (TRI.out.c.2 rfl)
            have hHeld9 := HS7.out _ TRI.out.k
            refine wpAnyH_take (i := 14) (v := ?_) (by simp only [List.getElem?_toArray, List.getElem?_cons_succ, List.getElem?_cons_zero]; exact rfl) (by decide +kernel) (by decide +kernel) (by decide +kernel) (by exact fun _ _ _ h => h) (Or.inl ⟨by rfl, ?_⟩) (by assumption) ?_
            rotate_left
            · (intro w hSw; (try dsimp only at hSw); go_simp; try with_reducible rfl)
            try simp only [Act.put, List.setIfInBounds_toArray, List.set_cons_zero, List.set_cons_succ]
            clear hHeld9
            have TN := TRI
            exact HNX.out 4 _ _ _ (by decide) ⟨2, 2, 2, 1, 1, _, _, _, _, _, _, _, _, _, rfl, by decide, .inr (.inr (.inr (.inr (.inr (.inr (.inr (.inr (.inr (.inr (.inr (.inr (.inr (.inr (.inr (.inr (.inr (.inr (.inr (.inr (.inr (.inr (.inr (.inr (.inr (.inr (.inr (.inr (.inr (.inr (.inr (.inl ⟨rfl, rfl, rfl, rfl, rfl, by decide +kernel⟩))))))))))))))))))))))))))))))), TN, HX, Lib.hid (fun _ => rfl), Lib.hid (fun h => by cases h)⟩
          · obtain rfl : n = 5 := by omega
            obtain rfl := HY.out (by decide)
            obtain ⟨A7, k7, rfl⟩ := own_slice (TRI.out.a.2 rfl)
            obtain ⟨A8, k8, rfl⟩ := own_slice (TRI.out.b.2 rfl)
            obtain ⟨A9, k9, rfl⟩ := own_slice (TRI.out.c.2 rfl)
            have z3 := HX1.out _ TRI.out.k
            refine wpAnyH_ready (rs := [1, 15]) (by decide +kernel) (by simp) ?_
            refine AllReadyH.cons (by simp only [List.getElem?_toArray, List.getElem?_cons_succ, List.getElem?_cons_zero]; exact rfl) (fun K hK => ?_) (AllReadyH.cons (by simp only [List.getElem?_toArray, List.getElem?_cons_succ, List.getElem?_cons_zero]; exact rfl) (fun K hK => ?_) AllReadyH.nil)
            · go_simp
              have TN := TRI
              refine hK.out _ _ (HS7.out _ TN.out.k) (fun hH => HNX.out 4 _ _ _ (by decide) ⟨2, 2, 2, 1, 1, _, _, _, _, _, _, _, _, _, rfl, by decide, .inr (.inr (.inr (.inr (.inr (.inr (.inr (.inr (.inr (.inr (.inr (.inr (.inr (.inr (.inr (.inr (.inr (.inr (.inr (.inr (.inr (.inr (.inr (.inr (.inr (.inr (.inr (.inr (.inr (.inr (.inr (.inl ⟨rfl, rfl, rfl, rfl, rfl, by decide +kernel⟩))))))))))))))))))))))))))))))), TN, Lib.hid (fun _ => rfl), Lib.hid (fun _ => rfl), Lib.hid (fun h => by cases h)⟩)
            · go_simp
              have TN := Lib.hid (TRI.out.alloc (.cells #[.slice A7 n1 k7, .slice A8 n2 k8, .slice A9 n3 k9] 47))
              refine hK.out _ _ (HS7.out _ TN.out.k) (fun hH => HNX.out 4 _ _ _ (by decide) ⟨2, 2, 2, 2, 0, _, _, _, _, _, _, _, _, _, rfl, by decide, .inr (.inr (.inr (.inr (.inr (.inr (.inr (.inr (.inr (.inr (.inr (.inr (.inr (.inr (.inr (.inr (.inr (.inr (.inr (.inr (.inr (.inr (.inr (.inr (.inr (.inr (.inr (.inr (.inr (.inr (.inr (.inr (.inl ⟨rfl, rfl, rfl, rfl, rfl, by decide +kernel⟩)))))))))))))))))))))))))))))))), TN, Lib.hid (fun h => by cases h), Lib.hid (fun _ => rfl), Lib.hid (fun _ => ⟨_, rfl, Blk.new _ _ _⟩)⟩)
          · obtain rfl : n = 4 := by omega
            obtain rfl := HY.out (by decide)
            obtain ⟨A7, k7, rfl⟩ := own_slice (TRI.out.a.2 rfl)
            obtain ⟨A8, k8, rfl⟩ := own_slice (TRI.out.b.2 rfl)
            obtain ⟨A9, k9, rfl⟩ := own_slice (TRI.out.c.2 rfl)
            refine wpAnyH_ready (rs := [15]) (by decide +kernel) (by simp) ?_
            refine AllReadyH.cons (by simp only [List.getElem?_toArray, List.getElem?_cons_succ, List.getElem?_cons_zero]; exact rfl) (fun K hK => ?_) AllReadyH.nil
            · go_simp
              have TN := Lib.hid (TRI.out.alloc (.cells #[.slice A7 n1 k7, .slice A8 n2 k8, .slice A9 n3 k9] 47))
              refine hK.out _ _ (HS7.out _ TN.out.k) (fun hH => HNX.out 3 _ _ _ (by decide) ⟨2, 2, 2, 2, 1, _, _, _, _, _, _, _, _, _, rfl, by decide, .inr (.inr (.inr (.inr (.inr (.inr (.inr (.inr (.inr (.inr (.inr (.inr (.inr (.inr (.inr (.inr (.inr (.inr (.inr (.inr (.inr (.inr (.inr (.inr (.inr (.inr (.inr (.inr (.inr (.inr (.inr (.inr (.inr (⟨rfl, rfl, rfl, rfl, rfl, by decide +kernel⟩))))))))))))))))))))))))))))))))), TN, HX, Lib.hid (fun _ => rfl), Lib.hid (fun _ => ⟨_, rfl, Blk.new _ _ _⟩)⟩)
          · obtain rfl : n = 4 := by omega
            have z3 := HX1.out _ TRI.out.k
            refine wpAnyH_ready (rs := [1]) (by decide +kernel) (by simp) ?_
            refine AllReadyH.cons (by simp only [List.getElem?_toArray, List.getElem?_cons_succ, List.getElem?_cons_zero]; exact rfl) (fun K hK => ?_) AllReadyH.nil
            · go_simp
              have TN := TRI
              refine hK.out _ _ (HS7.out _ TN.out.k) (fun hH => HNX.out 3 _ _ _ (by decide) ⟨2, 2, 2, 2, 1, _, _, _, _, _, _, _, _, _, rfl, by decide, .inr (.inr (.inr (.inr (.inr (.inr (.inr (.inr (.inr (.inr (.inr (.inr (.inr (.inr (.inr (.inr (.inr (.inr (.inr (.inr (.inr (.inr (.inr (.inr (.inr (.inr (.inr (.inr (.inr (.inr (.inr (.inr (.inr (⟨rfl, rfl, rfl, rfl, rfl, by decide +kernel⟩))))))))))))))))))))))))))))))))), TN, Lib.hid (fun _ => rfl), HY, HZ⟩)
          · obtain rfl : n = 3 := by omega
            obtain rfl := HY.out (by decide)
            obtain rfl := HX.out rfl
            obtain ⟨g, rfl, hB66⟩ := HZ.out rfl
            have O56 := Lib.hid (TRI.out.a.2 rfl)
            have O60 := Lib.hid (TRI.out.b.2 rfl)
            have O64 := Lib.hid (TRI.out.c.2 rfl)
            obtain ⟨A7, k7, rfl⟩ := own_slice O56.out
            obtain ⟨A8, k8, rfl⟩ := own_slice O60.out
            obtain ⟨A9, k9, rfl⟩ := own_slice O64.out
            have DY := Lib.hid (DX.out.below (HLO.out ▸ TRI.out.k))
            have HB66 := Lib.hid hB66
            clear hB66 HY HX HZ
            refine wpAnyH_ready (rs := [16]) (by decide +kernel) (by simp) ?_
            refine AllReadyH.cons (by simp only [List.getElem?_toArray, List.getElem?_cons_succ, List.getElem?_cons_zero]; exact rfl) (fun K hK => ?_) AllReadyH.nil
            refine step_app_reads _ base2 rfl (.tmp 52) (.tmp 66) 49 47 _ 3 72 rfl und49c info47 rfl (by decide) (.slice A6 j c6) j (l2.flatMap Rl.cells) rfl (fun _ => True) _ 1 _ [.slice A7 n1 k7, .slice A8 n2 k8, .slice A9 n3 k9] rfl (reads_blk HB66.out rfl rfl) (by intro u hu; simp at hu; rcases hu with rfl | rfl | rfl <;> rfl) DY.out.o6 DY.out.bs (by omega) (by omega) ?_
            intro v1 w8 hO hG hat
            obtain ⟨Av, kv, rfl⟩ := own_slice hO
            have HRL : Hid (Rl.Own ⟨⟨A7, k7, al⟩, ⟨A8, k8, bl⟩, ⟨A9, k9, el⟩⟩ w9 lo none) := Lib.hid (by
              obtain ⟨a1, d1, e1, h1, g1⟩ := own_reads O56.out (by decide)
              obtain ⟨a2, d2, e2, h2, g2⟩ := own_reads O60.out (by decide)
              obtain ⟨a3, d3, e3, h3, g3⟩ := own_reads O64.out (by decide)
              injection e1 with e1 _ f1
              injection e2 with e2 _ f2
              injection e3 with e3 _ f3
              subst e1 e2 e3 f1 f2 f3
              refine ⟨⟨?_, OA.out, ?_⟩, ⟨?_, OB.out, ?_⟩, ⟨?_, OE.out, ?_⟩⟩
              · show Reads w9 (OwnS w9 lo none) 3 A7 al.length (mts al)
                rw [HN1.out]
                exact g1.imp (fun b hb => ⟨hb.1, hb.2.1, by simp⟩)
              · show al.length ≤ k7
                rw [HN1.out]; exact h1
              · show Reads w9 (OwnS w9 lo none) 3 A8 bl.length (mts bl)
                rw [HN2.out]
                exact g2.imp (fun b hb => ⟨hb.1, hb.2.1, by simp⟩)
              · show bl.length ≤ k8
                rw [HN2.out]; exact h2
              · show Reads w9 (OwnS w9 lo none) 1 A9 el.length (el.flatMap tx)
                rw [HN3.out]
                exact g3.imp (fun b hb => ⟨hb.1, hb.2.1, by simp⟩)
              · show el.length ≤ k9
                rw [HN3.out]; exact h3)
            have HVL : Hid (∀ k, (Value.slice A6 j c6).ownBlock = some k → k < lo ∧ k ≠ b7) := Lib.hid (fun k hk => by have := own_lt HO6.out k hk; have := HB7.out; omega)
            have DN := Lib.hid (DY.out.app (r := ⟨⟨A7, k7, al⟩, ⟨A8, k8, bl⟩, ⟨A9, k9, el⟩⟩) (l2 := l2) HRL.out (HLO.out ▸ DX.out.bs) (fun k hk => (HVL.out k hk).1) HNC.out.2.2.1 HNC.out.2.2.2.1 HNC.out.2.2.2.2 (by rw [List.flatMap_append]; simpa [Rl.cells, MR.val, TR.val, HN1.out, HN2.out, HN3.out] using hO) hG hat)
            have R8 := Lib.hid ((R7.out.below TRI.out.k hb7lo).grown hG (fun e => (HVL.out b7 e.symm).2 rfl))
            have X8 := Lib.hid (DY.out.x3.grown hG (fun e => own_not2 DY.out.o6 HNC.out.2.2.1 e.symm))
            have S8 : w8.cell? ⟨b7, 0, none⟩ = some (.slice aA n1 ac) ∧ w8.cell? ⟨b7, 1, none⟩ = some (.slice bA n2 bc) ∧ w8.cell? ⟨b7, 2, none⟩ = some (.slice eA n3 ec) := ⟨R8.out.cell 0, R8.out.cell 1, R8.out.cell 2⟩
            refine hK.out _ _ S8 (fun hH => ?_)
            clear hK K hO hG hat HNX TRI
            refine wpAnyH_take (i := 17) (v := ?_) (by simp only [List.getElem?_toArray, List.getElem?_cons_succ, List.getElem?_cons_zero]; exact rfl) (by decide +kernel) (by decide +kernel) (by decide +kernel) (by exact fun _ _ _ h => h) (Or.inl ⟨by rfl, ?_⟩) (by assumption) ?_
            rotate_left
            · (intro w hSw; (try dsimp only at hSw); go_simp; try with_reducible rfl)
            try simp only [Act.put, List.setIfInBounds_toArray, List.set_cons_zero, List.set_cons_succ]
            refine wpAnyH_ready (rs := [18]) (by decide +kernel) (by simp) ?_
            refine AllReadyH.cons (by simp only [List.getElem?_toArray, List.getElem?_cons_succ, List.getElem?_cons_zero]; exact rfl) (fun K hK => ?_) AllReadyH.nil
            have xf := X8.out.frozen 1
            have x8 := X8.out.cell 1
            simp only [List.getElem?_toArray, List.getElem?_cons_zero, List.getElem?_cons_succ] at x8
            go_simp
            have hne73 : b7 ≠ b3 := HN73.out
            refine hK.out _ _ (by have h := R8.out.far (p := ⟨b3, 1, none⟩) hne73 (.slice Av (j + 1) kv); exact ⟨h.cell 0, h.cell 1, h.cell 2⟩) (fun hH => ?_)
            clear hK K xf x8 hH
            refine wpAnyH_done (by decide +kernel) ?_ _
            go_wp2
            go_roundw
            case rel => exact ⟨j + 1, Av, kv, l2 ++ [⟨⟨A7, k7, al⟩, ⟨A8, k8, bl⟩, ⟨A9, k9, el⟩⟩], by go_num, by omega, Lib.hid (by rw [List.length_append, HM'.out]; rfl), Lib.hid (take_strip Rl.strip HM.out HML.out rfl), DN⟩
            case measure => simp [intOf]; omega
        · have hje : j = rl.length := by omega
          have HML2 : Hid (l2.map Rl.strip = rl.map Rl.strip) := Lib.hid (by rw [HML.out, hje, List.take_length])
          clear HML hj hlt
          subst hje
          have X2 : Hid (Blk wo b2 70 #[.slice none 0 0, .slice none 0 0, .int .i64 0, .int .i64 0]) := Lib.hid ((DS.out.kr b2 (by have := HNB.out; have := CS.out.bs; have := HB2.out; omega) HNB.out.2.2.2.2.1).trans CS.out.x2)
          have x0 := DS.out.x3.cell 0
          have x1 := DS.out.x3.cell 1
          have x2 := DS.out.x3.cell 2
          have x3 := DS.out.x3.cell 3
          have y0 := X2.out.cell 0
          have y1 := X2.out.cell 1
          have y2 := X2.out.cell 2
          have y3 := X2.out.cell 3
          have yf := X2.out.frozen
          simp only [List.getElem?_toArray, List.getElem?_cons_zero, List.getElem?_cons_succ] at x0 x1 x2 x3 y0 y1 y2 y3
          go_wp2
          have fb := (((X2.out.set_ 0 (.slice A5 l.length c5)).set_ 1 (.slice A6 rl.length c6)).set_ 2 (.int .i64 pt)).set_ 3 (.int .i64 rs)
          have KF := Lib.hid ((((DS.out.k.setCell (p := ⟨b2, 0, none⟩) HB2L.out (.slice A5 l.length c5)).setCell (p := ⟨b2, 1, none⟩) HB2L.out (.slice A6 rl.length c6)).setCell (p := ⟨b2, 2, none⟩) HB2L.out (.int .i64 pt)).setCell (p := ⟨b2, 3, none⟩) HB2L.out (.int .i64 rs))
          have ST1 : Hid (Stays w2 wo base (Value.slice A5 l.length c5).ownBlock (Value.slice A5 l.length c5).ownBlock) := Lib.hid ⟨by have := DS.out.bs; have := HB2.out; omega, fun b hb => DS.out.kr b (by have := hb.2.1; have := HB2.out; omega) (by have := hb.1; have := HNB.out; omega), fun b hb => hb.2.2⟩
          have hb2b : b2 < base := HNB.out.2.1
          have ST2 := Lib.hid ((((ST1.out.trans (Stays.cell (p := ⟨b2, 0, none⟩) hb2b (.slice A5 l.length c5))).trans (Stays.cell (p := ⟨b2, 1, none⟩) hb2b (.slice A6 rl.length c6))).trans (Stays.cell (p := ⟨b2, 2, none⟩) hb2b (.int .i64 pt))).trans (Stays.cell (p := ⟨b2, 3, none⟩) hb2b (.int .i64 rs)))
          have hb2c : b2 < base2 := by have := CS.out.bs; have := HB2.out; omega
          have ST3 := Lib.hid ((((Stays.cell (w := wo) (lo := base2) (no := (Value.slice A6 rl.length c6).ownBlock) (p := ⟨b2, 0, none⟩) hb2c (.slice A5 l.length c5)).trans (Stays.cell (p := ⟨b2, 1, none⟩) hb2c (.slice A6 rl.length c6))).trans (Stays.cell (p := ⟨b2, 2, none⟩) hb2c (.int .i64 pt))).trans (Stays.cell (p := ⟨b2, 3, none⟩) hb2c (.int .i64 rs)))
          have O6 : Hid (wo.ownsRow base2 47 3 (.slice A6 rl.length c6) rl.length (l2.flatMap Rl.cells)) := Lib.hid DS.out.o6
          have O6' := Lib.hid (own_far2 (own_far2 (own_far2 (own_far2 O6.out (p := ⟨b2, 0, none⟩) (own_not2 O6.out hb2c) (.slice A5 l.length c5)) (p := ⟨b2, 1, none⟩) (own_not2 O6.out hb2c) (.slice A6 rl.length c6)) (p := ⟨b2, 2, none⟩) (own_not2 O6.out hb2c) (.int .i64 pt)) (p := ⟨b2, 3, none⟩) (own_not2 O6.out hb2c) (.int .i64 rs))
          have O5 : Hid (wo.ownsRow base 77 8 (.slice A5 l.length c5) l.length (l'.flatMap Ro.cells)) := Lib.hid (own_heap CS.out.o5 (fun k hk => DS.out.kr k (by have := own_lt CS.out.o5 k hk; have := HB2.out; omega) (by have := own_base CS.out.o5 k hk; have := HNB.out; omega)))
          have O5' := Lib.hid (own_far2 (own_far2 (own_far2 (own_far2 O5.out (p := ⟨b2, 0, none⟩) (own_not2 O5.out hb2b) (.slice A5 l.length c5)) (p := ⟨b2, 1, none⟩) (own_not2 O5.out hb2b) (.slice A6 rl.length c6)) (p := ⟨b2, 2, none⟩) (own_not2 O5.out hb2b) (.int .i64 pt)) (p := ⟨b2, 3, none⟩) (own_not2 O5.out hb2b) (.int .i64 rs))
          have HW := Lib.hid (fun r hr => (CS.out.ow r hr).stays ST2.out)
          have HV := Lib.hid (fun r hr => (DS.out.ow r hr).stays ST3.out)
          have s0 := fb.cell 0
          have s1 := fb.cell 1
          have s2 := fb.cell 2
          have s3 := fb.cell 3
          simp only [List.setIfInBounds_toArray, List.set_cons_succ, List.set_cons_zero, List.getElem?_toArray, List.getElem?_cons_zero, List.getElem?_cons_succ] at s0 s1 s2 s3
          refine bodyPost_ret (v := .agg #[.slice A5 l.length c5, .slice A6 rl.length c6, .int .i64 pt, .int .i64 rs]) (by simp [results, Try.results52, go_sem, s0, s1, s2, s3]) rfl ?_
          generalize (((wo.setCell ⟨b2, 0, none⟩ (.slice A5 l.length c5)).setCell ⟨b2, 1, none⟩ (.slice A6 rl.length c6)).setCell ⟨b2, 2, none⟩ (.int .i64 pt)).setCell ⟨b2, 3, none⟩ (.int .i64 rs) = wz at *
          rw [← HPOST.out]
          have e1 : l'.length = l.length := HLN.out
          have e2 : l2.length = rl.length := HM'.out
          refine ⟨⟨A5, c5, l', A6, c6, l2, pt, rs⟩, base, ?_, KF.out, ⟨HL2.out, HML2.out, rfl, rfl⟩, HNB.out.2.2.2.2.2.1, ?_, ?_, ?_, ?_, base2, ?_, ?_, ?_⟩
          · show Ending.returned _ = Ending.returned (.agg #[.slice A5 l'.length c5, .slice A6 l2.length c6, .int .i64 pt, .int .i64 rs])
            rw [e1, e2]
          · show wz.ownsRow base 77 8 (.slice A5 l'.length c5) l'.length _
            rw [e1]; exact O5'.out
          · show ∀ r ∈ l', r.Own wz base (Value.slice A5 l'.length c5).ownBlock
            rw [e1]; exact HW.out
          · refine ⟨?_, fun r hr => (HW.out r hr).in_, ?_, fun r hr => (HV.out r hr).in_⟩
            · show Reads wz _ 8 A5 l'.length _
              rw [e1]
              obtain ⟨a1, d1, f1, _, g1⟩ := own_reads O5'.out (by decide)
              injection f1 with f1 _ _
              subst f1
              exact g1.imp (fun b hb => hb.2.1)
            · show Reads wz _ 3 A6 l2.length _
              rw [e2]
              obtain ⟨a1, d1, f1, _, g1⟩ := own_reads O6'.out (by decide)
              injection f1 with f1 _ _
              subst f1
              exact g1.imp (fun b hb => hb.2.1)
          · refine ⟨?_, ?_, fun r hr => (HW.out r hr).fit, fun r hr => (HV.out r hr).fit⟩
            · show l'.length ≤ c5
              rw [e1]
              obtain ⟨a1, d1, f1, h1, _⟩ := own_reads O5'.out (by decide)
              injection f1 with _ _ f1
              omega
            · show l2.length ≤ c6
              rw [e2]
              obtain ⟨a1, d1, f1, h1, _⟩ := own_reads O6'.out (by decide)
              injection f1 with _ _ f1
              omega
          · show ∀ k, (Value.slice A5 l'.length c5).ownBlock = some k → k < base2
            intro k hk
            rw [e1] at hk
            have := own_lt CS.out.o5 k hk
            have := HB2.out
            omega
          · show wz.ownsRow base2 47 3 (.slice A6 l2.length c6) l2.length _
            rw [e2]; exact O6'.out
          · show ∀ r ∈ l2, r.Own wz base2 (Value.slice A6 l2.length c6).ownBlock
            rw [e2]; exact HV.out
end Go.Proofs.Ytnidjfmbbfoheaa
