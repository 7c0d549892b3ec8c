/- WORDS: lists that a call has made for itself; copies of configurations. -/
import Derived.Test.YtnidjfmbbfoheaaT4
import Derived.Test.YtnidjfmbbfoheaaTK
import Derived.Test.YtnidjfmbbfoheaaMaH
namespace Go.Proofs.Ytnidjfmbbfoheaa
set_option linter.unusedVariables false
set_option linter.unusedSimpArgs false
open Go.RowKit

/-- A block of the call's own, from lo on, but not the row no. -/
def OwnS (w : World) (lo : Nat) (no : Option Nat) (b : Nat) : Prop := lo ≤ b ∧ b < w.heap.size ∧ no ≠ some b
def MR.Own (p : MR) (w : World) (lo : Nat) (no : Option Nat) : Prop := Reads w (OwnS w lo no) 3 p.A p.l.length (mts p.l) ∧ (∀ x ∈ p.l, x.Ok) ∧ p.l.length ≤ p.c
def TR.Own (p : TR) (w : World) (lo : Nat) (no : Option Nat) : Prop := Reads w (OwnS w lo no) 1 p.A p.l.length (p.l.flatMap tx) ∧ (∀ x ∈ p.l, TxOk x) ∧ p.l.length ≤ p.c
def Ro.Own (r : Ro) (w : World) (lo : Nat) (no : Option Nat) : Prop := r.ms.Own w lo no ∧ r.by_.Own w lo no ∧ TxOk r.rc
def Rl.Own (r : Rl) (w : World) (lo : Nat) (no : Option Nat) : Prop := r.s.Own w lo no ∧ r.t.Own w lo no ∧ r.e.Own w lo no
/-- What is of the call's own stands when the world goes on, but for some blocks. -/
structure Stays (w w' : World) (lo : Nat) (no no' : Option Nat) : Prop where
  size : w.heap.size ≤ w'.heap.size
  block : ∀ b, OwnS w lo no b → w'.heap[b]? = w.heap[b]?
  no : ∀ b, OwnS w lo no b → no' ≠ some b
section
variable {w w' : World} {lo : Nat} {no no' : Option Nat}
theorem MR.Own.stays {p : MR} (h : p.Own w lo no) (k : Stays w w' lo no no') : p.Own w' lo no' :=
  ⟨(h.1.keep k.block).imp (fun b hb => ⟨hb.1, Nat.lt_of_lt_of_le hb.2.1 k.size, k.no b hb⟩), h.2⟩
theorem TR.Own.stays {p : TR} (h : p.Own w lo no) (k : Stays w w' lo no no') : p.Own w' lo no' :=
  ⟨(h.1.keep k.block).imp (fun b hb => ⟨hb.1, Nat.lt_of_lt_of_le hb.2.1 k.size, k.no b hb⟩), h.2⟩
theorem Ro.Own.stays {r : Ro} (h : r.Own w lo no) (k : Stays w w' lo no no') : r.Own w' lo no' := ⟨h.1.stays k, h.2.1.stays k, h.2.2⟩
theorem Rl.Own.stays {r : Rl} (h : r.Own w lo no) (k : Stays w w' lo no no') : r.Own w' lo no' := ⟨h.1.stays k, h.2.1.stays k, h.2.2.stays k⟩
theorem MR.Own.in_ {p : MR} (h : p.Own w lo no) : p.In w := ⟨h.1.imp (fun b hb => hb.2.1), h.2.1⟩
theorem TR.Own.in_ {p : TR} (h : p.Own w lo no) : p.In w := ⟨h.1.imp (fun b hb => hb.2.1), h.2.1⟩
theorem Ro.Own.in_ {r : Ro} (h : r.Own w lo no) : r.In w := ⟨h.1.in_, h.2.1.in_, h.2.2⟩
theorem Rl.Own.in_ {r : Rl} (h : r.Own w lo no) : r.In w := ⟨h.1.in_, h.2.1.in_, h.2.2.in_⟩
theorem Ro.Own.fit {r : Ro} (h : r.Own w lo no) : r.Fit := ⟨h.1.2.2, h.2.1.2.2⟩
theorem Rl.Own.fit {r : Rl} (h : r.Own w lo no) : r.Fit := ⟨h.1.2.2, h.2.1.2.2, h.2.2.2.2⟩
theorem Stays.below (hb : Below w.heap.size w w') : Stays w w' lo no no := ⟨hb.size, fun b h => hb.block b h.2.1, fun b h => h.2.2⟩
/-- The row itself grows. -/
theorem Stays.grown {v v' : Value} (hg : w.grownBy w' v.ownBlock) (hat : v'.ownBlock = v.ownBlock ∨ ∃ b, v'.ownBlock = some b ∧ w.heap.size ≤ b) : Stays w w' lo v.ownBlock v'.ownBlock :=
  ⟨hg.size, fun b h => hg.block b h.2.1 (fun e => h.2.2 e.symm), fun b h e => by
    rcases hat with hat | ⟨b', hb', hle⟩
    · exact h.2.2 (hat ▸ e)
    · rw [hb'] at e
      injection e with e
      have := h.2.1
      omega⟩
/-- A cell below is written to. -/
theorem Stays.cell {p : Addr} (hp : p.block < lo) (u : Value) : Stays w (w.setCell p u) lo no no :=
  ⟨by simp [World.setCell], fun b h => Below.heap_setCell w p u b (by have := h.1; omega), fun b h => h.2.2⟩
theorem Stays.trans {w2 : World} {no2 : Option Nat} (h : Stays w w' lo no no') (k : Stays w' w2 lo no' no2) : Stays w w2 lo no no2 :=
  ⟨Nat.le_trans h.size k.size, fun b hb => (k.block b ⟨hb.1, Nat.lt_of_lt_of_le hb.2.1 h.size, h.no b hb⟩).trans (h.block b hb), fun b hb => k.no b ⟨hb.1, Nat.lt_of_lt_of_le hb.2.1 h.size, h.no b hb⟩⟩
/-- A row of its own, as a list that reads. -/
theorem own_reads {base size n : Nat} {e : TypeId} {v : Value} {xs : List Value} (h : w.ownsRow base e size v n xs) (hz : 0 < size) : ∃ A c, v = .slice A n c ∧ n ≤ c ∧ Reads w (fun b => base ≤ b ∧ b < w.heap.size ∧ v.ownBlock = some b) size A n xs := by
  obtain ⟨A, c, rfl, R⟩ := Reads.of_own h
  refine ⟨A, c, rfl, ?_, R.imp (fun b hb => ⟨own_base h b hb, own_lt h b hb, hb⟩)⟩
  rcases h.2 with ⟨e1, e2⟩ | ⟨g, cap, cur, e1, _, _, hc, _⟩
  · omega
  · injection e1 with _ _ e3
    omega
end
theorem own_not2 {W : World} {base e size n b : Nat} {v : Value} {xs : List Value} (h : W.ownsRow base e size v n xs) (hb : b < base) : v.ownBlock ≠ some b := fun e => by
  have := own_base h b e
  omega
theorem own_far2 {w : World} {base e size n : Nat} {v : Value} {xs : List Value} (h : w.ownsRow base e size v n xs) {p : Addr} (hp : v.ownBlock ≠ some p.block) (u : Value) : (w.setCell p u).ownsRow base e size v n xs :=
  h.kept (grown_setCell (World.grownBy.refl w (some p.block)) (.inl rfl) u) (.inr hp)
def Rl.strip (r : Rl) : Rl := ⟨⟨none, 0, r.s.l⟩, ⟨none, 0, r.t.l⟩, ⟨none, 0, r.e.l⟩⟩
theorem ruleB_strip (r : Rl) : ruleB r.strip = ruleB r := rfl
theorem firstE_strip2 (l : List Rl) : firstE ruleB (l.map Rl.strip) = firstE ruleB l := by
  induction l with
  | nil => rfl
  | cons r t ih => simp only [List.map_cons, firstE, ih, ruleB_strip]
/-- One configuration is a copy of another. -/
structure Cf.Like (a c : Cf) : Prop where
  ro : a.l.map Ro.strip = c.l.map Ro.strip
  rl : a.rl.map Rl.strip = c.rl.map Rl.strip
  pt : a.pt = c.pt
  rs : a.rs = c.rs
theorem Cf.Like.len {a c : Cf} (h : a.Like c) : a.l.length = c.l.length := by have := congrArg List.length h.ro; simpa using this
theorem Cf.Like.len2 {a c : Cf} (h : a.Like c) : a.rl.length = c.rl.length := by have := congrArg List.length h.rl; simpa using this
theorem Cf.Like.cfB {a c : Cf} (h : a.Like c) : cfB a = cfB c := by
  have h1 := firstE_strip2 a.rl
  have h2 := firstE_strip2 c.rl
  have e1 : firstE ruleB a.rl = firstE ruleB c.rl := by rw [← h1, ← h2, h.rl]
  rw [cfB_strip a, cfB_strip c]
  unfold Go.Proofs.Ytnidjfmbbfoheaa.cfB
  simp only [h.ro, h.pt, h.rs, h.len2, e1]
theorem info77 : (Try.prog.info? 77).map (fun i => (i.zero, i.size, i.bytes)) = some (some (.agg #[.int .i64 0, .slice none 0 0, .bool false, .slice none 0 0, .string ⟨#[]⟩, .int .i64 0, .int .i64 0, .int .i64 0]), 8, 104) := by kernel_rfl
theorem info47 : (Try.prog.info? 47).map (fun i => (i.zero, i.size, i.bytes)) = some (some (.agg #[.slice none 0 0, .slice none 0 0, .slice none 0 0]), 3, 72) := by kernel_rfl
theorem info9 : (Try.prog.info? 9).map (fun i => (i.zero, i.size, i.bytes)) = some (some (.string ⟨#[]⟩), 1, 16) := by kernel_rfl
theorem und68c : Try.prog.underlying 68 = some (.slice 77) := by kernel_rfl
theorem und45c : Try.prog.underlying 45 = some (.slice 9) := by kernel_rfl
theorem und49c : Try.prog.underlying 49 = some (.slice 47) := by kernel_rfl
end Go.Proofs.Ytnidjfmbbfoheaa

/- WORDS: lists that a region of open order makes, side by side. -/
namespace Go.Proofs.Ytnidjfmbbfoheaa
set_option linter.unusedVariables false
set_option linter.unusedSimpArgs false
open Go.RowKit

/-- A region of open order is walked by an invariant. -/
theorem wpAnyH_walk {P : Program} {md : Region.Mode} {ops : Array Oper} {Q : Exit → Act → World → Prop} {S : World → Prop} (J : Nat → Array Bool → Act → World → Prop)
    (hstep : ∀ n listed a w, J n listed a w → (∀ m listed' a' w', m < n → J m listed' a' w' → wpAnyH P md ops Q S m listed' a' w') → wpAnyH P md ops Q S n listed a w) (n : Nat) : ∀ listed a w, J n listed a w → wpAnyH P md ops Q S n listed a w := by
  induction n using Nat.strongRecOn with
  | ind n ih => exact fun listed a w h => hstep n listed a w h (fun m l' a' w' hm hJ => ih m hm l' a' w' hJ)
/-- A list that is made: not begun, begun (empty), full. -/
def Ch (W : World) (lo : Nat) (e : TypeId) (size n : Nat) (xs : List Value) (p : Nat) (y1 y2 : Value) : Prop := (p = 1 → W.ownsRow lo e size y1 0 []) ∧ (p = 2 → W.ownsRow lo e size y2 n xs)
def cur (p : Nat) (y1 y2 : Value) : Option Nat := if p = 1 then y1.ownBlock else if p = 2 then y2.ownBlock else none
section
variable {W w1 : World} {lo : Nat} {e : TypeId} {size n : Nat} {xs : List Value} {p : Nat} {y1 y2 : Value}
theorem Ch.zero : Ch W lo e size n xs 0 y1 y2 := ⟨(fun h => by cases h), (fun h => by cases h)⟩
theorem Ch.lt (h : Ch W lo e size n xs p y1 y2) {k : Nat} (hk : cur p y1 y2 = some k) : lo ≤ k ∧ k < W.heap.size := by
  unfold cur at hk
  split at hk
  · rename_i hp; exact ⟨own_base (h.1 hp) k hk, own_lt (h.1 hp) k hk⟩
  · split at hk
    · rename_i hp; exact ⟨own_base (h.2 hp) k hk, own_lt (h.2 hp) k hk⟩
    · cases hk
theorem Ch.alloc (h : Ch W lo e size n xs p y1 y2) (o : Obj) : Ch (W.alloc o) lo e size n xs p y1 y2 := ⟨fun hp => own_alloc (h.1 hp) o, fun hp => own_alloc (h.2 hp) o⟩
theorem Ch.drew (h : Ch W lo e size n xs p y1 y2) : Ch W.drew lo e size n xs p y1 y2 := h
theorem Ch.grown (h : Ch W lo e size n xs p y1 y2) {row : Option Nat} (hg : W.grownBy w1 row) (hr : ∀ k, row = some k → cur p y1 y2 ≠ some k) : Ch w1 lo e size n xs p y1 y2 :=
  ⟨fun hp => own_grown (h.1 hp) hg (fun k hk => by have := hr k hk; unfold cur at this; rwa [if_pos hp] at this), fun hp => own_grown (h.2 hp) hg (fun k hk => by have := hr k hk; unfold cur at this; rwa [if_neg (by omega), if_pos hp] at this)⟩
theorem Ch.begun (h : lo ≤ W.heap.size) : Ch (W.alloc (.cells #[] e)) lo e size n xs 1 (.slice (some ⟨W.heap.size, 0, none⟩) 0 0) y2 := ⟨fun _ => own_of_blk0 (Blk.new W e #[]) h, (fun h => by cases h)⟩
theorem Ch.full {v1 : Value} (h : w1.ownsRow lo e size v1 n xs) : Ch w1 lo e size n xs 2 y1 v1 := ⟨(fun h => by cases h), fun _ => h⟩
end
/-- Three lists, side by side. -/
structure Tri (wx W : World) (lo n1 n2 n3 : Nat) (xa xb xc : List Value) (p q r : Nat) (a1 a2 b1 b2 c1 c2 : Value) : Prop where
  a : Ch W lo 37 3 n1 xa p a1 a2
  b : Ch W lo 37 3 n2 xb q b1 b2
  c : Ch W lo 9 1 n3 xc r c1 c2
  ab : ∀ k, cur p a1 a2 = some k → cur q b1 b2 ≠ some k
  ac : ∀ k, cur p a1 a2 = some k → cur r c1 c2 ≠ some k
  bc : ∀ k, cur q b1 b2 = some k → cur r c1 c2 ≠ some k
  k : Below lo wx W
  s : lo ≤ W.heap.size
section
variable {wx W w1 : World} {lo n1 n2 n3 : Nat} {xa xb xc : List Value} {p q r : Nat} {a1 a2 b1 b2 c1 c2 v1 : Value}
theorem cur1 {y2 : Value} {k k' : Nat} (h : cur 1 (.slice (some ⟨k, 0, none⟩) 0 0) y2 = some k') : k' = k := by
  have : (some k : Option Nat) = some k' := h
  injection this with this
  exact this.symm
theorem Tri.a0 (h : Tri wx W lo n1 n2 n3 xa xb xc 0 q r a1 a2 b1 b2 c1 c2) : Tri wx (W.alloc (.cells #[] 37)) lo n1 n2 n3 xa xb xc 1 q r (.slice (some ⟨W.heap.size, 0, none⟩) 0 0) a2 b1 b2 c1 c2 :=
  ⟨Ch.begun h.s, h.b.alloc _, h.c.alloc _, fun k hk e => by have := cur1 hk; have := (h.b.lt e).2; omega, fun k hk e => by have := cur1 hk; have := (h.c.lt e).2; omega, h.bc, h.k.alloc h.s _, Nat.le_trans h.s (by simp)⟩
theorem Tri.b0 (h : Tri wx W lo n1 n2 n3 xa xb xc p 0 r a1 a2 b1 b2 c1 c2) : Tri wx (W.alloc (.cells #[] 37)) lo n1 n2 n3 xa xb xc p 1 r a1 a2 (.slice (some ⟨W.heap.size, 0, none⟩) 0 0) b2 c1 c2 :=
  ⟨h.a.alloc _, Ch.begun h.s, h.c.alloc _, fun k hk e => by have := cur1 e; have := (h.a.lt hk).2; omega, h.ac, fun k hk e => by have := cur1 hk; have := (h.c.lt e).2; omega, h.k.alloc h.s _, Nat.le_trans h.s (by simp)⟩
theorem Tri.c0 (h : Tri wx W lo n1 n2 n3 xa xb xc p q 0 a1 a2 b1 b2 c1 c2) : Tri wx (W.alloc (.cells #[] 9)) lo n1 n2 n3 xa xb xc p q 1 a1 a2 b1 b2 (.slice (some ⟨W.heap.size, 0, none⟩) 0 0) c2 :=
  ⟨h.a.alloc _, h.b.alloc _, Ch.begun h.s, h.ab, fun k hk e => by have := cur1 e; have := (h.a.lt hk).2; omega, fun k hk e => by have := cur1 e; have := (h.b.lt hk).2; omega, h.k.alloc h.s _, Nat.le_trans h.s (by simp)⟩
theorem Tri.alloc (h : Tri wx W lo n1 n2 n3 xa xb xc p q r a1 a2 b1 b2 c1 c2) (o : Obj) : Tri wx (W.alloc o) lo n1 n2 n3 xa xb xc p q r a1 a2 b1 b2 c1 c2 :=
  ⟨h.a.alloc _, h.b.alloc _, h.c.alloc _, h.ab, h.ac, h.bc, h.k.alloc h.s _, Nat.le_trans h.s (by simp)⟩
theorem cur_new {y1 y2 z : Value} {W : World} {k : Nat} (hat : z.ownBlock = y1.ownBlock ∨ ∃ b, z.ownBlock = some b ∧ W.heap.size ≤ b) (hk : cur 2 y1 z = some k) : cur 1 y1 y2 = some k ∨ W.heap.size ≤ k := by
  have hk' : z.ownBlock = some k := hk
  rcases hat with h | ⟨b, hb, hle⟩
  · exact .inl (show y1.ownBlock = some k from h.symm.trans hk')
  · rw [hb] at hk'
    injection hk' with hk'
    exact .inr (by omega)
theorem Tri.a1' (h : Tri wx W lo n1 n2 n3 xa xb xc 1 q r a1 a2 b1 b2 c1 c2) (ho : w1.ownsRow lo 37 3 v1 n1 xa) (hg : W.grownBy w1 a1.ownBlock) (hat : v1.ownBlock = a1.ownBlock ∨ ∃ b, v1.ownBlock = some b ∧ W.heap.size ≤ b) : Tri wx w1 lo n1 n2 n3 xa xb xc 2 q r a1 v1 b1 b2 c1 c2 :=
  ⟨Ch.full ho, h.b.grown hg (fun k hk e => h.ab k hk e), h.c.grown hg (fun k hk e => h.ac k hk e),
   fun k hk e => by
     rcases cur_new (y2 := a2) hat hk with h' | h'
     · exact h.ab k h' e
     · have := (h.b.lt e).2; omega,
   fun k hk e => by
     rcases cur_new (y2 := a2) hat hk with h' | h'
     · exact h.ac k h' e
     · have := (h.c.lt e).2; omega,
   h.bc, h.k.grown hg h.s (fun k hk => (h.a.lt (k := k) hk).1), Nat.le_trans h.s hg.size⟩
theorem Tri.b1' (h : Tri wx W lo n1 n2 n3 xa xb xc p 1 r a1 a2 b1 b2 c1 c2) (ho : w1.ownsRow lo 37 3 v1 n2 xb) (hg : W.grownBy w1 b1.ownBlock) (hat : v1.ownBlock = b1.ownBlock ∨ ∃ b, v1.ownBlock = some b ∧ W.heap.size ≤ b) : Tri wx w1 lo n1 n2 n3 xa xb xc p 2 r a1 a2 b1 v1 c1 c2 :=
  ⟨h.a.grown hg (fun k hk e => h.ab k e hk), Ch.full ho, h.c.grown hg (fun k hk e => h.bc k hk e),
   fun k hk e => by
     rcases cur_new (y2 := b2) hat e with h' | h'
     · exact h.ab k hk h'
     · have := (h.a.lt hk).2; omega,
   h.ac,
   fun k hk e => by
     rcases cur_new (y2 := b2) hat hk with h' | h'
     · exact h.bc k h' e
     · have := (h.c.lt e).2; omega,
   h.k.grown hg h.s (fun k hk => (h.b.lt (k := k) hk).1), Nat.le_trans h.s hg.size⟩
theorem Tri.c1' (h : Tri wx W lo n1 n2 n3 xa xb xc p q 1 a1 a2 b1 b2 c1 c2) (ho : w1.ownsRow lo 9 1 v1 n3 xc) (hg : W.grownBy w1 c1.ownBlock) (hat : v1.ownBlock = c1.ownBlock ∨ ∃ b, v1.ownBlock = some b ∧ W.heap.size ≤ b) : Tri wx w1 lo n1 n2 n3 xa xb xc p q 2 a1 a2 b1 b2 c1 v1 :=
  ⟨h.a.grown hg (fun k hk e => h.ac k e hk), h.b.grown hg (fun k hk e => h.bc k e hk), Ch.full ho, h.ab,
   fun k hk e => by
     rcases cur_new (y2 := c2) hat e with h' | h'
     · exact h.ac k hk h'
     · have := (h.a.lt hk).2; omega,
   fun k hk e => by
     rcases cur_new (y2 := c2) hat e with h' | h'
     · exact h.bc k hk h'
     · have := (h.b.lt hk).2; omega,
   h.k.grown hg h.s (fun k hk => (h.c.lt (k := k) hk).1), Nat.le_trans h.s hg.size⟩
end
end Go.Proofs.Ytnidjfmbbfoheaa
