/- PLAIN: what parse and atom leave, without rounds. WORDS: trees appended to trees. -/
import Derived.Test.YtnidjfmbbfoheaaDA
import Derived.Test.YtnidjfmbbfoheaaRxQ2
import Derived.Great.BuildSlice
import Derived.Great.FillDense
import Derived.Test.YtnidjfmbbfoheaaMaG
namespace Go.Proofs.Ytnidjfmbbfoheaa
set_option linter.unusedVariables false
set_option linter.unusedSimpArgs false
open Go.RowKit

namespace Rx
theorem parB_fuel (s : List Nat) (n m : Nat) (hn : 2 * s.length + 1 ≤ n) (hm : 2 * s.length + 1 ≤ m) : parB n s = parB m s := by
  rw [← pat_like (row_like (s.length + 1) s (by omega)) (8 * s.length + 5) n (Nat.le_refl _) hn, ← pat_like (row_like (s.length + 1) s (by omega)) (8 * s.length + 5) m (Nat.le_refl _) hm]
theorem atB_fuel (s : List Nat) (n m : Nat) (hn : 2 * s.length ≤ n) (hm : 2 * s.length ≤ m) : atB n s = atB m s := by
  rw [← atom_like s (fun t ht => row_like s.length t ht) (8 * s.length) n (Nat.le_refl _) hn, ← atom_like s (fun t ht => row_like s.length t ht) (8 * s.length) m (Nat.le_refl _) hm]
/-- What parse leaves. -/
def parR (s : List Nat) : Option (List Nat) := parB (2 * s.length + 2) s
/-- What atom leaves. -/
def atR (s : List Nat) : Option (List Nat) := atB (2 * s.length + 1) s
theorem parR_end {s : List Nat} (h : s = [] ∨ s.head? = some 41) : parR s = some s := by
  unfold parR parB
  rw [if_pos h]
theorem parR_bar (r : List Nat) : parR (124 :: r) = parR r := by
  unfold parR
  conv => lhs; unfold parB
  rw [if_neg (by simp), if_pos (by rfl)]
  exact parB_fuel _ _ _ (by simp only [List.tail_cons, List.length_cons]; omega) (by simp only [List.tail_cons]; omega)
theorem parR_atom {s : List Nat} (h1 : ¬ (s = [] ∨ s.head? = some 41)) (h2 : ¬ s.head? = some 124) : parR s = (match atR s with | none => none | some s1 => parR (repsB s1)) := by
  unfold parR
  conv => lhs; unfold parB
  rw [if_neg h1, if_neg h2]
  show (match atR s with | none => none | some s1 => parB (2 * s.length + 1) (repsB s1)) = _
  cases ha : atR s with
  | none => rfl
  | some s1 =>
    have l1 := atB_short _ _ _ ha
    have l2 := repsB_short s1
    exact parB_fuel _ _ _ (by omega) (by omega)
theorem atR_cons (c : Nat) (r : List Nat) : atR (c :: r) =
      if c = 40 then
        match parR r with
        | none => none
        | some s1 => if s1.head? = some 41 then some s1.tail else none
      else if c = 91 then setB r
      else if c = 46 then some r
      else if c = 92 then (match r with | [] => none | d :: r' => some r')
      else if c ∈ special then none
      else some r := by
  unfold atR
  conv => lhs; unfold atB
  simp only
  have e : parB (2 * (c :: r).length) r = parR r := parB_fuel _ _ _ (by simp only [List.length_cons]; omega) (by omega)
  rw [e]
  rfl
theorem parR_short {s r : List Nat} (h : parR s = some r) : r.length ≤ s.length := (parB_short _ _ _ h).1
theorem atR_short {s r : List Nat} (h : atR s = some r) : r.length < s.length := atB_short _ _ _ h
theorem repsB_rep {c : Nat} (r : List Nat) (h : c = 42 ∨ c = 43 ∨ c = 63) : repsB (c :: r) = repsB r := by
  conv => lhs; unfold repsB
  rw [if_pos h]
theorem repsB_other {c : Nat} (r : List Nat) (h : ¬ (c = 42 ∨ c = 43 ∨ c = 63)) : repsB (c :: r) = c :: r := by
  unfold repsB
  rw [if_neg h]
/-- What is left lies behind. -/
theorem setRest_sub : ∀ (n : Nat) (s r : List Nat), setRest n s = some r → ∀ x ∈ r, x ∈ s
  | 0, _, _, h => by cases h
  | n + 1, s, r, h => by
    have hm : ∀ {t u : List Nat} {c : Nat}, memb t = some (c, u) → ∀ x ∈ u, x ∈ t := by
      intro t u c hm
      cases t with
      | nil => cases hm
      | cons a t' =>
        unfold memb at hm
        simp only at hm
        by_cases h1 : a = 93
        · rw [if_pos h1] at hm
          cases hm
        · rw [if_neg h1] at hm
          by_cases h2 : a = 92
          · rw [if_pos h2] at hm
            cases t' with
            | nil => cases hm
            | cons d r' =>
              simp only [Option.some.injEq, Prod.mk.injEq] at hm
              rw [← hm.2]
              intro x hx
              simp [hx]
          · rw [if_neg h2] at hm
            simp only [Option.some.injEq, Prod.mk.injEq] at hm
            rw [← hm.2]
            intro x hx
            simp [hx]
    unfold setRest at h
    split at h
    · injection h with h
      subst h
      exact fun x hx => List.mem_of_mem_tail hx
    · split at h
      · cases h
      · rename_i lo s1 h1
        split at h
        · split at h
          · cases h
          · rename_i hi s2 h2
            split at h
            · cases h
            · exact fun x hx => hm h1 x (List.mem_of_mem_tail (hm h2 x (setRest_sub n _ _ h x hx)))
        · exact fun x hx => hm h1 x (setRest_sub n _ _ h x hx)
theorem setB_sub {s r : List Nat} (h : setB s = some r) : ∀ x ∈ r, x ∈ s := by
  unfold setB at h
  split at h
  · split at h
    · cases h
    · exact fun x hx => List.mem_of_mem_tail (setRest_sub _ _ _ h x hx)
  · split at h
    · cases h
    · exact setRest_sub _ _ _ h
theorem repsB_sub : ∀ (s : List Nat), ∀ x ∈ repsB s, x ∈ s
  | [], x, h => h
  | c :: r, x, h => by
    unfold repsB at h
    split at h
    · exact List.mem_cons_of_mem _ (repsB_sub r x h)
    · exact h
mutual
theorem parB_sub : ∀ (n : Nat) (s r : List Nat), parB n s = some r → ∀ x ∈ r, x ∈ s
  | 0, _, _, h => by cases h
  | n + 1, s, r, h => by
    unfold parB at h
    split at h
    · injection h with h
      subst h
      exact fun x hx => hx
    · split at h
      · exact fun x hx => List.mem_of_mem_tail (parB_sub n _ _ h x hx)
      · split at h
        · cases h
        · rename_i s1 ha
          exact fun x hx => atB_sub n _ _ ha x (repsB_sub _ x (parB_sub n _ _ h x hx))
theorem atB_sub : ∀ (n : Nat) (s r : List Nat), atB n s = some r → ∀ x ∈ r, x ∈ s
  | 0, _, _, h => by cases h
  | n + 1, s, r, h => by
    unfold atB at h
    cases s with
    | nil => cases h
    | cons c t =>
      simp only at h
      split at h
      · split at h
        · cases h
        · rename_i s1 hp
          split at h
          · injection h with h
            subst h
            exact fun x hx => List.mem_cons_of_mem _ (parB_sub n _ _ hp x (List.mem_of_mem_tail hx))
          · cases h
      · split at h
        · exact fun x hx => List.mem_cons_of_mem _ (setB_sub h x hx)
        · split at h
          · injection h with h
            subst h
            exact fun x hx => List.mem_cons_of_mem _ hx
          · split at h
            · cases t with
              | nil => cases h
              | cons d t' =>
                simp only [Option.some.injEq] at h
                subst h
                exact fun x hx => List.mem_cons_of_mem _ (List.mem_cons_of_mem _ hx)
            · split at h
              · cases h
              · injection h with h
                subst h
                exact fun x hx => List.mem_cons_of_mem _ hx
end
end Rx

/-! ### trees in memory -/
theorem tcl_getv (k : Int) (x : List Bool) (v : Value) (hx : x.length = 256) : (tcl k x v)[257]? = some v := by
  unfold tcl
  rw [List.getElem?_cons_succ, List.getElem?_append_right (by simp [hx])]
  simp [hx]
theorem tcl_setv (k : Int) (x : List Bool) (v u : Value) (hx : x.length = 256) : (tcl k x v).set 257 u = tcl k x u := by
  unfold tcl
  rw [List.set_cons_succ, List.set_append_right _ _ (by simp [hx])]
  simp [hx]
theorem built0 : Try.prog.built 114 [] = some (tcl 0 Rx.noSet (.slice none 0 0)).toArray := by kernel_rfl
theorem built1 (k : Int) : Try.prog.built 114 [(0, .int .i64 k)] = some (tcl k Rx.noSet (.slice none 0 0)).toArray := by kernel_rfl
theorem built2 (k : Int) (A : Option Addr) (n c : Nat) : Try.prog.built 114 [(0, .int .i64 k), (2, .slice A n c)] = some (tcl k Rx.noSet (.slice A n c)).toArray := by kernel_rfl
def tree0 : Value := .agg (tcl 0 Rx.noSet (.slice none 0 0)).toArray
theorem info114 : (Try.prog.info? 114).map (fun i => (i.zero, i.size, i.bytes)) = some (some tree0, 258, 288) := by kernel_rfl
theorem tree0_size : tree0.cells.size = 258 := by
  show (tcl 0 Rx.noSet (.slice none 0 0)).toArray.size = 258
  rw [List.size_toArray]
  exact trc_zero.len
theorem fill_one (cs : List Value) (h : cs.length = 258) (zs : Array Value) (hz : zs.size = 258) : Instr.fill (fun i => some (i * 258, 258)) zs [(0, .agg cs.toArray)] = some cs.toArray := by
  have := Great.fill_whole (s := 258) (by omega) [.agg cs.toArray] zs (by simp [Value.cells, h]) (by simp [hz])
  simpa [Value.cells] using this
/-- A list of one tree. -/
theorem wpList_tree1 {ops : Array Oper} {rest : List Oper} {o : Oper} {a : Act} {w : World} {Q : Exit → Act → World → Prop} (hg : o.guard = none) (x : Operand) (ho : o.op = .buildSlice 112 1 #[(0, x)])
    (cs : List Value) (hx : a.eval x = .agg cs.toArray) (hc : TrC cs)
    (h : wpList Try.prog ops Q rest (a.put o.dst (.slice (some ⟨w.heap.size, 0, none⟩) 1 1)) (w.alloc (.cells cs.toArray 114))) : wpList Try.prog ops Q (o :: rest) a w := by
  cases hie : Try.prog.info? 114 with
  | none => have := info114; rw [hie] at this; cases this
  | some ie =>
    have hi := info114
    rw [hie] at hi
    simp only [Option.map_some, Option.some.injEq, Prod.mk.injEq] at hi
    refine wpList_buildSlice hg 112 114 1 _ ho cs.toArray ie _ Try.underlying112 hie hi.1 (by rw [hi.2.1]; omega) (by rw [hi.2.1]; omega) ?_ h
    rw [hi.2.1]
    simp only [List.map_toArray, List.map_cons, List.map_nil, hx]
    exact fill_one cs hc.len _ (by simp)

/-! ### what is not written to stands -/
theorem grown_setCells (g : Nat) (vs : List Value) : ∀ (w : World) (o : Nat), w.grownBy (w.setCells g o vs) (some g) := by
  induction vs with
  | nil => intro w o; exact World.grownBy.refl w _
  | cons v r ih =>
    intro w o
    exact (grown_setCell (World.grownBy.refl w (some g)) (p := ⟨g, o, none⟩) (.inl rfl) v).trans (ih _ (o + 1))
theorem own_far {w : World} {base e size n : Nat} {v : Value} {xs : List Value} (h : w.ownsRow base e size v n xs) {p : Addr} (hp : v.ownBlock ≠ some p.block) (u : Value) : (w.setCell p u).ownsRow base e size v n xs :=
  h.kept (grown_setCell (World.grownBy.refl w (some p.block)) (.inl rfl) u) (.inr hp)
theorem own_farS {w : World} {base e size n g : Nat} {v : Value} {xs : List Value} (h : w.ownsRow base e size v n xs) (hp : v.ownBlock ≠ some g) (o : Nat) (vs : List Value) : (w.setCells g o vs).ownsRow base e size v n xs :=
  h.kept (grown_setCells g vs w o) (.inr hp)
theorem Blk.farS {w : World} {g t b : Nat} {cs : Array Value} (h : Blk w g t cs) (hg : g ≠ b) (o : Nat) (vs : List Value) : Blk (w.setCells b o vs) g t cs :=
  h.grown (grown_setCells b vs w o) (fun e => hg (Option.some.inj e))
theorem Blk.tree {w : World} {g : Nat} {cs : List Value} {old : Array Value} (h : Blk w g 114 old) (ho : old.size = 258) (hc : TrC cs) : Blk (w.setCells g 0 cs) g 114 cs.toArray := by
  have := h.setCells cs 0
  rwa [setAll_whole _ _ (by rw [hc.len, ho])] at this

/-- The two trees that parse grows, and the one that it hands back. -/
structure PSt (W : World) (base b2 b5 b6 : Nat) (v5 v6 : Value) (n5 n6 : Nat) : Prop where
  k2 : Blk W b2 114 (tcl 0 Rx.noSet (.slice none 0 0)).toArray
  k5 : Blk W b5 114 (tcl 2 Rx.noSet v5).toArray
  k6 : Blk W b6 114 (tcl 1 Rx.noSet v6).toArray
  o5 : ∃ xs, W.ownsRow base 114 258 v5 n5 xs
  o6 : ∃ xs, W.ownsRow base 114 258 v6 n6 xs
  dj : ∀ k, v5.ownBlock = some k → v6.ownBlock ≠ some k
  l2 : b2 < base
  l5 : b5 < base
  l6 : b6 < base
  n25 : b2 ≠ b5
  n26 : b2 ≠ b6
  n56 : b5 ≠ b6
  lb : base ≤ W.heap.size
section
variable {W W' : World} {base b2 b5 b6 n5 n6 : Nat} {v5 v6 : Value}
theorem own_not {base e size n b : Nat} {v : Value} {xs : List Value} (h : W.ownsRow base e size v n xs) (hb : b < base) : v.ownBlock ≠ some b := fun e => by
  have := own_base h b e
  omega
theorem PSt.below (h : PSt W base b2 b5 b6 v5 v6 n5 n6) (hb : Below W.heap.size W W') : PSt W' base b2 b5 b6 v5 v6 n5 n6 := by
  obtain ⟨x5, o5⟩ := h.o5
  obtain ⟨x6, o6⟩ := h.o6
  exact ⟨h.k2.below hb h.k2.lt, h.k5.below hb h.k5.lt, h.k6.below hb h.k6.lt, ⟨x5, own_below o5 hb⟩, ⟨x6, own_below o6 hb⟩, h.dj, h.l2, h.l5, h.l6, h.n25, h.n26, h.n56, Nat.le_trans h.lb hb.size⟩
theorem PSt.alloc (h : PSt W base b2 b5 b6 v5 v6 n5 n6) (o : Obj) : PSt (W.alloc o) base b2 b5 b6 v5 v6 n5 n6 :=
  h.below ((Below.refl _ _).alloc (Nat.le_refl _) o)
/-- A tree has been hung on the first. -/
theorem PSt.app5 {w1 : World} {v1 : Value} {xs : List Value} (h : PSt W base b2 b5 b6 v5 v6 n5 n6) (ho : w1.ownsRow base 114 258 v1 (n5 + 1) xs) (hg : W.grownBy w1 v5.ownBlock) (hat : v1.ownBlock = v5.ownBlock ∨ ∃ b, v1.ownBlock = some b ∧ W.heap.size ≤ b) :
    PSt (w1.setCell ⟨b5, 257, none⟩ v1) base b2 b5 b6 v1 v6 (n5 + 1) n6 := by
  obtain ⟨x5, o5⟩ := h.o5
  obtain ⟨x6, o6⟩ := h.o6
  have B5 : Blk w1 b5 114 _ := h.k5.grown hg (fun e => own_not o5 h.l5 e.symm)
  have B2 : Blk w1 b2 114 _ := h.k2.grown hg (fun e => own_not o5 h.l2 e.symm)
  have B6 : Blk w1 b6 114 _ := h.k6.grown hg (fun e => own_not o5 h.l6 e.symm)
  have O6 := own_grown o6 hg (fun k hk => h.dj k hk)
  have B5' := B5.set_ 257 v1
  rw [List.setIfInBounds_toArray, tcl_setv _ _ _ _ noSet_len] at B5'
  refine ⟨B2.far (p := ⟨b5, 257, none⟩) h.n25 v1, B5', B6.far (p := ⟨b5, 257, none⟩) (Ne.symm h.n56) v1, ⟨_, own_far ho (p := ⟨b5, 257, none⟩) (own_not ho h.l5) v1⟩, ⟨_, own_far O6 (p := ⟨b5, 257, none⟩) (own_not O6 h.l5) v1⟩, ?_, h.l2, h.l5, h.l6, h.n25, h.n26, h.n56, ?_⟩
  · intro k hk hk6
    rcases hat with hat | ⟨b, hb, hle⟩
    · exact h.dj k (hat ▸ hk) hk6
    · have := own_lt o6 k hk6
      rw [hb] at hk
      injection hk with hk
      omega
  · exact Nat.le_trans h.lb (Nat.le_trans hg.size (by simp [World.setCell]))
/-- A tree has been hung on the second. -/
theorem PSt.app6 {w1 : World} {v1 : Value} {xs : List Value} (h : PSt W base b2 b5 b6 v5 v6 n5 n6) (ho : w1.ownsRow base 114 258 v1 (n6 + 1) xs) (hg : W.grownBy w1 v6.ownBlock) (hat : v1.ownBlock = v6.ownBlock ∨ ∃ b, v1.ownBlock = some b ∧ W.heap.size ≤ b) :
    PSt (w1.setCell ⟨b6, 257, none⟩ v1) base b2 b5 b6 v5 v1 n5 (n6 + 1) := by
  obtain ⟨x5, o5⟩ := h.o5
  obtain ⟨x6, o6⟩ := h.o6
  have B5 : Blk w1 b5 114 _ := h.k5.grown hg (fun e => own_not o6 h.l5 e.symm)
  have B2 : Blk w1 b2 114 _ := h.k2.grown hg (fun e => own_not o6 h.l2 e.symm)
  have B6 : Blk w1 b6 114 _ := h.k6.grown hg (fun e => own_not o6 h.l6 e.symm)
  have O5 := own_grown o5 hg (fun k hk hk5 => h.dj k hk5 hk)
  have B6' := B6.set_ 257 v1
  rw [List.setIfInBounds_toArray, tcl_setv _ _ _ _ noSet_len] at B6'
  refine ⟨B2.far (p := ⟨b6, 257, none⟩) h.n26 v1, B5.far (p := ⟨b6, 257, none⟩) h.n56 v1, B6', ⟨_, own_far O5 (p := ⟨b6, 257, none⟩) (own_not O5 h.l6) v1⟩, ⟨_, own_far ho (p := ⟨b6, 257, none⟩) (own_not ho h.l6) v1⟩, ?_, h.l2, h.l5, h.l6, h.n25, h.n26, h.n56, ?_⟩
  · intro k hk hk6
    rcases hat with hat | ⟨b, hb, hle⟩
    · exact h.dj k hk (hat ▸ hk6)
    · have := own_lt o5 k hk
      rw [hb] at hk6
      injection hk6 with hk6
      omega
  · exact Nat.le_trans h.lb (Nat.le_trans hg.size (by simp [World.setCell]))
/-- The second is begun anew. -/
theorem PSt.reset (h : PSt W base b2 b5 b6 v5 v6 n5 n6) : PSt (W.setCells b6 0 (tcl 1 Rx.noSet (.slice none 0 0))) base b2 b5 b6 v5 (.slice none 0 0) n5 0 := by
  obtain ⟨x5, o5⟩ := h.o5
  refine ⟨h.k2.farS h.n26 _ _, h.k5.farS h.n56 _ _, h.k6.tree ?_ (trc_tcl _ _ _ noSet_len rfl), ⟨_, own_farS o5 (own_not o5 h.l6) _ _⟩, ⟨_, own_nil _ _ _ _⟩, (fun k _ e => by cases e), h.l2, h.l5, h.l6, h.n25, h.n26, h.n56, ?_⟩
  · rw [List.size_toArray, tcl_len _ _ _ noSet_len]
  · exact Nat.le_trans h.lb (grown_setCells b6 _ W 0).size
/-- Another tree is written to. -/
theorem PSt.other (h : PSt W base b2 b5 b6 v5 v6 n5 n6) {g : Nat} (hg : base ≤ g) (h5 : v5.ownBlock ≠ some g) (h6 : v6.ownBlock ≠ some g) (vs : List Value) : PSt (W.setCells g 0 vs) base b2 b5 b6 v5 v6 n5 n6 := by
  obtain ⟨x5, o5⟩ := h.o5
  obtain ⟨x6, o6⟩ := h.o6
  have l2 := h.l2
  have l5 := h.l5
  have l6 := h.l6
  exact ⟨h.k2.farS (by omega) _ _, h.k5.farS (by omega) _ _, h.k6.farS (by omega) _ _, ⟨_, own_farS o5 h5 _ _⟩, ⟨_, own_farS o6 h6 _ _⟩, h.dj, l2, l5, l6, h.n25, h.n26, h.n56, Nat.le_trans h.lb (grown_setCells g vs W 0).size⟩
end
end Go.Proofs.Ytnidjfmbbfoheaa

/- WALK: the document's atom, given that parse reads what is shorter. -/
namespace Go.Proofs.Ytnidjfmbbfoheaa
set_option linter.unusedVariables false
set_option linter.unusedSimpArgs false
open Go.RowKit

/-- parse does as it should with texts shorter than n. -/
def ParOk (n : Nat) : Prop := ∀ (s : List Nat) (w : World), s.length < n → (∀ x ∈ s, x < 256) → s.length ≤ 1000 → Calls Try.prog 102 #[.string (bs s)] w (TreeEnd w (Rx.parR s))
set_option maxRecDepth 100000 in
set_option maxHeartbeats 4000000 in
theorem atom_par (r : List Nat) (w : World) (hb : ∀ x ∈ (40 :: r), x < 256) (hs : r.length + 1 ≤ 1000) (HP : ParOk (r.length + 1)) : Calls Try.prog 113 #[.string (bs (40 :: r))] w (TreeEnd w (Rx.atR (40 :: r))) := by
  have hG := Rx.atR_cons 40 r
  rw [if_pos rfl] at hG
  generalize Rx.atR (40 :: r) = G at *
  unfold TreeEnd
  have B2 := Lib.hid (Blk.new w 114 Try.zeroCells114)
  have K := Lib.hid ((Below.refl w.heap.size w).alloc (Nat.le_refl _) (.cells Try.zeroCells114 114))
  have hidx := fun w => idx_bs (40 :: r) 0 40 rfl (hb 40 (by simp)) w
  have HBR : Hid (∀ x ∈ r, x < 256) := Lib.hid (fun x hx => hb x (by simp [hx]))
  have hne : (bs (40 :: r)).toList.isEmpty = false := by rw [bs_ne]; rfl
  have hsz : (bs (40 :: r)).size = r.length + 1 := by rw [bs_size]; rfl
  have ht : (bs (40 :: r)).extract 1 (r.length + 1) = bs r := by have := bs_tail 40 r; rwa [hsz] at this
  have hr1 : (1 : Int) ≤ (r.length : Int) + 1 := by omega
  rw [show ((0 : Nat) : Int) = 0 from rfl] at hidx
  rw [show ((40 : Nat) : Int) = 40 from rfl] at hidx
  clear hb
  go_enter Try.func113, Try.ntmps113
  go_upto_region 1 with fail
  generalize w.alloc (.cells Try.zeroCells114 114) = w2 at *
  rw [zero114] at B2
  obtain ⟨b2, hb2⟩ : ∃ b, w.heap.size = b := ⟨_, rfl⟩
  have HB2 : Hid (w.heap.size ≤ b2) := Lib.hid (by omega)
  rw [hb2] at B2 ⊢
  clear hb2
  have HP2 := Lib.hid (fun w => HP r w (by omega) HBR.out (by omega))
  clear HP
  generalize bs (40 :: r) = bb at *
  unfold TreeEnd at HP2
  have hgp : ∀ {q : Option (List Nat)}, Rx.parR r = q → G = (match q with | none => none | some s1 => if s1.head? = some 41 then some s1.tail else none) := by rintro q rfl; exact hG
  clear hG
  have HSB : Hid (∀ s1, Rx.parR r = some s1 → ∀ x ∈ s1, x < 256) := Lib.hid (fun s1 h x hx => HBR.out x (Rx.parB_sub _ _ _ h x hx))
  generalize Rx.parR r = q at *
  have hG := hgp rfl
  clear hgp
  go_wp2_with fail
  refine (HP2.out _).mono ?_
  rintro e w5 ⟨cs, hc5, hbk, rfl⟩
  have HC := Lib.hid hc5
  obtain ⟨b5, hb5⟩ : ∃ b, w5.heap.size = b := ⟨_, rfl⟩
  have HNE : Hid (b2 ≠ b5) := Lib.hid (by have := B2.out.lt; have := hbk.size; omega)
  have B2a := Lib.hid ((B2.out.below hbk B2.out.lt).alloc (.cells Try.zeroCells114 114))
  have B5a : Hid (Blk (w5.alloc (.cells Try.zeroCells114 114)) b5 114 (tcl 0 Rx.noSet (.slice none 0 0)).toArray) := Lib.hid (by
    have h := Blk.new w5 114 Try.zeroCells114
    rw [hb5] at h
    rw [← zero114]
    exact h)
  have KK := Lib.hid (below_then K.out K.out.size hbk)
  have KA := Lib.hid (KK.out.alloc KK.out.size (.cells Try.zeroCells114 114))
  have HBH : Hid (w.heap.size ≤ b5) := Lib.hid (by have := KK.out.size; omega)
  have HT5 : Hid ((w5.alloc (.cells Try.zeroCells114 114)).there b5 0 (List.toArray cs).size) := Lib.hid (blk_there B5a.out _ (by rw [show (List.toArray cs).size = 258 from HC.out.len, trc_zero.len]; exact Nat.le_refl _))
  have B2b := Lib.hid (B2a.out.farS HNE.out 0 cs)
  have B5b := Lib.hid (B5a.out.tree (by rw [List.size_toArray]; exact trc_zero.len) HC.out)
  have KB := Lib.hid (below_setCells HBH.out cs 0 KA.out)
  clear hbk hc5 B2a B5a KK KA
  have HRX := Lib.hid (blk_range B5b.out)
  go_upto_region 3 with (refine wpList_store_mid rfl 114 _ _ rfl b5 0 (List.toArray cs) (by rw [← hb5]; rfl) rfl HT5.out HC.out.sizA (all_oneCell_toArray HC.out.one) ?_)
  generalize (w5.alloc (.cells Try.zeroCells114 114)).setCells b5 0 cs = w7 at *
  clear HT5 hb5
  have HT2 : Hid (w7.there b2 0 (List.toArray cs).size) := Lib.hid (blk_there B2b.out _ (by rw [show (List.toArray cs).size = 258 from HC.out.len, trc_zero.len]; exact Nat.le_refl _))
  cases q with
  | none =>
    obtain rfl : G = none := hG
    simp only [Option.getD_none, Option.isSome_none, bs_nil]
    go_wp2_with (first | (refine wpList_load_mid rfl 114 _ rfl b5 0 rfl cs _ HRX.out Try.underlying114 rfl HC.out.siz ?_) | (refine wpList_store_mid rfl 114 _ _ rfl b2 0 (List.toArray cs) rfl rfl HT2.out HC.out.sizA (all_oneCell_toArray HC.out.one) ?_))
    have hl := load_tree (World.rangeAt_setCells_same _ b2 0 cs HT2.out) HC.out
    refine bodyPost_ret (v := .tuple #[.agg (List.toArray cs), .string ⟨#[]⟩, .bool false]) (results_cell3 Try.results113 rfl hl) rfl ⟨_, HC.out, ?_, rfl⟩
    exact below_setCells HB2.out _ _ KB.out
  | some s1 =>
    simp only [Option.getD_some, Option.isSome_some]
    have hs1 := HSB.out s1 rfl
    cases s1 with
    | nil =>
      obtain rfl : G = none := hG
      simp only [bs_nil]
      go_wp2_with (first | (refine wpList_load_mid rfl 114 _ rfl b5 0 rfl cs _ HRX.out Try.underlying114 rfl HC.out.siz ?_) | (refine wpList_store_mid rfl 114 _ _ rfl b2 0 (List.toArray cs) rfl rfl HT2.out HC.out.sizA (all_oneCell_toArray HC.out.one) ?_))
      have hl := load_tree (World.rangeAt_setCells_same _ b2 0 cs HT2.out) HC.out
      refine bodyPost_ret (v := .tuple #[.agg (List.toArray cs), .string ⟨#[]⟩, .bool false]) (results_cell3 Try.results113 rfl hl) rfl ⟨_, HC.out, ?_, rfl⟩
      exact below_setCells HB2.out _ _ KB.out
    | cons d s2 =>
      have hjdx := fun w => idx_bs (d :: s2) 0 d rfl (hs1 d (by simp)) w
      rw [show ((0 : Nat) : Int) = 0 from rfl] at hjdx
      have hne2 : (bs (d :: s2)).toList.isEmpty = false := by rw [bs_ne]; rfl
      have hsz2 : (bs (d :: s2)).size = s2.length + 1 := by rw [bs_size]; rfl
      have ht2 : (bs (d :: s2)).extract 1 (s2.length + 1) = bs s2 := by have := bs_tail d s2; rwa [hsz2] at this
      have hr2 : (1 : Int) ≤ (s2.length : Int) + 1 := by omega
      by_cases h41 : d = 41
      · subst h41
        obtain rfl : G = some s2 := hG
        rw [show ((41 : Nat) : Int) = 41 from rfl] at hjdx
        clear hs1 hidx hne hsz ht hr1
        generalize bs (41 :: s2) = b3 at *
        go_wp2
        have HT2 : Hid (w7.there b2 0 258) := Lib.hid (blk_there B2b.out 258 (by rw [trc_zero.len]; exact Nat.le_refl _))
        refine wp_region_held_drew (S := (fun X => X.rangeAt b5 0 cs ∧ X.there b2 0 258)) (by kernel_rfl) (by exact ⟨HRX.out, HT2.out⟩) (fun hHeld => ?_)
        refine wpAnyH_take (i := 1) (v := ?_) (by simp only [List.getElem?_toArray, List.getElem?_cons_succ, List.getElem?_cons_zero]; exact rfl) (by decide +kernel) (by decide +kernel) (by decide +kernel) (by exact fun _ _ _ h => h) (Or.inl ⟨by rfl, ?_⟩) (by assumption) ?_
        rotate_left
        · (intro w hSw; (try dsimp only at hSw); go_simp; try with_reducible rfl)
        try simp only [Act.put, List.setIfInBounds_toArray, List.set_cons_zero, List.set_cons_succ]
        refine wpAnyH_take (i := 2) (v := ?_) (by simp only [List.getElem?_toArray, List.getElem?_cons_succ, List.getElem?_cons_zero]; exact rfl) (by decide +kernel) (by decide +kernel) (by decide +kernel) (by exact fun _ _ _ h => h) (Or.inl ⟨by rfl, ?_⟩) (by assumption) ?_
        rotate_left
        · (intro w hSw; (try dsimp only at hSw); go_simp; try with_reducible rfl)
        try simp only [Act.put, List.setIfInBounds_toArray, List.set_cons_zero, List.set_cons_succ]
        refine wpAnyH_take (i := 0) (v := .agg (List.toArray cs)) (by simp only [List.getElem?_toArray, List.getElem?_cons_succ, List.getElem?_cons_zero]; exact rfl) (by decide +kernel) (by decide +kernel) (by decide +kernel) (by exact fun _ _ _ h => h) (yieldsIf_load_mid (by rfl) _ _ (by rfl) b5 0 (by rfl) cs _ (fun X hX => hX.1) Try.underlying114 (by rfl) HC.out.siz) (by assumption) ?_
        try simp only [Act.put, List.setIfInBounds_toArray, List.set_cons_zero, List.set_cons_succ]
        refine wpAnyH_ready (rs := [3]) (by kernel_rfl) (by simp) ?_
        refine AllReadyH.cons (by simp only [List.getElem?_toArray, List.getElem?_cons_succ, List.getElem?_cons_zero]; exact rfl) (fun K hK => ?_) AllReadyH.nil
        rw [if_pos (by rfl)]
        refine wp_store_mid _ _ _ (by rfl) b2 0 (List.toArray cs) (by rfl) (by rfl) (by rw [show (List.toArray cs).size = 258 from HC.out.len]; exact hHeld.2) HC.out.sizA (all_oneCell_toArray HC.out.one) ?_
        refine hK.out _ _ (by exact ⟨World.rangeAt_setCells_apart hHeld.1 _ _ _ (.inl (Ne.symm HNE.out)), World.there_setCells hHeld.2 _ _ _⟩) (fun hHeld => ?_)
        clear hK K
        try simp only [Act.put, List.setIfInBounds_toArray, List.set_cons_zero, List.set_cons_succ]
        refine wpAnyH_take (i := 4) (v := ?_) (by simp only [List.getElem?_toArray, List.getElem?_cons_succ, List.getElem?_cons_zero]; exact rfl) (by decide +kernel) (by decide +kernel) (by decide +kernel) (by exact fun _ _ _ h => h) (Or.inl ⟨by rfl, ?_⟩) (by assumption) ?_
        rotate_left
        · (intro w hSw; (try dsimp only at hSw); go_simp; try with_reducible rfl)
        try simp only [Act.put, List.setIfInBounds_toArray, List.set_cons_zero, List.set_cons_succ]
        refine wpAnyH_take (i := 5) (v := ?_) (by simp only [List.getElem?_toArray, List.getElem?_cons_succ, List.getElem?_cons_zero]; exact rfl) (by decide +kernel) (by decide +kernel) (by decide +kernel) (by exact fun _ _ _ h => h) (Or.inl ⟨by rfl, ?_⟩) (by assumption) ?_
        rotate_left
        · (intro w hSw; (try dsimp only at hSw); go_simp; try with_reducible rfl)
        try simp only [Act.put, List.setIfInBounds_toArray, List.set_cons_zero, List.set_cons_succ]
        refine wpAnyH_done (by kernel_rfl) ?_ _
        go_wp2
        have hld := load_tree (World.rangeAt_setCells_same w7.drew b2 0 cs (by rw [HC.out.len]; exact HT2.out)) HC.out
        refine bodyPost_ret (v := .tuple #[.agg (List.toArray cs), .string (bs s2), .bool true]) (results_cell3 Try.results113 rfl hld) rfl ⟨_, HC.out, ?_, rfl⟩
        exact below_setCells HB2.out _ _ KB.out.drew
      · have f1 : ((d : Int) == 41) = false := beq_eq_false_iff_ne.2 (by omega)
        have f2 : ((d : Int) != 41) = true := by rw [bne_iff_ne]; omega
        obtain rfl : G = none := hG.trans (if_neg (fun e => h41 (Option.some.inj e)))
        clear hs1 hidx hne hsz ht hr1 h41 HSB HP2 hG
        generalize bs (d :: s2) = b3 at *
        go_wp2_with (first | (refine wpList_load_mid rfl 114 _ rfl b5 0 rfl cs _ HRX.out Try.underlying114 rfl HC.out.siz ?_) | (refine wpList_store_mid rfl 114 _ _ rfl b2 0 (List.toArray cs) rfl rfl HT2.out HC.out.sizA (all_oneCell_toArray HC.out.one) ?_))
        have hl := load_tree (World.rangeAt_setCells_same _ b2 0 cs HT2.out) HC.out
        refine bodyPost_ret (v := .tuple #[.agg (List.toArray cs), .string ⟨#[]⟩, .bool false]) (results_cell3 Try.results113 rfl hl) rfl ⟨_, HC.out, ?_, rfl⟩
        exact below_setCells HB2.out _ _ KB.out

set_option maxRecDepth 100000 in
set_option maxHeartbeats 4000000 in
theorem atom_set (r : List Nat) (w : World) (hb : ∀ x ∈ (91 :: r), x < 256) (hs : r.length + 1 ≤ 1000) : Calls Try.prog 113 #[.string (bs (91 :: r))] w (TreeEnd w (Rx.atR (91 :: r))) := by
  have hG := Rx.atR_cons 91 r
  rw [if_neg (by decide), if_pos rfl] at hG
  generalize Rx.atR (91 :: r) = G at *
  unfold TreeEnd
  have B2 := Lib.hid (Blk.new w 114 Try.zeroCells114)
  have K := Lib.hid ((Below.refl w.heap.size w).alloc (Nat.le_refl _) (.cells Try.zeroCells114 114))
  have hidx := fun w => idx_bs (91 :: r) 0 91 rfl (hb 91 (by simp)) w
  have HBR : Hid (∀ x ∈ r, x < 256) := Lib.hid (fun x hx => hb x (by simp [hx]))
  have hne : (bs (91 :: r)).toList.isEmpty = false := by rw [bs_ne]; rfl
  have hsz : (bs (91 :: r)).size = r.length + 1 := by rw [bs_size]; rfl
  have ht : (bs (91 :: r)).extract 1 (r.length + 1) = bs r := by have := bs_tail 91 r; rwa [hsz] at this
  have hr1 : (1 : Int) ≤ (r.length : Int) + 1 := by omega
  rw [show ((0 : Nat) : Int) = 0 from rfl] at hidx
  rw [show ((91 : Nat) : Int) = 91 from rfl] at hidx
  clear hb
  go_enter Try.func113, Try.ntmps113
  go_upto_region 1 with fail
  generalize w.alloc (.cells Try.zeroCells114 114) = w2 at *
  rw [zero114] at B2
  obtain ⟨b2, hb2⟩ : ∃ b, w.heap.size = b := ⟨_, rfl⟩
  have HB2 : Hid (w.heap.size ≤ b2) := Lib.hid (by omega)
  rw [hb2] at B2 ⊢
  clear hb2
  have HS2 := Lib.hid (fun w => set_ref r w HBR.out (by omega))
  unfold TreeEnd at HS2
  rw [← hG] at HS2
  clear hG
  generalize bs (91 :: r) = bb at *
  go_wp2_with fail
  refine (HS2.out _).mono ?_
  rintro e w5 ⟨cs, hc5, hbk, rfl⟩
  have HC := Lib.hid hc5
  have B2b := Lib.hid (B2.out.below hbk B2.out.lt)
  have KK := Lib.hid (below_then K.out K.out.size hbk)
  have HT2 : Hid (w5.there b2 0 (List.toArray cs).size) := Lib.hid (blk_there B2b.out _ (by rw [show (List.toArray cs).size = 258 from HC.out.len, trc_zero.len]; exact Nat.le_refl _))
  clear hbk hc5
  go_wp2_with (refine wpList_store_mid rfl 114 _ _ rfl b2 0 (List.toArray cs) rfl rfl HT2.out HC.out.sizA (all_oneCell_toArray HC.out.one) ?_)
  have hl := load_tree (World.rangeAt_setCells_same _ b2 0 cs HT2.out) HC.out
  refine bodyPost_ret (v := .tuple #[.agg (List.toArray cs), .string (bs (G.getD [])), .bool G.isSome]) (results_cell3 Try.results113 rfl hl) rfl ⟨_, HC.out, ?_, rfl⟩
  exact below_setCells HB2.out _ _ KK.out
set_option maxRecDepth 100000 in
set_option maxHeartbeats 4000000 in
theorem atom_dot (r : List Nat) (w : World) (hb : ∀ x ∈ (46 :: r), x < 256) (hs : r.length + 1 ≤ 1000) : Calls Try.prog 113 #[.string (bs (46 :: r))] w (TreeEnd w (Rx.atR (46 :: r))) := by
  have hG := Rx.atR_cons 46 r
  rw [if_neg (by decide), if_neg (by decide), if_pos rfl] at hG
  generalize Rx.atR (46 :: r) = G at *
  unfold TreeEnd
  have B2 := Lib.hid (Blk.new w 114 Try.zeroCells114)
  have K := Lib.hid ((Below.refl w.heap.size w).alloc (Nat.le_refl _) (.cells Try.zeroCells114 114))
  have hidx := fun w => idx_bs (46 :: r) 0 46 rfl (hb 46 (by simp)) w
  have HBR : Hid (∀ x ∈ r, x < 256) := Lib.hid (fun x hx => hb x (by simp [hx]))
  have hne : (bs (46 :: r)).toList.isEmpty = false := by rw [bs_ne]; rfl
  have hsz : (bs (46 :: r)).size = r.length + 1 := by rw [bs_size]; rfl
  have ht : (bs (46 :: r)).extract 1 (r.length + 1) = bs r := by have := bs_tail 46 r; rwa [hsz] at this
  have hr1 : (1 : Int) ≤ (r.length : Int) + 1 := by omega
  rw [show ((0 : Nat) : Int) = 0 from rfl] at hidx
  rw [show ((46 : Nat) : Int) = 46 from rfl] at hidx
  clear hb
  go_enter Try.func113, Try.ntmps113
  go_upto_region 1 with fail
  generalize w.alloc (.cells Try.zeroCells114 114) = w2 at *
  rw [zero114] at B2
  obtain ⟨b2, hb2⟩ : ∃ b, w.heap.size = b := ⟨_, rfl⟩
  have HB2 : Hid (w.heap.size ≤ b2) := Lib.hid (by omega)
  rw [hb2] at B2 ⊢
  clear hb2
  obtain rfl : G = some r := hG
  generalize bs (46 :: r) = bb at *
  have B2a := Lib.hid (B2.out.alloc (.cells Try.zeroCells114 114))
  obtain ⟨b8, hb8⟩ : ∃ b, w2.heap.size = b := ⟨_, rfl⟩
  have B8a : Hid (Blk (w2.alloc (.cells Try.zeroCells114 114)) b8 114 (tcl 0 Rx.noSet (.slice none 0 0)).toArray) := Lib.hid (by
    have h := Blk.new w2 114 Try.zeroCells114
    rw [hb8] at h
    rw [← zero114]
    exact h)
  have KA := Lib.hid (K.out.alloc K.out.size (.cells Try.zeroCells114 114))
  have HNE : Hid (b2 ≠ b8) := Lib.hid (by have := B2.out.lt; omega)
  have HB8 : Hid (w.heap.size ≤ b8) := Lib.hid (by have := K.out.size; omega)
  go_upto_region 10 with fail
  generalize w2.alloc (.cells Try.zeroCells114 114) = w3 at *
  clear hb8 B2
  go_wp2
  go_loopw [9] (fun s9 wv => ∃ (k : Nat) (x2 : List Bool), s9 = .int .i64 (k : Int) ∧ k ≤ 256 ∧ Hid (x2.length = 256) ∧ Hid (Blk wv b2 114 (tcl 0 Rx.noSet (.slice none 0 0)).toArray) ∧ Hid (Blk wv b8 114 (tcl 0 x2 (.slice none 0 0)).toArray) ∧ Hid (Below w.heap.size w wv)) (fun s9 _ => 256 - (intOf s9).toNat)
  case atStart => exact ⟨0, Rx.noSet, rfl, by omega, Lib.hid noSet_len, B2a, B8a, KA⟩
  case round =>
    obtain ⟨k, x2, rfl, hk1, HXF, B2b, BT, KB⟩ := hrel
    by_cases hkh : k < 256
    · have hkI : (k : Int) < 256 := by omega
      have hk0 : (0 : Int) ≤ (k : Int) := by omega
      have hkd : decide ((k : Int) < 256) = true := by simp; omega
      have hkn : decide (k < 256) = true := by simp; omega
      obtain ⟨vb, hvb⟩ : ∃ vb, x2[k]? = some vb := ⟨_, List.getElem?_eq_getElem (by rw [HXF.out]; omega)⟩
      have z0 : wr.cell? ⟨b8, 1 + k, none⟩ = some (.bool vb) := (BT.out.cell (1 + k)).trans (by rw [List.getElem?_toArray]; exact tcl_get _ _ _ k vb hvb)
      have z1 := BT.out.frozen (1 + k)
      have B4 : Hid (Blk (wr.setCell ⟨b8, 1 + k, none⟩ (.bool true)) b8 114 (tcl 0 (x2.set k true) (.slice none 0 0)).toArray) := Lib.hid (by
        have h := BT.out.set_ (1 + k) (.bool true)
        rwa [List.setIfInBounds_toArray, tcl_set _ _ _ _ _ (by rw [HXF.out]; omega)] at h)
      have B6 := Lib.hid (B2b.out.far (p := ⟨b8, 1 + k, none⟩) HNE.out (.bool true))
      have K4 := Lib.hid (KB.out.setCell (p := ⟨b8, 1 + k, none⟩) HB8.out (.bool true))
      clear hvb
      go_wp2
      go_roundw
      case rel => exact ⟨k + 1, x2.set k true, by go_num, by omega, Lib.hid (by rw [List.length_set]; exact HXF.out), B6, B4, K4⟩
      case measure => (simp [intOf] <;> omega)
    · obtain rfl : k = 256 := by omega
      rw [show ((256 : Nat) : Int) = 256 from rfl]
      have hkd : decide ((256 : Int) < 256) = false := rfl
      go_wp2
      have HC : Hid (TrC (tcl 0 x2 (.slice none 0 0))) := Lib.hid (trc_tcl _ _ _ HXF.out rfl)
      have HRX := Lib.hid (blk_range BT.out)
      have HT2 : Hid (wr.there b2 0 258) := Lib.hid (blk_there B2b.out 258 (by rw [trc_zero.len]; exact Nat.le_refl _))
      clear BT
      generalize tcl 0 x2 (.slice none 0 0) = cs at *
      refine wp_region_held_drew (S := (fun X => X.rangeAt b8 0 cs ∧ X.there b2 0 258)) (by kernel_rfl) (by exact ⟨HRX.out, HT2.out⟩) (fun hHeld => ?_)
      refine wpAnyH_take (i := 1) (v := ?_) (by simp only [List.getElem?_toArray, List.getElem?_cons_succ, List.getElem?_cons_zero]; exact rfl) (by decide +kernel) (by decide +kernel) (by decide +kernel) (by exact fun _ _ _ h => h) (Or.inl ⟨by rfl, ?_⟩) (by assumption) ?_
      rotate_left
      · (intro w hSw; (try dsimp only at hSw); go_simp; try with_reducible rfl)
      try simp only [Act.put, List.setIfInBounds_toArray, List.set_cons_zero, List.set_cons_succ]
      refine wpAnyH_take (i := 2) (v := ?_) (by simp only [List.getElem?_toArray, List.getElem?_cons_succ, List.getElem?_cons_zero]; exact rfl) (by decide +kernel) (by decide +kernel) (by decide +kernel) (by exact fun _ _ _ h => h) (Or.inl ⟨by rfl, ?_⟩) (by assumption) ?_
      rotate_left
      · (intro w hSw; (try dsimp only at hSw); go_simp; try with_reducible rfl)
      try simp only [Act.put, List.setIfInBounds_toArray, List.set_cons_zero, List.set_cons_succ]
      refine wpAnyH_take (i := 0) (v := .agg (List.toArray cs)) (by simp only [List.getElem?_toArray, List.getElem?_cons_succ, List.getElem?_cons_zero]; exact rfl) (by decide +kernel) (by decide +kernel) (by decide +kernel) (by exact fun _ _ _ h => h) (yieldsIf_load_mid (by rfl) _ _ (by rfl) b8 0 (by rfl) cs _ (fun X hX => hX.1) Try.underlying114 (by rfl) HC.out.siz) (by assumption) ?_
      try simp only [Act.put, List.setIfInBounds_toArray, List.set_cons_zero, List.set_cons_succ]
      refine wpAnyH_ready (rs := [3]) (by kernel_rfl) (by simp) ?_
      refine AllReadyH.cons (by simp only [List.getElem?_toArray, List.getElem?_cons_succ, List.getElem?_cons_zero]; exact rfl) (fun K hK => ?_) AllReadyH.nil
      rw [if_pos (by rfl)]
      refine wp_store_mid _ _ _ (by rfl) b2 0 (List.toArray cs) (by rfl) (by rfl) (by rw [show (List.toArray cs).size = 258 from HC.out.len]; exact hHeld.2) HC.out.sizA (all_oneCell_toArray HC.out.one) ?_
      refine hK.out _ _ (by exact ⟨World.rangeAt_setCells_apart hHeld.1 _ _ _ (.inl (Ne.symm HNE.out)), World.there_setCells hHeld.2 _ _ _⟩) (fun hHeld => ?_)
      clear hK K
      try simp only [Act.put, List.setIfInBounds_toArray, List.set_cons_zero, List.set_cons_succ]
      refine wpAnyH_take (i := 4) (v := ?_) (by simp only [List.getElem?_toArray, List.getElem?_cons_succ, List.getElem?_cons_zero]; exact rfl) (by decide +kernel) (by decide +kernel) (by decide +kernel) (by exact fun _ _ _ h => h) (Or.inl ⟨by rfl, ?_⟩) (by assumption) ?_
      rotate_left
      · (intro w hSw; (try dsimp only at hSw); go_simp; try with_reducible rfl)
      try simp only [Act.put, List.setIfInBounds_toArray, List.set_cons_zero, List.set_cons_succ]
      refine wpAnyH_take (i := 5) (v := ?_) (by simp only [List.getElem?_toArray, List.getElem?_cons_succ, List.getElem?_cons_zero]; exact rfl) (by decide +kernel) (by decide +kernel) (by decide +kernel) (by exact fun _ _ _ h => h) (Or.inl ⟨by rfl, ?_⟩) (by assumption) ?_
      rotate_left
      · (intro w hSw; (try dsimp only at hSw); go_simp; try with_reducible rfl)
      try simp only [Act.put, List.setIfInBounds_toArray, List.set_cons_zero, List.set_cons_succ]
      refine wpAnyH_done (by kernel_rfl) ?_ _
      go_wp2
      have hld := load_tree (World.rangeAt_setCells_same wr.drew b2 0 cs (by rw [HC.out.len]; exact HT2.out)) HC.out
      refine bodyPost_ret (v := .tuple #[.agg (List.toArray cs), .string (bs r), .bool true]) (results_cell3 Try.results113 rfl hld) rfl ⟨_, HC.out, ?_, rfl⟩
      exact below_setCells HB2.out _ _ KB.out.drew
set_option maxRecDepth 100000 in
set_option maxHeartbeats 4000000 in
theorem atom_back0 (r : List Nat) (w : World) (hb : ∀ x ∈ (92 :: r), x < 256) (hs : r.length + 1 ≤ 1000) (hr : r = []) : Calls Try.prog 113 #[.string (bs (92 :: r))] w (TreeEnd w (Rx.atR (92 :: r))) := by
  have hG := Rx.atR_cons 92 r
  rw [if_neg (by decide), if_neg (by decide), if_neg (by decide), if_pos rfl] at hG
  generalize Rx.atR (92 :: r) = G at *
  unfold TreeEnd
  have B2 := Lib.hid (Blk.new w 114 Try.zeroCells114)
  have K := Lib.hid ((Below.refl w.heap.size w).alloc (Nat.le_refl _) (.cells Try.zeroCells114 114))
  have hidx := fun w => idx_bs (92 :: r) 0 92 rfl (hb 92 (by simp)) w
  have HBR : Hid (∀ x ∈ r, x < 256) := Lib.hid (fun x hx => hb x (by simp [hx]))
  have hne : (bs (92 :: r)).toList.isEmpty = false := by rw [bs_ne]; rfl
  have hsz : (bs (92 :: r)).size = r.length + 1 := by rw [bs_size]; rfl
  have ht : (bs (92 :: r)).extract 1 (r.length + 1) = bs r := by have := bs_tail 92 r; rwa [hsz] at this
  have hr1 : (1 : Int) ≤ (r.length : Int) + 1 := by omega
  rw [show ((0 : Nat) : Int) = 0 from rfl] at hidx
  rw [show ((92 : Nat) : Int) = 92 from rfl] at hidx
  clear hb
  go_enter Try.func113, Try.ntmps113
  go_upto_region 1 with fail
  generalize w.alloc (.cells Try.zeroCells114 114) = w2 at *
  rw [zero114] at B2
  obtain ⟨b2, hb2⟩ : ∃ b, w.heap.size = b := ⟨_, rfl⟩
  have HB2 : Hid (w.heap.size ≤ b2) := Lib.hid (by omega)
  rw [hb2] at B2 ⊢
  clear hb2
  subst hr
  obtain rfl : G = none := hG
  simp only [List.length_nil] at hsz hr1 ht
  generalize bs [92] = bb at *
  have HC := Lib.hid trc_zero
  have HT2 : Hid (w2.there b2 0 (tcl 0 Rx.noSet (.slice none 0 0)).toArray.size) := Lib.hid (blk_there B2.out _ (by rw [List.size_toArray]; exact Nat.le_refl _))
  go_wp2_with (first | (refine wpList_buildTo rfl 114 _ rfl _ rfl _ built0 ?_) | (refine wpList_store_mid rfl 114 _ _ rfl b2 0 (tcl 0 Rx.noSet (.slice none 0 0)).toArray rfl rfl HT2.out HC.out.sizA (all_oneCell_toArray HC.out.one) ?_))
  have hl := load_tree (World.rangeAt_setCells_same _ b2 0 _ HT2.out) HC.out
  refine bodyPost_ret (v := .tuple #[.agg (tcl 0 Rx.noSet (.slice none 0 0)).toArray, .string ⟨#[]⟩, .bool false]) (results_cell3 Try.results113 rfl hl) rfl ⟨_, HC.out, ?_, rfl⟩
  exact below_setCells HB2.out _ _ K.out
set_option maxRecDepth 100000 in
set_option maxHeartbeats 4000000 in
theorem atom_back (d : Nat) (r1 : List Nat) (r : List Nat) (w : World) (hb : ∀ x ∈ (92 :: r), x < 256) (hs : r.length + 1 ≤ 1000) (hr : r = d :: r1) : Calls Try.prog 113 #[.string (bs (92 :: r))] w (TreeEnd w (Rx.atR (92 :: r))) := by
  have hG := Rx.atR_cons 92 r
  rw [if_neg (by decide), if_neg (by decide), if_neg (by decide), if_pos rfl] at hG
  generalize Rx.atR (92 :: r) = G at *
  unfold TreeEnd
  have B2 := Lib.hid (Blk.new w 114 Try.zeroCells114)
  have K := Lib.hid ((Below.refl w.heap.size w).alloc (Nat.le_refl _) (.cells Try.zeroCells114 114))
  have hidx := fun w => idx_bs (92 :: r) 0 92 rfl (hb 92 (by simp)) w
  have HBR : Hid (∀ x ∈ r, x < 256) := Lib.hid (fun x hx => hb x (by simp [hx]))
  have hne : (bs (92 :: r)).toList.isEmpty = false := by rw [bs_ne]; rfl
  have hsz : (bs (92 :: r)).size = r.length + 1 := by rw [bs_size]; rfl
  have ht : (bs (92 :: r)).extract 1 (r.length + 1) = bs r := by have := bs_tail 92 r; rwa [hsz] at this
  have hr1 : (1 : Int) ≤ (r.length : Int) + 1 := by omega
  rw [show ((0 : Nat) : Int) = 0 from rfl] at hidx
  rw [show ((92 : Nat) : Int) = 92 from rfl] at hidx
  clear hb
  go_enter Try.func113, Try.ntmps113
  go_upto_region 1 with fail
  generalize w.alloc (.cells Try.zeroCells114 114) = w2 at *
  rw [zero114] at B2
  obtain ⟨b2, hb2⟩ : ∃ b, w.heap.size = b := ⟨_, rfl⟩
  have HB2 : Hid (w.heap.size ≤ b2) := Lib.hid (by omega)
  rw [hb2] at B2 ⊢
  clear hb2
  subst hr
  obtain rfl : G = some r1 := hG
  have hd := HBR.out d (by simp)
  have hidx1 := fun w => idx_bs (92 :: d :: r1) 1 d rfl hd w
  rw [show ((1 : Nat) : Int) = 1 from rfl] at hidx1
  simp only [List.length_cons] at hsz hr1 ht
  have ht2 := bs_tail2 92 d r1
  have hr2 : (2 : Int) ≤ (r1.length : Int) + 1 + 1 := by omega
  have hr3 : ¬ (r1.length : Int) + 1 + 1 < 2 := by omega
  have hr4 : (1 : Int) < (r1.length : Int) + 1 + 1 := by omega
  have hr5 : decide ((r1.length : Int) + 1 + 1 < 2) = false := by simp; omega
  generalize bs (92 :: d :: r1) = bb at *
  go_wp2
  have HT2 : Hid (w2.there b2 0 258) := Lib.hid (blk_there B2.out 258 (by rw [trc_zero.len]; exact Nat.le_refl _))
  have KW := K
  refine wp_region_held_drew (S := (fun X => X.there b2 0 258)) (by kernel_rfl) (by exact HT2.out) (fun hHeld => ?_)
  refine wpAnyH_take (i := 0) (v := ?_) (by simp only [List.getElem?_toArray, List.getElem?_cons_succ, List.getElem?_cons_zero]; exact rfl) (by decide +kernel) (by decide +kernel) (by decide +kernel) (by exact fun _ _ _ h => h) (Or.inl ⟨by rfl, ?_⟩) (by assumption) ?_
  rotate_left
  · (intro w hSw; (try dsimp only at hSw); go_simp; try with_reducible rfl)
  try simp only [Act.put, List.setIfInBounds_toArray, List.set_cons_zero, List.set_cons_succ]
  refine wpAnyH_take (i := 1) (v := ?_) (by simp only [List.getElem?_toArray, List.getElem?_cons_succ, List.getElem?_cons_zero]; exact rfl) (by decide +kernel) (by decide +kernel) (by decide +kernel) (by exact fun _ _ _ h => h) (Or.inl ⟨by rfl, ?_⟩) (by assumption) ?_
  rotate_left
  · (intro w hSw; (try dsimp only at hSw); go_simp; try with_reducible rfl)
  try simp only [Act.put, List.setIfInBounds_toArray, List.set_cons_zero, List.set_cons_succ]
  refine wpAnyH_take (i := 3) (v := ?_) (by simp only [List.getElem?_toArray, List.getElem?_cons_succ, List.getElem?_cons_zero]; exact rfl) (by decide +kernel) (by decide +kernel) (by decide +kernel) (by exact fun _ _ _ h => h) (Or.inl ⟨by rfl, ?_⟩) (by assumption) ?_
  rotate_left
  · (intro w hSw; (try dsimp only at hSw); go_simp; try with_reducible rfl)
  try simp only [Act.put, List.setIfInBounds_toArray, List.set_cons_zero, List.set_cons_succ]
  refine wpAnyH_take (i := 4) (v := ?_) (by simp only [List.getElem?_toArray, List.getElem?_cons_succ, List.getElem?_cons_zero]; exact rfl) (by decide +kernel) (by decide +kernel) (by decide +kernel) (by exact fun _ _ _ h => h) (Or.inl ⟨by rfl, ?_⟩) (by assumption) ?_
  rotate_left
  · (intro w hSw; (try dsimp only at hSw); go_simp; try with_reducible rfl)
  try simp only [Act.put, List.setIfInBounds_toArray, List.set_cons_zero, List.set_cons_succ]
  refine wpAnyH_ready (rs := [2]) (by kernel_rfl) (by simp) ?_
  refine AllReadyH.cons (by simp only [List.getElem?_toArray, List.getElem?_cons_succ, List.getElem?_cons_zero]; exact rfl) (fun K hK => ?_) AllReadyH.nil
  go_simp
  go_at_call 118
  refine (one_ref d _ hd).mono ?_
  rintro e w5 ⟨cs, rfl, hc5, hb5⟩
  have HC := Lib.hid hc5
  have HT5 : Hid (w5.there b2 0 258) := Lib.hid (blk_there (B2.out.drew.below hb5 B2.out.lt) 258 (by rw [trc_zero.len]; exact Nat.le_refl _))
  have KK := Lib.hid (below_then KW.out.drew KW.out.size hb5)
  clear hb5 hc5
  go_wp2_with fail
  refine hK.out _ _ (by exact HT5.out) (fun hHeld => ?_)
  clear hK K
  try simp only [Act.put, List.setIfInBounds_toArray, List.set_cons_zero, List.set_cons_succ]
  refine wpAnyH_ready (rs := [5]) (by kernel_rfl) (by simp) ?_
  refine AllReadyH.cons (by simp only [List.getElem?_toArray, List.getElem?_cons_succ, List.getElem?_cons_zero]; exact rfl) (fun K hK => ?_) AllReadyH.nil
  rw [if_pos (by rfl)]
  refine wp_store_mid _ _ _ (by rfl) b2 0 (List.toArray cs) (by rfl) (by rfl) (by rw [show (List.toArray cs).size = 258 from HC.out.len]; exact HT5.out) HC.out.sizA (all_oneCell_toArray HC.out.one) ?_
  refine hK.out _ _ (by exact World.there_setCells HT5.out _ _ _) (fun hHeld => ?_)
  clear hK K
  try simp only [Act.put, List.setIfInBounds_toArray, List.set_cons_zero, List.set_cons_succ]
  refine wpAnyH_take (i := 6) (v := ?_) (by simp only [List.getElem?_toArray, List.getElem?_cons_succ, List.getElem?_cons_zero]; exact rfl) (by decide +kernel) (by decide +kernel) (by decide +kernel) (by exact fun _ _ _ h => h) (Or.inl ⟨by rfl, ?_⟩) (by assumption) ?_
  rotate_left
  · (intro w hSw; (try dsimp only at hSw); go_simp; try with_reducible rfl)
  try simp only [Act.put, List.setIfInBounds_toArray, List.set_cons_zero, List.set_cons_succ]
  refine wpAnyH_take (i := 7) (v := ?_) (by simp only [List.getElem?_toArray, List.getElem?_cons_succ, List.getElem?_cons_zero]; exact rfl) (by decide +kernel) (by decide +kernel) (by decide +kernel) (by exact fun _ _ _ h => h) (Or.inl ⟨by rfl, ?_⟩) (by assumption) ?_
  rotate_left
  · (intro w hSw; (try dsimp only at hSw); go_simp; try with_reducible rfl)
  try simp only [Act.put, List.setIfInBounds_toArray, List.set_cons_zero, List.set_cons_succ]
  refine wpAnyH_done (by kernel_rfl) ?_ _
  go_wp2
  have hld := load_tree (World.rangeAt_setCells_same w5 b2 0 cs (by rw [HC.out.len]; exact HT5.out)) HC.out
  refine bodyPost_ret (v := .tuple #[.agg (List.toArray cs), .string (bs r1), .bool true]) (results_cell3 Try.results113 rfl hld) rfl ⟨_, HC.out, ?_, rfl⟩
  exact below_setCells HB2.out _ _ KK.out
set_option maxRecDepth 100000 in
set_option maxHeartbeats 4000000 in
theorem atom_special (c : Nat) (r : List Nat) (w : World) (hb : ∀ x ∈ (c :: r), x < 256) (hs : r.length + 1 ≤ 1000) (hx : ¬ (c = 40 ∨ c = 91 ∨ c = 46 ∨ c = 92)) (hsp : c ∈ Rx.special) : Calls Try.prog 113 #[.string (bs (c :: r))] w (TreeEnd w (Rx.atR (c :: r))) := by
  have hG := Rx.atR_cons c r
  have hn1 : c ≠ 40 := fun e => hx (.inl e)
  have hn2 : c ≠ 91 := fun e => hx (.inr (.inl e))
  have hn3 : c ≠ 46 := fun e => hx (.inr (.inr (.inl e)))
  have hn4 : c ≠ 92 := fun e => hx (.inr (.inr (.inr e)))
  rw [if_neg hn1, if_neg hn2, if_neg hn3, if_neg hn4] at hG
  have f1 : ((c : Int) == 40) = false := beq_eq_false_iff_ne.2 (by omega)
  have f2 : ((c : Int) == 91) = false := beq_eq_false_iff_ne.2 (by omega)
  have f3 : ((c : Int) == 46) = false := beq_eq_false_iff_ne.2 (by omega)
  have f4 : ((c : Int) == 92) = false := beq_eq_false_iff_ne.2 (by omega)
  have e1 : (c == 40) = false := beq_eq_false_iff_ne.2 hn1
  have e2 : (c == 91) = false := beq_eq_false_iff_ne.2 hn2
  have e3 : (c == 46) = false := beq_eq_false_iff_ne.2 hn3
  have e4 : (c == 92) = false := beq_eq_false_iff_ne.2 hn4
  have HSP := Lib.hid (special_any c (hb c (by simp)))
  have hc2 : Hid (c < 256) := Lib.hid (hb c (by simp))
  clear hn1 hn2 hn3 hn4 hx
  generalize Rx.atR (c :: r) = G at *
  unfold TreeEnd
  have B2 := Lib.hid (Blk.new w 114 Try.zeroCells114)
  have K := Lib.hid ((Below.refl w.heap.size w).alloc (Nat.le_refl _) (.cells Try.zeroCells114 114))
  have hidx := fun w => idx_bs (c :: r) 0 c rfl (hb c (by simp)) w
  have HBR : Hid (∀ x ∈ r, x < 256) := Lib.hid (fun x hx => hb x (by simp [hx]))
  have hne : (bs (c :: r)).toList.isEmpty = false := by rw [bs_ne]; rfl
  have hsz : (bs (c :: r)).size = r.length + 1 := by rw [bs_size]; rfl
  have ht : (bs (c :: r)).extract 1 (r.length + 1) = bs r := by have := bs_tail c r; rwa [hsz] at this
  have hr1 : (1 : Int) ≤ (r.length : Int) + 1 := by omega
  rw [show ((0 : Nat) : Int) = 0 from rfl] at hidx
  clear hb
  go_enter Try.func113, Try.ntmps113
  go_upto_region 1 with fail
  generalize w.alloc (.cells Try.zeroCells114 114) = w2 at *
  rw [zero114] at B2
  obtain ⟨b2, hb2⟩ : ∃ b, w.heap.size = b := ⟨_, rfl⟩
  have HB2 : Hid (w.heap.size ≤ b2) := Lib.hid (by omega)
  rw [hb2] at B2 ⊢
  clear hb2
  obtain rfl : G = none := hG.trans (if_pos hsp)
  clear hG
  rw [decide_eq_true hsp] at HSP
  clear hsp
  generalize bs (c :: r) = bb at *
  go_wp2_with fail
  refine (HSP.out _).mono ?_
  rintro e w5 ⟨rfl, rfl⟩
  have HC := Lib.hid trc_zero
  have HT2 : Hid (w5.there b2 0 (tcl 0 Rx.noSet (.slice none 0 0)).toArray.size) := Lib.hid (blk_there B2.out _ (by rw [List.size_toArray]; exact Nat.le_refl _))
  go_wp2_with (first | (refine wpList_buildTo rfl 114 _ rfl _ rfl _ built0 ?_) | (refine wpList_store_mid rfl 114 _ _ rfl b2 0 (tcl 0 Rx.noSet (.slice none 0 0)).toArray rfl rfl HT2.out HC.out.sizA (all_oneCell_toArray HC.out.one) ?_))
  have hl := load_tree (World.rangeAt_setCells_same _ b2 0 _ HT2.out) HC.out
  refine bodyPost_ret (v := .tuple #[.agg (tcl 0 Rx.noSet (.slice none 0 0)).toArray, .string ⟨#[]⟩, .bool false]) (results_cell3 Try.results113 rfl hl) rfl ⟨_, HC.out, ?_, rfl⟩
  exact below_setCells HB2.out _ _ K.out
set_option maxRecDepth 100000 in
set_option maxHeartbeats 4000000 in
theorem atom_other (c : Nat) (r : List Nat) (w : World) (hb : ∀ x ∈ (c :: r), x < 256) (hs : r.length + 1 ≤ 1000) (hx : ¬ (c = 40 ∨ c = 91 ∨ c = 46 ∨ c = 92)) (hsp : ¬ c ∈ Rx.special) : Calls Try.prog 113 #[.string (bs (c :: r))] w (TreeEnd w (Rx.atR (c :: r))) := by
  have hG := Rx.atR_cons c r
  have hn1 : c ≠ 40 := fun e => hx (.inl e)
  have hn2 : c ≠ 91 := fun e => hx (.inr (.inl e))
  have hn3 : c ≠ 46 := fun e => hx (.inr (.inr (.inl e)))
  have hn4 : c ≠ 92 := fun e => hx (.inr (.inr (.inr e)))
  rw [if_neg hn1, if_neg hn2, if_neg hn3, if_neg hn4] at hG
  have f1 : ((c : Int) == 40) = false := beq_eq_false_iff_ne.2 (by omega)
  have f2 : ((c : Int) == 91) = false := beq_eq_false_iff_ne.2 (by omega)
  have f3 : ((c : Int) == 46) = false := beq_eq_false_iff_ne.2 (by omega)
  have f4 : ((c : Int) == 92) = false := beq_eq_false_iff_ne.2 (by omega)
  have e1 : (c == 40) = false := beq_eq_false_iff_ne.2 hn1
  have e2 : (c == 91) = false := beq_eq_false_iff_ne.2 hn2
  have e3 : (c == 46) = false := beq_eq_false_iff_ne.2 hn3
  have e4 : (c == 92) = false := beq_eq_false_iff_ne.2 hn4
  have HSP := Lib.hid (special_any c (hb c (by simp)))
  have hc2 : Hid (c < 256) := Lib.hid (hb c (by simp))
  clear hn1 hn2 hn3 hn4 hx
  generalize Rx.atR (c :: r) = G at *
  unfold TreeEnd
  have B2 := Lib.hid (Blk.new w 114 Try.zeroCells114)
  have K := Lib.hid ((Below.refl w.heap.size w).alloc (Nat.le_refl _) (.cells Try.zeroCells114 114))
  have hidx := fun w => idx_bs (c :: r) 0 c rfl (hb c (by simp)) w
  have HBR : Hid (∀ x ∈ r, x < 256) := Lib.hid (fun x hx => hb x (by simp [hx]))
  have hne : (bs (c :: r)).toList.isEmpty = false := by rw [bs_ne]; rfl
  have hsz : (bs (c :: r)).size = r.length + 1 := by rw [bs_size]; rfl
  have ht : (bs (c :: r)).extract 1 (r.length + 1) = bs r := by have := bs_tail c r; rwa [hsz] at this
  have hr1 : (1 : Int) ≤ (r.length : Int) + 1 := by omega
  rw [show ((0 : Nat) : Int) = 0 from rfl] at hidx
  clear hb
  go_enter Try.func113, Try.ntmps113
  go_upto_region 1 with fail
  generalize w.alloc (.cells Try.zeroCells114 114) = w2 at *
  rw [zero114] at B2
  obtain ⟨b2, hb2⟩ : ∃ b, w.heap.size = b := ⟨_, rfl⟩
  have HB2 : Hid (w.heap.size ≤ b2) := Lib.hid (by omega)
  rw [hb2] at B2 ⊢
  clear hb2
  obtain rfl : G = some r := hG.trans (if_neg hsp)
  clear hG
  rw [decide_eq_false hsp] at HSP
  clear hsp
  generalize bs (c :: r) = bb at *
  go_wp2_with fail
  refine (HSP.out _).mono ?_
  rintro e w5 ⟨rfl, rfl⟩
  go_wp2
  have HT2 : Hid (w5.there b2 0 258) := Lib.hid (blk_there B2.out 258 (by rw [trc_zero.len]; exact Nat.le_refl _))
  have KW := K
  refine wp_region_held_drew (S := (fun X => X.there b2 0 258)) (by kernel_rfl) (by exact HT2.out) (fun hHeld => ?_)
  refine wpAnyH_take (i := 0) (v := ?_) (by simp only [List.getElem?_toArray, List.getElem?_cons_succ, List.getElem?_cons_zero]; exact rfl) (by decide +kernel) (by decide +kernel) (by decide +kernel) (by exact fun _ _ _ h => h) (Or.inl ⟨by rfl, ?_⟩) (by assumption) ?_
  rotate_left
  · (intro w hSw; (try dsimp only at hSw); go_simp; try with_reducible rfl)
  try simp only [Act.put, List.setIfInBounds_toArray, List.set_cons_zero, List.set_cons_succ]
  refine wpAnyH_take (i := 1) (v := ?_) (by simp only [List.getElem?_toArray, List.getElem?_cons_succ, List.getElem?_cons_zero]; exact rfl) (by decide +kernel) (by decide +kernel) (by decide +kernel) (by exact fun _ _ _ h => h) (Or.inl ⟨by rfl, ?_⟩) (by assumption) ?_
  rotate_left
  · (intro w hSw; (try dsimp only at hSw); go_simp; try with_reducible rfl)
  try simp only [Act.put, List.setIfInBounds_toArray, List.set_cons_zero, List.set_cons_succ]
  refine wpAnyH_take (i := 3) (v := ?_) (by simp only [List.getElem?_toArray, List.getElem?_cons_succ, List.getElem?_cons_zero]; exact rfl) (by decide +kernel) (by decide +kernel) (by decide +kernel) (by exact fun _ _ _ h => h) (Or.inl ⟨by rfl, ?_⟩) (by assumption) ?_
  rotate_left
  · (intro w hSw; (try dsimp only at hSw); go_simp; try with_reducible rfl)
  try simp only [Act.put, List.setIfInBounds_toArray, List.set_cons_zero, List.set_cons_succ]
  refine wpAnyH_take (i := 4) (v := ?_) (by simp only [List.getElem?_toArray, List.getElem?_cons_succ, List.getElem?_cons_zero]; exact rfl) (by decide +kernel) (by decide +kernel) (by decide +kernel) (by exact fun _ _ _ h => h) (Or.inl ⟨by rfl, ?_⟩) (by assumption) ?_
  rotate_left
  · (intro w hSw; (try dsimp only at hSw); go_simp; try with_reducible rfl)
  try simp only [Act.put, List.setIfInBounds_toArray, List.set_cons_zero, List.set_cons_succ]
  refine wpAnyH_ready (rs := [2]) (by kernel_rfl) (by simp) ?_
  refine AllReadyH.cons (by simp only [List.getElem?_toArray, List.getElem?_cons_succ, List.getElem?_cons_zero]; exact rfl) (fun K hK => ?_) AllReadyH.nil
  go_simp
  go_at_call 118
  refine (one_ref c _ hc2.out).mono ?_
  rintro e w5 ⟨cs, rfl, hc5, hb5⟩
  have HC := Lib.hid hc5
  have HT5 : Hid (w5.there b2 0 258) := Lib.hid (blk_there (B2.out.drew.below hb5 B2.out.lt) 258 (by rw [trc_zero.len]; exact Nat.le_refl _))
  have KK := Lib.hid (below_then KW.out.drew KW.out.size hb5)
  clear hb5 hc5
  go_wp2_with fail
  refine hK.out _ _ (by exact HT5.out) (fun hHeld => ?_)
  clear hK K
  try simp only [Act.put, List.setIfInBounds_toArray, List.set_cons_zero, List.set_cons_succ]
  refine wpAnyH_ready (rs := [5]) (by kernel_rfl) (by simp) ?_
  refine AllReadyH.cons (by simp only [List.getElem?_toArray, List.getElem?_cons_succ, List.getElem?_cons_zero]; exact rfl) (fun K hK => ?_) AllReadyH.nil
  rw [if_pos (by rfl)]
  refine wp_store_mid _ _ _ (by rfl) b2 0 (List.toArray cs) (by rfl) (by rfl) (by rw [show (List.toArray cs).size = 258 from HC.out.len]; exact HT5.out) HC.out.sizA (all_oneCell_toArray HC.out.one) ?_
  refine hK.out _ _ (by exact World.there_setCells HT5.out _ _ _) (fun hHeld => ?_)
  clear hK K
  try simp only [Act.put, List.setIfInBounds_toArray, List.set_cons_zero, List.set_cons_succ]
  refine wpAnyH_take (i := 6) (v := ?_) (by simp only [List.getElem?_toArray, List.getElem?_cons_succ, List.getElem?_cons_zero]; exact rfl) (by decide +kernel) (by decide +kernel) (by decide +kernel) (by exact fun _ _ _ h => h) (Or.inl ⟨by rfl, ?_⟩) (by assumption) ?_
  rotate_left
  · (intro w hSw; (try dsimp only at hSw); go_simp; try with_reducible rfl)
  try simp only [Act.put, List.setIfInBounds_toArray, List.set_cons_zero, List.set_cons_succ]
  refine wpAnyH_take (i := 7) (v := ?_) (by simp only [List.getElem?_toArray, List.getElem?_cons_succ, List.getElem?_cons_zero]; exact rfl) (by decide +kernel) (by decide +kernel) (by decide +kernel) (by exact fun _ _ _ h => h) (Or.inl ⟨by rfl, ?_⟩) (by assumption) ?_
  rotate_left
  · (intro w hSw; (try dsimp only at hSw); go_simp; try with_reducible rfl)
  try simp only [Act.put, List.setIfInBounds_toArray, List.set_cons_zero, List.set_cons_succ]
  refine wpAnyH_done (by kernel_rfl) ?_ _
  go_wp2
  have hld := load_tree (World.rangeAt_setCells_same w5 b2 0 cs (by rw [HC.out.len]; exact HT5.out)) HC.out
  refine bodyPost_ret (v := .tuple #[.agg (List.toArray cs), .string (bs r), .bool true]) (results_cell3 Try.results113 rfl hld) rfl ⟨_, HC.out, ?_, rfl⟩
  exact below_setCells HB2.out _ _ KK.out
/-- The document's atom, where parse reads what is shorter. -/
theorem atom_any (s : List Nat) (w : World) (hne : s ≠ []) (HP : ParOk s.length) (hb : ∀ x ∈ s, x < 256) (hs : s.length ≤ 1000) : Calls Try.prog 113 #[.string (bs s)] w (TreeEnd w (Rx.atR s)) := by
  cases s with
  | nil => exact absurd rfl hne
  | cons c r =>
    simp only [List.length_cons] at HP hs
    by_cases h1 : c = 40
    · subst h1
      exact atom_par r w hb hs HP
    · by_cases h2 : c = 91
      · subst h2
        exact atom_set r w hb hs
      · by_cases h3 : c = 46
        · subst h3
          exact atom_dot r w hb hs
        · by_cases h4 : c = 92
          · subst h4
            cases r with
            | nil => exact atom_back0 [] w hb hs rfl
            | cons d r1 => exact atom_back d r1 _ w hb hs rfl
          · have hx : ¬ (c = 40 ∨ c = 91 ∨ c = 46 ∨ c = 92) := by
              rintro (h | h | h | h) <;> contradiction
            by_cases h5 : c ∈ Rx.special
            · exact atom_special c r w hb hs hx h5
            · exact atom_other c r w hb hs hx h5
end Go.Proofs.Ytnidjfmbbfoheaa

/- WALK: the document's parse, given that atom reads what is no longer; and the two together. -/
namespace Go.Proofs.Ytnidjfmbbfoheaa
set_option linter.unusedVariables false
set_option linter.unusedSimpArgs false
open Go.RowKit

/-- atom does as it should with texts no longer than n. -/
def AtOk (n : Nat) : Prop := ∀ (s : List Nat) (w : World), s ≠ [] → s.length ≤ n → (∀ x ∈ s, x < 256) → s.length ≤ 1000 → Calls Try.prog 113 #[.string (bs s)] w (TreeEnd w (Rx.atR s))
theorem below_then2 {B B' : Nat} {w w1 w2 : World} (h : Below B w w1) (hB : B ≤ B') (k : Below B' w1 w2) : Below B w w2 :=
  h.trans ⟨k.os, k.tape, k.output, k.size, fun i hi => k.block i (by omega)⟩
theorem new_there (W : World) (b : Nat) (hb : W.heap.size = b) (cs : List Value) (hc : TrC cs) : (W.alloc (.cells Try.zeroCells114 114)).there b 0 (List.toArray cs).size := by
  subst hb
  have h := Blk.new W 114 Try.zeroCells114
  have e : Try.zeroCells114.size = 258 := by rw [zero114, List.size_toArray]; exact trc_zero.len
  exact h.there _ (by rw [show (List.toArray cs).size = 258 from hc.len, e]; exact Nat.le_refl _)
theorem new_blk (W : World) (b : Nat) (hb : W.heap.size = b) (cs : List Value) (hc : TrC cs) : Blk ((W.alloc (.cells Try.zeroCells114 114)).setCells b 0 cs) b 114 cs.toArray := by
  subst hb
  have h := Blk.new W 114 Try.zeroCells114
  exact h.tree (by rw [zero114, List.size_toArray]; exact trc_zero.len) hc
theorem new_below {B : Nat} {w : World} (W : World) (b : Nat) (hb : W.heap.size = b) (cs : List Value) (h : Below B w W) (hB : B ≤ W.heap.size) : Below B w ((W.alloc (.cells Try.zeroCells114 114)).setCells b 0 cs) :=
  below_setCells (by omega) cs 0 (h.alloc hB (.cells Try.zeroCells114 114))
theorem new_keeps {W : World} {g t : Nat} {c : Array Value} (h : Blk W g t c) (b : Nat) (hb : W.heap.size = b) (cs : List Value) : Blk ((W.alloc (.cells Try.zeroCells114 114)).setCells b 0 cs) g t c :=
  (h.alloc (.cells Try.zeroCells114 114)).farS (by have := h.lt; omega) 0 cs
set_option maxRecDepth 100000 in
set_option maxHeartbeats 8000000 in
theorem parse_of (s : List Nat) (G : Option (List Nat)) (w : World) (HA : AtOk s.length) (hb : ∀ x ∈ s, x < 256) (hs : s.length ≤ 1000) (HG0 : Hid (G = Rx.parR s)) : Calls Try.prog 102 #[.string (bs s)] w (TreeEnd w G) := by
  have HB0 := Lib.hid hb
  have B2a := Lib.hid (Blk.new w 114 Try.zeroCells114)
  have Ka := Lib.hid ((Below.refl w.heap.size w).alloc (Nat.le_refl _) (.cells Try.zeroCells114 114))
  clear hb
  unfold TreeEnd
  go_enter Try.func102, Try.ntmps102
  go_upto_region 1 with fail
  generalize w.alloc (.cells Try.zeroCells114 114) = wa at *
  rw [zero114] at B2a
  obtain ⟨b2, hb2⟩ : ∃ b, w.heap.size = b := ⟨_, rfl⟩
  have HB2 : Hid (w.heap.size ≤ b2) := Lib.hid (by omega)
  rw [hb2] at B2a ⊢
  clear hb2
  obtain ⟨b5, hb5⟩ : ∃ b, wa.heap.size = b := ⟨_, rfl⟩
  have HC5 : Hid (TrC (tcl 2 Rx.noSet (.slice none 0 0))) := Lib.hid (trc_tcl _ _ _ noSet_len rfl)
  have HT5 := Lib.hid (new_there wa b5 hb5 _ HC5.out)
  have B2b := Lib.hid (new_keeps B2a.out b5 hb5 (tcl 2 Rx.noSet (.slice none 0 0)))
  have B5b := Lib.hid (new_blk wa b5 hb5 _ HC5.out)
  have Kb := Lib.hid (new_below wa b5 hb5 (tcl 2 Rx.noSet (.slice none 0 0)) Ka.out Ka.out.size)
  have HB5 : Hid (w.heap.size ≤ b5) := Lib.hid (by have := Ka.out.size; omega)
  have N25 : Hid (b2 ≠ b5) := Lib.hid (by have := B2a.out.lt; omega)
  clear B2a Ka
  go_upto_region 2 with (first | (refine wpList_buildTo rfl 114 _ rfl _ rfl _ (built1 2) ?_) | (refine wpList_store_mid rfl 114 _ _ rfl b5 0 (List.toArray (tcl 2 Rx.noSet (.slice none 0 0))) (by rw [← hb5]; rfl) rfl HT5.out HC5.out.sizA (all_oneCell_toArray HC5.out.one) ?_))
  generalize (wa.alloc (.cells Try.zeroCells114 114)).setCells b5 0 (tcl 2 Rx.noSet (.slice none 0 0)) = wb at *
  clear HT5 hb5
  obtain ⟨b6, hb6⟩ : ∃ b, wb.heap.size = b := ⟨_, rfl⟩
  have HC6 : Hid (TrC (tcl 1 Rx.noSet (.slice none 0 0))) := Lib.hid (trc_tcl _ _ _ noSet_len rfl)
  have HT6 := Lib.hid (new_there wb b6 hb6 _ HC6.out)
  have B2c := Lib.hid (new_keeps B2b.out b6 hb6 (tcl 1 Rx.noSet (.slice none 0 0)))
  have B5c := Lib.hid (new_keeps B5b.out b6 hb6 (tcl 1 Rx.noSet (.slice none 0 0)))
  have B6c := Lib.hid (new_blk wb b6 hb6 _ HC6.out)
  have Kc := Lib.hid (new_below wb b6 hb6 (tcl 1 Rx.noSet (.slice none 0 0)) Kb.out Kb.out.size)
  have HB6 : Hid (w.heap.size ≤ b6) := Lib.hid (by have := Kb.out.size; omega)
  have N26 : Hid (b2 ≠ b6) := Lib.hid (by have := B2b.out.lt; omega)
  have N56 : Hid (b5 ≠ b6) := Lib.hid (by have := B5b.out.lt; omega)
  clear B2b B5b Kb
  go_upto_region 3 with (first | (refine wpList_buildTo rfl 114 _ rfl _ rfl _ (built1 1) ?_) | (refine wpList_store_mid rfl 114 _ _ rfl b6 0 (List.toArray (tcl 1 Rx.noSet (.slice none 0 0))) (by rw [← hb6]; rfl) rfl HT6.out HC6.out.sizA (all_oneCell_toArray HC6.out.one) ?_))
  generalize (wb.alloc (.cells Try.zeroCells114 114)).setCells b6 0 (tcl 1 Rx.noSet (.slice none 0 0)) = wc at *
  clear HT6 hb6
  obtain ⟨base, hbase⟩ : ∃ b, wc.heap.size = b := ⟨_, rfl⟩
  have HBA : Hid (w.heap.size ≤ base) := Lib.hid (by have := Kc.out.size; omega)
  have P0 : Hid (PSt wc base b2 b5 b6 (.slice none 0 0) (.slice none 0 0) 0 0) := Lib.hid ⟨B2c.out, B5c.out, B6c.out, ⟨_, own_nil _ _ _ _⟩, ⟨_, own_nil _ _ _ _⟩, (fun k e => by cases e), hbase ▸ B2c.out.lt, hbase ▸ B5c.out.lt, hbase ▸ B6c.out.lt, N25.out, N26.out, N56.out, by omega⟩
  have HA2 := Lib.hid HA
  clear B2c B5c B6c hbase HA HC5 HC6 N25 N26 N56
  go_wp2
  try simp only [Act.put]
  go_loopw [0] (fun s0 wv => ∃ (t : List Nat) (A5 A6 : Option Addr) (n5 n6 c5 c6 : Nat), s0 = .string (bs t) ∧ n5 + n6 + t.length ≤ s.length ∧ Hid (G = Rx.parR t) ∧ Hid (∀ x ∈ t, x < 256) ∧ Hid (PSt wv base b2 b5 b6 (.slice A5 n5 c5) (.slice A6 n6 c6) n5 n6) ∧ Hid (Below w.heap.size w wv)) (fun s0 _ => strLen s0)
  case atStart => exact ⟨s, none, none, 0, 0, 0, 0, rfl, by omega, HG0, HB0, P0, Kc⟩
  case round =>
    obtain ⟨t, A5, A6, n5, n6, c5, c6, rfl, hct, HG, HBT, PP, K⟩ := hrel
    obtain ⟨wb, rfl⟩ : ∃ x, x = wr := ⟨wr, rfl⟩
    cases t with
    | nil =>
      obtain rfl : G = some [] := HG.out.trans (Rx.parR_end (.inl rfl))
      clear HG
      simp only [Option.getD_some, Option.isSome_some, List.length_nil] at *
      rw [bs_nil]
      go_upto_region 21 with fail
      obtain ⟨x5, o5⟩ := PP.out.o5
      obtain ⟨x6, o6⟩ := PP.out.o6
      have O5 := Lib.hid o5
      have O6 := Lib.hid o6
      clear o5 o6
      have hlb := PP.out.lb
      have HCS : Hid (TrC (tcl 1 Rx.noSet (.slice A6 n6 c6))) := Lib.hid (trc_tcl _ _ _ noSet_len rfl)
      have HRS := Lib.hid (blk_range PP.out.k6)
      generalize tcl 1 Rx.noSet (.slice A6 n6 c6) = cs6 at *
      have zc : wb.cell? ⟨b5, 257, none⟩ = some (.slice A5 n5 c5) := (PP.out.k5.cell 257).trans (by rw [List.getElem?_toArray]; exact tcl_getv _ _ _ noSet_len)
      have zf := PP.out.k5.frozen 257
      go_upto_region 22 with (first | (refine wpList_load_mid rfl 114 _ rfl b6 0 rfl cs6 _ HRS.out Try.underlying114 rfl HCS.out.siz ?_) | (refine wpList_tree1 rfl _ rfl cs6 rfl HCS.out ?_) | (at_builtin; (refine app_row base rfl (.tmp 80) (.tmp 82) 112 114 _ 258 288 rfl Try.underlying112 info114 tree0_size (by omega) _ n5 x5 (List.toArray cs6) rfl _ rfl rfl HCS.out.one HCS.out.len O5.out hlb (by omega) (by omega) ?_); intro v1 w1 ho hg hat; obtain ⟨A1, c1, rfl⟩ := own_slice ho; have PN := Lib.hid (PP.out.app5 ho hg hat); have KN := Lib.hid (below_of_grown PP.out.lb hg (fun k hk => own_base O5.out k hk)); have zc1 := (PP.out.k5.grown hg (fun e => own_not O5.out PP.out.l5 e.symm)).cell 257; have zf1 := (PP.out.k5.grown hg (fun e => own_not O5.out PP.out.l5 e.symm)).frozen 257; rw [List.getElem?_toArray, tcl_getv _ _ _ noSet_len] at zc1; clear ho hg hat; go_upto_region 22 with fail))
      have KE := Lib.hid ((below_then2 K.out (HBA.out) KN.out).setCell (p := ⟨b5, 257, none⟩) HB5.out (.slice A1 (n5 + 1) c1))
      generalize w1.setCell ⟨b5, 257, none⟩ (.slice A1 (n5 + 1) c1) = w9 at *
      have HCX : Hid (TrC (tcl 2 Rx.noSet (.slice A1 (n5 + 1) c1))) := Lib.hid (trc_tcl _ _ _ noSet_len rfl)
      have HRX := Lib.hid (blk_range PN.out.k5)
      have HT2 : Hid (w9.there b2 0 (List.toArray (tcl 2 Rx.noSet (.slice A1 (n5 + 1) c1))).size) := Lib.hid (blk_there PN.out.k2 _ (by rw [show (List.toArray (tcl 2 Rx.noSet (.slice A1 (n5 + 1) c1))).size = 258 from HCX.out.len, trc_zero.len]; exact Nat.le_refl _))
      generalize tcl 2 Rx.noSet (.slice A1 (n5 + 1) c1) = cs at *
      go_wp2_with (first | (refine wpList_load_mid rfl 114 _ rfl b5 0 rfl cs _ HRX.out Try.underlying114 rfl HCX.out.siz ?_) | (refine wpList_store_mid rfl 114 _ _ rfl b2 0 (List.toArray cs) rfl rfl HT2.out HCX.out.sizA (all_oneCell_toArray HCX.out.one) ?_))
      have hl := load_tree (World.rangeAt_setCells_same _ b2 0 cs HT2.out) HCX.out
      refine bodyPost_ret (v := .tuple #[.agg (List.toArray cs), .string (bs []), .bool true]) (results_cell3 Try.results102 rfl hl) rfl ⟨_, HCX.out, ?_, by first | rfl | simp only [Option.getD_some, Option.isSome_some, HBB.out]⟩
      exact below_setCells HB2.out _ _ KE.out
    | cons c r =>
      have hcb := HBT.out c (by simp)
      have hidx := fun w => idx_bs (c :: r) 0 c rfl hcb w
      rw [show ((0 : Nat) : Int) = 0 from rfl] at hidx
      have hne : (bs (c :: r)).toList.isEmpty = false := by rw [bs_ne]; rfl
      have hsz : (bs (c :: r)).size = r.length + 1 := by rw [bs_size]; rfl
      have hstl : strLen (.string (bs (c :: r))) = r.length + 1 := strLen_bs _
      have ht : (bs (c :: r)).extract 1 (r.length + 1) = bs r := by have := bs_tail c r; rwa [hsz] at this
      have hr1 : (1 : Int) ≤ (r.length : Int) + 1 := by omega
      simp only [List.length_cons] at hct
      by_cases h41 : c = 41
      · subst h41
        obtain rfl : G = some (41 :: r) := HG.out.trans (Rx.parR_end (.inr rfl))
        clear HG
        rw [show ((41 : Nat) : Int) = 41 from rfl] at hidx
        try simp only [Option.getD_some, Option.isSome_some] at *
        obtain ⟨bb, hbb⟩ : ∃ b, bs (41 :: r) = b := ⟨_, rfl⟩
        rw [hbb] at hidx hne hsz hstl ht ⊢
        have HBB := Lib.hid hbb
        clear hbb
        go_upto_region 21 with fail
        obtain ⟨x5, o5⟩ := PP.out.o5
        obtain ⟨x6, o6⟩ := PP.out.o6
        have O5 := Lib.hid o5
        have O6 := Lib.hid o6
        clear o5 o6
        have hlb := PP.out.lb
        have HCS : Hid (TrC (tcl 1 Rx.noSet (.slice A6 n6 c6))) := Lib.hid (trc_tcl _ _ _ noSet_len rfl)
        have HRS := Lib.hid (blk_range PP.out.k6)
        generalize tcl 1 Rx.noSet (.slice A6 n6 c6) = cs6 at *
        have zc : wb.cell? ⟨b5, 257, none⟩ = some (.slice A5 n5 c5) := (PP.out.k5.cell 257).trans (by rw [List.getElem?_toArray]; exact tcl_getv _ _ _ noSet_len)
        have zf := PP.out.k5.frozen 257
        go_upto_region 22 with (first | (refine wpList_load_mid rfl 114 _ rfl b6 0 rfl cs6 _ HRS.out Try.underlying114 rfl HCS.out.siz ?_) | (refine wpList_tree1 rfl _ rfl cs6 rfl HCS.out ?_) | (at_builtin; (refine app_row base rfl (.tmp 80) (.tmp 82) 112 114 _ 258 288 rfl Try.underlying112 info114 tree0_size (by omega) _ n5 x5 (List.toArray cs6) rfl _ rfl rfl HCS.out.one HCS.out.len O5.out hlb (by omega) (by omega) ?_); intro v1 w1 ho hg hat; obtain ⟨A1, c1, rfl⟩ := own_slice ho; have PN := Lib.hid (PP.out.app5 ho hg hat); have KN := Lib.hid (below_of_grown PP.out.lb hg (fun k hk => own_base O5.out k hk)); have zc1 := (PP.out.k5.grown hg (fun e => own_not O5.out PP.out.l5 e.symm)).cell 257; have zf1 := (PP.out.k5.grown hg (fun e => own_not O5.out PP.out.l5 e.symm)).frozen 257; rw [List.getElem?_toArray, tcl_getv _ _ _ noSet_len] at zc1; clear ho hg hat; go_upto_region 22 with fail))
        have KE := Lib.hid ((below_then2 K.out (HBA.out) KN.out).setCell (p := ⟨b5, 257, none⟩) HB5.out (.slice A1 (n5 + 1) c1))
        generalize w1.setCell ⟨b5, 257, none⟩ (.slice A1 (n5 + 1) c1) = w9 at *
        have HCX : Hid (TrC (tcl 2 Rx.noSet (.slice A1 (n5 + 1) c1))) := Lib.hid (trc_tcl _ _ _ noSet_len rfl)
        have HRX := Lib.hid (blk_range PN.out.k5)
        have HT2 : Hid (w9.there b2 0 (List.toArray (tcl 2 Rx.noSet (.slice A1 (n5 + 1) c1))).size) := Lib.hid (blk_there PN.out.k2 _ (by rw [show (List.toArray (tcl 2 Rx.noSet (.slice A1 (n5 + 1) c1))).size = 258 from HCX.out.len, trc_zero.len]; exact Nat.le_refl _))
        generalize tcl 2 Rx.noSet (.slice A1 (n5 + 1) c1) = cs at *
        go_wp2_with (first | (refine wpList_load_mid rfl 114 _ rfl b5 0 rfl cs _ HRX.out Try.underlying114 rfl HCX.out.siz ?_) | (refine wpList_store_mid rfl 114 _ _ rfl b2 0 (List.toArray cs) rfl rfl HT2.out HCX.out.sizA (all_oneCell_toArray HCX.out.one) ?_))
        have hl := load_tree (World.rangeAt_setCells_same _ b2 0 cs HT2.out) HCX.out
        refine bodyPost_ret (v := .tuple #[.agg (List.toArray cs), .string (bb), .bool true]) (results_cell3 Try.results102 rfl hl) rfl ⟨_, HCX.out, ?_, by first | rfl | simp only [Option.getD_some, Option.isSome_some, HBB.out]⟩
        exact below_setCells HB2.out _ _ KE.out
      · by_cases h124 : c = 124
        · subst h124
          have HGN : Hid (G = Rx.parR r) := Lib.hid (HG.out.trans (Rx.parR_bar r))
          have HBN : Hid (∀ x ∈ r, x < 256) := Lib.hid (fun x hx => HBT.out x (by simp [hx]))
          clear HG
          rw [show ((124 : Nat) : Int) = 124 from rfl] at hidx
          generalize bs (124 :: r) = bb at *
          go_upto_region 5 with fail
          obtain ⟨x5, o5⟩ := PP.out.o5
          obtain ⟨x6, o6⟩ := PP.out.o6
          have O5 := Lib.hid o5
          have O6 := Lib.hid o6
          clear o5 o6
          have hlb := PP.out.lb
          have HCS : Hid (TrC (tcl 1 Rx.noSet (.slice A6 n6 c6))) := Lib.hid (trc_tcl _ _ _ noSet_len rfl)
          have HRS := Lib.hid (blk_range PP.out.k6)
          generalize tcl 1 Rx.noSet (.slice A6 n6 c6) = cs6 at *
          have zc : wb.cell? ⟨b5, 257, none⟩ = some (.slice A5 n5 c5) := (PP.out.k5.cell 257).trans (by rw [List.getElem?_toArray]; exact tcl_getv _ _ _ noSet_len)
          have zf := PP.out.k5.frozen 257
          go_upto_region 6 with (first | (refine wpList_load_mid rfl 114 _ rfl b6 0 rfl cs6 _ HRS.out Try.underlying114 rfl HCS.out.siz ?_) | (refine wpList_tree1 rfl _ rfl cs6 rfl HCS.out ?_) | (at_builtin; (refine app_row base rfl (.tmp 25) (.tmp 27) 112 114 _ 258 288 rfl Try.underlying112 info114 tree0_size (by omega) _ n5 x5 (List.toArray cs6) rfl _ rfl rfl HCS.out.one HCS.out.len O5.out hlb (by omega) (by omega) ?_); intro v1 w1 ho hg hat; obtain ⟨A1, c1, rfl⟩ := own_slice ho; have PN := Lib.hid (PP.out.app5 ho hg hat); have KN := Lib.hid (below_of_grown PP.out.lb hg (fun k hk => own_base O5.out k hk)); have zc1 := (PP.out.k5.grown hg (fun e => own_not O5.out PP.out.l5 e.symm)).cell 257; have zf1 := (PP.out.k5.grown hg (fun e => own_not O5.out PP.out.l5 e.symm)).frozen 257; rw [List.getElem?_toArray, tcl_getv _ _ _ noSet_len] at zc1; clear ho hg hat; go_upto_region 6 with fail))
          have KE := Lib.hid ((below_then2 K.out (HBA.out) KN.out).setCell (p := ⟨b5, 257, none⟩) HB5.out (.slice A1 (n5 + 1) c1))
          generalize w1.setCell ⟨b5, 257, none⟩ (.slice A1 (n5 + 1) c1) = w9 at *
          have HC6 : Hid (TrC (tcl 1 Rx.noSet (.slice none 0 0))) := Lib.hid (trc_tcl _ _ _ noSet_len rfl)
          have HT6 : Hid (w9.there b6 0 (List.toArray (tcl 1 Rx.noSet (.slice none 0 0))).size) := Lib.hid (blk_there PN.out.k6 _ (by rw [show (List.toArray (tcl 1 Rx.noSet (.slice none 0 0))).size = 258 from HC6.out.len, tcl_len _ _ _ noSet_len]; exact Nat.le_refl _))
          have PR := Lib.hid PN.out.reset
          have KR := Lib.hid (below_setCells HB6.out (tcl 1 Rx.noSet (.slice none 0 0)) 0 KE.out)
          go_upto_region 7 with (first | (refine wpList_buildTo rfl 114 _ rfl _ rfl _ (built1 1) ?_) | (refine wpList_store_mid rfl 114 _ _ rfl b6 0 (List.toArray (tcl 1 Rx.noSet (.slice none 0 0))) rfl rfl HT6.out HC6.out.sizA (all_oneCell_toArray HC6.out.one) ?_))
          generalize w9.setCells b6 0 (tcl 1 Rx.noSet (.slice none 0 0)) = w10 at *
          clear HT6 HC6
          go_wp2
          go_roundw
          case rel => exact ⟨r, A1, none, n5 + 1, 0, c1, 0, rfl, by omega, HGN, HBN, PR, KR⟩
          case measure => (rw [hstl, strLen_bs]; omega)
        · have f1 : ((c : Int) == 41) = false := beq_eq_false_iff_ne.2 (by omega)
          have f2 : ((c : Int) != 41) = true := by rw [bne_iff_ne]; omega
          have f3 : ((c : Int) == 124) = false := beq_eq_false_iff_ne.2 (by omega)
          have f4 : (c == 124) = false := beq_eq_false_iff_ne.2 h124
          have hG := HG.out.trans (Rx.parR_atom (by simp [h41]) (by simp [h124]))
          have HGQ := Lib.hid hG
          have HAT := Lib.hid (fun w => HA2.out (c :: r) w (by simp) (by simp only [List.length_cons]; omega) HBT.out (by simp only [List.length_cons]; omega))
          have HSB : Hid (∀ s1, Rx.atR (c :: r) = some s1 → s1.length < r.length + 1 ∧ ∀ x ∈ s1, x < 256) := Lib.hid (fun s1 h => ⟨Rx.atR_short h, fun x hx => HBT.out x (Rx.atB_sub _ _ _ h x hx)⟩)
          unfold TreeEnd at HAT
          clear HG hG
          generalize Rx.atR (c :: r) = q at *
          generalize bs (c :: r) = bb at *
          go_upto_region 8 with fail
          go_wp2_with fail
          refine (HAT.out _).mono ?_
          rintro e w5 ⟨cs, hc5, hbk, rfl⟩
          have HC := Lib.hid hc5
          obtain ⟨b7, hb7⟩ : ∃ b, w5.heap.size = b := ⟨_, rfl⟩
          have Pa := Lib.hid (PP.out.below hbk)
          have Ka := Lib.hid (below_then K.out K.out.size hbk)
          have HT7 := Lib.hid (new_there w5 b7 hb7 cs HC.out)
          have B7 := Lib.hid (new_blk w5 b7 hb7 cs HC.out)
          have Kb := Lib.hid (new_below w5 b7 hb7 cs Ka.out Ka.out.size)
          have NB7 : Hid (base ≤ b7 ∧ (Value.slice A5 n5 c5).ownBlock ≠ some b7 ∧ (Value.slice A6 n6 c6).ownBlock ≠ some b7) := Lib.hid (by
            obtain ⟨x5, o5⟩ := Pa.out.o5
            obtain ⟨x6, o6⟩ := Pa.out.o6
            refine ⟨by have := Pa.out.lb; omega, fun e => ?_, fun e => ?_⟩
            · have := own_lt o5 b7 e; omega
            · have := own_lt o6 b7 e; omega)
          have Pb := Lib.hid ((Pa.out.alloc (.cells Try.zeroCells114 114)).other NB7.out.1 NB7.out.2.1 NB7.out.2.2 cs)
          have HB7 : Hid (w.heap.size ≤ b7) := Lib.hid (by have := Ka.out.size; omega)
          clear hbk hc5 Pa Ka PP K HAT
          go_upto_region 9 with (refine wpList_store_mid rfl 114 _ _ rfl b7 0 (List.toArray cs) (by rw [← hb7]; rfl) rfl HT7.out HC.out.sizA (all_oneCell_toArray HC.out.one) ?_)
          generalize (w5.alloc (.cells Try.zeroCells114 114)).setCells b7 0 cs = w7 at *
          clear HT7 hb7 hidx hne hsz ht hr1 f1 f2 f3 f4
          cases q with
          | none =>
            obtain rfl : G = none := HGQ.out
            clear HGQ
            simp only [Option.getD_none, Option.isSome_none, bs_nil]
            clear HC B7
            have HCX : Hid (TrC (tcl 2 Rx.noSet (.slice A5 n5 c5))) := Lib.hid (trc_tcl _ _ _ noSet_len rfl)
            have HRX := Lib.hid (blk_range Pb.out.k5)
            have HT2 : Hid (w7.there b2 0 (List.toArray (tcl 2 Rx.noSet (.slice A5 n5 c5))).size) := Lib.hid (blk_there Pb.out.k2 _ (by rw [show (List.toArray (tcl 2 Rx.noSet (.slice A5 n5 c5))).size = 258 from HCX.out.len, trc_zero.len]; exact Nat.le_refl _))
            generalize tcl 2 Rx.noSet (.slice A5 n5 c5) = cs at *
            go_wp2_with (first | (refine wpList_load_mid rfl 114 _ rfl b5 0 rfl cs _ HRX.out Try.underlying114 rfl HCX.out.siz ?_) | (refine wpList_store_mid rfl 114 _ _ rfl b2 0 (List.toArray cs) rfl rfl HT2.out HCX.out.sizA (all_oneCell_toArray HCX.out.one) ?_))
            have hl := load_tree (World.rangeAt_setCells_same _ b2 0 cs HT2.out) HCX.out
            refine bodyPost_ret (v := .tuple #[.agg (List.toArray cs), .string (⟨#[]⟩), .bool false]) (results_cell3 Try.results102 rfl hl) rfl ⟨_, HCX.out, ?_, by first | rfl | simp only [Option.getD_some, Option.isSome_some, HBB.out]⟩
            exact below_setCells HB2.out _ _ Kb.out
          | some s1 =>
            simp only [Option.getD_some, Option.isSome_some]
            obtain ⟨hl1, hb1⟩ := HSB.out s1 rfl
            have HB1 := Lib.hid hb1
            have HGP : Hid (G = Rx.parR (Rx.repsB s1)) := Lib.hid HGQ.out
            clear HGQ hb1 HSB
            go_upto_region 12 with fail
            go_loopw [0] (fun s0 wv => ∃ (t : List Nat) (cs7 : List Value), s0 = .string (bs t) ∧ t.length ≤ s1.length ∧ Hid (Rx.repsB t = Rx.repsB s1) ∧ Hid (∀ x ∈ t, x < 256) ∧ Hid (TrC cs7) ∧ Hid (Blk wv b7 114 cs7.toArray) ∧ Hid (PSt wv base b2 b5 b6 (.slice A5 n5 c5) (.slice A6 n6 c6) n5 n6) ∧ Hid (Below w.heap.size w wv)) (fun s0 _ => strLen s0)
            case atStart => exact ⟨s1, cs, rfl, Nat.le_refl _, Lib.hid rfl, HB1, HC, B7, Pb, Kb⟩
            case round =>
              obtain ⟨t, cs7, rfl, htl, HRP, HBN, HC7, B7, PI, KI⟩ := hrel
              cases t with
              | nil =>
                have HGN : Hid (G = Rx.parR []) := Lib.hid (HGP.out.trans (by rw [← HRP.out]; rfl))
                simp only [List.length_nil] at htl
                rw [bs_nil]
                go_upto_region 20 with fail
                have HCS := HC7
                have HRS := Lib.hid (blk_range B7.out)
                obtain ⟨x5, o5⟩ := PI.out.o5
                obtain ⟨x6, o6⟩ := PI.out.o6
                have O5 := Lib.hid o5
                have O6 := Lib.hid o6
                clear o5 o6
                have hlb := PI.out.lb
                have zc : wr.cell? ⟨b6, 257, none⟩ = some (.slice A6 n6 c6) := (PI.out.k6.cell 257).trans (by rw [List.getElem?_toArray]; exact tcl_getv _ _ _ noSet_len)
                have zf := PI.out.k6.frozen 257
                go_wp2_with (first | (refine wpList_load_mid rfl 114 _ rfl b7 0 rfl cs7 _ HRS.out Try.underlying114 rfl HCS.out.siz ?_) | (refine wpList_tree1 rfl _ rfl cs7 rfl HCS.out ?_) | (at_builtin; (refine app_row base rfl (.tmp 74) (.tmp 76) 112 114 _ 258 288 rfl Try.underlying112 info114 tree0_size (by omega) _ n6 x6 (List.toArray cs7) rfl _ rfl rfl HCS.out.one HCS.out.len O6.out hlb (by omega) (by omega) ?_); intro v1 w1 ho hg hat; obtain ⟨A1, c1, rfl⟩ := own_slice ho; have PN := Lib.hid (PI.out.app6 ho hg hat); have KN := Lib.hid (below_of_grown PI.out.lb hg (fun k hk => own_base O6.out k hk)); have zc1 := (PI.out.k6.grown hg (fun e => own_not O6.out PI.out.l6 e.symm)).cell 257; have zf1 := (PI.out.k6.grown hg (fun e => own_not O6.out PI.out.l6 e.symm)).frozen 257; rw [List.getElem?_toArray, tcl_getv _ _ _ noSet_len] at zc1; clear ho hg hat; go_wp2))
                have KE := Lib.hid ((below_then2 KI.out (HBA.out) KN.out).setCell (p := ⟨b6, 257, none⟩) HB6.out (.slice A1 (n6 + 1) c1))
                generalize w1.setCell ⟨b6, 257, none⟩ (.slice A1 (n6 + 1) c1) = w9 at *
                go_roundw
                case rel => exact ⟨[], A5, A1, n5, n6 + 1, c5, c1, rfl, by first | omega | (simp only [List.length_cons, List.length_nil] at *; omega), HGN, HBN, PN, KE⟩
                case measure => (first | (rw [hstl]; show (0 : Nat) < _; omega) | (rw [hstl, strLen_bs]; simp only [List.length_cons] at *; omega))
              | cons c2 r2 =>
                have hjdx := fun w => idx_bs (c2 :: r2) 0 c2 rfl (HBN.out c2 (by simp)) w
                rw [show ((0 : Nat) : Int) = 0 from rfl] at hjdx
                have hne2 : (bs (c2 :: r2)).toList.isEmpty = false := by rw [bs_ne]; rfl
                have hsz2 : (bs (c2 :: r2)).size = r2.length + 1 := by rw [bs_size]; rfl
                have hstl2 : strLen (.string (bs (c2 :: r2))) = r2.length + 1 := strLen_bs _
                have ht2 : (bs (c2 :: r2)).extract 1 (r2.length + 1) = bs r2 := by have := bs_tail c2 r2; rwa [hsz2] at this
                have hr2 : (1 : Int) ≤ (r2.length : Int) + 1 := by omega
                simp only [List.length_cons] at htl
                have HBR : Hid (∀ x ∈ r2, x < 256) := Lib.hid (fun x hx => HBN.out x (by simp [hx]))
                by_cases h42 : c2 = 42
                · subst h42
                  have HRR : Hid (Rx.repsB r2 = Rx.repsB s1) := Lib.hid ((Rx.repsB_rep r2 (by decide)).symm.trans HRP.out)
                  rw [show ((42 : Nat) : Int) = 42 from rfl] at hjdx
                  generalize bs (42 :: r2) = b3 at *
                  have HR7 := Lib.hid (blk_range B7.out)
                  have HCN : Hid (TrC (tcl 3 Rx.noSet (.slice (some ⟨wr.heap.size, 0, none⟩) 1 1))) := Lib.hid (trc_tcl _ _ _ noSet_len rfl)
                  have HT7 : Hid ((wr.alloc (.cells cs7.toArray 114)).there b7 0 (List.toArray (tcl 3 Rx.noSet (.slice (some ⟨wr.heap.size, 0, none⟩) 1 1))).size) := Lib.hid (blk_there (B7.out.alloc _) _ (by rw [show (List.toArray (tcl 3 Rx.noSet (.slice (some ⟨wr.heap.size, 0, none⟩) 1 1))).size = 258 from HCN.out.len, HC7.out.len]; exact Nat.le_refl _))
                  have B7N := Lib.hid ((B7.out.alloc (.cells cs7.toArray 114)).tree (by rw [List.size_toArray]; exact HC7.out.len) HCN.out)
                  have PN := Lib.hid ((PI.out.alloc (.cells cs7.toArray 114)).other NB7.out.1 NB7.out.2.1 NB7.out.2.2 (tcl 3 Rx.noSet (.slice (some ⟨wr.heap.size, 0, none⟩) 1 1)))
                  have KN := Lib.hid (below_setCells HB7.out (tcl 3 Rx.noSet (.slice (some ⟨wr.heap.size, 0, none⟩) 1 1)) 0 (KI.out.alloc KI.out.size (.cells cs7.toArray 114)))
                  go_upto_region 18 with fail
                  go_upto_region 19 with (first | (refine wpList_load_mid rfl 114 _ rfl b7 0 rfl cs7 _ HR7.out Try.underlying114 rfl HC7.out.siz ?_) | (refine wpList_tree1 rfl _ rfl cs7 rfl HC7.out ?_) | (refine wpList_buildTo rfl 114 _ rfl _ rfl _ (built2 3 _ _ _) ?_) | (refine wpList_store_mid rfl 114 _ _ rfl b7 0 (List.toArray (tcl 3 Rx.noSet (.slice (some ⟨wr.heap.size, 0, none⟩) 1 1))) rfl rfl HT7.out HCN.out.sizA (all_oneCell_toArray HCN.out.one) ?_))
                  generalize (wr.alloc (.cells cs7.toArray 114)).setCells b7 0 (tcl 3 Rx.noSet (.slice (some ⟨wr.heap.size, 0, none⟩) 1 1)) = w10 at *
                  clear HT7 HR7
                  go_wp2
                  go_roundw
                  case rel => exact ⟨r2, _, rfl, by omega, HRR, HBR, HCN, B7N, PN, KN⟩
                  case measure => (rw [hstl2, strLen_bs]; omega)
                · by_cases h43 : c2 = 43
                  · subst h43
                    have HRR : Hid (Rx.repsB r2 = Rx.repsB s1) := Lib.hid ((Rx.repsB_rep r2 (by decide)).symm.trans HRP.out)
                    rw [show ((43 : Nat) : Int) = 43 from rfl] at hjdx
                    generalize bs (43 :: r2) = b3 at *
                    have HR7 := Lib.hid (blk_range B7.out)
                    have HCN : Hid (TrC (tcl 4 Rx.noSet (.slice (some ⟨wr.heap.size, 0, none⟩) 1 1))) := Lib.hid (trc_tcl _ _ _ noSet_len rfl)
                    have HT7 : Hid ((wr.alloc (.cells cs7.toArray 114)).there b7 0 (List.toArray (tcl 4 Rx.noSet (.slice (some ⟨wr.heap.size, 0, none⟩) 1 1))).size) := Lib.hid (blk_there (B7.out.alloc _) _ (by rw [show (List.toArray (tcl 4 Rx.noSet (.slice (some ⟨wr.heap.size, 0, none⟩) 1 1))).size = 258 from HCN.out.len, HC7.out.len]; exact Nat.le_refl _))
                    have B7N := Lib.hid ((B7.out.alloc (.cells cs7.toArray 114)).tree (by rw [List.size_toArray]; exact HC7.out.len) HCN.out)
                    have PN := Lib.hid ((PI.out.alloc (.cells cs7.toArray 114)).other NB7.out.1 NB7.out.2.1 NB7.out.2.2 (tcl 4 Rx.noSet (.slice (some ⟨wr.heap.size, 0, none⟩) 1 1)))
                    have KN := Lib.hid (below_setCells HB7.out (tcl 4 Rx.noSet (.slice (some ⟨wr.heap.size, 0, none⟩) 1 1)) 0 (KI.out.alloc KI.out.size (.cells cs7.toArray 114)))
                    go_upto_region 18 with fail
                    go_upto_region 19 with (first | (refine wpList_load_mid rfl 114 _ rfl b7 0 rfl cs7 _ HR7.out Try.underlying114 rfl HC7.out.siz ?_) | (refine wpList_tree1 rfl _ rfl cs7 rfl HC7.out ?_) | (refine wpList_buildTo rfl 114 _ rfl _ rfl _ (built2 4 _ _ _) ?_) | (refine wpList_store_mid rfl 114 _ _ rfl b7 0 (List.toArray (tcl 4 Rx.noSet (.slice (some ⟨wr.heap.size, 0, none⟩) 1 1))) rfl rfl HT7.out HCN.out.sizA (all_oneCell_toArray HCN.out.one) ?_))
                    generalize (wr.alloc (.cells cs7.toArray 114)).setCells b7 0 (tcl 4 Rx.noSet (.slice (some ⟨wr.heap.size, 0, none⟩) 1 1)) = w10 at *
                    clear HT7 HR7
                    go_wp2
                    go_roundw
                    case rel => exact ⟨r2, _, rfl, by omega, HRR, HBR, HCN, B7N, PN, KN⟩
                    case measure => (rw [hstl2, strLen_bs]; omega)
                  · by_cases h63 : c2 = 63
                    · subst h63
                      have HRR : Hid (Rx.repsB r2 = Rx.repsB s1) := Lib.hid ((Rx.repsB_rep r2 (by decide)).symm.trans HRP.out)
                      rw [show ((63 : Nat) : Int) = 63 from rfl] at hjdx
                      generalize bs (63 :: r2) = b3 at *
                      have HR7 := Lib.hid (blk_range B7.out)
                      have HCN : Hid (TrC (tcl 5 Rx.noSet (.slice (some ⟨wr.heap.size, 0, none⟩) 1 1))) := Lib.hid (trc_tcl _ _ _ noSet_len rfl)
                      have HT7 : Hid ((wr.alloc (.cells cs7.toArray 114)).there b7 0 (List.toArray (tcl 5 Rx.noSet (.slice (some ⟨wr.heap.size, 0, none⟩) 1 1))).size) := Lib.hid (blk_there (B7.out.alloc _) _ (by rw [show (List.toArray (tcl 5 Rx.noSet (.slice (some ⟨wr.heap.size, 0, none⟩) 1 1))).size = 258 from HCN.out.len, HC7.out.len]; exact Nat.le_refl _))
                      have B7N := Lib.hid ((B7.out.alloc (.cells cs7.toArray 114)).tree (by rw [List.size_toArray]; exact HC7.out.len) HCN.out)
                      have PN := Lib.hid ((PI.out.alloc (.cells cs7.toArray 114)).other NB7.out.1 NB7.out.2.1 NB7.out.2.2 (tcl 5 Rx.noSet (.slice (some ⟨wr.heap.size, 0, none⟩) 1 1)))
                      have KN := Lib.hid (below_setCells HB7.out (tcl 5 Rx.noSet (.slice (some ⟨wr.heap.size, 0, none⟩) 1 1)) 0 (KI.out.alloc KI.out.size (.cells cs7.toArray 114)))
                      go_upto_region 18 with fail
                      go_upto_region 19 with (first | (refine wpList_load_mid rfl 114 _ rfl b7 0 rfl cs7 _ HR7.out Try.underlying114 rfl HC7.out.siz ?_) | (refine wpList_tree1 rfl _ rfl cs7 rfl HC7.out ?_) | (refine wpList_buildTo rfl 114 _ rfl _ rfl _ (built2 5 _ _ _) ?_) | (refine wpList_store_mid rfl 114 _ _ rfl b7 0 (List.toArray (tcl 5 Rx.noSet (.slice (some ⟨wr.heap.size, 0, none⟩) 1 1))) rfl rfl HT7.out HCN.out.sizA (all_oneCell_toArray HCN.out.one) ?_))
                      generalize (wr.alloc (.cells cs7.toArray 114)).setCells b7 0 (tcl 5 Rx.noSet (.slice (some ⟨wr.heap.size, 0, none⟩) 1 1)) = w10 at *
                      clear HT7 HR7
                      go_wp2
                      go_roundw
                      case rel => exact ⟨r2, _, rfl, by omega, HRR, HBR, HCN, B7N, PN, KN⟩
                      case measure => (rw [hstl2, strLen_bs]; omega)
                    · have HGN : Hid (G = Rx.parR (c2 :: r2)) := Lib.hid (HGP.out.trans (by rw [← HRP.out, Rx.repsB_other r2 (by simp [h42, h43, h63])]))
                      have g1 : ((c2 : Int) == 42) = false := beq_eq_false_iff_ne.2 (by omega)
                      have g2 : ((c2 : Int) == 43) = false := beq_eq_false_iff_ne.2 (by omega)
                      have g3 : ((c2 : Int) == 63) = false := beq_eq_false_iff_ne.2 (by omega)
                      have g4 : (c2 == 42) = false := beq_eq_false_iff_ne.2 h42
                      have g5 : (c2 == 43) = false := beq_eq_false_iff_ne.2 h43
                      have g6 : (c2 == 63) = false := beq_eq_false_iff_ne.2 h63
                      have hbb : Hid (bs (c2 :: r2) = bs (c2 :: r2)) := Lib.hid rfl
                      go_upto_region 20 with fail
                      clear g1 g2 g3 g4 g5 g6 h42 h43 h63 hne2 hsz2 ht2 hjdx
                      have HCS := HC7
                      have HRS := Lib.hid (blk_range B7.out)
                      obtain ⟨x5, o5⟩ := PI.out.o5
                      obtain ⟨x6, o6⟩ := PI.out.o6
                      have O5 := Lib.hid o5
                      have O6 := Lib.hid o6
                      clear o5 o6
                      have hlb := PI.out.lb
                      have zc : wr.cell? ⟨b6, 257, none⟩ = some (.slice A6 n6 c6) := (PI.out.k6.cell 257).trans (by rw [List.getElem?_toArray]; exact tcl_getv _ _ _ noSet_len)
                      have zf := PI.out.k6.frozen 257
                      go_wp2_with (first | (refine wpList_load_mid rfl 114 _ rfl b7 0 rfl cs7 _ HRS.out Try.underlying114 rfl HCS.out.siz ?_) | (refine wpList_tree1 rfl _ rfl cs7 rfl HCS.out ?_) | (at_builtin; (refine app_row base rfl (.tmp 74) (.tmp 76) 112 114 _ 258 288 rfl Try.underlying112 info114 tree0_size (by omega) _ n6 x6 (List.toArray cs7) rfl _ rfl rfl HCS.out.one HCS.out.len O6.out hlb (by omega) (by omega) ?_); intro v1 w1 ho hg hat; obtain ⟨A1, c1, rfl⟩ := own_slice ho; have PN := Lib.hid (PI.out.app6 ho hg hat); have KN := Lib.hid (below_of_grown PI.out.lb hg (fun k hk => own_base O6.out k hk)); have zc1 := (PI.out.k6.grown hg (fun e => own_not O6.out PI.out.l6 e.symm)).cell 257; have zf1 := (PI.out.k6.grown hg (fun e => own_not O6.out PI.out.l6 e.symm)).frozen 257; rw [List.getElem?_toArray, tcl_getv _ _ _ noSet_len] at zc1; clear ho hg hat; go_wp2))
                      have KE := Lib.hid ((below_then2 KI.out (HBA.out) KN.out).setCell (p := ⟨b6, 257, none⟩) HB6.out (.slice A1 (n6 + 1) c1))
                      generalize w1.setCell ⟨b6, 257, none⟩ (.slice A1 (n6 + 1) c1) = w9 at *
                      go_roundw
                      case rel => exact ⟨(c2 :: r2), A5, A1, n5, n6 + 1, c5, c1, rfl, by first | omega | (simp only [List.length_cons, List.length_nil] at *; omega), HGN, HBN, PN, KE⟩
                      case measure => (first | (rw [hstl]; show (0 : Nat) < _; omega) | (rw [hstl, strLen_bs]; simp only [List.length_cons] at *; omega))
/-- The document's parse and atom. -/
theorem par_ok : ∀ n : Nat, ParOk n
  | 0 => fun s w h _ _ => by omega
  | n + 1 => fun s w h hb hs => by
    have IH := par_ok n
    refine parse_of s _ w ?_ hb hs (Lib.hid rfl)
    intro t w2 hne ht hbt hst
    exact atom_any t w2 hne (fun u w3 hu => IH u w3 (by omega)) hbt hst
theorem parse_ref (s : List Nat) (w : World) (hb : ∀ x ∈ s, x < 256) (hs : s.length ≤ 1000) : Calls Try.prog 102 #[.string (bs s)] w (TreeEnd w (Rx.parR s)) := par_ok (s.length + 1) s w (by omega) hb hs
end Go.Proofs.Ytnidjfmbbfoheaa

/- WALKS: the document's Parse and Check. -/
namespace Go.Proofs.Ytnidjfmbbfoheaa
set_option linter.unusedVariables false
set_option linter.unusedSimpArgs false
open Go.RowKit

theorem errOf_par (s : List Nat) : errOf s = if Rx.parR s = some [] then 0 else 9 := by
  have h := Rx.read_like s
  unfold errOf
  unfold Rx.readB at h
  unfold Rx.parR
  cases hr : Rx.readA s with
  | none =>
    rw [hr] at h
    split at h
    · cases h
    · rename_i hn
      rw [if_neg (fun e => hn e)]
  | some r =>
    rw [hr] at h
    split at h
    · rename_i e
      rw [if_pos e]
    · cases h
theorem results_cell2 {P : Program} {fn : Func} {tmps : Array Value} {w : World} {a b : Nat} {t : TypeId} {ad : Addr} {v : Value} (hr : fn.results = #[.cell a t, .tmp b]) (ha : tmps.getD a undef = .pointer (some ad)) (hl : (loadVar t ad).run P w = .ok v w) : (results fn tmps).run P w = .ok (.tuple #[v, tmps.getD b undef]) w := by
  have ha' : tmps[a]?.getD undef = .pointer (some ad) := by simpa using ha
  unfold results
  rw [hr]
  simp [ha', asAddr, hl, Sem.run_bind, Result.andThen]
def ParseEnd (w : World) (E : Int) (e : Ending) (w' : World) : Prop := ∃ cs, TrC cs ∧ Below w.heap.size w w' ∧ e = .returned (.tuple #[.agg cs.toArray, .int .i64 E])
set_option maxRecDepth 100000 in
set_option maxHeartbeats 4000000 in
theorem refParse_any (s : List Nat) (w : World) (hb : ∀ x ∈ s, x < 256) (hs : s.length ≤ 64) : Calls Try.prog 68 #[.string (bs s)] w (ParseEnd w (errOf s)) := by
  have HP2 := Lib.hid (fun w => parse_ref s w hb (by omega))
  have hE0 := errOf_par s
  generalize errOf s = E at *
  unfold ParseEnd
  unfold TreeEnd at HP2
  have B2 := Lib.hid (Blk.new w 114 Try.zeroCells114)
  have K := Lib.hid ((Below.refl w.heap.size w).alloc (Nat.le_refl _) (.cells Try.zeroCells114 114))
  have hsz := bs_size s
  have hs64 : decide ((s.length : Int) > 64) = false := by simp; omega
  generalize Rx.parR s = q at *
  have HE := Lib.hid hE0
  clear hb hE0
  go_enter Try.func68, Try.ntmps68
  go_upto_region 1 with fail
  generalize w.alloc (.cells Try.zeroCells114 114) = w2 at *
  rw [zero114] at B2
  obtain ⟨b2, hb2⟩ : ∃ b, w.heap.size = b := ⟨_, rfl⟩
  have HB2 : Hid (w.heap.size ≤ b2) := Lib.hid (by omega)
  rw [hb2] at B2 ⊢
  clear hb2
  generalize bs s = bb at *
  go_wp2_with fail
  refine (HP2.out _).mono ?_
  rintro e w5 ⟨cs, hc5, hbk, rfl⟩
  have HC := Lib.hid hc5
  obtain ⟨b5, hb5⟩ : ∃ b, w5.heap.size = b := ⟨_, rfl⟩
  have HNE : Hid (b2 ≠ b5) := Lib.hid (by have := B2.out.lt; have := hbk.size; omega)
  have B2a := Lib.hid ((B2.out.below hbk B2.out.lt).alloc (.cells Try.zeroCells114 114))
  have B5a : Hid (Blk (w5.alloc (.cells Try.zeroCells114 114)) b5 114 (tcl 0 Rx.noSet (.slice none 0 0)).toArray) := Lib.hid (by
    have h := Blk.new w5 114 Try.zeroCells114
    rw [hb5] at h
    rw [← zero114]
    exact h)
  have KK := Lib.hid (below_then K.out K.out.size hbk)
  have KA := Lib.hid (KK.out.alloc KK.out.size (.cells Try.zeroCells114 114))
  have HBH : Hid (w.heap.size ≤ b5) := Lib.hid (by have := KK.out.size; omega)
  have HT5 : Hid ((w5.alloc (.cells Try.zeroCells114 114)).there b5 0 (List.toArray cs).size) := Lib.hid (blk_there B5a.out _ (by rw [show (List.toArray cs).size = 258 from HC.out.len, trc_zero.len]; exact Nat.le_refl _))
  have B2b := Lib.hid (B2a.out.farS HNE.out 0 cs)
  have B5b := Lib.hid (B5a.out.tree (by rw [List.size_toArray]; exact trc_zero.len) HC.out)
  have KB := Lib.hid (below_setCells HBH.out cs 0 KA.out)
  clear hbk hc5 B2a B5a KK KA
  have HRX := Lib.hid (blk_range B5b.out)
  go_upto_region 4 with (refine wpList_store_mid rfl 114 _ _ rfl b5 0 (List.toArray cs) (by rw [← hb5]; rfl) rfl HT5.out HC.out.sizA (all_oneCell_toArray HC.out.one) ?_)
  generalize (w5.alloc (.cells Try.zeroCells114 114)).setCells b5 0 cs = w7 at *
  clear HT5 hb5
  have HT2 : Hid (w7.there b2 0 (List.toArray cs).size) := Lib.hid (blk_there B2b.out _ (by rw [show (List.toArray cs).size = 258 from HC.out.len, trc_zero.len]; exact Nat.le_refl _))
  have HZ := Lib.hid trc_zero
  have HT0 : Hid (w7.there b2 0 (tcl 0 Rx.noSet (.slice none 0 0)).toArray.size) := Lib.hid (blk_there B2b.out _ (by rw [List.size_toArray]; exact Nat.le_refl _))
  cases q with
  | none =>
    obtain rfl : E = 9 := HE.out.trans (if_neg (by simp))
    simp only [Option.getD_none, Option.isSome_none, bs_nil]
    go_wp2_with (first | (refine wpList_buildTo rfl 114 _ rfl _ rfl _ built0 ?_) | (refine wpList_store_mid rfl 114 _ _ rfl b2 0 (tcl 0 Rx.noSet (.slice none 0 0)).toArray rfl rfl HT0.out HZ.out.sizA (all_oneCell_toArray HZ.out.one) ?_))
    have hl := load_tree (World.rangeAt_setCells_same _ b2 0 _ HT0.out) HZ.out
    refine bodyPost_ret (v := .tuple #[.agg (tcl 0 Rx.noSet (.slice none 0 0)).toArray, .int .i64 9]) (results_cell2 Try.results68 rfl hl) rfl ⟨_, HZ.out, ?_, rfl⟩
    exact below_setCells HB2.out _ _ KB.out
  | some s1 =>
    simp only [Option.getD_some, Option.isSome_some]
    cases s1 with
    | nil =>
      obtain rfl : E = 0 := HE.out.trans (if_pos rfl)
      simp only [bs_nil]
      go_wp2_with (first | (refine wpList_load_mid rfl 114 _ rfl b5 0 rfl cs _ HRX.out Try.underlying114 rfl HC.out.siz ?_) | (refine wpList_store_mid rfl 114 _ _ rfl b2 0 (List.toArray cs) rfl rfl HT2.out HC.out.sizA (all_oneCell_toArray HC.out.one) ?_))
      have hl := load_tree (World.rangeAt_setCells_same _ b2 0 cs HT2.out) HC.out
      refine bodyPost_ret (v := .tuple #[.agg (List.toArray cs), .int .i64 0]) (results_cell2 Try.results68 rfl hl) rfl ⟨_, HC.out, ?_, rfl⟩
      exact below_setCells HB2.out _ _ KB.out
    | cons d s2 =>
      obtain rfl : E = 9 := HE.out.trans (if_neg (by simp))
      have hne2 : (bs (d :: s2)).toList.isEmpty = false := by rw [bs_ne]; rfl
      generalize bs (d :: s2) = b3 at *
      go_wp2_with (first | (refine wpList_buildTo rfl 114 _ rfl _ rfl _ built0 ?_) | (refine wpList_store_mid rfl 114 _ _ rfl b2 0 (tcl 0 Rx.noSet (.slice none 0 0)).toArray rfl rfl HT0.out HZ.out.sizA (all_oneCell_toArray HZ.out.one) ?_))
      have hl := load_tree (World.rangeAt_setCells_same _ b2 0 _ HT0.out) HZ.out
      refine bodyPost_ret (v := .tuple #[.agg (tcl 0 Rx.noSet (.slice none 0 0)).toArray, .int .i64 9]) (results_cell2 Try.results68 rfl hl) rfl ⟨_, HZ.out, ?_, rfl⟩
      exact below_setCells HB2.out _ _ KB.out
set_option maxRecDepth 100000 in
theorem rcheck_name (n v : List Nat) (op : Int) (hn : ∀ x ∈ n, x < 256) (ln : n.length ≤ 9223372036854775807) (h : nameB n = false) (w : World) :
    Calls Try.prog 37 #[mval n v op] w fun e w' => e = .returned (.int .i64 6) ∧ Below w.heap.size w w' := by
  have H := Lib.hid (fun w => refName_any n hn ln w)
  rw [h] at H
  unfold mval
  clear hn h
  generalize bs n = bn at *
  generalize bs v = bv1 at *
  go_enter Try.func37, Try.ntmps37
  go_wp2_with fail
  refine (H.out _).mono ?_
  rintro e w1 ⟨rfl, rfl⟩
  go_wp2
  go_ret
  exact ⟨rfl, (Below.refl _ _).alloc (Nat.le_refl _) _⟩
set_option maxRecDepth 100000 in
theorem rcheck_op (n v : List Nat) (op : Int) (hn : ∀ x ∈ n, x < 256) (ln : n.length ≤ 9223372036854775807) (h : nameB n = true) (h0 : 0 ≤ op) (h255 : op ≤ 255) (h3 : 3 < op) (w : World) :
    Calls Try.prog 37 #[mval n v op] w fun e w' => e = .returned (.int .i64 2) ∧ Below w.heap.size w w' := by
  have H := Lib.hid (fun w => refName_any n hn ln w)
  rw [h] at H
  unfold mval
  have sv := bs_size v
  clear hn h
  generalize bs n = bn at *
  generalize bs v = bv1 at *
  go_enter Try.func37, Try.ntmps37
  go_wp2_with fail
  refine (H.out _).mono ?_
  rintro e w1 ⟨rfl, rfl⟩
  go_wp2
  go_ret
  exact ⟨rfl, (Below.refl _ _).alloc (Nat.le_refl _) _⟩
set_option maxRecDepth 100000 in
theorem rcheck_long (n v : List Nat) (op : Int) (hn : ∀ x ∈ n, x < 256) (ln : n.length ≤ 9223372036854775807) (h : nameB n = true) (h0 : 0 ≤ op) (h255 : op ≤ 255) (h3 : op ≤ 3) (lv : v.length ≤ 9223372036854775807) (hv : 64 < v.length) (w : World) :
    Calls Try.prog 37 #[mval n v op] w fun e w' => e = .returned (.int .i64 5) ∧ Below w.heap.size w w' := by
  have H := Lib.hid (fun w => refName_any n hn ln w)
  rw [h] at H
  unfold mval
  have sv := bs_size v
  have iv : (64 : Int) < (v.length : Int) := by omega
  clear hn h
  generalize bs n = bn at *
  generalize bs v = bv1 at *
  go_enter Try.func37, Try.ntmps37
  go_wp2_with fail
  refine (H.out _).mono ?_
  rintro e w1 ⟨rfl, rfl⟩
  go_wp2
  go_ret
  exact ⟨rfl, (Below.refl _ _).alloc (Nat.le_refl _) _⟩
set_option maxRecDepth 100000 in
theorem rcheck_ok (n v : List Nat) (op : Int) (hn : ∀ x ∈ n, x < 256) (ln : n.length ≤ 9223372036854775807) (h : nameB n = true) (h0 : 0 ≤ op) (h3 : op < 2) (hv : v.length ≤ 64) (w : World) :
    Calls Try.prog 37 #[mval n v op] w fun e w' => e = .returned (.int .i64 0) ∧ Below w.heap.size w w' := by
  have H := Lib.hid (fun w => refName_any n hn ln w)
  rw [h] at H
  unfold mval
  have sv := bs_size v
  have iv : (v.length : Int) ≤ 64 := by omega
  have i3 : op ≤ 3 := by omega
  have f2 : (op == 2) = false := beq_eq_false_iff_ne.2 (by omega)
  have f3 : (op == 3) = false := beq_eq_false_iff_ne.2 (by omega)
  clear hn h
  generalize bs n = bn at *
  generalize bs v = bv1 at *
  go_enter Try.func37, Try.ntmps37
  go_wp2_with fail
  refine (H.out _).mono ?_
  rintro e w1 ⟨rfl, rfl⟩
  go_wp2
  go_ret
  exact ⟨rfl, (Below.refl _ _).alloc (Nat.le_refl _) _⟩
set_option maxRecDepth 100000 in
set_option maxHeartbeats 1000000 in
theorem rcheck_rx (n v : List Nat) (op : Int) (hn : ∀ x ∈ n, x < 256) (ln : n.length ≤ 9223372036854775807) (h : nameB n = true) (h23 : op = 2 ∨ op = 3) (hv : v.length ≤ 64) (hb : ∀ x ∈ v, x < 256) (w : World) :
    Calls Try.prog 37 #[mval n v op] w fun e w' => e = .returned (.int .i64 (errOf v)) ∧ Below w.heap.size w w' := by
  have H := Lib.hid (fun w => refName_any n hn ln w)
  have HC := Lib.hid (fun w => refParse_any v w hb hv)
  rw [h] at H
  unfold mval
  unfold ParseEnd at HC
  have sv := bs_size v
  have iv : (v.length : Int) ≤ 64 := by omega
  generalize errOf v = E at *
  clear hn h hb
  generalize bs n = bn at *
  generalize bs v = bv1 at *
  rcases h23 with rfl | rfl
  all_goals
    go_enter Try.func37, Try.ntmps37
    go_wp2_with fail
    refine (H.out _).mono ?_
    rintro e w1 ⟨rfl, rfl⟩
    go_wp2_with fail
    refine (HC.out _).mono ?_
    rintro e w2 ⟨cs, hc, hk, rfl⟩
    have HCS := Lib.hid hc
    have K2 := Lib.hid ((below_then ((Below.refl w.heap.size w).alloc (Nat.le_refl _) _) ((Below.refl w.heap.size w).alloc (Nat.le_refl _) _).size hk))
    have K3 := Lib.hid (K2.out.alloc K2.out.size (.cells Try.zeroCells114 114))
    have HT := Lib.hid (new_there w2 w2.heap.size rfl cs hc)
    clear hk hc
    go_wp2_with (refine wpList_store_mid rfl 114 _ _ rfl w2.heap.size 0 (List.toArray cs) rfl rfl HT.out HCS.out.sizA (all_oneCell_toArray HCS.out.one) ?_)
    go_ret
    exact ⟨rfl, below_setCells K2.out.size _ _ K3.out⟩
/-- The document's Check is the program's. -/
theorem rcheck_any (m : Mt) (hm : m.Ok) (w : World) : Calls Try.prog 37 #[m.val] w fun e w' => e = .returned (.int .i64 (checkB m)) ∧ Below w.heap.size w w' := by
  obtain ⟨h1, h2, h3, h4, h5, h6⟩ := hm
  unfold checkB Mt.val
  by_cases a : nameB m.n = false
  · rw [if_pos a]; exact rcheck_name m.n m.v m.op h1 h2 a w
  · rw [if_neg a]
    have a' : nameB m.n = true := by simpa using a
    by_cases b : 3 < m.op
    · rw [if_pos b]; exact rcheck_op m.n m.v m.op h1 h2 a' h5 h6 b w
    · rw [if_neg b]
      by_cases c : 64 < m.v.length
      · rw [if_pos c]; exact rcheck_long m.n m.v m.op h1 h2 a' h5 h6 (by omega) h4 c w
      · rw [if_neg c]
        by_cases d : m.op < 2
        · rw [if_pos d]; exact rcheck_ok m.n m.v m.op h1 h2 a' h5 d (by omega) w
        · rw [if_neg d]; exact rcheck_rx m.n m.v m.op h1 h2 a' (by omega) (by omega) h3 w
end Go.Proofs.Ytnidjfmbbfoheaa
