/- WALKS: member's List, There, Position. -/
import Derived.Test.YtnlpgjdgiappcaaMbList
namespace Go.Proofs.Ytnlpgjdgiappcaa
set_option linter.unusedVariables false
set_option linter.unusedSimpArgs false
open Go.RowKit Go.Shelf

attribute [local go_sem] Oper.semAt_some

set_option maxHeartbeats 1000000 in
theorem all_in (F : Fence) (n : Nat) (h44 : F.fn 44) (hro : F.round = none) (p : Option Addr) (w : World) :
    CallsIn F n Try.prog 44 #[.pointer p] w fun e w' => e = .returned (.func (.func 62) #[] #[.pointer (some ⟨w.heap.size, 0, none⟩)]) ∧ w' = w.alloc (.cells #[.pointer p] 28) := by
  refine callsIn_of_wp Try.func44 rfl h44 ?_ hro
  simp only [Try.ntmps44, List.size_toArray, List.length_cons, List.length_nil, Nat.reduceAdd, Nat.reduceSub, Array.replicate_succ, Array.replicate_zero, List.push_toArray, List.append_toArray, List.nil_append, List.cons_append]
  gi_wp2
  go_ret
  exact ⟨rfl, rfl⟩

theorem all_stops (F : Fence) (n : Nat) (h62 : F.fn 62) (hro : F.round = none) (hn : 1 ≤ n) (Bn n₀ g : Nat) (z : Int) (f : Pl.Tab) (w : World) (hBn : Bn < w.heap.size)
    (hc : w.cell? ⟨Bn, 0, none⟩ = some (.pointer (some ⟨g, 0, none⟩))) (hT : IsT w g z f) :
    SeqStopsK F n Try.prog 62 #[.pointer (some ⟨Bn, 0, none⟩)] (fun x : Pl.M => #[.agg (mcells x)]) (Below n₀) (fun ys => ys = Pl.listT f) (fun _ => True) 64 w := fun l J Jx W hW hJ _ hY h0 =>
  all1_in F n h62 hro hn l Bn n₀ g z f J Jx hY W hJ ((hW.cell (p := ⟨Bn, 0, none⟩) hBn).trans hc) (hT.below hW hT.lt) h0

theorem cell_of_box_l {W : World} {B : Nat} {v : Value} {t : TypeId} (h : W.heap[B]? = some (.cells #[v] t (0, 0))) : W.cell? ⟨B, 0, none⟩ = some v ∧ W.frozen? ⟨B, 0, none⟩ = false := by
  constructor <;> simp [World.cell?, World.frozen?, h]
theorem cell_new_l (W : World) (v : Value) (t : TypeId) : (W.alloc (.cells #[v] t)).cell? ⟨W.heap.size, 0, none⟩ = some v ∧ (W.alloc (.cells #[v] t)).frozen? ⟨W.heap.size, 0, none⟩ = false :=
  cell_of_box_l (World.alloc_heap_new W _)
theorem cell_alloc_l {W : World} {a : Addr} {v : Value} (o : Obj) (h : W.cell? a = some v) : (W.alloc o).cell? a = some v := cell_kept h (World.grownBy_alloc W o none) (fun r e => by cases e)
theorem frozen_alloc_l {W : World} {a : Addr} {v : Value} (o : Obj) (h : W.cell? a = some v) (hf : W.frozen? a = false) : (W.alloc o).frozen? a = false := (frozen_kept h (World.grownBy_alloc W o none) (fun r e => by cases e)).trans hf

/-- A block of cells is kept by what writes no cells. -/
theorem Blk.others {w w' : World} {g : Nat} {t : TypeId} {cs : Array Value} {row : Option Nat} (h : Blk w g t cs) (hg : w.grownBy w' row) (hr : ∀ r, row = some r → ∃ o : Obj, w.heap[r]? = some o ∧ o.isCells = false) : Blk w' g t cs :=
  Blk.grown h hg (fun e => by
    obtain ⟨o, ho, hc⟩ := hr g e.symm
    unfold Blk at h
    rw [h] at ho
    injection ho with ho
    subst ho
    cases hc)
theorem own_others {w w' : World} {base : Nat} {e : TypeId} {size n : Nat} {v : Value} {xs : List Value} {row : Option Nat} (h : w.ownsRow base e size v n xs) (hg : w.grownBy w' row) (hr : ∀ r, row = some r → ∃ o : Obj, w.heap[r]? = some o ∧ o.isCells = false) : w'.ownsRow base e size v n xs :=
  own_grown h hg (fun k ek hv => by
    rcases h.2 with ⟨rfl, _⟩ | ⟨g', cap, cur, rfl, _, hh, _⟩
    · simp [Value.ownBlock] at hv
    · have : g' = k := by simpa [Value.ownBlock] using hv
      subst this
      obtain ⟨o, ho, hc⟩ := hr g' ek
      rw [hh] at ho
      injection ho with ho
      subst ho
      cases hc)

/-- The row's own block, if it has one, is made of cells. -/
theorem own_cells {w : World} {base : Nat} {e : TypeId} {size n : Nat} {v : Value} {xs : List Value} (h : w.ownsRow base e size v n xs) : ∀ (j : Nat) (o : Obj), v.ownBlock = some j → w.heap[j]? = some o → o.isCells = true := by
  intro j o hj ho
  rcases h.2 with ⟨rfl, _⟩ | ⟨g', cap, cur, rfl, _, hh, _⟩
  · simp [Value.ownBlock] at hj
  · have : g' = j := by simpa [Value.ownBlock] using hj
    subst this
    rw [hh] at ho
    injection ho with ho
    subst ho
    rfl

set_option maxRecDepth 100000 in
set_option maxHeartbeats 2000000 in
theorem list_in (F : Fence) (n : Nat) (h24 : F.fn 24) (h44 : F.fn 44) (h62 : F.fn 62) (hro : F.round = none) (hn : 3 ≤ n) (g : Nat) (z : Int) (f : Pl.Tab) (w : World) (hT : IsT w g z f) :
    CallsIn F n Try.prog 24 #[.pointer (some ⟨g, 0, none⟩)] w fun e w' => ∃ v, e = .returned v ∧ w'.ownsRow w.heap.size 25 3 v (Pl.listT f).length (rows (Pl.listT f)) ∧ Below w.heap.size w w' := by
  have h1 : 1 ≤ n := by omega
  refine callsIn_of_wp_marks Try.func24 rfl h24 ?_ hro
  simp only [Try.ntmps24, List.size_toArray, List.length_cons, List.length_nil, Nat.reduceAdd, Nat.reduceSub, Array.replicate_succ, Array.replicate_zero, List.push_toArray, List.append_toArray, List.nil_append, List.cons_append]
  gi_wp2_with (gi_at_call 44; refine (all_in F (n - 1) h44 hro _ _).mono ?_; rintro e w' ⟨rfl, rfl⟩)
  have hb := cell_new_l (w.alloc (.cells #[.slice none 0 0] 36)) (.pointer (some ⟨g, 0, none⟩)) 28
  rw [World.size_alloc] at hb
  have hbelow : Below w.heap.size w ((w.alloc (.cells #[.slice none 0 0] 36)).alloc (.cells #[.pointer (some ⟨g, 0, none⟩)] 28)) := ((Below.refl _ w).alloc (Nat.le_refl _) _).alloc (by simp) _
  have hblk : Blk ((w.alloc (.cells #[.slice none 0 0] 36)).alloc (.cells #[.pointer (some ⟨g, 0, none⟩)] 28)) w.heap.size 36 #[.slice none 0 0] := (Blk.new w 36 _).alloc _
  refine wpIn_rangeFunc_ownH hro h1 (gf := 62) (lb := #[.pointer (some ⟨w.heap.size + 1, 0, none⟩)]) rfl h62 (enters_of Try.func62 (by kernel_rfl) rfl)
    (all_stops F (n - 1) h62 hro (by omega) (w.heap.size + 1) w.heap.size g z f _ (by simp) hb.1 ((hT.alloc _).alloc _)) belowK_t (belowK_b (by simp; omega)) (Below.refl _ _) (fun _ => rfl)
    (fun pre W => ∃ v, Blk W w.heap.size 36 #[v] ∧ W.ownsRow (w.heap.size + 1) 25 3 v pre.length (rows pre) ∧ Below w.heap.size w W ∧ w.heap.size + 1 ≤ W.heap.size)
    (fun _ _ _ => False)
    (fun s A B row hs hg hr => by
      obtain ⟨v, h1, h2, h3, h4⟩ := hs
      refine ⟨v, h1.others hg (fun r e => (hr r e).2), own_others h2 hg (fun r e => (hr r e).2), h3.grown hg (by omega) (fun k e => ?_), Nat.le_trans h4 hg.size⟩
      have := (hr k e).1
      simp at this
      omega)
    (fun _ _ _ _ _ hs _ _ => hs)
    ⟨_, hblk, by simpa [rows] using own_nil _ _ 25 3, hbelow, by simp⟩
    (fun x a' W => ∃ q, w.heap.size < q ∧ Blk W q 25 (mcells x) ∧ a' = { tmps := #[.pointer (some ⟨g, 0, none⟩), undef, .slice none 0 0, .pointer (some ⟨w.heap.size, 0, none⟩), .pointer (some ⟨q, 0, none⟩), .pointer (some ⟨g, 0, none⟩), .func (.func 62) #[] #[.pointer (some ⟨w.heap.size + 1, 0, none⟩)], .agg (mcells x), undef, undef, undef, undef, undef], defers := [] })
    (fun x a' s A B row hs hg hr => by
      obtain ⟨q, h0, h1, h2⟩ := hs
      exact ⟨q, h0, h1.others hg (fun r e => (hr r e).2), h2⟩)
    ?assign ?body ?done ?stop
  case assign =>
    rintro l pre x W K ⟨v, i1, i2, i3, i4⟩ hK
    have I1 := Lib.hid i1
    have I2 := Lib.hid i2
    have I3 := Lib.hid i3
    have HK := Lib.hid hK
    clear i1 i2 i3 hK
    simp only [mcells]
    gi_wp2
    exact HK.out _ _ ((KeepsOthers.alloc W _).from _) ((Below.refl _ _).alloc (by omega) _) ⟨v, I1.out.alloc _, I2.out.alloc _, I3.out.alloc (by omega) _, by simp; omega⟩ ⟨W.heap.size, by omega, Blk.new W 25 _, rfl⟩
  case body =>
    rintro l pre x a' W hl _ ⟨v, i1, i2, i3, i4⟩ ⟨q, hq, hbq, rfl⟩ hlen
    have c1 := i1.cell 0
    have c2 := hbq.cell 0
    have c3 := hbq.cell 1
    have c4 := hbq.cell 2
    simp only [mcells, List.getElem?_toArray, List.getElem?_cons_zero, List.getElem?_cons_succ] at c1 c2 c3 c4
    have I1 := Lib.hid i1
    have I2 := Lib.hid i2
    have I3 := Lib.hid i3
    clear i1 i2 i3 hbq hbelow hblk hb hT
    simp only [mcells]
    gi_wp2_with (gi_at_builtin; (refine appIn_row (w.heap.size + 1) rfl (.tmp 8) (.tmp 10) 36 25 _ 3 16 rfl Try.underlying36 member_info rfl (by omega) _ _ _ _ rfl _ rfl rfl (by simp [Value.oneCell']) rfl I2.out (by omega) (by omega) (by omega) ?_); intro v1 w2 ho2 hg2 hat; have HO2 := Lib.hid ho2; clear ho2; obtain ⟨A1, k1, rfl⟩ := own_slice HO2.out; have b2 := Blk.grown I1.out hg2 (fun e => by have := own_base I2.out _ e.symm; omega); have B2 := Lib.hid b2; have d1 := b2.cell 0; have d2 := b2.frozen 0; simp only [List.getElem?_toArray, List.getElem?_cons_zero] at d1; clear b2)
    have hg3 : W.grownBy w2 (Value.ownBlock v) := hg2
    have hB3 : Below w.heap.size w w2 := I3.out.grown hg3 (by omega) (fun k e => by have := own_base I2.out k e; omega)
    refine ⟨?_, ?_, _, Blk.set_ B2.out 0 _, ?_, ?_, ?_⟩
    · exact ((KeepsOthers.of_grownBy hg3 (own_cells I2.out)).trans (KeepsOthers.setCell _ _ _)).from _
    · exact ((Below.refl w.heap.size W).grown hg3 (by omega) (fun k e => by have := own_base I2.out k e; omega)).setCell (p := ⟨w.heap.size, 0, none⟩) (Nat.le_refl _) _
    · rw [List.length_append, rows_append]
      refine own_grown HO2.out (grown_setCell (g := w.heap.size) (World.grownBy.refl w2 _) (.inl rfl) _) (fun k e hv => ?_)
      have := own_base HO2.out k hv
      injection e with e
      omega
    · exact hB3.setCell (p := ⟨w.heap.size, 0, none⟩) (Nat.le_refl _) _
    · have := hg3.size
      simp only [World.setCell, Array.size_modify]
      omega
  case done =>
    rintro D ys W hD rfl ⟨v, i1, i2, i3, i4⟩ hK
    have c1 := i1.cell 0
    simp only [List.getElem?_toArray, List.getElem?_cons_zero] at c1
    obtain ⟨A1, k1, rfl⟩ := own_slice i2
    have I1 := Lib.hid i1
    have I2 := Lib.hid i2
    have I3 := Lib.hid i3
    have HK := Lib.hid hK
    clear i1 i2 i3 hbelow hblk hb hT hK
    gi_wp2
    refine ⟨by simp, .inl ⟨_, _, rfl, run_takeDeferred HK.out, ?_⟩⟩
    have hgp := grownBy_putObj' W D (.deferred none)
    have hno : ∀ r, some D = some r → ∃ o : Obj, W.heap[r]? = some o ∧ o.isCells = false := fun r e => by injection e with e; subst e; exact ⟨_, HK.out, rfl⟩
    have ho := own_others I2.out hgp hno
    refine ⟨_, results_tmp rfl _ _ _, _, rfl, ⟨ho.1, ?_⟩, I3.out.grown hgp (by omega) (fun k e => by injection e with e; simp at hD; omega)⟩
    rcases ho.2 with h | ⟨g', cap, cur, h1, h2, h3⟩
    · exact .inl h
    · exact .inr ⟨g', cap, cur, h1, by omega, h3⟩
  case stop =>
    rintro D c pre W _ _ h _
    exact h.elim

theorem list_any (g : Nat) (z : Int) (f : Pl.Tab) (w : World) (hT : IsT w g z f) :
    Calls Try.prog 24 #[.pointer (some ⟨g, 0, none⟩)] w fun e w' => ∃ v, e = .returned v ∧ w'.ownsRow w.heap.size 25 3 v (Pl.listT f).length (rows (Pl.listT f)) ∧ Below w.heap.size w w' :=
  callsIn_wide.1 (list_in Fence.wide 3 trivial trivial trivial rfl (by omega) g z f w hT)

end Go.Proofs.Ytnlpgjdgiappcaa
