/- WALKS: member's There, Position. -/
import Derived.Test.YtnlpgjdgiappcaaMbList2
namespace Go.Proofs.Ytnlpgjdgiappcaa
set_option linter.unusedVariables false
set_option linter.unusedSimpArgs false
open Go.RowKit Go.Shelf

attribute [local go_sem] Oper.semAt_some

def u16s (l : List Int) : List Value := l.map (fun n => .int .u16 n)
theorem u16s_append (a b : List Int) : u16s (a ++ b) = u16s a ++ u16s b := by simp [u16s]
theorem u16_info : (Try.prog.info? 22).map (fun i => (i.zero, i.size, i.bytes)) = some (some (.int .u16 0), 1, 2) := by kernel_rfl
def theres (l : List Pl.M) : List Int := (l.filter (fun m => decide (m.s ≠ 2))).map (·.n)
theorem theres_list (f : Pl.Tab) : theres (Pl.listT f) = Pl.thereT f := rfl
theorem theres_length (l : List Pl.M) : (theres l).length ≤ l.length := by simp [theres]; exact List.length_filter_le _ _
theorem theres_yes (l : List Pl.M) (x : Pl.M) (h : (x.s != 2) = true) : theres (l ++ [x]) = theres l ++ [x.n] := by
  simp [theres, List.filter_cons, show x.s ≠ 2 by simpa using h]
theorem theres_no (l : List Pl.M) (x : Pl.M) (h : (x.s != 2) = false) : theres (l ++ [x]) = theres l := by
  simp [theres, List.filter_cons, show x.s = 2 by simpa using h]

set_option maxRecDepth 100000 in
set_option maxHeartbeats 2000000 in
theorem there_in (F : Fence) (n : Nat) (h25 : F.fn 25) (h44 : F.fn 44) (h62 : F.fn 62) (hro : F.round = none) (hn : 3 ≤ n) (g : Nat) (z : Int) (f : Pl.Tab) (w : World) (hT : IsT w g z f) :
    CallsIn F n Try.prog 25 #[.pointer (some ⟨g, 0, none⟩)] w fun e w' => ∃ v, e = .returned v ∧ w'.ownsRow w.heap.size 22 1 v (Pl.thereT f).length (u16s (Pl.thereT f)) ∧ Below w.heap.size w w' := by
  have h1 : 1 ≤ n := by omega
  refine callsIn_of_wp_marks Try.func25 rfl h25 ?_ hro
  simp only [Try.ntmps25, List.size_toArray, List.length_cons, List.length_nil, Nat.reduceAdd, Nat.reduceSub, Array.replicate_succ, Array.replicate_zero, List.push_toArray, List.append_toArray, List.nil_append, List.cons_append]
  gi_wp2_with (gi_at_call 44; refine (all_in F (n - 1) h44 hro _ _).mono ?_; rintro e w' ⟨rfl, rfl⟩)
  have hb := cell_new_l (w.alloc (.cells #[.slice none 0 0] 41)) (.pointer (some ⟨g, 0, none⟩)) 28
  rw [World.size_alloc] at hb
  have hbelow : Below w.heap.size w ((w.alloc (.cells #[.slice none 0 0] 41)).alloc (.cells #[.pointer (some ⟨g, 0, none⟩)] 28)) := ((Below.refl _ w).alloc (Nat.le_refl _) _).alloc (by simp) _
  have hblk : Blk ((w.alloc (.cells #[.slice none 0 0] 41)).alloc (.cells #[.pointer (some ⟨g, 0, none⟩)] 28)) w.heap.size 41 #[.slice none 0 0] := (Blk.new w 41 _).alloc _
  refine wpIn_rangeFunc_ownH hro h1 (gf := 62) (lb := #[.pointer (some ⟨w.heap.size + 1, 0, none⟩)]) rfl h62 (enters_of Try.func62 (by kernel_rfl) rfl)
    (all_stops F (n - 1) h62 hro (by omega) (w.heap.size + 1) w.heap.size g z f _ (by simp) hb.1 ((hT.alloc _).alloc _)) belowK_t (belowK_b (by simp; omega)) (Below.refl _ _) (fun _ => rfl)
    (fun pre W => ∃ v, Blk W w.heap.size 41 #[v] ∧ W.ownsRow (w.heap.size + 1) 22 1 v (theres pre).length (u16s (theres pre)) ∧ Below w.heap.size w W ∧ w.heap.size + 1 ≤ W.heap.size)
    (fun _ _ _ => False)
    (fun s A B row hs hg hr => by
      obtain ⟨v, h1, h2, h3, h4⟩ := hs
      refine ⟨v, h1.others hg (fun r e => (hr r e).2), own_others h2 hg (fun r e => (hr r e).2), h3.grown hg (by omega) (fun k e => ?_), Nat.le_trans h4 hg.size⟩
      have := (hr k e).1
      simp at this
      omega)
    (fun _ _ _ _ _ hs _ _ => hs)
    ⟨_, hblk, by simpa [theres, u16s] using own_nil _ _ 22 1, hbelow, by simp⟩
    (fun x a' W => ∃ q, w.heap.size < q ∧ Blk W q 25 (mcells x) ∧ a' = { tmps := #[.pointer (some ⟨g, 0, none⟩), undef, .slice none 0 0, .pointer (some ⟨w.heap.size, 0, none⟩), .pointer (some ⟨q, 0, none⟩), .pointer (some ⟨g, 0, none⟩), .func (.func 62) #[] #[.pointer (some ⟨w.heap.size + 1, 0, none⟩)],   .agg (mcells x), undef, undef, undef, undef, undef, undef, undef, undef, undef], defers := [] })
    (fun x a' s A B row hs hg hr => by
      obtain ⟨q, h0, h1, h2⟩ := hs
      exact ⟨q, h0, h1.others hg (fun r e => (hr r e).2), h2⟩)
    ?assign ?body ?done ?stop
  case assign =>
    rintro l pre x W K ⟨v, i1, i2, i3, i4⟩ hK
    have I1 := Lib.hid i1
    have I2 := Lib.hid i2
    have I3 := Lib.hid i3
    have HK := Lib.hid hK
    clear i1 i2 i3 hK
    simp only [mcells]
    gi_wp2
    exact HK.out _ _ ((KeepsOthers.alloc W _).from _) ((Below.refl _ _).alloc (by omega) _) ⟨v, I1.out.alloc _, I2.out.alloc _, I3.out.alloc (by omega) _, by simp; omega⟩ ⟨W.heap.size, by omega, Blk.new W 25 _, rfl⟩
  case body =>
    rintro l pre x a' W hl _ ⟨v, i1, i2, i3, i4⟩ ⟨q, hq, hbq, rfl⟩ hlen
    have c1 := i1.cell 0
    have c2 := hbq.cell 0
    have c3 := hbq.cell 1
    have c4 := hbq.cell 2
    simp only [mcells, List.getElem?_toArray, List.getElem?_cons_zero, List.getElem?_cons_succ] at c1 c2 c3 c4
    obtain ⟨A0, k0, rfl⟩ := own_slice i2
    have hl2 : (theres pre).length ≤ pre.length := theres_length pre
    have I1 := Lib.hid i1
    have I2 := Lib.hid i2
    have I3 := Lib.hid i3
    clear i1 i2 i3 hbq hbelow hblk hb hT
    simp only [mcells]
    cases hs : (x.s != 2) with
    | true =>
      have HS := Lib.hid (theres_yes pre x hs)
      gi_wp2_with (gi_at_builtin; refine appIn_row (w.heap.size + 1) rfl (.tmp 11) (.tmp 14) 41 22 _ 1 2 rfl Try.underlying41 u16_info rfl (by omega) _ _ _ _ rfl _ rfl rfl (by simp [Value.oneCell']) rfl I2.out (by omega) (by omega) (by omega) ?_; intro v1 w2 ho2 hg2 hat; have HO2 := Lib.hid ho2; clear ho2; obtain ⟨A1, k1, rfl⟩ := own_slice HO2.out; have b2 := Blk.grown I1.out hg2 (fun e => by have := own_base I2.out _ e.symm; omega); have B2 := Lib.hid b2; have d1 := b2.cell 0; have d2 := b2.frozen 0; simp only [List.getElem?_toArray, List.getElem?_cons_zero] at d1; clear b2)
      have hg3 := hg2
      have hB3 : Below w.heap.size w w2 := I3.out.grown hg3 (by omega) (fun k e => by have := own_base I2.out k e; omega)
      refine ⟨?_, ?_, _, Blk.set_ B2.out 0 _, ?_, ?_, ?_⟩
      · exact ((KeepsOthers.of_grownBy hg3 (own_cells I2.out)).trans (KeepsOthers.setCell _ _ _)).from _
      · exact ((Below.refl w.heap.size W).grown hg3 (by omega) (fun k e => by have := own_base I2.out k e; omega)).setCell (p := ⟨w.heap.size, 0, none⟩) (Nat.le_refl _) _
      · rw [HS.out, List.length_append, u16s_append]
        refine own_grown HO2.out (grown_setCell (g := w.heap.size) (World.grownBy.refl w2 _) (.inl rfl) _) (fun k e hv => ?_)
        have := own_base HO2.out k hv
        injection e with e
        omega
      · exact hB3.setCell (p := ⟨w.heap.size, 0, none⟩) (Nat.le_refl _) _
      · have := hg3.size
        simp only [World.setCell, Array.size_modify]
        omega
    | false =>
      have HS := Lib.hid (theres_no pre x hs)
      gi_wp2
      refine ⟨(KeepsOthers.refl _).from _, Below.refl _ _, _, I1.out, ?_, I3.out, i4⟩
      rw [HS.out]
      exact I2.out
  case done =>
    rintro D ys W hD rfl ⟨v, i1, i2, i3, i4⟩ hK
    rw [theres_list] at i2
    have c1 := i1.cell 0
    simp only [List.getElem?_toArray, List.getElem?_cons_zero] at c1
    obtain ⟨A1, k1, rfl⟩ := own_slice i2
    have I1 := Lib.hid i1
    have I2 := Lib.hid i2
    have I3 := Lib.hid i3
    have HK := Lib.hid hK
    clear i1 i2 i3 hbelow hblk hb hT hK
    gi_wp2
    refine ⟨by simp, .inl ⟨_, _, rfl, run_takeDeferred HK.out, ?_⟩⟩
    have hgp := grownBy_putObj' W D (.deferred none)
    have hno : ∀ r, some D = some r → ∃ o : Obj, W.heap[r]? = some o ∧ o.isCells = false := fun r e => by injection e with e; subst e; exact ⟨_, HK.out, rfl⟩
    have ho := own_others I2.out hgp hno
    refine ⟨_, results_tmp rfl _ _ _, _, rfl, ⟨ho.1, ?_⟩, I3.out.grown hgp (by omega) (fun k e => by injection e with e; simp at hD; omega)⟩
    rcases ho.2 with h | ⟨g', cap, cur, h1, h2, h3⟩
    · exact .inl h
    · exact .inr ⟨g', cap, cur, h1, by omega, h3⟩
  case stop =>
    rintro D c pre W _ _ h _
    exact h.elim


theorem there_any (g : Nat) (z : Int) (f : Pl.Tab) (w : World) (hT : IsT w g z f) :
    Calls Try.prog 25 #[.pointer (some ⟨g, 0, none⟩)] w fun e w' => ∃ v, e = .returned v ∧ w'.ownsRow w.heap.size 22 1 v (Pl.thereT f).length (u16s (Pl.thereT f)) ∧ Below w.heap.size w w' :=
  callsIn_wide.1 (there_in Fence.wide 3 trivial trivial trivial rfl (by omega) g z f w hT)

end Go.Proofs.Ytnlpgjdgiappcaa
