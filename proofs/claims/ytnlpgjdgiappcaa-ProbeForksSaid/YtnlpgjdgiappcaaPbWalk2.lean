/- WALKS: probe's others (over slices.DeleteFunc), Fork. -/
import Derived.Test.YtnlpgjdgiappcaaPbWalk1
import Derived.Test.YtnlpgjdgiappcaaPbLay
import Derived.Lib.RowBridge
namespace Go.Proofs.Ytnlpgjdgiappcaa
set_option linter.unusedVariables false
set_option linter.unusedSimpArgs false
open Go.RowKit Go.Lib Go.Sort

/-- The literal in others. -/
theorem clos65 (n me but : Int) (B1 B2 g : Nat) (W : World) (h1 : W.cell? ⟨B1, 0, none⟩ = some (.pointer (some ⟨g, 0, none⟩))) (h2 : W.cell? ⟨B2, 0, none⟩ = some (.int .u16 but)) (h3 : W.cell? ⟨g, 0, none⟩ = some (.int .u16 me)) :
    FnGives Try.prog 65 #[.pointer (some ⟨B1, 0, none⟩), .pointer (some ⟨B2, 0, none⟩)] #[.int .u16 n] (.bool (decide (n = me ∨ n = but))) W := by
  show Calls Try.prog 65 #[.int .u16 n, .pointer (some ⟨B1, 0, none⟩), .pointer (some ⟨B2, 0, none⟩)] W _
  by_cases c1 : n = me
  · subst c1
    go_enter Try.func65, Try.ntmps65
    go_wp2
    go_ret
    exact ⟨ret_bool (by simp), 0, rfl⟩
  · have e1 : (n == me) = false := beq_eq_false_iff_ne.2 c1
    by_cases c2 : n = but
    · subst c2
      go_enter Try.func65, Try.ntmps65
      go_wp2
      go_ret
      exact ⟨ret_bool (by simp), 0, rfl⟩
    · have e2 : (n == but) = false := beq_eq_false_iff_ne.2 c2
      go_enter Try.func65, Try.ntmps65
      go_wp2
      go_ret
      exact ⟨ret_bool (by simp [c1, c2]), 0, rfl⟩

/-- What DeleteFunc leaves. -/
def kept (me but : Int) (l : List Int) : List Int := l.filter fun x => !decide (x = me ∨ x = but)
theorem kept_others (p : Pl.Pb) (f : Pl.Tab) (but : Int) : kept p.me but (Pl.thereT f) = Pl.othersP p f but := by
  unfold kept Pl.othersP
  congr 1
  funext x
  simp
theorem eg65 : ∀ args w, (callFunc 65 args).run Try.prog w = .ok (.enter 65 args) w := enters_of Try.func65 (by kernel_rfl) rfl
theorem delete_nil (A : Option Addr) (c : Nat) (fv : Value) (w : World) : Calls Try.prog 64 #[.slice A 0 c, fv] w fun e w' => e = .returned (.slice A 0 c) ∧ w' = w := by
  have hI := AnyE.slices_IndexFunc_empty (P := Try.prog) (ρ := ren64) { lay64 with } A c fv w
  change Calls Try.prog 70 _ _ _ at hI
  go_enter Try.func64, Try.ntmps64
  go_wp2_with fail
  refine hI.mono ?_
  rintro e w' ⟨rfl, rfl⟩
  go_wp2
  go_ret
  exact ⟨rfl, rfl⟩
theorem delete_some (me but : Int) (B1 B2 g blk cap : Nat) (l : List Int) (w : World) (cur : Array Value)
    (hB1 : B1 < w.heap.size) (hB2 : B2 < w.heap.size) (hg : g < w.heap.size) (n1 : B1 ≠ blk) (n2 : B2 ≠ blk) (n3 : g ≠ blk)
    (h1 : w.cell? ⟨B1, 0, none⟩ = some (.pointer (some ⟨g, 0, none⟩))) (h2 : w.cell? ⟨B2, 0, none⟩ = some (.int .u16 but)) (h3 : w.cell? ⟨g, 0, none⟩ = some (.int .u16 me))
    (hblk : Blk w blk 22 cur) (hcur : ∀ (j : Nat) (x : Int), l[j]? = some x → cur[j]? = some (Value.int .u16 x)) (hcap : l.length ≤ cap) (hlen : l.length ≤ 9223372036854775807) :
    Calls Try.prog 64 #[.slice (some ⟨blk, 0, none⟩) l.length cap, .func (.func 65) #[] #[.pointer (some ⟨B1, 0, none⟩), .pointer (some ⟨B2, 0, none⟩)]] w fun e w' =>
      e = .returned (.slice (some ⟨blk, 0, none⟩) (kept me but l).length cap) ∧ Reads w' (fun b => b = blk) 1 (some ⟨blk, 0, none⟩) (kept me but l).length (u16s (kept me but l)) ∧ Below blk w w' ∧ w'.heap.size = w.heap.size := by
  have hlt := hblk.lt
  have hd : l.toArray.size = l.length := by simp
  have hH : Holds (Value.int .u16) w blk 0 l.toArray := by
    intro j hj
    have hj' : j < l.length := by simpa using hj
    rw [Nat.zero_add]
    refine ⟨?_, hblk.frozen j⟩
    rw [hblk.cell j, hcur j l[j] (List.getElem?_eq_getElem hj')]
    rw [getElem!_pos l.toArray j hj]
    simp
  have hp : PredAt Try.prog 65 #[.pointer (some ⟨B1, 0, none⟩), .pointer (some ⟨B2, 0, none⟩)] (Value.int .u16) (fun x => decide (x = me ∨ x = but)) w := fun W x hb =>
    clos65 x me but B1 B2 g W ((hb.cell (p := ⟨B1, 0, none⟩) hB1).trans h1) ((hb.cell (p := ⟨B2, 0, none⟩) hB2).trans h2) ((hb.cell (p := ⟨g, 0, none⟩) hg).trans h3)
  have far : ∀ (n : Nat) (os : Array Obj) (dk : Array Int) (a : Addr), a.block < w.heap.size → a.block ≠ blk → (sortWorld (Value.int .u16) w blk 0 n dk os).cell? a = w.cell? a := fun n os dk a ha hne => by
    unfold sortWorld
    rw [cell?_grow _ _ _ (by show a.block < (putRow _ _ _ _ _).heap.size; rw [size_putRow]; exact ha), cell?_putRow_other _ _ blk 0 _ _ (Or.inl hne)]
    rfl
  have hpo : PredOver Try.prog 65 #[.pointer (some ⟨B1, 0, none⟩), .pointer (some ⟨B2, 0, none⟩)] (Value.int .u16) (fun x => decide (x = me ∨ x = but)) blk 0 l.toArray.size w := fun n os dk x _ =>
    clos65 x me but B1 B2 g _ ((far n os dk ⟨B1, 0, none⟩ hB1 n1).trans h1) ((far n os dk ⟨B2, 0, none⟩ hB2 n2).trans h2) ((far n os dk ⟨g, 0, none⟩ hg n3).trans h3)
  have hcon := AnyE.slices_DeleteFunc lay64 (Value.int .u16) (fun _ => rfl) (fun x => decide (x = me ∨ x = but)) 65 #[.pointer (some ⟨B1, 0, none⟩), .pointer (some ⟨B2, 0, none⟩)] eg65 0 (fun w => by kernel_rfl) blk 0 cap l.toArray w hp hpo hH (by omega) (by omega)
  change Calls Try.prog 64 _ _ _ at hcon
  rw [hd] at hcon
  refine hcon.mono ?_
  rintro e w' ⟨rfl, q, rfl⟩
  have ek : (l.toArray.toList.filter fun x => !decide (x = me ∨ x = but)) = kept me but l := rfl
  rw [ek]
  have hkl : (kept me but l).length ≤ l.length := List.length_filter_le _ _
  have hsz : ((kept me but l) ++ List.replicate (l.length - (kept me but l).length) (0 : Int)).length = l.toArray.size := by simp; omega
  rw [putRow_eq_setCells (Value.int .u16) w blk 0 l.toArray _ q hH hsz]
  have hB := Blk.setCells ((kept me but l ++ List.replicate (l.length - (kept me but l).length) (0 : Int)).map (Value.int .u16)) 0 (hblk.drewN q)
  have hcs : l.length ≤ cur.size := by
    by_cases h0 : l.length = 0
    · omega
    · have := hcur (l.length - 1) l[l.length - 1] (List.getElem?_eq_getElem (by omega))
      have := (Array.getElem?_eq_some_iff.1 this).1
      omega
  refine ⟨rfl, ⟨by simp [u16s], fun _ => ⟨blk, 0, rfl, rfl, fun j u hu => ?_⟩⟩, below_setCells (Nat.le_refl _) _ _ (below_drewN (Below.refl blk w) q), ?_⟩
  · have hj : j < (kept me but l).length := by
      have := (List.getElem?_eq_some_iff.1 hu).1
      simpa [u16s] using this
    rw [Nat.zero_add, hB.cell j, setAll_get _ _ _ _ (by simp only [List.length_map]; rw [hsz, hd]; omega)]
    rw [if_pos (by simp only [List.length_map]; rw [hsz, hd]; omega)]
    rw [Nat.sub_zero, List.map_append, List.getElem?_append_left (by simpa using hj)]
    exact hu
  · have hsc : ∀ (vs : List Value) (W : World) (o : Nat), (W.setCells blk o vs).heap.size = W.heap.size := by
      intro vs
      induction vs with
      | nil => intro W o; rfl
      | cons v r ih => intro W o; rw [World.setCells, ih]; simp [World.setCell]
    rw [hsc]
    rfl

set_option maxRecDepth 100000 in
set_option maxHeartbeats 1000000 in
theorem others_any (g gt : Nat) (z : Int) (f : Pl.Tab) (p : Pl.Pb) (but : Int) (w : World) (H : IsPb w g p) (hT : IsT w gt z f) :
    Calls Try.prog 55 #[.pointer (some ⟨g, 0, none⟩), .pointer (some ⟨gt, 0, none⟩), .int .u16 but] w fun e w' =>
      ∃ A c, e = .returned (.slice A (Pl.othersP p f but).length c) ∧ Reads w' (fun _ => True) 1 A (Pl.othersP p f but).length (u16s (Pl.othersP p f but)) ∧ Below w.heap.size w w' := by
  have hlt := H.lt
  have hK : Below w.heap.size w ((w.alloc (.cells #[.pointer (some ⟨g, 0, none⟩)] 57)).alloc (.cells #[.int .u16 but] 22)) := ((Below.refl _ _).alloc (Nat.le_refl _) _).alloc (by simp) _
  have hB1 : Blk ((w.alloc (.cells #[.pointer (some ⟨g, 0, none⟩)] 57)).alloc (.cells #[.int .u16 but] 22)) w.heap.size 57 #[.pointer (some ⟨g, 0, none⟩)] := (Blk.new w 57 _).alloc _
  have hB2 : Blk ((w.alloc (.cells #[.pointer (some ⟨g, 0, none⟩)] 57)).alloc (.cells #[.int .u16 but] 22)) (w.heap.size + 1) 22 #[.int .u16 but] := by
    have := Blk.new (w.alloc (.cells #[.pointer (some ⟨g, 0, none⟩)] 57)) 22 #[.int .u16 but]
    rwa [show (w.alloc (.cells #[.pointer (some ⟨g, 0, none⟩)] 57)).heap.size = w.heap.size + 1 by simp] at this
  have hT1 := (hT.alloc (.cells #[.pointer (some ⟨g, 0, none⟩)] 57)).alloc (.cells #[.int .u16 but] 22)
  have H1 := (H.alloc (.cells #[.pointer (some ⟨g, 0, none⟩)] 57)).alloc (.cells #[.int .u16 but] 22)
  have hs : ((w.alloc (.cells #[.pointer (some ⟨g, 0, none⟩)] 57)).alloc (.cells #[.int .u16 but] 22)).heap.size = w.heap.size + 2 := by simp
  have KK := Lib.hid hK
  have B1 := Lib.hid hB1
  have B2 := Lib.hid hB2
  have TT := Lib.hid hT1
  have PP := Lib.hid H1
  have SS := Lib.hid hs
  clear hK hB1 hB2 hT1 H1 hs H hT
  go_enter Try.func55, Try.ntmps55
  go_wp2_with fail
  refine (there_any gt z f _ TT.out).mono ?_
  rintro e w1 ⟨v, rfl, ho, hb⟩
  have hsz := SS.out
  generalize (w.alloc (.cells #[.pointer (some ⟨g, 0, none⟩)] 57)).alloc (.cells #[.int .u16 but] 22) = W at *
  have K1 := Lib.hid (below_then KK.out (by omega) hb)
  have c1 := (B1.out.below hb B1.out.lt).cell 0
  have c2 := (B2.out.below hb B2.out.lt).cell 0
  have c3 := (PP.out.below hb PP.out.lt).head 0 (by omega)
  simp only [List.getElem?_toArray, List.getElem?_cons_zero, phead] at c1 c2 c3
  have hs1 := hb.size
  have l1 := B1.out.lt
  have l2 := B2.out.lt
  have hl64 : (Pl.thereT f).length ≤ 64 := there_length f
  have ek := kept_others p f but
  have EK := Lib.hid ek
  clear hb ek
  rcases ho.2 with ⟨rfl, hn⟩ | ⟨blk, cap, cur, rfl, q1, q2, q3, q4, q5, q6⟩
  · have hnil : Pl.thereT f = [] := List.length_eq_zero_iff.1 hn
    have hoth : Pl.othersP p f but = [] := by rw [← EK.out, hnil]; rfl
    have HO := Lib.hid hoth
    clear ho hnil hoth hn
    go_wp2_with fail
    refine (delete_nil _ _ _ _).mono ?_
    rintro e w2 ⟨rfl, rfl⟩
    go_wp2
    go_ret
    refine ⟨none, 0, ?_, ?_, K1.out⟩
    · rw [HO.out]; rfl
    · rw [HO.out]; exact Reads.nil _ _ _ _
  · have hcur : ∀ (j : Nat) (x : Int), (Pl.thereT f)[j]? = some x → cur[j]? = some (Value.int .u16 x) := by
      intro j x hx
      have hj := (List.getElem?_eq_some_iff.1 hx).1
      have h1 : (u16s (Pl.thereT f))[j]? = some (.int .u16 x) := u16s_get _ _ _ hx
      rw [← q6, List.getElem?_take_of_lt (by omega)] at h1
      simpa using h1
    have hcon := delete_some p.me but w.heap.size (w.heap.size + 1) g blk cap (Pl.thereT f) w1 cur (by omega) (by omega) (by omega) (by omega) (by omega) (by omega) c1 c2 c3 q2 hcur q3 (by omega)
    rw [EK.out] at hcon
    have Q1 := Lib.hid q1
    clear ho hcur q1 q2 q3 q4 q5 q6
    go_wp2_with fail
    refine hcon.mono ?_
    rintro e w2 ⟨rfl, hR, hb2, hz2⟩
    have K2 := Lib.hid (K1.out.trans (hb2.mono (by have := Q1.out; omega)))
    have RR := Lib.hid hR
    clear hR hb2 hcon
    go_wp2
    go_ret
    exact ⟨_, _, rfl, RR.out.imp (fun _ _ => trivial), K2.out⟩

/-! ### Fork -/
theorem zero_pcells : Try.zeroCells111 = pcells p00 := by kernel_rfl
set_option maxRecDepth 100000 in
set_option maxHeartbeats 400000 in
theorem pfork_any (g : Nat) (p : Pl.Pb) (w : World) (H : IsPb w g p) :
    Calls Try.prog 41 #[.pointer (some ⟨g, 0, none⟩)] w fun e w' => ∃ g', e = .returned (.pointer (some ⟨g', 0, none⟩)) ∧ Below w.heap.size w w' ∧ w.heap.size ≤ g' ∧ IsPb w' g' p := by
  have hr : w.rangeAt g 0 (pl p) := by have := Blk.range H; simpa [pcells] using this
  have hl := pl_length p
  have h1 : (w.alloc (.cells Try.zeroCells111 111)).there w.heap.size 0 (pl p).toArray.size := (Blk.new w 111 Try.zeroCells111).there _ (by rw [zero_pcells, pcells_size, List.size_toArray, hl]; omega)
  have h2 : (Try.prog.info? 111).map (·.size) = some (pl p).toArray.size := by rw [List.size_toArray, hl]; kernel_rfl
  have h3 := all_oneCell_toArray (pl_one p)
  have H1 := Lib.hid h1
  have H2 := Lib.hid h2
  have H3 := Lib.hid h3
  have HL := Lib.hid hl
  clear H hl h1 h2 h3
  go_enter Try.func41, Try.ntmps41
  go_wp2_with (first | (refine wpList_load_mid rfl 111 _ rfl g 0 rfl (pl p) _ hr Try.underlying111 rfl (by rw [HL.out]; kernel_rfl) ?_) | (refine wpList_store_mid rfl 111 _ _ rfl w.heap.size 0 (pl p).toArray rfl rfl H1.out H2.out H3.out ?_))
  go_ret
  refine ⟨w.heap.size, rfl, below_setCells (Nat.le_refl _) _ _ ((Below.refl _ _).alloc (Nat.le_refl _) _), Nat.le_refl _, ?_⟩
  have h := Blk.setCells (pl p) 0 (Blk.new w 111 Try.zeroCells111)
  rw [setAll_whole _ _ (by rw [HL.out, zero_pcells, pcells_size])] at h
  exact h
theorem pfork_nil (w : World) : Calls Try.prog 41 #[.pointer none] w fun e w' => e = .returned (.pointer none) ∧ Below w.heap.size w w' := by
  go_enter Try.func41, Try.ntmps41
  go_wp2
  go_ret
  exact ⟨rfl, Below.refl _ _⟩
end Go.Proofs.Ytnlpgjdgiappcaa
