/- WALK: route.Children. -/
import Derived.Test.YtnidjfmbbfoheaaT2
namespace Go.Proofs.Ytnidjfmbbfoheaa
set_option linter.unusedVariables false
set_option linter.unusedSimpArgs false
open Go.RowKit Go.BigFrame

theorem own_lower {w : World} {base base' : Nat} {e : TypeId} {size n : Nat} {v : Value} {xs : List Value} (h : w.ownsRow base e size v n xs) (hb : base' ≤ base) : w.ownsRow base' e size v n xs := by
  refine ⟨h.1, ?_⟩
  rcases h.2 with h | ⟨g', cap, cur, h1, h2, h3⟩
  · exact .inl h
  · exact .inr ⟨g', cap, cur, h1, by omega, h3⟩
def ints (l : List Nat) : List Value := l.map fun (k : Nat) => Value.int .i64 (k : Int)
theorem ints_length (l : List Nat) : (ints l).length = l.length := by simp [ints]
theorem int_info : (Try.prog.info? 3).map (fun i => (i.zero, i.size, i.bytes)) = some (some (.int .i64 0), 1, 8) := by kernel_rfl
def kidsTo (l : List Ro) (i j : Nat) : List Nat := Rt.kids (parF l) j i
theorem kidsTo_length (l : List Ro) (i j : Nat) : (kidsTo l i j).length ≤ j := by
  have := List.length_filter_le (fun k => parF l k == (i : Int)) (List.range j)
  rwa [List.length_range] at this
theorem kidsTo_step (l : List Ro) (i j : Nat) (m : Ro) (hm : l[j]? = some m) : kidsTo l i (j + 1) = kidsTo l i j ++ (if m.par = (i : Int) then [j] else []) := by
  unfold kidsTo Rt.kids
  rw [List.range_succ, List.filter_append]
  congr 1
  have : parF l j = m.par := by unfold parF; rw [hm]
  by_cases h : m.par = (i : Int)
  · simp [this, h]
  · simp [this, h]
theorem kids_own {w : World} {base : Nat} {v : Value} {T T' : List Nat} {x : Nat} {n : Nat} {ys : List Value} (h : w.ownsRow base 3 1 v n (ints T ++ ys)) (hT : T' = T ++ [x]) (hy : ys = [.int .i64 (x : Int)]) (hn : n = T.length + 1) : w.ownsRow base 3 1 v T'.length (ints T') := by
  subst hT hy hn
  rw [List.length_append]
  simpa [ints] using h
set_option maxRecDepth 100000 in
set_option maxHeartbeats 2000000 in
theorem children_any (A : Option Addr) (cp : Nat) (l : List Ro) (i : Nat) (w : World) (hi : i < l.length) (hl : l.length ≤ 1000000) (R : Reads w (fun b => b < w.heap.size) 8 A l.length (l.flatMap Ro.cells)) :
    Calls Try.prog 51 #[.slice A l.length cp, .int .i64 (i : Int)] w fun e w' => ∃ v, e = .returned v ∧ w'.ownsRow w.heap.size 3 1 v (Rt.kids (parF l) l.length i).length (ints (Rt.kids (parF l) l.length i)) ∧ Below w.heap.size w w' := by
  have HR := Lib.hid R
  clear R
  have j1 : decide ((i : Int) < 0) = false := by simp
  have j2 : decide ((i : Int) ≥ (l.length : Int)) = false := by simp; omega
  have j3 : decide (l.length ≤ i) = false := by simp; omega
  go_enter Try.func51, Try.ntmps51
  go_wp2
  clear j1 j2 j3
  go_loopw [5, 18] (fun v k wr => ∃ j : Nat, j ≤ l.length ∧ k = .int .i64 (j : Int) ∧ wr.ownsRow w.heap.size 3 1 v (kidsTo l i j).length (ints (kidsTo l i j)) ∧ Below w.heap.size w wr) (fun _ k _ => l.length - (intOf k).toNat)
  case atStart => exact ⟨0, Nat.zero_le _, rfl, by simpa [kidsTo, Rt.kids, ints] using own_nil w w.heap.size 3 1, Below.refl _ _⟩
  case round =>
    obtain ⟨k, hk, rfl, hown, hbw⟩ := hrel
    obtain ⟨A2, c2', rfl⟩ := own_slice hown
    have hfl := kidsTo_length l i k
    have HO := Lib.hid hown
    have HBW := Lib.hid hbw
    have hsz := hbw.size
    by_cases hlt : k < l.length
    · obtain ⟨m, hm⟩ : ∃ x, l[k]? = some x := ⟨l[k], List.getElem?_eq_getElem hlt⟩
      have HX := Lib.hid (kidsTo_step l i k m hm)
      obtain ⟨b, o, rfl, hb, hcell⟩ := (HR.out.below (by omega) hbw).2 (by omega)
      obtain ⟨c0, c1, c2, c3, c4, c5, c6, c7⟩ := ro_at hcell hm
      have hk0 : (0 : Int) ≤ (k : Int) := by omega
      have hk1 : (k : Int) < (l.length : Int) := by omega
      clear hown hbw hm hcell hb
      obtain ⟨par, ms, cont, bz, rc, wt, iv, rp⟩ := m
      unfold MR.val at c1
      unfold TR.val at c3
      simp only at c0 c1 c2 c3 c4 c5 c6 c7
      generalize ms.l.length = n1 at *
      generalize bz.l.length = n2 at *
      generalize ms.A = mA at *
      generalize bz.A = bA at *
      generalize ms.c = mc at *
      generalize bz.c = bc at *
      generalize bs rc = s at *
      simp only at HX
      have KA := Lib.hid (HBW.out.alloc hsz (.cells #[.int .i64 par, .slice mA n1 mc, .bool cont, .slice bA n2 bc, .string s, .int .i64 wt, .int .i64 iv, .int .i64 rp] 77))
      have OA := Lib.hid (own_below HO.out ((Below.refl _ wr).alloc (Nat.le_refl _) (.cells #[.int .i64 par, .slice mA n1 mc, .bool cont, .slice bA n2 bc, .string s, .int .i64 wt, .int .i64 iv, .int .i64 rp] 77)))
      have hsa : w.heap.size ≤ (wr.alloc (.cells #[.int .i64 par, .slice mA n1 mc, .bool cont, .slice bA n2 bc, .string s, .int .i64 wt, .int .i64 iv, .int .i64 rp] 77)).heap.size := KA.out.size
      by_cases hp : par = (i : Int)
      · have HS : Hid (kidsTo l i (k + 1) = kidsTo l i k ++ [k]) := Lib.hid (by rw [HX.out, if_pos hp])
        clear HX
        subst hp
        go_wp2_with (at_builtin; (refine app_row w.heap.size rfl (.tmp 27) (.tmp 29) 74 3 _ 1 8 rfl Try.underlying74 int_info rfl (by omega) _ _ _ _ rfl _ rfl (by simp) (by simp [Value.oneCell']) rfl OA.out hsa (by omega) (by omega) ?_); intro v2 w2 ho2 hg2 hat; have HO2 := Lib.hid (kids_own ho2 HS.out rfl rfl); have HG2 := Lib.hid hg2; clear ho2 hg2 hat)
        go_roundw
        case rel => exact ⟨k + 1, by omega, by go_num, HO2.out, KA.out.grown HG2.out hsa (own_base OA.out)⟩
        case measure => simp [intOf]; omega
      · have HS : Hid (kidsTo l i (k + 1) = kidsTo l i k) := Lib.hid (by rw [HX.out, if_neg hp, List.append_nil])
        have e1 : (par == (i : Int)) = false := beq_eq_false_iff_ne.2 hp
        clear HX
        go_wp2
        go_roundw
        case rel => exact ⟨k + 1, by omega, by go_num, by rw [HS.out]; exact OA.out, KA.out⟩
        case measure => simp [intOf]; omega
    · obtain rfl : k = l.length := by omega
      clear hown hbw
      go_wp2
      go_ret
      exact ⟨_, rfl, HO.out, HBW.out⟩
end Go.Proofs.Ytnidjfmbbfoheaa

/- WALKS: route.Walk: its closure, by how many may stand one within the other. -/
namespace Go.Proofs.Ytnidjfmbbfoheaa
set_option linter.unusedVariables false
set_option linter.unusedSimpArgs false
open Go.RowKit Go.BigFrame

/-- What the closure sees: the routes, the labels, itself, the list that it fills: each in a block. -/
structure Fx where
  w0 : World
  N : Nat
  bL : Nat
  bP : Nat
  bF : Nat
  bO : Nat
  A : Option Addr
  cp : Nat
  l : List Ro
  P : PR
structure Fx.Ok (x : Fx) : Prop where
  rt : Reads x.w0 (fun b => b < x.w0.heap.size) 8 x.A x.l.length (x.l.flatMap Ro.cells)
  ro : ∀ r ∈ x.l, r.In x.w0
  sm : ∀ r ∈ x.l, r.ms.l.length ≤ 4294967296
  pin : x.P.In x.w0
  pl : x.P.Light
  n : x.l.length ≤ 1000
  l0 : x.w0.heap.size ≤ x.bL
  p0 : x.w0.heap.size ≤ x.bP
  f0 : x.w0.heap.size ≤ x.bF
  o0 : x.w0.heap.size ≤ x.bO
  l1 : x.bL < x.N
  p1 : x.bP < x.N
  f1 : x.bF < x.N
  o1 : x.bO < x.N
  ol : x.bL ≠ x.bO
  op : x.bP ≠ x.bO
  of : x.bF ≠ x.bO
def Fx.lb (x : Fx) : Array Value := #[.pointer (some ⟨x.bL, 0, none⟩), .pointer (some ⟨x.bP, 0, none⟩), .pointer (some ⟨x.bF, 0, none⟩), .pointer (some ⟨x.bO, 0, none⟩)]
structure St (x : Fx) (W : World) (v : Value) (out : List Nat) : Prop where
  kp : Below x.w0.heap.size x.w0 W
  bl : Blk W x.bL 68 #[.slice x.A x.l.length x.cp]
  bp : Blk W x.bP 38 #[.slice x.P.A x.P.l.length x.P.c]
  bf : Blk W x.bF 128 #[.func (.func 82) #[] x.lb]
  bo : Blk W x.bO 74 #[v]
  own : W.ownsRow x.N 3 1 v out.length (ints out)
  sz : x.N ≤ W.heap.size
/-- What the closure leaves as it was. -/
structure Kp (x : Fx) (W : World) (v : Value) (W' : World) (v' : Value) : Prop where
  sz : W.heap.size ≤ W'.heap.size
  keep : ∀ b, b < W.heap.size → b ≠ x.bO → v.ownBlock ≠ some b → W'.heap[b]? = W.heap[b]?
  own : v'.ownBlock = v.ownBlock ∨ ∀ k, v'.ownBlock = some k → W.heap.size ≤ k
section
variable {x : Fx} {W W' W2 : World} {v v' v2 : Value} {out : List Nat}
theorem Kp.refl (x : Fx) (W : World) (v : Value) : Kp x W v W v := ⟨Nat.le_refl _, fun _ _ _ _ => rfl, .inl rfl⟩
theorem Kp.trans (h : Kp x W v W' v') (h' : Kp x W' v' W2 v2) : Kp x W v W2 v2 := by
  refine ⟨Nat.le_trans h.sz h'.sz, fun b hb h1 h2 => ?_, ?_⟩
  · refine (h'.keep b (Nat.lt_of_lt_of_le hb h.sz) h1 (fun e => ?_)).trans (h.keep b hb h1 h2)
    rcases h.own with ho | ho
    · exact h2 (ho.symm.trans e)
    · have := ho b e
      omega
  · rcases h'.own with ho' | ho'
    · rcases h.own with ho | ho
      · exact .inl (ho'.trans ho)
      · exact .inr (fun k hk => ho k (ho'.symm.trans hk))
    · exact .inr (fun k hk => Nat.le_trans h.sz (ho' k hk))
theorem Kp.of_below (hb : Below W.heap.size W W') : Kp x W v W' v := ⟨hb.size, fun b h _ _ => hb.block b h, .inl rfl⟩
theorem St.below (X : x.Ok) (h : St x W v out) (hb : Below W.heap.size W W') : St x W' v out :=
  ⟨below_then h.kp h.kp.size hb, h.bl.below hb h.bl.lt, h.bp.below hb h.bp.lt, h.bf.below hb h.bf.lt, h.bo.below hb h.bo.lt, own_below h.own hb, Nat.le_trans h.sz hb.size⟩
theorem St.drew (h : St x W v out) : St x W.drew v out := ⟨h.kp.drew, h.bl, h.bp, h.bf, h.bo, h.own, h.sz⟩
/-- One more is told. -/
theorem St.told (X : x.Ok) (h : St x W v out) {w2 : World} {i n : Nat} {ys : List Value} (ho : w2.ownsRow x.N 3 1 v2 n (ints out ++ ys)) (hy : ys = [.int .i64 (i : Int)]) (hn : n = out.length + 1) (hg : W.grownBy w2 v.ownBlock)
    (hat : v2.ownBlock = v.ownBlock ∨ ∃ b, v2.ownBlock = some b ∧ W.heap.size ≤ b) :
    St x (w2.setCell ⟨x.bO, 0, none⟩ v2) v2 (out ++ [i]) ∧ Kp x W v (w2.setCell ⟨x.bO, 0, none⟩ v2) v2 := by
  have hne : ∀ b, b < x.N → some b ≠ v.ownBlock := fun b hb e => by have := own_base h.own b e.symm; omega
  have hs : (w2.setCell ⟨x.bO, 0, none⟩ v2).heap.size = w2.heap.size := by simp [World.setCell]
  have ho' : w2.ownsRow x.N 3 1 v2 (out ++ [i]).length (ints (out ++ [i])) := kids_own ho rfl hy hn
  refine ⟨⟨(h.kp.grown hg h.kp.size (fun k e => Nat.le_trans (Nat.le_trans X.l0 (Nat.le_of_lt X.l1)) (own_base h.own k e))).setCell (p := ⟨x.bO, 0, none⟩) X.o0 v2,
      (h.bl.grown hg (hne _ X.l1)).far (p := ⟨x.bO, 0, none⟩) X.ol v2, (h.bp.grown hg (hne _ X.p1)).far (p := ⟨x.bO, 0, none⟩) X.op v2, (h.bf.grown hg (hne _ X.f1)).far (p := ⟨x.bO, 0, none⟩) X.of v2, ?_, ?_, by rw [hs]; exact Nat.le_trans h.sz hg.size⟩, ⟨by rw [hs]; exact hg.size, fun b hb h1 h2 => ?_, ?_⟩⟩
  · have := (h.bo.grown hg (hne _ X.o1)).set_ 0 v2
    simpa using this
  · refine own_grown ho' (grown_setCell (g := x.bO) (World.grownBy.refl w2 _) (.inl rfl) _) (fun k e hv => ?_)
    have := own_base ho' k hv
    have := X.o1
    injection e with e
    omega
  · exact (Below.heap_setCell w2 ⟨x.bO, 0, none⟩ v2 b h1).trans (hg.block b hb (fun e => h2 e.symm))
  · rcases hat with e | ⟨b, e, hb⟩
    · exact .inl e
    · exact .inr (fun k hk => by rw [e] at hk; injection hk with hk; omega)
end
def Fx.from_ (x : Fx) (f i : Nat) : Bool × List Nat := Rt.from_ (parF x.l) (takesF x.l x.P.l) (contF x.l) x.l.length f i
theorem eg82 : ∀ args w, (callFunc 82 args).run Try.prog w = .ok (.enter 82 args) w := enters_of Try.func82 (by kernel_rfl) rfl
set_option maxRecDepth 100000 in
set_option maxHeartbeats 1000000 in
theorem from_deep0 (x : Fx) (X : x.Ok) (i d : Nat) (W : World) (v : Value) (out : List Nat) (hd : x.l.length < d) (H : St x W v out) :
    Calls Try.prog 82 #[.int .i64 (i : Int), .int .i64 (d : Int), .pointer (some ⟨x.bL, 0, none⟩), .pointer (some ⟨x.bP, 0, none⟩), .pointer (some ⟨x.bF, 0, none⟩), .pointer (some ⟨x.bO, 0, none⟩)] W fun e W' => e = .returned (.bool false) ∧ Below W.heap.size W W' := by
  have y0 := H.bl.cell 0
  simp only [List.getElem?_toArray, List.getElem?_cons_zero] at y0
  have j1 : decide ((d : Int) > (x.l.length : Int)) = true := by simp; omega
  clear H
  generalize x.bL = bL at *
  generalize x.bP = bP at *
  generalize x.bF = bF at *
  generalize x.bO = bO at *
  generalize x.l.length = n at *
  generalize x.A = A at *
  generalize x.cp = cp at *
  have HS4 : Hid (W.cell? ⟨bL, 0, none⟩ = some (.slice A n cp)) := Lib.hid y0
  have K1 := Lib.hid (Below.refl W.heap.size W).drew
  go_enter Try.func82, Try.ntmps82
  go_upto_region 1 with fail
  refine wp_scope_straight ?_
  go_upto_region 1 with fail
  refine wp_region_held_drew (S := (fun X => X.cell? ⟨bL, 0, none⟩ = some (.slice A n cp))) (by kernel_rfl) (by exact HS4.out) (fun hHeld => ?_)
  refine wpAnyH_take (i := 0) (v := ?_) (by simp only [List.getElem?_toArray, List.getElem?_cons_succ, List.getElem?_cons_zero]; exact rfl) (by decide +kernel) (by decide +kernel) (by decide +kernel) (by exact fun _ _ _ h => h) (Or.inl ⟨by rfl, ?_⟩) (by assumption) ?_
  rotate_left
  · (intro w hSw; (try dsimp only at hSw); go_simp; try with_reducible rfl)
  try simp only [Act.put, List.setIfInBounds_toArray, List.set_cons_zero, List.set_cons_succ]
  refine wpAnyH_take (i := 1) (v := ?_) (by simp only [List.getElem?_toArray, List.getElem?_cons_succ, List.getElem?_cons_zero]; exact rfl) (by decide +kernel) (by decide +kernel) (by decide +kernel) (by exact fun _ _ _ h => h) (Or.inl ⟨by rfl, ?_⟩) (by assumption) ?_
  rotate_left
  · (intro w hSw; (try dsimp only at hSw); go_simp; try with_reducible rfl)
  try simp only [Act.put, List.setIfInBounds_toArray, List.set_cons_zero, List.set_cons_succ]
  refine wpAnyH_take (i := 2) (v := ?_) (by simp only [List.getElem?_toArray, List.getElem?_cons_succ, List.getElem?_cons_zero]; exact rfl) (by decide +kernel) (by decide +kernel) (by decide +kernel) (by exact fun _ _ _ h => h) (Or.inl ⟨by rfl, ?_⟩) (by assumption) ?_
  rotate_left
  · (intro w hSw; (try dsimp only at hSw); go_simp; try with_reducible rfl)
  try simp only [Act.put, List.setIfInBounds_toArray, List.set_cons_zero, List.set_cons_succ]
  refine wpAnyH_take (i := 3) (v := ?_) (by simp only [List.getElem?_toArray, List.getElem?_cons_succ, List.getElem?_cons_zero]; exact rfl) (by decide +kernel) (by decide +kernel) (by decide +kernel) (by exact fun _ _ _ h => h) (Or.inl ⟨by rfl, ?_⟩) (by assumption) ?_
  rotate_left
  · (intro w hSw; (try dsimp only at hSw); go_simp; try with_reducible rfl)
  try simp only [Act.put, List.setIfInBounds_toArray, List.set_cons_zero, List.set_cons_succ]
  refine wpAnyH_take (i := 4) (v := ?_) (by simp only [List.getElem?_toArray, List.getElem?_cons_succ, List.getElem?_cons_zero]; exact rfl) (by decide +kernel) (by decide +kernel) (by decide +kernel) (by exact fun _ _ _ h => h) (Or.inl ⟨by rfl, ?_⟩) (by assumption) ?_
  rotate_left
  · (intro w hSw; (try dsimp only at hSw); go_simp; try with_reducible rfl)
  try simp only [Act.put, List.setIfInBounds_toArray, List.set_cons_zero, List.set_cons_succ]
  refine wpAnyH_take (i := 5) (v := undef) (by simp only [List.getElem?_toArray, List.getElem?_cons_succ, List.getElem?_cons_zero]; exact rfl) (by decide +kernel) (by decide +kernel) (by decide +kernel) (by exact fun _ _ _ h => h) (Or.inr ⟨by rfl, rfl⟩) (by assumption) ?_
  try simp only [Act.put, List.setIfInBounds_toArray, List.set_cons_zero, List.set_cons_succ]
  refine wpAnyH_take (i := 6) (v := undef) (by simp only [List.getElem?_toArray, List.getElem?_cons_succ, List.getElem?_cons_zero]; exact rfl) (by decide +kernel) (by decide +kernel) (by decide +kernel) (by exact fun _ _ _ h => h) (Or.inr ⟨by rfl, rfl⟩) (by assumption) ?_
  try simp only [Act.put, List.setIfInBounds_toArray, List.set_cons_zero, List.set_cons_succ]
  refine wpAnyH_take (i := 7) (v := undef) (by simp only [List.getElem?_toArray, List.getElem?_cons_succ, List.getElem?_cons_zero]; exact rfl) (by decide +kernel) (by decide +kernel) (by decide +kernel) (by exact fun _ _ _ h => h) (Or.inr ⟨by rfl, rfl⟩) (by assumption) ?_
  try simp only [Act.put, List.setIfInBounds_toArray, List.set_cons_zero, List.set_cons_succ]
  refine wpAnyH_take (i := 8) (v := undef) (by simp only [List.getElem?_toArray, List.getElem?_cons_succ, List.getElem?_cons_zero]; exact rfl) (by decide +kernel) (by decide +kernel) (by decide +kernel) (by exact fun _ _ _ h => h) (Or.inr ⟨by rfl, rfl⟩) (by assumption) ?_
  try simp only [Act.put, List.setIfInBounds_toArray, List.set_cons_zero, List.set_cons_succ]
  refine wpAnyH_take (i := 9) (v := undef) (by simp only [List.getElem?_toArray, List.getElem?_cons_succ, List.getElem?_cons_zero]; exact rfl) (by decide +kernel) (by decide +kernel) (by decide +kernel) (by exact fun _ _ _ h => h) (Or.inr ⟨by rfl, rfl⟩) (by assumption) ?_
  try simp only [Act.put, List.setIfInBounds_toArray, List.set_cons_zero, List.set_cons_succ]
  refine wpAnyH_take (i := 10) (v := undef) (by simp only [List.getElem?_toArray, List.getElem?_cons_succ, List.getElem?_cons_zero]; exact rfl) (by decide +kernel) (by decide +kernel) (by decide +kernel) (by exact fun _ _ _ h => h) (Or.inr ⟨by rfl, rfl⟩) (by assumption) ?_
  try simp only [Act.put, List.setIfInBounds_toArray, List.set_cons_zero, List.set_cons_succ]
  refine wpAnyH_take (i := 11) (v := undef) (by simp only [List.getElem?_toArray, List.getElem?_cons_succ, List.getElem?_cons_zero]; exact rfl) (by decide +kernel) (by decide +kernel) (by decide +kernel) (by exact fun _ _ _ h => h) (Or.inr ⟨by rfl, rfl⟩) (by assumption) ?_
  try simp only [Act.put, List.setIfInBounds_toArray, List.set_cons_zero, List.set_cons_succ]
  refine wpAnyH_take (i := 12) (v := undef) (by simp only [List.getElem?_toArray, List.getElem?_cons_succ, List.getElem?_cons_zero]; exact rfl) (by decide +kernel) (by decide +kernel) (by decide +kernel) (by exact fun _ _ _ h => h) (Or.inr ⟨by rfl, rfl⟩) (by assumption) ?_
  try simp only [Act.put, List.setIfInBounds_toArray, List.set_cons_zero, List.set_cons_succ]
  refine wpAnyH_take (i := 13) (v := ?_) (by simp only [List.getElem?_toArray, List.getElem?_cons_succ, List.getElem?_cons_zero]; exact rfl) (by decide +kernel) (by decide +kernel) (by decide +kernel) (by exact fun _ _ _ h => h) (Or.inl ⟨by rfl, ?_⟩) (by assumption) ?_
  rotate_left
  · (intro w hSw; (try dsimp only at hSw); go_simp; try with_reducible rfl)
  try simp only [Act.put, List.setIfInBounds_toArray, List.set_cons_zero, List.set_cons_succ]
  refine wpAnyH_done (by kernel_rfl) ?_ _
  go_wp2
  unfold Exit.noGoto
  go_ret
  exact ⟨rfl, K1.out⟩
set_option maxRecDepth 100000 in
set_option maxHeartbeats 1000000 in
theorem from_not (x : Fx) (X : x.Ok) (i d : Nat) (W : World) (v : Value) (out : List Nat) (hi : i < x.l.length) (hd : d ≤ x.l.length) (ht : takesF x.l x.P.l i = false) (H : St x W v out) :
    Calls Try.prog 82 #[.int .i64 (i : Int), .int .i64 (d : Int), .pointer (some ⟨x.bL, 0, none⟩), .pointer (some ⟨x.bP, 0, none⟩), .pointer (some ⟨x.bF, 0, none⟩), .pointer (some ⟨x.bO, 0, none⟩)] W fun e W' => e = .returned (.bool false) ∧ Below W.heap.size W W' := by
  have y0 := H.bl.cell 0
  have y1 := H.bp.cell 0
  simp only [List.getElem?_toArray, List.getElem?_cons_zero] at y0 y1
  have j1 : decide ((d : Int) > (x.l.length : Int)) = false := by simp; omega
  have j3 : decide (x.l.length < d) = false := by simp; omega
  have hkI : (i : Int) < (x.l.length : Int) := by omega
  have hk0 : (0 : Int) ≤ (i : Int) := by omega
  obtain ⟨m, hm⟩ : ∃ m, x.l[i]? = some m := ⟨_, List.getElem?_eq_getElem hi⟩
  have hmm := List.mem_of_getElem? hm
  obtain ⟨b, o, hA, hbb, hcell⟩ := X.rt.2 (by omega)
  obtain ⟨_, c1, _⟩ := ro_at hcell hm
  have z1 := (H.kp.cell (p := ⟨b, _, none⟩) hbb).trans c1
  unfold MR.val at z1
  have hM : takesF x.l x.P.l i = allB m.ms.l x.P.l := by unfold takesF; rw [hm]
  have hbN : b < W.heap.size := Nat.lt_of_lt_of_le hbb H.kp.size
  have TK : Hid (Calls Try.prog 40 #[.slice m.ms.A m.ms.l.length m.ms.c, .slice x.P.A x.P.l.length x.P.c] W.drew fun e w' => e = .returned (.bool (takesF x.l x.P.l i)) ∧ Below W.heap.size W w' ∧ (w'.cell? ⟨x.bL, 0, none⟩ = some (.slice (some ⟨b, o, none⟩) x.l.length x.cp) ∧ w'.cell? ⟨b, o + i * 8 + 1, none⟩ = some (.slice m.ms.A m.ms.l.length m.ms.c) ∧ w'.cell? ⟨x.bP, 0, none⟩ = some (.slice x.P.A x.P.l.length x.P.c))) := by
    refine Lib.hid ((all_pr m.ms x.P W.drew (((X.ro m hmm).ms).below H.kp.drew) (X.sm m hmm) (X.pin.below H.kp.drew) X.pl).mono ?_)
    rintro e w' ⟨he, hb⟩
    have hb' := below_then (Below.refl W.heap.size W).drew (Nat.le_refl _) hb
    refine ⟨by rw [he, hM], hb', ?_, (hb'.cell (p := ⟨b, _, none⟩) hbN).trans z1, (hb'.cell (p := ⟨x.bP, 0, none⟩) H.bp.lt).trans y1⟩
    rw [← hA]
    exact (hb'.cell (p := ⟨x.bL, 0, none⟩) H.bl.lt).trans y0
  rw [hA] at y0
  rw [ht] at TK
  clear H hM hcell hmm c1 hm hbb hA hbN ht X
  generalize x.bL = bL at *
  generalize x.bP = bP at *
  generalize x.bF = bF at *
  generalize x.bO = bO at *
  generalize x.l.length = n at *
  generalize x.P.l.length = pn at *
  generalize x.P.A = pA at *
  generalize x.P.c = pc at *
  generalize x.cp = cp at *
  generalize m.ms.l.length = mn at *
  generalize m.ms.A = mA at *
  generalize m.ms.c = mc at *
  have HS4 : Hid (W.cell? ⟨bL, 0, none⟩ = some (.slice (some ⟨b, o, none⟩) n cp) ∧ W.cell? ⟨b, o + i * 8 + 1, none⟩ = some (.slice mA mn mc) ∧ W.cell? ⟨bP, 0, none⟩ = some (.slice pA pn pc)) := Lib.hid ⟨y0, z1, y1⟩
  go_enter Try.func82, Try.ntmps82
  go_upto_region 1 with fail
  refine wp_scope_straight ?_
  go_upto_region 1 with fail
  refine wp_region_held_drew (S := (fun X => X.cell? ⟨bL, 0, none⟩ = some (.slice (some ⟨b, o, none⟩) n cp) ∧ X.cell? ⟨b, o + i * 8 + 1, none⟩ = some (.slice mA mn mc) ∧ X.cell? ⟨bP, 0, none⟩ = some (.slice pA pn pc))) (by kernel_rfl) (by exact HS4.out) (fun hHeld => ?_)
  refine wpAnyH_take (i := 0) (v := ?_) (by simp only [List.getElem?_toArray, List.getElem?_cons_succ, List.getElem?_cons_zero]; exact rfl) (by decide +kernel) (by decide +kernel) (by decide +kernel) (by exact fun _ _ _ h => h) (Or.inl ⟨by rfl, ?_⟩) (by assumption) ?_
  rotate_left
  · (intro w hSw; (try dsimp only at hSw); go_simp; try with_reducible rfl)
  try simp only [Act.put, List.setIfInBounds_toArray, List.set_cons_zero, List.set_cons_succ]
  refine wpAnyH_take (i := 1) (v := ?_) (by simp only [List.getElem?_toArray, List.getElem?_cons_succ, List.getElem?_cons_zero]; exact rfl) (by decide +kernel) (by decide +kernel) (by decide +kernel) (by exact fun _ _ _ h => h) (Or.inl ⟨by rfl, ?_⟩) (by assumption) ?_
  rotate_left
  · (intro w hSw; (try dsimp only at hSw); go_simp; try with_reducible rfl)
  try simp only [Act.put, List.setIfInBounds_toArray, List.set_cons_zero, List.set_cons_succ]
  refine wpAnyH_take (i := 2) (v := ?_) (by simp only [List.getElem?_toArray, List.getElem?_cons_succ, List.getElem?_cons_zero]; exact rfl) (by decide +kernel) (by decide +kernel) (by decide +kernel) (by exact fun _ _ _ h => h) (Or.inl ⟨by rfl, ?_⟩) (by assumption) ?_
  rotate_left
  · (intro w hSw; (try dsimp only at hSw); go_simp; try with_reducible rfl)
  try simp only [Act.put, List.setIfInBounds_toArray, List.set_cons_zero, List.set_cons_succ]
  refine wpAnyH_take (i := 3) (v := ?_) (by simp only [List.getElem?_toArray, List.getElem?_cons_succ, List.getElem?_cons_zero]; exact rfl) (by decide +kernel) (by decide +kernel) (by decide +kernel) (by exact fun _ _ _ h => h) (Or.inl ⟨by rfl, ?_⟩) (by assumption) ?_
  rotate_left
  · (intro w hSw; (try dsimp only at hSw); go_simp; try with_reducible rfl)
  try simp only [Act.put, List.setIfInBounds_toArray, List.set_cons_zero, List.set_cons_succ]
  refine wpAnyH_take (i := 4) (v := ?_) (by simp only [List.getElem?_toArray, List.getElem?_cons_succ, List.getElem?_cons_zero]; exact rfl) (by decide +kernel) (by decide +kernel) (by decide +kernel) (by exact fun _ _ _ h => h) (Or.inl ⟨by rfl, ?_⟩) (by assumption) ?_
  rotate_left
  · (intro w hSw; (try dsimp only at hSw); go_simp; try with_reducible rfl)
  try simp only [Act.put, List.setIfInBounds_toArray, List.set_cons_zero, List.set_cons_succ]
  refine wpAnyH_take (i := 5) (v := ?_) (by simp only [List.getElem?_toArray, List.getElem?_cons_succ, List.getElem?_cons_zero]; exact rfl) (by decide +kernel) (by decide +kernel) (by decide +kernel) (by exact fun _ _ _ h => h) (Or.inl ⟨by rfl, ?_⟩) (by assumption) ?_
  rotate_left
  · (intro w hSw; (try dsimp only at hSw); go_simp; try with_reducible rfl)
  try simp only [Act.put, List.setIfInBounds_toArray, List.set_cons_zero, List.set_cons_succ]
  refine wpAnyH_take (i := 6) (v := ?_) (by simp only [List.getElem?_toArray, List.getElem?_cons_succ, List.getElem?_cons_zero]; exact rfl) (by decide +kernel) (by decide +kernel) (by decide +kernel) (by exact fun _ _ _ h => h) (Or.inl ⟨by rfl, ?_⟩) (by assumption) ?_
  rotate_left
  · (intro w hSw; (try dsimp only at hSw); go_simp; try with_reducible rfl)
  try simp only [Act.put, List.setIfInBounds_toArray, List.set_cons_zero, List.set_cons_succ]
  refine wpAnyH_take (i := 7) (v := ?_) (by simp only [List.getElem?_toArray, List.getElem?_cons_succ, List.getElem?_cons_zero]; exact rfl) (by decide +kernel) (by decide +kernel) (by decide +kernel) (by exact fun _ _ _ h => h) (Or.inl ⟨by rfl, ?_⟩) (by assumption) ?_
  rotate_left
  · (intro w hSw; (try dsimp only at hSw); go_simp; try with_reducible rfl)
  try simp only [Act.put, List.setIfInBounds_toArray, List.set_cons_zero, List.set_cons_succ]
  refine wpAnyH_take (i := 8) (v := ?_) (by simp only [List.getElem?_toArray, List.getElem?_cons_succ, List.getElem?_cons_zero]; exact rfl) (by decide +kernel) (by decide +kernel) (by decide +kernel) (by exact fun _ _ _ h => h) (Or.inl ⟨by rfl, ?_⟩) (by assumption) ?_
  rotate_left
  · (intro w hSw; (try dsimp only at hSw); go_simp; try with_reducible rfl)
  try simp only [Act.put, List.setIfInBounds_toArray, List.set_cons_zero, List.set_cons_succ]
  refine wpAnyH_take (i := 9) (v := ?_) (by simp only [List.getElem?_toArray, List.getElem?_cons_succ, List.getElem?_cons_zero]; exact rfl) (by decide +kernel) (by decide +kernel) (by decide +kernel) (by exact fun _ _ _ h => h) (Or.inl ⟨by rfl, ?_⟩) (by assumption) ?_
  rotate_left
  · (intro w hSw; (try dsimp only at hSw); go_simp; try with_reducible rfl)
  try simp only [Act.put, List.setIfInBounds_toArray, List.set_cons_zero, List.set_cons_succ]
  refine wpAnyH_take (i := 10) (v := ?_) (by simp only [List.getElem?_toArray, List.getElem?_cons_succ, List.getElem?_cons_zero]; exact rfl) (by decide +kernel) (by decide +kernel) (by decide +kernel) (by exact fun _ _ _ h => h) (Or.inl ⟨by rfl, ?_⟩) (by assumption) ?_
  rotate_left
  · (intro w hSw; (try dsimp only at hSw); go_simp; try with_reducible rfl)
  try simp only [Act.put, List.setIfInBounds_toArray, List.set_cons_zero, List.set_cons_succ]
  refine wpAnyH_ready (rs := [11]) (by kernel_rfl) (by simp) ?_
  refine AllReadyH.cons (by simp only [List.getElem?_toArray, List.getElem?_cons_succ, List.getElem?_cons_zero]; exact rfl) (fun K hK => ?_) AllReadyH.nil
  go_simp
  go_at_call 40
  refine TK.out.mono ?_
  rintro e w5 ⟨rfl, hb5, HS5⟩
  have K5 := Lib.hid hb5
  clear hb5
  go_wp2_with fail
  refine hK.out _ _ (by first | assumption | exact HS5) (fun hHeld => ?_)
  clear hK K
  try simp only [Act.put, List.setIfInBounds_toArray, List.set_cons_zero, List.set_cons_succ]
  refine wpAnyH_take (i := 12) (v := ?_) (by simp only [List.getElem?_toArray, List.getElem?_cons_succ, List.getElem?_cons_zero]; exact rfl) (by decide +kernel) (by decide +kernel) (by decide +kernel) (by exact fun _ _ _ h => h) (Or.inl ⟨by rfl, ?_⟩) (by assumption) ?_
  rotate_left
  · (intro w hSw; (try dsimp only at hSw); go_simp; try with_reducible rfl)
  try simp only [Act.put, List.setIfInBounds_toArray, List.set_cons_zero, List.set_cons_succ]
  refine wpAnyH_take (i := 13) (v := ?_) (by simp only [List.getElem?_toArray, List.getElem?_cons_succ, List.getElem?_cons_zero]; exact rfl) (by decide +kernel) (by decide +kernel) (by decide +kernel) (by exact fun _ _ _ h => h) (Or.inl ⟨by rfl, ?_⟩) (by assumption) ?_
  rotate_left
  · (intro w hSw; (try dsimp only at hSw); go_simp; try with_reducible rfl)
  try simp only [Act.put, List.setIfInBounds_toArray, List.set_cons_zero, List.set_cons_succ]
  refine wpAnyH_done (by kernel_rfl) ?_ _
  go_wp2
  unfold Exit.noGoto
  go_ret
  exact ⟨rfl, K5.out⟩
/-- The number of rounds is not told ahead: what is left of the children. -/
theorem goK_len {F : Nat → Bool × List Nat} {cont : Nat → Bool} (k : Nat) (r : List Nat) : (F k).2.length ≤ (Rt.goK F cont (k :: r)).2.length := by
  unfold Rt.goK
  split
  · split
    · simp
    · exact Nat.le_refl _
  · simp
theorem goK_step {ks : List Nat} {j k : Nat} (hk : ks[j]? = some k) : ks.drop j = k :: ks.drop (j + 1) := by
  have hl := (List.getElem?_eq_some_iff.1 hk).1
  rw [List.drop_eq_getElem_cons hl]
  congr 1
  have := List.getElem?_eq_getElem hl
  rw [hk] at this
  injection this with this
  exact this.symm
set_option maxRecDepth 100000 in
set_option maxHeartbeats 4000000 in
theorem from_any (x : Fx) (X : x.Ok) : ∀ (f i d : Nat) (W : World) (v : Value) (out : List Nat), i < x.l.length → d + f = x.l.length + 1 → St x W v out → out.length + (x.from_ f i).2.length ≤ 1000000 →
    Calls Try.prog 82 #[.int .i64 (i : Int), .int .i64 (d : Int), .pointer (some ⟨x.bL, 0, none⟩), .pointer (some ⟨x.bP, 0, none⟩), .pointer (some ⟨x.bF, 0, none⟩), .pointer (some ⟨x.bO, 0, none⟩)] W fun e W' => e = .returned (.bool (x.from_ f i).1) ∧ ∃ v', St x W' v' (out ++ (x.from_ f i).2) ∧ Kp x W v W' v' := by
  intro f
  induction f with
  | zero =>
    intro i d W v out hi hdf H hlen
    refine (from_deep0 x X i d W v out (by omega) H).mono ?_
    rintro e W' ⟨he, hb⟩
    exact ⟨he, v, by show St x W' v (out ++ []); rw [List.append_nil]; exact H.below X hb, .of_below hb⟩
  | succ f ih =>
    intro i d W v out hi hdf H hlen
    cases ht : takesF x.l x.P.l i with
    | false =>
      refine (from_not x X i d W v out hi (by omega) ht H).mono ?_
      have hfr : x.from_ (f + 1) i = (false, []) := by unfold Fx.from_ Rt.from_; rw [if_neg (by rw [ht]; decide)]
      rintro e W' ⟨he, hb⟩
      rw [hfr]
      exact ⟨he, v, by rw [List.append_nil]; exact H.below X hb, .of_below hb⟩
    | true =>
      have hd : d ≤ x.l.length := by omega
      have IH := Lib.hid ih
      have HH := Lib.hid H
      have HL := Lib.hid hlen
      have hNW := H.sz
      have XX := Lib.hid X
      obtain ⟨ks, hks⟩ : ∃ ks, Rt.kids (parF x.l) x.l.length i = ks := ⟨_, rfl⟩
      have HFR : Hid (x.from_ (f + 1) i = (true, if (Rt.goK (x.from_ f) (contF x.l) ks).1 = true then (Rt.goK (x.from_ f) (contF x.l) ks).2 else (Rt.goK (x.from_ f) (contF x.l) ks).2 ++ [i])) := Lib.hid (by
        unfold Fx.from_
        rw [← hks]
        conv => lhs; unfold Rt.from_
        rw [if_pos ht])
      have HKM : Hid (∀ k ∈ ks, k < x.l.length) := Lib.hid (fun k hk => by rw [← hks] at hk; exact (Rt.mem_kids.1 hk).1)
      have hkl : ks.length ≤ x.l.length := by rw [← hks]; exact kidsTo_length x.l i x.l.length
      have HCH : Hid (∀ w', Below W.heap.size W w' → Calls Try.prog 51 #[.slice x.A x.l.length x.cp, .int .i64 (i : Int)] w' fun e w2 => ∃ v, e = .returned v ∧ w2.ownsRow w'.heap.size 3 1 v ks.length (ints ks) ∧ Below w'.heap.size w' w2) := Lib.hid (fun w' hb => by
        have h0 := below_then H.kp H.kp.size hb
        have h := children_any x.A x.cp x.l i w' hi (by have := X.n; omega) ((X.rt.below (by omega) h0).imp (fun b hb' => Nat.lt_of_lt_of_le hb' h0.size))
        rw [hks] at h
        exact h)
      have y0 := H.bl.cell 0
      have y1 := H.bp.cell 0
      simp only [List.getElem?_toArray, List.getElem?_cons_zero] at y0 y1
      have j1 : decide ((d : Int) > (x.l.length : Int)) = false := by simp; omega
      have j3 : decide (x.l.length < d) = false := by simp; omega
      have hkI : (i : Int) < (x.l.length : Int) := by omega
      have hk0 : (0 : Int) ≤ (i : Int) := by omega
      obtain ⟨m, hm⟩ : ∃ m, x.l[i]? = some m := ⟨_, List.getElem?_eq_getElem hi⟩
      have hmm := List.mem_of_getElem? hm
      obtain ⟨b, o, hA, hbb, hcell⟩ := X.rt.2 (by omega)
      obtain ⟨_, c1, _⟩ := ro_at hcell hm
      have z1 := (H.kp.cell (p := ⟨b, _, none⟩) hbb).trans c1
      unfold MR.val at z1
      have hM : takesF x.l x.P.l i = allB m.ms.l x.P.l := by unfold takesF; rw [hm]
      have hbN : b < W.heap.size := Nat.lt_of_lt_of_le hbb H.kp.size
      have TK : Hid (Calls Try.prog 40 #[.slice m.ms.A m.ms.l.length m.ms.c, .slice x.P.A x.P.l.length x.P.c] W.drew fun e w' => e = .returned (.bool (takesF x.l x.P.l i)) ∧ Below W.heap.size W w' ∧ (w'.cell? ⟨x.bL, 0, none⟩ = some (.slice (some ⟨b, o, none⟩) x.l.length x.cp) ∧ w'.cell? ⟨b, o + i * 8 + 1, none⟩ = some (.slice m.ms.A m.ms.l.length m.ms.c) ∧ w'.cell? ⟨x.bP, 0, none⟩ = some (.slice x.P.A x.P.l.length x.P.c))) := by
        refine Lib.hid ((all_pr m.ms x.P W.drew (((X.ro m hmm).ms).below H.kp.drew) (X.sm m hmm) (X.pin.below H.kp.drew) X.pl).mono ?_)
        rintro e w' ⟨he, hb⟩
        have hb' := below_then (Below.refl W.heap.size W).drew (Nat.le_refl _) hb
        refine ⟨by rw [he, hM], hb', ?_, (hb'.cell (p := ⟨b, _, none⟩) hbN).trans z1, (hb'.cell (p := ⟨x.bP, 0, none⟩) H.bp.lt).trans y1⟩
        rw [← hA]
        exact (hb'.cell (p := ⟨x.bL, 0, none⟩) H.bl.lt).trans y0
      rw [hA] at y0
      rw [ht] at TK
      have HA := Lib.hid hA
      rw [hA] at HCH
      have HW0 : Hid (b < x.w0.heap.size) := Lib.hid hbb
      have HCL := Lib.hid hcell
      clear H hM hcell hmm c1 hm hbb hA ht X ih hlen hks
      have HS4 : Hid (W.cell? ⟨x.bL, 0, none⟩ = some (.slice (some ⟨b, o, none⟩) x.l.length x.cp) ∧ W.cell? ⟨b, o + i * 8 + 1, none⟩ = some (.slice m.ms.A m.ms.l.length m.ms.c) ∧ W.cell? ⟨x.bP, 0, none⟩ = some (.slice x.P.A x.P.l.length x.P.c)) := Lib.hid ⟨y0, z1, y1⟩
      go_enter Try.func82, Try.ntmps82
      go_upto_region 1 with fail
      refine wp_scope_straight ?_
      go_upto_region 1 with fail
      refine wp_region_held_drew (S := (fun X => X.cell? ⟨x.bL, 0, none⟩ = some (.slice (some ⟨b, o, none⟩) x.l.length x.cp) ∧ X.cell? ⟨b, o + i * 8 + 1, none⟩ = some (.slice m.ms.A m.ms.l.length m.ms.c) ∧ X.cell? ⟨x.bP, 0, none⟩ = some (.slice x.P.A x.P.l.length x.P.c))) (by kernel_rfl) (by exact HS4.out) (fun hHeld => ?_)
      refine wpAnyH_take (i := 0) (v := ?_) (by simp only [List.getElem?_toArray, List.getElem?_cons_succ, List.getElem?_cons_zero]; exact rfl) (by decide +kernel) (by decide +kernel) (by decide +kernel) (by exact fun _ _ _ h => h) (Or.inl ⟨by rfl, ?_⟩) (by assumption) ?_
      rotate_left
      · (intro w hSw; (try dsimp only at hSw); go_simp; try with_reducible rfl)
      try simp only [Act.put, List.setIfInBounds_toArray, List.set_cons_zero, List.set_cons_succ]
      refine wpAnyH_take (i := 1) (v := ?_) (by simp only [List.getElem?_toArray, List.getElem?_cons_succ, List.getElem?_cons_zero]; exact rfl) (by decide +kernel) (by decide +kernel) (by decide +kernel) (by exact fun _ _ _ h => h) (Or.inl ⟨by rfl, ?_⟩) (by assumption) ?_
      rotate_left
      · (intro w hSw; (try dsimp only at hSw); go_simp; try with_reducible rfl)
      try simp only [Act.put, List.setIfInBounds_toArray, List.set_cons_zero, List.set_cons_succ]
      refine wpAnyH_take (i := 2) (v := ?_) (by simp only [List.getElem?_toArray, List.getElem?_cons_succ, List.getElem?_cons_zero]; exact rfl) (by decide +kernel) (by decide +kernel) (by decide +kernel) (by exact fun _ _ _ h => h) (Or.inl ⟨by rfl, ?_⟩) (by assumption) ?_
      rotate_left
      · (intro w hSw; (try dsimp only at hSw); go_simp; try with_reducible rfl)
      try simp only [Act.put, List.setIfInBounds_toArray, List.set_cons_zero, List.set_cons_succ]
      refine wpAnyH_take (i := 3) (v := ?_) (by simp only [List.getElem?_toArray, List.getElem?_cons_succ, List.getElem?_cons_zero]; exact rfl) (by decide +kernel) (by decide +kernel) (by decide +kernel) (by exact fun _ _ _ h => h) (Or.inl ⟨by rfl, ?_⟩) (by assumption) ?_
      rotate_left
      · (intro w hSw; (try dsimp only at hSw); go_simp; try with_reducible rfl)
      try simp only [Act.put, List.setIfInBounds_toArray, List.set_cons_zero, List.set_cons_succ]
      refine wpAnyH_take (i := 4) (v := ?_) (by simp only [List.getElem?_toArray, List.getElem?_cons_succ, List.getElem?_cons_zero]; exact rfl) (by decide +kernel) (by decide +kernel) (by decide +kernel) (by exact fun _ _ _ h => h) (Or.inl ⟨by rfl, ?_⟩) (by assumption) ?_
      rotate_left
      · (intro w hSw; (try dsimp only at hSw); go_simp; try with_reducible rfl)
      try simp only [Act.put, List.setIfInBounds_toArray, List.set_cons_zero, List.set_cons_succ]
      refine wpAnyH_take (i := 5) (v := ?_) (by simp only [List.getElem?_toArray, List.getElem?_cons_succ, List.getElem?_cons_zero]; exact rfl) (by decide +kernel) (by decide +kernel) (by decide +kernel) (by exact fun _ _ _ h => h) (Or.inl ⟨by rfl, ?_⟩) (by assumption) ?_
      rotate_left
      · (intro w hSw; (try dsimp only at hSw); go_simp; try with_reducible rfl)
      try simp only [Act.put, List.setIfInBounds_toArray, List.set_cons_zero, List.set_cons_succ]
      refine wpAnyH_take (i := 6) (v := ?_) (by simp only [List.getElem?_toArray, List.getElem?_cons_succ, List.getElem?_cons_zero]; exact rfl) (by decide +kernel) (by decide +kernel) (by decide +kernel) (by exact fun _ _ _ h => h) (Or.inl ⟨by rfl, ?_⟩) (by assumption) ?_
      rotate_left
      · (intro w hSw; (try dsimp only at hSw); go_simp; try with_reducible rfl)
      try simp only [Act.put, List.setIfInBounds_toArray, List.set_cons_zero, List.set_cons_succ]
      refine wpAnyH_take (i := 7) (v := ?_) (by simp only [List.getElem?_toArray, List.getElem?_cons_succ, List.getElem?_cons_zero]; exact rfl) (by decide +kernel) (by decide +kernel) (by decide +kernel) (by exact fun _ _ _ h => h) (Or.inl ⟨by rfl, ?_⟩) (by assumption) ?_
      rotate_left
      · (intro w hSw; (try dsimp only at hSw); go_simp; try with_reducible rfl)
      try simp only [Act.put, List.setIfInBounds_toArray, List.set_cons_zero, List.set_cons_succ]
      refine wpAnyH_take (i := 8) (v := ?_) (by simp only [List.getElem?_toArray, List.getElem?_cons_succ, List.getElem?_cons_zero]; exact rfl) (by decide +kernel) (by decide +kernel) (by decide +kernel) (by exact fun _ _ _ h => h) (Or.inl ⟨by rfl, ?_⟩) (by assumption) ?_
      rotate_left
      · (intro w hSw; (try dsimp only at hSw); go_simp; try with_reducible rfl)
      try simp only [Act.put, List.setIfInBounds_toArray, List.set_cons_zero, List.set_cons_succ]
      refine wpAnyH_take (i := 9) (v := ?_) (by simp only [List.getElem?_toArray, List.getElem?_cons_succ, List.getElem?_cons_zero]; exact rfl) (by decide +kernel) (by decide +kernel) (by decide +kernel) (by exact fun _ _ _ h => h) (Or.inl ⟨by rfl, ?_⟩) (by assumption) ?_
      rotate_left
      · (intro w hSw; (try dsimp only at hSw); go_simp; try with_reducible rfl)
      try simp only [Act.put, List.setIfInBounds_toArray, List.set_cons_zero, List.set_cons_succ]
      refine wpAnyH_take (i := 10) (v := ?_) (by simp only [List.getElem?_toArray, List.getElem?_cons_succ, List.getElem?_cons_zero]; exact rfl) (by decide +kernel) (by decide +kernel) (by decide +kernel) (by exact fun _ _ _ h => h) (Or.inl ⟨by rfl, ?_⟩) (by assumption) ?_
      rotate_left
      · (intro w hSw; (try dsimp only at hSw); go_simp; try with_reducible rfl)
      try simp only [Act.put, List.setIfInBounds_toArray, List.set_cons_zero, List.set_cons_succ]
      refine wpAnyH_ready (rs := [11]) (by kernel_rfl) (by simp) ?_
      refine AllReadyH.cons (by simp only [List.getElem?_toArray, List.getElem?_cons_succ, List.getElem?_cons_zero]; exact rfl) (fun K hK => ?_) AllReadyH.nil
      go_simp
      go_at_call 40
      refine TK.out.mono ?_
      rintro e w5 ⟨rfl, hb5, HS5⟩
      have K5 := Lib.hid hb5
      clear hb5
      go_wp2_with fail
      refine hK.out _ _ (by first | assumption | exact HS5) (fun hHeld => ?_)
      clear hK K
      try simp only [Act.put, List.setIfInBounds_toArray, List.set_cons_zero, List.set_cons_succ]
      refine wpAnyH_take (i := 12) (v := ?_) (by simp only [List.getElem?_toArray, List.getElem?_cons_succ, List.getElem?_cons_zero]; exact rfl) (by decide +kernel) (by decide +kernel) (by decide +kernel) (by exact fun _ _ _ h => h) (Or.inl ⟨by rfl, ?_⟩) (by assumption) ?_
      rotate_left
      · (intro w hSw; (try dsimp only at hSw); go_simp; try with_reducible rfl)
      try simp only [Act.put, List.setIfInBounds_toArray, List.set_cons_zero, List.set_cons_succ]
      refine wpAnyH_take (i := 13) (v := ?_) (by simp only [List.getElem?_toArray, List.getElem?_cons_succ, List.getElem?_cons_zero]; exact rfl) (by decide +kernel) (by decide +kernel) (by decide +kernel) (by exact fun _ _ _ h => h) (Or.inl ⟨by rfl, ?_⟩) (by assumption) ?_
      rotate_left
      · (intro w hSw; (try dsimp only at hSw); go_simp; try with_reducible rfl)
      try simp only [Act.put, List.setIfInBounds_toArray, List.set_cons_zero, List.set_cons_succ]
      refine wpAnyH_done (by kernel_rfl) ?_ _
      obtain ⟨q0, q1, q2⟩ := HS5
      clear y0 y1 z1 HS4 TK q1 q2 j1
      go_wp2
      refine wp_label ?_
      go_wp2_with fail
      refine (HCH.out _ K5.out).mono ?_
      rintro e w6 ⟨vk, rfl, hok, hb6⟩
      obtain ⟨Ak, ck, rfl⟩ := own_slice hok
      have K6 := Lib.hid (below_then K5.out K5.out.size hb6)
      have OK6 := Lib.hid hok
      have HS6 := Lib.hid (HH.out.below XX.out K6.out)
      have hw65 : W.heap.size ≤ w5.heap.size := K5.out.size
      have hw6 : W.heap.size ≤ w6.heap.size := K6.out.size
      clear hok hb6 q0
      go_wp2
      go_loopw [9, 30] (fun s q wr => ∃ (j : Nat) (sm : Bool) (acc : List Nat) (vj : Value), j ≤ ks.length ∧ s = .bool sm ∧ q = .int .i64 (j : Int) ∧ Hid (St x wr vj (out ++ acc)) ∧ Hid (Kp x w6 v wr vj) ∧ Hid ((Rt.goK (x.from_ f) (contF x.l) ks).1 = (sm || (Rt.goK (x.from_ f) (contF x.l) (ks.drop j)).1) ∧ (Rt.goK (x.from_ f) (contF x.l) ks).2 = acc ++ (Rt.goK (x.from_ f) (contF x.l) (ks.drop j)).2)) (fun _ q _ => ks.length - (intOf q).toNat)
      case atStart => exact ⟨0, false, [], v, Nat.zero_le _, rfl, rfl, by rw [List.append_nil]; exact HS6, Lib.hid (Kp.refl x w6 v), Lib.hid ⟨by simp, by simp⟩⟩
      case round =>
        obtain ⟨j, sm, acc, vj, hj, rfl, rfl, HSJ, HKJ, HGJ⟩ := hrel
        have hn1000 := XX.out.n
        obtain ⟨oa, hoa⟩ : ∃ oa, out ++ acc = oa := ⟨_, rfl⟩
        have HOA := Lib.hid hoa
        rw [hoa] at HSJ
        clear hoa
        obtain ⟨Aj, cj, rfl⟩ := own_slice HSJ.out.own
        by_cases hlt : j < ks.length
        · obtain ⟨k, hk⟩ : ∃ k, ks[j]? = some k := ⟨_, List.getElem?_eq_getElem hlt⟩
          have hj0 : (0 : Int) ≤ (j : Int) := by omega
          have hj1 : (j : Int) < (ks.length : Int) := by omega
          have hkn := HKM.out k (List.mem_of_getElem? hk)
          have hkn0 : (0 : Int) ≤ (k : Int) := by omega
          have hkn1 : (k : Int) < (x.l.length : Int) := by omega
          have HST := Lib.hid (goK_step hk)
          obtain ⟨kb, rfl, hkb0, hkb1⟩ : ∃ kb, Ak = some ⟨kb, 0, none⟩ ∧ w5.heap.size ≤ kb ∧ kb < w6.heap.size := by
            rcases OK6.out.2 with ⟨_, h0⟩ | ⟨b1, cc, cur, he, hb, hh, _⟩
            · omega
            · injection he with e1 e2 e3
              exact ⟨b1, e1, hb, (Array.getElem?_eq_some_iff.1 hh).1⟩
          have r0 : wr.cell? ⟨kb, j, none⟩ = some (.int .i64 (k : Int)) := by
            have h := OK6.out.cells (g := kb) rfl j (.int .i64 (k : Int)) (by simp [ints, hk])
            rw [Addr.add_mid, Nat.zero_add] at h
            refine (World.cell?_of_block (a := ⟨kb, j, none⟩) (HKJ.out.keep kb hkb1 ?_ ?_)).trans h
            · have := XX.out.o1; omega
            · intro e
              have := own_lt HH.out.own kb e
              omega
          have r1 := HSJ.out.bf.cell 0
          simp only [List.getElem?_toArray, List.getElem?_cons_zero, Fx.lb] at r1
          have HBND : Hid (oa.length + (x.from_ f k).2.length ≤ 1000000) := Lib.hid (by
            rw [← HOA.out]
            have h1 := HL.out
            have h2 : (Rt.goK (x.from_ f) (contF x.l) ks).2.length ≤ (x.from_ (f + 1) i).2.length := by
              rw [HFR.out]
              simp only
              split
              · exact Nat.le_refl _
              · simp
            have h3 := congrArg List.length HGJ.out.2
            rw [HST.out, List.length_append] at h3
            have h4 := goK_len (F := x.from_ f) (cont := contF x.l) k (ks.drop (j + 1))
            rw [List.length_append]
            omega)
          have hw : IntKind.i64.wrap ((d : Int) + 1) = (d : Int) + 1 := by
            have := XX.out.n
            rw [IntKind.wrap_i64]
            omega
          have HC : Hid (Calls Try.prog 82 #[.int .i64 (k : Int), .int .i64 ((d : Int) + 1), .pointer (some ⟨x.bL, 0, none⟩), .pointer (some ⟨x.bP, 0, none⟩), .pointer (some ⟨x.bF, 0, none⟩), .pointer (some ⟨x.bO, 0, none⟩)] wr fun e W' => e = .returned (.bool (x.from_ f k).1) ∧ ∃ v', St x W' v' (oa ++ (x.from_ f k).2) ∧ Kp x wr (.slice Aj oa.length cj) W' v') := Lib.hid (by
            have h := IH.out k (d + 1) wr _ oa hkn (by omega) HSJ.out HBND.out
            rw [show ((d + 1 : Nat) : Int) = (d : Int) + 1 by omega] at h
            exact h)
          obtain ⟨m2, hm2⟩ : ∃ m, x.l[k]? = some m := ⟨_, List.getElem?_eq_getElem hkn⟩
          obtain ⟨_, _, g2, _⟩ := ro_at HCL.out hm2
          have HCT : Hid (contF x.l k = m2.cont) := Lib.hid (by unfold contF; rw [hm2])
          have HG2 := Lib.hid g2
          clear g2 hm2 hk
          obtain ⟨bk, hbk⟩ : ∃ y, (x.from_ f k).1 = y := ⟨_, rfl⟩
          have HBK := Lib.hid hbk
          rw [hbk] at HC
          clear hbk
          obtain ⟨ck2, hck⟩ : ∃ y, m2.cont = y := ⟨_, rfl⟩
          rw [hck] at HCT HG2
          clear hck
          have eg := eg82
          cases bk with
          | false =>
            go_wp2_with (go_at_fn 82; refine HC.out.mono ?_; rintro e w7 ⟨rfl, v7, hs7, hk7⟩; have HS7 := Lib.hid hs7; have HK7 := Lib.hid hk7; clear hs7 hk7)
            go_roundw
            case rel =>
              refine ⟨j + 1, sm, acc ++ (x.from_ f k).2, v7, by omega, by first | rfl | trivial, by go_num, Lib.hid ?_, Lib.hid (HKJ.out.trans HK7.out), Lib.hid ⟨?_, ?_⟩⟩
              · rw [← List.append_assoc, HOA.out]; exact HS7.out
              · rw [HGJ.out.1, HST.out]
                conv => lhs; unfold Rt.goK
                rw [if_neg (by rw [HBK.out]; decide)]
              · rw [HGJ.out.2, HST.out]
                conv => lhs; unfold Rt.goK
                rw [if_neg (by rw [HBK.out]; decide), List.append_assoc]
            case measure => simp [intOf]; omega
          | true =>
            cases ck2 with
            | true =>
              go_wp2_with (go_at_fn 82; refine HC.out.mono ?_; rintro e w7 ⟨rfl, v7, hs7, hk7⟩; have HS7 := Lib.hid hs7; have HK7 := Lib.hid hk7; have t0 := hs7.bl.cell 0; simp only [List.getElem?_toArray, List.getElem?_cons_zero] at t0; rw [HA.out] at t0; have t1 := (hs7.kp.cell (p := ⟨b, _, none⟩) HW0.out).trans HG2.out; clear hs7 hk7)
              go_roundw
              case rel =>
                refine ⟨j + 1, true, acc ++ (x.from_ f k).2, v7, by omega, by first | rfl | trivial, by go_num, Lib.hid ?_, Lib.hid (HKJ.out.trans HK7.out), Lib.hid ⟨?_, ?_⟩⟩
                · rw [← List.append_assoc, HOA.out]; exact HS7.out
                · rw [HGJ.out.1, HST.out]
                  conv => lhs; unfold Rt.goK
                  rw [if_pos HBK.out, if_pos HCT.out]
                  simp
                · rw [HGJ.out.2, HST.out]
                  conv => lhs; unfold Rt.goK
                  rw [if_pos HBK.out, if_pos HCT.out, List.append_assoc]
              case measure => simp [intOf]; omega
            | false =>
              have HGF : Hid ((Rt.goK (x.from_ f) (contF x.l) ks).1 = true ∧ (Rt.goK (x.from_ f) (contF x.l) ks).2 = acc ++ (x.from_ f k).2) := Lib.hid (by
                rw [HGJ.out.1, HGJ.out.2, HST.out]
                conv => lhs; unfold Rt.goK
                conv => rhs; lhs; unfold Rt.goK
                rw [if_pos HBK.out, if_neg (by rw [HCT.out]; decide)]
                simp)
              go_wp2_with (go_at_fn 82; refine HC.out.mono ?_; rintro e w7 ⟨rfl, v7, hs7, hk7⟩; have HS7 := Lib.hid hs7; have HK7 := Lib.hid hk7; have t0 := hs7.bl.cell 0; simp only [List.getElem?_toArray, List.getElem?_cons_zero] at t0; rw [HA.out] at t0; have t1 := (hs7.kp.cell (p := ⟨b, _, none⟩) HW0.out).trans HG2.out; clear hs7 hk7)
              try rw [Exit.noGoto_ret]
              go_ret
              refine ⟨(by rw [HFR.out]; first | done | rfl), v7, ?_, (Kp.of_below K6.out).trans (HKJ.out.trans HK7.out)⟩
              rw [HFR.out]
              simp only [HGF.out.1, HGF.out.2, if_true]
              rw [← List.append_assoc, HOA.out]
              exact HS7.out
        · obtain rfl : j = ks.length := by omega
          have HGF : Hid ((Rt.goK (x.from_ f) (contF x.l) ks).1 = sm ∧ (Rt.goK (x.from_ f) (contF x.l) ks).2 = acc) := Lib.hid (by
            refine ⟨?_, ?_⟩
            · rw [HGJ.out.1, List.drop_length]
              simp [Rt.goK]
            · rw [HGJ.out.2, List.drop_length]
              simp [Rt.goK])
          cases sm with
          | true =>
            go_wp2
            try rw [Exit.noGoto_ret]
            go_ret
            refine ⟨(by rw [HFR.out]; first | done | rfl), _, ?_, (Kp.of_below K6.out).trans HKJ.out⟩
            rw [HFR.out]
            simp only [HGF.out.1, HGF.out.2, if_true]
            rw [HOA.out]
            exact HSJ.out
          | false =>
            have HBN : Hid (oa.length + 1 ≤ 1000000) := Lib.hid (by
              rw [← HOA.out]
              have h1 := HL.out
              rw [HFR.out] at h1
              simp only [HGF.out.1, HGF.out.2] at h1
              simp at h1 ⊢
              omega)
            have hbn := HBN.out
            have t0 := HSJ.out.bo.cell 0
            simp only [List.getElem?_toArray, List.getElem?_cons_zero] at t0
            have hwN : x.N ≤ wr.heap.size := HSJ.out.sz
            have OJ := Lib.hid HSJ.out.own
            go_wp2_with (at_builtin; (refine app_row x.N rfl (.tmp 48) (.tmp 50) 74 3 _ 1 8 rfl Try.underlying74 int_info rfl (by omega) _ _ _ _ rfl _ rfl (by simp) (by simp [Value.oneCell']) rfl OJ.out hwN (by omega) (by omega) ?_); intro v2 w8 ho2 hg2 hat; obtain ⟨A8, c8, rfl⟩ := own_slice ho2; have HT := Lib.hid (St.told XX.out HSJ.out ho2 (i := i) rfl rfl hg2 hat); have hb2 := HSJ.out.bo.grown hg2 (fun e => by have := own_base OJ.out x.bO e.symm; have := XX.out.o1; omega); have s0 := hb2.cell 0; have s1 := hb2.frozen 0; simp only [List.getElem?_toArray, List.getElem?_cons_zero] at s0; clear ho2 hg2 hat hb2)
            try rw [Exit.noGoto_ret]
            go_ret
            refine ⟨(by rw [HFR.out]; first | done | rfl), _, ?_, (Kp.of_below K6.out).trans (HKJ.out.trans HT.out.2)⟩
            rw [HFR.out]
            simp only [HGF.out.1, HGF.out.2]
            simp only [Bool.false_eq_true, if_false]
            rw [← List.append_assoc, HOA.out]
            exact HT.out.1
end Go.Proofs.Ytnidjfmbbfoheaa

/- WALK: route.Walk. -/
namespace Go.Proofs.Ytnidjfmbbfoheaa
set_option linter.unusedVariables false
set_option linter.unusedSimpArgs false
open Go.RowKit Go.BigFrame

def walkL (l : List Ro) (lb : List Pr) : List Nat := Rt.walk (parF l) (takesF l lb) (contF l) l.length
set_option maxRecDepth 100000 in
set_option maxHeartbeats 1000000 in
theorem walk_any (A : Option Addr) (cp : Nat) (l : List Ro) (P : PR) (w : World) (rt : Reads w (fun b => b < w.heap.size) 8 A l.length (l.flatMap Ro.cells)) (ro : ∀ r ∈ l, r.In w) (sm : ∀ r ∈ l, r.ms.l.length ≤ 4294967296) (pin : P.In w) (pl : P.Light) (n0 : 0 < l.length) (n1 : l.length ≤ 1000) (hlen : (walkL l P.l).length ≤ 1000000) :
    Calls Try.prog 50 #[.slice A l.length cp, .slice P.A P.l.length P.c] w fun e w' => ∃ v, e = .returned v ∧ w'.ownsRow w.heap.size 3 1 v (walkL l P.l).length (ints (walkL l P.l)) ∧ Below w.heap.size w w' := by
  obtain ⟨x, hx⟩ : ∃ x : Fx, x = ⟨w, w.heap.size + 1 + 1 + 1 + 1, w.heap.size, w.heap.size + 1, w.heap.size + 1 + 1 + 1, w.heap.size + 1 + 1, A, cp, l, P⟩ := ⟨_, rfl⟩
  have X : x.Ok := by
    subst hx
    exact ⟨rt, ro, sm, pin, pl, n1, Nat.le_refl _, (by show w.heap.size ≤ w.heap.size + 1; omega), (by show w.heap.size ≤ w.heap.size + 1 + 1 + 1; omega), (by show w.heap.size ≤ w.heap.size + 1 + 1; omega), (by show w.heap.size < w.heap.size + 1 + 1 + 1 + 1; omega), (by show w.heap.size + 1 < w.heap.size + 1 + 1 + 1 + 1; omega), (by show w.heap.size + 1 + 1 + 1 < w.heap.size + 1 + 1 + 1 + 1; omega), (by show w.heap.size + 1 + 1 < w.heap.size + 1 + 1 + 1 + 1; omega), (by show w.heap.size ≠ w.heap.size + 1 + 1; omega), (by show w.heap.size + 1 ≠ w.heap.size + 1 + 1; omega), (by show w.heap.size + 1 + 1 + 1 ≠ w.heap.size + 1 + 1; omega)⟩
  have hw : walkL l P.l = (x.from_ (l.length + 1) 0).2 := by
    subst hx
    unfold walkL Rt.walk Fx.from_
    rw [if_neg (by omega)]
  have j1 : ((l.length : Int) == 0) = false := beq_eq_false_iff_ne.2 (by omega)
  have HC : Hid (∀ (W : World) (v : Value), St x W v [] → Calls Try.prog 82 #[.int .i64 0, .int .i64 0, .pointer (some ⟨w.heap.size, 0, none⟩), .pointer (some ⟨w.heap.size + 1, 0, none⟩), .pointer (some ⟨w.heap.size + 1 + 1 + 1, 0, none⟩), .pointer (some ⟨w.heap.size + 1 + 1, 0, none⟩)] W fun e W' => ∃ b, e = .returned (.bool b) ∧ ∃ v', St x W' v' (walkL l P.l)) := Lib.hid (fun W v h => by
    have h' := from_any x X (l.length + 1) 0 0 W v [] (by subst hx; exact n0) (by subst hx; simp) h (by rw [← hw]; simpa using hlen)
    rw [← hw] at h'
    subst hx
    refine h'.mono ?_
    rintro e W' ⟨he, v', h1, _⟩
    exact ⟨_, he, v', h1⟩)
  have eg := eg82
  have HW := Lib.hid hx
  clear rt ro sm pin pl hlen X hw hx n1
  generalize walkL l P.l = ws at *
  obtain ⟨pn, hpn⟩ : ∃ n, P.l.length = n := ⟨_, rfl⟩
  go_enter Try.func50, Try.ntmps50
  go_upto_region 5 with fail
  have s1 : (w.alloc (.cells #[.slice A l.length cp] 68)).heap.size = w.heap.size + 1 := by simp
  have s2 : ((w.alloc (.cells #[.slice A l.length cp] 68)).alloc (.cells #[.slice P.A pn P.c] 38)).heap.size = w.heap.size + 1 + 1 := by rw [World.size_alloc, s1]
  have s3 : (((w.alloc (.cells #[.slice A l.length cp] 68)).alloc (.cells #[.slice P.A pn P.c] 38)).alloc (.cells #[.slice none 0 0] 74)).heap.size = w.heap.size + 1 + 1 + 1 := by rw [World.size_alloc, s2]
  have s4 : ((((w.alloc (.cells #[.slice A l.length cp] 68)).alloc (.cells #[.slice P.A pn P.c] 38)).alloc (.cells #[.slice none 0 0] 74)).alloc (.cells #[.nilFunc] 128)).heap.size = w.heap.size + 1 + 1 + 1 + 1 := by rw [World.size_alloc, s3]
  have bL := Lib.hid ((((Blk.new w 68 #[.slice A l.length cp]).alloc (.cells #[.slice P.A pn P.c] 38)).alloc (.cells #[.slice none 0 0] 74)).alloc (.cells #[.nilFunc] 128))
  have bP : Hid (Blk ((((w.alloc (.cells #[.slice A l.length cp] 68)).alloc (.cells #[.slice P.A pn P.c] 38)).alloc (.cells #[.slice none 0 0] 74)).alloc (.cells #[.nilFunc] 128)) (w.heap.size + 1) 38 #[.slice P.A pn P.c]) := Lib.hid (((Blk.new_at (w := (w.alloc (.cells #[.slice A l.length cp] 68))) (t := 38) (cs := #[.slice P.A pn P.c]) s1.symm).alloc (.cells #[.slice none 0 0] 74)).alloc (.cells #[.nilFunc] 128))
  have bO : Hid (Blk ((((w.alloc (.cells #[.slice A l.length cp] 68)).alloc (.cells #[.slice P.A pn P.c] 38)).alloc (.cells #[.slice none 0 0] 74)).alloc (.cells #[.nilFunc] 128)) (w.heap.size + 1 + 1) 74 #[.slice none 0 0]) := Lib.hid ((Blk.new_at (w := ((w.alloc (.cells #[.slice A l.length cp] 68)).alloc (.cells #[.slice P.A pn P.c] 38))) (t := 74) (cs := #[.slice none 0 0]) s2.symm).alloc (.cells #[.nilFunc] 128))
  have bF : Hid (Blk ((((w.alloc (.cells #[.slice A l.length cp] 68)).alloc (.cells #[.slice P.A pn P.c] 38)).alloc (.cells #[.slice none 0 0] 74)).alloc (.cells #[.nilFunc] 128)) (w.heap.size + 1 + 1 + 1) 128 #[.nilFunc]) := Lib.hid (Blk.new_at (w := (((w.alloc (.cells #[.slice A l.length cp] 68)).alloc (.cells #[.slice P.A pn P.c] 38)).alloc (.cells #[.slice none 0 0] 74))) (t := 128) (cs := #[.nilFunc]) s3.symm)
  have KB : Hid (Below w.heap.size w ((((w.alloc (.cells #[.slice A l.length cp] 68)).alloc (.cells #[.slice P.A pn P.c] 38)).alloc (.cells #[.slice none 0 0] 74)).alloc (.cells #[.nilFunc] 128))) := Lib.hid (((((Below.refl w.heap.size w).alloc (Nat.le_refl _) _).alloc (by rw [s1]; omega) _).alloc (by rw [s2]; omega) _).alloc (by rw [s3]; omega) _)
  have z0 := bF.out.cell 0
  have z1 := bF.out.frozen 0
  simp only [List.getElem?_toArray, List.getElem?_cons_zero] at z0
  have S4 := Lib.hid s4
  clear s1 s2 s3 s4
  generalize ((((w.alloc (.cells #[.slice A l.length cp] 68)).alloc (.cells #[.slice P.A pn P.c] 38)).alloc (.cells #[.slice none 0 0] 74)).alloc (.cells #[.nilFunc] 128)) = w4 at *
  have HST : Hid (St x (w4.setCell ⟨w.heap.size + 1 + 1 + 1, 0, none⟩ (.func (.func 82) #[] #[.pointer (some ⟨w.heap.size, 0, none⟩), .pointer (some ⟨w.heap.size + 1, 0, none⟩), .pointer (some ⟨w.heap.size + 1 + 1 + 1, 0, none⟩), .pointer (some ⟨w.heap.size + 1 + 1, 0, none⟩)])) (.slice none 0 0) []) := Lib.hid (by
    have e := HW.out
    subst e
    have hs : (w4.setCell ⟨w.heap.size + 1 + 1 + 1, 0, none⟩ (.func (.func 82) #[] #[.pointer (some ⟨w.heap.size, 0, none⟩), .pointer (some ⟨w.heap.size + 1, 0, none⟩), .pointer (some ⟨w.heap.size + 1 + 1 + 1, 0, none⟩), .pointer (some ⟨w.heap.size + 1 + 1, 0, none⟩)])).heap.size = w4.heap.size := by simp [World.setCell]
    refine ⟨KB.out.setCell (p := ⟨w.heap.size + 1 + 1 + 1, 0, none⟩) (by show w.heap.size ≤ w.heap.size + 1 + 1 + 1; omega) _, bL.out.far (p := ⟨w.heap.size + 1 + 1 + 1, 0, none⟩) (by show w.heap.size ≠ w.heap.size + 1 + 1 + 1; omega) _, ?_, ?_, bO.out.far (p := ⟨w.heap.size + 1 + 1 + 1, 0, none⟩) (by show w.heap.size + 1 + 1 ≠ w.heap.size + 1 + 1 + 1; omega) _, own_nil _ _ _ _, by rw [hs, S4.out]; exact Nat.le_refl _⟩
    · have := bP.out.far (p := ⟨w.heap.size + 1 + 1 + 1, 0, none⟩) (by show w.heap.size + 1 ≠ w.heap.size + 1 + 1 + 1; omega) (.func (.func 82) #[] #[.pointer (some ⟨w.heap.size, 0, none⟩), .pointer (some ⟨w.heap.size + 1, 0, none⟩), .pointer (some ⟨w.heap.size + 1 + 1 + 1, 0, none⟩), .pointer (some ⟨w.heap.size + 1 + 1, 0, none⟩)])
      rw [← hpn] at this
      exact this
    · have := bF.out.set_ 0 (.func (.func 82) #[] #[.pointer (some ⟨w.heap.size, 0, none⟩), .pointer (some ⟨w.heap.size + 1, 0, none⟩), .pointer (some ⟨w.heap.size + 1 + 1 + 1, 0, none⟩), .pointer (some ⟨w.heap.size + 1 + 1, 0, none⟩)])
      simpa [Fx.lb] using this)
  have hst : Sem.run Try.prog (store ⟨w.heap.size + 1 + 1 + 1, 0, none⟩ (.func (.func 82) #[] #[.pointer (some ⟨w.heap.size, 0, none⟩), .pointer (some ⟨w.heap.size + 1, 0, none⟩), .pointer (some ⟨w.heap.size + 1 + 1 + 1, 0, none⟩), .pointer (some ⟨w.heap.size + 1 + 1, 0, none⟩)])) w4 = .ok () (w4.setCell ⟨w.heap.size + 1 + 1 + 1, 0, none⟩ (.func (.func 82) #[] #[.pointer (some ⟨w.heap.size, 0, none⟩), .pointer (some ⟨w.heap.size + 1, 0, none⟩), .pointer (some ⟨w.heap.size + 1 + 1 + 1, 0, none⟩), .pointer (some ⟨w.heap.size + 1 + 1, 0, none⟩)])) := by
    rw [run_store Try.prog w4 _ _ _ rfl]
    simp [go_sem, stored, z0, z1]
  go_wp2_with (go_at_fn 82; refine (HC.out _ _ HST.out).mono ?_; rintro e w5 ⟨b, rfl, v5, hs5⟩; have t0 := hs5.bo.cell 0; have HS5 := Lib.hid hs5; clear hs5; rw [HW.out] at t0; simp only [List.getElem?_toArray, List.getElem?_cons_zero] at t0)
  go_ret
  have h := HS5.out
  have hk := h.kp
  have ho := h.own
  rw [HW.out] at hk ho
  exact ⟨_, rfl, own_lower ho (by show w.heap.size ≤ w.heap.size + 1 + 1 + 1 + 1; omega), hk⟩
end Go.Proofs.Ytnidjfmbbfoheaa
