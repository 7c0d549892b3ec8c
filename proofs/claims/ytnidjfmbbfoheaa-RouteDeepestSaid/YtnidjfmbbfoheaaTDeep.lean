/- The statement RouteDeepest: no route that is told has a child that takes the labels; where none continues just one is told. Conditions: none. -/
import Derived.Test.YtnidjfmbbfoheaaT4
namespace Go.Proofs.Ytnidjfmbbfoheaa
set_option linter.unusedVariables false
set_option linter.unusedSimpArgs false
open Go.ChangeShapes Go.WideShapes Go.ChangeAt Go.RowKit Go.Joins Go.Deep Go.BigFrame

theorem any_none {l : List Ro} (h : l.any (fun r => r.cont) = false) : ∀ k, contF l k = false := by
  intro k
  unfold contF
  cases hk : l[k]? with
  | none => rfl
  | some r => simpa using List.any_eq_false.1 h r (List.mem_of_getElem? hk)
theorem any_take {l : List Ro} {q : Nat} {m : Ro} (hm : l[q]? = some m) : (l.take (q + 1)).any (fun r => r.cont) = ((l.take q).any (fun r => r.cont) || m.cont) := by
  rw [List.take_add_one, hm, List.any_append]
  simp
set_option maxRecDepth 100000 in
set_option maxHeartbeats 8000000 in
theorem deep_law (c : Cf) (P : PR) (w : World) (Hc : c.In w) (Hp : P.In w) : Calls Try.prog 20 #[c.val, P.val] w fun e w' => e = .returned (.bool true) ∧ Below w.heap.size w w' := by
  obtain ⟨w1, hw1⟩ : ∃ w1, w1 = w.alloc (.cells c.cells 70) := ⟨_, rfl⟩
  have hb1 : Below w.heap.size w w1 := by rw [hw1]; exact (Below.refl _ _).alloc (Nat.le_refl _) _
  have K1 := Lib.hid hb1
  have HC := Lib.hid (Hc.below hb1)
  have HP := Lib.hid (Hp.below hb1)
  have HLi : Hid (∀ X, Below w1.heap.size w1 X → Calls Try.prog 46 #[c.val] X fun e w' => e = .returned (.bool (lightC c)) ∧ Below X.heap.size X w') := Lib.hid (fun X hX => lightc_any c X (HC.out.below hX))
  have HLp : Hid (∀ X, Below w1.heap.size w1 X → Calls Try.prog 29 #[.slice none 0 0, .slice P.A P.l.length P.c] X fun e w' => e = .returned (.bool (lightB P.l)) ∧ Below X.heap.size X w') := Lib.hid (fun X hX => light_any P.A P.c P.l X (HP.out.below hX).1 (HP.out.below hX).2)
  have HCk : Hid (∀ X, Below w1.heap.size w1 X → Calls Try.prog 47 #[c.val] X fun e w' => e = .returned (.int .i64 (cfB c)) ∧ Below X.heap.size X w') := Lib.hid (fun X hX => check47_any c X (HC.out.below hX))
  have HWk := Lib.hid (fun (h1 : lightC c = true) (h2 : lightB P.l = true) (h3 : cfB c = 0) (X : World) (hX : Below w1.heap.size w1 X) => walk_pr c P X (HC.out.below hX) (HP.out.below hX) h1 h2 h3)
  have HTk := Lib.hid (fun (h1 : lightC c = true) (h2 : lightB P.l = true) (k : Nat) (m : Ro) (hm : c.l[k]? = some m) (X : World) (hX : Below w1.heap.size w1 X) => takes_pr c P X (HC.out.below hX) (HP.out.below hX) h1 h2 k m hm)
  have HTo := Lib.hid (fun (h : cfB c = 0) => told_of h P.l)
  have RT := Lib.hid HC.out.rt
  clear Hc Hp HC HP hb1
  obtain ⟨E1, hE1⟩ : ∃ y, lightC c = y := ⟨_, rfl⟩
  obtain ⟨E2, hE2⟩ : ∃ y, lightB P.l = y := ⟨_, rfl⟩
  obtain ⟨E3, hE3⟩ : ∃ y, cfB c = y := ⟨_, rfl⟩
  rw [hE1] at HLi HWk HTk
  rw [hE2] at HLp HWk HTk
  rw [hE3] at HCk HWk HTo
  clear hE1 hE2 hE3
  have BX : Hid (Blk w1 w.heap.size 70 c.cells) := Lib.hid (by rw [hw1]; exact Blk.new w 70 c.cells)
  have hlt : w.heap.size < w1.heap.size := by rw [hw1]; simp
  obtain ⟨A, cp, l, B, cq, rl, pt, rs⟩ := c
  unfold Cf.val at HLi HCk ⊢
  unfold PR.val
  simp only [Cf.cells] at hw1 HLi HCk HWk HTk HTo RT BX ⊢
  go_enter Try.func20, Try.ntmps20
  go_upto_region 1 with fail
  rw [← hw1]
  obtain ⟨bx, hbx⟩ : ∃ b, w.heap.size = b := ⟨_, rfl⟩
  rw [hbx] at BX hlt
  rw [hbx]
  clear hbx hw1
  have HB : Hid (∀ X, Below w1.heap.size w1 X → X.cell? ⟨bx, 0, none⟩ = some (.slice A l.length cp) ∧ X.cell? ⟨bx, 1, none⟩ = some (.slice B rl.length cq) ∧ X.cell? ⟨bx, 2, none⟩ = some (.int .i64 pt) ∧ X.cell? ⟨bx, 3, none⟩ = some (.int .i64 rs)) := Lib.hid (fun X hX => by
    have h := BX.out.below hX hlt
    exact ⟨h.cell 0, h.cell 1, h.cell 2, h.cell 3⟩)
  have L1 := Lib.hid (Below.refl w1.heap.size w1)
  obtain ⟨z0, z1, z2, z3⟩ := HB.out w1 L1.out
  go_wp2_with fail
  refine (HLi.out _ L1.out).mono ?_
  rintro e w2 ⟨rfl, hb⟩
  have L2 := Lib.hid (below_then L1.out L1.out.size hb)
  clear hb
  cases E1 with
  | false =>
    go_wp2_with fail
    refine (awake5 _).mono ?_
    rintro e wz ⟨rfl, hb⟩
    have KZ := Lib.hid (below_then L2.out L2.out.size hb)
    clear hb
    go_wp2
    go_ret
    exact ⟨rfl, below_then K1.out K1.out.size KZ.out⟩
  | true =>
  go_wp2_with fail
  refine (HLp.out _ L2.out).mono ?_
  rintro e w3 ⟨rfl, hb⟩
  have L3 := Lib.hid (below_then L2.out L2.out.size hb)
  clear hb
  cases E2
  · skip
    go_wp2_with fail
    refine (awake5 _).mono ?_
    rintro e wz ⟨rfl, hb⟩
    have KZ := Lib.hid (below_then L3.out L3.out.size hb)
    clear hb
    go_wp2
    go_ret
    exact ⟨rfl, below_then K1.out K1.out.size KZ.out⟩
  clear z0 z1 z2 z3
  obtain ⟨z0, z1, z2, z3⟩ := HB.out w3 L3.out
  go_wp2_with fail
  refine (HCk.out _ L3.out).mono ?_
  rintro e w4 ⟨rfl, hb⟩
  have L4 := Lib.hid (below_then L3.out L3.out.size hb)
  clear hb z0 z1 z2 z3
  by_cases he : E3 = 0
  rotate_left
  · have he' := bne_is he
    go_wp2_with fail
    refine (awake5 _).mono ?_
    rintro e wz ⟨rfl, hb⟩
    have KZ := Lib.hid (below_then L4.out L4.out.size hb)
    clear hb
    go_wp2
    go_ret
    exact ⟨rfl, below_then K1.out K1.out.size KZ.out⟩
  subst he
  have HW := Lib.hid (HWk.out (by trivial) (by trivial) (by trivial))
  have HT := Lib.hid (HTk.out (by trivial) (by trivial))
  have TO := Lib.hid (HTo.out (by trivial))
  clear HWk HTk HTo HLi HLp HCk
  obtain ⟨z0, z1, z2, z3⟩ := HB.out w4 L4.out
  go_wp2_with fail
  refine (HW.out _ L4.out).mono ?_
  rintro e w5 ⟨v5, rfl, ho, hb⟩
  have L5 := Lib.hid (below_then L4.out L4.out.size hb)
  obtain ⟨b5, c5, rfl, hb50, hb51, hcs⟩ := ints_read ho TO.out.some
  have HCs : Hid (∀ (X : World), Below w5.heap.size w5 X → ∀ (j k : Nat), (walkL l P.l)[j]? = some k → X.cell? ⟨b5, j, none⟩ = some (.int .i64 (k : Int))) := Lib.hid (fun X hX j k hk => (hX.cell (p := ⟨b5, j, none⟩) hb51).trans (hcs j k hk))
  clear hb ho hcs z0 z1 z2 z3 HW hlt BX
  obtain ⟨b, o, rfl, hbb, hcell⟩ := RT.out.2 TO.out.n0
  have HR0 : Hid (∀ (X : World), Below w1.heap.size w1 X → ∀ (k : Nat) (m : Ro), l[k]? = some m → X.cell? ⟨b, o + k * 8, none⟩ = some (.int .i64 m.par) ∧ X.cell? ⟨b, o + k * 8 + 1, none⟩ = some (.slice m.ms.A m.ms.l.length m.ms.c) ∧ X.cell? ⟨b, o + k * 8 + 2, none⟩ = some (.bool m.cont)) := Lib.hid (fun X hX k m hm => by
    obtain ⟨r0, r1, r2, _⟩ := ro_at hcell hm
    exact ⟨(hX.cell (p := ⟨b, _, none⟩) hbb).trans r0, (hX.cell (p := ⟨b, _, none⟩) hbb).trans r1, (hX.cell (p := ⟨b, _, none⟩) hbb).trans r2⟩)
  clear hbb hcell
  have M5 := Lib.hid (Below.refl w5.heap.size w5)
  have hws := TO.out.few
  have hln := TO.out.n1
  obtain ⟨ws, hws'⟩ : ∃ ws, walkL l P.l = ws := ⟨_, rfl⟩
  have HWS := Lib.hid hws'
  rw [hws'] at HCs hws
  rw [hws']
  clear hws'
  go_wp2
  go_loopw [6] (fun s wr => ∃ i : Nat, i ≤ ws.length ∧ s = .int .i64 (i : Int) ∧ Hid (Below w5.heap.size w5 wr)) (fun s _ => ws.length - (intOf s).toNat)
  case atStart => exact ⟨0, Nat.zero_le _, rfl, M5⟩
  case round =>
    obtain ⟨i, hi, rfl, N1⟩ := hrel
    by_cases hil : i < ws.length
    · have hi0 : (0 : Int) ≤ (i : Int) := by omega
      have hi1 : (i : Int) < (ws.length : Int) := by omega
      obtain ⟨x, hx⟩ : ∃ x, ws[i]? = some x := ⟨_, List.getElem?_eq_getElem hil⟩
      have HX := Lib.hid hx
      have HXM : Hid (x ∈ walkL l P.l) := Lib.hid (by rw [HWS.out]; exact List.mem_of_getElem? hx)
      clear hx
      have hxn := (TO.out.up x HXM.out).lt
      have N1' := Lib.hid (below_then L5.out L5.out.size N1.out)
      have y0 := HCs.out wr N1.out i x HX.out
      obtain ⟨z0, _, _, _⟩ := HB.out wr N1'.out
      obtain ⟨ks, hks⟩ : ∃ ks, Rt.kids (parF l) l.length x = ks := ⟨_, rfl⟩
      have HKN : Hid (∀ k ∈ ks, k < l.length ∧ takesF l P.l k = false) := Lib.hid (fun k hk => by rw [← hks] at hk; exact ⟨(Rt.mem_kids.1 hk).1, TO.out.deep x HXM.out k hk⟩)
      have hkl : ks.length ≤ l.length := by rw [← hks]; exact kidsTo_length l x l.length
      have TK : Hid (Calls Try.prog 51 #[.slice (some ⟨b, o, none⟩) l.length cp, .int .i64 (x : Int)] wr.drew fun e w' => ∃ v, e = .returned v ∧ w'.ownsRow wr.heap.size 3 1 v ks.length (ints ks) ∧ Below w5.heap.size w5 w' ∧ (w'.cell? ⟨bx, 0, none⟩ = some (.slice (some ⟨b, o, none⟩) l.length cp) ∧ w'.cell? ⟨b5, i, none⟩ = some (.int .i64 (x : Int)))) := Lib.hid (by
        have h := children_any (some ⟨b, o, none⟩) cp l x wr.drew hxn (by omega) ((RT.out.below (by omega) N1'.out.drew).imp (fun q hq => Nat.lt_of_lt_of_le hq N1'.out.drew.size))
        rw [hks] at h
        refine h.mono ?_
        rintro e w' ⟨v, he, ho, hb⟩
        have n2 := below_then N1.out.drew N1.out.drew.size hb
        exact ⟨v, he, ho, n2, (HB.out w' (below_then L5.out L5.out.size n2)).1, HCs.out w' n2 i x HX.out⟩)
      clear hks
      have HS0 : Hid (wr.cell? ⟨bx, 0, none⟩ = some (.slice (some ⟨b, o, none⟩) l.length cp) ∧ wr.cell? ⟨b5, i, none⟩ = some (.int .i64 (x : Int))) := Lib.hid ⟨z0, y0⟩
      go_upto_region 7 with fail
      refine wp_region_held_drew (S := (fun X => X.cell? ⟨bx, 0, none⟩ = some (.slice (some ⟨b, o, none⟩) l.length cp) ∧ X.cell? ⟨b5, i, none⟩ = some (.int .i64 (x : Int)))) (by kernel_rfl) (by exact HS0.out) (fun hHeld => ?_)
      refine wpAnyH_take (i := 0) (v := ?_) (by simp only [List.getElem?_toArray, List.getElem?_cons_succ, List.getElem?_cons_zero]; exact rfl) (by decide +kernel) (by decide +kernel) (by decide +kernel) (by exact fun _ _ _ h => h) (Or.inl ⟨by rfl, ?_⟩) (by assumption) ?_
      rotate_left
      · (intro w hSw; (try dsimp only at hSw); go_simp; try with_reducible rfl)
      try simp only [Act.put, List.setIfInBounds_toArray, List.set_cons_zero, List.set_cons_succ]
      refine wpAnyH_take (i := 1) (v := ?_) (by simp only [List.getElem?_toArray, List.getElem?_cons_succ, List.getElem?_cons_zero]; exact rfl) (by decide +kernel) (by decide +kernel) (by decide +kernel) (by exact fun _ _ _ h => h) (Or.inl ⟨by rfl, ?_⟩) (by assumption) ?_
      rotate_left
      · (intro w hSw; (try dsimp only at hSw); go_simp; try with_reducible rfl)
      try simp only [Act.put, List.setIfInBounds_toArray, List.set_cons_zero, List.set_cons_succ]
      refine wpAnyH_take (i := 2) (v := ?_) (by simp only [List.getElem?_toArray, List.getElem?_cons_succ, List.getElem?_cons_zero]; exact rfl) (by decide +kernel) (by decide +kernel) (by decide +kernel) (by exact fun _ _ _ h => h) (Or.inl ⟨by rfl, ?_⟩) (by assumption) ?_
      rotate_left
      · (intro w hSw; (try dsimp only at hSw); go_simp; try with_reducible rfl)
      try simp only [Act.put, List.setIfInBounds_toArray, List.set_cons_zero, List.set_cons_succ]
      refine wpAnyH_take (i := 3) (v := ?_) (by simp only [List.getElem?_toArray, List.getElem?_cons_succ, List.getElem?_cons_zero]; exact rfl) (by decide +kernel) (by decide +kernel) (by decide +kernel) (by exact fun _ _ _ h => h) (Or.inl ⟨by rfl, ?_⟩) (by assumption) ?_
      rotate_left
      · (intro w hSw; (try dsimp only at hSw); go_simp; try with_reducible rfl)
      try simp only [Act.put, List.setIfInBounds_toArray, List.set_cons_zero, List.set_cons_succ]
      refine wpAnyH_take (i := 4) (v := ?_) (by simp only [List.getElem?_toArray, List.getElem?_cons_succ, List.getElem?_cons_zero]; exact rfl) (by decide +kernel) (by decide +kernel) (by decide +kernel) (by exact fun _ _ _ h => h) (Or.inl ⟨by rfl, ?_⟩) (by assumption) ?_
      rotate_left
      · (intro w hSw; (try dsimp only at hSw); go_simp; try with_reducible rfl)
      try simp only [Act.put, List.setIfInBounds_toArray, List.set_cons_zero, List.set_cons_succ]
      refine wpAnyH_take (i := 5) (v := ?_) (by simp only [List.getElem?_toArray, List.getElem?_cons_succ, List.getElem?_cons_zero]; exact rfl) (by decide +kernel) (by decide +kernel) (by decide +kernel) (by exact fun _ _ _ h => h) (Or.inl ⟨by rfl, ?_⟩) (by assumption) ?_
      rotate_left
      · (intro w hSw; (try dsimp only at hSw); go_simp; try with_reducible rfl)
      try simp only [Act.put, List.setIfInBounds_toArray, List.set_cons_zero, List.set_cons_succ]
      refine wpAnyH_ready (rs := [6]) (by kernel_rfl) (by simp) ?_
      refine AllReadyH.cons (by simp only [List.getElem?_toArray, List.getElem?_cons_succ, List.getElem?_cons_zero]; exact rfl) (fun K hK => ?_) AllReadyH.nil
      go_simp
      go_at_call 51
      refine TK.out.mono ?_
      rintro e w6 ⟨v6, rfl, hok, hb6, HS5⟩
      have L6 := Lib.hid hb6
      have OK6 := Lib.hid hok
      clear hb6 hok
      go_wp2_with fail
      refine hK.out _ _ (by first | assumption | exact HS5) (fun hHeld => ?_)
      clear hK K
      try simp only [Act.put, List.setIfInBounds_toArray, List.set_cons_zero, List.set_cons_succ]
      refine wpAnyH_take (i := 7) (v := ?_) (by simp only [List.getElem?_toArray, List.getElem?_cons_succ, List.getElem?_cons_zero]; exact rfl) (by decide +kernel) (by decide +kernel) (by decide +kernel) (by exact fun _ _ _ h => h) (Or.inl ⟨by rfl, ?_⟩) (by assumption) ?_
      rotate_left
      · (intro w hSw; (try dsimp only at hSw); go_simp; try with_reducible rfl)
      try simp only [Act.put, List.setIfInBounds_toArray, List.set_cons_zero, List.set_cons_succ]
      refine wpAnyH_done (by kernel_rfl) ?_ _
      obtain ⟨Ak, ck, rfl⟩ := own_slice OK6.out
      clear HS5 y0 z0 TK HS0
      go_wp2
      go_loopw [8] (fun s wv => ∃ q : Nat, q ≤ ks.length ∧ s = .int .i64 (q : Int) ∧ Hid (Below w6.heap.size w6 wv)) (fun s _ => ks.length - (intOf s).toNat)
      case atStart => exact ⟨0, Nat.zero_le _, rfl, Lib.hid (Below.refl _ _)⟩
      case round =>
        obtain ⟨q, hq, rfl, N3⟩ := hrel
        by_cases hqk : q < ks.length
        · have hq0 : (0 : Int) ≤ (q : Int) := by omega
          have hq1 : (q : Int) < (ks.length : Int) := by omega
          obtain ⟨y, hy⟩ : ∃ y, ks[q]? = some y := ⟨_, List.getElem?_eq_getElem hqk⟩
          obtain ⟨hyn, hyt⟩ := HKN.out y (List.mem_of_getElem? hy)
          obtain ⟨kb, ck', hkv, _, hkb, hkc⟩ := ints_read OK6.out (by omega)
          injection hkv with e1 e2 e3
          subst e1 e3
          have t1 := (N3.out.cell (p := ⟨kb, q, none⟩) hkb).trans (hkc q y hy)
          have N4 := Lib.hid (below_then L6.out L6.out.size N3.out)
          have N4' := Lib.hid (below_then L5.out L5.out.size N4.out)
          obtain ⟨m, hm⟩ : ∃ m, l[y]? = some m := ⟨_, List.getElem?_eq_getElem hyn⟩
          obtain ⟨z0, _, _, _⟩ := HB.out wr N4'.out
          obtain ⟨_, r1, _⟩ := HR0.out wr N4'.out y m hm
          have TK2 : Hid (Calls Try.prog 40 #[.slice m.ms.A m.ms.l.length m.ms.c, .slice P.A P.l.length P.c] wr.drew fun e w' => e = .returned (.bool false) ∧ Below w6.heap.size w6 w' ∧ (w'.cell? ⟨bx, 0, none⟩ = some (.slice (some ⟨b, o, none⟩) l.length cp) ∧ w'.cell? ⟨kb, q, none⟩ = some (.int .i64 (y : Int)) ∧ w'.cell? ⟨b, o + y * 8 + 1, none⟩ = some (.slice m.ms.A m.ms.l.length m.ms.c))) := Lib.hid (by
            have h := HT.out y m hm wr.drew N4'.out.drew
            rw [hyt] at h
            refine h.mono ?_
            rintro e w' ⟨he, hb⟩
            have n2 := below_then N3.out.drew N3.out.drew.size hb
            have n3 := below_then L5.out L5.out.size (below_then L6.out L6.out.size n2)
            exact ⟨he, n2, (HB.out w' n3).1, (n2.cell (p := ⟨kb, q, none⟩) hkb).trans (hkc q y hy), (HR0.out w' n3 y m hm).2.1⟩)
          have hy0 : (0 : Int) ≤ (y : Int) := by omega
          have hy1 : (y : Int) < (l.length : Int) := by omega
          have hy2 : decide ((y : Int) < 0) = false := by simp
          have hy3 : decide ((y : Int) ≥ (l.length : Int)) = false := by simp; omega
          have hy4 : decide (l.length ≤ y) = false := by simp; omega
          clear hy hyt hkc hm
          have HS1 : Hid (wr.cell? ⟨bx, 0, none⟩ = some (.slice (some ⟨b, o, none⟩) l.length cp) ∧ wr.cell? ⟨kb, q, none⟩ = some (.int .i64 (y : Int)) ∧ wr.cell? ⟨b, o + y * 8 + 1, none⟩ = some (.slice m.ms.A m.ms.l.length m.ms.c)) := Lib.hid ⟨z0, t1, r1⟩
          go_upto_region 11 with fail
          refine wp_region_held_drew (S := (fun X => X.cell? ⟨bx, 0, none⟩ = some (.slice (some ⟨b, o, none⟩) l.length cp) ∧ X.cell? ⟨kb, q, none⟩ = some (.int .i64 (y : Int)) ∧ X.cell? ⟨b, o + y * 8 + 1, none⟩ = some (.slice m.ms.A m.ms.l.length m.ms.c))) (by kernel_rfl) (by exact HS1.out) (fun hHeld => ?_)
          refine wpAnyH_take (i := 0) (v := ?_) (by simp only [List.getElem?_toArray, List.getElem?_cons_succ, List.getElem?_cons_zero]; exact rfl) (by decide +kernel) (by decide +kernel) (by decide +kernel) (by exact fun _ _ _ h => h) (Or.inl ⟨by rfl, ?_⟩) (by assumption) ?_
          rotate_left
          · (intro w hSw; (try dsimp only at hSw); go_simp; try with_reducible rfl)
          try simp only [Act.put, List.setIfInBounds_toArray, List.set_cons_zero, List.set_cons_succ]
          refine wpAnyH_take (i := 1) (v := ?_) (by simp only [List.getElem?_toArray, List.getElem?_cons_succ, List.getElem?_cons_zero]; exact rfl) (by decide +kernel) (by decide +kernel) (by decide +kernel) (by exact fun _ _ _ h => h) (Or.inl ⟨by rfl, ?_⟩) (by assumption) ?_
          rotate_left
          · (intro w hSw; (try dsimp only at hSw); go_simp; try with_reducible rfl)
          try simp only [Act.put, List.setIfInBounds_toArray, List.set_cons_zero, List.set_cons_succ]
          refine wpAnyH_take (i := 2) (v := ?_) (by simp only [List.getElem?_toArray, List.getElem?_cons_succ, List.getElem?_cons_zero]; exact rfl) (by decide +kernel) (by decide +kernel) (by decide +kernel) (by exact fun _ _ _ h => h) (Or.inl ⟨by rfl, ?_⟩) (by assumption) ?_
          rotate_left
          · (intro w hSw; (try dsimp only at hSw); go_simp; try with_reducible rfl)
          try simp only [Act.put, List.setIfInBounds_toArray, List.set_cons_zero, List.set_cons_succ]
          refine wpAnyH_take (i := 3) (v := ?_) (by simp only [List.getElem?_toArray, List.getElem?_cons_succ, List.getElem?_cons_zero]; exact rfl) (by decide +kernel) (by decide +kernel) (by decide +kernel) (by exact fun _ _ _ h => h) (Or.inl ⟨by rfl, ?_⟩) (by assumption) ?_
          rotate_left
          · (intro w hSw; (try dsimp only at hSw); go_simp; try with_reducible rfl)
          try simp only [Act.put, List.setIfInBounds_toArray, List.set_cons_zero, List.set_cons_succ]
          refine wpAnyH_take (i := 4) (v := ?_) (by simp only [List.getElem?_toArray, List.getElem?_cons_succ, List.getElem?_cons_zero]; exact rfl) (by decide +kernel) (by decide +kernel) (by decide +kernel) (by exact fun _ _ _ h => h) (Or.inl ⟨by rfl, ?_⟩) (by assumption) ?_
          rotate_left
          · (intro w hSw; (try dsimp only at hSw); go_simp; try with_reducible rfl)
          try simp only [Act.put, List.setIfInBounds_toArray, List.set_cons_zero, List.set_cons_succ]
          refine wpAnyH_take (i := 5) (v := ?_) (by simp only [List.getElem?_toArray, List.getElem?_cons_succ, List.getElem?_cons_zero]; exact rfl) (by decide +kernel) (by decide +kernel) (by decide +kernel) (by exact fun _ _ _ h => h) (Or.inl ⟨by rfl, ?_⟩) (by assumption) ?_
          rotate_left
          · (intro w hSw; (try dsimp only at hSw); go_simp; try with_reducible rfl)
          try simp only [Act.put, List.setIfInBounds_toArray, List.set_cons_zero, List.set_cons_succ]
          refine wpAnyH_take (i := 6) (v := ?_) (by simp only [List.getElem?_toArray, List.getElem?_cons_succ, List.getElem?_cons_zero]; exact rfl) (by decide +kernel) (by decide +kernel) (by decide +kernel) (by exact fun _ _ _ h => h) (Or.inl ⟨by rfl, ?_⟩) (by assumption) ?_
          rotate_left
          · (intro w hSw; (try dsimp only at hSw); go_simp; try with_reducible rfl)
          try simp only [Act.put, List.setIfInBounds_toArray, List.set_cons_zero, List.set_cons_succ]
          refine wpAnyH_take (i := 7) (v := ?_) (by simp only [List.getElem?_toArray, List.getElem?_cons_succ, List.getElem?_cons_zero]; exact rfl) (by decide +kernel) (by decide +kernel) (by decide +kernel) (by exact fun _ _ _ h => h) (Or.inl ⟨by rfl, ?_⟩) (by assumption) ?_
          rotate_left
          · (intro w hSw; (try dsimp only at hSw); go_simp; try with_reducible rfl)
          try simp only [Act.put, List.setIfInBounds_toArray, List.set_cons_zero, List.set_cons_succ]
          refine wpAnyH_take (i := 8) (v := ?_) (by simp only [List.getElem?_toArray, List.getElem?_cons_succ, List.getElem?_cons_zero]; exact rfl) (by decide +kernel) (by decide +kernel) (by decide +kernel) (by exact fun _ _ _ h => h) (Or.inl ⟨by rfl, ?_⟩) (by assumption) ?_
          rotate_left
          · (intro w hSw; (try dsimp only at hSw); go_simp; try with_reducible rfl)
          try simp only [Act.put, List.setIfInBounds_toArray, List.set_cons_zero, List.set_cons_succ]
          refine wpAnyH_take (i := 9) (v := ?_) (by simp only [List.getElem?_toArray, List.getElem?_cons_succ, List.getElem?_cons_zero]; exact rfl) (by decide +kernel) (by decide +kernel) (by decide +kernel) (by exact fun _ _ _ h => h) (Or.inl ⟨by rfl, ?_⟩) (by assumption) ?_
          rotate_left
          · (intro w hSw; (try dsimp only at hSw); go_simp; try with_reducible rfl)
          try simp only [Act.put, List.setIfInBounds_toArray, List.set_cons_zero, List.set_cons_succ]
          refine wpAnyH_take (i := 10) (v := ?_) (by simp only [List.getElem?_toArray, List.getElem?_cons_succ, List.getElem?_cons_zero]; exact rfl) (by decide +kernel) (by decide +kernel) (by decide +kernel) (by exact fun _ _ _ h => h) (Or.inl ⟨by rfl, ?_⟩) (by assumption) ?_
          rotate_left
          · (intro w hSw; (try dsimp only at hSw); go_simp; try with_reducible rfl)
          try simp only [Act.put, List.setIfInBounds_toArray, List.set_cons_zero, List.set_cons_succ]
          refine wpAnyH_take (i := 11) (v := ?_) (by simp only [List.getElem?_toArray, List.getElem?_cons_succ, List.getElem?_cons_zero]; exact rfl) (by decide +kernel) (by decide +kernel) (by decide +kernel) (by exact fun _ _ _ h => h) (Or.inl ⟨by rfl, ?_⟩) (by assumption) ?_
          rotate_left
          · (intro w hSw; (try dsimp only at hSw); go_simp; try with_reducible rfl)
          try simp only [Act.put, List.setIfInBounds_toArray, List.set_cons_zero, List.set_cons_succ]
          refine wpAnyH_take (i := 12) (v := ?_) (by simp only [List.getElem?_toArray, List.getElem?_cons_succ, List.getElem?_cons_zero]; exact rfl) (by decide +kernel) (by decide +kernel) (by decide +kernel) (by exact fun _ _ _ h => h) (Or.inl ⟨by rfl, ?_⟩) (by assumption) ?_
          rotate_left
          · (intro w hSw; (try dsimp only at hSw); go_simp; try with_reducible rfl)
          try simp only [Act.put, List.setIfInBounds_toArray, List.set_cons_zero, List.set_cons_succ]
          refine wpAnyH_take (i := 13) (v := ?_) (by simp only [List.getElem?_toArray, List.getElem?_cons_succ, List.getElem?_cons_zero]; exact rfl) (by decide +kernel) (by decide +kernel) (by decide +kernel) (by exact fun _ _ _ h => h) (Or.inl ⟨by rfl, ?_⟩) (by assumption) ?_
          rotate_left
          · (intro w hSw; (try dsimp only at hSw); go_simp; try with_reducible rfl)
          try simp only [Act.put, List.setIfInBounds_toArray, List.set_cons_zero, List.set_cons_succ]
          refine wpAnyH_take (i := 14) (v := ?_) (by simp only [List.getElem?_toArray, List.getElem?_cons_succ, List.getElem?_cons_zero]; exact rfl) (by decide +kernel) (by decide +kernel) (by decide +kernel) (by exact fun _ _ _ h => h) (Or.inl ⟨by rfl, ?_⟩) (by assumption) ?_
          rotate_left
          · (intro w hSw; (try dsimp only at hSw); go_simp; try with_reducible rfl)
          try simp only [Act.put, List.setIfInBounds_toArray, List.set_cons_zero, List.set_cons_succ]
          refine wpAnyH_take (i := 15) (v := ?_) (by simp only [List.getElem?_toArray, List.getElem?_cons_succ, List.getElem?_cons_zero]; exact rfl) (by decide +kernel) (by decide +kernel) (by decide +kernel) (by exact fun _ _ _ h => h) (Or.inl ⟨by rfl, ?_⟩) (by assumption) ?_
          rotate_left
          · (intro w hSw; (try dsimp only at hSw); go_simp; try with_reducible rfl)
          try simp only [Act.put, List.setIfInBounds_toArray, List.set_cons_zero, List.set_cons_succ]
          refine wpAnyH_take (i := 16) (v := ?_) (by simp only [List.getElem?_toArray, List.getElem?_cons_succ, List.getElem?_cons_zero]; exact rfl) (by decide +kernel) (by decide +kernel) (by decide +kernel) (by exact fun _ _ _ h => h) (Or.inl ⟨by rfl, ?_⟩) (by assumption) ?_
          rotate_left
          · (intro w hSw; (try dsimp only at hSw); go_simp; try with_reducible rfl)
          try simp only [Act.put, List.setIfInBounds_toArray, List.set_cons_zero, List.set_cons_succ]
          refine wpAnyH_take (i := 17) (v := ?_) (by simp only [List.getElem?_toArray, List.getElem?_cons_succ, List.getElem?_cons_zero]; exact rfl) (by decide +kernel) (by decide +kernel) (by decide +kernel) (by exact fun _ _ _ h => h) (Or.inl ⟨by rfl, ?_⟩) (by assumption) ?_
          rotate_left
          · (intro w hSw; (try dsimp only at hSw); go_simp; try with_reducible rfl)
          try simp only [Act.put, List.setIfInBounds_toArray, List.set_cons_zero, List.set_cons_succ]
          refine wpAnyH_take (i := 18) (v := ?_) (by simp only [List.getElem?_toArray, List.getElem?_cons_succ, List.getElem?_cons_zero]; exact rfl) (by decide +kernel) (by decide +kernel) (by decide +kernel) (by exact fun _ _ _ h => h) (Or.inl ⟨by rfl, ?_⟩) (by assumption) ?_
          rotate_left
          · (intro w hSw; (try dsimp only at hSw); go_simp; try with_reducible rfl)
          try simp only [Act.put, List.setIfInBounds_toArray, List.set_cons_zero, List.set_cons_succ]
          refine wpAnyH_take (i := 19) (v := ?_) (by simp only [List.getElem?_toArray, List.getElem?_cons_succ, List.getElem?_cons_zero]; exact rfl) (by decide +kernel) (by decide +kernel) (by decide +kernel) (by exact fun _ _ _ h => h) (Or.inl ⟨by rfl, ?_⟩) (by assumption) ?_
          rotate_left
          · (intro w hSw; (try dsimp only at hSw); go_simp; try with_reducible rfl)
          try simp only [Act.put, List.setIfInBounds_toArray, List.set_cons_zero, List.set_cons_succ]
          refine wpAnyH_take (i := 20) (v := ?_) (by simp only [List.getElem?_toArray, List.getElem?_cons_succ, List.getElem?_cons_zero]; exact rfl) (by decide +kernel) (by decide +kernel) (by decide +kernel) (by exact fun _ _ _ h => h) (Or.inl ⟨by rfl, ?_⟩) (by assumption) ?_
          rotate_left
          · (intro w hSw; (try dsimp only at hSw); go_simp; try with_reducible rfl)
          try simp only [Act.put, List.setIfInBounds_toArray, List.set_cons_zero, List.set_cons_succ]
          refine wpAnyH_take (i := 21) (v := ?_) (by simp only [List.getElem?_toArray, List.getElem?_cons_succ, List.getElem?_cons_zero]; exact rfl) (by decide +kernel) (by decide +kernel) (by decide +kernel) (by exact fun _ _ _ h => h) (Or.inl ⟨by rfl, ?_⟩) (by assumption) ?_
          rotate_left
          · (intro w hSw; (try dsimp only at hSw); go_simp; try with_reducible rfl)
          try simp only [Act.put, List.setIfInBounds_toArray, List.set_cons_zero, List.set_cons_succ]
          refine wpAnyH_take (i := 22) (v := ?_) (by simp only [List.getElem?_toArray, List.getElem?_cons_succ, List.getElem?_cons_zero]; exact rfl) (by decide +kernel) (by decide +kernel) (by decide +kernel) (by exact fun _ _ _ h => h) (Or.inl ⟨by rfl, ?_⟩) (by assumption) ?_
          rotate_left
          · (intro w hSw; (try dsimp only at hSw); go_simp; try with_reducible rfl)
          try simp only [Act.put, List.setIfInBounds_toArray, List.set_cons_zero, List.set_cons_succ]
          refine wpAnyH_take (i := 23) (v := ?_) (by simp only [List.getElem?_toArray, List.getElem?_cons_succ, List.getElem?_cons_zero]; exact rfl) (by decide +kernel) (by decide +kernel) (by decide +kernel) (by exact fun _ _ _ h => h) (Or.inl ⟨by rfl, ?_⟩) (by assumption) ?_
          rotate_left
          · (intro w hSw; (try dsimp only at hSw); go_simp; try with_reducible rfl)
          try simp only [Act.put, List.setIfInBounds_toArray, List.set_cons_zero, List.set_cons_succ]
          refine wpAnyH_take (i := 24) (v := ?_) (by simp only [List.getElem?_toArray, List.getElem?_cons_succ, List.getElem?_cons_zero]; exact rfl) (by decide +kernel) (by decide +kernel) (by decide +kernel) (by exact fun _ _ _ h => h) (Or.inl ⟨by rfl, ?_⟩) (by assumption) ?_
          rotate_left
          · (intro w hSw; (try dsimp only at hSw); go_simp; try with_reducible rfl)
          try simp only [Act.put, List.setIfInBounds_toArray, List.set_cons_zero, List.set_cons_succ]
          refine wpAnyH_take (i := 25) (v := ?_) (by simp only [List.getElem?_toArray, List.getElem?_cons_succ, List.getElem?_cons_zero]; exact rfl) (by decide +kernel) (by decide +kernel) (by decide +kernel) (by exact fun _ _ _ h => h) (Or.inl ⟨by rfl, ?_⟩) (by assumption) ?_
          rotate_left
          · (intro w hSw; (try dsimp only at hSw); go_simp; try with_reducible rfl)
          try simp only [Act.put, List.setIfInBounds_toArray, List.set_cons_zero, List.set_cons_succ]
          refine wpAnyH_ready (rs := [26]) (by kernel_rfl) (by simp) ?_
          refine AllReadyH.cons (by simp only [List.getElem?_toArray, List.getElem?_cons_succ, List.getElem?_cons_zero]; exact rfl) (fun K hK => ?_) AllReadyH.nil
          go_simp
          go_at_call 40
          refine TK2.out.mono ?_
          rintro e w7 ⟨rfl, hb7, HS7⟩
          have L7 := Lib.hid hb7
          clear hb7
          go_wp2_with fail
          refine hK.out _ _ (by first | assumption | exact HS7) (fun hHeld => ?_)
          clear hK K
          try simp only [Act.put, List.setIfInBounds_toArray, List.set_cons_zero, List.set_cons_succ]
          refine wpAnyH_take (i := 27) (v := ?_) (by simp only [List.getElem?_toArray, List.getElem?_cons_succ, List.getElem?_cons_zero]; exact rfl) (by decide +kernel) (by decide +kernel) (by decide +kernel) (by exact fun _ _ _ h => h) (Or.inl ⟨by rfl, ?_⟩) (by assumption) ?_
          rotate_left
          · (intro w hSw; (try dsimp only at hSw); go_simp; try with_reducible rfl)
          try simp only [Act.put, List.setIfInBounds_toArray, List.set_cons_zero, List.set_cons_succ]
          refine wpAnyH_done (by kernel_rfl) ?_ _
          clear HS7 HS1 TK2 z0 t1 r1
          go_wp2
          go_roundw
          case rel => exact ⟨q + 1, by omega, by go_num, L7⟩
          case measure => (simp [intOf] <;> omega)
        · obtain rfl : ks.length = q := by omega
          go_wp2
          go_roundw
          case rel => exact ⟨i + 1, by omega, by go_num, Lib.hid (below_then L6.out L6.out.size N3.out)⟩
          case measure => (simp [intOf] <;> omega)
    · obtain rfl : i = ws.length := by omega
      obtain ⟨wq, rfl⟩ : ∃ x, x = wr := ⟨wr, rfl⟩
      have N1' := Lib.hid (below_then L5.out L5.out.size N1.out)
      obtain ⟨z0, z1, z2, z3⟩ := HB.out wq N1'.out
      go_wp2
      clear z0 z1 z2 z3
      go_loopw [9, 10] (fun s t wv => ∃ (q : Nat) (mv : Bool), q ≤ l.length ∧ s = .bool mv ∧ t = .int .i64 (q : Int) ∧ Hid (mv = (l.take q).any (fun r => r.cont)) ∧ Hid (Below w5.heap.size w5 wv)) (fun _ t _ => l.length - (intOf t).toNat)
      case atStart => exact ⟨0, false, Nat.zero_le _, rfl, rfl, Lib.hid rfl, N1⟩
      case round =>
        obtain ⟨q, mv, hq, rfl, rfl, HMV, N2⟩ := hrel
        have N2' := Lib.hid (below_then L5.out L5.out.size N2.out)
        obtain ⟨z0, _, _, _⟩ := HB.out wr N2'.out
        by_cases hql : q < l.length
        · have hq0 : (0 : Int) ≤ (q : Int) := by omega
          have hq1 : (q : Int) < (l.length : Int) := by omega
          obtain ⟨m, hm⟩ : ∃ m, l[q]? = some m := ⟨_, List.getElem?_eq_getElem hql⟩
          have HAT := Lib.hid (any_take hm)
          obtain ⟨_, _, r2⟩ := HR0.out wr N2'.out q m hm
          clear hm
          cases mv with
          | true =>
            go_wp2
            go_roundw
            case rel => exact ⟨q + 1, true, by omega, rfl, by go_num, Lib.hid (by rw [HAT.out, ← HMV.out]; rfl), N2⟩
            case measure => (simp [intOf] <;> omega)
          | false =>
            go_wp2
            go_roundw
            case rel => exact ⟨q + 1, m.cont, by omega, rfl, by go_num, Lib.hid (by rw [HAT.out, ← HMV.out]; rfl), N2⟩
            case measure => (simp [intOf] <;> omega)
        · obtain rfl : l.length = q := by omega
          cases mv with
          | true =>
            go_wp2_with fail
            refine (awake5 _).mono ?_
            rintro e wz ⟨rfl, hb⟩
            have KZ := Lib.hid (below_then N2.out N2.out.size hb)
            clear hb
            go_wp2
            go_ret
            exact ⟨rfl, below_then K1.out K1.out.size (below_then L5.out L5.out.size KZ.out)⟩
          | false =>
            have h1 : ws.length = 1 := by
              rw [← HWS.out]
              refine TO.out.one (any_none ?_)
              have h := HMV.out
              rw [List.take_length] at h
              exact h.symm
            go_wp2_with fail
            refine (awake5 _).mono ?_
            rintro e wz ⟨rfl, hb⟩
            have KZ := Lib.hid (below_then N2.out N2.out.size hb)
            clear hb
            go_wp2
            go_ret
            exact ⟨rfl, below_then K1.out K1.out.size (below_then L5.out L5.out.size KZ.out)⟩
set_option maxRecDepth 100000 in
theorem routeDeepest_lifted (os : Os) (started : os.Started) (H : Type) (enc : TypeId × Value → H) :
    ReturnsInHanded {} Try.checked os 20 .any (Rows.routeDeepestSpec.pre6 enc Try.prog Try.f20 Rows.routeDeepestRow.domain false) (Rows.routeDeepestSpec.post enc Try.prog Try.f20 false true false false) := by
  refine returnsInHanded_of_change (C := Try.checked) tOwn started (by kernel_rfl) Try.func20
    (ChangeSpec.witness6 (enc := enc) (C := Try.checked) false ⟨#[], #[.agg #[.slice none 0 0, .slice none 0 0, .int .i64 0, .int .i64 0], .slice none 0 0], []⟩ 8 (by kernel_rfl) (by kernel_rfl) (by kernel_rfl) (by kernel_rfl)) ?_
  intro W base args ds gs before hval0 hW hcnd _
  have hval : ∀ (j : Nat) t v, Try.f20.params[j]? = some t → args[j]? = some v → Value.okWide Try.prog W .any base t v := hval0
  have hW' := hW
  obtain ⟨p, q, hA0, hV, rfl, hfz, hnd⟩ := hW
  have hA : DataW.TrodAll enc Try.prog W 0 (fun _ => true) true Try.f20.params.toList args.toList ds p := hA0
  rw [Try.params20] at hA hval
  obtain ⟨v0, vs0, d0, ds0, p0, q0, hargs, rfl, rfl, h0, r0⟩ := trodAll_cons hA
  obtain ⟨v1, vs1, d1, ds1, p1, q1, rfl, rfl, rfl, h1, r1⟩ := trodAll_cons r0
  obtain ⟨rfl, rfl, rfl⟩ := trodAll_nil r1
  obtain rfl : args = #[v0, v1] := by cases args; simp_all
  obtain ⟨c, rfl, ic⟩ := open_cf (hval 0 70 v0 rfl rfl) h0
  obtain ⟨p, rfl, ip⟩ := open_pr (hval 1 38 v1 rfl rfl) h1
  refine (deep_law c p W ic ip).mono fun e W' ⟨he, hb⟩ => ?_
  subst he
  exact ⟨_, rfl, law_post tLaid (by decide +kernel) hW' rfl (by kernel_rfl) Try.underlying4 rfl hb⟩

/-- The closed facts of the row. -/
theorem routeDeepest_facts : joinedFacts Try.pinned.checked.prog 20 Try.f20 Rows.routeDeepestSpec Rows.routeDeepestRow = true := joined_at 20 Try.f20 Rows.routeDeepestSpec Rows.routeDeepestRow (by
  intro P hP h1 h2 h3
  unfold joinedFacts
  rw [h1, h2, h3]
  subst hP
  kernel_rfl)
/-- The statement. -/
theorem routeDeepest_holds : Rows.RouteDeepestSaid :=
  OpenClaim.holds_of_wide 20 Try.f20 rfl rfl rfl rfl rfl rfl rfl ⟨rfl, rfl, rfl, rfl, rfl⟩ rfl rfl rfl rfl rfl (by kernel_rfl) Try.func20 routeDeepest_facts
    (of_decide_eq_true (by kernel_rfl)) (by unfold Func.isWrapper; rw [if_neg (of_decide_eq_false (by kernel_rfl))]; exact ⟨rfl, rfl⟩)
    (fun os started H enc _ => routeDeepest_lifted os started H enc)
#print axioms routeDeepest_holds
end Go.Proofs.Ytnidjfmbbfoheaa
