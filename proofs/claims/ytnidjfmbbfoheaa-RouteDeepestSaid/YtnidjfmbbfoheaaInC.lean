/- WALKS: inhibit.By. -/
import Derived.Test.YtnidjfmbbfoheaaInB
namespace Go.Proofs.Ytnidjfmbbfoheaa
set_option linter.unusedVariables false
set_option linter.unusedSimpArgs false
open Go.RowKit

def byB (r : Rl) (a b : List Pr) : Bool := allB r.s.l a && allB r.t.l b && !(allB r.t.l a && allB r.s.l b) && !(r.e.l.any (differs a b))
def Rl.val (r : Rl) : Value := .agg #[r.s.val, r.t.val, r.e.val]
def Rl.Small (r : Rl) : Prop := r.s.l.length ≤ 4294967296 ∧ r.t.l.length ≤ 4294967296 ∧ r.e.l.length ≤ 4294967296
theorem contains_tr (q : List Nat → Bool) (g : Nat) (lb : Array Value) (eg : ∀ args w, (callFunc g args).run Try.prog w = .ok (.enter g args) w) (t : TR) (w : World) (hlen : t.l.length ≤ 4294967296) (R : t.In w)
    (hp : ∀ (W : World) (m : List Nat), m ∈ t.l → Below w.heap.size w W → Calls Try.prog g (#[.string (bs m)] ++ lb) W fun e w' => e = .returned (.bool (q m)) ∧ Below W.heap.size W w') :
    Calls Try.prog 66 #[t.val, .func (.func g) #[] lb] w fun e w' => e = .returned (.bool (t.l.any q)) ∧ Below w.heap.size w w' :=
  contains66 q g lb eg t.A t.c t.l w hlen R.1 hp
set_option maxRecDepth 100000 in
set_option maxHeartbeats 4000000 in
theorem by_any (r : Rl) (a b : PR) (w : World) (Hr : r.In w) (hr : r.Small) (Ha : a.In w) (Hb : b.In w) (la : a.Light) (lb : b.Light) :
    Calls Try.prog 35 #[r.val, a.val, b.val] w fun e w' => e = .returned (.bool (byB r a.l b.l)) ∧ Below w.heap.size w w' := by
  have HSA := Lib.hid (fun w' (hb : Below w.heap.size w w') => all_pr r.s a w' (Hr.1.below hb) hr.1 (Ha.below hb) la)
  have HTB := Lib.hid (fun w' (hb : Below w.heap.size w w') => all_pr r.t b w' (Hr.2.1.below hb) hr.2.1 (Hb.below hb) lb)
  have HTA := Lib.hid (fun w' (hb : Below w.heap.size w w') => all_pr r.t a w' (Hr.2.1.below hb) hr.2.1 (Ha.below hb) la)
  have HSB := Lib.hid (fun w' (hb : Below w.heap.size w w') => all_pr r.s b w' (Hr.1.below hb) hr.1 (Hb.below hb) lb)
  have HE := Lib.hid (fun (B1 B2 : Nat) (w' : World) (hb : Below w.heap.size w w') (h1 : Blk w' B1 38 #[a.val]) (h2 : Blk w' B2 38 #[b.val]) =>
    contains_tr (differs a.l b.l) 65 #[.pointer (some ⟨B1, 0, none⟩), .pointer (some ⟨B2, 0, none⟩)] eg65 r.e w' hr.2.2 (Hr.2.2.below hb) (fun W m hm hB =>
      clos65 a b m B1 B2 W (Hr.2.2.2 m hm) (h1.below hB h1.lt) (h2.below hB h2.lt) ((Ha.below hb).below hB) ((Hb.below hb).below hB) la lb))
  unfold byB
  clear Hr hr Ha Hb la lb
  generalize allB r.s.l a.l = SA at *
  generalize allB r.t.l b.l = TB at *
  generalize allB r.t.l a.l = TA at *
  generalize allB r.s.l b.l = SB at *
  generalize r.e.l.any (differs a.l b.l) = D at *
  unfold Rl.val
  unfold MR.val TR.val PR.val at *
  generalize r.s.l.length = sl at *
  generalize r.s.A = sA at *
  generalize r.s.c = sc at *
  generalize r.t.l.length = tl at *
  generalize r.t.A = tA at *
  generalize r.t.c = tc at *
  generalize r.e.l.length = el at *
  generalize r.e.A = eA at *
  generalize r.e.c = ec at *
  generalize a.l.length = al at *
  generalize a.A = aA at *
  generalize a.c = ac at *
  generalize b.l.length = bl at *
  generalize b.A = bA at *
  generalize b.c = bc at *
  have s1 : (w.alloc (.cells #[.slice sA sl sc, .slice tA tl tc, .slice eA el ec] 47)).heap.size = w.heap.size + 1 := by simp
  have s2 : ((w.alloc (.cells #[.slice sA sl sc, .slice tA tl tc, .slice eA el ec] 47)).alloc (.cells #[.slice aA al ac] 38)).heap.size = w.heap.size + 1 + 1 := by simp
  have K0 := Lib.hid ((((Below.refl w.heap.size w).alloc (Nat.le_refl _) (.cells #[.slice sA sl sc, .slice tA tl tc, .slice eA el ec] 47)).alloc (by rw [s1]; omega) (.cells #[.slice aA al ac] 38)).alloc (by rw [s2]; omega) (.cells #[.slice bA bl bc] 38))
  have BR0 : Hid (Blk (((w.alloc (.cells #[.slice sA sl sc, .slice tA tl tc, .slice eA el ec] 47)).alloc (.cells #[.slice aA al ac] 38)).alloc (.cells #[.slice bA bl bc] 38)) w.heap.size 47 #[.slice sA sl sc, .slice tA tl tc, .slice eA el ec]) := Lib.hid (((Blk.new w 47 _).alloc _).alloc _)
  have BA0 : Hid (Blk (((w.alloc (.cells #[.slice sA sl sc, .slice tA tl tc, .slice eA el ec] 47)).alloc (.cells #[.slice aA al ac] 38)).alloc (.cells #[.slice bA bl bc] 38)) (w.heap.size + 1) 38 #[.slice aA al ac]) := Lib.hid ((Blk.new_at (by simp)).alloc _)
  have BB0 : Hid (Blk (((w.alloc (.cells #[.slice sA sl sc, .slice tA tl tc, .slice eA el ec] 47)).alloc (.cells #[.slice aA al ac] 38)).alloc (.cells #[.slice bA bl bc] 38)) (w.heap.size + 1 + 1) 38 #[.slice bA bl bc]) := Lib.hid (Blk.new_at (by simp))
  clear s1 s2
  go_enter Try.func35, Try.ntmps35
  go_upto_region 1 with fail
  have y0 := BR0.out.cell 0
  have y1 := BR0.out.cell 1
  have y2 := BR0.out.cell 2
  have ya := BA0.out.cell 0
  have yb := BB0.out.cell 0
  simp only [List.getElem?_toArray, List.getElem?_cons_zero, List.getElem?_cons_succ] at y0 y1 y2 ya yb
  go_wp2_with fail
  refine (HSA.out _ K0.out).mono ?_
  rintro e w1 ⟨rfl, hk⟩
  have K1 := Lib.hid (below_then K0.out K0.out.size hk)
  have BR1 := Lib.hid (BR0.out.below hk BR0.out.lt)
  have BA1 := Lib.hid (BA0.out.below hk BA0.out.lt)
  have BB1 := Lib.hid (BB0.out.below hk BB0.out.lt)
  clear hk y0 y1 y2 ya yb
  have y0 := BR1.out.cell 0
  have y1 := BR1.out.cell 1
  have y2 := BR1.out.cell 2
  have ya := BA1.out.cell 0
  have yb := BB1.out.cell 0
  simp only [List.getElem?_toArray, List.getElem?_cons_zero, List.getElem?_cons_succ] at y0 y1 y2 ya yb
  cases SA
  · go_wp2
    go_ret
    exact ⟨rfl, K1.out⟩
  · skip
    go_wp2_with fail
    refine (HTB.out _ K1.out).mono ?_
    rintro e w2 ⟨rfl, hk⟩
    have K2 := Lib.hid (below_then K1.out K1.out.size hk)
    have BR2 := Lib.hid (BR1.out.below hk BR1.out.lt)
    have BA2 := Lib.hid (BA1.out.below hk BA1.out.lt)
    have BB2 := Lib.hid (BB1.out.below hk BB1.out.lt)
    clear hk y0 y1 y2 ya yb
    have y0 := BR2.out.cell 0
    have y1 := BR2.out.cell 1
    have y2 := BR2.out.cell 2
    have ya := BA2.out.cell 0
    have yb := BB2.out.cell 0
    simp only [List.getElem?_toArray, List.getElem?_cons_zero, List.getElem?_cons_succ] at y0 y1 y2 ya yb
    cases TB
    · go_wp2
      go_ret
      exact ⟨rfl, K2.out⟩
    · skip
      go_wp2_with fail
      refine (HTA.out _ K2.out).mono ?_
      rintro e w3 ⟨rfl, hk⟩
      have K3 := Lib.hid (below_then K2.out K2.out.size hk)
      have BR3 := Lib.hid (BR2.out.below hk BR2.out.lt)
      have BA3 := Lib.hid (BA2.out.below hk BA2.out.lt)
      have BB3 := Lib.hid (BB2.out.below hk BB2.out.lt)
      clear hk y0 y1 y2 ya yb
      have y0 := BR3.out.cell 0
      have y1 := BR3.out.cell 1
      have y2 := BR3.out.cell 2
      have ya := BA3.out.cell 0
      have yb := BB3.out.cell 0
      simp only [List.getElem?_toArray, List.getElem?_cons_zero, List.getElem?_cons_succ] at y0 y1 y2 ya yb
      cases TA
      · skip
        go_wp2_with fail
        refine (HE.out (w.heap.size + 1) (w.heap.size + 1 + 1) _ K3.out BA3.out BB3.out).mono ?_
        rintro e w4 ⟨rfl, hk⟩
        have K4 := Lib.hid (below_then K3.out K3.out.size hk)
        clear hk y0 y1 y2 ya yb
        go_wp2
        go_ret
        exact ⟨rfl, K4.out⟩
      · skip
        go_wp2_with fail
        refine (HSB.out _ K3.out).mono ?_
        rintro e w4 ⟨rfl, hk⟩
        have K4 := Lib.hid (below_then K3.out K3.out.size hk)
        have BR4 := Lib.hid (BR3.out.below hk BR3.out.lt)
        have BA4 := Lib.hid (BA3.out.below hk BA3.out.lt)
        have BB4 := Lib.hid (BB3.out.below hk BB3.out.lt)
        clear hk y0 y1 y2 ya yb
        have y0 := BR4.out.cell 0
        have y1 := BR4.out.cell 1
        have y2 := BR4.out.cell 2
        have ya := BA4.out.cell 0
        have yb := BB4.out.cell 0
        simp only [List.getElem?_toArray, List.getElem?_cons_zero, List.getElem?_cons_succ] at y0 y1 y2 ya yb
        cases SB
        · skip
          go_wp2_with fail
          refine (HE.out (w.heap.size + 1) (w.heap.size + 1 + 1) _ K4.out BA4.out BB4.out).mono ?_
          rintro e w5 ⟨rfl, hk⟩
          have K5 := Lib.hid (below_then K4.out K4.out.size hk)
          clear hk y0 y1 y2 ya yb
          go_wp2
          go_ret
          exact ⟨rfl, K5.out⟩
        · go_wp2
          go_ret
          exact ⟨rfl, K4.out⟩
end Go.Proofs.Ytnidjfmbbfoheaa
