/- PLAIN: a route more that takes nothing; rules left out. WALK: sameInts. -/
import Derived.Test.YtnidjfmbbfoheaaT4
import Derived.Test.YtnidjfmbbfoheaaTC
import Derived.Test.YtnidjfmbbfoheaaTN
import Derived.Test.YtnidjfmbbfoheaaRxHead
import Derived.IntWalk
namespace Go.Proofs.Ytnidjfmbbfoheaa
set_option linter.unusedVariables false
set_option linter.unusedSimpArgs false
open Go.RowKit

structure CfParts (c : Cf) : Prop where
  n : c.l.length ≤ 16
  m : c.rl.length ≤ 8
  head : headOk c.l = true
  pars : parsOk c.l = true
  ro : firstE routeB c.l = 0
  ru : firstE ruleB c.rl = 0
  tm : (withinB c.pt 1 && withinB c.rs 1) = true
theorem cf_parts {c : Cf} (h : cfB c = 0) : CfParts c := by
  unfold cfB at h
  split at h
  · cases h
  · rename_i h1
    split at h
    · cases h
    · rename_i h2
      split at h
      · cases h
      · rename_i h3
        split at h
        · rename_i h4; exact absurd h h4
        · rename_i h4
          split at h
          · rename_i h5; exact absurd h h5
          · rename_i h5
            split at h
            · rename_i h6
              exact ⟨by omega, by omega, by simpa using h2, by simpa using h3, by simpa using h4, by simpa using h5, h6⟩
            · cases h
theorem cf_zero {c : Cf} (h : CfParts c) : cfB c = 0 := by
  unfold cfB
  rw [if_neg (by have := h.n; have := h.m; omega), if_neg (by rw [h.head]; decide), if_neg (by rw [h.pars]; decide), if_neg (by rw [h.ro]; decide), if_neg (by rw [h.ru]; decide), if_pos h.tm]
theorem firstE_app {α : Type} (f : α → Int) : ∀ (l r : List α), firstE f l = 0 → firstE f (l ++ r) = firstE f r
  | [], r, _ => rfl
  | a :: t, r, h => by
    have ha := firstE_all h a (by simp)
    have ht : firstE f t = 0 := firstE_zero f t (fun b hb => firstE_all h b (by simp [hb]))
    rw [List.cons_append]
    have e : firstE f (a :: (t ++ r)) = firstE f (t ++ r) := by
      conv => lhs; unfold firstE
      rw [if_pos ha]
    rw [e]
    exact firstE_app f t r ht
theorem parsOk_app {l : List Ro} {r : Ro} (h : parsOk l = true) (hr : parOk l.length r.par = true) : parsOk (l ++ [r]) = true := by
  refine parsOk_all (fun q x hx => ?_)
  by_cases hq : q < l.length
  · rw [List.getElem?_append_left hq] at hx
    have := List.all_eq_true.1 h q (List.mem_range.2 hq)
    rw [hx] at this
    exact this
  · rw [List.getElem?_append_right (by omega)] at hx
    have : q - l.length = 0 := by
      have := (List.getElem?_eq_some_iff.1 hx).1
      simp at this
      exact this
    rw [this] at hx
    simp at hx
    subst hx
    rw [show q = l.length by omega]
    exact hr
/-- A route more, that may be. -/
theorem cfB_more {c a : Cf} (h : cfB c = 0) (h15 : c.l.length ≤ 15) (ha : a.Like c) (r : Ro) (hr : routeB r = 0) (hp : 0 ≤ r.par ∧ r.par < (c.l.length : Int)) (A2 : Option Addr) (c2 : Nat) : cfB ⟨A2, c2, a.l ++ [r], a.B, a.d, a.rl, a.pt, a.rs⟩ = 0 := by
  have p := cf_parts (ha.cfB.trans h)
  have hn := (cf_tree h).1.n0
  have hl := ha.len
  refine cf_zero ⟨?_, p.m, ?_, parsOk_app p.pars ?_, ?_, p.ru, p.tm⟩
  · show (a.l ++ [r]).length ≤ 16
    rw [List.length_append, hl]
    simp; omega
  · show headOk (a.l ++ [r]) = true
    have := p.head
    cases hx : a.l with
    | nil => rw [hx] at hl; simp at hl; omega
    | cons x t => rw [hx] at this; exact this
  · unfold parOk
    rw [hl, if_neg (by omega)]
    simp; omega
  · show firstE routeB (a.l ++ [r]) = 0
    rw [firstE_app _ _ _ p.ro]
    unfold firstE
    rw [if_pos hr]
    rfl
theorem cfB_norules {c a : Cf} (h : cfB c = 0) (ha : a.Like c) (B2 : Option Addr) (d2 : Nat) : cfB ⟨a.A, a.c, a.l, B2, d2, [], a.pt, a.rs⟩ = 0 := by
  have p := cf_parts (ha.cfB.trans h)
  exact cf_zero ⟨p.n, Nat.zero_le _, p.head, p.pars, p.ro, rfl, p.tm⟩
def no1 : Mt := ⟨[97], [49], 0⟩
def no2 : Mt := ⟨[97], [49], 1⟩
theorem no_ok : ∀ m ∈ [no1, no2], Mt.Ok m := by
  intro m hm
  simp at hm
  rcases hm with rfl | rfl
  · exact ⟨by decide, by decide, by decide, by decide, by decide, by decide⟩
  · exact ⟨by decide, by decide, by decide, by decide, by decide, by decide⟩
theorem no_takes (lb : List Pr) : allB [no1, no2] lb = false := by
  have c1 : checkB no1 = 0 := by decide +kernel
  have c2 : checkB no2 = 0 := by decide +kernel
  have o1 : oneB no1 lb = decide (getB lb [97] = [49]) := by
    unfold oneB
    rw [if_neg (by rw [c1]; decide), if_pos (by decide)]
    show (decide (getB lb [97] = [49]) == true) = _
    simp
  have o2 : oneB no2 lb = !decide (getB lb [97] = [49]) := by
    unfold oneB
    rw [if_neg (by rw [c2]; decide), if_pos (by decide)]
    show (decide (getB lb [97] = [49]) == false) = _
    simp
  show (oneB no1 lb && (oneB no2 lb && true)) = false
  rw [o1, o2]
  cases decide (getB lb [97] = [49]) <;> rfl
def noR (par : Int) (A : Option Addr) (c : Nat) : Ro := ⟨par, ⟨A, c, [no1, no2]⟩, false, ⟨none, 0, []⟩, [114], 0, 1, 1⟩
theorem noR_ok (par : Int) (A : Option Addr) (c : Nat) : routeB (noR par A c) = 0 := by
  have : routeB (noR par A c) = routeB (noR 0 none 0) := rfl
  rw [this]
  decide +kernel
theorem walk_more_l {c a : Cf} (h : cfB c = 0) (ha : a.Like c) (lb : List Pr) (par : Int) (A : Option Addr) (k : Nat) : walkL (a.l ++ [noR par A k]) lb = walkL c.l lb := by
  have hl := ha.len
  have T := (cf_tree h).1
  have e1 : parF a.l = parF c.l := by rw [← par_strip a.l, ha.ro, par_strip]
  have e2 : takesF a.l lb = takesF c.l lb := by rw [← takes_strip a.l, ha.ro, takes_strip]
  have e3 : contF a.l = contF c.l := by rw [← cont_strip a.l, ha.ro, cont_strip]
  have g : ∀ q, q < c.l.length → (a.l ++ [noR par A k])[q]? = a.l[q]? := fun q hq => List.getElem?_append_left (by omega)
  unfold walkL
  rw [List.length_append, hl]
  refine Rt.walk_more T (fun q hq => ?_) (fun q hq => ?_) (fun q hq => ?_) ?_
  · rw [← e1]; unfold parF; rw [g q hq]
  · rw [← e2]; unfold takesF; rw [g q hq]
  · rw [← e3]; unfold contF; rw [g q hq]
  · unfold takesF
    rw [← hl, List.getElem?_append_right (Nat.le_refl _), Nat.sub_self]
    exact no_takes lb
set_option maxRecDepth 100000 in
set_option maxHeartbeats 1000000 in
theorem sameints_any (A1 A2 : Option Addr) (k1 k2 n : Nat) (l : List Nat) (w : World) (hn : l.length = n) (h1 : n ≤ 1000000) (R1 : Reads w (fun b => b < w.heap.size) 1 A1 n (ints l)) (R2 : Reads w (fun b => b < w.heap.size) 1 A2 n (ints l)) : Calls Try.prog 53 #[.slice A1 n k1, .slice A2 n k2] w fun e w' => e = .returned (.bool true) ∧ Below w.heap.size w w' := by
  have HR1 := Lib.hid R1
  have HR2 := Lib.hid R2
  have HN := Lib.hid hn
  clear R1 R2 hn
  have KB := Lib.hid (Below.refl w.heap.size w)
  go_enter Try.func53, Try.ntmps53
  go_wp2
  go_loopw [5] (fun s5 wv => ∃ i : Nat, s5 = .int .i64 (i : Int) ∧ i ≤ n ∧ Hid (Below w.heap.size w wv)) (fun s5 _ => n - (intOf s5).toNat)
  case atStart => exact ⟨0, rfl, by omega, KB⟩
  case round =>
    obtain ⟨i, rfl, hi, K1⟩ := hrel
    by_cases hlt : i < n
    · have hkI : (i : Int) < (n : Int) := by omega
      have hk0 : (0 : Int) ≤ (i : Int) := by omega
      obtain ⟨b, o, rfl, hb, hc1⟩ := (HR1.out.below (by omega) K1.out).2 (by omega)
      obtain ⟨b', o', rfl, hb', hc2⟩ := (HR2.out.below (by omega) K1.out).2 (by omega)
      obtain ⟨m, hm⟩ : ∃ m, l[i]? = some m := ⟨_, List.getElem?_eq_getElem (by have := HN.out; omega)⟩
      have hm' : (ints l)[i]? = some (.int .i64 (m : Int)) := by simp [ints, hm]
      have c1 := hc1 i _ hm'
      have c2 := hc2 i _ hm'
      clear hc1 hc2 hm hm' hb hb'
      go_wp2
      go_quiet (fail)
      go_wp2
      go_roundw
      case rel => exact ⟨i + 1, by go_num, by omega, Lib.hid (below_drewN K1.out _)⟩
      case measure => simp [intOf]; omega
    · have hie : i = n := by omega
      subst hie
      go_wp2
      go_ret
      exact ⟨rfl, K1.out⟩
end Go.Proofs.Ytnidjfmbbfoheaa

/- The statement RouteMore: a route more that takes nothing changes nothing of where labels go; a configuration that may be may be with its rules left out. Conditions: none. -/
namespace Go.Proofs.Ytnidjfmbbfoheaa
set_option linter.unusedVariables false
set_option linter.unusedSimpArgs false
open Go.ChangeShapes Go.WideShapes Go.ChangeAt Go.RowKit Go.Joins Go.Deep Go.BigFrame

theorem below_then3 {B B' : Nat} {w w1 w2 : World} (h : Below B w w1) (hB : B ≤ B') (k : Below B' w1 w2) : Below B w w2 :=
  h.trans ⟨k.os, k.tape, k.output, k.size, fun i hi => k.block i (by omega)⟩
theorem light_parts {c : Cf} (h : lightC c = true) : c.l.length ≤ 20 ∧ c.rl.length ≤ 12 ∧ (∀ r ∈ c.l, r.ms.l.length ≤ 12 ∧ r.by_.l.length ≤ 12) ∧ (∀ r ∈ c.rl, r.s.l.length ≤ 12 ∧ r.t.l.length ≤ 12 ∧ r.e.l.length ≤ 12) := by
  unfold lightC at h
  simp only [Bool.and_eq_true, decide_eq_true_eq] at h
  obtain ⟨⟨⟨h1, h2⟩, h3⟩, h4⟩ := h
  refine ⟨h1, h2, fun r hr => ?_, fun r hr => ?_⟩
  · have := List.all_eq_true.1 h3 r hr
    unfold fewR at this
    simpa only [Bool.and_eq_true, decide_eq_true_eq] using this
  · have := List.all_eq_true.1 h4 r hr
    unfold fewL at this
    simp only [Bool.and_eq_true, decide_eq_true_eq] at this
    exact ⟨this.1.1, this.1.2, this.2⟩
theorem bigC_of {c : Cf} (h : lightC c = true) : bigC c := by
  obtain ⟨h1, h2, h3, h4⟩ := light_parts h
  exact ⟨by omega, by omega, fun r hr => by have := h3 r hr; omega, fun r hr => by have := h4 r hr; omega⟩
theorem light_like {a c : Cf} (h : lightC c = true) (ha : a.Like c) : ∀ r ∈ a.l, r.ms.l.length ≤ 12 := by
  intro r hr
  obtain ⟨_, _, h3, _⟩ := light_parts h
  have : r.strip ∈ c.l.map Ro.strip := by rw [← ha.ro]; exact List.mem_map.2 ⟨r, hr, rfl⟩
  obtain ⟨r', hr', e⟩ := List.mem_map.1 this
  have e2 : r'.ms.l = r.ms.l := (congrArg (fun x : Ro => x.ms.l) e : r'.strip.ms.l = r.strip.ms.l)
  rw [← e2]
  exact (h3 r' hr').1
set_option maxRecDepth 100000 in
set_option maxHeartbeats 8000000 in
theorem more_law (c : Cf) (P : PR) (q : Int) (hq0 : 0 ≤ q) (hq1 : q ≤ 255) (w : World) (Hc : c.In w) (Hp : P.In w) : Calls Try.prog 21 #[c.val, P.val, .int .u8 q] w fun e w' => e = .returned (.bool true) ∧ Below w.heap.size w w' := by
  obtain ⟨w1, hw1⟩ : ∃ w1, w1 = w.alloc (.cells c.cells 70) := ⟨_, rfl⟩
  have hb1 : Below w.heap.size w w1 := by rw [hw1]; exact (Below.refl _ _).alloc (Nat.le_refl _) _
  have K1 := Lib.hid hb1
  have HC := Lib.hid (Hc.below hb1)
  have HP := Lib.hid (Hp.below hb1)
  have HLi : Hid (∀ X, Below w1.heap.size w1 X → Calls Try.prog 46 #[c.val] X fun e w' => e = .returned (.bool (lightC c)) ∧ Below X.heap.size X w') := Lib.hid (fun X hX => lightc_any c X (HC.out.below hX))
  have HLp : Hid (∀ X, Below w1.heap.size w1 X → Calls Try.prog 29 #[.slice none 0 0, .slice P.A P.l.length P.c] X fun e w' => e = .returned (.bool (lightB P.l)) ∧ Below X.heap.size X w') := Lib.hid (fun X hX => light_any P.A P.c P.l X (HP.out.below hX).1 (HP.out.below hX).2)
  have HCk : Hid (∀ X, Below w1.heap.size w1 X → Calls Try.prog 47 #[c.val] X fun e w' => e = .returned (.int .i64 (cfB c)) ∧ Below X.heap.size X w') := Lib.hid (fun X hX => check47_any c X (HC.out.below hX))
  have HWk := Lib.hid (fun (h1 : lightC c = true) (h2 : lightB P.l = true) (h3 : cfB c = 0) (X : World) (hX : Below w1.heap.size w1 X) => walk_pr c P X (HC.out.below hX) (HP.out.below hX) h1 h2 h3)
  have HTk := Lib.hid (fun (h1 : lightC c = true) (h2 : lightB P.l = true) (k : Nat) (m : Ro) (hm : c.l[k]? = some m) (X : World) (hX : Below w1.heap.size w1 X) => takes_pr c P X (HC.out.below hX) (HP.out.below hX) h1 h2 k m hm)
  have HCP := Lib.hid (fun (h1 : lightC c = true) (X : World) (hX : Below w1.heap.size w1 X) => refcopy_any c X (HC.out.below hX) (bigC_of h1))
  have HCI := Lib.hid (fun (X : World) (hX : Below w1.heap.size w1 X) => HC.out.below hX)
  have HPI := Lib.hid (fun (X : World) (hX : Below w1.heap.size w1 X) => HP.out.below hX)
  have HMR := Lib.hid (fun (h3 : cfB c = 0) (h15 : c.l.length ≤ 15) (a : Cf) (ha : a.Like c) (r : Ro) (hr : routeB r = 0) (hp : 0 ≤ r.par ∧ r.par < (c.l.length : Int)) (A2 : Option Addr) (c2 : Nat) => cfB_more h3 h15 ha r hr hp A2 c2)
  have HNR := Lib.hid (fun (h3 : cfB c = 0) (a : Cf) (ha : a.Like c) (B2 : Option Addr) (d2 : Nat) => cfB_norules h3 ha B2 d2)
  have HWM := Lib.hid (fun (h3 : cfB c = 0) (a : Cf) (ha : a.Like c) (par : Int) (A : Option Addr) (k : Nat) => walk_more_l h3 ha P.l par A k)
  have HTo := Lib.hid (fun (h : cfB c = 0) => told_of h P.l)
  have RT := Lib.hid HC.out.rt
  clear Hc Hp HC HP hb1
  obtain ⟨E1, hE1⟩ : ∃ y, lightC c = y := ⟨_, rfl⟩
  obtain ⟨E2, hE2⟩ : ∃ y, lightB P.l = y := ⟨_, rfl⟩
  obtain ⟨E3, hE3⟩ : ∃ y, cfB c = y := ⟨_, rfl⟩
  rw [hE1] at HLi HWk HTk
  rw [hE2] at HLp HWk HTk
  rw [hE3] at HCk HWk HTo
  rw [hE1] at HCP
  rw [hE3] at HMR HNR HWM
  have HG2 := Lib.hid hE2
  have HG1 := Lib.hid hE1
  clear hE1 hE2 hE3
  have BX : Hid (Blk w1 w.heap.size 70 c.cells) := Lib.hid (by rw [hw1]; exact Blk.new w 70 c.cells)
  have hlt : w.heap.size < w1.heap.size := by rw [hw1]; simp
  obtain ⟨A, cp, l, B, cq, rl, pt, rs⟩ := c
  unfold Cf.val at HLi HCk ⊢
  unfold PR.val
  simp only [Cf.cells] at hw1 HLi HCk HWk HTk HTo HCP HCI HMR HNR HWM HG1 RT BX ⊢
  go_enter Try.func21, Try.ntmps21
  go_upto_region 1 with fail
  rw [← hw1]
  obtain ⟨bx, hbx⟩ : ∃ b, w.heap.size = b := ⟨_, rfl⟩
  rw [hbx] at BX hlt
  rw [hbx]
  clear hbx hw1
  have HB : Hid (∀ X, Below w1.heap.size w1 X → X.cell? ⟨bx, 0, none⟩ = some (.slice A l.length cp) ∧ X.cell? ⟨bx, 1, none⟩ = some (.slice B rl.length cq) ∧ X.cell? ⟨bx, 2, none⟩ = some (.int .i64 pt) ∧ X.cell? ⟨bx, 3, none⟩ = some (.int .i64 rs)) := Lib.hid (fun X hX => by
    have h := BX.out.below hX hlt
    exact ⟨h.cell 0, h.cell 1, h.cell 2, h.cell 3⟩)
  have L1 := Lib.hid (Below.refl w1.heap.size w1)
  obtain ⟨z0, z1, z2, z3⟩ := HB.out w1 L1.out
  go_wp2_with fail
  refine (HLi.out _ L1.out).mono ?_
  rintro e w2 ⟨rfl, hb⟩
  have L2 := Lib.hid (below_then L1.out L1.out.size hb)
  clear hb
  cases E1 with
  | false =>
    go_wp2_with fail
    refine (awake5 _).mono ?_
    rintro e wz ⟨rfl, hb⟩
    have KZ := Lib.hid (below_then L2.out L2.out.size hb)
    clear hb
    go_wp2
    go_ret
    exact ⟨rfl, below_then K1.out K1.out.size KZ.out⟩
  | true =>
  go_wp2_with fail
  refine (HLp.out _ L2.out).mono ?_
  rintro e w3 ⟨rfl, hb⟩
  have L3 := Lib.hid (below_then L2.out L2.out.size hb)
  clear hb
  cases E2
  · skip
    go_wp2_with fail
    refine (awake5 _).mono ?_
    rintro e wz ⟨rfl, hb⟩
    have KZ := Lib.hid (below_then L3.out L3.out.size hb)
    clear hb
    go_wp2
    go_ret
    exact ⟨rfl, below_then K1.out K1.out.size KZ.out⟩
  clear z0 z1 z2 z3
  obtain ⟨z0, z1, z2, z3⟩ := HB.out w3 L3.out
  go_wp2_with fail
  refine (HCk.out _ L3.out).mono ?_
  rintro e w4 ⟨rfl, hb⟩
  have L4 := Lib.hid (below_then L3.out L3.out.size hb)
  clear hb z0 z1 z2 z3
  by_cases he : E3 = 0
  rotate_left
  · have he' := bne_is he
    go_wp2_with fail
    refine (awake5 _).mono ?_
    rintro e wz ⟨rfl, hb⟩
    have KZ := Lib.hid (below_then L4.out L4.out.size hb)
    clear hb
    go_wp2
    go_ret
    exact ⟨rfl, below_then K1.out K1.out.size KZ.out⟩
  subst he
  have TO := Lib.hid (HTo.out (by trivial))
  have HCY := Lib.hid (HCP.out (by trivial))
  have HMR2 := Lib.hid (HMR.out (by trivial))
  have HNR2 := Lib.hid (HNR.out (by trivial))
  have HWM2 := Lib.hid (HWM.out (by trivial))
  have HWK := Lib.hid (HWk.out (by trivial) (by trivial) (by trivial))
  clear HWk HTk HTo HLi HLp HCk HCP HMR HNR HWM
  obtain ⟨z0, z1, z2, z3⟩ := HB.out w4 L4.out
  by_cases h15 : 15 < l.length
  · have j15 : decide ((l.length : Int) > 15) = true := by simp; omega
    go_wp2_with fail
    refine (awake5 _).mono ?_
    rintro e wz ⟨rfl, hb⟩
    have KZ := Lib.hid (below_then L4.out L4.out.size hb)
    clear hb
    go_wp2
    go_ret
    exact ⟨rfl, below_then K1.out K1.out.size KZ.out⟩
  have j15 : decide ((l.length : Int) > 15) = false := by simp; omega
  go_wp2_with fail
  refine (HCY.out _ L4.out).mono ?_
  rintro e w5 ⟨x, bs5, rfl, hk5, hlk, hbs5, ho5, how5, hin5, hft5, bs6, hrow, ho6, how6⟩
  have L5 := Lib.hid (below_then L4.out L4.out.size hk5)
  have HLK := Lib.hid hlk
  have HO5 := Lib.hid ho5
  have HOW := Lib.hid how5
  have HO6 := Lib.hid ho6
  have HOW6 := Lib.hid how6
  have HROW := Lib.hid hrow
  have HBS5 : Hid (w1.heap.size ≤ bs5) := Lib.hid (Nat.le_trans L4.out.size hbs5)
  clear hk5 hlk hbs5 ho5 how5 hin5 hft5 hrow ho6 how6 z0 z1 z2 z3 j15
  obtain ⟨A5, k5, l5, B5, d5, rl5, pt5, rs5⟩ := x
  unfold Cf.val
  simp only [Cf.cells] at HO5 HOW HO6 HOW6 HROW ⊢
  have HL5 : Hid (l5.length = l.length) := Lib.hid HLK.out.len
  have HB5S : Hid (bs5 ≤ w5.heap.size) := Lib.hid (by obtain ⟨g, cap, _, hg, cur, hB, _⟩ := own_form HO5.out (by have := HL5.out; have := TO.out.n0; omega); have := hB.lt; omega)
  have B7 := Lib.hid (Blk.new w5 70 #[.slice A5 l5.length k5, .slice B5 rl5.length d5, .int .i64 pt5, .int .i64 rs5])
  have L6 := Lib.hid (L5.out.alloc L5.out.size (.cells #[.slice A5 l5.length k5, .slice B5 rl5.length d5, .int .i64 pt5, .int .i64 rs5] 70))
  have hw57 : Hid (Below w5.heap.size w5 (w5.alloc (.cells #[.slice A5 l5.length k5, .slice B5 rl5.length d5, .int .i64 pt5, .int .i64 rs5] 70))) := Lib.hid ((Below.refl _ _).alloc (Nat.le_refl _) _)
  go_upto_region 4 with fail
  obtain ⟨b7, hb7⟩ : ∃ b, w5.heap.size = b := ⟨_, rfl⟩
  rw [hb7] at B7 ⊢
  have HB7 := Lib.hid hb7
  clear hb7
  generalize w5.alloc (.cells #[.slice A5 l5.length k5, .slice B5 rl5.length d5, .int .i64 pt5, .int .i64 rs5] 70) = wx at *
  obtain ⟨lo, hlo⟩ : ∃ x, wx.heap.size = x := ⟨_, rfl⟩
  have HLO := Lib.hid hlo
  have hb7lo : b7 < lo := hlo ▸ B7.out.lt
  have hbxlo : bx < lo := hlo ▸ Nat.lt_of_lt_of_le hlt L6.out.size
  have BX6 := Lib.hid (BX.out.below L6.out hlt)
  have z0 := BX6.out.cell 0
  have x0 := B7.out.cell 0
  simp only [List.getElem?_toArray, List.getElem?_cons_zero, List.getElem?_cons_succ] at z0 x0
  clear hlo
  have hn0 := TO.out.n0
  have hn1 : ((l.length : Int) == 0) = false := beq_eq_false_iff_ne.2 (by omega)
  have hn2 : (l.length : Int) ≠ 0 := by omega
  have hqw : IntKind.i64.wrap q = q := IntWalk.i64_in _ (by omega)
  obtain ⟨pm, hpm⟩ : ∃ p, Int.tmod q (l.length : Int) = p := ⟨_, rfl⟩
  have hpw : IntKind.i64.wrap (Int.tmod q (l.length : Int)) = pm := by
    rw [hpm]
    have h1 := Int.tmod_nonneg (l.length : Int) hq0
    have h2 := Int.tmod_lt_of_pos q (show (0 : Int) < (l.length : Int) by omega)
    exact IntWalk.i64_in _ (by omega)
  have HPM : Hid (0 ≤ pm ∧ pm < (l.length : Int)) := Lib.hid (by
    rw [← hpm]
    exact ⟨Int.tmod_nonneg _ hq0, Int.tmod_lt_of_pos q (by omega)⟩)
  have HSX : Hid (∀ X, Below lo wx X → X.cell? ⟨bx, 0, none⟩ = some (.slice A l.length cp)) := Lib.hid (fun X hb => (hb.cell (p := ⟨bx, 0, none⟩) hbxlo).trans z0)
  have HX0 : Hid (∀ X, Below lo wx X → X.cell? ⟨b7, 0, none⟩ = some (.slice A5 l5.length k5)) := Lib.hid (fun X hb => (hb.cell (p := ⟨b7, 0, none⟩) hb7lo).trans x0)
  have HWX : Hid (Below lo wx wx) := Lib.hid (HLO.out ▸ Below.refl _ _)
  clear x0 z0 hpw
  have hn3 : l ≠ [] := fun e => by rw [e] at hn0; simp at hn0
  refine wp_region_held_drew (S := fun X => X.cell? ⟨bx, 0, none⟩ = some (.slice A l.length cp)) (by kernel_rfl) (by exact HSX.out _ HWX.out.drew) (fun hHeld => ?_)
  refine wpAnyH_take (i := 0) (v := ?_) (by simp only [List.getElem?_toArray, List.getElem?_cons_succ, List.getElem?_cons_zero]; exact rfl) (by decide +kernel) (by decide +kernel) (by decide +kernel) (by exact fun _ _ _ h => h) (Or.inl ⟨by rfl, ?_⟩) (by assumption) ?_
  rotate_left
  · (intro w hSw; (try dsimp only at hSw); go_simp; try with_reducible rfl)
  try simp only [Act.put, List.setIfInBounds_toArray, List.set_cons_zero, List.set_cons_succ]
  refine wpAnyH_take (i := 2) (v := ?_) (by simp only [List.getElem?_toArray, List.getElem?_cons_succ, List.getElem?_cons_zero]; exact rfl) (by decide +kernel) (by decide +kernel) (by decide +kernel) (by exact fun _ _ _ h => h) (Or.inl ⟨by rfl, ?_⟩) (by assumption) ?_
  rotate_left
  · (intro w hSw; (try dsimp only at hSw); go_simp; try with_reducible rfl)
  try simp only [Act.put, List.setIfInBounds_toArray, List.set_cons_zero, List.set_cons_succ]
  refine wpAnyH_take (i := 3) (v := ?_) (by simp only [List.getElem?_toArray, List.getElem?_cons_succ, List.getElem?_cons_zero]; exact rfl) (by decide +kernel) (by decide +kernel) (by decide +kernel) (by exact fun _ _ _ h => h) (Or.inl ⟨by rfl, ?_⟩) (by assumption) ?_
  rotate_left
  · (intro w hSw; (try dsimp only at hSw); go_simp; try with_reducible rfl)
  try simp only [Act.put, List.setIfInBounds_toArray, List.set_cons_zero, List.set_cons_succ]
  refine wpAnyH_take (i := 4) (v := ?_) (by simp only [List.getElem?_toArray, List.getElem?_cons_succ, List.getElem?_cons_zero]; exact rfl) (by decide +kernel) (by decide +kernel) (by decide +kernel) (by exact fun _ _ _ h => h) (Or.inl ⟨by rfl, ?_⟩) (by assumption) ?_
  rotate_left
  · (intro w hSw; (try dsimp only at hSw); go_simp; try with_reducible rfl)
  try simp only [Act.put, List.setIfInBounds_toArray, List.set_cons_zero, List.set_cons_succ]
  refine wpAnyH_take (i := 5) (v := ?_) (by simp only [List.getElem?_toArray, List.getElem?_cons_succ, List.getElem?_cons_zero]; exact rfl) (by decide +kernel) (by decide +kernel) (by decide +kernel) (by exact fun _ _ _ h => h) (Or.inl ⟨by rfl, ?_⟩) (by assumption) ?_
  rotate_left
  · (intro w hSw; (try dsimp only at hSw); go_simp; try with_reducible rfl)
  try simp only [Act.put, List.setIfInBounds_toArray, List.set_cons_zero, List.set_cons_succ]
  refine wpAnyH_take (i := 6) (v := ?_) (by simp only [List.getElem?_toArray, List.getElem?_cons_succ, List.getElem?_cons_zero]; exact rfl) (by decide +kernel) (by decide +kernel) (by decide +kernel) (by exact fun _ _ _ h => h) (Or.inl ⟨by rfl, ?_⟩) (by assumption) ?_
  rotate_left
  · (intro w hSw; (try dsimp only at hSw); go_simp; try with_reducible rfl)
  try simp only [Act.put, List.setIfInBounds_toArray, List.set_cons_zero, List.set_cons_succ]
  refine wpAnyH_take (i := 7) (v := ?_) (by simp only [List.getElem?_toArray, List.getElem?_cons_succ, List.getElem?_cons_zero]; exact rfl) (by decide +kernel) (by decide +kernel) (by decide +kernel) (by exact fun _ _ _ h => h) (Or.inl ⟨by rfl, ?_⟩) (by assumption) ?_
  rotate_left
  · (intro w hSw; (try dsimp only at hSw); go_simp; try with_reducible rfl)
  try simp only [Act.put, List.setIfInBounds_toArray, List.set_cons_zero, List.set_cons_succ]
  refine wpAnyH_take (i := 8) (v := ?_) (by simp only [List.getElem?_toArray, List.getElem?_cons_succ, List.getElem?_cons_zero]; exact rfl) (by decide +kernel) (by decide +kernel) (by decide +kernel) (by exact fun _ _ _ h => h) (Or.inl ⟨by rfl, ?_⟩) (by assumption) ?_
  rotate_left
  · (intro w hSw; (try dsimp only at hSw); go_simp; try with_reducible rfl)
  try simp only [Act.put, List.setIfInBounds_toArray, List.set_cons_zero, List.set_cons_succ]
  refine wpAnyH_take (i := 9) (v := ?_) (by simp only [List.getElem?_toArray, List.getElem?_cons_succ, List.getElem?_cons_zero]; exact rfl) (by decide +kernel) (by decide +kernel) (by decide +kernel) (by exact fun _ _ _ h => h) (Or.inl ⟨by rfl, ?_⟩) (by assumption) ?_
  rotate_left
  · (intro w hSw; (try dsimp only at hSw); go_simp; try with_reducible rfl)
  try simp only [Act.put, List.setIfInBounds_toArray, List.set_cons_zero, List.set_cons_succ]
  refine wpAnyH_walk (J := fun n listed a w' => ∃ (t x : Nat) (x32 x41 x42 x43 : Value), a = ⟨#[Value.agg #[Value.slice A l.length cp, Value.slice B rl.length cq, Value.int IntKind.i64 pt, Value.int IntKind.i64 rs], Value.slice P.A P.l.length P.c, Value.int IntKind.u8 q, Value.pointer (some { block := bx, off := 0 }), undef, undef, Value.bool false, Value.pointer (some { block := b7, off := 0 }), undef, Value.agg #[Value.slice A l.length cp, Value.slice B rl.length cq, Value.int IntKind.i64 pt, Value.int IntKind.i64 rs], Value.bool true, Value.bool false, Value.bool false, Value.slice P.A P.l.length P.c, Value.bool true, Value.bool false, Value.bool false, Value.bool false, Value.agg #[Value.slice A l.length cp, Value.slice B rl.length cq, Value.int IntKind.i64 pt, Value.int IntKind.i64 rs], Value.int IntKind.i64 0, Value.bool false, Value.bool false, Value.bool false, Value.pointer (some { block := bx, off := 0 }), Value.slice A l.length cp, Value.int IntKind.i64 ↑l.length, Value.bool false, Value.bool false, undef, Value.agg #[Value.slice A l.length cp, Value.slice B rl.length cq, Value.int IntKind.i64 pt, Value.int IntKind.i64 rs], Value.agg #[Value.slice A5 l5.length k5, Value.slice B5 rl5.length d5, Value.int IntKind.i64 pt5, Value.int IntKind.i64 rs5], Value.pointer (some { block := b7, off := 0 }), x32, Value.int IntKind.u8 q, Value.int IntKind.i64 q, Value.pointer (some { block := bx, off := 0 }), Value.slice A l.length cp, Value.int IntKind.i64 ↑l.length, Value.int IntKind.i64 pm, Value.agg #[Value.string { data := #[97] }, Value.int IntKind.u8 0, Value.string { data := #[49] }], Value.agg #[Value.string { data := #[97] }, Value.int IntKind.u8 1, Value.string { data := #[49] }], x41, x42, x43, undef, undef, undef, undef, undef, undef, undef, undef, undef, undef, undef, undef, undef, undef, undef, undef, undef, undef, undef, undef, undef, undef, undef, undef, undef, undef, undef], []⟩ ∧ n + (t + x) = 7 ∧ ((t = 0 ∧ x = 0 ∧ listed = #[true, false, true, true, true, true, true, true, true, true, false, false, false, false, false, false]) ∨ (t = 0 ∧ x = 1 ∧ listed = #[true, true, true, true, true, true, true, true, true, true, false, false, false, false, false, false]) ∨ (t = 1 ∧ x = 0 ∧ listed = #[true, false, true, true, true, true, true, true, true, true, true, false, false, false, false, false]) ∨ (t = 1 ∧ x = 1 ∧ listed = #[true, true, true, true, true, true, true, true, true, true, true, false, false, false, false, false]) ∨ (t = 2 ∧ x = 0 ∧ listed = #[true, false, true, true, true, true, true, true, true, true, true, true, false, false, false, false]) ∨ (t = 2 ∧ x = 1 ∧ listed = #[true, true, true, true, true, true, true, true, true, true, true, true, false, false, false, false]) ∨ (t = 3 ∧ x = 0 ∧ listed = #[true, false, true, true, true, true, true, true, true, true, true, true, true, false, false, false]) ∨ (t = 3 ∧ x = 1 ∧ listed = #[true, true, true, true, true, true, true, true, true, true, true, true, true, false, false, false])) ∧ Hid (Below lo wx w') ∧ Hid (x = 1 → x32 = .slice A5 l5.length k5) ∧ Hid (1 ≤ t → ∃ g, x41 = .slice (some ⟨g, 0, none⟩) 2 2 ∧ lo ≤ g ∧ Blk w' g 37 #[.string ⟨#[97]⟩, .int .u8 0, .string ⟨#[49]⟩, .string ⟨#[97]⟩, .int .u8 1, .string ⟨#[49]⟩]) ∧ Hid (2 ≤ t → x42 = .agg #[.int .i64 pm, x41, .bool false, .slice none 0 0, .string ⟨#[114]⟩, .int .i64 0, .int .i64 1, .int .i64 1]) ∧ Hid (t = 3 → ∃ g, x43 = .slice (some ⟨g, 0, none⟩) 1 1 ∧ Blk w' g 77 #[.int .i64 pm, x41, .bool false, .slice none 0 0, .string ⟨#[114]⟩, .int .i64 0, .int .i64 1, .int .i64 1])) ?_ _ _ _ _ ⟨0, 0, undef, undef, undef, undef, rfl, by decide, .inl ⟨rfl, rfl, by decide +kernel⟩, Lib.hid HWX.out.drew, Lib.hid (fun h => by cases h), Lib.hid (fun h => by omega), Lib.hid (fun h => by omega), Lib.hid (fun h => by cases h)⟩
  intro n listed a w9 hJ hnext
  have HNX : Shut _ := hnext
  clear hnext
  obtain ⟨t, x, x32, x41, x42, x43, rfl, hn, hst, HK, HX, H1, H2, H3⟩ := hJ
  have hls : lo ≤ w9.heap.size := Nat.le_trans (Nat.le_of_eq HLO.out.symm) HK.out.size
  rcases hst with ⟨rfl, rfl, rfl⟩ | ⟨rfl, rfl, rfl⟩ | ⟨rfl, rfl, rfl⟩ | ⟨rfl, rfl, rfl⟩ | ⟨rfl, rfl, rfl⟩ | ⟨rfl, rfl, rfl⟩ | ⟨rfl, rfl, rfl⟩ | ⟨rfl, rfl, rfl⟩
  · obtain rfl : n = 7 := by omega
    have z5 := HX0.out _ HK.out
    refine wpAnyH_ready (rs := [1, 10]) (by decide +kernel) (by simp) ?_
    refine AllReadyH.cons (by simp only [List.getElem?_toArray, List.getElem?_cons_succ, List.getElem?_cons_zero]; exact rfl) (fun K hK => ?_) (AllReadyH.cons (by simp only [List.getElem?_toArray, List.getElem?_cons_succ, List.getElem?_cons_zero]; exact rfl) (fun K hK => ?_) AllReadyH.nil)
    · go_simp
      refine hK.out _ _ (HSX.out _ HK.out) (fun hH => HNX.out 6 _ _ _ (by decide) ⟨0, 1, _, _, _, _, rfl, by decide, .inr (.inl ⟨rfl, rfl, by decide +kernel⟩), HK, Lib.hid (fun _ => rfl), Lib.hid (fun h => by omega), Lib.hid (fun h => by omega), Lib.hid (fun h => by cases h)⟩)
    · go_simp
      have KN := Lib.hid (HK.out.alloc hls (.cells #[.string ⟨#[97]⟩, .int .u8 0, .string ⟨#[49]⟩, .string ⟨#[97]⟩, .int .u8 1, .string ⟨#[49]⟩] 37))
      refine hK.out _ _ (HSX.out _ KN.out) (fun hH => HNX.out 6 _ _ _ (by decide) ⟨1, 0, _, _, _, _, rfl, by decide, .inr (.inr (.inl ⟨rfl, rfl, by decide +kernel⟩)), KN, Lib.hid (fun h => by cases h), Lib.hid (fun _ => ⟨_, rfl, hls, Blk.new _ _ _⟩), Lib.hid (fun h => by omega), Lib.hid (fun h => by cases h)⟩)
  · obtain rfl : n = 6 := by omega
    refine wpAnyH_ready (rs := [10]) (by decide +kernel) (by simp) ?_
    refine AllReadyH.cons (by simp only [List.getElem?_toArray, List.getElem?_cons_succ, List.getElem?_cons_zero]; exact rfl) (fun K hK => ?_) AllReadyH.nil
    · go_simp
      have KN := Lib.hid (HK.out.alloc hls (.cells #[.string ⟨#[97]⟩, .int .u8 0, .string ⟨#[49]⟩, .string ⟨#[97]⟩, .int .u8 1, .string ⟨#[49]⟩] 37))
      refine hK.out _ _ (HSX.out _ KN.out) (fun hH => HNX.out 5 _ _ _ (by decide) ⟨1, 1, _, _, _, _, rfl, by decide, .inr (.inr (.inr (.inl ⟨rfl, rfl, by decide +kernel⟩))), KN, HX, Lib.hid (fun _ => ⟨_, rfl, hls, Blk.new _ _ _⟩), Lib.hid (fun h => by omega), Lib.hid (fun h => by cases h)⟩)
  · obtain rfl : n = 6 := by omega
    obtain ⟨g, rfl, hg, hgb⟩ := H1.out (by decide)
    have HG := Lib.hid (show ∃ g', Value.slice (some ⟨g, 0, none⟩) 2 2 = .slice (some ⟨g', 0, none⟩) 2 2 ∧ lo ≤ g' ∧ Blk w9 g' 37 #[.string ⟨#[97]⟩, .int .u8 0, .string ⟨#[49]⟩, .string ⟨#[97]⟩, .int .u8 1, .string ⟨#[49]⟩] from ⟨g, rfl, hg, hgb⟩)
    clear hgb
    have hHeld9 := HSX.out _ HK.out
    refine wpAnyH_take (i := 11) (v := ?_) (by simp only [List.getElem?_toArray, List.getElem?_cons_succ, List.getElem?_cons_zero]; exact rfl) (by decide +kernel) (by decide +kernel) (by decide +kernel) (by exact fun _ _ _ h => h) (Or.inl ⟨by rfl, ?_⟩) (by assumption) ?_
    rotate_left
    · (intro w hSw; (try dsimp only at hSw); go_simp; try with_reducible rfl)
    try simp only [Act.put, List.setIfInBounds_toArray, List.set_cons_zero, List.set_cons_succ]
    clear hHeld9
    exact HNX.out 5 _ _ _ (by decide) ⟨2, 0, _, _, _, _, rfl, by decide, .inr (.inr (.inr (.inr (.inl ⟨rfl, rfl, by decide +kernel⟩)))), HK, Lib.hid (fun h => by cases h), Lib.hid (fun _ => HG.out), Lib.hid (fun _ => rfl), Lib.hid (fun h => by cases h)⟩
  · obtain rfl : n = 5 := by omega
    obtain ⟨g, rfl, hg, hgb⟩ := H1.out (by decide)
    have HG := Lib.hid (show ∃ g', Value.slice (some ⟨g, 0, none⟩) 2 2 = .slice (some ⟨g', 0, none⟩) 2 2 ∧ lo ≤ g' ∧ Blk w9 g' 37 #[.string ⟨#[97]⟩, .int .u8 0, .string ⟨#[49]⟩, .string ⟨#[97]⟩, .int .u8 1, .string ⟨#[49]⟩] from ⟨g, rfl, hg, hgb⟩)
    clear hgb
    have hHeld9 := HSX.out _ HK.out
    refine wpAnyH_take (i := 11) (v := ?_) (by simp only [List.getElem?_toArray, List.getElem?_cons_succ, List.getElem?_cons_zero]; exact rfl) (by decide +kernel) (by decide +kernel) (by decide +kernel) (by exact fun _ _ _ h => h) (Or.inl ⟨by rfl, ?_⟩) (by assumption) ?_
    rotate_left
    · (intro w hSw; (try dsimp only at hSw); go_simp; try with_reducible rfl)
    try simp only [Act.put, List.setIfInBounds_toArray, List.set_cons_zero, List.set_cons_succ]
    clear hHeld9
    exact HNX.out 4 _ _ _ (by decide) ⟨2, 1, _, _, _, _, rfl, by decide, .inr (.inr (.inr (.inr (.inr (.inl ⟨rfl, rfl, by decide +kernel⟩))))), HK, HX, Lib.hid (fun _ => HG.out), Lib.hid (fun _ => rfl), Lib.hid (fun h => by cases h)⟩
  · obtain rfl : n = 5 := by omega
    obtain ⟨g, rfl, hg, hgb⟩ := H1.out (by decide)
    obtain rfl := H2.out (by decide)
    have HGB := Lib.hid hgb
    clear hgb
    have z5 := HX0.out _ HK.out
    refine wpAnyH_ready (rs := [1, 12]) (by decide +kernel) (by simp) ?_
    refine AllReadyH.cons (by simp only [List.getElem?_toArray, List.getElem?_cons_succ, List.getElem?_cons_zero]; exact rfl) (fun K hK => ?_) (AllReadyH.cons (by simp only [List.getElem?_toArray, List.getElem?_cons_succ, List.getElem?_cons_zero]; exact rfl) (fun K hK => ?_) AllReadyH.nil)
    · go_simp
      refine hK.out _ _ (HSX.out _ HK.out) (fun hH => HNX.out 4 _ _ _ (by decide) ⟨2, 1, _, _, _, _, rfl, by decide, .inr (.inr (.inr (.inr (.inr (.inl ⟨rfl, rfl, by decide +kernel⟩))))), HK, Lib.hid (fun _ => rfl), Lib.hid (fun _ => ⟨g, rfl, hg, HGB.out⟩), Lib.hid (fun _ => rfl), Lib.hid (fun h => by cases h)⟩)
    · go_simp
      have KN := Lib.hid (HK.out.alloc hls (.cells #[.int .i64 pm, .slice (some ⟨g, 0, none⟩) 2 2, .bool false, .slice none 0 0, .string ⟨#[114]⟩, .int .i64 0, .int .i64 1, .int .i64 1] 77))
      refine hK.out _ _ (HSX.out _ KN.out) (fun hH => HNX.out 4 _ _ _ (by decide) ⟨3, 0, _, _, _, _, rfl, by decide, .inr (.inr (.inr (.inr (.inr (.inr (.inl ⟨rfl, rfl, by decide +kernel⟩)))))), KN, Lib.hid (fun h => by cases h), Lib.hid (fun _ => ⟨g, rfl, hg, HGB.out.alloc _⟩), Lib.hid (fun _ => rfl), Lib.hid (fun _ => ⟨_, rfl, Blk.new _ _ _⟩)⟩)
  · obtain rfl : n = 4 := by omega
    obtain ⟨g, rfl, hg, hgb⟩ := H1.out (by decide)
    obtain rfl := H2.out (by decide)
    have HGB := Lib.hid hgb
    clear hgb
    refine wpAnyH_ready (rs := [12]) (by decide +kernel) (by simp) ?_
    refine AllReadyH.cons (by simp only [List.getElem?_toArray, List.getElem?_cons_succ, List.getElem?_cons_zero]; exact rfl) (fun K hK => ?_) AllReadyH.nil
    · go_simp
      have KN := Lib.hid (HK.out.alloc hls (.cells #[.int .i64 pm, .slice (some ⟨g, 0, none⟩) 2 2, .bool false, .slice none 0 0, .string ⟨#[114]⟩, .int .i64 0, .int .i64 1, .int .i64 1] 77))
      refine hK.out _ _ (HSX.out _ KN.out) (fun hH => HNX.out 3 _ _ _ (by decide) ⟨3, 1, _, _, _, _, rfl, by decide, .inr (.inr (.inr (.inr (.inr (.inr (.inr (⟨rfl, rfl, by decide +kernel⟩))))))), KN, HX, Lib.hid (fun _ => ⟨g, rfl, hg, HGB.out.alloc _⟩), Lib.hid (fun _ => rfl), Lib.hid (fun _ => ⟨_, rfl, Blk.new _ _ _⟩)⟩)
  · obtain rfl : n = 4 := by omega
    have z5 := HX0.out _ HK.out
    refine wpAnyH_ready (rs := [1]) (by decide +kernel) (by simp) ?_
    refine AllReadyH.cons (by simp only [List.getElem?_toArray, List.getElem?_cons_succ, List.getElem?_cons_zero]; exact rfl) (fun K hK => ?_) AllReadyH.nil
    · go_simp
      refine hK.out _ _ (HSX.out _ HK.out) (fun hH => HNX.out 3 _ _ _ (by decide) ⟨3, 1, _, _, _, _, rfl, by decide, .inr (.inr (.inr (.inr (.inr (.inr (.inr (⟨rfl, rfl, by decide +kernel⟩))))))), HK, Lib.hid (fun _ => rfl), H1, H2, H3⟩)
  · obtain rfl : n = 3 := by omega
    obtain ⟨g, rfl, hg, hgb⟩ := H1.out (by decide)
    obtain rfl := H2.out (by decide)
    obtain rfl := HX.out rfl
    obtain ⟨g2, rfl, hgb2⟩ := H3.out rfl
    have G1 := Lib.hid hgb
    have G2 := Lib.hid hgb2
    clear hgb hgb2 H1 H2 H3 HX
    have hw59 : Hid (Below w5.heap.size w5 w9) := Lib.hid (below_then3 hw57.out (by have := HB7.out; have := HLO.out; omega) HK.out)
    have O9 := Lib.hid (own_below HO5.out hw59.out)
    have hb59 : bs5 ≤ w9.heap.size := Nat.le_trans HB5S.out hw59.out.size
    have hl5 : l5.length ≤ 1000 := by have := HL5.out; have := TO.out.n1; omega
    refine wpAnyH_ready (rs := [13]) (by decide +kernel) (by simp) ?_
    refine AllReadyH.cons (by simp only [List.getElem?_toArray, List.getElem?_cons_succ, List.getElem?_cons_zero]; exact rfl) (fun K hK => ?_) AllReadyH.nil
    refine step_app_reads _ bs5 rfl (.tmp 32) (.tmp 43) 68 77 _ 8 104 rfl und68c info77 rfl (by decide) (.slice A5 l5.length k5) l5.length (l5.flatMap Ro.cells) rfl (fun _ => True) _ 1 _ ([.int .i64 pm, .slice (some ⟨g, 0, none⟩) 2 2, .bool false, .slice none 0 0, .string ⟨#[114]⟩, .int .i64 0, .int .i64 1, .int .i64 1]) rfl (reads_blk G2.out rfl rfl) (by intro u hu; simp at hu; rcases hu with rfl | rfl | rfl | rfl | rfl | rfl | rfl | rfl <;> rfl) O9.out hb59 (by omega) (by omega) ?_
    intro v1 w8 hO hG hat
    obtain ⟨A6, k6, rfl⟩ := own_slice hO
    have HRW : Hid (∀ k, (Value.slice A5 l5.length k5).ownBlock = some k → bs5 ≤ k ∧ k < b7) := Lib.hid (fun k hk => ⟨own_base HO5.out k hk, by have := own_lt HO5.out k hk; have := HB7.out; omega⟩)
    have HVB : Hid ((Value.slice A6 (l5.length + 1) k6).ownBlock ≠ some b7) := Lib.hid (fun e => by
      rcases hat with h | ⟨b, hb, hle⟩
      · have := (HRW.out b7 (h ▸ e)).2; omega
      · rw [hb] at e; injection e with e; omega)
    have HZB : Hid (∀ b, b < b7 → (Value.slice A5 l5.length k5).ownBlock ≠ some b → (w8.setCell ⟨b7, 0, none⟩ (.slice A6 (l5.length + 1) k6)).heap[b]? = w5.heap[b]?) := Lib.hid (fun b hb hne => (Below.heap_setCell w8 ⟨b7, 0, none⟩ _ b (by show b ≠ b7; omega)).trans ((hG.block b (by omega) (fun e => hne e.symm)).trans (hw59.out.block b (by have := HB7.out; omega))))
    have HZS : Hid (w5.heap.size ≤ (w8.setCell ⟨b7, 0, none⟩ (.slice A6 (l5.length + 1) k6)).heap.size) := Lib.hid (Nat.le_trans hw59.out.size (Nat.le_trans hG.size (by simp [World.setCell])))
    have HIX : Hid (Cf.In ⟨A6, k6, l5 ++ [noR pm (some ⟨g, 0, none⟩) 2], B5, d5, rl5, pt5, rs5⟩ (w8.setCell ⟨b7, 0, none⟩ (.slice A6 (l5.length + 1) k6))) := Lib.hid (by
      have hb7' : b7 = w5.heap.size := HB7.out.symm
      refine ⟨?_, ?_, ?_, ?_⟩
      · show Reads _ _ 8 A6 (l5 ++ [noR pm (some ⟨g, 0, none⟩) 2]).length ((l5 ++ [noR pm (some ⟨g, 0, none⟩) 2]).flatMap Ro.cells)
        have hO2 := own_far2 hO (p := ⟨b7, 0, none⟩) HVB.out (.slice A6 (l5.length + 1) k6)
        obtain ⟨a1, d1, f1, _, g1⟩ := own_reads hO2 (by decide)
        injection f1 with f1 _ _
        subst f1
        rw [List.length_append, List.flatMap_append]
        exact g1.imp (fun b hb => hb.2.1)
      · intro r hr
        rcases List.mem_append.1 hr with hr | hr
        · exact ((HOW.out r hr).stays (w' := w8.setCell ⟨b7, 0, none⟩ (.slice A6 (l5.length + 1) k6)) ⟨HZS.out, fun b hb => HZB.out b (by have := hb.2.1; omega) hb.2.2, fun b hb => hb.2.2⟩).in_
        · simp at hr
          subst hr
          have hgrow := G1.out.grown hG (fun e => by have := (HRW.out g e.symm).2; omega)
          have hfar := hgrow.far (p := ⟨b7, 0, none⟩) (by show g ≠ b7; omega) (.slice A6 (l5.length + 1) k6)
          exact ⟨⟨reads_blk2 (cs := mts [no1, no2]) hfar rfl, no_ok⟩, ⟨Reads.nil _ _ _ _, fun x h => by cases h⟩, txOk_r⟩
      · show Reads _ _ 3 B5 rl5.length (rl5.flatMap Rl.cells)
        obtain ⟨a1, d1, f1, _, g1⟩ := own_reads HO6.out (by decide)
        injection f1 with f1 _ _
        subst f1
        exact (g1.keep (fun b hb => HZB.out b (by have := hb.2.1; omega) (fun e => by have := HROW.out b e; have := hb.1; omega))).imp (fun b hb => Nat.lt_of_lt_of_le hb.2.1 HZS.out)
      · intro r hr
        exact ((HOW6.out r hr).stays (w' := w8.setCell ⟨b7, 0, none⟩ (.slice A6 (l5.length + 1) k6)) ⟨HZS.out, fun b hb => HZB.out b (by have := hb.2.1; omega) (fun e => by have := HROW.out b e; have := hb.1; omega), fun b hb => hb.2.2⟩).in_)
    have LZ : Hid (Below w1.heap.size w1 (w8.setCell ⟨b7, 0, none⟩ (.slice A6 (l5.length + 1) k6))) := Lib.hid ((((below_then3 L6.out (by have := L6.out.size; have := HLO.out; omega) HK.out).grown hG (Nat.le_trans L6.out.size (Nat.le_trans (Nat.le_of_eq HLO.out) hls)) (fun k hk => by have := (HRW.out k hk).1; have := HBS5.out; omega)).setCell (p := ⟨b7, 0, none⟩) (by show w1.heap.size ≤ b7; have := HB7.out; have := L5.out.size; omega) _))
    have B8 := Lib.hid ((B7.out.below HK.out hb7lo).grown hG (fun e => by have := (HRW.out b7 e.symm).2; omega))
    have BZ : Hid (Blk (w8.setCell ⟨b7, 0, none⟩ (.slice A6 (l5.length + 1) k6)) b7 70 #[.slice A6 (l5.length + 1) k6, .slice B5 rl5.length d5, .int .i64 pt5, .int .i64 rs5]) := Lib.hid (by have h := B8.out.set_ 0 (.slice A6 (l5.length + 1) k6); simpa using h)
    have S8 : w8.cell? ⟨bx, 0, none⟩ = some (.slice A l.length cp) := ((BX6.out.below HK.out hbxlo).grown hG (fun e => by have := (HRW.out bx e.symm).1; have := HBS5.out; omega)).cell 0
    have HSZ : Hid ((w8.setCell ⟨b7, 0, none⟩ (.slice A6 (l5.length + 1) k6)).cell? ⟨bx, 0, none⟩ = some (.slice A l.length cp)) := Lib.hid ((BX.out.below LZ.out hlt).cell 0)
    refine hK.out _ _ S8 (fun hH => ?_)
    clear hK K hO hG hat HNX
    refine wpAnyH_take (i := 14) (v := ?_) (by simp only [List.getElem?_toArray, List.getElem?_cons_succ, List.getElem?_cons_zero]; exact rfl) (by decide +kernel) (by decide +kernel) (by decide +kernel) (by exact fun _ _ _ h => h) (Or.inl ⟨by rfl, ?_⟩) (by assumption) ?_
    rotate_left
    · (intro w hSw; (try dsimp only at hSw); go_simp; try with_reducible rfl)
    try simp only [Act.put, List.setIfInBounds_toArray, List.set_cons_zero, List.set_cons_succ]
    refine wpAnyH_ready (rs := [15]) (by decide +kernel) (by simp) ?_
    refine AllReadyH.cons (by simp only [List.getElem?_toArray, List.getElem?_cons_succ, List.getElem?_cons_zero]; exact rfl) (fun K hK => ?_) AllReadyH.nil
    have xf := B8.out.frozen 0
    have x8 := B8.out.cell 0
    simp only [List.getElem?_toArray, List.getElem?_cons_zero, List.getElem?_cons_succ] at x8
    go_simp
    refine hK.out _ _ HSZ.out (fun hH => ?_)
    clear hK K xf x8 hH S8
    refine wpAnyH_done (by decide +kernel) ?_ _
    generalize w8.setCell ⟨b7, 0, none⟩ (.slice A6 (l5.length + 1) k6) = wz at *
    clear B8 G1 G2 HZB HZS HRW HVB HSZ O9 hw59
    obtain ⟨z0, z1, z2, z3⟩ := HB.out _ LZ.out
    go_wp2_with fail
    refine (HCY.out _ LZ.out).mono ?_
    rintro e wa ⟨y, bs7, rfl, hk7, hlk7, hbs7, ho7, how7, hin7, hft7, bs8, hrow7, ho8, how8⟩
    have LA := Lib.hid (below_then LZ.out LZ.out.size hk7)
    have HLK7 := Lib.hid hlk7
    obtain ⟨A7, k7, l7, B7', d7, rl7, pt7, rs7⟩ := y
    have HIY : Hid (Cf.In ⟨A7, k7, l7, none, 0, [], pt7, rs7⟩ wa) := Lib.hid ⟨hin7.rt, hin7.ro, Reads.nil _ _ _ _, (fun r h => by cases h)⟩
    have HIX2 := Lib.hid (HIX.out.below hk7)
    have BZ2 := Lib.hid (BZ.out.below hk7 BZ.out.lt)
    clear hlk7 hbs7 ho7 how7 hin7 hft7 hrow7 ho8 how8 hk7 z0 z1 z2 z3
    unfold Cf.val
    simp only [Cf.cells]
    go_upto_region 7 with fail
    have LB := Lib.hid (LA.out.alloc LA.out.size (.cells #[.slice A7 l7.length k7, .slice none 0 0, .int .i64 pt7, .int .i64 rs7] 70))
    have HYB := Lib.hid (Blk.new wa 70 #[.slice A7 l7.length k7, .slice none 0 0, .int .i64 pt7, .int .i64 rs7])
    have KA := Lib.hid ((Below.refl wa.heap.size wa).alloc (Nat.le_refl _) (.cells #[.slice A7 l7.length k7, .slice none 0 0, .int .i64 pt7, .int .i64 rs7] 70))
    have HIX3 := Lib.hid (HIX2.out.below KA.out)
    have HIY3 := Lib.hid (HIY.out.below KA.out)
    have BZ3 := Lib.hid (BZ2.out.below KA.out BZ2.out.lt)
    obtain ⟨b8, hb8⟩ : ∃ b, wa.heap.size = b := ⟨_, rfl⟩
    rw [hb8] at HYB ⊢
    clear hb8 HIX HIX2 HIY BZ BZ2
    generalize wa.alloc (.cells #[.slice A7 l7.length k7, .slice none 0 0, .int .i64 pt7, .int .i64 rs7] 70) = wy at *
    obtain ⟨lo2, hlo2⟩ : ∃ x, wy.heap.size = x := ⟨_, rfl⟩
    have HLO2 := Lib.hid hlo2
    have hws : (walkL l P.l).length ≤ 16 := TO.out.few
    have E1 : Hid (cfB ⟨A6, k6, l5 ++ [noR pm (some ⟨g, 0, none⟩) 2], B5, d5, rl5, pt5, rs5⟩ = 0) := Lib.hid (HMR2.out (show l.length ≤ 15 by omega) ⟨A5, k5, l5, B5, d5, rl5, pt5, rs5⟩ HLK.out _ (noR_ok _ _ _) HPM.out A6 k6)
    have E2 : Hid (cfB ⟨A7, k7, l7, none, 0, [], pt7, rs7⟩ = 0) := Lib.hid (HNR2.out ⟨A7, k7, l7, B7', d7, rl7, pt7, rs7⟩ HLK7.out none 0)
    have E3 : Hid (walkL (l5 ++ [noR pm (some ⟨g, 0, none⟩) 2]) P.l = walkL l P.l) := Lib.hid (HWM2.out ⟨A5, k5, l5, B5, d5, rl5, pt5, rs5⟩ HLK.out pm (some ⟨g, 0, none⟩) 2)
    have en : (l5 ++ [noR pm (some ⟨g, 0, none⟩) 2]).length = l5.length + 1 := by simp
    have CX : Hid (∀ X, Below lo2 wy X → Calls Try.prog 47 #[.agg #[.slice A6 (l5.length + 1) k6, .slice B5 rl5.length d5, .int .i64 pt5, .int .i64 rs5]] X fun e w' => e = .returned (.int .i64 0) ∧ Below X.heap.size X w') := Lib.hid (fun X hX => by
      have h := check47_any _ X (HIX3.out.below (hlo2 ▸ hX))
      rw [E1.out] at h
      unfold Cf.val at h
      simp only [Cf.cells, en] at h
      exact h)
    have CY : Hid (∀ X, Below lo2 wy X → Calls Try.prog 47 #[.agg #[.slice A7 l7.length k7, .slice none 0 0, .int .i64 pt7, .int .i64 rs7]] X fun e w' => e = .returned (.int .i64 0) ∧ Below X.heap.size X w') := Lib.hid (fun X hX => by
      have h := check47_any _ X (HIY3.out.below (hlo2 ▸ hX))
      rw [E2.out] at h
      unfold Cf.val at h
      simp only [Cf.cells, List.length_nil] at h
      exact h)
    have CW1 : Hid (∀ X, Below lo2 wy X → Calls Try.prog 50 #[.slice A l.length cp, .slice P.A P.l.length P.c] X fun e w' => ∃ v, e = .returned v ∧ w'.ownsRow X.heap.size 3 1 v (walkL l P.l).length (ints (walkL l P.l)) ∧ Below X.heap.size X w') := Lib.hid (fun X hX => HWK.out X (below_then LB.out LB.out.size (hlo2 ▸ hX)))
    have CW2 : Hid (∀ X, Below lo2 wy X → Calls Try.prog 50 #[.slice A6 (l5.length + 1) k6, .slice P.A P.l.length P.c] X fun e w' => ∃ v, e = .returned v ∧ w'.ownsRow X.heap.size 3 1 v (walkL l P.l).length (ints (walkL l P.l)) ∧ Below X.heap.size X w') := Lib.hid (fun X hX => by
      have hi := HIX3.out.below (hlo2 ▸ hX)
      have h := walk_any A6 k6 (l5 ++ [noR pm (some ⟨g, 0, none⟩) 2]) P X hi.rt hi.ro (fun r hr => by
        rcases List.mem_append.1 hr with hr | hr
        · have := light_like HG1.out HLK.out r hr; omega
        · simp at hr; subst hr; show (2 : Nat) ≤ _; decide) (HPI.out X (below_then LB.out LB.out.size (hlo2 ▸ hX))) (light_of HG2.out) (by rw [en]; omega) (by rw [en]; have := HL5.out; omega) (by rw [E3.out]; omega)
      rw [E3.out, en] at h
      exact h)
    have RB7 := Lib.hid (BZ3.out)
    have y0 := BZ3.out.cell 0
    have y1 := BZ3.out.cell 1
    have y2 := BZ3.out.cell 2
    have y3 := BZ3.out.cell 3
    have v0 := HYB.out.cell 0
    have v1 := HYB.out.cell 1
    have v2 := HYB.out.cell 2
    have v3 := HYB.out.cell 3
    simp only [List.getElem?_toArray, List.getElem?_cons_zero, List.getElem?_cons_succ] at y0 y1 y2 y3 v0 v1 v2 v3
    have u0 := (BX.out.below LB.out hlt).cell 0
    simp only [List.getElem?_toArray, List.getElem?_cons_zero, List.getElem?_cons_succ] at u0
    have hbl7 : b7 < lo2 := hlo2 ▸ BZ3.out.lt
    have hbl8 : b8 < lo2 := hlo2 ▸ HYB.out.lt
    have hblx : bx < lo2 := hlo2 ▸ (BX.out.below LB.out hlt).lt
    have N0 : Hid (Below lo2 wy wy.drew) := Lib.hid ((hlo2 ▸ Below.refl wy.heap.size wy : Below lo2 wy wy).drew)
    obtain ⟨ws, hws'⟩ : ∃ ws, walkL l P.l = ws := ⟨_, rfl⟩
    rw [hws'] at CW1 CW2 hws
    obtain ⟨N, hN⟩ : ∃ N, ws.length = N := ⟨_, rfl⟩
    rw [hN] at CW1 CW2 hws
    have HNN := Lib.hid hN
    clear hws' hN hlo2 en
    generalize P.l.length = pn at *
    refine wp_region_held_drew (S := fun X => SB lo2 wy X) (by kernel_rfl) (by exact keepB N0.out) (fun hHeld => ?_)
    refine wpAnyH_take (i := 0) (v := ?_) (by simp only [List.getElem?_toArray, List.getElem?_cons_succ, List.getElem?_cons_zero]; exact rfl) (by decide +kernel) (by decide +kernel) (by decide +kernel) (by exact fun _ _ _ h => h) (Or.inl ⟨by rfl, ?_⟩) (by assumption) ?_
    rotate_left
    · (intro w hSw; (try dsimp only at hSw); go_simp; try with_reducible rfl)
    try simp only [Act.put, List.setIfInBounds_toArray, List.set_cons_zero, List.set_cons_succ]
    refine wpAnyH_ready (rs := [1]) (by kernel_rfl) (by simp) ?_
    refine AllReadyH.cons (by simp only [List.getElem?_toArray, List.getElem?_cons_succ, List.getElem?_cons_zero]; exact rfl) (fun K hK => ?_) AllReadyH.nil
    go_simp
    go_at_call 47
    refine (CX.out _ N0.out).mono ?_
    rintro e v1 ⟨rfl, hb⟩
    have N1 := Lib.hid (below_then N0.out (Nat.le_trans (Nat.le_of_eq HLO2.out.symm) N0.out.size) hb)
    clear hb
    go_wp2_with fail
    refine hK.out _ _ (by exact keepB N1.out) (fun hHeld => ?_)
    clear hK K
    try simp only [Act.put, List.setIfInBounds_toArray, List.set_cons_zero, List.set_cons_succ]
    refine wpAnyH_take (i := 2) (v := ?_) (by simp only [List.getElem?_toArray, List.getElem?_cons_succ, List.getElem?_cons_zero]; exact rfl) (by decide +kernel) (by decide +kernel) (by decide +kernel) (by exact fun _ _ _ h => h) (Or.inl ⟨by rfl, ?_⟩) (by assumption) ?_
    rotate_left
    · (intro w hSw; (try dsimp only at hSw); go_simp; try with_reducible rfl)
    try simp only [Act.put, List.setIfInBounds_toArray, List.set_cons_zero, List.set_cons_succ]
    refine wpAnyH_take (i := 3) (v := ?_) (by simp only [List.getElem?_toArray, List.getElem?_cons_succ, List.getElem?_cons_zero]; exact rfl) (by decide +kernel) (by decide +kernel) (by decide +kernel) (by exact fun _ _ _ h => h) (Or.inl ⟨by rfl, ?_⟩) (by assumption) ?_
    rotate_left
    · (intro w hSw; (try dsimp only at hSw); go_simp; try with_reducible rfl)
    try simp only [Act.put, List.setIfInBounds_toArray, List.set_cons_zero, List.set_cons_succ]
    refine wpAnyH_take (i := 4) (v := ?_) (by simp only [List.getElem?_toArray, List.getElem?_cons_succ, List.getElem?_cons_zero]; exact rfl) (by decide +kernel) (by decide +kernel) (by decide +kernel) (by exact fun _ _ _ h => h) (Or.inl ⟨by rfl, ?_⟩) (by assumption) ?_
    rotate_left
    · (intro w hSw; (try dsimp only at hSw); go_simp; try with_reducible rfl)
    try simp only [Act.put, List.setIfInBounds_toArray, List.set_cons_zero, List.set_cons_succ]
    refine wpAnyH_ready (rs := [5]) (by kernel_rfl) (by simp) ?_
    refine AllReadyH.cons (by simp only [List.getElem?_toArray, List.getElem?_cons_succ, List.getElem?_cons_zero]; exact rfl) (fun K hK => ?_) AllReadyH.nil
    go_simp
    go_at_call 47
    refine (CY.out _ N1.out).mono ?_
    rintro e v2 ⟨rfl, hb⟩
    have N2 := Lib.hid (below_then N1.out (Nat.le_trans (Nat.le_of_eq HLO2.out.symm) N1.out.size) hb)
    clear hb
    go_wp2_with fail
    refine hK.out _ _ (by exact keepB N2.out) (fun hHeld => ?_)
    clear hK K
    try simp only [Act.put, List.setIfInBounds_toArray, List.set_cons_zero, List.set_cons_succ]
    refine wpAnyH_take (i := 6) (v := ?_) (by simp only [List.getElem?_toArray, List.getElem?_cons_succ, List.getElem?_cons_zero]; exact rfl) (by decide +kernel) (by decide +kernel) (by decide +kernel) (by exact fun _ _ _ h => h) (Or.inl ⟨by rfl, ?_⟩) (by assumption) ?_
    rotate_left
    · (intro w hSw; (try dsimp only at hSw); go_simp; try with_reducible rfl)
    try simp only [Act.put, List.setIfInBounds_toArray, List.set_cons_zero, List.set_cons_succ]
    refine wpAnyH_take (i := 7) (v := ?_) (by simp only [List.getElem?_toArray, List.getElem?_cons_succ, List.getElem?_cons_zero]; exact rfl) (by decide +kernel) (by decide +kernel) (by decide +kernel) (by exact fun _ _ _ h => h) (Or.inl ⟨by rfl, ?_⟩) (by assumption) ?_
    rotate_left
    · (intro w hSw; (try dsimp only at hSw); go_simp; try with_reducible rfl)
    try simp only [Act.put, List.setIfInBounds_toArray, List.set_cons_zero, List.set_cons_succ]
    refine wpAnyH_take (i := 8) (v := ?_) (by simp only [List.getElem?_toArray, List.getElem?_cons_succ, List.getElem?_cons_zero]; exact rfl) (by decide +kernel) (by decide +kernel) (by decide +kernel) (by exact fun _ _ _ h => h) (Or.inl ⟨by rfl, ?_⟩) (by assumption) ?_
    rotate_left
    · (intro w hSw; (try dsimp only at hSw); go_simp; try with_reducible rfl)
    try simp only [Act.put, List.setIfInBounds_toArray, List.set_cons_zero, List.set_cons_succ]
    refine wpAnyH_take (i := 9) (v := ?_) (by simp only [List.getElem?_toArray, List.getElem?_cons_succ, List.getElem?_cons_zero]; exact rfl) (by decide +kernel) (by decide +kernel) (by decide +kernel) (by exact fun _ _ _ h => h) (Or.inl ⟨by rfl, ?_⟩) (by assumption) ?_
    rotate_left
    · (intro w hSw; (try dsimp only at hSw); go_simp; try with_reducible rfl)
    try simp only [Act.put, List.setIfInBounds_toArray, List.set_cons_zero, List.set_cons_succ]
    refine wpAnyH_take (i := 10) (v := ?_) (by simp only [List.getElem?_toArray, List.getElem?_cons_succ, List.getElem?_cons_zero]; exact rfl) (by decide +kernel) (by decide +kernel) (by decide +kernel) (by exact fun _ _ _ h => h) (Or.inl ⟨by rfl, ?_⟩) (by assumption) ?_
    rotate_left
    · (intro w hSw; (try dsimp only at hSw); go_simp; try with_reducible rfl)
    try simp only [Act.put, List.setIfInBounds_toArray, List.set_cons_zero, List.set_cons_succ]
    refine wpAnyH_take (i := 11) (v := ?_) (by simp only [List.getElem?_toArray, List.getElem?_cons_succ, List.getElem?_cons_zero]; exact rfl) (by decide +kernel) (by decide +kernel) (by decide +kernel) (by exact fun _ _ _ h => h) (Or.inl ⟨by rfl, ?_⟩) (by assumption) ?_
    rotate_left
    · (intro w hSw; (try dsimp only at hSw); go_simp; try with_reducible rfl)
    try simp only [Act.put, List.setIfInBounds_toArray, List.set_cons_zero, List.set_cons_succ]
    refine wpAnyH_take (i := 13) (v := ?_) (by simp only [List.getElem?_toArray, List.getElem?_cons_succ, List.getElem?_cons_zero]; exact rfl) (by decide +kernel) (by decide +kernel) (by decide +kernel) (by exact fun _ _ _ h => h) (Or.inl ⟨by rfl, ?_⟩) (by assumption) ?_
    rotate_left
    · (intro w hSw; (try dsimp only at hSw); go_simp; try with_reducible rfl)
    try simp only [Act.put, List.setIfInBounds_toArray, List.set_cons_zero, List.set_cons_succ]
    refine wpAnyH_take (i := 14) (v := ?_) (by simp only [List.getElem?_toArray, List.getElem?_cons_succ, List.getElem?_cons_zero]; exact rfl) (by decide +kernel) (by decide +kernel) (by decide +kernel) (by exact fun _ _ _ h => h) (Or.inl ⟨by rfl, ?_⟩) (by assumption) ?_
    rotate_left
    · (intro w hSw; (try dsimp only at hSw); go_simp; try with_reducible rfl)
    try simp only [Act.put, List.setIfInBounds_toArray, List.set_cons_zero, List.set_cons_succ]
    refine wpAnyH_take (i := 15) (v := ?_) (by simp only [List.getElem?_toArray, List.getElem?_cons_succ, List.getElem?_cons_zero]; exact rfl) (by decide +kernel) (by decide +kernel) (by decide +kernel) (by exact fun _ _ _ h => h) (Or.inl ⟨by rfl, ?_⟩) (by assumption) ?_
    rotate_left
    · (intro w hSw; (try dsimp only at hSw); go_simp; try with_reducible rfl)
    try simp only [Act.put, List.setIfInBounds_toArray, List.set_cons_zero, List.set_cons_succ]
    refine wpAnyH_ready (rs := [12]) (by kernel_rfl) (by simp) ?_
    refine AllReadyH.cons (by simp only [List.getElem?_toArray, List.getElem?_cons_succ, List.getElem?_cons_zero]; exact rfl) (fun K hK => ?_) AllReadyH.nil
    go_simp
    go_at_call 50
    refine (CW1.out _ N2.out).mono ?_
    rintro e v3 ⟨va, rfl, hoa, hb⟩
    have N3 := Lib.hid (below_then N2.out (Nat.le_trans (Nat.le_of_eq HLO2.out.symm) N2.out.size) hb)
    obtain ⟨Aa, ka, rfl⟩ := own_slice hoa
    have RA3 : Hid (Reads v3 (fun b => b < v3.heap.size) 1 Aa N (ints ws)) := Lib.hid (by obtain ⟨a1, d1, f1, _, g1⟩ := own_reads hoa (by decide); injection f1 with f1 _ _; subst f1; exact g1.imp (fun b hb => hb.2.1))
    clear hb hoa
    go_wp2_with fail
    refine hK.out _ _ (by exact keepB N3.out) (fun hHeld => ?_)
    clear hK K
    try simp only [Act.put, List.setIfInBounds_toArray, List.set_cons_zero, List.set_cons_succ]
    refine wpAnyH_ready (rs := [16]) (by kernel_rfl) (by simp) ?_
    refine AllReadyH.cons (by simp only [List.getElem?_toArray, List.getElem?_cons_succ, List.getElem?_cons_zero]; exact rfl) (fun K hK => ?_) AllReadyH.nil
    go_simp
    go_at_call 50
    refine (CW2.out _ N3.out).mono ?_
    rintro e v4 ⟨vb, rfl, hob, hb⟩
    have N4 := Lib.hid (below_then N3.out (Nat.le_trans (Nat.le_of_eq HLO2.out.symm) N3.out.size) hb)
    obtain ⟨Ab, kb, rfl⟩ := own_slice hob
    have RB4 : Hid (Reads v4 (fun b => b < v4.heap.size) 1 Ab N (ints ws)) := Lib.hid (by obtain ⟨a1, d1, f1, _, g1⟩ := own_reads hob (by decide); injection f1 with f1 _ _; subst f1; exact g1.imp (fun b hb => hb.2.1))
    have RA4 := Lib.hid ((RA3.out.below (by decide) hb).imp (fun b hb' => Nat.lt_of_lt_of_le hb' hb.size))
    clear hb hob
    go_wp2_with fail
    refine hK.out _ _ (by exact keepB N4.out) (fun hHeld => ?_)
    clear hK K
    try simp only [Act.put, List.setIfInBounds_toArray, List.set_cons_zero, List.set_cons_succ]
    refine wpAnyH_ready (rs := [17]) (by kernel_rfl) (by simp) ?_
    refine AllReadyH.cons (by simp only [List.getElem?_toArray, List.getElem?_cons_succ, List.getElem?_cons_zero]; exact rfl) (fun K hK => ?_) AllReadyH.nil
    go_simp
    go_at_call 53
    refine (sameints_any Aa Ab ka kb N ws v4 HNN.out (by omega) RA4.out RB4.out).mono ?_
    rintro e v5 ⟨rfl, hb⟩
    have N5 := Lib.hid (below_then N4.out (Nat.le_trans (Nat.le_of_eq HLO2.out.symm) N4.out.size) hb)
    clear hb
    go_wp2_with fail
    refine hK.out _ _ (by exact keepB N5.out) (fun hHeld => ?_)
    clear hK K
    try simp only [Act.put, List.setIfInBounds_toArray, List.set_cons_zero, List.set_cons_succ]
    refine wpAnyH_take (i := 18) (v := ?_) (by simp only [List.getElem?_toArray, List.getElem?_cons_succ, List.getElem?_cons_zero]; exact rfl) (by decide +kernel) (by decide +kernel) (by decide +kernel) (by exact fun _ _ _ h => h) (Or.inl ⟨by rfl, ?_⟩) (by assumption) ?_
    rotate_left
    · (intro w hSw; (try dsimp only at hSw); go_simp; try with_reducible rfl)
    try simp only [Act.put, List.setIfInBounds_toArray, List.set_cons_zero, List.set_cons_succ]
    refine wpAnyH_take (i := 19) (v := ?_) (by simp only [List.getElem?_toArray, List.getElem?_cons_succ, List.getElem?_cons_zero]; exact rfl) (by decide +kernel) (by decide +kernel) (by decide +kernel) (by exact fun _ _ _ h => h) (Or.inl ⟨by rfl, ?_⟩) (by assumption) ?_
    rotate_left
    · (intro w hSw; (try dsimp only at hSw); go_simp; try with_reducible rfl)
    try simp only [Act.put, List.setIfInBounds_toArray, List.set_cons_zero, List.set_cons_succ]
    refine wpAnyH_ready (rs := [20]) (by kernel_rfl) (by simp) ?_
    refine AllReadyH.cons (by simp only [List.getElem?_toArray, List.getElem?_cons_succ, List.getElem?_cons_zero]; exact rfl) (fun K hK => ?_) AllReadyH.nil
    go_simp
    go_at_call 49
    refine (awake5 _).mono ?_
    rintro e v6 ⟨rfl, hb⟩
    have N6 := Lib.hid (below_then N5.out (Nat.le_trans (Nat.le_of_eq HLO2.out.symm) N5.out.size) hb)
    clear hb
    go_wp2_with fail
    refine hK.out _ _ (by exact keepB N6.out) (fun hHeld => ?_)
    clear hK K
    try simp only [Act.put, List.setIfInBounds_toArray, List.set_cons_zero, List.set_cons_succ]
    refine wpAnyH_take (i := 21) (v := ?_) (by simp only [List.getElem?_toArray, List.getElem?_cons_succ, List.getElem?_cons_zero]; exact rfl) (by decide +kernel) (by decide +kernel) (by decide +kernel) (by exact fun _ _ _ h => h) (Or.inl ⟨by rfl, ?_⟩) (by assumption) ?_
    rotate_left
    · (intro w hSw; (try dsimp only at hSw); go_simp; try with_reducible rfl)
    try simp only [Act.put, List.setIfInBounds_toArray, List.set_cons_zero, List.set_cons_succ]
    refine wpAnyH_take (i := 22) (v := ?_) (by simp only [List.getElem?_toArray, List.getElem?_cons_succ, List.getElem?_cons_zero]; exact rfl) (by decide +kernel) (by decide +kernel) (by decide +kernel) (by exact fun _ _ _ h => h) (Or.inl ⟨by rfl, ?_⟩) (by assumption) ?_
    rotate_left
    · (intro w hSw; (try dsimp only at hSw); go_simp; try with_reducible rfl)
    try simp only [Act.put, List.setIfInBounds_toArray, List.set_cons_zero, List.set_cons_succ]
    refine wpAnyH_done (by decide +kernel) ?_ _
    go_wp2
    go_ret
    exact ⟨rfl, below_then K1.out K1.out.size (below_then3 LB.out (by have := HLO2.out; have := LB.out.size; omega) N6.out)⟩
set_option maxRecDepth 100000 in
theorem routeMore_lifted (os : Os) (started : os.Started) (H : Type) (enc : TypeId × Value → H) :
    ReturnsInHanded {} Try.checked os 21 .any (Rows.routeMoreSpec.pre6 enc Try.prog Try.f21 Rows.routeMoreRow.domain false) (Rows.routeMoreSpec.post enc Try.prog Try.f21 false true false false) := by
  refine returnsInHanded_of_change (C := Try.checked) tOwn started (by kernel_rfl) Try.func21
    (ChangeSpec.witness6 (enc := enc) (C := Try.checked) false ⟨#[], #[.agg #[.slice none 0 0, .slice none 0 0, .int .i64 0, .int .i64 0], .slice none 0 0, .int .u8 0], []⟩ 8 (by kernel_rfl) (by kernel_rfl) (by kernel_rfl) (by kernel_rfl)) ?_
  intro W base args ds gs before hval0 hW hcnd _
  have hval : ∀ (j : Nat) t v, Try.f21.params[j]? = some t → args[j]? = some v → Value.okWide Try.prog W .any base t v := hval0
  have hW' := hW
  obtain ⟨p, q, hA0, hV, rfl, hfz, hnd⟩ := hW
  have hA : DataW.TrodAll enc Try.prog W 0 (fun _ => true) true Try.f21.params.toList args.toList ds p := hA0
  rw [Try.params21] at hA hval
  obtain ⟨v0, vs0, d0, ds0, p0, q0, hargs, rfl, rfl, h0, r0⟩ := trodAll_cons hA
  obtain ⟨v1, vs1, d1, ds1, p1, q1, rfl, rfl, rfl, h1, r1⟩ := trodAll_cons r0
  obtain ⟨v2, vs2, d2, ds2, p2, q2, rfl, rfl, rfl, h2, r2⟩ := trodAll_cons r1
  obtain ⟨rfl, rfl, rfl⟩ := trodAll_nil r2
  obtain rfl : args = #[v0, v1, v2] := by cases args; simp_all
  obtain ⟨c, rfl, ic⟩ := open_cf (hval 0 70 v0 rfl rfl) h0
  obtain ⟨p, rfl, ip⟩ := open_pr (hval 1 38 v1 rfl rfl) h1
  obtain ⟨n, rfl, rfl, rfl, wn⟩ := open_int Try.underlying5 (hval 2 5 v2 rfl rfl) h2
  refine (more_law c p n (bounds_u8 wn).1 (bounds_u8 wn).2 W ic ip).mono fun e W' ⟨he, hb⟩ => ?_
  subst he
  exact ⟨_, rfl, law_post tLaid (by decide +kernel) hW' rfl (by kernel_rfl) Try.underlying4 rfl hb⟩

/-- The closed facts of the row. -/
theorem routeMore_facts : joinedFacts Try.pinned.checked.prog 21 Try.f21 Rows.routeMoreSpec Rows.routeMoreRow = true := joined_at 21 Try.f21 Rows.routeMoreSpec Rows.routeMoreRow (by
  intro P hP h1 h2 h3
  unfold joinedFacts
  rw [h1, h2, h3]
  subst hP
  kernel_rfl)
/-- The statement. -/
theorem routeMore_holds : Rows.RouteMoreSaid :=
  OpenClaim.holds_of_wide 21 Try.f21 rfl rfl rfl rfl rfl rfl rfl ⟨rfl, rfl, rfl, rfl, rfl⟩ rfl rfl rfl rfl rfl (by kernel_rfl) Try.func21 routeMore_facts
    (of_decide_eq_true (by kernel_rfl)) (by unfold Func.isWrapper; rw [if_neg (of_decide_eq_false (by kernel_rfl))]; exact ⟨rfl, rfl⟩)
    (fun os started H enc _ => routeMore_lifted os started H enc)
#print axioms routeMore_holds
end Go.Proofs.Ytnidjfmbbfoheaa
