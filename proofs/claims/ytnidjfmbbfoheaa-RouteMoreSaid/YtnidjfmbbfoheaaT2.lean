/- WALKS: within, Light of a configuration, CheckAll, names. -/
import Derived.Test.YtnidjfmbbfoheaaT1
import Derived.Test.YtnidjfmbbfoheaaTI
namespace Go.Proofs.Ytnidjfmbbfoheaa
set_option linter.unusedVariables false
set_option linter.unusedSimpArgs false
open Go.RowKit Go.BigFrame
open Go.Maps (Keyed IsMap)

set_option maxRecDepth 100000 in
theorem within_any (t least : Int) (w : World) : Calls Try.prog 77 #[.int .i64 t, .int .i64 least] w fun e w' => e = .returned (.bool (withinB t least)) ∧ Below w.heap.size w w' := by
  go_enter Try.func77, Try.ntmps77
  unfold withinB
  by_cases h1 : least ≤ t <;> by_cases h2 : t ≤ 1099511627776
  all_goals
    go_wp2
    go_ret
    exact ⟨ret_bool (by simp [h1, h2]), Below.refl _ _⟩

/-! ### Light -/
def fewR (r : Ro) : Bool := decide (r.ms.l.length ≤ 12) && decide (r.by_.l.length ≤ 12)
def fewL (r : Rl) : Bool := decide (r.s.l.length ≤ 12) && decide (r.t.l.length ≤ 12) && decide (r.e.l.length ≤ 12)
def lightC (c : Cf) : Bool := decide (c.l.length ≤ 20) && decide (c.rl.length ≤ 12) && c.l.all fewR && c.rl.all fewL
set_option maxRecDepth 100000 in
set_option maxHeartbeats 4000000 in
theorem lightc_any (c : Cf) (w : World) (H : c.In w) : Calls Try.prog 46 #[c.val] w fun e w' => e = .returned (.bool (lightC c)) ∧ Below w.heap.size w w' := by
  have K1 := Lib.hid ((Below.refl w.heap.size w).alloc (Nat.le_refl _) (.cells c.cells 70))
  have HC := Lib.hid (H.below ((Below.refl w.heap.size w).alloc (Nat.le_refl _) (.cells c.cells 70)))
  have BB := Lib.hid (Blk.new w 70 c.cells)
  obtain ⟨G, hG⟩ : ∃ G, lightC c = G := ⟨_, rfl⟩
  rw [hG]
  have HG := Lib.hid hG
  clear hG H
  obtain ⟨A, cp, l, B, cq, rl, pt, rs⟩ := c
  have RT := Lib.hid HC.out.rt
  have RU := Lib.hid HC.out.ru
  clear HC
  unfold Cf.val
  simp only [Cf.cells] at K1 BB RT RU ⊢
  go_enter Try.func46, Try.ntmps46
  have z0 := BB.out.cell 0
  have z1 := BB.out.cell 1
  simp only [List.getElem?_toArray, List.getElem?_cons_zero, List.getElem?_cons_succ] at z0 z1
  clear BB
  go_upto_region 1 with fail
  generalize w.alloc (.cells #[.slice A l.length cp, .slice B rl.length cq, .int .i64 pt, .int .i64 rs] 70) = w1 at *
  obtain ⟨bx, hbx⟩ : ∃ b, w.heap.size = b := ⟨_, rfl⟩
  rw [hbx] at z0 z1
  rw [hbx]
  clear hbx
  by_cases h1 : 20 < l.length
  · have j1 : decide ((l.length : Int) > 20) = true := by simp; omega
    have hv : G = false := by rw [← HG.out]; simp [lightC]; omega
    subst hv
    go_wp2
    go_ret
    exact ⟨rfl, K1.out⟩
  have j1 : decide ((l.length : Int) > 20) = false := by simp; omega
  by_cases h2 : 12 < rl.length
  · have j2 : decide ((rl.length : Int) > 12) = true := by simp; omega
    have hv : G = false := by rw [← HG.out]; simp [lightC]; omega
    subst hv
    go_wp2
    go_ret
    exact ⟨rfl, K1.out⟩
  have j2 : decide ((rl.length : Int) > 12) = false := by simp; omega
  have HG2 : Hid ((l.all fewR && rl.all fewL) = G) := Lib.hid (by
    have e1 : decide (l.length ≤ 20) = true := by simp; omega
    have e2 : decide (rl.length ≤ 12) = true := by simp; omega
    rw [← HG.out]
    simp only [lightC, e1, e2, Bool.true_and])
  clear HG
  go_wp2
  clear j1 j2
  go_loopw [3] (fun i wr => ∃ j : Nat, i = .int .i64 (j : Int) ∧ j ≤ l.length ∧ Hid (∀ (q : Nat) (x : Ro), q < j → l[q]? = some x → fewR x = true) ∧ wr = w1) (fun i _ => l.length - (intOf i).toNat)
  case atStart => exact ⟨0, rfl, by omega, Lib.hid (fun q x h => by omega), rfl⟩
  case round =>
    obtain ⟨i, rfl, hi, HJ, rfl⟩ := hrel
    by_cases hlt : i < l.length
    · have hkI : (i : Int) < (l.length : Int) := by omega
      have hk0 : (0 : Int) ≤ (i : Int) := by omega
      obtain ⟨b, o, rfl, hb, hcell⟩ := RT.out.2 (by omega)
      obtain ⟨m, hm⟩ : ∃ m, l[i]? = some m := ⟨_, List.getElem?_eq_getElem hlt⟩
      obtain ⟨_, c1, _, c3, _, _, _, _⟩ := ro_at hcell hm
      have HM := Lib.hid hm
      have HF := Lib.hid (show fewR m = (decide (m.ms.l.length ≤ 12) && decide (m.by_.l.length ≤ 12)) from rfl)
      clear hcell hm
      unfold MR.val at c1
      unfold TR.val at c3
      generalize m.ms.l.length = n1 at *
      generalize m.by_.l.length = n2 at *
      generalize m.ms.A = a1 at *
      generalize m.by_.A = a2 at *
      generalize m.ms.c = d1 at *
      generalize m.by_.c = d2 at *
      by_cases g1 : n1 ≤ 12
      · have j1 : decide ((n1 : Int) > 12) = false := by simp; omega
        by_cases g2 : n2 ≤ 12
        · have j2 : decide ((n2 : Int) > 12) = false := by simp; omega
          go_wp2
          go_roundw
          case rel =>
            refine ⟨i + 1, by go_num, by omega, Lib.hid (fun q x hq hx => ?_), (by first | rfl | trivial)⟩
            by_cases hji : q = i
            · subst hji; rw [HM.out] at hx; injection hx with hx; subst hx; rw [HF.out]; simp [g1, g2]
            · exact HJ.out q x (by omega) hx
          case measure => simp [intOf]; omega
        · have j2 : decide ((n2 : Int) > 12) = true := by simp; omega
          have hv : G = false := by rw [← HG2.out, all_not l _ i m HM.out (by rw [HF.out]; simp [g2])]; rfl
          subst hv
          go_wp2
          go_ret
          exact ⟨rfl, K1.out⟩
      · have j1 : decide ((n1 : Int) > 12) = true := by simp; omega
        have hv : G = false := by rw [← HG2.out, all_not l _ i m HM.out (by rw [HF.out]; simp [g1])]; rfl
        subst hv
        go_wp2
        go_ret
        exact ⟨rfl, K1.out⟩
    · have hie : i = l.length := by omega
      have HG3 : Hid (rl.all fewL = G) := Lib.hid (by rw [← HG2.out, all_pre l _ (fun q x hx => HJ.out q x (by rw [hie]; exact (List.getElem?_eq_some_iff.1 hx).1) hx)]; simp)
      subst hie
      clear HJ HG2
      obtain ⟨wo, hwo⟩ : ∃ X, X = wr := ⟨_, rfl⟩
      subst hwo
      go_wp2
      go_loopw [4] (fun i wr => ∃ j : Nat, i = .int .i64 (j : Int) ∧ j ≤ rl.length ∧ Hid (∀ (q : Nat) (x : Rl), q < j → rl[q]? = some x → fewL x = true) ∧ wr = wo) (fun i _ => rl.length - (intOf i).toNat)
      case atStart => exact ⟨0, rfl, by omega, Lib.hid (fun q x h => by omega), rfl⟩
      case round =>
        obtain ⟨k, rfl, hk, HJ, rfl⟩ := hrel
        by_cases hlt2 : k < rl.length
        · have hkI : (k : Int) < (rl.length : Int) := by omega
          have hk0 : (0 : Int) ≤ (k : Int) := by omega
          obtain ⟨b, o, rfl, hb, hcell⟩ := RU.out.2 (by omega)
          obtain ⟨m, hm⟩ : ∃ m, rl[k]? = some m := ⟨_, List.getElem?_eq_getElem hlt2⟩
          obtain ⟨c0, c1, c2⟩ := rl_at hcell hm
          have HM := Lib.hid hm
          have HF := Lib.hid (show fewL m = (decide (m.s.l.length ≤ 12) && decide (m.t.l.length ≤ 12) && decide (m.e.l.length ≤ 12)) from rfl)
          clear hcell hm
          unfold MR.val at c0 c1
          unfold TR.val at c2
          generalize m.s.l.length = n1 at *
          generalize m.t.l.length = n2 at *
          generalize m.e.l.length = n3 at *
          generalize m.s.A = a1 at *
          generalize m.t.A = a2 at *
          generalize m.e.A = a3 at *
          generalize m.s.c = d1 at *
          generalize m.t.c = d2 at *
          generalize m.e.c = d3 at *
          by_cases g1 : n1 ≤ 12
          · have j1 : decide ((n1 : Int) > 12) = false := by simp; omega
            by_cases g2 : n2 ≤ 12
            · have j2 : decide ((n2 : Int) > 12) = false := by simp; omega
              by_cases g3 : n3 ≤ 12
              · have j3 : decide ((n3 : Int) > 12) = false := by simp; omega
                go_wp2
                go_roundw
                case rel =>
                  refine ⟨k + 1, by go_num, by omega, Lib.hid (fun q x hq hx => ?_), (by first | rfl | trivial)⟩
                  by_cases hji : q = k
                  · subst hji; rw [HM.out] at hx; injection hx with hx; subst hx; rw [HF.out]; simp [g1, g2, g3]
                  · exact HJ.out q x (by omega) hx
                case measure => simp [intOf]; omega
              · have j3 : decide ((n3 : Int) > 12) = true := by simp; omega
                have hv : G = false := by rw [← HG3.out]; exact all_not rl _ k m HM.out (by rw [HF.out]; simp [g3])
                subst hv
                go_wp2
                go_ret
                exact ⟨rfl, K1.out⟩
            · have j2 : decide ((n2 : Int) > 12) = true := by simp; omega
              have hv : G = false := by rw [← HG3.out]; exact all_not rl _ k m HM.out (by rw [HF.out]; simp [g2])
              subst hv
              go_wp2
              go_ret
              exact ⟨rfl, K1.out⟩
          · have j1 : decide ((n1 : Int) > 12) = true := by simp; omega
            have hv : G = false := by rw [← HG3.out]; exact all_not rl _ k m HM.out (by rw [HF.out]; simp [g1])
            subst hv
            go_wp2
            go_ret
            exact ⟨rfl, K1.out⟩
        · have hke : k = rl.length := by omega
          have hv : G = true := by
            rw [← HG3.out]
            exact all_pre rl _ (fun q x hx => HJ.out q x (by rw [hke]; exact (List.getElem?_eq_some_iff.1 hx).1) hx)
          subst hv
          subst hke
          go_wp2
          go_ret
          exact ⟨rfl, K1.out⟩

/-! ### CheckAll -/
theorem firstE_stop {α : Type} (f : α → Int) (l : List α) (i : Nat) (a : α) (h : l[i]? = some a) (hz : ∀ j b, j < i → l[j]? = some b → f b = 0) (G : Int) (hG : firstE f l = G) (hne : f a ≠ 0) : f a = G := by
  rw [← hG, firstE_take f l i a h hz hne]
set_option maxRecDepth 100000 in
set_option maxHeartbeats 2000000 in
theorem checkall_any (p : MR) (w : World) (H : p.In w) : Calls Try.prog 38 #[p.val] w fun e w' => e = .returned (.int .i64 (checkAllB p.l)) ∧ Below w.heap.size w w' := by
  obtain ⟨A, cp, l⟩ := p
  obtain ⟨R, O⟩ := H
  simp only at R O
  have HR := Lib.hid R
  have HO := Lib.hid O
  clear R O
  unfold MR.val checkAllB
  simp only
  by_cases h8 : 8 < l.length
  · rw [if_pos h8]
    have j8 : decide ((l.length : Int) > 8) = true := by simp; omega
    go_enter Try.func38, Try.ntmps38
    go_wp2
    go_ret
    exact ⟨rfl, Below.refl _ _⟩
  rw [if_neg h8]
  obtain ⟨G, hG⟩ : ∃ G, firstE checkB l = G := ⟨_, rfl⟩
  rw [hG]
  have HG := Lib.hid hG
  clear hG
  have j8 : decide ((l.length : Int) > 8) = false := by simp; omega
  go_enter Try.func38, Try.ntmps38
  go_wp2
  clear j8
  go_loopw [11] (fun i wr => ∃ j : Nat, i = .int .i64 (j : Int) ∧ j ≤ l.length ∧ Hid (∀ (q : Nat) (x : Mt), q < j → l[q]? = some x → checkB x = 0) ∧ Hid (Below w.heap.size w wr)) (fun i _ => l.length - (intOf i).toNat)
  case atStart => exact ⟨0, rfl, by omega, Lib.hid (fun q x h => by omega), Lib.hid (Below.refl _ _)⟩
  case round =>
    obtain ⟨i, rfl, hi, HJ, K1⟩ := hrel
    by_cases hlt : i < l.length
    · have hkI : (i : Int) < (l.length : Int) := by omega
      have hk0 : (0 : Int) ≤ (i : Int) := by omega
      obtain ⟨m, hm⟩ : ∃ m, l[i]? = some m := ⟨_, List.getElem?_eq_getElem hlt⟩
      obtain ⟨b, o, rfl, hb, hcell⟩ := (HR.out.below (by omega) K1.out).2 (by omega)
      obtain ⟨m0, m1, m2⟩ := mts_get l i m hm
      have c0 := hcell _ _ m0
      have c1 := hcell _ _ m1
      have c2 := hcell _ _ m2
      rw [← Nat.add_assoc] at c1
      rw [show o + (i * 3 + 1 + 1) = o + i * 3 + 2 by omega] at c2
      have HM := Lib.hid hm
      have HOm := Lib.hid (HO.out m (List.mem_of_getElem? hm))
      have HCk := Lib.hid (fun w => check_any m HOm.out w)
      unfold Mt.val mval at HCk
      clear hcell hm m0 m1 m2
      obtain ⟨E, hE⟩ : ∃ E, checkB m = E := ⟨_, rfl⟩
      rw [hE] at HCk
      have HE := Lib.hid hE
      clear hE
      generalize bs m.n = s0 at *
      generalize bs m.v = s1 at *
      generalize m.op = op at *
      have K2 := Lib.hid (K1.out.alloc K1.out.size (.cells #[.string s0, .int .u8 op, .string s1] 37))
      by_cases he : E = 0
      · have he' : (E != 0) = false := by simp [he]
        go_wp2_with fail
        refine (HCk.out _).mono ?_
        rintro e w2 ⟨rfl, hb2⟩
        have K3 := Lib.hid (below_then K2.out K2.out.size hb2)
        clear hb2
        go_wp2
        go_roundw
        case rel =>
          refine ⟨i + 1, by go_num, by omega, Lib.hid (fun q x hq hx => ?_), K3⟩
          by_cases hji : q = i
          · subst hji; rw [HM.out] at hx; injection hx with hx; subst hx; rw [HE.out]; exact he
          · exact HJ.out q x (by omega) hx
        case measure => simp [intOf]; omega
      · have he' : (E != 0) = true := by rw [bne_iff_ne]; exact he
        have hv : E = G := by rw [← HE.out]; exact firstE_stop checkB l i m HM.out HJ.out G HG.out (by rw [HE.out]; exact he)
        go_wp2_with fail
        refine (HCk.out _).mono ?_
        rintro e w2 ⟨rfl, hb2⟩
        have K3 := Lib.hid (below_then K2.out K2.out.size hb2)
        clear hb2
        go_wp2
        go_ret
        exact ⟨(by first | rfl | rw [hv]), K3.out⟩
    · have hie : i = l.length := by omega
      have hv : G = 0 := by
        rw [← HG.out]
        refine firstE_zero _ _ (fun x hx => ?_)
        obtain ⟨q, hq⟩ := List.mem_iff_getElem?.1 hx
        exact HJ.out q x (by rw [hie]; exact (List.getElem?_eq_some_iff.1 hq).1) hq
      subst hv
      subst hie
      go_wp2
      go_ret
      exact ⟨rfl, K1.out⟩

/-! ### names -/
theorem und158 : Try.prog.underlying 158 = some (.map 9 4) := by kernel_rfl
theorem law9 : Keyed Try.prog 9 := Go.Maps.string_keyed Try.underlying9
theorem zero4 (w : World) : (zeroValue 4).run Try.prog w = .ok (.bool false) w := by kernel_rfl
def klOf (s : List Nat) : Lit := .string (bs s).data.toList
theorem klOf_inj {a b : List Nat} (ha : ∀ x ∈ a, x < 256) (hb : ∀ x ∈ b, x < 256) (h : klOf a = klOf b) : a = b := by
  unfold klOf at h
  injection h with h
  refine bs_inj ha hb ?_
  have h' : (bs a).data = (bs b).data := Array.toList_inj.1 h
  cases hA : bs a
  cases hB : bs b
  rw [hA, hB] at h'
  simp only at h'
  rw [h']
/-- The map holds just the texts that were seen. -/
def SeenD (D : DataW Unit) (seen : List (List Nat)) : Prop := IsMap D ∧ ∀ t, (∀ x ∈ t, x < 256) → D.atKey (klOf t) (.lit (.bool false)) = .lit (.bool (decide (t ∈ seen)))
theorem seen_nil : SeenD (.map []) [] := ⟨Go.Maps.isMap_empty, fun t _ => rfl⟩
theorem isKey_klOf (s : List Nat) : WideAt.IsKeyLit (klOf s) := trivial
theorem seen_put {D : DataW Unit} {seen : List (List Nat)} (h : SeenD D seen) (hs : ∀ x ∈ seen, ∀ y ∈ x, y < 256) {s : List Nat} (h0 : ∀ x ∈ s, x < 256) : SeenD (D.put (klOf s) (.lit (.bool true))) (seen ++ [s]) := by
  refine ⟨h.1.put _ _, fun t ht => ?_⟩
  by_cases e : t = s
  · subst e
    rw [Go.Maps.atKey_put_same h.1 (isKey_klOf _)]
    simp
  · rw [Go.Maps.atKey_put_other (fun e' => e (klOf_inj ht h0 e')), h.2 t ht]
    simp [e]
theorem namesGo_split : ∀ (l : List (List Nat)) (seen : List (List Nat)) (i : Nat), i ≤ l.length → namesGo seen l = (namesGo seen (l.take i) && namesGo (seen ++ l.take i) (l.drop i))
  | [], seen, i, h => by
    have : i = 0 := by simpa using h
    subst this
    simp [namesGo]
  | s :: r, seen, 0, h => by simp [namesGo]
  | s :: r, seen, i + 1, h => by
    simp only [List.take_succ_cons, List.drop_succ_cons, namesGo]
    rw [namesGo_split r (seen ++ [s]) i (by simpa using h)]
    rw [List.append_assoc]
    simp [Bool.and_assoc]
set_option maxRecDepth 100000 in
set_option maxHeartbeats 2000000 in
theorem names_any (p : TR) (w : World) (H : p.In w) : Calls Try.prog 107 #[p.val] w fun e w' => e = .returned (.int .i64 (namesB p.l)) ∧ Below w.heap.size w w' := by
  obtain ⟨A, cp, l⟩ := p
  obtain ⟨R, O⟩ := H
  simp only at R O
  have HR := Lib.hid R
  have HO := Lib.hid O
  clear R O
  unfold TR.val namesB
  simp only
  by_cases h8 : 8 < l.length
  · rw [if_pos h8]
    have j8 : decide ((l.length : Int) > 8) = true := by simp; omega
    go_enter Try.func107, Try.ntmps107
    go_wp2
    go_ret
    exact ⟨rfl, Below.refl _ _⟩
  rw [if_neg h8]
  obtain ⟨G, hG⟩ : ∃ G, namesGo [] l = G := ⟨_, rfl⟩
  rw [hG]
  have HG := Lib.hid hG
  clear hG
  have j8 : decide ((l.length : Int) > 8) = false := by simp; omega
  have hmm := @run_makeMap Try.prog
  have KM := Lib.hid ((Below.refl w.heap.size w).alloc (Nat.le_refl _) (.map #[] 0))
  go_enter Try.func107, Try.ntmps107
  go_wp2
  clear j8
  go_loopw [12] (fun i wr => ∃ j : Nat, i = .int .i64 (j : Int) ∧ j ≤ l.length ∧ Hid (∃ D : DataW Unit, wr.ownsMap Try.prog 9 (plainElem Try.prog 4) w.heap.size j D ∧ SeenD D (l.take j)) ∧ Hid (namesGo [] (l.take j) = true) ∧ Hid (Below w.heap.size w wr)) (fun i _ => l.length - (intOf i).toNat)
  case atStart => exact ⟨0, rfl, by omega, Lib.hid ⟨_, World.ownsMap_made _ _ _ _, seen_nil⟩, Lib.hid rfl, KM⟩
  case round =>
    obtain ⟨i, rfl, hi, HD, HN, K1⟩ := hrel
    by_cases hlt : i < l.length
    · have hkI : (i : Int) < (l.length : Int) := by omega
      have hk0 : (0 : Int) ≤ (i : Int) := by omega
      obtain ⟨m, hm⟩ : ∃ m, l[i]? = some m := ⟨_, List.getElem?_eq_getElem hlt⟩
      obtain ⟨b, o, rfl, hb, hcell⟩ := (HR.out.below (by omega) K1.out).2 (by omega)
      have c0 := hcell i _ (flat_one tx (fun s => .string (bs s)) (fun _ => rfl) l i m hm)
      have hOm := HO.out m (List.mem_of_getElem? hm)
      have HOm := Lib.hid hOm
      have hkey : keyOf Try.prog 9 (.string (bs m)) = some (klOf m) := Go.WideMaps.keyOf_string_mk Try.underlying9 (by rw [bs_size]; exact hOm.2)
      obtain ⟨D, hown, hD⟩ := HD.out
      have HSD := Lib.hid hD
      have hdrop : l.drop i = m :: l.drop (i + 1) := by
        have h' := List.getElem?_eq_getElem hlt
        rw [hm] at h'
        injection h' with h'
        rw [List.drop_eq_getElem_cons hlt, ← h']
      have hsp : G = (nameB m && !(decide (m ∈ l.take i)) && namesGo (l.take i ++ [m]) (l.drop (i + 1))) := by
        rw [← HG.out, namesGo_split l [] i (by omega), HN.out, hdrop, List.nil_append]
        simp only [namesGo, Bool.true_and]
        cases nameB m <;> cases decide (m ∈ l.take i) <;> rfl
      have HSP := Lib.hid hsp
      have htk : l.take (i + 1) = l.take i ++ [m] := by rw [List.take_add_one, hm]; rfl
      have HTK := Lib.hid htk
      clear hcell hD hOm hdrop hsp htk HD hm
      obtain ⟨sn, hsn⟩ : ∃ x, decide (m ∈ l.take i) = x := ⟨_, rfl⟩
      obtain ⟨nb, hnb⟩ : ∃ x, nameB m = x := ⟨_, rfl⟩
      have HSN := Lib.hid hsn
      have HNB := Lib.hid hnb
      have HNA := Lib.hid (fun w => name_any m HOm.out.1 HOm.out.2 w)
      rw [hnb] at HNA
      have HAT : Hid (D.atKey (klOf m) (.lit (.bool false)) = .lit (.bool sn)) := Lib.hid (by rw [HSD.out.2 m HOm.out.1, hsn])
      clear hsn hnb
      cases sn with
      | true =>
        have hv : G = false := by rw [HSP.out, HSN.out]; simp
        subst hv
        go_wp2_with (at_lookup; refine wpList_lookup_bool _ rfl _ _ 158 rfl 9 4 law9 und158 Try.underlying4 (zero4 _) w.heap.size i D rfl hown _ _ rfl hkey ?_; intro c hat; obtain rfl : c = true := (by rw [HAT.out] at hat; injection hat with hat; injection hat with hat; exact hat.symm))
        go_ret
        exact ⟨rfl, K1.out⟩
      | false =>
        cases nb with
        | false =>
          have hv : G = false := by rw [HSP.out, HNB.out]; simp
          subst hv
          go_wp2_with (first | (at_lookup; refine wpList_lookup_bool _ rfl _ _ 158 rfl 9 4 law9 und158 Try.underlying4 (zero4 _) w.heap.size i D rfl hown _ _ rfl hkey ?_; intro c hat; obtain rfl : c = false := (by rw [HAT.out] at hat; injection hat with hat; injection hat with hat; exact hat.symm)) | (go_at_call 64; refine (HNA.out _).mono ?_; rintro e w2 ⟨rfl, rfl⟩))
          go_ret
          exact ⟨rfl, K1.out⟩
        | true =>
          go_wp2_with (first | (at_lookup; refine wpList_lookup_bool _ rfl _ _ 158 rfl 9 4 law9 und158 Try.underlying4 (zero4 _) w.heap.size i D rfl hown _ _ rfl hkey ?_; intro c hat; obtain rfl : c = false := (by rw [HAT.out] at hat; injection hat with hat; injection hat with hat; exact hat.symm)) | (go_at_call 64; refine (HNA.out _).mono ?_; rintro e w2 ⟨rfl, rfl⟩) | (at_mapUpdate; refine wpList_mapUpdate_own _ rfl _ _ _ 158 rfl 9 4 law9 und158 _ w.heap.size i D rfl hown (by unfold maxLen; omega) _ _ _ rfl rfl hkey _ [] (plainElem_bool Try.underlying4 true) ?_; intro w1 hown1 hgrow1))
          go_roundw
          case rel =>
            refine ⟨i + 1, by go_num, by omega, Lib.hid ⟨_, hown1, ?_⟩, Lib.hid ?_, Lib.hid (K1.out.grown hgrow1 K1.out.size (fun j hj => by cases hj; exact Nat.le_refl _))⟩
            · rw [HTK.out]
              exact seen_put HSD.out (fun x hx => (HO.out x (List.mem_of_mem_take hx)).1) HOm.out.1
            · rw [HTK.out, namesGo_split (l.take i ++ [m]) [] i (by simp; omega)]
              have e1 : (l.take i ++ [m]).take i = l.take i := by rw [List.take_append_of_le_length (by simp; omega), List.take_take]; simp
              have e2 : (l.take i ++ [m]).drop i = [m] := by rw [List.drop_append_of_le_length (by simp; omega)]; simp
              rw [e1, e2, HN.out, List.nil_append]
              simp [namesGo, HNB.out, of_decide_eq_false HSN.out]
          case measure => simp [intOf]; omega
    · have hie : i = l.length := by omega
      have hv : G = true := by
        rw [← HG.out, ← HN.out, hie, List.take_length]
      subst hv
      subst hie
      go_wp2
      go_ret
      exact ⟨rfl, K1.out⟩
end Go.Proofs.Ytnidjfmbbfoheaa

/- WALKS: one, rule, Check. -/
namespace Go.Proofs.Ytnidjfmbbfoheaa
set_option linter.unusedVariables false
set_option linter.unusedSimpArgs false
open Go.RowKit Go.BigFrame

theorem bne_no {x : Int} (h : x = 0) : (x != 0) = false := by simp [h]
theorem bne_is {x : Int} (h : ¬ x = 0) : (x != 0) = true := by rw [bne_iff_ne]; exact h
set_option maxRecDepth 100000 in
set_option maxHeartbeats 2000000 in
theorem ronea_any (r : Ro) (w : World) (H : r.In w) : Calls Try.prog 75 #[.agg r.cells.toArray] w fun e w' => e = .returned (.int .i64 (routeB r)) ∧ Below w.heap.size w w' := by
  obtain ⟨par, ms, cont, bz, rc, wt, iv, rp⟩ := r
  obtain ⟨H1, H2, H3⟩ := H
  unfold routeB Ro.cells MR.val TR.val
  simp only at H1 H2 H3 ⊢
  have M1 : Hid (∀ X, Below w.heap.size w X → Calls Try.prog 38 #[.slice ms.A ms.l.length ms.c] X fun e w' => e = .returned (.int .i64 (checkAllB ms.l)) ∧ Below X.heap.size X w') := Lib.hid (fun X hX => checkall_any ms X (H1.below hX))
  have M2 : Hid (∀ X, Below w.heap.size w X → Calls Try.prog 107 #[.slice bz.A bz.l.length bz.c] X fun e w' => e = .returned (.int .i64 (namesB bz.l)) ∧ Below X.heap.size X w') := Lib.hid (fun X hX => names_any bz X (H2.below hX))
  have M3 : Hid (∀ X, Calls Try.prog 64 #[.string (bs rc)] X fun e w' => e = .returned (.bool (nameB rc)) ∧ w' = X) := Lib.hid (fun X => name_any rc H3.1 H3.2 X)
  clear H1 H2 H3
  generalize checkAllB ms.l = E1 at *
  generalize namesB bz.l = E2 at *
  generalize nameB rc = nb at *
  generalize ms.l.length = n1 at *
  generalize bz.l.length = n2 at *
  generalize ms.A = mA at *
  generalize bz.A = bA at *
  generalize ms.c = mc at *
  generalize bz.c = bc at *
  generalize bs rc = s at *
  have W1 := Lib.hid (fun X => within_any wt 0 X)
  have W2 := Lib.hid (fun X => within_any iv 1 X)
  have W3 := Lib.hid (fun X => within_any rp 1 X)
  generalize withinB wt 0 = a1 at *
  generalize withinB iv 1 = a2 at *
  generalize withinB rp 1 = a3 at *
  obtain ⟨G, hG⟩ : ∃ G, (if E1 ≠ 0 then E1 else if E2 ≠ 0 then E2 else if nb = false then (6 : Int) else if (a1 && a2 && a3) = true then 0 else 13) = G := ⟨_, rfl⟩
  rw [hG]
  have HG := Lib.hid hG
  clear hG
  have K1 := Lib.hid ((Below.refl w.heap.size w).alloc (Nat.le_refl _) (.cells #[.int .i64 par, .slice mA n1 mc, .bool cont, .slice bA n2 bc, .string s, .int .i64 wt, .int .i64 iv, .int .i64 rp] 77))
  have BB := Lib.hid (Blk.new w 77 #[.int .i64 par, .slice mA n1 mc, .bool cont, .slice bA n2 bc, .string s, .int .i64 wt, .int .i64 iv, .int .i64 rp])
  have hlt : w.heap.size < (w.alloc (.cells #[.int .i64 par, .slice mA n1 mc, .bool cont, .slice bA n2 bc, .string s, .int .i64 wt, .int .i64 iv, .int .i64 rp] 77)).heap.size := by simp
  go_enter Try.func75, Try.ntmps75
  go_upto_region 1 with fail
  generalize w.alloc (.cells #[.int .i64 par, .slice mA n1 mc, .bool cont, .slice bA n2 bc, .string s, .int .i64 wt, .int .i64 iv, .int .i64 rp] 77) = w1 at *
  obtain ⟨bx, hbx⟩ : ∃ b, w.heap.size = b := ⟨_, rfl⟩
  have HBX := Lib.hid hbx
  rw [hbx] at hlt
  have BX : Hid (Blk w1 bx 77 #[.int .i64 par, .slice mA n1 mc, .bool cont, .slice bA n2 bc, .string s, .int .i64 wt, .int .i64 iv, .int .i64 rp]) := Lib.hid (by rw [← hbx]; exact BB.out)
  rw [hbx]
  clear hbx BB
  have HB : Hid (∀ X, Below w1.heap.size w1 X → X.cell? ⟨bx, 1, none⟩ = some (.slice mA n1 mc) ∧ X.cell? ⟨bx, 3, none⟩ = some (.slice bA n2 bc) ∧ X.cell? ⟨bx, 4, none⟩ = some (.string s) ∧ X.cell? ⟨bx, 5, none⟩ = some (.int .i64 wt) ∧ X.cell? ⟨bx, 6, none⟩ = some (.int .i64 iv) ∧ X.cell? ⟨bx, 7, none⟩ = some (.int .i64 rp)) := Lib.hid (fun X hX => by
    have h := BX.out.below hX hlt
    exact ⟨h.cell 1, h.cell 3, h.cell 4, h.cell 5, h.cell 6, h.cell 7⟩)
  have L1 := Lib.hid (Below.refl w1.heap.size w1)
  obtain ⟨z1, z3, z4, z5, z6, z7⟩ := HB.out w1 L1.out
  by_cases e1 : E1 = 0
  · have f1 := bne_no e1
    go_wp2_with fail
    refine (M1.out _ (below_then K1.out K1.out.size L1.out)).mono ?_
    rintro e x2 ⟨rfl, hb⟩
    have L2 := Lib.hid (below_then L1.out L1.out.size hb)
    clear hb z1 z3 z4 z5 z6 z7
    obtain ⟨z1, z3, z4, z5, z6, z7⟩ := HB.out _ L2.out
    by_cases e2 : E2 = 0
    · have f2 := bne_no e2
      go_wp2_with fail
      refine (M2.out _ (below_then K1.out K1.out.size L2.out)).mono ?_
      rintro e x3 ⟨rfl, hb⟩
      have L3 := Lib.hid (below_then L2.out L2.out.size hb)
      clear hb z1 z3 z4 z5 z6 z7
      obtain ⟨z1, z3, z4, z5, z6, z7⟩ := HB.out _ L3.out
      cases nb with
      | false =>
        obtain rfl : G = 6 := by rw [← HG.out]; simp [e1, e2]
        go_wp2_with fail
        refine (M3.out _).mono ?_
        rintro e w9 ⟨rfl, rfl⟩
        go_wp2
        go_ret
        exact ⟨rfl, below_then K1.out K1.out.size L3.out⟩
      | true =>
        go_wp2_with fail
        refine (M3.out _).mono ?_
        rintro e w9 ⟨rfl, rfl⟩
        go_wp2_with fail
        refine (W1.out _).mono ?_
        rintro e x4 ⟨rfl, hb⟩
        have L4 := Lib.hid (below_then L3.out L3.out.size hb)
        clear hb z1 z3 z4 z5 z6 z7
        obtain ⟨z1, z3, z4, z5, z6, z7⟩ := HB.out _ L4.out
        cases a1 with
        | false =>
          obtain rfl : G = 13 := by rw [← HG.out]; simp [e1, e2]
          go_wp2
          go_ret
          exact ⟨rfl, below_then K1.out K1.out.size L4.out⟩
        | true =>
          go_wp2_with fail
          refine (W2.out _).mono ?_
          rintro e x5 ⟨rfl, hb⟩
          have L5 := Lib.hid (below_then L4.out L4.out.size hb)
          clear hb z1 z3 z4 z5 z6 z7
          obtain ⟨z1, z3, z4, z5, z6, z7⟩ := HB.out _ L5.out
          cases a2 with
          | false =>
            obtain rfl : G = 13 := by rw [← HG.out]; simp [e1, e2]
            go_wp2
            go_ret
            exact ⟨rfl, below_then K1.out K1.out.size L5.out⟩
          | true =>
            go_wp2_with fail
            refine (W3.out _).mono ?_
            rintro e x6 ⟨rfl, hb⟩
            have L6 := Lib.hid (below_then L5.out L5.out.size hb)
            clear hb z1 z3 z4 z5 z6 z7
            obtain ⟨z1, z3, z4, z5, z6, z7⟩ := HB.out _ L6.out
            cases a3 with
            | false =>
              obtain rfl : G = 13 := by rw [← HG.out]; simp [e1, e2]
              go_wp2
              go_ret
              exact ⟨rfl, below_then K1.out K1.out.size L6.out⟩
            | true =>
              obtain rfl : G = 0 := by rw [← HG.out]; simp [e1, e2]
              go_wp2
              go_ret
              exact ⟨rfl, below_then K1.out K1.out.size L6.out⟩
    · have f2 := bne_is e2
      obtain rfl : G = E2 := by rw [← HG.out]; simp [e1, e2]
      go_wp2_with fail
      refine (M2.out _ (below_then K1.out K1.out.size L2.out)).mono ?_
      rintro e x3 ⟨rfl, hb⟩
      have L3 := Lib.hid (below_then L2.out L2.out.size hb)
      clear hb z1 z3 z4 z5 z6 z7
      obtain ⟨z1, z3, z4, z5, z6, z7⟩ := HB.out _ L3.out
      go_wp2
      go_ret
      exact ⟨rfl, below_then K1.out K1.out.size L3.out⟩
  · have f1 := bne_is e1
    obtain rfl : G = E1 := by rw [← HG.out]; simp [e1]
    go_wp2_with fail
    refine (M1.out _ (below_then K1.out K1.out.size L1.out)).mono ?_
    rintro e x2 ⟨rfl, hb⟩
    have L2 := Lib.hid (below_then L1.out L1.out.size hb)
    clear hb z1 z3 z4 z5 z6 z7
    obtain ⟨z1, z3, z4, z5, z6, z7⟩ := HB.out _ L2.out
    go_wp2
    go_ret
    exact ⟨rfl, below_then K1.out K1.out.size L2.out⟩
set_option maxRecDepth 100000 in
set_option maxHeartbeats 2000000 in
theorem rule_any (r : Rl) (w : World) (H : r.In w) : Calls Try.prog 76 #[.agg r.cells.toArray] w fun e w' => e = .returned (.int .i64 (ruleB r)) ∧ Below w.heap.size w w' := by
  obtain ⟨ms, mt, me⟩ := r
  obtain ⟨H1, H2, H3⟩ := H
  unfold ruleB Rl.cells MR.val TR.val
  simp only at H1 H2 H3 ⊢
  have M1 : Hid (∀ X, Below w.heap.size w X → Calls Try.prog 38 #[.slice ms.A ms.l.length ms.c] X fun e w' => e = .returned (.int .i64 (checkAllB ms.l)) ∧ Below X.heap.size X w') := Lib.hid (fun X hX => checkall_any ms X (H1.below hX))
  have M2 : Hid (∀ X, Below w.heap.size w X → Calls Try.prog 38 #[.slice mt.A mt.l.length mt.c] X fun e w' => e = .returned (.int .i64 (checkAllB mt.l)) ∧ Below X.heap.size X w') := Lib.hid (fun X hX => checkall_any mt X (H2.below hX))
  have M3 : Hid (∀ X, Below w.heap.size w X → Calls Try.prog 107 #[.slice me.A me.l.length me.c] X fun e w' => e = .returned (.int .i64 (namesB me.l)) ∧ Below X.heap.size X w') := Lib.hid (fun X hX => names_any me X (H3.below hX))
  clear H1 H2 H3
  generalize checkAllB ms.l = E1 at *
  generalize checkAllB mt.l = E2 at *
  generalize namesB me.l = E3 at *
  generalize ms.l.length = n1 at *
  generalize mt.l.length = n2 at *
  generalize me.l.length = n3 at *
  generalize ms.A = sA at *
  generalize mt.A = tA at *
  generalize me.A = eA at *
  generalize ms.c = sc at *
  generalize mt.c = tc at *
  generalize me.c = ec at *
  obtain ⟨G, hG⟩ : ∃ G, (if E1 ≠ 0 then E1 else if E2 ≠ 0 then E2 else E3) = G := ⟨_, rfl⟩
  rw [hG]
  have HG := Lib.hid hG
  clear hG
  have K1 := Lib.hid ((Below.refl w.heap.size w).alloc (Nat.le_refl _) (.cells #[.slice sA n1 sc, .slice tA n2 tc, .slice eA n3 ec] 47))
  have BB := Lib.hid (Blk.new w 47 #[.slice sA n1 sc, .slice tA n2 tc, .slice eA n3 ec])
  have hlt : w.heap.size < (w.alloc (.cells #[.slice sA n1 sc, .slice tA n2 tc, .slice eA n3 ec] 47)).heap.size := by simp
  go_enter Try.func76, Try.ntmps76
  go_upto_region 1 with fail
  generalize w.alloc (.cells #[.slice sA n1 sc, .slice tA n2 tc, .slice eA n3 ec] 47) = w1 at *
  obtain ⟨bx, hbx⟩ : ∃ b, w.heap.size = b := ⟨_, rfl⟩
  have HBX := Lib.hid hbx
  rw [hbx] at hlt
  have BX : Hid (Blk w1 bx 47 #[.slice sA n1 sc, .slice tA n2 tc, .slice eA n3 ec]) := Lib.hid (by rw [← hbx]; exact BB.out)
  rw [hbx]
  clear hbx BB
  have HB : Hid (∀ X, Below w1.heap.size w1 X → X.cell? ⟨bx, 0, none⟩ = some (.slice sA n1 sc) ∧ X.cell? ⟨bx, 1, none⟩ = some (.slice tA n2 tc) ∧ X.cell? ⟨bx, 2, none⟩ = some (.slice eA n3 ec)) := Lib.hid (fun X hX => by
    have h := BX.out.below hX hlt
    exact ⟨h.cell 0, h.cell 1, h.cell 2⟩)
  have L1 := Lib.hid (Below.refl w1.heap.size w1)
  obtain ⟨z0, z1, z2⟩ := HB.out w1 L1.out
  by_cases e1 : E1 = 0
  · have f1 := bne_no e1
    go_wp2_with fail
    refine (M1.out _ (below_then K1.out K1.out.size L1.out)).mono ?_
    rintro e x2 ⟨rfl, hb⟩
    have L2 := Lib.hid (below_then L1.out L1.out.size hb)
    clear hb z0 z1 z2
    obtain ⟨z0, z1, z2⟩ := HB.out _ L2.out
    by_cases e2 : E2 = 0
    · have f2 := bne_no e2
      go_wp2_with fail
      refine (M2.out _ (below_then K1.out K1.out.size L2.out)).mono ?_
      rintro e x3 ⟨rfl, hb⟩
      have L3 := Lib.hid (below_then L2.out L2.out.size hb)
      clear hb z0 z1 z2
      obtain ⟨z0, z1, z2⟩ := HB.out _ L3.out
      obtain rfl : G = E3 := by rw [← HG.out]; simp [e1, e2]
      go_wp2_with fail
      refine (M3.out _ (below_then K1.out K1.out.size L3.out)).mono ?_
      rintro e x4 ⟨rfl, hb⟩
      have L4 := Lib.hid (below_then L3.out L3.out.size hb)
      clear hb z0 z1 z2
      obtain ⟨z0, z1, z2⟩ := HB.out _ L4.out
      go_wp2
      go_ret
      exact ⟨rfl, below_then K1.out K1.out.size L4.out⟩
    · have f2 := bne_is e2
      obtain rfl : G = E2 := by rw [← HG.out]; simp [e1, e2]
      go_wp2_with fail
      refine (M2.out _ (below_then K1.out K1.out.size L2.out)).mono ?_
      rintro e x3 ⟨rfl, hb⟩
      have L3 := Lib.hid (below_then L2.out L2.out.size hb)
      clear hb z0 z1 z2
      obtain ⟨z0, z1, z2⟩ := HB.out _ L3.out
      go_wp2
      go_ret
      exact ⟨rfl, below_then K1.out K1.out.size L3.out⟩
  · have f1 := bne_is e1
    obtain rfl : G = E1 := by rw [← HG.out]; simp [e1]
    go_wp2_with fail
    refine (M1.out _ (below_then K1.out K1.out.size L1.out)).mono ?_
    rintro e x2 ⟨rfl, hb⟩
    have L2 := Lib.hid (below_then L1.out L1.out.size hb)
    clear hb z0 z1 z2
    obtain ⟨z0, z1, z2⟩ := HB.out _ L2.out
    go_wp2
    go_ret
    exact ⟨rfl, below_then K1.out K1.out.size L2.out⟩
end Go.Proofs.Ytnidjfmbbfoheaa

/- WALKS: route.Check. -/
namespace Go.Proofs.Ytnidjfmbbfoheaa
set_option linter.unusedVariables false
set_option linter.unusedSimpArgs false
open Go.RowKit Go.BigFrame

theorem parsOk_all {l : List Ro} (h : ∀ (q : Nat) (x : Ro), l[q]? = some x → parOk q x.par = true) : parsOk l = true := by
  refine List.all_eq_true.2 fun i hi => ?_
  have hi' := List.mem_range.1 hi
  rw [List.getElem?_eq_getElem hi']
  exact h i _ (List.getElem?_eq_getElem hi')
theorem parsOk_not {l : List Ro} {q : Nat} {x : Ro} (h : l[q]? = some x) (hn : parOk q x.par = false) : parsOk l = false := by
  cases hp : parsOk l with
  | false => rfl
  | true =>
    have := List.all_eq_true.1 hp q (List.mem_range.2 (List.getElem?_eq_some_iff.1 h).1)
    rw [h] at this
    simp only at this
    rw [hn] at this
    cases this
set_option maxRecDepth 100000 in
set_option maxHeartbeats 4000000 in
theorem check47_any (c : Cf) (w : World) (H : c.In w) : Calls Try.prog 47 #[c.val] w fun e w' => e = .returned (.int .i64 (cfB c)) ∧ Below w.heap.size w w' := by
  have K1 := Lib.hid ((Below.refl w.heap.size w).alloc (Nat.le_refl _) (.cells c.cells 70))
  have HC := Lib.hid (H.below ((Below.refl w.heap.size w).alloc (Nat.le_refl _) (.cells c.cells 70)))
  have BB := Lib.hid (Blk.new w 70 c.cells)
  have hlt : w.heap.size < (w.alloc (.cells c.cells 70)).heap.size := by simp
  obtain ⟨G, hG⟩ : ∃ G, cfB c = G := ⟨_, rfl⟩
  rw [hG]
  unfold cfB at hG
  have HG := Lib.hid hG
  clear hG H
  obtain ⟨A, cp, l, B, cq, rl, pt, rs⟩ := c
  have RT := Lib.hid HC.out.rt
  have RU := Lib.hid HC.out.ru
  have RO := Lib.hid HC.out.ro
  have RR := Lib.hid HC.out.rr
  clear HC
  unfold Cf.val
  simp only [Cf.cells] at K1 BB RT RU RO RR HG hlt ⊢
  go_enter Try.func47, Try.ntmps47
  go_upto_region 1 with fail
  generalize w.alloc (.cells #[.slice A l.length cp, .slice B rl.length cq, .int .i64 pt, .int .i64 rs] 70) = w1 at *
  obtain ⟨bx, hbx⟩ : ∃ b, w.heap.size = b := ⟨_, rfl⟩
  have BX : Hid (Blk w1 bx 70 #[.slice A l.length cp, .slice B rl.length cq, .int .i64 pt, .int .i64 rs]) := Lib.hid (by rw [← hbx]; exact BB.out)
  rw [hbx] at hlt
  rw [hbx]
  clear hbx BB
  have HB : Hid (∀ X, Below w1.heap.size w1 X → X.cell? ⟨bx, 0, none⟩ = some (.slice A l.length cp) ∧ X.cell? ⟨bx, 1, none⟩ = some (.slice B rl.length cq) ∧ X.cell? ⟨bx, 2, none⟩ = some (.int .i64 pt) ∧ X.cell? ⟨bx, 3, none⟩ = some (.int .i64 rs)) := Lib.hid (fun X hX => by
    have h := BX.out.below hX hlt
    exact ⟨h.cell 0, h.cell 1, h.cell 2, h.cell 3⟩)
  have L1 := Lib.hid (Below.refl w1.heap.size w1)
  obtain ⟨z0, z1, z2, z3⟩ := HB.out w1 L1.out
  by_cases h1 : 16 < l.length
  · have j1 : decide ((l.length : Int) > 16) = true := by simp; omega
    obtain rfl : G = 5 := by rw [← HG.out, if_pos (.inl h1)]
    go_wp2
    go_ret
    exact ⟨rfl, K1.out⟩
  have j1 : decide ((l.length : Int) > 16) = false := by simp; omega
  by_cases h2 : 8 < rl.length
  · have j2 : decide ((rl.length : Int) > 8) = true := by simp; omega
    obtain rfl : G = 5 := by rw [← HG.out, if_pos (.inr h2)]
    go_wp2
    go_ret
    exact ⟨rfl, K1.out⟩
  have j2 : decide ((rl.length : Int) > 8) = false := by simp; omega
  rw [if_neg (show ¬ (16 < l.length ∨ 8 < rl.length) by omega)] at HG
  by_cases h3 : l.length = 0
  · have j3 : ((l.length : Int) == 0) = true := beq_iff_eq.2 (by omega)
    have hl0 : l = [] := List.length_eq_zero_iff.1 h3
    obtain rfl : G = 10 := by rw [← HG.out, hl0]; rfl
    go_wp2
    go_ret
    exact ⟨rfl, K1.out⟩
  have j3 : ((l.length : Int) == 0) = false := beq_eq_false_iff_ne.2 (by omega)
  obtain ⟨m, hm⟩ : ∃ m, l[0]? = some m := ⟨_, List.getElem?_eq_getElem (by omega)⟩
  obtain ⟨b, o, rfl, hb, hcell⟩ := RT.out.2 (by omega)
  have hat := ro_at hcell hm
  rw [Nat.zero_mul, Nat.add_zero] at hat
  obtain ⟨_, c1, _⟩ := hat
  have hi0 : (0 : Int) < (l.length : Int) := by omega
  have hhead : headOk l = m.ms.l.isEmpty := by
    cases l with
    | nil => simp at h3
    | cons r0 rest => simp at hm; subst hm; rfl
  rw [hhead] at HG
  clear hhead hm
  unfold MR.val at c1
  obtain ⟨n0, hn0⟩ : ∃ n, m.ms.l.length = n := ⟨_, rfl⟩
  rw [hn0] at c1
  by_cases h4 : 0 < n0
  · have j4 : decide ((n0 : Int) > 0) = true := by simp; omega
    obtain rfl : G = 10 := by
      rw [← HG.out, if_pos]
      rw [List.isEmpty_eq_false_iff]
      intro e
      rw [e] at hn0
      simp at hn0
      omega
    go_wp2
    go_ret
    exact ⟨rfl, K1.out⟩
  have j4 : decide ((n0 : Int) > 0) = false := by simp; omega
  rw [if_neg (by
    have : m.ms.l = [] := List.length_eq_zero_iff.1 (by omega)
    rw [this]
    decide)] at HG
  go_wp2
  clear j1 j2 j3 j4 c1 hn0 hcell hb h4 z1 z2 z3 hi0
  go_loopw [37] (fun i wr => ∃ j : Nat, i = .int .i64 (j : Int) ∧ j ≤ l.length ∧ Hid (∀ (q : Nat) (x : Ro), q < j → l[q]? = some x → parOk q x.par = true) ∧ Hid (Below w1.heap.size w1 wr)) (fun i _ => l.length - (intOf i).toNat)
  case atStart => exact ⟨0, rfl, by omega, Lib.hid (fun q x h => by omega), Lib.hid (Below.refl _ _)⟩
  case round =>
    obtain ⟨i, rfl, hi, HJ, K2⟩ := hrel
    clear z0
    by_cases hlt2 : i < l.length
    · have hkI : (i : Int) < (l.length : Int) := by omega
      have hk0 : (0 : Int) ≤ (i : Int) := by omega
      obtain ⟨m, hm⟩ : ∃ m, l[i]? = some m := ⟨_, List.getElem?_eq_getElem hlt2⟩
      obtain ⟨b', o', e1, hb, hcell⟩ := (RT.out.below (by omega) K2.out).2 (by omega)
      injection e1 with e1
      injection e1 with e1 e2
      subst e1 e2
      obtain ⟨c0, c1, c2, c3, c4, c5, c6, c7⟩ := ro_at hcell hm
      have HM := Lib.hid hm
      obtain ⟨ok, hok⟩ : ∃ x, parOk i m.par = x := ⟨_, rfl⟩
      have HOK := Lib.hid hok
      clear hcell hm hb
      obtain ⟨par, ms, cont, bz, rc, wt, iv, rp⟩ := m
      unfold MR.val at c1
      unfold TR.val at c3
      simp only at c0 c1 c2 c3 c4 c5 c6 c7
      simp only at hok
      have HM' : Hid (parOk i par = ok) := Lib.hid hok
      clear hok
      have KA := Lib.hid (K2.out.alloc K2.out.size (.cells #[.int .i64 par, .slice ms.A ms.l.length ms.c, .bool cont, .slice bz.A bz.l.length bz.c, .string (bs rc), .int .i64 wt, .int .i64 iv, .int .i64 rp] 77))
      by_cases hi0 : i = 0
      · subst hi0
        simp only [Nat.zero_mul, Nat.add_zero] at c0 c1 c2 c3 c4 c5 c6 c7
        by_cases hp : par = -1
        · have f1 : (par != -1) = false := by simp [hp]
          have HP := Lib.hid hp
          clear hp
          clear HOK
          generalize ms.l.length = n1 at *
          generalize bz.l.length = n2 at *
          generalize ms.A = mA at *
          generalize bz.A = bA at *
          generalize ms.c = mc at *
          generalize bz.c = bc at *
          generalize bs rc = s at *
          go_wp2
          go_roundw
          case rel =>
            refine ⟨0 + 1, by go_num, by omega, Lib.hid (fun q x hq hx => ?_), KA⟩
            by_cases hji : q = 0
            · subst hji; rw [HM.out] at hx; injection hx with hx; subst hx; simp [parOk, HP.out]
            · exact HJ.out q x (by omega) hx
          case measure => simp [intOf]; omega
        · have f1 : (par != -1) = true := by rw [bne_iff_ne]; exact hp
          obtain rfl : G = 10 := by rw [← HG.out, if_pos (parsOk_not HM.out (by simp [parOk, hp]))]
          clear HOK HM HG
          generalize ms.l.length = n1 at *
          generalize bz.l.length = n2 at *
          generalize ms.A = mA at *
          generalize bz.A = bA at *
          generalize ms.c = mc at *
          generalize bz.c = bc at *
          generalize bs rc = s at *
          go_wp2
          go_ret
          exact ⟨rfl, below_then K1.out K1.out.size KA.out⟩
      · have f0 : ((i : Int) == 0) = false := beq_eq_false_iff_ne.2 (by omega)
        have f2 : decide ((i : Int) > 0) = true := by simp; omega
        by_cases hp : par < 0
        · have f3 : decide (par < 0) = true := by simp; omega
          obtain rfl : G = 10 := by rw [← HG.out, if_pos (parsOk_not HM.out (by simp [parOk, hi0]; omega))]
          clear HOK HM HG
          generalize ms.l.length = n1 at *
          generalize bz.l.length = n2 at *
          generalize ms.A = mA at *
          generalize bz.A = bA at *
          generalize ms.c = mc at *
          generalize bz.c = bc at *
          generalize bs rc = s at *
          go_wp2
          go_ret
          exact ⟨rfl, below_then K1.out K1.out.size KA.out⟩
        · have f3 : decide (par < 0) = false := by simp; omega
          by_cases hq : par ≥ (i : Int)
          · have f4 : decide (par ≥ (i : Int)) = true := by simp; omega
            obtain rfl : G = 10 := by rw [← HG.out, if_pos (parsOk_not HM.out (by simp [parOk, hi0]; omega))]
            clear HOK HM HG
            generalize ms.l.length = n1 at *
            generalize bz.l.length = n2 at *
            generalize ms.A = mA at *
            generalize bz.A = bA at *
            generalize ms.c = mc at *
            generalize bz.c = bc at *
            generalize bs rc = s at *
            go_wp2
            go_ret
            exact ⟨rfl, below_then K1.out K1.out.size KA.out⟩
          · have f4 : decide (par ≥ (i : Int)) = false := by simp; omega
            clear HOK
            generalize ms.l.length = n1 at *
            generalize bz.l.length = n2 at *
            generalize ms.A = mA at *
            generalize bz.A = bA at *
            generalize ms.c = mc at *
            generalize bz.c = bc at *
            generalize bs rc = s at *
            go_wp2
            go_roundw
            case rel =>
              refine ⟨i + 1, by go_num, by omega, Lib.hid (fun q x hq hx => ?_), KA⟩
              by_cases hji : q = i
              · subst hji; rw [HM.out] at hx; injection hx with hx; subst hx; simp [parOk, hi0]; omega
              · exact HJ.out q x (by omega) hx
            case measure => simp [intOf]; omega
    · have hie : i = l.length := by omega
      rw [if_neg (by rw [parsOk_all (fun q x hx => HJ.out q x (by rw [hie]; exact (List.getElem?_eq_some_iff.1 hx).1) hx)]; decide)] at HG
      subst hie
      clear HJ
      obtain ⟨wa, rfl⟩ : ∃ x, x = wr := ⟨wr, rfl⟩
      obtain ⟨z0, z1, z2, z3⟩ := HB.out wa K2.out
      go_wp2
      clear z1 z2 z3 z0
      go_loopw [68] (fun i wr => ∃ j : Nat, i = .int .i64 (j : Int) ∧ j ≤ l.length ∧ Hid (∀ (q : Nat) (x : Ro), q < j → l[q]? = some x → routeB x = 0) ∧ Hid (Below w1.heap.size w1 wr)) (fun i _ => l.length - (intOf i).toNat)
      case atStart => exact ⟨0, rfl, by omega, Lib.hid (fun q x h => by omega), K2⟩
      case round =>
        obtain ⟨i, rfl, hi, HJ, K3⟩ := hrel
        by_cases hlt2 : i < l.length
        · have hkI : (i : Int) < (l.length : Int) := by omega
          have hk0 : (0 : Int) ≤ (i : Int) := by omega
          obtain ⟨m, hm⟩ : ∃ m, l[i]? = some m := ⟨_, List.getElem?_eq_getElem hlt2⟩
          obtain ⟨b', o', e1, hb, hcell⟩ := (RT.out.below (by omega) K3.out).2 (by omega)
          injection e1 with e1
          injection e1 with e1 e2
          subst e1 e2
          obtain ⟨c0, c1, c2, c3, c4, c5, c6, c7⟩ := ro_at hcell hm
          have HM := Lib.hid hm
          have HO : Hid (∀ X, Below w1.heap.size w1 X → Calls Try.prog 75 #[.agg m.cells.toArray] X fun e w' => e = .returned (.int .i64 (routeB m)) ∧ Below X.heap.size X w') := Lib.hid (fun X hX => ronea_any m X ((RO.out m (List.mem_of_getElem? hm)).below hX))
          obtain ⟨E, hE⟩ : ∃ E, routeB m = E := ⟨_, rfl⟩
          rw [hE] at HO
          have HE := Lib.hid hE
          clear hcell hm hb hE
          obtain ⟨m', hm'⟩ : ∃ m', m = m' := ⟨_, rfl⟩
          have HMM := Lib.hid hm'
          rw [hm'] at c0 c1 c2 c3 c4 c5 c6 c7 HO
          clear hm'
          obtain ⟨par, ms, cont, bz, rc, wt, iv, rp⟩ := m'
          unfold MR.val at c1
          unfold TR.val at c3
          unfold Ro.cells MR.val TR.val at HO
          simp only at c0 c1 c2 c3 c4 c5 c6 c7 HO
          clear HMM
          generalize ms.l.length = n1 at *
          generalize bz.l.length = n2 at *
          generalize ms.A = mA at *
          generalize bz.A = bA at *
          generalize ms.c = mc at *
          generalize bz.c = bc at *
          generalize bs rc = s at *
          have KA := Lib.hid (K3.out.alloc K3.out.size (.cells #[.int .i64 par, .slice mA n1 mc, .bool cont, .slice bA n2 bc, .string s, .int .i64 wt, .int .i64 iv, .int .i64 rp] 77))
          by_cases he : E = 0
          · have he' := bne_no he
            go_wp2_with fail
            refine (HO.out _ KA.out).mono ?_
            rintro e w3 ⟨rfl, hb⟩
            have K4 := Lib.hid (below_then KA.out KA.out.size hb)
            clear hb
            go_wp2
            go_roundw
            case rel =>
              refine ⟨i + 1, by go_num, by omega, Lib.hid (fun q x hq hx => ?_), K4⟩
              by_cases hji : q = i
              · subst hji; rw [HM.out] at hx; injection hx with hx; subst hx; rw [HE.out]; exact he
              · exact HJ.out q x (by omega) hx
            case measure => simp [intOf]; omega
          · have he' := bne_is he
            obtain rfl : G = E := by
              have h := firstE_stop routeB l i m HM.out HJ.out _ rfl (by rw [HE.out]; exact he)
              rw [HE.out] at h
              rw [← HG.out, if_pos (by rw [← h]; exact he), h]
            go_wp2_with fail
            refine (HO.out _ KA.out).mono ?_
            rintro e w3 ⟨rfl, hb⟩
            have K4 := Lib.hid (below_then KA.out KA.out.size hb)
            clear hb
            go_wp2
            go_ret
            exact ⟨rfl, below_then K1.out K1.out.size K4.out⟩
        · have hie : i = l.length := by omega
          rw [if_neg (fun h => h (firstE_zero _ _ (fun x hx => by
            obtain ⟨q, hq⟩ := List.mem_iff_getElem?.1 hx
            exact HJ.out q x (by rw [hie]; exact (List.getElem?_eq_some_iff.1 hq).1) hq)))] at HG
          subst hie
          clear HJ K2
          obtain ⟨wb, rfl⟩ : ∃ x, x = wr := ⟨wr, rfl⟩
          obtain ⟨z0, z1, z2, z3⟩ := HB.out wb K3.out
          go_wp2
          clear z1 z2 z3 z0
          go_loopw [81] (fun i wr => ∃ j : Nat, i = .int .i64 (j : Int) ∧ j ≤ rl.length ∧ Hid (∀ (q : Nat) (x : Rl), q < j → rl[q]? = some x → ruleB x = 0) ∧ Hid (Below w1.heap.size w1 wr)) (fun i _ => rl.length - (intOf i).toNat)
          case atStart => exact ⟨0, rfl, by omega, Lib.hid (fun q x h => by omega), K3⟩
          case round =>
            obtain ⟨i, rfl, hi, HJ, K4⟩ := hrel
            by_cases hlt2 : i < rl.length
            · have hkI : (i : Int) < (rl.length : Int) := by omega
              have hk0 : (0 : Int) ≤ (i : Int) := by omega
              obtain ⟨m, hm⟩ : ∃ m, rl[i]? = some m := ⟨_, List.getElem?_eq_getElem hlt2⟩
              obtain ⟨b2, o2, e1, hb, hcell⟩ := (RU.out.below (by omega) K4.out).2 (by omega)
              subst e1
              obtain ⟨c0, c1, c2⟩ := rl_at hcell hm
              have HM := Lib.hid hm
              have HO : Hid (∀ X, Below w1.heap.size w1 X → Calls Try.prog 76 #[.agg m.cells.toArray] X fun e w' => e = .returned (.int .i64 (ruleB m)) ∧ Below X.heap.size X w') := Lib.hid (fun X hX => rule_any m X ((RR.out m (List.mem_of_getElem? hm)).below hX))
              obtain ⟨E, hE⟩ : ∃ E, ruleB m = E := ⟨_, rfl⟩
              rw [hE] at HO
              have HE := Lib.hid hE
              clear hcell hm hb hE
              obtain ⟨m', hm'⟩ : ∃ m', m = m' := ⟨_, rfl⟩
              rw [hm'] at c0 c1 c2 HO
              clear hm'
              obtain ⟨ms, mt, me⟩ := m'
              unfold MR.val at c0 c1
              unfold TR.val at c2
              unfold Rl.cells MR.val TR.val at HO
              simp only at c0 c1 c2 HO
              generalize ms.l.length = n1 at *
              generalize mt.l.length = n2 at *
              generalize me.l.length = n3 at *
              generalize ms.A = sA at *
              generalize mt.A = tA at *
              generalize me.A = eA at *
              generalize ms.c = sc at *
              generalize mt.c = tc at *
              generalize me.c = ec at *
              have KA := Lib.hid (K4.out.alloc K4.out.size (.cells #[.slice sA n1 sc, .slice tA n2 tc, .slice eA n3 ec] 47))
              by_cases he : E = 0
              · have he' := bne_no he
                go_wp2_with fail
                refine (HO.out _ KA.out).mono ?_
                rintro e w3 ⟨rfl, hb⟩
                have K5 := Lib.hid (below_then KA.out KA.out.size hb)
                clear hb
                go_wp2
                go_roundw
                case rel =>
                  refine ⟨i + 1, by go_num, by omega, Lib.hid (fun q x hq hx => ?_), K5⟩
                  by_cases hji : q = i
                  · subst hji; rw [HM.out] at hx; injection hx with hx; subst hx; rw [HE.out]; exact he
                  · exact HJ.out q x (by omega) hx
                case measure => simp [intOf]; omega
              · have he' := bne_is he
                obtain rfl : G = E := by
                  have h := firstE_stop ruleB rl i m HM.out HJ.out _ rfl (by rw [HE.out]; exact he)
                  rw [HE.out] at h
                  rw [← HG.out, if_pos (by rw [← h]; exact he), h]
                go_wp2_with fail
                refine (HO.out _ KA.out).mono ?_
                rintro e w3 ⟨rfl, hb⟩
                have K5 := Lib.hid (below_then KA.out KA.out.size hb)
                clear hb
                go_wp2
                go_ret
                exact ⟨rfl, below_then K1.out K1.out.size K5.out⟩
            · have hie : i = rl.length := by omega
              rw [if_neg (fun h => h (firstE_zero _ _ (fun x hx => by
                obtain ⟨q, hq⟩ := List.mem_iff_getElem?.1 hx
                exact HJ.out q x (by rw [hie]; exact (List.getElem?_eq_some_iff.1 hq).1) hq)))] at HG
              subst hie
              clear HJ K3
              obtain ⟨wd, rfl⟩ : ∃ x, x = wr := ⟨wr, rfl⟩
              obtain ⟨z0, z1, z2, z3⟩ := HB.out wd K4.out
              have W1 := Lib.hid (fun X => within_any pt 1 X)
              have W2 := Lib.hid (fun X => within_any rs 1 X)
              generalize withinB pt 1 = a1 at *
              generalize withinB rs 1 = a2 at *
              go_wp2_with fail
              refine (W1.out _).mono ?_
              rintro e w5 ⟨rfl, hb⟩
              have K5 := Lib.hid (below_then K4.out K4.out.size hb)
              clear hb z0 z1 z2 z3
              obtain ⟨z0, z1, z2, z3⟩ := HB.out w5 K5.out
              cases a1 with
              | false =>
                obtain rfl : G = 13 := by rw [← HG.out]; rfl
                go_wp2
                go_ret
                exact ⟨rfl, below_then K1.out K1.out.size K5.out⟩
              | true =>
                go_wp2_with fail
                refine (W2.out _).mono ?_
                rintro e w6 ⟨rfl, hb⟩
                have K6 := Lib.hid (below_then K5.out K5.out.size hb)
                clear hb
                cases a2 with
                | false =>
                  obtain rfl : G = 13 := by rw [← HG.out]; rfl
                  go_wp2
                  go_ret
                  exact ⟨rfl, below_then K1.out K1.out.size K6.out⟩
                | true =>
                  obtain rfl : G = 0 := by rw [← HG.out]; rfl
                  go_wp2
                  go_ret
                  exact ⟨rfl, below_then K1.out K1.out.size K6.out⟩
end Go.Proofs.Ytnidjfmbbfoheaa
