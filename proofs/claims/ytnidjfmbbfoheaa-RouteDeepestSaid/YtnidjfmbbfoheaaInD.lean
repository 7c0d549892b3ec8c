/- WALKS: the document's Light of inhibit. -/
import Derived.Test.YtnidjfmbbfoheaaInC
namespace Go.Proofs.Ytnidjfmbbfoheaa
set_option linter.unusedVariables false
set_option linter.unusedSimpArgs false
open Go.RowKit

def fewB (r : Rl) : Bool := decide (r.s.l.length ≤ 12) && decide (r.t.l.length ≤ 12) && decide (r.e.l.length ≤ 40)
def light6B (rs : List Rl) (ls : List PR) : Bool := decide (rs.length ≤ 12) && decide (ls.length ≤ 40) && ls.all (fun p => lightB p.l) && rs.all fewB
theorem light_pr (p : PR) (w : World) (H : p.In w) : Calls Try.prog 29 #[.slice none 0 0, p.val] w fun e w' => e = .returned (.bool (lightB p.l)) ∧ Below w.heap.size w w' := light_any p.A p.c p.l w H.1 H.2
set_option maxRecDepth 100000 in
theorem light6_far1 (Ar : Option Addr) (cr n : Nat) (v : Value) (w : World) (h : 12 < n) : Calls Try.prog 33 #[.slice Ar n cr, v] w fun e w' => e = .returned (.bool false) ∧ Below w.heap.size w w' := by
  have i1 : (12 : Int) < (n : Int) := by omega
  go_enter Try.func33, Try.ntmps33
  go_wp2
  go_ret
  exact ⟨rfl, Below.refl _ _⟩
set_option maxRecDepth 100000 in
theorem light6_far2 (Ar : Option Addr) (cr n : Nat) (Al : Option Addr) (cl m : Nat) (w : World) (h : n ≤ 12) (h2 : 40 < m) : Calls Try.prog 33 #[.slice Ar n cr, .slice Al m cl] w fun e w' => e = .returned (.bool false) ∧ Below w.heap.size w w' := by
  have i1 : ¬ (12 : Int) < (n : Int) := by omega
  have i2 : (40 : Int) < (m : Int) := by omega
  go_enter Try.func33, Try.ntmps33
  go_wp2
  go_ret
  exact ⟨rfl, Below.refl _ _⟩
theorem all_pre {α : Type} (l : List α) (q : α → Bool) (h : ∀ (j : Nat) (x : α), l[j]? = some x → q x = true) : l.all q = true := by
  rw [List.all_eq_true]
  intro x hx
  obtain ⟨k, hk⟩ := List.mem_iff_getElem?.1 hx
  exact h k x hk
theorem all_not {α : Type} (l : List α) (q : α → Bool) (i : Nat) (x : α) (h : l[i]? = some x) (hq : q x = false) : l.all q = false := by
  rw [Bool.eq_false_iff]
  intro ha
  rw [List.all_eq_true] at ha
  have := ha x (List.mem_of_getElem? h)
  rw [hq] at this
  cases this
set_option maxRecDepth 100000 in
set_option maxHeartbeats 4000000 in
theorem light6_near (Ar : Option Addr) (cr : Nat) (rs : List Rl) (Al : Option Addr) (cl : Nat) (ls : List PR) (w : World) (h1 : rs.length ≤ 12) (h2 : ls.length ≤ 40)
    (Rr : Reads w (fun b => b < w.heap.size) 3 Ar rs.length (rs.flatMap Rl.cells)) (Rl' : Reads w (fun b => b < w.heap.size) 1 Al ls.length (ls.flatMap fun p : PR => [p.val])) (hl : ∀ p ∈ ls, p.In w) :
    Calls Try.prog 33 #[.slice Ar rs.length cr, .slice Al ls.length cl] w fun e w' => e = .returned (.bool (ls.all (fun p => lightB p.l) && rs.all fewB)) ∧ Below w.heap.size w w' := by
  have HRr := Lib.hid Rr
  have HRl := Lib.hid Rl'
  have HL := Lib.hid (fun (p : PR) (hp : p ∈ ls) (w' : World) (hb : Below w.heap.size w w') => light_pr p w' ((hl p hp).below hb))
  obtain ⟨G1, hG1⟩ : ∃ G, ls.all (fun p => lightB p.l) = G := ⟨_, rfl⟩
  obtain ⟨G2, hG2⟩ : ∃ G, rs.all fewB = G := ⟨_, rfl⟩
  rw [hG1, hG2]
  have HG1 := Lib.hid hG1
  have HG2 := Lib.hid hG2
  clear Rr Rl' hl hG1 hG2
  have i1 : ¬ (12 : Int) < (rs.length : Int) := by omega
  have i2 : ¬ (40 : Int) < (ls.length : Int) := by omega
  go_enter Try.func33, Try.ntmps33
  go_wp2
  go_loopg [5] ls.length (fun gg s5 wr => ∃ i : Nat, s5 = .int .i64 (i : Int) ∧ i ≤ ls.length ∧ ls.length - i ≤ gg ∧ Hid (∀ (j : Nat) (x : PR), j < i → ls[j]? = some x → lightB x.l = true) ∧ Hid (Below w.heap.size w wr))
  case atStart => exact ⟨0, by go_num, by omega, by omega, Lib.hid (fun j x h => by omega), Lib.hid (Below.refl _ _)⟩
  case round =>
    obtain ⟨i, rfl, hi, hgg, HJ, K1⟩ := hrel
    by_cases hlt : i < ls.length
    · have hiI : (i : Int) < (ls.length : Int) := by omega
      have hi0 : (0 : Int) ≤ (i : Int) := by omega
      obtain ⟨b, o, rfl, hb, hcell⟩ := (HRl.out.below (by omega) K1.out).2 (by omega)
      obtain ⟨m, hm⟩ : ∃ m, ls[i]? = some m := ⟨_, List.getElem?_eq_getElem hlt⟩
      have c0 := hcell i _ (flat_one (fun p : PR => [p.val]) PR.val (fun _ => rfl) ls i m hm)
      have hcall := Lib.hid (HL.out m (List.mem_of_getElem? hm) wr K1.out)
      have HM := Lib.hid hm
      clear hcell hm
      unfold PR.val at c0 hcall
      generalize m.l.length = ml at *
      generalize m.A = mA at *
      generalize m.c = mc at *
      obtain ⟨Q, hQ⟩ : ∃ Q, lightB m.l = Q := ⟨_, rfl⟩
      rw [hQ] at hcall
      have HQ := Lib.hid hQ
      clear hQ
      cases Q with
      | false =>
        go_wp2_with fail
        refine hcall.out.mono ?_
        rintro e w2 ⟨rfl, hk⟩
        have K2 := Lib.hid (below_then K1.out K1.out.size hk)
        clear hk
        have hv : G1 = false := by rw [← HG1.out]; exact all_not ls _ i m HM.out HQ.out
        subst hv
        go_wp2
        go_ret
        exact ⟨rfl, K2.out⟩
      | true =>
        go_wp2_with fail
        refine hcall.out.mono ?_
        rintro e w2 ⟨rfl, hk⟩
        have K2 := Lib.hid (below_then K1.out K1.out.size hk)
        clear hk
        go_wp2
        go_roundg (ls.length - (i + 1))
        case measure => omega
        case rel =>
          refine ⟨i + 1, by go_num, by omega, by omega, Lib.hid (fun j x hj hx => ?_), K2⟩
          by_cases hji : j = i
          · subst hji; rw [HM.out] at hx; injection hx with hx; subst hx; exact HQ.out
          · exact HJ.out j x (by omega) hx
    · have hie : i = ls.length := by omega
      have hv : G1 = true := by
        rw [← HG1.out]
        exact all_pre ls _ (fun j x hx => HJ.out j x (by rw [hie]; exact (List.getElem?_eq_some_iff.1 hx).1) hx)
      subst hv
      subst hie
      clear HJ
      obtain ⟨wo, hwo⟩ : ∃ X, X = wr := ⟨_, rfl⟩
      subst hwo
      go_wp2
      go_loopg [6] rs.length (fun gg s6 wr => ∃ i : Nat, s6 = .int .i64 (i : Int) ∧ i ≤ rs.length ∧ rs.length - i ≤ gg ∧ Hid (∀ (j : Nat) (x : Rl), j < i → rs[j]? = some x → fewB x = true) ∧ Hid (Below w.heap.size w wr))
      case atStart => exact ⟨0, by go_num, by omega, by omega, Lib.hid (fun j x h => by omega), K1⟩
      case round =>
        obtain ⟨k, rfl, hk, hgg2, HJ, K3⟩ := hrel
        by_cases hlt2 : k < rs.length
        · have hkI : (k : Int) < (rs.length : Int) := by omega
          have hk0 : (0 : Int) ≤ (k : Int) := by omega
          obtain ⟨b, o, rfl, hb, hcell⟩ := (HRr.out.below (by omega) K3.out).2 (by omega)
          obtain ⟨m, hm⟩ : ∃ m, rs[k]? = some m := ⟨_, List.getElem?_eq_getElem hlt2⟩
          have c0 := (hcell _ _ (flat_get Rl.cells 3 (fun _ => rfl) rs k 0 m hm (by omega))).trans (show (Rl.cells m)[0]? = some m.s.val from rfl)
          have c1 := hcell _ _ (flat_get Rl.cells 3 (fun _ => rfl) rs k 1 m hm (by omega))
          have c2 := hcell _ _ (flat_get Rl.cells 3 (fun _ => rfl) rs k 2 m hm (by omega))
          rw [← Nat.add_assoc] at c1 c2
          rw [Nat.add_zero] at c0
          have HM := Lib.hid hm
          have hfew : fewB m = (decide (m.s.l.length ≤ 12) && decide (m.t.l.length ≤ 12) && decide (m.e.l.length ≤ 40)) := rfl
          have HF := Lib.hid hfew
          clear hcell hm hfew
          unfold MR.val at c0 c1
          unfold TR.val at c2
          generalize m.s.l.length = n1 at *
          generalize m.t.l.length = n2 at *
          generalize m.e.l.length = n3 at *
          generalize m.s.A = a1 at *
          generalize m.t.A = a2 at *
          generalize m.e.A = a3 at *
          generalize m.s.c = d1 at *
          generalize m.t.c = d2 at *
          generalize m.e.c = d3 at *
          by_cases g1 : n1 ≤ 12
          · have j1 : ¬ (12 : Int) < (n1 : Int) := by omega
            by_cases g2 : n2 ≤ 12
            · have j2 : ¬ (12 : Int) < (n2 : Int) := by omega
              by_cases g3 : n3 ≤ 40
              · have j3 : ¬ (40 : Int) < (n3 : Int) := by omega
                go_wp2
                go_roundg (rs.length - (k + 1))
                case measure => omega
                case rel =>
                  refine ⟨k + 1, by go_num, by omega, by omega, Lib.hid (fun j x hj hx => ?_), K3⟩
                  by_cases hji : j = k
                  · subst hji; rw [HM.out] at hx; injection hx with hx; subst hx; rw [HF.out]; simp [g1, g2, g3]
                  · exact HJ.out j x (by omega) hx
              · have j3 : (40 : Int) < (n3 : Int) := by omega
                have hv : G2 = false := by rw [← HG2.out]; exact all_not rs _ k m HM.out (by rw [HF.out]; simp [g3])
                subst hv
                go_wp2
                go_ret
                exact ⟨rfl, K3.out⟩
            · have j2 : (12 : Int) < (n2 : Int) := by omega
              have hv : G2 = false := by rw [← HG2.out]; exact all_not rs _ k m HM.out (by rw [HF.out]; simp [g2])
              subst hv
              go_wp2
              go_ret
              exact ⟨rfl, K3.out⟩
          · have j1 : (12 : Int) < (n1 : Int) := by omega
            have hv : G2 = false := by rw [← HG2.out]; exact all_not rs _ k m HM.out (by rw [HF.out]; simp [g1])
            subst hv
            go_wp2
            go_ret
            exact ⟨rfl, K3.out⟩
        · have hke : k = rs.length := by omega
          have hv : G2 = true := by
            rw [← HG2.out]
            exact all_pre rs _ (fun j x hx => HJ.out j x (by rw [hke]; exact (List.getElem?_eq_some_iff.1 hx).1) hx)
          subst hv
          subst hke
          go_wp2
          go_ret
          exact ⟨rfl, K3.out⟩
theorem light6_any (Ar : Option Addr) (cr : Nat) (rs : List Rl) (Al : Option Addr) (cl : Nat) (ls : List PR) (w : World)
    (Rr : Reads w (fun b => b < w.heap.size) 3 Ar rs.length (rs.flatMap Rl.cells)) (Rl' : Reads w (fun b => b < w.heap.size) 1 Al ls.length (ls.flatMap fun p : PR => [p.val])) (hl : ∀ p ∈ ls, p.In w) :
    Calls Try.prog 33 #[.slice Ar rs.length cr, .slice Al ls.length cl] w fun e w' => e = .returned (.bool (light6B rs ls)) ∧ Below w.heap.size w w' := by
  unfold light6B
  by_cases h1 : rs.length ≤ 12
  · by_cases h2 : ls.length ≤ 40
    · rw [decide_eq_true h1, decide_eq_true h2]
      exact light6_near Ar cr rs Al cl ls w h1 h2 Rr Rl' hl
    · rw [decide_eq_false h2, Bool.and_false]
      exact light6_far2 Ar cr _ Al cl _ w h1 (by omega)
  · rw [decide_eq_false h1]
    exact light6_far1 Ar cr _ _ w (by omega)
theorem few_small {r : Rl} (h : fewB r = true) : r.Small := by
  unfold fewB at h
  simp only [Bool.and_eq_true, decide_eq_true_eq] at h
  exact ⟨by omega, by omega, by omega⟩
theorem light_pr_is {p : PR} (h : lightB p.l = true) : p.Light := light_is h
end Go.Proofs.Ytnidjfmbbfoheaa
