/- WALKS: inhibit.Muter, inhibit.Muted. -/
import Derived.Test.YtnidjfmbbfoheaaInE
namespace Go.Proofs.Ytnidjfmbbfoheaa
set_option linter.unusedVariables false
set_option linter.unusedSimpArgs false
open Go.RowKit

def mutedB (rs : List Rl) (ls : List PR) (t : List Pr) : Bool := rs.any fun r => ls.any fun l => byB r l.l t
theorem eg105 : ∀ args w, (callFunc 105 args).run Try.prog w = .ok (.enter 105 args) w := enters_of Try.func105 (by kernel_rfl) rfl
set_option maxRecDepth 100000 in
theorem clos105 (r : Rl) (a b : PR) (B1 B2 : Nat) (w : World) (h1 : Blk w B1 47 #[r.s.val, r.t.val, r.e.val]) (h2 : Blk w B2 38 #[b.val]) (Hr : r.In w) (hr : r.Small) (Ha : a.In w) (Hb : b.In w) (la : a.Light) (lb : b.Light) :
    Calls Try.prog 105 #[a.val, .pointer (some ⟨B1, 0, none⟩), .pointer (some ⟨B2, 0, none⟩)] w fun e w' => e = .returned (.bool (byB r a.l b.l)) ∧ Below w.heap.size w w' := by
  have H := Lib.hid (by_any r a b w Hr hr Ha Hb la lb)
  have y0 := h1.cell 0
  have y1 := h1.cell 1
  have y2 := h1.cell 2
  have ya := h2.cell 0
  simp only [List.getElem?_toArray, List.getElem?_cons_zero, List.getElem?_cons_succ] at y0 y1 y2 ya
  clear h1 h2 Hr hr Ha Hb la lb
  generalize byB r a.l b.l = X at *
  unfold Rl.val at H
  unfold MR.val TR.val PR.val at *
  go_enter Try.func105, Try.ntmps105
  go_wp2_with fail
  refine H.out.mono ?_
  rintro e w1 ⟨rfl, hk⟩
  have K1 := Lib.hid hk
  clear hk y0 y1 y2 ya
  go_wp2
  go_ret
  exact ⟨rfl, K1.out⟩
theorem any_pre' {α : Type} (l : List α) (q : α → Bool) (i : Nat) (x : α) (h : l[i]? = some x) (hq : q x = true) : l.any q = true := by
  rw [List.any_eq_true]
  exact ⟨x, List.mem_of_getElem? h, hq⟩
set_option maxRecDepth 100000 in
set_option maxHeartbeats 4000000 in
theorem muter_any (Ar : Option Addr) (cr : Nat) (rs : List Rl) (Al : Option Addr) (cl : Nat) (ls : List PR) (t : PR) (w : World) (h1 : rs.length ≤ 4294967296) (h2 : ls.length ≤ 4294967296)
    (Rr : Reads w (fun b => b < w.heap.size) 3 Ar rs.length (rs.flatMap Rl.cells)) (Rs : Reads w (fun b => b < w.heap.size) 1 Al ls.length (ls.flatMap fun p : PR => [p.val])) (hr : ∀ r ∈ rs, r.In w ∧ r.Small) (hl : ∀ p ∈ ls, p.In w ∧ p.Light) (ht : t.In w ∧ t.Light) :
    Calls Try.prog 71 #[.slice Ar rs.length cr, .slice Al ls.length cl, t.val] w fun e w' => ∃ i k : Int, e = .returned (.tuple #[.int .i64 i, .int .i64 k]) ∧ (decide (0 ≤ i) = mutedB rs ls t.l) ∧ Below w.heap.size w w' := by
  have HRr := Lib.hid Rr
  have HRs := Lib.hid Rs
  have HC : Hid (∀ (r : Rl), r ∈ rs → ∀ (W : World) (B1 B2 : Nat), Below w.heap.size w W → Blk W B1 47 #[r.s.val, r.t.val, r.e.val] → Blk W B2 38 #[t.val] → Calls Try.prog 104 #[.slice Al ls.length cl, .func (.func 105) #[] #[.pointer (some ⟨B1, 0, none⟩), .pointer (some ⟨B2, 0, none⟩)]] W fun e w' => ∃ k : Int, e = .returned (.int .i64 k) ∧ (decide (0 ≤ k) = ls.any fun l => byB r l.l t.l) ∧ Below W.heap.size W w') :=
    Lib.hid (fun r hrm W B1 B2 hb b1 b2 => idx104 (fun l => byB r l.l t.l) 105 #[.pointer (some ⟨B1, 0, none⟩), .pointer (some ⟨B2, 0, none⟩)] eg105 Al cl ls W h2 ((Rs.below (by omega) hb).imp (fun b hb' => Nat.lt_of_lt_of_le hb' hb.size)) (fun W2 m hm hb2 =>
      clos105 r m t B1 B2 W2 (b1.below hb2 b1.lt) (b2.below hb2 b2.lt) (((hr r hrm).1.below hb).below hb2) (hr r hrm).2 (((hl m hm).1.below hb).below hb2) ((ht.1.below hb).below hb2) (hl m hm).2 ht.2))
  obtain ⟨G, hG⟩ : ∃ G, mutedB rs ls t.l = G := ⟨_, rfl⟩
  rw [hG]
  have HG := Lib.hid hG
  have K0 := Lib.hid ((Below.refl w.heap.size w).alloc (Nat.le_refl _) (.cells #[t.val] 38))
  have T0 := Lib.hid (Blk.new w 38 #[t.val])
  clear Rr Rs hr hl ht hG
  unfold PR.val at HC K0 T0
  unfold PR.val
  generalize t.l.length = tl at *
  generalize t.A = tA at *
  generalize t.c = tc at *
  go_enter Try.func71, Try.ntmps71
  go_wp2
  go_loopg [8, 10, 13] rs.length (fun gg s8 s10 s13 wr => ∃ i : Nat, s13 = .int .i64 (i : Int) ∧ i ≤ rs.length ∧ rs.length - i ≤ gg ∧ Hid (∀ (j : Nat) (x : Rl), j < i → rs[j]? = some x → (ls.any fun l => byB x l.l t.l) = false) ∧ Hid (Below w.heap.size w wr) ∧ Hid (Blk wr w.heap.size 38 #[.slice tA tl tc]))
  case atStart => exact ⟨0, by go_num, by omega, by omega, Lib.hid (fun j x h => by omega), K0, T0⟩
  case round =>
    obtain ⟨i, rfl, hi, hgg, HJ, K1, T1⟩ := hrel
    by_cases hlt : i < rs.length
    · have hiI : (i : Int) < (rs.length : Int) := by omega
      have hi0 : (0 : Int) ≤ (i : Int) := by omega
      obtain ⟨b, o, rfl, hb, hcell⟩ := (HRr.out.below (by omega) K1.out).2 (by omega)
      obtain ⟨m, hm⟩ : ∃ m, rs[i]? = some m := ⟨_, List.getElem?_eq_getElem hlt⟩
      have c0 := (hcell _ _ (flat_get Rl.cells 3 (fun _ => rfl) rs i 0 m hm (by omega))).trans (show (Rl.cells m)[0]? = some m.s.val from rfl)
      have c1 := (hcell _ _ (flat_get Rl.cells 3 (fun _ => rfl) rs i 1 m hm (by omega))).trans (show (Rl.cells m)[1]? = some m.t.val from rfl)
      have c2 := (hcell _ _ (flat_get Rl.cells 3 (fun _ => rfl) rs i 2 m hm (by omega))).trans (show (Rl.cells m)[2]? = some m.e.val from rfl)
      rw [← Nat.add_assoc] at c1 c2
      rw [Nat.add_zero] at c0
      have hcall := Lib.hid (HC.out m (List.mem_of_getElem? hm))
      have HM := Lib.hid hm
      clear hcell hm
      unfold MR.val at c0 c1
      unfold TR.val at c2
      unfold MR.val TR.val at hcall
      obtain ⟨Q, hQ⟩ : ∃ Q, (ls.any fun l => byB m l.l t.l) = Q := ⟨_, rfl⟩
      rw [hQ] at hcall
      have HQ := Lib.hid hQ
      clear hQ
      generalize m.s.l.length = n1 at *
      generalize m.t.l.length = n2 at *
      generalize m.e.l.length = n3 at *
      generalize m.s.A = a1 at *
      generalize m.t.A = a2 at *
      generalize m.e.A = a3 at *
      generalize m.s.c = d1 at *
      generalize m.t.c = d2 at *
      generalize m.e.c = d3 at *
      have K2 := Lib.hid (K1.out.alloc K1.out.size (.cells #[.slice a1 n1 d1, .slice a2 n2 d2, .slice a3 n3 d3] 47))
      have B2 := Lib.hid (Blk.new wr 47 #[.slice a1 n1 d1, .slice a2 n2 d2, .slice a3 n3 d3])
      have T2 := Lib.hid (T1.out.alloc (.cells #[.slice a1 n1 d1, .slice a2 n2 d2, .slice a3 n3 d3] 47))
      go_wp2_with fail
      refine (hcall.out _ _ _ K2.out B2.out T2.out).mono ?_
      rintro e w2 ⟨k, rfl, hk, hb2⟩
      have K3 := Lib.hid (below_then K2.out K2.out.size hb2)
      have T3 := Lib.hid (T2.out.below hb2 T2.out.lt)
      clear hb2
      cases Q with
      | true =>
        have hk0 : (0 : Int) ≤ k := by simpa using hk
        clear hk
        go_wp2
        refine bodyPost_ret (v := .tuple #[.int .i64 (i : Int), .int .i64 k]) (by simp [results, Try.results71, go_sem]) rfl ?_
        refine ⟨i, k, rfl, ?_, K3.out⟩
        rw [decide_eq_true hi0, ← HG.out]
        exact (any_pre' rs _ i m HM.out HQ.out).symm
      | false =>
        have hk0 : ¬ (0 : Int) ≤ k := by simpa using hk
        clear hk
        go_wp2
        go_roundg (rs.length - (i + 1))
        case measure => omega
        case rel =>
          refine ⟨i + 1, by go_num, by omega, by omega, Lib.hid (fun j x hj hx => ?_), K3, T3⟩
          by_cases hji : j = i
          · subst hji; rw [HM.out] at hx; injection hx with hx; subst hx; exact HQ.out
          · exact HJ.out j x (by omega) hx
    · have hie : i = rs.length := by omega
      have hv : mutedB rs ls t.l = false := any_pre rs _ (fun j x hx => HJ.out j x (by rw [hie]; exact (List.getElem?_eq_some_iff.1 hx).1) hx)
      have HV := Lib.hid hv
      clear hv
      subst hie
      go_wp2
      refine bodyPost_ret (v := .tuple #[.int .i64 (-1), .int .i64 (-1)]) (by simp [results, Try.results71, go_sem]) rfl ?_
      exact ⟨-1, -1, rfl, by rw [← HG.out, HV.out]; rfl, K1.out⟩
set_option maxRecDepth 100000 in
theorem muted_any (Ar : Option Addr) (cr : Nat) (rs : List Rl) (Al : Option Addr) (cl : Nat) (ls : List PR) (t : PR) (w : World) (h1 : rs.length ≤ 4294967296) (h2 : ls.length ≤ 4294967296)
    (Rr : Reads w (fun b => b < w.heap.size) 3 Ar rs.length (rs.flatMap Rl.cells)) (Rs : Reads w (fun b => b < w.heap.size) 1 Al ls.length (ls.flatMap fun p : PR => [p.val])) (hr : ∀ r ∈ rs, r.In w ∧ r.Small) (hl : ∀ p ∈ ls, p.In w ∧ p.Light) (ht : t.In w ∧ t.Light) :
    Calls Try.prog 41 #[.slice Ar rs.length cr, .slice Al ls.length cl, t.val] w fun e w' => e = .returned (.bool (mutedB rs ls t.l)) ∧ Below w.heap.size w w' := by
  have H := Lib.hid (muter_any Ar cr rs Al cl ls t w h1 h2 Rr Rs hr hl ht)
  clear Rr Rs hr hl ht
  unfold PR.val at *
  generalize mutedB rs ls t.l = G at *
  go_enter Try.func41, Try.ntmps41
  go_wp2_with fail
  refine H.out.mono ?_
  rintro e w2 ⟨i, k, rfl, hi, hb2⟩
  have K2 := Lib.hid hb2
  have HI := Lib.hid hi
  clear hb2 hi
  go_wp2
  go_ret
  exact ⟨by rw [← HI.out]; rfl, K2.out⟩
end Go.Proofs.Ytnidjfmbbfoheaa
