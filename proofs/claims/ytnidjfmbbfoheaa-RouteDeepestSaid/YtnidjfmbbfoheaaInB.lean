/- WALKS: slices.IndexFunc at texts and at rows of pairs; inhibit.By. -/
import Derived.Test.YtnidjfmbbfoheaaInA
import Derived.Test.YtnidjfmbbfoheaaMaNot
namespace Go.Proofs.Ytnidjfmbbfoheaa
set_option linter.unusedVariables false
set_option linter.unusedSimpArgs false
open Go.RowKit Go.BigFrame

theorem flat_one {α : Type} (f : α → List Value) (v : α → Value) (hf : ∀ a, f a = [v a]) (l : List α) (i : Nat) (a : α) (h : l[i]? = some a) : (l.flatMap f)[i]? = some (v a) := by
  have := flat_get f 1 (fun a => by rw [hf]; rfl) l i 0 a h (by omega)
  rw [hf] at this
  simpa using this
set_option maxRecDepth 100000 in
set_option maxHeartbeats 2000000 in
theorem idx101 (q : List Nat → Bool) (g : Nat) (lb : Array Value) (eg : ∀ args w, (callFunc g args).run Try.prog w = .ok (.enter g args) w) (A0 : Option Addr) (cp : Nat) (l : List (List Nat)) (w : World) (hlen : l.length ≤ 4294967296) (R : Reads w (fun b => b < w.heap.size) 1 A0 l.length (l.flatMap tx))
    (hp : ∀ (W : World) (m : List Nat), m ∈ l → Below w.heap.size w W → Calls Try.prog g (#[.string (bs m)] ++ lb) W fun e w' => e = .returned (.bool (q m)) ∧ Below W.heap.size W w') :
    Calls Try.prog 101 #[.slice A0 l.length cp, .func (.func g) #[] lb] w fun e w' => ∃ k : Int, e = .returned (.int .i64 k) ∧ (decide (0 ≤ k) = l.any q) ∧ Below w.heap.size w w' := by
  have HR := Lib.hid R
  have HP := Lib.hid hp
  clear R hp
  go_enter Try.func101, Try.ntmps101
  go_wp2
  go_loopg [5, 8] l.length (fun gg s5 s8 wr => ∃ i : Nat, s8 = .int .i64 (i : Int) ∧ i ≤ l.length ∧ l.length - i ≤ gg ∧ Hid (∀ (j : Nat) (x : List Nat), j < i → l[j]? = some x → q x = false) ∧ Hid (Below w.heap.size w wr))
  case atStart => exact ⟨0, by go_num, by omega, by omega, Lib.hid (fun j x h => by omega), Lib.hid (Below.refl _ _)⟩
  case round =>
    obtain ⟨i, rfl, hi, hgg, HJ, K1⟩ := hrel
    by_cases hlt : i < l.length
    · have hiI : (i : Int) < (l.length : Int) := by omega
      have hi0 : (0 : Int) ≤ (i : Int) := by omega
      obtain ⟨b, o, rfl, hb, hcell⟩ := (HR.out.below (by omega) K1.out).2 (by omega)
      obtain ⟨m, hm⟩ : ∃ m, l[i]? = some m := ⟨_, List.getElem?_eq_getElem hlt⟩
      have c0 := hcell i _ (flat_one tx (fun s => .string (bs s)) (fun _ => rfl) l i m hm)
      have hcall := Lib.hid (HP.out wr m (List.mem_of_getElem? hm) K1.out)
      have HM := Lib.hid hm
      clear hcell hm
      generalize bs m = mn at *
      obtain ⟨Q, hQ⟩ : ∃ Q, q m = Q := ⟨_, rfl⟩
      rw [hQ] at hcall
      have HQ := Lib.hid hQ
      clear hQ
      cases Q with
      | true =>
        go_wp2_with (go_at_fn g; refine hcall.out.mono ?_; rintro e w2 ⟨rfl, hb2⟩; have K2 := Lib.hid (below_then K1.out K1.out.size hb2); clear hb2)
        go_ret
        refine ⟨i, rfl, ?_, K2.out⟩
        rw [decide_eq_true hi0]
        symm
        rw [List.any_eq_true]
        exact ⟨m, List.mem_of_getElem? HM.out, HQ.out⟩
      | false =>
        go_wp2_with (go_at_fn g; refine hcall.out.mono ?_; rintro e w2 ⟨rfl, hb2⟩; have K2 := Lib.hid (below_then K1.out K1.out.size hb2); clear hb2)
        go_roundg (l.length - (i + 1))
        case measure => omega
        case rel =>
          refine ⟨i + 1, by go_num, by omega, by omega, Lib.hid (fun j x hj hx => ?_), K2⟩
          by_cases hji : j = i
          · subst hji; rw [HM.out] at hx; injection hx with hx; subst hx; exact HQ.out
          · exact HJ.out j x (by omega) hx
    · have hie : i = l.length := by omega
      have hv : l.any q = false := any_pre l q (fun j x hx => HJ.out j x (by rw [hie]; exact (List.getElem?_eq_some_iff.1 hx).1) hx)
      have HV := Lib.hid hv
      clear hv
      subst hie
      go_wp2
      go_ret
      exact ⟨-1, rfl, by rw [HV.out]; rfl, K1.out⟩
set_option maxRecDepth 100000 in
set_option maxHeartbeats 2000000 in
theorem idx104 (q : PR → Bool) (g : Nat) (lb : Array Value) (eg : ∀ args w, (callFunc g args).run Try.prog w = .ok (.enter g args) w) (A0 : Option Addr) (cp : Nat) (l : List PR) (w : World) (hlen : l.length ≤ 4294967296) (R : Reads w (fun b => b < w.heap.size) 1 A0 l.length (l.flatMap fun p : PR => [p.val]))
    (hp : ∀ (W : World) (m : PR), m ∈ l → Below w.heap.size w W → Calls Try.prog g (#[m.val] ++ lb) W fun e w' => e = .returned (.bool (q m)) ∧ Below W.heap.size W w') :
    Calls Try.prog 104 #[.slice A0 l.length cp, .func (.func g) #[] lb] w fun e w' => ∃ k : Int, e = .returned (.int .i64 k) ∧ (decide (0 ≤ k) = l.any q) ∧ Below w.heap.size w w' := by
  have HR := Lib.hid R
  have HP := Lib.hid hp
  clear R hp
  go_enter Try.func104, Try.ntmps104
  go_wp2
  go_loopg [5, 8] l.length (fun gg s5 s8 wr => ∃ i : Nat, s8 = .int .i64 (i : Int) ∧ i ≤ l.length ∧ l.length - i ≤ gg ∧ Hid (∀ (j : Nat) (x : PR), j < i → l[j]? = some x → q x = false) ∧ Hid (Below w.heap.size w wr))
  case atStart => exact ⟨0, by go_num, by omega, by omega, Lib.hid (fun j x h => by omega), Lib.hid (Below.refl _ _)⟩
  case round =>
    obtain ⟨i, rfl, hi, hgg, HJ, K1⟩ := hrel
    by_cases hlt : i < l.length
    · have hiI : (i : Int) < (l.length : Int) := by omega
      have hi0 : (0 : Int) ≤ (i : Int) := by omega
      obtain ⟨b, o, rfl, hb, hcell⟩ := (HR.out.below (by omega) K1.out).2 (by omega)
      obtain ⟨m, hm⟩ : ∃ m, l[i]? = some m := ⟨_, List.getElem?_eq_getElem hlt⟩
      have c0 := hcell i _ (flat_one (fun p : PR => [p.val]) PR.val (fun _ => rfl) l i m hm)
      have hcall := Lib.hid (HP.out wr m (List.mem_of_getElem? hm) K1.out)
      have HM := Lib.hid hm
      clear hcell hm
      unfold PR.val at c0 hcall
      generalize m.l.length = ml at *
      generalize m.A = mA at *
      generalize m.c = mc at *
      obtain ⟨Q, hQ⟩ : ∃ Q, q m = Q := ⟨_, rfl⟩
      rw [hQ] at hcall
      have HQ := Lib.hid hQ
      clear hQ
      cases Q with
      | true =>
        go_wp2_with (go_at_fn g; refine hcall.out.mono ?_; rintro e w2 ⟨rfl, hb2⟩; have K2 := Lib.hid (below_then K1.out K1.out.size hb2); clear hb2)
        go_ret
        refine ⟨i, rfl, ?_, K2.out⟩
        rw [decide_eq_true hi0]
        symm
        rw [List.any_eq_true]
        exact ⟨m, List.mem_of_getElem? HM.out, HQ.out⟩
      | false =>
        go_wp2_with (go_at_fn g; refine hcall.out.mono ?_; rintro e w2 ⟨rfl, hb2⟩; have K2 := Lib.hid (below_then K1.out K1.out.size hb2); clear hb2)
        go_roundg (l.length - (i + 1))
        case measure => omega
        case rel =>
          refine ⟨i + 1, by go_num, by omega, by omega, Lib.hid (fun j x hj hx => ?_), K2⟩
          by_cases hji : j = i
          · subst hji; rw [HM.out] at hx; injection hx with hx; subst hx; exact HQ.out
          · exact HJ.out j x (by omega) hx
    · have hie : i = l.length := by omega
      have hv : l.any q = false := any_pre l q (fun j x hx => HJ.out j x (by rw [hie]; exact (List.getElem?_eq_some_iff.1 hx).1) hx)
      have HV := Lib.hid hv
      clear hv
      subst hie
      go_wp2
      go_ret
      exact ⟨-1, rfl, by rw [HV.out]; rfl, K1.out⟩
set_option maxRecDepth 100000 in
theorem contains66 (q : List Nat → Bool) (g : Nat) (lb : Array Value) (eg : ∀ args w, (callFunc g args).run Try.prog w = .ok (.enter g args) w) (A0 : Option Addr) (cp : Nat) (l : List (List Nat)) (w : World) (hlen : l.length ≤ 4294967296) (R : Reads w (fun b => b < w.heap.size) 1 A0 l.length (l.flatMap tx))
    (hp : ∀ (W : World) (m : List Nat), m ∈ l → Below w.heap.size w W → Calls Try.prog g (#[.string (bs m)] ++ lb) W fun e w' => e = .returned (.bool (q m)) ∧ Below W.heap.size W w') :
    Calls Try.prog 66 #[.slice A0 l.length cp, .func (.func g) #[] lb] w fun e w' => e = .returned (.bool (l.any q)) ∧ Below w.heap.size w w' := by
  have H := Lib.hid (idx101 q g lb eg A0 cp l w hlen R hp)
  clear R hp
  go_enter Try.func66, Try.ntmps66
  go_wp2_with (go_at_call 101; refine H.out.mono ?_; rintro e w2 ⟨k, rfl, hk, hb2⟩; have K2 := Lib.hid hb2; have HK := Lib.hid hk; clear hb2 hk)
  go_ret
  exact ⟨by rw [← HK.out]; rfl, K2.out⟩
/-- A row of labels that is light: few, short. -/
def PR.Light (p : PR) : Prop := p.l.length ≤ 40 ∧ ∀ x ∈ p.l, x.v.length ≤ 200
theorem PR.Light.big {p : PR} (h : p.Light) : ∀ x ∈ p.l, x.v.length ≤ 1000000000 := fun x hx => by have := h.2 x hx; omega
theorem get_pr (p : PR) (n : List Nat) (w : World) (hn : TxOk n) (H : p.In w) (hp : p.Light) : Calls Try.prog 36 #[p.val, .string (bs n)] w fun e w' => e = .returned (.string (bs (getB p.l n))) ∧ Below w.heap.size w w' :=
  get_any p.A p.c p.l n w hn.1 (by have := hp.1; omega) H.1 H.2
theorem all_pr (m : MR) (p : PR) (w : World) (Hm : m.In w) (hm : m.l.length ≤ 4294967296) (H : p.In w) (hp : p.Light) : Calls Try.prog 40 #[m.val, p.val] w fun e w' => e = .returned (.bool (allB m.l p.l)) ∧ Below w.heap.size w w' :=
  all_any m.A m.c m.l p.A p.c p.l w hm (by have := hp.1; omega) Hm.1 Hm.2 H.1 H.2 hp.big
def differs (a b : List Pr) (n : List Nat) : Bool := decide (getB a n ≠ getB b n)
theorem eg65 : ∀ args w, (callFunc 65 args).run Try.prog w = .ok (.enter 65 args) w := enters_of Try.func65 (by kernel_rfl) rfl
set_option maxRecDepth 100000 in
set_option maxHeartbeats 2000000 in
theorem clos65 (a b : PR) (n : List Nat) (B1 B2 : Nat) (w : World) (hn : TxOk n) (h1 : Blk w B1 38 #[a.val]) (h2 : Blk w B2 38 #[b.val]) (Ha : a.In w) (Hb : b.In w) (la : a.Light) (lb : b.Light) :
    Calls Try.prog 65 #[.string (bs n), .pointer (some ⟨B1, 0, none⟩), .pointer (some ⟨B2, 0, none⟩)] w fun e w' => e = .returned (.bool (differs a.l b.l n)) ∧ Below w.heap.size w w' := by
  have e0 := fun y : Ext w.heap.size w => (Ext.blk h1 h1.lt (x := y)).cell 0
  have e1 := fun y : Ext w.heap.size w => (Ext.blk h2 h2.lt (x := y)).cell 0
  simp only [List.getElem?_toArray, List.getElem?_cons_zero, List.getElem?_cons_succ] at e0 e1
  have HA : Hid (∀ x : Ext w.heap.size w, Calls Try.prog 36 #[a.val, .string (bs n)] x.W fun e w' => e = .returned (.string (bs (getB a.l n))) ∧ Below x.W.heap.size x.W w') := Lib.hid (fun x => get_pr a n x.W hn (Ha.below x.h) la)
  have HB : Hid (∀ x : Ext w.heap.size w, Calls Try.prog 36 #[b.val, .string (bs n)] x.W fun e w' => e = .returned (.string (bs (getB b.l n))) ∧ Below x.W.heap.size x.W w') := Lib.hid (fun x => get_pr b n x.W hn (Hb.below x.h) lb)
  have hcmp := bs_beq (getB_lt a.l n Ha.2) (getB_lt b.l n Hb.2)
  have hne : ((bs (getB a.l n)).toList != (bs (getB b.l n)).toList) = !decide (getB a.l n = getB b.l n) := by rw [← hcmp]; rfl
  have hd : differs a.l b.l n = !decide (getB a.l n = getB b.l n) := by unfold differs; simp
  rw [hd]
  clear hd h1 h2 Ha Hb la lb hn
  unfold PR.val at *
  generalize decide (getB a.l n = getB b.l n) = D at *
  generalize bs (getB a.l n) = ga at *
  generalize bs (getB b.l n) = gb at *
  generalize bs n = nb at *
  generalize a.l.length = al at *
  generalize b.l.length = bl at *
  generalize a.A = aA at *
  generalize b.A = bA at *
  generalize a.c = ac at *
  generalize b.c = bc at *
  cases D
  all_goals
    go_enter Try.func65, Try.ntmps65
    go_wp2_with fail
    refine wp_region_exts (by kernel_rfl) (by kernel_rfl) ?_
    repeat
      first
        | go_big_quiet_skip
        | (go_big_quiet_want; go_big_quiet_op
           first
             | go_big_quiet_on
             | (apply Exists.intro
                refine ⟨fun x => ?_, ?_⟩
                · (first
                    | (go_at_call 36; with_reducible exact calls_ext (Nat.le_refl _) (HA.out x))
                    | (go_at_call 36; with_reducible exact calls_ext (Nat.le_refl _) (HB.out x)))
                go_big_quiet_on
                try (skip)))
    refine wpQuiet_nil ?_
    rintro _ ⟨x, rfl⟩
    have KX := Lib.hid x.h
    clear e0 e1
    go_wp2
    go_ret
    exact ⟨rfl, KX.out⟩
end Go.Proofs.Ytnidjfmbbfoheaa
