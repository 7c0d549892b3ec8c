/- WALKS: match.All (over slices.ContainsFunc, IndexFunc of matchers). -/
import Derived.Test.YtnidjfmbbfoheaaMaE
namespace Go.Proofs.Ytnidjfmbbfoheaa
set_option linter.unusedVariables false
set_option linter.unusedSimpArgs false
open Go.RowKit

theorem any_pre {α : Type} (l : List α) (q : α → Bool) (h : ∀ (j : Nat) (x : α), l[j]? = some x → q x = false) : l.any q = false := by
  rw [List.any_eq_false]
  intro x hx
  obtain ⟨k, hk⟩ := List.mem_iff_getElem?.1 hx
  rw [h k x hk]
  simp
set_option maxRecDepth 100000 in
set_option maxHeartbeats 2000000 in
theorem idx103 (q : Mt → Bool) (g : Nat) (lb : Array Value) (eg : ∀ args w, (callFunc g args).run Try.prog w = .ok (.enter g args) w) (A0 : Option Addr) (cp : Nat) (l : List Mt) (w : World) (hlen : l.length ≤ 4294967296) (R : ReadsMt w (fun b => b < w.heap.size) A0 l)
    (hp : ∀ (W : World) (m : Mt), m ∈ l → Below w.heap.size w W → Calls Try.prog g (#[m.val] ++ lb) W fun e w' => e = .returned (.bool (q m)) ∧ Below W.heap.size W w') :
    Calls Try.prog 103 #[.slice A0 l.length cp, .func (.func g) #[] lb] w fun e w' => ∃ k : Int, e = .returned (.int .i64 k) ∧ (decide (0 ≤ k) = l.any q) ∧ Below w.heap.size w w' := by
  have HR := Lib.hid R
  have HP := Lib.hid hp
  clear R hp
  go_enter Try.func103, Try.ntmps103
  go_wp2
  go_loopg [5, 8] l.length (fun gg s5 s8 wr => ∃ i : Nat, s8 = .int .i64 (i : Int) ∧ i ≤ l.length ∧ l.length - i ≤ gg ∧ Hid (∀ (j : Nat) (x : Mt), j < i → l[j]? = some x → q x = false) ∧ Hid (Below w.heap.size w wr))
  case atStart => exact ⟨0, by go_num, by omega, by omega, Lib.hid (fun j x h => by omega), Lib.hid (Below.refl _ _)⟩
  case round =>
    obtain ⟨i, rfl, hi, hgg, HJ, K1⟩ := hrel
    by_cases hlt : i < l.length
    · have hiI : (i : Int) < (l.length : Int) := by omega
      have hi0 : (0 : Int) ≤ (i : Int) := by omega
      obtain ⟨b, o, rfl, hb, hcell⟩ := (HR.out.below (by omega) K1.out).2 (by omega)
      obtain ⟨m, hm⟩ : ∃ m, l[i]? = some m := ⟨_, List.getElem?_eq_getElem hlt⟩
      obtain ⟨g0, g1, g2⟩ := mts_get l i m hm
      have c0 := hcell _ _ g0
      have c1 := hcell _ _ g1
      have c2 := hcell _ _ g2
      rw [← Nat.add_assoc] at c1 c2
      have hcall := Lib.hid (HP.out wr m (List.mem_of_getElem? hm) K1.out)
      have HM := Lib.hid hm
      clear g0 g1 g2 hcell hm
      unfold Mt.val mval at hcall
      generalize bs m.n = mn at *
      generalize bs m.v = mv at *
      generalize m.op = mo at *
      obtain ⟨Q, hQ⟩ : ∃ Q, q m = Q := ⟨_, rfl⟩
      rw [hQ] at hcall
      have HQ := Lib.hid hQ
      clear hQ
      cases Q with
      | true =>
        go_wp2_with (go_at_fn g; refine hcall.out.mono ?_; rintro e w2 ⟨rfl, hb2⟩; have K2 := Lib.hid (below_then K1.out K1.out.size hb2); clear hb2)
        go_ret
        refine ⟨i, rfl, ?_, K2.out⟩
        rw [decide_eq_true hi0]
        symm
        rw [List.any_eq_true]
        exact ⟨m, List.mem_of_getElem? HM.out, HQ.out⟩
      | false =>
        go_wp2_with (go_at_fn g; refine hcall.out.mono ?_; rintro e w2 ⟨rfl, hb2⟩; have K2 := Lib.hid (below_then K1.out K1.out.size hb2); clear hb2)
        go_roundg (l.length - (i + 1))
        case measure => omega
        case rel =>
          refine ⟨i + 1, by go_num, by omega, by omega, Lib.hid (fun j x hj hx => ?_), K2⟩
          by_cases hji : j = i
          · subst hji; rw [HM.out] at hx; injection hx with hx; subst hx; exact HQ.out
          · exact HJ.out j x (by omega) hx
    · have hie : i = l.length := by omega
      have hv : l.any q = false := any_pre l q (fun j x hx => HJ.out j x (by rw [hie]; exact (List.getElem?_eq_some_iff.1 hx).1) hx)
      have HV := Lib.hid hv
      clear hv
      subst hie
      go_wp2
      go_ret
      exact ⟨-1, rfl, by rw [HV.out]; rfl, K1.out⟩
set_option maxRecDepth 100000 in
theorem contains69 (q : Mt → Bool) (g : Nat) (lb : Array Value) (eg : ∀ args w, (callFunc g args).run Try.prog w = .ok (.enter g args) w) (A0 : Option Addr) (cp : Nat) (l : List Mt) (w : World) (hlen : l.length ≤ 4294967296) (R : ReadsMt w (fun b => b < w.heap.size) A0 l)
    (hp : ∀ (W : World) (m : Mt), m ∈ l → Below w.heap.size w W → Calls Try.prog g (#[m.val] ++ lb) W fun e w' => e = .returned (.bool (q m)) ∧ Below W.heap.size W w') :
    Calls Try.prog 69 #[.slice A0 l.length cp, .func (.func g) #[] lb] w fun e w' => e = .returned (.bool (l.any q)) ∧ Below w.heap.size w w' := by
  have H := Lib.hid (idx103 q g lb eg A0 cp l w hlen R hp)
  clear R hp
  go_enter Try.func69, Try.ntmps69
  go_wp2_with (go_at_call 103; refine H.out.mono ?_; rintro e w2 ⟨k, rfl, hk, hb2⟩; have K2 := Lib.hid hb2; have HK := Lib.hid hk; clear hb2 hk)
  go_ret
  exact ⟨by rw [← HK.out]; rfl, K2.out⟩
theorem eg70 : ∀ args w, (callFunc 70 args).run Try.prog w = .ok (.enter 70 args) w := enters_of Try.func70 (by kernel_rfl) rfl
set_option maxRecDepth 100000 in
theorem clos70 (A0 : Option Addr) (cp : Nat) (l : List Pr) (m : Mt) (B : Nat) (w : World) (hm : m.Ok) (hlen : l.length ≤ 9223372036854775807) (hB : Blk w B 38 #[.slice A0 l.length cp]) (R : ReadsP w (fun b => b < w.heap.size) A0 l) (hl : ∀ p ∈ l, p.Ok) (hv : ∀ p ∈ l, p.v.length ≤ 1000000000) :
    Calls Try.prog 70 #[m.val, .pointer (some ⟨B, 0, none⟩)] w fun e w' => e = .returned (.bool (!oneB m l)) ∧ Below w.heap.size w w' := by
  have y := (hB.alloc (.cells #[.string (bs m.n), .int .u8 m.op, .string (bs m.v)] 37)).cell 0
  have hBl := hB.lt
  have H := Lib.hid (fun w' (hb : Below w.heap.size w w') => mone_any A0 cp l m w' hm hlen ((R.below (by omega) hb).imp (fun b hb' => Nat.lt_of_lt_of_le hb' hb.size)) hl hv)
  clear hB R hl hv hm
  unfold Mt.val mval at *
  generalize oneB m l = Q at *
  generalize bs m.n = mn at *
  generalize bs m.v = mv at *
  generalize m.op = mo at *
  simp only [List.getElem?_toArray, List.getElem?_cons_zero] at y
  have K1 := Lib.hid ((Below.refl w.heap.size w).alloc (Nat.le_refl _) (.cells #[.string mn, .int .u8 mo, .string mv] 37))
  go_enter Try.func70, Try.ntmps70
  go_wp2_with (go_at_call 32; refine (H.out _ K1.out).mono ?_; rintro e w2 ⟨rfl, hb2⟩; have K2 := Lib.hid (below_then K1.out K1.out.size hb2); clear hb2)
  go_ret
  exact ⟨rfl, K2.out⟩
theorem allB_is (ms : List Mt) (l : List Pr) : allB ms l = !(ms.any fun m => !oneB m l) := by
  unfold allB
  induction ms with
  | nil => rfl
  | cons m r ih => simp [ih]
set_option maxRecDepth 100000 in
theorem all_any (Am : Option Addr) (cm : Nat) (ms : List Mt) (A0 : Option Addr) (cp : Nat) (l : List Pr) (w : World) (hms : ms.length ≤ 4294967296) (hlen : l.length ≤ 9223372036854775807) (Rm : ReadsMt w (fun b => b < w.heap.size) Am ms) (hm : ∀ m ∈ ms, m.Ok)
    (R : ReadsP w (fun b => b < w.heap.size) A0 l) (hl : ∀ p ∈ l, p.Ok) (hv : ∀ p ∈ l, p.v.length ≤ 1000000000) :
    Calls Try.prog 40 #[.slice Am ms.length cm, .slice A0 l.length cp] w fun e w' => e = .returned (.bool (allB ms l)) ∧ Below w.heap.size w w' := by
  rw [allB_is]
  have b0 : Below w.heap.size w (w.alloc (.cells #[.slice A0 l.length cp] 38)) := (Below.refl w.heap.size w).alloc (Nat.le_refl _) _
  have K1 := Lib.hid b0
  have H := Lib.hid (contains69 (fun m => !oneB m l) 70 #[.pointer (some ⟨w.heap.size, 0, none⟩)] eg70 Am cm ms (w.alloc (.cells #[.slice A0 l.length cp] 38)) hms ((Rm.below (by omega) b0).imp (fun b hb' => Nat.lt_of_lt_of_le hb' b0.size)) (fun W m hmm hb =>
    clos70 A0 cp l m w.heap.size W (hm m hmm) hlen ((Blk.new w 38 _).below hb (by simp)) (((R.below (by omega) b0).imp (fun b hb' => Nat.lt_of_lt_of_le hb' b0.size)).below (by omega) hb |>.imp (fun b hb' => Nat.lt_of_lt_of_le hb' hb.size)) hl hv))
  clear Rm hm R hl hv b0
  generalize (ms.any fun m => !oneB m l) = Q at *
  go_enter Try.func40, Try.ntmps40
  go_wp2_with (go_at_call 69; refine H.out.mono ?_; rintro e w2 ⟨rfl, hb2⟩; have K2 := Lib.hid (below_then K1.out K1.out.size hb2); clear hb2)
  go_ret
  exact ⟨rfl, K2.out⟩
end Go.Proofs.Ytnidjfmbbfoheaa
