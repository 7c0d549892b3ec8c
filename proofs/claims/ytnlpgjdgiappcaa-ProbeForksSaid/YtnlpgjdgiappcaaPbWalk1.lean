/- WALKS: probe's may, New, Asked, Ack, packet, drawn. -/
import Derived.Test.YtnlpgjdgiappcaaPbWords
import Derived.Deep.DeepCutAuto
import Derived.Deep.RegionWith
namespace Go.Proofs.Ytnlpgjdgiappcaa
set_option linter.unusedVariables false
set_option linter.unusedSimpArgs false
open Go.RowKit

theorem pmay_any (t least : Int) (w : World) : Calls Try.prog 51 #[.int .i64 t, .int .i64 least] w fun e w' => e = .returned (.bool (Pl.may t least)) ∧ Below w.heap.size w w' := by
  go_enter Try.func51, Try.ntmps51
  unfold Pl.may
  by_cases h1 : least ≤ t <;> by_cases h2 : t ≤ 1099511627776
  all_goals
    go_wp2
    go_ret
    exact ⟨ret_bool (by simp [h1, h2]), Below.refl _ _⟩

/-! ### New -/
def p00 : Pl.Pb := Pl.pnew 0 0 0
theorem zero111 (w : World) : (zeroValue 111).run Try.prog w = .ok (.agg (pcells p00)) w := by kernel_rfl
theorem pcells_new (me per tmo : Int) : (((pcells p00).setIfInBounds 0 (.int .u16 me)).setIfInBounds 1 (.int .i64 per)).setIfInBounds 2 (.int .i64 tmo) = pcells (Pl.pnew me per tmo) := by
  have nine : ∀ {P : Nat → Prop}, P 0 → P 1 → P 2 → P 3 → P 4 → P 5 → P 6 → P 7 → P 8 → ∀ j, j < 9 → P j := fun a b c d e f g h i j hj => by
    rcases (show j = 0 ∨ j = 1 ∨ j = 2 ∨ j = 3 ∨ j = 4 ∨ j = 5 ∨ j = 6 ∨ j = 7 ∨ j = 8 by omega) with rfl | rfl | rfl | rfl | rfl | rfl | rfl | rfl | rfl <;> assumption
  rw [pcells_headset p00 (Pl.pnew me 0 0) 0 (by omega) (.int .u16 me) (nine rfl rfl rfl rfl rfl rfl rfl rfl rfl) rfl,
    pcells_headset (Pl.pnew me 0 0) (Pl.pnew me per 0) 1 (by omega) (.int .i64 per) (nine rfl rfl rfl rfl rfl rfl rfl rfl rfl) rfl,
    pcells_headset (Pl.pnew me per 0) (Pl.pnew me per tmo) 2 (by omega) (.int .i64 tmo) (nine rfl rfl rfl rfl rfl rfl rfl rfl rfl) rfl]
/-- May a probe be? -/
def newMay (me per tmo : Int) : Bool := decide (me < 64) && Pl.may per 1 && Pl.may tmo 1
set_option maxRecDepth 100000 in
set_option maxHeartbeats 1000000 in
theorem pnew_yes (me per tmo : Int) (w : World) (h0 : 0 ≤ me) (h1 : me < 64) (h2 : Pl.may per 1 = true) (h3 : Pl.may tmo 1 = true) :
    Calls Try.prog 33 #[.int .u16 me, .int .i64 per, .int .i64 tmo] w fun e w' => ∃ g, e = .returned (.tuple #[.pointer (some ⟨g, 0, none⟩), .int .i64 0]) ∧ Below w.heap.size w w' ∧ w.heap.size ≤ g ∧ IsPb w' g (Pl.pnew me per tmo) := by
  have hz := fun w => zero111 w
  have hnew := pcells_new me per tmo
  have hsz := pcells_size p00
  generalize pcells p00 = Z at *
  have hne : ¬ Z = #[] := fun e => by rw [e] at hsz; simp at hsz
  have HN := Lib.hid hnew
  have HA := Lib.hid h2
  have HB := Lib.hid h3
  clear hnew h2 h3
  go_enter Try.func33, Try.ntmps33
  go_wp2_with fail
  refine (pmay_any per 1 _).mono ?_
  rw [HA.out]
  rintro e w1 ⟨rfl, hb1⟩
  have K1 := Lib.hid hb1
  clear hb1
  go_wp2_with fail
  refine (pmay_any tmo 1 _).mono ?_
  rw [HB.out]
  rintro e w2 ⟨rfl, hb2⟩
  have K2 := Lib.hid (below_then K1.out K1.out.size hb2)
  clear hb2
  go_wp2
  rw [HN.out]
  refine bodyPost_ret (v := .tuple #[.pointer (some ⟨w2.heap.size, 0, none⟩), .int .i64 0]) (by simp [results, Try.results33, go_sem]) rfl ⟨w2.heap.size, rfl, K2.out.alloc K2.out.size _, K2.out.size, ?_⟩
  exact Blk.new w2 111 (pcells (Pl.pnew me per tmo))
set_option maxRecDepth 100000 in
set_option maxHeartbeats 1000000 in
theorem pnew_far (me per tmo : Int) (w : World) (h1 : 64 ≤ me) :
    Calls Try.prog 33 #[.int .u16 me, .int .i64 per, .int .i64 tmo] w fun e w' => e = .returned (.tuple #[.pointer none, .int .i64 2]) ∧ Below w.heap.size w w' := by
  go_enter Try.func33, Try.ntmps33
  go_wp2
  refine bodyPost_ret (v := .tuple #[.pointer none, .int .i64 2]) (by simp [results, Try.results33, go_sem]) rfl ⟨rfl, Below.refl _ _⟩
set_option maxRecDepth 100000 in
set_option maxHeartbeats 1000000 in
theorem pnew_no (me per tmo : Int) (w : World) (h0 : 0 ≤ me) (h1 : me < 64) (h2 : (Pl.may per 1 && Pl.may tmo 1) = false) :
    Calls Try.prog 33 #[.int .u16 me, .int .i64 per, .int .i64 tmo] w fun e w' => e = .returned (.tuple #[.pointer none, .int .i64 13]) ∧ Below w.heap.size w w' := by
  cases hA : Pl.may per 1 with
  | false =>
    have HA := Lib.hid hA
    clear hA h2
    go_enter Try.func33, Try.ntmps33
    go_wp2_with fail
    refine (pmay_any per 1 _).mono ?_
    rw [HA.out]
    rintro e w1 ⟨rfl, hb1⟩
    have K1 := Lib.hid hb1
    clear hb1
    go_wp2
    refine bodyPost_ret (v := .tuple #[.pointer none, .int .i64 13]) (by simp [results, Try.results33, go_sem]) rfl ⟨rfl, K1.out⟩
  | true =>
    have hB : Pl.may tmo 1 = false := by rw [hA] at h2; simpa using h2
    have HA := Lib.hid hA
    have HB := Lib.hid hB
    clear hA hB h2
    go_enter Try.func33, Try.ntmps33
    go_wp2_with fail
    refine (pmay_any per 1 _).mono ?_
    rw [HA.out]
    rintro e w1 ⟨rfl, hb1⟩
    have K1 := Lib.hid hb1
    clear hb1
    go_wp2_with fail
    refine (pmay_any tmo 1 _).mono ?_
    rw [HB.out]
    rintro e w2 ⟨rfl, hb2⟩
    have K2 := Lib.hid (below_then K1.out K1.out.size hb2)
    clear hb2
    go_wp2
    refine bodyPost_ret (v := .tuple #[.pointer none, .int .i64 13]) (by simp [results, Try.results33, go_sem]) rfl ⟨rfl, K2.out⟩

/-! ### Asked, Ack -/
def askedVal (p : Pl.Pb) : Value := if p.op = true then .tuple #[.int .u16 p.nd, .int .i64 p.seq, .bool true] else .tuple #[.int .u16 0, .int .i64 0, .bool false]
set_option maxRecDepth 100000 in
theorem asked_any (g : Nat) (p : Pl.Pb) (w : World) (H : IsPb w g p) : Calls Try.prog 37 #[.pointer (some ⟨g, 0, none⟩)] w fun e w' => e = .returned (askedVal p) ∧ Below w.heap.size w w' := by
  have c4 := H.head 4 (by omega)
  have c5 := H.head 5 (by omega)
  have c7 := H.head 7 (by omega)
  have hlt := H.lt
  simp only [phead, List.getElem?_cons_zero, List.getElem?_cons_succ] at c4 c5 c7
  clear H
  unfold askedVal
  obtain ⟨me, per, tmo, nxt, seq, op, hlp, nd, at_, ws⟩ := p
  simp only at c4 c5 c7 ⊢
  cases op with
  | false =>
    go_enter Try.func37, Try.ntmps37
    go_wp2
    refine bodyPost_ret (v := .tuple #[.int .u16 0, .int .i64 0, .bool false]) (by simp [results, Try.results37, go_sem]) rfl ⟨rfl, Below.refl _ _⟩
  | true =>
    go_enter Try.func37, Try.ntmps37
    go_wp2
    go_quiet (fail)
    go_wp2
    refine bodyPost_ret (v := .tuple #[.int .u16 nd, .int .i64 seq, .bool true]) (by simp [results, Try.results37, go_sem]) rfl ⟨rfl, below_drewN (Below.refl _ _) _⟩
theorem asked_nil (w : World) : Calls Try.prog 37 #[.pointer none] w fun e w' => e = .returned (.tuple #[.int .u16 0, .int .i64 0, .bool false]) ∧ Below w.heap.size w w' := by
  go_enter Try.func37, Try.ntmps37
  go_wp2
  refine bodyPost_ret (v := .tuple #[.int .u16 0, .int .i64 0, .bool false]) (by simp [results, Try.results37, go_sem]) rfl ⟨rfl, Below.refl _ _⟩
set_option maxRecDepth 100000 in
set_option maxHeartbeats 1000000 in
theorem ack_any (g : Nat) (p : Pl.Pb) (about seq : Int) (w : World) (H : IsPb w g p) : Calls Try.prog 35 #[.pointer (some ⟨g, 0, none⟩), .int .u16 about, .int .i64 seq] w fun e w' =>
    e = .returned (.bool (Pl.ack p about seq).1) ∧ w.grownBy w' (some g) ∧ IsPb w' g (Pl.ack p about seq).2 := by
  have hcon := asked_any g p w H
  have hlt := H.lt
  have HH := Lib.hid H
  clear H
  unfold Pl.ack
  unfold askedVal at hcon
  by_cases h1 : p.op = true
  · rw [if_pos h1] at hcon
    by_cases h2 : p.nd = about
    · by_cases h3 : p.seq = seq
      · rw [if_pos ⟨h1, h2, h3⟩]
        subst h2 h3
        clear h1
        go_enter Try.func35, Try.ntmps35
        go_wp2_with fail
        refine hcon.mono ?_
        rintro e w1 ⟨rfl, hb1⟩
        have H1 := HH.out.below hb1 hlt
        have hl1 := H1.lt
        have c5 := H1.head 5 (by omega)
        have f5 := H1.frozen 5
        simp only [phead, List.getElem?_cons_zero, List.getElem?_cons_succ] at c5
        have HI := Lib.hid H1
        have HB := Lib.hid hb1
        clear H1 hb1 hcon
        go_wp2
        go_ret
        exact ⟨rfl, grown_setCell (g := g) (grown_of_below HB.out (some g)) (.inl rfl) _, HI.out.set_op false⟩
      · rw [if_neg (fun h => h3 h.2.2)]
        have h3' : (p.seq != seq) = true := by simpa using h3
        subst h2
        clear h1
        go_enter Try.func35, Try.ntmps35
        go_wp2_with fail
        refine hcon.mono ?_
        rintro e w1 ⟨rfl, hb1⟩
        have HB := Lib.hid hb1
        clear hb1 hcon
        go_wp2
        go_ret
        exact ⟨rfl, grown_of_below HB.out (some g), HH.out.below HB.out hlt⟩
    · rw [if_neg (fun h => h2 h.2.1)]
      have h2' : (p.nd != about) = true := by simpa using h2
      clear h1
      go_enter Try.func35, Try.ntmps35
      go_wp2_with fail
      refine hcon.mono ?_
      rintro e w1 ⟨rfl, hb1⟩
      have HB := Lib.hid hb1
      clear hb1 hcon
      go_wp2
      go_ret
      exact ⟨rfl, grown_of_below HB.out (some g), HH.out.below HB.out hlt⟩
  · rw [if_neg h1] at hcon
    rw [if_neg (fun h => h1 h.1)]
    clear h1
    go_enter Try.func35, Try.ntmps35
    go_wp2_with fail
    refine hcon.mono ?_
    rintro e w1 ⟨rfl, hb1⟩
    have HB := Lib.hid hb1
    clear hb1 hcon
    go_wp2
    go_ret
    exact ⟨rfl, grown_of_below HB.out (some g), HH.out.below HB.out hlt⟩
theorem ack_nil (about seq : Int) (w : World) : Calls Try.prog 35 #[.pointer none, .int .u16 about, .int .i64 seq] w fun e w' => e = .returned (.bool false) ∧ Below w.heap.size w w' := by
  go_enter Try.func35, Try.ntmps35
  go_wp2_with fail
  refine (asked_nil _).mono ?_
  rintro e w1 ⟨rfl, hb1⟩
  have HB := Lib.hid hb1
  clear hb1
  go_wp2
  go_ret
  exact ⟨rfl, HB.out⟩

/-! ### packet, drawn -/
def pkt (k fr ab sq : Int) : Value := .agg #[.int .u8 k, .int .u16 fr, .int .u16 ab, .int .i64 sq, .slice none 0 0, .slice none 0 0]
set_option maxRecDepth 100000 in
set_option maxHeartbeats 1000000 in
theorem packet_any (g : Nat) (p : Pl.Pb) (k ab : Int) (w : World) (H : IsPb w g p) : Calls Try.prog 56 #[.pointer (some ⟨g, 0, none⟩), .int .u8 k, .int .u16 ab] w fun e w' =>
    e = .returned (pkt k p.me ab p.seq) ∧ Below w.heap.size w w' := by
  have hlt := H.lt
  go_enter Try.func56, Try.ntmps56
  go_wp2
  have hB : Below w.heap.size w (w.alloc (.cells #[.int .u8 0, .int .u16 0, .int .u16 0, .int .i64 0, .slice none 0 0, .slice none 0 0] 67)) := (Below.refl _ _).alloc (Nat.le_refl _) _
  have H1 := H.alloc (.cells #[.int .u8 0, .int .u16 0, .int .u16 0, .int .i64 0, .slice none 0 0, .slice none 0 0] 67)
  have b0 := Blk.new w 67 #[.int .u8 0, .int .u16 0, .int .u16 0, .int .i64 0, .slice none 0 0, .slice none 0 0]
  generalize w.alloc (.cells #[.int .u8 0, .int .u16 0, .int .u16 0, .int .i64 0, .slice none 0 0, .slice none 0 0] 67) = W at *
  generalize hr : w.heap.size = r at *
  have q1 := b0.cell 0
  have q2 := b0.cell 1
  have q3 := b0.cell 2
  have q4 := b0.cell 3
  have q5 := b0.cell 4
  have q6 := b0.cell 5
  have qf := b0.frozen
  simp only [List.getElem?_toArray, List.getElem?_cons_zero, List.getElem?_cons_succ] at q1 q2 q3 q4 q5 q6
  have c0 := H1.head 0 (by omega)
  have c4 := H1.head 4 (by omega)
  simp only [phead, List.getElem?_cons_zero, List.getElem?_cons_succ] at c0 c4
  have HB := Lib.hid hB
  have HR := Lib.hid hr
  clear H H1 b0 hB hr
  go_still_tail 11, (by kernel_rfl)
  change wpList _ _ _ _ _ (World.drew W)
  go_wp2
  refine bodyPost_ret (v := pkt k p.me ab p.seq) (by simp [results, Try.results56, go_sem, q1, q2, q3, q4, q5, q6, pkt]) rfl ⟨rfl, ?_⟩
  rw [HR.out]
  exact ((((((HB.out.setCell (Nat.le_refl _) _).setCell (Nat.le_refl _) _).setCell (Nat.le_refl _) _).setCell (Nat.le_refl _) _).setCell (Nat.le_refl _) _).setCell (Nat.le_refl _) _).drew

def drawnVal : Option Int → Value
  | some n => .tuple #[.int .u16 n, .bool true]
  | none => .tuple #[.int .u16 0, .bool false]
theorem drawn_nil (A : Option Addr) (c : Nat) (d : Int) (w : World) : Calls Try.prog 54 #[.slice A 0 c, .int .u32 d] w fun e w' => e = .returned (drawnVal none) ∧ Below w.heap.size w w' := by
  go_enter Try.func54, Try.ntmps54
  go_wp2
  refine bodyPost_ret (v := drawnVal none) (by simp [results, Try.results54, go_sem, drawnVal]) rfl ⟨rfl, Below.refl _ _⟩
set_option maxRecDepth 100000 in
theorem drawn_some (A : Option Addr) (c : Nat) (l : List Int) (d x : Int) (w : World) (S : Nat → Prop) (hR : Reads w S 1 A l.length (u16s l)) (hd0 : 0 ≤ d) (hd1 : d ≤ 4294967295) (hx : l[(d % (l.length : Int)).toNat]? = some x) (hlen : l.length ≤ 64) :
    Calls Try.prog 54 #[.slice A l.length c, .int .u32 d] w fun e w' => e = .returned (drawnVal (some x)) ∧ Below w.heap.size w w' := by
  have hlt := (List.getElem?_eq_some_iff.1 hx).1
  have hpos : 0 < l.length := by omega
  obtain ⟨k, hk⟩ : ∃ k : Nat, (d % (l.length : Int)) = (k : Int) := ⟨(d % (l.length : Int)).toNat, by have := Int.emod_nonneg d (show (l.length : Int) ≠ 0 by omega); omega⟩
  rw [hk, Int.toNat_natCast] at hx hlt
  obtain ⟨b, o, rfl, hb, hc⟩ := hR.2 hpos
  have hcell := hc k _ (u16s_get l k x hx)
  have htm : Int.tmod d (l.length : Int) = (k : Int) := by rw [Int.tmod_eq_emod_of_nonneg hd0, hk]
  have hkl : (k : Int) < (l.length : Int) := by omega
  have hne : ((l.length : Int) == 0) = false := by rw [beq_eq_false_iff_ne]; omega
  have hne2 : ((l.length : Nat) == 0) = false := by rw [beq_eq_false_iff_ne]; omega
  generalize l.length = n at *
  clear hx hk hR hc
  go_enter Try.func54, Try.ntmps54
  go_wp2
  refine bodyPost_ret (v := drawnVal (some x)) (by simp [results, Try.results54, go_sem, drawnVal]) rfl ⟨rfl, Below.refl _ _⟩
end Go.Proofs.Ytnlpgjdgiappcaa
