/- WALKS: reach. -/
import Derived.Test.YtnidjfmbbfoheaaRxC2
namespace Go.Proofs.Ytnidjfmbbfoheaa
set_option linter.unusedVariables false
set_option linter.unusedSimpArgs false
open Go.RowKit

/-- Places that are on. -/
def Bw (w : World) (b : Nat) (x : List Bool) : Prop := Blk w b 4 (x.map Value.bool).toArray
section
variable {w w' : World} {B g b : Nat} {c : Rx.Cm} {x : List Bool}
theorem Bw.cell (h : Bw w b x) (i : Nat) (u : Bool) (hi : x[i]? = some u) : w.cell? ⟨b, i, none⟩ = some (.bool u) := by
  have := Blk.cell h i
  rw [this]
  simp [hi]
theorem Bw.set_ (h : Bw w b x) (i : Nat) (u : Bool) : Bw (w.setCell ⟨b, i, none⟩ (.bool u)) b (x.set i u) := by
  have := Blk.set_ h i (.bool u)
  have e : ((x.map Value.bool).toArray.setIfInBounds i (.bool u)) = ((x.set i u).map Value.bool).toArray := by simp [List.map_set]
  rw [e] at this
  exact this
theorem IsRx.far {t : TypeId} {cs : Array Value} (h : IsRx w B g c) (hb : Blk w b t cs) (ht : t ≠ 105 ∧ t ≠ 164 ∧ t ≠ 107) (k : w.grownBy w' (some b)) : IsRx w' B g c := by
  obtain ⟨v, h1, h2, h3⟩ := h
  have hg : some g ≠ some b := fun e => by injection e with e; exact h1.ne_ hb (fun e => ht.2.2 e.symm) e
  refine ⟨v, h1.grown k hg, h2.keep (fun g' t' cs' _ ht' hg' => k.block g' hg'.lt (fun e => ?_)), h3⟩
  injection e with e
  exact Blk.ne_ hg' hb (by rcases ht' with rfl | rfl; exact fun e => ht.1 e.symm; exact fun e => ht.2.1 e.symm) e
end
theorem reach_neg (g : Nat) (k : Int) (b l : Nat) (w : World) (hk : k < 0) (hk2 : -1 ≤ k) :
    Calls Try.prog 63 #[.pointer (some ⟨g, 0, none⟩), .int .i64 k, .slice (some ⟨b, 0, none⟩) l l] w fun e w' => e = .returned (.tuple #[]) ∧ w' = w := by
  go_enter Try.func63, Try.ntmps63
  go_wp2
  exact bodyPost_ret (v := .tuple #[]) (results_none (by first | exact Try.results63 | rfl) _ _ _) rfl ⟨rfl, rfl⟩
theorem reach_on (g : Nat) (k : Nat) (b l : Nat) (w : World) (hk : (k : Int) < (l : Int)) (hk0 : (0 : Int) ≤ (k : Int)) (hl : l ≤ 1000000) (hc : w.cell? ⟨b, k, none⟩ = some (.bool true)) :
    Calls Try.prog 63 #[.pointer (some ⟨g, 0, none⟩), .int .i64 (k : Int), .slice (some ⟨b, 0, none⟩) l l] w fun e w' => e = .returned (.tuple #[]) ∧ w' = w := by
  go_enter Try.func63, Try.ntmps63
  go_wp2
  exact bodyPost_ret (v := .tuple #[]) (results_none (by first | exact Try.results63 | rfl) _ _ _) rfl ⟨rfl, rfl⟩

theorem Bw.get {w : World} {b : Nat} {x : List Bool} (h : Bw w b x) (i : Nat) (hi : i < x.length) : w.cell? ⟨b, i, none⟩ = some (.bool x[i]) := h.cell i _ (List.getElem?_eq_getElem hi)
set_option maxRecDepth 100000 in
set_option maxHeartbeats 2000000 in
theorem reach_any (c : Rx.Cm) (V : Rx.Val c) (B g : Nat) (hl : c.st.length ≤ 1000000) : ∀ (n : Nat) (k : Int) (x : List Bool) (b : Nat) (w : World), IsRx w B g c → Bw w b x → x.length = c.st.length - 1 → -1 ≤ k → k < (c.st.length : Int) - 1 → Rx.cf x < n →
    Calls Try.prog 63 #[.pointer (some ⟨g, 0, none⟩), .int .i64 k, .slice (some ⟨b, 0, none⟩) x.length x.length] w fun e w' => e = .returned (.tuple #[]) ∧ Bw w' b (Rx.reach c.st n k x) ∧ w.grownBy w' (some b) := by
  intro n
  induction n with
  | zero => intro k x b w _ _ _ _ _ h; omega
  | succ n ih =>
    intro k x b w HI HB hx h0 h1 hcf
    by_cases hk : k < 0
    · refine (reach_neg g k b x.length w hk h0).mono ?_
      rintro e w' ⟨rfl, rfl⟩
      refine ⟨rfl, ?_, .refl _ _⟩
      unfold Rx.reach
      rw [if_pos (.inl hk)]
      exact HB
    · obtain ⟨j, rfl⟩ : ∃ j : Nat, k = (j : Int) := ⟨k.toNat, by omega⟩
      have hj : j < x.length := by omega
      by_cases hon : x[j]? = some true
      · refine (reach_on g j b x.length w (by omega) (by omega) (by omega) (HB.cell j true hon)).mono ?_
        rintro e w' ⟨rfl, rfl⟩
        refine ⟨rfl, ?_, .refl _ _⟩
        unfold Rx.reach
        rw [if_pos (.inr (by rw [Int.toNat_natCast]; exact hon))]
        exact HB
      · have hxj : x[j]? = some false := by
          rw [List.getElem?_eq_getElem hj] at hon ⊢
          cases hb : x[j] with
          | false => rfl
          | true => rw [hb] at hon; exact absurd rfl hon
        have hst : j < c.st.length := by omega
        obtain ⟨q, hq⟩ : ∃ q, c.st[j]? = some q := ⟨_, List.getElem?_eq_getElem hst⟩
        have hv := Rx.V_st V j q hq
        have hon0 := Lib.hid hon
        have hset := Rx.cf_set hj (by unfold Rx.on; exact hon)
        have HQ := Lib.hid hq
        have HV := Lib.hid hv
        have HCF := Lib.hid hcf
        have HSET := Lib.hid hset
        have HW := Lib.hid (HI.far HB ⟨by decide, by decide, by decide⟩ (grown_setCell (g := b) (World.grownBy.refl w _) (p := ⟨b, j, none⟩) (.inl rfl) (.bool true)))
        have HB1 := Lib.hid (HB.set_ j true)
        have hc0 := HB.cell j false hxj
        have hf0 := HB.frozen j
        have hbl := Blk.lt HB
        have HXL := Lib.hid hx
        have hjI : (j : Int) < (x.length : Int) := by omega
        have hj0 : (0 : Int) ≤ (j : Int) := by omega
        have hxl : x.length ≤ 1000000 := by omega
        clear hcf hset hv hq hxj hon h0 h1 hk
        obtain ⟨v, hg1, hrow, hbg⟩ := HW.out
        obtain ⟨g1, c1, p, rfl, hB1, ⟨cur, hcur⟩, r0, r1, r2, hso⟩ := hrow.at_ HQ.out
        have y0 := hg1.cell 0
        simp only [List.getElem?_toArray, List.getElem?_cons_zero] at y0
        have hjs : (j : Int) < (c.st.length : Int) := by omega
        clear hrow hg1 hx
        have HIH := Lib.hid ih
        clear ih
        have HSO := Lib.hid hso
        clear hso
        rcases p with _ | b2
        · have hqs : q.set = none := by
            have := HSO.out
            cases hs : q.set with
            | none => rfl
            | some y => rw [hs] at this; exact this.elim
          have HQS := Lib.hid hqs
          clear hqs
          simp only [pv] at r0
          have hbx : Blk ((w.setCell ⟨b, j, none⟩ (.bool true)).alloc (.cells #[.pointer none, .int .i64 q.nxt, .int .i64 q.oth] 105)) w.heap.size 105 #[.pointer none, .int .i64 q.nxt, .int .i64 q.oth] := by
            have := Blk.new (w.setCell ⟨b, j, none⟩ (.bool true)) 105 #[.pointer none, .int .i64 q.nxt, .int .i64 q.oth]
            have e : (w.setCell ⟨b, j, none⟩ (.bool true)).heap.size = w.heap.size := by simp [World.setCell]
            rwa [e] at this
          have BX := Lib.hid hbx
          have W1 := Lib.hid (HW.out.below ((Below.refl _ _).alloc (Nat.le_refl _) (.cells #[.pointer none, .int .i64 q.nxt, .int .i64 q.oth] 105)))
          have B1 := Lib.hid (Blk.alloc HB1.out (.cells #[.pointer none, .int .i64 q.nxt, .int .i64 q.oth] 105))
          have G1 := Lib.hid (grown_alloc (grown_setCell (g := b) (World.grownBy.refl w _) (p := ⟨b, j, none⟩) (.inl rfl) (.bool true)) (.cells #[.pointer none, .int .i64 q.nxt, .int .i64 q.oth] 105))
          clear hbx
          go_enter Try.func63, Try.ntmps63
          go_wp2_with fail
          have H1 := HIH.out q.nxt (x.set j true) b _ W1.out B1.out (by rw [List.length_set]; exact HXL.out) HV.out.1 (by have := HV.out.2.1; omega) (by have := HCF.out; have := HSET.out; omega)
          rw [List.length_set] at H1
          refine H1.mono ?_
          clear H1
          rintro e w2 ⟨rfl, hb2, hg2⟩
          have W2 := Lib.hid (W1.out.far B1.out ⟨by decide, by decide, by decide⟩ hg2)
          have BX2 := Lib.hid (BX.out.grown hg2 (fun e => by injection e with e; omega))
          have B2 := Lib.hid hb2
          have G2 := Lib.hid (G1.out.trans hg2)
          clear hb2 hg2 BX B1 W1 G1 r0 r1 r2 y0
          have z1 := BX2.out.cell 2
          simp only [List.getElem?_toArray, List.getElem?_cons_zero, List.getElem?_cons_succ] at z1
          have hx2 : (Rx.reach c.st n q.nxt (x.set j true)).length = x.length := by rw [Rx.reach_len, List.length_set]
          have HX2 := Lib.hid hx2
          have hc2 : Rx.cf (Rx.reach c.st n q.nxt (x.set j true)) ≤ Rx.cf (x.set j true) := Rx.cf_mono _ _ (by rw [Rx.reach_len]) (fun i hi => Rx.reach_mono _ _ _ _ _ hi)
          have HC2 := Lib.hid hc2
          clear hx2 hc2
          go_wp2_with fail
          have H2 := HIH.out q.oth (Rx.reach c.st n q.nxt (x.set j true)) b _ W2.out B2.out (by rw [HX2.out]; exact HXL.out) HV.out.2.2.1 (by have := HV.out.2.2.2; omega) (by have := HCF.out; have := HSET.out; have := HC2.out; omega)
          rw [HX2.out] at H2
          refine H2.mono ?_
          clear H2
          rintro e w3 ⟨rfl, hb3, hg3⟩
          have B3 := Lib.hid hb3
          have G3 := Lib.hid (G2.out.trans hg3)
          clear hb3 hg3
          go_wp2
          first | go_end0 | refine bodyPost_ret (v := .tuple #[]) (results_none (by first | exact Try.results63 | rfl) _ _ _) rfl ?_
          refine ⟨rfl, ?_, G3.out⟩
          have e : Rx.reach c.st (n + 1) (j : Int) x = Rx.reach c.st n q.oth (Rx.reach c.st n q.nxt (x.set j true)) := by
            conv => lhs; unfold Rx.reach
            rw [if_neg (by rw [Int.toNat_natCast]; exact fun h => h.elim (by omega) hon0.out)]
            rw [Int.toNat_natCast, HQ.out]
            simp only [HQS.out]
          rw [e]
          exact B3.out
        · simp only [pv] at r0
          obtain ⟨y, hy⟩ : ∃ y, q.set = some y := by
            have := HSO.out
            cases hs : q.set with
            | some y => exact ⟨y, rfl⟩
            | none => rw [hs] at this; exact this.elim
          have HQS := Lib.hid hy
          clear hy
          have G1 := Lib.hid (grown_alloc (grown_setCell (g := b) (World.grownBy.refl w _) (p := ⟨b, j, none⟩) (.inl rfl) (.bool true)) (.cells #[.pointer (some ⟨b2, 0, none⟩), .int .i64 q.nxt, .int .i64 q.oth] 105))
          have B1 := Lib.hid (Blk.alloc HB1.out (.cells #[.pointer (some ⟨b2, 0, none⟩), .int .i64 q.nxt, .int .i64 q.oth] 105))
          go_enter Try.func63, Try.ntmps63
          go_wp2
          first | go_end0 | refine bodyPost_ret (v := .tuple #[]) (results_none (by first | exact Try.results63 | rfl) _ _ _) rfl ?_
          refine ⟨rfl, ?_, G1.out⟩
          have e : Rx.reach c.st (n + 1) (j : Int) x = x.set j true := by
            conv => lhs; unfold Rx.reach
            rw [if_neg (by rw [Int.toNat_natCast]; exact fun h => h.elim (by omega) hon0.out)]
            rw [Int.toNat_natCast, HQ.out]
            simp only [HQS.out]
          rw [e]
          exact B1.out
end Go.Proofs.Ytnidjfmbbfoheaa
