/- WALKS: the parser's free, one, single, member. -/
import Derived.Test.YtnidjfmbbfoheaaRxP1
namespace Go.Proofs.Ytnidjfmbbfoheaa
set_option linter.unusedVariables false
set_option linter.unusedSimpArgs false
open Go.RowKit

def pcv (p : Rx.Pc) : Value := .agg #[.int .i64 (p.a : Int), .int .i64 (p.z : Int)]
theorem free_any (B gp : Nat) (s : List Nat) (st : List Rx.St) (v : Value) (w : World) (H : Ps w B gp s st v) (hn : st.length ≤ 1000000) :
    Calls Try.prog 99 #[.pointer (some ⟨gp, 0, none⟩)] w fun e w' => e = .returned (.int .i64 (st.length : Int)) ∧ PE w B gp v s (st ++ [Rx.free]) w' := by
  have hcon := add_any B gp s st v w H Rx.free none trivial hn
  have HC := Lib.hid hcon
  clear hcon
  go_enter Try.func99, Try.ntmps99
  go_wp2_with fail
  refine HC.out.mono ?_
  rintro e w1 ⟨rfl, hE⟩
  have HE := Lib.hid hE
  clear hE
  go_wp2
  go_ret
  exact ⟨rfl, HE.out⟩
theorem PE.trans {w w1 w2 : World} {B gp : Nat} {v v1 : Value} {s1 s2 : List Nat} {st1 st2 : List Rx.St} (h : PG w w1 gp v.ownBlock) (hn : Nx w v v1) (k : PE w1 B gp v1 s2 st2 w2) : PE w B gp v s2 st2 w2 := by
  obtain ⟨⟨v2, h2, n2⟩, g2⟩ := k
  exact ⟨⟨v2, h2, hn.trans h.size n2⟩, h.trans hn g2⟩
theorem SetOk.pg {w w1 : World} {B gp : Nat} {s : List Nat} {st : List Rx.St} {v : Value} (H : Ps w B gp s st v) {p : Option Nat} {o : Option (List Bool)} (h : SetOk w B p o) (k : PG w w1 gp v.ownBlock) : SetOk w1 B p o := by
  obtain ⟨L, hL, hown, _⟩ := H.row
  exact h.keep (fun b x _ _ hb => hb.pg k (hb.ne_ H.blk (by decide)) (fun e => own_blk_ne hown hb (by decide) e.symm))
theorem Blk.ps {w w1 : World} {B gp : Nat} {s : List Nat} {st : List Rx.St} {v : Value} (H : Ps w B gp s st v) {g : Nat} {t : TypeId} {cs : Array Value} (h : Blk w g t cs) (ht : t ≠ 99 ∧ t ≠ 105) (k : PG w w1 gp v.ownBlock) : Blk w1 g t cs := by
  obtain ⟨L, hL, hown, _⟩ := H.row
  exact h.pg k (h.ne_ H.blk ht.1) (fun e => own_blk_ne hown h (fun e => ht.2 e.symm) e.symm)
set_option maxRecDepth 100000 in
set_option maxHeartbeats 1000000 in
theorem one_any (B gp b : Nat) (x : List Bool) (s : List Nat) (st : List Rx.St) (v : Value) (w : World) (H : Ps w B gp s st v) (hset : SetOk w B (some b) (some x)) (hn : st.length ≤ 999999) :
    Calls Try.prog 120 #[.pointer (some ⟨gp, 0, none⟩), .pointer (some ⟨b, 0, none⟩)] w fun e w' => e = .returned (pcv (Rx.gen (.set x) st).1) ∧ PE w B gp v s (Rx.gen (.set x) st).2 w' := by
  have HP := Lib.hid H
  have HS := Lib.hid hset
  clear H hset
  go_enter Try.func120, Try.ntmps120
  go_wp2_with fail
  refine (free_any B gp s st v _ (HP.out.alloc _) (by omega)).mono ?_
  rintro e w1 ⟨rfl, ⟨v1, hP1, hN1⟩, hG1⟩
  have P1 := Lib.hid hP1
  have N1 : Hid (Nx w v v1) := Lib.hid (hN1.imp id (fun ⟨b, e, h⟩ => ⟨b, e, by simp at h; omega⟩))
  have G1 := Lib.hid (((PG.refl w gp v.ownBlock).alloc (.cells #[.int .i64 0, .int .i64 0] 101)).trans (.refl _ _) hG1)
  have S1 := Lib.hid ((HS.out.keep (w' := w.alloc (.cells #[.int .i64 0, .int .i64 0] 101)) (fun b x _ _ hb => hb.alloc _)).pg (HP.out.alloc _) hG1)
  have BX := Lib.hid (Blk.ps (HP.out.alloc (.cells #[.int .i64 0, .int .i64 0] 101)) (Blk.new w 101 #[.int .i64 0, .int .i64 0]) ⟨by decide, by decide⟩ hG1)
  clear hP1 hN1 hG1
  go_wp2_with fail
  refine (add_any B gp s (st ++ [Rx.free]) v1 _ P1.out ⟨some x, (st.length : Int), -1⟩ (some b) S1.out (by simp; omega)).mono ?_
  rintro e w2 ⟨rfl, ⟨v2, hP2, hN2⟩, hG2⟩
  have P2 := Lib.hid hP2
  have E2 := Lib.hid (G1.out.trans N1.out hG2)
  have N2 := Lib.hid (N1.out.trans G1.out.size hN2)
  have B2 := Lib.hid (Blk.ps P1.out BX.out ⟨by decide, by decide⟩ hG2)
  have q0 := B2.out.cell 0
  have q1 := B2.out.cell 1
  have qf := B2.out.frozen
  have hl2 := B2.out.lt
  simp only [List.getElem?_toArray, List.getElem?_cons_zero, List.getElem?_cons_succ] at q0 q1
  have hlen : (st ++ [Rx.free]).length = st.length + 1 := by simp
  rw [hlen]
  clear hP2 hN2 hG2 hlen
  go_wp2
  refine bodyPost_ret (v := pcv (Rx.gen (.set x) st).1) (by simp [results, Try.results120, go_sem, q0, q1, pcv, Rx.gen]) rfl ⟨rfl, ⟨v2, ?_, N2.out⟩, (E2.out.setCell (.inr (.inr (Nat.le_refl _))) _).setCell (.inr (.inr (Nat.le_refl _))) _⟩
  exact (P2.out.far B2.out ⟨by decide, by decide, by decide⟩ rfl _).far (B2.out.set_ 0 _) ⟨by decide, by decide, by decide⟩ rfl _

/-! ### sets -/
def bv (x : List Bool) : Array Value := (x.map Value.bool).toArray
theorem bv_size (x : List Bool) : (bv x).size = x.length := by simp [bv]
theorem bv_get (x : List Bool) (k : Nat) : (bv x)[k]? = x[k]?.map Value.bool := by simp [bv]
theorem bv_set (x : List Bool) (k : Nat) (b : Bool) : (bv x).setIfInBounds k (.bool b) = bv (x.set k b) := by
  apply Array.ext_getElem?
  intro i
  rw [Array.getElem?_setIfInBounds, bv_get, bv_get, bv_size, List.getElem?_set]
  by_cases h : k = i
  · subst h
    by_cases h2 : k < x.length
    · rw [if_pos rfl, if_pos h2, if_pos rfl, if_pos h2]; rfl
    · rw [if_pos rfl, if_neg h2, if_pos rfl, if_neg h2]; rfl
  · rw [if_neg h, if_neg h]
theorem zero164 : Try.zeroCells164 = bv Rx.noSet := by kernel_rfl
theorem single_any (c : Nat) (w : World) (hc : c < 256) :
    Calls Try.prog 122 #[.int .u8 (c : Int)] w fun e w' => ∃ b, e = .returned (.pointer (some ⟨b, 0, none⟩)) ∧ Below w.heap.size w w' ∧ w.heap.size ≤ b ∧ Blk w' b 164 (bv (Rx.single c)) := by
  have hz := zero164
  have hN : (bv Rx.noSet)[c]? = some (.bool false) := by
    rw [bv_get]
    unfold Rx.noSet
    rw [List.getElem?_replicate, if_pos hc]
    rfl
  have hB := Blk.new w 164 (bv Rx.noSet)
  have h0 : (0 : Int) ≤ (c : Int) := by omega
  have h1 : (c : Int) < 256 := by omega
  have hcell := (hB.cell c).trans hN
  have hfr := hB.frozen c
  have BB := Lib.hid hB
  rw [← hz] at hcell hfr
  have HZ := Lib.hid hz
  clear hz hN hB
  go_enter Try.func122, Try.ntmps122
  go_wp2
  go_ret
  refine ⟨_, rfl, (Below.refl _ _).alloc (Nat.le_refl _) _, Nat.le_refl _, ?_⟩
  have := Blk.new w 164 (bv (Rx.single c))
  rw [HZ.out, bv_set]
  exact this

/-! ### member -/
/-- What member hands back. -/
def MEnd (w : World) (B gp : Nat) (st : List Rx.St) (v : Value) (r : Option (Nat × List Nat)) (e : Ending) (w' : World) : Prop :=
  match r with
  | none => e = .panicked badChain ∧ PG w w' gp none
  | some (c, s') => e = .returned (.int .u8 (c : Int)) ∧ Ps w' B gp s' st v ∧ PG w w' gp none
theorem member_any (B gp : Nat) (s : List Nat) (st : List Rx.St) (v : Value) (w : World) (H : Ps w B gp s st v) (hs : ∀ x ∈ s, x < 256) :
    Calls Try.prog 125 #[.pointer (some ⟨gp, 0, none⟩)] w (MEnd w B gp st v (Rx.memb s)) := by
  cases s with
  | nil =>
    go_enter Try.func125, Try.ntmps125
    go_wp2_with fail
    refine (take_bad B gp st v _ H).mono ?_
    rintro e w1 ⟨rfl, rfl⟩
    exact ⟨rfl, rfl, PG.refl _ _ _⟩
  | cons c r =>
    have htk := take_any B gp c r st v w H hs
    have HT := Lib.hid htk
    have P1 := Lib.hid (H.text r)
    have HSs := Lib.hid hs
    clear htk H
    have em : Rx.memb (c :: r) = if c = 93 then none else if c = 92 then (match r with | [] => none | d :: r' => some (d, r')) else some (c, r) := rfl
    by_cases h1 : c = 93
    · have e : Rx.memb (c :: r) = none := by rw [em, if_pos h1]
      rw [e]
      subst h1
      clear em e
      go_enter Try.func125, Try.ntmps125
      go_wp2_with fail
      refine HT.out.mono ?_
      rintro e w1 ⟨rfl, rfl⟩
      go_wp2
      exact ⟨rfl, rfl, (PG.refl _ _ _).setCell (.inl rfl) _⟩
    · have n1 : ((c : Int) == 93) = false := beq_eq_false_iff_ne.2 (by omega)
      have n1' : (c == 93) = false := beq_eq_false_iff_ne.2 (by omega)
      by_cases h2 : c = 92
      · subst h2
        cases r with
        | nil =>
          have e : Rx.memb [92] = none := rfl
          rw [e]
          clear em e
          go_enter Try.func125, Try.ntmps125
          go_wp2_with fail
          refine HT.out.mono ?_
          rintro e w1 ⟨rfl, rfl⟩
          go_wp2_with fail
          refine (take_bad B gp st v _ P1.out).mono ?_
          rintro e w1 ⟨rfl, rfl⟩
          exact ⟨rfl, rfl, (PG.refl _ _ _).setCell (.inl rfl) _⟩
        | cons d r =>
          have e : Rx.memb (92 :: d :: r) = some (d, r) := rfl
          rw [e]
          clear em e
          go_enter Try.func125, Try.ntmps125
          go_wp2_with fail
          refine HT.out.mono ?_
          rintro e w1 ⟨rfl, rfl⟩
          go_wp2_with fail
          refine (take_any B gp d r st v _ P1.out (fun x hx => HSs.out x (List.mem_cons_of_mem _ hx))).mono ?_
          rintro e w1 ⟨rfl, rfl⟩
          go_wp2
          go_ret
          exact ⟨rfl, P1.out.text r, ((PG.refl _ _ _).setCell (.inl rfl) _).setCell (.inl rfl) _⟩
      · have n2 : ((c : Int) == 92) = false := beq_eq_false_iff_ne.2 (by omega)
        have n2' : (c == 92) = false := beq_eq_false_iff_ne.2 (by omega)
        have e : Rx.memb (c :: r) = some (c, r) := by rw [em, if_neg h1, if_neg h2]
        rw [e]
        clear em e h1 h2
        go_enter Try.func125, Try.ntmps125
        go_wp2_with fail
        refine HT.out.mono ?_
        rintro e w1 ⟨rfl, rfl⟩
        go_wp2
        go_ret
        exact ⟨rfl, P1.out, (PG.refl _ _ _).setCell (.inl rfl) _⟩
end Go.Proofs.Ytnidjfmbbfoheaa
