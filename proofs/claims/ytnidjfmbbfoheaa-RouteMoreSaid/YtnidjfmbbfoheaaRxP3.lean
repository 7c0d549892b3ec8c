/- WALKS: the parser's set; strings.HasPrefix with a bracket. -/
import Derived.Test.YtnidjfmbbfoheaaRxP2
import Derived.Test.YtnidjfmbbfoheaaRxD
import Derived.Deep.LoopGhost
namespace Go.Proofs.Ytnidjfmbbfoheaa
set_option linter.unusedVariables false
set_option linter.unusedSimpArgs false
open Go.RowKit

theorem is_any (B gp k : Nat) (s : List Nat) (st : List Rx.St) (v : Value) (w : World) (H : Ps w B gp s st v) (hs : ∀ x ∈ s, x < 256) :
    Calls Try.prog 98 #[.pointer (some ⟨gp, 0, none⟩), .int .u8 (k : Int)] w fun e w' => e = .returned (.bool (decide (s.head? = some k))) ∧ Ps w' B gp (if s.head? = some k then s.tail else s) st v ∧ PG w w' gp none := by
  by_cases h : s.head? = some k
  · rw [if_pos h]
    have e := Rx.head_cons h
    rw [e] at H hs
    refine (is_yes B gp k s.tail st v w H hs).mono ?_
    rintro e w' ⟨rfl, rfl⟩
    exact ⟨by rw [decide_eq_true h], H.text _, (PG.refl _ _ _).setCell (.inl rfl) _⟩
  · rw [if_neg h]
    refine (is_no B gp s k st v w H hs h).mono ?_
    rintro e w' ⟨rfl, rfl⟩
    exact ⟨by rw [decide_eq_false h], H, PG.refl _ _ _⟩
theorem has_any (s : List Nat) (w : World) (hs : ∀ x ∈ s, x < 256) :
    Calls Try.prog 114 #[.string (bs s), .string ⟨#[93]⟩] w fun e w' => e = .returned (.bool (decide (s.head? = some 93))) ∧ w' = w := by
  cases s with
  | nil =>
    rw [bs_nil]
    go_enter Try.func114, Try.ntmps114
    go_wp2
    go_ret
    exact ⟨rfl, rfl⟩
  | cons c r =>
    have hsz : (bs (c :: r)).size = r.length + 1 := by rw [bs_size]; rfl
    have hx : (bs (c :: r)).extract 0 1 = bs [c] := by
      apply ByteArray.ext
      rw [ByteArray.data_extract]
      simp [bs]
    generalize bs (c :: r) = b at *
    go_enter Try.func114, Try.ntmps114
    go_wp2
    go_ret
    refine ⟨ret_bool ?_, rfl⟩
    rw [bs_list]
    have hc := hs c (by simp)
    by_cases h : c = 93
    · subst h; rfl
    · have h2 : ¬ UInt8.ofNat c = 93 := fun e => by
        have := congrArg UInt8.toNat e
        simp at this
        omega
      simp [h, h2]
theorem hasPrefix_any (s : List Nat) (w : World) (hs : ∀ x ∈ s, x < 256) :
    Calls Try.prog 124 #[.string (bs s), .string ⟨#[93]⟩] w fun e w' => e = .returned (.bool (decide (s.head? = some 93))) ∧ w' = w := by
  go_enter Try.func124, Try.ntmps124
  go_wp2_with fail
  refine (has_any s w hs).mono ?_
  rintro e w' ⟨rfl, rfl⟩
  go_wp2
  go_ret
  exact ⟨rfl, rfl⟩

/-! ### an array of bytes as a value -/
theorem und164 : Try.prog.underlying 164 = some (.array 256 4) := by kernel_rfl
theorem siz164 : (Try.prog.info? 164).map (·.size) = some 256 := by kernel_rfl
theorem index164 (x : List Bool) (i : Nat) (b : Bool) (hb : x[i]? = some b) (hi : i < 256) (w : World) : (Instr.index 164 (.agg (bv x)) (.int .i64 (i : Int))).run Try.prog w = .ok (.bool b) w := by
  have hs : ∀ w, (sizeOf 4).run Try.prog w = .ok 1 w := fun w => by kernel_rfl
  have ha : ∀ w, (isAgg 4).run Try.prog w = .ok false w := fun w => by kernel_rfl
  have h0 : (0 : Int) ≤ (i : Int) := by omega
  have h1 : (i : Int) < 256 := by omega
  have hg : (bv x)[i]? = some (.bool b) := by rw [bv_get, hb]; rfl
  simp [Instr.index, asIntOf, Sem.run_bind, run_underlying und164, part, hs, ha, h0, h1, hg, Result.andThen]
  omega
def notTo (x : List Bool) (k : Nat) : List Bool := (Rx.setNot x).take k ++ x.drop k
theorem notTo_zero (x : List Bool) : notTo x 0 = x := by simp [notTo]
theorem notTo_all (x : List Bool) (h : x.length = 256) : notTo x 256 = Rx.setNot x := by
  unfold notTo
  rw [List.take_of_length_le (by rw [Rx.setNot_len, h]; omega), List.drop_eq_nil_of_le (by omega), List.append_nil]
theorem notTo_len (x : List Bool) (k : Nat) (hk : k ≤ x.length) : (notTo x k).length = x.length := by
  unfold notTo
  rw [List.length_append, List.length_take, List.length_drop, Rx.setNot_len]
  omega
theorem notTo_succ (x : List Bool) (k : Nat) (b : Bool) (hb : x[k]? = some b) : (notTo x k).set k (!b) = notTo x (k + 1) := by
  have hk := (List.getElem?_eq_some_iff.1 hb).1
  apply List.ext_getElem?
  intro i
  have hn : (Rx.setNot x)[k]? = some (!b) := by unfold Rx.setNot; rw [List.getElem?_map, hb]; rfl
  have hln : (Rx.setNot x).length = x.length := Rx.setNot_len x
  rw [List.getElem?_set, notTo_len x k (by omega)]
  unfold notTo
  by_cases h1 : k = i
  · subst h1
    rw [if_pos rfl, if_pos hk, List.getElem?_append_left (by rw [List.length_take]; omega), List.getElem?_take_of_lt (by omega), hn]
  · rw [if_neg h1]
    by_cases h2 : i < k
    · rw [List.getElem?_append_left (by rw [List.length_take]; omega), List.getElem?_append_left (by rw [List.length_take]; omega), List.getElem?_take_of_lt (by omega), List.getElem?_take_of_lt (by omega)]
    · rw [List.getElem?_append_right (by rw [List.length_take]; omega), List.getElem?_append_right (by rw [List.length_take]; omega), List.length_take, List.length_take, List.getElem?_drop, List.getElem?_drop]
      congr 1
      omega

/-- What set hands back. -/
def SEnd (w : World) (B gp : Nat) (st : List Rx.St) (v : Value) (r : Option (List Bool × List Nat)) (e : Ending) (w' : World) : Prop :=
  match r with
  | none => e = .panicked badChain ∧ PG w w' gp v.ownBlock
  | some (x, s') => ∃ b, e = .returned (.pointer (some ⟨b, 0, none⟩)) ∧ w.heap.size ≤ b ∧ Blk w' b 164 (bv x) ∧ Ps w' B gp s' st v ∧ PG w w' gp v.ownBlock

set_option maxRecDepth 100000 in
set_option maxHeartbeats 8000000 in
theorem set_any (B gp : Nat) (s : List Nat) (st : List Rx.St) (v : Value) (w : World) (H : Ps w B gp s st v) (hs : ∀ x ∈ s, x < 256) :
    Calls Try.prog 121 #[.pointer (some ⟨gp, 0, none⟩)] w (SEnd w B gp st v (Rx.setP s)) := by
  have hgp := H.lt
  have HP := Lib.hid H
  obtain ⟨nt, hnt⟩ : ∃ nt, decide (s.head? = some 94) = nt := ⟨_, rfl⟩
  obtain ⟨s1, hs1⟩ : ∃ s1, (if s.head? = some 94 then s.tail else s) = s1 := ⟨_, rfl⟩
  have hl1 : Rx.LeftE s s1 := by
    rw [← hs1]
    split
    · rename_i h; exact (Rx.left_tail (Rx.head_ne h)).e
    · exact .refl s
  have hsp : Rx.setP s = if s1.head? = some 93 then none else (Rx.setGo (s.length + 1) Rx.noSet s1).map (fun q => (if nt = true then Rx.setNot q.1 else q.1, q.2)) := by
    unfold Rx.setP
    by_cases h : s.head? = some 94
    · rw [if_pos h] at hs1 ⊢
      rw [hs1]
      have : nt = true := by rw [← hnt, decide_eq_true h]
      subst this
      rfl
    · rw [if_neg h] at hs1 ⊢
      subst hs1
      have : nt = false := by rw [← hnt, decide_eq_false h]
      subst this
      simp
  have HS1 := Lib.hid (fun x hx => hs x (hl1.2 x hx) : ∀ x ∈ s1, x < 256)
  have hlen1 : s1.length ≤ s.length := hl1.1
  have hia := is_any B gp 94 s st v
  rw [hnt] at hia
  rw [hs1] at hia
  have HIA := Lib.hid hia
  have HS := Lib.hid hs
  obtain ⟨R, hR⟩ : ∃ R, Rx.setP s = R := ⟨_, rfl⟩
  rw [hR] at hsp ⊢
  have HR := Lib.hid hsp
  clear hia hs hnt hs1 hl1 H hR hsp
  go_enter Try.func121, Try.ntmps121
  go_wp2_with fail
  refine (HIA.out _ (HP.out.alloc _) HS.out).mono ?_
  rintro e w1 ⟨rfl, hP1, hG1⟩
  have P1 := Lib.hid hP1
  have G1 := Lib.hid (((PG.refl w gp none).alloc (.cells Try.zeroCells164 164)).trans0 hG1)
  have B1 : Hid (Blk w1 w.heap.size 164 (bv Rx.noSet)) := Lib.hid (by rw [← zero164]; exact (Blk.new w 164 Try.zeroCells164).pg hG1 (by omega) (by simp))
  have c0 := P1.out.c0
  have hlt1 := P1.out.lt
  clear hP1 hG1
  go_wp2_with fail
  refine (hasPrefix_any s1 _ HS1.out).mono ?_
  rintro e w2 ⟨rfl, rfl⟩
  by_cases h93 : s1.head? = some 93
  · have hRn := HR.out
    rw [if_pos h93] at hRn
    have HRN := Lib.hid hRn
    rw [decide_eq_true h93]
    clear hRn h93
    go_wp2
    refine ⟨rfl, ?_⟩
    rw [HRN.out]
    exact ⟨rfl, G1.out.any⟩
  · have hRs := HR.out
    rw [if_neg h93] at hRs
    have HRS := Lib.hid hRs
    rw [decide_eq_false h93]
    clear hRs h93 HR c0
    go_wp2
    go_loopg [20] s1.length (fun gg s20 wr => ∃ (n : Nat) (x : List Bool) (S : List Nat), Hid ((Rx.setGo (s.length + 1) Rx.noSet s1) = Rx.setGo n x S) ∧ S.length < n ∧ S.length ≤ gg ∧ S.length ≤ s1.length ∧ Hid (∀ y ∈ S, y < 256) ∧ Hid (x.length = 256) ∧ Hid (PG w wr gp none) ∧ Hid (Blk wr gp 99 #[.string (bs S), v]) ∧ Hid (Blk wr w.heap.size 164 (bv x)))
    case atStart => exact ⟨s.length + 1, Rx.noSet, s1, Lib.hid rfl, by omega, Nat.le_refl _, Nat.le_refl _, HS1, Lib.hid Rx.noSet_len, G1, Lib.hid P1.out.blk, B1⟩
    case round =>
      obtain ⟨n, x, S, E, hn, hgg, hSs, HSS, HX, G2, BK, B2⟩ := hrel
      obtain ⟨m, rfl⟩ : ∃ m, n = m + 1 := ⟨n - 1, by omega⟩
      have P2 : Hid (Ps wr B gp S st v) := Lib.hid (HP.out.pg0 G2.out BK.out)
      have heq := Rx.setGo_succ m x S
      by_cases h93 : S.head? = some 93
      · -- the set's end
        rw [if_pos h93] at heq
        have hS := Rx.head_cons h93
        have hRr : R = some (if nt = true then Rx.setNot x else x, S.tail) := by rw [HRS.out, E.out, heq]; rfl
        have HRR := Lib.hid hRr
        have hy := is_yes B gp 93 S.tail st v wr (by rw [← hS]; exact P2.out) (fun y hy => HSS.out y (by rw [hS]; exact hy))
        have HY := Lib.hid hy
        have HT := Lib.hid hS
        clear heq hRr hy hS h93
        go_wp2_with fail
        refine HY.out.mono ?_
        rintro e w3 ⟨rfl, rfl⟩
        have P3 := Lib.hid (P2.out.text S.tail)
        have G3 := Lib.hid (G2.out.setCell (p := ⟨gp, 0, none⟩) (.inl rfl) (.string (bs S.tail)))
        have B3 := Lib.hid (B2.out.far (p := ⟨gp, 0, none⟩) (B2.out.ne_ BK.out (by decide)) (.string (bs S.tail)))
        cases nt with
        | false =>
          go_wp2
          go_ret
          rw [HRR.out]
          exact ⟨_, rfl, Nat.le_refl _, B3.out, P3.out, G3.out.any⟩
        | true =>
          have hrg : (wr.setCell ⟨gp, 0, none⟩ (.string (bs S.tail))).rangeAt w.heap.size 0 (x.map Value.bool) := by
            have := Blk.range B3.out
            simpa [bv] using this
          generalize hW3 : wr.setCell ⟨gp, 0, none⟩ (.string (bs S.tail)) = W3 at *
          have hxl : (x.map Value.bool).length = 256 := by rw [List.length_map]; exact HX.out
          have HXL := Lib.hid hxl
          have ebv : (x.map Value.bool).toArray = bv x := rfl
          have EBV := Lib.hid ebv
          clear hxl ebv hW3
          go_wp2_with (refine wpList_load_mid rfl 164 _ rfl w.heap.size 0 rfl (x.map Value.bool) _ hrg und164 rfl (by rw [HXL.out]; exact siz164) ?_; rw [EBV.out]; clear hrg)
          go_loopw [68] (fun i W => ∃ k : Nat, k ≤ 256 ∧ i = .int .i64 (k : Int) ∧ Hid (PG w W gp none) ∧ Hid (Blk W gp 99 #[.string (bs S.tail), v]) ∧ Hid (Blk W w.heap.size 164 (bv (notTo x k)))) (fun i _ => 256 - (intOf i).toNat)
          case atStart => exact ⟨0, by omega, rfl, G3, Lib.hid P3.out.blk, by rw [notTo_zero]; exact B3⟩
          case round =>
            obtain ⟨k, hk, rfl, G4, BK4, B4⟩ := hrel
            by_cases hlt : k < 256
            · have hI0 : (0 : Int) ≤ (k : Int) := by omega
              have hI1 : (k : Int) < 256 := by omega
              obtain ⟨bb, hbb⟩ : ∃ bb, x[k]? = some bb := ⟨x[k]'(by rw [HX.out]; omega), List.getElem?_eq_getElem _⟩
              have hix := fun w => index164 x k bb hbb hlt w
              have hold : ∃ u, (bv (notTo x k))[k]? = some u := ⟨_, Array.getElem?_eq_getElem (by rw [bv_size, notTo_len _ _ (by rw [HX.out]; omega), HX.out]; omega)⟩
              obtain ⟨u, hu⟩ := hold
              have hcell := (B4.out.cell k).trans hu
              have hfr := B4.out.frozen k
              have hblt := B4.out.lt
              have HBB := Lib.hid hbb
              clear hbb hu
              go_wp2
              go_roundw
              case rel =>
                refine ⟨k + 1, by omega, by go_num, Lib.hid (G4.out.setCell (.inr (.inr (Nat.le_refl _))) _), Lib.hid (BK4.out.far (p := ⟨w.heap.size, k, none⟩) (BK4.out.ne_ B4.out (by decide)) _), Lib.hid ?_⟩
                have := B4.out.set_ k (.bool (!bb))
                rw [bv_set, notTo_succ x k bb HBB.out] at this
                exact this
              case measure => simp [intOf]; omega
            · obtain rfl : k = 256 := by omega
              go_wp2
              go_ret
              rw [HRR.out]
              refine ⟨_, rfl, Nat.le_refl _, ?_, HP.out.pg0 G4.out BK4.out, G4.out.any⟩
              have := B4.out
              rw [notTo_all x HX.out] at this
              exact this
      · rw [if_neg h93] at heq
        have hno := is_no B gp S 93 st v wr P2.out HSS.out h93
        have HNO := Lib.hid hno
        clear hno h93
        cases hm : Rx.memb S with
        | none =>
          rw [hm] at heq
          have hRr : R = none := by rw [HRS.out, E.out, heq]; rfl
          have HRR := Lib.hid hRr
          have HM := Lib.hid hm
          clear heq hRr hm
          go_wp2_with fail
          refine HNO.out.mono ?_
          rintro e w3 ⟨rfl, rfl⟩
          go_wp2_with fail
          refine (member_any B gp S st v _ P2.out HSS.out).mono ?_
          rw [HM.out]
          rintro e w4 ⟨rfl, hG⟩
          refine ⟨rfl, ?_⟩
          rw [HRR.out]
          exact ⟨rfl, (G2.out.trans0 hG).any⟩
        | some q =>
          obtain ⟨lo, T⟩ := q
          rw [hm] at heq
          simp only at heq
          have hml := Rx.memb_left hm
          have hlo : lo < 256 := HSS.out lo hml.2
          have hTl : T.length < S.length := hml.1.1
          have HST : Hid (∀ y ∈ T, y < 256) := Lib.hid (fun y hy => HSS.out y (hml.1.2 y hy))
          have HM := Lib.hid hm
          clear hm hml
          cases hr : Rx.rng T with
          | true =>
            obtain ⟨a, b, t, hT, ha, hb⟩ := Rx.rng_ne hr
            subst hT ha
            rw [if_pos hr] at heq
            simp only [List.tail_cons] at heq
            have hb2 : b < 256 := HST.out b (by simp)
            have hbI : ((b : Int) != 93) = true := by rw [bne_iff_ne]; omega
            have hix0 : ∀ w, (Instr.index 9 (.string (bs (45 :: b :: t))) (.int .i64 0)).run Try.prog w = .ok (.int .u8 45) w := fun w => idx_bs (45 :: b :: t) 0 45 rfl (by omega) w
            have hix1 : ∀ w, (Instr.index 9 (.string (bs (45 :: b :: t))) (.int .i64 1)).run Try.prog w = .ok (.int .u8 (b : Int)) w := fun w => idx_bs (45 :: b :: t) 1 b rfl hb2 w
            have hsz : (bs (45 :: b :: t)).size = t.length + 2 := by rw [bs_size]; rfl
            have HSBT : Hid (∀ y ∈ b :: t, y < 256) := Lib.hid (fun y hy => HST.out y (List.mem_cons_of_mem _ hy))
            simp only [List.length_cons] at hTl
            clear hr hb
            cases hm2 : Rx.memb (b :: t) with
            | none =>
              rw [hm2] at heq
              have hRr : R = none := by rw [HRS.out, E.out, heq]; rfl
              have HRR := Lib.hid hRr
              have HM2 := Lib.hid hm2
              clear heq hRr hm2
              go_wp2_with fail
              refine HNO.out.mono ?_
              rintro e w3 ⟨rfl, rfl⟩
              go_wp2_with fail
              refine (member_any B gp S st v _ P2.out HSS.out).mono ?_
              rw [HM.out]
              rintro e w4 ⟨rfl, hP4, hG4⟩
              have P4 := Lib.hid hP4
              have G4 := Lib.hid (G2.out.trans0 hG4)
              have c0 := hP4.c0
              have hl4 := hP4.lt
              clear hP4 hG4
              generalize hbs : bs (45 :: b :: t) = BS at *
              have HBS := Lib.hid hbs
              clear hbs
              go_wp2_with fail
              refine (take_any B gp 45 (b :: t) st v _ P4.out HST.out).mono ?_
              rintro e w5 ⟨rfl, rfl⟩
              go_wp2_with fail
              refine (member_any B gp (b :: t) st v _ (P4.out.text (b :: t)) HSBT.out).mono ?_
              rw [HM2.out]
              rintro e w6 ⟨rfl, hG⟩
              refine ⟨rfl, ?_⟩
              rw [HRR.out]
              exact ⟨rfl, ((G4.out.setCell (.inl rfl) _).trans0 hG).any⟩
            | some q2 =>
              obtain ⟨hi, S2⟩ := q2
              rw [hm2] at heq
              simp only at heq
              have hml := Rx.memb_left hm2
              have hhi : hi < 256 := HSBT.out hi hml.2
              have hS2l : S2.length < (b :: t).length := hml.1.1
              have HS2 : Hid (∀ y ∈ S2, y < 256) := Lib.hid (fun y hy => HSBT.out y (hml.1.2 y hy))
              simp only [List.length_cons] at hS2l
              have HM2 := Lib.hid hm2
              clear hm2 hml
              go_wp2_with fail
              refine HNO.out.mono ?_
              rintro e w3 ⟨rfl, rfl⟩
              go_wp2_with fail
              refine (member_any B gp S st v _ P2.out HSS.out).mono ?_
              rw [HM.out]
              rintro e w4 ⟨rfl, hP4, hG4⟩
              have P4 := Lib.hid hP4
              have G4 := Lib.hid (G2.out.trans0 hG4)
              have B4 := Lib.hid (B2.out.pg hG4 (B2.out.ne_ BK.out (by decide)) (by simp))
              have c0 := hP4.c0
              have hl4 := hP4.lt
              clear hP4 hG4
              generalize hbs : bs (45 :: b :: t) = BS at *
              have HBS := Lib.hid hbs
              clear hbs
              go_wp2_with fail
              refine (take_any B gp 45 (b :: t) st v _ P4.out HST.out).mono ?_
              rintro e w5 ⟨rfl, rfl⟩
              have G4' := Lib.hid (G4.out.setCell (p := ⟨gp, 0, none⟩) (.inl rfl) (.string (bs (b :: t))))
              have B4' := Lib.hid (B4.out.far (p := ⟨gp, 0, none⟩) (B4.out.ne_ P4.out.blk (by decide)) (.string (bs (b :: t))))
              have P4' := Lib.hid (P4.out.text (b :: t))
              clear hix0 hix1 c0
              go_wp2_with fail
              refine (member_any B gp (b :: t) st v _ P4'.out HSBT.out).mono ?_
              rw [HM2.out]
              rintro e w6 ⟨rfl, hP6, hG6⟩
              have G5 := Lib.hid (G4'.out.trans0 hG6)
              have BK5 := Lib.hid hP6.blk
              have B5 := Lib.hid (B4'.out.pg hG6 (B4'.out.ne_ P4'.out.blk (by decide)) (by simp))
              clear hP6 hG6
              by_cases hlh : hi < lo
              · rw [if_pos hlh] at heq
                have hRr : R = none := by rw [HRS.out, E.out, heq]; rfl
                have HRR := Lib.hid hRr
                have hlI : (hi : Int) < (lo : Int) := by omega
                clear heq hRr
                go_wp2
                refine ⟨rfl, ?_⟩
                rw [HRR.out]
                exact ⟨rfl, G5.out.any⟩
              · rw [if_neg hlh] at heq
                have EGO := Lib.hid (E.out.trans heq)
                have hlI : ¬ (hi : Int) < (lo : Int) := by omega
                clear heq
                go_wp2
                go_loopg [7] (hi + 1 - lo) (fun gg s7 W => ∃ k : Nat, s7 = .int .i64 ((lo + k : Nat) : Int) ∧ k ≤ hi + 1 - lo ∧ hi + 1 - lo - k ≤ gg ∧ Hid (PG w W gp none) ∧ Hid (Blk W gp 99 #[.string (bs S2), v]) ∧ Hid (Blk W w.heap.size 164 (bv (Rx.fillS x lo k))))
                case atStart => exact ⟨0, by go_num, by omega, by omega, G5, BK5, B5⟩
                case round =>
                  obtain ⟨k, rfl, hk, hgg2, G6, BK6, B6⟩ := hrel
                  by_cases hlt : k < hi + 1 - lo
                  · have hI0 : (0 : Int) ≤ ((lo + k : Nat) : Int) := by omega
                    have hI1 : ((lo + k : Nat) : Int) < 256 := by omega
                    have hI2 : ((lo + k : Nat) : Int) ≤ (hi : Int) := by omega
                    have hold : ∃ u, (bv (Rx.fillS x lo k))[lo + k]? = some u := ⟨_, Array.getElem?_eq_getElem (by rw [bv_size, Rx.fillS_len, HX.out]; omega)⟩
                    obtain ⟨u, hu⟩ := hold
                    have hcell := (B6.out.cell (lo + k)).trans hu
                    have hfr := B6.out.frozen (lo + k)
                    have hblt := B6.out.lt
                    clear hu
                    generalize hp : lo + k = p at *
                    have HPP := Lib.hid hp
                    clear hp
                    go_wp2
                    go_roundg (hi + 1 - lo - (k + 1))
                    case measure => omega
                    case rel =>
                      refine ⟨k + 1, by rw [show lo + (k + 1) = p + 1 by have := HPP.out; omega]; go_num, by omega, Nat.le_refl _, Lib.hid (G6.out.setCell (.inr (.inr (Nat.le_refl _))) _), Lib.hid (BK6.out.far (p := ⟨w.heap.size, p, none⟩) (BK6.out.ne_ B6.out (by decide)) _), Lib.hid ?_⟩
                      have e : (Rx.fillS x lo k).set p true = Rx.fillS x lo (k + 1) := by rw [Rx.fillS_succ, HPP.out]
                      have := B6.out.set_ p (.bool true)
                      rw [bv_set, e] at this
                      exact this
                  · have hI3 : ¬ ((lo + k : Nat) : Int) ≤ (hi : Int) := by omega
                    obtain rfl : k = hi + 1 - lo := by omega
                    generalize hp : lo + (hi + 1 - lo) = p at *
                    have HPP := Lib.hid hp
                    clear hp
                    go_wp2
                    go_roundg S2.length
                    case measure => omega
                    case rel => exact ⟨m, _, S2, EGO, by omega, Nat.le_refl _, by omega, HS2, Lib.hid (by rw [Rx.fillS_len]; exact HX.out), G6, BK6, B6⟩
          | false =>
            rw [if_neg (by rw [hr]; decide)] at heq
            have EGO : Hid (Rx.setGo (s.length + 1) Rx.noSet s1 = Rx.setGo m (Rx.fillS x lo (lo + 1 - lo)) T) := Lib.hid (by rw [show lo + 1 - lo = 1 by omega]; exact E.out.trans heq)
            have HS2 := HST
            have hcase : T.length ≤ 1 ∨ ∃ a b t, T = a :: b :: t ∧ (a ≠ 45 ∨ (a = 45 ∧ b = 93)) := by
              match T, hr with
              | [], _ => exact .inl (by simp)
              | [a], _ => exact .inl (by simp)
              | a :: b :: t, hr =>
                refine .inr ⟨a, b, t, rfl, ?_⟩
                simp [Rx.rng] at hr
                by_cases h : a = 45
                · exact .inr ⟨h, hr h⟩
                · exact .inl h
            have hlt1 : ¬ (lo : Int) < (lo : Int) := by omega
            have hTs : (bs T).size = T.length := bs_size T
            clear heq hr
            rcases hcase with hT1 | ⟨a, b, t, hTe, hab⟩
            · have hT1I : ¬ (1 : Int) < (T.length : Int) := by omega
              go_wp2_with fail
              refine HNO.out.mono ?_
              rintro e w3 ⟨rfl, rfl⟩
              go_wp2_with fail
              refine (member_any B gp S st v _ P2.out HSS.out).mono ?_
              rw [HM.out]
              rintro e w4 ⟨rfl, hP4, hG4⟩
              have G5 := Lib.hid (G2.out.trans0 hG4)
              have B5 := Lib.hid (B2.out.pg hG4 (B2.out.ne_ BK.out (by decide)) (by simp))
              have BK5 := Lib.hid hP4.blk
              have c0 := hP4.c0
              have hl4 := hP4.lt
              clear hP4 hG4
              go_wp2
              go_loopg [7] (lo + 1 - lo) (fun gg s7 W => ∃ k : Nat, s7 = .int .i64 ((lo + k : Nat) : Int) ∧ k ≤ lo + 1 - lo ∧ lo + 1 - lo - k ≤ gg ∧ Hid (PG w W gp none) ∧ Hid (Blk W gp 99 #[.string (bs T), v]) ∧ Hid (Blk W w.heap.size 164 (bv (Rx.fillS x lo k))))
              case atStart => exact ⟨0, by go_num, by omega, by omega, G5, BK5, B5⟩
              case round =>
                obtain ⟨k, rfl, hk, hgg2, G6, BK6, B6⟩ := hrel
                by_cases hlt : k < lo + 1 - lo
                · have hI0 : (0 : Int) ≤ ((lo + k : Nat) : Int) := by omega
                  have hI1 : ((lo + k : Nat) : Int) < 256 := by omega
                  have hI2 : ((lo + k : Nat) : Int) ≤ (lo : Int) := by omega
                  have hold : ∃ u, (bv (Rx.fillS x lo k))[lo + k]? = some u := ⟨_, Array.getElem?_eq_getElem (by rw [bv_size, Rx.fillS_len, HX.out]; omega)⟩
                  obtain ⟨u, hu⟩ := hold
                  have hcell := (B6.out.cell (lo + k)).trans hu
                  have hfr := B6.out.frozen (lo + k)
                  have hblt := B6.out.lt
                  clear hu
                  generalize hp : lo + k = p at *
                  have HPP := Lib.hid hp
                  clear hp
                  go_wp2
                  go_roundg (lo + 1 - lo - (k + 1))
                  case measure => omega
                  case rel =>
                    refine ⟨k + 1, by rw [show lo + (k + 1) = p + 1 by have := HPP.out; omega]; go_num, by omega, Nat.le_refl _, Lib.hid (G6.out.setCell (.inr (.inr (Nat.le_refl _))) _), Lib.hid (BK6.out.far (p := ⟨w.heap.size, p, none⟩) (BK6.out.ne_ B6.out (by decide)) _), Lib.hid ?_⟩
                    have e : (Rx.fillS x lo k).set p true = Rx.fillS x lo (k + 1) := by rw [Rx.fillS_succ, HPP.out]
                    have := B6.out.set_ p (.bool true)
                    rw [bv_set, e] at this
                    exact this
                · have hI3 : ¬ ((lo + k : Nat) : Int) ≤ (lo : Int) := by omega
                  obtain rfl : k = lo + 1 - lo := by omega
                  generalize hp : lo + (lo + 1 - lo) = p at *
                  have HPP := Lib.hid hp
                  clear hp
                  go_wp2
                  go_roundg T.length
                  case measure => omega
                  case rel => exact ⟨m, _, T, EGO, by omega, Nat.le_refl _, by omega, HS2, Lib.hid (by rw [Rx.fillS_len]; exact HX.out), G6, BK6, B6⟩
            · have hTI : (1 : Int) < (T.length : Int) := by rw [hTe]; simp; omega
              have ha2 : a < 256 := HST.out a (by rw [hTe]; simp)
              have hb2 : b < 256 := HST.out b (by rw [hTe]; simp)
              have hix0 : ∀ w, (Instr.index 9 (.string (bs T)) (.int .i64 0)).run Try.prog w = .ok (.int .u8 (a : Int)) w := fun w => idx_bs T 0 a (by rw [hTe]; rfl) ha2 w
              have hix1 : ∀ w, (Instr.index 9 (.string (bs T)) (.int .i64 1)).run Try.prog w = .ok (.int .u8 (b : Int)) w := fun w => idx_bs T 1 b (by rw [hTe]; rfl) hb2 w
              clear hTe
              rcases hab with hab | ⟨rfl, rfl⟩
              · have haI : ((a : Int) == 45) = false := beq_eq_false_iff_ne.2 (by omega)
                go_wp2_with fail
                refine HNO.out.mono ?_
                rintro e w3 ⟨rfl, rfl⟩
                go_wp2_with fail
                refine (member_any B gp S st v _ P2.out HSS.out).mono ?_
                rw [HM.out]
                rintro e w4 ⟨rfl, hP4, hG4⟩
                have G5 := Lib.hid (G2.out.trans0 hG4)
                have B5 := Lib.hid (B2.out.pg hG4 (B2.out.ne_ BK.out (by decide)) (by simp))
                have BK5 := Lib.hid hP4.blk
                have c0 := hP4.c0
                have hl4 := hP4.lt
                clear hP4 hG4
                go_wp2
                go_loopg [7] (lo + 1 - lo) (fun gg s7 W => ∃ k : Nat, s7 = .int .i64 ((lo + k : Nat) : Int) ∧ k ≤ lo + 1 - lo ∧ lo + 1 - lo - k ≤ gg ∧ Hid (PG w W gp none) ∧ Hid (Blk W gp 99 #[.string (bs T), v]) ∧ Hid (Blk W w.heap.size 164 (bv (Rx.fillS x lo k))))
                case atStart => exact ⟨0, by go_num, by omega, by omega, G5, BK5, B5⟩
                case round =>
                  obtain ⟨k, rfl, hk, hgg2, G6, BK6, B6⟩ := hrel
                  by_cases hlt : k < lo + 1 - lo
                  · have hI0 : (0 : Int) ≤ ((lo + k : Nat) : Int) := by omega
                    have hI1 : ((lo + k : Nat) : Int) < 256 := by omega
                    have hI2 : ((lo + k : Nat) : Int) ≤ (lo : Int) := by omega
                    have hold : ∃ u, (bv (Rx.fillS x lo k))[lo + k]? = some u := ⟨_, Array.getElem?_eq_getElem (by rw [bv_size, Rx.fillS_len, HX.out]; omega)⟩
                    obtain ⟨u, hu⟩ := hold
                    have hcell := (B6.out.cell (lo + k)).trans hu
                    have hfr := B6.out.frozen (lo + k)
                    have hblt := B6.out.lt
                    clear hu
                    generalize hp : lo + k = p at *
                    have HPP := Lib.hid hp
                    clear hp
                    go_wp2
                    go_roundg (lo + 1 - lo - (k + 1))
                    case measure => omega
                    case rel =>
                      refine ⟨k + 1, by rw [show lo + (k + 1) = p + 1 by have := HPP.out; omega]; go_num, by omega, Nat.le_refl _, Lib.hid (G6.out.setCell (.inr (.inr (Nat.le_refl _))) _), Lib.hid (BK6.out.far (p := ⟨w.heap.size, p, none⟩) (BK6.out.ne_ B6.out (by decide)) _), Lib.hid ?_⟩
                      have e : (Rx.fillS x lo k).set p true = Rx.fillS x lo (k + 1) := by rw [Rx.fillS_succ, HPP.out]
                      have := B6.out.set_ p (.bool true)
                      rw [bv_set, e] at this
                      exact this
                  · have hI3 : ¬ ((lo + k : Nat) : Int) ≤ (lo : Int) := by omega
                    obtain rfl : k = lo + 1 - lo := by omega
                    generalize hp : lo + (lo + 1 - lo) = p at *
                    have HPP := Lib.hid hp
                    clear hp
                    go_wp2
                    go_roundg T.length
                    case measure => omega
                    case rel => exact ⟨m, _, T, EGO, by omega, Nat.le_refl _, by omega, HS2, Lib.hid (by rw [Rx.fillS_len]; exact HX.out), G6, BK6, B6⟩
              · go_wp2_with fail
                refine HNO.out.mono ?_
                rintro e w3 ⟨rfl, rfl⟩
                go_wp2_with fail
                refine (member_any B gp S st v _ P2.out HSS.out).mono ?_
                rw [HM.out]
                rintro e w4 ⟨rfl, hP4, hG4⟩
                have G5 := Lib.hid (G2.out.trans0 hG4)
                have B5 := Lib.hid (B2.out.pg hG4 (B2.out.ne_ BK.out (by decide)) (by simp))
                have BK5 := Lib.hid hP4.blk
                have c0 := hP4.c0
                have hl4 := hP4.lt
                clear hP4 hG4
                go_wp2
                go_loopg [7] (lo + 1 - lo) (fun gg s7 W => ∃ k : Nat, s7 = .int .i64 ((lo + k : Nat) : Int) ∧ k ≤ lo + 1 - lo ∧ lo + 1 - lo - k ≤ gg ∧ Hid (PG w W gp none) ∧ Hid (Blk W gp 99 #[.string (bs T), v]) ∧ Hid (Blk W w.heap.size 164 (bv (Rx.fillS x lo k))))
                case atStart => exact ⟨0, by go_num, by omega, by omega, G5, BK5, B5⟩
                case round =>
                  obtain ⟨k, rfl, hk, hgg2, G6, BK6, B6⟩ := hrel
                  by_cases hlt : k < lo + 1 - lo
                  · have hI0 : (0 : Int) ≤ ((lo + k : Nat) : Int) := by omega
                    have hI1 : ((lo + k : Nat) : Int) < 256 := by omega
                    have hI2 : ((lo + k : Nat) : Int) ≤ (lo : Int) := by omega
                    have hold : ∃ u, (bv (Rx.fillS x lo k))[lo + k]? = some u := ⟨_, Array.getElem?_eq_getElem (by rw [bv_size, Rx.fillS_len, HX.out]; omega)⟩
                    obtain ⟨u, hu⟩ := hold
                    have hcell := (B6.out.cell (lo + k)).trans hu
                    have hfr := B6.out.frozen (lo + k)
                    have hblt := B6.out.lt
                    clear hu
                    generalize hp : lo + k = p at *
                    have HPP := Lib.hid hp
                    clear hp
                    go_wp2
                    go_roundg (lo + 1 - lo - (k + 1))
                    case measure => omega
                    case rel =>
                      refine ⟨k + 1, by rw [show lo + (k + 1) = p + 1 by have := HPP.out; omega]; go_num, by omega, Nat.le_refl _, Lib.hid (G6.out.setCell (.inr (.inr (Nat.le_refl _))) _), Lib.hid (BK6.out.far (p := ⟨w.heap.size, p, none⟩) (BK6.out.ne_ B6.out (by decide)) _), Lib.hid ?_⟩
                      have e : (Rx.fillS x lo k).set p true = Rx.fillS x lo (k + 1) := by rw [Rx.fillS_succ, HPP.out]
                      have := B6.out.set_ p (.bool true)
                      rw [bv_set, e] at this
                      exact this
                  · have hI3 : ¬ ((lo + k : Nat) : Int) ≤ (lo : Int) := by omega
                    obtain rfl : k = lo + 1 - lo := by omega
                    generalize hp : lo + (lo + 1 - lo) = p at *
                    have HPP := Lib.hid hp
                    clear hp
                    go_wp2
                    go_roundg T.length
                    case measure => omega
                    case rel => exact ⟨m, _, T, EGO, by omega, Nat.le_refl _, by omega, HS2, Lib.hid (by rw [Rx.fillS_len]; exact HX.out), G6, BK6, B6⟩
end Go.Proofs.Ytnidjfmbbfoheaa
