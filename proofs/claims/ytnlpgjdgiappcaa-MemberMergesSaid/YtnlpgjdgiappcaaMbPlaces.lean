/- The statement MemberPlaces: the places of nodes that see the same members are unlike, and go from 0 on, one for each that is there. Conditions: none. -/
import Derived.Test.YtnlpgjdgiappcaaMbSame
import Derived.Test.YtnlpgjdgiappcaaMbAwake
import Derived.Test.YtnlpgjdgiappcaaMbOpen
namespace Go.Proofs.Ytnlpgjdgiappcaa
set_option linter.unusedVariables false
set_option linter.unusedSimpArgs false
open Go.ChangeShapes Go.WideShapes Go.ChangeAt Go.RowKit

theorem listT_len (F : Pl.Tab) : (Pl.listT F).length ≤ 64 := by
  have := List.length_filterMap_le F (List.range 64)
  rwa [List.length_range] at this
theorem listT_mok {z : Int} {F : Pl.Tab} (h : Pl.TOk z F) : ∀ m ∈ Pl.listT F, Pl.MOk m := fun m hm => by
  obtain ⟨j, hj, e⟩ := List.mem_filterMap.1 hm
  obtain ⟨a1, a2, a3, a4, a5, a6⟩ := h.at_ j m e
  exact ⟨by omega, by omega, by omega, by omega, by omega, by omega⟩
theorem thereT_node {z : Int} {F : Pl.Tab} (h : Pl.TOk z F) {x : Int} (hx : x ∈ Pl.thereT F) : 0 ≤ x ∧ x < 64 := by
  obtain ⟨m, hm, rfl⟩ := List.mem_map.1 hx
  obtain ⟨j, hj, e⟩ := List.mem_filterMap.1 (List.mem_filter.1 hm).1
  obtain ⟨a1, a2, a3, a4, a5, a6⟩ := h.at_ j m e
  omega

set_option maxRecDepth 100000 in
set_option maxHeartbeats 4000000 in
theorem places_walk (A : Option Addr) (c : Nat) (l : List Pl.M) (w : World) (hl : ReadsM w (fun b => b < w.heap.size) A l) (hml : ∀ m ∈ l, Pl.MOk m) (h1 : l.length ≤ 150) :
    Calls Try.prog 5 #[.slice A l.length c] w fun e w' => e = .returned (.bool true) ∧ Below w.heap.size w w' := by
  have g1 : ¬ (150 : Int) < l.length := by omega
  go_enter Try.func5, Try.ntmps5
  go_wp2_with fail
  refine (new_any 0 _ (by omega) (by omega)).mono ?_
  rintro e w1 ⟨g, rfl, hb1, hg, hT1⟩
  have hT1' : IsT w1 g 0 (Pl.newT 0) := hT1
  have K1 := Lib.hid hb1
  have T1 := Lib.hid hT1'
  have L1 := Lib.hid (hl.below (by omega) hb1)
  clear hb1 hT1 hT1' hl
  go_wp2_with fail
  refine (merge_any g 0 _ A c l _ T1.out hml (by omega) (L1.out.imp fun b hb => by omega)).mono ?_
  rintro e w2 ⟨v2, rfl, ho2, hg2, hT2⟩
  have hF : Pl.TOk 0 (Pl.merge 0 (Pl.newT 0) l) := Pl.merge_ok l (Pl.newT_ok (by omega) (by omega)) hml
  have K2 := Lib.hid (K1.out.grown hg2 K1.out.size (fun k e => by injection e with e; omega))
  have T2 := Lib.hid hT2
  clear ho2 hg2 hT2 T1 L1 K1
  generalize Pl.merge 0 (Pl.newT 0) l = F at *
  go_wp2_with fail
  refine (there_any g 0 F _ T2.out).mono ?_
  rintro e w3 ⟨v3, rfl, ho3, hb3⟩
  obtain ⟨A3, c3, rfl, r3⟩ := Reads.of_own ho3
  have hlow := own_base ho3
  have K3 := Lib.hid (below_then K2.out K2.out.size hb3)
  have T3 := Lib.hid (T2.out.below hb3 T2.out.lt)
  have R3 := Lib.hid ((r3.there (by omega)).imp (S' := fun b => b ≠ g ∧ b < w3.heap.size) fun b hb => ⟨by have := hlow b hb.1; have := T2.out.lt; omega, hb.2⟩)
  have hth := there_length F
  have HF := Lib.hid hF
  have hsrt := Lib.hid (Pl.thereT_sorted hF)
  clear ho3 hb3 r3 hlow T2 K2 hF
  generalize hTH : Pl.thereT F = th at *
  have HTH := Lib.hid hTH
  clear hTH
  go_wp2
  go_loopw [5, 6] (fun i u wr => ∃ k : Nat, k ≤ th.length ∧ i = .int .i64 k ∧ Below w.heap.size w wr ∧ IsT wr g 0 F ∧ w3.heap.size ≤ wr.heap.size ∧ Reads wr (fun b => b ≠ g ∧ b < w3.heap.size) 1 A3 th.length (u16s th)) (fun i _ _ => th.length - (intOf i).toNat)
  case atStart => exact ⟨0, Nat.zero_le _, rfl, K3.out, T3.out, Nat.le_refl _, R3.out⟩
  case round =>
    obtain ⟨k, hk, rfl, hbw, hT, h3r, hR⟩ := hrel
    by_cases hlt : k < th.length
    · obtain ⟨x, hx⟩ : ∃ x, th[k]? = some x := ⟨th[k], List.getElem?_eq_getElem hlt⟩
      obtain ⟨p, o, rfl, hpb, hcell⟩ := hR.2 (by omega)
      have hc := hcell k _ (u16s_get th k x hx)
      have hxn := thereT_node HF.out (x := x) (by rw [HTH.out]; exact List.mem_of_getElem? hx)
      have hplace : ∀ G, Pl.listT G = Pl.listT F → Pl.posT x G = k := fun G hG => by
        have e := HTH.out
        subst e
        exact Pl.place HF.out k hlt x (by rw [List.getElem?_eq_getElem hlt] at hx; injection hx) G hG
      have HP := Lib.hid hplace
      have HX := Lib.hid hx
      have KW := Lib.hid hbw
      have TW := Lib.hid hT
      have RW := Lib.hid hR
      clear hplace hx hbw hT hR hcell
      have hgw : w.heap.size ≤ g := hg
      go_wp2_with fail
      refine (new_any x _ (by omega) (by omega)).mono ?_
      rintro e w4 ⟨h, rfl, hb4, hh, hU4⟩
      have hxm : x % 64 = x := by omega
      rw [hxm] at hU4
      clear hxm
      have hgh : g < h := Nat.lt_of_lt_of_le TW.out.lt hh
      have hwr := KW.out.size
      have l4 := hb4.size
      have K4 := Lib.hid (below_then KW.out KW.out.size hb4)
      have T4 := Lib.hid (TW.out.below hb4 TW.out.lt)
      have R4' := RW.out.below (by omega) hb4
      have hc4 : w4.cell? ⟨p, o + k, none⟩ = some (.int .u16 x) := by
        obtain ⟨p', o', e, _, hcc⟩ := R4'.2 (by omega)
        injection e with e
        injection e with e1 e2
        rw [e1, e2]
        exact hcc k _ (u16s_get th k x HX.out)
      have R4 := Lib.hid R4'
      have U4 := Lib.hid hU4
      clear hb4 hU4 R4' hc TW RW KW
      by_cases hx0 : x = 0
      · have t0 : (x == 0) = true := by simpa using hx0
        have hk0 : Pl.posT 0 F = k := by rw [← hx0]; exact HP.out F rfl
        clear hx0
        go_wp2_with fail
        refine (list_any g 0 F _ T4.out).mono ?_
        rintro e w5 ⟨v5, rfl, ho5, hb5⟩
        obtain ⟨A5, c5, rfl, r5⟩ := Reads.of_own ho5
        have hlow := own_base ho5
        have R5 := Lib.hid (r5.imp (S' := fun b => b ≠ g) fun b hb => by have := hlow b hb; have := T4.out.lt; omega : ReadsM w5 (fun b => b ≠ g) A5 (Pl.listT F))
        have K5 := Lib.hid (below_then K4.out K4.out.size hb5)
        have T5 := Lib.hid (T4.out.below hb5 T4.out.lt)
        have RR5 := Lib.hid (R4.out.below (by omega) hb5)
        have hfl := listT_len F
        have l5 := hb5.size
        clear ho5 hb5 r5 hlow hc4 T4 R4 K4 U4
        go_wp2_with fail
        refine (merge_any g 0 F A5 _ (Pl.listT F) _ T5.out (listT_mok HF.out) (by omega) R5.out).mono ?_
        rw [(Pl.merge_old (self := 0) (Pl.listT F) (fun m hm => Pl.listT_mem HF.out hm)).1]
        rintro e w6 ⟨v6, rfl, ho6, hg6, hT6⟩
        have K6 := Lib.hid (K5.out.grown hg6 K5.out.size (fun k e => by injection e with e; omega))
        have T6 := Lib.hid hT6
        have R6 := Lib.hid (RR5.out.grown (by omega) hg6 (fun b hb e => hb.1 (by injection e)))
        have l6 := hg6.size
        clear ho6 hg6 hT6 T5 R5 RR5 K5
        go_wp2_with fail
        refine (position_any g 0 F _ T6.out).mono ?_
        rw [hk0]
        rintro e w7 ⟨rfl, hb7⟩
        have K7 := Lib.hid (below_then K6.out K6.out.size hb7)
        have T7 := Lib.hid (T6.out.below hb7 T6.out.lt)
        have R7 := Lib.hid (R6.out.below (by omega) hb7)
        have l7 := hb7.size
        clear hb7 hk0 t0
        go_wp2
        go_roundw
        case rel => exact ⟨k + 1, by omega, by go_num, K7.out, T7.out, by omega, R7.out⟩
        case measure => simp [intOf]; omega
      · have t0 : (x == 0) = false := by simpa using hx0
        clear hx0
        go_wp2_with fail
        refine (list_any g 0 F _ T4.out).mono ?_
        rintro e w5 ⟨v5, rfl, ho5, hb5⟩
        obtain ⟨A5, c5, rfl, r5⟩ := Reads.of_own ho5
        have hlow := own_base ho5
        have R5 := Lib.hid (r5.imp (S' := fun b => b ≠ h) fun b hb => by have := hlow b hb; have := U4.out.lt; omega : ReadsM w5 (fun b => b ≠ h) A5 (Pl.listT F))
        have K5 := Lib.hid (below_then K4.out K4.out.size hb5)
        have T5 := Lib.hid (T4.out.below hb5 T4.out.lt)
        have U5 := Lib.hid (U4.out.below hb5 U4.out.lt)
        have RR5 := Lib.hid (R4.out.below (by omega) hb5)
        have hfl := listT_len F
        have l5 := hb5.size
        clear ho5 hb5 r5 hlow hc4 T4 R4 K4 U4
        go_wp2_with fail
        refine (merge_any h x _ A5 _ (Pl.listT F) _ U5.out (listT_mok HF.out) (by omega) R5.out).mono ?_
        rintro e w6 ⟨v6, rfl, ho6, hg6, hU6⟩
        have K6 := Lib.hid (K5.out.grown hg6 K5.out.size (fun k e => by injection e with e; omega))
        have T6 := Lib.hid (T5.out.grown hg6 (fun e => by injection e with e; omega))
        have U6 := Lib.hid hU6
        have R6 := Lib.hid (RR5.out.grown (by omega) hg6 (fun b hb e => by injection e with e; have := hb.2; omega))
        have l6 := hg6.size
        clear ho6 hg6 hU6 T5 R5 RR5 K5 U5
        generalize hG : Pl.merge x (Pl.newT x) (Pl.listT F) = G at *
        have hgl := listT_len G
        clear hG
        go_wp2_with fail
        refine (position_any h x G _ U6.out).mono ?_
        rintro e w7 ⟨rfl, hb7⟩
        have K7 := Lib.hid (below_then K6.out K6.out.size hb7)
        have T7 := Lib.hid (T6.out.below hb7 T6.out.lt)
        have U7 := Lib.hid (U6.out.below hb7 U6.out.lt)
        have R7 := Lib.hid (R6.out.below (by omega) hb7)
        have l7 := hb7.size
        clear hb7 t0 K6 T6 U6 R6
        by_cases hpos : Pl.posT x G = k
        · rw [hpos]
          clear hpos
          go_wp2
          go_roundw
          case rel => exact ⟨k + 1, by omega, by go_num, K7.out, T7.out, by omega, R7.out⟩
          case measure => simp [intOf]; omega
        · have hne : ¬ Pl.listT G = Pl.listT F := fun e => hpos (HP.out G e)
          have HNE := Lib.hid hne
          have tp : ((Pl.posT x G : Int) != (k : Int)) = true := by simp; omega
          clear hpos hne
          go_wp2_with fail
          refine (list_any h x G _ U7.out).mono ?_
          rintro e w8 ⟨v8, rfl, ho8, hb8⟩
          obtain ⟨A8, c8, rfl, r8⟩ := Reads.of_own ho8
          have R8 := Lib.hid (r8.imp (S' := fun _ => True) fun _ _ => trivial : ReadsM w8 (fun _ => True) A8 (Pl.listT G))
          have K8 := Lib.hid (below_then K7.out K7.out.size hb8)
          have T8 := Lib.hid (T7.out.below hb8 T7.out.lt)
          have RR8 := Lib.hid (R7.out.below (by omega) hb8)
          have l8 := hb8.size
          clear ho8 hb8 r8 K7 T7 R7 U7
          go_wp2_with fail
          refine (list_any g 0 F _ T8.out).mono ?_
          rintro e w9 ⟨v9, rfl, ho9, hb9⟩
          obtain ⟨A9, c9, rfl, r9⟩ := Reads.of_own ho9
          have R9 := Lib.hid (r9.imp (S' := fun _ => True) fun _ _ => trivial : ReadsM w9 (fun _ => True) A9 (Pl.listT F))
          have R9' := Lib.hid (R8.out.below (by omega) hb9 : ReadsM w9 (fun _ => True) A8 (Pl.listT G))
          have K9 := Lib.hid (below_then K8.out K8.out.size hb9)
          have T9 := Lib.hid (T8.out.below hb9 T8.out.lt)
          have RR9 := Lib.hid (RR8.out.below (by omega) hb9)
          have l9 := hb9.size
          clear ho9 hb9 r9 K8 T8 RR8 R8
          go_wp2_with fail
          refine (same_any A8 A9 _ _ _ _ _ R9'.out R9.out (by omega) (by omega)).mono ?_
          rw [decide_eq_false HNE.out]
          rintro e w10 ⟨rfl, hb10⟩
          have K10 := Lib.hid (below_then K9.out K9.out.size hb10)
          have T10 := Lib.hid (T9.out.below hb10 T9.out.lt)
          have RR10 := Lib.hid (RR9.out.below (by omega) hb10)
          have l10 := hb10.size
          clear hb10 K9 T9 RR9 R9 R9'
          go_wp2
          go_roundw
          case rel => exact ⟨k + 1, by omega, by go_num, K10.out, T10.out, by omega, RR10.out⟩
          case measure => simp [intOf]; omega
    · obtain rfl : k = th.length := by omega
      have KW := Lib.hid hbw
      clear hbw hT hR
      go_wp2_with fail
      refine (awake_any _).mono ?_
      rintro e w13 ⟨rfl, hb13⟩
      have K13 := Lib.hid (below_then KW.out KW.out.size hb13)
      clear hb13
      go_wp2
      go_ret
      exact ⟨rfl, K13.out⟩

set_option maxRecDepth 100000 in
set_option maxHeartbeats 1000000 in
theorem places_long (A : Option Addr) (c n : Nat) (w : World) (h : 150 < n) :
    Calls Try.prog 5 #[.slice A n c] w fun e w' => e = .returned (.bool true) ∧ Below w.heap.size w w' := by
  have g1 : (150 : Int) < n := by omega
  go_enter Try.func5, Try.ntmps5
  go_wp2_with fail
  refine (awake_any _).mono ?_
  rintro e w1 ⟨rfl, hb⟩
  have HB := Lib.hid hb
  clear hb
  go_wp2
  go_ret
  exact ⟨rfl, HB.out⟩

theorem places_all (A : Option Addr) (c : Nat) (l : List Pl.M) (w : World) (hl : ReadsM w (fun b => b < w.heap.size) A l) (hml : ∀ m ∈ l, Pl.MOk m) :
    Calls Try.prog 5 #[.slice A l.length c] w fun e w' => e = .returned (.bool true) ∧ Below w.heap.size w w' := by
  by_cases h1 : l.length ≤ 150
  · exact places_walk A c l w hl hml h1
  · exact places_long A c _ w (by omega)

set_option maxRecDepth 100000 in
theorem memberPlaces_lifted (os : Os) (started : os.Started) (H : Type) (enc : TypeId × Value → H) :
    ReturnsInHanded {} Try.checked os 5 .any (Rows.memberPlacesSpec.pre6 enc Try.prog Try.f5 Rows.memberPlacesRow.domain false) (Rows.memberPlacesSpec.post enc Try.prog Try.f5 false true false false) := by
  refine returnsInHanded_of_change (C := Try.checked) tOwn started (by kernel_rfl) Try.func5
    (ChangeSpec.witness6 (enc := enc) (C := Try.checked) false ⟨#[], #[.slice none 0 0], []⟩ 8 (by kernel_rfl) (by kernel_rfl) (by kernel_rfl) (by kernel_rfl)) ?_
  intro W base args ds gs before hval0 hW hcnd _
  have hval : ∀ (j : Nat) t v, Try.f5.params[j]? = some t → args[j]? = some v → Value.okWide Try.prog W .any base t v := hval0
  have hW' := hW
  obtain ⟨p, q, hA0, hV, rfl, hfz, hnd⟩ := hW
  have hA : DataW.TrodAll enc Try.prog W 0 (fun _ => true) true Try.f5.params.toList args.toList ds p := hA0
  rw [Try.params5] at hA hval
  obtain ⟨v0, vs0, d0, ds0, p0, q0, hargs, rfl, rfl, h0, r0⟩ := trodAll_cons hA
  obtain ⟨rfl, rfl, rfl⟩ := trodAll_nil r0
  obtain rfl : args = #[v0] := by cases args; simp_all
  obtain ⟨Al, cl, l, rfl, rl, ml⟩ := open_members (hval 0 36 v0 rfl rfl) h0
  refine (places_all Al cl l W rl ml).mono fun e W' ⟨he, hb⟩ => ?_
  subst he
  exact ⟨_, rfl, law_post tLaid (by decide +kernel) hW' rfl (by kernel_rfl) Try.underlying4 rfl hb⟩

/-- The statement. -/
theorem memberPlaces_holds : Rows.MemberPlacesSaid :=
  OpenClaim.holds_of_wide 5 Try.f5 rfl rfl rfl rfl rfl rfl rfl ⟨rfl, rfl, rfl, rfl, rfl⟩ rfl rfl rfl rfl rfl (by kernel_rfl) Try.func5 (by kernel_rfl)
    (of_decide_eq_true (by kernel_rfl)) (by unfold Func.isWrapper; rw [if_neg (of_decide_eq_false (by kernel_rfl))]; exact ⟨rfl, rfl⟩)
    (fun os started H enc _ => memberPlaces_lifted os started H enc)
#print axioms memberPlaces_holds

end Go.Proofs.Ytnlpgjdgiappcaa
