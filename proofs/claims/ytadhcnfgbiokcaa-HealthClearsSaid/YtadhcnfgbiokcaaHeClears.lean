/- The statement HealthClears: who says that it is alive with a higher incarnation is not suspected; a suspicion with a higher one begins anew; one with a lower one counts nothing. Conditions: none. -/
import Derived.Test.YtadhcnfgbiokcaaHeAwake
import Derived.Test.YtadhcnfgbiokcaaHeOpen
namespace Go.Proofs.Ytadhcnfgbiokcaa
set_option linter.unusedVariables false
set_option linter.unusedSimpArgs false
open Go.ChangeShapes Go.WideShapes Go.ChangeAt Go.RowKit
def cl1 (N : Int) : Hs := (hnew 0 10 40 3).at_ 1 (some ⟨N, 0, 4⟩)
def cl2 (N now : Int) : Hs := (cl1 N).at_ 1 (some ⟨N + 1, now, 16⟩)
def cl3 (N now : Int) : Hs := (cl2 N now).at_ 1 none
def cl4 (N now : Int) : Hs := (cl3 N now).at_ 1 (some ⟨N, 0, 4⟩)
def cl5 (N now : Int) : Hs := (cl4 N now).at_ 1 none
theorem susp_in {h : Hs} {n st i fr now : Int} (hm : susMay h n st i fr now) : susp h n st i fr now = match h.s n.toNat with
    | none => (true, h.at_ n.toNat (some ⟨i, now, 2 ^ fr.toNat⟩))
    | some x =>
      if x.i < i then (true, h.at_ n.toNat (some ⟨i, now, 2 ^ fr.toNat⟩))
      else if i < x.i ∨ x.w / 2 ^ fr.toNat % 2 = 1 ∨ h.cf < (He.ones x.w : Int) then (false, h)
      else (true, h.at_ n.toNat (some ⟨x.i, x.f, x.w + 2 ^ fr.toNat⟩)) := by
  unfold susp; rw [if_pos hm]; rfl
section
variable (N now : Int) (h0 : 1 ≤ N ∧ N ≤ 1048576) (h1 : 0 ≤ now ∧ now ≤ 65535)
theorem clm (h : Hs) (hme : h.me = 0) (i fr t : Int) (hi : 0 ≤ i ∧ i ≤ 1073741824) (hf : fr < 64) (ht : 0 ≤ t ∧ t ≤ 1099511627776) : susMay h 1 1 i fr t :=
  ⟨rfl, by omega, hf, by omega, hi.1, hi.2, ht.1, ht.2⟩
include h0 in
theorem cl_1' : susp (hnew 0 10 40 3) 1 1 N 2 0 = (true, cl1 N) := by
  rw [susp_in (clm _ rfl _ _ _ (by omega) (by omega) (by omega))]
  rfl
include h0 in
theorem cl_2' : susp (cl1 N) 1 1 (N - 1) 3 0 = (false, cl1 N) := by
  rw [susp_in (clm _ rfl _ _ _ (by omega) (by omega) (by omega))]
  show (if N < N - 1 then _ else if N - 1 < N ∨ _ then _ else _) = _
  rw [if_neg (by omega), if_pos (.inl (by omega))]
include h0 h1 in
theorem cl_3' : susp (cl1 N) 1 1 (N + 1) 4 now = (true, cl2 N now) := by
  rw [susp_in (clm _ rfl _ _ _ (by omega) (by omega) (by omega))]
  show (if N < N + 1 then _ else _) = _
  rw [if_pos (by omega)]
  rfl
theorem cl_4 : endVal (cl2 N now) ((cl2 N now).s 1) = .tuple #[.int .i64 (now + 40), .bool true] := by
  have e : endOf (cl2 N now) ⟨N + 1, now, 16⟩ = now + 40 := by
    have hs : spanOf (cl2 N now) (He.ones 16) = 40 := by kernel_rfl
    show now + spanOf (cl2 N now) (He.ones 16) * (0 + 1) = now + 40
    rw [hs]; omega
  show Value.tuple #[.int .i64 (endOf (cl2 N now) ⟨N + 1, now, 16⟩), .bool true] = _
  rw [e]
theorem cl_5' : clr (cl2 N now) 1 0 (N + 1) = (false, cl2 N now) := by
  show (if N + 1 < N + 1 ∨ (N + 1 = N + 1 ∧ ¬ (0 : Int) = 2) then _ else _) = _
  rw [if_pos (.inr ⟨rfl, by omega⟩)]
theorem cl_6' : clr (cl2 N now) 1 0 (N + 2) = (true, cl3 N now) := by
  show (if N + 2 < N + 1 ∨ (N + 1 = N + 2 ∧ ¬ (0 : Int) = 2) then _ else _) = _
  rw [if_neg (by omega)]
  rfl
theorem cl3_none : ∀ k, (cl3 N now).s k = none := by
  intro k
  show (if k = 1 then none else if k = 1 then _ else if k = 1 then _ else none) = none
  by_cases h : k = 1 <;> simp [h]
theorem lenS_none (s : Nat → Option Su) (h : ∀ k, s k = none) : ∀ n, lenS s n = 0 := by
  intro n
  induction n with
  | zero => rfl
  | succ n ih => unfold lenS; rw [ih, h]; rfl
theorem dueS_none (hh : Hs) (t : Int) (h : ∀ k, hh.s k = none) : ∀ n, dueS hh t n = [] := by
  intro n
  induction n with
  | zero => rfl
  | succ n ih => unfold dueS; rw [ih, h]; rfl
theorem cl_7 : lenS (cl3 N now).s 64 = 0 := lenS_none _ (cl3_none N now) 64
theorem cl_8 : (dueS (cl3 N now) 1073741824 64).length = 0 := by rw [dueS_none _ _ (cl3_none N now)]; rfl
include h0 in
theorem cl_9' : susp (cl3 N now) 1 1 N 2 0 = (true, cl4 N now) := by
  rw [susp_in (clm _ rfl _ _ _ (by omega) (by omega) (by omega))]
  rfl
theorem cl_10' : clr (cl4 N now) 1 2 N = (true, cl5 N now) := by
  show (if N < N ∨ (N = N ∧ ¬ (2 : Int) = 2) then _ else _) = _
  rw [if_neg (by omega)]
  rfl
include h0 in
theorem cl1_ok : HsOk (cl1 N) := by
  have := susp_ok (hnew 0 10 40 3) 1 1 N 2 0 aw0_ok (by omega) (by omega)
  rwa [cl_1' N h0] at this
include h0 h1 in
theorem cl2_ok : HsOk (cl2 N now) := by
  have := susp_ok (cl1 N) 1 1 (N + 1) 4 now (cl1_ok N h0) (by omega) (by omega)
  rwa [cl_3' N now h0 h1] at this
theorem cl3_ok : HsOk (cl3 N now) := ⟨⟨aw0_ok.ok.me, aw0_ok.ok.mn, aw0_ok.ok.mx, aw0_ok.ok.mx2, aw0_ok.ok.cf, aw0_ok.ok.sc⟩, fun k x h => by rw [cl3_none] at h; cases h⟩
end

set_option maxRecDepth 100000 in
set_option maxHeartbeats 2000000 in
theorem healthClears_walk (inc now : Int) (w : World) (hi : 0 ≤ inc ∧ inc ≤ 4294967295) (ht : 0 ≤ now ∧ now ≤ 65535) :
    Calls Try.prog 5 #[.int .u32 inc, .int .u16 now] w fun e w' => e = .returned (.bool true) ∧ Below w.heap.size w w' := by
  obtain ⟨R, hR⟩ : ∃ R, inc.tmod 1048576 = R := ⟨_, rfl⟩
  have hR2 : R = inc % 1048576 := by rw [← hR, Int.tmod_eq_emod_of_nonneg hi.1]
  obtain ⟨N, hN⟩ : ∃ N, 1 + R = N := ⟨_, rfl⟩
  have hN0 : 1 ≤ N ∧ N ≤ 1048576 := by omega
  obtain ⟨n0, n1⟩ := id hN0
  obtain ⟨t0, t1⟩ := id ht
  have H0 := Lib.hid hN0
  have H1 := Lib.hid ht
  obtain ⟨i0, i1⟩ := hi
  clear hN0 ht hR2
  have KS : Hid (∀ {W}, Below w.heap.size w W → Below w.heap.size w W) := Lib.hid (fun h => h)
  have KG : Hid (∀ {g : Nat}, w.heap.size ≤ g → w.heap.size ≤ g) := Lib.hid (fun h => h)
  go_enter Try.func5, Try.ntmps5
  go_wp2_with fail
  refine (new_any 0 10 40 3 _ (by omega) (by omega) (by omega)).mono ?_
  rintro e w0 ⟨g, rfl, hb, hg, hH⟩
  have HI0 : Hid (IsH w0 g (hnew 0 10 40 3)) := Lib.hid hH
  have K0 := Lib.hid (KS.out hb)
  have hg : w.heap.size ≤ g := KG.out hg
  have l0 := K0.out.size
  have hlt := hH.lt
  clear hb hH
  go_wp2_with fail
  refine (suspect_any 1 N _).mono ?_
  rintro e w1 ⟨rfl, hb⟩
  have K1 := Lib.hid (below_then K0.out K0.out.size hb)
  have HI1 := Lib.hid (HI0.out.below hb HI0.out.lt)
  have l1 := K1.out.size
  clear hb K0 HI0 l0
  go_wp2_with fail
  refine (suspect_any2 g (hnew 0 10 40 3) 1 1 N 2 0 _ HI1.out aw0_ok (by omega) (by omega)).mono ?_
  rw [cl_1' N H0.out]
  rintro e w2 ⟨rfl, hgr, hH⟩
  have K2 := Lib.hid (grown_below K1.out hg hgr)
  have HI2 : Hid (IsH w2 g (cl1 N)) := Lib.hid hH
  have l2 := K2.out.size
  clear hgr hH K1 HI1 l1
  go_wp2_with fail
  refine (suspect_any 1 (N - 1) _).mono ?_
  rintro e w3 ⟨rfl, hb⟩
  have K3 := Lib.hid (below_then K2.out K2.out.size hb)
  have HI3 := Lib.hid (HI2.out.below hb HI2.out.lt)
  have l3 := K3.out.size
  clear hb K2 HI2 l2
  go_wp2_with fail
  refine (suspect_any2 g (cl1 N) 1 1 (N - 1) 3 0 _ HI3.out (cl1_ok N H0.out) (by omega) (by omega)).mono ?_
  rw [cl_2' N H0.out]
  rintro e w4 ⟨rfl, hgr, hH⟩
  have K4 := Lib.hid (grown_below K3.out hg hgr)
  have HI4 : Hid (IsH w4 g (cl1 N)) := Lib.hid hH
  have l4 := K4.out.size
  clear hgr hH K3 HI3 l3
  go_wp2_with fail
  refine (suspect_any 1 (N + 1) _).mono ?_
  rintro e w5 ⟨rfl, hb⟩
  have K5 := Lib.hid (below_then K4.out K4.out.size hb)
  have HI5 := Lib.hid (HI4.out.below hb HI4.out.lt)
  have l5 := K5.out.size
  clear hb K4 HI4 l4
  go_wp2_with fail
  refine (suspect_any2 g (cl1 N) 1 1 (N + 1) 4 now _ HI5.out (cl1_ok N H0.out) (by omega) (by omega)).mono ?_
  rw [cl_3' N now H0.out H1.out]
  rintro e w6 ⟨rfl, hgr, hH⟩
  have K6 := Lib.hid (grown_below K5.out hg hgr)
  have HI6 : Hid (IsH w6 g (cl2 N now)) := Lib.hid hH
  have l6 := K6.out.size
  clear hgr hH K5 HI5 l5
  go_wp2_with fail
  refine (Ends_near g (cl2 N now) 1 _ HI6.out (cl2_ok N now H0.out H1.out).ok (by omega) (fun x hx => (cl2_ok N now H0.out H1.out).su 1 x hx)).mono ?_
  rw [cl_4 N now]
  rintro e w7 ⟨rfl, hb⟩
  have K7 := Lib.hid (below_then K6.out K6.out.size hb)
  have HI7 := Lib.hid (HI6.out.below hb HI6.out.lt)
  have l7 := K7.out.size
  clear hb K6 HI6 l6
  go_wp2_with fail
  refine (clear_any g (cl2 N now) 1 0 (N + 1) _ HI7.out (by omega)).mono ?_
  rw [cl_5' N now]
  rintro e w8 ⟨rfl, hgr, hH⟩
  have K8 := Lib.hid (grown_below K7.out hg hgr)
  have HI8 : Hid (IsH w8 g (cl2 N now)) := Lib.hid hH
  have l8 := K8.out.size
  clear hgr hH K7 HI7 l7
  go_wp2_with fail
  refine (clear_any g (cl2 N now) 1 0 (N + 2) _ HI8.out (by omega)).mono ?_
  rw [cl_6' N now]
  rintro e w9 ⟨rfl, hgr, hH⟩
  have K9 := Lib.hid (grown_below K8.out hg hgr)
  have HI9 : Hid (IsH w9 g (cl3 N now)) := Lib.hid hH
  have l9 := K9.out.size
  clear hgr hH K8 HI8 l8
  go_wp2_with fail
  refine (len_any g (cl3 N now) _ HI9.out).mono ?_
  rw [cl_7 N now]
  rintro e w10 ⟨rfl, hb⟩
  have K10 := Lib.hid (below_then K9.out K9.out.size hb)
  have HI10 := Lib.hid (HI9.out.below hb HI9.out.lt)
  have l10 := K10.out.size
  clear hb K9 HI9 l9
  go_wp2_with fail
  refine (due_any g (cl3 N now) 1073741824 _ HI10.out (cl3_ok N now)).mono ?_
  rw [cl_8 N now]
  rintro e w11 ⟨v, rfl, ho, hb⟩
  obtain ⟨A11, c11, rfl⟩ := own_slice ho
  clear ho
  have K11 := Lib.hid (below_then K10.out K10.out.size hb)
  have HI11 := Lib.hid (HI10.out.below hb HI10.out.lt)
  have l11 := K11.out.size
  clear hb K10 HI10 l10
  go_wp2_with fail
  refine (suspect_any 1 N _).mono ?_
  rintro e w12 ⟨rfl, hb⟩
  have K12 := Lib.hid (below_then K11.out K11.out.size hb)
  have HI12 := Lib.hid (HI11.out.below hb HI11.out.lt)
  have l12 := K12.out.size
  clear hb K11 HI11 l11
  go_wp2_with fail
  refine (suspect_any2 g (cl3 N now) 1 1 N 2 0 _ HI12.out (cl3_ok N now) (by omega) (by omega)).mono ?_
  rw [cl_9' N now H0.out]
  rintro e w13 ⟨rfl, hgr, hH⟩
  have K13 := Lib.hid (grown_below K12.out hg hgr)
  have HI13 : Hid (IsH w13 g (cl4 N now)) := Lib.hid hH
  have l13 := K13.out.size
  clear hgr hH K12 HI12 l12
  go_wp2_with fail
  refine (clear_any g (cl4 N now) 1 2 N _ HI13.out (by omega)).mono ?_
  rw [cl_10' N now]
  rintro e w14 ⟨rfl, hgr, hH⟩
  have K14 := Lib.hid (grown_below K13.out hg hgr)
  have HI14 : Hid (IsH w14 g (cl5 N now)) := Lib.hid hH
  have l14 := K14.out.size
  clear hgr hH K13 HI13 l13
  go_wp2_with fail
  refine (awake_any _).mono ?_
  rintro e w15 ⟨rfl, hb⟩
  have K15 := Lib.hid (below_then K14.out K14.out.size hb)
  have HI15 := Lib.hid (HI14.out.below hb HI14.out.lt)
  have l15 := K15.out.size
  clear hb K14 HI14 l14
  go_wp2
  go_ret
  exact ⟨rfl, K15.out⟩
set_option maxRecDepth 100000 in
theorem healthClears_lifted (os : Os) (started : os.Started) (H : Type) (enc : TypeId × Value → H) :
    ReturnsInHanded {} Try.checked os 5 .any (Rows.healthClearsSpec.pre6 enc Try.prog Try.f5 Rows.healthClearsRow.domain false) (Rows.healthClearsSpec.post enc Try.prog Try.f5 false true false false) := by
  refine returnsInHanded_of_change (C := Try.checked) tOwn started (by kernel_rfl) Try.func5
    (ChangeSpec.witness6 (enc := enc) (C := Try.checked) false ⟨#[], #[.int .u32 0, .int .u16 0], []⟩ 8 (by kernel_rfl) (by kernel_rfl) (by kernel_rfl) (by kernel_rfl)) ?_
  intro W base args ds gs before hval0 hW hcnd _
  have hval : ∀ (j : Nat) t v, Try.f5.params[j]? = some t → args[j]? = some v → Value.okWide Try.prog W .any base t v := hval0
  have hW' := hW
  obtain ⟨p, q, hA0, hV, rfl, hfz, hnd⟩ := hW
  have hA : DataW.TrodAll enc Try.prog W 0 (fun _ => true) true Try.f5.params.toList args.toList ds p := hA0
  rw [Try.params5] at hA hval
  obtain ⟨v0, vs0, d0, ds0, p0, q0, hargs, rfl, rfl, h0, r0⟩ := trodAll_cons hA
  obtain ⟨v1, vs1, d1, ds1, p1, q1, rfl, rfl, rfl, h1, r1⟩ := trodAll_cons r0
  obtain ⟨rfl, rfl, rfl⟩ := trodAll_nil r1
  obtain rfl : args = #[v0, v1] := by cases args; simp_all
  obtain ⟨a, rfl, rfl, rfl, wa⟩ := open_int Try.underlying44 (hval 0 44 v0 rfl rfl) h0
  obtain ⟨b, rfl, rfl, rfl, wb⟩ := open_int Try.underlying22 (hval 1 22 v1 rfl rfl) h1
  refine (healthClears_walk a b W (bounds_u32 wa) (bounds_u16 wb)).mono fun e W' ⟨he, hb⟩ => ?_
  subst he
  exact ⟨_, rfl, law_post tLaid (by decide +kernel) hW' rfl (by kernel_rfl) Try.underlying4 rfl hb⟩

/-- The statement. -/
theorem healthClears_holds : Rows.HealthClearsSaid :=
  OpenClaim.holds_of_wide 5 Try.f5 rfl rfl rfl rfl rfl rfl rfl ⟨rfl, rfl, rfl, rfl, rfl⟩ rfl rfl rfl rfl rfl (by kernel_rfl) Try.func5 (by kernel_rfl)
    (of_decide_eq_true (by kernel_rfl)) (by unfold Func.isWrapper; rw [if_neg (of_decide_eq_false (by kernel_rfl))]; exact ⟨rfl, rfl⟩)
    (fun os started H enc _ => healthClears_lifted os started H enc)
#print axioms healthClears_holds
end Go.Proofs.Ytadhcnfgbiokcaa
