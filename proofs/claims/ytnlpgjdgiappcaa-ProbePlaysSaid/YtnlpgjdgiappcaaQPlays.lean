/- The statement ProbePlays: any ticks, answers and hearsay lead to the questions, the help and the suspicions that the document says. Conditions: none. -/
import Derived.Test.YtnlpgjdgiappcaaQ8
import Derived.Test.YtnlpgjdgiappcaaQ9
import Derived.Deep.CutBlock
namespace Go.Proofs.Ytnlpgjdgiappcaa
set_option linter.unusedVariables false
set_option linter.unusedSimpArgs false
open Go.ChangeShapes Go.WideShapes Go.ChangeAt Go.RowKit Go.Joins Go.Deep

set_option maxRecDepth 100000 in
set_option maxHeartbeats 4000000 in
theorem plays_no (s per tmo er : Int) (Al : Option Addr) (cl n : Nat) (w : World) (h0 : 0 ≤ s) (h1 : s ≤ 65535) (hM : ∀ w, Calls Try.prog 38 #[.int .u16 s, .int .i64 per, .int .i64 tmo] w fun e w' => ∃ g, e = .returned (.tuple #[.pointer (some ⟨g, 0, none⟩), .bool true]) ∧ Below w.heap.size w w' ∧ w'.cell? ⟨g, 0, none⟩ = some (.pointer none)) :
    Calls Try.prog 13 #[.int .u16 s, .agg #[.int .i64 per, .int .i64 tmo], .slice Al n cl] w fun e w' => e = .returned (.bool true) ∧ Below w.heap.size w w' := by
  have HM := Lib.hid hM
  clear hM
  have K0 := Lib.hid ((Below.refl w.heap.size w).alloc (Nat.le_refl _) (.cells #[.int .i64 per, .int .i64 tmo] 89))
  have BB := Lib.hid (Blk.new w 89 #[.int .i64 per, .int .i64 tmo])
  have L0 : w.heap.size < (w.alloc (.cells #[.int .i64 per, .int .i64 tmo] 89)).heap.size := by simp
  go_enter Try.func13, Try.ntmps13
  have z0 := BB.out.cell 0
  have z1 := BB.out.cell 1
  simp only [List.getElem?_toArray, List.getElem?_cons_zero, List.getElem?_cons_succ] at z0 z1
  go_upto_region 1 with fail
  generalize w.alloc (.cells #[.int .i64 per, .int .i64 tmo] 89) = w1 at *
  obtain ⟨bx, hbx⟩ : ∃ b, w.heap.size = b := ⟨_, rfl⟩
  have HBX := Lib.hid hbx
  rw [hbx] at z0 z1 L0
  rw [hbx]
  clear hbx BB
  go_wp2_with fail
  refine (HM.out _).mono ?_
  rintro e w2 ⟨g, rfl, hb, hg⟩
  have K2 := Lib.hid (below_then K0.out K0.out.size hb)
  clear hb
  go_wp2_with fail
  refine (pawake_any _).mono ?_
  rintro e w3 ⟨rfl, hb⟩
  have K3 := Lib.hid (below_then K2.out K2.out.size hb)
  clear hb
  go_wp2
  go_ret
  exact ⟨rfl, K3.out⟩
set_option maxRecDepth 100000 in
set_option maxHeartbeats 4000000 in
theorem plays_yes (s per tmo : Int) (Al : Option Addr) (cl : Nat) (l : List Ac) (w : World) (h0 : 0 ≤ s) (h1 : s < 64) (h2 : Pl.may per 1 = true) (h3 : Pl.may tmo 1 = true) (rl : Reads w (fun b => b < w.heap.size) 7 Al l.length (acs l)) (ml : ∀ a ∈ l, a.Ok) :
    Calls Try.prog 13 #[.int .u16 s, .agg #[.int .i64 per, .int .i64 tmo], .slice Al l.length cl] w fun e w' => e = .returned (.bool true) ∧ Below w.heap.size w w' := by
  have RL := Lib.hid rl
  have ML := Lib.hid ml
  have HM := Lib.hid (fun w => made_yes2 s per tmo w h0 h1 h2 h3)
  have HP0 : Hid (Pl.PbOk (Pl.pnew s per tmo)) := Lib.hid (Pl.pnew_ok h0 h1 h2 h3)
  have HT0 : Hid (Pl.TOk s (Pl.newT s)) := Lib.hid (Pl.newT_ok h0 h1)
  clear rl ml h0 h1 h2 h3
  have K0 := Lib.hid ((Below.refl w.heap.size w).alloc (Nat.le_refl _) (.cells #[.int .i64 per, .int .i64 tmo] 89))
  have BB := Lib.hid (Blk.new w 89 #[.int .i64 per, .int .i64 tmo])
  have L0 : w.heap.size < (w.alloc (.cells #[.int .i64 per, .int .i64 tmo] 89)).heap.size := by simp
  go_enter Try.func13, Try.ntmps13
  have z0 := BB.out.cell 0
  have z1 := BB.out.cell 1
  simp only [List.getElem?_toArray, List.getElem?_cons_zero, List.getElem?_cons_succ] at z0 z1
  go_upto_region 1 with fail
  generalize w.alloc (.cells #[.int .i64 per, .int .i64 tmo] 89) = w1 at *
  obtain ⟨bx, hbx⟩ : ∃ b, w.heap.size = b := ⟨_, rfl⟩
  have HBX := Lib.hid hbx
  rw [hbx] at z0 z1 L0
  rw [hbx]
  clear hbx BB
  go_wp2_with fail
  refine (HM.out _).mono ?_
  rintro e w2 ⟨g, gp, gt, B, cB, rfl, hb, hg, hgp, hgt, hW⟩
  rw [(Pl.ag_new s per tmo).eq] at hW
  have K2 := Lib.hid (below_then K0.out K0.out.size hb)
  have hl2 := HBX.out
  have hG : Hid (w.heap.size ≤ g) := Lib.hid (by omega)
  have hGp : Hid (w.heap.size ≤ gp) := Lib.hid (by omega)
  have hGt : Hid (w.heap.size ≤ gt) := Lib.hid (by omega)
  have HR2 : Hid (RJ w w2 g gp gt 0) := Lib.hid ⟨Pl.pnew s per tmo, _, _, _, _, _, _, hW, HP0.out, HT0.out, by show (0 : Int) ≤ 0; omega, by show (0 : Int) ≤ 0; omega, by omega, by omega, K2.out⟩
  have y0 := hW.blk.cell 0
  simp only [wcells, List.getElem?_toArray, List.getElem?_cons_zero, List.getElem?_cons_succ] at y0
  clear hW hb hg hgp hgt hl2 z0 z1 L0
  by_cases hL : 200 < l.length
  · have hL' : decide ((l.length : Int) > 200) = true := by simp; omega
    go_wp2_with fail
    refine (pawake_any _).mono ?_
    rintro e w3 ⟨rfl, hb⟩
    have K3 := Lib.hid (below_then K2.out K2.out.size hb)
    clear hb
    go_wp2
    go_ret
    exact ⟨rfl, K3.out⟩
  have hL' : decide ((l.length : Int) > 200) = false := by simp; omega
  go_wp2
  clear y0
  go_loopw [9] (fun i wr => ∃ (j : Nat), j ≤ l.length ∧ i = .int .i64 (j : Int) ∧ RJ w wr g gp gt j) (fun i _ => l.length - (intOf i).toNat)
  case atStart => exact ⟨0, by omega, rfl, HR2.out⟩
  case round =>
    obtain ⟨j, hj, rfl, hRI⟩ := hrel
    have HR := Lib.hid hRI
    clear hRI
    by_cases hjl : j < l.length
    · have hjI0 : (0 : Int) ≤ (j : Int) := by omega
      have hjI1 : (j : Int) < (l.length : Int) := by omega
      obtain ⟨a, ha⟩ : ∃ a, l[j]? = some a := ⟨l[j], List.getElem?_eq_getElem hjl⟩
      have hao := ML.out a (List.mem_of_getElem? ha)
      have AO := Lib.hid hao
      obtain ⟨b, o, rfl, hbb, hcell⟩ := RL.out.2 (by omega)
      have hC0 := acs_at hcell ha
      have hK : Below w.heap.size w wr := by
        obtain ⟨p, F, A, cA, B, cB, now, hW, c1, c2, c3, c4, c5, c6, hK⟩ := HR.out
        exact hK
      have q0 := (hK.cell (p := ⟨b, _, none⟩) hbb).trans hC0.1
      have q1 := (hK.cell (p := ⟨b, _, none⟩) hbb).trans hC0.2.1
      have q2 := (hK.cell (p := ⟨b, _, none⟩) hbb).trans hC0.2.2.1
      have q3 := (hK.cell (p := ⟨b, _, none⟩) hbb).trans hC0.2.2.2.1
      have q4 := (hK.cell (p := ⟨b, _, none⟩) hbb).trans hC0.2.2.2.2.1
      have q5 := (hK.cell (p := ⟨b, _, none⟩) hbb).trans hC0.2.2.2.2.2.1
      have q6 := (hK.cell (p := ⟨b, _, none⟩) hbb).trans hC0.2.2.2.2.2.2
      have HDO := Lib.hid (do_any w wr g gp gt j a HR.out (by omega) AO.out hG.out hGp.out hGt.out)
      unfold acells at HDO
      clear hK hcell hC0 ha hao hbb
      go_wp2_with fail
      refine HDO.out.mono ?_
      rintro e w4 ⟨rfl, hR4⟩
      have R4 := Lib.hid hR4
      obtain ⟨p, F, A, cA, B', cB', now, hW, c1, c2, c3, c4, c5, c6, hK⟩ := hR4
      have W4 := Lib.hid hW
      clear hW c1 c2 c3 c4 c5 c6 hK
      go_wp2_with fail
      refine (same40_any g gp gt p F A cA B' cB' now _ W4.out).mono ?_
      rintro e w5 ⟨rfl, hb⟩
      have R5 := Lib.hid (R4.out.below hb)
      clear hb
      go_wp2
      go_roundw
      case rel => exact ⟨j + 1, by omega, by go_num, R5.out⟩
      case measure => simp [intOf]; omega
    · have K3 : Hid (Below w.heap.size w wr) := by
        obtain ⟨p, F, A, cA, B, cB, now, hW, c1, c2, c3, c4, c5, c6, hK⟩ := HR.out
        exact Lib.hid hK
      go_wp2_with fail
      refine (pawake_any _).mono ?_
      rintro e w5 ⟨rfl, hb⟩
      have K5 := Lib.hid (below_then K3.out K3.out.size hb)
      clear hb
      go_wp2
      go_ret
      exact ⟨rfl, K5.out⟩
theorem plays_walk (s per tmo : Int) (Al : Option Addr) (cl : Nat) (l : List Ac) (w : World) (h0 : 0 ≤ s) (h1 : s ≤ 65535) (rl : Reads w (fun b => b < w.heap.size) 7 Al l.length (acs l)) (ml : ∀ a ∈ l, a.Ok) :
    Calls Try.prog 13 #[.int .u16 s, .agg #[.int .i64 per, .int .i64 tmo], .slice Al l.length cl] w fun e w' => e = .returned (.bool true) ∧ Below w.heap.size w w' := by
  by_cases h : 64 ≤ s
  · exact plays_no s per tmo 2 Al cl _ w h0 h1 (fun w => made_no2 s per tmo 2 w h0 h1 (by decide) (fun w => pnew_far s per tmo w h) (by unfold rnewVal; rw [if_pos h]))
  · cases hm : (Pl.may per 1 && Pl.may tmo 1) with
    | false => exact plays_no s per tmo 13 Al cl _ w h0 h1 (fun w => made_no2 s per tmo 13 w h0 h1 (by decide) (fun w => pnew_no s per tmo w h0 (by omega) hm) (by unfold rnewVal; rw [if_neg h, if_neg (by rw [times_not hm]; decide)]))
    | true =>
      rw [Bool.and_eq_true] at hm
      exact plays_yes s per tmo Al cl l w h0 (by omega) hm.1 hm.2 rl ml
set_option maxRecDepth 100000 in
theorem probePlays_lifted (os : Os) (started : os.Started) (H : Type) (enc : TypeId × Value → H) :
    ReturnsInHanded {} Try.checked os 13 .any (Rows.probePlaysSpec.pre6 enc Try.prog Try.f13 Rows.probePlaysRow.domain false) (Rows.probePlaysSpec.post enc Try.prog Try.f13 false true false false) := by
  refine returnsInHanded_of_change (C := Try.checked) tOwn started (by kernel_rfl) Try.func13
    (ChangeSpec.witness6 (enc := enc) (C := Try.checked) false ⟨#[], #[.int .u16 0, .agg #[.int .i64 0, .int .i64 0], .slice none 0 0], []⟩ 8 (by kernel_rfl) (by kernel_rfl) (by kernel_rfl) (by kernel_rfl)) ?_
  intro W base args ds gs before hval0 hW hcnd _
  have hval : ∀ (j : Nat) t v, Try.f13.params[j]? = some t → args[j]? = some v → Value.okWide Try.prog W .any base t v := hval0
  have hW' := hW
  obtain ⟨p, q, hA0, hV, rfl, hfz, hnd⟩ := hW
  have hA : DataW.TrodAll enc Try.prog W 0 (fun _ => true) true Try.f13.params.toList args.toList ds p := hA0
  rw [Try.params13] at hA hval
  obtain ⟨v0, vs0, d0, ds0, p0, q0, hargs, rfl, rfl, h0, r0⟩ := trodAll_cons hA
  obtain ⟨v1, vs1, d1, ds1, p1, q1, rfl, rfl, rfl, h1, r1⟩ := trodAll_cons r0
  obtain ⟨v2, vs2, d2, ds2, p2, q2, rfl, rfl, rfl, h2, r2⟩ := trodAll_cons r1
  obtain ⟨rfl, rfl, rfl⟩ := trodAll_nil r2
  obtain rfl : args = #[v0, v1, v2] := by cases args; simp_all
  obtain ⟨s, rfl, rfl, rfl, ws⟩ := open_int Try.underlying22 (hval 0 22 v0 rfl rfl) h0
  obtain ⟨t0, t1, rfl⟩ := open_two (hval 1 89 v1 rfl rfl) h1
  obtain ⟨Al, cl, l, rfl, rl, ml⟩ := open_acts (hval 2 75 v2 rfl rfl) h2
  refine (plays_walk s t0 t1 Al cl l W (bounds_u16 ws).1 (bounds_u16 ws).2 rl ml).mono fun e W' ⟨he, hb⟩ => ?_
  subst he
  exact ⟨_, rfl, law_post tLaid (by decide +kernel) hW' rfl (by kernel_rfl) Try.underlying4 rfl hb⟩

/-- The statement. -/
theorem probePlays_holds : Rows.ProbePlaysSaid :=
  OpenClaim.holds_of_wide 13 Try.f13 rfl rfl rfl rfl rfl rfl rfl ⟨rfl, rfl, rfl, rfl, rfl⟩ rfl rfl rfl rfl rfl (by kernel_rfl) Try.func13 (by kernel_rfl)
    (of_decide_eq_true (by kernel_rfl)) (by unfold Func.isWrapper; rw [if_neg (of_decide_eq_false (by kernel_rfl))]; exact ⟨rfl, rfl⟩)
    (fun os started H enc _ => probePlays_lifted os started H enc)
#print axioms probePlays_holds
end Go.Proofs.Ytnlpgjdgiappcaa
