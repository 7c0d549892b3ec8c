/- The statement ProbeCalm: where everyone who is asked answers ahead of the timeout nobody is ever suspected, and each period somebody is asked. Conditions: none. -/
import Derived.Test.YtnlpgjdgiappcaaPbAwake
import Derived.Test.YtnlpgjdgiappcaaMbOpen
namespace Go.Proofs.Ytnlpgjdgiappcaa
set_option linter.unusedVariables false
set_option linter.unusedSimpArgs false
open Go.ChangeShapes Go.WideShapes Go.ChangeAt Go.RowKit Go.Joins Go.Deep

/-! ### numbers in a row that came in -/
def u32s (l : List Int) : List Value := l.map fun x => .int .u32 x
theorem u32s_length (l : List Int) : (u32s l).length = l.length * 1 := by simp [u32s]
theorem u32s_get (l : List Int) (k : Nat) (x : Int) (h : l[k]? = some x) : (u32s l)[k]? = some (.int .u32 x) := by simp [u32s, h]
section
variable {H : Type} {enc : TypeId × Value → H} {w : World} {base : Nat} {spare : Nat → Bool} {held : Bool}
theorem und56 : Try.prog.underlying 56 = some (.slice 64) := by kernel_rfl
theorem cells64 : Try.prog.cellsOf 64 = 1 := by kernel_rfl
set_option maxRecDepth 100000 in
theorem open_u32s {r : Reach} {b0 : Nat} {v : Value} {d : DataW H} {p : List MemPlace} (hv : Value.okWide Try.prog w r b0 56 v) (h : DataW.Trod enc Try.prog w base spare held 56 v d p) :
    ∃ A c l, v = .slice A l.length c ∧ Reads w (fun b => b < w.heap.size) 1 A l.length (u32s l) ∧ ∀ x ∈ l, 0 ≤ x ∧ x ≤ 4294967295 := by
  obtain ⟨a0, len, cap, rfl⟩ := okWide_slice und56 hv
  obtain ⟨fuel, hf⟩ := h
  rcases open_slice und56 hf with ⟨hcs, hx⟩ | ⟨a, len', cap', m, n, D, Pp, hcs, hb, hl, hc, hm, hx, hi⟩
  · have hcs' : Value.slice a0 len cap = .slice none 0 0 := by simpa [Value.cells] using hcs
    rw [hcs']
    exact ⟨none, 0, [], rfl, Reads.nil _ _ _ _, by simp⟩
  · have hcs' : Value.slice a0 len cap = .slice (some a) len' cap' := by simpa [Value.cells] using hcs
    injection hcs' with e1 e2 e3
    subst e1 e2 e3
    have hlm : len ≤ m := by rw [hm]; split <;> omega
    have hel : ∀ i, i < len → ∃ x : Int, (0 ≤ x ∧ x ≤ 4294967295) ∧ w.cell? (a.add i) = some (.int .u32 x) := by
      intro i hlt
      obtain ⟨cs, hcells, ht⟩ := hi i (by omega)
      rw [cells64] at hcells
      obtain ⟨_, hlen, hat⟩ := World.cells?_some hcells
      obtain ⟨c0, rfl⟩ : ∃ c0, cs = [c0] := by
        match cs, hlen with
        | [c0], _ => exact ⟨c0, rfl⟩
      obtain ⟨x, e0, _, w0⟩ := DataW.trod_int Try.underlying64 ht
      simp only [List.cons.injEq, and_true] at e0
      subst e0
      refine ⟨x, bounds_u32 w0, ?_⟩
      have := hat 0 (by omega)
      simpa [Addr.add, Nat.mul_one] using this
    obtain ⟨l, hll, hlx⟩ := list_of (fun i x => (0 ≤ x ∧ x ≤ 4294967295) ∧ w.cell? (a.add i) = some (.int .u32 x)) len hel
    subst hll
    refine ⟨some a, cap, l, rfl, ⟨u32s_length l, fun hn => ?_⟩, fun m hm => ?_⟩
    · have h0 := hlx 0 _ (List.getElem?_eq_getElem hn)
      have ha : a = ⟨a.block, a.off, none⟩ := by
        have := addr_some h0.2
        simpa [Addr.add] using this
      refine ⟨a.block, a.off, by rw [← ha], World.block_lt_of_cell? w a (by have := h0.2; simpa [Addr.add] using this), fun j u hu => ?_⟩
      have hj : j < l.length := by
        have := (List.getElem?_eq_some_iff.1 hu).1
        rw [u32s_length] at this
        omega
      have hx := hlx j _ (List.getElem?_eq_getElem hj)
      have hg := u32s_get l j _ (List.getElem?_eq_getElem hj)
      rw [hg] at hu
      rw [← hu, ← hx.2, ha, Addr.add_mid]
    · obtain ⟨k, hk⟩ := List.mem_iff_getElem?.1 hm
      exact (hlx k m hk).1
end

/-! ### the table of the first n others -/
def G : Nat → Pl.Tab
  | 0 => Pl.newT 0
  | n + 1 => Pl.heard 0 (G n) ⟨(n : Int) + 1, 0, 0⟩
theorem G_at (n : Nat) (hn : n ≤ 40) : ∀ k : Nat, G n k = if k ≤ n then some ⟨(k : Int), 0, 0⟩ else none := by
  induction n with
  | zero =>
    intro k
    unfold G Pl.newT
    by_cases h : k = 0
    · subst h; rfl
    · rw [if_neg (by simp; omega), if_neg (by omega)]
  | succ n ih =>
    intro k
    have ih := ih (by omega)
    have hh : Pl.hear 0 (G n) ⟨(n : Int) + 1, 0, 0⟩ = some ⟨(n : Int) + 1, 0, 0⟩ := by
      have hm : Pl.mayM ⟨(n : Int) + 1, 0, 0⟩ = true := by rw [Pl.mayM_iff]; simp only; omega
      have ho : G n ((n : Int) + 1).toNat = none := by rw [ih, if_neg (by omega)]
      unfold Pl.hear
      rw [if_pos hm]
      simp only [ho]
      unfold Pl.bump
      rw [if_neg (by simp)]
    unfold G Pl.heard
    rw [hh]
    simp only [Pl.put]
    by_cases h : k = n + 1
    · subst h
      rw [if_pos (by omega), if_pos (by omega)]
      simp
    · rw [if_neg (by omega), ih k]
      by_cases h2 : k ≤ n
      · rw [if_pos h2, if_pos (by omega)]
      · rw [if_neg h2, if_neg (by omega)]
theorem G_ok (n : Nat) (hn : n ≤ 40) : Pl.TOk 0 (G n) := by
  induction n with
  | zero => exact Pl.newT_ok (by omega) (by omega)
  | succ n ih => exact Pl.heard_ok (ih (by omega)) (mok_lit _ _ _ (by omega))
theorem G_others (n : Nat) (h0 : 1 ≤ n) (hn : n ≤ 40) (p : Pl.Pb) (hp : p.me = 0) : Pl.othersP p (G n) 0 ≠ [] := by
  have h1 : (1 : Int) ∈ Pl.othersP p (G n) 0 := by
    unfold Pl.othersP
    refine List.mem_filter.2 ⟨?_, by simp [hp]⟩
    unfold Pl.thereT Pl.listT
    refine List.mem_map.2 ⟨⟨1, 0, 0⟩, List.mem_filter.2 ⟨List.mem_filterMap.2 ⟨1, List.mem_range.2 (by omega), ?_⟩, by decide⟩, rfl⟩
    rw [G_at n hn 1, if_pos h0]
    rfl
  intro e
  rw [e] at h1
  cases h1
theorem pb_asks {p : Pl.Pb} {i : Nat} (C : Pl.Calm p i) (O : Pl.PbOk p) (hi : i < 60) (n : Int) (hn : 0 ≤ n ∧ n < 64) : Pl.PbOk (Pl.asks p n i) ∧ Pl.PbOk { Pl.asks p n i with op := false } := by
  have h : Pl.PbOk (Pl.asks p n i) := ⟨O.me0, O.me1, O.per0, O.per1, O.tmo0, O.tmo1, by simp only [Pl.asks]; omega, by simp only [Pl.asks]; omega, hn.1, hn.2, by simp only [Pl.asks]; omega, by simp only [Pl.asks]; omega, O.w0⟩
  exact ⟨h, ⟨h.me0, h.me1, h.per0, h.per1, h.tmo0, h.tmo1, h.nxt0, h.nxt1, h.nd0, h.nd1, h.at0, h.at1, h.w0⟩⟩
theorem calm_new : Pl.Calm (Pl.pnew 0 10 3) 0 := ⟨rfl, rfl, rfl, rfl, rfl, by simp [Pl.pnew], fun _ => rfl⟩

set_option maxRecDepth 100000 in
set_option maxHeartbeats 4000000 in
theorem calm_walk (others : Int) (Al : Option Addr) (cl : Nat) (l : List Int) (w : World) (ho : 0 ≤ others ∧ others ≤ 255) (rl : Reads w (fun b => b < w.heap.size) 1 Al l.length (u32s l)) (ml : ∀ x ∈ l, 0 ≤ x ∧ x ≤ 4294967295) :
    Calls Try.prog 9 #[.int .u8 others, .slice Al l.length cl] w fun e w' => e = .returned (.bool true) ∧ Below w.heap.size w w' := by
  obtain ⟨o0, o1⟩ := ho
  obtain ⟨R, hR⟩ : ∃ R, others.tmod 20 = R := ⟨_, rfl⟩
  have hR2 : R = others % 20 := by rw [← hR, Int.tmod_eq_emod_of_nonneg o0]
  obtain ⟨r, hr⟩ : ∃ r : Nat, R = (r : Int) := ⟨R.toNat, by omega⟩
  have hr20 : r < 20 := by omega
  subst hr
  have RL := Lib.hid rl
  have ML := Lib.hid ml
  clear hR2 rl ml
  go_enter Try.func9, Try.ntmps9
  go_wp2_with fail
  refine (new_any 0 _ (by omega) (by omega)).mono ?_
  rintro e w1 ⟨gt, rfl, hb, hgt, hT⟩
  have T1 : Hid (IsT w1 gt 0 (G 0)) := Lib.hid hT
  have K1 := Lib.hid hb
  have hGt : Hid (w.heap.size ≤ gt) := Lib.hid hgt
  clear hb hT hgt
  go_wp2
  go_loopw [6] (fun i wr => ∃ k : Nat, k ≤ r + 1 ∧ i = .int .i64 ((k : Int) + 1) ∧ IsT wr gt 0 (G k) ∧ Below w.heap.size w wr) (fun i _ => r + 3 - (intOf i).toNat)
  case atStart => exact ⟨0, by omega, rfl, T1.out, K1.out⟩
  case round =>
    obtain ⟨k, hk, rfl, hT, hK⟩ := hrel
    have T2 := Lib.hid hT
    have K2 := Lib.hid hK
    have hs2 := hK.size
    clear hT hK T1 K1
    by_cases hlt : k < r + 1
    · have hwr : IntKind.u16.wrap ((k : Int) + 1) = (k : Int) + 1 := by rw [IntKind.wrap_u16]; omega
      go_wp2_with fail
      refine (hear_any gt 0 _ ⟨(k : Int) + 1, 0, 0⟩ _ T2.out (mok_lit _ _ _ (by omega))).mono ?_
      rintro e w3 ⟨rfl, hg3, hT3⟩
      have T3 : Hid (IsT w3 gt 0 (G (k + 1))) := Lib.hid hT3
      have K3 := Lib.hid (K2.out.trans (below_of_grown K2.out.size hg3 (fun k e => by injection e with e; have := hGt.out; omega)))
      clear hg3 hT3
      go_wp2
      go_roundw
      case rel => exact ⟨k + 1, by omega, by go_num, T3.out, K3.out⟩
      case measure => simp [intOf]; omega
    · obtain rfl : k = r + 1 := by omega
      clear hk hlt
      go_wp2_with fail
      refine (pnew_yes 0 10 3 _ (by omega) (by omega) (by decide) (by decide)).mono ?_
      rintro e w3 ⟨g, rfl, hb, hg, hP⟩
      have P3 := Lib.hid hP
      have T3 := Lib.hid (T2.out.below hb T2.out.lt)
      have K3 := Lib.hid (below_then K2.out K2.out.size hb)
      have hG : Hid (w.heap.size ≤ g) := Lib.hid (by omega)
      clear hb hP hg T2 K2
      go_wp2
      go_loopw [9] (fun i W => ∃ (j : Nat) (p : Pl.Pb), j ≤ l.length ∧ j ≤ 60 ∧ i = .int .i64 (j : Int) ∧ Pl.Calm p j ∧ Pl.PbOk p ∧ IsPb W g p ∧ IsT W gt 0 (G (r + 1)) ∧ Below w.heap.size w W) (fun i _ => 60 - (intOf i).toNat)
      case atStart => exact ⟨0, Pl.pnew 0 10 3, by omega, by omega, rfl, calm_new, pa_ok, P3.out, T3.out, K3.out⟩
      case round =>
        obtain ⟨j, p, hj, hj6, rfl, hC, hO, hP, hT, hK⟩ := hrel
        have CC := Lib.hid hC
        have OO := Lib.hid hO
        have P4 := Lib.hid hP
        have T4 := Lib.hid hT
        have K4 := Lib.hid hK
        have hs4 := hK.size
        clear hC hO hP hT hK P3 T3 K3
        by_cases hjl : j < l.length
        · by_cases hj60 : j < 60
          · obtain ⟨d, hd⟩ : ∃ d, l[j]? = some d := ⟨l[j], List.getElem?_eq_getElem hjl⟩
            have hdb := ML.out d (List.mem_of_getElem? hd)
            obtain ⟨db0, db1⟩ := hdb
            obtain ⟨n, hn, hnm⟩ := Pl.drawn_some (G_others (r + 1) (by omega) (by omega) p CC.out.me) db0
            have hmem := Pl.others_mem (z := 0) (G_ok (r + 1) (by omega)) hnm
            obtain ⟨n0, n1, n2, n3, _⟩ := hmem
            have et := Pl.tick_calm CC.out hj60 (G (r + 1)) d n hn
            have er := Pl.tick_rest CC.out hj60 (G (r + 1)) d n
            have ea := Pl.ack_calm (p := p) (n := n) (i := j)
            have hok := pb_asks CC.out OO.out hj60 n ⟨n0, n1⟩
            have hnx := Pl.calm_next CC.out n
            have hsq := CC.out.seq
            have hme := CC.out.me
            obtain ⟨b, o, rfl, hbb, hcell⟩ := RL.out.2 (by omega)
            have hcj := hcell j _ (u32s_get l j d hd)
            have hcw := (K4.out.cell (p := ⟨b, o + j, none⟩) hbb).trans hcj
            have HCJ := Lib.hid hcj
            have HBB : Hid (b < w.heap.size) := Lib.hid hbb
            have ET := Lib.hid et
            have ER := Lib.hid er
            have EA := Lib.hid ea
            have HOK := Lib.hid hok
            have HNX := Lib.hid hnx
            have HSQ := Lib.hid hsq
            have HME := Lib.hid hme
            have hjI0 : (0 : Int) ≤ (j : Int) := by omega
            have hjI1 : (j : Int) < (l.length : Int) := by omega
            have hjI2 : (j : Int) < 60 := by omega
            have hen0 : (n == 0) = false := beq_eq_false_iff_ne.2 n3
            clear et er ea hok hnx hsq hme hn hnm hcell hcj hd
            go_wp2_with fail
            have tt : IsT wr gt p.me (G (r + 1)) := by rw [HME.out]; exact T4.out
            refine (ptick_any g gt p (G (r + 1)) (10 * (j : Int)) d _ P4.out tt OO.out (by rw [HME.out]; exact G_ok (r + 1) (by omega)) db0 db1 (by rw [HSQ.out]; omega) (by rw [HSQ.out]; omega)).mono ?_
            rw [ET.out, HME.out]
            rintro e w5 ⟨⟨vo, vn, rfl, ho, hn⟩, hg, hP, hT⟩
            have P5 : Hid (IsPb w5 g (Pl.asks p n j)) := Lib.hid hP
            have T5 : Hid (IsT w5 gt 0 (G (r + 1))) := Lib.hid hT
            have K5 := Lib.hid (below_g2 K4.out hG.out hGt.out hg)
            have hs5 := K5.out.size
            obtain ⟨b5, c5, rfl, hb5, hl5, hc⟩ := outs_row ho (by simp)
            obtain ⟨q0, q1, q2, q3, q4, _, _⟩ := hc 0 _ rfl
            simp only [Nat.zero_mul, Nat.zero_add] at q0 q1 q2 q3 q4
            obtain ⟨An, cn, rfl⟩ := own_slice hn
            have e1 : ([⟨n, 0, 0, n, (j : Int) + 1⟩] : List Pl.Ou).length = 1 := rfl
            have e2 : ([] : List Pl.M).length = 0 := rfl
            rw [e1, e2]
            clear e1 e2 ho hn hg hP hT hc tt hcw
            go_wp2_with fail
            refine (ack_any g (Pl.asks p n j) n ((j : Int) + 1) _ P5.out).mono ?_
            rw [EA.out]
            rintro e w6 ⟨rfl, hg6, hP6⟩
            have P6 : Hid (IsPb w6 g { Pl.asks p n j with op := false }) := Lib.hid hP6
            have T6 := Lib.hid (T5.out.grown hg6 (fun e => by injection e with e; exact (P5.out.ne_ T5.out (by decide)) e.symm))
            have K6 := Lib.hid (K5.out.trans (below_of_grown K5.out.size hg6 (fun k e => by injection e with e; have := hG.out; omega)))
            have hs6 := K6.out.size
            have hcw := (K6.out.cell (p := ⟨b, o + j, none⟩) HBB.out).trans HCJ.out
            clear hg6 hP6 q0 q1 q2 q3 q4
            go_wp2_with fail
            have tt : IsT w6 gt ({ Pl.asks p n j with op := false } : Pl.Pb).me (G (r + 1)) := by
              rw [show ({ Pl.asks p n j with op := false } : Pl.Pb).me = p.me from rfl, HME.out]; exact T6.out
            refine (ptick_any g gt { Pl.asks p n j with op := false } (G (r + 1)) (10 * (j : Int) + 3) d _ P6.out tt HOK.out.2 (by rw [show ({ Pl.asks p n j with op := false } : Pl.Pb).me = p.me from rfl, HME.out]; exact G_ok (r + 1) (by omega)) db0 db1 (by simp only [Pl.asks]; omega) (by simp only [Pl.asks]; omega)).mono ?_
            rw [ER.out]
            rintro e w7 ⟨⟨vo, vn, rfl, ho, hn⟩, hg, hP, hT⟩
            have P7 : Hid (IsPb w7 g { Pl.asks p n j with op := false }) := Lib.hid hP
            have T7 : Hid (IsT w7 gt 0 (G (r + 1))) := Lib.hid (by have h2 : IsT w7 gt p.me (G (r + 1)) := hT; rw [HME.out] at h2; exact h2)
            have K7 := Lib.hid (below_g2 K6.out hG.out hGt.out hg)
            obtain ⟨Ao, co, rfl⟩ := own_slice ho
            obtain ⟨An2, cn2, rfl⟩ := own_slice hn
            have e1 : ([] : List Pl.Ou).length = 0 := rfl
            have e2 : ([] : List Pl.M).length = 0 := rfl
            rw [e1, e2]
            clear e1 e2 ho hn hg hP hT tt hcw
            go_wp2
            go_roundw
            case rel => exact ⟨j + 1, _, by omega, by omega, by go_num, HNX.out, HOK.out.2, P7.out, T7.out, K7.out⟩
            case measure => simp [intOf]; omega
          · have hj60' : decide ((j : Int) < 60) = false := by simp; omega
            go_wp2_with fail
            refine (pawake_any _).mono ?_
            rintro e w5 ⟨rfl, hb⟩
            have K5 := Lib.hid (below_then K4.out K4.out.size hb)
            clear hb
            go_wp2
            go_ret
            exact ⟨rfl, K5.out⟩
        · go_wp2_with fail
          refine (pawake_any _).mono ?_
          rintro e w5 ⟨rfl, hb⟩
          have K5 := Lib.hid (below_then K4.out K4.out.size hb)
          clear hb
          go_wp2
          go_ret
          exact ⟨rfl, K5.out⟩
set_option maxRecDepth 100000 in
theorem probeCalm_lifted (os : Os) (started : os.Started) (H : Type) (enc : TypeId × Value → H) :
    ReturnsInHanded {} Try.checked os 9 .any (Rows.probeCalmSpec.pre6 enc Try.prog Try.f9 Rows.probeCalmRow.domain false) (Rows.probeCalmSpec.post enc Try.prog Try.f9 false true false false) := by
  refine returnsInHanded_of_change (C := Try.checked) tOwn started (by kernel_rfl) Try.func9
    (ChangeSpec.witness6 (enc := enc) (C := Try.checked) false ⟨#[], #[.int .u8 0, .slice none 0 0], []⟩ 8 (by kernel_rfl) (by kernel_rfl) (by kernel_rfl) (by kernel_rfl)) ?_
  intro W base args ds gs before hval0 hW hcnd _
  have hval : ∀ (j : Nat) t v, Try.f9.params[j]? = some t → args[j]? = some v → Value.okWide Try.prog W .any base t v := hval0
  have hW' := hW
  obtain ⟨p, q, hA0, hV, rfl, hfz, hnd⟩ := hW
  have hA : DataW.TrodAll enc Try.prog W 0 (fun _ => true) true Try.f9.params.toList args.toList ds p := hA0
  rw [Try.params9] at hA hval
  obtain ⟨v0, vs0, d0, ds0, p0, q0, hargs, rfl, rfl, h0, r0⟩ := trodAll_cons hA
  obtain ⟨v1, vs1, d1, ds1, p1, q1, rfl, rfl, rfl, h1, r1⟩ := trodAll_cons r0
  obtain ⟨rfl, rfl, rfl⟩ := trodAll_nil r1
  obtain rfl : args = #[v0, v1] := by cases args; simp_all
  obtain ⟨s, rfl, rfl, rfl, ws⟩ := open_int Try.underlying5 (hval 0 5 v0 rfl rfl) h0
  obtain ⟨Al, cl, l, rfl, rl, ml⟩ := open_u32s (hval 1 56 v1 rfl rfl) h1
  refine (calm_walk s Al cl l W (bounds_u8 ws) rl ml).mono fun e W' ⟨he, hb⟩ => ?_
  subst he
  exact ⟨_, rfl, law_post tLaid (by decide +kernel) hW' rfl (by kernel_rfl) Try.underlying4 rfl hb⟩

/-- The statement. -/
theorem probeCalm_holds : Rows.ProbeCalmSaid :=
  OpenClaim.holds_of_wide 9 Try.f9 rfl rfl rfl rfl rfl rfl rfl ⟨rfl, rfl, rfl, rfl, rfl⟩ rfl rfl rfl rfl rfl (by kernel_rfl) Try.func9 (by kernel_rfl)
    (of_decide_eq_true (by kernel_rfl)) (by unfold Func.isWrapper; rw [if_neg (of_decide_eq_false (by kernel_rfl))]; exact ⟨rfl, rfl⟩)
    (fun os started H enc _ => probeCalm_lifted os started H enc)
#print axioms probeCalm_holds
end Go.Proofs.Ytnlpgjdgiappcaa

