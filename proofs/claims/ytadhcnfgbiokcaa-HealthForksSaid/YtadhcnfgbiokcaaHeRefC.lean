/- WALKS: the document's health: ends, Ends. -/
import Derived.Test.YtadhcnfgbiokcaaHeRefA
namespace Go.Proofs.Ytadhcnfgbiokcaa
set_option linter.unusedVariables false
set_option linter.unusedSimpArgs false
open Go.RowKit
set_option maxRecDepth 100000 in
set_option maxHeartbeats 2000000 in
theorem rend_any (r : Rs) (A : Option Addr) (nn c : Nat) (x : Em) (w : World) (HO : HOk (ofR r)) (h1 : 1 ≤ x.e.who.length) (h2 : (x.e.who.length : Int) ≤ r.cf + 1) (hf : 0 ≤ x.e.f ∧ x.e.f ≤ 1099511627776) :
    Calls Try.prog 36 #[hval r A nn c, .agg (em4 x).toArray] w fun e w' => e = .returned (.int .i64 (rend r x.e)) ∧ Below w.heap.size w w' := by
  have hsr := span_range HO h1 h2
  have hso : spanOf (ofR r) x.e.who.length = if 0 < r.cf then r.mx - (r.mx - r.mn) * ((x.e.who.length : Int) - 1) / r.cf else r.mn := rfl
  have heo : rend r x.e = x.e.f + spanOf (ofR r) x.e.who.length * (r.sc + 1) := rfl
  obtain ⟨-, m1, m2, m3, ⟨k0, k1⟩, ⟨s0, s1⟩⟩ := HO
  obtain ⟨⟨xn, xi, xf, xw⟩, xA, xc⟩ := x
  obtain ⟨me, mn, mx, cf, sc, rl⟩ := r
  unfold hval em4
  simp only [ofR] at h1 h2 hf hsr hso heo m1 m2 m3 k0 k1 s0 s1 ⊢
  obtain ⟨sp, hsp⟩ : ∃ sp, spanOf ⟨me, mn, mx, cf, sc, fun k => (rfind rl (k : Int)).map suOf⟩ xw.length = sp := ⟨_, rfl⟩
  rw [hsp] at hsr hso heo
  have HE := Lib.hid heo
  clear heo hsp
  obtain ⟨r0, r1⟩ := hsr
  obtain ⟨f0, f1⟩ := hf
  obtain ⟨V, hV⟩ : ∃ V, sp * (sc + 1) = V := ⟨_, rfl⟩
  have V0 : 0 ≤ V := by rw [← hV]; exact Int.mul_nonneg (by omega) (by omega)
  have V1 : V ≤ 1073741824 * 9 := by
    rw [← hV]
    exact Int.le_trans (Int.mul_le_mul_of_nonneg_left (by omega : sc + 1 ≤ 9) (by omega)) (Int.mul_le_mul_of_nonneg_right (by omega) (by omega))
  by_cases hc : 0 < cf
  · rw [if_pos hc] at hso
    obtain ⟨o, ho⟩ : ∃ o, (xw.length : Int) - 1 = o := ⟨_, rfl⟩
    obtain ⟨P, hP⟩ : ∃ P, (mx - mn) * o = P := ⟨_, rfl⟩
    obtain ⟨Q, hQ⟩ : ∃ Q, P / cf = Q := ⟨_, rfl⟩
    have p0 : 0 ≤ P := by rw [← hP]; exact Int.mul_nonneg (by omega) (by omega)
    have p1 : P ≤ 1073741824 * 16 := by
      rw [← hP]
      exact Int.le_trans (Int.mul_le_mul_of_nonneg_left (by omega : o ≤ 16) (by omega)) (Int.mul_le_mul_of_nonneg_right (by omega) (by omega))
    have q2 : P.tdiv cf = Q := by rw [Int.tdiv_eq_ediv_of_nonneg p0]; exact hQ
    rw [ho, hP, hQ] at hso
    subst hso
    have hcz : ¬ cf = 0 := by omega
    have hw1 : IntKind.i64.wrap (xw.length - 1 : Int) = o := by rw [ho]; exact wraps_i64' _ (by omega) (by omega)
    have hw2 : IntKind.i64.wrap (mx - mn) = mx - mn := wraps_i64' _ (by omega) (by omega)
    have hw3 : IntKind.i64.wrap P = P := wraps_i64' _ (by omega) (by omega)
    have hw4 : IntKind.i64.wrap Q = Q := wraps_i64' _ (by omega) (by omega)
    have hw5 : IntKind.i64.wrap (mx - Q) = mx - Q := wraps_i64' _ (by omega) (by omega)
    go_enter Try.func36, Try.ntmps36
    go_wp2
    go_quiet (fail)
    go_wp2
    go_ret
    exact ⟨by rw [HE.out, hV]; rfl, by first | exact below_drewN (((Below.refl _ _).alloc (Nat.le_refl _) _).alloc (by simp) _) _ | exact ((Below.refl _ _).alloc (Nat.le_refl _) _).alloc (by simp) _⟩
  · rw [if_neg hc] at hso
    subst hso
    go_enter Try.func36, Try.ntmps36
    go_wp2
    go_ret
    exact ⟨by rw [HE.out, hV]; rfl, ((Below.refl _ _).alloc (Nat.le_refl _) _).alloc (by simp) _⟩
theorem RsOk.len {r : Rs} (H : RsOk r) : r.l.length ≤ 64 := by
  have h := up_64 H
  have := List.length_filterMap_le (fun k : Nat => rfind r.l (k : Int)) (List.range 64)
  rw [h, List.length_range] at this
  exact this
theorem RsOk.su {r : Rs} (H : RsOk r) {e : Ru} (he : e ∈ r.l) : 1 ≤ e.who.length ∧ (e.who.length : Int) ≤ r.cf + 1 ∧ (0 ≤ e.f ∧ e.f ≤ 1099511627776) ∧ (0 ≤ e.i ∧ e.i ≤ 1073741824) := by
  obtain ⟨n0, n1⟩ := H.n e he
  have hf : ∃ x, rfind r.l e.n = some x := by
    cases h : rfind r.l e.n with
    | none => exact absurd rfl (rfind_none h e he)
    | some x => exact ⟨x, rfl⟩
  obtain ⟨x, hx⟩ := hf
  obtain ⟨hm, hn⟩ := rfind_some hx
  have hxe : x = e := by
    have hp := List.pairwise_iff_getElem.1 H.up
    obtain ⟨a, ha, rfl⟩ := List.getElem_of_mem hm
    obtain ⟨b, hb, rfl⟩ := List.getElem_of_mem he
    rcases Nat.lt_trichotomy a b with hab | rfl | hab
    · have := hp a b ha hb hab; omega
    · rfl
    · have := hp b a hb ha hab; omega
  subst hxe
  have hs : (ofR r).s x.n.toNat = some (suOf x) := by
    show (rfind r.l ((x.n.toNat : Nat) : Int)).map suOf = some (suOf x)
    rw [show ((x.n.toNat : Nat) : Int) = x.n by omega, hx]
    rfl
  have ho := H.ok.su _ _ hs
  have hw := (bitsOf_ok x.who (H.who x hm)).2.1
  have o1 := ho.o1
  have o2 := ho.o2
  have e1 : (suOf x).w = bitsOf x.who := rfl
  rw [e1, hw] at o1 o2
  exact ⟨o1, o2, ho.f, ho.i⟩
set_option maxRecDepth 100000 in
set_option maxHeartbeats 2000000 in
theorem rends_any (r : Rs) (n : Int) (A : Option Addr) (c : Nat) (L : List Em) (w : World) (HO : RsOk r) (hL : L.map (·.e) = r.l) (hR : ReadsE w (fun _ => True) A L) :
    Calls Try.prog 30 #[hval r A L.length c, .int .u16 n] w fun e w' => e = .returned (rends r n) ∧ Below w.heap.size w w' := by
  have hlen : L.length ≤ 64 := by have := HO.len; rw [← hL, List.length_map] at this; exact this
  have hfo := findE_of L n
  rw [hL] at hfo
  have hok := HO.ok.ok
  have hsu : ∀ x, findE L n = some x → 1 ≤ x.e.who.length ∧ (x.e.who.length : Int) ≤ r.cf + 1 ∧ (0 ≤ x.e.f ∧ x.e.f ≤ 1099511627776) := fun x hx => by
    rw [hx] at hfo
    obtain ⟨hm, _⟩ := rfind_some hfo.symm
    obtain ⟨a, b, d, _⟩ := HO.su hm
    exact ⟨a, b, d⟩
  have hfin : rends r n = match findE L n with | none => .tuple #[.int .i64 0, .bool false] | some x => .tuple #[.int .i64 (rend r x.e), .bool true] := by
    unfold rends
    rw [← hfo]
    cases findE L n <;> rfl
  have HS := Lib.hid hsu
  have HF := Lib.hid hfin
  have HOK := Lib.hid hok
  have HR := Lib.hid hR
  clear hsu hfin hok hR HO hfo hL
  obtain ⟨me, mn, mx, cf, sc, rl⟩ := r
  unfold hval
  simp only
  have hlW : w.heap.size < (w.alloc (.cells #[.int .u16 me, .int .i64 mn, .int .i64 mx, .int .i64 cf, .int .i64 sc, .slice A L.length c] 53)).heap.size := by simp
  have K0 : Below w.heap.size w (w.alloc (.cells #[.int .u16 me, .int .i64 mn, .int .i64 mx, .int .i64 cf, .int .i64 sc, .slice A L.length c] 53)) := (Below.refl _ _).alloc (Nat.le_refl _) _
  have HK0 := Lib.hid K0
  clear K0
  go_enter Try.func30, Try.ntmps30
  go_wp2_with fail
  refine (rfind_any ⟨me, mn, mx, cf, sc, rl⟩ n A c L _ (Reads.below HR.out (by omega) ((Below.refl _ w).alloc (Nat.le_refl _) _)) hlen).mono ?_
  rintro e w1 ⟨rfl, hb⟩
  have B1 := (Blk.new w 53 #[.int .u16 me, .int .i64 mn, .int .i64 mx, .int .i64 cf, .int .i64 sc, .slice A L.length c]).below hb hlW
  have q0 := B1.cell 0
  have q1 := B1.cell 1
  have q2 := B1.cell 2
  have q3 := B1.cell 3
  have q4 := B1.cell 4
  have q5 := B1.cell 5
  simp only [List.getElem?_toArray, List.getElem?_cons_zero, List.getElem?_cons_succ] at q0 q1 q2 q3 q4 q5
  have l1 := B1.lt
  have K1 := Lib.hid (below_then HK0.out HK0.out.size hb)
  clear hb B1
  cases hx : findE L n with
  | none =>
    have HX := Lib.hid hx
    clear hx
    simp only [findVal]
    go_wp2
    refine bodyPost_ret (v := rends ⟨me, mn, mx, cf, sc, rl⟩ n) (by rw [HF.out, HX.out]; simp [results, Try.results30, go_sem]) rfl ⟨rfl, ?_⟩
    exact K1.out.alloc K1.out.size _
  | some x =>
    obtain ⟨x1, x2, x3⟩ := HS.out x hx
    have HX := Lib.hid hx
    clear hx
    simp only [findVal, em4]
    go_wp2_with fail
    refine (rend_any ⟨me, mn, mx, cf, sc, rl⟩ A L.length c x _ HOK.out x1 x2 x3).mono ?_
    rintro e w2 ⟨rfl, hb⟩
    have K2 := Lib.hid (below_then (K1.out.alloc K1.out.size (.cells #[.int .u16 x.e.n, .int .i64 x.e.i, .int .i64 x.e.f, .slice x.A x.e.who.length x.c] 82)) (by have := K1.out.size; simp; omega) hb)
    clear hb
    go_wp2
    refine bodyPost_ret (v := rends ⟨me, mn, mx, cf, sc, rl⟩ n) (by rw [HF.out, HX.out]; simp [results, Try.results30, go_sem]) rfl ⟨rfl, ?_⟩
    exact K2.out
end Go.Proofs.Ytadhcnfgbiokcaa
