/- The statement ProbeDies: one other that never answers is suspected a period after it was asked, and dead three periods later, unless it says that it is alive with a higher incarnation. Conditions: none. -/
import Derived.Test.YtnlpgjdgiappcaaPbAwake
import Derived.Test.YtnlpgjdgiappcaaPbPure3
import Derived.Test.YtnlpgjdgiappcaaMbOpen
namespace Go.Proofs.Ytnlpgjdgiappcaa
set_option linter.unusedVariables false
set_option linter.unusedSimpArgs false
open Go.ChangeShapes Go.WideShapes Go.ChangeAt Go.RowKit
def St (p : Pl.Pb) (f : Pl.Tab) (k : Int) : Prop := Pl.PbOk p ∧ Pl.TOk 0 f ∧ p.me = 0 ∧ 0 ≤ p.seq ∧ p.seq ≤ 4611686018427387904 ∧ p.seq ≤ k
def Ok5 (p : Pl.Pb) (f : Pl.Tab) : Prop := Pl.PbOk p ∧ Pl.TOk 0 f ∧ p.me = 0 ∧ 0 ≤ p.seq ∧ p.seq ≤ 4611686018427387904
theorem st_tick {p : Pl.Pb} {f : Pl.Tab} {k : Int} (h : St p f k) (hk : k ≤ 1000) {now draw : Int} {q : Pl.Pb} {F : Pl.Tab} {os : List Pl.Ou} {ns : List Pl.M} (e : Pl.tick now draw p f = (q, F, os, ns)) : St q F (k + 1) := by
  obtain ⟨a, b, c, d, _, e'⟩ := h
  rw [← c] at b
  have h := Pl.tick_inv (now := now) (draw := draw) a b
  rw [e] at h
  obtain ⟨x1, x2, x3, x4, x5, x6, _⟩ := h
  simp only at x1 x2 x3 x4 x5 x6
  rw [c] at x2 x3
  exact ⟨x1, x2, x3, by omega, by omega, by omega⟩
theorem st_ok {p : Pl.Pb} {f : Pl.Tab} {k : Int} (h : St p f k) : Ok5 p f := ⟨h.1, h.2.1, h.2.2.1, h.2.2.2.1, h.2.2.2.2.1⟩
def F0 : Pl.Tab := Pl.heard 0 (Pl.newT 0) ⟨1, 0, 0⟩
structure Dies (N : Int) (pq : Pl.Pb) (fq : Pl.Tab) (oq : List Pl.Ou) (nq : List Pl.M) (pa : Pl.Pb) (fa : Pl.Tab) (oa : List Pl.Ou) (na : List Pl.M) (pb : Pl.Pb) (fb : Pl.Tab) (ob : List Pl.Ou) (nb : List Pl.M)
    (pk : Pl.Pb) (fk : Pl.Tab) (pc : Pl.Pb) (fc : Pl.Tab) (oc : List Pl.Ou) (nc : List Pl.M) (pe : Pl.Pb) (fe : Pl.Tab) (oe : List Pl.Ou) (ne : List Pl.M) (pf : Pl.Pb) (ff : Pl.Tab) (of_ : List Pl.Ou) (nf : List Pl.M) : Prop where
  eq : Pl.tick 0 0 (Pl.pnew 0 N 1) F0 = (pq, fq, oq, nq)
  ea : Pl.tick (N - 1) 0 pq fq = (pa, fa, oa, na)
  eb : Pl.tick N 0 pa fa = (pb, fb, ob, nb)
  ek : Pl.ack pb 1 2 = (true, pk)
  efk : fk = Pl.heard 0 fb ⟨1, 0, 1⟩
  ec : Pl.tick (4 * N) 0 pk fk = (pc, fc, oc, nc)
  ee : Pl.tick (4 * N - 1) 0 pb fb = (pe, fe, oe, ne)
  ef : Pl.tick (4 * N) 0 pe fe = (pf, ff, of_, nf)
  ok0 : Ok5 (Pl.pnew 0 N 1) F0
  okq : Ok5 pq fq
  oka : Ok5 pa fa
  okb : Ok5 pb fb
  okk : Ok5 pk fk
  oke : Ok5 pe fe
  na : na = []
  nb : nb = [⟨1, 1, 0⟩]
  asked : Pl.asked pb = some (1, 2)
  nc : nc = []
  cs : ∃ m, fc 1 = some m ∧ m.s = 0
  es : ∃ m, fe 1 = some m ∧ m.s = 1
  fs : ∃ m, ff 1 = some m ∧ m.s = 2
theorem dm {N : Int} (h0 : 2 ≤ N) (h1 : N ≤ 1001) : Pl.may N 1 = true := by simp [Pl.may]; omega
theorem da_eq (N : Int) : Pl.da N = Pl.tick (N - 1) 0 (Pl.dq N).1 (Pl.dq N).2 := by unfold Pl.da; rfl
theorem db_eq (N : Int) : Pl.db N = Pl.tick N 0 (Pl.da N).1 (Pl.da N).2.1 := by unfold Pl.db; rfl
theorem dk_eq (N : Int) : Pl.dack N = Pl.ack (Pl.db N).1 1 2 := by unfold Pl.dack; rfl
theorem ds_eq (N : Int) : Pl.dsp N = Pl.heard 0 (Pl.db N).2.1 ⟨1, 0, 1⟩ := by unfold Pl.dsp; rfl
theorem dc_eq (N : Int) : Pl.dc N = Pl.tick (4 * N) 0 (Pl.dack N).2 (Pl.dsp N) := by unfold Pl.dc; rfl
theorem de_eq (N : Int) : Pl.de N = Pl.tick (4 * N - 1) 0 (Pl.db N).1 (Pl.db N).2.1 := by unfold Pl.de; rfl
theorem df_eq (N : Int) : Pl.df N = Pl.tick (4 * N) 0 (Pl.de N).1 (Pl.de N).2.1 := by unfold Pl.df; rfl
theorem dies_all {N : Int} (h0 : 2 ≤ N) (h1 : N ≤ 1001) : ∃ pq fq oq nq pa fa oa na pb fb ob nb pk fk pc fc oc nc pe fe oe ne pf ff of_ nf, Dies N pq fq oq nq pa fa oa na pb fb ob nb pk fk pc fc oc nc pe fe oe ne pf ff of_ nf := by
  have h := Pl.dies h0 h1
  have S0 : St (Pl.pnew 0 N 1) F0 0 := ⟨Pl.pnew_ok (by omega) (by omega) (dm h0 h1) (by decide), pa_tok, rfl, by simp [Pl.pnew], by simp [Pl.pnew], by simp [Pl.pnew]⟩
  obtain ⟨⟨pq, fq, oq, nq⟩, eq⟩ : ∃ X, Pl.tick 0 0 (Pl.pnew 0 N 1) F0 = X := ⟨_, rfl⟩
  have hq : Pl.dq N = (pq, fq) := by
    have : Pl.dq N = ((Pl.tick 0 0 (Pl.pnew 0 N 1) F0).1, (Pl.tick 0 0 (Pl.pnew 0 N 1) F0).2.1) := by unfold Pl.dq F0; rfl
    rw [this, eq]
  have Sq := st_tick S0 (by omega) eq
  have ha := da_eq N
  rw [hq] at ha
  simp only at ha
  obtain ⟨⟨pa, fa, oa, na⟩, ea⟩ : ∃ X, Pl.tick (N - 1) 0 pq fq = X := ⟨_, rfl⟩
  rw [ea] at ha
  have Sa := st_tick Sq (by omega) ea
  have hb := db_eq N
  rw [ha] at hb
  simp only at hb
  obtain ⟨⟨pb, fb, ob, nb⟩, eb⟩ : ∃ X, Pl.tick N 0 pa fa = X := ⟨_, rfl⟩
  rw [eb] at hb
  have Sb := st_tick Sa (by omega) eb
  have hack := Pl.ack_inv Sb.1 1 2
  have hk := dk_eq N
  rw [hb] at hk
  simp only at hk
  obtain ⟨⟨bk, pk⟩, ek⟩ : ∃ X, Pl.ack pb 1 2 = X := ⟨_, rfl⟩
  rw [ek] at hk hack
  simp only at hack
  have hs := ds_eq N
  rw [hb] at hs
  simp only at hs
  have Sk : St pk (Pl.heard 0 fb ⟨1, 0, 1⟩) 3 := by
    obtain ⟨a, b, c, d, e, f⟩ := Sb
    exact ⟨hack.1, Pl.heard_ok b (mok_lit _ _ _ (by omega)), hack.2.1.trans c, by omega, by omega, by omega⟩
  obtain ⟨fk, efk⟩ : ∃ X, Pl.heard 0 fb ⟨1, 0, 1⟩ = X := ⟨_, rfl⟩
  rw [efk] at hs Sk
  have hc := dc_eq N
  rw [hk, hs] at hc
  simp only at hc
  obtain ⟨⟨pc, fc, oc, nc⟩, ec⟩ : ∃ X, Pl.tick (4 * N) 0 pk fk = X := ⟨_, rfl⟩
  rw [ec] at hc
  have he := de_eq N
  rw [hb] at he
  simp only at he
  obtain ⟨⟨pe, fe, oe, ne⟩, ee⟩ : ∃ X, Pl.tick (4 * N - 1) 0 pb fb = X := ⟨_, rfl⟩
  rw [ee] at he
  have Se := st_tick Sb (by omega) ee
  have hf := df_eq N
  rw [he] at hf
  simp only at hf
  obtain ⟨⟨pf, ff, of_, nf⟩, ef⟩ : ∃ X, Pl.tick (4 * N) 0 pe fe = X := ⟨_, rfl⟩
  rw [ef] at hf
  simp only [Pl.diesOk, Bool.and_eq_true, decide_eq_true_iff, Option.map_eq_some_iff, ha, hb, hc, he, hf, hk] at h
  obtain ⟨⟨⟨⟨⟨⟨⟨a, b⟩, q⟩, k⟩, c⟩, cs⟩, es⟩, fs⟩ := h
  subst k
  exact ⟨pq, fq, oq, nq, pa, fa, oa, na, pb, fb, ob, nb, pk, fk, pc, fc, oc, nc, pe, fe, oe, ne, pf, ff, of_, nf, eq, ea, eb, ek, efk.symm, ec, ee, ef, st_ok S0, st_ok Sq, st_ok Sa, st_ok Sb, st_ok Sk, st_ok Se, a, b, q, c, cs, es, fs⟩
theorem asked_val {p : Pl.Pb} {a b : Int} (h : Pl.asked p = some (a, b)) : askedVal p = .tuple #[.int .u16 a, .int .i64 b, .bool true] := by
  unfold Pl.asked at h
  unfold askedVal
  split at h
  · rename_i hop
    rw [if_pos hop]
    injection h with h
    injection h with h1 h2
    rw [h1, h2]
  · cases h
set_option maxRecDepth 100000 in
set_option maxHeartbeats 4000000 in
theorem dies_walk (period : Int) (speaks : Bool) (w : World) (hp : 0 ≤ period ∧ period ≤ 65535) :
    Calls Try.prog 10 #[.int .u16 period, .bool speaks] w fun e w' => e = .returned (.bool true) ∧ Below w.heap.size w w' := by
  obtain ⟨R, hR⟩ : ∃ R, period.tmod 1000 = R := ⟨_, rfl⟩
  have hR2 : R = period % 1000 := by rw [← hR, Int.tmod_eq_emod_of_nonneg hp.1]
  obtain ⟨N, hN⟩ : ∃ N, 2 + R = N := ⟨_, rfl⟩
  have hN0 : 2 ≤ N := by omega
  have hN1 : N ≤ 1001 := by omega
  obtain ⟨pq, fq, oq, nq, pa, fa, oa, na, pb, fb, ob, nb, pk, fk, pc, fc, oc, nc, pe, fe, oe, ne, pf, ff, of_, nf, D0⟩ := dies_all hN0 hN1
  obtain rfl := D0.na
  obtain rfl := D0.nb
  obtain rfl := D0.nc
  have D := Lib.hid D0
  have hmay := Lib.hid (dm hN0 hN1)
  obtain ⟨p0, p1⟩ := hp
  clear hR2 D0
  have KS : Hid (∀ {W}, Below w.heap.size w W → Below w.heap.size w W) := Lib.hid (fun h => h)
  go_enter Try.func10, Try.ntmps10
  go_wp2_with fail
  refine (new_any 0 _ (by omega) (by omega)).mono ?_
  rintro e w1 ⟨gt, rfl, hb, hgt, hT⟩
  have T1 : Hid (IsT w1 gt 0 (Pl.newT 0)) := Lib.hid hT
  have K1 := Lib.hid (KS.out hb)
  have hGt : Hid (w.heap.size ≤ gt) := Lib.hid hgt
  have l1 := K1.out.size
  have hgtl := hT.lt
  clear hb hT hgt
  go_wp2_with fail
  refine (hear_any gt 0 _ ⟨1, 0, 0⟩ _ T1.out (mok_lit _ _ _ (by omega))).mono ?_
  rintro e w2 ⟨rfl, hg2, hT⟩
  have T2 : Hid (IsT w2 gt 0 F0) := Lib.hid hT
  have K2 := Lib.hid (K1.out.trans (below_of_grown K1.out.size hg2 (fun k e => by injection e with e; have := hGt.out; omega)))
  have l2 := K2.out.size
  have hgtl2 := hT.lt
  clear hg2 hT
  go_wp2_with fail
  refine (pnew_yes 0 N 1 _ (by omega) (by omega) hmay.out (by decide)).mono ?_
  rintro e w3 ⟨g, rfl, hb, hg, hP⟩
  have P3 := Lib.hid hP
  have T3 := Lib.hid (T2.out.below hb T2.out.lt)
  have K3 := Lib.hid (below_then K2.out K2.out.size hb)
  have hG : Hid (w.heap.size ≤ g) := Lib.hid (by omega)
  have l3 := K3.out.size
  have hgl := hP.lt
  clear hb hP hg T1 T2
  go_wp2_with fail
  have tt3 : IsT w3 gt ((Pl.pnew 0 N 1)).me F0 := by rw [D.out.ok0.2.2.1]; exact T3.out
  refine (ptick_any g gt (Pl.pnew 0 N 1) F0 0 0 _ P3.out tt3 D.out.ok0.1 (by rw [D.out.ok0.2.2.1]; exact D.out.ok0.2.1) (by omega) (by omega) D.out.ok0.2.2.2.1 D.out.ok0.2.2.2.2).mono ?_
  rw [D.out.eq, D.out.ok0.2.2.1]
  rintro e w4 ⟨⟨vo4, vn4, rfl, ho, hn4⟩, hg, hP, hT⟩
  have P4 : Hid (IsPb w4 g pq) := Lib.hid hP
  have T4 : Hid (IsT w4 gt 0 fq) := Lib.hid hT
  have K4 := Lib.hid (below_g2 K3.out hG.out hGt.out hg)
  have l4 := K4.out.size
  have hgl4 := hP.lt
  have hgtl4 := hT.lt
  obtain ⟨Ao4, co4, rfl⟩ := own_slice ho
  clear hg hP hT ho tt3
  obtain ⟨An4, cn4, rfl⟩ := own_slice hn4
  clear hn4
  go_wp2_with fail
  have tt4 : IsT w4 gt (pq).me fq := by rw [D.out.okq.2.2.1]; exact T4.out
  refine (ptick_any g gt pq fq (N - 1) 0 _ P4.out tt4 D.out.okq.1 (by rw [D.out.okq.2.2.1]; exact D.out.okq.2.1) (by omega) (by omega) D.out.okq.2.2.2.1 D.out.okq.2.2.2.2).mono ?_
  rw [D.out.ea, D.out.okq.2.2.1]
  rintro e w5 ⟨⟨vo5, vn5, rfl, ho, hn5⟩, hg, hP, hT⟩
  have P5 : Hid (IsPb w5 g pa) := Lib.hid hP
  have T5 : Hid (IsT w5 gt 0 fa) := Lib.hid hT
  have K5 := Lib.hid (below_g2 K4.out hG.out hGt.out hg)
  have l5 := K5.out.size
  have hgl5 := hP.lt
  have hgtl5 := hT.lt
  obtain ⟨Ao5, co5, rfl⟩ := own_slice ho
  clear hg hP hT ho tt4
  obtain ⟨An5, cn5, rfl⟩ := own_slice hn5
  clear hn5
  have z5 : ([] : List Pl.M).length = 0 := rfl
  rw [z5]
  clear z5
  go_wp2_with fail
  have tt5 : IsT w5 gt (pa).me fa := by rw [D.out.oka.2.2.1]; exact T5.out
  refine (ptick_any g gt pa fa N 0 _ P5.out tt5 D.out.oka.1 (by rw [D.out.oka.2.2.1]; exact D.out.oka.2.1) (by omega) (by omega) D.out.oka.2.2.2.1 D.out.oka.2.2.2.2).mono ?_
  rw [D.out.eb, D.out.oka.2.2.1]
  rintro e w6 ⟨⟨vo6, vn6, rfl, ho, hn6⟩, hg, hP, hT⟩
  have P6 : Hid (IsPb w6 g pb) := Lib.hid hP
  have T6 : Hid (IsT w6 gt 0 fb) := Lib.hid hT
  have K6 := Lib.hid (below_g2 K5.out hG.out hGt.out hg)
  have l6 := K6.out.size
  have hgl6 := hP.lt
  have hgtl6 := hT.lt
  obtain ⟨Ao6, co6, rfl⟩ := own_slice ho
  clear hg hP hT ho tt5
  obtain ⟨b6, cn6, rfl, hb6, hl6, hc⟩ := rows_row hn6 (by simp)
  obtain ⟨c0, c1, c2⟩ := hc 0 _ rfl
  simp only [Nat.zero_mul, Nat.zero_add] at c0 c1 c2
  have e6 : ([⟨1, 1, 0⟩] : List Pl.M).length = 1 := rfl
  rw [e6]
  clear hn6 e6 hc
  cases speaks with
  | true =>
    go_wp2_with fail
    refine (hear_any gt 0 _ ⟨1, 0, 1⟩ _ T6.out (mok_lit _ _ _ (by omega))).mono ?_
    rw [← D.out.efk]
    rintro e w7 ⟨rfl, hg7, hT⟩
    have T7 : Hid (IsT w7 gt 0 fk) := Lib.hid hT
    have P7 := Lib.hid (P6.out.grown hg7 (fun e => by injection e with e; exact (P6.out.ne_ T6.out (by decide)) e))
    have K7 := Lib.hid (K6.out.trans (below_of_grown K6.out.size hg7 (fun k e => by injection e with e; have := hGt.out; omega)))
    have l7 := K7.out.size
    clear hg7 hT c0 c1 c2
    go_wp2_with fail
    refine (asked_any g pb _ P7.out).mono ?_
    rw [asked_val D.out.asked]
    rintro e w8 ⟨rfl, hb⟩
    have P8 := Lib.hid (P7.out.below hb P7.out.lt)
    have T8 := Lib.hid (T7.out.below hb T7.out.lt)
    have K8 := Lib.hid (below_then K7.out K7.out.size hb)
    have l8 := K8.out.size
    clear hb
    go_wp2_with fail
    refine (ack_any g pb 1 2 _ P8.out).mono ?_
    rw [D.out.ek]
    rintro e w9 ⟨rfl, hg9, hP⟩
    have P9 : Hid (IsPb w9 g pk) := Lib.hid hP
    have T9 := Lib.hid (T8.out.grown hg9 (fun e => by injection e with e; exact (P8.out.ne_ T8.out (by decide)) e.symm))
    have K9 := Lib.hid (K8.out.trans (below_of_grown K8.out.size hg9 (fun k e => by injection e with e; have := hG.out; omega)))
    have l9 := K9.out.size
    clear hg9 hP
    go_wp2_with fail
    have tt9 : IsT w9 gt (pk).me fk := by rw [D.out.okk.2.2.1]; exact T9.out
    refine (ptick_any g gt pk fk (4 * N) 0 _ P9.out tt9 D.out.okk.1 (by rw [D.out.okk.2.2.1]; exact D.out.okk.2.1) (by omega) (by omega) D.out.okk.2.2.2.1 D.out.okk.2.2.2.2).mono ?_
    rw [D.out.ec, D.out.okk.2.2.1]
    rintro e w10 ⟨⟨vo10, vn10, rfl, ho, hn10⟩, hg, hP, hT⟩
    have P10 : Hid (IsPb w10 g pc) := Lib.hid hP
    have T10 : Hid (IsT w10 gt 0 fc) := Lib.hid hT
    have K10 := Lib.hid (below_g2 K9.out hG.out hGt.out hg)
    have l10 := K10.out.size
    have hgl10 := hP.lt
    have hgtl10 := hT.lt
    obtain ⟨Ao10, co10, rfl⟩ := own_slice ho
    clear hg hP hT ho tt9
    obtain ⟨An10, cn10, rfl⟩ := own_slice hn10
    clear hn10
    have z5 : ([] : List Pl.M).length = 0 := rfl
    rw [z5]
    clear z5
    obtain ⟨m, hm, hs⟩ := D.out.cs
    go_wp2_with fail
    refine (get_near gt 0 fc 1 (fc 1) _ T10.out (by omega) rfl).mono ?_
    rw [hm]
    rintro e w11 ⟨rfl, hb⟩
    have K11 := Lib.hid (below_then K10.out K10.out.size hb)
    simp only [getVal, mcells, hs]
    clear hb hm hs
    go_wp2_with fail
    refine (pawake_any _).mono ?_
    rintro e w12 ⟨rfl, hb⟩
    have K12 := Lib.hid (below_then (K11.out.alloc K11.out.size (.cells #[.int .u16 m.n, .int .u8 0, .int .i64 m.i] 25)) (by have := K11.out.size; simp; omega) hb)
    clear hb
    go_wp2
    go_ret
    exact ⟨rfl, K12.out⟩
  | false =>
    go_wp2_with fail
    have tt6 : IsT w6 gt (pb).me fb := by rw [D.out.okb.2.2.1]; exact T6.out
    refine (ptick_any g gt pb fb (4 * N - 1) 0 _ P6.out tt6 D.out.okb.1 (by rw [D.out.okb.2.2.1]; exact D.out.okb.2.1) (by omega) (by omega) D.out.okb.2.2.2.1 D.out.okb.2.2.2.2).mono ?_
    rw [D.out.ee, D.out.okb.2.2.1]
    rintro e w7 ⟨⟨vo7, vn7, rfl, ho, hn7⟩, hg, hP, hT⟩
    have P7 : Hid (IsPb w7 g pe) := Lib.hid hP
    have T7 : Hid (IsT w7 gt 0 fe) := Lib.hid hT
    have K7 := Lib.hid (below_g2 K6.out hG.out hGt.out hg)
    have l7 := K7.out.size
    have hgl7 := hP.lt
    have hgtl7 := hT.lt
    obtain ⟨Ao7, co7, rfl⟩ := own_slice ho
    clear hg hP hT ho tt6
    obtain ⟨An7, cn7, rfl⟩ := own_slice hn7
    clear hn7
    obtain ⟨m, hm, hs⟩ := D.out.es
    go_wp2_with fail
    refine (get_near gt 0 fe 1 (fe 1) _ T7.out (by omega) rfl).mono ?_
    rw [hm]
    rintro e w8 ⟨rfl, hb⟩
    have K8 := Lib.hid ((below_then K7.out K7.out.size hb).alloc (by have := hb.size; omega) (.cells #[.int .u16 m.n, .int .u8 1, .int .i64 m.i] 25))
    have P8 := Lib.hid ((P7.out.below hb P7.out.lt).alloc (.cells #[.int .u16 m.n, .int .u8 1, .int .i64 m.i] 25))
    have T8 := Lib.hid ((T7.out.below hb T7.out.lt).alloc (.cells #[.int .u16 m.n, .int .u8 1, .int .i64 m.i] 25))
    have B8 := Lib.hid (Blk.new w8 25 #[.int .u16 m.n, .int .u8 1, .int .i64 m.i])
    have l8 : w.heap.size ≤ w8.heap.size := by have := hb.size; omega
    simp only [getVal, mcells, hs]
    clear hb hm hs
    go_wp2_with fail
    have tt : IsT (w8.alloc (.cells #[.int .u16 m.n, .int .u8 1, .int .i64 m.i] 25)) gt pe.me fe := by rw [D.out.oke.2.2.1]; exact T8.out
    refine (ptick_any g gt pe fe (4 * N) 0 _ P8.out tt D.out.oke.1 (by rw [D.out.oke.2.2.1]; exact D.out.oke.2.1) (by omega) (by omega) D.out.oke.2.2.2.1 D.out.oke.2.2.2.2).mono ?_
    rw [D.out.ef, D.out.oke.2.2.1]
    rintro e w9 ⟨⟨vo, vn, rfl, ho, hn⟩, hg, hP, hT⟩
    have T9 : Hid (IsT w9 gt 0 ff) := Lib.hid hT
    have K9 := Lib.hid (below_g2 K8.out hG.out hGt.out hg)
    have hs89 := hg.size
    have hgw8 : g < w8.heap.size ∧ gt < w8.heap.size := by
      have h1 := P8.out.ne_ B8.out (by decide)
      have h2 := T8.out.ne_ B8.out (by decide)
      have h3 := P8.out.lt
      have h4 := T8.out.lt
      simp at h3 h4
      omega
    have B9 := Lib.hid (B8.out.grow2 hg (by omega) (by omega))
    obtain ⟨Ao, co, rfl⟩ := own_slice ho
    obtain ⟨An, cn, rfl⟩ := own_slice hn
    clear hg hP hT ho hn tt
    obtain ⟨m2, hm, hs⟩ := D.out.fs
    go_wp2_with fail
    refine (get_near gt 0 ff 1 (ff 1) _ T9.out (by omega) rfl).mono ?_
    rw [hm]
    rintro e w10 ⟨rfl, hb⟩
    have K10 := Lib.hid (below_then K9.out K9.out.size hb)
    have B10 := Lib.hid (B9.out.below hb B9.out.lt)
    have c1 := B10.out.cell 1
    have hl8 := B10.out.lt
    simp only [List.getElem?_toArray, List.getElem?_cons_zero, List.getElem?_cons_succ] at c1
    simp only [getVal, mcells, hs]
    clear hb hm hs
    go_wp2_with fail
    refine (pawake_any _).mono ?_
    rintro e w12 ⟨rfl, hb⟩
    have K12 := Lib.hid (below_then (K10.out.alloc K10.out.size (.cells #[.int .u16 m2.n, .int .u8 2, .int .i64 m2.i] 25)) (by have := K10.out.size; simp; omega) hb)
    clear hb
    go_wp2
    go_ret
    exact ⟨rfl, K12.out⟩
set_option maxRecDepth 100000 in
theorem pbool {H : Type} {enc : TypeId × Value → H} {w : World} {base : Nat} {spare : Nat → Bool} {held : Bool} {r : Reach} {b0 : Nat} {v : Value} {d : DataW H} {p : List MemPlace} (hv : Value.okWide Try.prog w r b0 4 v) (h : DataW.Trod enc Try.prog w base spare held 4 v d p) : ∃ b, v = .bool b ∧ True := by
  obtain ⟨b, rfl, _⟩ := open_bool Try.underlying4 hv h
  exact ⟨b, rfl, trivial⟩
set_option maxRecDepth 100000 in
theorem probeDies_lifted (os : Os) (started : os.Started) (H : Type) (enc : TypeId × Value → H) :
    ReturnsInHanded {} Try.checked os 10 .any (Rows.probeDiesSpec.pre6 enc Try.prog Try.f10 Rows.probeDiesRow.domain false) (Rows.probeDiesSpec.post enc Try.prog Try.f10 false true false false) := by
  refine returnsInHanded_of_change (C := Try.checked) tOwn started (by kernel_rfl) Try.func10
    (ChangeSpec.witness6 (enc := enc) (C := Try.checked) false ⟨#[], #[.int .u16 0, .bool false], []⟩ 8 (by kernel_rfl) (by kernel_rfl) (by kernel_rfl) (by kernel_rfl)) ?_
  intro W base args ds gs before hval0 hW hcnd _
  have hval : ∀ (j : Nat) t v, Try.f10.params[j]? = some t → args[j]? = some v → Value.okWide Try.prog W .any base t v := hval0
  have hW' := hW
  obtain ⟨p, q, hA0, hV, rfl, hfz, hnd⟩ := hW
  have hA : DataW.TrodAll enc Try.prog W 0 (fun _ => true) true Try.f10.params.toList args.toList ds p := hA0
  rw [Try.params10] at hA hval
  obtain ⟨v0, vs0, d0, ds0, p0, q0, hargs, rfl, rfl, h0, r0⟩ := trodAll_cons hA
  obtain ⟨v1, vs1, d1, ds1, p1, q1, rfl, rfl, rfl, h1, r1⟩ := trodAll_cons r0
  obtain ⟨rfl, rfl, rfl⟩ := trodAll_nil r1
  obtain rfl : args = #[v0, v1] := by cases args; simp_all
  obtain ⟨s, rfl, rfl, rfl, ws⟩ := open_int Try.underlying22 (hval 0 22 v0 rfl rfl) h0
  obtain ⟨b, rfl, _⟩ := pbool (hval 1 4 v1 rfl rfl) h1
  refine (dies_walk s b W (bounds_u16 ws)).mono fun e W' ⟨he, hb⟩ => ?_
  subst he
  exact ⟨_, rfl, law_post tLaid (by decide +kernel) hW' rfl (by kernel_rfl) Try.underlying4 rfl hb⟩

/-- The statement. -/
theorem probeDies_holds : Rows.ProbeDiesSaid :=
  OpenClaim.holds_of_wide 10 Try.f10 rfl rfl rfl rfl rfl rfl rfl ⟨rfl, rfl, rfl, rfl, rfl⟩ rfl rfl rfl rfl rfl (by kernel_rfl) Try.func10 (by kernel_rfl)
    (of_decide_eq_true (by kernel_rfl)) (by unfold Func.isWrapper; rw [if_neg (of_decide_eq_false (by kernel_rfl))]; exact ⟨rfl, rfl⟩)
    (fun os started H enc _ => probeDies_lifted os started H enc)
#print axioms probeDies_holds
end Go.Proofs.Ytnlpgjdgiappcaa

