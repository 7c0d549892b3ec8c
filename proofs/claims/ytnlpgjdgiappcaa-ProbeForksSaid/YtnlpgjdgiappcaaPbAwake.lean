/- WALK: watchfirelaw16.awake hands back true. -/
import Derived.Test.YtnlpgjdgiappcaaPbWalk6
import Derived.Test.YtnlpgjdgiappcaaMbAwake
namespace Go.Proofs.Ytnlpgjdgiappcaa
set_option linter.unusedVariables false
set_option linter.unusedSimpArgs false
open Go.RowKit

theorem ptick_any (g gt : Nat) (p : Pl.Pb) (f : Pl.Tab) (now draw : Int) (w : World) (H : IsPb w g p) (hT : IsT w gt p.me f) (hp : Pl.PbOk p) (hf : Pl.TOk p.me f) (d0 : 0 ≤ draw) (d1 : draw ≤ 4294967295) (s0 : 0 ≤ p.seq) (s1 : p.seq ≤ 4611686018427387904) :
    Calls Try.prog 34 #[.pointer (some ⟨g, 0, none⟩), .int .i64 now, .int .u32 draw, .pointer (some ⟨gt, 0, none⟩)] w (TickEnd w g gt p.me (Pl.tick now draw p f)) := by
  cases hm : Pl.may now 0 with
  | false => exact ptick_no g gt p f now draw w H hT hm
  | true => exact ptick_yes g gt p f now draw w H hT hp hf d0 d1 s0 s1 hm

/-- What lies in a row of packets. -/
theorem outs_row {w : World} {base : Nat} {v : Value} {l : List Pl.Ou} (h : w.ownsRow base 69 7 v l.length (outs l)) (hl : 0 < l.length) :
    ∃ b c, v = .slice (some ⟨b, 0, none⟩) l.length c ∧ base ≤ b ∧ b < w.heap.size ∧ ∀ (k : Nat) (o : Pl.Ou), l[k]? = some o → w.cell? ⟨b, k * 7, none⟩ = some (.int .u16 o.to_) ∧ w.cell? ⟨b, k * 7 + 1, none⟩ = some (.int .u8 o.k) ∧ w.cell? ⟨b, k * 7 + 2, none⟩ = some (.int .u16 o.fr) ∧ w.cell? ⟨b, k * 7 + 3, none⟩ = some (.int .u16 o.ab) ∧ w.cell? ⟨b, k * 7 + 4, none⟩ = some (.int .i64 o.sq) ∧ w.cell? ⟨b, k * 7 + 5, none⟩ = some (.slice none 0 0) ∧ w.cell? ⟨b, k * 7 + 6, none⟩ = some (.slice none 0 0) := by
  rcases h.2 with ⟨_, h0⟩ | ⟨b, c, cur, rfl, hb, hh, _⟩
  · omega
  · have hc : ∀ j u, (outs l)[j]? = some u → w.cell? ⟨b, j, none⟩ = some u := fun j u hu => by
      have := h.cells (g := b) rfl j u hu
      rwa [Addr.add_mid, Nat.zero_add] at this
    refine ⟨b, c, rfl, hb, (Array.getElem?_eq_some_iff.1 hh).1, fun k o hk => ?_⟩
    have q : ∀ j, j < 7 → ∀ u, (oc o)[j]? = some u → w.cell? ⟨b, k * 7 + j, none⟩ = some u := fun j hj u hu => hc _ _ ((outs_get l k j o hk hj).trans hu)
    exact ⟨q 0 (by omega) _ rfl, q 1 (by omega) _ rfl, q 2 (by omega) _ rfl, q 3 (by omega) _ rfl, q 4 (by omega) _ rfl, q 5 (by omega) _ rfl, q 6 (by omega) _ rfl⟩
theorem rows_row {w : World} {base : Nat} {v : Value} {l : List Pl.M} (h : w.ownsRow base 25 3 v l.length (rows l)) (hl : 0 < l.length) :
    ∃ b c, v = .slice (some ⟨b, 0, none⟩) l.length c ∧ base ≤ b ∧ b < w.heap.size ∧ ∀ (k : Nat) (m : Pl.M), l[k]? = some m → w.cell? ⟨b, k * 3, none⟩ = some (.int .u16 m.n) ∧ w.cell? ⟨b, k * 3 + 1, none⟩ = some (.int .u8 m.s) ∧ w.cell? ⟨b, k * 3 + 2, none⟩ = some (.int .i64 m.i) := by
  rcases h.2 with ⟨_, h0⟩ | ⟨b, c, cur, rfl, hb, hh, _⟩
  · omega
  · have hc : ∀ j u, (rows l)[j]? = some u → w.cell? ⟨b, j, none⟩ = some u := fun j u hu => by
      have := h.cells (g := b) rfl j u hu
      rwa [Addr.add_mid, Nat.zero_add] at this
    refine ⟨b, c, rfl, hb, (Array.getElem?_eq_some_iff.1 hh).1, fun k m hk => ?_⟩
    obtain ⟨r0, r1, r2⟩ := rows_get l k m hk
    exact ⟨hc _ _ r0, hc _ _ r1, hc _ _ r2⟩
theorem row_none {w : World} {base : Nat} {e : TypeId} {size : Nat} {v : Value} {xs : List Value} (h : w.ownsRow base e size v 0 xs) : ∃ A c, v = .slice A 0 c := own_slice h

theorem pa_ok : Pl.PbOk (Pl.pnew 0 10 3) := Pl.pnew_ok (by omega) (by omega) (by decide) (by decide)
theorem pa_tok : Pl.TOk 0 (Pl.heard 0 (Pl.newT 0) ⟨1, 0, 0⟩) := Pl.heard_ok (Pl.newT_ok (by omega) (by omega)) (mok_lit _ _ _ (by omega))
theorem pa0_ok : Pl.PbOk Pl.pa0.1 ∧ Pl.TOk 0 Pl.pa0.2.1 ∧ Pl.pa0.1.me = 0 ∧ Pl.pa0.1.seq ≤ 1 ∧ 0 ≤ Pl.pa0.1.seq := by
  obtain ⟨a, b, c, d, e, f, _, _⟩ := Pl.tick_inv (now := 0) (draw := 5) pa_ok pa_tok
  exact ⟨a, b, c, e, f⟩
theorem pa1_len : Pl.pa1.2.2.2.length = 1 := by rw [Pl.pa1_news]; rfl
theorem below_g2 {w W w1 : World} {a b : Nat} (hb : Below w.heap.size w W) (ha : w.heap.size ≤ a) (hb2 : w.heap.size ≤ b) (h : Grow2 W w1 a b) : Below w.heap.size w w1 := hb.trans (below_of_grow2 h hb.size ha hb2)

set_option maxRecDepth 100000 in
set_option maxHeartbeats 2000000 in
theorem pawake_any (w : World) : Calls Try.prog 36 #[] w fun e w' => e = .returned (.bool true) ∧ Below w.heap.size w w' := by
  go_enter Try.func36, Try.ntmps36
  go_wp2_with fail
  refine (pnew_yes 0 10 3 _ (by omega) (by omega) (by decide) (by decide)).mono ?_
  rintro e w1 ⟨g, rfl, hb1, hg, hP1⟩
  have P1 := Lib.hid hP1
  have K1 := Lib.hid hb1
  have l1 := hb1.size
  have hgl := hP1.lt
  clear hb1 hP1
  go_wp2_with fail
  refine (new_any 0 _ (by omega) (by omega)).mono ?_
  rintro e w2 ⟨gt, rfl, hb2, hgt, hT2⟩
  have T2 : Hid (IsT w2 gt 0 (Pl.newT 0)) := Lib.hid hT2
  have P2 := Lib.hid (P1.out.below hb2 P1.out.lt)
  have K2 := Lib.hid (below_then K1.out K1.out.size hb2)
  have hgt2 : w.heap.size ≤ gt := by omega
  clear hb2 hT2
  go_wp2_with fail
  refine (hear_any gt 0 _ ⟨1, 0, 0⟩ _ T2.out (mok_lit _ _ _ (by omega))).mono ?_
  rintro e w3 ⟨rfl, hg3, hT3⟩
  have T3 := Lib.hid hT3
  have P3 := Lib.hid (P2.out.grown hg3 (fun e => by injection e with e; omega))
  have K3 := Lib.hid (K2.out.trans (below_of_grown K2.out.size hg3 (fun k e => by injection e with e; omega)))
  clear hg3 hT3
  go_wp2_with fail
  refine (ptick_any g gt (Pl.pnew 0 10 3) _ 0 5 _ P3.out T3.out pa_ok pa_tok (by omega) (by omega) (by decide) (by decide)).mono ?_
  rintro e w4 ⟨⟨vo, vn, rfl, ho, hn⟩, hg4, hP4, hT4⟩
  have P4 : Hid (IsPb w4 g Pl.pa0.1) := Lib.hid hP4
  have T4 : Hid (IsT w4 gt 0 Pl.pa0.2.1) := Lib.hid hT4
  have K4 := Lib.hid (below_g2 K3.out hg hgt2 hg4)
  have ho1 : w4.ownsRow w3.heap.size 69 7 vo Pl.pa0.2.2.1.length (outs Pl.pa0.2.2.1) := ho
  rw [Pl.pa0_outs] at ho1
  obtain ⟨b, c, rfl, _, _, hc⟩ := outs_row ho1 (by decide)
  obtain ⟨c0, c1, c2, c3, c4, _, _⟩ := hc 0 _ rfl
  obtain ⟨A, c', rfl⟩ := own_slice hn
  simp only [Nat.zero_mul, Nat.zero_add] at c0 c1 c2 c3 c4
  have l1 : ([⟨1, 0, 0, 1, 1⟩] : List Pl.Ou).length = 1 := rfl
  rw [l1]
  clear hc ho ho1 hn hg4 hP4 hT4 l1
  go_wp2_with fail
  have hp0 := pa0_ok
  have P4' := P4.out
  have T4' : IsT w4 gt Pl.pa0.1.me Pl.pa0.2.1 := by rw [hp0.2.2.1]; exact T4.out
  refine (ptick_any g gt Pl.pa0.1 Pl.pa0.2.1 10 5 _ P4' T4' hp0.1 (by rw [hp0.2.2.1]; exact hp0.2.1) (by omega) (by omega) (by omega) (by omega)).mono ?_
  clear P4' T4' hp0 c0 c1 c2 c3 c4
  rintro e w5 ⟨⟨vo, vn, rfl, ho, hn⟩, hg5, hP5, hT5⟩
  have K5 := Lib.hid (below_g2 K4.out hg hgt2 hg5)
  have hn1 : w5.ownsRow w4.heap.size 25 3 vn Pl.pa1.2.2.2.length (rows Pl.pa1.2.2.2) := hn
  rw [Pl.pa1_news] at hn1
  obtain ⟨b2, c2', rfl, _, _, hc⟩ := rows_row hn1 (by decide)
  obtain ⟨c0, c1, c2⟩ := hc 0 _ rfl
  obtain ⟨A2, c'2, rfl⟩ := own_slice ho
  simp only [Nat.zero_mul, Nat.zero_add] at c0 c1 c2
  have l1 : ([⟨1, 1, 0⟩] : List Pl.M).length = 1 := rfl
  rw [l1]
  clear hc ho hn hn1 hg5 hP5 hT5 l1
  go_wp2
  go_ret
  exact ⟨rfl, K5.out⟩
end Go.Proofs.Ytnlpgjdgiappcaa
