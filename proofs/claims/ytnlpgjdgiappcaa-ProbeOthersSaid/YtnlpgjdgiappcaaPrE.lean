/- WORDS: the world of a probe goes on. -/
import Derived.Test.YtnlpgjdgiappcaaPrOpen
import Derived.Test.YtnlpgjdgiappcaaPrPure2
namespace Go.Proofs.Ytnlpgjdgiappcaa
set_option linter.unusedVariables false
set_option linter.unusedSimpArgs false
open Go.RowKit

section
variable {w w' : World} {g gp gt : Nat} {p p' : Pl.Pb} {F F' : Pl.Tab} {r : Pl.Rp} {A : Option Addr} {cA : Nat} {z : Int} {G : Pl.Tab} {B : Option Addr} {cB : Nat} {now : Int}
theorem WS.drew (H : WS w g gp gt p F r A cA z G B cB now) : WS w.drew g gp gt p F r A cA z G B cB now := ⟨H.blk, H.pb, H.tb, H.rw_, H.gl, H.ne1, H.ne2, H.ne3⟩
theorem WS.ticked (H : WS w g gp gt p F r A cA z G B cB now) (hg : Grow2 w w' gp gt) (hP : IsPb w' gp p') (hme : p'.me = p.me) (hT : IsT w' gt p.me F') : WS w' g gp gt p' F' r A cA z G B cB now :=
  ⟨(hg.block g H.blk.lt H.ne1 H.ne2).trans H.blk, hP, by rw [hme]; exact hT,
    ((H.rw_.there (by omega)).keep (fun b hb => hg.block b hb.2 hb.1.2.1 hb.1.2.2)).imp (fun b hb => hb.1),
    ((H.gl.there (by omega)).keep (fun b hb => hg.block b hb.2 hb.1.2.1 hb.1.2.2)).imp (fun b hb => hb.1), H.ne1, H.ne2, H.ne3⟩
theorem WS.below (H : WS w g gp gt p F r A cA z G B cB now) (hb : Below w.heap.size w w') : WS w' g gp gt p F r A cA z G B cB now :=
  H.ticked (.of_below hb) (H.pb.below hb H.pb.lt) rfl (H.tb.below hb H.tb.lt)
theorem WS.setNow (H : WS w g gp gt p F r A cA z G B cB now) (n : Int) : WS (w.setCell ⟨g, 14, none⟩ (.int .i64 n)) g gp gt p F r A cA z G B cB n := by
  have hb : ∀ b, b ≠ g → (w.setCell ⟨g, 14, none⟩ (.int .i64 n)).heap[b]? = w.heap[b]? := fun b hne => Below.heap_setCell _ ⟨g, 14, none⟩ _ b hne
  refine ⟨?_, (hb gp (fun e => H.ne1 e.symm)).trans H.pb, (hb gt (fun e => H.ne2 e.symm)).trans H.tb, H.rw_.keep (fun b h => hb b h.1), H.gl.keep (fun b h => hb b h.1), H.ne1, H.ne2, H.ne3⟩
  have := H.blk.set_ 14 (.int .i64 n)
  unfold wcells at this ⊢
  simpa only [List.setIfInBounds_toArray, List.set_cons_succ, List.set_cons_zero] using this
end
theorem asked_shape (p : Pl.Pb) : ∃ an as_, askedVal p = .tuple #[.int .u16 an, .int .i64 as_, .bool p.op] ∧ (p.op = true → an = p.nd ∧ as_ = p.seq) := by
  unfold askedVal
  by_cases h : p.op = true
  · rw [if_pos h, h]; exact ⟨_, _, rfl, fun _ => ⟨rfl, rfl⟩⟩
  · rw [if_neg h]
    have : p.op = false := by simpa using h
    rw [this]
    exact ⟨_, _, rfl, fun h => by cases h⟩
/-- What stands at the j-th act. -/
def RI (w0 W : World) (g gp gt j : Nat) (z la : Int) : Prop :=
  ∃ p F r A cA G B cB now, WS W g gp gt p F r A cA z G B cB now ∧ Pl.PbOk p ∧ p.me = z ∧ Pl.TOk z F ∧ Pl.TOk z G ∧ p.seq = la ∧ 0 ≤ la ∧ la ≤ j ∧ 0 ≤ now ∧ now ≤ 64 * (j : Int) ∧ r.w.length ≤ j ∧ Pl.NdOk p ∧ Below w0.heap.size w0 W
theorem watch_seq (p : Pl.Pb) (m : Pl.M) (now : Int) : (Pl.watch p m now).seq = p.seq := (Pl.watch_same p m now).seq
theorem rack_len (r : Pl.Rp) (a s : Int) : (Pl.rack r a s).2.w.length = r.w.length := by rw [rack_w]
set_option maxHeartbeats 1000000 in
/-- An act of kind 2, 3 or 4, by World.do. -/
theorem do_step (w0 W : World) (g gp gt j : Nat) (z la : Int) (a : Ac) (H : RI w0 W g gp gt j z la) (hj : j ≤ 200) (ha : a.Ok) (hk : a.k.tmod 5 = 2 ∨ a.k.tmod 5 = 3 ∨ a.k.tmod 5 = 4) (hg : w0.heap.size ≤ g) (hgp : w0.heap.size ≤ gp) (hgt : w0.heap.size ≤ gt) :
    Calls Try.prog 39 #[.pointer (some ⟨g, 0, none⟩), .agg (acells a)] W fun e w' => (∃ b, e = .returned (.bool b)) ∧ RI w0 w' g gp gt (j + 1) z la := by
  obtain ⟨p, F, r, A, cA, G, B, cB, now, HW, hO, hme, hF, hG, hs, hl0, hl1, hn0, hn1, hlen, hnd, hK⟩ := H
  have hsz := hK.size
  rcases hk with hk | hk | hk
  · refine (do_ack g gp gt p F r A cA z G B cB now a W w0.heap.size hsz hg hgp hgt HW hk).mono ?_
    rintro e w' ⟨b, he, _, hb, hW⟩
    obtain ⟨i1, i2, i3⟩ := Pl.ack_inv hO a.m.n a.s
    exact ⟨⟨b, he⟩, _, _, _, _, _, _, _, _, _, hW, i1, by rw [i2, hme], hF, hG, by rw [i3, hs], hl0, by omega, hn0, by omega, by rw [rack_len]; omega, Pl.ack_nd hnd _ _, hK.trans hb⟩
  · refine (do_watch g gp gt p F r A cA z G B cB now a W w0.heap.size hsz hg hgp hgt HW hk ha.m (by omega)).mono ?_
    rintro e w' ⟨he, hb, A', cA', hW⟩
    have := Pl.rwatch_len r a.m now
    exact ⟨⟨true, he⟩, _, _, _, _, _, _, _, _, _, hW, Pl.watch_ok hO _ _, by rw [watch_me, hme], hF, hG, by rw [watch_seq, hs], hl0, by omega, hn0, by omega, by omega, Pl.watch_nd hnd _ _, hK.trans hb⟩
  · refine (do_hear g gp gt p F r A cA z G B cB now a W w0.heap.size hsz hg hgp hgt HW hk ha.m hG).mono ?_
    rintro e w' ⟨he, hb, B', cB', hW⟩
    exact ⟨⟨true, he⟩, _, _, _, _, _, _, _, _, _, hW, hO, hme, by rw [hme]; exact Pl.heard_ok hF ha.m, Pl.heard_ok hG ha.m, hs, hl0, by omega, hn0, by omega, by omega, hnd, hK.trans hb⟩
end Go.Proofs.Ytnlpgjdgiappcaa
