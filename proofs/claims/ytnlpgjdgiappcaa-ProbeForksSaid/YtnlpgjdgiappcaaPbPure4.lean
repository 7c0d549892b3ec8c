/- PLAIN: what a probe's calls leave as it was; what they may make of its numbers. -/
import Derived.Test.YtnlpgjdgiappcaaPbPure2
namespace Go.Proofs.Ytnlpgjdgiappcaa.Pl
set_option linter.unusedVariables false
set_option linter.unusedSimpArgs false
/-- What a probe's numbers may be. -/
structure PbOk (p : Pb) : Prop where
  me0 : 0 ≤ p.me
  me1 : p.me < 64
  per0 : 1 ≤ p.per
  per1 : p.per ≤ 1099511627776
  tmo0 : 1 ≤ p.tmo
  tmo1 : p.tmo ≤ 1099511627776
  nxt0 : 0 ≤ p.nxt
  nxt1 : p.nxt ≤ 2199023255552
  nd0 : 0 ≤ p.nd
  nd1 : p.nd < 64
  at0 : 0 ≤ p.at_
  at1 : p.at_ ≤ 1099511627776
  w0 : ∀ k, 0 ≤ (p.w k).f ∧ (p.w k).f ≤ 1099511627776
theorem pnew_ok {me per tmo : Int} (h0 : 0 ≤ me) (h1 : me < 64) (h2 : may per 1 = true) (h3 : may tmo 1 = true) : PbOk (pnew me per tmo) := by
  simp [may] at h2 h3
  exact ⟨h0, h1, h2.1, h2.2, h3.1, h3.2, by simp [pnew], by simp [pnew], by simp [pnew], by simp [pnew], by simp [pnew], by simp [pnew], by simp [pnew]⟩
theorem setW_ok {p : Pb} (h : PbOk p) (k : Nat) {x : Wa} (hx : 0 ≤ x.f ∧ x.f ≤ 1099511627776) : PbOk (p.setW k x) :=
  ⟨h.me0, h.me1, h.per0, h.per1, h.tmo0, h.tmo1, h.nxt0, h.nxt1, h.nd0, h.nd1, h.at0, h.at1, fun j => by
    unfold Pb.setW
    simp only
    split
    · exact hx
    · exact h.w0 j⟩
/-- But for who is watched, p is as q. -/
structure SameBut (p q : Pb) : Prop where
  me : p.me = q.me
  per : p.per = q.per
  tmo : p.tmo = q.tmo
  nxt : p.nxt = q.nxt
  seq : p.seq = q.seq
  op : p.op = q.op
  hlp : p.hlp = q.hlp
  nd : p.nd = q.nd
  at_ : p.at_ = q.at_
theorem SameBut.refl (p : Pb) : SameBut p p := ⟨rfl, rfl, rfl, rfl, rfl, rfl, rfl, rfl, rfl⟩
theorem SameBut.setW {p q : Pb} (h : SameBut p q) (k : Nat) (x : Wa) : SameBut (p.setW k x) q := ⟨h.me, h.per, h.tmo, h.nxt, h.seq, h.op, h.hlp, h.nd, h.at_⟩
def buryN (now : Int) (p : Pb) (f : Tab) (k : Nat) : Pb × Tab × List M := (List.range k).foldl (bury1 now) (p, f, [])
theorem buryN_succ (now : Int) (p : Pb) (f : Tab) (k : Nat) : buryN now p f (k + 1) = bury1 now (buryN now p f k) k := by
  unfold buryN
  rw [List.range_succ, List.foldl_append]
  rfl
theorem hear_len (z : Int) (f : Tab) (m : M) : (hear z f m).toList.length ≤ 1 := by cases hear z f m <;> simp
theorem mok_at {z : Int} {f : Tab} (hf : TOk z f) {k : Nat} {m : M} (h : f k = some m) (s : Int) (hs : 0 ≤ s ∧ s ≤ 255) : MOk ⟨m.n, s, m.i⟩ := by
  obtain ⟨a, b, c, d, e, g⟩ := hf.at_ k m h
  exact ⟨by simp only; omega, by simp only; omega, hs.1, hs.2, by simp only; omega, by simp only; omega⟩
theorem buryN_inv {now : Int} {p : Pb} {f : Tab} (hp : PbOk p) (hf : TOk p.me f) (k : Nat) :
    PbOk (buryN now p f k).1 ∧ TOk p.me (buryN now p f k).2.1 ∧ SameBut (buryN now p f k).1 p ∧ (buryN now p f k).2.2.length ≤ k := by
  induction k with
  | zero => exact ⟨hp, hf, .refl p, Nat.le_refl _⟩
  | succ k ih =>
    obtain ⟨h1, h2, h3, h4⟩ := ih
    rw [buryN_succ]
    generalize buryN now p f k = X at *
    obtain ⟨q, F, nw⟩ := X
    simp only at h1 h2 h3 h4
    unfold bury1
    simp only
    have hw := h1.w0 k
    split
    · split
      · exact ⟨setW_ok h1 k hw, h2, h3.setW _ _, by simp only; omega⟩
      · rename_i m hm
        split
        · exact ⟨setW_ok h1 k hw, h2, h3.setW _ _, by simp only; omega⟩
        · split
          · have := hear_len q.me F ⟨m.n, 2, m.i⟩
            refine ⟨setW_ok h1 k hw, ?_, h3.setW _ _, by simp only [List.length_append]; omega⟩
            simp only
            rw [h3.me]
            exact heard_ok h2 (mok_at h2 hm 2 (by omega))
          · exact ⟨h1, h2, h3, by simp only; omega⟩
    · exact ⟨h1, h2, h3, by simp only; omega⟩
theorem bury_eq (now : Int) (p : Pb) (f : Tab) : bury now p f = buryN now p f 64 := rfl
theorem watch_ok {p : Pb} (h : PbOk p) (m : M) (now : Int) : PbOk (watch p m now) := by
  unfold watch
  split
  · rename_i hc
    have := hc.2.2.2.1
    simp [may] at this
    exact setW_ok h _ this
  · exact h
theorem watch_same (p : Pb) (m : M) (now : Int) : SameBut (watch p m now) p := by
  unfold watch
  split
  · exact (SameBut.refl p).setW _ _
  · exact .refl p
theorem others_len (p : Pb) (f : Tab) (b : Int) : (othersP p f b).length ≤ 64 := by
  unfold othersP
  refine Nat.le_trans (List.length_filter_le _ _) ?_
  unfold thereT listT
  rw [List.length_map]
  refine Nat.le_trans (List.length_filter_le _ _) (Nat.le_trans (List.length_filterMap_le _ _) (by simp))
theorem there_lt {z : Int} {f : Tab} (hf : TOk z f) : ∀ x ∈ thereT f, 0 ≤ x ∧ x < 64 ∧ ∃ m, f x.toNat = some m ∧ m.n = x ∧ m.s ≠ 2 := by
  intro x hx
  unfold thereT listT at hx
  obtain ⟨m, hm, rfl⟩ := List.mem_map.1 hx
  obtain ⟨hm, hs⟩ := List.mem_filter.1 hm
  obtain ⟨k, _, hk⟩ := List.mem_filterMap.1 hm
  obtain ⟨a, b, c, d, e, g⟩ := hf.at_ k m hk
  rw [b, Int.toNat_natCast]
  exact ⟨by omega, by omega, m, hk, b, by simpa using hs⟩
theorem others_mem {z : Int} {p : Pb} {f : Tab} (hf : TOk z f) {b x : Int} (hx : x ∈ othersP p f b) : 0 ≤ x ∧ x < 64 ∧ x ≠ p.me ∧ x ≠ b ∧ ∃ m, f x.toNat = some m ∧ m.n = x ∧ m.s ≠ 2 := by
  unfold othersP at hx
  obtain ⟨h1, h2⟩ := List.mem_filter.1 hx
  obtain ⟨a, b, c⟩ := there_lt hf x h1
  simp at h2
  exact ⟨a, b, h2.1, h2.2, c⟩
theorem drawn_mem {l : List Int} {d n : Int} (h : drawn l d = some n) : n ∈ l := List.mem_of_getElem? h
/-- What late leaves. -/
theorem late_inv {now draw : Int} {p : Pb} {f : Tab} (hp : PbOk p) (hf : TOk p.me f) :
    PbOk (late now draw p f).1 ∧ TOk p.me (late now draw p f).2.1 ∧ (late now draw p f).1.me = p.me ∧ (late now draw p f).1.per = p.per ∧ (late now draw p f).1.seq = p.seq ∧ (late now draw p f).1.nxt = p.nxt ∧ (late now draw p f).2.2.2.length ≤ 1 ∧ (late now draw p f).2.2.1.length ≤ 1 := by
  unfold late
  split
  · exact ⟨hp, hf, rfl, rfl, rfl, rfl, by simp, by simp⟩
  · split
    · have hop : PbOk { p with op := false } := ⟨hp.me0, hp.me1, hp.per0, hp.per1, hp.tmo0, hp.tmo1, hp.nxt0, hp.nxt1, hp.nd0, hp.nd1, hp.at0, hp.at1, hp.w0⟩
      split
      · exact ⟨hop, hf, rfl, rfl, rfl, rfl, by simp, by simp⟩
      · rename_i m hm
        have hs := watch_same { p with op := false } (((heard p.me f ⟨m.n, 1, m.i⟩) p.nd.toNat).getD ⟨0, 0, 0⟩) now
        refine ⟨watch_ok hop _ _, heard_ok hf (mok_at hf hm 1 (by omega)), hs.me, hs.per, hs.seq, hs.nxt, hear_len _ _ _, by simp⟩
    · split
      · have hop : PbOk { p with hlp := true } := ⟨hp.me0, hp.me1, hp.per0, hp.per1, hp.tmo0, hp.tmo1, hp.nxt0, hp.nxt1, hp.nd0, hp.nd1, hp.at0, hp.at1, hp.w0⟩
        split
        · exact ⟨hop, hf, rfl, rfl, rfl, rfl, by simp, by simp⟩
        · exact ⟨hop, hf, rfl, rfl, rfl, rfl, by simp, by simp⟩
      · exact ⟨hp, hf, rfl, rfl, rfl, rfl, by simp, by simp⟩
theorem tick_inv {now draw : Int} {p : Pb} {f : Tab} (hp : PbOk p) (hf : TOk p.me f) :
    PbOk (tick now draw p f).1 ∧ TOk p.me (tick now draw p f).2.1 ∧ (tick now draw p f).1.me = p.me ∧ (tick now draw p f).1.per = p.per ∧ (tick now draw p f).1.seq ≤ p.seq + 1 ∧ p.seq ≤ (tick now draw p f).1.seq ∧ (tick now draw p f).2.2.2.length ≤ 65 ∧ (tick now draw p f).2.2.1.length ≤ 2 := by
  unfold tick
  split
  · rename_i hmay
    simp [may] at hmay
    obtain ⟨a1, a2, a3, a4⟩ := buryN_inv (now := now) hp hf 64
    rw [← bury_eq] at a1 a2 a3 a4
    generalize bury now p f = X at *
    obtain ⟨p1, f1, nw⟩ := X
    simp only at a1 a2 a3 a4 ⊢
    rw [← a3.me] at a2
    obtain ⟨b1, b2, b3, b4, b5, b6, b7, b8⟩ := late_inv (now := now) (draw := draw) a1 a2
    generalize late now draw p1 f1 = Y at *
    obtain ⟨p2, f2, os, mo⟩ := Y
    simp only at b1 b2 b3 b4 b5 b6 b7 b8 ⊢
    rw [a3.me] at b2 b3
    rw [a3.seq] at b5
    have e4 := a3.per
    split
    · exact ⟨b1, b2, b3, by simp only; omega, by simp only; omega, by simp only; omega, by simp only [List.length_append]; omega, by simp only; omega⟩
    · split
      · rename_i n hn
        obtain ⟨c1, c2, c3, c4, c5⟩ := others_mem (z := p.me) b2 (drawn_mem hn)
        have := b1.per1
        have := b1.per0
        refine ⟨⟨b1.me0, b1.me1, b1.per0, b1.per1, b1.tmo0, b1.tmo1, ?_, ?_, c1, c2, hmay.1, hmay.2, b1.w0⟩, b2, b3, ?_, ?_, ?_, ?_, ?_⟩
        all_goals first | (simp only [List.length_append, List.length_singleton]; omega) | (simp only; omega)
      · exact ⟨b1, b2, b3, by simp only; omega, by simp only; omega, by simp only; omega, by simp only [List.length_append]; omega, by simp only; omega⟩
  · exact ⟨hp, hf, rfl, rfl, by simp only; omega, by simp only; omega, by simp, by simp⟩
theorem ack_inv {p : Pb} (hp : PbOk p) (about seq : Int) : PbOk (ack p about seq).2 ∧ (ack p about seq).2.me = p.me ∧ (ack p about seq).2.seq = p.seq := by
  unfold ack
  split
  · exact ⟨⟨hp.me0, hp.me1, hp.per0, hp.per1, hp.tmo0, hp.tmo1, hp.nxt0, hp.nxt1, hp.nd0, hp.nd1, hp.at0, hp.at1, hp.w0⟩, rfl, rfl⟩
  · exact ⟨hp, rfl, rfl⟩
end Go.Proofs.Ytnlpgjdgiappcaa.Pl
