/- PLAIN LAW: where everyone who is asked answers nobody is suspected (ProbeCalm); one that never answers dies (ProbeDies). -/
import Derived.Test.YtnlpgjdgiappcaaPbPure
namespace Go.Proofs.Ytnlpgjdgiappcaa.Pl
set_option linter.unusedVariables false
set_option linter.unusedSimpArgs false
theorem bury_fold (now : Int) (l : List Nat) (p : Pb) (f : Tab) (h : ∀ n, (p.w n).is = false) : l.foldl (bury1 now) (p, f, []) = (p, f, []) := by
  induction l with
  | nil => rfl
  | cons n r ih =>
    rw [List.foldl_cons]
    have : bury1 now (p, f, []) n = (p, f, []) := by
      unfold bury1
      simp [h n]
    rw [this]
    exact ih
theorem bury_calm (now : Int) (p : Pb) (f : Tab) (h : ∀ n, (p.w n).is = false) : bury now p f = (p, f, []) := bury_fold now _ p f h
/-- Nothing open, nobody watched; so many questions were asked. -/
structure Calm (p : Pb) (i : Nat) : Prop where
  me : p.me = 0
  per : p.per = 10
  tmo : p.tmo = 3
  op : p.op = false
  seq : p.seq = i
  nxt : p.nxt ≤ 10 * i
  w : ∀ n, (p.w n).is = false
theorem drawn_some {l : List Int} (h : l ≠ []) {d : Int} (hd : 0 ≤ d) : ∃ n, drawn l d = some n ∧ n ∈ l := by
  unfold drawn
  have hl : 0 < l.length := List.length_pos_iff.2 h
  have h2 : (d % (l.length : Int)).toNat < l.length := by
    have := Int.emod_nonneg d (show (l.length : Int) ≠ 0 by omega)
    have := Int.emod_lt_of_pos d (show (0 : Int) < (l.length : Int) by omega)
    omega
  exact ⟨l[(d % (l.length : Int)).toNat], List.getElem?_eq_getElem h2, List.getElem_mem h2⟩
def asks (p : Pb) (n : Int) (i : Nat) : Pb := { p with seq := (i : Int) + 1, op := true, hlp := false, nd := n, at_ := 10 * i, nxt := 10 * i + 10 }
theorem tick_calm {p : Pb} {i : Nat} (H : Calm p i) (hi : i < 60) (f : Tab) (d n : Int) (hn : drawn (othersP p f 0) d = some n) :
    tick (10 * i) d p f = (asks p n i, f, [⟨n, 0, 0, n, (i : Int) + 1⟩], []) := by
  have hm : may (10 * (i : Int)) 0 = true := by unfold may; simp; omega
  have hnx : ¬ 10 * (i : Int) < p.nxt := by have := H.nxt; omega
  have hl : late (10 * (i : Int)) d p f = (p, f, [], []) := by unfold late; rw [if_pos H.op]
  unfold tick
  rw [if_pos hm, bury_calm _ _ _ H.w]
  simp only [hl, H.op, H.me, hn, hnx, H.seq, H.per]
  simp [asks, H.me, H.per]
theorem ack_calm {p : Pb} {n : Int} {i : Nat} : ack (asks p n i) n ((i : Int) + 1) = (true, { asks p n i with op := false }) := by
  unfold ack asks
  simp
theorem tick_rest {p : Pb} {i : Nat} (H : Calm p i) (hi : i < 60) (f : Tab) (d n : Int) : tick (10 * i + 3) d { asks p n i with op := false } f = ({ asks p n i with op := false }, f, [], []) := by
  have hm : may (10 * (i : Int) + 3) 0 = true := by unfold may; simp; omega
  unfold tick
  rw [if_pos hm, bury_calm _ _ _ (by intro k; exact H.w k)]
  have hl : late (10 * (i : Int) + 3) d { asks p n i with op := false } f = ({ asks p n i with op := false }, f, [], []) := by unfold late; rw [if_pos rfl]
  simp only [hl]
  rw [if_pos (.inr (by show 10 * (i : Int) + 3 < 10 * i + 10; omega))]
  rfl
theorem calm_next {p : Pb} {i : Nat} (H : Calm p i) (n : Int) : Calm { asks p n i with op := false } (i + 1) :=
  ⟨H.me, H.per, H.tmo, rfl, by simp [asks], by simp [asks]; omega, H.w⟩
end Go.Proofs.Ytnlpgjdgiappcaa.Pl
