/- PLAIN LAW: what goes out at a tick: questions with the next number (ProbeRises), to whom and about whom (ProbeOthers). -/
import Derived.Test.YtnlpgjdgiappcaaPbPure4
namespace Go.Proofs.Ytnlpgjdgiappcaa.Pl
set_option linter.unusedVariables false
set_option linter.unusedSimpArgs false

/-- How many of these ask. -/
def pings (l : List Ou) : Nat := (l.filter (fun o => decide (o.k = 0))).length
/-- Who may be asked, and about whom. -/
structure OutOk (z : Int) (f : Tab) (o : Ou) : Prop where
  t0 : 0 ≤ o.to_
  t1 : o.to_ < 64
  is : ∃ m, f o.to_.toNat = some m ∧ m.s ≠ 2
  ne : o.to_ ≠ z
  fr : o.fr = z
  ab : o.ab ≠ z
  ask : o.k = 2 → o.ab ≠ o.to_
  ping : o.k = 0 → o.ab = o.to_
/-- What is asked is not the asker. -/
def NdOk (p : Pb) : Prop := p.op = true → p.nd ≠ p.me
theorem bury_nd {now : Int} {p : Pb} {f : Tab} (hp : PbOk p) (hf : TOk p.me f) (h : NdOk p) : NdOk (bury now p f).1 := by
  obtain ⟨a1, a2, a3, a4⟩ := buryN_inv (now := now) hp hf 64
  rw [← bury_eq] at a3
  intro ho
  rw [a3.nd, a3.me]
  exact h (by rw [← a3.op]; exact ho)
theorem late_shape {now draw : Int} {p : Pb} {f : Tab} (hp : PbOk p) (hf : TOk p.me f) (hn : NdOk p) :
    NdOk (late now draw p f).1 ∧ (late now draw p f).1.seq = p.seq ∧ (late now draw p f).1.me = p.me ∧ ((late now draw p f).2.2.1 = [] ∨ ∃ o, (late now draw p f).2.2.1 = [o] ∧ o.k = 2 ∧ OutOk p.me (late now draw p f).2.1 o) := by
  unfold late
  split
  · exact ⟨hn, rfl, rfl, .inl rfl⟩
  · rename_i hop
    have hop' : p.op = true := by cases h : p.op <;> simp_all
    have hnd := hn hop'
    split
    · split
      · exact ⟨(fun h => by cases h), rfl, rfl, .inl rfl⟩
      · rename_i m hm
        have hs := watch_same { p with op := false } (((heard p.me f ⟨m.n, 1, m.i⟩) p.nd.toNat).getD ⟨0, 0, 0⟩) now
        exact ⟨(fun h => by rw [hs.op] at h; cases h), hs.seq, hs.me, .inl rfl⟩
    · split
      · split
        · rename_i n hd
          obtain ⟨c1, c2, c3, c4, m, c5, c6, c7⟩ := others_mem (z := p.me) hf (drawn_mem hd)
          exact ⟨fun _ => hnd, rfl, rfl, .inr ⟨_, rfl, rfl, ⟨c1, c2, ⟨m, c5, c7⟩, c3, rfl, hnd, fun _ e => c4 e.symm, fun h => by cases h⟩⟩⟩
        · exact ⟨fun _ => hnd, rfl, rfl, .inl rfl⟩
      · exact ⟨hn, rfl, rfl, .inl rfl⟩
theorem tick_shape {now draw : Int} {p : Pb} {f : Tab} (hp : PbOk p) (hf : TOk p.me f) (hn : NdOk p) :
    NdOk (tick now draw p f).1 ∧ (∀ o ∈ (tick now draw p f).2.2.1, OutOk p.me (tick now draw p f).2.1 o) ∧ (tick now draw p f).1.seq = p.seq + pings (tick now draw p f).2.2.1 ∧
      ∀ k o, (tick now draw p f).2.2.1[k]? = some o → o.k = 0 → o.sq = p.seq + pings ((tick now draw p f).2.2.1.take k) + 1 := by
  unfold tick
  split
  · obtain ⟨a1, a2, a3, a4⟩ := buryN_inv (now := now) hp hf 64
    have an := bury_nd (now := now) hp hf hn
    rw [← bury_eq] at a1 a2 a3 a4
    generalize bury now p f = X at *
    obtain ⟨p1, f1, nw⟩ := X
    simp only at a1 a2 a3 a4 an ⊢
    rw [← a3.me] at a2
    obtain ⟨b1, b2, _⟩ := late_inv (now := now) (draw := draw) a1 a2
    obtain ⟨c1, c2, c3, c4⟩ := late_shape (now := now) (draw := draw) a1 a2 an
    generalize late now draw p1 f1 = Y at *
    obtain ⟨p2, f2, os, mo⟩ := Y
    simp only at b1 b2 c1 c2 c3 c4 ⊢
    rw [a3.me] at b2 c3 c4
    rw [a3.seq] at c2
    have hos : (∀ o ∈ os, OutOk p.me f2 o) ∧ (∀ o ∈ os, o.k = 2) := by
      rcases c4 with rfl | ⟨o, rfl, h1, h2⟩
      · exact ⟨by simp, by simp⟩
      · exact ⟨by simpa using h2, by simpa using h1⟩
    have hp0 : ∀ l : List Ou, (∀ o ∈ l, o.k = 2) → pings l = 0 := fun l h => by
      unfold pings
      rw [List.length_eq_zero_iff, List.filter_eq_nil_iff]
      intro o ho
      rw [h o ho]
      decide
    split
    · refine ⟨c1, hos.1, ?_, fun k o ho hk => ?_⟩
      · show p2.seq = _
        rw [hp0 os hos.2, c2]; simp
      · have := hos.2 o (List.mem_of_getElem? ho)
        omega
    · split
      · rename_i n hd
        obtain ⟨d1, d2, d3, d4, m, d5, d6, d7⟩ := others_mem (z := p.me) b2 (drawn_mem hd)
        rw [c3] at d3
        refine ⟨fun _ => ?_, fun o ho => ?_, ?_, fun k o ho hk => ?_⟩
        · show n ≠ p2.me
          rw [c3]; exact d3
        · rcases List.mem_append.1 ho with ho | ho
          · exact hos.1 o ho
          · simp at ho
            subst ho
            exact ⟨d1, d2, ⟨m, d5, d7⟩, d3, c3, d3, (fun h => by cases h), fun _ => rfl⟩
        · show p2.seq + 1 = _
          unfold pings
          rw [List.filter_append, List.length_append]
          have := hp0 os hos.2
          unfold pings at this
          rw [this, c2]
          simp
        · by_cases hlt : k < os.length
          · rw [List.getElem?_append_left hlt] at ho
            have := hos.2 o (List.mem_of_getElem? ho)
            omega
          · rw [List.getElem?_append_right (by omega)] at ho
            have hk0 : k - os.length = 0 := by
              have := (List.getElem?_eq_some_iff.1 ho).1
              simp at this
              omega
            rw [hk0] at ho
            simp at ho
            subst ho
            have hkk : k = os.length := by
              omega
            subst hkk
            rw [List.take_left, hp0 os hos.2, c2]
            simp
      · refine ⟨c1, hos.1, ?_, fun k o ho hk => ?_⟩
        · show p2.seq = _
          rw [hp0 os hos.2, c2]; simp
        · have := hos.2 o (List.mem_of_getElem? ho)
          omega
  · exact ⟨hn, by simp, by simp [pings], by simp⟩
theorem ack_nd {p : Pb} (h : NdOk p) (about seq : Int) : NdOk (ack p about seq).2 := by
  unfold ack
  split
  · intro h; cases h
  · exact h
theorem watch_nd {p : Pb} (h : NdOk p) (m : M) (now : Int) : NdOk (watch p m now) := by
  have hs := watch_same p m now
  intro ho
  rw [hs.nd, hs.me]
  exact h (by rw [← hs.op]; exact ho)
theorem pings_take {l : List Ou} {k : Nat} {o : Ou} (h : l[k]? = some o) : pings (l.take (k + 1)) = pings (l.take k) + (if o.k = 0 then 1 else 0) := by
  unfold pings
  rw [List.take_add_one, h]
  simp only [Option.toList_some, List.filter_append, List.length_append]
  by_cases hk : o.k = 0
  · simp [hk]
  · simp [hk]
end Go.Proofs.Ytnlpgjdgiappcaa.Pl
