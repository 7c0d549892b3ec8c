/- WORDS: acts that came in. -/
import Derived.Test.YtnlpgjdgiappcaaQ1
import Derived.Test.YtnlpgjdgiappcaaMbOpen
import Derived.Test.YtnlpgjdgiappcaaPbPure4
namespace Go.Proofs.Ytnlpgjdgiappcaa
set_option linter.unusedVariables false
set_option linter.unusedSimpArgs false
open Go.ChangeShapes Go.WideShapes Go.ChangeAt Go.RowKit Go.Joins Go.Deep

theorem rflat_length {α : Type} (f : α → List Value) (k : Nat) (hf : ∀ a, (f a).length = k) (l : List α) : (l.flatMap f).length = l.length * k := by
  induction l with
  | nil => simp
  | cons a r ih => simp [ih, hf, Nat.add_mul]; omega
theorem rflat_get {α : Type} (f : α → List Value) (k : Nat) (hf : ∀ a, (f a).length = k) (l : List α) : ∀ (i q : Nat) (a : α), l[i]? = some a → q < k → (l.flatMap f)[i * k + q]? = (f a)[q]? := by
  induction l with
  | nil => intro i q a h; simp at h
  | cons b r ih =>
    intro i q a h hq
    cases i with
    | zero =>
      simp at h; subst h
      rw [Nat.zero_mul, Nat.zero_add, List.flatMap_cons, List.getElem?_append_left (by rw [hf]; exact hq)]
    | succ i =>
      simp only [List.getElem?_cons_succ] at h
      rw [List.flatMap_cons, List.getElem?_append_right (by rw [hf, Nat.add_mul]; omega), hf, show (i + 1) * k + q - k = i * k + q by rw [Nat.add_mul]; omega]
      exact ih i q a h hq
section
variable {H : Type} {enc : TypeId × Value → H} {w : World} {base : Nat} {spare : Nat → Bool} {held : Bool}
set_option maxRecDepth 100000 in
/-- A slice that came in, of whatever elements. -/
theorem row_of {t e k : Nat} (ht : Try.prog.underlying t = some (.slice e)) (hk : Try.prog.cellsOf e = k) (k0 : 0 < k) {α : Type} (f : α → List Value) (Q : α → Prop) (hf : ∀ a, (f a).length = k)
    (helem : ∀ (n : Nat) (cs : List Value) (y : DataW H × List MemPlace), cs.length = k → DataW.trod enc Try.prog w base spare held n e cs = some y → ∃ a, cs = f a ∧ Q a)
    {fuel : Nat} {c : Value} {x : DataW H × List MemPlace} (h : DataW.trod enc Try.prog w base spare held fuel t [c] = some x) :
    ∃ (A : Option Addr) (cp : Nat) (l : List α), c = .slice A l.length cp ∧ Reads w (fun b => b < w.heap.size) k A l.length (l.flatMap f) ∧ (∀ a ∈ l, Q a) ∧ l.length ≤ cp ∧ cp ≤ maxLen ∧ (A = none → cp = 0) := by
  rcases open_slice ht h with ⟨hcs, hx⟩ | ⟨a, len, cap, m, n, D, Pp, hcs, hb, hl, hc, hm, hx, hi⟩
  · injection hcs with hcs
    subst hcs
    exact ⟨none, 0, [], rfl, Reads.nil _ _ _ _, by simp, Nat.le_refl _, Nat.zero_le _, fun _ => rfl⟩
  · injection hcs with hcs
    subst hcs
    have hlm : len ≤ m := by rw [hm]; split <;> omega
    have hel : ∀ i, i < len → ∃ x : α, Q x ∧ ∀ q, q < k → w.cell? ((a.add (i * k)).add q) = (f x)[q]? := by
      intro i hlt
      obtain ⟨cs, hcells, ht⟩ := hi i (by omega)
      rw [hk] at hcells
      obtain ⟨_, hlen, hat⟩ := World.cells?_some hcells
      obtain ⟨x, rfl, hq⟩ := helem n cs _ hlen ht
      exact ⟨x, hq, fun q hq => hat q hq⟩
    obtain ⟨l, hll, hlx⟩ := list_of (fun i x => Q x ∧ ∀ q, q < k → w.cell? ((a.add (i * k)).add q) = (f x)[q]?) len hel
    subst hll
    refine ⟨some a, cap, l, rfl, ⟨rflat_length f k hf l, fun hn => ?_⟩, fun m hm => ?_, hl, hc, fun h => by cases h⟩
    · have h0 := (hlx 0 _ (List.getElem?_eq_getElem hn)).2 0 k0
      obtain ⟨v0, hfl⟩ : ∃ v0, (f l[0])[0]? = some v0 := ⟨(f l[0])[0]'(by rw [hf]; exact k0), List.getElem?_eq_getElem _⟩
      rw [hfl, Nat.zero_mul] at h0
      have ha : a = ⟨a.block, a.off, none⟩ := by
        have := addr_some h0
        simpa [Addr.add] using this
      refine ⟨a.block, a.off, by rw [← ha], World.block_lt_of_cell? w a (by simpa [Addr.add] using h0), fun j u hu => ?_⟩
      obtain ⟨i, q, hi, hq, rfl⟩ : ∃ i q, i < l.length ∧ q < k ∧ j = i * k + q := by
        have := (List.getElem?_eq_some_iff.1 hu).1
        rw [rflat_length f k hf] at this
        exact ⟨j / k, j % k, (Nat.div_lt_iff_lt_mul k0).2 this, Nat.mod_lt _ k0, by rw [Nat.mul_comm]; exact (Nat.div_add_mod j k).symm⟩
      have h1 := (hlx i _ (List.getElem?_eq_getElem hi)).2 q hq
      rw [rflat_get f k hf l i q _ (List.getElem?_eq_getElem hi) hq] at hu
      rw [hu, ha, Addr.add_mid, Addr.add_mid, Nat.add_assoc] at h1
      exact h1
    · obtain ⟨i, hi⟩ := List.mem_iff_getElem?.1 hm
      exact (hlx i m hi).1
end


/-! ### acts -/
structure Ac.Ok (a : Ac) : Prop where
  k0 : 0 ≤ a.k
  k1 : a.k ≤ 255
  b0 : 0 ≤ a.b
  b1 : a.b ≤ 255
  d0 : 0 ≤ a.d
  d1 : a.d ≤ 4294967295
  m : Pl.MOk a.m
  s0 : -9223372036854775808 ≤ a.s
  s1 : a.s ≤ 9223372036854775807
def acl (a : Ac) : List Value := [.int .u8 a.k, .int .u8 a.b, .int .u32 a.d, .int .u16 a.m.n, .int .u8 a.m.s, .int .i64 a.m.i, .int .i64 a.s]
def acs (l : List Ac) : List Value := l.flatMap acl
section
variable {H : Type} {enc : TypeId × Value → H} {w : World} {base : Nat} {spare : Nat → Bool} {held : Bool}
theorem und75 : Try.prog.underlying 75 = some (.slice 85) := by kernel_rfl
theorem cells85 : Try.prog.cellsOf 85 = 7 := by kernel_rfl
theorem cells5 : Try.prog.cellsOf 5 = 1 := by kernel_rfl
theorem cells64 : Try.prog.cellsOf 64 = 1 := by kernel_rfl
set_option maxRecDepth 100000 in
theorem act_of {n : Nat} {cs : List Value} {y : DataW H × List MemPlace} (hl : cs.length = 7) (ht : DataW.trod enc Try.prog w base spare held n 85 cs = some y) : ∃ a : Ac, cs = acl a ∧ a.Ok := by
  obtain ⟨ys, n', _, hy, hyl, _, hfld⟩ := DataW.trod_struct Try.underlying85 ht
  obtain ⟨c0, c1, c2, c3, c4, c5, c6, rfl⟩ : ∃ c0 c1 c2 c3 c4 c5 c6, cs = [c0, c1, c2, c3, c4, c5, c6] := by
    match cs, hl with
    | [c0, c1, c2, c3, c4, c5, c6], _ => exact ⟨c0, c1, c2, c3, c4, c5, c6, rfl⟩
  obtain ⟨y0, y1, y2, y3, y4, rfl⟩ : ∃ y0 y1 y2 y3 y4, ys = [y0, y1, y2, y3, y4] := by
    match ys, hyl with
    | [y0, y1, y2, y3, y4], _ => exact ⟨y0, y1, y2, y3, y4, rfl⟩
  have g0 := hfld 0 _ rfl
  have g1 := hfld 1 _ rfl
  have g2 := hfld 2 _ rfl
  have g3 := hfld 3 _ rfl
  have g4 := hfld 4 _ rfl
  have h0 : DataW.trod enc Try.prog w base spare held n' 5 [c0] = some y0 := by
    have : DataW.trod enc Try.prog w base spare held n' 5 (List.take (Try.prog.cellsOf 5) [c0, c1, c2, c3, c4, c5, c6]) = some y0 := g0
    rwa [cells5] at this
  have h1 : DataW.trod enc Try.prog w base spare held n' 5 [c1] = some y1 := by
    have : DataW.trod enc Try.prog w base spare held n' 5 (List.take (Try.prog.cellsOf 5) [c1, c2, c3, c4, c5, c6]) = some y1 := g1
    rwa [cells5] at this
  have h2 : DataW.trod enc Try.prog w base spare held n' 64 [c2] = some y2 := by
    have : DataW.trod enc Try.prog w base spare held n' 64 (List.take (Try.prog.cellsOf 64) [c2, c3, c4, c5, c6]) = some y2 := g2
    rwa [cells64] at this
  have h3 : DataW.trod enc Try.prog w base spare held n' 25 [c3, c4, c5] = some y3 := by
    have : DataW.trod enc Try.prog w base spare held n' 25 (List.take (Try.prog.cellsOf 25) [c3, c4, c5, c6]) = some y3 := g3
    rwa [cells25] at this
  have h4 : DataW.trod enc Try.prog w base spare held n' 3 [c6] = some y4 := by
    have : DataW.trod enc Try.prog w base spare held n' 3 (List.take (Try.prog.cellsOf 3) [c6]) = some y4 := g4
    rwa [cells3] at this
  obtain ⟨a0, e0, _, w0⟩ := DataW.trod_int Try.underlying5 h0
  obtain ⟨a1, e1, _, w1⟩ := DataW.trod_int Try.underlying5 h1
  obtain ⟨a2, e2, _, w2⟩ := DataW.trod_int Try.underlying64 h2
  obtain ⟨a4, e4, _, w4⟩ := DataW.trod_int Try.underlying3 h4
  obtain ⟨ys, n'', _, hy, hyl, _, hfld⟩ := DataW.trod_struct Try.underlying25 h3
  obtain ⟨z0, z1, z2, rfl⟩ : ∃ y0 y1 y2, ys = [y0, y1, y2] := by
    match ys, hyl with
    | [y0, y1, y2], _ => exact ⟨y0, y1, y2, rfl⟩
  have g0 := hfld 0 _ rfl
  have g1 := hfld 1 _ rfl
  have g2 := hfld 2 _ rfl
  simp only [cells22, cells23, cells3, List.drop_zero, List.drop_succ_cons, List.take_succ_cons, List.take_zero, List.getElem?_cons_zero, List.getElem?_cons_succ] at g0 g1 g2
  obtain ⟨m, rfl, rfl, rfl, hm⟩ := mfields n'' g0 g1 g2
  simp only [List.cons.injEq, and_true] at e0 e1 e2 e4
  subst e0 e1 e2 e4
  have b0 := bounds_u8 w0
  have b1 := bounds_u8 w1
  have b2 := bounds_u32 w2
  have b4 := bounds_i64 w4
  exact ⟨⟨a0, a1, a2, m, a4⟩, rfl, b0.1, b0.2, b1.1, b1.2, b2.1, b2.2, hm, b4.1, b4.2⟩
set_option maxRecDepth 100000 in
/-- A row of acts that came in. -/
theorem open_acts {r : Reach} {b0 : Nat} {v : Value} {d : DataW H} {p : List MemPlace} (hv : Value.okWide Try.prog w r b0 75 v) (h : DataW.Trod enc Try.prog w base spare held 75 v d p) :
    ∃ A c l, v = .slice A l.length c ∧ Reads w (fun b => b < w.heap.size) 7 A l.length (acs l) ∧ ∀ a ∈ l, Ac.Ok a := by
  obtain ⟨a0, len, cap, rfl⟩ := okWide_slice und75 hv
  obtain ⟨fuel, hf⟩ := h
  obtain ⟨A, cp, l, e, R, o, _, _, _⟩ := row_of und75 cells85 (by decide) acl Ac.Ok (fun _ => rfl) (fun n cs y hl ht => act_of hl ht) hf
  exact ⟨A, cp, l, e, R, o⟩
end
/-- An act's cells, at its place. -/
theorem acs_at {w : World} {b o : Nat} {l : List Ac} (h : ∀ j u, (acs l)[j]? = some u → w.cell? ⟨b, o + j, none⟩ = some u) {i : Nat} {a : Ac} (ha : l[i]? = some a) :
    w.cell? ⟨b, o + i * 7, none⟩ = some (.int .u8 a.k) ∧ w.cell? ⟨b, o + i * 7 + 1, none⟩ = some (.int .u8 a.b) ∧ w.cell? ⟨b, o + i * 7 + 2, none⟩ = some (.int .u32 a.d) ∧ w.cell? ⟨b, o + i * 7 + 3, none⟩ = some (.int .u16 a.m.n) ∧ w.cell? ⟨b, o + i * 7 + 4, none⟩ = some (.int .u8 a.m.s) ∧ w.cell? ⟨b, o + i * 7 + 5, none⟩ = some (.int .i64 a.m.i) ∧ w.cell? ⟨b, o + i * 7 + 6, none⟩ = some (.int .i64 a.s) := by
  have q : ∀ j, j < 7 → ∀ u, (acl a)[j]? = some u → w.cell? ⟨b, o + i * 7 + j, none⟩ = some u := fun j hj u hu => by
    have := h (i * 7 + j) u ((rflat_get acl 7 (fun _ => rfl) l i j a ha hj).trans hu)
    rwa [← Nat.add_assoc] at this
  exact ⟨q 0 (by omega) _ rfl, q 1 (by omega) _ rfl, q 2 (by omega) _ rfl, q 3 (by omega) _ rfl, q 4 (by omega) _ rfl, q 5 (by omega) _ rfl, q 6 (by omega) _ rfl⟩
end Go.Proofs.Ytnlpgjdgiappcaa

/- PLAIN LAW: what goes out at a tick: questions with the next number (ProbeRises), to whom and about whom (ProbeOthers). -/
namespace Go.Proofs.Ytnlpgjdgiappcaa.Pl
set_option linter.unusedVariables false
set_option linter.unusedSimpArgs false

/-- How many of these ask. -/
def pings (l : List Ou) : Nat := (l.filter (fun o => decide (o.k = 0))).length
/-- Who may be asked, and about whom. -/
structure OutOk (z : Int) (f : Tab) (o : Ou) : Prop where
  t0 : 0 ≤ o.to_
  t1 : o.to_ < 64
  is : ∃ m, f o.to_.toNat = some m ∧ m.s ≠ 2
  ne : o.to_ ≠ z
  fr : o.fr = z
  ab : o.ab ≠ z
  ask : o.k = 2 → o.ab ≠ o.to_
  ping : o.k = 0 → o.ab = o.to_
/-- What is asked is not the asker. -/
def NdOk (p : Pb) : Prop := p.op = true → p.nd ≠ p.me
theorem bury_nd {now : Int} {p : Pb} {f : Tab} (hp : PbOk p) (hf : TOk p.me f) (h : NdOk p) : NdOk (bury now p f).1 := by
  obtain ⟨a1, a2, a3, a4⟩ := buryN_inv (now := now) hp hf 64
  rw [← bury_eq] at a3
  intro ho
  rw [a3.nd, a3.me]
  exact h (by rw [← a3.op]; exact ho)
theorem late_shape {now draw : Int} {p : Pb} {f : Tab} (hp : PbOk p) (hf : TOk p.me f) (hn : NdOk p) :
    NdOk (late now draw p f).1 ∧ (late now draw p f).1.seq = p.seq ∧ (late now draw p f).1.me = p.me ∧ ((late now draw p f).2.2.1 = [] ∨ ∃ o, (late now draw p f).2.2.1 = [o] ∧ o.k = 2 ∧ OutOk p.me (late now draw p f).2.1 o) := by
  unfold late
  split
  · exact ⟨hn, rfl, rfl, .inl rfl⟩
  · rename_i hop
    have hop' : p.op = true := by cases h : p.op <;> simp_all
    have hnd := hn hop'
    split
    · split
      · exact ⟨(fun h => by cases h), rfl, rfl, .inl rfl⟩
      · rename_i m hm
        have hs := watch_same { p with op := false } (((heard p.me f ⟨m.n, 1, m.i⟩) p.nd.toNat).getD ⟨0, 0, 0⟩) now
        exact ⟨(fun h => by rw [hs.op] at h; cases h), hs.seq, hs.me, .inl rfl⟩
    · split
      · split
        · rename_i n hd
          obtain ⟨c1, c2, c3, c4, m, c5, c6, c7⟩ := others_mem (z := p.me) hf (drawn_mem hd)
          exact ⟨fun _ => hnd, rfl, rfl, .inr ⟨_, rfl, rfl, ⟨c1, c2, ⟨m, c5, c7⟩, c3, rfl, hnd, fun _ e => c4 e.symm, fun h => by cases h⟩⟩⟩
        · exact ⟨fun _ => hnd, rfl, rfl, .inl rfl⟩
      · exact ⟨hn, rfl, rfl, .inl rfl⟩
theorem tick_shape {now draw : Int} {p : Pb} {f : Tab} (hp : PbOk p) (hf : TOk p.me f) (hn : NdOk p) :
    NdOk (tick now draw p f).1 ∧ (∀ o ∈ (tick now draw p f).2.2.1, OutOk p.me (tick now draw p f).2.1 o) ∧ (tick now draw p f).1.seq = p.seq + pings (tick now draw p f).2.2.1 ∧
      ∀ k o, (tick now draw p f).2.2.1[k]? = some o → o.k = 0 → o.sq = p.seq + pings ((tick now draw p f).2.2.1.take k) + 1 := by
  unfold tick
  split
  · obtain ⟨a1, a2, a3, a4⟩ := buryN_inv (now := now) hp hf 64
    have an := bury_nd (now := now) hp hf hn
    rw [← bury_eq] at a1 a2 a3 a4
    generalize bury now p f = X at *
    obtain ⟨p1, f1, nw⟩ := X
    simp only at a1 a2 a3 a4 an ⊢
    rw [← a3.me] at a2
    obtain ⟨b1, b2, _⟩ := late_inv (now := now) (draw := draw) a1 a2
    obtain ⟨c1, c2, c3, c4⟩ := late_shape (now := now) (draw := draw) a1 a2 an
    generalize late now draw p1 f1 = Y at *
    obtain ⟨p2, f2, os, mo⟩ := Y
    simp only at b1 b2 c1 c2 c3 c4 ⊢
    rw [a3.me] at b2 c3 c4
    rw [a3.seq] at c2
    have hos : (∀ o ∈ os, OutOk p.me f2 o) ∧ (∀ o ∈ os, o.k = 2) := by
      rcases c4 with rfl | ⟨o, rfl, h1, h2⟩
      · exact ⟨by simp, by simp⟩
      · exact ⟨by simpa using h2, by simpa using h1⟩
    have hp0 : ∀ l : List Ou, (∀ o ∈ l, o.k = 2) → pings l = 0 := fun l h => by
      unfold pings
      rw [List.length_eq_zero_iff, List.filter_eq_nil_iff]
      intro o ho
      rw [h o ho]
      decide
    split
    · refine ⟨c1, hos.1, ?_, fun k o ho hk => ?_⟩
      · show p2.seq = _
        rw [hp0 os hos.2, c2]; simp
      · have := hos.2 o (List.mem_of_getElem? ho)
        omega
    · split
      · rename_i n hd
        obtain ⟨d1, d2, d3, d4, m, d5, d6, d7⟩ := others_mem (z := p.me) b2 (drawn_mem hd)
        rw [c3] at d3
        refine ⟨fun _ => ?_, fun o ho => ?_, ?_, fun k o ho hk => ?_⟩
        · show n ≠ p2.me
          rw [c3]; exact d3
        · rcases List.mem_append.1 ho with ho | ho
          · exact hos.1 o ho
          · simp at ho
            subst ho
            exact ⟨d1, d2, ⟨m, d5, d7⟩, d3, c3, d3, (fun h => by cases h), fun _ => rfl⟩
        · show p2.seq + 1 = _
          unfold pings
          rw [List.filter_append, List.length_append]
          have := hp0 os hos.2
          unfold pings at this
          rw [this, c2]
          simp
        · by_cases hlt : k < os.length
          · rw [List.getElem?_append_left hlt] at ho
            have := hos.2 o (List.mem_of_getElem? ho)
            omega
          · rw [List.getElem?_append_right (by omega)] at ho
            have hk0 : k - os.length = 0 := by
              have := (List.getElem?_eq_some_iff.1 ho).1
              simp at this
              omega
            rw [hk0] at ho
            simp at ho
            subst ho
            have hkk : k = os.length := by
              omega
            subst hkk
            rw [List.take_left, hp0 os hos.2, c2]
            simp
      · refine ⟨c1, hos.1, ?_, fun k o ho hk => ?_⟩
        · show p2.seq = _
          rw [hp0 os hos.2, c2]; simp
        · have := hos.2 o (List.mem_of_getElem? ho)
          omega
  · exact ⟨hn, by simp, by simp [pings], by simp⟩
theorem ack_nd {p : Pb} (h : NdOk p) (about seq : Int) : NdOk (ack p about seq).2 := by
  unfold ack
  split
  · intro h; cases h
  · exact h
theorem watch_nd {p : Pb} (h : NdOk p) (m : M) (now : Int) : NdOk (watch p m now) := by
  have hs := watch_same p m now
  intro ho
  rw [hs.nd, hs.me]
  exact h (by rw [← hs.op]; exact ho)
theorem pings_take {l : List Ou} {k : Nat} {o : Ou} (h : l[k]? = some o) : pings (l.take (k + 1)) = pings (l.take k) + (if o.k = 0 then 1 else 0) := by
  unfold pings
  rw [List.take_add_one, h]
  simp only [Option.toList_some, List.filter_append, List.length_append]
  by_cases hk : o.k = 0
  · simp [hk]
  · simp [hk]
end Go.Proofs.Ytnlpgjdgiappcaa.Pl

/- WORDS: the world of a probe goes on. -/
namespace Go.Proofs.Ytnlpgjdgiappcaa
set_option linter.unusedVariables false
set_option linter.unusedSimpArgs false
open Go.RowKit

section
variable {w w' : World} {g gp gt : Nat} {p p' : Pl.Pb} {F F' : Pl.Tab} {r : Pl.Rp} {A : Option Addr} {cA : Nat} {z : Int} {G : Pl.Tab} {B : Option Addr} {cB : Nat} {now : Int}
theorem WS.drew (H : WS w g gp gt p F r A cA z G B cB now) : WS w.drew g gp gt p F r A cA z G B cB now := ⟨H.blk, H.pb, H.tb, H.rw_, H.gl, H.ne1, H.ne2, H.ne3⟩
theorem WS.ticked (H : WS w g gp gt p F r A cA z G B cB now) (hg : Grow2 w w' gp gt) (hP : IsPb w' gp p') (hme : p'.me = p.me) (hT : IsT w' gt p.me F') : WS w' g gp gt p' F' r A cA z G B cB now :=
  ⟨(hg.block g H.blk.lt H.ne1 H.ne2).trans H.blk, hP, by rw [hme]; exact hT,
    ((H.rw_.there (by omega)).keep (fun b hb => hg.block b hb.2 hb.1.2.1 hb.1.2.2)).imp (fun b hb => hb.1),
    ((H.gl.there (by omega)).keep (fun b hb => hg.block b hb.2 hb.1.2.1 hb.1.2.2)).imp (fun b hb => hb.1), H.ne1, H.ne2, H.ne3⟩
theorem WS.below (H : WS w g gp gt p F r A cA z G B cB now) (hb : Below w.heap.size w w') : WS w' g gp gt p F r A cA z G B cB now :=
  H.ticked (.of_below hb) (H.pb.below hb H.pb.lt) rfl (H.tb.below hb H.tb.lt)
theorem WS.setNow (H : WS w g gp gt p F r A cA z G B cB now) (n : Int) : WS (w.setCell ⟨g, 14, none⟩ (.int .i64 n)) g gp gt p F r A cA z G B cB n := by
  have hb : ∀ b, b ≠ g → (w.setCell ⟨g, 14, none⟩ (.int .i64 n)).heap[b]? = w.heap[b]? := fun b hne => Below.heap_setCell _ ⟨g, 14, none⟩ _ b hne
  refine ⟨?_, (hb gp (fun e => H.ne1 e.symm)).trans H.pb, (hb gt (fun e => H.ne2 e.symm)).trans H.tb, H.rw_.keep (fun b h => hb b h.1), H.gl.keep (fun b h => hb b h.1), H.ne1, H.ne2, H.ne3⟩
  have := H.blk.set_ 14 (.int .i64 n)
  unfold wcells at this ⊢
  simpa only [List.setIfInBounds_toArray, List.set_cons_succ, List.set_cons_zero] using this
end
theorem asked_shape (p : Pl.Pb) : ∃ an as_, askedVal p = .tuple #[.int .u16 an, .int .i64 as_, .bool p.op] ∧ (p.op = true → an = p.nd ∧ as_ = p.seq) := by
  unfold askedVal
  by_cases h : p.op = true
  · rw [if_pos h, h]; exact ⟨_, _, rfl, fun _ => ⟨rfl, rfl⟩⟩
  · rw [if_neg h]
    have : p.op = false := by simpa using h
    rw [this]
    exact ⟨_, _, rfl, fun h => by cases h⟩
/-- What stands at the j-th act. -/
def RI (w0 W : World) (g gp gt j : Nat) (z la : Int) : Prop :=
  ∃ p F r A cA G B cB now, WS W g gp gt p F r A cA z G B cB now ∧ Pl.PbOk p ∧ p.me = z ∧ Pl.TOk z F ∧ Pl.TOk z G ∧ p.seq = la ∧ 0 ≤ la ∧ la ≤ j ∧ 0 ≤ now ∧ now ≤ 64 * (j : Int) ∧ r.w.length ≤ j ∧ Pl.NdOk p ∧ Below w0.heap.size w0 W
theorem watch_seq (p : Pl.Pb) (m : Pl.M) (now : Int) : (Pl.watch p m now).seq = p.seq := (Pl.watch_same p m now).seq
theorem rack_len (r : Pl.Rp) (a s : Int) : (Pl.rack r a s).2.w.length = r.w.length := by rw [rack_w]
set_option maxHeartbeats 1000000 in
/-- An act of kind 2, 3 or 4, by World.do. -/
theorem do_step (w0 W : World) (g gp gt j : Nat) (z la : Int) (a : Ac) (H : RI w0 W g gp gt j z la) (hj : j ≤ 200) (ha : a.Ok) (hk : a.k.tmod 5 = 2 ∨ a.k.tmod 5 = 3 ∨ a.k.tmod 5 = 4) (hg : w0.heap.size ≤ g) (hgp : w0.heap.size ≤ gp) (hgt : w0.heap.size ≤ gt) :
    Calls Try.prog 39 #[.pointer (some ⟨g, 0, none⟩), .agg (acells a)] W fun e w' => (∃ b, e = .returned (.bool b)) ∧ RI w0 w' g gp gt (j + 1) z la := by
  obtain ⟨p, F, r, A, cA, G, B, cB, now, HW, hO, hme, hF, hG, hs, hl0, hl1, hn0, hn1, hlen, hnd, hK⟩ := H
  have hsz := hK.size
  rcases hk with hk | hk | hk
  · refine (do_ack g gp gt p F r A cA z G B cB now a W w0.heap.size hsz hg hgp hgt HW hk).mono ?_
    rintro e w' ⟨b, he, _, hb, hW⟩
    obtain ⟨i1, i2, i3⟩ := Pl.ack_inv hO a.m.n a.s
    exact ⟨⟨b, he⟩, _, _, _, _, _, _, _, _, _, hW, i1, by rw [i2, hme], hF, hG, by rw [i3, hs], hl0, by omega, hn0, by omega, by rw [rack_len]; omega, Pl.ack_nd hnd _ _, hK.trans hb⟩
  · refine (do_watch g gp gt p F r A cA z G B cB now a W w0.heap.size hsz hg hgp hgt HW hk ha.m (by omega)).mono ?_
    rintro e w' ⟨he, hb, A', cA', hW⟩
    have := Pl.rwatch_len r a.m now
    exact ⟨⟨true, he⟩, _, _, _, _, _, _, _, _, _, hW, Pl.watch_ok hO _ _, by rw [watch_me, hme], hF, hG, by rw [watch_seq, hs], hl0, by omega, hn0, by omega, by omega, Pl.watch_nd hnd _ _, hK.trans hb⟩
  · refine (do_hear g gp gt p F r A cA z G B cB now a W w0.heap.size hsz hg hgp hgt HW hk ha.m hG).mono ?_
    rintro e w' ⟨he, hb, B', cB', hW⟩
    exact ⟨⟨true, he⟩, _, _, _, _, _, _, _, _, _, hW, hO, hme, by rw [hme]; exact Pl.heard_ok hF ha.m, Pl.heard_ok hG ha.m, hs, hl0, by omega, hn0, by omega, by omega, hnd, hK.trans hb⟩
end Go.Proofs.Ytnlpgjdgiappcaa
