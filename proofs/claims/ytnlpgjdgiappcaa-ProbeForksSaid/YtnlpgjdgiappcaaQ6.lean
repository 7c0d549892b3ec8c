/- WALK: the document's Tick. -/
import Derived.Test.YtnlpgjdgiappcaaQ5
import Derived.Laws.OwnMore
namespace Go.Proofs.Ytnlpgjdgiappcaa
set_option linter.unusedVariables false
set_option linter.unusedSimpArgs false
open Go.RowKit

/-! ### append of a whole slice onto a row of the call's own (as seat rx has it) -/
section
variable {P : Program} {ops : Array Oper} {rest : List Oper} {o : Oper} {a : Act} {Q : Exit → Act → World → Prop}
theorem wp_app_reads {K : Act → World → Prop} {W : World} (base : Nat) (s x : Operand) (t e : TypeId) (z : Value) (size bytes : Nat)
    (ho : o.op = .call { callee := .builtin .append, args := #[s, x], argTypes := #[t, t] })
    (ht : P.underlying t = some (.slice e)) (hinfo : (P.info? e).map (fun i => (i.zero, i.size, i.bytes)) = some (some z, size, bytes)) (hz : z.cells.size = size) (hsz : 0 < size)
    (v : Value) (n : Nat) (xs : List Value) (hs : a.eval s = v) (S : Nat → Prop) (A : Option Addr) (m c : Nat) (news : List Value) (hx : a.eval x = .slice A m c) (hR : Reads W S size A m news) (h1 : ∀ u ∈ news, u.oneCell' = true)
    (HO : W.ownsRow base e size v n xs) (hbase : base ≤ W.heap.size) (hn : n + m ≤ 4294967296) (hl : (n + m) * bytes ≤ 140737488355328)
    (h : ∀ v1 w1, w1.ownsRow base e size v1 (n + m) (xs ++ news) → W.grownBy w1 v.ownBlock → (v1.ownBlock = v.ownBlock ∨ ∃ b, v1.ownBlock = some b ∧ W.heap.size ≤ b) → K (a.put o.dst v1) w1) :
    Oper.wp P o a W K Q := by
  obtain ⟨i0, hi, hzz⟩ := Option.map_eq_some_iff.1 hinfo
  simp only [Prod.mk.injEq] at hzz
  obtain ⟨hz0, hz1, hz2⟩ := hzz
  cases A with
  | some ad =>
    have hnews : ∀ j u, news[j]? = some u → W.cell? (ad.add j) = some u := by
      intro j u hu
      have hm : 0 < m := by
        rcases Nat.eq_zero_or_pos m with h0 | h0
        · have := hR.1
          rw [h0, Nat.zero_mul] at this
          have := (List.getElem?_eq_some_iff.1 hu).1
          omega
        · exact h0
      obtain ⟨b, off, e1, _, hc⟩ := hR.2 hm
      injection e1 with e1
      subst e1
      rw [Addr.add_mid]
      exact hc j u hu
    obtain ⟨v', w', hr, h2, h3, h4, h5⟩ := run_append_own_at (P := P) W base t o.type e i0 z size bytes ht hi hz0 hz1 hz2 hz hsz v n xs HO ad m c news hR.1 hnews h1 (by simp only [maxLen]; omega) hl hbase
    unfold Oper.wp execOp
    simp only [ho, resolve, invoke, builtin, Sem.run_bind, Sem.run_pure, Result.andThen_ok, List.map_toArray, List.map_cons, List.map_nil, hs, hx, hr]
    refine h _ _ h2 h3 ?_
    rcases h5 with hat | hat
    · exact .inl hat
    · exact .inr ⟨_, hat, Nat.le_refl _⟩
  | none =>
    have hm : m = 0 := by
      rcases Nat.eq_zero_or_pos m with h0 | h0
      · exact h0
      · obtain ⟨_, _, e1, _⟩ := hR.2 h0
        cases e1
    subst hm
    have hnil : news = [] := List.eq_nil_of_length_eq_zero (by rw [hR.1, Nat.zero_mul])
    subst hnil
    have hr : (Builtin.append_ #[t, t] o.type #[v, .slice none 0 c]).run P W = .ok v W := by
      rcases HO.2 with ⟨rfl, rfl⟩ | ⟨g, cap, cur, rfl, _, _, hnc, _⟩
      · simp [Builtin.append_, run_underlying ht, sizeOf, typeInfo, hi, Builtin.lenOf, Builtin.firstCells]
      · simp [Builtin.append_, run_underlying ht, sizeOf, typeInfo, hi, Builtin.lenOf, Builtin.firstCells, hnc, storeCells]
    unfold Oper.wp execOp
    simp only [ho, resolve, invoke, builtin, Sem.run_bind, Sem.run_pure, Result.andThen_ok, List.map_toArray, List.map_cons, List.map_nil, hs, hx, hr]
    refine h v W ?_ ⟨rfl, rfl, rfl, Nat.le_refl _, fun _ _ _ => rfl⟩ (.inl rfl)
    rw [List.append_nil]
    exact HO
theorem app_reads {W : World} (base : Nat) (hgd : o.guard = none) (s x : Operand) (t e : TypeId) (z : Value) (size bytes : Nat)
    (ho : o.op = .call { callee := .builtin .append, args := #[s, x], argTypes := #[t, t] })
    (ht : P.underlying t = some (.slice e)) (hinfo : (P.info? e).map (fun i => (i.zero, i.size, i.bytes)) = some (some z, size, bytes)) (hz : z.cells.size = size) (hsz : 0 < size)
    (v : Value) (n : Nat) (xs : List Value) (hs : a.eval s = v) (S : Nat → Prop) (A : Option Addr) (m c : Nat) (news : List Value) (hx : a.eval x = .slice A m c) (hR : Reads W S size A m news) (h1 : ∀ u ∈ news, u.oneCell' = true)
    (HO : W.ownsRow base e size v n xs) (hbase : base ≤ W.heap.size) (hn : n + m ≤ 4294967296) (hl : (n + m) * bytes ≤ 140737488355328)
    (h : ∀ v1 w1, w1.ownsRow base e size v1 (n + m) (xs ++ news) → W.grownBy w1 v.ownBlock → (v1.ownBlock = v.ownBlock ∨ ∃ b, v1.ownBlock = some b ∧ W.heap.size ≤ b) → wpList P ops Q rest (a.put o.dst v1) w1) :
    wpList P ops Q (o :: rest) a W :=
  wpList_plain hgd fun K hK => wp_app_reads base s x t e z size bytes ho ht hinfo hz hsz v n xs hs S A m c news hx hR h1 HO hbase hn hl fun v1 w1 h2 h3 h4 => hK _ _ (h v1 w1 h2 h3 h4)
end

theorem rwatch_same (r : Pl.Rp) (m : Pl.M) (now : Int) : (Pl.rwatch r m now).me = r.me ∧ (Pl.rwatch r m now).per = r.per ∧ (Pl.rwatch r m now).seq = r.seq := by
  unfold Pl.rwatch
  split
  · split <;> exact ⟨rfl, rfl, rfl⟩
  · exact ⟨rfl, rfl, rfl⟩
theorem ropen_same (now draw : Int) (r : Pl.Rp) (f : Pl.Tab) : (Pl.ropen now draw r f).1.me = r.me ∧ (Pl.ropen now draw r f).1.per = r.per ∧ (Pl.ropen now draw r f).1.seq = r.seq ∧ (Pl.ropen now draw r f).2.2.1.length ≤ 1 ∧ (Pl.ropen now draw r f).2.2.2.length ≤ 1 := by
  unfold Pl.ropen
  split
  · exact ⟨rfl, rfl, rfl, by simp, by simp⟩
  · split
    · split
      · exact ⟨rfl, rfl, rfl, by simp, by simp⟩
      · rename_i m hm
        obtain ⟨h1, h2, h3⟩ := rwatch_same { r with op := false } (((Pl.heard r.me f ⟨m.n, 1, m.i⟩) r.nd.toNat).getD ⟨0, 0, 0⟩) now
        exact ⟨h1, h2, h3, by simp, by cases Pl.hear r.me f ⟨m.n, 1, m.i⟩ <;> simp⟩
    · split
      · split <;> exact ⟨rfl, rfl, rfl, by simp, by simp⟩
      · exact ⟨rfl, rfl, rfl, by simp, by simp⟩
/-- Whom the question goes to. -/
def pingR (y : Pl.Rp × Pl.Tab × List Pl.Ou × List Pl.M) (now : Int) (ns : List Pl.M) : Option Int → Pl.Rp × Pl.Tab × List Pl.Ou × List Pl.M
  | some n => ({ y.1 with seq := y.1.seq + 1, op := true, hlp := false, at_ := now, nd := n, nxt := now + y.1.per }, y.2.1, y.2.2.1 ++ [⟨n, 0, y.1.me, n, y.1.seq + 1⟩], ns ++ y.2.2.2)
  | none => (y.1, y.2.1, y.2.2.1, ns ++ y.2.2.2)
theorem rows_one (l : List Pl.M) : ∀ u ∈ rows l, u.oneCell' = true := by
  intro u hu
  simp only [rows, List.mem_flatMap] at hu
  obtain ⟨m, _, hm⟩ := hu
  simp [row3] at hm
  rcases hm with rfl | rfl | rfl <;> rfl
/-- What Tick leaves. -/
structure TkEnd (w : World) (S : Nat → Prop) (f0 : Int) (R : Pl.Rp × Pl.Tab × List Pl.Ou × List Pl.M) (e : Ending) (w' : World) : Prop where
  e : ∃ A' c' B' d' vo vn, e = .returned (.tuple #[.agg (rpc R.1 A' R.1.w.length c'), .agg #[.int .u16 f0, .slice B' (Pl.listT R.2.1).length d'], vo, vn]) ∧
    ReadsWt w' S A' R.1.w ∧ ReadsM w' S B' (Pl.listT R.2.1) ∧ w'.ownsRow w.heap.size 135 7 vo R.2.2.1.length (outs R.2.2.1) ∧ w'.ownsRow w.heap.size 25 3 vn R.2.2.2.length (rows R.2.2.2)
  b : Below w.heap.size w w'
theorem out135 : (Try.prog.info? 135).map (fun i => (i.zero, i.size, i.bytes)) = some (some (.agg #[.int .u16 0, .int .u8 0, .int .u16 0, .int .u16 0, .int .i64 0, .slice none 0 0, .slice none 0 0]), 7, 72) := by kernel_rfl
theorem und122 : Try.prog.underlying 122 = some (.slice 135) := by kernel_rfl
theorem tick_ret {R : Ending → World → Prop} {a : Act} {W : World} {g2 g3 : Nat} {vo vn x0 x1 x2 x3 x4 x5 x6 x7 x8 x9 z0 z1 : Value} (h8 : a.tmps[8]?.getD undef = .pointer (some ⟨g2, 0, none⟩)) (h9 : a.tmps[9]?.getD undef = .pointer (some ⟨g3, 0, none⟩)) (h10 : a.tmps[10]?.getD undef = vo) (h11 : a.tmps[11]?.getD undef = vn) (hd : a.defers = [])
    (hb2 : Blk W g2 81 #[x0, x1, x2, x3, x4, x5, x6, x7, x8, x9]) (hb3 : Blk W g3 46 #[z0, z1]) (h : R (.returned (.tuple #[.agg #[x0, x1, x2, x3, x4, x5, x6, x7, x8, x9], .agg #[z0, z1], vo, vn])) W) : bodyPost Try.prog Try.f60 R .ret a W := by
  have s0 := hb2.cell 0
  have s1 := hb2.cell 1
  have s2 := hb2.cell 2
  have s3 := hb2.cell 3
  have s4 := hb2.cell 4
  have s5 := hb2.cell 5
  have s6 := hb2.cell 6
  have s7 := hb2.cell 7
  have s8 := hb2.cell 8
  have s9 := hb2.cell 9
  have q0 := hb3.cell 0
  have q1 := hb3.cell 1
  simp only [List.getElem?_toArray, List.getElem?_cons_zero, List.getElem?_cons_succ] at s0 s1 s2 s3 s4 s5 s6 s7 s8 s9 q0 q1
  exact bodyPost_ret (v := .tuple #[.agg #[x0, x1, x2, x3, x4, x5, x6, x7, x8, x9], .agg #[z0, z1], vo, vn]) (by simp [results, Try.results60, go_sem, h8, h9, h10, h11, s0, s1, s2, s3, s4, s5, s6, s7, s8, s9, q0, q1]) hd h
set_option maxRecDepth 100000 in
set_option maxHeartbeats 8000000 in
theorem tick_no (f0 f1 f2 f3 f4 f7 f8 : Int) (f5 f6 : Bool) (A : Option Addr) (c : Nat) (L : List Pl.Wt) (B : Option Addr) (cB : Nat) (F : Pl.Tab) (now draw : Int) (w : World) (S : Nat → Prop) (hF : Pl.TOk f0 F) (hm : now < 0 ∨ 1099511627776 < now)
    (hR : ReadsWt w (fun b => S b ∧ b < w.heap.size) A L) (hB : ReadsM w (fun b => S b ∧ b < w.heap.size) B (Pl.listT F)) (hS : ∀ b, w.heap.size ≤ b → S b) :
    Calls Try.prog 60 #[.agg #[.int .u16 f0, .int .i64 f1, .int .i64 f2, .int .i64 f3, .int .i64 f4, .bool f5, .bool f6, .int .u16 f7, .int .i64 f8, .slice A L.length c], .int .i64 now, .int .u32 draw, .agg #[.int .u16 f0, .slice B (Pl.listT F).length cB]] w fun e w' => TkEnd w S f0 (⟨f0, f1, f2, f3, f4, f5, f6, f7, f8, L⟩, F, [], []) e w' := by
  have HA := Lib.hid hR
  have HB := Lib.hid hB
  have HS := Lib.hid hS
  have HF := Lib.hid hF
  obtain ⟨n, hn⟩ : ∃ n, L.length = n := ⟨_, rfl⟩
  obtain ⟨nB, hnB⟩ : ∃ n, (Pl.listT F).length = n := ⟨_, rfl⟩
  have HN := Lib.hid hn
  have HNB := Lib.hid hnB
  rw [HN.out, HNB.out]
  clear hR hB hS hF hn hnB
  have s1 : (w.alloc (.cells #[.int .u16 f0, .int .i64 f1, .int .i64 f2, .int .i64 f3, .int .i64 f4, .bool f5, .bool f6, .int .u16 f7, .int .i64 f8, .slice A n c] 81)).heap.size = w.heap.size + 1 := by simp
  have s2 : ((w.alloc (.cells #[.int .u16 f0, .int .i64 f1, .int .i64 f2, .int .i64 f3, .int .i64 f4, .bool f5, .bool f6, .int .u16 f7, .int .i64 f8, .slice A n c] 81)).alloc (.cells #[.int .u16 f0, .slice B nB cB] 46)).heap.size = w.heap.size + 1 + 1 := by simp
  have s3 : (((w.alloc (.cells #[.int .u16 f0, .int .i64 f1, .int .i64 f2, .int .i64 f3, .int .i64 f4, .bool f5, .bool f6, .int .u16 f7, .int .i64 f8, .slice A n c] 81)).alloc (.cells #[.int .u16 f0, .slice B nB cB] 46)).alloc (.cells #[.int .u16 0, .int .i64 0, .int .i64 0, .int .i64 0, .int .i64 0, .bool false, .bool false, .int .u16 0, .int .i64 0, .slice none 0 0] 81)).heap.size = w.heap.size + 1 + 1 + 1 := by simp
  have K0 := Lib.hid (((((Below.refl w.heap.size w).alloc (Nat.le_refl _) (.cells #[.int .u16 f0, .int .i64 f1, .int .i64 f2, .int .i64 f3, .int .i64 f4, .bool f5, .bool f6, .int .u16 f7, .int .i64 f8, .slice A n c] 81)).alloc (by rw [s1]; omega) (.cells #[.int .u16 f0, .slice B nB cB] 46)).alloc (by rw [s2]; omega) (.cells #[.int .u16 0, .int .i64 0, .int .i64 0, .int .i64 0, .int .i64 0, .bool false, .bool false, .int .u16 0, .int .i64 0, .slice none 0 0] 81)).alloc (by rw [s3]; omega) (.cells #[.int .u16 0, .slice none 0 0] 46))
  have BP0 : Hid (Blk ((((w.alloc (.cells #[.int .u16 f0, .int .i64 f1, .int .i64 f2, .int .i64 f3, .int .i64 f4, .bool f5, .bool f6, .int .u16 f7, .int .i64 f8, .slice A n c] 81)).alloc (.cells #[.int .u16 f0, .slice B nB cB] 46)).alloc (.cells #[.int .u16 0, .int .i64 0, .int .i64 0, .int .i64 0, .int .i64 0, .bool false, .bool false, .int .u16 0, .int .i64 0, .slice none 0 0] 81)).alloc (.cells #[.int .u16 0, .slice none 0 0] 46)) w.heap.size 81 #[.int .u16 f0, .int .i64 f1, .int .i64 f2, .int .i64 f3, .int .i64 f4, .bool f5, .bool f6, .int .u16 f7, .int .i64 f8, .slice A n c]) := Lib.hid ((((Blk.new w 81 #[.int .u16 f0, .int .i64 f1, .int .i64 f2, .int .i64 f3, .int .i64 f4, .bool f5, .bool f6, .int .u16 f7, .int .i64 f8, .slice A n c]).alloc (.cells #[.int .u16 f0, .slice B nB cB] 46)).alloc (.cells #[.int .u16 0, .int .i64 0, .int .i64 0, .int .i64 0, .int .i64 0, .bool false, .bool false, .int .u16 0, .int .i64 0, .slice none 0 0] 81)).alloc (.cells #[.int .u16 0, .slice none 0 0] 46))
  have BT0 : Hid (Blk ((((w.alloc (.cells #[.int .u16 f0, .int .i64 f1, .int .i64 f2, .int .i64 f3, .int .i64 f4, .bool f5, .bool f6, .int .u16 f7, .int .i64 f8, .slice A n c] 81)).alloc (.cells #[.int .u16 f0, .slice B nB cB] 46)).alloc (.cells #[.int .u16 0, .int .i64 0, .int .i64 0, .int .i64 0, .int .i64 0, .bool false, .bool false, .int .u16 0, .int .i64 0, .slice none 0 0] 81)).alloc (.cells #[.int .u16 0, .slice none 0 0] 46)) (w.heap.size + 1) 46 #[.int .u16 f0, .slice B nB cB]) := Lib.hid (((Blk.new_at' (w := (w.alloc (.cells #[.int .u16 f0, .int .i64 f1, .int .i64 f2, .int .i64 f3, .int .i64 f4, .bool f5, .bool f6, .int .u16 f7, .int .i64 f8, .slice A n c] 81))) (t := 46) (cs := #[.int .u16 f0, .slice B nB cB]) s1.symm).alloc (.cells #[.int .u16 0, .int .i64 0, .int .i64 0, .int .i64 0, .int .i64 0, .bool false, .bool false, .int .u16 0, .int .i64 0, .slice none 0 0] 81)).alloc (.cells #[.int .u16 0, .slice none 0 0] 46))
  have BZ0 : Hid (Blk ((((w.alloc (.cells #[.int .u16 f0, .int .i64 f1, .int .i64 f2, .int .i64 f3, .int .i64 f4, .bool f5, .bool f6, .int .u16 f7, .int .i64 f8, .slice A n c] 81)).alloc (.cells #[.int .u16 f0, .slice B nB cB] 46)).alloc (.cells #[.int .u16 0, .int .i64 0, .int .i64 0, .int .i64 0, .int .i64 0, .bool false, .bool false, .int .u16 0, .int .i64 0, .slice none 0 0] 81)).alloc (.cells #[.int .u16 0, .slice none 0 0] 46)) (w.heap.size + 1 + 1) 81 #[.int .u16 0, .int .i64 0, .int .i64 0, .int .i64 0, .int .i64 0, .bool false, .bool false, .int .u16 0, .int .i64 0, .slice none 0 0]) := Lib.hid ((Blk.new_at' (w := ((w.alloc (.cells #[.int .u16 f0, .int .i64 f1, .int .i64 f2, .int .i64 f3, .int .i64 f4, .bool f5, .bool f6, .int .u16 f7, .int .i64 f8, .slice A n c] 81)).alloc (.cells #[.int .u16 f0, .slice B nB cB] 46))) (t := 81) (cs := #[.int .u16 0, .int .i64 0, .int .i64 0, .int .i64 0, .int .i64 0, .bool false, .bool false, .int .u16 0, .int .i64 0, .slice none 0 0]) s2.symm).alloc (.cells #[.int .u16 0, .slice none 0 0] 46))
  have BY0 : Hid (Blk ((((w.alloc (.cells #[.int .u16 f0, .int .i64 f1, .int .i64 f2, .int .i64 f3, .int .i64 f4, .bool f5, .bool f6, .int .u16 f7, .int .i64 f8, .slice A n c] 81)).alloc (.cells #[.int .u16 f0, .slice B nB cB] 46)).alloc (.cells #[.int .u16 0, .int .i64 0, .int .i64 0, .int .i64 0, .int .i64 0, .bool false, .bool false, .int .u16 0, .int .i64 0, .slice none 0 0] 81)).alloc (.cells #[.int .u16 0, .slice none 0 0] 46)) (w.heap.size + 1 + 1 + 1) 46 #[.int .u16 0, .slice none 0 0]) := Lib.hid (Blk.new_at' (w := (((w.alloc (.cells #[.int .u16 f0, .int .i64 f1, .int .i64 f2, .int .i64 f3, .int .i64 f4, .bool f5, .bool f6, .int .u16 f7, .int .i64 f8, .slice A n c] 81)).alloc (.cells #[.int .u16 f0, .slice B nB cB] 46)).alloc (.cells #[.int .u16 0, .int .i64 0, .int .i64 0, .int .i64 0, .int .i64 0, .bool false, .bool false, .int .u16 0, .int .i64 0, .slice none 0 0] 81))) (t := 46) (cs := #[.int .u16 0, .slice none 0 0]) s3.symm)
  have RM0 : Hid (ReadsM ((((w.alloc (.cells #[.int .u16 f0, .int .i64 f1, .int .i64 f2, .int .i64 f3, .int .i64 f4, .bool f5, .bool f6, .int .u16 f7, .int .i64 f8, .slice A n c] 81)).alloc (.cells #[.int .u16 f0, .slice B nB cB] 46)).alloc (.cells #[.int .u16 0, .int .i64 0, .int .i64 0, .int .i64 0, .int .i64 0, .bool false, .bool false, .int .u16 0, .int .i64 0, .slice none 0 0] 81)).alloc (.cells #[.int .u16 0, .slice none 0 0] 46)) (fun b => S b ∧ b ≠ w.heap.size ∧ b ≠ w.heap.size + 1 ∧ b ≠ w.heap.size + 1 + 1 ∧ b ≠ w.heap.size + 1 + 1 + 1) B (Pl.listT F)) := Lib.hid ((HB.out.below (by omega) K0.out).imp (fun b hb => ⟨hb.1, by omega, by omega, by omega, by omega⟩))
  have RA0 : Hid (ReadsWt ((((w.alloc (.cells #[.int .u16 f0, .int .i64 f1, .int .i64 f2, .int .i64 f3, .int .i64 f4, .bool f5, .bool f6, .int .u16 f7, .int .i64 f8, .slice A n c] 81)).alloc (.cells #[.int .u16 f0, .slice B nB cB] 46)).alloc (.cells #[.int .u16 0, .int .i64 0, .int .i64 0, .int .i64 0, .int .i64 0, .bool false, .bool false, .int .u16 0, .int .i64 0, .slice none 0 0] 81)).alloc (.cells #[.int .u16 0, .slice none 0 0] 46)) (fun b => S b ∧ b ≠ w.heap.size ∧ b ≠ w.heap.size + 1 ∧ b ≠ w.heap.size + 1 + 1 ∧ b ≠ w.heap.size + 1 + 1 + 1) A L) := Lib.hid ((HA.out.below (by omega) K0.out).imp (fun b hb => ⟨hb.1, by omega, by omega, by omega, by omega⟩))
  have hs4 : ((((w.alloc (.cells #[.int .u16 f0, .int .i64 f1, .int .i64 f2, .int .i64 f3, .int .i64 f4, .bool f5, .bool f6, .int .u16 f7, .int .i64 f8, .slice A n c] 81)).alloc (.cells #[.int .u16 f0, .slice B nB cB] 46)).alloc (.cells #[.int .u16 0, .int .i64 0, .int .i64 0, .int .i64 0, .int .i64 0, .bool false, .bool false, .int .u16 0, .int .i64 0, .slice none 0 0] 81)).alloc (.cells #[.int .u16 0, .slice none 0 0] 46)).heap.size = w.heap.size + 1 + 1 + 1 + 1 := by rw [World.size_alloc, s3]
  clear s1 s2 s3
  go_enter Try.func60, Try.ntmps60
  go_upto_region 1 with fail
  generalize ((((w.alloc (.cells #[.int .u16 f0, .int .i64 f1, .int .i64 f2, .int .i64 f3, .int .i64 f4, .bool f5, .bool f6, .int .u16 f7, .int .i64 f8, .slice A n c] 81)).alloc (.cells #[.int .u16 f0, .slice B nB cB] 46)).alloc (.cells #[.int .u16 0, .int .i64 0, .int .i64 0, .int .i64 0, .int .i64 0, .bool false, .bool false, .int .u16 0, .int .i64 0, .slice none 0 0] 81)).alloc (.cells #[.int .u16 0, .slice none 0 0] 46)) = w0 at *
  have r0 := BP0.out.cell 0
  have r1 := BP0.out.cell 1
  have r2 := BP0.out.cell 2
  have r3 := BP0.out.cell 3
  have r4 := BP0.out.cell 4
  have r5 := BP0.out.cell 5
  have r6 := BP0.out.cell 6
  have r7 := BP0.out.cell 7
  have r8 := BP0.out.cell 8
  have r9 := BP0.out.cell 9
  have z0 := BZ0.out.cell 0
  have z1 := BZ0.out.cell 1
  have z2 := BZ0.out.cell 2
  have z3 := BZ0.out.cell 3
  have z4 := BZ0.out.cell 4
  have z5 := BZ0.out.cell 5
  have z6 := BZ0.out.cell 6
  have z7 := BZ0.out.cell 7
  have z8 := BZ0.out.cell 8
  have z9 := BZ0.out.cell 9
  have t0 := BT0.out.cell 0
  have t1 := BT0.out.cell 1
  have y0 := BY0.out.cell 0
  have y1 := BY0.out.cell 1
  have rf := BP0.out.frozen
  have tf := BT0.out.frozen
  have zf := BZ0.out.frozen
  have yf := BY0.out.frozen
  simp only [List.getElem?_toArray, List.getElem?_cons_zero, List.getElem?_cons_succ] at r0 z0 r1 z1 r2 z2 r3 z3 r4 z4 r5 z5 r6 z6 r7 z7 r8 z8 r9 z9 t0 t1 y0 y1
  have KEY : ∀ W : World, Grow2 w0 W (w.heap.size + 1 + 1) (w.heap.size + 1 + 1 + 1) → TkEnd w S f0 (⟨f0, f1, f2, f3, f4, f5, f6, f7, f8, L⟩, F, [], []) (.returned (.tuple #[.agg #[.int .u16 f0, .int .i64 f1, .int .i64 f2, .int .i64 f3, .int .i64 f4, .bool f5, .bool f6, .int .u16 f7, .int .i64 f8, .slice A n c], .agg #[.int .u16 f0, .slice B nB cB], .slice none 0 0, .slice none 0 0])) W := by
    intro W G
    exact ⟨⟨A, c, B, cB, _, _, (by simp only [rpc]; rw [HN.out, HNB.out]), ((RA0.out.there (by omega)).keep (fun b hb => G.block b hb.2 hb.1.2.2.2.1 hb.1.2.2.2.2)).imp (fun b hb => hb.1.1), ((Reads.there RM0.out (by omega)).keep (fun b hb => G.block b hb.2 hb.1.2.2.2.1 hb.1.2.2.2.2)).imp (fun b hb => hb.1.1), own_nil _ _ _ _, own_nil _ _ _ _⟩, K0.out.trans (below_of_grow2 G K0.out.size (by omega) (by omega))⟩
  have KEY2 := Lib.hid KEY
  clear KEY
  by_cases hn : now < 0
  · have h1 : decide (now < 0) = true := by simp; omega
    go_wp2
    go_region
    go_wp2
    refine tick_ret (g2 := w.heap.size + 1 + 1) (g3 := w.heap.size + 1 + 1 + 1) rfl rfl rfl rfl rfl (x0 := .int .u16 f0) (x1 := .int .i64 f1) (x2 := .int .i64 f2) (x3 := .int .i64 f3) (x4 := .int .i64 f4) (x5 := .bool f5) (x6 := .bool f6) (x7 := .int .u16 f7) (x8 := .int .i64 f8) (x9 := .slice A n c) (z0 := .int .u16 f0) (z1 := .slice B nB cB) ?_ ?_ ?_
    · (repeat (with_reducible first | exact BZ0.out | refine Blk.drew ?_ | apply Blk.mem10 | refine Blk.alloc ?_ _ | refine Blk.far ?_ ?_ _)) <;> (first | done | (dsimp only; omega))
    · (repeat (with_reducible first | exact BY0.out | refine Blk.drew ?_ | apply Blk.mem2 | refine Blk.alloc ?_ _ | refine Blk.far ?_ ?_ _)) <;> (first | done | (dsimp only; omega))
    · refine KEY2.out _ ?_
      (repeat (with_reducible first | exact Grow2.refl _ _ _ | refine Grow2.drew ?_ | refine Grow2.alloc ?_ _ | refine Grow2.setCell ?_ ?_ _)) <;> (first | done | exact .inl rfl | exact .inr (.inl rfl))
  · have h1 : decide (now < 0) = false := by simp; omega
    have h2 : decide (now > 1099511627776) = true := by simp; omega
    go_wp2
    go_region
    go_wp2
    refine tick_ret (g2 := w.heap.size + 1 + 1) (g3 := w.heap.size + 1 + 1 + 1) rfl rfl rfl rfl rfl (x0 := .int .u16 f0) (x1 := .int .i64 f1) (x2 := .int .i64 f2) (x3 := .int .i64 f3) (x4 := .int .i64 f4) (x5 := .bool f5) (x6 := .bool f6) (x7 := .int .u16 f7) (x8 := .int .i64 f8) (x9 := .slice A n c) (z0 := .int .u16 f0) (z1 := .slice B nB cB) ?_ ?_ ?_
    · (repeat (with_reducible first | exact BZ0.out | refine Blk.drew ?_ | apply Blk.mem10 | refine Blk.alloc ?_ _ | refine Blk.far ?_ ?_ _)) <;> (first | done | (dsimp only; omega))
    · (repeat (with_reducible first | exact BY0.out | refine Blk.drew ?_ | apply Blk.mem2 | refine Blk.alloc ?_ _ | refine Blk.far ?_ ?_ _)) <;> (first | done | (dsimp only; omega))
    · refine KEY2.out _ ?_
      (repeat (with_reducible first | exact Grow2.refl _ _ _ | refine Grow2.drew ?_ | refine Grow2.alloc ?_ _ | refine Grow2.setCell ?_ ?_ _)) <;> (first | done | exact .inl rfl | exact .inr (.inl rfl))
set_option maxRecDepth 100000 in
set_option maxHeartbeats 8000000 in
theorem tick_yes (f0 f1 f2 f3 f4 f7 f8 : Int) (f5 f6 : Bool) (A : Option Addr) (c : Nat) (L : List Pl.Wt) (B : Option Addr) (cB : Nat) (F : Pl.Tab) (now draw : Int) (w : World) (S : Nat → Prop) (hF : Pl.TOk f0 F) (h0 : 0 ≤ now) (h1 : now ≤ 1099511627776) (hp0 : 0 ≤ f1) (hp1 : f1 ≤ 1099511627776) (hx : ∀ x ∈ L, 0 ≤ x.n ∧ 0 ≤ x.f ∧ x.f ≤ 1099511627776) (hlen : L.length ≤ 100000) (ha0 : 0 ≤ f8) (ha1 : f8 ≤ 1099511627776) (h7 : 0 ≤ f7) (hd0 : 0 ≤ draw) (hd1 : draw ≤ 4294967295) (hs0 : 0 ≤ f4) (hs1 : f4 ≤ 1099511627776)
    (hR : ReadsWt w (fun b => S b ∧ b < w.heap.size) A L) (hB : ReadsM w (fun b => S b ∧ b < w.heap.size) B (Pl.listT F)) (hS : ∀ b, w.heap.size ≤ b → S b) :
    Calls Try.prog 60 #[.agg #[.int .u16 f0, .int .i64 f1, .int .i64 f2, .int .i64 f3, .int .i64 f4, .bool f5, .bool f6, .int .u16 f7, .int .i64 f8, .slice A L.length c], .int .i64 now, .int .u32 draw, .agg #[.int .u16 f0, .slice B (Pl.listT F).length cB]] w fun e w' => TkEnd w S f0 (Pl.rtick now draw ⟨f0, f1, f2, f3, f4, f5, f6, f7, f8, L⟩ F) e w' := by
  have HXL := Lib.hid hx
  have hlen0 := hlen
  clear hx hlen
  have HA := Lib.hid hR
  have HB := Lib.hid hB
  have HS := Lib.hid hS
  have HF := Lib.hid hF
  obtain ⟨n, hn⟩ : ∃ n, L.length = n := ⟨_, rfl⟩
  obtain ⟨nB, hnB⟩ : ∃ n, (Pl.listT F).length = n := ⟨_, rfl⟩
  have HN := Lib.hid hn
  have HNB := Lib.hid hnB
  rw [HN.out, HNB.out]
  clear hR hB hS hF hn hnB
  have s1 : (w.alloc (.cells #[.int .u16 f0, .int .i64 f1, .int .i64 f2, .int .i64 f3, .int .i64 f4, .bool f5, .bool f6, .int .u16 f7, .int .i64 f8, .slice A n c] 81)).heap.size = w.heap.size + 1 := by simp
  have s2 : ((w.alloc (.cells #[.int .u16 f0, .int .i64 f1, .int .i64 f2, .int .i64 f3, .int .i64 f4, .bool f5, .bool f6, .int .u16 f7, .int .i64 f8, .slice A n c] 81)).alloc (.cells #[.int .u16 f0, .slice B nB cB] 46)).heap.size = w.heap.size + 1 + 1 := by simp
  have s3 : (((w.alloc (.cells #[.int .u16 f0, .int .i64 f1, .int .i64 f2, .int .i64 f3, .int .i64 f4, .bool f5, .bool f6, .int .u16 f7, .int .i64 f8, .slice A n c] 81)).alloc (.cells #[.int .u16 f0, .slice B nB cB] 46)).alloc (.cells #[.int .u16 0, .int .i64 0, .int .i64 0, .int .i64 0, .int .i64 0, .bool false, .bool false, .int .u16 0, .int .i64 0, .slice none 0 0] 81)).heap.size = w.heap.size + 1 + 1 + 1 := by simp
  have K0 := Lib.hid (((((Below.refl w.heap.size w).alloc (Nat.le_refl _) (.cells #[.int .u16 f0, .int .i64 f1, .int .i64 f2, .int .i64 f3, .int .i64 f4, .bool f5, .bool f6, .int .u16 f7, .int .i64 f8, .slice A n c] 81)).alloc (by rw [s1]; omega) (.cells #[.int .u16 f0, .slice B nB cB] 46)).alloc (by rw [s2]; omega) (.cells #[.int .u16 0, .int .i64 0, .int .i64 0, .int .i64 0, .int .i64 0, .bool false, .bool false, .int .u16 0, .int .i64 0, .slice none 0 0] 81)).alloc (by rw [s3]; omega) (.cells #[.int .u16 0, .slice none 0 0] 46))
  have BP0 : Hid (Blk ((((w.alloc (.cells #[.int .u16 f0, .int .i64 f1, .int .i64 f2, .int .i64 f3, .int .i64 f4, .bool f5, .bool f6, .int .u16 f7, .int .i64 f8, .slice A n c] 81)).alloc (.cells #[.int .u16 f0, .slice B nB cB] 46)).alloc (.cells #[.int .u16 0, .int .i64 0, .int .i64 0, .int .i64 0, .int .i64 0, .bool false, .bool false, .int .u16 0, .int .i64 0, .slice none 0 0] 81)).alloc (.cells #[.int .u16 0, .slice none 0 0] 46)) w.heap.size 81 #[.int .u16 f0, .int .i64 f1, .int .i64 f2, .int .i64 f3, .int .i64 f4, .bool f5, .bool f6, .int .u16 f7, .int .i64 f8, .slice A n c]) := Lib.hid ((((Blk.new w 81 #[.int .u16 f0, .int .i64 f1, .int .i64 f2, .int .i64 f3, .int .i64 f4, .bool f5, .bool f6, .int .u16 f7, .int .i64 f8, .slice A n c]).alloc (.cells #[.int .u16 f0, .slice B nB cB] 46)).alloc (.cells #[.int .u16 0, .int .i64 0, .int .i64 0, .int .i64 0, .int .i64 0, .bool false, .bool false, .int .u16 0, .int .i64 0, .slice none 0 0] 81)).alloc (.cells #[.int .u16 0, .slice none 0 0] 46))
  have BT0 : Hid (Blk ((((w.alloc (.cells #[.int .u16 f0, .int .i64 f1, .int .i64 f2, .int .i64 f3, .int .i64 f4, .bool f5, .bool f6, .int .u16 f7, .int .i64 f8, .slice A n c] 81)).alloc (.cells #[.int .u16 f0, .slice B nB cB] 46)).alloc (.cells #[.int .u16 0, .int .i64 0, .int .i64 0, .int .i64 0, .int .i64 0, .bool false, .bool false, .int .u16 0, .int .i64 0, .slice none 0 0] 81)).alloc (.cells #[.int .u16 0, .slice none 0 0] 46)) (w.heap.size + 1) 46 #[.int .u16 f0, .slice B nB cB]) := Lib.hid (((Blk.new_at' (w := (w.alloc (.cells #[.int .u16 f0, .int .i64 f1, .int .i64 f2, .int .i64 f3, .int .i64 f4, .bool f5, .bool f6, .int .u16 f7, .int .i64 f8, .slice A n c] 81))) (t := 46) (cs := #[.int .u16 f0, .slice B nB cB]) s1.symm).alloc (.cells #[.int .u16 0, .int .i64 0, .int .i64 0, .int .i64 0, .int .i64 0, .bool false, .bool false, .int .u16 0, .int .i64 0, .slice none 0 0] 81)).alloc (.cells #[.int .u16 0, .slice none 0 0] 46))
  have BZ0 : Hid (Blk ((((w.alloc (.cells #[.int .u16 f0, .int .i64 f1, .int .i64 f2, .int .i64 f3, .int .i64 f4, .bool f5, .bool f6, .int .u16 f7, .int .i64 f8, .slice A n c] 81)).alloc (.cells #[.int .u16 f0, .slice B nB cB] 46)).alloc (.cells #[.int .u16 0, .int .i64 0, .int .i64 0, .int .i64 0, .int .i64 0, .bool false, .bool false, .int .u16 0, .int .i64 0, .slice none 0 0] 81)).alloc (.cells #[.int .u16 0, .slice none 0 0] 46)) (w.heap.size + 1 + 1) 81 #[.int .u16 0, .int .i64 0, .int .i64 0, .int .i64 0, .int .i64 0, .bool false, .bool false, .int .u16 0, .int .i64 0, .slice none 0 0]) := Lib.hid ((Blk.new_at' (w := ((w.alloc (.cells #[.int .u16 f0, .int .i64 f1, .int .i64 f2, .int .i64 f3, .int .i64 f4, .bool f5, .bool f6, .int .u16 f7, .int .i64 f8, .slice A n c] 81)).alloc (.cells #[.int .u16 f0, .slice B nB cB] 46))) (t := 81) (cs := #[.int .u16 0, .int .i64 0, .int .i64 0, .int .i64 0, .int .i64 0, .bool false, .bool false, .int .u16 0, .int .i64 0, .slice none 0 0]) s2.symm).alloc (.cells #[.int .u16 0, .slice none 0 0] 46))
  have BY0 : Hid (Blk ((((w.alloc (.cells #[.int .u16 f0, .int .i64 f1, .int .i64 f2, .int .i64 f3, .int .i64 f4, .bool f5, .bool f6, .int .u16 f7, .int .i64 f8, .slice A n c] 81)).alloc (.cells #[.int .u16 f0, .slice B nB cB] 46)).alloc (.cells #[.int .u16 0, .int .i64 0, .int .i64 0, .int .i64 0, .int .i64 0, .bool false, .bool false, .int .u16 0, .int .i64 0, .slice none 0 0] 81)).alloc (.cells #[.int .u16 0, .slice none 0 0] 46)) (w.heap.size + 1 + 1 + 1) 46 #[.int .u16 0, .slice none 0 0]) := Lib.hid (Blk.new_at' (w := (((w.alloc (.cells #[.int .u16 f0, .int .i64 f1, .int .i64 f2, .int .i64 f3, .int .i64 f4, .bool f5, .bool f6, .int .u16 f7, .int .i64 f8, .slice A n c] 81)).alloc (.cells #[.int .u16 f0, .slice B nB cB] 46)).alloc (.cells #[.int .u16 0, .int .i64 0, .int .i64 0, .int .i64 0, .int .i64 0, .bool false, .bool false, .int .u16 0, .int .i64 0, .slice none 0 0] 81))) (t := 46) (cs := #[.int .u16 0, .slice none 0 0]) s3.symm)
  have RM0 : Hid (ReadsM ((((w.alloc (.cells #[.int .u16 f0, .int .i64 f1, .int .i64 f2, .int .i64 f3, .int .i64 f4, .bool f5, .bool f6, .int .u16 f7, .int .i64 f8, .slice A n c] 81)).alloc (.cells #[.int .u16 f0, .slice B nB cB] 46)).alloc (.cells #[.int .u16 0, .int .i64 0, .int .i64 0, .int .i64 0, .int .i64 0, .bool false, .bool false, .int .u16 0, .int .i64 0, .slice none 0 0] 81)).alloc (.cells #[.int .u16 0, .slice none 0 0] 46)) (fun b => S b ∧ b ≠ w.heap.size ∧ b ≠ w.heap.size + 1 ∧ b ≠ w.heap.size + 1 + 1 ∧ b ≠ w.heap.size + 1 + 1 + 1) B (Pl.listT F)) := Lib.hid ((HB.out.below (by omega) K0.out).imp (fun b hb => ⟨hb.1, by omega, by omega, by omega, by omega⟩))
  have RA0 : Hid (ReadsWt ((((w.alloc (.cells #[.int .u16 f0, .int .i64 f1, .int .i64 f2, .int .i64 f3, .int .i64 f4, .bool f5, .bool f6, .int .u16 f7, .int .i64 f8, .slice A n c] 81)).alloc (.cells #[.int .u16 f0, .slice B nB cB] 46)).alloc (.cells #[.int .u16 0, .int .i64 0, .int .i64 0, .int .i64 0, .int .i64 0, .bool false, .bool false, .int .u16 0, .int .i64 0, .slice none 0 0] 81)).alloc (.cells #[.int .u16 0, .slice none 0 0] 46)) (fun b => S b ∧ b ≠ w.heap.size ∧ b ≠ w.heap.size + 1 ∧ b ≠ w.heap.size + 1 + 1 ∧ b ≠ w.heap.size + 1 + 1 + 1) A L) := Lib.hid ((HA.out.below (by omega) K0.out).imp (fun b hb => ⟨hb.1, by omega, by omega, by omega, by omega⟩))
  have hs4 : ((((w.alloc (.cells #[.int .u16 f0, .int .i64 f1, .int .i64 f2, .int .i64 f3, .int .i64 f4, .bool f5, .bool f6, .int .u16 f7, .int .i64 f8, .slice A n c] 81)).alloc (.cells #[.int .u16 f0, .slice B nB cB] 46)).alloc (.cells #[.int .u16 0, .int .i64 0, .int .i64 0, .int .i64 0, .int .i64 0, .bool false, .bool false, .int .u16 0, .int .i64 0, .slice none 0 0] 81)).alloc (.cells #[.int .u16 0, .slice none 0 0] 46)).heap.size = w.heap.size + 1 + 1 + 1 + 1 := by rw [World.size_alloc, s3]
  clear s1 s2 s3
  go_enter Try.func60, Try.ntmps60
  go_upto_region 1 with fail
  generalize ((((w.alloc (.cells #[.int .u16 f0, .int .i64 f1, .int .i64 f2, .int .i64 f3, .int .i64 f4, .bool f5, .bool f6, .int .u16 f7, .int .i64 f8, .slice A n c] 81)).alloc (.cells #[.int .u16 f0, .slice B nB cB] 46)).alloc (.cells #[.int .u16 0, .int .i64 0, .int .i64 0, .int .i64 0, .int .i64 0, .bool false, .bool false, .int .u16 0, .int .i64 0, .slice none 0 0] 81)).alloc (.cells #[.int .u16 0, .slice none 0 0] 46)) = w0 at *
  have hq1 : decide (now < 0) = false := by simp; omega
  have hq2 : decide (now > 1099511627776) = false := by simp; omega
  have r0 := BP0.out.cell 0
  have r1 := BP0.out.cell 1
  have r2 := BP0.out.cell 2
  have r3 := BP0.out.cell 3
  have r4 := BP0.out.cell 4
  have r5 := BP0.out.cell 5
  have r6 := BP0.out.cell 6
  have r7 := BP0.out.cell 7
  have r8 := BP0.out.cell 8
  have r9 := BP0.out.cell 9
  have z0 := BZ0.out.cell 0
  have z1 := BZ0.out.cell 1
  have z2 := BZ0.out.cell 2
  have z3 := BZ0.out.cell 3
  have z4 := BZ0.out.cell 4
  have z5 := BZ0.out.cell 5
  have z6 := BZ0.out.cell 6
  have z7 := BZ0.out.cell 7
  have z8 := BZ0.out.cell 8
  have z9 := BZ0.out.cell 9
  have t0 := BT0.out.cell 0
  have t1 := BT0.out.cell 1
  have y0 := BY0.out.cell 0
  have y1 := BY0.out.cell 1
  have rf := BP0.out.frozen
  have tf := BT0.out.frozen
  have zf := BZ0.out.frozen
  have yf := BY0.out.frozen
  simp only [List.getElem?_toArray, List.getElem?_cons_zero, List.getElem?_cons_succ] at r0 z0 r1 z1 r2 z2 r3 z3 r4 z4 r5 z5 r6 z6 r7 z7 r8 z8 r9 z9 t0 t1 y0 y1
  have HWD := Lib.hid (refWatched_in f0 f1 f2 f3 f4 f5 f6 f7 f8 A c L B cB F now w0 (fun b => S b ∧ b ≠ w.heap.size ∧ b ≠ w.heap.size + 1 ∧ b ≠ w.heap.size + 1 + 1 ∧ b ≠ w.heap.size + 1 + 1 + 1) HF.out (by omega) h0 h1 hp0 hp1 HXL.out ((Reads.there RA0.out (by omega)).imp (fun b hb => hb.2)) (Reads.there RM0.out (by omega)) (fun b hb => ⟨HS.out b (by omega), by omega, by omega, by omega, by omega⟩))
  rw [HN.out, HNB.out] at HWD
  obtain ⟨hXF, hX1, hX2⟩ := rwat_ok (now := now) (per := f1) L (x := ([], F, [])) HF.out
  simp only [List.length_nil, Nat.zero_add] at hX1 hX2
  have hrt : Pl.rwatched now ⟨f0, f1, f2, f3, f4, f5, f6, f7, f8, L⟩ F = (⟨f0, f1, f2, f3, f4, f5, f6, f7, f8, (L.foldl (Pl.rwat1 now f0 f1) ([], F, [])).1⟩, (L.foldl (Pl.rwat1 now f0 f1) ([], F, [])).2) := rfl
  generalize L.foldl (Pl.rwat1 now f0 f1) ([], F, []) = X at *
  obtain ⟨XW, XF, XN⟩ := X
  simp only at hrt hXF hX1 hX2
  have HRT := Lib.hid hrt
  have HXF := Lib.hid hXF
  clear hrt hXF
  go_wp2_with fail
  refine HWD.out.mono ?_
  rintro e w1 ⟨⟨A1, c1, B1, d1, v1, rfl, hra, hrm, hov⟩, hb1⟩
  simp only
  simp only at hra hrm hov
  have SZ1 := hb1.size
  rw [hs4] at SZ1
  have K1 := Lib.hid (below_then K0.out K0.out.size hb1)
  have BP1 := Lib.hid (BP0.out.below hb1 BP0.out.lt)
  have BT1 := Lib.hid (BT0.out.below hb1 BT0.out.lt)
  have BZ1 := Lib.hid (BZ0.out.below hb1 BZ0.out.lt)
  have BY1 := Lib.hid (BY0.out.below hb1 BY0.out.lt)
  have RA1 := Lib.hid hra
  have RM1 := Lib.hid hrm
  have OV1 := Lib.hid (own_lower (base' := w.heap.size + 1 + 1 + 1 + 1) hov (by omega))
  clear hb1 hra hrm hov HWD
  clear r0 z0 r1 z1 r2 z2 r3 z3 r4 z4 r5 z5 r6 z6 r7 z7 r8 z8 r9 z9 t0 t1 y0 y1 rf tf zf yf
  have r0 := BP1.out.cell 0
  have r1 := BP1.out.cell 1
  have r2 := BP1.out.cell 2
  have r3 := BP1.out.cell 3
  have r4 := BP1.out.cell 4
  have r5 := BP1.out.cell 5
  have r6 := BP1.out.cell 6
  have r7 := BP1.out.cell 7
  have r8 := BP1.out.cell 8
  have r9 := BP1.out.cell 9
  have z0 := BZ1.out.cell 0
  have z1 := BZ1.out.cell 1
  have z2 := BZ1.out.cell 2
  have z3 := BZ1.out.cell 3
  have z4 := BZ1.out.cell 4
  have z5 := BZ1.out.cell 5
  have z6 := BZ1.out.cell 6
  have z7 := BZ1.out.cell 7
  have z8 := BZ1.out.cell 8
  have z9 := BZ1.out.cell 9
  have t0 := BT1.out.cell 0
  have t1 := BT1.out.cell 1
  have y0 := BY1.out.cell 0
  have y1 := BY1.out.cell 1
  have rf := BP1.out.frozen
  have tf := BT1.out.frozen
  have zf := BZ1.out.frozen
  have yf := BY1.out.frozen
  simp only [List.getElem?_toArray, List.getElem?_cons_zero, List.getElem?_cons_succ] at r0 z0 r1 z1 r2 z2 r3 z3 r4 z4 r5 z5 r6 z6 r7 z7 r8 z8 r9 z9 t0 t1 y0 y1
  go_upto_region 4 with fail
  obtain ⟨w2, hw_⟩ : ∃ x, x = ((((((((((((w1.setCell ⟨w.heap.size, 0, none⟩ (.int .u16 f0)).setCell ⟨w.heap.size, 1, none⟩ (.int .i64 f1)).setCell ⟨w.heap.size, 2, none⟩ (.int .i64 f2)).setCell ⟨w.heap.size, 3, none⟩ (.int .i64 f3)).setCell ⟨w.heap.size, 4, none⟩ (.int .i64 f4)).setCell ⟨w.heap.size, 5, none⟩ (.bool f5)).setCell ⟨w.heap.size, 6, none⟩ (.bool f6)).setCell ⟨w.heap.size, 7, none⟩ (.int .u16 f7)).setCell ⟨w.heap.size, 8, none⟩ (.int .i64 f8)).setCell ⟨w.heap.size, 9, none⟩ (.slice A1 XW.length c1)).setCell ⟨w.heap.size + 1, 0, none⟩ (.int .u16 f0)).setCell ⟨w.heap.size + 1, 1, none⟩ (.slice B1 (Pl.listT XF).length d1)) := ⟨_, rfl⟩
  rw [← hw_]
  have G2 : Grow2 w1 w2 w.heap.size (w.heap.size + 1) := by
    rw [hw_]
    (repeat (with_reducible first | exact Grow2.refl _ _ _ | refine Grow2.drew ?_ | refine Grow2.alloc ?_ _ | refine Grow2.setCell ?_ ?_ _)) <;> (first | done | exact .inl rfl | exact .inr (.inl rfl))
  have BP2 : Hid (Blk w2 w.heap.size 81 #[.int .u16 f0, .int .i64 f1, .int .i64 f2, .int .i64 f3, .int .i64 f4, .bool f5, .bool f6, .int .u16 f7, .int .i64 f8, .slice A1 XW.length c1]) := by
    rw [hw_]
    exact Lib.hid (((Blk.mem10 BP1.out _ _ _ _ _ _ _ _ _ _).far (p := ⟨w.heap.size + 1, 0, none⟩) (by show w.heap.size ≠ w.heap.size + 1; omega) _).far (p := ⟨w.heap.size + 1, 1, none⟩) (by show w.heap.size ≠ w.heap.size + 1; omega) _)
  have BTx := (heap_ten w1 w.heap.size (w.heap.size + 1) (by omega) (.int .u16 f0) (.int .i64 f1) (.int .i64 f2) (.int .i64 f3) (.int .i64 f4) (.bool f5) (.bool f6) (.int .u16 f7) (.int .i64 f8) (.slice A1 XW.length c1)).trans BT1.out
  unfold ten at BTx
  have BT2 : Hid (Blk w2 (w.heap.size + 1) 46 #[.int .u16 f0, .slice B1 (Pl.listT XF).length d1]) := by
    rw [hw_]
    exact Lib.hid (Blk.mem2 (a := .int .u16 f0) BTx _ _)
  clear BTx
  have e2 : w2.heap.size = w1.heap.size := by rw [hw_]; simp [World.setCell]
  clear hw_
  have BZ2 := Lib.hid (BZ1.out.grow2 G2 (by omega) (by omega))
  have BY2 := Lib.hid (BY1.out.grow2 G2 (by omega) (by omega))
  have K2 := Lib.hid (K1.out.trans (below_of_grow2 G2 K1.out.size (by omega) (by omega)))
  have RA2 := Lib.hid ((Reads.there RA1.out (by omega)).keep (fun b hb => G2.block b hb.2 hb.1.1.2.1 hb.1.1.2.2.1) |>.imp fun b hb => hb.1)
  have RM2 := Lib.hid ((Reads.there RM1.out (by omega)).keep (fun b hb => G2.block b hb.2 hb.1.1.2.1 hb.1.1.2.2.1) |>.imp fun b hb => hb.1)
  have OV2 := Lib.hid (own_grow2 OV1.out G2 (fun e => by have := own_base OV1.out _ e; omega) (fun e => by have := own_base OV1.out _ e; omega))
  clear r0 z0 r1 z1 r2 z2 r3 z3 r4 z4 r5 z5 r6 z6 r7 z7 r8 z8 r9 z9 t0 t1 y0 y1 rf tf zf yf
  have r0 := BP2.out.cell 0
  have r1 := BP2.out.cell 1
  have r2 := BP2.out.cell 2
  have r3 := BP2.out.cell 3
  have r4 := BP2.out.cell 4
  have r5 := BP2.out.cell 5
  have r6 := BP2.out.cell 6
  have r7 := BP2.out.cell 7
  have r8 := BP2.out.cell 8
  have r9 := BP2.out.cell 9
  have z0 := BZ2.out.cell 0
  have z1 := BZ2.out.cell 1
  have z2 := BZ2.out.cell 2
  have z3 := BZ2.out.cell 3
  have z4 := BZ2.out.cell 4
  have z5 := BZ2.out.cell 5
  have z6 := BZ2.out.cell 6
  have z7 := BZ2.out.cell 7
  have z8 := BZ2.out.cell 8
  have z9 := BZ2.out.cell 9
  have t0 := BT2.out.cell 0
  have t1 := BT2.out.cell 1
  have y0 := BY2.out.cell 0
  have y1 := BY2.out.cell 1
  have rf := BP2.out.frozen
  have tf := BT2.out.frozen
  have zf := BZ2.out.frozen
  have yf := BY2.out.frozen
  simp only [List.getElem?_toArray, List.getElem?_cons_zero, List.getElem?_cons_succ] at r0 z0 r1 z1 r2 z2 r3 z3 r4 z4 r5 z5 r6 z6 r7 z7 r8 z8 r9 z9 t0 t1 y0 y1
  have hl1 : ∀ q, v1.ownBlock = some q → q < w2.heap.size := fun q e => own_lt OV2.out q e
  have HOP := Lib.hid (refOpen_any ⟨f0, f1, f2, f3, f4, f5, f6, f7, f8, XW⟩ A1 c1 B1 d1 XF now draw w2 (fun b => (S b ∧ b ≠ w.heap.size ∧ b ≠ w.heap.size + 1 ∧ b ≠ w.heap.size + 1 + 1 ∧ b ≠ w.heap.size + 1 + 1 + 1) ∧ v1.ownBlock ≠ some b) HXF.out h0 h1 ha0 ha1 h7 hd0 hd1 (by simp only; omega) (Reads.there RA2.out (by omega)) (Reads.there RM2.out (by omega)) (fun b hb => ⟨⟨HS.out b (by omega), by omega, by omega, by omega, by omega⟩, fun e => by have := hl1 b e; omega⟩))
  simp only [rpc] at HOP
  obtain ⟨hy1, hy2, hy3, hy4, hy5⟩ := ropen_same now draw ⟨f0, f1, f2, f3, f4, f5, f6, f7, f8, XW⟩ XF
  simp only at hy1 hy2 hy3
  have hmay : Pl.may now 0 = true := by simp [Pl.may]; omega
  have hrk : Pl.rtick now draw ⟨f0, f1, f2, f3, f4, f5, f6, f7, f8, L⟩ F = (if (Pl.ropen now draw ⟨f0, f1, f2, f3, f4, f5, f6, f7, f8, XW⟩ XF).1.op = false ∧ (Pl.ropen now draw ⟨f0, f1, f2, f3, f4, f5, f6, f7, f8, XW⟩ XF).1.nxt ≤ now then pingR (Pl.ropen now draw ⟨f0, f1, f2, f3, f4, f5, f6, f7, f8, XW⟩ XF) now XN (Pl.drawn (Pl.othersR (Pl.ropen now draw ⟨f0, f1, f2, f3, f4, f5, f6, f7, f8, XW⟩ XF).2.1 (Pl.ropen now draw ⟨f0, f1, f2, f3, f4, f5, f6, f7, f8, XW⟩ XF).1.me (Pl.ropen now draw ⟨f0, f1, f2, f3, f4, f5, f6, f7, f8, XW⟩ XF).1.me) draw) else ((Pl.ropen now draw ⟨f0, f1, f2, f3, f4, f5, f6, f7, f8, XW⟩ XF).1, (Pl.ropen now draw ⟨f0, f1, f2, f3, f4, f5, f6, f7, f8, XW⟩ XF).2.1, (Pl.ropen now draw ⟨f0, f1, f2, f3, f4, f5, f6, f7, f8, XW⟩ XF).2.2.1, XN ++ (Pl.ropen now draw ⟨f0, f1, f2, f3, f4, f5, f6, f7, f8, XW⟩ XF).2.2.2)) := by
    unfold Pl.rtick
    rw [if_pos hmay, HRT.out]
    simp only
    generalize Pl.ropen now draw ⟨f0, f1, f2, f3, f4, f5, f6, f7, f8, XW⟩ XF = Y
    split
    · cases Pl.drawn (Pl.othersR Y.2.1 Y.1.me Y.1.me) draw <;> rfl
    · rfl
  generalize Pl.ropen now draw ⟨f0, f1, f2, f3, f4, f5, f6, f7, f8, XW⟩ XF = Y at *
  obtain ⟨⟨g0, g1, g2, g3, g4, g5, g6, g7, g8, GL⟩, YF, YO, YN⟩ := Y
  simp only at hy1 hy2 hy3 hy4 hy5 hrk
  have hy1' := hy1.symm
  have hy2' := hy2.symm
  have hy3' := hy3.symm
  subst hy1' hy2' hy3'
  have HRK := Lib.hid hrk
  clear hrk HRT hmay hy1 hy2 hy3
  go_wp2_with fail
  refine HOP.out.mono ?_
  rintro e w3 ⟨⟨A3, c3, B3, d3, vo, vn, rfl, hra, hrm, hoo, hon⟩, hb3⟩
  simp only at hra hrm hoo hon
  simp only [rpc]
  have SZ3 := hb3.size
  have K3 := Lib.hid (below_then K2.out K2.out.size hb3)
  have BP3 := Lib.hid (BP2.out.below hb3 BP2.out.lt)
  have BT3 := Lib.hid (BT2.out.below hb3 BT2.out.lt)
  have BZ3 := Lib.hid (BZ2.out.below hb3 BZ2.out.lt)
  have BY3 := Lib.hid (BY2.out.below hb3 BY2.out.lt)
  have RA3 := Lib.hid hra
  have RM3 := Lib.hid hrm
  have OO3 := Lib.hid hoo
  have ON3 := Lib.hid hon
  have OV3 := Lib.hid (own_below OV2.out hb3)
  have hoq : ∀ q, vo.ownBlock = some q → w2.heap.size ≤ q := fun q e => own_base hoo q e
  have hnq : ∀ q, vn.ownBlock = some q → w2.heap.size ≤ q := fun q e => own_base hon q e
  clear hb3 hra hrm hoo hon HOP
  clear r0 z0 r1 z1 r2 z2 r3 z3 r4 z4 r5 z5 r6 z6 r7 z7 r8 z8 r9 z9 t0 t1 y0 y1 rf tf zf yf
  have r0 := BP3.out.cell 0
  have r1 := BP3.out.cell 1
  have r2 := BP3.out.cell 2
  have r3 := BP3.out.cell 3
  have r4 := BP3.out.cell 4
  have r5 := BP3.out.cell 5
  have r6 := BP3.out.cell 6
  have r7 := BP3.out.cell 7
  have r8 := BP3.out.cell 8
  have r9 := BP3.out.cell 9
  have z0 := BZ3.out.cell 0
  have z1 := BZ3.out.cell 1
  have z2 := BZ3.out.cell 2
  have z3 := BZ3.out.cell 3
  have z4 := BZ3.out.cell 4
  have z5 := BZ3.out.cell 5
  have z6 := BZ3.out.cell 6
  have z7 := BZ3.out.cell 7
  have z8 := BZ3.out.cell 8
  have z9 := BZ3.out.cell 9
  have t0 := BT3.out.cell 0
  have t1 := BT3.out.cell 1
  have y0 := BY3.out.cell 0
  have y1 := BY3.out.cell 1
  have rf := BP3.out.frozen
  have tf := BT3.out.frozen
  have zf := BZ3.out.frozen
  have yf := BY3.out.frozen
  simp only [List.getElem?_toArray, List.getElem?_cons_zero, List.getElem?_cons_succ] at r0 z0 r1 z1 r2 z2 r3 z3 r4 z4 r5 z5 r6 z6 r7 z7 r8 z8 r9 z9 t0 t1 y0 y1
  go_upto_region 5 with fail
  obtain ⟨w4, hw_⟩ : ∃ x, x = ((((((((((((w3.setCell ⟨w.heap.size, 0, none⟩ (.int .u16 f0)).setCell ⟨w.heap.size, 1, none⟩ (.int .i64 f1)).setCell ⟨w.heap.size, 2, none⟩ (.int .i64 g2)).setCell ⟨w.heap.size, 3, none⟩ (.int .i64 g3)).setCell ⟨w.heap.size, 4, none⟩ (.int .i64 f4)).setCell ⟨w.heap.size, 5, none⟩ (.bool g5)).setCell ⟨w.heap.size, 6, none⟩ (.bool g6)).setCell ⟨w.heap.size, 7, none⟩ (.int .u16 g7)).setCell ⟨w.heap.size, 8, none⟩ (.int .i64 g8)).setCell ⟨w.heap.size, 9, none⟩ (.slice A3 GL.length c3)).setCell ⟨w.heap.size + 1, 0, none⟩ (.int .u16 f0)).setCell ⟨w.heap.size + 1, 1, none⟩ (.slice B3 (Pl.listT YF).length d3)) := ⟨_, rfl⟩
  rw [← hw_]
  have G4 : Grow2 w3 w4 w.heap.size (w.heap.size + 1) := by
    rw [hw_]
    (repeat (with_reducible first | exact Grow2.refl _ _ _ | refine Grow2.drew ?_ | refine Grow2.alloc ?_ _ | refine Grow2.setCell ?_ ?_ _)) <;> (first | done | exact .inl rfl | exact .inr (.inl rfl))
  have BP4 : Hid (Blk w4 w.heap.size 81 #[.int .u16 f0, .int .i64 f1, .int .i64 g2, .int .i64 g3, .int .i64 f4, .bool g5, .bool g6, .int .u16 g7, .int .i64 g8, .slice A3 GL.length c3]) := by
    rw [hw_]
    exact Lib.hid (((Blk.mem10 BP3.out _ _ _ _ _ _ _ _ _ _).far (p := ⟨w.heap.size + 1, 0, none⟩) (by show w.heap.size ≠ w.heap.size + 1; omega) _).far (p := ⟨w.heap.size + 1, 1, none⟩) (by show w.heap.size ≠ w.heap.size + 1; omega) _)
  have BTx := (heap_ten w3 w.heap.size (w.heap.size + 1) (by omega) (.int .u16 f0) (.int .i64 f1) (.int .i64 g2) (.int .i64 g3) (.int .i64 f4) (.bool g5) (.bool g6) (.int .u16 g7) (.int .i64 g8) (.slice A3 GL.length c3)).trans BT3.out
  unfold ten at BTx
  have BT4 : Hid (Blk w4 (w.heap.size + 1) 46 #[.int .u16 f0, .slice B3 (Pl.listT YF).length d3]) := by
    rw [hw_]
    exact Lib.hid (Blk.mem2 (a := .int .u16 f0) BTx _ _)
  clear BTx
  have e4 : w4.heap.size = w3.heap.size := by rw [hw_]; simp [World.setCell]
  clear hw_
  have BZ4 := Lib.hid (BZ3.out.grow2 G4 (by omega) (by omega))
  have BY4 := Lib.hid (BY3.out.grow2 G4 (by omega) (by omega))
  have K4 := Lib.hid (K3.out.trans (below_of_grow2 G4 K3.out.size (by omega) (by omega)))
  have RA4 := Lib.hid ((Reads.there RA3.out (by omega)).keep (fun b hb => G4.block b hb.2 hb.1.1.1.2.1 hb.1.1.1.2.2.1) |>.imp fun b hb => hb.1)
  have RM4 := Lib.hid ((Reads.there RM3.out (by omega)).keep (fun b hb => G4.block b hb.2 hb.1.1.1.2.1 hb.1.1.1.2.2.1) |>.imp fun b hb => hb.1)
  have OV4 := Lib.hid (own_grow2 OV3.out G4 (fun e => by have := own_base OV3.out _ e; omega) (fun e => by have := own_base OV3.out _ e; omega))
  have OO4 := Lib.hid (own_grow2 OO3.out G4 (fun e => by have := hoq _ e; omega) (fun e => by have := hoq _ e; omega))
  have ON4 := Lib.hid (own_grow2 ON3.out G4 (fun e => by have := hnq _ e; omega) (fun e => by have := hnq _ e; omega))
  obtain ⟨An, cn, rfl, RN⟩ := Reads.of_own ON4.out
  have RN4 := Lib.hid RN
  clear RN
  clear r0 z0 r1 z1 r2 z2 r3 z3 r4 z4 r5 z5 r6 z6 r7 z7 r8 z8 r9 z9 t0 t1 y0 y1 rf tf zf yf
  have r0 := BP4.out.cell 0
  have r1 := BP4.out.cell 1
  have r2 := BP4.out.cell 2
  have r3 := BP4.out.cell 3
  have r4 := BP4.out.cell 4
  have r5 := BP4.out.cell 5
  have r6 := BP4.out.cell 6
  have r7 := BP4.out.cell 7
  have r8 := BP4.out.cell 8
  have r9 := BP4.out.cell 9
  have z0 := BZ4.out.cell 0
  have z1 := BZ4.out.cell 1
  have z2 := BZ4.out.cell 2
  have z3 := BZ4.out.cell 3
  have z4 := BZ4.out.cell 4
  have z5 := BZ4.out.cell 5
  have z6 := BZ4.out.cell 6
  have z7 := BZ4.out.cell 7
  have z8 := BZ4.out.cell 8
  have z9 := BZ4.out.cell 9
  have t0 := BT4.out.cell 0
  have t1 := BT4.out.cell 1
  have y0 := BY4.out.cell 0
  have y1 := BY4.out.cell 1
  have rf := BP4.out.frozen
  have tf := BT4.out.frozen
  have zf := BZ4.out.frozen
  have yf := BY4.out.frozen
  simp only [List.getElem?_toArray, List.getElem?_cons_zero, List.getElem?_cons_succ] at r0 z0 r1 z1 r2 z2 r3 z3 r4 z4 r5 z5 r6 z6 r7 z7 r8 z8 r9 z9 t0 t1 y0 y1
  go_wp2_with (
    (at_builtin
     refine app_reads (w.heap.size + 1 + 1 + 1 + 1) rfl (.tmp 42) (.tmp 43) 36 25 _ 3 16 rfl Try.underlying36 member_info rfl (by omega) v1 XN.length (rows XN) rfl _ An YN.length cn (rows YN) rfl RN4.out (rows_one YN) OV4.out (by omega) (by omega) (by omega) ?_
     intro v5 w5 hO hG hat
     have SZ5 := hG.size
     have hvb : ∀ q, v1.ownBlock = some q → w.heap.size + 1 + 1 + 1 + 1 ≤ q := fun q e => own_base OV4.out q e
     have ON5 : Hid (w5.ownsRow (w.heap.size + 1 + 1 + 1 + 1) 25 3 v5 (XN ++ YN).length (rows (XN ++ YN))) := Lib.hid (by rw [List.length_append, rows_append]; exact hO)
     have K5 := Lib.hid (K4.out.trans (below_of_grown (B := w.heap.size) K4.out.size hG (fun q e => by have := hvb q e; omega)))
     have BP5 := Lib.hid (BP4.out.grown hG (fun e => by have := hvb _ e.symm; omega))
     have BT5 := Lib.hid (BT4.out.grown hG (fun e => by have := hvb _ e.symm; omega))
     have BZ5 := Lib.hid (BZ4.out.grown hG (fun e => by have := hvb _ e.symm; omega))
     have BY5 := Lib.hid (BY4.out.grown hG (fun e => by have := hvb _ e.symm; omega))
     have RA5 := Lib.hid (Reads.grown RA4.out (by omega) hG (fun b hb e => hb.1.2 e.symm))
     have RM5 := Lib.hid (Reads.grown RM4.out (by omega) hG (fun b hb e => hb.1.2 e.symm))
     have OO5 := Lib.hid (own_grown OO4.out hG (own_own_ne OV4.out OO4.out (by decide)))
     have HOT : Hid (Calls Try.prog 68 #[.agg #[.int .u16 f0, .slice B3 (Pl.listT YF).length d3], .int .u16 f0, .int .u16 f0] w5 fun e w' => ∃ v, e = .returned v ∧ w'.ownsRow w5.heap.size 22 1 v (Pl.othersR YF f0 f0).length (u16s (Pl.othersR YF f0 f0)) ∧ Below w5.heap.size w5 w') := Lib.hid (refOthers_any f0 f0 f0 B3 d3 (Pl.listT YF) w5 (RM5.out.imp fun _ _ => trivial) (by have := listLen YF; omega))
     clear hO hG hat hvb
     clear r0 z0 r1 z1 r2 z2 r3 z3 r4 z4 r5 z5 r6 z6 r7 z7 r8 z8 r9 z9 t0 t1 y0 y1 rf tf zf yf
     have r0 := BP5.out.cell 0
     have r1 := BP5.out.cell 1
     have r2 := BP5.out.cell 2
     have r3 := BP5.out.cell 3
     have r4 := BP5.out.cell 4
     have r5 := BP5.out.cell 5
     have r6 := BP5.out.cell 6
     have r7 := BP5.out.cell 7
     have r8 := BP5.out.cell 8
     have r9 := BP5.out.cell 9
     have z0 := BZ5.out.cell 0
     have z1 := BZ5.out.cell 1
     have z2 := BZ5.out.cell 2
     have z3 := BZ5.out.cell 3
     have z4 := BZ5.out.cell 4
     have z5 := BZ5.out.cell 5
     have z6 := BZ5.out.cell 6
     have z7 := BZ5.out.cell 7
     have z8 := BZ5.out.cell 8
     have z9 := BZ5.out.cell 9
     have t0 := BT5.out.cell 0
     have t1 := BT5.out.cell 1
     have y0 := BY5.out.cell 0
     have y1 := BY5.out.cell 1
     have rf := BP5.out.frozen
     have tf := BT5.out.frozen
     have zf := BZ5.out.frozen
     have yf := BY5.out.frozen
     simp only [List.getElem?_toArray, List.getElem?_cons_zero, List.getElem?_cons_succ] at r0 z0 r1 z1 r2 z2 r3 z3 r4 z4 r5 z5 r6 z6 r7 z7 r8 z8 r9 z9 t0 t1 y0 y1))
  refine HOT.out.mono ?_
  rintro e w6 ⟨vO, rfl, ho, hb6⟩
  obtain ⟨AO, cO, rfl⟩ := own_slice ho
  have HO6 := Lib.hid ho
  have SZ6 := hb6.size
  have K6 := Lib.hid (below_then K5.out K5.out.size hb6)
  have BP6 := Lib.hid (BP5.out.below hb6 BP5.out.lt)
  have BT6 := Lib.hid (BT5.out.below hb6 BT5.out.lt)
  have BZ6 := Lib.hid (BZ5.out.below hb6 BZ5.out.lt)
  have BY6 := Lib.hid (BY5.out.below hb6 BY5.out.lt)
  have RA6 := Lib.hid (Reads.below RA5.out (by omega) hb6)
  have RM6 := Lib.hid (Reads.below RM5.out (by omega) hb6)
  have OO6 := Lib.hid (own_below OO5.out hb6)
  have ON6 := Lib.hid (own_below ON5.out hb6)
  clear ho hb6 HOT
  clear r0 z0 r1 z1 r2 z2 r3 z3 r4 z4 r5 z5 r6 z6 r7 z7 r8 z8 r9 z9 t0 t1 y0 y1 rf tf zf yf
  have r0 := BP6.out.cell 0
  have r1 := BP6.out.cell 1
  have r2 := BP6.out.cell 2
  have r3 := BP6.out.cell 3
  have r4 := BP6.out.cell 4
  have r5 := BP6.out.cell 5
  have r6 := BP6.out.cell 6
  have r7 := BP6.out.cell 7
  have r8 := BP6.out.cell 8
  have r9 := BP6.out.cell 9
  have z0 := BZ6.out.cell 0
  have z1 := BZ6.out.cell 1
  have z2 := BZ6.out.cell 2
  have z3 := BZ6.out.cell 3
  have z4 := BZ6.out.cell 4
  have z5 := BZ6.out.cell 5
  have z6 := BZ6.out.cell 6
  have z7 := BZ6.out.cell 7
  have z8 := BZ6.out.cell 8
  have z9 := BZ6.out.cell 9
  have t0 := BT6.out.cell 0
  have t1 := BT6.out.cell 1
  have y0 := BY6.out.cell 0
  have y1 := BY6.out.cell 1
  have rf := BP6.out.frozen
  have tf := BT6.out.frozen
  have zf := BZ6.out.frozen
  have yf := BY6.out.frozen
  simp only [List.getElem?_toArray, List.getElem?_cons_zero, List.getElem?_cons_succ] at r0 z0 r1 z1 r2 z2 r3 z3 r4 z4 r5 z5 r6 z6 r7 z7 r8 z8 r9 z9 t0 t1 y0 y1
  have hol : (Pl.othersR YF f0 f0).length ≤ 64 := by
    have h1 : (Pl.othersR YF f0 f0).length ≤ (Pl.thereT YF).length := List.length_filter_le _ _
    have h2 := theres_length (Pl.listT YF)
    have h3 := listLen YF
    have h4 : Pl.thereT YF = theres (Pl.listT YF) := rfl
    rw [h4] at h1
    omega
  have KEY0 : Hid (Pl.rtick now draw ⟨f0, f1, f2, f3, f4, f5, f6, f7, f8, L⟩ F = (⟨f0, f1, g2, g3, f4, g5, g6, g7, g8, GL⟩, YF, YO, XN ++ YN) → ∀ W : World, Grow2 w6 W (w.heap.size + 1 + 1) (w.heap.size + 1 + 1 + 1) → TkEnd w S f0 (Pl.rtick now draw ⟨f0, f1, f2, f3, f4, f5, f6, f7, f8, L⟩ F) (.returned (.tuple #[.agg #[.int .u16 f0, .int .i64 f1, .int .i64 g2, .int .i64 g3, .int .i64 f4, .bool g5, .bool g6, .int .u16 g7, .int .i64 g8, .slice A3 GL.length c3], .agg #[.int .u16 f0, .slice B3 (Pl.listT YF).length d3], vo, v5])) W) := Lib.hid (fun HR W G => by
    rw [HR]
    exact ⟨⟨A3, c3, B3, d3, _, _, rfl, ((Reads.there RA6.out (by omega)).keep (fun b hb => G.block b hb.2 hb.1.1.1.2.2.2.1 hb.1.1.1.2.2.2.2)).imp (fun b hb => hb.1.1.1.1), ((Reads.there RM6.out (by omega)).keep (fun b hb => G.block b hb.2 hb.1.1.1.2.2.2.1 hb.1.1.1.2.2.2.2)).imp (fun b hb => hb.1.1.1.1), own_lower (own_grow2 OO6.out G (fun e => by have := own_base OO6.out _ e; omega) (fun e => by have := own_base OO6.out _ e; omega)) (by omega), own_lower (own_grow2 ON6.out G (fun e => by have := own_base ON6.out _ e; omega) (fun e => by have := own_base ON6.out _ e; omega)) (by omega)⟩, K6.out.trans (below_of_grow2 G K6.out.size (by omega) (by omega))⟩)
  cases g5 with
  | true =>
    have HR : Hid (Pl.rtick now draw ⟨f0, f1, f2, f3, f4, f5, f6, f7, f8, L⟩ F = (⟨f0, f1, g2, g3, f4, true, g6, g7, g8, GL⟩, YF, YO, XN ++ YN)) := Lib.hid (by rw [HRK.out, if_neg (by simp)])
    clear HRK
    go_wp2
    go_region
    go_wp2
    refine tick_ret (g2 := w.heap.size + 1 + 1) (g3 := w.heap.size + 1 + 1 + 1) rfl rfl rfl rfl rfl (x0 := .int .u16 f0) (x1 := .int .i64 f1) (x2 := .int .i64 g2) (x3 := .int .i64 g3) (x4 := .int .i64 f4) (x5 := .bool true) (x6 := .bool g6) (x7 := .int .u16 g7) (x8 := .int .i64 g8) (x9 := .slice A3 GL.length c3) (z0 := .int .u16 f0) (z1 := .slice B3 (Pl.listT YF).length d3) ?_ ?_ ?_
    · (repeat (with_reducible first | exact BZ6.out | refine Blk.drew ?_ | apply Blk.mem10 | refine Blk.alloc ?_ _ | refine Blk.far ?_ ?_ _)) <;> (first | done | (dsimp only; omega))
    · (repeat (with_reducible first | exact BY6.out | refine Blk.drew ?_ | apply Blk.mem2 | refine Blk.alloc ?_ _ | refine Blk.far ?_ ?_ _)) <;> (first | done | (dsimp only; omega))
    · refine KEY0.out HR.out _ ?_
      (repeat (with_reducible first | exact Grow2.refl _ _ _ | refine Grow2.drew ?_ | refine Grow2.alloc ?_ _ | refine Grow2.setCell ?_ ?_ _)) <;> (first | done | exact .inl rfl | exact .inr (.inl rfl))
  | false =>
    by_cases hn3 : now < g3
    · have hd3 : decide (now ≥ g3) = false := by simp; omega
      have HR : Hid (Pl.rtick now draw ⟨f0, f1, f2, f3, f4, f5, f6, f7, f8, L⟩ F = (⟨f0, f1, g2, g3, f4, false, g6, g7, g8, GL⟩, YF, YO, XN ++ YN)) := Lib.hid (by rw [HRK.out, if_neg (fun hx => by have h9 : g3 ≤ now := hx.2; omega)])
      clear HRK
      go_wp2
      go_region
      go_wp2
      refine tick_ret (g2 := w.heap.size + 1 + 1) (g3 := w.heap.size + 1 + 1 + 1) rfl rfl rfl rfl rfl (x0 := .int .u16 f0) (x1 := .int .i64 f1) (x2 := .int .i64 g2) (x3 := .int .i64 g3) (x4 := .int .i64 f4) (x5 := .bool false) (x6 := .bool g6) (x7 := .int .u16 g7) (x8 := .int .i64 g8) (x9 := .slice A3 GL.length c3) (z0 := .int .u16 f0) (z1 := .slice B3 (Pl.listT YF).length d3) ?_ ?_ ?_
      · (repeat (with_reducible first | exact BZ6.out | refine Blk.drew ?_ | apply Blk.mem10 | refine Blk.alloc ?_ _ | refine Blk.far ?_ ?_ _)) <;> (first | done | (dsimp only; omega))
      · (repeat (with_reducible first | exact BY6.out | refine Blk.drew ?_ | apply Blk.mem2 | refine Blk.alloc ?_ _ | refine Blk.far ?_ ?_ _)) <;> (first | done | (dsimp only; omega))
      · refine KEY0.out HR.out _ ?_
        (repeat (with_reducible first | exact Grow2.refl _ _ _ | refine Grow2.drew ?_ | refine Grow2.alloc ?_ _ | refine Grow2.setCell ?_ ?_ _)) <;> (first | done | exact .inl rfl | exact .inr (.inl rfl))
    · have hd3 : decide (now ≥ g3) = true := by simp; omega
      have HRK2 : Hid (Pl.rtick now draw ⟨f0, f1, f2, f3, f4, f5, f6, f7, f8, L⟩ F = pingR (⟨f0, f1, g2, g3, f4, false, g6, g7, g8, GL⟩, YF, YO, YN) now XN (Pl.drawn (Pl.othersR YF f0 f0) draw)) := Lib.hid (by rw [HRK.out, if_pos ⟨rfl, (by show g3 ≤ now; omega)⟩])
      clear HRK
      by_cases h0l : (Pl.othersR YF f0 f0).length = 0
      · have hdr : Pl.drawn (Pl.othersR YF f0 f0) draw = none := by unfold Pl.drawn; rw [List.getElem?_eq_none (by omega)]
        have hd4 : decide (((Pl.othersR YF f0 f0).length : Int) > 0) = false := decide_eq_false (by omega)
        have HR : Hid (Pl.rtick now draw ⟨f0, f1, f2, f3, f4, f5, f6, f7, f8, L⟩ F = (⟨f0, f1, g2, g3, f4, false, g6, g7, g8, GL⟩, YF, YO, XN ++ YN)) := Lib.hid (by rw [HRK2.out, hdr]; rfl)
        clear HRK2 hdr
        go_wp2
        go_region
        go_wp2
        refine tick_ret (g2 := w.heap.size + 1 + 1) (g3 := w.heap.size + 1 + 1 + 1) rfl rfl rfl rfl rfl (x0 := .int .u16 f0) (x1 := .int .i64 f1) (x2 := .int .i64 g2) (x3 := .int .i64 g3) (x4 := .int .i64 f4) (x5 := .bool false) (x6 := .bool g6) (x7 := .int .u16 g7) (x8 := .int .i64 g8) (x9 := .slice A3 GL.length c3) (z0 := .int .u16 f0) (z1 := .slice B3 (Pl.listT YF).length d3) ?_ ?_ ?_
        · (repeat (with_reducible first | exact BZ6.out | refine Blk.drew ?_ | apply Blk.mem10 | refine Blk.alloc ?_ _ | refine Blk.far ?_ ?_ _)) <;> (first | done | (dsimp only; omega))
        · (repeat (with_reducible first | exact BY6.out | refine Blk.drew ?_ | apply Blk.mem2 | refine Blk.alloc ?_ _ | refine Blk.far ?_ ?_ _)) <;> (first | done | (dsimp only; omega))
        · refine KEY0.out HR.out _ ?_
          (repeat (with_reducible first | exact Grow2.refl _ _ _ | refine Grow2.drew ?_ | refine Grow2.alloc ?_ _ | refine Grow2.setCell ?_ ?_ _)) <;> (first | done | exact .inl rfl | exact .inr (.inl rfl))
      · have hd4 : decide (((Pl.othersR YF f0 f0).length : Int) > 0) = true := decide_eq_true (by omega)
        obtain ⟨kq, hkq⟩ : ∃ kq : Nat, draw.tmod ((Pl.othersR YF f0 f0).length : Int) = (kq : Int) := ⟨(draw.tmod ((Pl.othersR YF f0 f0).length : Int)).toNat, by rw [Int.toNat_of_nonneg]; exact Int.tmod_nonneg _ hd0⟩
        have hkl : kq < (Pl.othersR YF f0 f0).length := by
          have := Int.tmod_lt_of_pos draw (b := ((Pl.othersR YF f0 f0).length : Int)) (by omega)
          omega
        obtain ⟨x, hx⟩ : ∃ x, (Pl.othersR YF f0 f0)[kq]? = some x := ⟨_, List.getElem?_eq_getElem hkl⟩
        have hdr : Pl.drawn (Pl.othersR YF f0 f0) draw = some x := by
          unfold Pl.drawn
          rw [← Int.tmod_eq_emod_of_nonneg hd0, hkq, Int.toNat_natCast]
          exact hx
        obtain ⟨b1, rfl, hb1⟩ : ∃ b1, AO = some ⟨b1, 0, none⟩ ∧ b1 < w6.heap.size := by
          rcases HO6.out.2 with ⟨_, h⟩ | ⟨b1, cc, cur, he, hb, hh, _⟩
          · omega
          · injection he with e1 e2 e3
            exact ⟨b1, e1, (Array.getElem?_eq_some_iff.1 hh).1⟩
        have u0 : w6.cell? ⟨b1, kq, none⟩ = some (.int .u16 x) := by
          have h := HO6.out.cells (g := b1) rfl kq (.int .u16 x) (by simp [u16s, hx])
          rwa [Addr.add_mid, Nat.zero_add] at h
        have hb1' : w.heap.size + 1 + 1 + 1 + 1 ≤ b1 := by have := own_base HO6.out b1 rfl; omega
        have HRP : Hid (Pl.rtick now draw ⟨f0, f1, f2, f3, f4, f5, f6, f7, f8, L⟩ F = (⟨f0, f1, g2, now + f1, f4 + 1, true, false, x, now, GL⟩, YF, YO ++ [⟨x, 0, f0, x, f4 + 1⟩], XN ++ YN)) := Lib.hid (by rw [HRK2.out, hdr]; rfl)
        clear HRK2 hdr hx KEY0
        have hq0 : (0 : Int) ≤ (kq : Int) := by omega
        have hq10 : (kq : Int) < ((Pl.othersR YF f0 f0).length : Int) := by omega
        have hq20 : IntKind.i64.wrap draw = draw := by rw [IntKind.wrap_i64]; omega
        have hq30 : (0 : Int) < ((Pl.othersR YF f0 f0).length : Int) := by omega
        have hq40 : ((Pl.othersR YF f0 f0).length : Int) ≠ 0 := by omega
        have hnb : w.heap.size ≠ b1 := by omega
        generalize (Pl.othersR YF f0 f0).length = nO at *
        go_upto_region 9 with fail
        go_region
        go_upto_region 11 with fail
        obtain ⟨w7, hw_⟩ : ∃ wz, wz = ((((((w6.setCell ⟨w.heap.size, 4, none⟩ (.int .i64 (f4 + 1))).setCell ⟨w.heap.size, 5, none⟩ (.bool true)).setCell ⟨w.heap.size, 6, none⟩ (.bool false)).setCell ⟨w.heap.size, 8, none⟩ (.int .i64 now)).setCell ⟨w.heap.size, 7, none⟩ (.int .u16 x)).setCell ⟨w.heap.size, 3, none⟩ (.int .i64 (now + f1))).drew := ⟨_, rfl⟩
        rw [← hw_]
        have BP7 : Hid (Blk w7 w.heap.size 81 #[.int .u16 f0, .int .i64 f1, .int .i64 g2, .int .i64 (now + f1), .int .i64 (f4 + 1), .bool true, .bool false, .int .u16 x, .int .i64 now, .slice A3 GL.length c3]) := by
          rw [hw_]
          have h := ((((((BP6.out.set_ 4 (.int .i64 (f4 + 1))).set_ 5 (.bool true)).set_ 6 (.bool false)).set_ 8 (.int .i64 now)).set_ 7 (.int .u16 x)).set_ 3 (.int .i64 (now + f1))).drew
          simpa only [List.setIfInBounds_toArray, List.set_cons_succ, List.set_cons_zero] using Lib.hid h
        have G7 : Grow2 w6 w7 w.heap.size w.heap.size := by
          rw [hw_]
          (repeat (with_reducible first | exact Grow2.refl _ _ _ | refine Grow2.drew ?_ | refine Grow2.alloc ?_ _ | refine Grow2.setCell ?_ ?_ _)) <;> (first | done | exact .inl rfl | exact .inr (.inl rfl))
        have e7 : w6.heap.size ≤ w7.heap.size := G7.size
        clear hw_
        have BT7 := Lib.hid (BT6.out.grow2 G7 (by omega) (by omega))
        have BZ7 := Lib.hid (BZ6.out.grow2 G7 (by omega) (by omega))
        have BY7 := Lib.hid (BY6.out.grow2 G7 (by omega) (by omega))
        have K7 := Lib.hid (K6.out.trans (below_of_grow2 G7 K6.out.size (by omega) (by omega)))
        have RA7 := Lib.hid ((Reads.there RA6.out (by omega)).keep (fun b hb => G7.block b hb.2 hb.1.1.1.2.1 hb.1.1.1.2.1) |>.imp fun b hb => hb.1)
        have RM7 := Lib.hid ((Reads.there RM6.out (by omega)).keep (fun b hb => G7.block b hb.2 hb.1.1.1.2.1 hb.1.1.1.2.1) |>.imp fun b hb => hb.1)
        have OO7 := Lib.hid (own_grow2 OO6.out G7 (fun e => by have := own_base OO6.out _ e; omega) (fun e => by have := own_base OO6.out _ e; omega))
        have ON7 := Lib.hid (own_grow2 ON6.out G7 (fun e => by have := own_base ON6.out _ e; omega) (fun e => by have := own_base ON6.out _ e; omega))
        clear r0 z0 r1 z1 r2 z2 r3 z3 r4 z4 r5 z5 r6 z6 r7 z7 r8 z8 r9 z9 t0 t1 y0 y1 rf tf zf yf
        have r0 := BP7.out.cell 0
        have r1 := BP7.out.cell 1
        have r2 := BP7.out.cell 2
        have r3 := BP7.out.cell 3
        have r4 := BP7.out.cell 4
        have r5 := BP7.out.cell 5
        have r6 := BP7.out.cell 6
        have r7 := BP7.out.cell 7
        have r8 := BP7.out.cell 8
        have r9 := BP7.out.cell 9
        have z0 := BZ7.out.cell 0
        have z1 := BZ7.out.cell 1
        have z2 := BZ7.out.cell 2
        have z3 := BZ7.out.cell 3
        have z4 := BZ7.out.cell 4
        have z5 := BZ7.out.cell 5
        have z6 := BZ7.out.cell 6
        have z7 := BZ7.out.cell 7
        have z8 := BZ7.out.cell 8
        have z9 := BZ7.out.cell 9
        have t0 := BT7.out.cell 0
        have t1 := BT7.out.cell 1
        have y0 := BY7.out.cell 0
        have y1 := BY7.out.cell 1
        have rf := BP7.out.frozen
        have tf := BT7.out.frozen
        have zf := BZ7.out.frozen
        have yf := BY7.out.frozen
        simp only [List.getElem?_toArray, List.getElem?_cons_zero, List.getElem?_cons_succ] at r0 z0 r1 z1 r2 z2 r3 z3 r4 z4 r5 z5 r6 z6 r7 z7 r8 z8 r9 z9 t0 t1 y0 y1
        clear u0
        go_wp2_with (
          (at_builtin
           refine app_row w2.heap.size rfl (.tmp 87) (.tmp 98) 122 135 _ 7 72 rfl und122 out135 rfl (by omega) _ YO.length (outs YO) (oc ⟨x, 0, f0, x, f4 + 1⟩).toArray rfl _ rfl rfl (by simp [oc, Value.oneCell']) rfl OO7.out (by omega) (by omega) (by omega) ?_
           intro v8 w8 hO hG hat
           have SZ8 := hG.size
           have hvb : ∀ q, vo.ownBlock = some q → w2.heap.size ≤ q := fun q e => own_base OO7.out q e
           have OO8 : Hid (w8.ownsRow w2.heap.size 135 7 v8 (YO ++ [(⟨x, 0, f0, x, f4 + 1⟩ : Pl.Ou)]).length (outs (YO ++ [(⟨x, 0, f0, x, f4 + 1⟩ : Pl.Ou)]))) := Lib.hid (by rw [List.length_append, outs_append, show outs [(⟨x, 0, f0, x, f4 + 1⟩ : Pl.Ou)] = oc ⟨x, 0, f0, x, f4 + 1⟩ by simp [outs]]; exact hO)
           have K8 := Lib.hid (K7.out.trans (below_of_grown (B := w.heap.size) K7.out.size hG (fun q e => by have := hvb q e; omega)))
           have BP8 := Lib.hid (BP7.out.grown hG (fun e => by have := hvb _ e.symm; omega))
           have BT8 := Lib.hid (BT7.out.grown hG (fun e => by have := hvb _ e.symm; omega))
           have BZ8 := Lib.hid (BZ7.out.grown hG (fun e => by have := hvb _ e.symm; omega))
           have BY8 := Lib.hid (BY7.out.grown hG (fun e => by have := hvb _ e.symm; omega))
           have RA8 := Lib.hid (Reads.grown RA7.out (by omega) hG (fun b hb e => hb.2 e.symm))
           have RM8 := Lib.hid (Reads.grown RM7.out (by omega) hG (fun b hb e => hb.2 e.symm))
           have ON8 := Lib.hid (own_grown ON7.out hG (own_own_ne OO7.out ON7.out (by decide)))
           clear hO hG hat hvb
           clear r0 z0 r1 z1 r2 z2 r3 z3 r4 z4 r5 z5 r6 z6 r7 z7 r8 z8 r9 z9 t0 t1 y0 y1 rf tf zf yf
           have r0 := BP8.out.cell 0
           have r1 := BP8.out.cell 1
           have r2 := BP8.out.cell 2
           have r3 := BP8.out.cell 3
           have r4 := BP8.out.cell 4
           have r5 := BP8.out.cell 5
           have r6 := BP8.out.cell 6
           have r7 := BP8.out.cell 7
           have r8 := BP8.out.cell 8
           have r9 := BP8.out.cell 9
           have z0 := BZ8.out.cell 0
           have z1 := BZ8.out.cell 1
           have z2 := BZ8.out.cell 2
           have z3 := BZ8.out.cell 3
           have z4 := BZ8.out.cell 4
           have z5 := BZ8.out.cell 5
           have z6 := BZ8.out.cell 6
           have z7 := BZ8.out.cell 7
           have z8 := BZ8.out.cell 8
           have z9 := BZ8.out.cell 9
           have t0 := BT8.out.cell 0
           have t1 := BT8.out.cell 1
           have y0 := BY8.out.cell 0
           have y1 := BY8.out.cell 1
           have rf := BP8.out.frozen
           have tf := BT8.out.frozen
           have zf := BZ8.out.frozen
           have yf := BY8.out.frozen
           simp only [List.getElem?_toArray, List.getElem?_cons_zero, List.getElem?_cons_succ] at r0 z0 r1 z1 r2 z2 r3 z3 r4 z4 r5 z5 r6 z6 r7 z7 r8 z8 r9 z9 t0 t1 y0 y1))
        have KEY1 : Hid (∀ W : World, Grow2 w8 W (w.heap.size + 1 + 1) (w.heap.size + 1 + 1 + 1) → TkEnd w S f0 (Pl.rtick now draw ⟨f0, f1, f2, f3, f4, f5, f6, f7, f8, L⟩ F) (.returned (.tuple #[.agg #[.int .u16 f0, .int .i64 f1, .int .i64 g2, .int .i64 (now + f1), .int .i64 (f4 + 1), .bool true, .bool false, .int .u16 x, .int .i64 now, .slice A3 GL.length c3], .agg #[.int .u16 f0, .slice B3 (Pl.listT YF).length d3], v8, v5])) W) := Lib.hid (fun W G => by
          rw [HRP.out]
          exact ⟨⟨A3, c3, B3, d3, _, _, rfl, ((Reads.there RA8.out (by omega)).keep (fun b hb => G.block b hb.2 hb.1.1.1.2.2.2.1 hb.1.1.1.2.2.2.2)).imp (fun b hb => hb.1.1.1.1), ((Reads.there RM8.out (by omega)).keep (fun b hb => G.block b hb.2 hb.1.1.1.2.2.2.1 hb.1.1.1.2.2.2.2)).imp (fun b hb => hb.1.1.1.1), own_lower (own_grow2 OO8.out G (fun e => by have := own_base OO8.out _ e; omega) (fun e => by have := own_base OO8.out _ e; omega)) (by omega), own_lower (own_grow2 ON8.out G (fun e => by have := own_base ON8.out _ e; omega) (fun e => by have := own_base ON8.out _ e; omega)) (by omega)⟩, K8.out.trans (below_of_grow2 G K8.out.size (by omega) (by omega))⟩)
        go_region
        go_wp2
        refine tick_ret (g2 := w.heap.size + 1 + 1) (g3 := w.heap.size + 1 + 1 + 1) rfl rfl rfl rfl rfl (x0 := .int .u16 f0) (x1 := .int .i64 f1) (x2 := .int .i64 g2) (x3 := .int .i64 (now + f1)) (x4 := .int .i64 (f4 + 1)) (x5 := .bool true) (x6 := .bool false) (x7 := .int .u16 x) (x8 := .int .i64 now) (x9 := .slice A3 GL.length c3) (z0 := .int .u16 f0) (z1 := .slice B3 (Pl.listT YF).length d3) ?_ ?_ ?_
        · (repeat (with_reducible first | exact BZ8.out | refine Blk.drew ?_ | apply Blk.mem10 | refine Blk.alloc ?_ _ | refine Blk.far ?_ ?_ _)) <;> (first | done | (dsimp only; omega))
        · (repeat (with_reducible first | exact BY8.out | refine Blk.drew ?_ | apply Blk.mem2 | refine Blk.alloc ?_ _ | refine Blk.far ?_ ?_ _)) <;> (first | done | (dsimp only; omega))
        · refine KEY1.out _ ?_
          (repeat (with_reducible first | exact Grow2.refl _ _ _ | refine Grow2.drew ?_ | refine Grow2.alloc ?_ _ | refine Grow2.setCell ?_ ?_ _)) <;> (first | done | exact .inl rfl | exact .inr (.inl rfl))
/-- The document's Tick. -/
theorem refTick_any (r : Pl.Rp) (A : Option Addr) (c : Nat) (B : Option Addr) (cB : Nat) (F : Pl.Tab) (now draw : Int) (w : World) (S : Nat → Prop) (hF : Pl.TOk r.me F) (hp0 : 0 ≤ r.per) (hp1 : r.per ≤ 1099511627776) (hx : ∀ x ∈ r.w, 0 ≤ x.n ∧ 0 ≤ x.f ∧ x.f ≤ 1099511627776) (hlen : r.w.length ≤ 100000) (ha0 : 0 ≤ r.at_) (ha1 : r.at_ ≤ 1099511627776) (h7 : 0 ≤ r.nd) (hd0 : 0 ≤ draw) (hd1 : draw ≤ 4294967295) (hs0 : 0 ≤ r.seq) (hs1 : r.seq ≤ 1099511627776)
    (hR : ReadsWt w (fun b => S b ∧ b < w.heap.size) A r.w) (hB : ReadsM w (fun b => S b ∧ b < w.heap.size) B (Pl.listT F)) (hS : ∀ b, w.heap.size ≤ b → S b) :
    Calls Try.prog 60 #[.agg (rpc r A r.w.length c), .int .i64 now, .int .u32 draw, .agg #[.int .u16 r.me, .slice B (Pl.listT F).length cB]] w fun e w' => TkEnd w S r.me (Pl.rtick now draw r F) e w' := by
  obtain ⟨f0, f1, f2, f3, f4, f5, f6, f7, f8, L⟩ := r
  simp only at *
  by_cases hm : now < 0 ∨ 1099511627776 < now
  · have e : Pl.rtick now draw ⟨f0, f1, f2, f3, f4, f5, f6, f7, f8, L⟩ F = (⟨f0, f1, f2, f3, f4, f5, f6, f7, f8, L⟩, F, [], []) := by
      unfold Pl.rtick
      rw [if_neg (by simp [Pl.may]; omega)]
    rw [e]
    exact tick_no f0 f1 f2 f3 f4 f7 f8 f5 f6 A c L B cB F now draw w S hF hm hR hB hS
  · exact tick_yes f0 f1 f2 f3 f4 f7 f8 f5 f6 A c L B cB F now draw w S hF (by omega) (by omega) hp0 hp1 hx hlen ha0 ha1 h7 hd0 hd1 hs0 hs1 hR hB hS
end Go.Proofs.Ytnlpgjdgiappcaa
