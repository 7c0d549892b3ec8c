/- WALK: the document's open: what is due of an open question. -/
import Derived.Test.YtnlpgjdgiappcaaQ3
namespace Go.Proofs.Ytnlpgjdgiappcaa
set_option linter.unusedVariables false
set_option linter.unusedSimpArgs false
open Go.RowKit

theorem Blk.mem10 {w : World} {g : Nat} {t : TypeId} {x0 x1 x2 x3 x4 x5 x6 x7 x8 x9 : Value} (h : Blk w g t #[x0, x1, x2, x3, x4, x5, x6, x7, x8, x9]) (a b c d e f h' i j k : Value) : Blk ((((((((((w.setCell ⟨g, 0, none⟩ a).setCell ⟨g, 1, none⟩ b).setCell ⟨g, 2, none⟩ c).setCell ⟨g, 3, none⟩ d).setCell ⟨g, 4, none⟩ e).setCell ⟨g, 5, none⟩ f).setCell ⟨g, 6, none⟩ h').setCell ⟨g, 7, none⟩ i).setCell ⟨g, 8, none⟩ j).setCell ⟨g, 9, none⟩ k) g t #[a, b, c, d, e, f, h', i, j, k] := h.ten a b c d e f h' i j k
theorem own_one' {w : World} {base g : Nat} {e : TypeId} {size : Nat} {cs : Array Value} (hg : g = w.heap.size) (hb : base ≤ w.heap.size) (hs : cs.size = size) : (w.alloc (.cells cs e)).ownsRow base e size (.slice (some ⟨g, 0, none⟩) 1 1) 1 cs.toList := by subst hg; exact own_one hb hs
theorem cellfar {w : World} {b o : Nat} {u : Value} (h : w.cell? ⟨b, o, none⟩ = some u) {p : Addr} (hp : p.block ≠ b) (v : Value) : (w.setCell p v).cell? ⟨b, o, none⟩ = some u := (World.cell?_setCell_far w p ⟨b, o, none⟩ v hp).trans h
theorem celldrew {w : World} {a : Addr} {u : Value} (h : w.cell? a = some u) : w.drew.cell? a = some u := h
theorem cellalloc {w : World} {a : Addr} {u : Value} (h : w.cell? a = some u) (o : Obj) : (w.alloc o).cell? a = some u := (World.cell?_alloc_some w a o (by rw [h]; rfl)).trans h
theorem open_ret {R : Ending → World → Prop} {a : Act} {W : World} {g2 g3 : Nat} {vo vn x0 x1 x2 x3 x4 x5 x6 x7 x8 x9 z0 z1 : Value} (h8 : a.tmps[8]?.getD undef = .pointer (some ⟨g2, 0, none⟩)) (h9 : a.tmps[9]?.getD undef = .pointer (some ⟨g3, 0, none⟩)) (h10 : a.tmps[10]?.getD undef = vo) (h11 : a.tmps[11]?.getD undef = vn) (hd : a.defers = [])
    (hb2 : Blk W g2 81 #[x0, x1, x2, x3, x4, x5, x6, x7, x8, x9]) (hb3 : Blk W g3 46 #[z0, z1]) (h : R (.returned (.tuple #[.agg #[x0, x1, x2, x3, x4, x5, x6, x7, x8, x9], .agg #[z0, z1], vo, vn])) W) : bodyPost Try.prog Try.f67 R .ret a W := by
  have s0 := hb2.cell 0
  have s1 := hb2.cell 1
  have s2 := hb2.cell 2
  have s3 := hb2.cell 3
  have s4 := hb2.cell 4
  have s5 := hb2.cell 5
  have s6 := hb2.cell 6
  have s7 := hb2.cell 7
  have s8 := hb2.cell 8
  have s9 := hb2.cell 9
  have q0 := hb3.cell 0
  have q1 := hb3.cell 1
  simp only [List.getElem?_toArray, List.getElem?_cons_zero, List.getElem?_cons_succ] at s0 s1 s2 s3 s4 s5 s6 s7 s8 s9 q0 q1
  exact bodyPost_ret (v := .tuple #[.agg #[x0, x1, x2, x3, x4, x5, x6, x7, x8, x9], .agg #[z0, z1], vo, vn]) (by simp [results, Try.results67, go_sem, h8, h9, h10, h11, s0, s1, s2, s3, s4, s5, s6, s7, s8, s9, q0, q1]) hd h
theorem own_after {X Wf : World} {base g a b size : Nat} {e : TypeId} {cs : Array Value} (hG : Grow2 (X.alloc (.cells cs e)) Wf a b) (hg : g = X.heap.size) (hb : base ≤ X.heap.size) (hs : cs.size = size) (hna : g ≠ a) (hnb : g ≠ b) :
    Wf.ownsRow base e size (.slice (some ⟨g, 0, none⟩) 1 1) 1 cs.toList :=
  own_grow2 (own_one' hg hb hs) hG (by simp only [Value.ownBlock, ne_eq, Option.some.injEq]; exact hna) (by simp only [Value.ownBlock, ne_eq, Option.some.injEq]; exact hnb)
/-- Whom help is asked of. -/
def helpR (me ab sq : Int) : Option Int → List Pl.Ou
  | some n => [⟨n, 2, me, ab, sq⟩]
  | none => []
/-- What open leaves. -/
structure OpEnd (w : World) (S : Nat → Prop) (f0 : Int) (R : Pl.Rp × Pl.Tab × List Pl.Ou × List Pl.M) (e : Ending) (w' : World) : Prop where
  e : ∃ A' c' B' d' vo vn, e = .returned (.tuple #[.agg (rpc R.1 A' R.1.w.length c'), .agg #[.int .u16 f0, .slice B' (Pl.listT R.2.1).length d'], vo, vn]) ∧
    ReadsWt w' (fun b => S b ∧ vo.ownBlock ≠ some b) A' R.1.w ∧ ReadsM w' (fun b => S b ∧ vo.ownBlock ≠ some b) B' (Pl.listT R.2.1) ∧ w'.ownsRow w.heap.size 135 7 vo R.2.2.1.length (outs R.2.2.1) ∧ w'.ownsRow w.heap.size 25 3 vn R.2.2.2.length (rows R.2.2.2)
  b : Below w.heap.size w w'
set_option maxRecDepth 100000 in
set_option maxHeartbeats 4000000 in
theorem open_no (f0 f1 f2 f3 f4 f7 f8 : Int) (f6 : Bool) (A : Option Addr) (c : Nat) (L : List Pl.Wt) (B : Option Addr) (cB : Nat) (F : Pl.Tab) (now draw : Int) (w : World) (S : Nat → Prop) (hF : Pl.TOk f0 F) (h0 : 0 ≤ now) (h1 : now ≤ 1099511627776) (hp0 : 0 ≤ f8) (hp1 : f8 ≤ 1099511627776) 
    (hR : ReadsWt w (fun b => S b ∧ b < w.heap.size) A L) (hB : ReadsM w (fun b => S b ∧ b < w.heap.size) B (Pl.listT F)) (hS : ∀ b, w.heap.size ≤ b → S b) :
    Calls Try.prog 67 #[.agg #[.int .u16 f0, .int .i64 f1, .int .i64 f2, .int .i64 f3, .int .i64 f4, .bool false, .bool f6, .int .u16 f7, .int .i64 f8, .slice A L.length c], .int .i64 now, .int .u32 draw, .agg #[.int .u16 f0, .slice B (Pl.listT F).length cB]] w fun e w' => OpEnd w S f0 (⟨f0, f1, f2, f3, f4, false, f6, f7, f8, L⟩, F, [], []) e w' := by
  have HA := Lib.hid hR
  have HB := Lib.hid hB
  have HS := Lib.hid hS
  have HF := Lib.hid hF
  obtain ⟨n, hn⟩ : ∃ n, L.length = n := ⟨_, rfl⟩
  obtain ⟨nB, hnB⟩ : ∃ n, (Pl.listT F).length = n := ⟨_, rfl⟩
  have HN := Lib.hid hn
  have HNB := Lib.hid hnB
  rw [HN.out, HNB.out]
  clear hR hB hS hF hn hnB
  have s1 : (w.alloc (.cells #[.int .u16 f0, .int .i64 f1, .int .i64 f2, .int .i64 f3, .int .i64 f4, .bool false, .bool f6, .int .u16 f7, .int .i64 f8, .slice A n c] 81)).heap.size = w.heap.size + 1 := by simp
  have s2 : ((w.alloc (.cells #[.int .u16 f0, .int .i64 f1, .int .i64 f2, .int .i64 f3, .int .i64 f4, .bool false, .bool f6, .int .u16 f7, .int .i64 f8, .slice A n c] 81)).alloc (.cells #[.int .u16 f0, .slice B nB cB] 46)).heap.size = w.heap.size + 1 + 1 := by simp
  have s3 : (((w.alloc (.cells #[.int .u16 f0, .int .i64 f1, .int .i64 f2, .int .i64 f3, .int .i64 f4, .bool false, .bool f6, .int .u16 f7, .int .i64 f8, .slice A n c] 81)).alloc (.cells #[.int .u16 f0, .slice B nB cB] 46)).alloc (.cells #[.int .u16 0, .int .i64 0, .int .i64 0, .int .i64 0, .int .i64 0, .bool false, .bool false, .int .u16 0, .int .i64 0, .slice none 0 0] 81)).heap.size = w.heap.size + 1 + 1 + 1 := by simp
  have K0 := Lib.hid (((((Below.refl w.heap.size w).alloc (Nat.le_refl _) (.cells #[.int .u16 f0, .int .i64 f1, .int .i64 f2, .int .i64 f3, .int .i64 f4, .bool false, .bool f6, .int .u16 f7, .int .i64 f8, .slice A n c] 81)).alloc (by rw [s1]; omega) (.cells #[.int .u16 f0, .slice B nB cB] 46)).alloc (by rw [s2]; omega) (.cells #[.int .u16 0, .int .i64 0, .int .i64 0, .int .i64 0, .int .i64 0, .bool false, .bool false, .int .u16 0, .int .i64 0, .slice none 0 0] 81)).alloc (by rw [s3]; omega) (.cells #[.int .u16 0, .slice none 0 0] 46))
  have BP0 : Hid (Blk ((((w.alloc (.cells #[.int .u16 f0, .int .i64 f1, .int .i64 f2, .int .i64 f3, .int .i64 f4, .bool false, .bool f6, .int .u16 f7, .int .i64 f8, .slice A n c] 81)).alloc (.cells #[.int .u16 f0, .slice B nB cB] 46)).alloc (.cells #[.int .u16 0, .int .i64 0, .int .i64 0, .int .i64 0, .int .i64 0, .bool false, .bool false, .int .u16 0, .int .i64 0, .slice none 0 0] 81)).alloc (.cells #[.int .u16 0, .slice none 0 0] 46)) w.heap.size 81 #[.int .u16 f0, .int .i64 f1, .int .i64 f2, .int .i64 f3, .int .i64 f4, .bool false, .bool f6, .int .u16 f7, .int .i64 f8, .slice A n c]) := Lib.hid ((((Blk.new w 81 #[.int .u16 f0, .int .i64 f1, .int .i64 f2, .int .i64 f3, .int .i64 f4, .bool false, .bool f6, .int .u16 f7, .int .i64 f8, .slice A n c]).alloc (.cells #[.int .u16 f0, .slice B nB cB] 46)).alloc (.cells #[.int .u16 0, .int .i64 0, .int .i64 0, .int .i64 0, .int .i64 0, .bool false, .bool false, .int .u16 0, .int .i64 0, .slice none 0 0] 81)).alloc (.cells #[.int .u16 0, .slice none 0 0] 46))
  have BT0 : Hid (Blk ((((w.alloc (.cells #[.int .u16 f0, .int .i64 f1, .int .i64 f2, .int .i64 f3, .int .i64 f4, .bool false, .bool f6, .int .u16 f7, .int .i64 f8, .slice A n c] 81)).alloc (.cells #[.int .u16 f0, .slice B nB cB] 46)).alloc (.cells #[.int .u16 0, .int .i64 0, .int .i64 0, .int .i64 0, .int .i64 0, .bool false, .bool false, .int .u16 0, .int .i64 0, .slice none 0 0] 81)).alloc (.cells #[.int .u16 0, .slice none 0 0] 46)) (w.heap.size + 1) 46 #[.int .u16 f0, .slice B nB cB]) := Lib.hid (((Blk.new_at' (w := (w.alloc (.cells #[.int .u16 f0, .int .i64 f1, .int .i64 f2, .int .i64 f3, .int .i64 f4, .bool false, .bool f6, .int .u16 f7, .int .i64 f8, .slice A n c] 81))) (t := 46) (cs := #[.int .u16 f0, .slice B nB cB]) s1.symm).alloc (.cells #[.int .u16 0, .int .i64 0, .int .i64 0, .int .i64 0, .int .i64 0, .bool false, .bool false, .int .u16 0, .int .i64 0, .slice none 0 0] 81)).alloc (.cells #[.int .u16 0, .slice none 0 0] 46))
  have BZ0 : Hid (Blk ((((w.alloc (.cells #[.int .u16 f0, .int .i64 f1, .int .i64 f2, .int .i64 f3, .int .i64 f4, .bool false, .bool f6, .int .u16 f7, .int .i64 f8, .slice A n c] 81)).alloc (.cells #[.int .u16 f0, .slice B nB cB] 46)).alloc (.cells #[.int .u16 0, .int .i64 0, .int .i64 0, .int .i64 0, .int .i64 0, .bool false, .bool false, .int .u16 0, .int .i64 0, .slice none 0 0] 81)).alloc (.cells #[.int .u16 0, .slice none 0 0] 46)) (w.heap.size + 1 + 1) 81 #[.int .u16 0, .int .i64 0, .int .i64 0, .int .i64 0, .int .i64 0, .bool false, .bool false, .int .u16 0, .int .i64 0, .slice none 0 0]) := Lib.hid ((Blk.new_at' (w := ((w.alloc (.cells #[.int .u16 f0, .int .i64 f1, .int .i64 f2, .int .i64 f3, .int .i64 f4, .bool false, .bool f6, .int .u16 f7, .int .i64 f8, .slice A n c] 81)).alloc (.cells #[.int .u16 f0, .slice B nB cB] 46))) (t := 81) (cs := #[.int .u16 0, .int .i64 0, .int .i64 0, .int .i64 0, .int .i64 0, .bool false, .bool false, .int .u16 0, .int .i64 0, .slice none 0 0]) s2.symm).alloc (.cells #[.int .u16 0, .slice none 0 0] 46))
  have BY0 : Hid (Blk ((((w.alloc (.cells #[.int .u16 f0, .int .i64 f1, .int .i64 f2, .int .i64 f3, .int .i64 f4, .bool false, .bool f6, .int .u16 f7, .int .i64 f8, .slice A n c] 81)).alloc (.cells #[.int .u16 f0, .slice B nB cB] 46)).alloc (.cells #[.int .u16 0, .int .i64 0, .int .i64 0, .int .i64 0, .int .i64 0, .bool false, .bool false, .int .u16 0, .int .i64 0, .slice none 0 0] 81)).alloc (.cells #[.int .u16 0, .slice none 0 0] 46)) (w.heap.size + 1 + 1 + 1) 46 #[.int .u16 0, .slice none 0 0]) := Lib.hid (Blk.new_at' (w := (((w.alloc (.cells #[.int .u16 f0, .int .i64 f1, .int .i64 f2, .int .i64 f3, .int .i64 f4, .bool false, .bool f6, .int .u16 f7, .int .i64 f8, .slice A n c] 81)).alloc (.cells #[.int .u16 f0, .slice B nB cB] 46)).alloc (.cells #[.int .u16 0, .int .i64 0, .int .i64 0, .int .i64 0, .int .i64 0, .bool false, .bool false, .int .u16 0, .int .i64 0, .slice none 0 0] 81))) (t := 46) (cs := #[.int .u16 0, .slice none 0 0]) s3.symm)
  have RM0 : Hid (ReadsM ((((w.alloc (.cells #[.int .u16 f0, .int .i64 f1, .int .i64 f2, .int .i64 f3, .int .i64 f4, .bool false, .bool f6, .int .u16 f7, .int .i64 f8, .slice A n c] 81)).alloc (.cells #[.int .u16 f0, .slice B nB cB] 46)).alloc (.cells #[.int .u16 0, .int .i64 0, .int .i64 0, .int .i64 0, .int .i64 0, .bool false, .bool false, .int .u16 0, .int .i64 0, .slice none 0 0] 81)).alloc (.cells #[.int .u16 0, .slice none 0 0] 46)) (fun b => S b ∧ b ≠ w.heap.size ∧ b ≠ w.heap.size + 1 ∧ b ≠ w.heap.size + 1 + 1 ∧ b ≠ w.heap.size + 1 + 1 + 1) B (Pl.listT F)) := Lib.hid ((HB.out.below (by omega) K0.out).imp (fun b hb => ⟨hb.1, by omega, by omega, by omega, by omega⟩))
  have RA0 : Hid (ReadsWt ((((w.alloc (.cells #[.int .u16 f0, .int .i64 f1, .int .i64 f2, .int .i64 f3, .int .i64 f4, .bool false, .bool f6, .int .u16 f7, .int .i64 f8, .slice A n c] 81)).alloc (.cells #[.int .u16 f0, .slice B nB cB] 46)).alloc (.cells #[.int .u16 0, .int .i64 0, .int .i64 0, .int .i64 0, .int .i64 0, .bool false, .bool false, .int .u16 0, .int .i64 0, .slice none 0 0] 81)).alloc (.cells #[.int .u16 0, .slice none 0 0] 46)) (fun b => S b ∧ b ≠ w.heap.size ∧ b ≠ w.heap.size + 1 ∧ b ≠ w.heap.size + 1 + 1 ∧ b ≠ w.heap.size + 1 + 1 + 1) A L) := Lib.hid ((HA.out.below (by omega) K0.out).imp (fun b hb => ⟨hb.1, by omega, by omega, by omega, by omega⟩))
  have hs4 : ((((w.alloc (.cells #[.int .u16 f0, .int .i64 f1, .int .i64 f2, .int .i64 f3, .int .i64 f4, .bool false, .bool f6, .int .u16 f7, .int .i64 f8, .slice A n c] 81)).alloc (.cells #[.int .u16 f0, .slice B nB cB] 46)).alloc (.cells #[.int .u16 0, .int .i64 0, .int .i64 0, .int .i64 0, .int .i64 0, .bool false, .bool false, .int .u16 0, .int .i64 0, .slice none 0 0] 81)).alloc (.cells #[.int .u16 0, .slice none 0 0] 46)).heap.size = w.heap.size + 1 + 1 + 1 + 1 := by rw [World.size_alloc, s3]
  clear s1 s2 s3
  go_enter Try.func67, Try.ntmps67
  go_upto_region 1 with fail
  generalize ((((w.alloc (.cells #[.int .u16 f0, .int .i64 f1, .int .i64 f2, .int .i64 f3, .int .i64 f4, .bool false, .bool f6, .int .u16 f7, .int .i64 f8, .slice A n c] 81)).alloc (.cells #[.int .u16 f0, .slice B nB cB] 46)).alloc (.cells #[.int .u16 0, .int .i64 0, .int .i64 0, .int .i64 0, .int .i64 0, .bool false, .bool false, .int .u16 0, .int .i64 0, .slice none 0 0] 81)).alloc (.cells #[.int .u16 0, .slice none 0 0] 46)) = w0 at *
  have r0 := BP0.out.cell 0
  have r1 := BP0.out.cell 1
  have r2 := BP0.out.cell 2
  have r3 := BP0.out.cell 3
  have r4 := BP0.out.cell 4
  have r5 := BP0.out.cell 5
  have r6 := BP0.out.cell 6
  have r7 := BP0.out.cell 7
  have r8 := BP0.out.cell 8
  have r9 := BP0.out.cell 9
  have z0 := BZ0.out.cell 0
  have z1 := BZ0.out.cell 1
  have z2 := BZ0.out.cell 2
  have z3 := BZ0.out.cell 3
  have z4 := BZ0.out.cell 4
  have z5 := BZ0.out.cell 5
  have z6 := BZ0.out.cell 6
  have z7 := BZ0.out.cell 7
  have z8 := BZ0.out.cell 8
  have z9 := BZ0.out.cell 9
  have t0 := BT0.out.cell 0
  have t1 := BT0.out.cell 1
  have y0 := BY0.out.cell 0
  have y1 := BY0.out.cell 1
  have rf := BP0.out.frozen
  have tf := BT0.out.frozen
  have zf := BZ0.out.frozen
  have yf := BY0.out.frozen
  simp only [List.getElem?_toArray, List.getElem?_cons_zero, List.getElem?_cons_succ] at r0 z0 r1 z1 r2 z2 r3 z3 r4 z4 r5 z5 r6 z6 r7 z7 r8 z8 r9 z9 t0 t1 y0 y1
  go_wp2
  go_region
  go_wp2
  have hf := ret_two BZ0.out BY0.out (by omega) (.int .u16 f0) (.int .i64 f1) (.int .i64 f2) (.int .i64 f3) (.int .i64 f4) (.bool false) (.bool f6) (.int .u16 f7) (.int .i64 f8) (.slice A n c) (.int .u16 f0) (.slice B nB cB)
  unfold fin12 ten at hf
  obtain ⟨hf1, hf2, hf3⟩ := hf
  have s0 := hf1.cell 0
  have s1 := hf1.cell 1
  have s2 := hf1.cell 2
  have s3 := hf1.cell 3
  have s4 := hf1.cell 4
  have s5 := hf1.cell 5
  have s6 := hf1.cell 6
  have s7 := hf1.cell 7
  have s8 := hf1.cell 8
  have s9 := hf1.cell 9
  have q0 := hf2.cell 0
  have q1 := hf2.cell 1
  simp only [List.getElem?_toArray, List.getElem?_cons_zero, List.getElem?_cons_succ] at s0 s1 s2 s3 s4 s5 s6 s7 s8 s9 q0 q1
  have KF : Below w.heap.size w _ := K0.out.trans (below_of_grow2 hf3 K0.out.size (by omega) (by omega))
  refine bodyPost_ret (v := .tuple #[.agg #[.int .u16 f0, .int .i64 f1, .int .i64 f2, .int .i64 f3, .int .i64 f4, .bool false, .bool f6, .int .u16 f7, .int .i64 f8, .slice A n c], .agg #[.int .u16 f0, .slice B nB cB], .slice none 0 0, .slice none 0 0]) (by simp [results, Try.results67, go_sem, s0, s1, s2, s3, s4, s5, s6, s7, s8, s9, q0, q1]) rfl ⟨⟨A, c, B, cB, .slice none 0 0, .slice none 0 0, ?_, ?_, ?_, ?_, ?_⟩, KF⟩
  · simp only [rpc]; rw [HN.out, HNB.out]
  · exact (RA0.out.there (by omega)).keep (fun b hb => hf3.block b hb.2 hb.1.2.2.2.1 hb.1.2.2.2.2) |>.imp (fun b hb => ⟨hb.1.1, by simp [Value.ownBlock]⟩)
  · exact (Reads.there RM0.out (by omega)).keep (fun b hb => hf3.block b hb.2 hb.1.2.2.2.1 hb.1.2.2.2.2) |>.imp (fun b hb => ⟨hb.1.1, by simp [Value.ownBlock]⟩)
  · exact own_nil _ _ _ _
  · exact own_nil _ _ _ _
set_option maxRecDepth 100000 in
set_option maxHeartbeats 4000000 in
theorem open_idle (f0 f1 f2 f3 f4 f7 f8 : Int) (f6 : Bool) (A : Option Addr) (c : Nat) (L : List Pl.Wt) (B : Option Addr) (cB : Nat) (F : Pl.Tab) (now draw : Int) (w : World) (S : Nat → Prop) (hF : Pl.TOk f0 F) (h0 : 0 ≤ now) (h1 : now ≤ 1099511627776) (hp0 : 0 ≤ f8) (hp1 : f8 ≤ 1099511627776) (hi : now - f8 < f1) (hj : now - f8 < f2 ∨ f6 = true)
    (hR : ReadsWt w (fun b => S b ∧ b < w.heap.size) A L) (hB : ReadsM w (fun b => S b ∧ b < w.heap.size) B (Pl.listT F)) (hS : ∀ b, w.heap.size ≤ b → S b) :
    Calls Try.prog 67 #[.agg #[.int .u16 f0, .int .i64 f1, .int .i64 f2, .int .i64 f3, .int .i64 f4, .bool true, .bool f6, .int .u16 f7, .int .i64 f8, .slice A L.length c], .int .i64 now, .int .u32 draw, .agg #[.int .u16 f0, .slice B (Pl.listT F).length cB]] w fun e w' => OpEnd w S f0 (⟨f0, f1, f2, f3, f4, true, f6, f7, f8, L⟩, F, [], []) e w' := by
  have HA := Lib.hid hR
  have HB := Lib.hid hB
  have HS := Lib.hid hS
  have HF := Lib.hid hF
  obtain ⟨n, hn⟩ : ∃ n, L.length = n := ⟨_, rfl⟩
  obtain ⟨nB, hnB⟩ : ∃ n, (Pl.listT F).length = n := ⟨_, rfl⟩
  have HN := Lib.hid hn
  have HNB := Lib.hid hnB
  rw [HN.out, HNB.out]
  clear hR hB hS hF hn hnB
  have s1 : (w.alloc (.cells #[.int .u16 f0, .int .i64 f1, .int .i64 f2, .int .i64 f3, .int .i64 f4, .bool true, .bool f6, .int .u16 f7, .int .i64 f8, .slice A n c] 81)).heap.size = w.heap.size + 1 := by simp
  have s2 : ((w.alloc (.cells #[.int .u16 f0, .int .i64 f1, .int .i64 f2, .int .i64 f3, .int .i64 f4, .bool true, .bool f6, .int .u16 f7, .int .i64 f8, .slice A n c] 81)).alloc (.cells #[.int .u16 f0, .slice B nB cB] 46)).heap.size = w.heap.size + 1 + 1 := by simp
  have s3 : (((w.alloc (.cells #[.int .u16 f0, .int .i64 f1, .int .i64 f2, .int .i64 f3, .int .i64 f4, .bool true, .bool f6, .int .u16 f7, .int .i64 f8, .slice A n c] 81)).alloc (.cells #[.int .u16 f0, .slice B nB cB] 46)).alloc (.cells #[.int .u16 0, .int .i64 0, .int .i64 0, .int .i64 0, .int .i64 0, .bool false, .bool false, .int .u16 0, .int .i64 0, .slice none 0 0] 81)).heap.size = w.heap.size + 1 + 1 + 1 := by simp
  have K0 := Lib.hid (((((Below.refl w.heap.size w).alloc (Nat.le_refl _) (.cells #[.int .u16 f0, .int .i64 f1, .int .i64 f2, .int .i64 f3, .int .i64 f4, .bool true, .bool f6, .int .u16 f7, .int .i64 f8, .slice A n c] 81)).alloc (by rw [s1]; omega) (.cells #[.int .u16 f0, .slice B nB cB] 46)).alloc (by rw [s2]; omega) (.cells #[.int .u16 0, .int .i64 0, .int .i64 0, .int .i64 0, .int .i64 0, .bool false, .bool false, .int .u16 0, .int .i64 0, .slice none 0 0] 81)).alloc (by rw [s3]; omega) (.cells #[.int .u16 0, .slice none 0 0] 46))
  have BP0 : Hid (Blk ((((w.alloc (.cells #[.int .u16 f0, .int .i64 f1, .int .i64 f2, .int .i64 f3, .int .i64 f4, .bool true, .bool f6, .int .u16 f7, .int .i64 f8, .slice A n c] 81)).alloc (.cells #[.int .u16 f0, .slice B nB cB] 46)).alloc (.cells #[.int .u16 0, .int .i64 0, .int .i64 0, .int .i64 0, .int .i64 0, .bool false, .bool false, .int .u16 0, .int .i64 0, .slice none 0 0] 81)).alloc (.cells #[.int .u16 0, .slice none 0 0] 46)) w.heap.size 81 #[.int .u16 f0, .int .i64 f1, .int .i64 f2, .int .i64 f3, .int .i64 f4, .bool true, .bool f6, .int .u16 f7, .int .i64 f8, .slice A n c]) := Lib.hid ((((Blk.new w 81 #[.int .u16 f0, .int .i64 f1, .int .i64 f2, .int .i64 f3, .int .i64 f4, .bool true, .bool f6, .int .u16 f7, .int .i64 f8, .slice A n c]).alloc (.cells #[.int .u16 f0, .slice B nB cB] 46)).alloc (.cells #[.int .u16 0, .int .i64 0, .int .i64 0, .int .i64 0, .int .i64 0, .bool false, .bool false, .int .u16 0, .int .i64 0, .slice none 0 0] 81)).alloc (.cells #[.int .u16 0, .slice none 0 0] 46))
  have BT0 : Hid (Blk ((((w.alloc (.cells #[.int .u16 f0, .int .i64 f1, .int .i64 f2, .int .i64 f3, .int .i64 f4, .bool true, .bool f6, .int .u16 f7, .int .i64 f8, .slice A n c] 81)).alloc (.cells #[.int .u16 f0, .slice B nB cB] 46)).alloc (.cells #[.int .u16 0, .int .i64 0, .int .i64 0, .int .i64 0, .int .i64 0, .bool false, .bool false, .int .u16 0, .int .i64 0, .slice none 0 0] 81)).alloc (.cells #[.int .u16 0, .slice none 0 0] 46)) (w.heap.size + 1) 46 #[.int .u16 f0, .slice B nB cB]) := Lib.hid (((Blk.new_at' (w := (w.alloc (.cells #[.int .u16 f0, .int .i64 f1, .int .i64 f2, .int .i64 f3, .int .i64 f4, .bool true, .bool f6, .int .u16 f7, .int .i64 f8, .slice A n c] 81))) (t := 46) (cs := #[.int .u16 f0, .slice B nB cB]) s1.symm).alloc (.cells #[.int .u16 0, .int .i64 0, .int .i64 0, .int .i64 0, .int .i64 0, .bool false, .bool false, .int .u16 0, .int .i64 0, .slice none 0 0] 81)).alloc (.cells #[.int .u16 0, .slice none 0 0] 46))
  have BZ0 : Hid (Blk ((((w.alloc (.cells #[.int .u16 f0, .int .i64 f1, .int .i64 f2, .int .i64 f3, .int .i64 f4, .bool true, .bool f6, .int .u16 f7, .int .i64 f8, .slice A n c] 81)).alloc (.cells #[.int .u16 f0, .slice B nB cB] 46)).alloc (.cells #[.int .u16 0, .int .i64 0, .int .i64 0, .int .i64 0, .int .i64 0, .bool false, .bool false, .int .u16 0, .int .i64 0, .slice none 0 0] 81)).alloc (.cells #[.int .u16 0, .slice none 0 0] 46)) (w.heap.size + 1 + 1) 81 #[.int .u16 0, .int .i64 0, .int .i64 0, .int .i64 0, .int .i64 0, .bool false, .bool false, .int .u16 0, .int .i64 0, .slice none 0 0]) := Lib.hid ((Blk.new_at' (w := ((w.alloc (.cells #[.int .u16 f0, .int .i64 f1, .int .i64 f2, .int .i64 f3, .int .i64 f4, .bool true, .bool f6, .int .u16 f7, .int .i64 f8, .slice A n c] 81)).alloc (.cells #[.int .u16 f0, .slice B nB cB] 46))) (t := 81) (cs := #[.int .u16 0, .int .i64 0, .int .i64 0, .int .i64 0, .int .i64 0, .bool false, .bool false, .int .u16 0, .int .i64 0, .slice none 0 0]) s2.symm).alloc (.cells #[.int .u16 0, .slice none 0 0] 46))
  have BY0 : Hid (Blk ((((w.alloc (.cells #[.int .u16 f0, .int .i64 f1, .int .i64 f2, .int .i64 f3, .int .i64 f4, .bool true, .bool f6, .int .u16 f7, .int .i64 f8, .slice A n c] 81)).alloc (.cells #[.int .u16 f0, .slice B nB cB] 46)).alloc (.cells #[.int .u16 0, .int .i64 0, .int .i64 0, .int .i64 0, .int .i64 0, .bool false, .bool false, .int .u16 0, .int .i64 0, .slice none 0 0] 81)).alloc (.cells #[.int .u16 0, .slice none 0 0] 46)) (w.heap.size + 1 + 1 + 1) 46 #[.int .u16 0, .slice none 0 0]) := Lib.hid (Blk.new_at' (w := (((w.alloc (.cells #[.int .u16 f0, .int .i64 f1, .int .i64 f2, .int .i64 f3, .int .i64 f4, .bool true, .bool f6, .int .u16 f7, .int .i64 f8, .slice A n c] 81)).alloc (.cells #[.int .u16 f0, .slice B nB cB] 46)).alloc (.cells #[.int .u16 0, .int .i64 0, .int .i64 0, .int .i64 0, .int .i64 0, .bool false, .bool false, .int .u16 0, .int .i64 0, .slice none 0 0] 81))) (t := 46) (cs := #[.int .u16 0, .slice none 0 0]) s3.symm)
  have RM0 : Hid (ReadsM ((((w.alloc (.cells #[.int .u16 f0, .int .i64 f1, .int .i64 f2, .int .i64 f3, .int .i64 f4, .bool true, .bool f6, .int .u16 f7, .int .i64 f8, .slice A n c] 81)).alloc (.cells #[.int .u16 f0, .slice B nB cB] 46)).alloc (.cells #[.int .u16 0, .int .i64 0, .int .i64 0, .int .i64 0, .int .i64 0, .bool false, .bool false, .int .u16 0, .int .i64 0, .slice none 0 0] 81)).alloc (.cells #[.int .u16 0, .slice none 0 0] 46)) (fun b => S b ∧ b ≠ w.heap.size ∧ b ≠ w.heap.size + 1 ∧ b ≠ w.heap.size + 1 + 1 ∧ b ≠ w.heap.size + 1 + 1 + 1) B (Pl.listT F)) := Lib.hid ((HB.out.below (by omega) K0.out).imp (fun b hb => ⟨hb.1, by omega, by omega, by omega, by omega⟩))
  have RA0 : Hid (ReadsWt ((((w.alloc (.cells #[.int .u16 f0, .int .i64 f1, .int .i64 f2, .int .i64 f3, .int .i64 f4, .bool true, .bool f6, .int .u16 f7, .int .i64 f8, .slice A n c] 81)).alloc (.cells #[.int .u16 f0, .slice B nB cB] 46)).alloc (.cells #[.int .u16 0, .int .i64 0, .int .i64 0, .int .i64 0, .int .i64 0, .bool false, .bool false, .int .u16 0, .int .i64 0, .slice none 0 0] 81)).alloc (.cells #[.int .u16 0, .slice none 0 0] 46)) (fun b => S b ∧ b ≠ w.heap.size ∧ b ≠ w.heap.size + 1 ∧ b ≠ w.heap.size + 1 + 1 ∧ b ≠ w.heap.size + 1 + 1 + 1) A L) := Lib.hid ((HA.out.below (by omega) K0.out).imp (fun b hb => ⟨hb.1, by omega, by omega, by omega, by omega⟩))
  have hs4 : ((((w.alloc (.cells #[.int .u16 f0, .int .i64 f1, .int .i64 f2, .int .i64 f3, .int .i64 f4, .bool true, .bool f6, .int .u16 f7, .int .i64 f8, .slice A n c] 81)).alloc (.cells #[.int .u16 f0, .slice B nB cB] 46)).alloc (.cells #[.int .u16 0, .int .i64 0, .int .i64 0, .int .i64 0, .int .i64 0, .bool false, .bool false, .int .u16 0, .int .i64 0, .slice none 0 0] 81)).alloc (.cells #[.int .u16 0, .slice none 0 0] 46)).heap.size = w.heap.size + 1 + 1 + 1 + 1 := by rw [World.size_alloc, s3]
  clear s1 s2 s3
  go_enter Try.func67, Try.ntmps67
  go_upto_region 1 with fail
  generalize ((((w.alloc (.cells #[.int .u16 f0, .int .i64 f1, .int .i64 f2, .int .i64 f3, .int .i64 f4, .bool true, .bool f6, .int .u16 f7, .int .i64 f8, .slice A n c] 81)).alloc (.cells #[.int .u16 f0, .slice B nB cB] 46)).alloc (.cells #[.int .u16 0, .int .i64 0, .int .i64 0, .int .i64 0, .int .i64 0, .bool false, .bool false, .int .u16 0, .int .i64 0, .slice none 0 0] 81)).alloc (.cells #[.int .u16 0, .slice none 0 0] 46)) = w0 at *
  have r0 := BP0.out.cell 0
  have r1 := BP0.out.cell 1
  have r2 := BP0.out.cell 2
  have r3 := BP0.out.cell 3
  have r4 := BP0.out.cell 4
  have r5 := BP0.out.cell 5
  have r6 := BP0.out.cell 6
  have r7 := BP0.out.cell 7
  have r8 := BP0.out.cell 8
  have r9 := BP0.out.cell 9
  have z0 := BZ0.out.cell 0
  have z1 := BZ0.out.cell 1
  have z2 := BZ0.out.cell 2
  have z3 := BZ0.out.cell 3
  have z4 := BZ0.out.cell 4
  have z5 := BZ0.out.cell 5
  have z6 := BZ0.out.cell 6
  have z7 := BZ0.out.cell 7
  have z8 := BZ0.out.cell 8
  have z9 := BZ0.out.cell 9
  have t0 := BT0.out.cell 0
  have t1 := BT0.out.cell 1
  have y0 := BY0.out.cell 0
  have y1 := BY0.out.cell 1
  have rf := BP0.out.frozen
  have tf := BT0.out.frozen
  have zf := BZ0.out.frozen
  have yf := BY0.out.frozen
  simp only [List.getElem?_toArray, List.getElem?_cons_zero, List.getElem?_cons_succ] at r0 z0 r1 z1 r2 z2 r3 z3 r4 z4 r5 z5 r6 z6 r7 z7 r8 z8 r9 z9 t0 t1 y0 y1
  have hd1 : decide (now - f8 ≥ f1) = false := by simp; omega
  by_cases hj2 : now - f8 < f2
  · have hd2 : decide (now - f8 ≥ f2) = false := by simp; omega
    go_wp2
    go_region
    go_wp2
    have hf := ret_two BZ0.out BY0.out (by omega) (.int .u16 f0) (.int .i64 f1) (.int .i64 f2) (.int .i64 f3) (.int .i64 f4) (.bool true) (.bool f6) (.int .u16 f7) (.int .i64 f8) (.slice A n c) (.int .u16 f0) (.slice B nB cB)
    unfold fin12 ten at hf
    obtain ⟨hf1, hf2, hf3⟩ := hf
    have s0 := hf1.cell 0
    have s1 := hf1.cell 1
    have s2 := hf1.cell 2
    have s3 := hf1.cell 3
    have s4 := hf1.cell 4
    have s5 := hf1.cell 5
    have s6 := hf1.cell 6
    have s7 := hf1.cell 7
    have s8 := hf1.cell 8
    have s9 := hf1.cell 9
    have q0 := hf2.cell 0
    have q1 := hf2.cell 1
    simp only [List.getElem?_toArray, List.getElem?_cons_zero, List.getElem?_cons_succ] at s0 s1 s2 s3 s4 s5 s6 s7 s8 s9 q0 q1
    have KF : Below w.heap.size w _ := K0.out.trans (below_of_grow2 hf3 K0.out.size (by omega) (by omega))
    refine bodyPost_ret (v := .tuple #[.agg #[.int .u16 f0, .int .i64 f1, .int .i64 f2, .int .i64 f3, .int .i64 f4, .bool true, .bool f6, .int .u16 f7, .int .i64 f8, .slice A n c], .agg #[.int .u16 f0, .slice B nB cB], .slice none 0 0, .slice none 0 0]) (by simp [results, Try.results67, go_sem, s0, s1, s2, s3, s4, s5, s6, s7, s8, s9, q0, q1]) rfl ⟨⟨A, c, B, cB, .slice none 0 0, .slice none 0 0, ?_, ?_, ?_, ?_, ?_⟩, KF⟩
    · simp only [rpc]; rw [HN.out, HNB.out]
    · exact (RA0.out.there (by omega)).keep (fun b hb => hf3.block b hb.2 hb.1.2.2.2.1 hb.1.2.2.2.2) |>.imp (fun b hb => ⟨hb.1.1, by simp [Value.ownBlock]⟩)
    · exact (Reads.there RM0.out (by omega)).keep (fun b hb => hf3.block b hb.2 hb.1.2.2.2.1 hb.1.2.2.2.2) |>.imp (fun b hb => ⟨hb.1.1, by simp [Value.ownBlock]⟩)
    · exact own_nil _ _ _ _
    · exact own_nil _ _ _ _
  · have hd2 : decide (now - f8 ≥ f2) = true := by simp; omega
    obtain rfl : f6 = true := by rcases hj with h | h; exact absurd h hj2; exact h
    go_wp2
    go_region
    go_wp2
    have hf := ret_two BZ0.out BY0.out (by omega) (.int .u16 f0) (.int .i64 f1) (.int .i64 f2) (.int .i64 f3) (.int .i64 f4) (.bool true) (.bool true) (.int .u16 f7) (.int .i64 f8) (.slice A n c) (.int .u16 f0) (.slice B nB cB)
    unfold fin12 ten at hf
    obtain ⟨hf1, hf2, hf3⟩ := hf
    have s0 := hf1.cell 0
    have s1 := hf1.cell 1
    have s2 := hf1.cell 2
    have s3 := hf1.cell 3
    have s4 := hf1.cell 4
    have s5 := hf1.cell 5
    have s6 := hf1.cell 6
    have s7 := hf1.cell 7
    have s8 := hf1.cell 8
    have s9 := hf1.cell 9
    have q0 := hf2.cell 0
    have q1 := hf2.cell 1
    simp only [List.getElem?_toArray, List.getElem?_cons_zero, List.getElem?_cons_succ] at s0 s1 s2 s3 s4 s5 s6 s7 s8 s9 q0 q1
    have KF : Below w.heap.size w _ := K0.out.trans (below_of_grow2 hf3 K0.out.size (by omega) (by omega))
    refine bodyPost_ret (v := .tuple #[.agg #[.int .u16 f0, .int .i64 f1, .int .i64 f2, .int .i64 f3, .int .i64 f4, .bool true, .bool true, .int .u16 f7, .int .i64 f8, .slice A n c], .agg #[.int .u16 f0, .slice B nB cB], .slice none 0 0, .slice none 0 0]) (by simp [results, Try.results67, go_sem, s0, s1, s2, s3, s4, s5, s6, s7, s8, s9, q0, q1]) rfl ⟨⟨A, c, B, cB, .slice none 0 0, .slice none 0 0, ?_, ?_, ?_, ?_, ?_⟩, KF⟩
    · simp only [rpc]; rw [HN.out, HNB.out]
    · exact (RA0.out.there (by omega)).keep (fun b hb => hf3.block b hb.2 hb.1.2.2.2.1 hb.1.2.2.2.2) |>.imp (fun b hb => ⟨hb.1.1, by simp [Value.ownBlock]⟩)
    · exact (Reads.there RM0.out (by omega)).keep (fun b hb => hf3.block b hb.2 hb.1.2.2.2.1 hb.1.2.2.2.2) |>.imp (fun b hb => ⟨hb.1.1, by simp [Value.ownBlock]⟩)
    · exact own_nil _ _ _ _
    · exact own_nil _ _ _ _
set_option maxRecDepth 100000 in
set_option maxHeartbeats 4000000 in
theorem open_help (f0 f1 f2 f3 f4 f7 f8 : Int) (A : Option Addr) (c : Nat) (L : List Pl.Wt) (B : Option Addr) (cB : Nat) (F : Pl.Tab) (now draw : Int) (w : World) (S : Nat → Prop) (hF : Pl.TOk f0 F) (h0 : 0 ≤ now) (h1 : now ≤ 1099511627776) (hp0 : 0 ≤ f8) (hp1 : f8 ≤ 1099511627776) (hd0 : 0 ≤ draw) (hd1 : draw ≤ 4294967295) (hi : now - f8 < f1) (hj : f2 ≤ now - f8)
    (hR : ReadsWt w (fun b => S b ∧ b < w.heap.size) A L) (hB : ReadsM w (fun b => S b ∧ b < w.heap.size) B (Pl.listT F)) (hS : ∀ b, w.heap.size ≤ b → S b) :
    Calls Try.prog 67 #[.agg #[.int .u16 f0, .int .i64 f1, .int .i64 f2, .int .i64 f3, .int .i64 f4, .bool true, .bool false, .int .u16 f7, .int .i64 f8, .slice A L.length c], .int .i64 now, .int .u32 draw, .agg #[.int .u16 f0, .slice B (Pl.listT F).length cB]] w fun e w' => OpEnd w S f0 (⟨f0, f1, f2, f3, f4, true, true, f7, f8, L⟩, F, helpR f0 f7 f4 (Pl.drawn (Pl.othersR F f0 f7) draw), []) e w' := by
  have HA := Lib.hid hR
  have HB := Lib.hid hB
  have HS := Lib.hid hS
  have HF := Lib.hid hF
  obtain ⟨n, hn⟩ : ∃ n, L.length = n := ⟨_, rfl⟩
  obtain ⟨nB, hnB⟩ : ∃ n, (Pl.listT F).length = n := ⟨_, rfl⟩
  have HN := Lib.hid hn
  have HNB := Lib.hid hnB
  rw [HN.out, HNB.out]
  clear hR hB hS hF hn hnB
  have s1 : (w.alloc (.cells #[.int .u16 f0, .int .i64 f1, .int .i64 f2, .int .i64 f3, .int .i64 f4, .bool true, .bool false, .int .u16 f7, .int .i64 f8, .slice A n c] 81)).heap.size = w.heap.size + 1 := by simp
  have s2 : ((w.alloc (.cells #[.int .u16 f0, .int .i64 f1, .int .i64 f2, .int .i64 f3, .int .i64 f4, .bool true, .bool false, .int .u16 f7, .int .i64 f8, .slice A n c] 81)).alloc (.cells #[.int .u16 f0, .slice B nB cB] 46)).heap.size = w.heap.size + 1 + 1 := by simp
  have s3 : (((w.alloc (.cells #[.int .u16 f0, .int .i64 f1, .int .i64 f2, .int .i64 f3, .int .i64 f4, .bool true, .bool false, .int .u16 f7, .int .i64 f8, .slice A n c] 81)).alloc (.cells #[.int .u16 f0, .slice B nB cB] 46)).alloc (.cells #[.int .u16 0, .int .i64 0, .int .i64 0, .int .i64 0, .int .i64 0, .bool false, .bool false, .int .u16 0, .int .i64 0, .slice none 0 0] 81)).heap.size = w.heap.size + 1 + 1 + 1 := by simp
  have K0 := Lib.hid (((((Below.refl w.heap.size w).alloc (Nat.le_refl _) (.cells #[.int .u16 f0, .int .i64 f1, .int .i64 f2, .int .i64 f3, .int .i64 f4, .bool true, .bool false, .int .u16 f7, .int .i64 f8, .slice A n c] 81)).alloc (by rw [s1]; omega) (.cells #[.int .u16 f0, .slice B nB cB] 46)).alloc (by rw [s2]; omega) (.cells #[.int .u16 0, .int .i64 0, .int .i64 0, .int .i64 0, .int .i64 0, .bool false, .bool false, .int .u16 0, .int .i64 0, .slice none 0 0] 81)).alloc (by rw [s3]; omega) (.cells #[.int .u16 0, .slice none 0 0] 46))
  have BP0 : Hid (Blk ((((w.alloc (.cells #[.int .u16 f0, .int .i64 f1, .int .i64 f2, .int .i64 f3, .int .i64 f4, .bool true, .bool false, .int .u16 f7, .int .i64 f8, .slice A n c] 81)).alloc (.cells #[.int .u16 f0, .slice B nB cB] 46)).alloc (.cells #[.int .u16 0, .int .i64 0, .int .i64 0, .int .i64 0, .int .i64 0, .bool false, .bool false, .int .u16 0, .int .i64 0, .slice none 0 0] 81)).alloc (.cells #[.int .u16 0, .slice none 0 0] 46)) w.heap.size 81 #[.int .u16 f0, .int .i64 f1, .int .i64 f2, .int .i64 f3, .int .i64 f4, .bool true, .bool false, .int .u16 f7, .int .i64 f8, .slice A n c]) := Lib.hid ((((Blk.new w 81 #[.int .u16 f0, .int .i64 f1, .int .i64 f2, .int .i64 f3, .int .i64 f4, .bool true, .bool false, .int .u16 f7, .int .i64 f8, .slice A n c]).alloc (.cells #[.int .u16 f0, .slice B nB cB] 46)).alloc (.cells #[.int .u16 0, .int .i64 0, .int .i64 0, .int .i64 0, .int .i64 0, .bool false, .bool false, .int .u16 0, .int .i64 0, .slice none 0 0] 81)).alloc (.cells #[.int .u16 0, .slice none 0 0] 46))
  have BT0 : Hid (Blk ((((w.alloc (.cells #[.int .u16 f0, .int .i64 f1, .int .i64 f2, .int .i64 f3, .int .i64 f4, .bool true, .bool false, .int .u16 f7, .int .i64 f8, .slice A n c] 81)).alloc (.cells #[.int .u16 f0, .slice B nB cB] 46)).alloc (.cells #[.int .u16 0, .int .i64 0, .int .i64 0, .int .i64 0, .int .i64 0, .bool false, .bool false, .int .u16 0, .int .i64 0, .slice none 0 0] 81)).alloc (.cells #[.int .u16 0, .slice none 0 0] 46)) (w.heap.size + 1) 46 #[.int .u16 f0, .slice B nB cB]) := Lib.hid (((Blk.new_at' (w := (w.alloc (.cells #[.int .u16 f0, .int .i64 f1, .int .i64 f2, .int .i64 f3, .int .i64 f4, .bool true, .bool false, .int .u16 f7, .int .i64 f8, .slice A n c] 81))) (t := 46) (cs := #[.int .u16 f0, .slice B nB cB]) s1.symm).alloc (.cells #[.int .u16 0, .int .i64 0, .int .i64 0, .int .i64 0, .int .i64 0, .bool false, .bool false, .int .u16 0, .int .i64 0, .slice none 0 0] 81)).alloc (.cells #[.int .u16 0, .slice none 0 0] 46))
  have BZ0 : Hid (Blk ((((w.alloc (.cells #[.int .u16 f0, .int .i64 f1, .int .i64 f2, .int .i64 f3, .int .i64 f4, .bool true, .bool false, .int .u16 f7, .int .i64 f8, .slice A n c] 81)).alloc (.cells #[.int .u16 f0, .slice B nB cB] 46)).alloc (.cells #[.int .u16 0, .int .i64 0, .int .i64 0, .int .i64 0, .int .i64 0, .bool false, .bool false, .int .u16 0, .int .i64 0, .slice none 0 0] 81)).alloc (.cells #[.int .u16 0, .slice none 0 0] 46)) (w.heap.size + 1 + 1) 81 #[.int .u16 0, .int .i64 0, .int .i64 0, .int .i64 0, .int .i64 0, .bool false, .bool false, .int .u16 0, .int .i64 0, .slice none 0 0]) := Lib.hid ((Blk.new_at' (w := ((w.alloc (.cells #[.int .u16 f0, .int .i64 f1, .int .i64 f2, .int .i64 f3, .int .i64 f4, .bool true, .bool false, .int .u16 f7, .int .i64 f8, .slice A n c] 81)).alloc (.cells #[.int .u16 f0, .slice B nB cB] 46))) (t := 81) (cs := #[.int .u16 0, .int .i64 0, .int .i64 0, .int .i64 0, .int .i64 0, .bool false, .bool false, .int .u16 0, .int .i64 0, .slice none 0 0]) s2.symm).alloc (.cells #[.int .u16 0, .slice none 0 0] 46))
  have BY0 : Hid (Blk ((((w.alloc (.cells #[.int .u16 f0, .int .i64 f1, .int .i64 f2, .int .i64 f3, .int .i64 f4, .bool true, .bool false, .int .u16 f7, .int .i64 f8, .slice A n c] 81)).alloc (.cells #[.int .u16 f0, .slice B nB cB] 46)).alloc (.cells #[.int .u16 0, .int .i64 0, .int .i64 0, .int .i64 0, .int .i64 0, .bool false, .bool false, .int .u16 0, .int .i64 0, .slice none 0 0] 81)).alloc (.cells #[.int .u16 0, .slice none 0 0] 46)) (w.heap.size + 1 + 1 + 1) 46 #[.int .u16 0, .slice none 0 0]) := Lib.hid (Blk.new_at' (w := (((w.alloc (.cells #[.int .u16 f0, .int .i64 f1, .int .i64 f2, .int .i64 f3, .int .i64 f4, .bool true, .bool false, .int .u16 f7, .int .i64 f8, .slice A n c] 81)).alloc (.cells #[.int .u16 f0, .slice B nB cB] 46)).alloc (.cells #[.int .u16 0, .int .i64 0, .int .i64 0, .int .i64 0, .int .i64 0, .bool false, .bool false, .int .u16 0, .int .i64 0, .slice none 0 0] 81))) (t := 46) (cs := #[.int .u16 0, .slice none 0 0]) s3.symm)
  have RM0 : Hid (ReadsM ((((w.alloc (.cells #[.int .u16 f0, .int .i64 f1, .int .i64 f2, .int .i64 f3, .int .i64 f4, .bool true, .bool false, .int .u16 f7, .int .i64 f8, .slice A n c] 81)).alloc (.cells #[.int .u16 f0, .slice B nB cB] 46)).alloc (.cells #[.int .u16 0, .int .i64 0, .int .i64 0, .int .i64 0, .int .i64 0, .bool false, .bool false, .int .u16 0, .int .i64 0, .slice none 0 0] 81)).alloc (.cells #[.int .u16 0, .slice none 0 0] 46)) (fun b => S b ∧ b ≠ w.heap.size ∧ b ≠ w.heap.size + 1 ∧ b ≠ w.heap.size + 1 + 1 ∧ b ≠ w.heap.size + 1 + 1 + 1) B (Pl.listT F)) := Lib.hid ((HB.out.below (by omega) K0.out).imp (fun b hb => ⟨hb.1, by omega, by omega, by omega, by omega⟩))
  have RA0 : Hid (ReadsWt ((((w.alloc (.cells #[.int .u16 f0, .int .i64 f1, .int .i64 f2, .int .i64 f3, .int .i64 f4, .bool true, .bool false, .int .u16 f7, .int .i64 f8, .slice A n c] 81)).alloc (.cells #[.int .u16 f0, .slice B nB cB] 46)).alloc (.cells #[.int .u16 0, .int .i64 0, .int .i64 0, .int .i64 0, .int .i64 0, .bool false, .bool false, .int .u16 0, .int .i64 0, .slice none 0 0] 81)).alloc (.cells #[.int .u16 0, .slice none 0 0] 46)) (fun b => S b ∧ b ≠ w.heap.size ∧ b ≠ w.heap.size + 1 ∧ b ≠ w.heap.size + 1 + 1 ∧ b ≠ w.heap.size + 1 + 1 + 1) A L) := Lib.hid ((HA.out.below (by omega) K0.out).imp (fun b hb => ⟨hb.1, by omega, by omega, by omega, by omega⟩))
  have hs4 : ((((w.alloc (.cells #[.int .u16 f0, .int .i64 f1, .int .i64 f2, .int .i64 f3, .int .i64 f4, .bool true, .bool false, .int .u16 f7, .int .i64 f8, .slice A n c] 81)).alloc (.cells #[.int .u16 f0, .slice B nB cB] 46)).alloc (.cells #[.int .u16 0, .int .i64 0, .int .i64 0, .int .i64 0, .int .i64 0, .bool false, .bool false, .int .u16 0, .int .i64 0, .slice none 0 0] 81)).alloc (.cells #[.int .u16 0, .slice none 0 0] 46)).heap.size = w.heap.size + 1 + 1 + 1 + 1 := by rw [World.size_alloc, s3]
  clear s1 s2 s3
  go_enter Try.func67, Try.ntmps67
  go_upto_region 1 with fail
  generalize ((((w.alloc (.cells #[.int .u16 f0, .int .i64 f1, .int .i64 f2, .int .i64 f3, .int .i64 f4, .bool true, .bool false, .int .u16 f7, .int .i64 f8, .slice A n c] 81)).alloc (.cells #[.int .u16 f0, .slice B nB cB] 46)).alloc (.cells #[.int .u16 0, .int .i64 0, .int .i64 0, .int .i64 0, .int .i64 0, .bool false, .bool false, .int .u16 0, .int .i64 0, .slice none 0 0] 81)).alloc (.cells #[.int .u16 0, .slice none 0 0] 46)) = w0 at *
  have hdd1 : decide (now - f8 ≥ f1) = false := by simp; omega
  have hdd2 : decide (now - f8 ≥ f2) = true := by simp; omega
  have r0 := BP0.out.cell 0
  have r1 := BP0.out.cell 1
  have r2 := BP0.out.cell 2
  have r3 := BP0.out.cell 3
  have r4 := BP0.out.cell 4
  have r5 := BP0.out.cell 5
  have r6 := BP0.out.cell 6
  have r7 := BP0.out.cell 7
  have r8 := BP0.out.cell 8
  have r9 := BP0.out.cell 9
  have z0 := BZ0.out.cell 0
  have z1 := BZ0.out.cell 1
  have z2 := BZ0.out.cell 2
  have z3 := BZ0.out.cell 3
  have z4 := BZ0.out.cell 4
  have z5 := BZ0.out.cell 5
  have z6 := BZ0.out.cell 6
  have z7 := BZ0.out.cell 7
  have z8 := BZ0.out.cell 8
  have z9 := BZ0.out.cell 9
  have t0 := BT0.out.cell 0
  have t1 := BT0.out.cell 1
  have y0 := BY0.out.cell 0
  have y1 := BY0.out.cell 1
  have rf := BP0.out.frozen
  have tf := BT0.out.frozen
  have zf := BZ0.out.frozen
  have yf := BY0.out.frozen
  simp only [List.getElem?_toArray, List.getElem?_cons_zero, List.getElem?_cons_succ] at r0 z0 r1 z1 r2 z2 r3 z3 r4 z4 r5 z5 r6 z6 r7 z7 r8 z8 r9 z9 t0 t1 y0 y1
  have BP1 : Hid (Blk (w0.setCell ⟨w.heap.size, 6, none⟩ (.bool true)) w.heap.size 81 #[.int .u16 f0, .int .i64 f1, .int .i64 f2, .int .i64 f3, .int .i64 f4, .bool true, .bool true, .int .u16 f7, .int .i64 f8, .slice A n c]) := by
    have h := BP0.out.set_ 6 (.bool true)
    simpa only [List.setIfInBounds_toArray, List.set_cons_succ, List.set_cons_zero] using Lib.hid h
  have BT1 := Lib.hid (BT0.out.far (p := ⟨w.heap.size, 6, none⟩) (by show w.heap.size + 1 ≠ w.heap.size; omega) (.bool true))
  have BZ1 := Lib.hid (BZ0.out.far (p := ⟨w.heap.size, 6, none⟩) (by show w.heap.size + 1 + 1 ≠ w.heap.size; omega) (.bool true))
  have BY1 := Lib.hid (BY0.out.far (p := ⟨w.heap.size, 6, none⟩) (by show w.heap.size + 1 + 1 + 1 ≠ w.heap.size; omega) (.bool true))
  have K1 := Lib.hid (K0.out.setCell (p := ⟨w.heap.size, 6, none⟩) (Nat.le_refl _) (.bool true))
  have RM1 := Lib.hid (ReadsM.set (p := ⟨w.heap.size, 6, none⟩) RM0.out (fun b hb => hb.2.1) (.bool true))
  have RA1 := Lib.hid (Reads.keep RA0.out (fun b hb => Below.heap_setCell w0 ⟨w.heap.size, 6, none⟩ (.bool true) b hb.2.1))
  have hs5 : (w0.setCell ⟨w.heap.size, 6, none⟩ (.bool true)).heap.size = w.heap.size + 1 + 1 + 1 + 1 := by simp only [World.setCell]; simpa using hs4
  have HOT : Hid (Calls Try.prog 68 #[.agg #[.int .u16 f0, .slice B (Pl.listT F).length cB], .int .u16 f0, .int .u16 f7] (w0.setCell ⟨w.heap.size, 6, none⟩ (.bool true)) fun e w' => ∃ v, e = .returned v ∧ w'.ownsRow (w0.setCell ⟨w.heap.size, 6, none⟩ (.bool true)).heap.size 22 1 v (Pl.othersR F f0 f7).length (u16s (Pl.othersR F f0 f7)) ∧ Below (w0.setCell ⟨w.heap.size, 6, none⟩ (.bool true)).heap.size (w0.setCell ⟨w.heap.size, 6, none⟩ (.bool true)) w') := Lib.hid (refOthers_any f0 f0 f7 B cB (Pl.listT F) (w0.setCell ⟨w.heap.size, 6, none⟩ (.bool true)) (RM1.out.imp fun _ _ => trivial) (by have := listLen F; omega))
  rw [HNB.out] at HOT
  go_wp2_with fail
  refine HOT.out.mono ?_
  clear r0 z0 r1 z1 r2 z2 r3 z3 r4 z4 r5 z5 r6 z6 r7 z7 r8 z8 r9 z9 t0 t1 y0 y1 rf tf zf yf
  rintro e w2 ⟨vO, rfl, ho, hb2⟩
  obtain ⟨AO, cO, rfl⟩ := own_slice ho
  have HO2 := Lib.hid ho
  have K2 := Lib.hid (below_then K1.out K1.out.size hb2)
  have BP2 := Lib.hid (BP1.out.below hb2 BP1.out.lt)
  have BT2 := Lib.hid (BT1.out.below hb2 BT1.out.lt)
  have BZ2 := Lib.hid (BZ1.out.below hb2 BZ1.out.lt)
  have BY2 := Lib.hid (BY1.out.below hb2 BY1.out.lt)
  have RM2 := Lib.hid (Reads.below RM1.out (by omega) hb2)
  have RA2 := Lib.hid (Reads.below RA1.out (by omega) hb2)
  have hs6 := hb2.size
  rw [hs5] at hs6
  clear ho hb2 HOT
  have hol : (Pl.othersR F f0 f7).length ≤ 64 := by
    have h1 : (Pl.othersR F f0 f7).length ≤ (Pl.thereT F).length := List.length_filter_le _ _
    have h2 := theres_length (Pl.listT F)
    have h3 := listLen F
    have h4 : Pl.thereT F = theres (Pl.listT F) := rfl
    rw [h4] at h1
    omega
  have r0 := BP2.out.cell 0
  have r1 := BP2.out.cell 1
  have r2 := BP2.out.cell 2
  have r3 := BP2.out.cell 3
  have r4 := BP2.out.cell 4
  have r5 := BP2.out.cell 5
  have r6 := BP2.out.cell 6
  have r7 := BP2.out.cell 7
  have r8 := BP2.out.cell 8
  have r9 := BP2.out.cell 9
  have z0 := BZ2.out.cell 0
  have z1 := BZ2.out.cell 1
  have z2 := BZ2.out.cell 2
  have z3 := BZ2.out.cell 3
  have z4 := BZ2.out.cell 4
  have z5 := BZ2.out.cell 5
  have z6 := BZ2.out.cell 6
  have z7 := BZ2.out.cell 7
  have z8 := BZ2.out.cell 8
  have z9 := BZ2.out.cell 9
  have t0 := BT2.out.cell 0
  have t1 := BT2.out.cell 1
  have y0 := BY2.out.cell 0
  have y1 := BY2.out.cell 1
  have rf := BP2.out.frozen
  have tf := BT2.out.frozen
  have zf := BZ2.out.frozen
  have yf := BY2.out.frozen
  simp only [List.getElem?_toArray, List.getElem?_cons_zero, List.getElem?_cons_succ] at r0 z0 r1 z1 r2 z2 r3 z3 r4 z4 r5 z5 r6 z6 r7 z7 r8 z8 r9 z9 t0 t1 y0 y1
  by_cases h0l : (Pl.othersR F f0 f7).length = 0
  · have hdr : Pl.drawn (Pl.othersR F f0 f7) draw = none := by unfold Pl.drawn; rw [List.getElem?_eq_none (by omega)]
    have HDR := Lib.hid hdr
    clear hdr
    go_wp2
    go_region
    go_wp2
    have hf := ret_two BZ2.out BY2.out (by omega) (.int .u16 f0) (.int .i64 f1) (.int .i64 f2) (.int .i64 f3) (.int .i64 f4) (.bool true) (.bool true) (.int .u16 f7) (.int .i64 f8) (.slice A n c) (.int .u16 f0) (.slice B nB cB)
    unfold fin12 ten at hf
    obtain ⟨hf1, hf2, hf3⟩ := hf
    have s0 := hf1.cell 0
    have s1 := hf1.cell 1
    have s2 := hf1.cell 2
    have s3 := hf1.cell 3
    have s4 := hf1.cell 4
    have s5 := hf1.cell 5
    have s6 := hf1.cell 6
    have s7 := hf1.cell 7
    have s8 := hf1.cell 8
    have s9 := hf1.cell 9
    have q0 := hf2.cell 0
    have q1 := hf2.cell 1
    simp only [List.getElem?_toArray, List.getElem?_cons_zero, List.getElem?_cons_succ] at s0 s1 s2 s3 s4 s5 s6 s7 s8 s9 q0 q1
    have KF : Below w.heap.size w _ := K2.out.trans (below_of_grow2 hf3 K2.out.size (by omega) (by omega))
    refine bodyPost_ret (v := .tuple #[.agg #[.int .u16 f0, .int .i64 f1, .int .i64 f2, .int .i64 f3, .int .i64 f4, .bool true, .bool true, .int .u16 f7, .int .i64 f8, .slice A n c], .agg #[.int .u16 f0, .slice B nB cB], .slice none 0 0, .slice none 0 0]) (by simp [results, Try.results67, go_sem, s0, s1, s2, s3, s4, s5, s6, s7, s8, s9, q0, q1]) rfl ⟨⟨A, c, B, cB, .slice none 0 0, .slice none 0 0, ?_, ?_, ?_, ?_, ?_⟩, KF⟩
    · simp only [rpc]; rw [HN.out, HNB.out]
    · exact (RA2.out.there (by omega)).keep (fun b hb => hf3.block b hb.2 hb.1.2.2.2.1 hb.1.2.2.2.2) |>.imp (fun b hb => ⟨hb.1.1, by simp [Value.ownBlock]⟩)
    · exact (Reads.there RM2.out (by omega)).keep (fun b hb => hf3.block b hb.2 hb.1.2.2.2.1 hb.1.2.2.2.2) |>.imp (fun b hb => ⟨hb.1.1, by simp [Value.ownBlock]⟩)
    · rw [HDR.out]; exact own_nil _ _ _ _
    · exact own_nil _ _ _ _
  · obtain ⟨kq, hkq⟩ : ∃ kq : Nat, draw.tmod ((Pl.othersR F f0 f7).length : Int) = (kq : Int) := ⟨(draw.tmod ((Pl.othersR F f0 f7).length : Int)).toNat, by rw [Int.toNat_of_nonneg]; exact Int.tmod_nonneg _ hd0⟩
    have hkl : kq < (Pl.othersR F f0 f7).length := by
      have := Int.tmod_lt_of_pos draw (b := ((Pl.othersR F f0 f7).length : Int)) (by omega)
      omega
    obtain ⟨x, hx⟩ : ∃ x, (Pl.othersR F f0 f7)[kq]? = some x := ⟨_, List.getElem?_eq_getElem hkl⟩
    have hdr : Pl.drawn (Pl.othersR F f0 f7) draw = some x := by
      unfold Pl.drawn
      rw [← Int.tmod_eq_emod_of_nonneg hd0, hkq, Int.toNat_natCast]
      exact hx
    obtain ⟨b1, rfl, hb1⟩ : ∃ b1, AO = some ⟨b1, 0, none⟩ ∧ b1 < w2.heap.size := by
      rcases HO2.out.2 with ⟨_, h⟩ | ⟨b1, cc, cur, he, hb, hh, _⟩
      · omega
      · injection he with e1 e2 e3
        exact ⟨b1, e1, (Array.getElem?_eq_some_iff.1 hh).1⟩
    have u0 : w2.cell? ⟨b1, kq, none⟩ = some (.int .u16 x) := by
      have h := HO2.out.cells (g := b1) rfl kq (.int .u16 x) (by simp [u16s, hx])
      rwa [Addr.add_mid, Nat.zero_add] at h
    have hb1' : w.heap.size + 1 + 1 + 1 + 1 ≤ b1 := by have := own_base HO2.out b1 rfl; omega
    have HDR := Lib.hid hdr
    have hq0 : (0 : Int) ≤ (kq : Int) := by omega
    have hq1 : (kq : Int) < ((Pl.othersR F f0 f7).length : Int) := by omega
    have hq2 : IntKind.i64.wrap draw = draw := by rw [IntKind.wrap_i64]; omega
    have hq3 : (0 : Int) < ((Pl.othersR F f0 f7).length : Int) := by omega
    have hq4 : ((Pl.othersR F f0 f7).length : Int) ≠ 0 := by omega
    clear hdr hx
    have KEY : Hid (∀ W : World, Grow2 w2 W (w.heap.size + 1 + 1) (w.heap.size + 1 + 1 + 1) → W.ownsRow w.heap.size 135 7 (.slice (some ⟨w2.heap.size, 0, none⟩) 1 1) 1 (outs [⟨x, 2, f0, f7, f4⟩]) → OpEnd w S f0 (⟨f0, f1, f2, f3, f4, true, true, f7, f8, L⟩, F, helpR f0 f7 f4 (Pl.drawn (Pl.othersR F f0 f7) draw), []) (.returned (.tuple #[.agg #[.int .u16 f0, .int .i64 f1, .int .i64 f2, .int .i64 f3, .int .i64 f4, .bool true, .bool true, .int .u16 f7, .int .i64 f8, .slice A n c], .agg #[.int .u16 f0, .slice B nB cB], .slice (some ⟨w2.heap.size, 0, none⟩) 1 1, .slice none 0 0])) W) := Lib.hid (fun W G OO => ⟨⟨A, c, B, cB, _, _, (by simp only [rpc]; rw [HN.out, HNB.out]), ((RA2.out.there (by omega)).keep (fun b hb => G.block b hb.2 hb.1.2.2.2.1 hb.1.2.2.2.2)).imp (fun b hb => ⟨hb.1.1, fun e => by simp only [Value.ownBlock, Option.some.injEq] at e; have := hb.2; omega⟩), ((Reads.there RM2.out (by omega)).keep (fun b hb => G.block b hb.2 hb.1.2.2.2.1 hb.1.2.2.2.2)).imp (fun b hb => ⟨hb.1.1, fun e => by simp only [Value.ownBlock, Option.some.injEq] at e; have := hb.2; omega⟩), (by rw [HDR.out]; exact OO), own_nil _ _ _ _⟩, K2.out.trans (below_of_grow2 G K2.out.size (by omega) (by omega))⟩)
    generalize (Pl.othersR F f0 f7).length = nO at *
    go_upto_region 20 with fail
    have BP := Lib.hid (BP2.out.alloc (.cells #[.int .u16 x, .int .u8 2, .int .u16 f0, .int .u16 f7, .int .i64 f4, .slice none 0 0, .slice none 0 0] 135))
    have BT := Lib.hid (BT2.out.alloc (.cells #[.int .u16 x, .int .u8 2, .int .u16 f0, .int .u16 f7, .int .i64 f4, .slice none 0 0, .slice none 0 0] 135))
    have BZ := Lib.hid (BZ2.out.alloc (.cells #[.int .u16 x, .int .u8 2, .int .u16 f0, .int .u16 f7, .int .i64 f4, .slice none 0 0, .slice none 0 0] 135))
    have BY := Lib.hid (BY2.out.alloc (.cells #[.int .u16 x, .int .u8 2, .int .u16 f0, .int .u16 f7, .int .i64 f4, .slice none 0 0, .slice none 0 0] 135))
    have r0 := BP.out.cell 0
    have r1 := BP.out.cell 1
    have r2 := BP.out.cell 2
    have r3 := BP.out.cell 3
    have r4 := BP.out.cell 4
    have r5 := BP.out.cell 5
    have r6 := BP.out.cell 6
    have r7 := BP.out.cell 7
    have r8 := BP.out.cell 8
    have r9 := BP.out.cell 9
    have z0 := BZ.out.cell 0
    have z1 := BZ.out.cell 1
    have z2 := BZ.out.cell 2
    have z3 := BZ.out.cell 3
    have z4 := BZ.out.cell 4
    have z5 := BZ.out.cell 5
    have z6 := BZ.out.cell 6
    have z7 := BZ.out.cell 7
    have z8 := BZ.out.cell 8
    have z9 := BZ.out.cell 9
    have t0 := BT.out.cell 0
    have t1 := BT.out.cell 1
    have y0 := BY.out.cell 0
    have y1 := BY.out.cell 1
    have rf := BP.out.frozen
    have tf := BT.out.frozen
    have zf := BZ.out.frozen
    have yf := BY.out.frozen
    simp only [List.getElem?_toArray, List.getElem?_cons_zero, List.getElem?_cons_succ] at r0 z0 r1 z1 r2 z2 r3 z3 r4 z4 r5 z5 r6 z6 r7 z7 r8 z8 r9 z9 t0 t1 y0 y1
    have hy := (((((((((((BY2.out).far (p := ⟨w.heap.size + 1 + 1, 0, none⟩) (by show w.heap.size + 1 + 1 + 1 ≠ w.heap.size + 1 + 1; omega) (.int .u16 f0)).far (p := ⟨w.heap.size + 1 + 1, 1, none⟩) (by show w.heap.size + 1 + 1 + 1 ≠ w.heap.size + 1 + 1; omega) (.int .i64 f1)).far (p := ⟨w.heap.size + 1 + 1, 2, none⟩) (by show w.heap.size + 1 + 1 + 1 ≠ w.heap.size + 1 + 1; omega) (.int .i64 f2)).far (p := ⟨w.heap.size + 1 + 1, 3, none⟩) (by show w.heap.size + 1 + 1 + 1 ≠ w.heap.size + 1 + 1; omega) (.int .i64 f3)).far (p := ⟨w.heap.size + 1 + 1, 4, none⟩) (by show w.heap.size + 1 + 1 + 1 ≠ w.heap.size + 1 + 1; omega) (.int .i64 f4)).far (p := ⟨w.heap.size + 1 + 1, 5, none⟩) (by show w.heap.size + 1 + 1 + 1 ≠ w.heap.size + 1 + 1; omega) (.bool true)).far (p := ⟨w.heap.size + 1 + 1, 6, none⟩) (by show w.heap.size + 1 + 1 + 1 ≠ w.heap.size + 1 + 1; omega) (.bool true)).far (p := ⟨w.heap.size + 1 + 1, 7, none⟩) (by show w.heap.size + 1 + 1 + 1 ≠ w.heap.size + 1 + 1; omega) (.int .u16 f7)).far (p := ⟨w.heap.size + 1 + 1, 8, none⟩) (by show w.heap.size + 1 + 1 + 1 ≠ w.heap.size + 1 + 1; omega) (.int .i64 f8)).far (p := ⟨w.heap.size + 1 + 1, 9, none⟩) (by show w.heap.size + 1 + 1 + 1 ≠ w.heap.size + 1 + 1; omega) (.slice A n c)).alloc (.cells #[.int .u16 x, .int .u8 2, .int .u16 f0, .int .u16 f7, .int .i64 f4, .slice none 0 0, .slice none 0 0] 135)
    have y2 := hy.cell 0
    have y3 := hy.cell 1
    have yf3 := hy.frozen
    clear hy
    simp only [List.getElem?_toArray, List.getElem?_cons_zero, List.getElem?_cons_succ] at y2 y3
    have hq7 : w2.heap.size ≠ w.heap.size + 1 + 1 := by omega
    have hq8 : w2.heap.size ≠ w.heap.size + 1 + 1 + 1 := by omega
    refine wp_region_held_drew (S := (fun X => Blk X w.heap.size 81 #[.int .u16 f0, .int .i64 f1, .int .i64 f2, .int .i64 f3, .int .i64 f4, .bool true, .bool true, .int .u16 f7, .int .i64 f8, .slice A n c] ∧ Blk X (w.heap.size + 1) 46 #[.int .u16 f0, .slice B nB cB] ∧ X.cell? ⟨b1, kq, none⟩ = some (.int .u16 x))) (by kernel_rfl) ⟨BP2.out.drew, BT2.out.drew, u0⟩ (fun hHeld => ?_)
    refine wpAnyH_take (i := 0) (v := ?_) (by simp only [List.getElem?_toArray, List.getElem?_cons_succ, List.getElem?_cons_zero]; exact rfl) (by decide +kernel) (by decide +kernel) (by decide +kernel) (by exact fun _ _ _ h => h) (Or.inl ⟨by rfl, ?_⟩) (by assumption) ?_
    rotate_left
    · (intro w hSw; (try dsimp only at hSw); obtain ⟨hb1, hb2, hb3⟩ := hSw; have r0 := hb1.cell 0; have r1 := hb1.cell 1; have r2 := hb1.cell 2; have r3 := hb1.cell 3; have r4 := hb1.cell 4; have r5 := hb1.cell 5; have r6 := hb1.cell 6; have r7 := hb1.cell 7; have r8 := hb1.cell 8; have r9 := hb1.cell 9; have t0 := hb2.cell 0; have t1 := hb2.cell 1; simp only [List.getElem?_toArray, List.getElem?_cons_zero, List.getElem?_cons_succ] at r0 r1 r2 r3 r4 r5 r6 r7 r8 r9 t0 t1; clear hb1 hb2; go_simp; try with_reducible rfl)
    try simp only [Act.put, List.setIfInBounds_toArray, List.set_cons_zero, List.set_cons_succ]
    refine wpAnyH_take (i := 1) (v := ?_) (by simp only [List.getElem?_toArray, List.getElem?_cons_succ, List.getElem?_cons_zero]; exact rfl) (by decide +kernel) (by decide +kernel) (by decide +kernel) (by exact fun _ _ _ h => h) (Or.inl ⟨by rfl, ?_⟩) (by assumption) ?_
    rotate_left
    · (intro w hSw; (try dsimp only at hSw); obtain ⟨hb1, hb2, hb3⟩ := hSw; have r0 := hb1.cell 0; have r1 := hb1.cell 1; have r2 := hb1.cell 2; have r3 := hb1.cell 3; have r4 := hb1.cell 4; have r5 := hb1.cell 5; have r6 := hb1.cell 6; have r7 := hb1.cell 7; have r8 := hb1.cell 8; have r9 := hb1.cell 9; have t0 := hb2.cell 0; have t1 := hb2.cell 1; simp only [List.getElem?_toArray, List.getElem?_cons_zero, List.getElem?_cons_succ] at r0 r1 r2 r3 r4 r5 r6 r7 r8 r9 t0 t1; clear hb1 hb2; go_simp; try with_reducible rfl)
    try simp only [Act.put, List.setIfInBounds_toArray, List.set_cons_zero, List.set_cons_succ]
    refine wpAnyH_take (i := 2) (v := ?_) (by simp only [List.getElem?_toArray, List.getElem?_cons_succ, List.getElem?_cons_zero]; exact rfl) (by decide +kernel) (by decide +kernel) (by decide +kernel) (by exact fun _ _ _ h => h) (Or.inl ⟨by rfl, ?_⟩) (by assumption) ?_
    rotate_left
    · (intro w hSw; (try dsimp only at hSw); obtain ⟨hb1, hb2, hb3⟩ := hSw; have r0 := hb1.cell 0; have r1 := hb1.cell 1; have r2 := hb1.cell 2; have r3 := hb1.cell 3; have r4 := hb1.cell 4; have r5 := hb1.cell 5; have r6 := hb1.cell 6; have r7 := hb1.cell 7; have r8 := hb1.cell 8; have r9 := hb1.cell 9; have t0 := hb2.cell 0; have t1 := hb2.cell 1; simp only [List.getElem?_toArray, List.getElem?_cons_zero, List.getElem?_cons_succ] at r0 r1 r2 r3 r4 r5 r6 r7 r8 r9 t0 t1; clear hb1 hb2; go_simp; try with_reducible rfl)
    try simp only [Act.put, List.setIfInBounds_toArray, List.set_cons_zero, List.set_cons_succ]
    refine wpAnyH_take (i := 3) (v := ?_) (by simp only [List.getElem?_toArray, List.getElem?_cons_succ, List.getElem?_cons_zero]; exact rfl) (by decide +kernel) (by decide +kernel) (by decide +kernel) (by exact fun _ _ _ h => h) (Or.inl ⟨by rfl, ?_⟩) (by assumption) ?_
    rotate_left
    · (intro w hSw; (try dsimp only at hSw); obtain ⟨hb1, hb2, hb3⟩ := hSw; have r0 := hb1.cell 0; have r1 := hb1.cell 1; have r2 := hb1.cell 2; have r3 := hb1.cell 3; have r4 := hb1.cell 4; have r5 := hb1.cell 5; have r6 := hb1.cell 6; have r7 := hb1.cell 7; have r8 := hb1.cell 8; have r9 := hb1.cell 9; have t0 := hb2.cell 0; have t1 := hb2.cell 1; simp only [List.getElem?_toArray, List.getElem?_cons_zero, List.getElem?_cons_succ] at r0 r1 r2 r3 r4 r5 r6 r7 r8 r9 t0 t1; clear hb1 hb2; go_simp; try with_reducible rfl)
    try simp only [Act.put, List.setIfInBounds_toArray, List.set_cons_zero, List.set_cons_succ]
    refine wpAnyH_take (i := 4) (v := ?_) (by simp only [List.getElem?_toArray, List.getElem?_cons_succ, List.getElem?_cons_zero]; exact rfl) (by decide +kernel) (by decide +kernel) (by decide +kernel) (by exact fun _ _ _ h => h) (Or.inl ⟨by rfl, ?_⟩) (by assumption) ?_
    rotate_left
    · (intro w hSw; (try dsimp only at hSw); obtain ⟨hb1, hb2, hb3⟩ := hSw; have r0 := hb1.cell 0; have r1 := hb1.cell 1; have r2 := hb1.cell 2; have r3 := hb1.cell 3; have r4 := hb1.cell 4; have r5 := hb1.cell 5; have r6 := hb1.cell 6; have r7 := hb1.cell 7; have r8 := hb1.cell 8; have r9 := hb1.cell 9; have t0 := hb2.cell 0; have t1 := hb2.cell 1; simp only [List.getElem?_toArray, List.getElem?_cons_zero, List.getElem?_cons_succ] at r0 r1 r2 r3 r4 r5 r6 r7 r8 r9 t0 t1; clear hb1 hb2; go_simp; try with_reducible rfl)
    try simp only [Act.put, List.setIfInBounds_toArray, List.set_cons_zero, List.set_cons_succ]
    refine wpAnyH_take (i := 5) (v := ?_) (by simp only [List.getElem?_toArray, List.getElem?_cons_succ, List.getElem?_cons_zero]; exact rfl) (by decide +kernel) (by decide +kernel) (by decide +kernel) (by exact fun _ _ _ h => h) (Or.inl ⟨by rfl, ?_⟩) (by assumption) ?_
    rotate_left
    · (intro w hSw; (try dsimp only at hSw); obtain ⟨hb1, hb2, hb3⟩ := hSw; have r0 := hb1.cell 0; have r1 := hb1.cell 1; have r2 := hb1.cell 2; have r3 := hb1.cell 3; have r4 := hb1.cell 4; have r5 := hb1.cell 5; have r6 := hb1.cell 6; have r7 := hb1.cell 7; have r8 := hb1.cell 8; have r9 := hb1.cell 9; have t0 := hb2.cell 0; have t1 := hb2.cell 1; simp only [List.getElem?_toArray, List.getElem?_cons_zero, List.getElem?_cons_succ] at r0 r1 r2 r3 r4 r5 r6 r7 r8 r9 t0 t1; clear hb1 hb2; go_simp; try with_reducible rfl)
    try simp only [Act.put, List.setIfInBounds_toArray, List.set_cons_zero, List.set_cons_succ]
    refine wpAnyH_take (i := 6) (v := ?_) (by simp only [List.getElem?_toArray, List.getElem?_cons_succ, List.getElem?_cons_zero]; exact rfl) (by decide +kernel) (by decide +kernel) (by decide +kernel) (by exact fun _ _ _ h => h) (Or.inl ⟨by rfl, ?_⟩) (by assumption) ?_
    rotate_left
    · (intro w hSw; (try dsimp only at hSw); obtain ⟨hb1, hb2, hb3⟩ := hSw; have r0 := hb1.cell 0; have r1 := hb1.cell 1; have r2 := hb1.cell 2; have r3 := hb1.cell 3; have r4 := hb1.cell 4; have r5 := hb1.cell 5; have r6 := hb1.cell 6; have r7 := hb1.cell 7; have r8 := hb1.cell 8; have r9 := hb1.cell 9; have t0 := hb2.cell 0; have t1 := hb2.cell 1; simp only [List.getElem?_toArray, List.getElem?_cons_zero, List.getElem?_cons_succ] at r0 r1 r2 r3 r4 r5 r6 r7 r8 r9 t0 t1; clear hb1 hb2; go_simp; try with_reducible rfl)
    try simp only [Act.put, List.setIfInBounds_toArray, List.set_cons_zero, List.set_cons_succ]
    refine wpAnyH_take (i := 7) (v := ?_) (by simp only [List.getElem?_toArray, List.getElem?_cons_succ, List.getElem?_cons_zero]; exact rfl) (by decide +kernel) (by decide +kernel) (by decide +kernel) (by exact fun _ _ _ h => h) (Or.inl ⟨by rfl, ?_⟩) (by assumption) ?_
    rotate_left
    · (intro w hSw; (try dsimp only at hSw); obtain ⟨hb1, hb2, hb3⟩ := hSw; have r0 := hb1.cell 0; have r1 := hb1.cell 1; have r2 := hb1.cell 2; have r3 := hb1.cell 3; have r4 := hb1.cell 4; have r5 := hb1.cell 5; have r6 := hb1.cell 6; have r7 := hb1.cell 7; have r8 := hb1.cell 8; have r9 := hb1.cell 9; have t0 := hb2.cell 0; have t1 := hb2.cell 1; simp only [List.getElem?_toArray, List.getElem?_cons_zero, List.getElem?_cons_succ] at r0 r1 r2 r3 r4 r5 r6 r7 r8 r9 t0 t1; clear hb1 hb2; go_simp; try with_reducible rfl)
    try simp only [Act.put, List.setIfInBounds_toArray, List.set_cons_zero, List.set_cons_succ]
    refine wpAnyH_take (i := 8) (v := ?_) (by simp only [List.getElem?_toArray, List.getElem?_cons_succ, List.getElem?_cons_zero]; exact rfl) (by decide +kernel) (by decide +kernel) (by decide +kernel) (by exact fun _ _ _ h => h) (Or.inl ⟨by rfl, ?_⟩) (by assumption) ?_
    rotate_left
    · (intro w hSw; (try dsimp only at hSw); obtain ⟨hb1, hb2, hb3⟩ := hSw; have r0 := hb1.cell 0; have r1 := hb1.cell 1; have r2 := hb1.cell 2; have r3 := hb1.cell 3; have r4 := hb1.cell 4; have r5 := hb1.cell 5; have r6 := hb1.cell 6; have r7 := hb1.cell 7; have r8 := hb1.cell 8; have r9 := hb1.cell 9; have t0 := hb2.cell 0; have t1 := hb2.cell 1; simp only [List.getElem?_toArray, List.getElem?_cons_zero, List.getElem?_cons_succ] at r0 r1 r2 r3 r4 r5 r6 r7 r8 r9 t0 t1; clear hb1 hb2; go_simp; try with_reducible rfl)
    try simp only [Act.put, List.setIfInBounds_toArray, List.set_cons_zero, List.set_cons_succ]
    refine wpAnyH_take (i := 9) (v := ?_) (by simp only [List.getElem?_toArray, List.getElem?_cons_succ, List.getElem?_cons_zero]; exact rfl) (by decide +kernel) (by decide +kernel) (by decide +kernel) (by exact fun _ _ _ h => h) (Or.inl ⟨by rfl, ?_⟩) (by assumption) ?_
    rotate_left
    · (intro w hSw; (try dsimp only at hSw); obtain ⟨hb1, hb2, hb3⟩ := hSw; have r0 := hb1.cell 0; have r1 := hb1.cell 1; have r2 := hb1.cell 2; have r3 := hb1.cell 3; have r4 := hb1.cell 4; have r5 := hb1.cell 5; have r6 := hb1.cell 6; have r7 := hb1.cell 7; have r8 := hb1.cell 8; have r9 := hb1.cell 9; have t0 := hb2.cell 0; have t1 := hb2.cell 1; simp only [List.getElem?_toArray, List.getElem?_cons_zero, List.getElem?_cons_succ] at r0 r1 r2 r3 r4 r5 r6 r7 r8 r9 t0 t1; clear hb1 hb2; go_simp; try with_reducible rfl)
    try simp only [Act.put, List.setIfInBounds_toArray, List.set_cons_zero, List.set_cons_succ]
    refine wpAnyH_take (i := 10) (v := ?_) (by simp only [List.getElem?_toArray, List.getElem?_cons_succ, List.getElem?_cons_zero]; exact rfl) (by decide +kernel) (by decide +kernel) (by decide +kernel) (by exact fun _ _ _ h => h) (Or.inl ⟨by rfl, ?_⟩) (by assumption) ?_
    rotate_left
    · (intro w hSw; (try dsimp only at hSw); obtain ⟨hb1, hb2, hb3⟩ := hSw; have r0 := hb1.cell 0; have r1 := hb1.cell 1; have r2 := hb1.cell 2; have r3 := hb1.cell 3; have r4 := hb1.cell 4; have r5 := hb1.cell 5; have r6 := hb1.cell 6; have r7 := hb1.cell 7; have r8 := hb1.cell 8; have r9 := hb1.cell 9; have t0 := hb2.cell 0; have t1 := hb2.cell 1; simp only [List.getElem?_toArray, List.getElem?_cons_zero, List.getElem?_cons_succ] at r0 r1 r2 r3 r4 r5 r6 r7 r8 r9 t0 t1; clear hb1 hb2; go_simp; try with_reducible rfl)
    try simp only [Act.put, List.setIfInBounds_toArray, List.set_cons_zero, List.set_cons_succ]
    refine wpAnyH_take (i := 11) (v := ?_) (by simp only [List.getElem?_toArray, List.getElem?_cons_succ, List.getElem?_cons_zero]; exact rfl) (by decide +kernel) (by decide +kernel) (by decide +kernel) (by exact fun _ _ _ h => h) (Or.inl ⟨by rfl, ?_⟩) (by assumption) ?_
    rotate_left
    · (intro w hSw; (try dsimp only at hSw); obtain ⟨hb1, hb2, hb3⟩ := hSw; have r0 := hb1.cell 0; have r1 := hb1.cell 1; have r2 := hb1.cell 2; have r3 := hb1.cell 3; have r4 := hb1.cell 4; have r5 := hb1.cell 5; have r6 := hb1.cell 6; have r7 := hb1.cell 7; have r8 := hb1.cell 8; have r9 := hb1.cell 9; have t0 := hb2.cell 0; have t1 := hb2.cell 1; simp only [List.getElem?_toArray, List.getElem?_cons_zero, List.getElem?_cons_succ] at r0 r1 r2 r3 r4 r5 r6 r7 r8 r9 t0 t1; clear hb1 hb2; go_simp; try with_reducible rfl)
    try simp only [Act.put, List.setIfInBounds_toArray, List.set_cons_zero, List.set_cons_succ]
    refine wpAnyH_take (i := 12) (v := ?_) (by simp only [List.getElem?_toArray, List.getElem?_cons_succ, List.getElem?_cons_zero]; exact rfl) (by decide +kernel) (by decide +kernel) (by decide +kernel) (by exact fun _ _ _ h => h) (Or.inl ⟨by rfl, ?_⟩) (by assumption) ?_
    rotate_left
    · (intro w hSw; (try dsimp only at hSw); obtain ⟨hb1, hb2, hb3⟩ := hSw; have r0 := hb1.cell 0; have r1 := hb1.cell 1; have r2 := hb1.cell 2; have r3 := hb1.cell 3; have r4 := hb1.cell 4; have r5 := hb1.cell 5; have r6 := hb1.cell 6; have r7 := hb1.cell 7; have r8 := hb1.cell 8; have r9 := hb1.cell 9; have t0 := hb2.cell 0; have t1 := hb2.cell 1; simp only [List.getElem?_toArray, List.getElem?_cons_zero, List.getElem?_cons_succ] at r0 r1 r2 r3 r4 r5 r6 r7 r8 r9 t0 t1; clear hb1 hb2; go_simp; try with_reducible rfl)
    try simp only [Act.put, List.setIfInBounds_toArray, List.set_cons_zero, List.set_cons_succ]
    refine wpAnyH_take (i := 13) (v := ?_) (by simp only [List.getElem?_toArray, List.getElem?_cons_succ, List.getElem?_cons_zero]; exact rfl) (by decide +kernel) (by decide +kernel) (by decide +kernel) (by exact fun _ _ _ h => h) (Or.inl ⟨by rfl, ?_⟩) (by assumption) ?_
    rotate_left
    · (intro w hSw; (try dsimp only at hSw); obtain ⟨hb1, hb2, hb3⟩ := hSw; have r0 := hb1.cell 0; have r1 := hb1.cell 1; have r2 := hb1.cell 2; have r3 := hb1.cell 3; have r4 := hb1.cell 4; have r5 := hb1.cell 5; have r6 := hb1.cell 6; have r7 := hb1.cell 7; have r8 := hb1.cell 8; have r9 := hb1.cell 9; have t0 := hb2.cell 0; have t1 := hb2.cell 1; simp only [List.getElem?_toArray, List.getElem?_cons_zero, List.getElem?_cons_succ] at r0 r1 r2 r3 r4 r5 r6 r7 r8 r9 t0 t1; clear hb1 hb2; go_simp; try with_reducible rfl)
    try simp only [Act.put, List.setIfInBounds_toArray, List.set_cons_zero, List.set_cons_succ]
    refine wpAnyH_take (i := 14) (v := ?_) (by simp only [List.getElem?_toArray, List.getElem?_cons_succ, List.getElem?_cons_zero]; exact rfl) (by decide +kernel) (by decide +kernel) (by decide +kernel) (by exact fun _ _ _ h => h) (Or.inl ⟨by rfl, ?_⟩) (by assumption) ?_
    rotate_left
    · (intro w hSw; (try dsimp only at hSw); obtain ⟨hb1, hb2, hb3⟩ := hSw; have r0 := hb1.cell 0; have r1 := hb1.cell 1; have r2 := hb1.cell 2; have r3 := hb1.cell 3; have r4 := hb1.cell 4; have r5 := hb1.cell 5; have r6 := hb1.cell 6; have r7 := hb1.cell 7; have r8 := hb1.cell 8; have r9 := hb1.cell 9; have t0 := hb2.cell 0; have t1 := hb2.cell 1; simp only [List.getElem?_toArray, List.getElem?_cons_zero, List.getElem?_cons_succ] at r0 r1 r2 r3 r4 r5 r6 r7 r8 r9 t0 t1; clear hb1 hb2; go_simp; try with_reducible rfl)
    try simp only [Act.put, List.setIfInBounds_toArray, List.set_cons_zero, List.set_cons_succ]
    refine wpAnyH_take (i := 15) (v := ?_) (by simp only [List.getElem?_toArray, List.getElem?_cons_succ, List.getElem?_cons_zero]; exact rfl) (by decide +kernel) (by decide +kernel) (by decide +kernel) (by exact fun _ _ _ h => h) (Or.inl ⟨by rfl, ?_⟩) (by assumption) ?_
    rotate_left
    · (intro w hSw; (try dsimp only at hSw); obtain ⟨hb1, hb2, hb3⟩ := hSw; have r0 := hb1.cell 0; have r1 := hb1.cell 1; have r2 := hb1.cell 2; have r3 := hb1.cell 3; have r4 := hb1.cell 4; have r5 := hb1.cell 5; have r6 := hb1.cell 6; have r7 := hb1.cell 7; have r8 := hb1.cell 8; have r9 := hb1.cell 9; have t0 := hb2.cell 0; have t1 := hb2.cell 1; simp only [List.getElem?_toArray, List.getElem?_cons_zero, List.getElem?_cons_succ] at r0 r1 r2 r3 r4 r5 r6 r7 r8 r9 t0 t1; clear hb1 hb2; go_simp; try with_reducible rfl)
    try simp only [Act.put, List.setIfInBounds_toArray, List.set_cons_zero, List.set_cons_succ]
    refine wpAnyH_take (i := 16) (v := ?_) (by simp only [List.getElem?_toArray, List.getElem?_cons_succ, List.getElem?_cons_zero]; exact rfl) (by decide +kernel) (by decide +kernel) (by decide +kernel) (by exact fun _ _ _ h => h) (Or.inl ⟨by rfl, ?_⟩) (by assumption) ?_
    rotate_left
    · (intro w hSw; (try dsimp only at hSw); obtain ⟨hb1, hb2, hb3⟩ := hSw; have r0 := hb1.cell 0; have r1 := hb1.cell 1; have r2 := hb1.cell 2; have r3 := hb1.cell 3; have r4 := hb1.cell 4; have r5 := hb1.cell 5; have r6 := hb1.cell 6; have r7 := hb1.cell 7; have r8 := hb1.cell 8; have r9 := hb1.cell 9; have t0 := hb2.cell 0; have t1 := hb2.cell 1; simp only [List.getElem?_toArray, List.getElem?_cons_zero, List.getElem?_cons_succ] at r0 r1 r2 r3 r4 r5 r6 r7 r8 r9 t0 t1; clear hb1 hb2; go_simp; try with_reducible rfl)
    try simp only [Act.put, List.setIfInBounds_toArray, List.set_cons_zero, List.set_cons_succ]
    refine wpAnyH_take (i := 17) (v := ?_) (by simp only [List.getElem?_toArray, List.getElem?_cons_succ, List.getElem?_cons_zero]; exact rfl) (by decide +kernel) (by decide +kernel) (by decide +kernel) (by exact fun _ _ _ h => h) (Or.inl ⟨by rfl, ?_⟩) (by assumption) ?_
    rotate_left
    · (intro w hSw; (try dsimp only at hSw); obtain ⟨hb1, hb2, hb3⟩ := hSw; have r0 := hb1.cell 0; have r1 := hb1.cell 1; have r2 := hb1.cell 2; have r3 := hb1.cell 3; have r4 := hb1.cell 4; have r5 := hb1.cell 5; have r6 := hb1.cell 6; have r7 := hb1.cell 7; have r8 := hb1.cell 8; have r9 := hb1.cell 9; have t0 := hb2.cell 0; have t1 := hb2.cell 1; simp only [List.getElem?_toArray, List.getElem?_cons_zero, List.getElem?_cons_succ] at r0 r1 r2 r3 r4 r5 r6 r7 r8 r9 t0 t1; clear hb1 hb2; go_simp; try with_reducible rfl)
    try simp only [Act.put, List.setIfInBounds_toArray, List.set_cons_zero, List.set_cons_succ]
    refine wpAnyH_ready (rs := [18, 19]) (by decide +kernel) (by simp) ?_
    refine (AllReadyH.cons (by simp only [List.getElem?_toArray, List.getElem?_cons_succ, List.getElem?_cons_zero]; exact rfl) (fun K hK => ?_) (AllReadyH.cons (by simp only [List.getElem?_toArray, List.getElem?_cons_succ, List.getElem?_cons_zero]; exact rfl) (fun K hK => ?_) AllReadyH.nil))
    · skip
      go_simp
      refine hK.out _ _ (by refine ⟨?_, ?_, ?_⟩ <;> (repeat (with_reducible first | exact BP2.out | exact BT2.out | exact u0 | refine Blk.drew ?_ | refine celldrew ?_ | refine Blk.alloc ?_ _ | refine Blk.far ?_ ?_ _ | refine cellfar ?_ ?_ _ | refine cellalloc ?_ _)) <;> (first | done | (dsimp only; omega))) (fun hHeld => ?_)
      clear hK K
      try simp only [Act.put, List.setIfInBounds_toArray, List.set_cons_zero, List.set_cons_succ]
      refine wpAnyH_ready (rs := [19]) (by decide +kernel) (by simp) ?_
      refine (AllReadyH.cons (by simp only [List.getElem?_toArray, List.getElem?_cons_succ, List.getElem?_cons_zero]; exact rfl) (fun K hK => ?_) AllReadyH.nil)
      go_simp
      refine hK.out _ _ (by refine ⟨?_, ?_, ?_⟩ <;> (repeat (with_reducible first | exact BP2.out | exact BT2.out | exact u0 | refine Blk.drew ?_ | refine celldrew ?_ | refine Blk.alloc ?_ _ | refine Blk.far ?_ ?_ _ | refine cellfar ?_ ?_ _ | refine cellalloc ?_ _)) <;> (first | done | (dsimp only; omega))) (fun hHeld => ?_)
      clear hK K
      try simp only [Act.put, List.setIfInBounds_toArray, List.set_cons_zero, List.set_cons_succ]
      refine wpAnyH_ready (rs := [20]) (by decide +kernel) (by simp) ?_
      refine (AllReadyH.cons (by simp only [List.getElem?_toArray, List.getElem?_cons_succ, List.getElem?_cons_zero]; exact rfl) (fun K hK => ?_) AllReadyH.nil)
      go_simp
      refine hK.out _ _ (by refine ⟨?_, ?_, ?_⟩ <;> (repeat (with_reducible first | exact BP2.out | exact BT2.out | exact u0 | refine Blk.drew ?_ | refine celldrew ?_ | refine Blk.alloc ?_ _ | refine Blk.far ?_ ?_ _ | refine cellfar ?_ ?_ _ | refine cellalloc ?_ _)) <;> (first | done | (dsimp only; omega))) (fun hHeld => ?_)
      clear hK K
      try simp only [Act.put, List.setIfInBounds_toArray, List.set_cons_zero, List.set_cons_succ]
      refine wpAnyH_take (i := 21) (v := ?_) (by simp only [List.getElem?_toArray, List.getElem?_cons_succ, List.getElem?_cons_zero]; exact rfl) (by decide +kernel) (by decide +kernel) (by decide +kernel) (by exact fun _ _ _ h => h) (Or.inl ⟨by rfl, ?_⟩) (by assumption) ?_
      rotate_left
      · (intro w hSw; (try dsimp only at hSw); obtain ⟨hb1, hb2, hb3⟩ := hSw; have r0 := hb1.cell 0; have r1 := hb1.cell 1; have r2 := hb1.cell 2; have r3 := hb1.cell 3; have r4 := hb1.cell 4; have r5 := hb1.cell 5; have r6 := hb1.cell 6; have r7 := hb1.cell 7; have r8 := hb1.cell 8; have r9 := hb1.cell 9; have t0 := hb2.cell 0; have t1 := hb2.cell 1; simp only [List.getElem?_toArray, List.getElem?_cons_zero, List.getElem?_cons_succ] at r0 r1 r2 r3 r4 r5 r6 r7 r8 r9 t0 t1; clear hb1 hb2; go_simp; try with_reducible rfl)
      try simp only [Act.put, List.setIfInBounds_toArray, List.set_cons_zero, List.set_cons_succ]
      refine wpAnyH_take (i := 22) (v := ?_) (by simp only [List.getElem?_toArray, List.getElem?_cons_succ, List.getElem?_cons_zero]; exact rfl) (by decide +kernel) (by decide +kernel) (by decide +kernel) (by exact fun _ _ _ h => h) (Or.inl ⟨by rfl, ?_⟩) (by assumption) ?_
      rotate_left
      · (intro w hSw; (try dsimp only at hSw); obtain ⟨hb1, hb2, hb3⟩ := hSw; have r0 := hb1.cell 0; have r1 := hb1.cell 1; have r2 := hb1.cell 2; have r3 := hb1.cell 3; have r4 := hb1.cell 4; have r5 := hb1.cell 5; have r6 := hb1.cell 6; have r7 := hb1.cell 7; have r8 := hb1.cell 8; have r9 := hb1.cell 9; have t0 := hb2.cell 0; have t1 := hb2.cell 1; simp only [List.getElem?_toArray, List.getElem?_cons_zero, List.getElem?_cons_succ] at r0 r1 r2 r3 r4 r5 r6 r7 r8 r9 t0 t1; clear hb1 hb2; go_simp; try with_reducible rfl)
      try simp only [Act.put, List.setIfInBounds_toArray, List.set_cons_zero, List.set_cons_succ]
      refine wpAnyH_done (by decide +kernel) ?_ _
      go_wp2
      clear hHeld
      refine open_ret (g2 := w.heap.size + 1 + 1) (g3 := w.heap.size + 1 + 1 + 1) rfl rfl rfl rfl rfl (x0 := .int .u16 f0) (x1 := .int .i64 f1) (x2 := .int .i64 f2) (x3 := .int .i64 f3) (x4 := .int .i64 f4) (x5 := .bool true) (x6 := .bool true) (x7 := .int .u16 f7) (x8 := .int .i64 f8) (x9 := .slice A n c) (z0 := .int .u16 f0) (z1 := .slice B nB cB) ?_ ?_ ?_
      · (repeat (with_reducible first | exact BZ2.out | refine Blk.drew ?_ | apply Blk.mem10 | refine Blk.alloc ?_ _ | refine Blk.far ?_ ?_ _)) <;> (first | done | (dsimp only; omega))
      · (repeat (with_reducible first | exact BY2.out | refine Blk.drew ?_ | apply Blk.mem2 | refine Blk.alloc ?_ _ | refine Blk.far ?_ ?_ _)) <;> (first | done | (dsimp only; omega))
      · refine KEY.out _ ?_ ?_
        · (repeat (with_reducible first | exact Grow2.refl _ _ _ | refine Grow2.drew ?_ | refine Grow2.alloc ?_ _ | refine Grow2.setCell ?_ ?_ _)) <;> (first | done | exact .inl rfl | exact .inr (.inl rfl))
        · have e : outs [⟨x, 2, f0, f7, f4⟩] = (#[.int .u16 x, .int .u8 2, .int .u16 f0, .int .u16 f7, .int .i64 f4, .slice none 0 0, .slice none 0 0] : Array Value).toList := rfl
          rw [e]
          apply own_after (a := w.heap.size + 1 + 1) (b := w.heap.size + 1 + 1 + 1)
          case hG => (repeat (with_reducible first | exact Grow2.refl _ _ _ | refine Grow2.drew ?_ | refine Grow2.setCell ?_ ?_ _)) <;> (first | done | exact .inl rfl | exact .inr (.inl rfl))
          case hg => simp [World.setCell]
          case hb => (try simp [World.setCell]); omega
          case hs => rfl
          case hna => omega
          case hnb => omega
    · skip
      go_simp
      refine hK.out _ _ (by refine ⟨?_, ?_, ?_⟩ <;> (repeat (with_reducible first | exact BP2.out | exact BT2.out | exact u0 | refine Blk.drew ?_ | refine celldrew ?_ | refine Blk.alloc ?_ _ | refine Blk.far ?_ ?_ _ | refine cellfar ?_ ?_ _ | refine cellalloc ?_ _)) <;> (first | done | (dsimp only; omega))) (fun hHeld => ?_)
      clear hK K
      try simp only [Act.put, List.setIfInBounds_toArray, List.set_cons_zero, List.set_cons_succ]
      refine wpAnyH_ready (rs := [18, 20]) (by decide +kernel) (by simp) ?_
      refine (AllReadyH.cons (by simp only [List.getElem?_toArray, List.getElem?_cons_succ, List.getElem?_cons_zero]; exact rfl) (fun K hK => ?_) (AllReadyH.cons (by simp only [List.getElem?_toArray, List.getElem?_cons_succ, List.getElem?_cons_zero]; exact rfl) (fun K hK => ?_) AllReadyH.nil))
      · skip
        go_simp
        refine hK.out _ _ (by refine ⟨?_, ?_, ?_⟩ <;> (repeat (with_reducible first | exact BP2.out | exact BT2.out | exact u0 | refine Blk.drew ?_ | refine celldrew ?_ | refine Blk.alloc ?_ _ | refine Blk.far ?_ ?_ _ | refine cellfar ?_ ?_ _ | refine cellalloc ?_ _)) <;> (first | done | (dsimp only; omega))) (fun hHeld => ?_)
        clear hK K
        try simp only [Act.put, List.setIfInBounds_toArray, List.set_cons_zero, List.set_cons_succ]
        refine wpAnyH_ready (rs := [20]) (by decide +kernel) (by simp) ?_
        refine (AllReadyH.cons (by simp only [List.getElem?_toArray, List.getElem?_cons_succ, List.getElem?_cons_zero]; exact rfl) (fun K hK => ?_) AllReadyH.nil)
        go_simp
        refine hK.out _ _ (by refine ⟨?_, ?_, ?_⟩ <;> (repeat (with_reducible first | exact BP2.out | exact BT2.out | exact u0 | refine Blk.drew ?_ | refine celldrew ?_ | refine Blk.alloc ?_ _ | refine Blk.far ?_ ?_ _ | refine cellfar ?_ ?_ _ | refine cellalloc ?_ _)) <;> (first | done | (dsimp only; omega))) (fun hHeld => ?_)
        clear hK K
        try simp only [Act.put, List.setIfInBounds_toArray, List.set_cons_zero, List.set_cons_succ]
        refine wpAnyH_take (i := 21) (v := ?_) (by simp only [List.getElem?_toArray, List.getElem?_cons_succ, List.getElem?_cons_zero]; exact rfl) (by decide +kernel) (by decide +kernel) (by decide +kernel) (by exact fun _ _ _ h => h) (Or.inl ⟨by rfl, ?_⟩) (by assumption) ?_
        rotate_left
        · (intro w hSw; (try dsimp only at hSw); obtain ⟨hb1, hb2, hb3⟩ := hSw; have r0 := hb1.cell 0; have r1 := hb1.cell 1; have r2 := hb1.cell 2; have r3 := hb1.cell 3; have r4 := hb1.cell 4; have r5 := hb1.cell 5; have r6 := hb1.cell 6; have r7 := hb1.cell 7; have r8 := hb1.cell 8; have r9 := hb1.cell 9; have t0 := hb2.cell 0; have t1 := hb2.cell 1; simp only [List.getElem?_toArray, List.getElem?_cons_zero, List.getElem?_cons_succ] at r0 r1 r2 r3 r4 r5 r6 r7 r8 r9 t0 t1; clear hb1 hb2; go_simp; try with_reducible rfl)
        try simp only [Act.put, List.setIfInBounds_toArray, List.set_cons_zero, List.set_cons_succ]
        refine wpAnyH_take (i := 22) (v := ?_) (by simp only [List.getElem?_toArray, List.getElem?_cons_succ, List.getElem?_cons_zero]; exact rfl) (by decide +kernel) (by decide +kernel) (by decide +kernel) (by exact fun _ _ _ h => h) (Or.inl ⟨by rfl, ?_⟩) (by assumption) ?_
        rotate_left
        · (intro w hSw; (try dsimp only at hSw); obtain ⟨hb1, hb2, hb3⟩ := hSw; have r0 := hb1.cell 0; have r1 := hb1.cell 1; have r2 := hb1.cell 2; have r3 := hb1.cell 3; have r4 := hb1.cell 4; have r5 := hb1.cell 5; have r6 := hb1.cell 6; have r7 := hb1.cell 7; have r8 := hb1.cell 8; have r9 := hb1.cell 9; have t0 := hb2.cell 0; have t1 := hb2.cell 1; simp only [List.getElem?_toArray, List.getElem?_cons_zero, List.getElem?_cons_succ] at r0 r1 r2 r3 r4 r5 r6 r7 r8 r9 t0 t1; clear hb1 hb2; go_simp; try with_reducible rfl)
        try simp only [Act.put, List.setIfInBounds_toArray, List.set_cons_zero, List.set_cons_succ]
        refine wpAnyH_done (by decide +kernel) ?_ _
        go_wp2
        clear hHeld
        refine open_ret (g2 := w.heap.size + 1 + 1) (g3 := w.heap.size + 1 + 1 + 1) rfl rfl rfl rfl rfl (x0 := .int .u16 f0) (x1 := .int .i64 f1) (x2 := .int .i64 f2) (x3 := .int .i64 f3) (x4 := .int .i64 f4) (x5 := .bool true) (x6 := .bool true) (x7 := .int .u16 f7) (x8 := .int .i64 f8) (x9 := .slice A n c) (z0 := .int .u16 f0) (z1 := .slice B nB cB) ?_ ?_ ?_
        · (repeat (with_reducible first | exact BZ2.out | refine Blk.drew ?_ | apply Blk.mem10 | refine Blk.alloc ?_ _ | refine Blk.far ?_ ?_ _)) <;> (first | done | (dsimp only; omega))
        · (repeat (with_reducible first | exact BY2.out | refine Blk.drew ?_ | apply Blk.mem2 | refine Blk.alloc ?_ _ | refine Blk.far ?_ ?_ _)) <;> (first | done | (dsimp only; omega))
        · refine KEY.out _ ?_ ?_
          · (repeat (with_reducible first | exact Grow2.refl _ _ _ | refine Grow2.drew ?_ | refine Grow2.alloc ?_ _ | refine Grow2.setCell ?_ ?_ _)) <;> (first | done | exact .inl rfl | exact .inr (.inl rfl))
          · have e : outs [⟨x, 2, f0, f7, f4⟩] = (#[.int .u16 x, .int .u8 2, .int .u16 f0, .int .u16 f7, .int .i64 f4, .slice none 0 0, .slice none 0 0] : Array Value).toList := rfl
            rw [e]
            apply own_after (a := w.heap.size + 1 + 1) (b := w.heap.size + 1 + 1 + 1)
            case hG => (repeat (with_reducible first | exact Grow2.refl _ _ _ | refine Grow2.drew ?_ | refine Grow2.setCell ?_ ?_ _)) <;> (first | done | exact .inl rfl | exact .inr (.inl rfl))
            case hg => simp [World.setCell]
            case hb => (try simp [World.setCell]); omega
            case hs => rfl
            case hna => omega
            case hnb => omega
      · skip
        go_simp
        refine hK.out _ _ (by refine ⟨?_, ?_, ?_⟩ <;> (repeat (with_reducible first | exact BP2.out | exact BT2.out | exact u0 | refine Blk.drew ?_ | refine celldrew ?_ | refine Blk.alloc ?_ _ | refine Blk.far ?_ ?_ _ | refine cellfar ?_ ?_ _ | refine cellalloc ?_ _)) <;> (first | done | (dsimp only; omega))) (fun hHeld => ?_)
        clear hK K
        try simp only [Act.put, List.setIfInBounds_toArray, List.set_cons_zero, List.set_cons_succ]
        refine wpAnyH_ready (rs := [18]) (by decide +kernel) (by simp) ?_
        refine (AllReadyH.cons (by simp only [List.getElem?_toArray, List.getElem?_cons_succ, List.getElem?_cons_zero]; exact rfl) (fun K hK => ?_) AllReadyH.nil)
        go_simp
        refine hK.out _ _ (by refine ⟨?_, ?_, ?_⟩ <;> (repeat (with_reducible first | exact BP2.out | exact BT2.out | exact u0 | refine Blk.drew ?_ | refine celldrew ?_ | refine Blk.alloc ?_ _ | refine Blk.far ?_ ?_ _ | refine cellfar ?_ ?_ _ | refine cellalloc ?_ _)) <;> (first | done | (dsimp only; omega))) (fun hHeld => ?_)
        clear hK K
        try simp only [Act.put, List.setIfInBounds_toArray, List.set_cons_zero, List.set_cons_succ]
        refine wpAnyH_take (i := 21) (v := ?_) (by simp only [List.getElem?_toArray, List.getElem?_cons_succ, List.getElem?_cons_zero]; exact rfl) (by decide +kernel) (by decide +kernel) (by decide +kernel) (by exact fun _ _ _ h => h) (Or.inl ⟨by rfl, ?_⟩) (by assumption) ?_
        rotate_left
        · (intro w hSw; (try dsimp only at hSw); obtain ⟨hb1, hb2, hb3⟩ := hSw; have r0 := hb1.cell 0; have r1 := hb1.cell 1; have r2 := hb1.cell 2; have r3 := hb1.cell 3; have r4 := hb1.cell 4; have r5 := hb1.cell 5; have r6 := hb1.cell 6; have r7 := hb1.cell 7; have r8 := hb1.cell 8; have r9 := hb1.cell 9; have t0 := hb2.cell 0; have t1 := hb2.cell 1; simp only [List.getElem?_toArray, List.getElem?_cons_zero, List.getElem?_cons_succ] at r0 r1 r2 r3 r4 r5 r6 r7 r8 r9 t0 t1; clear hb1 hb2; go_simp; try with_reducible rfl)
        try simp only [Act.put, List.setIfInBounds_toArray, List.set_cons_zero, List.set_cons_succ]
        refine wpAnyH_take (i := 22) (v := ?_) (by simp only [List.getElem?_toArray, List.getElem?_cons_succ, List.getElem?_cons_zero]; exact rfl) (by decide +kernel) (by decide +kernel) (by decide +kernel) (by exact fun _ _ _ h => h) (Or.inl ⟨by rfl, ?_⟩) (by assumption) ?_
        rotate_left
        · (intro w hSw; (try dsimp only at hSw); obtain ⟨hb1, hb2, hb3⟩ := hSw; have r0 := hb1.cell 0; have r1 := hb1.cell 1; have r2 := hb1.cell 2; have r3 := hb1.cell 3; have r4 := hb1.cell 4; have r5 := hb1.cell 5; have r6 := hb1.cell 6; have r7 := hb1.cell 7; have r8 := hb1.cell 8; have r9 := hb1.cell 9; have t0 := hb2.cell 0; have t1 := hb2.cell 1; simp only [List.getElem?_toArray, List.getElem?_cons_zero, List.getElem?_cons_succ] at r0 r1 r2 r3 r4 r5 r6 r7 r8 r9 t0 t1; clear hb1 hb2; go_simp; try with_reducible rfl)
        try simp only [Act.put, List.setIfInBounds_toArray, List.set_cons_zero, List.set_cons_succ]
        refine wpAnyH_done (by decide +kernel) ?_ _
        go_wp2
        clear hHeld
        refine open_ret (g2 := w.heap.size + 1 + 1) (g3 := w.heap.size + 1 + 1 + 1) rfl rfl rfl rfl rfl (x0 := .int .u16 f0) (x1 := .int .i64 f1) (x2 := .int .i64 f2) (x3 := .int .i64 f3) (x4 := .int .i64 f4) (x5 := .bool true) (x6 := .bool true) (x7 := .int .u16 f7) (x8 := .int .i64 f8) (x9 := .slice A n c) (z0 := .int .u16 f0) (z1 := .slice B nB cB) ?_ ?_ ?_
        · (repeat (with_reducible first | exact BZ2.out | refine Blk.drew ?_ | apply Blk.mem10 | refine Blk.alloc ?_ _ | refine Blk.far ?_ ?_ _)) <;> (first | done | (dsimp only; omega))
        · (repeat (with_reducible first | exact BY2.out | refine Blk.drew ?_ | apply Blk.mem2 | refine Blk.alloc ?_ _ | refine Blk.far ?_ ?_ _)) <;> (first | done | (dsimp only; omega))
        · refine KEY.out _ ?_ ?_
          · (repeat (with_reducible first | exact Grow2.refl _ _ _ | refine Grow2.drew ?_ | refine Grow2.alloc ?_ _ | refine Grow2.setCell ?_ ?_ _)) <;> (first | done | exact .inl rfl | exact .inr (.inl rfl))
          · have e : outs [⟨x, 2, f0, f7, f4⟩] = (#[.int .u16 x, .int .u8 2, .int .u16 f0, .int .u16 f7, .int .i64 f4, .slice none 0 0, .slice none 0 0] : Array Value).toList := rfl
            rw [e]
            apply own_after (a := w.heap.size + 1 + 1) (b := w.heap.size + 1 + 1 + 1)
            case hG => (repeat (with_reducible first | exact Grow2.refl _ _ _ | refine Grow2.drew ?_ | refine Grow2.setCell ?_ ?_ _)) <;> (first | done | exact .inl rfl | exact .inr (.inl rfl))
            case hg => simp [World.setCell]
            case hb => (try simp [World.setCell]); omega
            case hs => rfl
            case hna => omega
            case hnb => omega
end Go.Proofs.Ytnlpgjdgiappcaa
