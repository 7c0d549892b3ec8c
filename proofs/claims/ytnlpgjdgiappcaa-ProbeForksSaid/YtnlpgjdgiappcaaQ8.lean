/- The document's Tick of the probe that is one with the program's. -/
import Derived.Test.YtnlpgjdgiappcaaQ7
import Derived.Deep.CutBlock
namespace Go.Proofs.Ytnlpgjdgiappcaa
set_option linter.unusedVariables false
set_option linter.unusedSimpArgs false
open Go.RowKit

theorem wlist_len (f : Nat → Pl.Wa) : (Pl.wlist f).length ≤ 64 := by
  have := List.length_filterMap_le (Pl.wt1 f) (List.range 64)
  rwa [List.length_range] at this
theorem wlist_ok {p : Pl.Pb} (h : Pl.PbOk p) : ∀ x ∈ Pl.wlist p.w, 0 ≤ x.n ∧ 0 ≤ x.f ∧ x.f ≤ 1099511627776 := by
  intro x hx
  obtain ⟨j, _, hm⟩ := List.mem_filterMap.1 hx
  unfold Pl.wt1 at hm
  split at hm
  · injection hm with hm
    subst hm
    have := h.w0 j
    exact ⟨by show (0 : Int) ≤ (j : Int); omega, this.1, this.2⟩
  · cases hm
theorem rtick_of {p : Pl.Pb} (now draw : Int) (F : Pl.Tab) (hp : Pl.PbOk p) (hf : Pl.TOk p.me F) : Pl.rtick now draw (Pl.ofP p) F = (Pl.ofP (Pl.tick now draw p F).1, (Pl.tick now draw p F).2) := by
  obtain ⟨h1, h2⟩ := Pl.tick_ag (Pl.ag_of p) now draw F hp hf
  rw [← h1.eq, ← h2]
theorem refTick_p (p : Pl.Pb) (A : Option Addr) (c : Nat) (B : Option Addr) (cB : Nat) (F : Pl.Tab) (now draw : Int) (w : World) (S : Nat → Prop) (hp : Pl.PbOk p) (hF : Pl.TOk p.me F) (hd0 : 0 ≤ draw) (hd1 : draw ≤ 4294967295) (hs0 : 0 ≤ p.seq) (hs1 : p.seq ≤ 1099511627776)
    (hR : ReadsWt w (fun b => S b ∧ b < w.heap.size) A (Pl.wlist p.w)) (hB : ReadsM w (fun b => S b ∧ b < w.heap.size) B (Pl.listT F)) (hS : ∀ b, w.heap.size ≤ b → S b) :
    Calls Try.prog 60 #[.agg (rpc (Pl.ofP p) A (Pl.wlist p.w).length c), .int .i64 now, .int .u32 draw, .agg #[.int .u16 p.me, .slice B (Pl.listT F).length cB]] w fun e w' => TkEnd w S p.me (Pl.ofP (Pl.tick now draw p F).1, (Pl.tick now draw p F).2) e w' := by
  rw [← rtick_of now draw F hp hF]
  have := wlist_len p.w
  exact refTick_any (Pl.ofP p) A c B cB F now draw w S hF (by have := hp.per0; show (0 : Int) ≤ p.per; omega) hp.per1 (wlist_ok hp) (by show (Pl.wlist p.w).length ≤ 100000; omega) hp.at0 hp.at1 hp.nd0 hd0 hd1 hs0 hs1 hR hB hS
end Go.Proofs.Ytnlpgjdgiappcaa

/- An act of kind 2, 3 or 4 on a world whose both sides are one: they stay one, and do says so. -/
namespace Go.Proofs.Ytnlpgjdgiappcaa
set_option linter.unusedVariables false
set_option linter.unusedSimpArgs false
open Go.RowKit

/-- What stands at the j-th act: both sides are one. -/
def RJ (w0 W : World) (g gp gt j : Nat) : Prop :=
  ∃ p F A cA B cB now, WS W g gp gt p F (Pl.ofP p) A cA p.me F B cB now ∧ Pl.PbOk p ∧ Pl.TOk p.me F ∧ 0 ≤ p.seq ∧ p.seq ≤ j ∧ 0 ≤ now ∧ now ≤ 64 * (j : Int) ∧ Below w0.heap.size w0 W
theorem RJ.below {w0 W X : World} {g gp gt j : Nat} (H : RJ w0 W g gp gt j) (hb : Below W.heap.size W X) : RJ w0 X g gp gt j := by
  obtain ⟨p, F, A, cA, B, cB, now, hW, c1, c2, c3, c4, c5, c6, hK⟩ := H
  exact ⟨p, F, A, cA, B, cB, now, hW.below hb, c1, c2, c3, c4, c5, c6, below_then hK hK.size hb⟩
theorem do_step2 (w0 W : World) (g gp gt j : Nat) (a : Ac) (H : RJ w0 W g gp gt j) (ha : a.Ok) (hk : a.k.tmod 5 = 2 ∨ a.k.tmod 5 = 3 ∨ a.k.tmod 5 = 4) (hg : w0.heap.size ≤ g) (hgp : w0.heap.size ≤ gp) (hgt : w0.heap.size ≤ gt) :
    Calls Try.prog 39 #[.pointer (some ⟨g, 0, none⟩), .agg (acells a)] W fun e w' => e = .returned (.bool true) ∧ RJ w0 w' g gp gt (j + 1) := by
  obtain ⟨p, F, A, cA, B, cB, now, HW, hO, hF, hs0, hs1, hn0, hn1, hK⟩ := H
  have hsz := hK.size
  rcases hk with hk | hk | hk
  · refine (do_ack g gp gt p F (Pl.ofP p) A cA p.me F B cB now a W w0.heap.size hsz hg hgp hgt HW hk).mono ?_
    rintro e w' ⟨b, he, hb', hb, hW⟩
    obtain ⟨i1, i2, i3⟩ := Pl.ack_inv hO a.m.n a.s
    obtain ⟨h1, h2⟩ := Pl.ag_ack (Pl.ag_of p) a.m.n a.s
    rw [h1] at hb'
    rw [h2.eq] at hW
    refine ⟨by rw [he, hb']; simp, _, _, _, _, _, _, _, by rw [i2]; exact hW, i1, by rw [i2]; exact hF, by rw [i3]; exact hs0, by rw [i3]; omega, hn0, by omega, hK.trans hb⟩
  · refine (do_watch g gp gt p F (Pl.ofP p) A cA p.me F B cB now a W w0.heap.size hsz hg hgp hgt HW hk ha.m (by have := wlist_len p.w; show (Pl.wlist p.w).length ≤ 1000000; omega)).mono ?_
    rintro e w' ⟨he, hb, A', cA', hW⟩
    have h2 := Pl.ag_watch (Pl.ag_of p) a.m now ha.m.n0
    rw [h2.eq] at hW
    exact ⟨he, _, _, _, _, _, _, _, by rw [watch_me]; exact hW, Pl.watch_ok hO _ _, by rw [watch_me]; exact hF, by rw [watch_seq]; exact hs0, by rw [watch_seq]; omega, hn0, by omega, hK.trans hb⟩
  · refine (do_hear g gp gt p F (Pl.ofP p) A cA p.me F B cB now a W w0.heap.size hsz hg hgp hgt HW hk ha.m hF).mono ?_
    rintro e w' ⟨he, hb, B', cB', hW⟩
    exact ⟨he, _, _, _, _, _, _, _, hW, hO, Pl.heard_ok hF ha.m, hs0, by omega, hn0, by omega, hK.trans hb⟩
end Go.Proofs.Ytnlpgjdgiappcaa

/- The world's acts 0 and 1 (a tick) where both sides are one: they stay one, and do says so. -/
namespace Go.Proofs.Ytnlpgjdgiappcaa
set_option linter.unusedVariables false
set_option linter.unusedSimpArgs false
open Go.ChangeShapes Go.WideShapes Go.ChangeAt Go.RowKit Go.Joins Go.Deep

theorem Reads.setc {w : World} {S : Nat → Prop} {k : Nat} {A : Option Addr} {n : Nat} {xs : List Value} (h : Reads w S k A n xs) {p : Addr} (hp : ∀ b, S b → b ≠ p.block) (u : Value) : Reads (w.setCell p u) S k A n xs := Reads.keep h fun b hb => Below.heap_setCell w p u b (hp b hb)
theorem Reads.allc {w : World} {S : Nat → Prop} {k : Nat} {A : Option Addr} {n : Nat} {xs : List Value} (hk : 0 < k) (h : Reads w S k A n xs) (o : Obj) : Reads (w.alloc o) S k A n xs := Reads.below h hk ((Below.refl _ w).alloc (Nat.le_refl _) o)
/-- The two rows that a tick hands back. -/
structure Two (w : World) (S : Nat → Prop) (Ao An : Option Addr) (O : List Pl.Ou) (N : List Pl.M) : Prop where
  o : Reads w S 7 Ao O.length (outs O)
  n : ReadsM w S An N
section
variable {w w' : World} {S S' : Nat → Prop} {Ao An : Option Addr} {O : List Pl.Ou} {N : List Pl.M}
theorem Two.keep (h : Two w S Ao An O N) (hk : ∀ b, S b → w'.heap[b]? = w.heap[b]?) : Two w' S Ao An O N := ⟨h.o.keep hk, Reads.keep h.n hk⟩
theorem Two.imp (h : Two w S Ao An O N) (hS : ∀ b, S b → S' b) : Two w S' Ao An O N := ⟨h.o.imp hS, Reads.imp h.n hS⟩
theorem Two.below (h : Two w S Ao An O N) (hb : Below w.heap.size w w') : Two w' S Ao An O N := ⟨h.o.below (by omega) hb, Reads.below h.n (by omega) hb⟩
theorem Two.there (h : Two w S Ao An O N) : Two w (fun b => S b ∧ b < w.heap.size) Ao An O N := ⟨h.o.there (by omega), Reads.there h.n (by omega)⟩
theorem Two.set (h : Two w S Ao An O N) {p : Addr} (hp : ∀ b, S b → b ≠ p.block) (u : Value) : Two (w.setCell p u) S Ao An O N := h.keep fun b hb => Below.heap_setCell w p u b (hp b hb)
theorem Two.alloc (h : Two w S Ao An O N) (o : Obj) : Two (w.alloc o) S Ao An O N := h.below ((Below.refl _ w).alloc (Nat.le_refl _) o)
end
theorem two_of_own {w : World} {base : Nat} {e e' : TypeId} {vo vn : Value} {O : List Pl.Ou} {N : List Pl.M} (ho : w.ownsRow base e 7 vo O.length (outs O)) (hn : w.ownsRow base e' 3 vn N.length (rows N)) :
    ∃ Ao co An cn, vo = .slice Ao O.length co ∧ vn = .slice An N.length cn ∧ Two w (fun b => base ≤ b) Ao An O N := by
  obtain ⟨Ao, co, e1, h1⟩ := Reads.of_own ho
  obtain ⟨An, cn, e2, h2⟩ := Reads.of_own hn
  exact ⟨Ao, co, An, cn, e1, e2, h1.imp (fun b hb => own_base ho b hb), Reads.imp h2 (fun b hb => own_base hn b hb)⟩
/-- What a tick of the document's leaves: whom it watches, its table, and the two rows. -/
structure Rest (w : World) (S : Nat → Prop) (A : Option Addr) (r : Pl.Rp) (B : Option Addr) (F : Pl.Tab) (Ao An : Option Addr) (O : List Pl.Ou) (N : List Pl.M) : Prop where
  wt : ReadsWt w S A r.w
  gl : ReadsM w S B (Pl.listT F)
  two : Two w S Ao An O N
section
variable {w w' : World} {S S' : Nat → Prop} {A B Ao An : Option Addr} {r : Pl.Rp} {F : Pl.Tab} {O : List Pl.Ou} {N : List Pl.M}
theorem Rest.keep (h : Rest w S A r B F Ao An O N) (hk : ∀ b, S b → w'.heap[b]? = w.heap[b]?) : Rest w' S A r B F Ao An O N := ⟨Reads.keep h.wt hk, Reads.keep h.gl hk, h.two.keep hk⟩
theorem Rest.imp (h : Rest w S A r B F Ao An O N) (hS : ∀ b, S b → S' b) : Rest w S' A r B F Ao An O N := ⟨Reads.imp h.wt hS, Reads.imp h.gl hS, h.two.imp hS⟩
theorem Rest.below (h : Rest w S A r B F Ao An O N) (hb : Below w.heap.size w w') : Rest w' S A r B F Ao An O N := ⟨Reads.below h.wt (by omega) hb, Reads.below h.gl (by omega) hb, h.two.below hb⟩
theorem Rest.there (h : Rest w S A r B F Ao An O N) : Rest w (fun b => S b ∧ b < w.heap.size) A r B F Ao An O N := ⟨Reads.there h.wt (by omega), Reads.there h.gl (by omega), h.two.there⟩
theorem Rest.drew (h : Rest w S A r B F Ao An O N) : Rest w.drew S A r B F Ao An O N := ⟨h.wt, h.gl, h.two.o, h.two.n⟩
theorem Rest.set (h : Rest w S A r B F Ao An O N) {p : Addr} (hp : ∀ b, S b → b ≠ p.block) (u : Value) : Rest (w.setCell p u) S A r B F Ao An O N := h.keep fun b hb => Below.heap_setCell w p u b (hp b hb)
theorem Rest.alloc (h : Rest w S A r B F Ao An O N) (o : Obj) : Rest (w.alloc o) S A r B F Ao An O N := h.below ((Below.refl _ w).alloc (Nat.le_refl _) o)
end
theorem Two.drew {w : World} {S : Nat → Prop} {Ao An : Option Addr} {O : List Pl.Ou} {N : List Pl.M} (h : Two w S Ao An O N) : Two w.drew S Ao An O N := ⟨h.o, h.n⟩
theorem WS.swap {w w' : World} {g gp gt : Nat} {p : Pl.Pb} {F : Pl.Tab} {r r' : Pl.Rp} {A A' : Option Addr} {cA cA' : Nat} {z z' : Int} {G G' : Pl.Tab} {B B' : Option Addr} {cB cB' : Nat} {now : Int} (H : WS w g gp gt p F r A cA z G B cB now) (hb : ∀ b, b ≠ g → w'.heap[b]? = w.heap[b]?)
    (hblk : Blk w' g 83 (wcells gp gt r' A' r'.w.length cA' z' B' (Pl.listT G').length cB' now)) (hR : ReadsWt w (fun b => b ≠ g ∧ b ≠ gp ∧ b ≠ gt) A' r'.w) (hG : ReadsM w (fun b => b ≠ g ∧ b ≠ gp ∧ b ≠ gt) B' (Pl.listT G')) : WS w' g gp gt p F r' A' cA' z' G' B' cB' now :=
  ⟨hblk, (hb gp (fun e => H.ne1 e.symm)).trans H.pb, (hb gt (fun e => H.ne2 e.symm)).trans H.tb, Reads.keep hR (fun b h => hb b h.1), Reads.keep hG (fun b h => hb b h.1), H.ne1, H.ne2, H.ne3⟩
set_option maxRecDepth 100000 in
set_option maxHeartbeats 4000000 in
theorem do_tickW (g gp gt : Nat) (p : Pl.Pb) (F : Pl.Tab) (A : Option Addr) (cA : Nat) (B : Option Addr) (cB : Nat) (now nn : Int) (a : Ac) (w : World) (B0 : Nat) (hB0 : B0 ≤ w.heap.size) (hB1 : B0 ≤ g) (hB2 : B0 ≤ gp) (hB3 : B0 ≤ gt)
    (H : WS w g gp gt p F (Pl.ofP p) A cA p.me F B cB now) (hk : a.k.tmod 5 = 0 ∨ a.k.tmod 5 = 1) (ha : a.Ok) (hO : Pl.PbOk p) (hF : Pl.TOk p.me F) (hs0 : 0 ≤ p.seq) (hs1 : p.seq ≤ 1000) (hn0 : 0 ≤ now) (hn1 : now ≤ 1000000) (hnn : now + a.b.tmod 64 = nn) (p' : Pl.Pb) (F' : Pl.Tab) (O : List Pl.Ou) (N : List Pl.M) (hT : Pl.tick nn a.d p F = (p', F', O, N)) :
    Calls Try.prog 39 #[.pointer (some ⟨g, 0, none⟩), .agg (acells a)] w fun e w' => e = .returned (.bool true) ∧ Below B0 w w' ∧ ∃ A' cA' B' cB', WS w' g gp gt p' F' (Pl.ofP p') A' cA' p'.me F' B' cB' nn := by
  obtain ⟨t1, t2, t3, t4, t5, t6, t7, t8⟩ := Pl.tick_inv (now := nn) (draw := a.d) hO hF
  rw [hT] at t1 t2 t3 t4 t5 t6 t7 t8
  simp only at t1 t2 t3 t4 t5 t6 t7 t8
  obtain ⟨bb, hbb⟩ : ∃ bb, a.b.tmod 64 = bb := ⟨_, rfl⟩
  have hb0 := ha.b0
  have hbb2 : 0 ≤ bb ∧ bb < 64 := by
    rw [← hbb, Int.tmod_eq_emod_of_nonneg hb0]
    omega
  obtain ⟨hbb3, hbb4⟩ := hbb2
  rw [hbb] at hnn
  have hw1 : IntKind.i64.wrap bb = bb := by rw [IntKind.wrap_i64]; omega
  have hw2 : IntKind.i64.wrap (now + bb) = nn := by rw [IntKind.wrap_i64]; omega
  have hd0 := ha.d0
  have hd1 := ha.d1
  have h2 : (a.k.tmod 5 == 2) = false := beq_eq_false_iff_ne.2 (by omega)
  have h3 : (a.k.tmod 5 == 3) = false := beq_eq_false_iff_ne.2 (by omega)
  have h4 : (a.k.tmod 5 == 4) = false := beq_eq_false_iff_ne.2 (by omega)
  unfold acells
  clear hb0 hk ha
  generalize a.k = k0 at *
  generalize a.b = k1 at *
  generalize a.d = k2 at *
  generalize a.s = k3 at *
  generalize a.m.n = n0 at *
  generalize a.m.s = n1 at *
  generalize a.m.i = n2 at *
  have HSQ := Lib.hid hs0
  have HSQ1 := Lib.hid hs1
  have HD := Lib.hid (And.intro hd0 hd1)
  have HO := Lib.hid hO
  have HF := Lib.hid hF
  have HT := Lib.hid hT
  have T3 := Lib.hid t3
  have T7 := Lib.hid t7
  have T8 := Lib.hid t8
  have HNN := Lib.hid hnn
  have lg := H.blk.lt
  have lp := H.pb.lt
  have lt_ := H.tb.lt
  have hne1 := H.ne1
  have hne2 := H.ne2
  have hne3 := H.ne3
  have K1 := Lib.hid ((Below.refl B0 w).alloc hB0 (.cells #[.int .u8 k0, .int .u8 k1, .int .u32 k2, .int .u16 n0, .int .u8 n1, .int .i64 n2, .int .i64 k3] 85))
  have BA1 := Lib.hid (Blk.new w 85 #[.int .u8 k0, .int .u8 k1, .int .u32 k2, .int .u16 n0, .int .u8 n1, .int .i64 n2, .int .i64 k3])
  have W1 := Lib.hid (H.below ((Below.refl _ w).alloc (Nat.le_refl _) (.cells #[.int .u8 k0, .int .u8 k1, .int .u32 k2, .int .u16 n0, .int .u8 n1, .int .i64 n2, .int .i64 k3] 85)))
  clear H t1 t2 t3 t4 t5 t6 t7 t8 hd0 hd1 hnn hT hO hF hs0 hs1
  go_enter Try.func39, Try.ntmps39
  have SZ1 : Hid (w.heap.size < (w.alloc (.cells #[.int .u8 k0, .int .u8 k1, .int .u32 k2, .int .u16 n0, .int .u8 n1, .int .i64 n2, .int .i64 k3] 85)).heap.size) := Lib.hid (by simp)
  go_upto_region 15 with fail
  generalize w.alloc (.cells #[.int .u8 k0, .int .u8 k1, .int .u32 k2, .int .u16 n0, .int .u8 n1, .int .i64 n2, .int .i64 k3] 85) = w1 at *
  obtain ⟨ba, hba⟩ : ∃ b, w.heap.size = b := ⟨_, rfl⟩
  rw [hba]
  have BA2 : Hid (Blk w1 ba 85 #[.int .u8 k0, .int .u8 k1, .int .u32 k2, .int .u16 n0, .int .u8 n1, .int .i64 n2, .int .i64 k3]) := Lib.hid (by rw [← hba]; exact BA1.out)
  have hgba : g ≠ ba := by omega
  have hpba : gp ≠ ba := by omega
  have htba : gt ≠ ba := by omega
  have hb0 : B0 ≤ ba := by omega
  clear BA1 hba
  have y14 := W1.out.blk.cell 14
  simp only [wcells, rpc, List.getElem?_toArray, List.getElem?_cons_zero, List.getElem?_cons_succ] at y14
  have lg1 := W1.out.blk.lt
  have yf := W1.out.blk.frozen
  have x1 := BA2.out.cell 1
  simp only [wcells, rpc, List.getElem?_toArray, List.getElem?_cons_zero, List.getElem?_cons_succ] at x1
  go_still_tail 11, (by kernel_rfl)
  change wpList _ _ _ _ _ (World.drew w1)
  have W4 := Lib.hid ((W1.out.setNow nn).drew)
  have K4 := Lib.hid ((K1.out.setCell (p := ⟨g, 14, none⟩) hB1 (.int .i64 nn)).drew)
  have BA4 := Lib.hid ((BA2.out.far (p := ⟨g, 14, none⟩) hgba.symm (.int .i64 nn)).drew)
  go_upto_region 16 with fail
  generalize (w1.setCell ⟨g, 14, none⟩ (.int .i64 nn)).drew = w4 at *
  clear y14 x1 lg1 lg lp lt_ yf
  have y0 := W4.out.blk.cell 0
  have y1 := W4.out.blk.cell 1
  have y14 := W4.out.blk.cell 14
  simp only [wcells, rpc, List.getElem?_toArray, List.getElem?_cons_zero, List.getElem?_cons_succ] at y0 y1 y14
  have x2 := BA4.out.cell 2
  simp only [wcells, rpc, List.getElem?_toArray, List.getElem?_cons_zero, List.getElem?_cons_succ] at x2
  have HS4 : Hid (w4.cell? ⟨g, 0, none⟩ = some (.pointer (some ⟨gp, 0, none⟩)) ∧ w4.cell? ⟨g, 1, none⟩ = some (.pointer (some ⟨gt, 0, none⟩)) ∧ w4.cell? ⟨g, 14, none⟩ = some (.int .i64 nn) ∧ w4.cell? ⟨ba, 2, none⟩ = some (.int .u32 k2)) := Lib.hid ⟨y0, y1, y14, x2⟩
  have TK : Hid (Calls Try.prog 34 #[.pointer (some ⟨gp, 0, none⟩), .int .i64 nn, .int .u32 k2, .pointer (some ⟨gt, 0, none⟩)] w4.drew fun e w5 => (∃ Ao co An cn, e = .returned (.tuple #[.slice Ao O.length co, .slice An N.length cn]) ∧ Two w5 (fun b => b ≠ g ∧ b < w5.heap.size) Ao An O N) ∧ WS w5 g gp gt p' F' (Pl.ofP p) A cA p.me F B cB nn ∧ Blk w5 ba 85 #[.int .u8 k0, .int .u8 k1, .int .u32 k2, .int .u16 n0, .int .u8 n1, .int .i64 n2, .int .i64 k3] ∧ Below B0 w w5 ∧ (w5.cell? ⟨g, 0, none⟩ = some (.pointer (some ⟨gp, 0, none⟩)) ∧ w5.cell? ⟨g, 1, none⟩ = some (.pointer (some ⟨gt, 0, none⟩)) ∧ w5.cell? ⟨g, 14, none⟩ = some (.int .i64 nn) ∧ w5.cell? ⟨ba, 2, none⟩ = some (.int .u32 k2))) := by
    refine Lib.hid ((ptick_any gp gt p F nn k2 _ W4.out.pb.drew W4.out.tb.drew HO.out HF.out HD.out.1 HD.out.2 HSQ.out (by have := HSQ1.out; omega)).mono ?_)
    rintro e w5 hE
    rw [HT.out] at hE
    obtain ⟨vo, vn, he, ho, hn⟩ := hE.ret
    obtain ⟨Ao, co, An, cn, rfl, rfl, h2⟩ := two_of_own ho hn
    have W5 := W4.out.drew.ticked hE.gr hE.p T3.out hE.t
    have B5 : Blk w5 ba 85 #[.int .u8 k0, .int .u8 k1, .int .u32 k2, .int .u16 n0, .int .u8 n1, .int .i64 n2, .int .i64 k3] := (hE.gr.block ba BA4.out.lt (fun e => hpba e.symm) (fun e => htba e.symm)).trans BA4.out
    have hg4 := W4.out.blk.lt
    refine ⟨⟨Ao, co, An, cn, he, h2.there.imp (fun b hb => ⟨by have := hb.1; simp only [drew_size] at this; omega, hb.2⟩)⟩, W5, B5, K4.out.drew.trans (below_of_grow2 hE.gr (Nat.le_trans hB0 K4.out.drew.size) hB2 hB3), ?_⟩
    have v0 := W5.blk.cell 0
    have v1 := W5.blk.cell 1
    have v14 := W5.blk.cell 14
    simp only [wcells, rpc, List.getElem?_toArray, List.getElem?_cons_zero, List.getElem?_cons_succ] at v0 v1 v14
    have v2 := B5.cell 2
    simp only [wcells, rpc, List.getElem?_toArray, List.getElem?_cons_zero, List.getElem?_cons_succ] at v2
    exact ⟨v0, v1, v14, v2⟩
  go_region_held3 (fun X => X.cell? ⟨g, 0, none⟩ = some (.pointer (some ⟨gp, 0, none⟩)) ∧ X.cell? ⟨g, 1, none⟩ = some (.pointer (some ⟨gt, 0, none⟩)) ∧ X.cell? ⟨g, 14, none⟩ = some (.int .i64 nn) ∧ X.cell? ⟨ba, 2, none⟩ = some (.int .u32 k2)) (first | assumption | exact HS4.out)
    ((go_at_call 34
      refine TK.out.mono ?_
      rintro e w5 ⟨⟨Ao, co, An, cn, rfl, hTW⟩, hW5, hB5, hK5, HS5⟩
      have W5 := Lib.hid hW5
      have TW5 := Lib.hid hTW
      have BA5 := Lib.hid hB5
      have K5 := Lib.hid hK5
      clear hTW hW5 hB5 hK5))
  clear TK y0 y1 y14 x2 HS4 HS5 W4 K4 BA4 W1 K1 BA2 hw1 hw2
  have GW5 := W5.out.rw_
  have GL5 := W5.out.gl
  obtain ⟨r, hr⟩ : ∃ r, Pl.ofP p = r := ⟨_, rfl⟩
  obtain ⟨r', hr'⟩ : ∃ r, Pl.ofP p' = r := ⟨_, rfl⟩
  obtain ⟨nF, hnF⟩ : ∃ n, (Pl.listT F).length = n := ⟨_, rfl⟩
  obtain ⟨nF', hnF'⟩ : ∃ n, (Pl.listT F').length = n := ⟨_, rfl⟩
  have HR' := Lib.hid hr'
  have HNF' := Lib.hid hnF'
  have HC : ∀ X, SB w5.heap.size w5 X → Calls Try.prog 60 #[.agg (rpc r A r.w.length cA), .int .i64 nn, .int .u32 k2, .agg #[.int .u16 p.me, .slice B nF cB]] X fun e w' => ∃ A' c' B' d' Ao co An cn, e = .returned (.tuple #[.agg (rpc r' A' r'.w.length c'), .agg #[.int .u16 p.me, .slice B' nF' d'], .slice Ao O.length co, .slice An N.length cn]) ∧
      Rest w' (fun b => ((b ≠ g ∧ b ≠ gp ∧ b ≠ gt) ∧ b < w5.heap.size) ∨ X.heap.size ≤ b) A' r' B' F' Ao An O N ∧ Below X.heap.size X w' := by
    intro X hX
    have h := refTick_p p A cA B cB F nn k2 X (fun b => ((b ≠ g ∧ b ≠ gp ∧ b ≠ gt) ∧ b < w5.heap.size) ∨ X.heap.size ≤ b) HO.out HF.out HD.out.1 HD.out.2 HSQ.out (by have := HSQ1.out; omega) (((GW5.there (by omega)).below (by omega) hX.2.2).imp (fun b hb => ⟨.inl hb, by have := hX.2.2.size; omega⟩)) (((Reads.there GL5 (by omega)).below (by omega) hX.2.2).imp (fun b hb => ⟨.inl hb, by have := hX.2.2.size; omega⟩)) (fun b hb => .inr hb)
    rw [HT.out] at h
    have e1 : (Pl.wlist p.w).length = r.w.length := by rw [← hr]; rfl
    rw [e1, hr, hnF] at h
    refine h.mono ?_
    rintro e w' ⟨⟨A', c', B', d', vo, vn, he, q1, q2, q3, q4⟩, hb⟩
    simp only [hr', hnF'] at he q1 q2 q3 q4
    obtain ⟨Ao, co, An, cn, rfl, rfl, h2⟩ := two_of_own q3 q4
    exact ⟨A', c', B', d', Ao, co, An, cn, he, ⟨q1, q2, h2.imp (fun b hb => .inr hb)⟩, hb⟩
  have HC5 := Lib.hid HC
  clear HC GW5 GL5
  have q2 := W5.out.blk
  rw [hr, hnF] at q2
  unfold wcells at q2
  have y2 := q2.cell 2
  have y3 := q2.cell 3
  have y4 := q2.cell 4
  have y5 := q2.cell 5
  have y6 := q2.cell 6
  have y7 := q2.cell 7
  have y8 := q2.cell 8
  have y9 := q2.cell 9
  have y10 := q2.cell 10
  have y11 := q2.cell 11
  have y12 := q2.cell 12
  have y13 := q2.cell 13
  have y14 := q2.cell 14
  simp only [wcells, rpc, List.getElem?_toArray, List.getElem?_cons_zero, List.getElem?_cons_succ] at y2 y3 y4 y5 y6 y7 y8 y9 y10 y11 y12 y13 y14
  have x2 := BA5.out.cell 2
  simp only [wcells, rpc, List.getElem?_toArray, List.getElem?_cons_zero, List.getElem?_cons_succ] at x2
  have lg5 := W5.out.blk.lt
  have lp5 := W5.out.pb.lt
  have lt5 := W5.out.tb.lt
  have lb5 := BA5.out.lt
  clear q2 hr hr' hnF hnF'
  have HSW := Lib.hid (keepB (Below.refl w5.heap.size w5))
  have SZ5 : Hid (w.heap.size ≤ w5.heap.size) := Lib.hid K5.out.size
  obtain ⟨nW, hnW⟩ : ∃ n, r.w.length = n := ⟨_, rfl⟩
  obtain ⟨nW', hnW'⟩ : ∃ n, r'.w.length = n := ⟨_, rfl⟩
  have HNW' := Lib.hid hnW'
  simp only [hnW, hnW'] at HC5 y11
  clear hnW hnW'
  unfold rpc at HC5
  obtain ⟨z0, hz0⟩ : ∃ n, r'.me = n := ⟨_, rfl⟩
  obtain ⟨me, hme⟩ : ∃ n, p.me = n := ⟨_, rfl⟩
  simp only [hme] at HC5 y12
  have HME := Lib.hid hme
  clear hz0 hme
  go_upto_region 17 with fail
  go_cut [10, 11, 12, 13] from 128 to 163 (fun s10 s11 s12 s13 wx => ∃ (b10 b11 : Nat) (A' B' Ao An : Option Addr) (c' d' co cn : Nat), s10 = .pointer (some ⟨b10, 0, none⟩) ∧ s11 = .pointer (some ⟨b11, 0, none⟩) ∧ s12 = .slice Ao O.length co ∧ s13 = .slice An N.length cn ∧ w5.heap.size ≤ b10 ∧ w5.heap.size ≤ b11 ∧
    Go.RowKit.Hid (Blk wx b10 81 (rpc r' A' nW' c')) ∧ Go.RowKit.Hid (Blk wx b11 46 #[.int .u16 me, .slice B' nF' d']) ∧ Go.RowKit.Hid (Below w5.heap.size w5 wx) ∧
    Go.RowKit.Hid (Rest wx (fun b => (b ≠ g ∧ b ≠ gp ∧ b ≠ gt) ∧ b ≠ b10 ∧ b ≠ b11) A' r' B' F' Ao An O N))
  case first =>
    go_region_held3 (fun X => SB w5.heap.size w5 X) (((repeat (with_reducible first | assumption | exact HSW.out | refine sb_drew ?_ | refine sb_alloc ?_ (Nat.le_refl _) _ | refine sb_set ?_ ?_ _)); all_goals first | done | (simp; done) | (simp; omega)))
      (first
        | (go_at_call 60; refine (HC5.out _ (by assumption)).mono ?_; rintro e w6 ⟨A', c', B', d', Ao, co, An, cn, rfl, hr1, hb1⟩; have S1 : SB w5.heap.size w5 w6 := sb_then (by assumption) hb1; have R1 := Lib.hid hr1; have L1 := hb1.size; have B1 := Lib.hid hb1
           first
             | (obtain ⟨K0, K1, k0', k1', k2', k3'⟩ := kept2 hb1; have f0 := K0.frozen; have f1 := K1.frozen; have a0 := K0.cell 0; have a1 := K0.cell 1; have a2 := K0.cell 2; have a3 := K0.cell 3; have a4 := K0.cell 4; have a5 := K0.cell 5; have a6 := K0.cell 6; have a7 := K0.cell 7; have a8 := K0.cell 8; have a9 := K0.cell 9; have e0 := K1.cell 0; have e1 := K1.cell 1; have e2 := K1.cell 2; have e3 := K1.cell 3; have e4 := K1.cell 4; have e5 := K1.cell 5; have e6 := K1.cell 6; have e7 := K1.cell 7; have e8 := K1.cell 8; have e9 := K1.cell 9; have BK0 := Lib.hid K0; have BK1 := Lib.hid K1; clear K0 K1; simp only [List.getElem?_toArray, List.getElem?_cons_zero, List.getElem?_cons_succ] at a0 a1 a2 a3 a4 a5 a6 a7 a8 a9 e0 e1 e2 e3 e4 e5 e6 e7 e8 e9)
             | (obtain ⟨K0, k0', k1'⟩ := kept1 hb1; have f0 := K0.frozen; have a0 := K0.cell 0; have a1 := K0.cell 1; have a2 := K0.cell 2; have a3 := K0.cell 3; have a4 := K0.cell 4; have a5 := K0.cell 5; have a6 := K0.cell 6; have a7 := K0.cell 7; have a8 := K0.cell 8; have a9 := K0.cell 9; have BK0 := Lib.hid K0; clear K0; simp only [List.getElem?_toArray, List.getElem?_cons_zero, List.getElem?_cons_succ] at a0 a1 a2 a3 a4 a5 a6 a7 a8 a9)
             | skip
           clear hr1 hb1))
    all_goals
      go_wp2
      go_meet
      case rel =>
        try simp only [drew_size] at L1
        try simp at L1
        refine ⟨_, _, A', B', Ao, An, c', d', co, cn, rfl, rfl, rfl, rfl, ?_, ?_, Lib.hid ?_, Lib.hid ?_, Lib.hid (by assumption : SB w5.heap.size w5 _).2.2, Lib.hid ?_⟩
        · omega
        · omega
        · unfold rpc
          repeat (with_reducible first | exact BK0.out | exact BK1.out | apply Blk.mem10 | refine Blk.new_at ?_ | refine Blk.drew ?_ | refine Blk.alloc ?_ _ | refine Blk.far ?_ ?_ _)
          all_goals first | done | (simp; done) | (simp; omega)
        · repeat (with_reducible first | exact BK0.out | exact BK1.out | apply Blk.mem2 | refine Blk.new_at ?_ | refine Blk.drew ?_ | refine Blk.alloc ?_ _ | refine Blk.far ?_ ?_ _)
          all_goals first | done | (simp; done) | (simp; omega)
        · repeat (with_reducible first | refine Rest.set ?_ ?_ _ | refine Rest.alloc ?_ _ | refine Rest.drew ?_)
          all_goals first | exact (fun b hb => hb.2.1) | exact (fun b hb => hb.2.2) | skip
          refine R1.out.there.imp fun b hb => ?_
          obtain ⟨h | h, h'⟩ := hb
          · exact ⟨h.1, by omega, by omega⟩
          · try simp only [drew_size] at h
            try simp at h
            exact ⟨⟨by omega, by omega, by omega⟩, by omega, by omega⟩
  case rest =>
    obtain ⟨b10, b11, A', B', Ao2, An2, c', d', co2, cn2, rfl, rfl, rfl, rfl, hb10, hb11, D10, D11, K6, RR⟩ := hcut
    have W6 := Lib.hid (W5.out.below K6.out)
    have TW6 := Lib.hid (TW5.out.below K6.out)
    have KK6 := Lib.hid (below_then K5.out (Nat.le_trans hB0 SZ5.out) K6.out)
    have D10x := D10.out
    unfold rpc at D10x
    clear y2 y3 y4 y5 y6 y7 y8 y9 y10 y11 y12 y13 y14 x2 HC5 HSW W5 TW5 BA5 K5 lp5 lt5 lb5
    have s0 := D10x.cell 0
    have s1 := D10x.cell 1
    have s2 := D10x.cell 2
    have s3 := D10x.cell 3
    have s4 := D10x.cell 4
    have s5 := D10x.cell 5
    have s6 := D10x.cell 6
    have s7 := D10x.cell 7
    have s8 := D10x.cell 8
    have s9 := D10x.cell 9
    simp only [wcells, rpc, List.getElem?_toArray, List.getElem?_cons_zero, List.getElem?_cons_succ] at s0 s1 s2 s3 s4 s5 s6 s7 s8 s9
    have q0 := D11.out.cell 0
    have q1 := D11.out.cell 1
    simp only [wcells, rpc, List.getElem?_toArray, List.getElem?_cons_zero, List.getElem?_cons_succ] at q0 q1
    have y2 := W6.out.blk.cell 2
    have y3 := W6.out.blk.cell 3
    have y4 := W6.out.blk.cell 4
    have y5 := W6.out.blk.cell 5
    have y6 := W6.out.blk.cell 6
    have y7 := W6.out.blk.cell 7
    have y8 := W6.out.blk.cell 8
    have y9 := W6.out.blk.cell 9
    have y10 := W6.out.blk.cell 10
    have y11 := W6.out.blk.cell 11
    have y12 := W6.out.blk.cell 12
    have y13 := W6.out.blk.cell 13
    simp only [wcells, rpc, List.getElem?_toArray, List.getElem?_cons_zero, List.getElem?_cons_succ] at y2 y3 y4 y5 y6 y7 y8 y9 y10 y11 y12 y13
    have yf6 := W6.out.blk.frozen
    have lg6 := W6.out.blk.lt
    have KEY : ∀ W : World, (∀ b, b ≠ g → W.heap[b]? = wc.heap[b]?) → Blk W g 83 (wcells gp gt r' A' nW' c' me B' nF' d' nn) → Below B0 w W → (WS W g gp gt p' F' r' A' c' me F' B' d' nn ∧ Two W (fun _ => True) Ao An O N ∧ Two W (fun _ => True) Ao2 An2 O N) ∧ Below B0 w W := by
      intro W hb hblk hK
      have RR' := RR.out
      rw [← HNW'.out, ← HNF'.out] at hblk
      exact ⟨⟨WS.swap W6.out hb hblk (Reads.imp RR'.wt (fun b h => h.1)) (Reads.imp RR'.gl (fun b h => h.1)), (TW6.out.keep (fun b h => hb b h.1)).imp (fun _ _ => trivial), (RR'.two.keep (fun b h => hb b h.1.1)).imp (fun _ _ => trivial)⟩, hK⟩
    have KEY1 := KEY (twor (tenr wc g (.int .u16 r'.me) (.int .i64 r'.per) (.int .i64 r'.tmo) (.int .i64 r'.nxt) (.int .i64 r'.seq) (.bool r'.op) (.bool r'.hlp) (.int .u16 r'.nd) (.int .i64 r'.at_) (.slice A' nW' c')) g (.int .u16 me) (.slice B' nF' d')) (fun b h => (Below.heap_setCell _ ⟨g, 13, none⟩ _ b h).trans ((Below.heap_setCell _ ⟨g, 12, none⟩ _ b h).trans (heap_tenr wc g b h _ _ _ _ _ _ _ _ _ _)))
      (by have h := W6.out.blk; unfold wcells at h ⊢; exact (h.tenr (.int .u16 r'.me) (.int .i64 r'.per) (.int .i64 r'.tmo) (.int .i64 r'.nxt) (.int .i64 r'.seq) (.bool r'.op) (.bool r'.hlp) (.int .u16 r'.nd) (.int .i64 r'.at_) (.slice A' nW' c')).twor (.int .u16 me) (.slice B' nF' d')) (((below_tenr KK6.out hB1 _ _ _ _ _ _ _ _ _ _).setCell (p := ⟨g, 12, none⟩) hB1 _).setCell (p := ⟨g, 13, none⟩) hB1 _)
    have KEY2 := KEY (tenr (twor wc g (.int .u16 me) (.slice B' nF' d')) g (.int .u16 r'.me) (.int .i64 r'.per) (.int .i64 r'.tmo) (.int .i64 r'.nxt) (.int .i64 r'.seq) (.bool r'.op) (.bool r'.hlp) (.int .u16 r'.nd) (.int .i64 r'.at_) (.slice A' nW' c')) (fun b h => (heap_tenr _ g b h _ _ _ _ _ _ _ _ _ _).trans ((Below.heap_setCell _ ⟨g, 13, none⟩ _ b h).trans (Below.heap_setCell _ ⟨g, 12, none⟩ _ b h)))
      (by have h := W6.out.blk; unfold wcells at h ⊢; exact (h.twor (.int .u16 me) (.slice B' nF' d')).tenr (.int .u16 r'.me) (.int .i64 r'.per) (.int .i64 r'.tmo) (.int .i64 r'.nxt) (.int .i64 r'.seq) (.bool r'.op) (.bool r'.hlp) (.int .u16 r'.nd) (.int .i64 r'.at_) (.slice A' nW' c')) (below_tenr ((KK6.out.setCell (p := ⟨g, 12, none⟩) hB1 _).setCell (p := ⟨g, 13, none⟩) hB1 _) hB1 _ _ _ _ _ _ _ _ _ _)
    unfold twor tenr at KEY1 KEY2
    have KY1 := Lib.hid KEY1
    have KY2 := Lib.hid KEY2
    clear KEY KEY1 KEY2
    go_upto_region 18 with fail
    go_region
    all_goals
      first
        | (generalize ((((((((((((wc.setCell ⟨g, 2, none⟩ (.int .u16 r'.me)).setCell ⟨g, 3, none⟩ (.int .i64 r'.per)).setCell ⟨g, 4, none⟩ (.int .i64 r'.tmo)).setCell ⟨g, 5, none⟩ (.int .i64 r'.nxt)).setCell ⟨g, 6, none⟩ (.int .i64 r'.seq)).setCell ⟨g, 7, none⟩ (.bool r'.op)).setCell ⟨g, 8, none⟩ (.bool r'.hlp)).setCell ⟨g, 9, none⟩ (.int .u16 r'.nd)).setCell ⟨g, 10, none⟩ (.int .i64 r'.at_)).setCell ⟨g, 11, none⟩ (.slice A' nW' c')).setCell ⟨g, 12, none⟩ (.int .u16 me)).setCell ⟨g, 13, none⟩ (.slice B' nF' d')) = wN at KY1 ⊢; have KY := KY1; clear KY1 KY2)
        | (generalize ((((((((((((wc.setCell ⟨g, 12, none⟩ (.int .u16 me)).setCell ⟨g, 13, none⟩ (.slice B' nF' d')).setCell ⟨g, 2, none⟩ (.int .u16 r'.me)).setCell ⟨g, 3, none⟩ (.int .i64 r'.per)).setCell ⟨g, 4, none⟩ (.int .i64 r'.tmo)).setCell ⟨g, 5, none⟩ (.int .i64 r'.nxt)).setCell ⟨g, 6, none⟩ (.int .i64 r'.seq)).setCell ⟨g, 7, none⟩ (.bool r'.op)).setCell ⟨g, 8, none⟩ (.bool r'.hlp)).setCell ⟨g, 9, none⟩ (.int .u16 r'.nd)).setCell ⟨g, 10, none⟩ (.int .i64 r'.at_)).setCell ⟨g, 11, none⟩ (.slice A' nW' c')) = wN at KY2 ⊢; have KY := KY2; clear KY1 KY2)
      have HSO : Hid (∀ X, Below wN.heap.size wN X → Calls Try.prog 61 #[.slice Ao O.length co, .slice Ao2 O.length co2] X fun e w' => e = .returned (.bool true) ∧ Below X.heap.size X w') := by
        refine Lib.hid (fun X hX => sameOuts_any Ao Ao2 co co2 O O X (KY.out.1.2.1.below hX).o (KY.out.1.2.2.below hX).o (by have := T8.out; omega) true (fun Y v hY hv => ?_))
        obtain ⟨Av, cv, rfl, hr⟩ := Reads.of_own hv
        exact sameOutsR_any Av Ao2 cv co2 O Y (hr.imp fun _ _ => trivial) ((KY.out.1.2.2.below hX).below hY).o (by have := T8.out; omega)
      have HSM : Hid (∀ X, Below wN.heap.size wN X → Calls Try.prog 23 #[.slice An N.length cn, .slice An2 N.length cn2] X fun e w' => e = .returned (.bool true) ∧ Below X.heap.size X w') := by
        refine Lib.hid (fun X hX => (same_any An An2 cn cn2 N N X (KY.out.1.2.1.below hX).n (KY.out.1.2.2.below hX).n (by have := T7.out; omega) (by have := T7.out; omega)).mono ?_)
        rintro e w' ⟨he, hb⟩
        exact ⟨by rw [he, decide_eq_true rfl], hb⟩
      clear y2 y3 y4 y5 y6 y7 y8 y9 y10 y11 y12 y13 s0 s1 s2 s3 s4 s5 s6 s7 s8 s9 q0 q1 yf6 lg6
      go_wp2_with fail
      refine (HSO.out _ (Below.refl _ _).drew).mono ?_
      rintro e w7 ⟨rfl, hb⟩
      have K7 := Lib.hid (below_then (Below.refl wN.heap.size wN).drew (Nat.le_refl _) hb)
      clear hb
      go_wp2_with fail
      refine (HSM.out _ K7.out).mono ?_
      rintro e w8 ⟨rfl, hb⟩
      have K8 := Lib.hid (below_then K7.out K7.out.size hb)
      clear hb
      go_wp2
      go_ret
      refine ⟨rfl, below_then KY.out.2 (Nat.le_trans hB0 KY.out.2.size) K8.out, A', c', B', d', ?_⟩
      rw [T3.out, HME.out, HR'.out]
      exact KY.out.1.1.below K8.out
theorem do_tick (w0 W : World) (g gp gt j : Nat) (a : Ac) (H : RJ w0 W g gp gt j) (hj : j ≤ 200) (ha : a.Ok) (hk : a.k.tmod 5 = 0 ∨ a.k.tmod 5 = 1) (hg : w0.heap.size ≤ g) (hgp : w0.heap.size ≤ gp) (hgt : w0.heap.size ≤ gt) :
    Calls Try.prog 39 #[.pointer (some ⟨g, 0, none⟩), .agg (acells a)] W fun e w' => e = .returned (.bool true) ∧ RJ w0 w' g gp gt (j + 1) := by
  obtain ⟨p, F, A, cA, B, cB, now, HW, hO, hF, hs0, hs1, hn0, hn1, hK⟩ := H
  have hsz := hK.size
  obtain ⟨t1, t2, t3, t4, t5, t6, t7, t8⟩ := Pl.tick_inv (now := now + a.b.tmod 64) (draw := a.d) hO hF
  have hbb : 0 ≤ a.b.tmod 64 ∧ a.b.tmod 64 < 64 := by
    rw [Int.tmod_eq_emod_of_nonneg ha.b0]
    omega
  obtain ⟨hb0, hb1⟩ := hbb
  refine (do_tickW g gp gt p F A cA B cB now (now + a.b.tmod 64) a W w0.heap.size hsz hg hgp hgt HW hk ha hO hF hs0 (by omega) hn0 (by omega) rfl (Pl.tick (now + a.b.tmod 64) a.d p F).1 (Pl.tick (now + a.b.tmod 64) a.d p F).2.1 (Pl.tick (now + a.b.tmod 64) a.d p F).2.2.1 (Pl.tick (now + a.b.tmod 64) a.d p F).2.2.2 rfl).mono ?_
  rintro e w' ⟨he, hb, A', cA', B', cB', hW⟩
  exact ⟨he, _, _, A', cA', B', cB', _, hW, t1, by rw [t3]; exact t2, by omega, by omega, by omega, by omega, hK.trans hb⟩
/-- Any act. -/
theorem do_any (w0 W : World) (g gp gt j : Nat) (a : Ac) (H : RJ w0 W g gp gt j) (hj : j ≤ 200) (ha : a.Ok) (hg : w0.heap.size ≤ g) (hgp : w0.heap.size ≤ gp) (hgt : w0.heap.size ≤ gt) :
    Calls Try.prog 39 #[.pointer (some ⟨g, 0, none⟩), .agg (acells a)] W fun e w' => e = .returned (.bool true) ∧ RJ w0 w' g gp gt (j + 1) := by
  have h0 := ha.k0
  by_cases hk : a.k.tmod 5 = 0 ∨ a.k.tmod 5 = 1
  · exact do_tick w0 W g gp gt j a H hj ha hk hg hgp hgt
  · refine do_step2 w0 W g gp gt j a H ha ?_ hg hgp hgt
    rw [Int.tmod_eq_emod_of_nonneg h0] at hk ⊢
    omega
end Go.Proofs.Ytnlpgjdgiappcaa
