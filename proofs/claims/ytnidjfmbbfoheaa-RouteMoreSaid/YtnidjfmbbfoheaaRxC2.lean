/- WALKS: Compile. -/
import Derived.Test.YtnidjfmbbfoheaaRxC1
namespace Go.Proofs.Ytnidjfmbbfoheaa
set_option linter.unusedVariables false
set_option linter.unusedSimpArgs false
open Go.RowKit

/-- A pattern that was read lies so. -/
def IsRx (w : World) (B g : Nat) (c : Rx.Cm) : Prop := ∃ v, Blk w g 107 #[v, .int .i64 (c.a : Int)] ∧ Row w B v c.st ∧ B ≤ g
theorem IsRx.below {w w' : World} {B g : Nat} {c : Rx.Cm} (h : IsRx w B g c) (k : Below w.heap.size w w') : IsRx w' B g c := by
  obtain ⟨v, h1, h2, h3⟩ := h
  exact ⟨v, h1.below k h1.lt, h2.below k, h3⟩
/-- What Compile hands back. -/
def CompEnd (w : World) (s : List Nat) (e : Ending) (w' : World) : Prop :=
  Below w.heap.size w w' ∧ match Rx.compile s with
  | none => e = .returned (.tuple #[.pointer none, .int .i64 9])
  | some c => ∃ g, e = .returned (.tuple #[.pointer (some ⟨g, 0, none⟩), .int .i64 0]) ∧ IsRx w' w.heap.size g c

set_option maxRecDepth 100000 in
set_option maxHeartbeats 2000000 in
theorem compile_far (s : List Nat) (w : World) (h : 64 < s.length) (hn : s.length < 2 ^ 60) :
    Calls Try.prog 27 #[.string (bs s)] w fun e w' => e = .returned (.tuple #[.pointer none, .int .i64 5]) ∧ Below w.heap.size w w' := by
  have hz := bs_size s
  have h1 : (64 : Int) < (s.length : Int) := by omega
  generalize bs s = b at *
  go_enter Try.func27, Try.ntmps27
  go_wp2
  refine bodyPost_ret (v := .tuple #[.pointer none, .int .i64 5]) (by simp [results, Try.results27, go_sem]) rfl ⟨rfl, ?_⟩
  exact ((Below.refl _ _).alloc (Nat.le_refl _) _).alloc (by simp) _

def compOf : Option (Rx.Re × List Nat) → Option Rx.Cm
  | some (r, []) => some (Rx.comp r)
  | _ => none
theorem compile_of (s : List Nat) (R : Option (Rx.Re × List Nat)) (h : Rx.patA (8 * s.length + 8) s = R) : Rx.compile s = compOf R := by
  subst h
  unfold Rx.compile Rx.readA
  rcases Rx.patA (8 * s.length + 8) s with _ | ⟨r, _ | ⟨c, s1⟩⟩ <;> rfl
set_option maxRecDepth 100000 in
set_option maxHeartbeats 2000000 in
theorem compile_near (s : List Nat) (w : World) (h : s.length ≤ 64) (hs : ∀ x ∈ s, x < 256) :
    Calls Try.prog 27 #[.string (bs s)] w (CompEnd w s) := by
  have hmf : ∀ (fn : Fn) (first cap : Array Value) (w : World), (Instr.makeFunc fn first cap).run Try.prog w = .ok (.func fn first cap) w := fun _ _ _ _ => rfl
  have hz := bs_size s
  have h1 : ¬ (64 : Int) < (s.length : Int) := by omega
  have HP : Hid (∀ w0 : World, Blk w0 (w.heap.size + 1 + 1) 99 #[.string (bs s), .slice none 0 0] → Calls Try.prog 62 #[.pointer (some ⟨w.heap.size + 1 + 1, 0, none⟩)] w0 (PatEnd w0 w.heap.size (w.heap.size + 1 + 1) [] (.slice none 0 0) (Rx.patA (8 * s.length + 8) s))) := Lib.hid (fun w0 hb => (all_ok (8 * s.length + 8)).1 w.heap.size (w.heap.size + 1 + 1) s [] (.slice none 0 0) w0 ⟨hb, ⟨[], rfl, own_nil w0 w.heap.size 105 3, fun x hx => by cases hx⟩, by omega⟩ hs (by simp; omega) (by omega))
  obtain ⟨R, hR⟩ : ∃ R, Rx.patA (8 * s.length + 8) s = R := ⟨_, rfl⟩
  have hcs := compile_of s R hR
  rw [hR] at HP
  have HCS := Lib.hid hcs
  have HS := Lib.hid hs
  have HR := Lib.hid hR
  have hz0 : ((w.alloc (.cells #[.pointer none] 30)).alloc (.cells #[.int .i64 0] 25)).heap.size = w.heap.size + 1 + 1 := by simp
  have hx0 := Blk.new ((w.alloc (.cells #[.pointer none] 30)).alloc (.cells #[.int .i64 0] 25)) 99 #[.string (bs s), .slice none 0 0]
  rw [hz0] at hx0
  have X0 := Lib.hid hx0
  have A0 := Lib.hid (((Blk.new w 30 #[.pointer none]).alloc (.cells #[.int .i64 0] 25)).alloc (.cells #[.string (bs s), .slice none 0 0] 99))
  have hb0 := (Blk.new (w.alloc (.cells #[.pointer none] 30)) 25 #[.int .i64 0]).alloc (.cells #[.string (bs s), .slice none 0 0] 99)
  rw [show (w.alloc (.cells #[.pointer none] 30)).heap.size = w.heap.size + 1 by simp] at hb0
  have B0 := Lib.hid hb0
  have K0 := Lib.hid ((((Below.refl w.heap.size w).alloc (Nat.le_refl _) (.cells #[.pointer none] 30)).alloc (by simp) (.cells #[.int .i64 0] 25)).alloc (by simp; omega) (.cells #[.string (bs s), .slice none 0 0] 99))
  clear hs hR hcs hx0 hb0 hz0
  go_enter_defers Try.func27, Try.ntmps27
  go_wp2_with fail
  refine (HP.out _ X0.out).mono ?_
  generalize hW0 : ((w.alloc (.cells #[.pointer none] 30)).alloc (.cells #[.int .i64 0] 25)).alloc (.cells #[.string (bs s), .slice none 0 0] 99) = W0 at *
  clear hW0 HP
  intro e w1 hE
  rcases R with _ | ⟨r, _ | ⟨c, s1⟩⟩
  · obtain ⟨rfl, hpg⟩ := hE
    have A1 := Lib.hid (A0.out.pg hpg (by omega) (by simp [Value.ownBlock]))
    have B1 := Lib.hid (B0.out.pg hpg (by omega) (by simp [Value.ownBlock]))
    have K1 := Lib.hid (K0.out.trans (below_of_pg hpg K0.out.size (by omega) (by intro k hk; simp [Value.ownBlock] at hk)))
    clear hpg
    go_wp2
    refine leaves_cons (f := 61) (args := #[.pointer (some ⟨w.heap.size, 0, none⟩), .pointer (some ⟨w.heap.size + 1, 0, none⟩)]) (by simp) (by simp [go_sem]) ?_
    refine (catch_bad w.heap.size (w.heap.size + 1) (.pointer none) (.int .i64 0) w1 (A1.out.cell 0) (B1.out.cell 0) (A1.out.frozen 0) (B1.out.frozen 0) A1.out.lt B1.out.lt (by omega)).mono ?_
    rintro e u' w2 ⟨rfl, rfl, hw2⟩
    have C0 : w2.cell? ⟨w.heap.size, 0, none⟩ = some (.pointer none) := by
      rw [hw2]
      exact ((((A1.out.set_ 0 (.pointer none)).far (p := ⟨w.heap.size + 1, 0, none⟩) (by show w.heap.size ≠ w.heap.size + 1; omega) (.int .i64 9)).alloc (.cells #[] 94)).cell 0)
    have C1 : w2.cell? ⟨w.heap.size + 1, 0, none⟩ = some (.int .i64 9) := by
      rw [hw2]
      exact ((((B1.out.far (p := ⟨w.heap.size, 0, none⟩) (by show w.heap.size + 1 ≠ w.heap.size; omega) (.pointer none)).set_ 0 (.int .i64 9)).alloc (.cells #[] 94)).cell 0)
    have K2 : Below w.heap.size w w2 := by
      rw [hw2]
      exact (((K1.out.setCell (p := ⟨w.heap.size, 0, none⟩) (Nat.le_refl _) _).setCell (p := ⟨w.heap.size + 1, 0, none⟩) (Nat.le_succ _) _).alloc (by simp [World.setCell]; exact Nat.le_of_lt A1.out.lt) _)
    clear hw2
    simp [Leaves, settle, results, Try.results27, go_sem, C0, C1]
    refine ⟨K2, ?_⟩
    rw [HCS.out]
    rfl
  · obtain ⟨rfl, ⟨v1, hP, hN⟩, hpg⟩ := hE
    have A1 := Lib.hid (A0.out.pg hpg (by omega) (by simp [Value.ownBlock]))
    have B1 := Lib.hid (B0.out.pg hpg (by omega) (by simp [Value.ownBlock]))
    have K1 := Lib.hid (K0.out.trans (below_of_pg hpg K0.out.size (by omega) (by intro k hk; simp [Value.ownBlock] at hk)))
    have hll := (Rx.gen_len r [])
    have hcnt : (Rx.gen r []).2.length ≤ 900000 := by
      have := ((Rx.read_left (8 * s.length + 8)).1 _ _ _ HR.out).2.2
      rw [hll]
      simp only [List.length_nil] at *
      omega
    simp only [pcv]
    obtain ⟨i0, hi, hz0, hz1, hz2⟩ := info_parts state_info
    have HI := Lib.hid hi
    have HZ := Lib.hid (⟨hz0, hz1, hz2⟩ : i0.zero = some (.agg #[.pointer none, .int .i64 0, .int .i64 0]) ∧ i0.size = 3 ∧ i0.bytes = 24)
    clear hi hz0 hz1 hz2 hll
    obtain ⟨a, z, st, hg⟩ : ∃ a z st, Rx.gen r [] = (⟨a, z⟩, st) := ⟨_, _, _, rfl⟩
    have hcm : Rx.comp r = ⟨st ++ [⟨none, -1, (z : Int)⟩], a⟩ := by unfold Rx.comp; rw [hg]
    have hcs : Rx.compile s = some ⟨st ++ [⟨none, -1, (z : Int)⟩], a⟩ := by rw [HCS.out, ← hcm]; rfl
    have HC := Lib.hid hcs
    rw [hg] at hP hcnt
    rw [hg]
    simp only at hP hcnt ⊢
    obtain ⟨L, hL, hown, hsets⟩ := hP.row
    have hll : L.length = st.length := by rw [← hL, List.length_map]
    obtain ⟨A, cp, rfl⟩ := own_slice hown
    have hLn : L.length ≤ 900000 := by omega
    have HLE := Lib.hid hL
    have HSS := Lib.hid hsets
    have HOWN := Lib.hid hown
    have hx := hP.blk
    have lx := hx.lt
    have hx1 := hx.alloc (.cells #[.int .i64 (a : Int), .int .i64 (z : Int)] 101)
    have HX := Lib.hid hx1
    have BX0 := Lib.hid hx
    have BP := Lib.hid (Blk.new w1 101 #[.int .i64 (a : Int), .int .i64 (z : Int)])
    clear hP hN hpg hcs hcm hg HCS hL hll hsets hown hx hcnt
    have x0 := HX.out.cell 0
    have x1 := HX.out.cell 1
    have p0 := BP.out.cell 0
    have p1 := BP.out.cell 1
    simp only [List.getElem?_toArray, List.getElem?_cons_zero, List.getElem?_cons_succ, bs_nil] at x0 x1 p0 p1
    have a1 := (A1.out.alloc (.cells #[.int .i64 (a : Int), .int .i64 (z : Int)] 101)).frozen 0
    have b1 := (B1.out.alloc (.cells #[.int .i64 (a : Int), .int .i64 (z : Int)] 101)).frozen 0
    have a2 := (A1.out.alloc (.cells #[.int .i64 (a : Int), .int .i64 (z : Int)] 101)).lt
    have b2 := (B1.out.alloc (.cells #[.int .i64 (a : Int), .int .i64 (z : Int)] 101)).lt
    clear hx1
    have HNE := Lib.hid (own_blk_ne HOWN.out BX0.out (by decide))
    have HNA := Lib.hid (own_blk_ne HOWN.out A1.out (by decide))
    have HNB := Lib.hid (own_blk_ne HOWN.out B1.out (by decide))
    have hsz1 : (w1.alloc (.cells #[.int .i64 (a : Int), .int .i64 (z : Int)] 101)).heap.size = w1.heap.size + 1 := by simp
    have hB2 := Blk.new (w1.alloc (.cells #[.int .i64 (a : Int), .int .i64 (z : Int)] 101)) 105 #[.pointer none, .int .i64 (-1), .int .i64 (z : Int)]
    rw [hsz1] at hB2
    have HB2 := Lib.hid hB2
    have HO1 := Lib.hid ((HOWN.out.alloc (.cells #[.int .i64 (a : Int), .int .i64 (z : Int)] 101)).alloc (.cells #[.pointer none, .int .i64 (-1), .int .i64 (z : Int)] 105))
    clear hsz1 hB2
    go_wp2
    have cn1 : (w1.alloc (.cells #[.int .i64 (a : Int), .int .i64 (z : Int)] 101)).heap.size = w1.heap.size + 1 := by simp
    have HN1 := Lib.hid cn1
    clear cn1
    go_region_held3 (fun X => X.cell? ⟨w.heap.size + 1 + 1, 1, none⟩ = some (.slice A L.length cp) ∧ X.cell? ⟨w1.heap.size, 0, none⟩ = some (.int .i64 (a : Int)) ∧ X.cell? ⟨w1.heap.size, 1, none⟩ = some (.int .i64 (z : Int))) (go_keep)
      ((refine step_append_lies _ rfl (.tmp 25) (.tmp 29) 97 rfl w.heap.size 105 i0 _ 3 24 und97 HI.out HZ.out.1 HZ.out.2.1 HZ.out.2.2 rfl (by omega) _ L.length (stc L) rfl (World.ownsRow.drew HO1.out) ⟨w1.heap.size + 1, 0, none⟩ 1 1 [.pointer none, .int .i64 (-1), .int .i64 (z : Int)] rfl rfl ?_ ?_ (by omega) ?_ ?_ ?_ _ rfl ?_
        · intro j u hu
          rw [Addr.add_mid, Nat.zero_add]
          have := HB2.out.cell j
          exact this.trans (by simpa using hu)
        · intro u hu
          simp only [List.mem_cons, List.not_mem_nil, or_false] at hu
          rcases hu with rfl | rfl | rfl
          · rfl
          · rfl
          · rfl
        · unfold maxLen; omega
        · omega
        · exact Nat.le_trans (by omega : w.heap.size ≤ w1.heap.size + 1 + 1) (by simp)
        intro ga ca wa hoa hga hata hlta
        have X3 := Lib.hid ((HX.out.alloc (.cells #[.pointer none, .int .i64 (-1), .int .i64 (z : Int)] 105)).drew.grown hga (fun e => HNE.out e.symm))
        have A3 := Lib.hid (((A1.out.alloc (.cells #[.int .i64 (a : Int), .int .i64 (z : Int)] 101)).alloc (.cells #[.pointer none, .int .i64 (-1), .int .i64 (z : Int)] 105)).drew.grown hga (fun e => HNA.out e.symm))
        have B3 := Lib.hid (((B1.out.alloc (.cells #[.int .i64 (a : Int), .int .i64 (z : Int)] 101)).alloc (.cells #[.pointer none, .int .i64 (-1), .int .i64 (z : Int)] 105)).drew.grown hga (fun e => HNB.out e.symm))
        have P3 := Lib.hid ((BP.out.alloc (.cells #[.pointer none, .int .i64 (-1), .int .i64 (z : Int)] 105)).drew.grown hga (fun e => by have := own_lt HOWN.out _ e.symm; omega))
        have K3 := Lib.hid (((((K1.out.alloc (by omega) (.cells #[.int .i64 (a : Int), .int .i64 (z : Int)] 101))).alloc (by have := HN1.out; omega) (.cells #[.pointer none, .int .i64 (-1), .int .i64 (z : Int)] 105)).drew).trans (below_of_grown (B := w.heap.size) (by have := HN1.out; simp [World.drew] at *; omega) hga (own_base HOWN.out)))
        have s0 := X3.out.cell 1
        have s1 := P3.out.cell 0
        have s2 := P3.out.cell 1
        have f0 := A3.out.frozen 0
        have f1 := B3.out.frozen 0
        have g0 := A3.out.lt
        have g1 := B3.out.lt
        have t0 := A3.out.cell 0
        have t1 := B3.out.cell 0
        have g4 := X3.out.lt
        have g5 := P3.out.lt
        have e1 : w.heap.size + 1 + 1 ≠ w.heap.size := by omega
        have e2 : w.heap.size + 1 + 1 ≠ w.heap.size + 1 := by omega
        have e3 : w1.heap.size ≠ w.heap.size := by omega
        have e4 : w1.heap.size ≠ w.heap.size + 1 := by omega
        have e1' := e1.symm
        have e2' := e2.symm
        have e3' := e3.symm
        have e4' := e4.symm
        have g2 : w.heap.size ≠ wa.heap.size := by omega
        have g3 : w.heap.size + 1 ≠ wa.heap.size := by omega
        simp only [List.getElem?_toArray, List.getElem?_cons_zero, List.getElem?_cons_succ] at s0 s1 s2 t0 t1
        have HOA := Lib.hid hoa
        have HGA : Hid (((w1.alloc (.cells #[.int .i64 (a : Int), .int .i64 (z : Int)] 101)).alloc (.cells #[.pointer none, .int .i64 (-1), .int .i64 (z : Int)] 105)).drew.grownBy wa (Value.slice A L.length cp).ownBlock) := Lib.hid hga
        clear hoa hga hata
        clear x0 x1 p0 p1 a1 b1 a2 b2))
    have A5 := Lib.hid (((A3.out.set_ 0 (.pointer (some ⟨wa.heap.size, 0, none⟩))).far (p := ⟨w.heap.size + 1, 0, none⟩) (by show w.heap.size ≠ w.heap.size + 1; omega) (.int .i64 0)).alloc (.cells #[.slice (some ⟨ga, 0, none⟩) (L.length + 1) ca, .int .i64 (a : Int)] 107))
    have B5 := Lib.hid (((B3.out.far (p := ⟨w.heap.size, 0, none⟩) (by show w.heap.size + 1 ≠ w.heap.size; omega) (.pointer (some ⟨wa.heap.size, 0, none⟩))).set_ 0 (.int .i64 0)).alloc (.cells #[.slice (some ⟨ga, 0, none⟩) (L.length + 1) ca, .int .i64 (a : Int)] 107))
    have hs5 : ((wa.setCell ⟨w.heap.size, 0, none⟩ (.pointer (some ⟨wa.heap.size, 0, none⟩))).setCell ⟨w.heap.size + 1, 0, none⟩ (.int .i64 0)).heap.size = wa.heap.size := by simp [World.setCell]
    have K5 := Lib.hid (((K3.out.setCell (p := ⟨w.heap.size, 0, none⟩) (Nat.le_refl _) (.pointer (some ⟨wa.heap.size, 0, none⟩))).setCell (p := ⟨w.heap.size + 1, 0, none⟩) (Nat.le_succ _) (.int .i64 0)).alloc (by rw [hs5]; omega) (.cells #[.slice (some ⟨ga, 0, none⟩) (L.length + 1) ca, .int .i64 (a : Int)] 107))
    have hx5 := Blk.new ((wa.setCell ⟨w.heap.size, 0, none⟩ (.pointer (some ⟨wa.heap.size, 0, none⟩))).setCell ⟨w.heap.size + 1, 0, none⟩ (.int .i64 0)) 107 #[.slice (some ⟨ga, 0, none⟩) (L.length + 1) ca, .int .i64 (a : Int)]
    rw [hs5] at hx5
    have X5 := Lib.hid hx5
    clear hs5 hx5
    have hrow3 : Row wa w.heap.size (.slice (some ⟨ga, 0, none⟩) (L.length + 1) ca) (st ++ [⟨none, -1, (z : Int)⟩]) := by
      refine ⟨L ++ [(none, ⟨none, -1, (z : Int)⟩)], by rw [List.map_append, HLE.out]; rfl, ?_, ?_⟩
      · rw [List.length_append, stc_append]
        exact HOA.out
      · intro x hx
        rcases List.mem_append.1 hx with hx | hx
        · refine (HSS.out x hx).keep (fun b y _ _ hb => ?_)
          exact (((hb.alloc (.cells #[.int .i64 (a : Int), .int .i64 (z : Int)] 101)).alloc (.cells #[.pointer none, .int .i64 (-1), .int .i64 (z : Int)] 105)).drew).grown HGA.out (fun e => own_blk_ne HOWN.out hb (by decide) e.symm)
        · simp only [List.mem_singleton] at hx
          subst hx
          trivial
    have R5 := Lib.hid (((hrow3.far A3.out ⟨by decide, by decide⟩ (p := ⟨w.heap.size, 0, none⟩) rfl (.pointer (some ⟨wa.heap.size, 0, none⟩))).far (B3.out.far (p := ⟨w.heap.size, 0, none⟩) (by show w.heap.size + 1 ≠ w.heap.size; omega) (.pointer (some ⟨wa.heap.size, 0, none⟩))) ⟨by decide, by decide⟩ (p := ⟨w.heap.size + 1, 0, none⟩) rfl (.int .i64 0)).alloc (.cells #[.slice (some ⟨ga, 0, none⟩) (L.length + 1) ca, .int .i64 (a : Int)] 107))
    clear hrow3
    go_wp2
    refine leaves_cons (f := 61) (args := #[.pointer (some ⟨w.heap.size, 0, none⟩), .pointer (some ⟨w.heap.size + 1, 0, none⟩)]) (by simp) (by simp [go_sem]) ?_
    refine (catch_idle w.heap.size (w.heap.size + 1) _).mono ?_
    rintro e u' w2 ⟨rfl, rfl, hw2⟩
    have hw3 : w2 = (((wa.setCell ⟨w.heap.size, 0, none⟩ (.pointer (some ⟨wa.heap.size, 0, none⟩))).setCell ⟨w.heap.size + 1, 0, none⟩ (.int .i64 0)).alloc (.cells #[.slice (some ⟨ga, 0, none⟩) (L.length + 1) ca, .int .i64 (a : Int)] 107)) := hw2
    have C0 : w2.cell? ⟨w.heap.size, 0, none⟩ = some (.pointer (some ⟨wa.heap.size, 0, none⟩)) := by rw [hw3]; exact A5.out.cell 0
    have C1 : w2.cell? ⟨w.heap.size + 1, 0, none⟩ = some (.int .i64 0) := by rw [hw3]; exact B5.out.cell 0
    have KX : Below w.heap.size w w2 := by rw [hw3]; exact K5.out
    have IX : IsRx w2 w.heap.size wa.heap.size ⟨st ++ [⟨none, -1, (z : Int)⟩], a⟩ := by
      rw [hw3]
      exact ⟨_, X5.out, R5.out, Nat.le_of_lt g0⟩
    clear hw2 hw3
    simp [Leaves, settle, results, Try.results27, go_sem, C0, C1]
    refine ⟨KX, ?_⟩
    rw [HC.out]
    exact ⟨_, rfl, IX⟩
  · obtain ⟨rfl, ⟨v1, hP, hN⟩, hpg⟩ := hE
    have A1 := Lib.hid (A0.out.pg hpg (by omega) (by simp [Value.ownBlock]))
    have B1 := Lib.hid (B0.out.pg hpg (by omega) (by simp [Value.ownBlock]))
    have K1 := Lib.hid (K0.out.trans (below_of_pg hpg K0.out.size (by omega) (by intro k hk; simp [Value.ownBlock] at hk)))
    have c0 := hP.c0
    have l0 := hP.lt
    have A2 := Lib.hid (A1.out.alloc (.cells #[.int .i64 ↑(Rx.gen r []).fst.a, .int .i64 ↑(Rx.gen r []).fst.z] 101))
    have B2 := Lib.hid (B1.out.alloc (.cells #[.int .i64 ↑(Rx.gen r []).fst.a, .int .i64 ↑(Rx.gen r []).fst.z] 101))
    have K2 := Lib.hid (K1.out.alloc (by have := A1.out.lt; omega) (.cells #[.int .i64 ↑(Rx.gen r []).fst.a, .int .i64 ↑(Rx.gen r []).fst.z] 101))
    clear hP hN hpg
    simp only [pcv]
    have hne : (bs (c :: s1)).toList.isEmpty = false := by rw [bs_ne]; rfl
    have hne2 : (!(bs (c :: s1)).toList.isEmpty) = true := by rw [hne]; rfl
    generalize bs (c :: s1) = b1 at *
    have hcs := HCS
    have c1 : (w1.alloc (.cells #[.int .i64 ↑(Rx.gen r []).fst.a, .int .i64 ↑(Rx.gen r []).fst.z] 101)).cell? ⟨w.heap.size + 1 + 1, 0, none⟩ = some (.string b1) := by rw [World.cell?_alloc_lt _ _ _ l0]; exact c0
    go_wp2
    refine leaves_cons (f := 61) (args := #[.pointer (some ⟨w.heap.size, 0, none⟩), .pointer (some ⟨w.heap.size + 1, 0, none⟩)]) (by simp) (by simp [go_sem]) ?_
    refine (catch_bad w.heap.size (w.heap.size + 1) (.pointer none) (.int .i64 0) _ (A2.out.cell 0) (B2.out.cell 0) (A2.out.frozen 0) (B2.out.frozen 0) A2.out.lt B2.out.lt (by omega)).mono ?_
    rintro e u' w2 ⟨rfl, rfl, hw2⟩
    have C0 : w2.cell? ⟨w.heap.size, 0, none⟩ = some (.pointer none) := by
      rw [hw2]
      exact ((((A2.out.set_ 0 (.pointer none)).far (p := ⟨w.heap.size + 1, 0, none⟩) (by show w.heap.size ≠ w.heap.size + 1; omega) (.int .i64 9)).alloc (.cells #[] 94)).cell 0)
    have C1 : w2.cell? ⟨w.heap.size + 1, 0, none⟩ = some (.int .i64 9) := by
      rw [hw2]
      exact ((((B2.out.far (p := ⟨w.heap.size, 0, none⟩) (by show w.heap.size + 1 ≠ w.heap.size; omega) (.pointer none)).set_ 0 (.int .i64 9)).alloc (.cells #[] 94)).cell 0)
    have K2 : Below w.heap.size w w2 := by
      rw [hw2]
      exact (((K2.out.setCell (p := ⟨w.heap.size, 0, none⟩) (Nat.le_refl _) _).setCell (p := ⟨w.heap.size + 1, 0, none⟩) (Nat.le_succ _) _).alloc (by have := A2.out.lt; simp [World.setCell] at this ⊢; omega) _)
    clear hw2
    simp [Leaves, settle, results, Try.results27, go_sem, C0, C1]
    refine ⟨K2, ?_⟩
    rw [HCS.out]
    rfl
end Go.Proofs.Ytnidjfmbbfoheaa
