/- WALK: what every right program routes. -/
import Derived.Test.YtnidjfmbbfoheaaT3
namespace Go.Proofs.Ytnidjfmbbfoheaa
set_option linter.unusedVariables false
set_option linter.unusedSimpArgs false
open Go.RowKit Go.BigFrame

set_option maxRecDepth 100000 in
set_option maxHeartbeats 1000000 in
theorem plain_none (p : Int) (c : Bool) (w : World) : Calls Try.prog 81 #[.int .i64 p, .string ⟨#[]⟩, .bool c] w fun e w' => e = .returned (.agg #[.int .i64 p, .slice none 0 0, .bool c, .slice none 0 0, .string ⟨#[114]⟩, .int .i64 0, .int .i64 1, .int .i64 1]) ∧ Below w.heap.size w w' := by
  go_enter Try.func81, Try.ntmps81
  go_wp2
  have s0 := (Blk.new w 77 #[.int .i64 p, .slice none 0 0, .bool c, .slice none 0 0, .string ⟨#[114]⟩, .int .i64 0, .int .i64 1, .int .i64 1]).alloc (.cells #[.int .i64 p, .slice none 0 0, .bool c, .slice none 0 0, .string ⟨#[114]⟩, .int .i64 0, .int .i64 1, .int .i64 1] 77)
  have c0 := s0.cell 0
  have c1 := s0.cell 1
  have c2 := s0.cell 2
  have c3 := s0.cell 3
  have c4 := s0.cell 4
  have c5 := s0.cell 5
  have c6 := s0.cell 6
  have c7 := s0.cell 7
  simp only [List.getElem?_toArray, List.getElem?_cons_zero, List.getElem?_cons_succ] at c0 c1 c2 c3 c4 c5 c6 c7
  exact bodyPost_ret (v := .agg #[.int .i64 p, .slice none 0 0, .bool c, .slice none 0 0, .string ⟨#[114]⟩, .int .i64 0, .int .i64 1, .int .i64 1]) (by simp [results, Try.results81, go_sem, c0, c1, c2, c3, c4, c5, c6, c7]) rfl ⟨rfl, ((Below.refl w.heap.size w).alloc (Nat.le_refl _) _).alloc (by simp) _⟩
set_option maxRecDepth 100000 in
set_option maxHeartbeats 1000000 in
theorem plain_val (p : Int) (d : UInt8) (c : Bool) (w : World) : Calls Try.prog 81 #[.int .i64 p, .string ⟨#[d]⟩, .bool c] w fun e w' => ∃ g, e = .returned (.agg #[.int .i64 p, .slice (some ⟨g, 0, none⟩) 1 1, .bool c, .slice none 0 0, .string ⟨#[114]⟩, .int .i64 0, .int .i64 1, .int .i64 1]) ∧ Below w.heap.size w w' ∧ Blk w' g 37 #[.string ⟨#[97]⟩, .int .u8 0, .string ⟨#[d]⟩] := by
  go_enter Try.func81, Try.ntmps81
  go_wp2
  have s0 := ((Blk.new w 77 #[.int .i64 p, .slice (some ⟨w.heap.size + 1 + 1, 0, none⟩) 1 1, .bool c, .slice none 0 0, .string ⟨#[114]⟩, .int .i64 0, .int .i64 1, .int .i64 1]).alloc (.cells #[.int .i64 p, .slice (some ⟨w.heap.size + 1 + 1, 0, none⟩) 1 1, .bool c, .slice none 0 0, .string ⟨#[114]⟩, .int .i64 0, .int .i64 1, .int .i64 1] 77)).alloc (.cells #[.string ⟨#[97]⟩, .int .u8 0, .string ⟨#[d]⟩] 37)
  have c0 := s0.cell 0
  have c1 := s0.cell 1
  have c2 := s0.cell 2
  have c3 := s0.cell 3
  have c4 := s0.cell 4
  have c5 := s0.cell 5
  have c6 := s0.cell 6
  have c7 := s0.cell 7
  simp only [List.getElem?_toArray, List.getElem?_cons_zero, List.getElem?_cons_succ] at c0 c1 c2 c3 c4 c5 c6 c7
  exact bodyPost_ret (v := .agg #[.int .i64 p, .slice (some ⟨w.heap.size + 1 + 1, 0, none⟩) 1 1, .bool c, .slice none 0 0, .string ⟨#[114]⟩, .int .i64 0, .int .i64 1, .int .i64 1]) (by simp [results, Try.results81, go_sem, c0, c1, c2, c3, c4, c5, c6, c7]) rfl ⟨w.heap.size + 1 + 1, rfl, (((Below.refl w.heap.size w).alloc (Nat.le_refl _) _).alloc (by simp) _).alloc (by simp; omega) _, Blk.new_at (by simp)⟩
theorem reads_blk2 {W : World} {b : Nat} {t : TypeId} {cs : List Value} {k n : Nat} (h : Blk W b t cs.toArray) (hl : cs.length = n * k) : Reads W (fun x => x < W.heap.size) k (some ⟨b, 0, none⟩) n cs :=
  ⟨hl, fun _ => ⟨b, 0, rfl, h.lt, fun j u hu => by rw [Nat.zero_add, h.cell]; simpa using hu⟩⟩
/-- A route, without where its lists lie. -/
def Ro.strip (r : Ro) : Ro := { r with ms := ⟨none, 0, r.ms.l⟩, by_ := ⟨none, 0, r.by_.l⟩ }
theorem par_strip (l : List Ro) : parF (l.map Ro.strip) = parF l := by
  funext i
  unfold parF
  rw [List.getElem?_map]
  cases l[i]? <;> rfl
theorem takes_strip (l : List Ro) (lb : List Pr) : takesF (l.map Ro.strip) lb = takesF l lb := by
  funext i
  unfold takesF
  rw [List.getElem?_map]
  cases l[i]? <;> rfl
theorem cont_strip (l : List Ro) : contF (l.map Ro.strip) = contF l := by
  funext i
  unfold contF
  rw [List.getElem?_map]
  cases l[i]? <;> rfl
theorem walk_strip (l : List Ro) (lb : List Pr) : walkL l lb = walkL (l.map Ro.strip) lb := by
  unfold walkL
  rw [par_strip, takes_strip, cont_strip, List.length_map]
theorem routeB_strip (r : Ro) : routeB r.strip = routeB r := rfl
theorem firstE_strip (l : List Ro) : firstE routeB (l.map Ro.strip) = firstE routeB l := by
  induction l with
  | nil => rfl
  | cons r t ih => simp only [List.map_cons, firstE, ih, routeB_strip]
theorem parsOk_strip (l : List Ro) : parsOk (l.map Ro.strip) = parsOk l := by
  unfold parsOk
  rw [List.length_map]
  congr 1
  funext i
  rw [List.getElem?_map]
  cases l[i]? <;> rfl
theorem headOk_strip (l : List Ro) : headOk (l.map Ro.strip) = headOk l := by cases l <;> rfl
theorem cfB_strip (c : Cf) : cfB c = cfB ⟨none, 0, c.l.map Ro.strip, none, 0, c.rl, c.pt, c.rs⟩ := by
  unfold cfB
  simp only [List.length_map, headOk_strip, parsOk_strip, firstE_strip]
def av1 : Mt := ⟨[97], [49], 0⟩
def av2 : Mt := ⟨[97], [50], 0⟩
def ro0 : Ro := ⟨-1, ⟨none, 0, []⟩, false, ⟨none, 0, []⟩, [114], 0, 1, 1⟩
def ro1 (A : Option Addr) (c : Nat) (m : Mt) (ct : Bool) : Ro := ⟨0, ⟨A, c, [m]⟩, ct, ⟨none, 0, []⟩, [114], 0, 1, 1⟩
def four (g1 g2 g3 : Nat) : List Ro := [ro0, ro1 (some ⟨g1, 0, none⟩) 1 av1 true, ro1 (some ⟨g2, 0, none⟩) 1 av1 false, ro1 (some ⟨g3, 0, none⟩) 1 av2 false]
theorem four_strip (g1 g2 g3 : Nat) : (four g1 g2 g3).map Ro.strip = [ro0, ro1 none 0 av1 true, ro1 none 0 av1 false, ro1 none 0 av2 false] := rfl
theorem four_w1 (g1 g2 g3 : Nat) : walkL (four g1 g2 g3) [⟨[97], [49]⟩] = [1, 2] := by rw [walk_strip, four_strip]; decide +kernel
theorem four_w2 (g1 g2 g3 : Nat) : walkL (four g1 g2 g3) [] = [0] := by rw [walk_strip, four_strip]; decide +kernel
theorem four_ok (A : Option Addr) (c g1 g2 g3 : Nat) : cfB ⟨A, c, four g1 g2 g3, none, 0, [], 1, 1⟩ = 0 := by rw [cfB_strip]; simp only [four_strip]; decide +kernel
theorem none_ok : cfB ⟨none, 0, [], none, 0, [], 0, 0⟩ = 10 := by decide +kernel
theorem txOk_r : TxOk [114] := ⟨by decide, by decide⟩
theorem ro0_in (w : World) : ro0.In w := ⟨⟨Reads.nil _ _ _ _, fun x h => by cases h⟩, ⟨Reads.nil _ _ _ _, fun x h => by cases h⟩, txOk_r⟩
theorem ro1_in {w : World} {g : Nat} (c : Nat) {m : Mt} (ct : Bool) (h : Blk w g 37 (mts [m]).toArray) (hm : m.Ok) : (ro1 (some ⟨g, 0, none⟩) c m ct).In w :=
  ⟨⟨reads_blk2 (cs := mts [m]) h rfl, fun x hx => by simp [ro1] at hx; subst hx; exact hm⟩, ⟨Reads.nil _ _ _ _, fun x h => by cases h⟩, txOk_r⟩
theorem av1_ok : av1.Ok := ⟨by decide, by decide, by decide, by decide, by decide, by decide⟩
theorem av2_ok : av2.Ok := ⟨by decide, by decide, by decide, by decide, by decide, by decide⟩
theorem four_in {w : World} {g1 g2 g3 : Nat} (h1 : Blk w g1 37 (mts [av1]).toArray) (h2 : Blk w g2 37 (mts [av1]).toArray) (h3 : Blk w g3 37 (mts [av2]).toArray) : ∀ r ∈ four g1 g2 g3, r.In w := by
  intro r hr
  simp only [four, List.mem_cons, List.not_mem_nil, or_false] at hr
  rcases hr with rfl | rfl | rfl | rfl
  · exact ro0_in w
  · exact ro1_in 1 true h1 av1_ok
  · exact ro1_in 1 false h2 av1_ok
  · exact ro1_in 1 false h3 av2_ok
theorem four_small {g1 g2 g3 : Nat} : ∀ r ∈ four g1 g2 g3, r.ms.l.length ≤ 4294967296 := by
  intro r hr
  simp only [four, List.mem_cons, List.not_mem_nil, or_false] at hr
  rcases hr with rfl | rfl | rfl | rfl <;> first | decide | (show (1 : Nat) ≤ 4294967296; decide)
/-- The numbers of a row that the call owns, read. -/
theorem ints_read {w : World} {base : Nat} {v : Value} {l : List Nat} (h : w.ownsRow base 3 1 v l.length (ints l)) (hl : 0 < l.length) : ∃ b c, v = .slice (some ⟨b, 0, none⟩) l.length c ∧ base ≤ b ∧ b < w.heap.size ∧ ∀ (j : Nat) (k : Nat), l[j]? = some k → w.cell? ⟨b, j, none⟩ = some (.int .i64 (k : Int)) := by
  rcases h.2 with ⟨_, h0⟩ | ⟨b, c, cur, rfl, hb, hh, _⟩
  · omega
  · refine ⟨b, c, rfl, hb, (Array.getElem?_eq_some_iff.1 hh).1, fun j k hk => ?_⟩
    have := h.cells (g := b) rfl j (.int .i64 (k : Int)) (by simp [ints, hk])
    rwa [Addr.add_mid, Nat.zero_add] at this
set_option maxRecDepth 100000 in
set_option maxHeartbeats 2000000 in
theorem awake5 (w : World) : Calls Try.prog 49 #[] w fun e w' => e = .returned (.bool true) ∧ Below w.heap.size w w' := by
  go_enter Try.func49, Try.ntmps49
  go_wp2_with fail
  refine (plain_none (-1) false _).mono ?_
  rintro e w1 ⟨rfl, hb⟩
  have K1 := Lib.hid hb
  clear hb
  go_wp2_with fail
  refine (plain_val 0 49 true _).mono ?_
  rintro e w2 ⟨g1, rfl, hb, hB⟩
  have K2 := Lib.hid (below_then K1.out K1.out.size hb)
  have B1 := Lib.hid hB
  clear hb hB
  go_wp2_with fail
  refine (plain_val 0 49 false _).mono ?_
  rintro e w3 ⟨g2, rfl, hb, hB⟩
  have K3 := Lib.hid (below_then K2.out K2.out.size hb)
  have B2 := Lib.hid (And.intro (B1.out.below hb B1.out.lt) hB)
  clear hb hB B1
  go_wp2_with fail
  refine (plain_val 0 50 false _).mono ?_
  rintro e w4 ⟨g3, rfl, hb, hB⟩
  have K4 := Lib.hid (below_then K3.out K3.out.size hb)
  have B3 := Lib.hid (And.intro (B2.out.1.below hb B2.out.1.lt) (And.intro (B2.out.2.below hb B2.out.2.lt) hB))
  clear hb hB B2
  go_upto_region 2 with fail
  have L4 := Lib.hid (show w4.heap.size < (w4.alloc (.cells #[.int .i64 (-1), .slice none 0 0, .bool false, .slice none 0 0, .string ⟨#[114]⟩, .int .i64 0, .int .i64 1, .int .i64 1, .int .i64 0, .slice (some ⟨g1, 0, none⟩) 1 1, .bool true, .slice none 0 0, .string ⟨#[114]⟩, .int .i64 0, .int .i64 1, .int .i64 1, .int .i64 0, .slice (some ⟨g2, 0, none⟩) 1 1, .bool false, .slice none 0 0, .string ⟨#[114]⟩, .int .i64 0, .int .i64 1, .int .i64 1, .int .i64 0, .slice (some ⟨g3, 0, none⟩) 1 1, .bool false, .slice none 0 0, .string ⟨#[114]⟩, .int .i64 0, .int .i64 1, .int .i64 1] 77)).heap.size by simp)
  have BL := Lib.hid (Blk.new w4 77 #[.int .i64 (-1), .slice none 0 0, .bool false, .slice none 0 0, .string ⟨#[114]⟩, .int .i64 0, .int .i64 1, .int .i64 1, .int .i64 0, .slice (some ⟨g1, 0, none⟩) 1 1, .bool true, .slice none 0 0, .string ⟨#[114]⟩, .int .i64 0, .int .i64 1, .int .i64 1, .int .i64 0, .slice (some ⟨g2, 0, none⟩) 1 1, .bool false, .slice none 0 0, .string ⟨#[114]⟩, .int .i64 0, .int .i64 1, .int .i64 1, .int .i64 0, .slice (some ⟨g3, 0, none⟩) 1 1, .bool false, .slice none 0 0, .string ⟨#[114]⟩, .int .i64 0, .int .i64 1, .int .i64 1])
  have hb5 := (Below.refl w4.heap.size w4).alloc (Nat.le_refl _) (.cells #[.int .i64 (-1), .slice none 0 0, .bool false, .slice none 0 0, .string ⟨#[114]⟩, .int .i64 0, .int .i64 1, .int .i64 1, .int .i64 0, .slice (some ⟨g1, 0, none⟩) 1 1, .bool true, .slice none 0 0, .string ⟨#[114]⟩, .int .i64 0, .int .i64 1, .int .i64 1, .int .i64 0, .slice (some ⟨g2, 0, none⟩) 1 1, .bool false, .slice none 0 0, .string ⟨#[114]⟩, .int .i64 0, .int .i64 1, .int .i64 1, .int .i64 0, .slice (some ⟨g3, 0, none⟩) 1 1, .bool false, .slice none 0 0, .string ⟨#[114]⟩, .int .i64 0, .int .i64 1, .int .i64 1] 77)
  have K5 := Lib.hid (K4.out.alloc K4.out.size (.cells #[.int .i64 (-1), .slice none 0 0, .bool false, .slice none 0 0, .string ⟨#[114]⟩, .int .i64 0, .int .i64 1, .int .i64 1, .int .i64 0, .slice (some ⟨g1, 0, none⟩) 1 1, .bool true, .slice none 0 0, .string ⟨#[114]⟩, .int .i64 0, .int .i64 1, .int .i64 1, .int .i64 0, .slice (some ⟨g2, 0, none⟩) 1 1, .bool false, .slice none 0 0, .string ⟨#[114]⟩, .int .i64 0, .int .i64 1, .int .i64 1, .int .i64 0, .slice (some ⟨g3, 0, none⟩) 1 1, .bool false, .slice none 0 0, .string ⟨#[114]⟩, .int .i64 0, .int .i64 1, .int .i64 1] 77))
  have F5 := Lib.hid (four_in (B3.out.1.below hb5 B3.out.1.lt) (B3.out.2.1.below hb5 B3.out.2.1.lt) (B3.out.2.2.below hb5 B3.out.2.2.lt))
  clear hb5 B3
  generalize w4.alloc (.cells #[.int .i64 (-1), .slice none 0 0, .bool false, .slice none 0 0, .string ⟨#[114]⟩, .int .i64 0, .int .i64 1, .int .i64 1, .int .i64 0, .slice (some ⟨g1, 0, none⟩) 1 1, .bool true, .slice none 0 0, .string ⟨#[114]⟩, .int .i64 0, .int .i64 1, .int .i64 1, .int .i64 0, .slice (some ⟨g2, 0, none⟩) 1 1, .bool false, .slice none 0 0, .string ⟨#[114]⟩, .int .i64 0, .int .i64 1, .int .i64 1, .int .i64 0, .slice (some ⟨g3, 0, none⟩) 1 1, .bool false, .slice none 0 0, .string ⟨#[114]⟩, .int .i64 0, .int .i64 1, .int .i64 1] 77) = w5 at *
  obtain ⟨bl, hbl⟩ : ∃ b, w4.heap.size = b := ⟨_, rfl⟩
  rw [hbl] at BL L4
  rw [hbl]
  clear hbl
  have RL5 : Hid (Reads w5 (fun b => b < w5.heap.size) 8 (some ⟨bl, 0, none⟩) (four g1 g2 g3).length ((four g1 g2 g3).flatMap Ro.cells)) := Lib.hid (reads_blk2 BL.out rfl)
  have K6 := Lib.hid (K5.out.alloc K5.out.size (.cells #[.string ⟨#[97]⟩, .string ⟨#[49]⟩] 43))
  have hb6 := (Below.refl w5.heap.size w5).alloc (Nat.le_refl _) (.cells #[.string ⟨#[97]⟩, .string ⟨#[49]⟩] 43)
  have PB := Lib.hid (Blk.new w5 43 #[.string ⟨#[97]⟩, .string ⟨#[49]⟩])
  have W1 : Hid (Calls Try.prog 50 #[.slice (some ⟨bl, 0, none⟩) 4 4, .slice (some ⟨w5.heap.size, 0, none⟩) 1 1] (w5.alloc (.cells #[.string ⟨#[97]⟩, .string ⟨#[49]⟩] 43)) fun e w' => ∃ v, e = .returned v ∧ w'.ownsRow (w5.alloc (.cells #[.string ⟨#[97]⟩, .string ⟨#[49]⟩] 43)).heap.size 3 1 v [1, 2].length (ints [1, 2]) ∧ Below (w5.alloc (.cells #[.string ⟨#[97]⟩, .string ⟨#[49]⟩] 43)).heap.size (w5.alloc (.cells #[.string ⟨#[97]⟩, .string ⟨#[49]⟩] 43)) w') := Lib.hid (by
    have h := walk_any (some ⟨bl, 0, none⟩) 4 (four g1 g2 g3) ⟨some ⟨w5.heap.size, 0, none⟩, 1, [⟨[97], [49]⟩]⟩ _ ((RL5.out.below (by omega) hb6).imp (fun b hb' => Nat.lt_of_lt_of_le hb' hb6.size)) (fun r hr => (F5.out r hr).below hb6) four_small ⟨reads_blk2 PB.out rfl, fun x hx => by simp at hx; subst hx; exact ⟨by decide, by decide, by decide, by decide⟩⟩ ⟨by show 1 ≤ 40; omega, fun x hx => by simp at hx; subst hx; decide⟩ (by show 0 < 4; decide) (by show 4 ≤ 1000; decide) (by rw [four_w1]; decide)
    simp only [four_w1] at h
    exact h)
  have KX := Lib.hid hb6
  have W2 : Hid (∀ X, Below w5.heap.size w5 X → Calls Try.prog 50 #[.slice (some ⟨bl, 0, none⟩) 4 4, .slice none 0 0] X fun e w' => ∃ v, e = .returned v ∧ w'.ownsRow X.heap.size 3 1 v [0].length (ints [0]) ∧ Below X.heap.size X w') := Lib.hid (fun X hX => by
    have h := walk_any (some ⟨bl, 0, none⟩) 4 (four g1 g2 g3) ⟨none, 0, []⟩ X ((RL5.out.below (by omega) hX).imp (fun b hb' => Nat.lt_of_lt_of_le hb' hX.size)) (fun r hr => (F5.out r hr).below hX) four_small ⟨Reads.nil _ _ _ _, fun x hx => by cases hx⟩ ⟨by show 0 ≤ 40; omega, fun x hx => by cases hx⟩ (by show 0 < 4; decide) (by show 4 ≤ 1000; decide) (by rw [four_w2]; decide)
    simp only [four_w2] at h
    exact h)
  have C1 : Hid (∀ X, Below w5.heap.size w5 X → Calls Try.prog 47 #[.agg #[.slice (some ⟨bl, 0, none⟩) 4 4, .slice none 0 0, .int .i64 1, .int .i64 1]] X fun e w' => e = .returned (.int .i64 0) ∧ Below X.heap.size X w') := Lib.hid (fun X hX => by
    have h := check47_any ⟨some ⟨bl, 0, none⟩, 4, four g1 g2 g3, none, 0, [], 1, 1⟩ X ⟨((RL5.out.below (by omega) hX).imp (fun b hb' => Nat.lt_of_lt_of_le hb' hX.size)), (fun r hr => (F5.out r hr).below hX), Reads.nil _ _ _ _, fun x hx => by cases hx⟩
    rw [four_ok] at h
    exact h)
  have C2 : Hid (∀ X, Calls Try.prog 47 #[.agg #[.slice none 0 0, .slice none 0 0, .int .i64 0, .int .i64 0]] X fun e w' => e = .returned (.int .i64 10) ∧ Below X.heap.size X w') := Lib.hid (fun X => by
    have h := check47_any ⟨none, 0, [], none, 0, [], 0, 0⟩ X ⟨Reads.nil _ _ _ _, (fun x hx => by cases hx), Reads.nil _ _ _ _, (fun x hx => by cases hx)⟩
    rw [none_ok] at h
    exact h)
  clear hb6 PB F5 RL5 BL
  go_wp2_with fail
  refine W1.out.mono ?_
  rintro e w7 ⟨v1, rfl, ho, hb⟩
  obtain ⟨b1, c1, rfl, _, hb1, hr⟩ := ints_read ho (by decide)
  have q0 := hr 0 1 rfl
  have q1 := hr 1 2 rfl
  simp only [List.length_cons, List.length_nil, Nat.reduceAdd] at q0 q1 ⊢
  have K7 := Lib.hid (below_then K6.out K6.out.size hb)
  have X7 := Lib.hid (below_then KX.out KX.out.size hb)
  clear ho hb hr W1
  go_wp2_with fail
  refine (W2.out _ X7.out).mono ?_
  rintro e w8 ⟨v2, rfl, ho, hb⟩
  obtain ⟨b2, c2, rfl, _, hb2, hr⟩ := ints_read ho (by decide)
  have r0 := hr 0 0 rfl
  simp only [List.length_cons, List.length_nil, Nat.reduceAdd] at r0 ⊢
  have q0' := (hb.cell (p := ⟨b1, 0, none⟩) hb1).trans q0
  have q1' := (hb.cell (p := ⟨b1, 1, none⟩) hb1).trans q1
  have K8 := Lib.hid (below_then K7.out K7.out.size hb)
  have X8 := Lib.hid (below_then X7.out X7.out.size hb)
  clear ho hb hr W2 q0 q1
  go_wp2_with fail
  refine (C1.out _ X8.out).mono ?_
  rintro e w9 ⟨rfl, hb⟩
  have K9 := Lib.hid (below_then K8.out K8.out.size hb)
  clear hb
  go_wp2_with fail
  refine (C2.out _).mono ?_
  rintro e w10 ⟨rfl, hb⟩
  have K10 := Lib.hid (below_then K9.out K9.out.size hb)
  clear hb
  go_wp2
  go_ret
  exact ⟨rfl, K10.out⟩
end Go.Proofs.Ytnidjfmbbfoheaa

/- WORDS for the laws of routes. -/
namespace Go.Proofs.Ytnidjfmbbfoheaa
set_option linter.unusedVariables false
set_option linter.unusedSimpArgs false
open Go.ChangeShapes Go.WideShapes Go.ChangeAt Go.RowKit Go.Joins Go.Deep Go.BigFrame

theorem nodup_le : ∀ (n : Nat) (l : List Nat), l.Nodup → (∀ x ∈ l, x < n) → l.length ≤ n
  | 0, l, _, h => by
    cases l with
    | nil => simp
    | cons a r => exact absurd (h a (by simp)) (by omega)
  | n + 1, l, hn, h => by
    by_cases hm : n ∈ l
    · have h1 := nodup_le n (l.erase n) (hn.erase n) (fun x hx => by
        have h2 := List.mem_of_mem_erase hx
        have h3 := h x h2
        have h4 : x ≠ n := fun e => by subst e; exact (List.Nodup.not_mem_erase hn) hx
        omega)
      rw [List.length_erase_of_mem hm] at h1
      omega
    · have := nodup_le n l hn (fun x hx => by
        have h3 := h x hx
        have h4 : x ≠ n := fun e => hm (e ▸ hx)
        omega)
      omega
theorem light_of {P : PR} (h : lightB P.l = true) : P.Light := by
  unfold lightB at h
  rw [Bool.and_eq_true] at h
  refine ⟨of_decide_eq_true h.1, fun x hx => ?_⟩
  exact of_decide_eq_true (List.all_eq_true.1 h.2 x hx)
theorem light_ms {c : Cf} (h : lightC c = true) : ∀ r ∈ c.l, r.ms.l.length ≤ 12 := by
  intro r hr
  unfold lightC at h
  simp only [Bool.and_eq_true] at h
  have := List.all_eq_true.1 h.1.2 r hr
  unfold fewR at this
  rw [Bool.and_eq_true] at this
  exact of_decide_eq_true this.1
/-- All that the laws say of where labels go. -/
structure Told (l : List Ro) (lb : List Pr) : Prop where
  n0 : 0 < l.length
  n1 : l.length ≤ 16
  tree : Rt.Tree (parF l) l.length
  up : ∀ o ∈ walkL l lb, Rt.Up (parF l) (takesF l lb) l.length o
  nodup : (walkL l lb).Nodup
  some : 0 < (walkL l lb).length
  few : (walkL l lb).length ≤ 16
  deep : ∀ o ∈ walkL l lb, ∀ k ∈ Rt.kids (parF l) l.length o, takesF l lb k = false
  one : (∀ k, contF l k = false) → (walkL l lb).length = 1
theorem told_of {c : Cf} (h : cfB c = 0) (lb : List Pr) : Told c.l lb := by
  obtain ⟨T, h16, h0⟩ := cf_tree h
  have hu := Rt.walk_up (cont := contF c.l) T (h0 lb)
  have hn := Rt.walk_nodup (M := takesF c.l lb) (cont := contF c.l) T
  exact ⟨T.n0, h16, T, hu, hn, List.length_pos_iff.2 (Rt.walk_some T (h0 lb)), Nat.le_trans (nodup_le _ _ hn (fun x hx => (hu x hx).lt)) h16, Rt.walk_deep T, fun hc => Rt.walk_one T (h0 lb) hc⟩
theorem walk_pr (c : Cf) (P : PR) (X : World) (hc : c.In X) (hp : P.In X) (hl : lightC c = true) (hb : lightB P.l = true) (hk : cfB c = 0) :
    Calls Try.prog 50 #[.slice c.A c.l.length c.c, .slice P.A P.l.length P.c] X fun e w' => ∃ v, e = .returned v ∧ w'.ownsRow X.heap.size 3 1 v (walkL c.l P.l).length (ints (walkL c.l P.l)) ∧ Below X.heap.size X w' := by
  have t := told_of hk P.l
  exact walk_any c.A c.c c.l P X hc.rt hc.ro (fun r hr => by have := light_ms hl r hr; omega) hp (light_of hb) t.n0 (by have := t.n1; omega) (by have := t.few; omega)
theorem takes_pr (c : Cf) (P : PR) (X : World) (hc : c.In X) (hp : P.In X) (hl : lightC c = true) (hb : lightB P.l = true) (k : Nat) (m : Ro) (hm : c.l[k]? = some m) :
    Calls Try.prog 40 #[.slice m.ms.A m.ms.l.length m.ms.c, .slice P.A P.l.length P.c] X fun e w' => e = .returned (.bool (takesF c.l P.l k)) ∧ Below X.heap.size X w' := by
  have hmm := List.mem_of_getElem? hm
  have e : takesF c.l P.l k = allB m.ms.l P.l := by unfold takesF; rw [hm]
  rw [e]
  exact all_pr m.ms P X (hc.ro m hmm).ms (by have := light_ms hl m hmm; omega) hp (light_of hb)
end Go.Proofs.Ytnidjfmbbfoheaa
