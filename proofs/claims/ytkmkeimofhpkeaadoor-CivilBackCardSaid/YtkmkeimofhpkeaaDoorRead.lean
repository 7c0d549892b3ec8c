/- WALK: civil's Read. -/
import Derived.Test.YtkmkeimofhpkeaaDoorRtext
namespace Go.Proofs.YtkmkeimofhpkeaaDoor
set_option linter.unusedVariables false
set_option linter.unusedSimpArgs false
open Go.RowKit

/-! ### what the loop has read -/
def fS : List UInt8 := [100, 100, 100, 100, 45, 100, 100, 45, 100, 100, 84, 100, 100, 58, 100, 100, 58, 100, 100]
def partOf (i : Nat) : Nat := [0, 0, 0, 0, 0, 1, 1, 1, 2, 2, 2, 3, 3, 3, 4, 4, 4, 5, 5, 5].getD i 5
def startOf (i : Nat) : Nat := [0, 0, 0, 0, 0, 5, 5, 5, 8, 8, 8, 11, 11, 11, 14, 14, 14, 17, 17, 17].getD i 17
def isSep (i : Nat) : Bool := [false, false, false, false, true, false, false, true, false, false, true, false, false, true, false, false, true, false, false].getD i false
def okAt (s : List UInt8) (i : Nat) : Prop := if isSep i = true then sb s i = sb fS i else isD s i
instance (s : List UInt8) (i : Nat) : Decidable (okAt s i) := by unfold okAt; infer_instance
/-- The numbers of the parts behind i letters. -/
def NN (s : List UInt8) : Nat → Nat → Int
  | 0, _ => 0
  | i + 1, p => if isSep i = true then NN s i p else if p = partOf i then 10 * NN s i p + (sb s i - 48) else NN s i p
def narr (s : List UInt8) (i : Nat) : Array Value := #[.int .i64 (NN s i 0), .int .i64 (NN s i 1), .int .i64 (NN s i 2), .int .i64 (NN s i 3), .int .i64 (NN s i 4), .int .i64 (NN s i 5)]

theorem lt19 {i : Nat} (h : i < 19) : i = 0 ∨ i = 1 ∨ i = 2 ∨ i = 3 ∨ i = 4 ∨ i = 5 ∨ i = 6 ∨ i = 7 ∨ i = 8 ∨ i = 9 ∨ i = 10 ∨ i = 11 ∨ i = 12 ∨ i = 13 ∨ i = 14 ∨ i = 15 ∨ i = 16 ∨ i = 17 ∨ i = 18 := by omega
theorem part_lt (i : Nat) : partOf i < 6 := by
  unfold partOf
  by_cases h : i < 20
  · rcases (by omega : i < 19 ∨ i = 19) with h | rfl
    · rcases lt19 h with rfl | rfl | rfl | rfl | rfl | rfl | rfl | rfl | rfl | rfl | rfl | rfl | rfl | rfl | rfl | rfl | rfl | rfl | rfl <;> decide
    · decide
  · rw [List.getD_eq_getElem?_getD, List.getElem?_eq_none (by simpa using h)]; decide
theorem sep_step {i : Nat} (h : i < 19) : (isSep i = true → partOf (i + 1) = partOf i + 1 ∧ startOf (i + 1) = i + 1 ∧ sb fS i ≠ 100) ∧ (isSep i = false → partOf (i + 1) = partOf i ∧ startOf (i + 1) = startOf i ∧ i < startOf i + 4 ∧ sb fS i = 100) ∧ startOf i ≤ i := by
  rcases lt19 h with rfl | rfl | rfl | rfl | rfl | rfl | rfl | rfl | rfl | rfl | rfl | rfl | rfl | rfl | rfl | rfl | rfl | rfl | rfl <;> decide
theorem NN_bound (s : List UInt8) (i : Nat) (hi : i ≤ 19) (h : ∀ j, j < i → okAt s j) : (∀ p, 0 ≤ NN s i p ∧ NN s i p < 10000) ∧ NN s i (partOf i) < 10 ^ (i - startOf i) ∧ ∀ p, partOf i < p → NN s i p = 0 := by
  induction i with
  | zero => exact ⟨fun p => by simp [NN], by simp [NN], fun p _ => rfl⟩
  | succ i ih =>
    obtain ⟨h1, h2, h3⟩ := ih (by omega) (fun j hj => h j (by omega))
    obtain ⟨e1, e2, e3⟩ := sep_step (by omega : i < 19)
    have ho := h i (by omega)
    cases hs : isSep i with
    | true =>
      obtain ⟨e4, e5, -⟩ := e1 hs
      refine ⟨fun p => by rw [NN, if_pos hs]; exact h1 p, ?_, fun p hp => ?_⟩
      · rw [NN, if_pos hs, e4, e5, h3 _ (by omega)]; simp
      · rw [NN, if_pos hs]; exact h3 p (by omega)
    | false =>
      obtain ⟨e4, e5, e6, -⟩ := e2 hs
      have hns : ¬ isSep i = true := by rw [hs]; decide
      unfold okAt at ho
      rw [if_neg hns] at ho
      unfold isD at ho
      have h10 : (10 : Int) ^ (i - startOf i) ≤ 1000 := by
        rcases (by omega : i - startOf i = 0 ∨ i - startOf i = 1 ∨ i - startOf i = 2 ∨ i - startOf i = 3) with e | e | e | e <;> rw [e] <;> decide
      have hc := h1 (partOf i)
      refine ⟨fun p => ?_, ?_, fun p hp => ?_⟩
      · rw [NN, if_neg hns]
        split
        · rename_i hp; subst hp; omega
        · exact h1 p
      · rw [NN, if_neg hns, e4, if_pos rfl, e5, show i + 1 - startOf i = (i - startOf i) + 1 by omega, Int.pow_succ]
        omega
      · rw [NN, if_neg hns, if_neg (by omega)]
        exact h3 p (by omega)
theorem lt6 {p : Nat} (h : p < 6) : p = 0 ∨ p = 1 ∨ p = 2 ∨ p = 3 ∨ p = 4 ∨ p = 5 := by omega
theorem narr_get (s : List UInt8) (i p : Nat) (h : p < 6) : (narr s i)[p]? = some (.int .i64 (NN s i p)) := by
  rcases lt6 h with rfl | rfl | rfl | rfl | rfl | rfl <;> rfl
theorem narr_sep (s : List UInt8) (i : Nat) (h : isSep i = true) : narr s (i + 1) = narr s i := by
  unfold narr; simp only [NN, if_pos h]
theorem narr_dig (s : List UInt8) (i : Nat) (h : isSep i = false) : narr s (i + 1) = (narr s i).setIfInBounds (partOf i) (.int .i64 (10 * NN s i (partOf i) + (sb s i - 48))) := by
  have hns : ¬ isSep i = true := by rw [h]; decide
  have hp := part_lt i
  unfold narr
  simp only [NN, if_neg hns]
  generalize partOf i = p at *
  rcases lt6 hp with rfl | rfl | rfl | rfl | rfl | rfl <;> simp

def readOk (s : List UInt8) : Prop := s.length = 19 ∧ (∀ j, j < 19 → okAt s j) ∧ NN s 19 4 < 60 ∧ secOk (NN s 19 0) (NN s 19 1) (NN s 19 2) (60 * NN s 19 3 + NN s 19 4) (NN s 19 5)
instance (s : List UInt8) : Decidable (readOk s) := by unfold readOk; infer_instance
def secN (y m d mi s : Int) : Int := 86400 * Cv.num y m d + 60 * mi + s
def readVal (s : List UInt8) : Value :=
  if readOk s then ofVal (secN (NN s 19 0) (NN s 19 1) (NN s 19 2) (60 * NN s 19 3 + NN s 19 4) (NN s 19 5)) 0 else .tuple #[tagg 0 0 0 0 0 0, .int .i64 4]
theorem readVal_no {s : List UInt8} (h : ¬ readOk s) : readVal s = .tuple #[tagg 0 0 0 0 0 0, .int .i64 4] := by unfold readVal; rw [if_neg h]

theorem AH.set {w : World} (h : AH w) {p : Addr} (hp : 1 ≤ p.block) (v : Value) : AH (w.setCell p v) := by
  have hb : Below 1 w (w.setCell p v) := (Below.refl 1 w).setCell hp v
  exact ⟨by simpa [World.setCell] using h.1, fun k hk => (hb.cell (p := ⟨0, k, none⟩) (by simp)).trans (h.2 k hk)⟩

set_option maxRecDepth 100000 in
set_option maxHeartbeats 4000000 in
theorem read_any (s : List UInt8) (w : World) (hA : AH w) (hsz : s.length ≤ 9223372036854775807) : Calls Tryd.prog 23 #[.string ⟨s.toArray⟩] w fun e w' => e = .returned (readVal s) ∧ Below w.heap.size w w' := by
  have hss : (⟨s.toArray⟩ : ByteArray).size = s.length := by simp [ByteArray.size]
  by_cases h19 : s.length = 19
  · have hK : Below w.heap.size w ((w.alloc (.cells #[.int .i64 0, .int .i64 0, .int .i64 0, .int .i64 0, .int .i64 0, .int .i64 0] 34)).alloc (.cells #[.int .i64 0, .int .i64 0, .int .i64 0, .int .i64 0, .int .i64 0, .int .i64 0] 53)) := ((Below.refl _ _).alloc (Nat.le_refl _) _).alloc (by simp) _
    have hB : Blk ((w.alloc (.cells #[.int .i64 0, .int .i64 0, .int .i64 0, .int .i64 0, .int .i64 0, .int .i64 0] 34)).alloc (.cells #[.int .i64 0, .int .i64 0, .int .i64 0, .int .i64 0, .int .i64 0, .int .i64 0] 53)) w.heap.size 34 #[.int .i64 0, .int .i64 0, .int .i64 0, .int .i64 0, .int .i64 0, .int .i64 0] := (Blk.new w 34 _).alloc _
    have hC : Blk ((w.alloc (.cells #[.int .i64 0, .int .i64 0, .int .i64 0, .int .i64 0, .int .i64 0, .int .i64 0] 34)).alloc (.cells #[.int .i64 0, .int .i64 0, .int .i64 0, .int .i64 0, .int .i64 0, .int .i64 0] 53)) (w.heap.size + 1) 53 (narr s 0) := by
      have := Blk.new (w.alloc (.cells #[.int .i64 0, .int .i64 0, .int .i64 0, .int .i64 0, .int .i64 0, .int .i64 0] 34)) 53 #[.int .i64 0, .int .i64 0, .int .i64 0, .int .i64 0, .int .i64 0, .int .i64 0]
      rwa [show (w.alloc (.cells #[.int .i64 0, .int .i64 0, .int .i64 0, .int .i64 0, .int .i64 0, .int .i64 0] 34)).heap.size = w.heap.size + 1 by simp] at this
    have hA1 := hA.below hK
    go_enter Tryd.func23, Tryd.ntmps23
    go_upto_region 5 with fail
    generalize ((w.alloc (.cells #[.int .i64 0, .int .i64 0, .int .i64 0, .int .i64 0, .int .i64 0, .int .i64 0] 34)).alloc (.cells #[.int .i64 0, .int .i64 0, .int .i64 0, .int .i64 0, .int .i64 0, .int .i64 0] 53)) = W at *
    have B := Lib.hid hB
    have C := Lib.hid hC
    have K := Lib.hid hK
    have AA := Lib.hid hA1
    clear hA hA1 hB hC hK
    go_wp2
    go_loopw [5, 14] (fun pv iv wr => ∃ i : Nat, i ≤ 19 ∧ pv = .int .i64 ((partOf i : Nat) : Int) ∧ iv = .int .i64 (i : Int) ∧ (∀ j, j < i → okAt s j) ∧ Blk wr w.heap.size 34 #[.int .i64 0, .int .i64 0, .int .i64 0, .int .i64 0, .int .i64 0, .int .i64 0] ∧ Blk wr (w.heap.size + 1) 53 (narr s i) ∧ AH wr ∧ Below w.heap.size w wr) (fun _ iv _ => 19 - (intOf iv).toNat)
    case atStart => exact ⟨0, by omega, rfl, rfl, fun j hj => by omega, B.out, C.out, AA.out, K.out⟩
    case round =>
      obtain ⟨i, hi, rfl, rfl, hok, hB, hC, hA, hK⟩ := hrel
      have BB := Lib.hid hB
      have CC := Lib.hid hC
      have AB := Lib.hid hA
      have KK := Lib.hid hK
      have OK := Lib.hid hok
      have q0 := hB.cell 0
      have q1 := hB.cell 1
      have q2 := hB.cell 2
      have q3 := hB.cell 3
      have q4 := hB.cell 4
      have q5 := hB.cell 5
      simp only [List.getElem?_toArray, List.getElem?_cons_zero, List.getElem?_cons_succ] at q0 q1 q2 q3 q4 q5
      have qf := hB.frozen
      have hbnd := NN_bound s i hi hok
      have BND := Lib.hid hbnd
      clear hB hC hA hK hok B C AA K hbnd
      by_cases hlt : i < 19
      · obtain ⟨e1, e2, e3⟩ := sep_step hlt
        have hiI : (i : Int) < 19 := by omega
        have hxf : ∀ w : World, (Instr.index 9 (.string ⟨#[100, 100, 100, 100, 45, 100, 100, 45, 100, 100, 84, 100, 100, 58, 100, 100, 58, 100, 100]⟩) (.int .i64 (i : Int))).run Tryd.prog w = .ok (.int .u8 (sb fS i)) w := fun w => idx_str fS i (by simpa [fS] using hlt) w
        have hxs := fun w => idx_str s i (by omega) w
        have hr := sb_range s i
        have r0 := hr.1
        have r1 := hr.2
        have hfr := sb_range fS i
        have f0 := hfr.1
        have f1 := hfr.2
        have hoi : okAt s i ↔ (if isSep i = true then sb s i = sb fS i else isD s i) := Iff.rfl
        have hdi : isD s i ↔ 48 ≤ sb s i ∧ sb s i ≤ 57 := Iff.rfl
        have hnd := narr_dig s i
        obtain ⟨p, hp⟩ : ∃ p, partOf i = p := ⟨_, rfl⟩
        have hp6 := part_lt i
        rw [hp] at hp6 e1 e2 hnd ⊢
        have hpI : (p : Int) < 6 := by omega
        obtain ⟨n, hn⟩ : ∃ n, NN s i p = n := ⟨_, rfl⟩
        rw [hn] at hnd
        have hnb := BND.out.1 p
        rw [hn] at hnb
        have n0 := hnb.1
        have n1 := hnb.2
        have hcell := (CC.out.cell p).trans (narr_get s i p hp6)
        rw [hn] at hcell
        have hcf := CC.out.frozen p
        have HOI := Lib.hid hoi
        have HDI := Lib.hid hdi
        have HND := Lib.hid hnd
        clear hoi hdi hnd hr hfr hnb hn BND e3
        generalize sb fS i = f at *
        generalize sb s i = b at *
        cases hsep : isSep i with
        | true =>
          obtain ⟨e4, -, e6⟩ := e1 hsep
          clear e1 e2 hcell hcf
          have E4 := Lib.hid e4
          have HSEP := Lib.hid hsep
          clear e4
          by_cases hbf : b = f
          · subst hbf
            have hne : (b == b) = true := by simp
            go_wp2
            go_quiet (fail)
            go_wp2
            go_roundw
            case rel =>
              refine ⟨i + 1, by omega, int_eq (by rw [E4.out]; omega), int_eq (by omega), fun j hj => ?_, BB.out, ?_, AB.out.below ((Below.refl _ wr).trans (below_drewN (Below.refl _ _) _)), below_drewN KK.out _⟩
              · by_cases e : j < i
                · exact OK.out j e
                · obtain rfl : j = i := by omega
                  exact HOI.out.2 (by simp [HSEP.out])
              · rw [narr_sep s i HSEP.out]; exact CC.out
            case measure => simp [intOf]; omega
          · have hno : ¬ readOk s := fun h => by
              have := HOI.out.1 (h.2.1 i hlt)
              rw [if_pos HSEP.out] at this
              exact hbf this
            have hne : (b == f) = false := by simpa using hbf
            go_wp2
            go_quiet (fail)
            go_wp2
            have fb := Blk.six (BB.out.drewN nq) (.int .i64 0) (.int .i64 0) (.int .i64 0) (.int .i64 0) (.int .i64 0) (.int .i64 0)
            have s0 := fb.cell 0
            have s1 := fb.cell 1
            have s2 := fb.cell 2
            have s3 := fb.cell 3
            have s4 := fb.cell 4
            have s5 := fb.cell 5
            simp only [List.getElem?_toArray, List.getElem?_cons_zero, List.getElem?_cons_succ] at s0 s1 s2 s3 s4 s5
            exact bodyPost_ret (v := readVal s) (by rw [readVal_no hno]; simp [results, Tryd.results23, go_sem, tagg, s0, s1, s2, s3, s4, s5]) rfl ⟨rfl, below_six (below_drewN KK.out nq) (Nat.le_refl _) _ _ _ _ _ _⟩
        | false =>
          obtain ⟨e4, -, -, e6⟩ := e2 hsep
          subst e6
          clear e1 e2
          have E4 := Lib.hid e4
          have HSEP := Lib.hid hsep
          have hns : ¬ isSep i = true := by rw [hsep]; decide
          clear e4
          by_cases hb1 : b < 48
          · have hno : ¬ readOk s := fun h => by
              have := HOI.out.1 (h.2.1 i hlt)
              rw [if_neg hns] at this
              have := HDI.out.1 this
              omega
            go_wp2
            have fb := Blk.six BB.out (.int .i64 0) (.int .i64 0) (.int .i64 0) (.int .i64 0) (.int .i64 0) (.int .i64 0)
            have s0 := fb.cell 0
            have s1 := fb.cell 1
            have s2 := fb.cell 2
            have s3 := fb.cell 3
            have s4 := fb.cell 4
            have s5 := fb.cell 5
            simp only [List.getElem?_toArray, List.getElem?_cons_zero, List.getElem?_cons_succ] at s0 s1 s2 s3 s4 s5
            exact bodyPost_ret (v := readVal s) (by rw [readVal_no hno]; simp [results, Tryd.results23, go_sem, tagg, s0, s1, s2, s3, s4, s5]) rfl ⟨rfl, below_six KK.out (Nat.le_refl _) _ _ _ _ _ _⟩
          · by_cases hb2 : 57 < b
            · have hno : ¬ readOk s := fun h => by
                have := HOI.out.1 (h.2.1 i hlt)
                rw [if_neg hns] at this
                have := HDI.out.1 this
                omega
              go_wp2
              have fb := Blk.six BB.out (.int .i64 0) (.int .i64 0) (.int .i64 0) (.int .i64 0) (.int .i64 0) (.int .i64 0)
              have s0 := fb.cell 0
              have s1 := fb.cell 1
              have s2 := fb.cell 2
              have s3 := fb.cell 3
              have s4 := fb.cell 4
              have s5 := fb.cell 5
              simp only [List.getElem?_toArray, List.getElem?_cons_zero, List.getElem?_cons_succ] at s0 s1 s2 s3 s4 s5
              exact bodyPost_ret (v := readVal s) (by rw [readVal_no hno]; simp [results, Tryd.results23, go_sem, tagg, s0, s1, s2, s3, s4, s5]) rfl ⟨rfl, below_six KK.out (Nat.le_refl _) _ _ _ _ _ _⟩
            · go_upto_region 8 with fail
              go_region
              all_goals
                go_wp2
                go_roundw
                case rel =>
                  refine ⟨i + 1, by omega, int_eq (by rw [E4.out]), int_eq (by omega), fun j hj => ?_, (BB.out.far (p := ⟨w.heap.size + 1, p, none⟩) (by simp) _).drew, ?_, (AB.out.set (p := ⟨w.heap.size + 1, p, none⟩) (by simp) _).below ((Below.refl _ _).drew), (KK.out.setCell (p := ⟨w.heap.size + 1, p, none⟩) (by simp) _).drew⟩
                  · by_cases e : j < i
                    · exact OK.out j e
                    · obtain rfl : j = i := by omega
                      exact HOI.out.2 (by rw [if_neg hns]; exact HDI.out.2 ⟨by omega, by omega⟩)
                  · rw [HND.out HSEP.out]
                    exact (CC.out.set_ p _).drew
                case measure => simp [intOf]; omega
      · obtain rfl : i = 19 := by omega
        have hro : readOk s ↔ NN s 19 4 < 60 ∧ secOk (NN s 19 0) (NN s 19 1) (NN s 19 2) (60 * NN s 19 3 + NN s 19 4) (NN s 19 5) := ⟨fun h => h.2.2, fun h => ⟨h19, fun j hj => OK.out j hj, h⟩⟩
        have hrv : readVal s = if readOk s then ofVal (secN (NN s 19 0) (NN s 19 1) (NN s 19 2) (60 * NN s 19 3 + NN s 19 4) (NN s 19 5)) 0 else .tuple #[tagg 0 0 0 0 0 0, .int .i64 4] := rfl
        have b0 := BND.out.1 0
        have b1 := BND.out.1 1
        have b2 := BND.out.1 2
        have b3 := BND.out.1 3
        have b4 := BND.out.1 4
        have b5 := BND.out.1 5
        have hCC : Blk wr (w.heap.size + 1) 53 #[.int .i64 (NN s 19 0), .int .i64 (NN s 19 1), .int .i64 (NN s 19 2), .int .i64 (NN s 19 3), .int .i64 (NN s 19 4), .int .i64 (NN s 19 5)] := CC.out
        clear BND CC
        generalize NN s 19 0 = n0 at *
        generalize NN s 19 1 = n1 at *
        generalize NN s 19 2 = n2 at *
        generalize NN s 19 3 = n3 at *
        generalize NN s 19 4 = n4 at *
        generalize NN s 19 5 = n5 at *
        obtain ⟨b00, b01⟩ := b0
        obtain ⟨b10, b11⟩ := b1
        obtain ⟨b20, b21⟩ := b2
        obtain ⟨b30, b31⟩ := b3
        obtain ⟨b40, b41⟩ := b4
        obtain ⟨b50, b51⟩ := b5
        have RO := Lib.hid hro
        have RV := Lib.hid hrv
        have CD := Lib.hid hCC
        have hgl := BB.out.lt
        have hgl2 := hCC.lt
        have c0 := hCC.cell 0
        have c1 := hCC.cell 1
        have c2 := hCC.cell 2
        have c3 := hCC.cell 3
        have c4 := hCC.cell 4
        have c5 := hCC.cell 5
        simp only [List.getElem?_toArray, List.getElem?_cons_zero, List.getElem?_cons_succ] at c0 c1 c2 c3 c4 c5
        clear hro hrv hCC OK
        go_upto_region 17 with fail
        have T1 := Lib.hid (Blk.new wr 34 #[.int .i64 n0, .int .i64 n1, .int .i64 n2, .int .i64 0, .int .i64 (60 * n3 + n4), .int .i64 n5])
        have B1 := Lib.hid (BB.out.alloc (.cells #[.int .i64 n0, .int .i64 n1, .int .i64 n2, .int .i64 0, .int .i64 (60 * n3 + n4), .int .i64 n5] 34))
        have K1 := Lib.hid (KK.out.alloc KK.out.size (.cells #[.int .i64 n0, .int .i64 n1, .int .i64 n2, .int .i64 0, .int .i64 (60 * n3 + n4), .int .i64 n5] 34))
        have A1 := Lib.hid (AB.out.below ((Below.refl _ wr).alloc (Nat.le_refl _) (.cells #[.int .i64 n0, .int .i64 n1, .int .i64 n2, .int .i64 0, .int .i64 (60 * n3 + n4), .int .i64 n5] 34)))
        by_cases h60 : 60 ≤ n4
        · have hno : ¬ readOk s := fun h => by have := (RO.out.1 h).1; omega
          clear T1 B1 K1 A1
          have fb := Blk.alloc (Blk.six BB.out (.int .i64 0) (.int .i64 0) (.int .i64 0) (.int .i64 0) (.int .i64 0) (.int .i64 0)) (.cells #[.int .i64 n0, .int .i64 n1, .int .i64 n2, .int .i64 0, .int .i64 (60 * n3 + n4), .int .i64 n5] 34)
          have fk0 := below_six KK.out (Nat.le_refl _) (.int .i64 0) (.int .i64 0) (.int .i64 0) (.int .i64 0) (.int .i64 0) (.int .i64 0)
          have fk := fk0.alloc fk0.size (.cells #[.int .i64 n0, .int .i64 n1, .int .i64 n2, .int .i64 0, .int .i64 (60 * n3 + n4), .int .i64 n5] 34)
          have s0 := fb.cell 0
          have s1 := fb.cell 1
          have s2 := fb.cell 2
          have s3 := fb.cell 3
          have s4 := fb.cell 4
          have s5 := fb.cell 5
          simp only [List.getElem?_toArray, List.getElem?_cons_zero, List.getElem?_cons_succ] at s0 s1 s2 s3 s4 s5
          have FB := Lib.hid (⟨s0, s1, s2, s3, s4, s5, fk⟩ : _ ∧ _ ∧ _ ∧ _ ∧ _ ∧ _ ∧ _)
          clear fb fk0 fk s0 s1 s2 s3 s4 s5
          go_wp2
          obtain ⟨s0, s1, s2, s3, s4, s5, fk⟩ := FB.out
          refine bodyPost_ret (v := readVal s) ?_ rfl ⟨rfl, ?_⟩
          · rw [readVal_no hno]
            simp [results, Tryd.results23, go_sem, tagg, s0, s1, s2, s3, s4, s5]
          · exact fk
        · have l1 : wr.heap.size < (wr.alloc (.cells #[.int .i64 n0, .int .i64 n1, .int .i64 n2, .int .i64 0, .int .i64 (60 * n3 + n4), .int .i64 n5] 34)).heap.size := by simp
          go_wp2_with fail
          refine (secs_any n0 n1 n2 0 (60 * n3 + n4) n5 0 _ A1.out).mono ?_
          by_cases hsec : secOk n0 n1 n2 (60 * n3 + n4) n5
          · rw [show secVal n0 n1 n2 (60 * n3 + n4) n5 0 = .tuple #[.int .i64 (86400 * Cv.num n0 n1 n2 + 60 * (60 * n3 + n4) + n5 - 60 * 0), .int .i64 0] by rw [secVal, if_neg (by omega), if_pos hsec]]
            have hv : readVal s = ofVal (secN n0 n1 n2 (60 * n3 + n4) n5) 0 := by rw [RV.out, if_pos (RO.out.2 ⟨by omega, hsec⟩)]
            have he : 86400 * Cv.num n0 n1 n2 + 60 * (60 * n3 + n4) + n5 - 60 * 0 = secN n0 n1 n2 (60 * n3 + n4) n5 := by unfold secN; omega
            rw [he]
            obtain ⟨x0, x1, x2, x3, x4, x5, e1, hov⟩ : ∃ x0 x1 x2 x3 x4 x5 e1, ofVal (secN n0 n1 n2 (60 * n3 + n4) n5) 0 = .tuple #[.agg #[.int .i64 x0, .int .i64 x1, .int .i64 x2, .int .i64 x3, .int .i64 x4, .int .i64 x5], .int .i64 e1] := by
              unfold ofVal tagg; split
              · exact ⟨_, _, _, _, _, _, _, rfl⟩
              · split
                · exact ⟨_, _, _, _, _, _, _, rfl⟩
                · split <;> exact ⟨_, _, _, _, _, _, _, rfl⟩
            have HV := Lib.hid hv
            have HOV := Lib.hid hov
            clear hv hov he
            generalize secN n0 n1 n2 (60 * n3 + n4) n5 = sn at *
            rintro e w2 ⟨rfl, hb⟩
            have B2 := Lib.hid (B1.out.below hb (Nat.lt_trans hgl l1))
            have K2 := Lib.hid (below_then K1.out K1.out.size hb)
            have A2 := Lib.hid (A1.out.below hb)
            clear hb B1 K1 A1 T1 c0 c1 c2 c3 c4 c5 q0 q1 q2 q3 q4 q5 qf
            go_wp2_with fail
            refine (of_any sn 0 _ A2.out).mono ?_
            rw [HOV.out]
            rintro e w3 ⟨rfl, hb⟩
            have B3 := Lib.hid (B2.out.below hb (Blk.lt B2.out))
            have K3 := Lib.hid (below_then K2.out K2.out.size hb)
            clear hb B2 K2 A2
            have q0 := B3.out.cell 0
            have q1 := B3.out.cell 1
            have q2 := B3.out.cell 2
            have q3 := B3.out.cell 3
            have q4 := B3.out.cell 4
            have q5 := B3.out.cell 5
            simp only [List.getElem?_toArray, List.getElem?_cons_zero, List.getElem?_cons_succ] at q0 q1 q2 q3 q4 q5
            have qf := B3.out.frozen
            go_wp2
            have fb := Blk.six B3.out (.int .i64 x0) (.int .i64 x1) (.int .i64 x2) (.int .i64 x3) (.int .i64 x4) (.int .i64 x5)
            have s0 := fb.cell 0
            have s1 := fb.cell 1
            have s2 := fb.cell 2
            have s3 := fb.cell 3
            have s4 := fb.cell 4
            have s5 := fb.cell 5
            simp only [List.getElem?_toArray, List.getElem?_cons_zero, List.getElem?_cons_succ] at s0 s1 s2 s3 s4 s5
            exact bodyPost_ret (v := readVal s) (by rw [HV.out, HOV.out]; simp [results, Tryd.results23, go_sem, s0, s1, s2, s3, s4, s5]) rfl ⟨rfl, below_six K3.out (Nat.le_refl _) _ _ _ _ _ _⟩
          · rw [show secVal n0 n1 n2 (60 * n3 + n4) n5 0 = .tuple #[.int .i64 0, .int .i64 13] by rw [secVal, if_neg (by omega), if_neg hsec]]
            have hno : ¬ readOk s := fun h => hsec (RO.out.1 h).2
            rintro e w2 ⟨rfl, hb⟩
            have B2 := Lib.hid (B1.out.below hb (Nat.lt_trans hgl l1))
            have K2 := Lib.hid (below_then K1.out K1.out.size hb)
            clear hb B1 K1 A1 T1 c0 c1 c2 c3 c4 c5 q0 q1 q2 q3 q4 q5 qf
            have q0 := B2.out.cell 0
            have q1 := B2.out.cell 1
            have q2 := B2.out.cell 2
            have q3 := B2.out.cell 3
            have q4 := B2.out.cell 4
            have q5 := B2.out.cell 5
            simp only [List.getElem?_toArray, List.getElem?_cons_zero, List.getElem?_cons_succ] at q0 q1 q2 q3 q4 q5
            have qf := B2.out.frozen
            go_wp2
            have fb := Blk.six B2.out (.int .i64 0) (.int .i64 0) (.int .i64 0) (.int .i64 0) (.int .i64 0) (.int .i64 0)
            have s0 := fb.cell 0
            have s1 := fb.cell 1
            have s2 := fb.cell 2
            have s3 := fb.cell 3
            have s4 := fb.cell 4
            have s5 := fb.cell 5
            simp only [List.getElem?_toArray, List.getElem?_cons_zero, List.getElem?_cons_succ] at s0 s1 s2 s3 s4 s5
            exact bodyPost_ret (v := readVal s) (by rw [readVal_no hno]; simp [results, Tryd.results23, go_sem, tagg, s0, s1, s2, s3, s4, s5]) rfl ⟨rfl, below_six K2.out (Nat.le_refl _) _ _ _ _ _ _⟩
  · have hno : ¬ readOk s := fun e => h19 e.1
    have hn : ¬ ((s.length : Int) = 19) := by omega
    go_enter Tryd.func23, Tryd.ntmps23
    go_wp2
    exact bodyPost_ret (v := readVal s) (by rw [readVal_no hno]; simp [results, Tryd.results23, go_sem, tagg]) rfl ⟨rfl, (Below.refl _ _).alloc (Nat.le_refl _) _⟩

end Go.Proofs.YtkmkeimofhpkeaaDoor
