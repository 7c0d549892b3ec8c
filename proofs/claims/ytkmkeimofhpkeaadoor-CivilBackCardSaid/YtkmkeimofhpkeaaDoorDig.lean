/- WALKS: digits of numbers: civil's digits, the document's told. -/
import Derived.Test.YtkmkeimofhpkeaaDoorWalk5
import Derived.Lib.AppendStr
import Derived.Deep.AppendLies
namespace Go.Proofs.YtkmkeimofhpkeaaDoor
set_option linter.unusedVariables false
set_option linter.unusedSimpArgs false
open Go.RowKit

def dg (x j : Nat) : UInt8 := UInt8.ofNat (48 + x / 10 ^ j % 10)
def digs : Nat → Nat → List UInt8
  | 0, _ => []
  | j + 1, x => dg x j :: digs j x
def bcells (l : List UInt8) : List Value := l.map fun b => .int .u8 b.toNat
theorem bcells_append (a b : List UInt8) : bcells (a ++ b) = bcells a ++ bcells b := by simp [bcells]
theorem digs_length (j x : Nat) : (digs j x).length = j := by induction j <;> simp [digs, *]
theorem dg_nat (x j : Nat) : (dg x j).toNat = 48 + x / 10 ^ j % 10 := by
  unfold dg
  rw [UInt8.toNat_ofNat']
  omega
theorem div_zero_up {x a b : Nat} (h : x / 10 ^ a = 0) (hab : a ≤ b) : x / 10 ^ b = 0 := by
  have h1 : x < 10 ^ a := by
    rcases Nat.div_eq_zero_iff.1 h with h | h
    · have : 0 < 10 ^ a := Nat.pow_pos (by omega); omega
    · exact h
  exact Nat.div_eq_of_lt (Nat.lt_of_lt_of_le h1 (Nat.pow_le_pow_right (by omega) hab))
theorem digs_high (x j t : Nat) (h : x / 10 ^ j = 0) : digs (j + t) x = List.replicate t 48 ++ digs j x := by
  induction t with
  | zero => rfl
  | succ t ih =>
    have e : x / 10 ^ (j + t) = 0 := div_zero_up h (by omega)
    have hd : dg x (j + t) = 48 := by unfold dg; rw [e]; rfl
    rw [show j + (t + 1) = (j + t) + 1 by omega, digs, ih, hd, List.replicate_succ]
    rfl

theorem u8_info : (Tryd.prog.info? 5).map (fun i => (i.zero, i.size, i.bytes)) = some (some (.int .u8 0), 1, 1) := by kernel_rfl
theorem zeros2 : Lib.strCells ((⟨#[48, 48, 48, 48]⟩ : ByteArray).extract 0 2) = bcells (List.replicate 2 48) := rfl
theorem zeros4 : Lib.strCells ((⟨#[48, 48, 48, 48]⟩ : ByteArray).extract 0 4) = bcells (List.replicate 4 48) := rfl

theorem set_mid {α : Type} (a b : List α) (x y : α) (n : Nat) (h : n = a.length) : (a ++ x :: b).set n y = a ++ y :: b := by
  subst h
  rw [List.set_append_right _ _ (Nat.le_refl _)]
  simp

/-- A row of the call's own with some cells has a block. -/
theorem own_form {w : World} {base n : Nat} {e : TypeId} {size : Nat} {v : Value} {xs : List Value} (h : w.ownsRow base e size v n xs) (hn : 0 < n) : ∃ g c, v = .slice (some ⟨g, 0, none⟩) n c ∧ base ≤ g ∧ g < w.heap.size := by
  rcases h.2 with ⟨_, h0⟩ | ⟨g, cap, cur, e1, h1, h2, _⟩
  · omega
  · exact ⟨g, cap, e1, h1, (Array.getElem?_eq_some_iff.1 h2).1⟩

set_option maxRecDepth 100000 in
set_option maxHeartbeats 2000000 in
theorem digits_any (base : Nat) (A : Option Addr) (c n0 x k : Nat) (l : List UInt8) (w : World) (hk : k = 2 ∨ k = 4) (hx : x < 10 ^ k) (hn : n0 ≤ 100) (ho : w.ownsRow base 5 1 (.slice A n0 c) n0 (bcells l)) (hb : base ≤ w.heap.size) :
    Calls Tryd.prog 34 #[.slice A n0 c, .int .i64 (x : Int), .int .i64 (k : Int)] w fun e w' => ∃ g c', e = .returned (.slice (some ⟨g, 0, none⟩) (n0 + k) c') ∧ w'.ownsRow base 5 1 (.slice (some ⟨g, 0, none⟩) (n0 + k) c') (n0 + k) (bcells (l ++ digs k x)) ∧ Below base w w' := by
  have hlen : l.length = n0 := by have := ho.1; simpa [bcells] using this
  have hx4 : x < 10000 := by rcases hk with rfl | rfl <;> omega
  have HO := Lib.hid ho
  clear ho
  go_enter Tryd.func34, Tryd.ntmps34
  obtain ⟨i0, hi, hzz⟩ := Option.map_eq_some_iff.1 u8_info
  simp only [Prod.mk.injEq] at hzz
  obtain ⟨hz0, hz1, hz2⟩ := hzz
  have HI := Lib.hid hi
  have HZ := Lib.hid (⟨hz0, hz1, hz2⟩ : i0.zero = some (.int .u8 0) ∧ i0.size = 1 ∧ i0.bytes = 1)
  clear hi hz0 hz1 hz2
  rcases hk with rfl | rfl
  · have hA1 : n0 + ((⟨#[48, 48, 48, 48]⟩ : ByteArray).extract 0 2).size ≤ maxLen := by
      rw [show ((⟨#[48, 48, 48, 48]⟩ : ByteArray).extract 0 2).size = 2 from rfl]; simp only [maxLen]; omega
    have hA2 : n0 + ((⟨#[48, 48, 48, 48]⟩ : ByteArray).extract 0 2).size ≤ 140737488355328 := by
      rw [show ((⟨#[48, 48, 48, 48]⟩ : ByteArray).extract 0 2).size = 2 from rfl]; omega
    go_wp2_with (at_builtin; refine Lib.wpList_append_own_string _ rfl (.tmp 12) (.tmp 14) 55 9 rfl base 5 i0 Tryd.underlying55 Tryd.underlying9 HI.out HZ.out.1 HZ.out.2.1 HZ.out.2.2 _ _ _ rfl HO.out _ rfl hA1 hA2 hb ?_; rw [zeros2]; intro v1 w1 ho1 hg1 hnn; clear hnn)
    rw [← bcells_append, show n0 + ((⟨#[48, 48, 48, 48]⟩ : ByteArray).extract 0 2).size = n0 + 2 from rfl] at ho1
    have hbl : Below base w w1 := below_of_grown hb hg1 (own_base HO.out)
    obtain ⟨g, c', rfl, hg0, hg2⟩ := own_form ho1 (by omega)
    have HB := Lib.hid hbl
    have H1 := Lib.hid ho1
    have hgw := hg2
    clear hbl ho1 hg1 hA1 hA2
    go_loopw [1, 7] (fun xv av wr => ∃ j : Nat, j ≤ 2 ∧ xv = .int .i64 ((x / 10 ^ j : Nat) : Int) ∧ av = .int .i64 ((n0 + (2 - j) : Nat) : Int) ∧ wr.ownsRow base 5 1 (.slice (some ⟨g, 0, none⟩) (n0 + 2) c') (n0 + 2) (bcells (l ++ (List.replicate (2 - j) 48 ++ digs j x))) ∧ Below base w wr ∧ g < wr.heap.size) (fun xv _ _ => (intOf xv).toNat)
    case atStart => exact ⟨0, by omega, by simp, by simp, by simpa [digs] using H1.out, HB.out, hg2⟩
    case round =>
      obtain ⟨j, hj, rfl, rfl, hown, hbw, hgl⟩ := hrel
      obtain ⟨y, hy⟩ : ∃ y, x / 10 ^ j = y := ⟨_, rfl⟩
      have hsucc : x / 10 ^ (j + 1) = y / 10 := by rw [Nat.pow_succ, ← Nat.div_div_eq_div_mul, hy]
      have HW := Lib.hid hbw
      rw [hy]
      by_cases hpos : 0 < y
      · have hjk : j < 2 := by
          rcases Nat.lt_or_ge j 2 with h | h
          · exact h
          · have e : x / 10 ^ j = 0 := div_zero_up (Nat.div_eq_of_lt hx) h
            omega
        obtain ⟨q, hq⟩ : ∃ q, 2 - j = q + 1 := ⟨2 - j - 1, by omega⟩
        have hdg := dg_nat x j
        rw [hy] at hdg
        rw [hq] at hown ⊢
        have hlt : n0 + q < (n0 + 2) * 1 := by omega
        have hset : ∀ u : Value, (bcells (l ++ (List.replicate (q + 1) 48 ++ digs j x))).set (n0 + q) u = bcells (l ++ List.replicate q 48) ++ u :: bcells (digs j x) := fun u => by
          rw [List.replicate_succ', ← List.append_assoc, ← List.append_assoc, List.append_assoc _ [48], bcells_append]
          exact set_mid _ _ _ _ _ (by simp [bcells, hlen])
        have hcell := hown.cellAt (n0 + q) hlt
        have hfr := hown.frozenAt (n0 + q)
        have hget : (bcells (l ++ (List.replicate (q + 1) 48 ++ digs j x)))[n0 + q]? = some (.int .u8 48) := by
          rw [List.replicate_succ', ← List.append_assoc, ← List.append_assoc, List.append_assoc _ [48], bcells_append]
          rw [List.getElem?_append_right (by simp [bcells, hlen])]
          simp [bcells, hlen]
        rw [hget] at hcell
        have hst := hown.stored (n0 + q) (.int .u8 ((dg x j).toNat : Int))
        rw [hset] at hst
        have HST := Lib.hid hst
        have hmod : (y : Int) % 10 < 10 ∧ 0 ≤ (y : Int) % 10 := by omega
        have hdgI : ((dg x j).toNat : Int) = 48 + (y : Int) % 10 := by rw [hdg]; omega
        have HDG := Lib.hid hdgI
        have HS := Lib.hid hsucc
        have hposI : (0 : Int) < (y : Int) := by omega
        have hy4 : (y : Int) < 10000 := by have : x / 10 ^ j ≤ x := Nat.div_le_self _ _; omega
        have hi0 : (0 : Int) ≤ ((n0 + (q + 1) : Nat) : Int) - 1 := by omega
        have hi1 : ((n0 + (q + 1) : Nat) : Int) - 1 < ((n0 + 2 : Nat) : Int) := by omega
        have hi2 : (((n0 + (q + 1) : Nat) : Int) - 1).toNat = n0 + q := by omega
        have hi3 : ((n0 + (q + 1) : Nat) : Int) - 1 = ((n0 + q : Nat) : Int) := by omega
        clear hown hset hget hst hdg hdgI hsucc hbw
        go_wp2
        refine ⟨⟨j + 1, by omega, int_eq (by rw [HS.out]; omega), int_eq (by omega), ?_, HW.out.setCell (p := ⟨g, n0 + q, none⟩) hg0 _, by simpa [World.setCell] using hgl⟩, by simp [intOf]; omega⟩
        have h := HST.out.1
        rw [HDG.out] at h
        have e : bcells (l ++ (List.replicate (2 - (j + 1)) 48 ++ digs (j + 1) x)) = bcells (l ++ List.replicate q 48) ++ .int .u8 (48 + (y : Int) % 10) :: bcells (digs j x) := by
          rw [show 2 - (j + 1) = q by omega, digs, ← List.append_assoc, bcells_append]
          show _ ++ (Value.int .u8 ((dg x j).toNat : Int) :: bcells (digs j x)) = _
          rw [HDG.out]
        rw [e]
        exact h
      · obtain rfl : y = 0 := by omega
        have e : digs 2 x = List.replicate (2 - j) 48 ++ digs j x := by
          have := digs_high x j (2 - j) hy
          rwa [show j + (2 - j) = 2 by omega] at this
        rw [← e] at hown
        have HOW := Lib.hid hown
        clear hown hbw
        go_wp2
        go_ret
        exact ⟨g, c', rfl, HOW.out, HW.out⟩
  · have hA1 : n0 + ((⟨#[48, 48, 48, 48]⟩ : ByteArray).extract 0 4).size ≤ maxLen := by
      rw [show ((⟨#[48, 48, 48, 48]⟩ : ByteArray).extract 0 4).size = 4 from rfl]; simp only [maxLen]; omega
    have hA2 : n0 + ((⟨#[48, 48, 48, 48]⟩ : ByteArray).extract 0 4).size ≤ 140737488355328 := by
      rw [show ((⟨#[48, 48, 48, 48]⟩ : ByteArray).extract 0 4).size = 4 from rfl]; omega
    go_wp2_with (at_builtin; refine Lib.wpList_append_own_string _ rfl (.tmp 12) (.tmp 14) 55 9 rfl base 5 i0 Tryd.underlying55 Tryd.underlying9 HI.out HZ.out.1 HZ.out.2.1 HZ.out.2.2 _ _ _ rfl HO.out _ rfl hA1 hA2 hb ?_; rw [zeros4]; intro v1 w1 ho1 hg1 hnn; clear hnn)
    rw [← bcells_append, show n0 + ((⟨#[48, 48, 48, 48]⟩ : ByteArray).extract 0 4).size = n0 + 4 from rfl] at ho1
    have hbl : Below base w w1 := below_of_grown hb hg1 (own_base HO.out)
    obtain ⟨g, c', rfl, hg0, hg2⟩ := own_form ho1 (by omega)
    have HB := Lib.hid hbl
    have H1 := Lib.hid ho1
    have hgw := hg2
    clear hbl ho1 hg1 hA1 hA2
    go_loopw [1, 7] (fun xv av wr => ∃ j : Nat, j ≤ 4 ∧ xv = .int .i64 ((x / 10 ^ j : Nat) : Int) ∧ av = .int .i64 ((n0 + (4 - j) : Nat) : Int) ∧ wr.ownsRow base 5 1 (.slice (some ⟨g, 0, none⟩) (n0 + 4) c') (n0 + 4) (bcells (l ++ (List.replicate (4 - j) 48 ++ digs j x))) ∧ Below base w wr ∧ g < wr.heap.size) (fun xv _ _ => (intOf xv).toNat)
    case atStart => exact ⟨0, by omega, by simp, by simp, by simpa [digs] using H1.out, HB.out, hg2⟩
    case round =>
      obtain ⟨j, hj, rfl, rfl, hown, hbw, hgl⟩ := hrel
      obtain ⟨y, hy⟩ : ∃ y, x / 10 ^ j = y := ⟨_, rfl⟩
      have hsucc : x / 10 ^ (j + 1) = y / 10 := by rw [Nat.pow_succ, ← Nat.div_div_eq_div_mul, hy]
      have HW := Lib.hid hbw
      rw [hy]
      by_cases hpos : 0 < y
      · have hjk : j < 4 := by
          rcases Nat.lt_or_ge j 4 with h | h
          · exact h
          · have e : x / 10 ^ j = 0 := div_zero_up (Nat.div_eq_of_lt hx) h
            omega
        obtain ⟨q, hq⟩ : ∃ q, 4 - j = q + 1 := ⟨4 - j - 1, by omega⟩
        have hdg := dg_nat x j
        rw [hy] at hdg
        rw [hq] at hown ⊢
        have hlt : n0 + q < (n0 + 4) * 1 := by omega
        have hset : ∀ u : Value, (bcells (l ++ (List.replicate (q + 1) 48 ++ digs j x))).set (n0 + q) u = bcells (l ++ List.replicate q 48) ++ u :: bcells (digs j x) := fun u => by
          rw [List.replicate_succ', ← List.append_assoc, ← List.append_assoc, List.append_assoc _ [48], bcells_append]
          exact set_mid _ _ _ _ _ (by simp [bcells, hlen])
        have hcell := hown.cellAt (n0 + q) hlt
        have hfr := hown.frozenAt (n0 + q)
        have hget : (bcells (l ++ (List.replicate (q + 1) 48 ++ digs j x)))[n0 + q]? = some (.int .u8 48) := by
          rw [List.replicate_succ', ← List.append_assoc, ← List.append_assoc, List.append_assoc _ [48], bcells_append]
          rw [List.getElem?_append_right (by simp [bcells, hlen])]
          simp [bcells, hlen]
        rw [hget] at hcell
        have hst := hown.stored (n0 + q) (.int .u8 ((dg x j).toNat : Int))
        rw [hset] at hst
        have HST := Lib.hid hst
        have hmod : (y : Int) % 10 < 10 ∧ 0 ≤ (y : Int) % 10 := by omega
        have hdgI : ((dg x j).toNat : Int) = 48 + (y : Int) % 10 := by rw [hdg]; omega
        have HDG := Lib.hid hdgI
        have HS := Lib.hid hsucc
        have hposI : (0 : Int) < (y : Int) := by omega
        have hy4 : (y : Int) < 10000 := by have : x / 10 ^ j ≤ x := Nat.div_le_self _ _; omega
        have hi0 : (0 : Int) ≤ ((n0 + (q + 1) : Nat) : Int) - 1 := by omega
        have hi1 : ((n0 + (q + 1) : Nat) : Int) - 1 < ((n0 + 4 : Nat) : Int) := by omega
        have hi2 : (((n0 + (q + 1) : Nat) : Int) - 1).toNat = n0 + q := by omega
        have hi3 : ((n0 + (q + 1) : Nat) : Int) - 1 = ((n0 + q : Nat) : Int) := by omega
        clear hown hset hget hst hdg hdgI hsucc hbw
        go_wp2
        refine ⟨⟨j + 1, by omega, int_eq (by rw [HS.out]; omega), int_eq (by omega), ?_, HW.out.setCell (p := ⟨g, n0 + q, none⟩) hg0 _, by simpa [World.setCell] using hgl⟩, by simp [intOf]; omega⟩
        have h := HST.out.1
        rw [HDG.out] at h
        have e : bcells (l ++ (List.replicate (4 - (j + 1)) 48 ++ digs (j + 1) x)) = bcells (l ++ List.replicate q 48) ++ .int .u8 (48 + (y : Int) % 10) :: bcells (digs j x) := by
          rw [show 4 - (j + 1) = q by omega, digs, ← List.append_assoc, bcells_append]
          show _ ++ (Value.int .u8 ((dg x j).toNat : Int) :: bcells (digs j x)) = _
          rw [HDG.out]
        rw [e]
        exact h
      · obtain rfl : y = 0 := by omega
        have e : digs 4 x = List.replicate (4 - j) 48 ++ digs j x := by
          have := digs_high x j (4 - j) hy
          rwa [show j + (4 - j) = 4 by omega] at this
        rw [← e] at hown
        have HOW := Lib.hid hown
        clear hown hbw
        go_wp2
        go_ret
        exact ⟨g, c', rfl, HOW.out, HW.out⟩

theorem dig_slice (d : Nat) (h : d < 10) : (⟨#[48, 49, 50, 51, 52, 53, 54, 55, 56, 57]⟩ : ByteArray).extract d (d + 1) = ⟨#[UInt8.ofNat (48 + d)]⟩ := by
  have : d = 0 ∨ d = 1 ∨ d = 2 ∨ d = 3 ∨ d = 4 ∨ d = 5 ∨ d = 6 ∨ d = 7 ∨ d = 8 ∨ d = 9 := by omega
  rcases this with rfl | rfl | rfl | rfl | rfl | rfl | rfl | rfl | rfl | rfl <;> rfl

set_option maxRecDepth 100000 in
set_option maxHeartbeats 2000000 in
theorem told_any (x k : Nat) (w : World) (hk : k ≤ 4) (hx : x < 10000) :
    Calls Tryd.prog 35 #[.int .i64 (x : Int), .int .i64 (k : Int)] w fun e w' => e = .returned (.string ⟨(digs k x).toArray⟩) ∧ Below w.heap.size w w' := by
  go_enter Tryd.func35, Tryd.ntmps35
  go_wp2
  go_loopw [0, 5, 6] (fun xv sv iv wr => ∃ j : Nat, j ≤ k ∧ xv = .int .i64 ((x / 10 ^ j : Nat) : Int) ∧ iv = .int .i64 (j : Int) ∧ sv = .string ⟨(digs j x).toArray⟩ ∧ Below w.heap.size w wr) (fun _ _ iv _ => k - (intOf iv).toNat)
  case atStart => exact ⟨0, by omega, by simp, rfl, rfl, Below.refl _ _⟩
  case round =>
    obtain ⟨j, hj, rfl, rfl, rfl, hbw⟩ := hrel
    have HW := Lib.hid hbw
    clear hbw
    by_cases hlt : j < k
    · obtain ⟨y, hy⟩ : ∃ y, x / 10 ^ j = y := ⟨_, rfl⟩
      have hsucc : x / 10 ^ (j + 1) = y / 10 := by rw [Nat.pow_succ, ← Nat.div_div_eq_div_mul, hy]
      have hyx : y ≤ x := by rw [← hy]; exact Nat.div_le_self _ _
      have hd : (⟨#[48, 49, 50, 51, 52, 53, 54, 55, 56, 57]⟩ : ByteArray).extract (y % 10) (y % 10 + 1) = ⟨#[dg x j]⟩ := by rw [dig_slice _ (by omega)]; unfold dg; rw [hy]
      rw [hy]
      have HD := Lib.hid hd
      have HS := Lib.hid hsucc
      clear hd hsucc hy
      have hi1 : (0 : Int) ≤ (y : Int) % 10 := by omega
      have hi2 : (y : Int) % 10 + 1 ≤ 10 := by omega
      have hi3 : ((y : Int) % 10).toNat = y % 10 := by omega
      have hi4 : ((y : Int) % 10 + 1).toNat = y % 10 + 1 := by omega
      have hlen := digs_length j x
      go_wp2
      refine ⟨⟨j + 1, by omega, int_eq (by rw [HS.out]; omega), int_eq (by omega), ?_, HW.out⟩, by simp [intOf]; omega⟩
      rw [HD.out]
      show Value.string ((⟨[dg x j].toArray⟩ : ByteArray) ++ ⟨(digs j x).toArray⟩) = _
      rw [ByteArray.mk_append_mk]
      rfl
    · obtain rfl : j = k := by omega
      go_wp2
      go_ret
      exact ⟨rfl, HW.out⟩

end Go.Proofs.YtkmkeimofhpkeaaDoor
