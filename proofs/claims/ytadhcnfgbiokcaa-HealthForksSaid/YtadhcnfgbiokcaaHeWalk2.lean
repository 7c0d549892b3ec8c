/- WALKS: health's ends, Ends. -/
import Derived.Test.YtadhcnfgbiokcaaHeWalk1
namespace Go.Proofs.Ytadhcnfgbiokcaa
set_option linter.unusedVariables false
set_option linter.unusedSimpArgs false
open Go.RowKit

/-- A health's numbers are as they may be. -/
structure HOk (h : Hs) : Prop where
  me : 0 ≤ h.me ∧ h.me < 64
  mn : 1 ≤ h.mn
  mx : h.mn ≤ h.mx
  mx2 : h.mx ≤ 1073741824
  cf : 0 ≤ h.cf ∧ h.cf ≤ 16
  sc : 0 ≤ h.sc ∧ h.sc ≤ 8
/-- How long a suspicion by so many is. -/
def spanOf (h : Hs) (n : Nat) : Int := if 0 < h.cf then h.mx - (h.mx - h.mn) * ((n : Int) - 1) / h.cf else h.mn
def endOf (h : Hs) (x : Su) : Int := x.f + spanOf h (He.ones x.w) * (h.sc + 1)
theorem span_range {h : Hs} (H : HOk h) {n : Nat} (h1 : 1 ≤ n) (h2 : (n : Int) ≤ h.cf + 1) : h.mn ≤ spanOf h n ∧ spanOf h n ≤ h.mx := by
  have a := H.mx
  unfold spanOf
  split
  · rename_i hc
    obtain ⟨d, hd⟩ : ∃ d, h.mx - h.mn = d := ⟨_, rfl⟩
    obtain ⟨o, ho⟩ : ∃ o, (n : Int) - 1 = o := ⟨_, rfl⟩
    rw [hd, ho]
    have d0 : 0 ≤ d := by omega
    have o0 : 0 ≤ o := by omega
    have o1 : o ≤ h.cf := by omega
    have p0 : 0 ≤ d * o := Int.mul_nonneg d0 o0
    have p1 : d * o ≤ d * h.cf := Int.mul_le_mul_of_nonneg_left o1 d0
    have q0 : 0 ≤ d * o / h.cf := Int.ediv_nonneg p0 (by omega)
    have q1 : d * o / h.cf ≤ d := by
      have := Int.ediv_le_ediv hc p1
      rwa [Int.mul_ediv_cancel _ (by omega)] at this
    omega
  · omega

set_option maxRecDepth 100000 in
set_option maxHeartbeats 2000000 in
theorem ends_any (g : Nat) (h : Hs) (x : Su) (w : World) (H : IsH w g h) (HO : HOk h) (hx : x.w < 18446744073709551616) (h1 : 1 ≤ He.ones x.w) (h2 : (He.ones x.w : Int) ≤ h.cf + 1) (hf : 0 ≤ x.f ∧ x.f ≤ 1099511627776) :
    Calls Try.prog 25 #[.pointer (some ⟨g, 0, none⟩), .agg #[.bool true, .int .i64 x.i, .int .i64 x.f, .int .u64 (x.w : Int)]] w fun e w' => e = .returned (.int .i64 (endOf h x)) ∧ Below w.heap.size w w' := by
  have hsr := span_range HO h1 h2
  have hso : spanOf h (He.ones x.w) = if 0 < h.cf then h.mx - (h.mx - h.mn) * ((He.ones x.w : Int) - 1) / h.cf else h.mn := rfl
  have heo : endOf h x = x.f + spanOf h (He.ones x.w) * (h.sc + 1) := rfl
  obtain ⟨-, m1, m2, m3, ⟨k0, k1⟩, ⟨s0, s1⟩⟩ := HO
  have hlt := H.lt
  have hB := Blk.new w 66 #[.bool true, .int .i64 x.i, .int .i64 x.f, .int .u64 (x.w : Int)]
  have H0 := H.alloc (.cells #[.bool true, .int .i64 x.i, .int .i64 x.f, .int .u64 (x.w : Int)] 66)
  have hK : Below w.heap.size w (w.alloc (.cells #[.bool true, .int .i64 x.i, .int .i64 x.f, .int .u64 (x.w : Int)] 66)) := (Below.refl _ _).alloc (Nat.le_refl _) _
  have hlW : w.heap.size < (w.alloc (.cells #[.bool true, .int .i64 x.i, .int .i64 x.f, .int .u64 (x.w : Int)] 66)).heap.size := by simp
  obtain ⟨xi, xf, xw⟩ := x
  simp only at hx h1 h2 hf hsr hso heo hB H0 hK hlW ⊢
  have HH0 := Lib.hid H0
  have HB0 := Lib.hid hB
  have HK0 := Lib.hid hK
  clear H H0 hB hK
  obtain ⟨n, hn⟩ : ∃ n, He.ones xw = n := ⟨_, rfl⟩
  rw [hn] at h1 h2 hsr hso heo
  obtain ⟨sp, hsp⟩ : ∃ sp, spanOf h n = sp := ⟨_, rfl⟩
  rw [hsp] at hsr hso heo
  have HN := Lib.hid hn
  have HE := Lib.hid heo
  clear hn heo hsp
  obtain ⟨r0, r1⟩ := hsr
  obtain ⟨f0, f1⟩ := hf
  go_enter Try.func25, Try.ntmps25
  go_upto_region 1 with fail
  generalize w.alloc (.cells #[.bool true, .int .i64 xi, .int .i64 xf, .int .u64 (xw : Int)] 66) = W at *
  have c1 := HH0.out.head 1 (by omega)
  have c2 := HH0.out.head 2 (by omega)
  have c3 := HH0.out.head 3 (by omega)
  have b3 := HB0.out.cell 3
  have b2 := HB0.out.cell 2
  simp only [hhead, List.getElem?_toArray, List.getElem?_cons_zero, List.getElem?_cons_succ] at c1 c2 c3 b2 b3
  have hgW := HH0.out.lt
  by_cases hc : 0 < h.cf
  · rw [if_pos hc] at hso
    obtain ⟨o, ho⟩ : ∃ o, (n : Int) - 1 = o := ⟨_, rfl⟩
    obtain ⟨P, hP⟩ : ∃ P, (h.mx - h.mn) * o = P := ⟨_, rfl⟩
    obtain ⟨Q, hQ⟩ : ∃ Q, P / h.cf = Q := ⟨_, rfl⟩
    have p0 : 0 ≤ P := by rw [← hP]; exact Int.mul_nonneg (by omega) (by omega)
    have p1 : P ≤ 1073741824 * 16 := by
      rw [← hP]
      exact Int.le_trans (Int.mul_le_mul_of_nonneg_left (by omega : o ≤ 16) (by omega)) (Int.mul_le_mul_of_nonneg_right (by omega) (by omega))
    have q2 : P.tdiv h.cf = Q := by rw [Int.tdiv_eq_ediv_of_nonneg p0]; exact hQ
    rw [ho, hP, hQ] at hso
    have hcz : ¬ h.cf = 0 := by omega
    go_wp2_with fail
    refine (ones_any xw _ hx).mono ?_
    rw [HN.out]
    rintro e w1 ⟨rfl, hb⟩
    have H1 := Lib.hid (HH0.out.below hb hgW)
    have B1 := Lib.hid (HB0.out.below hb hlW)
    have K1 := Lib.hid (below_then HK0.out HK0.out.size hb)
    clear hb HH0 HB0 HK0 c1 c2 c3 b2 b3
    have c1 := H1.out.head 1 (by omega)
    have c2 := H1.out.head 2 (by omega)
    have c3 := H1.out.head 3 (by omega)
    have b2 := B1.out.cell 2
    simp only [hhead, List.getElem?_toArray, List.getElem?_cons_zero, List.getElem?_cons_succ] at c1 c2 c3 b2
    obtain ⟨V, hV⟩ : ∃ V, (h.mx - Q) * (h.sc + 1) = V := ⟨_, rfl⟩
    have V0 : 0 ≤ V := by rw [← hV]; exact Int.mul_nonneg (by omega) (by omega)
    have V1 : V ≤ 1073741824 * 9 := by
      rw [← hV]
      exact Int.le_trans (Int.mul_le_mul_of_nonneg_left (by omega : h.sc + 1 ≤ 9) (by omega)) (Int.mul_le_mul_of_nonneg_right (by omega) (by omega))
    rw [hso, hV] at HE
    go_wp2
    go_quiet (fail)
    go_wp2
    have HW : ∀ X, Below w1.heap.size w1 X → Calls Try.prog 22 #[.pointer (some ⟨g, 0, none⟩), .int .i64 (h.mx - Q)] X fun e w' => e = .returned (.int .i64 V) ∧ Below X.heap.size X w' := fun X hX => by
      have := wait_any g h (h.mx - Q) X (H1.out.below hX H1.out.lt) ⟨s0, s1⟩
      rw [if_pos ⟨by omega, by omega⟩, hV] at this
      exact this
    have hwx : IntKind.i64.wrap (xf + V) = xf + V := wraps_i64' _ (by omega) (by omega)
    have HWH := Lib.hid HW
    clear HW
    go_region_with (go_at_call 22; refine (HWH.out _ ?_).mono ?_; (first | exact (Below.refl _ w1).drew | exact below_drewN (Below.refl _ w1) _ | exact (below_drewN (Below.refl _ w1) _).drew); rintro e w2 ⟨rfl, hb⟩; have K2 := Lib.hid (below_then K1.out K1.out.size (show Below w1.heap.size w1 w2 from ⟨hb.os, hb.tape, hb.output, hb.size, hb.block⟩)); have b2' := (Blk.below B1.out (show Below w1.heap.size w1 w2 from ⟨hb.os, hb.tape, hb.output, hb.size, hb.block⟩) B1.out.lt).cell 2; simp only [List.getElem?_toArray, List.getElem?_cons_zero, List.getElem?_cons_succ] at b2'; clear hb)
    all_goals
      go_wp2
      go_ret
      exact ⟨by rw [HE.out]; rfl, K2.out⟩
  · rw [if_neg hc] at hso
    obtain ⟨V, hV⟩ : ∃ V, h.mn * (h.sc + 1) = V := ⟨_, rfl⟩
    have V0 : 0 ≤ V := by rw [← hV]; exact Int.mul_nonneg (by omega) (by omega)
    have V1 : V ≤ 1073741824 * 9 := by
      rw [← hV]
      exact Int.le_trans (Int.mul_le_mul_of_nonneg_left (by omega : h.sc + 1 ≤ 9) (by omega)) (Int.mul_le_mul_of_nonneg_right (by omega) (by omega))
    rw [hso, hV] at HE
    obtain ⟨w1, hw1⟩ : ∃ w1, w1 = W := ⟨_, rfl⟩
    subst hw1
    have H1 := HH0
    have B1 := HB0
    have K1 := HK0
    go_wp2
    have HW : ∀ X, Below w1.heap.size w1 X → Calls Try.prog 22 #[.pointer (some ⟨g, 0, none⟩), .int .i64 (h.mn)] X fun e w' => e = .returned (.int .i64 V) ∧ Below X.heap.size X w' := fun X hX => by
      have := wait_any g h (h.mn) X (H1.out.below hX H1.out.lt) ⟨s0, s1⟩
      rw [if_pos ⟨by omega, by omega⟩, hV] at this
      exact this
    have hwx : IntKind.i64.wrap (xf + V) = xf + V := wraps_i64' _ (by omega) (by omega)
    have HWH := Lib.hid HW
    clear HW
    go_region_with (go_at_call 22; refine (HWH.out _ ?_).mono ?_; (first | exact (Below.refl _ w1).drew | exact below_drewN (Below.refl _ w1) _ | exact (below_drewN (Below.refl _ w1) _).drew); rintro e w2 ⟨rfl, hb⟩; have K2 := Lib.hid (below_then K1.out K1.out.size (show Below w1.heap.size w1 w2 from ⟨hb.os, hb.tape, hb.output, hb.size, hb.block⟩)); have b2' := (Blk.below B1.out (show Below w1.heap.size w1 w2 from ⟨hb.os, hb.tape, hb.output, hb.size, hb.block⟩) B1.out.lt).cell 2; simp only [List.getElem?_toArray, List.getElem?_cons_zero, List.getElem?_cons_succ] at b2'; clear hb)
    all_goals
      go_wp2
      go_ret
      exact ⟨by rw [HE.out]; rfl, K2.out⟩

end Go.Proofs.Ytadhcnfgbiokcaa
