/- WALKS: the document's table: There, Position. -/
import Derived.Test.YtnlpgjdgiappcaaMbDoc5
namespace Go.Proofs.Ytnlpgjdgiappcaa
set_option linter.unusedVariables false
set_option linter.unusedSimpArgs false
open Go.RowKit

theorem th_own {w : World} {base : Nat} {v : Value} {l : List Int} {xs ys : List Value} {n : Nat} {x : Int} (h : w.ownsRow base 22 1 v (n + 1) (xs ++ ys)) (hx : xs = u16s l) (hn : n = l.length)
    (hy : ys = [.int .u16 x] := by rfl) : w.ownsRow base 22 1 v (l ++ [x]).length (u16s (l ++ [x])) := by
  subst hx hn hy
  rw [List.length_append, u16s_append]
  simpa [u16s] using h
theorem theres_yes' (L : List Pl.M) (k : Nat) (x : Pl.M) (hx : L[k]? = some x) (h : (x.s != 2) = true) : theres (L.take (k + 1)) = theres (L.take k) ++ [x.n] := by
  rw [take_one L k x hx]; exact theres_yes _ x h
theorem theres_no' (L : List Pl.M) (k : Nat) (x : Pl.M) (hx : L[k]? = some x) (h : (x.s != 2) = false) : theres (L.take (k + 1)) = theres (L.take k) := by
  rw [take_one L k x hx]; exact theres_no _ x h

set_option maxRecDepth 100000 in
set_option maxHeartbeats 2000000 in
theorem refThere_any (z : Int) (A : Option Addr) (c : Nat) (L : List Pl.M) (w : World) (hR : ReadsM w (fun _ => True) A L) (hlen : L.length ≤ 65536) :
    Calls Try.prog 49 #[.agg #[.int .u16 z, .slice A L.length c]] w fun e w' => ∃ v, e = .returned v ∧ w'.ownsRow w.heap.size 22 1 v (theres L).length (u16s (theres L)) ∧ Below w.heap.size w w' := by
  go_enter Try.func49, Try.ntmps49
  go_wp2
  have hB0 := Blk.new w 46 #[.int .u16 z, .slice A L.length c]
  have hb : Below w.heap.size w (w.alloc (.cells #[.int .u16 z, .slice A L.length c] 46)) := (Below.refl _ _).alloc (Nat.le_refl _) _
  have hR1 : ReadsM (w.alloc (.cells #[.int .u16 z, .slice A L.length c] 46)) (fun _ => True) A L := hR.below (by omega) hb
  generalize w.alloc (.cells #[.int .u16 z, .slice A L.length c] 46) = W at *
  generalize hw : w.heap.size = b0 at *
  have B0 := Lib.hid hB0
  have HB := Lib.hid hb
  have RR := Lib.hid hR1
  have HW := Lib.hid hw
  have hl0 := hB0.lt
  clear hB0 hb hR hR1 hw
  go_loopw [3, 4] (fun v i wr => ∃ k : Nat, k ≤ L.length ∧ i = .int .i64 k ∧ wr.ownsRow W.heap.size 22 1 v (theres (L.take k)).length (u16s (theres (L.take k))) ∧ Below W.heap.size W wr) (fun _ i _ => L.length - (intOf i).toNat)
  case atStart => exact ⟨0, Nat.zero_le _, rfl, by simpa [theres, u16s] using own_nil W W.heap.size 22 1, Below.refl _ _⟩
  case round =>
    obtain ⟨k, hk, rfl, hown, hbw⟩ := hrel
    obtain ⟨A1, c1, rfl⟩ := own_slice hown
    have hfl : (theres (L.take k)).length ≤ k := Nat.le_trans (theres_length _) (List.length_take_le _ _)
    have bx0 := B0.out.below hbw B0.out.lt
    have q0 := bx0.cell 0
    have q1 := bx0.cell 1
    simp only [List.getElem?_toArray, List.getElem?_cons_zero, List.getElem?_cons_succ] at q0 q1
    have HO := Lib.hid hown
    have HBW := Lib.hid hbw
    have hsz := hbw.size
    by_cases hlt : k < L.length
    · obtain ⟨x, hx⟩ : ∃ x, L[k]? = some x := ⟨L[k], List.getElem?_eq_getElem hlt⟩
      have rw_ : ReadsM wr (fun _ => True) A L := RR.out.below (by omega) hbw
      obtain ⟨p, o, rfl, -, d0, d1, d2⟩ := rw_.at_ k x hx
      have HX := Lib.hid hx
      clear bx0 hown hbw rw_ hx
      cases hs : (x.s != 2) with
      | true =>
        have HS := Lib.hid (theres_yes' L k x HX.out hs)
        go_wp2_with (at_builtin; (refine app_row W.heap.size rfl (.tmp 19) (.tmp 26) 41 22 _ 1 2 rfl Try.underlying41 u16_info rfl (by omega) _ _ _ _ rfl _ rfl (by simp) (by simp [Value.oneCell']) rfl HO.out hsz (by omega) (by omega) ?_); intro v2 w2 ho2 hg2 hat; have HO2 := Lib.hid (th_own ho2 rfl rfl); have HG2 := Lib.hid hg2; clear ho2 hg2 hat)
        go_roundw
        case rel => exact ⟨k + 1, by omega, by go_num, by rw [HS.out]; exact HO2.out, HBW.out.grown HG2.out hsz (own_base HO.out)⟩
        case measure => simp [intOf]; omega
      | false =>
        have HS := Lib.hid (theres_no' L k x HX.out hs)
        go_wp2
        go_roundw
        case rel => exact ⟨k + 1, by omega, by go_num, by rw [HS.out]; exact HO.out, HBW.out⟩
        case measure => simp [intOf]; omega
    · obtain rfl : k = L.length := by omega
      rw [List.take_length] at hown
      have HO' := Lib.hid hown
      clear bx0 hown hbw
      go_wp2
      go_ret
      refine ⟨_, rfl, ?_, ?_⟩
      · rw [HW.out]
        have h := HO'.out
        exact own_lower (by rw [List.take_length]; exact h) (by omega)
      · rw [HW.out]; exact below_then HB.out (by omega) HBW.out

set_option maxRecDepth 100000 in
set_option maxHeartbeats 2000000 in
theorem refPos_any (z : Int) (A : Option Addr) (c : Nat) (L : List Pl.M) (w : World) (hR : ReadsM w (fun _ => True) A L) (hlen : L.length ≤ 65536) :
    Calls Try.prog 50 #[.agg #[.int .u16 z, .slice A L.length c]] w fun e w' => e = .returned (.int .i64 (below_ z (theres L))) ∧ Below w.heap.size w w' := by
  have hb : Below w.heap.size w (w.alloc (.cells #[.int .u16 z, .slice A L.length c] 46)) := (Below.refl _ _).alloc (Nat.le_refl _) _
  have HB := Lib.hid hb
  have RR := Lib.hid (hR.below (by omega) hb)
  have B0 := Lib.hid (Blk.new w 46 #[.int .u16 z, .slice A L.length c])
  have hl0 := B0.out.lt
  have hth := theres_length L
  clear hb hR
  go_enter Try.func50, Try.ntmps50
  go_wp2_with fail
  refine (refThere_any z A c L _ RR.out hlen).mono ?_
  rintro e w1 ⟨v, rfl, ho, hb1⟩
  obtain ⟨A1, c1, rfl, hr⟩ := Reads.of_own ho
  have bx0 := B0.out.below hb1 B0.out.lt
  have q0 := bx0.cell 0
  have q1 := bx0.cell 1
  simp only [List.getElem?_toArray, List.getElem?_cons_zero, List.getElem?_cons_succ] at q0 q1
  have K1 := Lib.hid (below_then HB.out (by omega) hb1)
  have R1 := Lib.hid (hr.imp (S' := fun _ => True) fun _ _ => trivial)
  clear ho hb1 hr bx0 RR B0 HB
  generalize htl : theres L = l at *
  have HTL := Lib.hid htl
  clear htl
  go_wp2
  go_loopw [3, 5] (fun n i wr => ∃ (k q : Nat), k ≤ l.length ∧ i = .int .i64 k ∧ n = .int .i64 (below_ z (l.take k)) ∧ wr = w1.drewN q) (fun _ i _ => l.length - (intOf i).toNat)
  case atStart => exact ⟨0, 0, Nat.zero_le _, rfl, by simp [below_], rfl⟩
  case round =>
    obtain ⟨k, q, hk, rfl, rfl, rfl⟩ := hrel
    have h3 := below_le z (l.take k)
    have h4 : (l.take k).length ≤ k := List.length_take_le _ _
    by_cases hlt : k < l.length
    · obtain ⟨x, hx⟩ : ∃ x, l[k]? = some x := ⟨l[k], List.getElem?_eq_getElem hlt⟩
      obtain ⟨b, o, rfl, _, hc⟩ := R1.out.2 (by omega)
      have hcell := hc k _ (u16s_get l k x hx)
      have hge0 : (0 : Int) ≤ (k : Int) := by omega
      have hltI : (k : Int) < (l.length : Int) := by omega
      clear hc
      by_cases hxz : x < z
      · have HY := Lib.hid (below_yes z l k x hx hxz)
        have HX := Lib.hid hx
        clear hx
        go_wp2
        go_quiet (fail)
        go_wp2
        go_roundw
        case rel => exact ⟨k + 1, _, by omega, by go_num, by rw [HY.out]; go_num, rfl⟩
        case measure => simp [intOf]; omega
      · have HY := Lib.hid (below_no z l k x hx hxz)
        have HX := Lib.hid hx
        clear hx
        go_wp2
        go_quiet (fail)
        go_wp2
        go_roundw
        case rel => exact ⟨k + 1, _, by omega, by go_num, by rw [HY.out], rfl⟩
        case measure => simp [intOf]; omega
    · obtain rfl : k = l.length := by omega
      rw [List.take_length]
      go_wp2
      go_ret
      exact ⟨by rw [HTL.out]; rfl, below_drewN K1.out _⟩

end Go.Proofs.Ytnlpgjdgiappcaa
