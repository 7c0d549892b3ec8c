/- WALK: the document's table: set. -/
import Derived.Test.YtnlpgjdgiappcaaMbDoc1
namespace Go.Proofs.Ytnlpgjdgiappcaa
set_option linter.unusedVariables false
set_option linter.unusedSimpArgs false
open Go.RowKit

theorem setStep_ta {m x : Pl.M} (out : List Pl.M) (h : (x.n != m.n) = true) : Pl.setStep m (out, true) x = (out ++ [x], true) := by
  have h : x.n ≠ m.n := by simpa using h
  simp [Pl.setStep, h]
theorem setStep_tb {m x : Pl.M} (out : List Pl.M) (h : (x.n != m.n) = false) : Pl.setStep m (out, true) x = (out, true) := by
  have h : x.n = m.n := by simpa using h
  simp [Pl.setStep, h]
theorem setStep_fa {m x : Pl.M} (out : List Pl.M) (h : (x.n != m.n) = true) (hg : m.n ≤ x.n) : Pl.setStep m (out, false) x = (out ++ [m] ++ [x], true) := by
  have h : x.n ≠ m.n := by simpa using h
  simp [Pl.setStep, h, hg]
theorem setStep_fb {m x : Pl.M} (out : List Pl.M) (h : (x.n != m.n) = false) (hg : m.n ≤ x.n) : Pl.setStep m (out, false) x = (out ++ [m], true) := by
  have h : x.n = m.n := by simpa using h
  simp [Pl.setStep, h, hg]
theorem setStep_fc {m x : Pl.M} (out : List Pl.M) (h : (x.n != m.n) = true) (hg : ¬ m.n ≤ x.n) : Pl.setStep m (out, false) x = (out ++ [x], false) := by
  have h : x.n ≠ m.n := by simpa using h
  simp [Pl.setStep, h, hg]
theorem fold_one (m : Pl.M) (L : List Pl.M) (k : Nat) (x : Pl.M) (hx : L[k]? = some x) {p q : List Pl.M × Bool} (h : (L.take k).foldl (Pl.setStep m) ([], false) = p) (hs : Pl.setStep m p x = q) :
    (L.take (k + 1)).foldl (Pl.setStep m) ([], false) = q := by
  rw [take_one L k x hx, List.foldl_append, h]
  exact hs

/-- One member more behind a row of members. -/
theorem set_own {w : World} {base : Nat} {v : Value} {l : List Pl.M} {xs ys : List Value} {n : Nat} {x : Pl.M} (h : w.ownsRow base 25 3 v (n + 1) (xs ++ ys)) (hx : xs = rows l) (hn : n = l.length)
    (hy : ys = row3 x := by rfl) : w.ownsRow base 25 3 v (l ++ [x]).length (rows (l ++ [x])) := by
  subst hx hn hy
  rw [List.length_append, rows_append]
  simpa [rows] using h

theorem setL_fold {m : Pl.M} {L out : List Pl.M} {done : Bool} (h : L.foldl (Pl.setStep m) ([], false) = (out, done)) : Pl.setL L m = if done then out else out ++ [m] := by
  unfold Pl.setL; rw [h]
theorem own_lower {w : World} {base base' : Nat} {e : TypeId} {size n : Nat} {v : Value} {xs : List Value} (h : w.ownsRow base e size v n xs) (hb : base' ≤ base) : w.ownsRow base' e size v n xs := by
  refine ⟨h.1, ?_⟩
  rcases h.2 with h | ⟨g', cap, cur, h1, h2, h3⟩
  · exact .inl h
  · exact .inr ⟨g', cap, cur, h1, by omega, h3⟩
theorem own_two {w : World} {base g : Nat} {e : TypeId} {size n : Nat} {v a b : Value} {xs : List Value} (h : w.ownsRow base e size v n xs) (hg : g < base) : ((w.setCell ⟨g, 0, none⟩ a).setCell ⟨g, 1, none⟩ b).ownsRow base e size v n xs :=
  own_grown h (grown_setCell (g := g) (grown_setCell (g := g) (World.grownBy.refl w _) (.inl rfl) _) (.inl rfl) _) (fun k e hv => by have := own_base h k hv; injection e with e; omega)

set_option maxRecDepth 100000 in
set_option maxHeartbeats 2000000 in
theorem refSet_any (z : Int) (A : Option Addr) (c : Nat) (L : List Pl.M) (m : Pl.M) (w : World) (hR : ReadsM w (fun _ => True) A L) (hlen : L.length ≤ 65536) :
    Calls Try.prog 46 #[.agg #[.int .u16 z, .slice A L.length c], .agg (mcells m)] w fun e w' => ∃ v, e = .returned (.agg #[.int .u16 z, v]) ∧ w'.ownsRow w.heap.size 25 3 v (Pl.setL L m).length (rows (Pl.setL L m)) ∧ Below w.heap.size w w' := by
  obtain ⟨mn, ms, mi⟩ := m
  unfold mcells
  simp only
  go_enter Try.func46, Try.ntmps46
  go_wp2
  have hB0 := ((Blk.new w 46 #[.int .u16 z, .slice A L.length c]).alloc (.cells #[.int .u16 mn, .int .u8 ms, .int .i64 mi] 25)).alloc (.cells #[.int .u16 0, .slice none 0 0] 46)
  have hB1 := (Blk.new (w.alloc (.cells #[.int .u16 z, .slice A L.length c] 46)) 25 #[.int .u16 mn, .int .u8 ms, .int .i64 mi]).alloc (.cells #[.int .u16 0, .slice none 0 0] 46)
  have hB2 := Blk.new ((w.alloc (.cells #[.int .u16 z, .slice A L.length c] 46)).alloc (.cells #[.int .u16 mn, .int .u8 ms, .int .i64 mi] 25)) 46 #[.int .u16 0, .slice none 0 0]
  have hb : Below w.heap.size w (((w.alloc (.cells #[.int .u16 z, .slice A L.length c] 46)).alloc (.cells #[.int .u16 mn, .int .u8 ms, .int .i64 mi] 25)).alloc (.cells #[.int .u16 0, .slice none 0 0] 46)) :=
    (((Below.refl _ _).alloc (Nat.le_refl _) _).alloc (by simp) _).alloc (by simp; omega) _
  have hs1 : (w.alloc (.cells #[.int .u16 z, .slice A L.length c] 46)).heap.size = w.heap.size + 1 := by simp
  have hs2 : ((w.alloc (.cells #[.int .u16 z, .slice A L.length c] 46)).alloc (.cells #[.int .u16 mn, .int .u8 ms, .int .i64 mi] 25)).heap.size = w.heap.size + 1 + 1 := by simp
  rw [hs1] at hB1
  rw [hs2] at hB2
  have hR1 : ReadsM (((w.alloc (.cells #[.int .u16 z, .slice A L.length c] 46)).alloc (.cells #[.int .u16 mn, .int .u8 ms, .int .i64 mi] 25)).alloc (.cells #[.int .u16 0, .slice none 0 0] 46)) (fun _ => True) A L := hR.below (by omega) hb
  generalize (((w.alloc (.cells #[.int .u16 z, .slice A L.length c] 46)).alloc (.cells #[.int .u16 mn, .int .u8 ms, .int .i64 mi] 25)).alloc (.cells #[.int .u16 0, .slice none 0 0] 46)) = W at *
  generalize hw : w.heap.size = b0 at *
  have B0 := Lib.hid hB0
  have B1 := Lib.hid hB1
  have B2 := Lib.hid hB2
  have HB := Lib.hid hb
  have RR := Lib.hid hR1
  have HW := Lib.hid hw
  have hl2 := hB2.lt
  clear hB0 hB1 hB2 hb hs1 hs2 hR hR1 hw
  go_loopw [5, 6, 7] (fun v d i wr => ∃ (k : Nat) (out : List Pl.M) (done : Bool), k ≤ L.length ∧ i = .int .i64 k ∧ d = .bool done ∧ (L.take k).foldl (Pl.setStep ⟨mn, ms, mi⟩) ([], false) = (out, done) ∧ out.length ≤ k + done.toNat ∧
    wr.ownsRow W.heap.size 25 3 v out.length (rows out) ∧ Below W.heap.size W wr) (fun _ _ i _ => L.length - (intOf i).toNat)
  case atStart => exact ⟨0, [], false, Nat.zero_le _, rfl, rfl, by simp, by simp, own_nil W W.heap.size 25 3, Below.refl _ _⟩
  case round =>
    obtain ⟨k, out, done, hk, rfl, rfl, hf, hol, hown, hbw⟩ := hrel
    obtain ⟨A1, c1, rfl⟩ := own_slice hown
    have bx0 := B0.out.below hbw B0.out.lt
    have bx1 := B1.out.below hbw B1.out.lt
    have q0 := bx0.cell 0
    have q1 := bx0.cell 1
    have r0 := bx1.cell 0
    have r1 := bx1.cell 1
    have r2 := bx1.cell 2
    simp only [List.getElem?_toArray, List.getElem?_cons_zero, List.getElem?_cons_succ] at q0 q1 r0 r1 r2
    have BX0 := Lib.hid bx0
    have BX1 := Lib.hid bx1
    have HO := Lib.hid hown
    have HBW := Lib.hid hbw
    have hsz := hbw.size
    by_cases hlt : k < L.length
    · obtain ⟨x, hx⟩ : ∃ x, L[k]? = some x := ⟨L[k], List.getElem?_eq_getElem hlt⟩
      have rw_ : ReadsM wr (fun _ => True) A L := RR.out.below (by omega) hbw
      obtain ⟨p, o, rfl, -, d0, d1, d2⟩ := rw_.at_ k x hx
      have HF := Lib.hid hf
      have HX := Lib.hid hx
      have RW := Lib.hid rw_
      clear bx0 bx1 hown hbw rw_ hf hx
      have hge0 : (0 : Int) ≤ (k : Int) := by omega
      have hltI : (k : Int) < (L.length : Int) := by omega
      cases done with
      | true =>
        simp only [Bool.toNat_true] at hol
        cases hne : (x.n != mn) with
        | true =>
          have HS := Lib.hid (fold_one ⟨mn, ms, mi⟩ L k x HX.out HF.out (setStep_ta (m := ⟨mn, ms, mi⟩) out hne))
          go_wp2
          go_quiet (fail)
          go_wp2
          go_quiet (fail)
          go_wp2_with (at_builtin; (refine app_row W.heap.size rfl (.tmp 41) (.tmp 47) 36 25 _ 3 16 rfl Try.underlying36 member_info rfl (by omega) _ _ _ _ rfl _ rfl (by simp) (by simp [Value.oneCell']) rfl HO.out hsz (by first | omega | (simp; omega)) (by first | omega | (simp; omega)) ?_); intro v2 w2 ho2 hg2 hat; have HO2 := Lib.hid (set_own ho2 rfl rfl); have HG2 := Lib.hid hg2; clear ho2 hg2 hat)
          go_roundw
          case rel => exact ⟨k + 1, _, _, by omega, by go_num, rfl, HS.out, by simp; omega, HO2.out, (below_drewN HBW.out _).grown HG2.out hsz (own_base HO.out)⟩
          case measure => simp [intOf]; omega
        | false =>
          have HS := Lib.hid (fold_one ⟨mn, ms, mi⟩ L k x HX.out HF.out (setStep_tb (m := ⟨mn, ms, mi⟩) out hne))
          go_wp2
          go_quiet (fail)
          go_wp2
          go_quiet (fail)
          go_wp2
          go_roundw
          case rel => exact ⟨k + 1, _, _, by omega, by go_num, rfl, HS.out, by simp; omega, HO.out, below_drewN HBW.out _⟩
          case measure => simp [intOf]; omega
      | false =>
        simp only [Bool.toNat_false] at hol
        by_cases hge : mn ≤ x.n
        · cases hne : (x.n != mn) with
          | true =>
            have HS := Lib.hid (fold_one ⟨mn, ms, mi⟩ L k x HX.out HF.out (setStep_fa (m := ⟨mn, ms, mi⟩) out hne hge))
            go_wp2
            go_quiet (fail)
            go_wp2_with (at_builtin; (refine app_row W.heap.size rfl (.tmp 28) (.tmp 30) 36 25 _ 3 16 rfl Try.underlying36 member_info rfl (by omega) _ _ _ _ rfl _ rfl (by simp) (by simp [Value.oneCell']) rfl HO.out hsz (by first | omega | (simp; omega)) (by first | omega | (simp; omega)) ?_); intro v2 w2 ho2 hg2 hat; have HO2 := Lib.hid (set_own (x := ⟨mn, ms, mi⟩) ho2 rfl rfl); have HG2 := Lib.hid hg2; clear ho2 hg2 hat)
            have K2 := Lib.hid ((below_drewN HBW.out _).grown HG2.out hsz (own_base HO.out))
            have hsz := K2.out.size
            have bx0 := B0.out.below K2.out B0.out.lt
            have bx1 := B1.out.below K2.out B1.out.lt
            have e0 := bx0.cell 0
            have e1 := bx0.cell 1
            have s0 := bx1.cell 0
            have s1 := bx1.cell 1
            have s2 := bx1.cell 2
            simp only [List.getElem?_toArray, List.getElem?_cons_zero, List.getElem?_cons_succ] at e0 e1 s0 s1 s2
            obtain ⟨-, d0, d1, d2⟩ := ReadsM.cellz (RR.out.below (by omega) K2.out) HX.out
            obtain ⟨A2, c2, rfl⟩ := own_slice HO2.out
            clear bx0 bx1
            go_wp2
            go_quiet (fail)
            go_wp2_with (at_builtin; (refine app_row W.heap.size rfl (.tmp 41) (.tmp 47) 36 25 _ 3 16 rfl Try.underlying36 member_info rfl (by omega) _ _ _ _ rfl _ rfl (by simp) (by simp [Value.oneCell']) rfl HO2.out hsz (by first | omega | (simp; omega)) (by first | omega | (simp; omega)) ?_); intro v3 w3 ho3 hg3 hat; have HO3 := Lib.hid (set_own ho3 rfl rfl); have HG3 := Lib.hid hg3; clear ho3 hg3 hat)
            go_roundw
            case rel => exact ⟨k + 1, _, _, by omega, by go_num, rfl, HS.out, by simp; omega, HO3.out, (below_drewN K2.out _).grown HG3.out hsz (own_base HO2.out)⟩
            case measure => simp [intOf]; omega
          | false =>
            have HS := Lib.hid (fold_one ⟨mn, ms, mi⟩ L k x HX.out HF.out (setStep_fb (m := ⟨mn, ms, mi⟩) out hne hge))
            go_wp2
            go_quiet (fail)
            go_wp2_with (at_builtin; (refine app_row W.heap.size rfl (.tmp 28) (.tmp 30) 36 25 _ 3 16 rfl Try.underlying36 member_info rfl (by omega) _ _ _ _ rfl _ rfl (by simp) (by simp [Value.oneCell']) rfl HO.out hsz (by first | omega | (simp; omega)) (by first | omega | (simp; omega)) ?_); intro v2 w2 ho2 hg2 hat; have HO2 := Lib.hid (set_own (x := ⟨mn, ms, mi⟩) ho2 rfl rfl); have HG2 := Lib.hid hg2; clear ho2 hg2 hat)
            have K2 := Lib.hid ((below_drewN HBW.out _).grown HG2.out hsz (own_base HO.out))
            have hsz := K2.out.size
            have bx0 := B0.out.below K2.out B0.out.lt
            have bx1 := B1.out.below K2.out B1.out.lt
            have e0 := bx0.cell 0
            have e1 := bx0.cell 1
            have s0 := bx1.cell 0
            have s1 := bx1.cell 1
            have s2 := bx1.cell 2
            simp only [List.getElem?_toArray, List.getElem?_cons_zero, List.getElem?_cons_succ] at e0 e1 s0 s1 s2
            obtain ⟨-, d0, d1, d2⟩ := ReadsM.cellz (RR.out.below (by omega) K2.out) HX.out
            obtain ⟨A2, c2, rfl⟩ := own_slice HO2.out
            clear bx0 bx1
            go_wp2
            go_quiet (fail)
            go_wp2
            go_roundw
            case rel => exact ⟨k + 1, _, _, by omega, by go_num, rfl, HS.out, by simp; omega, HO2.out, below_drewN K2.out _⟩
            case measure => simp [intOf]; omega
        · have hne : (x.n != mn) = true := by simp; omega
          have HS := Lib.hid (fold_one ⟨mn, ms, mi⟩ L k x HX.out HF.out (setStep_fc (m := ⟨mn, ms, mi⟩) out hne hge))
          go_wp2
          go_quiet (fail)
          go_wp2
          go_quiet (fail)
          go_wp2_with (at_builtin; (refine app_row W.heap.size rfl (.tmp 41) (.tmp 47) 36 25 _ 3 16 rfl Try.underlying36 member_info rfl (by omega) _ _ _ _ rfl _ rfl (by simp) (by simp [Value.oneCell']) rfl HO.out hsz (by first | omega | (simp; omega)) (by first | omega | (simp; omega)) ?_); intro v2 w2 ho2 hg2 hat; have HO2 := Lib.hid (set_own ho2 rfl rfl); have HG2 := Lib.hid hg2; clear ho2 hg2 hat)
          go_roundw
          case rel => exact ⟨k + 1, _, _, by omega, by go_num, rfl, HS.out, by simp; omega, HO2.out, (below_drewN HBW.out _).grown HG2.out hsz (own_base HO.out)⟩
          case measure => simp [intOf]; omega
    · obtain rfl : k = L.length := by omega
      rw [List.take_length] at hf
      have HS := Lib.hid hf
      clear bx0 bx1 hown hbw hf
      have bx2 := B2.out.below HBW.out B2.out.lt
      have b20 := bx2.cell 0
      have b21 := bx2.cell 1
      have bf2 := bx2.frozen
      simp only [List.getElem?_toArray, List.getElem?_cons_zero, List.getElem?_cons_succ] at b20 b21
      have BX2 := Lib.hid bx2
      clear bx2
      cases done with
      | true =>
        go_wp2
        have bz := Blk.mem2 BX2.out (.int .u16 z) (.slice A1 out.length c1)
        have g0 := bz.cell 0
        have g1 := bz.cell 1
        simp only [List.getElem?_toArray, List.getElem?_cons_zero, List.getElem?_cons_succ] at g0 g1
        refine bodyPost_ret (v := .agg #[.int .u16 z, .slice A1 out.length c1]) (by simp [results, Try.results46, go_sem, g0, g1]) rfl ⟨_, rfl, ?_, ?_⟩
        · rw [setL_fold HS.out, HW.out]
          exact own_lower (own_two HO.out (by omega)) (by omega)
        · rw [HW.out]
          exact ((below_then HB.out (by omega) HBW.out).setCell (p := ⟨b0 + 1 + 1, 0, none⟩) (by simp; omega) _).setCell (p := ⟨b0 + 1 + 1, 1, none⟩) (by simp; omega) _
      | false =>
        simp only [Bool.toNat_false] at hol
        clear b20 b21 bf2 BX2
        go_wp2_with (at_builtin; (refine app_row W.heap.size rfl (.tmp 51) (.tmp 53) 36 25 _ 3 16 rfl Try.underlying36 member_info rfl (by omega) _ _ _ _ rfl _ rfl (by simp) (by simp [Value.oneCell']) rfl HO.out hsz (by first | omega | (simp; omega)) (by first | omega | (simp; omega)) ?_); intro v3 w3 ho3 hg3 hat; obtain ⟨A3, c3, rfl⟩ := own_slice ho3; have HO3 := Lib.hid (set_own (x := ⟨mn, ms, mi⟩) ho3 rfl rfl); have HG3 := Lib.hid hg3; clear ho3 hg3 hat; have K3 := Lib.hid (HBW.out.grown HG3.out hsz (own_base HO.out)); have bx2 := B2.out.below K3.out B2.out.lt; have bz0 := (B0.out.below K3.out B0.out.lt).cell 0; have b20 := bx2.cell 0; have b21 := bx2.cell 1; have bf2 := bx2.frozen; simp only [List.getElem?_toArray, List.getElem?_cons_zero, List.getElem?_cons_succ] at b20 b21 bz0; have BX2 := Lib.hid bx2; clear bx2)
        have bz := Blk.mem2 BX2.out (.int .u16 z) (.slice A3 (out.length + 1) c3)
        have g0 := bz.cell 0
        have g1 := bz.cell 1
        simp only [List.getElem?_toArray, List.getElem?_cons_zero, List.getElem?_cons_succ] at g0 g1
        refine bodyPost_ret (v := .agg #[.int .u16 z, .slice A3 (out.length + 1) c3]) (by simp [results, Try.results46, go_sem, g0, g1]) rfl ⟨_, rfl, ?_, ?_⟩
        · rw [setL_fold HS.out, HW.out]
          exact own_lower (own_two HO3.out (by omega)) (by omega)
        · rw [HW.out]
          exact ((below_then HB.out (by omega) K3.out).setCell (p := ⟨b0 + 1 + 1, 0, none⟩) (by simp; omega) _).setCell (p := ⟨b0 + 1 + 1, 1, none⟩) (by simp; omega) _

end Go.Proofs.Ytnlpgjdgiappcaa
