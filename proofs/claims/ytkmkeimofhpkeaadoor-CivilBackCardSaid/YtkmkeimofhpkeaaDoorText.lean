/- WALKS: civil's and the document's Text. -/
import Derived.Test.YtkmkeimofhpkeaaDoorDig
namespace Go.Proofs.YtkmkeimofhpkeaaDoor
set_option linter.unusedVariables false
set_option linter.unusedSimpArgs false
open Go.RowKit

def textS (y m d mi s : Nat) : List UInt8 := digs 4 y ++ [45] ++ digs 2 m ++ [45] ++ digs 2 d ++ [84] ++ digs 2 (mi / 60) ++ [58] ++ digs 2 (mi % 60) ++ [58] ++ digs 2 s
def textVal (y m d mi s : Int) : Value := if secOk y m d mi s then .string ⟨(textS y.toNat m.toNat d.toNat mi.toNat s.toNat).toArray⟩ else .string ⟨#[]⟩

theorem cellk_alloc {w : World} {a : Addr} {v : Value} (h : w.cell? a = some v) (o : Obj) : (w.alloc o).cell? a = some v := (World.cell?_alloc_lt w o a (World.block_lt_of_cell? w a h)).trans h
theorem cellk_drew {w : World} {a : Addr} {v : Value} (h : w.cell? a = some v) : w.drew.cell? a = some v := h
theorem cellk_grown {w w' : World} {b i : Nat} {v : Value} {row : Option Nat} (h : w.cell? ⟨b, i, none⟩ = some v) (hg : w.grownBy w' row) (hr : ∀ k, row = some k → b < k) : w'.cell? ⟨b, i, none⟩ = some v :=
  (World.cell?_of_block (a := ⟨b, i, none⟩) (hg.block b (World.block_lt_of_cell? w _ h) (fun e => by have := hr b e.symm; omega))).trans h
theorem one_news {W : World} {v : Value} (H : Nat) (hH : W.heap.size = H) : ∀ (j : Nat) (u : Value), [v][j]? = some u → (W.alloc (.cells #[v] 5)).drew.cell? ((⟨H, 0, none⟩ : Addr).add j) = some u := by
  subst hH
  intro j u hu
  rcases j with _ | j
  · simp at hu; subst hu
    rw [Addr.add_mid]
    exact (Blk.new W 5 #[v]).cell 0
  · simp at hu

theorem wrap_small (n : Nat) (h : n < 100) : IntKind.i64.wrap (n : Int) = (n : Int) := by
  simp only [IntKind.wrap, IntKind.signed, IntKind.bits]
  simp
  omega
theorem bc_one {w : World} {base n : Nat} {v : Value} {l : List UInt8} {b : UInt8} {k : Int} (h : w.ownsRow base 5 1 v n (bcells l ++ [.int .u8 k])) (hk : k = (b.toNat : Int) := by rfl) : w.ownsRow base 5 1 v n (bcells (l ++ [b])) := by
  rw [bcells_append]
  subst hk
  exact h

set_option maxRecDepth 100000 in
set_option maxHeartbeats 4000000 in
theorem text_any (y m d k mi s : Int) (w : World) (hA : AH w) : Calls Tryd.prog 25 #[tagg y m d k mi s] w fun e w' => e = .returned (textVal y m d mi s) ∧ Below w.heap.size w w' := by
  unfold tagg
  have hB := Blk.new w 34 #[.int .i64 y, .int .i64 m, .int .i64 d, .int .i64 k, .int .i64 mi, .int .i64 s]
  have hK : Below w.heap.size w (w.alloc (.cells #[.int .i64 y, .int .i64 m, .int .i64 d, .int .i64 k, .int .i64 mi, .int .i64 s] 34)) := (Below.refl _ _).alloc (Nat.le_refl _) _
  have hA1 := hA.below hK
  have hl : w.heap.size < (w.alloc (.cells #[.int .i64 y, .int .i64 m, .int .i64 d, .int .i64 k, .int .i64 mi, .int .i64 s] 34)).heap.size := by simp
  go_enter Tryd.func25, Tryd.ntmps25
  go_upto_region 1 with fail
  generalize w.alloc (.cells #[.int .i64 y, .int .i64 m, .int .i64 d, .int .i64 k, .int .i64 mi, .int .i64 s] 34) = W at *
  have B := Lib.hid hB
  have K := Lib.hid hK
  have AA := Lib.hid hA1
  clear hA hA1 hB hK
  have q0 := B.out.cell 0
  have q1 := B.out.cell 1
  have q2 := B.out.cell 2
  have q3 := B.out.cell 3
  have q4 := B.out.cell 4
  have q5 := B.out.cell 5
  simp only [List.getElem?_toArray, List.getElem?_cons_zero, List.getElem?_cons_succ] at q0 q1 q2 q3 q4 q5
  go_wp2_with fail
  refine (secs_any y m d k mi s 0 _ AA.out).mono ?_
  by_cases hok : secOk y m d mi s
  · rw [show secVal y m d mi s 0 = .tuple #[.int .i64 (86400 * Cv.num y m d + 60 * mi + s - 60 * 0), .int .i64 0] by rw [secVal, if_neg (by omega), if_pos hok]]
    generalize 86400 * Cv.num y m d + 60 * mi + s - 60 * 0 = nn
    have htv : textVal y m d mi s = .string ⟨(textS y.toNat m.toNat d.toNat mi.toNat s.toNat).toArray⟩ := by rw [textVal, if_pos hok]
    obtain ⟨v1, v2, v3, v4, v5, v6⟩ := Cv.val_range hok.1
    obtain ⟨-, o1, o2, o3, o4⟩ := hok
    obtain ⟨Y, rfl⟩ : ∃ n : Nat, y = n := ⟨y.toNat, by omega⟩
    obtain ⟨M, rfl⟩ : ∃ n : Nat, m = n := ⟨m.toNat, by omega⟩
    obtain ⟨D, rfl⟩ : ∃ n : Nat, d = n := ⟨d.toNat, by omega⟩
    obtain ⟨T, rfl⟩ : ∃ n : Nat, mi = n := ⟨mi.toNat, by omega⟩
    obtain ⟨S, rfl⟩ : ∃ n : Nat, s = n := ⟨s.toNat, by omega⟩
    simp only [Int.toNat_natCast] at htv
    obtain ⟨P6, hP6, eP6⟩ : ∃ P6 : Nat, (T : Int) / 60 = (P6 : Int) ∧ T / 60 = P6 := ⟨T / 60, by omega, rfl⟩
    obtain ⟨R6, hR6, eR6⟩ : ∃ R6 : Nat, (T : Int) % 60 = (R6 : Int) ∧ T % 60 = R6 := ⟨T % 60, by omega, rfl⟩
    simp only [textS, eP6, eR6] at htv
    have hP100 : P6 < 100 := by omega
    have hR100 : R6 < 100 := by omega
    have hwP := wrap_small P6 hP100
    have htm : (T : Int).tmod 60 = (R6 : Int) := by rw [Int.tmod_eq_emod_of_nonneg (by omega)]; exact hR6
    have htd : (T : Int).tdiv 60 = (P6 : Int) := by rw [Int.tdiv_eq_ediv_of_nonneg (by omega)]; exact hP6
    have hwR := wrap_small R6 hR100
    have hSD : S < 100 ∧ M < 100 ∧ D < 100 := ⟨by omega, by omega, by omega⟩
    obtain ⟨hS1, hM1, hD1⟩ := hSD
    clear eP6 eR6
    have TV := Lib.hid htv
    rintro e w1 ⟨rfl, hb⟩
    have B1 := Lib.hid (B.out.below hb hl)
    have K1 := Lib.hid (below_then K.out K.out.size hb)
    have l1 : w.heap.size < w1.heap.size := Nat.lt_of_lt_of_le hl hb.size
    clear hb B K AA q0 q1 q2 q3 q4 q5 htv
    have q0 := B1.out.cell 0
    have q1 := B1.out.cell 1
    have q2 := B1.out.cell 2
    have q4 := B1.out.cell 4
    have q5 := B1.out.cell 5
    simp only [List.getElem?_toArray, List.getElem?_cons_zero, List.getElem?_cons_succ] at q0 q1 q2 q4 q5
    obtain ⟨bs, hbs⟩ : ∃ bs, w1.heap.size = bs := ⟨_, rfl⟩
    have lbs : w.heap.size < bs := by omega
    go_wp2_with fail
    refine (digits_any bs none 0 0 Y 4 [] _ (.inr rfl) (by omega) (by omega) (by simpa [bcells] using own_nil w1 bs 5 1) (by omega)).mono ?_
    rintro e w2 ⟨g2, c2, rfl, ho2, hb2⟩
    rw [List.nil_append] at ho2
    simp only [Nat.zero_add] at ho2 ⊢
    have B2 := Lib.hid (B1.out.below hb2 lbs)
    have K2 := Lib.hid (below_then K1.out (by omega) (hbs ▸ hb2))
    have O2 := Lib.hid ho2
    have l2 := hb2.size
    have lb2 : bs ≤ w2.heap.size := by omega
    clear hb2 ho2 B1 K1 q0 q1 q2 q4 q5
    obtain ⟨i0, hi, hzz⟩ := Option.map_eq_some_iff.1 u8_info
    simp only [Prod.mk.injEq] at hzz
    obtain ⟨hz0, hz1, hz2⟩ := hzz
    have HI := Lib.hid hi
    have HZ := Lib.hid (⟨hz0, hz1, hz2⟩ : i0.zero = some (.int .u8 0) ∧ i0.size = 1 ∧ i0.bytes = 1)
    clear hi hz0 hz1 hz2
    obtain ⟨i0, hi, hzz⟩ := Option.map_eq_some_iff.1 u8_info
    simp only [Prod.mk.injEq] at hzz
    obtain ⟨hz0, hz1, hz2⟩ := hzz
    have HI := Lib.hid hi
    have HZ := Lib.hid (⟨hz0, hz1, hz2⟩ : i0.zero = some (.int .u8 0) ∧ i0.size = 1 ∧ i0.bytes = 1)
    clear hi hz0 hz1 hz2
    go_upto_region 5 with fail
    have q := B2.out.cell 1
    simp only [List.getElem?_toArray, List.getElem?_cons_zero, List.getElem?_cons_succ] at q
    have HN := Lib.hid (one_news (v := .int .u8 45) (W := w2) _ rfl)
    have L5 := lb2
    go_cut [5] from 16 (fun s5 wx => ∃ g c, s5 = .slice (some ⟨g, 0, none⟩) 7 c ∧ Go.RowKit.Hid (wx.ownsRow bs 5 1 (.slice (some ⟨g, 0, none⟩) 7 c) 7 (bcells (digs 4 Y ++ [45] ++ digs 2 (M)))) ∧ Go.RowKit.Hid (Below bs w2 wx))
    case first =>
      go_region_held3 (fun X => X.cell? ⟨w.heap.size, 1, none⟩ = some (.int .i64 (M : Int))) (first | assumption | exact cellk_alloc (by assumption) _ | exact cellk_drew (by assumption))
        (first
          | (refine step_append_lies _ rfl (.tmp 16) (.tmp 17) 55 rfl bs 5 i0 (.int .u8 0) 1 1 Tryd.underlying55 HI.out HZ.out.1 HZ.out.2.1 HZ.out.2.2 rfl (by omega) _ _ _ rfl (World.ownsRow.drew (O2.out.alloc _)) ⟨w2.heap.size, 0, none⟩ 1 1 [.int .u8 45] rfl rfl HN.out ?_ (by omega) ?_ ?_ ?_ _ rfl ?_
             · simp [Value.oneCell']
             · simp only [maxLen]; omega
             · omega
             · exact Nat.le_trans L5 (by simp)
             intro ga ca wa hoa hga hata hlta
             have Sa : wa.cell? ⟨w.heap.size, 1, none⟩ = some (.int .i64 (M : Int)) := cellk_grown (by assumption) hga (fun k e => by have := own_base O2.out k e; omega)
             have Ka : Below bs w2 wa := ((Below.refl bs w2).alloc L5 _).drew.trans (below_of_grown (Nat.le_trans L5 (by simp)) hga (own_base O2.out))
             have KA := Lib.hid Ka
             have OA := Lib.hid (bc_one hoa : wa.ownsRow bs 5 1 (.slice (some ⟨ga, 0, none⟩) (4 + 1) ca) (4 + 1) (bcells (digs 4 Y ++ [45])))
             clear hoa hga hata Ka)
          | (go_at_call 34; refine (digits_any bs (some ⟨ga, 0, none⟩) ca (4 + 1) (M) 2 (digs 4 Y ++ [45]) _ (.inl rfl) ?_ ?_ ?_ ?_).mono ?_
             · omega
             · omega
             · exact OA.out
             · exact Nat.le_trans L5 KA.out.size
             rintro e wb ⟨gb, cb, rfl, hob, hbb⟩
             have Sb : wb.cell? ⟨w.heap.size, 1, none⟩ = some (.int .i64 (M : Int)) := (hbb.cell (p := ⟨w.heap.size, 1, none⟩) lbs).trans (by assumption)
             have KB := Lib.hid (KA.out.trans hbb)
             have OB := Lib.hid hob
             clear hob hbb))
      all_goals
        go_wp2
        go_meet
        case rel => exact ⟨gb, cb, rfl, OB, KB⟩
    case rest =>
    obtain ⟨g5, c5, rfl, O5, k5⟩ := hcut
    have K5 := Lib.hid (K2.out.trans (k5.out.mono (Nat.le_of_lt lbs)))
    have B5 := Lib.hid (B2.out.below k5.out lbs)
    have lb5 : bs ≤ wc.heap.size := Nat.le_trans L5 k5.out.size
    obtain ⟨w5, hw5⟩ : ∃ X, X = wc := ⟨_, rfl⟩
    subst hw5
    clear q HN O2 K2 B2
    go_upto_region 6 with fail
    have q := B5.out.cell 2
    simp only [List.getElem?_toArray, List.getElem?_cons_zero, List.getElem?_cons_succ] at q
    have HN := Lib.hid (one_news (v := .int .u8 45) (W := w5) _ rfl)
    have L6 := lb5
    go_cut [5] from 22 (fun s5 wx => ∃ g c, s5 = .slice (some ⟨g, 0, none⟩) 10 c ∧ Go.RowKit.Hid (wx.ownsRow bs 5 1 (.slice (some ⟨g, 0, none⟩) 10 c) 10 (bcells (digs 4 Y ++ [45] ++ digs 2 (M) ++ [45] ++ digs 2 (D)))) ∧ Go.RowKit.Hid (Below bs w5 wx))
    case first =>
      go_region_held3 (fun X => X.cell? ⟨w.heap.size, 2, none⟩ = some (.int .i64 (D : Int))) (first | assumption | exact cellk_alloc (by assumption) _ | exact cellk_drew (by assumption))
        (first
          | (refine step_append_lies _ rfl (.tmp 22) (.tmp 23) 55 rfl bs 5 i0 (.int .u8 0) 1 1 Tryd.underlying55 HI.out HZ.out.1 HZ.out.2.1 HZ.out.2.2 rfl (by omega) _ _ _ rfl (World.ownsRow.drew (O5.out.alloc _)) ⟨w5.heap.size, 0, none⟩ 1 1 [.int .u8 45] rfl rfl HN.out ?_ (by omega) ?_ ?_ ?_ _ rfl ?_
             · simp [Value.oneCell']
             · simp only [maxLen]; omega
             · omega
             · exact Nat.le_trans L6 (by simp)
             intro ga ca wa hoa hga hata hlta
             have Sa : wa.cell? ⟨w.heap.size, 2, none⟩ = some (.int .i64 (D : Int)) := cellk_grown (by assumption) hga (fun k e => by have := own_base O5.out k e; omega)
             have Ka : Below bs w5 wa := ((Below.refl bs w5).alloc L6 _).drew.trans (below_of_grown (Nat.le_trans L6 (by simp)) hga (own_base O5.out))
             have KA := Lib.hid Ka
             have OA := Lib.hid (bc_one hoa : wa.ownsRow bs 5 1 (.slice (some ⟨ga, 0, none⟩) (7 + 1) ca) (7 + 1) (bcells (digs 4 Y ++ [45] ++ digs 2 (M) ++ [45])))
             clear hoa hga hata Ka)
          | (go_at_call 34; refine (digits_any bs (some ⟨ga, 0, none⟩) ca (7 + 1) (D) 2 (digs 4 Y ++ [45] ++ digs 2 (M) ++ [45]) _ (.inl rfl) ?_ ?_ ?_ ?_).mono ?_
             · omega
             · omega
             · exact OA.out
             · exact Nat.le_trans L6 KA.out.size
             rintro e wb ⟨gb, cb, rfl, hob, hbb⟩
             have Sb : wb.cell? ⟨w.heap.size, 2, none⟩ = some (.int .i64 (D : Int)) := (hbb.cell (p := ⟨w.heap.size, 2, none⟩) lbs).trans (by assumption)
             have KB := Lib.hid (KA.out.trans hbb)
             have OB := Lib.hid hob
             clear hob hbb))
      all_goals
        go_wp2
        go_meet
        case rel => exact ⟨gb, cb, rfl, OB, KB⟩
    case rest =>
    obtain ⟨g6, c6, rfl, O6, k6⟩ := hcut
    have K6 := Lib.hid (K5.out.trans (k6.out.mono (Nat.le_of_lt lbs)))
    have B6 := Lib.hid (B5.out.below k6.out lbs)
    have lb6 : bs ≤ wc.heap.size := Nat.le_trans L6 k6.out.size
    obtain ⟨w6, hw6⟩ : ∃ X, X = wc := ⟨_, rfl⟩
    subst hw6
    clear q HN O5 K5 B5
    go_upto_region 7 with fail
    have q := B6.out.cell 4
    simp only [List.getElem?_toArray, List.getElem?_cons_zero, List.getElem?_cons_succ] at q
    have HN := Lib.hid (one_news (v := .int .u8 84) (W := w6) _ rfl)
    have L7 := lb6
    go_cut [5] from 28 (fun s5 wx => ∃ g c, s5 = .slice (some ⟨g, 0, none⟩) 13 c ∧ Go.RowKit.Hid (wx.ownsRow bs 5 1 (.slice (some ⟨g, 0, none⟩) 13 c) 13 (bcells (digs 4 Y ++ [45] ++ digs 2 (M) ++ [45] ++ digs 2 (D) ++ [84] ++ digs 2 (P6)))) ∧ Go.RowKit.Hid (Below bs w6 wx))
    case first =>
      go_region_held3 (fun X => X.cell? ⟨w.heap.size, 4, none⟩ = some (.int .i64 (T : Int))) (first | assumption | exact cellk_alloc (by assumption) _ | exact cellk_drew (by assumption))
        (first
          | (refine step_append_lies _ rfl (.tmp 28) (.tmp 29) 55 rfl bs 5 i0 (.int .u8 0) 1 1 Tryd.underlying55 HI.out HZ.out.1 HZ.out.2.1 HZ.out.2.2 rfl (by omega) _ _ _ rfl (World.ownsRow.drew (O6.out.alloc _)) ⟨w6.heap.size, 0, none⟩ 1 1 [.int .u8 84] rfl rfl HN.out ?_ (by omega) ?_ ?_ ?_ _ rfl ?_
             · simp [Value.oneCell']
             · simp only [maxLen]; omega
             · omega
             · exact Nat.le_trans L7 (by simp)
             intro ga ca wa hoa hga hata hlta
             have Sa : wa.cell? ⟨w.heap.size, 4, none⟩ = some (.int .i64 (T : Int)) := cellk_grown (by assumption) hga (fun k e => by have := own_base O6.out k e; omega)
             have Ka : Below bs w6 wa := ((Below.refl bs w6).alloc L7 _).drew.trans (below_of_grown (Nat.le_trans L7 (by simp)) hga (own_base O6.out))
             have KA := Lib.hid Ka
             have OA := Lib.hid (bc_one hoa : wa.ownsRow bs 5 1 (.slice (some ⟨ga, 0, none⟩) (10 + 1) ca) (10 + 1) (bcells (digs 4 Y ++ [45] ++ digs 2 (M) ++ [45] ++ digs 2 (D) ++ [84])))
             clear hoa hga hata Ka)
          | (go_at_call 34; refine (digits_any bs (some ⟨ga, 0, none⟩) ca (10 + 1) (P6) 2 (digs 4 Y ++ [45] ++ digs 2 (M) ++ [45] ++ digs 2 (D) ++ [84]) _ (.inl rfl) ?_ ?_ ?_ ?_).mono ?_
             · omega
             · omega
             · exact OA.out
             · exact Nat.le_trans L7 KA.out.size
             rintro e wb ⟨gb, cb, rfl, hob, hbb⟩
             have Sb : wb.cell? ⟨w.heap.size, 4, none⟩ = some (.int .i64 (T : Int)) := (hbb.cell (p := ⟨w.heap.size, 4, none⟩) lbs).trans (by assumption)
             have KB := Lib.hid (KA.out.trans hbb)
             have OB := Lib.hid hob
             clear hob hbb))
      all_goals
        go_wp2
        go_meet
        case rel => exact ⟨gb, cb, rfl, OB, KB⟩
    case rest =>
    obtain ⟨g7, c7, rfl, O7, k7⟩ := hcut
    have K7 := Lib.hid (K6.out.trans (k7.out.mono (Nat.le_of_lt lbs)))
    have B7 := Lib.hid (B6.out.below k7.out lbs)
    have lb7 : bs ≤ wc.heap.size := Nat.le_trans L7 k7.out.size
    obtain ⟨w7, hw7⟩ : ∃ X, X = wc := ⟨_, rfl⟩
    subst hw7
    clear q HN O6 K6 B6
    go_upto_region 8 with fail
    have q := B7.out.cell 4
    simp only [List.getElem?_toArray, List.getElem?_cons_zero, List.getElem?_cons_succ] at q
    have HN := Lib.hid (one_news (v := .int .u8 58) (W := w7) _ rfl)
    have L8 := lb7
    go_cut [5] from 35 (fun s5 wx => ∃ g c, s5 = .slice (some ⟨g, 0, none⟩) 16 c ∧ Go.RowKit.Hid (wx.ownsRow bs 5 1 (.slice (some ⟨g, 0, none⟩) 16 c) 16 (bcells (digs 4 Y ++ [45] ++ digs 2 (M) ++ [45] ++ digs 2 (D) ++ [84] ++ digs 2 (P6) ++ [58] ++ digs 2 (R6)))) ∧ Go.RowKit.Hid (Below bs w7 wx))
    case first =>
      go_region_held3 (fun X => X.cell? ⟨w.heap.size, 4, none⟩ = some (.int .i64 (T : Int))) (first | assumption | exact cellk_alloc (by assumption) _ | exact cellk_drew (by assumption))
        (first
          | (refine step_append_lies _ rfl (.tmp 35) (.tmp 36) 55 rfl bs 5 i0 (.int .u8 0) 1 1 Tryd.underlying55 HI.out HZ.out.1 HZ.out.2.1 HZ.out.2.2 rfl (by omega) _ _ _ rfl (World.ownsRow.drew (O7.out.alloc _)) ⟨w7.heap.size, 0, none⟩ 1 1 [.int .u8 58] rfl rfl HN.out ?_ (by omega) ?_ ?_ ?_ _ rfl ?_
             · simp [Value.oneCell']
             · simp only [maxLen]; omega
             · omega
             · exact Nat.le_trans L8 (by simp)
             intro ga ca wa hoa hga hata hlta
             have Sa : wa.cell? ⟨w.heap.size, 4, none⟩ = some (.int .i64 (T : Int)) := cellk_grown (by assumption) hga (fun k e => by have := own_base O7.out k e; omega)
             have Ka : Below bs w7 wa := ((Below.refl bs w7).alloc L8 _).drew.trans (below_of_grown (Nat.le_trans L8 (by simp)) hga (own_base O7.out))
             have KA := Lib.hid Ka
             have OA := Lib.hid (bc_one hoa : wa.ownsRow bs 5 1 (.slice (some ⟨ga, 0, none⟩) (13 + 1) ca) (13 + 1) (bcells (digs 4 Y ++ [45] ++ digs 2 (M) ++ [45] ++ digs 2 (D) ++ [84] ++ digs 2 (P6) ++ [58])))
             clear hoa hga hata Ka)
          | (go_at_call 34; refine (digits_any bs (some ⟨ga, 0, none⟩) ca (13 + 1) (R6) 2 (digs 4 Y ++ [45] ++ digs 2 (M) ++ [45] ++ digs 2 (D) ++ [84] ++ digs 2 (P6) ++ [58]) _ (.inl rfl) ?_ ?_ ?_ ?_).mono ?_
             · omega
             · omega
             · exact OA.out
             · exact Nat.le_trans L8 KA.out.size
             rintro e wb ⟨gb, cb, rfl, hob, hbb⟩
             have Sb : wb.cell? ⟨w.heap.size, 4, none⟩ = some (.int .i64 (T : Int)) := (hbb.cell (p := ⟨w.heap.size, 4, none⟩) lbs).trans (by assumption)
             have KB := Lib.hid (KA.out.trans hbb)
             have OB := Lib.hid hob
             clear hob hbb))
      all_goals
        go_wp2
        go_meet
        case rel => exact ⟨gb, cb, rfl, OB, KB⟩
    case rest =>
    obtain ⟨g8, c8, rfl, O8, k8⟩ := hcut
    have K8 := Lib.hid (K7.out.trans (k8.out.mono (Nat.le_of_lt lbs)))
    have B8 := Lib.hid (B7.out.below k8.out lbs)
    have lb8 : bs ≤ wc.heap.size := Nat.le_trans L8 k8.out.size
    obtain ⟨w8, hw8⟩ : ∃ X, X = wc := ⟨_, rfl⟩
    subst hw8
    clear q HN O7 K7 B7
    go_upto_region 9 with fail
    have q := B8.out.cell 5
    simp only [List.getElem?_toArray, List.getElem?_cons_zero, List.getElem?_cons_succ] at q
    have HN := Lib.hid (one_news (v := .int .u8 58) (W := w8) _ rfl)
    have L9 := lb8
    go_cut [5] from 42 (fun s5 wx => ∃ g c, s5 = .slice (some ⟨g, 0, none⟩) 19 c ∧ Go.RowKit.Hid (wx.ownsRow bs 5 1 (.slice (some ⟨g, 0, none⟩) 19 c) 19 (bcells (digs 4 Y ++ [45] ++ digs 2 (M) ++ [45] ++ digs 2 (D) ++ [84] ++ digs 2 (P6) ++ [58] ++ digs 2 (R6) ++ [58] ++ digs 2 (S)))) ∧ Go.RowKit.Hid (Below bs w8 wx))
    case first =>
      go_region_held3 (fun X => X.cell? ⟨w.heap.size, 5, none⟩ = some (.int .i64 (S : Int))) (first | assumption | exact cellk_alloc (by assumption) _ | exact cellk_drew (by assumption))
        (first
          | (refine step_append_lies _ rfl (.tmp 42) (.tmp 43) 55 rfl bs 5 i0 (.int .u8 0) 1 1 Tryd.underlying55 HI.out HZ.out.1 HZ.out.2.1 HZ.out.2.2 rfl (by omega) _ _ _ rfl (World.ownsRow.drew (O8.out.alloc _)) ⟨w8.heap.size, 0, none⟩ 1 1 [.int .u8 58] rfl rfl HN.out ?_ (by omega) ?_ ?_ ?_ _ rfl ?_
             · simp [Value.oneCell']
             · simp only [maxLen]; omega
             · omega
             · exact Nat.le_trans L9 (by simp)
             intro ga ca wa hoa hga hata hlta
             have Sa : wa.cell? ⟨w.heap.size, 5, none⟩ = some (.int .i64 (S : Int)) := cellk_grown (by assumption) hga (fun k e => by have := own_base O8.out k e; omega)
             have Ka : Below bs w8 wa := ((Below.refl bs w8).alloc L9 _).drew.trans (below_of_grown (Nat.le_trans L9 (by simp)) hga (own_base O8.out))
             have KA := Lib.hid Ka
             have OA := Lib.hid (bc_one hoa : wa.ownsRow bs 5 1 (.slice (some ⟨ga, 0, none⟩) (16 + 1) ca) (16 + 1) (bcells (digs 4 Y ++ [45] ++ digs 2 (M) ++ [45] ++ digs 2 (D) ++ [84] ++ digs 2 (P6) ++ [58] ++ digs 2 (R6) ++ [58])))
             clear hoa hga hata Ka)
          | (go_at_call 34; refine (digits_any bs (some ⟨ga, 0, none⟩) ca (16 + 1) (S) 2 (digs 4 Y ++ [45] ++ digs 2 (M) ++ [45] ++ digs 2 (D) ++ [84] ++ digs 2 (P6) ++ [58] ++ digs 2 (R6) ++ [58]) _ (.inl rfl) ?_ ?_ ?_ ?_).mono ?_
             · omega
             · omega
             · exact OA.out
             · exact Nat.le_trans L9 KA.out.size
             rintro e wb ⟨gb, cb, rfl, hob, hbb⟩
             have Sb : wb.cell? ⟨w.heap.size, 5, none⟩ = some (.int .i64 (S : Int)) := (hbb.cell (p := ⟨w.heap.size, 5, none⟩) lbs).trans (by assumption)
             have KB := Lib.hid (KA.out.trans hbb)
             have OB := Lib.hid hob
             clear hob hbb))
      all_goals
        go_wp2
        go_meet
        case rel => exact ⟨gb, cb, rfl, OB, KB⟩
    case rest =>
    obtain ⟨g9, c9, rfl, O9, k9⟩ := hcut
    have K9 := Lib.hid (K8.out.trans (k9.out.mono (Nat.le_of_lt lbs)))
    have B9 := Lib.hid (B8.out.below k9.out lbs)
    have lb9 : bs ≤ wc.heap.size := Nat.le_trans L9 k9.out.size
    obtain ⟨w9, hw9⟩ : ∃ X, X = wc := ⟨_, rfl⟩
    subst hw9
    clear q HN O8 K8 B8
    have hlen : (digs 4 Y ++ [45] ++ digs 2 (M) ++ [45] ++ digs 2 (D) ++ [84] ++ digs 2 (P6) ++ [58] ++ digs 2 (R6) ++ [58] ++ digs 2 (S)).length = 19 := by simp [digs_length]
    have hcv := run_convert_bytes_back (P := Tryd.prog) w9 55 9 5 ⟨g9, 0, none⟩ c9 (digs 4 Y ++ [45] ++ digs 2 (M) ++ [45] ++ digs 2 (D) ++ [84] ++ digs 2 (P6) ++ [58] ++ digs 2 (R6) ++ [58] ++ digs 2 (S)) Tryd.underlying55 Tryd.underlying5 Tryd.underlying9 (fun j hj => by
      rw [Addr.add_mid, Nat.zero_add, O9.out.cellAt j (by omega), bcells, List.getElem?_map, List.getElem?_eq_getElem hj]
      rfl)
    rw [hlen] at hcv
    go_wp2
    go_ret
    exact ⟨by rw [TV.out]; rfl, K9.out⟩
  · rw [show secVal y m d mi s 0 = .tuple #[.int .i64 0, .int .i64 13] by rw [secVal, if_neg (by omega), if_neg hok]]
    have htv : textVal y m d mi s = .string ⟨#[]⟩ := by rw [textVal, if_neg hok]
    have TV := Lib.hid htv
    rintro e w1 ⟨rfl, hb⟩
    have K1 := Lib.hid (below_then K.out K.out.size hb)
    clear hb B K AA q0 q1 q2 q3 q4 q5 htv
    go_wp2
    go_ret
    exact ⟨by rw [TV.out]; rfl, K1.out⟩

end Go.Proofs.YtkmkeimofhpkeaaDoor
