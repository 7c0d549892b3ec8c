/- WALKS: match.Read. -/
import Derived.Test.YtnidjfmbbfoheaaBkA
namespace Go.Proofs.Ytnidjfmbbfoheaa
set_option linter.unusedVariables false
set_option linter.unusedSimpArgs false
open Go.RowKit Go.BigFrame

def zeroM : Mt := ⟨[], [], 0⟩
def candB (s : List Nat) (n : Nat) (op : Int) : Mt := ⟨s.take n, cutB (signB op) (s.drop n), op⟩
def hitB (s : List Nat) (n : Nat) (op : Int) : Bool := preB (signB op) (s.drop n) && decide (checkB (candB s n op) = 0)
def readFrom (s : List Nat) (n : Nat) : List Int → Mt × Int
  | [] => (zeroM, 4)
  | op :: r => if hitB s n op = true then (candB s n op, 0) else readFrom s n r
def opsB : List Int := [2, 3, 1, 0]
def readB (s : List Nat) : Mt × Int := if firstB s < 0 then (zeroM, 4) else readFrom s (firstB s).toNat opsB
def resVal (p : Mt × Int) : Value := .tuple #[p.1.val, .int .i64 p.2]
theorem signB_lt (op : Int) : ∀ x ∈ signB op, x < 256 := by
  unfold signB
  repeat' split
  all_goals decide
theorem cutB_mem {g t : List Nat} : ∀ x ∈ cutB g t, x ∈ t := by
  intro x hx
  unfold cutB at hx
  split at hx
  · exact List.mem_of_mem_drop hx
  · exact hx
theorem cutB_len (g t : List Nat) : (cutB g t).length ≤ t.length := by
  unfold cutB
  split
  · rw [List.length_drop]; omega
  · exact Nat.le_refl _
theorem candB_ok {s : List Nat} (hs : ∀ x ∈ s, x < 256) (hl : s.length ≤ 9223372036854775807) (n : Nat) {op : Int} (h0 : 0 ≤ op) (h3 : op ≤ 3) : (candB s n op).Ok := by
  refine ⟨fun x hx => hs x (List.mem_of_mem_take hx), ?_, fun x hx => hs x (List.mem_of_mem_drop (cutB_mem x hx)), ?_, h0, by show op ≤ 255; omega⟩
  · show (s.take n).length ≤ _
    rw [List.length_take]; omega
  · show (cutB _ (s.drop n)).length ≤ _
    have := cutB_len (signB op) (s.drop n)
    rw [List.length_drop] at this
    omega
set_option maxRecDepth 100000 in
theorem read_none (s : List Nat) (hs : ∀ x ∈ s, x < 256) (h : firstB s < 0) (w : World) : Calls Try.prog 42 #[.string (bs s)] w fun e w' => e = .returned (resVal (zeroM, 4)) ∧ Below w.heap.size w w' := by
  have H1 := Lib.hid (fun w => index_any 61 (by decide) s w)
  have H2 := Lib.hid (fun w => index_any 33 (by decide) s w)
  have g1 := ixB_ge 61 s
  have g2 := ixB_ge 33 s
  unfold firstB at h
  generalize ixB 61 s = a at *
  generalize ixB 33 s = b at *
  have hb : ¬ 0 ≤ b := by intro hb; split at h <;> omega
  have ha : a < 0 := by split at h <;> omega
  clear h hs
  generalize bs s = t at *
  go_enter Try.func42, Try.ntmps42
  go_wp2_with fail
  refine (H1.out _).mono ?_
  rintro e w1 ⟨rfl, rfl⟩
  go_wp2_with fail
  refine (H2.out _).mono ?_
  rintro e w2 ⟨rfl, rfl⟩
  go_wp2
  have fb := Blk.new w 37 #[.string ⟨#[]⟩, .int .u8 0, .string ⟨#[]⟩]
  have s0 := fb.cell 0
  have s1 := fb.cell 1
  have s2 := fb.cell 2
  simp only [List.getElem?_toArray, List.getElem?_cons_zero, List.getElem?_cons_succ] at s0 s1 s2
  exact bodyPost_ret (v := .tuple #[.agg #[.string ⟨#[]⟩, .int .u8 0, .string ⟨#[]⟩], .int .i64 4]) (by simp [results, Try.results42, go_sem, s0, s1, s2]) rfl ⟨rfl, (Below.refl w.heap.size w).alloc (Nat.le_refl _) _⟩
theorem opsB_drop (i : Nat) (op : Int) (h : opsB[i]? = some op) : opsB.drop i = op :: opsB.drop (i + 1) := by
  have hi := (List.getElem?_eq_some_iff.1 h).1
  rw [List.drop_eq_getElem_cons hi]
  congr 1
  rw [List.getElem?_eq_getElem hi] at h
  exact Option.some.inj h
set_option maxRecDepth 100000 in
set_option maxHeartbeats 4000000 in
theorem read_some (s : List Nat) (hs : ∀ x ∈ s, x < 256) (hl : s.length ≤ 9223372036854775807) (n : Nat) (hn : firstB s = (n : Int)) (hnl : n < s.length) (w : World) : Calls Try.prog 42 #[.string (bs s)] w fun e w' => e = .returned (resVal (readFrom s n opsB)) ∧ Below w.heap.size w w' := by
  have H1 := Lib.hid (fun w => index_any 61 (by decide) s w)
  have H2 := Lib.hid (fun w => index_any 33 (by decide) s w)
  have HS := Lib.hid (fun (op : Int) (w : World) => sign_any op w)
  have HC := Lib.hid (fun (op : Int) (w : World) => cut_any (s.drop n) (signB op) (fun x hx => hs x (List.mem_of_mem_drop hx)) (signB_lt op) (by rw [List.length_drop]; omega) (by have := signB_len op; omega) w)
  have HK := Lib.hid (fun (op : Int) (h0 : 0 ≤ op) (h3 : op ≤ 3) (w : World) => check_any (candB s n op) (candB_ok hs hl n h0 h3) w)
  obtain ⟨a, ha⟩ : ∃ a, ixB 61 s = a := ⟨_, rfl⟩
  obtain ⟨b, hb⟩ : ∃ b, ixB 33 s = b := ⟨_, rfl⟩
  have g1 := ixB_ge 61 s
  have g2 := ixB_ge 33 s
  unfold firstB at hn
  rw [ha, hb] at hn
  rw [ha] at H1 g1
  rw [hb] at H2 g2
  clear ha hb
  have z1 := bs_size s
  have htk := bs_take s n (by omega)
  have hdr := bs_drop s n
  obtain ⟨tk, htk2⟩ : ∃ x, bs (s.take n) = x := ⟨_, rfl⟩
  obtain ⟨td, htd2⟩ : ∃ x, bs (s.drop n) = x := ⟨_, rfl⟩
  rw [htk2] at htk
  rw [htd2] at hdr
  have HTK := Lib.hid htk2
  have HTD := Lib.hid htd2
  clear hs htk2 htd2
  obtain ⟨L, hL⟩ : ∃ L, s.length = L := ⟨_, rfl⟩
  rw [hL] at hl hnl z1 hdr
  have hnI : (n : Int) ≤ (L : Int) := by omega
  generalize bs s = t at *
  have hcase : (¬ 0 ≤ b ∧ a = n) ∨ (0 ≤ b ∧ a < 0 ∧ b = n) ∨ (0 ≤ b ∧ ¬ a < 0 ∧ b < a ∧ b = n) ∨ (0 ≤ b ∧ ¬ a < 0 ∧ ¬ b < a ∧ a = n) := by
    by_cases h1 : 0 ≤ b
    · by_cases h2 : a < 0
      · rw [if_pos ⟨h1, .inl h2⟩] at hn; exact .inr (.inl ⟨h1, h2, hn⟩)
      · by_cases h3 : b < a
        · rw [if_pos ⟨h1, .inr h3⟩] at hn; exact .inr (.inr (.inl ⟨h1, h2, h3, hn⟩))
        · rw [if_neg (by omega)] at hn; exact .inr (.inr (.inr ⟨h1, h2, h3, hn⟩))
    · rw [if_neg (by omega)] at hn; exact .inl ⟨h1, hn⟩
  have hnn : ¬ (n : Int) < 0 := by omega
  have hn0 : (0 : Int) ≤ (n : Int) := by omega
  clear hn
  rcases hcase with ⟨hb0, rfl⟩ | ⟨hb0, ha0, rfl⟩ | ⟨hb0, ha0, hab, rfl⟩ | ⟨hb0, ha0, hab, rfl⟩
  all_goals
    go_enter Try.func42, Try.ntmps42
    go_wp2_with fail
    refine (H1.out _).mono ?_
    rintro e w1 ⟨rfl, rfl⟩
    go_wp2_with fail
    refine (H2.out _).mono ?_
    rintro e w2 ⟨rfl, rfl⟩
    have K0 := Lib.hid ((Below.refl w.heap.size w).alloc (Nat.le_refl _) (.cells #[.string ⟨#[]⟩, .int .u8 0, .string ⟨#[]⟩] 37))
    have B0 := Lib.hid (Blk.new w 37 #[.string ⟨#[]⟩, .int .u8 0, .string ⟨#[]⟩])
    go_wp2
    go_loopg [31] 4 (fun gg s31 wr => ∃ i : Nat, s31 = .int .i64 (i : Int) ∧ i ≤ 4 ∧ 4 - i ≤ gg ∧ Hid (readFrom s n opsB = readFrom s n (opsB.drop i)) ∧ Hid (Below w.heap.size w wr) ∧ Hid (Blk wr w.heap.size 37 #[.string ⟨#[]⟩, .int .u8 0, .string ⟨#[]⟩]))
    case atStart => exact ⟨0, by go_num, by omega, by omega, Lib.hid rfl, K0, B0⟩
    case round =>
      obtain ⟨i, rfl, hi, hgg, HJ, K1, B1⟩ := hrel
      by_cases hlt : i < 4
      · have hiI : (i : Int) < 4 := by omega
        have hi0 : (0 : Int) ≤ (i : Int) := by omega
        obtain ⟨op, hop, h0, h3, hidx⟩ : ∃ op : Int, opsB[i]? = some op ∧ 0 ≤ op ∧ op ≤ 3 ∧ ∀ w, (Instr.index 121 (.agg #[.int .u8 2, .int .u8 3, .int .u8 1, .int .u8 0]) (.int .i64 (i : Int))).run Try.prog w = .ok (.int .u8 op) w := by
          have : i = 0 ∨ i = 1 ∨ i = 2 ∨ i = 3 := by omega
          rcases this with rfl | rfl | rfl | rfl
          · exact ⟨2, rfl, by decide, by decide, fun w => by kernel_rfl⟩
          · exact ⟨3, rfl, by decide, by decide, fun w => by kernel_rfl⟩
          · exact ⟨1, rfl, by decide, by decide, fun w => by kernel_rfl⟩
          · exact ⟨0, rfl, by decide, by decide, fun w => by kernel_rfl⟩
        have hstep : readFrom s n opsB = if hitB s n op = true then (candB s n op, 0) else readFrom s n (opsB.drop (i + 1)) := by rw [HJ.out, opsB_drop i op hop]; rfl
        have hS := HS.out op
        have hC := HC.out op
        have hK := HK.out op h0 h3
        rw [HTD.out] at hC
        unfold cutVal at hC
        have hcv : (candB s n op).val = .agg #[.string tk, .int .u8 op, .string (bs (cutB (signB op) (s.drop n)))] := by rw [← HTK.out]; rfl
        have hres : hitB s n op = true → resVal (readFrom s n opsB) = .tuple #[.agg #[.string tk, .int .u8 op, .string (bs (cutB (signB op) (s.drop n)))], .int .i64 0] := fun hh => by rw [hstep, if_pos hh, ← hcv]; rfl
        have hnext : ¬ hitB s n op = true → readFrom s n opsB = readFrom s n (opsB.drop (i + 1)) := fun hh => by rw [hstep, if_neg hh]
        rw [hcv] at hK
        have hhit : hitB s n op = (preB (signB op) (s.drop n) && decide (checkB (candB s n op) = 0)) := rfl
        have GS := Lib.hid hS
        have GC := Lib.hid hC
        have GK := Lib.hid hK
        have GR := Lib.hid hres
        have GN := Lib.hid hnext
        clear hstep hS hC hK hcv hres hnext hop
        generalize hitB s n op = X at *
        generalize preB (signB op) (s.drop n) = P at *
        generalize checkB (candB s n op) = C at *
        generalize bs (signB op) = sg at *
        generalize bs (cutB (signB op) (s.drop n)) = cv at *
        cases P with
        | false =>
          have hX : X = false := by rw [hhit]; rfl
          subst hX
          clear hhit
          go_wp2
          go_quiet (first | (go_at_call 73; exact Calls.quiet_of_same (GS.out _)) | (go_at_call 72; exact Calls.quiet_of_same (GC.out _)))
          have K2 := Lib.hid (below_drewN K1.out nq)
          have B2 := Lib.hid (B1.out.drewN nq)
          clear K1 B1
          generalize wr.drewN nq = w5 at *
          have K3 := Lib.hid (K2.out.alloc K2.out.size (.cells #[.string tk, .int .u8 op, .string cv] 37))
          have B3 := Lib.hid (B2.out.alloc (.cells #[.string tk, .int .u8 op, .string cv] 37))
          go_wp2
          go_roundg (4 - (i + 1))
          case measure => omega
          case rel => exact ⟨i + 1, by go_num, by omega, by omega, Lib.hid (GN.out (by simp)), K3, B3⟩
        | true =>
          by_cases hC : C = 0
          · subst hC
            have hX : X = true := by rw [hhit]; rfl
            subst hX
            clear hhit
            go_wp2
            go_quiet (first | (go_at_call 73; exact Calls.quiet_of_same (GS.out _)) | (go_at_call 72; exact Calls.quiet_of_same (GC.out _)))
            have K2 := Lib.hid (below_drewN K1.out nq)
            have B2 := Lib.hid (B1.out.drewN nq)
            clear K1 B1
            generalize wr.drewN nq = w5 at *
            have K3 := Lib.hid (K2.out.alloc K2.out.size (.cells #[.string tk, .int .u8 op, .string cv] 37))
            have B3 := Lib.hid (B2.out.alloc (.cells #[.string tk, .int .u8 op, .string cv] 37))
            have M3 := Lib.hid (Blk.new w5 37 #[.string tk, .int .u8 op, .string cv])
            go_wp2_with fail
            refine (GK.out _).mono ?_
            rintro e w6 ⟨rfl, hk⟩
            have K4 := Lib.hid (below_then K3.out K3.out.size hk)
            have B4 := Lib.hid (B3.out.below hk B3.out.lt)
            have M4 := Lib.hid (M3.out.below hk M3.out.lt)
            clear hk
            have m0 := M4.out.cell 0
            have m1 := M4.out.cell 1
            have m2 := M4.out.cell 2
            have b0 := B4.out.cell 0
            have b1 := B4.out.cell 1
            have b2 := B4.out.cell 2
            have bf := B4.out.frozen
            simp only [List.getElem?_toArray, List.getElem?_cons_zero, List.getElem?_cons_succ] at m0 m1 m2 b0 b1 b2
            go_wp2
            have fb := ((B4.out.set_ 0 (.string tk)).set_ 1 (.int .u8 op)).set_ 2 (.string cv)
            have s0 := fb.cell 0
            have s1 := fb.cell 1
            have s2 := fb.cell 2
            simp only [List.setIfInBounds_toArray, List.set_cons_succ, List.set_cons_zero, List.getElem?_toArray, List.getElem?_cons_zero, List.getElem?_cons_succ] at s0 s1 s2
            exact bodyPost_ret (v := .tuple #[.agg #[.string tk, .int .u8 op, .string cv], .int .i64 0]) (by simp [results, Try.results42, go_sem, s0, s1, s2]) rfl ⟨by rw [GR.out (by simp)], ((K4.out.setCell (p := ⟨w.heap.size, 0, none⟩) (Nat.le_refl _) _).setCell (p := ⟨w.heap.size, 1, none⟩) (Nat.le_refl _) _).setCell (p := ⟨w.heap.size, 2, none⟩) (Nat.le_refl _) _⟩
          · have hX : X = false := by rw [hhit, decide_eq_false hC]; rfl
            subst hX
            have hz : (C == 0) = false := by rw [Bool.eq_false_iff]; simpa using hC
            clear hhit
            go_wp2
            go_quiet (first | (go_at_call 73; exact Calls.quiet_of_same (GS.out _)) | (go_at_call 72; exact Calls.quiet_of_same (GC.out _)))
            have K2 := Lib.hid (below_drewN K1.out nq)
            have B2 := Lib.hid (B1.out.drewN nq)
            clear K1 B1
            generalize wr.drewN nq = w5 at *
            have K3 := Lib.hid (K2.out.alloc K2.out.size (.cells #[.string tk, .int .u8 op, .string cv] 37))
            have B3 := Lib.hid (B2.out.alloc (.cells #[.string tk, .int .u8 op, .string cv] 37))
            go_wp2_with fail
            refine (GK.out _).mono ?_
            rintro e w6 ⟨rfl, hk⟩
            have K4 := Lib.hid (below_then K3.out K3.out.size hk)
            have B4 := Lib.hid (B3.out.below hk B3.out.lt)
            clear hk
            go_wp2
            go_roundg (4 - (i + 1))
            case measure => omega
            case rel => exact ⟨i + 1, by go_num, by omega, by omega, Lib.hid (GN.out (by simp)), K4, B4⟩
      · have hie : i = 4 := by omega
        subst hie
        have hfin : readFrom s n opsB = (zeroM, 4) := by rw [HJ.out]; rfl
        have hfv : resVal (readFrom s n opsB) = .tuple #[.agg #[.string ⟨#[]⟩, .int .u8 0, .string ⟨#[]⟩], .int .i64 4] := by rw [hfin]; rfl
        have HF := Lib.hid hfv
        have b0 := B1.out.cell 0
        have b1 := B1.out.cell 1
        have b2 := B1.out.cell 2
        have bf := B1.out.frozen
        clear hfin hfv
        simp only [List.getElem?_toArray, List.getElem?_cons_zero, List.getElem?_cons_succ] at b0 b1 b2
        go_wp2
        have fb := ((B1.out.set_ 0 (.string ⟨#[]⟩)).set_ 1 (.int .u8 0)).set_ 2 (.string ⟨#[]⟩)
        have s0 := fb.cell 0
        have s1 := fb.cell 1
        have s2 := fb.cell 2
        simp only [List.setIfInBounds_toArray, List.set_cons_succ, List.set_cons_zero, List.getElem?_toArray, List.getElem?_cons_zero, List.getElem?_cons_succ] at s0 s1 s2
        exact bodyPost_ret (v := .tuple #[.agg #[.string ⟨#[]⟩, .int .u8 0, .string ⟨#[]⟩], .int .i64 4]) (by simp [results, Try.results42, go_sem, s0, s1, s2]) rfl ⟨by rw [HF.out], ((K1.out.setCell (p := ⟨w.heap.size, 0, none⟩) (Nat.le_refl _) _).setCell (p := ⟨w.heap.size, 1, none⟩) (Nat.le_refl _) _).setCell (p := ⟨w.heap.size, 2, none⟩) (Nat.le_refl _) _⟩
theorem read_any (s : List Nat) (hs : ∀ x ∈ s, x < 256) (hl : s.length ≤ 9223372036854775807) (w : World) : Calls Try.prog 42 #[.string (bs s)] w fun e w' => e = .returned (resVal (readB s)) ∧ Below w.heap.size w w' := by
  unfold readB
  rcases firstB_lt s hs with h | ⟨n, h, hn⟩
  · rw [if_pos (by omega)]
    exact read_none s hs (by omega) w
  · rw [if_neg (by omega), h]
    exact read_some s hs hl n h hn w
end Go.Proofs.Ytnidjfmbbfoheaa
