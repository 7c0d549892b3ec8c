/- WALKS: the document's sign and Text. PLAIN: what its Read tells is what the program's Read tells. -/
import Derived.Test.YtnidjfmbbfoheaaTB
import Derived.Test.YtnidjfmbbfoheaaDChecks
import Derived.IntWalk
import Derived.Test.YtnidjfmbbfoheaaRxHead
import Derived.SizedLaws
namespace Go.Proofs.Ytnidjfmbbfoheaa
set_option linter.unusedVariables false
set_option linter.unusedSimpArgs false
open Go.RowKit Go.BigFrame

set_option maxRecDepth 100000 in
theorem rsign_any (op : Int) (w : World) : Calls Try.prog 74 #[.int .u8 op] w fun e w' => e = .returned (.string (bs (signB op))) ∧ w' = w := by
  unfold signB
  by_cases h0 : op = 0
  · subst h0
    go_enter Try.func74, Try.ntmps74
    go_wp2
    go_ret
    exact ⟨rfl, rfl⟩
  · rw [if_neg h0]
    by_cases h1 : op = 1
    · subst h1
      go_enter Try.func74, Try.ntmps74
      go_wp2
      go_ret
      exact ⟨rfl, rfl⟩
    · rw [if_neg h1]
      by_cases h2 : op = 2
      · subst h2
        go_enter Try.func74, Try.ntmps74
        go_wp2
        go_ret
        exact ⟨rfl, rfl⟩
      · rw [if_neg h2]
        by_cases h3 : op = 3
        · subst h3
          go_enter Try.func74, Try.ntmps74
          go_wp2
          go_ret
          exact ⟨rfl, rfl⟩
        · rw [if_neg h3]
          have n0 : (op == 0) = false := by rw [Bool.eq_false_iff]; simpa using h0
          have n1 : (op == 1) = false := by rw [Bool.eq_false_iff]; simpa using h1
          have n2 : (op == 2) = false := by rw [Bool.eq_false_iff]; simpa using h2
          have n3 : (op == 3) = false := by rw [Bool.eq_false_iff]; simpa using h3
          go_enter Try.func74, Try.ntmps74
          go_wp2
          go_ret
          exact ⟨rfl, rfl⟩
set_option maxRecDepth 100000 in
theorem text_any2 (m : Mt) (h1 : m.n.length ≤ 1000000000000000) (h2 : m.v.length ≤ 1000000000000000) (w : World) : Calls Try.prog 44 #[m.val] w fun e w' => e = .returned (.string (bs (textB m))) ∧ Below w.heap.size w w' := by
  have e : bs (textB m) = bs m.n ++ bs (signB m.op) ++ bs m.v := by unfold textB; rw [bs_app, bs_app]
  rw [e]
  have H := Lib.hid (fun w => sign_any m.op w)
  have z1 := bs_size m.n
  have z2 := bs_size m.v
  have z3 := bs_size (signB m.op)
  have z4 := signB_len m.op
  have K1 := Lib.hid ((Below.refl w.heap.size w).alloc (Nat.le_refl _) (.cells #[.string (bs m.n), .int .u8 m.op, .string (bs m.v)] 37))
  unfold Mt.val mval at *
  generalize bs m.n = mn at *
  generalize bs m.v = mv at *
  generalize bs (signB m.op) = sv at *
  generalize m.op = mo at *
  go_enter Try.func44, Try.ntmps44
  go_wp2
  go_quiet ((go_at_call 73; exact Calls.quiet_of_same (H.out _)))
  go_wp2
  go_ret
  exact ⟨rfl, below_drewN K1.out _⟩

set_option maxRecDepth 100000 in
theorem rtext_any (m : Mt) (h1 : m.n.length ≤ 1000000000000000) (h2 : m.v.length ≤ 1000000000000000) (w : World) : Calls Try.prog 45 #[m.val] w fun e w' => e = .returned (.string (bs (textB m))) ∧ Below w.heap.size w w' := by
  have e : bs (textB m) = bs m.n ++ bs (signB m.op) ++ bs m.v := by unfold textB; rw [bs_app, bs_app]
  rw [e]
  have H := Lib.hid (fun w => rsign_any m.op w)
  have z1 := bs_size m.n
  have z2 := bs_size m.v
  have z3 := bs_size (signB m.op)
  have z4 := signB_len m.op
  have K1 := Lib.hid ((Below.refl w.heap.size w).alloc (Nat.le_refl _) (.cells #[.string (bs m.n), .int .u8 m.op, .string (bs m.v)] 37))
  unfold Mt.val mval at *
  generalize bs m.n = mn at *
  generalize bs m.v = mv at *
  generalize bs (signB m.op) = sv at *
  generalize m.op = mo at *
  go_enter Try.func45, Try.ntmps45
  go_wp2
  go_quiet ((go_at_call 74; exact Calls.quiet_of_same (H.out _)))
  go_wp2
  go_ret
  exact ⟨rfl, below_drewN K1.out _⟩


/-! ### Read, plain -/
def refGo (s : List Nat) : Nat → Nat → Mt × Int
  | 0, _ => (zeroM, 4)
  | k + 1, n => if (readFrom s n opsB).2 = 0 then readFrom s n opsB else refGo s k (n + 1)
theorem hit_first {s : List Nat} (hs : ∀ x ∈ s, x < 256) (hl : s.length ≤ 9223372036854775807) {n : Nat} {op : Int} (hop : op ∈ opsB) (hn : n ≤ s.length) (h : hitB s n op = true) : firstB s = (n : Int) ∧ 1 ≤ n ∧ n ≤ 16 := by
  obtain ⟨h1, h2⟩ := hit_is h
  have hr := ops_range hop
  have ho := candB_ok hs hl n hr.1 hr.2
  have ht := cand_text h1
  have hf := first_text ho h2
  rw [ht] at hf
  have hlen : (candB s n op).n.length = n := by show (s.take n).length = n; rw [List.length_take]; omega
  rw [hlen] at hf
  have hn2 := (checkB_op h2).1
  have h16 := (nameB_all hn2).1
  rw [hlen] at h16
  refine ⟨hf, ?_, h16⟩
  rcases Nat.eq_zero_or_pos n with h0 | h0
  · have : (candB s n op).n = [] := List.eq_nil_of_length_eq_zero (by rw [hlen, h0])
    rw [this] at hn2
    cases hn2
  · exact h0
theorem readB_at {s : List Nat} {n : Nat} (h : firstB s = (n : Int)) : readB s = readFrom s n opsB := by
  unfold readB
  rw [h, if_neg (by omega)]
  rfl
theorem refGo_is (s : List Nat) (hs : ∀ x ∈ s, x < 256) (hl : s.length ≤ 9223372036854775807) : ∀ (k n : Nat), 1 ≤ n → n + k = min s.length 16 + 1 → (∀ j, 1 ≤ j → j < n → (readFrom s j opsB).2 ≠ 0) → refGo s k n = readB s
  | 0, n, h1, h2, h3 => by
    unfold refGo
    rcases firstB_lt s hs with hf | ⟨N, hf, hN⟩
    · unfold readB
      rw [if_pos (by omega)]
    · rw [readB_at hf]
      rcases readFrom_is s N opsB with ⟨e, _⟩ | ⟨op, hop, e, hh⟩
      · exact e.symm
      · obtain ⟨_, g1, g2⟩ := hit_first hs hl hop (by omega) hh
        exact absurd (by rw [e]) (h3 N g1 (by omega))
  | k + 1, n, h1, h2, h3 => by
    unfold refGo
    by_cases h : (readFrom s n opsB).2 = 0
    · rw [if_pos h]
      rcases readFrom_is s n opsB with ⟨e, _⟩ | ⟨op, hop, e, hh⟩
      · rw [e] at h
        cases h
      · obtain ⟨g0, _, _⟩ := hit_first hs hl hop (by omega) hh
        exact (readB_at g0).symm
    · rw [if_neg h]
      refine refGo_is s hs hl k (n + 1) (by omega) (by omega) (fun j hj hjn => ?_)
      by_cases e : j = n
      · rw [e]; exact h
      · exact h3 j hj (by omega)
end Go.Proofs.Ytnidjfmbbfoheaa

/- WALK: the document's Read. -/
namespace Go.Proofs.Ytnidjfmbbfoheaa
set_option linter.unusedVariables false
set_option linter.unusedSimpArgs false
open Go.RowKit Go.BigFrame

theorem bs_mid (t : List Nat) (i k : Nat) (h : i + k ≤ t.length) : (bs t).extract i (i + k) = bs ((t.drop i).take k) := by
  have h1 := bs_take t (i + k) h
  have h2 := bs_drop (t.take (i + k)) i
  rw [← h1] at h2
  have hl : (t.take (i + k)).length = i + k := by rw [List.length_take]; omega
  rw [hl] at h2
  have e : (t.take (i + k)).drop i = (t.drop i).take k := by rw [List.drop_take]; congr 1; omega
  rw [← e, ← h2]
  rw [ByteArray.extract_extract]
  congr 1 <;> omega
def ReadEnd (w : World) (R : Mt × Int) (e : Ending) (w' : World) : Prop := e = .returned (resVal R) ∧ Below w.heap.size w w'
set_option maxRecDepth 100000 in
set_option maxHeartbeats 8000000 in
theorem rread_of (s : List Nat) (hs : ∀ x ∈ s, x < 256) (hl : s.length ≤ 1000) (m : Nat) (hm : m = min s.length 16) (R : Mt × Int) (hR : R = refGo s m 1) (w : World) : Calls Try.prog 43 #[.string (bs s)] w (ReadEnd w R) := by
  have HS := Lib.hid (fun (op : Int) (w : World) => rsign_any op w)
  have HK := Lib.hid (fun (n : Nat) (op : Int) (h0 : 0 ≤ op) (h3 : op ≤ 3) (w : World) => rcheck_any (candB s n op) (candB_ok hs (by omega) n h0 h3) w)
  have HBY := Lib.hid hs
  have HR0 := Lib.hid hR
  have hmL : m ≤ s.length := by omega
  have hm16 : m ≤ 16 := by omega
  have HM : Hid (∀ n : Nat, n ≤ s.length → n ≤ 16 → n ≤ m) := Lib.hid (fun n h1 h2 => by omega)
  have z1 := bs_size s
  have HTK := Lib.hid (fun n (h : n ≤ s.length) => bs_take s n h)
  have HDR := Lib.hid (fun n => bs_drop s n)
  have HMD := Lib.hid (fun i k (h : i + k ≤ s.length) => bs_mid s i k h)
  obtain ⟨t, ht⟩ : ∃ t, bs s = t := ⟨_, rfl⟩
  rw [ht] at HTK HDR HMD z1
  rw [ht]
  clear ht hs hR hm
  obtain ⟨L, hL⟩ : ∃ L, s.length = L := ⟨_, rfl⟩
  rw [hL] at hl hmL z1 HTK HDR HMD HM
  have HL := Lib.hid hL
  clear hL
  unfold ReadEnd
  have K0 := Lib.hid (((Below.refl w.heap.size w).alloc (Nat.le_refl _) (.cells #[.string ⟨#[]⟩, .int .u8 0, .string ⟨#[]⟩] 37)).alloc (by simp) (.cells #[.int .u8 2, .int .u8 3, .int .u8 1, .int .u8 0] 35))
  have B0 := Lib.hid ((Blk.new w 37 #[.string ⟨#[]⟩, .int .u8 0, .string ⟨#[]⟩]).alloc (.cells #[.int .u8 2, .int .u8 3, .int .u8 1, .int .u8 0] 35))
  have C0 : Hid (Blk ((w.alloc (.cells #[.string ⟨#[]⟩, .int .u8 0, .string ⟨#[]⟩] 37)).alloc (.cells #[.int .u8 2, .int .u8 3, .int .u8 1, .int .u8 0] 35)) (w.heap.size + 1) 35 #[.int .u8 2, .int .u8 3, .int .u8 1, .int .u8 0]) := Lib.hid (Blk.new_at (by simp))
  go_enter Try.func43, Try.ntmps43
  go_upto_region 2 with fail
  generalize (w.alloc (.cells #[.string ⟨#[]⟩, .int .u8 0, .string ⟨#[]⟩] 37)).alloc (.cells #[.int .u8 2, .int .u8 3, .int .u8 1, .int .u8 0] 35) = w1 at *
  obtain ⟨bo, hbo⟩ : ∃ b, w.heap.size + 1 = b := ⟨_, rfl⟩
  rw [hbo] at C0 ⊢
  have HBO : Hid (w.heap.size < bo) := Lib.hid (by omega)
  clear hbo
  obtain ⟨br, hbr⟩ : ∃ b, w.heap.size = b := ⟨_, rfl⟩
  have HBR : Hid (w.heap.size ≤ br) := Lib.hid (by omega)
  have B0' : Hid (Blk w1 br 37 #[.string ⟨#[]⟩, .int .u8 0, .string ⟨#[]⟩]) := Lib.hid (by rw [← hbr]; exact B0.out)
  have HNE : Hid (br ≠ bo) := Lib.hid (by have := HBO.out; omega)
  rw [hbr]
  clear hbr B0
  go_wp2
  go_loopw [5] (fun s5 wr => ∃ n : Nat, s5 = .int .i64 (n : Int) ∧ 1 ≤ n ∧ n ≤ m + 1 ∧ Hid (R = refGo s (m + 1 - n) n) ∧ Hid (Below w.heap.size w wr) ∧ Hid (Blk wr br 37 #[.string ⟨#[]⟩, .int .u8 0, .string ⟨#[]⟩]) ∧ Hid (Blk wr bo 35 #[.int .u8 2, .int .u8 3, .int .u8 1, .int .u8 0])) (fun s5 _ => m + 1 - (intOf s5).toNat)
  case atStart => exact ⟨1, rfl, by omega, by omega, Lib.hid (by rw [HR0.out]; congr 1), K0, B0', C0⟩
  case round =>
    obtain ⟨n, rfl, hn1, hnm, HJ, K1, B1, C1⟩ := hrel
    obtain ⟨wo, rfl⟩ : ∃ wo : World, wo = wr := ⟨_, rfl⟩
    by_cases hin : n ≤ m
    · have hnL : n ≤ L := by omega
      have hn16 : n ≤ 16 := by omega
      have g1 : decide ((n : Int) ≤ (L : Int)) = true := by simp; omega
      have g1' : decide (n ≤ L) = true := by simp; omega
      have g2 : decide ((n : Int) ≤ 16) = true := by simp; omega
      have HJ2 : Hid (R = if (readFrom s n opsB).2 = 0 then readFrom s n opsB else refGo s (m - n) (n + 1)) := Lib.hid (by
        rw [HJ.out, show m + 1 - n = (m - n) + 1 by omega]
        rfl)
      clear HJ
      go_wp2
      clear g1 g1' g2
      go_loopw [6] (fun s6 wv => ∃ i : Nat, s6 = .int .i64 (i : Int) ∧ i ≤ 4 ∧ Hid (R = if (readFrom s n (opsB.drop i)).2 = 0 then readFrom s n (opsB.drop i) else refGo s (m - n) (n + 1)) ∧ Hid (Below w.heap.size w wv) ∧ Hid (Blk wv br 37 #[.string ⟨#[]⟩, .int .u8 0, .string ⟨#[]⟩]) ∧ Hid (Blk wv bo 35 #[.int .u8 2, .int .u8 3, .int .u8 1, .int .u8 0])) (fun s6 _ => 4 - (intOf s6).toNat)
      case atStart => exact ⟨0, rfl, by omega, HJ2, K1, B1, C1⟩
      case round =>
        obtain ⟨i, rfl, hi, HI, K2, B2, C2⟩ := hrel
        clear K1 B1 C1
        by_cases hlt : i < 4
        · have hiI : (i : Int) < 4 := by omega
          have hi0 : (0 : Int) ≤ (i : Int) := by omega
          obtain ⟨op, hop, h0, h3, hoc⟩ : ∃ op : Int, opsB[i]? = some op ∧ 0 ≤ op ∧ op ≤ 3 ∧ wr.cell? ⟨bo, i, none⟩ = some (.int .u8 op) := by
            have : i = 0 ∨ i = 1 ∨ i = 2 ∨ i = 3 := by omega
            rcases this with rfl | rfl | rfl | rfl
            · exact ⟨2, rfl, by decide, by decide, C2.out.cell 0⟩
            · exact ⟨3, rfl, by decide, by decide, C2.out.cell 1⟩
            · exact ⟨1, rfl, by decide, by decide, C2.out.cell 2⟩
            · exact ⟨0, rfl, by decide, by decide, C2.out.cell 3⟩
          have hstep : readFrom s n (opsB.drop i) = if hitB s n op = true then (candB s n op, 0) else readFrom s n (opsB.drop (i + 1)) := by rw [opsB_drop i op hop]; rfl
          have GN : Hid (¬ hitB s n op = true → R = if (readFrom s n (opsB.drop (i + 1))).2 = 0 then readFrom s n (opsB.drop (i + 1)) else refGo s (m - n) (n + 1)) := Lib.hid (fun hh => by rw [HI.out, hstep, if_neg hh])
          have GR : Hid (hitB s n op = true → R = (candB s n op, 0)) := Lib.hid (fun hh => by rw [HI.out, hstep, if_pos hh, if_pos rfl])
          have GS := Lib.hid (HS.out op)
          have GK := Lib.hid (HK.out n op h0 h3)
          have hk := signB_len op
          have hsz := bs_size (signB op)
          have hhit : hitB s n op = (preB (signB op) (s.drop n) && decide (checkB (candB s n op) = 0)) := rfl
          have hpre : preB (signB op) (s.drop n) = decide ((s.drop n).take (signB op).length = signB op) := rfl
          have hbeq := bs_beq (a := (s.drop n).take (signB op).length) (b := signB op) (fun x hx => HBY.out x (List.mem_of_mem_drop (List.mem_of_mem_take hx))) (signB_lt op)
          rw [← hpre] at hbeq
          have hcand : preB (signB op) (s.drop n) = true → (candB s n op).val = .agg #[.string (bs (s.take n)), .int .u8 op, .string (bs (s.drop (n + (signB op).length)))] := fun h => by
            show mval _ _ _ = _
            unfold candB mval cutB
            simp only [h, if_true, List.drop_drop]
          have hshort : L < n + (signB op).length → preB (signB op) (s.drop n) = false := fun h => by
            rw [hpre, decide_eq_false_iff_not]
            intro e
            have := congrArg List.length e
            rw [List.length_take, List.length_drop, HL.out] at this
            omega
          obtain ⟨k, hkk⟩ : ∃ k, (signB op).length = k := ⟨_, rfl⟩
          rw [hkk] at hk hsz hbeq hshort hcand
          clear hpre hstep hop HI
          have hmid := HMD.out n k
          have htk := HTK.out n hnL
          have hdr := HDR.out (n + k)
          generalize hitB s n op = X at *
          generalize preB (signB op) (s.drop n) = P at *
          generalize checkB (candB s n op) = C at *
          have HSH := Lib.hid hshort
          have HCA := Lib.hid hcand
          have HHT := Lib.hid hhit
          have HMI := Lib.hid hmid
          have HBE := Lib.hid hbeq
          clear hshort hcand hhit hmid hbeq hkk
          generalize bs (signB op) = sg at *
          generalize bs (s.take n) = tk at *
          generalize bs (s.drop (n + k)) = td at *
          generalize bs ((s.drop n).take k) = tm at *
          have hk2 : (k : Int) ≤ 2 := by omega
          have hnI : (n : Int) ≤ 16 := by omega
          by_cases hsh : L < n + k
          · have hX : X = false := by rw [HHT.out, HSH.out hsh]; rfl
            subst hX
            have g3 : decide ((L : Int) < (n : Int) + (k : Int)) = true := by simp; omega
            have g4 : decide (L < n + k) = true := by simp; omega
            have HNX := Lib.hid (GN.out (by simp))
            clear GN GR GK htk hdr HHT HSH HCA HMI HBE
            go_wp2_with (go_at_call 74; refine (GS.out _).mono ?_; rintro e w5 ⟨rfl, h5⟩; have h6 := h5.symm; clear h5; subst h6)
            go_roundw
            case rel => exact ⟨i + 1, by go_num, by omega, HNX, K2, B2, C2⟩
            case measure => simp [intOf]; omega
          · have g3 : decide ((L : Int) < (n : Int) + (k : Int)) = false := by simp; omega
            have g4 : decide (L < n + k) = false := by simp; omega
            have hmid := HMI.out (by omega)
            have hb1 : (n : Int) + (k : Int) ≤ (L : Int) := by omega
            have hb2 : (n : Int) ≤ (n : Int) + (k : Int) := by omega
            have hbeq := HBE.out
            clear HMI HBE HSH
            cases P with
            | false =>
              have hX : X = false := by rw [HHT.out]; rfl
              subst hX
              have HNX := Lib.hid (GN.out (by simp))
              clear GN GR GK htk hdr HHT HCA
              go_wp2_with (go_at_call 74; refine (GS.out _).mono ?_; rintro e w5 ⟨rfl, h5⟩; have h6 := h5.symm; clear h5; subst h6)
              go_roundw
              case rel => exact ⟨i + 1, by go_num, by omega, HNX, K2, B2, C2⟩
              case measure => simp [intOf]; omega
            | true =>
              have HCV := Lib.hid (HCA.out rfl)
              have HXC : Hid (X = decide (C = 0)) := Lib.hid (by rw [HHT.out]; rfl)
              rw [HCV.out] at GK
              have HRV : Hid (X = true → resVal R = .tuple #[.agg #[.string tk, .int .u8 op, .string td], .int .i64 0]) := Lib.hid (fun h => by rw [GR.out h]; unfold resVal; simp only [HCV.out])
              clear HCA HHT GR HCV
              go_upto_region 10 with (go_at_call 74; refine (GS.out _).mono ?_; rintro e w5 ⟨rfl, h5⟩; have h6 := h5.symm; clear h5; subst h6)
              clear g3 g4 hbeq hmid
              have hnL2 : (n : Int) ≤ (L : Int) := by omega
              have hn0 : (0 : Int) ≤ (n : Int) := by omega
              have hnk0 : (0 : Int) ≤ (n : Int) + (k : Int) := by omega
              have hbl := C2.out.lt
              have hnew := World.new_ne wr _ hoc
              have hw : IntKind.i64.wrap ((n : Int) + (k : Int)) = (n : Int) + (k : Int) := IntWalk.i64_in _ (by omega)
              have htn : ((n : Int) + (k : Int)).toNat = n + k := by omega
              go_region_held3 (fun X => X.cell? ⟨bo, i, none⟩ = some (.int .u8 op)) (go_keep) (fail)
              have K3 := Lib.hid ((K2.out.alloc K2.out.size (.cells #[.string tk, .int .u8 op, .string td] 37)).drew)
              have B3 := Lib.hid ((B2.out.alloc (.cells #[.string tk, .int .u8 op, .string td] 37)).drew)
              have C3 := Lib.hid ((C2.out.alloc (.cells #[.string tk, .int .u8 op, .string td] 37)).drew)
              have M3 := Lib.hid ((Blk.new wr 37 #[.string tk, .int .u8 op, .string td]).drew)
              obtain ⟨bm, hbm⟩ : ∃ b, wr.heap.size = b := ⟨_, rfl⟩
              rw [hbm] at M3 ⊢
              clear hbm hnew hoc hbl K2 B2 C2
              generalize (wr.alloc (.cells #[.string tk, .int .u8 op, .string td] 37)).drew = w5 at *
              have m0 := M3.out.cell 0
              have m1 := M3.out.cell 1
              have m2 := M3.out.cell 2
              simp only [List.getElem?_toArray, List.getElem?_cons_zero, List.getElem?_cons_succ] at m0 m1 m2
              clear hw htn
              go_wp2_with fail
              refine (GK.out _).mono ?_
              rintro e w6 ⟨rfl, hk⟩
              have K4 := Lib.hid (below_then K3.out K3.out.size hk)
              have B4 := Lib.hid (B3.out.below hk B3.out.lt)
              have C4 := Lib.hid (C3.out.below hk C3.out.lt)
              have M4 := Lib.hid (M3.out.below hk M3.out.lt)
              clear hk m0 m1 m2 K3 B3 C3 M3
              by_cases hC : C = 0
              · subst hC
                have hX : X = true := by rw [HXC.out]; rfl
                subst hX
                have m0 := M4.out.cell 0
                have m1 := M4.out.cell 1
                have m2 := M4.out.cell 2
                have b0 := B4.out.cell 0
                have b1 := B4.out.cell 1
                have b2 := B4.out.cell 2
                have bf := B4.out.frozen
                simp only [List.getElem?_toArray, List.getElem?_cons_zero, List.getElem?_cons_succ] at m0 m1 m2 b0 b1 b2
                have HRQ := Lib.hid (HRV.out rfl)
                clear HRV HXC GN GK
                go_wp2
                have fb := ((B4.out.set_ 0 (.string tk)).set_ 1 (.int .u8 op)).set_ 2 (.string td)
                have s0 := fb.cell 0
                have s1 := fb.cell 1
                have s2 := fb.cell 2
                simp only [List.setIfInBounds_toArray, List.set_cons_succ, List.set_cons_zero, List.getElem?_toArray, List.getElem?_cons_zero, List.getElem?_cons_succ] at s0 s1 s2
                exact bodyPost_ret (v := .tuple #[.agg #[.string tk, .int .u8 op, .string td], .int .i64 0]) (by simp [results, Try.results43, go_sem, s0, s1, s2]) rfl ⟨by rw [HRQ.out], ((K4.out.setCell (p := ⟨br, 0, none⟩) HBR.out _).setCell (p := ⟨br, 1, none⟩) HBR.out _).setCell (p := ⟨br, 2, none⟩) HBR.out _⟩
              · have hz : (C == 0) = false := by rw [Bool.eq_false_iff]; simpa using hC
                have HNX := Lib.hid (GN.out (by rw [HXC.out]; simpa using hC))
                clear hC
                go_wp2
                go_roundw
                case rel => exact ⟨i + 1, by go_num, by omega, HNX, K4, B4, C4⟩
                case measure => simp [intOf]; omega
        · have hie : i = 4 := by omega
          subst hie
          have HNX : Hid (R = refGo s (m + 1 - (n + 1)) (n + 1)) := Lib.hid (by
            have h := HI.out
            rw [show m + 1 - (n + 1) = m - n by omega]
            rw [h]
            rfl)
          go_wp2
          go_roundw
          case rel => exact ⟨n + 1, by go_num, by omega, by omega, HNX, K2, B2, C2⟩
          case measure => simp [intOf]; omega
    · have hne : n = m + 1 := by omega
      have HF : Hid (resVal R = .tuple #[.agg #[.string ⟨#[]⟩, .int .u8 0, .string ⟨#[]⟩], .int .i64 4]) := Lib.hid (by rw [HJ.out, hne, Nat.sub_self]; rfl)
      have hor : L < n ∨ 16 < n := by
        rcases Nat.lt_or_ge L n with h | h
        · exact .inl h
        · rcases Nat.lt_or_ge 16 n with h' | h'
          · exact .inr h'
          · have := HM.out n h h'; omega
      rcases hor with h | h
      · have g1 : decide ((n : Int) ≤ (L : Int)) = false := by simp; omega
        have g1' : decide (n ≤ L) = false := by simp; omega
        have b0 := B1.out.cell 0
        have b1 := B1.out.cell 1
        have b2 := B1.out.cell 2
        have bf := B1.out.frozen
        clear HJ hne
        simp only [List.getElem?_toArray, List.getElem?_cons_zero, List.getElem?_cons_succ] at b0 b1 b2
        go_wp2
        have fb := ((B1.out.set_ 0 (.string ⟨#[]⟩)).set_ 1 (.int .u8 0)).set_ 2 (.string ⟨#[]⟩)
        have s0 := fb.cell 0
        have s1 := fb.cell 1
        have s2 := fb.cell 2
        simp only [List.setIfInBounds_toArray, List.set_cons_succ, List.set_cons_zero, List.getElem?_toArray, List.getElem?_cons_zero, List.getElem?_cons_succ] at s0 s1 s2
        exact bodyPost_ret (v := .tuple #[.agg #[.string ⟨#[]⟩, .int .u8 0, .string ⟨#[]⟩], .int .i64 4]) (by simp [results, Try.results43, go_sem, s0, s1, s2]) rfl ⟨by rw [HF.out], ((K1.out.setCell (p := ⟨br, 0, none⟩) HBR.out _).setCell (p := ⟨br, 1, none⟩) HBR.out _).setCell (p := ⟨br, 2, none⟩) HBR.out _⟩
      · have g2 : decide ((n : Int) ≤ 16) = false := by simp; omega
        by_cases hnL : n ≤ L
        · have g1 : decide ((n : Int) ≤ (L : Int)) = true := by simp; omega
          have g1' : decide (n ≤ L) = true := by simp; omega
          have b0 := B1.out.cell 0
          have b1 := B1.out.cell 1
          have b2 := B1.out.cell 2
          have bf := B1.out.frozen
          clear HJ hne
          simp only [List.getElem?_toArray, List.getElem?_cons_zero, List.getElem?_cons_succ] at b0 b1 b2
          go_wp2
          have fb := ((B1.out.set_ 0 (.string ⟨#[]⟩)).set_ 1 (.int .u8 0)).set_ 2 (.string ⟨#[]⟩)
          have s0 := fb.cell 0
          have s1 := fb.cell 1
          have s2 := fb.cell 2
          simp only [List.setIfInBounds_toArray, List.set_cons_succ, List.set_cons_zero, List.getElem?_toArray, List.getElem?_cons_zero, List.getElem?_cons_succ] at s0 s1 s2
          exact bodyPost_ret (v := .tuple #[.agg #[.string ⟨#[]⟩, .int .u8 0, .string ⟨#[]⟩], .int .i64 4]) (by simp [results, Try.results43, go_sem, s0, s1, s2]) rfl ⟨by rw [HF.out], ((K1.out.setCell (p := ⟨br, 0, none⟩) HBR.out _).setCell (p := ⟨br, 1, none⟩) HBR.out _).setCell (p := ⟨br, 2, none⟩) HBR.out _⟩
        · have g1 : decide ((n : Int) ≤ (L : Int)) = false := by simp; omega
          have g1' : decide (n ≤ L) = false := by simp; omega
          have b0 := B1.out.cell 0
          have b1 := B1.out.cell 1
          have b2 := B1.out.cell 2
          have bf := B1.out.frozen
          clear HJ hne
          simp only [List.getElem?_toArray, List.getElem?_cons_zero, List.getElem?_cons_succ] at b0 b1 b2
          go_wp2
          have fb := ((B1.out.set_ 0 (.string ⟨#[]⟩)).set_ 1 (.int .u8 0)).set_ 2 (.string ⟨#[]⟩)
          have s0 := fb.cell 0
          have s1 := fb.cell 1
          have s2 := fb.cell 2
          simp only [List.setIfInBounds_toArray, List.set_cons_succ, List.set_cons_zero, List.getElem?_toArray, List.getElem?_cons_zero, List.getElem?_cons_succ] at s0 s1 s2
          exact bodyPost_ret (v := .tuple #[.agg #[.string ⟨#[]⟩, .int .u8 0, .string ⟨#[]⟩], .int .i64 4]) (by simp [results, Try.results43, go_sem, s0, s1, s2]) rfl ⟨by rw [HF.out], ((K1.out.setCell (p := ⟨br, 0, none⟩) HBR.out _).setCell (p := ⟨br, 1, none⟩) HBR.out _).setCell (p := ⟨br, 2, none⟩) HBR.out _⟩
/-- The document's Read is the program's. -/
theorem rread_any (s : List Nat) (hs : ∀ x ∈ s, x < 256) (hl : s.length ≤ 1000) (w : World) : Calls Try.prog 43 #[.string (bs s)] w (ReadEnd w (readB s)) :=
  rread_of s hs hl _ rfl _ (refGo_is s hs (by omega) _ 1 (by omega) (by omega) (fun j h1 h2 => by omega)).symm w
end Go.Proofs.Ytnidjfmbbfoheaa

/- THE LAW MatchTexts: any matcher has the text that the document says, and any text is the matcher that it says, or none. -/
namespace Go.Proofs.Ytnidjfmbbfoheaa
set_option linter.unusedVariables false
set_option linter.unusedSimpArgs false
open Go.ChangeShapes Go.WideShapes Go.ChangeAt Go.RowKit Go.Joins Go.Deep Go.BigFrame

section
variable {H : Type} {enc : TypeId × Value → H} {w : World} {base : Nat} {spare : Nat → Bool} {held : Bool}
theorem str_field2 (n : Nat) {c : Value} {y : DataW H × List MemPlace} (h : DataW.trod enc Try.prog w base spare held n 9 [c] = some y) : ∃ s, c = .string (bs s) ∧ (∀ x ∈ s, x < 256) ∧ s.length ≤ 9223372036854775807 ∧ y.1 = .lit (.string (bs s).data.toList) := by
  obtain ⟨b, e0, ey, w0⟩ := DataW.trod_string Try.underlying9 h
  simp only [List.cons.injEq, and_true] at e0
  obtain ⟨s, rfl, h1, h2⟩ := nats_of b w0
  exact ⟨s, e0, h1, h2, by rw [ey]⟩
set_option maxRecDepth 100000 in
theorem open_matcher2 {r : Reach} {b0 : Nat} {v : Value} {d : DataW H} {p : List MemPlace} (hv : Value.okWide Try.prog w r b0 37 v) (h : DataW.Trod enc Try.prog w base spare held 37 v d p) :
    ∃ m : Mt, v = m.val ∧ m.Ok ∧ ∃ x, d = .agg [.lit (.string (bs m.n).data.toList), x, .lit (.string (bs m.v).data.toList)] := by
  obtain ⟨c0, c1, c2, y0, y1, y2, n, rfl, hd, _, h0, h1, h2⟩ := open_agg3 Try.underlying37 (by kernel_rfl) cells37 hv h
  obtain ⟨s0, rfl, a0, b0, q0⟩ := str_field2 n h0
  obtain ⟨x, e1, _, w1⟩ := DataW.trod_int Try.underlying35 h1
  obtain ⟨s2, rfl, a2, b2, q2⟩ := str_field2 n h2
  simp only [List.cons.injEq, and_true] at e1
  subst e1
  have b1 := bounds_u8 w1
  exact ⟨⟨s0, s2, x⟩, rfl, ⟨a0, b0, a2, b2, b1.1, b1.2⟩, y1.1, by rw [hd, q0, q2]⟩
theorem mt_weights {d x : DataW H} {m : Mt} (hd : d = .agg [.lit (.string (bs m.n).data.toList), x, .lit (.string (bs m.v).data.toList)]) {ts : List TypeId} {ds : List (DataW H)} (hz : (DataW.weightsEach Try.prog (37 :: ts) (d :: ds)).all (· ≤ reachBytes) = true) : m.n.length ≤ 1000000000000000 ∧ m.v.length ≤ 1000000000000000 := by
  subst hd
  have e1 : (bs m.n).data.toList.length = m.n.length := by rw [bs_data, List.length_map]
  have e2 : (bs m.v).data.toList.length = m.v.length := by rw [bs_data, List.length_map]
  simp only [DataW.weightsEach, DataW.weights, Try.underlying37, List.all_append, Bool.and_eq_true] at hz
  obtain ⟨h1, _⟩ := hz
  have hr : reachBytes ≤ 1000000000000000 := by decide
  simp only [List.all_cons, Bool.and_eq_true, decide_eq_true_eq, List.nil_append, List.cons_append, List.all_append, DataW.weightsEach, DataW.weights, List.map_cons, e1, e2] at h1
  simp at h1
  omega
end
set_option maxRecDepth 100000 in
theorem texts_far (m : Mt) (s : List Nat) (w : World) (h : 200 < s.length) (hl : s.length ≤ 9223372036854775807) :
    Calls Try.prog 16 #[m.val, .string (bs s)] w fun e w' => e = .returned (.bool true) ∧ Below w.heap.size w w' := by
  have j : decide ((s.length : Int) > 200) = true := by simp; omega
  have z1 := bs_size s
  unfold Mt.val mval
  generalize bs s = t at *
  generalize bs m.n = mn at *
  generalize bs m.v = mv at *
  generalize m.op = mo at *
  have K1 := Lib.hid ((Below.refl w.heap.size w).alloc (Nat.le_refl _) (.cells #[.string mn, .int .u8 mo, .string mv] 37))
  go_enter Try.func16, Try.ntmps16
  go_wp2_with fail
  refine (awake4 _).mono ?_
  rintro e w4 ⟨rfl, hk⟩
  have K5 := Lib.hid (below_then K1.out K1.out.size hk)
  clear hk
  go_wp2
  go_ret
  exact ⟨rfl, K5.out⟩
set_option maxRecDepth 100000 in
set_option maxHeartbeats 4000000 in
theorem texts_main (m : Mt) (s : List Nat) (w : World) (h1 : m.n.length ≤ 1000000000000000) (h2 : m.v.length ≤ 1000000000000000) (hs : ∀ x ∈ s, x < 256) (h200 : s.length ≤ 200) :
    Calls Try.prog 16 #[m.val, .string (bs s)] w fun e w' => e = .returned (.bool true) ∧ Below w.heap.size w w' := by
  have j : decide ((s.length : Int) > 200) = false := by simp; omega
  have z1 := bs_size s
  have HT := Lib.hid (fun w' => text_any2 m h1 h2 w')
  have HU := Lib.hid (fun w' => rtext_any m h1 h2 w')
  have HA := Lib.hid (fun w' => read_any s hs (by omega) w')
  have HB := Lib.hid (fun w' => rread_any s hs (by omega) w')
  unfold ReadEnd at HB
  unfold resVal at HA HB
  generalize bs (textB m) = tx0 at *
  clear hs h1 h2 h200
  unfold Mt.val mval at *
  generalize bs (readB s).1.n = rns at *
  generalize bs (readB s).1.v = rvs at *
  generalize (readB s).1.op = ro at *
  generalize (readB s).2 = re at *
  generalize bs s = t at *
  generalize bs m.n = mn at *
  generalize bs m.v = mv at *
  generalize m.op = mo at *
  have K1 := Lib.hid ((Below.refl w.heap.size w).alloc (Nat.le_refl _) (.cells #[.string mn, .int .u8 mo, .string mv] 37))
  have B1 := Lib.hid (Blk.new w 37 #[.string mn, .int .u8 mo, .string mv])
  go_enter Try.func16, Try.ntmps16
  go_wp2_with fail
  refine (HA.out _).mono ?_
  rintro e w2 ⟨rfl, hk⟩
  have K2 := Lib.hid ((below_then K1.out K1.out.size hk).alloc (below_then K1.out K1.out.size hk).size (.cells #[.string rns, .int .u8 ro, .string rvs] 37))
  have B2 := Lib.hid ((B1.out.below hk B1.out.lt).alloc (.cells #[.string rns, .int .u8 ro, .string rvs] 37))
  have C2 := Lib.hid (Blk.new w2 37 #[.string rns, .int .u8 ro, .string rvs])
  clear hk
  go_wp2_with fail
  refine (HB.out _).mono ?_
  rintro e w3 ⟨rfl, hk⟩
  have K3 := Lib.hid ((below_then K2.out K2.out.size hk).alloc (below_then K2.out K2.out.size hk).size (.cells #[.string rns, .int .u8 ro, .string rvs] 37))
  have B3 := Lib.hid ((B2.out.below hk B2.out.lt).alloc (.cells #[.string rns, .int .u8 ro, .string rvs] 37))
  have C3 := Lib.hid ((C2.out.below hk C2.out.lt).alloc (.cells #[.string rns, .int .u8 ro, .string rvs] 37))
  have D3 := Lib.hid (Blk.new w3 37 #[.string rns, .int .u8 ro, .string rvs])
  clear hk
  go_upto_region 5 with fail
  generalize w3.alloc (.cells #[.string rns, .int .u8 ro, .string rvs] 37) = w4 at *
  have e0 := fun y : Ext w4.heap.size w4 => (Ext.blk B3.out B3.out.lt (x := y)).cell 0
  have e1 := fun y : Ext w4.heap.size w4 => (Ext.blk B3.out B3.out.lt (x := y)).cell 1
  have e2 := fun y : Ext w4.heap.size w4 => (Ext.blk B3.out B3.out.lt (x := y)).cell 2
  have f0 := fun y : Ext w4.heap.size w4 => (Ext.blk C3.out C3.out.lt (x := y)).cell 0
  have f1 := fun y : Ext w4.heap.size w4 => (Ext.blk C3.out C3.out.lt (x := y)).cell 1
  have f2 := fun y : Ext w4.heap.size w4 => (Ext.blk C3.out C3.out.lt (x := y)).cell 2
  have g0 := fun y : Ext w4.heap.size w4 => (Ext.blk D3.out D3.out.lt (x := y)).cell 0
  have g1 := fun y : Ext w4.heap.size w4 => (Ext.blk D3.out D3.out.lt (x := y)).cell 1
  have g2 := fun y : Ext w4.heap.size w4 => (Ext.blk D3.out D3.out.lt (x := y)).cell 2
  simp only [List.getElem?_toArray, List.getElem?_cons_zero, List.getElem?_cons_succ] at e0 e1 e2 f0 f1 f2 g0 g1 g2
  refine wp_region_exts (by kernel_rfl) (by kernel_rfl) ?_
  repeat
    first
      | go_big_quiet_skip
      | (go_big_quiet_want; go_big_quiet_op
         first
           | go_big_quiet_on
           | (apply Exists.intro
              refine ⟨fun x => ?_, ?_⟩
              · (first
                  | (go_at_call 44; exact calls_ext (Nat.le_refl _) (HT.out _))
                  | (go_at_call 45; exact calls_ext (Nat.le_refl _) (HU.out _))
                  | (go_at_call 30; exact calls_ext (Nat.le_refl _) (awake4 _)))
              go_big_quiet_on
              try (skip)))
  refine wpQuiet_nil ?_
  rintro _ ⟨x, rfl⟩
  have KX := Lib.hid (below_then K3.out K3.out.size x.h)
  clear e0 e1 e2 f0 f1 f2 g0 g1 g2
  go_wp2
  go_ret
  exact ⟨rfl, KX.out⟩
theorem texts_law (m : Mt) (s : ByteArray) (w : World) (h : m.n.length ≤ 1000000000000000 ∧ m.v.length ≤ 1000000000000000) (hs : s.size ≤ 9223372036854775807) :
    Calls Try.prog 16 #[m.val, .string s] w fun e w' => e = .returned (.bool true) ∧ Below w.heap.size w w' := by
  obtain ⟨n, rfl, h1, h2⟩ := nats_of s hs
  by_cases h3 : n.length ≤ 200
  · exact texts_main m n w h.1 h.2 h1 h3
  · exact texts_far m n w (by omega) h2
set_option maxRecDepth 100000 in
theorem matchTexts_lifted (os : Os) (started : os.Started) (H : Type) (enc : TypeId × Value → H) :
    ReturnsInHanded {} Try.checked os 16 .any (Rows.matchTextsSpec.pre6 enc Try.prog Try.f16 Rows.matchTextsRow.domain false) (Rows.matchTextsSpec.post enc Try.prog Try.f16 false true false false) := by
  refine returnsInHanded_of_change_sized (C := Try.checked) tOwn started (by kernel_rfl) Try.func16
    (ChangeSpec.witness6 (enc := enc) (C := Try.checked) false ⟨#[], #[.agg #[.string ⟨#[]⟩, .int .u8 0, .string ⟨#[]⟩], .string ⟨#[]⟩], []⟩ 8 (by kernel_rfl) (by kernel_rfl) (by kernel_rfl) (by kernel_rfl)) ?_
  intro W base args ds gs before hval0 hW hcnd hsz0 _
  have hval : ∀ (j : Nat) t v, Try.f16.params[j]? = some t → args[j]? = some v → Value.okWide Try.prog W .any base t v := hval0
  have hW' := hW
  obtain ⟨p, q, hA0, hV, rfl, hfz, hnd⟩ := hW
  have hA : DataW.TrodAll enc Try.prog W 0 (fun _ => true) true Try.f16.params.toList args.toList ds p := hA0
  rw [Try.params16] at hA hval
  obtain ⟨v0, vs0, d0, ds0, p0, q0, hargs, rfl, rfl, h0, r0⟩ := trodAll_cons hA
  obtain ⟨v1, vs1, d1, ds1, p1, q1, rfl, rfl, rfl, h1, r1⟩ := trodAll_cons r0
  obtain ⟨rfl, rfl, rfl⟩ := trodAll_nil r1
  obtain rfl : args = #[v0, v1] := by cases args; simp_all
  have hsz : (DataW.weightsEach Try.prog (37 :: ([9] ++ Rows.matchTextsSpec.plain.varTypes Try.prog)) (d0 :: ([d1] ++ gs))).all (· ≤ reachBytes) = true := hsz0
  obtain ⟨m, rfl, om, xm, em⟩ := open_matcher2 (hval 0 37 v0 rfl rfl) h0
  obtain ⟨⟨⟨s⟩⟩, rfl, rfl, rfl, ws⟩ := Go.ChangeMaps.open_string Try.underlying9 (hval 1 9 v1 rfl rfl) h1
  refine (texts_law m _ W (mt_weights em hsz) ws).mono fun e W' ⟨he, hb⟩ => ?_
  subst he
  exact ⟨_, rfl, law_post tLaid (by decide +kernel) hW' rfl (by kernel_rfl) Try.underlying4 rfl hb⟩

/-- The closed facts of the row. -/
theorem matchTexts_facts : joinedFacts Try.pinned.checked.prog 16 Try.f16 Rows.matchTextsSpec Rows.matchTextsRow = true := joined_at 16 Try.f16 Rows.matchTextsSpec Rows.matchTextsRow (by
  intro P hP h1 h2 h3
  unfold joinedFacts
  rw [h1, h2, h3]
  subst hP
  kernel_rfl)
/-- The statement. -/
theorem matchTexts_holds : Rows.MatchTextsSaid :=
  OpenClaim.holds_of_wide 16 Try.f16 rfl rfl rfl rfl rfl rfl rfl ⟨rfl, rfl, rfl, rfl, rfl⟩ rfl rfl rfl rfl rfl (by kernel_rfl) Try.func16 matchTexts_facts
    (of_decide_eq_true (by kernel_rfl)) (by unfold Func.isWrapper; rw [if_neg (of_decide_eq_false (by kernel_rfl))]; exact ⟨rfl, rfl⟩)
    (fun os started H enc _ => matchTexts_lifted os started H enc)
#print axioms matchTexts_holds
end Go.Proofs.Ytnidjfmbbfoheaa
