/- WALKS: strings.CutPrefix, match.Read. -/
import Derived.Test.YtnidjfmbbfoheaaTI
import Derived.Lib.IndexLaws
namespace Go.Proofs.Ytnidjfmbbfoheaa
set_option linter.unusedVariables false
set_option linter.unusedSimpArgs false
open Go.RowKit Go.BigFrame Go.Shelf

/-! ### where a byte is -/
def ixB (c : Nat) (s : List Nat) : Int := Lib.indexByte (bs s).data.toList (UInt8.ofNat c)
theorem index_any (c : Nat) (hc : c < 256) (s : List Nat) (w : World) : Calls Try.prog 57 #[.string (bs s), .int .u8 (c : Int)] w fun e w' => e = .returned (.int .i64 (ixB c s)) ∧ w' = w := by
  have h := Any.strings_IndexByte lay57 (bs s) (c : Int) w
  change Calls Try.prog 57 _ _ _ at h
  exact h
theorem bs_data (s : List Nat) : (bs s).data.toList = s.map UInt8.ofNat := by simp [bs]
theorem ofNat_inj {a b : Nat} (ha : a < 256) (hb : b < 256) (h : UInt8.ofNat a = UInt8.ofNat b) : a = b := by
  have := congrArg UInt8.toNat h
  simp at this
  omega
theorem ixB_ge (c : Nat) (s : List Nat) : -1 ≤ ixB c s := Lib.indexByte_ge _ _
theorem ixB_some {c : Nat} {s : List Nat} (hc : c < 256) (hs : ∀ x ∈ s, x < 256) {n : Nat} (h : ixB c s = n) : s[n]? = some c ∧ ∀ k : Nat, k < n → s[k]? ≠ some c := by
  unfold ixB at h
  rw [bs_data] at h
  obtain ⟨h1, h2⟩ := Lib.indexByte_some h
  constructor
  · rw [List.getElem?_map] at h1
    obtain ⟨x, hx, he⟩ := Option.map_eq_some_iff.1 h1
    rw [hx, ofNat_inj (hs x (List.mem_of_getElem? hx)) hc he]
  · intro k hk hx
    apply h2 k hk
    rw [List.getElem?_map, hx]
    rfl
theorem ixB_none {c : Nat} {s : List Nat} (h : ixB c s = -1) : ∀ k : Nat, s[k]? ≠ some c := by
  unfold ixB at h
  rw [bs_data] at h
  intro k hx
  apply Lib.indexByte_none h k
  rw [List.getElem?_map, hx]
  rfl
/-- The first of the two signs. -/
def firstB (s : List Nat) : Int := if 0 ≤ ixB 33 s ∧ (ixB 61 s < 0 ∨ ixB 33 s < ixB 61 s) then ixB 33 s else ixB 61 s
theorem firstB_lt (s : List Nat) (hs : ∀ x ∈ s, x < 256) : firstB s = -1 ∨ ∃ n : Nat, firstB s = n ∧ n < s.length := by
  have key : ∀ c, c < 256 → ixB c s = -1 ∨ ∃ n : Nat, ixB c s = n ∧ n < s.length := by
    intro c hc
    have := ixB_ge c s
    by_cases h : ixB c s = -1
    · exact .inl h
    · obtain ⟨n, hn⟩ : ∃ n : Nat, ixB c s = n := ⟨(ixB c s).toNat, by omega⟩
      exact .inr ⟨n, hn, (List.getElem?_eq_some_iff.1 (ixB_some hc hs hn).1).1⟩
  unfold firstB
  split
  · rename_i h
    rcases key 33 (by decide) with h1 | h1
    · omega
    · exact .inr h1
  · exact key 61 (by decide)

/-! ### prefixes -/
def preB (g t : List Nat) : Bool := decide (t.take g.length = g)
set_option maxRecDepth 100000 in
theorem pre_any (t g : List Nat) (ht : ∀ x ∈ t, x < 256) (hg : ∀ x ∈ g, x < 256) (lt : t.length ≤ 9223372036854775807) (lg : g.length ≤ 9223372036854775807) (w : World) : Calls Try.prog 114 #[.string (bs t), .string (bs g)] w fun e w' => e = .returned (.bool (preB g t)) ∧ w' = w := by
  have z1 := bs_size t
  have z2 := bs_size g
  by_cases h : g.length ≤ t.length
  · have hI : (g.length : Int) ≤ (t.length : Int) := by omega
    have hcmp := bs_beq (a := t.take g.length) (b := g) (fun x hx => ht x (List.mem_of_mem_take hx)) hg
    have htk := bs_take t g.length h
    have hp : preB g t = decide (t.take g.length = g) := rfl
    rw [hp]
    generalize decide (t.take g.length = g) = P at *
    generalize bs (t.take g.length) = tg at *
    clear hp ht hg
    generalize bs t = bt at *
    generalize bs g = bg at *
    go_enter Try.func114, Try.ntmps114
    go_wp2
    go_ret
    exact ⟨rfl, rfl⟩
  · have hI : ¬ (g.length : Int) ≤ (t.length : Int) := by omega
    have hp : preB g t = false := by
      unfold preB
      rw [decide_eq_false_iff_not]
      intro e
      have := congrArg List.length e
      rw [List.length_take] at this
      omega
    rw [hp]
    clear hp ht hg
    generalize bs t = bt at *
    generalize bs g = bg at *
    go_enter Try.func114, Try.ntmps114
    go_wp2
    go_ret
    exact ⟨rfl, rfl⟩
def cutB (g t : List Nat) : List Nat := if preB g t = true then t.drop g.length else t
def cutVal (g t : List Nat) : Value := .tuple #[.string (bs (cutB g t)), .bool (preB g t)]
set_option maxRecDepth 100000 in
theorem cut106 (t g : List Nat) (ht : ∀ x ∈ t, x < 256) (hg : ∀ x ∈ g, x < 256) (lt : t.length ≤ 9223372036854775807) (lg : g.length ≤ 9223372036854775807) (w : World) : Calls Try.prog 106 #[.string (bs t), .string (bs g)] w fun e w' => e = .returned (cutVal g t) ∧ w' = w := by
  have H := Lib.hid (fun w => pre_any t g ht hg lt lg w)
  have z1 := bs_size t
  have z2 := bs_size g
  unfold cutVal cutB
  cases h : preB g t with
  | true =>
    rw [h] at H
    have hle : g.length ≤ t.length := by
      unfold preB at h
      rw [decide_eq_true_eq] at h
      have := congrArg List.length h
      rw [List.length_take] at this
      omega
    have hI : (g.length : Int) ≤ (t.length : Int) := by omega
    rw [if_pos rfl]
    have hd := bs_drop t g.length
    generalize bs (t.drop g.length) = td at *
    clear h ht hg
    generalize bs t = bt at *
    generalize bs g = bg at *
    go_enter Try.func106, Try.ntmps106
    go_wp2_with fail
    refine (H.out _).mono ?_
    rintro e w1 ⟨rfl, rfl⟩
    go_wp2
    exact bodyPost_ret (v := .tuple #[.string td, .bool true]) (by simp [results, Try.results106, go_sem]) rfl ⟨rfl, rfl⟩
  | false =>
    rw [h] at H
    rw [if_neg (by simp)]
    clear h ht hg
    generalize bs t = bt at *
    generalize bs g = bg at *
    go_enter Try.func106, Try.ntmps106
    go_wp2_with fail
    refine (H.out _).mono ?_
    rintro e w1 ⟨rfl, rfl⟩
    go_wp2
    exact bodyPost_ret (v := .tuple #[.string bt, .bool false]) (by simp [results, Try.results106, go_sem]) rfl ⟨rfl, rfl⟩
set_option maxRecDepth 100000 in
theorem cut_any (t g : List Nat) (ht : ∀ x ∈ t, x < 256) (hg : ∀ x ∈ g, x < 256) (lt : t.length ≤ 9223372036854775807) (lg : g.length ≤ 9223372036854775807) (w : World) : Calls Try.prog 72 #[.string (bs t), .string (bs g)] w fun e w' => e = .returned (cutVal g t) ∧ w' = w := by
  have H := Lib.hid (fun w => cut106 t g ht hg lt lg w)
  unfold cutVal at *
  generalize bs (cutB g t) = td at *
  generalize preB g t = P at *
  clear ht hg
  generalize bs t = bt at *
  generalize bs g = bg at *
  go_enter Try.func72, Try.ntmps72
  go_wp2_with fail
  refine (H.out _).mono ?_
  rintro e w1 ⟨rfl, rfl⟩
  go_wp2
  exact bodyPost_ret (v := .tuple #[.string td, .bool P]) (by simp [results, Try.results72, go_sem]) rfl ⟨rfl, rfl⟩
end Go.Proofs.Ytnidjfmbbfoheaa

/- WALKS: match.Read. -/
namespace Go.Proofs.Ytnidjfmbbfoheaa
set_option linter.unusedVariables false
set_option linter.unusedSimpArgs false
open Go.RowKit Go.BigFrame

def zeroM : Mt := ⟨[], [], 0⟩
def candB (s : List Nat) (n : Nat) (op : Int) : Mt := ⟨s.take n, cutB (signB op) (s.drop n), op⟩
def hitB (s : List Nat) (n : Nat) (op : Int) : Bool := preB (signB op) (s.drop n) && decide (checkB (candB s n op) = 0)
def readFrom (s : List Nat) (n : Nat) : List Int → Mt × Int
  | [] => (zeroM, 4)
  | op :: r => if hitB s n op = true then (candB s n op, 0) else readFrom s n r
def opsB : List Int := [2, 3, 1, 0]
def readB (s : List Nat) : Mt × Int := if firstB s < 0 then (zeroM, 4) else readFrom s (firstB s).toNat opsB
def resVal (p : Mt × Int) : Value := .tuple #[p.1.val, .int .i64 p.2]
theorem signB_lt (op : Int) : ∀ x ∈ signB op, x < 256 := by
  unfold signB
  repeat' split
  all_goals decide
theorem cutB_mem {g t : List Nat} : ∀ x ∈ cutB g t, x ∈ t := by
  intro x hx
  unfold cutB at hx
  split at hx
  · exact List.mem_of_mem_drop hx
  · exact hx
theorem cutB_len (g t : List Nat) : (cutB g t).length ≤ t.length := by
  unfold cutB
  split
  · rw [List.length_drop]; omega
  · exact Nat.le_refl _
theorem candB_ok {s : List Nat} (hs : ∀ x ∈ s, x < 256) (hl : s.length ≤ 9223372036854775807) (n : Nat) {op : Int} (h0 : 0 ≤ op) (h3 : op ≤ 3) : (candB s n op).Ok := by
  refine ⟨fun x hx => hs x (List.mem_of_mem_take hx), ?_, fun x hx => hs x (List.mem_of_mem_drop (cutB_mem x hx)), ?_, h0, by show op ≤ 255; omega⟩
  · show (s.take n).length ≤ _
    rw [List.length_take]; omega
  · show (cutB _ (s.drop n)).length ≤ _
    have := cutB_len (signB op) (s.drop n)
    rw [List.length_drop] at this
    omega
set_option maxRecDepth 100000 in
theorem read_none (s : List Nat) (hs : ∀ x ∈ s, x < 256) (h : firstB s < 0) (w : World) : Calls Try.prog 42 #[.string (bs s)] w fun e w' => e = .returned (resVal (zeroM, 4)) ∧ Below w.heap.size w w' := by
  have H1 := Lib.hid (fun w => index_any 61 (by decide) s w)
  have H2 := Lib.hid (fun w => index_any 33 (by decide) s w)
  have g1 := ixB_ge 61 s
  have g2 := ixB_ge 33 s
  unfold firstB at h
  generalize ixB 61 s = a at *
  generalize ixB 33 s = b at *
  have hb : ¬ 0 ≤ b := by intro hb; split at h <;> omega
  have ha : a < 0 := by split at h <;> omega
  clear h hs
  generalize bs s = t at *
  go_enter Try.func42, Try.ntmps42
  go_wp2_with fail
  refine (H1.out _).mono ?_
  rintro e w1 ⟨rfl, rfl⟩
  go_wp2_with fail
  refine (H2.out _).mono ?_
  rintro e w2 ⟨rfl, rfl⟩
  go_wp2
  have fb := Blk.new w 37 #[.string ⟨#[]⟩, .int .u8 0, .string ⟨#[]⟩]
  have s0 := fb.cell 0
  have s1 := fb.cell 1
  have s2 := fb.cell 2
  simp only [List.getElem?_toArray, List.getElem?_cons_zero, List.getElem?_cons_succ] at s0 s1 s2
  exact bodyPost_ret (v := .tuple #[.agg #[.string ⟨#[]⟩, .int .u8 0, .string ⟨#[]⟩], .int .i64 4]) (by simp [results, Try.results42, go_sem, s0, s1, s2]) rfl ⟨rfl, (Below.refl w.heap.size w).alloc (Nat.le_refl _) _⟩
theorem opsB_drop (i : Nat) (op : Int) (h : opsB[i]? = some op) : opsB.drop i = op :: opsB.drop (i + 1) := by
  have hi := (List.getElem?_eq_some_iff.1 h).1
  rw [List.drop_eq_getElem_cons hi]
  congr 1
  rw [List.getElem?_eq_getElem hi] at h
  exact Option.some.inj h
set_option maxRecDepth 100000 in
set_option maxHeartbeats 4000000 in
theorem read_some (s : List Nat) (hs : ∀ x ∈ s, x < 256) (hl : s.length ≤ 9223372036854775807) (n : Nat) (hn : firstB s = (n : Int)) (hnl : n < s.length) (w : World) : Calls Try.prog 42 #[.string (bs s)] w fun e w' => e = .returned (resVal (readFrom s n opsB)) ∧ Below w.heap.size w w' := by
  have H1 := Lib.hid (fun w => index_any 61 (by decide) s w)
  have H2 := Lib.hid (fun w => index_any 33 (by decide) s w)
  have HS := Lib.hid (fun (op : Int) (w : World) => sign_any op w)
  have HC := Lib.hid (fun (op : Int) (w : World) => cut_any (s.drop n) (signB op) (fun x hx => hs x (List.mem_of_mem_drop hx)) (signB_lt op) (by rw [List.length_drop]; omega) (by have := signB_len op; omega) w)
  have HK := Lib.hid (fun (op : Int) (h0 : 0 ≤ op) (h3 : op ≤ 3) (w : World) => check_any (candB s n op) (candB_ok hs hl n h0 h3) w)
  obtain ⟨a, ha⟩ : ∃ a, ixB 61 s = a := ⟨_, rfl⟩
  obtain ⟨b, hb⟩ : ∃ b, ixB 33 s = b := ⟨_, rfl⟩
  have g1 := ixB_ge 61 s
  have g2 := ixB_ge 33 s
  unfold firstB at hn
  rw [ha, hb] at hn
  rw [ha] at H1 g1
  rw [hb] at H2 g2
  clear ha hb
  have z1 := bs_size s
  have htk := bs_take s n (by omega)
  have hdr := bs_drop s n
  obtain ⟨tk, htk2⟩ : ∃ x, bs (s.take n) = x := ⟨_, rfl⟩
  obtain ⟨td, htd2⟩ : ∃ x, bs (s.drop n) = x := ⟨_, rfl⟩
  rw [htk2] at htk
  rw [htd2] at hdr
  have HTK := Lib.hid htk2
  have HTD := Lib.hid htd2
  clear hs htk2 htd2
  obtain ⟨L, hL⟩ : ∃ L, s.length = L := ⟨_, rfl⟩
  rw [hL] at hl hnl z1 hdr
  have hnI : (n : Int) ≤ (L : Int) := by omega
  generalize bs s = t at *
  have hcase : (¬ 0 ≤ b ∧ a = n) ∨ (0 ≤ b ∧ a < 0 ∧ b = n) ∨ (0 ≤ b ∧ ¬ a < 0 ∧ b < a ∧ b = n) ∨ (0 ≤ b ∧ ¬ a < 0 ∧ ¬ b < a ∧ a = n) := by
    by_cases h1 : 0 ≤ b
    · by_cases h2 : a < 0
      · rw [if_pos ⟨h1, .inl h2⟩] at hn; exact .inr (.inl ⟨h1, h2, hn⟩)
      · by_cases h3 : b < a
        · rw [if_pos ⟨h1, .inr h3⟩] at hn; exact .inr (.inr (.inl ⟨h1, h2, h3, hn⟩))
        · rw [if_neg (by omega)] at hn; exact .inr (.inr (.inr ⟨h1, h2, h3, hn⟩))
    · rw [if_neg (by omega)] at hn; exact .inl ⟨h1, hn⟩
  have hnn : ¬ (n : Int) < 0 := by omega
  have hn0 : (0 : Int) ≤ (n : Int) := by omega
  clear hn
  rcases hcase with ⟨hb0, rfl⟩ | ⟨hb0, ha0, rfl⟩ | ⟨hb0, ha0, hab, rfl⟩ | ⟨hb0, ha0, hab, rfl⟩
  all_goals
    go_enter Try.func42, Try.ntmps42
    go_wp2_with fail
    refine (H1.out _).mono ?_
    rintro e w1 ⟨rfl, rfl⟩
    go_wp2_with fail
    refine (H2.out _).mono ?_
    rintro e w2 ⟨rfl, rfl⟩
    have K0 := Lib.hid ((Below.refl w.heap.size w).alloc (Nat.le_refl _) (.cells #[.string ⟨#[]⟩, .int .u8 0, .string ⟨#[]⟩] 37))
    have B0 := Lib.hid (Blk.new w 37 #[.string ⟨#[]⟩, .int .u8 0, .string ⟨#[]⟩])
    go_wp2
    go_loopg [31] 4 (fun gg s31 wr => ∃ i : Nat, s31 = .int .i64 (i : Int) ∧ i ≤ 4 ∧ 4 - i ≤ gg ∧ Hid (readFrom s n opsB = readFrom s n (opsB.drop i)) ∧ Hid (Below w.heap.size w wr) ∧ Hid (Blk wr w.heap.size 37 #[.string ⟨#[]⟩, .int .u8 0, .string ⟨#[]⟩]))
    case atStart => exact ⟨0, by go_num, by omega, by omega, Lib.hid rfl, K0, B0⟩
    case round =>
      obtain ⟨i, rfl, hi, hgg, HJ, K1, B1⟩ := hrel
      by_cases hlt : i < 4
      · have hiI : (i : Int) < 4 := by omega
        have hi0 : (0 : Int) ≤ (i : Int) := by omega
        obtain ⟨op, hop, h0, h3, hidx⟩ : ∃ op : Int, opsB[i]? = some op ∧ 0 ≤ op ∧ op ≤ 3 ∧ ∀ w, (Instr.index 121 (.agg #[.int .u8 2, .int .u8 3, .int .u8 1, .int .u8 0]) (.int .i64 (i : Int))).run Try.prog w = .ok (.int .u8 op) w := by
          have : i = 0 ∨ i = 1 ∨ i = 2 ∨ i = 3 := by omega
          rcases this with rfl | rfl | rfl | rfl
          · exact ⟨2, rfl, by decide, by decide, fun w => by kernel_rfl⟩
          · exact ⟨3, rfl, by decide, by decide, fun w => by kernel_rfl⟩
          · exact ⟨1, rfl, by decide, by decide, fun w => by kernel_rfl⟩
          · exact ⟨0, rfl, by decide, by decide, fun w => by kernel_rfl⟩
        have hstep : readFrom s n opsB = if hitB s n op = true then (candB s n op, 0) else readFrom s n (opsB.drop (i + 1)) := by rw [HJ.out, opsB_drop i op hop]; rfl
        have hS := HS.out op
        have hC := HC.out op
        have hK := HK.out op h0 h3
        rw [HTD.out] at hC
        unfold cutVal at hC
        have hcv : (candB s n op).val = .agg #[.string tk, .int .u8 op, .string (bs (cutB (signB op) (s.drop n)))] := by rw [← HTK.out]; rfl
        have hres : hitB s n op = true → resVal (readFrom s n opsB) = .tuple #[.agg #[.string tk, .int .u8 op, .string (bs (cutB (signB op) (s.drop n)))], .int .i64 0] := fun hh => by rw [hstep, if_pos hh, ← hcv]; rfl
        have hnext : ¬ hitB s n op = true → readFrom s n opsB = readFrom s n (opsB.drop (i + 1)) := fun hh => by rw [hstep, if_neg hh]
        rw [hcv] at hK
        have hhit : hitB s n op = (preB (signB op) (s.drop n) && decide (checkB (candB s n op) = 0)) := rfl
        have GS := Lib.hid hS
        have GC := Lib.hid hC
        have GK := Lib.hid hK
        have GR := Lib.hid hres
        have GN := Lib.hid hnext
        clear hstep hS hC hK hcv hres hnext hop
        generalize hitB s n op = X at *
        generalize preB (signB op) (s.drop n) = P at *
        generalize checkB (candB s n op) = C at *
        generalize bs (signB op) = sg at *
        generalize bs (cutB (signB op) (s.drop n)) = cv at *
        cases P with
        | false =>
          have hX : X = false := by rw [hhit]; rfl
          subst hX
          clear hhit
          go_wp2
          go_quiet (first | (go_at_call 73; exact Calls.quiet_of_same (GS.out _)) | (go_at_call 72; exact Calls.quiet_of_same (GC.out _)))
          have K2 := Lib.hid (below_drewN K1.out nq)
          have B2 := Lib.hid (B1.out.drewN nq)
          clear K1 B1
          generalize wr.drewN nq = w5 at *
          have K3 := Lib.hid (K2.out.alloc K2.out.size (.cells #[.string tk, .int .u8 op, .string cv] 37))
          have B3 := Lib.hid (B2.out.alloc (.cells #[.string tk, .int .u8 op, .string cv] 37))
          go_wp2
          go_roundg (4 - (i + 1))
          case measure => omega
          case rel => exact ⟨i + 1, by go_num, by omega, by omega, Lib.hid (GN.out (by simp)), K3, B3⟩
        | true =>
          by_cases hC : C = 0
          · subst hC
            have hX : X = true := by rw [hhit]; rfl
            subst hX
            clear hhit
            go_wp2
            go_quiet (first | (go_at_call 73; exact Calls.quiet_of_same (GS.out _)) | (go_at_call 72; exact Calls.quiet_of_same (GC.out _)))
            have K2 := Lib.hid (below_drewN K1.out nq)
            have B2 := Lib.hid (B1.out.drewN nq)
            clear K1 B1
            generalize wr.drewN nq = w5 at *
            have K3 := Lib.hid (K2.out.alloc K2.out.size (.cells #[.string tk, .int .u8 op, .string cv] 37))
            have B3 := Lib.hid (B2.out.alloc (.cells #[.string tk, .int .u8 op, .string cv] 37))
            have M3 := Lib.hid (Blk.new w5 37 #[.string tk, .int .u8 op, .string cv])
            go_wp2_with fail
            refine (GK.out _).mono ?_
            rintro e w6 ⟨rfl, hk⟩
            have K4 := Lib.hid (below_then K3.out K3.out.size hk)
            have B4 := Lib.hid (B3.out.below hk B3.out.lt)
            have M4 := Lib.hid (M3.out.below hk M3.out.lt)
            clear hk
            have m0 := M4.out.cell 0
            have m1 := M4.out.cell 1
            have m2 := M4.out.cell 2
            have b0 := B4.out.cell 0
            have b1 := B4.out.cell 1
            have b2 := B4.out.cell 2
            have bf := B4.out.frozen
            simp only [List.getElem?_toArray, List.getElem?_cons_zero, List.getElem?_cons_succ] at m0 m1 m2 b0 b1 b2
            go_wp2
            have fb := ((B4.out.set_ 0 (.string tk)).set_ 1 (.int .u8 op)).set_ 2 (.string cv)
            have s0 := fb.cell 0
            have s1 := fb.cell 1
            have s2 := fb.cell 2
            simp only [List.setIfInBounds_toArray, List.set_cons_succ, List.set_cons_zero, List.getElem?_toArray, List.getElem?_cons_zero, List.getElem?_cons_succ] at s0 s1 s2
            exact bodyPost_ret (v := .tuple #[.agg #[.string tk, .int .u8 op, .string cv], .int .i64 0]) (by simp [results, Try.results42, go_sem, s0, s1, s2]) rfl ⟨by rw [GR.out (by simp)], ((K4.out.setCell (p := ⟨w.heap.size, 0, none⟩) (Nat.le_refl _) _).setCell (p := ⟨w.heap.size, 1, none⟩) (Nat.le_refl _) _).setCell (p := ⟨w.heap.size, 2, none⟩) (Nat.le_refl _) _⟩
          · have hX : X = false := by rw [hhit, decide_eq_false hC]; rfl
            subst hX
            have hz : (C == 0) = false := by rw [Bool.eq_false_iff]; simpa using hC
            clear hhit
            go_wp2
            go_quiet (first | (go_at_call 73; exact Calls.quiet_of_same (GS.out _)) | (go_at_call 72; exact Calls.quiet_of_same (GC.out _)))
            have K2 := Lib.hid (below_drewN K1.out nq)
            have B2 := Lib.hid (B1.out.drewN nq)
            clear K1 B1
            generalize wr.drewN nq = w5 at *
            have K3 := Lib.hid (K2.out.alloc K2.out.size (.cells #[.string tk, .int .u8 op, .string cv] 37))
            have B3 := Lib.hid (B2.out.alloc (.cells #[.string tk, .int .u8 op, .string cv] 37))
            go_wp2_with fail
            refine (GK.out _).mono ?_
            rintro e w6 ⟨rfl, hk⟩
            have K4 := Lib.hid (below_then K3.out K3.out.size hk)
            have B4 := Lib.hid (B3.out.below hk B3.out.lt)
            clear hk
            go_wp2
            go_roundg (4 - (i + 1))
            case measure => omega
            case rel => exact ⟨i + 1, by go_num, by omega, by omega, Lib.hid (GN.out (by simp)), K4, B4⟩
      · have hie : i = 4 := by omega
        subst hie
        have hfin : readFrom s n opsB = (zeroM, 4) := by rw [HJ.out]; rfl
        have hfv : resVal (readFrom s n opsB) = .tuple #[.agg #[.string ⟨#[]⟩, .int .u8 0, .string ⟨#[]⟩], .int .i64 4] := by rw [hfin]; rfl
        have HF := Lib.hid hfv
        have b0 := B1.out.cell 0
        have b1 := B1.out.cell 1
        have b2 := B1.out.cell 2
        have bf := B1.out.frozen
        clear hfin hfv
        simp only [List.getElem?_toArray, List.getElem?_cons_zero, List.getElem?_cons_succ] at b0 b1 b2
        go_wp2
        have fb := ((B1.out.set_ 0 (.string ⟨#[]⟩)).set_ 1 (.int .u8 0)).set_ 2 (.string ⟨#[]⟩)
        have s0 := fb.cell 0
        have s1 := fb.cell 1
        have s2 := fb.cell 2
        simp only [List.setIfInBounds_toArray, List.set_cons_succ, List.set_cons_zero, List.getElem?_toArray, List.getElem?_cons_zero, List.getElem?_cons_succ] at s0 s1 s2
        exact bodyPost_ret (v := .tuple #[.agg #[.string ⟨#[]⟩, .int .u8 0, .string ⟨#[]⟩], .int .i64 4]) (by simp [results, Try.results42, go_sem, s0, s1, s2]) rfl ⟨by rw [HF.out], ((K1.out.setCell (p := ⟨w.heap.size, 0, none⟩) (Nat.le_refl _) _).setCell (p := ⟨w.heap.size, 1, none⟩) (Nat.le_refl _) _).setCell (p := ⟨w.heap.size, 2, none⟩) (Nat.le_refl _) _⟩
theorem read_any (s : List Nat) (hs : ∀ x ∈ s, x < 256) (hl : s.length ≤ 9223372036854775807) (w : World) : Calls Try.prog 42 #[.string (bs s)] w fun e w' => e = .returned (resVal (readB s)) ∧ Below w.heap.size w w' := by
  unfold readB
  rcases firstB_lt s hs with h | ⟨n, h, hn⟩
  · rw [if_pos (by omega)]
    exact read_none s hs (by omega) w
  · rw [if_neg (by omega), h]
    exact read_some s hs hl n h hn w
end Go.Proofs.Ytnidjfmbbfoheaa

/- PLAIN: what is read from a text, and the text of what is read. -/
namespace Go.Proofs.Ytnidjfmbbfoheaa
set_option linter.unusedVariables false
set_option linter.unusedSimpArgs false

theorem cand_text {s : List Nat} {n : Nat} {op : Int} (h : preB (signB op) (s.drop n) = true) : textB (candB s n op) = s := by
  unfold textB candB cutB
  simp only [h, if_true]
  unfold preB at h
  rw [decide_eq_true_eq] at h
  conv => rhs; rw [← List.take_append_drop n s, ← List.take_append_drop (signB op).length (s.drop n), h]
  rw [List.append_assoc]
theorem readFrom_is (s : List Nat) (n : Nat) : ∀ l : List Int, (readFrom s n l = (zeroM, 4) ∧ ∀ op ∈ l, hitB s n op = false) ∨ ∃ op ∈ l, readFrom s n l = (candB s n op, 0) ∧ hitB s n op = true := by
  intro l
  induction l with
  | nil => exact .inl ⟨rfl, by simp⟩
  | cons op r ih =>
    unfold readFrom
    by_cases h : hitB s n op = true
    · rw [if_pos h]
      exact .inr ⟨op, by simp, rfl, h⟩
    · rw [if_neg h]
      rcases ih with ⟨h1, h2⟩ | ⟨op', h1, h2, h3⟩
      · refine .inl ⟨h1, fun o ho => ?_⟩
        rcases List.mem_cons.1 ho with rfl | ho
        · simpa using h
        · exact h2 o ho
      · exact .inr ⟨op', by simp [h1], h2, h3⟩
theorem hit_is {s : List Nat} {n : Nat} {op : Int} (h : hitB s n op = true) : preB (signB op) (s.drop n) = true ∧ checkB (candB s n op) = 0 := by
  unfold hitB at h
  simpa using h
theorem ops_range {op : Int} (h : op ∈ opsB) : 0 ≤ op ∧ op ≤ 3 := by
  simp only [opsB, List.mem_cons, List.not_mem_nil, or_false] at h
  omega
/-- What Read tells: no matcher, or one that may be, whose text it is. -/
theorem readB_is (s : List Nat) (hs : ∀ x ∈ s, x < 256) (hl : s.length ≤ 9223372036854775807) : (readB s = (zeroM, 4)) ∨ ((readB s).2 = 0 ∧ textB (readB s).1 = s ∧ checkB (readB s).1 = 0 ∧ (readB s).1.Ok ∧ (readB s).1.n.length ≤ s.length ∧ (readB s).1.v.length ≤ s.length) := by
  unfold readB
  by_cases h : firstB s < 0
  · rw [if_pos h]; exact .inl rfl
  · rw [if_neg h]
    rcases readFrom_is s (firstB s).toNat opsB with ⟨h1, _⟩ | ⟨op, h0, h1, h2⟩
    · exact .inl h1
    · rw [h1]
      obtain ⟨h3, h4⟩ := hit_is h2
      refine .inr ⟨rfl, cand_text h3, h4, candB_ok hs hl _ (ops_range h0).1 (ops_range h0).2, ?_, ?_⟩
      · show (s.take _).length ≤ _
        rw [List.length_take]; omega
      · show (cutB _ (s.drop _)).length ≤ _
        have := cutB_len (signB op) (s.drop (firstB s).toNat)
        rw [List.length_drop] at this
        omega
theorem okc_not {c : Nat} (h : okc c = true) : c ≠ 61 ∧ c ≠ 33 := by
  unfold okc at h
  simp only [Bool.or_eq_true, Bool.and_eq_true, decide_eq_true_eq] at h
  omega
theorem nameB_all {n : List Nat} (h : nameB n = true) : n.length ≤ 16 ∧ ∀ c ∈ n, okc c = true := by
  cases n with
  | nil => cases h
  | cons c r =>
    rw [nameB_cons] at h
    simp only [Bool.and_eq_true, decide_eq_true_eq] at h
    exact ⟨h.1.1, fun x hx => List.all_eq_true.1 h.2 x hx⟩
theorem ix_first {c : Nat} (hc : c < 256) {s : List Nat} (hs : ∀ x ∈ s, x < 256) {N : Nat} (h1 : s[N]? = some c) (h2 : ∀ k, k < N → s[k]? ≠ some c) : ixB c s = N := by
  have g := ixB_ge c s
  by_cases h : ixB c s = -1
  · exact absurd h1 (ixB_none h N)
  · obtain ⟨n, hn⟩ : ∃ n : Nat, ixB c s = n := ⟨(ixB c s).toNat, by omega⟩
    obtain ⟨h3, h4⟩ := ixB_some hc hs hn
    have : n = N := by
      rcases Nat.lt_trichotomy n N with h5 | h5 | h5
      · exact absurd h3 (h2 n h5)
      · exact h5
      · exact absurd h1 (h4 N h5)
    rw [hn, this]
theorem ix_other {c : Nat} (hc : c < 256) {s : List Nat} (hs : ∀ x ∈ s, x < 256) {N : Nat} (h2 : ∀ k, k ≤ N → s[k]? ≠ some c) : ixB c s < 0 ∨ (N : Int) < ixB c s := by
  have g := ixB_ge c s
  by_cases h : ixB c s = -1
  · left; omega
  · obtain ⟨n, hn⟩ : ∃ n : Nat, ixB c s = n := ⟨(ixB c s).toNat, by omega⟩
    obtain ⟨h3, _⟩ := ixB_some hc hs hn
    right
    by_cases h5 : n ≤ N
    · exact absurd h3 (h2 n h5)
    · omega
theorem text_at (m : Mt) (k : Nat) (hk : k < m.n.length) : (textB m)[k]? = m.n[k]? := by
  unfold textB
  rw [List.append_assoc, List.getElem?_append_left hk]
theorem text_sign (m : Mt) (c : Nat) (r : List Nat) (h : signB m.op = c :: r) : (textB m)[m.n.length]? = some c := by
  unfold textB
  rw [List.append_assoc, List.getElem?_append_right (Nat.le_refl _), Nat.sub_self, h]
  rfl
theorem text_lt {m : Mt} (hm : m.Ok) : ∀ x ∈ textB m, x < 256 := by
  intro x hx
  unfold textB at hx
  rcases List.mem_append.1 hx with hx | hx
  · rcases List.mem_append.1 hx with hx | hx
    · exact hm.1 x hx
    · exact signB_lt _ x hx
  · exact hm.2.2.1 x hx
theorem first_text {m : Mt} (hm : m.Ok) (h : checkB m = 0) : firstB (textB m) = (m.n.length : Int) := by
  obtain ⟨hn, ho, hv⟩ := checkB_op h
  obtain ⟨_, hall⟩ := nameB_all hn
  have hlt := text_lt hm
  have h0 := hm.2.2.2.2.1
  have hname : ∀ (k c : Nat), k < m.n.length → (textB m)[k]? = some c → okc c = true := by
    intro k c hk hc
    rw [text_at m k hk] at hc
    exact hall c (List.mem_of_getElem? hc)
  have n61 : ∀ k, k < m.n.length → (textB m)[k]? ≠ some 61 := fun k hk hc => (okc_not (hname k 61 hk hc)).1 rfl
  have n33 : ∀ k, k < m.n.length → (textB m)[k]? ≠ some 33 := fun k hk hc => (okc_not (hname k 33 hk hc)).2 rfl
  have hop : m.op = 0 ∨ m.op = 1 ∨ m.op = 2 ∨ m.op = 3 := by omega
  have hsg : (∃ r, signB m.op = 61 :: r) ∨ ∃ r, signB m.op = 33 :: r := by
    rcases hop with e | e | e | e <;> rw [e]
    · exact .inl ⟨_, rfl⟩
    · exact .inr ⟨_, rfl⟩
    · exact .inl ⟨_, rfl⟩
    · exact .inr ⟨_, rfl⟩
  unfold firstB
  rcases hsg with ⟨r, hr⟩ | ⟨r, hr⟩
  · have hs := text_sign m 61 r hr
    have ha := ix_first (by decide) hlt hs n61
    have hb := ix_other (c := 33) (by decide) hlt (N := m.n.length) (fun k hk hc => by
      rcases Nat.lt_or_eq_of_le hk with hk | hk
      · exact n33 k hk hc
      · rw [hk, hs] at hc; injection hc with hc; cases hc)
    rw [ha, if_neg (by omega)]
  · have hs := text_sign m 33 r hr
    have hb := ix_first (by decide) hlt hs n33
    have ha := ix_other (c := 61) (by decide) hlt (N := m.n.length) (fun k hk hc => by
      rcases Nat.lt_or_eq_of_le hk with hk | hk
      · exact n61 k hk hc
      · rw [hk, hs] at hc; injection hc with hc; cases hc)
    rw [hb, if_pos (by omega)]
theorem cand_self (m : Mt) : candB (textB m) m.n.length m.op = m ∧ preB (signB m.op) ((textB m).drop m.n.length) = true := by
  have hd : (textB m).drop m.n.length = signB m.op ++ m.v := by
    unfold textB
    rw [List.append_assoc, List.drop_left]
  have hp : preB (signB m.op) (signB m.op ++ m.v) = true := by
    unfold preB
    rw [List.take_left, decide_eq_true rfl]
  refine ⟨?_, by rw [hd]; exact hp⟩
  unfold candB cutB
  rw [hd, if_pos hp, List.drop_left]
  have ht : (textB m).take m.n.length = m.n := by
    unfold textB
    rw [List.append_assoc, List.take_left]
  rw [ht]
/-- A matcher that may be is read from its text, as one of its name and of its text. -/
theorem readB_text {m : Mt} (hm : m.Ok) (h : checkB m = 0) : (readB (textB m)).2 = 0 ∧ textB (readB (textB m)).1 = textB m ∧ (readB (textB m)).1.n = m.n := by
  obtain ⟨hn, ho, hv⟩ := checkB_op h
  have h0 := hm.2.2.2.2.1
  unfold readB
  rw [first_text hm h, if_neg (by omega)]
  simp only [Int.toNat_natCast]
  have hop : m.op ∈ opsB := by
    have : m.op = 0 ∨ m.op = 1 ∨ m.op = 2 ∨ m.op = 3 := by omega
    rcases this with e | e | e | e <;> rw [e] <;> decide
  obtain ⟨c1, c2⟩ := cand_self m
  have hhit : hitB (textB m) m.n.length m.op = true := by
    unfold hitB
    rw [c1, c2, h]
    rfl
  rcases readFrom_is (textB m) m.n.length opsB with ⟨_, h2⟩ | ⟨op, h1, h2, h3⟩
  · rw [h2 m.op hop] at hhit; cases hhit
  · rw [h2]
    refine ⟨rfl, cand_text (hit_is h3).1, ?_⟩
    show (textB m).take m.n.length = m.n
    unfold textB
    rw [List.append_assoc, List.take_left]
theorem text_short {m : Mt} (h : checkB m = 0) : m.n.length ≤ 16 ∧ m.v.length ≤ 64 ∧ (textB m).length ≤ 100 := by
  obtain ⟨hn, ho, hv⟩ := checkB_op h
  have h1 := (nameB_all hn).1
  refine ⟨h1, hv, ?_⟩
  unfold textB
  have := signB_len m.op
  simp only [List.length_append]
  omega
end Go.Proofs.Ytnidjfmbbfoheaa
