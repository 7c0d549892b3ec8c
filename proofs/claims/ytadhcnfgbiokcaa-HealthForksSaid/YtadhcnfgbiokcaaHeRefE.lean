/- WALKS: the document's Bump; whether two lists of members are one. -/
import Derived.Test.YtadhcnfgbiokcaaHeRefA
namespace Go.Proofs.Ytadhcnfgbiokcaa
set_option linter.unusedVariables false
set_option linter.unusedSimpArgs false
open Go.RowKit
set_option maxRecDepth 100000 in
set_option maxHeartbeats 4000000 in
theorem rbump_any (r : Rs) (b : Int) (A : Option Addr) (n c : Nat) (w : World) (hs : 0 ≤ r.sc ∧ r.sc ≤ 8) :
    Calls Try.prog 28 #[hval r A n c, .int .i64 b] w fun e w' => e = .returned (hval (rbump r b) A n c) ∧ Below w.heap.size w w' := by
  have key : ∀ q : Int, max (-8) (min b 8) = q → hval (rbump r b) A n c = .agg #[.int .u16 r.me, .int .i64 r.mn, .int .i64 r.mx, .int .i64 r.cf, .int .i64 (max 0 (min (r.sc + q) 8)), .slice A n c] := fun q h => by rw [← h]; rfl
  have fin : ∀ q y : Int, max (-8) (min b 8) = q → max 0 (min (r.sc + q) 8) = y → hval (rbump r b) A n c = .agg #[.int .u16 r.me, .int .i64 r.mn, .int .i64 r.mx, .int .i64 r.cf, .int .i64 y, .slice A n c] := fun q y h g => by rw [key q h, g]
  have FIN := Lib.hid fin
  clear key fin
  obtain ⟨me, mn, mx, cf, sc, rl⟩ := r
  simp only at hs
  obtain ⟨s0, s1⟩ := hs
  have W0 := Lib.hid (Blk.new w 53 #[.int .u16 me, .int .i64 mn, .int .i64 mx, .int .i64 cf, .int .i64 sc, .slice A n c])
  have KA := Lib.hid (fun (a : Obj) (d : Obj) => ((Below.refl _ w).alloc (Nat.le_refl _) a).alloc (by simp) d)
  have fin2 : ∀ (q y : Int), (max (-8) (min b 8) = q) → (max 0 (min (sc + q) 8) = y) → hval (rbump ⟨me, mn, mx, cf, sc, rl⟩ b) A n c = .agg #[.int .u16 me, .int .i64 mn, .int .i64 mx, .int .i64 cf, .int .i64 y, .slice A n c] := FIN.out
  have F2 := Lib.hid fin2
  clear fin2 FIN
  have e0 : hval ⟨me, mn, mx, cf, sc, rl⟩ A n c = .agg #[.int .u16 me, .int .i64 mn, .int .i64 mx, .int .i64 cf, .int .i64 sc, .slice A n c] := rfl
  rw [e0]
  clear e0
  obtain ⟨V, hV⟩ : ∃ V, hval (rbump ⟨me, mn, mx, cf, sc, rl⟩ b) A n c = V := ⟨_, rfl⟩
  rw [hV]
  rw [hV] at F2
  clear hV
  have go : ∀ (q y : Int), (max (-8) (min b 8) = q) → (max 0 (min (sc + q) 8) = y) → V = .agg #[.int .u16 me, .int .i64 mn, .int .i64 mx, .int .i64 cf, .int .i64 y, .slice A n c] := F2.out
  by_cases c1 : b < 8
  · by_cases c2 : -8 < b
    · by_cases c3 : sc + b < 8
      · by_cases c4 : 0 < sc + b
        · rw [go b (sc + b) (by omega) (by omega)]
          clear go
          go_enter Try.func28, Try.ntmps28
          go_wp2
          refine bodyPost_ret (v := .agg #[.int .u16 me, .int .i64 mn, .int .i64 mx, .int .i64 cf, .int .i64 (sc + b), .slice A n c]) (by simp [results, Try.results28, go_sem]) rfl ⟨rfl, KA.out _ _⟩
        · rw [go b 0 (by omega) (by omega)]
          clear go
          go_enter Try.func28, Try.ntmps28
          go_wp2
          refine bodyPost_ret (v := .agg #[.int .u16 me, .int .i64 mn, .int .i64 mx, .int .i64 cf, .int .i64 0, .slice A n c]) (by simp [results, Try.results28, go_sem]) rfl ⟨rfl, KA.out _ _⟩
      · rw [go b 8 (by omega) (by omega)]
        clear go
        go_enter Try.func28, Try.ntmps28
        go_wp2
        refine bodyPost_ret (v := .agg #[.int .u16 me, .int .i64 mn, .int .i64 mx, .int .i64 cf, .int .i64 8, .slice A n c]) (by simp [results, Try.results28, go_sem]) rfl ⟨rfl, KA.out _ _⟩
    · rw [go (-8) 0 (by omega) (by omega)]
      clear go
      have c4 : ¬ 0 < sc + -8 := by omega
      have c3 : sc + -8 < 8 := by omega
      go_enter Try.func28, Try.ntmps28
      go_wp2
      refine bodyPost_ret (v := .agg #[.int .u16 me, .int .i64 mn, .int .i64 mx, .int .i64 cf, .int .i64 0, .slice A n c]) (by simp [results, Try.results28, go_sem]) rfl ⟨rfl, KA.out _ _⟩
  · rw [go 8 8 (by omega) (by omega)]
    clear go
    have c4 : ¬ sc + 8 < 8 := by omega
    go_enter Try.func28, Try.ntmps28
    go_wp2
    refine bodyPost_ret (v := .agg #[.int .u16 me, .int .i64 mn, .int .i64 mx, .int .i64 cf, .int .i64 8, .slice A n c]) (by simp [results, Try.results28, go_sem]) rfl ⟨rfl, KA.out _ _⟩

/-- A slice value reads as members. -/
def ReadsM (w : World) (S : Nat → Prop) (A : Option Addr) (l : List Mb) : Prop := Reads w S 3 A l.length (rows l)
theorem ReadsM.at_ {w : World} {S : Nat → Prop} {A : Option Addr} {l : List Mb} (h : ReadsM w S A l) (k : Nat) (m : Mb) (hk : l[k]? = some m) :
    ∃ b o, A = some ⟨b, o, none⟩ ∧ S b ∧ w.cell? ⟨b, o + k * 3, none⟩ = some (.int .u16 m.n) ∧ w.cell? ⟨b, o + k * 3 + 1, none⟩ = some (.int .u8 m.s) ∧ w.cell? ⟨b, o + k * 3 + 2, none⟩ = some (.int .i64 m.i) := by
  have hlt := (List.getElem?_eq_some_iff.1 hk).1
  obtain ⟨b, o, hA, hb, hc⟩ := h.2 (by omega)
  obtain ⟨h0, h1, h2⟩ := rows_get l k m hk
  exact ⟨b, o, hA, hb, hc _ _ h0, hc _ _ h1, hc _ _ h2⟩
set_option maxRecDepth 100000 in
set_option maxHeartbeats 4000000 in
/-- A list of members is itself (the two lie where they lie). -/
theorem sameM_any (A B : Option Addr) (ca cb : Nat) (a : List Mb) (w : World) (ha : ReadsM w (fun _ => True) A a) (hb : ReadsM w (fun _ => True) B a) (hlen : a.length ≤ 64) :
    Calls Try.prog 32 #[.slice A a.length ca, .slice B a.length cb] w fun e w' => e = .returned (.bool true) ∧ Below w.heap.size w w' := by
  go_enter Try.func32, Try.ntmps32
  go_wp2
  go_loopw [5] (fun i wr => ∃ k : Nat, k ≤ a.length ∧ i = .int .i64 k ∧ Below w.heap.size w wr) (fun i _ => a.length - (intOf i).toNat)
  case atStart => exact ⟨0, Nat.zero_le _, rfl, Below.refl _ _⟩
  case round =>
    obtain ⟨k, hk, rfl, hbw⟩ := hrel
    by_cases hlt : k < a.length
    · obtain ⟨x, hx⟩ : ∃ x, a[k]? = some x := ⟨a[k], List.getElem?_eq_getElem hlt⟩
      have ra : ReadsM wr (fun _ => True) A a := Reads.below ha (by omega) hbw
      have rb : ReadsM wr (fun _ => True) B a := Reads.below hb (by omega) hbw
      obtain ⟨p, o, rfl, _, c0, c1, c2⟩ := ra.at_ k x hx
      obtain ⟨p', o', rfl, _, d0, d1, d2⟩ := rb.at_ k x hx
      have hge0 : (0 : Int) ≤ (k : Int) := by omega
      have hltI : (k : Int) < (a.length : Int) := by omega
      have HA := Lib.hid ha
      have HB := Lib.hid hb
      have HW := Lib.hid hbw
      clear ha hb ra rb hbw hx
      go_wp2
      go_quiet (fail)
      go_wp2
      go_roundw
      case rel => exact ⟨k + 1, by omega, by go_num, below_drewN HW.out _⟩
      case measure => simp [intOf]; omega
    · obtain rfl : k = a.length := by omega
      go_wp2
      go_ret
      exact ⟨rfl, hbw⟩
end Go.Proofs.Ytadhcnfgbiokcaa
