/- WALKS: label.Get, the document's Light, match.One. -/
import Derived.Test.YtnidjfmbbfoheaaMaC
namespace Go.Proofs.Ytnidjfmbbfoheaa
set_option linter.unusedVariables false
set_option linter.unusedSimpArgs false
open Go.RowKit

theorem bs_inj {a b : List Nat} (ha : ∀ x ∈ a, x < 256) (hb : ∀ x ∈ b, x < 256) (h : bs a = bs b) : a = b := by
  have h2 : (bs a).toList = (bs b).toList := by rw [h]
  rw [bs_list, bs_list] at h2
  have h3 : (a.map UInt8.ofNat).map UInt8.toNat = (b.map UInt8.ofNat).map UInt8.toNat := by rw [h2]
  rw [List.map_map, List.map_map] at h3
  have e : ∀ l : List Nat, (∀ x ∈ l, x < 256) → l.map (UInt8.toNat ∘ UInt8.ofNat) = l := fun l hl => by
    conv => rhs; rw [← List.map_id l]
    exact List.map_congr_left (fun x hx => by have := hl x hx; simp; omega)
  rwa [e a ha, e b hb] at h3
theorem bs_beq {a b : List Nat} (ha : ∀ x ∈ a, x < 256) (hb : ∀ x ∈ b, x < 256) : ((bs a).toList == (bs b).toList) = decide (a = b) := by
  rw [Bool.eq_iff_iff, beq_iff_eq, decide_eq_true_eq]
  exact ⟨fun h => bs_inj ha hb (by
    rw [ByteArray.toList_eq, ByteArray.toList_eq] at h
    exact ByteArray.ext (Array.toList_inj.1 h)), fun h => by rw [h]⟩
theorem getB_find (l : List Pr) (n : List Nat) : ∀ (i : Nat) (p : Pr), (∀ (j : Nat) (q : Pr), j < i → l[j]? = some q → q.n ≠ n) → l[i]? = some p → p.n = n → getB l n = p.v := by
  induction l with
  | nil => intro i p _ h; simp at h
  | cons q r ih =>
    intro i p hj hp hn
    cases i with
    | zero => simp at hp; subst hp; simp [getB, hn]
    | succ i =>
      have h0 := hj 0 q (by omega) rfl
      unfold getB
      rw [if_neg h0]
      exact ih i p (fun j q' hlt hq => hj (j + 1) q' (by omega) (by simpa using hq)) (by simpa using hp) hn
theorem getB_none (l : List Pr) (n : List Nat) (h : ∀ q ∈ l, q.n ≠ n) : getB l n = [] := by
  induction l with
  | nil => rfl
  | cons q r ih =>
    unfold getB
    rw [if_neg (h q (by simp))]
    exact ih (fun q' hq => h q' (by simp [hq]))
set_option maxRecDepth 100000 in
set_option maxHeartbeats 2000000 in
theorem get_any (A0 : Option Addr) (cp : Nat) (l : List Pr) (n : List Nat) (w : World) (hn : ∀ x ∈ n, x < 256) (hlen : l.length ≤ 9223372036854775807) (R : ReadsP w (fun b => b < w.heap.size) A0 l) (hl : ∀ p ∈ l, p.Ok) :
    Calls Try.prog 36 #[.slice A0 l.length cp, .string (bs n)] w fun e w' => e = .returned (.string (bs (getB l n))) ∧ Below w.heap.size w w' := by
  obtain ⟨G, hG⟩ : ∃ G, bs (getB l n) = G := ⟨_, rfl⟩
  rw [hG]
  have HG := Lib.hid hG
  have HR := Lib.hid R
  have HL := Lib.hid hl
  have HN := Lib.hid hn
  clear hG R hl hn
  obtain ⟨bn, hbn⟩ : ∃ b, bs n = b := ⟨_, rfl⟩
  rw [hbn]
  have HB := Lib.hid hbn
  clear hbn
  go_enter Try.func36, Try.ntmps36
  go_wp2
  go_loopg [9] l.length (fun gg s9 wr => ∃ i : Nat, s9 = .int .i64 (i : Int) ∧ i ≤ l.length ∧ l.length - i ≤ gg ∧ Hid (∀ j q, j < i → l[j]? = some q → q.n ≠ n) ∧ Hid (Below w.heap.size w wr))
  case atStart => exact ⟨0, by go_num, by omega, by omega, Lib.hid (fun j q h => by omega), Lib.hid (Below.refl _ _)⟩
  case round =>
    obtain ⟨i, rfl, hi, hgg, HJ, K1⟩ := hrel
    by_cases hlt : i < l.length
    · have hiI : (i : Int) < (l.length : Int) := by omega
      have hi0 : (0 : Int) ≤ (i : Int) := by omega
      obtain ⟨b, o, rfl, hb, hcell⟩ := (HR.out.below (by omega) K1.out).2 (by omega)
      obtain ⟨p, hp⟩ : ∃ p, l[i]? = some p := ⟨_, List.getElem?_eq_getElem hlt⟩
      obtain ⟨g0, g1⟩ := prs_get l i p hp
      have c0 := hcell _ _ g0
      have c1 := hcell _ _ g1
      rw [← Nat.add_assoc] at c1
      have hpo := HL.out p (List.mem_of_getElem? hp)
      have hcmp := bs_beq hpo.1 HN.out
      have HP := Lib.hid hp
      have HPO := Lib.hid hpo
      clear hp hpo g0 g1 hcell
      rw [HB.out] at hcmp
      by_cases he : p.n = n
      · rw [decide_eq_true he] at hcmp
        have HV : Hid (bs p.v = G) := Lib.hid (by rw [← HG.out, getB_find l n i p HJ.out HP.out he])
        have HE := Lib.hid he
        clear he
        generalize bs p.n = pn at *
        generalize bs p.v = pv at *
        go_wp2
        go_ret
        exact ⟨by rw [HV.out]; rfl, K1.out.alloc K1.out.size _⟩
      · rw [decide_eq_false he] at hcmp
        have HE := Lib.hid he
        clear he
        generalize bs p.n = pn at *
        generalize bs p.v = pv at *
        go_wp2
        go_roundg (l.length - (i + 1))
        case measure => omega
        case rel =>
          refine ⟨i + 1, by go_num, by omega, by omega, Lib.hid (fun j q hj hq => ?_), Lib.hid (K1.out.alloc K1.out.size _)⟩
          by_cases hji : j = i
          · subst hji; rw [HP.out] at hq; injection hq with hq; subst hq; exact HE.out
          · exact HJ.out j q (by omega) hq
    · have hie : i = l.length := by omega
      have hv : (⟨#[]⟩ : ByteArray) = G := by
        rw [← HG.out, getB_none l n (fun q hq => by
          obtain ⟨k, hk⟩ := List.mem_iff_getElem?.1 hq
          exact HJ.out k q (by rw [hie]; exact (List.getElem?_eq_some_iff.1 hk).1) hk)]
        rfl
      subst hv
      subst hie
      go_wp2
      go_ret
      exact ⟨rfl, K1.out⟩
set_option maxRecDepth 100000 in
set_option maxHeartbeats 2000000 in
theorem light_loop (Am : Value) (A0 : Option Addr) (cp : Nat) (l : List Pr) (w : World) (hAm : Am = .slice none 0 0) (hlen : l.length ≤ 40) (R : ReadsP w (fun b => b < w.heap.size) A0 l) (hl : ∀ p ∈ l, p.Ok) :
    Calls Try.prog 29 #[Am, .slice A0 l.length cp] w fun e w' => e = .returned (.bool (l.all fun p => decide (p.v.length ≤ 200))) ∧ Below w.heap.size w w' := by
  subst hAm
  obtain ⟨G, hG⟩ : ∃ G, (l.all fun p => decide (p.v.length ≤ 200)) = G := ⟨_, rfl⟩
  rw [hG]
  have HG := Lib.hid hG
  have HR := Lib.hid R
  have HL := Lib.hid hl
  clear hG R hl
  have i40 : ¬ (40 : Int) < (l.length : Int) := by omega
  go_enter Try.func29, Try.ntmps29
  go_wp2
  go_loopg [5] l.length (fun gg s5 wr => ∃ i : Nat, s5 = .int .i64 (i : Int) ∧ i ≤ l.length ∧ l.length - i ≤ gg ∧ Hid (∀ j q, j < i → l[j]? = some q → q.v.length ≤ 200) ∧ Hid (Below w.heap.size w wr))
  case atStart => exact ⟨0, by go_num, by omega, by omega, Lib.hid (fun j q h => by omega), Lib.hid (Below.refl _ _)⟩
  case round =>
    obtain ⟨i, rfl, hi, hgg, HJ, K1⟩ := hrel
    by_cases hlt : i < l.length
    · have hiI : (i : Int) < (l.length : Int) := by omega
      have hi0 : (0 : Int) ≤ (i : Int) := by omega
      obtain ⟨b, o, rfl, hb, hcell⟩ := (HR.out.below (by omega) K1.out).2 (by omega)
      obtain ⟨p, hp⟩ : ∃ p, l[i]? = some p := ⟨_, List.getElem?_eq_getElem hlt⟩
      obtain ⟨g0, g1⟩ := prs_get l i p hp
      have c1 := hcell _ _ g1
      rw [← Nat.add_assoc] at c1
      have hpo := HL.out p (List.mem_of_getElem? hp)
      have hsz := bs_size p.v
      have hpv := hpo.2.2.2
      have HP := Lib.hid hp
      clear hp hpo g0 g1 hcell
      by_cases he : p.v.length ≤ 200
      · have ie : ¬ (200 : Int) < (p.v.length : Int) := by omega
        generalize bs p.v = pv at *
        go_wp2
        go_roundg (l.length - (i + 1))
        case measure => omega
        case rel =>
          refine ⟨i + 1, by go_num, by omega, by omega, Lib.hid (fun j q hj hq => ?_), K1⟩
          by_cases hji : j = i
          · subst hji; rw [HP.out] at hq; injection hq with hq; subst hq; exact he
          · exact HJ.out j q (by omega) hq
      · have ie : (200 : Int) < (p.v.length : Int) := by omega
        have hv : G = false := by
          rw [← HG.out, Bool.eq_false_iff]
          intro h
          rw [List.all_eq_true] at h
          have := h p (List.mem_of_getElem? HP.out)
          simp at this
          omega
        subst hv
        generalize bs p.v = pv at *
        go_wp2
        go_ret
        exact ⟨rfl, K1.out⟩
    · have hie : i = l.length := by omega
      have hv : G = true := by
        rw [← HG.out, List.all_eq_true]
        intro q hq
        obtain ⟨k, hk⟩ := List.mem_iff_getElem?.1 hq
        have := HJ.out k q (by rw [hie]; exact (List.getElem?_eq_some_iff.1 hk).1) hk
        simpa using this
      subst hv
      subst hie
      go_wp2
      go_ret
      exact ⟨rfl, K1.out⟩
set_option maxRecDepth 100000 in
theorem light_far (Am : Value) (A0 : Option Addr) (cp : Nat) (n : Nat) (w : World) (hAm : Am = .slice none 0 0) (hlen : 40 < n) :
    Calls Try.prog 29 #[Am, .slice A0 n cp] w fun e w' => e = .returned (.bool false) ∧ Below w.heap.size w w' := by
  subst hAm
  have i40 : (40 : Int) < (n : Int) := by omega
  go_enter Try.func29, Try.ntmps29
  go_wp2
  go_ret
  exact ⟨rfl, Below.refl _ _⟩
theorem light_any (A0 : Option Addr) (cp : Nat) (l : List Pr) (w : World) (R : ReadsP w (fun b => b < w.heap.size) A0 l) (hl : ∀ p ∈ l, p.Ok) :
    Calls Try.prog 29 #[.slice none 0 0, .slice A0 l.length cp] w fun e w' => e = .returned (.bool (lightB l)) ∧ Below w.heap.size w w' := by
  unfold lightB
  by_cases h : l.length ≤ 40
  · rw [decide_eq_true h, Bool.true_and]
    exact light_loop _ A0 cp l w rfl h R hl
  · rw [decide_eq_false h, Bool.false_and]
    exact light_far _ A0 cp l.length w rfl (by omega)
end Go.Proofs.Ytnidjfmbbfoheaa
