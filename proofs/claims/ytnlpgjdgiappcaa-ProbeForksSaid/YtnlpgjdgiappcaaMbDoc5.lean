/- WALKS: the document's table: Hear as a whole; SameNodes, There, Position. -/
import Derived.Test.YtnlpgjdgiappcaaMbDoc4
import Derived.Test.YtnlpgjdgiappcaaMbPos
namespace Go.Proofs.Ytnlpgjdgiappcaa
set_option linter.unusedVariables false
set_option linter.unusedSimpArgs false
open Go.RowKit

theorem listLen (F : Pl.Tab) : (Pl.listT F).length ≤ 64 := by
  have := List.length_filterMap_le F (List.range 64)
  rwa [List.length_range] at this

theorem refHear_any (z : Int) (F : Pl.Tab) (A : Option Addr) (c : Nat) (m : Pl.M) (w : World) (S : Nat → Prop) (hF : Pl.TOk z F) (hm : Pl.MOk m) (hR : ReadsM w S A (Pl.listT F)) (hS : ∀ b, w.heap.size ≤ b → S b) :
    Calls Try.prog 28 #[.agg #[.int .u16 z, .slice A (Pl.listT F).length c], .agg (mcells m)] w fun e w' => ∃ A' c', e = .returned (rheardVal (.agg #[.int .u16 z, .slice A' (Pl.listT (Pl.heard z F m)).length c']) (Pl.hear z F m)) ∧
      ReadsM w' S A' (Pl.listT (Pl.heard z F m)) ∧ Below w.heap.size w w' := by
  have hl := listLen F
  have hT : ReadsM w (fun _ => True) A (Pl.listT F) := hR.imp fun _ _ => trivial
  have hfind := Pl.find_list hF m.n hm.n0
  by_cases hmay : Pl.mayM m = true
  · have hn64 : m.n < 64 := (Pl.mayM_iff.1 hmay).1
    have yes : (Pl.findL (Pl.listT F) m.n = none ∨ ∃ o, Pl.findL (Pl.listT F) m.n = some o ∧ Pl.above m o = true) → Pl.hear z F m = some (Pl.bump z m) →
        Calls Try.prog 28 #[.agg #[.int .u16 z, .slice A (Pl.listT F).length c], .agg (mcells m)] w fun e w' => ∃ A' c', e = .returned (rheardVal (.agg #[.int .u16 z, .slice A' (Pl.listT (Pl.heard z F m)).length c']) (Pl.hear z F m)) ∧
          ReadsM w' S A' (Pl.listT (Pl.heard z F m)) ∧ Below w.heap.size w w' := by
      intro h1 h2
      refine (refHear_yes z A c (Pl.listT F) m w hm hT (by omega) hmay h1).mono ?_
      rintro e w' ⟨v, rfl, ho, hb⟩
      have e3 : Pl.setL (Pl.listT F) (Pl.bump z m) = Pl.listT (Pl.heard z F m) := by
        rw [Pl.set_list hF (Pl.bump z m) (by rw [Pl.bump_n]; exact hm.n0) (by rw [Pl.bump_n]; exact hn64)]
        unfold Pl.heard
        rw [h2]
      rw [e3] at ho
      obtain ⟨A', c', rfl, hr⟩ := Reads.of_own ho
      refine ⟨A', c', by rw [h2], hr.imp fun b hb' => hS b (own_base ho b hb'), hb⟩
    cases ho : F m.n.toNat with
    | none =>
      have h2 : Pl.hear z F m = some (Pl.bump z m) := by simp [Pl.hear, hmay, ho]
      exact yes (.inl (by rw [hfind, ho])) h2
    | some o =>
      by_cases hab : Pl.above m o = true
      · have h2 : Pl.hear z F m = some (Pl.bump z m) := by simp [Pl.hear, hmay, ho, hab]
        exact yes (.inr ⟨o, by rw [hfind, ho], hab⟩) h2
      · have hab : Pl.above m o = false := by simpa using hab
        have h2 : Pl.hear z F m = none := by simp [Pl.hear, hmay, ho, hab]
        have h3 : Pl.heard z F m = F := by simp [Pl.heard, h2]
        rw [h2, h3]
        refine (refHear_no z A c (Pl.listT F) m w hm hT (by omega) (.inr ⟨hmay, o, by rw [hfind, ho], hab⟩)).mono ?_
        rintro e w' ⟨rfl, hb⟩
        exact ⟨A, c, rfl, hR.below (by omega) hb, hb⟩
  · have hmay : Pl.mayM m = false := by simpa using hmay
    have h2 : Pl.hear z F m = none := by simp [Pl.hear, hmay]
    have h3 : Pl.heard z F m = F := by simp [Pl.heard, h2]
    rw [h2, h3]
    refine (refHear_no z A c (Pl.listT F) m w hm hT (by omega) (.inl hmay)).mono ?_
    rintro e w' ⟨rfl, hb⟩
    exact ⟨A, c, rfl, hR.below (by omega) hb, hb⟩

set_option maxRecDepth 100000 in
set_option maxHeartbeats 1000000 in
theorem sameNodes_any (A B : Option Addr) (c d : Nat) (a : List Int) (w : World) (ha : Reads w (fun _ => True) 1 A a.length (u16s a)) (hb : Reads w (fun _ => True) 1 B a.length (u16s a)) (hla : a.length ≤ 65536) :
    Calls Try.prog 48 #[.slice A a.length c, .slice B a.length d] w fun e w' => e = .returned (.bool true) ∧ Below w.heap.size w w' := by
  go_enter Try.func48, Try.ntmps48
  go_wp2
  go_loopw [5] (fun i wr => ∃ k : Nat, k ≤ a.length ∧ i = .int .i64 k ∧ Below w.heap.size w wr) (fun i _ => a.length - (intOf i).toNat)
  case atStart => exact ⟨0, Nat.zero_le _, rfl, Below.refl _ _⟩
  case round =>
    obtain ⟨k, hk, rfl, hbw⟩ := hrel
    by_cases hlt : k < a.length
    · obtain ⟨x, hx⟩ : ∃ x, a[k]? = some x := ⟨a[k], List.getElem?_eq_getElem hlt⟩
      have ra := ha.below (by omega) hbw
      have rb := hb.below (by omega) hbw
      obtain ⟨p, o, rfl, _, hc⟩ := ra.2 (by omega)
      obtain ⟨p', o', rfl, _, hd⟩ := rb.2 (by omega)
      have c0 := hc k _ (u16s_get a k x hx)
      have d0 := hd k _ (u16s_get a k x hx)
      have hge0 : (0 : Int) ≤ (k : Int) := by omega
      have hltI : (k : Int) < (a.length : Int) := by omega
      have HA := Lib.hid ha
      have HB := Lib.hid hb
      have HW := Lib.hid hbw
      clear ha hb ra rb hbw hx hc hd
      go_wp2
      go_quiet (fail)
      go_wp2
      go_roundw
      case rel => exact ⟨k + 1, by omega, by go_num, below_drewN HW.out _⟩
      case measure => simp [intOf]; omega
    · obtain rfl : k = a.length := by omega
      go_wp2
      go_ret
      exact ⟨rfl, hbw⟩

end Go.Proofs.Ytnlpgjdgiappcaa
