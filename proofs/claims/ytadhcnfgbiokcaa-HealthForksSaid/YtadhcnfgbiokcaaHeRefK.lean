/- WORDS: the document's health in memory, and what its calls make of it. -/
import Derived.Test.YtadhcnfgbiokcaaHeRefD
import Derived.Test.YtadhcnfgbiokcaaHeRefE
import Derived.Test.YtadhcnfgbiokcaaHeRefF
import Derived.Test.YtadhcnfgbiokcaaHeRefG
import Derived.Test.YtadhcnfgbiokcaaHeRefH
import Derived.Test.YtadhcnfgbiokcaaHeRefI
import Derived.Test.YtadhcnfgbiokcaaHeRefJ
namespace Go.Proofs.Ytadhcnfgbiokcaa
set_option linter.unusedVariables false
set_option linter.unusedSimpArgs false
open Go.RowKit
/-- The document's health, as a value in a world: all that it reaches lies in blocks of which S holds. -/
def IsR (w : World) (S : Nat → Prop) (v : Value) (r : Rs) : Prop :=
  ∃ A c L, v = hval r A L.length c ∧ L.map (·.e) = r.l ∧ ReadsE w S A L ∧ ∀ x ∈ L, Reads w S 1 x.A x.e.who.length (u16s x.e.who)
section
variable {w w' : World} {S S' : Nat → Prop} {v : Value} {r : Rs}
theorem IsR.grown (h : IsR w S v r) {row : Option Nat} (hg : w.grownBy w' row) (hr : ∀ b, S b → some b ≠ row) : IsR w' S v r := by
  obtain ⟨A, c, L, h1, h2, h3, h4⟩ := h
  exact ⟨A, c, L, h1, h2, Reads.grown h3 (by omega) hg hr, fun x hx => Reads.grown (h4 x hx) (by omega) hg hr⟩
theorem IsR.below (h : IsR w S v r) (hb : Below w.heap.size w w') : IsR w' S v r := h.grown (grown_of_below hb none) (fun b _ e => by cases e)
theorem IsR.imp (h : IsR w S v r) (hS : ∀ b, S b → S' b) : IsR w S' v r := by
  obtain ⟨A, c, L, h1, h2, h3, h4⟩ := h
  exact ⟨A, c, L, h1, h2, Reads.imp h3 hS, fun x hx => Reads.imp (h4 x hx) hS⟩
end
theorem own_reads {w : World} {base n : Nat} {e : TypeId} {size c : Nat} {A : Option Addr} {xs : List Value} (h : w.ownsRow base e size (.slice A n c) n xs) : Reads w (fun b => base ≤ b) size A n xs := by
  obtain ⟨A', c', e', hr⟩ := Reads.of_own h
  injection e' with e1 e2 e3
  subst e1
  exact hr.imp (fun b hb => own_base h b hb)

theorem rsuspect_any (r : Rs) (v : Value) (n st i fr now : Int) (w : World) (S : Nat → Prop) (H : IsR w S v r) (HO : RsOk r) (hn : 0 ≤ n) (hfr : 0 ≤ fr) :
    Calls Try.prog 29 #[v, .agg #[.int .u16 n, .int .u8 st, .int .i64 i], .int .u16 fr, .int .i64 now] w fun e w' => ∃ v', e = .returned (.tuple #[v', .bool (rsusp r n st i fr now).1]) ∧ IsR w' (fun b => S b ∨ w.heap.size ≤ b) v' (rsusp r n st i fr now).2 ∧ Below w.heap.size w w' := by
  have HH := H
  obtain ⟨A, c, L, rfl, hL, hR, hW⟩ := H
  have hlen : L.length ≤ 64 := by have := HO.len; rw [← hL, List.length_map] at this; exact this
  have hRT : ReadsE w (fun _ => True) A L := Reads.imp hR (fun _ _ => trivial)
  have no : ∀ {C : Ending → World → Prop}, (∀ e w', C e w' → e = .returned (.tuple #[hval r A L.length c, .bool false]) ∧ Below w.heap.size w w') → Calls Try.prog 29 #[hval r A L.length c, .agg #[.int .u16 n, .int .u8 st, .int .i64 i], .int .u16 fr, .int .i64 now] w C →
      Calls Try.prog 29 #[hval r A L.length c, .agg #[.int .u16 n, .int .u8 st, .int .i64 i], .int .u16 fr, .int .i64 now] w fun e w' => ∃ v', e = .returned (.tuple #[v', .bool (false, r).1]) ∧ IsR w' (fun b => S b ∨ w.heap.size ≤ b) v' (false, r).2 ∧ Below w.heap.size w w' := by
    intro C hC hc
    refine hc.mono ?_
    intro e w' he
    obtain ⟨h1, h2⟩ := hC e w' he
    exact ⟨_, h1, (HH.below h2).imp (fun b hb => .inl hb), h2⟩
  have yes : ∀ (m : Em) (w' : World) (A' : Option Addr) (c' : Nat), w'.ownsRow w.heap.size 82 4 (.slice A' (setL L m).length c') (setL L m).length (ecells (setL L m)) → Below w.heap.size w w' → Reads w' (fun b => w.heap.size ≤ b) 1 m.A m.e.who.length (u16s m.e.who) →
      IsR w' (fun b => S b ∨ w.heap.size ≤ b) (hval r A' (setL L m).length c') (rwith r m.e) := by
    intro m w' A' c' ho hb hm
    refine ⟨A', c', setL L m, rfl, by rw [setL_ins, hL]; rfl, Reads.imp (own_reads ho) (fun b hb => .inr hb), fun x hx => ?_⟩
    rcases setL_mem m L x hx with rfl | hx
    · exact Reads.imp hm (fun b hb => .inr hb)
    · exact Reads.imp (Reads.below (hW x hx) (by omega) hb) (fun b hb => .inl hb)
  unfold rsusp
  by_cases hm : susMay (ofR r) n st i fr now
  · rw [if_pos hm]
    obtain ⟨rfl, m1, m2, m3, m4, m5, m6, m7⟩ := id hm
    have hfo := findE_of L n
    rw [hL] at hfo
    have a2 : ¬ 64 ≤ n := by omega
    have a3 : ¬ 64 ≤ fr := by omega
    have a4 : ¬ n = r.me := m3
    have a5 : ¬ i < 0 := by omega
    have a6 : ¬ 1073741824 < i := by omega
    have a7 : ¬ now < 0 := by omega
    have a8 : ¬ 1099511627776 < now := by omega
    have fin : ∀ {e : Ending} {w' : World}, (∃ Am cm A' c', e = .returned (.tuple #[.agg #[.int .u16 r.me, .int .i64 r.mn, .int .i64 r.mx, .int .i64 r.cf, .int .i64 r.sc, .slice A' (setL L ⟨⟨n, i, now, [fr]⟩, Am, cm⟩).length c'], .bool true]) ∧ w'.ownsRow w.heap.size 82 4 (.slice A' (setL L ⟨⟨n, i, now, [fr]⟩, Am, cm⟩).length c') (setL L ⟨⟨n, i, now, [fr]⟩, Am, cm⟩).length (ecells (setL L ⟨⟨n, i, now, [fr]⟩, Am, cm⟩)) ∧ Below w.heap.size w w' ∧ Reads w' (fun b => w.heap.size ≤ b) 1 Am 1 (u16s [fr])) →
        ∃ v', e = .returned (.tuple #[v', .bool true]) ∧ IsR w' (fun b => S b ∨ w.heap.size ≤ b) v' (rwith r ⟨n, i, now, [fr]⟩) ∧ Below w.heap.size w w' := by
      rintro e w' ⟨Am, cm, A', c', h1, h2, h3, h4⟩
      exact ⟨_, h1, yes ⟨⟨n, i, now, [fr]⟩, Am, cm⟩ w' A' c' h2 h3 h4, h3⟩
    cases hf : findE L n with
    | none =>
      rw [hf] at hfo
      rw [← hfo]
      exact (rss_none r.me r.mn r.mx r.cf r.sc n i fr now A c L w a2 a3 a4 a5 a6 a7 a8 hRT hlen hf).mono (fun e w' h => fin h)
    | some x =>
      rw [hf] at hfo
      have hx : x ∈ L := List.mem_of_find?_eq_some hf
      have hxr : x.e ∈ r.l := by rw [← hL]; exact List.mem_map_of_mem hx
      obtain ⟨s1, s2, s3, s4⟩ := HO.su hxr
      rw [← hfo]
      simp only [Option.map_some]
      by_cases c1 : x.e.i < i
      · rw [if_pos c1]
        exact (rss_low r.me r.mn r.mx r.cf r.sc n i fr now A c L w a2 a3 a4 a5 a6 a7 a8 hRT hlen x hf c1).mono (fun e w' h => fin h)
      · rw [if_neg c1]
        by_cases c2 : i < x.e.i
        · rw [if_pos (.inl c2)]
          exact no (fun e w' q => q) (rss_old r.me r.mn r.mx r.cf r.sc n i fr now A c L w a2 a3 a4 a5 a6 a7 a8 hRT hlen x hf c2)
        · by_cases c3 : r.cf < (x.e.who.length : Int)
          · rw [if_pos (.inr (.inl c3))]
            exact no (fun e w' q => q) (rss_full r.me r.mn r.mx r.cf r.sc n i fr now A c L w a2 a3 a4 a5 a6 a7 a8 hRT hlen x hf c1 c2 c3)
          · have hcf := HO.ok.ok.cf
            have hcf2 : r.cf ≤ 16 := hcf.2
            have hmore := rss_more r.me r.mn r.mx r.cf r.sc n i fr now A c L w a2 a3 a4 a5 a6 a7 a8 hRT hlen x hf c1 c2 c3 s1 (by omega) (Reads.imp (hW x hx) (fun _ _ => trivial))
            by_cases c4 : fr ∈ x.e.who
            · rw [if_pos (.inr (.inr c4))]
              exact no (fun e w' q => q) (hmore.mono (fun e w' h => by
                rcases h with ⟨_, h⟩ | ⟨h, _⟩
                · exact h
                · exact absurd c4 h))
            · rw [if_neg (by simp only [not_or]; exact ⟨c2, c3, c4⟩)]
              refine hmore.mono (fun e w' h => ?_)
              rcases h with ⟨h, _⟩ | ⟨_, Am, cm, A', c', h1, h2, h3, h4⟩
              · exact absurd h c4
              · exact ⟨_, h1, yes ⟨⟨x.e.n, x.e.i, x.e.f, x.e.who ++ [fr]⟩, Am, cm⟩ w' A' c' h2 h3 h4, h3⟩
  · rw [if_neg hm]
    unfold susMay at hm
    have hme : (ofR r).me = r.me := rfl
    rw [hme] at hm
    by_cases h1 : st = 1
    · subst h1
      by_cases h2 : 64 ≤ n
      · exact no (fun e w' q => q) (rsr_far r.me r.mn r.mx r.cf r.sc n i fr now A c L w h2)
      · by_cases h3 : 64 ≤ fr
        · exact no (fun e w' q => q) (rsr_from r.me r.mn r.mx r.cf r.sc n i fr now A c L w h2 h3)
        · by_cases h4 : n = r.me
          · exact no (fun e w' q => q) (rsr_self r.me r.mn r.mx r.cf r.sc n i fr now A c L w (.inr h2) h3 h4)
          · by_cases h5 : i < 0
            · exact no (fun e w' q => q) (rsr_low r.me r.mn r.mx r.cf r.sc n i fr now A c L w h2 h3 h4 h5)
            · by_cases h6 : 1073741824 < i
              · exact no (fun e w' q => q) (rsr_high r.me r.mn r.mx r.cf r.sc n i fr now A c L w h2 h3 h4 h5 h6)
              · by_cases h7 : now < 0
                · exact no (fun e w' q => q) (rsr_past r.me r.mn r.mx r.cf r.sc n i fr now A c L w h2 h3 h4 h5 h6 h7)
                · by_cases h8 : 1099511627776 < now
                  · exact no (fun e w' q => q) (rsr_late r.me r.mn r.mx r.cf r.sc n i fr now A c L w h2 h3 h4 h5 h6 h7 h8)
                  · exact absurd ⟨rfl, by omega, by omega, h4, by omega, by omega, by omega, by omega⟩ hm
    · exact no (fun e w' q => q) (rsr_state r.me r.mn r.mx r.cf r.sc n i fr now st A c L w h1)

theorem rclear_any2 (r : Rs) (v : Value) (n st i : Int) (w : World) (S : Nat → Prop) (H : IsR w S v r) (HO : RsOk r) :
    Calls Try.prog 27 #[v, .agg #[.int .u16 n, .int .u8 st, .int .i64 i]] w fun e w' => ∃ v', e = .returned (.tuple #[v', .bool (rclr r n st i).1]) ∧ IsR w' (fun b => S b ∨ w.heap.size ≤ b) v' (rclr r n st i).2 ∧ Below w.heap.size w w' := by
  obtain ⟨A, c, L, rfl, hL, hR, hW⟩ := H
  have hlen : L.length ≤ 64 := by have := HO.len; rw [← hL, List.length_map] at this; exact this
  have hmap : (L.filter (fun x => rkeep n st i x.e)).map (·.e) = r.l.filter (rkeep n st i) := by
    rw [← hL, List.filter_map]
    rfl
  refine (rclear_any r A c L n st i w (Reads.imp hR (fun _ _ => trivial)) hlen).mono ?_
  rintro e w' ⟨A', c', h1, h2, h3⟩
  refine ⟨_, ?_, ⟨A', c', _, rfl, hmap, Reads.imp (own_reads h2) (fun b hb => .inr hb), fun x hx => Reads.imp (Reads.below (hW x (List.mem_filter.1 hx).1) (by omega) h3) (fun b hb => .inl hb)⟩, h3⟩
  rw [h1]
  have e1 : (L.filter (fun x => rkeep n st i x.e)).length = (r.l.filter (rkeep n st i)).length := by rw [← hmap, List.length_map]
  have e2 : L.length = r.l.length := by rw [← hL, List.length_map]
  unfold rclr
  simp only
  rw [← e1, ← e2]
  rfl
theorem rbump_any2 (r : Rs) (v : Value) (b : Int) (w : World) (S : Nat → Prop) (H : IsR w S v r) (HO : RsOk r) :
    Calls Try.prog 28 #[v, .int .i64 b] w fun e w' => ∃ v', e = .returned v' ∧ IsR w' S v' (rbump r b) ∧ Below w.heap.size w w' := by
  obtain ⟨A, c, L, rfl, hL, hR, hW⟩ := H
  refine (rbump_any r b A L.length c w HO.ok.ok.sc).mono ?_
  rintro e w' ⟨h1, h2⟩
  exact ⟨_, h1, ⟨A, c, L, rfl, hL, Reads.below hR (by omega) h2, fun x hx => Reads.below (hW x hx) (by omega) h2⟩, h2⟩
end Go.Proofs.Ytadhcnfgbiokcaa
