/- PLAIN LAW: the document's health (a list of suspicions by rising nodes) is the program's (an array of them). -/
import Derived.Test.YtadhcnfgbiokcaaHeLaw
import Derived.Test.YtadhcnfgbiokcaaHeDue
namespace Go.Proofs.Ytadhcnfgbiokcaa
set_option linter.unusedVariables false
set_option linter.unusedSimpArgs false

/-! ### who said so, as bits -/
def bitsOf : List Int → Nat
  | [] => 0
  | u :: r => bitsOf r + 2 ^ u.toNat
def WhoOk (l : List Int) : Prop := l.Nodup ∧ ∀ u ∈ l, 0 ≤ u ∧ u < 64
theorem bit_add (x k j : Nat) (h : x / 2 ^ k % 2 = 0) : (x + 2 ^ k) / 2 ^ j % 2 = 1 ↔ (k = j ∨ x / 2 ^ j % 2 = 1) := by
  rw [← or_bit x k h]
  have e : ∀ y : Nat, (y / 2 ^ j % 2 = 1) ↔ y.testBit j = true := fun y => by rw [Nat.testBit_eq_decide_div_mod_eq]; simp
  rw [e, e, Nat.testBit_or, Nat.testBit_two_pow]
  simp only [Bool.or_eq_true, decide_eq_true_eq]
  exact or_comm
theorem bitsOf_ok (l : List Int) (h : WhoOk l) : bitsOf l < 18446744073709551616 ∧ He.ones (bitsOf l) = l.length ∧ ∀ u : Int, 0 ≤ u → u < 64 → (bitsOf l / 2 ^ u.toNat % 2 = 1 ↔ u ∈ l) := by
  induction l with
  | nil => exact ⟨by decide, by decide, fun u _ _ => by simp [bitsOf]⟩
  | cons v r ih =>
    have hr : WhoOk r := ⟨(List.nodup_cons.1 h.1).2, fun u hu => h.2 u (List.mem_cons_of_mem _ hu)⟩
    obtain ⟨i1, i2, i3⟩ := ih hr
    have hv := h.2 v (List.mem_cons_self ..)
    have hb : bitsOf r / 2 ^ v.toNat % 2 = 0 := by
      exact (Nat.mod_two_eq_zero_or_one _).resolve_right (fun c => (List.nodup_cons.1 h.1).1 ((i3 v hv.1 hv.2).1 c))
    obtain ⟨m1, m2⟩ := ones_more i1 (by omega : v.toNat < 64) hb
    refine ⟨m2, by rw [bitsOf, m1, i2]; rfl, fun u h0 h1 => ?_⟩
    rw [bitsOf, bit_add _ _ _ hb, i3 u h0 h1, List.mem_cons]
    constructor
    · rintro (e | e)
      · exact .inl (by omega)
      · exact .inr e
    · rintro (e | e)
      · exact .inl (by rw [e])
      · exact .inr e
theorem bitsOf_append (l : List Int) (u : Int) : bitsOf (l ++ [u]) = bitsOf l + 2 ^ u.toNat := by
  induction l with
  | nil => simp [bitsOf]
  | cons v r ih => rw [List.cons_append, bitsOf, bitsOf, ih]; omega

/-! ### the document's health -/
structure Ru where
  n : Int
  i : Int
  f : Int
  who : List Int
structure Rs where
  me : Int
  mn : Int
  mx : Int
  cf : Int
  sc : Int
  l : List Ru
def rfind (l : List Ru) (n : Int) : Option Ru := l.find? (fun e => e.n == n)
def suOf (e : Ru) : Su := ⟨e.i, e.f, bitsOf e.who⟩
/-- The program's health that the document's is. -/
def ofR (r : Rs) : Hs := ⟨r.me, r.mn, r.mx, r.cf, r.sc, fun k => (rfind r.l (k : Int)).map suOf⟩
/-- The document's health is as it may be. -/
structure RsOk (r : Rs) : Prop where
  ok : HsOk (ofR r)
  up : r.l.Pairwise (fun a b => a.n < b.n)
  n : ∀ e ∈ r.l, 0 ≤ e.n ∧ e.n < 64
  who : ∀ e ∈ r.l, WhoOk e.who
theorem rfind_some {l : List Ru} {n : Int} {e : Ru} (h : rfind l n = some e) : e ∈ l ∧ e.n = n :=
  ⟨List.mem_of_find?_eq_some h, by have := List.find?_some h; simpa using this⟩
theorem rfind_none {l : List Ru} {n : Int} (h : rfind l n = none) : ∀ e ∈ l, ¬ e.n = n := fun e he => by
  have := List.find?_eq_none.1 h e he
  simpa using this
theorem rfind_cons (e : Ru) (l : List Ru) (n : Int) : rfind (e :: l) n = if e.n = n then some e else rfind l n := by
  unfold rfind
  rw [List.find?_cons]
  by_cases h : e.n = n
  · rw [if_pos h, show (e.n == n) = true by simpa using h]
  · rw [if_neg h, show (e.n == n) = false by simpa using h]
/-- A suspicion in its place. -/
def ins (s : Ru) : List Ru → List Ru
  | [] => [s]
  | e :: r => if s.n ≤ e.n then s :: (e :: r).filter (fun x => x.n != s.n) else e :: ins s r
theorem rfind_filter (l : List Ru) (n k : Int) (h : ¬ k = n) : rfind (l.filter (fun x => x.n != n)) k = rfind l k := by
  induction l with
  | nil => rfl
  | cons e r ih =>
    rw [List.filter_cons]
    split
    · rw [rfind_cons, rfind_cons, ih]
    · rename_i hne
      have : e.n = n := by simpa using hne
      rw [ih, rfind_cons, if_neg (by omega)]
theorem rfind_ins (s : Ru) (l : List Ru) (k : Int) : rfind (ins s l) k = if k = s.n then some s else rfind l k := by
  induction l with
  | nil =>
    rw [ins, rfind_cons]
    by_cases h : k = s.n
    · simp [h]
    · rw [if_neg h, if_neg (by omega)]
  | cons e r ih =>
    rw [ins]
    split
    · rw [rfind_cons]
      by_cases h : k = s.n
      · rw [if_pos h, if_pos h.symm]
      · rw [if_neg h, if_neg (by omega), rfind_filter _ _ _ h]
    · rw [rfind_cons, rfind_cons, ih]
      by_cases h : k = s.n
      · rw [if_pos h, if_pos h, if_neg (by omega)]
      · rw [if_neg h, if_neg h]
theorem ins_mem (s : Ru) (l : List Ru) : ∀ e ∈ ins s l, e = s ∨ e ∈ l := by
  induction l with
  | nil => intro e he; rw [ins, List.mem_singleton] at he; exact .inl he
  | cons x r ih =>
    intro e he
    rw [ins] at he
    split at he
    · rcases List.mem_cons.1 he with h | h
      · exact .inl h
      · exact .inr ((List.mem_filter.1 h).1)
    · rcases List.mem_cons.1 he with h | h
      · exact .inr (h ▸ List.mem_cons_self ..)
      · rcases ih e h with h | h
        · exact .inl h
        · exact .inr (List.mem_cons_of_mem _ h)
theorem ins_up (s : Ru) (l : List Ru) (h : l.Pairwise (fun a b => a.n < b.n)) : (ins s l).Pairwise (fun a b => a.n < b.n) := by
  induction l with
  | nil => exact List.pairwise_singleton ..
  | cons x r ih =>
    obtain ⟨h1, h2⟩ := List.pairwise_cons.1 h
    rw [ins]
    split
    · rename_i hle
      refine List.pairwise_cons.2 ⟨fun e he => ?_, h.filter _⟩
      obtain ⟨hm, hn⟩ := List.mem_filter.1 he
      have hn : ¬ e.n = s.n := by simpa using hn
      rcases List.mem_cons.1 hm with rfl | hm
      · omega
      · have := h1 e hm; omega
    · rename_i hle
      refine List.pairwise_cons.2 ⟨fun e he => ?_, ih h2⟩
      rcases ins_mem s r e he with rfl | hm
      · omega
      · exact h1 e hm
def rwith (r : Rs) (s : Ru) : Rs := { r with l := ins s r.l }
theorem ofR_with (r : Rs) (s : Ru) (h0 : 0 ≤ s.n) : ofR (rwith r s) = (ofR r).at_ s.n.toNat (some (suOf s)) := by
  unfold ofR rwith Hs.at_
  simp only
  congr 1
  funext k
  rw [rfind_ins]
  by_cases h : (k : Int) = s.n
  · rw [if_pos h, if_pos (by omega)]; rfl
  · rw [if_neg h, if_neg (by omega)]
theorem rfind_far {r : Rs} (H : RsOk r) {n : Int} (h : 64 ≤ n) : rfind r.l n = none := by
  cases hf : rfind r.l n with
  | none => rfl
  | some e =>
    obtain ⟨h1, h2⟩ := rfind_some hf
    have := H.n e h1
    omega

/-! ### Suspect -/
def rsusp (r : Rs) (n st i fr now : Int) : Bool × Rs :=
  if susMay (ofR r) n st i fr now then
    match rfind r.l n with
    | none => (true, rwith r ⟨n, i, now, [fr]⟩)
    | some s =>
      if s.i < i then (true, rwith r ⟨n, i, now, [fr]⟩)
      else if i < s.i ∨ r.cf < (s.who.length : Int) ∨ fr ∈ s.who then (false, r)
      else (true, rwith r ⟨s.n, s.i, s.f, s.who ++ [fr]⟩)
  else (false, r)
theorem susp_of (r : Rs) (H : RsOk r) (n st i fr now : Int) (h0 : 0 ≤ n) (h1 : 0 ≤ fr) : susp (ofR r) n st i fr now = ((rsusp r n st i fr now).1, ofR (rsusp r n st i fr now).2) := by
  unfold rsusp
  by_cases hm : susMay (ofR r) n st i fr now
  · rw [if_pos hm]
    have hfr : fr < 64 := hm.2.2.1
    have hn : ((n.toNat : Nat) : Int) = n := by omega
    have hnew : (ofR r).at_ n.toNat (some ⟨i, now, 2 ^ fr.toNat⟩) = ofR (rwith r ⟨n, i, now, [fr]⟩) := by
      rw [ofR_with r ⟨n, i, now, [fr]⟩ h0]
      simp [suOf, bitsOf]
    cases hf : rfind r.l n with
    | none =>
      have hs : (ofR r).s n.toNat = none := by show (rfind r.l ((n.toNat : Nat) : Int)).map suOf = none; rw [hn, hf]; rfl
      rw [susp_new_eq hm (.inl hs), hnew]
    | some s =>
      have hs : (ofR r).s n.toNat = some (suOf s) := by show (rfind r.l ((n.toNat : Nat) : Int)).map suOf = some (suOf s); rw [hn, hf]; rfl
      obtain ⟨hmem, hsn⟩ := rfind_some hf
      obtain ⟨b1, b2, b3⟩ := bitsOf_ok s.who (H.who s hmem)
      simp only
      by_cases c1 : s.i < i
      · rw [if_pos c1, susp_new_eq hm (.inr ⟨suOf s, hs, c1⟩), hnew]
      · rw [if_neg c1]
        have hb3 := b3 fr h1 hfr
        by_cases c2 : i < s.i ∨ r.cf < (s.who.length : Int) ∨ fr ∈ s.who
        · rw [if_pos c2]
          refine susp_no_eq hm hs (by show i ≤ s.i; omega) ?_
          rcases c2 with c2 | c2 | c2
          · exact .inl c2
          · exact .inr (.inr (by show r.cf < ((He.ones (bitsOf s.who) : Nat) : Int); rw [b2]; exact c2))
          · exact .inr (.inl (hb3.2 c2))
        · rw [if_neg c2]
          simp only [not_or] at c2
          rw [susp_more_eq hm hs (by show s.i = i; omega) (by show bitsOf s.who / 2 ^ fr.toNat % 2 = 0; exact (Nat.mod_two_eq_zero_or_one _).resolve_right (fun c => c2.2.2 (hb3.1 c))) (by show ((He.ones (bitsOf s.who) : Nat) : Int) ≤ r.cf; rw [b2]; omega)]
          have := ofR_with r ⟨s.n, s.i, s.f, s.who ++ [fr]⟩ (by show 0 ≤ s.n; omega)
          rw [this]
          simp only [suOf, bitsOf_append, hsn]
  · rw [if_neg hm]
    unfold susp
    rw [if_neg hm]
theorem rsusp_ok (r : Rs) (H : RsOk r) (n st i fr now : Int) (h0 : 0 ≤ n) (h1 : 0 ≤ fr) : RsOk (rsusp r n st i fr now).2 := by
  have hok := susp_ok (ofR r) n st i fr now H.ok h0 h1
  rw [susp_of r H n st i fr now h0 h1] at hok
  have key : ∀ s : Ru, 0 ≤ s.n → s.n < 64 → WhoOk s.who → (rwith r s).l.Pairwise (fun a b => a.n < b.n) ∧ (∀ e ∈ (rwith r s).l, 0 ≤ e.n ∧ e.n < 64) ∧ ∀ e ∈ (rwith r s).l, WhoOk e.who := fun s a b c =>
    ⟨ins_up s r.l H.up, fun e he => by
      rcases ins_mem s r.l e he with rfl | he
      · exact ⟨a, b⟩
      · exact H.n e he, fun e he => by
      rcases ins_mem s r.l e he with rfl | he
      · exact c
      · exact H.who e he⟩
  have fin : ∀ q : Rs, (q.l.Pairwise (fun a b => a.n < b.n) ∧ (∀ e ∈ q.l, 0 ≤ e.n ∧ e.n < 64) ∧ ∀ e ∈ q.l, WhoOk e.who) → (q.l.Pairwise (fun a b => a.n < b.n)) ∧ (∀ e ∈ q.l, 0 ≤ e.n ∧ e.n < 64) ∧ ∀ e ∈ q.l, WhoOk e.who := fun _ h => h
  have same : (r.l.Pairwise (fun a b => a.n < b.n)) ∧ (∀ e ∈ r.l, 0 ≤ e.n ∧ e.n < 64) ∧ ∀ e ∈ r.l, WhoOk e.who := ⟨H.up, H.n, H.who⟩
  have all : ((rsusp r n st i fr now).2.l.Pairwise (fun a b => a.n < b.n)) ∧ (∀ e ∈ (rsusp r n st i fr now).2.l, 0 ≤ e.n ∧ e.n < 64) ∧ ∀ e ∈ (rsusp r n st i fr now).2.l, WhoOk e.who := by
    unfold rsusp
    by_cases hm : susMay (ofR r) n st i fr now
    · rw [if_pos hm]
      have hnew := key ⟨n, i, now, [fr]⟩ h0 hm.2.1 ⟨by simp, fun u hu => by rw [List.mem_singleton] at hu; subst hu; exact ⟨h1, hm.2.2.1⟩⟩
      cases hf : rfind r.l n with
      | none => exact hnew
      | some s =>
        obtain ⟨hmem, hsn⟩ := rfind_some hf
        simp only
        split
        · exact hnew
        · split
          · exact same
          · rename_i c1 c2
            simp only [not_or] at c2
            refine key ⟨s.n, s.i, s.f, s.who ++ [fr]⟩ (by show 0 ≤ s.n; omega) (by have := hm.2.1; show s.n < 64; omega) ⟨?_, fun u hu => ?_⟩
            · rw [List.nodup_append]
              exact ⟨(H.who s hmem).1, by simp, fun a ha b hb => by rw [List.mem_singleton] at hb; subst hb; exact fun e => c2.2.2 (e ▸ ha)⟩
            · rcases List.mem_append.1 hu with hu | hu
              · exact (H.who s hmem).2 u hu
              · rw [List.mem_singleton] at hu; subst hu; exact ⟨h1, hm.2.2.1⟩
    · rw [if_neg hm]; exact same
  exact ⟨hok, all.1, all.2.1, all.2.2⟩
end Go.Proofs.Ytadhcnfgbiokcaa
