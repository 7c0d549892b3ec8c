/- PLAIN LAW: the document's Clear, Ends, Len, Due, Bump are the program's. -/
import Derived.Test.YtadhcnfgbiokcaaHeRefPure
import Derived.Test.YtadhcnfgbiokcaaHeClear
import Derived.Test.YtadhcnfgbiokcaaHeLen
namespace Go.Proofs.Ytadhcnfgbiokcaa
set_option linter.unusedVariables false
set_option linter.unusedSimpArgs false
theorem up_one {l : List Ru} (h : l.Pairwise (fun a b => a.n < b.n)) (n : Int) : l.filter (fun e => decide (e.n < n + 1)) = l.filter (fun e => decide (e.n < n)) ++ (rfind l n).toList := by
  induction l with
  | nil => rfl
  | cons e r ih =>
    obtain ⟨h1, h2⟩ := List.pairwise_cons.1 h
    have hi := ih h2
    rw [List.filter_cons, List.filter_cons, rfind_cons]
    by_cases c1 : e.n < n
    · rw [if_pos (by simpa using (by omega : e.n < n + 1)), if_pos (by simpa using c1), if_neg (by omega), hi]
      rfl
    · have hr0 : r.filter (fun e => decide (e.n < n)) = [] := List.filter_eq_nil_iff.2 (fun x hx => by have := h1 x hx; simp; omega)
      by_cases c2 : e.n = n
      · have hr1 : r.filter (fun e => decide (e.n < n + 1)) = [] := List.filter_eq_nil_iff.2 (fun x hx => by have := h1 x hx; simp; omega)
        rw [if_pos (by simpa using (by omega : e.n < n + 1)), if_neg (by simpa using c1), if_pos c2, hr0, hr1]
        rfl
      · rw [if_neg (by simpa using (by omega : ¬ e.n < n + 1)), if_neg (by simpa using c1), if_neg c2, hi]
theorem up_all {l : List Ru} (h : l.Pairwise (fun a b => a.n < b.n)) (h0 : ∀ e ∈ l, 0 ≤ e.n) (n : Nat) : (List.range n).filterMap (fun k : Nat => rfind l (k : Int)) = l.filter (fun e => decide (e.n < (n : Int))) := by
  induction n with
  | zero =>
    symm
    exact List.filter_eq_nil_iff.2 (fun x hx => by have := h0 x hx; simp; omega)
  | succ n ih =>
    rw [List.range_succ, List.filterMap_append, ih]
    have := up_one h (n : Int)
    rw [show (((n + 1 : Nat)) : Int) = (n : Int) + 1 by omega, this]
    cases hq : rfind l (n : Int) <;> simp [hq]
theorem up_64 {r : Rs} (H : RsOk r) : (List.range 64).filterMap (fun k : Nat => rfind r.l (k : Int)) = r.l := by
  rw [up_all H.up (fun e he => (H.n e he).1) 64]
  exact List.filter_eq_self.2 (fun e he => by have := (H.n e he).2; simpa using this)
theorem lenS_of (l : List Ru) (n : Nat) : lenS (fun k => (rfind l (k : Int)).map suOf) n = ((List.range n).filterMap (fun k : Nat => rfind l (k : Int))).length := by
  induction n with
  | zero => rfl
  | succ n ih =>
    rw [List.range_succ, List.filterMap_append, List.length_append, ← ih]
    show lenS _ n + _ = _
    congr 1
    simp only [Option.isSome_map]
    cases h : rfind l (n : Int) <;> simp [h]
theorem len_of {r : Rs} (H : RsOk r) : lenS (ofR r).s 64 = r.l.length := by
  have := lenS_of r.l 64
  rw [up_64 H] at this
  exact this
/-- When a suspicion ends. -/
def rend (r : Rs) (e : Ru) : Int := e.f + spanOf (ofR r) e.who.length * (r.sc + 1)
theorem rend_of {r : Rs} {e : Ru} (hw : WhoOk e.who) : endOf (ofR r) (suOf e) = rend r e := by
  unfold endOf rend suOf
  rw [(bitsOf_ok e.who hw).2.1]
  rfl
def rdue (r : Rs) (now : Int) (l : List Ru) : List Mb := l.filterMap (fun e => if rend r e ≤ now then some ⟨e.n, 1, e.i⟩ else none)
theorem due_of' {r : Rs} (H : RsOk r) (now : Int) (n : Nat) : dueS (ofR r) now n = rdue r now ((List.range n).filterMap (fun k : Nat => rfind r.l (k : Int))) := by
  induction n with
  | zero => rfl
  | succ n ih =>
    rw [List.range_succ, List.filterMap_append]
    unfold rdue at ih ⊢
    rw [List.filterMap_append, ← ih]
    show dueS (ofR r) now n ++ _ = _
    congr 1
    show (match (rfind r.l (n : Int)).map suOf with | some x => if endOf (ofR r) x ≤ now then [(⟨(n : Int), 1, x.i⟩ : Mb)] else [] | none => []) = _
    cases h : rfind r.l (n : Int) with
    | none => simp [h]
    | some e =>
      obtain ⟨h1, h2⟩ := rfind_some h
      simp only [Option.map_some, rend_of (H.who e h1)]
      by_cases c : rend r e ≤ now
      · simp [h, c, h2, suOf]
      · simp [h, c]
theorem due_of {r : Rs} (H : RsOk r) (now : Int) : dueS (ofR r) now 64 = rdue r now r.l := by
  rw [due_of' H, up_64 H]
/-- Ends, of any node. -/
def rends (r : Rs) (n : Int) : Value := match rfind r.l n with | none => .tuple #[.int .i64 0, .bool false] | some e => .tuple #[.int .i64 (rend r e), .bool true]
theorem ends_of {r : Rs} (H : RsOk r) (k : Nat) : endVal (ofR r) ((ofR r).s k) = rends r (k : Int) := by
  unfold rends
  show endVal (ofR r) ((rfind r.l (k : Int)).map suOf) = _
  cases h : rfind r.l (k : Int) with
  | none => rfl
  | some e =>
    show Value.tuple #[.int .i64 (endOf (ofR r) (suOf e)), .bool true] = _
    rw [rend_of (H.who e (rfind_some h).1)]

/-! ### Clear -/
def rkeep (n st i : Int) (e : Ru) : Bool := decide (¬ e.n = n) || decide (i < e.i) || (decide (e.i = i) && decide (¬ st = 2))
def rclr (r : Rs) (n st i : Int) : Bool × Rs := (decide ((r.l.filter (rkeep n st i)).length < r.l.length), { r with l := r.l.filter (rkeep n st i) })
theorem rfind_keep (l : List Ru) (p : Ru → Bool) (k : Int) (hu : l.Pairwise (fun a b => a.n < b.n)) : rfind (l.filter p) k = match rfind l k with | none => none | some e => if p e then some e else none := by
  induction l with
  | nil => rfl
  | cons e r ih =>
    obtain ⟨h1, h2⟩ := List.pairwise_cons.1 hu
    have hi := ih h2
    rw [List.filter_cons, rfind_cons e r]
    by_cases c : e.n = k
    · rw [if_pos c]
      simp only
      split
      · rw [rfind_cons, if_pos c]
      · cases hf : rfind (r.filter p) k with
        | none => rfl
        | some x =>
          obtain ⟨a, b⟩ := rfind_some hf
          have := h1 x (List.mem_filter.1 a).1
          omega
    · rw [if_neg c]
      split
      · rw [rfind_cons, if_neg c, hi]
      · exact hi
theorem clr_of {r : Rs} (H : RsOk r) (n st i : Int) (h0 : 0 ≤ n) : clr (ofR r) n st i = ((rclr r n st i).1, ofR (rclr r n st i).2) := by
  have hall : (∀ e ∈ r.l, rkeep n st i e = true) → ((rclr r n st i).1, ofR (rclr r n st i).2) = (false, ofR r) := fun h => by
    unfold rclr
    rw [List.filter_eq_self.2 h]
    simp
  by_cases h64 : n < 64
  · have hn : ((n.toNat : Nat) : Int) = n := by omega
    unfold clr
    rw [if_pos h64]
    show (match (rfind r.l ((n.toNat : Nat) : Int)).map suOf with | none => (false, ofR r) | some x => if i < x.i ∨ (x.i = i ∧ ¬ st = 2) then (false, ofR r) else (true, (ofR r).at_ n.toNat none)) = _
    rw [hn]
    cases hf : rfind r.l n with
    | none =>
      rw [hall (fun e he => by have := rfind_none hf e he; simp [rkeep, this])]
      rfl
    | some e =>
      obtain ⟨hm, hen⟩ := rfind_some hf
      have uniq : ∀ x ∈ r.l, x.n = n → x = e := fun x hx hxn => by
        have h2 : rfind r.l n = some e := hf
        rcases List.pairwise_iff_getElem.1 H.up with hp
        obtain ⟨a, ha, rfl⟩ := List.getElem_of_mem hx
        obtain ⟨b, hb, rfl⟩ := List.getElem_of_mem hm
        rcases Nat.lt_trichotomy a b with hab | rfl | hab
        · have := hp a b ha hb hab; omega
        · rfl
        · have := hp b a hb ha hab; omega
      simp only [Option.map_some]
      by_cases c : i < e.i ∨ (e.i = i ∧ ¬ st = 2)
      · rw [if_pos (show i < (suOf e).i ∨ ((suOf e).i = i ∧ ¬ st = 2) from c), hall (fun x hx => by
          by_cases hxn : x.n = n
          · rw [uniq x hx hxn]
            rcases c with c | c
            · simp [rkeep, c]
            · simp [rkeep, c.1, c.2]
          · simp [rkeep, hxn])]
      · rw [if_neg (show ¬ (i < (suOf e).i ∨ ((suOf e).i = i ∧ ¬ st = 2)) from c)]
        have hke : rkeep n st i e = false := by
          simp only [not_or, not_and] at c
          have h3 : ¬ i < e.i := c.1
          by_cases h4 : e.i = i
          · have h5 : st = 2 := by have := c.2 h4; omega
            simp [rkeep, hen, h3, h5]
          · simp [rkeep, hen, h3, h4]
        have hlt : (r.l.filter (rkeep n st i)).length < r.l.length := by
          have hle := List.length_filter_le (rkeep n st i) r.l
          rcases Nat.lt_or_eq_of_le hle with h | h
          · exact h
          · have := List.length_filter_eq_length_iff.1 h e hm
            rw [hke] at this
            cases this
        unfold rclr
        rw [decide_eq_true hlt]
        congr 1
        unfold ofR Hs.at_
        simp only
        congr 1
        funext k
        rw [rfind_keep _ _ _ H.up]
        by_cases hk : k = n.toNat
        · rw [if_pos hk, hk, hn, hf]
          simp [hke]
        · rw [if_neg hk]
          cases hfk : rfind r.l (k : Int) with
          | none => rfl
          | some x =>
            obtain ⟨hx, hxk⟩ := rfind_some hfk
            have : rkeep n st i x = true := by
              have : ¬ x.n = n := by omega
              simp [rkeep, this]
            simp [this]
  · rw [hall (fun e he => by
      have := (H.n e he).2
      have h2 : ¬ e.n = n := by omega
      simp [rkeep, h2])]
    unfold clr
    rw [if_neg h64]
theorem rclr_ok {r : Rs} (H : RsOk r) (n st i : Int) (h0 : 0 ≤ n) : RsOk (rclr r n st i).2 := by
  have hok := clr_ok (ofR r) n st i H.ok
  rw [clr_of H n st i h0] at hok
  exact ⟨hok, H.up.filter _, fun e he => H.n e (List.mem_filter.1 he).1, fun e he => H.who e (List.mem_filter.1 he).1⟩
def rbump (r : Rs) (b : Int) : Rs := { r with sc := bumped r.sc b }
theorem rbump_ok {r : Rs} (H : RsOk r) (b : Int) : RsOk (rbump r b) := ⟨bump_ok H.ok b, H.up, H.n, H.who⟩
theorem rbump_of (r : Rs) (b : Int) : ofR (rbump r b) = { ofR r with sc := bumped (ofR r).sc b } := rfl
/-- A health with none suspected. -/
def rnew (me mn mx cf : Int) : Rs := ⟨me, mn, mx, cf, 0, []⟩
theorem rnew_of (me mn mx cf : Int) : ofR (rnew me mn mx cf) = hnew me mn mx cf := rfl
theorem rnew_ok {me mn mx cf : Int} (h1 : 0 ≤ me ∧ me < 64) (h2 : 0 ≤ cf ∧ cf ≤ 16) (h3 : 1 ≤ mn ∧ mn ≤ mx ∧ mx ≤ 1073741824) : RsOk (rnew me mn mx cf) :=
  ⟨hnew_ok h1 h2 h3, List.Pairwise.nil, fun e he => (List.not_mem_nil he).elim, fun e he => (List.not_mem_nil he).elim⟩
end Go.Proofs.Ytadhcnfgbiokcaa
