/- PLAIN: a tree of routes by its parents; where labels go. No program in sight. -/
import Derived.Test.YtnidjfmbbfoheaaTI
import Derived.Maps.OwnSet
namespace Go.Proofs.Ytnidjfmbbfoheaa.Rt
set_option linter.unusedVariables false
set_option linter.unusedSimpArgs false

/-- A route's children, in their order. -/
def kids (par : Nat → Int) (n i : Nat) : List Nat := (List.range n).filter fun k => par k == (i : Int)
/-- One child after the other, till one is told that does not let others be told. -/
def goK (F : Nat → Bool × List Nat) (cont : Nat → Bool) : List Nat → Bool × List Nat
  | [] => (false, [])
  | k :: r => if (F k).1 = true then (if cont k = true then (true, (F k).2 ++ (goK F cont r).2) else (true, (F k).2)) else ((goK F cont r).1, (F k).2 ++ (goK F cont r).2)
/-- What a route tells (the number: how many may stand one within the other). -/
def from_ (par : Nat → Int) (M cont : Nat → Bool) (n : Nat) : Nat → Nat → Bool × List Nat
  | 0, _ => (false, [])
  | f + 1, i => if M i = true then (true, if (goK (from_ par M cont n f) cont (kids par n i)).1 = true then (goK (from_ par M cont n f) cont (kids par n i)).2 else (goK (from_ par M cont n f) cont (kids par n i)).2 ++ [i]) else (false, [])
def walk (par : Nat → Int) (M cont : Nat → Bool) (n : Nat) : List Nat := if n = 0 then [] else (from_ par M cont n (n + 1) 0).2
/-- Parents stand ahead of their children; the first one has none. -/
structure Tree (par : Nat → Int) (n : Nat) : Prop where
  n0 : 0 < n
  first : par 0 = -1
  ahead : ∀ i, 0 < i → i < n → 0 ≤ par i ∧ par i < (i : Int)

section
variable {par : Nat → Int} {M cont : Nat → Bool} {n : Nat} {F : Nat → Bool × List Nat}
theorem mem_kids {i k : Nat} : k ∈ kids par n i ↔ k < n ∧ par k = (i : Int) := by simp [kids]
theorem kids_nodup (i : Nat) : (kids par n i).Nodup := List.Nodup.sublist List.filter_sublist List.nodup_range
theorem kids_gt (T : Tree par n) {i k : Nat} (h : k ∈ kids par n i) : i < k := by
  obtain ⟨h1, h2⟩ := mem_kids.1 h
  by_cases h0 : k = 0
  · subst h0
    rw [T.first] at h2
    omega
  · have := (T.ahead k (by omega) h1).2
    omega
theorem goK_no (hF : ∀ k, (F k).1 = false → (F k).2 = []) : ∀ ks, (goK F cont ks).1 = false → (goK F cont ks).2 = [] ∧ ∀ k ∈ ks, (F k).1 = false
  | [], _ => ⟨rfl, by simp⟩
  | k :: r, h => by
    unfold goK at h ⊢
    by_cases hk : (F k).1 = true
    · rw [if_pos hk] at h
      split at h <;> cases h
    · have hk' : (F k).1 = false := by simpa using hk
      rw [if_neg hk] at h ⊢
      obtain ⟨h1, h2⟩ := goK_no hF r h
      refine ⟨by simp [h1, hF k hk'], fun x hx => ?_⟩
      rcases List.mem_cons.1 hx with rfl | hx
      · exact hk'
      · exact h2 x hx
theorem from_no : ∀ f i, (from_ par M cont n f i).1 = false → (from_ par M cont n f i).2 = []
  | 0, _, _ => rfl
  | f + 1, i, h => by
    unfold from_ at h ⊢
    split at h
    · cases h
    · rw [if_neg (by assumption)]
theorem mem_goK : ∀ (ks : List Nat) (o : Nat), o ∈ (goK F cont ks).2 → ∃ k ∈ ks, o ∈ (F k).2
  | [], o, h => by simp [goK] at h
  | k :: r, o, h => by
    unfold goK at h
    split at h
    · split at h
      · rcases List.mem_append.1 h with h | h
        · exact ⟨k, by simp, h⟩
        · obtain ⟨x, hx, hy⟩ := mem_goK r o h
          exact ⟨x, by simp [hx], hy⟩
      · exact ⟨k, by simp, h⟩
    · rcases List.mem_append.1 h with h | h
      · exact ⟨k, by simp, h⟩
      · obtain ⟨x, hx, hy⟩ := mem_goK r o h
        exact ⟨x, by simp [hx], hy⟩
theorem goK_some (hF : ∀ k, (F k).1 = true → (F k).2 ≠ []) : ∀ ks, (goK F cont ks).1 = true → (goK F cont ks).2 ≠ []
  | [], h => by cases h
  | k :: r, h => by
    unfold goK at h ⊢
    by_cases hk : (F k).1 = true
    · rw [if_pos hk]
      have := hF k hk
      split <;> simp [this]
    · rw [if_neg hk] at h ⊢
      have := goK_some hF r h
      simp [this]
theorem from_some : ∀ f i, (from_ par M cont n f i).1 = true → (from_ par M cont n f i).2 ≠ []
  | 0, _, h => by cases h
  | f + 1, i, h => by
    unfold from_ at h ⊢
    by_cases hM : M i = true
    · rw [if_pos hM]
      by_cases hx : (goK (from_ par M cont n f) cont (kids par n i)).1 = true
      · rw [if_pos hx]
        exact goK_some (from_some f) _ hx
      · rw [if_neg hx]
        simp
    · rw [if_neg hM] at h
      cases h
theorem from_is {f i o : Nat} (h : o ∈ (from_ par M cont n f i).2) : M i = true := by
  cases f with
  | zero => simp [from_] at h
  | succ f =>
    unfold from_ at h
    split at h
    · assumption
    · simp at h
/-- What is told of a route: itself, or what a child tells. -/
theorem mem_from {f i o : Nat} (h : o ∈ (from_ par M cont n (f + 1) i).2) : (∃ k ∈ kids par n i, o ∈ (from_ par M cont n f k).2) ∨ (o = i ∧ (goK (from_ par M cont n f) cont (kids par n i)).1 = false) := by
  unfold from_ at h
  split at h
  · split at h
    · obtain ⟨k, h1, h2⟩ := mem_goK _ _ h
      exact .inl ⟨k, h1, h2⟩
    · rename_i hx
      rcases List.mem_append.1 h with h | h
      · obtain ⟨k, h1, h2⟩ := mem_goK _ _ h
        exact .inl ⟨k, h1, h2⟩
      · exact .inr ⟨by simpa using h, by simpa using hx⟩
  · simp at h
/-- A route that takes the labels, and so do all in which it stands. -/
inductive Up (par : Nat → Int) (M : Nat → Bool) (n : Nat) : Nat → Prop
  | root (k : Nat) : k < n → M k = true → par k = -1 → Up par M n k
  | step (k i : Nat) : k < n → M k = true → par k = (i : Int) → Up par M n i → Up par M n k
theorem Up.lt {k : Nat} (h : Up par M n k) : k < n := by cases h <;> assumption
theorem Up.is {k : Nat} (h : Up par M n k) : M k = true := by cases h <;> assumption
theorem Up.over {k : Nat} (h : Up par M n k) : par k = -1 ∨ ∃ i : Nat, par k = (i : Int) ∧ Up par M n i := by
  cases h with
  | root _ _ _ h => exact .inl h
  | step _ i _ _ h h' => exact .inr ⟨i, h, h'⟩
theorem from_up : ∀ f i, Up par M n i → ∀ o ∈ (from_ par M cont n f i).2, Up par M n o
  | 0, i, _, o, h => by simp [from_] at h
  | f + 1, i, hU, o, h => by
    rcases mem_from h with ⟨k, hk, ho⟩ | ⟨rfl, _⟩
    · obtain ⟨k1, k2⟩ := mem_kids.1 hk
      exact from_up f k (.step k i k1 (from_is ho) k2 hU) o ho
    · exact hU
/-- A route that stands below another, or is it. -/
inductive Desc (par : Nat → Int) (n : Nat) (i : Nat) : Nat → Prop
  | refl : Desc par n i i
  | step (j k : Nat) : Desc par n i j → k < n → par k = (j : Int) → Desc par n i k
theorem Desc.le (T : Tree par n) {i k : Nat} (h : Desc par n i k) : i ≤ k := by
  induction h with
  | refl => exact Nat.le_refl _
  | step j k _ h1 h2 ih =>
    have := kids_gt T (mem_kids.2 ⟨h1, h2⟩)
    omega
theorem Desc.line (T : Tree par n) {a b o : Nat} (ha : Desc par n a o) (hb : Desc par n b o) (hab : a ≤ b) : Desc par n a b := by
  induction hb with
  | refl => exact ha
  | step j k hj h1 h2 ih =>
    cases ha with
    | refl =>
      have h3 := kids_gt T (mem_kids.2 ⟨h1, h2⟩)
      have h4 := hj.le T
      omega
    | step j' _ hj' _ h2' =>
      have : j' = j := by rw [h2] at h2'; omega
      subst this
      exact ih hj'
theorem Desc.trans_kid {i k o : Nat} (hk : k < n) (hp : par k = (i : Int)) (h : Desc par n k o) : Desc par n i o := by
  induction h with
  | refl => exact .step i k .refl hk hp
  | step j q _ h1 h2 ih => exact .step j q ih h1 h2
theorem apart (T : Tree par n) {i a b o : Nat} (ha : a ∈ kids par n i) (hb : b ∈ kids par n i) (hab : a < b) (h1 : Desc par n a o) (h2 : Desc par n b o) : False := by
  have h := h1.line T h2 (by omega)
  cases h with
  | refl => omega
  | step j _ hj _ hp =>
    have : j = i := by have := (mem_kids.1 hb).2; omega
    subst this
    have h3 := hj.le T
    have h4 := kids_gt T ha
    omega
theorem from_desc : ∀ f i, ∀ o ∈ (from_ par M cont n f i).2, Desc par n i o
  | 0, i, o, h => by simp [from_] at h
  | f + 1, i, o, h => by
    rcases mem_from h with ⟨k, hk, ho⟩ | ⟨rfl, _⟩
    · obtain ⟨k1, k2⟩ := mem_kids.1 hk
      exact (from_desc f k o ho).trans_kid k1 k2
    · exact .refl
theorem goK_nodup (hF : ∀ k, (F k).2.Nodup) : ∀ ks : List Nat, ks.Nodup → (∀ a ∈ ks, ∀ b ∈ ks, a ≠ b → ∀ o, o ∈ (F a).2 → o ∈ (F b).2 → False) → (goK F cont ks).2.Nodup
  | [], _, _ => by simp [goK]
  | k :: r, hn, hd => by
    have hr := goK_nodup hF r (List.nodup_cons.1 hn).2 (fun a ha b hb => hd a (by simp [ha]) b (by simp [hb]))
    have happ : ((F k).2 ++ (goK F cont r).2).Nodup := by
      refine List.nodup_append.2 ⟨hF k, hr, fun x hx y hy e => ?_⟩
      subst e
      obtain ⟨q, hq, hqo⟩ := mem_goK r _ hy
      exact hd k (by simp) q (by simp [hq]) (fun e => (List.nodup_cons.1 hn).1 (e ▸ hq)) x hx hqo
    unfold goK
    split
    · split
      · exact happ
      · exact hF k
    · exact happ
theorem from_nodup (T : Tree par n) : ∀ f i, (from_ par M cont n f i).2.Nodup
  | 0, i => by simp [from_]
  | f + 1, i => by
    unfold from_
    split
    · split
      · refine goK_nodup (from_nodup T f) _ (kids_nodup i) (fun a ha b hb hab o h1 h2 => ?_)
        have d1 := from_desc f a o h1
        have d2 := from_desc f b o h2
        rcases Nat.lt_or_gt_of_ne hab with h | h
        · exact apart T ha hb h d1 d2
        · exact apart T hb ha h d2 d1
      · rename_i hx
        rw [(goK_no (from_no f) _ (by simpa using hx)).1]
        simp
    · simp
/-- No route that is told has a child that takes the labels. -/
theorem from_deep (T : Tree par n) : ∀ f i, i < n → n + 1 ≤ f + i → ∀ o ∈ (from_ par M cont n f i).2, ∀ k ∈ kids par n o, M k = false
  | 0, i, _, _, o, h, _, _ => by simp [from_] at h
  | f + 1, i, hi, hf, o, h, k, hk => by
    rcases mem_from h with ⟨q, hq, ho⟩ | ⟨rfl, hx⟩
    · have h1 := kids_gt T hq
      exact from_deep T f q (mem_kids.1 hq).1 (by omega) o ho k hk
    · have h1 := (goK_no (from_no f) _ hx).2 k hk
      have h2 := kids_gt T hk
      have h3 := (mem_kids.1 hk).1
      obtain ⟨f', rfl⟩ : ∃ f', f = f' + 1 := ⟨f - 1, by omega⟩
      unfold from_ at h1
      split at h1
      · cases h1
      · rename_i hM
        simpa using hM
theorem goK_one (hc : ∀ k, cont k = false) (h0 : ∀ k, (F k).1 = false → (F k).2 = []) (h1 : ∀ k, (F k).1 = true → (F k).2.length = 1) : ∀ ks, (goK F cont ks).1 = true → (goK F cont ks).2.length = 1
  | [], h => by cases h
  | k :: r, h => by
    unfold goK at h ⊢
    by_cases hk : (F k).1 = true
    · rw [if_pos hk, if_neg (by rw [hc k]; decide)]
      exact h1 k hk
    · rw [if_neg hk] at h ⊢
      rw [h0 k (by simpa using hk)]
      simpa using goK_one hc h0 h1 r h
/-- Where none continues just one is told. -/
theorem from_one (hc : ∀ k, cont k = false) : ∀ f i, (from_ par M cont n f i).1 = true → (from_ par M cont n f i).2.length = 1
  | 0, _, h => by cases h
  | f + 1, i, h => by
    unfold from_ at h ⊢
    by_cases hM : M i = true
    · rw [if_pos hM]
      by_cases hx : (goK (from_ par M cont n f) cont (kids par n i)).1 = true
      · rw [if_pos hx]
        exact goK_one hc (from_no f) (from_one hc f) _ hx
      · rw [if_neg hx, (goK_no (from_no f) _ (by simpa using hx)).1]
        rfl
    · rw [if_neg hM] at h
      cases h
theorem goK_congr {G : Nat → Bool × List Nat} {cont' : Nat → Bool} : ∀ ks : List Nat, (∀ k ∈ ks, F k = G k ∧ cont k = cont' k) → goK F cont ks = goK G cont' ks
  | [], _ => rfl
  | k :: r, h => by
    unfold goK
    rw [(h k (by simp)).1, (h k (by simp)).2, goK_congr r (fun x hx => h x (by simp [hx]))]
theorem goK_snoc {z : Nat} (hz : F z = (false, [])) : ∀ ks, goK F cont (ks ++ [z]) = goK F cont ks
  | [] => by simp [goK, hz]
  | k :: r => by
    simp only [List.cons_append]
    unfold goK
    rw [goK_snoc hz r]
end
/-- One route more, behind, that takes nothing. -/
theorem from_more {par par' : Nat → Int} {M M' cont cont' : Nat → Bool} {n : Nat} (T : Tree par n) (hp : ∀ k, k < n → par' k = par k) (hM : ∀ k, k < n → M' k = M k) (hc : ∀ k, k < n → cont' k = cont k) (hz : M' n = false) :
    ∀ f f' i, i < n → n + 1 ≤ f + i → n + 1 ≤ f' + i → from_ par' M' cont' (n + 1) f' i = from_ par M cont n f i
  | 0, _, i, hi, h, _ => by omega
  | f + 1, 0, i, hi, _, h => by omega
  | f + 1, f' + 1, i, hi, h, h' => by
    have hk : kids par' (n + 1) i = kids par n i ++ (if par' n = (i : Int) then [n] else []) := by
      unfold kids
      rw [List.range_succ, List.filter_append]
      congr 1
      · refine List.filter_congr fun k hk => ?_
        rw [hp k (List.mem_range.1 hk)]
      · by_cases e : par' n = (i : Int)
        · simp [e]
        · simp [e]
    have hz' : from_ par' M' cont' (n + 1) f' n = (false, []) := by
      cases f' with
      | zero => rfl
      | succ f' => unfold from_; rw [if_neg (by rw [hz]; decide)]
    have hg : goK (from_ par' M' cont' (n + 1) f') cont' (kids par' (n + 1) i) = goK (from_ par M cont n f) cont (kids par n i) := by
      rw [hk]
      have e1 : goK (from_ par' M' cont' (n + 1) f') cont' (kids par n i) = goK (from_ par M cont n f) cont (kids par n i) := by
        refine goK_congr _ fun k hk => ?_
        have k1 := (mem_kids.1 hk).1
        have k2 := kids_gt T hk
        exact ⟨from_more T hp hM hc hz f f' k k1 (by omega) (by omega), hc k k1⟩
      split
      · rw [goK_snoc hz', e1]
      · rw [List.append_nil, e1]
    unfold from_
    rw [hM i hi, hg]
theorem walk_more {par par' : Nat → Int} {M M' cont cont' : Nat → Bool} {n : Nat} (T : Tree par n) (hp : ∀ k, k < n → par' k = par k) (hM : ∀ k, k < n → M' k = M k) (hc : ∀ k, k < n → cont' k = cont k) (hz : M' n = false) : walk par' M' cont' (n + 1) = walk par M cont n := by
  have := T.n0
  unfold walk
  rw [if_neg (by omega), if_neg (by omega), from_more T hp hM hc hz (n + 1) (n + 1 + 1) 0 T.n0 (by omega) (by omega)]
section
variable {par : Nat → Int} {M cont : Nat → Bool} {n : Nat}
theorem walk_up (T : Tree par n) (h0 : M 0 = true) : ∀ o ∈ walk par M cont n, Up par M n o := by
  intro o h
  have := T.n0
  unfold walk at h
  rw [if_neg (by omega)] at h
  exact from_up _ _ (.root 0 T.n0 h0 T.first) o h
theorem walk_nodup (T : Tree par n) : (walk par M cont n).Nodup := by
  unfold walk
  split
  · simp
  · exact from_nodup T _ _
theorem walk_some (T : Tree par n) (h0 : M 0 = true) : walk par M cont n ≠ [] := by
  have := T.n0
  unfold walk
  rw [if_neg (by omega)]
  refine from_some _ _ ?_
  unfold from_
  rw [if_pos h0]
theorem walk_deep (T : Tree par n) : ∀ o ∈ walk par M cont n, ∀ k ∈ kids par n o, M k = false := by
  intro o h
  have := T.n0
  unfold walk at h
  rw [if_neg (by omega)] at h
  exact from_deep T _ _ T.n0 (by omega) o h
theorem walk_one (T : Tree par n) (h0 : M 0 = true) (hc : ∀ k, cont k = false) : (walk par M cont n).length = 1 := by
  have := T.n0
  unfold walk
  rw [if_neg (by omega)]
  refine from_one hc _ _ ?_
  unfold from_
  rw [if_pos h0]
end
end Go.Proofs.Ytnidjfmbbfoheaa.Rt

/- WORDS: routes and configurations that came in; a look-up in a map of bools. -/
namespace Go.Proofs.Ytnidjfmbbfoheaa
set_option linter.unusedVariables false
set_option linter.unusedSimpArgs false
open Go.ChangeShapes Go.WideShapes Go.ChangeAt Go.RowKit Go.Joins Go.Deep
open Go.Maps (Keyed IsMap)

/-! ### a map of bools -/
theorem plainElem_bool_inv {H : Type} {P : Program} {e : TypeId} (he : P.underlying e = some .bool) {v : Value} {z : DataW H × List MemPlace} (h : plainElem P e v = some z) : ∃ x, v = .bool x ∧ z = (.lit (.bool x), []) := by
  unfold plainElem at h
  rw [he] at h
  cases v <;> simp at h
  subst h
  exact ⟨_, rfl, rfl⟩
/-- A look-up, at elements that are bools: the walk goes on with some bool, of which the last fact says what it is. -/
theorem wpList_lookup_bool {H : Type} {P : Program} (w : World) {ops : Array Oper} {rest : List Oper} {o : Oper} {a : Act} {Q : Exit → Act → World → Prop}
    (hg : o.guard = none) (m x : Operand) (t : TypeId) (hop : o.op = Op.lookup t m x false)
    (k e : TypeId) (K : Keyed P k) (ht : P.underlying t = some (.map k e)) (he : P.underlying e = some .bool) (hz : (zeroValue e).run P w = .ok (.bool false) w) (b n : Nat) (D : DataW H)
    (hm : a.eval m = .map (some b)) (hown : w.ownsMap P k (plainElem P e) b n D) (key : Value) (kl : Lit) (hx : a.eval x = key) (hkey : keyOf P k key = some kl)
    (hK : ∀ c : Bool, D.atKey kl (.lit (.bool false)) = .lit (.bool c) → wpList P ops Q rest (a.put o.dst (.bool c)) w) :
    wpList P ops Q (o :: rest) a w := by
  refine wpList_plain hg fun K' hK' => ?_
  obtain ⟨v, ps, hrun, hv⟩ := hown.lookup K ht hz (plainElem_bool he false) hkey
  obtain ⟨c, rfl, hc⟩ := plainElem_bool_inv he hv
  simp only [Prod.mk.injEq] at hc
  unfold Oper.wp
  simp [execOp, hop, hm, hx, hrun, Result.andThen]
  exact hK' _ _ (hK c hc.1)

/-! ### a route -/
structure Ro where
  par : Int
  ms : MR
  cont : Bool
  by_ : TR
  rc : List Nat
  wt : Int
  iv : Int
  rp : Int
def Ro.cells (r : Ro) : List Value := [.int .i64 r.par, r.ms.val, .bool r.cont, r.by_.val, .string (bs r.rc), .int .i64 r.wt, .int .i64 r.iv, .int .i64 r.rp]
structure Ro.In (r : Ro) (w : World) : Prop where
  ms : r.ms.In w
  by_ : r.by_.In w
  rc : TxOk r.rc
theorem Ro.In.below {r : Ro} {w w' : World} (h : r.In w) (hb : Below w.heap.size w w') : r.In w' := ⟨h.ms.below hb, h.by_.below hb, h.rc⟩
/-- A configuration. -/
structure Cf where
  A : Option Addr
  c : Nat
  l : List Ro
  B : Option Addr
  d : Nat
  rl : List Rl
  pt : Int
  rs : Int
def Cf.cells (c : Cf) : Array Value := #[.slice c.A c.l.length c.c, .slice c.B c.rl.length c.d, .int .i64 c.pt, .int .i64 c.rs]
def Cf.val (c : Cf) : Value := .agg c.cells
structure Cf.In (c : Cf) (w : World) : Prop where
  rt : Reads w (fun b => b < w.heap.size) 8 c.A c.l.length (c.l.flatMap Ro.cells)
  ro : ∀ r ∈ c.l, r.In w
  ru : Reads w (fun b => b < w.heap.size) 3 c.B c.rl.length (c.rl.flatMap Rl.cells)
  rr : ∀ r ∈ c.rl, r.In w
theorem Cf.In.below {c : Cf} {w w' : World} (h : c.In w) (hb : Below w.heap.size w w') : c.In w' :=
  ⟨(h.rt.below (by omega) hb).imp (fun b hb' => Nat.lt_of_lt_of_le hb' hb.size), fun r hr => (h.ro r hr).below hb, (h.ru.below (by omega) hb).imp (fun b hb' => Nat.lt_of_lt_of_le hb' hb.size), fun r hr => (h.rr r hr).below hb⟩
/-- A route's cells, at its place. -/
theorem ro_at {w : World} {b o : Nat} {l : List Ro} (h : ∀ j u, (l.flatMap Ro.cells)[j]? = some u → w.cell? ⟨b, o + j, none⟩ = some u) {i : Nat} {r : Ro} (ha : l[i]? = some r) :
    w.cell? ⟨b, o + i * 8, none⟩ = some (.int .i64 r.par) ∧ w.cell? ⟨b, o + i * 8 + 1, none⟩ = some r.ms.val ∧ w.cell? ⟨b, o + i * 8 + 2, none⟩ = some (.bool r.cont) ∧ w.cell? ⟨b, o + i * 8 + 3, none⟩ = some r.by_.val ∧ w.cell? ⟨b, o + i * 8 + 4, none⟩ = some (.string (bs r.rc)) ∧ w.cell? ⟨b, o + i * 8 + 5, none⟩ = some (.int .i64 r.wt) ∧ w.cell? ⟨b, o + i * 8 + 6, none⟩ = some (.int .i64 r.iv) ∧ w.cell? ⟨b, o + i * 8 + 7, none⟩ = some (.int .i64 r.rp) := by
  have q : ∀ j, j < 8 → ∀ u, (Ro.cells r)[j]? = some u → w.cell? ⟨b, o + i * 8 + j, none⟩ = some u := fun j hj u hu => by
    have := h (i * 8 + j) u ((flat_get Ro.cells 8 (fun _ => rfl) l i j r ha hj).trans hu)
    rwa [← Nat.add_assoc] at this
  exact ⟨q 0 (by omega) _ rfl, q 1 (by omega) _ rfl, q 2 (by omega) _ rfl, q 3 (by omega) _ rfl, q 4 (by omega) _ rfl, q 5 (by omega) _ rfl, q 6 (by omega) _ rfl, q 7 (by omega) _ rfl⟩
theorem rl_at {w : World} {b o : Nat} {l : List Rl} (h : ∀ j u, (l.flatMap Rl.cells)[j]? = some u → w.cell? ⟨b, o + j, none⟩ = some u) {i : Nat} {r : Rl} (ha : l[i]? = some r) :
    w.cell? ⟨b, o + i * 3, none⟩ = some r.s.val ∧ w.cell? ⟨b, o + i * 3 + 1, none⟩ = some r.t.val ∧ w.cell? ⟨b, o + i * 3 + 2, none⟩ = some r.e.val := by
  have q : ∀ j, j < 3 → ∀ u, (Rl.cells r)[j]? = some u → w.cell? ⟨b, o + i * 3 + j, none⟩ = some u := fun j hj u hu => by
    have := h (i * 3 + j) u ((flat_get Rl.cells 3 (fun _ => rfl) l i j r ha hj).trans hu)
    rwa [← Nat.add_assoc] at this
  exact ⟨q 0 (by omega) _ rfl, q 1 (by omega) _ rfl, q 2 (by omega) _ rfl⟩
section
variable {H : Type} {enc : TypeId × Value → H} {w : World} {base : Nat} {spare : Nat → Bool} {held : Bool}
theorem und68b : Try.prog.underlying 68 = some (.slice 77) := by kernel_rfl
theorem cells77 : Try.prog.cellsOf 77 = 8 := by kernel_rfl
theorem cells70 : Try.prog.cellsOf 70 = 4 := by kernel_rfl
theorem cells3r : Try.prog.cellsOf 3 = 1 := by kernel_rfl
theorem cells4r : Try.prog.cellsOf 4 = 1 := by kernel_rfl
set_option maxRecDepth 100000 in
theorem ro_of {n : Nat} {cs : List Value} {y : DataW H × List MemPlace} (hl : cs.length = 8) (ht : DataW.trod enc Try.prog w base spare held n 77 cs = some y) : ∃ r : Ro, cs = r.cells ∧ r.In w := by
  obtain ⟨ys, n', _, hy, hyl, _, hfld⟩ := DataW.trod_struct Try.underlying77 ht
  obtain ⟨c0, c1, c2, c3, c4, c5, c6, c7, rfl⟩ : ∃ c0 c1 c2 c3 c4 c5 c6 c7, cs = [c0, c1, c2, c3, c4, c5, c6, c7] := by
    match cs, hl with
    | [c0, c1, c2, c3, c4, c5, c6, c7], _ => exact ⟨c0, c1, c2, c3, c4, c5, c6, c7, rfl⟩
  obtain ⟨y0, y1, y2, y3, y4, y5, y6, y7, rfl⟩ : ∃ y0 y1 y2 y3 y4 y5 y6 y7, ys = [y0, y1, y2, y3, y4, y5, y6, y7] := by
    match ys, hyl with
    | [y0, y1, y2, y3, y4, y5, y6, y7], _ => exact ⟨y0, y1, y2, y3, y4, y5, y6, y7, rfl⟩
  have h0 : DataW.trod enc Try.prog w base spare held n' 3 [c0] = some y0 := by
    have : DataW.trod enc Try.prog w base spare held n' 3 (List.take (Try.prog.cellsOf 3) [c0, c1, c2, c3, c4, c5, c6, c7]) = some y0 := hfld 0 _ rfl
    rwa [cells3r] at this
  have h1 : DataW.trod enc Try.prog w base spare held n' 44 [c1] = some y1 := by
    have : DataW.trod enc Try.prog w base spare held n' 44 (List.take (Try.prog.cellsOf 44) [c1, c2, c3, c4, c5, c6, c7]) = some y1 := hfld 1 _ rfl
    rwa [cells44] at this
  have h2 : DataW.trod enc Try.prog w base spare held n' 4 [c2] = some y2 := by
    have : DataW.trod enc Try.prog w base spare held n' 4 (List.take (Try.prog.cellsOf 4) [c2, c3, c4, c5, c6, c7]) = some y2 := hfld 2 _ rfl
    rwa [cells4r] at this
  have h3 : DataW.trod enc Try.prog w base spare held n' 45 [c3] = some y3 := by
    have : DataW.trod enc Try.prog w base spare held n' 45 (List.take (Try.prog.cellsOf 45) [c3, c4, c5, c6, c7]) = some y3 := hfld 3 _ rfl
    rwa [cells45] at this
  have h4 : DataW.trod enc Try.prog w base spare held n' 9 [c4] = some y4 := by
    have : DataW.trod enc Try.prog w base spare held n' 9 (List.take (Try.prog.cellsOf 9) [c4, c5, c6, c7]) = some y4 := hfld 4 _ rfl
    rwa [cells9] at this
  have h5 : DataW.trod enc Try.prog w base spare held n' 3 [c5] = some y5 := by
    have : DataW.trod enc Try.prog w base spare held n' 3 (List.take (Try.prog.cellsOf 3) [c5, c6, c7]) = some y5 := hfld 5 _ rfl
    rwa [cells3r] at this
  have h6 : DataW.trod enc Try.prog w base spare held n' 3 [c6] = some y6 := by
    have : DataW.trod enc Try.prog w base spare held n' 3 (List.take (Try.prog.cellsOf 3) [c6, c7]) = some y6 := hfld 6 _ rfl
    rwa [cells3r] at this
  have h7 : DataW.trod enc Try.prog w base spare held n' 3 [c7] = some y7 := by
    have : DataW.trod enc Try.prog w base spare held n' 3 (List.take (Try.prog.cellsOf 3) [c7]) = some y7 := hfld 7 _ rfl
    rwa [cells3r] at this
  obtain ⟨a0, e0, _, w0⟩ := DataW.trod_int Try.underlying3 h0
  obtain ⟨r1, rfl, i1⟩ := mr_of h1
  obtain ⟨b2, e2, _⟩ := DataW.trod_bool Try.underlying4 h2
  obtain ⟨r3, rfl, i3⟩ := tr_of h3
  obtain ⟨s4, rfl, a4, b4⟩ := str_field n' h4
  obtain ⟨a5, e5, _, w5⟩ := DataW.trod_int Try.underlying3 h5
  obtain ⟨a6, e6, _, w6⟩ := DataW.trod_int Try.underlying3 h6
  obtain ⟨a7, e7, _, w7⟩ := DataW.trod_int Try.underlying3 h7
  simp only [List.cons.injEq, and_true] at e0 e2 e5 e6 e7
  subst e0 e2 e5 e6 e7
  exact ⟨⟨a0, r1, b2, r3, s4, a5, a6, a7⟩, rfl, i1, i3, a4, b4⟩
set_option maxRecDepth 100000 in
/-- A configuration that came in. -/
theorem open_cf {r : Reach} {b0 : Nat} {v : Value} {d : DataW H} {p : List MemPlace} (hv : Value.okWide Try.prog w r b0 70 v) (h : DataW.Trod enc Try.prog w base spare held 70 v d p) :
    ∃ c : Cf, v = c.val ∧ c.In w := by
  obtain ⟨c0, c1, c2, c3, y0, y1, y2, y3, n, rfl, _, _, h0, h1, h2, h3⟩ := open_agg4 Try.underlying70 (by kernel_rfl) cells70 hv h
  obtain ⟨A, cp, l, rfl, R, o, _⟩ := row_of und68b cells77 (by decide) Ro.cells (fun r => r.In w) (fun _ => rfl) (fun n cs y hl ht => ro_of hl ht) h0
  obtain ⟨B, cq, rl, rfl, R', o', _⟩ := row_of und49b cells47 (by decide) Rl.cells (fun r => r.In w) (fun _ => rfl) (fun n cs y hl ht => rl_of hl ht) h1
  obtain ⟨a2, e2, _, w2⟩ := DataW.trod_int Try.underlying3 h2
  obtain ⟨a3, e3, _, w3⟩ := DataW.trod_int Try.underlying3 h3
  simp only [List.cons.injEq, and_true] at e2 e3
  subst e2 e3
  exact ⟨⟨A, cp, l, B, cq, rl, a2, a3⟩, rfl, R, o, R', o'⟩
end

/-! ### what Check tells -/
def firstE {α : Type} (f : α → Int) : List α → Int
  | [] => 0
  | a :: r => if f a = 0 then firstE f r else f a
def checkAllB (ms : List Mt) : Int := if 8 < ms.length then 5 else firstE checkB ms
def namesGo (seen : List (List Nat)) : List (List Nat) → Bool
  | [] => true
  | s :: r => !(decide (s ∈ seen)) && nameB s && namesGo (seen ++ [s]) r
def namesB (l : List (List Nat)) : Int := if 8 < l.length then 5 else if namesGo [] l = true then 0 else 6
def withinB (t least : Int) : Bool := decide (t ≥ least) && decide (t ≤ 1099511627776)
def routeB (r : Ro) : Int := if checkAllB r.ms.l ≠ 0 then checkAllB r.ms.l else if namesB r.by_.l ≠ 0 then namesB r.by_.l else if nameB r.rc = false then 6 else if (withinB r.wt 0 && withinB r.iv 1 && withinB r.rp 1) = true then 0 else 13
def ruleB (r : Rl) : Int := if checkAllB r.s.l ≠ 0 then checkAllB r.s.l else if checkAllB r.t.l ≠ 0 then checkAllB r.t.l else namesB r.e.l
def parOk (i : Nat) (p : Int) : Bool := if i = 0 then decide (p = -1) else decide (0 ≤ p) && decide (p < (i : Int))
def parsOk (l : List Ro) : Bool := (List.range l.length).all fun i => match l[i]? with | some r => parOk i r.par | none => true
def headOk : List Ro → Bool
  | [] => false
  | r :: _ => r.ms.l.isEmpty
def cfB (c : Cf) : Int :=
  if 16 < c.l.length ∨ 8 < c.rl.length then 5 else if headOk c.l = false then 10 else if parsOk c.l = false then 10
  else if firstE routeB c.l ≠ 0 then firstE routeB c.l else if firstE ruleB c.rl ≠ 0 then firstE ruleB c.rl
  else if (withinB c.pt 1 && withinB c.rs 1) = true then 0 else 13
theorem firstE_take {α : Type} (f : α → Int) : ∀ (l : List α) (i : Nat) (a : α), l[i]? = some a → (∀ j b, j < i → l[j]? = some b → f b = 0) → f a ≠ 0 → firstE f l = f a
  | [], i, a, h, _, _ => by simp at h
  | b :: r, 0, a, h, _, hne => by
    simp at h
    subst h
    unfold firstE
    rw [if_neg hne]
  | b :: r, i + 1, a, h, hz, hne => by
    simp only [List.getElem?_cons_succ] at h
    have h0 := hz 0 b (by omega) rfl
    unfold firstE
    rw [if_pos h0]
    exact firstE_take f r i a h (fun j x hj hx => hz (j + 1) x (by omega) (by simpa using hx)) hne
theorem firstE_zero {α : Type} (f : α → Int) : ∀ (l : List α), (∀ b ∈ l, f b = 0) → firstE f l = 0
  | [], _ => rfl
  | b :: r, h => by
    unfold firstE
    rw [if_pos (h b (by simp))]
    exact firstE_zero f r (fun x hx => h x (by simp [hx]))
theorem firstE_all {α : Type} {f : α → Int} : ∀ {l : List α}, firstE f l = 0 → ∀ b ∈ l, f b = 0
  | [], _, b, hb => by simp at hb
  | a :: r, h, b, hb => by
    unfold firstE at h
    by_cases ha : f a = 0
    · rw [if_pos ha] at h
      rcases List.mem_cons.1 hb with rfl | hb
      · exact ha
      · exact firstE_all h b hb
    · rw [if_neg ha] at h
      exact absurd h ha
/-- Of a configuration that may be the parents are a tree, and the first route has no matchers. -/
def parF (l : List Ro) (i : Nat) : Int := match l[i]? with | some r => r.par | none => 0
def contF (l : List Ro) (i : Nat) : Bool := match l[i]? with | some r => r.cont | none => false
def takesF (l : List Ro) (labels : List Pr) (i : Nat) : Bool := match l[i]? with | some r => allB r.ms.l labels | none => false
theorem cf_tree {c : Cf} (h : cfB c = 0) : Rt.Tree (parF c.l) c.l.length ∧ c.l.length ≤ 16 ∧ ∀ lb, takesF c.l lb 0 = true := by
  unfold cfB at h
  split at h
  · cases h
  · rename_i hlen
    split at h
    · cases h
    · rename_i hhead
      split at h
      · cases h
      · rename_i hpars
        clear h
        have hpars' : parsOk c.l = true := by simpa using hpars
        have hhead' : headOk c.l = true := by simpa using hhead
        clear hpars hhead
        generalize c.l = l at *
        cases l with
        | nil => cases hhead'
        | cons r0 rest =>
          have hp : ∀ i, i < (r0 :: rest).length → parOk i (parF (r0 :: rest) i) = true := by
            intro i hi
            have := List.all_eq_true.1 hpars' i (List.mem_range.2 hi)
            unfold parF
            rw [List.getElem?_eq_getElem hi] at this ⊢
            exact this
          refine ⟨⟨by simp, ?_, fun i h0 hi => ?_⟩, by omega, fun lb => ?_⟩
          · have := hp 0 (by simp)
            simpa [parOk] using this
          · have := hp i hi
            unfold parOk at this
            rw [if_neg (by omega)] at this
            simpa using this
          · have he : r0.ms.l = [] := by simpa [headOk] using hhead'
            simp [takesF, he, allB]
end Go.Proofs.Ytnidjfmbbfoheaa
