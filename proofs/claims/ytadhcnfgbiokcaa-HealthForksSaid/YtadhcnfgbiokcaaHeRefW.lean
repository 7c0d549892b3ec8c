/- WORDS: how the document's health lies in memory: a list of suspicions, each with a list of who said so. -/
import Derived.Test.YtadhcnfgbiokcaaHeRefPure2
import Derived.Test.YtadhcnfgbiokcaaCq
namespace Go.Proofs.Ytadhcnfgbiokcaa
set_option linter.unusedVariables false
set_option linter.unusedSimpArgs false
open Go.RowKit
/-- A suspicion in memory. -/
structure Em where
  e : Ru
  A : Option Addr
  c : Nat
def u16s (l : List Int) : List Value := l.map fun x => .int .u16 x
theorem u16s_length (l : List Int) : (u16s l).length = l.length * 1 := by simp [u16s]
theorem u16s_get (l : List Int) (k : Nat) (x : Int) (h : l[k]? = some x) : (u16s l)[k]? = some (.int .u16 x) := by simp [u16s, h]
theorem u16s_append (a b : List Int) : u16s (a ++ b) = u16s a ++ u16s b := by simp [u16s]
def em4 (x : Em) : List Value := [.int .u16 x.e.n, .int .i64 x.e.i, .int .i64 x.e.f, .slice x.A x.e.who.length x.c]
def ecells (l : List Em) : List Value := l.flatMap em4
theorem ecells_length (l : List Em) : (ecells l).length = l.length * 4 := by
  induction l with
  | nil => rfl
  | cons m l ih => simp only [ecells, List.flatMap_cons, List.length_append, List.length_cons] at *; rw [ih]; simp [em4]; omega
theorem ecells_append (a b : List Em) : ecells (a ++ b) = ecells a ++ ecells b := by simp [ecells]
theorem ecells_get (l : List Em) (k : Nat) (m : Em) (h : l[k]? = some m) : (ecells l)[k * 4]? = some (.int .u16 m.e.n) ∧ (ecells l)[k * 4 + 1]? = some (.int .i64 m.e.i) ∧ (ecells l)[k * 4 + 2]? = some (.int .i64 m.e.f) ∧ (ecells l)[k * 4 + 3]? = some (.slice m.A m.e.who.length m.c) := by
  induction l generalizing k with
  | nil => simp at h
  | cons x l ih =>
    have e : ecells (x :: l) = .int .u16 x.e.n :: .int .i64 x.e.i :: .int .i64 x.e.f :: .slice x.A x.e.who.length x.c :: ecells l := rfl
    rw [e]
    cases k with
    | zero => simp at h; subst h; simp
    | succ k =>
      simp at h
      have h0 : (k + 1) * 4 = k * 4 + 4 := by omega
      rw [h0]
      simpa using ih k h
/-- A slice value reads as suspicions. -/
def ReadsE (w : World) (S : Nat → Prop) (A : Option Addr) (l : List Em) : Prop := Reads w S 4 A l.length (ecells l)
theorem ReadsE.at_ {w : World} {S : Nat → Prop} {A : Option Addr} {l : List Em} (h : ReadsE w S A l) (k : Nat) (m : Em) (hk : l[k]? = some m) :
    ∃ b o, A = some ⟨b, o, none⟩ ∧ S b ∧ w.cell? ⟨b, o + k * 4, none⟩ = some (.int .u16 m.e.n) ∧ w.cell? ⟨b, o + k * 4 + 1, none⟩ = some (.int .i64 m.e.i) ∧ w.cell? ⟨b, o + k * 4 + 2, none⟩ = some (.int .i64 m.e.f) ∧ w.cell? ⟨b, o + k * 4 + 3, none⟩ = some (.slice m.A m.e.who.length m.c) := by
  have hlt := (List.getElem?_eq_some_iff.1 hk).1
  obtain ⟨b, o, hA, hb, hc⟩ := h.2 (by omega)
  obtain ⟨h0, h1, h2, h3⟩ := ecells_get l k m hk
  exact ⟨b, o, hA, hb, hc _ _ h0, hc _ _ h1, hc _ _ h2, hc _ _ h3⟩
theorem ReadsE.cellz {w : World} {S : Nat → Prop} {p o : Nat} {l : List Em} (h : ReadsE w S (some ⟨p, o, none⟩) l) {k : Nat} {m : Em} (hk : l[k]? = some m) :
    S p ∧ w.cell? ⟨p, o + k * 4, none⟩ = some (.int .u16 m.e.n) ∧ w.cell? ⟨p, o + k * 4 + 1, none⟩ = some (.int .i64 m.e.i) ∧ w.cell? ⟨p, o + k * 4 + 2, none⟩ = some (.int .i64 m.e.f) ∧ w.cell? ⟨p, o + k * 4 + 3, none⟩ = some (.slice m.A m.e.who.length m.c) := by
  obtain ⟨p', o', e, h0, h1, h2, h3, h4⟩ := h.at_ k m hk
  injection e with e
  injection e with e1 e2
  subst e1 e2
  exact ⟨h0, h1, h2, h3, h4⟩
theorem susp_info : (Try.prog.info? 82).map (fun i => (i.zero, i.size, i.bytes)) = some (some (.agg #[.int .u16 0, .int .i64 0, .int .i64 0, .slice none 0 0]), 4, 48) := by kernel_rfl
theorem u16_info : (Try.prog.info? 22).map (fun i => (i.zero, i.size, i.bytes)) = some (some (.int .u16 0), 1, 2) := by kernel_rfl
theorem und51 : Try.prog.underlying 51 = some (.slice 82) := by kernel_rfl
theorem und80 : Try.prog.underlying 80 = some (.slice 22) := by kernel_rfl
/-- The document's health, as a value. -/
def hval (r : Rs) (A : Option Addr) (n c : Nat) : Value := .agg #[.int .u16 r.me, .int .i64 r.mn, .int .i64 r.mx, .int .i64 r.cf, .int .i64 r.sc, .slice A n c]
def findE (l : List Em) (n : Int) : Option Em := l.find? (fun x => x.e.n == n)
def findVal : Option Em → Value
  | some x => .tuple #[.agg (em4 x).toArray, .bool true]
  | none => .tuple #[.agg #[.int .u16 0, .int .i64 0, .int .i64 0, .slice none 0 0], .bool false]
theorem findE_of (l : List Em) (n : Int) : (findE l n).map (·.e) = rfind (l.map (·.e)) n := by
  unfold findE rfind
  rw [List.find?_map]
  rfl
theorem take_one {α : Type} (l : List α) (k : Nat) (x : α) (h : l[k]? = some x) : l.take (k + 1) = l.take k ++ [x] := by
  rw [List.take_add_one, h]; rfl
theorem find_none (L : List Em) (n : Int) (k : Nat) (x : Em) (h : findE (L.take k) n = none) (hx : L[k]? = some x) (hn : x.e.n ≠ n) : findE (L.take (k + 1)) n = none := by
  rw [take_one L k x hx]
  unfold findE at *
  rw [List.find?_append, h]
  simp [hn]
theorem find_some (L : List Em) (n : Int) (k : Nat) (x : Em) (h : findE (L.take k) n = none) (hx : L[k]? = some x) (hn : x.e.n = n) : findE L n = some x := by
  have hlt := (List.getElem?_eq_some_iff.1 hx).1
  have e : L = L.take k ++ L.drop k := (List.take_append_drop k L).symm
  have e2 : L.drop k = x :: L.drop (k + 1) := by
    rw [List.drop_eq_getElem_cons hlt]
    rw [List.getElem?_eq_getElem hlt] at hx
    injection hx with hx
    rw [hx]
  unfold findE at *
  rw [e, List.find?_append, h, e2]
  simp [hn]
/-- The steps of 'with'. -/
def setStep (m : Em) (p : List Em × Bool) (x : Em) : List Em × Bool :=
  let q : List Em × Bool := if p.2 = false ∧ m.e.n ≤ x.e.n then (p.1 ++ [m], true) else p
  if x.e.n = m.e.n then q else (q.1 ++ [x], q.2)
def setFin (m : Em) (p : List Em × Bool) : List Em := if p.2 then p.1 else p.1 ++ [m]
def setL (l : List Em) (m : Em) : List Em := setFin m (l.foldl (setStep m) ([], false))
theorem setStep_ta {m x : Em} (out : List Em) (h : (x.e.n != m.e.n) = true) : setStep m (out, true) x = (out ++ [x], true) := by
  have h : x.e.n ≠ m.e.n := by simpa using h
  simp [setStep, h]
theorem setStep_tb {m x : Em} (out : List Em) (h : (x.e.n != m.e.n) = false) : setStep m (out, true) x = (out, true) := by
  have h : x.e.n = m.e.n := by simpa using h
  simp [setStep, h]
theorem setStep_fa {m x : Em} (out : List Em) (h : (x.e.n != m.e.n) = true) (hg : m.e.n ≤ x.e.n) : setStep m (out, false) x = (out ++ [m] ++ [x], true) := by
  have h : x.e.n ≠ m.e.n := by simpa using h
  simp [setStep, h, hg]
theorem setStep_fb {m x : Em} (out : List Em) (h : (x.e.n != m.e.n) = false) (hg : m.e.n ≤ x.e.n) : setStep m (out, false) x = (out ++ [m], true) := by
  have h : x.e.n = m.e.n := by simpa using h
  simp [setStep, h]
theorem setStep_fc {m x : Em} (out : List Em) (h : (x.e.n != m.e.n) = true) (hg : ¬ m.e.n ≤ x.e.n) : setStep m (out, false) x = (out ++ [x], false) := by
  have h : x.e.n ≠ m.e.n := by simpa using h
  simp [setStep, h, hg]
theorem fold_one (m : Em) (L : List Em) (k : Nat) (x : Em) (hx : L[k]? = some x) {p q : List Em × Bool} (h : (L.take k).foldl (setStep m) ([], false) = p) (hs : setStep m p x = q) :
    (L.take (k + 1)).foldl (setStep m) ([], false) = q := by
  rw [take_one L k x hx, List.foldl_append, h]
  exact hs
theorem setL_fold {m : Em} {L out : List Em} {done : Bool} (h : L.foldl (setStep m) ([], false) = (out, done)) : setL L m = if done then out else out ++ [m] := by
  unfold setL; rw [h]; rfl
theorem fold_done (m : Em) (l : List Em) : ∀ out, l.foldl (setStep m) (out, true) = (out ++ l.filter (fun x => x.e.n != m.e.n), true) := by
  induction l with
  | nil => intro out; simp
  | cons x r ih =>
    intro out
    rw [List.foldl_cons, List.filter_cons]
    cases h : (x.e.n != m.e.n) with
    | true => rw [setStep_ta out h, ih]; simp
    | false => rw [setStep_tb out h, ih]; simp
theorem setL_ins' (m : Em) (l : List Em) : ∀ out, (setFin m (l.foldl (setStep m) (out, false))).map (·.e) = out.map (·.e) ++ ins m.e (l.map (·.e)) := by
  induction l with
  | nil => intro out; simp [ins, setFin]
  | cons x r ih =>
    intro out
    rw [List.foldl_cons, List.map_cons, ins]
    by_cases hg : m.e.n ≤ x.e.n
    · rw [if_pos hg]
      cases h : (x.e.n != m.e.n) with
      | true =>
        rw [setStep_fa out h hg, fold_done]
        simp [setFin, List.filter_cons, h, List.filter_map, Function.comp_def]
      | false =>
        rw [setStep_fb out h hg, fold_done]
        simp [setFin, List.filter_cons, h, List.filter_map, Function.comp_def]
    · rw [if_neg hg]
      have h : (x.e.n != m.e.n) = true := by simp; omega
      rw [setStep_fc out h hg, ih]
      simp
theorem setL_ins (m : Em) (l : List Em) : (setL l m).map (·.e) = ins m.e (l.map (·.e)) := by
  have := setL_ins' m l []
  simpa [setL] using this
theorem setStep_mem {m x : Em} {p : List Em × Bool} : ∀ y ∈ (setStep m p x).1, y ∈ p.1 ∨ y = m ∨ y = x := by
  intro y hy
  unfold setStep at hy
  simp only at hy
  split at hy <;> split at hy <;> simp_all <;> grind
theorem fold_mem (m : Em) (l : List Em) : ∀ p, ∀ y ∈ (l.foldl (setStep m) p).1, y ∈ p.1 ∨ y = m ∨ y ∈ l := by
  induction l with
  | nil => intro p y hy; exact .inl hy
  | cons x r ih =>
    intro p y hy
    rw [List.foldl_cons] at hy
    rcases ih _ y hy with h | h | h
    · rcases setStep_mem y h with h | h | h
      · exact .inl h
      · exact .inr (.inl h)
      · exact .inr (.inr (h ▸ List.mem_cons_self ..))
    · exact .inr (.inl h)
    · exact .inr (.inr (List.mem_cons_of_mem _ h))
theorem setL_mem (m : Em) (l : List Em) : ∀ y ∈ setL l m, y = m ∨ y ∈ l := by
  intro y hy
  unfold setL setFin at hy
  split at hy
  · rcases fold_mem m l _ y hy with h | h | h
    · cases h
    · exact .inl h
    · exact .inr h
  · rcases List.mem_append.1 hy with hy | hy
    · rcases fold_mem m l _ y hy with h | h | h
      · cases h
      · exact .inl h
      · exact .inr h
    · exact .inl (List.mem_singleton.1 hy)
/-- One suspicion more behind a row of suspicions. -/
theorem set_own {w : World} {base : Nat} {v : Value} {l : List Em} {xs ys : List Value} {n : Nat} {x : Em} (h : w.ownsRow base 82 4 v (n + 1) (xs ++ ys)) (hx : xs = ecells l) (hn : n = l.length)
    (hy : ys = em4 x := by rfl) : w.ownsRow base 82 4 v (l ++ [x]).length (ecells (l ++ [x])) := by
  subst hx hn hy
  rw [List.length_append, ecells_append]
  simpa [ecells] using h
theorem own_lower {w : World} {base base' : Nat} {e : TypeId} {size n : Nat} {v : Value} {xs : List Value} (h : w.ownsRow base e size v n xs) (hb : base' ≤ base) : w.ownsRow base' e size v n xs := by
  refine ⟨h.1, ?_⟩
  rcases h.2 with h | ⟨g', cap, cur, h1, h2, h3⟩
  · exact .inl h
  · exact .inr ⟨g', cap, cur, h1, by omega, h3⟩
theorem Blk.six {w : World} {g : Nat} {t : TypeId} {a b c d e f : Value} (h : Blk w g t #[a, b, c, d, e, f]) (a' b' c' d' e' f' : Value) :
    Blk ((((((w.setCell ⟨g, 0, none⟩ a').setCell ⟨g, 1, none⟩ b').setCell ⟨g, 2, none⟩ c').setCell ⟨g, 3, none⟩ d').setCell ⟨g, 4, none⟩ e').setCell ⟨g, 5, none⟩ f') g t #[a', b', c', d', e', f'] :=
  (((((h.set_ 0 a').set_ 1 b').set_ 2 c').set_ 3 d').set_ 4 e').set_ 5 f'
theorem Blk.four {w : World} {g : Nat} {t : TypeId} {a b c d : Value} (h : Blk w g t #[a, b, c, d]) (a' b' c' d' : Value) :
    Blk ((((w.setCell ⟨g, 0, none⟩ a').setCell ⟨g, 1, none⟩ b').setCell ⟨g, 2, none⟩ c').setCell ⟨g, 3, none⟩ d') g t #[a', b', c', d'] :=
  (((h.set_ 0 a').set_ 1 b').set_ 2 c').set_ 3 d'
theorem below_six {B g : Nat} {w W : World} (h : Below B w W) (hg : B ≤ g) (a b c d e f : Value) :
    Below B w ((((((W.setCell ⟨g, 0, none⟩ a).setCell ⟨g, 1, none⟩ b).setCell ⟨g, 2, none⟩ c).setCell ⟨g, 3, none⟩ d).setCell ⟨g, 4, none⟩ e).setCell ⟨g, 5, none⟩ f) :=
  (((((h.setCell (p := ⟨g, 0, none⟩) hg _).setCell (p := ⟨g, 1, none⟩) hg _).setCell (p := ⟨g, 2, none⟩) hg _).setCell (p := ⟨g, 3, none⟩) hg _).setCell (p := ⟨g, 4, none⟩) hg _).setCell (p := ⟨g, 5, none⟩) hg _
theorem below_four {B g : Nat} {w W : World} (h : Below B w W) (hg : B ≤ g) (a b c d : Value) :
    Below B w ((((W.setCell ⟨g, 0, none⟩ a).setCell ⟨g, 1, none⟩ b).setCell ⟨g, 2, none⟩ c).setCell ⟨g, 3, none⟩ d) :=
  (((h.setCell (p := ⟨g, 0, none⟩) hg _).setCell (p := ⟨g, 1, none⟩) hg _).setCell (p := ⟨g, 2, none⟩) hg _).setCell (p := ⟨g, 3, none⟩) hg _
theorem own_six {w : World} {base g : Nat} {t : TypeId} {size n : Nat} {v a b c d e f : Value} {xs : List Value} (h : w.ownsRow base t size v n xs) (hg : g < base) :
    ((((((w.setCell ⟨g, 0, none⟩ a).setCell ⟨g, 1, none⟩ b).setCell ⟨g, 2, none⟩ c).setCell ⟨g, 3, none⟩ d).setCell ⟨g, 4, none⟩ e).setCell ⟨g, 5, none⟩ f).ownsRow base t size v n xs :=
  own_grown h (grown_setCell (g := g) (grown_setCell (g := g) (grown_setCell (g := g) (grown_setCell (g := g) (grown_setCell (g := g) (grown_setCell (g := g) (World.grownBy.refl w _) (.inl rfl) _) (.inl rfl) _) (.inl rfl) _) (.inl rfl) _) (.inl rfl) _) (.inl rfl) _) (fun k e hv => by have := own_base h k hv; injection e with e; omega)
end Go.Proofs.Ytadhcnfgbiokcaa
