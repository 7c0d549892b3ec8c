/- The statement MatchMissing. Conditions: none. -/
import Derived.Test.YtnidjfmbbfoheaaMaSplits
namespace Go.Proofs.Ytnidjfmbbfoheaa
set_option linter.unusedVariables false
set_option linter.unusedSimpArgs false
open Go.ChangeShapes Go.WideShapes Go.ChangeAt Go.RowKit Go.Joins Go.Deep Go.BigFrame

set_option maxRecDepth 100000 in
theorem missing_dark (m : Mt) (A0 : Option Addr) (cp : Nat) (l : List Pr) (w : World) (h : lightB l = false) (R : ReadsP w (fun b => b < w.heap.size) A0 l) (hl : ∀ p ∈ l, p.Ok) :
    Calls Try.prog 10 #[m.val, .slice A0 l.length cp] w fun e w' => e = .returned (.bool true) ∧ Below w.heap.size w w' := by
  have HL := Lib.hid (fun w' (hb : Below w.heap.size w w') => light_any A0 cp l w' (readsP_below R hb) hl)
  rw [h] at HL
  clear R hl h
  unfold Mt.val mval
  generalize bs m.n = mn at *
  generalize bs m.v = mv at *
  generalize m.op = mo at *
  have K1 := Lib.hid ((Below.refl w.heap.size w).alloc (Nat.le_refl _) (.cells #[.string mn, .int .u8 mo, .string mv] 37))
  go_enter Try.func10, Try.ntmps10
  go_wp2_with fail
  refine (HL.out _ K1.out).mono ?_
  rintro e w1 ⟨rfl, hk⟩
  have K2 := Lib.hid (below_then K1.out K1.out.size hk)
  clear hk
  go_wp2_with fail
  refine (awake4 _).mono ?_
  rintro e w2 ⟨rfl, hk⟩
  have K3 := Lib.hid (below_then K2.out K2.out.size hk)
  clear hk
  go_wp2
  go_ret
  exact ⟨rfl, K3.out⟩
set_option maxRecDepth 100000 in
theorem missing_bad (m : Mt) (hm : m.Ok) (A0 : Option Addr) (cp : Nat) (l : List Pr) (w : World) (h : lightB l = true) (hc : checkB m ≠ 0) (R : ReadsP w (fun b => b < w.heap.size) A0 l) (hl : ∀ p ∈ l, p.Ok) :
    Calls Try.prog 10 #[m.val, .slice A0 l.length cp] w fun e w' => e = .returned (.bool true) ∧ Below w.heap.size w w' := by
  have HL := Lib.hid (fun w' (hb : Below w.heap.size w w') => light_any A0 cp l w' (readsP_below R hb) hl)
  rw [h] at HL
  have HC := Lib.hid (fun w' => check_any m hm w')
  have hz : (checkB m != 0) = true := by rw [bne_iff_ne]; exact hc
  clear R hl h hc
  unfold Mt.val mval at *
  generalize checkB m = E at *
  generalize bs m.n = mn at *
  generalize bs m.v = mv at *
  generalize m.op = mo at *
  have K1 := Lib.hid ((Below.refl w.heap.size w).alloc (Nat.le_refl _) (.cells #[.string mn, .int .u8 mo, .string mv] 37))
  have B1 := Lib.hid (Blk.new w 37 #[.string mn, .int .u8 mo, .string mv])
  go_enter Try.func10, Try.ntmps10
  go_wp2_with fail
  refine (HL.out _ K1.out).mono ?_
  rintro e w1 ⟨rfl, hk⟩
  have K2 := Lib.hid (below_then K1.out K1.out.size hk)
  have B2 := Lib.hid (B1.out.below hk B1.out.lt)
  clear hk
  have y0 := B2.out.cell 0
  have y1 := B2.out.cell 1
  have y2 := B2.out.cell 2
  simp only [List.getElem?_toArray, List.getElem?_cons_zero, List.getElem?_cons_succ] at y0 y1 y2
  go_wp2_with fail
  refine (HC.out _).mono ?_
  rintro e w2 ⟨rfl, hk⟩
  have K3 := Lib.hid (below_then K2.out K2.out.size hk)
  clear hk y0 y1 y2
  go_wp2_with fail
  refine (awake4 _).mono ?_
  rintro e w4 ⟨rfl, hk⟩
  have K5 := Lib.hid (below_then K3.out K3.out.size hk)
  clear hk
  go_wp2
  go_ret
  exact ⟨rfl, K5.out⟩
/-- The labels of other names. -/
def others (n : List Nat) (l : List Pr) : List Pr := l.filter fun p => decide (p.n ≠ n)
theorem others_succ (n : List Nat) (l : List Pr) (i : Nat) (p : Pr) (h : l[i]? = some p) : others n (l.take (i + 1)) = others n (l.take i) ++ (if p.n = n then [] else [p]) := by
  unfold others
  rw [List.take_add_one, h]
  by_cases e : p.n = n
  · simp [e]
  · simp [e]
theorem getB_others (n : List Nat) (l r : List Pr) : getB (others n l ++ r) n = getB r n := by
  unfold others
  induction l with
  | nil => rfl
  | cons p q ih =>
    by_cases e : p.n = n
    · simpa [e] using ih
    · simp only [ne_eq, e, not_false_eq_true, decide_true, List.filter_cons_of_pos, List.cons_append]
      rw [show getB (p :: (List.filter (fun p => decide (p.n ≠ n)) q ++ r)) n = if p.n = n then p.v else getB (List.filter (fun p => decide (p.n ≠ n)) q ++ r) n from rfl, if_neg e]
      exact ih
theorem oneB_get (m : Mt) (l l' : List Pr) (h : getB l m.n = getB l' m.n) : oneB m l = oneB m l' := by unfold oneB; rw [h]
theorem und38c : Try.prog.underlying 38 = some (.slice 43) := by kernel_rfl
theorem info43 : (Try.prog.info? 43).map (fun i => (i.zero, i.size, i.bytes)) = some (some (.agg #[.string ⟨#[]⟩, .string ⟨#[]⟩]), 2, 32) := by kernel_rfl
set_option maxRecDepth 100000 in
set_option maxHeartbeats 2000000 in
theorem missing_main (m : Mt) (hm : m.Ok) (A0 : Option Addr) (cp : Nat) (l : List Pr) (w : World) (h : lightB l = true) (hc : checkB m = 0) (R : ReadsP w (fun b => b < w.heap.size) A0 l) (hl : ∀ p ∈ l, p.Ok) :
    Calls Try.prog 10 #[m.val, .slice A0 l.length cp] w fun e w' => e = .returned (.bool true) ∧ Below w.heap.size w w' := by
  obtain ⟨h40, h200⟩ := light_is h
  have HL := Lib.hid (fun w' (hb : Below w.heap.size w w') => light_any A0 cp l w' (readsP_below R hb) hl)
  rw [h] at HL
  have HO : Hid (∀ (l' : List Pr), l'.length ≤ 41 → (∀ p ∈ l', p.Ok) → (∀ p ∈ l', p.v.length ≤ 200) → ∀ (A1 : Option Addr) (c1 : Nat) (w' : World) (R1 : ReadsP w' (fun b => b < w'.heap.size) A1 l'), Calls Try.prog 32 #[m.val, .slice A1 l'.length c1] w' fun e w2 => e = .returned (.bool (oneB m l')) ∧ Below w'.heap.size w' w2) :=
    Lib.hid (fun l' h1 h2 h3 A1 c1 w' R1 => mone_any A1 c1 l' m w' hm (by omega) R1 h2 (fun p hp => by have := h3 p hp; omega))
  have HC := Lib.hid (fun w' => check_any m hm w')
  rw [hc] at HC
  have HR := Lib.hid R
  have HOK := Lib.hid hl
  have H200 := Lib.hid h200
  have HMO := Lib.hid hm
  clear R hl h h200 hc
  unfold Mt.val mval at *
  generalize hmn : bs m.n = mn at *
  have HMN := Lib.hid hmn
  clear hmn hm
  generalize bs m.v = mv at *
  generalize m.op = mo at *
  have K1 := Lib.hid ((Below.refl w.heap.size w).alloc (Nat.le_refl _) (.cells #[.string mn, .int .u8 mo, .string mv] 37))
  have B1 := Lib.hid (Blk.new w 37 #[.string mn, .int .u8 mo, .string mv])
  go_enter Try.func10, Try.ntmps10
  go_wp2_with fail
  refine (HL.out _ K1.out).mono ?_
  rintro e w1 ⟨rfl, hk⟩
  have K2 := Lib.hid (below_then K1.out K1.out.size hk)
  have B2 := Lib.hid (B1.out.below hk B1.out.lt)
  clear hk
  have y0 := B2.out.cell 0
  have y1 := B2.out.cell 1
  have y2 := B2.out.cell 2
  simp only [List.getElem?_toArray, List.getElem?_cons_zero, List.getElem?_cons_succ] at y0 y1 y2
  go_wp2_with fail
  refine (HC.out _).mono ?_
  rintro e w2 ⟨rfl, hk⟩
  have K3 := Lib.hid (below_then K2.out K2.out.size hk)
  have B3 := Lib.hid (B2.out.below hk B2.out.lt)
  clear hk y0 y1 y2
  go_wp2
  go_loopg [5, 6] l.length (fun gg s5 s6 wr => ∃ i : Nat, s6 = .int .i64 (i : Int) ∧ i ≤ l.length ∧ l.length - i ≤ gg ∧ Hid (wr.ownsRow (w.heap.size + 1) 43 2 s5 (others m.n (l.take i)).length (prs (others m.n (l.take i)))) ∧ Hid (Below w.heap.size w wr) ∧ Hid (Blk wr w.heap.size 37 #[.string mn, .int .u8 mo, .string mv]))
  case atStart => exact ⟨0, by go_num, by omega, by omega, Lib.hid (own_nil _ _ _ _), K3, B3⟩
  case round =>
    obtain ⟨i, rfl, hi, hgg, HW, K4, B4⟩ := hrel
    have y0 := B4.out.cell 0
    simp only [List.getElem?_toArray, List.getElem?_cons_zero, List.getElem?_cons_succ] at y0
    by_cases hlt : i < l.length
    · have hiI : (i : Int) < (l.length : Int) := by omega
      have hi0 : (0 : Int) ≤ (i : Int) := by omega
      obtain ⟨b, o, rfl, hb, hcell⟩ := (HR.out.below (by omega) K4.out).2 (by omega)
      obtain ⟨p, hp⟩ : ∃ p, l[i]? = some p := ⟨_, List.getElem?_eq_getElem hlt⟩
      obtain ⟨g0, g1⟩ := prs_get l i p hp
      have c0 := hcell _ _ g0
      have c1 := hcell _ _ g1
      rw [← Nat.add_assoc] at c1
      have hsucc := others_succ m.n l i p hp
      have hpo := HOK.out p (List.mem_of_getElem? hp)
      have hcmp := bs_beq hpo.1 HMO.out.1
      have hne : ((bs p.n).toList != (bs m.n).toList) = !decide (p.n = m.n) := by rw [← hcmp]; rfl
      rw [HMN.out] at hcmp hne
      have HP := Lib.hid hp
      clear hp hpo g0 g1 hcell
      by_cases he : p.n = m.n
      · rw [if_pos he, List.append_nil] at hsucc
        rw [decide_eq_true he] at hcmp hne
        rw [← hsucc] at HW
        clear he hsucc
        generalize bs p.n = pn at *
        generalize bs p.v = pv at *
        go_wp2
        go_quiet (fail)
        go_wp2
        go_roundg (l.length - (i + 1))
        case measure => omega
        case rel => exact ⟨i + 1, by go_num, by omega, by omega, Lib.hid HW.out, Lib.hid (below_drewN K4.out _), Lib.hid B4.out⟩
      · rw [if_neg he] at hsucc
        rw [decide_eq_false he] at hcmp hne
        have hlen1 : (others m.n (l.take (i + 1))).length = (others m.n (l.take i)).length + 1 := by rw [hsucc]; simp
        have hprs1 : prs (others m.n (l.take (i + 1))) = prs (others m.n (l.take i)) ++ [.string (bs p.n), .string (bs p.v)] := by rw [hsucc, prs_app]; rfl
        have hle : (others m.n (l.take i)).length ≤ 40 := by
          have : (others m.n (l.take i)).length ≤ (l.take i).length := List.length_filter_le _ _
          rw [List.length_take] at this
          omega
        have HL1 := Lib.hid hlen1
        have HP1 := Lib.hid hprs1
        have hws : w.heap.size + 1 ≤ wr.heap.size := B4.out.lt
        clear he hsucc hlen1 hprs1
        generalize bs p.n = pn at *
        generalize bs p.v = pv at *
        go_wp2
        go_quiet (fail)
        go_wp2_with (at_builtin
                     refine app_row (W := wr.drewN nq) (w.heap.size + 1) rfl (.tmp 31) (.tmp 36) 38 43 _ 2 32 rfl und38c info43 rfl (by omega) _ (others m.n (l.take i)).length (prs (others m.n (l.take i))) #[.string pn, .string pv] rfl _ rfl rfl (by simp [Value.oneCell']) rfl HW.out hws (by omega) (by omega) ?_
                     intro v1 w5 hO hG hat
                     have HW5 : Hid (w5.ownsRow (w.heap.size + 1) 43 2 v1 (others m.n (l.take (i + 1))).length (prs (others m.n (l.take (i + 1))))) := Lib.hid (by rw [HL1.out, HP1.out]; exact hO)
                     have K5 := Lib.hid ((below_drewN K4.out nq).trans (below_of_grown (B := w.heap.size) (by show w.heap.size ≤ wr.heap.size; omega) hG (fun k hk => by have := own_base HW.out k hk; omega)))
                     have B5 : Hid (Blk w5 w.heap.size 37 #[.string mn, .int .u8 mo, .string mv]) := Lib.hid ((B4.out.drewN nq).grown hG (fun e => by have := own_base HW.out _ e.symm; omega))
                     clear hO hG hat)
        go_roundg (l.length - (i + 1))
        case measure => omega
        case rel => exact ⟨i + 1, by go_num, by omega, by omega, HW5, K5, B5⟩
    · have hie : i = l.length := by omega
      subst hie
      rw [List.take_length] at HW
      obtain ⟨L, hL⟩ : ∃ L, others m.n l = L := ⟨_, rfl⟩
      rw [hL] at HW
      have hLl : L.length ≤ 40 := by
        rw [← hL]
        have : (others m.n l).length ≤ l.length := List.length_filter_le _ _
        omega
      have HLok : Hid (∀ p ∈ L, p.Ok) := Lib.hid (fun p hp => HOK.out p (by rw [← hL] at hp; exact (List.mem_filter.1 hp).1))
      have HL200 : Hid (∀ p ∈ L, p.v.length ≤ 200) := Lib.hid (fun p hp => H200.out p (by rw [← hL] at hp; exact (List.mem_filter.1 hp).1))
      have e1 : oneB m (L ++ [⟨m.n, []⟩]) = oneB m L := oneB_get _ _ _ (by
        rw [← hL, getB_others]
        have := getB_others m.n l []
        rw [List.append_nil] at this
        rw [this]
        simp [getB])
      have e2 : oneB m [] = oneB m L := oneB_get _ _ _ (by
        rw [← hL]
        have := getB_others m.n l []
        rw [List.append_nil] at this
        rw [this])
      have HE1 := Lib.hid e1
      have HE2 := Lib.hid e2
      have hws : w.heap.size + 1 ≤ wr.heap.size := B4.out.lt
      clear e1 e2 hL HL HC
      obtain ⟨A5, c5, rfl, R5⟩ := Reads.of_own HW.out
      have HR5 : Hid (ReadsP wr (fun b => b < wr.heap.size) A5 L) := Lib.hid (R5.imp (fun b hb => own_lt HW.out b hb))
      have HSW := Lib.hid (keepB (Below.refl wr.heap.size wr))
      have hmn0 : w.heap.size < wr.heap.size := by omega
      have y9 := fun X (h : SB wr.heap.size wr X) => (h.1 w.heap.size 0 hmn0).trans y0
      have HPR : Hid (prs [⟨m.n, []⟩] = [.string mn, .string ⟨#[]⟩]) := Lib.hid (by rw [← HMN.out]; rfl)
      clear R5 HW
      go_upto_region 9 with fail
      go_cut [7] from 38 to 45 (fun s7 wx => ∃ A6 c6, s7 = .slice A6 (L.length + 1) c6 ∧ Go.RowKit.Hid (ReadsP wx (fun b => b < wx.heap.size) A6 (L ++ [⟨m.n, []⟩])) ∧ Go.RowKit.Hid (SB wr.heap.size wr wx))
      case first =>
        go_region_held3 (fun X => SB wr.heap.size wr X) (((repeat (with_reducible first | assumption | exact HSW.out | refine sb_drew ?_ | refine sb_alloc ?_ (Nat.le_refl _) _)); all_goals first | done | (simp; done) | (simp; omega)))
          (first
            | (refine step_app_reads _ wr.heap.size rfl (.tmp 38) (.tmp 39) 38 43 _ 2 32 rfl und38c info43 rfl (by omega) _ 0 [] rfl (fun _ => True) A5 L.length c5 (prs L) rfl ?_ (prs_one L) ?_ ?_ (by omega) (by omega) ?_
               · refine (HR5.out.below (by omega) (And.right (And.right (?_ : SB wr.heap.size wr _)))).imp (fun _ _ => trivial)
                 ((repeat (with_reducible first | assumption | exact HSW.out | refine sb_drew ?_ | refine sb_alloc ?_ (Nat.le_refl _) _)); all_goals first | done | (simp; done) | (simp; omega))
               · refine own_of_blk0 ?_ ?_
                 · (repeat (with_reducible first | exact Blk.new_at (by simp) | refine Blk.drew ?_ | refine Blk.alloc ?_ _)); all_goals first | done | (simp; done) | (simp; omega)
                 · first | exact Nat.le_refl _ | (simp; done) | omega
               · refine (And.right (And.right (?_ : SB wr.heap.size wr _))).size
                 ((repeat (with_reducible first | assumption | exact HSW.out | refine sb_drew ?_ | refine sb_alloc ?_ (Nat.le_refl _) _)); all_goals first | done | (simp; done) | (simp; omega))
               intro v1 wa hO hG hat
               have O1 : wa.ownsRow wr.heap.size 43 2 v1 L.length (prs L) := by simpa using hO
               have SA : SB wr.heap.size wr wa := by
                 refine sb_grown ?_ hG (fun k hk => ?_)
                 · ((repeat (with_reducible first | assumption | exact HSW.out | refine sb_drew ?_ | refine sb_alloc ?_ (Nat.le_refl _) _)); all_goals first | done | (simp; done) | (simp; omega))
                 · have hk' := Option.some.inj (show some _ = some k from hk); try dsimp only at hk'; omega
               have LA := hG.size)
            | (refine step_app_reads _ wr.heap.size rfl (.tmp 40) (.tmp 44) 38 43 _ 2 32 rfl und38c info43 rfl (by omega) v1 L.length (prs L) rfl (fun _ => True) _ 1 _ (prs [⟨m.n, []⟩]) rfl ?_ (prs_one _) ?_ ?_ (by omega) (by omega) ?_
               · refine reads_blk (t := 43) (cs := #[.string mn, .string ⟨#[]⟩]) ?_ HPR.out.symm rfl
                 (repeat (with_reducible first | exact Blk.new_at (by simp) | refine Blk.drew ?_ | refine Blk.alloc ?_ _ | refine Blk.grown ?_ hG ?_)); all_goals first | done | (intro hh; have hk' := Option.some.inj (show some _ = some _ from hh); try dsimp only at hk'; omega)
               · (repeat (with_reducible first | assumption | refine own_drew ?_ | refine own_alloc ?_ _)); all_goals (first | done | (simp; done))
               · refine (And.right (And.right (?_ : SB wr.heap.size wr _))).size
                 ((repeat (with_reducible first | assumption | exact HSW.out | refine sb_drew ?_ | refine sb_alloc ?_ (Nat.le_refl _) _)); all_goals first | done | (simp; done) | (simp; omega))
               intro v2 wb hO2 hG2 hat2
               have SB2 : SB wr.heap.size wr wb := by
                 refine sb_grown ?_ hG2 (fun k hk => own_base O1 k hk)
                 ((repeat (with_reducible first | assumption | exact HSW.out | refine sb_drew ?_ | refine sb_alloc ?_ (Nat.le_refl _) _)); all_goals first | done | (simp; done) | (simp; omega))))
        all_goals
          obtain ⟨A6, c6, rfl, R6⟩ := Reads.of_own hO2
          go_wp2
          go_meet
          case rel =>
            refine ⟨A6, c6, rfl, Lib.hid ?_, Lib.hid ?_⟩
            · have := R6.imp (fun b hb => own_lt hO2 b hb)
              unfold ReadsP
              rw [prs_app, List.length_append]
              exact this
            · ((repeat (with_reducible first | assumption | exact HSW.out | refine sb_drew ?_ | refine sb_alloc ?_ (Nat.le_refl _) _)); all_goals first | done | (simp; done) | (simp; omega))
      case rest =>
        obtain ⟨A6, c6, rfl, R6, S6⟩ := hcut
        have K6 := Lib.hid S6.out.2.2
        have R56 := Lib.hid (readsP_below HR5.out K6.out)
        have B6 := Lib.hid (B4.out.below K6.out hmn0)
        have KA := Lib.hid (below_then K4.out (by omega) K6.out)
        have e0 := fun y : Ext wc.heap.size wc => (Ext.blk B6.out B6.out.lt (x := y)).cell 0
        have e1 := fun y : Ext wc.heap.size wc => (Ext.blk B6.out B6.out.lt (x := y)).cell 1
        have e2 := fun y : Ext wc.heap.size wc => (Ext.blk B6.out B6.out.lt (x := y)).cell 2
        simp only [List.getElem?_toArray, List.getElem?_cons_zero, List.getElem?_cons_succ] at e0 e1 e2
        have HQ1 : Hid (∀ x : Ext wc.heap.size wc, Calls Try.prog 32 #[.agg #[.string mn, .int .u8 mo, .string mv], .slice A5 L.length c5] x.W fun e w' => e = .returned (.bool (oneB m L)) ∧ Below x.W.heap.size x.W w') :=
          Lib.hid (fun x => HO.out L (by omega) HLok.out HL200.out A5 c5 x.W (readsP_below R56.out x.h))
        have HQ2 : Hid (∀ x : Ext wc.heap.size wc, Calls Try.prog 32 #[.agg #[.string mn, .int .u8 mo, .string mv], .slice A6 (L.length + 1) c6] x.W fun e w' => e = .returned (.bool (oneB m L)) ∧ Below x.W.heap.size x.W w') :=
          Lib.hid (fun x => by
            have := HO.out (L ++ [⟨m.n, []⟩]) (by simp; omega) (fun p hp => by
              rcases List.mem_append.1 hp with hp | hp
              · exact HLok.out p hp
              · rw [List.mem_singleton] at hp; subst hp; exact ⟨HMO.out.1, HMO.out.2.1, by simp, by simp⟩) (fun p hp => by
              rcases List.mem_append.1 hp with hp | hp
              · exact HL200.out p hp
              · rw [List.mem_singleton] at hp; subst hp; simp) A6 c6 x.W (readsP_below R6.out x.h)
            rw [HE1.out, List.length_append] at this
            exact this)
        have HQ3 : Hid (∀ x : Ext wc.heap.size wc, Calls Try.prog 32 #[.agg #[.string mn, .int .u8 mo, .string mv], .slice none 0 0] x.W fun e w' => e = .returned (.bool (oneB m L)) ∧ Below x.W.heap.size x.W w') :=
          Lib.hid (fun x => by
            have := HO.out [] (by simp) (fun p hp => by cases hp) (fun p hp => by cases hp) none 0 x.W (Reads.nil _ _ _ _)
            rw [HE2.out] at this
            exact this)
        clear y9 y0
        generalize oneB m L = Q at *
        go_upto_region 10 with fail
        cases Q
        all_goals
          refine wp_region_exts (by kernel_rfl) (by kernel_rfl) ?_
          repeat
            first
              | go_big_quiet_skip
              | (go_big_quiet_want; go_big_quiet_op
                 first
                   | go_big_quiet_on
                   | (apply Exists.intro
                      refine ⟨fun x => ?_, ?_⟩
                      · (first
                          | (go_at_call 32; with_reducible exact calls_ext (Nat.le_refl _) (HQ1.out x))
                          | (go_at_call 32; with_reducible exact calls_ext (Nat.le_refl _) (HQ2.out x))
                          | (go_at_call 32; with_reducible exact calls_ext (Nat.le_refl _) (HQ3.out x))
                          | (go_at_call 30; exact calls_ext (Nat.le_refl _) (awake4 _)))
                      go_big_quiet_on
                      try (skip)))
          refine wpQuiet_nil ?_
          rintro _ ⟨x, rfl⟩
          have KX := Lib.hid (below_then KA.out KA.out.size x.h)
          clear e0 e1 e2
          go_wp2
          go_ret
          exact ⟨rfl, KX.out⟩
theorem missing_law (m : Mt) (hm : m.Ok) (A0 : Option Addr) (cp : Nat) (l : List Pr) (w : World) (R : ReadsP w (fun b => b < w.heap.size) A0 l) (hl : ∀ p ∈ l, p.Ok) :
    Calls Try.prog 10 #[m.val, .slice A0 l.length cp] w fun e w' => e = .returned (.bool true) ∧ Below w.heap.size w w' := by
  cases h : lightB l with
  | false => exact missing_dark m A0 cp l w h R hl
  | true =>
    by_cases hc : checkB m = 0
    · exact missing_main m hm A0 cp l w h hc R hl
    · exact missing_bad m hm A0 cp l w h hc R hl
set_option maxRecDepth 100000 in
theorem matchMissing_lifted (os : Os) (started : os.Started) (H : Type) (enc : TypeId × Value → H) :
    ReturnsInHanded {} Try.checked os 10 .any (Rows.matchMissingSpec.pre6 enc Try.prog Try.f10 Rows.matchMissingRow.domain false) (Rows.matchMissingSpec.post enc Try.prog Try.f10 false true false false) := by
  refine returnsInHanded_of_change (C := Try.checked) tOwn started (by kernel_rfl) Try.func10
    (ChangeSpec.witness6 (enc := enc) (C := Try.checked) false ⟨#[], #[.agg #[.string ⟨#[]⟩, .int .u8 0, .string ⟨#[]⟩], .slice none 0 0], []⟩ 8 (by kernel_rfl) (by kernel_rfl) (by kernel_rfl) (by kernel_rfl)) ?_
  intro W base args ds gs before hval0 hW hcnd _
  have hval : ∀ (j : Nat) t v, Try.f10.params[j]? = some t → args[j]? = some v → Value.okWide Try.prog W .any base t v := hval0
  have hW' := hW
  obtain ⟨p, q, hA0, hV, rfl, hfz, hnd⟩ := hW
  have hA : DataW.TrodAll enc Try.prog W 0 (fun _ => true) true Try.f10.params.toList args.toList ds p := hA0
  rw [Try.params10] at hA hval
  obtain ⟨v0, vs0, d0, ds0, p0, q0, hargs, rfl, rfl, h0, r0⟩ := trodAll_cons hA
  obtain ⟨v1, vs1, d1, ds1, p1, q1, rfl, rfl, rfl, h1, r1⟩ := trodAll_cons r0
  obtain ⟨rfl, rfl, rfl⟩ := trodAll_nil r1
  obtain rfl : args = #[v0, v1] := by cases args; simp_all
  obtain ⟨m, rfl, om⟩ := open_matcher (hval 0 37 v0 rfl rfl) h0
  obtain ⟨Al, cl, l, rfl, rl, ol⟩ := open_pairs (hval 1 38 v1 rfl rfl) h1
  refine (missing_law m om Al cl l W rl ol).mono fun e W' ⟨he, hb⟩ => ?_
  subst he
  exact ⟨_, rfl, law_post tLaid (by decide +kernel) hW' rfl (by kernel_rfl) Try.underlying4 rfl hb⟩

/-- The closed facts of the row. -/
theorem matchMissing_facts : joinedFacts Try.pinned.checked.prog 10 Try.f10 Rows.matchMissingSpec Rows.matchMissingRow = true := joined_at 10 Try.f10 Rows.matchMissingSpec Rows.matchMissingRow (by
  intro P hP h1 h2 h3
  unfold joinedFacts
  rw [h1, h2, h3]
  subst hP
  kernel_rfl)
/-- The statement. -/
theorem matchMissing_holds : Rows.MatchMissingSaid :=
  OpenClaim.holds_of_wide 10 Try.f10 rfl rfl rfl rfl rfl rfl rfl ⟨rfl, rfl, rfl, rfl, rfl⟩ rfl rfl rfl rfl rfl (by kernel_rfl) Try.func10 matchMissing_facts
    (of_decide_eq_true (by kernel_rfl)) (by unfold Func.isWrapper; rw [if_neg (of_decide_eq_false (by kernel_rfl))]; exact ⟨rfl, rfl⟩)
    (fun os started H enc _ => matchMissing_lifted os started H enc)
#print axioms matchMissing_holds
end Go.Proofs.Ytnidjfmbbfoheaa
