/- WALK: probe's bury. -/
import Derived.Test.YtnlpgjdgiappcaaPbWalk3
import Derived.Test.YtnlpgjdgiappcaaPbPure4
import Derived.Laws.AppendOwnNone
namespace Go.Proofs.Ytnlpgjdgiappcaa
set_option linter.unusedVariables false
set_option linter.unusedSimpArgs false
open Go.RowKit

/-- append of one member at most. -/
theorem app_opt {ops : Array Oper} {rest : List Oper} {o : Oper} {a : Act} {Q : Exit → Act → World → Prop} {W : World} (base : Nat) (hgd : o.guard = none) (s x : Operand)
    (ho : o.op = .call { callee := .builtin .append, args := #[s, x], argTypes := #[36, 36] })
    (v : Value) (n : Nat) (xs : List Value) (hs : a.eval s = v) (vx : Value) (om : Option Pl.M) (b0 : Nat) (hx : a.eval x = vx) (hO : OneM W b0 vx om)
    (HO : W.ownsRow base 25 3 v n xs) (hbase : base ≤ W.heap.size) (hn : n + 1 ≤ 4294967296)
    (h : ∀ v1 w1, w1.ownsRow base 25 3 v1 (n + om.toList.length) (xs ++ rows om.toList) → W.grownBy w1 v.ownBlock → (v1.ownBlock = v.ownBlock ∨ ∃ b, v1.ownBlock = some b ∧ W.heap.size ≤ b) → wpList Try.prog ops Q rest (a.put o.dst v1) w1) :
    wpList Try.prog ops Q (o :: rest) a W := by
  obtain ⟨i0, hi, hz0, hz1, hz2⟩ := info_parts member_info
  cases om with
  | none =>
    subst hO
    refine wpList_append_own_none hgd s x 36 ho base 25 i0 3 Try.underlying36 hi v n xs hs HO hx (h v W ?_ (World.grownBy.refl W _) (.inl rfl))
    simpa [rows] using HO
  | some m =>
    obtain ⟨b, rfl, hb, hB⟩ := hO
    have hr : rows (some m).toList = row3 m := by simp [rows]
    rw [hr] at h
    refine wpList_append_own_at W hgd s x 36 ho base 25 i0 _ 3 16 Try.underlying36 hi hz0 hz1 hz2 rfl (by omega) v n xs hs HO ⟨b, 0, none⟩ 1 1 (row3 m) hx rfl ?_ ?_ (by simp only [maxLen]; omega) (by omega) hbase ?_
    · intro j u hu
      rw [Addr.add_mid, Nat.zero_add, hB.cell j]
      simpa [mcells, row3] using hu
    · intro u hu
      simp [row3] at hu
      rcases hu with rfl | rfl | rfl <;> rfl
    · intro v1 w1 hown hg _ hat
      refine h v1 w1 hown hg ?_
      rcases hat with hat | hat
      · exact .inl hat
      · exact .inr ⟨_, hat, Nat.le_refl _⟩

theorem own_drewN {w : World} {base n : Nat} {e : TypeId} {size : Nat} {v : Value} {xs : List Value} (h : w.ownsRow base e size v n xs) (k : Nat) : (w.drewN k).ownsRow base e size v n xs := h
theorem u16_of (k : Nat) (h : k < 64) : IntKind.u16.wrap (k : Int) = (k : Int) := by rw [IntKind.wrap_u16]; omega
theorem g2_own {w W w2 : World} {a b : Nat} {base : Nat} {e : TypeId} {size n : Nat} {v : Value} {xs : List Value} (h : Grow2 w W a b) (ho : W.ownsRow base e size v n xs) (hb : w.heap.size ≤ base) (k : W.grownBy w2 v.ownBlock) : Grow2 w w2 a b :=
  h.own k (fun q hq => by have := own_base ho q hq; omega)

set_option maxRecDepth 100000 in
set_option maxHeartbeats 4000000 in
theorem bury_any (g gt : Nat) (p : Pl.Pb) (f : Pl.Tab) (now : Int) (w : World) (H : IsPb w g p) (hT : IsT w gt p.me f) (hp : Pl.PbOk p) (hf : Pl.TOk p.me f) (h0 : 0 ≤ now) (h1 : now ≤ 1099511627776) :
    Calls Try.prog 52 #[.pointer (some ⟨g, 0, none⟩), .int .i64 now, .pointer (some ⟨gt, 0, none⟩)] w fun e w' =>
      ∃ v, e = .returned v ∧ w'.ownsRow w.heap.size 25 3 v (Pl.bury now p f).2.2.length (rows (Pl.bury now p f).2.2) ∧ Grow2 w w' g gt ∧ IsPb w' g (Pl.bury now p f).1 ∧ IsT w' gt p.me (Pl.bury now p f).2.1 := by
  have hlt := H.lt
  have hgt := hT.lt
  have hne : g ≠ gt := H.ne_ hT (by decide)
  have HN := Lib.hid hne
  have hgw : g < w.heap.size := hlt
  have inv := fun k => Pl.buryN_inv (now := now) hp hf k
  have INV := Lib.hid inv
  have HH := Lib.hid H
  have TT := Lib.hid hT
  have HF := Lib.hid hf
  clear inv H hT hne hp hf
  rw [Pl.bury_eq]
  go_enter Try.func52, Try.ntmps52
  go_wp2
  go_loopw [7, 12] (fun v i wr => ∃ k : Nat, k ≤ 64 ∧ i = .int .i64 k ∧ wr.ownsRow w.heap.size 25 3 v (Pl.buryN now p f k).2.2.length (rows (Pl.buryN now p f k).2.2) ∧ Grow2 w wr g gt ∧ IsPb wr g (Pl.buryN now p f k).1 ∧ IsT wr gt p.me (Pl.buryN now p f k).2.1) (fun _ i _ => 64 - (intOf i).toNat)
  case atStart => exact ⟨0, Nat.zero_le _, rfl, by simpa [Pl.buryN, rows] using own_nil w w.heap.size 25 3, .refl w g gt, HH.out, TT.out⟩
  case round =>
    obtain ⟨k, hk, rfl, hown, hgr, hH, hTk⟩ := hrel
    by_cases hlt : k < 64
    · have hk0 : (0 : Int) ≤ (k : Int) := by omega
      have hk1 : (k : Int) < 64 := by omega
      have hu := u16_of k hlt
      have hwsz := hgr.size
      obtain ⟨i1, i2, i3, i4⟩ := INV.out k
      have hsucc := Pl.buryN_succ now p f k
      have SUCC := Lib.hid hsucc
      clear hsucc
      generalize hX : Pl.buryN now p f k = X at *
      have HX := Lib.hid hX
      clear hX
      obtain ⟨q, F, nw⟩ := X
      simp only at hown hH hTk i1 i2 i3 i4 ⊢
      have eme := i3.me
      have hq0 := i1.per0
      have hq1 := i1.per1
      have hw0 := i1.w0 k
      obtain ⟨f0, f1⟩ := hw0
      have d0 := hH.cell k 0 hlt (by omega)
      have d1 := hH.cell k 1 hlt (by omega)
      have d2 := hH.cell k 2 hlt (by omega)
      have c1 := hH.head 1 (by omega)
      simp only [wa, phead, List.getElem?_cons_zero, List.getElem?_cons_succ, Nat.add_zero] at d0 d1 d2 c1
      have hfz := hH.frozen
      have hgl := hH.lt
      have OW := Lib.hid hown
      have GR := Lib.hid hgr
      have PP := Lib.hid hH
      have T1 := Lib.hid hTk
      have FOK := Lib.hid i2
      have EME := Lib.hid eme
      clear hown hgr hH hTk i1 i2 i3 eme
      cases his : (q.w k).is with
      | false =>
        have e : Pl.buryN now p f (k + 1) = (q, F, nw) := by rw [SUCC.out]; unfold Pl.bury1; simp [his]
        have E := Lib.hid e
        rw [his] at d0
        clear e his
        go_wp2
        go_roundw
        case rel => exact ⟨k + 1, by omega, by go_num, by rw [E.out]; exact OW.out, GR.out, by rw [E.out]; exact PP.out, by rw [E.out]; exact T1.out⟩
        case measure => simp [intOf]; omega
      | true =>
        rw [his] at d0
        have hget := fun W hW => get_near gt p.me F k (F k) W hW hlt rfl
        have GET := Lib.hid hget
        clear hget
        cases hFk : F k with
        | none =>
          have e : Pl.buryN now p f (k + 1) = (q.setW k ⟨false, (q.w k).i, (q.w k).f⟩, F, nw) := by rw [SUCC.out]; unfold Pl.bury1; simp [his, hFk]
          have E := Lib.hid e
          clear e his
          have HFK := Lib.hid hFk
          clear hFk
          go_wp2_with fail
          refine (GET.out _ T1.out).mono ?_
          rw [HFK.out]
          rintro e w1 ⟨rfl, hb⟩
          have s1 := hb.size
          have P1 := Lib.hid (PP.out.below hb PP.out.lt)
          have T2 := Lib.hid (T1.out.below hb T1.out.lt)
          have G2 := Lib.hid (GR.out.then_ hb)
          have O2 := Lib.hid (own_below OW.out hb)
          have hfz1 := P1.out.frozen
          have hgl1 := P1.out.lt
          have dd0 := P1.out.cell k 0 hlt (by omega)
          simp only [wa, List.getElem?_cons_zero, List.getElem?_cons_succ, Nat.add_zero] at dd0
          clear hb d0 d1 d2 c1 hfz
          simp only [getVal, mcells, mzero]
          go_wp2
          go_quiet (fail)
          go_wp2
          go_roundw
          case rel =>
            refine ⟨k + 1, by omega, by go_num, ?_, (((G2.out.alloc _).drewN _).setCell (.inl rfl) _), ?_, ?_⟩
            · rw [E.out]
              exact own_grown (own_drewN (O2.out.alloc _) _) (grown_setCell (g := g) (World.grownBy.refl _ _) (.inl rfl) _) (fun a ha hv => by
                injection ha with ha
                have := own_base O2.out a hv
                omega)
            · rw [E.out]; exact (((P1.out.alloc _).drewN _).unwatch k hlt)
            · rw [E.out]; exact ((T2.out.alloc _).drewN _).far (p := ⟨g, 9 + k * 3, none⟩) HN.out _
          case measure => simp [intOf]; omega
        | some m =>
          have hmat := FOK.out.at_ k m hFk
          obtain ⟨_, mn, ms0, ms1, mi0, mi1⟩ := hmat
          have HFK := Lib.hid hFk
          clear hFk
          by_cases c1' : m.s = 1
          · by_cases c2' : m.i = (q.w k).i
            · by_cases c3' : 3 * q.per ≤ now - (q.w k).f
              · have e : Pl.buryN now p f (k + 1) = (q.setW k ⟨false, (q.w k).i, (q.w k).f⟩, Pl.heard q.me F ⟨m.n, 2, m.i⟩, nw ++ (Pl.hear q.me F ⟨m.n, 2, m.i⟩).toList) := by
                  rw [SUCC.out]; unfold Pl.bury1; simp only [his, HFK.out, if_true]
                  rw [if_neg (by simp [c1', c2']), if_pos c3']
                have E := Lib.hid e
                have C1 := Lib.hid c1'
                have C2 := Lib.hid c2'
                have hmo : Pl.MOk ⟨m.n, 2, m.i⟩ := ⟨by simp only; omega, by simp only; omega, by simp only; omega, by simp only; omega, by simp only; omega, by simp only; omega⟩
                have MO := Lib.hid hmo
                clear e his hmo
                go_wp2_with fail
                refine (GET.out _ T1.out).mono ?_
                rw [HFK.out]
                rintro e w1 ⟨rfl, hb⟩
                simp only [getVal, mcells]
                rw [c1', c2']
                have s1 := hb.size
                have P1 := Lib.hid (PP.out.below hb PP.out.lt)
                have T2 := Lib.hid (T1.out.below hb T1.out.lt)
                have G2 := Lib.hid (GR.out.then_ hb)
                have O2 := Lib.hid (own_below OW.out hb)
                have hfz1 := P1.out.frozen
                have hgl1 := P1.out.lt
                have dd0 := P1.out.cell k 0 hlt (by omega)
                have dd1 := P1.out.cell k 1 hlt (by omega)
                have dd2 := P1.out.cell k 2 hlt (by omega)
                have cc1 := P1.out.head 1 (by omega)
                simp only [wa, phead, List.getElem?_cons_zero, List.getElem?_cons_succ, Nat.add_zero] at dd0 dd1 dd2 cc1
                clear hb d0 d1 d2 c1 hfz
                have hne1 : (((1 : Int)) != 1) = false := rfl
                have c3w : decide (3 * q.per ≤ now - (q.w k).f) = true := by simpa using c3'
                clear c1' c2'
                go_wp2
                go_quiet (fail)
                go_wp2
                go_quiet (fail)
                go_wp2_with fail
                have hm2 : Pl.MOk ⟨(k : Int), 2, (q.w k).i⟩ := by have := MO.out; rw [mn, C2.out] at this; exact this
                refine (says_any gt p.me F ⟨(k : Int), 1, (q.w k).i⟩ 2 _ (((T2.out.alloc _).drewN _).far (p := ⟨g, 9 + k * 3, none⟩) HN.out _) hm2).mono ?_
                rintro e w2 ⟨v, rfl, hO, hg2, hT2⟩
                have P2 := Lib.hid ((((P1.out.alloc _).drewN _).unwatch k hlt).grown hg2 (fun e => HN.out (by injection e)))
                have G3 := Lib.hid (((((G2.out.alloc _).drewN _).setCell (p := ⟨g, 9 + k * 3, none⟩) (.inl rfl) (.bool false))).trans (.snd hg2))
                have hgtw : ∀ a, u7.ownBlock = some a → w.heap.size ≤ a := own_base O2.out
                have O3 := Lib.hid (own_grown (own_grown (own_drewN (O2.out.alloc _) _) (grown_setCell (g := g) (World.grownBy.refl _ _) (p := ⟨g, 9 + k * 3, none⟩) (.inl rfl) (.bool false)) (fun a ha hv => by injection ha with ha; have := hgtw a hv; omega)) hg2 (fun a ha hv => by injection ha with ha; have := hgtw a hv; omega))
                have OO := Lib.hid hO
                have T3 := Lib.hid hT2
                have hsz2 := G3.out.size
                clear hO hg2 hT2 hgtw
                go_wp2_with (at_builtin; (refine app_opt w.heap.size rfl (.tmp 68) (.tmp 71) rfl _ nw.length (rows nw) rfl _ _ _ rfl OO.out O3.out hsz2 (by omega) ?_); intro v1 w3 ho3 hg3 hat; have O4 := Lib.hid ho3; have G4 := Lib.hid hg3; clear ho3 hg3 hat)
                go_roundw
                case rel =>
                  have ee : (⟨m.n, 2, m.i⟩ : Pl.M) = ⟨(k : Int), 2, (q.w k).i⟩ := by rw [mn, C2.out]
                  refine ⟨k + 1, by omega, by go_num, ?_, g2_own G3.out O3.out (Nat.le_refl _) G4.out, ?_, ?_⟩
                  · rw [E.out, ee, EME.out]
                    simp only
                    rw [List.length_append, rows_append]
                    exact O4.out
                  · rw [E.out]
                    exact P2.out.grown G4.out (fun e => by have := own_base O3.out g e.symm; omega)
                  · rw [E.out, ee, EME.out]
                    exact T3.out.grown G4.out (fun e => by have := own_base O3.out gt e.symm; omega)
                case measure => simp [intOf]; omega
              · have e : Pl.buryN now p f (k + 1) = (q, F, nw) := by
                  rw [SUCC.out]; unfold Pl.bury1; simp only [his, HFK.out, if_true]
                  rw [if_neg (by simp [c1', c2']), if_neg c3']
                have E := Lib.hid e
                clear e his
                go_wp2_with fail
                refine (GET.out _ T1.out).mono ?_
                rw [HFK.out]
                rintro e w1 ⟨rfl, hb⟩
                simp only [getVal, mcells]
                rw [c1', c2']
                have s1 := hb.size
                have P1 := Lib.hid (PP.out.below hb PP.out.lt)
                have T2 := Lib.hid (T1.out.below hb T1.out.lt)
                have G2 := Lib.hid (GR.out.then_ hb)
                have O2 := Lib.hid (own_below OW.out hb)
                have hfz1 := P1.out.frozen
                have hgl1 := P1.out.lt
                have dd0 := P1.out.cell k 0 hlt (by omega)
                have dd1 := P1.out.cell k 1 hlt (by omega)
                have dd2 := P1.out.cell k 2 hlt (by omega)
                have cc1 := P1.out.head 1 (by omega)
                simp only [wa, phead, List.getElem?_cons_zero, List.getElem?_cons_succ, Nat.add_zero] at dd0 dd1 dd2 cc1
                clear hb d0 d1 d2 c1 hfz
                clear c1' c2'
                go_wp2
                go_quiet (fail)
                go_wp2
                go_quiet (fail)
                go_wp2
                go_roundw
                case rel => exact ⟨k + 1, by omega, by go_num, by rw [E.out]; exact own_drewN (O2.out.alloc _) _, ((G2.out.alloc _).drewN _), by rw [E.out]; exact ((P1.out.alloc _).drewN _), by rw [E.out]; exact ((T2.out.alloc _).drewN _)⟩
                case measure => simp [intOf]; omega
            · have e : Pl.buryN now p f (k + 1) = (q.setW k ⟨false, (q.w k).i, (q.w k).f⟩, F, nw) := by
                rw [SUCC.out]; unfold Pl.bury1; simp only [his, HFK.out, if_true]
                rw [if_pos (.inr c2')]
              have E := Lib.hid e
              have hne2 : (m.i != (q.w k).i) = true := by simpa using c2'
              clear e his
              go_wp2_with fail
              refine (GET.out _ T1.out).mono ?_
              rw [HFK.out]
              rintro e w1 ⟨rfl, hb⟩
              simp only [getVal, mcells]
              rw [c1']
              have s1 := hb.size
              have P1 := Lib.hid (PP.out.below hb PP.out.lt)
              have T2 := Lib.hid (T1.out.below hb T1.out.lt)
              have G2 := Lib.hid (GR.out.then_ hb)
              have O2 := Lib.hid (own_below OW.out hb)
              have hfz1 := P1.out.frozen
              have hgl1 := P1.out.lt
              have dd0 := P1.out.cell k 0 hlt (by omega)
              have dd1 := P1.out.cell k 1 hlt (by omega)
              have dd2 := P1.out.cell k 2 hlt (by omega)
              have cc1 := P1.out.head 1 (by omega)
              simp only [wa, phead, List.getElem?_cons_zero, List.getElem?_cons_succ, Nat.add_zero] at dd0 dd1 dd2 cc1
              clear hb d0 d1 d2 c1 hfz
              clear c1' c2'
              go_wp2
              go_quiet (fail)
              go_wp2
              go_roundw
              case rel =>
                refine ⟨k + 1, by omega, by go_num, ?_, (((G2.out.alloc _).drewN _).setCell (.inl rfl) _), ?_, ?_⟩
                · rw [E.out]
                  exact own_grown (own_drewN (O2.out.alloc _) _) (grown_setCell (g := g) (World.grownBy.refl _ _) (.inl rfl) _) (fun a ha hv => by
                    injection ha with ha
                    have := own_base O2.out a hv
                    omega)
                · rw [E.out]; exact (((P1.out.alloc _).drewN _).unwatch k hlt)
                · rw [E.out]; exact ((T2.out.alloc _).drewN _).far (p := ⟨g, 9 + k * 3, none⟩) HN.out _
              case measure => simp [intOf]; omega
          · have e : Pl.buryN now p f (k + 1) = (q.setW k ⟨false, (q.w k).i, (q.w k).f⟩, F, nw) := by
              rw [SUCC.out]; unfold Pl.bury1; simp only [his, HFK.out, if_true]
              rw [if_pos (.inl c1')]
            have E := Lib.hid e
            have hne2 : (m.s != 1) = true := by simpa using c1'
            clear e his
            go_wp2_with fail
            refine (GET.out _ T1.out).mono ?_
            rw [HFK.out]
            rintro e w1 ⟨rfl, hb⟩
            simp only [getVal, mcells]
            have s1 := hb.size
            have P1 := Lib.hid (PP.out.below hb PP.out.lt)
            have T2 := Lib.hid (T1.out.below hb T1.out.lt)
            have G2 := Lib.hid (GR.out.then_ hb)
            have O2 := Lib.hid (own_below OW.out hb)
            have hfz1 := P1.out.frozen
            have hgl1 := P1.out.lt
            have dd0 := P1.out.cell k 0 hlt (by omega)
            have dd1 := P1.out.cell k 1 hlt (by omega)
            have dd2 := P1.out.cell k 2 hlt (by omega)
            have cc1 := P1.out.head 1 (by omega)
            simp only [wa, phead, List.getElem?_cons_zero, List.getElem?_cons_succ, Nat.add_zero] at dd0 dd1 dd2 cc1
            clear hb d0 d1 d2 c1 hfz
            clear c1'
            go_wp2
            go_quiet (fail)
            go_wp2
            go_roundw
            case rel =>
              refine ⟨k + 1, by omega, by go_num, ?_, (((G2.out.alloc _).drewN _).setCell (.inl rfl) _), ?_, ?_⟩
              · rw [E.out]
                exact own_grown (own_drewN (O2.out.alloc _) _) (grown_setCell (g := g) (World.grownBy.refl _ _) (.inl rfl) _) (fun a ha hv => by
                  injection ha with ha
                  have := own_base O2.out a hv
                  omega)
              · rw [E.out]; exact (((P1.out.alloc _).drewN _).unwatch k hlt)
              · rw [E.out]; exact ((T2.out.alloc _).drewN _).far (p := ⟨g, 9 + k * 3, none⟩) HN.out _
            case measure => simp [intOf]; omega
    · obtain rfl : k = 64 := by omega
      go_wp2
      go_ret
      exact ⟨_, rfl, hown, hgr, hH, hTk⟩
end Go.Proofs.Ytnlpgjdgiappcaa
