/- WALKS: the parser's peek, take, is, add, free. -/
import Derived.Test.YtnidjfmbbfoheaaRxW
import Derived.Deep.DeepCutAuto
import Derived.Deep.RegionWith
import Derived.Deep.AppendLies
import Derived.Outline
import Derived.Deep.RegionLaw
import Derived.Deep.DrawnRows
namespace Go.Proofs.Ytnidjfmbbfoheaa
set_option linter.unusedVariables false
set_option linter.unusedSimpArgs false
open Go.RowKit

/-- A text that is no pattern is given up with this. -/
def badChain : List PanicEntry := [{ v := .iface 94 (.agg #[]), recovered := false }]
def peekVal : List Nat → Value
  | [] => .tuple #[.int .u8 0, .bool false]
  | c :: _ => .tuple #[.int .u8 (c : Int), .bool true]
theorem bs_ne (c : Nat) (r : List Nat) : (bs (c :: r)).toList = UInt8.ofNat c :: r.map UInt8.ofNat := by rw [bs_list]; rfl
theorem peek_any (B gp : Nat) (s : List Nat) (st : List Rx.St) (v : Value) (w : World) (H : Ps w B gp s st v) (hs : ∀ c ∈ s, c < 256) :
    Calls Try.prog 111 #[.pointer (some ⟨gp, 0, none⟩)] w fun e w' => e = .returned (peekVal s) ∧ w' = w := by
  have c0 := H.c0
  have hlt := H.lt
  clear H
  cases s with
  | nil =>
    rw [bs_nil] at c0
    go_enter Try.func111, Try.ntmps111
    go_wp2
    refine bodyPost_ret (v := peekVal []) (by simp [results, Try.results111, go_sem, peekVal]) rfl ⟨rfl, rfl⟩
  | cons c r =>
    have hidx := fun w => idx_bs (c :: r) 0 c rfl (hs c (by simp)) w
    simp only [Int.ofNat_zero, Int.natCast_zero] at hidx
    have hne : (bs (c :: r)).toList.isEmpty = false := by rw [bs_ne]; rfl
    have hne2 : (!(bs (c :: r)).toList.isEmpty) = true := by rw [hne]; rfl
    generalize bs (c :: r) = b at *
    go_enter Try.func111, Try.ntmps111
    go_wp2
    refine bodyPost_ret (v := peekVal (c :: r)) (by simp [results, Try.results111, go_sem, peekVal]) rfl ⟨rfl, rfl⟩
theorem take_bad (B gp : Nat) (st : List Rx.St) (v : Value) (w : World) (H : Ps w B gp [] st v) :
    Calls Try.prog 119 #[.pointer (some ⟨gp, 0, none⟩)] w fun e w' => e = .panicked badChain ∧ w' = w := by
  go_enter Try.func119, Try.ntmps119
  go_wp2_with fail
  refine (peek_any B gp [] st v _ H (by simp)).mono ?_
  rintro e w1 ⟨rfl, rfl⟩
  simp only [peekVal]
  go_wp2
  exact ⟨rfl, rfl, rfl⟩
theorem take_any (B gp c : Nat) (r : List Nat) (st : List Rx.St) (v : Value) (w : World) (H : Ps w B gp (c :: r) st v) (hs : ∀ x ∈ c :: r, x < 256) :
    Calls Try.prog 119 #[.pointer (some ⟨gp, 0, none⟩)] w fun e w' => e = .returned (.int .u8 (c : Int)) ∧ w' = w.setCell ⟨gp, 0, none⟩ (.string (bs r)) := by
  have c0 := H.c0
  have hlt := H.lt
  have hf := H.frozen
  have hsz : (bs (c :: r)).size = r.length + 1 := by rw [bs_size]; rfl
  have ht : (bs (c :: r)).extract 1 (r.length + 1) = bs r := by have := bs_tail c r; rwa [hsz] at this
  go_enter Try.func119, Try.ntmps119
  go_wp2_with fail
  refine (peek_any B gp (c :: r) st v _ H hs).mono ?_
  rintro e w1 ⟨rfl, rfl⟩
  clear H
  simp only [peekVal]
  generalize bs (c :: r) = b at *
  go_wp2
  go_ret
  exact ⟨rfl, rfl⟩
theorem is_no (B gp : Nat) (s : List Nat) (k : Nat) (st : List Rx.St) (v : Value) (w : World) (H : Ps w B gp s st v) (hs : ∀ x ∈ s, x < 256) (hk : s.head? ≠ some k) :
    Calls Try.prog 98 #[.pointer (some ⟨gp, 0, none⟩), .int .u8 (k : Int)] w fun e w' => e = .returned (.bool false) ∧ w' = w := by
  cases s with
  | nil =>
    go_enter Try.func98, Try.ntmps98
    go_wp2_with fail
    refine (peek_any B gp [] st v _ H hs).mono ?_
    rintro e w1 ⟨rfl, rfl⟩
    simp only [peekVal]
    go_wp2
    go_ret
    exact ⟨rfl, rfl⟩
  | cons c r =>
    have hne : c ≠ k := fun e => hk (by rw [e]; rfl)
    have h1 : ((c : Int) != (k : Int)) = true := by rw [bne_iff_ne]; omega
    have h2 : (c != k) = true := by rw [bne_iff_ne]; omega
    go_enter Try.func98, Try.ntmps98
    go_wp2_with fail
    refine (peek_any B gp (c :: r) st v _ H hs).mono ?_
    rintro e w1 ⟨rfl, rfl⟩
    simp only [peekVal]
    clear H hs hk
    go_wp2
    go_ret
    exact ⟨rfl, rfl⟩
theorem is_yes (B gp k : Nat) (r : List Nat) (st : List Rx.St) (v : Value) (w : World) (H : Ps w B gp (k :: r) st v) (hs : ∀ x ∈ k :: r, x < 256) :
    Calls Try.prog 98 #[.pointer (some ⟨gp, 0, none⟩), .int .u8 (k : Int)] w fun e w' => e = .returned (.bool true) ∧ w' = w.setCell ⟨gp, 0, none⟩ (.string (bs r)) := by
  have c0 := H.c0
  have hlt := H.lt
  have hf := H.frozen
  have hsz : (bs (k :: r)).size = r.length + 1 := by rw [bs_size]; rfl
  have ht : (bs (k :: r)).extract 1 (r.length + 1) = bs r := by have := bs_tail k r; rwa [hsz] at this
  go_enter Try.func98, Try.ntmps98
  go_wp2_with fail
  refine (peek_any B gp (k :: r) st v _ H hs).mono ?_
  rintro e w1 ⟨rfl, rfl⟩
  clear H
  simp only [peekVal]
  generalize bs (k :: r) = b at *
  go_wp2
  go_ret
  exact ⟨rfl, rfl⟩

/-! ### add -/
theorem state_info : (Try.prog.info? 105).map (fun i => (i.zero, i.size, i.bytes)) = some (some (.agg #[.pointer none, .int .i64 0, .int .i64 0]), 3, 24) := by kernel_rfl
theorem und97 : Try.prog.underlying 97 = some (.slice 105) := by kernel_rfl
theorem pv_one (p : Option Nat) : (pv p).oneCell' = true := by cases p <;> rfl
/-- What the parser's functions make of it, where they hand something back. -/
structure PE (w : World) (B gp : Nat) (v : Value) (s' : List Nat) (st' : List Rx.St) (w' : World) : Prop where
  ps : ∃ v', Ps w' B gp s' st' v' ∧ Nx w v v'
  pg : PG w w' gp v.ownBlock
set_option maxRecDepth 100000 in
set_option maxHeartbeats 2000000 in
theorem add_any (B gp : Nat) (s : List Nat) (st : List Rx.St) (v : Value) (w : World) (H : Ps w B gp s st v) (q : Rx.St) (p : Option Nat) (hset : SetOk w B p q.set) (hn : st.length ≤ 1000000) :
    Calls Try.prog 100 #[.pointer (some ⟨gp, 0, none⟩), .agg #[pv p, .int .i64 q.nxt, .int .i64 q.oth]] w fun e w' => e = .returned (.int .i64 (st.length : Int)) ∧ PE w B gp v s (st ++ [q]) w' := by
  have hlt := H.lt
  have hbase := H.base
  have c1 := H.c1
  have hf := H.frozen
  have hrow := H.row
  have hp1 := pv_one p
  obtain ⟨L, hL, hown, hsets⟩ := hrow
  have hll : L.length = st.length := by rw [← hL, List.length_map]
  obtain ⟨A, c, rfl⟩ := own_slice hown
  obtain ⟨i0, hi, hz0, hz1, hz2⟩ := info_parts state_info
  have HI := Lib.hid hi
  have HZ := Lib.hid (⟨hz0, hz1, hz2⟩ : i0.zero = some (.agg #[.pointer none, .int .i64 0, .int .i64 0]) ∧ i0.size = 3 ∧ i0.bytes = 24)
  have HP := Lib.hid H
  have HLL := Lib.hid hll
  have HLE := Lib.hid hL
  have HOWN := Lib.hid hown
  have HS := Lib.hid hset
  have HSS := Lib.hid hsets
  clear hi hz0 hz1 hz2 H hown hsets hset hL hll
  have hLn : L.length ≤ 1000000 := by rw [HLL.out]; exact hn
  generalize hpv : pv p = P0 at *
  have HPV := Lib.hid hpv
  clear hpv
  have HO1 := Lib.hid ((HOWN.out.alloc (.cells #[P0, .int .i64 q.nxt, .int .i64 q.oth] 105)).alloc (.cells #[P0, .int .i64 q.nxt, .int .i64 q.oth] 105))
  have hsz1 : (w.alloc (.cells #[P0, .int .i64 q.nxt, .int .i64 q.oth] 105)).heap.size = w.heap.size + 1 := by simp
  have hsz2 : ((w.alloc (.cells #[P0, .int .i64 q.nxt, .int .i64 q.oth] 105)).alloc (.cells #[P0, .int .i64 q.nxt, .int .i64 q.oth] 105)).heap.size = w.heap.size + 2 := by simp
  have hB2 := Blk.new (w.alloc (.cells #[P0, .int .i64 q.nxt, .int .i64 q.oth] 105)) 105 #[P0, .int .i64 q.nxt, .int .i64 q.oth]
  rw [hsz1] at hB2
  have HB2 := Lib.hid hB2
  have BOX := Lib.hid ((Blk.new w 105 #[P0, .int .i64 q.nxt, .int .i64 q.oth]).alloc (.cells #[P0, .int .i64 q.nxt, .int .i64 q.oth] 105))
  have HZ2 := Lib.hid hsz2
  clear hB2 hsz1 hsz2
  have K1 : ∀ o, (w.alloc o).cell? ⟨gp, 1, none⟩ = some (.slice A L.length c) := fun o => by rw [World.cell?_alloc_lt _ _ _ hlt]; exact c1
  have K2 : ∀ o, (w.alloc o).frozen? ⟨gp, 1, none⟩ = false := fun o => by rw [World.frozen?_alloc_old _ _ _ (by show gp ≠ w.heap.size; omega)]; exact hf 1
  have K3 : ∀ o o', ((w.alloc o).alloc o').frozen? ⟨gp, 1, none⟩ = false := fun o o' => by rw [World.frozen?_alloc_old _ _ _ (by show gp ≠ (w.alloc o).heap.size; simp; omega)]; exact K2 o
  have hown0 := own_blk_ne HOWN.out HP.out.blk (by decide)
  have HNE := Lib.hid hown0
  clear hown0
  go_enter Try.func100, Try.ntmps100
  go_wp2
  go_region_law
    ((refine step_append_lies _ rfl (.tmp 9) (.tmp 11) 97 rfl B 105 i0 _ 3 24 und97 HI.out HZ.out.1 HZ.out.2.1 HZ.out.2.2 rfl (by omega) _ L.length (stc L) rfl (World.ownsRow.drew HO1.out) ⟨w.heap.size + 1, 0, none⟩ 1 1 [P0, .int .i64 q.nxt, .int .i64 q.oth] rfl rfl ?_ ?_ (by omega) ?_ ?_ ?_ _ rfl ?_
      · intro j u hu
        rw [Addr.add_mid, Nat.zero_add]
        have := HB2.out.cell j
        exact this.trans (by simpa using hu)
      · intro u hu
        simp only [List.mem_cons, List.not_mem_nil, or_false] at hu
        rcases hu with rfl | rfl | rfl
        · exact hp1
        · rfl
        · rfl
      · unfold maxLen; omega
      · omega
      · exact Nat.le_trans (by omega : B ≤ w.heap.size + 2) (Nat.le_of_eq HZ2.out.symm)
      intro ga ca wa hoa hga hata hlta
      have hgne : some gp ≠ (Value.slice A L.length c).ownBlock := fun e => HNE.out e.symm
      have S1 : wa.cell? ⟨gp, 1, none⟩ = some (.slice A L.length c) := by
        rw [World.cell?_of_block (a := ⟨gp, 1, none⟩) (hga.block gp (by show gp < ((w.alloc _).alloc _).heap.size; rw [HZ2.out]; omega) hgne)]
        show ((w.alloc _).alloc _).cell? _ = _
        rw [World.cell?_alloc_lt _ _ _ (by show gp < (w.alloc _).heap.size; simp; omega), World.cell?_alloc_lt _ _ _ hlt]
        exact c1
      have S2 : wa.frozen? ⟨gp, 1, none⟩ = false := (hga.frozen_far (a := ⟨gp, 1, none⟩) (by show gp < ((w.alloc _).alloc _).heap.size; rw [HZ2.out]; omega) hgne).trans (K3 _ _)
      have B1 := (BOX.out.drew.grown hga (fun e => by have := own_lt HOWN.out _ e.symm; omega))
      have e0 := B1.cell 0
      have e1 := B1.cell 1
      have e2 := B1.cell 2
      simp only [List.getElem?_toArray, List.getElem?_cons_zero, List.getElem?_cons_succ] at e0 e1 e2
      have HOA := Lib.hid hoa
      have HGA : Hid (((w.alloc (.cells #[P0, .int .i64 q.nxt, .int .i64 q.oth] 105)).alloc (.cells #[P0, .int .i64 q.nxt, .int .i64 q.oth] 105)).drew.grownBy wa (Value.slice A L.length c).ownBlock) := Lib.hid hga
      have HAT : Hid ((Value.slice A L.length c).ownBlock = some ga ∨ ga = w.heap.size + 2) := Lib.hid (hata.imp id (fun e => e.trans HZ2.out))
      clear hoa hga hata K1 K2 K3))
  all_goals
    have hblk : Blk (wa.setCell ⟨gp, 1, none⟩ (.slice (some ⟨ga, 0, none⟩) (L.length + 1) ca)) gp 99 #[.string (bs s), .slice (some ⟨ga, 0, none⟩) (L.length + 1) ca] := by
      have := ((((HP.out.blk.alloc (.cells #[P0, .int .i64 q.nxt, .int .i64 q.oth] 105)).alloc (.cells #[P0, .int .i64 q.nxt, .int .i64 q.oth] 105)).drew).grown HGA.out hgne).set_ 1 (.slice (some ⟨ga, 0, none⟩) (L.length + 1) ca)
      exact this
    have q1 := hblk.cell 1
    simp only [List.getElem?_toArray, List.getElem?_cons_zero, List.getElem?_cons_succ] at q1
    have BK := Lib.hid hblk
    have hgpl := hblk.lt
    have HOW2 := Lib.hid (own_grown HOA.out (grown_setCell (g := gp) (World.grownBy.refl wa _) (p := ⟨gp, 1, none⟩) (.inl rfl) (.slice (some ⟨ga, 0, none⟩) (L.length + 1) ca)) (fun k hk hv => by
      injection hk with hk
      subst hk
      have := own_blk_ne HOA.out ((((HP.out.blk.alloc (.cells #[P0, .int .i64 q.nxt, .int .i64 q.oth] 105)).alloc (.cells #[P0, .int .i64 q.nxt, .int .i64 q.oth] 105)).drew).grown HGA.out hgne) (by decide)
      exact this hv))
    clear hblk S1 S2 B1 e0 e1 e2 c1 hf
    go_wp2
    go_ret
    refine ⟨by rw [← HLL.out]; simp, ⟨_, ⟨BK.out, ⟨L ++ [(p, q)], by rw [List.map_append, HLE.out]; rfl, ?_, ?_⟩, hbase⟩, ?_⟩, ?_⟩
    · rw [List.length_append, stc_append]
      have e : stc [(p, q)] = [P0, .int .i64 q.nxt, .int .i64 q.oth] := by rw [← HPV.out]; rfl
      rw [e]
      exact HOW2.out
    · have keep : ∀ (b : Nat) (x : List Bool), Blk w b 164 (x.map Value.bool).toArray → Blk (wa.setCell ⟨gp, 1, none⟩ (.slice (some ⟨ga, 0, none⟩) (L.length + 1) ca)) b 164 (x.map Value.bool).toArray := fun b x hb =>
        ((((hb.alloc (.cells #[P0, .int .i64 q.nxt, .int .i64 q.oth] 105)).alloc (.cells #[P0, .int .i64 q.nxt, .int .i64 q.oth] 105)).drew).grown HGA.out (fun e => own_blk_ne HOWN.out hb (by decide) e.symm)).far (p := ⟨gp, 1, none⟩) (hb.ne_ HP.out.blk (by decide)) _
      intro x hx
      rcases List.mem_append.1 hx with hx | hx
      · exact (HSS.out x hx).keep (fun b y _ _ hb => keep b y hb)
      · simp only [List.mem_singleton] at hx
        subst hx
        exact HS.out.keep (fun b y _ _ hb => keep b y hb)
    · rcases HAT.out with h | h
      · exact .inl h.symm
      · exact .inr ⟨ga, rfl, by omega⟩
    · exact ((((PG.refl w gp _).alloc _).alloc _).drew.own (.inl rfl) HGA.out).setCell (.inl rfl) _
end Go.Proofs.Ytnidjfmbbfoheaa
