/- WALK: the document's health: Due. -/
import Derived.Test.YtadhcnfgbiokcaaHeRefC
import Derived.Deep.AppendLies
namespace Go.Proofs.Ytadhcnfgbiokcaa
set_option linter.unusedVariables false
set_option linter.unusedSimpArgs false
open Go.RowKit
def dueE (r : Rs) (now : Int) (l : List Em) : List Mb := l.filterMap (fun x => if rend r x.e ≤ now then some ⟨x.e.n, 1, x.e.i⟩ else none)
theorem dueE_of (r : Rs) (now : Int) (l : List Em) : dueE r now l = rdue r now (l.map (·.e)) := by
  unfold dueE rdue
  rw [List.filterMap_map]
  rfl
theorem dueE_one (r : Rs) (now : Int) (L : List Em) (k : Nat) (x : Em) (hx : L[k]? = some x) : dueE r now (L.take (k + 1)) = dueE r now (L.take k) ++ (if rend r x.e ≤ now then [⟨x.e.n, 1, x.e.i⟩] else []) := by
  rw [take_one L k x hx]
  unfold dueE
  rw [List.filterMap_append]
  congr 1
  by_cases h : rend r x.e ≤ now <;> simp [h]
theorem dueE_le (r : Rs) (now : Int) (l : List Em) : (dueE r now l).length ≤ l.length := List.length_filterMap_le _ _
theorem cellk_alloc {w : World} {a : Addr} {v : Value} (h : w.cell? a = some v) (o : Obj) : (w.alloc o).cell? a = some v :=
  (World.cell?_of_block (Below.heap_alloc w o a.block (World.block_lt_of_cell? w a h))).trans h
theorem cellk_drew {w : World} {a : Addr} {v : Value} (h : w.cell? a = some v) : w.drew.cell? a = some v := h
theorem cellk_grown {w w1 : World} {a : Addr} {v : Value} (h : w.cell? a = some v) {row : Option Nat} (hg : w.grownBy w1 row) (hr : ∀ k, row = some k → ¬ a.block = k) : w1.cell? a = some v :=
  (World.cell?_of_block (hg.block a.block (World.block_lt_of_cell? w a h) (fun e => hr a.block e.symm rfl))).trans h
abbrev S3 (b0 p o : Nat) (v0 v1 v2 : Value) (X : World) : Prop := X.cell? ⟨b0, 5, none⟩ = some v0 ∧ X.cell? ⟨p, o, none⟩ = some v1 ∧ X.cell? ⟨p, o + 1, none⟩ = some v2
theorem s3_alloc {b0 p o : Nat} {v0 v1 v2 : Value} {X : World} (h : S3 b0 p o v0 v1 v2 X) (d : Obj) : S3 b0 p o v0 v1 v2 (X.alloc d) := ⟨cellk_alloc h.1 d, cellk_alloc h.2.1 d, cellk_alloc h.2.2 d⟩
theorem s3_drew {b0 p o : Nat} {v0 v1 v2 : Value} {X : World} (h : S3 b0 p o v0 v1 v2 X) : S3 b0 p o v0 v1 v2 X.drew := h
theorem s3_grown {b0 p o : Nat} {v0 v1 v2 : Value} {X Y : World} (h : S3 b0 p o v0 v1 v2 X) {row : Option Nat} (hg : X.grownBy Y row) (hr : ∀ k, row = some k → ¬ b0 = k ∧ ¬ p = k) : S3 b0 p o v0 v1 v2 Y :=
  ⟨cellk_grown h.1 hg (fun k e => (hr k e).1), cellk_grown h.2.1 hg (fun k e => (hr k e).2), cellk_grown h.2.2 hg (fun k e => (hr k e).2)⟩
theorem row_news {W : World} {t : TypeId} {cs : Array Value} : ∀ (j : Nat) (u : Value), cs.toList[j]? = some u → (W.alloc (.cells cs t)).drew.cell? ((⟨W.heap.size, 0, none⟩ : Addr).add j) = some u := by
  intro j u hu
  show (W.alloc (.cells cs t)).cell? _ = _
  rw [Addr.add_mid, Nat.zero_add, Blk.cell (Blk.new W t cs) j]
  simpa using hu
set_option maxRecDepth 100000 in
set_option maxHeartbeats 4000000 in
theorem rdue_any (r : Rs) (now : Int) (A : Option Addr) (c : Nat) (L : List Em) (w : World) (HO : RsOk r) (hL : L.map (·.e) = r.l) (hR : ReadsE w (fun _ => True) A L) :
    Calls Try.prog 33 #[hval r A L.length c, .int .i64 now] w fun e w' => ∃ v, e = .returned v ∧ w'.ownsRow w.heap.size 33 3 v (dueE r now L).length (rows (dueE r now L)) ∧ Below w.heap.size w w' := by
  have hlen : L.length ≤ 64 := by have := HO.len; rw [← hL, List.length_map] at this; exact this
  have hsu : ∀ x ∈ L, 1 ≤ x.e.who.length ∧ (x.e.who.length : Int) ≤ r.cf + 1 ∧ (0 ≤ x.e.f ∧ x.e.f ≤ 1099511627776) := fun x hx => by
    obtain ⟨a, b, d, _⟩ := HO.su (e := x.e) (by rw [← hL]; exact List.mem_map_of_mem hx)
    exact ⟨a, b, d⟩
  have HOK := Lib.hid HO.ok.ok
  have HS := Lib.hid hsu
  clear hsu HO hL
  have hvv : hval r A L.length c = .agg #[.int .u16 r.me, .int .i64 r.mn, .int .i64 r.mx, .int .i64 r.cf, .int .i64 r.sc, .slice A L.length c] := rfl
  rw [hvv]
  clear hvv
  go_enter Try.func33, Try.ntmps33
  go_wp2
  have hB0 := (Blk.new w 53 #[.int .u16 r.me, .int .i64 r.mn, .int .i64 r.mx, .int .i64 r.cf, .int .i64 r.sc, .slice A L.length c])
  have hb : Below w.heap.size w (w.alloc (.cells #[.int .u16 r.me, .int .i64 r.mn, .int .i64 r.mx, .int .i64 r.cf, .int .i64 r.sc, .slice A L.length c] 53)) := (Below.refl _ _).alloc (Nat.le_refl _) _
  have hR1 : ReadsE (w.alloc (.cells #[.int .u16 r.me, .int .i64 r.mn, .int .i64 r.mx, .int .i64 r.cf, .int .i64 r.sc, .slice A L.length c] 53)) (fun b => b < (w.alloc (.cells #[.int .u16 r.me, .int .i64 r.mn, .int .i64 r.mx, .int .i64 r.cf, .int .i64 r.sc, .slice A L.length c] 53)).heap.size) A L := ((Reads.below hR (by omega) hb).there (by omega)).imp (fun b h => h.2)
  generalize (w.alloc (.cells #[.int .u16 r.me, .int .i64 r.mn, .int .i64 r.mx, .int .i64 r.cf, .int .i64 r.sc, .slice A L.length c] 53)) = W at *
  generalize hw : w.heap.size = b0 at *
  have B0 := Lib.hid hB0
  have HB := Lib.hid hb
  have RR := Lib.hid hR1
  have HW := Lib.hid hw
  have hl2 := hB0.lt
  clear hB0 hb hR hR1 hw
  go_loopw [5, 6] (fun v j wr => ∃ (k : Nat), k ≤ L.length ∧ j = .int .i64 k ∧ wr.ownsRow W.heap.size 33 3 v (dueE r now (L.take k)).length (rows (dueE r now (L.take k))) ∧ Below W.heap.size W wr) (fun _ j _ => L.length - (intOf j).toNat)
  case atStart => exact ⟨0, Nat.zero_le _, rfl, by simpa [dueE, rows] using own_nil W W.heap.size 33 3, Below.refl _ _⟩
  case round =>
    obtain ⟨k, hk, rfl, hown, hbw⟩ := hrel
    have hfl : (dueE r now (L.take k)).length ≤ k := by
      have h1 := dueE_le r now (L.take k)
      have h2 := List.length_take_le k L
      omega
    obtain ⟨A1, c1, rfl⟩ := own_slice hown
    have bx0 := B0.out.below hbw B0.out.lt
    have q5 := bx0.cell 5
    simp only [List.getElem?_toArray, List.getElem?_cons_zero, List.getElem?_cons_succ] at q5
    have BX0 := Lib.hid bx0
    have HOw := Lib.hid hown
    have HBW := Lib.hid hbw
    have hsz := hbw.size
    by_cases hlt : k < L.length
    · obtain ⟨xe, hx⟩ : ∃ x, L[k]? = some x := ⟨L[k], List.getElem?_eq_getElem hlt⟩
      have rw_ : ReadsE wr (fun b => b < W.heap.size) A L := Reads.keep RR.out (fun b hb => hbw.block b hb)
      obtain ⟨p, o, rfl, hp, -, -, -, -⟩ := rw_.at_ k xe hx
      obtain ⟨x1, x2, x3⟩ := HS.out xe (List.mem_of_getElem? hx)
      have HX := Lib.hid hx
      have RW := Lib.hid rw_
      have hge0 : (0 : Int) ≤ (k : Int) := by omega
      have hltI : (k : Int) < (L.length : Int) := by omega
      have DO := Lib.hid (dueE_one r now L k xe hx)
      clear bx0 hown hbw rw_ hx
      obtain ⟨fl, hfk⟩ : ∃ fl, (dueE r now (L.take k)) = fl := ⟨_, rfl⟩
      rw [hfk] at HOw hfl DO
      rw [hfk]
      clear hfk
      obtain ⟨E, hE⟩ : ∃ E, rend r xe.e = E := ⟨_, rfl⟩
      have HE := Lib.hid hE
      clear hE
      go_wp2
      have e0 := fun y : Ext wr.heap.size wr => (Ext.blk BX0.out BX0.out.lt (x := y)).cell 0
      have e1 := fun y : Ext wr.heap.size wr => (Ext.blk BX0.out BX0.out.lt (x := y)).cell 1
      have e2 := fun y : Ext wr.heap.size wr => (Ext.blk BX0.out BX0.out.lt (x := y)).cell 2
      have e3 := fun y : Ext wr.heap.size wr => (Ext.blk BX0.out BX0.out.lt (x := y)).cell 3
      have e4 := fun y : Ext wr.heap.size wr => (Ext.blk BX0.out BX0.out.lt (x := y)).cell 4
      have e5 := fun y : Ext wr.heap.size wr => (Ext.blk BX0.out BX0.out.lt (x := y)).cell 5
      have f0 := fun y : Ext wr.heap.size wr => (ReadsE.cellz (Reads.below RW.out (by omega) y.h) HX.out).2.1
      have f1 := fun y : Ext wr.heap.size wr => (ReadsE.cellz (Reads.below RW.out (by omega) y.h) HX.out).2.2.1
      have f2 := fun y : Ext wr.heap.size wr => (ReadsE.cellz (Reads.below RW.out (by omega) y.h) HX.out).2.2.2.1
      have f3 := fun y : Ext wr.heap.size wr => (ReadsE.cellz (Reads.below RW.out (by omega) y.h) HX.out).2.2.2.2
      simp only [List.getElem?_toArray, List.getElem?_cons_zero, List.getElem?_cons_succ] at e0 e1 e2 e3 e4 e5
      refine wp_region_exts (by kernel_rfl) (by kernel_rfl) ?_
      repeat
        first
          | go_big_quiet_skip
          | (go_big_quiet_want; go_big_quiet_op
             first
               | go_big_quiet_on
               | (apply Exists.intro
                  refine ⟨fun x => ?_, ?_⟩
                  · (go_at_call 36; have hc := rend_any r (some ⟨p, o, none⟩) L.length c xe x.W HOK.out x1 x2 x3; rw [HE.out] at hc; exact calls_ext (Nat.le_refl _) hc)
                  go_big_quiet_on
                  try (skip)))
      refine wpQuiet_nil ?_
      rintro _ ⟨x, rfl⟩
      have OY := Lib.hid (own_below (HOw.out) (show Below wr.heap.size wr x.W from x.h))
      have KY := Lib.hid (below_then HBW.out hsz x.h)
      have BY := Lib.hid (BX0.out.below x.h BX0.out.lt)
      have RY := Lib.hid (ReadsE.cellz (Reads.below RW.out (by omega) x.h) HX.out)
      have ly := Nat.le_trans hsz x.h.size
      clear e0 e1 e2 e3 e4 e5 f0 f1 f2 f3
      generalize x.W = wy at *
      by_cases hdue : E ≤ now
      · have g5 := BY.out.cell 5
        simp only [List.getElem?_toArray, List.getElem?_cons_zero, List.getElem?_cons_succ] at g5
        obtain ⟨-, g0, g1, -, -⟩ := RY.out
        obtain ⟨i0, hi, hzz⟩ := Option.map_eq_some_iff.1 member_info
        simp only [Prod.mk.injEq] at hzz
        obtain ⟨hz0, hz1, hz2⟩ := hzz
        have HI := Lib.hid hi
        have HZ := Lib.hid (⟨hz0, hz1, hz2⟩ : i0.zero = some (.agg #[.int .u16 0, .int .u8 0, .int .i64 0]) ∧ i0.size = 3 ∧ i0.bytes = 16)
        clear hi hz0 hz1 hz2
        have HN := Lib.hid (row_news (W := wy) (t := 33) (cs := #[.int .u16 xe.e.n, .int .u8 1, .int .i64 xe.e.i]))
        have hpb := hp
        have hS : S3 b0 p (o + k * 4) (.slice (some ⟨p, o, none⟩) L.length c) (.int .u16 xe.e.n) (.int .i64 xe.e.i) wy := ⟨g5, g0, g1⟩
        clear g5 g0 g1
        go_wp2
        go_region_held3 (fun X => S3 b0 p (o + k * 4) (.slice (some ⟨p, o, none⟩) L.length c) (.int .u16 xe.e.n) (.int .i64 xe.e.i) X) (first | assumption | exact s3_alloc (by assumption) _ | exact s3_drew (by assumption) | exact s3_drew (s3_alloc (by assumption) _))
          ((refine step_append_lies _ rfl (.tmp 23) (.tmp 37) 46 rfl W.heap.size 33 i0 (.agg #[.int .u16 0, .int .u8 0, .int .i64 0]) 3 16 und46 HI.out HZ.out.1 HZ.out.2.1 HZ.out.2.2 rfl (by omega) _ _ _ rfl (World.ownsRow.drew (OY.out.alloc _)) ⟨wy.heap.size, 0, none⟩ 1 1 [.int .u16 xe.e.n, .int .u8 1, .int .i64 xe.e.i] rfl rfl HN.out ?_ (by omega) ?_ ?_ ?_ _ rfl ?_
            · simp [Value.oneCell']
            · simp only [maxLen]; omega
            · omega
            · exact Nat.le_trans ly (by simp)
            intro ga ca wa hoa hga hata hlta
            have Sa : S3 b0 p (o + k * 4) (.slice (some ⟨p, o, none⟩) L.length c) (.int .u16 xe.e.n) (.int .i64 xe.e.i) wa := s3_grown (s3_drew (s3_alloc (by assumption) _)) hga (fun q e => by have := own_base OY.out q e; omega)
            have Ka : Below W.heap.size W wa := (KY.out.alloc ly _).drew.trans (below_of_grown (Nat.le_trans ly (by simp)) hga (own_base OY.out))
            have KA := Lib.hid Ka
            have OA := Lib.hid hoa
            clear hoa hga hata Ka))
        all_goals
          go_wp2
          go_roundw
          case rel =>
            refine ⟨k + 1, by omega, by go_num, ?_, KA.out⟩
            rw [DO.out, HE.out, if_pos hdue, List.length_append, rows_append]
            exact OA.out
          case measure => simp [intOf]; omega
      · go_wp2
        go_roundw
        case rel => exact ⟨k + 1, by omega, by go_num, by rw [DO.out, HE.out, if_neg (by omega), List.append_nil]; exact OY.out, KY.out⟩
        case measure => simp [intOf]; omega
    · obtain rfl : k = L.length := by omega
      rw [List.take_length] at HOw ⊢
      clear bx0 hown hbw
      go_wp2
      go_ret
      have hb0 : b0 ≤ W.heap.size := Nat.le_of_lt hl2
      refine ⟨_, rfl, ?_, ?_⟩
      · rw [HW.out]; exact own_lower HOw.out hb0
      · rw [HW.out]; exact below_then HB.out hb0 HBW.out
end Go.Proofs.Ytadhcnfgbiokcaa
