/- WALKS: member's iterator, List, There, Position. -/
import Derived.Test.YtnlpgjdgiappcaaMbWalk3
import Derived.Test.YtnlpgjdgiappcaaCwi
namespace Go.Proofs.Ytnlpgjdgiappcaa
set_option linter.unusedVariables false
set_option linter.unusedSimpArgs false
open Go.RowKit Go.Shelf

def seats (f : Pl.Tab) : List Value := (List.range 64).flatMap (fun k => sc (f k))
theorem seats_length (f : Pl.Tab) : (seats f).length = 256 := flat_length _ (fun k => sc_length (f k)) 64

theorem seats_extract (f : Pl.Tab) (k : Nat) (hk : k < 64) : (seats f).toArray.extract (k * 4) (k * 4 + 4) = (sc (f k)).toArray := by
  apply Array.ext_getElem?
  intro j
  rw [Array.getElem?_extract]
  by_cases hj : j < 4
  · rw [if_pos (by simp [seats_length]; omega)]
    simp only [List.getElem?_toArray]
    exact flat_get _ (fun k => sc_length (f k)) 64 k j hk hj
  · rw [if_neg (by simp [seats_length]; omega), Array.getElem?_eq_none (by simp [sc_length]; omega)]

theorem index_seats (f : Pl.Tab) (k : Nat) (hk : k < 64) (w : World) : (Instr.index 96 (.agg (seats f).toArray) (.int .i64 (k : Int))).run Try.prog w = .ok (.agg (sc (f k)).toArray) w := by
  have h1 : (isAgg 95).run Try.prog w = .ok true w := by kernel_rfl
  have h2 : (sizeOf 95).run Try.prog w = .ok 4 w := by kernel_rfl
  have h3 : (underlying 96).run Try.prog w = .ok (.array 64 95) w := by kernel_rfl
  simp only [Instr.index, asIntOf, Sem.run_bind, Sem.run_pure, Result.andThen_ok, h3]
  rw [if_pos (by omega)]
  simp only [Sem.run_bind, h2, Result.andThen_ok, part, h1, if_true, Int.toNat_natCast, Sem.run_pure]
  rw [seats_extract f k hk]

theorem load_seats {w : World} {g : Nat} {z : Int} {f : Pl.Tab} (hT : IsT w g z f) : w.rangeAt g 1 (seats f) := by
  intro j v hv
  rw [Blk.cell hT (1 + j)]
  have e : 1 + j = j + 1 := by omega
  simp only [tcells, tl, List.getElem?_toArray]
  rw [e, List.getElem?_cons_succ]
  exact hv

attribute [local go_sem] Oper.semAt_some

theorem filter_one (f : Pl.Tab) (k : Nat) : (List.range (k + 1)).filterMap f = (List.range k).filterMap f ++ (f k).toList := by
  rw [List.range_succ, List.filterMap_append]
  cases h : f k <;> simp [h]

set_option maxRecDepth 100000 in
set_option maxHeartbeats 2000000 in
theorem all1_in (F : Fence) (n : Nat) (h62 : F.fn 62) (hro : F.round = none) (hn : 1 ≤ n) (l Bn n₀ g : Nat) (z : Int) (f : Pl.Tab) (J Jx : List Pl.M → World → Prop)
    (hY : ∀ pre x W, J pre W → pre.length < 64 → YieldAt F (n - 1) Try.prog l #[.agg (mcells x)] W fun e W' =>
      (e = .returned (.bool true) ∧ J (pre ++ [x]) W' ∧ Below n₀ W W') ∨ (e = .returned (.bool false) ∧ Jx (pre ++ [x]) W'))
    (W : World) (hJ : AbidesFrom W.heap.size J) (hBn : W.cell? ⟨Bn, 0, none⟩ = some (.pointer (some ⟨g, 0, none⟩))) (hT : IsT W g z f) (h0 : J [] W) :
    CallsIn F n Try.prog 62 #[.func (.yield l) #[] #[], .pointer (some ⟨Bn, 0, none⟩)] W fun e W' => (∃ v, e = .returned v) ∧
      ((∃ ys, ys = Pl.listT f ∧ J ys W') ∨ (∃ pre : List Pl.M, True ∧ Jx pre W')) := by
  have hi : (Try.prog.info? 96).map (·.size) = some (seats f).length := by rw [seats_length]; kernel_rfl
  have HI := Lib.hid hi
  have HR := Lib.hid (load_seats hT)
  clear hi
  have hidx := fun k hk w => index_seats f k hk w
  refine callsIn_of_wp Try.func62 rfl h62 ?_ hro
  simp only [Try.ntmps62, List.size_toArray, List.length_cons, List.length_nil, Nat.reduceAdd, Nat.reduceSub, Array.replicate_succ, Array.replicate_zero, List.push_toArray, List.append_toArray, List.nil_append, List.cons_append]
  gi_wp2_with (refine wpListIn_load_mid rfl 96 _ rfl g 1 rfl (seats f) _ HR.out Try.underlying96 rfl HI.out ?_)
  gi_loopw [11] (fun i wr => ∃ k : Nat, k ≤ 64 ∧ i = .int .i64 k ∧ J ((List.range k).filterMap f) wr) (fun i _ => 64 - (intOf i).toNat)
  case atStart => exact ⟨0, by omega, rfl, h0⟩
  case round =>
    obtain ⟨k, hk, rfl, hJs⟩ := hrel
    by_cases hlt : k < 64
    · have h1 := filter_one f k
      have hx := hidx k hlt
      have hJ1 := fun o => hJ _ wr (wr.alloc o) none hJs (World.grownBy_alloc wr o none) (fun r e => by cases e)
      have H1 := Lib.hid h1
      clear h1 hJs hidx
      cases hf : f k with
      | none =>
        rw [hf] at H1 hx
        simp only [sc] at hx
        have HF := Lib.hid hf
        clear hf
        gi_wp2
        refine ⟨(fun f hf => by cases hf), ?_⟩
        gi_wp2
        go_roundw
        case rel => exact ⟨k + 1, by omega, by go_num, by rw [H1.out, Option.toList_none, List.append_nil]; exact hJ1 _⟩
        case measure => simp [intOf]; omega
      | some m =>
        rw [hf] at H1 hx
        simp only [sc] at hx
        have HF := Lib.hid hf
        clear hf
        have hl : ((List.range k).filterMap f).length < 64 := by
          have := List.length_filterMap_le f (List.range k)
          rw [List.length_range] at this
          omega
        obtain ⟨fn, tmps, assign, body, hy, hR⟩ := hY ((List.range k).filterMap f) m _ (hJ1 (.cells #[.bool true, .int .u16 m.n, .int .u8 m.s, .int .i64 m.i] 95)) hl
        simp only [mcells] at hy
        gi_wp2
        refine hR.mono ?_
        rintro e W3 (⟨rfl, hJ3, hk3⟩ | ⟨rfl, hJx3⟩)
        · gi_wp2
          go_roundw
          case rel => exact ⟨k + 1, by omega, by go_num, by rw [H1.out, Option.toList_some]; exact hJ3⟩
          case measure => simp [intOf]; omega
        · gi_wp2
          refine bodyPost_ret (results_none rfl _ _ _) rfl ?_
          exact ⟨⟨_, rfl⟩, .inr ⟨_, trivial, hJx3⟩⟩
    · obtain rfl : k = 64 := by omega
      gi_wp2
      go_end0
      exact ⟨⟨_, rfl⟩, .inl ⟨_, rfl, hJs⟩⟩

end Go.Proofs.Ytnlpgjdgiappcaa
