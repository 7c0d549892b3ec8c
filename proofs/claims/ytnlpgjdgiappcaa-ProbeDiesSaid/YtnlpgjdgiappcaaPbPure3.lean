/- PLAIN LAW: ProbeDies, by all its thousand periods. -/
import Derived.Test.YtnlpgjdgiappcaaPbPure2
namespace Go.Proofs.Ytnlpgjdgiappcaa.Pl
set_option linter.unusedVariables false
set_option linter.unusedSimpArgs false
/-- The calls of the law, for a period n: what is told, and what the table has of node 1. -/
def dq (n : Int) : Pb × Tab := let x := tick 0 0 (pnew 0 n 1) (heard 0 (newT 0) ⟨1, 0, 0⟩); (x.1, x.2.1)
def da (n : Int) : Pb × Tab × List Ou × List M := tick (n - 1) 0 (dq n).1 (dq n).2
def db (n : Int) : Pb × Tab × List Ou × List M := tick n 0 (da n).1 (da n).2.1
def dsp (n : Int) : Tab := heard 0 (db n).2.1 ⟨1, 0, 1⟩
def dack (n : Int) : Bool × Pb := ack (db n).1 1 2
def dc (n : Int) : Pb × Tab × List Ou × List M := tick (4 * n) 0 (dack n).2 (dsp n)
def de (n : Int) : Pb × Tab × List Ou × List M := tick (4 * n - 1) 0 (db n).1 (db n).2.1
def df (n : Int) : Pb × Tab × List Ou × List M := tick (4 * n) 0 (de n).1 (de n).2.1
def diesOk (n : Int) : Bool :=
  decide ((da n).2.2.2 = []) && decide ((db n).2.2.2 = [⟨1, 1, 0⟩]) && decide (asked (db n).1 = some (1, 2)) && (dack n).1 &&
  decide ((dc n).2.2.2 = []) && decide (((dc n).2.1 1).map (·.s) = some 0) && decide (((de n).2.1 1).map (·.s) = some 1) && decide (((df n).2.1 1).map (·.s) = some 2)
set_option maxHeartbeats 8000000 in
theorem dies_0 : (List.range 100).all (fun k => diesOk ((k : Int) + 2)) = true := by decide +kernel
set_option maxHeartbeats 8000000 in
theorem dies_1 : (List.range 100).all (fun k => diesOk ((k : Int) + 102)) = true := by decide +kernel
set_option maxHeartbeats 8000000 in
theorem dies_2 : (List.range 100).all (fun k => diesOk ((k : Int) + 202)) = true := by decide +kernel
set_option maxHeartbeats 8000000 in
theorem dies_3 : (List.range 100).all (fun k => diesOk ((k : Int) + 302)) = true := by decide +kernel
set_option maxHeartbeats 8000000 in
theorem dies_4 : (List.range 100).all (fun k => diesOk ((k : Int) + 402)) = true := by decide +kernel
set_option maxHeartbeats 8000000 in
theorem dies_5 : (List.range 100).all (fun k => diesOk ((k : Int) + 502)) = true := by decide +kernel
set_option maxHeartbeats 8000000 in
theorem dies_6 : (List.range 100).all (fun k => diesOk ((k : Int) + 602)) = true := by decide +kernel
set_option maxHeartbeats 8000000 in
theorem dies_7 : (List.range 100).all (fun k => diesOk ((k : Int) + 702)) = true := by decide +kernel
set_option maxHeartbeats 8000000 in
theorem dies_8 : (List.range 100).all (fun k => diesOk ((k : Int) + 802)) = true := by decide +kernel
set_option maxHeartbeats 8000000 in
theorem dies_9 : (List.range 100).all (fun k => diesOk ((k : Int) + 902)) = true := by decide +kernel
theorem dies {n : Int} (h0 : 2 ≤ n) (h1 : n ≤ 1001) : diesOk n = true := by
  have use : ∀ c : Int, (List.range 100).all (fun k => diesOk ((k : Int) + c)) = true → c ≤ n → n < c + 100 → diesOk n = true := fun c h a b => by
    have := List.all_eq_true.1 h (n - c).toNat (List.mem_range.2 (by omega))
    rwa [show (((n - c).toNat : Nat) : Int) + c = n by omega] at this
  by_cases h2 : n < 102
  · exact use _ dies_0 (by omega) (by omega)
  by_cases h3 : n < 202
  · exact use _ dies_1 (by omega) (by omega)
  by_cases h4 : n < 302
  · exact use _ dies_2 (by omega) (by omega)
  by_cases h5 : n < 402
  · exact use _ dies_3 (by omega) (by omega)
  by_cases h6 : n < 502
  · exact use _ dies_4 (by omega) (by omega)
  by_cases h7 : n < 602
  · exact use _ dies_5 (by omega) (by omega)
  by_cases h8 : n < 702
  · exact use _ dies_6 (by omega) (by omega)
  by_cases h9 : n < 802
  · exact use _ dies_7 (by omega) (by omega)
  by_cases h10 : n < 902
  · exact use _ dies_8 (by omega) (by omega)
  by_cases h11 : n < 1002
  · exact use _ dies_9 (by omega) (by omega)
  omega
end Go.Proofs.Ytnlpgjdgiappcaa.Pl
