/- WALKS: awake of inhibit. -/
import Derived.Test.YtnidjfmbbfoheaaInD
namespace Go.Proofs.Ytnidjfmbbfoheaa
set_option linter.unusedVariables false
set_option linter.unusedSimpArgs false
open Go.RowKit

theorem reads_blk_lt {w : World} {g : Nat} {t : TypeId} {cs : Array Value} {size n : Nat} {xs : List Value} (h : Blk w g t cs) (hx : cs.toList = xs) (hn : xs.length = n * size) : Reads w (fun b => b < w.heap.size) size (some ⟨g, 0, none⟩) n xs :=
  ⟨hn, fun _ => ⟨g, 0, rfl, h.lt, fun j u hu => by
    rw [Nat.zero_add, h.cell j]
    rw [← hx] at hu
    simpa using hu⟩⟩
def ws : Mt := ⟨[97], [49], 0⟩
def wt : Mt := ⟨[97], [50], 0⟩
def wj : List Nat := [106, 111, 98]
def wone : List Pr := [⟨[97], [49]⟩, ⟨wj, [120]⟩]
def wtwo : List Pr := [⟨[97], [50]⟩, ⟨wj, [120]⟩]
def wthr : List Pr := [⟨[97], [50]⟩]
def wr6 (h : Nat) : Rl := ⟨⟨some ⟨h, 0, none⟩, 1, [ws]⟩, ⟨some ⟨h + 1, 0, none⟩, 1, [wt]⟩, ⟨some ⟨h + 1 + 1, 0, none⟩, 1, [wj]⟩⟩
theorem by_w1 (h : Nat) : byB (wr6 h) wone wtwo = true := (by decide +kernel : (allB [ws] wone && allB [wt] wtwo && !(allB [wt] wone && allB [ws] wtwo) && !([wj].any (differs wone wtwo))) = true)
theorem by_w2 (h : Nat) : byB (wr6 h) wone wthr = false := (by decide +kernel : (allB [ws] wone && allB [wt] wthr && !(allB [wt] wone && allB [ws] wthr) && !([wj].any (differs wone wthr))) = false)
theorem prOk_dec {p : Pr} (h1 : ∀ x ∈ p.n, x < 256) (h2 : p.n.length ≤ 9223372036854775807) (h3 : ∀ x ∈ p.v, x < 256) (h4 : p.v.length ≤ 9223372036854775807) : p.Ok := ⟨h1, h2, h3, h4⟩
theorem wone_ok : ∀ x ∈ wone, x.Ok := by
  intro x hx
  simp only [wone, List.mem_cons, List.not_mem_nil, or_false] at hx
  rcases hx with rfl | rfl <;> exact ⟨by decide, by decide, by decide, by decide⟩
theorem wtwo_ok : ∀ x ∈ wtwo, x.Ok := by
  intro x hx
  simp only [wtwo, List.mem_cons, List.not_mem_nil, or_false] at hx
  rcases hx with rfl | rfl <;> exact ⟨by decide, by decide, by decide, by decide⟩
theorem wthr_ok : ∀ x ∈ wthr, x.Ok := by
  intro x hx
  simp only [wthr, List.mem_cons, List.not_mem_nil, or_false] at hx
  rcases hx with rfl; exact ⟨by decide, by decide, by decide, by decide⟩
theorem mt_one {m : Mt} (h : m.Ok) : ∀ x ∈ [m], x.Ok := by
  intro x hx
  rw [List.mem_singleton] at hx
  subst hx; exact h
abbrev c6s : Array Value := #[.string ⟨#[97]⟩, .int .u8 0, .string ⟨#[49]⟩]
abbrev c6t : Array Value := #[.string ⟨#[97]⟩, .int .u8 0, .string ⟨#[50]⟩]
abbrev c6j : Array Value := #[.string ⟨#[106, 111, 98]⟩]
abbrev c61 : Array Value := #[.string ⟨#[97]⟩, .string ⟨#[49]⟩, .string ⟨#[106, 111, 98]⟩, .string ⟨#[120]⟩]
abbrev c62 : Array Value := #[.string ⟨#[97]⟩, .string ⟨#[50]⟩, .string ⟨#[106, 111, 98]⟩, .string ⟨#[120]⟩]
abbrev c63 : Array Value := #[.string ⟨#[97]⟩, .string ⟨#[50]⟩]
theorem in_rule {W : World} {h : Nat} (b0 : Blk W h 37 c6s) (b1 : Blk W (h + 1) 37 c6t) (b2 : Blk W (h + 1 + 1) 9 c6j) : (wr6 h).In W :=
  ⟨⟨reads_blk_lt b0 rfl rfl, mt_one ⟨by decide, by decide, by decide, by decide, by decide, by decide⟩⟩, ⟨reads_blk_lt b1 rfl rfl, mt_one ⟨by decide, by decide, by decide, by decide, by decide, by decide⟩⟩, ⟨reads_blk_lt b2 rfl rfl, by
    intro x hx
    rw [show (wr6 h).e.l = [wj] from rfl, List.mem_singleton] at hx
    subst hx
    exact ⟨by decide, by decide⟩⟩⟩
theorem by_one {W : World} {h g1 g2 : Nat} (b0 : Blk W h 37 c6s) (b1 : Blk W (h + 1) 37 c6t) (b2 : Blk W (h + 1 + 1) 9 c6j) (d1 : Blk W g1 43 c61) (d2 : Blk W g2 43 c62) :
    Calls Try.prog 35 #[.agg #[.slice (some ⟨h, 0, none⟩) 1 1, .slice (some ⟨h + 1, 0, none⟩) 1 1, .slice (some ⟨h + 1 + 1, 0, none⟩) 1 1], .slice (some ⟨g1, 0, none⟩) 2 2, .slice (some ⟨g2, 0, none⟩) 2 2] W fun e w' => e = .returned (.bool true) ∧ Below W.heap.size W w' := by
  have := by_any (wr6 h) ⟨some ⟨g1, 0, none⟩, 2, wone⟩ ⟨some ⟨g2, 0, none⟩, 2, wtwo⟩ W (in_rule b0 b1 b2) ⟨by simp [wr6], by simp [wr6], by simp [wr6]⟩ ⟨reads_blk_lt d1 rfl rfl, wone_ok⟩ ⟨reads_blk_lt d2 rfl rfl, wtwo_ok⟩ ⟨(by decide : wone.length ≤ 40), (by decide : ∀ x ∈ wone, x.v.length ≤ 200)⟩ ⟨(by decide : wtwo.length ≤ 40), (by decide : ∀ x ∈ wtwo, x.v.length ≤ 200)⟩
  rw [by_w1] at this
  exact this
theorem by_two {W : World} {h g1 g2 : Nat} (b0 : Blk W h 37 c6s) (b1 : Blk W (h + 1) 37 c6t) (b2 : Blk W (h + 1 + 1) 9 c6j) (d1 : Blk W g1 43 c61) (d2 : Blk W g2 43 c63) :
    Calls Try.prog 35 #[.agg #[.slice (some ⟨h, 0, none⟩) 1 1, .slice (some ⟨h + 1, 0, none⟩) 1 1, .slice (some ⟨h + 1 + 1, 0, none⟩) 1 1], .slice (some ⟨g1, 0, none⟩) 2 2, .slice (some ⟨g2, 0, none⟩) 1 1] W fun e w' => e = .returned (.bool false) ∧ Below W.heap.size W w' := by
  have := by_any (wr6 h) ⟨some ⟨g1, 0, none⟩, 2, wone⟩ ⟨some ⟨g2, 0, none⟩, 1, wthr⟩ W (in_rule b0 b1 b2) ⟨by simp [wr6], by simp [wr6], by simp [wr6]⟩ ⟨reads_blk_lt d1 rfl rfl, wone_ok⟩ ⟨reads_blk_lt d2 rfl rfl, wthr_ok⟩ ⟨(by decide : wone.length ≤ 40), (by decide : ∀ x ∈ wone, x.v.length ≤ 200)⟩ ⟨(by decide : wthr.length ≤ 40), (by decide : ∀ x ∈ wthr, x.v.length ≤ 200)⟩
  rw [by_w2] at this
  exact this
set_option maxRecDepth 100000 in
set_option maxHeartbeats 4000000 in
theorem awake6 (w : World) : Calls Try.prog 34 #[] w fun e w' => e = .returned (.bool true) ∧ Below w.heap.size w w' := by
  go_enter Try.func34, Try.ntmps34
  go_wp2_with fail
  have b0 : Blk _ w.heap.size 37 c6s := (((((Blk.new w 37 c6s).alloc (.cells c6t 37)).alloc (.cells c6j 9)).alloc (.cells #[.slice (some ⟨w.heap.size, 0, none⟩) 1 1, .slice (some ⟨w.heap.size + 1, 0, none⟩) 1 1, .slice (some ⟨w.heap.size + 1 + 1, 0, none⟩) 1 1] 47)).alloc (.cells c61 43)).alloc (.cells c62 43)
  have b1 : Blk _ (w.heap.size + 1) 37 c6t := ((((Blk.new_at (w := w.alloc (.cells c6s 37)) (t := 37) (cs := c6t) (by simp)).alloc (.cells c6j 9)).alloc (.cells #[.slice (some ⟨w.heap.size, 0, none⟩) 1 1, .slice (some ⟨w.heap.size + 1, 0, none⟩) 1 1, .slice (some ⟨w.heap.size + 1 + 1, 0, none⟩) 1 1] 47)).alloc (.cells c61 43)).alloc (.cells c62 43)
  have b2 : Blk _ (w.heap.size + 1 + 1) 9 c6j := (((Blk.new_at (w := (w.alloc (.cells c6s 37)).alloc (.cells c6t 37)) (t := 9) (cs := c6j) (by simp)).alloc (.cells #[.slice (some ⟨w.heap.size, 0, none⟩) 1 1, .slice (some ⟨w.heap.size + 1, 0, none⟩) 1 1, .slice (some ⟨w.heap.size + 1 + 1, 0, none⟩) 1 1] 47)).alloc (.cells c61 43)).alloc (.cells c62 43)
  have b3 : Blk _ (w.heap.size + 1 + 1 + 1) 47 #[.slice (some ⟨w.heap.size, 0, none⟩) 1 1, .slice (some ⟨w.heap.size + 1, 0, none⟩) 1 1, .slice (some ⟨w.heap.size + 1 + 1, 0, none⟩) 1 1] := ((Blk.new_at (w := ((w.alloc (.cells c6s 37)).alloc (.cells c6t 37)).alloc (.cells c6j 9)) (t := 47) (cs := #[.slice (some ⟨w.heap.size, 0, none⟩) 1 1, .slice (some ⟨w.heap.size + 1, 0, none⟩) 1 1, .slice (some ⟨w.heap.size + 1 + 1, 0, none⟩) 1 1]) (by simp)).alloc (.cells c61 43)).alloc (.cells c62 43)
  have d1 : Blk _ (w.heap.size + 1 + 1 + 1 + 1) 43 c61 := (Blk.new_at (w := (((w.alloc (.cells c6s 37)).alloc (.cells c6t 37)).alloc (.cells c6j 9)).alloc (.cells #[.slice (some ⟨w.heap.size, 0, none⟩) 1 1, .slice (some ⟨w.heap.size + 1, 0, none⟩) 1 1, .slice (some ⟨w.heap.size + 1 + 1, 0, none⟩) 1 1] 47)) (t := 43) (cs := c61) (by simp)).alloc (.cells c62 43)
  have d2 : Blk _ (w.heap.size + 1 + 1 + 1 + 1 + 1) 43 c62 := Blk.new_at (w := ((((w.alloc (.cells c6s 37)).alloc (.cells c6t 37)).alloc (.cells c6j 9)).alloc (.cells #[.slice (some ⟨w.heap.size, 0, none⟩) 1 1, .slice (some ⟨w.heap.size + 1, 0, none⟩) 1 1, .slice (some ⟨w.heap.size + 1 + 1, 0, none⟩) 1 1] 47)).alloc (.cells c61 43)) (t := 43) (cs := c62) (by simp)
  have K1 := Lib.hid ((((((((Below.refl w.heap.size w).alloc (Nat.le_refl _) (.cells c6s 37)).alloc (by simp) (.cells c6t 37)).alloc (by simp; omega) (.cells c6j 9)).alloc (by simp; omega) (.cells #[.slice (some ⟨w.heap.size, 0, none⟩) 1 1, .slice (some ⟨w.heap.size + 1, 0, none⟩) 1 1, .slice (some ⟨w.heap.size + 1 + 1, 0, none⟩) 1 1] 47)).alloc (by simp; omega) (.cells c61 43)).alloc (by simp; omega) (.cells c62 43)))
  refine (by_one b0 b1 b2 d1 d2).mono ?_
  rintro e w6 ⟨rfl, hk⟩
  have K2 := Lib.hid (below_then K1.out K1.out.size hk)
  have C0 := Lib.hid (b0.below hk b0.lt)
  have C1 := Lib.hid (b1.below hk b1.lt)
  have C2 := Lib.hid (b2.below hk b2.lt)
  have C3 := Lib.hid (b3.below hk b3.lt)
  have D1 := Lib.hid (d1.below hk d1.lt)
  clear hk b0 b1 b2 b3 d1 d2
  have y0 := C3.out.cell 0
  have y1 := C3.out.cell 1
  have y2 := C3.out.cell 2
  simp only [List.getElem?_toArray, List.getElem?_cons_zero, List.getElem?_cons_succ] at y0 y1 y2
  go_wp2_with fail
  refine (by_two (C0.out.alloc (.cells c63 43)) (C1.out.alloc (.cells c63 43)) (C2.out.alloc (.cells c63 43)) (D1.out.alloc (.cells c63 43)) (Blk.new w6 43 c63)).mono ?_
  rintro e w7 ⟨rfl, hk⟩
  have K3 := Lib.hid (below_then (K2.out.alloc K2.out.size (.cells c63 43)) (K2.out.alloc K2.out.size _).size hk)
  clear hk y0 y1 y2
  go_wp2
  go_ret
  exact ⟨rfl, K3.out⟩
end Go.Proofs.Ytnidjfmbbfoheaa
