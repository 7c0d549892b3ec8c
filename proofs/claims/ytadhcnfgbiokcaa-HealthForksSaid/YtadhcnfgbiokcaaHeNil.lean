/- WALKS: health's Fork; a health that is not there. -/
import Derived.Test.YtadhcnfgbiokcaaHeActs
namespace Go.Proofs.Ytadhcnfgbiokcaa
set_option linter.unusedVariables false
set_option linter.unusedSimpArgs false
open Go.RowKit
theorem Blk.new_at {w : World} {g : Nat} {t : TypeId} {cs : Array Value} (h : g = w.heap.size) : Blk (w.alloc (.cells cs t)) g t cs := by subst h; exact Blk.new w t cs
theorem sb_alloc {B : Nat} {w X : World} (h : SB B w X) (hB : B ≤ w.heap.size) (o : Obj) : SB B w (X.alloc o) := keepB (h.2.2.alloc (Nat.le_trans hB h.2.2.size) o)
theorem sb_set {B : Nat} {w X : World} (h : SB B w X) {p : Addr} (hp : B ≤ p.block) (v : Value) : SB B w (X.setCell p v) := keepB (h.2.2.setCell hp v)
theorem drew_size (w : World) : w.drew.heap.size = w.heap.size := rfl
theorem sb_drew {B : Nat} {w X : World} (h : SB B w X) : SB B w X.drew := keepB h.2.2.drew
theorem sb_then {B : Nat} {w X w1 : World} (h : SB B w X) (hb : Below X.heap.size X w1) (hB : B ≤ w.heap.size := by exact Nat.le_refl _) : SB B w w1 := keepB (below_then h.2.2 (Nat.le_trans hB h.2.2.size) hb)
theorem kept1 {w w1 : World} {cs : Array Value} {t : TypeId} (hb : Below (w.alloc (.cells cs t)).drew.heap.size (w.alloc (.cells cs t)).drew w1) : Blk w1 w.heap.size t cs ∧ w.heap.size < w1.heap.size ∧ w.heap.size ≠ w1.heap.size := by
  have h : w.heap.size < (w.alloc (.cells cs t)).drew.heap.size := by simp
  have h2 := hb.size
  exact ⟨((Blk.new w t cs).drew).below hb h, by omega, by omega⟩
theorem su_one (o : Option Su) : ∀ v ∈ su o, v.oneCell' = true := by
  intro v hv
  cases o <;> simp [su] at hv <;> rcases hv with rfl | rfl | rfl | rfl <;> rfl
theorem hcells_one (h : Hs) : ∀ v ∈ (hcells h).toList, v.oneCell' = true := by
  intro v hv
  simp only [hcells, List.mem_append] at hv
  rcases hv with hv | hv
  · simp [hhead] at hv
    rcases hv with rfl | rfl | rfl | rfl | rfl <;> rfl
  · obtain ⟨k, _, hk⟩ := List.mem_flatMap.1 hv
    exact su_one _ v hk
theorem und69 : ∃ fs, Try.prog.underlying 69 = some (.struct fs) := ⟨_, Try.underlying69⟩
theorem siz69 : (Try.prog.info? 69).map (·.size) = some 261 := by kernel_rfl
set_option maxRecDepth 100000 in
set_option maxHeartbeats 1000000 in
theorem fork_any (g : Nat) (h : Hs) (w : World) (hT : IsH w g h) :
    Calls Try.prog 21 #[.pointer (some ⟨g, 0, none⟩)] w fun e w' => ∃ g', e = .returned (.pointer (some ⟨g', 0, none⟩)) ∧ Below w.heap.size w w' ∧ w.heap.size ≤ g' ∧ IsH w' g' h := by
  have hr : w.rangeAt g 0 (hcells h).toList := Blk.range hT
  have hl : (hcells h).toList.length = 261 := by rw [Array.length_toList, hcells_size]
  have h1 := all_oneCell_toArray (hcells_one h)
  have hz := zero69 w
  have hz0 : (hcells h00).size = 261 := hcells_size h00
  have ht : (w.alloc (.cells (hcells h00) 69)).there w.heap.size 0 (hcells h).toList.toArray.size := (Blk.new w 69 (hcells h00)).there _ (by rw [List.size_toArray, hl, hz0]; omega)
  have hzz := fun w => zero69 w
  obtain ⟨fs, hfs⟩ := und69
  have H0 := Lib.hid h1
  have H1 := Lib.hid ht
  have H2 := Lib.hid hl
  have HT := Lib.hid hT
  have HR := Lib.hid hr
  have HF := Lib.hid hfs
  have HS := Lib.hid (show (hcells h).toList.toArray = hcells h by simp)
  clear h1 ht hl hT hr hz hfs
  obtain ⟨Zc, hZc⟩ : ∃ Zc, hcells h00 = Zc := ⟨_, rfl⟩
  rw [hZc] at H1 hzz hz0
  clear hZc
  obtain ⟨Lc, hLc⟩ : ∃ Lc, (hcells h).toList = Lc := ⟨_, rfl⟩
  rw [hLc] at HR H0 H1 H2 HS
  clear hLc
  have hne : ¬ Zc = #[] := fun e => by rw [e] at hz0; simp at hz0
  go_enter Try.func21, Try.ntmps21
  go_wp2_with (first | (refine wpList_load_mid rfl 69 _ rfl g 0 rfl Lc _ HR.out HF.out rfl (by rw [H2.out]; exact siz69) ?_) | (refine wpList_store_mid rfl 69 _ _ rfl w.heap.size 0 Lc.toArray rfl rfl H1.out (by rw [List.size_toArray, H2.out]; exact siz69) H0.out ?_))
  go_ret
  refine ⟨w.heap.size, rfl, below_setCells (Nat.le_refl _) _ _ ((Below.refl _ _).alloc (Nat.le_refl _) _), Nat.le_refl _, ?_⟩
  have hb := Blk.setCells Lc 0 (Blk.new w 69 Zc)
  rw [setAll_whole _ _ (by rw [H2.out, hz0]), HS.out] at hb
  exact hb
section
variable (w : World)
theorem nil_ends (n : Int) : Calls Try.prog 11 #[.pointer none, .int .u16 n] w fun e w' => e = .returned (.tuple #[.int .i64 0, .bool false]) ∧ Below w.heap.size w w' := by
  go_enter Try.func11, Try.ntmps11
  go_wp2
  refine bodyPost_ret (v := .tuple #[.int .i64 0, .bool false]) (by simp [results, Try.results11, go_sem]) rfl ⟨rfl, Below.refl _ _⟩
theorem nil_sus (n i fr now : Int) : Calls Try.prog 9 #[.pointer none, .agg #[.int .u16 n, .int .u8 1, .int .i64 i], .int .u16 fr, .int .i64 now] w fun e w' => e = .returned (.bool false) ∧ Below w.heap.size w w' := by
  go_enter Try.func9, Try.ntmps9
  go_wp2
  go_quiet (fail)
  go_wp2
  go_ret
  exact ⟨rfl, below_drewN ((Below.refl _ _).alloc (Nat.le_refl _) _) _⟩
theorem nil_clear (n i : Int) : Calls Try.prog 15 #[.pointer none, .agg #[.int .u16 n, .int .u8 1, .int .i64 i]] w fun e w' => e = .returned (.bool false) ∧ Below w.heap.size w w' := by
  go_enter Try.func15, Try.ntmps15
  go_wp2
  go_ret
  exact ⟨rfl, (Below.refl _ _).alloc (Nat.le_refl _) _⟩
theorem nil_bump (b : Int) : Calls Try.prog 13 #[.pointer none, .int .i64 b] w fun e w' => e = .returned (.int .i64 0) ∧ Below w.heap.size w w' := by
  go_enter Try.func13, Try.ntmps13
  go_wp2
  go_ret
  exact ⟨rfl, Below.refl _ _⟩
theorem nil_score : Calls Try.prog 14 #[.pointer none] w fun e w' => e = .returned (.int .i64 0) ∧ Below w.heap.size w w' := by
  go_enter Try.func14, Try.ntmps14
  go_wp2
  go_ret
  exact ⟨rfl, Below.refl _ _⟩
theorem nil_wait (b : Int) : Calls Try.prog 22 #[.pointer none, .int .i64 b] w fun e w' => e = .returned (.int .i64 0) ∧ Below w.heap.size w w' := by
  go_enter Try.func22, Try.ntmps22
  go_wp2
  go_ret
  exact ⟨rfl, Below.refl _ _⟩
theorem nil_due (b : Int) : Calls Try.prog 17 #[.pointer none, .int .i64 b] w fun e w' => e = .returned (.slice none 0 0) ∧ Below w.heap.size w w' := by
  go_enter Try.func17, Try.ntmps17
  go_wp2
  go_ret
  exact ⟨rfl, Below.refl _ _⟩
theorem nil_len : Calls Try.prog 16 #[.pointer none] w fun e w' => e = .returned (.int .i64 0) ∧ Below w.heap.size w w' := by
  go_enter Try.func16, Try.ntmps16
  go_wp2
  go_ret
  exact ⟨rfl, Below.refl _ _⟩
theorem nil_fork : Calls Try.prog 21 #[.pointer none] w fun e w' => e = .returned (.pointer none) ∧ Below w.heap.size w w' := by
  go_enter Try.func21, Try.ntmps21
  go_wp2
  go_ret
  exact ⟨rfl, Below.refl _ _⟩
end
end Go.Proofs.Ytadhcnfgbiokcaa
