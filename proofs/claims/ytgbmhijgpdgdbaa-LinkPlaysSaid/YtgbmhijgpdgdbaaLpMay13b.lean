/- 'may' of the link of 'works'. -/
import Derived.Test.YtgbmhijgpdgdbaaLpMay13
import Derived.Test.YtgbmhijgpdgdbaaLpTail
set_option maxHeartbeats 8000000
set_option maxRecDepth 20000
namespace Go.Proofs.Ytgbmhijgpdgdbaa
open Go.RowKit
def tabMay : List (List Nat × Nat × List Nat) := [([], 18, [0]), ([0], 19, [17]), ([1], 20, [18]), ([2], 21, [19]), ([3], 22, [20]), ([4], 23, [21]), ([], 24, [7]), ([6], 25, [23]), ([], 26, [0]), ([8], 27, [25]), ([9], 28, [26]), ([10], 29, [27]), ([11], 30, [28]), ([7, 12], 31, [24, 29]), ([13], 32, [30]), ([14], 33, [7, 31]), ([15, 14], 34, [32, 31]), ([14], 35, [0, 31]), ([17, 14], 36, [34, 31]), ([18, 14], 37, [35, 31]), ([19, 14], 38, [36, 31]), ([20, 14], 39, [37, 31]), ([16, 21, 14], 40, [33, 38, 31]), ([14, 22], 41, [31, 39]), ([23], 42, [40]), ([], 43, [0]), ([25], 44, [42]), ([26], 45, [43]), ([27], 46, [44]), ([28], 47, [45]), ([29], 48, [46]), ([30, 14], 49, [47]), ([31], 50, [7, 48]), ([32, 31], 51, [49, 48]), ([31], 52, [0, 48]), ([34, 31, 31], 53, [51, 48]), ([33, 35, 31], 54, [50, 52, 48]), ([31, 36], 55, [48, 53]), ([37], 56, [54]), ([], 57, [7]), ([39], 58, [56]), ([], 59, [0]), ([41], 60, [58]), ([42], 61, [59]), ([43], 62, [60]), ([44], 63, [61]), ([40, 45], 64, [57, 62]), ([46], 65, [63]), ([47], 66, [64]), ([48], 67, [65]), ([], 68, [2]), ([50], 69, [67]), ([51, 35], 70, [68]), ([52], 71, [2, 69]), ([52], 72, [0, 69]), ([54, 52], 73, [71, 69]), ([55, 52], 74, [72, 69]), ([56, 52], 75, [73, 69]), ([57, 52], 76, [74, 69]), ([53, 58, 52], 77, [70, 75, 69]), ([52, 59], 78, [69, 76]), ([60, 52], 79, [77]), ([61], 80, [1, 78]), ([62, 61], 81, [79, 78]), ([61, 63], 82, [78, 80]), ([64, 61], 83, [81]), ([65], 84, [1, 82]), ([65], 85, [0, 82]), ([67, 65], 86, [84, 82]), ([68, 65], 87, [85, 82]), ([69, 65], 88, [86, 82]), ([70, 65], 89, [87, 82]), ([66, 71, 65], 90, [83, 88, 82]), ([65, 72], 91, [82, 89]), ([73], 92, [90]), ([], 93, [0]), ([75], 94, [92]), ([76], 95, [93]), ([77], 96, [94]), ([78], 97, [95]), ([79], 98, [96]), ([80, 65], 99, [97]), ([81], 100, [0, 98]), ([82, 81], 101, [99, 98]), ([83, 81], 102, [100, 98]), ([84, 81], 103, [101, 98]), ([85, 81], 104, [102, 98]), ([81], 105, [1, 98]), ([86, 87, 81, 81], 106, [103, 104, 98]), ([88, 81], 107, [105, 98]), ([81, 89], 108, [98, 106]), ([90], 109, [107]), ([], 110, [0]), ([92], 111, [109]), ([93], 112, [110]), ([94], 113, [111]), ([95], 114, [112]), ([96], 115, [113]), ([97, 88], 116, [114]), ([98], 117, [2, 115]), ([98], 118, [0, 115]), ([100, 98], 119, [117, 115]), ([101, 98], 120, [118, 115]), ([102, 98], 121, [119, 115]), ([103, 98], 122, [120, 115]), ([99, 104, 98], 123, [116, 121, 115]), ([98, 105], 124, [115, 122]), ([106], 125, [123]), ([], 126, [0]), ([108], 127, [125]), ([109], 128, [126]), ([110], 129, [127]), ([111, 98], 130, [128]), ([112, 112], 131, [129]), ([113], 132, [9, 130]), ([114, 113], 133, [131, 130]), ([113, 115], 134, [130, 132]), ([116], 135, [133]), ([], 136, [0]), ([118], 137, [135]), ([119], 138, [136]), ([120], 139, [137]), ([121], 140, [138]), ([122], 141, [139]), ([123, 113], 142, [140]), ([124], 143, [9, 141]), ([125, 124], 144, [142, 141]), ([124, 126], 145, [141, 143]), ([127, 124], 146, [144]), ([128], 147, [0, 145]), ([129, 128], 148, [146, 145]), ([130, 128], 149, [147, 145]), ([131, 128], 150, [148, 145]), ([132, 128], 151, [149, 145]), ([133, 128], 152, [150, 145]), ([128, 134], 153, [145, 151]), ([135], 154, [152]), ([5, 24, 38, 49, 74, 91, 107, 117, 136], 155, [22, 41, 55, 66, 91, 108, 124, 134, 153]), ([137, 128, 0, 1, 2, 3, 4, 5, 6, 7, 8, 9, 10, 11, 12, 13, 14, 15, 16, 17, 18, 19, 20, 21, 22, 23, 24, 25, 26, 27, 28, 29, 30, 31, 32, 33, 34, 35, 36, 37, 38, 39, 40, 41, 42, 43, 44, 45, 46, 47, 48, 49, 50, 51, 52, 53, 54, 55, 56, 57, 58, 59, 60, 61, 62, 63, 64, 65, 66, 67, 68, 69, 70, 71, 72, 73, 74, 75, 76, 77, 78, 79, 80, 81, 82, 83, 84, 85, 86, 87, 88, 89, 90, 91, 92, 93, 94, 95, 96, 97, 98, 99, 100, 101, 102, 103, 104, 105, 106, 107, 108, 109, 110, 111, 112, 113, 114, 115, 116, 117, 118, 119, 120, 121, 122, 123, 124, 125, 126, 127, 128, 129, 130, 131, 132, 133, 134, 135, 136, 137], 11, [154])]
theorem chkMay : chkT 137 0 tabMay = true := by kernel_rfl
theorem may_ok (w : World) (B : Nat) (wt nx : Int) (nb : Value) (k : Blk w B 119 (lk 2 wt nx (.slice none 0 0)))
    (hf : ∀ W, Blk W B 119 (lk 2 wt nx (.slice none 0 0)) → Below w.heap.size w W → Calls Try.prog 71 #[.pointer (some ⟨B, 0, none⟩), .int .u32 167772162, .int .u32 2] W fun e w' => e = .returned (.int .i64 (-1)) ∧ W = w') :
    Calls Try.prog 70 #[.pointer (some ⟨B, 0, none⟩), .int .u32 167772162, .int .u32 2, .agg (hl 10 nb)] w fun e w' => e = .returned (.int .i64 0) ∧ Below w.heap.size w w' := by
  have hp := fun W => peers13 W
  unfold lcfg at hp
  have HP := Lib.hid hp
  have HF := Lib.hid hf
  have K := Lib.hid k
  have hlt : B < w.heap.size := k.lt
  clear hp hf k
  unfold hl
  go_enter Try.func70, Try.ntmps70
  go_upto_region 1 with fail
  obtain ⟨W0, hW0⟩ : ∃ W0, W0 = w.alloc (.cells #[.int .u32 4294967040, .int .u16 10, .int .u8 2, .int .u8 1, .int .u32 40, .int .u32 0, .int .u32 0, nb] 90) := ⟨_, rfl⟩
  have K0 : Hid (Blk W0 B 119 (lk 2 wt nx (.slice none 0 0))) := Lib.hid (by rw [hW0]; exact K.out.alloc _)
  have H0 : Hid (Blk W0 w.heap.size 90 (hl 10 nb)) := Lib.hid (by rw [hW0]; exact Blk.new w _ _)
  have B0 : Hid (Below w.heap.size w W0) := Lib.hid (by rw [hW0]; exact (Below.refl _ w).alloc (Nat.le_refl _) _)
  rw [← hW0]
  clear hW0
  go_wp2_with (go_at_call 71; refine (HF.out _ K0.out B0.out).mono ?_; rintro e w' ⟨rfl, rfl⟩)
  dsimp only [List.append]
  have hB1 : w.heap.size < W0.heap.size := H0.out.lt
  have hx1 : bits .xor .u8 2 2 = 0 := by decide +kernel
  have hx2 : bits .and .u8 0 10 = 0 := by decide +kernel
  have q1 := later_cell (v := .int .u8 0) (B := w.heap.size + 1) (w0 := W0) (p := ⟨B, 1, none⟩) (by simp; omega) (K0.out.cell 1)
  have q2 := later_cell (v := .int .u32 1) (B := w.heap.size + 1) (w0 := W0) (p := ⟨B, 2, none⟩) (by simp; omega) (K0.out.cell 2)
  have q3 := later_cell (v := .int .u32 167772160) (B := w.heap.size + 1) (w0 := W0) (p := ⟨B, 3, none⟩) (by simp; omega) (K0.out.cell 3)
  have q4 := later_cell (v := .int .u8 24) (B := w.heap.size + 1) (w0 := W0) (p := ⟨B, 4, none⟩) (by simp; omega) (K0.out.cell 4)
  have q5 := later_cell (v := .int .u32 167772161) (B := w.heap.size + 1) (w0 := W0) (p := ⟨B, 5, none⟩) (by simp; omega) (K0.out.cell 5)
  have q6 := later_cell (v := .int .u8 2) (B := w.heap.size + 1) (w0 := W0) (p := ⟨B, 6, none⟩) (by simp; omega) (K0.out.cell 6)
  have q7 := later_cell (v := .int .u16 10) (B := w.heap.size + 1) (w0 := W0) (p := ⟨B, 7, none⟩) (by simp; omega) (K0.out.cell 7)
  have q8 := later_cell (v := .int .u32 40) (B := w.heap.size + 1) (w0 := W0) (p := ⟨B, 8, none⟩) (by simp; omega) (K0.out.cell 8)
  have q9 := later_cell (v := .int .u16 0) (B := w.heap.size + 1) (w0 := W0) (p := ⟨B, 9, none⟩) (by simp; omega) (K0.out.cell 9)
  have q10 := later_cell (v := .int .u8 1) (B := w.heap.size + 1) (w0 := W0) (p := ⟨B, 10, none⟩) (by simp; omega) (K0.out.cell 10)
  have q11 := later_cell (v := .bool false) (B := w.heap.size + 1) (w0 := W0) (p := ⟨B, 11, none⟩) (by simp; omega) (K0.out.cell 11)
  have q12 := later_cell (v := .bool false) (B := w.heap.size + 1) (w0 := W0) (p := ⟨B, 12, none⟩) (by simp; omega) (K0.out.cell 12)
  have q13 := later_cell (v := .slice none 0 0) (B := w.heap.size + 1) (w0 := W0) (p := ⟨B, 13, none⟩) (by simp; omega) (K0.out.cell 13)
  have q14 := later_cell (v := .int .u32 0) (B := w.heap.size + 1) (w0 := W0) (p := ⟨B, 14, none⟩) (by simp; omega) (K0.out.cell 14)
  have q15 := later_cell (v := .int .u8 2) (B := w.heap.size + 1) (w0 := W0) (p := ⟨B, 15, none⟩) (by simp; omega) (K0.out.cell 15)
  have q22 := later_cell (v := .slice none 0 0) (B := w.heap.size + 1) (w0 := W0) (p := ⟨B, 22, none⟩) (by simp; omega) (K0.out.cell 22)
  have r0 := later_cell (v := .int .u32 4294967040) (B := w.heap.size + 1) (w0 := W0) (p := ⟨w.heap.size, 0, none⟩) (by simp) (H0.out.cell 0)
  have r1 := later_cell (v := .int .u16 10) (B := w.heap.size + 1) (w0 := W0) (p := ⟨w.heap.size, 1, none⟩) (by simp) (H0.out.cell 1)
  have r2 := later_cell (v := .int .u8 2) (B := w.heap.size + 1) (w0 := W0) (p := ⟨w.heap.size, 2, none⟩) (by simp) (H0.out.cell 2)
  have r4 := later_cell (v := .int .u32 40) (B := w.heap.size + 1) (w0 := W0) (p := ⟨w.heap.size, 4, none⟩) (by simp) (H0.out.cell 4)
  have d1 : Hid (∀ u : Later (w.heap.size + 1) W0, Calls Try.prog 107 #[.pointer (some ⟨B, 0, none⟩)] u.to fun e w' => e = .returned (.int .u32 4294967040) ∧ Below u.to.heap.size u.to w') := Lib.hid (fun u => (mask_lk u.to B _ (K0.out.below u.ok (by omega)) rfl rfl).mono fun _ _ h => ⟨h.1, h.2 ▸ Below.refl _ _⟩)
  have d2 : Hid (∀ u : Later (w.heap.size + 1) W0, Calls Try.prog 66 #[.agg #[.int .u32 167772160, .int .u8 24], .int .u32 167772162] u.to fun e w' => e = .returned (.bool true) ∧ Below u.to.heap.size u.to w') := Lib.hid (fun u => has24 167772162 u.to and2)
  have d3 : Hid (∀ u : Later (w.heap.size + 1) W0, Calls Try.prog 63 #[.agg #[.int .u8 0, .int .u32 1, .int .u32 167772160, .int .u8 24, .int .u32 167772161, .int .u8 2, .int .u16 10, .int .u32 40, .int .u16 0, .int .u8 1, .bool false, .bool false, .slice none 0 0, .int .u32 0]] u.to fun e w' => e = .returned (.bool false) ∧ Below u.to.heap.size u.to w') := Lib.hid (fun u => HP.out u.to)
  refine wp_region_later_table (B := w.heap.size + 1) (w0 := W0) 137 tabMay (by kernel_rfl) (by kernel_rfl) (by kernel_rfl) chkMay (of_decide_eq_true (by kernel_rfl)) (Below.refl _ _) ?_
  simp only [List.take_succ_cons, List.take_zero, List.drop_succ_cons, List.drop_zero]
  repeat (go_big_quiet_step (first
    | (go_at_call 107; with_reducible exact later_call _ (by omega) (d1.out _))
    | (go_at_call 66; with_reducible exact later_call _ (by omega) (d2.out _))
    | (go_at_call 63; with_reducible exact later_call _ (by omega) (d3.out _))))
  refine wpQuiet_nil ?_
  rintro wx ⟨⟨wy, hwy⟩, hwe⟩
  obtain rfl : wx = wy := hwe
  have hbx : Hid (Below w.heap.size w wx) := Lib.hid (B0.out.trans (hwy.mono (by omega)))
  clear q1 q2 q3 q4 q5 q6 q7 q8 q9 q10 q11 q12 q13 q14 q15 q22 r0 r1 r2 r4
  clear d1 d2 d3 hwy
  go_wp2_with fail
  obtain ⟨X, hX⟩ : ∃ X, X = wx.heap.size := ⟨_, rfl⟩
  obtain ⟨V0, hV0⟩ : ∃ V0, V0 = wx.alloc (.cells #[.bool false, .int .i64 45, .bool false, .int .i64 43, .bool false, .int .i64 42, .bool false, .int .i64 44, .bool false, .int .i64 41, .bool false, .int .i64 41, .bool false, .int .i64 46, .bool false, .int .i64 46, .bool false, .int .i64 47] 173) := ⟨_, rfl⟩
  have KX0 : Hid (Blk V0 X 173 #[.bool false, .int .i64 45, .bool false, .int .i64 43, .bool false, .int .i64 42, .bool false, .int .i64 44, .bool false, .int .i64 41, .bool false, .int .i64 41, .bool false, .int .i64 46, .bool false, .int .i64 46, .bool false, .int .i64 47]) := Lib.hid (by rw [hV0, hX]; exact Blk.new wx _ _)
  have BX0 : Hid (Below w.heap.size w V0) := Lib.hid (by rw [hV0]; exact hbx.out.alloc hbx.out.size _)
  rw [← hV0, ← hX]
  clear hV0 hX
  refine wp_loop_rounds 10 ?_
  rw [rounds_succ]
  have f0 : V0.cell? ⟨X, 0, none⟩ = some (.bool false) := KX0.out.cell 0
  have f1 : V0.cell? ⟨X, 1, none⟩ = some (.int .i64 45) := KX0.out.cell 1
  go_wp2_with fail
  obtain ⟨V1, hV⟩ : ∃ V, V = V0.alloc (.cells #[.bool false, .int .i64 45] 173) := ⟨_, rfl⟩
  have KX1 := Lib.hid (hV ▸ KX0.out.alloc (.cells #[.bool false, .int .i64 45] 173))
  have BX1 := Lib.hid (hV ▸ BX0.out.alloc BX0.out.size (.cells #[.bool false, .int .i64 45] 173))
  rw [← hV]
  clear hV f0 f1
  rw [rounds_succ]
  have f0 : V1.cell? ⟨X, 2, none⟩ = some (.bool false) := KX1.out.cell 2
  have f1 : V1.cell? ⟨X, 3, none⟩ = some (.int .i64 43) := KX1.out.cell 3
  go_wp2_with fail
  obtain ⟨V2, hV⟩ : ∃ V, V = V1.alloc (.cells #[.bool false, .int .i64 43] 173) := ⟨_, rfl⟩
  have KX2 := Lib.hid (hV ▸ KX1.out.alloc (.cells #[.bool false, .int .i64 43] 173))
  have BX2 := Lib.hid (hV ▸ BX1.out.alloc BX1.out.size (.cells #[.bool false, .int .i64 43] 173))
  rw [← hV]
  clear hV f0 f1
  rw [rounds_succ]
  have f0 : V2.cell? ⟨X, 4, none⟩ = some (.bool false) := KX2.out.cell 4
  have f1 : V2.cell? ⟨X, 5, none⟩ = some (.int .i64 42) := KX2.out.cell 5
  go_wp2_with fail
  obtain ⟨V3, hV⟩ : ∃ V, V = V2.alloc (.cells #[.bool false, .int .i64 42] 173) := ⟨_, rfl⟩
  have KX3 := Lib.hid (hV ▸ KX2.out.alloc (.cells #[.bool false, .int .i64 42] 173))
  have BX3 := Lib.hid (hV ▸ BX2.out.alloc BX2.out.size (.cells #[.bool false, .int .i64 42] 173))
  rw [← hV]
  clear hV f0 f1
  rw [rounds_succ]
  have f0 : V3.cell? ⟨X, 6, none⟩ = some (.bool false) := KX3.out.cell 6
  have f1 : V3.cell? ⟨X, 7, none⟩ = some (.int .i64 44) := KX3.out.cell 7
  go_wp2_with fail
  obtain ⟨V4, hV⟩ : ∃ V, V = V3.alloc (.cells #[.bool false, .int .i64 44] 173) := ⟨_, rfl⟩
  have KX4 := Lib.hid (hV ▸ KX3.out.alloc (.cells #[.bool false, .int .i64 44] 173))
  have BX4 := Lib.hid (hV ▸ BX3.out.alloc BX3.out.size (.cells #[.bool false, .int .i64 44] 173))
  rw [← hV]
  clear hV f0 f1
  rw [rounds_succ]
  have f0 : V4.cell? ⟨X, 8, none⟩ = some (.bool false) := KX4.out.cell 8
  have f1 : V4.cell? ⟨X, 9, none⟩ = some (.int .i64 41) := KX4.out.cell 9
  go_wp2_with fail
  obtain ⟨V5, hV⟩ : ∃ V, V = V4.alloc (.cells #[.bool false, .int .i64 41] 173) := ⟨_, rfl⟩
  have KX5 := Lib.hid (hV ▸ KX4.out.alloc (.cells #[.bool false, .int .i64 41] 173))
  have BX5 := Lib.hid (hV ▸ BX4.out.alloc BX4.out.size (.cells #[.bool false, .int .i64 41] 173))
  rw [← hV]
  clear hV f0 f1
  rw [rounds_succ]
  have f0 : V5.cell? ⟨X, 10, none⟩ = some (.bool false) := KX5.out.cell 10
  have f1 : V5.cell? ⟨X, 11, none⟩ = some (.int .i64 41) := KX5.out.cell 11
  go_wp2_with fail
  obtain ⟨V6, hV⟩ : ∃ V, V = V5.alloc (.cells #[.bool false, .int .i64 41] 173) := ⟨_, rfl⟩
  have KX6 := Lib.hid (hV ▸ KX5.out.alloc (.cells #[.bool false, .int .i64 41] 173))
  have BX6 := Lib.hid (hV ▸ BX5.out.alloc BX5.out.size (.cells #[.bool false, .int .i64 41] 173))
  rw [← hV]
  clear hV f0 f1
  rw [rounds_succ]
  have f0 : V6.cell? ⟨X, 12, none⟩ = some (.bool false) := KX6.out.cell 12
  have f1 : V6.cell? ⟨X, 13, none⟩ = some (.int .i64 46) := KX6.out.cell 13
  go_wp2_with fail
  obtain ⟨V7, hV⟩ : ∃ V, V = V6.alloc (.cells #[.bool false, .int .i64 46] 173) := ⟨_, rfl⟩
  have KX7 := Lib.hid (hV ▸ KX6.out.alloc (.cells #[.bool false, .int .i64 46] 173))
  have BX7 := Lib.hid (hV ▸ BX6.out.alloc BX6.out.size (.cells #[.bool false, .int .i64 46] 173))
  rw [← hV]
  clear hV f0 f1
  rw [rounds_succ]
  have f0 : V7.cell? ⟨X, 14, none⟩ = some (.bool false) := KX7.out.cell 14
  have f1 : V7.cell? ⟨X, 15, none⟩ = some (.int .i64 46) := KX7.out.cell 15
  go_wp2_with fail
  obtain ⟨V8, hV⟩ : ∃ V, V = V7.alloc (.cells #[.bool false, .int .i64 46] 173) := ⟨_, rfl⟩
  have KX8 := Lib.hid (hV ▸ KX7.out.alloc (.cells #[.bool false, .int .i64 46] 173))
  have BX8 := Lib.hid (hV ▸ BX7.out.alloc BX7.out.size (.cells #[.bool false, .int .i64 46] 173))
  rw [← hV]
  clear hV f0 f1
  rw [rounds_succ]
  have f0 : V8.cell? ⟨X, 16, none⟩ = some (.bool false) := KX8.out.cell 16
  have f1 : V8.cell? ⟨X, 17, none⟩ = some (.int .i64 47) := KX8.out.cell 17
  go_wp2_with fail
  obtain ⟨V9, hV⟩ : ∃ V, V = V8.alloc (.cells #[.bool false, .int .i64 47] 173) := ⟨_, rfl⟩
  have KX9 := Lib.hid (hV ▸ KX8.out.alloc (.cells #[.bool false, .int .i64 47] 173))
  have BX9 := Lib.hid (hV ▸ BX8.out.alloc BX8.out.size (.cells #[.bool false, .int .i64 47] 173))
  rw [← hV]
  clear hV f0 f1
  rw [rounds_succ]
  go_wp2_with fail
  go_ret
  exact ⟨rfl, BX9.out⟩
theorem may_bad (w : World) (B : Nat) (wt nx : Int) (l nb : Value) (k : Blk w B 119 (lk 2 wt nx l))
    (hf : ∀ W, Blk W B 119 (lk 2 wt nx l) → Below w.heap.size w W → Calls Try.prog 71 #[.pointer (some ⟨B, 0, none⟩), .int .u32 167772162, .int .u32 2] W fun e w' => e = .returned (.int .i64 0) ∧ W = w') :
    Calls Try.prog 70 #[.pointer (some ⟨B, 0, none⟩), .int .u32 167772162, .int .u32 2, .agg (hl 9 nb)] w fun e w' => e = .returned (.int .i64 43) ∧ Below w.heap.size w w' := by
  have hp := fun W => peers13 W
  unfold lcfg at hp
  have HP := Lib.hid hp
  have HF := Lib.hid hf
  have K := Lib.hid k
  have hlt : B < w.heap.size := k.lt
  clear hp hf k
  unfold hl
  go_enter Try.func70, Try.ntmps70
  go_upto_region 1 with fail
  obtain ⟨W0, hW0⟩ : ∃ W0, W0 = w.alloc (.cells #[.int .u32 4294967040, .int .u16 9, .int .u8 2, .int .u8 1, .int .u32 40, .int .u32 0, .int .u32 0, nb] 90) := ⟨_, rfl⟩
  have K0 : Hid (Blk W0 B 119 (lk 2 wt nx l)) := Lib.hid (by rw [hW0]; exact K.out.alloc _)
  have H0 : Hid (Blk W0 w.heap.size 90 (hl 9 nb)) := Lib.hid (by rw [hW0]; exact Blk.new w _ _)
  have B0 : Hid (Below w.heap.size w W0) := Lib.hid (by rw [hW0]; exact (Below.refl _ w).alloc (Nat.le_refl _) _)
  rw [← hW0]
  clear hW0
  go_wp2_with (go_at_call 71; refine (HF.out _ K0.out B0.out).mono ?_; rintro e w' ⟨rfl, rfl⟩)
  dsimp only [List.append]
  have hB1 : w.heap.size < W0.heap.size := H0.out.lt
  have hx1 : bits .xor .u8 2 2 = 0 := by decide +kernel
  have hx2 : bits .and .u8 0 10 = 0 := by decide +kernel
  have q1 := later_cell (v := .int .u8 0) (B := w.heap.size + 1) (w0 := W0) (p := ⟨B, 1, none⟩) (by simp; omega) (K0.out.cell 1)
  have q2 := later_cell (v := .int .u32 1) (B := w.heap.size + 1) (w0 := W0) (p := ⟨B, 2, none⟩) (by simp; omega) (K0.out.cell 2)
  have q3 := later_cell (v := .int .u32 167772160) (B := w.heap.size + 1) (w0 := W0) (p := ⟨B, 3, none⟩) (by simp; omega) (K0.out.cell 3)
  have q4 := later_cell (v := .int .u8 24) (B := w.heap.size + 1) (w0 := W0) (p := ⟨B, 4, none⟩) (by simp; omega) (K0.out.cell 4)
  have q5 := later_cell (v := .int .u32 167772161) (B := w.heap.size + 1) (w0 := W0) (p := ⟨B, 5, none⟩) (by simp; omega) (K0.out.cell 5)
  have q6 := later_cell (v := .int .u8 2) (B := w.heap.size + 1) (w0 := W0) (p := ⟨B, 6, none⟩) (by simp; omega) (K0.out.cell 6)
  have q7 := later_cell (v := .int .u16 10) (B := w.heap.size + 1) (w0 := W0) (p := ⟨B, 7, none⟩) (by simp; omega) (K0.out.cell 7)
  have q8 := later_cell (v := .int .u32 40) (B := w.heap.size + 1) (w0 := W0) (p := ⟨B, 8, none⟩) (by simp; omega) (K0.out.cell 8)
  have q9 := later_cell (v := .int .u16 0) (B := w.heap.size + 1) (w0 := W0) (p := ⟨B, 9, none⟩) (by simp; omega) (K0.out.cell 9)
  have q10 := later_cell (v := .int .u8 1) (B := w.heap.size + 1) (w0 := W0) (p := ⟨B, 10, none⟩) (by simp; omega) (K0.out.cell 10)
  have q11 := later_cell (v := .bool false) (B := w.heap.size + 1) (w0 := W0) (p := ⟨B, 11, none⟩) (by simp; omega) (K0.out.cell 11)
  have q12 := later_cell (v := .bool false) (B := w.heap.size + 1) (w0 := W0) (p := ⟨B, 12, none⟩) (by simp; omega) (K0.out.cell 12)
  have q13 := later_cell (v := .slice none 0 0) (B := w.heap.size + 1) (w0 := W0) (p := ⟨B, 13, none⟩) (by simp; omega) (K0.out.cell 13)
  have q14 := later_cell (v := .int .u32 0) (B := w.heap.size + 1) (w0 := W0) (p := ⟨B, 14, none⟩) (by simp; omega) (K0.out.cell 14)
  have q15 := later_cell (v := .int .u8 2) (B := w.heap.size + 1) (w0 := W0) (p := ⟨B, 15, none⟩) (by simp; omega) (K0.out.cell 15)
  have q22 := later_cell (v := l) (B := w.heap.size + 1) (w0 := W0) (p := ⟨B, 22, none⟩) (by simp; omega) (K0.out.cell 22)
  have r0 := later_cell (v := .int .u32 4294967040) (B := w.heap.size + 1) (w0 := W0) (p := ⟨w.heap.size, 0, none⟩) (by simp) (H0.out.cell 0)
  have r1 := later_cell (v := .int .u16 9) (B := w.heap.size + 1) (w0 := W0) (p := ⟨w.heap.size, 1, none⟩) (by simp) (H0.out.cell 1)
  have r2 := later_cell (v := .int .u8 2) (B := w.heap.size + 1) (w0 := W0) (p := ⟨w.heap.size, 2, none⟩) (by simp) (H0.out.cell 2)
  have r4 := later_cell (v := .int .u32 40) (B := w.heap.size + 1) (w0 := W0) (p := ⟨w.heap.size, 4, none⟩) (by simp) (H0.out.cell 4)
  have d1 : Hid (∀ u : Later (w.heap.size + 1) W0, Calls Try.prog 107 #[.pointer (some ⟨B, 0, none⟩)] u.to fun e w' => e = .returned (.int .u32 4294967040) ∧ Below u.to.heap.size u.to w') := Lib.hid (fun u => (mask_lk u.to B _ (K0.out.below u.ok (by omega)) rfl rfl).mono fun _ _ h => ⟨h.1, h.2 ▸ Below.refl _ _⟩)
  have d2 : Hid (∀ u : Later (w.heap.size + 1) W0, Calls Try.prog 66 #[.agg #[.int .u32 167772160, .int .u8 24], .int .u32 167772162] u.to fun e w' => e = .returned (.bool true) ∧ Below u.to.heap.size u.to w') := Lib.hid (fun u => has24 167772162 u.to and2)
  have d3 : Hid (∀ u : Later (w.heap.size + 1) W0, Calls Try.prog 63 #[.agg #[.int .u8 0, .int .u32 1, .int .u32 167772160, .int .u8 24, .int .u32 167772161, .int .u8 2, .int .u16 10, .int .u32 40, .int .u16 0, .int .u8 1, .bool false, .bool false, .slice none 0 0, .int .u32 0]] u.to fun e w' => e = .returned (.bool false) ∧ Below u.to.heap.size u.to w') := Lib.hid (fun u => HP.out u.to)
  refine wp_region_later_table (B := w.heap.size + 1) (w0 := W0) 137 tabMay (by kernel_rfl) (by kernel_rfl) (by kernel_rfl) chkMay (of_decide_eq_true (by kernel_rfl)) (Below.refl _ _) ?_
  simp only [List.take_succ_cons, List.take_zero, List.drop_succ_cons, List.drop_zero]
  repeat (go_big_quiet_step (first
    | (go_at_call 107; with_reducible exact later_call _ (by omega) (d1.out _))
    | (go_at_call 66; with_reducible exact later_call _ (by omega) (d2.out _))
    | (go_at_call 63; with_reducible exact later_call _ (by omega) (d3.out _))))
  refine wpQuiet_nil ?_
  rintro wx ⟨⟨wy, hwy⟩, hwe⟩
  obtain rfl : wx = wy := hwe
  have hbx : Hid (Below w.heap.size w wx) := Lib.hid (B0.out.trans (hwy.mono (by omega)))
  clear q1 q2 q3 q4 q5 q6 q7 q8 q9 q10 q11 q12 q13 q14 q15 q22 r0 r1 r2 r4
  clear d1 d2 d3 hwy
  go_wp2_with fail
  obtain ⟨X, hX⟩ : ∃ X, X = wx.heap.size := ⟨_, rfl⟩
  obtain ⟨V0, hV0⟩ : ∃ V0, V0 = wx.alloc (.cells #[.bool false, .int .i64 45, .bool true, .int .i64 43, .bool false, .int .i64 42, .bool false, .int .i64 44, .bool false, .int .i64 41, .bool false, .int .i64 41, .bool false, .int .i64 46, .bool false, .int .i64 46, .bool false, .int .i64 47] 173) := ⟨_, rfl⟩
  have KX0 : Hid (Blk V0 X 173 #[.bool false, .int .i64 45, .bool true, .int .i64 43, .bool false, .int .i64 42, .bool false, .int .i64 44, .bool false, .int .i64 41, .bool false, .int .i64 41, .bool false, .int .i64 46, .bool false, .int .i64 46, .bool false, .int .i64 47]) := Lib.hid (by rw [hV0, hX]; exact Blk.new wx _ _)
  have BX0 : Hid (Below w.heap.size w V0) := Lib.hid (by rw [hV0]; exact hbx.out.alloc hbx.out.size _)
  rw [← hV0, ← hX]
  clear hV0 hX
  refine wp_loop_rounds 2 ?_
  rw [rounds_succ]
  have f0 : V0.cell? ⟨X, 0, none⟩ = some (.bool false) := KX0.out.cell 0
  have f1 : V0.cell? ⟨X, 1, none⟩ = some (.int .i64 45) := KX0.out.cell 1
  go_wp2_with fail
  obtain ⟨V1, hV⟩ : ∃ V, V = V0.alloc (.cells #[.bool false, .int .i64 45] 173) := ⟨_, rfl⟩
  have KX1 := Lib.hid (hV ▸ KX0.out.alloc (.cells #[.bool false, .int .i64 45] 173))
  have BX1 := Lib.hid (hV ▸ BX0.out.alloc BX0.out.size (.cells #[.bool false, .int .i64 45] 173))
  rw [← hV]
  clear hV f0 f1
  rw [rounds_succ]
  have f0 : V1.cell? ⟨X, 2, none⟩ = some (.bool true) := KX1.out.cell 2
  have f1 : V1.cell? ⟨X, 3, none⟩ = some (.int .i64 43) := KX1.out.cell 3
  go_wp2_with fail
  go_ret
  exact ⟨rfl, (BX1.out.alloc BX1.out.size _)⟩
end Go.Proofs.Ytgbmhijgpdgdbaa
