/- May of a link that is down or quiet: whatever its config, whatever is heard: ErrState. -/
import Derived.Test.YtgbmhijgpdgdbaaQuiet13
import Derived.Test.YtgbmhijgpdgdbaaMay13b
namespace Go.Proofs.Ytgbmhijgpdgdbaa
open Go.RowKit

theorem frame_of {F : (Nat → Value) → Act} {T : Array Value} (h : F (fun i => T.toList.getD i undef) = { tmps := T, defers := [] }) : ∃ u : Nat → Value, ({ tmps := T, defers := [] } : Act) = F u := ⟨_, h.symm⟩

theorem wpQuiet_cut {P : Program} {ops : Array Oper} {C : World → Prop} {R Q : Act → Prop} (l : List Oper) : ∀ (k : Nat) (a : Act), wpQuiet P ops C R (l.take k) a → (∀ a', R a' → wpQuiet P ops C Q (l.drop k) a') → wpQuiet P ops C Q l a := by
  induction l with
  | nil => intro k a h1 h2; simpa using h2 a (by simpa [wpQuiet] using h1)
  | cons o l ih =>
    intro k a h1 h2
    cases k with
    | zero => exact h2 a (by simpa [wpQuiet] using h1)
    | succ k =>
      simp only [List.take_succ_cons, List.drop_succ_cons] at h1 h2
      unfold wpQuiet at h1 ⊢
      split
      · rename_i hw
        rw [if_pos hw] at h1
        exact Oper.quiet_mono (fun a' h' => ih k a' h' h2) h1
      · rename_i hw
        rw [if_neg hw] at h1
        exact ih k _ h1 h2

set_option maxHeartbeats 400000 in
theorem mask_lks (w : World) (B : Nat) (c : LC) (cs : Array Value) (k : Blk w B 119 cs) (h1 : cs[1]? = some (.int .u8 c.ty)) (h4 : cs[4]? = some (.int .u8 c.nb)) (ht : c.ty < 3) (hn0 : 0 ≤ c.nb) (hn1 : c.nb ≤ 32) : Calls Try.prog 107 #[.pointer (some ⟨B, 0, none⟩)] w fun e w' => e = .returned (.int .u32 (maskN c.nb.toNat)) ∧ w = w' := by
  have c1 : w.cell? ⟨B, 1, none⟩ = some (.int .u8 c.ty) := (k.cell 1).trans h1
  have c4 : w.cell? ⟨B, 4, none⟩ = some (.int .u8 c.nb) := (k.cell 4).trans h4
  have h5 : (c.ty == 4) = false := by simp; omega
  clear k
  go_enter Try.func107, Try.ntmps107
  go_wp2_with (go_at_call 102; refine (mask_any _ _ hn0 hn1).mono ?_; rintro e w' ⟨rfl, rfl⟩)
  go_ret
  exact ⟨rfl, rfl⟩

set_option maxHeartbeats 16000000 in
set_option maxRecDepth 40000 in
theorem may_quiet (w : World) (B : Nat) (c : LC) (st dr bd wt nx po re : Int) (f r hm hv ho hp hd hr hb : Int) (nb : Value) (k : Blk w B 119 (lks c st dr bd wt nx po re (.slice none 0 0))) (hst : st = 0 ∨ st = 1) (hn0 : 0 ≤ c.nb) (hn1 : c.nb ≤ 32) (hnet : bits .and .u32 c.na (maskN c.nb.toNat) = c.na) (_hpe : ∃ A n k, c.pe = .slice A n k) :
    Calls Try.prog 70 #[.pointer (some ⟨B, 0, none⟩), .int .u32 f, .int .u32 r, .agg #[.int .u32 hm, .int .u16 hv, .int .u8 ho, .int .u8 hp, .int .u32 hd, .int .u32 hr, .int .u32 hb, nb]] w fun e w' => e = .returned (.int .i64 45) ∧ Below w.heap.size w w' := by
  have HPe := Lib.hid peers_any
  have HNet := Lib.hid hnet
  have K := Lib.hid k
  have hlt : B < w.heap.size := k.lt
  clear k hnet
  go_enter Try.func70, Try.ntmps70
  go_upto_region 1 with fail
  obtain ⟨W0, hW0⟩ : ∃ W0, W0 = w.alloc (.cells #[.int .u32 hm, .int .u16 hv, .int .u8 ho, .int .u8 hp, .int .u32 hd, .int .u32 hr, .int .u32 hb, nb] 90) := ⟨_, rfl⟩
  have K0 : Hid (Blk W0 B 119 (lks c st dr bd wt nx po re (.slice none 0 0))) := Lib.hid (by rw [hW0]; exact K.out.alloc _)
  have H0 : Hid (Blk W0 w.heap.size 90 #[.int .u32 hm, .int .u16 hv, .int .u8 ho, .int .u8 hp, .int .u32 hd, .int .u32 hr, .int .u32 hb, nb]) := Lib.hid (by rw [hW0]; exact Blk.new w _ _)
  have B0 : Hid (Below w.heap.size w W0) := Lib.hid (by rw [hW0]; exact (Below.refl _ w).alloc (Nat.le_refl _) _)
  have hs0 : w.heap.size < W0.heap.size := H0.out.lt
  rw [← hW0]
  clear hW0
  go_wp2_with (go_at_call 71; refine (find_nil _ B _ _ _ K0.out rfl).mono ?_; rintro e w' ⟨rfl, rfl⟩)
  dsimp only [List.append]
  have z1 := later_cell (v := .int .u8 c.ty) (B := w.heap.size + 1) (w0 := W0) (p := ⟨B, 1, none⟩) (by simp; omega) (K0.out.cell 1)
  have z2 := later_cell (v := .int .u32 c.ro) (B := w.heap.size + 1) (w0 := W0) (p := ⟨B, 2, none⟩) (by simp; omega) (K0.out.cell 2)
  have z3 := later_cell (v := .int .u32 c.na) (B := w.heap.size + 1) (w0 := W0) (p := ⟨B, 3, none⟩) (by simp; omega) (K0.out.cell 3)
  have z4 := later_cell (v := .int .u8 c.nb) (B := w.heap.size + 1) (w0 := W0) (p := ⟨B, 4, none⟩) (by simp; omega) (K0.out.cell 4)
  have z5 := later_cell (v := .int .u32 c.ad) (B := w.heap.size + 1) (w0 := W0) (p := ⟨B, 5, none⟩) (by simp; omega) (K0.out.cell 5)
  have z6 := later_cell (v := .int .u8 c.op) (B := w.heap.size + 1) (w0 := W0) (p := ⟨B, 6, none⟩) (by simp; omega) (K0.out.cell 6)
  have z7 := later_cell (v := .int .u16 c.hi) (B := w.heap.size + 1) (w0 := W0) (p := ⟨B, 7, none⟩) (by simp; omega) (K0.out.cell 7)
  have z8 := later_cell (v := .int .u32 c.dd) (B := w.heap.size + 1) (w0 := W0) (p := ⟨B, 8, none⟩) (by simp; omega) (K0.out.cell 8)
  have z9 := later_cell (v := .int .u16 c.po) (B := w.heap.size + 1) (w0 := W0) (p := ⟨B, 9, none⟩) (by simp; omega) (K0.out.cell 9)
  have z10 := later_cell (v := .int .u8 c.pr) (B := w.heap.size + 1) (w0 := W0) (p := ⟨B, 10, none⟩) (by simp; omega) (K0.out.cell 10)
  have z11 := later_cell (v := .bool c.dm) (B := w.heap.size + 1) (w0 := W0) (p := ⟨B, 11, none⟩) (by simp; omega) (K0.out.cell 11)
  have z12 := later_cell (v := .bool c.ps) (B := w.heap.size + 1) (w0 := W0) (p := ⟨B, 12, none⟩) (by simp; omega) (K0.out.cell 12)
  have z13 := later_cell (v := c.pe) (B := w.heap.size + 1) (w0 := W0) (p := ⟨B, 13, none⟩) (by simp; omega) (K0.out.cell 13)
  have z14 := later_cell (v := .int .u32 c.rm) (B := w.heap.size + 1) (w0 := W0) (p := ⟨B, 14, none⟩) (by simp; omega) (K0.out.cell 14)
  have z15 := later_cell (v := .int .u8 st) (B := w.heap.size + 1) (w0 := W0) (p := ⟨B, 15, none⟩) (by simp; omega) (K0.out.cell 15)
  have z22 := later_cell (v := .slice none 0 0) (B := w.heap.size + 1) (w0 := W0) (p := ⟨B, 22, none⟩) (by simp; omega) (K0.out.cell 22)
  have y0 := later_cell (v := .int .u32 hm) (B := w.heap.size + 1) (w0 := W0) (p := ⟨w.heap.size, 0, none⟩) (by simp) (H0.out.cell 0)
  have y1 := later_cell (v := .int .u16 hv) (B := w.heap.size + 1) (w0 := W0) (p := ⟨w.heap.size, 1, none⟩) (by simp) (H0.out.cell 1)
  have y2 := later_cell (v := .int .u8 ho) (B := w.heap.size + 1) (w0 := W0) (p := ⟨w.heap.size, 2, none⟩) (by simp) (H0.out.cell 2)
  have y4 := later_cell (v := .int .u32 hd) (B := w.heap.size + 1) (w0 := W0) (p := ⟨w.heap.size, 4, none⟩) (by simp) (H0.out.cell 4)
  have d1 : c.ty < 3 → Hid (∀ u : Later (w.heap.size + 1) W0, Calls Try.prog 107 #[.pointer (some ⟨B, 0, none⟩)] u.to fun e w' => e = .returned (.int .u32 (maskN c.nb.toNat)) ∧ Below u.to.heap.size u.to w') := fun ht => Lib.hid (fun u => (mask_lks u.to B c _ (K0.out.below u.ok (by omega)) rfl rfl ht hn0 hn1).mono fun _ _ h => ⟨h.1, h.2 ▸ Below.refl _ _⟩)
  have d2 : Hid (∀ u : Later (w.heap.size + 1) W0, Calls Try.prog 66 #[.agg #[.int .u32 c.na, .int .u8 c.nb], .int .u32 f] u.to fun e w' => e = .returned (.bool (decide (bits .and .u32 f (maskN c.nb.toNat) = c.na))) ∧ Below u.to.heap.size u.to w') := Lib.hid (fun u => has_any c.na c.nb f u.to hn0 hn1 HNet.out)
  have d3 : Hid (∀ u : Later (w.heap.size + 1) W0, Calls Try.prog 63 #[.agg #[.int .u8 c.ty, .int .u32 c.ro, .int .u32 c.na, .int .u8 c.nb, .int .u32 c.ad, .int .u8 c.op, .int .u16 c.hi, .int .u32 c.dd, .int .u16 c.po, .int .u8 c.pr, .bool c.dm, .bool c.ps, c.pe, .int .u32 c.rm]] u.to fun e w' => e = .returned (.bool c.peers) ∧ Below u.to.heap.size u.to w') := Lib.hid (fun u => HPe.out c u.to)
  refine wp_region_later_table (B := w.heap.size + 1) (w0 := W0) 137 tabMay (by kernel_rfl) (by kernel_rfl) (by kernel_rfl) chkMay (of_decide_eq_true (by kernel_rfl)) (Below.refl _ _) ?_
  simp only [List.take_succ_cons, List.take_zero, List.drop_succ_cons, List.drop_zero]
  refine wpQuiet_cut _ 6 (R := fun a' : Act => ∃ u : Nat → Value, a' = { tmps := #[.pointer (some ⟨B, 0, none⟩), .int .u32 f, .int .u32 r, u 3, u 4, u 5, u 6, .pointer (some ⟨w.heap.size, 0, none⟩), .int .i64 0, .int .i64 (-1), u 10, u 11, u 12, u 13, u 14, u 15, u 16, u 17, u 18, u 19, u 20, u 21, .agg #[.bool true, .int .i64 45], u 23, u 24, u 25, u 26, u 27, u 28, u 29, u 30, u 31, u 32, u 33, u 34, u 35, u 36, u 37, u 38, u 39, u 40, u 41, u 42, u 43, u 44, u 45, u 46, u 47, u 48, u 49, u 50, u 51, u 52, u 53, u 54, u 55, u 56, u 57, u 58, u 59, u 60, u 61, u 62, u 63, u 64, u 65, u 66, u 67, u 68, u 69, u 70, u 71, u 72, u 73, u 74, u 75, u 76, u 77, u 78, u 79, u 80, u 81, u 82, u 83, u 84, u 85, u 86, u 87, u 88, u 89, u 90, u 91, u 92, u 93, u 94, u 95, u 96, u 97, u 98, u 99, u 100, u 101, u 102, u 103, u 104, u 105, u 106, u 107, u 108, u 109, u 110, u 111, u 112, u 113, u 114, u 115, u 116, u 117, u 118, u 119, u 120, u 121, u 122, u 123, u 124, u 125, u 126, u 127, u 128, u 129, u 130, u 131, u 132, u 133, u 134, u 135, u 136, u 137, u 138, u 139, u 140, u 141, u 142, u 143, u 144, u 145, u 146, u 147, u 148, u 149, u 150, u 151, u 152, u 153, u 154, u 155, u 156, u 157, u 158, u 159, u 160, u 161, u 162, u 163, u 164, u 165], defers := [] }) _ ?_ ?_
  · simp only [List.take_succ_cons, List.take_zero]
    rcases hst with rfl | rfl
    all_goals
      repeat (go_big_quiet_step (first
        | (go_at_call 107; with_reducible exact later_call _ (by omega) ((d1 (by assumption)).out _))
        | (go_at_call 66; with_reducible exact later_call _ (by omega) (d2.out _))
        | (go_at_call 63; with_reducible exact later_call _ (by omega) (d3.out _))))
      refine wpQuiet_nil ?_
      exact frame_of rfl
  simp only [List.drop_succ_cons, List.drop_zero]
  rintro a' ⟨u, rfl⟩
  refine wpQuiet_cut _ 19 (R := fun a' : Act => ∃ (q1 : Bool), ∃ u : Nat → Value, a' = { tmps := #[.pointer (some ⟨B, 0, none⟩), .int .u32 f, .int .u32 r, u 3, u 4, u 5, u 6, .pointer (some ⟨w.heap.size, 0, none⟩), .int .i64 0, .int .i64 (-1), u 10, u 11, u 12, u 13, u 14, u 15, u 16, u 17, u 18, u 19, u 20, u 21, .agg #[.bool true, .int .i64 45], u 23, u 24, u 25, u 26, u 27, u 28, u 29, u 30, u 31, u 32, u 33, u 34, u 35, u 36, u 37, u 38, u 39, u 40, .agg #[.bool q1, .int .i64 43], u 42, u 43, u 44, u 45, u 46, u 47, u 48, u 49, u 50, u 51, u 52, u 53, u 54, u 55, u 56, u 57, u 58, u 59, u 60, u 61, u 62, u 63, u 64, u 65, u 66, u 67, u 68, u 69, u 70, u 71, u 72, u 73, u 74, u 75, u 76, u 77, u 78, u 79, u 80, u 81, u 82, u 83, u 84, u 85, u 86, u 87, u 88, u 89, u 90, u 91, u 92, u 93, u 94, u 95, u 96, u 97, u 98, u 99, u 100, u 101, u 102, u 103, u 104, u 105, u 106, u 107, u 108, u 109, u 110, u 111, u 112, u 113, u 114, u 115, u 116, u 117, u 118, u 119, u 120, u 121, u 122, u 123, u 124, u 125, u 126, u 127, u 128, u 129, u 130, u 131, u 132, u 133, u 134, u 135, u 136, u 137, u 138, u 139, u 140, u 141, u 142, u 143, u 144, u 145, u 146, u 147, u 148, u 149, u 150, u 151, u 152, u 153, u 154, u 155, u 156, u 157, u 158, u 159, u 160, u 161, u 162, u 163, u 164, u 165], defers := [] }) _ ?_ ?_
  · simp only [List.take_succ_cons, List.take_zero]
    rcases Bool.eq_false_or_eq_true (hv != c.hi) with s1 | s1
    all_goals
      repeat (go_big_quiet_step (first
        | (go_at_call 107; with_reducible exact later_call _ (by omega) ((d1 (by assumption)).out _))
        | (go_at_call 66; with_reducible exact later_call _ (by omega) (d2.out _))
        | (go_at_call 63; with_reducible exact later_call _ (by omega) (d3.out _))))
      refine wpQuiet_nil ?_
      exact ⟨_, frame_of rfl⟩
  simp only [List.drop_succ_cons, List.drop_zero]
  rintro a' ⟨q1, u, rfl⟩
  refine wpQuiet_cut _ 14 (R := fun a' : Act => ∃ (q1 q2 : Bool), ∃ u : Nat → Value, a' = { tmps := #[.pointer (some ⟨B, 0, none⟩), .int .u32 f, .int .u32 r, u 3, u 4, u 5, u 6, .pointer (some ⟨w.heap.size, 0, none⟩), .int .i64 0, .int .i64 (-1), u 10, u 11, u 12, u 13, u 14, u 15, u 16, u 17, u 18, u 19, u 20, u 21, .agg #[.bool true, .int .i64 45], u 23, u 24, u 25, u 26, u 27, u 28, u 29, u 30, u 31, u 32, u 33, u 34, u 35, u 36, u 37, u 38, u 39, u 40, .agg #[.bool q1, .int .i64 43], u 42, u 43, u 44, u 45, u 46, u 47, u 48, u 49, u 50, u 51, u 52, u 53, u 54, .agg #[.bool q2, .int .i64 42], u 56, u 57, u 58, u 59, u 60, u 61, u 62, u 63, u 64, u 65, u 66, u 67, u 68, u 69, u 70, u 71, u 72, u 73, u 74, u 75, u 76, u 77, u 78, u 79, u 80, u 81, u 82, u 83, u 84, u 85, u 86, u 87, u 88, u 89, u 90, u 91, u 92, u 93, u 94, u 95, u 96, u 97, u 98, u 99, u 100, u 101, u 102, u 103, u 104, u 105, u 106, u 107, u 108, u 109, u 110, u 111, u 112, u 113, u 114, u 115, u 116, u 117, u 118, u 119, u 120, u 121, u 122, u 123, u 124, u 125, u 126, u 127, u 128, u 129, u 130, u 131, u 132, u 133, u 134, u 135, u 136, u 137, u 138, u 139, u 140, u 141, u 142, u 143, u 144, u 145, u 146, u 147, u 148, u 149, u 150, u 151, u 152, u 153, u 154, u 155, u 156, u 157, u 158, u 159, u 160, u 161, u 162, u 163, u 164, u 165], defers := [] }) _ ?_ ?_
  · simp only [List.take_succ_cons, List.take_zero]
    by_cases s1 : c.ty < 3
    all_goals
      repeat (go_big_quiet_step (first
        | (go_at_call 107; with_reducible exact later_call _ (by omega) ((d1 (by assumption)).out _))
        | (go_at_call 66; with_reducible exact later_call _ (by omega) (d2.out _))
        | (go_at_call 63; with_reducible exact later_call _ (by omega) (d3.out _))))
      refine wpQuiet_nil ?_
      exact ⟨_, _, frame_of rfl⟩
  simp only [List.drop_succ_cons, List.drop_zero]
  rintro a' ⟨q1, q2, u, rfl⟩
  refine wpQuiet_cut _ 11 (R := fun a' : Act => ∃ (q1 q2 q3 : Bool), ∃ u : Nat → Value, a' = { tmps := #[.pointer (some ⟨B, 0, none⟩), .int .u32 f, .int .u32 r, u 3, u 4, u 5, u 6, .pointer (some ⟨w.heap.size, 0, none⟩), .int .i64 0, .int .i64 (-1), u 10, u 11, u 12, u 13, u 14, u 15, u 16, u 17, u 18, u 19, u 20, u 21, .agg #[.bool true, .int .i64 45], u 23, u 24, u 25, u 26, u 27, u 28, u 29, u 30, u 31, u 32, u 33, u 34, u 35, u 36, u 37, u 38, u 39, u 40, .agg #[.bool q1, .int .i64 43], u 42, u 43, u 44, u 45, u 46, u 47, u 48, u 49, u 50, u 51, u 52, u 53, u 54, .agg #[.bool q2, .int .i64 42], u 56, u 57, u 58, u 59, u 60, u 61, u 62, u 63, u 64, u 65, .agg #[.bool q3, .int .i64 44], u 67, u 68, u 69, u 70, u 71, u 72, u 73, u 74, u 75, u 76, u 77, u 78, u 79, u 80, u 81, u 82, u 83, u 84, u 85, u 86, u 87, u 88, u 89, u 90, u 91, u 92, u 93, u 94, u 95, u 96, u 97, u 98, u 99, u 100, u 101, u 102, u 103, u 104, u 105, u 106, u 107, u 108, u 109, u 110, u 111, u 112, u 113, u 114, u 115, u 116, u 117, u 118, u 119, u 120, u 121, u 122, u 123, u 124, u 125, u 126, u 127, u 128, u 129, u 130, u 131, u 132, u 133, u 134, u 135, u 136, u 137, u 138, u 139, u 140, u 141, u 142, u 143, u 144, u 145, u 146, u 147, u 148, u 149, u 150, u 151, u 152, u 153, u 154, u 155, u 156, u 157, u 158, u 159, u 160, u 161, u 162, u 163, u 164, u 165], defers := [] }) _ ?_ ?_
  · simp only [List.take_succ_cons, List.take_zero]
    all_goals
      repeat (go_big_quiet_step (first
        | (go_at_call 107; with_reducible exact later_call _ (by omega) ((d1 (by assumption)).out _))
        | (go_at_call 66; with_reducible exact later_call _ (by omega) (d2.out _))
        | (go_at_call 63; with_reducible exact later_call _ (by omega) (d3.out _))))
      refine wpQuiet_nil ?_
      exact ⟨_, _, _, frame_of rfl⟩
  simp only [List.drop_succ_cons, List.drop_zero]
  rintro a' ⟨q1, q2, q3, u, rfl⟩
  refine wpQuiet_cut _ 25 (R := fun a' : Act => ∃ (q1 q2 q3 q4 : Bool), ∃ u : Nat → Value, a' = { tmps := #[.pointer (some ⟨B, 0, none⟩), .int .u32 f, .int .u32 r, u 3, u 4, u 5, u 6, .pointer (some ⟨w.heap.size, 0, none⟩), .int .i64 0, .int .i64 (-1), u 10, u 11, u 12, u 13, u 14, u 15, u 16, u 17, u 18, u 19, u 20, u 21, .agg #[.bool true, .int .i64 45], u 23, u 24, u 25, u 26, u 27, u 28, u 29, u 30, u 31, u 32, u 33, u 34, u 35, u 36, u 37, u 38, u 39, u 40, .agg #[.bool q1, .int .i64 43], u 42, u 43, u 44, u 45, u 46, u 47, u 48, u 49, u 50, u 51, u 52, u 53, u 54, .agg #[.bool q2, .int .i64 42], u 56, u 57, u 58, u 59, u 60, u 61, u 62, u 63, u 64, u 65, .agg #[.bool q3, .int .i64 44], u 67, u 68, u 69, u 70, u 71, u 72, u 73, u 74, u 75, u 76, u 77, u 78, u 79, u 80, u 81, u 82, u 83, u 84, u 85, u 86, u 87, u 88, u 89, u 90, .agg #[.bool q4, .int .i64 41], u 92, u 93, u 94, u 95, u 96, u 97, u 98, u 99, u 100, u 101, u 102, u 103, u 104, u 105, u 106, u 107, u 108, u 109, u 110, u 111, u 112, u 113, u 114, u 115, u 116, u 117, u 118, u 119, u 120, u 121, u 122, u 123, u 124, u 125, u 126, u 127, u 128, u 129, u 130, u 131, u 132, u 133, u 134, u 135, u 136, u 137, u 138, u 139, u 140, u 141, u 142, u 143, u 144, u 145, u 146, u 147, u 148, u 149, u 150, u 151, u 152, u 153, u 154, u 155, u 156, u 157, u 158, u 159, u 160, u 161, u 162, u 163, u 164, u 165], defers := [] }) _ ?_ ?_
  · simp only [List.take_succ_cons, List.take_zero]
    rcases Bool.eq_false_or_eq_true (r == 0) with s1 | s1 <;> rcases Bool.eq_false_or_eq_true (r == c.ro) with s2 | s2 <;> rcases Bool.eq_false_or_eq_true (f == 0) with s3 | s3
    all_goals
      repeat (go_big_quiet_step (first
        | (go_at_call 107; with_reducible exact later_call _ (by omega) ((d1 (by assumption)).out _))
        | (go_at_call 66; with_reducible exact later_call _ (by omega) (d2.out _))
        | (go_at_call 63; with_reducible exact later_call _ (by omega) (d3.out _))))
      refine wpQuiet_nil ?_
      exact ⟨_, _, _, _, frame_of rfl⟩
  simp only [List.drop_succ_cons, List.drop_zero]
  rintro a' ⟨q1, q2, q3, q4, u, rfl⟩
  refine wpQuiet_cut _ 17 (R := fun a' : Act => ∃ (q1 q2 q3 q4 q5 : Bool), ∃ u : Nat → Value, a' = { tmps := #[.pointer (some ⟨B, 0, none⟩), .int .u32 f, .int .u32 r, u 3, u 4, u 5, u 6, .pointer (some ⟨w.heap.size, 0, none⟩), .int .i64 0, .int .i64 (-1), u 10, u 11, u 12, u 13, u 14, u 15, u 16, u 17, u 18, u 19, u 20, u 21, .agg #[.bool true, .int .i64 45], u 23, u 24, u 25, u 26, u 27, u 28, u 29, u 30, u 31, u 32, u 33, u 34, u 35, u 36, u 37, u 38, u 39, u 40, .agg #[.bool q1, .int .i64 43], u 42, u 43, u 44, u 45, u 46, u 47, u 48, u 49, u 50, u 51, u 52, u 53, u 54, .agg #[.bool q2, .int .i64 42], u 56, u 57, u 58, u 59, u 60, u 61, u 62, u 63, u 64, u 65, .agg #[.bool q3, .int .i64 44], u 67, u 68, u 69, u 70, u 71, u 72, u 73, u 74, u 75, u 76, u 77, u 78, u 79, u 80, u 81, u 82, u 83, u 84, u 85, u 86, u 87, u 88, u 89, u 90, .agg #[.bool q4, .int .i64 41], u 92, u 93, u 94, u 95, u 96, u 97, u 98, u 99, u 100, u 101, u 102, u 103, u 104, u 105, u 106, u 107, .agg #[.bool q5, .int .i64 41], u 109, u 110, u 111, u 112, u 113, u 114, u 115, u 116, u 117, u 118, u 119, u 120, u 121, u 122, u 123, u 124, u 125, u 126, u 127, u 128, u 129, u 130, u 131, u 132, u 133, u 134, u 135, u 136, u 137, u 138, u 139, u 140, u 141, u 142, u 143, u 144, u 145, u 146, u 147, u 148, u 149, u 150, u 151, u 152, u 153, u 154, u 155, u 156, u 157, u 158, u 159, u 160, u 161, u 162, u 163, u 164, u 165], defers := [] }) _ ?_ ?_
  · simp only [List.take_succ_cons, List.take_zero]
    rcases Bool.eq_false_or_eq_true (c.ty == 0) with s1 | s1
    all_goals
      repeat (go_big_quiet_step (first
        | (go_at_call 107; with_reducible exact later_call _ (by omega) ((d1 (by assumption)).out _))
        | (go_at_call 66; with_reducible exact later_call _ (by omega) (d2.out _))
        | (go_at_call 63; with_reducible exact later_call _ (by omega) (d3.out _))))
      refine wpQuiet_nil ?_
      exact ⟨_, _, _, _, _, frame_of rfl⟩
  simp only [List.drop_succ_cons, List.drop_zero]
  rintro a' ⟨q1, q2, q3, q4, q5, u, rfl⟩
  refine wpQuiet_cut _ 16 (R := fun a' : Act => ∃ (q1 q2 q3 q4 q5 q6 : Bool), ∃ u : Nat → Value, a' = { tmps := #[.pointer (some ⟨B, 0, none⟩), .int .u32 f, .int .u32 r, u 3, u 4, u 5, u 6, .pointer (some ⟨w.heap.size, 0, none⟩), .int .i64 0, .int .i64 (-1), u 10, u 11, u 12, u 13, u 14, u 15, u 16, u 17, u 18, u 19, u 20, u 21, .agg #[.bool true, .int .i64 45], u 23, u 24, u 25, u 26, u 27, u 28, u 29, u 30, u 31, u 32, u 33, u 34, u 35, u 36, u 37, u 38, u 39, u 40, .agg #[.bool q1, .int .i64 43], u 42, u 43, u 44, u 45, u 46, u 47, u 48, u 49, u 50, u 51, u 52, u 53, u 54, .agg #[.bool q2, .int .i64 42], u 56, u 57, u 58, u 59, u 60, u 61, u 62, u 63, u 64, u 65, .agg #[.bool q3, .int .i64 44], u 67, u 68, u 69, u 70, u 71, u 72, u 73, u 74, u 75, u 76, u 77, u 78, u 79, u 80, u 81, u 82, u 83, u 84, u 85, u 86, u 87, u 88, u 89, u 90, .agg #[.bool q4, .int .i64 41], u 92, u 93, u 94, u 95, u 96, u 97, u 98, u 99, u 100, u 101, u 102, u 103, u 104, u 105, u 106, u 107, .agg #[.bool q5, .int .i64 41], u 109, u 110, u 111, u 112, u 113, u 114, u 115, u 116, u 117, u 118, u 119, u 120, u 121, u 122, u 123, .agg #[.bool q6, .int .i64 46], u 125, u 126, u 127, u 128, u 129, u 130, u 131, u 132, u 133, u 134, u 135, u 136, u 137, u 138, u 139, u 140, u 141, u 142, u 143, u 144, u 145, u 146, u 147, u 148, u 149, u 150, u 151, u 152, u 153, u 154, u 155, u 156, u 157, u 158, u 159, u 160, u 161, u 162, u 163, u 164, u 165], defers := [] }) _ ?_ ?_
  · simp only [List.take_succ_cons, List.take_zero]
    rcases Bool.eq_false_or_eq_true (c.ty == 4) with s1 | s1
    all_goals
      repeat (go_big_quiet_step (first
        | (go_at_call 107; with_reducible exact later_call _ (by omega) ((d1 (by assumption)).out _))
        | (go_at_call 66; with_reducible exact later_call _ (by omega) (d2.out _))
        | (go_at_call 63; with_reducible exact later_call _ (by omega) (d3.out _))))
      refine wpQuiet_nil ?_
      exact ⟨_, _, _, _, _, _, frame_of rfl⟩
  simp only [List.drop_succ_cons, List.drop_zero]
  rintro a' ⟨q1, q2, q3, q4, q5, q6, u, rfl⟩
  refine wpQuiet_cut _ 10 (R := fun a' : Act => ∃ (q1 q2 q3 q4 q5 q6 q7 : Bool), ∃ u : Nat → Value, a' = { tmps := #[.pointer (some ⟨B, 0, none⟩), .int .u32 f, .int .u32 r, u 3, u 4, u 5, u 6, .pointer (some ⟨w.heap.size, 0, none⟩), .int .i64 0, .int .i64 (-1), u 10, u 11, u 12, u 13, u 14, u 15, u 16, u 17, u 18, u 19, u 20, u 21, .agg #[.bool true, .int .i64 45], u 23, u 24, u 25, u 26, u 27, u 28, u 29, u 30, u 31, u 32, u 33, u 34, u 35, u 36, u 37, u 38, u 39, u 40, .agg #[.bool q1, .int .i64 43], u 42, u 43, u 44, u 45, u 46, u 47, u 48, u 49, u 50, u 51, u 52, u 53, u 54, .agg #[.bool q2, .int .i64 42], u 56, u 57, u 58, u 59, u 60, u 61, u 62, u 63, u 64, u 65, .agg #[.bool q3, .int .i64 44], u 67, u 68, u 69, u 70, u 71, u 72, u 73, u 74, u 75, u 76, u 77, u 78, u 79, u 80, u 81, u 82, u 83, u 84, u 85, u 86, u 87, u 88, u 89, u 90, .agg #[.bool q4, .int .i64 41], u 92, u 93, u 94, u 95, u 96, u 97, u 98, u 99, u 100, u 101, u 102, u 103, u 104, u 105, u 106, u 107, .agg #[.bool q5, .int .i64 41], u 109, u 110, u 111, u 112, u 113, u 114, u 115, u 116, u 117, u 118, u 119, u 120, u 121, u 122, u 123, .agg #[.bool q6, .int .i64 46], u 125, u 126, u 127, u 128, u 129, u 130, u 131, u 132, u 133, .agg #[.bool q7, .int .i64 46], u 135, u 136, u 137, u 138, u 139, u 140, u 141, u 142, u 143, u 144, u 145, u 146, u 147, u 148, u 149, u 150, u 151, u 152, u 153, u 154, u 155, u 156, u 157, u 158, u 159, u 160, u 161, u 162, u 163, u 164, u 165], defers := [] }) _ ?_ ?_
  · simp only [List.take_succ_cons, List.take_zero]
    rcases Bool.eq_false_or_eq_true c.peers with s1 | s1 <;> rw [s1] at d3
    all_goals
      repeat (go_big_quiet_step (first
        | (go_at_call 107; with_reducible exact later_call _ (by omega) ((d1 (by assumption)).out _))
        | (go_at_call 66; with_reducible exact later_call _ (by omega) (d2.out _))
        | (go_at_call 63; with_reducible exact later_call _ (by omega) (d3.out _))))
      refine wpQuiet_nil ?_
      exact ⟨_, _, _, _, _, _, _, frame_of rfl⟩
  simp only [List.drop_succ_cons, List.drop_zero]
  rintro a' ⟨q1, q2, q3, q4, q5, q6, q7, u, rfl⟩
  refine wpQuiet_cut _ 19 (R := fun a' : Act => ∃ (q1 q2 q3 q4 q5 q6 q7 q8 : Bool), ∃ u : Nat → Value, a' = { tmps := #[.pointer (some ⟨B, 0, none⟩), .int .u32 f, .int .u32 r, u 3, u 4, u 5, u 6, .pointer (some ⟨w.heap.size, 0, none⟩), .int .i64 0, .int .i64 (-1), u 10, u 11, u 12, u 13, u 14, u 15, u 16, u 17, u 18, u 19, u 20, u 21, .agg #[.bool true, .int .i64 45], u 23, u 24, u 25, u 26, u 27, u 28, u 29, u 30, u 31, u 32, u 33, u 34, u 35, u 36, u 37, u 38, u 39, u 40, .agg #[.bool q1, .int .i64 43], u 42, u 43, u 44, u 45, u 46, u 47, u 48, u 49, u 50, u 51, u 52, u 53, u 54, .agg #[.bool q2, .int .i64 42], u 56, u 57, u 58, u 59, u 60, u 61, u 62, u 63, u 64, u 65, .agg #[.bool q3, .int .i64 44], u 67, u 68, u 69, u 70, u 71, u 72, u 73, u 74, u 75, u 76, u 77, u 78, u 79, u 80, u 81, u 82, u 83, u 84, u 85, u 86, u 87, u 88, u 89, u 90, .agg #[.bool q4, .int .i64 41], u 92, u 93, u 94, u 95, u 96, u 97, u 98, u 99, u 100, u 101, u 102, u 103, u 104, u 105, u 106, u 107, .agg #[.bool q5, .int .i64 41], u 109, u 110, u 111, u 112, u 113, u 114, u 115, u 116, u 117, u 118, u 119, u 120, u 121, u 122, u 123, .agg #[.bool q6, .int .i64 46], u 125, u 126, u 127, u 128, u 129, u 130, u 131, u 132, u 133, .agg #[.bool q7, .int .i64 46], u 135, u 136, u 137, u 138, u 139, u 140, u 141, u 142, u 143, u 144, u 145, u 146, u 147, u 148, u 149, u 150, u 151, u 152, .agg #[.bool q8, .int .i64 47], u 154, u 155, u 156, u 157, u 158, u 159, u 160, u 161, u 162, u 163, u 164, u 165], defers := [] }) _ ?_ ?_
  · simp only [List.take_succ_cons, List.take_zero]
    rcases Bool.eq_false_or_eq_true (c.ty == 0) with s1 | s1
    all_goals
      repeat (go_big_quiet_step (first
        | (go_at_call 107; with_reducible exact later_call _ (by omega) ((d1 (by assumption)).out _))
        | (go_at_call 66; with_reducible exact later_call _ (by omega) (d2.out _))
        | (go_at_call 63; with_reducible exact later_call _ (by omega) (d3.out _))))
      refine wpQuiet_nil ?_
      exact ⟨_, _, _, _, _, _, _, _, frame_of rfl⟩
  simp only [List.drop_succ_cons, List.drop_zero]
  rintro a' ⟨q1, q2, q3, q4, q5, q6, q7, q8, u, rfl⟩
  refine wpQuiet_nil ?_
  rintro wx ⟨⟨wy, hwy⟩, hwe⟩
  obtain rfl : wx = wy := hwe
  have hbx : Hid (Below w.heap.size w wx) := Lib.hid (B0.out.trans (hwy.mono (by omega)))
  clear z1 z2 z3 z4 z5 z6 z7 z8 z9 z10 z11 z12 z13 z14 z15 z22 y0 y1 y2 y4
  clear d1 d2 d3 hwy
  go_wp2_with fail
  refine wp_loop_rounds 1 ?_
  rw [rounds_succ]
  go_wp2_with fail
  go_ret
  exact ⟨rfl, (hbx.out.alloc hbx.out.size _).alloc (by have := hbx.out.size; simp; omega) _⟩
end Go.Proofs.Ytgbmhijgpdgdbaa
