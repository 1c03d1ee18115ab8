/- The program's link: what it answers to a Hello that may be heard. -/
import Derived.Test.YtgbmhijgpdgdbaaLpPPut
import Derived.Test.YtgbmhijgpdgdbaaLpMxX
set_option maxHeartbeats 16000000
set_option maxRecDepth 40000
namespace Go.Proofs.Ytgbmhijgpdgdbaa
open Go.RowKit
def pB0 (st : Int) : Bool := decide (st ≤ 1)
def pB1 (c : LC) (h : Pl.Hel) : Bool := h.hi != c.hi || h.dd != c.dd
def pB2 (c : LC) (h : Pl.Hel) : Bool := decide (c.ty < 3) && h.ma != maskN c.nb.toNat
def pB3 (c : LC) (h : Pl.Hel) : Bool := bits .and .u8 (bits .xor .u8 h.op c.op) 10 != 0
def pB4 (c : LC) (f r : Int) : Bool := r == 0 || (r == c.ro || (f == 0 || f == c.ad))
def pB5 (c : LC) (f : Int) : Bool := c.ty == 0 && !decide (bits .and .u32 f (maskN c.nb.toNat) = c.na)
def pB6 (c : LC) (r : Int) : Bool := c.ty == 4 && r != c.rm
def pB7 (c : LC) (at_ : Int) : Bool := c.peers && decide (at_ < 0)
def pB8 (c : LC) (at_ : Int) (ln : Nat) : Bool := c.ty == 0 && (decide (at_ < 0) && decide (64 ≤ (ln : Int)))
theorem may_code (c : LC) (s : Pl.St) (f r : Int) (h : Pl.Hel) {at_ : Int} {ln : Nat} (ha : Pl.findI c f r s.l = at_) (hl : s.l.length = ln) :
    Pl.mayE c s f r h = if pB0 s.st then 45 else if pB1 c h then 43 else if pB2 c h then 42 else if pB3 c h then 44 else if pB4 c f r then 41 else if pB5 c f then 41 else if pB6 c r then 46 else if pB7 c at_ then 46 else if pB8 c at_ ln then 47 else 0 := by
  subst ha hl
  unfold Pl.mayE pB0 pB1 pB2 pB3 pB4 pB5 pB6 pB7 pB8
  have e : ∀ n : Nat, ((64 : Int) ≤ (n : Int)) = (64 ≤ n) := fun n => propext (by omega)
  simp [e]
section
variable {lo : Nat} {w : World} {B : Nat} {c : LC} {s : Pl.St} {A : Option Addr} {cap : Nat} {xs : List (Nat × Kn)}
theorem pmay_any (h : PAt lo w B c s A cap xs) (hlen : xs.length ≤ 60000) (hn0 : 0 ≤ c.nb) (hn1 : c.nb ≤ 32) (hnet : bits .and .u32 c.na (maskN c.nb.toNat) = c.na) (f r : Int) (hl : Pl.Hel) (nb : Value) :
    Calls Try.prog 70 #[.pointer (some ⟨B, 0, none⟩), .int .u32 f, .int .u32 r, .agg #[.int .u32 hl.ma, .int .u16 hl.hi, .int .u8 hl.op, .int .u8 hl.pr, .int .u32 hl.dd, .int .u32 hl.dr, .int .u32 hl.bd, nb]] w fun e w' => e = .returned (.int .i64 (Pl.mayE c s f r hl)) ∧ Below w.heap.size w w' := by
  have HPe := Lib.hid peers_any
  have HNet := Lib.hid hnet
  have K := Lib.hid h.b
  obtain ⟨at_, hat⟩ : ∃ a, Pl.findI c f r s.l = a := ⟨_, rfl⟩
  obtain ⟨ln, hln⟩ : ∃ n, xs.length = n := ⟨_, rfl⟩
  obtain ⟨st, hst⟩ : ∃ x, s.st = x := ⟨_, rfl⟩
  have HM : Hid (Pl.mayE c s f r hl = if pB0 st then 45 else if pB1 c hl then 43 else if pB2 c hl then 42 else if pB3 c hl then 44 else if pB4 c f r then 41 else if pB5 c f then 41 else if pB6 c r then 46 else if pB7 c at_ then 46 else if pB8 c at_ ln then 47 else 0) := Lib.hid (by rw [← hst]; exact may_code c s f r hl hat (by rw [← hln, h.len]))
  have HFind : Hid (∀ W, Below w.heap.size w W → Calls Try.prog 71 #[.pointer (some ⟨B, 0, none⟩), .int .u32 f, .int .u32 r] W fun e w' => e = .returned (.int .i64 at_) ∧ w' = W) := Lib.hid (fun W hW => (pfind_any (h.below hW) hlen f r).mono fun _ _ h => ⟨by rw [h.1, hat], h.2.symm⟩)
  rw [hst, hln] at K
  have hlt : B < w.heap.size := h.b.lt
  clear h hnet hlen hat hln hst
  go_enter Try.func70, Try.ntmps70
  go_upto_region 1 with fail
  obtain ⟨W0, hW0⟩ : ∃ W0, W0 = w.alloc (.cells #[.int .u32 hl.ma, .int .u16 hl.hi, .int .u8 hl.op, .int .u8 hl.pr, .int .u32 hl.dd, .int .u32 hl.dr, .int .u32 hl.bd, nb] 90) := ⟨_, rfl⟩
  have K0 : Hid (Blk W0 B 119 (lks c st s.dr s.bd s.wt s.nx s.po s.re (.slice A ln cap))) := Lib.hid (by rw [hW0]; exact K.out.alloc _)
  have H0 : Hid (Blk W0 w.heap.size 90 #[.int .u32 hl.ma, .int .u16 hl.hi, .int .u8 hl.op, .int .u8 hl.pr, .int .u32 hl.dd, .int .u32 hl.dr, .int .u32 hl.bd, nb]) := Lib.hid (by rw [hW0]; exact Blk.new w _ _)
  have B0 : Hid (Below w.heap.size w W0) := Lib.hid (by rw [hW0]; exact (Below.refl _ w).alloc (Nat.le_refl _) _)
  have hs0 : w.heap.size < W0.heap.size := H0.out.lt
  rw [← hW0]
  clear hW0
  go_wp2_with (go_at_call 71; refine (HFind.out _ B0.out).mono ?_; rintro e w' ⟨rfl, hw⟩; obtain rfl := hw.symm)
  dsimp only [List.append]
  have z1 := later_cell (v := .int .u8 c.ty) (B := w.heap.size + 1) (w0 := W0) (p := ⟨B, 1, none⟩) (by simp; omega) (K0.out.cell 1)
  have z2 := later_cell (v := .int .u32 c.ro) (B := w.heap.size + 1) (w0 := W0) (p := ⟨B, 2, none⟩) (by simp; omega) (K0.out.cell 2)
  have z3 := later_cell (v := .int .u32 c.na) (B := w.heap.size + 1) (w0 := W0) (p := ⟨B, 3, none⟩) (by simp; omega) (K0.out.cell 3)
  have z4 := later_cell (v := .int .u8 c.nb) (B := w.heap.size + 1) (w0 := W0) (p := ⟨B, 4, none⟩) (by simp; omega) (K0.out.cell 4)
  have z5 := later_cell (v := .int .u32 c.ad) (B := w.heap.size + 1) (w0 := W0) (p := ⟨B, 5, none⟩) (by simp; omega) (K0.out.cell 5)
  have z6 := later_cell (v := .int .u8 c.op) (B := w.heap.size + 1) (w0 := W0) (p := ⟨B, 6, none⟩) (by simp; omega) (K0.out.cell 6)
  have z7 := later_cell (v := .int .u16 c.hi) (B := w.heap.size + 1) (w0 := W0) (p := ⟨B, 7, none⟩) (by simp; omega) (K0.out.cell 7)
  have z8 := later_cell (v := .int .u32 c.dd) (B := w.heap.size + 1) (w0 := W0) (p := ⟨B, 8, none⟩) (by simp; omega) (K0.out.cell 8)
  have z9 := later_cell (v := .int .u16 c.po) (B := w.heap.size + 1) (w0 := W0) (p := ⟨B, 9, none⟩) (by simp; omega) (K0.out.cell 9)
  have z10 := later_cell (v := .int .u8 c.pr) (B := w.heap.size + 1) (w0 := W0) (p := ⟨B, 10, none⟩) (by simp; omega) (K0.out.cell 10)
  have z11 := later_cell (v := .bool c.dm) (B := w.heap.size + 1) (w0 := W0) (p := ⟨B, 11, none⟩) (by simp; omega) (K0.out.cell 11)
  have z12 := later_cell (v := .bool c.ps) (B := w.heap.size + 1) (w0 := W0) (p := ⟨B, 12, none⟩) (by simp; omega) (K0.out.cell 12)
  have z13 := later_cell (v := c.pe) (B := w.heap.size + 1) (w0 := W0) (p := ⟨B, 13, none⟩) (by simp; omega) (K0.out.cell 13)
  have z14 := later_cell (v := .int .u32 c.rm) (B := w.heap.size + 1) (w0 := W0) (p := ⟨B, 14, none⟩) (by simp; omega) (K0.out.cell 14)
  have z15 := later_cell (v := .int .u8 st) (B := w.heap.size + 1) (w0 := W0) (p := ⟨B, 15, none⟩) (by simp; omega) (K0.out.cell 15)
  have z22 := later_cell (v := .slice A ln cap) (B := w.heap.size + 1) (w0 := W0) (p := ⟨B, 22, none⟩) (by simp; omega) (K0.out.cell 22)
  have y0 := later_cell (v := .int .u32 hl.ma) (B := w.heap.size + 1) (w0 := W0) (p := ⟨w.heap.size, 0, none⟩) (by simp) (H0.out.cell 0)
  have y1 := later_cell (v := .int .u16 hl.hi) (B := w.heap.size + 1) (w0 := W0) (p := ⟨w.heap.size, 1, none⟩) (by simp) (H0.out.cell 1)
  have y2 := later_cell (v := .int .u8 hl.op) (B := w.heap.size + 1) (w0 := W0) (p := ⟨w.heap.size, 2, none⟩) (by simp) (H0.out.cell 2)
  have y4 := later_cell (v := .int .u32 hl.dd) (B := w.heap.size + 1) (w0 := W0) (p := ⟨w.heap.size, 4, none⟩) (by simp) (H0.out.cell 4)
  have d1 : c.ty < 3 → Hid (∀ u : Later (w.heap.size + 1) W0, Calls Try.prog 107 #[.pointer (some ⟨B, 0, none⟩)] u.to fun e w' => e = .returned (.int .u32 (maskN c.nb.toNat)) ∧ Below u.to.heap.size u.to w') := fun ht => Lib.hid (fun u => (mask_lks u.to B c _ (K0.out.below u.ok (by omega)) rfl rfl ht hn0 hn1).mono fun _ _ h => ⟨h.1, h.2 ▸ Below.refl _ _⟩)
  have d2 : Hid (∀ u : Later (w.heap.size + 1) W0, Calls Try.prog 66 #[.agg #[.int .u32 c.na, .int .u8 c.nb], .int .u32 f] u.to fun e w' => e = .returned (.bool (decide (bits .and .u32 f (maskN c.nb.toNat) = c.na))) ∧ Below u.to.heap.size u.to w') := Lib.hid (fun u => has_any c.na c.nb f u.to hn0 hn1 HNet.out)
  have d3 : Hid (∀ u : Later (w.heap.size + 1) W0, Calls Try.prog 63 #[.agg #[.int .u8 c.ty, .int .u32 c.ro, .int .u32 c.na, .int .u8 c.nb, .int .u32 c.ad, .int .u8 c.op, .int .u16 c.hi, .int .u32 c.dd, .int .u16 c.po, .int .u8 c.pr, .bool c.dm, .bool c.ps, c.pe, .int .u32 c.rm]] u.to fun e w' => e = .returned (.bool c.peers) ∧ Below u.to.heap.size u.to w') := Lib.hid (fun u => HPe.out c u.to)
  refine wp_region_later_table (B := w.heap.size + 1) (w0 := W0) 137 tabMay (by kernel_rfl) (by kernel_rfl) (by kernel_rfl) chkMay (of_decide_eq_true (by kernel_rfl)) (Below.refl _ _) ?_
  simp only [List.take_succ_cons, List.take_zero, List.drop_succ_cons, List.drop_zero]
  refine wpQuiet_cut _ 6 (R := fun a' : Act => ∃ q0 : Bool, q0 = pB0 st ∧ ∃ u : Nat → Value, a' = { tmps := #[.pointer (some ⟨B, 0, none⟩), .int .u32 f, .int .u32 r, u 3, u 4, u 5, u 6, .pointer (some ⟨w.heap.size, 0, none⟩), .int .i64 0, .int .i64 at_, u 10, u 11, u 12, u 13, u 14, u 15, u 16, u 17, u 18, u 19, u 20, u 21, .agg #[.bool q0, .int .i64 45], u 23, u 24, u 25, u 26, u 27, u 28, u 29, u 30, u 31, u 32, u 33, u 34, u 35, u 36, u 37, u 38, u 39, u 40, u 41, u 42, u 43, u 44, u 45, u 46, u 47, u 48, u 49, u 50, u 51, u 52, u 53, u 54, u 55, u 56, u 57, u 58, u 59, u 60, u 61, u 62, u 63, u 64, u 65, u 66, u 67, u 68, u 69, u 70, u 71, u 72, u 73, u 74, u 75, u 76, u 77, u 78, u 79, u 80, u 81, u 82, u 83, u 84, u 85, u 86, u 87, u 88, u 89, u 90, u 91, u 92, u 93, u 94, u 95, u 96, u 97, u 98, u 99, u 100, u 101, u 102, u 103, u 104, u 105, u 106, u 107, u 108, u 109, u 110, u 111, u 112, u 113, u 114, u 115, u 116, u 117, u 118, u 119, u 120, u 121, u 122, u 123, u 124, u 125, u 126, u 127, u 128, u 129, u 130, u 131, u 132, u 133, u 134, u 135, u 136, u 137, u 138, u 139, u 140, u 141, u 142, u 143, u 144, u 145, u 146, u 147, u 148, u 149, u 150, u 151, u 152, u 153, u 154, u 155, u 156, u 157, u 158, u 159, u 160, u 161, u 162, u 163, u 164, u 165], defers := [] }) _ ?_ ?_
  · simp only [List.take_succ_cons, List.take_zero]
    all_goals
      repeat (go_big_quiet_step (first
        | (go_at_call 107; with_reducible exact later_call _ (by omega) ((d1 (by assumption)).out _))
        | (go_at_call 66; with_reducible exact later_call _ (by omega) (d2.out _))
        | (go_at_call 63; with_reducible exact later_call _ (by omega) (d3.out _))))
      refine wpQuiet_nil ?_
      refine ⟨_, ?_, frame_of rfl⟩
      simp [pB0, *]
  simp only [List.drop_succ_cons, List.drop_zero]
  rintro a' ⟨q0, h0, u, rfl⟩
  refine wpQuiet_cut _ 19 (R := fun a' : Act => ∃ q0 : Bool, q0 = pB0 st ∧ ∃ q1 : Bool, q1 = pB1 c hl ∧ ∃ u : Nat → Value, a' = { tmps := #[.pointer (some ⟨B, 0, none⟩), .int .u32 f, .int .u32 r, u 3, u 4, u 5, u 6, .pointer (some ⟨w.heap.size, 0, none⟩), .int .i64 0, .int .i64 at_, u 10, u 11, u 12, u 13, u 14, u 15, u 16, u 17, u 18, u 19, u 20, u 21, .agg #[.bool q0, .int .i64 45], u 23, u 24, u 25, u 26, u 27, u 28, u 29, u 30, u 31, u 32, u 33, u 34, u 35, u 36, u 37, u 38, u 39, u 40, .agg #[.bool q1, .int .i64 43], u 42, u 43, u 44, u 45, u 46, u 47, u 48, u 49, u 50, u 51, u 52, u 53, u 54, u 55, u 56, u 57, u 58, u 59, u 60, u 61, u 62, u 63, u 64, u 65, u 66, u 67, u 68, u 69, u 70, u 71, u 72, u 73, u 74, u 75, u 76, u 77, u 78, u 79, u 80, u 81, u 82, u 83, u 84, u 85, u 86, u 87, u 88, u 89, u 90, u 91, u 92, u 93, u 94, u 95, u 96, u 97, u 98, u 99, u 100, u 101, u 102, u 103, u 104, u 105, u 106, u 107, u 108, u 109, u 110, u 111, u 112, u 113, u 114, u 115, u 116, u 117, u 118, u 119, u 120, u 121, u 122, u 123, u 124, u 125, u 126, u 127, u 128, u 129, u 130, u 131, u 132, u 133, u 134, u 135, u 136, u 137, u 138, u 139, u 140, u 141, u 142, u 143, u 144, u 145, u 146, u 147, u 148, u 149, u 150, u 151, u 152, u 153, u 154, u 155, u 156, u 157, u 158, u 159, u 160, u 161, u 162, u 163, u 164, u 165], defers := [] }) _ ?_ ?_
  · simp only [List.take_succ_cons, List.take_zero]
    rcases Bool.eq_false_or_eq_true (hl.hi != c.hi) with s1 | s1
    all_goals
      repeat (go_big_quiet_step (first
        | (go_at_call 107; with_reducible exact later_call _ (by omega) ((d1 (by assumption)).out _))
        | (go_at_call 66; with_reducible exact later_call _ (by omega) (d2.out _))
        | (go_at_call 63; with_reducible exact later_call _ (by omega) (d3.out _))))
      refine wpQuiet_nil ?_
      refine ⟨q0, h0, _, ?_, frame_of rfl⟩
      simp [pB1, *]
  simp only [List.drop_succ_cons, List.drop_zero]
  rintro a' ⟨q0, h0, q1, h1, u, rfl⟩
  refine wpQuiet_cut _ 14 (R := fun a' : Act => ∃ q0 : Bool, q0 = pB0 st ∧ ∃ q1 : Bool, q1 = pB1 c hl ∧ ∃ q2 : Bool, q2 = pB2 c hl ∧ ∃ u : Nat → Value, a' = { tmps := #[.pointer (some ⟨B, 0, none⟩), .int .u32 f, .int .u32 r, u 3, u 4, u 5, u 6, .pointer (some ⟨w.heap.size, 0, none⟩), .int .i64 0, .int .i64 at_, u 10, u 11, u 12, u 13, u 14, u 15, u 16, u 17, u 18, u 19, u 20, u 21, .agg #[.bool q0, .int .i64 45], u 23, u 24, u 25, u 26, u 27, u 28, u 29, u 30, u 31, u 32, u 33, u 34, u 35, u 36, u 37, u 38, u 39, u 40, .agg #[.bool q1, .int .i64 43], u 42, u 43, u 44, u 45, u 46, u 47, u 48, u 49, u 50, u 51, u 52, u 53, u 54, .agg #[.bool q2, .int .i64 42], u 56, u 57, u 58, u 59, u 60, u 61, u 62, u 63, u 64, u 65, u 66, u 67, u 68, u 69, u 70, u 71, u 72, u 73, u 74, u 75, u 76, u 77, u 78, u 79, u 80, u 81, u 82, u 83, u 84, u 85, u 86, u 87, u 88, u 89, u 90, u 91, u 92, u 93, u 94, u 95, u 96, u 97, u 98, u 99, u 100, u 101, u 102, u 103, u 104, u 105, u 106, u 107, u 108, u 109, u 110, u 111, u 112, u 113, u 114, u 115, u 116, u 117, u 118, u 119, u 120, u 121, u 122, u 123, u 124, u 125, u 126, u 127, u 128, u 129, u 130, u 131, u 132, u 133, u 134, u 135, u 136, u 137, u 138, u 139, u 140, u 141, u 142, u 143, u 144, u 145, u 146, u 147, u 148, u 149, u 150, u 151, u 152, u 153, u 154, u 155, u 156, u 157, u 158, u 159, u 160, u 161, u 162, u 163, u 164, u 165], defers := [] }) _ ?_ ?_
  · simp only [List.take_succ_cons, List.take_zero]
    by_cases s1 : c.ty < 3
    all_goals
      repeat (go_big_quiet_step (first
        | (go_at_call 107; with_reducible exact later_call _ (by omega) ((d1 (by assumption)).out _))
        | (go_at_call 66; with_reducible exact later_call _ (by omega) (d2.out _))
        | (go_at_call 63; with_reducible exact later_call _ (by omega) (d3.out _))))
      refine wpQuiet_nil ?_
      refine ⟨q0, h0, q1, h1, _, ?_, frame_of rfl⟩
      simp [pB2, *]
  simp only [List.drop_succ_cons, List.drop_zero]
  rintro a' ⟨q0, h0, q1, h1, q2, h2, u, rfl⟩
  refine wpQuiet_cut _ 11 (R := fun a' : Act => ∃ q0 : Bool, q0 = pB0 st ∧ ∃ q1 : Bool, q1 = pB1 c hl ∧ ∃ q2 : Bool, q2 = pB2 c hl ∧ ∃ q3 : Bool, q3 = pB3 c hl ∧ ∃ u : Nat → Value, a' = { tmps := #[.pointer (some ⟨B, 0, none⟩), .int .u32 f, .int .u32 r, u 3, u 4, u 5, u 6, .pointer (some ⟨w.heap.size, 0, none⟩), .int .i64 0, .int .i64 at_, u 10, u 11, u 12, u 13, u 14, u 15, u 16, u 17, u 18, u 19, u 20, u 21, .agg #[.bool q0, .int .i64 45], u 23, u 24, u 25, u 26, u 27, u 28, u 29, u 30, u 31, u 32, u 33, u 34, u 35, u 36, u 37, u 38, u 39, u 40, .agg #[.bool q1, .int .i64 43], u 42, u 43, u 44, u 45, u 46, u 47, u 48, u 49, u 50, u 51, u 52, u 53, u 54, .agg #[.bool q2, .int .i64 42], u 56, u 57, u 58, u 59, u 60, u 61, u 62, u 63, u 64, u 65, .agg #[.bool q3, .int .i64 44], u 67, u 68, u 69, u 70, u 71, u 72, u 73, u 74, u 75, u 76, u 77, u 78, u 79, u 80, u 81, u 82, u 83, u 84, u 85, u 86, u 87, u 88, u 89, u 90, u 91, u 92, u 93, u 94, u 95, u 96, u 97, u 98, u 99, u 100, u 101, u 102, u 103, u 104, u 105, u 106, u 107, u 108, u 109, u 110, u 111, u 112, u 113, u 114, u 115, u 116, u 117, u 118, u 119, u 120, u 121, u 122, u 123, u 124, u 125, u 126, u 127, u 128, u 129, u 130, u 131, u 132, u 133, u 134, u 135, u 136, u 137, u 138, u 139, u 140, u 141, u 142, u 143, u 144, u 145, u 146, u 147, u 148, u 149, u 150, u 151, u 152, u 153, u 154, u 155, u 156, u 157, u 158, u 159, u 160, u 161, u 162, u 163, u 164, u 165], defers := [] }) _ ?_ ?_
  · simp only [List.take_succ_cons, List.take_zero]
    all_goals
      repeat (go_big_quiet_step (first
        | (go_at_call 107; with_reducible exact later_call _ (by omega) ((d1 (by assumption)).out _))
        | (go_at_call 66; with_reducible exact later_call _ (by omega) (d2.out _))
        | (go_at_call 63; with_reducible exact later_call _ (by omega) (d3.out _))))
      refine wpQuiet_nil ?_
      refine ⟨q0, h0, q1, h1, q2, h2, _, ?_, frame_of rfl⟩
      simp [pB3, *]
  simp only [List.drop_succ_cons, List.drop_zero]
  rintro a' ⟨q0, h0, q1, h1, q2, h2, q3, h3, u, rfl⟩
  refine wpQuiet_cut _ 25 (R := fun a' : Act => ∃ q0 : Bool, q0 = pB0 st ∧ ∃ q1 : Bool, q1 = pB1 c hl ∧ ∃ q2 : Bool, q2 = pB2 c hl ∧ ∃ q3 : Bool, q3 = pB3 c hl ∧ ∃ q4 : Bool, q4 = pB4 c f r ∧ ∃ u : Nat → Value, a' = { tmps := #[.pointer (some ⟨B, 0, none⟩), .int .u32 f, .int .u32 r, u 3, u 4, u 5, u 6, .pointer (some ⟨w.heap.size, 0, none⟩), .int .i64 0, .int .i64 at_, u 10, u 11, u 12, u 13, u 14, u 15, u 16, u 17, u 18, u 19, u 20, u 21, .agg #[.bool q0, .int .i64 45], u 23, u 24, u 25, u 26, u 27, u 28, u 29, u 30, u 31, u 32, u 33, u 34, u 35, u 36, u 37, u 38, u 39, u 40, .agg #[.bool q1, .int .i64 43], u 42, u 43, u 44, u 45, u 46, u 47, u 48, u 49, u 50, u 51, u 52, u 53, u 54, .agg #[.bool q2, .int .i64 42], u 56, u 57, u 58, u 59, u 60, u 61, u 62, u 63, u 64, u 65, .agg #[.bool q3, .int .i64 44], u 67, u 68, u 69, u 70, u 71, u 72, u 73, u 74, u 75, u 76, u 77, u 78, u 79, u 80, u 81, u 82, u 83, u 84, u 85, u 86, u 87, u 88, u 89, u 90, .agg #[.bool q4, .int .i64 41], u 92, u 93, u 94, u 95, u 96, u 97, u 98, u 99, u 100, u 101, u 102, u 103, u 104, u 105, u 106, u 107, u 108, u 109, u 110, u 111, u 112, u 113, u 114, u 115, u 116, u 117, u 118, u 119, u 120, u 121, u 122, u 123, u 124, u 125, u 126, u 127, u 128, u 129, u 130, u 131, u 132, u 133, u 134, u 135, u 136, u 137, u 138, u 139, u 140, u 141, u 142, u 143, u 144, u 145, u 146, u 147, u 148, u 149, u 150, u 151, u 152, u 153, u 154, u 155, u 156, u 157, u 158, u 159, u 160, u 161, u 162, u 163, u 164, u 165], defers := [] }) _ ?_ ?_
  · simp only [List.take_succ_cons, List.take_zero]
    rcases Bool.eq_false_or_eq_true (r == 0) with s1 | s1 <;> rcases Bool.eq_false_or_eq_true (r == c.ro) with s2 | s2 <;> rcases Bool.eq_false_or_eq_true (f == 0) with s3 | s3
    all_goals
      repeat (go_big_quiet_step (first
        | (go_at_call 107; with_reducible exact later_call _ (by omega) ((d1 (by assumption)).out _))
        | (go_at_call 66; with_reducible exact later_call _ (by omega) (d2.out _))
        | (go_at_call 63; with_reducible exact later_call _ (by omega) (d3.out _))))
      refine wpQuiet_nil ?_
      refine ⟨q0, h0, q1, h1, q2, h2, q3, h3, _, ?_, frame_of rfl⟩
      simp [pB4, *]
  simp only [List.drop_succ_cons, List.drop_zero]
  rintro a' ⟨q0, h0, q1, h1, q2, h2, q3, h3, q4, h4, u, rfl⟩
  refine wpQuiet_cut _ 17 (R := fun a' : Act => ∃ q0 : Bool, q0 = pB0 st ∧ ∃ q1 : Bool, q1 = pB1 c hl ∧ ∃ q2 : Bool, q2 = pB2 c hl ∧ ∃ q3 : Bool, q3 = pB3 c hl ∧ ∃ q4 : Bool, q4 = pB4 c f r ∧ ∃ q5 : Bool, q5 = pB5 c f ∧ ∃ u : Nat → Value, a' = { tmps := #[.pointer (some ⟨B, 0, none⟩), .int .u32 f, .int .u32 r, u 3, u 4, u 5, u 6, .pointer (some ⟨w.heap.size, 0, none⟩), .int .i64 0, .int .i64 at_, u 10, u 11, u 12, u 13, u 14, u 15, u 16, u 17, u 18, u 19, u 20, u 21, .agg #[.bool q0, .int .i64 45], u 23, u 24, u 25, u 26, u 27, u 28, u 29, u 30, u 31, u 32, u 33, u 34, u 35, u 36, u 37, u 38, u 39, u 40, .agg #[.bool q1, .int .i64 43], u 42, u 43, u 44, u 45, u 46, u 47, u 48, u 49, u 50, u 51, u 52, u 53, u 54, .agg #[.bool q2, .int .i64 42], u 56, u 57, u 58, u 59, u 60, u 61, u 62, u 63, u 64, u 65, .agg #[.bool q3, .int .i64 44], u 67, u 68, u 69, u 70, u 71, u 72, u 73, u 74, u 75, u 76, u 77, u 78, u 79, u 80, u 81, u 82, u 83, u 84, u 85, u 86, u 87, u 88, u 89, u 90, .agg #[.bool q4, .int .i64 41], u 92, u 93, u 94, u 95, u 96, u 97, u 98, u 99, u 100, u 101, u 102, u 103, u 104, u 105, u 106, u 107, .agg #[.bool q5, .int .i64 41], u 109, u 110, u 111, u 112, u 113, u 114, u 115, u 116, u 117, u 118, u 119, u 120, u 121, u 122, u 123, u 124, u 125, u 126, u 127, u 128, u 129, u 130, u 131, u 132, u 133, u 134, u 135, u 136, u 137, u 138, u 139, u 140, u 141, u 142, u 143, u 144, u 145, u 146, u 147, u 148, u 149, u 150, u 151, u 152, u 153, u 154, u 155, u 156, u 157, u 158, u 159, u 160, u 161, u 162, u 163, u 164, u 165], defers := [] }) _ ?_ ?_
  · simp only [List.take_succ_cons, List.take_zero]
    rcases Bool.eq_false_or_eq_true (c.ty == 0) with s1 | s1
    all_goals
      repeat (go_big_quiet_step (first
        | (go_at_call 107; with_reducible exact later_call _ (by omega) ((d1 (by assumption)).out _))
        | (go_at_call 66; with_reducible exact later_call _ (by omega) (d2.out _))
        | (go_at_call 63; with_reducible exact later_call _ (by omega) (d3.out _))))
      refine wpQuiet_nil ?_
      refine ⟨q0, h0, q1, h1, q2, h2, q3, h3, q4, h4, _, ?_, frame_of rfl⟩
      simp [pB5, *]
  simp only [List.drop_succ_cons, List.drop_zero]
  rintro a' ⟨q0, h0, q1, h1, q2, h2, q3, h3, q4, h4, q5, h5, u, rfl⟩
  refine wpQuiet_cut _ 16 (R := fun a' : Act => ∃ q0 : Bool, q0 = pB0 st ∧ ∃ q1 : Bool, q1 = pB1 c hl ∧ ∃ q2 : Bool, q2 = pB2 c hl ∧ ∃ q3 : Bool, q3 = pB3 c hl ∧ ∃ q4 : Bool, q4 = pB4 c f r ∧ ∃ q5 : Bool, q5 = pB5 c f ∧ ∃ q6 : Bool, q6 = pB6 c r ∧ ∃ u : Nat → Value, a' = { tmps := #[.pointer (some ⟨B, 0, none⟩), .int .u32 f, .int .u32 r, u 3, u 4, u 5, u 6, .pointer (some ⟨w.heap.size, 0, none⟩), .int .i64 0, .int .i64 at_, u 10, u 11, u 12, u 13, u 14, u 15, u 16, u 17, u 18, u 19, u 20, u 21, .agg #[.bool q0, .int .i64 45], u 23, u 24, u 25, u 26, u 27, u 28, u 29, u 30, u 31, u 32, u 33, u 34, u 35, u 36, u 37, u 38, u 39, u 40, .agg #[.bool q1, .int .i64 43], u 42, u 43, u 44, u 45, u 46, u 47, u 48, u 49, u 50, u 51, u 52, u 53, u 54, .agg #[.bool q2, .int .i64 42], u 56, u 57, u 58, u 59, u 60, u 61, u 62, u 63, u 64, u 65, .agg #[.bool q3, .int .i64 44], u 67, u 68, u 69, u 70, u 71, u 72, u 73, u 74, u 75, u 76, u 77, u 78, u 79, u 80, u 81, u 82, u 83, u 84, u 85, u 86, u 87, u 88, u 89, u 90, .agg #[.bool q4, .int .i64 41], u 92, u 93, u 94, u 95, u 96, u 97, u 98, u 99, u 100, u 101, u 102, u 103, u 104, u 105, u 106, u 107, .agg #[.bool q5, .int .i64 41], u 109, u 110, u 111, u 112, u 113, u 114, u 115, u 116, u 117, u 118, u 119, u 120, u 121, u 122, u 123, .agg #[.bool q6, .int .i64 46], u 125, u 126, u 127, u 128, u 129, u 130, u 131, u 132, u 133, u 134, u 135, u 136, u 137, u 138, u 139, u 140, u 141, u 142, u 143, u 144, u 145, u 146, u 147, u 148, u 149, u 150, u 151, u 152, u 153, u 154, u 155, u 156, u 157, u 158, u 159, u 160, u 161, u 162, u 163, u 164, u 165], defers := [] }) _ ?_ ?_
  · simp only [List.take_succ_cons, List.take_zero]
    rcases Bool.eq_false_or_eq_true (c.ty == 4) with s1 | s1
    all_goals
      repeat (go_big_quiet_step (first
        | (go_at_call 107; with_reducible exact later_call _ (by omega) ((d1 (by assumption)).out _))
        | (go_at_call 66; with_reducible exact later_call _ (by omega) (d2.out _))
        | (go_at_call 63; with_reducible exact later_call _ (by omega) (d3.out _))))
      refine wpQuiet_nil ?_
      refine ⟨q0, h0, q1, h1, q2, h2, q3, h3, q4, h4, q5, h5, _, ?_, frame_of rfl⟩
      simp [pB6, *]
  simp only [List.drop_succ_cons, List.drop_zero]
  rintro a' ⟨q0, h0, q1, h1, q2, h2, q3, h3, q4, h4, q5, h5, q6, h6, u, rfl⟩
  refine wpQuiet_cut _ 10 (R := fun a' : Act => ∃ q0 : Bool, q0 = pB0 st ∧ ∃ q1 : Bool, q1 = pB1 c hl ∧ ∃ q2 : Bool, q2 = pB2 c hl ∧ ∃ q3 : Bool, q3 = pB3 c hl ∧ ∃ q4 : Bool, q4 = pB4 c f r ∧ ∃ q5 : Bool, q5 = pB5 c f ∧ ∃ q6 : Bool, q6 = pB6 c r ∧ ∃ q7 : Bool, q7 = pB7 c at_ ∧ ∃ u : Nat → Value, a' = { tmps := #[.pointer (some ⟨B, 0, none⟩), .int .u32 f, .int .u32 r, u 3, u 4, u 5, u 6, .pointer (some ⟨w.heap.size, 0, none⟩), .int .i64 0, .int .i64 at_, u 10, u 11, u 12, u 13, u 14, u 15, u 16, u 17, u 18, u 19, u 20, u 21, .agg #[.bool q0, .int .i64 45], u 23, u 24, u 25, u 26, u 27, u 28, u 29, u 30, u 31, u 32, u 33, u 34, u 35, u 36, u 37, u 38, u 39, u 40, .agg #[.bool q1, .int .i64 43], u 42, u 43, u 44, u 45, u 46, u 47, u 48, u 49, u 50, u 51, u 52, u 53, u 54, .agg #[.bool q2, .int .i64 42], u 56, u 57, u 58, u 59, u 60, u 61, u 62, u 63, u 64, u 65, .agg #[.bool q3, .int .i64 44], u 67, u 68, u 69, u 70, u 71, u 72, u 73, u 74, u 75, u 76, u 77, u 78, u 79, u 80, u 81, u 82, u 83, u 84, u 85, u 86, u 87, u 88, u 89, u 90, .agg #[.bool q4, .int .i64 41], u 92, u 93, u 94, u 95, u 96, u 97, u 98, u 99, u 100, u 101, u 102, u 103, u 104, u 105, u 106, u 107, .agg #[.bool q5, .int .i64 41], u 109, u 110, u 111, u 112, u 113, u 114, u 115, u 116, u 117, u 118, u 119, u 120, u 121, u 122, u 123, .agg #[.bool q6, .int .i64 46], u 125, u 126, u 127, u 128, u 129, u 130, u 131, u 132, u 133, .agg #[.bool q7, .int .i64 46], u 135, u 136, u 137, u 138, u 139, u 140, u 141, u 142, u 143, u 144, u 145, u 146, u 147, u 148, u 149, u 150, u 151, u 152, u 153, u 154, u 155, u 156, u 157, u 158, u 159, u 160, u 161, u 162, u 163, u 164, u 165], defers := [] }) _ ?_ ?_
  · simp only [List.take_succ_cons, List.take_zero]
    rcases Bool.eq_false_or_eq_true c.peers with s1 | s1 <;> rw [s1] at d3
    all_goals
      repeat (go_big_quiet_step (first
        | (go_at_call 107; with_reducible exact later_call _ (by omega) ((d1 (by assumption)).out _))
        | (go_at_call 66; with_reducible exact later_call _ (by omega) (d2.out _))
        | (go_at_call 63; with_reducible exact later_call _ (by omega) (d3.out _))))
      refine wpQuiet_nil ?_
      refine ⟨q0, h0, q1, h1, q2, h2, q3, h3, q4, h4, q5, h5, q6, h6, _, ?_, frame_of rfl⟩
      simp [pB7, *]
  simp only [List.drop_succ_cons, List.drop_zero]
  rintro a' ⟨q0, h0, q1, h1, q2, h2, q3, h3, q4, h4, q5, h5, q6, h6, q7, h7, u, rfl⟩
  refine wpQuiet_cut _ 19 (R := fun a' : Act => ∃ q0 : Bool, q0 = pB0 st ∧ ∃ q1 : Bool, q1 = pB1 c hl ∧ ∃ q2 : Bool, q2 = pB2 c hl ∧ ∃ q3 : Bool, q3 = pB3 c hl ∧ ∃ q4 : Bool, q4 = pB4 c f r ∧ ∃ q5 : Bool, q5 = pB5 c f ∧ ∃ q6 : Bool, q6 = pB6 c r ∧ ∃ q7 : Bool, q7 = pB7 c at_ ∧ ∃ q8 : Bool, q8 = pB8 c at_ ln ∧ ∃ u : Nat → Value, a' = { tmps := #[.pointer (some ⟨B, 0, none⟩), .int .u32 f, .int .u32 r, u 3, u 4, u 5, u 6, .pointer (some ⟨w.heap.size, 0, none⟩), .int .i64 0, .int .i64 at_, u 10, u 11, u 12, u 13, u 14, u 15, u 16, u 17, u 18, u 19, u 20, u 21, .agg #[.bool q0, .int .i64 45], u 23, u 24, u 25, u 26, u 27, u 28, u 29, u 30, u 31, u 32, u 33, u 34, u 35, u 36, u 37, u 38, u 39, u 40, .agg #[.bool q1, .int .i64 43], u 42, u 43, u 44, u 45, u 46, u 47, u 48, u 49, u 50, u 51, u 52, u 53, u 54, .agg #[.bool q2, .int .i64 42], u 56, u 57, u 58, u 59, u 60, u 61, u 62, u 63, u 64, u 65, .agg #[.bool q3, .int .i64 44], u 67, u 68, u 69, u 70, u 71, u 72, u 73, u 74, u 75, u 76, u 77, u 78, u 79, u 80, u 81, u 82, u 83, u 84, u 85, u 86, u 87, u 88, u 89, u 90, .agg #[.bool q4, .int .i64 41], u 92, u 93, u 94, u 95, u 96, u 97, u 98, u 99, u 100, u 101, u 102, u 103, u 104, u 105, u 106, u 107, .agg #[.bool q5, .int .i64 41], u 109, u 110, u 111, u 112, u 113, u 114, u 115, u 116, u 117, u 118, u 119, u 120, u 121, u 122, u 123, .agg #[.bool q6, .int .i64 46], u 125, u 126, u 127, u 128, u 129, u 130, u 131, u 132, u 133, .agg #[.bool q7, .int .i64 46], u 135, u 136, u 137, u 138, u 139, u 140, u 141, u 142, u 143, u 144, u 145, u 146, u 147, u 148, u 149, u 150, u 151, u 152, .agg #[.bool q8, .int .i64 47], u 154, u 155, u 156, u 157, u 158, u 159, u 160, u 161, u 162, u 163, u 164, u 165], defers := [] }) _ ?_ ?_
  · simp only [List.take_succ_cons, List.take_zero]
    rcases Bool.eq_false_or_eq_true (c.ty == 0) with s1 | s1 <;> by_cases s2 : at_ < 0
    all_goals
      repeat (go_big_quiet_step (first
        | (go_at_call 107; with_reducible exact later_call _ (by omega) ((d1 (by assumption)).out _))
        | (go_at_call 66; with_reducible exact later_call _ (by omega) (d2.out _))
        | (go_at_call 63; with_reducible exact later_call _ (by omega) (d3.out _))))
      refine wpQuiet_nil ?_
      refine ⟨q0, h0, q1, h1, q2, h2, q3, h3, q4, h4, q5, h5, q6, h6, q7, h7, _, ?_, frame_of rfl⟩
      simp [pB8, *]
  simp only [List.drop_succ_cons, List.drop_zero]
  rintro a' ⟨q0, h0, q1, h1, q2, h2, q3, h3, q4, h4, q5, h5, q6, h6, q7, h7, q8, h8, u, rfl⟩
  refine wpQuiet_nil ?_
  rintro wx ⟨⟨wy, hwy⟩, hwe⟩
  obtain rfl : wx = wy := hwe
  have hbx : Hid (Below w.heap.size w wx) := Lib.hid (B0.out.trans (hwy.mono (by omega)))
  have hwsx : w.heap.size ≤ wx.heap.size := hbx.out.size
  have HQ : Hid (Pl.mayE c s f r hl = if q0 then 45 else if q1 then 43 else if q2 then 42 else if q3 then 44 else if q4 then 41 else if q5 then 41 else if q6 then 46 else if q7 then 46 else if q8 then 47 else 0) := Lib.hid (by rw [h0, h1, h2, h3, h4, h5, h6, h7, h8]; exact HM.out)
  clear h0 h1 h2 h3 h4 h5 h6 h7 h8
  clear z1 z2 z3 z4 z5 z6 z7 z8 z9 z10 z11 z12 z13 z14 z15 z22 y0 y1 y2 y4
  clear d1 d2 d3 hwy
  cases q0 with
  | true =>
    go_wp2_with fail
    refine wp_loop_rounds 1 ?_
    rw [rounds_succ]
    go_wp2_with fail
    go_ret
    refine ⟨by rw [HQ.out]; rfl, ?_⟩
    repeat (first | exact hbx.out | refine Below.alloc ?_ (by first | exact hwsx | (simp only [World.size_alloc]; omega)) _)
  | false =>
    cases q1 with
    | true =>
      go_wp2_with fail
      refine wp_loop_rounds 2 ?_
      rw [rounds_succ]
      go_wp2_with fail
      rw [rounds_succ]
      go_wp2_with fail
      go_ret
      refine ⟨by rw [HQ.out]; rfl, ?_⟩
      repeat (first | exact hbx.out | refine Below.alloc ?_ (by first | exact hwsx | (simp only [World.size_alloc]; omega)) _)
    | false =>
      cases q2 with
      | true =>
        go_wp2_with fail
        refine wp_loop_rounds 3 ?_
        rw [rounds_succ]
        go_wp2_with fail
        rw [rounds_succ]
        go_wp2_with fail
        rw [rounds_succ]
        go_wp2_with fail
        go_ret
        refine ⟨by rw [HQ.out]; rfl, ?_⟩
        repeat (first | exact hbx.out | refine Below.alloc ?_ (by first | exact hwsx | (simp only [World.size_alloc]; omega)) _)
      | false =>
        cases q3 with
        | true =>
          go_wp2_with fail
          refine wp_loop_rounds 4 ?_
          rw [rounds_succ]
          go_wp2_with fail
          rw [rounds_succ]
          go_wp2_with fail
          rw [rounds_succ]
          go_wp2_with fail
          rw [rounds_succ]
          go_wp2_with fail
          go_ret
          refine ⟨by rw [HQ.out]; rfl, ?_⟩
          repeat (first | exact hbx.out | refine Below.alloc ?_ (by first | exact hwsx | (simp only [World.size_alloc]; omega)) _)
        | false =>
          cases q4 with
          | true =>
            go_wp2_with fail
            refine wp_loop_rounds 5 ?_
            rw [rounds_succ]
            go_wp2_with fail
            rw [rounds_succ]
            go_wp2_with fail
            rw [rounds_succ]
            go_wp2_with fail
            rw [rounds_succ]
            go_wp2_with fail
            rw [rounds_succ]
            go_wp2_with fail
            go_ret
            refine ⟨by rw [HQ.out]; rfl, ?_⟩
            repeat (first | exact hbx.out | refine Below.alloc ?_ (by first | exact hwsx | (simp only [World.size_alloc]; omega)) _)
          | false =>
            cases q5 with
            | true =>
              go_wp2_with fail
              refine wp_loop_rounds 6 ?_
              rw [rounds_succ]
              go_wp2_with fail
              rw [rounds_succ]
              go_wp2_with fail
              rw [rounds_succ]
              go_wp2_with fail
              rw [rounds_succ]
              go_wp2_with fail
              rw [rounds_succ]
              go_wp2_with fail
              rw [rounds_succ]
              go_wp2_with fail
              go_ret
              refine ⟨by rw [HQ.out]; rfl, ?_⟩
              repeat (first | exact hbx.out | refine Below.alloc ?_ (by first | exact hwsx | (simp only [World.size_alloc]; omega)) _)
            | false =>
              cases q6 with
              | true =>
                go_wp2_with fail
                refine wp_loop_rounds 7 ?_
                rw [rounds_succ]
                go_wp2_with fail
                rw [rounds_succ]
                go_wp2_with fail
                rw [rounds_succ]
                go_wp2_with fail
                rw [rounds_succ]
                go_wp2_with fail
                rw [rounds_succ]
                go_wp2_with fail
                rw [rounds_succ]
                go_wp2_with fail
                rw [rounds_succ]
                go_wp2_with fail
                go_ret
                refine ⟨by rw [HQ.out]; rfl, ?_⟩
                repeat (first | exact hbx.out | refine Below.alloc ?_ (by first | exact hwsx | (simp only [World.size_alloc]; omega)) _)
              | false =>
                cases q7 with
                | true =>
                  go_wp2_with fail
                  refine wp_loop_rounds 8 ?_
                  rw [rounds_succ]
                  go_wp2_with fail
                  rw [rounds_succ]
                  go_wp2_with fail
                  rw [rounds_succ]
                  go_wp2_with fail
                  rw [rounds_succ]
                  go_wp2_with fail
                  rw [rounds_succ]
                  go_wp2_with fail
                  rw [rounds_succ]
                  go_wp2_with fail
                  rw [rounds_succ]
                  go_wp2_with fail
                  rw [rounds_succ]
                  go_wp2_with fail
                  go_ret
                  refine ⟨by rw [HQ.out]; rfl, ?_⟩
                  repeat (first | exact hbx.out | refine Below.alloc ?_ (by first | exact hwsx | (simp only [World.size_alloc]; omega)) _)
                | false =>
                  cases q8 with
                  | true =>
                    go_wp2_with fail
                    refine wp_loop_rounds 9 ?_
                    rw [rounds_succ]
                    go_wp2_with fail
                    rw [rounds_succ]
                    go_wp2_with fail
                    rw [rounds_succ]
                    go_wp2_with fail
                    rw [rounds_succ]
                    go_wp2_with fail
                    rw [rounds_succ]
                    go_wp2_with fail
                    rw [rounds_succ]
                    go_wp2_with fail
                    rw [rounds_succ]
                    go_wp2_with fail
                    rw [rounds_succ]
                    go_wp2_with fail
                    rw [rounds_succ]
                    go_wp2_with fail
                    go_ret
                    refine ⟨by rw [HQ.out]; rfl, ?_⟩
                    repeat (first | exact hbx.out | refine Below.alloc ?_ (by first | exact hwsx | (simp only [World.size_alloc]; omega)) _)
                  | false =>
                    go_wp2_with fail
                    refine wp_loop_rounds 10 ?_
                    rw [rounds_succ]
                    go_wp2_with fail
                    rw [rounds_succ]
                    go_wp2_with fail
                    rw [rounds_succ]
                    go_wp2_with fail
                    rw [rounds_succ]
                    go_wp2_with fail
                    rw [rounds_succ]
                    go_wp2_with fail
                    rw [rounds_succ]
                    go_wp2_with fail
                    rw [rounds_succ]
                    go_wp2_with fail
                    rw [rounds_succ]
                    go_wp2_with fail
                    rw [rounds_succ]
                    go_wp2_with fail
                    rw [rounds_succ]
                    go_wp2_with fail
                    go_ret
                    refine ⟨by rw [HQ.out]; rfl, ?_⟩
                    repeat (first | exact hbx.out | refine Below.alloc ?_ (by first | exact hwsx | (simp only [World.size_alloc]; omega)) _)
end
end Go.Proofs.Ytgbmhijgpdgdbaa
