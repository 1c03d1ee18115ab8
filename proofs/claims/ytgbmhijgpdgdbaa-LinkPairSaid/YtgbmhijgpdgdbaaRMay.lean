/- May a link be so, by the document: of whatever config. -/
import Derived.Test.YtgbmhijgpdgdbaaLc
namespace Go.Proofs.Ytgbmhijgpdgdbaa
open Go.RowKit

/-- Peers, as they lie. -/
def pcells (p : Int × Int) : List Value := [.int .u32 p.1, .int .u8 p.2]
def PeersAt (w : World) (N : Nat) (v : Value) (L : List (Int × Int)) : Prop := ∃ A cap, v = .slice A L.length cap ∧ Reads w N 2 A L.length (L.flatMap pcells)

/-- What the document asks of a config. -/
structure MayOk (c : LC) (L : List (Int × Int)) : Prop where
  ty : c.ty ≤ 4
  ro : c.ro ≠ 0
  hi : c.hi ≠ 0
  dd : c.dd ≠ 0
  po : c.peers = decide (0 < c.po)
  nb : c.nb ≤ 32
  vi : c.ty = 4 → c.na = 0 ∧ c.nb = 0 ∧ c.ad = 0 ∧ c.rm ≠ 0 ∧ c.rm ≠ c.ro ∧ c.ps = false ∧ L = []
  ot : c.ty ≠ 4 → c.rm = 0 ∧ c.ad ≠ 0 ∧ bits .andNot .u32 c.na (maskN c.nb.toNat) = 0 ∧ bits .and .u32 c.ad (maskN c.nb.toNat) = c.na ∧ (c.dm = true → c.ty = 3) ∧ (c.peers = false → L = []) ∧
    (c.peers = true → L.length ≤ 64 ∧ ∀ (i : Nat) (p : Int × Int), L[i]? = some p → p.1 ≠ 0 ∧ p.1 ≠ c.ad ∧ ∀ (k : Nat) (q : Int × Int), k < i → L[k]? = some q → q.1 ≠ p.1)

def MayPost (c : LC) (L : List (Int × Int)) (w : World) (e : Ending) (w' : World) : Prop := ∃ b, e = .returned (.bool b) ∧ (b = true → MayOk c L) ∧ Below w.heap.size w w'

set_option maxHeartbeats 4000000 in
set_option maxRecDepth 20000 in
theorem may_no1 (w : World) (c : LC) (L : List (Int × Int)) (_hL : PeersAt w w.heap.size c.pe L) (h1 : 4 < c.ty) (b : Bool) (hpb : c.peers = b) : Calls Try.prog 29 #[.agg c.cells] w fun e w' => MayPost c L w e w' := by
  unfold LC.cells
  have H_h1 := Lib.hid h1
  have H_hpb := Lib.hid hpb
  clear h1 hpb
  have HPe := Lib.hid rpeers_any
  go_enter Try.func29, Try.ntmps29
  go_upto_region 1 with fail
  obtain ⟨W0, hW0⟩ : ∃ W0, W0 = w.alloc (.cells c.cells 76) := ⟨_, rfl⟩
  have K0 : Hid (Blk W0 w.heap.size 76 c.cells) := Lib.hid (by rw [hW0]; exact Blk.new w _ _)
  have B0 : Hid (Below w.heap.size w W0) := Lib.hid (by rw [hW0]; exact (Below.refl _ w).alloc (Nat.le_refl _) _)
  have hs0 : w.heap.size < W0.heap.size := K0.out.lt
  unfold LC.cells at hW0
  rw [← hW0]
  clear hW0
  have h1 := H_h1.out
  have hpb := H_hpb.out
  have q0 := later_cell (v := .int .u8 c.ty) (B := w.heap.size + 1) (w0 := W0) (p := ⟨w.heap.size, 0, none⟩) (by simp) (K0.out.cell 0)
  have q1 := later_cell (v := .int .u32 c.ro) (B := w.heap.size + 1) (w0 := W0) (p := ⟨w.heap.size, 1, none⟩) (by simp) (K0.out.cell 1)
  have q2 := later_cell (v := .int .u32 c.na) (B := w.heap.size + 1) (w0 := W0) (p := ⟨w.heap.size, 2, none⟩) (by simp) (K0.out.cell 2)
  have q3 := later_cell (v := .int .u8 c.nb) (B := w.heap.size + 1) (w0 := W0) (p := ⟨w.heap.size, 3, none⟩) (by simp) (K0.out.cell 3)
  have q4 := later_cell (v := .int .u32 c.ad) (B := w.heap.size + 1) (w0 := W0) (p := ⟨w.heap.size, 4, none⟩) (by simp) (K0.out.cell 4)
  have q5 := later_cell (v := .int .u8 c.op) (B := w.heap.size + 1) (w0 := W0) (p := ⟨w.heap.size, 5, none⟩) (by simp) (K0.out.cell 5)
  have q6 := later_cell (v := .int .u16 c.hi) (B := w.heap.size + 1) (w0 := W0) (p := ⟨w.heap.size, 6, none⟩) (by simp) (K0.out.cell 6)
  have q7 := later_cell (v := .int .u32 c.dd) (B := w.heap.size + 1) (w0 := W0) (p := ⟨w.heap.size, 7, none⟩) (by simp) (K0.out.cell 7)
  have q8 := later_cell (v := .int .u16 c.po) (B := w.heap.size + 1) (w0 := W0) (p := ⟨w.heap.size, 8, none⟩) (by simp) (K0.out.cell 8)
  have q9 := later_cell (v := .int .u8 c.pr) (B := w.heap.size + 1) (w0 := W0) (p := ⟨w.heap.size, 9, none⟩) (by simp) (K0.out.cell 9)
  have q10 := later_cell (v := .bool c.dm) (B := w.heap.size + 1) (w0 := W0) (p := ⟨w.heap.size, 10, none⟩) (by simp) (K0.out.cell 10)
  have q11 := later_cell (v := .bool c.ps) (B := w.heap.size + 1) (w0 := W0) (p := ⟨w.heap.size, 11, none⟩) (by simp) (K0.out.cell 11)
  have q12 := later_cell (v := c.pe) (B := w.heap.size + 1) (w0 := W0) (p := ⟨w.heap.size, 12, none⟩) (by simp) (K0.out.cell 12)
  have q13 := later_cell (v := .int .u32 c.rm) (B := w.heap.size + 1) (w0 := W0) (p := ⟨w.heap.size, 13, none⟩) (by simp) (K0.out.cell 13)
  have d1 : Hid (∀ u : Later (w.heap.size + 1) W0, Calls Try.prog 62 #[.agg #[.int .u8 c.ty, .int .u32 c.ro, .int .u32 c.na, .int .u8 c.nb, .int .u32 c.ad, .int .u8 c.op, .int .u16 c.hi, .int .u32 c.dd, .int .u16 c.po, .int .u8 c.pr, .bool c.dm, .bool c.ps, c.pe, .int .u32 c.rm]] u.to fun e w' => e = .returned (.bool b) ∧ Below u.to.heap.size u.to w') := Lib.hid (fun u => by have h := HPe.out c u.to; rw [hpb] at h; exact h)
  refine wp_region_later (B := w.heap.size + 1) (w0 := W0) (by kernel_rfl) (by kernel_rfl) (Below.refl _ _) ?_
  repeat (go_big_quiet_step (first
    | (go_at_call 62; with_reducible exact later_call _ (by omega) (d1.out _))))
  refine wpQuiet_nil ?_
  rintro wx ⟨⟨wy, hwy⟩, hwe⟩
  obtain rfl : wx = wy := hwe
  have B1 := Lib.hid (B0.out.trans (hwy.mono (by omega)))
  have K1 := Lib.hid (K0.out.below hwy (by omega))
  clear d1 hwy q0 q1 q2 q3 q4 q5 q6 q7 q8 q9 q10 q11 q12 q13
  go_wp2_with fail
  go_ret
  exact ⟨false, rfl, (fun h => by cases h), B1.out⟩

set_option maxHeartbeats 4000000 in
set_option maxRecDepth 20000 in
theorem may_no2 (w : World) (c : LC) (L : List (Int × Int)) (_hL : PeersAt w w.heap.size c.pe L) (h1 : ¬ 4 < c.ty) (h2 : c.ro = 0) (b : Bool) (hpb : c.peers = b) : Calls Try.prog 29 #[.agg c.cells] w fun e w' => MayPost c L w e w' := by
  unfold LC.cells
  have H_h1 := Lib.hid h1
  have H_h2 := Lib.hid h2
  have H_hpb := Lib.hid hpb
  clear h1 h2 hpb
  have HPe := Lib.hid rpeers_any
  go_enter Try.func29, Try.ntmps29
  go_upto_region 1 with fail
  obtain ⟨W0, hW0⟩ : ∃ W0, W0 = w.alloc (.cells c.cells 76) := ⟨_, rfl⟩
  have K0 : Hid (Blk W0 w.heap.size 76 c.cells) := Lib.hid (by rw [hW0]; exact Blk.new w _ _)
  have B0 : Hid (Below w.heap.size w W0) := Lib.hid (by rw [hW0]; exact (Below.refl _ w).alloc (Nat.le_refl _) _)
  have hs0 : w.heap.size < W0.heap.size := K0.out.lt
  unfold LC.cells at hW0
  rw [← hW0]
  clear hW0
  have h1 := H_h1.out
  have h2 := H_h2.out
  have hpb := H_hpb.out
  have q0 := later_cell (v := .int .u8 c.ty) (B := w.heap.size + 1) (w0 := W0) (p := ⟨w.heap.size, 0, none⟩) (by simp) (K0.out.cell 0)
  have q1 := later_cell (v := .int .u32 c.ro) (B := w.heap.size + 1) (w0 := W0) (p := ⟨w.heap.size, 1, none⟩) (by simp) (K0.out.cell 1)
  have q2 := later_cell (v := .int .u32 c.na) (B := w.heap.size + 1) (w0 := W0) (p := ⟨w.heap.size, 2, none⟩) (by simp) (K0.out.cell 2)
  have q3 := later_cell (v := .int .u8 c.nb) (B := w.heap.size + 1) (w0 := W0) (p := ⟨w.heap.size, 3, none⟩) (by simp) (K0.out.cell 3)
  have q4 := later_cell (v := .int .u32 c.ad) (B := w.heap.size + 1) (w0 := W0) (p := ⟨w.heap.size, 4, none⟩) (by simp) (K0.out.cell 4)
  have q5 := later_cell (v := .int .u8 c.op) (B := w.heap.size + 1) (w0 := W0) (p := ⟨w.heap.size, 5, none⟩) (by simp) (K0.out.cell 5)
  have q6 := later_cell (v := .int .u16 c.hi) (B := w.heap.size + 1) (w0 := W0) (p := ⟨w.heap.size, 6, none⟩) (by simp) (K0.out.cell 6)
  have q7 := later_cell (v := .int .u32 c.dd) (B := w.heap.size + 1) (w0 := W0) (p := ⟨w.heap.size, 7, none⟩) (by simp) (K0.out.cell 7)
  have q8 := later_cell (v := .int .u16 c.po) (B := w.heap.size + 1) (w0 := W0) (p := ⟨w.heap.size, 8, none⟩) (by simp) (K0.out.cell 8)
  have q9 := later_cell (v := .int .u8 c.pr) (B := w.heap.size + 1) (w0 := W0) (p := ⟨w.heap.size, 9, none⟩) (by simp) (K0.out.cell 9)
  have q10 := later_cell (v := .bool c.dm) (B := w.heap.size + 1) (w0 := W0) (p := ⟨w.heap.size, 10, none⟩) (by simp) (K0.out.cell 10)
  have q11 := later_cell (v := .bool c.ps) (B := w.heap.size + 1) (w0 := W0) (p := ⟨w.heap.size, 11, none⟩) (by simp) (K0.out.cell 11)
  have q12 := later_cell (v := c.pe) (B := w.heap.size + 1) (w0 := W0) (p := ⟨w.heap.size, 12, none⟩) (by simp) (K0.out.cell 12)
  have q13 := later_cell (v := .int .u32 c.rm) (B := w.heap.size + 1) (w0 := W0) (p := ⟨w.heap.size, 13, none⟩) (by simp) (K0.out.cell 13)
  have d1 : Hid (∀ u : Later (w.heap.size + 1) W0, Calls Try.prog 62 #[.agg #[.int .u8 c.ty, .int .u32 c.ro, .int .u32 c.na, .int .u8 c.nb, .int .u32 c.ad, .int .u8 c.op, .int .u16 c.hi, .int .u32 c.dd, .int .u16 c.po, .int .u8 c.pr, .bool c.dm, .bool c.ps, c.pe, .int .u32 c.rm]] u.to fun e w' => e = .returned (.bool b) ∧ Below u.to.heap.size u.to w') := Lib.hid (fun u => by have h := HPe.out c u.to; rw [hpb] at h; exact h)
  refine wp_region_later (B := w.heap.size + 1) (w0 := W0) (by kernel_rfl) (by kernel_rfl) (Below.refl _ _) ?_
  repeat (go_big_quiet_step (first
    | (go_at_call 62; with_reducible exact later_call _ (by omega) (d1.out _))))
  refine wpQuiet_nil ?_
  rintro wx ⟨⟨wy, hwy⟩, hwe⟩
  obtain rfl : wx = wy := hwe
  have B1 := Lib.hid (B0.out.trans (hwy.mono (by omega)))
  have K1 := Lib.hid (K0.out.below hwy (by omega))
  clear d1 hwy q0 q1 q2 q3 q4 q5 q6 q7 q8 q9 q10 q11 q12 q13
  go_wp2_with fail
  go_ret
  exact ⟨false, rfl, (fun h => by cases h), B1.out⟩

set_option maxHeartbeats 4000000 in
set_option maxRecDepth 20000 in
theorem may_no3 (w : World) (c : LC) (L : List (Int × Int)) (_hL : PeersAt w w.heap.size c.pe L) (h1 : ¬ 4 < c.ty) (h2 : c.ro ≠ 0) (h3 : c.hi = 0) (b : Bool) (hpb : c.peers = b) : Calls Try.prog 29 #[.agg c.cells] w fun e w' => MayPost c L w e w' := by
  unfold LC.cells
  have H_h1 := Lib.hid h1
  have H_h2 := Lib.hid h2
  have H_h3 := Lib.hid h3
  have H_hpb := Lib.hid hpb
  clear h1 h2 h3 hpb
  have HPe := Lib.hid rpeers_any
  go_enter Try.func29, Try.ntmps29
  go_upto_region 1 with fail
  obtain ⟨W0, hW0⟩ : ∃ W0, W0 = w.alloc (.cells c.cells 76) := ⟨_, rfl⟩
  have K0 : Hid (Blk W0 w.heap.size 76 c.cells) := Lib.hid (by rw [hW0]; exact Blk.new w _ _)
  have B0 : Hid (Below w.heap.size w W0) := Lib.hid (by rw [hW0]; exact (Below.refl _ w).alloc (Nat.le_refl _) _)
  have hs0 : w.heap.size < W0.heap.size := K0.out.lt
  unfold LC.cells at hW0
  rw [← hW0]
  clear hW0
  have h1 := H_h1.out
  have h2 := H_h2.out
  have h3 := H_h3.out
  have hpb := H_hpb.out
  have e_h2 : (c.ro == 0) = false := by simpa using h2
  have q0 := later_cell (v := .int .u8 c.ty) (B := w.heap.size + 1) (w0 := W0) (p := ⟨w.heap.size, 0, none⟩) (by simp) (K0.out.cell 0)
  have q1 := later_cell (v := .int .u32 c.ro) (B := w.heap.size + 1) (w0 := W0) (p := ⟨w.heap.size, 1, none⟩) (by simp) (K0.out.cell 1)
  have q2 := later_cell (v := .int .u32 c.na) (B := w.heap.size + 1) (w0 := W0) (p := ⟨w.heap.size, 2, none⟩) (by simp) (K0.out.cell 2)
  have q3 := later_cell (v := .int .u8 c.nb) (B := w.heap.size + 1) (w0 := W0) (p := ⟨w.heap.size, 3, none⟩) (by simp) (K0.out.cell 3)
  have q4 := later_cell (v := .int .u32 c.ad) (B := w.heap.size + 1) (w0 := W0) (p := ⟨w.heap.size, 4, none⟩) (by simp) (K0.out.cell 4)
  have q5 := later_cell (v := .int .u8 c.op) (B := w.heap.size + 1) (w0 := W0) (p := ⟨w.heap.size, 5, none⟩) (by simp) (K0.out.cell 5)
  have q6 := later_cell (v := .int .u16 c.hi) (B := w.heap.size + 1) (w0 := W0) (p := ⟨w.heap.size, 6, none⟩) (by simp) (K0.out.cell 6)
  have q7 := later_cell (v := .int .u32 c.dd) (B := w.heap.size + 1) (w0 := W0) (p := ⟨w.heap.size, 7, none⟩) (by simp) (K0.out.cell 7)
  have q8 := later_cell (v := .int .u16 c.po) (B := w.heap.size + 1) (w0 := W0) (p := ⟨w.heap.size, 8, none⟩) (by simp) (K0.out.cell 8)
  have q9 := later_cell (v := .int .u8 c.pr) (B := w.heap.size + 1) (w0 := W0) (p := ⟨w.heap.size, 9, none⟩) (by simp) (K0.out.cell 9)
  have q10 := later_cell (v := .bool c.dm) (B := w.heap.size + 1) (w0 := W0) (p := ⟨w.heap.size, 10, none⟩) (by simp) (K0.out.cell 10)
  have q11 := later_cell (v := .bool c.ps) (B := w.heap.size + 1) (w0 := W0) (p := ⟨w.heap.size, 11, none⟩) (by simp) (K0.out.cell 11)
  have q12 := later_cell (v := c.pe) (B := w.heap.size + 1) (w0 := W0) (p := ⟨w.heap.size, 12, none⟩) (by simp) (K0.out.cell 12)
  have q13 := later_cell (v := .int .u32 c.rm) (B := w.heap.size + 1) (w0 := W0) (p := ⟨w.heap.size, 13, none⟩) (by simp) (K0.out.cell 13)
  have d1 : Hid (∀ u : Later (w.heap.size + 1) W0, Calls Try.prog 62 #[.agg #[.int .u8 c.ty, .int .u32 c.ro, .int .u32 c.na, .int .u8 c.nb, .int .u32 c.ad, .int .u8 c.op, .int .u16 c.hi, .int .u32 c.dd, .int .u16 c.po, .int .u8 c.pr, .bool c.dm, .bool c.ps, c.pe, .int .u32 c.rm]] u.to fun e w' => e = .returned (.bool b) ∧ Below u.to.heap.size u.to w') := Lib.hid (fun u => by have h := HPe.out c u.to; rw [hpb] at h; exact h)
  refine wp_region_later (B := w.heap.size + 1) (w0 := W0) (by kernel_rfl) (by kernel_rfl) (Below.refl _ _) ?_
  repeat (go_big_quiet_step (first
    | (go_at_call 62; with_reducible exact later_call _ (by omega) (d1.out _))))
  refine wpQuiet_nil ?_
  rintro wx ⟨⟨wy, hwy⟩, hwe⟩
  obtain rfl : wx = wy := hwe
  have B1 := Lib.hid (B0.out.trans (hwy.mono (by omega)))
  have K1 := Lib.hid (K0.out.below hwy (by omega))
  clear d1 hwy q0 q1 q2 q3 q4 q5 q6 q7 q8 q9 q10 q11 q12 q13
  go_wp2_with fail
  go_ret
  exact ⟨false, rfl, (fun h => by cases h), B1.out⟩

set_option maxHeartbeats 4000000 in
set_option maxRecDepth 20000 in
theorem may_no4 (w : World) (c : LC) (L : List (Int × Int)) (_hL : PeersAt w w.heap.size c.pe L) (h1 : ¬ 4 < c.ty) (h2 : c.ro ≠ 0) (h3 : c.hi ≠ 0) (h4 : c.dd = 0) (b : Bool) (hpb : c.peers = b) : Calls Try.prog 29 #[.agg c.cells] w fun e w' => MayPost c L w e w' := by
  unfold LC.cells
  have H_h1 := Lib.hid h1
  have H_h2 := Lib.hid h2
  have H_h3 := Lib.hid h3
  have H_h4 := Lib.hid h4
  have H_hpb := Lib.hid hpb
  clear h1 h2 h3 h4 hpb
  have HPe := Lib.hid rpeers_any
  go_enter Try.func29, Try.ntmps29
  go_upto_region 1 with fail
  obtain ⟨W0, hW0⟩ : ∃ W0, W0 = w.alloc (.cells c.cells 76) := ⟨_, rfl⟩
  have K0 : Hid (Blk W0 w.heap.size 76 c.cells) := Lib.hid (by rw [hW0]; exact Blk.new w _ _)
  have B0 : Hid (Below w.heap.size w W0) := Lib.hid (by rw [hW0]; exact (Below.refl _ w).alloc (Nat.le_refl _) _)
  have hs0 : w.heap.size < W0.heap.size := K0.out.lt
  unfold LC.cells at hW0
  rw [← hW0]
  clear hW0
  have h1 := H_h1.out
  have h2 := H_h2.out
  have h3 := H_h3.out
  have h4 := H_h4.out
  have hpb := H_hpb.out
  have e_h2 : (c.ro == 0) = false := by simpa using h2
  have e_h3 : (c.hi == 0) = false := by simpa using h3
  have q0 := later_cell (v := .int .u8 c.ty) (B := w.heap.size + 1) (w0 := W0) (p := ⟨w.heap.size, 0, none⟩) (by simp) (K0.out.cell 0)
  have q1 := later_cell (v := .int .u32 c.ro) (B := w.heap.size + 1) (w0 := W0) (p := ⟨w.heap.size, 1, none⟩) (by simp) (K0.out.cell 1)
  have q2 := later_cell (v := .int .u32 c.na) (B := w.heap.size + 1) (w0 := W0) (p := ⟨w.heap.size, 2, none⟩) (by simp) (K0.out.cell 2)
  have q3 := later_cell (v := .int .u8 c.nb) (B := w.heap.size + 1) (w0 := W0) (p := ⟨w.heap.size, 3, none⟩) (by simp) (K0.out.cell 3)
  have q4 := later_cell (v := .int .u32 c.ad) (B := w.heap.size + 1) (w0 := W0) (p := ⟨w.heap.size, 4, none⟩) (by simp) (K0.out.cell 4)
  have q5 := later_cell (v := .int .u8 c.op) (B := w.heap.size + 1) (w0 := W0) (p := ⟨w.heap.size, 5, none⟩) (by simp) (K0.out.cell 5)
  have q6 := later_cell (v := .int .u16 c.hi) (B := w.heap.size + 1) (w0 := W0) (p := ⟨w.heap.size, 6, none⟩) (by simp) (K0.out.cell 6)
  have q7 := later_cell (v := .int .u32 c.dd) (B := w.heap.size + 1) (w0 := W0) (p := ⟨w.heap.size, 7, none⟩) (by simp) (K0.out.cell 7)
  have q8 := later_cell (v := .int .u16 c.po) (B := w.heap.size + 1) (w0 := W0) (p := ⟨w.heap.size, 8, none⟩) (by simp) (K0.out.cell 8)
  have q9 := later_cell (v := .int .u8 c.pr) (B := w.heap.size + 1) (w0 := W0) (p := ⟨w.heap.size, 9, none⟩) (by simp) (K0.out.cell 9)
  have q10 := later_cell (v := .bool c.dm) (B := w.heap.size + 1) (w0 := W0) (p := ⟨w.heap.size, 10, none⟩) (by simp) (K0.out.cell 10)
  have q11 := later_cell (v := .bool c.ps) (B := w.heap.size + 1) (w0 := W0) (p := ⟨w.heap.size, 11, none⟩) (by simp) (K0.out.cell 11)
  have q12 := later_cell (v := c.pe) (B := w.heap.size + 1) (w0 := W0) (p := ⟨w.heap.size, 12, none⟩) (by simp) (K0.out.cell 12)
  have q13 := later_cell (v := .int .u32 c.rm) (B := w.heap.size + 1) (w0 := W0) (p := ⟨w.heap.size, 13, none⟩) (by simp) (K0.out.cell 13)
  have d1 : Hid (∀ u : Later (w.heap.size + 1) W0, Calls Try.prog 62 #[.agg #[.int .u8 c.ty, .int .u32 c.ro, .int .u32 c.na, .int .u8 c.nb, .int .u32 c.ad, .int .u8 c.op, .int .u16 c.hi, .int .u32 c.dd, .int .u16 c.po, .int .u8 c.pr, .bool c.dm, .bool c.ps, c.pe, .int .u32 c.rm]] u.to fun e w' => e = .returned (.bool b) ∧ Below u.to.heap.size u.to w') := Lib.hid (fun u => by have h := HPe.out c u.to; rw [hpb] at h; exact h)
  refine wp_region_later (B := w.heap.size + 1) (w0 := W0) (by kernel_rfl) (by kernel_rfl) (Below.refl _ _) ?_
  repeat (go_big_quiet_step (first
    | (go_at_call 62; with_reducible exact later_call _ (by omega) (d1.out _))))
  refine wpQuiet_nil ?_
  rintro wx ⟨⟨wy, hwy⟩, hwe⟩
  obtain rfl : wx = wy := hwe
  have B1 := Lib.hid (B0.out.trans (hwy.mono (by omega)))
  have K1 := Lib.hid (K0.out.below hwy (by omega))
  clear d1 hwy q0 q1 q2 q3 q4 q5 q6 q7 q8 q9 q10 q11 q12 q13
  go_wp2_with fail
  go_ret
  exact ⟨false, rfl, (fun h => by cases h), B1.out⟩

set_option maxHeartbeats 4000000 in
set_option maxRecDepth 20000 in
theorem may_no5a (w : World) (c : LC) (L : List (Int × Int)) (_hL : PeersAt w w.heap.size c.pe L) (h1 : ¬ 4 < c.ty) (h2 : c.ro ≠ 0) (h3 : c.hi ≠ 0) (h4 : c.dd ≠ 0) (h5 : ¬ 0 < c.po) (hpb : c.peers = true) : Calls Try.prog 29 #[.agg c.cells] w fun e w' => MayPost c L w e w' := by
  unfold LC.cells
  have H_h1 := Lib.hid h1
  have H_h2 := Lib.hid h2
  have H_h3 := Lib.hid h3
  have H_h4 := Lib.hid h4
  have H_h5 := Lib.hid h5
  have H_hpb := Lib.hid hpb
  clear h1 h2 h3 h4 h5 hpb
  have HPe := Lib.hid rpeers_any
  go_enter Try.func29, Try.ntmps29
  go_upto_region 1 with fail
  obtain ⟨W0, hW0⟩ : ∃ W0, W0 = w.alloc (.cells c.cells 76) := ⟨_, rfl⟩
  have K0 : Hid (Blk W0 w.heap.size 76 c.cells) := Lib.hid (by rw [hW0]; exact Blk.new w _ _)
  have B0 : Hid (Below w.heap.size w W0) := Lib.hid (by rw [hW0]; exact (Below.refl _ w).alloc (Nat.le_refl _) _)
  have hs0 : w.heap.size < W0.heap.size := K0.out.lt
  unfold LC.cells at hW0
  rw [← hW0]
  clear hW0
  have h1 := H_h1.out
  have h2 := H_h2.out
  have h3 := H_h3.out
  have h4 := H_h4.out
  have h5 := H_h5.out
  have hpb := H_hpb.out
  have e_h2 : (c.ro == 0) = false := by simpa using h2
  have e_h3 : (c.hi == 0) = false := by simpa using h3
  have e_h4 : (c.dd == 0) = false := by simpa using h4
  have q0 := later_cell (v := .int .u8 c.ty) (B := w.heap.size + 1) (w0 := W0) (p := ⟨w.heap.size, 0, none⟩) (by simp) (K0.out.cell 0)
  have q1 := later_cell (v := .int .u32 c.ro) (B := w.heap.size + 1) (w0 := W0) (p := ⟨w.heap.size, 1, none⟩) (by simp) (K0.out.cell 1)
  have q2 := later_cell (v := .int .u32 c.na) (B := w.heap.size + 1) (w0 := W0) (p := ⟨w.heap.size, 2, none⟩) (by simp) (K0.out.cell 2)
  have q3 := later_cell (v := .int .u8 c.nb) (B := w.heap.size + 1) (w0 := W0) (p := ⟨w.heap.size, 3, none⟩) (by simp) (K0.out.cell 3)
  have q4 := later_cell (v := .int .u32 c.ad) (B := w.heap.size + 1) (w0 := W0) (p := ⟨w.heap.size, 4, none⟩) (by simp) (K0.out.cell 4)
  have q5 := later_cell (v := .int .u8 c.op) (B := w.heap.size + 1) (w0 := W0) (p := ⟨w.heap.size, 5, none⟩) (by simp) (K0.out.cell 5)
  have q6 := later_cell (v := .int .u16 c.hi) (B := w.heap.size + 1) (w0 := W0) (p := ⟨w.heap.size, 6, none⟩) (by simp) (K0.out.cell 6)
  have q7 := later_cell (v := .int .u32 c.dd) (B := w.heap.size + 1) (w0 := W0) (p := ⟨w.heap.size, 7, none⟩) (by simp) (K0.out.cell 7)
  have q8 := later_cell (v := .int .u16 c.po) (B := w.heap.size + 1) (w0 := W0) (p := ⟨w.heap.size, 8, none⟩) (by simp) (K0.out.cell 8)
  have q9 := later_cell (v := .int .u8 c.pr) (B := w.heap.size + 1) (w0 := W0) (p := ⟨w.heap.size, 9, none⟩) (by simp) (K0.out.cell 9)
  have q10 := later_cell (v := .bool c.dm) (B := w.heap.size + 1) (w0 := W0) (p := ⟨w.heap.size, 10, none⟩) (by simp) (K0.out.cell 10)
  have q11 := later_cell (v := .bool c.ps) (B := w.heap.size + 1) (w0 := W0) (p := ⟨w.heap.size, 11, none⟩) (by simp) (K0.out.cell 11)
  have q12 := later_cell (v := c.pe) (B := w.heap.size + 1) (w0 := W0) (p := ⟨w.heap.size, 12, none⟩) (by simp) (K0.out.cell 12)
  have q13 := later_cell (v := .int .u32 c.rm) (B := w.heap.size + 1) (w0 := W0) (p := ⟨w.heap.size, 13, none⟩) (by simp) (K0.out.cell 13)
  have d1 : Hid (∀ u : Later (w.heap.size + 1) W0, Calls Try.prog 62 #[.agg #[.int .u8 c.ty, .int .u32 c.ro, .int .u32 c.na, .int .u8 c.nb, .int .u32 c.ad, .int .u8 c.op, .int .u16 c.hi, .int .u32 c.dd, .int .u16 c.po, .int .u8 c.pr, .bool c.dm, .bool c.ps, c.pe, .int .u32 c.rm]] u.to fun e w' => e = .returned (.bool true) ∧ Below u.to.heap.size u.to w') := Lib.hid (fun u => by have h := HPe.out c u.to; rw [hpb] at h; exact h)
  refine wp_region_later (B := w.heap.size + 1) (w0 := W0) (by kernel_rfl) (by kernel_rfl) (Below.refl _ _) ?_
  repeat (go_big_quiet_step (first
    | (go_at_call 62; with_reducible exact later_call _ (by omega) (d1.out _))))
  refine wpQuiet_nil ?_
  rintro wx ⟨⟨wy, hwy⟩, hwe⟩
  obtain rfl : wx = wy := hwe
  have B1 := Lib.hid (B0.out.trans (hwy.mono (by omega)))
  have K1 := Lib.hid (K0.out.below hwy (by omega))
  clear d1 hwy q0 q1 q2 q3 q4 q5 q6 q7 q8 q9 q10 q11 q12 q13
  go_wp2_with fail
  go_ret
  exact ⟨false, rfl, (fun h => by cases h), B1.out⟩

set_option maxHeartbeats 4000000 in
set_option maxRecDepth 20000 in
theorem may_no5b (w : World) (c : LC) (L : List (Int × Int)) (_hL : PeersAt w w.heap.size c.pe L) (h1 : ¬ 4 < c.ty) (h2 : c.ro ≠ 0) (h3 : c.hi ≠ 0) (h4 : c.dd ≠ 0) (h5 : 0 < c.po) (hpb : c.peers = false) : Calls Try.prog 29 #[.agg c.cells] w fun e w' => MayPost c L w e w' := by
  unfold LC.cells
  have H_h1 := Lib.hid h1
  have H_h2 := Lib.hid h2
  have H_h3 := Lib.hid h3
  have H_h4 := Lib.hid h4
  have H_h5 := Lib.hid h5
  have H_hpb := Lib.hid hpb
  clear h1 h2 h3 h4 h5 hpb
  have HPe := Lib.hid rpeers_any
  go_enter Try.func29, Try.ntmps29
  go_upto_region 1 with fail
  obtain ⟨W0, hW0⟩ : ∃ W0, W0 = w.alloc (.cells c.cells 76) := ⟨_, rfl⟩
  have K0 : Hid (Blk W0 w.heap.size 76 c.cells) := Lib.hid (by rw [hW0]; exact Blk.new w _ _)
  have B0 : Hid (Below w.heap.size w W0) := Lib.hid (by rw [hW0]; exact (Below.refl _ w).alloc (Nat.le_refl _) _)
  have hs0 : w.heap.size < W0.heap.size := K0.out.lt
  unfold LC.cells at hW0
  rw [← hW0]
  clear hW0
  have h1 := H_h1.out
  have h2 := H_h2.out
  have h3 := H_h3.out
  have h4 := H_h4.out
  have h5 := H_h5.out
  have hpb := H_hpb.out
  have e_h2 : (c.ro == 0) = false := by simpa using h2
  have e_h3 : (c.hi == 0) = false := by simpa using h3
  have e_h4 : (c.dd == 0) = false := by simpa using h4
  have q0 := later_cell (v := .int .u8 c.ty) (B := w.heap.size + 1) (w0 := W0) (p := ⟨w.heap.size, 0, none⟩) (by simp) (K0.out.cell 0)
  have q1 := later_cell (v := .int .u32 c.ro) (B := w.heap.size + 1) (w0 := W0) (p := ⟨w.heap.size, 1, none⟩) (by simp) (K0.out.cell 1)
  have q2 := later_cell (v := .int .u32 c.na) (B := w.heap.size + 1) (w0 := W0) (p := ⟨w.heap.size, 2, none⟩) (by simp) (K0.out.cell 2)
  have q3 := later_cell (v := .int .u8 c.nb) (B := w.heap.size + 1) (w0 := W0) (p := ⟨w.heap.size, 3, none⟩) (by simp) (K0.out.cell 3)
  have q4 := later_cell (v := .int .u32 c.ad) (B := w.heap.size + 1) (w0 := W0) (p := ⟨w.heap.size, 4, none⟩) (by simp) (K0.out.cell 4)
  have q5 := later_cell (v := .int .u8 c.op) (B := w.heap.size + 1) (w0 := W0) (p := ⟨w.heap.size, 5, none⟩) (by simp) (K0.out.cell 5)
  have q6 := later_cell (v := .int .u16 c.hi) (B := w.heap.size + 1) (w0 := W0) (p := ⟨w.heap.size, 6, none⟩) (by simp) (K0.out.cell 6)
  have q7 := later_cell (v := .int .u32 c.dd) (B := w.heap.size + 1) (w0 := W0) (p := ⟨w.heap.size, 7, none⟩) (by simp) (K0.out.cell 7)
  have q8 := later_cell (v := .int .u16 c.po) (B := w.heap.size + 1) (w0 := W0) (p := ⟨w.heap.size, 8, none⟩) (by simp) (K0.out.cell 8)
  have q9 := later_cell (v := .int .u8 c.pr) (B := w.heap.size + 1) (w0 := W0) (p := ⟨w.heap.size, 9, none⟩) (by simp) (K0.out.cell 9)
  have q10 := later_cell (v := .bool c.dm) (B := w.heap.size + 1) (w0 := W0) (p := ⟨w.heap.size, 10, none⟩) (by simp) (K0.out.cell 10)
  have q11 := later_cell (v := .bool c.ps) (B := w.heap.size + 1) (w0 := W0) (p := ⟨w.heap.size, 11, none⟩) (by simp) (K0.out.cell 11)
  have q12 := later_cell (v := c.pe) (B := w.heap.size + 1) (w0 := W0) (p := ⟨w.heap.size, 12, none⟩) (by simp) (K0.out.cell 12)
  have q13 := later_cell (v := .int .u32 c.rm) (B := w.heap.size + 1) (w0 := W0) (p := ⟨w.heap.size, 13, none⟩) (by simp) (K0.out.cell 13)
  have d1 : Hid (∀ u : Later (w.heap.size + 1) W0, Calls Try.prog 62 #[.agg #[.int .u8 c.ty, .int .u32 c.ro, .int .u32 c.na, .int .u8 c.nb, .int .u32 c.ad, .int .u8 c.op, .int .u16 c.hi, .int .u32 c.dd, .int .u16 c.po, .int .u8 c.pr, .bool c.dm, .bool c.ps, c.pe, .int .u32 c.rm]] u.to fun e w' => e = .returned (.bool false) ∧ Below u.to.heap.size u.to w') := Lib.hid (fun u => by have h := HPe.out c u.to; rw [hpb] at h; exact h)
  refine wp_region_later (B := w.heap.size + 1) (w0 := W0) (by kernel_rfl) (by kernel_rfl) (Below.refl _ _) ?_
  repeat (go_big_quiet_step (first
    | (go_at_call 62; with_reducible exact later_call _ (by omega) (d1.out _))))
  refine wpQuiet_nil ?_
  rintro wx ⟨⟨wy, hwy⟩, hwe⟩
  obtain rfl : wx = wy := hwe
  have B1 := Lib.hid (B0.out.trans (hwy.mono (by omega)))
  have K1 := Lib.hid (K0.out.below hwy (by omega))
  clear d1 hwy q0 q1 q2 q3 q4 q5 q6 q7 q8 q9 q10 q11 q12 q13
  go_wp2_with fail
  go_ret
  exact ⟨false, rfl, (fun h => by cases h), B1.out⟩

set_option maxHeartbeats 4000000 in
set_option maxRecDepth 20000 in
theorem may_no6a (w : World) (c : LC) (L : List (Int × Int)) (_hL : PeersAt w w.heap.size c.pe L) (h1 : ¬ 4 < c.ty) (h2 : c.ro ≠ 0) (h3 : c.hi ≠ 0) (h4 : c.dd ≠ 0) (h5 : 0 < c.po) (h6 : 32 < c.nb) (hpb : c.peers = true) : Calls Try.prog 29 #[.agg c.cells] w fun e w' => MayPost c L w e w' := by
  unfold LC.cells
  have H_h1 := Lib.hid h1
  have H_h2 := Lib.hid h2
  have H_h3 := Lib.hid h3
  have H_h4 := Lib.hid h4
  have H_h5 := Lib.hid h5
  have H_h6 := Lib.hid h6
  have H_hpb := Lib.hid hpb
  clear h1 h2 h3 h4 h5 h6 hpb
  have HPe := Lib.hid rpeers_any
  go_enter Try.func29, Try.ntmps29
  go_upto_region 1 with fail
  obtain ⟨W0, hW0⟩ : ∃ W0, W0 = w.alloc (.cells c.cells 76) := ⟨_, rfl⟩
  have K0 : Hid (Blk W0 w.heap.size 76 c.cells) := Lib.hid (by rw [hW0]; exact Blk.new w _ _)
  have B0 : Hid (Below w.heap.size w W0) := Lib.hid (by rw [hW0]; exact (Below.refl _ w).alloc (Nat.le_refl _) _)
  have hs0 : w.heap.size < W0.heap.size := K0.out.lt
  unfold LC.cells at hW0
  rw [← hW0]
  clear hW0
  have h1 := H_h1.out
  have h2 := H_h2.out
  have h3 := H_h3.out
  have h4 := H_h4.out
  have h5 := H_h5.out
  have h6 := H_h6.out
  have hpb := H_hpb.out
  have e_h2 : (c.ro == 0) = false := by simpa using h2
  have e_h3 : (c.hi == 0) = false := by simpa using h3
  have e_h4 : (c.dd == 0) = false := by simpa using h4
  have q0 := later_cell (v := .int .u8 c.ty) (B := w.heap.size + 1) (w0 := W0) (p := ⟨w.heap.size, 0, none⟩) (by simp) (K0.out.cell 0)
  have q1 := later_cell (v := .int .u32 c.ro) (B := w.heap.size + 1) (w0 := W0) (p := ⟨w.heap.size, 1, none⟩) (by simp) (K0.out.cell 1)
  have q2 := later_cell (v := .int .u32 c.na) (B := w.heap.size + 1) (w0 := W0) (p := ⟨w.heap.size, 2, none⟩) (by simp) (K0.out.cell 2)
  have q3 := later_cell (v := .int .u8 c.nb) (B := w.heap.size + 1) (w0 := W0) (p := ⟨w.heap.size, 3, none⟩) (by simp) (K0.out.cell 3)
  have q4 := later_cell (v := .int .u32 c.ad) (B := w.heap.size + 1) (w0 := W0) (p := ⟨w.heap.size, 4, none⟩) (by simp) (K0.out.cell 4)
  have q5 := later_cell (v := .int .u8 c.op) (B := w.heap.size + 1) (w0 := W0) (p := ⟨w.heap.size, 5, none⟩) (by simp) (K0.out.cell 5)
  have q6 := later_cell (v := .int .u16 c.hi) (B := w.heap.size + 1) (w0 := W0) (p := ⟨w.heap.size, 6, none⟩) (by simp) (K0.out.cell 6)
  have q7 := later_cell (v := .int .u32 c.dd) (B := w.heap.size + 1) (w0 := W0) (p := ⟨w.heap.size, 7, none⟩) (by simp) (K0.out.cell 7)
  have q8 := later_cell (v := .int .u16 c.po) (B := w.heap.size + 1) (w0 := W0) (p := ⟨w.heap.size, 8, none⟩) (by simp) (K0.out.cell 8)
  have q9 := later_cell (v := .int .u8 c.pr) (B := w.heap.size + 1) (w0 := W0) (p := ⟨w.heap.size, 9, none⟩) (by simp) (K0.out.cell 9)
  have q10 := later_cell (v := .bool c.dm) (B := w.heap.size + 1) (w0 := W0) (p := ⟨w.heap.size, 10, none⟩) (by simp) (K0.out.cell 10)
  have q11 := later_cell (v := .bool c.ps) (B := w.heap.size + 1) (w0 := W0) (p := ⟨w.heap.size, 11, none⟩) (by simp) (K0.out.cell 11)
  have q12 := later_cell (v := c.pe) (B := w.heap.size + 1) (w0 := W0) (p := ⟨w.heap.size, 12, none⟩) (by simp) (K0.out.cell 12)
  have q13 := later_cell (v := .int .u32 c.rm) (B := w.heap.size + 1) (w0 := W0) (p := ⟨w.heap.size, 13, none⟩) (by simp) (K0.out.cell 13)
  have d1 : Hid (∀ u : Later (w.heap.size + 1) W0, Calls Try.prog 62 #[.agg #[.int .u8 c.ty, .int .u32 c.ro, .int .u32 c.na, .int .u8 c.nb, .int .u32 c.ad, .int .u8 c.op, .int .u16 c.hi, .int .u32 c.dd, .int .u16 c.po, .int .u8 c.pr, .bool c.dm, .bool c.ps, c.pe, .int .u32 c.rm]] u.to fun e w' => e = .returned (.bool true) ∧ Below u.to.heap.size u.to w') := Lib.hid (fun u => by have h := HPe.out c u.to; rw [hpb] at h; exact h)
  refine wp_region_later (B := w.heap.size + 1) (w0 := W0) (by kernel_rfl) (by kernel_rfl) (Below.refl _ _) ?_
  repeat (go_big_quiet_step (first
    | (go_at_call 62; with_reducible exact later_call _ (by omega) (d1.out _))))
  refine wpQuiet_nil ?_
  rintro wx ⟨⟨wy, hwy⟩, hwe⟩
  obtain rfl : wx = wy := hwe
  have B1 := Lib.hid (B0.out.trans (hwy.mono (by omega)))
  have K1 := Lib.hid (K0.out.below hwy (by omega))
  clear d1 hwy q0 q1 q2 q3 q4 q5 q6 q7 q8 q9 q10 q11 q12 q13
  go_wp2_with fail
  go_ret
  exact ⟨false, rfl, (fun h => by cases h), B1.out⟩

set_option maxHeartbeats 4000000 in
set_option maxRecDepth 20000 in
theorem may_no6b (w : World) (c : LC) (L : List (Int × Int)) (_hL : PeersAt w w.heap.size c.pe L) (h1 : ¬ 4 < c.ty) (h2 : c.ro ≠ 0) (h3 : c.hi ≠ 0) (h4 : c.dd ≠ 0) (h5 : ¬ 0 < c.po) (h6 : 32 < c.nb) (hpb : c.peers = false) : Calls Try.prog 29 #[.agg c.cells] w fun e w' => MayPost c L w e w' := by
  unfold LC.cells
  have H_h1 := Lib.hid h1
  have H_h2 := Lib.hid h2
  have H_h3 := Lib.hid h3
  have H_h4 := Lib.hid h4
  have H_h5 := Lib.hid h5
  have H_h6 := Lib.hid h6
  have H_hpb := Lib.hid hpb
  clear h1 h2 h3 h4 h5 h6 hpb
  have HPe := Lib.hid rpeers_any
  go_enter Try.func29, Try.ntmps29
  go_upto_region 1 with fail
  obtain ⟨W0, hW0⟩ : ∃ W0, W0 = w.alloc (.cells c.cells 76) := ⟨_, rfl⟩
  have K0 : Hid (Blk W0 w.heap.size 76 c.cells) := Lib.hid (by rw [hW0]; exact Blk.new w _ _)
  have B0 : Hid (Below w.heap.size w W0) := Lib.hid (by rw [hW0]; exact (Below.refl _ w).alloc (Nat.le_refl _) _)
  have hs0 : w.heap.size < W0.heap.size := K0.out.lt
  unfold LC.cells at hW0
  rw [← hW0]
  clear hW0
  have h1 := H_h1.out
  have h2 := H_h2.out
  have h3 := H_h3.out
  have h4 := H_h4.out
  have h5 := H_h5.out
  have h6 := H_h6.out
  have hpb := H_hpb.out
  have e_h2 : (c.ro == 0) = false := by simpa using h2
  have e_h3 : (c.hi == 0) = false := by simpa using h3
  have e_h4 : (c.dd == 0) = false := by simpa using h4
  have q0 := later_cell (v := .int .u8 c.ty) (B := w.heap.size + 1) (w0 := W0) (p := ⟨w.heap.size, 0, none⟩) (by simp) (K0.out.cell 0)
  have q1 := later_cell (v := .int .u32 c.ro) (B := w.heap.size + 1) (w0 := W0) (p := ⟨w.heap.size, 1, none⟩) (by simp) (K0.out.cell 1)
  have q2 := later_cell (v := .int .u32 c.na) (B := w.heap.size + 1) (w0 := W0) (p := ⟨w.heap.size, 2, none⟩) (by simp) (K0.out.cell 2)
  have q3 := later_cell (v := .int .u8 c.nb) (B := w.heap.size + 1) (w0 := W0) (p := ⟨w.heap.size, 3, none⟩) (by simp) (K0.out.cell 3)
  have q4 := later_cell (v := .int .u32 c.ad) (B := w.heap.size + 1) (w0 := W0) (p := ⟨w.heap.size, 4, none⟩) (by simp) (K0.out.cell 4)
  have q5 := later_cell (v := .int .u8 c.op) (B := w.heap.size + 1) (w0 := W0) (p := ⟨w.heap.size, 5, none⟩) (by simp) (K0.out.cell 5)
  have q6 := later_cell (v := .int .u16 c.hi) (B := w.heap.size + 1) (w0 := W0) (p := ⟨w.heap.size, 6, none⟩) (by simp) (K0.out.cell 6)
  have q7 := later_cell (v := .int .u32 c.dd) (B := w.heap.size + 1) (w0 := W0) (p := ⟨w.heap.size, 7, none⟩) (by simp) (K0.out.cell 7)
  have q8 := later_cell (v := .int .u16 c.po) (B := w.heap.size + 1) (w0 := W0) (p := ⟨w.heap.size, 8, none⟩) (by simp) (K0.out.cell 8)
  have q9 := later_cell (v := .int .u8 c.pr) (B := w.heap.size + 1) (w0 := W0) (p := ⟨w.heap.size, 9, none⟩) (by simp) (K0.out.cell 9)
  have q10 := later_cell (v := .bool c.dm) (B := w.heap.size + 1) (w0 := W0) (p := ⟨w.heap.size, 10, none⟩) (by simp) (K0.out.cell 10)
  have q11 := later_cell (v := .bool c.ps) (B := w.heap.size + 1) (w0 := W0) (p := ⟨w.heap.size, 11, none⟩) (by simp) (K0.out.cell 11)
  have q12 := later_cell (v := c.pe) (B := w.heap.size + 1) (w0 := W0) (p := ⟨w.heap.size, 12, none⟩) (by simp) (K0.out.cell 12)
  have q13 := later_cell (v := .int .u32 c.rm) (B := w.heap.size + 1) (w0 := W0) (p := ⟨w.heap.size, 13, none⟩) (by simp) (K0.out.cell 13)
  have d1 : Hid (∀ u : Later (w.heap.size + 1) W0, Calls Try.prog 62 #[.agg #[.int .u8 c.ty, .int .u32 c.ro, .int .u32 c.na, .int .u8 c.nb, .int .u32 c.ad, .int .u8 c.op, .int .u16 c.hi, .int .u32 c.dd, .int .u16 c.po, .int .u8 c.pr, .bool c.dm, .bool c.ps, c.pe, .int .u32 c.rm]] u.to fun e w' => e = .returned (.bool false) ∧ Below u.to.heap.size u.to w') := Lib.hid (fun u => by have h := HPe.out c u.to; rw [hpb] at h; exact h)
  refine wp_region_later (B := w.heap.size + 1) (w0 := W0) (by kernel_rfl) (by kernel_rfl) (Below.refl _ _) ?_
  repeat (go_big_quiet_step (first
    | (go_at_call 62; with_reducible exact later_call _ (by omega) (d1.out _))))
  refine wpQuiet_nil ?_
  rintro wx ⟨⟨wy, hwy⟩, hwe⟩
  obtain rfl : wx = wy := hwe
  have B1 := Lib.hid (B0.out.trans (hwy.mono (by omega)))
  have K1 := Lib.hid (K0.out.below hwy (by omega))
  clear d1 hwy q0 q1 q2 q3 q4 q5 q6 q7 q8 q9 q10 q11 q12 q13
  go_wp2_with fail
  go_ret
  exact ⟨false, rfl, (fun h => by cases h), B1.out⟩
end Go.Proofs.Ytgbmhijgpdgdbaa
