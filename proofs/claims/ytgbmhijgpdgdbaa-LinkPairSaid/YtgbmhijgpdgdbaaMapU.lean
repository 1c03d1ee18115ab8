/- Maps keyed by a uint32: what a look-up, a store do to the block. -/
import Derived.Test.YtgbmhijgpdgdbaaRMayX
import Derived.Test.YtgbmhijgpdgdbaaAdj
namespace Go.Proofs.Ytgbmhijgpdgdbaa
open Go.RowKit

theorem below_drewN' {B : Nat} {a w : World} (h : Below B a w) (n : Nat) : Below B a (w.drewN n) := ⟨h.os, h.tape, h.output, h.size, h.block⟩

set_option maxHeartbeats 4000000 in
set_option maxRecDepth 20000 in
theorem may_peers_many (w : World) (c : LC) (L : List (Int × Int)) (hL : PeersAt w w.heap.size c.pe L) (h1 : ¬ 4 < c.ty) (h2 : c.ro ≠ 0) (h3 : c.hi ≠ 0) (h4 : c.dd ≠ 0) (h6 : ¬ 32 < c.nb) (hn0 : 0 ≤ c.nb) (h7 : c.ty ≠ 4) (h5 : 0 < c.po) (ha : c.rm = 0) (hb : c.ad ≠ 0) (hc : bits .andNot .u32 c.na (maskN c.nb.toNat) = 0) (hd : bits .and .u32 c.ad (maskN c.nb.toNat) = c.na) (he : c.dm = false) (hpb : c.peers = true) (hg : 64 < L.length) : Calls Try.prog 29 #[.agg c.cells] w fun e w' => MayPost c L w e w' := by
  unfold LC.cells
  have H_h1 := Lib.hid h1
  have H_h2 := Lib.hid h2
  have H_h3 := Lib.hid h3
  have H_h4 := Lib.hid h4
  have H_h6 := Lib.hid h6
  have H_hn0 := Lib.hid hn0
  have H_h7 := Lib.hid h7
  have H_h5 := Lib.hid h5
  have H_ha := Lib.hid ha
  have H_hb := Lib.hid hb
  have H_hc := Lib.hid hc
  have H_hd := Lib.hid hd
  have H_he := Lib.hid he
  have H_hpb := Lib.hid hpb
  have H_hg := Lib.hid hg
  clear h1 h2 h3 h4 h6 hn0 h7 h5 ha hb hc hd he hpb hg
  have HPe := Lib.hid rpeers_any
  go_enter Try.func29, Try.ntmps29
  go_upto_region 1 with fail
  obtain ⟨W0, hW0⟩ : ∃ W0, W0 = w.alloc (.cells c.cells 76) := ⟨_, rfl⟩
  have K0 : Hid (Blk W0 w.heap.size 76 c.cells) := Lib.hid (by rw [hW0]; exact Blk.new w _ _)
  have B0 : Hid (Below w.heap.size w W0) := Lib.hid (by rw [hW0]; exact (Below.refl _ w).alloc (Nat.le_refl _) _)
  have hs0 : w.heap.size < W0.heap.size := K0.out.lt
  unfold LC.cells at hW0
  rw [← hW0]
  clear hW0
  have h1 := H_h1.out
  have h2 := H_h2.out
  have h3 := H_h3.out
  have h4 := H_h4.out
  have h6 := H_h6.out
  have h5 := H_h5.out
  have hpb := H_hpb.out
  have e_h2 : (c.ro == 0) = false := by simpa using h2
  have e_h3 : (c.hi == 0) = false := by simpa using h3
  have e_h4 : (c.dd == 0) = false := by simpa using h4
  have q0 := later_cell (v := .int .u8 c.ty) (B := w.heap.size + 1) (w0 := W0) (p := ⟨w.heap.size, 0, none⟩) (by simp) (K0.out.cell 0)
  have q1 := later_cell (v := .int .u32 c.ro) (B := w.heap.size + 1) (w0 := W0) (p := ⟨w.heap.size, 1, none⟩) (by simp) (K0.out.cell 1)
  have q2 := later_cell (v := .int .u32 c.na) (B := w.heap.size + 1) (w0 := W0) (p := ⟨w.heap.size, 2, none⟩) (by simp) (K0.out.cell 2)
  have q3 := later_cell (v := .int .u8 c.nb) (B := w.heap.size + 1) (w0 := W0) (p := ⟨w.heap.size, 3, none⟩) (by simp) (K0.out.cell 3)
  have q4 := later_cell (v := .int .u32 c.ad) (B := w.heap.size + 1) (w0 := W0) (p := ⟨w.heap.size, 4, none⟩) (by simp) (K0.out.cell 4)
  have q5 := later_cell (v := .int .u8 c.op) (B := w.heap.size + 1) (w0 := W0) (p := ⟨w.heap.size, 5, none⟩) (by simp) (K0.out.cell 5)
  have q6 := later_cell (v := .int .u16 c.hi) (B := w.heap.size + 1) (w0 := W0) (p := ⟨w.heap.size, 6, none⟩) (by simp) (K0.out.cell 6)
  have q7 := later_cell (v := .int .u32 c.dd) (B := w.heap.size + 1) (w0 := W0) (p := ⟨w.heap.size, 7, none⟩) (by simp) (K0.out.cell 7)
  have q8 := later_cell (v := .int .u16 c.po) (B := w.heap.size + 1) (w0 := W0) (p := ⟨w.heap.size, 8, none⟩) (by simp) (K0.out.cell 8)
  have q9 := later_cell (v := .int .u8 c.pr) (B := w.heap.size + 1) (w0 := W0) (p := ⟨w.heap.size, 9, none⟩) (by simp) (K0.out.cell 9)
  have q10 := later_cell (v := .bool c.dm) (B := w.heap.size + 1) (w0 := W0) (p := ⟨w.heap.size, 10, none⟩) (by simp) (K0.out.cell 10)
  have q11 := later_cell (v := .bool c.ps) (B := w.heap.size + 1) (w0 := W0) (p := ⟨w.heap.size, 11, none⟩) (by simp) (K0.out.cell 11)
  have q12 := later_cell (v := c.pe) (B := w.heap.size + 1) (w0 := W0) (p := ⟨w.heap.size, 12, none⟩) (by simp) (K0.out.cell 12)
  have q13 := later_cell (v := .int .u32 c.rm) (B := w.heap.size + 1) (w0 := W0) (p := ⟨w.heap.size, 13, none⟩) (by simp) (K0.out.cell 13)
  have d1 : Hid (∀ u : Later (w.heap.size + 1) W0, Calls Try.prog 62 #[.agg #[.int .u8 c.ty, .int .u32 c.ro, .int .u32 c.na, .int .u8 c.nb, .int .u32 c.ad, .int .u8 c.op, .int .u16 c.hi, .int .u32 c.dd, .int .u16 c.po, .int .u8 c.pr, .bool c.dm, .bool c.ps, c.pe, .int .u32 c.rm]] u.to fun e w' => e = .returned (.bool true) ∧ Below u.to.heap.size u.to w') := Lib.hid (fun u => by have h := HPe.out c u.to; rw [hpb] at h; exact h)
  refine wp_region_later (B := w.heap.size + 1) (w0 := W0) (by kernel_rfl) (by kernel_rfl) (Below.refl _ _) ?_
  repeat (go_big_quiet_step (first
    | (go_at_call 62; with_reducible exact later_call _ (by omega) (d1.out _))))
  refine wpQuiet_nil ?_
  rintro wx ⟨⟨wy, hwy⟩, hwe⟩
  obtain rfl : wx = wy := hwe
  have B1 := Lib.hid (B0.out.trans (hwy.mono (by omega)))
  have K1 := Lib.hid (K0.out.below hwy (by omega))
  clear d1 hwy q0 q1 q2 q3 q4 q5 q6 q7 q8 q9 q10 q11 q12 q13
  have hn0 := H_hn0.out
  have h7 := H_h7.out
  have ha := H_ha.out
  have hb := H_hb.out
  have hc := H_hc.out
  have hd := H_hd.out
  have he := H_he.out
  have hg := H_hg.out
  have e_h7 : (c.ty == 4) = false := by simpa using h7
  have e_hb : (c.ad == 0) = false := by simpa using hb
  obtain ⟨A, cap, hpe, hr⟩ := hL
  have hp2 : ∀ W, Calls Try.prog 62 #[.agg #[.int .u8 c.ty, .int .u32 c.ro, .int .u32 c.na, .int .u8 c.nb, .int .u32 c.ad, .int .u8 c.op, .int .u16 c.hi, .int .u32 c.dd, .int .u16 c.po, .int .u8 c.pr, .bool c.dm, .bool c.ps, (.slice A L.length cap), .int .u32 c.rm]] W fun e w' => e = .returned (.bool true) ∧ Below W.heap.size W w' := fun W => by have h := HPe.out c W; rw [hpb] at h; unfold LC.cells at h; rw [hpe] at h; exact h
  have HP2 := Lib.hid hp2
  clear hp2
  have z0 : wx.cell? ⟨w.heap.size, 0, none⟩ = some (.int .u8 c.ty) := K1.out.cell 0
  have z1 : wx.cell? ⟨w.heap.size, 1, none⟩ = some (.int .u32 c.ro) := K1.out.cell 1
  have z2 : wx.cell? ⟨w.heap.size, 2, none⟩ = some (.int .u32 c.na) := K1.out.cell 2
  have z3 : wx.cell? ⟨w.heap.size, 3, none⟩ = some (.int .u8 c.nb) := K1.out.cell 3
  have z4 : wx.cell? ⟨w.heap.size, 4, none⟩ = some (.int .u32 c.ad) := K1.out.cell 4
  have z5 : wx.cell? ⟨w.heap.size, 5, none⟩ = some (.int .u8 c.op) := K1.out.cell 5
  have z6 : wx.cell? ⟨w.heap.size, 6, none⟩ = some (.int .u16 c.hi) := K1.out.cell 6
  have z7 : wx.cell? ⟨w.heap.size, 7, none⟩ = some (.int .u32 c.dd) := K1.out.cell 7
  have z8 : wx.cell? ⟨w.heap.size, 8, none⟩ = some (.int .u16 c.po) := K1.out.cell 8
  have z9 : wx.cell? ⟨w.heap.size, 9, none⟩ = some (.int .u8 c.pr) := K1.out.cell 9
  have z10 : wx.cell? ⟨w.heap.size, 10, none⟩ = some (.bool c.dm) := K1.out.cell 10
  have z11 : wx.cell? ⟨w.heap.size, 11, none⟩ = some (.bool c.ps) := K1.out.cell 11
  have z12 : wx.cell? ⟨w.heap.size, 12, none⟩ = some (c.pe) := K1.out.cell 12
  have z13 : wx.cell? ⟨w.heap.size, 13, none⟩ = some (.int .u32 c.rm) := K1.out.cell 13
  rw [hpe] at z12
  go_upto_region 8 with (go_at_call 34; refine (rmask_any _ c.nb hn0 (by omega)).mono ?_; rintro e w' ⟨rfl, rfl⟩)
  have H7 := Lib.hid h7
  clear ha hb hc hd he h7 e_h7 e_hb e_h2 e_h3 e_h4
  go_wp2_with fail
  refine (HP2.out _).mono ?_
  rintro e w2 ⟨rfl, hb2⟩
  have y12 : w2.cell? ⟨w.heap.size, 12, none⟩ = some (.slice A L.length cap) := (hb2.cell (p := ⟨w.heap.size, 12, none⟩) K1.out.lt).trans z12
  have y4 : w2.cell? ⟨w.heap.size, 4, none⟩ = some (.int .u32 c.ad) := (hb2.cell (p := ⟨w.heap.size, 4, none⟩) K1.out.lt).trans z4
  have HR := Lib.hid (hr.below (B1.out.trans (hb2.mono B1.out.size)))
  have B2 := Lib.hid (B1.out.trans (hb2.mono B1.out.size))
  have hz2 : w.heap.size < w2.heap.size := by have := hb2.size; have := K1.out.lt; omega
  clear hb2 hr z0 z1 z2 z3 z4 z5 z6 z7 z8 z9 z10 z11 z12 z13
  go_wp2_with fail
  go_ret
  exact ⟨false, rfl, (fun h => by cases h), B2.out⟩

set_option maxHeartbeats 4000000 in
set_option maxRecDepth 20000 in
theorem may_peers (w : World) (c : LC) (L : List (Int × Int)) (hL : PeersAt w w.heap.size c.pe L) (h1 : ¬ 4 < c.ty) (h2 : c.ro ≠ 0) (h3 : c.hi ≠ 0) (h4 : c.dd ≠ 0) (h6 : ¬ 32 < c.nb) (hn0 : 0 ≤ c.nb) (h7 : c.ty ≠ 4) (h5 : 0 < c.po) (ha : c.rm = 0) (hb : c.ad ≠ 0) (hc : bits .andNot .u32 c.na (maskN c.nb.toNat) = 0) (hd : bits .and .u32 c.ad (maskN c.nb.toNat) = c.na) (he : c.dm = false) (hpb : c.peers = true) (hg : L.length ≤ 64) : Calls Try.prog 29 #[.agg c.cells] w fun e w' => MayPost c L w e w' := by
  unfold LC.cells
  have H_h1 := Lib.hid h1
  have H_h2 := Lib.hid h2
  have H_h3 := Lib.hid h3
  have H_h4 := Lib.hid h4
  have H_h6 := Lib.hid h6
  have H_hn0 := Lib.hid hn0
  have H_h7 := Lib.hid h7
  have H_h5 := Lib.hid h5
  have H_ha := Lib.hid ha
  have H_hb := Lib.hid hb
  have H_hc := Lib.hid hc
  have H_hd := Lib.hid hd
  have H_he := Lib.hid he
  have H_hpb := Lib.hid hpb
  have H_hg := Lib.hid hg
  clear h1 h2 h3 h4 h6 hn0 h7 h5 ha hb hc hd he hpb hg
  have HPe := Lib.hid rpeers_any
  go_enter Try.func29, Try.ntmps29
  go_upto_region 1 with fail
  obtain ⟨W0, hW0⟩ : ∃ W0, W0 = w.alloc (.cells c.cells 76) := ⟨_, rfl⟩
  have K0 : Hid (Blk W0 w.heap.size 76 c.cells) := Lib.hid (by rw [hW0]; exact Blk.new w _ _)
  have B0 : Hid (Below w.heap.size w W0) := Lib.hid (by rw [hW0]; exact (Below.refl _ w).alloc (Nat.le_refl _) _)
  have hs0 : w.heap.size < W0.heap.size := K0.out.lt
  unfold LC.cells at hW0
  rw [← hW0]
  clear hW0
  have h1 := H_h1.out
  have h2 := H_h2.out
  have h3 := H_h3.out
  have h4 := H_h4.out
  have h6 := H_h6.out
  have h5 := H_h5.out
  have hpb := H_hpb.out
  have e_h2 : (c.ro == 0) = false := by simpa using h2
  have e_h3 : (c.hi == 0) = false := by simpa using h3
  have e_h4 : (c.dd == 0) = false := by simpa using h4
  have q0 := later_cell (v := .int .u8 c.ty) (B := w.heap.size + 1) (w0 := W0) (p := ⟨w.heap.size, 0, none⟩) (by simp) (K0.out.cell 0)
  have q1 := later_cell (v := .int .u32 c.ro) (B := w.heap.size + 1) (w0 := W0) (p := ⟨w.heap.size, 1, none⟩) (by simp) (K0.out.cell 1)
  have q2 := later_cell (v := .int .u32 c.na) (B := w.heap.size + 1) (w0 := W0) (p := ⟨w.heap.size, 2, none⟩) (by simp) (K0.out.cell 2)
  have q3 := later_cell (v := .int .u8 c.nb) (B := w.heap.size + 1) (w0 := W0) (p := ⟨w.heap.size, 3, none⟩) (by simp) (K0.out.cell 3)
  have q4 := later_cell (v := .int .u32 c.ad) (B := w.heap.size + 1) (w0 := W0) (p := ⟨w.heap.size, 4, none⟩) (by simp) (K0.out.cell 4)
  have q5 := later_cell (v := .int .u8 c.op) (B := w.heap.size + 1) (w0 := W0) (p := ⟨w.heap.size, 5, none⟩) (by simp) (K0.out.cell 5)
  have q6 := later_cell (v := .int .u16 c.hi) (B := w.heap.size + 1) (w0 := W0) (p := ⟨w.heap.size, 6, none⟩) (by simp) (K0.out.cell 6)
  have q7 := later_cell (v := .int .u32 c.dd) (B := w.heap.size + 1) (w0 := W0) (p := ⟨w.heap.size, 7, none⟩) (by simp) (K0.out.cell 7)
  have q8 := later_cell (v := .int .u16 c.po) (B := w.heap.size + 1) (w0 := W0) (p := ⟨w.heap.size, 8, none⟩) (by simp) (K0.out.cell 8)
  have q9 := later_cell (v := .int .u8 c.pr) (B := w.heap.size + 1) (w0 := W0) (p := ⟨w.heap.size, 9, none⟩) (by simp) (K0.out.cell 9)
  have q10 := later_cell (v := .bool c.dm) (B := w.heap.size + 1) (w0 := W0) (p := ⟨w.heap.size, 10, none⟩) (by simp) (K0.out.cell 10)
  have q11 := later_cell (v := .bool c.ps) (B := w.heap.size + 1) (w0 := W0) (p := ⟨w.heap.size, 11, none⟩) (by simp) (K0.out.cell 11)
  have q12 := later_cell (v := c.pe) (B := w.heap.size + 1) (w0 := W0) (p := ⟨w.heap.size, 12, none⟩) (by simp) (K0.out.cell 12)
  have q13 := later_cell (v := .int .u32 c.rm) (B := w.heap.size + 1) (w0 := W0) (p := ⟨w.heap.size, 13, none⟩) (by simp) (K0.out.cell 13)
  have d1 : Hid (∀ u : Later (w.heap.size + 1) W0, Calls Try.prog 62 #[.agg #[.int .u8 c.ty, .int .u32 c.ro, .int .u32 c.na, .int .u8 c.nb, .int .u32 c.ad, .int .u8 c.op, .int .u16 c.hi, .int .u32 c.dd, .int .u16 c.po, .int .u8 c.pr, .bool c.dm, .bool c.ps, c.pe, .int .u32 c.rm]] u.to fun e w' => e = .returned (.bool true) ∧ Below u.to.heap.size u.to w') := Lib.hid (fun u => by have h := HPe.out c u.to; rw [hpb] at h; exact h)
  refine wp_region_later (B := w.heap.size + 1) (w0 := W0) (by kernel_rfl) (by kernel_rfl) (Below.refl _ _) ?_
  repeat (go_big_quiet_step (first
    | (go_at_call 62; with_reducible exact later_call _ (by omega) (d1.out _))))
  refine wpQuiet_nil ?_
  rintro wx ⟨⟨wy, hwy⟩, hwe⟩
  obtain rfl : wx = wy := hwe
  have B1 := Lib.hid (B0.out.trans (hwy.mono (by omega)))
  have K1 := Lib.hid (K0.out.below hwy (by omega))
  clear d1 hwy q0 q1 q2 q3 q4 q5 q6 q7 q8 q9 q10 q11 q12 q13
  have hn0 := H_hn0.out
  have h7 := H_h7.out
  have ha := H_ha.out
  have hb := H_hb.out
  have hc := H_hc.out
  have hd := H_hd.out
  have he := H_he.out
  have hg := H_hg.out
  have e_h7 : (c.ty == 4) = false := by simpa using h7
  have e_hb : (c.ad == 0) = false := by simpa using hb
  obtain ⟨A, cap, hpe, hr⟩ := hL
  have hp2 : ∀ W, Calls Try.prog 62 #[.agg #[.int .u8 c.ty, .int .u32 c.ro, .int .u32 c.na, .int .u8 c.nb, .int .u32 c.ad, .int .u8 c.op, .int .u16 c.hi, .int .u32 c.dd, .int .u16 c.po, .int .u8 c.pr, .bool c.dm, .bool c.ps, (.slice A L.length cap), .int .u32 c.rm]] W fun e w' => e = .returned (.bool true) ∧ Below W.heap.size W w' := fun W => by have h := HPe.out c W; rw [hpb] at h; unfold LC.cells at h; rw [hpe] at h; exact h
  have HP2 := Lib.hid hp2
  clear hp2
  have z0 : wx.cell? ⟨w.heap.size, 0, none⟩ = some (.int .u8 c.ty) := K1.out.cell 0
  have z1 : wx.cell? ⟨w.heap.size, 1, none⟩ = some (.int .u32 c.ro) := K1.out.cell 1
  have z2 : wx.cell? ⟨w.heap.size, 2, none⟩ = some (.int .u32 c.na) := K1.out.cell 2
  have z3 : wx.cell? ⟨w.heap.size, 3, none⟩ = some (.int .u8 c.nb) := K1.out.cell 3
  have z4 : wx.cell? ⟨w.heap.size, 4, none⟩ = some (.int .u32 c.ad) := K1.out.cell 4
  have z5 : wx.cell? ⟨w.heap.size, 5, none⟩ = some (.int .u8 c.op) := K1.out.cell 5
  have z6 : wx.cell? ⟨w.heap.size, 6, none⟩ = some (.int .u16 c.hi) := K1.out.cell 6
  have z7 : wx.cell? ⟨w.heap.size, 7, none⟩ = some (.int .u32 c.dd) := K1.out.cell 7
  have z8 : wx.cell? ⟨w.heap.size, 8, none⟩ = some (.int .u16 c.po) := K1.out.cell 8
  have z9 : wx.cell? ⟨w.heap.size, 9, none⟩ = some (.int .u8 c.pr) := K1.out.cell 9
  have z10 : wx.cell? ⟨w.heap.size, 10, none⟩ = some (.bool c.dm) := K1.out.cell 10
  have z11 : wx.cell? ⟨w.heap.size, 11, none⟩ = some (.bool c.ps) := K1.out.cell 11
  have z12 : wx.cell? ⟨w.heap.size, 12, none⟩ = some (c.pe) := K1.out.cell 12
  have z13 : wx.cell? ⟨w.heap.size, 13, none⟩ = some (.int .u32 c.rm) := K1.out.cell 13
  rw [hpe] at z12
  go_upto_region 8 with (go_at_call 34; refine (rmask_any _ c.nb hn0 (by omega)).mono ?_; rintro e w' ⟨rfl, rfl⟩)
  have H7 := Lib.hid h7
  clear ha hb hc hd he h7 e_h7 e_hb e_h2 e_h3 e_h4
  go_wp2_with fail
  refine (HP2.out _).mono ?_
  rintro e w2 ⟨rfl, hb2⟩
  have y12 : w2.cell? ⟨w.heap.size, 12, none⟩ = some (.slice A L.length cap) := (hb2.cell (p := ⟨w.heap.size, 12, none⟩) K1.out.lt).trans z12
  have y4 : w2.cell? ⟨w.heap.size, 4, none⟩ = some (.int .u32 c.ad) := (hb2.cell (p := ⟨w.heap.size, 4, none⟩) K1.out.lt).trans z4
  have HR := Lib.hid (hr.below (B1.out.trans (hb2.mono B1.out.size)))
  have B2 := Lib.hid (B1.out.trans (hb2.mono B1.out.size))
  have hz2 : w.heap.size < w2.heap.size := by have := hb2.size; have := K1.out.lt; omega
  clear hb2 hr z0 z1 z2 z3 z4 z5 z6 z7 z8 z9 z10 z11 z12 z13
  go_wp2_with fail
  go_loopw [4] (fun x wr => ∃ i q : Nat, i ≤ L.length ∧ x = .int .i64 i ∧ wr = w2.drewN q ∧ ∀ (j : Nat) (p : Int × Int), j < i → L[j]? = some p → p.1 ≠ 0 ∧ p.1 ≠ c.ad ∧ ∀ (k : Nat) (q : Int × Int), k < j → L[k]? = some q → q.1 ≠ p.1) (fun x _ => L.length - (intOf x).toNat)
  case atStart => exact ⟨0, 0, Nat.zero_le _, rfl, rfl, fun j p hj => by omega⟩
  case round =>
    obtain ⟨i, q, hi, rfl, rfl, hok⟩ := hrel
    have Hok := Lib.hid hok
    clear hok
    by_cases hlt : i < L.length
    · obtain ⟨p, hp⟩ : ∃ p, L[i]? = some p := ⟨_, List.getElem?_eq_getElem hlt⟩
      obtain ⟨b, off, hA, hbB, e1, e2⟩ := HR.out.peer hp
      subst hA
      by_cases hz : p.1 = 0
      · rw [hz] at e1
        go_wp2_with fail
        go_quiet (fail)
        go_wp2_with fail
        go_ret
        exact ⟨false, rfl, (fun h => by cases h), below_drewN' (below_drewN' B2.out _) _⟩
      · have e_z : (p.1 == 0) = false := by simpa using hz
        by_cases had : p.1 = c.ad
        · rw [had] at e1 e_z
          go_wp2_with fail
          go_quiet (fail)
          go_wp2_with fail
          go_ret
          exact ⟨false, rfl, (fun h => by cases h), below_drewN' (below_drewN' B2.out _) _⟩
        · have e_ad : (p.1 == c.ad) = false := by simpa using had
          go_wp2_with fail
          go_quiet (fail)
          go_wp2_with fail
          rename_i nq
          go_loopw [5] (fun x wr => ∃ k r : Nat, k ≤ i ∧ x = .int .i64 k ∧ wr = w2.drewN r ∧ ∀ (m : Nat) (q : Int × Int), m < k → L[m]? = some q → q.1 ≠ p.1) (fun x _ => i - (intOf x).toNat)
          case atStart => exact ⟨0, q + nq, Nat.zero_le _, rfl, by simp [World.drewN, Nat.add_assoc], fun m q hm => by omega⟩
          case round =>
            obtain ⟨k, r, hk, rfl, rfl, hne⟩ := hrel
            have Hne := Lib.hid hne
            clear hne
            by_cases hlk : k < i
            · obtain ⟨q2, hq2⟩ : ∃ q2, L[k]? = some q2 := ⟨_, List.getElem?_eq_getElem (by omega)⟩
              obtain ⟨b', off', hA', -, f1, f2⟩ := HR.out.peer hq2
              cases hA'
              by_cases heq : q2.1 = p.1
              · rw [heq] at f1
                go_wp2_with fail
                go_quiet (fail)
                go_wp2_with fail
                go_ret
                exact ⟨false, rfl, (fun h => by cases h), below_drewN' (below_drewN' B2.out _) _⟩
              · have e_q : (q2.1 == p.1) = false := by simpa using heq
                go_wp2_with fail
                go_quiet (fail)
                go_wp2_with fail
                go_roundw
                case rel =>
                  refine ⟨k + 1, _, by omega, by simp, rfl, fun m q hm hq => ?_⟩
                  by_cases hmk : m = k
                  · subst hmk
                    rw [hq2] at hq
                    cases hq
                    exact heq
                  · exact Hne.out m q (by omega) hq
                case measure => simp [intOf]; omega
            · obtain rfl : k = i := by omega
              go_wp2_with fail
              go_roundw
              case rel =>
                refine ⟨k + 1, _, by omega, by simp, rfl, fun j pp hj hjp => ?_⟩
                by_cases hjk : j = k
                · subst hjk
                  rw [hp] at hjp
                  cases hjp
                  exact ⟨hz, had, fun m q hm hq => Hne.out m q hm hq⟩
                · exact Hok.out j pp (by omega) hjp
              case measure => simp [intOf]; omega
    · obtain rfl : i = L.length := by omega
      go_wp2_with fail
      go_ret
      refine ⟨true, rfl, fun _ => ?_, below_drewN' B2.out _⟩
      exact ⟨by omega, h2, h3, h4, by rw [hpb]; simp; omega, by omega, fun h => absurd h H7.out, fun _ => ⟨H_ha.out, H_hb.out, H_hc.out, H_hd.out, (fun hd => by rw [H_he.out] at hd; cases hd), (fun h => by rw [hpb] at h; cases h), fun _ => ⟨hg, fun j p hj => Hok.out j p (List.getElem?_eq_some_iff.1 hj).1 hj⟩⟩⟩

/-- **What May answers of whatever config.** -/
theorem rmay_any (w : World) (c : LC) (L : List (Int × Int)) (hL : PeersAt w w.heap.size c.pe L) (hn0 : 0 ≤ c.nb) : Calls Try.prog 29 #[.agg c.cells] w fun e w' => MayPost c L w e w' := by
  by_cases h1 : 4 < c.ty
  · exact may_no1 w c L hL h1 _ rfl
  by_cases h2 : c.ro = 0
  · exact may_no2 w c L hL h1 h2 _ rfl
  by_cases h3 : c.hi = 0
  · exact may_no3 w c L hL h1 h2 h3 _ rfl
  by_cases h4 : c.dd = 0
  · exact may_no4 w c L hL h1 h2 h3 h4 _ rfl
  have hpo : c.peers = decide (0 < c.po) ∨ (c.peers = true ∧ ¬ 0 < c.po) ∨ (c.peers = false ∧ 0 < c.po) := by
    cases c.peers <;> by_cases h : 0 < c.po <;> simp [h]
  rcases hpo with hpo | ⟨hp, h5⟩ | ⟨hp, h5⟩
  · by_cases h6 : 32 < c.nb
    · by_cases h5 : 0 < c.po
      · exact may_no6a w c L hL h1 h2 h3 h4 h5 h6 (by rw [hpo]; simpa using h5)
      · exact may_no6b w c L hL h1 h2 h3 h4 h5 h6 (by rw [hpo]; simpa using h5)
    by_cases h7 : c.ty = 4
    · have hp : c.peers = false := by simp [LC.peers, h7]
      have h5 : ¬ 0 < c.po := by rw [hp] at hpo; simpa using hpo
      by_cases h8 : c.na = 0
      · by_cases h9 : c.nb = 0
        · by_cases ha : c.ad = 0
          · by_cases hb : c.rm = 0
            · exact may_vno_d w c L hL h1 h2 h3 h4 h5 h6 h7 h8 h9 ha hb hp
            · by_cases hc : c.rm = c.ro
              · exact may_vno_e w c L hL h1 h2 h3 h4 h5 h6 h7 h8 h9 ha hb hc hp
              · cases hd : c.ps with
                | true => exact may_vno_f w c L hL h1 h2 h3 h4 h5 h6 h7 h8 h9 ha hb hc hd hp
                | false => exact may_vyes w c L hL h1 h2 h3 h4 h5 h6 h7 h8 h9 ha hb hc hd hp
          · exact may_vno_c w c L hL h1 h2 h3 h4 h5 h6 h7 h8 h9 ha hp
        · exact may_vno_b w c L hL h1 h2 h3 h4 h5 h6 h7 h8 h9 hp
      · exact may_vno_a w c L hL h1 h2 h3 h4 h5 h6 h7 h8 hp
    · by_cases ha : c.rm = 0
      · by_cases hb : c.ad = 0
        · exact may_ono_b w c L hL h1 h2 h3 h4 hpo h6 hn0 h7 ha hb
        · by_cases hc : bits .andNot .u32 c.na (maskN c.nb.toNat) = 0
          · by_cases hd : bits .and .u32 c.ad (maskN c.nb.toNat) = c.na
            · by_cases h5 : 0 < c.po
              · have hp : c.peers = true := by rw [hpo]; simpa using h5
                have hf : c.ty ≠ 3 := fun e => by simp [LC.peers, e] at hp
                cases he : c.dm with
                | true => exact may_ono_e w c L hL h1 h2 h3 h4 hpo h6 hn0 h7 ha hb hc hd he hf
                | false =>
                  by_cases hg : 64 < L.length
                  · exact may_peers_many w c L hL h1 h2 h3 h4 h6 hn0 h7 h5 ha hb hc hd he hp hg
                  · exact may_peers w c L hL h1 h2 h3 h4 h6 hn0 h7 h5 ha hb hc hd he hp (by omega)
              · have hp : c.peers = false := by rw [hpo]; simpa using h5
                cases he : c.dm with
                | true =>
                  by_cases hf : c.ty = 3
                  · exact may_plain_g w c L hL h1 h2 h3 h4 h6 hn0 h7 h5 ha hb hc hd he hf hp
                  · exact may_ono_e w c L hL h1 h2 h3 h4 hpo h6 hn0 h7 ha hb hc hd he hf
                | false => exact may_plain_f w c L hL h1 h2 h3 h4 h6 hn0 h7 h5 ha hb hc hd he hp
            · exact may_ono_d w c L hL h1 h2 h3 h4 hpo h6 hn0 h7 ha hb hc hd
          · exact may_ono_c w c L hL h1 h2 h3 h4 hpo h6 hn0 h7 ha hb hc
      · exact may_ono_a w c L hL h1 h2 h3 h4 hpo h6 hn0 h7 ha
  · exact may_no5a w c L hL h1 h2 h3 h4 h5 hp
  · exact may_no5b w c L hL h1 h2 h3 h4 h5 hp
end Go.Proofs.Ytgbmhijgpdgdbaa

namespace Go.Proofs.Ytgbmhijgpdgdbaa
open Go.RowKit

set_option maxHeartbeats 1000000 in
set_option maxRecDepth 20000 in
/-- No peers are asked, none are there. -/
theorem peersMay_none (w : World) (c : LC) (hp : c.peers = false) (cap : Nat) (A : Option Addr) (hpe : c.pe = .slice A 0 cap) : Calls Try.prog 64 #[.agg c.cells] w fun e w' => e = .returned (.bool true) ∧ Below w.heap.size w w' := by
  have hp2 : ∀ W, Calls Try.prog 63 #[.agg c.cells] W fun e w' => e = .returned (.bool false) ∧ Below W.heap.size W w' := fun W => by have h := peers_any c W; rw [hp] at h; exact h
  have HP := Lib.hid hp2
  have HPE := Lib.hid hpe
  clear hp2 hpe
  unfold LC.cells at HP ⊢
  go_enter Try.func64, Try.ntmps64
  go_upto_region 1 with fail
  have k1 := Blk.new w 83 c.cells
  unfold LC.cells at k1
  have K1 := Lib.hid k1
  clear k1
  go_wp2_with fail
  refine (HP.out _).mono ?_
  rintro e w1 ⟨rfl, hb1⟩
  have c12 : w1.cell? ⟨w.heap.size, 12, none⟩ = some (.slice A 0 cap) := ((K1.out.below hb1 K1.out.lt).cell 12).trans (congrArg some HPE.out)
  go_wp2_with fail
  go_ret
  exact ⟨rfl, ((Below.refl _ w).alloc (Nat.le_refl _) _).trans (hb1.mono (by simp))⟩
end Go.Proofs.Ytgbmhijgpdgdbaa

namespace Go.Proofs.Ytgbmhijgpdgdbaa
open Go.RowKit

theorem wordKeyed : Maps.Keyed Try.prog 25 := Maps.int_keyed Try.underlying25

/-- A key's value. -/
def wval (k : Int) : Value := .int .u32 k

structure WdOk (k : Int) : Prop where
  v0 : 0 ≤ k
  v1 : k < 4294967296

theorem wordKey : Try.prog.keyType 25 = true := by kernel_rfl

theorem keyOf_wval {k : Int} (h : WdOk k) : ∃ l, keyOf Try.prog 25 (wval k) = some l := by
  obtain ⟨m, hm⟩ := keySize
  have e0 : IntKind.u32.min = 0 := by decide
  have e1 : IntKind.u32.max = 4294967295 := by decide
  have wv : (Lit.int .u32 k).wf = true := by
    have := h.v0; have := h.v1
    simp only [Lit.wf, Bool.and_eq_true, decide_eq_true_eq]; omega
  unfold keyOf
  rw [Try.underlying25]
  simp [wval, mapKey, Try.underlying25, wv]

theorem wval_inj {a b : Int} (h : wval a = wval b) : a = b := by
  simpa [wval] using h

variable {α : Type}

/-- Block b is a map that holds M (what an element is as a value: f). -/
def MapU (f : α → Value) (w : World) (b : Nat) (M : Int → Option α) : Prop :=
  ∃ es clock, w.heap[b]? = some (.map es clock) ∧ es.toList.Pairwise (fun x y => x.key ≠ y.key) ∧
    (∀ e ∈ es.toList, ∃ k a, WdOk k ∧ e.key = wval k ∧ e.val = f a ∧ M k = some a) ∧ (∀ k a, WdOk k → M k = some a → ∃ e ∈ es.toList, e.key = wval k)

section
variable {f : α → Value} {w w' : World} {b : Nat} {M : Int → Option α}

theorem MapU.lt (h : MapU f w b M) : b < w.heap.size := by
  obtain ⟨es, clock, hb, _⟩ := h
  exact (Array.getElem?_eq_some_iff.1 hb).1
theorem MapU.keep (h : MapU f w b M) (hk : w'.heap[b]? = w.heap[b]?) : MapU f w' b M := by
  obtain ⟨es, clock, hb, r⟩ := h
  exact ⟨es, clock, hk.trans hb, r⟩
theorem MapU.below {B : Nat} (h : MapU f w b M) (hb : Below B w w') (hB : b < B) : MapU f w' b M := h.keep (hb.block b hB)
theorem MapU.alloc (h : MapU f w b M) (o : Obj) : MapU f (w.alloc o) b M := h.keep (Below.heap_alloc w o b h.lt)
theorem MapU.setCell (h : MapU f w b M) {p : Addr} (hp : b ≠ p.block) (u : Value) : MapU f (w.setCell p u) b M := h.keep (Below.heap_setCell w p u b hp)
theorem MapU.drew (h : MapU f w b M) : MapU f w.drew b M := h
theorem MapU.drewN (h : MapU f w b M) (n : Nat) : MapU f (w.drewN n) b M := h
theorem MapU.made (f : α → Value) (w : World) : MapU f (w.alloc (.map #[] 0)) w.heap.size (fun _ => none) :=
  ⟨#[], 0, (MapKept.heap_alloc w _).1, by simp, by simp, by simp⟩
theorem MapU.blk_ne {g : Nat} {t : TypeId} {cs : Array Value} (h : MapU f w b M) (hg : Blk w g t cs) : g ≠ b := by
  rintro rfl
  obtain ⟨es, clock, hb, _⟩ := h
  unfold Blk at hg
  rw [hg] at hb
  cases hb

theorem MapU.found (h : MapU f w b M) {k : Int} (hk : WdOk k) :
    ∃ es clock, w.heap[b]? = some (.map es clock) ∧
      (((Instr.findKey 25 (wval k) es.toList).run Try.prog w = .ok none w ∧ M k = none ∧ ∀ e ∈ es.toList, e.key ≠ wval k) ∨
        ∃ j e a, (Instr.findKey 25 (wval k) es.toList).run Try.prog w = .ok (some (j, f a)) w ∧ es.toList[j]? = some e ∧ e.key = wval k ∧ e.val = f a ∧ M k = some a) := by
  obtain ⟨es, clock, hb, hd, h1, h2⟩ := h
  obtain ⟨l, hl⟩ := keyOf_wval hk
  refine ⟨es, clock, hb, ?_⟩
  rcases wordKeyed.find w hl es.toList (fun e he => by
    obtain ⟨k', a, ok, ek, _⟩ := h1 e he
    rw [ek]; exact keyOf_wval ok) with ⟨hr, hn⟩ | ⟨j, e, hr, hj, he⟩
  · left
    refine ⟨hr, ?_, hn⟩
    rcases hM : M k with _ | a
    · rfl
    · obtain ⟨e, he, ek⟩ := h2 k a hk hM
      exact absurd ek (hn e he)
  · right
    obtain ⟨k', a, ok, ek, ev, hM⟩ := h1 e (List.mem_of_getElem? hj)
    have : k' = k := wval_inj (ek.symm.trans he)
    subst this
    exact ⟨j, e, a, by rw [hr, ev], hj, he, ev, hM⟩

theorem MapU.look (h : MapU f w b M) {k : Int} (hk : WdOk k) {t e : TypeId} (ht : Try.prog.underlying t = some (.map 25 e)) {z : Value} (hz : (zeroValue e).run Try.prog w = .ok z w) (ok : Bool) :
    (Instr.lookup t (.map (some b)) (wval k) ok).run Try.prog w = .ok (if ok then .tuple #[(M k).elim z f, .bool (M k).isSome] else (M k).elim z f) w := by
  obtain ⟨l, hl⟩ := keyOf_wval hk
  obtain ⟨es, clock, hb, ⟨hr, hM, _⟩ | ⟨j, e0, a, hr, _, _, _, hM⟩⟩ := h.found hk
  · simp [Instr.lookup, run_underlying ht, MapKept.run_getObj_map hb, wordKeyed.check w _ hl, hr, hz, hM, Result.andThen]
  · simp [Instr.lookup, run_underlying ht, MapKept.run_getObj_map hb, wordKeyed.check w _ hl, hr, hM, Result.andThen]

def updW (M : Int → Option α) (k : Int) (o : Option α) : Int → Option α := fun x => if x = k then o else M x

theorem updW_self (k : Int) (o : Option α) : updW M k o k = o := if_pos rfl
theorem updW_ne {k x : Int} (h : x ≠ k) (o : Option α) : updW M k o x = M x := if_neg h

open Go.ChangeMaps (setBlock heap_setBlock_same heap_setBlock_other modify_eq_set)

theorem MapU.put (h : MapU f w b M) {k : Int} (hk : WdOk k) {t e : TypeId} (ht : Try.prog.underlying t = some (.map 25 e)) (a : α) :
    ∃ w', (Instr.mapUpdate t (.map (some b)) (wval k) (f a)).run Try.prog w = .ok () w' ∧ MapU f w' b (updW M k (some a)) ∧ w.grownBy w' (some b) ∧ w'.heap.size = w.heap.size := by
  obtain ⟨l, hl⟩ := keyOf_wval hk
  have h0 := h
  obtain ⟨es, clock, hb, hd, h1, h2⟩ := h
  obtain ⟨es', clock', hb', hf⟩ := h0.found hk
  rw [hb] at hb'
  cases hb'
  have hg : ∀ o, w.grownBy (setBlock w b o) (some b) := fun o => ⟨rfl, rfl, rfl, by simp [setBlock], fun i _ hi => heap_setBlock_other hb _ (fun e => hi (by rw [e]))⟩
  rcases hf with ⟨hr, hM, hn⟩ | ⟨j, e0, a0, hr, hj, he, hv, hM⟩
  · refine ⟨setBlock w b (.map (es.push ⟨wval k, f a, clock⟩) (clock + 1)), ?_, ⟨_, _, heap_setBlock_same hb _, ?_, ?_, ?_⟩, hg _, by simp [setBlock]⟩
    · simp [Instr.mapUpdate, run_underlying ht, MapKept.run_getObj_map hb, wordKeyed.check w false hl, hr, MapKept.run_setObj_map _ hb, Result.andThen, setBlock]
    · rw [Array.toList_push, List.pairwise_append]
      exact ⟨hd, by simp, fun x hx y hy => by rw [List.mem_singleton.1 hy]; exact hn x hx⟩
    · intro e' he'
      rw [Array.toList_push, List.mem_append] at he'
      rcases he' with he' | he'
      · obtain ⟨k', a', ok, ek, ev, eM⟩ := h1 e' he'
        refine ⟨k', a', ok, ek, ev, ?_⟩
        rw [updW_ne (fun e => hn e' he' (by rw [ek, e]))]; exact eM
      · rw [List.mem_singleton.1 he']
        exact ⟨k, a, hk, rfl, rfl, updW_self _ _⟩
    · intro k' a' ok hM'
      by_cases e : k' = k
      · subst e
        exact ⟨_, by rw [Array.toList_push]; exact List.mem_append_right _ (List.mem_singleton.2 rfl), rfl⟩
      · rw [updW_ne e] at hM'
        obtain ⟨e', he', ek⟩ := h2 k' a' ok hM'
        exact ⟨e', by rw [Array.toList_push]; exact List.mem_append_left _ he', ek⟩
  · have hlist : (es.modify j (fun e' => { e' with key := wval k, val := f a })).toList = es.toList.set j { e0 with key := wval k, val := f a } := by rw [Array.toList_modify, modify_eq_set _ _ _ _ hj]
    have hjl : j < es.toList.length := (List.getElem?_eq_some_iff.1 hj).1
    have hj' : es[j]? = some e0 := by simpa using hj
    have other : ∀ (i : Nat) (x : MapEntry), es.toList[i]? = some x → i ≠ j → x.key ≠ wval k := by
      intro i x hi hne
      rw [← he]
      obtain ⟨hil, ei⟩ := List.getElem?_eq_some_iff.1 hi
      obtain ⟨_, ej⟩ := List.getElem?_eq_some_iff.1 hj
      rcases Nat.lt_or_gt_of_ne hne with hlt | hgt
      · have := List.pairwise_iff_getElem.1 hd i j hil hjl hlt
        rw [ei, ej] at this; exact this
      · have := List.pairwise_iff_getElem.1 hd j i hjl hil hgt
        rw [ei, ej] at this; exact this.symm
    have who : ∀ x ∈ es.toList.set j { e0 with key := wval k, val := f a }, x = { e0 with key := wval k, val := f a } ∨ (x ∈ es.toList ∧ x.key ≠ wval k) := by
      intro x hx
      obtain ⟨i, hi, ex⟩ := List.getElem_of_mem hx
      rw [List.getElem_set] at ex
      split at ex
      · exact Or.inl ex.symm
      · rename_i hne
        have hi' : i < es.toList.length := by simpa using hi
        exact Or.inr ⟨ex ▸ List.getElem_mem hi', other i x (by rw [List.getElem?_eq_getElem hi', ex]) (fun e => hne e.symm)⟩
    refine ⟨setBlock w b (.map (es.modify j (fun e' => { e' with key := wval k, val := f a })) clock), ?_, ⟨_, _, heap_setBlock_same hb _, ?_, ?_, ?_⟩, hg _, by simp [setBlock]⟩
    · simp [Instr.mapUpdate, run_underlying ht, MapKept.run_getObj_map hb, wordKeyed.check w false hl, hr, hj', he, wordKeyed.stays w hl, MapKept.run_setObj_map _ hb, Result.andThen, setBlock]
    · rw [hlist, List.pairwise_iff_getElem]
      intro p q hp hq hpq
      have hp' : p < es.toList.length := by simpa using hp
      have hq' : q < es.toList.length := by simpa using hq
      have hd' := List.pairwise_iff_getElem.1 hd p q hp' hq' hpq
      rw [List.getElem_set, List.getElem_set]
      by_cases ep : j = p
      · have eq : ¬ j = q := by omega
        rw [if_pos ep, if_neg eq]
        exact (other q _ (List.getElem?_eq_getElem hq') (fun e => eq e.symm)).symm
      · rw [if_neg ep]
        by_cases eq : j = q
        · rw [if_pos eq]
          exact other p _ (List.getElem?_eq_getElem hp') (fun e => ep e.symm)
        · rw [if_neg eq]; exact hd'
    · intro e' he'
      rw [hlist] at he'
      rcases who e' he' with rfl | ⟨hm, hne⟩
      · exact ⟨k, a, hk, rfl, rfl, updW_self _ _⟩
      · obtain ⟨k', a', ok, ek, ev, eM⟩ := h1 e' hm
        refine ⟨k', a', ok, ek, ev, ?_⟩
        rw [updW_ne (fun e => hne (by rw [ek, e]))]; exact eM
    · intro k' a' ok hM'
      rw [hlist]
      by_cases e : k' = k
      · subst e
        exact ⟨_, List.mem_iff_getElem?.2 ⟨j, by rw [List.getElem?_set_self hjl]⟩, rfl⟩
      · rw [updW_ne e] at hM'
        obtain ⟨e', he', ek⟩ := h2 k' a' ok hM'
        obtain ⟨i, hi⟩ := List.mem_iff_getElem?.1 he'
        have hne : i ≠ j := by
          rintro rfl
          rw [hj] at hi
          cases hi
          exact e (wval_inj (ek.symm.trans he))
        exact ⟨e', List.mem_iff_getElem?.2 ⟨i, by rw [List.getElem?_set_ne (fun e => hne e.symm)]; exact hi⟩, ek⟩
end
end Go.Proofs.Ytgbmhijgpdgdbaa
