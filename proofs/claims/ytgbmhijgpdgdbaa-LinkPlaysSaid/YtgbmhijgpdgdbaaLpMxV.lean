/- May, by the document, both ways, of some configs. -/
import Derived.Test.YtgbmhijgpdgdbaaLpMxX
set_option maxHeartbeats 4000000
set_option maxRecDepth 20000
namespace Go.Proofs.Ytgbmhijgpdgdbaa
open Go.RowKit
namespace Mx
theorem may_vno_a (w : World) (c : LC) (L : List (Int × Int)) (_hL : PeersAt w w.heap.size c.pe L) (h1 : ¬ 4 < c.ty) (h2 : c.ro ≠ 0) (h3 : c.hi ≠ 0) (h4 : c.dd ≠ 0) (h5 : ¬ 0 < c.po) (h6 : ¬ 32 < c.nb) (h7 : c.ty = 4) (h8 : c.na ≠ 0) (hpb : c.peers = false) : Calls Try.prog 29 #[.agg c.cells] w fun e w' => MayPost c L w e w' := by
  have HNO : Hid (¬ MayOk c L) := Lib.hid (fun m => h8 (m.vi h7).1)
  unfold LC.cells
  have H_h1 := Lib.hid h1
  have H_h2 := Lib.hid h2
  have H_h3 := Lib.hid h3
  have H_h4 := Lib.hid h4
  have H_h5 := Lib.hid h5
  have H_h6 := Lib.hid h6
  have H_h7 := Lib.hid h7
  have H_h8 := Lib.hid h8
  have H_hpb := Lib.hid hpb
  clear h1 h2 h3 h4 h5 h6 h7 h8 hpb
  go_enter Try.func29, Try.ntmps29
  go_upto_region 1 with fail
  obtain ⟨W0, hW0⟩ : ∃ W0, W0 = w.alloc (.cells c.cells 76) := ⟨_, rfl⟩
  have K0 : Hid (Blk W0 w.heap.size 76 c.cells) := Lib.hid (by rw [hW0]; exact Blk.new w _ _)
  have B0 : Hid (Below w.heap.size w W0) := Lib.hid (by rw [hW0]; exact (Below.refl _ w).alloc (Nat.le_refl _) _)
  have hs0 : w.heap.size < W0.heap.size := K0.out.lt
  unfold LC.cells at hW0
  rw [← hW0]
  clear hW0
  have h1 := H_h1.out
  have h2 := H_h2.out
  have h3 := H_h3.out
  have h4 := H_h4.out
  have h5 := H_h5.out
  have h6 := H_h6.out
  have hpb := H_hpb.out
  have e_h2 : (c.ro == 0) = false := by simpa using h2
  have e_h3 : (c.hi == 0) = false := by simpa using h3
  have e_h4 : (c.dd == 0) = false := by simpa using h4
  obtain ⟨q0, q1, q2, q3, q4, q5, q6, q7, q8, q9, q10, q11, q12, q13⟩ := lcq (c := c) K0.out
  have d1 := mxd (n := w.heap.size + 1) (W := W0) hpb
  refine wp_region_later (B := w.heap.size + 1) (w0 := W0) (by kernel_rfl) (by kernel_rfl) (Below.refl _ _) ?_
  repeat (go_big_quiet_step (first
    | (go_at_call 62; with_reducible exact later_call _ (by omega) (d1.out _))))
  refine wpQuiet_nil ?_
  rintro wx ⟨⟨wy, hwy⟩, hwe⟩
  obtain rfl : wx = wy := hwe
  have B1 := Lib.hid (B0.out.trans (hwy.mono (by omega)))
  have K1 := Lib.hid (K0.out.below hwy (by omega))
  clear d1 hwy q0 q1 q2 q3 q4 q5 q6 q7 q8 q9 q10 q11 q12 q13
  have h7 := H_h7.out
  have h8 := H_h8.out
  have e_h8 : (c.na == 0) = false := by simpa using h8
  obtain ⟨z0, z1, z2, z3, z4, z5, z6, z7, z8, z9, z10, z11, z12, z13⟩ := lcz (c := c) K1.out
  go_wp2_with fail
  go_ret
  exact ⟨false, rfl, ⟨(fun h => by cases h), fun m => absurd m HNO.out⟩, B1.out⟩
theorem may_vno_b (w : World) (c : LC) (L : List (Int × Int)) (_hL : PeersAt w w.heap.size c.pe L) (h1 : ¬ 4 < c.ty) (h2 : c.ro ≠ 0) (h3 : c.hi ≠ 0) (h4 : c.dd ≠ 0) (h5 : ¬ 0 < c.po) (h6 : ¬ 32 < c.nb) (h7 : c.ty = 4) (h8 : c.na = 0) (h9 : c.nb ≠ 0) (hpb : c.peers = false) : Calls Try.prog 29 #[.agg c.cells] w fun e w' => MayPost c L w e w' := by
  have HNO : Hid (¬ MayOk c L) := Lib.hid (fun m => h9 (m.vi h7).2.1)
  unfold LC.cells
  have H_h1 := Lib.hid h1
  have H_h2 := Lib.hid h2
  have H_h3 := Lib.hid h3
  have H_h4 := Lib.hid h4
  have H_h5 := Lib.hid h5
  have H_h6 := Lib.hid h6
  have H_h7 := Lib.hid h7
  have H_h8 := Lib.hid h8
  have H_h9 := Lib.hid h9
  have H_hpb := Lib.hid hpb
  clear h1 h2 h3 h4 h5 h6 h7 h8 h9 hpb
  go_enter Try.func29, Try.ntmps29
  go_upto_region 1 with fail
  obtain ⟨W0, hW0⟩ : ∃ W0, W0 = w.alloc (.cells c.cells 76) := ⟨_, rfl⟩
  have K0 : Hid (Blk W0 w.heap.size 76 c.cells) := Lib.hid (by rw [hW0]; exact Blk.new w _ _)
  have B0 : Hid (Below w.heap.size w W0) := Lib.hid (by rw [hW0]; exact (Below.refl _ w).alloc (Nat.le_refl _) _)
  have hs0 : w.heap.size < W0.heap.size := K0.out.lt
  unfold LC.cells at hW0
  rw [← hW0]
  clear hW0
  have h1 := H_h1.out
  have h2 := H_h2.out
  have h3 := H_h3.out
  have h4 := H_h4.out
  have h5 := H_h5.out
  have h6 := H_h6.out
  have hpb := H_hpb.out
  have e_h2 : (c.ro == 0) = false := by simpa using h2
  have e_h3 : (c.hi == 0) = false := by simpa using h3
  have e_h4 : (c.dd == 0) = false := by simpa using h4
  obtain ⟨q0, q1, q2, q3, q4, q5, q6, q7, q8, q9, q10, q11, q12, q13⟩ := lcq (c := c) K0.out
  have d1 := mxd (n := w.heap.size + 1) (W := W0) hpb
  refine wp_region_later (B := w.heap.size + 1) (w0 := W0) (by kernel_rfl) (by kernel_rfl) (Below.refl _ _) ?_
  repeat (go_big_quiet_step (first
    | (go_at_call 62; with_reducible exact later_call _ (by omega) (d1.out _))))
  refine wpQuiet_nil ?_
  rintro wx ⟨⟨wy, hwy⟩, hwe⟩
  obtain rfl : wx = wy := hwe
  have B1 := Lib.hid (B0.out.trans (hwy.mono (by omega)))
  have K1 := Lib.hid (K0.out.below hwy (by omega))
  clear d1 hwy q0 q1 q2 q3 q4 q5 q6 q7 q8 q9 q10 q11 q12 q13
  have h7 := H_h7.out
  have h8 := H_h8.out
  have h9 := H_h9.out
  have e_h9 : (c.nb == 0) = false := by simpa using h9
  obtain ⟨z0, z1, z2, z3, z4, z5, z6, z7, z8, z9, z10, z11, z12, z13⟩ := lcz (c := c) K1.out
  go_wp2_with fail
  go_ret
  exact ⟨false, rfl, ⟨(fun h => by cases h), fun m => absurd m HNO.out⟩, B1.out⟩
theorem may_vno_c (w : World) (c : LC) (L : List (Int × Int)) (_hL : PeersAt w w.heap.size c.pe L) (h1 : ¬ 4 < c.ty) (h2 : c.ro ≠ 0) (h3 : c.hi ≠ 0) (h4 : c.dd ≠ 0) (h5 : ¬ 0 < c.po) (h6 : ¬ 32 < c.nb) (h7 : c.ty = 4) (h8 : c.na = 0) (h9 : c.nb = 0) (ha : c.ad ≠ 0) (hpb : c.peers = false) : Calls Try.prog 29 #[.agg c.cells] w fun e w' => MayPost c L w e w' := by
  have HNO : Hid (¬ MayOk c L) := Lib.hid (fun m => ha (m.vi h7).2.2.1)
  unfold LC.cells
  have H_h1 := Lib.hid h1
  have H_h2 := Lib.hid h2
  have H_h3 := Lib.hid h3
  have H_h4 := Lib.hid h4
  have H_h5 := Lib.hid h5
  have H_h6 := Lib.hid h6
  have H_h7 := Lib.hid h7
  have H_h8 := Lib.hid h8
  have H_h9 := Lib.hid h9
  have H_ha := Lib.hid ha
  have H_hpb := Lib.hid hpb
  clear h1 h2 h3 h4 h5 h6 h7 h8 h9 ha hpb
  go_enter Try.func29, Try.ntmps29
  go_upto_region 1 with fail
  obtain ⟨W0, hW0⟩ : ∃ W0, W0 = w.alloc (.cells c.cells 76) := ⟨_, rfl⟩
  have K0 : Hid (Blk W0 w.heap.size 76 c.cells) := Lib.hid (by rw [hW0]; exact Blk.new w _ _)
  have B0 : Hid (Below w.heap.size w W0) := Lib.hid (by rw [hW0]; exact (Below.refl _ w).alloc (Nat.le_refl _) _)
  have hs0 : w.heap.size < W0.heap.size := K0.out.lt
  unfold LC.cells at hW0
  rw [← hW0]
  clear hW0
  have h1 := H_h1.out
  have h2 := H_h2.out
  have h3 := H_h3.out
  have h4 := H_h4.out
  have h5 := H_h5.out
  have h6 := H_h6.out
  have hpb := H_hpb.out
  have e_h2 : (c.ro == 0) = false := by simpa using h2
  have e_h3 : (c.hi == 0) = false := by simpa using h3
  have e_h4 : (c.dd == 0) = false := by simpa using h4
  obtain ⟨q0, q1, q2, q3, q4, q5, q6, q7, q8, q9, q10, q11, q12, q13⟩ := lcq (c := c) K0.out
  have d1 := mxd (n := w.heap.size + 1) (W := W0) hpb
  refine wp_region_later (B := w.heap.size + 1) (w0 := W0) (by kernel_rfl) (by kernel_rfl) (Below.refl _ _) ?_
  repeat (go_big_quiet_step (first
    | (go_at_call 62; with_reducible exact later_call _ (by omega) (d1.out _))))
  refine wpQuiet_nil ?_
  rintro wx ⟨⟨wy, hwy⟩, hwe⟩
  obtain rfl : wx = wy := hwe
  have B1 := Lib.hid (B0.out.trans (hwy.mono (by omega)))
  have K1 := Lib.hid (K0.out.below hwy (by omega))
  clear d1 hwy q0 q1 q2 q3 q4 q5 q6 q7 q8 q9 q10 q11 q12 q13
  have h7 := H_h7.out
  have h8 := H_h8.out
  have h9 := H_h9.out
  have ha := H_ha.out
  have e_ha : (c.ad == 0) = false := by simpa using ha
  obtain ⟨z0, z1, z2, z3, z4, z5, z6, z7, z8, z9, z10, z11, z12, z13⟩ := lcz (c := c) K1.out
  go_wp2_with fail
  go_ret
  exact ⟨false, rfl, ⟨(fun h => by cases h), fun m => absurd m HNO.out⟩, B1.out⟩
theorem may_vno_d (w : World) (c : LC) (L : List (Int × Int)) (_hL : PeersAt w w.heap.size c.pe L) (h1 : ¬ 4 < c.ty) (h2 : c.ro ≠ 0) (h3 : c.hi ≠ 0) (h4 : c.dd ≠ 0) (h5 : ¬ 0 < c.po) (h6 : ¬ 32 < c.nb) (h7 : c.ty = 4) (h8 : c.na = 0) (h9 : c.nb = 0) (ha : c.ad = 0) (hb : c.rm = 0) (hpb : c.peers = false) : Calls Try.prog 29 #[.agg c.cells] w fun e w' => MayPost c L w e w' := by
  have HNO : Hid (¬ MayOk c L) := Lib.hid (fun m => (m.vi h7).2.2.2.1 hb)
  unfold LC.cells
  have H_h1 := Lib.hid h1
  have H_h2 := Lib.hid h2
  have H_h3 := Lib.hid h3
  have H_h4 := Lib.hid h4
  have H_h5 := Lib.hid h5
  have H_h6 := Lib.hid h6
  have H_h7 := Lib.hid h7
  have H_h8 := Lib.hid h8
  have H_h9 := Lib.hid h9
  have H_ha := Lib.hid ha
  have H_hb := Lib.hid hb
  have H_hpb := Lib.hid hpb
  clear h1 h2 h3 h4 h5 h6 h7 h8 h9 ha hb hpb
  go_enter Try.func29, Try.ntmps29
  go_upto_region 1 with fail
  obtain ⟨W0, hW0⟩ : ∃ W0, W0 = w.alloc (.cells c.cells 76) := ⟨_, rfl⟩
  have K0 : Hid (Blk W0 w.heap.size 76 c.cells) := Lib.hid (by rw [hW0]; exact Blk.new w _ _)
  have B0 : Hid (Below w.heap.size w W0) := Lib.hid (by rw [hW0]; exact (Below.refl _ w).alloc (Nat.le_refl _) _)
  have hs0 : w.heap.size < W0.heap.size := K0.out.lt
  unfold LC.cells at hW0
  rw [← hW0]
  clear hW0
  have h1 := H_h1.out
  have h2 := H_h2.out
  have h3 := H_h3.out
  have h4 := H_h4.out
  have h5 := H_h5.out
  have h6 := H_h6.out
  have hpb := H_hpb.out
  have e_h2 : (c.ro == 0) = false := by simpa using h2
  have e_h3 : (c.hi == 0) = false := by simpa using h3
  have e_h4 : (c.dd == 0) = false := by simpa using h4
  obtain ⟨q0, q1, q2, q3, q4, q5, q6, q7, q8, q9, q10, q11, q12, q13⟩ := lcq (c := c) K0.out
  have d1 := mxd (n := w.heap.size + 1) (W := W0) hpb
  refine wp_region_later (B := w.heap.size + 1) (w0 := W0) (by kernel_rfl) (by kernel_rfl) (Below.refl _ _) ?_
  repeat (go_big_quiet_step (first
    | (go_at_call 62; with_reducible exact later_call _ (by omega) (d1.out _))))
  refine wpQuiet_nil ?_
  rintro wx ⟨⟨wy, hwy⟩, hwe⟩
  obtain rfl : wx = wy := hwe
  have B1 := Lib.hid (B0.out.trans (hwy.mono (by omega)))
  have K1 := Lib.hid (K0.out.below hwy (by omega))
  clear d1 hwy q0 q1 q2 q3 q4 q5 q6 q7 q8 q9 q10 q11 q12 q13
  have h7 := H_h7.out
  have h8 := H_h8.out
  have h9 := H_h9.out
  have ha := H_ha.out
  have hb := H_hb.out
  obtain ⟨z0, z1, z2, z3, z4, z5, z6, z7, z8, z9, z10, z11, z12, z13⟩ := lcz (c := c) K1.out
  go_wp2_with fail
  go_ret
  exact ⟨false, rfl, ⟨(fun h => by cases h), fun m => absurd m HNO.out⟩, B1.out⟩
theorem may_vno_e (w : World) (c : LC) (L : List (Int × Int)) (_hL : PeersAt w w.heap.size c.pe L) (h1 : ¬ 4 < c.ty) (h2 : c.ro ≠ 0) (h3 : c.hi ≠ 0) (h4 : c.dd ≠ 0) (h5 : ¬ 0 < c.po) (h6 : ¬ 32 < c.nb) (h7 : c.ty = 4) (h8 : c.na = 0) (h9 : c.nb = 0) (ha : c.ad = 0) (hb : c.rm ≠ 0) (hc : c.rm = c.ro) (hpb : c.peers = false) : Calls Try.prog 29 #[.agg c.cells] w fun e w' => MayPost c L w e w' := by
  have HNO : Hid (¬ MayOk c L) := Lib.hid (fun m => (m.vi h7).2.2.2.2.1 hc)
  unfold LC.cells
  have H_h1 := Lib.hid h1
  have H_h2 := Lib.hid h2
  have H_h3 := Lib.hid h3
  have H_h4 := Lib.hid h4
  have H_h5 := Lib.hid h5
  have H_h6 := Lib.hid h6
  have H_h7 := Lib.hid h7
  have H_h8 := Lib.hid h8
  have H_h9 := Lib.hid h9
  have H_ha := Lib.hid ha
  have H_hb := Lib.hid hb
  have H_hc := Lib.hid hc
  have H_hpb := Lib.hid hpb
  clear h1 h2 h3 h4 h5 h6 h7 h8 h9 ha hb hc hpb
  go_enter Try.func29, Try.ntmps29
  go_upto_region 1 with fail
  obtain ⟨W0, hW0⟩ : ∃ W0, W0 = w.alloc (.cells c.cells 76) := ⟨_, rfl⟩
  have K0 : Hid (Blk W0 w.heap.size 76 c.cells) := Lib.hid (by rw [hW0]; exact Blk.new w _ _)
  have B0 : Hid (Below w.heap.size w W0) := Lib.hid (by rw [hW0]; exact (Below.refl _ w).alloc (Nat.le_refl _) _)
  have hs0 : w.heap.size < W0.heap.size := K0.out.lt
  unfold LC.cells at hW0
  rw [← hW0]
  clear hW0
  have h1 := H_h1.out
  have h2 := H_h2.out
  have h3 := H_h3.out
  have h4 := H_h4.out
  have h5 := H_h5.out
  have h6 := H_h6.out
  have hpb := H_hpb.out
  have e_h2 : (c.ro == 0) = false := by simpa using h2
  have e_h3 : (c.hi == 0) = false := by simpa using h3
  have e_h4 : (c.dd == 0) = false := by simpa using h4
  obtain ⟨q0, q1, q2, q3, q4, q5, q6, q7, q8, q9, q10, q11, q12, q13⟩ := lcq (c := c) K0.out
  have d1 := mxd (n := w.heap.size + 1) (W := W0) hpb
  refine wp_region_later (B := w.heap.size + 1) (w0 := W0) (by kernel_rfl) (by kernel_rfl) (Below.refl _ _) ?_
  repeat (go_big_quiet_step (first
    | (go_at_call 62; with_reducible exact later_call _ (by omega) (d1.out _))))
  refine wpQuiet_nil ?_
  rintro wx ⟨⟨wy, hwy⟩, hwe⟩
  obtain rfl : wx = wy := hwe
  have B1 := Lib.hid (B0.out.trans (hwy.mono (by omega)))
  have K1 := Lib.hid (K0.out.below hwy (by omega))
  clear d1 hwy q0 q1 q2 q3 q4 q5 q6 q7 q8 q9 q10 q11 q12 q13
  have h7 := H_h7.out
  have h8 := H_h8.out
  have h9 := H_h9.out
  have ha := H_ha.out
  have hb := H_hb.out
  have hc := H_hc.out
  have e_hb : (c.rm == 0) = false := by simpa using hb
  obtain ⟨z0, z1, z2, z3, z4, z5, z6, z7, z8, z9, z10, z11, z12, z13⟩ := lcz (c := c) K1.out
  go_wp2_with fail
  go_ret
  exact ⟨false, rfl, ⟨(fun h => by cases h), fun m => absurd m HNO.out⟩, B1.out⟩
theorem may_vno_f (w : World) (c : LC) (L : List (Int × Int)) (_hL : PeersAt w w.heap.size c.pe L) (h1 : ¬ 4 < c.ty) (h2 : c.ro ≠ 0) (h3 : c.hi ≠ 0) (h4 : c.dd ≠ 0) (h5 : ¬ 0 < c.po) (h6 : ¬ 32 < c.nb) (h7 : c.ty = 4) (h8 : c.na = 0) (h9 : c.nb = 0) (ha : c.ad = 0) (hb : c.rm ≠ 0) (hc : c.rm ≠ c.ro) (hd : c.ps = true) (hpb : c.peers = false) : Calls Try.prog 29 #[.agg c.cells] w fun e w' => MayPost c L w e w' := by
  have HNO : Hid (¬ MayOk c L) := Lib.hid (fun m => by have h := (m.vi h7).2.2.2.2.2.1; rw [hd] at h; cases h)
  unfold LC.cells
  have H_h1 := Lib.hid h1
  have H_h2 := Lib.hid h2
  have H_h3 := Lib.hid h3
  have H_h4 := Lib.hid h4
  have H_h5 := Lib.hid h5
  have H_h6 := Lib.hid h6
  have H_h7 := Lib.hid h7
  have H_h8 := Lib.hid h8
  have H_h9 := Lib.hid h9
  have H_ha := Lib.hid ha
  have H_hb := Lib.hid hb
  have H_hc := Lib.hid hc
  have H_hd := Lib.hid hd
  have H_hpb := Lib.hid hpb
  clear h1 h2 h3 h4 h5 h6 h7 h8 h9 ha hb hc hd hpb
  go_enter Try.func29, Try.ntmps29
  go_upto_region 1 with fail
  obtain ⟨W0, hW0⟩ : ∃ W0, W0 = w.alloc (.cells c.cells 76) := ⟨_, rfl⟩
  have K0 : Hid (Blk W0 w.heap.size 76 c.cells) := Lib.hid (by rw [hW0]; exact Blk.new w _ _)
  have B0 : Hid (Below w.heap.size w W0) := Lib.hid (by rw [hW0]; exact (Below.refl _ w).alloc (Nat.le_refl _) _)
  have hs0 : w.heap.size < W0.heap.size := K0.out.lt
  unfold LC.cells at hW0
  rw [← hW0]
  clear hW0
  have h1 := H_h1.out
  have h2 := H_h2.out
  have h3 := H_h3.out
  have h4 := H_h4.out
  have h5 := H_h5.out
  have h6 := H_h6.out
  have hpb := H_hpb.out
  have e_h2 : (c.ro == 0) = false := by simpa using h2
  have e_h3 : (c.hi == 0) = false := by simpa using h3
  have e_h4 : (c.dd == 0) = false := by simpa using h4
  obtain ⟨q0, q1, q2, q3, q4, q5, q6, q7, q8, q9, q10, q11, q12, q13⟩ := lcq (c := c) K0.out
  have d1 := mxd (n := w.heap.size + 1) (W := W0) hpb
  refine wp_region_later (B := w.heap.size + 1) (w0 := W0) (by kernel_rfl) (by kernel_rfl) (Below.refl _ _) ?_
  repeat (go_big_quiet_step (first
    | (go_at_call 62; with_reducible exact later_call _ (by omega) (d1.out _))))
  refine wpQuiet_nil ?_
  rintro wx ⟨⟨wy, hwy⟩, hwe⟩
  obtain rfl : wx = wy := hwe
  have B1 := Lib.hid (B0.out.trans (hwy.mono (by omega)))
  have K1 := Lib.hid (K0.out.below hwy (by omega))
  clear d1 hwy q0 q1 q2 q3 q4 q5 q6 q7 q8 q9 q10 q11 q12 q13
  have h7 := H_h7.out
  have h8 := H_h8.out
  have h9 := H_h9.out
  have ha := H_ha.out
  have hb := H_hb.out
  have hc := H_hc.out
  have hd := H_hd.out
  have e_hb : (c.rm == 0) = false := by simpa using hb
  have e_hc : (c.rm == c.ro) = false := by simpa using hc
  obtain ⟨z0, z1, z2, z3, z4, z5, z6, z7, z8, z9, z10, z11, z12, z13⟩ := lcz (c := c) K1.out
  go_wp2_with fail
  go_ret
  exact ⟨false, rfl, ⟨(fun h => by cases h), fun m => absurd m HNO.out⟩, B1.out⟩
end Mx
end Go.Proofs.Ytgbmhijgpdgdbaa
