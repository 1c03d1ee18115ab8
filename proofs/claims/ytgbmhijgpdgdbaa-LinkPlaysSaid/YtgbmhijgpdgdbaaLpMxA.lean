/- May, by the document, both ways, of some configs. -/
import Derived.Test.YtgbmhijgpdgdbaaLpMxX
set_option maxHeartbeats 4000000
set_option maxRecDepth 20000
namespace Go.Proofs.Ytgbmhijgpdgdbaa
open Go.RowKit
namespace Mx
theorem may_no1 (w : World) (c : LC) (L : List (Int × Int)) (_hL : PeersAt w w.heap.size c.pe L) (h1 : 4 < c.ty) (b : Bool) (hpb : c.peers = b) : Calls Try.prog 29 #[.agg c.cells] w fun e w' => MayPost c L w e w' := by
  have HNO : Hid (¬ MayOk c L) := Lib.hid (fun m => by have := m.ty; omega)
  unfold LC.cells
  have H_h1 := Lib.hid h1
  have H_hpb := Lib.hid hpb
  clear h1 hpb
  go_enter Try.func29, Try.ntmps29
  go_upto_region 1 with fail
  obtain ⟨W0, hW0⟩ : ∃ W0, W0 = w.alloc (.cells c.cells 76) := ⟨_, rfl⟩
  have K0 : Hid (Blk W0 w.heap.size 76 c.cells) := Lib.hid (by rw [hW0]; exact Blk.new w _ _)
  have B0 : Hid (Below w.heap.size w W0) := Lib.hid (by rw [hW0]; exact (Below.refl _ w).alloc (Nat.le_refl _) _)
  have hs0 : w.heap.size < W0.heap.size := K0.out.lt
  unfold LC.cells at hW0
  rw [← hW0]
  clear hW0
  have h1 := H_h1.out
  have hpb := H_hpb.out
  obtain ⟨q0, q1, q2, q3, q4, q5, q6, q7, q8, q9, q10, q11, q12, q13⟩ := lcq (c := c) K0.out
  have d1 := mxd (n := w.heap.size + 1) (W := W0) hpb
  refine wp_region_later (B := w.heap.size + 1) (w0 := W0) (by kernel_rfl) (by kernel_rfl) (Below.refl _ _) ?_
  repeat (go_big_quiet_step (first
    | (go_at_call 62; with_reducible exact later_call _ (by omega) (d1.out _))))
  refine wpQuiet_nil ?_
  rintro wx ⟨⟨wy, hwy⟩, hwe⟩
  obtain rfl : wx = wy := hwe
  have B1 := Lib.hid (B0.out.trans (hwy.mono (by omega)))
  have K1 := Lib.hid (K0.out.below hwy (by omega))
  clear d1 hwy q0 q1 q2 q3 q4 q5 q6 q7 q8 q9 q10 q11 q12 q13
  go_wp2_with fail
  go_ret
  exact ⟨false, rfl, ⟨(fun h => by cases h), fun m => absurd m HNO.out⟩, B1.out⟩
theorem may_no2 (w : World) (c : LC) (L : List (Int × Int)) (_hL : PeersAt w w.heap.size c.pe L) (h1 : ¬ 4 < c.ty) (h2 : c.ro = 0) (b : Bool) (hpb : c.peers = b) : Calls Try.prog 29 #[.agg c.cells] w fun e w' => MayPost c L w e w' := by
  have HNO : Hid (¬ MayOk c L) := Lib.hid (fun m => m.ro h2)
  unfold LC.cells
  have H_h1 := Lib.hid h1
  have H_h2 := Lib.hid h2
  have H_hpb := Lib.hid hpb
  clear h1 h2 hpb
  go_enter Try.func29, Try.ntmps29
  go_upto_region 1 with fail
  obtain ⟨W0, hW0⟩ : ∃ W0, W0 = w.alloc (.cells c.cells 76) := ⟨_, rfl⟩
  have K0 : Hid (Blk W0 w.heap.size 76 c.cells) := Lib.hid (by rw [hW0]; exact Blk.new w _ _)
  have B0 : Hid (Below w.heap.size w W0) := Lib.hid (by rw [hW0]; exact (Below.refl _ w).alloc (Nat.le_refl _) _)
  have hs0 : w.heap.size < W0.heap.size := K0.out.lt
  unfold LC.cells at hW0
  rw [← hW0]
  clear hW0
  have h1 := H_h1.out
  have h2 := H_h2.out
  have hpb := H_hpb.out
  obtain ⟨q0, q1, q2, q3, q4, q5, q6, q7, q8, q9, q10, q11, q12, q13⟩ := lcq (c := c) K0.out
  have d1 := mxd (n := w.heap.size + 1) (W := W0) hpb
  refine wp_region_later (B := w.heap.size + 1) (w0 := W0) (by kernel_rfl) (by kernel_rfl) (Below.refl _ _) ?_
  repeat (go_big_quiet_step (first
    | (go_at_call 62; with_reducible exact later_call _ (by omega) (d1.out _))))
  refine wpQuiet_nil ?_
  rintro wx ⟨⟨wy, hwy⟩, hwe⟩
  obtain rfl : wx = wy := hwe
  have B1 := Lib.hid (B0.out.trans (hwy.mono (by omega)))
  have K1 := Lib.hid (K0.out.below hwy (by omega))
  clear d1 hwy q0 q1 q2 q3 q4 q5 q6 q7 q8 q9 q10 q11 q12 q13
  go_wp2_with fail
  go_ret
  exact ⟨false, rfl, ⟨(fun h => by cases h), fun m => absurd m HNO.out⟩, B1.out⟩
theorem may_no3 (w : World) (c : LC) (L : List (Int × Int)) (_hL : PeersAt w w.heap.size c.pe L) (h1 : ¬ 4 < c.ty) (h2 : c.ro ≠ 0) (h3 : c.hi = 0) (b : Bool) (hpb : c.peers = b) : Calls Try.prog 29 #[.agg c.cells] w fun e w' => MayPost c L w e w' := by
  have HNO : Hid (¬ MayOk c L) := Lib.hid (fun m => m.hi h3)
  unfold LC.cells
  have H_h1 := Lib.hid h1
  have H_h2 := Lib.hid h2
  have H_h3 := Lib.hid h3
  have H_hpb := Lib.hid hpb
  clear h1 h2 h3 hpb
  go_enter Try.func29, Try.ntmps29
  go_upto_region 1 with fail
  obtain ⟨W0, hW0⟩ : ∃ W0, W0 = w.alloc (.cells c.cells 76) := ⟨_, rfl⟩
  have K0 : Hid (Blk W0 w.heap.size 76 c.cells) := Lib.hid (by rw [hW0]; exact Blk.new w _ _)
  have B0 : Hid (Below w.heap.size w W0) := Lib.hid (by rw [hW0]; exact (Below.refl _ w).alloc (Nat.le_refl _) _)
  have hs0 : w.heap.size < W0.heap.size := K0.out.lt
  unfold LC.cells at hW0
  rw [← hW0]
  clear hW0
  have h1 := H_h1.out
  have h2 := H_h2.out
  have h3 := H_h3.out
  have hpb := H_hpb.out
  have e_h2 : (c.ro == 0) = false := by simpa using h2
  obtain ⟨q0, q1, q2, q3, q4, q5, q6, q7, q8, q9, q10, q11, q12, q13⟩ := lcq (c := c) K0.out
  have d1 := mxd (n := w.heap.size + 1) (W := W0) hpb
  refine wp_region_later (B := w.heap.size + 1) (w0 := W0) (by kernel_rfl) (by kernel_rfl) (Below.refl _ _) ?_
  repeat (go_big_quiet_step (first
    | (go_at_call 62; with_reducible exact later_call _ (by omega) (d1.out _))))
  refine wpQuiet_nil ?_
  rintro wx ⟨⟨wy, hwy⟩, hwe⟩
  obtain rfl : wx = wy := hwe
  have B1 := Lib.hid (B0.out.trans (hwy.mono (by omega)))
  have K1 := Lib.hid (K0.out.below hwy (by omega))
  clear d1 hwy q0 q1 q2 q3 q4 q5 q6 q7 q8 q9 q10 q11 q12 q13
  go_wp2_with fail
  go_ret
  exact ⟨false, rfl, ⟨(fun h => by cases h), fun m => absurd m HNO.out⟩, B1.out⟩
theorem may_no4 (w : World) (c : LC) (L : List (Int × Int)) (_hL : PeersAt w w.heap.size c.pe L) (h1 : ¬ 4 < c.ty) (h2 : c.ro ≠ 0) (h3 : c.hi ≠ 0) (h4 : c.dd = 0) (b : Bool) (hpb : c.peers = b) : Calls Try.prog 29 #[.agg c.cells] w fun e w' => MayPost c L w e w' := by
  have HNO : Hid (¬ MayOk c L) := Lib.hid (fun m => m.dd h4)
  unfold LC.cells
  have H_h1 := Lib.hid h1
  have H_h2 := Lib.hid h2
  have H_h3 := Lib.hid h3
  have H_h4 := Lib.hid h4
  have H_hpb := Lib.hid hpb
  clear h1 h2 h3 h4 hpb
  go_enter Try.func29, Try.ntmps29
  go_upto_region 1 with fail
  obtain ⟨W0, hW0⟩ : ∃ W0, W0 = w.alloc (.cells c.cells 76) := ⟨_, rfl⟩
  have K0 : Hid (Blk W0 w.heap.size 76 c.cells) := Lib.hid (by rw [hW0]; exact Blk.new w _ _)
  have B0 : Hid (Below w.heap.size w W0) := Lib.hid (by rw [hW0]; exact (Below.refl _ w).alloc (Nat.le_refl _) _)
  have hs0 : w.heap.size < W0.heap.size := K0.out.lt
  unfold LC.cells at hW0
  rw [← hW0]
  clear hW0
  have h1 := H_h1.out
  have h2 := H_h2.out
  have h3 := H_h3.out
  have h4 := H_h4.out
  have hpb := H_hpb.out
  have e_h2 : (c.ro == 0) = false := by simpa using h2
  have e_h3 : (c.hi == 0) = false := by simpa using h3
  obtain ⟨q0, q1, q2, q3, q4, q5, q6, q7, q8, q9, q10, q11, q12, q13⟩ := lcq (c := c) K0.out
  have d1 := mxd (n := w.heap.size + 1) (W := W0) hpb
  refine wp_region_later (B := w.heap.size + 1) (w0 := W0) (by kernel_rfl) (by kernel_rfl) (Below.refl _ _) ?_
  repeat (go_big_quiet_step (first
    | (go_at_call 62; with_reducible exact later_call _ (by omega) (d1.out _))))
  refine wpQuiet_nil ?_
  rintro wx ⟨⟨wy, hwy⟩, hwe⟩
  obtain rfl : wx = wy := hwe
  have B1 := Lib.hid (B0.out.trans (hwy.mono (by omega)))
  have K1 := Lib.hid (K0.out.below hwy (by omega))
  clear d1 hwy q0 q1 q2 q3 q4 q5 q6 q7 q8 q9 q10 q11 q12 q13
  go_wp2_with fail
  go_ret
  exact ⟨false, rfl, ⟨(fun h => by cases h), fun m => absurd m HNO.out⟩, B1.out⟩
theorem may_no5a (w : World) (c : LC) (L : List (Int × Int)) (_hL : PeersAt w w.heap.size c.pe L) (h1 : ¬ 4 < c.ty) (h2 : c.ro ≠ 0) (h3 : c.hi ≠ 0) (h4 : c.dd ≠ 0) (h5 : ¬ 0 < c.po) (hpb : c.peers = true) : Calls Try.prog 29 #[.agg c.cells] w fun e w' => MayPost c L w e w' := by
  have HNO : Hid (¬ MayOk c L) := Lib.hid (fun m => by have h := m.po; rw [hpb, decide_eq_false h5] at h; cases h)
  unfold LC.cells
  have H_h1 := Lib.hid h1
  have H_h2 := Lib.hid h2
  have H_h3 := Lib.hid h3
  have H_h4 := Lib.hid h4
  have H_h5 := Lib.hid h5
  have H_hpb := Lib.hid hpb
  clear h1 h2 h3 h4 h5 hpb
  go_enter Try.func29, Try.ntmps29
  go_upto_region 1 with fail
  obtain ⟨W0, hW0⟩ : ∃ W0, W0 = w.alloc (.cells c.cells 76) := ⟨_, rfl⟩
  have K0 : Hid (Blk W0 w.heap.size 76 c.cells) := Lib.hid (by rw [hW0]; exact Blk.new w _ _)
  have B0 : Hid (Below w.heap.size w W0) := Lib.hid (by rw [hW0]; exact (Below.refl _ w).alloc (Nat.le_refl _) _)
  have hs0 : w.heap.size < W0.heap.size := K0.out.lt
  unfold LC.cells at hW0
  rw [← hW0]
  clear hW0
  have h1 := H_h1.out
  have h2 := H_h2.out
  have h3 := H_h3.out
  have h4 := H_h4.out
  have h5 := H_h5.out
  have hpb := H_hpb.out
  have e_h2 : (c.ro == 0) = false := by simpa using h2
  have e_h3 : (c.hi == 0) = false := by simpa using h3
  have e_h4 : (c.dd == 0) = false := by simpa using h4
  obtain ⟨q0, q1, q2, q3, q4, q5, q6, q7, q8, q9, q10, q11, q12, q13⟩ := lcq (c := c) K0.out
  have d1 := mxd (n := w.heap.size + 1) (W := W0) hpb
  refine wp_region_later (B := w.heap.size + 1) (w0 := W0) (by kernel_rfl) (by kernel_rfl) (Below.refl _ _) ?_
  repeat (go_big_quiet_step (first
    | (go_at_call 62; with_reducible exact later_call _ (by omega) (d1.out _))))
  refine wpQuiet_nil ?_
  rintro wx ⟨⟨wy, hwy⟩, hwe⟩
  obtain rfl : wx = wy := hwe
  have B1 := Lib.hid (B0.out.trans (hwy.mono (by omega)))
  have K1 := Lib.hid (K0.out.below hwy (by omega))
  clear d1 hwy q0 q1 q2 q3 q4 q5 q6 q7 q8 q9 q10 q11 q12 q13
  go_wp2_with fail
  go_ret
  exact ⟨false, rfl, ⟨(fun h => by cases h), fun m => absurd m HNO.out⟩, B1.out⟩
theorem may_no5b (w : World) (c : LC) (L : List (Int × Int)) (_hL : PeersAt w w.heap.size c.pe L) (h1 : ¬ 4 < c.ty) (h2 : c.ro ≠ 0) (h3 : c.hi ≠ 0) (h4 : c.dd ≠ 0) (h5 : 0 < c.po) (hpb : c.peers = false) : Calls Try.prog 29 #[.agg c.cells] w fun e w' => MayPost c L w e w' := by
  have HNO : Hid (¬ MayOk c L) := Lib.hid (fun m => by have h := m.po; rw [hpb, decide_eq_true h5] at h; cases h)
  unfold LC.cells
  have H_h1 := Lib.hid h1
  have H_h2 := Lib.hid h2
  have H_h3 := Lib.hid h3
  have H_h4 := Lib.hid h4
  have H_h5 := Lib.hid h5
  have H_hpb := Lib.hid hpb
  clear h1 h2 h3 h4 h5 hpb
  go_enter Try.func29, Try.ntmps29
  go_upto_region 1 with fail
  obtain ⟨W0, hW0⟩ : ∃ W0, W0 = w.alloc (.cells c.cells 76) := ⟨_, rfl⟩
  have K0 : Hid (Blk W0 w.heap.size 76 c.cells) := Lib.hid (by rw [hW0]; exact Blk.new w _ _)
  have B0 : Hid (Below w.heap.size w W0) := Lib.hid (by rw [hW0]; exact (Below.refl _ w).alloc (Nat.le_refl _) _)
  have hs0 : w.heap.size < W0.heap.size := K0.out.lt
  unfold LC.cells at hW0
  rw [← hW0]
  clear hW0
  have h1 := H_h1.out
  have h2 := H_h2.out
  have h3 := H_h3.out
  have h4 := H_h4.out
  have h5 := H_h5.out
  have hpb := H_hpb.out
  have e_h2 : (c.ro == 0) = false := by simpa using h2
  have e_h3 : (c.hi == 0) = false := by simpa using h3
  have e_h4 : (c.dd == 0) = false := by simpa using h4
  obtain ⟨q0, q1, q2, q3, q4, q5, q6, q7, q8, q9, q10, q11, q12, q13⟩ := lcq (c := c) K0.out
  have d1 := mxd (n := w.heap.size + 1) (W := W0) hpb
  refine wp_region_later (B := w.heap.size + 1) (w0 := W0) (by kernel_rfl) (by kernel_rfl) (Below.refl _ _) ?_
  repeat (go_big_quiet_step (first
    | (go_at_call 62; with_reducible exact later_call _ (by omega) (d1.out _))))
  refine wpQuiet_nil ?_
  rintro wx ⟨⟨wy, hwy⟩, hwe⟩
  obtain rfl : wx = wy := hwe
  have B1 := Lib.hid (B0.out.trans (hwy.mono (by omega)))
  have K1 := Lib.hid (K0.out.below hwy (by omega))
  clear d1 hwy q0 q1 q2 q3 q4 q5 q6 q7 q8 q9 q10 q11 q12 q13
  go_wp2_with fail
  go_ret
  exact ⟨false, rfl, ⟨(fun h => by cases h), fun m => absurd m HNO.out⟩, B1.out⟩
theorem may_no6a (w : World) (c : LC) (L : List (Int × Int)) (_hL : PeersAt w w.heap.size c.pe L) (h1 : ¬ 4 < c.ty) (h2 : c.ro ≠ 0) (h3 : c.hi ≠ 0) (h4 : c.dd ≠ 0) (h5 : 0 < c.po) (h6 : 32 < c.nb) (hpb : c.peers = true) : Calls Try.prog 29 #[.agg c.cells] w fun e w' => MayPost c L w e w' := by
  have HNO : Hid (¬ MayOk c L) := Lib.hid (fun m => by have := m.nb; omega)
  unfold LC.cells
  have H_h1 := Lib.hid h1
  have H_h2 := Lib.hid h2
  have H_h3 := Lib.hid h3
  have H_h4 := Lib.hid h4
  have H_h5 := Lib.hid h5
  have H_h6 := Lib.hid h6
  have H_hpb := Lib.hid hpb
  clear h1 h2 h3 h4 h5 h6 hpb
  go_enter Try.func29, Try.ntmps29
  go_upto_region 1 with fail
  obtain ⟨W0, hW0⟩ : ∃ W0, W0 = w.alloc (.cells c.cells 76) := ⟨_, rfl⟩
  have K0 : Hid (Blk W0 w.heap.size 76 c.cells) := Lib.hid (by rw [hW0]; exact Blk.new w _ _)
  have B0 : Hid (Below w.heap.size w W0) := Lib.hid (by rw [hW0]; exact (Below.refl _ w).alloc (Nat.le_refl _) _)
  have hs0 : w.heap.size < W0.heap.size := K0.out.lt
  unfold LC.cells at hW0
  rw [← hW0]
  clear hW0
  have h1 := H_h1.out
  have h2 := H_h2.out
  have h3 := H_h3.out
  have h4 := H_h4.out
  have h5 := H_h5.out
  have h6 := H_h6.out
  have hpb := H_hpb.out
  have e_h2 : (c.ro == 0) = false := by simpa using h2
  have e_h3 : (c.hi == 0) = false := by simpa using h3
  have e_h4 : (c.dd == 0) = false := by simpa using h4
  obtain ⟨q0, q1, q2, q3, q4, q5, q6, q7, q8, q9, q10, q11, q12, q13⟩ := lcq (c := c) K0.out
  have d1 := mxd (n := w.heap.size + 1) (W := W0) hpb
  refine wp_region_later (B := w.heap.size + 1) (w0 := W0) (by kernel_rfl) (by kernel_rfl) (Below.refl _ _) ?_
  repeat (go_big_quiet_step (first
    | (go_at_call 62; with_reducible exact later_call _ (by omega) (d1.out _))))
  refine wpQuiet_nil ?_
  rintro wx ⟨⟨wy, hwy⟩, hwe⟩
  obtain rfl : wx = wy := hwe
  have B1 := Lib.hid (B0.out.trans (hwy.mono (by omega)))
  have K1 := Lib.hid (K0.out.below hwy (by omega))
  clear d1 hwy q0 q1 q2 q3 q4 q5 q6 q7 q8 q9 q10 q11 q12 q13
  go_wp2_with fail
  go_ret
  exact ⟨false, rfl, ⟨(fun h => by cases h), fun m => absurd m HNO.out⟩, B1.out⟩
theorem may_no6b (w : World) (c : LC) (L : List (Int × Int)) (_hL : PeersAt w w.heap.size c.pe L) (h1 : ¬ 4 < c.ty) (h2 : c.ro ≠ 0) (h3 : c.hi ≠ 0) (h4 : c.dd ≠ 0) (h5 : ¬ 0 < c.po) (h6 : 32 < c.nb) (hpb : c.peers = false) : Calls Try.prog 29 #[.agg c.cells] w fun e w' => MayPost c L w e w' := by
  have HNO : Hid (¬ MayOk c L) := Lib.hid (fun m => by have := m.nb; omega)
  unfold LC.cells
  have H_h1 := Lib.hid h1
  have H_h2 := Lib.hid h2
  have H_h3 := Lib.hid h3
  have H_h4 := Lib.hid h4
  have H_h5 := Lib.hid h5
  have H_h6 := Lib.hid h6
  have H_hpb := Lib.hid hpb
  clear h1 h2 h3 h4 h5 h6 hpb
  go_enter Try.func29, Try.ntmps29
  go_upto_region 1 with fail
  obtain ⟨W0, hW0⟩ : ∃ W0, W0 = w.alloc (.cells c.cells 76) := ⟨_, rfl⟩
  have K0 : Hid (Blk W0 w.heap.size 76 c.cells) := Lib.hid (by rw [hW0]; exact Blk.new w _ _)
  have B0 : Hid (Below w.heap.size w W0) := Lib.hid (by rw [hW0]; exact (Below.refl _ w).alloc (Nat.le_refl _) _)
  have hs0 : w.heap.size < W0.heap.size := K0.out.lt
  unfold LC.cells at hW0
  rw [← hW0]
  clear hW0
  have h1 := H_h1.out
  have h2 := H_h2.out
  have h3 := H_h3.out
  have h4 := H_h4.out
  have h5 := H_h5.out
  have h6 := H_h6.out
  have hpb := H_hpb.out
  have e_h2 : (c.ro == 0) = false := by simpa using h2
  have e_h3 : (c.hi == 0) = false := by simpa using h3
  have e_h4 : (c.dd == 0) = false := by simpa using h4
  obtain ⟨q0, q1, q2, q3, q4, q5, q6, q7, q8, q9, q10, q11, q12, q13⟩ := lcq (c := c) K0.out
  have d1 := mxd (n := w.heap.size + 1) (W := W0) hpb
  refine wp_region_later (B := w.heap.size + 1) (w0 := W0) (by kernel_rfl) (by kernel_rfl) (Below.refl _ _) ?_
  repeat (go_big_quiet_step (first
    | (go_at_call 62; with_reducible exact later_call _ (by omega) (d1.out _))))
  refine wpQuiet_nil ?_
  rintro wx ⟨⟨wy, hwy⟩, hwe⟩
  obtain rfl : wx = wy := hwe
  have B1 := Lib.hid (B0.out.trans (hwy.mono (by omega)))
  have K1 := Lib.hid (K0.out.below hwy (by omega))
  clear d1 hwy q0 q1 q2 q3 q4 q5 q6 q7 q8 q9 q10 q11 q12 q13
  go_wp2_with fail
  go_ret
  exact ⟨false, rfl, ⟨(fun h => by cases h), fun m => absurd m HNO.out⟩, B1.out⟩
end Mx
end Go.Proofs.Ytgbmhijgpdgdbaa
