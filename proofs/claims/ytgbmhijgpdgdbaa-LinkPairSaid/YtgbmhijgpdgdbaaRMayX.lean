/- May a link be so, by the document: of one that is not virtual. -/
import Derived.Test.YtgbmhijgpdgdbaaRMayW
namespace Go.Proofs.Ytgbmhijgpdgdbaa
open Go.RowKit

theorem pflat_len (l : List (Int × Int)) : (l.flatMap pcells).length = l.length * 2 := by
  induction l with
  | nil => rfl
  | cons a t ih => simp only [List.flatMap_cons, List.length_append, ih, List.length_cons]; simp [pcells]; omega
theorem pflat_drop (l : List (Int × Int)) (k : Nat) : (l.flatMap pcells).drop (k * 2) = (l.drop k).flatMap pcells := by
  induction k generalizing l with
  | zero => simp
  | succ k ih =>
    cases l with
    | nil => simp
    | cons a t =>
      have : (k + 1) * 2 = 2 + k * 2 := by omega
      rw [this, ← List.drop_drop]
      simpa [List.flatMap_cons, pcells] using ih t
theorem Reads.peer {w : World} {B n : Nat} {A : Option Addr} {l : List (Int × Int)} (h : Reads w B 2 A n (l.flatMap pcells)) {k : Nat} {x : Int × Int} (hx : l[k]? = some x) :
    ∃ b off, A = some ⟨b, off, none⟩ ∧ b < B ∧ w.cell? ⟨b, off + k * 2, none⟩ = some (.int .u32 x.1) ∧ w.cell? ⟨b, off + k * 2 + 1, none⟩ = some (.int .u8 x.2) := by
  have hk : k < l.length := (List.getElem?_eq_some_iff.1 hx).1
  have hn : n = l.length := by have := h.1; have := pflat_len l; omega
  obtain ⟨ad, rfl, hb, hc⟩ := h.2 (by omega)
  have hcell : ∀ (k : Nat) (x : Int × Int), l[k]? = some x → ∀ i u, (pcells x)[i]? = some u → (l.flatMap pcells)[k * 2 + i]? = some u := by
    intro k x hx i u hu
    have hi : i < 2 := by
      have := (List.getElem?_eq_some_iff.1 hu).1
      simpa [pcells] using this
    rw [← List.getElem?_drop, pflat_drop]
    have hk : k < l.length := (List.getElem?_eq_some_iff.1 hx).1
    rw [List.drop_eq_getElem_cons hk, List.flatMap_cons, List.getElem?_append_left (by simp [pcells]; omega)]
    rw [List.getElem?_eq_getElem hk] at hx
    cases hx
    exact hu
  have hs := World.cell?_spot (hc (0 * 2 + 0) _ (hcell 0 l[0] (List.getElem?_eq_getElem (by omega)) 0 _ rfl))
  have hsp : ad.spot = none := by
    unfold Addr.add at hs
    simpa using hs
  obtain ⟨b, off, spot⟩ := ad
  simp only at hsp
  subst hsp
  have key : ∀ (i : Nat) (u : Value), (pcells x)[i]? = some u → w.cell? ⟨b, off + (k * 2 + i), none⟩ = some u := by
    intro i u hu
    have := hc _ _ (hcell k x hx i u hu)
    unfold Addr.add at this
    split at this
    · rename_i h0
      simpa [h0] using this
    · simpa using this
  exact ⟨b, off, rfl, hb, key 0 _ rfl, key 1 _ rfl⟩

set_option maxHeartbeats 4000000 in
set_option maxRecDepth 20000 in
theorem may_plain_f (w : World) (c : LC) (L : List (Int × Int)) (hL : PeersAt w w.heap.size c.pe L) (h1 : ¬ 4 < c.ty) (h2 : c.ro ≠ 0) (h3 : c.hi ≠ 0) (h4 : c.dd ≠ 0) (h6 : ¬ 32 < c.nb) (hn0 : 0 ≤ c.nb) (h7 : c.ty ≠ 4) (h5 : ¬ 0 < c.po) (ha : c.rm = 0) (hb : c.ad ≠ 0) (hc : bits .andNot .u32 c.na (maskN c.nb.toNat) = 0) (hd : bits .and .u32 c.ad (maskN c.nb.toNat) = c.na) (he : c.dm = false) (hpb : c.peers = false) : Calls Try.prog 29 #[.agg c.cells] w fun e w' => MayPost c L w e w' := by
  unfold LC.cells
  have H_h1 := Lib.hid h1
  have H_h2 := Lib.hid h2
  have H_h3 := Lib.hid h3
  have H_h4 := Lib.hid h4
  have H_h6 := Lib.hid h6
  have H_hn0 := Lib.hid hn0
  have H_h7 := Lib.hid h7
  have H_h5 := Lib.hid h5
  have H_ha := Lib.hid ha
  have H_hb := Lib.hid hb
  have H_hc := Lib.hid hc
  have H_hd := Lib.hid hd
  have H_he := Lib.hid he
  have H_hpb := Lib.hid hpb
  clear h1 h2 h3 h4 h6 hn0 h7 h5 ha hb hc hd he hpb
  have HPe := Lib.hid rpeers_any
  go_enter Try.func29, Try.ntmps29
  go_upto_region 1 with fail
  obtain ⟨W0, hW0⟩ : ∃ W0, W0 = w.alloc (.cells c.cells 76) := ⟨_, rfl⟩
  have K0 : Hid (Blk W0 w.heap.size 76 c.cells) := Lib.hid (by rw [hW0]; exact Blk.new w _ _)
  have B0 : Hid (Below w.heap.size w W0) := Lib.hid (by rw [hW0]; exact (Below.refl _ w).alloc (Nat.le_refl _) _)
  have hs0 : w.heap.size < W0.heap.size := K0.out.lt
  unfold LC.cells at hW0
  rw [← hW0]
  clear hW0
  have h1 := H_h1.out
  have h2 := H_h2.out
  have h3 := H_h3.out
  have h4 := H_h4.out
  have h6 := H_h6.out
  have h5 := H_h5.out
  have hpb := H_hpb.out
  have e_h2 : (c.ro == 0) = false := by simpa using h2
  have e_h3 : (c.hi == 0) = false := by simpa using h3
  have e_h4 : (c.dd == 0) = false := by simpa using h4
  have q0 := later_cell (v := .int .u8 c.ty) (B := w.heap.size + 1) (w0 := W0) (p := ⟨w.heap.size, 0, none⟩) (by simp) (K0.out.cell 0)
  have q1 := later_cell (v := .int .u32 c.ro) (B := w.heap.size + 1) (w0 := W0) (p := ⟨w.heap.size, 1, none⟩) (by simp) (K0.out.cell 1)
  have q2 := later_cell (v := .int .u32 c.na) (B := w.heap.size + 1) (w0 := W0) (p := ⟨w.heap.size, 2, none⟩) (by simp) (K0.out.cell 2)
  have q3 := later_cell (v := .int .u8 c.nb) (B := w.heap.size + 1) (w0 := W0) (p := ⟨w.heap.size, 3, none⟩) (by simp) (K0.out.cell 3)
  have q4 := later_cell (v := .int .u32 c.ad) (B := w.heap.size + 1) (w0 := W0) (p := ⟨w.heap.size, 4, none⟩) (by simp) (K0.out.cell 4)
  have q5 := later_cell (v := .int .u8 c.op) (B := w.heap.size + 1) (w0 := W0) (p := ⟨w.heap.size, 5, none⟩) (by simp) (K0.out.cell 5)
  have q6 := later_cell (v := .int .u16 c.hi) (B := w.heap.size + 1) (w0 := W0) (p := ⟨w.heap.size, 6, none⟩) (by simp) (K0.out.cell 6)
  have q7 := later_cell (v := .int .u32 c.dd) (B := w.heap.size + 1) (w0 := W0) (p := ⟨w.heap.size, 7, none⟩) (by simp) (K0.out.cell 7)
  have q8 := later_cell (v := .int .u16 c.po) (B := w.heap.size + 1) (w0 := W0) (p := ⟨w.heap.size, 8, none⟩) (by simp) (K0.out.cell 8)
  have q9 := later_cell (v := .int .u8 c.pr) (B := w.heap.size + 1) (w0 := W0) (p := ⟨w.heap.size, 9, none⟩) (by simp) (K0.out.cell 9)
  have q10 := later_cell (v := .bool c.dm) (B := w.heap.size + 1) (w0 := W0) (p := ⟨w.heap.size, 10, none⟩) (by simp) (K0.out.cell 10)
  have q11 := later_cell (v := .bool c.ps) (B := w.heap.size + 1) (w0 := W0) (p := ⟨w.heap.size, 11, none⟩) (by simp) (K0.out.cell 11)
  have q12 := later_cell (v := c.pe) (B := w.heap.size + 1) (w0 := W0) (p := ⟨w.heap.size, 12, none⟩) (by simp) (K0.out.cell 12)
  have q13 := later_cell (v := .int .u32 c.rm) (B := w.heap.size + 1) (w0 := W0) (p := ⟨w.heap.size, 13, none⟩) (by simp) (K0.out.cell 13)
  have d1 : Hid (∀ u : Later (w.heap.size + 1) W0, Calls Try.prog 62 #[.agg #[.int .u8 c.ty, .int .u32 c.ro, .int .u32 c.na, .int .u8 c.nb, .int .u32 c.ad, .int .u8 c.op, .int .u16 c.hi, .int .u32 c.dd, .int .u16 c.po, .int .u8 c.pr, .bool c.dm, .bool c.ps, c.pe, .int .u32 c.rm]] u.to fun e w' => e = .returned (.bool false) ∧ Below u.to.heap.size u.to w') := Lib.hid (fun u => by have h := HPe.out c u.to; rw [hpb] at h; exact h)
  refine wp_region_later (B := w.heap.size + 1) (w0 := W0) (by kernel_rfl) (by kernel_rfl) (Below.refl _ _) ?_
  repeat (go_big_quiet_step (first
    | (go_at_call 62; with_reducible exact later_call _ (by omega) (d1.out _))))
  refine wpQuiet_nil ?_
  rintro wx ⟨⟨wy, hwy⟩, hwe⟩
  obtain rfl : wx = wy := hwe
  have B1 := Lib.hid (B0.out.trans (hwy.mono (by omega)))
  have K1 := Lib.hid (K0.out.below hwy (by omega))
  clear d1 hwy q0 q1 q2 q3 q4 q5 q6 q7 q8 q9 q10 q11 q12 q13
  have hn0 := H_hn0.out
  have h7 := H_h7.out
  have ha := H_ha.out
  have hb := H_hb.out
  have hc := H_hc.out
  have hd := H_hd.out
  have he := H_he.out
  have e_h7 : (c.ty == 4) = false := by simpa using h7
  have e_hb : (c.ad == 0) = false := by simpa using hb
  obtain ⟨A, cap, hpe, hr⟩ := hL
  have hp2 : ∀ W, Calls Try.prog 62 #[.agg #[.int .u8 c.ty, .int .u32 c.ro, .int .u32 c.na, .int .u8 c.nb, .int .u32 c.ad, .int .u8 c.op, .int .u16 c.hi, .int .u32 c.dd, .int .u16 c.po, .int .u8 c.pr, .bool c.dm, .bool c.ps, (.slice A L.length cap), .int .u32 c.rm]] W fun e w' => e = .returned (.bool false) ∧ Below W.heap.size W w' := fun W => by have h := HPe.out c W; rw [hpb] at h; unfold LC.cells at h; rw [hpe] at h; exact h
  have HP2 := Lib.hid hp2
  clear hp2
  have z0 : wx.cell? ⟨w.heap.size, 0, none⟩ = some (.int .u8 c.ty) := K1.out.cell 0
  have z1 : wx.cell? ⟨w.heap.size, 1, none⟩ = some (.int .u32 c.ro) := K1.out.cell 1
  have z2 : wx.cell? ⟨w.heap.size, 2, none⟩ = some (.int .u32 c.na) := K1.out.cell 2
  have z3 : wx.cell? ⟨w.heap.size, 3, none⟩ = some (.int .u8 c.nb) := K1.out.cell 3
  have z4 : wx.cell? ⟨w.heap.size, 4, none⟩ = some (.int .u32 c.ad) := K1.out.cell 4
  have z5 : wx.cell? ⟨w.heap.size, 5, none⟩ = some (.int .u8 c.op) := K1.out.cell 5
  have z6 : wx.cell? ⟨w.heap.size, 6, none⟩ = some (.int .u16 c.hi) := K1.out.cell 6
  have z7 : wx.cell? ⟨w.heap.size, 7, none⟩ = some (.int .u32 c.dd) := K1.out.cell 7
  have z8 : wx.cell? ⟨w.heap.size, 8, none⟩ = some (.int .u16 c.po) := K1.out.cell 8
  have z9 : wx.cell? ⟨w.heap.size, 9, none⟩ = some (.int .u8 c.pr) := K1.out.cell 9
  have z10 : wx.cell? ⟨w.heap.size, 10, none⟩ = some (.bool c.dm) := K1.out.cell 10
  have z11 : wx.cell? ⟨w.heap.size, 11, none⟩ = some (.bool c.ps) := K1.out.cell 11
  have z12 : wx.cell? ⟨w.heap.size, 12, none⟩ = some (c.pe) := K1.out.cell 12
  have z13 : wx.cell? ⟨w.heap.size, 13, none⟩ = some (.int .u32 c.rm) := K1.out.cell 13
  rw [hpe] at z12
  go_upto_region 8 with (go_at_call 34; refine (rmask_any _ c.nb hn0 (by omega)).mono ?_; rintro e w' ⟨rfl, rfl⟩)
  have H7 := Lib.hid h7
  clear ha hb hc hd he h7 e_h7 e_hb e_h2 e_h3 e_h4
  go_wp2_with fail
  refine (HP2.out _).mono ?_
  rintro e w2 ⟨rfl, hb2⟩
  have y12 : w2.cell? ⟨w.heap.size, 12, none⟩ = some (.slice A L.length cap) := (hb2.cell (p := ⟨w.heap.size, 12, none⟩) K1.out.lt).trans z12
  go_wp2_with fail
  go_ret
  refine ⟨_, rfl, fun hb0 => ?_, B1.out.trans (hb2.mono B1.out.size)⟩
  have hn : L = [] := by simpa using hb0
  exact ⟨by omega, h2, h3, h4, by rw [hpb]; simp; omega, by omega, fun h => absurd h H7.out, fun _ => ⟨H_ha.out, H_hb.out, H_hc.out, H_hd.out, (fun hd => by rw [H_he.out] at hd; cases hd), fun _ => hn, fun h => by rw [hpb] at h; cases h⟩⟩

set_option maxHeartbeats 4000000 in
set_option maxRecDepth 20000 in
theorem may_plain_g (w : World) (c : LC) (L : List (Int × Int)) (hL : PeersAt w w.heap.size c.pe L) (h1 : ¬ 4 < c.ty) (h2 : c.ro ≠ 0) (h3 : c.hi ≠ 0) (h4 : c.dd ≠ 0) (h6 : ¬ 32 < c.nb) (hn0 : 0 ≤ c.nb) (h7 : c.ty ≠ 4) (h5 : ¬ 0 < c.po) (ha : c.rm = 0) (hb : c.ad ≠ 0) (hc : bits .andNot .u32 c.na (maskN c.nb.toNat) = 0) (hd : bits .and .u32 c.ad (maskN c.nb.toNat) = c.na) (he : c.dm = true) (hf : c.ty = 3) (hpb : c.peers = false) : Calls Try.prog 29 #[.agg c.cells] w fun e w' => MayPost c L w e w' := by
  unfold LC.cells
  have H_h1 := Lib.hid h1
  have H_h2 := Lib.hid h2
  have H_h3 := Lib.hid h3
  have H_h4 := Lib.hid h4
  have H_h6 := Lib.hid h6
  have H_hn0 := Lib.hid hn0
  have H_h7 := Lib.hid h7
  have H_h5 := Lib.hid h5
  have H_ha := Lib.hid ha
  have H_hb := Lib.hid hb
  have H_hc := Lib.hid hc
  have H_hd := Lib.hid hd
  have H_he := Lib.hid he
  have H_hf := Lib.hid hf
  have H_hpb := Lib.hid hpb
  clear h1 h2 h3 h4 h6 hn0 h7 h5 ha hb hc hd he hf hpb
  have HPe := Lib.hid rpeers_any
  go_enter Try.func29, Try.ntmps29
  go_upto_region 1 with fail
  obtain ⟨W0, hW0⟩ : ∃ W0, W0 = w.alloc (.cells c.cells 76) := ⟨_, rfl⟩
  have K0 : Hid (Blk W0 w.heap.size 76 c.cells) := Lib.hid (by rw [hW0]; exact Blk.new w _ _)
  have B0 : Hid (Below w.heap.size w W0) := Lib.hid (by rw [hW0]; exact (Below.refl _ w).alloc (Nat.le_refl _) _)
  have hs0 : w.heap.size < W0.heap.size := K0.out.lt
  unfold LC.cells at hW0
  rw [← hW0]
  clear hW0
  have h1 := H_h1.out
  have h2 := H_h2.out
  have h3 := H_h3.out
  have h4 := H_h4.out
  have h6 := H_h6.out
  have h5 := H_h5.out
  have hpb := H_hpb.out
  have e_h2 : (c.ro == 0) = false := by simpa using h2
  have e_h3 : (c.hi == 0) = false := by simpa using h3
  have e_h4 : (c.dd == 0) = false := by simpa using h4
  have q0 := later_cell (v := .int .u8 c.ty) (B := w.heap.size + 1) (w0 := W0) (p := ⟨w.heap.size, 0, none⟩) (by simp) (K0.out.cell 0)
  have q1 := later_cell (v := .int .u32 c.ro) (B := w.heap.size + 1) (w0 := W0) (p := ⟨w.heap.size, 1, none⟩) (by simp) (K0.out.cell 1)
  have q2 := later_cell (v := .int .u32 c.na) (B := w.heap.size + 1) (w0 := W0) (p := ⟨w.heap.size, 2, none⟩) (by simp) (K0.out.cell 2)
  have q3 := later_cell (v := .int .u8 c.nb) (B := w.heap.size + 1) (w0 := W0) (p := ⟨w.heap.size, 3, none⟩) (by simp) (K0.out.cell 3)
  have q4 := later_cell (v := .int .u32 c.ad) (B := w.heap.size + 1) (w0 := W0) (p := ⟨w.heap.size, 4, none⟩) (by simp) (K0.out.cell 4)
  have q5 := later_cell (v := .int .u8 c.op) (B := w.heap.size + 1) (w0 := W0) (p := ⟨w.heap.size, 5, none⟩) (by simp) (K0.out.cell 5)
  have q6 := later_cell (v := .int .u16 c.hi) (B := w.heap.size + 1) (w0 := W0) (p := ⟨w.heap.size, 6, none⟩) (by simp) (K0.out.cell 6)
  have q7 := later_cell (v := .int .u32 c.dd) (B := w.heap.size + 1) (w0 := W0) (p := ⟨w.heap.size, 7, none⟩) (by simp) (K0.out.cell 7)
  have q8 := later_cell (v := .int .u16 c.po) (B := w.heap.size + 1) (w0 := W0) (p := ⟨w.heap.size, 8, none⟩) (by simp) (K0.out.cell 8)
  have q9 := later_cell (v := .int .u8 c.pr) (B := w.heap.size + 1) (w0 := W0) (p := ⟨w.heap.size, 9, none⟩) (by simp) (K0.out.cell 9)
  have q10 := later_cell (v := .bool c.dm) (B := w.heap.size + 1) (w0 := W0) (p := ⟨w.heap.size, 10, none⟩) (by simp) (K0.out.cell 10)
  have q11 := later_cell (v := .bool c.ps) (B := w.heap.size + 1) (w0 := W0) (p := ⟨w.heap.size, 11, none⟩) (by simp) (K0.out.cell 11)
  have q12 := later_cell (v := c.pe) (B := w.heap.size + 1) (w0 := W0) (p := ⟨w.heap.size, 12, none⟩) (by simp) (K0.out.cell 12)
  have q13 := later_cell (v := .int .u32 c.rm) (B := w.heap.size + 1) (w0 := W0) (p := ⟨w.heap.size, 13, none⟩) (by simp) (K0.out.cell 13)
  have d1 : Hid (∀ u : Later (w.heap.size + 1) W0, Calls Try.prog 62 #[.agg #[.int .u8 c.ty, .int .u32 c.ro, .int .u32 c.na, .int .u8 c.nb, .int .u32 c.ad, .int .u8 c.op, .int .u16 c.hi, .int .u32 c.dd, .int .u16 c.po, .int .u8 c.pr, .bool c.dm, .bool c.ps, c.pe, .int .u32 c.rm]] u.to fun e w' => e = .returned (.bool false) ∧ Below u.to.heap.size u.to w') := Lib.hid (fun u => by have h := HPe.out c u.to; rw [hpb] at h; exact h)
  refine wp_region_later (B := w.heap.size + 1) (w0 := W0) (by kernel_rfl) (by kernel_rfl) (Below.refl _ _) ?_
  repeat (go_big_quiet_step (first
    | (go_at_call 62; with_reducible exact later_call _ (by omega) (d1.out _))))
  refine wpQuiet_nil ?_
  rintro wx ⟨⟨wy, hwy⟩, hwe⟩
  obtain rfl : wx = wy := hwe
  have B1 := Lib.hid (B0.out.trans (hwy.mono (by omega)))
  have K1 := Lib.hid (K0.out.below hwy (by omega))
  clear d1 hwy q0 q1 q2 q3 q4 q5 q6 q7 q8 q9 q10 q11 q12 q13
  have hn0 := H_hn0.out
  have h7 := H_h7.out
  have ha := H_ha.out
  have hb := H_hb.out
  have hc := H_hc.out
  have hd := H_hd.out
  have he := H_he.out
  have hf := H_hf.out
  have e_h7 : (c.ty == 4) = false := by simpa using h7
  have e_hb : (c.ad == 0) = false := by simpa using hb
  obtain ⟨A, cap, hpe, hr⟩ := hL
  have hp2 : ∀ W, Calls Try.prog 62 #[.agg #[.int .u8 c.ty, .int .u32 c.ro, .int .u32 c.na, .int .u8 c.nb, .int .u32 c.ad, .int .u8 c.op, .int .u16 c.hi, .int .u32 c.dd, .int .u16 c.po, .int .u8 c.pr, .bool c.dm, .bool c.ps, (.slice A L.length cap), .int .u32 c.rm]] W fun e w' => e = .returned (.bool false) ∧ Below W.heap.size W w' := fun W => by have h := HPe.out c W; rw [hpb] at h; unfold LC.cells at h; rw [hpe] at h; exact h
  have HP2 := Lib.hid hp2
  clear hp2
  have z0 : wx.cell? ⟨w.heap.size, 0, none⟩ = some (.int .u8 c.ty) := K1.out.cell 0
  have z1 : wx.cell? ⟨w.heap.size, 1, none⟩ = some (.int .u32 c.ro) := K1.out.cell 1
  have z2 : wx.cell? ⟨w.heap.size, 2, none⟩ = some (.int .u32 c.na) := K1.out.cell 2
  have z3 : wx.cell? ⟨w.heap.size, 3, none⟩ = some (.int .u8 c.nb) := K1.out.cell 3
  have z4 : wx.cell? ⟨w.heap.size, 4, none⟩ = some (.int .u32 c.ad) := K1.out.cell 4
  have z5 : wx.cell? ⟨w.heap.size, 5, none⟩ = some (.int .u8 c.op) := K1.out.cell 5
  have z6 : wx.cell? ⟨w.heap.size, 6, none⟩ = some (.int .u16 c.hi) := K1.out.cell 6
  have z7 : wx.cell? ⟨w.heap.size, 7, none⟩ = some (.int .u32 c.dd) := K1.out.cell 7
  have z8 : wx.cell? ⟨w.heap.size, 8, none⟩ = some (.int .u16 c.po) := K1.out.cell 8
  have z9 : wx.cell? ⟨w.heap.size, 9, none⟩ = some (.int .u8 c.pr) := K1.out.cell 9
  have z10 : wx.cell? ⟨w.heap.size, 10, none⟩ = some (.bool c.dm) := K1.out.cell 10
  have z11 : wx.cell? ⟨w.heap.size, 11, none⟩ = some (.bool c.ps) := K1.out.cell 11
  have z12 : wx.cell? ⟨w.heap.size, 12, none⟩ = some (c.pe) := K1.out.cell 12
  have z13 : wx.cell? ⟨w.heap.size, 13, none⟩ = some (.int .u32 c.rm) := K1.out.cell 13
  rw [hpe] at z12
  go_upto_region 8 with (go_at_call 34; refine (rmask_any _ c.nb hn0 (by omega)).mono ?_; rintro e w' ⟨rfl, rfl⟩)
  have H7 := Lib.hid h7
  clear ha hb hc hd he hf h7 e_h7 e_hb e_h2 e_h3 e_h4
  go_wp2_with fail
  refine (HP2.out _).mono ?_
  rintro e w2 ⟨rfl, hb2⟩
  have y12 : w2.cell? ⟨w.heap.size, 12, none⟩ = some (.slice A L.length cap) := (hb2.cell (p := ⟨w.heap.size, 12, none⟩) K1.out.lt).trans z12
  go_wp2_with fail
  go_ret
  refine ⟨_, rfl, fun hb0 => ?_, B1.out.trans (hb2.mono B1.out.size)⟩
  have hn : L = [] := by simpa using hb0
  exact ⟨by omega, h2, h3, h4, by rw [hpb]; simp; omega, by omega, fun h => absurd h H7.out, fun _ => ⟨H_ha.out, H_hb.out, H_hc.out, H_hd.out, (fun hd => H_hf.out), fun _ => hn, fun h => by rw [hpb] at h; cases h⟩⟩
end Go.Proofs.Ytgbmhijgpdgdbaa
