/- New, of whatever config that may be. -/
import Derived.Test.YtgbmhijgpdgdbaaPeersSome
import Derived.Test.YtgbmhijgpdgdbaaQuiet13
import Derived.Test.YtgbmhijgpdgdbaaFirst
namespace Go.Proofs.Ytgbmhijgpdgdbaa
open Go.RowKit

theorem lpeer_info : (Try.prog.info? 136).map (fun i => (i.zero, i.size, i.bytes)) = some (some (.agg #[.int .u32 0, .int .u8 0]), 2, 8) := by kernel_rfl

def NewPost (c : LC) (L : List (Int × Int)) (w : World) (e : Ending) (w' : World) : Prop := ∃ B v, e = .returned (.tuple #[.pointer (some ⟨B, 0, none⟩), .int .i64 0]) ∧ w.heap.size ≤ B ∧ Blk w' B 119 (lks { c with pe := v } 0 0 0 0 0 0 0 (.slice none 0 0)) ∧ w'.ownsRow w.heap.size 136 2 v L.length (L.flatMap pcells) ∧ Below w.heap.size w w'

theorem own_far_t {w : World} {base size n : Nat} {e t : TypeId} {v : Value} {xs : List Value} {B : Nat} {cs : Array Value} (h : w.ownsRow base e size v n xs) (k : Blk w B t cs) (hne : t ≠ e) : v.ownBlock ≠ some B := by
  rcases h.2 with ⟨rfl, _⟩ | ⟨g, cap, cur, rfl, _, hg, _⟩
  · simp [Value.ownBlock]
  · intro hh
    simp only [Value.ownBlock, Option.some.injEq] at hh
    subst hh
    unfold Blk at k
    rw [hg] at k
    cases k
    exact hne rfl

theorem pcells_one (L : List (Int × Int)) : ∀ u ∈ L.flatMap pcells, u.oneCell' = true := by
  intro u hu
  obtain ⟨p, _, hp⟩ := List.mem_flatMap.1 hu
  simp only [pcells, List.mem_cons, List.not_mem_nil, or_false] at hp
  rcases hp with rfl | rfl <;> rfl

set_option maxHeartbeats 8000000 in
set_option maxRecDepth 20000 in
theorem new_virtual (w : World) (c : LC) (L : List (Int × Int)) (hL : PeersAt w w.heap.size c.pe L) (hlen : L.length ≤ 200) (h1 : c.ty ≤ 4) (h2 : c.ro ≠ 0) (h3 : c.hi ≠ 0) (h4 : c.dd ≠ 0) (hpo : c.peers = decide (0 < c.po)) (h6 : c.nb ≤ 32) (_hn0 : 0 ≤ c.nb)
    (hpm : ∀ W, Below w.heap.size w W → Calls Try.prog 64 #[.agg c.cells] W fun e w' => e = .returned (.bool true) ∧ Below W.heap.size W w')  (h7 : c.ty = 4) (h8 : c.na = 0) (h9 : c.nb = 0) (ha : c.ad = 0) (hb : c.rm ≠ 0) (hc : c.rm ≠ c.ro) (hd : c.ps = false) :
    Calls Try.prog 31 #[.agg c.cells] w fun e w' => NewPost c L w e w' := by
  obtain ⟨i0, hi, hz0, hz1, hz2⟩ := info_parts lpeer_info
  obtain ⟨A, cap, hpe, hr⟩ := hL
  have HPE := Lib.hid hpe
  have HR := Lib.hid hr
  have HPm := Lib.hid hpm
  have HPo := Lib.hid hpo
  have H_h7 := Lib.hid h7
  have H_h8 := Lib.hid h8
  have H_h9 := Lib.hid h9
  have H_ha := Lib.hid ha
  have H_hb := Lib.hid hb
  have H_hc := Lib.hid hc
  have H_hd := Lib.hid hd
  clear hpe hr hpm hpo h7 h8 h9 ha hb hc hd
  have e_h2 : (c.ro == 0) = false := by simpa using h2
  have e_h3 : (c.hi == 0) = false := by simpa using h3
  have e_h4 : (c.dd == 0) = false := by simpa using h4
  have n_h2 : (c.ro != 0) = true := by simpa using h2
  have n_h3 : (c.hi != 0) = true := by simpa using h3
  have n_h4 : (c.dd != 0) = true := by simpa using h4
  unfold LC.cells
  go_enter Try.func31, Try.ntmps31
  go_upto_region 1 with fail
  obtain ⟨W0, hW0⟩ : ∃ W0, W0 = w.alloc (.cells c.cells 83) := ⟨_, rfl⟩
  have K0 : Hid (Blk W0 w.heap.size 83 c.cells) := Lib.hid (by rw [hW0]; exact Blk.new w _ _)
  have B0 : Hid (Below w.heap.size w W0) := Lib.hid (by rw [hW0]; exact (Below.refl _ w).alloc (Nat.le_refl _) _)
  have hs0 : w.heap.size < W0.heap.size := K0.out.lt
  unfold LC.cells at hW0
  rw [← hW0]
  clear hW0
  have q0 := later_cell (v := .int .u8 c.ty) (B := w.heap.size + 1) (w0 := W0) (p := ⟨w.heap.size, 0, none⟩) (by simp) (K0.out.cell 0)
  have q1 := later_cell (v := .int .u32 c.ro) (B := w.heap.size + 1) (w0 := W0) (p := ⟨w.heap.size, 1, none⟩) (by simp) (K0.out.cell 1)
  have q2 := later_cell (v := .int .u32 c.na) (B := w.heap.size + 1) (w0 := W0) (p := ⟨w.heap.size, 2, none⟩) (by simp) (K0.out.cell 2)
  have q3 := later_cell (v := .int .u8 c.nb) (B := w.heap.size + 1) (w0 := W0) (p := ⟨w.heap.size, 3, none⟩) (by simp) (K0.out.cell 3)
  have q4 := later_cell (v := .int .u32 c.ad) (B := w.heap.size + 1) (w0 := W0) (p := ⟨w.heap.size, 4, none⟩) (by simp) (K0.out.cell 4)
  have q5 := later_cell (v := .int .u8 c.op) (B := w.heap.size + 1) (w0 := W0) (p := ⟨w.heap.size, 5, none⟩) (by simp) (K0.out.cell 5)
  have q6 := later_cell (v := .int .u16 c.hi) (B := w.heap.size + 1) (w0 := W0) (p := ⟨w.heap.size, 6, none⟩) (by simp) (K0.out.cell 6)
  have q7 := later_cell (v := .int .u32 c.dd) (B := w.heap.size + 1) (w0 := W0) (p := ⟨w.heap.size, 7, none⟩) (by simp) (K0.out.cell 7)
  have q8 := later_cell (v := .int .u16 c.po) (B := w.heap.size + 1) (w0 := W0) (p := ⟨w.heap.size, 8, none⟩) (by simp) (K0.out.cell 8)
  have q9 := later_cell (v := .int .u8 c.pr) (B := w.heap.size + 1) (w0 := W0) (p := ⟨w.heap.size, 9, none⟩) (by simp) (K0.out.cell 9)
  have q10 := later_cell (v := .bool c.dm) (B := w.heap.size + 1) (w0 := W0) (p := ⟨w.heap.size, 10, none⟩) (by simp) (K0.out.cell 10)
  have q11 := later_cell (v := .bool c.ps) (B := w.heap.size + 1) (w0 := W0) (p := ⟨w.heap.size, 11, none⟩) (by simp) (K0.out.cell 11)
  have q12 := later_cell (v := c.pe) (B := w.heap.size + 1) (w0 := W0) (p := ⟨w.heap.size, 12, none⟩) (by simp) (K0.out.cell 12)
  have q13 := later_cell (v := .int .u32 c.rm) (B := w.heap.size + 1) (w0 := W0) (p := ⟨w.heap.size, 13, none⟩) (by simp) (K0.out.cell 13)
  have d1 : Hid (∀ u : Later (w.heap.size + 1) W0, Calls Try.prog 63 #[.agg #[.int .u8 c.ty, .int .u32 c.ro, .int .u32 c.na, .int .u8 c.nb, .int .u32 c.ad, .int .u8 c.op, .int .u16 c.hi, .int .u32 c.dd, .int .u16 c.po, .int .u8 c.pr, .bool c.dm, .bool c.ps, c.pe, .int .u32 c.rm]] u.to fun e w' => e = .returned (.bool (decide (0 < c.po))) ∧ Below u.to.heap.size u.to w') := Lib.hid (fun u => by have h := peers_any c u.to; rw [HPo.out] at h; exact h)
  have d2 : Hid (∀ u : Later (w.heap.size + 1) W0, Calls Try.prog 64 #[.agg #[.int .u8 c.ty, .int .u32 c.ro, .int .u32 c.na, .int .u8 c.nb, .int .u32 c.ad, .int .u8 c.op, .int .u16 c.hi, .int .u32 c.dd, .int .u16 c.po, .int .u8 c.pr, .bool c.dm, .bool c.ps, c.pe, .int .u32 c.rm]] u.to fun e w' => e = .returned (.bool true) ∧ Below u.to.heap.size u.to w') := Lib.hid (fun u => HPm.out u.to (B0.out.trans (u.ok.mono (by omega))))
  refine wp_region_later (B := w.heap.size + 1) (w0 := W0) (by kernel_rfl) (by kernel_rfl) (Below.refl _ _) ?_
  repeat (go_big_quiet_step (first
    | (go_at_call 63; with_reducible exact later_call _ (by omega) (d1.out _))
    | (go_at_call 64; with_reducible exact later_call _ (by omega) (d2.out _))))
  refine wpQuiet_nil ?_
  rintro wx ⟨⟨wy, hwy⟩, hwe⟩
  obtain rfl : wx = wy := hwe
  have B1 := Lib.hid (B0.out.trans (hwy.mono (by omega)))
  have K1 := Lib.hid (K0.out.below hwy (by omega))
  clear d1 d2 hwy q0 q1 q2 q3 q4 q5 q6 q7 q8 q9 q10 q11 q12 q13
  have h7 := H_h7.out
  have h8 := H_h8.out
  have h9 := H_h9.out
  have ha := H_ha.out
  have hb := H_hb.out
  have hc := H_hc.out
  have hd := H_hd.out
  have e_hb : (c.rm == 0) = false := by simpa using hb
  have e_hc : (c.rm == c.ro) = false := by simpa using hc
  have n_hb : (c.rm != 0) = true := by simpa using hb
  have n_hc : (c.rm != c.ro) = true := by simpa using hc
  have z0 : wx.cell? ⟨w.heap.size, 0, none⟩ = some (.int .u8 c.ty) := K1.out.cell 0
  have z1 : wx.cell? ⟨w.heap.size, 1, none⟩ = some (.int .u32 c.ro) := K1.out.cell 1
  have z2 : wx.cell? ⟨w.heap.size, 2, none⟩ = some (.int .u32 c.na) := K1.out.cell 2
  have z3 : wx.cell? ⟨w.heap.size, 3, none⟩ = some (.int .u8 c.nb) := K1.out.cell 3
  have z4 : wx.cell? ⟨w.heap.size, 4, none⟩ = some (.int .u32 c.ad) := K1.out.cell 4
  have z5 : wx.cell? ⟨w.heap.size, 5, none⟩ = some (.int .u8 c.op) := K1.out.cell 5
  have z6 : wx.cell? ⟨w.heap.size, 6, none⟩ = some (.int .u16 c.hi) := K1.out.cell 6
  have z7 : wx.cell? ⟨w.heap.size, 7, none⟩ = some (.int .u32 c.dd) := K1.out.cell 7
  have z8 : wx.cell? ⟨w.heap.size, 8, none⟩ = some (.int .u16 c.po) := K1.out.cell 8
  have z9 : wx.cell? ⟨w.heap.size, 9, none⟩ = some (.int .u8 c.pr) := K1.out.cell 9
  have z10 : wx.cell? ⟨w.heap.size, 10, none⟩ = some (.bool c.dm) := K1.out.cell 10
  have z11 : wx.cell? ⟨w.heap.size, 11, none⟩ = some (.bool c.ps) := K1.out.cell 11
  have z12 : wx.cell? ⟨w.heap.size, 12, none⟩ = some (c.pe) := K1.out.cell 12
  have z13 : wx.cell? ⟨w.heap.size, 13, none⟩ = some (.int .u32 c.rm) := K1.out.cell 13
  go_upto_region 5 with fail
  have K2 := K1
  have B2 := B1
  clear z0 z1 z2 z3 z4 z5 z6 z7 z8 z9 z10 z11 z12 z13 h7 h8 h9 ha hb hc hd e_hb e_hc e_h2 e_h3 e_h4 n_hb n_hc n_h2 n_h3 n_h4
  have z0 : wx.cell? ⟨w.heap.size, 0, none⟩ = some (.int .u8 c.ty) := K2.out.cell 0
  have z1 : wx.cell? ⟨w.heap.size, 1, none⟩ = some (.int .u32 c.ro) := K2.out.cell 1
  have z2 : wx.cell? ⟨w.heap.size, 2, none⟩ = some (.int .u32 c.na) := K2.out.cell 2
  have z3 : wx.cell? ⟨w.heap.size, 3, none⟩ = some (.int .u8 c.nb) := K2.out.cell 3
  have z4 : wx.cell? ⟨w.heap.size, 4, none⟩ = some (.int .u32 c.ad) := K2.out.cell 4
  have z5 : wx.cell? ⟨w.heap.size, 5, none⟩ = some (.int .u8 c.op) := K2.out.cell 5
  have z6 : wx.cell? ⟨w.heap.size, 6, none⟩ = some (.int .u16 c.hi) := K2.out.cell 6
  have z7 : wx.cell? ⟨w.heap.size, 7, none⟩ = some (.int .u32 c.dd) := K2.out.cell 7
  have z8 : wx.cell? ⟨w.heap.size, 8, none⟩ = some (.int .u16 c.po) := K2.out.cell 8
  have z9 : wx.cell? ⟨w.heap.size, 9, none⟩ = some (.int .u8 c.pr) := K2.out.cell 9
  have z10 : wx.cell? ⟨w.heap.size, 10, none⟩ = some (.bool c.dm) := K2.out.cell 10
  have z11 : wx.cell? ⟨w.heap.size, 11, none⟩ = some (.bool c.ps) := K2.out.cell 11
  have z12 : wx.cell? ⟨w.heap.size, 12, none⟩ = some (c.pe) := K2.out.cell 12
  have z13 : wx.cell? ⟨w.heap.size, 13, none⟩ = some (.int .u32 c.rm) := K2.out.cell 13
  rw [HPE.out] at z12
  have fz := K2.out.frozen
  have hl2 : w.heap.size < wx.heap.size := K2.out.lt
  have HRd := Lib.hid (HR.out.below B2.out)
  go_upto_region 8 with (at_builtin; refine wpList_append_any _ rfl (.const (.slice none 0 0)) (.tmp 110) _ rfl w.heap.size 136 i0 _ 2 8 Try.underlying81 hi hz0 hz1 hz2 rfl (by omega) (.slice none 0 0) 0 [] rfl (World.ownsRow_nil _ _ _ _) w.heap.size A L.length cap (L.flatMap pcells) rfl HRd.out (pcells_one L) (by unfold maxLen; omega) (by omega) B2.out.size ?_; intro v1 w1 hown1 hg1 hat1; rw [List.nil_append, Nat.zero_add] at hown1; obtain ⟨A1, c1, hv1⟩ := own_slice hown1; subst hv1; have HO1 := Lib.hid hown1; have K3 := Lib.hid (K2.out.grown hg1 (by simp [Value.ownBlock])); have B3 := Lib.hid (B2.out.grown hg1 B2.out.size (fun k hk => by simp [Value.ownBlock] at hk)); have f3 := K3.out.frozen; have g12 : w1.cell? ⟨w.heap.size, 12, none⟩ = some (.slice A L.length cap) := (K3.out.cell 12).trans (congrArg some HPE.out); clear hown1 hg1 hat1 fz z0 z1 z2 z3 z4 z5 z6 z7 z8 z9 z10 z11 z12 z13)
  obtain ⟨W4, hW4⟩ : ∃ W4, W4 = w1.setCell ⟨w.heap.size, 12, none⟩ (.slice A1 L.length c1) := ⟨_, rfl⟩
  have K4 : Hid (Blk W4 w.heap.size 83 ({ c with pe := .slice A1 L.length c1 } : LC).cells) := Lib.hid (by rw [hW4]; exact K3.out.set_ 12 (.slice A1 L.length c1))
  have B4 : Hid (Below w.heap.size w W4) := Lib.hid (by rw [hW4]; exact B3.out.setCell (p := ⟨w.heap.size, 12, none⟩) (Nat.le_refl _) _)
  have O4 : Hid (W4.ownsRow w.heap.size 136 2 (.slice A1 L.length c1) L.length (L.flatMap pcells)) := Lib.hid (by rw [hW4]; exact own_far HO1.out (q := ⟨w.heap.size, 12, none⟩) (own_far_t HO1.out K3.out (by decide)) _)
  rw [← hW4]
  clear hW4 f3 g12
  have z0 : W4.cell? ⟨w.heap.size, 0, none⟩ = some (.int .u8 c.ty) := K4.out.cell 0
  have z1 : W4.cell? ⟨w.heap.size, 1, none⟩ = some (.int .u32 c.ro) := K4.out.cell 1
  have z2 : W4.cell? ⟨w.heap.size, 2, none⟩ = some (.int .u32 c.na) := K4.out.cell 2
  have z3 : W4.cell? ⟨w.heap.size, 3, none⟩ = some (.int .u8 c.nb) := K4.out.cell 3
  have z4 : W4.cell? ⟨w.heap.size, 4, none⟩ = some (.int .u32 c.ad) := K4.out.cell 4
  have z5 : W4.cell? ⟨w.heap.size, 5, none⟩ = some (.int .u8 c.op) := K4.out.cell 5
  have z6 : W4.cell? ⟨w.heap.size, 6, none⟩ = some (.int .u16 c.hi) := K4.out.cell 6
  have z7 : W4.cell? ⟨w.heap.size, 7, none⟩ = some (.int .u32 c.dd) := K4.out.cell 7
  have z8 : W4.cell? ⟨w.heap.size, 8, none⟩ = some (.int .u16 c.po) := K4.out.cell 8
  have z9 : W4.cell? ⟨w.heap.size, 9, none⟩ = some (.int .u8 c.pr) := K4.out.cell 9
  have z10 : W4.cell? ⟨w.heap.size, 10, none⟩ = some (.bool c.dm) := K4.out.cell 10
  have z11 : W4.cell? ⟨w.heap.size, 11, none⟩ = some (.bool c.ps) := K4.out.cell 11
  have z12 : W4.cell? ⟨w.heap.size, 12, none⟩ = some (.slice A1 L.length c1) := K4.out.cell 12
  have z13 : W4.cell? ⟨w.heap.size, 13, none⟩ = some (.int .u32 c.rm) := K4.out.cell 13
  go_wp2_with fail
  refine bodyPost_ret (v := .tuple #[.pointer (some ⟨W4.heap.size, 0, none⟩), .int .i64 0]) (by simp [results, Try.results31, go_sem]) rfl ⟨W4.heap.size, .slice A1 L.length c1, rfl, B4.out.size, Blk.new W4 _ _, O4.out.alloc _, B4.out.alloc B4.out.size _⟩

set_option maxHeartbeats 8000000 in
set_option maxRecDepth 20000 in
theorem new_plain (w : World) (c : LC) (L : List (Int × Int)) (hL : PeersAt w w.heap.size c.pe L) (hlen : L.length ≤ 200) (h1 : c.ty ≤ 4) (h2 : c.ro ≠ 0) (h3 : c.hi ≠ 0) (h4 : c.dd ≠ 0) (hpo : c.peers = decide (0 < c.po)) (h6 : c.nb ≤ 32) (hn0 : 0 ≤ c.nb)
    (hpm : ∀ W, Below w.heap.size w W → Calls Try.prog 64 #[.agg c.cells] W fun e w' => e = .returned (.bool true) ∧ Below W.heap.size W w')  (h7 : c.ty ≠ 4) (ha : c.rm = 0) (hb : c.ad ≠ 0) (hna : bits .and .u32 c.na (maskN c.nb.toNat) = c.na) (hmd : bits .and .u32 c.ad (maskN c.nb.toNat) = c.na) (hdm : c.dm = false) :
    Calls Try.prog 31 #[.agg c.cells] w fun e w' => NewPost c L w e w' := by
  obtain ⟨i0, hi, hz0, hz1, hz2⟩ := info_parts lpeer_info
  obtain ⟨A, cap, hpe, hr⟩ := hL
  have HPE := Lib.hid hpe
  have HR := Lib.hid hr
  have HPm := Lib.hid hpm
  have HPo := Lib.hid hpo
  have H_h7 := Lib.hid h7
  have H_ha := Lib.hid ha
  have H_hb := Lib.hid hb
  have H_hdm := Lib.hid hdm
  have HNa := Lib.hid hna
  have HMd := Lib.hid hmd
  clear hpe hr hpm hpo h7 ha hb hdm hna hmd
  have e_h2 : (c.ro == 0) = false := by simpa using h2
  have e_h3 : (c.hi == 0) = false := by simpa using h3
  have e_h4 : (c.dd == 0) = false := by simpa using h4
  have n_h2 : (c.ro != 0) = true := by simpa using h2
  have n_h3 : (c.hi != 0) = true := by simpa using h3
  have n_h4 : (c.dd != 0) = true := by simpa using h4
  unfold LC.cells
  go_enter Try.func31, Try.ntmps31
  go_upto_region 1 with fail
  obtain ⟨W0, hW0⟩ : ∃ W0, W0 = w.alloc (.cells c.cells 83) := ⟨_, rfl⟩
  have K0 : Hid (Blk W0 w.heap.size 83 c.cells) := Lib.hid (by rw [hW0]; exact Blk.new w _ _)
  have B0 : Hid (Below w.heap.size w W0) := Lib.hid (by rw [hW0]; exact (Below.refl _ w).alloc (Nat.le_refl _) _)
  have hs0 : w.heap.size < W0.heap.size := K0.out.lt
  unfold LC.cells at hW0
  rw [← hW0]
  clear hW0
  have q0 := later_cell (v := .int .u8 c.ty) (B := w.heap.size + 1) (w0 := W0) (p := ⟨w.heap.size, 0, none⟩) (by simp) (K0.out.cell 0)
  have q1 := later_cell (v := .int .u32 c.ro) (B := w.heap.size + 1) (w0 := W0) (p := ⟨w.heap.size, 1, none⟩) (by simp) (K0.out.cell 1)
  have q2 := later_cell (v := .int .u32 c.na) (B := w.heap.size + 1) (w0 := W0) (p := ⟨w.heap.size, 2, none⟩) (by simp) (K0.out.cell 2)
  have q3 := later_cell (v := .int .u8 c.nb) (B := w.heap.size + 1) (w0 := W0) (p := ⟨w.heap.size, 3, none⟩) (by simp) (K0.out.cell 3)
  have q4 := later_cell (v := .int .u32 c.ad) (B := w.heap.size + 1) (w0 := W0) (p := ⟨w.heap.size, 4, none⟩) (by simp) (K0.out.cell 4)
  have q5 := later_cell (v := .int .u8 c.op) (B := w.heap.size + 1) (w0 := W0) (p := ⟨w.heap.size, 5, none⟩) (by simp) (K0.out.cell 5)
  have q6 := later_cell (v := .int .u16 c.hi) (B := w.heap.size + 1) (w0 := W0) (p := ⟨w.heap.size, 6, none⟩) (by simp) (K0.out.cell 6)
  have q7 := later_cell (v := .int .u32 c.dd) (B := w.heap.size + 1) (w0 := W0) (p := ⟨w.heap.size, 7, none⟩) (by simp) (K0.out.cell 7)
  have q8 := later_cell (v := .int .u16 c.po) (B := w.heap.size + 1) (w0 := W0) (p := ⟨w.heap.size, 8, none⟩) (by simp) (K0.out.cell 8)
  have q9 := later_cell (v := .int .u8 c.pr) (B := w.heap.size + 1) (w0 := W0) (p := ⟨w.heap.size, 9, none⟩) (by simp) (K0.out.cell 9)
  have q10 := later_cell (v := .bool c.dm) (B := w.heap.size + 1) (w0 := W0) (p := ⟨w.heap.size, 10, none⟩) (by simp) (K0.out.cell 10)
  have q11 := later_cell (v := .bool c.ps) (B := w.heap.size + 1) (w0 := W0) (p := ⟨w.heap.size, 11, none⟩) (by simp) (K0.out.cell 11)
  have q12 := later_cell (v := c.pe) (B := w.heap.size + 1) (w0 := W0) (p := ⟨w.heap.size, 12, none⟩) (by simp) (K0.out.cell 12)
  have q13 := later_cell (v := .int .u32 c.rm) (B := w.heap.size + 1) (w0 := W0) (p := ⟨w.heap.size, 13, none⟩) (by simp) (K0.out.cell 13)
  have d1 : Hid (∀ u : Later (w.heap.size + 1) W0, Calls Try.prog 63 #[.agg #[.int .u8 c.ty, .int .u32 c.ro, .int .u32 c.na, .int .u8 c.nb, .int .u32 c.ad, .int .u8 c.op, .int .u16 c.hi, .int .u32 c.dd, .int .u16 c.po, .int .u8 c.pr, .bool c.dm, .bool c.ps, c.pe, .int .u32 c.rm]] u.to fun e w' => e = .returned (.bool (decide (0 < c.po))) ∧ Below u.to.heap.size u.to w') := Lib.hid (fun u => by have h := peers_any c u.to; rw [HPo.out] at h; exact h)
  have d2 : Hid (∀ u : Later (w.heap.size + 1) W0, Calls Try.prog 64 #[.agg #[.int .u8 c.ty, .int .u32 c.ro, .int .u32 c.na, .int .u8 c.nb, .int .u32 c.ad, .int .u8 c.op, .int .u16 c.hi, .int .u32 c.dd, .int .u16 c.po, .int .u8 c.pr, .bool c.dm, .bool c.ps, c.pe, .int .u32 c.rm]] u.to fun e w' => e = .returned (.bool true) ∧ Below u.to.heap.size u.to w') := Lib.hid (fun u => HPm.out u.to (B0.out.trans (u.ok.mono (by omega))))
  refine wp_region_later (B := w.heap.size + 1) (w0 := W0) (by kernel_rfl) (by kernel_rfl) (Below.refl _ _) ?_
  repeat (go_big_quiet_step (first
    | (go_at_call 63; with_reducible exact later_call _ (by omega) (d1.out _))
    | (go_at_call 64; with_reducible exact later_call _ (by omega) (d2.out _))))
  refine wpQuiet_nil ?_
  rintro wx ⟨⟨wy, hwy⟩, hwe⟩
  obtain rfl : wx = wy := hwe
  have B1 := Lib.hid (B0.out.trans (hwy.mono (by omega)))
  have K1 := Lib.hid (K0.out.below hwy (by omega))
  clear d1 d2 hwy q0 q1 q2 q3 q4 q5 q6 q7 q8 q9 q10 q11 q12 q13
  have h7 := H_h7.out
  have ha := H_ha.out
  have hb := H_hb.out
  have hdm := H_hdm.out
  have e_h7 : (c.ty == 4) = false := by simpa using h7
  have e_hb : (c.ad == 0) = false := by simpa using hb
  have n_hb : (c.ad != 0) = true := by simpa using hb
  have z0 : wx.cell? ⟨w.heap.size, 0, none⟩ = some (.int .u8 c.ty) := K1.out.cell 0
  have z1 : wx.cell? ⟨w.heap.size, 1, none⟩ = some (.int .u32 c.ro) := K1.out.cell 1
  have z2 : wx.cell? ⟨w.heap.size, 2, none⟩ = some (.int .u32 c.na) := K1.out.cell 2
  have z3 : wx.cell? ⟨w.heap.size, 3, none⟩ = some (.int .u8 c.nb) := K1.out.cell 3
  have z4 : wx.cell? ⟨w.heap.size, 4, none⟩ = some (.int .u32 c.ad) := K1.out.cell 4
  have z5 : wx.cell? ⟨w.heap.size, 5, none⟩ = some (.int .u8 c.op) := K1.out.cell 5
  have z6 : wx.cell? ⟨w.heap.size, 6, none⟩ = some (.int .u16 c.hi) := K1.out.cell 6
  have z7 : wx.cell? ⟨w.heap.size, 7, none⟩ = some (.int .u32 c.dd) := K1.out.cell 7
  have z8 : wx.cell? ⟨w.heap.size, 8, none⟩ = some (.int .u16 c.po) := K1.out.cell 8
  have z9 : wx.cell? ⟨w.heap.size, 9, none⟩ = some (.int .u8 c.pr) := K1.out.cell 9
  have z10 : wx.cell? ⟨w.heap.size, 10, none⟩ = some (.bool c.dm) := K1.out.cell 10
  have z11 : wx.cell? ⟨w.heap.size, 11, none⟩ = some (.bool c.ps) := K1.out.cell 11
  have z12 : wx.cell? ⟨w.heap.size, 12, none⟩ = some (c.pe) := K1.out.cell 12
  have z13 : wx.cell? ⟨w.heap.size, 13, none⟩ = some (.int .u32 c.rm) := K1.out.cell 13
  have p0 := later_cell (v := .int .u8 c.ty) (B := w.heap.size + 1) (w0 := wx) (p := ⟨w.heap.size, 0, none⟩) (by simp) (K1.out.cell 0)
  have p1 := later_cell (v := .int .u32 c.ro) (B := w.heap.size + 1) (w0 := wx) (p := ⟨w.heap.size, 1, none⟩) (by simp) (K1.out.cell 1)
  have p2 := later_cell (v := .int .u32 c.na) (B := w.heap.size + 1) (w0 := wx) (p := ⟨w.heap.size, 2, none⟩) (by simp) (K1.out.cell 2)
  have p3 := later_cell (v := .int .u8 c.nb) (B := w.heap.size + 1) (w0 := wx) (p := ⟨w.heap.size, 3, none⟩) (by simp) (K1.out.cell 3)
  have p4 := later_cell (v := .int .u32 c.ad) (B := w.heap.size + 1) (w0 := wx) (p := ⟨w.heap.size, 4, none⟩) (by simp) (K1.out.cell 4)
  have p5 := later_cell (v := .int .u8 c.op) (B := w.heap.size + 1) (w0 := wx) (p := ⟨w.heap.size, 5, none⟩) (by simp) (K1.out.cell 5)
  have p6 := later_cell (v := .int .u16 c.hi) (B := w.heap.size + 1) (w0 := wx) (p := ⟨w.heap.size, 6, none⟩) (by simp) (K1.out.cell 6)
  have p7 := later_cell (v := .int .u32 c.dd) (B := w.heap.size + 1) (w0 := wx) (p := ⟨w.heap.size, 7, none⟩) (by simp) (K1.out.cell 7)
  have p8 := later_cell (v := .int .u16 c.po) (B := w.heap.size + 1) (w0 := wx) (p := ⟨w.heap.size, 8, none⟩) (by simp) (K1.out.cell 8)
  have p9 := later_cell (v := .int .u8 c.pr) (B := w.heap.size + 1) (w0 := wx) (p := ⟨w.heap.size, 9, none⟩) (by simp) (K1.out.cell 9)
  have p10 := later_cell (v := .bool c.dm) (B := w.heap.size + 1) (w0 := wx) (p := ⟨w.heap.size, 10, none⟩) (by simp) (K1.out.cell 10)
  have p11 := later_cell (v := .bool c.ps) (B := w.heap.size + 1) (w0 := wx) (p := ⟨w.heap.size, 11, none⟩) (by simp) (K1.out.cell 11)
  have p12 := later_cell (v := c.pe) (B := w.heap.size + 1) (w0 := wx) (p := ⟨w.heap.size, 12, none⟩) (by simp) (K1.out.cell 12)
  have p13 := later_cell (v := .int .u32 c.rm) (B := w.heap.size + 1) (w0 := wx) (p := ⟨w.heap.size, 13, none⟩) (by simp) (K1.out.cell 13)
  have d3 : Hid (∀ u : Later (w.heap.size + 1) wx, Calls Try.prog 65 #[.agg #[.int .u32 c.na, .int .u8 c.nb]] u.to fun e w' => e = .returned (.int .i64 0) ∧ Below u.to.heap.size u.to w') := Lib.hid (fun u => (check_any c.na c.nb u.to hn0 h6).mono fun _ _ h => ⟨by rw [h.1, if_pos HNa.out], h.2⟩)
  have d4 : Hid (∀ u : Later (w.heap.size + 1) wx, Calls Try.prog 66 #[.agg #[.int .u32 c.na, .int .u8 c.nb], .int .u32 c.ad] u.to fun e w' => e = .returned (.bool true) ∧ Below u.to.heap.size u.to w') := Lib.hid (fun u => (has_any c.na c.nb c.ad u.to hn0 h6 HNa.out).mono fun _ _ h => ⟨by rw [h.1, decide_eq_true HMd.out], h.2⟩)
  have hwx : w.heap.size + 1 ≤ wx.heap.size := K1.out.lt
  go_upto_region 4 with fail
  refine wp_region_later_plain (B := w.heap.size + 1) (w0 := wx) (Below.refl _ _) ?_
  repeat (go_big_quiet_step (first
    | (go_at_call 65; with_reducible exact later_call _ (by omega) (d3.out _))
    | (go_at_call 66; with_reducible exact later_call _ (by omega) (d4.out _))))
  refine wpQuiet_nil ?_
  rintro wy ⟨⟨wz, hwz⟩, hwe⟩
  obtain rfl : wy = wz := hwe
  have K2 := Lib.hid (K1.out.below hwz (by omega))
  have B2 := Lib.hid (B1.out.trans (hwz.mono (by omega)))
  clear hwz d3 d4 p0 p1 p2 p3 p4 p5 p6 p7 p8 p9 p10 p11 p12 p13
  clear z0 z1 z2 z3 z4 z5 z6 z7 z8 z9 z10 z11 z12 z13 h7 ha hb hdm e_h7 e_hb e_h2 e_h3 e_h4 n_hb n_h2 n_h3 n_h4
  have z0 : wy.cell? ⟨w.heap.size, 0, none⟩ = some (.int .u8 c.ty) := K2.out.cell 0
  have z1 : wy.cell? ⟨w.heap.size, 1, none⟩ = some (.int .u32 c.ro) := K2.out.cell 1
  have z2 : wy.cell? ⟨w.heap.size, 2, none⟩ = some (.int .u32 c.na) := K2.out.cell 2
  have z3 : wy.cell? ⟨w.heap.size, 3, none⟩ = some (.int .u8 c.nb) := K2.out.cell 3
  have z4 : wy.cell? ⟨w.heap.size, 4, none⟩ = some (.int .u32 c.ad) := K2.out.cell 4
  have z5 : wy.cell? ⟨w.heap.size, 5, none⟩ = some (.int .u8 c.op) := K2.out.cell 5
  have z6 : wy.cell? ⟨w.heap.size, 6, none⟩ = some (.int .u16 c.hi) := K2.out.cell 6
  have z7 : wy.cell? ⟨w.heap.size, 7, none⟩ = some (.int .u32 c.dd) := K2.out.cell 7
  have z8 : wy.cell? ⟨w.heap.size, 8, none⟩ = some (.int .u16 c.po) := K2.out.cell 8
  have z9 : wy.cell? ⟨w.heap.size, 9, none⟩ = some (.int .u8 c.pr) := K2.out.cell 9
  have z10 : wy.cell? ⟨w.heap.size, 10, none⟩ = some (.bool c.dm) := K2.out.cell 10
  have z11 : wy.cell? ⟨w.heap.size, 11, none⟩ = some (.bool c.ps) := K2.out.cell 11
  have z12 : wy.cell? ⟨w.heap.size, 12, none⟩ = some (c.pe) := K2.out.cell 12
  have z13 : wy.cell? ⟨w.heap.size, 13, none⟩ = some (.int .u32 c.rm) := K2.out.cell 13
  rw [HPE.out] at z12
  have fz := K2.out.frozen
  have hl2 : w.heap.size < wy.heap.size := K2.out.lt
  have HRd := Lib.hid (HR.out.below B2.out)
  go_upto_region 8 with (at_builtin; refine wpList_append_any _ rfl (.const (.slice none 0 0)) (.tmp 110) _ rfl w.heap.size 136 i0 _ 2 8 Try.underlying81 hi hz0 hz1 hz2 rfl (by omega) (.slice none 0 0) 0 [] rfl (World.ownsRow_nil _ _ _ _) w.heap.size A L.length cap (L.flatMap pcells) rfl HRd.out (pcells_one L) (by unfold maxLen; omega) (by omega) B2.out.size ?_; intro v1 w1 hown1 hg1 hat1; rw [List.nil_append, Nat.zero_add] at hown1; obtain ⟨A1, c1, hv1⟩ := own_slice hown1; subst hv1; have HO1 := Lib.hid hown1; have K3 := Lib.hid (K2.out.grown hg1 (by simp [Value.ownBlock])); have B3 := Lib.hid (B2.out.grown hg1 B2.out.size (fun k hk => by simp [Value.ownBlock] at hk)); have f3 := K3.out.frozen; have g12 : w1.cell? ⟨w.heap.size, 12, none⟩ = some (.slice A L.length cap) := (K3.out.cell 12).trans (congrArg some HPE.out); clear hown1 hg1 hat1 fz z0 z1 z2 z3 z4 z5 z6 z7 z8 z9 z10 z11 z12 z13)
  obtain ⟨W4, hW4⟩ : ∃ W4, W4 = w1.setCell ⟨w.heap.size, 12, none⟩ (.slice A1 L.length c1) := ⟨_, rfl⟩
  have K4 : Hid (Blk W4 w.heap.size 83 ({ c with pe := .slice A1 L.length c1 } : LC).cells) := Lib.hid (by rw [hW4]; exact K3.out.set_ 12 (.slice A1 L.length c1))
  have B4 : Hid (Below w.heap.size w W4) := Lib.hid (by rw [hW4]; exact B3.out.setCell (p := ⟨w.heap.size, 12, none⟩) (Nat.le_refl _) _)
  have O4 : Hid (W4.ownsRow w.heap.size 136 2 (.slice A1 L.length c1) L.length (L.flatMap pcells)) := Lib.hid (by rw [hW4]; exact own_far HO1.out (q := ⟨w.heap.size, 12, none⟩) (own_far_t HO1.out K3.out (by decide)) _)
  rw [← hW4]
  clear hW4 f3 g12
  have z0 : W4.cell? ⟨w.heap.size, 0, none⟩ = some (.int .u8 c.ty) := K4.out.cell 0
  have z1 : W4.cell? ⟨w.heap.size, 1, none⟩ = some (.int .u32 c.ro) := K4.out.cell 1
  have z2 : W4.cell? ⟨w.heap.size, 2, none⟩ = some (.int .u32 c.na) := K4.out.cell 2
  have z3 : W4.cell? ⟨w.heap.size, 3, none⟩ = some (.int .u8 c.nb) := K4.out.cell 3
  have z4 : W4.cell? ⟨w.heap.size, 4, none⟩ = some (.int .u32 c.ad) := K4.out.cell 4
  have z5 : W4.cell? ⟨w.heap.size, 5, none⟩ = some (.int .u8 c.op) := K4.out.cell 5
  have z6 : W4.cell? ⟨w.heap.size, 6, none⟩ = some (.int .u16 c.hi) := K4.out.cell 6
  have z7 : W4.cell? ⟨w.heap.size, 7, none⟩ = some (.int .u32 c.dd) := K4.out.cell 7
  have z8 : W4.cell? ⟨w.heap.size, 8, none⟩ = some (.int .u16 c.po) := K4.out.cell 8
  have z9 : W4.cell? ⟨w.heap.size, 9, none⟩ = some (.int .u8 c.pr) := K4.out.cell 9
  have z10 : W4.cell? ⟨w.heap.size, 10, none⟩ = some (.bool c.dm) := K4.out.cell 10
  have z11 : W4.cell? ⟨w.heap.size, 11, none⟩ = some (.bool c.ps) := K4.out.cell 11
  have z12 : W4.cell? ⟨w.heap.size, 12, none⟩ = some (.slice A1 L.length c1) := K4.out.cell 12
  have z13 : W4.cell? ⟨w.heap.size, 13, none⟩ = some (.int .u32 c.rm) := K4.out.cell 13
  go_wp2_with fail
  refine bodyPost_ret (v := .tuple #[.pointer (some ⟨W4.heap.size, 0, none⟩), .int .i64 0]) (by simp [results, Try.results31, go_sem]) rfl ⟨W4.heap.size, .slice A1 L.length c1, rfl, B4.out.size, Blk.new W4 _ _, O4.out.alloc _, B4.out.alloc B4.out.size _⟩

set_option maxHeartbeats 8000000 in
set_option maxRecDepth 20000 in
theorem new_demand (w : World) (c : LC) (L : List (Int × Int)) (hL : PeersAt w w.heap.size c.pe L) (hlen : L.length ≤ 200) (h1 : c.ty ≤ 4) (h2 : c.ro ≠ 0) (h3 : c.hi ≠ 0) (h4 : c.dd ≠ 0) (hpo : c.peers = decide (0 < c.po)) (h6 : c.nb ≤ 32) (hn0 : 0 ≤ c.nb)
    (hpm : ∀ W, Below w.heap.size w W → Calls Try.prog 64 #[.agg c.cells] W fun e w' => e = .returned (.bool true) ∧ Below W.heap.size W w')  (h7 : c.ty ≠ 4) (ha : c.rm = 0) (hb : c.ad ≠ 0) (hna : bits .and .u32 c.na (maskN c.nb.toNat) = c.na) (hmd : bits .and .u32 c.ad (maskN c.nb.toNat) = c.na) (hdm : c.dm = true) (ht3 : c.ty = 3) :
    Calls Try.prog 31 #[.agg c.cells] w fun e w' => NewPost c L w e w' := by
  obtain ⟨i0, hi, hz0, hz1, hz2⟩ := info_parts lpeer_info
  obtain ⟨A, cap, hpe, hr⟩ := hL
  have HPE := Lib.hid hpe
  have HR := Lib.hid hr
  have HPm := Lib.hid hpm
  have HPo := Lib.hid hpo
  have H_h7 := Lib.hid h7
  have H_ha := Lib.hid ha
  have H_hb := Lib.hid hb
  have H_hdm := Lib.hid hdm
  have H_ht3 := Lib.hid ht3
  have HNa := Lib.hid hna
  have HMd := Lib.hid hmd
  clear hpe hr hpm hpo h7 ha hb hdm ht3 hna hmd
  have e_h2 : (c.ro == 0) = false := by simpa using h2
  have e_h3 : (c.hi == 0) = false := by simpa using h3
  have e_h4 : (c.dd == 0) = false := by simpa using h4
  have n_h2 : (c.ro != 0) = true := by simpa using h2
  have n_h3 : (c.hi != 0) = true := by simpa using h3
  have n_h4 : (c.dd != 0) = true := by simpa using h4
  unfold LC.cells
  go_enter Try.func31, Try.ntmps31
  go_upto_region 1 with fail
  obtain ⟨W0, hW0⟩ : ∃ W0, W0 = w.alloc (.cells c.cells 83) := ⟨_, rfl⟩
  have K0 : Hid (Blk W0 w.heap.size 83 c.cells) := Lib.hid (by rw [hW0]; exact Blk.new w _ _)
  have B0 : Hid (Below w.heap.size w W0) := Lib.hid (by rw [hW0]; exact (Below.refl _ w).alloc (Nat.le_refl _) _)
  have hs0 : w.heap.size < W0.heap.size := K0.out.lt
  unfold LC.cells at hW0
  rw [← hW0]
  clear hW0
  have q0 := later_cell (v := .int .u8 c.ty) (B := w.heap.size + 1) (w0 := W0) (p := ⟨w.heap.size, 0, none⟩) (by simp) (K0.out.cell 0)
  have q1 := later_cell (v := .int .u32 c.ro) (B := w.heap.size + 1) (w0 := W0) (p := ⟨w.heap.size, 1, none⟩) (by simp) (K0.out.cell 1)
  have q2 := later_cell (v := .int .u32 c.na) (B := w.heap.size + 1) (w0 := W0) (p := ⟨w.heap.size, 2, none⟩) (by simp) (K0.out.cell 2)
  have q3 := later_cell (v := .int .u8 c.nb) (B := w.heap.size + 1) (w0 := W0) (p := ⟨w.heap.size, 3, none⟩) (by simp) (K0.out.cell 3)
  have q4 := later_cell (v := .int .u32 c.ad) (B := w.heap.size + 1) (w0 := W0) (p := ⟨w.heap.size, 4, none⟩) (by simp) (K0.out.cell 4)
  have q5 := later_cell (v := .int .u8 c.op) (B := w.heap.size + 1) (w0 := W0) (p := ⟨w.heap.size, 5, none⟩) (by simp) (K0.out.cell 5)
  have q6 := later_cell (v := .int .u16 c.hi) (B := w.heap.size + 1) (w0 := W0) (p := ⟨w.heap.size, 6, none⟩) (by simp) (K0.out.cell 6)
  have q7 := later_cell (v := .int .u32 c.dd) (B := w.heap.size + 1) (w0 := W0) (p := ⟨w.heap.size, 7, none⟩) (by simp) (K0.out.cell 7)
  have q8 := later_cell (v := .int .u16 c.po) (B := w.heap.size + 1) (w0 := W0) (p := ⟨w.heap.size, 8, none⟩) (by simp) (K0.out.cell 8)
  have q9 := later_cell (v := .int .u8 c.pr) (B := w.heap.size + 1) (w0 := W0) (p := ⟨w.heap.size, 9, none⟩) (by simp) (K0.out.cell 9)
  have q10 := later_cell (v := .bool c.dm) (B := w.heap.size + 1) (w0 := W0) (p := ⟨w.heap.size, 10, none⟩) (by simp) (K0.out.cell 10)
  have q11 := later_cell (v := .bool c.ps) (B := w.heap.size + 1) (w0 := W0) (p := ⟨w.heap.size, 11, none⟩) (by simp) (K0.out.cell 11)
  have q12 := later_cell (v := c.pe) (B := w.heap.size + 1) (w0 := W0) (p := ⟨w.heap.size, 12, none⟩) (by simp) (K0.out.cell 12)
  have q13 := later_cell (v := .int .u32 c.rm) (B := w.heap.size + 1) (w0 := W0) (p := ⟨w.heap.size, 13, none⟩) (by simp) (K0.out.cell 13)
  have d1 : Hid (∀ u : Later (w.heap.size + 1) W0, Calls Try.prog 63 #[.agg #[.int .u8 c.ty, .int .u32 c.ro, .int .u32 c.na, .int .u8 c.nb, .int .u32 c.ad, .int .u8 c.op, .int .u16 c.hi, .int .u32 c.dd, .int .u16 c.po, .int .u8 c.pr, .bool c.dm, .bool c.ps, c.pe, .int .u32 c.rm]] u.to fun e w' => e = .returned (.bool (decide (0 < c.po))) ∧ Below u.to.heap.size u.to w') := Lib.hid (fun u => by have h := peers_any c u.to; rw [HPo.out] at h; exact h)
  have d2 : Hid (∀ u : Later (w.heap.size + 1) W0, Calls Try.prog 64 #[.agg #[.int .u8 c.ty, .int .u32 c.ro, .int .u32 c.na, .int .u8 c.nb, .int .u32 c.ad, .int .u8 c.op, .int .u16 c.hi, .int .u32 c.dd, .int .u16 c.po, .int .u8 c.pr, .bool c.dm, .bool c.ps, c.pe, .int .u32 c.rm]] u.to fun e w' => e = .returned (.bool true) ∧ Below u.to.heap.size u.to w') := Lib.hid (fun u => HPm.out u.to (B0.out.trans (u.ok.mono (by omega))))
  refine wp_region_later (B := w.heap.size + 1) (w0 := W0) (by kernel_rfl) (by kernel_rfl) (Below.refl _ _) ?_
  repeat (go_big_quiet_step (first
    | (go_at_call 63; with_reducible exact later_call _ (by omega) (d1.out _))
    | (go_at_call 64; with_reducible exact later_call _ (by omega) (d2.out _))))
  refine wpQuiet_nil ?_
  rintro wx ⟨⟨wy, hwy⟩, hwe⟩
  obtain rfl : wx = wy := hwe
  have B1 := Lib.hid (B0.out.trans (hwy.mono (by omega)))
  have K1 := Lib.hid (K0.out.below hwy (by omega))
  clear d1 d2 hwy q0 q1 q2 q3 q4 q5 q6 q7 q8 q9 q10 q11 q12 q13
  have h7 := H_h7.out
  have ha := H_ha.out
  have hb := H_hb.out
  have hdm := H_hdm.out
  have ht3 := H_ht3.out
  have e_h7 : (c.ty == 4) = false := by simpa using h7
  have e_hb : (c.ad == 0) = false := by simpa using hb
  have n_hb : (c.ad != 0) = true := by simpa using hb
  have z0 : wx.cell? ⟨w.heap.size, 0, none⟩ = some (.int .u8 c.ty) := K1.out.cell 0
  have z1 : wx.cell? ⟨w.heap.size, 1, none⟩ = some (.int .u32 c.ro) := K1.out.cell 1
  have z2 : wx.cell? ⟨w.heap.size, 2, none⟩ = some (.int .u32 c.na) := K1.out.cell 2
  have z3 : wx.cell? ⟨w.heap.size, 3, none⟩ = some (.int .u8 c.nb) := K1.out.cell 3
  have z4 : wx.cell? ⟨w.heap.size, 4, none⟩ = some (.int .u32 c.ad) := K1.out.cell 4
  have z5 : wx.cell? ⟨w.heap.size, 5, none⟩ = some (.int .u8 c.op) := K1.out.cell 5
  have z6 : wx.cell? ⟨w.heap.size, 6, none⟩ = some (.int .u16 c.hi) := K1.out.cell 6
  have z7 : wx.cell? ⟨w.heap.size, 7, none⟩ = some (.int .u32 c.dd) := K1.out.cell 7
  have z8 : wx.cell? ⟨w.heap.size, 8, none⟩ = some (.int .u16 c.po) := K1.out.cell 8
  have z9 : wx.cell? ⟨w.heap.size, 9, none⟩ = some (.int .u8 c.pr) := K1.out.cell 9
  have z10 : wx.cell? ⟨w.heap.size, 10, none⟩ = some (.bool c.dm) := K1.out.cell 10
  have z11 : wx.cell? ⟨w.heap.size, 11, none⟩ = some (.bool c.ps) := K1.out.cell 11
  have z12 : wx.cell? ⟨w.heap.size, 12, none⟩ = some (c.pe) := K1.out.cell 12
  have z13 : wx.cell? ⟨w.heap.size, 13, none⟩ = some (.int .u32 c.rm) := K1.out.cell 13
  have p0 := later_cell (v := .int .u8 c.ty) (B := w.heap.size + 1) (w0 := wx) (p := ⟨w.heap.size, 0, none⟩) (by simp) (K1.out.cell 0)
  have p1 := later_cell (v := .int .u32 c.ro) (B := w.heap.size + 1) (w0 := wx) (p := ⟨w.heap.size, 1, none⟩) (by simp) (K1.out.cell 1)
  have p2 := later_cell (v := .int .u32 c.na) (B := w.heap.size + 1) (w0 := wx) (p := ⟨w.heap.size, 2, none⟩) (by simp) (K1.out.cell 2)
  have p3 := later_cell (v := .int .u8 c.nb) (B := w.heap.size + 1) (w0 := wx) (p := ⟨w.heap.size, 3, none⟩) (by simp) (K1.out.cell 3)
  have p4 := later_cell (v := .int .u32 c.ad) (B := w.heap.size + 1) (w0 := wx) (p := ⟨w.heap.size, 4, none⟩) (by simp) (K1.out.cell 4)
  have p5 := later_cell (v := .int .u8 c.op) (B := w.heap.size + 1) (w0 := wx) (p := ⟨w.heap.size, 5, none⟩) (by simp) (K1.out.cell 5)
  have p6 := later_cell (v := .int .u16 c.hi) (B := w.heap.size + 1) (w0 := wx) (p := ⟨w.heap.size, 6, none⟩) (by simp) (K1.out.cell 6)
  have p7 := later_cell (v := .int .u32 c.dd) (B := w.heap.size + 1) (w0 := wx) (p := ⟨w.heap.size, 7, none⟩) (by simp) (K1.out.cell 7)
  have p8 := later_cell (v := .int .u16 c.po) (B := w.heap.size + 1) (w0 := wx) (p := ⟨w.heap.size, 8, none⟩) (by simp) (K1.out.cell 8)
  have p9 := later_cell (v := .int .u8 c.pr) (B := w.heap.size + 1) (w0 := wx) (p := ⟨w.heap.size, 9, none⟩) (by simp) (K1.out.cell 9)
  have p10 := later_cell (v := .bool c.dm) (B := w.heap.size + 1) (w0 := wx) (p := ⟨w.heap.size, 10, none⟩) (by simp) (K1.out.cell 10)
  have p11 := later_cell (v := .bool c.ps) (B := w.heap.size + 1) (w0 := wx) (p := ⟨w.heap.size, 11, none⟩) (by simp) (K1.out.cell 11)
  have p12 := later_cell (v := c.pe) (B := w.heap.size + 1) (w0 := wx) (p := ⟨w.heap.size, 12, none⟩) (by simp) (K1.out.cell 12)
  have p13 := later_cell (v := .int .u32 c.rm) (B := w.heap.size + 1) (w0 := wx) (p := ⟨w.heap.size, 13, none⟩) (by simp) (K1.out.cell 13)
  have d3 : Hid (∀ u : Later (w.heap.size + 1) wx, Calls Try.prog 65 #[.agg #[.int .u32 c.na, .int .u8 c.nb]] u.to fun e w' => e = .returned (.int .i64 0) ∧ Below u.to.heap.size u.to w') := Lib.hid (fun u => (check_any c.na c.nb u.to hn0 h6).mono fun _ _ h => ⟨by rw [h.1, if_pos HNa.out], h.2⟩)
  have d4 : Hid (∀ u : Later (w.heap.size + 1) wx, Calls Try.prog 66 #[.agg #[.int .u32 c.na, .int .u8 c.nb], .int .u32 c.ad] u.to fun e w' => e = .returned (.bool true) ∧ Below u.to.heap.size u.to w') := Lib.hid (fun u => (has_any c.na c.nb c.ad u.to hn0 h6 HNa.out).mono fun _ _ h => ⟨by rw [h.1, decide_eq_true HMd.out], h.2⟩)
  have hwx : w.heap.size + 1 ≤ wx.heap.size := K1.out.lt
  go_upto_region 4 with fail
  refine wp_region_later_plain (B := w.heap.size + 1) (w0 := wx) (Below.refl _ _) ?_
  repeat (go_big_quiet_step (first
    | (go_at_call 65; with_reducible exact later_call _ (by omega) (d3.out _))
    | (go_at_call 66; with_reducible exact later_call _ (by omega) (d4.out _))))
  refine wpQuiet_nil ?_
  rintro wy ⟨⟨wz, hwz⟩, hwe⟩
  obtain rfl : wy = wz := hwe
  have K2 := Lib.hid (K1.out.below hwz (by omega))
  have B2 := Lib.hid (B1.out.trans (hwz.mono (by omega)))
  clear hwz d3 d4 p0 p1 p2 p3 p4 p5 p6 p7 p8 p9 p10 p11 p12 p13
  clear z0 z1 z2 z3 z4 z5 z6 z7 z8 z9 z10 z11 z12 z13 h7 ha hb hdm ht3 e_h7 e_hb e_h2 e_h3 e_h4 n_hb n_h2 n_h3 n_h4
  have z0 : wy.cell? ⟨w.heap.size, 0, none⟩ = some (.int .u8 c.ty) := K2.out.cell 0
  have z1 : wy.cell? ⟨w.heap.size, 1, none⟩ = some (.int .u32 c.ro) := K2.out.cell 1
  have z2 : wy.cell? ⟨w.heap.size, 2, none⟩ = some (.int .u32 c.na) := K2.out.cell 2
  have z3 : wy.cell? ⟨w.heap.size, 3, none⟩ = some (.int .u8 c.nb) := K2.out.cell 3
  have z4 : wy.cell? ⟨w.heap.size, 4, none⟩ = some (.int .u32 c.ad) := K2.out.cell 4
  have z5 : wy.cell? ⟨w.heap.size, 5, none⟩ = some (.int .u8 c.op) := K2.out.cell 5
  have z6 : wy.cell? ⟨w.heap.size, 6, none⟩ = some (.int .u16 c.hi) := K2.out.cell 6
  have z7 : wy.cell? ⟨w.heap.size, 7, none⟩ = some (.int .u32 c.dd) := K2.out.cell 7
  have z8 : wy.cell? ⟨w.heap.size, 8, none⟩ = some (.int .u16 c.po) := K2.out.cell 8
  have z9 : wy.cell? ⟨w.heap.size, 9, none⟩ = some (.int .u8 c.pr) := K2.out.cell 9
  have z10 : wy.cell? ⟨w.heap.size, 10, none⟩ = some (.bool c.dm) := K2.out.cell 10
  have z11 : wy.cell? ⟨w.heap.size, 11, none⟩ = some (.bool c.ps) := K2.out.cell 11
  have z12 : wy.cell? ⟨w.heap.size, 12, none⟩ = some (c.pe) := K2.out.cell 12
  have z13 : wy.cell? ⟨w.heap.size, 13, none⟩ = some (.int .u32 c.rm) := K2.out.cell 13
  rw [HPE.out] at z12
  have fz := K2.out.frozen
  have hl2 : w.heap.size < wy.heap.size := K2.out.lt
  have HRd := Lib.hid (HR.out.below B2.out)
  go_upto_region 8 with (at_builtin; refine wpList_append_any _ rfl (.const (.slice none 0 0)) (.tmp 110) _ rfl w.heap.size 136 i0 _ 2 8 Try.underlying81 hi hz0 hz1 hz2 rfl (by omega) (.slice none 0 0) 0 [] rfl (World.ownsRow_nil _ _ _ _) w.heap.size A L.length cap (L.flatMap pcells) rfl HRd.out (pcells_one L) (by unfold maxLen; omega) (by omega) B2.out.size ?_; intro v1 w1 hown1 hg1 hat1; rw [List.nil_append, Nat.zero_add] at hown1; obtain ⟨A1, c1, hv1⟩ := own_slice hown1; subst hv1; have HO1 := Lib.hid hown1; have K3 := Lib.hid (K2.out.grown hg1 (by simp [Value.ownBlock])); have B3 := Lib.hid (B2.out.grown hg1 B2.out.size (fun k hk => by simp [Value.ownBlock] at hk)); have f3 := K3.out.frozen; have g12 : w1.cell? ⟨w.heap.size, 12, none⟩ = some (.slice A L.length cap) := (K3.out.cell 12).trans (congrArg some HPE.out); clear hown1 hg1 hat1 fz z0 z1 z2 z3 z4 z5 z6 z7 z8 z9 z10 z11 z12 z13)
  obtain ⟨W4, hW4⟩ : ∃ W4, W4 = w1.setCell ⟨w.heap.size, 12, none⟩ (.slice A1 L.length c1) := ⟨_, rfl⟩
  have K4 : Hid (Blk W4 w.heap.size 83 ({ c with pe := .slice A1 L.length c1 } : LC).cells) := Lib.hid (by rw [hW4]; exact K3.out.set_ 12 (.slice A1 L.length c1))
  have B4 : Hid (Below w.heap.size w W4) := Lib.hid (by rw [hW4]; exact B3.out.setCell (p := ⟨w.heap.size, 12, none⟩) (Nat.le_refl _) _)
  have O4 : Hid (W4.ownsRow w.heap.size 136 2 (.slice A1 L.length c1) L.length (L.flatMap pcells)) := Lib.hid (by rw [hW4]; exact own_far HO1.out (q := ⟨w.heap.size, 12, none⟩) (own_far_t HO1.out K3.out (by decide)) _)
  rw [← hW4]
  clear hW4 f3 g12
  have z0 : W4.cell? ⟨w.heap.size, 0, none⟩ = some (.int .u8 c.ty) := K4.out.cell 0
  have z1 : W4.cell? ⟨w.heap.size, 1, none⟩ = some (.int .u32 c.ro) := K4.out.cell 1
  have z2 : W4.cell? ⟨w.heap.size, 2, none⟩ = some (.int .u32 c.na) := K4.out.cell 2
  have z3 : W4.cell? ⟨w.heap.size, 3, none⟩ = some (.int .u8 c.nb) := K4.out.cell 3
  have z4 : W4.cell? ⟨w.heap.size, 4, none⟩ = some (.int .u32 c.ad) := K4.out.cell 4
  have z5 : W4.cell? ⟨w.heap.size, 5, none⟩ = some (.int .u8 c.op) := K4.out.cell 5
  have z6 : W4.cell? ⟨w.heap.size, 6, none⟩ = some (.int .u16 c.hi) := K4.out.cell 6
  have z7 : W4.cell? ⟨w.heap.size, 7, none⟩ = some (.int .u32 c.dd) := K4.out.cell 7
  have z8 : W4.cell? ⟨w.heap.size, 8, none⟩ = some (.int .u16 c.po) := K4.out.cell 8
  have z9 : W4.cell? ⟨w.heap.size, 9, none⟩ = some (.int .u8 c.pr) := K4.out.cell 9
  have z10 : W4.cell? ⟨w.heap.size, 10, none⟩ = some (.bool c.dm) := K4.out.cell 10
  have z11 : W4.cell? ⟨w.heap.size, 11, none⟩ = some (.bool c.ps) := K4.out.cell 11
  have z12 : W4.cell? ⟨w.heap.size, 12, none⟩ = some (.slice A1 L.length c1) := K4.out.cell 12
  have z13 : W4.cell? ⟨w.heap.size, 13, none⟩ = some (.int .u32 c.rm) := K4.out.cell 13
  go_wp2_with fail
  refine bodyPost_ret (v := .tuple #[.pointer (some ⟨W4.heap.size, 0, none⟩), .int .i64 0]) (by simp [results, Try.results31, go_sem]) rfl ⟨W4.heap.size, .slice A1 L.length c1, rfl, B4.out.size, Blk.new W4 _ _, O4.out.alloc _, B4.out.alloc B4.out.size _⟩
end Go.Proofs.Ytgbmhijgpdgdbaa

namespace Go.Proofs.Ytgbmhijgpdgdbaa
open Go.RowKit

theorem mask_range (n : Nat) (h : n ≤ 32) : 0 ≤ maskN n ∧ maskN n < 4294967296 := by
  have hn : n = 0 ∨ n = 1 ∨ n = 2 ∨ n = 3 ∨ n = 4 ∨ n = 5 ∨ n = 6 ∨ n = 7 ∨ n = 8 ∨ n = 9 ∨ n = 10 ∨ n = 11 ∨ n = 12 ∨ n = 13 ∨ n = 14 ∨ n = 15 ∨ n = 16 ∨ n = 17 ∨ n = 18 ∨ n = 19 ∨ n = 20 ∨ n = 21 ∨ n = 22 ∨ n = 23 ∨ n = 24 ∨ n = 25 ∨ n = 26 ∨ n = 27 ∨ n = 28 ∨ n = 29 ∨ n = 30 ∨ n = 31 ∨ n = 32 := by omega
  clear h
  rcases hn with rfl | rfl | rfl | rfl | rfl | rfl | rfl | rfl | rfl | rfl | rfl | rfl | rfl | rfl | rfl | rfl | rfl | rfl | rfl | rfl | rfl | rfl | rfl | rfl | rfl | rfl | rfl | rfl | rfl | rfl | rfl | rfl | rfl <;> decide

theorem and_of_andNot {x : Int} {n : Nat} (h0 : 0 ≤ x) (h1 : x < 4294967296) (hn : n ≤ 32) (h : bits .andNot .u32 x (maskN n) = 0) : bits .and .u32 x (maskN n) = x := by
  obtain ⟨m0, m1⟩ := mask_range n hn
  rw [u32_andNot x (maskN n) h0 h1 m0 m1] at h
  rw [u32_and x (maskN n) h0 h1 m0 m1]
  have h' : x.toNat &&& (4294967295 - (maskN n).toNat) = 0 := by exact_mod_cast h
  have key : x.toNat &&& (maskN n).toNat = x.toNat := by
    apply Nat.eq_of_testBit_eq
    intro i
    rw [Nat.testBit_and]
    by_cases hi : i < 32
    · have hz : (x.toNat &&& (4294967295 - (maskN n).toNat)).testBit i = false := by rw [h']; simp
      rw [Nat.testBit_and] at hz
      have e : 4294967295 - (maskN n).toNat = 2 ^ 32 - ((maskN n).toNat + 1) := by omega
      rw [e, Nat.testBit_two_pow_sub_succ (by omega)] at hz
      cases hx : x.toNat.testBit i <;> simp [hx, hi] at hz ⊢
      exact hz
    · have : x.toNat.testBit i = false := Nat.testBit_lt_two_pow (Nat.lt_of_lt_of_le (show x.toNat < 2 ^ 32 by omega) (Nat.pow_le_pow_right (by omega) (by omega)))
      simp [this]
  rw [key]
  omega

/-- **New, of whatever config that may be.** -/
theorem new_any (w : World) (c : LC) (L : List (Int × Int)) (hL : PeersAt w w.heap.size c.pe L) (hlen : L.length ≤ 200) (hm : MayOk c L) (had : WdOk c.ad) (hna : WdOk c.na) (hwd : ∀ p ∈ L, WdOk p.1) (hn0 : 0 ≤ c.nb) :
    Calls Try.prog 31 #[.agg c.cells] w fun e w' => NewPost c L w e w' := by
  have hL0 := hL
  obtain ⟨A, cap, hpe, hr⟩ := hL0
  have hpm : ∀ W, Below w.heap.size w W → Calls Try.prog 64 #[.agg c.cells] W fun e w' => e = .returned (.bool true) ∧ Below W.heap.size W w' := by
    intro W hb
    cases hp : c.peers with
    | false =>
      have hnil : L = [] := by
        by_cases ht : c.ty = 4
        · exact (hm.vi ht).2.2.2.2.2.2
        · exact (hm.ot ht).2.2.2.2.2.1 hp
      subst hnil
      exact peersMay_none W c hp cap A hpe
    | true =>
      have ht : c.ty ≠ 4 := fun e => by simp [LC.peers, e] at hp
      obtain ⟨h64, hall⟩ := (hm.ot ht).2.2.2.2.2.2 hp
      exact peersMay_some W c L hp ⟨A, cap, hpe, (hr.below hb).more hb.size⟩ h64 had hwd hall
  by_cases ht : c.ty = 4
  · obtain ⟨a1, a2, a3, a4, a5, a6, _⟩ := hm.vi ht
    exact new_virtual w c L hL hlen hm.ty hm.ro hm.hi hm.dd hm.po hm.nb hn0 hpm ht a1 a2 a3 a4 a5 a6
  · obtain ⟨a1, a2, a3, a4, a5, _, _⟩ := hm.ot ht
    have hand := and_of_andNot hna.v0 hna.v1 (by have := hm.nb; omega : c.nb.toNat ≤ 32) a3
    cases hdm : c.dm with
    | false => exact new_plain w c L hL hlen hm.ty hm.ro hm.hi hm.dd hm.po hm.nb hn0 hpm ht a1 a2 hand a4 hdm
    | true => exact new_demand w c L hL hlen hm.ty hm.ro hm.hi hm.dd hm.po hm.nb hn0 hpm ht a1 a2 hand a4 hdm (a5 hdm)
end Go.Proofs.Ytgbmhijgpdgdbaa
