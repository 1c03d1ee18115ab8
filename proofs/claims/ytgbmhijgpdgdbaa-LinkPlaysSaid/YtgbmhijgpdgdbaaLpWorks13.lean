/- 'works' of the statements of the link answers true. -/
import Derived.Test.YtgbmhijgpdgdbaaLpHear13
set_option maxHeartbeats 2000000
set_option maxRecDepth 20000
namespace Go.Proofs.Ytgbmhijgpdgdbaa
open Go.RowKit
theorem neigh_info : (Try.prog.info? 109).map (fun i => (i.zero, i.size, i.bytes)) = some (some (.agg #[.int .u32 0, .int .u32 0, .int .u8 0, .int .u8 0, .int .u32 0, .int .u32 0, .int .u8 0, .int .u32 0, .bool false]), 9, 32) := by kernel_rfl
theorem own_slice1 {w : World} {base : Nat} {e : TypeId} {size : Nat} {v : Value} {xs : List Value} (h : w.ownsRow base e size v 1 xs) : ∃ g cap, v = .slice (some ⟨g, 0, none⟩) 1 cap := by
  rcases h.2 with ⟨_, h0⟩ | ⟨g, cap, cur, hv, _⟩
  · omega
  · exact ⟨g, cap, hv⟩
theorem own_cell {w : World} {base : Nat} {e : TypeId} {size g cap : Nat} {xs : List Value} (h : w.ownsRow base e size (.slice (some ⟨g, 0, none⟩) 1 cap) 1 xs) (i : Nat) {u : Value} (hu : xs[i]? = some u) : w.cell? ⟨g, i, none⟩ = some u := by
  obtain ⟨ad, hA, _, hc⟩ := (Reads.of_own h).2 (by omega)
  cases hA
  have := hc i u hu
  by_cases h0 : i = 0
  · subst h0
    simpa [Addr.add] using this
  · simpa [Addr.add, h0] using this
def NeighPost (w : World) (e : Ending) (w' : World) : Prop := ∃ R c, e = .returned (.slice (some ⟨R, 0, none⟩) 1 c) ∧ w'.cell? ⟨R, 2, none⟩ = some (.int .u8 3) ∧ w'.cell? ⟨R, 8, none⟩ = some (.bool false) ∧ Below w.heap.size w w'
theorem neighbours_lk (w : World) (B L K c : Nat) (wt nx : Int) (cs : Array Value) (k : Blk w B 119 (lk 2 wt nx (.slice (some ⟨L, 0, none⟩) 1 c))) (kl : Blk w L 137 cs) (hcs : cs[0]? = some (.pointer (some ⟨K, 0, none⟩))) (kk : Blk w K 139 (nk 3)) :
    Calls Try.prog 38 #[.pointer (some ⟨B, 0, none⟩)] w fun e w' => NeighPost w e w' := by
  obtain ⟨i0, hi, hz0, hz1, hz2⟩ := info_parts neigh_info
  have hp := fun W => shared13 W
  unfold lcfg at hp
  have HP := Lib.hid hp
  have hlt : B < w.heap.size := k.lt
  have hLl : L < w.heap.size := kl.lt
  have hKl : K < w.heap.size := kk.lt
  have HK := Lib.hid k
  have HL := Lib.hid kl
  have HN := Lib.hid kk
  have Hcs := Lib.hid hcs
  clear hp k kl kk hcs
  have y22 : w.cell? ⟨B, 22, none⟩ = some (.slice (some ⟨L, 0, none⟩) 1 c) := HK.out.cell 22
  have l0 : w.cell? ⟨L, 0, none⟩ = some (.pointer (some ⟨K, 0, none⟩)) := (HL.out.cell 0).trans Hcs.out
  have n0 : w.cell? ⟨K, 0, none⟩ = some (.int .u32 2) := HN.out.cell 0
  have n1 : w.cell? ⟨K, 1, none⟩ = some (.int .u32 167772162) := HN.out.cell 1
  have n2 : w.cell? ⟨K, 2, none⟩ = some (.int .u8 3) := HN.out.cell 2
  have n3 : w.cell? ⟨K, 3, none⟩ = some (.int .u8 1) := HN.out.cell 3
  have n4 : w.cell? ⟨K, 4, none⟩ = some (.int .u32 0) := HN.out.cell 4
  have n5 : w.cell? ⟨K, 5, none⟩ = some (.int .u32 0) := HN.out.cell 5
  have n6 : w.cell? ⟨K, 6, none⟩ = some (.int .u8 2) := HN.out.cell 6
  have n7 : w.cell? ⟨K, 7, none⟩ = some (.int .u32 40) := HN.out.cell 7
  have n8 : w.cell? ⟨K, 8, none⟩ = some (.bool false) := HN.out.cell 8
  go_enter Try.func38, Try.ntmps38
  go_wp2_with (go_at_call 67; refine (none_lk _ _ _ HK.out rfl).mono ?_; rintro e w' ⟨rfl, rfl⟩)
  refine wp_loop_rounds 2 ?_
  rw [rounds_succ]
  go_upto_region 8 with fail
  obtain ⟨W0, hW0⟩ : ∃ W0, W0 = w.alloc (.cells #[.int .u32 2, .int .u32 167772162, .int .u8 3, .int .u8 1, .int .u32 0, .int .u32 0, .int .u8 2, .int .u32 40, .bool false] 109) := ⟨_, rfl⟩
  have K0 : Hid (Blk W0 B 119 (lk 2 wt nx (.slice (some ⟨L, 0, none⟩) 1 c))) := Lib.hid (by rw [hW0]; exact HK.out.alloc _)
  have N0 : Hid (Blk W0 K 139 (nk 3)) := Lib.hid (by rw [hW0]; exact HN.out.alloc _)
  have X0 : Hid (Blk W0 w.heap.size 109 #[.int .u32 2, .int .u32 167772162, .int .u8 3, .int .u8 1, .int .u32 0, .int .u32 0, .int .u8 2, .int .u32 40, .bool false]) := Lib.hid (by rw [hW0]; exact Blk.new w _ _)
  have B0 : Hid (Below w.heap.size w W0) := Lib.hid (by rw [hW0]; exact (Below.refl _ w).alloc (Nat.le_refl _) _)
  rw [← hW0]
  clear hW0 y22 l0 n0 n1 n2 n3 n4 n5 n6 n7 n8
  have hx0 : w.heap.size < W0.heap.size := X0.out.lt
  have q1 := later_cell (v := .int .u8 0) (B := w.heap.size + 1) (w0 := W0) (p := ⟨B, 1, none⟩) (by simp; omega) (K0.out.cell 1)
  have q2 := later_cell (v := .int .u32 1) (B := w.heap.size + 1) (w0 := W0) (p := ⟨B, 2, none⟩) (by simp; omega) (K0.out.cell 2)
  have q3 := later_cell (v := .int .u32 167772160) (B := w.heap.size + 1) (w0 := W0) (p := ⟨B, 3, none⟩) (by simp; omega) (K0.out.cell 3)
  have q4 := later_cell (v := .int .u8 24) (B := w.heap.size + 1) (w0 := W0) (p := ⟨B, 4, none⟩) (by simp; omega) (K0.out.cell 4)
  have q5 := later_cell (v := .int .u32 167772161) (B := w.heap.size + 1) (w0 := W0) (p := ⟨B, 5, none⟩) (by simp; omega) (K0.out.cell 5)
  have q6 := later_cell (v := .int .u8 2) (B := w.heap.size + 1) (w0 := W0) (p := ⟨B, 6, none⟩) (by simp; omega) (K0.out.cell 6)
  have q7 := later_cell (v := .int .u16 10) (B := w.heap.size + 1) (w0 := W0) (p := ⟨B, 7, none⟩) (by simp; omega) (K0.out.cell 7)
  have q8 := later_cell (v := .int .u32 40) (B := w.heap.size + 1) (w0 := W0) (p := ⟨B, 8, none⟩) (by simp; omega) (K0.out.cell 8)
  have q9 := later_cell (v := .int .u16 0) (B := w.heap.size + 1) (w0 := W0) (p := ⟨B, 9, none⟩) (by simp; omega) (K0.out.cell 9)
  have q10 := later_cell (v := .int .u8 1) (B := w.heap.size + 1) (w0 := W0) (p := ⟨B, 10, none⟩) (by simp; omega) (K0.out.cell 10)
  have q11 := later_cell (v := .bool false) (B := w.heap.size + 1) (w0 := W0) (p := ⟨B, 11, none⟩) (by simp; omega) (K0.out.cell 11)
  have q12 := later_cell (v := .bool false) (B := w.heap.size + 1) (w0 := W0) (p := ⟨B, 12, none⟩) (by simp; omega) (K0.out.cell 12)
  have q13 := later_cell (v := .slice none 0 0) (B := w.heap.size + 1) (w0 := W0) (p := ⟨B, 13, none⟩) (by simp; omega) (K0.out.cell 13)
  have q14 := later_cell (v := .int .u32 0) (B := w.heap.size + 1) (w0 := W0) (p := ⟨B, 14, none⟩) (by simp; omega) (K0.out.cell 14)
  have q15 := later_cell (v := .int .u8 2) (B := w.heap.size + 1) (w0 := W0) (p := ⟨B, 15, none⟩) (by simp; omega) (K0.out.cell 15)
  have p2 := later_cell (v := .int .u8 3) (B := w.heap.size + 1) (w0 := W0) (p := ⟨K, 2, none⟩) (by simp; omega) (N0.out.cell 2)
  have d1 : Hid (∀ u : Later (w.heap.size + 1) W0, Calls Try.prog 68 #[.agg #[.int .u8 0, .int .u32 1, .int .u32 167772160, .int .u8 24, .int .u32 167772161, .int .u8 2, .int .u16 10, .int .u32 40, .int .u16 0, .int .u8 1, .bool false, .bool false, .slice none 0 0, .int .u32 0]] u.to fun e w' => e = .returned (.bool true) ∧ Below u.to.heap.size u.to w') := Lib.hid (fun u => HP.out u.to)
  refine wp_region_later_tail (B := w.heap.size + 1) (w0 := W0) 52 (by kernel_rfl) (by kernel_rfl) (Below.refl _ _) ?_
  simp only [List.take_succ_cons, List.take_zero, List.drop_succ_cons, List.drop_zero]
  repeat (go_big_quiet_step (first | (go_at_call 68; with_reducible exact later_call _ (by omega) (d1.out _))))
  refine wpQuiet_nil ?_
  rintro wx ⟨⟨wy, hwy⟩, hwe⟩
  obtain rfl : wx = wy := hwe
  have X1 := Lib.hid (X0.out.below hwy (by omega))
  have B1 := Lib.hid (B0.out.trans (hwy.mono (by omega)))
  clear q1 q2 q3 q4 q5 q6 q7 q8 q9 q10 q11 q12 q13 q14 q15 p2 d1 hwy
  have x8 : wx.cell? ⟨w.heap.size, 8, none⟩ = some (.bool false) := X1.out.cell 8
  have fx := X1.out.frozen
  go_upto_region 9 with fail
  obtain ⟨W2, hW2⟩ : ∃ W2, W2 = wx.setCell ⟨w.heap.size, 8, none⟩ (.bool false) := ⟨_, rfl⟩
  have X2 : Hid (Blk W2 w.heap.size 109 #[.int .u32 2, .int .u32 167772162, .int .u8 3, .int .u8 1, .int .u32 0, .int .u32 0, .int .u8 2, .int .u32 40, .bool false]) := Lib.hid (by rw [hW2]; exact X1.out.set_ 8 _)
  have B2 : Hid (Below w.heap.size w W2) := Lib.hid (by rw [hW2]; exact B1.out.setCell (p := ⟨w.heap.size, 8, none⟩) (Nat.le_refl _) _)
  rw [← hW2]
  clear hW2 x8 fx
  have m0 : W2.cell? ⟨w.heap.size, 0, none⟩ = some (.int .u32 2) := X2.out.cell 0
  have m1 : W2.cell? ⟨w.heap.size, 1, none⟩ = some (.int .u32 167772162) := X2.out.cell 1
  have m2 : W2.cell? ⟨w.heap.size, 2, none⟩ = some (.int .u8 3) := X2.out.cell 2
  have m3 : W2.cell? ⟨w.heap.size, 3, none⟩ = some (.int .u8 1) := X2.out.cell 3
  have m4 : W2.cell? ⟨w.heap.size, 4, none⟩ = some (.int .u32 0) := X2.out.cell 4
  have m5 : W2.cell? ⟨w.heap.size, 5, none⟩ = some (.int .u32 0) := X2.out.cell 5
  have m6 : W2.cell? ⟨w.heap.size, 6, none⟩ = some (.int .u8 2) := X2.out.cell 6
  have m7 : W2.cell? ⟨w.heap.size, 7, none⟩ = some (.int .u32 40) := X2.out.cell 7
  have m8 : W2.cell? ⟨w.heap.size, 8, none⟩ = some (.bool false) := X2.out.cell 8
  have HLit := Lib.hid (Reads.of_own (World.ownsRow_lit (base := 0) (e := 109) (size := 9) W2 #[.int .u32 2, .int .u32 167772162, .int .u8 3, .int .u8 1, .int .u32 0, .int .u32 0, .int .u8 2, .int .u32 40, .bool false] 1 (Nat.zero_le _) (by simp [maxLen]) rfl))
  go_wp2_with (at_builtin; refine wpList_append_any _ rfl (.tmp 75) (.tmp 77) _ rfl W2.heap.size 109 i0 _ 9 32 Try.underlying97 hi hz0 hz1 hz2 rfl (by omega) (.slice none 0 0) 0 [] rfl (World.ownsRow_nil _ _ _ _) _ (some ⟨W2.heap.size, 0, none⟩) 1 1 [.int .u32 2, .int .u32 167772162, .int .u8 3, .int .u8 1, .int .u32 0, .int .u32 0, .int .u8 2, .int .u32 40, .bool false] rfl HLit.out (by simp [Value.oneCell']) (by unfold maxLen; omega) (by omega) (by simp) ?_; intro v1 w1 hown1 hg1 hat1; rw [List.nil_append] at hown1; have HO := Lib.hid hown1; have HG1 := Lib.hid hg1; clear hown1 hg1 hat1)
  rw [rounds_succ]
  go_wp2_with fail
  go_ret
  obtain ⟨R, cap, rfl⟩ := own_slice1 HO.out
  refine ⟨R, cap, rfl, ?_, ?_, ?_⟩
  · exact own_cell HO.out 2 rfl
  · exact own_cell HO.out 8 rfl
  · exact (B2.out.alloc B2.out.size _).grown HG1.out (by have := B2.out.size; simp; omega) (fun k hk => by simp [Value.ownBlock] at hk)
end Go.Proofs.Ytgbmhijgpdgdbaa
namespace Go.Proofs.Ytgbmhijgpdgdbaa
open Go.RowKit
theorem Frame.below {S : Nat → Prop} {w w' : World} (h : Frame S w w') {N : Nat} (hN : N ≤ w.heap.size) (hS : ∀ j, j < N → ¬ S j) : Below N w w' := ⟨h.os, h.tape, h.output, h.size, fun j hj => h.block j (by omega) (hS j hj)⟩
theorem state_lk (w : World) (B : Nat) (cs : Array Value) (st : Int) (k : Blk w B 119 cs) (h0 : cs[0]? = some (.bool true)) (h15 : cs[15]? = some (.int .u8 st)) : Calls Try.prog 39 #[.pointer (some ⟨B, 0, none⟩)] w fun e w' => e = .returned (.int .u8 st) ∧ w = w' := by
  have c15 : w.cell? ⟨B, 15, none⟩ = some (.int .u8 st) := (k.cell 15).trans h15
  go_enter Try.func39, Try.ntmps39
  go_wp2_with (go_at_call 67; refine (none_lk _ _ _ k h0).mono ?_; rintro e w' ⟨rfl, rfl⟩)
  go_ret
  exact ⟨rfl, rfl⟩
theorem works13_any (w : World) : Calls Try.prog 30 #[] w fun e w' => e = .returned (.bool true) ∧ Below w.heap.size w w' := by
  have hp : ∀ W : World, Calls Try.prog 41 #[.int .u8 0] W fun e w' => e = .returned lcfg ∧ Below W.heap.size W w' := plain13
  have hg : ∀ W : World, Calls Try.prog 32 #[lcfg] W fun e w' => e = .returned lcfg ∧ Below W.heap.size W w' := given13
  have HPl := Lib.hid hp
  have HGi := Lib.hid hg
  have HNe := Lib.hid new13
  clear hp hg
  go_enter Try.func30, Try.ntmps30
  go_wp2_with fail
  refine (HPl.out _).mono ?_
  rintro e w1 ⟨rfl, hb1⟩
  go_wp2_with fail
  refine (HGi.out _).mono ?_
  rintro e w2 ⟨rfl, hb2⟩
  have B2 := Lib.hid (hb1.trans (hb2.mono hb1.size))
  clear hb1 hb2
  go_wp2_with fail
  refine (HNe.out _).mono ?_
  rintro e w3 ⟨B, rfl, hBl, kB, hb3⟩
  have B3 := Lib.hid (B2.out.trans (hb3.mono B2.out.size))
  have hwB : w.heap.size ≤ B := Nat.le_trans B2.out.size hBl
  have K3 := Lib.hid kB
  clear kB hb3 hBl
  go_wp2_with fail
  refine (up_lk _ B w.heap.size hwB K3.out).mono ?_
  rintro e w4 ⟨S, rfl, hS, hSB, k4, hb4⟩
  have K4 := Lib.hid k4
  have S4 := Lib.hid hS
  have B4 := Lib.hid (B3.out.trans hb4)
  have hBl4 : B < w4.heap.size := k4.lt
  have hSl4 : S < w4.heap.size := lt_of_cell hS
  clear k4 hS hb4
  have hh : ∀ W G, Blk W B 119 (lk 2 40 10 (.slice none 0 0)) → W.cell? ⟨G, 0, none⟩ = some (.int .u32 1) → G ≠ B → Calls Try.prog 35 #[.pointer (some ⟨B, 0, none⟩), .int .u32 167772162, .int .u32 2, .agg #[.int .u32 4294967040, .int .u16 10, .int .u8 2, .int .u8 1, .int .u32 40, .int .u32 0, .int .u32 0, .slice (some ⟨G, 0, none⟩) 1 1]] W fun e w' => HearPost B 40 10 W e w' := fun W G k g h => hear_first W B G 40 10 k g h
  have HH := Lib.hid hh
  clear hh
  go_wp2_with fail
  have a4 : Below w.heap.size w (w4.alloc (.cells #[.int .u32 1] 25)) := B4.out.alloc B4.out.size _
  refine (HH.out _ w4.heap.size (K4.out.alloc _) ((Blk.new w4 _ _).cell 0) (by omega)).mono ?_
  rintro e w5 ⟨rfl, L, K, c, cs, kB, kL, hcs, kK, hL, hK, hF⟩
  have K5 := Lib.hid kB
  have L5 := Lib.hid kL
  have N5 := Lib.hid kK
  have Hcs := Lib.hid hcs
  have S5 : Hid (w5.cell? ⟨S, 0, none⟩ = some (.int .u32 3758096389)) := Lib.hid ((hF.cell_ (b := S) (by simp; omega) hSB 0).trans ((World.cell?_alloc_lt _ _ _ hSl4).trans S4.out))
  have B5 : Hid (Below w.heap.size w w5) := Lib.hid (a4.trans (hF.below (by have := B4.out.size; simp; omega) (fun j hj e => by omega)))
  clear kB kL kK hcs hF a4
  go_wp2_with fail
  refine (hear_times w5 B L K c 40 10 cs _ K5.out L5.out Hcs.out N5.out).mono ?_
  rintro e w6 ⟨rfl, hb6⟩
  have K6 := Lib.hid (K5.out.below hb6 K5.out.lt)
  have L6 := Lib.hid (L5.out.below hb6 L5.out.lt)
  have N6 := Lib.hid (N5.out.below hb6 N5.out.lt)
  have S6 := Lib.hid ((hb6.cell (p := ⟨S, 0, none⟩) (lt_of_cell S5.out)).trans S5.out)
  have B6 := Lib.hid (B5.out.trans (hb6.mono B5.out.size))
  clear hb6
  go_wp2_with fail
  refine (neighbours_lk w6 B L K c 40 10 cs K6.out L6.out Hcs.out N6.out).mono ?_
  rintro e w7 ⟨R, c7, rfl, hR2, hR8, hb7⟩
  have K7 := Lib.hid (K6.out.below hb7 K6.out.lt)
  have s7 : w7.cell? ⟨S, 0, none⟩ = some (.int .u32 3758096389) := (hb7.cell (p := ⟨S, 0, none⟩) (lt_of_cell S6.out)).trans S6.out
  have B7 := Lib.hid (B6.out.trans (hb7.mono B6.out.size))
  clear hb7
  go_wp2_with (go_at_call 39; refine (state_lk _ _ _ 2 K7.out rfl rfl).mono ?_; rintro e w' ⟨rfl, rfl⟩)
  go_ret
  exact ⟨rfl, B7.out⟩
end Go.Proofs.Ytgbmhijgpdgdbaa
