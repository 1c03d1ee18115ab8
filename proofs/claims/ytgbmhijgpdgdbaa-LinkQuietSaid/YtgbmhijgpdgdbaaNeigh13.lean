/- The neighbours of the link of 'works'. -/
import Derived.Test.YtgbmhijgpdgdbaaHear13
namespace Go.Proofs.Ytgbmhijgpdgdbaa
open Go.RowKit

theorem neigh_info : (Try.prog.info? 109).map (fun i => (i.zero, i.size, i.bytes)) = some (some (.agg #[.int .u32 0, .int .u32 0, .int .u8 0, .int .u8 0, .int .u32 0, .int .u32 0, .int .u8 0, .int .u32 0, .bool false]), 9, 32) := by kernel_rfl

theorem own_slice1 {w : World} {base : Nat} {e : TypeId} {size : Nat} {v : Value} {xs : List Value} (h : w.ownsRow base e size v 1 xs) : ∃ g cap, v = .slice (some ⟨g, 0, none⟩) 1 cap := by
  rcases h.2 with ⟨_, h0⟩ | ⟨g, cap, cur, hv, _⟩
  · omega
  · exact ⟨g, cap, hv⟩
theorem own_cell {w : World} {base : Nat} {e : TypeId} {size g cap : Nat} {xs : List Value} (h : w.ownsRow base e size (.slice (some ⟨g, 0, none⟩) 1 cap) 1 xs) (i : Nat) {u : Value} (hu : xs[i]? = some u) : w.cell? ⟨g, i, none⟩ = some u := by
  obtain ⟨ad, hA, _, hc⟩ := (Reads.of_own h).2 (by omega)
  cases hA
  have := hc i u hu
  by_cases h0 : i = 0
  · subst h0
    simpa [Addr.add] using this
  · simpa [Addr.add, h0] using this

def NeighPost (w : World) (e : Ending) (w' : World) : Prop := ∃ R c, e = .returned (.slice (some ⟨R, 0, none⟩) 1 c) ∧ w'.cell? ⟨R, 2, none⟩ = some (.int .u8 3) ∧ w'.cell? ⟨R, 8, none⟩ = some (.bool false) ∧ Below w.heap.size w w'

set_option maxHeartbeats 2000000 in
set_option maxRecDepth 20000 in
theorem neighbours_lk (w : World) (B L K c : Nat) (wt nx : Int) (cs : Array Value) (k : Blk w B 119 (lk 2 wt nx (.slice (some ⟨L, 0, none⟩) 1 c))) (kl : Blk w L 137 cs) (hcs : cs[0]? = some (.pointer (some ⟨K, 0, none⟩))) (kk : Blk w K 139 (nk 3)) :
    Calls Try.prog 38 #[.pointer (some ⟨B, 0, none⟩)] w fun e w' => NeighPost w e w' := by
  obtain ⟨i0, hi, hz0, hz1, hz2⟩ := info_parts neigh_info
  have hp := fun W => shared13 W
  unfold lcfg at hp
  have HP := Lib.hid hp
  have hlt : B < w.heap.size := k.lt
  have hLl : L < w.heap.size := kl.lt
  have hKl : K < w.heap.size := kk.lt
  have HK := Lib.hid k
  have HL := Lib.hid kl
  have HN := Lib.hid kk
  have Hcs := Lib.hid hcs
  clear hp k kl kk hcs
  have y22 : w.cell? ⟨B, 22, none⟩ = some (.slice (some ⟨L, 0, none⟩) 1 c) := HK.out.cell 22
  have l0 : w.cell? ⟨L, 0, none⟩ = some (.pointer (some ⟨K, 0, none⟩)) := (HL.out.cell 0).trans Hcs.out
  have n0 : w.cell? ⟨K, 0, none⟩ = some (.int .u32 2) := HN.out.cell 0
  have n1 : w.cell? ⟨K, 1, none⟩ = some (.int .u32 167772162) := HN.out.cell 1
  have n2 : w.cell? ⟨K, 2, none⟩ = some (.int .u8 3) := HN.out.cell 2
  have n3 : w.cell? ⟨K, 3, none⟩ = some (.int .u8 1) := HN.out.cell 3
  have n4 : w.cell? ⟨K, 4, none⟩ = some (.int .u32 0) := HN.out.cell 4
  have n5 : w.cell? ⟨K, 5, none⟩ = some (.int .u32 0) := HN.out.cell 5
  have n6 : w.cell? ⟨K, 6, none⟩ = some (.int .u8 2) := HN.out.cell 6
  have n7 : w.cell? ⟨K, 7, none⟩ = some (.int .u32 40) := HN.out.cell 7
  have n8 : w.cell? ⟨K, 8, none⟩ = some (.bool false) := HN.out.cell 8
  go_enter Try.func38, Try.ntmps38
  go_wp2_with (go_at_call 67; refine (none_lk _ _ _ HK.out rfl).mono ?_; rintro e w' ⟨rfl, rfl⟩)
  refine wp_loop_rounds 2 ?_
  rw [rounds_succ]
  go_upto_region 8 with fail
  obtain ⟨W0, hW0⟩ : ∃ W0, W0 = w.alloc (.cells #[.int .u32 2, .int .u32 167772162, .int .u8 3, .int .u8 1, .int .u32 0, .int .u32 0, .int .u8 2, .int .u32 40, .bool false] 109) := ⟨_, rfl⟩
  have K0 : Hid (Blk W0 B 119 (lk 2 wt nx (.slice (some ⟨L, 0, none⟩) 1 c))) := Lib.hid (by rw [hW0]; exact HK.out.alloc _)
  have N0 : Hid (Blk W0 K 139 (nk 3)) := Lib.hid (by rw [hW0]; exact HN.out.alloc _)
  have X0 : Hid (Blk W0 w.heap.size 109 #[.int .u32 2, .int .u32 167772162, .int .u8 3, .int .u8 1, .int .u32 0, .int .u32 0, .int .u8 2, .int .u32 40, .bool false]) := Lib.hid (by rw [hW0]; exact Blk.new w _ _)
  have B0 : Hid (Below w.heap.size w W0) := Lib.hid (by rw [hW0]; exact (Below.refl _ w).alloc (Nat.le_refl _) _)
  rw [← hW0]
  clear hW0 y22 l0 n0 n1 n2 n3 n4 n5 n6 n7 n8
  have hx0 : w.heap.size < W0.heap.size := X0.out.lt
  have q1 := later_cell (v := .int .u8 0) (B := w.heap.size + 1) (w0 := W0) (p := ⟨B, 1, none⟩) (by simp; omega) (K0.out.cell 1)
  have q2 := later_cell (v := .int .u32 1) (B := w.heap.size + 1) (w0 := W0) (p := ⟨B, 2, none⟩) (by simp; omega) (K0.out.cell 2)
  have q3 := later_cell (v := .int .u32 167772160) (B := w.heap.size + 1) (w0 := W0) (p := ⟨B, 3, none⟩) (by simp; omega) (K0.out.cell 3)
  have q4 := later_cell (v := .int .u8 24) (B := w.heap.size + 1) (w0 := W0) (p := ⟨B, 4, none⟩) (by simp; omega) (K0.out.cell 4)
  have q5 := later_cell (v := .int .u32 167772161) (B := w.heap.size + 1) (w0 := W0) (p := ⟨B, 5, none⟩) (by simp; omega) (K0.out.cell 5)
  have q6 := later_cell (v := .int .u8 2) (B := w.heap.size + 1) (w0 := W0) (p := ⟨B, 6, none⟩) (by simp; omega) (K0.out.cell 6)
  have q7 := later_cell (v := .int .u16 10) (B := w.heap.size + 1) (w0 := W0) (p := ⟨B, 7, none⟩) (by simp; omega) (K0.out.cell 7)
  have q8 := later_cell (v := .int .u32 40) (B := w.heap.size + 1) (w0 := W0) (p := ⟨B, 8, none⟩) (by simp; omega) (K0.out.cell 8)
  have q9 := later_cell (v := .int .u16 0) (B := w.heap.size + 1) (w0 := W0) (p := ⟨B, 9, none⟩) (by simp; omega) (K0.out.cell 9)
  have q10 := later_cell (v := .int .u8 1) (B := w.heap.size + 1) (w0 := W0) (p := ⟨B, 10, none⟩) (by simp; omega) (K0.out.cell 10)
  have q11 := later_cell (v := .bool false) (B := w.heap.size + 1) (w0 := W0) (p := ⟨B, 11, none⟩) (by simp; omega) (K0.out.cell 11)
  have q12 := later_cell (v := .bool false) (B := w.heap.size + 1) (w0 := W0) (p := ⟨B, 12, none⟩) (by simp; omega) (K0.out.cell 12)
  have q13 := later_cell (v := .slice none 0 0) (B := w.heap.size + 1) (w0 := W0) (p := ⟨B, 13, none⟩) (by simp; omega) (K0.out.cell 13)
  have q14 := later_cell (v := .int .u32 0) (B := w.heap.size + 1) (w0 := W0) (p := ⟨B, 14, none⟩) (by simp; omega) (K0.out.cell 14)
  have q15 := later_cell (v := .int .u8 2) (B := w.heap.size + 1) (w0 := W0) (p := ⟨B, 15, none⟩) (by simp; omega) (K0.out.cell 15)
  have p2 := later_cell (v := .int .u8 3) (B := w.heap.size + 1) (w0 := W0) (p := ⟨K, 2, none⟩) (by simp; omega) (N0.out.cell 2)
  have d1 : Hid (∀ u : Later (w.heap.size + 1) W0, Calls Try.prog 68 #[.agg #[.int .u8 0, .int .u32 1, .int .u32 167772160, .int .u8 24, .int .u32 167772161, .int .u8 2, .int .u16 10, .int .u32 40, .int .u16 0, .int .u8 1, .bool false, .bool false, .slice none 0 0, .int .u32 0]] u.to fun e w' => e = .returned (.bool true) ∧ Below u.to.heap.size u.to w') := Lib.hid (fun u => HP.out u.to)
  refine wp_region_later_tail (B := w.heap.size + 1) (w0 := W0) 52 (by kernel_rfl) (by kernel_rfl) (Below.refl _ _) ?_
  simp only [List.take_succ_cons, List.take_zero, List.drop_succ_cons, List.drop_zero]
  repeat (go_big_quiet_step (first | (go_at_call 68; with_reducible exact later_call _ (by omega) (d1.out _))))
  refine wpQuiet_nil ?_
  rintro wx ⟨⟨wy, hwy⟩, hwe⟩
  obtain rfl : wx = wy := hwe
  have X1 := Lib.hid (X0.out.below hwy (by omega))
  have B1 := Lib.hid (B0.out.trans (hwy.mono (by omega)))
  clear q1 q2 q3 q4 q5 q6 q7 q8 q9 q10 q11 q12 q13 q14 q15 p2 d1 hwy
  have x8 : wx.cell? ⟨w.heap.size, 8, none⟩ = some (.bool false) := X1.out.cell 8
  have fx := X1.out.frozen
  go_upto_region 9 with fail
  obtain ⟨W2, hW2⟩ : ∃ W2, W2 = wx.setCell ⟨w.heap.size, 8, none⟩ (.bool false) := ⟨_, rfl⟩
  have X2 : Hid (Blk W2 w.heap.size 109 #[.int .u32 2, .int .u32 167772162, .int .u8 3, .int .u8 1, .int .u32 0, .int .u32 0, .int .u8 2, .int .u32 40, .bool false]) := Lib.hid (by rw [hW2]; exact X1.out.set_ 8 _)
  have B2 : Hid (Below w.heap.size w W2) := Lib.hid (by rw [hW2]; exact B1.out.setCell (p := ⟨w.heap.size, 8, none⟩) (Nat.le_refl _) _)
  rw [← hW2]
  clear hW2 x8 fx
  have m0 : W2.cell? ⟨w.heap.size, 0, none⟩ = some (.int .u32 2) := X2.out.cell 0
  have m1 : W2.cell? ⟨w.heap.size, 1, none⟩ = some (.int .u32 167772162) := X2.out.cell 1
  have m2 : W2.cell? ⟨w.heap.size, 2, none⟩ = some (.int .u8 3) := X2.out.cell 2
  have m3 : W2.cell? ⟨w.heap.size, 3, none⟩ = some (.int .u8 1) := X2.out.cell 3
  have m4 : W2.cell? ⟨w.heap.size, 4, none⟩ = some (.int .u32 0) := X2.out.cell 4
  have m5 : W2.cell? ⟨w.heap.size, 5, none⟩ = some (.int .u32 0) := X2.out.cell 5
  have m6 : W2.cell? ⟨w.heap.size, 6, none⟩ = some (.int .u8 2) := X2.out.cell 6
  have m7 : W2.cell? ⟨w.heap.size, 7, none⟩ = some (.int .u32 40) := X2.out.cell 7
  have m8 : W2.cell? ⟨w.heap.size, 8, none⟩ = some (.bool false) := X2.out.cell 8
  have HLit := Lib.hid (Reads.of_own (World.ownsRow_lit (base := 0) (e := 109) (size := 9) W2 #[.int .u32 2, .int .u32 167772162, .int .u8 3, .int .u8 1, .int .u32 0, .int .u32 0, .int .u8 2, .int .u32 40, .bool false] 1 (Nat.zero_le _) (by simp [maxLen]) rfl))
  go_wp2_with (at_builtin; refine wpList_append_any _ rfl (.tmp 75) (.tmp 77) _ rfl W2.heap.size 109 i0 _ 9 32 Try.underlying97 hi hz0 hz1 hz2 rfl (by omega) (.slice none 0 0) 0 [] rfl (World.ownsRow_nil _ _ _ _) _ (some ⟨W2.heap.size, 0, none⟩) 1 1 [.int .u32 2, .int .u32 167772162, .int .u8 3, .int .u8 1, .int .u32 0, .int .u32 0, .int .u8 2, .int .u32 40, .bool false] rfl HLit.out (by simp [Value.oneCell']) (by unfold maxLen; omega) (by omega) (by simp) ?_; intro v1 w1 hown1 hg1 hat1; rw [List.nil_append] at hown1; have HO := Lib.hid hown1; have HG1 := Lib.hid hg1; clear hown1 hg1 hat1)
  rw [rounds_succ]
  go_wp2_with fail
  go_ret
  obtain ⟨R, cap, rfl⟩ := own_slice1 HO.out
  refine ⟨R, cap, rfl, ?_, ?_, ?_⟩
  · exact own_cell HO.out 2 rfl
  · exact own_cell HO.out 8 rfl
  · exact (B2.out.alloc B2.out.size _).grown HG1.out (by have := B2.out.size; simp; omega) (fun k hk => by simp [Value.ownBlock] at hk)
end Go.Proofs.Ytgbmhijgpdgdbaa
