/- The link of 'works', up: what its small methods answer; hello; a round. -/
import Derived.Test.YtgbmhijgpdgdbaaLpMapU
set_option maxHeartbeats 2000000
set_option maxRecDepth 20000
namespace Go.Proofs.Ytgbmhijgpdgdbaa
open Go.RowKit
def lnew : Array Value := #[.bool true, .int .u8 0, .int .u32 1, .int .u32 167772160, .int .u8 24, .int .u32 167772161, .int .u8 2, .int .u16 10, .int .u32 40, .int .u16 0, .int .u8 1, .bool false, .bool false, .slice none 0 0, .int .u32 0, .int .u8 0, .int .u32 0, .int .u32 0, .int .u32 0, .int .u32 0, .int .u32 0, .int .u32 0, .slice none 0 0]
def New13Post (w : World) (e : Ending) (w' : World) : Prop := ∃ B, e = .returned (.tuple #[.pointer (some ⟨B, 0, none⟩), .int .i64 0]) ∧ w.heap.size ≤ B ∧ Blk w' B 119 lnew ∧ Below w.heap.size w w'
theorem new13 (w : World) : Calls Try.prog 31 #[lcfg] w fun e w' => New13Post w e w' := by
  have k1 := Blk.new w 83 #[.int .u8 0, .int .u32 1, .int .u32 167772160, .int .u8 24, .int .u32 167772161, .int .u8 2, .int .u16 10, .int .u32 40, .int .u16 0, .int .u8 1, .bool false, .bool false, .slice none 0 0, .int .u32 0]
  have hb0 : Below w.heap.size w (w.alloc (.cells #[.int .u8 0, .int .u32 1, .int .u32 167772160, .int .u8 24, .int .u32 167772161, .int .u8 2, .int .u16 10, .int .u32 40, .int .u16 0, .int .u8 1, .bool false, .bool false, .slice none 0 0, .int .u32 0] 83)) := (Below.refl _ _).alloc (Nat.le_refl _) _
  have HB0 := Lib.hid hb0
  have K1 := Lib.hid k1
  clear hb0 k1
  have q0 := later_cell (v := .int .u8 0) (B := w.heap.size + 1) (w0 := (w.alloc (.cells #[.int .u8 0, .int .u32 1, .int .u32 167772160, .int .u8 24, .int .u32 167772161, .int .u8 2, .int .u16 10, .int .u32 40, .int .u16 0, .int .u8 1, .bool false, .bool false, .slice none 0 0, .int .u32 0] 83))) (p := ⟨w.heap.size, 0, none⟩) (by simp) (K1.out.cell 0)
  have q1 := later_cell (v := .int .u32 1) (B := w.heap.size + 1) (w0 := (w.alloc (.cells #[.int .u8 0, .int .u32 1, .int .u32 167772160, .int .u8 24, .int .u32 167772161, .int .u8 2, .int .u16 10, .int .u32 40, .int .u16 0, .int .u8 1, .bool false, .bool false, .slice none 0 0, .int .u32 0] 83))) (p := ⟨w.heap.size, 1, none⟩) (by simp) (K1.out.cell 1)
  have q2 := later_cell (v := .int .u32 167772160) (B := w.heap.size + 1) (w0 := (w.alloc (.cells #[.int .u8 0, .int .u32 1, .int .u32 167772160, .int .u8 24, .int .u32 167772161, .int .u8 2, .int .u16 10, .int .u32 40, .int .u16 0, .int .u8 1, .bool false, .bool false, .slice none 0 0, .int .u32 0] 83))) (p := ⟨w.heap.size, 2, none⟩) (by simp) (K1.out.cell 2)
  have q3 := later_cell (v := .int .u8 24) (B := w.heap.size + 1) (w0 := (w.alloc (.cells #[.int .u8 0, .int .u32 1, .int .u32 167772160, .int .u8 24, .int .u32 167772161, .int .u8 2, .int .u16 10, .int .u32 40, .int .u16 0, .int .u8 1, .bool false, .bool false, .slice none 0 0, .int .u32 0] 83))) (p := ⟨w.heap.size, 3, none⟩) (by simp) (K1.out.cell 3)
  have q4 := later_cell (v := .int .u32 167772161) (B := w.heap.size + 1) (w0 := (w.alloc (.cells #[.int .u8 0, .int .u32 1, .int .u32 167772160, .int .u8 24, .int .u32 167772161, .int .u8 2, .int .u16 10, .int .u32 40, .int .u16 0, .int .u8 1, .bool false, .bool false, .slice none 0 0, .int .u32 0] 83))) (p := ⟨w.heap.size, 4, none⟩) (by simp) (K1.out.cell 4)
  have q5 := later_cell (v := .int .u8 2) (B := w.heap.size + 1) (w0 := (w.alloc (.cells #[.int .u8 0, .int .u32 1, .int .u32 167772160, .int .u8 24, .int .u32 167772161, .int .u8 2, .int .u16 10, .int .u32 40, .int .u16 0, .int .u8 1, .bool false, .bool false, .slice none 0 0, .int .u32 0] 83))) (p := ⟨w.heap.size, 5, none⟩) (by simp) (K1.out.cell 5)
  have q6 := later_cell (v := .int .u16 10) (B := w.heap.size + 1) (w0 := (w.alloc (.cells #[.int .u8 0, .int .u32 1, .int .u32 167772160, .int .u8 24, .int .u32 167772161, .int .u8 2, .int .u16 10, .int .u32 40, .int .u16 0, .int .u8 1, .bool false, .bool false, .slice none 0 0, .int .u32 0] 83))) (p := ⟨w.heap.size, 6, none⟩) (by simp) (K1.out.cell 6)
  have q7 := later_cell (v := .int .u32 40) (B := w.heap.size + 1) (w0 := (w.alloc (.cells #[.int .u8 0, .int .u32 1, .int .u32 167772160, .int .u8 24, .int .u32 167772161, .int .u8 2, .int .u16 10, .int .u32 40, .int .u16 0, .int .u8 1, .bool false, .bool false, .slice none 0 0, .int .u32 0] 83))) (p := ⟨w.heap.size, 7, none⟩) (by simp) (K1.out.cell 7)
  have q8 := later_cell (v := .int .u16 0) (B := w.heap.size + 1) (w0 := (w.alloc (.cells #[.int .u8 0, .int .u32 1, .int .u32 167772160, .int .u8 24, .int .u32 167772161, .int .u8 2, .int .u16 10, .int .u32 40, .int .u16 0, .int .u8 1, .bool false, .bool false, .slice none 0 0, .int .u32 0] 83))) (p := ⟨w.heap.size, 8, none⟩) (by simp) (K1.out.cell 8)
  have q9 := later_cell (v := .int .u8 1) (B := w.heap.size + 1) (w0 := (w.alloc (.cells #[.int .u8 0, .int .u32 1, .int .u32 167772160, .int .u8 24, .int .u32 167772161, .int .u8 2, .int .u16 10, .int .u32 40, .int .u16 0, .int .u8 1, .bool false, .bool false, .slice none 0 0, .int .u32 0] 83))) (p := ⟨w.heap.size, 9, none⟩) (by simp) (K1.out.cell 9)
  have q10 := later_cell (v := .bool false) (B := w.heap.size + 1) (w0 := (w.alloc (.cells #[.int .u8 0, .int .u32 1, .int .u32 167772160, .int .u8 24, .int .u32 167772161, .int .u8 2, .int .u16 10, .int .u32 40, .int .u16 0, .int .u8 1, .bool false, .bool false, .slice none 0 0, .int .u32 0] 83))) (p := ⟨w.heap.size, 10, none⟩) (by simp) (K1.out.cell 10)
  have q11 := later_cell (v := .bool false) (B := w.heap.size + 1) (w0 := (w.alloc (.cells #[.int .u8 0, .int .u32 1, .int .u32 167772160, .int .u8 24, .int .u32 167772161, .int .u8 2, .int .u16 10, .int .u32 40, .int .u16 0, .int .u8 1, .bool false, .bool false, .slice none 0 0, .int .u32 0] 83))) (p := ⟨w.heap.size, 11, none⟩) (by simp) (K1.out.cell 11)
  have q12 := later_cell (v := .slice none 0 0) (B := w.heap.size + 1) (w0 := (w.alloc (.cells #[.int .u8 0, .int .u32 1, .int .u32 167772160, .int .u8 24, .int .u32 167772161, .int .u8 2, .int .u16 10, .int .u32 40, .int .u16 0, .int .u8 1, .bool false, .bool false, .slice none 0 0, .int .u32 0] 83))) (p := ⟨w.heap.size, 12, none⟩) (by simp) (K1.out.cell 12)
  have q13 := later_cell (v := .int .u32 0) (B := w.heap.size + 1) (w0 := (w.alloc (.cells #[.int .u8 0, .int .u32 1, .int .u32 167772160, .int .u8 24, .int .u32 167772161, .int .u8 2, .int .u16 10, .int .u32 40, .int .u16 0, .int .u8 1, .bool false, .bool false, .slice none 0 0, .int .u32 0] 83))) (p := ⟨w.heap.size, 13, none⟩) (by simp) (K1.out.cell 13)
  have d1 : Hid (∀ u : Later (w.heap.size + 1) (w.alloc (.cells #[.int .u8 0, .int .u32 1, .int .u32 167772160, .int .u8 24, .int .u32 167772161, .int .u8 2, .int .u16 10, .int .u32 40, .int .u16 0, .int .u8 1, .bool false, .bool false, .slice none 0 0, .int .u32 0] 83)), Calls Try.prog 63 #[.agg #[.int .u8 0, .int .u32 1, .int .u32 167772160, .int .u8 24, .int .u32 167772161, .int .u8 2, .int .u16 10, .int .u32 40, .int .u16 0, .int .u8 1, .bool false, .bool false, .slice none 0 0, .int .u32 0]] u.to fun e w' => e = .returned (.bool false) ∧ Below u.to.heap.size u.to w') := Lib.hid (fun u => peers13 u.to)
  have d2 : Hid (∀ u : Later (w.heap.size + 1) (w.alloc (.cells #[.int .u8 0, .int .u32 1, .int .u32 167772160, .int .u8 24, .int .u32 167772161, .int .u8 2, .int .u16 10, .int .u32 40, .int .u16 0, .int .u8 1, .bool false, .bool false, .slice none 0 0, .int .u32 0] 83)), Calls Try.prog 64 #[.agg #[.int .u8 0, .int .u32 1, .int .u32 167772160, .int .u8 24, .int .u32 167772161, .int .u8 2, .int .u16 10, .int .u32 40, .int .u16 0, .int .u8 1, .bool false, .bool false, .slice none 0 0, .int .u32 0]] u.to fun e w' => e = .returned (.bool true) ∧ Below u.to.heap.size u.to w') := Lib.hid (fun u => peersMay13 u.to)
  unfold lcfg
  go_enter Try.func31, Try.ntmps31
  go_wp2_with fail
  refine wp_region_later (B := w.heap.size + 1) (w0 := (w.alloc (.cells #[.int .u8 0, .int .u32 1, .int .u32 167772160, .int .u8 24, .int .u32 167772161, .int .u8 2, .int .u16 10, .int .u32 40, .int .u16 0, .int .u8 1, .bool false, .bool false, .slice none 0 0, .int .u32 0] 83))) (by kernel_rfl) (by kernel_rfl) (Below.refl _ _) ?_
  repeat (go_big_quiet_step (first
    | (go_at_call 63; with_reducible exact later_call _ (by simp) (d1.out _))
    | (go_at_call 64; with_reducible exact later_call _ (by simp) (d2.out _))))
  refine wpQuiet_nil ?_
  rintro wx ⟨⟨wy, hwy⟩, hwe⟩
  obtain rfl : wx = wy := hwe
  have kx : Blk wx w.heap.size 83 #[.int .u8 0, .int .u32 1, .int .u32 167772160, .int .u8 24, .int .u32 167772161, .int .u8 2, .int .u16 10, .int .u32 40, .int .u16 0, .int .u8 1, .bool false, .bool false, .slice none 0 0, .int .u32 0] := K1.out.below hwy (by simp)
  have hbx : Below w.heap.size w wx := HB0.out.trans (hwy.mono (by omega))
  have x0 : wx.cell? ⟨w.heap.size, 0, none⟩ = some (.int .u8 0) := kx.cell 0
  have x1 : wx.cell? ⟨w.heap.size, 1, none⟩ = some (.int .u32 1) := kx.cell 1
  have x2 : wx.cell? ⟨w.heap.size, 2, none⟩ = some (.int .u32 167772160) := kx.cell 2
  have x3 : wx.cell? ⟨w.heap.size, 3, none⟩ = some (.int .u8 24) := kx.cell 3
  have x4 : wx.cell? ⟨w.heap.size, 4, none⟩ = some (.int .u32 167772161) := kx.cell 4
  have x5 : wx.cell? ⟨w.heap.size, 5, none⟩ = some (.int .u8 2) := kx.cell 5
  have x6 : wx.cell? ⟨w.heap.size, 6, none⟩ = some (.int .u16 10) := kx.cell 6
  have x7 : wx.cell? ⟨w.heap.size, 7, none⟩ = some (.int .u32 40) := kx.cell 7
  have x8 : wx.cell? ⟨w.heap.size, 8, none⟩ = some (.int .u16 0) := kx.cell 8
  have x9 : wx.cell? ⟨w.heap.size, 9, none⟩ = some (.int .u8 1) := kx.cell 9
  have x10 : wx.cell? ⟨w.heap.size, 10, none⟩ = some (.bool false) := kx.cell 10
  have x11 : wx.cell? ⟨w.heap.size, 11, none⟩ = some (.bool false) := kx.cell 11
  have x12 : wx.cell? ⟨w.heap.size, 12, none⟩ = some (.slice none 0 0) := kx.cell 12
  have x13 : wx.cell? ⟨w.heap.size, 13, none⟩ = some (.int .u32 0) := kx.cell 13
  have HKx := Lib.hid kx
  have HBx := Lib.hid hbx
  clear kx hbx hwy q0 q1 q2 q3 q4 q5 q6 q7 q8 q9 q10 q11 q12 q13 d1 d2
  go_wp2_with fail
  refine (check24 _).mono ?_
  rintro e w3 ⟨rfl, hb3⟩
  have k3 := HKx.out.below hb3 HKx.out.lt
  have y0 : w3.cell? ⟨w.heap.size, 0, none⟩ = some (.int .u8 0) := k3.cell 0
  have y1 : w3.cell? ⟨w.heap.size, 1, none⟩ = some (.int .u32 1) := k3.cell 1
  have y2 : w3.cell? ⟨w.heap.size, 2, none⟩ = some (.int .u32 167772160) := k3.cell 2
  have y3 : w3.cell? ⟨w.heap.size, 3, none⟩ = some (.int .u8 24) := k3.cell 3
  have y4 : w3.cell? ⟨w.heap.size, 4, none⟩ = some (.int .u32 167772161) := k3.cell 4
  have y5 : w3.cell? ⟨w.heap.size, 5, none⟩ = some (.int .u8 2) := k3.cell 5
  have y6 : w3.cell? ⟨w.heap.size, 6, none⟩ = some (.int .u16 10) := k3.cell 6
  have y7 : w3.cell? ⟨w.heap.size, 7, none⟩ = some (.int .u32 40) := k3.cell 7
  have y8 : w3.cell? ⟨w.heap.size, 8, none⟩ = some (.int .u16 0) := k3.cell 8
  have y9 : w3.cell? ⟨w.heap.size, 9, none⟩ = some (.int .u8 1) := k3.cell 9
  have y10 : w3.cell? ⟨w.heap.size, 10, none⟩ = some (.bool false) := k3.cell 10
  have y11 : w3.cell? ⟨w.heap.size, 11, none⟩ = some (.bool false) := k3.cell 11
  have y12 : w3.cell? ⟨w.heap.size, 12, none⟩ = some (.slice none 0 0) := k3.cell 12
  have y13 : w3.cell? ⟨w.heap.size, 13, none⟩ = some (.int .u32 0) := k3.cell 13
  have HK3 := Lib.hid k3
  have HB3 := Lib.hid (HBx.out.trans (hb3.mono HBx.out.size))
  clear k3 hb3 x0 x1 x2 x3 x4 x5 x6 x7 x8 x9 x10 x11 x12 x13
  go_wp2_with fail
  refine (has24 167772161 _ and1).mono ?_
  rintro e w4 ⟨rfl, hb4⟩
  have k4 := HK3.out.below hb4 HK3.out.lt
  have f4 := k4.frozen
  have z0 : w4.cell? ⟨w.heap.size, 0, none⟩ = some (.int .u8 0) := k4.cell 0
  have z1 : w4.cell? ⟨w.heap.size, 1, none⟩ = some (.int .u32 1) := k4.cell 1
  have z2 : w4.cell? ⟨w.heap.size, 2, none⟩ = some (.int .u32 167772160) := k4.cell 2
  have z3 : w4.cell? ⟨w.heap.size, 3, none⟩ = some (.int .u8 24) := k4.cell 3
  have z4 : w4.cell? ⟨w.heap.size, 4, none⟩ = some (.int .u32 167772161) := k4.cell 4
  have z5 : w4.cell? ⟨w.heap.size, 5, none⟩ = some (.int .u8 2) := k4.cell 5
  have z6 : w4.cell? ⟨w.heap.size, 6, none⟩ = some (.int .u16 10) := k4.cell 6
  have z7 : w4.cell? ⟨w.heap.size, 7, none⟩ = some (.int .u32 40) := k4.cell 7
  have z8 : w4.cell? ⟨w.heap.size, 8, none⟩ = some (.int .u16 0) := k4.cell 8
  have z9 : w4.cell? ⟨w.heap.size, 9, none⟩ = some (.int .u8 1) := k4.cell 9
  have z10 : w4.cell? ⟨w.heap.size, 10, none⟩ = some (.bool false) := k4.cell 10
  have z11 : w4.cell? ⟨w.heap.size, 11, none⟩ = some (.bool false) := k4.cell 11
  have z12 : w4.cell? ⟨w.heap.size, 12, none⟩ = some (.slice none 0 0) := k4.cell 12
  have z13 : w4.cell? ⟨w.heap.size, 13, none⟩ = some (.int .u32 0) := k4.cell 13
  have HK4 := Lib.hid k4
  have HB4 := Lib.hid (HB3.out.trans (hb4.mono HB3.out.size))
  clear k4 hb4 y0 y1 y2 y3 y4 y5 y6 y7 y8 y9 y10 y11 y12 y13
  go_wp2_with fail
  refine bodyPost_ret (v := .tuple #[.pointer (some ⟨w4.heap.size, 0, none⟩), .int .i64 0]) (by simp [results, Try.results31, go_sem]) rfl ⟨_, rfl, HB4.out.size, ?_, ?_⟩
  · have := Blk.new (w4.setCell ⟨w.heap.size, 12, none⟩ (.slice none 0 0)) 119 lnew
    rw [show (w4.setCell ⟨w.heap.size, 12, none⟩ (.slice none 0 0)).heap.size = w4.heap.size from by simp [World.setCell]] at this
    exact this
  · exact (HB4.out.setCell (p := ⟨w.heap.size, 12, none⟩) (Nat.le_refl _) _).alloc (by have := HB4.out.size; simp [World.setCell]; omega) _
end Go.Proofs.Ytgbmhijgpdgdbaa
namespace Go.Proofs.Ytgbmhijgpdgdbaa
open Go.RowKit
def lk (st wt nx : Int) (l : Value) : Array Value := #[.bool true, .int .u8 0, .int .u32 1, .int .u32 167772160, .int .u8 24, .int .u32 167772161, .int .u8 2, .int .u16 10, .int .u32 40, .int .u16 0, .int .u8 1, .bool false, .bool false, .slice none 0 0, .int .u32 0, .int .u8 st, .int .u32 0, .int .u32 0, .int .u32 wt, .int .u32 nx, .int .u32 0, .int .u32 0, l]
theorem none_lk (w : World) (B : Nat) (cs : Array Value) (k : Blk w B 119 cs) (h0 : cs[0]? = some (.bool true)) : Calls Try.prog 67 #[.pointer (some ⟨B, 0, none⟩)] w fun e w' => e = .returned (.bool false) ∧ w = w' := by
  have c0 : w.cell? ⟨B, 0, none⟩ = some (.bool true) := (k.cell 0).trans h0
  go_enter Try.func67, Try.ntmps67
  go_wp2
  go_ret
  exact ⟨rfl, rfl⟩
theorem mask_lk (w : World) (B : Nat) (cs : Array Value) (k : Blk w B 119 cs) (h1 : cs[1]? = some (.int .u8 0)) (h4 : cs[4]? = some (.int .u8 24)) : Calls Try.prog 107 #[.pointer (some ⟨B, 0, none⟩)] w fun e w' => e = .returned (.int .u32 4294967040) ∧ w = w' := by
  have c1 : w.cell? ⟨B, 1, none⟩ = some (.int .u8 0) := (k.cell 1).trans h1
  have c4 : w.cell? ⟨B, 4, none⟩ = some (.int .u8 24) := (k.cell 4).trans h4
  clear k
  go_enter Try.func107, Try.ntmps107
  go_wp2_with (go_at_call 102; refine (mask24 _).mono ?_; rintro e w' ⟨rfl, rfl⟩)
  go_ret
  exact ⟨rfl, rfl⟩
theorem set8r {w w0 : World} {b N : Nat} {t : TypeId} {z0 z1 z2 z3 z4 z5 z6 z7 v0 v1 v2 v3 v4 v5 v6 v7 : Value} (h : Blk w b t #[z0, z1, z2, z3, z4, z5, z6, z7]) (hb : Below N w0 w) (hN : N ≤ b) :
    Blk ((((((((w.setCell ⟨b, 0, none⟩ v0).setCell ⟨b, 1, none⟩ v1).setCell ⟨b, 2, none⟩ v2).setCell ⟨b, 3, none⟩ v3).setCell ⟨b, 4, none⟩ v4).setCell ⟨b, 5, none⟩ v5).setCell ⟨b, 6, none⟩ v6).setCell ⟨b, 7, none⟩ v7) b t #[v0, v1, v2, v3, v4, v5, v6, v7] ∧ Below N w0 ((((((((w.setCell ⟨b, 0, none⟩ v0).setCell ⟨b, 1, none⟩ v1).setCell ⟨b, 2, none⟩ v2).setCell ⟨b, 3, none⟩ v3).setCell ⟨b, 4, none⟩ v4).setCell ⟨b, 5, none⟩ v5).setCell ⟨b, 6, none⟩ v6).setCell ⟨b, 7, none⟩ v7) := by
  constructor
  · have k0 := h.set_ 0 v0
    have k1 := k0.set_ 1 v1
    have k2 := k1.set_ 2 v2
    have k3 := k2.set_ 3 v3
    have k4 := k3.set_ 4 v4
    have k5 := k4.set_ 5 v5
    have k6 := k5.set_ 6 v6
    have k7 := k6.set_ 7 v7
    simpa using k7
  · exact (((((((hb.setCell hN _).setCell hN _).setCell hN _).setCell hN _).setCell hN _).setCell hN _).setCell hN _).setCell hN _
theorem heap_far {W : World} {D b : Nat} (i : Nat) (u : Value) (h : b < D) : (W.setCell ⟨b, i, none⟩ u).heap[D]? = W.heap[D]? := Below.heap_setCell W ⟨b, i, none⟩ u D (by simp; omega)
theorem below_put {N D : Nat} {W : World} {o o' : Obj} (h : W.heap[D]? = some o) (hN : N ≤ D) : Below N W (W.putObj D o') := by
  have hl := (Array.getElem?_eq_some_iff.1 h).1
  exact (Below.refl N W).grown (grownBy_putObj' W D o') (by omega) (fun k e => by cases e; omega)
def hv13 : Value := .agg #[.int .u32 4294967040, .int .u16 10, .int .u8 2, .int .u8 1, .int .u32 40, .int .u32 0, .int .u32 0, .slice none 0 0]
theorem hello_lk (w : World) (B : Nat) (st wt nx : Int) (k : Blk w B 119 (lk st wt nx (.slice none 0 0))) :
    Calls Try.prog 74 #[.pointer (some ⟨B, 0, none⟩)] w fun e w' => e = .returned hv13 ∧ Below w.heap.size w w' := by
  have K := Lib.hid k
  have c1 : w.cell? ⟨B, 1, none⟩ = some (.int .u8 0) := k.cell 1
  have c4 : w.cell? ⟨B, 4, none⟩ = some (.int .u8 24) := k.cell 4
  have c6 : w.cell? ⟨B, 6, none⟩ = some (.int .u8 2) := k.cell 6
  have c7 : w.cell? ⟨B, 7, none⟩ = some (.int .u16 10) := k.cell 7
  have c8 : w.cell? ⟨B, 8, none⟩ = some (.int .u32 40) := k.cell 8
  have c10 : w.cell? ⟨B, 10, none⟩ = some (.int .u8 1) := k.cell 10
  have c11 : w.cell? ⟨B, 11, none⟩ = some (.bool false) := k.cell 11
  have c16 : w.cell? ⟨B, 16, none⟩ = some (.int .u32 0) := k.cell 16
  have c17 : w.cell? ⟨B, 17, none⟩ = some (.int .u32 0) := k.cell 17
  have hlt : B < w.heap.size := k.lt
  clear k
  refine (callsIn_wide (n := 3)).1 ?_
  refine callsIn_of_wp_marks Try.func74 rfl trivial ?_ rfl
  rw [wpIn_wide]
  simp only [Try.ntmps74, List.size_toArray, List.length_cons, List.length_nil, Nat.reduceAdd, Nat.reduceSub, Array.replicate_succ, Array.replicate_zero, List.push_toArray, List.append_toArray, List.nil_append, List.cons_append]
  go_wp2_with fail
  go_cut [3] from 5 to 35 (fun p3 wx => ∃ H : Nat, p3 = .pointer (some ⟨H, 0, none⟩) ∧ Blk wx H 90 #[.int .u32 4294967040, .int .u16 10, .int .u8 2, .int .u8 1, .int .u32 40, .int .u32 0, .int .u32 0, .slice none 0 0] ∧ w.heap.size < H ∧ Below (w.heap.size + 1) (w.alloc (.cells #[.int .u32 0, .int .u16 0, .int .u8 0, .int .u8 0, .int .u32 0, .int .u32 0, .int .u32 0, .slice none 0 0] 90)) wx)
  case first =>
    go_region_held3 (fun w' => w'.cell? ⟨B, 1, none⟩ = some (.int .u8 0) ∧ w'.cell? ⟨B, 4, none⟩ = some (.int .u8 24) ∧ w'.cell? ⟨B, 6, none⟩ = some (.int .u8 2) ∧ w'.cell? ⟨B, 7, none⟩ = some (.int .u16 10) ∧ w'.cell? ⟨B, 8, none⟩ = some (.int .u32 40) ∧ w'.cell? ⟨B, 10, none⟩ = some (.int .u8 1) ∧ w'.cell? ⟨B, 16, none⟩ = some (.int .u32 0) ∧ w'.cell? ⟨B, 17, none⟩ = some (.int .u32 0))
      (go_keep)
      ((go_at_call 107; refine (mask_lk _ _ (lk st wt nx (.slice none 0 0)) (by first | with_reducible exact (K.out.alloc _).drew | with_reducible exact ((K.out.alloc _).alloc _).drew) rfl rfl).mono ?_; rintro e w' ⟨rfl, rfl⟩))
    all_goals clear c1 c4 c6 c7 c8 c10 c16 c17
    all_goals
      go_wp2_with fail
      go_meet
      case rel =>
        refine ⟨_, rfl, ?_, by omega, ?_⟩
        · have := (Blk.new (w.alloc (.cells #[.int .u32 0, .int .u16 0, .int .u8 0, .int .u8 0, .int .u32 0, .int .u32 0, .int .u32 0, .slice none 0 0] 90)) 90 #[.int .u32 4294967040, .int .u16 10, .int .u8 2, .int .u8 1, .int .u32 40, .int .u32 0, .int .u32 0, .slice none 0 0]).drew
          rw [World.size_alloc] at this
          exact this
        · exact ((Below.refl _ _).alloc (by simp) _).drew
  obtain ⟨H, rfl, hH, hHl, hb⟩ := hcut
  have hbw : Below w.heap.size w wc := ((Below.refl _ w).alloc (Nat.le_refl _) _).trans (hb.mono (by omega))
  have kL := K.out.below hbw hlt
  have d11 : wc.cell? ⟨B, 11, none⟩ = some (.bool false) := kL.cell 11
  have HbW := Lib.hid hbw
  have KR := Lib.hid ((Blk.new w 90 #[.int .u32 0, .int .u16 0, .int .u8 0, .int .u8 0, .int .u32 0, .int .u32 0, .int .u32 0, .slice none 0 0]).below hb (by omega))
  have KL := Lib.hid kL
  have KH := Lib.hid hH
  have hsz : w.heap.size ≤ wc.heap.size := hbw.size
  clear c1 c4 c6 c7 c8 c10 c11 c16 c17 hbw kL hH
  go_wp2_with fail
  refine (all_made _ _ _ ⟨_, rfl⟩ ⟨_, _, _, rfl⟩).mono ?_
  rintro e w2 ⟨rfl, hb2, g1, g2⟩
  have h2l : wc.heap.size + 1 < w2.heap.size := lt_of_cell g2
  have K2 := Lib.hid (KL.out.below hb2 KL.out.lt)
  have H2 := Lib.hid (KH.out.below hb2 KH.out.lt)
  have R2 := Lib.hid (KR.out.below hb2 KR.out.lt)
  have HB2 := Lib.hid (HbW.out.trans (hb2.mono hsz))
  have hHc : H < wc.heap.size := KH.out.lt
  clear hb2
  go_wp2_with fail
  refine wp_rangeFunc_none rfl enters_all1 (fun l W hW => ?_) (fun D W hD hB hK => ?_)
  · refine all_nil W _ _ B l ?_ ?_
    · exact (hW.cell (p := ⟨wc.heap.size, 0, none⟩) (by simp; omega)).trans g1
    · exact (K2.out.below hW K2.out.lt).cell 22
  have KD := Lib.hid (K2.out.below hB K2.out.lt)
  have HD := Lib.hid (H2.out.below hB H2.out.lt)
  have HBD := Lib.hid (HB2.out.trans (hB.mono HB2.out.size))
  have y0 : W.cell? ⟨H, 0, none⟩ = some (.int .u32 4294967040) := HD.out.cell 0
  have y1 : W.cell? ⟨H, 1, none⟩ = some (.int .u16 10) := HD.out.cell 1
  have y2 : W.cell? ⟨H, 2, none⟩ = some (.int .u8 2) := HD.out.cell 2
  have y3 : W.cell? ⟨H, 3, none⟩ = some (.int .u8 1) := HD.out.cell 3
  have y4 : W.cell? ⟨H, 4, none⟩ = some (.int .u32 40) := HD.out.cell 4
  have y5 : W.cell? ⟨H, 5, none⟩ = some (.int .u32 0) := HD.out.cell 5
  have y6 : W.cell? ⟨H, 6, none⟩ = some (.int .u32 0) := HD.out.cell 6
  have y7 : W.cell? ⟨H, 7, none⟩ = some (.slice none 0 0) := HD.out.cell 7
  have RD := Lib.hid (R2.out.below hB R2.out.lt)
  have z0 : W.cell? ⟨w.heap.size, 0, none⟩ = some (.int .u32 0) := RD.out.cell 0
  have z1 : W.cell? ⟨w.heap.size, 1, none⟩ = some (.int .u16 0) := RD.out.cell 1
  have z2 : W.cell? ⟨w.heap.size, 2, none⟩ = some (.int .u8 0) := RD.out.cell 2
  have z3 : W.cell? ⟨w.heap.size, 3, none⟩ = some (.int .u8 0) := RD.out.cell 3
  have z4 : W.cell? ⟨w.heap.size, 4, none⟩ = some (.int .u32 0) := RD.out.cell 4
  have z5 : W.cell? ⟨w.heap.size, 5, none⟩ = some (.int .u32 0) := RD.out.cell 5
  have z6 : W.cell? ⟨w.heap.size, 6, none⟩ = some (.int .u32 0) := RD.out.cell 6
  have z7 : W.cell? ⟨w.heap.size, 7, none⟩ = some (.slice none 0 0) := RD.out.cell 7
  have fz := RD.out.frozen
  have hws : w.heap.size < W.heap.size := by have := HD.out.lt; omega
  clear hB
  go_wp2_with fail
  obtain ⟨W2, hW2⟩ : ∃ W2, W2 = ((((((((W.setCell ⟨w.heap.size, 0, none⟩ (.int .u32 4294967040)).setCell ⟨w.heap.size, 1, none⟩ (.int .u16 10)).setCell ⟨w.heap.size, 2, none⟩ (.int .u8 2)).setCell ⟨w.heap.size, 3, none⟩ (.int .u8 1)).setCell ⟨w.heap.size, 4, none⟩ (.int .u32 40)).setCell ⟨w.heap.size, 5, none⟩ (.int .u32 0)).setCell ⟨w.heap.size, 6, none⟩ (.int .u32 0)).setCell ⟨w.heap.size, 7, none⟩ (.slice none 0 0)) := ⟨_, rfl⟩
  rw [← hW2]
  obtain ⟨k8, b8⟩ := set8r (N := w.heap.size) (v0 := .int .u32 4294967040) (v1 := .int .u16 10) (v2 := .int .u8 2) (v3 := .int .u8 1) (v4 := .int .u32 40) (v5 := .int .u32 0) (v6 := .int .u32 0) (v7 := .slice none 0 0) RD.out HBD.out (Nat.le_refl _)
  rw [← hW2] at k8 b8
  have hD0 : w2.heap.size ≤ D := hD
  have hDw : w.heap.size < D := by have := HbW.out.size; omega
  have hK2 : W2.heap[D]? = some (.deferred (some [])) := by
    rw [hW2]
    rw [heap_far _ _ hDw, heap_far _ _ hDw, heap_far _ _ hDw, heap_far _ _ hDw, heap_far _ _ hDw, heap_far _ _ hDw, heap_far _ _ hDw, heap_far _ _ hDw]
    exact hK
  refine ⟨by simp, .inl ⟨_, _, rfl, run_takeDeferred hK2, ?_⟩⟩
  have k9 := k8.grown (grownBy_putObj' W2 D (.deferred none)) (by simp; omega)
  have u0 := (k9.cell 0).trans rfl
  have u1 := (k9.cell 1).trans rfl
  have u2 := (k9.cell 2).trans rfl
  have u3 := (k9.cell 3).trans rfl
  have u4 := (k9.cell 4).trans rfl
  have u5 := (k9.cell 5).trans rfl
  have u6 := (k9.cell 6).trans rfl
  have u7 := (k9.cell 7).trans rfl
  refine ⟨hv13, ?_, rfl, b8.trans (below_put hK2 (by omega))⟩
  simp [results, Try.f74, go_sem, hv13, u0, u1, u2, u3, u4, u5, u6, u7]
end Go.Proofs.Ytgbmhijgpdgdbaa
