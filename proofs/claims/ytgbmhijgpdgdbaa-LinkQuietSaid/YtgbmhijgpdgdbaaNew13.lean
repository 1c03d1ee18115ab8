/- The link of 'works' is made. -/
import Derived.Test.YtgbmhijgpdgdbaaPlain13
import Derived.Test.YtgbmhijgpdgdbaaPrefix13
namespace Go.Proofs.Ytgbmhijgpdgdbaa
open Go.RowKit

/-- The link of 'works', new. -/
def lnew : Array Value := #[.bool true, .int .u8 0, .int .u32 1, .int .u32 167772160, .int .u8 24, .int .u32 167772161, .int .u8 2, .int .u16 10, .int .u32 40, .int .u16 0, .int .u8 1, .bool false, .bool false, .slice none 0 0, .int .u32 0, .int .u8 0, .int .u32 0, .int .u32 0, .int .u32 0, .int .u32 0, .int .u32 0, .int .u32 0, .slice none 0 0]

def New13Post (w : World) (e : Ending) (w' : World) : Prop := ∃ B, e = .returned (.tuple #[.pointer (some ⟨B, 0, none⟩), .int .i64 0]) ∧ w.heap.size ≤ B ∧ Blk w' B 119 lnew ∧ Below w.heap.size w w'

set_option maxHeartbeats 2000000 in
set_option maxRecDepth 20000 in
theorem new13 (w : World) : Calls Try.prog 31 #[lcfg] w fun e w' => New13Post w e w' := by
  have k1 := Blk.new w 83 #[.int .u8 0, .int .u32 1, .int .u32 167772160, .int .u8 24, .int .u32 167772161, .int .u8 2, .int .u16 10, .int .u32 40, .int .u16 0, .int .u8 1, .bool false, .bool false, .slice none 0 0, .int .u32 0]
  have hb0 : Below w.heap.size w (w.alloc (.cells #[.int .u8 0, .int .u32 1, .int .u32 167772160, .int .u8 24, .int .u32 167772161, .int .u8 2, .int .u16 10, .int .u32 40, .int .u16 0, .int .u8 1, .bool false, .bool false, .slice none 0 0, .int .u32 0] 83)) := (Below.refl _ _).alloc (Nat.le_refl _) _
  have HB0 := Lib.hid hb0
  have K1 := Lib.hid k1
  clear hb0 k1
  have q0 := later_cell (v := .int .u8 0) (B := w.heap.size + 1) (w0 := (w.alloc (.cells #[.int .u8 0, .int .u32 1, .int .u32 167772160, .int .u8 24, .int .u32 167772161, .int .u8 2, .int .u16 10, .int .u32 40, .int .u16 0, .int .u8 1, .bool false, .bool false, .slice none 0 0, .int .u32 0] 83))) (p := ⟨w.heap.size, 0, none⟩) (by simp) (K1.out.cell 0)
  have q1 := later_cell (v := .int .u32 1) (B := w.heap.size + 1) (w0 := (w.alloc (.cells #[.int .u8 0, .int .u32 1, .int .u32 167772160, .int .u8 24, .int .u32 167772161, .int .u8 2, .int .u16 10, .int .u32 40, .int .u16 0, .int .u8 1, .bool false, .bool false, .slice none 0 0, .int .u32 0] 83))) (p := ⟨w.heap.size, 1, none⟩) (by simp) (K1.out.cell 1)
  have q2 := later_cell (v := .int .u32 167772160) (B := w.heap.size + 1) (w0 := (w.alloc (.cells #[.int .u8 0, .int .u32 1, .int .u32 167772160, .int .u8 24, .int .u32 167772161, .int .u8 2, .int .u16 10, .int .u32 40, .int .u16 0, .int .u8 1, .bool false, .bool false, .slice none 0 0, .int .u32 0] 83))) (p := ⟨w.heap.size, 2, none⟩) (by simp) (K1.out.cell 2)
  have q3 := later_cell (v := .int .u8 24) (B := w.heap.size + 1) (w0 := (w.alloc (.cells #[.int .u8 0, .int .u32 1, .int .u32 167772160, .int .u8 24, .int .u32 167772161, .int .u8 2, .int .u16 10, .int .u32 40, .int .u16 0, .int .u8 1, .bool false, .bool false, .slice none 0 0, .int .u32 0] 83))) (p := ⟨w.heap.size, 3, none⟩) (by simp) (K1.out.cell 3)
  have q4 := later_cell (v := .int .u32 167772161) (B := w.heap.size + 1) (w0 := (w.alloc (.cells #[.int .u8 0, .int .u32 1, .int .u32 167772160, .int .u8 24, .int .u32 167772161, .int .u8 2, .int .u16 10, .int .u32 40, .int .u16 0, .int .u8 1, .bool false, .bool false, .slice none 0 0, .int .u32 0] 83))) (p := ⟨w.heap.size, 4, none⟩) (by simp) (K1.out.cell 4)
  have q5 := later_cell (v := .int .u8 2) (B := w.heap.size + 1) (w0 := (w.alloc (.cells #[.int .u8 0, .int .u32 1, .int .u32 167772160, .int .u8 24, .int .u32 167772161, .int .u8 2, .int .u16 10, .int .u32 40, .int .u16 0, .int .u8 1, .bool false, .bool false, .slice none 0 0, .int .u32 0] 83))) (p := ⟨w.heap.size, 5, none⟩) (by simp) (K1.out.cell 5)
  have q6 := later_cell (v := .int .u16 10) (B := w.heap.size + 1) (w0 := (w.alloc (.cells #[.int .u8 0, .int .u32 1, .int .u32 167772160, .int .u8 24, .int .u32 167772161, .int .u8 2, .int .u16 10, .int .u32 40, .int .u16 0, .int .u8 1, .bool false, .bool false, .slice none 0 0, .int .u32 0] 83))) (p := ⟨w.heap.size, 6, none⟩) (by simp) (K1.out.cell 6)
  have q7 := later_cell (v := .int .u32 40) (B := w.heap.size + 1) (w0 := (w.alloc (.cells #[.int .u8 0, .int .u32 1, .int .u32 167772160, .int .u8 24, .int .u32 167772161, .int .u8 2, .int .u16 10, .int .u32 40, .int .u16 0, .int .u8 1, .bool false, .bool false, .slice none 0 0, .int .u32 0] 83))) (p := ⟨w.heap.size, 7, none⟩) (by simp) (K1.out.cell 7)
  have q8 := later_cell (v := .int .u16 0) (B := w.heap.size + 1) (w0 := (w.alloc (.cells #[.int .u8 0, .int .u32 1, .int .u32 167772160, .int .u8 24, .int .u32 167772161, .int .u8 2, .int .u16 10, .int .u32 40, .int .u16 0, .int .u8 1, .bool false, .bool false, .slice none 0 0, .int .u32 0] 83))) (p := ⟨w.heap.size, 8, none⟩) (by simp) (K1.out.cell 8)
  have q9 := later_cell (v := .int .u8 1) (B := w.heap.size + 1) (w0 := (w.alloc (.cells #[.int .u8 0, .int .u32 1, .int .u32 167772160, .int .u8 24, .int .u32 167772161, .int .u8 2, .int .u16 10, .int .u32 40, .int .u16 0, .int .u8 1, .bool false, .bool false, .slice none 0 0, .int .u32 0] 83))) (p := ⟨w.heap.size, 9, none⟩) (by simp) (K1.out.cell 9)
  have q10 := later_cell (v := .bool false) (B := w.heap.size + 1) (w0 := (w.alloc (.cells #[.int .u8 0, .int .u32 1, .int .u32 167772160, .int .u8 24, .int .u32 167772161, .int .u8 2, .int .u16 10, .int .u32 40, .int .u16 0, .int .u8 1, .bool false, .bool false, .slice none 0 0, .int .u32 0] 83))) (p := ⟨w.heap.size, 10, none⟩) (by simp) (K1.out.cell 10)
  have q11 := later_cell (v := .bool false) (B := w.heap.size + 1) (w0 := (w.alloc (.cells #[.int .u8 0, .int .u32 1, .int .u32 167772160, .int .u8 24, .int .u32 167772161, .int .u8 2, .int .u16 10, .int .u32 40, .int .u16 0, .int .u8 1, .bool false, .bool false, .slice none 0 0, .int .u32 0] 83))) (p := ⟨w.heap.size, 11, none⟩) (by simp) (K1.out.cell 11)
  have q12 := later_cell (v := .slice none 0 0) (B := w.heap.size + 1) (w0 := (w.alloc (.cells #[.int .u8 0, .int .u32 1, .int .u32 167772160, .int .u8 24, .int .u32 167772161, .int .u8 2, .int .u16 10, .int .u32 40, .int .u16 0, .int .u8 1, .bool false, .bool false, .slice none 0 0, .int .u32 0] 83))) (p := ⟨w.heap.size, 12, none⟩) (by simp) (K1.out.cell 12)
  have q13 := later_cell (v := .int .u32 0) (B := w.heap.size + 1) (w0 := (w.alloc (.cells #[.int .u8 0, .int .u32 1, .int .u32 167772160, .int .u8 24, .int .u32 167772161, .int .u8 2, .int .u16 10, .int .u32 40, .int .u16 0, .int .u8 1, .bool false, .bool false, .slice none 0 0, .int .u32 0] 83))) (p := ⟨w.heap.size, 13, none⟩) (by simp) (K1.out.cell 13)
  have d1 : Hid (∀ u : Later (w.heap.size + 1) (w.alloc (.cells #[.int .u8 0, .int .u32 1, .int .u32 167772160, .int .u8 24, .int .u32 167772161, .int .u8 2, .int .u16 10, .int .u32 40, .int .u16 0, .int .u8 1, .bool false, .bool false, .slice none 0 0, .int .u32 0] 83)), Calls Try.prog 63 #[.agg #[.int .u8 0, .int .u32 1, .int .u32 167772160, .int .u8 24, .int .u32 167772161, .int .u8 2, .int .u16 10, .int .u32 40, .int .u16 0, .int .u8 1, .bool false, .bool false, .slice none 0 0, .int .u32 0]] u.to fun e w' => e = .returned (.bool false) ∧ Below u.to.heap.size u.to w') := Lib.hid (fun u => peers13 u.to)
  have d2 : Hid (∀ u : Later (w.heap.size + 1) (w.alloc (.cells #[.int .u8 0, .int .u32 1, .int .u32 167772160, .int .u8 24, .int .u32 167772161, .int .u8 2, .int .u16 10, .int .u32 40, .int .u16 0, .int .u8 1, .bool false, .bool false, .slice none 0 0, .int .u32 0] 83)), Calls Try.prog 64 #[.agg #[.int .u8 0, .int .u32 1, .int .u32 167772160, .int .u8 24, .int .u32 167772161, .int .u8 2, .int .u16 10, .int .u32 40, .int .u16 0, .int .u8 1, .bool false, .bool false, .slice none 0 0, .int .u32 0]] u.to fun e w' => e = .returned (.bool true) ∧ Below u.to.heap.size u.to w') := Lib.hid (fun u => peersMay13 u.to)
  unfold lcfg
  go_enter Try.func31, Try.ntmps31
  go_wp2_with fail
  refine wp_region_later (B := w.heap.size + 1) (w0 := (w.alloc (.cells #[.int .u8 0, .int .u32 1, .int .u32 167772160, .int .u8 24, .int .u32 167772161, .int .u8 2, .int .u16 10, .int .u32 40, .int .u16 0, .int .u8 1, .bool false, .bool false, .slice none 0 0, .int .u32 0] 83))) (by kernel_rfl) (by kernel_rfl) (Below.refl _ _) ?_
  repeat (go_big_quiet_step (first
    | (go_at_call 63; with_reducible exact later_call _ (by simp) (d1.out _))
    | (go_at_call 64; with_reducible exact later_call _ (by simp) (d2.out _))))
  refine wpQuiet_nil ?_
  rintro wx ⟨⟨wy, hwy⟩, hwe⟩
  obtain rfl : wx = wy := hwe
  have kx : Blk wx w.heap.size 83 #[.int .u8 0, .int .u32 1, .int .u32 167772160, .int .u8 24, .int .u32 167772161, .int .u8 2, .int .u16 10, .int .u32 40, .int .u16 0, .int .u8 1, .bool false, .bool false, .slice none 0 0, .int .u32 0] := K1.out.below hwy (by simp)
  have hbx : Below w.heap.size w wx := HB0.out.trans (hwy.mono (by omega))
  have x0 : wx.cell? ⟨w.heap.size, 0, none⟩ = some (.int .u8 0) := kx.cell 0
  have x1 : wx.cell? ⟨w.heap.size, 1, none⟩ = some (.int .u32 1) := kx.cell 1
  have x2 : wx.cell? ⟨w.heap.size, 2, none⟩ = some (.int .u32 167772160) := kx.cell 2
  have x3 : wx.cell? ⟨w.heap.size, 3, none⟩ = some (.int .u8 24) := kx.cell 3
  have x4 : wx.cell? ⟨w.heap.size, 4, none⟩ = some (.int .u32 167772161) := kx.cell 4
  have x5 : wx.cell? ⟨w.heap.size, 5, none⟩ = some (.int .u8 2) := kx.cell 5
  have x6 : wx.cell? ⟨w.heap.size, 6, none⟩ = some (.int .u16 10) := kx.cell 6
  have x7 : wx.cell? ⟨w.heap.size, 7, none⟩ = some (.int .u32 40) := kx.cell 7
  have x8 : wx.cell? ⟨w.heap.size, 8, none⟩ = some (.int .u16 0) := kx.cell 8
  have x9 : wx.cell? ⟨w.heap.size, 9, none⟩ = some (.int .u8 1) := kx.cell 9
  have x10 : wx.cell? ⟨w.heap.size, 10, none⟩ = some (.bool false) := kx.cell 10
  have x11 : wx.cell? ⟨w.heap.size, 11, none⟩ = some (.bool false) := kx.cell 11
  have x12 : wx.cell? ⟨w.heap.size, 12, none⟩ = some (.slice none 0 0) := kx.cell 12
  have x13 : wx.cell? ⟨w.heap.size, 13, none⟩ = some (.int .u32 0) := kx.cell 13
  have HKx := Lib.hid kx
  have HBx := Lib.hid hbx
  clear kx hbx hwy q0 q1 q2 q3 q4 q5 q6 q7 q8 q9 q10 q11 q12 q13 d1 d2
  go_wp2_with fail
  refine (check24 _).mono ?_
  rintro e w3 ⟨rfl, hb3⟩
  have k3 := HKx.out.below hb3 HKx.out.lt
  have y0 : w3.cell? ⟨w.heap.size, 0, none⟩ = some (.int .u8 0) := k3.cell 0
  have y1 : w3.cell? ⟨w.heap.size, 1, none⟩ = some (.int .u32 1) := k3.cell 1
  have y2 : w3.cell? ⟨w.heap.size, 2, none⟩ = some (.int .u32 167772160) := k3.cell 2
  have y3 : w3.cell? ⟨w.heap.size, 3, none⟩ = some (.int .u8 24) := k3.cell 3
  have y4 : w3.cell? ⟨w.heap.size, 4, none⟩ = some (.int .u32 167772161) := k3.cell 4
  have y5 : w3.cell? ⟨w.heap.size, 5, none⟩ = some (.int .u8 2) := k3.cell 5
  have y6 : w3.cell? ⟨w.heap.size, 6, none⟩ = some (.int .u16 10) := k3.cell 6
  have y7 : w3.cell? ⟨w.heap.size, 7, none⟩ = some (.int .u32 40) := k3.cell 7
  have y8 : w3.cell? ⟨w.heap.size, 8, none⟩ = some (.int .u16 0) := k3.cell 8
  have y9 : w3.cell? ⟨w.heap.size, 9, none⟩ = some (.int .u8 1) := k3.cell 9
  have y10 : w3.cell? ⟨w.heap.size, 10, none⟩ = some (.bool false) := k3.cell 10
  have y11 : w3.cell? ⟨w.heap.size, 11, none⟩ = some (.bool false) := k3.cell 11
  have y12 : w3.cell? ⟨w.heap.size, 12, none⟩ = some (.slice none 0 0) := k3.cell 12
  have y13 : w3.cell? ⟨w.heap.size, 13, none⟩ = some (.int .u32 0) := k3.cell 13
  have HK3 := Lib.hid k3
  have HB3 := Lib.hid (HBx.out.trans (hb3.mono HBx.out.size))
  clear k3 hb3 x0 x1 x2 x3 x4 x5 x6 x7 x8 x9 x10 x11 x12 x13
  go_wp2_with fail
  refine (has24 167772161 _ and1).mono ?_
  rintro e w4 ⟨rfl, hb4⟩
  have k4 := HK3.out.below hb4 HK3.out.lt
  have f4 := k4.frozen
  have z0 : w4.cell? ⟨w.heap.size, 0, none⟩ = some (.int .u8 0) := k4.cell 0
  have z1 : w4.cell? ⟨w.heap.size, 1, none⟩ = some (.int .u32 1) := k4.cell 1
  have z2 : w4.cell? ⟨w.heap.size, 2, none⟩ = some (.int .u32 167772160) := k4.cell 2
  have z3 : w4.cell? ⟨w.heap.size, 3, none⟩ = some (.int .u8 24) := k4.cell 3
  have z4 : w4.cell? ⟨w.heap.size, 4, none⟩ = some (.int .u32 167772161) := k4.cell 4
  have z5 : w4.cell? ⟨w.heap.size, 5, none⟩ = some (.int .u8 2) := k4.cell 5
  have z6 : w4.cell? ⟨w.heap.size, 6, none⟩ = some (.int .u16 10) := k4.cell 6
  have z7 : w4.cell? ⟨w.heap.size, 7, none⟩ = some (.int .u32 40) := k4.cell 7
  have z8 : w4.cell? ⟨w.heap.size, 8, none⟩ = some (.int .u16 0) := k4.cell 8
  have z9 : w4.cell? ⟨w.heap.size, 9, none⟩ = some (.int .u8 1) := k4.cell 9
  have z10 : w4.cell? ⟨w.heap.size, 10, none⟩ = some (.bool false) := k4.cell 10
  have z11 : w4.cell? ⟨w.heap.size, 11, none⟩ = some (.bool false) := k4.cell 11
  have z12 : w4.cell? ⟨w.heap.size, 12, none⟩ = some (.slice none 0 0) := k4.cell 12
  have z13 : w4.cell? ⟨w.heap.size, 13, none⟩ = some (.int .u32 0) := k4.cell 13
  have HK4 := Lib.hid k4
  have HB4 := Lib.hid (HB3.out.trans (hb4.mono HB3.out.size))
  clear k4 hb4 y0 y1 y2 y3 y4 y5 y6 y7 y8 y9 y10 y11 y12 y13
  go_wp2_with fail
  refine bodyPost_ret (v := .tuple #[.pointer (some ⟨w4.heap.size, 0, none⟩), .int .i64 0]) (by simp [results, Try.results31, go_sem]) rfl ⟨_, rfl, HB4.out.size, ?_, ?_⟩
  · have := Blk.new (w4.setCell ⟨w.heap.size, 12, none⟩ (.slice none 0 0)) 119 lnew
    rw [show (w4.setCell ⟨w.heap.size, 12, none⟩ (.slice none 0 0)).heap.size = w4.heap.size from by simp [World.setCell]] at this
    exact this
  · exact (HB4.out.setCell (p := ⟨w.heap.size, 12, none⟩) (Nat.le_refl _) _).alloc (by have := HB4.out.size; simp [World.setCell]; omega) _
end Go.Proofs.Ytgbmhijgpdgdbaa
