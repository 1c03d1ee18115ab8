/- Prefixes, at the numbers of 'works'. -/
import Derived.Test.YtgbmhijgpdgdbaaLinkNo
import Derived.Test.YtgbmhijgpdgdbaaLaterPlain
import Derived.BigQuiet
import Derived.Laws.BitsAllLaws
namespace Go.Proofs.Ytgbmhijgpdgdbaa
open Go.RowKit

theorem shl24 : bits .and .u32 167772160 4294967040 = 167772160 := by decide +kernel
theorem and1 : bits .and .u32 167772161 4294967040 = 167772160 := by decide +kernel
theorem and2 : bits .and .u32 167772162 4294967040 = 167772160 := by decide +kernel

set_option maxHeartbeats 400000 in
theorem mask24 (w : World) : Calls Try.prog 102 #[.int .u8 24] w fun e w' => e = .returned (.int .u32 4294967040) ∧ w = w' := by
  go_enter Try.func102, Try.ntmps102
  go_wp2_with fail
  go_ret
  exact ⟨rfl, rfl⟩

set_option maxHeartbeats 400000 in
theorem make24 (w : World) : Calls Try.prog 101 #[.int .u32 167772160, .int .u8 24] w fun e w' => e = .returned (.tuple #[.agg #[.int .u32 167772160, .int .u8 24], .int .i64 0]) ∧ Below w.heap.size w w' := by
  have h := shl24
  go_enter Try.func101, Try.ntmps101
  go_wp2_with (go_at_call 102; refine (mask24 _).mono ?_; rintro e w' ⟨rfl, rfl⟩)
  refine bodyPost_ret (v := .tuple #[.agg #[.int .u32 167772160, .int .u8 24], .int .i64 0]) (by simp [results, Try.results101, go_sem]) rfl ⟨rfl, ?_⟩
  exact (Below.refl _ _).alloc (Nat.le_refl _) _

set_option maxHeartbeats 400000 in
theorem check24 (w : World) : Calls Try.prog 65 #[.agg #[.int .u32 167772160, .int .u8 24]] w fun e w' => e = .returned (.int .i64 0) ∧ Below w.heap.size w w' := by
  have k1 := Blk.new w 73 #[.int .u32 167772160, .int .u8 24]
  have hb0 : Below w.heap.size w (w.alloc (.cells #[.int .u32 167772160, .int .u8 24] 73)) := (Below.refl _ _).alloc (Nat.le_refl _) _
  have HB0 := Lib.hid hb0
  have K1 := Lib.hid k1
  clear hb0 k1
  go_enter Try.func65, Try.ntmps65
  go_wp2_with fail
  refine (make24 _).mono ?_
  rintro e w1 ⟨rfl, hb1⟩
  have k2 := K1.out.below hb1 K1.out.lt
  have c0 : w1.cell? ⟨w.heap.size, 0, none⟩ = some (.int .u32 167772160) := k2.cell 0
  have c1 : w1.cell? ⟨w.heap.size, 1, none⟩ = some (.int .u8 24) := k2.cell 1
  have hbl : w.heap.size < w1.heap.size := k2.lt
  have HB1 := Lib.hid (HB0.out.trans (hb1.mono (by simp)))
  clear k2 hb1
  go_wp2_with fail
  go_ret
  exact ⟨rfl, HB1.out.alloc HB1.out.size _⟩

set_option maxHeartbeats 400000 in
theorem has24 (x : Int) (w : World) (hx : bits .and .u32 x 4294967040 = 167772160) : Calls Try.prog 66 #[.agg #[.int .u32 167772160, .int .u8 24], .int .u32 x] w fun e w' => e = .returned (.bool true) ∧ Below w.heap.size w w' := by
  have k1 := Blk.new w 73 #[.int .u32 167772160, .int .u8 24]
  have hb0 : Below w.heap.size w (w.alloc (.cells #[.int .u32 167772160, .int .u8 24] 73)) := (Below.refl _ _).alloc (Nat.le_refl _) _
  have HB0 := Lib.hid hb0
  have K1 := Lib.hid k1
  clear hb0 k1
  go_enter Try.func66, Try.ntmps66
  go_wp2_with fail
  have q0 := later_cell (v := .int .u32 167772160) (B := w.heap.size + 1) (w0 := (w.alloc (.cells #[.int .u32 167772160, .int .u8 24] 73))) (p := ⟨w.heap.size, 0, none⟩) (by simp) (K1.out.cell 0)
  have q1 := later_cell (v := .int .u8 24) (B := w.heap.size + 1) (w0 := (w.alloc (.cells #[.int .u32 167772160, .int .u8 24] 73))) (p := ⟨w.heap.size, 1, none⟩) (by simp) (K1.out.cell 1)
  have d1 : Hid (∀ u : Later (w.heap.size + 1) (w.alloc (.cells #[.int .u32 167772160, .int .u8 24] 73)), Calls Try.prog 65 #[.agg #[.int .u32 167772160, .int .u8 24]] u.to fun e w' => e = .returned (.int .i64 0) ∧ Below u.to.heap.size u.to w') := Lib.hid (fun u => check24 u.to)
  have d2 : Hid (∀ u : Later (w.heap.size + 1) (w.alloc (.cells #[.int .u32 167772160, .int .u8 24] 73)), Calls Try.prog 102 #[.int .u8 24] u.to fun e w' => e = .returned (.int .u32 4294967040) ∧ Below u.to.heap.size u.to w') := Lib.hid (fun u => (mask24 u.to).mono fun _ _ h => ⟨h.1, h.2 ▸ Below.refl _ _⟩)
  refine wp_region_later (B := w.heap.size + 1) (w0 := (w.alloc (.cells #[.int .u32 167772160, .int .u8 24] 73))) (by kernel_rfl) (by kernel_rfl) (Below.refl _ _) ?_
  repeat (go_big_quiet_step (first
    | (go_at_call 65; with_reducible exact later_call _ (by simp) (d1.out _))
    | (go_at_call 102; with_reducible exact later_call _ (by simp) (d2.out _))))
  refine wpQuiet_nil ?_
  rintro wx ⟨⟨wy, hwy⟩, hwe⟩
  obtain rfl : wx = wy := hwe
  go_wp2_with fail
  go_ret
  exact ⟨rfl, HB0.out.trans (hwy.mono (by omega))⟩
end Go.Proofs.Ytgbmhijgpdgdbaa
