/- The link of 'works': its config; peers; may its peers be. -/
import Derived.Test.YtgbmhijgpdgdbaaLinkNo
namespace Go.Proofs.Ytgbmhijgpdgdbaa
open Go.RowKit

/-- A broadcast link's config, as both packages lay it out. -/
def lcfg : Value := .agg #[.int .u8 0, .int .u32 1, .int .u32 167772160, .int .u8 24, .int .u32 167772161, .int .u8 2, .int .u16 10, .int .u32 40, .int .u16 0, .int .u8 1, .bool false, .bool false, .slice none 0 0, .int .u32 0]

set_option maxHeartbeats 1000000 in
set_option maxRecDepth 20000 in
theorem plain13 (w : World) : Calls Try.prog 41 #[.int .u8 0] w fun e w' => e = .returned lcfg ∧ Below w.heap.size w w' := by
  go_enter Try.func41, Try.ntmps41
  go_wp2_with fail
  refine bodyPost_ret (v := lcfg) (by simp [results, Try.results41, go_sem, lcfg]) rfl ⟨rfl, ?_⟩
  exact ((Below.refl _ _).alloc (Nat.le_refl _) _).alloc (by simp) _

set_option maxHeartbeats 1000000 in
set_option maxRecDepth 20000 in
theorem given13 (w : World) : Calls Try.prog 32 #[lcfg] w fun e w' => e = .returned lcfg ∧ Below w.heap.size w w' := by
  unfold lcfg
  go_enter Try.func32, Try.ntmps32
  go_wp2_with fail
  refine wp_loop_rounds 1 ?_
  rw [rounds_succ]
  go_wp2_with fail
  refine bodyPost_ret (v := lcfg) (by simp [results, Try.results32, go_sem, lcfg]) rfl ⟨rfl, ?_⟩
  exact (((Below.refl _ _).alloc (Nat.le_refl _) _).alloc (by simp) _).alloc (by simp; omega) _

set_option maxHeartbeats 1000000 in
set_option maxRecDepth 20000 in
theorem peers13 (w : World) : Calls Try.prog 63 #[lcfg] w fun e w' => e = .returned (.bool false) ∧ Below w.heap.size w w' := by
  unfold lcfg
  go_enter Try.func63, Try.ntmps63
  go_wp2_with fail
  go_ret
  exact ⟨rfl, (Below.refl _ _).alloc (Nat.le_refl _) _⟩

set_option maxHeartbeats 1000000 in
set_option maxRecDepth 20000 in
theorem peersMay13 (w : World) : Calls Try.prog 64 #[lcfg] w fun e w' => e = .returned (.bool true) ∧ Below w.heap.size w w' := by
  have hp := fun W => peers13 W
  unfold lcfg at hp ⊢
  have HP := Lib.hid hp
  clear hp
  go_enter Try.func64, Try.ntmps64
  go_wp2_with fail
  have k1 := Blk.new w 83 #[.int .u8 0, .int .u32 1, .int .u32 167772160, .int .u8 24, .int .u32 167772161, .int .u8 2, .int .u16 10, .int .u32 40, .int .u16 0, .int .u8 1, .bool false, .bool false, .slice none 0 0, .int .u32 0]
  refine (HP.out _).mono ?_
  rintro e w1 ⟨rfl, hb1⟩
  have c12 : w1.cell? ⟨w.heap.size, 12, none⟩ = some (.slice none 0 0) := (k1.below hb1 k1.lt).cell 12
  go_wp2_with fail
  go_ret
  exact ⟨rfl, ((Below.refl _ w).alloc (Nat.le_refl _) _).trans (hb1.mono (by simp))⟩
end Go.Proofs.Ytgbmhijgpdgdbaa
