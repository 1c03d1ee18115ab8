/- The peers of a config that may be, by the program. -/
import Derived.Test.YtgbmhijgpdgdbaaRMayY
import Derived.Test.YtgbmhijgpdgdbaaMaps
namespace Go.Proofs.Ytgbmhijgpdgdbaa
open Go.RowKit

set_option maxHeartbeats 1000000 in
set_option maxRecDepth 20000 in
/-- No peers are asked, none are there. -/
theorem peersMay_none (w : World) (c : LC) (hp : c.peers = false) (cap : Nat) (A : Option Addr) (hpe : c.pe = .slice A 0 cap) : Calls Try.prog 64 #[.agg c.cells] w fun e w' => e = .returned (.bool true) ∧ Below w.heap.size w w' := by
  have hp2 : ∀ W, Calls Try.prog 63 #[.agg c.cells] W fun e w' => e = .returned (.bool false) ∧ Below W.heap.size W w' := fun W => by have h := peers_any c W; rw [hp] at h; exact h
  have HP := Lib.hid hp2
  have HPE := Lib.hid hpe
  clear hp2 hpe
  unfold LC.cells at HP ⊢
  go_enter Try.func64, Try.ntmps64
  go_upto_region 1 with fail
  have k1 := Blk.new w 83 c.cells
  unfold LC.cells at k1
  have K1 := Lib.hid k1
  clear k1
  go_wp2_with fail
  refine (HP.out _).mono ?_
  rintro e w1 ⟨rfl, hb1⟩
  have c12 : w1.cell? ⟨w.heap.size, 12, none⟩ = some (.slice A 0 cap) := ((K1.out.below hb1 K1.out.lt).cell 12).trans (congrArg some HPE.out)
  go_wp2_with fail
  go_ret
  exact ⟨rfl, ((Below.refl _ w).alloc (Nat.le_refl _) _).trans (hb1.mono (by simp))⟩
end Go.Proofs.Ytgbmhijgpdgdbaa
