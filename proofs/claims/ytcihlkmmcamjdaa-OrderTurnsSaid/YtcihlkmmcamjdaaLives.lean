/- The statements' lives: some heads. -/
import Derived.Test.YtcihlkmmcamjdaaKeys
import Derived.Test.YtcihlkmmcamjdaaMore
import Derived.Test.YtcihlkmmcamjdaaRNewer
namespace Go.Proofs.Ytcihlkmmcamjdaa
open Go.RowKit

set_option maxHeartbeats 2000000 in
theorem lives_any (w : World) : Calls Try.prog 17 #[] w fun e w' => e = .returned (.bool true) ∧ Below w.heap.size w w' := by
  go_enter Try.func17, Try.ntmps17
  go_wp2_with fail
  refine (next_any _ _ (by omega) (by omega)).mono ?_
  rw [show Od.next (-1) = (0, true) from by decide]
  rintro e w1 ⟨rfl, rfl⟩
  go_wp2_with fail
  refine (newer_any _ _ _ _ _ _ _ _ _ _ _ _ _ _ _ _ _ (by omega) (by omega) (by omega) (by omega)).mono ?_
  rw [show Od.newer ⟨0, 0, 0, 0, 0, 5, 0, 0⟩ ⟨0, 0, 0, 0, 0, 4, 0, 0⟩ = 1 from by decide]
  rintro e w2 ⟨rfl, hb2⟩
  go_wp2_with fail
  refine (newer_any _ _ _ _ _ _ _ _ _ _ _ _ _ _ _ _ _ (by omega) (by omega) (by omega) (by omega)).mono ?_
  rw [show Od.newer ⟨0, 0, 0, 0, 0, 0, 0, 0⟩ ⟨3600, 0, 0, 0, 0, 0, 0, 0⟩ = -1 from by decide]
  rintro e w3 ⟨rfl, hb3⟩
  go_wp2_with fail
  refine (age_any _ _ _ (by omega) (by omega) (by omega) (by omega)).mono ?_
  rw [show Od.age 3599 9 = 3600 from by decide]
  rintro e w4 ⟨rfl, rfl⟩
  go_wp2_with fail
  refine (old_any _ _ (by omega) (by omega)).mono ?_
  rw [show Od.old 36368 = true from by decide]
  rintro e w5 ⟨rfl, rfl⟩
  go_wp2_with fail
  refine (keys_any _ _ _ _ _ _ _).mono ?_
  rw [show Od.keys ⟨1, 0, 0⟩ ⟨0, 1, 0⟩ = 1 from by decide]
  rintro e w6 ⟨rfl, hb6⟩
  go_wp2_with fail
  go_ret
  exact ⟨rfl, (hb2.trans (hb3.mono hb2.size)).trans (hb6.mono (Nat.le_trans hb2.size hb3.size))⟩

end Go.Proofs.Ytcihlkmmcamjdaa
