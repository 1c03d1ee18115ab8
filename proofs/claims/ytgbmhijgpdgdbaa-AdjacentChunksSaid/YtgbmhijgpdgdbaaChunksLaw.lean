/- The statement AdjacentChunks, walked: all of it. -/
import Derived.Test.YtgbmhijgpdgdbaaChunksS
import Derived.Test.YtgbmhijgpdgdbaaChunksM
namespace Go.Proofs.Ytgbmhijgpdgdbaa
open Go.RowKit

set_option maxHeartbeats 1000000 in
theorem lawChunks_any (w : World) (A : Option Addr) (n c : Nat) (l : List Od.Hd) (mst : Bool) (hl : HeadsAt w w.heap.size (.slice A n c) l) (hraw : ∀ x ∈ l, HdRaw x) (hn : n ≤ maxLen) :
    Calls Try.prog 3 #[.slice A n c, .bool mst] w fun e w' => e = .returned (.bool true) ∧ Below w.heap.size w w' := by
  unfold maxLen at hn
  by_cases h200 : n ≤ 200
  · cases mst
    · exact chunks_s_any w A n c l hl hraw h200
    · exact chunks_m_any w A n c l hl hraw h200
  · have h2 : (200 : Int) < (n : Int) := by omega
    clear hl hraw
    go_enter Try.func3, Try.ntmps3
    go_wp2_with (go_at_call 11; refine (works_any _).mono ?_; rintro e w1 ⟨rfl, hb1⟩)
    go_ret
    exact ⟨rfl, hb1⟩
end Go.Proofs.Ytgbmhijgpdgdbaa
