/- What the link of 'works' may hear. -/
import Derived.Test.YtgbmhijgpdgdbaaUp13
namespace Go.Proofs.Ytgbmhijgpdgdbaa
open Go.RowKit

/-- A Hello from the one neighbour, at an interval. -/
def hl (iv : Int) (nb : Value) : Array Value := #[.int .u32 4294967040, .int .u16 iv, .int .u8 2, .int .u8 1, .int .u32 40, .int .u32 0, .int .u32 0, nb]

set_option maxHeartbeats 400000 in
theorem find_nil (w : World) (B : Nat) (x y : Int) (cs : Array Value) (k : Blk w B 119 cs) (h : cs[22]? = some (.slice none 0 0)) :
    Calls Try.prog 71 #[.pointer (some ⟨B, 0, none⟩), .int .u32 x, .int .u32 y] w fun e w' => e = .returned (.int .i64 (-1)) ∧ w = w' := by
  have c22 : w.cell? ⟨B, 22, none⟩ = some (.slice none 0 0) := (k.cell 22).trans h
  go_enter Try.func71, Try.ntmps71
  go_wp2_with fail
  refine wp_loop_rounds 1 ?_
  rw [rounds_succ]
  go_wp2_with fail
  go_ret
  exact ⟨rfl, rfl⟩

set_option maxHeartbeats 400000 in
theorem find_one (w : World) (B L K c : Nat) (x y : Int) (cs : Array Value) (k : Blk w B 119 cs) (h : cs[22]? = some (.slice (some ⟨L, 0, none⟩) 1 c)) (h1 : cs[1]? = some (.int .u8 0))
    (hL : w.cell? ⟨L, 0, none⟩ = some (.pointer (some ⟨K, 0, none⟩))) (hK : w.cell? ⟨K, 1, none⟩ = some (.int .u32 x)) :
    Calls Try.prog 71 #[.pointer (some ⟨B, 0, none⟩), .int .u32 x, .int .u32 y] w fun e w' => e = .returned (.int .i64 0) ∧ w = w' := by
  have c22 : w.cell? ⟨B, 22, none⟩ = some (.slice (some ⟨L, 0, none⟩) 1 c) := (k.cell 22).trans h
  have c1 : w.cell? ⟨B, 1, none⟩ = some (.int .u8 0) := (k.cell 1).trans h1
  go_enter Try.func71, Try.ntmps71
  go_wp2_with fail
  refine wp_loop_rounds 1 ?_
  rw [rounds_succ]
  go_wp2_with fail
  go_ret
  exact ⟨rfl, rfl⟩
end Go.Proofs.Ytgbmhijgpdgdbaa
