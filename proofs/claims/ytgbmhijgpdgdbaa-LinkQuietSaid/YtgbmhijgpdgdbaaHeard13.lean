/- What a first Hello changes of a link that waits. -/
import Derived.Test.YtgbmhijgpdgdbaaPut13
namespace Go.Proofs.Ytgbmhijgpdgdbaa
open Go.RowKit

def nk (st : Int) : Array Value := #[.int .u32 2, .int .u32 167772162, .int .u8 st, .int .u8 1, .int .u32 0, .int .u32 0, .int .u8 2, .int .u32 40, .bool false, .bool false]

theorem Below.drewN_ {N : Nat} {w w' : World} (h : Below N w w') (n : Nat) : Below N w (w'.drewN n) := ⟨h.os, h.tape, h.output, h.size, h.block⟩

set_option maxHeartbeats 2000000 in
set_option maxRecDepth 20000 in
theorem heard_lk (w : World) (B K : Nat) (wt nx : Int) (l : Value) (k : Blk w B 119 (lk 2 wt nx l)) (kk : Blk w K 139 (nk 3)) :
    Calls Try.prog 73 #[.pointer (some ⟨B, 0, none⟩), .agg kzero, .pointer (some ⟨K, 0, none⟩), .bool false] w fun e w' => e = .returned (.tuple #[]) ∧ Below w.heap.size w w' := by
  have c15 : w.cell? ⟨B, 15, none⟩ = some (.int .u8 2) := k.cell 15
  have n1 : w.cell? ⟨K, 1, none⟩ = some (.int .u32 167772162) := kk.cell 1
  have n2 : w.cell? ⟨K, 2, none⟩ = some (.int .u8 3) := kk.cell 2
  have n3 : w.cell? ⟨K, 3, none⟩ = some (.int .u8 1) := kk.cell 3
  have n4 : w.cell? ⟨K, 4, none⟩ = some (.int .u32 0) := kk.cell 4
  have n5 : w.cell? ⟨K, 5, none⟩ = some (.int .u32 0) := kk.cell 5
  have hlt : B < w.heap.size := k.lt
  have hlk : K < w.heap.size := kk.lt
  clear k kk
  unfold kzero
  go_enter Try.func73, Try.ntmps73
  go_wp2_with fail
  go_quiet (fail)
  go_wp2_with fail
  go_quiet (fail)
  go_wp2_with fail
  refine bodyPost_end (v := .tuple #[]) (by simp [results, Try.results73, go_sem]) rfl ⟨rfl, ?_⟩
  exact Below.drewN_ ((Below.refl _ w).alloc (Nat.le_refl _) _) _
end Go.Proofs.Ytgbmhijgpdgdbaa
