/- What no link answers: every method on a nil link, or one that New did not make. -/
import Derived.Test.YtgbmhijgpdgdbaaAdj
namespace Go.Proofs.Ytgbmhijgpdgdbaa
open Go.RowKit

/-- No link. -/
def NoLink (w : World) (v : Value) : Prop := v = .pointer none ∨ ∃ B cs, v = .pointer (some ⟨B, 0, none⟩) ∧ Blk w B 119 cs ∧ cs[0]? = some (.bool false)
theorem NoLink.alloc {w : World} {v : Value} (h : NoLink w v) (o : Obj) : NoLink (w.alloc o) v := by
  rcases h with rfl | ⟨B, cs, rfl, h, hm⟩
  · exact Or.inl rfl
  · exact Or.inr ⟨B, cs, rfl, Blk.alloc h o, hm⟩

set_option maxHeartbeats 400000 in
theorem lnone_no (w : World) (v : Value) (h : NoLink w v) : Calls Try.prog 67 #[v] w fun e w' => e = .returned (.bool true) ∧ w = w' := by
  rcases h with rfl | ⟨B, cs, rfl, h, hm⟩
  · go_enter Try.func67, Try.ntmps67
    go_wp2
    go_ret
    exact ⟨rfl, rfl⟩
  · have c0 : w.cell? ⟨B, 0, none⟩ = some (.bool false) := (h.cell 0).trans hm
    go_enter Try.func67, Try.ntmps67
    go_wp2
    go_ret
    exact ⟨rfl, rfl⟩

set_option maxHeartbeats 400000 in
theorem lstate_no (w : World) (v : Value) (h : NoLink w v) : Calls Try.prog 39 #[v] w fun e w' => e = .returned (.int .u8 0) ∧ w = w' := by
  go_enter Try.func39, Try.ntmps39
  go_wp2_with (go_at_call 67; refine (lnone_no _ _ h).mono ?_; rintro e w' ⟨rfl, rfl⟩)
  go_ret
  exact ⟨rfl, rfl⟩

set_option maxHeartbeats 400000 in
theorem lup_no (w : World) (v : Value) (h : NoLink w v) : Calls Try.prog 33 #[v] w fun e w' => e = .returned (.slice none 0 0) ∧ w = w' := by
  go_enter Try.func33, Try.ntmps33
  go_wp2_with (go_at_call 67; refine (lnone_no _ _ h).mono ?_; rintro e w' ⟨rfl, rfl⟩)
  go_ret
  exact ⟨rfl, rfl⟩

set_option maxHeartbeats 400000 in
theorem ltick_no (w : World) (v : Value) (h : NoLink w v) : Calls Try.prog 36 #[v] w fun e w' => e = .returned (.slice none 0 0) ∧ w = w' := by
  go_enter Try.func36, Try.ntmps36
  go_wp2_with (go_at_call 67; refine (lnone_no _ _ h).mono ?_; rintro e w' ⟨rfl, rfl⟩)
  go_ret
  exact ⟨rfl, rfl⟩

set_option maxHeartbeats 400000 in
theorem lneighbours_no (w : World) (v : Value) (h : NoLink w v) : Calls Try.prog 38 #[v] w fun e w' => e = .returned (.slice none 0 0) ∧ w = w' := by
  go_enter Try.func38, Try.ntmps38
  go_wp2_with (go_at_call 67; refine (lnone_no _ _ h).mono ?_; rintro e w' ⟨rfl, rfl⟩)
  go_ret
  exact ⟨rfl, rfl⟩

set_option maxHeartbeats 400000 in
theorem lchiefs_no (w : World) (v : Value) (h : NoLink w v) : Calls Try.prog 42 #[v] w fun e w' => e = .returned (.tuple #[.int .u32 0, .int .u32 0]) ∧ w = w' := by
  go_enter Try.func42, Try.ntmps42
  go_wp2_with (go_at_call 67; refine (lnone_no _ _ h).mono ?_; rintro e w' ⟨rfl, rfl⟩)
  refine bodyPost_ret (v := .tuple #[.int .u32 0, .int .u32 0]) (by simp [results, Try.results42, go_sem]) rfl ⟨rfl, rfl⟩

set_option maxHeartbeats 400000 in
theorem ldown_no (w : World) (v : Value) (h : NoLink w v) : Calls Try.prog 40 #[v] w fun e w' => e = .returned (.tuple #[]) ∧ w = w' := by
  go_enter Try.func40, Try.ntmps40
  go_wp2_with (go_at_call 67; refine (lnone_no _ _ h).mono ?_; rintro e w' ⟨rfl, rfl⟩)
  refine bodyPost_end (v := .tuple #[]) (by simp [results, Try.results40, go_sem]) rfl ⟨rfl, rfl⟩

set_option maxHeartbeats 400000 in
theorem lreach_no (w : World) (v : Value) (x : Int) (h : NoLink w v) : Calls Try.prog 46 #[v, .int .u32 x] w fun e w' => e = .returned (.tuple #[]) ∧ w = w' := by
  go_enter Try.func46, Try.ntmps46
  go_wp2_with (go_at_call 67; refine (lnone_no _ _ h).mono ?_; rintro e w' ⟨rfl, rfl⟩)
  refine bodyPost_end (v := .tuple #[]) (by simp [results, Try.results46, go_sem]) rfl ⟨rfl, rfl⟩

set_option maxHeartbeats 400000 in
set_option maxRecDepth 20000 in
theorem lhear_no (w : World) (v : Value) (x y : Int) (cs : Array Value) (h : NoLink w v) : Calls Try.prog 35 #[v, .int .u32 x, .int .u32 y, .agg cs] w fun e w' => e = .returned (.tuple #[.slice none 0 0, .int .i64 1]) ∧ Below w.heap.size w w' := by
  go_enter Try.func35, Try.ntmps35
  go_wp2_with (go_at_call 67; refine (lnone_no _ _ (NoLink.alloc h _)).mono ?_; rintro e w' ⟨rfl, rfl⟩)
  refine bodyPost_ret (v := .tuple #[.slice none 0 0, .int .i64 1]) (by simp [results, Try.results35, go_sem]) rfl ⟨rfl, (Below.refl _ _).alloc (Nat.le_refl _) _⟩

set_option maxHeartbeats 400000 in
theorem lfull_no (w : World) (v : Value) (x : Int) (b : Bool) (h : NoLink w v) : Calls Try.prog 47 #[v, .int .u32 x, .bool b] w fun e w' => e = .returned (.tuple #[]) ∧ Below w.heap.size w w' := by
  go_enter Try.func47, Try.ntmps47
  go_wp2_with (go_at_call 67; refine (lnone_no _ _ (by first | exact h | exact NoLink.alloc h _ | exact NoLink.alloc (NoLink.alloc h _) _)).mono ?_; rintro e w' ⟨rfl, rfl⟩)
  refine bodyPost_ret (v := .tuple #[]) (by simp [results, Try.results47, go_sem]) rfl ⟨rfl, ((Below.refl _ _).alloc (Nat.le_refl _) _).alloc (by simp) _⟩
end Go.Proofs.Ytgbmhijgpdgdbaa
