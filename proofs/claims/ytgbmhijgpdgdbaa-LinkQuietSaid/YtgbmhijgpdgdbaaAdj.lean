/- An adjacency as its block of memory has it; the leaves: none, State, Master, Opts, key. -/
import Derived.Test.YtgbmhijgpdgdbaaNewer
import Derived.Test.YtgbmhijgpdgdbaaMaps
namespace Go.Proofs.Ytgbmhijgpdgdbaa
open Go.RowKit

/-- The block of an adjacency, number by number; a slice and the map as their values. -/
structure Adj where
  made : Bool
  self : Int
  other : Int
  mtu : Int
  opts : Int
  rxmt : Int
  seq0 : Int
  types : Int
  state : Int
  seq : Int
  master : Bool
  left : Value
  smtu : Int
  sopts : Int
  sflags : Int
  sseq : Int
  sheads : Value
  taken : Bool
  lflags : Int
  lopts : Int
  lseq : Int
  order : Value
  wants : Value
  asks : Value
  timer : Int

def Adj.cells (a : Adj) : Array Value := #[.bool a.made, .int .u32 a.self, .int .u32 a.other, .int .u16 a.mtu, .int .u8 a.opts, .int .u16 a.rxmt, .int .u32 a.seq0, .int .u16 a.types,
  .int .u8 a.state, .int .u32 a.seq, .bool a.master, a.left, .int .u16 a.smtu, .int .u8 a.sopts, .int .u8 a.sflags, .int .u32 a.sseq, a.sheads, .bool a.taken,
  .int .u8 a.lflags, .int .u8 a.lopts, .int .u32 a.lseq, a.order, a.wants, a.asks, .int .u32 a.timer]

abbrev AdjAt (w : World) (B : Nat) (a : Adj) : Prop := Blk w B 66 a.cells

/-- No adjacency: a nil pointer, or a block that New did not make. -/
def NoAdj (w : World) (v : Value) : Prop := v = .pointer none ∨ ∃ B a, v = .pointer (some ⟨B, 0, none⟩) ∧ AdjAt w B a ∧ a.made = false

set_option maxHeartbeats 400000 in
theorem none_any (w : World) (B : Nat) (a : Adj) (h : AdjAt w B a) : Calls Try.prog 50 #[.pointer (some ⟨B, 0, none⟩)] w fun e w' => e = .returned (.bool (!a.made)) ∧ w = w' := by
  have c0 : w.cell? ⟨B, 0, none⟩ = some (.bool a.made) := h.cell 0
  go_enter Try.func50, Try.ntmps50
  go_wp2
  go_ret
  exact ⟨rfl, rfl⟩

set_option maxHeartbeats 400000 in
theorem none_no (w : World) (v : Value) (h : NoAdj w v) : Calls Try.prog 50 #[v] w fun e w' => e = .returned (.bool true) ∧ w = w' := by
  rcases h with rfl | ⟨B, a, rfl, h, hm⟩
  · go_enter Try.func50, Try.ntmps50
    go_wp2
    go_ret
    exact ⟨rfl, rfl⟩
  · refine (none_any w B a h).mono ?_
    rintro e w' ⟨rfl, rfl⟩
    exact ⟨by rw [hm]; rfl, rfl⟩
theorem none_yes (w : World) (B : Nat) (a : Adj) (h : AdjAt w B a) (hm : a.made = true) : Calls Try.prog 50 #[.pointer (some ⟨B, 0, none⟩)] w fun e w' => e = .returned (.bool false) ∧ w = w' := by
  refine (none_any w B a h).mono ?_
  rintro e w' ⟨rfl, rfl⟩
  exact ⟨by rw [hm]; rfl, rfl⟩

theorem NoAdj.alloc {w : World} {v : Value} (h : NoAdj w v) (o : Obj) : NoAdj (w.alloc o) v := by
  rcases h with rfl | ⟨B, a, rfl, h, hm⟩
  · exact Or.inl rfl
  · exact Or.inr ⟨B, a, rfl, Blk.alloc h o, hm⟩
theorem NoAdj.below {w w' : World} {v : Value} {B : Nat} (h : NoAdj w v) (hb : Below B w w') (hB : ∀ b, v = .pointer (some ⟨b, 0, none⟩) → b < B) : NoAdj w' v := by
  rcases h with rfl | ⟨b, a, rfl, h, hm⟩
  · exact Or.inl rfl
  · exact Or.inr ⟨b, a, rfl, Blk.below h hb (hB b rfl), hm⟩

set_option maxHeartbeats 400000 in
theorem state_no (w : World) (v : Value) (h : NoAdj w v) : Calls Try.prog 16 #[v] w fun e w' => e = .returned (.int .u8 0) ∧ w = w' := by
  go_enter Try.func16, Try.ntmps16
  go_wp2_with (go_at_call 50; refine (none_no _ _ h).mono ?_; rintro e w' ⟨rfl, rfl⟩)
  go_ret
  exact ⟨rfl, rfl⟩

set_option maxHeartbeats 400000 in
theorem master_no (w : World) (v : Value) (h : NoAdj w v) : Calls Try.prog 20 #[v] w fun e w' => e = .returned (.bool false) ∧ w = w' := by
  go_enter Try.func20, Try.ntmps20
  go_wp2_with (go_at_call 50; refine (none_no _ _ h).mono ?_; rintro e w' ⟨rfl, rfl⟩)
  go_ret
  exact ⟨rfl, rfl⟩

set_option maxHeartbeats 400000 in
theorem opts_no (w : World) (v : Value) (h : NoAdj w v) : Calls Try.prog 28 #[v] w fun e w' => e = .returned (.int .u8 0) ∧ w = w' := by
  go_enter Try.func28, Try.ntmps28
  go_wp2_with (go_at_call 50; refine (none_no _ _ h).mono ?_; rintro e w' ⟨rfl, rfl⟩)
  go_ret
  exact ⟨rfl, rfl⟩

set_option maxHeartbeats 400000 in
theorem wants_no (w : World) (v : Value) (h : NoAdj w v) : Calls Try.prog 27 #[v] w fun e w' => e = .returned (.slice none 0 0) ∧ w = w' := by
  go_enter Try.func27, Try.ntmps27
  go_wp2_with (go_at_call 50; refine (none_no _ _ h).mono ?_; rintro e w' ⟨rfl, rfl⟩)
  go_ret
  exact ⟨rfl, rfl⟩

set_option maxHeartbeats 400000 in
theorem anew_no (w : World) (v : Value) (h : NoAdj w v) : Calls Try.prog 26 #[v] w fun e w' => e = .returned (.slice none 0 0) ∧ w = w' := by
  go_enter Try.func26, Try.ntmps26
  go_wp2_with (go_at_call 50; refine (none_no _ _ h).mono ?_; rintro e w' ⟨rfl, rfl⟩)
  go_ret
  exact ⟨rfl, rfl⟩

set_option maxHeartbeats 400000 in
theorem tick_no (w : World) (v : Value) (h : NoAdj w v) : Calls Try.prog 19 #[v] w fun e w' => e = .returned (.slice none 0 0) ∧ w = w' := by
  go_enter Try.func19, Try.ntmps19
  go_wp2_with (go_at_call 50; refine (none_no _ _ h).mono ?_; rintro e w' ⟨rfl, rfl⟩)
  go_ret
  exact ⟨rfl, rfl⟩

set_option maxHeartbeats 400000 in
theorem got_no (w : World) (v : Value) (cs : Array Value) (h : NoAdj w v) : Calls Try.prog 25 #[v, .agg cs] w fun e w' => e = .returned (.slice none 0 0) ∧ Below w.heap.size w w' := by
  go_enter Try.func25, Try.ntmps25
  go_wp2_with (go_at_call 50; refine (none_no _ _ (NoAdj.alloc h _)).mono ?_; rintro e w' ⟨rfl, rfl⟩)
  go_ret
  exact ⟨rfl, (Below.refl _ _).alloc (Nat.le_refl _) _⟩

set_option maxHeartbeats 400000 in
theorem describe_no (w : World) (v : Value) (cs : Array Value) (own : Value) (h : NoAdj w v) : Calls Try.prog 14 #[v, .agg cs, own] w fun e w' => e = .returned (.tuple #[.slice none 0 0, .int .i64 1]) ∧ Below w.heap.size w w' := by
  go_enter Try.func14, Try.ntmps14
  go_wp2_with (go_at_call 50; refine (none_no _ _ (NoAdj.alloc h _)).mono ?_; rintro e w' ⟨rfl, rfl⟩)
  refine bodyPost_ret (v := .tuple #[.slice none 0 0, .int .i64 1]) (by simp [results, Try.results14, go_sem]) rfl ⟨rfl, (Below.refl _ _).alloc (Nat.le_refl _) _⟩

set_option maxHeartbeats 400000 in
theorem asked_no (w : World) (v : Value) (ks own : Value) (h : NoAdj w v) : Calls Try.prog 24 #[v, ks, own] w fun e w' => e = .returned (.tuple #[.slice none 0 0, .slice none 0 0, .int .i64 1]) ∧ w = w' := by
  go_enter Try.func24, Try.ntmps24
  go_wp2_with (go_at_call 50; refine (none_no _ _ h).mono ?_; rintro e w' ⟨rfl, rfl⟩)
  refine bodyPost_ret (v := .tuple #[.slice none 0 0, .slice none 0 0, .int .i64 1]) (by simp [results, Try.results24, go_sem]) rfl ⟨rfl, rfl⟩

def keyOfHd (h : Od.Hd) : Od.Ky := ⟨h.t, h.i, h.v⟩
/-- A head's value. -/
def hdval (h : Od.Hd) : Value := .agg #[.int .u16 h.g, .int .u8 h.o, .int .u8 h.t, .int .u32 h.i, .int .u32 h.v, .int .i32 h.s, .int .u16 h.m, .int .u16 h.l]

set_option maxHeartbeats 400000 in
theorem key_any (w : World) (h : Od.Hd) : Calls Try.prog 59 #[hdval h] w fun e w' => e = .returned (kval (keyOfHd h)) ∧ Below w.heap.size w w' := by
  unfold hdval
  go_enter Try.func59, Try.ntmps59
  go_wp2
  refine bodyPost_ret (v := kval (keyOfHd h)) (by simp [results, Try.results59, go_sem, kval, keyOfHd]) rfl ⟨rfl, ((Below.refl _ _).alloc (Nat.le_refl _) _).alloc (by simp) _⟩
end Go.Proofs.Ytgbmhijgpdgdbaa
