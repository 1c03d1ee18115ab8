/- The leaves: does a voice name itself; each a call that only makes blocks of its own. -/
import Derived.Test.YtepliggmcpkmdaaRows
import Derived.Test.YtepliggmcpkmdaaPlain
import Derived.WalkKit
import Derived.WalkSpells
import Derived.WalkLawsBesides
namespace Go.Proofs.Ytepliggmcpkmdaa
open Go.RowKit

theorem bcell {W w1 : World} (hb : Below W.heap.size W w1) : (∀ b o, b < W.heap.size → w1.cell? ⟨b, o, none⟩ = W.cell? ⟨b, o, none⟩) ∧ (∀ b o, b < W.heap.size → w1.frozen? ⟨b, o, none⟩ = W.frozen? ⟨b, o, none⟩) :=
  ⟨fun b o h => hb.cell (p := ⟨b, o, none⟩) h, fun b o h => hb.frozen (p := ⟨b, o, none⟩) h⟩

/-- The five cells of a voice. -/
def cells (v : El.V) : List Value := [.int .u32 v.r, .int .u32 v.a, .int .u8 v.p, .int .u32 v.d, .int .u32 v.b]

set_option maxHeartbeats 400000 in
theorem chief_any (r a p d b : Int) (w : World) :
    Calls Try.prog 17 #[.agg #[.int .u32 r, .int .u32 a, .int .u8 p, .int .u32 d, .int .u32 b]] w fun e w' => e = .returned (.bool (El.chief ⟨r, a, p, d, b⟩)) ∧ Below w.heap.size w w' := by
  by_cases h0 : a = 0
  · subst h0
    go_enter Try.func17, Try.ntmps17
    go_wp2
    go_ret
    exact ⟨rfl, (Below.refl _ _).alloc (Nat.le_refl _) _⟩
  · have h2 : (a != 0) = true := by simpa using h0
    go_enter Try.func17, Try.ntmps17
    go_wp2
    go_ret
    exact ⟨by simp [El.chief, h0], (Below.refl _ _).alloc (Nat.le_refl _) _⟩

set_option maxHeartbeats 400000 in
theorem backup_any (r a p d b : Int) (w : World) :
    Calls Try.prog 18 #[.agg #[.int .u32 r, .int .u32 a, .int .u8 p, .int .u32 d, .int .u32 b]] w fun e w' => e = .returned (.bool (El.backup ⟨r, a, p, d, b⟩)) ∧ Below w.heap.size w w' := by
  by_cases h0 : a = 0
  · subst h0
    go_enter Try.func18, Try.ntmps18
    go_wp2
    go_ret
    exact ⟨rfl, (Below.refl _ _).alloc (Nat.le_refl _) _⟩
  · have h2 : (a != 0) = true := by simpa using h0
    go_enter Try.func18, Try.ntmps18
    go_wp2
    go_ret
    exact ⟨by simp [El.backup, h0], (Below.refl _ _).alloc (Nat.le_refl _) _⟩

set_option maxHeartbeats 400000 in
theorem rchief_any (r a p d b : Int) (w : World) :
    Calls Try.prog 20 #[.agg #[.int .u32 r, .int .u32 a, .int .u8 p, .int .u32 d, .int .u32 b]] w fun e w' => e = .returned (.bool (El.chief ⟨r, a, p, d, b⟩)) ∧ Below w.heap.size w w' := by
  by_cases h0 : a = 0
  · subst h0
    go_enter Try.func20, Try.ntmps20
    go_wp2
    go_ret
    exact ⟨rfl, (Below.refl _ _).alloc (Nat.le_refl _) _⟩
  · have h2 : (a != 0) = true := by simpa using h0
    go_enter Try.func20, Try.ntmps20
    go_wp2
    go_ret
    exact ⟨by simp [El.chief, h0], (Below.refl _ _).alloc (Nat.le_refl _) _⟩

set_option maxHeartbeats 400000 in
theorem rbackup_any (r a p d b : Int) (w : World) :
    Calls Try.prog 21 #[.agg #[.int .u32 r, .int .u32 a, .int .u8 p, .int .u32 d, .int .u32 b]] w fun e w' => e = .returned (.bool (El.backup ⟨r, a, p, d, b⟩)) ∧ Below w.heap.size w w' := by
  by_cases h0 : a = 0
  · subst h0
    go_enter Try.func21, Try.ntmps21
    go_wp2
    go_ret
    exact ⟨rfl, (Below.refl _ _).alloc (Nat.le_refl _) _⟩
  · have h2 : (a != 0) = true := by simpa using h0
    go_enter Try.func21, Try.ntmps21
    go_wp2
    go_ret
    exact ⟨by simp [El.backup, h0], (Below.refl _ _).alloc (Nat.le_refl _) _⟩

/-- What a question about a voice answers. -/
def Asks (f : FuncId) (c : El.V → Bool) : Prop := ∀ (r a p d b : Int) (w : World),
    Calls Try.prog f #[.agg #[.int .u32 r, .int .u32 a, .int .u8 p, .int .u32 d, .int .u32 b]] w fun e w' => e = .returned (.bool (c ⟨r, a, p, d, b⟩)) ∧ Below w.heap.size w w'

theorem asks_chief : Asks 17 El.chief := chief_any

set_option maxHeartbeats 400000 in
theorem asks_rest : Asks 19 (fun v => !El.chief v) := by
  intro r a p d b w
  go_enter Try.func19, Try.ntmps19
  go_wp2_with (go_at_call 17; refine (chief_any _ _ _ _ _ _).mono ?_; rintro e w' ⟨rfl, hb⟩)
  go_ret
  exact ⟨rfl, ((Below.refl _ _).alloc (Nat.le_refl _) _).trans (hb.mono (by simp))⟩

set_option maxHeartbeats 400000 in
theorem asks_backup : Asks 16 (fun v => !El.chief v && El.backup v) := by
  intro r a p d b w
  cases hc : El.chief ⟨r, a, p, d, b⟩
  all_goals
    go_enter Try.func16, Try.ntmps16
    go_wp2_with fail
    refine (chief_any _ _ _ _ _ _).mono ?_
    rintro e w1 ⟨rfl, hb⟩
    obtain ⟨hcl, hfz⟩ := bcell hb
    have hz : w.heap.size + 1 ≤ w1.heap.size := by have := hb.size; simpa using this
    go_wp2_with fail
  · refine (backup_any _ _ _ _ _ _).mono ?_
    rintro e w2 ⟨rfl, hb2⟩
    go_wp2
    go_ret
    exact ⟨by simp [hc], (((Below.refl _ _).alloc (Nat.le_refl _) _).trans (hb.mono (by simp))).trans (hb2.mono (by omega))⟩
  · go_wp2
    go_ret
    exact ⟨by simp [hc], ((Below.refl _ _).alloc (Nat.le_refl _) _).trans (hb.mono (by simp))⟩

end Go.Proofs.Ytepliggmcpkmdaa
