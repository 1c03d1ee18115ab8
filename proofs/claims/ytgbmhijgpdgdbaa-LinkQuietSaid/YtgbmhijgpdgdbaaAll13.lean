/- The iterator over a link's neighbours is made. -/
import Derived.Test.YtgbmhijgpdgdbaaLinkNo
namespace Go.Proofs.Ytgbmhijgpdgdbaa
open Go.RowKit

set_option maxHeartbeats 400000 in
theorem all_made (w : World) (v f : Value) (hv : ∃ B, v = .pointer (some ⟨B, 0, none⟩)) (hf : ∃ fn a c, f = .func fn a c) :
    Calls Try.prog 86 #[v, f] w fun e w' => e = .returned (.func (.func 124) #[] #[.pointer (some ⟨w.heap.size, 0, none⟩), .pointer (some ⟨w.heap.size + 1, 0, none⟩)]) ∧ Below w.heap.size w w' ∧ w'.cell? ⟨w.heap.size, 0, none⟩ = some v ∧ w'.cell? ⟨w.heap.size + 1, 0, none⟩ = some f := by
  obtain ⟨B, rfl⟩ := hv
  obtain ⟨fn, a, c, rfl⟩ := hf
  have hmf : ∀ (fn : Fn) (first cap : Array Value) (w : World), (Instr.makeFunc fn first cap).run Try.prog w = .ok (.func fn first cap) w := fun _ _ _ _ => rfl
  go_enter Try.func86, Try.ntmps86
  go_wp2_with fail
  go_ret
  refine ⟨rfl, ?_, ?_, ?_⟩
  · exact ((Below.refl _ _).alloc (Nat.le_refl _) _).alloc (by simp) _
  · simp
  · simp
end Go.Proofs.Ytgbmhijgpdgdbaa
