/- PROVED: for any heads of two routers, any of the first messages lost and any numbers to begin with, the statement AdjacentFull returns true and leaves what came in as it was. CONDITIONS: none (the first form of the statement). -/
import Derived.Test.YtgbmhijgpdgdbaaRows
import Derived.Test.YtgbmhijgpdgdbaaFaOpenPair
import Derived.Test.YtgbmhijgpdgdbaaFaFullAny
import Derived.OpenShut
import Derived.ShutString
import Derived.ChangeOld
namespace Go.Proofs.Ytgbmhijgpdgdbaa
open Go.ChangeShapes Go.WideShapes Go.ChangeAt Go.RowKit

namespace AdjacentFullRow
theorem own : ownKnob Try.prog.godebug = none := by kernel_rfl
theorem laidOut : laidOutB Try.prog = true := by kernel_rfl

set_option maxRecDepth 100000 in
theorem lifted (os : Os) (started : os.Started) (H : Type) (enc : TypeId × Value → H) :
    ReturnsInHanded {} Try.checked os 4 .any (Rows.adjacentFullSpec.pre6 enc Try.prog Try.f4 Rows.adjacentFullRow.domain false) (Rows.adjacentFullSpec.post enc Try.prog Try.f4 false true false false) := by
  refine returnsInHanded_of_change (C := Try.checked) own started (by kernel_rfl) Try.func4
    (ChangeSpec.witness6 (enc := enc) (C := Try.checked) false ⟨#[], #[.agg #[.slice none 0 0, .slice none 0 0, .slice none 0 0, .int .u32 0, .int .u32 0]], []⟩ 8 (by kernel_rfl) (by kernel_rfl) (by kernel_rfl) (by kernel_rfl)) ?_
  intro W base args ds gs before hval0 hW hcnd _
  have hval : ∀ (j : Nat) t v, Try.f4.params[j]? = some t → args[j]? = some v → Value.okWide Try.prog W .any base t v := hval0
  have hW' := hW
  obtain ⟨p, q, hA0, hV, rfl, hfz, hnd⟩ := hW
  have hA : DataW.TrodAll enc Try.prog W 0 (fun _ => true) true Try.f4.params.toList args.toList ds p := hA0
  rw [Try.params4] at hA hval
  obtain ⟨v0, vs0, d0, ds0, p0, q0, hargs, rfl, rfl, h0, r0⟩ := trodAll_cons hA
  obtain ⟨rfl, rfl, rfl⟩ := trodAll_nil r0
  obtain rfl : args = #[v0] := by cases args; simp_all
  obtain ⟨rfl, rfl⟩ := trodVars_none hV
  have k0 := h0
  have lt0 : ∀ x ∈ p0, x.block < W.heap.size := by obtain ⟨m, hm⟩ := k0; exact DataW.trod_lt m _ _ _ hm
  obtain ⟨A, B, L, na, ca, nb, cb, nl, cl, lA, lB, lost, s0, s1, rfl, hAA, hrA, hfA, hBB, hrB, hfB, hL, hll, g0, g1⟩ := open_pair (hval 0 47 v0 rfl rfl) h0
  clear hA0 hval0
  refine (lawFull_any W A B L na ca nb cb nl cl lA lB lost s0 s1 hAA hrA hfA hBB hrB hfB hL hll g0 g1).mono fun e W' ⟨he, bel⟩ => ?_
  subst he
  exact ⟨_, rfl, _, _, _, [], _, [], hW', trodAll_mk1 (shut_bool Try.underlying4 _), (trodAll_cons_mk (Below.trod laidOut (by kernel_rfl) (of_decide_eq_true (by kernel_rfl)) k0 bel lt0) trodAll_mk0), rfl, bel.frame _, fun h => by cases h⟩

theorem over : Rows.adjacentFullRow.holds Try.pinned (OpenSpec.ofChange Rows.adjacentFullSpec) :=
  OpenClaim.holds_of_wide 4 Try.f4 rfl rfl rfl rfl rfl rfl rfl ⟨rfl, rfl, rfl, rfl, rfl⟩ rfl rfl rfl rfl rfl (by kernel_rfl) Try.func4 (by kernel_rfl)
    (of_decide_eq_true (by kernel_rfl)) (by unfold Func.isWrapper; first | (rw [if_pos (by decide +kernel)]; kernel_rfl) | (rw [if_neg (by decide +kernel)]; exact ⟨rfl, rfl⟩))
    (fun os started H enc _ => lifted os started H enc)
end AdjacentFullRow

theorem adjacentFull_holds : Rows.AdjacentFullSaid := AdjacentFullRow.over
#print axioms adjacentFull_holds
end Go.Proofs.Ytgbmhijgpdgdbaa
