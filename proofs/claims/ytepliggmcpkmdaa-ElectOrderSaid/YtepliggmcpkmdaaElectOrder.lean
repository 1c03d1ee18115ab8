/- PROVED: for every router, every list of other voices, every turn, the statement ElectOrder returns true and leaves its arguments as they were. CONDITIONS: none (the first form of the statement). -/
import Derived.Test.YtepliggmcpkmdaaOpenVoice
import Derived.Test.YtepliggmcpkmdaaOpenCap
import Derived.Test.YtepliggmcpkmdaaOrderLaw
import Derived.OpenShut
import Derived.ShutString
import Derived.ChangeOld
namespace Go.Proofs.Ytepliggmcpkmdaa
open Go.ChangeShapes Go.WideShapes Go.ChangeAt Go.RowKit

namespace ElectOrderRow
theorem own : ownKnob Try.prog.godebug = none := by kernel_rfl
theorem laidOut : laidOutB Try.prog = true := by kernel_rfl

set_option maxRecDepth 100000 in
theorem lifted (os : Os) (started : os.Started) (H : Type) (enc : TypeId × Value → H) :
    ReturnsInHanded {} Try.checked os 7 .any (Rows.electOrderSpec.pre6 enc Try.prog Try.f7 Rows.electOrderRow.domain false) (Rows.electOrderSpec.post enc Try.prog Try.f7 false true false false) := by
  refine returnsInHanded_of_change (C := Try.checked) own started (by kernel_rfl) Try.func7
    (ChangeSpec.witness6 (enc := enc) (C := Try.checked) false ⟨#[], #[.agg #[.int .u32 0, .int .u32 0, .int .u8 0, .int .u32 0, .int .u32 0], .slice none 0 0, .int .u8 0], []⟩ 8 (by kernel_rfl) (by kernel_rfl) (by kernel_rfl) (by kernel_rfl)) ?_
  intro W base args ds gs before hval0 hW hcnd _
  have hval : ∀ (j : Nat) t v, Try.f7.params[j]? = some t → args[j]? = some v → Value.okWide Try.prog W .any base t v := hval0
  have hW' := hW
  obtain ⟨p, q, hA0, hV, rfl, hfz, hnd⟩ := hW
  have hA : DataW.TrodAll enc Try.prog W 0 (fun _ => true) true Try.f7.params.toList args.toList ds p := hA0
  rw [Try.params7] at hA hval
  obtain ⟨v0, v1, v2, d0, d1, d2, p0, p1, p2, rfl, rfl, rfl, h0, h1, h2⟩ := trodAll_three hA
  obtain ⟨rfl, rfl⟩ := trodVars_none hV
  have k0 := h0
  have k1 := h1
  obtain ⟨r, a, pr, e0, b, rfl, h0p⟩ := open_voice (hval 0 33 v0 rfl rfl) h0
  obtain ⟨a0, len0, cap0, rfl⟩ := okWide_slice Try.underlying22 (hval 1 22 v1 rfl rfl)
  obtain ⟨by_, rfl, rfl, rfl, wby⟩ := open_int Try.underlying5 (hval 2 5 v2 rfl rfl) h2
  have lt0 : ∀ x ∈ p0, x.block < W.heap.size := by obtain ⟨m, hm⟩ := k0; exact DataW.trod_lt m _ _ _ hm
  have lt1 : ∀ x ∈ p1, x.block < W.heap.size := by obtain ⟨m, hm⟩ := k1; exact DataW.trod_lt m _ _ _ hm
  obtain ⟨vs, hlen, hml, hr, hps⟩ : ∃ vs : List El.V, vs.length = len0 ∧ len0 ≤ maxLen ∧ Reads W W.heap.size 5 a0 len0 (vs.flatMap cells) ∧ ∀ u ∈ vs, 0 ≤ u.p := by
    obtain ⟨fuel, hf⟩ := h1
    exact open_voices hf rfl
  clear hA0 hval0
  refine (lawOrder_any r a pr e0 b by_ a0 len0 cap0 vs W hlen hml wby (open_cap k1) hr).mono fun e W' ⟨he, bel⟩ => ?_
  subst he
  exact ⟨_, rfl, _, _, _, [], _, [], hW', trodAll_mk1 (shut_bool Try.underlying4 _), (trodAll_mk3 (Below.trod laidOut (by kernel_rfl) (of_decide_eq_true (by kernel_rfl)) k0 bel lt0) (Below.trod laidOut (by kernel_rfl) (of_decide_eq_true (by kernel_rfl)) k1 bel lt1) (shut_int Try.underlying5 wby)), rfl, bel.frame _, fun h => by cases h⟩

theorem over : Rows.electOrderRow.holds Try.pinned (OpenSpec.ofChange Rows.electOrderSpec) :=
  OpenClaim.holds_of_wide 7 Try.f7 rfl rfl rfl rfl rfl rfl rfl ⟨rfl, rfl, rfl, rfl, rfl⟩ rfl rfl rfl rfl rfl (by kernel_rfl) Try.func7 (by kernel_rfl)
    (of_decide_eq_true (by kernel_rfl)) (by unfold Func.isWrapper; first | (rw [if_pos (by decide +kernel)]; kernel_rfl) | (rw [if_neg (by decide +kernel)]; exact ⟨rfl, rfl⟩))
    (fun os started H enc _ => lifted os started H enc)
end ElectOrderRow

theorem electOrder_holds : Rows.ElectOrderSaid := ElectOrderRow.over
#print axioms electOrder_holds
end Go.Proofs.Ytepliggmcpkmdaa
