/- PROVED: for every config, every sender and every number of ticks the statement LinkLost returns true and leaves what came in as it was. CONDITIONS: none (the first form of the statement). -/
import Derived.Test.YtgbmhijgpdgdbaaRows
import Derived.Test.YtgbmhijgpdgdbaaLostLaw
import Derived.Test.YtgbmhijgpdgdbaaOpenCfg
import Derived.ProofKit
import Derived.Deep.Slices
import Derived.Deep.Fields
import Derived.ChangeSame
import Derived.Lib.SmallJoins
import Derived.OpenShut
import Derived.ShutString
import Derived.ChangeOld
namespace Go.Proofs.Ytgbmhijgpdgdbaa
open Go.ChangeShapes Go.WideShapes Go.ChangeAt Go.RowKit

section
variable {H : Type} {enc : TypeId × Value → H} {w : World} {base : Nat} {spare : Nat → Bool} {held : Bool}
set_option maxRecDepth 100000 in
theorem open_dd {c : LC} {d : DataW H} {p : List MemPlace} (h : DataW.Trod enc Try.prog w base spare held 76 (.agg c.cells) d p) : WdOk c.dd := by
  obtain ⟨fuel, hf⟩ := h
  obtain ⟨xs, n, _, _, _, hlen, hg⟩ := DataW.trod_struct Try.underlying76 hf
  match xs, hlen with
  | [_, _, _, _, _, _, y6, _, _, _, _, _, _], _ =>
    have t6 : DataW.trod enc Try.prog w base spare held n 25 [.int .u32 c.dd] = some y6 := by simpa [Value.cells, LC.cells, cells25] using hg 6 _ rfl
    obtain ⟨n6, q6, _, w6⟩ := DataW.trod_int Try.underlying25 t6
    injection q6 with q6
    injection q6 with _ q6
    have g6 := Opn.wfb (lo := 0) (hi := 4294967295) w6 (by decide) (by decide)
    rw [← q6] at g6
    exact ⟨g6.1, by omega⟩
end

namespace LinkLostRow
theorem own : ownKnob Try.prog.godebug = none := by kernel_rfl
theorem laidOut : laidOutB Try.prog = true := by kernel_rfl

set_option maxRecDepth 100000 in
theorem lifted (os : Os) (started : os.Started) (H : Type) (enc : TypeId × Value → H) :
    ReturnsInHanded {} Try.checked os 6 .any (Rows.linkLostSpec.pre6 enc Try.prog Try.f6 Rows.linkLostRow.domain false) (Rows.linkLostSpec.post enc Try.prog Try.f6 false true false false) := by
  refine returnsInHanded_of_change (C := Try.checked) own started (by kernel_rfl) Try.func6
    (ChangeSpec.witness6 (enc := enc) (C := Try.checked) false ⟨#[], #[.agg #[.int .u8 0, .int .u32 0, .int .u32 0, .int .u8 0, .int .u32 0, .int .u8 0, .int .u16 0, .int .u32 0, .int .u16 0, .int .u8 0, .bool false, .bool false, .slice none 0 0, .int .u32 0], .int .u32 0, .int .u8 0], []⟩ 8 (by kernel_rfl) (by kernel_rfl) (by kernel_rfl) (by kernel_rfl)) ?_
  intro W base args ds gs before hval0 hW hcnd _
  have hval : ∀ (j : Nat) t v, Try.f6.params[j]? = some t → args[j]? = some v → Value.okWide Try.prog W .any base t v := hval0
  have hW' := hW
  obtain ⟨p, q, hA0, hV, rfl, hfz, hnd⟩ := hW
  have hA : DataW.TrodAll enc Try.prog W 0 (fun _ => true) true Try.f6.params.toList args.toList ds p := hA0
  rw [Try.params6] at hA hval
  obtain ⟨v0, vs0, d0, ds0, p0, q0, hargs, rfl, rfl, h0, r0⟩ := trodAll_cons hA
  obtain ⟨v1, vs1, d1, ds1, p1, q1, rfl, rfl, rfl, h1, r1⟩ := trodAll_cons r0
  obtain ⟨v2, vs2, d2, ds2, p2, q2, rfl, rfl, rfl, h2, r2⟩ := trodAll_cons r1
  obtain ⟨rfl, rfl, rfl⟩ := trodAll_nil r2
  obtain rfl : args = #[v0, v1, v2] := by cases args; simp_all
  obtain ⟨rfl, rfl⟩ := trodVars_none hV
  have k0 := h0
  have k1 := h1
  have k2 := h2
  have lt0 : ∀ x ∈ p0, x.block < W.heap.size := by obtain ⟨m, hm⟩ := k0; exact DataW.trod_lt m _ _ _ hm
  have lt2 : ∀ x ∈ p2, x.block < W.heap.size := by obtain ⟨m, hm⟩ := k2; exact DataW.trod_lt m _ _ _ hm
  have lt1 : ∀ x ∈ p1, x.block < W.heap.size := by obtain ⟨m, hm⟩ := k1; exact DataW.trod_lt m _ _ _ hm
  obtain ⟨c, L, rfl, hL, hn0, had, hna, hwd⟩ := open_cfg (hval 0 76 v0 rfl rfl) h0
  have hdw := open_dd h0
  obtain ⟨f, rfl, -, -, -⟩ := open_int Try.underlying25 (hval 1 25 v1 rfl rfl) h1
  obtain ⟨ag, rfl, -, -, wa⟩ := open_int Try.underlying5 (hval 2 5 v2 rfl rfl) h2
  have ga := Opn.wfb (lo := 0) (hi := 255) wa (by decide) (by decide)
  clear hA0 hval0
  refine (lawLinkLost_any W c L f ag ⟨ga.1, by omega⟩ hL hn0 had hna hdw hwd).mono fun e W' ⟨he, bel⟩ => ?_
  subst he
  exact ⟨_, rfl, _, _, _, [], _, [], hW', trodAll_mk1 (shut_bool Try.underlying4 _), (trodAll_cons_mk (Below.trod laidOut (by kernel_rfl) (of_decide_eq_true (by kernel_rfl)) k0 bel lt0) (trodAll_cons_mk (Below.trod laidOut (by kernel_rfl) (of_decide_eq_true (by kernel_rfl)) k1 bel lt1) (trodAll_cons_mk (Below.trod laidOut (by kernel_rfl) (of_decide_eq_true (by kernel_rfl)) k2 bel lt2) trodAll_mk0))), rfl, bel.frame _, fun h => by cases h⟩

theorem over : Rows.linkLostRow.holds Try.pinned (OpenSpec.ofChange Rows.linkLostSpec) :=
  OpenClaim.holds_of_wide 6 Try.f6 rfl rfl rfl rfl rfl rfl rfl ⟨rfl, rfl, rfl, rfl, rfl⟩ rfl rfl rfl rfl rfl (by kernel_rfl) Try.func6 (by kernel_rfl)
    (of_decide_eq_true (by kernel_rfl)) (by unfold Func.isWrapper; first | (rw [if_pos (by decide +kernel)]; kernel_rfl) | (rw [if_neg (by decide +kernel)]; exact ⟨rfl, rfl⟩))
    (fun os started H enc _ => lifted os started H enc)
end LinkLostRow

theorem linkLost_holds : Rows.LinkLostSaid := LinkLostRow.over
#print axioms linkLost_holds
end Go.Proofs.Ytgbmhijgpdgdbaa
