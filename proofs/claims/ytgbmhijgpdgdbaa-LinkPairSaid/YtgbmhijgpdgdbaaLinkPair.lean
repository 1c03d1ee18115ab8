/- PROVED: for every two priorities, every Hello and every Dead interval the statement LinkPair returns true and leaves what came in as it was. CONDITIONS: none (the first form of the statement). -/
import Derived.Test.YtgbmhijgpdgdbaaRows
import Derived.Test.YtgbmhijgpdgdbaaPairLaw
import Derived.Test.YtgbmhijgpdgdbaaOpenCfg
import Derived.ProofKit
import Derived.Deep.Slices
import Derived.Deep.Fields
import Derived.ChangeSame
import Derived.Lib.SmallJoins
import Derived.OpenShut
import Derived.ShutString
import Derived.ChangeOld
namespace Go.Proofs.Ytgbmhijgpdgdbaa
open Go.ChangeShapes Go.WideShapes Go.ChangeAt Go.RowKit

section
variable {H : Type} {enc : TypeId × Value → H} {w : World} {base : Nat} {spare : Nat → Bool} {held : Bool}
set_option maxRecDepth 100000 in
theorem open_two {r0 : Reach} {b0 : Nat} {x : Value} {d : DataW H} {p : List MemPlace} (hv : Value.okWide Try.prog w r0 b0 100 x) (h : DataW.Trod enc Try.prog w base spare held 100 x d p) :
    ∃ a b : Int, x = .agg #[.int .u8 a, .int .u8 b] ∧ (0 ≤ a ∧ a < 256) ∧ 0 ≤ b ∧ b < 256 := by
  obtain ⟨cs, rfl, hsz, _⟩ : ∃ cs, x = .agg cs ∧ cs.size = Try.prog.cellsOf 100 ∧ Row.okWide Try.prog w r0 b0 100 cs := by
    simpa [Value.okWide, Try.underlying100] using hv
  obtain ⟨l⟩ := cs
  have e5 : Try.prog.cellsOf 5 = 1 := by kernel_rfl
  have e100 : Try.prog.cellsOf 100 = 2 := by kernel_rfl
  match l, hsz.trans e100 with
  | [c0, c1], _ =>
    obtain ⟨fuel, hf⟩ := h
    obtain ⟨xs, n, _, hx, _, hlen, hg⟩ := DataW.trod_array Try.underlying100 hf
    match xs, hlen with
    | [y0, y1], _ =>
      have t0 : DataW.trod enc Try.prog w base spare held n 5 [c0] = some y0 := by simpa [Value.cells, e5] using hg 0 (by decide)
      have t1 : DataW.trod enc Try.prog w base spare held n 5 [c1] = some y1 := by simpa [Value.cells, e5] using hg 1 (by decide)
      obtain ⟨n0, q0, _, w0⟩ := DataW.trod_int Try.underlying5 t0
      obtain ⟨n1, q1, _, w1⟩ := DataW.trod_int Try.underlying5 t1
      injection q0 with q0
      injection q1 with q1
      subst q0 q1
      have g0 := Opn.wfb (lo := 0) (hi := 255) w0 (by decide) (by decide)
      have g1 := Opn.wfb (lo := 0) (hi := 255) w1 (by decide) (by decide)
      exact ⟨n0, n1, rfl, ⟨g0.1, by omega⟩, g1.1, by omega⟩
end

namespace LinkPairRow
theorem own : ownKnob Try.prog.godebug = none := by kernel_rfl
theorem laidOut : laidOutB Try.prog = true := by kernel_rfl

set_option maxRecDepth 100000 in
theorem lifted (os : Os) (started : os.Started) (H : Type) (enc : TypeId × Value → H) :
    ReturnsInHanded {} Try.checked os 8 .any (Rows.linkPairSpec.pre6 enc Try.prog Try.f8 Rows.linkPairRow.domain false) (Rows.linkPairSpec.post enc Try.prog Try.f8 false true false false) := by
  refine returnsInHanded_of_change (C := Try.checked) own started (by kernel_rfl) Try.func8
    (ChangeSpec.witness6 (enc := enc) (C := Try.checked) false ⟨#[], #[.agg #[.int .u8 0, .int .u8 0], .int .u16 0, .int .u32 0], []⟩ 8 (by kernel_rfl) (by kernel_rfl) (by kernel_rfl) (by kernel_rfl)) ?_
  intro W base args ds gs before hval0 hW hcnd _
  have hval : ∀ (j : Nat) t v, Try.f8.params[j]? = some t → args[j]? = some v → Value.okWide Try.prog W .any base t v := hval0
  have hW' := hW
  obtain ⟨p, q, hA0, hV, rfl, hfz, hnd⟩ := hW
  have hA : DataW.TrodAll enc Try.prog W 0 (fun _ => true) true Try.f8.params.toList args.toList ds p := hA0
  rw [Try.params8] at hA hval
  obtain ⟨v0, vs0, d0, ds0, p0, q0, hargs, rfl, rfl, h0, r0⟩ := trodAll_cons hA
  obtain ⟨v1, vs1, d1, ds1, p1, q1, rfl, rfl, rfl, h1, r1⟩ := trodAll_cons r0
  obtain ⟨v2, vs2, d2, ds2, p2, q2, rfl, rfl, rfl, h2, r2⟩ := trodAll_cons r1
  obtain ⟨rfl, rfl, rfl⟩ := trodAll_nil r2
  obtain rfl : args = #[v0, v1, v2] := by cases args; simp_all
  obtain ⟨rfl, rfl⟩ := trodVars_none hV
  have k0 := h0
  have k1 := h1
  have k2 := h2
  have lt0 : ∀ x ∈ p0, x.block < W.heap.size := by obtain ⟨m, hm⟩ := k0; exact DataW.trod_lt m _ _ _ hm
  have lt2 : ∀ x ∈ p2, x.block < W.heap.size := by obtain ⟨m, hm⟩ := k2; exact DataW.trod_lt m _ _ _ hm
  have lt1 : ∀ x ∈ p1, x.block < W.heap.size := by obtain ⟨m, hm⟩ := k1; exact DataW.trod_lt m _ _ _ hm
  obtain ⟨a, b, rfl, ga, gb⟩ := open_two (hval 0 100 v0 rfl rfl) h0
  obtain ⟨x, rfl, -, -, wx⟩ := open_int Try.underlying26 (hval 1 26 v1 rfl rfl) h1
  obtain ⟨y, rfl, -, -, wy⟩ := open_int Try.underlying25 (hval 2 25 v2 rfl rfl) h2
  have gx := Opn.wfb (lo := 0) (hi := 65535) wx (by decide) (by decide)
  have gy := Opn.wfb (lo := 0) (hi := 4294967295) wy (by decide) (by decide)
  clear hA0 hval0
  refine (lawLinkPair_any W a b x y ga gb ⟨gx.1, by omega⟩ ⟨gy.1, by omega⟩).mono fun e W' ⟨he, bel⟩ => ?_
  subst he
  exact ⟨_, rfl, _, _, _, [], _, [], hW', trodAll_mk1 (shut_bool Try.underlying4 _), (trodAll_cons_mk (Below.trod laidOut (by kernel_rfl) (of_decide_eq_true (by kernel_rfl)) k0 bel lt0) (trodAll_cons_mk (Below.trod laidOut (by kernel_rfl) (of_decide_eq_true (by kernel_rfl)) k1 bel lt1) (trodAll_cons_mk (Below.trod laidOut (by kernel_rfl) (of_decide_eq_true (by kernel_rfl)) k2 bel lt2) trodAll_mk0))), rfl, bel.frame _, fun h => by cases h⟩

theorem over : Rows.linkPairRow.holds Try.pinned (OpenSpec.ofChange Rows.linkPairSpec) :=
  OpenClaim.holds_of_wide 8 Try.f8 rfl rfl rfl rfl rfl rfl rfl ⟨rfl, rfl, rfl, rfl, rfl⟩ rfl rfl rfl rfl rfl (by kernel_rfl) Try.func8 (by kernel_rfl)
    (of_decide_eq_true (by kernel_rfl)) (by unfold Func.isWrapper; first | (rw [if_pos (by decide +kernel)]; kernel_rfl) | (rw [if_neg (by decide +kernel)]; exact ⟨rfl, rfl⟩))
    (fun os started H enc _ => lifted os started H enc)
end LinkPairRow

theorem linkPair_holds : Rows.LinkPairSaid := LinkPairRow.over
#print axioms linkPair_holds
end Go.Proofs.Ytgbmhijgpdgdbaa
