/- PROVED: for every config and every step the statement LinkQuiet returns true and leaves what came in as it was. CONDITIONS: none (the first form of the statement). -/
import Derived.Test.YtgbmhijgpdgdbaaRows
import Derived.Test.YtgbmhijgpdgdbaaQuietLaw
import Derived.Test.YtgbmhijgpdgdbaaUpPeers
import Derived.Test.YtgbmhijgpdgdbaaOpenCfg
import Derived.ProofKit
import Derived.Deep.Slices
import Derived.Deep.Fields
import Derived.ChangeSame
import Derived.Lib.SmallJoins
import Derived.OpenShut
import Derived.ShutString
import Derived.ChangeOld
namespace Go.Proofs.Ytgbmhijgpdgdbaa
open Go.ChangeShapes Go.WideShapes Go.ChangeAt Go.RowKit

/-- Up, of every config that may be. -/
theorem up_all (w : World) (B N : Nat) (c : LC) (L : List (Int × Int)) (hN : N ≤ B) (hn0 : 0 ≤ c.nb) (hps : c.ps = false) (hm : MayOk c L) (hL : PeersAt w w.heap.size c.pe L) (hne : ∀ ad n k, c.pe = .slice (some ad) n k → ad.block ≠ B) (k : Blk w B 119 (lks c 0 0 0 0 0 0 0 (.slice none 0 0))) :
    Calls Try.prog 33 #[.pointer (some ⟨B, 0, none⟩)] w fun e w' => UpQ B N c w e w' := by
  cases hp : c.peers with
  | false =>
    have hL0 : L = [] := by
      by_cases h4 : c.ty = 4
      · exact (hm.vi h4).2.2.2.2.2.2
      · exact (hm.ot h4).2.2.2.2.2.1 hp
    subst hL0
    obtain ⟨A, cap, hpe, _⟩ := hL
    refine (up_np w B N c hN hn0 hm.nb hp hps ⟨A, cap, hpe⟩ k).mono ?_
    rintro e w' ⟨v, st, wt, nx, po, he, hst, hk, hb⟩
    exact ⟨v, st, 0, 0, wt, nx, po, _, he, hst, ⟨_, _, _, rfl⟩, hk, hb⟩
  | true =>
    have hlen : L.length ≤ 100000 := by
      have h4 : c.ty ≠ 4 := by
        intro h4
        simp [LC.peers, h4] at hp
      have := ((hm.ot h4).2.2.2.2.2.2 hp).1
      omega
    refine (up_peers w B N c L hN hn0 hm.nb hp hps hL hne hlen k).mono ?_
    rintro e w' ⟨v, st, wt, nx, po, l, he, hst, _, hk, hb, xs, _, _, ho⟩
    obtain ⟨a, m, rfl⟩ := own_slice ho
    exact ⟨v, st, 0, 0, wt, nx, po, _, he, hst, ⟨_, _, _, rfl⟩, hk, hb⟩

theorem lawLinkQuiet_any (w : World) (c : LC) (L : List (Int × Int)) (s0 s1 sf sr hm hv ho hp hd hr hb : Int) (GA : Option Addr) (gn gc : Nat) (hL : PeersAt w w.heap.size c.pe L) (hn0 : 0 ≤ c.nb) (had : WdOk c.ad) (hna : WdOk c.na) (hwd : ∀ p ∈ L, WdOk p.1) :
    Calls Try.prog 7 #[.agg c.cells, .agg (QCells s0 s1 sf sr hm hv ho hp hd hr hb GA gn gc)] w fun e w' => e = .returned (.bool true) ∧ Below w.heap.size w w' :=
  lawLinkQuiet_of (fun w B N c L a1 a2 a3 a4 a5 a6 a7 => up_all w B N c L a1 a2 a3 a4 a5 a6 a7) w c L s0 s1 sf sr hm hv ho hp hd hr hb GA gn gc hL hn0 had hna hwd

namespace LinkQuietRow
theorem own : ownKnob Try.prog.godebug = none := by kernel_rfl
theorem laidOut : laidOutB Try.prog = true := by kernel_rfl

set_option maxRecDepth 100000 in
theorem lifted (os : Os) (started : os.Started) (H : Type) (enc : TypeId × Value → H) :
    ReturnsInHanded {} Try.checked os 7 .any (Rows.linkQuietSpec.pre6 enc Try.prog Try.f7 Rows.linkQuietRow.domain false) (Rows.linkQuietSpec.post enc Try.prog Try.f7 false true false false) := by
  refine returnsInHanded_of_change (C := Try.checked) own started (by kernel_rfl) Try.func7
    (ChangeSpec.witness6 (enc := enc) (C := Try.checked) false ⟨#[], #[.agg #[.int .u8 0, .int .u32 0, .int .u32 0, .int .u8 0, .int .u32 0, .int .u8 0, .int .u16 0, .int .u32 0, .int .u16 0, .int .u8 0, .bool false, .bool false, .slice none 0 0, .int .u32 0], .agg #[.int .i64 0, .int .i64 0, .int .u32 0, .int .u32 0, .int .u32 0, .int .u16 0, .int .u8 0, .int .u8 0, .int .u32 0, .int .u32 0, .int .u32 0, .slice none 0 0]], []⟩ 8 (by kernel_rfl) (by kernel_rfl) (by kernel_rfl) (by kernel_rfl)) ?_
  intro W base args ds gs before hval0 hW hcnd _
  have hval : ∀ (j : Nat) t v, Try.f7.params[j]? = some t → args[j]? = some v → Value.okWide Try.prog W .any base t v := hval0
  have hW' := hW
  obtain ⟨p, q, hA0, hV, rfl, hfz, hnd⟩ := hW
  have hA : DataW.TrodAll enc Try.prog W 0 (fun _ => true) true Try.f7.params.toList args.toList ds p := hA0
  rw [Try.params7] at hA hval
  obtain ⟨v0, vs0, d0, ds0, p0, q0, hargs, rfl, rfl, h0, r0⟩ := trodAll_cons hA
  obtain ⟨v1, vs1, d1, ds1, p1, q1, rfl, rfl, rfl, h1, r1⟩ := trodAll_cons r0
  obtain ⟨rfl, rfl, rfl⟩ := trodAll_nil r1
  obtain rfl : args = #[v0, v1] := by cases args; simp_all
  obtain ⟨rfl, rfl⟩ := trodVars_none hV
  have k0 := h0
  have k1 := h1
  have lt0 : ∀ x ∈ p0, x.block < W.heap.size := by obtain ⟨m, hm⟩ := k0; exact DataW.trod_lt m _ _ _ hm
  have lt1 : ∀ x ∈ p1, x.block < W.heap.size := by obtain ⟨m, hm⟩ := k1; exact DataW.trod_lt m _ _ _ hm
  obtain ⟨c, L, rfl, hL, hn0, had, hna, hwd⟩ := open_cfg (hval 0 76 v0 rfl rfl) h0
  obtain ⟨s0, s1, sf, sr, hm, hv, ho, hp, hd, hr, hb, GA, gn, gc, rfl⟩ := open_step (hval 1 96 v1 rfl rfl) h1
  clear hA0 hval0
  refine (lawLinkQuiet_any W c L s0 s1 sf sr hm hv ho hp hd hr hb GA gn gc hL hn0 had hna hwd).mono fun e W' ⟨he, bel⟩ => ?_
  subst he
  exact ⟨_, rfl, _, _, _, [], _, [], hW', trodAll_mk1 (shut_bool Try.underlying4 _), (trodAll_cons_mk (Below.trod laidOut (by kernel_rfl) (of_decide_eq_true (by kernel_rfl)) k0 bel lt0) (trodAll_cons_mk (Below.trod laidOut (by kernel_rfl) (of_decide_eq_true (by kernel_rfl)) k1 bel lt1) trodAll_mk0)), rfl, bel.frame _, fun h => by cases h⟩

theorem over : Rows.linkQuietRow.holds Try.pinned (OpenSpec.ofChange Rows.linkQuietSpec) :=
  OpenClaim.holds_of_wide 7 Try.f7 rfl rfl rfl rfl rfl rfl rfl ⟨rfl, rfl, rfl, rfl, rfl⟩ rfl rfl rfl rfl rfl (by kernel_rfl) Try.func7 (by kernel_rfl)
    (of_decide_eq_true (by kernel_rfl)) (by unfold Func.isWrapper; first | (rw [if_pos (by decide +kernel)]; kernel_rfl) | (rw [if_neg (by decide +kernel)]; exact ⟨rfl, rfl⟩))
    (fun os started H enc _ => lifted os started H enc)
end LinkQuietRow

theorem linkQuiet_holds : Rows.LinkQuietSaid := LinkQuietRow.over
#print axioms linkQuiet_holds
end Go.Proofs.Ytgbmhijgpdgdbaa
