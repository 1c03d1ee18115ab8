/- Opening the argument: a voice by value. -/
import Derived.Test.YtepliggmcpkmdaaOpen
namespace Go.Proofs.Ytepliggmcpkmdaa
open Go.Joins Go.ChangeShapes Go.WideShapes Go.RowKit Go.Deep

theorem open_voice {H : Type} {enc : TypeId × Value → H} {w : World} {base : Nat} {spare : Nat → Bool} {held : Bool} {r0 : Reach} {b0 : Nat} {v : Value} {d : DataW H} {p : List MemPlace}
    (hv : Value.okWide Try.prog w r0 b0 33 v) (h : DataW.Trod enc Try.prog w base spare held 33 v d p) :
    ∃ r a q e b : Int, v = .agg #[.int .u32 r, .int .u32 a, .int .u8 q, .int .u32 e, .int .u32 b] ∧ 0 ≤ q := by
  obtain ⟨v0, v1, v2, v3, v4, y0, y1, y2, y3, y4, n, rfl, _, _, t0, t1, t2, t3, t4⟩ := open_agg5 Try.underlying33 one33 cells33 hv h
  obtain ⟨n0, q0, _, _⟩ := DataW.trod_int Try.underlying26 t0
  obtain ⟨n1, q1, _, _⟩ := DataW.trod_int Try.underlying26 t1
  obtain ⟨n2, q2, _, w2⟩ := DataW.trod_int Try.underlying5 t2
  obtain ⟨n3, q3, _, _⟩ := DataW.trod_int Try.underlying26 t3
  obtain ⟨n4, q4, _, _⟩ := DataW.trod_int Try.underlying26 t4
  injection q0 with q0; injection q1 with q1; injection q2 with q2; injection q3 with q3; injection q4 with q4
  subst q0 q1 q2 q3 q4
  exact ⟨n0, n1, n2, n3, n4, rfl, wf_u8 w2⟩

end Go.Proofs.Ytepliggmcpkmdaa
