/- Opening a config of a link and a step of a script. -/
import Derived.Test.YtgbmhijgpdgdbaaRows
import Derived.ProofKit
import Derived.Deep.Slices
import Derived.Deep.Fields
import Derived.ChangeSame
import Derived.Lib.SmallJoins
import Derived.OwnWalk
import Derived.Test.YtgbmhijgpdgdbaaRMayX
import Derived.Test.YtgbmhijgpdgdbaaMapU
import Derived.Test.YtgbmhijgpdgdbaaQuietLaw
namespace Go.Proofs.Ytgbmhijgpdgdbaa
def HBits (xag _xao _xat _xai _xav xas xam _xal : Int) : Prop := 0 ≤ xag ∧ xag ≤ 65535 ∧ -2147483648 ≤ xas ∧ xas ≤ 2147483647 ∧ 0 ≤ xam ∧ xam ≤ 65535
namespace Opn
open Go.Joins Go.ChangeShapes Go.WideShapes Go.RowKit Go.Deep
section
variable {H : Type} {enc : TypeId × Value → H} {P : Program} {w : World} {base : Nat} {spare : Nat → Bool} {held : Bool}
theorem open_agg8 {r : Reach} {b0 : Nat} {t : TypeId} {f0 f1 f2 f3 f4 f5 f6 f7 : Field} {v : Value} {d : DataW H} {p : List MemPlace} (hs : P.underlying t = some (.struct #[f0, f1, f2, f3, f4, f5, f6, f7])) (hone : oneCellFields P #[f0, f1, f2, f3, f4, f5, f6, f7] = true) (hC : P.cellsOf t = 8)
    (hv : Value.okWide P w r b0 t v) (h : DataW.Trod enc P w base spare held t v d p) :
    ∃ (v0 v1 v2 v3 v4 v5 v6 v7 : Value) (y0 y1 y2 y3 y4 y5 y6 y7 : DataW H × List MemPlace) (n : Nat), v = .agg #[v0, v1, v2, v3, v4, v5, v6, v7] ∧
      DataW.trod enc P w base spare held n f0.type [v0] = some y0 ∧ DataW.trod enc P w base spare held n f1.type [v1] = some y1 ∧ DataW.trod enc P w base spare held n f2.type [v2] = some y2 ∧ DataW.trod enc P w base spare held n f3.type [v3] = some y3 ∧ DataW.trod enc P w base spare held n f4.type [v4] = some y4 ∧ DataW.trod enc P w base spare held n f5.type [v5] = some y5 ∧ DataW.trod enc P w base spare held n f6.type [v6] = some y6 ∧ DataW.trod enc P w base spare held n f7.type [v7] = some y7 := by
  obtain ⟨cs, rfl, hsz⟩ := okWide_struct hs hv
  obtain ⟨l⟩ := cs
  match l, hsz.trans hC with
  | [c0, c1, c2, c3, c4, c5, c6, c7], _ =>
    obtain ⟨fuel, hf⟩ := h
    obtain ⟨xs, n, _, hx, _, hlen, hg⟩ := DataW.trod_struct hs hf
    obtain ⟨o0, k0⟩ := hone_of hone 0 f0 rfl
    obtain ⟨o1, k1⟩ := hone_of hone 1 f1 rfl
    obtain ⟨o2, k2⟩ := hone_of hone 2 f2 rfl
    obtain ⟨o3, k3⟩ := hone_of hone 3 f3 rfl
    obtain ⟨o4, k4⟩ := hone_of hone 4 f4 rfl
    obtain ⟨o5, k5⟩ := hone_of hone 5 f5 rfl
    obtain ⟨o6, k6⟩ := hone_of hone 6 f6 rfl
    obtain ⟨o7, k7⟩ := hone_of hone 7 f7 rfl
    match xs, hlen with
    | [y0, y1, y2, y3, y4, y5, y6, y7], _ =>
      exact ⟨c0, c1, c2, c3, c4, c5, c6, c7, y0, y1, y2, y3, y4, y5, y6, y7, n, rfl, by simpa [Value.cells, o0, k0] using hg 0 f0 rfl, by simpa [Value.cells, o1, k1] using hg 1 f1 rfl, by simpa [Value.cells, o2, k2] using hg 2 f2 rfl, by simpa [Value.cells, o3, k3] using hg 3 f3 rfl, by simpa [Value.cells, o4, k4] using hg 4 f4 rfl, by simpa [Value.cells, o5, k5] using hg 5 f5 rfl, by simpa [Value.cells, o6, k6] using hg 6 f6 rfl, by simpa [Value.cells, o7, k7] using hg 7 f7 rfl⟩

theorem open_agg3 {r : Reach} {b0 : Nat} {t : TypeId} {f0 f1 f2 : Field} {v : Value} {d : DataW H} {p : List MemPlace} (hs : P.underlying t = some (.struct #[f0, f1, f2])) (hone : oneCellFields P #[f0, f1, f2] = true) (hC : P.cellsOf t = 3)
    (hv : Value.okWide P w r b0 t v) (h : DataW.Trod enc P w base spare held t v d p) :
    ∃ (v0 v1 v2 : Value) (y0 y1 y2 : DataW H × List MemPlace) (n : Nat), v = .agg #[v0, v1, v2] ∧
      DataW.trod enc P w base spare held n f0.type [v0] = some y0 ∧ DataW.trod enc P w base spare held n f1.type [v1] = some y1 ∧ DataW.trod enc P w base spare held n f2.type [v2] = some y2 := by
  obtain ⟨cs, rfl, hsz⟩ := okWide_struct hs hv
  obtain ⟨l⟩ := cs
  match l, hsz.trans hC with
  | [c0, c1, c2], _ =>
    obtain ⟨fuel, hf⟩ := h
    obtain ⟨xs, n, _, hx, _, hlen, hg⟩ := DataW.trod_struct hs hf
    obtain ⟨o0, k0⟩ := hone_of hone 0 f0 rfl
    obtain ⟨o1, k1⟩ := hone_of hone 1 f1 rfl
    obtain ⟨o2, k2⟩ := hone_of hone 2 f2 rfl
    match xs, hlen with
    | [y0, y1, y2], _ =>
      exact ⟨c0, c1, c2, y0, y1, y2, n, rfl, by simpa [Value.cells, o0, k0] using hg 0 f0 rfl, by simpa [Value.cells, o1, k1] using hg 1 f1 rfl, by simpa [Value.cells, o2, k2] using hg 2 f2 rfl⟩
end

section
variable {H : Type} {enc : TypeId × Value → H} {w : World} {base : Nat} {spare : Nat → Bool} {held : Bool}
theorem oneH : oneCellFields Try.prog #[{ name := "Age", type := 26, offset := 0, embedded := false, tag := "", pkgPath := "", byteOffset := 0 }, { name := "Opts", type := 5, offset := 1, embedded := false, tag := "", pkgPath := "", byteOffset := 2 }, { name := "Type", type := 5, offset := 2, embedded := false, tag := "", pkgPath := "", byteOffset := 3 }, { name := "ID", type := 25, offset := 3, embedded := false, tag := "", pkgPath := "", byteOffset := 4 }, { name := "Adv", type := 25, offset := 4, embedded := false, tag := "", pkgPath := "", byteOffset := 8 }, { name := "Seq", type := 21, offset := 5, embedded := false, tag := "", pkgPath := "", byteOffset := 12 }, { name := "Sum", type := 26, offset := 6, embedded := false, tag := "", pkgPath := "", byteOffset := 16 }, { name := "Len", type := 26, offset := 7, embedded := false, tag := "", pkgPath := "", byteOffset := 18 }] = true := by kernel_rfl
theorem cellsH : Try.prog.cellsOf 59 = 8 := by kernel_rfl
theorem oneK : oneCellFields Try.prog #[{ name := "Type", type := 5, offset := 0, embedded := false, tag := "", pkgPath := "", byteOffset := 0 }, { name := "ID", type := 25, offset := 1, embedded := false, tag := "", pkgPath := "", byteOffset := 4 }, { name := "Adv", type := 25, offset := 2, embedded := false, tag := "", pkgPath := "", byteOffset := 8 }] = true := by kernel_rfl
theorem cellsK : Try.prog.cellsOf 56 = 3 := by kernel_rfl
theorem wfb {k : IntKind} {n lo hi : Int} (h : (Lit.int k n).wf = true) (el : k.min = lo) (eh : k.max = hi) : lo ≤ n ∧ n ≤ hi := by
  simp only [Lit.wf, Bool.and_eq_true, decide_eq_true_eq] at h
  omega

set_option maxRecDepth 100000 in
theorem open_head {r0 : Reach} {b0 : Nat} {x : Value} {d : DataW H} {p : List MemPlace}
    (hv : Value.okWide Try.prog w r0 b0 59 x) (h : DataW.Trod enc Try.prog w base spare held 59 x d p) :
    ∃ g o t i v s m l : Int, x = .agg #[.int .u16 g, .int .u8 o, .int .u8 t, .int .u32 i, .int .u32 v, .int .i32 s, .int .u16 m, .int .u16 l] ∧ HBits g o t i v s m l := by
  obtain ⟨v0, v1, v2, v3, v4, v5, v6, v7, y0, y1, y2, y3, y4, y5, y6, y7, n, rfl, t0, t1, t2, t3, t4, t5, t6, t7⟩ := open_agg8 Try.underlying59 oneH cellsH hv h
  obtain ⟨n0, q0, _, w0⟩ := DataW.trod_int Try.underlying26 t0
  obtain ⟨n1, q1, _, w1⟩ := DataW.trod_int Try.underlying5 t1
  obtain ⟨n2, q2, _, w2⟩ := DataW.trod_int Try.underlying5 t2
  obtain ⟨n3, q3, _, w3⟩ := DataW.trod_int Try.underlying25 t3
  obtain ⟨n4, q4, _, w4⟩ := DataW.trod_int Try.underlying25 t4
  obtain ⟨n5, q5, _, w5⟩ := DataW.trod_int Try.underlying21 t5
  obtain ⟨n6, q6, _, w6⟩ := DataW.trod_int Try.underlying26 t6
  obtain ⟨n7, q7, _, w7⟩ := DataW.trod_int Try.underlying26 t7
  injection q0 with q0; injection q1 with q1; injection q2 with q2; injection q3 with q3; injection q4 with q4; injection q5 with q5; injection q6 with q6; injection q7 with q7
  subst q0 q1 q2 q3 q4 q5 q6 q7
  have b0 := wfb (lo := 0) (hi := 65535) w0 (by decide) (by decide)
  have b5 := wfb (lo := -2147483648) (hi := 2147483647) w5 (by decide) (by decide)
  have b6 := wfb (lo := 0) (hi := 65535) w6 (by decide) (by decide)
  exact ⟨n0, n1, n2, n3, n4, n5, n6, n7, rfl, b0.1, b0.2, b5.1, b5.2, b6.1, b6.2⟩

end
end Opn
end Go.Proofs.Ytgbmhijgpdgdbaa

namespace Go.Proofs.Ytgbmhijgpdgdbaa
open Go.Joins Go.ChangeShapes Go.WideShapes Go.RowKit Go.Deep

section
variable {H : Type} {enc : TypeId × Value → H} {P : Program} {w : World} {base : Nat} {spare : Nat → Bool} {held : Bool}
theorem open_slice_flds {t e : TypeId} {fs : Array Field} {fuel : Nat} {cs : List Value} {x : DataW H × List MemPlace} (ht : P.underlying t = some (.slice e)) (he : P.underlying e = some (.struct fs))
    (hone : oneCellFields P fs = true) (hC : P.cellsOf e = fs.size) (h : DataW.trod enc P w base spare held fuel t cs = some x) :
    (cs = [.slice none 0 0] ∧ x = (.nil, [])) ∨
    ∃ (a : Addr) (len cap m : Nat) (D : Nat → DataW H) (Pl : Nat → List MemPlace), cs = [.slice (some a) len cap] ∧ base ≤ a.block ∧ len ≤ cap ∧ cap ≤ maxLen ∧ m = (if spare a.block then cap else len) ∧
      x = (.slice ((List.range len).map D) ((List.range (m - len)).map fun j => D (len + j)), MemPlace.row a (m * fs.size) ++ (List.range m).flatMap Pl) ∧
      ∀ i, i < m → ∃ (ys : List (DataW H × List MemPlace)) (n : Nat), D i = .agg (ys.map (·.1)) ∧ Pl i = ys.flatMap (·.2) ∧ ys.length = fs.size ∧
        ∀ (j : Nat) (f : Field), fs[j]? = some f → ∃ (v : Value) (y : DataW H × List MemPlace), w.cell? (a.add (i * fs.size + j)) = some v ∧ ys[j]? = some y ∧ DataW.trod enc P w base spare held n f.type [v] = some y := by
  rcases open_slice ht h with h0 | ⟨a, len, cap, m, n, D, Pl, hcs, hb, hl, hm, hmm, hx, hi⟩
  · exact .inl h0
  · refine .inr ⟨a, len, cap, m, D, Pl, hcs, hb, hl, hm, hmm, by rw [hC] at hx; exact hx, fun i him => ?_⟩
    obtain ⟨cs', hc, ht'⟩ := hi i him
    rw [hC] at hc
    obtain ⟨ys, n', hn', hy, hlen, hyl, hf⟩ := DataW.trod_struct he ht'
    obtain ⟨_, hcl, hat⟩ := World.cells?_some hc
    simp only [Prod.mk.injEq] at hy
    refine ⟨ys, n', hy.1, hy.2, hyl, fun j f hj => ?_⟩
    obtain ⟨ho, hk⟩ := hone_of hone j f hj
    have hjl : j < fs.size := (Array.getElem?_eq_some_iff.1 hj).1
    have hcell := hat j hjl
    have hv : cs'[j]? = some (cs'[j]'(by omega)) := List.getElem?_eq_getElem (by omega)
    have h1 := hf j f hj
    rw [ho, hk] at h1
    have hone' : (cs'.drop j).take 1 = [cs'[j]'(by omega)] := by
      rw [List.drop_eq_getElem_cons (by omega)]
      rfl
    rw [hone'] at h1
    have hys : ys[j]? = some (ys[j]'(by omega)) := List.getElem?_eq_getElem (by omega)
    refine ⟨_, _, ?_, hys, h1.trans hys⟩
    rw [← Go.Deep.add_add, hcell, hv]
end

section
variable {H : Type} {enc : TypeId × Value → H} {w : World} {base : Nat} {spare : Nat → Bool} {held : Bool}
theorem cells76 : Try.prog.cellsOf 76 = 14 := by kernel_rfl
theorem cells96 : Try.prog.cellsOf 96 = 12 := by kernel_rfl
theorem cells73 : Try.prog.cellsOf 73 = 2 := by kernel_rfl
theorem cells90 : Try.prog.cellsOf 90 = 8 := by kernel_rfl
theorem cells5 : Try.prog.cellsOf 5 = 1 := by kernel_rfl
theorem cells25 : Try.prog.cellsOf 25 = 1 := by kernel_rfl
theorem cells26 : Try.prog.cellsOf 26 = 1 := by kernel_rfl
theorem cells4 : Try.prog.cellsOf 4 = 1 := by kernel_rfl
theorem cells3 : Try.prog.cellsOf 3 = 1 := by kernel_rfl
theorem cells74 : Try.prog.cellsOf 74 = 1 := by kernel_rfl
theorem cells88 : Try.prog.cellsOf 88 = 1 := by kernel_rfl
theorem cells132 : Try.prog.cellsOf 132 = 2 := by kernel_rfl

theorem one132 : oneCellFields Try.prog #[{ name := "Addr", type := 25, offset := 0, embedded := false, tag := "", pkgPath := "", byteOffset := 0 }, { name := "Priority", type := 5, offset := 1, embedded := false, tag := "", pkgPath := "", byteOffset := 4 }] = true := by kernel_rfl

theorem pflat_div (vs : List (Int × Int)) : ∀ (J : Nat) (u : Value), (vs.flatMap pcells)[J]? = some u → ∃ v, vs[J / 2]? = some v ∧ (pcells v)[J % 2]? = some u := by
  induction vs with
  | nil => intro J u h; simp at h
  | cons x vs ih =>
    intro J u h
    rw [List.flatMap_cons] at h
    have hl : (pcells x).length = 2 := rfl
    by_cases hJ : J < 2
    · rw [List.getElem?_append_left (by rw [hl]; exact hJ)] at h
      refine ⟨x, ?_, ?_⟩
      · rw [Nat.div_eq_of_lt hJ]; rfl
      · rw [Nat.mod_eq_of_lt hJ]; exact h
    · rw [List.getElem?_append_right (by rw [hl]; omega), hl] at h
      obtain ⟨v, h1, h2⟩ := ih _ _ h
      refine ⟨v, ?_, ?_⟩
      · have : J / 2 = (J - 2) / 2 + 1 := by omega
        rw [this]; exact h1
      · have : J % 2 = (J - 2) % 2 := by omega
        rw [this]; exact h2

set_option maxRecDepth 100000 in
/-- A row of peers that came in. -/
theorem open_peers {v : Value} {fuel : Nat} {x : DataW H × List MemPlace} (h : DataW.trod enc Try.prog w base spare held fuel 74 [v] = some x) :
    ∃ L : List (Int × Int), PeersAt w w.heap.size v L ∧ ∀ p ∈ L, WdOk p.1 := by
  rcases open_slice_flds Try.underlying74 Try.underlying132 one132 cells132 h with ⟨hcs, _⟩ | ⟨a, l, c, m, D, Pl, hcs, _, hlc, hcm, hm, hx, hi⟩
  · obtain rfl : v = .slice none 0 0 := by simpa using hcs
    exact ⟨[], ⟨none, 0, rfl, Reads.none_⟩, by simp⟩
  · obtain rfl : v = .slice (some a) l c := by simpa using hcs
    have hml : l ≤ m := by rw [hm]; split <;> omega
    have key : ∀ i, ∃ u : Int × Int, i < l → WdOk u.1 ∧ ∀ j y, (pcells u)[j]? = some y → w.cell? (a.add (i * 2 + j)) = some y := by
      intro i
      by_cases hil : i < l
      · obtain ⟨ys, n, _, _, _, hf⟩ := hi i (by omega)
        obtain ⟨v0, y0, e0, _, t0⟩ := hf 0 _ rfl
        obtain ⟨v1, y1, e1, _, t1⟩ := hf 1 _ rfl
        obtain ⟨n0, q0, _, w0⟩ := DataW.trod_int Try.underlying25 t0
        obtain ⟨n1, q1, _, w1⟩ := DataW.trod_int Try.underlying5 t1
        injection q0 with q0; injection q1 with q1
        subst q0 q1
        have b0 := Opn.wfb (lo := 0) (hi := 4294967295) w0 (by decide) (by decide)
        refine ⟨(n0, n1), fun _ => ⟨⟨b0.1, by show n0 < 4294967296; omega⟩, fun j y hy => ?_⟩⟩
        match j, hy with
        | 0, hy => simp [pcells] at hy; subst hy; exact e0
        | 1, hy => simp [pcells] at hy; subst hy; exact e1
        | (j + 2), hy => simp [pcells] at hy
      · exact ⟨(0, 0), fun h => absurd h hil⟩
    obtain ⟨f, hf⟩ := Classical.axiomOfChoice key
    refine ⟨(List.range l).map f, ⟨some a, c, by simp, by rw [pflat_len], fun hn => ⟨a, rfl, ?_, fun J u hu => ?_⟩⟩, ?_⟩
    · have h0 := (hf 0 (by simpa using hn)).2 0 _ rfl
      have := World.block_lt_of_cell? w _ h0
      rwa [block_of_add] at this
    · obtain ⟨v, h1, h2⟩ := pflat_div _ _ _ hu
      have hJ : J / 2 < l := by
        have := (List.getElem?_eq_some_iff.1 h1).1
        simpa using this
      rw [List.getElem?_map, List.getElem?_range hJ] at h1
      simp at h1
      subst h1
      have := (hf (J / 2) hJ).2 _ _ h2
      rwa [show J / 2 * 2 + J % 2 = J from by omega] at this
    · intro u hu
      obtain ⟨i, hi1, rfl⟩ := List.mem_map.1 hu
      exact (hf i (List.mem_range.1 hi1)).1

set_option maxRecDepth 100000 in
set_option maxHeartbeats 1000000 in
theorem open_cfg {r0 : Reach} {b0 : Nat} {x : Value} {d : DataW H} {p : List MemPlace} (hv : Value.okWide Try.prog w r0 b0 76 x) (h : DataW.Trod enc Try.prog w base spare held 76 x d p) :
    ∃ (c : LC) (L : List (Int × Int)), x = .agg c.cells ∧ PeersAt w w.heap.size c.pe L ∧ 0 ≤ c.nb ∧ WdOk c.ad ∧ WdOk c.na ∧ ∀ p ∈ L, WdOk p.1 := by
  obtain ⟨cs, rfl, hsz⟩ := okWide_struct Try.underlying76 hv
  obtain ⟨l⟩ := cs
  match l, hsz.trans cells76 with
  | [c0, c1, c2, c3, c4, c5, c6, c7, c8, c9, c10, c11, c12, c13], _ =>
    obtain ⟨fuel, hf⟩ := h
    obtain ⟨xs, n, _, hx, _, hlen, hg⟩ := DataW.trod_struct Try.underlying76 hf
    match xs, hlen with
    | [y0, y1, y2, y3, y4, y5, y6, y7, y8, y9, y10, y11, y12], _ =>
      have t0 : DataW.trod enc Try.prog w base spare held n 5 [c0] = some y0 := by simpa [Value.cells, cells5] using hg 0 _ rfl
      have t1 : DataW.trod enc Try.prog w base spare held n 25 [c1] = some y1 := by simpa [Value.cells, cells25] using hg 1 _ rfl
      have t2 : DataW.trod enc Try.prog w base spare held n 73 [c2, c3] = some y2 := by simpa [Value.cells, cells73] using hg 2 _ rfl
      have t3 : DataW.trod enc Try.prog w base spare held n 25 [c4] = some y3 := by simpa [Value.cells, cells25] using hg 3 _ rfl
      have t4 : DataW.trod enc Try.prog w base spare held n 5 [c5] = some y4 := by simpa [Value.cells, cells5] using hg 4 _ rfl
      have t5 : DataW.trod enc Try.prog w base spare held n 26 [c6] = some y5 := by simpa [Value.cells, cells26] using hg 5 _ rfl
      have t6 : DataW.trod enc Try.prog w base spare held n 25 [c7] = some y6 := by simpa [Value.cells, cells25] using hg 6 _ rfl
      have t7 : DataW.trod enc Try.prog w base spare held n 26 [c8] = some y7 := by simpa [Value.cells, cells26] using hg 7 _ rfl
      have t8 : DataW.trod enc Try.prog w base spare held n 5 [c9] = some y8 := by simpa [Value.cells, cells5] using hg 8 _ rfl
      have t9 : DataW.trod enc Try.prog w base spare held n 4 [c10] = some y9 := by simpa [Value.cells, cells4] using hg 9 _ rfl
      have t10 : DataW.trod enc Try.prog w base spare held n 4 [c11] = some y10 := by simpa [Value.cells, cells4] using hg 10 _ rfl
      have t11 : DataW.trod enc Try.prog w base spare held n 74 [c12] = some y11 := by simpa [Value.cells, cells74] using hg 11 _ rfl
      have t12 : DataW.trod enc Try.prog w base spare held n 25 [c13] = some y12 := by simpa [Value.cells, cells25] using hg 12 _ rfl
      obtain ⟨n0, q0, _, w0⟩ := DataW.trod_int Try.underlying5 t0
      obtain ⟨n1, q1, _, w1⟩ := DataW.trod_int Try.underlying25 t1
      obtain ⟨n3, q3, _, w3⟩ := DataW.trod_int Try.underlying25 t3
      obtain ⟨n4, q4, _, w4⟩ := DataW.trod_int Try.underlying5 t4
      obtain ⟨n5, q5, _, w5⟩ := DataW.trod_int Try.underlying26 t5
      obtain ⟨n6, q6, _, w6⟩ := DataW.trod_int Try.underlying25 t6
      obtain ⟨n7, q7, _, w7⟩ := DataW.trod_int Try.underlying26 t7
      obtain ⟨n8, q8, _, w8⟩ := DataW.trod_int Try.underlying5 t8
      obtain ⟨n9, q9, _⟩ := DataW.trod_bool Try.underlying4 t9
      obtain ⟨n10, q10, _⟩ := DataW.trod_bool Try.underlying4 t10
      obtain ⟨n12, q12, _, w12⟩ := DataW.trod_int Try.underlying25 t12
      obtain ⟨zs, n2, _, _, _, hlen2, hg2⟩ := DataW.trod_struct Try.underlying73 t2
      match zs, hlen2 with
      | [z0, z1], _ =>
        have u0 : DataW.trod enc Try.prog w base spare held n2 25 [c2] = some z0 := by simpa [cells25] using hg2 0 _ rfl
        have u1 : DataW.trod enc Try.prog w base spare held n2 5 [c3] = some z1 := by simpa [cells5] using hg2 1 _ rfl
        obtain ⟨m0, r0, _, v0⟩ := DataW.trod_int Try.underlying25 u0
        obtain ⟨m1, r1, _, v1⟩ := DataW.trod_int Try.underlying5 u1
        obtain ⟨L, hL, hwd⟩ := open_peers t11
        injection r0 with r0; injection r1 with r1
        injection q0 with q0
        injection q1 with q1
        injection q3 with q3
        injection q4 with q4
        injection q5 with q5
        injection q6 with q6
        injection q7 with q7
        injection q8 with q8
        injection q9 with q9
        injection q10 with q10
        injection q12 with q12
        subst r0 r1 q0 q1 q3 q4 q5 q6 q7 q8 q9 q10 q12
        have g0 := Opn.wfb (lo := 0) (hi := 4294967295) v0 (by decide) (by decide)
        have g1 := Opn.wfb (lo := 0) (hi := 255) v1 (by decide) (by decide)
        have g3 := Opn.wfb (lo := 0) (hi := 4294967295) w3 (by decide) (by decide)
        exact ⟨{ ty := n0, ro := n1, na := m0, nb := m1, ad := n3, op := n4, hi := n5, dd := n6, po := n7, pr := n8, dm := n9, ps := n10, pe := c12, rm := n12 }, L, rfl, hL, g1.1, ⟨g3.1, by show n3 < 4294967296; omega⟩, ⟨g0.1, by show m0 < 4294967296; omega⟩, hwd⟩

set_option maxRecDepth 100000 in
set_option maxHeartbeats 1000000 in
theorem open_step {r0 : Reach} {b0 : Nat} {x : Value} {d : DataW H} {p : List MemPlace} (hv : Value.okWide Try.prog w r0 b0 96 x) (h : DataW.Trod enc Try.prog w base spare held 96 x d p) :
    ∃ (s0 s1 sf sr hm hv ho hp hd hr hb : Int) (GA : Option Addr) (gn gc : Nat), x = .agg (QCells s0 s1 sf sr hm hv ho hp hd hr hb GA gn gc) := by
  obtain ⟨cs, rfl, hsz⟩ := okWide_struct Try.underlying96 hv
  obtain ⟨l⟩ := cs
  match l, hsz.trans cells96 with
  | [c0, c1, c2, c3, c4, c5, c6, c7, c8, c9, c10, c11], _ =>
    obtain ⟨fuel, hf⟩ := h
    obtain ⟨xs, n, _, hx, _, hlen, hg⟩ := DataW.trod_struct Try.underlying96 hf
    match xs, hlen with
    | [y0, y1, y2, y3, y4], _ =>
      have t0 : DataW.trod enc Try.prog w base spare held n 3 [c0] = some y0 := by simpa [Value.cells, cells3] using hg 0 _ rfl
      have t1 : DataW.trod enc Try.prog w base spare held n 3 [c1] = some y1 := by simpa [Value.cells, cells3] using hg 1 _ rfl
      have t2 : DataW.trod enc Try.prog w base spare held n 25 [c2] = some y2 := by simpa [Value.cells, cells25] using hg 2 _ rfl
      have t3 : DataW.trod enc Try.prog w base spare held n 25 [c3] = some y3 := by simpa [Value.cells, cells25] using hg 3 _ rfl
      have t4 : DataW.trod enc Try.prog w base spare held n 90 [c4, c5, c6, c7, c8, c9, c10, c11] = some y4 := by simpa [Value.cells, cells90] using hg 4 _ rfl
      obtain ⟨n0, q0, _, _⟩ := DataW.trod_int Try.underlying3 t0
      obtain ⟨n1, q1, _, _⟩ := DataW.trod_int Try.underlying3 t1
      obtain ⟨n2_, q2, _, _⟩ := DataW.trod_int Try.underlying25 t2
      obtain ⟨n3, q3, _, _⟩ := DataW.trod_int Try.underlying25 t3
      obtain ⟨zs, n2, _, _, _, hlen2, hg2⟩ := DataW.trod_struct Try.underlying90 t4
      match zs, hlen2 with
      | [z0, z1, z2, z3, z4, z5, z6, z7], _ =>
        have u0 : DataW.trod enc Try.prog w base spare held n2 25 [c4] = some z0 := by simpa [cells25] using hg2 0 _ rfl
        have u1 : DataW.trod enc Try.prog w base spare held n2 26 [c5] = some z1 := by simpa [cells26] using hg2 1 _ rfl
        have u2 : DataW.trod enc Try.prog w base spare held n2 5 [c6] = some z2 := by simpa [cells5] using hg2 2 _ rfl
        have u3 : DataW.trod enc Try.prog w base spare held n2 5 [c7] = some z3 := by simpa [cells5] using hg2 3 _ rfl
        have u4 : DataW.trod enc Try.prog w base spare held n2 25 [c8] = some z4 := by simpa [cells25] using hg2 4 _ rfl
        have u5 : DataW.trod enc Try.prog w base spare held n2 25 [c9] = some z5 := by simpa [cells25] using hg2 5 _ rfl
        have u6 : DataW.trod enc Try.prog w base spare held n2 25 [c10] = some z6 := by simpa [cells25] using hg2 6 _ rfl
        have u7 : DataW.trod enc Try.prog w base spare held n2 88 [c11] = some z7 := by simpa [cells88] using hg2 7 _ rfl
        obtain ⟨m0, r0, _, _⟩ := DataW.trod_int Try.underlying25 u0
        obtain ⟨m1, r1, _, _⟩ := DataW.trod_int Try.underlying26 u1
        obtain ⟨m2, r2, _, _⟩ := DataW.trod_int Try.underlying5 u2
        obtain ⟨m3, r3, _, _⟩ := DataW.trod_int Try.underlying5 u3
        obtain ⟨m4, r4, _, _⟩ := DataW.trod_int Try.underlying25 u4
        obtain ⟨m5, r5, _, _⟩ := DataW.trod_int Try.underlying25 u5
        obtain ⟨m6, r6, _, _⟩ := DataW.trod_int Try.underlying25 u6
        obtain ⟨GA, gn, gc, rG⟩ : ∃ GA gn gc, c11 = .slice GA gn gc := by
          rcases open_slice Try.underlying88 u7 with ⟨hcs, _⟩ | ⟨a, l, c, m, k, D, Pl, hcs, _⟩
          · exact ⟨none, 0, 0, by simpa using hcs⟩
          · exact ⟨some a, l, c, by simpa using hcs⟩
        injection q0 with q0
        injection q1 with q1
        injection q2 with q2
        injection q3 with q3
        injection r0 with r0
        injection r1 with r1
        injection r2 with r2
        injection r3 with r3
        injection r4 with r4
        injection r5 with r5
        injection r6 with r6
        subst rG q0 q1 q2 q3 r0 r1 r2 r3 r4 r5 r6
        exact ⟨n0, n1, n2_, n3, m0, m1, m2, m3, m4, m5, m6, GA, gn, gc, rfl⟩
end
end Go.Proofs.Ytgbmhijgpdgdbaa
