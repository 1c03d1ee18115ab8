/- Opening a pair of two routers' heads. -/
import Derived.Test.YtgbmhijgpdgdbaaRows
import Derived.ProofKit
import Derived.Deep.Slices
import Derived.Deep.Fields
import Derived.ChangeSame
import Derived.Lib.SmallJoins
import Derived.Test.YtgbmhijgpdgdbaaFaUnlike
import Derived.OwnWalk
import Derived.Test.YtgbmhijgpdgdbaaFaLearn
import Derived.Deep.Grids
namespace Go.Proofs.Ytgbmhijgpdgdbaa
def HBits (xag _xao _xat _xai _xav xas xam _xal : Int) : Prop := 0 ≤ xag ∧ xag ≤ 65535 ∧ -2147483648 ≤ xas ∧ xas ≤ 2147483647 ∧ 0 ≤ xam ∧ xam ≤ 65535
namespace Opn
open Go.Joins Go.ChangeShapes Go.WideShapes Go.RowKit Go.Deep
section
variable {H : Type} {enc : TypeId × Value → H} {P : Program} {w : World} {base : Nat} {spare : Nat → Bool} {held : Bool}
theorem open_agg8 {r : Reach} {b0 : Nat} {t : TypeId} {f0 f1 f2 f3 f4 f5 f6 f7 : Field} {v : Value} {d : DataW H} {p : List MemPlace} (hs : P.underlying t = some (.struct #[f0, f1, f2, f3, f4, f5, f6, f7])) (hone : oneCellFields P #[f0, f1, f2, f3, f4, f5, f6, f7] = true) (hC : P.cellsOf t = 8)
    (hv : Value.okWide P w r b0 t v) (h : DataW.Trod enc P w base spare held t v d p) :
    ∃ (v0 v1 v2 v3 v4 v5 v6 v7 : Value) (y0 y1 y2 y3 y4 y5 y6 y7 : DataW H × List MemPlace) (n : Nat), v = .agg #[v0, v1, v2, v3, v4, v5, v6, v7] ∧
      DataW.trod enc P w base spare held n f0.type [v0] = some y0 ∧ DataW.trod enc P w base spare held n f1.type [v1] = some y1 ∧ DataW.trod enc P w base spare held n f2.type [v2] = some y2 ∧ DataW.trod enc P w base spare held n f3.type [v3] = some y3 ∧ DataW.trod enc P w base spare held n f4.type [v4] = some y4 ∧ DataW.trod enc P w base spare held n f5.type [v5] = some y5 ∧ DataW.trod enc P w base spare held n f6.type [v6] = some y6 ∧ DataW.trod enc P w base spare held n f7.type [v7] = some y7 := by
  obtain ⟨cs, rfl, hsz⟩ := okWide_struct hs hv
  obtain ⟨l⟩ := cs
  match l, hsz.trans hC with
  | [c0, c1, c2, c3, c4, c5, c6, c7], _ =>
    obtain ⟨fuel, hf⟩ := h
    obtain ⟨xs, n, _, hx, _, hlen, hg⟩ := DataW.trod_struct hs hf
    obtain ⟨o0, k0⟩ := hone_of hone 0 f0 rfl
    obtain ⟨o1, k1⟩ := hone_of hone 1 f1 rfl
    obtain ⟨o2, k2⟩ := hone_of hone 2 f2 rfl
    obtain ⟨o3, k3⟩ := hone_of hone 3 f3 rfl
    obtain ⟨o4, k4⟩ := hone_of hone 4 f4 rfl
    obtain ⟨o5, k5⟩ := hone_of hone 5 f5 rfl
    obtain ⟨o6, k6⟩ := hone_of hone 6 f6 rfl
    obtain ⟨o7, k7⟩ := hone_of hone 7 f7 rfl
    match xs, hlen with
    | [y0, y1, y2, y3, y4, y5, y6, y7], _ =>
      exact ⟨c0, c1, c2, c3, c4, c5, c6, c7, y0, y1, y2, y3, y4, y5, y6, y7, n, rfl, by simpa [Value.cells, o0, k0] using hg 0 f0 rfl, by simpa [Value.cells, o1, k1] using hg 1 f1 rfl, by simpa [Value.cells, o2, k2] using hg 2 f2 rfl, by simpa [Value.cells, o3, k3] using hg 3 f3 rfl, by simpa [Value.cells, o4, k4] using hg 4 f4 rfl, by simpa [Value.cells, o5, k5] using hg 5 f5 rfl, by simpa [Value.cells, o6, k6] using hg 6 f6 rfl, by simpa [Value.cells, o7, k7] using hg 7 f7 rfl⟩

theorem open_agg3 {r : Reach} {b0 : Nat} {t : TypeId} {f0 f1 f2 : Field} {v : Value} {d : DataW H} {p : List MemPlace} (hs : P.underlying t = some (.struct #[f0, f1, f2])) (hone : oneCellFields P #[f0, f1, f2] = true) (hC : P.cellsOf t = 3)
    (hv : Value.okWide P w r b0 t v) (h : DataW.Trod enc P w base spare held t v d p) :
    ∃ (v0 v1 v2 : Value) (y0 y1 y2 : DataW H × List MemPlace) (n : Nat), v = .agg #[v0, v1, v2] ∧
      DataW.trod enc P w base spare held n f0.type [v0] = some y0 ∧ DataW.trod enc P w base spare held n f1.type [v1] = some y1 ∧ DataW.trod enc P w base spare held n f2.type [v2] = some y2 := by
  obtain ⟨cs, rfl, hsz⟩ := okWide_struct hs hv
  obtain ⟨l⟩ := cs
  match l, hsz.trans hC with
  | [c0, c1, c2], _ =>
    obtain ⟨fuel, hf⟩ := h
    obtain ⟨xs, n, _, hx, _, hlen, hg⟩ := DataW.trod_struct hs hf
    obtain ⟨o0, k0⟩ := hone_of hone 0 f0 rfl
    obtain ⟨o1, k1⟩ := hone_of hone 1 f1 rfl
    obtain ⟨o2, k2⟩ := hone_of hone 2 f2 rfl
    match xs, hlen with
    | [y0, y1, y2], _ =>
      exact ⟨c0, c1, c2, y0, y1, y2, n, rfl, by simpa [Value.cells, o0, k0] using hg 0 f0 rfl, by simpa [Value.cells, o1, k1] using hg 1 f1 rfl, by simpa [Value.cells, o2, k2] using hg 2 f2 rfl⟩
end

section
variable {H : Type} {enc : TypeId × Value → H} {w : World} {base : Nat} {spare : Nat → Bool} {held : Bool}
theorem oneH : oneCellFields Try.prog #[{ name := "Age", type := 26, offset := 0, embedded := false, tag := "", pkgPath := "", byteOffset := 0 }, { name := "Opts", type := 5, offset := 1, embedded := false, tag := "", pkgPath := "", byteOffset := 2 }, { name := "Type", type := 5, offset := 2, embedded := false, tag := "", pkgPath := "", byteOffset := 3 }, { name := "ID", type := 25, offset := 3, embedded := false, tag := "", pkgPath := "", byteOffset := 4 }, { name := "Adv", type := 25, offset := 4, embedded := false, tag := "", pkgPath := "", byteOffset := 8 }, { name := "Seq", type := 21, offset := 5, embedded := false, tag := "", pkgPath := "", byteOffset := 12 }, { name := "Sum", type := 26, offset := 6, embedded := false, tag := "", pkgPath := "", byteOffset := 16 }, { name := "Len", type := 26, offset := 7, embedded := false, tag := "", pkgPath := "", byteOffset := 18 }] = true := by kernel_rfl
theorem cellsH : Try.prog.cellsOf 59 = 8 := by kernel_rfl
theorem oneK : oneCellFields Try.prog #[{ name := "Type", type := 5, offset := 0, embedded := false, tag := "", pkgPath := "", byteOffset := 0 }, { name := "ID", type := 25, offset := 1, embedded := false, tag := "", pkgPath := "", byteOffset := 4 }, { name := "Adv", type := 25, offset := 2, embedded := false, tag := "", pkgPath := "", byteOffset := 8 }] = true := by kernel_rfl
theorem cellsK : Try.prog.cellsOf 56 = 3 := by kernel_rfl
theorem wfb {k : IntKind} {n lo hi : Int} (h : (Lit.int k n).wf = true) (el : k.min = lo) (eh : k.max = hi) : lo ≤ n ∧ n ≤ hi := by
  simp only [Lit.wf, Bool.and_eq_true, decide_eq_true_eq] at h
  omega

set_option maxRecDepth 100000 in
theorem open_head {r0 : Reach} {b0 : Nat} {x : Value} {d : DataW H} {p : List MemPlace}
    (hv : Value.okWide Try.prog w r0 b0 59 x) (h : DataW.Trod enc Try.prog w base spare held 59 x d p) :
    ∃ g o t i v s m l : Int, x = .agg #[.int .u16 g, .int .u8 o, .int .u8 t, .int .u32 i, .int .u32 v, .int .i32 s, .int .u16 m, .int .u16 l] ∧ HBits g o t i v s m l := by
  obtain ⟨v0, v1, v2, v3, v4, v5, v6, v7, y0, y1, y2, y3, y4, y5, y6, y7, n, rfl, t0, t1, t2, t3, t4, t5, t6, t7⟩ := open_agg8 Try.underlying59 oneH cellsH hv h
  obtain ⟨n0, q0, _, w0⟩ := DataW.trod_int Try.underlying26 t0
  obtain ⟨n1, q1, _, w1⟩ := DataW.trod_int Try.underlying5 t1
  obtain ⟨n2, q2, _, w2⟩ := DataW.trod_int Try.underlying5 t2
  obtain ⟨n3, q3, _, w3⟩ := DataW.trod_int Try.underlying25 t3
  obtain ⟨n4, q4, _, w4⟩ := DataW.trod_int Try.underlying25 t4
  obtain ⟨n5, q5, _, w5⟩ := DataW.trod_int Try.underlying21 t5
  obtain ⟨n6, q6, _, w6⟩ := DataW.trod_int Try.underlying26 t6
  obtain ⟨n7, q7, _, w7⟩ := DataW.trod_int Try.underlying26 t7
  injection q0 with q0; injection q1 with q1; injection q2 with q2; injection q3 with q3; injection q4 with q4; injection q5 with q5; injection q6 with q6; injection q7 with q7
  subst q0 q1 q2 q3 q4 q5 q6 q7
  have b0 := wfb (lo := 0) (hi := 65535) w0 (by decide) (by decide)
  have b5 := wfb (lo := -2147483648) (hi := 2147483647) w5 (by decide) (by decide)
  have b6 := wfb (lo := 0) (hi := 65535) w6 (by decide) (by decide)
  exact ⟨n0, n1, n2, n3, n4, n5, n6, n7, rfl, b0.1, b0.2, b5.1, b5.2, b6.1, b6.2⟩

end
end Opn
end Go.Proofs.Ytgbmhijgpdgdbaa

namespace Go.Proofs.Ytgbmhijgpdgdbaa
open Go.Joins Go.ChangeShapes Go.WideShapes Go.RowKit Go.Deep

section
variable {H : Type} {enc : TypeId × Value → H} {P : Program} {w : World} {base : Nat} {spare : Nat → Bool} {held : Bool}
theorem open_slice_fields {t e : TypeId} {fs : Array Field} {fuel : Nat} {cs : List Value} {x : DataW H × List MemPlace} (ht : P.underlying t = some (.slice e)) (he : P.underlying e = some (.struct fs))
    (hone : oneCellFields P fs = true) (hC : P.cellsOf e = fs.size) (h : DataW.trod enc P w base spare held fuel t cs = some x) :
    (cs = [.slice none 0 0] ∧ x = (.nil, [])) ∨
    ∃ (a : Addr) (len cap m : Nat) (D : Nat → DataW H) (Pl : Nat → List MemPlace), cs = [.slice (some a) len cap] ∧ base ≤ a.block ∧ len ≤ cap ∧ cap ≤ maxLen ∧ m = (if spare a.block then cap else len) ∧
      x = (.slice ((List.range len).map D) ((List.range (m - len)).map fun j => D (len + j)), MemPlace.row a (m * fs.size) ++ (List.range m).flatMap Pl) ∧
      ∀ i, i < m → ∃ (ys : List (DataW H × List MemPlace)) (n : Nat), D i = .agg (ys.map (·.1)) ∧ Pl i = ys.flatMap (·.2) ∧ ys.length = fs.size ∧
        ∀ (j : Nat) (f : Field), fs[j]? = some f → ∃ (v : Value) (y : DataW H × List MemPlace), w.cell? (a.add (i * fs.size + j)) = some v ∧ ys[j]? = some y ∧ DataW.trod enc P w base spare held n f.type [v] = some y := by
  rcases open_slice ht h with h0 | ⟨a, len, cap, m, n, D, Pl, hcs, hb, hl, hm, hmm, hx, hi⟩
  · exact .inl h0
  · refine .inr ⟨a, len, cap, m, D, Pl, hcs, hb, hl, hm, hmm, by rw [hC] at hx; exact hx, fun i him => ?_⟩
    obtain ⟨cs', hc, ht'⟩ := hi i him
    rw [hC] at hc
    obtain ⟨ys, n', hn', hy, hlen, hyl, hf⟩ := DataW.trod_struct he ht'
    obtain ⟨_, hcl, hat⟩ := World.cells?_some hc
    simp only [Prod.mk.injEq] at hy
    refine ⟨ys, n', hy.1, hy.2, hyl, fun j f hj => ?_⟩
    obtain ⟨ho, hk⟩ := hone_of hone j f hj
    have hjl : j < fs.size := (Array.getElem?_eq_some_iff.1 hj).1
    have hcell := hat j hjl
    have hv : cs'[j]? = some (cs'[j]'(by omega)) := List.getElem?_eq_getElem (by omega)
    have h1 := hf j f hj
    rw [ho, hk] at h1
    have hone' : (cs'.drop j).take 1 = [cs'[j]'(by omega)] := by
      rw [List.drop_eq_getElem_cons (by omega)]
      rfl
    rw [hone'] at h1
    have hys : ys[j]? = some (ys[j]'(by omega)) := List.getElem?_eq_getElem (by omega)
    refine ⟨_, _, ?_, hys, h1.trans hys⟩
    rw [← Go.Deep.add_add, hcell, hv]
end

theorem hcells_length8 (h : Od.Hd) : (hcells h).length = 8 := rfl
theorem hflat_length (l : List Od.Hd) : (l.flatMap hcells).length = l.length * 8 := by
  induction l with
  | nil => rfl
  | cons a t ih => simp only [List.flatMap_cons, List.length_append, ih, List.length_cons, hcells_length8]; omega
theorem flat_div (vs : List Od.Hd) : ∀ (J : Nat) (u : Value), (vs.flatMap hcells)[J]? = some u → ∃ v, vs[J / 8]? = some v ∧ (hcells v)[J % 8]? = some u := by
  induction vs with
  | nil => intro J u h; simp at h
  | cons x vs ih =>
    intro J u h
    rw [List.flatMap_cons] at h
    by_cases hJ : J < 8
    · rw [List.getElem?_append_left (by rw [hcells_length8]; exact hJ)] at h
      refine ⟨x, ?_, ?_⟩
      · rw [Nat.div_eq_of_lt hJ]; rfl
      · rw [Nat.mod_eq_of_lt hJ]; exact h
    · rw [List.getElem?_append_right (by rw [hcells_length8]; omega), hcells_length8] at h
      obtain ⟨v, h1, h2⟩ := ih _ _ h
      refine ⟨v, ?_, ?_⟩
      · have : J / 8 = (J - 8) / 8 + 1 := by omega
        rw [this]; exact h1
      · have : J % 8 = (J - 8) % 8 := by omega
        rw [this]; exact h2


section
variable {H : Type} {enc : TypeId × Value → H} {w : World} {base : Nat} {spare : Nat → Bool} {held : Bool}
set_option maxRecDepth 100000 in
/-- A slice of heads that came in. -/
theorem open_heads {v : Value} {fuel : Nat} {x : DataW H × List MemPlace} (h : DataW.trod enc Try.prog w base spare held fuel 22 v.cells.toList = some x) {A : Option Addr} {len cap : Nat} (hv : v = .slice A len cap) :
    ∃ vs : List Od.Hd, HeadsAt w w.heap.size (.slice A len cap) vs ∧ vs.length = len ∧ len ≤ maxLen ∧ ∀ u ∈ vs, HdRaw u := by
  subst hv
  rcases open_slice_fields Try.underlying22 Try.underlying59 Opn.oneH Opn.cellsH h with ⟨hcs, _⟩ | ⟨a, l, c, m, D, Pl, hcs, _, hlc, hcm, hm, hx, hi⟩
  · simp [Value.cells] at hcs
    obtain ⟨rfl, rfl, rfl⟩ := hcs
    exact ⟨[], headsNil _ _, rfl, Nat.zero_le _, by simp⟩
  · simp [Value.cells] at hcs
    obtain ⟨rfl, rfl, rfl⟩ := hcs
    have hml : len ≤ m := by rw [hm]; split <;> omega
    have key : ∀ i, ∃ u : Od.Hd, i < len → HdRaw u ∧ ∀ j y, (hcells u)[j]? = some y → w.cell? (a.add (i * 8 + j)) = some y := by
      intro i
      by_cases hil : i < len
      · obtain ⟨ys, n, _, _, _, hf⟩ := hi i (by omega)
        obtain ⟨v0, y0, e0, _, t0⟩ := hf 0 _ rfl
        obtain ⟨v1, y1, e1, _, t1⟩ := hf 1 _ rfl
        obtain ⟨v2, y2, e2, _, t2⟩ := hf 2 _ rfl
        obtain ⟨v3, y3, e3, _, t3⟩ := hf 3 _ rfl
        obtain ⟨v4, y4, e4, _, t4⟩ := hf 4 _ rfl
        obtain ⟨v5, y5, e5, _, t5⟩ := hf 5 _ rfl
        obtain ⟨v6, y6, e6, _, t6⟩ := hf 6 _ rfl
        obtain ⟨v7, y7, e7, _, t7⟩ := hf 7 _ rfl
        obtain ⟨n0, q0, _, w0⟩ := DataW.trod_int Try.underlying26 t0
        obtain ⟨n1, q1, _, w1⟩ := DataW.trod_int Try.underlying5 t1
        obtain ⟨n2, q2, _, w2⟩ := DataW.trod_int Try.underlying5 t2
        obtain ⟨n3, q3, _, w3⟩ := DataW.trod_int Try.underlying25 t3
        obtain ⟨n4, q4, _, w4⟩ := DataW.trod_int Try.underlying25 t4
        obtain ⟨n5, q5, _, w5⟩ := DataW.trod_int Try.underlying21 t5
        obtain ⟨n6, q6, _, w6⟩ := DataW.trod_int Try.underlying26 t6
        obtain ⟨n7, q7, _, w7⟩ := DataW.trod_int Try.underlying26 t7
        injection q0 with q0; injection q1 with q1; injection q2 with q2; injection q3 with q3; injection q4 with q4; injection q5 with q5; injection q6 with q6; injection q7 with q7
        subst q0 q1 q2 q3 q4 q5 q6 q7
        have b0 := Opn.wfb (lo := 0) (hi := 65535) w0 (by decide) (by decide)
        have b2 := Opn.wfb (lo := 0) (hi := 255) w2 (by decide) (by decide)
        have b3 := Opn.wfb (lo := 0) (hi := 4294967295) w3 (by decide) (by decide)
        have b4 := Opn.wfb (lo := 0) (hi := 4294967295) w4 (by decide) (by decide)
        refine ⟨⟨n0, n1, n2, n3, n4, n5, n6, n7⟩, fun _ => ⟨⟨b0.1, b0.2, b2.1, b2.2, b3.1, by show n3 < 4294967296; omega, b4.1, by show n4 < 4294967296; omega⟩, fun j y hy => ?_⟩⟩
        match j, hy with
        | 0, hy => simp [hcells] at hy; subst hy; exact e0
        | 1, hy => simp [hcells] at hy; subst hy; exact e1
        | 2, hy => simp [hcells] at hy; subst hy; exact e2
        | 3, hy => simp [hcells] at hy; subst hy; exact e3
        | 4, hy => simp [hcells] at hy; subst hy; exact e4
        | 5, hy => simp [hcells] at hy; subst hy; exact e5
        | 6, hy => simp [hcells] at hy; subst hy; exact e6
        | 7, hy => simp [hcells] at hy; subst hy; exact e7
        | (j + 8), hy => simp [hcells] at hy
      · exact ⟨⟨0, 0, 0, 0, 0, 0, 0, 0⟩, fun h => absurd h hil⟩
    obtain ⟨f, hf⟩ := Classical.axiomOfChoice key
    refine ⟨(List.range len).map f, ⟨some a, len, cap, rfl, by omega, by simp, by rw [hflat_length]; simp, fun hn => ⟨a, rfl, ?_, fun J u hu => ?_⟩⟩, by simp, by omega, ?_⟩
    · have h0 := (hf 0 hn).2 0 _ rfl
      have := World.block_lt_of_cell? w _ h0
      rwa [block_of_add] at this
    · obtain ⟨v, h1, h2⟩ := flat_div _ _ _ hu
      have hJ : J / 8 < len := by
        have := (List.getElem?_eq_some_iff.1 h1).1
        simpa using this
      rw [List.getElem?_map, List.getElem?_range hJ] at h1
      simp at h1
      subst h1
      have := (hf (J / 8) hJ).2 _ _ h2
      rwa [show J / 8 * 8 + J % 8 = J from by omega] at this
    · intro u hu
      obtain ⟨i, hi1, rfl⟩ := List.mem_map.1 hu
      exact (hf i (List.mem_range.1 hi1)).1
end
end Go.Proofs.Ytgbmhijgpdgdbaa

namespace Go.Proofs.Ytgbmhijgpdgdbaa
open Go.Joins Go.ChangeShapes Go.WideShapes Go.RowKit Go.Deep

section
variable {H : Type} {enc : TypeId × Value → H} {w : World} {base : Nat}
set_option maxRecDepth 100000 in
/-- A slice of heads that came in, all their numbers' bounds. -/
theorem open_heads_full {v : Value} {fuel : Nat} {x : DataW H × List MemPlace} (h : DataW.trod enc Try.prog w base (fun _ => true) true fuel 22 [v] = some x) :
    ∃ (A : Option Addr) (len cap : Nat) (vs : List Od.Hd), v = .slice A len cap ∧ HeadsAt w w.heap.size (.slice A len cap) vs ∧ (∀ u ∈ vs, HdRaw u) ∧ ∀ u ∈ vs, HdFull u := by
  rcases open_slice_fields Try.underlying22 Try.underlying59 Opn.oneH Opn.cellsH h with ⟨hcs, _⟩ | ⟨a, len, cap, m, D, Pl, hcs, _, hlc, hcm, hm, hx, hi⟩
  · obtain rfl : v = .slice none 0 0 := by simpa using hcs
    exact ⟨none, 0, 0, [], rfl, headsNil _ _, by simp, by simp⟩
  · obtain rfl : v = .slice (some a) len cap := by simpa using hcs
    have hml : len ≤ m := by rw [hm]; split <;> omega
    have key : ∀ i, ∃ u : Od.Hd, i < len → (HdRaw u ∧ HdFull u) ∧ ∀ j y, (hcells u)[j]? = some y → w.cell? (a.add (i * 8 + j)) = some y := by
      intro i
      by_cases hil : i < len
      · obtain ⟨ys, n, _, _, _, hf⟩ := hi i (by omega)
        obtain ⟨v0, y0, e0, _, t0⟩ := hf 0 _ rfl
        obtain ⟨v1, y1, e1, _, t1⟩ := hf 1 _ rfl
        obtain ⟨v2, y2, e2, _, t2⟩ := hf 2 _ rfl
        obtain ⟨v3, y3, e3, _, t3⟩ := hf 3 _ rfl
        obtain ⟨v4, y4, e4, _, t4⟩ := hf 4 _ rfl
        obtain ⟨v5, y5, e5, _, t5⟩ := hf 5 _ rfl
        obtain ⟨v6, y6, e6, _, t6⟩ := hf 6 _ rfl
        obtain ⟨v7, y7, e7, _, t7⟩ := hf 7 _ rfl
        obtain ⟨n0, q0, _, w0⟩ := DataW.trod_int Try.underlying26 t0
        obtain ⟨n1, q1, _, w1⟩ := DataW.trod_int Try.underlying5 t1
        obtain ⟨n2, q2, _, w2⟩ := DataW.trod_int Try.underlying5 t2
        obtain ⟨n3, q3, _, w3⟩ := DataW.trod_int Try.underlying25 t3
        obtain ⟨n4, q4, _, w4⟩ := DataW.trod_int Try.underlying25 t4
        obtain ⟨n5, q5, _, w5⟩ := DataW.trod_int Try.underlying21 t5
        obtain ⟨n6, q6, _, w6⟩ := DataW.trod_int Try.underlying26 t6
        obtain ⟨n7, q7, _, w7⟩ := DataW.trod_int Try.underlying26 t7
        injection q0 with q0; injection q1 with q1; injection q2 with q2; injection q3 with q3; injection q4 with q4; injection q5 with q5; injection q6 with q6; injection q7 with q7
        subst q0 q1 q2 q3 q4 q5 q6 q7
        have b0 := Opn.wfb (lo := 0) (hi := 65535) w0 (by decide) (by decide)
        have b2 := Opn.wfb (lo := 0) (hi := 255) w2 (by decide) (by decide)
        have b3 := Opn.wfb (lo := 0) (hi := 4294967295) w3 (by decide) (by decide)
        have b4 := Opn.wfb (lo := 0) (hi := 4294967295) w4 (by decide) (by decide)
        have b5 := Opn.wfb (lo := -2147483648) (hi := 2147483647) w5 (by decide) (by decide)
        have b6 := Opn.wfb (lo := 0) (hi := 65535) w6 (by decide) (by decide)
        refine ⟨⟨n0, n1, n2, n3, n4, n5, n6, n7⟩, fun _ => ⟨⟨⟨b0.1, b0.2, b2.1, b2.2, b3.1, by show n3 < 4294967296; omega, b4.1, by show n4 < 4294967296; omega⟩, ⟨b0.1, b0.2, b5.1, b5.2, b6.1, b6.2⟩⟩, fun j y hy => ?_⟩⟩
        match j, hy with
        | 0, hy => simp [hcells] at hy; subst hy; exact e0
        | 1, hy => simp [hcells] at hy; subst hy; exact e1
        | 2, hy => simp [hcells] at hy; subst hy; exact e2
        | 3, hy => simp [hcells] at hy; subst hy; exact e3
        | 4, hy => simp [hcells] at hy; subst hy; exact e4
        | 5, hy => simp [hcells] at hy; subst hy; exact e5
        | 6, hy => simp [hcells] at hy; subst hy; exact e6
        | 7, hy => simp [hcells] at hy; subst hy; exact e7
        | (j + 8), hy => simp [hcells] at hy
      · exact ⟨⟨0, 0, 0, 0, 0, 0, 0, 0⟩, fun h => absurd h hil⟩
    obtain ⟨f, hf⟩ := Classical.axiomOfChoice key
    refine ⟨some a, len, cap, (List.range len).map f, rfl, ⟨some a, len, cap, rfl, by omega, by simp, by rw [hflat_length]; simp, fun hn => ⟨a, rfl, ?_, fun J u hu => ?_⟩⟩, ?_, ?_⟩
    · have h0 := (hf 0 hn).2 0 _ rfl
      have := World.block_lt_of_cell? w _ h0
      rwa [block_of_add] at this
    · obtain ⟨v, h1, h2⟩ := flat_div _ _ _ hu
      have hJ : J / 8 < len := by
        have := (List.getElem?_eq_some_iff.1 h1).1
        simpa using this
      rw [List.getElem?_map, List.getElem?_range hJ] at h1
      simp at h1
      subst h1
      have := (hf (J / 8) hJ).2 _ _ h2
      rwa [show J / 8 * 8 + J % 8 = J from by omega] at this
    · intro u hu
      obtain ⟨i, hi1, rfl⟩ := List.mem_map.1 hu
      exact (hf i (List.mem_range.1 hi1)).1.1
    · intro u hu
      obtain ⟨i, hi1, rfl⟩ := List.mem_map.1 hu
      exact (hf i (List.mem_range.1 hi1)).1.2

theorem cellsOfBool : Try.prog.cellsOf 4 = 1 := by kernel_rfl
theorem cellsOfU32 : Try.prog.cellsOf 25 = 1 := by kernel_rfl
theorem cellsOf22 : Try.prog.cellsOf 22 = 1 := by kernel_rfl
theorem cellsOf44 : Try.prog.cellsOf 44 = 1 := by kernel_rfl
theorem cellsOf45 : Try.prog.cellsOf 45 = 2 := by kernel_rfl
theorem cellsOf47 : Try.prog.cellsOf 47 = 5 := by kernel_rfl

/-- A slice of bools that came in. -/
theorem open_lost {v : Value} {fuel : Nat} {x : DataW H × List MemPlace} (h : DataW.trod enc Try.prog w base (fun _ => true) true fuel 44 [v] = some x) :
    ∃ (A : Option Addr) (n c : Nat) (l : List Bool), v = .slice A n c ∧ Reads w w.heap.size 1 A n (l.map Value.bool) ∧ l.length = n := by
  rcases open_bools Try.underlying44 Try.underlying4 cellsOfBool h with ⟨hcs, _⟩ | ⟨a, len, cap, B, hcs, _, hlc, _, _, hi⟩
  · obtain rfl : v = .slice none 0 0 := by simpa using hcs
    exact ⟨none, 0, 0, [], rfl, Reads.none_, rfl⟩
  · obtain rfl : v = .slice (some a) len cap := by simpa using hcs
    refine ⟨some a, len, cap, (List.range len).map B, rfl, ⟨by simp, fun hn => ⟨a, rfl, ?_, fun J u hu => ?_⟩⟩, by simp⟩
    · have h0 := hi 0 (by omega)
      have := World.block_lt_of_cell? w _ h0
      rwa [block_of_add] at this
    · rw [List.map_map, List.getElem?_map] at hu
      obtain ⟨k, hk, rfl⟩ := Option.map_eq_some_iff.1 hu
      have hJ : J < len := by
        have := (List.getElem?_eq_some_iff.1 hk).1
        simpa using this
      rw [List.getElem?_range hJ] at hk
      cases hk
      exact hi J (by omega)

set_option maxRecDepth 100000 in
set_option maxHeartbeats 1000000 in
theorem open_pair {r0 : Reach} {b0 : Nat} {x : Value} {d : DataW H} {p : List MemPlace} (hv : Value.okWide Try.prog w r0 b0 47 x) (h : DataW.Trod enc Try.prog w base (fun _ => true) true 47 x d p) :
    ∃ (A B L : Option Addr) (na ca nb cb nl cl : Nat) (lA lB : List Od.Hd) (lost : List Bool) (s0 s1 : Int), x = .agg #[.slice A na ca, .slice B nb cb, .slice L nl cl, .int .u32 s0, .int .u32 s1] ∧
      HeadsAt w w.heap.size (.slice A na ca) lA ∧ (∀ x ∈ lA, HdRaw x) ∧ (∀ x ∈ lA, HdFull x) ∧ HeadsAt w w.heap.size (.slice B nb cb) lB ∧ (∀ x ∈ lB, HdRaw x) ∧ (∀ x ∈ lB, HdFull x) ∧ Reads w w.heap.size 1 L nl (lost.map Value.bool) ∧ lost.length = nl ∧ 0 ≤ s1 ∧ s1 < 4294967296 := by
  obtain ⟨cs, rfl, hsz⟩ := okWide_struct Try.underlying47 hv
  obtain ⟨l⟩ := cs
  match l, hsz.trans cellsOf47 with
  | [c0, c1, c2, c3, c4], _ =>
    obtain ⟨fuel, hf⟩ := h
    obtain ⟨xs, n, _, hx, _, hlen, hg⟩ := DataW.trod_struct Try.underlying47 hf
    match xs, hlen with
    | [y0, y1, y2, y3], _ =>
      have t0 : DataW.trod enc Try.prog w base (fun _ => true) true n 22 [c0] = some y0 := by simpa [Value.cells, cellsOf22] using hg 0 _ rfl
      have t1 : DataW.trod enc Try.prog w base (fun _ => true) true n 22 [c1] = some y1 := by simpa [Value.cells, cellsOf22] using hg 1 _ rfl
      have t2 : DataW.trod enc Try.prog w base (fun _ => true) true n 44 [c2] = some y2 := by simpa [Value.cells, cellsOf44] using hg 2 _ rfl
      have t3 : DataW.trod enc Try.prog w base (fun _ => true) true n 45 [c3, c4] = some y3 := by simpa [Value.cells, cellsOf45] using hg 3 _ rfl
      obtain ⟨A, na, ca, lA, rfl, hA, hrA, hfA⟩ := open_heads_full t0
      obtain ⟨B, nb, cb, lB, rfl, hB, hrB, hfB⟩ := open_heads_full t1
      obtain ⟨L, nl, cl, lost, rfl, hL, hll⟩ := open_lost t2
      obtain ⟨zs, n2, _, _, _, hlen2, hg2⟩ := DataW.trod_array Try.underlying45 t3
      match zs, hlen2 with
      | [z0, z1], _ =>
        have u0 : DataW.trod enc Try.prog w base (fun _ => true) true n2 25 [c3] = some z0 := by simpa [Value.cells, cellsOfU32] using hg2 0 (by decide)
        have u1 : DataW.trod enc Try.prog w base (fun _ => true) true n2 25 [c4] = some z1 := by simpa [Value.cells, cellsOfU32] using hg2 1 (by decide)
        obtain ⟨n0, q0, _, w0⟩ := DataW.trod_int Try.underlying25 u0
        obtain ⟨n1, q1, _, w1⟩ := DataW.trod_int Try.underlying25 u1
        injection q0 with q0
        injection q1 with q1
        subst q0 q1
        have g1 := Opn.wfb (lo := 0) (hi := 4294967295) w1 (by decide) (by decide)
        exact ⟨A, B, L, na, ca, nb, cb, nl, cl, lA, lB, lost, n0, n1, rfl, hA, hrA, hfA, hB, hrB, hfB, hL, hll, g1.1, by omega⟩
end
end Go.Proofs.Ytgbmhijgpdgdbaa
