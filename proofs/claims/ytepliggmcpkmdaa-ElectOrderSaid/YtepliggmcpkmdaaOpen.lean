/- Opening the arguments: a slice of voices, a voice by value (the two openers after the guide's page on structs). -/
import Derived.Test.YtepliggmcpkmdaaAhead
import Derived.OwnWalk
import Derived.ProofKit
import Derived.Deep.Slices
import Derived.Deep.Fields
import Derived.ChangeSame
import Derived.Lib.SmallJoins
namespace Go.Proofs.Ytepliggmcpkmdaa
open Go.Joins Go.ChangeShapes Go.WideShapes Go.RowKit Go.Deep

section
variable {H : Type} {enc : TypeId × Value → H} {P : Program} {w : World} {base : Nat} {spare : Nat → Bool} {held : Bool}
theorem open_slice_fields {t e : TypeId} {fs : Array Field} {fuel : Nat} {cs : List Value} {x : DataW H × List MemPlace} (ht : P.underlying t = some (.slice e)) (he : P.underlying e = some (.struct fs))
    (hone : oneCellFields P fs = true) (hC : P.cellsOf e = fs.size) (h : DataW.trod enc P w base spare held fuel t cs = some x) :
    (cs = [.slice none 0 0] ∧ x = (.nil, [])) ∨
    ∃ (a : Addr) (len cap m : Nat) (D : Nat → DataW H) (Pl : Nat → List MemPlace), cs = [.slice (some a) len cap] ∧ base ≤ a.block ∧ len ≤ cap ∧ cap ≤ maxLen ∧ m = (if spare a.block then cap else len) ∧
      x = (.slice ((List.range len).map D) ((List.range (m - len)).map fun j => D (len + j)), MemPlace.row a (m * fs.size) ++ (List.range m).flatMap Pl) ∧
      ∀ i, i < m → ∃ (ys : List (DataW H × List MemPlace)) (n : Nat), D i = .agg (ys.map (·.1)) ∧ Pl i = ys.flatMap (·.2) ∧ ys.length = fs.size ∧
        ∀ (j : Nat) (f : Field), fs[j]? = some f → ∃ (v : Value) (y : DataW H × List MemPlace), w.cell? (a.add (i * fs.size + j)) = some v ∧ ys[j]? = some y ∧ DataW.trod enc P w base spare held n f.type [v] = some y := by
  rcases open_slice ht h with h0 | ⟨a, len, cap, m, n, D, Pl, hcs, hb, hl, hm, hmm, hx, hi⟩
  · exact .inl h0
  · refine .inr ⟨a, len, cap, m, D, Pl, hcs, hb, hl, hm, hmm, by rw [hC] at hx; exact hx, fun i him => ?_⟩
    obtain ⟨cs', hc, ht'⟩ := hi i him
    rw [hC] at hc
    obtain ⟨ys, n', hn', hy, hlen, hyl, hf⟩ := DataW.trod_struct he ht'
    obtain ⟨_, hcl, hat⟩ := World.cells?_some hc
    simp only [Prod.mk.injEq] at hy
    refine ⟨ys, n', hy.1, hy.2, hyl, fun j f hj => ?_⟩
    obtain ⟨ho, hk⟩ := hone_of hone j f hj
    have hjl : j < fs.size := (Array.getElem?_eq_some_iff.1 hj).1
    have hcell := hat j hjl
    have hv : cs'[j]? = some (cs'[j]'(by omega)) := List.getElem?_eq_getElem (by omega)
    have h1 := hf j f hj
    rw [ho, hk] at h1
    have hone' : (cs'.drop j).take 1 = [cs'[j]'(by omega)] := by
      rw [List.drop_eq_getElem_cons (by omega)]
      rfl
    rw [hone'] at h1
    have hys : ys[j]? = some (ys[j]'(by omega)) := List.getElem?_eq_getElem (by omega)
    refine ⟨_, _, ?_, hys, h1.trans hys⟩
    rw [← Go.Deep.add_add, hcell, hv]
end

section
variable {H : Type} {enc : TypeId × Value → H} {P : Program} {w : World} {base : Nat} {spare : Nat → Bool} {held : Bool}
theorem open_agg5 {r : Reach} {b0 : Nat} {t : TypeId} {f0 f1 f2 f3 f4 : Field} {v : Value} {d : DataW H} {p : List MemPlace} (hs : P.underlying t = some (.struct #[f0, f1, f2, f3, f4])) (hone : oneCellFields P #[f0, f1, f2, f3, f4] = true) (hC : P.cellsOf t = 5)
    (hv : Value.okWide P w r b0 t v) (h : DataW.Trod enc P w base spare held t v d p) :
    ∃ (v0 v1 v2 v3 v4 : Value) (y0 y1 y2 y3 y4 : DataW H × List MemPlace) (n : Nat), v = .agg #[v0, v1, v2, v3, v4] ∧ d = .agg [y0.1, y1.1, y2.1, y3.1, y4.1] ∧ p = y0.2 ++ (y1.2 ++ (y2.2 ++ (y3.2 ++ y4.2))) ∧
      DataW.trod enc P w base spare held n f0.type [v0] = some y0 ∧ DataW.trod enc P w base spare held n f1.type [v1] = some y1 ∧ DataW.trod enc P w base spare held n f2.type [v2] = some y2 ∧ DataW.trod enc P w base spare held n f3.type [v3] = some y3 ∧ DataW.trod enc P w base spare held n f4.type [v4] = some y4 := by
  obtain ⟨cs, rfl, hsz⟩ := okWide_struct hs hv
  obtain ⟨l⟩ := cs
  match l, hsz.trans hC with
  | [c0, c1, c2, c3, c4], _ =>
    obtain ⟨fuel, hf⟩ := h
    obtain ⟨xs, n, _, hx, _, hlen, hg⟩ := DataW.trod_struct hs hf
    obtain ⟨o0, k0⟩ := hone_of hone 0 f0 rfl
    obtain ⟨o1, k1⟩ := hone_of hone 1 f1 rfl
    obtain ⟨o2, k2⟩ := hone_of hone 2 f2 rfl
    obtain ⟨o3, k3⟩ := hone_of hone 3 f3 rfl
    obtain ⟨o4, k4⟩ := hone_of hone 4 f4 rfl
    match xs, hlen with
    | [y0, y1, y2, y3, y4], _ =>
      simp only [Prod.mk.injEq] at hx
      exact ⟨c0, c1, c2, c3, c4, y0, y1, y2, y3, y4, n, rfl, by simpa using hx.1, by simpa using hx.2, by simpa [Value.cells, o0, k0] using hg 0 f0 rfl, by simpa [Value.cells, o1, k1] using hg 1 f1 rfl, by simpa [Value.cells, o2, k2] using hg 2 f2 rfl, by simpa [Value.cells, o3, k3] using hg 3 f3 rfl, by simpa [Value.cells, o4, k4] using hg 4 f4 rfl⟩

end

theorem flat_div (vs : List El.V) : ∀ (J : Nat) (u : Value), (vs.flatMap cells)[J]? = some u → ∃ v, vs[J / 5]? = some v ∧ (cells v)[J % 5]? = some u := by
  induction vs with
  | nil => intro J u h; simp at h
  | cons x vs ih =>
    intro J u h
    rw [List.flatMap_cons] at h
    by_cases hJ : J < 5
    · rw [List.getElem?_append_left (by rw [cells_length]; exact hJ)] at h
      refine ⟨x, ?_, ?_⟩
      · rw [Nat.div_eq_of_lt hJ]; rfl
      · rw [Nat.mod_eq_of_lt hJ]; exact h
    · rw [List.getElem?_append_right (by rw [cells_length]; omega), cells_length] at h
      obtain ⟨v, h1, h2⟩ := ih _ _ h
      refine ⟨v, ?_, ?_⟩
      · have : J / 5 = (J - 5) / 5 + 1 := by omega
        rw [this]; exact h1
      · have : J % 5 = (J - 5) % 5 := by omega
        rw [this]; exact h2

theorem wf_u8 {n : Int} (h : (Lit.int .u8 n).wf = true) : 0 ≤ n := by
  simp only [Lit.wf, Bool.and_eq_true, decide_eq_true_eq] at h
  have e : IntKind.u8.min = 0 := by decide
  omega

section
variable {H : Type} {enc : TypeId × Value → H} {w : World} {base : Nat} {spare : Nat → Bool} {held : Bool}

theorem one33 : oneCellFields Try.prog #[{ name := "Router", type := 26, offset := 0, embedded := false, tag := "", pkgPath := "", byteOffset := 0 }, { name := "Addr", type := 26, offset := 1, embedded := false, tag := "", pkgPath := "", byteOffset := 4 }, { name := "Priority", type := 5, offset := 2, embedded := false, tag := "", pkgPath := "", byteOffset := 8 }, { name := "DR", type := 26, offset := 3, embedded := false, tag := "", pkgPath := "", byteOffset := 12 }, { name := "BDR", type := 26, offset := 4, embedded := false, tag := "", pkgPath := "", byteOffset := 16 }] = true := by kernel_rfl
theorem cells33 : Try.prog.cellsOf 33 = 5 := by kernel_rfl

/-- A slice of voices that came in. -/
theorem open_voices {v : Value} {fuel : Nat} {x : DataW H × List MemPlace} (h : DataW.trod enc Try.prog w base spare held fuel 22 v.cells.toList = some x) {A : Option Addr} {len cap : Nat} (hv : v = .slice A len cap) :
    ∃ vs : List El.V, vs.length = len ∧ len ≤ maxLen ∧ Reads w w.heap.size 5 A len (vs.flatMap cells) ∧ ∀ u ∈ vs, 0 ≤ u.p := by
  subst hv
  rcases open_slice_fields Try.underlying22 Try.underlying33 one33 cells33 h with ⟨hcs, _⟩ | ⟨a, l, c, m, D, Pl, hcs, _, hlc, hcm, hm, hx, hi⟩
  · simp [Value.cells] at hcs
    obtain ⟨rfl, rfl, rfl⟩ := hcs
    exact ⟨[], rfl, Nat.zero_le _, Reads.none_, by simp⟩
  · simp [Value.cells] at hcs
    obtain ⟨rfl, rfl, rfl⟩ := hcs
    have hml : len ≤ m := by rw [hm]; split <;> omega
    have key : ∀ i, ∃ u : El.V, i < len → 0 ≤ u.p ∧ ∀ j y, (cells u)[j]? = some y → w.cell? (a.add (i * 5 + j)) = some y := by
      intro i
      by_cases hil : i < len
      · obtain ⟨ys, n, _, _, _, hf⟩ := hi i (by omega)
        obtain ⟨v0, y0, e0, _, t0⟩ := hf 0 _ rfl
        obtain ⟨v1, y1, e1, _, t1⟩ := hf 1 _ rfl
        obtain ⟨v2, y2, e2, _, t2⟩ := hf 2 _ rfl
        obtain ⟨v3, y3, e3, _, t3⟩ := hf 3 _ rfl
        obtain ⟨v4, y4, e4, _, t4⟩ := hf 4 _ rfl
        obtain ⟨n0, q0, _, _⟩ := DataW.trod_int Try.underlying26 t0
        obtain ⟨n1, q1, _, _⟩ := DataW.trod_int Try.underlying26 t1
        obtain ⟨n2, q2, _, w2⟩ := DataW.trod_int Try.underlying5 t2
        obtain ⟨n3, q3, _, _⟩ := DataW.trod_int Try.underlying26 t3
        obtain ⟨n4, q4, _, _⟩ := DataW.trod_int Try.underlying26 t4
        injection q0 with q0; injection q1 with q1; injection q2 with q2; injection q3 with q3; injection q4 with q4
        subst q0 q1 q2 q3 q4
        refine ⟨⟨n0, n1, n2, n3, n4⟩, fun _ => ⟨wf_u8 w2, fun j y hy => ?_⟩⟩
        match j, hy with
        | 0, hy => simp [cells] at hy; subst hy; exact e0
        | 1, hy => simp [cells] at hy; subst hy; exact e1
        | 2, hy => simp [cells] at hy; subst hy; exact e2
        | 3, hy => simp [cells] at hy; subst hy; exact e3
        | 4, hy => simp [cells] at hy; subst hy; exact e4
        | (j + 5), hy => simp [cells] at hy
      · exact ⟨El.V.zero, fun h => absurd h hil⟩
    obtain ⟨f, hf⟩ := Classical.axiomOfChoice key
    refine ⟨(List.range len).map f, by simp, by omega, ⟨by rw [flat_length]; simp, fun hn => ⟨a, rfl, ?_, fun J u hu => ?_⟩⟩, ?_⟩
    · have h0 := (hf 0 hn).2 0 _ rfl
      have := World.block_lt_of_cell? w _ h0
      rwa [block_of_add] at this
    · obtain ⟨v, h1, h2⟩ := flat_div _ _ _ hu
      have hJ : J / 5 < len := by
        have := (List.getElem?_eq_some_iff.1 h1).1
        simpa using this
      rw [List.getElem?_map, List.getElem?_range hJ] at h1
      simp at h1
      subst h1
      have := (hf (J / 5) hJ).2 _ _ h2
      rwa [show J / 5 * 5 + J % 5 = J from by omega] at this
    · intro u hu
      obtain ⟨i, hi1, rfl⟩ := List.mem_map.1 hu
      exact (hf i (List.mem_range.1 hi1)).1
end

end Go.Proofs.Ytepliggmcpkmdaa
