/- Opening a slice of heads. -/
import Derived.Test.YtgbmhijgpdgdbaaOpen
import Derived.Test.YtgbmhijgpdgdbaaUnlike
import Derived.OwnWalk
namespace Go.Proofs.Ytgbmhijgpdgdbaa
open Go.Joins Go.ChangeShapes Go.WideShapes Go.RowKit Go.Deep

section
variable {H : Type} {enc : TypeId × Value → H} {P : Program} {w : World} {base : Nat} {spare : Nat → Bool} {held : Bool}
theorem open_slice_fields {t e : TypeId} {fs : Array Field} {fuel : Nat} {cs : List Value} {x : DataW H × List MemPlace} (ht : P.underlying t = some (.slice e)) (he : P.underlying e = some (.struct fs))
    (hone : oneCellFields P fs = true) (hC : P.cellsOf e = fs.size) (h : DataW.trod enc P w base spare held fuel t cs = some x) :
    (cs = [.slice none 0 0] ∧ x = (.nil, [])) ∨
    ∃ (a : Addr) (len cap m : Nat) (D : Nat → DataW H) (Pl : Nat → List MemPlace), cs = [.slice (some a) len cap] ∧ base ≤ a.block ∧ len ≤ cap ∧ cap ≤ maxLen ∧ m = (if spare a.block then cap else len) ∧
      x = (.slice ((List.range len).map D) ((List.range (m - len)).map fun j => D (len + j)), MemPlace.row a (m * fs.size) ++ (List.range m).flatMap Pl) ∧
      ∀ i, i < m → ∃ (ys : List (DataW H × List MemPlace)) (n : Nat), D i = .agg (ys.map (·.1)) ∧ Pl i = ys.flatMap (·.2) ∧ ys.length = fs.size ∧
        ∀ (j : Nat) (f : Field), fs[j]? = some f → ∃ (v : Value) (y : DataW H × List MemPlace), w.cell? (a.add (i * fs.size + j)) = some v ∧ ys[j]? = some y ∧ DataW.trod enc P w base spare held n f.type [v] = some y := by
  rcases open_slice ht h with h0 | ⟨a, len, cap, m, n, D, Pl, hcs, hb, hl, hm, hmm, hx, hi⟩
  · exact .inl h0
  · refine .inr ⟨a, len, cap, m, D, Pl, hcs, hb, hl, hm, hmm, by rw [hC] at hx; exact hx, fun i him => ?_⟩
    obtain ⟨cs', hc, ht'⟩ := hi i him
    rw [hC] at hc
    obtain ⟨ys, n', hn', hy, hlen, hyl, hf⟩ := DataW.trod_struct he ht'
    obtain ⟨_, hcl, hat⟩ := World.cells?_some hc
    simp only [Prod.mk.injEq] at hy
    refine ⟨ys, n', hy.1, hy.2, hyl, fun j f hj => ?_⟩
    obtain ⟨ho, hk⟩ := hone_of hone j f hj
    have hjl : j < fs.size := (Array.getElem?_eq_some_iff.1 hj).1
    have hcell := hat j hjl
    have hv : cs'[j]? = some (cs'[j]'(by omega)) := List.getElem?_eq_getElem (by omega)
    have h1 := hf j f hj
    rw [ho, hk] at h1
    have hone' : (cs'.drop j).take 1 = [cs'[j]'(by omega)] := by
      rw [List.drop_eq_getElem_cons (by omega)]
      rfl
    rw [hone'] at h1
    have hys : ys[j]? = some (ys[j]'(by omega)) := List.getElem?_eq_getElem (by omega)
    refine ⟨_, _, ?_, hys, h1.trans hys⟩
    rw [← Go.Deep.add_add, hcell, hv]
end

theorem hcells_length8 (h : Od.Hd) : (hcells h).length = 8 := rfl
theorem hflat_length (l : List Od.Hd) : (l.flatMap hcells).length = l.length * 8 := by
  induction l with
  | nil => rfl
  | cons a t ih => simp only [List.flatMap_cons, List.length_append, ih, List.length_cons, hcells_length8]; omega
theorem flat_div (vs : List Od.Hd) : ∀ (J : Nat) (u : Value), (vs.flatMap hcells)[J]? = some u → ∃ v, vs[J / 8]? = some v ∧ (hcells v)[J % 8]? = some u := by
  induction vs with
  | nil => intro J u h; simp at h
  | cons x vs ih =>
    intro J u h
    rw [List.flatMap_cons] at h
    by_cases hJ : J < 8
    · rw [List.getElem?_append_left (by rw [hcells_length8]; exact hJ)] at h
      refine ⟨x, ?_, ?_⟩
      · rw [Nat.div_eq_of_lt hJ]; rfl
      · rw [Nat.mod_eq_of_lt hJ]; exact h
    · rw [List.getElem?_append_right (by rw [hcells_length8]; omega), hcells_length8] at h
      obtain ⟨v, h1, h2⟩ := ih _ _ h
      refine ⟨v, ?_, ?_⟩
      · have : J / 8 = (J - 8) / 8 + 1 := by omega
        rw [this]; exact h1
      · have : J % 8 = (J - 8) % 8 := by omega
        rw [this]; exact h2


section
variable {H : Type} {enc : TypeId × Value → H} {w : World} {base : Nat} {spare : Nat → Bool} {held : Bool}
set_option maxRecDepth 100000 in
/-- A slice of heads that came in. -/
theorem open_heads {v : Value} {fuel : Nat} {x : DataW H × List MemPlace} (h : DataW.trod enc Try.prog w base spare held fuel 22 v.cells.toList = some x) {A : Option Addr} {len cap : Nat} (hv : v = .slice A len cap) :
    ∃ vs : List Od.Hd, HeadsAt w w.heap.size (.slice A len cap) vs ∧ vs.length = len ∧ len ≤ maxLen ∧ ∀ u ∈ vs, HdRaw u := by
  subst hv
  rcases open_slice_fields Try.underlying22 Try.underlying59 Opn.oneH Opn.cellsH h with ⟨hcs, _⟩ | ⟨a, l, c, m, D, Pl, hcs, _, hlc, hcm, hm, hx, hi⟩
  · simp [Value.cells] at hcs
    obtain ⟨rfl, rfl, rfl⟩ := hcs
    exact ⟨[], headsNil _ _, rfl, Nat.zero_le _, by simp⟩
  · simp [Value.cells] at hcs
    obtain ⟨rfl, rfl, rfl⟩ := hcs
    have hml : len ≤ m := by rw [hm]; split <;> omega
    have key : ∀ i, ∃ u : Od.Hd, i < len → HdRaw u ∧ ∀ j y, (hcells u)[j]? = some y → w.cell? (a.add (i * 8 + j)) = some y := by
      intro i
      by_cases hil : i < len
      · obtain ⟨ys, n, _, _, _, hf⟩ := hi i (by omega)
        obtain ⟨v0, y0, e0, _, t0⟩ := hf 0 _ rfl
        obtain ⟨v1, y1, e1, _, t1⟩ := hf 1 _ rfl
        obtain ⟨v2, y2, e2, _, t2⟩ := hf 2 _ rfl
        obtain ⟨v3, y3, e3, _, t3⟩ := hf 3 _ rfl
        obtain ⟨v4, y4, e4, _, t4⟩ := hf 4 _ rfl
        obtain ⟨v5, y5, e5, _, t5⟩ := hf 5 _ rfl
        obtain ⟨v6, y6, e6, _, t6⟩ := hf 6 _ rfl
        obtain ⟨v7, y7, e7, _, t7⟩ := hf 7 _ rfl
        obtain ⟨n0, q0, _, w0⟩ := DataW.trod_int Try.underlying26 t0
        obtain ⟨n1, q1, _, w1⟩ := DataW.trod_int Try.underlying5 t1
        obtain ⟨n2, q2, _, w2⟩ := DataW.trod_int Try.underlying5 t2
        obtain ⟨n3, q3, _, w3⟩ := DataW.trod_int Try.underlying25 t3
        obtain ⟨n4, q4, _, w4⟩ := DataW.trod_int Try.underlying25 t4
        obtain ⟨n5, q5, _, w5⟩ := DataW.trod_int Try.underlying21 t5
        obtain ⟨n6, q6, _, w6⟩ := DataW.trod_int Try.underlying26 t6
        obtain ⟨n7, q7, _, w7⟩ := DataW.trod_int Try.underlying26 t7
        injection q0 with q0; injection q1 with q1; injection q2 with q2; injection q3 with q3; injection q4 with q4; injection q5 with q5; injection q6 with q6; injection q7 with q7
        subst q0 q1 q2 q3 q4 q5 q6 q7
        have b0 := Opn.wfb (lo := 0) (hi := 65535) w0 (by decide) (by decide)
        have b2 := Opn.wfb (lo := 0) (hi := 255) w2 (by decide) (by decide)
        have b3 := Opn.wfb (lo := 0) (hi := 4294967295) w3 (by decide) (by decide)
        have b4 := Opn.wfb (lo := 0) (hi := 4294967295) w4 (by decide) (by decide)
        refine ⟨⟨n0, n1, n2, n3, n4, n5, n6, n7⟩, fun _ => ⟨⟨b0.1, b0.2, b2.1, b2.2, b3.1, by show n3 < 4294967296; omega, b4.1, by show n4 < 4294967296; omega⟩, fun j y hy => ?_⟩⟩
        match j, hy with
        | 0, hy => simp [hcells] at hy; subst hy; exact e0
        | 1, hy => simp [hcells] at hy; subst hy; exact e1
        | 2, hy => simp [hcells] at hy; subst hy; exact e2
        | 3, hy => simp [hcells] at hy; subst hy; exact e3
        | 4, hy => simp [hcells] at hy; subst hy; exact e4
        | 5, hy => simp [hcells] at hy; subst hy; exact e5
        | 6, hy => simp [hcells] at hy; subst hy; exact e6
        | 7, hy => simp [hcells] at hy; subst hy; exact e7
        | (j + 8), hy => simp [hcells] at hy
      · exact ⟨⟨0, 0, 0, 0, 0, 0, 0, 0⟩, fun h => absurd h hil⟩
    obtain ⟨f, hf⟩ := Classical.axiomOfChoice key
    refine ⟨(List.range len).map f, ⟨some a, len, cap, rfl, by omega, by simp, by rw [hflat_length]; simp, fun hn => ⟨a, rfl, ?_, fun J u hu => ?_⟩⟩, by simp, by omega, ?_⟩
    · have h0 := (hf 0 hn).2 0 _ rfl
      have := World.block_lt_of_cell? w _ h0
      rwa [block_of_add] at this
    · obtain ⟨v, h1, h2⟩ := flat_div _ _ _ hu
      have hJ : J / 8 < len := by
        have := (List.getElem?_eq_some_iff.1 h1).1
        simpa using this
      rw [List.getElem?_map, List.getElem?_range hJ] at h1
      simp at h1
      subst h1
      have := (hf (J / 8) hJ).2 _ _ h2
      rwa [show J / 8 * 8 + J % 8 = J from by omega] at this
    · intro u hu
      obtain ⟨i, hi1, rfl⟩ := List.mem_map.1 hu
      exact (hf i (List.mem_range.1 hi1)).1
end
end Go.Proofs.Ytgbmhijgpdgdbaa
