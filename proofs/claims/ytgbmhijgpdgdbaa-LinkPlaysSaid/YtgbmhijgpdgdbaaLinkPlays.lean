/- PROVED: for every config and every script the statement LinkPlays returns true and leaves what came in as it was. CONDITIONS: none (the first form of the statement). -/
import Derived.Test.YtgbmhijgpdgdbaaRows
import Derived.ProofKit
import Derived.Deep.Slices
import Derived.Deep.Fields
import Derived.ChangeSame
import Derived.Lib.SmallJoins
import Derived.Test.YtgbmhijgpdgdbaaLpPlayLaw
import Derived.OwnWalk
import Derived.OpenShut
import Derived.ShutString
import Derived.ChangeOld
set_option maxHeartbeats 1000000
set_option maxRecDepth 100000
namespace Go.Proofs.Ytgbmhijgpdgdbaa
namespace Opn
open Go.Joins Go.ChangeShapes Go.WideShapes Go.RowKit Go.Deep
section
variable {H : Type} {enc : TypeId × Value → H} {P : Program} {w : World} {base : Nat} {spare : Nat → Bool} {held : Bool}
end
section
variable {H : Type} {enc : TypeId × Value → H} {w : World} {base : Nat} {spare : Nat → Bool} {held : Bool}
theorem wfb {k : IntKind} {n lo hi : Int} (h : (Lit.int k n).wf = true) (el : k.min = lo) (eh : k.max = hi) : lo ≤ n ∧ n ≤ hi := by
  simp only [Lit.wf, Bool.and_eq_true, decide_eq_true_eq] at h
  omega
end
end Opn
end Go.Proofs.Ytgbmhijgpdgdbaa
namespace Go.Proofs.Ytgbmhijgpdgdbaa
open Go.Joins Go.ChangeShapes Go.WideShapes Go.RowKit Go.Deep
section
variable {H : Type} {enc : TypeId × Value → H} {P : Program} {w : World} {base : Nat} {spare : Nat → Bool} {held : Bool}
theorem open_slice_flds {t e : TypeId} {fs : Array Field} {fuel : Nat} {cs : List Value} {x : DataW H × List MemPlace} (ht : P.underlying t = some (.slice e)) (he : P.underlying e = some (.struct fs))
    (hone : oneCellFields P fs = true) (hC : P.cellsOf e = fs.size) (h : DataW.trod enc P w base spare held fuel t cs = some x) :
    (cs = [.slice none 0 0] ∧ x = (.nil, [])) ∨
    ∃ (a : Addr) (len cap m : Nat) (D : Nat → DataW H) (Pl : Nat → List MemPlace), cs = [.slice (some a) len cap] ∧ base ≤ a.block ∧ len ≤ cap ∧ cap ≤ maxLen ∧ m = (if spare a.block then cap else len) ∧
      x = (.slice ((List.range len).map D) ((List.range (m - len)).map fun j => D (len + j)), MemPlace.row a (m * fs.size) ++ (List.range m).flatMap Pl) ∧
      ∀ i, i < m → ∃ (ys : List (DataW H × List MemPlace)) (n : Nat), D i = .agg (ys.map (·.1)) ∧ Pl i = ys.flatMap (·.2) ∧ ys.length = fs.size ∧
        ∀ (j : Nat) (f : Field), fs[j]? = some f → ∃ (v : Value) (y : DataW H × List MemPlace), w.cell? (a.add (i * fs.size + j)) = some v ∧ ys[j]? = some y ∧ DataW.trod enc P w base spare held n f.type [v] = some y := by
  rcases open_slice ht h with h0 | ⟨a, len, cap, m, n, D, Pl, hcs, hb, hl, hm, hmm, hx, hi⟩
  · exact .inl h0
  · refine .inr ⟨a, len, cap, m, D, Pl, hcs, hb, hl, hm, hmm, by rw [hC] at hx; exact hx, fun i him => ?_⟩
    obtain ⟨cs', hc, ht'⟩ := hi i him
    rw [hC] at hc
    obtain ⟨ys, n', hn', hy, hlen, hyl, hf⟩ := DataW.trod_struct he ht'
    obtain ⟨_, hcl, hat⟩ := World.cells?_some hc
    simp only [Prod.mk.injEq] at hy
    refine ⟨ys, n', hy.1, hy.2, hyl, fun j f hj => ?_⟩
    obtain ⟨ho, hk⟩ := hone_of hone j f hj
    have hjl : j < fs.size := (Array.getElem?_eq_some_iff.1 hj).1
    have hcell := hat j hjl
    have hv : cs'[j]? = some (cs'[j]'(by omega)) := List.getElem?_eq_getElem (by omega)
    have h1 := hf j f hj
    rw [ho, hk] at h1
    have hone' : (cs'.drop j).take 1 = [cs'[j]'(by omega)] := by
      rw [List.drop_eq_getElem_cons (by omega)]
      rfl
    rw [hone'] at h1
    have hys : ys[j]? = some (ys[j]'(by omega)) := List.getElem?_eq_getElem (by omega)
    refine ⟨_, _, ?_, hys, h1.trans hys⟩
    rw [← Go.Deep.add_add, hcell, hv]
end
section
variable {H : Type} {enc : TypeId × Value → H} {w : World} {base : Nat} {spare : Nat → Bool} {held : Bool}
theorem cells76 : Try.prog.cellsOf 76 = 14 := by kernel_rfl
theorem cells96 : Try.prog.cellsOf 96 = 12 := by kernel_rfl
theorem cells73 : Try.prog.cellsOf 73 = 2 := by kernel_rfl
theorem cells90 : Try.prog.cellsOf 90 = 8 := by kernel_rfl
theorem cells5 : Try.prog.cellsOf 5 = 1 := by kernel_rfl
theorem cells25 : Try.prog.cellsOf 25 = 1 := by kernel_rfl
theorem cells26 : Try.prog.cellsOf 26 = 1 := by kernel_rfl
theorem cells4 : Try.prog.cellsOf 4 = 1 := by kernel_rfl
theorem cells3 : Try.prog.cellsOf 3 = 1 := by kernel_rfl
theorem cells74 : Try.prog.cellsOf 74 = 1 := by kernel_rfl
theorem cells88 : Try.prog.cellsOf 88 = 1 := by kernel_rfl
theorem cells132 : Try.prog.cellsOf 132 = 2 := by kernel_rfl
theorem one132 : oneCellFields Try.prog #[{ name := "Addr", type := 25, offset := 0, embedded := false, tag := "", pkgPath := "", byteOffset := 0 }, { name := "Priority", type := 5, offset := 1, embedded := false, tag := "", pkgPath := "", byteOffset := 4 }] = true := by kernel_rfl
theorem pflat_div (vs : List (Int × Int)) : ∀ (J : Nat) (u : Value), (vs.flatMap pcells)[J]? = some u → ∃ v, vs[J / 2]? = some v ∧ (pcells v)[J % 2]? = some u := by
  induction vs with
  | nil => intro J u h; simp at h
  | cons x vs ih =>
    intro J u h
    rw [List.flatMap_cons] at h
    have hl : (pcells x).length = 2 := rfl
    by_cases hJ : J < 2
    · rw [List.getElem?_append_left (by rw [hl]; exact hJ)] at h
      refine ⟨x, ?_, ?_⟩
      · rw [Nat.div_eq_of_lt hJ]; rfl
      · rw [Nat.mod_eq_of_lt hJ]; exact h
    · rw [List.getElem?_append_right (by rw [hl]; omega), hl] at h
      obtain ⟨v, h1, h2⟩ := ih _ _ h
      refine ⟨v, ?_, ?_⟩
      · have : J / 2 = (J - 2) / 2 + 1 := by omega
        rw [this]; exact h1
      · have : J % 2 = (J - 2) % 2 := by omega
        rw [this]; exact h2
theorem open_peers {v : Value} {fuel : Nat} {x : DataW H × List MemPlace} (h : DataW.trod enc Try.prog w base spare held fuel 74 [v] = some x) :
    ∃ L : List (Int × Int), PeersAt w w.heap.size v L ∧ ∀ p ∈ L, WdOk p.1 := by
  rcases open_slice_flds Try.underlying74 Try.underlying132 one132 cells132 h with ⟨hcs, _⟩ | ⟨a, l, c, m, D, Pl, hcs, _, hlc, hcm, hm, hx, hi⟩
  · obtain rfl : v = .slice none 0 0 := by simpa using hcs
    exact ⟨[], ⟨none, 0, rfl, Reads.none_⟩, by simp⟩
  · obtain rfl : v = .slice (some a) l c := by simpa using hcs
    have hml : l ≤ m := by rw [hm]; split <;> omega
    have key : ∀ i, ∃ u : Int × Int, i < l → WdOk u.1 ∧ ∀ j y, (pcells u)[j]? = some y → w.cell? (a.add (i * 2 + j)) = some y := by
      intro i
      by_cases hil : i < l
      · obtain ⟨ys, n, _, _, _, hf⟩ := hi i (by omega)
        obtain ⟨v0, y0, e0, _, t0⟩ := hf 0 _ rfl
        obtain ⟨v1, y1, e1, _, t1⟩ := hf 1 _ rfl
        obtain ⟨n0, q0, _, w0⟩ := DataW.trod_int Try.underlying25 t0
        obtain ⟨n1, q1, _, w1⟩ := DataW.trod_int Try.underlying5 t1
        injection q0 with q0; injection q1 with q1
        subst q0 q1
        have b0 := Opn.wfb (lo := 0) (hi := 4294967295) w0 (by decide) (by decide)
        refine ⟨(n0, n1), fun _ => ⟨⟨b0.1, by show n0 < 4294967296; omega⟩, fun j y hy => ?_⟩⟩
        match j, hy with
        | 0, hy => simp [pcells] at hy; subst hy; exact e0
        | 1, hy => simp [pcells] at hy; subst hy; exact e1
        | (j + 2), hy => simp [pcells] at hy
      · exact ⟨(0, 0), fun h => absurd h hil⟩
    obtain ⟨f, hf⟩ := Classical.axiomOfChoice key
    refine ⟨(List.range l).map f, ⟨some a, c, by simp, by rw [pflat_len], fun hn => ⟨a, rfl, ?_, fun J u hu => ?_⟩⟩, ?_⟩
    · have h0 := (hf 0 (by simpa using hn)).2 0 _ rfl
      have := World.block_lt_of_cell? w _ h0
      rwa [block_of_add] at this
    · obtain ⟨v, h1, h2⟩ := pflat_div _ _ _ hu
      have hJ : J / 2 < l := by
        have := (List.getElem?_eq_some_iff.1 h1).1
        simpa using this
      rw [List.getElem?_map, List.getElem?_range hJ] at h1
      simp at h1
      subst h1
      have := (hf (J / 2) hJ).2 _ _ h2
      rwa [show J / 2 * 2 + J % 2 = J from by omega] at this
    · intro u hu
      obtain ⟨i, hi1, rfl⟩ := List.mem_map.1 hu
      exact (hf i (List.mem_range.1 hi1)).1
end
theorem flat_divm {α : Type} (f : α → List Value) {m : Nat} (hf : ∀ a, (f a).length = m) (hm : 0 < m) (vs : List α) : ∀ (J : Nat) (u : Value), (vs.flatMap f)[J]? = some u → ∃ v, vs[J / m]? = some v ∧ (f v)[J % m]? = some u := by
  induction vs with
  | nil => intro J u h; simp at h
  | cons x vs ih =>
    intro J u h
    rw [List.flatMap_cons] at h
    have hl := hf x
    by_cases hJ : J < m
    · rw [List.getElem?_append_left (by rw [hl]; exact hJ)] at h
      refine ⟨x, ?_, ?_⟩
      · rw [Nat.div_eq_of_lt hJ]; rfl
      · rw [Nat.mod_eq_of_lt hJ]; exact h
    · rw [List.getElem?_append_right (by rw [hl]; omega), hl] at h
      obtain ⟨v, h1, h2⟩ := ih _ _ h
      have hJm : J = (J - m) + m := by omega
      refine ⟨v, ?_, ?_⟩
      · have : J / m = (J - m) / m + 1 := by conv => lhs; rw [hJm, Nat.add_div_right _ hm]
        rw [this]; exact h1
      · have : J % m = (J - m) % m := by conv => lhs; rw [hJm, Nat.add_mod_right]
        rw [this]; exact h2
section
variable {H : Type} {enc : TypeId × Value → H} {w : World} {base : Nat} {spare : Nat → Bool} {held : Bool}
theorem open_words {v : Value} {fuel : Nat} {x : DataW H × List MemPlace} (h : DataW.trod enc Try.prog w base spare held fuel 88 [v] = some x) :
    ∃ (A : Option Addr) (n c : Nat) (ws : List Int), v = .slice A n c ∧ ws.length = n ∧ Reads w w.heap.size 1 A n (ws.map (Value.int .u32)) := by
  rcases open_slice Try.underlying88 h with ⟨hcs, _⟩ | ⟨a, l, c, m, k, D, Pl, hcs, _, hlc, _, hm, _, hi⟩
  · exact ⟨none, 0, 0, [], by simpa using hcs, rfl, Reads.none_⟩
  · obtain rfl : v = .slice (some a) l c := by simpa using hcs
    have hml : l ≤ m := by rw [hm]; split <;> omega
    have key : ∀ i, ∃ u : Int, i < l → w.cell? (a.add i) = some (.int .u32 u) := by
      intro i
      by_cases hil : i < l
      · obtain ⟨cs', hc, ht⟩ := hi i (by omega)
        rw [cells25, Nat.mul_one] at hc
        obtain ⟨n, rfl, _, _⟩ := DataW.trod_int Try.underlying25 ht
        obtain ⟨_, _, hat⟩ := World.cells?_some hc
        refine ⟨n, fun _ => ?_⟩
        have h0 := hat 0 (by omega)
        rw [Go.Deep.add_add, Nat.add_zero] at h0
        exact h0
      · exact ⟨0, fun h => absurd h hil⟩
    obtain ⟨f, hf⟩ := Classical.axiomOfChoice key
    refine ⟨some a, l, c, (List.range l).map f, rfl, by simp, by simp, fun hn => ⟨a, rfl, ?_, fun J u hu => ?_⟩⟩
    · have := World.block_lt_of_cell? w _ (hf 0 hn)
      rwa [block_of_add] at this
    · rw [List.getElem?_map] at hu
      cases hx : ((List.range l).map f)[J]? with
      | none => rw [hx] at hu; cases hu
      | some y =>
        rw [hx] at hu
        cases hu
        rw [List.getElem?_map] at hx
        have hJ : J < l := by
          rcases Nat.lt_or_ge J l with h | h
          · exact h
          · rw [List.getElem?_eq_none (by simpa using h)] at hx; cases hx
        rw [List.getElem?_range hJ] at hx
        simp at hx
        subst hx
        exact hf J hJ
theorem open_sv {fuel : Nat} {cs : List Value} {x : DataW H × List MemPlace} (hlen : cs.length = 12) (h : DataW.trod enc Try.prog w base spare held fuel 96 cs = some x) :
    ∃ s : Sv, cs = s.cells ∧ (s.nn ≤ 300 → WordsLo w.heap.size w (.slice s.na s.nn s.nc) s.h.nb) := by
  match cs, hlen with
  | [c0, c1, c2, c3, c4, c5, c6, c7, c8, c9, c10, c11], _ =>
    obtain ⟨xs, n, _, hx, _, hlen, hg⟩ := DataW.trod_struct Try.underlying96 h
    match xs, hlen with
    | [y0, y1, y2, y3, y4], _ =>
      have t0 : DataW.trod enc Try.prog w base spare held n 3 [c0] = some y0 := by simpa [Value.cells, cells3] using hg 0 _ rfl
      have t1 : DataW.trod enc Try.prog w base spare held n 3 [c1] = some y1 := by simpa [Value.cells, cells3] using hg 1 _ rfl
      have t2 : DataW.trod enc Try.prog w base spare held n 25 [c2] = some y2 := by simpa [Value.cells, cells25] using hg 2 _ rfl
      have t3 : DataW.trod enc Try.prog w base spare held n 25 [c3] = some y3 := by simpa [Value.cells, cells25] using hg 3 _ rfl
      have t4 : DataW.trod enc Try.prog w base spare held n 90 [c4, c5, c6, c7, c8, c9, c10, c11] = some y4 := by simpa [Value.cells, cells90] using hg 4 _ rfl
      obtain ⟨n0, q0, _, _⟩ := DataW.trod_int Try.underlying3 t0
      obtain ⟨n1, q1, _, _⟩ := DataW.trod_int Try.underlying3 t1
      obtain ⟨n2_, q2, _, _⟩ := DataW.trod_int Try.underlying25 t2
      obtain ⟨n3, q3, _, _⟩ := DataW.trod_int Try.underlying25 t3
      obtain ⟨zs, n2, _, _, _, hlen2, hg2⟩ := DataW.trod_struct Try.underlying90 t4
      match zs, hlen2 with
      | [z0, z1, z2, z3, z4, z5, z6, z7], _ =>
        have u0 : DataW.trod enc Try.prog w base spare held n2 25 [c4] = some z0 := by simpa [cells25] using hg2 0 _ rfl
        have u1 : DataW.trod enc Try.prog w base spare held n2 26 [c5] = some z1 := by simpa [cells26] using hg2 1 _ rfl
        have u2 : DataW.trod enc Try.prog w base spare held n2 5 [c6] = some z2 := by simpa [cells5] using hg2 2 _ rfl
        have u3 : DataW.trod enc Try.prog w base spare held n2 5 [c7] = some z3 := by simpa [cells5] using hg2 3 _ rfl
        have u4 : DataW.trod enc Try.prog w base spare held n2 25 [c8] = some z4 := by simpa [cells25] using hg2 4 _ rfl
        have u5 : DataW.trod enc Try.prog w base spare held n2 25 [c9] = some z5 := by simpa [cells25] using hg2 5 _ rfl
        have u6 : DataW.trod enc Try.prog w base spare held n2 25 [c10] = some z6 := by simpa [cells25] using hg2 6 _ rfl
        have u7 : DataW.trod enc Try.prog w base spare held n2 88 [c11] = some z7 := by simpa [cells88] using hg2 7 _ rfl
        obtain ⟨m0, r0, _, _⟩ := DataW.trod_int Try.underlying25 u0
        obtain ⟨m1, r1, _, _⟩ := DataW.trod_int Try.underlying26 u1
        obtain ⟨m2, r2, _, _⟩ := DataW.trod_int Try.underlying5 u2
        obtain ⟨m3, r3, _, _⟩ := DataW.trod_int Try.underlying5 u3
        obtain ⟨m4, r4, _, _⟩ := DataW.trod_int Try.underlying25 u4
        obtain ⟨m5, r5, _, _⟩ := DataW.trod_int Try.underlying25 u5
        obtain ⟨m6, r6, _, _⟩ := DataW.trod_int Try.underlying25 u6
        obtain ⟨GA, gn, gc, ws, rG, hwl, hwr⟩ := open_words u7
        injection q0 with q0
        injection q1 with q1
        injection q2 with q2
        injection q3 with q3
        injection r0 with r0
        injection r1 with r1
        injection r2 with r2
        injection r3 with r3
        injection r4 with r4
        injection r5 with r5
        injection r6 with r6
        subst rG q0 q1 q2 q3 r0 r1 r2 r3 r4 r5 r6
        exact ⟨⟨n0, n1, n2_, n3, ⟨m0, m1, m2, m3, m4, m5, m6, ws⟩, GA, gn, gc⟩, rfl, fun h => ⟨GA, gn, gc, rfl, hwl, by have h : gn ≤ 300 := h; omega, hwr⟩⟩
theorem open_script {v : Value} {fuel : Nat} {x : DataW H × List MemPlace} (h : DataW.trod enc Try.prog w base spare held fuel 111 v.cells.toList = some x) {A : Option Addr} {len cap : Nat} (hv : v = .slice A len cap) :
    ∃ l : List Sv, Reads w w.heap.size 12 A len (l.flatMap Sv.cells) ∧ l.length = len ∧ ∀ s ∈ l, s.nn ≤ 300 → WordsLo w.heap.size w (.slice s.na s.nn s.nc) s.h.nb := by
  subst hv
  rcases open_slice Try.underlying111 h with ⟨hcs, _⟩ | ⟨a, l, c, m, k, D, Pl, hcs, _, hlc, _, hm, _, hi⟩
  · simp [Value.cells] at hcs
    obtain ⟨rfl, rfl, rfl⟩ := hcs
    exact ⟨[], Reads.none_, rfl, by simp⟩
  · simp [Value.cells] at hcs
    obtain ⟨rfl, rfl, rfl⟩ := hcs
    have hml : len ≤ m := by rw [hm]; split <;> omega
    have key : ∀ i, ∃ s : Sv, i < len → (s.nn ≤ 300 → WordsLo w.heap.size w (.slice s.na s.nn s.nc) s.h.nb) ∧ ∀ j y, s.cells[j]? = some y → w.cell? (a.add (i * 12 + j)) = some y := by
      intro i
      by_cases hil : i < len
      · obtain ⟨cs', hc, ht⟩ := hi i (by omega)
        rw [cells96] at hc
        obtain ⟨_, hcl, hat⟩ := World.cells?_some hc
        obtain ⟨s, rfl, hw⟩ := open_sv hcl ht
        refine ⟨s, fun _ => ⟨hw, fun j y hy => ?_⟩⟩
        have hj : j < 12 := by
          have := (List.getElem?_eq_some_iff.1 hy).1
          rw [← hcl]
          exact this
        rw [← Go.Deep.add_add, hat j hj]
        exact hy
      · exact ⟨⟨0, 0, 0, 0, ⟨0, 0, 0, 0, 0, 0, 0, []⟩, none, 0, 0⟩, fun h => absurd h hil⟩
    obtain ⟨f, hf⟩ := Classical.axiomOfChoice key
    have hcl : ∀ s : Sv, s.cells.length = 12 := fun _ => rfl
    refine ⟨(List.range len).map f, ⟨?_, fun hn => ⟨a, rfl, ?_, fun J u hu => ?_⟩⟩, by simp, ?_⟩
    · have : ∀ l : List Sv, (l.flatMap Sv.cells).length = l.length * 12 := by
        intro l
        induction l with
        | nil => rfl
        | cons b t ih => rw [List.flatMap_cons, List.length_append, ih, hcl, List.length_cons]; omega
      rw [this]
      simp
    · have h0 := (hf 0 (by simpa using hn)).2 0 _ rfl
      have := World.block_lt_of_cell? w _ h0
      rwa [block_of_add] at this
    · obtain ⟨s, h1, h2⟩ := flat_divm Sv.cells hcl (by decide) _ _ _ hu
      have hJ : J / 12 < len := by
        have := (List.getElem?_eq_some_iff.1 h1).1
        simpa using this
      rw [List.getElem?_map, List.getElem?_range hJ] at h1
      simp at h1
      subst h1
      have := (hf (J / 12) hJ).2 _ _ h2
      rwa [show J / 12 * 12 + J % 12 = J from by omega] at this
    · intro s hs
      obtain ⟨i, hi1, rfl⟩ := List.mem_map.1 hs
      exact (hf i (List.mem_range.1 hi1)).1
theorem open_cfg2 {r0 : Reach} {b0 : Nat} {x : Value} {d : DataW H} {p : List MemPlace} (hv : Value.okWide Try.prog w r0 b0 76 x) (h : DataW.Trod enc Try.prog w base spare held 76 x d p) :
    ∃ (c : LC) (L : List (Int × Int)), x = .agg c.cells ∧ PeersAt w w.heap.size c.pe L ∧ CfgIn c ∧ ∀ p ∈ L, WdOk p.1 := by
  obtain ⟨cs, rfl, hsz⟩ := okWide_struct Try.underlying76 hv
  obtain ⟨l⟩ := cs
  match l, hsz.trans cells76 with
  | [c0, c1, c2, c3, c4, c5, c6, c7, c8, c9, c10, c11, c12, c13], _ =>
    obtain ⟨fuel, hf⟩ := h
    obtain ⟨xs, n, _, hx, _, hlen, hg⟩ := DataW.trod_struct Try.underlying76 hf
    match xs, hlen with
    | [y0, y1, y2, y3, y4, y5, y6, y7, y8, y9, y10, y11, y12], _ =>
      have t0 : DataW.trod enc Try.prog w base spare held n 5 [c0] = some y0 := by simpa [Value.cells, cells5] using hg 0 _ rfl
      have t1 : DataW.trod enc Try.prog w base spare held n 25 [c1] = some y1 := by simpa [Value.cells, cells25] using hg 1 _ rfl
      have t2 : DataW.trod enc Try.prog w base spare held n 73 [c2, c3] = some y2 := by simpa [Value.cells, cells73] using hg 2 _ rfl
      have t3 : DataW.trod enc Try.prog w base spare held n 25 [c4] = some y3 := by simpa [Value.cells, cells25] using hg 3 _ rfl
      have t4 : DataW.trod enc Try.prog w base spare held n 5 [c5] = some y4 := by simpa [Value.cells, cells5] using hg 4 _ rfl
      have t5 : DataW.trod enc Try.prog w base spare held n 26 [c6] = some y5 := by simpa [Value.cells, cells26] using hg 5 _ rfl
      have t6 : DataW.trod enc Try.prog w base spare held n 25 [c7] = some y6 := by simpa [Value.cells, cells25] using hg 6 _ rfl
      have t7 : DataW.trod enc Try.prog w base spare held n 26 [c8] = some y7 := by simpa [Value.cells, cells26] using hg 7 _ rfl
      have t8 : DataW.trod enc Try.prog w base spare held n 5 [c9] = some y8 := by simpa [Value.cells, cells5] using hg 8 _ rfl
      have t9 : DataW.trod enc Try.prog w base spare held n 4 [c10] = some y9 := by simpa [Value.cells, cells4] using hg 9 _ rfl
      have t10 : DataW.trod enc Try.prog w base spare held n 4 [c11] = some y10 := by simpa [Value.cells, cells4] using hg 10 _ rfl
      have t11 : DataW.trod enc Try.prog w base spare held n 74 [c12] = some y11 := by simpa [Value.cells, cells74] using hg 11 _ rfl
      have t12 : DataW.trod enc Try.prog w base spare held n 25 [c13] = some y12 := by simpa [Value.cells, cells25] using hg 12 _ rfl
      obtain ⟨n0, q0, _, w0⟩ := DataW.trod_int Try.underlying5 t0
      obtain ⟨n1, q1, _, w1⟩ := DataW.trod_int Try.underlying25 t1
      obtain ⟨n3, q3, _, w3⟩ := DataW.trod_int Try.underlying25 t3
      obtain ⟨n4, q4, _, w4⟩ := DataW.trod_int Try.underlying5 t4
      obtain ⟨n5, q5, _, w5⟩ := DataW.trod_int Try.underlying26 t5
      obtain ⟨n6, q6, _, w6⟩ := DataW.trod_int Try.underlying25 t6
      obtain ⟨n7, q7, _, w7⟩ := DataW.trod_int Try.underlying26 t7
      obtain ⟨n8, q8, _, w8⟩ := DataW.trod_int Try.underlying5 t8
      obtain ⟨n9, q9, _⟩ := DataW.trod_bool Try.underlying4 t9
      obtain ⟨n10, q10, _⟩ := DataW.trod_bool Try.underlying4 t10
      obtain ⟨n12, q12, _, w12⟩ := DataW.trod_int Try.underlying25 t12
      obtain ⟨zs, n2, _, _, _, hlen2, hg2⟩ := DataW.trod_struct Try.underlying73 t2
      match zs, hlen2 with
      | [z0, z1], _ =>
        have u0 : DataW.trod enc Try.prog w base spare held n2 25 [c2] = some z0 := by simpa [cells25] using hg2 0 _ rfl
        have u1 : DataW.trod enc Try.prog w base spare held n2 5 [c3] = some z1 := by simpa [cells5] using hg2 1 _ rfl
        obtain ⟨m0, r0, _, v0⟩ := DataW.trod_int Try.underlying25 u0
        obtain ⟨m1, r1, _, v1⟩ := DataW.trod_int Try.underlying5 u1
        obtain ⟨L, hL, hwd⟩ := open_peers t11
        injection r0 with r0; injection r1 with r1
        injection q0 with q0
        injection q1 with q1
        injection q3 with q3
        injection q4 with q4
        injection q5 with q5
        injection q6 with q6
        injection q7 with q7
        injection q8 with q8
        injection q9 with q9
        injection q10 with q10
        injection q12 with q12
        subst r0 r1 q0 q1 q3 q4 q5 q6 q7 q8 q9 q10 q12
        have g0 := Opn.wfb (lo := 0) (hi := 4294967295) v0 (by decide) (by decide)
        have g1 := Opn.wfb (lo := 0) (hi := 255) v1 (by decide) (by decide)
        have g3 := Opn.wfb (lo := 0) (hi := 4294967295) w3 (by decide) (by decide)
        have f0 := Opn.wfb (lo := 0) (hi := 255) w0 (by decide) (by decide)
        have f8 := Opn.wfb (lo := 0) (hi := 255) w8 (by decide) (by decide)
        have f5 := Opn.wfb (lo := 0) (hi := 65535) w5 (by decide) (by decide)
        have f6 := Opn.wfb (lo := 0) (hi := 4294967295) w6 (by decide) (by decide)
        have f7 := Opn.wfb (lo := 0) (hi := 65535) w7 (by decide) (by decide)
        exact ⟨{ ty := n0, ro := n1, na := m0, nb := m1, ad := n3, op := n4, hi := n5, dd := n6, po := n7, pr := n8, dm := n9, ps := n10, pe := c12, rm := n12 }, L, rfl, hL, ⟨f0.1, g1.1, f8.1, ⟨f5.1, by show n5 < 65536; omega⟩, ⟨f6.1, by show n6 < 4294967296; omega⟩, ⟨f7.1, by show n7 < 65536; omega⟩, ⟨g3.1, by show n3 < 4294967296; omega⟩, ⟨g0.1, by show m0 < 4294967296; omega⟩⟩, hwd⟩
end
end Go.Proofs.Ytgbmhijgpdgdbaa
namespace Go.Proofs.Ytgbmhijgpdgdbaa
open Go.ChangeShapes Go.WideShapes Go.ChangeAt Go.RowKit
namespace LinkPlaysRow
theorem own : ownKnob Try.prog.godebug = none := by kernel_rfl
theorem laidOut : laidOutB Try.prog = true := by kernel_rfl
theorem lifted (os : Os) (started : os.Started) (H : Type) (enc : TypeId × Value → H) :
    ReturnsInHanded {} Try.checked os 9 .any (Rows.linkPlaysSpec.pre6 enc Try.prog Try.f9 Rows.linkPlaysRow.domain false) (Rows.linkPlaysSpec.post enc Try.prog Try.f9 false true false false) := by
  refine returnsInHanded_of_change (C := Try.checked) own started (by kernel_rfl) Try.func9
    (ChangeSpec.witness6 (enc := enc) (C := Try.checked) false ⟨#[], #[.agg #[.int .u8 0, .int .u32 0, .int .u32 0, .int .u8 0, .int .u32 0, .int .u8 0, .int .u16 0, .int .u32 0, .int .u16 0, .int .u8 0, .bool false, .bool false, .slice none 0 0, .int .u32 0], .slice none 0 0], []⟩ 8 (by kernel_rfl) (by kernel_rfl) (by kernel_rfl) (by kernel_rfl)) ?_
  intro W base args ds gs before hval0 hW hcnd _
  have hval : ∀ (j : Nat) t v, Try.f9.params[j]? = some t → args[j]? = some v → Value.okWide Try.prog W .any base t v := hval0
  have hW' := hW
  obtain ⟨p, q, hA0, hV, rfl, hfz, hnd⟩ := hW
  have hA : DataW.TrodAll enc Try.prog W 0 (fun _ => true) true Try.f9.params.toList args.toList ds p := hA0
  rw [Try.params9] at hA hval
  obtain ⟨v0, vs0, d0, ds0, p0, q0, hargs, rfl, rfl, h0, r0⟩ := trodAll_cons hA
  obtain ⟨v1, vs1, d1, ds1, p1, q1, rfl, rfl, rfl, h1, r1⟩ := trodAll_cons r0
  obtain ⟨rfl, rfl, rfl⟩ := trodAll_nil r1
  obtain rfl : args = #[v0, v1] := by cases args; simp_all
  obtain ⟨rfl, rfl⟩ := trodVars_none hV
  have k0 := h0
  have k1 := h1
  have lt0 : ∀ x ∈ p0, x.block < W.heap.size := by obtain ⟨m, hm⟩ := k0; exact DataW.trod_lt m _ _ _ hm
  have lt1 : ∀ x ∈ p1, x.block < W.heap.size := by obtain ⟨m, hm⟩ := k1; exact DataW.trod_lt m _ _ _ hm
  obtain ⟨c, L, rfl, hL, hin, hwd⟩ := open_cfg2 (hval 0 76 v0 rfl rfl) h0
  obtain ⟨SA, sn, sc, rfl⟩ := okWide_slice Try.underlying111 (hval 1 111 v1 rfl rfl)
  obtain ⟨l, hS, hl, hws⟩ : ∃ l : List Sv, Reads W W.heap.size 12 SA sn (l.flatMap Sv.cells) ∧ l.length = sn ∧ ∀ s ∈ l, s.nn ≤ 300 → WordsLo W.heap.size W (.slice s.na s.nn s.nc) s.h.nb := by
    obtain ⟨fuel, hf⟩ := h1
    exact open_script hf rfl
  clear hA0 hval0
  refine (lawLinkPlays_any W c L SA sn sc l hL hin hwd hS hl hws).mono fun e W' ⟨he, bel⟩ => ?_
  subst he
  exact ⟨_, rfl, _, _, _, [], _, [], hW', trodAll_mk1 (shut_bool Try.underlying4 _), (trodAll_cons_mk (Below.trod laidOut (by kernel_rfl) (of_decide_eq_true (by kernel_rfl)) k0 bel lt0) (trodAll_cons_mk (Below.trod laidOut (by kernel_rfl) (of_decide_eq_true (by kernel_rfl)) k1 bel lt1) trodAll_mk0)), rfl, bel.frame _, fun h => by cases h⟩
theorem over : Rows.linkPlaysRow.holds Try.pinned (OpenSpec.ofChange Rows.linkPlaysSpec) :=
  OpenClaim.holds_of_wide 9 Try.f9 rfl rfl rfl rfl rfl rfl rfl ⟨rfl, rfl, rfl, rfl, rfl⟩ rfl rfl rfl rfl rfl (by kernel_rfl) Try.func9 (by kernel_rfl)
    (of_decide_eq_true (by kernel_rfl)) (by unfold Func.isWrapper; first | (rw [if_pos (by decide +kernel)]; kernel_rfl) | (rw [if_neg (by decide +kernel)]; exact ⟨rfl, rfl⟩))
    (fun os started H enc _ => lifted os started H enc)
end LinkPlaysRow
theorem linkPlays_holds : Rows.LinkPlaysSaid := LinkPlaysRow.over
#print axioms linkPlays_holds
end Go.Proofs.Ytgbmhijgpdgdbaa
