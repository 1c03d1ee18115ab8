/- The law of a late load, behind a first operation that asks no world. -/
import Derived.Test.YtgbmhijgpdgdbaaLpTail
namespace Go.Proofs.Ytgbmhijgpdgdbaa
open Go.RowKit
section
variable {P : Program} {C : World → Prop}
def lateAtB (ops : Array Oper) (pre : Array Bool) (s n m : Nat) : Bool :=
  Region.noSelect ops && decide (s < n) && decide (n ≤ m) && decide (m < ops.size) && sinkFrom .any ops (s + 1) n && Region.chainB .any ops n && Region.sinkB .any ops m && Region.chainB .any ops m &&
    (Region.ready .any ops pre).contains s && Region.free .any ops pre s && Region.lexHead .any ops (ops.size - n) (n - (s + 1)) (s + 1) (pre.setIfInBounds s true)
theorem any_late_at {Q : Exit → Act → World → Prop} {a : Act} {ops : Array Oper} {o : Oper} {l : List Oper} {v : Value} (pre : Array Bool) (s n m : Nat) (hi0 : ops[s]? = some o) (hl : ∀ j, l[j]? = ops[s + 1 + j]?) (hB : lateAtB ops pre s n m = true)
    (inv : ∀ t, s < t → HeadInv .any ops t pre) (hQ : ∀ c a w, Q (.panic c) (a.put o.dst v) w → Q (.panic c) a w) (hy : ReadsIn P ops C o v a) (w : World) (hC : C w)
    (h : wpQuiet P ops C (fun a' => ∀ w', C w' → wpListK P ops C m Q n (l.drop (n - (s + 1))) a' w') (l.take (n - (s + 1))) (a.put o.dst v)) :
    wpAny P .any ops Q (ops.size - s) pre a w := by
  simp only [lateAtB, Bool.and_eq_true, decide_eq_true_eq] at hB
  obtain ⟨⟨⟨⟨⟨⟨⟨⟨⟨⟨hsel, hn0⟩, hnm⟩, hm⟩, hs1⟩, hc1⟩, hsm⟩, hcm⟩, hr0⟩, hf0⟩, hlex⟩ := hB
  have hll : l.length + s + 1 = ops.size := by
    have h1 : l[l.length]? = none := List.getElem?_eq_none (Nat.le_refl _)
    rw [hl] at h1
    have h2 : ops.size ≤ s + 1 + l.length := Array.getElem?_eq_none_iff.1 h1
    rcases Nat.lt_or_ge (l.length + s + 1) ops.size with h3 | h3
    · omega
    · rcases Nat.lt_or_ge ops.size (l.length + s + 1) with h4 | h4
      · have h5 : ops[s + 1 + (l.length - 1)]? = none := Array.getElem?_eq_none (by omega)
        rw [← hl] at h5
        have := List.getElem?_eq_none_iff.1 h5
        omega
      · omega
  have hr : s ∈ Region.ready .any ops pre := by simpa using hr0
  have htl : (l.take (n - (s + 1))).length = n - (s + 1) := by rw [List.length_take]; omega
  have hdl : (l.drop (n - (s + 1))).length = ops.size - n := by rw [List.length_drop]; omega
  have H := wpHead_lex_from (P := P) (C := C) (s := s + 1) (md := .any) (g := ops.size - n) hsel hs1 hc1 (by omega) (l.take (n - (s + 1))) (s + 1) _ (a.put o.dst v) (Nat.le_refl _) (fun j hj => by
    have hj' : j < n - (s + 1) := by rw [htl] at hj; exact hj
    rw [List.getElem?_take, if_pos hj', hl]) (by rw [htl]; omega) ((inv n hn0).set hr hn0) (by rw [htl]; exact hlex) h
  have H2 := wpHead_anyK (m := m) (Q' := Q) (g := ops.size - n) (fun listed a' w' hw' hL => by
    have := wpAnyK_of_seq (P := P) (C := C) (m := m) (md := .any) (Q' := Q) (l.drop (n - (s + 1))) n listed a' w' (by rw [hdl]; exact hL.1) (hL.2 w' hw')
    rwa [hdl] at this) _ _ _ w hC H
  have hsz : ops.size - s = (l.take (n - (s + 1))).length + (ops.size - n) + 1 := by rw [htl]; omega
  have H3 := wpAnyK_late (m := m) hi0 (Region.noSelect_spec hsel) hQ (fun listed hinv hun j hj => by
    refine Nat.lt_of_not_le fun hle => ?_
    exact tail_waits hsm hcm hm hinv _ s rfl (by omega) hun j hle hj) _ _ a w (inv m (by omega)) (Region.free_spec hi0 hf0) hr hy hC H2
  rwa [← hsz] at H3
theorem inv_none (ops : Array Oper) (t : Nat) : HeadInv .any ops t (Array.replicate ops.size false) :=
  ⟨by simp, fun j oj _ hl => (by rw [getD_replicate_false] at hl; cases hl), fun t _ ht => getD_in (by simpa using ht) (getD_replicate_false _ _)⟩
def lateB1 (ops : Array Oper) (n m : Nat) : Bool :=
  (Region.ready .any ops (Array.replicate ops.size false)).contains 0 && Region.free .any ops (Array.replicate ops.size false) 0 && lateAtB ops ((Array.replicate ops.size false).setIfInBounds 0 true) 1 n m
theorem any_late1 {Q : Exit → Act → World → Prop} {a : Act} {p o : Oper} {l : List Oper} {u v : Value} (n m : Nat) (hB : lateB1 (p :: o :: l).toArray n m = true)
    (hQ : ∀ c a w, Q (.panic c) (a.put p.dst u) w → Q (.panic c) a w) (hQ2 : ∀ c a w, Q (.panic c) (a.put o.dst v) w → Q (.panic c) a w) (hp : Yields P (p :: o :: l).toArray p u a) (hy : ReadsIn P (p :: o :: l).toArray C o v (a.put p.dst u)) (w : World) (hC : C w)
    (h : wpQuiet P (p :: o :: l).toArray C (fun a' => ∀ w', C w' → wpListK P (p :: o :: l).toArray C m Q n (l.drop (n - 2)) a' w') (l.take (n - 2)) ((a.put p.dst u).put o.dst v)) :
    wpAny P .any (p :: o :: l).toArray Q (p :: o :: l).toArray.size (Array.replicate (p :: o :: l).toArray.size false) a w := by
  simp only [lateB1, Bool.and_eq_true] at hB
  obtain ⟨⟨hr0, hf0⟩, hB2⟩ := hB
  have hr : 0 ∈ Region.ready .any (p :: o :: l).toArray (Array.replicate (p :: o :: l).toArray.size false) := by simpa using hr0
  have hi0 : (p :: o :: l).toArray[0]? = some p := by simp
  have hsel : Region.noSelect (p :: o :: l).toArray = true := by
    simp only [lateAtB, Bool.and_eq_true] at hB2
    exact hB2.1.1.1.1.1.1.1.1.1.1
  have H := any_late_at (P := P) (C := C) (Q := Q) ((Array.replicate (p :: o :: l).toArray.size false).setIfInBounds 0 true) 1 n m (ops := (p :: o :: l).toArray) (o := o) (l := l) (by simp) (fun j => by simp [Nat.add_comm]) hB2
    (fun t ht => (inv_none _ t).set hr (by omega)) hQ2 hy w hC h
  have hsz : (p :: o :: l).toArray.size = ((p :: o :: l).toArray.size - 1) + 1 := by simp
  have H3 := wpAny_first hi0 (Region.noSelect_spec hsel) hQ ((p :: o :: l).toArray.size - 1) _ a w (Region.free_spec hi0 hf0) hr hp H
  rwa [← hsz] at H3
theorem wpIn_region_late1 {id : Nat} {Q : Exit → Act → World → Prop} {a : Act} {w : World} {p o : Oper} {l : List Oper} {r k : Nat} (u v : Value) (n m : Nat) (hm : P.follows .mixedOrders = true) (hB : lateB1 (p :: o :: l).toArray n m = true) (hd : noDefer (p :: o :: l) = true) (hq : LetsOut Q → False)
    (hQ : ∀ c a w, Q (.panic c) (a.put p.dst u) w → Q (.panic c) a w) (hQ2 : ∀ c a w, Q (.panic c) (a.put o.dst v) w → Q (.panic c) a w) (hp : Yields P (p :: o :: l).toArray p u a) (hy : ReadsIn P (p :: o :: l).toArray C o v (a.put p.dst u)) (hC : C w.drew)
    (h : wpQuiet P (p :: o :: l).toArray C (fun a' => ∀ w', C w' → wpListK P (p :: o :: l).toArray C m Q n (l.drop (n - 2)) a' w') (l.take (n - 2)) ((a.put p.dst u).put o.dst v)) : (Code.region id (p :: o :: l).toArray true).wpIn (Fence.wide.inRound r) k P Q a w :=
  wpIn_region_any hm (anyIn_of_wp r k hq (fun i o' ho => noDefer_spec hd o' (by simpa using Array.mem_of_getElem? ho)) _ _ _ _ (any_late1 n m hB hQ hQ2 hp hy w.drew hC h))
theorem wpAnyK_lateK {ops : Array Oper} {md : Region.Mode} {Q : Exit → Act → World → Prop} {i m : Nat} {oi : Oper} {v : Value} (hi : ops[i]? = some oi) (hsel : ∀ (j : Nat) (o : Oper) cs b, ops[j]? = some o → o.op ≠ .select cs b)
    (hQ : ∀ c a w, Q (.panic c) (a.put oi.dst v) w → Q (.panic c) a w) (hwait : ∀ listed, HeadInv md ops m listed → listed.getD i true = false → ∀ j ∈ Region.ready md ops listed, j < m) (f : Nat) :
    ∀ (listed : Array Bool) (a : Act) (w : World), HeadInv md ops m listed →
      (∀ j oj, ops[j]? = some oj → j ≠ i → listed.getD j true = false → (∀ e ∈ oj.after, Region.binds md e = true → e.on ≠ i) → oi.apart ops oj = true) →
      i ∈ Region.ready md ops listed → ReadsIn P ops C oi v a → C w → wpAnyK P md ops C m Q f (listed.setIfInBounds i true) (a.put oi.dst v) w → wpAnyK P md ops C m Q (f + 1) listed a w := by
  induction f with
  | zero =>
    intro listed a w _ _ hr hy hC H
    refine ⟨fun h => (by rw [h] at hr; cases hr), fun j hj => ?_⟩
    by_cases hji : j = i
    · subst hji; exact hy.wpOp hi hC ⟨fun _ => hC, H⟩
    · have := ready_mono hj hji
      rw [H.1] at this
      cases this
  | succ f ih =>
    intro listed a w inv hfree hr hy hC H
    refine ⟨fun h => (by rw [h] at hr; cases hr), fun j hj => ?_⟩
    have hun := (mem_ready.1 hr).1
    by_cases hji : j = i
    · subst hji; exact hy.wpOp hi hC ⟨fun _ => hC, H⟩
    · have h1 := H.2 j (ready_mono hj hji)
      obtain ⟨hjun, oj, hoj, hall⟩ := mem_ready.1 hj
      have hjm := hwait listed inv hun j hj
      have hnot : ∀ e ∈ oj.after, Region.binds md e = true → e.on ≠ i := fun e he hb heq => by
        have h1 := hall e he hb
        rw [heq, getD_both hun] at h1
        cases h1
      have h2 := wpOp_putR hoj (hfree j oj hoj hji hjun hnot) (fun cs b => hsel i oi cs b hi) (fun cs b => hsel j oj cs b hoj) hQ hy h1
      have hfree' : ∀ k ok, ops[k]? = some ok → k ≠ i → (listed.setIfInBounds j true).getD k true = false → (∀ e ∈ ok.after, Region.binds md e = true → e.on ≠ i) → oi.apart ops ok = true := by
        intro k ok hk hki hu hno
        by_cases hjk : j = k
        · subst hjk; exact hfree j ok hk hki hjun hno
        · rw [getD_set_ne true hjk] at hu; exact hfree k ok hk hki hu hno
      refine wpOp_mono (fun a' w' h3 => ⟨fun _ => h3.2.1 hjm, ih (listed.setIfInBounds j true) a' w' (inv.set hj hjm) hfree' (ready_mono hr (Ne.symm hji)) h3.1 (h3.2.1 hjm) ?_⟩) h2
      rw [Array.setIfInBounds_comm _ _ hji]
      exact h3.2.2
def lexC (md : Region.Mode) (ops : Array Oper) : List Bool → Nat → Array Bool → Bool
  | [], k, listed => Region.seqB md ops (ops.size - k) k listed
  | true :: fl, k, listed => (Region.ready md ops listed).contains k && Region.free md ops listed k && lexC md ops fl (k + 1) (listed.setIfInBounds k true)
  | false :: fl, k, listed => decide (Region.ready md ops listed = [k]) && lexC md ops fl (k + 1) (listed.setIfInBounds k true)
def wpLex (P : Program) (ops : Array Oper) (C : World → Prop) (m : Nat) (Q : Exit → Act → World → Prop) : List Bool → Nat → List Oper → Act → World → Prop
  | [], k, l, a, w => wpListK P ops C m Q k l a w
  | _ :: _, _, [], _, _ => False
  | true :: fl, k, o :: l, a, w => ∃ v, ReadsIn P ops C o v a ∧ wpLex P ops C m Q fl (k + 1) l (a.put o.dst v) w
  | false :: fl, k, _ :: l, a, w => wpOp P ops Q k (fun a' w' => C w' ∧ wpLex P ops C m Q fl (k + 1) l a' w') a w
theorem anyK_lex {ops : Array Oper} {Q : Exit → Act → World → Prop} {m : Nat} (hsel : Region.noSelect ops = true) (hQ : ∀ c a dst v w, Q (.panic c) (Act.put a dst v) w → Q (.panic c) a w) (hs : Region.sinkB .any ops m = true) (hc : Region.chainB .any ops m = true) (hm : m < ops.size) :
    ∀ (fl : List Bool) (k : Nat) (l : List Oper) (listed : Array Bool) (a : Act) (w : World), (∀ j, l[j]? = ops[k + j]?) → k + fl.length ≤ m → HeadInv .any ops m listed → lexC .any ops fl k listed = true → C w → wpLex P ops C m Q fl k l a w →
    wpAnyK P .any ops C m Q (ops.size - k) listed a w
  | [], k, l, listed, a, w, hl, hk, _, hB, _, h => by
    have hll : l.length = ops.size - k := by
      rcases Nat.lt_trichotomy l.length (ops.size - k) with h1 | h1 | h1
      · have h2 : l[l.length]? = none := List.getElem?_eq_none (Nat.le_refl _)
        rw [hl] at h2
        have := Array.getElem?_eq_none_iff.1 h2
        omega
      · exact h1
      · have h2 : ops[k + (ops.size - k)]? = none := Array.getElem?_eq_none (by omega)
        rw [← hl] at h2
        have := List.getElem?_eq_none_iff.1 h2
        omega
    have := wpAnyK_of_seq (P := P) (C := C) (m := m) (md := .any) (Q' := Q) l k listed a w (by rw [hll]; exact hB) h
    rwa [hll] at this
  | _ :: _, _, [], _, _, _, _, _, _, _, _, h => h.elim
  | true :: fl, k, o :: l, listed, a, w, hl, hk, inv, hB, hC, h => by
    simp only [List.length_cons] at hk
    have h0 : ops[k]? = some o := by simpa using (hl 0).symm
    simp only [lexC, Bool.and_eq_true] at hB
    obtain ⟨⟨hr, hf⟩, hB'⟩ := hB
    obtain ⟨v, hy, h'⟩ := h
    have hr' : k ∈ Region.ready .any ops listed := by simpa using hr
    have e : ops.size - k = (ops.size - (k + 1)) + 1 := by omega
    rw [e]
    refine wpAnyK_lateK h0 (Region.noSelect_spec hsel) (fun c a' w' hp => hQ c _ _ _ w' hp) (fun lst hinv hun j hj => Nat.lt_of_not_le fun hle => tail_waits hs hc hm hinv _ k rfl (by omega) hun j hle hj) _ listed a w inv (Region.free_spec h0 hf) hr' hy hC ?_
    exact anyK_lex hsel hQ hs hc hm fl (k + 1) l _ _ w (fun j => by have := hl (j + 1); simpa [Nat.add_assoc, Nat.add_comm 1 j] using this) (by omega) (inv.set hr' (by omega)) hB' hC h'
  | false :: fl, k, o :: l, listed, a, w, hl, hk, inv, hB, hC, h => by
    simp only [List.length_cons] at hk
    simp only [lexC, Bool.and_eq_true, decide_eq_true_eq] at hB
    obtain ⟨hr, hB'⟩ := hB
    have hr' : k ∈ Region.ready .any ops listed := by rw [hr]; simp
    have e : ops.size - k = (ops.size - (k + 1)) + 1 := by omega
    rw [e]
    refine ⟨fun h1 => (by rw [hr] at h1; cases h1), fun i hi => ?_⟩
    rw [hr] at hi
    obtain rfl : i = k := by simpa using hi
    exact wpOp_mono (fun a' w' h' => ⟨fun _ => h'.1, anyK_lex hsel hQ hs hc hm fl (i + 1) l _ a' w' (fun j => by have := hl (j + 1); simpa [Nat.add_assoc, Nat.add_comm 1 j] using this) (by omega) (inv.set hr' (by omega)) hB' h'.1 h'.2⟩) h
def lexAllB (ops : Array Oper) (m : Nat) (fl : List Bool) : Bool :=
  Region.noSelect ops && decide (m < ops.size) && decide (fl.length ≤ m) && Region.sinkB .any ops m && Region.chainB .any ops m && lexC .any ops fl 0 (Array.replicate ops.size false)
theorem any_lex {Q : Exit → Act → World → Prop} {a : Act} {l : List Oper} (m : Nat) (fl : List Bool) (hB : lexAllB l.toArray m fl = true) (hQ : ∀ c a dst v w, Q (.panic c) (Act.put a dst v) w → Q (.panic c) a w) (w : World) (hC : C w) (h : wpLex P l.toArray C m Q fl 0 l a w) :
    wpAny P .any l.toArray Q l.toArray.size (Array.replicate l.toArray.size false) a w := by
  simp only [lexAllB, Bool.and_eq_true, decide_eq_true_eq] at hB
  obtain ⟨⟨⟨⟨⟨hsel, hm⟩, hfl⟩, hs⟩, hc⟩, hlex⟩ := hB
  exact wpAnyK_any _ _ _ _ (anyK_lex hsel hQ hs hc hm fl 0 l _ a w (fun j => by simp) (by omega) (inv_none _ m) hlex hC h)
theorem wp_region_lex {id : Nat} {Q : Exit → Act → World → Prop} {a : Act} {w : World} {l : List Oper} (m : Nat) (fl : List Bool) (hm : P.follows .mixedOrders = true) (hB : lexAllB l.toArray m fl = true) (hQ : ∀ c a dst v w, Q (.panic c) (Act.put a dst v) w → Q (.panic c) a w) (hC : C w.drew) (h : wpLex P l.toArray C m Q fl 0 l a w.drew) :
    (Code.region id l.toArray true).wp P Q a w := wp_region_any hm (any_lex m fl hB hQ w.drew hC h)
theorem wpIn_region_lex {id : Nat} {Q : Exit → Act → World → Prop} {a : Act} {w : World} {l : List Oper} {r k : Nat} (m : Nat) (fl : List Bool) (hm : P.follows .mixedOrders = true) (hB : lexAllB l.toArray m fl = true) (hd : noDefer l = true) (hq : LetsOut Q → False) (hQ : ∀ c a dst v w, Q (.panic c) (Act.put a dst v) w → Q (.panic c) a w) (hC : C w.drew) (h : wpLex P l.toArray C m Q fl 0 l a w.drew) :
    (Code.region id l.toArray true).wpIn (Fence.wide.inRound r) k P Q a w :=
  wpIn_region_any hm (anyIn_of_wp r k hq (fun i o' ho => noDefer_spec hd o' (by simpa using Array.mem_of_getElem? ho)) _ _ _ _ (any_lex m fl hB hQ w.drew hC h))
theorem wpOp_step {ops : Array Oper} {k : Nat} {Q : Exit → Act → World → Prop} {o : Oper} {K : Act → World → Prop} {a : Act} {w : World} (h0 : ops[k]? = some o) (hg : o.guard = none) (h : o.wp P a w K Q) : wpOp P ops Q k K a w := by
  unfold wpOp
  have hw : Region.wanted o (yielded ops a.tmps) = true := by simp [Region.wanted, hg]
  simp only [h0, hw, if_true]
  exact .inl h
theorem wpLex_step {ops : Array Oper} {m : Nat} {Q : Exit → Act → World → Prop} {fl : List Bool} {k : Nat} {o : Oper} {l : List Oper} {a : Act} {w : World} (h0 : ops[k]? = some o) (hg : o.guard = none) (h : o.wp P a w (fun a' w' => C w' ∧ wpLex P ops C m Q fl (k + 1) l a' w') Q) :
    wpLex P ops C m Q (false :: fl) k (o :: l) a w := wpOp_step h0 hg h
theorem wpLex_call {ops : Array Oper} {m : Nat} {Q : Exit → Act → World → Prop} {fl : List Bool} {k : Nat} {o : Oper} {l : List Oper} {a : Act} {w : World} {f : FuncId} {args : Array Value} {R : Ending → World → Prop} (h0 : ops[k]? = some o) (hg : o.guard = none) (hr : (execOp a.eval o).run P w = .ok (.enter f args) w)
    (hc : Calls P f args w R) (h : ∀ e w', R e w' → ∃ v, e = .returned v ∧ C w' ∧ wpLex P ops C m Q fl (k + 1) l (a.put o.dst v) w') :
    wpLex P ops C m Q (false :: fl) k (o :: l) a w := wpLex_step h0 hg (by
  unfold Oper.wp
  rw [hr]
  refine hc.mono fun e w' hR => ?_
  obtain ⟨v, rfl, h1, h2⟩ := h e w' hR
  exact ⟨h1, h2⟩)
def NormQ (Q : Exit → Act → World → Prop) : Exit → Act → World → Prop
  | .normal, a, w => Q .normal a w
  | _, _, _ => False
theorem NormQ.of {Q : Exit → Act → World → Prop} : ∀ e a w, NormQ Q e a w → Q e a w
  | .normal, _, _, h => h
  | .ret, _, _, h => h.elim
  | .exit _, _, _, h => h.elim
  | .goto _, _, _, h => h.elim
  | .panic _, _, _, h => h.elim
  | .outgrown, _, _, h => h.elim
theorem wp_region_lexN {id : Nat} {Q : Exit → Act → World → Prop} {a : Act} {w : World} {l : List Oper} (m : Nat) (fl : List Bool) (hm : P.follows .mixedOrders = true) (hB : lexAllB l.toArray m fl = true) (hC : C w.drew) (h : wpLex P l.toArray C m (NormQ Q) fl 0 l a w.drew) :
    (Code.region id l.toArray true).wp P Q a w := wp_mono (wp_region_lex m fl hm hB (fun _ _ _ _ _ h => h.elim) hC h) NormQ.of
end
end Go.Proofs.Ytgbmhijgpdgdbaa
