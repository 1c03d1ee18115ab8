/- A region that draws its order and ends in operations that come one by one behind all others (a new slice, a store): its head is quiet in a class of worlds, walked once; its tail is walked in each world of the class. -/
import Derived.StillTail
import Derived.Test.YtgbmhijgpdgdbaaLater
namespace Go.Proofs.Ytgbmhijgpdgdbaa
open Go.RowKit

section
variable {P : Program} {ops : Array Oper} {md : Region.Mode} {C : World → Prop}

/-- The first operations, in whatever order the tape picks; then L. -/
def wpHead (P : Program) (md : Region.Mode) (ops : Array Oper) (C : World → Prop) (n : Nat) (L : Array Bool → Act → Prop) : Nat → Array Bool → Act → Prop
  | 0, listed, a => L listed a
  | f + 1, listed, a => Region.ready md ops listed ≠ [] ∧ ∀ i ∈ Region.ready md ops listed, i < n ∧ qOp P ops C i (wpHead P md ops C n L f (listed.setIfInBounds i true)) a

theorem wpHead_any {n g : Nat} {L : Array Bool → Act → Prop} {Q' : Exit → Act → World → Prop} (hL : ∀ listed a w, C w → L listed a → wpAny P md ops Q' g listed a w) (f : Nat) :
    ∀ (listed : Array Bool) (a : Act) (w : World), C w → wpHead P md ops C n L f listed a → wpAny P md ops Q' (f + g) listed a w := by
  induction f with
  | zero => intro listed a w hw h; rw [Nat.zero_add]; exact hL _ _ _ hw h
  | succ f ih =>
    intro listed a w hw h
    have e : f + 1 + g = (f + g) + 1 := by omega
    rw [e]
    exact ⟨fun h0 => absurd h0 h.1, fun i hi => wpOp_of_qOp hw (fun a' w' hw' h' => ih _ a' w' hw' h') (h.2 i hi).2⟩

theorem wpHead_first {n i : Nat} {oi : Oper} {v : Value} {L : Array Bool → Act → Prop} (hi : ops[i]? = some oi) (hsel : ∀ (j : Nat) (o : Oper) cs b, ops[j]? = some o → o.op ≠ .select cs b)
    (hs : Region.sinkB md ops n = true) (hc : Region.chainB md ops n = true) (hn : n < ops.size) (hin : i < n) (hdone : ∀ listed a, L listed a → ∀ j ∈ Region.ready md ops listed, n ≤ j) (f : Nat) :
    ∀ (listed : Array Bool) (a : Act), HeadInv md ops n listed →
      (∀ j oj, ops[j]? = some oj → j ≠ i → listed.getD j true = false → (∀ e ∈ oj.after, Region.binds md e = true → e.on ≠ i) → oi.apart ops oj = true) →
      i ∈ Region.ready md ops listed → YieldsIn P ops C oi v a → wpHead P md ops C n L f (listed.setIfInBounds i true) (a.put oi.dst v) → wpHead P md ops C n L (f + 1) listed a := by
  have below : ∀ listed, HeadInv md ops n listed → i ∈ Region.ready md ops listed → ∀ j ∈ Region.ready md ops listed, j < n := by
    intro listed inv hr j hj
    refine Nat.lt_of_not_le fun h => ?_
    exact tail_waits hs hc hn inv _ i rfl hin (mem_ready.1 hr).1 j h hj
  induction f with
  | zero =>
    intro listed a inv _ hr hy H
    refine ⟨List.ne_nil_of_mem hr, fun j hj => ⟨below listed inv hr j hj, ?_⟩⟩
    by_cases hji : j = i
    · subst hji
      exact hy.qOp hi H
    · have h1 := hdone _ _ H j (ready_mono hj hji)
      have h2 := below listed inv hr j hj
      omega
  | succ f ih =>
    intro listed a inv hfree hr hy H
    have hun := (mem_ready.1 hr).1
    refine ⟨List.ne_nil_of_mem hr, fun j hj => ⟨below listed inv hr j hj, ?_⟩⟩
    by_cases hji : j = i
    · subst hji
      exact hy.qOp hi H
    · obtain ⟨hjun, oj, hoj, hall⟩ := mem_ready.1 hj
      have hnot : ∀ e ∈ oj.after, Region.binds md e = true → e.on ≠ i := fun e he hb heq => by
        have h1 := hall e he hb
        rw [heq, getD_both hun] at h1
        cases h1
      have h1 := (H.2 j (ready_mono hj hji)).2
      have h2 := qOp_put hoj (hfree j oj hoj hji hjun hnot) (fun cs b => hsel i oi cs b hi) (fun cs b => hsel j oj cs b hoj) hy h1
      have hfree' : ∀ k ok, ops[k]? = some ok → k ≠ i → (listed.setIfInBounds j true).getD k true = false → (∀ e ∈ ok.after, Region.binds md e = true → e.on ≠ i) → oi.apart ops ok = true := by
        intro k ok hk hki hu hno
        by_cases hjk : j = k
        · subst hjk; exact hfree j ok hk hki hjun hno
        · rw [getD_set_ne true hjk] at hu; exact hfree k ok hk hki hu hno
      refine qOp_mono (fun a' h3 => ih (listed.setIfInBounds j true) a' (inv.set hj (below listed inv hr j hj)) hfree' (ready_mono hr (Ne.symm hji)) h3.1 ?_) h2
      rw [Array.setIfInBounds_comm _ _ hji]
      exact h3.2

theorem wpHead_lex {n g : Nat} {Lq : Act → Prop} (hsel : Region.noSelect ops = true) (hs : Region.sinkB md ops n = true) (hc : Region.chainB md ops n = true) (hn : n < ops.size) (l : List Oper) :
    ∀ (k : Nat) (listed : Array Bool) (a : Act), (∀ j, j < l.length → l[j]? = ops[k + j]?) → k + l.length = n → HeadInv md ops n listed → Region.lexHead md ops g l.length k listed = true → wpQuiet P ops C Lq l a →
    wpHead P md ops C n (fun listed' a' => Region.seqB md ops g n listed' = true ∧ Lq a') l.length listed a := by
  induction l with
  | nil =>
    intro k listed a _ hk _ hB h
    obtain rfl : k = n := by simpa using hk
    exact ⟨by simpa [Region.lexHead] using hB, h⟩
  | cons o l ih =>
    intro k listed a hl hk inv hB h
    have h0 : ops[k]? = some o := by simpa using (hl 0 (by simp)).symm
    simp only [List.length_cons, Region.lexHead, Bool.and_eq_true] at hB
    have hkn : k < n := by simp only [List.length_cons] at hk; omega
    have hr : k ∈ Region.ready md ops listed := by simpa using hB.1.1
    have hq : qOp P ops C k (wpQuiet P ops C Lq l) a := by unfold qOp; simp only [h0]; exact h
    obtain ⟨v, hy, hK⟩ := yieldsIn_of_qOp h0 hq
    refine wpHead_first h0 (Region.noSelect_spec hsel) hs hc hn hkn (fun listed' a' hL => seqB_ready hL.1) l.length listed a inv (Region.free_spec h0 hB.1.2) hr hy ?_
    refine ih (k + 1) _ _ (fun j hj => ?_) (by simp only [List.length_cons] at hk; omega) (inv.set hr hkn) hB.2 hK
    have := hl (j + 1) (by simp; omega)
    simpa [Nat.add_assoc, Nat.add_comm 1 j] using this

/-- **The head quiet, the tail walked.** -/
theorem wp_region_quiet_tail {id : Nat} {Q : Exit → Act → World → Prop} {a : Act} {w : World} {l : List Oper} (n : Nat) (hm : P.follows .mixedOrders = true) (hB : Region.lexTailB .any l.toArray n = true) (hC : C w.drew)
    (h : wpQuiet P l.toArray C (fun a' => ∀ w', C w' → wpList P l.toArray Q (l.drop n) a' w') (l.take n) a) : (Code.region id l.toArray true).wp P Q a w := by
  simp only [Region.lexTailB, Bool.and_eq_true, decide_eq_true_eq] at hB
  obtain ⟨⟨⟨⟨hsel, hn⟩, hs⟩, hc⟩, hlex⟩ := hB
  have hn' : n < l.length := by simpa using hn
  have htl : (l.take n).length = n := by simp; omega
  have hdl : (l.drop n).length = l.toArray.size - n := by simp
  have inv : HeadInv .any l.toArray n (Array.replicate l.toArray.size false) :=
    ⟨by simp, fun j oj _ hl => (by rw [getD_replicate_false] at hl; cases hl), fun t _ ht => getD_in (by simpa using ht) (getD_replicate_false _ _)⟩
  have H := wpHead_lex (md := .any) (g := l.toArray.size - n) hsel hs hc hn (l.take n) 0 _ a (fun j hj => by
    have hj' : j < n := by rw [htl] at hj; exact hj
    simp [hj']) (by simpa using htl) inv (by rw [htl]; exact hlex) h
  refine wp_region_any hm ?_
  have H2 := wpHead_any (Q' := Q) (g := l.toArray.size - n) (fun listed a' w' hw' hL => by
    have := wpAny_of_seq (md := .any) (Q' := Q) (l.drop n) n listed a' w' (fun j => by simp [List.getElem?_drop]) (by rw [hdl]; exact hL.1) (hL.2 w' hw')
    rwa [hdl] at this) _ _ _ _ hC H
  rw [htl] at H2
  have e : n + (l.toArray.size - n) = l.toArray.size := by omega
  rwa [e] at H2

/-! ### The same, the region's shape checked off a table: for a region of many operations. -/

/-- On what an operation waits; what it writes (d + 1; 0: nothing); at what it looks. -/
def oprow (ops : Array Oper) (o : Oper) : List Nat × Nat × List Nat :=
  ((o.after.toList.filter (Region.binds .any)).map (·.on), (match o.dst with | some d => d + 1 | none => 0), o.looksAt ops)

def apartN (x y : List Nat × Nat × List Nat) : Bool := (x.2.1 == 0 || (!y.2.2.contains (x.2.1 - 1) && y.2.1 != x.2.1)) && (y.2.1 == 0 || !x.2.2.contains (y.2.1 - 1))

theorem apart_of_rows {ops : Array Oper} {x y : Oper} (h : apartN (oprow ops x) (oprow ops y) = true) : x.apart ops y = true := by
  unfold apartN oprow at h
  unfold Oper.apart
  cases hx : x.dst <;> cases hy : y.dst <;> simp [hx, hy] at h ⊢ <;> simp_all

/-- Each waits for elder ones alone; each of the first n is waited for, up to number n; each behind number n waits for the one ahead of it; each of the first n is apart from those that do not wait for it. -/
def chkT (n : Nat) : Nat → List (List Nat × Nat × List Nat) → Bool
  | _, [] => true
  | k, x :: r => x.1.all (fun i => decide (i < k)) && (decide (n ≤ k) || (r.take (n - k)).any (fun t => t.1.contains k)) && (decide (k ≤ n) || x.1.contains (k - 1)) && (decide (n ≤ k) || r.all (fun t => t.1.contains k || apartN x t)) && chkT n (k + 1) r

theorem mem_oprow {ops : Array Oper} {o : Oper} {i : Nat} : i ∈ (oprow ops o).1 ↔ ∃ e ∈ o.after, Region.binds .any e = true ∧ e.on = i := by
  simp [oprow, and_assoc]

theorem chkT_spec {ops : Array Oper} {n : Nat} (l : List Oper) : ∀ (k : Nat), chkT n k (l.map (oprow ops)) = true → ∀ i o, l[i]? = some o →
    (∀ e ∈ o.after, Region.binds .any e = true → e.on < k + i) ∧
    (k + i < n → ∃ j oj, i < j ∧ k + j ≤ n ∧ l[j]? = some oj ∧ ∃ e ∈ oj.after, Region.binds .any e = true ∧ e.on = k + i) ∧
    (n < k + i → ∃ e ∈ o.after, Region.binds .any e = true ∧ e.on = k + i - 1) ∧
    (k + i < n → ∀ j oj, i < j → l[j]? = some oj → (∃ e ∈ oj.after, Region.binds .any e = true ∧ e.on = k + i) ∨ o.apart ops oj = true) := by
  induction l with
  | nil => intro k _ i o ho; simp at ho
  | cons x r ih =>
    intro k h i o ho
    simp only [List.map_cons, chkT, Bool.and_eq_true, Bool.or_eq_true, decide_eq_true_eq] at h
    obtain ⟨⟨⟨⟨h1, h2⟩, h3⟩, h4⟩, h5⟩ := h
    cases i with
    | zero =>
      obtain rfl : x = o := by simpa using ho
      refine ⟨fun e he hb => ?_, fun hk => ?_, fun hk => ?_, fun hk j oj hj hoj => ?_⟩
      · have := List.all_eq_true.1 h1 e.on (mem_oprow.2 ⟨e, he, hb, rfl⟩)
        simpa using this
      · rcases h2 with h2 | h2
        · omega
        · obtain ⟨t, ht, hc⟩ := List.any_eq_true.1 h2
          obtain ⟨m, hm⟩ := List.mem_iff_getElem?.1 ht
          rw [List.getElem?_take] at hm
          split at hm
          · rename_i hmn
            rw [List.getElem?_map] at hm
            cases hr : r[m]? with
            | none => rw [hr] at hm; cases hm
            | some oj =>
              rw [hr] at hm
              obtain rfl : oprow ops oj = t := by simpa using hm
              obtain ⟨e, he, hb, hon⟩ := mem_oprow.1 (by simpa using hc)
              exact ⟨m + 1, oj, by omega, by omega, by simpa using hr, e, he, hb, by simpa using hon⟩
          · cases hm
      · rcases h3 with h3 | h3
        · omega
        · obtain ⟨e, he, hb, hon⟩ := mem_oprow.1 (by simpa using h3)
          exact ⟨e, he, hb, by simpa using hon⟩
      · rcases h4 with h4 | h4
        · omega
        · obtain ⟨m, rfl⟩ : ∃ m, j = m + 1 := ⟨j - 1, by omega⟩
          have hoj' : r[m]? = some oj := by simpa using hoj
          have := List.all_eq_true.1 h4 (oprow ops oj) (List.mem_map.2 ⟨oj, List.mem_of_getElem? hoj', rfl⟩)
          simp only [Bool.or_eq_true] at this
          rcases this with hc | hc
          · obtain ⟨e, he, hb, hon⟩ := mem_oprow.1 (by simpa using hc)
            exact .inl ⟨e, he, hb, by simpa using hon⟩
          · exact .inr (apart_of_rows hc)
    | succ i =>
      have ho' : r[i]? = some o := by simpa using ho
      obtain ⟨a1, a2, a3, a4⟩ := ih (k + 1) h5 i o ho'
      have e : k + (i + 1) = k + 1 + i := by omega
      rw [e]
      refine ⟨a1, fun hk => ?_, a3, fun hk j oj hj hoj => ?_⟩
      · obtain ⟨j, oj, hj, hjn, hoj, hh⟩ := a2 hk
        exact ⟨j + 1, oj, by omega, by omega, by simpa using hoj, hh⟩
      · obtain ⟨m, rfl⟩ : ∃ m, j = m + 1 := ⟨j - 1, by omega⟩
        exact a4 hk m oj (by omega) (by simpa using hoj)

/-- Just the first k have come. -/
def Marks (ops : Array Oper) (k : Nat) (listed : Array Bool) : Prop := listed.size = ops.size ∧ ∀ i, i < ops.size → listed.getD i true = decide (i < k)

theorem getD_either {listed : Array Bool} {i : Nat} (h : i < listed.size) : listed.getD i true = listed.getD i false := by simp [h]

theorem Marks.set {k : Nat} {listed : Array Bool} (h : Marks ops k listed) (hk : k < ops.size) : Marks ops (k + 1) (listed.setIfInBounds k true) := by
  refine ⟨by simp [h.1], fun i hi => ?_⟩
  by_cases hik : k = i
  · subst hik
    have hl : k < (listed.setIfInBounds k true).size := by simp [h.1]; exact hk
    simp [h.1, hk]
  · rw [getD_set_ne true hik, h.2 i hi]
    by_cases h1 : i < k
    · simp [h1, Nat.lt_succ_of_lt h1]
    · have : ¬ i < k + 1 := by omega
      simp [h1, this]

theorem Marks.ready {k : Nat} {o : Oper} {listed : Array Bool} (h : Marks ops k listed) (hk : k < ops.size) (ho : ops[k]? = some o) (hd : ∀ e ∈ o.after, Region.binds md e = true → e.on < k) : k ∈ Region.ready md ops listed := by
  refine mem_ready.2 ⟨by rw [h.2 k hk]; simp, o, ho, fun e he hb => ?_⟩
  have h1 := hd e he hb
  rw [← getD_either (by rw [h.1]; omega), h.2 e.on (by omega)]
  simp [h1]

theorem wpAny_marks {n : Nat} {Q' : Exit → Act → World → Prop} (hd : ∀ i o, ops[i]? = some o → ∀ e ∈ o.after, Region.binds md e = true → e.on < i) (hch : ∀ i o, ops[i]? = some o → n < i → ∃ e ∈ o.after, Region.binds md e = true ∧ e.on = i - 1) (l : List Oper) :
    ∀ (k : Nat) (listed : Array Bool) (a : Act) (w : World), n ≤ k → k + l.length = ops.size → (∀ j, l[j]? = ops[k + j]?) → Marks ops k listed → wpList P ops Q' l a w → wpAny P md ops Q' l.length listed a w := by
  induction l with
  | nil =>
    intro k listed a w hnk hkl hl hm h
    refine ⟨?_, h⟩
    apply List.eq_nil_iff_forall_not_mem.2
    intro i hi
    obtain ⟨hu, o, ho, _⟩ := mem_ready.1 hi
    have hlt := (Array.getElem?_eq_some_iff.1 ho).1
    rw [hm.2 i hlt] at hu
    simp only [List.length_nil] at hkl
    have : i < k := by omega
    simp [this] at hu
  | cons o l ih =>
    intro k listed a w hnk hkl hl hm h
    have h0 : ops[k]? = some o := by simpa using (hl 0).symm
    have hk : k < ops.size := (Array.getElem?_eq_some_iff.1 h0).1
    have hr := hm.ready (md := md) hk h0 (hd k o h0)
    refine ⟨fun h1 => (by rw [h1] at hr; cases hr), fun i hi => ?_⟩
    obtain ⟨hu, oi, hoi, hall⟩ := mem_ready.1 hi
    have hlt := (Array.getElem?_eq_some_iff.1 hoi).1
    have hki : ¬ i < k := by
      intro hc
      rw [hm.2 i hlt] at hu
      simp [hc] at hu
    have hik : i = k := by
      refine Nat.le_antisymm (Nat.le_of_not_lt fun hc => ?_) (by omega)
      obtain ⟨e, he, hb, hon⟩ := hch i oi hoi (by omega)
      have h2 := hall e he hb
      rw [← getD_either (by rw [hm.1]; omega), hm.2 e.on (by omega)] at h2
      have : ¬ e.on < k := by omega
      simp [this] at h2
    subst hik
    have hw : wpOp P ops Q' i (wpList P ops Q' l) a w := by unfold wpOp; simp only [h0]; exact h
    refine wpOp_mono (fun a' w' h' => ih (i + 1) _ a' w' (by omega) (by simp only [List.length_cons] at hkl; omega) (fun j => ?_) (hm.set hk) h') hw
    have := hl (j + 1)
    simpa [Nat.add_assoc, Nat.add_comm 1 j] using this

theorem wpHead_marks {n : Nat} {Lq : Act → Prop} (hsel : Region.noSelect ops = true) (hs : Region.sinkB md ops n = true) (hc : Region.chainB md ops n = true) (hn : n < ops.size) (hd : ∀ i o, ops[i]? = some o → ∀ e ∈ o.after, Region.binds md e = true → e.on < i)
    (hf : ∀ i oi, i < n → ops[i]? = some oi → ∀ j oj, i < j → ops[j]? = some oj → (∃ e ∈ oj.after, Region.binds md e = true ∧ e.on = i) ∨ oi.apart ops oj = true) (l : List Oper) :
    ∀ (k : Nat) (listed : Array Bool) (a : Act), (∀ j, j < l.length → l[j]? = ops[k + j]?) → k + l.length = n → Marks ops k listed → HeadInv md ops n listed → wpQuiet P ops C Lq l a →
    wpHead P md ops C n (fun listed' a' => Marks ops n listed' ∧ Lq a') l.length listed a := by
  induction l with
  | nil =>
    intro k listed a _ hk hm _ h
    obtain rfl : k = n := by simpa using hk
    exact ⟨hm, h⟩
  | cons o l ih =>
    intro k listed a hl hk hm inv h
    have h0 : ops[k]? = some o := by simpa using (hl 0 (by simp)).symm
    have hkn : k < n := by simp only [List.length_cons] at hk; omega
    have hks : k < ops.size := by omega
    have hr := hm.ready (md := md) hks h0 (hd k o h0)
    have hq : qOp P ops C k (wpQuiet P ops C Lq l) a := by unfold qOp; simp only [h0]; exact h
    obtain ⟨v, hy, hK⟩ := yieldsIn_of_qOp h0 hq
    refine wpHead_first h0 (Region.noSelect_spec hsel) hs hc hn hkn (fun listed' a' hL => ?_) l.length listed a inv (fun j oj hj hne hu hno => ?_) hr hy ?_
    · intro j hj
      obtain ⟨hu, oj, hoj, _⟩ := mem_ready.1 hj
      rw [hL.1.2 j (Array.getElem?_eq_some_iff.1 hoj).1] at hu
      refine Nat.le_of_not_lt fun hlt => ?_
      simp [hlt] at hu
    · have hjs := (Array.getElem?_eq_some_iff.1 hj).1
      have hjk : k < j := by
        rw [hm.2 j hjs] at hu
        have : ¬ j < k := fun hlt => by simp [hlt] at hu
        omega
      rcases hf k o hkn h0 j oj hjk hj with ⟨e, he, hb, hon⟩ | h1
      · exact absurd hon (hno e he hb)
      · exact h1
    · refine ih (k + 1) _ _ (fun j hj => ?_) (by simp only [List.length_cons] at hk; omega) (hm.set hks) (inv.set hr hkn) hK
      have := hl (j + 1) (by simp; omega)
      simpa [Nat.add_assoc, Nat.add_comm 1 j] using this

theorem wp_region_table {id : Nat} {Q : Exit → Act → World → Prop} {a : Act} {w : World} {l : List Oper} (n : Nat) (T : List (List Nat × Nat × List Nat)) (hm : P.follows .mixedOrders = true) (hsel : Region.noSelect l.toArray = true) (hT : l.map (oprow l.toArray) = T) (hk : chkT n 0 T = true) (hn : n < T.length) (hC : C w.drew)
    (h : wpQuiet P l.toArray C (fun a' => ∀ w', C w' → wpList P l.toArray Q (l.drop n) a' w') (l.take n) a) : (Code.region id l.toArray true).wp P Q a w := by
  subst hT
  have sp := chkT_spec (ops := l.toArray) l 0 hk
  have hn' : n < l.length := by simpa using hn
  have hn2 : n < l.toArray.size := by simpa using hn'
  have at_ : ∀ i : Nat, l.toArray[i]? = l[i]? := fun i => by simp
  have hd : ∀ i o, l.toArray[i]? = some o → ∀ e ∈ o.after, Region.binds .any e = true → e.on < i := fun i o ho e he hb => by
    have := (sp i o (by rw [← at_]; exact ho)).1 e he hb
    omega
  have hs : Region.sinkB .any l.toArray n = true := by
    refine List.all_eq_true.2 fun i hi => ?_
    have hi' : i < n := List.mem_range.1 hi
    have hil : i < l.length := by omega
    obtain ⟨j, oj, hij, hjn, hoj, e, he, hb, hon⟩ := (sp i l[i] (by simp [hil])).2.1 (by omega)
    refine List.any_eq_true.2 ⟨j, List.mem_range.2 (by omega), ?_⟩
    simp only [Bool.and_eq_true, decide_eq_true_eq]
    refine ⟨hij, ?_⟩
    unfold Region.waitsFor
    rw [at_, hoj]
    refine Array.any_eq_true'.2 ⟨e, he, ?_⟩
    simp [hb, hon]
  have hch : ∀ i o, l.toArray[i]? = some o → n < i → ∃ e ∈ o.after, Region.binds .any e = true ∧ e.on = i - 1 := fun i o ho hi => by
    have := (sp i o (by rw [← at_]; exact ho)).2.2.1 (by omega)
    simpa using this
  have hc : Region.chainB .any l.toArray n = true := by
    refine List.all_eq_true.2 fun i hi => ?_
    have hi' : i < l.length := by simpa using List.mem_range.1 hi
    simp only [Bool.or_eq_true, decide_eq_true_eq]
    by_cases hin : i ≤ n
    · exact .inl hin
    · right
      have hoi : l.toArray[i]? = some l[i] := by simp [hi']
      obtain ⟨e, he, hb, hon⟩ := hch i l[i] hoi (by omega)
      unfold Region.waitsFor
      rw [hoi]
      refine Array.any_eq_true'.2 ⟨e, he, ?_⟩
      simp [hb, hon]
  have hf : ∀ i oi, i < n → l.toArray[i]? = some oi → ∀ j oj, i < j → l.toArray[j]? = some oj → (∃ e ∈ oj.after, Region.binds .any e = true ∧ e.on = i) ∨ oi.apart l.toArray oj = true := fun i oi hi hoi j oj hj hoj => by
    have := (sp i oi (by rw [← at_]; exact hoi)).2.2.2 (by omega) j oj hj (by rw [← at_]; exact hoj)
    simpa using this
  have htl : (l.take n).length = n := by simp; omega
  have hdl : (l.drop n).length = l.toArray.size - n := by simp
  have inv : HeadInv .any l.toArray n (Array.replicate l.toArray.size false) :=
    ⟨by simp, fun j oj _ hl => (by rw [getD_replicate_false] at hl; cases hl), fun t _ ht => getD_in (by simpa using ht) (getD_replicate_false _ _)⟩
  have hm0 : Marks l.toArray 0 (Array.replicate l.toArray.size false) := ⟨by simp, fun i hi => by rw [getD_in (by simpa using hi) (getD_replicate_false _ _)]; simp⟩
  have H := wpHead_marks (md := .any) hsel hs hc hn2 hd hf (l.take n) 0 _ a (fun j hj => by
    have hj' : j < n := by rw [htl] at hj; exact hj
    simp [hj']) (by simpa using htl) hm0 inv h
  refine wp_region_any hm ?_
  have H2 := wpHead_any (Q' := Q) (g := l.toArray.size - n) (fun listed a' w' hw' hL => by
    have := wpAny_marks (md := .any) (Q' := Q) (n := n) hd hch (l.drop n) n listed a' w' (Nat.le_refl _) (by simp; omega) (fun j => by simp [List.getElem?_drop]) hL.1 (hL.2 w' hw')
    rwa [hdl] at this) _ _ _ _ hC H
  rw [htl] at H2
  have e : n + (l.toArray.size - n) = l.toArray.size := by omega
  rwa [e] at H2

/-- At the class 'a later world'. -/
theorem wp_region_later_table {B : Nat} {w0 : World} {id : Nat} {Q : Exit → Act → World → Prop} {a : Act} {w : World} {l : List Oper} (n : Nat) (T : List (List Nat × Nat × List Nat)) (hm : P.follows .mixedOrders = true) (hsel : Region.noSelect l.toArray = true) (hT : l.map (oprow l.toArray) = T) (hk : chkT n 0 T = true) (hn : n < T.length) (h0 : Below B w0 w)
    (h : wpQuiet P l.toArray (fun w' => ∃ u : Later B w0, w' = u.to) (fun a' => ∀ w', (∃ u : Later B w0, w' = u.to) → wpList P l.toArray Q (l.drop n) a' w') (l.take n) a) : (Code.region id l.toArray true).wp P Q a w :=
  wp_region_table (C := fun w' => ∃ u : Later B w0, w' = u.to) n T hm hsel hT hk hn ⟨⟨w.drew, h0.drew⟩, rfl⟩ h

/-- The same at the class 'a later world'. -/
theorem wp_region_later_tail {B : Nat} {w0 : World} {id : Nat} {Q : Exit → Act → World → Prop} {a : Act} {w : World} {l : List Oper} (n : Nat) (hm : P.follows .mixedOrders = true) (hB : Region.lexTailB .any l.toArray n = true) (h0 : Below B w0 w)
    (h : wpQuiet P l.toArray (fun w' => ∃ u : Later B w0, w' = u.to) (fun a' => ∀ w', (∃ u : Later B w0, w' = u.to) → wpList P l.toArray Q (l.drop n) a' w') (l.take n) a) : (Code.region id l.toArray true).wp P Q a w :=
  wp_region_quiet_tail (C := fun w' => ∃ u : Later B w0, w' = u.to) n hm hB ⟨⟨w.drew, h0.drew⟩, rfl⟩ h
/-- At the class 'the world after some draws': a head that only reads. -/
theorem wp_region_drawn_tail {id : Nat} {Q : Exit → Act → World → Prop} {a : Act} {w : World} {l : List Oper} (n : Nat) (hm : P.follows .mixedOrders = true) (hB : Region.lexTailB .any l.toArray n = true)
    (h : wpQuiet P l.toArray (fun w' => ∃ k, w' = w.drewN k) (fun a' => ∀ w', (∃ k, w' = w.drewN k) → wpList P l.toArray Q (l.drop n) a' w') (l.take n) a) : (Code.region id l.toArray true).wp P Q a w :=
  wp_region_quiet_tail (C := fun w' => ∃ k, w' = w.drewN k) n hm hB ⟨1, rfl⟩ h
end
end Go.Proofs.Ytgbmhijgpdgdbaa
