/- A region that draws its order and ends in operations that come one by one behind all others (a new slice, a store): its head is quiet in a class of worlds, walked once; its tail is walked in each world of the class. -/
import Derived.Test.YtgbmhijgpdgdbaaLpMapU
import Derived.StillTail
import Derived.OrdersIn
import Derived.TacticsIn
import Derived.RangeFuncCalls
namespace Go.Proofs.Ytgbmhijgpdgdbaa
open Go.RowKit
section
variable {P : Program} {ops : Array Oper} {md : Region.Mode} {C : World → Prop}
def wpHead (P : Program) (md : Region.Mode) (ops : Array Oper) (C : World → Prop) (n : Nat) (L : Array Bool → Act → Prop) : Nat → Array Bool → Act → Prop
  | 0, listed, a => L listed a
  | f + 1, listed, a => Region.ready md ops listed ≠ [] ∧ ∀ i ∈ Region.ready md ops listed, i < n ∧ qOp P ops C i (wpHead P md ops C n L f (listed.setIfInBounds i true)) a
theorem wpHead_any {n g : Nat} {L : Array Bool → Act → Prop} {Q' : Exit → Act → World → Prop} (hL : ∀ listed a w, C w → L listed a → wpAny P md ops Q' g listed a w) (f : Nat) :
    ∀ (listed : Array Bool) (a : Act) (w : World), C w → wpHead P md ops C n L f listed a → wpAny P md ops Q' (f + g) listed a w := by
  induction f with
  | zero => intro listed a w hw h; rw [Nat.zero_add]; exact hL _ _ _ hw h
  | succ f ih =>
    intro listed a w hw h
    have e : f + 1 + g = (f + g) + 1 := by omega
    rw [e]
    exact ⟨fun h0 => absurd h0 h.1, fun i hi => wpOp_of_qOp hw (fun a' w' hw' h' => ih _ a' w' hw' h') (h.2 i hi).2⟩
theorem wpHead_first {n i : Nat} {oi : Oper} {v : Value} {L : Array Bool → Act → Prop} (hi : ops[i]? = some oi) (hsel : ∀ (j : Nat) (o : Oper) cs b, ops[j]? = some o → o.op ≠ .select cs b)
    (hs : Region.sinkB md ops n = true) (hc : Region.chainB md ops n = true) (hn : n < ops.size) (hin : i < n) (hdone : ∀ listed a, L listed a → ∀ j ∈ Region.ready md ops listed, n ≤ j) (f : Nat) :
    ∀ (listed : Array Bool) (a : Act), HeadInv md ops n listed →
      (∀ j oj, ops[j]? = some oj → j ≠ i → listed.getD j true = false → (∀ e ∈ oj.after, Region.binds md e = true → e.on ≠ i) → oi.apart ops oj = true) →
      i ∈ Region.ready md ops listed → YieldsIn P ops C oi v a → wpHead P md ops C n L f (listed.setIfInBounds i true) (a.put oi.dst v) → wpHead P md ops C n L (f + 1) listed a := by
  have below : ∀ listed, HeadInv md ops n listed → i ∈ Region.ready md ops listed → ∀ j ∈ Region.ready md ops listed, j < n := by
    intro listed inv hr j hj
    refine Nat.lt_of_not_le fun h => ?_
    exact tail_waits hs hc hn inv _ i rfl hin (mem_ready.1 hr).1 j h hj
  induction f with
  | zero =>
    intro listed a inv _ hr hy H
    refine ⟨List.ne_nil_of_mem hr, fun j hj => ⟨below listed inv hr j hj, ?_⟩⟩
    by_cases hji : j = i
    · subst hji
      exact hy.qOp hi H
    · have h1 := hdone _ _ H j (ready_mono hj hji)
      have h2 := below listed inv hr j hj
      omega
  | succ f ih =>
    intro listed a inv hfree hr hy H
    have hun := (mem_ready.1 hr).1
    refine ⟨List.ne_nil_of_mem hr, fun j hj => ⟨below listed inv hr j hj, ?_⟩⟩
    by_cases hji : j = i
    · subst hji
      exact hy.qOp hi H
    · obtain ⟨hjun, oj, hoj, hall⟩ := mem_ready.1 hj
      have hnot : ∀ e ∈ oj.after, Region.binds md e = true → e.on ≠ i := fun e he hb heq => by
        have h1 := hall e he hb
        rw [heq, getD_both hun] at h1
        cases h1
      have h1 := (H.2 j (ready_mono hj hji)).2
      have h2 := qOp_put hoj (hfree j oj hoj hji hjun hnot) (fun cs b => hsel i oi cs b hi) (fun cs b => hsel j oj cs b hoj) hy h1
      have hfree' : ∀ k ok, ops[k]? = some ok → k ≠ i → (listed.setIfInBounds j true).getD k true = false → (∀ e ∈ ok.after, Region.binds md e = true → e.on ≠ i) → oi.apart ops ok = true := by
        intro k ok hk hki hu hno
        by_cases hjk : j = k
        · subst hjk; exact hfree j ok hk hki hjun hno
        · rw [getD_set_ne true hjk] at hu; exact hfree k ok hk hki hu hno
      refine qOp_mono (fun a' h3 => ih (listed.setIfInBounds j true) a' (inv.set hj (below listed inv hr j hj)) hfree' (ready_mono hr (Ne.symm hji)) h3.1 ?_) h2
      rw [Array.setIfInBounds_comm _ _ hji]
      exact h3.2
theorem wpHead_lex {n g : Nat} {Lq : Act → Prop} (hsel : Region.noSelect ops = true) (hs : Region.sinkB md ops n = true) (hc : Region.chainB md ops n = true) (hn : n < ops.size) (l : List Oper) :
    ∀ (k : Nat) (listed : Array Bool) (a : Act), (∀ j, j < l.length → l[j]? = ops[k + j]?) → k + l.length = n → HeadInv md ops n listed → Region.lexHead md ops g l.length k listed = true → wpQuiet P ops C Lq l a →
    wpHead P md ops C n (fun listed' a' => Region.seqB md ops g n listed' = true ∧ Lq a') l.length listed a := by
  induction l with
  | nil =>
    intro k listed a _ hk _ hB h
    obtain rfl : k = n := by simpa using hk
    exact ⟨by simpa [Region.lexHead] using hB, h⟩
  | cons o l ih =>
    intro k listed a hl hk inv hB h
    have h0 : ops[k]? = some o := by simpa using (hl 0 (by simp)).symm
    simp only [List.length_cons, Region.lexHead, Bool.and_eq_true] at hB
    have hkn : k < n := by simp only [List.length_cons] at hk; omega
    have hr : k ∈ Region.ready md ops listed := by simpa using hB.1.1
    have hq : qOp P ops C k (wpQuiet P ops C Lq l) a := by unfold qOp; simp only [h0]; exact h
    obtain ⟨v, hy, hK⟩ := yieldsIn_of_qOp h0 hq
    refine wpHead_first h0 (Region.noSelect_spec hsel) hs hc hn hkn (fun listed' a' hL => seqB_ready hL.1) l.length listed a inv (Region.free_spec h0 hB.1.2) hr hy ?_
    refine ih (k + 1) _ _ (fun j hj => ?_) (by simp only [List.length_cons] at hk; omega) (inv.set hr hkn) hB.2 hK
    have := hl (j + 1) (by simp; omega)
    simpa [Nat.add_assoc, Nat.add_comm 1 j] using this
theorem wp_region_quiet_tail {id : Nat} {Q : Exit → Act → World → Prop} {a : Act} {w : World} {l : List Oper} (n : Nat) (hm : P.follows .mixedOrders = true) (hB : Region.lexTailB .any l.toArray n = true) (hC : C w.drew)
    (h : wpQuiet P l.toArray C (fun a' => ∀ w', C w' → wpList P l.toArray Q (l.drop n) a' w') (l.take n) a) : (Code.region id l.toArray true).wp P Q a w := by
  simp only [Region.lexTailB, Bool.and_eq_true, decide_eq_true_eq] at hB
  obtain ⟨⟨⟨⟨hsel, hn⟩, hs⟩, hc⟩, hlex⟩ := hB
  have hn' : n < l.length := by simpa using hn
  have htl : (l.take n).length = n := by simp; omega
  have hdl : (l.drop n).length = l.toArray.size - n := by simp
  have inv : HeadInv .any l.toArray n (Array.replicate l.toArray.size false) :=
    ⟨by simp, fun j oj _ hl => (by rw [getD_replicate_false] at hl; cases hl), fun t _ ht => getD_in (by simpa using ht) (getD_replicate_false _ _)⟩
  have H := wpHead_lex (md := .any) (g := l.toArray.size - n) hsel hs hc hn (l.take n) 0 _ a (fun j hj => by
    have hj' : j < n := by rw [htl] at hj; exact hj
    simp [hj']) (by simpa using htl) inv (by rw [htl]; exact hlex) h
  refine wp_region_any hm ?_
  have H2 := wpHead_any (Q' := Q) (g := l.toArray.size - n) (fun listed a' w' hw' hL => by
    have := wpAny_of_seq (md := .any) (Q' := Q) (l.drop n) n listed a' w' (fun j => by simp [List.getElem?_drop]) (by rw [hdl]; exact hL.1) (hL.2 w' hw')
    rwa [hdl] at this) _ _ _ _ hC H
  rw [htl] at H2
  have e : n + (l.toArray.size - n) = l.toArray.size := by omega
  rwa [e] at H2
def oprow (ops : Array Oper) (o : Oper) : List Nat × Nat × List Nat :=
  ((o.after.toList.filter (Region.binds .any)).map (·.on), (match o.dst with | some d => d + 1 | none => 0), o.looksAt ops)
def apartN (x y : List Nat × Nat × List Nat) : Bool := (x.2.1 == 0 || (!y.2.2.contains (x.2.1 - 1) && y.2.1 != x.2.1)) && (y.2.1 == 0 || !x.2.2.contains (y.2.1 - 1))
theorem apart_of_rows {ops : Array Oper} {x y : Oper} (h : apartN (oprow ops x) (oprow ops y) = true) : x.apart ops y = true := by
  unfold apartN oprow at h
  unfold Oper.apart
  cases hx : x.dst <;> cases hy : y.dst <;> simp [hx, hy] at h ⊢ <;> simp_all
def chkT (n : Nat) : Nat → List (List Nat × Nat × List Nat) → Bool
  | _, [] => true
  | k, x :: r => x.1.all (fun i => decide (i < k)) && (decide (n ≤ k) || (r.take (n - k)).any (fun t => t.1.contains k)) && (decide (k ≤ n) || x.1.contains (k - 1)) && (decide (n ≤ k) || r.all (fun t => t.1.contains k || apartN x t)) && chkT n (k + 1) r
theorem mem_oprow {ops : Array Oper} {o : Oper} {i : Nat} : i ∈ (oprow ops o).1 ↔ ∃ e ∈ o.after, Region.binds .any e = true ∧ e.on = i := by
  simp [oprow, and_assoc]
theorem chkT_spec {ops : Array Oper} {n : Nat} (l : List Oper) : ∀ (k : Nat), chkT n k (l.map (oprow ops)) = true → ∀ i o, l[i]? = some o →
    (∀ e ∈ o.after, Region.binds .any e = true → e.on < k + i) ∧
    (k + i < n → ∃ j oj, i < j ∧ k + j ≤ n ∧ l[j]? = some oj ∧ ∃ e ∈ oj.after, Region.binds .any e = true ∧ e.on = k + i) ∧
    (n < k + i → ∃ e ∈ o.after, Region.binds .any e = true ∧ e.on = k + i - 1) ∧
    (k + i < n → ∀ j oj, i < j → l[j]? = some oj → (∃ e ∈ oj.after, Region.binds .any e = true ∧ e.on = k + i) ∨ o.apart ops oj = true) := by
  induction l with
  | nil => intro k _ i o ho; simp at ho
  | cons x r ih =>
    intro k h i o ho
    simp only [List.map_cons, chkT, Bool.and_eq_true, Bool.or_eq_true, decide_eq_true_eq] at h
    obtain ⟨⟨⟨⟨h1, h2⟩, h3⟩, h4⟩, h5⟩ := h
    cases i with
    | zero =>
      obtain rfl : x = o := by simpa using ho
      refine ⟨fun e he hb => ?_, fun hk => ?_, fun hk => ?_, fun hk j oj hj hoj => ?_⟩
      · have := List.all_eq_true.1 h1 e.on (mem_oprow.2 ⟨e, he, hb, rfl⟩)
        simpa using this
      · rcases h2 with h2 | h2
        · omega
        · obtain ⟨t, ht, hc⟩ := List.any_eq_true.1 h2
          obtain ⟨m, hm⟩ := List.mem_iff_getElem?.1 ht
          rw [List.getElem?_take] at hm
          split at hm
          · rename_i hmn
            rw [List.getElem?_map] at hm
            cases hr : r[m]? with
            | none => rw [hr] at hm; cases hm
            | some oj =>
              rw [hr] at hm
              obtain rfl : oprow ops oj = t := by simpa using hm
              obtain ⟨e, he, hb, hon⟩ := mem_oprow.1 (by simpa using hc)
              exact ⟨m + 1, oj, by omega, by omega, by simpa using hr, e, he, hb, by simpa using hon⟩
          · cases hm
      · rcases h3 with h3 | h3
        · omega
        · obtain ⟨e, he, hb, hon⟩ := mem_oprow.1 (by simpa using h3)
          exact ⟨e, he, hb, by simpa using hon⟩
      · rcases h4 with h4 | h4
        · omega
        · obtain ⟨m, rfl⟩ : ∃ m, j = m + 1 := ⟨j - 1, by omega⟩
          have hoj' : r[m]? = some oj := by simpa using hoj
          have := List.all_eq_true.1 h4 (oprow ops oj) (List.mem_map.2 ⟨oj, List.mem_of_getElem? hoj', rfl⟩)
          simp only [Bool.or_eq_true] at this
          rcases this with hc | hc
          · obtain ⟨e, he, hb, hon⟩ := mem_oprow.1 (by simpa using hc)
            exact .inl ⟨e, he, hb, by simpa using hon⟩
          · exact .inr (apart_of_rows hc)
    | succ i =>
      have ho' : r[i]? = some o := by simpa using ho
      obtain ⟨a1, a2, a3, a4⟩ := ih (k + 1) h5 i o ho'
      have e : k + (i + 1) = k + 1 + i := by omega
      rw [e]
      refine ⟨a1, fun hk => ?_, a3, fun hk j oj hj hoj => ?_⟩
      · obtain ⟨j, oj, hj, hjn, hoj, hh⟩ := a2 hk
        exact ⟨j + 1, oj, by omega, by omega, by simpa using hoj, hh⟩
      · obtain ⟨m, rfl⟩ : ∃ m, j = m + 1 := ⟨j - 1, by omega⟩
        exact a4 hk m oj (by omega) (by simpa using hoj)
def Marks (ops : Array Oper) (k : Nat) (listed : Array Bool) : Prop := listed.size = ops.size ∧ ∀ i, i < ops.size → listed.getD i true = decide (i < k)
theorem getD_either {listed : Array Bool} {i : Nat} (h : i < listed.size) : listed.getD i true = listed.getD i false := by simp [h]
theorem Marks.set {k : Nat} {listed : Array Bool} (h : Marks ops k listed) (hk : k < ops.size) : Marks ops (k + 1) (listed.setIfInBounds k true) := by
  refine ⟨by simp [h.1], fun i hi => ?_⟩
  by_cases hik : k = i
  · subst hik
    have hl : k < (listed.setIfInBounds k true).size := by simp [h.1]; exact hk
    simp [h.1, hk]
  · rw [getD_set_ne true hik, h.2 i hi]
    by_cases h1 : i < k
    · simp [h1, Nat.lt_succ_of_lt h1]
    · have : ¬ i < k + 1 := by omega
      simp [h1, this]
theorem Marks.ready {k : Nat} {o : Oper} {listed : Array Bool} (h : Marks ops k listed) (hk : k < ops.size) (ho : ops[k]? = some o) (hd : ∀ e ∈ o.after, Region.binds md e = true → e.on < k) : k ∈ Region.ready md ops listed := by
  refine mem_ready.2 ⟨by rw [h.2 k hk]; simp, o, ho, fun e he hb => ?_⟩
  have h1 := hd e he hb
  rw [← getD_either (by rw [h.1]; omega), h.2 e.on (by omega)]
  simp [h1]
theorem wpAny_marks {n : Nat} {Q' : Exit → Act → World → Prop} (hd : ∀ i o, ops[i]? = some o → ∀ e ∈ o.after, Region.binds md e = true → e.on < i) (hch : ∀ i o, ops[i]? = some o → n < i → ∃ e ∈ o.after, Region.binds md e = true ∧ e.on = i - 1) (l : List Oper) :
    ∀ (k : Nat) (listed : Array Bool) (a : Act) (w : World), n ≤ k → k + l.length = ops.size → (∀ j, l[j]? = ops[k + j]?) → Marks ops k listed → wpList P ops Q' l a w → wpAny P md ops Q' l.length listed a w := by
  induction l with
  | nil =>
    intro k listed a w hnk hkl hl hm h
    refine ⟨?_, h⟩
    apply List.eq_nil_iff_forall_not_mem.2
    intro i hi
    obtain ⟨hu, o, ho, _⟩ := mem_ready.1 hi
    have hlt := (Array.getElem?_eq_some_iff.1 ho).1
    rw [hm.2 i hlt] at hu
    simp only [List.length_nil] at hkl
    have : i < k := by omega
    simp [this] at hu
  | cons o l ih =>
    intro k listed a w hnk hkl hl hm h
    have h0 : ops[k]? = some o := by simpa using (hl 0).symm
    have hk : k < ops.size := (Array.getElem?_eq_some_iff.1 h0).1
    have hr := hm.ready (md := md) hk h0 (hd k o h0)
    refine ⟨fun h1 => (by rw [h1] at hr; cases hr), fun i hi => ?_⟩
    obtain ⟨hu, oi, hoi, hall⟩ := mem_ready.1 hi
    have hlt := (Array.getElem?_eq_some_iff.1 hoi).1
    have hki : ¬ i < k := by
      intro hc
      rw [hm.2 i hlt] at hu
      simp [hc] at hu
    have hik : i = k := by
      refine Nat.le_antisymm (Nat.le_of_not_lt fun hc => ?_) (by omega)
      obtain ⟨e, he, hb, hon⟩ := hch i oi hoi (by omega)
      have h2 := hall e he hb
      rw [← getD_either (by rw [hm.1]; omega), hm.2 e.on (by omega)] at h2
      have : ¬ e.on < k := by omega
      simp [this] at h2
    subst hik
    have hw : wpOp P ops Q' i (wpList P ops Q' l) a w := by unfold wpOp; simp only [h0]; exact h
    refine wpOp_mono (fun a' w' h' => ih (i + 1) _ a' w' (by omega) (by simp only [List.length_cons] at hkl; omega) (fun j => ?_) (hm.set hk) h') hw
    have := hl (j + 1)
    simpa [Nat.add_assoc, Nat.add_comm 1 j] using this
theorem wpHead_marks {n : Nat} {Lq : Act → Prop} (hsel : Region.noSelect ops = true) (hs : Region.sinkB md ops n = true) (hc : Region.chainB md ops n = true) (hn : n < ops.size) (hd : ∀ i o, ops[i]? = some o → ∀ e ∈ o.after, Region.binds md e = true → e.on < i)
    (hf : ∀ i oi, i < n → ops[i]? = some oi → ∀ j oj, i < j → ops[j]? = some oj → (∃ e ∈ oj.after, Region.binds md e = true ∧ e.on = i) ∨ oi.apart ops oj = true) (l : List Oper) :
    ∀ (k : Nat) (listed : Array Bool) (a : Act), (∀ j, j < l.length → l[j]? = ops[k + j]?) → k + l.length = n → Marks ops k listed → HeadInv md ops n listed → wpQuiet P ops C Lq l a →
    wpHead P md ops C n (fun listed' a' => Marks ops n listed' ∧ Lq a') l.length listed a := by
  induction l with
  | nil =>
    intro k listed a _ hk hm _ h
    obtain rfl : k = n := by simpa using hk
    exact ⟨hm, h⟩
  | cons o l ih =>
    intro k listed a hl hk hm inv h
    have h0 : ops[k]? = some o := by simpa using (hl 0 (by simp)).symm
    have hkn : k < n := by simp only [List.length_cons] at hk; omega
    have hks : k < ops.size := by omega
    have hr := hm.ready (md := md) hks h0 (hd k o h0)
    have hq : qOp P ops C k (wpQuiet P ops C Lq l) a := by unfold qOp; simp only [h0]; exact h
    obtain ⟨v, hy, hK⟩ := yieldsIn_of_qOp h0 hq
    refine wpHead_first h0 (Region.noSelect_spec hsel) hs hc hn hkn (fun listed' a' hL => ?_) l.length listed a inv (fun j oj hj hne hu hno => ?_) hr hy ?_
    · intro j hj
      obtain ⟨hu, oj, hoj, _⟩ := mem_ready.1 hj
      rw [hL.1.2 j (Array.getElem?_eq_some_iff.1 hoj).1] at hu
      refine Nat.le_of_not_lt fun hlt => ?_
      simp [hlt] at hu
    · have hjs := (Array.getElem?_eq_some_iff.1 hj).1
      have hjk : k < j := by
        rw [hm.2 j hjs] at hu
        have : ¬ j < k := fun hlt => by simp [hlt] at hu
        omega
      rcases hf k o hkn h0 j oj hjk hj with ⟨e, he, hb, hon⟩ | h1
      · exact absurd hon (hno e he hb)
      · exact h1
    · refine ih (k + 1) _ _ (fun j hj => ?_) (by simp only [List.length_cons] at hk; omega) (hm.set hks) (inv.set hr hkn) hK
      have := hl (j + 1) (by simp; omega)
      simpa [Nat.add_assoc, Nat.add_comm 1 j] using this
theorem wp_region_table {id : Nat} {Q : Exit → Act → World → Prop} {a : Act} {w : World} {l : List Oper} (n : Nat) (T : List (List Nat × Nat × List Nat)) (hm : P.follows .mixedOrders = true) (hsel : Region.noSelect l.toArray = true) (hT : l.map (oprow l.toArray) = T) (hk : chkT n 0 T = true) (hn : n < T.length) (hC : C w.drew)
    (h : wpQuiet P l.toArray C (fun a' => ∀ w', C w' → wpList P l.toArray Q (l.drop n) a' w') (l.take n) a) : (Code.region id l.toArray true).wp P Q a w := by
  subst hT
  have sp := chkT_spec (ops := l.toArray) l 0 hk
  have hn' : n < l.length := by simpa using hn
  have hn2 : n < l.toArray.size := by simpa using hn'
  have at_ : ∀ i : Nat, l.toArray[i]? = l[i]? := fun i => by simp
  have hd : ∀ i o, l.toArray[i]? = some o → ∀ e ∈ o.after, Region.binds .any e = true → e.on < i := fun i o ho e he hb => by
    have := (sp i o (by rw [← at_]; exact ho)).1 e he hb
    omega
  have hs : Region.sinkB .any l.toArray n = true := by
    refine List.all_eq_true.2 fun i hi => ?_
    have hi' : i < n := List.mem_range.1 hi
    have hil : i < l.length := by omega
    obtain ⟨j, oj, hij, hjn, hoj, e, he, hb, hon⟩ := (sp i l[i] (by simp [hil])).2.1 (by omega)
    refine List.any_eq_true.2 ⟨j, List.mem_range.2 (by omega), ?_⟩
    simp only [Bool.and_eq_true, decide_eq_true_eq]
    refine ⟨hij, ?_⟩
    unfold Region.waitsFor
    rw [at_, hoj]
    refine Array.any_eq_true'.2 ⟨e, he, ?_⟩
    simp [hb, hon]
  have hch : ∀ i o, l.toArray[i]? = some o → n < i → ∃ e ∈ o.after, Region.binds .any e = true ∧ e.on = i - 1 := fun i o ho hi => by
    have := (sp i o (by rw [← at_]; exact ho)).2.2.1 (by omega)
    simpa using this
  have hc : Region.chainB .any l.toArray n = true := by
    refine List.all_eq_true.2 fun i hi => ?_
    have hi' : i < l.length := by simpa using List.mem_range.1 hi
    simp only [Bool.or_eq_true, decide_eq_true_eq]
    by_cases hin : i ≤ n
    · exact .inl hin
    · right
      have hoi : l.toArray[i]? = some l[i] := by simp [hi']
      obtain ⟨e, he, hb, hon⟩ := hch i l[i] hoi (by omega)
      unfold Region.waitsFor
      rw [hoi]
      refine Array.any_eq_true'.2 ⟨e, he, ?_⟩
      simp [hb, hon]
  have hf : ∀ i oi, i < n → l.toArray[i]? = some oi → ∀ j oj, i < j → l.toArray[j]? = some oj → (∃ e ∈ oj.after, Region.binds .any e = true ∧ e.on = i) ∨ oi.apart l.toArray oj = true := fun i oi hi hoi j oj hj hoj => by
    have := (sp i oi (by rw [← at_]; exact hoi)).2.2.2 (by omega) j oj hj (by rw [← at_]; exact hoj)
    simpa using this
  have htl : (l.take n).length = n := by simp; omega
  have hdl : (l.drop n).length = l.toArray.size - n := by simp
  have inv : HeadInv .any l.toArray n (Array.replicate l.toArray.size false) :=
    ⟨by simp, fun j oj _ hl => (by rw [getD_replicate_false] at hl; cases hl), fun t _ ht => getD_in (by simpa using ht) (getD_replicate_false _ _)⟩
  have hm0 : Marks l.toArray 0 (Array.replicate l.toArray.size false) := ⟨by simp, fun i hi => by rw [getD_in (by simpa using hi) (getD_replicate_false _ _)]; simp⟩
  have H := wpHead_marks (md := .any) hsel hs hc hn2 hd hf (l.take n) 0 _ a (fun j hj => by
    have hj' : j < n := by rw [htl] at hj; exact hj
    simp [hj']) (by simpa using htl) hm0 inv h
  refine wp_region_any hm ?_
  have H2 := wpHead_any (Q' := Q) (g := l.toArray.size - n) (fun listed a' w' hw' hL => by
    have := wpAny_marks (md := .any) (Q' := Q) (n := n) hd hch (l.drop n) n listed a' w' (Nat.le_refl _) (by simp; omega) (fun j => by simp [List.getElem?_drop]) hL.1 (hL.2 w' hw')
    rwa [hdl] at this) _ _ _ _ hC H
  rw [htl] at H2
  have e : n + (l.toArray.size - n) = l.toArray.size := by omega
  rwa [e] at H2
theorem wp_region_later_table {B : Nat} {w0 : World} {id : Nat} {Q : Exit → Act → World → Prop} {a : Act} {w : World} {l : List Oper} (n : Nat) (T : List (List Nat × Nat × List Nat)) (hm : P.follows .mixedOrders = true) (hsel : Region.noSelect l.toArray = true) (hT : l.map (oprow l.toArray) = T) (hk : chkT n 0 T = true) (hn : n < T.length) (h0 : Below B w0 w)
    (h : wpQuiet P l.toArray (fun w' => ∃ u : Later B w0, w' = u.to) (fun a' => ∀ w', (∃ u : Later B w0, w' = u.to) → wpList P l.toArray Q (l.drop n) a' w') (l.take n) a) : (Code.region id l.toArray true).wp P Q a w :=
  wp_region_table (C := fun w' => ∃ u : Later B w0, w' = u.to) n T hm hsel hT hk hn ⟨⟨w.drew, h0.drew⟩, rfl⟩ h
theorem wp_region_later_tail {B : Nat} {w0 : World} {id : Nat} {Q : Exit → Act → World → Prop} {a : Act} {w : World} {l : List Oper} (n : Nat) (hm : P.follows .mixedOrders = true) (hB : Region.lexTailB .any l.toArray n = true) (h0 : Below B w0 w)
    (h : wpQuiet P l.toArray (fun w' => ∃ u : Later B w0, w' = u.to) (fun a' => ∀ w', (∃ u : Later B w0, w' = u.to) → wpList P l.toArray Q (l.drop n) a' w') (l.take n) a) : (Code.region id l.toArray true).wp P Q a w :=
  wp_region_quiet_tail (C := fun w' => ∃ u : Later B w0, w' = u.to) n hm hB ⟨⟨w.drew, h0.drew⟩, rfl⟩ h
theorem wp_region_drawn_tail {id : Nat} {Q : Exit → Act → World → Prop} {a : Act} {w : World} {l : List Oper} (n : Nat) (hm : P.follows .mixedOrders = true) (hB : Region.lexTailB .any l.toArray n = true)
    (h : wpQuiet P l.toArray (fun w' => ∃ k, w' = w.drewN k) (fun a' => ∀ w', (∃ k, w' = w.drewN k) → wpList P l.toArray Q (l.drop n) a' w') (l.take n) a) : (Code.region id l.toArray true).wp P Q a w :=
  wp_region_quiet_tail (C := fun w' => ∃ k, w' = w.drewN k) n hm hB ⟨1, rfl⟩ h
end
end Go.Proofs.Ytgbmhijgpdgdbaa
namespace Go.Proofs.Ytgbmhijgpdgdbaa
open Go.RowKit
section
variable {P : Program} {ops : Array Oper} {md : Region.Mode} {C : World → Prop}
def noDefer (l : List Oper) : Bool := l.all fun o => match o.op with | .defer _ => false | _ => true
theorem noDefer_spec {l : List Oper} (h : noDefer l = true) (o : Oper) (ho : o ∈ l) (c) : o.op ≠ .defer c := by
  intro e
  have := List.all_eq_true.1 h o ho
  rw [e] at this
  cases this
theorem opIn_of_wp {o : Oper} {a : Act} {w : World} {K : Act → World → Prop} {Q : Exit → Act → World → Prop} (r n : Nat) (hd : ∀ c, o.op ≠ .defer c) (h : o.wp P a w K Q) : o.wpIn (Fence.wide.inRound r) n P a w K Q := by
  unfold Oper.wpIn
  refine ⟨fun _ _ => trivial, ?_⟩
  rw [show (Fence.wide.inRound r).round = some r from rfl, Oper.semAt_some r _ _ hd]
  unfold Oper.wp at h
  generalize (execOp a.eval o).run P w = res at h
  cases res with
  | halt x w' => cases x <;> simp only [Oper.upon, Oper.uponIn] at h ⊢ <;> exact h
  | ok x w' =>
    cases x with
    | enter f args =>
      simp only [Oper.upon, Oper.uponIn] at h ⊢
      refine ⟨fun e => (by cases e), ?_⟩
      refine CallsIn.mono (CallsIn.inRound r (callsIn_wide.2 h)) ?_
      intro e w'' he
      cases e <;> exact he
    | row row args =>
      simp only [Oper.upon, Oper.uponIn] at h ⊢
      refine ⟨fun e => (by cases e), fun c cs _ => ?_⟩
      obtain ⟨v, w', hv, hs⟩ := h c cs
      exact ⟨v, w', hv, stepsIn_wide.2 hs⟩
    | value v => exact h
    | skip => exact h
    | defer d => exact h
    | _ => exact h.elim
theorem anyIn_of_wp {Q : Exit → Act → World → Prop} (r n : Nat) (hq : LetsOut Q → False) (hd : ∀ (i : Nat) (o : Oper), ops[i]? = some o → ∀ c, o.op ≠ Op.defer c) (f : Nat) :
    ∀ (listed : Array Bool) (a : Act) (w : World), wpAny P md ops Q f listed a w → wpAnyIn (Fence.wide.inRound r) n P md ops Q f listed a w := by
  induction f with
  | zero => intro listed a w h; exact h
  | succ f ih =>
    intro listed a w h
    refine ⟨h.1, fun i hi => ?_⟩
    have h2 := h.2 i hi
    unfold wpOp at h2
    unfold wpOpIn
    cases ho : ops[i]? with
    | none => simp only [ho] at h2 ⊢; exact ih _ _ _ h2
    | some o =>
      simp only [ho] at h2 ⊢
      split
      · rename_i hw
        simp only [hw, if_true] at h2
        rcases h2 with h2 | ⟨_, h2⟩
        · exact Oper.wpIn_mono (fun a' w' h' => ih _ a' w' h') (opIn_of_wp r n (hd i o ho) h2)
        · exact (hq h2).elim
      · rename_i hw
        rw [if_neg hw] at h2
        exact ⟨fun _ _ => trivial, ih _ _ _ h2⟩
end
end Go.Proofs.Ytgbmhijgpdgdbaa
namespace Go.Proofs.Ytgbmhijgpdgdbaa
open Go.RowKit
section
variable {P : Program} {ops : Array Oper} {md : Region.Mode} {C : World → Prop}
def wpAnyK (P : Program) (md : Region.Mode) (ops : Array Oper) (C : World → Prop) (m : Nat) (Q : Exit → Act → World → Prop) : Nat → Array Bool → Act → World → Prop
  | 0, listed, a, w => Region.ready md ops listed = [] ∧ Q .normal a w
  | f + 1, listed, a, w => (Region.ready md ops listed = [] → Q .normal a w) ∧
    ∀ i ∈ Region.ready md ops listed, wpOp P ops Q i (fun a' w' => (i < m → C w') ∧ wpAnyK P md ops C m Q f (listed.setIfInBounds i true) a' w') a w
theorem wpAnyK_any {m : Nat} {Q : Exit → Act → World → Prop} (f : Nat) : ∀ (listed : Array Bool) (a : Act) (w : World), wpAnyK P md ops C m Q f listed a w → wpAny P md ops Q f listed a w := by
  induction f with
  | zero => intro listed a w h; exact h
  | succ f ih => intro listed a w h; exact ⟨h.1, fun i hi => wpOp_mono (fun a' w' h' => ih _ a' w' h'.2) (h.2 i hi)⟩
def ReadsIn (P : Program) (ops : Array Oper) (C : World → Prop) (o : Oper) (v : Value) (a : Act) : Prop :=
  Region.wanted o (yielded ops a.tmps) = true ∧ ∀ w, C w → (execOp a.eval o).run P w = .ok (.value v) w
theorem ReadsIn.of_same {o : Oper} {v : Value} {a a' : Act} (hy : ReadsIn P ops C o v a) (he : execOp a'.eval o = execOp a.eval o)
    (hw : Region.wanted o (yielded ops a'.tmps) = Region.wanted o (yielded ops a.tmps)) : ReadsIn P ops C o v a' := by
  unfold ReadsIn at *
  rw [he, hw]
  exact hy
theorem ReadsIn.wpOp {i : Nat} {o : Oper} {v : Value} {a : Act} {Q : Exit → Act → World → Prop} (hi : ops[i]? = some o) (hy : ReadsIn P ops C o v a) {K : Act → World → Prop} {w : World} (hC : C w) (h : K (a.put o.dst v) w) : wpOp P ops Q i K a w := by
  unfold Go.wpOp
  simp only [hi]
  simp only [hy.1, if_true, Oper.wp, hy.2 w hC, Oper.upon]
  exact .inl h
theorem wpOp_putR {Q : Exit → Act → World → Prop} {j : Nat} {oi oj : Oper} {v : Value} (hj : ops[j]? = some oj) (hap : oi.apart ops oj = true)
    (hsi : ∀ cs b, oi.op ≠ .select cs b) (hsj : ∀ cs b, oj.op ≠ .select cs b)
    (hQ : ∀ c a w, Q (.panic c) (a.put oi.dst v) w → Q (.panic c) a w) {K : Act → World → Prop} {a : Act} {w : World}
    (hy : ReadsIn P ops C oi v a) (h : wpOp P ops Q j K (a.put oi.dst v) w) :
    wpOp P ops Q j (fun a' w' => ReadsIn P ops C oi v a' ∧ K (a'.put oi.dst v) w') a w := by
  obtain ⟨h1, h2, h3⟩ := Oper.apart_spec hap
  have keep : ∀ (a : Act), ReadsIn P ops C oi v a → ∀ u, ReadsIn P ops C oi v (a.put oj.dst u) := fun a hy u =>
    hy.of_same (execOp_put oi hsi a oj.dst u h3) (wanted_put oi a oj.dst u h3)
  have keepD : ∀ d, ReadsIn P ops C oi v { a with defers := d :: a.defers } := fun d => hy.of_same rfl rfl
  unfold wpOp at *
  simp only [hj] at *
  rw [wanted_put oj a oi.dst v h1] at h
  split
  · rename_i hw
    simp only [hw, if_true] at h
    rcases h with h | ⟨hasks, hlets⟩
    case inr => exact .inr ⟨by unfold Oper.asks at *; rw [execOp_put oj hsj a oi.dst v h1] at hasks; exact hasks, hlets⟩
    refine .inl ?_
    unfold Oper.wp at *
    rw [execOp_put oj hsj a oi.dst v h1] at h
    generalize (execOp a.eval oj).run P w = r at *
    cases r with
    | ok n w' =>
      cases n <;> simp only [Oper.upon] at h ⊢
      case value u => exact ⟨keep a hy u, by rw [← Act.put_comm a v u h2]; exact h⟩
      case skip => exact ⟨keep a hy _, by rw [← Act.put_comm a v undef h2]; exact h⟩
      case defer d =>
        refine ⟨keep _ (keepD d) _, ?_⟩
        rw [← Act.put_comm _ v undef h2, ← Act.put_defers]
        exact h
      case enter f args =>
        refine Calls.mono h fun e w'' he => ?_
        cases e with
        | returned u => exact ⟨keep a hy u, by rw [← Act.put_comm a v u h2]; exact he⟩
        | panicked c => exact hQ _ _ _ he
        | outgrown => exact he
      case row row args => exact Rows.mono h fun u w'' he => ⟨keep a hy u, by rw [← Act.put_comm a v u h2]; exact he⟩
    | halt x w' =>
      cases x <;> simp only [Oper.upon] at h ⊢
      case panic u => exact hQ _ _ _ h
  · rename_i hw
    simp only [hw] at h
    exact ⟨keep a hy _, by rw [← Act.put_comm a v undef h2]; exact h⟩
theorem wpAnyK_late {Q : Exit → Act → World → Prop} {i m : Nat} {oi : Oper} {v : Value} (hi : ops[i]? = some oi) (hsel : ∀ (j : Nat) (o : Oper) cs b, ops[j]? = some o → o.op ≠ .select cs b)
    (hQ : ∀ c a w, Q (.panic c) (a.put oi.dst v) w → Q (.panic c) a w) (hwait : ∀ listed, HeadInv md ops m listed → listed.getD i true = false → ∀ j ∈ Region.ready md ops listed, j < m) (f : Nat) :
    ∀ (listed : Array Bool) (a : Act) (w : World), HeadInv md ops m listed →
      (∀ j oj, ops[j]? = some oj → j ≠ i → listed.getD j true = false → (∀ e ∈ oj.after, Region.binds md e = true → e.on ≠ i) → oi.apart ops oj = true) →
      i ∈ Region.ready md ops listed → ReadsIn P ops C oi v a → C w → wpAnyK P md ops C m Q f (listed.setIfInBounds i true) (a.put oi.dst v) w → wpAny P md ops Q (f + 1) listed a w := by
  induction f with
  | zero =>
    intro listed a w _ _ hr hy hC H
    refine ⟨fun h => (by rw [h] at hr; cases hr), fun j hj => ?_⟩
    by_cases hji : j = i
    · subst hji; exact hy.wpOp hi hC (wpAnyK_any _ _ _ _ H)
    · have := ready_mono hj hji
      rw [H.1] at this
      cases this
  | succ f ih =>
    intro listed a w inv hfree hr hy hC H
    refine ⟨fun h => (by rw [h] at hr; cases hr), fun j hj => ?_⟩
    have hun := (mem_ready.1 hr).1
    by_cases hji : j = i
    · subst hji; exact hy.wpOp hi hC (wpAnyK_any _ _ _ _ H)
    · have h1 := H.2 j (ready_mono hj hji)
      obtain ⟨hjun, oj, hoj, hall⟩ := mem_ready.1 hj
      have hjm := hwait listed inv hun j hj
      have hnot : ∀ e ∈ oj.after, Region.binds md e = true → e.on ≠ i := fun e he hb heq => by
        have h1 := hall e he hb
        rw [heq, getD_both hun] at h1
        cases h1
      have h2 := wpOp_putR hoj (hfree j oj hoj hji hjun hnot) (fun cs b => hsel i oi cs b hi) (fun cs b => hsel j oj cs b hoj) hQ hy h1
      have hfree' : ∀ k ok, ops[k]? = some ok → k ≠ i → (listed.setIfInBounds j true).getD k true = false → (∀ e ∈ ok.after, Region.binds md e = true → e.on ≠ i) → oi.apart ops ok = true := by
        intro k ok hk hki hu hno
        by_cases hjk : j = k
        · subst hjk; exact hfree j ok hk hki hjun hno
        · rw [getD_set_ne true hjk] at hu; exact hfree k ok hk hki hu hno
      refine wpOp_mono (fun a' w' h3 => ih (listed.setIfInBounds j true) a' w' (inv.set hj hjm) hfree' (ready_mono hr (Ne.symm hji)) h3.1 (h3.2.1 hjm) ?_) h2
      rw [Array.setIfInBounds_comm _ _ hji]
      exact h3.2.2
def sinkFrom (md : Region.Mode) (ops : Array Oper) (s n : Nat) : Bool :=
  (List.range n).all fun i => decide (i < s) || (List.range (n + 1)).any fun j => decide (i < j) && Region.waitsFor md ops j i
theorem tail_waits_from {s n : Nat} {listed : Array Bool} (hs : sinkFrom md ops s n = true) (hc : Region.chainB md ops n = true) (hn : n < ops.size) (inv : HeadInv md ops n listed) :
    ∀ (d i : Nat), n - i = d → s ≤ i → i < n → listed.getD i true = false → ∀ t, n ≤ t → t ∉ Region.ready md ops listed := by
  intro d
  induction d using Nat.strongRecOn with
  | _ d ih =>
    intro i hd hsi hi hun t ht hr
    obtain ⟨_, ot, hot, hall⟩ := mem_ready.1 hr
    have htlt : t < ops.size := (Array.getElem?_eq_some_iff.1 hot).1
    by_cases htn : t = n
    · subst htn
      have h1 := List.all_eq_true.1 hs i (List.mem_range.2 hi)
      simp only [Bool.or_eq_true, decide_eq_true_eq] at h1
      have h1 := h1.resolve_left (by omega)
      obtain ⟨j, hj, hj2⟩ := List.any_eq_true.1 h1
      simp only [Bool.and_eq_true, decide_eq_true_eq] at hj2
      obtain ⟨oj, hoj, e, he, hb, hon⟩ := Region.waitsFor_spec hj2.2
      have hjle : j ≤ t := by have := List.mem_range.1 hj; omega
      by_cases hjt : j = t
      · subst hjt
        have : oj = ot := Option.some.inj (hoj.symm.trans hot)
        subst this
        have h2 := hall e he hb
        rw [hon, getD_both hun] at h2
        cases h2
      · cases hl : listed.getD j false with
        | true =>
          have h2 := inv.closed j oj hoj hl e he hb
          rw [hon, getD_both hun] at h2
          cases h2
        | false =>
          have hjs : j < listed.size := by rw [inv.size]; omega
          exact ih (t - j) (by omega) j rfl (by omega) (by omega) (getD_in hjs hl) t (Nat.le_refl _) hr
    · have h1 := List.all_eq_true.1 hc t (List.mem_range.2 htlt)
      simp only [Bool.or_eq_true, decide_eq_true_eq] at h1
      rcases h1 with h1 | h1
      · omega
      · obtain ⟨o', ho', e, he, hb, hon⟩ := Region.waitsFor_spec h1
        have : o' = ot := Option.some.inj (ho'.symm.trans hot)
        subst this
        have h2 := hall e he hb
        rw [hon, getD_both (inv.tail (t - 1) (by omega) (by omega))] at h2
        cases h2
theorem wpHead_first_from {s n i : Nat} {oi : Oper} {v : Value} {L : Array Bool → Act → Prop} (hi : ops[i]? = some oi) (hsel : ∀ (j : Nat) (o : Oper) cs b, ops[j]? = some o → o.op ≠ .select cs b)
    (hs : sinkFrom md ops s n = true) (hc : Region.chainB md ops n = true) (hn : n < ops.size) (hsi : s ≤ i) (hin : i < n) (hdone : ∀ listed a, L listed a → ∀ j ∈ Region.ready md ops listed, n ≤ j) (f : Nat) :
    ∀ (listed : Array Bool) (a : Act), HeadInv md ops n listed →
      (∀ j oj, ops[j]? = some oj → j ≠ i → listed.getD j true = false → (∀ e ∈ oj.after, Region.binds md e = true → e.on ≠ i) → oi.apart ops oj = true) →
      i ∈ Region.ready md ops listed → YieldsIn P ops C oi v a → wpHead P md ops C n L f (listed.setIfInBounds i true) (a.put oi.dst v) → wpHead P md ops C n L (f + 1) listed a := by
  have below : ∀ listed, HeadInv md ops n listed → i ∈ Region.ready md ops listed → ∀ j ∈ Region.ready md ops listed, j < n := by
    intro listed inv hr j hj
    refine Nat.lt_of_not_le fun h => ?_
    exact tail_waits_from hs hc hn inv _ i rfl hsi hin (mem_ready.1 hr).1 j h hj
  induction f with
  | zero =>
    intro listed a inv _ hr hy H
    refine ⟨List.ne_nil_of_mem hr, fun j hj => ⟨below listed inv hr j hj, ?_⟩⟩
    by_cases hji : j = i
    · subst hji
      exact hy.qOp hi H
    · have h1 := hdone _ _ H j (ready_mono hj hji)
      have h2 := below listed inv hr j hj
      omega
  | succ f ih =>
    intro listed a inv hfree hr hy H
    have hun := (mem_ready.1 hr).1
    refine ⟨List.ne_nil_of_mem hr, fun j hj => ⟨below listed inv hr j hj, ?_⟩⟩
    by_cases hji : j = i
    · subst hji
      exact hy.qOp hi H
    · obtain ⟨hjun, oj, hoj, hall⟩ := mem_ready.1 hj
      have hnot : ∀ e ∈ oj.after, Region.binds md e = true → e.on ≠ i := fun e he hb heq => by
        have h1 := hall e he hb
        rw [heq, getD_both hun] at h1
        cases h1
      have h1 := (H.2 j (ready_mono hj hji)).2
      have h2 := qOp_put hoj (hfree j oj hoj hji hjun hnot) (fun cs b => hsel i oi cs b hi) (fun cs b => hsel j oj cs b hoj) hy h1
      have hfree' : ∀ k ok, ops[k]? = some ok → k ≠ i → (listed.setIfInBounds j true).getD k true = false → (∀ e ∈ ok.after, Region.binds md e = true → e.on ≠ i) → oi.apart ops ok = true := by
        intro k ok hk hki hu hno
        by_cases hjk : j = k
        · subst hjk; exact hfree j ok hk hki hjun hno
        · rw [getD_set_ne true hjk] at hu; exact hfree k ok hk hki hu hno
      refine qOp_mono (fun a' h3 => ih (listed.setIfInBounds j true) a' (inv.set hj (below listed inv hr j hj)) hfree' (ready_mono hr (Ne.symm hji)) h3.1 ?_) h2
      rw [Array.setIfInBounds_comm _ _ hji]
      exact h3.2
theorem wpHead_lex_from {s n g : Nat} {Lq : Act → Prop} (hsel : Region.noSelect ops = true) (hs : sinkFrom md ops s n = true) (hc : Region.chainB md ops n = true) (hn : n < ops.size) (l : List Oper) :
    ∀ (k : Nat) (listed : Array Bool) (a : Act), s ≤ k → (∀ j, j < l.length → l[j]? = ops[k + j]?) → k + l.length = n → HeadInv md ops n listed → Region.lexHead md ops g l.length k listed = true → wpQuiet P ops C Lq l a →
    wpHead P md ops C n (fun listed' a' => Region.seqB md ops g n listed' = true ∧ Lq a') l.length listed a := by
  induction l with
  | nil =>
    intro k listed a _ _ hk _ hB h
    obtain rfl : k = n := by simpa using hk
    exact ⟨by simpa [Region.lexHead] using hB, h⟩
  | cons o l ih =>
    intro k listed a hsk hl hk inv hB h
    have h0 : ops[k]? = some o := by simpa using (hl 0 (by simp)).symm
    simp only [List.length_cons, Region.lexHead, Bool.and_eq_true] at hB
    have hkn : k < n := by simp only [List.length_cons] at hk; omega
    have hr : k ∈ Region.ready md ops listed := by simpa using hB.1.1
    have hq : qOp P ops C k (wpQuiet P ops C Lq l) a := by unfold qOp; simp only [h0]; exact h
    obtain ⟨v, hy, hK⟩ := yieldsIn_of_qOp h0 hq
    refine wpHead_first_from h0 (Region.noSelect_spec hsel) hs hc hn hsk hkn (fun listed' a' hL => seqB_ready hL.1) l.length listed a inv (Region.free_spec h0 hB.1.2) hr hy ?_
    refine ih (k + 1) _ _ (by omega) (fun j hj => ?_) (by simp only [List.length_cons] at hk; omega) (inv.set hr hkn) hB.2 hK
    have := hl (j + 1) (by simp; omega)
    simpa [Nat.add_assoc, Nat.add_comm 1 j] using this
theorem wpHead_anyK {n m g : Nat} {L : Array Bool → Act → Prop} {Q' : Exit → Act → World → Prop} (hL : ∀ listed a w, C w → L listed a → wpAnyK P md ops C m Q' g listed a w) (f : Nat) :
    ∀ (listed : Array Bool) (a : Act) (w : World), C w → wpHead P md ops C n L f listed a → wpAnyK P md ops C m Q' (f + g) listed a w := by
  induction f with
  | zero => intro listed a w hw h; rw [Nat.zero_add]; exact hL _ _ _ hw h
  | succ f ih =>
    intro listed a w hw h
    have e : f + 1 + g = (f + g) + 1 := by omega
    rw [e]
    exact ⟨fun h0 => absurd h0 h.1, fun i hi => wpOp_of_qOp hw (fun a' w' hw' h' => ⟨fun _ => hw', ih _ a' w' hw' h'⟩) (h.2 i hi).2⟩
def wpListK (P : Program) (ops : Array Oper) (C : World → Prop) (m : Nat) (Q : Exit → Act → World → Prop) : Nat → List Oper → Act → World → Prop
  | _, [], a, w => Q .normal a w
  | k, _ :: l, a, w => wpOp P ops Q k (fun a' w' => (k < m → C w') ∧ wpListK P ops C m Q (k + 1) l a' w') a w
theorem wpAnyK_of_seq {m : Nat} {Q' : Exit → Act → World → Prop} : ∀ (l : List Oper) (k : Nat) (listed : Array Bool) (a : Act) (w : World),
    Region.seqB md ops l.length k listed = true → wpListK P ops C m Q' k l a w → wpAnyK P md ops C m Q' l.length listed a w
  | [], _, _, _, _, hB, h => ⟨by simpa [Region.seqB] using hB, h⟩
  | o :: l, k, listed, a, w, hB, h => by
    simp only [List.length_cons, Region.seqB, Bool.and_eq_true, decide_eq_true_eq] at hB
    refine ⟨fun h1 => (by rw [hB.1] at h1; cases h1), fun i hi => ?_⟩
    rw [hB.1] at hi
    have hik : i = k := by simpa using hi
    subst hik
    exact wpOp_mono (fun a' w' h' => ⟨h'.1, wpAnyK_of_seq l (i + 1) _ a' w' hB.2 h'.2⟩) h
theorem wpListK_of_list {m : Nat} {Q : Exit → Act → World → Prop} : ∀ (l : List Oper) (k : Nat) (a : Act) (w : World), m ≤ k → (∀ j, l[j]? = ops[k + j]?) → wpList P ops Q l a w → wpListK P ops C m Q k l a w
  | [], _, _, _, _, _, h => h
  | o :: l, k, a, w, hk, hl, h => by
    have h0 : ops[k]? = some o := by simpa using (hl 0).symm
    have hw : wpOp P ops Q k (wpList P ops Q l) a w := by unfold wpOp; simp only [h0]; exact h
    exact wpOp_mono (fun a' w' h' => ⟨fun e => by omega, wpListK_of_list l (k + 1) a' w' (by omega) (fun j => by have := hl (j + 1); simpa [Nat.add_assoc, Nat.add_comm 1 j] using this) h'⟩) hw
theorem wpListK_step {m k : Nat} {Q : Exit → Act → World → Prop} {o : Oper} {l : List Oper} {a : Act} {w : World} (h0 : ops[k]? = some o) (hg : o.guard = none) (h : o.wp P a w (fun a' w' => C w' ∧ wpListK P ops C m Q (k + 1) l a' w') Q) : wpListK P ops C m Q k (o :: l) a w := by
  unfold wpListK wpOp
  have hw : Region.wanted o (yielded ops a.tmps) = true := by simp [Region.wanted, hg]
  simp only [h0, hw, if_true]
  exact .inl (Oper.wp_mono (fun a' w' h' => ⟨fun _ => h'.1, h'.2⟩) h)
def lateB (ops : Array Oper) (n m : Nat) : Bool :=
  Region.noSelect ops && decide (0 < n) && decide (n ≤ m) && decide (m < ops.size) && sinkFrom .any ops 1 n && Region.chainB .any ops n && Region.sinkB .any ops m && Region.chainB .any ops m &&
    (Region.ready .any ops (Array.replicate ops.size false)).contains 0 && Region.free .any ops (Array.replicate ops.size false) 0 &&
    Region.lexHead .any ops (ops.size - n) (n - 1) 1 ((Array.replicate ops.size false).setIfInBounds 0 true)
theorem any_late {Q : Exit → Act → World → Prop} {a : Act} {o : Oper} {l : List Oper} {v : Value} (n m : Nat) (hB : lateB (o :: l).toArray n m = true)
    (hQ : ∀ c a w, Q (.panic c) (a.put o.dst v) w → Q (.panic c) a w) (hy : ReadsIn P (o :: l).toArray C o v a) (w : World) (hC : C w)
    (h : wpQuiet P (o :: l).toArray C (fun a' => ∀ w', C w' → wpListK P (o :: l).toArray C m Q n (l.drop (n - 1)) a' w') (l.take (n - 1)) (a.put o.dst v)) :
    wpAny P .any (o :: l).toArray Q (o :: l).toArray.size (Array.replicate (o :: l).toArray.size false) a w := by
  simp only [lateB, Bool.and_eq_true, decide_eq_true_eq] at hB
  obtain ⟨⟨⟨⟨⟨⟨⟨⟨⟨⟨hsel, hn0⟩, hnm⟩, hm⟩, hs1⟩, hc1⟩, hsm⟩, hcm⟩, hr0⟩, hf0⟩, hlex⟩ := hB
  have hml : m < l.length + 1 := by simpa using hm
  have inv : ∀ t, HeadInv .any (o :: l).toArray t (Array.replicate (o :: l).toArray.size false) := fun t =>
    ⟨by simp, fun j oj _ hl => (by rw [getD_replicate_false] at hl; cases hl), fun t _ ht => getD_in (by simpa using ht) (getD_replicate_false _ _)⟩
  have hr : 0 ∈ Region.ready .any (o :: l).toArray (Array.replicate (o :: l).toArray.size false) := by simpa using hr0
  have hi0 : (o :: l).toArray[0]? = some o := by simp
  have htl : (l.take (n - 1)).length = n - 1 := by rw [List.length_take]; omega
  have hdl : (l.drop (n - 1)).length = (o :: l).toArray.size - n := by rw [List.length_drop]; simp; omega
  have H := wpHead_lex_from (P := P) (C := C) (s := 1) (md := .any) (g := (o :: l).toArray.size - n) hsel hs1 hc1 (by omega) (l.take (n - 1)) 1 _ (a.put o.dst v) (Nat.le_refl _) (fun j hj => by
    have hj' : j < n - 1 := by rw [htl] at hj; exact hj
    rw [List.getElem?_take, if_pos hj', Nat.add_comm]
    simp) (by rw [htl]; omega) ((inv n).set hr hn0) (by rw [htl]; exact hlex) h
  have H2 := wpHead_anyK (m := m) (Q' := Q) (g := (o :: l).toArray.size - n) (fun listed a' w' hw' hL => by
    have := wpAnyK_of_seq (P := P) (C := C) (m := m) (md := .any) (Q' := Q) (l.drop (n - 1)) n listed a' w' (by rw [hdl]; exact hL.1) (hL.2 w' hw')
    rwa [hdl] at this) _ _ _ w hC H
  have hsz : (o :: l).toArray.size = (l.take (n - 1)).length + ((o :: l).toArray.size - n) + 1 := by rw [htl]; simp; omega
  have H3 := wpAnyK_late (m := m) hi0 (Region.noSelect_spec hsel) hQ (fun listed hinv hun j hj => by
    refine Nat.lt_of_not_le fun hle => ?_
    exact tail_waits hsm hcm (by simpa using hm) hinv _ 0 rfl (by omega) hun j hle hj) _ _ a w (inv m) (Region.free_spec hi0 hf0) hr hy hC H2
  rwa [← hsz] at H3
theorem wp_region_late {id : Nat} {Q : Exit → Act → World → Prop} {a : Act} {w : World} {o : Oper} {l : List Oper} (v : Value) (n m : Nat) (hm : P.follows .mixedOrders = true) (hB : lateB (o :: l).toArray n m = true)
    (hQ : ∀ c a w, Q (.panic c) (a.put o.dst v) w → Q (.panic c) a w) (hy : ReadsIn P (o :: l).toArray C o v a) (hC : C w.drew)
    (h : wpQuiet P (o :: l).toArray C (fun a' => ∀ w', C w' → wpListK P (o :: l).toArray C m Q n (l.drop (n - 1)) a' w') (l.take (n - 1)) (a.put o.dst v)) : (Code.region id (o :: l).toArray true).wp P Q a w :=
  wp_region_any hm (any_late n m hB hQ hy w.drew hC h)
theorem wpIn_region_late {id : Nat} {Q : Exit → Act → World → Prop} {a : Act} {w : World} {o : Oper} {l : List Oper} {r k : Nat} (v : Value) (n m : Nat) (hm : P.follows .mixedOrders = true) (hB : lateB (o :: l).toArray n m = true) (hd : noDefer (o :: l) = true) (hq : LetsOut Q → False)
    (hQ : ∀ c a w, Q (.panic c) (a.put o.dst v) w → Q (.panic c) a w) (hy : ReadsIn P (o :: l).toArray C o v a) (hC : C w.drew)
    (h : wpQuiet P (o :: l).toArray C (fun a' => ∀ w', C w' → wpListK P (o :: l).toArray C m Q n (l.drop (n - 1)) a' w') (l.take (n - 1)) (a.put o.dst v)) : (Code.region id (o :: l).toArray true).wpIn (Fence.wide.inRound r) k P Q a w :=
  wpIn_region_any hm (anyIn_of_wp r k hq (fun i o' ho => noDefer_spec hd o' (by simpa using Array.mem_of_getElem? ho)) _ _ _ _ (any_late n m hB hQ hy w.drew hC h))
end
end Go.Proofs.Ytgbmhijgpdgdbaa
