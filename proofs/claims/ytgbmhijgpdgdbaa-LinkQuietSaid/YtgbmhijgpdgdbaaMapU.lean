/- Maps keyed by a uint32: what a look-up, a store do to the block. -/
import Derived.Test.YtgbmhijgpdgdbaaMaps
namespace Go.Proofs.Ytgbmhijgpdgdbaa
open Go.RowKit

theorem wordKeyed : Maps.Keyed Try.prog 25 := Maps.int_keyed Try.underlying25

/-- A key's value. -/
def wval (k : Int) : Value := .int .u32 k

structure WdOk (k : Int) : Prop where
  v0 : 0 ≤ k
  v1 : k < 4294967296

theorem wordKey : Try.prog.keyType 25 = true := by kernel_rfl

theorem keyOf_wval {k : Int} (h : WdOk k) : ∃ l, keyOf Try.prog 25 (wval k) = some l := by
  obtain ⟨m, hm⟩ := keySize
  have e0 : IntKind.u32.min = 0 := by decide
  have e1 : IntKind.u32.max = 4294967295 := by decide
  have wv : (Lit.int .u32 k).wf = true := by
    have := h.v0; have := h.v1
    simp only [Lit.wf, Bool.and_eq_true, decide_eq_true_eq]; omega
  unfold keyOf
  rw [Try.underlying25]
  simp [wval, mapKey, Try.underlying25, wv]

theorem wval_inj {a b : Int} (h : wval a = wval b) : a = b := by
  simpa [wval] using h

variable {α : Type}

/-- Block b is a map that holds M (what an element is as a value: f). -/
def MapU (f : α → Value) (w : World) (b : Nat) (M : Int → Option α) : Prop :=
  ∃ es clock, w.heap[b]? = some (.map es clock) ∧ es.toList.Pairwise (fun x y => x.key ≠ y.key) ∧
    (∀ e ∈ es.toList, ∃ k a, WdOk k ∧ e.key = wval k ∧ e.val = f a ∧ M k = some a) ∧ (∀ k a, WdOk k → M k = some a → ∃ e ∈ es.toList, e.key = wval k)

section
variable {f : α → Value} {w w' : World} {b : Nat} {M : Int → Option α}

theorem MapU.lt (h : MapU f w b M) : b < w.heap.size := by
  obtain ⟨es, clock, hb, _⟩ := h
  exact (Array.getElem?_eq_some_iff.1 hb).1
theorem MapU.keep (h : MapU f w b M) (hk : w'.heap[b]? = w.heap[b]?) : MapU f w' b M := by
  obtain ⟨es, clock, hb, r⟩ := h
  exact ⟨es, clock, hk.trans hb, r⟩
theorem MapU.below {B : Nat} (h : MapU f w b M) (hb : Below B w w') (hB : b < B) : MapU f w' b M := h.keep (hb.block b hB)
theorem MapU.alloc (h : MapU f w b M) (o : Obj) : MapU f (w.alloc o) b M := h.keep (Below.heap_alloc w o b h.lt)
theorem MapU.setCell (h : MapU f w b M) {p : Addr} (hp : b ≠ p.block) (u : Value) : MapU f (w.setCell p u) b M := h.keep (Below.heap_setCell w p u b hp)
theorem MapU.drew (h : MapU f w b M) : MapU f w.drew b M := h
theorem MapU.drewN (h : MapU f w b M) (n : Nat) : MapU f (w.drewN n) b M := h
theorem MapU.made (f : α → Value) (w : World) : MapU f (w.alloc (.map #[] 0)) w.heap.size (fun _ => none) :=
  ⟨#[], 0, (MapKept.heap_alloc w _).1, by simp, by simp, by simp⟩
theorem MapU.blk_ne {g : Nat} {t : TypeId} {cs : Array Value} (h : MapU f w b M) (hg : Blk w g t cs) : g ≠ b := by
  rintro rfl
  obtain ⟨es, clock, hb, _⟩ := h
  unfold Blk at hg
  rw [hg] at hb
  cases hb

theorem MapU.found (h : MapU f w b M) {k : Int} (hk : WdOk k) :
    ∃ es clock, w.heap[b]? = some (.map es clock) ∧
      (((Instr.findKey 25 (wval k) es.toList).run Try.prog w = .ok none w ∧ M k = none ∧ ∀ e ∈ es.toList, e.key ≠ wval k) ∨
        ∃ j e a, (Instr.findKey 25 (wval k) es.toList).run Try.prog w = .ok (some (j, f a)) w ∧ es.toList[j]? = some e ∧ e.key = wval k ∧ e.val = f a ∧ M k = some a) := by
  obtain ⟨es, clock, hb, hd, h1, h2⟩ := h
  obtain ⟨l, hl⟩ := keyOf_wval hk
  refine ⟨es, clock, hb, ?_⟩
  rcases wordKeyed.find w hl es.toList (fun e he => by
    obtain ⟨k', a, ok, ek, _⟩ := h1 e he
    rw [ek]; exact keyOf_wval ok) with ⟨hr, hn⟩ | ⟨j, e, hr, hj, he⟩
  · left
    refine ⟨hr, ?_, hn⟩
    rcases hM : M k with _ | a
    · rfl
    · obtain ⟨e, he, ek⟩ := h2 k a hk hM
      exact absurd ek (hn e he)
  · right
    obtain ⟨k', a, ok, ek, ev, hM⟩ := h1 e (List.mem_of_getElem? hj)
    have : k' = k := wval_inj (ek.symm.trans he)
    subst this
    exact ⟨j, e, a, by rw [hr, ev], hj, he, ev, hM⟩

theorem MapU.look (h : MapU f w b M) {k : Int} (hk : WdOk k) {t e : TypeId} (ht : Try.prog.underlying t = some (.map 25 e)) {z : Value} (hz : (zeroValue e).run Try.prog w = .ok z w) (ok : Bool) :
    (Instr.lookup t (.map (some b)) (wval k) ok).run Try.prog w = .ok (if ok then .tuple #[(M k).elim z f, .bool (M k).isSome] else (M k).elim z f) w := by
  obtain ⟨l, hl⟩ := keyOf_wval hk
  obtain ⟨es, clock, hb, ⟨hr, hM, _⟩ | ⟨j, e0, a, hr, _, _, _, hM⟩⟩ := h.found hk
  · simp [Instr.lookup, run_underlying ht, MapKept.run_getObj_map hb, wordKeyed.check w _ hl, hr, hz, hM, Result.andThen]
  · simp [Instr.lookup, run_underlying ht, MapKept.run_getObj_map hb, wordKeyed.check w _ hl, hr, hM, Result.andThen]

def updW (M : Int → Option α) (k : Int) (o : Option α) : Int → Option α := fun x => if x = k then o else M x

theorem updW_self (k : Int) (o : Option α) : updW M k o k = o := if_pos rfl
theorem updW_ne {k x : Int} (h : x ≠ k) (o : Option α) : updW M k o x = M x := if_neg h

open Go.ChangeMaps (setBlock heap_setBlock_same heap_setBlock_other modify_eq_set)

theorem MapU.put (h : MapU f w b M) {k : Int} (hk : WdOk k) {t e : TypeId} (ht : Try.prog.underlying t = some (.map 25 e)) (a : α) :
    ∃ w', (Instr.mapUpdate t (.map (some b)) (wval k) (f a)).run Try.prog w = .ok () w' ∧ MapU f w' b (updW M k (some a)) ∧ w.grownBy w' (some b) ∧ w'.heap.size = w.heap.size := by
  obtain ⟨l, hl⟩ := keyOf_wval hk
  have h0 := h
  obtain ⟨es, clock, hb, hd, h1, h2⟩ := h
  obtain ⟨es', clock', hb', hf⟩ := h0.found hk
  rw [hb] at hb'
  cases hb'
  have hg : ∀ o, w.grownBy (setBlock w b o) (some b) := fun o => ⟨rfl, rfl, rfl, by simp [setBlock], fun i _ hi => heap_setBlock_other hb _ (fun e => hi (by rw [e]))⟩
  rcases hf with ⟨hr, hM, hn⟩ | ⟨j, e0, a0, hr, hj, he, hv, hM⟩
  · refine ⟨setBlock w b (.map (es.push ⟨wval k, f a, clock⟩) (clock + 1)), ?_, ⟨_, _, heap_setBlock_same hb _, ?_, ?_, ?_⟩, hg _, by simp [setBlock]⟩
    · simp [Instr.mapUpdate, run_underlying ht, MapKept.run_getObj_map hb, wordKeyed.check w false hl, hr, MapKept.run_setObj_map _ hb, Result.andThen, setBlock]
    · rw [Array.toList_push, List.pairwise_append]
      exact ⟨hd, by simp, fun x hx y hy => by rw [List.mem_singleton.1 hy]; exact hn x hx⟩
    · intro e' he'
      rw [Array.toList_push, List.mem_append] at he'
      rcases he' with he' | he'
      · obtain ⟨k', a', ok, ek, ev, eM⟩ := h1 e' he'
        refine ⟨k', a', ok, ek, ev, ?_⟩
        rw [updW_ne (fun e => hn e' he' (by rw [ek, e]))]; exact eM
      · rw [List.mem_singleton.1 he']
        exact ⟨k, a, hk, rfl, rfl, updW_self _ _⟩
    · intro k' a' ok hM'
      by_cases e : k' = k
      · subst e
        exact ⟨_, by rw [Array.toList_push]; exact List.mem_append_right _ (List.mem_singleton.2 rfl), rfl⟩
      · rw [updW_ne e] at hM'
        obtain ⟨e', he', ek⟩ := h2 k' a' ok hM'
        exact ⟨e', by rw [Array.toList_push]; exact List.mem_append_left _ he', ek⟩
  · have hlist : (es.modify j (fun e' => { e' with key := wval k, val := f a })).toList = es.toList.set j { e0 with key := wval k, val := f a } := by rw [Array.toList_modify, modify_eq_set _ _ _ _ hj]
    have hjl : j < es.toList.length := (List.getElem?_eq_some_iff.1 hj).1
    have hj' : es[j]? = some e0 := by simpa using hj
    have other : ∀ (i : Nat) (x : MapEntry), es.toList[i]? = some x → i ≠ j → x.key ≠ wval k := by
      intro i x hi hne
      rw [← he]
      obtain ⟨hil, ei⟩ := List.getElem?_eq_some_iff.1 hi
      obtain ⟨_, ej⟩ := List.getElem?_eq_some_iff.1 hj
      rcases Nat.lt_or_gt_of_ne hne with hlt | hgt
      · have := List.pairwise_iff_getElem.1 hd i j hil hjl hlt
        rw [ei, ej] at this; exact this
      · have := List.pairwise_iff_getElem.1 hd j i hjl hil hgt
        rw [ei, ej] at this; exact this.symm
    have who : ∀ x ∈ es.toList.set j { e0 with key := wval k, val := f a }, x = { e0 with key := wval k, val := f a } ∨ (x ∈ es.toList ∧ x.key ≠ wval k) := by
      intro x hx
      obtain ⟨i, hi, ex⟩ := List.getElem_of_mem hx
      rw [List.getElem_set] at ex
      split at ex
      · exact Or.inl ex.symm
      · rename_i hne
        have hi' : i < es.toList.length := by simpa using hi
        exact Or.inr ⟨ex ▸ List.getElem_mem hi', other i x (by rw [List.getElem?_eq_getElem hi', ex]) (fun e => hne e.symm)⟩
    refine ⟨setBlock w b (.map (es.modify j (fun e' => { e' with key := wval k, val := f a })) clock), ?_, ⟨_, _, heap_setBlock_same hb _, ?_, ?_, ?_⟩, hg _, by simp [setBlock]⟩
    · simp [Instr.mapUpdate, run_underlying ht, MapKept.run_getObj_map hb, wordKeyed.check w false hl, hr, hj', he, wordKeyed.stays w hl, MapKept.run_setObj_map _ hb, Result.andThen, setBlock]
    · rw [hlist, List.pairwise_iff_getElem]
      intro p q hp hq hpq
      have hp' : p < es.toList.length := by simpa using hp
      have hq' : q < es.toList.length := by simpa using hq
      have hd' := List.pairwise_iff_getElem.1 hd p q hp' hq' hpq
      rw [List.getElem_set, List.getElem_set]
      by_cases ep : j = p
      · have eq : ¬ j = q := by omega
        rw [if_pos ep, if_neg eq]
        exact (other q _ (List.getElem?_eq_getElem hq') (fun e => eq e.symm)).symm
      · rw [if_neg ep]
        by_cases eq : j = q
        · rw [if_pos eq]
          exact other p _ (List.getElem?_eq_getElem hp') (fun e => ep e.symm)
        · rw [if_neg eq]; exact hd'
    · intro e' he'
      rw [hlist] at he'
      rcases who e' he' with rfl | ⟨hm, hne⟩
      · exact ⟨k, a, hk, rfl, rfl, updW_self _ _⟩
      · obtain ⟨k', a', ok, ek, ev, eM⟩ := h1 e' hm
        refine ⟨k', a', ok, ek, ev, ?_⟩
        rw [updW_ne (fun e => hne (by rw [ek, e]))]; exact eM
    · intro k' a' ok hM'
      rw [hlist]
      by_cases e : k' = k
      · subst e
        exact ⟨_, List.mem_iff_getElem?.2 ⟨j, by rw [List.getElem?_set_self hjl]⟩, rfl⟩
      · rw [updW_ne e] at hM'
        obtain ⟨e', he', ek⟩ := h2 k' a' ok hM'
        obtain ⟨i, hi⟩ := List.mem_iff_getElem?.1 he'
        have hne : i ≠ j := by
          rintro rfl
          rw [hj] at hi
          cases hi
          exact e (wval_inj (ek.symm.trans he))
        exact ⟨e', List.mem_iff_getElem?.2 ⟨i, by rw [List.getElem?_set_ne (fun e => hne e.symm)]; exact hi⟩, ek⟩
end
end Go.Proofs.Ytgbmhijgpdgdbaa
