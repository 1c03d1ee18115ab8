/- An adjacency as its block of memory has it; the leaves: none, State, Master, Opts, key. -/
import Derived.Test.YtgbmhijgpdgdbaaRows
import Derived.Test.YtgbmhijgpdgdbaaFaWords
import Derived.DeepKeys4
import Derived.Maps.Keyed
import Derived.WalkKit
import Derived.Test.YtgbmhijgpdgdbaaFaNewer
namespace Go.Proofs.Ytgbmhijgpdgdbaa
open Go.RowKit

theorem laidOut : laidOutB Try.prog = true := by kernel_rfl
theorem keyRow : (56 : TypeId) < Try.prog.types.size := of_decide_eq_true (by kernel_rfl)
theorem keyWide : (match Try.prog.underlying 56 with | some (.array _ _) | some (.struct _) => true | _ => false) = true := by rw [Try.underlying56]
theorem keyDeep : Try.prog.keyTypeAt 2 56 = true := by kernel_rfl
set_option maxRecDepth 100000 in
theorem keyKeyed : Maps.Keyed Try.prog 56 := Maps.Keyed.of_law (deep_law_laid laidOut (m := 2) (by omega) keyRow keyDeep keyWide)

/-- A key's value. -/
def kval (k : Od.Ky) : Value := .agg #[.int .u8 k.t, .int .u32 k.i, .int .u32 k.v]

structure KyOk (k : Od.Ky) : Prop where
  t0 : 0 ≤ k.t
  t1 : k.t < 256
  i0 : 0 ≤ k.i
  i1 : k.i < 4294967296
  v0 : 0 ≤ k.v
  v1 : k.v < 4294967296

theorem keySize : ∃ m, Try.prog.types.size = m + 1 := ⟨Try.prog.types.size - 1, by have : (56 : Nat) < Try.prog.types.size := keyRow; omega⟩
theorem keyCells : Try.prog.cellsOf 56 = 3 := by kernel_rfl
theorem keyType : Try.prog.keyType 56 = true := by kernel_rfl
theorem cellsU8 : Try.prog.cellsOf 5 = 1 := by kernel_rfl
theorem cellsU32 : Try.prog.cellsOf 25 = 1 := by kernel_rfl

theorem keyOf_kval {k : Od.Ky} (h : KyOk k) : ∃ l, keyOf Try.prog 56 (kval k) = some l := by
  obtain ⟨m, hm⟩ := keySize
  have wt : (Lit.int .u8 k.t).wf = true := by
    have := h.t0; have := h.t1
    have e0 : IntKind.u8.min = 0 := by decide
    have e1 : IntKind.u8.max = 255 := by decide
    simp only [Lit.wf, Bool.and_eq_true, decide_eq_true_eq]; omega
  have e0 : IntKind.u32.min = 0 := by decide
  have e1 : IntKind.u32.max = 4294967295 := by decide
  have wi : (Lit.int .u32 k.i).wf = true := by
    have := h.i0; have := h.i1
    simp only [Lit.wf, Bool.and_eq_true, decide_eq_true_eq]; omega
  have wv : (Lit.int .u32 k.v).wf = true := by
    have := h.v0; have := h.v1
    simp only [Lit.wf, Bool.and_eq_true, decide_eq_true_eq]; omega
  unfold keyOf
  rw [Try.underlying56]
  simp only [keyType, kval, Value.formed, Try.underlying56, keyCells, Bool.true_and]
  rw [if_pos (by rfl), hm]
  unfold Program.keyLits
  simp only [Try.underlying56, Value.cells]
  rw [if_pos ⟨by rw [keyCells]; rfl, by simp⟩]
  simp only [List.mapM_cons, List.mapM_nil, cellsU8, cellsU32, List.drop, List.take]
  simp [Program.keyLits, Try.underlying5, Try.underlying25, wt, wi, wv]

theorem kval_inj {a b : Od.Ky} (h : kval a = kval b) : a = b := by
  cases a; cases b; simp [kval] at h; simp [h]

variable {α : Type}

/-- Block b is a map that holds M (what an element is as a value: f). -/
def MapIs (f : α → Value) (w : World) (b : Nat) (M : Od.Ky → Option α) : Prop :=
  ∃ es clock, w.heap[b]? = some (.map es clock) ∧ es.toList.Pairwise (fun x y => x.key ≠ y.key) ∧
    (∀ e ∈ es.toList, ∃ k a, KyOk k ∧ e.key = kval k ∧ e.val = f a ∧ M k = some a) ∧ (∀ k a, KyOk k → M k = some a → ∃ e ∈ es.toList, e.key = kval k)

section
variable {f : α → Value} {w w' : World} {b : Nat} {M : Od.Ky → Option α}

theorem MapIs.lt (h : MapIs f w b M) : b < w.heap.size := by
  obtain ⟨es, clock, hb, _⟩ := h
  exact (Array.getElem?_eq_some_iff.1 hb).1
theorem MapIs.keep (h : MapIs f w b M) (hk : w'.heap[b]? = w.heap[b]?) : MapIs f w' b M := by
  obtain ⟨es, clock, hb, r⟩ := h
  exact ⟨es, clock, hk.trans hb, r⟩
theorem MapIs.below {B : Nat} (h : MapIs f w b M) (hb : Below B w w') (hB : b < B) : MapIs f w' b M := h.keep (hb.block b hB)
theorem MapIs.alloc (h : MapIs f w b M) (o : Obj) : MapIs f (w.alloc o) b M := h.keep (Below.heap_alloc w o b h.lt)
theorem MapIs.setCell (h : MapIs f w b M) {p : Addr} (hp : b ≠ p.block) (u : Value) : MapIs f (w.setCell p u) b M := h.keep (Below.heap_setCell w p u b hp)
theorem MapIs.drew (h : MapIs f w b M) : MapIs f w.drew b M := h
theorem MapIs.drewN (h : MapIs f w b M) (n : Nat) : MapIs f (w.drewN n) b M := h
theorem MapIs.made (f : α → Value) (w : World) : MapIs f (w.alloc (.map #[] 0)) w.heap.size (fun _ => none) :=
  ⟨#[], 0, (MapKept.heap_alloc w _).1, by simp, by simp, by simp⟩
theorem MapIs.blk_ne {g : Nat} {t : TypeId} {cs : Array Value} (h : MapIs f w b M) (hg : Blk w g t cs) : g ≠ b := by
  rintro rfl
  obtain ⟨es, clock, hb, _⟩ := h
  unfold Blk at hg
  rw [hg] at hb
  cases hb

theorem MapIs.found (h : MapIs f w b M) {k : Od.Ky} (hk : KyOk k) :
    ∃ es clock, w.heap[b]? = some (.map es clock) ∧
      (((Instr.findKey 56 (kval k) es.toList).run Try.prog w = .ok none w ∧ M k = none ∧ ∀ e ∈ es.toList, e.key ≠ kval k) ∨
        ∃ j e a, (Instr.findKey 56 (kval k) es.toList).run Try.prog w = .ok (some (j, f a)) w ∧ es.toList[j]? = some e ∧ e.key = kval k ∧ e.val = f a ∧ M k = some a) := by
  obtain ⟨es, clock, hb, hd, h1, h2⟩ := h
  obtain ⟨l, hl⟩ := keyOf_kval hk
  refine ⟨es, clock, hb, ?_⟩
  rcases keyKeyed.find w hl es.toList (fun e he => by
    obtain ⟨k', a, ok, ek, _⟩ := h1 e he
    rw [ek]; exact keyOf_kval ok) with ⟨hr, hn⟩ | ⟨j, e, hr, hj, he⟩
  · left
    refine ⟨hr, ?_, hn⟩
    rcases hM : M k with _ | a
    · rfl
    · obtain ⟨e, he, ek⟩ := h2 k a hk hM
      exact absurd ek (hn e he)
  · right
    obtain ⟨k', a, ok, ek, ev, hM⟩ := h1 e (List.mem_of_getElem? hj)
    have : k' = k := kval_inj (ek.symm.trans he)
    subst this
    exact ⟨j, e, a, by rw [hr, ev], hj, he, ev, hM⟩

theorem MapIs.look (h : MapIs f w b M) {k : Od.Ky} (hk : KyOk k) {t e : TypeId} (ht : Try.prog.underlying t = some (.map 56 e)) {z : Value} (hz : (zeroValue e).run Try.prog w = .ok z w) (ok : Bool) :
    (Instr.lookup t (.map (some b)) (kval k) ok).run Try.prog w = .ok (if ok then .tuple #[(M k).elim z f, .bool (M k).isSome] else (M k).elim z f) w := by
  obtain ⟨l, hl⟩ := keyOf_kval hk
  obtain ⟨es, clock, hb, ⟨hr, hM, _⟩ | ⟨j, e0, a, hr, _, _, _, hM⟩⟩ := h.found hk
  · simp [Instr.lookup, run_underlying ht, MapKept.run_getObj_map hb, keyKeyed.check w _ hl, hr, hz, hM, Result.andThen]
  · simp [Instr.lookup, run_underlying ht, MapKept.run_getObj_map hb, keyKeyed.check w _ hl, hr, hM, Result.andThen]

def upd (M : Od.Ky → Option α) (k : Od.Ky) (o : Option α) : Od.Ky → Option α := fun x => if x = k then o else M x

theorem upd_self (k : Od.Ky) (o : Option α) : upd M k o k = o := if_pos rfl
theorem upd_ne {k x : Od.Ky} (h : x ≠ k) (o : Option α) : upd M k o x = M x := if_neg h

open Go.ChangeMaps (setBlock heap_setBlock_same heap_setBlock_other modify_eq_set)

theorem MapIs.put (h : MapIs f w b M) {k : Od.Ky} (hk : KyOk k) {t e : TypeId} (ht : Try.prog.underlying t = some (.map 56 e)) (a : α) :
    ∃ w', (Instr.mapUpdate t (.map (some b)) (kval k) (f a)).run Try.prog w = .ok () w' ∧ MapIs f w' b (upd M k (some a)) ∧ w.grownBy w' (some b) ∧ w'.heap.size = w.heap.size := by
  obtain ⟨l, hl⟩ := keyOf_kval hk
  have h0 := h
  obtain ⟨es, clock, hb, hd, h1, h2⟩ := h
  obtain ⟨es', clock', hb', hf⟩ := h0.found hk
  rw [hb] at hb'
  cases hb'
  have hg : ∀ o, w.grownBy (setBlock w b o) (some b) := fun o => ⟨rfl, rfl, rfl, by simp [setBlock], fun i _ hi => heap_setBlock_other hb _ (fun e => hi (by rw [e]))⟩
  rcases hf with ⟨hr, hM, hn⟩ | ⟨j, e0, a0, hr, hj, he, hv, hM⟩
  · refine ⟨setBlock w b (.map (es.push ⟨kval k, f a, clock⟩) (clock + 1)), ?_, ⟨_, _, heap_setBlock_same hb _, ?_, ?_, ?_⟩, hg _, by simp [setBlock]⟩
    · simp [Instr.mapUpdate, run_underlying ht, MapKept.run_getObj_map hb, keyKeyed.check w false hl, hr, MapKept.run_setObj_map _ hb, Result.andThen, setBlock]
    · rw [Array.toList_push, List.pairwise_append]
      exact ⟨hd, by simp, fun x hx y hy => by rw [List.mem_singleton.1 hy]; exact hn x hx⟩
    · intro e' he'
      rw [Array.toList_push, List.mem_append] at he'
      rcases he' with he' | he'
      · obtain ⟨k', a', ok, ek, ev, eM⟩ := h1 e' he'
        refine ⟨k', a', ok, ek, ev, ?_⟩
        rw [upd_ne (fun e => hn e' he' (by rw [ek, e]))]; exact eM
      · rw [List.mem_singleton.1 he']
        exact ⟨k, a, hk, rfl, rfl, upd_self _ _⟩
    · intro k' a' ok hM'
      by_cases e : k' = k
      · subst e
        exact ⟨_, by rw [Array.toList_push]; exact List.mem_append_right _ (List.mem_singleton.2 rfl), rfl⟩
      · rw [upd_ne e] at hM'
        obtain ⟨e', he', ek⟩ := h2 k' a' ok hM'
        exact ⟨e', by rw [Array.toList_push]; exact List.mem_append_left _ he', ek⟩
  · have hlist : (es.modify j (fun e' => { e' with key := kval k, val := f a })).toList = es.toList.set j { e0 with key := kval k, val := f a } := by rw [Array.toList_modify, modify_eq_set _ _ _ _ hj]
    have hjl : j < es.toList.length := (List.getElem?_eq_some_iff.1 hj).1
    have hj' : es[j]? = some e0 := by simpa using hj
    have other : ∀ (i : Nat) (x : MapEntry), es.toList[i]? = some x → i ≠ j → x.key ≠ kval k := by
      intro i x hi hne
      rw [← he]
      obtain ⟨hil, ei⟩ := List.getElem?_eq_some_iff.1 hi
      obtain ⟨_, ej⟩ := List.getElem?_eq_some_iff.1 hj
      rcases Nat.lt_or_gt_of_ne hne with hlt | hgt
      · have := List.pairwise_iff_getElem.1 hd i j hil hjl hlt
        rw [ei, ej] at this; exact this
      · have := List.pairwise_iff_getElem.1 hd j i hjl hil hgt
        rw [ei, ej] at this; exact this.symm
    have who : ∀ x ∈ es.toList.set j { e0 with key := kval k, val := f a }, x = { e0 with key := kval k, val := f a } ∨ (x ∈ es.toList ∧ x.key ≠ kval k) := by
      intro x hx
      obtain ⟨i, hi, ex⟩ := List.getElem_of_mem hx
      rw [List.getElem_set] at ex
      split at ex
      · exact Or.inl ex.symm
      · rename_i hne
        have hi' : i < es.toList.length := by simpa using hi
        exact Or.inr ⟨ex ▸ List.getElem_mem hi', other i x (by rw [List.getElem?_eq_getElem hi', ex]) (fun e => hne e.symm)⟩
    refine ⟨setBlock w b (.map (es.modify j (fun e' => { e' with key := kval k, val := f a })) clock), ?_, ⟨_, _, heap_setBlock_same hb _, ?_, ?_, ?_⟩, hg _, by simp [setBlock]⟩
    · simp [Instr.mapUpdate, run_underlying ht, MapKept.run_getObj_map hb, keyKeyed.check w false hl, hr, hj', he, keyKeyed.stays w hl, MapKept.run_setObj_map _ hb, Result.andThen, setBlock]
    · rw [hlist, List.pairwise_iff_getElem]
      intro p q hp hq hpq
      have hp' : p < es.toList.length := by simpa using hp
      have hq' : q < es.toList.length := by simpa using hq
      have hd' := List.pairwise_iff_getElem.1 hd p q hp' hq' hpq
      rw [List.getElem_set, List.getElem_set]
      by_cases ep : j = p
      · have eq : ¬ j = q := by omega
        rw [if_pos ep, if_neg eq]
        exact (other q _ (List.getElem?_eq_getElem hq') (fun e => eq e.symm)).symm
      · rw [if_neg ep]
        by_cases eq : j = q
        · rw [if_pos eq]
          exact other p _ (List.getElem?_eq_getElem hp') (fun e => ep e.symm)
        · rw [if_neg eq]; exact hd'
    · intro e' he'
      rw [hlist] at he'
      rcases who e' he' with rfl | ⟨hm, hne⟩
      · exact ⟨k, a, hk, rfl, rfl, upd_self _ _⟩
      · obtain ⟨k', a', ok, ek, ev, eM⟩ := h1 e' hm
        refine ⟨k', a', ok, ek, ev, ?_⟩
        rw [upd_ne (fun e => hne (by rw [ek, e]))]; exact eM
    · intro k' a' ok hM'
      rw [hlist]
      by_cases e : k' = k
      · subst e
        exact ⟨_, List.mem_iff_getElem?.2 ⟨j, by rw [List.getElem?_set_self hjl]⟩, rfl⟩
      · rw [upd_ne e] at hM'
        obtain ⟨e', he', ek⟩ := h2 k' a' ok hM'
        obtain ⟨i, hi⟩ := List.mem_iff_getElem?.1 he'
        have hne : i ≠ j := by
          rintro rfl
          rw [hj] at hi
          cases hi
          exact e (kval_inj (ek.symm.trans he))
        exact ⟨e', List.mem_iff_getElem?.2 ⟨i, by rw [List.getElem?_set_ne (fun e => hne e.symm)]; exact hi⟩, ek⟩

theorem MapIs.drop (h : MapIs f w b M) {k : Od.Ky} (hk : KyOk k) {t e ty : TypeId} (ht : Try.prog.underlying t = some (.map 56 e)) :
    ∃ w', (Builtin.delete_ #[t, 56] ty #[.map (some b), kval k]).run Try.prog w = .ok (.tuple #[]) w' ∧ MapIs f w' b (upd M k none) ∧ w.grownBy w' (some b) ∧ w'.heap.size = w.heap.size := by
  obtain ⟨l, hl⟩ := keyOf_kval hk
  have h0 := h
  obtain ⟨es, clock, hb, hd, h1, h2⟩ := h
  obtain ⟨es', clock', hb', hf⟩ := h0.found hk
  rw [hb] at hb'
  cases hb'
  have hg : ∀ o, w.grownBy (setBlock w b o) (some b) := fun o => ⟨rfl, rfl, rfl, by simp [setBlock], fun i _ hi => heap_setBlock_other hb _ (fun e => hi (by rw [e]))⟩
  rcases hf with ⟨hr, hM, hn⟩ | ⟨j, e0, a0, hr, hj, he, hv, hM⟩
  · refine ⟨setBlock w b (.map es clock), ?_, ⟨_, _, heap_setBlock_same hb _, hd, ?_, ?_⟩, hg _, by simp [setBlock]⟩
    · simp [Builtin.delete_, run_underlying ht, MapKept.run_getObj_map hb, keyKeyed.check w _ hl, hr, MapKept.run_setObj_map _ hb, Result.andThen, setBlock]
    · intro e' he'
      obtain ⟨k', a', ok, ek, ev, eM⟩ := h1 e' he'
      refine ⟨k', a', ok, ek, ev, ?_⟩
      rw [upd_ne (fun e => hn e' he' (by rw [ek, e]))]; exact eM
    · intro k' a' ok hM'
      by_cases e : k' = k
      · subst e; rw [upd_self] at hM'; cases hM'
      · rw [upd_ne e] at hM'; exact h2 k' a' ok hM'
  · have hjl : j < es.toList.length := (List.getElem?_eq_some_iff.1 hj).1
    have hsub : (es.eraseIdxIfInBounds j).toList = es.toList.eraseIdx j := by
      unfold Array.eraseIdxIfInBounds
      rw [dif_pos (by simpa using hjl)]
      simp
    have other : ∀ (i : Nat) (x : MapEntry), es.toList[i]? = some x → i ≠ j → x.key ≠ kval k := by
      intro i x hi hne
      rw [← he]
      obtain ⟨hil, ei⟩ := List.getElem?_eq_some_iff.1 hi
      obtain ⟨_, ej⟩ := List.getElem?_eq_some_iff.1 hj
      rcases Nat.lt_or_gt_of_ne hne with hlt | hgt
      · have := List.pairwise_iff_getElem.1 hd i j hil hjl hlt
        rw [ei, ej] at this; exact this
      · have := List.pairwise_iff_getElem.1 hd j i hjl hil hgt
        rw [ei, ej] at this; exact this.symm
    refine ⟨setBlock w b (.map (es.eraseIdxIfInBounds j) clock), ?_, ⟨_, _, heap_setBlock_same hb _, ?_, ?_, ?_⟩, hg _, by simp [setBlock]⟩
    · simp [Builtin.delete_, run_underlying ht, MapKept.run_getObj_map hb, keyKeyed.check w _ hl, hr, MapKept.run_setObj_map _ hb, Result.andThen, setBlock]
    · rw [hsub]
      exact hd.sublist (List.eraseIdx_sublist _ _)
    · intro e' he'
      rw [hsub] at he'
      obtain ⟨i, hne, hi⟩ := List.mem_eraseIdx_iff_getElem?.1 he'
      obtain ⟨k', a', ok, ek, ev, eM⟩ := h1 e' (List.mem_of_getElem? hi)
      refine ⟨k', a', ok, ek, ev, ?_⟩
      rw [upd_ne (fun e => other i e' hi hne (by rw [ek, e]))]; exact eM
    · intro k' a' ok hM'
      by_cases e : k' = k
      · subst e; rw [upd_self] at hM'; cases hM'
      · rw [upd_ne e] at hM'
        obtain ⟨e', he', ek⟩ := h2 k' a' ok hM'
        obtain ⟨i, hi⟩ := List.mem_iff_getElem?.1 he'
        have hne : i ≠ j := by
          rintro rfl
          rw [hj] at hi
          cases hi
          exact e (kval_inj (ek.symm.trans he))
        exact ⟨e', by rw [hsub]; exact List.mem_eraseIdx_iff_getElem?.2 ⟨i, hne, hi⟩, ek⟩
end
end Go.Proofs.Ytgbmhijgpdgdbaa

namespace Go.Proofs.Ytgbmhijgpdgdbaa
open Go.RowKit

/-- The block of an adjacency, number by number; a slice and the map as their values. -/
structure Adj where
  made : Bool
  self : Int
  other : Int
  mtu : Int
  opts : Int
  rxmt : Int
  seq0 : Int
  types : Int
  state : Int
  seq : Int
  master : Bool
  left : Value
  smtu : Int
  sopts : Int
  sflags : Int
  sseq : Int
  sheads : Value
  taken : Bool
  lflags : Int
  lopts : Int
  lseq : Int
  order : Value
  wants : Value
  asks : Value
  timer : Int

def Adj.cells (a : Adj) : Array Value := #[.bool a.made, .int .u32 a.self, .int .u32 a.other, .int .u16 a.mtu, .int .u8 a.opts, .int .u16 a.rxmt, .int .u32 a.seq0, .int .u16 a.types,
  .int .u8 a.state, .int .u32 a.seq, .bool a.master, a.left, .int .u16 a.smtu, .int .u8 a.sopts, .int .u8 a.sflags, .int .u32 a.sseq, a.sheads, .bool a.taken,
  .int .u8 a.lflags, .int .u8 a.lopts, .int .u32 a.lseq, a.order, a.wants, a.asks, .int .u32 a.timer]

abbrev AdjAt (w : World) (B : Nat) (a : Adj) : Prop := Blk w B 66 a.cells

/-- No adjacency: a nil pointer, or a block that New did not make. -/
def NoAdj (w : World) (v : Value) : Prop := v = .pointer none ∨ ∃ B a, v = .pointer (some ⟨B, 0, none⟩) ∧ AdjAt w B a ∧ a.made = false

set_option maxHeartbeats 400000 in
theorem none_any (w : World) (B : Nat) (a : Adj) (h : AdjAt w B a) : Calls Try.prog 50 #[.pointer (some ⟨B, 0, none⟩)] w fun e w' => e = .returned (.bool (!a.made)) ∧ w = w' := by
  have c0 : w.cell? ⟨B, 0, none⟩ = some (.bool a.made) := h.cell 0
  go_enter Try.func50, Try.ntmps50
  go_wp2
  go_ret
  exact ⟨rfl, rfl⟩

set_option maxHeartbeats 400000 in
theorem none_no (w : World) (v : Value) (h : NoAdj w v) : Calls Try.prog 50 #[v] w fun e w' => e = .returned (.bool true) ∧ w = w' := by
  rcases h with rfl | ⟨B, a, rfl, h, hm⟩
  · go_enter Try.func50, Try.ntmps50
    go_wp2
    go_ret
    exact ⟨rfl, rfl⟩
  · refine (none_any w B a h).mono ?_
    rintro e w' ⟨rfl, rfl⟩
    exact ⟨by rw [hm]; rfl, rfl⟩
theorem none_yes (w : World) (B : Nat) (a : Adj) (h : AdjAt w B a) (hm : a.made = true) : Calls Try.prog 50 #[.pointer (some ⟨B, 0, none⟩)] w fun e w' => e = .returned (.bool false) ∧ w = w' := by
  refine (none_any w B a h).mono ?_
  rintro e w' ⟨rfl, rfl⟩
  exact ⟨by rw [hm]; rfl, rfl⟩

theorem NoAdj.alloc {w : World} {v : Value} (h : NoAdj w v) (o : Obj) : NoAdj (w.alloc o) v := by
  rcases h with rfl | ⟨B, a, rfl, h, hm⟩
  · exact Or.inl rfl
  · exact Or.inr ⟨B, a, rfl, Blk.alloc h o, hm⟩
theorem NoAdj.below {w w' : World} {v : Value} {B : Nat} (h : NoAdj w v) (hb : Below B w w') (hB : ∀ b, v = .pointer (some ⟨b, 0, none⟩) → b < B) : NoAdj w' v := by
  rcases h with rfl | ⟨b, a, rfl, h, hm⟩
  · exact Or.inl rfl
  · exact Or.inr ⟨b, a, rfl, Blk.below h hb (hB b rfl), hm⟩

set_option maxHeartbeats 400000 in
theorem state_no (w : World) (v : Value) (h : NoAdj w v) : Calls Try.prog 16 #[v] w fun e w' => e = .returned (.int .u8 0) ∧ w = w' := by
  go_enter Try.func16, Try.ntmps16
  go_wp2_with (go_at_call 50; refine (none_no _ _ h).mono ?_; rintro e w' ⟨rfl, rfl⟩)
  go_ret
  exact ⟨rfl, rfl⟩

set_option maxHeartbeats 400000 in
theorem master_no (w : World) (v : Value) (h : NoAdj w v) : Calls Try.prog 20 #[v] w fun e w' => e = .returned (.bool false) ∧ w = w' := by
  go_enter Try.func20, Try.ntmps20
  go_wp2_with (go_at_call 50; refine (none_no _ _ h).mono ?_; rintro e w' ⟨rfl, rfl⟩)
  go_ret
  exact ⟨rfl, rfl⟩

set_option maxHeartbeats 400000 in
theorem opts_no (w : World) (v : Value) (h : NoAdj w v) : Calls Try.prog 28 #[v] w fun e w' => e = .returned (.int .u8 0) ∧ w = w' := by
  go_enter Try.func28, Try.ntmps28
  go_wp2_with (go_at_call 50; refine (none_no _ _ h).mono ?_; rintro e w' ⟨rfl, rfl⟩)
  go_ret
  exact ⟨rfl, rfl⟩

set_option maxHeartbeats 400000 in
theorem wants_no (w : World) (v : Value) (h : NoAdj w v) : Calls Try.prog 27 #[v] w fun e w' => e = .returned (.slice none 0 0) ∧ w = w' := by
  go_enter Try.func27, Try.ntmps27
  go_wp2_with (go_at_call 50; refine (none_no _ _ h).mono ?_; rintro e w' ⟨rfl, rfl⟩)
  go_ret
  exact ⟨rfl, rfl⟩

set_option maxHeartbeats 400000 in
theorem anew_no (w : World) (v : Value) (h : NoAdj w v) : Calls Try.prog 26 #[v] w fun e w' => e = .returned (.slice none 0 0) ∧ w = w' := by
  go_enter Try.func26, Try.ntmps26
  go_wp2_with (go_at_call 50; refine (none_no _ _ h).mono ?_; rintro e w' ⟨rfl, rfl⟩)
  go_ret
  exact ⟨rfl, rfl⟩

set_option maxHeartbeats 400000 in
theorem tick_no (w : World) (v : Value) (h : NoAdj w v) : Calls Try.prog 19 #[v] w fun e w' => e = .returned (.slice none 0 0) ∧ w = w' := by
  go_enter Try.func19, Try.ntmps19
  go_wp2_with (go_at_call 50; refine (none_no _ _ h).mono ?_; rintro e w' ⟨rfl, rfl⟩)
  go_ret
  exact ⟨rfl, rfl⟩

set_option maxHeartbeats 400000 in
theorem got_no (w : World) (v : Value) (cs : Array Value) (h : NoAdj w v) : Calls Try.prog 25 #[v, .agg cs] w fun e w' => e = .returned (.slice none 0 0) ∧ Below w.heap.size w w' := by
  go_enter Try.func25, Try.ntmps25
  go_wp2_with (go_at_call 50; refine (none_no _ _ (NoAdj.alloc h _)).mono ?_; rintro e w' ⟨rfl, rfl⟩)
  go_ret
  exact ⟨rfl, (Below.refl _ _).alloc (Nat.le_refl _) _⟩

set_option maxHeartbeats 400000 in
theorem describe_no (w : World) (v : Value) (cs : Array Value) (own : Value) (h : NoAdj w v) : Calls Try.prog 14 #[v, .agg cs, own] w fun e w' => e = .returned (.tuple #[.slice none 0 0, .int .i64 1]) ∧ Below w.heap.size w w' := by
  go_enter Try.func14, Try.ntmps14
  go_wp2_with (go_at_call 50; refine (none_no _ _ (NoAdj.alloc h _)).mono ?_; rintro e w' ⟨rfl, rfl⟩)
  refine bodyPost_ret (v := .tuple #[.slice none 0 0, .int .i64 1]) (by simp [results, Try.results14, go_sem]) rfl ⟨rfl, (Below.refl _ _).alloc (Nat.le_refl _) _⟩

set_option maxHeartbeats 400000 in
theorem asked_no (w : World) (v : Value) (ks own : Value) (h : NoAdj w v) : Calls Try.prog 24 #[v, ks, own] w fun e w' => e = .returned (.tuple #[.slice none 0 0, .slice none 0 0, .int .i64 1]) ∧ w = w' := by
  go_enter Try.func24, Try.ntmps24
  go_wp2_with (go_at_call 50; refine (none_no _ _ h).mono ?_; rintro e w' ⟨rfl, rfl⟩)
  refine bodyPost_ret (v := .tuple #[.slice none 0 0, .slice none 0 0, .int .i64 1]) (by simp [results, Try.results24, go_sem]) rfl ⟨rfl, rfl⟩

def keyOfHd (h : Od.Hd) : Od.Ky := ⟨h.t, h.i, h.v⟩
/-- A head's value. -/
def hdval (h : Od.Hd) : Value := .agg #[.int .u16 h.g, .int .u8 h.o, .int .u8 h.t, .int .u32 h.i, .int .u32 h.v, .int .i32 h.s, .int .u16 h.m, .int .u16 h.l]

set_option maxHeartbeats 400000 in
theorem key_any (w : World) (h : Od.Hd) : Calls Try.prog 59 #[hdval h] w fun e w' => e = .returned (kval (keyOfHd h)) ∧ Below w.heap.size w w' := by
  unfold hdval
  go_enter Try.func59, Try.ntmps59
  go_wp2
  refine bodyPost_ret (v := kval (keyOfHd h)) (by simp [results, Try.results59, go_sem, kval, keyOfHd]) rfl ⟨rfl, ((Below.refl _ _).alloc (Nat.le_refl _) _).alloc (by simp) _⟩
end Go.Proofs.Ytgbmhijgpdgdbaa
