/- A slice of heads in rows of heads: cut, kept. -/
import Derived.Test.YtgbmhijgpdgdbaaFirst
namespace Go.Proofs.Ytgbmhijgpdgdbaa
open Go.RowKit

theorem cells_ne {w : World} {g g' : Nat} {cs cs' : Array Value} {t t' : TypeId} {fr : Nat × Nat} (h : w.heap[g]? = some (.cells cs t fr)) (h' : Blk w g' t' cs') (hne : t ≠ t') : g ≠ g' := by
  rintro rfl
  unfold Blk at h'
  rw [h] at h'
  injection h' with h'
  injection h' with _ ht
  exact hne ht

/-- A slice that reads as heads, in blocks of heads. -/
def HeadsIn (w : World) (v : Value) (l : List Od.Hd) : Prop :=
  HeadsAt w w.heap.size v l ∧ ∀ g, v.ownBlock = some g → ∃ cs fr, w.heap[g]? = some (.cells cs 59 fr)

/-- No block of F is one of heads. -/
def NoHeads (w : World) (F : Nat → Prop) : Prop := ∀ k cs fr, F k → w.heap[k]? ≠ some (.cells cs 59 fr)

theorem NoHeads.blk {w : World} {B : Nat} {t : TypeId} {cs : Array Value} (h : Blk w B t cs) (ht : 59 ≠ t) : NoHeads w (fun k => k = B) := by
  rintro k cs' fr rfl he
  exact cells_ne he h ht rfl

theorem HeadsIn.frame {w w' : World} {F : Nat → Prop} {v : Value} {l : List Od.Hd} (h : HeadsIn w v l) (hf : Frame F w w') (hn : NoHeads w F) : HeadsIn w' v l := by
  obtain ⟨h1, h2⟩ := h
  refine ⟨hf.heads h1 (fun g hg hF => ?_), fun g hg => ?_⟩
  · obtain ⟨cs, fr, e⟩ := h2 g hg
    exact hn g cs fr hF e
  · obtain ⟨cs, fr, e⟩ := h2 g hg
    exact ⟨cs, fr, (hf.block g (Array.getElem?_eq_some_iff.1 e).1 (fun hF => hn g cs fr hF e)).trans e⟩
theorem HeadsIn.below {w w' : World} {v : Value} {l : List Od.Hd} (h : HeadsIn w v l) (hb : Below w.heap.size w w') : HeadsIn w' v l :=
  h.frame (Frame.of_below (S := fun _ => False) hb) (fun _ _ _ hF => hF.elim)
theorem HeadsIn.nil (w : World) : HeadsIn w (.slice none 0 0) [] := ⟨headsNil _ _, by simp [Value.ownBlock]⟩
theorem HeadsIn.own {w : World} {base n : Nat} {v : Value} {l : List Od.Hd} (h : w.ownsRow base 59 8 v n (l.flatMap hcells)) (hn : l.length = n) : HeadsIn w v l := by
  refine ⟨?_, fun g hg => ?_⟩
  · rcases h.2 with ⟨rfl, rfl⟩ | ⟨g, cap, cur, rfl, h1, h2, h3, h4⟩
    · exact ⟨none, 0, 0, rfl, Nat.le_refl _, hn, Reads.of_own h⟩
    · exact ⟨_, n, cap, rfl, h3, hn, Reads.of_own h⟩
  · rcases h.2 with ⟨rfl, rfl⟩ | ⟨g', cap, cur, rfl, h1, h2, h3, h4⟩
    · simp [Value.ownBlock] at hg
    · have : g' = g := by simpa [Value.ownBlock] using hg
      subst this
      exact ⟨_, _, h2⟩

theorem flat_take (l : List Od.Hd) (k : Nat) : (l.take k).flatMap hcells = (l.flatMap hcells).take (k * 8) := by
  induction l generalizing k with
  | nil => simp
  | cons h t ih =>
    cases k with
    | zero => simp
    | succ k =>
      simp only [List.take_succ_cons, List.flatMap_cons, ih]
      rw [show (k + 1) * 8 = (hcells h).length + k * 8 from by simp [hcells]; omega, List.take_length_add_append]
theorem flat_drop (l : List Od.Hd) (k : Nat) : (l.drop k).flatMap hcells = (l.flatMap hcells).drop (k * 8) := by
  induction l generalizing k with
  | nil => simp
  | cons h t ih =>
    cases k with
    | zero => simp
    | succ k =>
      simp only [List.drop_succ_cons, List.flatMap_cons, ih]
      rw [show (k + 1) * 8 = (hcells h).length + k * 8 from by simp [hcells]; omega, List.drop_length_add_append]

theorem HeadsIn.take {w : World} {A : Option Addr} {n c : Nat} {l : List Od.Hd} (h : HeadsIn w (.slice A n c) l) {k : Nat} (hk : k ≤ n) : HeadsIn w (.slice A k k) (l.take k) := by
  obtain ⟨⟨A', n', c', e, h1, h2, h3⟩, h4⟩ := h
  injection e with e1 e2 e3
  subst e1 e2 e3
  refine ⟨⟨A, k, k, rfl, Nat.le_refl _, by rw [List.length_take]; omega, ?_⟩, fun g hg => h4 g (by cases A <;> simp_all [Value.ownBlock])⟩
  rw [flat_take]
  refine ⟨by rw [List.length_take, h3.1]; exact Nat.min_eq_left (Nat.mul_le_mul_right _ hk), fun hk0 => ?_⟩
  obtain ⟨ad, ea, hb, hc⟩ := h3.2 (by omega)
  exact ⟨ad, ea, hb, fun j u hu => hc j u (by rw [List.getElem?_take] at hu; split at hu; exact hu; cases hu)⟩

theorem HeadsIn.drop {w : World} {A : Option Addr} {n c : Nat} {l : List Od.Hd} (h : HeadsIn w (.slice A n c) l) {k : Nat} (hk : k ≤ n) : HeadsIn w (.slice (if c = k then A else A.map (·.add (k * 8))) (n - k) (c - k)) (l.drop k) := by
  obtain ⟨⟨A', n', c', e, h1, h2, h3⟩, h4⟩ := h
  injection e with e1 e2 e3
  subst e1 e2 e3
  refine ⟨⟨_, _, _, rfl, by omega, by rw [List.length_drop]; omega, ?_⟩, fun g hg => h4 g ?_⟩
  · rw [flat_drop]; exact h3.cut hk h1
  · cases A with
    | none => simp at hg; simp [Value.ownBlock] at hg
    | some ad => split at hg <;> simpa [Value.ownBlock, block_of_add] using hg
end Go.Proofs.Ytgbmhijgpdgdbaa
