/- The same for a region that does not draw its order: its operations read what was there, its callees write only what is new: walked once, the world known by its class alone. -/
import Derived.Below
import Derived.Deep.Quiet
import Derived.Deep.QuietTactic
import Derived.BigQuiet
namespace Go.Proofs.Ytgbmhijgpdgdbaa
open Go.RowKit

/-- A world later than w, as it was below block number B. -/
structure Later (B : Nat) (w : World) where
  to : World
  ok : Below B w to

instance laterNonempty (B : Nat) (w : World) : Nonempty (Later B w) := ⟨⟨w, Below.refl _ _⟩⟩

theorem wp_region_later {P : Program} {B : Nat} {w0 : World} {id : Nat} {Q : Exit → Act → World → Prop} {a : Act} {w : World} {l : List Oper} (hm : P.follows .mixedOrders = true) (hB : Region.lexB .any l.toArray = true) (h0 : Below B w0 w)
    (h : wpQuiet P l.toArray (fun w' => ∃ u : Later B w0, w' = u.to) (fun a' => ∀ w', (∃ u : Later B w0, w' = u.to) → Q .normal a' w') l a) : (Code.region id l.toArray true).wp P Q a w :=
  wp_region_quiet (C := fun w' => ∃ u : Later B w0, w' = u.to) hm hB ⟨⟨w.drew, h0.drew⟩, rfl⟩ (by simpa using h)

theorem later_call {P : Program} {B : Nat} {w0 : World} {f : FuncId} {args : Array Value} {v : Value} (u : Later B w0) (hB : B ≤ w0.heap.size)
    (h : Calls P f args u.to fun e w' => e = .returned v ∧ Below u.to.heap.size u.to w') : Calls P f args u.to fun e w'' => e = .returned v ∧ ∃ u' : Later B w0, w'' = u'.to :=
  h.mono fun _ w'' ⟨he, hb⟩ => ⟨he, ⟨w'', u.ok.trans (hb.mono (Nat.le_trans hB u.ok.size))⟩, rfl⟩

theorem later_cell {B : Nat} {w0 : World} {p : Addr} {v : Value} (hp : p.block < B) (h : w0.cell? p = some v) : ∀ u : Later B w0, u.to.cell? p = some v := fun u => (u.ok.cell hp).trans h

end Go.Proofs.Ytgbmhijgpdgdbaa

namespace Go.Proofs.Ytgbmhijgpdgdbaa
open Go.RowKit

theorem wpOps_of_quiet {P : Program} {ops : Array Oper} {C : World → Prop} {Q' : Act → Prop} {Q : Exit → Act → World → Prop} (hQ : ∀ a w, C w → Q' a → Q .normal a w) :
    ∀ (l : List Oper) (k : Nat) (_ : ∀ j, l[j]? = ops[k + j]?) (a : Act) (w : World), C w → wpQuiet P ops C Q' l a → wpOps P ops Q (List.range' k l.length) a w
  | [], _, _, a, w, hw, h => hQ a w hw h
  | o :: l, k, hl, a, w, hw, h => by
    have h0 : ops[k]? = some o := by simpa using (hl 0).symm
    have ih := wpOps_of_quiet (P := P) (ops := ops) hQ l (k + 1) (fun j => by have := hl (j + 1); simpa [Nat.add_assoc, Nat.add_comm 1 j] using this)
    rw [List.length_cons, List.range'_succ]
    unfold wpOps
    simp only [h0]
    unfold wpQuiet at h
    split
    · rename_i hwant
      rw [if_pos hwant] at h
      exact .inl (Oper.wp_of_quiet hw (fun a' w' hw' hk => ih a' w' hw' hk) h)
    · rename_i hwant
      rw [if_neg hwant] at h
      exact ih _ _ hw h

theorem wp_region_later_plain {P : Program} {B : Nat} {w0 : World} {id : Nat} {Q : Exit → Act → World → Prop} {a : Act} {w : World} {l : List Oper} (h0 : Below B w0 w)
    (h : wpQuiet P l.toArray (fun w' => ∃ u : Later B w0, w' = u.to) (fun a' => ∀ w', (∃ u : Later B w0, w' = u.to) → Q .normal a' w') l a) : (Code.region id l.toArray false).wp P Q a w := by
  refine wp_region ?_
  have := wpOps_of_quiet (P := P) (ops := l.toArray) (C := fun w' => ∃ u : Later B w0, w' = u.to) (Q := Q) (Q' := fun a' => ∀ w', (∃ u : Later B w0, w' = u.to) → Q .normal a' w') (fun a' w' hw' hh => hh w' hw') l 0 (fun j => by simp) a w ⟨⟨w, h0⟩, rfl⟩ h
  rw [List.range_eq_range']
  simpa using this

end Go.Proofs.Ytgbmhijgpdgdbaa
