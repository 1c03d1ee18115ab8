/- A region that draws its order, whose operations read what was there and whose callees write only what is new: walked once, in the order of the text ('Derived.Deep.Quiet' at the class 'a later world, below block B as it was'). -/
import Derived.Below
import Derived.Deep.Quiet
import Derived.Deep.QuietTactic
import Derived.BigQuiet
namespace Go.Proofs.Ytgbmhijgpdgdbaa
open Go.RowKit

/-- A world later than w, as it was below block number B. -/
structure Later (B : Nat) (w : World) where
  to : World
  ok : Below B w to

instance laterNonempty (B : Nat) (w : World) : Nonempty (Later B w) := ⟨⟨w, Below.refl _ _⟩⟩

theorem wp_region_later {P : Program} {B : Nat} {w0 : World} {id : Nat} {Q : Exit → Act → World → Prop} {a : Act} {w : World} {l : List Oper} (hm : P.follows .mixedOrders = true) (hB : Region.lexB .any l.toArray = true) (h0 : Below B w0 w)
    (h : wpQuiet P l.toArray (fun w' => ∃ u : Later B w0, w' = u.to) (fun a' => ∀ w', (∃ u : Later B w0, w' = u.to) → Q .normal a' w') l a) : (Code.region id l.toArray true).wp P Q a w :=
  wp_region_quiet (C := fun w' => ∃ u : Later B w0, w' = u.to) hm hB ⟨⟨w.drew, h0.drew⟩, rfl⟩ (by simpa using h)

theorem later_call {P : Program} {B : Nat} {w0 : World} {f : FuncId} {args : Array Value} {v : Value} (u : Later B w0) (hB : B ≤ w0.heap.size)
    (h : Calls P f args u.to fun e w' => e = .returned v ∧ Below u.to.heap.size u.to w') : Calls P f args u.to fun e w'' => e = .returned v ∧ ∃ u' : Later B w0, w'' = u'.to :=
  h.mono fun _ w'' ⟨he, hb⟩ => ⟨he, ⟨w'', u.ok.trans (hb.mono (Nat.le_trans hB u.ok.size))⟩, rfl⟩

theorem later_cell {B : Nat} {w0 : World} {p : Addr} {v : Value} (hp : p.block < B) (h : w0.cell? p = some v) : ∀ u : Later B w0, u.to.cell? p = some v := fun u => (u.ok.cell hp).trans h

end Go.Proofs.Ytgbmhijgpdgdbaa
