/- A range over a function that gives nothing; the iterator over no neighbour. -/
import Derived.RangeFuncNested
import Derived.RangeFuncBound
import Derived.RangeFuncCalls
import Derived.RangeFuncLeaves
import Derived.RangeFuncFrom
import Derived.RangeFuncOne
import Derived.Shelf.Abstract
import Derived.Test.YtgbmhijgpdgdbaaAll13
namespace Go.Proofs.Ytgbmhijgpdgdbaa
open Go.RowKit

/-- **A range over an iterator that gives nothing: what lay lies as it lay.** -/
theorem wp_rangeFunc_none {P : Program} {g : Operand} {ps : Array Tmp} {assign body : Code} {Q : Exit → Act → World → Prop} {ts : Array Value} {ds : List Deferred} {w : World} {gf : Nat} {lb : Array Value}
    (hg : ({ tmps := ts, defers := ds } : Act).eval g = .func (.func gf) #[] lb) (eg : ∀ args w, (callFunc gf args).run P w = .ok (.enter gf args) w)
    (hc : ∀ l W, Below w.heap.size w W → Calls P gf (#[.func (.yield l) #[] #[]] ++ lb) W fun e W' => (∃ v, e = .returned v) ∧ W = W')
    (hdone : ∀ D W, w.heap.size ≤ D → Below w.heap.size w W → W.heap[D]? = some (.deferred (some [])) → Q .normal { tmps := ts, defers := { target := .collected D, args := #[] } :: ds } W) :
    (Code.rangeFunc g ps assign body).wp P Q { tmps := ts, defers := ds } w := by
  rw [← wpIn_wide (n := 3)]
  refine wpIn_rangeFunc_ownF (α := Empty) (F := Fence.wide) (n := 3) rfl (by omega) hg trivial eg (encs := nofun) (Kp := Below w.heap.size) (S := fun _ => True) (Sp := fun _ => False) (N := 0) (w0 := w)
    (fun l J Jx W hW hJ hJx hY h0 => callsIn_wide.2 ((hc l W hW).mono fun e W' h => ⟨h.1, Or.inl ⟨[], trivial, h.2 ▸ h0⟩⟩))
    belowK_t (fun W l o o' hl h h1 h2 => belowK_b (Nat.le_refl _) W l o o' hl h h1 h2) (Below.refl _ _) nofun (fun _ W => Below w.heap.size w W) (fun _ _ _ => False)
    (ownFrom_below (Nat.le_refl _) (Nat.le_refl _)) (fun _ _ _ _ _ hs _ _ => hs) (Below.refl _ _) nofun nofun (fun _ _ x => nomatch x) ?_ (fun _ _ _ _ _ h _ _ => h.elim)
  exact fun D xs W hD _ hB hK => hdone D W hD hB hK

theorem lt_of_cell {w : World} {p : Addr} {v : Value} (h : w.cell? p = some v) : p.block < w.heap.size := by
  rcases Nat.lt_or_ge p.block w.heap.size with hlt | hge
  · exact hlt
  · have hn : w.heap[p.block]? = none := Array.getElem?_eq_none hge
    simp [World.cell?, hn] at h

set_option maxHeartbeats 400000 in
/-- The iterator over no neighbour gives nothing. -/
theorem all_nil (W : World) (Bl Bi B l : Nat) (h1 : W.cell? ⟨Bl, 0, none⟩ = some (.pointer (some ⟨B, 0, none⟩))) (h2 : W.cell? ⟨B, 22, none⟩ = some (.slice none 0 0)) :
    Calls Try.prog 124 #[.func (.yield l) #[] #[], .pointer (some ⟨Bl, 0, none⟩), .pointer (some ⟨Bi, 0, none⟩)] W fun e W' => (∃ v, e = .returned v) ∧ W = W' := by
  go_enter Try.func124, Try.ntmps124
  go_wp2_with fail
  refine wp_loop_rounds 1 ?_
  rw [rounds_succ]
  go_wp2_with fail
  refine bodyPost_end (v := .tuple #[]) (by simp [results, Try.results124, go_sem]) rfl ⟨⟨_, rfl⟩, rfl⟩
theorem enters_all1 : ∀ args w, (callFunc 124 args).run Try.prog w = .ok (.enter 124 args) w := enters_of Try.func124 (by kernel_rfl) rfl
end Go.Proofs.Ytgbmhijgpdgdbaa
