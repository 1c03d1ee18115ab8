/- The program's Once: what a list of voices designates. -/
import Derived.Test.YtepliggmcpkmdaaAhead
namespace Go.Proofs.Ytepliggmcpkmdaa
open Go.RowKit

theorem Reads.onto {w w1 : World} {A : Option Addr} {n size : Nat} {xs : List Value} (h : Reads w w.heap.size size A n xs) (hb : Below w.heap.size w w1) : Reads w1 w1.heap.size size A n xs :=
  (h.below hb).more hb.size

/-- The answer of 'ahead', its voice written out. -/
def Ahead (c : El.V → Bool) (vs : List El.V) (w : World) (e : Ending) (w' : World) : Prop :=
  ∃ (x : El.V) (s : Bool), Hid (x = bestOf c vs ∧ s = (El.best (may c) vs).isSome) ∧ e = .returned (.tuple #[.agg #[.int .u32 x.r, .int .u32 x.a, .int .u8 x.p, .int .u32 x.d, .int .u32 x.b], .bool s]) ∧ Below w.heap.size w w'
theorem Ahead.mk {c : El.V → Bool} {vs : List El.V} {w w' : World} {e : Ending} (h : e = .returned (.tuple #[.agg (cells (bestOf c vs)).toArray, .bool (El.best (may c) vs).isSome]) ∧ Below w.heap.size w w') : Ahead c vs w e w' :=
  ⟨_, _, ⟨rfl, rfl⟩, h.1, h.2⟩

theorem sec_of {vs : List El.V} : El.second vs = if (El.best (may (fun v => !El.chief v && El.backup v)) vs).isSome then (bestOf (fun v => !El.chief v && El.backup v) vs).a else (bestOf (fun v => !El.chief v) vs).a := by
  have ha : ∀ o : Option El.V, El.addr o = (o.getD El.V.zero).a := fun o => by cases o <;> rfl
  unfold El.second
  rw [ha, ha]; rfl
theorem once_of {vs : List El.V} : El.once vs = if (El.best (may El.chief) vs).isSome then ((bestOf El.chief vs).a, El.second vs) else (El.second vs, El.second vs) := by
  have ha : ∀ o : Option El.V, El.addr o = (o.getD El.V.zero).a := fun o => by cases o <;> rfl
  unfold El.once
  rw [ha]; rfl

theorem ret_two {a b c d : Int} (h : (a, b) = (c, d)) : Ending.returned (.tuple #[.int .u32 a, .int .u32 b]) = .returned (.tuple #[.int .u32 c, .int .u32 d]) := by
  injection h with h1 h2; rw [h1, h2]

set_option maxHeartbeats 1000000 in
theorem once_any (A : Option Addr) (n cp : Nat) (vs : List El.V) (w : World) (hlen : vs.length = n) (hn : n ≤ 65536) (hr : Reads w w.heap.size 5 A n (vs.flatMap cells)) :
    Calls Try.prog 10 #[.slice A n cp] w fun e w' => e = .returned (.tuple #[.int .u32 (El.once vs).1, .int .u32 (El.once vs).2]) ∧ Below w.heap.size w w' := by
  have Hlen := Lib.hid hlen
  clear hlen
  go_enter Try.func10, Try.ntmps10
  go_wp2_with fail
  refine (ahead_backup _ _ _ vs _ Hlen.out hn hr).mono ?_
  intro e w1 h
  obtain ⟨⟨rB, aB, pB, dB, bB⟩, sB, HB, rfl, hb1⟩ := Ahead.mk h
  clear h
  obtain ⟨hc1, hf1⟩ := bcell hb1
  have hz1 := hb1.size
  have hr1 := hr.onto hb1
  cases sB
  · -- no backup that may be: the best of the rest
    go_wp2_with fail
    have hbA := hb1.alloc hb1.size (Obj.cells #[.int .u32 rB, .int .u32 aB, .int .u8 pB, .int .u32 dB, .int .u32 bB] 35)
    refine (ahead_rest _ _ _ vs _ Hlen.out hn ((hr.below hbA).more hbA.size)).mono ?_
    intro e w2 h
    obtain ⟨⟨rR, aR, pR, dR, bR⟩, sR, HR, rfl, hb2⟩ := Ahead.mk h
    clear h
    have hS := (Blk.new w1 35 #[.int .u32 rB, .int .u32 aB, .int .u8 pB, .int .u32 dB, .int .u32 bB]).below hb2 (by simp)
    have hz2 := hS.lt
    have hbB := hbA.trans (hb2.mono hbA.size)
    have e0 := hS.cell 0
    have e1 := hS.cell 1
    have e2 := hS.cell 2
    have e3 := hS.cell 3
    have e4 := hS.cell 4
    have ef := hS.frozen
    simp at e0 e1 e2 e3 e4
    go_wp2_with fail
    have hbC := below5 hbB (g' := w1.heap.size) (by omega) (.int .u32 rR) (.int .u32 aR) (.int .u8 pR) (.int .u32 dR) (.int .u32 bR)
    refine (ahead_chief _ _ _ vs _ Hlen.out hn ((hr.below hbC).more hbC.size)).mono ?_
    intro e w3 h
    obtain ⟨⟨rC, aC, pC, dC, bC⟩, sC, HC, rfl, hb3⟩ := Ahead.mk h
    clear h
    have hbD := hbC.trans (hb3.mono hbC.size)
    have hz3 := hb3.size
    simp at hz3
    have hsec : El.second vs = aR := by
      rw [sec_of, ← HB.out.2, ← HR.out.1]; rfl
    have Hsec := Lib.hid hsec
    clear hsec
    cases sC
    · go_wp2_with fail
      go_ret2
      exact ⟨ret_two (by rw [once_of, ← HC.out.2, Hsec.out]; rfl), hbD.alloc hbD.size _⟩
    · go_wp2_with fail
      go_ret2
      exact ⟨ret_two (by rw [once_of, ← HC.out.2, ← HC.out.1, Hsec.out]; rfl), hbD.alloc hbD.size _⟩
  · -- the best of those that name themselves backup
    go_wp2_with fail
    have hbA := hb1.alloc hb1.size (Obj.cells #[.int .u32 rB, .int .u32 aB, .int .u8 pB, .int .u32 dB, .int .u32 bB] 35)
    refine (ahead_chief _ _ _ vs _ Hlen.out hn ((hr.below hbA).more hbA.size)).mono ?_
    intro e w3 h
    obtain ⟨⟨rC, aC, pC, dC, bC⟩, sC, HC, rfl, hb3⟩ := Ahead.mk h
    clear h
    have hbD := hbA.trans (hb3.mono hbA.size)
    have hz3 := hb3.size
    simp at hz3
    have hsec : El.second vs = aB := by
      rw [sec_of, ← HB.out.2, ← HB.out.1]; rfl
    have Hsec := Lib.hid hsec
    clear hsec
    cases sC
    · go_wp2_with fail
      go_ret2
      exact ⟨ret_two (by rw [once_of, ← HC.out.2, Hsec.out]; rfl), hbD.alloc hbD.size _⟩
    · go_wp2_with fail
      go_ret2
      exact ⟨ret_two (by rw [once_of, ← HC.out.2, ← HC.out.1, Hsec.out]; rfl), hbD.alloc hbD.size _⟩

end Go.Proofs.Ytepliggmcpkmdaa
