/- A round of a link with peers none of whom is heard. -/
import Derived.Test.YtgbmhijgpdgdbaaLpMxX
import Derived.RangeFuncBox
import Derived.RangeFuncLeaves
import Derived.RangeFuncFrom
import Derived.RangeFuncNested
import Derived.RangeFuncBound
import Derived.RangeFuncCalls
import Derived.Shelf.Abstract
import Derived.Shelf.RegionOpen
import Derived.WalkKit
import Derived.OwnWalkIn
import Derived.TacticsInMore
import Derived.LoopNIn
import Derived.LoopIn
import Derived.Test.YtgbmhijgpdgdbaaLpMapU
import Derived.Test.YtgbmhijgpdgdbaaLpTail
set_option maxHeartbeats 4000000
set_option maxRecDepth 20000
namespace Go.Proofs.Ytgbmhijgpdgdbaa
open Go.RowKit
def dueV (c : LC) (st dr bd : Int) (pb : Bool) (ks ka kp : Int) : Bool :=
  if pb != (ks == 0) then false else if c.ty == 2 then true else if pb then decide (0 < c.pr) && decide (0 < kp) else if c.pr == 0 then ka == dr || ka == bd else decide (0 < kp) || decide (5 ≤ st)
theorem due_any (w : World) (B K : Nat) (c : LC) (st dr bd wt nx po re : Int) (l : Value) (pb : Bool) (ks ka kp : Int) (k : Blk w B 119 (lks c st dr bd wt nx po re l)) (k1 : w.cell? ⟨K, 1, none⟩ = some (.int .u32 ka)) (k2 : w.cell? ⟨K, 2, none⟩ = some (.int .u8 ks)) (k3 : w.cell? ⟨K, 3, none⟩ = some (.int .u8 kp)) :
    Calls Try.prog 104 #[.pointer (some ⟨B, 0, none⟩), .pointer (some ⟨K, 0, none⟩), .bool pb] w fun e w' => e = .returned (.bool (dueV c st dr bd pb ks ka kp)) ∧ ∃ q, w' = w.drewN q := by
  have c1 : w.cell? ⟨B, 1, none⟩ = some (.int .u8 c.ty) := k.cell 1
  have c10 : w.cell? ⟨B, 10, none⟩ = some (.int .u8 c.pr) := k.cell 10
  have c15 : w.cell? ⟨B, 15, none⟩ = some (.int .u8 st) := k.cell 15
  have c16 : w.cell? ⟨B, 16, none⟩ = some (.int .u32 dr) := k.cell 16
  have c17 : w.cell? ⟨B, 17, none⟩ = some (.int .u32 bd) := k.cell 17
  clear k
  rcases Bool.eq_false_or_eq_true (ks == 0) with s1 | s1 <;> rcases Bool.eq_false_or_eq_true pb with rfl | rfl
  all_goals (try (
    go_enter Try.func104, Try.ntmps104
    go_wp2_with fail
    go_ret
    refine ⟨?_, 0, rfl⟩
    simp [dueV, s1]
    done))
  all_goals (rcases Bool.eq_false_or_eq_true (c.ty == 2) with s2 | s2)
  all_goals (try (
    go_enter Try.func104, Try.ntmps104
    go_wp2_with fail
    go_ret
    refine ⟨?_, 0, rfl⟩
    simp [dueV, s1, s2]
    done))
  · by_cases s3 : 0 < c.pr
    · go_enter Try.func104, Try.ntmps104
      go_wp2_with fail
      go_ret
      refine ⟨?_, 0, rfl⟩
      simp [dueV, s1, s2]
      try omega
    · go_enter Try.func104, Try.ntmps104
      go_wp2_with fail
      go_ret
      refine ⟨?_, 0, rfl⟩
      simp [dueV, s1, s2]
      omega
  · rcases Bool.eq_false_or_eq_true (c.pr == 0) with s3 | s3
    · rcases Bool.eq_false_or_eq_true (ka == dr) with s4 | s4
      all_goals
        go_enter Try.func104, Try.ntmps104
        go_wp2_with fail
        go_quiet (fail)
        go_wp2_with fail
        go_ret
        refine ⟨?_, _, rfl⟩
        simp [dueV, s1, s2, s3, s4]
    · by_cases s4 : 0 < kp
      · go_enter Try.func104, Try.ntmps104
        go_wp2_with fail
        go_ret
        refine ⟨?_, 0, rfl⟩
        simp [dueV, s1, s2, s3, s4]
      · go_enter Try.func104, Try.ntmps104
        go_wp2_with fail
        go_ret
        refine ⟨?_, 0, rfl⟩
        simp [dueV, s1, s2, s3]
        omega
theorem round1_any (w : World) (B K Bl Bp : Nat) (c : LC) (st dr bd wt nx po re : Int) (l : Value) (pb : Bool) (ks ka kp : Int) (k : Blk w B 119 (lks c st dr bd wt nx po re l)) (k1 : w.cell? ⟨K, 1, none⟩ = some (.int .u32 ka)) (k2 : w.cell? ⟨K, 2, none⟩ = some (.int .u8 ks)) (k3 : w.cell? ⟨K, 3, none⟩ = some (.int .u8 kp))
    (h1 : w.cell? ⟨Bl, 0, none⟩ = some (.pointer (some ⟨B, 0, none⟩))) (h2 : w.cell? ⟨Bp, 0, none⟩ = some (.bool pb)) :
    Calls Try.prog 103 #[.pointer (some ⟨K, 0, none⟩), .pointer (some ⟨Bl, 0, none⟩), .pointer (some ⟨Bp, 0, none⟩)] w fun e w' => e = .returned (.bool (dueV c st dr bd pb ks ka kp)) ∧ ∃ q, w' = w.drewN q := by
  have KB := Lib.hid k
  clear k
  go_enter Try.func103, Try.ntmps103
  go_wp2_with fail
  refine (due_any _ B K c st dr bd wt nx po re l pb ks ka kp KB.out k1 k2 k3).mono ?_
  rintro e w' ⟨rfl, q, rfl⟩
  go_wp2_with fail
  go_ret
  refine ⟨?_, q, rfl⟩
  cases dueV c st dr bd pb ks ka kp <;> simp
end Go.Proofs.Ytgbmhijgpdgdbaa
namespace Go.Proofs.Ytgbmhijgpdgdbaa
open Go.RowKit Go.Shelf
attribute [local go_sem] Oper.semAt_some
theorem grownBy_drewN (w : World) (q : Nat) : w.grownBy (w.drewN q) none := ⟨rfl, rfl, rfl, Nat.le_refl _, fun _ _ _ => rfl⟩
end Go.Proofs.Ytgbmhijgpdgdbaa
namespace Go.Proofs.Ytgbmhijgpdgdbaa
open Go.RowKit Go.Shelf
def SeqI {α : Type} (n : Nat) (P : Program) (g : Nat) (lb : Array Value) (encs : α → Array Value) (I : List α → World → Prop) (T : List α → α → Prop) (S Sp : List α → Prop) (w0 : World) : Prop :=
  ∀ (l : Nat) (J Jx : List α → World → Prop) (W : World), Below w0.heap.size w0 W → (∀ pre W, J pre W → I pre W) → AbidesFrom W.heap.size J → AbidesFrom W.heap.size Jx →
    (∀ pre x W1, J pre W1 → T pre x → YieldAt Fence.wide (n - 1) P l (encs x) W1 fun e W' =>
      (e = .returned (.bool true) ∧ J (pre ++ [x]) W') ∨ (e = .returned (.bool false) ∧ Jx (pre ++ [x]) W')) →
    J [] W →
    CallsIn Fence.wide n P g (#[.func (.yield l) #[] #[]] ++ lb) W fun e W' => (∃ v, e = .returned v) ∧ ((∃ xs, S xs ∧ J xs W') ∨ (∃ pre, Sp pre ∧ Jx pre W'))
def roundI {α : Type} (I Ix : List α → World → Prop) (xs : List α) (W : World) : Exit → Act → World → Prop
  | .normal, _, W' => KeepsOthers W W' ∧ I xs W'
  | .ret, _, W' => KeepsOthers W W' ∧ Ix xs W'
  | _, _, _ => False
theorem wpIn_rangeFunc_I {α : Type} {n : Nat} {P : Program} {g : Operand} {ps : Array Tmp} {assign body : Code} {Q : Exit → Act → World → Prop} {a : Act} {w : World}
    (h1 : 1 ≤ n) {gf : Nat} {lb : Array Value} (hg : a.eval g = .func (.func gf) #[] lb) (hFg : Fence.wide.fn gf) (eg : ∀ args w, (callFunc gf args).run P w = .ok (.enter gf args) w)
    {encs : α → Array Value} {I Ix : List α → World → Prop} {T : List α → α → Prop} {S Sp : List α → Prop} (hseq : SeqI (n - 1) P gf lb encs I T S Sp w) (hps : ∀ x, (encs x).size = ps.size)
    (hI : OwnFrom w.heap.size I) (hIx : OwnFrom w.heap.size Ix) (h0 : I [] w) (a₁ : α → Act)
    (hassign : ∀ (l : Nat) (x : α) (W : World) (K : Act → World → Prop), K (a₁ x) W →
      assign.wpIn (Fence.wide.inRound l) (n - 1 - 1) P (Exit.then K (fun _ _ _ => False)) { tmps := (ps.zip (encs x)).foldl (fun t (p, v) => t.setIfInBounds p v) a.tmps, defers := [] } W)
    (hbody : ∀ (l : Nat) (pre : List α) (x : α) (W : World), I pre W → T pre x → body.wpIn (Fence.wide.inRound l) (n - 1 - 1) P (roundI I Ix (pre ++ [x]) W) (a₁ x) W)
    (hdone : ∀ (D : Nat) (xs : List α) (W : World), w.heap.size ≤ D → S xs → I xs W → W.heap[D]? = some (.deferred (some [])) → Q .normal { a with defers := { target := .collected D, args := #[] } :: a.defers } W)
    (hstop : ∀ (D : Nat) (pre : List α) (W : World), w.heap.size ≤ D → Sp pre → Ix pre W → W.heap[D]? = some (.deferred (some [])) → Code.ret.wpIn Fence.wide n P Q { a with defers := { target := .collected D, args := #[] } :: a.defers } W) :
    (Code.rangeFunc g ps assign body).wpIn Fence.wide n P Q a w := by
  refine wpIn_rangeFunc (F := Fence.wide) fun fn hfn => ?_
  obtain ⟨N, hN⟩ : ∃ N, N = w.heap.size := ⟨_, rfl⟩
  obtain ⟨rec, hrec⟩ : ∃ rec : LoopState → Option Code → Loop, rec = fun st pe => { state := st, pending := pe, fn, tmps := a.tmps, params := ps, assign, body, defers := w.heap.size } := ⟨_, rfl⟩
  obtain ⟨W1, hW1⟩ : ∃ W1, W1 = (w.alloc (.deferred (some []))).alloc (.loop (rec .ready none)) := ⟨_, rfl⟩
  have sW1 : W1.heap.size = N + 1 + 1 := by rw [hW1, hN]; simp
  have hD1 : W1.heap[N]? = some (.deferred (some [])) := by
    rw [hW1, hN]; exact (Below.heap_alloc _ _ _ (by simp)).trans (World.alloc_heap_new w _)
  have hL1 : W1.heap[N + 1]? = some (.loop (rec .ready none)) := by
    have h := World.alloc_heap_new (w.alloc (.deferred (some []))) (.loop (rec .ready none))
    rw [World.size_alloc] at h
    rw [hW1, hN]; exact h
  have hb1 : Below w.heap.size w W1 := by rw [hW1]; exact ((Below.refl _ w).alloc (Nat.le_refl _) _).alloc (by simp) _
  have hI1 : I [] W1 := by rw [hW1]; exact hI.alloc _ (hI.alloc _ h0)
  refine ⟨w.heap.size + 1, [{ target := .collected w.heap.size, args := #[] }], W1, { target := .fn (.func gf) lb, args := #[.func (.yield (w.heap.size + 1)) #[] #[]] }, W1, gf,
    #[.func (.yield (w.heap.size + 1)) #[] #[]] ++ lb, W1, ?_, ?_, ?_, ?_, fun _ => h1, ?_⟩
  · rw [hW1, hrec]
    exact run_enterLoop_outer _ _ _ _ _
  · simp only [resolve, hg]
    simp [go_sem]
  · intro f hf
    simp [Target.leads] at hf
    subst hf
    exact hFg
  · simp [invoke, go_sem, eg]
  rw [← hN]
  have lift : ∀ {A B : World} {row : Option Nat}, (∀ r, row = some r → W1.heap.size ≤ r ∧ ∃ o : Obj, A.heap[r]? = some o ∧ o.isWalk = true) → (∀ r, row = some r → w.heap.size ≤ r ∧ ∃ o : Obj, A.heap[r]? = some o ∧ o.isCells = false) := by
    intro A B row h r e
    obtain ⟨k1, o, k2, k3⟩ := h r e
    exact ⟨by omega, o, k2, Obj.not_cells_of_walk k3⟩
  have stay : ∀ {A B : World} {row : Option Nat} {i : Nat} {o : Obj}, i < W1.heap.size → A.grownBy B row → (∀ r, row = some r → W1.heap.size ≤ r ∧ ∃ o : Obj, A.heap[r]? = some o ∧ o.isWalk = true) → A.heap[i]? = some o → B.heap[i]? = some o := by
    intro A B row i o hi hg hr ho
    exact (hg.block i (Array.getElem?_eq_some_iff.1 ho).1 (fun e => by have := (hr i e.symm).1; omega)).trans ho
  obtain ⟨J, hJ⟩ : ∃ J : List α → World → Prop, J = fun pre W => I pre W ∧ W.heap[N + 1]? = some (.loop (rec .ready none)) ∧ W.heap[N]? = some (.deferred (some [])) := ⟨_, rfl⟩
  obtain ⟨Jx, hJx⟩ : ∃ J : List α → World → Prop, J = fun pre W => Ix pre W ∧ W.heap[N + 1]? = some (.loop (rec .done (some .ret))) ∧ W.heap[N]? = some (.deferred (some [])) := ⟨_, rfl⟩
  have one : ∀ pre x W, J pre W → T pre x → YieldAt Fence.wide (n - 1 - 1) P (N + 1) (encs x) W fun e W' =>
      (e = .returned (.bool true) ∧ J (pre ++ [x]) W') ∨ (e = .returned (.bool false) ∧ Jx (pre ++ [x]) W') := by
    intro pre x W h hT
    rw [hJ] at h
    obtain ⟨hi, hl, hk⟩ := h
    have hlt : N + 1 < W.heap.size := (Array.getElem?_eq_some_iff.1 hl).1
    have hy := run_yield (P := P) (args := encs x) hl (by rw [hrec]; exact hps x)
    rw [hrec] at hy
    refine ⟨fn, _, assign, body, hy, roundIn_of_wpIn hfn (hassign _ x W _ ⟨_, run_beginRound hl (by rw [hrec]), ?_⟩)⟩
    obtain ⟨W2, hW2⟩ : ∃ W2, W2 = W.putObj (N + 1) (.loop { rec .ready none with state := .busy }) := ⟨_, rfl⟩
    have hl2 : W2.heap[N + 1]? = some (.loop { rec .ready none with state := .busy }) := by rw [hW2]; exact World.putObj_heap_same hlt
    have hk2 : W2.heap[N]? = some (.deferred (some [])) := by rw [hW2]; exact (World.putObj_heap_other (by omega)).trans hk
    have hi2 : I pre W2 := by rw [hW2]; exact hI.putObj _ hi (by omega) hl rfl
    rw [← hW2]
    refine wpIn_mono (hbody _ pre x W2 hi2 hT) ?_
    have ends : ∀ (jump : Option Code) (W3 : World), KeepsOthers W2 W3 → ∃ W4, W4 = W3.putObj (N + 1) (.loop (rec (if jump.isNone then .ready else .done) jump)) ∧ (Instr.endRound (N + 1) jump).run P W3 = .ok (.bool jump.isNone) W4 ∧
        W4.heap[N + 1]? = some (.loop (rec (if jump.isNone then .ready else .done) jump)) ∧ W4.heap[N]? = some (.deferred (some [])) ∧ W3.heap[N + 1]? = some (.loop { rec .ready none with state := .busy }) := by
      intro jump W3 hkeep
      have h3 := hkeep.same _ _ hl2 rfl
      have hr := run_endRound (P := P) jump h3
      refine ⟨_, rfl, ?_, World.putObj_heap_same (Array.getElem?_eq_some_iff.1 h3).1, (World.putObj_heap_other (by omega)).trans (hkeep.same _ _ hk2 rfl), h3⟩
      rw [hrec] at hr ⊢
      exact hr
    rintro e a3 W3 hp
    cases e with
    | normal =>
      obtain ⟨hkeep, hi3⟩ := hp
      obtain ⟨W4, e4, hr, hl4, hk4, hl3⟩ := ends none W3 hkeep
      exact ⟨_, _, hr, .inl ⟨rfl, by rw [hJ]; exact ⟨by rw [e4]; exact hI.putObj _ hi3 (by omega) hl3 rfl, hl4, hk4⟩⟩⟩
    | ret =>
      obtain ⟨hkeep, hi3⟩ := hp
      obtain ⟨W4, e4, hr, hl4, hk4, hl3⟩ := ends (some .ret) W3 hkeep
      exact ⟨_, _, hr, .inr ⟨rfl, by rw [hJx]; exact ⟨by rw [e4]; exact hIx.putObj _ hi3 (by omega) hl3 rfl, hl4, hk4⟩⟩⟩
    | exit id => exact hp.elim
    | goto t => exact hp.elim
    | panic ch => exact hp.elim
    | outgrown => exact hp.elim
  refine (hseq (N + 1) J Jx W1 hb1 (fun pre W h => by rw [hJ] at h; exact h.1) ?_ ?_ one (by rw [hJ]; exact ⟨hI1, hL1, hD1⟩)).mono ?_
  · intro s A B row hs hg hr
    rw [hJ] at hs ⊢
    exact ⟨hI s A B row hs.1 hg (lift (B := B) hr), stay (by omega) hg hr hs.2.1, stay (by omega) hg hr hs.2.2⟩
  · intro s A B row hs hg hr
    rw [hJx] at hs ⊢
    exact ⟨hIx s A B row hs.1 hg (lift (B := B) hr), stay (by omega) hg hr hs.2.1, stay (by omega) hg hr hs.2.2⟩
  · subst hN
    rintro e W2 ⟨⟨v, rfl⟩, h⟩
    rcases h with ⟨xs, hS, h⟩ | ⟨pre, hSp, h⟩
    · rw [hJ] at h
      obtain ⟨hi, hl, hk⟩ := h
      have hr := run_endLoop (P := P) hl (by rw [hrec]; simp)
      exact ⟨none, _, by rw [hrec] at hr; exact hr, hdone _ xs _ (Nat.le_refl _) hS (hI.putObj _ hi (by omega) hl rfl) ((World.putObj_heap_other (by omega)).trans hk)⟩
    · rw [hJx] at h
      obtain ⟨hi, hl, hk⟩ := h
      have hr := run_endLoop (P := P) hl (by rw [hrec]; simp)
      exact ⟨some .ret, _, by rw [hrec] at hr; exact hr, hstop _ pre _ (Nat.le_refl _) hSp (hIx.putObj _ hi (by omega) hl rfl) ((World.putObj_heap_other (by omega)).trans hk)⟩
end Go.Proofs.Ytgbmhijgpdgdbaa
namespace Go.Proofs.Ytgbmhijgpdgdbaa
open Go.RowKit
structure Frame (S : Nat → Prop) (w w' : World) : Prop where
  os : w'.os = w.os
  tape : w'.tape = w.tape
  output : w'.output = w.output
  size : w.heap.size ≤ w'.heap.size
  block : ∀ k, k < w.heap.size → ¬ S k → w'.heap[k]? = w.heap[k]?
section
variable {S T : Nat → Prop} {w w' w'' : World}
theorem Frame.refl (S : Nat → Prop) (w : World) : Frame S w w := ⟨rfl, rfl, rfl, Nat.le_refl _, fun _ _ _ => rfl⟩
theorem Frame.trans (h : Frame S w w') (k : Frame S w' w'') : Frame S w w'' :=
  ⟨k.os.trans h.os, k.tape.trans h.tape, k.output.trans h.output, Nat.le_trans h.size k.size, fun i hi hS => (k.block i (by have := h.size; omega) hS).trans (h.block i hi hS)⟩
theorem Frame.trans' (h : Frame S w w') (k : Frame T w' w'') (hT : ∀ i, i < w.heap.size → T i → S i) : Frame S w w'' :=
  ⟨k.os.trans h.os, k.tape.trans h.tape, k.output.trans h.output, Nat.le_trans h.size k.size, fun i hi hS => (k.block i (by have := h.size; omega) (fun e => hS (hT i hi e))).trans (h.block i hi hS)⟩
theorem Frame.mono (h : Frame S w w') (hS : ∀ i, S i → T i) : Frame T w w' := ⟨h.os, h.tape, h.output, h.size, fun i hi hT => h.block i hi (fun e => hT (hS i e))⟩
theorem Frame.of_below (h : Below w.heap.size w w') : Frame S w w' := ⟨h.os, h.tape, h.output, h.size, fun i hi _ => h.block i hi⟩
theorem Frame.of_grown {row : Option Nat} (h : w.grownBy w' row) (hr : ∀ k, row = some k → k < w.heap.size → S k) : Frame S w w' :=
  ⟨h.os, h.tape, h.output, h.size, fun i hi hS => h.block i hi (fun e => hS (hr i e.symm hi))⟩
theorem Frame.setCell (h : Frame S w w') {p : Addr} (hp : p.block < w.heap.size → S p.block) (u : Value) : Frame S w (w'.setCell p u) :=
  ⟨h.os, h.tape, h.output, by have := h.size; simpa [World.setCell] using this, fun i hi hS => (Below.heap_setCell w' p u i (fun e => hS (by subst e; exact hp hi))).trans (h.block i hi hS)⟩
theorem Frame.alloc (h : Frame S w w') (o : Obj) : Frame S w (w'.alloc o) := h.trans' (Frame.of_below (S := S) ((Below.refl _ w').alloc (Nat.le_refl _) o)) fun _ _ e => e
theorem Frame.drew (h : Frame S w w') : Frame S w w'.drew := ⟨h.os, h.tape, h.output, h.size, h.block⟩
theorem Frame.drewN (h : Frame S w w') (n : Nat) : Frame S w (w'.drewN n) := ⟨h.os, h.tape, h.output, h.size, h.block⟩
theorem Frame.blk {g : Nat} {t : TypeId} {cs : Array Value} (h : Frame S w w') (hb : Blk w g t cs) (hS : ¬ S g) : Blk w' g t cs := (h.block g hb.lt hS).trans hb
theorem Frame.own {base : Nat} {e : TypeId} {size n : Nat} {v : Value} {xs : List Value} (h : Frame S w w') (hr : w.ownsRow base e size v n xs) (hS : ∀ g, v.ownBlock = some g → ¬ S g) : w'.ownsRow base e size v n xs := by
  obtain ⟨h1, h2⟩ := hr
  refine ⟨h1, ?_⟩
  rcases h2 with h2 | ⟨g, cap, cur, rfl, hg, hh, r⟩
  · exact .inl h2
  · exact .inr ⟨g, cap, cur, rfl, hg, (h.block g (Array.getElem?_eq_some_iff.1 hh).1 (hS g rfl)).trans hh, r⟩
end
theorem Frame.setB {B : Nat} {w w' : World} (h : Frame (fun k => k = B) w w') (i : Nat) (u : Value) : Frame (fun k => k = B) w (w'.setCell ⟨B, i, none⟩ u) := h.setCell (fun _ => rfl) u
structure Raw where
  d : Bool
  mtu : Int
  opts : Int
  flags : Int
  seq : Int
  hv : Value
  kv : Value
def Raw.cells (r : Raw) : List Value := [.bool r.d, .int .u16 r.mtu, .int .u8 r.opts, .int .u8 r.flags, .int .u32 r.seq, r.hv, r.kv]
end Go.Proofs.Ytgbmhijgpdgdbaa
namespace Go.Proofs.Ytgbmhijgpdgdbaa
open Go.RowKit
theorem hello1_any (w : World) (K : Nat) (st : Int) (h : w.cell? ⟨K, 2, none⟩ = some (.int .u8 st)) :
    Calls Try.prog 108 #[.pointer (some ⟨K, 0, none⟩)] w fun e w' => e = .returned (.bool (decide (2 ≤ st))) ∧ w = w' := by
  go_enter Try.func108, Try.ntmps108
  go_wp2_with fail
  go_ret
  exact ⟨by simp, rfl⟩
end Go.Proofs.Ytgbmhijgpdgdbaa
namespace Go.Proofs.Ytgbmhijgpdgdbaa
open Go.RowKit
def lmaskV (c : LC) : Int := if c.ty = 4 then 0 else maskN c.nb.toNat
def optV (c : LC) : Int := if c.dm then bits .or .u8 c.op 32 else c.op
theorem mask_lks' (w : World) (B : Nat) (c : LC) (cs : Array Value) (k : Blk w B 119 cs) (h1 : cs[1]? = some (.int .u8 c.ty)) (h4 : cs[4]? = some (.int .u8 c.nb)) (hn0 : 0 ≤ c.nb) (hn1 : c.nb ≤ 32) : Calls Try.prog 107 #[.pointer (some ⟨B, 0, none⟩)] w fun e w' => e = .returned (.int .u32 (lmaskV c)) ∧ w = w' := by
  have c1 : w.cell? ⟨B, 1, none⟩ = some (.int .u8 c.ty) := (k.cell 1).trans h1
  have c4 : w.cell? ⟨B, 4, none⟩ = some (.int .u8 c.nb) := (k.cell 4).trans h4
  clear k
  by_cases ht : c.ty = 4
  · have hv : lmaskV c = 0 := if_pos ht
    rw [hv]
    rw [ht] at c1
    go_enter Try.func107, Try.ntmps107
    go_wp2_with fail
    go_ret
    exact ⟨rfl, rfl⟩
  · have hv : lmaskV c = maskN c.nb.toNat := if_neg ht
    rw [hv]
    have h5 : (c.ty == 4) = false := by simpa using ht
    go_enter Try.func107, Try.ntmps107
    go_wp2_with (go_at_call 102; refine (mask_any _ _ hn0 hn1).mono ?_; rintro e w' ⟨rfl, rfl⟩)
    go_ret
    exact ⟨rfl, rfl⟩
end Go.Proofs.Ytgbmhijgpdgdbaa
namespace Go.Proofs.Ytgbmhijgpdgdbaa
open Go.RowKit Go.Shelf
attribute [local go_sem] Oper.semAt_some
structure Kn where
  ro : Int
  ad : Int
  st : Int
  pr : Int
  dr : Int
  bd : Int
  op : Int
  lf : Int
  wa : Bool
  fu : Bool
def Kn.cells (k : Kn) : Array Value := #[.int .u32 k.ro, .int .u32 k.ad, .int .u8 k.st, .int .u8 k.pr, .int .u32 k.dr, .int .u32 k.bd, .int .u8 k.op, .int .u32 k.lf, .bool k.wa, .bool k.fu]
structure RowAt (w : World) (L : Nat) (xs : List (Nat × Kn)) : Prop where
  r : ∀ (j : Nat) (x : Nat × Kn), xs[j]? = some x → w.cell? ⟨L, j, none⟩ = some (.pointer (some ⟨x.1, 0, none⟩))
  k : ∀ x ∈ xs, Blk w x.1 139 x.2.cells
theorem send_info : (Try.prog.info? 105).map (fun i => (i.zero, i.size, i.bytes)) = some (some (.agg #[.int .u32 0, .int .u32 0, .int .u16 0, .int .u8 0, .int .u8 0, .int .u32 0, .int .u32 0, .int .u32 0, .slice none 0 0]), 9, 56) := by kernel_rfl
section
variable {w0 : World} {B : Nat} {c : LC} {st dr bd wt nx po re : Int} {L cap : Nat} {xs : List (Nat × Kn)} {Bl Bi C0 C1 X : Nat} {W W' : World}
theorem own_cells {w : World} {base : Nat} {e : TypeId} {size n : Nat} {v : Value} {xs : List Value} (h : w.ownsRow base e size v n xs) (g : Nat) (hg : v.ownBlock = some g) : base ≤ g ∧ ∃ cs, w.heap[g]? = some (.cells cs e (0, 0)) := by
  rcases h.2 with ⟨rfl, _⟩ | ⟨g', cap, cur, rfl, hb, hh, _⟩
  · cases hg
  · cases hg
    exact ⟨hb, _, hh⟩
theorem below_others {W W' : World} (h : Below W.heap.size W W') : KeepsOthers W W' := ⟨h.size, fun k _ hk _ => (h.block k (Array.getElem?_eq_some_iff.1 hk).1).trans hk⟩
end
end Go.Proofs.Ytgbmhijgpdgdbaa
namespace Go.Proofs.Ytgbmhijgpdgdbaa
open Go.RowKit Go.Shelf
end Go.Proofs.Ytgbmhijgpdgdbaa
namespace Go.Proofs.Ytgbmhijgpdgdbaa
open Go.RowKit Go.Shelf
attribute [local go_sem] Oper.semAt_some
end Go.Proofs.Ytgbmhijgpdgdbaa
