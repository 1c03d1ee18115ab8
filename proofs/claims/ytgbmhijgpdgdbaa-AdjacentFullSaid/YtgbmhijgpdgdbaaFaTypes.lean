/- The types of a description's heads may all be. -/
import Derived.Test.YtgbmhijgpdgdbaaFaWords
import Derived.Maps.AppendAt
import Derived.Deep.AppendLies
import Derived.RegionTactic
import Derived.OwnWalk
import Derived.Test.YtgbmhijgpdgdbaaFaAdj
import Derived.Deep.DeepCutAuto
import Derived.BigQuiet
namespace Go.Proofs.Ytgbmhijgpdgdbaa
open Go.RowKit

section
variable {P : Program} (w : World)

theorem run_append_of_nil (base : Nat) (t ty e : TypeId) (i : TypeInfo) (size : Nat) (ht : P.underlying t = some (.slice e)) (hi : P.info? e = some i)
    (v : Value) (n : Nat) (xs : List Value) (hown : w.ownsRow base e size v n xs) (c : Nat) : (Builtin.append_ #[t, t] ty #[v, .slice none 0 c]).run P w = .ok v w := by
  rcases hown.2 with ⟨rfl, rfl⟩ | ⟨g, cap, cur, rfl, _, _, hnc, _⟩
  · simp [Builtin.append_, run_underlying ht, sizeOf, typeInfo, hi, Builtin.lenOf, Builtin.firstCells]
  · simp [Builtin.append_, run_underlying ht, sizeOf, typeInfo, hi, Builtin.lenOf, Builtin.firstCells, hnc, storeCells]

theorem run_append_any (base : Nat) (t ty e : TypeId) (i : TypeInfo) (z : Value) (size bytes : Nat) (ht : P.underlying t = some (.slice e)) (hi : P.info? e = some i) (hz : i.zero = some z)
    (hsize : i.size = size) (hby : i.bytes = bytes) (hzs : z.cells.size = size) (hsz : 0 < size)
    (v : Value) (n : Nat) (xs : List Value) (hown : w.ownsRow base e size v n xs)
    (B : Nat) (A : Option Addr) (m c : Nat) (news : List Value) (hr : Reads w B size A m news) (h1 : ∀ u ∈ news, u.oneCell' = true)
    (h63 : n + m ≤ maxLen) (hbytes : (n + m) * bytes ≤ 140737488355328) (hbase : base ≤ w.heap.size) :
    ∃ v' w', (Builtin.append_ #[t, t] ty #[v, .slice A m c]).run P w = .ok v' w' ∧ w'.ownsRow base e size v' (n + m) (xs ++ news) ∧ w.grownBy w' v.ownBlock ∧
      (v'.ownBlock = v.ownBlock ∨ v'.ownBlock = some w.heap.size) := by
  rcases A with _ | ad
  · have hm : m = 0 := by
      rcases Nat.eq_zero_or_pos m with h0 | h0
      · exact h0
      · obtain ⟨ad, h, _⟩ := hr.2 h0
        cases h
    subst hm
    have hn : news = [] := List.eq_nil_of_length_eq_zero (by simpa using hr.1)
    subst hn
    exact ⟨v, w, run_append_of_nil w base t ty e i size ht hi v n xs hown c, by simpa using hown, World.grownBy.refl w _, .inl rfl⟩
  · have hcells : ∀ j u, news[j]? = some u → w.cell? (ad.add j) = some u := by
      intro j u hu
      rcases Nat.eq_zero_or_pos m with h0 | h0
      · subst h0
        have hn : news = [] := List.eq_nil_of_length_eq_zero (by simpa using hr.1)
        subst hn
        simp at hu
      · obtain ⟨ad', h, _, hc⟩ := hr.2 h0
        injection h with h
        subst h
        exact hc j u hu
    obtain ⟨v', w', hrun, h2, h3, _, h5⟩ := run_append_own_at (P := P) w base t ty e i z size bytes ht hi hz hsize hby hzs hsz v n xs hown ad m c news hr.1 hcells h1 h63 hbytes hbase
    exact ⟨v', w', hrun, h2, h3, h5⟩

theorem wp_append_any {o : Oper} {a : Act} {K : Act → World → Prop} {Q : Exit → Act → World → Prop} (s x : Operand) (t : TypeId)
    (ho : o.op = .call { callee := .builtin .append, args := #[s, x], argTypes := #[t, t] })
    (base : Nat) (e : TypeId) (i : TypeInfo) (z : Value) (size bytes : Nat) (ht : P.underlying t = some (.slice e)) (hi : P.info? e = some i) (hz : i.zero = some z)
    (hsize : i.size = size) (hby : i.bytes = bytes) (hzs : z.cells.size = size) (hsz : 0 < size)
    (v : Value) (n : Nat) (xs : List Value) (hs : a.eval s = v) (hown : w.ownsRow base e size v n xs)
    (B : Nat) (A : Option Addr) (m c : Nat) (news : List Value) (hx : a.eval x = .slice A m c) (hr : Reads w B size A m news) (h1 : ∀ u ∈ news, u.oneCell' = true)
    (h63 : n + m ≤ maxLen) (hbytes : (n + m) * bytes ≤ 140737488355328) (hbase : base ≤ w.heap.size)
    (h : ∀ v' w', w'.ownsRow base e size v' (n + m) (xs ++ news) → w.grownBy w' v.ownBlock → (v'.ownBlock = v.ownBlock ∨ v'.ownBlock = some w.heap.size) → K (a.put o.dst v') w') : o.wp P a w K Q := by
  obtain ⟨v', w', hrun, h2, h3, h4⟩ := run_append_any (P := P) w base t o.type e i z size bytes ht hi hz hsize hby hzs hsz v n xs hown B A m c news hr h1 h63 hbytes hbase
  unfold Oper.wp execOp
  simp only [ho, resolve, invoke, builtin, Sem.run_bind, Sem.run_pure, Result.andThen_ok, List.map_toArray, List.map_cons, List.map_nil, hs, hx, hrun]
  exact h v' w' h2 h3 h4

theorem wpList_append_any {ops : Array Oper} {rest : List Oper} {o : Oper} {a : Act} {Q : Exit → Act → World → Prop} (hgd : o.guard = none) (s x : Operand) (t : TypeId)
    (ho : o.op = .call { callee := .builtin .append, args := #[s, x], argTypes := #[t, t] })
    (base : Nat) (e : TypeId) (i : TypeInfo) (z : Value) (size bytes : Nat) (ht : P.underlying t = some (.slice e)) (hi : P.info? e = some i) (hz : i.zero = some z)
    (hsize : i.size = size) (hby : i.bytes = bytes) (hzs : z.cells.size = size) (hsz : 0 < size)
    (v : Value) (n : Nat) (xs : List Value) (hs : a.eval s = v) (hown : w.ownsRow base e size v n xs)
    (B : Nat) (A : Option Addr) (m c : Nat) (news : List Value) (hx : a.eval x = .slice A m c) (hr : Reads w B size A m news) (h1 : ∀ u ∈ news, u.oneCell' = true)
    (h63 : n + m ≤ maxLen) (hbytes : (n + m) * bytes ≤ 140737488355328) (hbase : base ≤ w.heap.size)
    (h : ∀ v' w', w'.ownsRow base e size v' (n + m) (xs ++ news) → w.grownBy w' v.ownBlock → (v'.ownBlock = v.ownBlock ∨ v'.ownBlock = some w.heap.size) → wpList P ops Q rest (a.put o.dst v') w') : wpList P ops Q (o :: rest) a w :=
  wpList_plain hgd fun _ hK => wp_append_any w s x t ho base e i z size bytes ht hi hz hsize hby hzs hsz v n xs hs hown B A m c news hx hr h1 h63 hbytes hbase fun v' w' h2 h3 h4 => hK _ _ (h v' w' h2 h3 h4)

theorem step_append_any {ops : Array Oper} {o : Oper} {a : Act} {K : Act → World → Prop} {Q : Exit → Act → World → Prop} {E : Prop} (hgd : o.guard = none) (s x : Operand) (t : TypeId)
    (ho : o.op = .call { callee := .builtin .append, args := #[s, x], argTypes := #[t, t] })
    (base : Nat) (e : TypeId) (i : TypeInfo) (z : Value) (size bytes : Nat) (ht : P.underlying t = some (.slice e)) (hi : P.info? e = some i) (hz : i.zero = some z)
    (hsize : i.size = size) (hby : i.bytes = bytes) (hzs : z.cells.size = size) (hsz : 0 < size)
    (v : Value) (n : Nat) (xs : List Value) (hs : a.eval s = v) (hown : w.ownsRow base e size v n xs)
    (B : Nat) (A : Option Addr) (m c : Nat) (news : List Value) (hx : a.eval x = .slice A m c) (hr : Reads w B size A m news) (h1 : ∀ u ∈ news, u.oneCell' = true)
    (h63 : n + m ≤ maxLen) (hbytes : (n + m) * bytes ≤ 140737488355328) (hbase : base ≤ w.heap.size)
    (h : ∀ v' w', w'.ownsRow base e size v' (n + m) (xs ++ news) → w.grownBy w' v.ownBlock → (v'.ownBlock = v.ownBlock ∨ v'.ownBlock = some w.heap.size) → K (a.put o.dst v') w') :
    if Region.wanted o (yielded ops a.tmps) = true then Oper.wp P o a w K Q else E := by
  have hw : Region.wanted o (yielded ops a.tmps) = true := by simp [Region.wanted, hgd]
  rw [if_pos hw]
  exact wp_append_any w s x t ho base e i z size bytes ht hi hz hsize hby hzs hsz v n xs hs hown B A m c news hx hr h1 h63 hbytes hbase h
end

end Go.Proofs.Ytgbmhijgpdgdbaa

namespace Go.Proofs.Ytgbmhijgpdgdbaa
open Go.RowKit

theorem hcells_one {l : List Od.Hd} : ∀ u ∈ l.flatMap hcells, u.oneCell' = true := by
  intro u hu
  obtain ⟨v, _, hv⟩ := List.mem_flatMap.1 hu
  simp [hcells] at hv
  rcases hv with h | h | h | h | h | h | h | h <;> subst h <;> rfl

theorem head_info : (Try.prog.info? 59).map (fun i => (i.zero, i.size, i.bytes)) = some (some (hdval ⟨0, 0, 0, 0, 0, 0, 0, 0⟩), 8, 20) := by kernel_rfl

/-- A slice that reads as heads. -/
def HeadsAt (w : World) (B : Nat) (v : Value) (l : List Od.Hd) : Prop := ∃ A n c, v = .slice A n c ∧ n ≤ c ∧ l.length = n ∧ Reads w B 8 A n (l.flatMap hcells)

/-- A message's value. -/
def outval (d : Bool) (mtu opts flags seq : Int) (hv kv : Value) : Value := .agg #[.bool d, .int .u16 mtu, .int .u8 opts, .int .u8 flags, .int .u32 seq, hv, kv]

theorem own_slice {w : World} {base : Nat} {e : TypeId} {size : Nat} {v : Value} {n : Nat} {xs : List Value} (h : w.ownsRow base e size v n xs) : ∃ A c, v = .slice A n c := by
  rcases h.2 with ⟨rfl, rfl⟩ | ⟨g, cap, cur, rfl, _⟩
  · exact ⟨_, _, rfl⟩
  · exact ⟨_, _, rfl⟩

theorem grownBy_setCell (w : World) (q : Addr) (u : Value) : w.grownBy (w.setCell q u) (some q.block) :=
  ⟨rfl, rfl, rfl, by simp [World.setCell], fun k _ hk => Below.heap_setCell w q u k (fun e => hk (by rw [e]))⟩

theorem own_far {w : World} {base : Nat} {e : TypeId} {size : Nat} {v : Value} {n : Nat} {xs : List Value} (h : w.ownsRow base e size v n xs) {q : Addr} (hq : v.ownBlock ≠ some q.block) (u : Value) : (w.setCell q u).ownsRow base e size v n xs :=
  h.kept (grownBy_setCell w q u) (.inr hq)

/-- What 'out' leaves: a message of its own, and w as it was. -/
def OutPost (a : Adj) (l : List Od.Hd) (w : World) (e : Ending) (w' : World) : Prop :=
  ∃ hv, e = .returned (outval true a.smtu a.sopts a.sflags a.sseq hv (.slice none 0 0)) ∧ Below w.heap.size w w' ∧ w'.ownsRow w.heap.size 59 8 hv l.length (l.flatMap hcells)

set_option maxHeartbeats 1000000 in
set_option maxRecDepth 20000 in
theorem out_any (w : World) (B : Nat) (a : Adj) (l : List Od.Hd) (h : AdjAt w B a) (hl : HeadsAt w w.heap.size a.sheads l) (hn : l.length ≤ 65536) :
    Calls Try.prog 55 #[.pointer (some ⟨B, 0, none⟩)] w fun e w' => OutPost a l w e w' := by
  obtain ⟨i0, hi, hz0, hz1, hz2⟩ := info_parts head_info
  obtain ⟨A, n, c, ev, hnc, hlen, hr⟩ := hl
  have hBlt := h.lt
  have c12 : w.cell? ⟨B, 12, none⟩ = some (.int .u16 a.smtu) := h.cell 12
  have c13 : w.cell? ⟨B, 13, none⟩ = some (.int .u8 a.sopts) := h.cell 13
  have c14 : w.cell? ⟨B, 14, none⟩ = some (.int .u8 a.sflags) := h.cell 14
  have c15 : w.cell? ⟨B, 15, none⟩ = some (.int .u32 a.sseq) := h.cell 15
  have c16 : w.cell? ⟨B, 16, none⟩ = some (.slice A n c) := (h.cell 16).trans (congrArg some ev)
  have Hlen := Lib.hid hlen
  have HR := Lib.hid hr
  have H := Lib.hid h
  clear hlen hr h ev
  go_enter Try.func55, Try.ntmps55
  go_upto_region 2 with fail
  have hb1 : Blk ((w.alloc (.cells #[.bool false, .int .u16 0, .int .u8 0, .int .u8 0, .int .u32 0, .slice none 0 0, .slice none 0 0] 40)).alloc (.cells #[.int .u16 a.smtu, .int .u8 a.sopts, .int .u8 a.sflags, .int .u32 a.sseq, .slice A n c] 28)) (w.heap.size + 1) 28 #[.int .u16 a.smtu, .int .u8 a.sopts, .int .u8 a.sflags, .int .u32 a.sseq, .slice A n c] := by
    have := Blk.new (w.alloc (.cells #[.bool false, .int .u16 0, .int .u8 0, .int .u8 0, .int .u32 0, .slice none 0 0, .slice none 0 0] 40)) 28 #[.int .u16 a.smtu, .int .u8 a.sopts, .int .u8 a.sflags, .int .u32 a.sseq, .slice A n c]
    rw [World.size_alloc] at this
    exact this
  have hb0 : Blk ((w.alloc (.cells #[.bool false, .int .u16 0, .int .u8 0, .int .u8 0, .int .u32 0, .slice none 0 0, .slice none 0 0] 40)).alloc (.cells #[.int .u16 a.smtu, .int .u8 a.sopts, .int .u8 a.sflags, .int .u32 a.sseq, .slice A n c] 28)) w.heap.size 40 #[.bool false, .int .u16 0, .int .u8 0, .int .u8 0, .int .u32 0, .slice none 0 0, .slice none 0 0] := (Blk.new w _ _).alloc _
  have hbel : Below w.heap.size w ((w.alloc (.cells #[.bool false, .int .u16 0, .int .u8 0, .int .u8 0, .int .u32 0, .slice none 0 0, .slice none 0 0] 40)).alloc (.cells #[.int .u16 a.smtu, .int .u8 a.sopts, .int .u8 a.sflags, .int .u32 a.sseq, .slice A n c] 28)) := ((Below.refl _ w).alloc (Nat.le_refl _) _).alloc (by simp) _
  have Hb1 := Lib.hid hb1
  have Hb0 := Lib.hid hb0
  have Hbel := Lib.hid hbel
  clear hb1 hb0 hbel
  go_upto_region 3 with (at_builtin; refine wpList_append_any _ rfl (.const (.slice none 0 0)) (.tmp 12) _ rfl w.heap.size 59 i0 _ 8 20 Try.underlying22 hi hz0 hz1 hz2 rfl (by omega) (.slice none 0 0) 0 [] rfl (World.ownsRow_nil _ _ _ _) w.heap.size A n c (l.flatMap hcells) rfl ((HR.out.alloc (Nat.le_refl _) _).alloc (by simp) _) hcells_one (by have := Hlen.out; unfold maxLen; omega) (by have := Hlen.out; omega) (by simp; omega) ?_; intro v1 w1 hown1 hg1 hat1; obtain ⟨A1, cc1, hv1⟩ := own_slice hown1; subst hv1; have k1 := Hb1.out.grown hg1 (by simp [Value.ownBlock]); have f1 := k1.frozen; have e0 : w1.cell? ⟨w.heap.size + 1, 0, none⟩ = some (.int .u16 a.smtu) := k1.cell 0; have e1 : w1.cell? ⟨w.heap.size + 1, 1, none⟩ = some (.int .u8 a.sopts) := k1.cell 1; have e2 : w1.cell? ⟨w.heap.size + 1, 2, none⟩ = some (.int .u8 a.sflags) := k1.cell 2; have e3 : w1.cell? ⟨w.heap.size + 1, 3, none⟩ = some (.int .u32 a.sseq) := k1.cell 3; have e4 : w1.cell? ⟨w.heap.size + 1, 4, none⟩ = some (.slice A n c) := k1.cell 4; have K1 := Lib.hid k1; have O1 := Lib.hid hown1; have G1 := Lib.hid hg1; have A1t := Lib.hid hat1; clear k1 hown1 hg1 hat1)
  have k0 := Hb0.out.grown G1.out (by simp [Value.ownBlock])
  have f0 := k0.frozen
  have g0 : w1.cell? ⟨w.heap.size, 0, none⟩ = some (.bool false) := k0.cell 0
  have g1 : w1.cell? ⟨w.heap.size, 1, none⟩ = some (.int .u16 0) := k0.cell 1
  have g2 : w1.cell? ⟨w.heap.size, 2, none⟩ = some (.int .u8 0) := k0.cell 2
  have g3 : w1.cell? ⟨w.heap.size, 3, none⟩ = some (.int .u8 0) := k0.cell 3
  have g4 : w1.cell? ⟨w.heap.size, 4, none⟩ = some (.int .u32 0) := k0.cell 4
  have g5 : w1.cell? ⟨w.heap.size, 5, none⟩ = some (.slice none 0 0) := k0.cell 5
  have g6 : w1.cell? ⟨w.heap.size, 6, none⟩ = some (.slice none 0 0) := k0.cell 6
  go_wp2_with fail
  refine bodyPost_ret (v := outval true a.smtu a.sopts a.sflags a.sseq (.slice A1 n cc1) (.slice none 0 0)) (by simp [results, Try.results55, go_sem, g0, g1, g2, g3, g4, g5, g6, outval]) rfl ?_
  have n0 := own_blk_ne O1.out k0 (by decide)
  have n1 := own_blk_ne O1.out K1.out (by decide)
  refine ⟨_, rfl, ?_, ?_⟩
  · exact (((((((((Hbel.out.grown G1.out (by simp; omega) (fun k hk => by simp [Value.ownBlock] at hk)).setCell (by simp) _).setCell (by simp) _).setCell (by simp) _).setCell (by simp) _).setCell (by simp) _).setCell (by simp) _).setCell (by simp) _).setCell (by simp) _)
  · have := own_far (own_far (own_far (own_far (own_far (own_far (own_far (own_far O1.out n1 (q := ⟨w.heap.size + 1, 4, none⟩) (.slice A1 n cc1)) n0 (q := ⟨w.heap.size, 0, none⟩) (.bool true)) n0 (q := ⟨w.heap.size, 1, none⟩) (.int .u16 a.smtu)) n0 (q := ⟨w.heap.size, 2, none⟩) (.int .u8 a.sopts)) n0 (q := ⟨w.heap.size, 3, none⟩) (.int .u8 a.sflags)) n0 (q := ⟨w.heap.size, 4, none⟩) (.int .u32 a.sseq)) n0 (q := ⟨w.heap.size, 5, none⟩) (.slice A1 n cc1)) n0 (q := ⟨w.heap.size, 6, none⟩) (.slice none 0 0)
    rw [Hlen.out]
    simpa using this
end Go.Proofs.Ytgbmhijgpdgdbaa

namespace Go.Proofs.Ytgbmhijgpdgdbaa
open Go.RowKit

/-- Of the old blocks only those of S have turned. -/
structure Frame (S : Nat → Prop) (w w' : World) : Prop where
  os : w'.os = w.os
  tape : w'.tape = w.tape
  output : w'.output = w.output
  size : w.heap.size ≤ w'.heap.size
  block : ∀ k, k < w.heap.size → ¬ S k → w'.heap[k]? = w.heap[k]?

section
variable {S T : Nat → Prop} {w w' w'' : World}
theorem Frame.refl (S : Nat → Prop) (w : World) : Frame S w w := ⟨rfl, rfl, rfl, Nat.le_refl _, fun _ _ _ => rfl⟩
theorem Frame.trans (h : Frame S w w') (k : Frame S w' w'') : Frame S w w'' :=
  ⟨k.os.trans h.os, k.tape.trans h.tape, k.output.trans h.output, Nat.le_trans h.size k.size, fun i hi hS => (k.block i (by have := h.size; omega) hS).trans (h.block i hi hS)⟩
/-- What is written of new blocks does not count. -/
theorem Frame.trans' (h : Frame S w w') (k : Frame T w' w'') (hT : ∀ i, i < w.heap.size → T i → S i) : Frame S w w'' :=
  ⟨k.os.trans h.os, k.tape.trans h.tape, k.output.trans h.output, Nat.le_trans h.size k.size, fun i hi hS => (k.block i (by have := h.size; omega) (fun e => hS (hT i hi e))).trans (h.block i hi hS)⟩
theorem Frame.mono (h : Frame S w w') (hS : ∀ i, S i → T i) : Frame T w w' := ⟨h.os, h.tape, h.output, h.size, fun i hi hT => h.block i hi (fun e => hT (hS i e))⟩
theorem Frame.of_below (h : Below w.heap.size w w') : Frame S w w' := ⟨h.os, h.tape, h.output, h.size, fun i hi _ => h.block i hi⟩
theorem Frame.of_grown {row : Option Nat} (h : w.grownBy w' row) (hr : ∀ k, row = some k → k < w.heap.size → S k) : Frame S w w' :=
  ⟨h.os, h.tape, h.output, h.size, fun i hi hS => h.block i hi (fun e => hS (hr i e.symm hi))⟩
theorem Frame.setCell (h : Frame S w w') {p : Addr} (hp : p.block < w.heap.size → S p.block) (u : Value) : Frame S w (w'.setCell p u) :=
  ⟨h.os, h.tape, h.output, by have := h.size; simpa [World.setCell] using this, fun i hi hS => (Below.heap_setCell w' p u i (fun e => hS (by subst e; exact hp hi))).trans (h.block i hi hS)⟩
theorem Frame.alloc (h : Frame S w w') (o : Obj) : Frame S w (w'.alloc o) := h.trans' (Frame.of_below (S := S) ((Below.refl _ w').alloc (Nat.le_refl _) o)) fun _ _ e => e
theorem Frame.drew (h : Frame S w w') : Frame S w w'.drew := ⟨h.os, h.tape, h.output, h.size, h.block⟩
theorem Frame.drewN (h : Frame S w w') (n : Nat) : Frame S w (w'.drewN n) := ⟨h.os, h.tape, h.output, h.size, h.block⟩
theorem Frame.blk {g : Nat} {t : TypeId} {cs : Array Value} (h : Frame S w w') (hb : Blk w g t cs) (hS : ¬ S g) : Blk w' g t cs := (h.block g hb.lt hS).trans hb
theorem Frame.reads {B size n : Nat} {A : Option Addr} {xs : List Value} (h : Frame S w w') (hr : Reads w B size A n xs) (hB : B ≤ w.heap.size) (hS : ∀ ad, A = some ad → ¬ S ad.block) : Reads w' B size A n xs :=
  ⟨hr.1, fun hn => by
    obtain ⟨ad, e, hb, hc⟩ := hr.2 hn
    exact ⟨ad, e, hb, fun j u hu => (World.cell?_of_block (h.block (ad.add j).block (by rw [block_of_add]; omega) (by rw [block_of_add]; exact hS ad e))).trans (hc j u hu)⟩⟩
theorem Frame.own {base : Nat} {e : TypeId} {size n : Nat} {v : Value} {xs : List Value} (h : Frame S w w') (hr : w.ownsRow base e size v n xs) (hS : ∀ g, v.ownBlock = some g → ¬ S g) : w'.ownsRow base e size v n xs := by
  obtain ⟨h1, h2⟩ := hr
  refine ⟨h1, ?_⟩
  rcases h2 with h2 | ⟨g, cap, cur, rfl, hg, hh, r⟩
  · exact .inl h2
  · exact .inr ⟨g, cap, cur, rfl, hg, (h.block g (Array.getElem?_eq_some_iff.1 hh).1 (hS g rfl)).trans hh, r⟩
theorem Frame.map {α : Type} {f : α → Value} {b : Nat} {M : Od.Ky → Option α} (h : Frame S w w') (hm : MapIs f w b M) (hS : ¬ S b) : MapIs f w' b M := hm.keep (h.block b hm.lt hS)
theorem Frame.heads {v : Value} {l : List Od.Hd} (h : Frame S w w') (hr : HeadsAt w w.heap.size v l) (hS : ∀ g, v.ownBlock = some g → ¬ S g) : HeadsAt w' w'.heap.size v l := by
  obtain ⟨A, n, c, rfl, h1, h2, h3⟩ := hr
  exact ⟨A, n, c, rfl, h1, h2, (h.reads h3 (Nat.le_refl _) (fun ad e => hS _ (by rw [e]; rfl))).more h.size⟩
end

theorem Frame.setB {B : Nat} {w w' : World} (h : Frame (fun k => k = B) w w') (i : Nat) (u : Value) : Frame (fun k => k = B) w (w'.setCell ⟨B, i, none⟩ u) := h.setCell (fun _ => rfl) u

theorem headsNil (w : World) (B : Nat) : HeadsAt w B (.slice none 0 0) [] := ⟨none, 0, 0, rfl, Nat.le_refl _, rfl, Reads.none_⟩

/-- A message as seven cells. -/
structure Raw where
  d : Bool
  mtu : Int
  opts : Int
  flags : Int
  seq : Int
  hv : Value
  kv : Value
def Raw.cells (r : Raw) : List Value := [.bool r.d, .int .u16 r.mtu, .int .u8 r.opts, .int .u8 r.flags, .int .u32 r.seq, r.hv, r.kv]
/-- The message of a description as it was sent. -/
def Adj.raw (a : Adj) (hv : Value) : Raw := ⟨true, a.smtu, a.sopts, a.sflags, a.sseq, hv, .slice none 0 0⟩

/-- One description of its own, in a row of its own. -/
def OneDesc (a : Adj) (l : List Od.Hd) (lo : Nat) (w' : World) (v : Value) : Prop :=
  ∃ hv, w'.ownsRow lo 40 7 v 1 (a.raw hv).cells ∧ w'.ownsRow lo 59 8 hv l.length (l.flatMap hcells)

def Adj.firsted (a : Adj) : Adj := { a with smtu := a.mtu, sopts := a.opts, sflags := 7, sseq := a.seq, sheads := .slice none 0 0, timer := a.rxmt }

def FirstPost (B : Nat) (a : Adj) (w : World) (e : Ending) (w' : World) : Prop :=
  ∃ v, e = .returned v ∧ AdjAt w' B a.firsted ∧ Frame (· = B) w w' ∧ OneDesc a.firsted [] w.heap.size w' v

set_option maxHeartbeats 1000000 in
set_option maxRecDepth 20000 in
theorem first_any (w : World) (B : Nat) (a : Adj) (h : AdjAt w B a) (hrx : 0 ≤ a.rxmt ∧ a.rxmt < 65536) :
    Calls Try.prog 49 #[.pointer (some ⟨B, 0, none⟩)] w fun e w' => FirstPost B a w e w' := by
  have hBlt := h.lt
  have f := h.frozen
  have c3 : w.cell? ⟨B, 3, none⟩ = some (.int .u16 a.mtu) := h.cell 3
  have c4 : w.cell? ⟨B, 4, none⟩ = some (.int .u8 a.opts) := h.cell 4
  have c5 : w.cell? ⟨B, 5, none⟩ = some (.int .u16 a.rxmt) := h.cell 5
  have c9 : w.cell? ⟨B, 9, none⟩ = some (.int .u32 a.seq) := h.cell 9
  have c12 : w.cell? ⟨B, 12, none⟩ = some (.int .u16 a.smtu) := h.cell 12
  have c13 : w.cell? ⟨B, 13, none⟩ = some (.int .u8 a.sopts) := h.cell 13
  have c14 : w.cell? ⟨B, 14, none⟩ = some (.int .u8 a.sflags) := h.cell 14
  have c15 : w.cell? ⟨B, 15, none⟩ = some (.int .u32 a.sseq) := h.cell 15
  have c16 : w.cell? ⟨B, 16, none⟩ = some a.sheads := h.cell 16
  have c24 : w.cell? ⟨B, 24, none⟩ = some (.int .u32 a.timer) := h.cell 24
  have H := Lib.hid h
  obtain ⟨hx0, hx1⟩ := hrx
  clear h
  go_enter Try.func49, Try.ntmps49
  go_wp2_with fail
  go_region
  go_wp2_with fail
  have hA : AdjAt ((((((w.setCell ⟨B, 12, none⟩ (.int .u16 a.mtu)).setCell ⟨B, 13, none⟩ (.int .u8 a.opts)).setCell ⟨B, 14, none⟩ (.int .u8 7)).setCell ⟨B, 15, none⟩ (.int .u32 a.seq)).setCell ⟨B, 16, none⟩ (.slice none 0 0)).setCell ⟨B, 24, none⟩ (.int .u32 a.rxmt)).drew B a.firsted :=
    ((((((H.out.set_ 12 _).set_ 13 _).set_ 14 _).set_ 15 _).set_ 16 _).set_ 24 _).drew
  have hF : Frame (· = B) w ((((((w.setCell ⟨B, 12, none⟩ (.int .u16 a.mtu)).setCell ⟨B, 13, none⟩ (.int .u8 a.opts)).setCell ⟨B, 14, none⟩ (.int .u8 7)).setCell ⟨B, 15, none⟩ (.int .u32 a.seq)).setCell ⟨B, 16, none⟩ (.slice none 0 0)).setCell ⟨B, 24, none⟩ (.int .u32 a.rxmt)).drew :=
    (((((((Frame.refl _ w).setB 12 _).setB 13 _).setB 14 _).setB 15 _).setB 16 _).setB 24 _).drew
  refine (out_any _ B a.firsted [] hA (headsNil _ _) (by simp)).mono ?_
  have HA := Lib.hid hA
  have HF := Lib.hid hF
  clear hA hF
  rintro e w2 ⟨hv, rfl, hb2, ho2⟩
  have hA2 := HA.out.below hb2 HA.out.lt
  have hF2 := HF.out.trans (Frame.of_below hb2)
  have HO := Lib.hid (Frame.own (S := fun _ => False) (Frame.of_below ((Below.refl _ w2).alloc (Nat.le_refl _) (.cells (a.firsted.raw hv).cells.toArray 40))) ho2 (fun _ _ e => e))
  have HL := Lib.hid (World.ownsRow_lit (base := w.heap.size) (e := 40) (size := 7) w2 (a.firsted.raw hv).cells.toArray 1 hF2.size (by simp [maxLen]) rfl)
  have HA2 := Lib.hid (hA2.alloc (.cells (a.firsted.raw hv).cells.toArray 40))
  have HF2 := Lib.hid (hF2.alloc (.cells (a.firsted.raw hv).cells.toArray 40))
  have HS := Lib.hid HF.out.size
  clear hA2 hF2 ho2 hb2
  unfold outval
  go_wp2_with fail
  go_ret
  refine ⟨_, rfl, HA2.out, HF2.out, hv, HL.out, ?_⟩
  obtain ⟨q1, q2⟩ := HO.out
  refine ⟨q1, ?_⟩
  rcases q2 with q2 | ⟨g, cap, cur, q3, q4, q5⟩
  · exact .inl q2
  · exact .inr ⟨g, cap, cur, q3, by have := HS.out; omega, q5⟩
end Go.Proofs.Ytgbmhijgpdgdbaa

namespace Go.Proofs.Ytgbmhijgpdgdbaa
open Go.RowKit

theorem cells_ne {w : World} {g g' : Nat} {cs cs' : Array Value} {t t' : TypeId} {fr : Nat × Nat} (h : w.heap[g]? = some (.cells cs t fr)) (h' : Blk w g' t' cs') (hne : t ≠ t') : g ≠ g' := by
  rintro rfl
  unfold Blk at h'
  rw [h] at h'
  injection h' with h'
  injection h' with _ ht
  exact hne ht

/-- A slice that reads as heads, in blocks of heads. -/
def HeadsIn (w : World) (v : Value) (l : List Od.Hd) : Prop :=
  HeadsAt w w.heap.size v l ∧ ∀ g, v.ownBlock = some g → ∃ cs fr, w.heap[g]? = some (.cells cs 59 fr)

/-- No block of F is one of heads. -/
def NoHeads (w : World) (F : Nat → Prop) : Prop := ∀ k cs fr, F k → w.heap[k]? ≠ some (.cells cs 59 fr)

theorem NoHeads.blk {w : World} {B : Nat} {t : TypeId} {cs : Array Value} (h : Blk w B t cs) (ht : 59 ≠ t) : NoHeads w (fun k => k = B) := by
  rintro k cs' fr rfl he
  exact cells_ne he h ht rfl

theorem HeadsIn.frame {w w' : World} {F : Nat → Prop} {v : Value} {l : List Od.Hd} (h : HeadsIn w v l) (hf : Frame F w w') (hn : NoHeads w F) : HeadsIn w' v l := by
  obtain ⟨h1, h2⟩ := h
  refine ⟨hf.heads h1 (fun g hg hF => ?_), fun g hg => ?_⟩
  · obtain ⟨cs, fr, e⟩ := h2 g hg
    exact hn g cs fr hF e
  · obtain ⟨cs, fr, e⟩ := h2 g hg
    exact ⟨cs, fr, (hf.block g (Array.getElem?_eq_some_iff.1 e).1 (fun hF => hn g cs fr hF e)).trans e⟩
theorem HeadsIn.below {w w' : World} {v : Value} {l : List Od.Hd} (h : HeadsIn w v l) (hb : Below w.heap.size w w') : HeadsIn w' v l :=
  h.frame (Frame.of_below (S := fun _ => False) hb) (fun _ _ _ hF => hF.elim)
theorem HeadsIn.nil (w : World) : HeadsIn w (.slice none 0 0) [] := ⟨headsNil _ _, by simp [Value.ownBlock]⟩
theorem HeadsIn.own {w : World} {base n : Nat} {v : Value} {l : List Od.Hd} (h : w.ownsRow base 59 8 v n (l.flatMap hcells)) (hn : l.length = n) : HeadsIn w v l := by
  refine ⟨?_, fun g hg => ?_⟩
  · rcases h.2 with ⟨rfl, rfl⟩ | ⟨g, cap, cur, rfl, h1, h2, h3, h4⟩
    · exact ⟨none, 0, 0, rfl, Nat.le_refl _, hn, Reads.of_own h⟩
    · exact ⟨_, n, cap, rfl, h3, hn, Reads.of_own h⟩
  · rcases h.2 with ⟨rfl, rfl⟩ | ⟨g', cap, cur, rfl, h1, h2, h3, h4⟩
    · simp [Value.ownBlock] at hg
    · have : g' = g := by simpa [Value.ownBlock] using hg
      subst this
      exact ⟨_, _, h2⟩

theorem flat_take (l : List Od.Hd) (k : Nat) : (l.take k).flatMap hcells = (l.flatMap hcells).take (k * 8) := by
  induction l generalizing k with
  | nil => simp
  | cons h t ih =>
    cases k with
    | zero => simp
    | succ k =>
      simp only [List.take_succ_cons, List.flatMap_cons, ih]
      rw [show (k + 1) * 8 = (hcells h).length + k * 8 from by simp [hcells]; omega, List.take_length_add_append]
theorem flat_drop (l : List Od.Hd) (k : Nat) : (l.drop k).flatMap hcells = (l.flatMap hcells).drop (k * 8) := by
  induction l generalizing k with
  | nil => simp
  | cons h t ih =>
    cases k with
    | zero => simp
    | succ k =>
      simp only [List.drop_succ_cons, List.flatMap_cons, ih]
      rw [show (k + 1) * 8 = (hcells h).length + k * 8 from by simp [hcells]; omega, List.drop_length_add_append]

theorem HeadsIn.take {w : World} {A : Option Addr} {n c : Nat} {l : List Od.Hd} (h : HeadsIn w (.slice A n c) l) {k : Nat} (hk : k ≤ n) : HeadsIn w (.slice A k k) (l.take k) := by
  obtain ⟨⟨A', n', c', e, h1, h2, h3⟩, h4⟩ := h
  injection e with e1 e2 e3
  subst e1 e2 e3
  refine ⟨⟨A, k, k, rfl, Nat.le_refl _, by rw [List.length_take]; omega, ?_⟩, fun g hg => h4 g (by cases A <;> simp_all [Value.ownBlock])⟩
  rw [flat_take]
  refine ⟨by rw [List.length_take, h3.1]; exact Nat.min_eq_left (Nat.mul_le_mul_right _ hk), fun hk0 => ?_⟩
  obtain ⟨ad, ea, hb, hc⟩ := h3.2 (by omega)
  exact ⟨ad, ea, hb, fun j u hu => hc j u (by rw [List.getElem?_take] at hu; split at hu; exact hu; cases hu)⟩

theorem HeadsIn.drop {w : World} {A : Option Addr} {n c : Nat} {l : List Od.Hd} (h : HeadsIn w (.slice A n c) l) {k : Nat} (hk : k ≤ n) : HeadsIn w (.slice (if c = k then A else A.map (·.add (k * 8))) (n - k) (c - k)) (l.drop k) := by
  obtain ⟨⟨A', n', c', e, h1, h2, h3⟩, h4⟩ := h
  injection e with e1 e2 e3
  subst e1 e2 e3
  refine ⟨⟨_, _, _, rfl, by omega, by rw [List.length_drop]; omega, ?_⟩, fun g hg => h4 g ?_⟩
  · rw [flat_drop]; exact h3.cut hk h1
  · cases A with
    | none => simp at hg; simp [Value.ownBlock] at hg
    | some ad => split at hg <;> simpa [Value.ownBlock, block_of_add] using hg
end Go.Proofs.Ytgbmhijgpdgdbaa

namespace Go.Proofs.Ytgbmhijgpdgdbaa
open Go.RowKit

/-- A head's numbers fit their types; its type may be. -/
structure HdOk (h : Od.Hd) : Prop where
  g0 : 0 ≤ h.g
  g1 : h.g < 65536
  t0 : 0 ≤ h.t
  t1 : h.t ≤ 15
  i0 : 0 ≤ h.i
  i1 : h.i < 4294967296
  v0 : 0 ≤ h.v
  v1 : h.v < 4294967296

theorem below_drewN {B : Nat} {a w : World} (h : Below B a w) (n : Nat) : Below B a (w.drewN n) := ⟨h.os, h.tape, h.output, h.size, h.block⟩

/-- A description's value. -/
def ddval (mtu opts flags seq : Int) (hv : Value) : Value := .agg #[.int .u16 mtu, .int .u8 opts, .int .u8 flags, .int .u32 seq, hv]

theorem Reads.head {w : World} {B n : Nat} {A : Option Addr} {l : List Od.Hd} (h : Reads w B 8 A n (l.flatMap hcells)) {k : Nat} {x : Od.Hd} (hx : l[k]? = some x) :
    ∃ b off, A = some ⟨b, off, none⟩ ∧ b < B ∧ ∀ i u, (hcells x)[i]? = some u → w.cell? ⟨b, off + k * 8 + i, none⟩ = some u := by
  have hk : k < l.length := (List.getElem?_eq_some_iff.1 hx).1
  have hlen : (l.flatMap hcells).length = l.length * 8 := by
    clear h hx hk
    induction l with
    | nil => rfl
    | cons a t ih => simp only [List.flatMap_cons, List.length_append, ih, List.length_cons]; simp [hcells]; omega
  have hn : n = l.length := by have := h.1; omega
  obtain ⟨ad, rfl, hb, hc⟩ := h.2 (by omega)
  have hcell : ∀ (k : Nat) (x : Od.Hd), l[k]? = some x → ∀ i u, (hcells x)[i]? = some u → (l.flatMap hcells)[k * 8 + i]? = some u := by
    intro k x hx i u hu
    have hd : (l.flatMap hcells).drop (k * 8) = (l.drop k).flatMap hcells := (flat_drop l k).symm
    have hi : i < 8 := by
      have := (List.getElem?_eq_some_iff.1 hu).1
      simpa [hcells] using this
    rw [← List.getElem?_drop, hd]
    have hk : k < l.length := (List.getElem?_eq_some_iff.1 hx).1
    rw [List.drop_eq_getElem_cons hk, List.flatMap_cons, List.getElem?_append_left (by simp [hcells]; omega)]
    rw [List.getElem?_eq_getElem hk] at hx
    cases hx
    exact hu
  have hs := World.cell?_spot (hc (0 * 8 + 0) _ (hcell 0 l[0] (List.getElem?_eq_getElem (by omega)) 0 _ rfl))
  obtain ⟨b, off, sp⟩ := ad
  have hsp : sp = none := by simpa [Addr.add] using hs
  subst hsp
  refine ⟨b, off, rfl, hb, fun i u hu => ?_⟩
  have := hc (k * 8 + i) u (hcell k x hx i u hu)
  unfold Addr.add at this
  split at this
  · rename_i h0
    rw [show off + k * 8 + i = off from by omega]; exact this
  · rw [show off + k * 8 + i = off + (k * 8 + i) from by omega]; exact this

theorem type_bit : ∀ t : Nat, t ≤ 15 → bits .and .u16 ((65535 : Int) / 2 ^ t) 1 = 1 := by decide

set_option maxHeartbeats 2000000 in
set_option maxRecDepth 20000 in
theorem types_any (w : World) (B : Nat) (a : Adj) (mtu opts flags seq : Int) (hv : Value) (l : List Od.Hd) (h : AdjAt w B a) (hl : HeadsIn w hv l) (ht : a.types = 65535) (hok : ∀ x ∈ l, HdOk x) (hn : l.length ≤ 65536) :
    Calls Try.prog 90 #[.pointer (some ⟨B, 0, none⟩), ddval mtu opts flags seq hv] w fun e w' => e = .returned (.bool true) ∧ Below w.heap.size w w' := by
  obtain ⟨⟨A, n, c, rfl, hnc, hlen, hr⟩, -⟩ := hl
  have hBlt := h.lt
  have c7 : w.cell? ⟨B, 7, none⟩ = some (.int .u16 65535) := (h.cell 7).trans (by rw [← ht]; rfl)
  have Hok := Lib.hid hok
  have hn0 : n ≤ 65536 := by omega
  have Hlen := Lib.hid hlen
  clear h hlen hok ht hn
  unfold ddval
  go_enter Try.func90, Try.ntmps90
  go_wp2_with fail
  go_loopw [10] (fun i wr => ∃ k : Nat, k ≤ n ∧ i = .int .i64 k ∧ Below w.heap.size w wr) (fun i _ => n - (intOf i).toNat)
  case atStart => exact ⟨0, Nat.zero_le _, rfl, (Below.refl _ _).alloc (Nat.le_refl _) _⟩
  case round =>
    obtain ⟨k, hk, rfl, hbel⟩ := hrel
    by_cases hlt : k < n
    · obtain ⟨x, hx⟩ : ∃ x, l[k]? = some x := ⟨_, List.getElem?_eq_getElem (by have := Hlen.out; omega)⟩
      obtain ⟨bl, off, hA, hbl, hcell⟩ := (hr.below hbel).head hx
      have hx0 := Hok.out x (List.mem_of_getElem? hx)
      subst hA
      obtain ⟨g, o, t, i, v, s, m, ll⟩ := x
      have d0 : wr.cell? ⟨bl, off + k * 8, none⟩ = some (.int .u16 g) := hcell 0 _ rfl
      have d1 := hcell 1 _ rfl
      have d2 := hcell 2 _ rfl
      have d3 := hcell 3 _ rfl
      have d4 := hcell 4 _ rfl
      have d5 := hcell 5 _ rfl
      have d6 := hcell 6 _ rfl
      have d7 := hcell 7 _ rfl
      have e7 := (hbel.cell (p := ⟨B, 7, none⟩) hBlt).trans c7
      have t0 : 0 ≤ t := hx0.t0
      have t1 : t ≤ 15 := hx0.t1
      have ht15 : decide (15 < t) = false := by simp; omega
      have hkn : (k : Int) < (n : Int) := by omega
      have hbit := type_bit t.toNat (by omega)
      have hsz := hbel.size
      have hBwr : B < wr.heap.size := by omega
      clear hcell hr hx hx0 c7
      go_wp2_with fail
      go_quiet (fail)
      go_wp2_with fail
      go_roundw
      case rel => exact ⟨k + 1, by omega, by go_num, below_drewN (hbel.alloc hsz _) _⟩
      case measure => simp [intOf]; omega
    · obtain rfl : k = n := by omega
      go_wp2_with fail
      go_ret
      exact ⟨rfl, hbel⟩
end Go.Proofs.Ytgbmhijgpdgdbaa
