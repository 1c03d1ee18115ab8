/- What an adjacency sends: a description of its own. -/
import Derived.Test.YtgbmhijgpdgdbaaAdj
import Derived.Test.YtgbmhijgpdgdbaaAppend
import Derived.Deep.DeepCutAuto
namespace Go.Proofs.Ytgbmhijgpdgdbaa
open Go.RowKit

theorem hcells_one {l : List Od.Hd} : ∀ u ∈ l.flatMap hcells, u.oneCell' = true := by
  intro u hu
  obtain ⟨v, _, hv⟩ := List.mem_flatMap.1 hu
  simp [hcells] at hv
  rcases hv with h | h | h | h | h | h | h | h <;> subst h <;> rfl

theorem head_info : (Try.prog.info? 59).map (fun i => (i.zero, i.size, i.bytes)) = some (some (hdval ⟨0, 0, 0, 0, 0, 0, 0, 0⟩), 8, 20) := by kernel_rfl

/-- A slice that reads as heads. -/
def HeadsAt (w : World) (B : Nat) (v : Value) (l : List Od.Hd) : Prop := ∃ A n c, v = .slice A n c ∧ n ≤ c ∧ l.length = n ∧ Reads w B 8 A n (l.flatMap hcells)

/-- A message's value. -/
def outval (d : Bool) (mtu opts flags seq : Int) (hv kv : Value) : Value := .agg #[.bool d, .int .u16 mtu, .int .u8 opts, .int .u8 flags, .int .u32 seq, hv, kv]

theorem own_slice {w : World} {base : Nat} {e : TypeId} {size : Nat} {v : Value} {n : Nat} {xs : List Value} (h : w.ownsRow base e size v n xs) : ∃ A c, v = .slice A n c := by
  rcases h.2 with ⟨rfl, rfl⟩ | ⟨g, cap, cur, rfl, _⟩
  · exact ⟨_, _, rfl⟩
  · exact ⟨_, _, rfl⟩

theorem grownBy_setCell (w : World) (q : Addr) (u : Value) : w.grownBy (w.setCell q u) (some q.block) :=
  ⟨rfl, rfl, rfl, by simp [World.setCell], fun k _ hk => Below.heap_setCell w q u k (fun e => hk (by rw [e]))⟩

theorem own_far {w : World} {base : Nat} {e : TypeId} {size : Nat} {v : Value} {n : Nat} {xs : List Value} (h : w.ownsRow base e size v n xs) {q : Addr} (hq : v.ownBlock ≠ some q.block) (u : Value) : (w.setCell q u).ownsRow base e size v n xs :=
  h.kept (grownBy_setCell w q u) (.inr hq)

/-- What 'out' leaves: a message of its own, and w as it was. -/
def OutPost (a : Adj) (l : List Od.Hd) (w : World) (e : Ending) (w' : World) : Prop :=
  ∃ hv, e = .returned (outval true a.smtu a.sopts a.sflags a.sseq hv (.slice none 0 0)) ∧ Below w.heap.size w w' ∧ w'.ownsRow w.heap.size 59 8 hv l.length (l.flatMap hcells)

set_option maxHeartbeats 1000000 in
set_option maxRecDepth 20000 in
theorem out_any (w : World) (B : Nat) (a : Adj) (l : List Od.Hd) (h : AdjAt w B a) (hl : HeadsAt w w.heap.size a.sheads l) (hn : l.length ≤ 65536) :
    Calls Try.prog 55 #[.pointer (some ⟨B, 0, none⟩)] w fun e w' => OutPost a l w e w' := by
  obtain ⟨i0, hi, hz0, hz1, hz2⟩ := info_parts head_info
  obtain ⟨A, n, c, ev, hnc, hlen, hr⟩ := hl
  have hBlt := h.lt
  have c12 : w.cell? ⟨B, 12, none⟩ = some (.int .u16 a.smtu) := h.cell 12
  have c13 : w.cell? ⟨B, 13, none⟩ = some (.int .u8 a.sopts) := h.cell 13
  have c14 : w.cell? ⟨B, 14, none⟩ = some (.int .u8 a.sflags) := h.cell 14
  have c15 : w.cell? ⟨B, 15, none⟩ = some (.int .u32 a.sseq) := h.cell 15
  have c16 : w.cell? ⟨B, 16, none⟩ = some (.slice A n c) := (h.cell 16).trans (congrArg some ev)
  have Hlen := Lib.hid hlen
  have HR := Lib.hid hr
  have H := Lib.hid h
  clear hlen hr h ev
  go_enter Try.func55, Try.ntmps55
  go_upto_region 2 with fail
  have hb1 : Blk ((w.alloc (.cells #[.bool false, .int .u16 0, .int .u8 0, .int .u8 0, .int .u32 0, .slice none 0 0, .slice none 0 0] 40)).alloc (.cells #[.int .u16 a.smtu, .int .u8 a.sopts, .int .u8 a.sflags, .int .u32 a.sseq, .slice A n c] 28)) (w.heap.size + 1) 28 #[.int .u16 a.smtu, .int .u8 a.sopts, .int .u8 a.sflags, .int .u32 a.sseq, .slice A n c] := by
    have := Blk.new (w.alloc (.cells #[.bool false, .int .u16 0, .int .u8 0, .int .u8 0, .int .u32 0, .slice none 0 0, .slice none 0 0] 40)) 28 #[.int .u16 a.smtu, .int .u8 a.sopts, .int .u8 a.sflags, .int .u32 a.sseq, .slice A n c]
    rw [World.size_alloc] at this
    exact this
  have hb0 : Blk ((w.alloc (.cells #[.bool false, .int .u16 0, .int .u8 0, .int .u8 0, .int .u32 0, .slice none 0 0, .slice none 0 0] 40)).alloc (.cells #[.int .u16 a.smtu, .int .u8 a.sopts, .int .u8 a.sflags, .int .u32 a.sseq, .slice A n c] 28)) w.heap.size 40 #[.bool false, .int .u16 0, .int .u8 0, .int .u8 0, .int .u32 0, .slice none 0 0, .slice none 0 0] := (Blk.new w _ _).alloc _
  have hbel : Below w.heap.size w ((w.alloc (.cells #[.bool false, .int .u16 0, .int .u8 0, .int .u8 0, .int .u32 0, .slice none 0 0, .slice none 0 0] 40)).alloc (.cells #[.int .u16 a.smtu, .int .u8 a.sopts, .int .u8 a.sflags, .int .u32 a.sseq, .slice A n c] 28)) := ((Below.refl _ w).alloc (Nat.le_refl _) _).alloc (by simp) _
  have Hb1 := Lib.hid hb1
  have Hb0 := Lib.hid hb0
  have Hbel := Lib.hid hbel
  clear hb1 hb0 hbel
  go_upto_region 3 with (at_builtin; refine wpList_append_any _ rfl (.const (.slice none 0 0)) (.tmp 12) _ rfl w.heap.size 59 i0 _ 8 20 Try.underlying22 hi hz0 hz1 hz2 rfl (by omega) (.slice none 0 0) 0 [] rfl (World.ownsRow_nil _ _ _ _) w.heap.size A n c (l.flatMap hcells) rfl ((HR.out.alloc (Nat.le_refl _) _).alloc (by simp) _) hcells_one (by have := Hlen.out; unfold maxLen; omega) (by have := Hlen.out; omega) (by simp; omega) ?_; intro v1 w1 hown1 hg1 hat1; obtain ⟨A1, cc1, hv1⟩ := own_slice hown1; subst hv1; have k1 := Hb1.out.grown hg1 (by simp [Value.ownBlock]); have f1 := k1.frozen; have e0 : w1.cell? ⟨w.heap.size + 1, 0, none⟩ = some (.int .u16 a.smtu) := k1.cell 0; have e1 : w1.cell? ⟨w.heap.size + 1, 1, none⟩ = some (.int .u8 a.sopts) := k1.cell 1; have e2 : w1.cell? ⟨w.heap.size + 1, 2, none⟩ = some (.int .u8 a.sflags) := k1.cell 2; have e3 : w1.cell? ⟨w.heap.size + 1, 3, none⟩ = some (.int .u32 a.sseq) := k1.cell 3; have e4 : w1.cell? ⟨w.heap.size + 1, 4, none⟩ = some (.slice A n c) := k1.cell 4; have K1 := Lib.hid k1; have O1 := Lib.hid hown1; have G1 := Lib.hid hg1; have A1t := Lib.hid hat1; clear k1 hown1 hg1 hat1)
  have k0 := Hb0.out.grown G1.out (by simp [Value.ownBlock])
  have f0 := k0.frozen
  have g0 : w1.cell? ⟨w.heap.size, 0, none⟩ = some (.bool false) := k0.cell 0
  have g1 : w1.cell? ⟨w.heap.size, 1, none⟩ = some (.int .u16 0) := k0.cell 1
  have g2 : w1.cell? ⟨w.heap.size, 2, none⟩ = some (.int .u8 0) := k0.cell 2
  have g3 : w1.cell? ⟨w.heap.size, 3, none⟩ = some (.int .u8 0) := k0.cell 3
  have g4 : w1.cell? ⟨w.heap.size, 4, none⟩ = some (.int .u32 0) := k0.cell 4
  have g5 : w1.cell? ⟨w.heap.size, 5, none⟩ = some (.slice none 0 0) := k0.cell 5
  have g6 : w1.cell? ⟨w.heap.size, 6, none⟩ = some (.slice none 0 0) := k0.cell 6
  go_wp2_with fail
  refine bodyPost_ret (v := outval true a.smtu a.sopts a.sflags a.sseq (.slice A1 n cc1) (.slice none 0 0)) (by simp [results, Try.results55, go_sem, g0, g1, g2, g3, g4, g5, g6, outval]) rfl ?_
  have n0 := own_blk_ne O1.out k0 (by decide)
  have n1 := own_blk_ne O1.out K1.out (by decide)
  refine ⟨_, rfl, ?_, ?_⟩
  · exact (((((((((Hbel.out.grown G1.out (by simp; omega) (fun k hk => by simp [Value.ownBlock] at hk)).setCell (by simp) _).setCell (by simp) _).setCell (by simp) _).setCell (by simp) _).setCell (by simp) _).setCell (by simp) _).setCell (by simp) _).setCell (by simp) _)
  · have := own_far (own_far (own_far (own_far (own_far (own_far (own_far (own_far O1.out n1 (q := ⟨w.heap.size + 1, 4, none⟩) (.slice A1 n cc1)) n0 (q := ⟨w.heap.size, 0, none⟩) (.bool true)) n0 (q := ⟨w.heap.size, 1, none⟩) (.int .u16 a.smtu)) n0 (q := ⟨w.heap.size, 2, none⟩) (.int .u8 a.sopts)) n0 (q := ⟨w.heap.size, 3, none⟩) (.int .u8 a.sflags)) n0 (q := ⟨w.heap.size, 4, none⟩) (.int .u32 a.sseq)) n0 (q := ⟨w.heap.size, 5, none⟩) (.slice A1 n cc1)) n0 (q := ⟨w.heap.size, 6, none⟩) (.slice none 0 0)
    rw [Hlen.out]
    simpa using this
end Go.Proofs.Ytgbmhijgpdgdbaa
