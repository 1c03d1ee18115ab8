/- A link of whatever config: its cells; a tick of one that is down or quiet; down. -/
import Derived.Test.YtgbmhijgpdgdbaaLc
import Derived.Test.YtgbmhijgpdgdbaaHello13
import Derived.Laws.CopyOwn
import Derived.Laws.Tables
namespace Go.Proofs.Ytgbmhijgpdgdbaa
open Go.RowKit

theorem Below.drewN__ {N : Nat} {w w' : World} (h : Below N w w') (n : Nat) : Below N w (w'.drewN n) := ⟨h.os, h.tape, h.output, h.size, h.block⟩

/-- A link's cells. -/
def lks (c : LC) (st dr bd wt nx po re : Int) (l : Value) : Array Value := #[.bool true, .int .u8 c.ty, .int .u32 c.ro, .int .u32 c.na, .int .u8 c.nb, .int .u32 c.ad, .int .u8 c.op, .int .u16 c.hi, .int .u32 c.dd, .int .u16 c.po, .int .u8 c.pr, .bool c.dm, .bool c.ps, c.pe, .int .u32 c.rm, .int .u8 st, .int .u32 dr, .int .u32 bd, .int .u32 wt, .int .u32 nx, .int .u32 po, .int .u32 re, l]

set_option maxHeartbeats 400000 in
theorem tick_quiet (w : World) (B : Nat) (c : LC) (st dr bd wt nx po re : Int) (l : Value) (k : Blk w B 119 (lks c st dr bd wt nx po re l)) (hst : st = 0 ∨ st = 1) : Calls Try.prog 36 #[.pointer (some ⟨B, 0, none⟩)] w fun e w' => e = .returned (.slice none 0 0) ∧ w = w' := by
  have K := Lib.hid k
  have c15 : w.cell? ⟨B, 15, none⟩ = some (.int .u8 st) := k.cell 15
  clear k
  rcases hst with rfl | rfl <;>
    (go_enter Try.func36, Try.ntmps36
     go_wp2_with (go_at_call 67; refine (none_lk _ _ _ K.out rfl).mono ?_; rintro e w' ⟨rfl, rfl⟩)
     go_ret
     exact ⟨rfl, rfl⟩)

set_option maxHeartbeats 400000 in
theorem neighbours_nil (w : World) (B : Nat) (c : LC) (st dr bd wt nx po re : Int) (k : Blk w B 119 (lks c st dr bd wt nx po re (.slice none 0 0))) : Calls Try.prog 38 #[.pointer (some ⟨B, 0, none⟩)] w fun e w' => e = .returned (.slice none 0 0) ∧ w = w' := by
  have K := Lib.hid k
  have c22 : w.cell? ⟨B, 22, none⟩ = some (.slice none 0 0) := k.cell 22
  clear k
  go_enter Try.func38, Try.ntmps38
  go_wp2_with (go_at_call 67; refine (none_lk _ _ _ K.out rfl).mono ?_; rintro e w' ⟨rfl, rfl⟩)
  refine wp_loop_rounds 1 ?_
  rw [rounds_succ]
  go_wp2_with fail
  go_ret
  exact ⟨rfl, rfl⟩

set_option maxHeartbeats 2000000 in
set_option maxRecDepth 20000 in
theorem down_any (w : World) (B N : Nat) (c : LC) (st dr bd wt nx po re : Int) (l : Value) (hl : ∃ A n k, l = .slice A n k) (hpe : ∃ A n k, c.pe = .slice A n k) (hN : N ≤ B) (k : Blk w B 119 (lks c st dr bd wt nx po re l)) : Calls Try.prog 40 #[.pointer (some ⟨B, 0, none⟩)] w fun e w' => e = .returned (.tuple #[]) ∧ Blk w' B 119 (lks c 0 0 0 0 0 0 re (.slice none 0 0)) ∧ Below N w w' := by
  obtain ⟨A, n, cp, rfl⟩ := hl
  obtain ⟨A2, n2, cp2, hpe⟩ := hpe
  have HPE := Lib.hid hpe
  clear hpe
  have K := Lib.hid k
  have hlt : B < w.heap.size := k.lt
  have c0 : w.cell? ⟨B, 0, none⟩ = some (.bool true) := k.cell 0
  have c1 : w.cell? ⟨B, 1, none⟩ = some (.int .u8 c.ty) := k.cell 1
  have c2 : w.cell? ⟨B, 2, none⟩ = some (.int .u32 c.ro) := k.cell 2
  have c3 : w.cell? ⟨B, 3, none⟩ = some (.int .u32 c.na) := k.cell 3
  have c4 : w.cell? ⟨B, 4, none⟩ = some (.int .u8 c.nb) := k.cell 4
  have c5 : w.cell? ⟨B, 5, none⟩ = some (.int .u32 c.ad) := k.cell 5
  have c6 : w.cell? ⟨B, 6, none⟩ = some (.int .u8 c.op) := k.cell 6
  have c7 : w.cell? ⟨B, 7, none⟩ = some (.int .u16 c.hi) := k.cell 7
  have c8 : w.cell? ⟨B, 8, none⟩ = some (.int .u32 c.dd) := k.cell 8
  have c9 : w.cell? ⟨B, 9, none⟩ = some (.int .u16 c.po) := k.cell 9
  have c10 : w.cell? ⟨B, 10, none⟩ = some (.int .u8 c.pr) := k.cell 10
  have c11 : w.cell? ⟨B, 11, none⟩ = some (.bool c.dm) := k.cell 11
  have c12 : w.cell? ⟨B, 12, none⟩ = some (.bool c.ps) := k.cell 12
  have c13 : w.cell? ⟨B, 13, none⟩ = some (c.pe) := k.cell 13
  have c14 : w.cell? ⟨B, 14, none⟩ = some (.int .u32 c.rm) := k.cell 14
  have c15 : w.cell? ⟨B, 15, none⟩ = some (.int .u8 st) := k.cell 15
  have c16 : w.cell? ⟨B, 16, none⟩ = some (.int .u32 dr) := k.cell 16
  have c17 : w.cell? ⟨B, 17, none⟩ = some (.int .u32 bd) := k.cell 17
  have c18 : w.cell? ⟨B, 18, none⟩ = some (.int .u32 wt) := k.cell 18
  have c19 : w.cell? ⟨B, 19, none⟩ = some (.int .u32 nx) := k.cell 19
  have c20 : w.cell? ⟨B, 20, none⟩ = some (.int .u32 po) := k.cell 20
  have c21 : w.cell? ⟨B, 21, none⟩ = some (.int .u32 re) := k.cell 21
  have c22 : w.cell? ⟨B, 22, none⟩ = some (.slice A n cp) := k.cell 22
  have fz := k.frozen
  clear k
  go_enter Try.func40, Try.ntmps40
  go_wp2_with (go_at_call 67; refine (none_lk _ _ _ K.out rfl).mono ?_; rintro e w' ⟨rfl, rfl⟩)
  refine wp_region_drawn_tail 11 (by kernel_rfl) (by kernel_rfl) ?_
  simp only [List.take_succ_cons, List.take_zero, List.drop_succ_cons, List.drop_zero]
  repeat (go_big_quiet_step (fail))
  refine wpQuiet_nil ?_
  rintro wq ⟨q, rfl⟩
  refine wpList_store_row rfl 119 (.tmp 15) (.tmp 14) rfl B (lks c 0 0 0 0 0 0 re (.slice none 0 0)) rfl rfl 119 _ (K.out.drewN q) (by kernel_rfl) rfl (by simp [lks, Value.oneCell', HPE.out]) ?_
  go_wp2_with fail
  refine bodyPost_end (v := .tuple #[]) (by simp [results, Try.results40, go_sem]) rfl ⟨rfl, ?_, ?_⟩
  · exact setRow_heap _ B _ _ _ _ (K.out.drewN q)
  · exact below_setRow (Below.drewN__ (Below.refl _ w) q) hN _
end Go.Proofs.Ytgbmhijgpdgdbaa
