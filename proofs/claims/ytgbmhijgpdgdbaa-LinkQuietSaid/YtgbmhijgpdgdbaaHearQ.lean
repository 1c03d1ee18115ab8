/- Hear of a link that is down or quiet; State. -/
import Derived.Test.YtgbmhijgpdgdbaaMayQ
namespace Go.Proofs.Ytgbmhijgpdgdbaa
open Go.RowKit

set_option maxHeartbeats 2000000 in
set_option maxRecDepth 20000 in
theorem hear_quiet (w : World) (B : Nat) (c : LC) (st dr bd wt nx po re : Int) (f r hm hv ho hp hd hr hb : Int) (nb : Value) (k : Blk w B 119 (lks c st dr bd wt nx po re (.slice none 0 0))) (hst : st = 0 ∨ st = 1) (hn0 : 0 ≤ c.nb) (hn1 : c.nb ≤ 32) (hnet : bits .and .u32 c.na (maskN c.nb.toNat) = c.na) (hpe : ∃ A n k, c.pe = .slice A n k) :
    Calls Try.prog 35 #[.pointer (some ⟨B, 0, none⟩), .int .u32 f, .int .u32 r, .agg #[.int .u32 hm, .int .u16 hv, .int .u8 ho, .int .u8 hp, .int .u32 hd, .int .u32 hr, .int .u32 hb, nb]] w fun e w' => e = .returned (.tuple #[.slice none 0 0, .int .i64 45]) ∧ Below w.heap.size w w' := by
  have hlt : B < w.heap.size := k.lt
  have K := Lib.hid k
  have Hnet := Lib.hid hnet
  have Hpe := Lib.hid hpe
  have Hst := Lib.hid hst
  clear k hnet hpe hst
  go_enter Try.func35, Try.ntmps35
  go_upto_region 1 with fail
  obtain ⟨W0, hW0⟩ : ∃ W0, W0 = w.alloc (.cells #[.int .u32 hm, .int .u16 hv, .int .u8 ho, .int .u8 hp, .int .u32 hd, .int .u32 hr, .int .u32 hb, nb] 90) := ⟨_, rfl⟩
  have K0 : Hid (Blk W0 B 119 (lks c st dr bd wt nx po re (.slice none 0 0))) := Lib.hid (by rw [hW0]; exact K.out.alloc _)
  have H0 : Hid (Blk W0 w.heap.size 90 #[.int .u32 hm, .int .u16 hv, .int .u8 ho, .int .u8 hp, .int .u32 hd, .int .u32 hr, .int .u32 hb, nb]) := Lib.hid (by rw [hW0]; exact Blk.new w _ _)
  have B0 : Hid (Below w.heap.size w W0) := Lib.hid (by rw [hW0]; exact (Below.refl _ w).alloc (Nat.le_refl _) _)
  rw [← hW0]
  clear hW0
  have r0 : W0.cell? ⟨w.heap.size, 0, none⟩ = some (.int .u32 hm) := H0.out.cell 0
  have r1 : W0.cell? ⟨w.heap.size, 1, none⟩ = some (.int .u16 hv) := H0.out.cell 1
  have r2 : W0.cell? ⟨w.heap.size, 2, none⟩ = some (.int .u8 ho) := H0.out.cell 2
  have r3 : W0.cell? ⟨w.heap.size, 3, none⟩ = some (.int .u8 hp) := H0.out.cell 3
  have r4 : W0.cell? ⟨w.heap.size, 4, none⟩ = some (.int .u32 hd) := H0.out.cell 4
  have r5 : W0.cell? ⟨w.heap.size, 5, none⟩ = some (.int .u32 hr) := H0.out.cell 5
  have r6 : W0.cell? ⟨w.heap.size, 6, none⟩ = some (.int .u32 hb) := H0.out.cell 6
  have r7 : W0.cell? ⟨w.heap.size, 7, none⟩ = some nb := H0.out.cell 7
  go_wp2_with (go_at_call 67; refine (none_lk _ _ _ K0.out rfl).mono ?_; rintro e w' ⟨rfl, rfl⟩)
  refine (may_quiet _ B c st dr bd wt nx po re f r hm hv ho hp hd hr hb nb K0.out Hst.out hn0 hn1 Hnet.out Hpe.out).mono ?_
  rintro e w1 ⟨rfl, hb1⟩
  clear r0 r1 r2 r3 r4 r5 r6 r7
  go_wp2_with fail
  refine bodyPost_ret (v := .tuple #[.slice none 0 0, .int .i64 45]) (by simp [results, Try.results35, go_sem]) rfl ⟨rfl, B0.out.trans (hb1.mono B0.out.size)⟩

set_option maxHeartbeats 400000 in
theorem up_passive (w : World) (B N : Nat) (c : LC) (k : Blk w B 119 (lks c 0 0 0 0 0 0 0 (.slice none 0 0))) (hN : N ≤ B) (hps : c.ps = true) : Calls Try.prog 33 #[.pointer (some ⟨B, 0, none⟩)] w fun e w' => e = .returned (.slice none 0 0) ∧ Blk w' B 119 (lks c 1 0 0 0 0 0 0 (.slice none 0 0)) ∧ Below N w w' := by
  have K := Lib.hid k
  have c12 : w.cell? ⟨B, 12, none⟩ = some (.bool true) := (k.cell 12).trans (by rw [← hps]; rfl)
  have c15 : w.cell? ⟨B, 15, none⟩ = some (.int .u8 0) := k.cell 15
  have fz := k.frozen
  clear k
  go_enter Try.func33, Try.ntmps33
  go_wp2_with (go_at_call 67; refine (none_lk _ _ _ K.out rfl).mono ?_; rintro e w' ⟨rfl, rfl⟩)
  go_ret
  exact ⟨rfl, K.out.set_ 15 _, (Below.refl _ w).setCell (p := ⟨B, 15, none⟩) hN _⟩
end Go.Proofs.Ytgbmhijgpdgdbaa
