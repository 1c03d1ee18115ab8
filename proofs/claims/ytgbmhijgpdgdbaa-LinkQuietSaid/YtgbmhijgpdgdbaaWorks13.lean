/- 'works' of the statements of the link answers true. -/
import Derived.Test.YtgbmhijgpdgdbaaNeigh13
namespace Go.Proofs.Ytgbmhijgpdgdbaa
open Go.RowKit

theorem Frame.below {S : Nat → Prop} {w w' : World} (h : Frame S w w') {N : Nat} (hN : N ≤ w.heap.size) (hS : ∀ j, j < N → ¬ S j) : Below N w w' := ⟨h.os, h.tape, h.output, h.size, fun j hj => h.block j (by omega) (hS j hj)⟩

theorem state_lk (w : World) (B : Nat) (cs : Array Value) (st : Int) (k : Blk w B 119 cs) (h0 : cs[0]? = some (.bool true)) (h15 : cs[15]? = some (.int .u8 st)) : Calls Try.prog 39 #[.pointer (some ⟨B, 0, none⟩)] w fun e w' => e = .returned (.int .u8 st) ∧ w = w' := by
  have c15 : w.cell? ⟨B, 15, none⟩ = some (.int .u8 st) := (k.cell 15).trans h15
  go_enter Try.func39, Try.ntmps39
  go_wp2_with (go_at_call 67; refine (none_lk _ _ _ k h0).mono ?_; rintro e w' ⟨rfl, rfl⟩)
  go_ret
  exact ⟨rfl, rfl⟩

set_option maxHeartbeats 2000000 in
set_option maxRecDepth 20000 in
theorem works13_any (w : World) : Calls Try.prog 30 #[] w fun e w' => e = .returned (.bool true) ∧ Below w.heap.size w w' := by
  have hp : ∀ W : World, Calls Try.prog 41 #[.int .u8 0] W fun e w' => e = .returned lcfg ∧ Below W.heap.size W w' := plain13
  have hg : ∀ W : World, Calls Try.prog 32 #[lcfg] W fun e w' => e = .returned lcfg ∧ Below W.heap.size W w' := given13
  have HPl := Lib.hid hp
  have HGi := Lib.hid hg
  have HNe := Lib.hid new13
  clear hp hg
  go_enter Try.func30, Try.ntmps30
  go_wp2_with fail
  refine (HPl.out _).mono ?_
  rintro e w1 ⟨rfl, hb1⟩
  go_wp2_with fail
  refine (HGi.out _).mono ?_
  rintro e w2 ⟨rfl, hb2⟩
  have B2 := Lib.hid (hb1.trans (hb2.mono hb1.size))
  clear hb1 hb2
  go_wp2_with fail
  refine (HNe.out _).mono ?_
  rintro e w3 ⟨B, rfl, hBl, kB, hb3⟩
  have B3 := Lib.hid (B2.out.trans (hb3.mono B2.out.size))
  have hwB : w.heap.size ≤ B := Nat.le_trans B2.out.size hBl
  have K3 := Lib.hid kB
  clear kB hb3 hBl
  go_wp2_with fail
  refine (up_lk _ B w.heap.size hwB K3.out).mono ?_
  rintro e w4 ⟨S, rfl, hS, hSB, k4, hb4⟩
  have K4 := Lib.hid k4
  have S4 := Lib.hid hS
  have B4 := Lib.hid (B3.out.trans hb4)
  have hBl4 : B < w4.heap.size := k4.lt
  have hSl4 : S < w4.heap.size := lt_of_cell hS
  clear k4 hS hb4
  have hh : ∀ W G, Blk W B 119 (lk 2 40 10 (.slice none 0 0)) → W.cell? ⟨G, 0, none⟩ = some (.int .u32 1) → G ≠ B → Calls Try.prog 35 #[.pointer (some ⟨B, 0, none⟩), .int .u32 167772162, .int .u32 2, .agg #[.int .u32 4294967040, .int .u16 10, .int .u8 2, .int .u8 1, .int .u32 40, .int .u32 0, .int .u32 0, .slice (some ⟨G, 0, none⟩) 1 1]] W fun e w' => HearPost B 40 10 W e w' := fun W G k g h => hear_first W B G 40 10 k g h
  have HH := Lib.hid hh
  clear hh
  go_wp2_with fail
  have a4 : Below w.heap.size w (w4.alloc (.cells #[.int .u32 1] 25)) := B4.out.alloc B4.out.size _
  refine (HH.out _ w4.heap.size (K4.out.alloc _) ((Blk.new w4 _ _).cell 0) (by omega)).mono ?_
  rintro e w5 ⟨rfl, L, K, c, cs, kB, kL, hcs, kK, hL, hK, hF⟩
  have K5 := Lib.hid kB
  have L5 := Lib.hid kL
  have N5 := Lib.hid kK
  have Hcs := Lib.hid hcs
  have S5 : Hid (w5.cell? ⟨S, 0, none⟩ = some (.int .u32 3758096389)) := Lib.hid ((hF.cell_ (b := S) (by simp; omega) hSB 0).trans ((World.cell?_alloc_lt _ _ _ hSl4).trans S4.out))
  have B5 : Hid (Below w.heap.size w w5) := Lib.hid (a4.trans (hF.below (by have := B4.out.size; simp; omega) (fun j hj e => by omega)))
  clear kB kL kK hcs hF a4
  go_wp2_with fail
  refine (hear_times w5 B L K c 40 10 cs _ K5.out L5.out Hcs.out N5.out).mono ?_
  rintro e w6 ⟨rfl, hb6⟩
  have K6 := Lib.hid (K5.out.below hb6 K5.out.lt)
  have L6 := Lib.hid (L5.out.below hb6 L5.out.lt)
  have N6 := Lib.hid (N5.out.below hb6 N5.out.lt)
  have S6 := Lib.hid ((hb6.cell (p := ⟨S, 0, none⟩) (lt_of_cell S5.out)).trans S5.out)
  have B6 := Lib.hid (B5.out.trans (hb6.mono B5.out.size))
  clear hb6
  go_wp2_with fail
  refine (neighbours_lk w6 B L K c 40 10 cs K6.out L6.out Hcs.out N6.out).mono ?_
  rintro e w7 ⟨R, c7, rfl, hR2, hR8, hb7⟩
  have K7 := Lib.hid (K6.out.below hb7 K6.out.lt)
  have s7 : w7.cell? ⟨S, 0, none⟩ = some (.int .u32 3758096389) := (hb7.cell (p := ⟨S, 0, none⟩) (lt_of_cell S6.out)).trans S6.out
  have B7 := Lib.hid (B6.out.trans (hb7.mono B6.out.size))
  clear hb7
  go_wp2_with (go_at_call 39; refine (state_lk _ _ _ 2 K7.out rfl rfl).mono ?_; rintro e w' ⟨rfl, rfl⟩)
  go_ret
  exact ⟨rfl, B7.out⟩
end Go.Proofs.Ytgbmhijgpdgdbaa
