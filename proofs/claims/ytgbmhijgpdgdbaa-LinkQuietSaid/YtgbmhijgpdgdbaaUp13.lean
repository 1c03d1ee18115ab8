/- The link of 'works' is set up. -/
import Derived.Test.YtgbmhijgpdgdbaaRound13
namespace Go.Proofs.Ytgbmhijgpdgdbaa
open Go.RowKit

set_option maxHeartbeats 1000000 in
set_option maxRecDepth 20000 in
theorem shared13 (w : World) : Calls Try.prog 68 #[lcfg] w fun e w' => e = .returned (.bool true) ∧ Below w.heap.size w w' := by
  unfold lcfg
  go_enter Try.func68, Try.ntmps68
  go_wp2_with fail
  go_ret
  exact ⟨rfl, (Below.refl _ _).alloc (Nat.le_refl _) _⟩

def UpPost (B N : Nat) (w : World) (e : Ending) (w' : World) : Prop := ∃ S, e = .returned (.slice (some ⟨S, 0, none⟩) 1 1) ∧ w'.cell? ⟨S, 0, none⟩ = some (.int .u32 3758096389) ∧ S ≠ B ∧ Blk w' B 119 (lk 2 40 10 (.slice none 0 0)) ∧ Below N w w'

set_option maxHeartbeats 2000000 in
set_option maxRecDepth 20000 in
theorem up_lk (w : World) (B N : Nat) (hN : N ≤ B) (k : Blk w B 119 (lk 0 0 0 (.slice none 0 0))) :
    Calls Try.prog 33 #[.pointer (some ⟨B, 0, none⟩)] w fun e w' => UpPost B N w e w' := by
  have hp := fun W => shared13 W
  unfold lcfg at hp
  have HP := Lib.hid hp
  clear hp
  have K := Lib.hid k
  have hlt : B < w.heap.size := k.lt
  have c1 : w.cell? ⟨B, 1, none⟩ = some (.int .u8 0) := k.cell 1
  have c2 : w.cell? ⟨B, 2, none⟩ = some (.int .u32 1) := k.cell 2
  have c3 : w.cell? ⟨B, 3, none⟩ = some (.int .u32 167772160) := k.cell 3
  have c4 : w.cell? ⟨B, 4, none⟩ = some (.int .u8 24) := k.cell 4
  have c5 : w.cell? ⟨B, 5, none⟩ = some (.int .u32 167772161) := k.cell 5
  have c6 : w.cell? ⟨B, 6, none⟩ = some (.int .u8 2) := k.cell 6
  have c7 : w.cell? ⟨B, 7, none⟩ = some (.int .u16 10) := k.cell 7
  have c8 : w.cell? ⟨B, 8, none⟩ = some (.int .u32 40) := k.cell 8
  have c9 : w.cell? ⟨B, 9, none⟩ = some (.int .u16 0) := k.cell 9
  have c10 : w.cell? ⟨B, 10, none⟩ = some (.int .u8 1) := k.cell 10
  have c11 : w.cell? ⟨B, 11, none⟩ = some (.bool false) := k.cell 11
  have c12 : w.cell? ⟨B, 12, none⟩ = some (.bool false) := k.cell 12
  have c13 : w.cell? ⟨B, 13, none⟩ = some (.slice none 0 0) := k.cell 13
  have c14 : w.cell? ⟨B, 14, none⟩ = some (.int .u32 0) := k.cell 14
  have c15 : w.cell? ⟨B, 15, none⟩ = some (.int .u8 0) := k.cell 15
  clear k
  go_enter Try.func33, Try.ntmps33
  go_wp2_with (go_at_call 67; refine (none_lk _ _ _ K.out rfl).mono ?_; rintro e w' ⟨rfl, rfl⟩)
  refine (HP.out _).mono ?_
  rintro e w1 ⟨rfl, hb1⟩
  have K1 := Lib.hid (K.out.below hb1 K.out.lt)
  have B1 := Lib.hid (hb1.mono (show N ≤ w.heap.size by omega))
  clear c1 c2 c3 c4 c5 c6 c7 c8 c9 c10 c11 c12 c13 c14 c15 hb1
  have d7 : w1.cell? ⟨B, 7, none⟩ = some (.int .u16 10) := K1.out.cell 7
  have d8 : w1.cell? ⟨B, 8, none⟩ = some (.int .u32 40) := K1.out.cell 8
  have d9 : w1.cell? ⟨B, 9, none⟩ = some (.int .u16 0) := K1.out.cell 9
  have d10 : w1.cell? ⟨B, 10, none⟩ = some (.int .u8 1) := K1.out.cell 10
  have d13 : w1.cell? ⟨B, 13, none⟩ = some (.slice none 0 0) := K1.out.cell 13
  have d15 : w1.cell? ⟨B, 15, none⟩ = some (.int .u8 0) := K1.out.cell 15
  have d18 : w1.cell? ⟨B, 18, none⟩ = some (.int .u32 0) := K1.out.cell 18
  have d19 : w1.cell? ⟨B, 19, none⟩ = some (.int .u32 0) := K1.out.cell 19
  have d20 : w1.cell? ⟨B, 20, none⟩ = some (.int .u32 0) := K1.out.cell 20
  have d22 : w1.cell? ⟨B, 22, none⟩ = some (.slice none 0 0) := K1.out.cell 22
  have fz := K1.out.frozen
  have hl1 : B < w1.heap.size := K1.out.lt
  go_wp2_with fail
  refine wp_loop_rounds 1 ?_
  rw [rounds_succ]
  go_wp2_with fail
  obtain ⟨W2, hW2⟩ : ∃ W2, W2 = ((w1.setCell ⟨B, 15, none⟩ (.int .u8 2)).setCell ⟨B, 18, none⟩ (.int .u32 40)).setCell ⟨B, 22, none⟩ (.slice none 0 0) := ⟨_, rfl⟩
  have K2 : Hid (Blk W2 B 119 (lk 2 40 0 (.slice none 0 0))) := Lib.hid (by rw [hW2]; exact ((K1.out.set_ 15 (.int .u8 2)).set_ 18 (.int .u32 40)).set_ 22 (.slice none 0 0))
  have B2 : Hid (Below N w W2) := Lib.hid (by rw [hW2]; exact ((B1.out.setCell (p := ⟨B, 15, none⟩) hN _).setCell (p := ⟨B, 18, none⟩) hN _).setCell (p := ⟨B, 22, none⟩) hN _)
  rw [← hW2]
  clear hW2 d7 d8 d9 d10 d13 d15 d18 d19 d20 d22 fz hl1
  have d7 : W2.cell? ⟨B, 7, none⟩ = some (.int .u16 10) := K2.out.cell 7
  have d9 : W2.cell? ⟨B, 9, none⟩ = some (.int .u16 0) := K2.out.cell 9
  have d19 : W2.cell? ⟨B, 19, none⟩ = some (.int .u32 0) := K2.out.cell 19
  have d20 : W2.cell? ⟨B, 20, none⟩ = some (.int .u32 0) := K2.out.cell 20
  have fz := K2.out.frozen
  have hl1 : B < W2.heap.size := K2.out.lt
  go_cut [] from 118 to 135 (fun wx => Blk wx B 119 (lk 2 40 10 (.slice none 0 0)) ∧ Below N w wx)
  case first =>
    go_region_held3 (fun w' => w'.cell? ⟨B, 7, none⟩ = some (.int .u16 10) ∧ w'.cell? ⟨B, 9, none⟩ = some (.int .u16 0)) (first
      | assumption
      | exact ⟨K2.out.drew.cell 7, K2.out.drew.cell 9⟩
      | exact ⟨(K2.out.set_ 19 _).drew.cell 7, (K2.out.set_ 19 _).drew.cell 9⟩
      | exact ⟨((K2.out.set_ 19 _).set_ 20 _).drew.cell 7, ((K2.out.set_ 19 _).set_ 20 _).drew.cell 9⟩) (fail)
    all_goals
      go_wp2_with fail
      go_meet
      exact ⟨((K2.out.set_ 19 _).set_ 20 _).drew, ((B2.out.setCell (p := ⟨B, 19, none⟩) hN _).setCell (p := ⟨B, 20, none⟩) hN _).drew⟩
  obtain ⟨kc, hbc⟩ := hcut
  have KC := Lib.hid kc
  have BC := Lib.hid hbc
  clear kc hbc d7 d9 d19 d20 fz hl1
  go_wp2_with fail
  refine (round_lk _ B 2 40 10 KC.out).mono ?_
  rintro e w3 ⟨S, rfl, hS, hSs, hb3⟩
  go_wp2_with fail
  go_ret
  exact ⟨S, rfl, hS, by have := KC.out.lt; omega, KC.out.below hb3 KC.out.lt, BC.out.trans (hb3.mono (by have := KC.out.lt; omega))⟩
end Go.Proofs.Ytgbmhijgpdgdbaa
