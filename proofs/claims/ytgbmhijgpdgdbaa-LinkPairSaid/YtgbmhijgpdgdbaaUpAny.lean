/- Up of a link of whatever config without peers, that is not passive. -/
import Derived.Test.YtgbmhijgpdgdbaaRoundAny
namespace Go.Proofs.Ytgbmhijgpdgdbaa
open Go.RowKit

def UpAnyPost (B N : Nat) (c : LC) (w : World) (e : Ending) (w' : World) : Prop := ∃ v st wt nx po, e = .returned v ∧ 2 ≤ (st : Int) ∧ Blk w' B 119 (lks c st 0 0 wt nx po 0 (.slice none 0 0)) ∧ Below N w w'

set_option maxHeartbeats 2000000 in
set_option maxRecDepth 20000 in
theorem up_pair (w : World) (B N : Nat) (c : LC) (hN : N ≤ B) (hn0 : 0 ≤ c.nb) (hn1 : c.nb ≤ 32) (hp : c.peers = false) (hps : c.ps = false) (hpe : ∃ A k, c.pe = .slice A 0 k) (hsh : c.shared = false)  (k : Blk w B 119 (lks c 0 0 0 0 0 0 0 (.slice none 0 0))) :
    Calls Try.prog 33 #[.pointer (some ⟨B, 0, none⟩)] w fun e w' => UpAnyPost B N c w e w' := by
  obtain ⟨A, cap, hpe⟩ := hpe
  have HPE := Lib.hid hpe
  have hp2 : ∀ W, Calls Try.prog 68 #[.agg #[.int .u8 c.ty, .int .u32 c.ro, .int .u32 c.na, .int .u8 c.nb, .int .u32 c.ad, .int .u8 c.op, .int .u16 c.hi, .int .u32 c.dd, .int .u16 c.po, .int .u8 c.pr, .bool c.dm, .bool c.ps, c.pe, .int .u32 c.rm]] W fun e w' => e = .returned (.bool false) ∧ Below W.heap.size W w' := fun W => by have h := shared_any c W; rw [hsh] at h; exact h
  have HP := Lib.hid hp2
  have K := Lib.hid k
  have hlt : B < w.heap.size := k.lt
  have c1 : w.cell? ⟨B, 1, none⟩ = some (.int .u8 c.ty) := k.cell 1
  have c2 : w.cell? ⟨B, 2, none⟩ = some (.int .u32 c.ro) := k.cell 2
  have c3 : w.cell? ⟨B, 3, none⟩ = some (.int .u32 c.na) := k.cell 3
  have c4 : w.cell? ⟨B, 4, none⟩ = some (.int .u8 c.nb) := k.cell 4
  have c5 : w.cell? ⟨B, 5, none⟩ = some (.int .u32 c.ad) := k.cell 5
  have c6 : w.cell? ⟨B, 6, none⟩ = some (.int .u8 c.op) := k.cell 6
  have c7 : w.cell? ⟨B, 7, none⟩ = some (.int .u16 c.hi) := k.cell 7
  have c8 : w.cell? ⟨B, 8, none⟩ = some (.int .u32 c.dd) := k.cell 8
  have c9 : w.cell? ⟨B, 9, none⟩ = some (.int .u16 c.po) := k.cell 9
  have c10 : w.cell? ⟨B, 10, none⟩ = some (.int .u8 c.pr) := k.cell 10
  have c11 : w.cell? ⟨B, 11, none⟩ = some (.bool c.dm) := k.cell 11
  have c12 : w.cell? ⟨B, 12, none⟩ = some (.bool c.ps) := k.cell 12
  have c13 : w.cell? ⟨B, 13, none⟩ = some (c.pe) := k.cell 13
  have c14 : w.cell? ⟨B, 14, none⟩ = some (.int .u32 c.rm) := k.cell 14
  have c15 : w.cell? ⟨B, 15, none⟩ = some (.int .u8 0) := k.cell 15
  have c12' : w.cell? ⟨B, 12, none⟩ = some (.bool false) := c12.trans (by rw [hps])
  clear c12
  clear k hp2 hps hpe hsh
  go_enter Try.func33, Try.ntmps33
  go_upto_region 7 with (go_at_call 67; refine (none_lk _ _ _ K.out rfl).mono ?_; rintro e w' ⟨rfl, rfl⟩)
  have c12 : w.cell? ⟨B, 12, none⟩ = some (.bool c.ps) := K.out.cell 12
  clear c12'
  go_wp2_with fail
  refine (HP.out _).mono ?_
  rintro e w1 ⟨rfl, hb1⟩
  have K1 := Lib.hid (K.out.below hb1 K.out.lt)
  have B1 := Lib.hid (hb1.mono (show N ≤ w.heap.size by omega))
  clear c1 c2 c3 c4 c5 c6 c7 c8 c9 c10 c11 c12 c13 c14 c15 hb1
  have d8 : w1.cell? ⟨B, 8, none⟩ = some (.int .u32 c.dd) := K1.out.cell 8
  have d10 : w1.cell? ⟨B, 10, none⟩ = some (.int .u8 c.pr) := K1.out.cell 10
  have d13 : w1.cell? ⟨B, 13, none⟩ = some (.slice A 0 cap) := (K1.out.cell 13).trans (congrArg some HPE.out)
  have d15 : w1.cell? ⟨B, 15, none⟩ = some (.int .u8 0) := K1.out.cell 15
  have d18 : w1.cell? ⟨B, 18, none⟩ = some (.int .u32 0) := K1.out.cell 18
  have d22 : w1.cell? ⟨B, 22, none⟩ = some (.slice none 0 0) := K1.out.cell 22
  have fz := K1.out.frozen
  have hl1 : B < w1.heap.size := K1.out.lt
  go_wp2_with fail
  refine wp_loop_rounds 1 ?_
  rw [rounds_succ]
  go_wp2_with fail
  obtain ⟨W2, hW2⟩ : ∃ W2, W2 = (w1.setCell ⟨B, 15, none⟩ (.int .u8 3)).setCell ⟨B, 22, none⟩ (.slice none 0 0) := ⟨_, rfl⟩
  have K2 : Hid (Blk W2 B 119 (lks c 3 0 0 (0) 0 0 0 (.slice none 0 0))) := Lib.hid (by rw [hW2]; exact ((K1.out.set_ 15 (.int .u8 3)).set_ 22 (.slice none 0 0)))
  have B2 : Hid (Below N w W2) := Lib.hid (by rw [hW2]; exact ((B1.out.setCell (p := ⟨B, 15, none⟩) hN _).setCell (p := ⟨B, 22, none⟩) hN _))
  rw [← hW2]
  clear hW2 d8 d10 d13 d15 d18 d22 fz hl1
  have d7 : W2.cell? ⟨B, 7, none⟩ = some (.int .u16 c.hi) := K2.out.cell 7
  have d9 : W2.cell? ⟨B, 9, none⟩ = some (.int .u16 c.po) := K2.out.cell 9
  have d19 : W2.cell? ⟨B, 19, none⟩ = some (.int .u32 0) := K2.out.cell 19
  have d20 : W2.cell? ⟨B, 20, none⟩ = some (.int .u32 0) := K2.out.cell 20
  have fz := K2.out.frozen
  have hl1 : B < W2.heap.size := K2.out.lt
  go_cut [] from 118 to 135 (fun wx => ∃ nx po, Blk wx B 119 (lks c 3 0 0 (0) nx po 0 (.slice none 0 0)) ∧ Below N w wx)
  case first =>
    go_region_held3 (fun w' => w'.cell? ⟨B, 7, none⟩ = some (.int .u16 c.hi) ∧ w'.cell? ⟨B, 9, none⟩ = some (.int .u16 c.po)) (first
      | assumption
      | exact ⟨K2.out.drew.cell 7, K2.out.drew.cell 9⟩
      | exact ⟨(K2.out.set_ 19 _).drew.cell 7, (K2.out.set_ 19 _).drew.cell 9⟩
      | exact ⟨((K2.out.set_ 19 _).set_ 20 _).drew.cell 7, ((K2.out.set_ 19 _).set_ 20 _).drew.cell 9⟩) (fail)
    all_goals
      go_wp2_with fail
      go_meet
      exact ⟨_, _, ((K2.out.set_ 19 (.int .u32 _)).set_ 20 (.int .u32 _)).drew, ((B2.out.setCell (p := ⟨B, 19, none⟩) hN _).setCell (p := ⟨B, 20, none⟩) hN _).drew⟩
  obtain ⟨nx, po, kc, hbc⟩ := hcut
  have KC := Lib.hid kc
  have BC := Lib.hid hbc
  clear kc hbc d7 d9 d19 d20 fz hl1
  go_wp2_with fail
  refine (round_nil _ B c 3 0 0 (0) nx po 0 hn0 hn1 hp KC.out).mono ?_
  rintro e w3 ⟨v, rfl, hv, hb3⟩
  go_wp2_with fail
  go_ret
  exact ⟨v, 3, _, nx, po, rfl, by decide, KC.out.below hb3 KC.out.lt, BC.out.trans (hb3.mono (by have := KC.out.lt; omega))⟩

set_option maxHeartbeats 2000000 in
set_option maxRecDepth 20000 in
theorem up_other (w : World) (B N : Nat) (c : LC) (hN : N ≤ B) (hn0 : 0 ≤ c.nb) (hn1 : c.nb ≤ 32) (hp : c.peers = false) (hps : c.ps = false) (hpe : ∃ A k, c.pe = .slice A 0 k) (hsh : c.shared = true) (h8 : c.pr = 0) (k : Blk w B 119 (lks c 0 0 0 0 0 0 0 (.slice none 0 0))) :
    Calls Try.prog 33 #[.pointer (some ⟨B, 0, none⟩)] w fun e w' => UpAnyPost B N c w e w' := by
  obtain ⟨A, cap, hpe⟩ := hpe
  have HPE := Lib.hid hpe
  have hp2 : ∀ W, Calls Try.prog 68 #[.agg #[.int .u8 c.ty, .int .u32 c.ro, .int .u32 c.na, .int .u8 c.nb, .int .u32 c.ad, .int .u8 c.op, .int .u16 c.hi, .int .u32 c.dd, .int .u16 c.po, .int .u8 c.pr, .bool c.dm, .bool c.ps, c.pe, .int .u32 c.rm]] W fun e w' => e = .returned (.bool true) ∧ Below W.heap.size W w' := fun W => by have h := shared_any c W; rw [hsh] at h; exact h
  have HP := Lib.hid hp2
  have K := Lib.hid k
  have hlt : B < w.heap.size := k.lt
  have c1 : w.cell? ⟨B, 1, none⟩ = some (.int .u8 c.ty) := k.cell 1
  have c2 : w.cell? ⟨B, 2, none⟩ = some (.int .u32 c.ro) := k.cell 2
  have c3 : w.cell? ⟨B, 3, none⟩ = some (.int .u32 c.na) := k.cell 3
  have c4 : w.cell? ⟨B, 4, none⟩ = some (.int .u8 c.nb) := k.cell 4
  have c5 : w.cell? ⟨B, 5, none⟩ = some (.int .u32 c.ad) := k.cell 5
  have c6 : w.cell? ⟨B, 6, none⟩ = some (.int .u8 c.op) := k.cell 6
  have c7 : w.cell? ⟨B, 7, none⟩ = some (.int .u16 c.hi) := k.cell 7
  have c8 : w.cell? ⟨B, 8, none⟩ = some (.int .u32 c.dd) := k.cell 8
  have c9 : w.cell? ⟨B, 9, none⟩ = some (.int .u16 c.po) := k.cell 9
  have c10 : w.cell? ⟨B, 10, none⟩ = some (.int .u8 c.pr) := k.cell 10
  have c11 : w.cell? ⟨B, 11, none⟩ = some (.bool c.dm) := k.cell 11
  have c12 : w.cell? ⟨B, 12, none⟩ = some (.bool c.ps) := k.cell 12
  have c13 : w.cell? ⟨B, 13, none⟩ = some (c.pe) := k.cell 13
  have c14 : w.cell? ⟨B, 14, none⟩ = some (.int .u32 c.rm) := k.cell 14
  have c15 : w.cell? ⟨B, 15, none⟩ = some (.int .u8 0) := k.cell 15
  have c12' : w.cell? ⟨B, 12, none⟩ = some (.bool false) := c12.trans (by rw [hps])
  clear c12
  have H_h8 := Lib.hid h8
  clear h8
  clear k hp2 hps hpe hsh
  go_enter Try.func33, Try.ntmps33
  go_upto_region 7 with (go_at_call 67; refine (none_lk _ _ _ K.out rfl).mono ?_; rintro e w' ⟨rfl, rfl⟩)
  have c12 : w.cell? ⟨B, 12, none⟩ = some (.bool c.ps) := K.out.cell 12
  clear c12'
  go_wp2_with fail
  refine (HP.out _).mono ?_
  rintro e w1 ⟨rfl, hb1⟩
  have K1 := Lib.hid (K.out.below hb1 K.out.lt)
  have B1 := Lib.hid (hb1.mono (show N ≤ w.heap.size by omega))
  clear c1 c2 c3 c4 c5 c6 c7 c8 c9 c10 c11 c12 c13 c14 c15 hb1
  have h8 := H_h8.out
  have d8 : w1.cell? ⟨B, 8, none⟩ = some (.int .u32 c.dd) := K1.out.cell 8
  have d10 : w1.cell? ⟨B, 10, none⟩ = some (.int .u8 c.pr) := K1.out.cell 10
  have d13 : w1.cell? ⟨B, 13, none⟩ = some (.slice A 0 cap) := (K1.out.cell 13).trans (congrArg some HPE.out)
  have d15 : w1.cell? ⟨B, 15, none⟩ = some (.int .u8 0) := K1.out.cell 15
  have d18 : w1.cell? ⟨B, 18, none⟩ = some (.int .u32 0) := K1.out.cell 18
  have d22 : w1.cell? ⟨B, 22, none⟩ = some (.slice none 0 0) := K1.out.cell 22
  have fz := K1.out.frozen
  have hl1 : B < w1.heap.size := K1.out.lt
  go_wp2_with fail
  refine wp_loop_rounds 1 ?_
  rw [rounds_succ]
  go_wp2_with fail
  obtain ⟨W2, hW2⟩ : ∃ W2, W2 = (w1.setCell ⟨B, 15, none⟩ (.int .u8 4)).setCell ⟨B, 22, none⟩ (.slice none 0 0) := ⟨_, rfl⟩
  have K2 : Hid (Blk W2 B 119 (lks c 4 0 0 (0) 0 0 0 (.slice none 0 0))) := Lib.hid (by rw [hW2]; exact ((K1.out.set_ 15 (.int .u8 4)).set_ 22 (.slice none 0 0)))
  have B2 : Hid (Below N w W2) := Lib.hid (by rw [hW2]; exact ((B1.out.setCell (p := ⟨B, 15, none⟩) hN _).setCell (p := ⟨B, 22, none⟩) hN _))
  rw [← hW2]
  clear hW2 d8 d10 d13 d15 d18 d22 fz hl1
  have d7 : W2.cell? ⟨B, 7, none⟩ = some (.int .u16 c.hi) := K2.out.cell 7
  have d9 : W2.cell? ⟨B, 9, none⟩ = some (.int .u16 c.po) := K2.out.cell 9
  have d19 : W2.cell? ⟨B, 19, none⟩ = some (.int .u32 0) := K2.out.cell 19
  have d20 : W2.cell? ⟨B, 20, none⟩ = some (.int .u32 0) := K2.out.cell 20
  have fz := K2.out.frozen
  have hl1 : B < W2.heap.size := K2.out.lt
  go_cut [] from 118 to 135 (fun wx => ∃ nx po, Blk wx B 119 (lks c 4 0 0 (0) nx po 0 (.slice none 0 0)) ∧ Below N w wx)
  case first =>
    go_region_held3 (fun w' => w'.cell? ⟨B, 7, none⟩ = some (.int .u16 c.hi) ∧ w'.cell? ⟨B, 9, none⟩ = some (.int .u16 c.po)) (first
      | assumption
      | exact ⟨K2.out.drew.cell 7, K2.out.drew.cell 9⟩
      | exact ⟨(K2.out.set_ 19 _).drew.cell 7, (K2.out.set_ 19 _).drew.cell 9⟩
      | exact ⟨((K2.out.set_ 19 _).set_ 20 _).drew.cell 7, ((K2.out.set_ 19 _).set_ 20 _).drew.cell 9⟩) (fail)
    all_goals
      go_wp2_with fail
      go_meet
      exact ⟨_, _, ((K2.out.set_ 19 (.int .u32 _)).set_ 20 (.int .u32 _)).drew, ((B2.out.setCell (p := ⟨B, 19, none⟩) hN _).setCell (p := ⟨B, 20, none⟩) hN _).drew⟩
  obtain ⟨nx, po, kc, hbc⟩ := hcut
  have KC := Lib.hid kc
  have BC := Lib.hid hbc
  clear kc hbc d7 d9 d19 d20 fz hl1
  go_wp2_with fail
  refine (round_nil _ B c 4 0 0 (0) nx po 0 hn0 hn1 hp KC.out).mono ?_
  rintro e w3 ⟨v, rfl, hv, hb3⟩
  go_wp2_with fail
  go_ret
  exact ⟨v, 4, _, nx, po, rfl, by decide, KC.out.below hb3 KC.out.lt, BC.out.trans (hb3.mono (by have := KC.out.lt; omega))⟩

set_option maxHeartbeats 2000000 in
set_option maxRecDepth 20000 in
theorem up_wait (w : World) (B N : Nat) (c : LC) (hN : N ≤ B) (hn0 : 0 ≤ c.nb) (hn1 : c.nb ≤ 32) (hp : c.peers = false) (hps : c.ps = false) (hpe : ∃ A k, c.pe = .slice A 0 k) (hsh : c.shared = true) (h8 : c.pr ≠ 0) (k : Blk w B 119 (lks c 0 0 0 0 0 0 0 (.slice none 0 0))) :
    Calls Try.prog 33 #[.pointer (some ⟨B, 0, none⟩)] w fun e w' => UpAnyPost B N c w e w' := by
  obtain ⟨A, cap, hpe⟩ := hpe
  have HPE := Lib.hid hpe
  have hp2 : ∀ W, Calls Try.prog 68 #[.agg #[.int .u8 c.ty, .int .u32 c.ro, .int .u32 c.na, .int .u8 c.nb, .int .u32 c.ad, .int .u8 c.op, .int .u16 c.hi, .int .u32 c.dd, .int .u16 c.po, .int .u8 c.pr, .bool c.dm, .bool c.ps, c.pe, .int .u32 c.rm]] W fun e w' => e = .returned (.bool true) ∧ Below W.heap.size W w' := fun W => by have h := shared_any c W; rw [hsh] at h; exact h
  have HP := Lib.hid hp2
  have K := Lib.hid k
  have hlt : B < w.heap.size := k.lt
  have c1 : w.cell? ⟨B, 1, none⟩ = some (.int .u8 c.ty) := k.cell 1
  have c2 : w.cell? ⟨B, 2, none⟩ = some (.int .u32 c.ro) := k.cell 2
  have c3 : w.cell? ⟨B, 3, none⟩ = some (.int .u32 c.na) := k.cell 3
  have c4 : w.cell? ⟨B, 4, none⟩ = some (.int .u8 c.nb) := k.cell 4
  have c5 : w.cell? ⟨B, 5, none⟩ = some (.int .u32 c.ad) := k.cell 5
  have c6 : w.cell? ⟨B, 6, none⟩ = some (.int .u8 c.op) := k.cell 6
  have c7 : w.cell? ⟨B, 7, none⟩ = some (.int .u16 c.hi) := k.cell 7
  have c8 : w.cell? ⟨B, 8, none⟩ = some (.int .u32 c.dd) := k.cell 8
  have c9 : w.cell? ⟨B, 9, none⟩ = some (.int .u16 c.po) := k.cell 9
  have c10 : w.cell? ⟨B, 10, none⟩ = some (.int .u8 c.pr) := k.cell 10
  have c11 : w.cell? ⟨B, 11, none⟩ = some (.bool c.dm) := k.cell 11
  have c12 : w.cell? ⟨B, 12, none⟩ = some (.bool c.ps) := k.cell 12
  have c13 : w.cell? ⟨B, 13, none⟩ = some (c.pe) := k.cell 13
  have c14 : w.cell? ⟨B, 14, none⟩ = some (.int .u32 c.rm) := k.cell 14
  have c15 : w.cell? ⟨B, 15, none⟩ = some (.int .u8 0) := k.cell 15
  have c12' : w.cell? ⟨B, 12, none⟩ = some (.bool false) := c12.trans (by rw [hps])
  clear c12
  have H_h8 := Lib.hid h8
  clear h8
  clear k hp2 hps hpe hsh
  go_enter Try.func33, Try.ntmps33
  go_upto_region 7 with (go_at_call 67; refine (none_lk _ _ _ K.out rfl).mono ?_; rintro e w' ⟨rfl, rfl⟩)
  have c12 : w.cell? ⟨B, 12, none⟩ = some (.bool c.ps) := K.out.cell 12
  clear c12'
  go_wp2_with fail
  refine (HP.out _).mono ?_
  rintro e w1 ⟨rfl, hb1⟩
  have K1 := Lib.hid (K.out.below hb1 K.out.lt)
  have B1 := Lib.hid (hb1.mono (show N ≤ w.heap.size by omega))
  clear c1 c2 c3 c4 c5 c6 c7 c8 c9 c10 c11 c12 c13 c14 c15 hb1
  have h8 := H_h8.out
  have e_h8 : (c.pr == 0) = false := by simpa using h8
  have d8 : w1.cell? ⟨B, 8, none⟩ = some (.int .u32 c.dd) := K1.out.cell 8
  have d10 : w1.cell? ⟨B, 10, none⟩ = some (.int .u8 c.pr) := K1.out.cell 10
  have d13 : w1.cell? ⟨B, 13, none⟩ = some (.slice A 0 cap) := (K1.out.cell 13).trans (congrArg some HPE.out)
  have d15 : w1.cell? ⟨B, 15, none⟩ = some (.int .u8 0) := K1.out.cell 15
  have d18 : w1.cell? ⟨B, 18, none⟩ = some (.int .u32 0) := K1.out.cell 18
  have d22 : w1.cell? ⟨B, 22, none⟩ = some (.slice none 0 0) := K1.out.cell 22
  have fz := K1.out.frozen
  have hl1 : B < w1.heap.size := K1.out.lt
  go_wp2_with fail
  refine wp_loop_rounds 1 ?_
  rw [rounds_succ]
  go_wp2_with fail
  obtain ⟨W2, hW2⟩ : ∃ W2, W2 = ((w1.setCell ⟨B, 15, none⟩ (.int .u8 2)).setCell ⟨B, 18, none⟩ (.int .u32 c.dd)).setCell ⟨B, 22, none⟩ (.slice none 0 0) := ⟨_, rfl⟩
  have K2 : Hid (Blk W2 B 119 (lks c 2 0 0 (c.dd) 0 0 0 (.slice none 0 0))) := Lib.hid (by rw [hW2]; exact (((K1.out.set_ 15 (.int .u8 2)).set_ 18 (.int .u32 c.dd)).set_ 22 (.slice none 0 0)))
  have B2 : Hid (Below N w W2) := Lib.hid (by rw [hW2]; exact (((B1.out.setCell (p := ⟨B, 15, none⟩) hN _).setCell (p := ⟨B, 18, none⟩) hN _).setCell (p := ⟨B, 22, none⟩) hN _))
  rw [← hW2]
  clear hW2 d8 d10 d13 d15 d18 d22 fz hl1
  have d7 : W2.cell? ⟨B, 7, none⟩ = some (.int .u16 c.hi) := K2.out.cell 7
  have d9 : W2.cell? ⟨B, 9, none⟩ = some (.int .u16 c.po) := K2.out.cell 9
  have d19 : W2.cell? ⟨B, 19, none⟩ = some (.int .u32 0) := K2.out.cell 19
  have d20 : W2.cell? ⟨B, 20, none⟩ = some (.int .u32 0) := K2.out.cell 20
  have fz := K2.out.frozen
  have hl1 : B < W2.heap.size := K2.out.lt
  go_cut [] from 118 to 135 (fun wx => ∃ nx po, Blk wx B 119 (lks c 2 0 0 (c.dd) nx po 0 (.slice none 0 0)) ∧ Below N w wx)
  case first =>
    go_region_held3 (fun w' => w'.cell? ⟨B, 7, none⟩ = some (.int .u16 c.hi) ∧ w'.cell? ⟨B, 9, none⟩ = some (.int .u16 c.po)) (first
      | assumption
      | exact ⟨K2.out.drew.cell 7, K2.out.drew.cell 9⟩
      | exact ⟨(K2.out.set_ 19 _).drew.cell 7, (K2.out.set_ 19 _).drew.cell 9⟩
      | exact ⟨((K2.out.set_ 19 _).set_ 20 _).drew.cell 7, ((K2.out.set_ 19 _).set_ 20 _).drew.cell 9⟩) (fail)
    all_goals
      go_wp2_with fail
      go_meet
      exact ⟨_, _, ((K2.out.set_ 19 (.int .u32 _)).set_ 20 (.int .u32 _)).drew, ((B2.out.setCell (p := ⟨B, 19, none⟩) hN _).setCell (p := ⟨B, 20, none⟩) hN _).drew⟩
  obtain ⟨nx, po, kc, hbc⟩ := hcut
  have KC := Lib.hid kc
  have BC := Lib.hid hbc
  clear kc hbc d7 d9 d19 d20 fz hl1
  go_wp2_with fail
  refine (round_nil _ B c 2 0 0 (c.dd) nx po 0 hn0 hn1 hp KC.out).mono ?_
  rintro e w3 ⟨v, rfl, hv, hb3⟩
  go_wp2_with fail
  go_ret
  exact ⟨v, 2, _, nx, po, rfl, by decide, KC.out.below hb3 KC.out.lt, BC.out.trans (hb3.mono (by have := KC.out.lt; omega))⟩
theorem up_np (w : World) (B N : Nat) (c : LC) (hN : N ≤ B) (hn0 : 0 ≤ c.nb) (hn1 : c.nb ≤ 32) (hp : c.peers = false) (hps : c.ps = false) (hpe : ∃ A k, c.pe = .slice A 0 k) (k : Blk w B 119 (lks c 0 0 0 0 0 0 0 (.slice none 0 0))) :
    Calls Try.prog 33 #[.pointer (some ⟨B, 0, none⟩)] w fun e w' => UpAnyPost B N c w e w' := by
  cases hs : c.shared with
  | false => exact up_pair w B N c hN hn0 hn1 hp hps hpe hs k
  | true =>
    by_cases h8 : c.pr = 0
    · exact up_other w B N c hN hn0 hn1 hp hps hpe hs h8 k
    · exact up_wait w B N c hN hn0 hn1 hp hps hpe hs h8 k
end Go.Proofs.Ytgbmhijgpdgdbaa
