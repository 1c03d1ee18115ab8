/- Up, exactly, of a link on a shared net. -/
import Derived.Test.YtgbmhijgpdgdbaaUpAny
import Derived.Test.YtgbmhijgpdgdbaaPairRound
namespace Go.Proofs.Ytgbmhijgpdgdbaa
open Go.RowKit

def RndNil (c : LC) (dr bd ro : Int) (w : World) (e : Ending) (w' : World) : Prop :=
  ∃ v, e = .returned v ∧ SayAt w' c ro v (some ⟨c.pr, dr, bd, false⟩) ∧ Below w.heap.size w w'

set_option maxHeartbeats 2000000 in
set_option maxRecDepth 20000 in
theorem rnd_nil (w : World) (B : Nat) (c : LC) (st dr bd wt nx po re : Int) (hn0 : 0 ≤ c.nb) (hn1 : c.nb ≤ 32) (hp : c.peers = false) (h7 : c.ty ≠ 4) (hdm : c.dm = false) (ro : Int) (k : Blk w B 119 (lks c st dr bd wt nx po re (.slice none 0 0))) :
    Calls Try.prog 69 #[.pointer (some ⟨B, 0, none⟩), .bool false] w fun e w' => RndNil c dr bd ro w e w' := by
  have hp2 : ∀ W, Calls Try.prog 63 #[.agg #[.int .u8 c.ty, .int .u32 c.ro, .int .u32 c.na, .int .u8 c.nb, .int .u32 c.ad, .int .u8 c.op, .int .u16 c.hi, .int .u32 c.dd, .int .u16 c.po, .int .u8 c.pr, .bool c.dm, .bool c.ps, c.pe, .int .u32 c.rm]] W fun e w' => e = .returned (.bool false) ∧ Below W.heap.size W w' := fun W => by have h := peers_any c W; rw [hp] at h; exact h
  have HP := Lib.hid hp2
  have HDm := Lib.hid hdm
  clear hdm
  clear hp2 hp
  have H_h7 := Lib.hid h7
  clear h7
  have K := Lib.hid k
  have hlt : B < w.heap.size := k.lt
  have hmf : ∀ (fn : Fn) (first cap : Array Value) (w : World), (Instr.makeFunc fn first cap).run Try.prog w = .ok (.func fn first cap) w := fun _ _ _ _ => rfl
  clear k
  refine (callsIn_wide (n := 3)).1 ?_
  refine callsIn_of_wp_marks Try.func69 rfl trivial ?_ rfl
  rw [wpIn_wide]
  simp only [Try.ntmps69, List.size_toArray, List.length_cons, List.length_nil, Nat.reduceAdd, Nat.reduceSub, Array.replicate_succ, Array.replicate_zero, List.push_toArray, List.append_toArray, List.nil_append, List.cons_append]
  go_upto_region 2 with fail
  obtain ⟨W0, hW0⟩ : ∃ W0, W0 = (((w.alloc (.cells #[.pointer (some ⟨B, 0, none⟩)] 78)).alloc (.cells #[.bool false] 4)).alloc (.cells #[.slice none 0 0] 85)).alloc (.cells #[.slice none 0 0] 85) := ⟨_, rfl⟩
  have K0 : Hid (Blk W0 B 119 (lks c st dr bd wt nx po re (.slice none 0 0))) := Lib.hid (by rw [hW0]; exact (((K.out.alloc _).alloc _).alloc _).alloc _)
  have A0 : Hid (Blk W0 w.heap.size 78 #[.pointer (some ⟨B, 0, none⟩)]) := Lib.hid (by rw [hW0]; exact (((Blk.new w _ _).alloc _).alloc _).alloc _)
  have A1 : Hid (Blk W0 (w.heap.size + 1) 4 #[.bool false]) := Lib.hid (by rw [hW0]; have := Blk.new (w.alloc (.cells #[.pointer (some ⟨B, 0, none⟩)] 78)) 4 #[.bool false]; rw [World.size_alloc] at this; exact ((this).alloc _).alloc _)
  have A2 : Hid (Blk W0 (w.heap.size + 1 + 1) 85 #[.slice none 0 0]) := Lib.hid (by rw [hW0]; have := Blk.new ((w.alloc (.cells #[.pointer (some ⟨B, 0, none⟩)] 78)).alloc (.cells #[.bool false] 4)) 85 #[.slice none 0 0]; simp only [World.size_alloc] at this; exact (this).alloc _)
  have B0 : Hid (Below w.heap.size w W0) := Lib.hid (by rw [hW0]; exact ((((Below.refl _ w).alloc (Nat.le_refl _) _).alloc (by simp) _).alloc (by simp; omega) _).alloc (by simp; omega) _)
  have hs0 : w.heap.size + 1 + 1 < W0.heap.size := A2.out.lt
  rw [← hW0]
  clear hW0
  have p0 : W0.cell? ⟨w.heap.size, 0, none⟩ = some (.pointer (some ⟨B, 0, none⟩)) := A0.out.cell 0
  have e1 : W0.cell? ⟨B, 1, none⟩ = some (.int .u8 c.ty) := K0.out.cell 1
  have e2 : W0.cell? ⟨B, 2, none⟩ = some (.int .u32 c.ro) := K0.out.cell 2
  have e3 : W0.cell? ⟨B, 3, none⟩ = some (.int .u32 c.na) := K0.out.cell 3
  have e4 : W0.cell? ⟨B, 4, none⟩ = some (.int .u8 c.nb) := K0.out.cell 4
  have e5 : W0.cell? ⟨B, 5, none⟩ = some (.int .u32 c.ad) := K0.out.cell 5
  have e6 : W0.cell? ⟨B, 6, none⟩ = some (.int .u8 c.op) := K0.out.cell 6
  have e7 : W0.cell? ⟨B, 7, none⟩ = some (.int .u16 c.hi) := K0.out.cell 7
  have e8 : W0.cell? ⟨B, 8, none⟩ = some (.int .u32 c.dd) := K0.out.cell 8
  have e9 : W0.cell? ⟨B, 9, none⟩ = some (.int .u16 c.po) := K0.out.cell 9
  have e10 : W0.cell? ⟨B, 10, none⟩ = some (.int .u8 c.pr) := K0.out.cell 10
  have e11 : W0.cell? ⟨B, 11, none⟩ = some (.bool c.dm) := K0.out.cell 11
  have e12 : W0.cell? ⟨B, 12, none⟩ = some (.bool c.ps) := K0.out.cell 12
  have e13 : W0.cell? ⟨B, 13, none⟩ = some (c.pe) := K0.out.cell 13
  have e14 : W0.cell? ⟨B, 14, none⟩ = some (.int .u32 c.rm) := K0.out.cell 14
  have hl0 : B < W0.heap.size := K0.out.lt
  go_wp2_with fail
  refine (HP.out _).mono ?_
  rintro e w1 ⟨rfl, hb1⟩
  have K1 := Lib.hid (K0.out.below hb1 K0.out.lt)
  have A01 := Lib.hid (A0.out.below hb1 A0.out.lt)
  have A11 := Lib.hid (A1.out.below hb1 A1.out.lt)
  have A21 := Lib.hid (A2.out.below hb1 A2.out.lt)
  have B1 := Lib.hid (B0.out.trans (hb1.mono B0.out.size))
  clear p0 e1 e2 e3 e4 e5 e6 e7 e8 e9 e10 e11 e12 e13 e14 hl0 hb1
  have p1 : w1.cell? ⟨w.heap.size, 0, none⟩ = some (.pointer (some ⟨B, 0, none⟩)) := A01.out.cell 0
  have h7 := H_h7.out
  have e_h7 : (c.ty == 4) = false := by simpa using h7
  have g1 : w1.cell? ⟨B, 1, none⟩ = some (.int .u8 c.ty) := K1.out.cell 1
  have g21 : w1.cell? ⟨B, 21, none⟩ = some (.int .u32 re) := K1.out.cell 21
  go_wp2_with fail
  refine (all_made _ _ _ ⟨_, rfl⟩ ⟨_, _, _, rfl⟩).mono ?_
  rintro e w2 ⟨rfl, hb2, b1, b2⟩
  have h2l : w1.heap.size + 1 < w2.heap.size := lt_of_cell b2
  have K2 := Lib.hid (K1.out.below hb2 K1.out.lt)
  have A02 := Lib.hid (A01.out.below hb2 A01.out.lt)
  have A12 := Lib.hid (A11.out.below hb2 A11.out.lt)
  have A22 := Lib.hid (A21.out.below hb2 A21.out.lt)
  have B2 := Lib.hid (B1.out.trans (hb2.mono B1.out.size))
  clear p1 g1 g21 hb2
  go_wp2_with fail
  refine wp_rangeFunc_none rfl enters_all1 (fun l W hW => ?_) (fun D W hD hB hK => ?_)
  · refine all_nil W _ _ B l ?_ ?_
    · exact (hW.cell (p := ⟨w1.heap.size, 0, none⟩) (by simp; omega)).trans b1
    · exact (K2.out.below hW K2.out.lt).cell 22
  have KD := Lib.hid (K2.out.below hB K2.out.lt)
  have A0D := Lib.hid (A02.out.below hB A02.out.lt)
  have A1D := Lib.hid (A12.out.below hB A12.out.lt)
  have A2D := Lib.hid (A22.out.below hB A22.out.lt)
  have BD := Lib.hid (B2.out.trans (hB.mono B2.out.size))
  have p3 : W.cell? ⟨w.heap.size, 0, none⟩ = some (.pointer (some ⟨B, 0, none⟩)) := A0D.out.cell 0
  have p4 : W.cell? ⟨w.heap.size + 1, 0, none⟩ = some (.bool false) := A1D.out.cell 0
  clear hB b1 b2
  go_wp2_with fail
  refine (hello_nil _ B c st dr bd wt nx po re hn0 hn1 KD.out).mono ?_
  rintro e w3 ⟨rfl, hb3⟩
  have A23 := Lib.hid (A2D.out.below hb3 A2D.out.lt)
  have B3 := Lib.hid (BD.out.trans (hb3.mono BD.out.size))
  have hDl : D < W.heap.size := (Array.getElem?_eq_some_iff.1 hK).1
  have hK3 : w3.heap[D]? = some (.deferred (some [])) := (hb3.block D hDl).trans hK
  have q2 : w3.cell? ⟨w.heap.size + 1 + 1, 0, none⟩ = some (.slice none 0 0) := A23.out.cell 0
  have fz2 := A23.out.frozen 0
  have hl3 : w.heap.size + 1 + 1 < w3.heap.size := A23.out.lt
  have hD3 : D < w3.heap.size := by have := hb3.size; omega
  clear p3 p4 hb3 hK
  unfold helloV
  go_wp2_with fail
  obtain ⟨W4, hW4⟩ : ∃ W4, W4 = (w3.setCell ⟨w.heap.size + 1 + 1, 0, none⟩ (.slice (some ⟨w3.heap.size, 0, none⟩) 1 1)).alloc (.cells #[.int .u32 3758096389, .int .u32 (lmaskV c), .int .u16 c.hi, .int .u8 (optV c), .int .u8 c.pr, .int .u32 c.dd, .int .u32 dr, .int .u32 bd, .slice none 0 0] 105) := ⟨_, rfl⟩
  rw [← hW4]
  have hs3 : (w3.setCell ⟨w.heap.size + 1 + 1, 0, none⟩ (.slice (some ⟨w3.heap.size, 0, none⟩) 1 1)).heap.size = w3.heap.size := by simp [World.setCell]
  have hD2 : w2.heap.size ≤ D := hD
  have hwD : w.heap.size + 1 + 1 < D := by have := A22.out.lt; omega
  have hK4 : W4.heap[D]? = some (.deferred (some [])) := by
    rw [hW4, Below.heap_alloc _ _ D (by rw [hs3]; exact hD3), heap_far _ _ hwD]
    exact hK3
  have kS : Blk W4 w3.heap.size 105 #[.int .u32 3758096389, .int .u32 (lmaskV c), .int .u16 c.hi, .int .u8 (optV c), .int .u8 c.pr, .int .u32 c.dd, .int .u32 dr, .int .u32 bd, .slice none 0 0] := by
    have := Blk.new (w3.setCell ⟨w.heap.size + 1 + 1, 0, none⟩ (.slice (some ⟨w3.heap.size, 0, none⟩) 1 1)) 105 #[.int .u32 3758096389, .int .u32 (lmaskV c), .int .u16 c.hi, .int .u8 (optV c), .int .u8 c.pr, .int .u32 c.dd, .int .u32 dr, .int .u32 bd, .slice none 0 0]
    rw [hs3] at this
    rw [hW4]
    exact this
  have kR : Blk W4 (w.heap.size + 1 + 1) 85 #[.slice (some ⟨w3.heap.size, 0, none⟩) 1 1] := by
    rw [hW4]
    exact (A23.out.set_ 0 _).alloc _
  have hB4 : Below w.heap.size w W4 := by
    rw [hW4]
    exact (B3.out.setCell (p := ⟨w.heap.size + 1 + 1, 0, none⟩) (by simp; omega) _).alloc (by rw [hs3]; exact B3.out.size) _
  refine ⟨by simp, .inl ⟨_, _, rfl, run_takeDeferred hK4, ?_⟩⟩
  have k9 := kR.grown (grownBy_putObj' W4 D (.deferred none)) (by simp; omega)
  have kS9 := kS.grown (grownBy_putObj' W4 D (.deferred none)) (by simp; omega)
  have u0 := (k9.cell 0).trans rfl
  have e_mask : lmaskV c = maskN c.nb.toNat := if_neg H_h7.out
  have e_opt : optV c = c.op := by rw [optV, HDm.out]; rfl
  refine ⟨.slice (some ⟨w3.heap.size, 0, none⟩) 1 1, ?_, ⟨_, rfl, ⟨_, _, rfl, (by rw [e_mask, e_opt] at kS9; exact kS9), rfl⟩, hB4.trans (below_put hK4 (by omega))⟩⟩
  simp [results, Try.f69, go_sem, u0]

def UpPair (B : Nat) (c : LC) (ro st wt : Int) (w : World) (e : Ending) (w' : World) : Prop :=
  ∃ v, e = .returned v ∧ SayAt w' c ro v (some ⟨c.pr, 0, 0, false⟩) ∧ Frame (fun j => j = B) w w' ∧ Blk w' B 119 (lks c st 0 0 wt c.hi 0 0 (.slice none 0 0))

set_option maxHeartbeats 2000000 in
set_option maxRecDepth 20000 in
theorem pup_other (w : World) (B : Nat) (c : LC) (ro : Int) (h7 : c.ty ≠ 4) (hdm : c.dm = false) (hhi : c.hi % 4294967296 = c.hi) (hpo : c.po = 0) (hn0 : 0 ≤ c.nb) (hn1 : c.nb ≤ 32) (hp : c.peers = false) (hps : c.ps = false) (hpe : ∃ A k, c.pe = .slice A 0 k) (hsh : c.shared = true) (h8 : c.pr = 0) (k : Blk w B 119 (lks c 0 0 0 0 0 0 0 (.slice none 0 0))) :
    Calls Try.prog 33 #[.pointer (some ⟨B, 0, none⟩)] w fun e w' => UpPair B c ro 4 0 w e w' := by
  obtain ⟨A, cap, hpe⟩ := hpe
  have HPE := Lib.hid hpe
  have HHi := Lib.hid hhi
  have HPo := Lib.hid hpo
  have H7 := Lib.hid h7
  have HDm := Lib.hid hdm
  clear hhi hpo h7 hdm
  have hp2 : ∀ W, Calls Try.prog 68 #[.agg #[.int .u8 c.ty, .int .u32 c.ro, .int .u32 c.na, .int .u8 c.nb, .int .u32 c.ad, .int .u8 c.op, .int .u16 c.hi, .int .u32 c.dd, .int .u16 c.po, .int .u8 c.pr, .bool c.dm, .bool c.ps, c.pe, .int .u32 c.rm]] W fun e w' => e = .returned (.bool true) ∧ Below W.heap.size W w' := fun W => by have h := shared_any c W; rw [hsh] at h; exact h
  have HP := Lib.hid hp2
  have K := Lib.hid k
  have hlt : B < w.heap.size := k.lt
  have c1 : w.cell? ⟨B, 1, none⟩ = some (.int .u8 c.ty) := k.cell 1
  have c2 : w.cell? ⟨B, 2, none⟩ = some (.int .u32 c.ro) := k.cell 2
  have c3 : w.cell? ⟨B, 3, none⟩ = some (.int .u32 c.na) := k.cell 3
  have c4 : w.cell? ⟨B, 4, none⟩ = some (.int .u8 c.nb) := k.cell 4
  have c5 : w.cell? ⟨B, 5, none⟩ = some (.int .u32 c.ad) := k.cell 5
  have c6 : w.cell? ⟨B, 6, none⟩ = some (.int .u8 c.op) := k.cell 6
  have c7 : w.cell? ⟨B, 7, none⟩ = some (.int .u16 c.hi) := k.cell 7
  have c8 : w.cell? ⟨B, 8, none⟩ = some (.int .u32 c.dd) := k.cell 8
  have c9 : w.cell? ⟨B, 9, none⟩ = some (.int .u16 c.po) := k.cell 9
  have c10 : w.cell? ⟨B, 10, none⟩ = some (.int .u8 c.pr) := k.cell 10
  have c11 : w.cell? ⟨B, 11, none⟩ = some (.bool c.dm) := k.cell 11
  have c12 : w.cell? ⟨B, 12, none⟩ = some (.bool c.ps) := k.cell 12
  have c13 : w.cell? ⟨B, 13, none⟩ = some (c.pe) := k.cell 13
  have c14 : w.cell? ⟨B, 14, none⟩ = some (.int .u32 c.rm) := k.cell 14
  have c15 : w.cell? ⟨B, 15, none⟩ = some (.int .u8 0) := k.cell 15
  have c12' : w.cell? ⟨B, 12, none⟩ = some (.bool false) := c12.trans (by rw [hps])
  clear c12
  have H_h8 := Lib.hid h8
  clear h8
  clear k hp2 hps hpe hsh
  go_enter Try.func33, Try.ntmps33
  go_upto_region 7 with (go_at_call 67; refine (none_lk _ _ _ K.out rfl).mono ?_; rintro e w' ⟨rfl, rfl⟩)
  have c12 : w.cell? ⟨B, 12, none⟩ = some (.bool c.ps) := K.out.cell 12
  clear c12'
  go_wp2_with fail
  refine (HP.out _).mono ?_
  rintro e w1 ⟨rfl, hb1⟩
  have K1 := Lib.hid (K.out.below hb1 K.out.lt)
  have B1 := Lib.hid (Frame.of_below (S := fun j => j = B) hb1)
  clear c1 c2 c3 c4 c5 c6 c7 c8 c9 c10 c11 c12 c13 c14 c15 hb1
  have h8 := H_h8.out
  have d8 : w1.cell? ⟨B, 8, none⟩ = some (.int .u32 c.dd) := K1.out.cell 8
  have d10 : w1.cell? ⟨B, 10, none⟩ = some (.int .u8 c.pr) := K1.out.cell 10
  have d13 : w1.cell? ⟨B, 13, none⟩ = some (.slice A 0 cap) := (K1.out.cell 13).trans (congrArg some HPE.out)
  have d15 : w1.cell? ⟨B, 15, none⟩ = some (.int .u8 0) := K1.out.cell 15
  have d18 : w1.cell? ⟨B, 18, none⟩ = some (.int .u32 0) := K1.out.cell 18
  have d22 : w1.cell? ⟨B, 22, none⟩ = some (.slice none 0 0) := K1.out.cell 22
  have fz := K1.out.frozen
  have hl1 : B < w1.heap.size := K1.out.lt
  go_wp2_with fail
  refine wp_loop_rounds 1 ?_
  rw [rounds_succ]
  go_wp2_with fail
  obtain ⟨W2, hW2⟩ : ∃ W2, W2 = (w1.setCell ⟨B, 15, none⟩ (.int .u8 4)).setCell ⟨B, 22, none⟩ (.slice none 0 0) := ⟨_, rfl⟩
  have K2 : Hid (Blk W2 B 119 (lks c 4 0 0 (0) 0 0 0 (.slice none 0 0))) := Lib.hid (by rw [hW2]; exact ((K1.out.set_ 15 (.int .u8 4)).set_ 22 (.slice none 0 0)))
  have B2 : Hid (Frame (fun j => j = B) w W2) := Lib.hid (by rw [hW2]; exact ((B1.out.setCell (p := ⟨B, 15, none⟩) (fun _ => rfl) _).setCell (p := ⟨B, 22, none⟩) (fun _ => rfl) _))
  rw [← hW2]
  clear hW2 d8 d10 d13 d15 d18 d22 fz hl1
  have d7 : W2.cell? ⟨B, 7, none⟩ = some (.int .u16 c.hi) := K2.out.cell 7
  have d9 : W2.cell? ⟨B, 9, none⟩ = some (.int .u16 c.po) := K2.out.cell 9
  have d19 : W2.cell? ⟨B, 19, none⟩ = some (.int .u32 0) := K2.out.cell 19
  have d20 : W2.cell? ⟨B, 20, none⟩ = some (.int .u32 0) := K2.out.cell 20
  have fz := K2.out.frozen
  have hl1 : B < W2.heap.size := K2.out.lt
  go_cut [] from 118 to 135 (fun wx => Blk wx B 119 (lks c 4 0 0 (0) (c.hi % 4294967296) (c.po % 4294967296) 0 (.slice none 0 0)) ∧ Frame (fun j => j = B) w wx)
  case first =>
    go_region_held3 (fun w' => w'.cell? ⟨B, 7, none⟩ = some (.int .u16 c.hi) ∧ w'.cell? ⟨B, 9, none⟩ = some (.int .u16 c.po)) (first
      | assumption
      | exact ⟨K2.out.drew.cell 7, K2.out.drew.cell 9⟩
      | exact ⟨(K2.out.set_ 19 _).drew.cell 7, (K2.out.set_ 19 _).drew.cell 9⟩
      | exact ⟨((K2.out.set_ 19 _).set_ 20 _).drew.cell 7, ((K2.out.set_ 19 _).set_ 20 _).drew.cell 9⟩) (fail)
    all_goals
      go_wp2_with fail
      go_meet
      exact ⟨((K2.out.set_ 19 (.int .u32 _)).set_ 20 (.int .u32 _)).drew, ((B2.out.setCell (p := ⟨B, 19, none⟩) (fun _ => rfl) _).setCell (p := ⟨B, 20, none⟩) (fun _ => rfl) _).drew⟩
  obtain ⟨kc, hbc⟩ := hcut
  have ep : c.po % 4294967296 = 0 := by rw [HPo.out]; rfl
  rw [HHi.out, ep] at kc
  clear ep
  have KC := Lib.hid kc
  have BC := Lib.hid hbc
  clear kc hbc d7 d9 d19 d20 fz hl1
  go_wp2_with fail
  refine (rnd_nil _ B c 4 0 0 (0) c.hi 0 0 hn0 hn1 hp H7.out HDm.out ro KC.out).mono ?_
  rintro e w3 ⟨v, rfl, hv, hb3⟩
  go_wp2_with fail
  go_ret
  exact ⟨v, rfl, hv, BC.out.trans (Frame.of_below hb3), KC.out.below hb3 KC.out.lt⟩

set_option maxHeartbeats 2000000 in
set_option maxRecDepth 20000 in
theorem pup_wait (w : World) (B : Nat) (c : LC) (ro : Int) (h7 : c.ty ≠ 4) (hdm : c.dm = false) (hhi : c.hi % 4294967296 = c.hi) (hpo : c.po = 0) (hn0 : 0 ≤ c.nb) (hn1 : c.nb ≤ 32) (hp : c.peers = false) (hps : c.ps = false) (hpe : ∃ A k, c.pe = .slice A 0 k) (hsh : c.shared = true) (h8 : c.pr ≠ 0) (k : Blk w B 119 (lks c 0 0 0 0 0 0 0 (.slice none 0 0))) :
    Calls Try.prog 33 #[.pointer (some ⟨B, 0, none⟩)] w fun e w' => UpPair B c ro 2 c.dd w e w' := by
  obtain ⟨A, cap, hpe⟩ := hpe
  have HPE := Lib.hid hpe
  have HHi := Lib.hid hhi
  have HPo := Lib.hid hpo
  have H7 := Lib.hid h7
  have HDm := Lib.hid hdm
  clear hhi hpo h7 hdm
  have hp2 : ∀ W, Calls Try.prog 68 #[.agg #[.int .u8 c.ty, .int .u32 c.ro, .int .u32 c.na, .int .u8 c.nb, .int .u32 c.ad, .int .u8 c.op, .int .u16 c.hi, .int .u32 c.dd, .int .u16 c.po, .int .u8 c.pr, .bool c.dm, .bool c.ps, c.pe, .int .u32 c.rm]] W fun e w' => e = .returned (.bool true) ∧ Below W.heap.size W w' := fun W => by have h := shared_any c W; rw [hsh] at h; exact h
  have HP := Lib.hid hp2
  have K := Lib.hid k
  have hlt : B < w.heap.size := k.lt
  have c1 : w.cell? ⟨B, 1, none⟩ = some (.int .u8 c.ty) := k.cell 1
  have c2 : w.cell? ⟨B, 2, none⟩ = some (.int .u32 c.ro) := k.cell 2
  have c3 : w.cell? ⟨B, 3, none⟩ = some (.int .u32 c.na) := k.cell 3
  have c4 : w.cell? ⟨B, 4, none⟩ = some (.int .u8 c.nb) := k.cell 4
  have c5 : w.cell? ⟨B, 5, none⟩ = some (.int .u32 c.ad) := k.cell 5
  have c6 : w.cell? ⟨B, 6, none⟩ = some (.int .u8 c.op) := k.cell 6
  have c7 : w.cell? ⟨B, 7, none⟩ = some (.int .u16 c.hi) := k.cell 7
  have c8 : w.cell? ⟨B, 8, none⟩ = some (.int .u32 c.dd) := k.cell 8
  have c9 : w.cell? ⟨B, 9, none⟩ = some (.int .u16 c.po) := k.cell 9
  have c10 : w.cell? ⟨B, 10, none⟩ = some (.int .u8 c.pr) := k.cell 10
  have c11 : w.cell? ⟨B, 11, none⟩ = some (.bool c.dm) := k.cell 11
  have c12 : w.cell? ⟨B, 12, none⟩ = some (.bool c.ps) := k.cell 12
  have c13 : w.cell? ⟨B, 13, none⟩ = some (c.pe) := k.cell 13
  have c14 : w.cell? ⟨B, 14, none⟩ = some (.int .u32 c.rm) := k.cell 14
  have c15 : w.cell? ⟨B, 15, none⟩ = some (.int .u8 0) := k.cell 15
  have c12' : w.cell? ⟨B, 12, none⟩ = some (.bool false) := c12.trans (by rw [hps])
  clear c12
  have H_h8 := Lib.hid h8
  clear h8
  clear k hp2 hps hpe hsh
  go_enter Try.func33, Try.ntmps33
  go_upto_region 7 with (go_at_call 67; refine (none_lk _ _ _ K.out rfl).mono ?_; rintro e w' ⟨rfl, rfl⟩)
  have c12 : w.cell? ⟨B, 12, none⟩ = some (.bool c.ps) := K.out.cell 12
  clear c12'
  go_wp2_with fail
  refine (HP.out _).mono ?_
  rintro e w1 ⟨rfl, hb1⟩
  have K1 := Lib.hid (K.out.below hb1 K.out.lt)
  have B1 := Lib.hid (Frame.of_below (S := fun j => j = B) hb1)
  clear c1 c2 c3 c4 c5 c6 c7 c8 c9 c10 c11 c12 c13 c14 c15 hb1
  have h8 := H_h8.out
  have e_h8 : (c.pr == 0) = false := by simpa using h8
  have d8 : w1.cell? ⟨B, 8, none⟩ = some (.int .u32 c.dd) := K1.out.cell 8
  have d10 : w1.cell? ⟨B, 10, none⟩ = some (.int .u8 c.pr) := K1.out.cell 10
  have d13 : w1.cell? ⟨B, 13, none⟩ = some (.slice A 0 cap) := (K1.out.cell 13).trans (congrArg some HPE.out)
  have d15 : w1.cell? ⟨B, 15, none⟩ = some (.int .u8 0) := K1.out.cell 15
  have d18 : w1.cell? ⟨B, 18, none⟩ = some (.int .u32 0) := K1.out.cell 18
  have d22 : w1.cell? ⟨B, 22, none⟩ = some (.slice none 0 0) := K1.out.cell 22
  have fz := K1.out.frozen
  have hl1 : B < w1.heap.size := K1.out.lt
  go_wp2_with fail
  refine wp_loop_rounds 1 ?_
  rw [rounds_succ]
  go_wp2_with fail
  obtain ⟨W2, hW2⟩ : ∃ W2, W2 = ((w1.setCell ⟨B, 15, none⟩ (.int .u8 2)).setCell ⟨B, 18, none⟩ (.int .u32 c.dd)).setCell ⟨B, 22, none⟩ (.slice none 0 0) := ⟨_, rfl⟩
  have K2 : Hid (Blk W2 B 119 (lks c 2 0 0 (c.dd) 0 0 0 (.slice none 0 0))) := Lib.hid (by rw [hW2]; exact (((K1.out.set_ 15 (.int .u8 2)).set_ 18 (.int .u32 c.dd)).set_ 22 (.slice none 0 0)))
  have B2 : Hid (Frame (fun j => j = B) w W2) := Lib.hid (by rw [hW2]; exact (((B1.out.setCell (p := ⟨B, 15, none⟩) (fun _ => rfl) _).setCell (p := ⟨B, 18, none⟩) (fun _ => rfl) _).setCell (p := ⟨B, 22, none⟩) (fun _ => rfl) _))
  rw [← hW2]
  clear hW2 d8 d10 d13 d15 d18 d22 fz hl1
  have d7 : W2.cell? ⟨B, 7, none⟩ = some (.int .u16 c.hi) := K2.out.cell 7
  have d9 : W2.cell? ⟨B, 9, none⟩ = some (.int .u16 c.po) := K2.out.cell 9
  have d19 : W2.cell? ⟨B, 19, none⟩ = some (.int .u32 0) := K2.out.cell 19
  have d20 : W2.cell? ⟨B, 20, none⟩ = some (.int .u32 0) := K2.out.cell 20
  have fz := K2.out.frozen
  have hl1 : B < W2.heap.size := K2.out.lt
  go_cut [] from 118 to 135 (fun wx => Blk wx B 119 (lks c 2 0 0 (c.dd) (c.hi % 4294967296) (c.po % 4294967296) 0 (.slice none 0 0)) ∧ Frame (fun j => j = B) w wx)
  case first =>
    go_region_held3 (fun w' => w'.cell? ⟨B, 7, none⟩ = some (.int .u16 c.hi) ∧ w'.cell? ⟨B, 9, none⟩ = some (.int .u16 c.po)) (first
      | assumption
      | exact ⟨K2.out.drew.cell 7, K2.out.drew.cell 9⟩
      | exact ⟨(K2.out.set_ 19 _).drew.cell 7, (K2.out.set_ 19 _).drew.cell 9⟩
      | exact ⟨((K2.out.set_ 19 _).set_ 20 _).drew.cell 7, ((K2.out.set_ 19 _).set_ 20 _).drew.cell 9⟩) (fail)
    all_goals
      go_wp2_with fail
      go_meet
      exact ⟨((K2.out.set_ 19 (.int .u32 _)).set_ 20 (.int .u32 _)).drew, ((B2.out.setCell (p := ⟨B, 19, none⟩) (fun _ => rfl) _).setCell (p := ⟨B, 20, none⟩) (fun _ => rfl) _).drew⟩
  obtain ⟨kc, hbc⟩ := hcut
  have ep : c.po % 4294967296 = 0 := by rw [HPo.out]; rfl
  rw [HHi.out, ep] at kc
  clear ep
  have KC := Lib.hid kc
  have BC := Lib.hid hbc
  clear kc hbc d7 d9 d19 d20 fz hl1
  go_wp2_with fail
  refine (rnd_nil _ B c 2 0 0 (c.dd) c.hi 0 0 hn0 hn1 hp H7.out HDm.out ro KC.out).mono ?_
  rintro e w3 ⟨v, rfl, hv, hb3⟩
  go_wp2_with fail
  go_ret
  exact ⟨v, rfl, hv, BC.out.trans (Frame.of_below hb3), KC.out.below hb3 KC.out.lt⟩

end Go.Proofs.Ytgbmhijgpdgdbaa
