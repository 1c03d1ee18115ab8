/- What the link of 'works' may hear. -/
import Derived.Test.YtgbmhijgpdgdbaaLpHello13
set_option maxHeartbeats 2000000
set_option maxRecDepth 20000
namespace Go.Proofs.Ytgbmhijgpdgdbaa
open Go.RowKit
def RoundPost (w : World) (e : Ending) (w' : World) : Prop := ∃ S, e = .returned (.slice (some ⟨S, 0, none⟩) 1 1) ∧ w'.cell? ⟨S, 0, none⟩ = some (.int .u32 3758096389) ∧ w.heap.size ≤ S ∧ Below w.heap.size w w'
theorem round_lk (w : World) (B : Nat) (st wt nx : Int) (k : Blk w B 119 (lk st wt nx (.slice none 0 0))) :
    Calls Try.prog 69 #[.pointer (some ⟨B, 0, none⟩), .bool false] w fun e w' => RoundPost w e w' := by
  have hp := fun W => peers13 W
  unfold lcfg at hp
  have HP := Lib.hid hp
  clear hp
  have K := Lib.hid k
  have hlt : B < w.heap.size := k.lt
  have hmf : ∀ (fn : Fn) (first cap : Array Value) (w : World), (Instr.makeFunc fn first cap).run Try.prog w = .ok (.func fn first cap) w := fun _ _ _ _ => rfl
  clear k
  refine (callsIn_wide (n := 3)).1 ?_
  refine callsIn_of_wp_marks Try.func69 rfl trivial ?_ rfl
  rw [wpIn_wide]
  simp only [Try.ntmps69, List.size_toArray, List.length_cons, List.length_nil, Nat.reduceAdd, Nat.reduceSub, Array.replicate_succ, Array.replicate_zero, List.push_toArray, List.append_toArray, List.nil_append, List.cons_append]
  go_upto_region 2 with fail
  obtain ⟨W0, hW0⟩ : ∃ W0, W0 = (((w.alloc (.cells #[.pointer (some ⟨B, 0, none⟩)] 78)).alloc (.cells #[.bool false] 4)).alloc (.cells #[.slice none 0 0] 85)).alloc (.cells #[.slice none 0 0] 85) := ⟨_, rfl⟩
  have K0 : Hid (Blk W0 B 119 (lk st wt nx (.slice none 0 0))) := Lib.hid (by rw [hW0]; exact (((K.out.alloc _).alloc _).alloc _).alloc _)
  have A0 : Hid (Blk W0 w.heap.size 78 #[.pointer (some ⟨B, 0, none⟩)]) := Lib.hid (by rw [hW0]; exact (((Blk.new w _ _).alloc _).alloc _).alloc _)
  have A1 : Hid (Blk W0 (w.heap.size + 1) 4 #[.bool false]) := Lib.hid (by rw [hW0]; have := Blk.new (w.alloc (.cells #[.pointer (some ⟨B, 0, none⟩)] 78)) 4 #[.bool false]; rw [World.size_alloc] at this; exact ((this).alloc _).alloc _)
  have A2 : Hid (Blk W0 (w.heap.size + 1 + 1) 85 #[.slice none 0 0]) := Lib.hid (by rw [hW0]; have := Blk.new ((w.alloc (.cells #[.pointer (some ⟨B, 0, none⟩)] 78)).alloc (.cells #[.bool false] 4)) 85 #[.slice none 0 0]; simp only [World.size_alloc] at this; exact (this).alloc _)
  have B0 : Hid (Below w.heap.size w W0) := Lib.hid (by rw [hW0]; exact ((((Below.refl _ w).alloc (Nat.le_refl _) _).alloc (by simp) _).alloc (by simp; omega) _).alloc (by simp; omega) _)
  have hs0 : w.heap.size + 1 + 1 < W0.heap.size := A2.out.lt
  rw [← hW0]
  clear hW0
  have p0 : W0.cell? ⟨w.heap.size, 0, none⟩ = some (.pointer (some ⟨B, 0, none⟩)) := A0.out.cell 0
  have e1 : W0.cell? ⟨B, 1, none⟩ = some (.int .u8 0) := K0.out.cell 1
  have e2 : W0.cell? ⟨B, 2, none⟩ = some (.int .u32 1) := K0.out.cell 2
  have e3 : W0.cell? ⟨B, 3, none⟩ = some (.int .u32 167772160) := K0.out.cell 3
  have e4 : W0.cell? ⟨B, 4, none⟩ = some (.int .u8 24) := K0.out.cell 4
  have e5 : W0.cell? ⟨B, 5, none⟩ = some (.int .u32 167772161) := K0.out.cell 5
  have e6 : W0.cell? ⟨B, 6, none⟩ = some (.int .u8 2) := K0.out.cell 6
  have e7 : W0.cell? ⟨B, 7, none⟩ = some (.int .u16 10) := K0.out.cell 7
  have e8 : W0.cell? ⟨B, 8, none⟩ = some (.int .u32 40) := K0.out.cell 8
  have e9 : W0.cell? ⟨B, 9, none⟩ = some (.int .u16 0) := K0.out.cell 9
  have e10 : W0.cell? ⟨B, 10, none⟩ = some (.int .u8 1) := K0.out.cell 10
  have e11 : W0.cell? ⟨B, 11, none⟩ = some (.bool false) := K0.out.cell 11
  have e12 : W0.cell? ⟨B, 12, none⟩ = some (.bool false) := K0.out.cell 12
  have e13 : W0.cell? ⟨B, 13, none⟩ = some (.slice none 0 0) := K0.out.cell 13
  have e14 : W0.cell? ⟨B, 14, none⟩ = some (.int .u32 0) := K0.out.cell 14
  have hl0 : B < W0.heap.size := K0.out.lt
  go_wp2_with fail
  refine (HP.out _).mono ?_
  rintro e w1 ⟨rfl, hb1⟩
  have K1 := Lib.hid (K0.out.below hb1 K0.out.lt)
  have A01 := Lib.hid (A0.out.below hb1 A0.out.lt)
  have A11 := Lib.hid (A1.out.below hb1 A1.out.lt)
  have A21 := Lib.hid (A2.out.below hb1 A2.out.lt)
  have B1 := Lib.hid (B0.out.trans (hb1.mono B0.out.size))
  clear p0 e1 e2 e3 e4 e5 e6 e7 e8 e9 e10 e11 e12 e13 e14 hl0 hb1
  have p1 : w1.cell? ⟨w.heap.size, 0, none⟩ = some (.pointer (some ⟨B, 0, none⟩)) := A01.out.cell 0
  have g1 : w1.cell? ⟨B, 1, none⟩ = some (.int .u8 0) := K1.out.cell 1
  go_wp2_with fail
  refine (all_made _ _ _ ⟨_, rfl⟩ ⟨_, _, _, rfl⟩).mono ?_
  rintro e w2 ⟨rfl, hb2, b1, b2⟩
  have h2l : w1.heap.size + 1 < w2.heap.size := lt_of_cell b2
  have K2 := Lib.hid (K1.out.below hb2 K1.out.lt)
  have A02 := Lib.hid (A01.out.below hb2 A01.out.lt)
  have A12 := Lib.hid (A11.out.below hb2 A11.out.lt)
  have A22 := Lib.hid (A21.out.below hb2 A21.out.lt)
  have B2 := Lib.hid (B1.out.trans (hb2.mono B1.out.size))
  clear p1 g1 hb2
  go_wp2_with fail
  refine wp_rangeFunc_none rfl enters_all1 (fun l W hW => ?_) (fun D W hD hB hK => ?_)
  · refine all_nil W _ _ B l ?_ ?_
    · exact (hW.cell (p := ⟨w1.heap.size, 0, none⟩) (by simp; omega)).trans b1
    · exact (K2.out.below hW K2.out.lt).cell 22
  have KD := Lib.hid (K2.out.below hB K2.out.lt)
  have A0D := Lib.hid (A02.out.below hB A02.out.lt)
  have A1D := Lib.hid (A12.out.below hB A12.out.lt)
  have A2D := Lib.hid (A22.out.below hB A22.out.lt)
  have BD := Lib.hid (B2.out.trans (hB.mono B2.out.size))
  have p3 : W.cell? ⟨w.heap.size, 0, none⟩ = some (.pointer (some ⟨B, 0, none⟩)) := A0D.out.cell 0
  have p4 : W.cell? ⟨w.heap.size + 1, 0, none⟩ = some (.bool false) := A1D.out.cell 0
  clear hB b1 b2
  go_wp2_with fail
  refine (hello_lk _ B st wt nx KD.out).mono ?_
  rintro e w3 ⟨rfl, hb3⟩
  have A23 := Lib.hid (A2D.out.below hb3 A2D.out.lt)
  have B3 := Lib.hid (BD.out.trans (hb3.mono BD.out.size))
  have hDl : D < W.heap.size := (Array.getElem?_eq_some_iff.1 hK).1
  have hK3 : w3.heap[D]? = some (.deferred (some [])) := (hb3.block D hDl).trans hK
  have q2 : w3.cell? ⟨w.heap.size + 1 + 1, 0, none⟩ = some (.slice none 0 0) := A23.out.cell 0
  have fz2 := A23.out.frozen 0
  have hl3 : w.heap.size + 1 + 1 < w3.heap.size := A23.out.lt
  have hD3 : D < w3.heap.size := by have := hb3.size; omega
  clear p3 p4 hb3 hK
  unfold hv13
  go_wp2_with fail
  obtain ⟨W4, hW4⟩ : ∃ W4, W4 = (w3.setCell ⟨w.heap.size + 1 + 1, 0, none⟩ (.slice (some ⟨w3.heap.size, 0, none⟩) 1 1)).alloc (.cells #[.int .u32 3758096389, .int .u32 4294967040, .int .u16 10, .int .u8 2, .int .u8 1, .int .u32 40, .int .u32 0, .int .u32 0, .slice none 0 0] 105) := ⟨_, rfl⟩
  rw [← hW4]
  have hs3 : (w3.setCell ⟨w.heap.size + 1 + 1, 0, none⟩ (.slice (some ⟨w3.heap.size, 0, none⟩) 1 1)).heap.size = w3.heap.size := by simp [World.setCell]
  have hD2 : w2.heap.size ≤ D := hD
  have hwD : w.heap.size + 1 + 1 < D := by have := A22.out.lt; omega
  have hK4 : W4.heap[D]? = some (.deferred (some [])) := by
    rw [hW4, Below.heap_alloc _ _ D (by rw [hs3]; exact hD3), heap_far _ _ hwD]
    exact hK3
  have kS : Blk W4 w3.heap.size 105 #[.int .u32 3758096389, .int .u32 4294967040, .int .u16 10, .int .u8 2, .int .u8 1, .int .u32 40, .int .u32 0, .int .u32 0, .slice none 0 0] := by
    have := Blk.new (w3.setCell ⟨w.heap.size + 1 + 1, 0, none⟩ (.slice (some ⟨w3.heap.size, 0, none⟩) 1 1)) 105 #[.int .u32 3758096389, .int .u32 4294967040, .int .u16 10, .int .u8 2, .int .u8 1, .int .u32 40, .int .u32 0, .int .u32 0, .slice none 0 0]
    rw [hs3] at this
    rw [hW4]
    exact this
  have kR : Blk W4 (w.heap.size + 1 + 1) 85 #[.slice (some ⟨w3.heap.size, 0, none⟩) 1 1] := by
    rw [hW4]
    exact (A23.out.set_ 0 _).alloc _
  have hB4 : Below w.heap.size w W4 := by
    rw [hW4]
    exact (B3.out.setCell (p := ⟨w.heap.size + 1 + 1, 0, none⟩) (by simp; omega) _).alloc (by rw [hs3]; exact B3.out.size) _
  refine ⟨by simp, .inl ⟨_, _, rfl, run_takeDeferred hK4, ?_⟩⟩
  have k9 := kR.grown (grownBy_putObj' W4 D (.deferred none)) (by simp; omega)
  have kS9 := kS.grown (grownBy_putObj' W4 D (.deferred none)) (by simp; omega)
  have u0 := (k9.cell 0).trans rfl
  refine ⟨.slice (some ⟨w3.heap.size, 0, none⟩) 1 1, ?_, _, rfl, kS9.cell 0, B3.out.size, hB4.trans (below_put hK4 (by omega))⟩
  simp [results, Try.f69, go_sem, u0]
end Go.Proofs.Ytgbmhijgpdgdbaa
namespace Go.Proofs.Ytgbmhijgpdgdbaa
open Go.RowKit
theorem shared13 (w : World) : Calls Try.prog 68 #[lcfg] w fun e w' => e = .returned (.bool true) ∧ Below w.heap.size w w' := by
  unfold lcfg
  go_enter Try.func68, Try.ntmps68
  go_wp2_with fail
  go_ret
  exact ⟨rfl, (Below.refl _ _).alloc (Nat.le_refl _) _⟩
def UpPost (B N : Nat) (w : World) (e : Ending) (w' : World) : Prop := ∃ S, e = .returned (.slice (some ⟨S, 0, none⟩) 1 1) ∧ w'.cell? ⟨S, 0, none⟩ = some (.int .u32 3758096389) ∧ S ≠ B ∧ Blk w' B 119 (lk 2 40 10 (.slice none 0 0)) ∧ Below N w w'
theorem up_lk (w : World) (B N : Nat) (hN : N ≤ B) (k : Blk w B 119 (lk 0 0 0 (.slice none 0 0))) :
    Calls Try.prog 33 #[.pointer (some ⟨B, 0, none⟩)] w fun e w' => UpPost B N w e w' := by
  have hp := fun W => shared13 W
  unfold lcfg at hp
  have HP := Lib.hid hp
  clear hp
  have K := Lib.hid k
  have hlt : B < w.heap.size := k.lt
  have c1 : w.cell? ⟨B, 1, none⟩ = some (.int .u8 0) := k.cell 1
  have c2 : w.cell? ⟨B, 2, none⟩ = some (.int .u32 1) := k.cell 2
  have c3 : w.cell? ⟨B, 3, none⟩ = some (.int .u32 167772160) := k.cell 3
  have c4 : w.cell? ⟨B, 4, none⟩ = some (.int .u8 24) := k.cell 4
  have c5 : w.cell? ⟨B, 5, none⟩ = some (.int .u32 167772161) := k.cell 5
  have c6 : w.cell? ⟨B, 6, none⟩ = some (.int .u8 2) := k.cell 6
  have c7 : w.cell? ⟨B, 7, none⟩ = some (.int .u16 10) := k.cell 7
  have c8 : w.cell? ⟨B, 8, none⟩ = some (.int .u32 40) := k.cell 8
  have c9 : w.cell? ⟨B, 9, none⟩ = some (.int .u16 0) := k.cell 9
  have c10 : w.cell? ⟨B, 10, none⟩ = some (.int .u8 1) := k.cell 10
  have c11 : w.cell? ⟨B, 11, none⟩ = some (.bool false) := k.cell 11
  have c12 : w.cell? ⟨B, 12, none⟩ = some (.bool false) := k.cell 12
  have c13 : w.cell? ⟨B, 13, none⟩ = some (.slice none 0 0) := k.cell 13
  have c14 : w.cell? ⟨B, 14, none⟩ = some (.int .u32 0) := k.cell 14
  have c15 : w.cell? ⟨B, 15, none⟩ = some (.int .u8 0) := k.cell 15
  clear k
  go_enter Try.func33, Try.ntmps33
  go_wp2_with (go_at_call 67; refine (none_lk _ _ _ K.out rfl).mono ?_; rintro e w' ⟨rfl, rfl⟩)
  refine (HP.out _).mono ?_
  rintro e w1 ⟨rfl, hb1⟩
  have K1 := Lib.hid (K.out.below hb1 K.out.lt)
  have B1 := Lib.hid (hb1.mono (show N ≤ w.heap.size by omega))
  clear c1 c2 c3 c4 c5 c6 c7 c8 c9 c10 c11 c12 c13 c14 c15 hb1
  have d7 : w1.cell? ⟨B, 7, none⟩ = some (.int .u16 10) := K1.out.cell 7
  have d8 : w1.cell? ⟨B, 8, none⟩ = some (.int .u32 40) := K1.out.cell 8
  have d9 : w1.cell? ⟨B, 9, none⟩ = some (.int .u16 0) := K1.out.cell 9
  have d10 : w1.cell? ⟨B, 10, none⟩ = some (.int .u8 1) := K1.out.cell 10
  have d13 : w1.cell? ⟨B, 13, none⟩ = some (.slice none 0 0) := K1.out.cell 13
  have d15 : w1.cell? ⟨B, 15, none⟩ = some (.int .u8 0) := K1.out.cell 15
  have d18 : w1.cell? ⟨B, 18, none⟩ = some (.int .u32 0) := K1.out.cell 18
  have d19 : w1.cell? ⟨B, 19, none⟩ = some (.int .u32 0) := K1.out.cell 19
  have d20 : w1.cell? ⟨B, 20, none⟩ = some (.int .u32 0) := K1.out.cell 20
  have d22 : w1.cell? ⟨B, 22, none⟩ = some (.slice none 0 0) := K1.out.cell 22
  have fz := K1.out.frozen
  have hl1 : B < w1.heap.size := K1.out.lt
  go_wp2_with fail
  refine wp_loop_rounds 1 ?_
  rw [rounds_succ]
  go_wp2_with fail
  obtain ⟨W2, hW2⟩ : ∃ W2, W2 = ((w1.setCell ⟨B, 15, none⟩ (.int .u8 2)).setCell ⟨B, 18, none⟩ (.int .u32 40)).setCell ⟨B, 22, none⟩ (.slice none 0 0) := ⟨_, rfl⟩
  have K2 : Hid (Blk W2 B 119 (lk 2 40 0 (.slice none 0 0))) := Lib.hid (by rw [hW2]; exact ((K1.out.set_ 15 (.int .u8 2)).set_ 18 (.int .u32 40)).set_ 22 (.slice none 0 0))
  have B2 : Hid (Below N w W2) := Lib.hid (by rw [hW2]; exact ((B1.out.setCell (p := ⟨B, 15, none⟩) hN _).setCell (p := ⟨B, 18, none⟩) hN _).setCell (p := ⟨B, 22, none⟩) hN _)
  rw [← hW2]
  clear hW2 d7 d8 d9 d10 d13 d15 d18 d19 d20 d22 fz hl1
  have d7 : W2.cell? ⟨B, 7, none⟩ = some (.int .u16 10) := K2.out.cell 7
  have d9 : W2.cell? ⟨B, 9, none⟩ = some (.int .u16 0) := K2.out.cell 9
  have d19 : W2.cell? ⟨B, 19, none⟩ = some (.int .u32 0) := K2.out.cell 19
  have d20 : W2.cell? ⟨B, 20, none⟩ = some (.int .u32 0) := K2.out.cell 20
  have fz := K2.out.frozen
  have hl1 : B < W2.heap.size := K2.out.lt
  go_cut [] from 118 to 135 (fun wx => Blk wx B 119 (lk 2 40 10 (.slice none 0 0)) ∧ Below N w wx)
  case first =>
    go_region_held3 (fun w' => w'.cell? ⟨B, 7, none⟩ = some (.int .u16 10) ∧ w'.cell? ⟨B, 9, none⟩ = some (.int .u16 0)) (first
      | assumption
      | exact ⟨K2.out.drew.cell 7, K2.out.drew.cell 9⟩
      | exact ⟨(K2.out.set_ 19 _).drew.cell 7, (K2.out.set_ 19 _).drew.cell 9⟩
      | exact ⟨((K2.out.set_ 19 _).set_ 20 _).drew.cell 7, ((K2.out.set_ 19 _).set_ 20 _).drew.cell 9⟩) (fail)
    all_goals
      go_wp2_with fail
      go_meet
      exact ⟨((K2.out.set_ 19 _).set_ 20 _).drew, ((B2.out.setCell (p := ⟨B, 19, none⟩) hN _).setCell (p := ⟨B, 20, none⟩) hN _).drew⟩
  obtain ⟨kc, hbc⟩ := hcut
  have KC := Lib.hid kc
  have BC := Lib.hid hbc
  clear kc hbc d7 d9 d19 d20 fz hl1
  go_wp2_with fail
  refine (round_lk _ B 2 40 10 KC.out).mono ?_
  rintro e w3 ⟨S, rfl, hS, hSs, hb3⟩
  go_wp2_with fail
  go_ret
  exact ⟨S, rfl, hS, by have := KC.out.lt; omega, KC.out.below hb3 KC.out.lt, BC.out.trans (hb3.mono (by have := KC.out.lt; omega))⟩
end Go.Proofs.Ytgbmhijgpdgdbaa
namespace Go.Proofs.Ytgbmhijgpdgdbaa
open Go.RowKit
def hl (iv : Int) (nb : Value) : Array Value := #[.int .u32 4294967040, .int .u16 iv, .int .u8 2, .int .u8 1, .int .u32 40, .int .u32 0, .int .u32 0, nb]
theorem find_nil (w : World) (B : Nat) (x y : Int) (cs : Array Value) (k : Blk w B 119 cs) (h : cs[22]? = some (.slice none 0 0)) :
    Calls Try.prog 71 #[.pointer (some ⟨B, 0, none⟩), .int .u32 x, .int .u32 y] w fun e w' => e = .returned (.int .i64 (-1)) ∧ w = w' := by
  have c22 : w.cell? ⟨B, 22, none⟩ = some (.slice none 0 0) := (k.cell 22).trans h
  go_enter Try.func71, Try.ntmps71
  go_wp2_with fail
  refine wp_loop_rounds 1 ?_
  rw [rounds_succ]
  go_wp2_with fail
  go_ret
  exact ⟨rfl, rfl⟩
theorem find_one (w : World) (B L K c : Nat) (x y : Int) (cs : Array Value) (k : Blk w B 119 cs) (h : cs[22]? = some (.slice (some ⟨L, 0, none⟩) 1 c)) (h1 : cs[1]? = some (.int .u8 0))
    (hL : w.cell? ⟨L, 0, none⟩ = some (.pointer (some ⟨K, 0, none⟩))) (hK : w.cell? ⟨K, 1, none⟩ = some (.int .u32 x)) :
    Calls Try.prog 71 #[.pointer (some ⟨B, 0, none⟩), .int .u32 x, .int .u32 y] w fun e w' => e = .returned (.int .i64 0) ∧ w = w' := by
  have c22 : w.cell? ⟨B, 22, none⟩ = some (.slice (some ⟨L, 0, none⟩) 1 c) := (k.cell 22).trans h
  have c1 : w.cell? ⟨B, 1, none⟩ = some (.int .u8 0) := (k.cell 1).trans h1
  go_enter Try.func71, Try.ntmps71
  go_wp2_with fail
  refine wp_loop_rounds 1 ?_
  rw [rounds_succ]
  go_wp2_with fail
  go_ret
  exact ⟨rfl, rfl⟩
end Go.Proofs.Ytgbmhijgpdgdbaa
