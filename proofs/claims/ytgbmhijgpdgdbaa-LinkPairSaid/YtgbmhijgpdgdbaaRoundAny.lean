/- A round of a link of whatever config without peers, that knows no neighbour. -/
import Derived.Test.YtgbmhijgpdgdbaaHelloAny
namespace Go.Proofs.Ytgbmhijgpdgdbaa
open Go.RowKit

/-- To whom a link without peers says Hello. -/
def toV (c : LC) (re : Int) : Int := if c.ty = 4 then re else 3758096389

def RoundAnyPost (c : LC) (dr bd re : Int) (w : World) (e : Ending) (w' : World) : Prop := ∃ v, e = .returned v ∧ (v = .slice none 0 0 ∨ ∃ S t, t = toV c re ∧ v = .slice (some ⟨S, 0, none⟩) 1 1 ∧ Blk w' S 105 #[.int .u32 t, .int .u32 (lmaskV c), .int .u16 c.hi, .int .u8 (optV c), .int .u8 c.pr, .int .u32 c.dd, .int .u32 dr, .int .u32 bd, .slice none 0 0] ∧ w.heap.size ≤ S) ∧ Below w.heap.size w w'

set_option maxHeartbeats 2000000 in
set_option maxRecDepth 20000 in
theorem round_nil_a (w : World) (B : Nat) (c : LC) (st dr bd wt nx po re : Int) (hn0 : 0 ≤ c.nb) (hn1 : c.nb ≤ 32) (hp : c.peers = false) (h7 : c.ty ≠ 4) (k : Blk w B 119 (lks c st dr bd wt nx po re (.slice none 0 0))) :
    Calls Try.prog 69 #[.pointer (some ⟨B, 0, none⟩), .bool false] w fun e w' => RoundAnyPost c dr bd re w e w' := by
  have hp2 : ∀ W, Calls Try.prog 63 #[.agg #[.int .u8 c.ty, .int .u32 c.ro, .int .u32 c.na, .int .u8 c.nb, .int .u32 c.ad, .int .u8 c.op, .int .u16 c.hi, .int .u32 c.dd, .int .u16 c.po, .int .u8 c.pr, .bool c.dm, .bool c.ps, c.pe, .int .u32 c.rm]] W fun e w' => e = .returned (.bool false) ∧ Below W.heap.size W w' := fun W => by have h := peers_any c W; rw [hp] at h; exact h
  have HP := Lib.hid hp2
  clear hp2 hp
  have H_h7 := Lib.hid h7
  clear h7
  have K := Lib.hid k
  have hlt : B < w.heap.size := k.lt
  have hmf : ∀ (fn : Fn) (first cap : Array Value) (w : World), (Instr.makeFunc fn first cap).run Try.prog w = .ok (.func fn first cap) w := fun _ _ _ _ => rfl
  clear k
  refine (callsIn_wide (n := 3)).1 ?_
  refine callsIn_of_wp_marks Try.func69 rfl trivial ?_ rfl
  rw [wpIn_wide]
  simp only [Try.ntmps69, List.size_toArray, List.length_cons, List.length_nil, Nat.reduceAdd, Nat.reduceSub, Array.replicate_succ, Array.replicate_zero, List.push_toArray, List.append_toArray, List.nil_append, List.cons_append]
  go_upto_region 2 with fail
  obtain ⟨W0, hW0⟩ : ∃ W0, W0 = (((w.alloc (.cells #[.pointer (some ⟨B, 0, none⟩)] 78)).alloc (.cells #[.bool false] 4)).alloc (.cells #[.slice none 0 0] 85)).alloc (.cells #[.slice none 0 0] 85) := ⟨_, rfl⟩
  have K0 : Hid (Blk W0 B 119 (lks c st dr bd wt nx po re (.slice none 0 0))) := Lib.hid (by rw [hW0]; exact (((K.out.alloc _).alloc _).alloc _).alloc _)
  have A0 : Hid (Blk W0 w.heap.size 78 #[.pointer (some ⟨B, 0, none⟩)]) := Lib.hid (by rw [hW0]; exact (((Blk.new w _ _).alloc _).alloc _).alloc _)
  have A1 : Hid (Blk W0 (w.heap.size + 1) 4 #[.bool false]) := Lib.hid (by rw [hW0]; have := Blk.new (w.alloc (.cells #[.pointer (some ⟨B, 0, none⟩)] 78)) 4 #[.bool false]; rw [World.size_alloc] at this; exact ((this).alloc _).alloc _)
  have A2 : Hid (Blk W0 (w.heap.size + 1 + 1) 85 #[.slice none 0 0]) := Lib.hid (by rw [hW0]; have := Blk.new ((w.alloc (.cells #[.pointer (some ⟨B, 0, none⟩)] 78)).alloc (.cells #[.bool false] 4)) 85 #[.slice none 0 0]; simp only [World.size_alloc] at this; exact (this).alloc _)
  have B0 : Hid (Below w.heap.size w W0) := Lib.hid (by rw [hW0]; exact ((((Below.refl _ w).alloc (Nat.le_refl _) _).alloc (by simp) _).alloc (by simp; omega) _).alloc (by simp; omega) _)
  have hs0 : w.heap.size + 1 + 1 < W0.heap.size := A2.out.lt
  rw [← hW0]
  clear hW0
  have p0 : W0.cell? ⟨w.heap.size, 0, none⟩ = some (.pointer (some ⟨B, 0, none⟩)) := A0.out.cell 0
  have e1 : W0.cell? ⟨B, 1, none⟩ = some (.int .u8 c.ty) := K0.out.cell 1
  have e2 : W0.cell? ⟨B, 2, none⟩ = some (.int .u32 c.ro) := K0.out.cell 2
  have e3 : W0.cell? ⟨B, 3, none⟩ = some (.int .u32 c.na) := K0.out.cell 3
  have e4 : W0.cell? ⟨B, 4, none⟩ = some (.int .u8 c.nb) := K0.out.cell 4
  have e5 : W0.cell? ⟨B, 5, none⟩ = some (.int .u32 c.ad) := K0.out.cell 5
  have e6 : W0.cell? ⟨B, 6, none⟩ = some (.int .u8 c.op) := K0.out.cell 6
  have e7 : W0.cell? ⟨B, 7, none⟩ = some (.int .u16 c.hi) := K0.out.cell 7
  have e8 : W0.cell? ⟨B, 8, none⟩ = some (.int .u32 c.dd) := K0.out.cell 8
  have e9 : W0.cell? ⟨B, 9, none⟩ = some (.int .u16 c.po) := K0.out.cell 9
  have e10 : W0.cell? ⟨B, 10, none⟩ = some (.int .u8 c.pr) := K0.out.cell 10
  have e11 : W0.cell? ⟨B, 11, none⟩ = some (.bool c.dm) := K0.out.cell 11
  have e12 : W0.cell? ⟨B, 12, none⟩ = some (.bool c.ps) := K0.out.cell 12
  have e13 : W0.cell? ⟨B, 13, none⟩ = some (c.pe) := K0.out.cell 13
  have e14 : W0.cell? ⟨B, 14, none⟩ = some (.int .u32 c.rm) := K0.out.cell 14
  have hl0 : B < W0.heap.size := K0.out.lt
  go_wp2_with fail
  refine (HP.out _).mono ?_
  rintro e w1 ⟨rfl, hb1⟩
  have K1 := Lib.hid (K0.out.below hb1 K0.out.lt)
  have A01 := Lib.hid (A0.out.below hb1 A0.out.lt)
  have A11 := Lib.hid (A1.out.below hb1 A1.out.lt)
  have A21 := Lib.hid (A2.out.below hb1 A2.out.lt)
  have B1 := Lib.hid (B0.out.trans (hb1.mono B0.out.size))
  clear p0 e1 e2 e3 e4 e5 e6 e7 e8 e9 e10 e11 e12 e13 e14 hl0 hb1
  have p1 : w1.cell? ⟨w.heap.size, 0, none⟩ = some (.pointer (some ⟨B, 0, none⟩)) := A01.out.cell 0
  have h7 := H_h7.out
  have e_h7 : (c.ty == 4) = false := by simpa using h7
  have g1 : w1.cell? ⟨B, 1, none⟩ = some (.int .u8 c.ty) := K1.out.cell 1
  have g21 : w1.cell? ⟨B, 21, none⟩ = some (.int .u32 re) := K1.out.cell 21
  go_wp2_with fail
  refine (all_made _ _ _ ⟨_, rfl⟩ ⟨_, _, _, rfl⟩).mono ?_
  rintro e w2 ⟨rfl, hb2, b1, b2⟩
  have h2l : w1.heap.size + 1 < w2.heap.size := lt_of_cell b2
  have K2 := Lib.hid (K1.out.below hb2 K1.out.lt)
  have A02 := Lib.hid (A01.out.below hb2 A01.out.lt)
  have A12 := Lib.hid (A11.out.below hb2 A11.out.lt)
  have A22 := Lib.hid (A21.out.below hb2 A21.out.lt)
  have B2 := Lib.hid (B1.out.trans (hb2.mono B1.out.size))
  clear p1 g1 g21 hb2
  go_wp2_with fail
  refine wp_rangeFunc_none rfl enters_all1 (fun l W hW => ?_) (fun D W hD hB hK => ?_)
  · refine all_nil W _ _ B l ?_ ?_
    · exact (hW.cell (p := ⟨w1.heap.size, 0, none⟩) (by simp; omega)).trans b1
    · exact (K2.out.below hW K2.out.lt).cell 22
  have KD := Lib.hid (K2.out.below hB K2.out.lt)
  have A0D := Lib.hid (A02.out.below hB A02.out.lt)
  have A1D := Lib.hid (A12.out.below hB A12.out.lt)
  have A2D := Lib.hid (A22.out.below hB A22.out.lt)
  have BD := Lib.hid (B2.out.trans (hB.mono B2.out.size))
  have p3 : W.cell? ⟨w.heap.size, 0, none⟩ = some (.pointer (some ⟨B, 0, none⟩)) := A0D.out.cell 0
  have p4 : W.cell? ⟨w.heap.size + 1, 0, none⟩ = some (.bool false) := A1D.out.cell 0
  clear hB b1 b2
  go_wp2_with fail
  refine (hello_nil _ B c st dr bd wt nx po re hn0 hn1 KD.out).mono ?_
  rintro e w3 ⟨rfl, hb3⟩
  have A23 := Lib.hid (A2D.out.below hb3 A2D.out.lt)
  have B3 := Lib.hid (BD.out.trans (hb3.mono BD.out.size))
  have hDl : D < W.heap.size := (Array.getElem?_eq_some_iff.1 hK).1
  have hK3 : w3.heap[D]? = some (.deferred (some [])) := (hb3.block D hDl).trans hK
  have q2 : w3.cell? ⟨w.heap.size + 1 + 1, 0, none⟩ = some (.slice none 0 0) := A23.out.cell 0
  have fz2 := A23.out.frozen 0
  have hl3 : w.heap.size + 1 + 1 < w3.heap.size := A23.out.lt
  have hD3 : D < w3.heap.size := by have := hb3.size; omega
  clear p3 p4 hb3 hK
  unfold helloV
  go_wp2_with fail
  obtain ⟨W4, hW4⟩ : ∃ W4, W4 = (w3.setCell ⟨w.heap.size + 1 + 1, 0, none⟩ (.slice (some ⟨w3.heap.size, 0, none⟩) 1 1)).alloc (.cells #[.int .u32 3758096389, .int .u32 (lmaskV c), .int .u16 c.hi, .int .u8 (optV c), .int .u8 c.pr, .int .u32 c.dd, .int .u32 dr, .int .u32 bd, .slice none 0 0] 105) := ⟨_, rfl⟩
  rw [← hW4]
  have hs3 : (w3.setCell ⟨w.heap.size + 1 + 1, 0, none⟩ (.slice (some ⟨w3.heap.size, 0, none⟩) 1 1)).heap.size = w3.heap.size := by simp [World.setCell]
  have hD2 : w2.heap.size ≤ D := hD
  have hwD : w.heap.size + 1 + 1 < D := by have := A22.out.lt; omega
  have hK4 : W4.heap[D]? = some (.deferred (some [])) := by
    rw [hW4, Below.heap_alloc _ _ D (by rw [hs3]; exact hD3), heap_far _ _ hwD]
    exact hK3
  have kS : Blk W4 w3.heap.size 105 #[.int .u32 3758096389, .int .u32 (lmaskV c), .int .u16 c.hi, .int .u8 (optV c), .int .u8 c.pr, .int .u32 c.dd, .int .u32 dr, .int .u32 bd, .slice none 0 0] := by
    have := Blk.new (w3.setCell ⟨w.heap.size + 1 + 1, 0, none⟩ (.slice (some ⟨w3.heap.size, 0, none⟩) 1 1)) 105 #[.int .u32 3758096389, .int .u32 (lmaskV c), .int .u16 c.hi, .int .u8 (optV c), .int .u8 c.pr, .int .u32 c.dd, .int .u32 dr, .int .u32 bd, .slice none 0 0]
    rw [hs3] at this
    rw [hW4]
    exact this
  have kR : Blk W4 (w.heap.size + 1 + 1) 85 #[.slice (some ⟨w3.heap.size, 0, none⟩) 1 1] := by
    rw [hW4]
    exact (A23.out.set_ 0 _).alloc _
  have hB4 : Below w.heap.size w W4 := by
    rw [hW4]
    exact (B3.out.setCell (p := ⟨w.heap.size + 1 + 1, 0, none⟩) (by simp; omega) _).alloc (by rw [hs3]; exact B3.out.size) _
  refine ⟨by simp, .inl ⟨_, _, rfl, run_takeDeferred hK4, ?_⟩⟩
  have k9 := kR.grown (grownBy_putObj' W4 D (.deferred none)) (by simp; omega)
  have kS9 := kS.grown (grownBy_putObj' W4 D (.deferred none)) (by simp; omega)
  have u0 := (k9.cell 0).trans rfl
  refine ⟨.slice (some ⟨w3.heap.size, 0, none⟩) 1 1, ?_, _, rfl, .inr ⟨w3.heap.size, _, (if_neg H_h7.out).symm, rfl, kS9, B3.out.size⟩, hB4.trans (below_put hK4 (by omega))⟩
  simp [results, Try.f69, go_sem, u0]

set_option maxHeartbeats 2000000 in
set_option maxRecDepth 20000 in
theorem round_nil_b (w : World) (B : Nat) (c : LC) (st dr bd wt nx po re : Int) (hn0 : 0 ≤ c.nb) (hn1 : c.nb ≤ 32) (hp : c.peers = false) (h7 : c.ty = 4) (h8 : re ≠ 0) (k : Blk w B 119 (lks c st dr bd wt nx po re (.slice none 0 0))) :
    Calls Try.prog 69 #[.pointer (some ⟨B, 0, none⟩), .bool false] w fun e w' => RoundAnyPost c dr bd re w e w' := by
  have hp2 : ∀ W, Calls Try.prog 63 #[.agg #[.int .u8 c.ty, .int .u32 c.ro, .int .u32 c.na, .int .u8 c.nb, .int .u32 c.ad, .int .u8 c.op, .int .u16 c.hi, .int .u32 c.dd, .int .u16 c.po, .int .u8 c.pr, .bool c.dm, .bool c.ps, c.pe, .int .u32 c.rm]] W fun e w' => e = .returned (.bool false) ∧ Below W.heap.size W w' := fun W => by have h := peers_any c W; rw [hp] at h; exact h
  have HP := Lib.hid hp2
  clear hp2 hp
  have H_h7 := Lib.hid h7
  have H_h8 := Lib.hid h8
  clear h7 h8
  have K := Lib.hid k
  have hlt : B < w.heap.size := k.lt
  have hmf : ∀ (fn : Fn) (first cap : Array Value) (w : World), (Instr.makeFunc fn first cap).run Try.prog w = .ok (.func fn first cap) w := fun _ _ _ _ => rfl
  clear k
  refine (callsIn_wide (n := 3)).1 ?_
  refine callsIn_of_wp_marks Try.func69 rfl trivial ?_ rfl
  rw [wpIn_wide]
  simp only [Try.ntmps69, List.size_toArray, List.length_cons, List.length_nil, Nat.reduceAdd, Nat.reduceSub, Array.replicate_succ, Array.replicate_zero, List.push_toArray, List.append_toArray, List.nil_append, List.cons_append]
  go_upto_region 2 with fail
  obtain ⟨W0, hW0⟩ : ∃ W0, W0 = (((w.alloc (.cells #[.pointer (some ⟨B, 0, none⟩)] 78)).alloc (.cells #[.bool false] 4)).alloc (.cells #[.slice none 0 0] 85)).alloc (.cells #[.slice none 0 0] 85) := ⟨_, rfl⟩
  have K0 : Hid (Blk W0 B 119 (lks c st dr bd wt nx po re (.slice none 0 0))) := Lib.hid (by rw [hW0]; exact (((K.out.alloc _).alloc _).alloc _).alloc _)
  have A0 : Hid (Blk W0 w.heap.size 78 #[.pointer (some ⟨B, 0, none⟩)]) := Lib.hid (by rw [hW0]; exact (((Blk.new w _ _).alloc _).alloc _).alloc _)
  have A1 : Hid (Blk W0 (w.heap.size + 1) 4 #[.bool false]) := Lib.hid (by rw [hW0]; have := Blk.new (w.alloc (.cells #[.pointer (some ⟨B, 0, none⟩)] 78)) 4 #[.bool false]; rw [World.size_alloc] at this; exact ((this).alloc _).alloc _)
  have A2 : Hid (Blk W0 (w.heap.size + 1 + 1) 85 #[.slice none 0 0]) := Lib.hid (by rw [hW0]; have := Blk.new ((w.alloc (.cells #[.pointer (some ⟨B, 0, none⟩)] 78)).alloc (.cells #[.bool false] 4)) 85 #[.slice none 0 0]; simp only [World.size_alloc] at this; exact (this).alloc _)
  have B0 : Hid (Below w.heap.size w W0) := Lib.hid (by rw [hW0]; exact ((((Below.refl _ w).alloc (Nat.le_refl _) _).alloc (by simp) _).alloc (by simp; omega) _).alloc (by simp; omega) _)
  have hs0 : w.heap.size + 1 + 1 < W0.heap.size := A2.out.lt
  rw [← hW0]
  clear hW0
  have p0 : W0.cell? ⟨w.heap.size, 0, none⟩ = some (.pointer (some ⟨B, 0, none⟩)) := A0.out.cell 0
  have e1 : W0.cell? ⟨B, 1, none⟩ = some (.int .u8 c.ty) := K0.out.cell 1
  have e2 : W0.cell? ⟨B, 2, none⟩ = some (.int .u32 c.ro) := K0.out.cell 2
  have e3 : W0.cell? ⟨B, 3, none⟩ = some (.int .u32 c.na) := K0.out.cell 3
  have e4 : W0.cell? ⟨B, 4, none⟩ = some (.int .u8 c.nb) := K0.out.cell 4
  have e5 : W0.cell? ⟨B, 5, none⟩ = some (.int .u32 c.ad) := K0.out.cell 5
  have e6 : W0.cell? ⟨B, 6, none⟩ = some (.int .u8 c.op) := K0.out.cell 6
  have e7 : W0.cell? ⟨B, 7, none⟩ = some (.int .u16 c.hi) := K0.out.cell 7
  have e8 : W0.cell? ⟨B, 8, none⟩ = some (.int .u32 c.dd) := K0.out.cell 8
  have e9 : W0.cell? ⟨B, 9, none⟩ = some (.int .u16 c.po) := K0.out.cell 9
  have e10 : W0.cell? ⟨B, 10, none⟩ = some (.int .u8 c.pr) := K0.out.cell 10
  have e11 : W0.cell? ⟨B, 11, none⟩ = some (.bool c.dm) := K0.out.cell 11
  have e12 : W0.cell? ⟨B, 12, none⟩ = some (.bool c.ps) := K0.out.cell 12
  have e13 : W0.cell? ⟨B, 13, none⟩ = some (c.pe) := K0.out.cell 13
  have e14 : W0.cell? ⟨B, 14, none⟩ = some (.int .u32 c.rm) := K0.out.cell 14
  have hl0 : B < W0.heap.size := K0.out.lt
  go_wp2_with fail
  refine (HP.out _).mono ?_
  rintro e w1 ⟨rfl, hb1⟩
  have K1 := Lib.hid (K0.out.below hb1 K0.out.lt)
  have A01 := Lib.hid (A0.out.below hb1 A0.out.lt)
  have A11 := Lib.hid (A1.out.below hb1 A1.out.lt)
  have A21 := Lib.hid (A2.out.below hb1 A2.out.lt)
  have B1 := Lib.hid (B0.out.trans (hb1.mono B0.out.size))
  clear p0 e1 e2 e3 e4 e5 e6 e7 e8 e9 e10 e11 e12 e13 e14 hl0 hb1
  have p1 : w1.cell? ⟨w.heap.size, 0, none⟩ = some (.pointer (some ⟨B, 0, none⟩)) := A01.out.cell 0
  have h7 := H_h7.out
  have h8 := H_h8.out
  have e_h8 : (re == 0) = false := by simpa using h8
  have g1 : w1.cell? ⟨B, 1, none⟩ = some (.int .u8 c.ty) := K1.out.cell 1
  have g21 : w1.cell? ⟨B, 21, none⟩ = some (.int .u32 re) := K1.out.cell 21
  go_wp2_with fail
  refine (all_made _ _ _ ⟨_, rfl⟩ ⟨_, _, _, rfl⟩).mono ?_
  rintro e w2 ⟨rfl, hb2, b1, b2⟩
  have h2l : w1.heap.size + 1 < w2.heap.size := lt_of_cell b2
  have K2 := Lib.hid (K1.out.below hb2 K1.out.lt)
  have A02 := Lib.hid (A01.out.below hb2 A01.out.lt)
  have A12 := Lib.hid (A11.out.below hb2 A11.out.lt)
  have A22 := Lib.hid (A21.out.below hb2 A21.out.lt)
  have B2 := Lib.hid (B1.out.trans (hb2.mono B1.out.size))
  clear p1 g1 g21 hb2
  go_wp2_with fail
  refine wp_rangeFunc_none rfl enters_all1 (fun l W hW => ?_) (fun D W hD hB hK => ?_)
  · refine all_nil W _ _ B l ?_ ?_
    · exact (hW.cell (p := ⟨w1.heap.size, 0, none⟩) (by simp; omega)).trans b1
    · exact (K2.out.below hW K2.out.lt).cell 22
  have KD := Lib.hid (K2.out.below hB K2.out.lt)
  have A0D := Lib.hid (A02.out.below hB A02.out.lt)
  have A1D := Lib.hid (A12.out.below hB A12.out.lt)
  have A2D := Lib.hid (A22.out.below hB A22.out.lt)
  have BD := Lib.hid (B2.out.trans (hB.mono B2.out.size))
  have p3 : W.cell? ⟨w.heap.size, 0, none⟩ = some (.pointer (some ⟨B, 0, none⟩)) := A0D.out.cell 0
  have p4 : W.cell? ⟨w.heap.size + 1, 0, none⟩ = some (.bool false) := A1D.out.cell 0
  clear hB b1 b2
  go_wp2_with fail
  refine (hello_nil _ B c st dr bd wt nx po re hn0 hn1 KD.out).mono ?_
  rintro e w3 ⟨rfl, hb3⟩
  have A23 := Lib.hid (A2D.out.below hb3 A2D.out.lt)
  have B3 := Lib.hid (BD.out.trans (hb3.mono BD.out.size))
  have hDl : D < W.heap.size := (Array.getElem?_eq_some_iff.1 hK).1
  have hK3 : w3.heap[D]? = some (.deferred (some [])) := (hb3.block D hDl).trans hK
  have q2 : w3.cell? ⟨w.heap.size + 1 + 1, 0, none⟩ = some (.slice none 0 0) := A23.out.cell 0
  have fz2 := A23.out.frozen 0
  have hl3 : w.heap.size + 1 + 1 < w3.heap.size := A23.out.lt
  have hD3 : D < w3.heap.size := by have := hb3.size; omega
  clear p3 p4 hb3 hK
  unfold helloV
  go_wp2_with fail
  obtain ⟨W4, hW4⟩ : ∃ W4, W4 = (w3.setCell ⟨w.heap.size + 1 + 1, 0, none⟩ (.slice (some ⟨w3.heap.size, 0, none⟩) 1 1)).alloc (.cells #[.int .u32 re, .int .u32 (lmaskV c), .int .u16 c.hi, .int .u8 (optV c), .int .u8 c.pr, .int .u32 c.dd, .int .u32 dr, .int .u32 bd, .slice none 0 0] 105) := ⟨_, rfl⟩
  rw [← hW4]
  have hs3 : (w3.setCell ⟨w.heap.size + 1 + 1, 0, none⟩ (.slice (some ⟨w3.heap.size, 0, none⟩) 1 1)).heap.size = w3.heap.size := by simp [World.setCell]
  have hD2 : w2.heap.size ≤ D := hD
  have hwD : w.heap.size + 1 + 1 < D := by have := A22.out.lt; omega
  have hK4 : W4.heap[D]? = some (.deferred (some [])) := by
    rw [hW4, Below.heap_alloc _ _ D (by rw [hs3]; exact hD3), heap_far _ _ hwD]
    exact hK3
  have kS : Blk W4 w3.heap.size 105 #[.int .u32 re, .int .u32 (lmaskV c), .int .u16 c.hi, .int .u8 (optV c), .int .u8 c.pr, .int .u32 c.dd, .int .u32 dr, .int .u32 bd, .slice none 0 0] := by
    have := Blk.new (w3.setCell ⟨w.heap.size + 1 + 1, 0, none⟩ (.slice (some ⟨w3.heap.size, 0, none⟩) 1 1)) 105 #[.int .u32 re, .int .u32 (lmaskV c), .int .u16 c.hi, .int .u8 (optV c), .int .u8 c.pr, .int .u32 c.dd, .int .u32 dr, .int .u32 bd, .slice none 0 0]
    rw [hs3] at this
    rw [hW4]
    exact this
  have kR : Blk W4 (w.heap.size + 1 + 1) 85 #[.slice (some ⟨w3.heap.size, 0, none⟩) 1 1] := by
    rw [hW4]
    exact (A23.out.set_ 0 _).alloc _
  have hB4 : Below w.heap.size w W4 := by
    rw [hW4]
    exact (B3.out.setCell (p := ⟨w.heap.size + 1 + 1, 0, none⟩) (by simp; omega) _).alloc (by rw [hs3]; exact B3.out.size) _
  refine ⟨by simp, .inl ⟨_, _, rfl, run_takeDeferred hK4, ?_⟩⟩
  have k9 := kR.grown (grownBy_putObj' W4 D (.deferred none)) (by simp; omega)
  have kS9 := kS.grown (grownBy_putObj' W4 D (.deferred none)) (by simp; omega)
  have u0 := (k9.cell 0).trans rfl
  refine ⟨.slice (some ⟨w3.heap.size, 0, none⟩) 1 1, ?_, _, rfl, .inr ⟨w3.heap.size, _, (if_pos H_h7.out).symm, rfl, kS9, B3.out.size⟩, hB4.trans (below_put hK4 (by omega))⟩
  simp [results, Try.f69, go_sem, u0]

set_option maxHeartbeats 2000000 in
set_option maxRecDepth 20000 in
theorem round_nil_c (w : World) (B : Nat) (c : LC) (st dr bd wt nx po re : Int) (_hn0 : 0 ≤ c.nb) (_hn1 : c.nb ≤ 32) (hp : c.peers = false) (h7 : c.ty = 4) (h8 : re = 0) (k : Blk w B 119 (lks c st dr bd wt nx po re (.slice none 0 0))) :
    Calls Try.prog 69 #[.pointer (some ⟨B, 0, none⟩), .bool false] w fun e w' => RoundAnyPost c dr bd re w e w' := by
  have hp2 : ∀ W, Calls Try.prog 63 #[.agg #[.int .u8 c.ty, .int .u32 c.ro, .int .u32 c.na, .int .u8 c.nb, .int .u32 c.ad, .int .u8 c.op, .int .u16 c.hi, .int .u32 c.dd, .int .u16 c.po, .int .u8 c.pr, .bool c.dm, .bool c.ps, c.pe, .int .u32 c.rm]] W fun e w' => e = .returned (.bool false) ∧ Below W.heap.size W w' := fun W => by have h := peers_any c W; rw [hp] at h; exact h
  have HP := Lib.hid hp2
  clear hp2 hp
  have H_h7 := Lib.hid h7
  have H_h8 := Lib.hid h8
  clear h7 h8
  have K := Lib.hid k
  have hlt : B < w.heap.size := k.lt
  have hmf : ∀ (fn : Fn) (first cap : Array Value) (w : World), (Instr.makeFunc fn first cap).run Try.prog w = .ok (.func fn first cap) w := fun _ _ _ _ => rfl
  clear k
  refine (callsIn_wide (n := 3)).1 ?_
  refine callsIn_of_wp_marks Try.func69 rfl trivial ?_ rfl
  rw [wpIn_wide]
  simp only [Try.ntmps69, List.size_toArray, List.length_cons, List.length_nil, Nat.reduceAdd, Nat.reduceSub, Array.replicate_succ, Array.replicate_zero, List.push_toArray, List.append_toArray, List.nil_append, List.cons_append]
  go_upto_region 2 with fail
  obtain ⟨W0, hW0⟩ : ∃ W0, W0 = (((w.alloc (.cells #[.pointer (some ⟨B, 0, none⟩)] 78)).alloc (.cells #[.bool false] 4)).alloc (.cells #[.slice none 0 0] 85)).alloc (.cells #[.slice none 0 0] 85) := ⟨_, rfl⟩
  have K0 : Hid (Blk W0 B 119 (lks c st dr bd wt nx po re (.slice none 0 0))) := Lib.hid (by rw [hW0]; exact (((K.out.alloc _).alloc _).alloc _).alloc _)
  have A0 : Hid (Blk W0 w.heap.size 78 #[.pointer (some ⟨B, 0, none⟩)]) := Lib.hid (by rw [hW0]; exact (((Blk.new w _ _).alloc _).alloc _).alloc _)
  have A1 : Hid (Blk W0 (w.heap.size + 1) 4 #[.bool false]) := Lib.hid (by rw [hW0]; have := Blk.new (w.alloc (.cells #[.pointer (some ⟨B, 0, none⟩)] 78)) 4 #[.bool false]; rw [World.size_alloc] at this; exact ((this).alloc _).alloc _)
  have A2 : Hid (Blk W0 (w.heap.size + 1 + 1) 85 #[.slice none 0 0]) := Lib.hid (by rw [hW0]; have := Blk.new ((w.alloc (.cells #[.pointer (some ⟨B, 0, none⟩)] 78)).alloc (.cells #[.bool false] 4)) 85 #[.slice none 0 0]; simp only [World.size_alloc] at this; exact (this).alloc _)
  have B0 : Hid (Below w.heap.size w W0) := Lib.hid (by rw [hW0]; exact ((((Below.refl _ w).alloc (Nat.le_refl _) _).alloc (by simp) _).alloc (by simp; omega) _).alloc (by simp; omega) _)
  have hs0 : w.heap.size + 1 + 1 < W0.heap.size := A2.out.lt
  rw [← hW0]
  clear hW0
  have p0 : W0.cell? ⟨w.heap.size, 0, none⟩ = some (.pointer (some ⟨B, 0, none⟩)) := A0.out.cell 0
  have e1 : W0.cell? ⟨B, 1, none⟩ = some (.int .u8 c.ty) := K0.out.cell 1
  have e2 : W0.cell? ⟨B, 2, none⟩ = some (.int .u32 c.ro) := K0.out.cell 2
  have e3 : W0.cell? ⟨B, 3, none⟩ = some (.int .u32 c.na) := K0.out.cell 3
  have e4 : W0.cell? ⟨B, 4, none⟩ = some (.int .u8 c.nb) := K0.out.cell 4
  have e5 : W0.cell? ⟨B, 5, none⟩ = some (.int .u32 c.ad) := K0.out.cell 5
  have e6 : W0.cell? ⟨B, 6, none⟩ = some (.int .u8 c.op) := K0.out.cell 6
  have e7 : W0.cell? ⟨B, 7, none⟩ = some (.int .u16 c.hi) := K0.out.cell 7
  have e8 : W0.cell? ⟨B, 8, none⟩ = some (.int .u32 c.dd) := K0.out.cell 8
  have e9 : W0.cell? ⟨B, 9, none⟩ = some (.int .u16 c.po) := K0.out.cell 9
  have e10 : W0.cell? ⟨B, 10, none⟩ = some (.int .u8 c.pr) := K0.out.cell 10
  have e11 : W0.cell? ⟨B, 11, none⟩ = some (.bool c.dm) := K0.out.cell 11
  have e12 : W0.cell? ⟨B, 12, none⟩ = some (.bool c.ps) := K0.out.cell 12
  have e13 : W0.cell? ⟨B, 13, none⟩ = some (c.pe) := K0.out.cell 13
  have e14 : W0.cell? ⟨B, 14, none⟩ = some (.int .u32 c.rm) := K0.out.cell 14
  have hl0 : B < W0.heap.size := K0.out.lt
  go_wp2_with fail
  refine (HP.out _).mono ?_
  rintro e w1 ⟨rfl, hb1⟩
  have K1 := Lib.hid (K0.out.below hb1 K0.out.lt)
  have A01 := Lib.hid (A0.out.below hb1 A0.out.lt)
  have A11 := Lib.hid (A1.out.below hb1 A1.out.lt)
  have A21 := Lib.hid (A2.out.below hb1 A2.out.lt)
  have B1 := Lib.hid (B0.out.trans (hb1.mono B0.out.size))
  clear p0 e1 e2 e3 e4 e5 e6 e7 e8 e9 e10 e11 e12 e13 e14 hl0 hb1
  have p1 : w1.cell? ⟨w.heap.size, 0, none⟩ = some (.pointer (some ⟨B, 0, none⟩)) := A01.out.cell 0
  have h7 := H_h7.out
  have h8 := H_h8.out
  have g1 : w1.cell? ⟨B, 1, none⟩ = some (.int .u8 c.ty) := K1.out.cell 1
  have g21 : w1.cell? ⟨B, 21, none⟩ = some (.int .u32 re) := K1.out.cell 21
  go_wp2_with fail
  refine (all_made _ _ _ ⟨_, rfl⟩ ⟨_, _, _, rfl⟩).mono ?_
  rintro e w2 ⟨rfl, hb2, b1, b2⟩
  have h2l : w1.heap.size + 1 < w2.heap.size := lt_of_cell b2
  have K2 := Lib.hid (K1.out.below hb2 K1.out.lt)
  have A02 := Lib.hid (A01.out.below hb2 A01.out.lt)
  have A12 := Lib.hid (A11.out.below hb2 A11.out.lt)
  have A22 := Lib.hid (A21.out.below hb2 A21.out.lt)
  have B2 := Lib.hid (B1.out.trans (hb2.mono B1.out.size))
  clear p1 g1 g21 hb2
  go_wp2_with fail
  refine wp_rangeFunc_none rfl enters_all1 (fun l W hW => ?_) (fun D W hD hB hK => ?_)
  · refine all_nil W _ _ B l ?_ ?_
    · exact (hW.cell (p := ⟨w1.heap.size, 0, none⟩) (by simp; omega)).trans b1
    · exact (K2.out.below hW K2.out.lt).cell 22
  have KD := Lib.hid (K2.out.below hB K2.out.lt)
  have A0D := Lib.hid (A02.out.below hB A02.out.lt)
  have A1D := Lib.hid (A12.out.below hB A12.out.lt)
  have A2D := Lib.hid (A22.out.below hB A22.out.lt)
  have BD := Lib.hid (B2.out.trans (hB.mono B2.out.size))
  have p3 : W.cell? ⟨w.heap.size, 0, none⟩ = some (.pointer (some ⟨B, 0, none⟩)) := A0D.out.cell 0
  have p4 : W.cell? ⟨w.heap.size + 1, 0, none⟩ = some (.bool false) := A1D.out.cell 0
  clear hB b1 b2
  have q2 : W.cell? ⟨w.heap.size + 1 + 1, 0, none⟩ = some (.slice none 0 0) := A2D.out.cell 0
  have fz2 := A2D.out.frozen 0
  go_wp2_with fail
  obtain ⟨W4, hW4⟩ : ∃ W4, W4 = W.setCell ⟨w.heap.size + 1 + 1, 0, none⟩ (.slice none 0 0) := ⟨_, rfl⟩
  rw [← hW4]
  have hD2 : w2.heap.size ≤ D := hD
  have hwD : w.heap.size + 1 + 1 < D := by have := A22.out.lt; omega
  have hK4 : W4.heap[D]? = some (.deferred (some [])) := by
    rw [hW4, heap_far _ _ hwD]
    exact hK
  have kR : Blk W4 (w.heap.size + 1 + 1) 85 #[.slice none 0 0] := by rw [hW4]; exact A2D.out.set_ 0 _
  have hB4 : Below w.heap.size w W4 := by
    rw [hW4]
    exact BD.out.setCell (p := ⟨w.heap.size + 1 + 1, 0, none⟩) (by simp; omega) _
  refine ⟨by simp, .inl ⟨_, _, rfl, run_takeDeferred hK4, ?_⟩⟩
  have k9 := kR.grown (grownBy_putObj' W4 D (.deferred none)) (by simp; omega)
  have u0 := (k9.cell 0).trans rfl
  refine ⟨.slice none 0 0, ?_, _, rfl, .inl rfl, hB4.trans (below_put hK4 (by omega))⟩
  simp [results, Try.f69, go_sem, u0]

theorem round_nil (w : World) (B : Nat) (c : LC) (st dr bd wt nx po re : Int) (hn0 : 0 ≤ c.nb) (hn1 : c.nb ≤ 32) (hp : c.peers = false) (k : Blk w B 119 (lks c st dr bd wt nx po re (.slice none 0 0))) :
    Calls Try.prog 69 #[.pointer (some ⟨B, 0, none⟩), .bool false] w fun e w' => RoundAnyPost c dr bd re w e w' := by
  by_cases h7 : c.ty = 4
  · by_cases h8 : re = 0
    · exact round_nil_c w B c st dr bd wt nx po re hn0 hn1 hp h7 h8 k
    · exact round_nil_b w B c st dr bd wt nx po re hn0 hn1 hp h7 h8 k
  · exact round_nil_a w B c st dr bd wt nx po re hn0 hn1 hp h7 k
end Go.Proofs.Ytgbmhijgpdgdbaa
