/- The one neighbour is lost. -/
import Derived.Test.YtgbmhijgpdgdbaaRoundOn
import Derived.Test.YtgbmhijgpdgdbaaLose
namespace Go.Proofs.Ytgbmhijgpdgdbaa
open Go.RowKit Go.Shelf

set_option maxHeartbeats 400000 in
/-- The question of a round, of a link that is not on demand: nobody. -/
theorem round2_no (w : World) (B K C0 : Nat) (c : LC) (st dr bd wt nx po re : Int) (l : Value) (hdm : c.dm = false) (k : Blk w B 119 (lks c st dr bd wt nx po re l)) (h0 : w.cell? ⟨C0, 0, none⟩ = some (.pointer (some ⟨B, 0, none⟩))) :
    Calls Try.prog 105 #[.pointer (some ⟨K, 0, none⟩), .pointer (some ⟨C0, 0, none⟩)] w fun e w' => e = .returned (.bool false) ∧ w = w' := by
  have c1 : w.cell? ⟨B, 1, none⟩ = some (.int .u8 c.ty) := k.cell 1
  have KB := Lib.hid k
  clear k
  by_cases t3 : 3 ≤ c.ty
  all_goals
    go_enter Try.func105, Try.ntmps105
    go_wp2_with (go_at_call 106; refine (still_no _ B K c st dr bd wt nx po re l hdm KB.out).mono ?_; rintro e w' ⟨rfl, rfl⟩)
    go_ret
    exact ⟨rfl, rfl⟩

set_option maxHeartbeats 1000000 in
theorem allr2_none (W : World) (Bl Bi B L l cap C0 : Nat) (c : LC) (st dr bd wt nx po re : Int) (xs : List (Nat × Kn)) (hdm : c.dm = false) (hlen : xs.length ≤ 100000) (h1 : W.cell? ⟨Bl, 0, none⟩ = some (.pointer (some ⟨B, 0, none⟩))) (hi : W.cell? ⟨Bi, 0, none⟩ = some (.func (.func 105) #[] #[.pointer (some ⟨C0, 0, none⟩)]))
    (k : Blk W B 119 (lks c st dr bd wt nx po re (.slice (some ⟨L, 0, none⟩) xs.length cap))) (hrow : RowAt W L xs) (h0 : W.cell? ⟨C0, 0, none⟩ = some (.pointer (some ⟨B, 0, none⟩))) :
    Calls Try.prog 124 #[.func (.yield l) #[] #[], .pointer (some ⟨Bl, 0, none⟩), .pointer (some ⟨Bi, 0, none⟩)] W fun e W' => (∃ v, e = .returned v) ∧ W = W' := by
  have HRow := Lib.hid hrow
  have K := Lib.hid k
  have h2 : W.cell? ⟨B, 22, none⟩ = some (.slice (some ⟨L, 0, none⟩) xs.length cap) := k.cell 22
  clear hrow k
  go_enter Try.func124, Try.ntmps124
  go_wp2_with fail
  go_loopw [11] (fun x wr => ∃ i : Nat, i ≤ xs.length ∧ x = .int .i64 i ∧ wr = W) (fun x _ => xs.length - (intOf x).toNat)
  case atStart => exact ⟨0, Nat.zero_le _, rfl, rfl⟩
  case round =>
    obtain ⟨i, hin, rfl, rfl⟩ := hrel
    by_cases hlt : i < xs.length
    · obtain ⟨x, hx⟩ : ∃ x, xs[i]? = some x := ⟨_, List.getElem?_eq_getElem hlt⟩
      have k1 := HRow.out.r i x hx
      go_wp2_with (go_at_call 105; refine (round2_no _ B x.1 C0 c st dr bd wt nx po re _ hdm K.out h0).mono ?_; rintro e w' ⟨rfl, rfl⟩)
      go_roundw
      case rel => exact ⟨i + 1, by omega, by simp, trivial⟩
      case measure => simp [intOf]; omega
    · obtain rfl : i = xs.length := by omega
      go_wp2_with fail
      refine bodyPost_end (v := .tuple #[]) (by simp [results, Try.results124, go_sem]) rfl ⟨⟨_, rfl⟩, rfl⟩

set_option maxHeartbeats 2000000 in
set_option maxRecDepth 20000 in
theorem rnp_a (w : World) (B : Nat) (c : LC) (st dr bd wt nx po re : Int) (hn0 : 0 ≤ c.nb) (hn1 : c.nb ≤ 32) (hdm : c.dm = false) (L cap : Nat) (xs : List (Nat × Kn)) (hlen : xs.length ≤ 100000) (hrow : RowAt w L xs) (hp : c.peers = false) (h7 : c.ty ≠ 4) (k : Blk w B 119 (lks c st dr bd wt nx po re (.slice (some ⟨L, 0, none⟩) xs.length cap))) :
    Calls Try.prog 69 #[.pointer (some ⟨B, 0, none⟩), .bool false] w fun e w' => RowPost w e w' := by
  have hp2 : ∀ W, Calls Try.prog 63 #[.agg #[.int .u8 c.ty, .int .u32 c.ro, .int .u32 c.na, .int .u8 c.nb, .int .u32 c.ad, .int .u8 c.op, .int .u16 c.hi, .int .u32 c.dd, .int .u16 c.po, .int .u8 c.pr, .bool c.dm, .bool c.ps, c.pe, .int .u32 c.rm]] W fun e w' => e = .returned (.bool false) ∧ Below W.heap.size W w' := fun W => by have h := peers_any c W; rw [hp] at h; exact h
  have HP := Lib.hid hp2
  clear hp2 hp
  have H_h7 := Lib.hid h7
  clear h7
  have K := Lib.hid k
  have HRow := Lib.hid hrow
  have HDm := Lib.hid hdm
  have hlt : B < w.heap.size := k.lt
  have hmf : ∀ (fn : Fn) (first cap : Array Value) (w : World), (Instr.makeFunc fn first cap).run Try.prog w = .ok (.func fn first cap) w := fun _ _ _ _ => rfl
  clear k hrow hdm
  refine (callsIn_wide (n := 3)).1 ?_
  refine callsIn_of_wp_marks Try.func69 rfl trivial ?_ rfl
  rw [wpIn_wide]
  simp only [Try.ntmps69, List.size_toArray, List.length_cons, List.length_nil, Nat.reduceAdd, Nat.reduceSub, Array.replicate_succ, Array.replicate_zero, List.push_toArray, List.append_toArray, List.nil_append, List.cons_append]
  go_upto_region 2 with fail
  obtain ⟨W0, hW0⟩ : ∃ W0, W0 = (((w.alloc (.cells #[.pointer (some ⟨B, 0, none⟩)] 78)).alloc (.cells #[.bool false] 4)).alloc (.cells #[.slice none 0 0] 85)).alloc (.cells #[.slice none 0 0] 85) := ⟨_, rfl⟩
  have K0 : Hid (Blk W0 B 119 (lks c st dr bd wt nx po re (.slice (some ⟨L, 0, none⟩) xs.length cap))) := Lib.hid (by rw [hW0]; exact (((K.out.alloc _).alloc _).alloc _).alloc _)
  have A0 : Hid (Blk W0 w.heap.size 78 #[.pointer (some ⟨B, 0, none⟩)]) := Lib.hid (by rw [hW0]; exact (((Blk.new w _ _).alloc _).alloc _).alloc _)
  have A1 : Hid (Blk W0 (w.heap.size + 1) 4 #[.bool false]) := Lib.hid (by rw [hW0]; have := Blk.new (w.alloc (.cells #[.pointer (some ⟨B, 0, none⟩)] 78)) 4 #[.bool false]; rw [World.size_alloc] at this; exact ((this).alloc _).alloc _)
  have A2 : Hid (Blk W0 (w.heap.size + 1 + 1) 85 #[.slice none 0 0]) := Lib.hid (by rw [hW0]; have := Blk.new ((w.alloc (.cells #[.pointer (some ⟨B, 0, none⟩)] 78)).alloc (.cells #[.bool false] 4)) 85 #[.slice none 0 0]; simp only [World.size_alloc] at this; exact (this).alloc _)
  have B0 : Hid (Below w.heap.size w W0) := Lib.hid (by rw [hW0]; exact ((((Below.refl _ w).alloc (Nat.le_refl _) _).alloc (by simp) _).alloc (by simp; omega) _).alloc (by simp; omega) _)
  have hs0 : w.heap.size + 1 + 1 < W0.heap.size := A2.out.lt
  rw [← hW0]
  clear hW0
  have p0 : W0.cell? ⟨w.heap.size, 0, none⟩ = some (.pointer (some ⟨B, 0, none⟩)) := A0.out.cell 0
  have e1 : W0.cell? ⟨B, 1, none⟩ = some (.int .u8 c.ty) := K0.out.cell 1
  have e2 : W0.cell? ⟨B, 2, none⟩ = some (.int .u32 c.ro) := K0.out.cell 2
  have e3 : W0.cell? ⟨B, 3, none⟩ = some (.int .u32 c.na) := K0.out.cell 3
  have e4 : W0.cell? ⟨B, 4, none⟩ = some (.int .u8 c.nb) := K0.out.cell 4
  have e5 : W0.cell? ⟨B, 5, none⟩ = some (.int .u32 c.ad) := K0.out.cell 5
  have e6 : W0.cell? ⟨B, 6, none⟩ = some (.int .u8 c.op) := K0.out.cell 6
  have e7 : W0.cell? ⟨B, 7, none⟩ = some (.int .u16 c.hi) := K0.out.cell 7
  have e8 : W0.cell? ⟨B, 8, none⟩ = some (.int .u32 c.dd) := K0.out.cell 8
  have e9 : W0.cell? ⟨B, 9, none⟩ = some (.int .u16 c.po) := K0.out.cell 9
  have e10 : W0.cell? ⟨B, 10, none⟩ = some (.int .u8 c.pr) := K0.out.cell 10
  have e11 : W0.cell? ⟨B, 11, none⟩ = some (.bool c.dm) := K0.out.cell 11
  have e12 : W0.cell? ⟨B, 12, none⟩ = some (.bool c.ps) := K0.out.cell 12
  have e13 : W0.cell? ⟨B, 13, none⟩ = some (c.pe) := K0.out.cell 13
  have e14 : W0.cell? ⟨B, 14, none⟩ = some (.int .u32 c.rm) := K0.out.cell 14
  have hl0 : B < W0.heap.size := K0.out.lt
  go_wp2_with fail
  refine (HP.out _).mono ?_
  rintro e w1 ⟨rfl, hb1⟩
  have K1 := Lib.hid (K0.out.below hb1 K0.out.lt)
  have A01 := Lib.hid (A0.out.below hb1 A0.out.lt)
  have A11 := Lib.hid (A1.out.below hb1 A1.out.lt)
  have A21 := Lib.hid (A2.out.below hb1 A2.out.lt)
  have B1 := Lib.hid (B0.out.trans (hb1.mono B0.out.size))
  clear p0 e1 e2 e3 e4 e5 e6 e7 e8 e9 e10 e11 e12 e13 e14 hl0 hb1
  have p1 : w1.cell? ⟨w.heap.size, 0, none⟩ = some (.pointer (some ⟨B, 0, none⟩)) := A01.out.cell 0
  have h7 := H_h7.out
  have e_h7 : (c.ty == 4) = false := by simpa using h7
  have g1 : w1.cell? ⟨B, 1, none⟩ = some (.int .u8 c.ty) := K1.out.cell 1
  have g21 : w1.cell? ⟨B, 21, none⟩ = some (.int .u32 re) := K1.out.cell 21
  go_wp2_with fail
  refine (all_made _ _ _ ⟨_, rfl⟩ ⟨_, _, _, rfl⟩).mono ?_
  rintro e w2 ⟨rfl, hb2, b1, b2⟩
  have h2l : w1.heap.size + 1 < w2.heap.size := lt_of_cell b2
  have K2 := Lib.hid (K1.out.below hb2 K1.out.lt)
  have A02 := Lib.hid (A01.out.below hb2 A01.out.lt)
  have A12 := Lib.hid (A11.out.below hb2 A11.out.lt)
  have A22 := Lib.hid (A21.out.below hb2 A21.out.lt)
  have B2 := Lib.hid (B1.out.trans (hb2.mono B1.out.size))
  clear p1 g1 g21 hb2
  go_wp2_with fail
  refine wp_rangeFunc_none rfl enters_all1 (fun l W hW => ?_) (fun D W hD hB hK => ?_)
  · have hbW := B2.out.trans (hW.mono B2.out.size)
    refine allr2_none W w1.heap.size (w1.heap.size + 1) B L l cap w.heap.size c st dr bd wt nx po re xs HDm.out hlen ?_ ?_ (K2.out.below hW K2.out.lt) ⟨fun j x hj => (hbW.cell (p := ⟨L, j, none⟩) (lt_of_cell (HRow.out.r j x hj))).trans (HRow.out.r j x hj), fun x hx => (HRow.out.k x hx).below hbW (HRow.out.k x hx).lt⟩ ((A02.out.below hW A02.out.lt).cell 0)
    · exact (hW.cell (p := ⟨w1.heap.size, 0, none⟩) (by simp; omega)).trans b1
    · exact (hW.cell (p := ⟨w1.heap.size + 1, 0, none⟩) (by simp; omega)).trans b2
  have KD := Lib.hid (K2.out.below hB K2.out.lt)
  have A0D := Lib.hid (A02.out.below hB A02.out.lt)
  have A1D := Lib.hid (A12.out.below hB A12.out.lt)
  have A2D := Lib.hid (A22.out.below hB A22.out.lt)
  have BD := Lib.hid (B2.out.trans (hB.mono B2.out.size))
  have p3 : W.cell? ⟨w.heap.size, 0, none⟩ = some (.pointer (some ⟨B, 0, none⟩)) := A0D.out.cell 0
  have p4 : W.cell? ⟨w.heap.size + 1, 0, none⟩ = some (.bool false) := A1D.out.cell 0
  clear hB b1 b2
  have hbDw := BD.out
  have hwW : w.heap.size < W.heap.size := A0D.out.lt
  have hRW : RowAt W L xs := ⟨fun j x hj => (hbDw.cell (p := ⟨L, j, none⟩) (lt_of_cell (HRow.out.r j x hj))).trans (HRow.out.r j x hj), fun x hx => (HRow.out.k x hx).below hbDw (HRow.out.k x hx).lt⟩
  have HRW := Lib.hid hRW
  clear hRW hbDw
  go_wp2_with fail
  refine (hello_gen_f W B c st dr bd wt nx po re hn0 hn1 HDm.out L cap xs hlen HRW.out KD.out).mono ?_
  rintro e w3 ⟨ha, hn, hk, rfl, _, hb3⟩
  unfold helloW
  have A23 := Lib.hid (A2D.out.below hb3 A2D.out.lt)
  have B3 := Lib.hid (BD.out.trans (hb3.mono BD.out.size))
  have hDl : D < W.heap.size := (Array.getElem?_eq_some_iff.1 hK).1
  have hK3 : w3.heap[D]? = some (.deferred (some [])) := (hb3.block D hDl).trans hK
  have q2 : w3.cell? ⟨w.heap.size + 1 + 1, 0, none⟩ = some (.slice none 0 0) := A23.out.cell 0
  have fz2 := A23.out.frozen 0
  have hl3 : w.heap.size + 1 + 1 < w3.heap.size := A23.out.lt
  have hD3 : D < w3.heap.size := by have := hb3.size; omega
  clear p3 p4 hb3 hK
  go_wp2_with fail
  obtain ⟨W4, hW4⟩ : ∃ W4, W4 = (w3.setCell ⟨w.heap.size + 1 + 1, 0, none⟩ (.slice (some ⟨w3.heap.size, 0, none⟩) 1 1)).alloc (.cells #[.int .u32 3758096389, .int .u32 (lmaskV c), .int .u16 c.hi, .int .u8 (optV c), .int .u8 c.pr, .int .u32 c.dd, .int .u32 dr, .int .u32 bd, .slice ha hn hk] 105) := ⟨_, rfl⟩
  rw [← hW4]
  have hs3 : (w3.setCell ⟨w.heap.size + 1 + 1, 0, none⟩ (.slice (some ⟨w3.heap.size, 0, none⟩) 1 1)).heap.size = w3.heap.size := by simp [World.setCell]
  have hD2 : w2.heap.size ≤ D := hD
  have hwD : w.heap.size + 1 + 1 < D := by have := A22.out.lt; omega
  have hK4 : W4.heap[D]? = some (.deferred (some [])) := by
    rw [hW4, Below.heap_alloc _ _ D (by rw [hs3]; exact hD3), heap_far _ _ hwD]
    exact hK3
  have kS : Blk W4 w3.heap.size 105 #[.int .u32 3758096389, .int .u32 (lmaskV c), .int .u16 c.hi, .int .u8 (optV c), .int .u8 c.pr, .int .u32 c.dd, .int .u32 dr, .int .u32 bd, .slice ha hn hk] := by
    have := Blk.new (w3.setCell ⟨w.heap.size + 1 + 1, 0, none⟩ (.slice (some ⟨w3.heap.size, 0, none⟩) 1 1)) 105 #[.int .u32 3758096389, .int .u32 (lmaskV c), .int .u16 c.hi, .int .u8 (optV c), .int .u8 c.pr, .int .u32 c.dd, .int .u32 dr, .int .u32 bd, .slice ha hn hk]
    rw [hs3] at this
    rw [hW4]
    exact this
  have kR : Blk W4 (w.heap.size + 1 + 1) 85 #[.slice (some ⟨w3.heap.size, 0, none⟩) 1 1] := by
    rw [hW4]
    exact (A23.out.set_ 0 _).alloc _
  have hB4 : Below w.heap.size w W4 := by
    rw [hW4]
    exact (B3.out.setCell (p := ⟨w.heap.size + 1 + 1, 0, none⟩) (by simp; omega) _).alloc (by rw [hs3]; exact B3.out.size) _
  refine ⟨by simp, .inl ⟨_, _, rfl, run_takeDeferred hK4, ?_⟩⟩
  have k9 := kR.grown (grownBy_putObj' W4 D (.deferred none)) (by simp; omega)
  have kS9 := kS.grown (grownBy_putObj' W4 D (.deferred none)) (by simp; omega)
  have u0 := (k9.cell 0).trans rfl
  refine ⟨.slice (some ⟨w3.heap.size, 0, none⟩) 1 1, ?_, ⟨_, _, _, _, rfl, (show World.ownsRow _ w.heap.size 105 9 (.slice (some ⟨w3.heap.size, 0, none⟩) 1 1) 1 _ from ⟨rfl, .inr ⟨w3.heap.size, 1, _, rfl, B3.out.size, kS9, by omega, by simp [maxLen], rfl, rfl⟩⟩), by simp [Value.oneCell'], by omega, hB4.trans (below_put hK4 (by omega))⟩⟩
  simp [results, Try.f69, go_sem, u0]

set_option maxHeartbeats 2000000 in
set_option maxRecDepth 20000 in
theorem rnp_b (w : World) (B : Nat) (c : LC) (st dr bd wt nx po re : Int) (hn0 : 0 ≤ c.nb) (hn1 : c.nb ≤ 32) (hdm : c.dm = false) (L cap : Nat) (xs : List (Nat × Kn)) (hlen : xs.length ≤ 100000) (hrow : RowAt w L xs) (hp : c.peers = false) (h7 : c.ty = 4) (h8 : re ≠ 0) (k : Blk w B 119 (lks c st dr bd wt nx po re (.slice (some ⟨L, 0, none⟩) xs.length cap))) :
    Calls Try.prog 69 #[.pointer (some ⟨B, 0, none⟩), .bool false] w fun e w' => RowPost w e w' := by
  have hp2 : ∀ W, Calls Try.prog 63 #[.agg #[.int .u8 c.ty, .int .u32 c.ro, .int .u32 c.na, .int .u8 c.nb, .int .u32 c.ad, .int .u8 c.op, .int .u16 c.hi, .int .u32 c.dd, .int .u16 c.po, .int .u8 c.pr, .bool c.dm, .bool c.ps, c.pe, .int .u32 c.rm]] W fun e w' => e = .returned (.bool false) ∧ Below W.heap.size W w' := fun W => by have h := peers_any c W; rw [hp] at h; exact h
  have HP := Lib.hid hp2
  clear hp2 hp
  have H_h7 := Lib.hid h7
  have H_h8 := Lib.hid h8
  clear h7 h8
  have K := Lib.hid k
  have HRow := Lib.hid hrow
  have HDm := Lib.hid hdm
  have hlt : B < w.heap.size := k.lt
  have hmf : ∀ (fn : Fn) (first cap : Array Value) (w : World), (Instr.makeFunc fn first cap).run Try.prog w = .ok (.func fn first cap) w := fun _ _ _ _ => rfl
  clear k hrow hdm
  refine (callsIn_wide (n := 3)).1 ?_
  refine callsIn_of_wp_marks Try.func69 rfl trivial ?_ rfl
  rw [wpIn_wide]
  simp only [Try.ntmps69, List.size_toArray, List.length_cons, List.length_nil, Nat.reduceAdd, Nat.reduceSub, Array.replicate_succ, Array.replicate_zero, List.push_toArray, List.append_toArray, List.nil_append, List.cons_append]
  go_upto_region 2 with fail
  obtain ⟨W0, hW0⟩ : ∃ W0, W0 = (((w.alloc (.cells #[.pointer (some ⟨B, 0, none⟩)] 78)).alloc (.cells #[.bool false] 4)).alloc (.cells #[.slice none 0 0] 85)).alloc (.cells #[.slice none 0 0] 85) := ⟨_, rfl⟩
  have K0 : Hid (Blk W0 B 119 (lks c st dr bd wt nx po re (.slice (some ⟨L, 0, none⟩) xs.length cap))) := Lib.hid (by rw [hW0]; exact (((K.out.alloc _).alloc _).alloc _).alloc _)
  have A0 : Hid (Blk W0 w.heap.size 78 #[.pointer (some ⟨B, 0, none⟩)]) := Lib.hid (by rw [hW0]; exact (((Blk.new w _ _).alloc _).alloc _).alloc _)
  have A1 : Hid (Blk W0 (w.heap.size + 1) 4 #[.bool false]) := Lib.hid (by rw [hW0]; have := Blk.new (w.alloc (.cells #[.pointer (some ⟨B, 0, none⟩)] 78)) 4 #[.bool false]; rw [World.size_alloc] at this; exact ((this).alloc _).alloc _)
  have A2 : Hid (Blk W0 (w.heap.size + 1 + 1) 85 #[.slice none 0 0]) := Lib.hid (by rw [hW0]; have := Blk.new ((w.alloc (.cells #[.pointer (some ⟨B, 0, none⟩)] 78)).alloc (.cells #[.bool false] 4)) 85 #[.slice none 0 0]; simp only [World.size_alloc] at this; exact (this).alloc _)
  have B0 : Hid (Below w.heap.size w W0) := Lib.hid (by rw [hW0]; exact ((((Below.refl _ w).alloc (Nat.le_refl _) _).alloc (by simp) _).alloc (by simp; omega) _).alloc (by simp; omega) _)
  have hs0 : w.heap.size + 1 + 1 < W0.heap.size := A2.out.lt
  rw [← hW0]
  clear hW0
  have p0 : W0.cell? ⟨w.heap.size, 0, none⟩ = some (.pointer (some ⟨B, 0, none⟩)) := A0.out.cell 0
  have e1 : W0.cell? ⟨B, 1, none⟩ = some (.int .u8 c.ty) := K0.out.cell 1
  have e2 : W0.cell? ⟨B, 2, none⟩ = some (.int .u32 c.ro) := K0.out.cell 2
  have e3 : W0.cell? ⟨B, 3, none⟩ = some (.int .u32 c.na) := K0.out.cell 3
  have e4 : W0.cell? ⟨B, 4, none⟩ = some (.int .u8 c.nb) := K0.out.cell 4
  have e5 : W0.cell? ⟨B, 5, none⟩ = some (.int .u32 c.ad) := K0.out.cell 5
  have e6 : W0.cell? ⟨B, 6, none⟩ = some (.int .u8 c.op) := K0.out.cell 6
  have e7 : W0.cell? ⟨B, 7, none⟩ = some (.int .u16 c.hi) := K0.out.cell 7
  have e8 : W0.cell? ⟨B, 8, none⟩ = some (.int .u32 c.dd) := K0.out.cell 8
  have e9 : W0.cell? ⟨B, 9, none⟩ = some (.int .u16 c.po) := K0.out.cell 9
  have e10 : W0.cell? ⟨B, 10, none⟩ = some (.int .u8 c.pr) := K0.out.cell 10
  have e11 : W0.cell? ⟨B, 11, none⟩ = some (.bool c.dm) := K0.out.cell 11
  have e12 : W0.cell? ⟨B, 12, none⟩ = some (.bool c.ps) := K0.out.cell 12
  have e13 : W0.cell? ⟨B, 13, none⟩ = some (c.pe) := K0.out.cell 13
  have e14 : W0.cell? ⟨B, 14, none⟩ = some (.int .u32 c.rm) := K0.out.cell 14
  have hl0 : B < W0.heap.size := K0.out.lt
  go_wp2_with fail
  refine (HP.out _).mono ?_
  rintro e w1 ⟨rfl, hb1⟩
  have K1 := Lib.hid (K0.out.below hb1 K0.out.lt)
  have A01 := Lib.hid (A0.out.below hb1 A0.out.lt)
  have A11 := Lib.hid (A1.out.below hb1 A1.out.lt)
  have A21 := Lib.hid (A2.out.below hb1 A2.out.lt)
  have B1 := Lib.hid (B0.out.trans (hb1.mono B0.out.size))
  clear p0 e1 e2 e3 e4 e5 e6 e7 e8 e9 e10 e11 e12 e13 e14 hl0 hb1
  have p1 : w1.cell? ⟨w.heap.size, 0, none⟩ = some (.pointer (some ⟨B, 0, none⟩)) := A01.out.cell 0
  have h7 := H_h7.out
  have h8 := H_h8.out
  have e_h8 : (re == 0) = false := by simpa using h8
  have g1 : w1.cell? ⟨B, 1, none⟩ = some (.int .u8 c.ty) := K1.out.cell 1
  have g21 : w1.cell? ⟨B, 21, none⟩ = some (.int .u32 re) := K1.out.cell 21
  go_wp2_with fail
  refine (all_made _ _ _ ⟨_, rfl⟩ ⟨_, _, _, rfl⟩).mono ?_
  rintro e w2 ⟨rfl, hb2, b1, b2⟩
  have h2l : w1.heap.size + 1 < w2.heap.size := lt_of_cell b2
  have K2 := Lib.hid (K1.out.below hb2 K1.out.lt)
  have A02 := Lib.hid (A01.out.below hb2 A01.out.lt)
  have A12 := Lib.hid (A11.out.below hb2 A11.out.lt)
  have A22 := Lib.hid (A21.out.below hb2 A21.out.lt)
  have B2 := Lib.hid (B1.out.trans (hb2.mono B1.out.size))
  clear p1 g1 g21 hb2
  go_wp2_with fail
  refine wp_rangeFunc_none rfl enters_all1 (fun l W hW => ?_) (fun D W hD hB hK => ?_)
  · have hbW := B2.out.trans (hW.mono B2.out.size)
    refine allr2_none W w1.heap.size (w1.heap.size + 1) B L l cap w.heap.size c st dr bd wt nx po re xs HDm.out hlen ?_ ?_ (K2.out.below hW K2.out.lt) ⟨fun j x hj => (hbW.cell (p := ⟨L, j, none⟩) (lt_of_cell (HRow.out.r j x hj))).trans (HRow.out.r j x hj), fun x hx => (HRow.out.k x hx).below hbW (HRow.out.k x hx).lt⟩ ((A02.out.below hW A02.out.lt).cell 0)
    · exact (hW.cell (p := ⟨w1.heap.size, 0, none⟩) (by simp; omega)).trans b1
    · exact (hW.cell (p := ⟨w1.heap.size + 1, 0, none⟩) (by simp; omega)).trans b2
  have KD := Lib.hid (K2.out.below hB K2.out.lt)
  have A0D := Lib.hid (A02.out.below hB A02.out.lt)
  have A1D := Lib.hid (A12.out.below hB A12.out.lt)
  have A2D := Lib.hid (A22.out.below hB A22.out.lt)
  have BD := Lib.hid (B2.out.trans (hB.mono B2.out.size))
  have p3 : W.cell? ⟨w.heap.size, 0, none⟩ = some (.pointer (some ⟨B, 0, none⟩)) := A0D.out.cell 0
  have p4 : W.cell? ⟨w.heap.size + 1, 0, none⟩ = some (.bool false) := A1D.out.cell 0
  clear hB b1 b2
  have hbDw := BD.out
  have hwW : w.heap.size < W.heap.size := A0D.out.lt
  have hRW : RowAt W L xs := ⟨fun j x hj => (hbDw.cell (p := ⟨L, j, none⟩) (lt_of_cell (HRow.out.r j x hj))).trans (HRow.out.r j x hj), fun x hx => (HRow.out.k x hx).below hbDw (HRow.out.k x hx).lt⟩
  have HRW := Lib.hid hRW
  clear hRW hbDw
  go_wp2_with fail
  refine (hello_gen_f W B c st dr bd wt nx po re hn0 hn1 HDm.out L cap xs hlen HRW.out KD.out).mono ?_
  rintro e w3 ⟨ha, hn, hk, rfl, _, hb3⟩
  unfold helloW
  have A23 := Lib.hid (A2D.out.below hb3 A2D.out.lt)
  have B3 := Lib.hid (BD.out.trans (hb3.mono BD.out.size))
  have hDl : D < W.heap.size := (Array.getElem?_eq_some_iff.1 hK).1
  have hK3 : w3.heap[D]? = some (.deferred (some [])) := (hb3.block D hDl).trans hK
  have q2 : w3.cell? ⟨w.heap.size + 1 + 1, 0, none⟩ = some (.slice none 0 0) := A23.out.cell 0
  have fz2 := A23.out.frozen 0
  have hl3 : w.heap.size + 1 + 1 < w3.heap.size := A23.out.lt
  have hD3 : D < w3.heap.size := by have := hb3.size; omega
  clear p3 p4 hb3 hK
  go_wp2_with fail
  obtain ⟨W4, hW4⟩ : ∃ W4, W4 = (w3.setCell ⟨w.heap.size + 1 + 1, 0, none⟩ (.slice (some ⟨w3.heap.size, 0, none⟩) 1 1)).alloc (.cells #[.int .u32 re, .int .u32 (lmaskV c), .int .u16 c.hi, .int .u8 (optV c), .int .u8 c.pr, .int .u32 c.dd, .int .u32 dr, .int .u32 bd, .slice ha hn hk] 105) := ⟨_, rfl⟩
  rw [← hW4]
  have hs3 : (w3.setCell ⟨w.heap.size + 1 + 1, 0, none⟩ (.slice (some ⟨w3.heap.size, 0, none⟩) 1 1)).heap.size = w3.heap.size := by simp [World.setCell]
  have hD2 : w2.heap.size ≤ D := hD
  have hwD : w.heap.size + 1 + 1 < D := by have := A22.out.lt; omega
  have hK4 : W4.heap[D]? = some (.deferred (some [])) := by
    rw [hW4, Below.heap_alloc _ _ D (by rw [hs3]; exact hD3), heap_far _ _ hwD]
    exact hK3
  have kS : Blk W4 w3.heap.size 105 #[.int .u32 re, .int .u32 (lmaskV c), .int .u16 c.hi, .int .u8 (optV c), .int .u8 c.pr, .int .u32 c.dd, .int .u32 dr, .int .u32 bd, .slice ha hn hk] := by
    have := Blk.new (w3.setCell ⟨w.heap.size + 1 + 1, 0, none⟩ (.slice (some ⟨w3.heap.size, 0, none⟩) 1 1)) 105 #[.int .u32 re, .int .u32 (lmaskV c), .int .u16 c.hi, .int .u8 (optV c), .int .u8 c.pr, .int .u32 c.dd, .int .u32 dr, .int .u32 bd, .slice ha hn hk]
    rw [hs3] at this
    rw [hW4]
    exact this
  have kR : Blk W4 (w.heap.size + 1 + 1) 85 #[.slice (some ⟨w3.heap.size, 0, none⟩) 1 1] := by
    rw [hW4]
    exact (A23.out.set_ 0 _).alloc _
  have hB4 : Below w.heap.size w W4 := by
    rw [hW4]
    exact (B3.out.setCell (p := ⟨w.heap.size + 1 + 1, 0, none⟩) (by simp; omega) _).alloc (by rw [hs3]; exact B3.out.size) _
  refine ⟨by simp, .inl ⟨_, _, rfl, run_takeDeferred hK4, ?_⟩⟩
  have k9 := kR.grown (grownBy_putObj' W4 D (.deferred none)) (by simp; omega)
  have kS9 := kS.grown (grownBy_putObj' W4 D (.deferred none)) (by simp; omega)
  have u0 := (k9.cell 0).trans rfl
  refine ⟨.slice (some ⟨w3.heap.size, 0, none⟩) 1 1, ?_, ⟨_, _, _, _, rfl, (show World.ownsRow _ w.heap.size 105 9 (.slice (some ⟨w3.heap.size, 0, none⟩) 1 1) 1 _ from ⟨rfl, .inr ⟨w3.heap.size, 1, _, rfl, B3.out.size, kS9, by omega, by simp [maxLen], rfl, rfl⟩⟩), by simp [Value.oneCell'], by omega, hB4.trans (below_put hK4 (by omega))⟩⟩
  simp [results, Try.f69, go_sem, u0]

set_option maxHeartbeats 2000000 in
set_option maxRecDepth 20000 in
theorem rnp_c (w : World) (B : Nat) (c : LC) (st dr bd wt nx po re : Int) (hdm : c.dm = false) (L cap : Nat) (xs : List (Nat × Kn)) (hlen : xs.length ≤ 100000) (hrow : RowAt w L xs) (hp : c.peers = false) (h7 : c.ty = 4) (h8 : re = 0) (k : Blk w B 119 (lks c st dr bd wt nx po re (.slice (some ⟨L, 0, none⟩) xs.length cap))) :
    Calls Try.prog 69 #[.pointer (some ⟨B, 0, none⟩), .bool false] w fun e w' => RowPost w e w' := by
  have hp2 : ∀ W, Calls Try.prog 63 #[.agg #[.int .u8 c.ty, .int .u32 c.ro, .int .u32 c.na, .int .u8 c.nb, .int .u32 c.ad, .int .u8 c.op, .int .u16 c.hi, .int .u32 c.dd, .int .u16 c.po, .int .u8 c.pr, .bool c.dm, .bool c.ps, c.pe, .int .u32 c.rm]] W fun e w' => e = .returned (.bool false) ∧ Below W.heap.size W w' := fun W => by have h := peers_any c W; rw [hp] at h; exact h
  have HP := Lib.hid hp2
  clear hp2 hp
  have H_h7 := Lib.hid h7
  have H_h8 := Lib.hid h8
  clear h7 h8
  have K := Lib.hid k
  have HRow := Lib.hid hrow
  have HDm := Lib.hid hdm
  have hlt : B < w.heap.size := k.lt
  have hmf : ∀ (fn : Fn) (first cap : Array Value) (w : World), (Instr.makeFunc fn first cap).run Try.prog w = .ok (.func fn first cap) w := fun _ _ _ _ => rfl
  clear k hrow hdm
  refine (callsIn_wide (n := 3)).1 ?_
  refine callsIn_of_wp_marks Try.func69 rfl trivial ?_ rfl
  rw [wpIn_wide]
  simp only [Try.ntmps69, List.size_toArray, List.length_cons, List.length_nil, Nat.reduceAdd, Nat.reduceSub, Array.replicate_succ, Array.replicate_zero, List.push_toArray, List.append_toArray, List.nil_append, List.cons_append]
  go_upto_region 2 with fail
  obtain ⟨W0, hW0⟩ : ∃ W0, W0 = (((w.alloc (.cells #[.pointer (some ⟨B, 0, none⟩)] 78)).alloc (.cells #[.bool false] 4)).alloc (.cells #[.slice none 0 0] 85)).alloc (.cells #[.slice none 0 0] 85) := ⟨_, rfl⟩
  have K0 : Hid (Blk W0 B 119 (lks c st dr bd wt nx po re (.slice (some ⟨L, 0, none⟩) xs.length cap))) := Lib.hid (by rw [hW0]; exact (((K.out.alloc _).alloc _).alloc _).alloc _)
  have A0 : Hid (Blk W0 w.heap.size 78 #[.pointer (some ⟨B, 0, none⟩)]) := Lib.hid (by rw [hW0]; exact (((Blk.new w _ _).alloc _).alloc _).alloc _)
  have A1 : Hid (Blk W0 (w.heap.size + 1) 4 #[.bool false]) := Lib.hid (by rw [hW0]; have := Blk.new (w.alloc (.cells #[.pointer (some ⟨B, 0, none⟩)] 78)) 4 #[.bool false]; rw [World.size_alloc] at this; exact ((this).alloc _).alloc _)
  have A2 : Hid (Blk W0 (w.heap.size + 1 + 1) 85 #[.slice none 0 0]) := Lib.hid (by rw [hW0]; have := Blk.new ((w.alloc (.cells #[.pointer (some ⟨B, 0, none⟩)] 78)).alloc (.cells #[.bool false] 4)) 85 #[.slice none 0 0]; simp only [World.size_alloc] at this; exact (this).alloc _)
  have B0 : Hid (Below w.heap.size w W0) := Lib.hid (by rw [hW0]; exact ((((Below.refl _ w).alloc (Nat.le_refl _) _).alloc (by simp) _).alloc (by simp; omega) _).alloc (by simp; omega) _)
  have hs0 : w.heap.size + 1 + 1 < W0.heap.size := A2.out.lt
  rw [← hW0]
  clear hW0
  have p0 : W0.cell? ⟨w.heap.size, 0, none⟩ = some (.pointer (some ⟨B, 0, none⟩)) := A0.out.cell 0
  have e1 : W0.cell? ⟨B, 1, none⟩ = some (.int .u8 c.ty) := K0.out.cell 1
  have e2 : W0.cell? ⟨B, 2, none⟩ = some (.int .u32 c.ro) := K0.out.cell 2
  have e3 : W0.cell? ⟨B, 3, none⟩ = some (.int .u32 c.na) := K0.out.cell 3
  have e4 : W0.cell? ⟨B, 4, none⟩ = some (.int .u8 c.nb) := K0.out.cell 4
  have e5 : W0.cell? ⟨B, 5, none⟩ = some (.int .u32 c.ad) := K0.out.cell 5
  have e6 : W0.cell? ⟨B, 6, none⟩ = some (.int .u8 c.op) := K0.out.cell 6
  have e7 : W0.cell? ⟨B, 7, none⟩ = some (.int .u16 c.hi) := K0.out.cell 7
  have e8 : W0.cell? ⟨B, 8, none⟩ = some (.int .u32 c.dd) := K0.out.cell 8
  have e9 : W0.cell? ⟨B, 9, none⟩ = some (.int .u16 c.po) := K0.out.cell 9
  have e10 : W0.cell? ⟨B, 10, none⟩ = some (.int .u8 c.pr) := K0.out.cell 10
  have e11 : W0.cell? ⟨B, 11, none⟩ = some (.bool c.dm) := K0.out.cell 11
  have e12 : W0.cell? ⟨B, 12, none⟩ = some (.bool c.ps) := K0.out.cell 12
  have e13 : W0.cell? ⟨B, 13, none⟩ = some (c.pe) := K0.out.cell 13
  have e14 : W0.cell? ⟨B, 14, none⟩ = some (.int .u32 c.rm) := K0.out.cell 14
  have hl0 : B < W0.heap.size := K0.out.lt
  go_wp2_with fail
  refine (HP.out _).mono ?_
  rintro e w1 ⟨rfl, hb1⟩
  have K1 := Lib.hid (K0.out.below hb1 K0.out.lt)
  have A01 := Lib.hid (A0.out.below hb1 A0.out.lt)
  have A11 := Lib.hid (A1.out.below hb1 A1.out.lt)
  have A21 := Lib.hid (A2.out.below hb1 A2.out.lt)
  have B1 := Lib.hid (B0.out.trans (hb1.mono B0.out.size))
  clear p0 e1 e2 e3 e4 e5 e6 e7 e8 e9 e10 e11 e12 e13 e14 hl0 hb1
  have p1 : w1.cell? ⟨w.heap.size, 0, none⟩ = some (.pointer (some ⟨B, 0, none⟩)) := A01.out.cell 0
  have h7 := H_h7.out
  have h8 := H_h8.out
  have g1 : w1.cell? ⟨B, 1, none⟩ = some (.int .u8 c.ty) := K1.out.cell 1
  have g21 : w1.cell? ⟨B, 21, none⟩ = some (.int .u32 re) := K1.out.cell 21
  go_wp2_with fail
  refine (all_made _ _ _ ⟨_, rfl⟩ ⟨_, _, _, rfl⟩).mono ?_
  rintro e w2 ⟨rfl, hb2, b1, b2⟩
  have h2l : w1.heap.size + 1 < w2.heap.size := lt_of_cell b2
  have K2 := Lib.hid (K1.out.below hb2 K1.out.lt)
  have A02 := Lib.hid (A01.out.below hb2 A01.out.lt)
  have A12 := Lib.hid (A11.out.below hb2 A11.out.lt)
  have A22 := Lib.hid (A21.out.below hb2 A21.out.lt)
  have B2 := Lib.hid (B1.out.trans (hb2.mono B1.out.size))
  clear p1 g1 g21 hb2
  go_wp2_with fail
  refine wp_rangeFunc_none rfl enters_all1 (fun l W hW => ?_) (fun D W hD hB hK => ?_)
  · have hbW := B2.out.trans (hW.mono B2.out.size)
    refine allr2_none W w1.heap.size (w1.heap.size + 1) B L l cap w.heap.size c st dr bd wt nx po re xs HDm.out hlen ?_ ?_ (K2.out.below hW K2.out.lt) ⟨fun j x hj => (hbW.cell (p := ⟨L, j, none⟩) (lt_of_cell (HRow.out.r j x hj))).trans (HRow.out.r j x hj), fun x hx => (HRow.out.k x hx).below hbW (HRow.out.k x hx).lt⟩ ((A02.out.below hW A02.out.lt).cell 0)
    · exact (hW.cell (p := ⟨w1.heap.size, 0, none⟩) (by simp; omega)).trans b1
    · exact (hW.cell (p := ⟨w1.heap.size + 1, 0, none⟩) (by simp; omega)).trans b2
  have KD := Lib.hid (K2.out.below hB K2.out.lt)
  have A0D := Lib.hid (A02.out.below hB A02.out.lt)
  have A1D := Lib.hid (A12.out.below hB A12.out.lt)
  have A2D := Lib.hid (A22.out.below hB A22.out.lt)
  have BD := Lib.hid (B2.out.trans (hB.mono B2.out.size))
  have p3 : W.cell? ⟨w.heap.size, 0, none⟩ = some (.pointer (some ⟨B, 0, none⟩)) := A0D.out.cell 0
  have p4 : W.cell? ⟨w.heap.size + 1, 0, none⟩ = some (.bool false) := A1D.out.cell 0
  clear hB b1 b2
  have q2 : W.cell? ⟨w.heap.size + 1 + 1, 0, none⟩ = some (.slice none 0 0) := A2D.out.cell 0
  have fz2 := A2D.out.frozen 0
  go_wp2_with fail
  obtain ⟨W4, hW4⟩ : ∃ W4, W4 = W.setCell ⟨w.heap.size + 1 + 1, 0, none⟩ (.slice none 0 0) := ⟨_, rfl⟩
  rw [← hW4]
  have hD2 : w2.heap.size ≤ D := hD
  have hwD : w.heap.size + 1 + 1 < D := by have := A22.out.lt; omega
  have hK4 : W4.heap[D]? = some (.deferred (some [])) := by
    rw [hW4, heap_far _ _ hwD]
    exact hK
  have kR : Blk W4 (w.heap.size + 1 + 1) 85 #[.slice none 0 0] := by rw [hW4]; exact A2D.out.set_ 0 _
  have hB4 : Below w.heap.size w W4 := by
    rw [hW4]
    exact BD.out.setCell (p := ⟨w.heap.size + 1 + 1, 0, none⟩) (by simp; omega) _
  refine ⟨by simp, .inl ⟨_, _, rfl, run_takeDeferred hK4, ?_⟩⟩
  have k9 := kR.grown (grownBy_putObj' W4 D (.deferred none)) (by simp; omega)
  have u0 := (k9.cell 0).trans rfl
  refine ⟨.slice none 0 0, ?_, ⟨none, 0, 0, [], rfl, World.ownsRow_nil _ _ _ _, by simp, by omega, hB4.trans (below_put hK4 (by omega))⟩⟩
  simp [results, Try.f69, go_sem, u0]

set_option maxHeartbeats 2000000 in
set_option maxRecDepth 20000 in
theorem rnp_d (w : World) (B : Nat) (c : LC) (st dr bd wt nx po re : Int) (hdm : c.dm = false) (L cap : Nat) (xs : List (Nat × Kn)) (hlen : xs.length ≤ 100000) (hrow : RowAt w L xs) (hp : c.peers = false) (h7 : c.ty ≠ 4) (k : Blk w B 119 (lks c st dr bd wt nx po re (.slice (some ⟨L, 0, none⟩) xs.length cap))) :
    Calls Try.prog 69 #[.pointer (some ⟨B, 0, none⟩), .bool true] w fun e w' => RowPost w e w' := by
  have hp2 : ∀ W, Calls Try.prog 63 #[.agg #[.int .u8 c.ty, .int .u32 c.ro, .int .u32 c.na, .int .u8 c.nb, .int .u32 c.ad, .int .u8 c.op, .int .u16 c.hi, .int .u32 c.dd, .int .u16 c.po, .int .u8 c.pr, .bool c.dm, .bool c.ps, c.pe, .int .u32 c.rm]] W fun e w' => e = .returned (.bool false) ∧ Below W.heap.size W w' := fun W => by have h := peers_any c W; rw [hp] at h; exact h
  have HP := Lib.hid hp2
  clear hp2 hp
  have H_h7 := Lib.hid h7
  clear h7
  have K := Lib.hid k
  have HRow := Lib.hid hrow
  have HDm := Lib.hid hdm
  have hlt : B < w.heap.size := k.lt
  have hmf : ∀ (fn : Fn) (first cap : Array Value) (w : World), (Instr.makeFunc fn first cap).run Try.prog w = .ok (.func fn first cap) w := fun _ _ _ _ => rfl
  clear k hrow hdm
  refine (callsIn_wide (n := 3)).1 ?_
  refine callsIn_of_wp_marks Try.func69 rfl trivial ?_ rfl
  rw [wpIn_wide]
  simp only [Try.ntmps69, List.size_toArray, List.length_cons, List.length_nil, Nat.reduceAdd, Nat.reduceSub, Array.replicate_succ, Array.replicate_zero, List.push_toArray, List.append_toArray, List.nil_append, List.cons_append]
  go_upto_region 2 with fail
  obtain ⟨W0, hW0⟩ : ∃ W0, W0 = (((w.alloc (.cells #[.pointer (some ⟨B, 0, none⟩)] 78)).alloc (.cells #[.bool true] 4)).alloc (.cells #[.slice none 0 0] 85)).alloc (.cells #[.slice none 0 0] 85) := ⟨_, rfl⟩
  have K0 : Hid (Blk W0 B 119 (lks c st dr bd wt nx po re (.slice (some ⟨L, 0, none⟩) xs.length cap))) := Lib.hid (by rw [hW0]; exact (((K.out.alloc _).alloc _).alloc _).alloc _)
  have A0 : Hid (Blk W0 w.heap.size 78 #[.pointer (some ⟨B, 0, none⟩)]) := Lib.hid (by rw [hW0]; exact (((Blk.new w _ _).alloc _).alloc _).alloc _)
  have A1 : Hid (Blk W0 (w.heap.size + 1) 4 #[.bool true]) := Lib.hid (by rw [hW0]; have := Blk.new (w.alloc (.cells #[.pointer (some ⟨B, 0, none⟩)] 78)) 4 #[.bool true]; rw [World.size_alloc] at this; exact ((this).alloc _).alloc _)
  have A2 : Hid (Blk W0 (w.heap.size + 1 + 1) 85 #[.slice none 0 0]) := Lib.hid (by rw [hW0]; have := Blk.new ((w.alloc (.cells #[.pointer (some ⟨B, 0, none⟩)] 78)).alloc (.cells #[.bool true] 4)) 85 #[.slice none 0 0]; simp only [World.size_alloc] at this; exact (this).alloc _)
  have B0 : Hid (Below w.heap.size w W0) := Lib.hid (by rw [hW0]; exact ((((Below.refl _ w).alloc (Nat.le_refl _) _).alloc (by simp) _).alloc (by simp; omega) _).alloc (by simp; omega) _)
  have hs0 : w.heap.size + 1 + 1 < W0.heap.size := A2.out.lt
  rw [← hW0]
  clear hW0
  have p0 : W0.cell? ⟨w.heap.size, 0, none⟩ = some (.pointer (some ⟨B, 0, none⟩)) := A0.out.cell 0
  have e1 : W0.cell? ⟨B, 1, none⟩ = some (.int .u8 c.ty) := K0.out.cell 1
  have e2 : W0.cell? ⟨B, 2, none⟩ = some (.int .u32 c.ro) := K0.out.cell 2
  have e3 : W0.cell? ⟨B, 3, none⟩ = some (.int .u32 c.na) := K0.out.cell 3
  have e4 : W0.cell? ⟨B, 4, none⟩ = some (.int .u8 c.nb) := K0.out.cell 4
  have e5 : W0.cell? ⟨B, 5, none⟩ = some (.int .u32 c.ad) := K0.out.cell 5
  have e6 : W0.cell? ⟨B, 6, none⟩ = some (.int .u8 c.op) := K0.out.cell 6
  have e7 : W0.cell? ⟨B, 7, none⟩ = some (.int .u16 c.hi) := K0.out.cell 7
  have e8 : W0.cell? ⟨B, 8, none⟩ = some (.int .u32 c.dd) := K0.out.cell 8
  have e9 : W0.cell? ⟨B, 9, none⟩ = some (.int .u16 c.po) := K0.out.cell 9
  have e10 : W0.cell? ⟨B, 10, none⟩ = some (.int .u8 c.pr) := K0.out.cell 10
  have e11 : W0.cell? ⟨B, 11, none⟩ = some (.bool c.dm) := K0.out.cell 11
  have e12 : W0.cell? ⟨B, 12, none⟩ = some (.bool c.ps) := K0.out.cell 12
  have e13 : W0.cell? ⟨B, 13, none⟩ = some (c.pe) := K0.out.cell 13
  have e14 : W0.cell? ⟨B, 14, none⟩ = some (.int .u32 c.rm) := K0.out.cell 14
  have hl0 : B < W0.heap.size := K0.out.lt
  go_wp2_with fail
  refine (HP.out _).mono ?_
  rintro e w1 ⟨rfl, hb1⟩
  have K1 := Lib.hid (K0.out.below hb1 K0.out.lt)
  have A01 := Lib.hid (A0.out.below hb1 A0.out.lt)
  have A11 := Lib.hid (A1.out.below hb1 A1.out.lt)
  have A21 := Lib.hid (A2.out.below hb1 A2.out.lt)
  have B1 := Lib.hid (B0.out.trans (hb1.mono B0.out.size))
  clear p0 e1 e2 e3 e4 e5 e6 e7 e8 e9 e10 e11 e12 e13 e14 hl0 hb1
  have p1 : w1.cell? ⟨w.heap.size, 0, none⟩ = some (.pointer (some ⟨B, 0, none⟩)) := A01.out.cell 0
  have h7 := H_h7.out
  have e_h7 : (c.ty == 4) = false := by simpa using h7
  have g1 : w1.cell? ⟨B, 1, none⟩ = some (.int .u8 c.ty) := K1.out.cell 1
  have g21 : w1.cell? ⟨B, 21, none⟩ = some (.int .u32 re) := K1.out.cell 21
  go_wp2_with fail
  refine (all_made _ _ _ ⟨_, rfl⟩ ⟨_, _, _, rfl⟩).mono ?_
  rintro e w2 ⟨rfl, hb2, b1, b2⟩
  have h2l : w1.heap.size + 1 < w2.heap.size := lt_of_cell b2
  have K2 := Lib.hid (K1.out.below hb2 K1.out.lt)
  have A02 := Lib.hid (A01.out.below hb2 A01.out.lt)
  have A12 := Lib.hid (A11.out.below hb2 A11.out.lt)
  have A22 := Lib.hid (A21.out.below hb2 A21.out.lt)
  have B2 := Lib.hid (B1.out.trans (hb2.mono B1.out.size))
  clear p1 g1 g21 hb2
  go_wp2_with fail
  refine wp_rangeFunc_none rfl enters_all1 (fun l W hW => ?_) (fun D W hD hB hK => ?_)
  · have hbW := B2.out.trans (hW.mono B2.out.size)
    refine allr2_none W w1.heap.size (w1.heap.size + 1) B L l cap w.heap.size c st dr bd wt nx po re xs HDm.out hlen ?_ ?_ (K2.out.below hW K2.out.lt) ⟨fun j x hj => (hbW.cell (p := ⟨L, j, none⟩) (lt_of_cell (HRow.out.r j x hj))).trans (HRow.out.r j x hj), fun x hx => (HRow.out.k x hx).below hbW (HRow.out.k x hx).lt⟩ ((A02.out.below hW A02.out.lt).cell 0)
    · exact (hW.cell (p := ⟨w1.heap.size, 0, none⟩) (by simp; omega)).trans b1
    · exact (hW.cell (p := ⟨w1.heap.size + 1, 0, none⟩) (by simp; omega)).trans b2
  have KD := Lib.hid (K2.out.below hB K2.out.lt)
  have A0D := Lib.hid (A02.out.below hB A02.out.lt)
  have A1D := Lib.hid (A12.out.below hB A12.out.lt)
  have A2D := Lib.hid (A22.out.below hB A22.out.lt)
  have BD := Lib.hid (B2.out.trans (hB.mono B2.out.size))
  have p3 : W.cell? ⟨w.heap.size, 0, none⟩ = some (.pointer (some ⟨B, 0, none⟩)) := A0D.out.cell 0
  have p4 : W.cell? ⟨w.heap.size + 1, 0, none⟩ = some (.bool true) := A1D.out.cell 0
  clear hB b1 b2
  have q2 : W.cell? ⟨w.heap.size + 1 + 1, 0, none⟩ = some (.slice none 0 0) := A2D.out.cell 0
  have fz2 := A2D.out.frozen 0
  go_wp2_with fail
  obtain ⟨W4, hW4⟩ : ∃ W4, W4 = W.setCell ⟨w.heap.size + 1 + 1, 0, none⟩ (.slice none 0 0) := ⟨_, rfl⟩
  rw [← hW4]
  have hD2 : w2.heap.size ≤ D := hD
  have hwD : w.heap.size + 1 + 1 < D := by have := A22.out.lt; omega
  have hK4 : W4.heap[D]? = some (.deferred (some [])) := by
    rw [hW4, heap_far _ _ hwD]
    exact hK
  have kR : Blk W4 (w.heap.size + 1 + 1) 85 #[.slice none 0 0] := by rw [hW4]; exact A2D.out.set_ 0 _
  have hB4 : Below w.heap.size w W4 := by
    rw [hW4]
    exact BD.out.setCell (p := ⟨w.heap.size + 1 + 1, 0, none⟩) (by simp; omega) _
  refine ⟨by simp, .inl ⟨_, _, rfl, run_takeDeferred hK4, ?_⟩⟩
  have k9 := kR.grown (grownBy_putObj' W4 D (.deferred none)) (by simp; omega)
  have u0 := (k9.cell 0).trans rfl
  refine ⟨.slice none 0 0, ?_, ⟨none, 0, 0, [], rfl, World.ownsRow_nil _ _ _ _, by simp, by omega, hB4.trans (below_put hK4 (by omega))⟩⟩
  simp [results, Try.f69, go_sem, u0]

set_option maxHeartbeats 2000000 in
set_option maxRecDepth 20000 in
theorem rnp_e (w : World) (B : Nat) (c : LC) (st dr bd wt nx po re : Int) (hdm : c.dm = false) (L cap : Nat) (xs : List (Nat × Kn)) (hlen : xs.length ≤ 100000) (hrow : RowAt w L xs) (hp : c.peers = false) (h7 : c.ty = 4) (k : Blk w B 119 (lks c st dr bd wt nx po re (.slice (some ⟨L, 0, none⟩) xs.length cap))) :
    Calls Try.prog 69 #[.pointer (some ⟨B, 0, none⟩), .bool true] w fun e w' => RowPost w e w' := by
  have hp2 : ∀ W, Calls Try.prog 63 #[.agg #[.int .u8 c.ty, .int .u32 c.ro, .int .u32 c.na, .int .u8 c.nb, .int .u32 c.ad, .int .u8 c.op, .int .u16 c.hi, .int .u32 c.dd, .int .u16 c.po, .int .u8 c.pr, .bool c.dm, .bool c.ps, c.pe, .int .u32 c.rm]] W fun e w' => e = .returned (.bool false) ∧ Below W.heap.size W w' := fun W => by have h := peers_any c W; rw [hp] at h; exact h
  have HP := Lib.hid hp2
  clear hp2 hp
  have H_h7 := Lib.hid h7
  clear h7
  have K := Lib.hid k
  have HRow := Lib.hid hrow
  have HDm := Lib.hid hdm
  have hlt : B < w.heap.size := k.lt
  have hmf : ∀ (fn : Fn) (first cap : Array Value) (w : World), (Instr.makeFunc fn first cap).run Try.prog w = .ok (.func fn first cap) w := fun _ _ _ _ => rfl
  clear k hrow hdm
  refine (callsIn_wide (n := 3)).1 ?_
  refine callsIn_of_wp_marks Try.func69 rfl trivial ?_ rfl
  rw [wpIn_wide]
  simp only [Try.ntmps69, List.size_toArray, List.length_cons, List.length_nil, Nat.reduceAdd, Nat.reduceSub, Array.replicate_succ, Array.replicate_zero, List.push_toArray, List.append_toArray, List.nil_append, List.cons_append]
  go_upto_region 2 with fail
  obtain ⟨W0, hW0⟩ : ∃ W0, W0 = (((w.alloc (.cells #[.pointer (some ⟨B, 0, none⟩)] 78)).alloc (.cells #[.bool true] 4)).alloc (.cells #[.slice none 0 0] 85)).alloc (.cells #[.slice none 0 0] 85) := ⟨_, rfl⟩
  have K0 : Hid (Blk W0 B 119 (lks c st dr bd wt nx po re (.slice (some ⟨L, 0, none⟩) xs.length cap))) := Lib.hid (by rw [hW0]; exact (((K.out.alloc _).alloc _).alloc _).alloc _)
  have A0 : Hid (Blk W0 w.heap.size 78 #[.pointer (some ⟨B, 0, none⟩)]) := Lib.hid (by rw [hW0]; exact (((Blk.new w _ _).alloc _).alloc _).alloc _)
  have A1 : Hid (Blk W0 (w.heap.size + 1) 4 #[.bool true]) := Lib.hid (by rw [hW0]; have := Blk.new (w.alloc (.cells #[.pointer (some ⟨B, 0, none⟩)] 78)) 4 #[.bool true]; rw [World.size_alloc] at this; exact ((this).alloc _).alloc _)
  have A2 : Hid (Blk W0 (w.heap.size + 1 + 1) 85 #[.slice none 0 0]) := Lib.hid (by rw [hW0]; have := Blk.new ((w.alloc (.cells #[.pointer (some ⟨B, 0, none⟩)] 78)).alloc (.cells #[.bool true] 4)) 85 #[.slice none 0 0]; simp only [World.size_alloc] at this; exact (this).alloc _)
  have B0 : Hid (Below w.heap.size w W0) := Lib.hid (by rw [hW0]; exact ((((Below.refl _ w).alloc (Nat.le_refl _) _).alloc (by simp) _).alloc (by simp; omega) _).alloc (by simp; omega) _)
  have hs0 : w.heap.size + 1 + 1 < W0.heap.size := A2.out.lt
  rw [← hW0]
  clear hW0
  have p0 : W0.cell? ⟨w.heap.size, 0, none⟩ = some (.pointer (some ⟨B, 0, none⟩)) := A0.out.cell 0
  have e1 : W0.cell? ⟨B, 1, none⟩ = some (.int .u8 c.ty) := K0.out.cell 1
  have e2 : W0.cell? ⟨B, 2, none⟩ = some (.int .u32 c.ro) := K0.out.cell 2
  have e3 : W0.cell? ⟨B, 3, none⟩ = some (.int .u32 c.na) := K0.out.cell 3
  have e4 : W0.cell? ⟨B, 4, none⟩ = some (.int .u8 c.nb) := K0.out.cell 4
  have e5 : W0.cell? ⟨B, 5, none⟩ = some (.int .u32 c.ad) := K0.out.cell 5
  have e6 : W0.cell? ⟨B, 6, none⟩ = some (.int .u8 c.op) := K0.out.cell 6
  have e7 : W0.cell? ⟨B, 7, none⟩ = some (.int .u16 c.hi) := K0.out.cell 7
  have e8 : W0.cell? ⟨B, 8, none⟩ = some (.int .u32 c.dd) := K0.out.cell 8
  have e9 : W0.cell? ⟨B, 9, none⟩ = some (.int .u16 c.po) := K0.out.cell 9
  have e10 : W0.cell? ⟨B, 10, none⟩ = some (.int .u8 c.pr) := K0.out.cell 10
  have e11 : W0.cell? ⟨B, 11, none⟩ = some (.bool c.dm) := K0.out.cell 11
  have e12 : W0.cell? ⟨B, 12, none⟩ = some (.bool c.ps) := K0.out.cell 12
  have e13 : W0.cell? ⟨B, 13, none⟩ = some (c.pe) := K0.out.cell 13
  have e14 : W0.cell? ⟨B, 14, none⟩ = some (.int .u32 c.rm) := K0.out.cell 14
  have hl0 : B < W0.heap.size := K0.out.lt
  go_wp2_with fail
  refine (HP.out _).mono ?_
  rintro e w1 ⟨rfl, hb1⟩
  have K1 := Lib.hid (K0.out.below hb1 K0.out.lt)
  have A01 := Lib.hid (A0.out.below hb1 A0.out.lt)
  have A11 := Lib.hid (A1.out.below hb1 A1.out.lt)
  have A21 := Lib.hid (A2.out.below hb1 A2.out.lt)
  have B1 := Lib.hid (B0.out.trans (hb1.mono B0.out.size))
  clear p0 e1 e2 e3 e4 e5 e6 e7 e8 e9 e10 e11 e12 e13 e14 hl0 hb1
  have p1 : w1.cell? ⟨w.heap.size, 0, none⟩ = some (.pointer (some ⟨B, 0, none⟩)) := A01.out.cell 0
  have h7 := H_h7.out
  have g1 : w1.cell? ⟨B, 1, none⟩ = some (.int .u8 c.ty) := K1.out.cell 1
  have g21 : w1.cell? ⟨B, 21, none⟩ = some (.int .u32 re) := K1.out.cell 21
  go_wp2_with fail
  refine (all_made _ _ _ ⟨_, rfl⟩ ⟨_, _, _, rfl⟩).mono ?_
  rintro e w2 ⟨rfl, hb2, b1, b2⟩
  have h2l : w1.heap.size + 1 < w2.heap.size := lt_of_cell b2
  have K2 := Lib.hid (K1.out.below hb2 K1.out.lt)
  have A02 := Lib.hid (A01.out.below hb2 A01.out.lt)
  have A12 := Lib.hid (A11.out.below hb2 A11.out.lt)
  have A22 := Lib.hid (A21.out.below hb2 A21.out.lt)
  have B2 := Lib.hid (B1.out.trans (hb2.mono B1.out.size))
  clear p1 g1 g21 hb2
  go_wp2_with fail
  refine wp_rangeFunc_none rfl enters_all1 (fun l W hW => ?_) (fun D W hD hB hK => ?_)
  · have hbW := B2.out.trans (hW.mono B2.out.size)
    refine allr2_none W w1.heap.size (w1.heap.size + 1) B L l cap w.heap.size c st dr bd wt nx po re xs HDm.out hlen ?_ ?_ (K2.out.below hW K2.out.lt) ⟨fun j x hj => (hbW.cell (p := ⟨L, j, none⟩) (lt_of_cell (HRow.out.r j x hj))).trans (HRow.out.r j x hj), fun x hx => (HRow.out.k x hx).below hbW (HRow.out.k x hx).lt⟩ ((A02.out.below hW A02.out.lt).cell 0)
    · exact (hW.cell (p := ⟨w1.heap.size, 0, none⟩) (by simp; omega)).trans b1
    · exact (hW.cell (p := ⟨w1.heap.size + 1, 0, none⟩) (by simp; omega)).trans b2
  have KD := Lib.hid (K2.out.below hB K2.out.lt)
  have A0D := Lib.hid (A02.out.below hB A02.out.lt)
  have A1D := Lib.hid (A12.out.below hB A12.out.lt)
  have A2D := Lib.hid (A22.out.below hB A22.out.lt)
  have BD := Lib.hid (B2.out.trans (hB.mono B2.out.size))
  have p3 : W.cell? ⟨w.heap.size, 0, none⟩ = some (.pointer (some ⟨B, 0, none⟩)) := A0D.out.cell 0
  have p4 : W.cell? ⟨w.heap.size + 1, 0, none⟩ = some (.bool true) := A1D.out.cell 0
  clear hB b1 b2
  have q2 : W.cell? ⟨w.heap.size + 1 + 1, 0, none⟩ = some (.slice none 0 0) := A2D.out.cell 0
  have fz2 := A2D.out.frozen 0
  go_wp2_with fail
  obtain ⟨W4, hW4⟩ : ∃ W4, W4 = W.setCell ⟨w.heap.size + 1 + 1, 0, none⟩ (.slice none 0 0) := ⟨_, rfl⟩
  rw [← hW4]
  have hD2 : w2.heap.size ≤ D := hD
  have hwD : w.heap.size + 1 + 1 < D := by have := A22.out.lt; omega
  have hK4 : W4.heap[D]? = some (.deferred (some [])) := by
    rw [hW4, heap_far _ _ hwD]
    exact hK
  have kR : Blk W4 (w.heap.size + 1 + 1) 85 #[.slice none 0 0] := by rw [hW4]; exact A2D.out.set_ 0 _
  have hB4 : Below w.heap.size w W4 := by
    rw [hW4]
    exact BD.out.setCell (p := ⟨w.heap.size + 1 + 1, 0, none⟩) (by simp; omega) _
  refine ⟨by simp, .inl ⟨_, _, rfl, run_takeDeferred hK4, ?_⟩⟩
  have k9 := kR.grown (grownBy_putObj' W4 D (.deferred none)) (by simp; omega)
  have u0 := (k9.cell 0).trans rfl
  refine ⟨.slice none 0 0, ?_, ⟨none, 0, 0, [], rfl, World.ownsRow_nil _ _ _ _, by simp, by omega, hB4.trans (below_put hK4 (by omega))⟩⟩
  simp [results, Try.f69, go_sem, u0]
end Go.Proofs.Ytgbmhijgpdgdbaa

namespace Go.Proofs.Ytgbmhijgpdgdbaa
open Go.RowKit

theorem lose_all {lo : Nat} {w w' : World} {B : Nat} {c : LC} {st dr bd wt nx po re : Int} {L cap : Nat} {xs : List (Nat × Kn)} (h : LinkOn lo w B c st dr bd wt nx po re L cap xs) (hf : Frame (fun j => j = B) w w') (hb : Blk w' B 119 (lks c st dr bd wt nx po re (.slice (some ⟨L, 0, none⟩) 0 0))) :
    LinkOn lo w' B c st dr bd wt nx po re L 0 [] ∧ LFr lo w w' := by
  obtain ⟨cur, hc⟩ := h.lc
  exact ⟨⟨h.loB, h.loL, hb, ⟨cur, hf.blk hc (hc.ne_ h.b (by decide))⟩, fun j x hj => by simp at hj, fun x hx => by simp at hx, by simp⟩, LFr.one h.b h.loB (.inl rfl) hf⟩

set_option maxHeartbeats 4000000 in
set_option maxRecDepth 20000 in
theorem lose_one (lo : Nat) (w : World) (B : Nat) (c : LC) (st dr bd wt nx po re : Int) (L cap : Nat) (x : Nat × Kn) (hp : c.peers = false) (h : LinkOn lo w B c st dr bd wt nx po re L cap [x]) :
    Calls Try.prog 109 #[.pointer (some ⟨B, 0, none⟩), .int .i64 0] w fun e w' => e = .returned (.tuple #[]) ∧ LinkOn lo w' B c st dr bd wt nx po re L 0 [] ∧ LFr lo w w' := by
  have hp2 : ∀ W, Calls Try.prog 63 #[.agg #[.int .u8 c.ty, .int .u32 c.ro, .int .u32 c.na, .int .u8 c.nb, .int .u32 c.ad, .int .u8 c.op, .int .u16 c.hi, .int .u32 c.dd, .int .u16 c.po, .int .u8 c.pr, .bool c.dm, .bool c.ps, c.pe, .int .u32 c.rm]] W fun e w' => e = .returned (.bool false) ∧ Below W.heap.size W w' := fun W => by have h := peers_any c W; rw [hp] at h; exact h
  have HP := Lib.hid hp2
  have H := Lib.hid h
  have e1 : w.cell? ⟨B, 1, none⟩ = some (.int .u8 c.ty) := h.b.cell 1
  have e2 : w.cell? ⟨B, 2, none⟩ = some (.int .u32 c.ro) := h.b.cell 2
  have e3 : w.cell? ⟨B, 3, none⟩ = some (.int .u32 c.na) := h.b.cell 3
  have e4 : w.cell? ⟨B, 4, none⟩ = some (.int .u8 c.nb) := h.b.cell 4
  have e5 : w.cell? ⟨B, 5, none⟩ = some (.int .u32 c.ad) := h.b.cell 5
  have e6 : w.cell? ⟨B, 6, none⟩ = some (.int .u8 c.op) := h.b.cell 6
  have e7 : w.cell? ⟨B, 7, none⟩ = some (.int .u16 c.hi) := h.b.cell 7
  have e8 : w.cell? ⟨B, 8, none⟩ = some (.int .u32 c.dd) := h.b.cell 8
  have e9 : w.cell? ⟨B, 9, none⟩ = some (.int .u16 c.po) := h.b.cell 9
  have e10 : w.cell? ⟨B, 10, none⟩ = some (.int .u8 c.pr) := h.b.cell 10
  have e11 : w.cell? ⟨B, 11, none⟩ = some (.bool c.dm) := h.b.cell 11
  have e12 : w.cell? ⟨B, 12, none⟩ = some (.bool c.ps) := h.b.cell 12
  have e13 : w.cell? ⟨B, 13, none⟩ = some (c.pe) := h.b.cell 13
  have e14 : w.cell? ⟨B, 14, none⟩ = some (.int .u32 c.rm) := h.b.cell 14
  have hl0 : B < w.heap.size := h.b.lt
  clear h hp2 hp
  go_enter Try.func109, Try.ntmps109
  go_wp2_with fail
  refine (HP.out _).mono ?_
  rintro e w1 ⟨rfl, hb1⟩
  have H1 := Lib.hid (H.out.below hb1)
  have HB1 := Lib.hid hb1
  have d22 : w1.cell? ⟨B, 22, none⟩ = some (.slice (some ⟨L, 0, none⟩) 1 cap) := H1.out.b.cell 22
  have f22 := H1.out.b.frozen 22
  have hlB : B < w1.heap.size := H1.out.b.lt
  clear e1 e2 e3 e4 e5 e6 e7 e8 e9 e10 e11 e12 e13 e14 hl0 hb1
  go_wp2_with fail
  refine wp_region_lexN (C := fun w' => w'.cell? ⟨B, 22, none⟩ = some (.slice (some ⟨L, 0, none⟩) 1 cap)) 16 [true, true, true, true, true, true, true, true, true, true, true, true, true, true, true] (by kernel_rfl) (by kernel_rfl) d22 ?_
  refine ⟨.pointer (some ⟨B, 0, none⟩), ⟨rfl, fun w' _ => by simp [go_sem]⟩, ?_⟩
  refine ⟨.pointer (some ⟨B, 0, none⟩), ⟨rfl, fun w' _ => by simp [go_sem, Act.put]⟩, ?_⟩
  refine ⟨.pointer (some ⟨B, 0, none⟩), ⟨rfl, fun w' _ => by simp [go_sem, Act.put]⟩, ?_⟩
  refine ⟨.pointer (some ⟨B, 22, none⟩), ⟨rfl, fun w' _ => by simp [go_sem, Act.put]⟩, ?_⟩
  refine ⟨.slice (some ⟨L, 0, none⟩) 1 cap, ⟨rfl, fun w' h => by simp [go_sem, Act.put, h]⟩, ?_⟩
  simp only [Act.put, List.setIfInBounds_toArray, List.set_cons_succ, List.set_cons_zero]
  refine ⟨.int .i64 0, ⟨rfl, fun w' _ => by simp [go_sem]⟩, ?_⟩
  refine ⟨.int .i64 0, ⟨rfl, fun w' _ => by simp [go_sem, Act.put]⟩, ?_⟩
  refine ⟨.slice (some ⟨L, 0, none⟩) 0 0, ⟨rfl, fun w' _ => by simp [go_sem, Act.put]⟩, ?_⟩
  refine ⟨.pointer (some ⟨B, 0, none⟩), ⟨rfl, fun w' _ => by simp [go_sem, Act.put]⟩, ?_⟩
  refine ⟨.pointer (some ⟨B, 0, none⟩), ⟨rfl, fun w' _ => by simp [go_sem, Act.put]⟩, ?_⟩
  simp only [Act.put, List.setIfInBounds_toArray, List.set_cons_succ, List.set_cons_zero]
  refine ⟨.pointer (some ⟨B, 22, none⟩), ⟨rfl, fun w' _ => by simp [go_sem]⟩, ?_⟩
  refine ⟨.slice (some ⟨L, 0, none⟩) 1 cap, ⟨rfl, fun w' h => by simp [go_sem, Act.put, h]⟩, ?_⟩
  refine ⟨.int .i64 0, ⟨rfl, fun w' _ => by simp [go_sem, Act.put]⟩, ?_⟩
  refine ⟨.int .i64 1, ⟨rfl, fun w' _ => by simp [go_sem, Act.put]; decide⟩, ?_⟩
  by_cases hc : cap = 1
  · refine ⟨.slice (some ⟨L, 0, none⟩) 0 (cap - 1), ⟨rfl, fun w' _ => by simp [go_sem, Act.put, hc]⟩, ?_⟩
    simp only [Act.put, List.setIfInBounds_toArray, List.set_cons_succ, List.set_cons_zero]
    refine wpListK_step rfl rfl ?_
    simp [Oper.wp, Oper.upon, go_sem]
    refine ⟨d22, ?_⟩
    refine wpListK_of_list _ 16 _ _ (Nat.le_refl _) (fun j => match j with
      | 0 => rfl
      | 1 => rfl
      | 2 => rfl
      | j + 3 => by simp; omega) ?_
    go_wp2_with fail
    dsimp only [NormQ]
    go_wp2_with fail
    go_end0
    have hf : Frame (fun j => j = B) w1 (w1.drew.setCell ⟨B, 22, none⟩ (.slice (some ⟨L, 0, none⟩) 0 0)) := ((Frame.refl (fun j => j = B) w1).drew).setB 22 _
    have hs := lose_all H1.out hf (H1.out.b.drew.set_ 22 _)
    exact ⟨rfl, hs.1, (LFr.of_below HB1.out).trans hs.2⟩
  · refine ⟨.slice (some ⟨L, 1, none⟩) 0 (cap - 1), ⟨rfl, fun w' _ => by simp [go_sem, Act.put, hc]⟩, ?_⟩
    simp only [Act.put, List.setIfInBounds_toArray, List.set_cons_succ, List.set_cons_zero]
    refine wpListK_step rfl rfl ?_
    simp [Oper.wp, Oper.upon, go_sem]
    refine ⟨d22, ?_⟩
    refine wpListK_of_list _ 16 _ _ (Nat.le_refl _) (fun j => match j with
      | 0 => rfl
      | 1 => rfl
      | 2 => rfl
      | j + 3 => by simp; omega) ?_
    go_wp2_with fail
    dsimp only [NormQ]
    go_wp2_with fail
    go_end0
    have hf : Frame (fun j => j = B) w1 (w1.drew.setCell ⟨B, 22, none⟩ (.slice (some ⟨L, 0, none⟩) 0 0)) := ((Frame.refl (fun j => j = B) w1).drew).setB 22 _
    have hs := lose_all H1.out hf (H1.out.b.drew.set_ 22 _)
    exact ⟨rfl, hs.1, (LFr.of_below HB1.out).trans hs.2⟩
end Go.Proofs.Ytgbmhijgpdgdbaa
