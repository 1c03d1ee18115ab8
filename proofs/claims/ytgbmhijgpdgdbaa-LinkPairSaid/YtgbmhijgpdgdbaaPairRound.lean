/- A round of Hellos, exactly, where one neighbour is heard; the place of a first one. -/
import Derived.Test.YtgbmhijgpdgdbaaLoseOne
import Derived.Test.YtgbmhijgpdgdbaaLose
import Derived.Test.YtgbmhijgpdgdbaaPairHeard
namespace Go.Proofs.Ytgbmhijgpdgdbaa
open Go.RowKit

/-- The row of whom is heard: nobody, or one. -/
def LstAt (w : World) (ro : Int) (lv : Value) : Bool → Prop
  | false => lv = .slice none 0 0
  | true => ∃ G k cs, lv = .slice (some ⟨G, 0, none⟩) 1 k ∧ Blk w G 25 cs ∧ cs[0]? = some (.int .u32 ro)

/-- What was said: nothing, or one Hello. -/
def SayAt (w : World) (c : LC) (ro : Int) (v : Value) : Option Pr.HL → Prop
  | none => v = .slice none 0 0
  | some h => ∃ S lv, v = .slice (some ⟨S, 0, none⟩) 1 1 ∧ Blk w S 105 #[.int .u32 3758096389, .int .u32 (maskN c.nb.toNat), .int .u16 c.hi, .int .u8 c.op, .int .u8 h.pr, .int .u32 c.dd, .int .u32 h.dr, .int .u32 h.bd, lv] ∧ LstAt w ro lv h.has

theorem lst_of {w : World} {base n k : Nat} {A : Option Addr} {ro : Int} (h : w.ownsRow base 25 1 (.slice A n k) n [.int .u32 ro]) : ∃ G cs, A = some ⟨G, 0, none⟩ ∧ n = 1 ∧ base ≤ G ∧ Blk w G 25 cs ∧ cs[0]? = some (.int .u32 ro) := by
  obtain ⟨h1, h2⟩ := h
  have hn : n = 1 := by simpa using h1.symm
  subst hn
  rcases h2 with ⟨_, h⟩ | ⟨g, cap, cur, hv, hg, hb, _, _, _, ht⟩
  · cases h
  · injection hv with hA
    refine ⟨g, cur, hA, rfl, hg, hb, ?_⟩
    have h3 : (cur.toList.take (1 * 1))[0]? = some (.int .u32 ro) := by rw [ht]; rfl
    rw [List.getElem?_take_of_lt (by decide)] at h3
    simpa using h3

theorem one_heard {x : Nat × Kn} (h : 2 ≤ x.2.st) : (([x].filter heardK).map roV) = [.int .u32 x.2.ro] := by
  have : heardK x = true := by simpa [heardK] using h
  simp [this, roV]

def RndPost (c : LC) (dr bd ro : Int) (w : World) (e : Ending) (w' : World) : Prop :=
  ∃ v, e = .returned v ∧ SayAt w' c ro v (some ⟨c.pr, dr, bd, true⟩) ∧ Below w.heap.size w w'

set_option maxHeartbeats 2000000 in
set_option maxRecDepth 20000 in
theorem rnd_pair (w : World) (B : Nat) (c : LC) (st dr bd wt nx po re : Int) (hn0 : 0 ≤ c.nb) (hn1 : c.nb ≤ 32) (hdm : c.dm = false) (L cap : Nat) (x : Nat × Kn) (hst : 2 ≤ x.2.st) (hrow : RowAt w L [x]) (hp : c.peers = false) (h7 : c.ty ≠ 4) (k : Blk w B 119 (lks c st dr bd wt nx po re (.slice (some ⟨L, 0, none⟩) 1 cap))) :
    Calls Try.prog 69 #[.pointer (some ⟨B, 0, none⟩), .bool false] w fun e w' => RndPost c dr bd x.2.ro w e w' := by
  have hp2 : ∀ W, Calls Try.prog 63 #[.agg #[.int .u8 c.ty, .int .u32 c.ro, .int .u32 c.na, .int .u8 c.nb, .int .u32 c.ad, .int .u8 c.op, .int .u16 c.hi, .int .u32 c.dd, .int .u16 c.po, .int .u8 c.pr, .bool c.dm, .bool c.ps, c.pe, .int .u32 c.rm]] W fun e w' => e = .returned (.bool false) ∧ Below W.heap.size W w' := fun W => by have h := peers_any c W; rw [hp] at h; exact h
  have HP := Lib.hid hp2
  clear hp2 hp
  have H_h7 := Lib.hid h7
  clear h7
  have K := Lib.hid k
  have HRow := Lib.hid hrow
  have HDm := Lib.hid hdm
  have HSt := Lib.hid hst
  have hlt : B < w.heap.size := k.lt
  have hmf : ∀ (fn : Fn) (first cap : Array Value) (w : World), (Instr.makeFunc fn first cap).run Try.prog w = .ok (.func fn first cap) w := fun _ _ _ _ => rfl
  clear k hrow hdm hst
  refine (callsIn_wide (n := 3)).1 ?_
  refine callsIn_of_wp_marks Try.func69 rfl trivial ?_ rfl
  rw [wpIn_wide]
  simp only [Try.ntmps69, List.size_toArray, List.length_cons, List.length_nil, Nat.reduceAdd, Nat.reduceSub, Array.replicate_succ, Array.replicate_zero, List.push_toArray, List.append_toArray, List.nil_append, List.cons_append]
  go_upto_region 2 with fail
  obtain ⟨W0, hW0⟩ : ∃ W0, W0 = (((w.alloc (.cells #[.pointer (some ⟨B, 0, none⟩)] 78)).alloc (.cells #[.bool false] 4)).alloc (.cells #[.slice none 0 0] 85)).alloc (.cells #[.slice none 0 0] 85) := ⟨_, rfl⟩
  have K0 : Hid (Blk W0 B 119 (lks c st dr bd wt nx po re (.slice (some ⟨L, 0, none⟩) 1 cap))) := Lib.hid (by rw [hW0]; exact (((K.out.alloc _).alloc _).alloc _).alloc _)
  have A0 : Hid (Blk W0 w.heap.size 78 #[.pointer (some ⟨B, 0, none⟩)]) := Lib.hid (by rw [hW0]; exact (((Blk.new w _ _).alloc _).alloc _).alloc _)
  have A1 : Hid (Blk W0 (w.heap.size + 1) 4 #[.bool false]) := Lib.hid (by rw [hW0]; have := Blk.new (w.alloc (.cells #[.pointer (some ⟨B, 0, none⟩)] 78)) 4 #[.bool false]; rw [World.size_alloc] at this; exact ((this).alloc _).alloc _)
  have A2 : Hid (Blk W0 (w.heap.size + 1 + 1) 85 #[.slice none 0 0]) := Lib.hid (by rw [hW0]; have := Blk.new ((w.alloc (.cells #[.pointer (some ⟨B, 0, none⟩)] 78)).alloc (.cells #[.bool false] 4)) 85 #[.slice none 0 0]; simp only [World.size_alloc] at this; exact (this).alloc _)
  have B0 : Hid (Below w.heap.size w W0) := Lib.hid (by rw [hW0]; exact ((((Below.refl _ w).alloc (Nat.le_refl _) _).alloc (by simp) _).alloc (by simp; omega) _).alloc (by simp; omega) _)
  have hs0 : w.heap.size + 1 + 1 < W0.heap.size := A2.out.lt
  rw [← hW0]
  clear hW0
  have p0 : W0.cell? ⟨w.heap.size, 0, none⟩ = some (.pointer (some ⟨B, 0, none⟩)) := A0.out.cell 0
  have e1 : W0.cell? ⟨B, 1, none⟩ = some (.int .u8 c.ty) := K0.out.cell 1
  have e2 : W0.cell? ⟨B, 2, none⟩ = some (.int .u32 c.ro) := K0.out.cell 2
  have e3 : W0.cell? ⟨B, 3, none⟩ = some (.int .u32 c.na) := K0.out.cell 3
  have e4 : W0.cell? ⟨B, 4, none⟩ = some (.int .u8 c.nb) := K0.out.cell 4
  have e5 : W0.cell? ⟨B, 5, none⟩ = some (.int .u32 c.ad) := K0.out.cell 5
  have e6 : W0.cell? ⟨B, 6, none⟩ = some (.int .u8 c.op) := K0.out.cell 6
  have e7 : W0.cell? ⟨B, 7, none⟩ = some (.int .u16 c.hi) := K0.out.cell 7
  have e8 : W0.cell? ⟨B, 8, none⟩ = some (.int .u32 c.dd) := K0.out.cell 8
  have e9 : W0.cell? ⟨B, 9, none⟩ = some (.int .u16 c.po) := K0.out.cell 9
  have e10 : W0.cell? ⟨B, 10, none⟩ = some (.int .u8 c.pr) := K0.out.cell 10
  have e11 : W0.cell? ⟨B, 11, none⟩ = some (.bool c.dm) := K0.out.cell 11
  have e12 : W0.cell? ⟨B, 12, none⟩ = some (.bool c.ps) := K0.out.cell 12
  have e13 : W0.cell? ⟨B, 13, none⟩ = some (c.pe) := K0.out.cell 13
  have e14 : W0.cell? ⟨B, 14, none⟩ = some (.int .u32 c.rm) := K0.out.cell 14
  have hl0 : B < W0.heap.size := K0.out.lt
  go_wp2_with fail
  refine (HP.out _).mono ?_
  rintro e w1 ⟨rfl, hb1⟩
  have K1 := Lib.hid (K0.out.below hb1 K0.out.lt)
  have A01 := Lib.hid (A0.out.below hb1 A0.out.lt)
  have A11 := Lib.hid (A1.out.below hb1 A1.out.lt)
  have A21 := Lib.hid (A2.out.below hb1 A2.out.lt)
  have B1 := Lib.hid (B0.out.trans (hb1.mono B0.out.size))
  clear p0 e1 e2 e3 e4 e5 e6 e7 e8 e9 e10 e11 e12 e13 e14 hl0 hb1
  have p1 : w1.cell? ⟨w.heap.size, 0, none⟩ = some (.pointer (some ⟨B, 0, none⟩)) := A01.out.cell 0
  have h7 := H_h7.out
  have e_h7 : (c.ty == 4) = false := by simpa using h7
  have g1 : w1.cell? ⟨B, 1, none⟩ = some (.int .u8 c.ty) := K1.out.cell 1
  have g21 : w1.cell? ⟨B, 21, none⟩ = some (.int .u32 re) := K1.out.cell 21
  go_wp2_with fail
  refine (all_made _ _ _ ⟨_, rfl⟩ ⟨_, _, _, rfl⟩).mono ?_
  rintro e w2 ⟨rfl, hb2, b1, b2⟩
  have h2l : w1.heap.size + 1 < w2.heap.size := lt_of_cell b2
  have K2 := Lib.hid (K1.out.below hb2 K1.out.lt)
  have A02 := Lib.hid (A01.out.below hb2 A01.out.lt)
  have A12 := Lib.hid (A11.out.below hb2 A11.out.lt)
  have A22 := Lib.hid (A21.out.below hb2 A21.out.lt)
  have B2 := Lib.hid (B1.out.trans (hb2.mono B1.out.size))
  clear p1 g1 g21 hb2
  go_wp2_with fail
  refine wp_rangeFunc_none rfl enters_all1 (fun l W hW => ?_) (fun D W hD hB hK => ?_)
  · have hbW := B2.out.trans (hW.mono B2.out.size)
    refine allr2_none W w1.heap.size (w1.heap.size + 1) B L l cap w.heap.size c st dr bd wt nx po re [x] HDm.out (by simp) ?_ ?_ (K2.out.below hW K2.out.lt) ⟨fun j x hj => (hbW.cell (p := ⟨L, j, none⟩) (lt_of_cell (HRow.out.r j x hj))).trans (HRow.out.r j x hj), fun x hx => (HRow.out.k x hx).below hbW (HRow.out.k x hx).lt⟩ ((A02.out.below hW A02.out.lt).cell 0)
    · exact (hW.cell (p := ⟨w1.heap.size, 0, none⟩) (by simp; omega)).trans b1
    · exact (hW.cell (p := ⟨w1.heap.size + 1, 0, none⟩) (by simp; omega)).trans b2
  have KD := Lib.hid (K2.out.below hB K2.out.lt)
  have A0D := Lib.hid (A02.out.below hB A02.out.lt)
  have A1D := Lib.hid (A12.out.below hB A12.out.lt)
  have A2D := Lib.hid (A22.out.below hB A22.out.lt)
  have BD := Lib.hid (B2.out.trans (hB.mono B2.out.size))
  have p3 : W.cell? ⟨w.heap.size, 0, none⟩ = some (.pointer (some ⟨B, 0, none⟩)) := A0D.out.cell 0
  have p4 : W.cell? ⟨w.heap.size + 1, 0, none⟩ = some (.bool false) := A1D.out.cell 0
  clear hB b1 b2
  have hbDw := BD.out
  have hwW : w.heap.size < W.heap.size := A0D.out.lt
  have hRW : RowAt W L [x] := ⟨fun j x hj => (hbDw.cell (p := ⟨L, j, none⟩) (lt_of_cell (HRow.out.r j x hj))).trans (HRow.out.r j x hj), fun x hx => (HRow.out.k x hx).below hbDw (HRow.out.k x hx).lt⟩
  have HRW := Lib.hid hRW
  clear hRW hbDw
  go_wp2_with fail
  refine (hello_gen_f W B c st dr bd wt nx po re hn0 hn1 HDm.out L cap [x] (by simp) HRW.out KD.out).mono ?_
  rintro e w3 ⟨ha, hn, hk, rfl, hown, hb3⟩
  rw [one_heard HSt.out] at hown
  obtain ⟨G, cs, rfl, rfl, hGb, hG, hG0⟩ := lst_of hown
  have HG := Lib.hid hG
  have HG0 := Lib.hid hG0
  have HGb := Lib.hid hGb
  clear hown hG hG0 hGb
  unfold helloW
  have A23 := Lib.hid (A2D.out.below hb3 A2D.out.lt)
  have B3 := Lib.hid (BD.out.trans (hb3.mono BD.out.size))
  have hDl : D < W.heap.size := (Array.getElem?_eq_some_iff.1 hK).1
  have hK3 : w3.heap[D]? = some (.deferred (some [])) := (hb3.block D hDl).trans hK
  have q2 : w3.cell? ⟨w.heap.size + 1 + 1, 0, none⟩ = some (.slice none 0 0) := A23.out.cell 0
  have fz2 := A23.out.frozen 0
  have hl3 : w.heap.size + 1 + 1 < w3.heap.size := A23.out.lt
  have hD3 : D < w3.heap.size := by have := hb3.size; omega
  clear p3 p4 hb3 hK
  go_wp2_with fail
  obtain ⟨W4, hW4⟩ : ∃ W4, W4 = (w3.setCell ⟨w.heap.size + 1 + 1, 0, none⟩ (.slice (some ⟨w3.heap.size, 0, none⟩) 1 1)).alloc (.cells #[.int .u32 3758096389, .int .u32 (lmaskV c), .int .u16 c.hi, .int .u8 (optV c), .int .u8 c.pr, .int .u32 c.dd, .int .u32 dr, .int .u32 bd, .slice (some ⟨G, 0, none⟩) 1 hk] 105) := ⟨_, rfl⟩
  rw [← hW4]
  have hs3 : (w3.setCell ⟨w.heap.size + 1 + 1, 0, none⟩ (.slice (some ⟨w3.heap.size, 0, none⟩) 1 1)).heap.size = w3.heap.size := by simp [World.setCell]
  have hD2 : w2.heap.size ≤ D := hD
  have hwD : w.heap.size + 1 + 1 < D := by have := A22.out.lt; omega
  have hK4 : W4.heap[D]? = some (.deferred (some [])) := by
    rw [hW4, Below.heap_alloc _ _ D (by rw [hs3]; exact hD3), heap_far _ _ hwD]
    exact hK3
  have kS : Blk W4 w3.heap.size 105 #[.int .u32 3758096389, .int .u32 (lmaskV c), .int .u16 c.hi, .int .u8 (optV c), .int .u8 c.pr, .int .u32 c.dd, .int .u32 dr, .int .u32 bd, .slice (some ⟨G, 0, none⟩) 1 hk] := by
    have := Blk.new (w3.setCell ⟨w.heap.size + 1 + 1, 0, none⟩ (.slice (some ⟨w3.heap.size, 0, none⟩) 1 1)) 105 #[.int .u32 3758096389, .int .u32 (lmaskV c), .int .u16 c.hi, .int .u8 (optV c), .int .u8 c.pr, .int .u32 c.dd, .int .u32 dr, .int .u32 bd, .slice (some ⟨G, 0, none⟩) 1 hk]
    rw [hs3] at this
    rw [hW4]
    exact this
  have kR : Blk W4 (w.heap.size + 1 + 1) 85 #[.slice (some ⟨w3.heap.size, 0, none⟩) 1 1] := by
    rw [hW4]
    exact (A23.out.set_ 0 _).alloc _
  have hB4 : Below w.heap.size w W4 := by
    rw [hW4]
    exact (B3.out.setCell (p := ⟨w.heap.size + 1 + 1, 0, none⟩) (by simp; omega) _).alloc (by rw [hs3]; exact B3.out.size) _
  refine ⟨by simp, .inl ⟨_, _, rfl, run_takeDeferred hK4, ?_⟩⟩
  have e_mask : lmaskV c = maskN c.nb.toNat := if_neg H_h7.out
  have e_opt : optV c = c.op := by rw [optV, HDm.out]; rfl
  have hGl := HG.out.lt
  have hGb := HGb.out
  have kG4 : Blk W4 G 25 cs := by
    rw [hW4]
    exact (HG.out.far (by simp; omega) _).alloc _
  have kG9 := kG4.grown (grownBy_putObj' W4 D (.deferred none)) (by simp; omega)
  have k9 := kR.grown (grownBy_putObj' W4 D (.deferred none)) (by simp; omega)
  have kS9 := kS.grown (grownBy_putObj' W4 D (.deferred none)) (by simp; omega)
  have u0 := (k9.cell 0).trans rfl
  refine ⟨.slice (some ⟨w3.heap.size, 0, none⟩) 1 1, ?_, ⟨_, rfl, ⟨_, _, rfl, (by rw [e_mask, e_opt] at kS9; exact kS9), ⟨_, _, _, rfl, kG9, HG0.out⟩⟩, hB4.trans (below_put hK4 (by omega))⟩⟩
  simp [results, Try.f69, go_sem, u0]

def PutPair (B : Nat) (c : LC) (st dr bd wt nx po re : Int) (w : World) (e : Ending) (w' : World) : Prop :=
  e = .returned (.int .i64 0) ∧ Frame (fun j => j = B) w w' ∧ ∃ L cap K, w.heap.size ≤ L ∧ w.heap.size ≤ K ∧ LinkOn 0 w' B c st dr bd wt nx po re L cap [(K, zeroKn)]

set_option maxHeartbeats 4000000 in
set_option maxRecDepth 20000 in
theorem put_pair (w : World) (B : Nat) (c : LC) (st dr bd wt nx po re x : Int) (hty : c.ty = 0) (k : Blk w B 119 (lks c st dr bd wt nx po re (.slice none 0 0))) :
    Calls Try.prog 72 #[.pointer (some ⟨B, 0, none⟩), .int .u32 x] w fun e w' => PutPair B c st dr bd wt nx po re w e w' := by
  obtain ⟨i0, hi, hz0, hz1, hz2⟩ := info_parts known_info
  have K := Lib.hid k
  have e_ty : (c.ty != 0) = false := by simpa using hty
  have hlt : B < w.heap.size := k.lt
  have c1 : w.cell? ⟨B, 1, none⟩ = some (.int .u8 c.ty) := k.cell 1
  have c22 : w.cell? ⟨B, 22, none⟩ = some (.slice none 0 0) := k.cell 22
  have fz := k.frozen
  clear k hty
  go_enter Try.func72, Try.ntmps72
  go_wp2_with fail
  refine wp_loop_rounds 1 ?_
  rw [rounds_succ]
  have HLit := Lib.hid (Reads.of_own (World.ownsRow_lit (base := 0) (e := 137) (size := 1) w #[.pointer none] 1 (Nat.zero_le _) (by simp [maxLen]) rfl))
  go_upto_region 8 with (at_builtin; refine wpList_append_any _ rfl (.tmp 46) (.tmp 47) _ rfl w.heap.size 137 i0 _ 1 8 Try.underlying117 hi hz0 hz1 hz2 rfl (by omega) (.slice none 0 0) 0 [] rfl (World.ownsRow_nil _ _ _ _) _ (some ⟨w.heap.size, 0, none⟩) 1 1 [.pointer none] rfl HLit.out (by simp [Value.oneCell']) (by unfold maxLen; omega) (by omega) (by simp) ?_; intro v1 w1 hown1 hg1 hat1; rw [List.nil_append] at hown1; obtain ⟨L, cap, cur, hv1, hL, kL, hcs, hcap⟩ := own_blk hown1; subst hv1; have hF1 : Frame (fun _ => False) w w1 := ((Frame.refl _ w).alloc _).trans (Frame.of_grown hg1 (by simp [Value.ownBlock])); have kB1 := hF1.blk K.out (fun e => e); have KB1 := Lib.hid kB1; have KL1 := Lib.hid kL; have HF1 := Lib.hid hF1; have Hcs := Lib.hid hcs; have d22 : w1.cell? ⟨B, 22, none⟩ = some (.slice none 0 0) := kB1.cell 22; have fz1 := kB1.frozen; clear hF1 kB1 kL hcs hg1 hat1 hown1 c1 c22 fz)
  have hLB : L ≠ B := by omega
  obtain ⟨W2, hW2⟩ : ∃ W2, W2 = w1.setCell ⟨B, 22, none⟩ (.slice (some ⟨L, 0, none⟩) 1 cap) := ⟨_, rfl⟩
  have K2 : Hid (Blk W2 B 119 (lks c st dr bd wt nx po re (.slice (some ⟨L, 0, none⟩) 1 cap))) := Lib.hid (by rw [hW2]; exact KB1.out.set_ 22 _)
  have L2 : Hid (Blk W2 L 137 cur) := Lib.hid (by rw [hW2]; exact KL1.out.far (by simpa using hLB) _)
  have F2 : Hid (Frame (fun j => j = B) w W2) := Lib.hid (by rw [hW2]; exact (HF1.out.mono fun _ e => e.elim).setB 22 _)
  rw [← hW2]
  clear hW2 d22 fz1
  have e22 : W2.cell? ⟨B, 22, none⟩ = some (.slice (some ⟨L, 0, none⟩) 1 cap) := K2.out.cell 22
  go_cut [] from 42 to 64 (fun wx => ∃ k, wx = W2.drewN k)
  case first =>
    refine wp_region_drawn_tail 13 (by kernel_rfl) (by kernel_rfl) ?_
    simp only [List.take_succ_cons, List.take_zero, List.drop_succ_cons, List.drop_zero]
    repeat (go_big_quiet_step (fail))
    refine wpQuiet_nil ?_
    rintro wq ⟨q, rfl⟩
    refine wpList_copy_nothing rfl (.tmp 57) (.tmp 63) 117 117 rfl 137 Try.underlying117 (by kernel_rfl) _ _ _ _ _ _ rfl rfl (by simp) ?_
    go_wp2_with fail
    all_goals
      go_meet
      exact ⟨q, rfl⟩
  obtain ⟨q, hq⟩ := hcut
  have K3 : Hid (Blk wc B 119 (lks c st dr bd wt nx po re (.slice (some ⟨L, 0, none⟩) 1 cap))) := Lib.hid (by rw [hq]; exact K2.out.drewN q)
  have L3 : Hid (Blk wc L 137 cur) := Lib.hid (by rw [hq]; exact L2.out.drewN q)
  have F3 : Hid (Frame (fun j => j = B) w wc) := Lib.hid (by rw [hq]; exact F2.out.drewN q)
  clear hq e22
  have e22 : wc.cell? ⟨B, 22, none⟩ = some (.slice (some ⟨L, 0, none⟩) 1 cap) := K3.out.cell 22
  have l0 := (L3.out.cell 0).trans (Array.getElem?_eq_getElem Hcs.out)
  have fzL := L3.out.frozen
  have hl2 : L < wc.heap.size := L3.out.lt
  have hl3 : B < wc.heap.size := K3.out.lt
  go_wp2_with fail
  have hs3 : (wc.setCell ⟨L, 0, none⟩ (.pointer (some ⟨wc.heap.size, 0, none⟩))).heap.size = wc.heap.size := by simp [World.setCell]
  have hKB : wc.heap.size ≠ L := by omega
  go_ret
  have hB' : Blk ((wc.setCell ⟨L, 0, none⟩ (.pointer (some ⟨wc.heap.size, 0, none⟩))).alloc (.cells zeroKn.cells 139)) B 119 (lks c st dr bd wt nx po re (.slice (some ⟨L, 0, none⟩) 1 cap)) := (K3.out.far (by simpa using fun e => hLB e.symm) _).alloc _
  have hL' : Blk ((wc.setCell ⟨L, 0, none⟩ (.pointer (some ⟨wc.heap.size, 0, none⟩))).alloc (.cells zeroKn.cells 139)) L 137 (cur.setIfInBounds 0 (.pointer (some ⟨wc.heap.size, 0, none⟩))) := (L3.out.set_ 0 _).alloc _
  have hK' := Blk.new (wc.setCell ⟨L, 0, none⟩ (.pointer (some ⟨wc.heap.size, 0, none⟩))) 139 zeroKn.cells
  rw [hs3] at hK'
  have hF' : Frame (fun j => j = B) w ((wc.setCell ⟨L, 0, none⟩ (.pointer (some ⟨wc.heap.size, 0, none⟩))).alloc (.cells zeroKn.cells 139)) := (F3.out.setCell (p := ⟨L, 0, none⟩) (fun h => by simp at h; omega) _).alloc _
  have hsz := F3.out.size
  refine ⟨rfl, hF', L, cap, wc.heap.size, by omega, by omega, ⟨Nat.zero_le _, by omega, hB', ⟨_, hL'⟩, fun j x hj => ?_, fun x hx => ?_, by simp⟩⟩
  · rcases j with _ | j
    · obtain rfl : (wc.heap.size, zeroKn) = x := by simpa using hj
      refine (hL'.cell 0).trans ?_
      simp [Hcs.out]
    · simp at hj
  · obtain rfl : x = (wc.heap.size, zeroKn) := by simpa using hx
    exact ⟨hK', by omega⟩

end Go.Proofs.Ytgbmhijgpdgdbaa
