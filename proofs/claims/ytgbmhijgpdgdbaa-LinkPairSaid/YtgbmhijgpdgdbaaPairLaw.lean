/- The statement LinkPair, walked. -/
import Derived.Test.YtgbmhijgpdgdbaaPairCfg
import Derived.Test.YtgbmhijgpdgdbaaQuietLaw
namespace Go.Proofs.Ytgbmhijgpdgdbaa
open Go.RowKit

/-- The statement's own blocks. -/
structure PFix (w0 wr : World) (Pb Lb Nb B0 B1 : Nat) (a b : Int) (n0 n1 : Value) : Prop where
  p : Blk wr Pb 100 #[.int .u8 a, .int .u8 b]
  l : Blk wr Lb 101 #[.pointer (some ⟨B0, 0, none⟩), .pointer (some ⟨B1, 0, none⟩)]
  n : Blk wr Nb 103 #[n0, n1]
  lo : w0.heap.size ≤ Nb
  bl : Below w0.heap.size w0 wr

section
variable {w0 wr w' : World} {Pb Lb Nb B0 B1 : Nat} {a b : Int} {n0 n1 : Value}
theorem PFix.lfr (h : PFix w0 wr Pb Lb Nb B0 B1 a b n0 n1) (hf : LFr w0.heap.size wr w') : PFix w0 w' Pb Lb Nb B0 B1 a b n0 n1 :=
  ⟨hf.blk h.p (by decide) (by decide) (by decide), hf.blk h.l (by decide) (by decide) (by decide), hf.blk h.n (by decide) (by decide) (by decide), h.lo, h.bl.trans (hf.below h.bl.size)⟩
theorem PFix.set0 (h : PFix w0 wr Pb Lb Nb B0 B1 a b n0 n1) (v : Value) : PFix w0 (wr.setCell ⟨Nb, 0, none⟩ v) Pb Lb Nb B0 B1 a b v n1 :=
  ⟨h.p.far (by simpa using h.p.ne_ h.n (by decide)) _, h.l.far (by simpa using h.l.ne_ h.n (by decide)) _, h.n.set_ 0 _, h.lo, h.bl.setCell (p := ⟨Nb, 0, none⟩) h.lo _⟩
theorem PFix.set1 (h : PFix w0 wr Pb Lb Nb B0 B1 a b n0 n1) (v : Value) : PFix w0 (wr.setCell ⟨Nb, 1, none⟩ v) Pb Lb Nb B0 B1 a b n0 v :=
  ⟨h.p.far (by simpa using h.p.ne_ h.n (by decide)) _, h.l.far (by simpa using h.l.ne_ h.n (by decide)) _, h.n.set_ 1 _, h.lo, h.bl.setCell (p := ⟨Nb, 1, none⟩) h.lo _⟩
end

theorem say_some {w : World} {ro ad p h d ro' : Int} {v0 v : Value} {hl : Pr.HL} (hs : SayAt w (pcfg ro ad p h d v0) ro' v (some hl)) :
    ∃ S lv, v = .slice (some ⟨S, 0, none⟩) 1 1 ∧ Blk w S 105 #[.int .u32 3758096389, .int .u32 4294967040, .int .u16 h, .int .u8 2, .int .u8 hl.pr, .int .u32 d, .int .u32 hl.dr, .int .u32 hl.bd, lv] ∧ LstAt w ro' lv hl.has := by
  obtain ⟨S, lv, hv, hb, hl⟩ := hs
  exact ⟨S, lv, hv, by rw [← maskn24]; exact hb, hl⟩

theorem say_slice {w : World} {c : LC} {ro : Int} {v : Value} {o : Option Pr.HL} (h : SayAt w c ro v o) : ∃ A n k, v = .slice A n k := by
  cases o with
  | none => exact ⟨_, _, _, h⟩
  | some hl =>
    obtain ⟨S, lv, rfl, _⟩ := h
    exact ⟨_, _, _, rfl⟩

theorem hello_lit (ro ad p h d : Int) (v0 lv : Value) (hl : Pr.HL) : helloL (pcfg ro ad p h d v0) hl lv = .agg #[.int .u32 4294967040, .int .u16 h, .int .u8 2, .int .u8 hl.pr, .int .u32 d, .int .u32 hl.dr, .int .u32 hl.bd, lv] := by
  rw [← maskn24]
  rfl

/-- What a round begins with. -/
def PInv (w0 : World) (Pb Lb Nb B0 B1 : Nat) (a b h d : Int) (v0 v1 : Value) (H D : Nat) (V U : Nat → Int × Int) (t : Nat) (wr : World) : Prop :=
  ∃ n0 n1, PFix w0 wr Pb Lb Nb B0 B1 a b n0 n1 ∧ SayAt wr (pcfg 1 167772161 a h d v0) 2 n0 (Pr.Pd a H V t) ∧ SayAt wr (pcfg 2 167772162 b h d v1) 1 n1 (Pr.Pd b H U t) ∧
    Two w0.heap.size wr B0 (pcfg 1 167772161 a h d v0) (Pr.Sd (pcfg 1 167772161 a h d v0) ⟨1, 167772161, a, 2, 167772162, b⟩ H D V U t) B1 (pcfg 2 167772162 b h d v1) (Pr.Sd (pcfg 2 167772162 b h d v1) ⟨2, 167772162, b, 1, 167772161, a⟩ H D U V t)

def PairPost (w : World) (e : Ending) (w' : World) : Prop := e = .returned (.bool true) ∧ Below w.heap.size w w'

set_option maxHeartbeats 8000000 in
set_option maxRecDepth 20000 in
theorem lawLinkPair_any (w : World) (a b h d : Int) (ha : 0 ≤ a ∧ a < 256) (hb : 0 ≤ b ∧ b < 256) (hh : 0 ≤ h ∧ h < 65536) (hd : 0 ≤ d ∧ d < 4294967296) :
    Calls Try.prog 8 #[.agg #[.int .u8 a, .int .u8 b], .int .u16 h, .int .u32 d] w fun e w' => PairPost w e w' := by
  have HW := Lib.hid works13_any
  have HPl := Lib.hid plain13
  have HA := Lib.hid ha
  have HB := Lib.hid hb
  go_enter Try.func8, Try.ntmps8
  go_upto_region 1 with fail
  obtain ⟨W0, hW0⟩ : ∃ W0, W0 = w.alloc (.cells #[.int .u8 a, .int .u8 b] 100) := ⟨_, rfl⟩
  have P0 : Hid (Blk W0 w.heap.size 100 #[.int .u8 a, .int .u8 b]) := Lib.hid (by rw [hW0]; exact Blk.new w _ _)
  have B0 : Hid (Below w.heap.size w W0) := Lib.hid (by rw [hW0]; exact (Below.refl _ w).alloc (Nat.le_refl _) _)
  rw [← hW0]
  clear hW0
  rcases Bool.eq_false_or_eq_true (h == 0) with e1 | e1
  · go_wp2_with (go_at_call 30; refine (HW.out _).mono ?_; rintro e w9 ⟨rfl, hb9⟩)
    go_ret
    exact ⟨rfl, B0.out.trans (hb9.mono B0.out.size)⟩
  by_cases e2 : 20 < h
  · go_wp2_with (go_at_call 30; refine (HW.out _).mono ?_; rintro e w9 ⟨rfl, hb9⟩)
    go_ret
    exact ⟨rfl, B0.out.trans (hb9.mono B0.out.size)⟩
  by_cases e3 : d < (h % 4294967296 + 1) % 4294967296
  · go_wp2_with (go_at_call 30; refine (HW.out _).mono ?_; rintro e w9 ⟨rfl, hb9⟩)
    go_ret
    exact ⟨rfl, B0.out.trans (hb9.mono B0.out.size)⟩
  by_cases e4 : 60 < d
  · go_wp2_with (go_at_call 30; refine (HW.out _).mono ?_; rintro e w9 ⟨rfl, hb9⟩)
    go_ret
    exact ⟨rfl, B0.out.trans (hb9.mono B0.out.size)⟩
  obtain ⟨H, rfl⟩ : ∃ H : Nat, h = H := ⟨h.toNat, by omega⟩
  obtain ⟨D, rfl⟩ : ∃ D : Nat, d = D := ⟨d.toNat, by omega⟩
  have hH0 : 0 < H := by
    have : (H : Int) ≠ 0 := by simpa using e1
    omega
  have hHD : H < D := by omega
  have hD60 : D ≤ 60 := by omega
  have HH := Lib.hid hH0
  have HHD := Lib.hid hHD
  have HD60 := Lib.hid hD60
  have HH20 : Hid (H ≤ 20) := Lib.hid (by omega)
  go_upto_region 4 with fail
  obtain ⟨W1, hW1⟩ : ∃ W1, W1 = W0.alloc (.cells #[.pointer none, .pointer none] 101) := ⟨_, rfl⟩
  obtain ⟨Lb, hLb⟩ : ∃ Lb, Lb = W0.heap.size := ⟨_, rfl⟩
  have P1 : Hid (Blk W1 w.heap.size 100 #[.int .u8 a, .int .u8 b]) := Lib.hid (by rw [hW1]; exact P0.out.alloc _)
  have L1 : Hid (Blk W1 Lb 101 #[.pointer none, .pointer none]) := Lib.hid (by rw [hW1, hLb]; exact Blk.new W0 _ _)
  have B1 : Hid (Below w.heap.size w W1) := Lib.hid (by rw [hW1]; exact B0.out.alloc B0.out.size _)
  have HLb : Hid (w.heap.size ≤ Lb) := Lib.hid (by have := B0.out.size; omega)
  rw [← hW1, ← hLb]
  clear hW1 hLb e1 e2 e3 e4 ha hb hh hd hH0 hHD hD60
  go_wp2_with fail
  refine wp_loop_rounds 3 ?_
  rw [rounds_succ]
  go_upto_region 8 with (go_at_call 41; refine (HPl.out _).mono ?_; rintro e wp ⟨rfl, hbp⟩; unfold lcfg)
  obtain ⟨Cb, hCb⟩ : ∃ Cb, Cb = wp.heap.size := ⟨_, rfl⟩
  obtain ⟨Wc, hWc⟩ : ∃ Wc, Wc = wp.alloc (.cells #[.int .u8 0, .int .u32 1, .int .u32 167772160, .int .u8 24, .int .u32 167772161, .int .u8 2, .int .u16 10, .int .u32 40, .int .u16 0, .int .u8 1, .bool false, .bool false, .slice none 0 0, .int .u32 0] 76) := ⟨_, rfl⟩
  have Cc : Hid (Blk Wc Cb 76 #[.int .u8 0, .int .u32 1, .int .u32 167772160, .int .u8 24, .int .u32 167772161, .int .u8 2, .int .u16 10, .int .u32 40, .int .u16 0, .int .u8 1, .bool false, .bool false, .slice none 0 0, .int .u32 0]) := Lib.hid (by rw [hWc, hCb]; exact Blk.new wp _ _)
  have hbc : Below W1.heap.size W1 Wc := by rw [hWc]; exact hbp.alloc hbp.size _
  have Pc : Hid (Blk Wc w.heap.size 100 #[.int .u8 a, .int .u8 b]) := Lib.hid (P1.out.below hbc P1.out.lt)
  have Lc : Hid (Blk Wc Lb 101 #[.pointer none, .pointer none]) := Lib.hid (L1.out.below hbc L1.out.lt)
  have Bc : Hid (Below w.heap.size w Wc) := Lib.hid (B1.out.trans (hbc.mono B1.out.size))
  have hPC : w.heap.size < Cb := by rw [hCb]; have := P1.out.lt; have := hbp.size; omega
  have hLC : Lb ≠ Cb := Lc.out.ne_ Cc.out (by decide)
  rw [← hWc, ← hCb]
  clear hWc hCb hbp hbc
  have p0 : Wc.cell? ⟨w.heap.size, 0, none⟩ = some (.int .u8 a) := Pc.out.cell 0
  have q1 : Wc.cell? ⟨Cb, 1, none⟩ = some (.int .u32 1) := Cc.out.cell 1
  have q4 : Wc.cell? ⟨Cb, 4, none⟩ = some (.int .u32 167772161) := Cc.out.cell 4
  have q9 : Wc.cell? ⟨Cb, 9, none⟩ = some (.int .u8 1) := Cc.out.cell 9
  have q6 : Wc.cell? ⟨Cb, 6, none⟩ = some (.int .u16 10) := Cc.out.cell 6
  have q7 : Wc.cell? ⟨Cb, 7, none⟩ = some (.int .u32 40) := Cc.out.cell 7
  have fC := Cc.out.frozen
  have hCl := Cc.out.lt
  go_upto_region 13 with fail
  obtain ⟨Wd, hWd⟩ : ∃ Wd, Wd = ((((Wc.setCell ⟨Cb, 1, none⟩ (.int .u32 1)).setCell ⟨Cb, 4, none⟩ (.int .u32 167772161)).setCell ⟨Cb, 9, none⟩ (.int .u8 a)).setCell ⟨Cb, 6, none⟩ (.int .u16 (H : Int))).setCell ⟨Cb, 7, none⟩ (.int .u32 (D : Int)) := ⟨_, rfl⟩
  have Cd : Hid (Blk Wd Cb 76 #[.int .u8 0, .int .u32 1, .int .u32 167772160, .int .u8 24, .int .u32 167772161, .int .u8 2, .int .u16 (H : Int), .int .u32 (D : Int), .int .u16 0, .int .u8 a, .bool false, .bool false, .slice none 0 0, .int .u32 0]) := Lib.hid (by rw [hWd]; exact (((((Cc.out.set_ 1 _).set_ 4 _).set_ 9 _).set_ 6 _).set_ 7 _))
  have Pd : Hid (Blk Wd w.heap.size 100 #[.int .u8 a, .int .u8 b]) := Lib.hid (by rw [hWd]; exact (((((Pc.out.far (p := ⟨Cb, 1, none⟩) (by simpa using Nat.ne_of_lt hPC) _).far (p := ⟨Cb, 4, none⟩) (by simpa using Nat.ne_of_lt hPC) _).far (p := ⟨Cb, 9, none⟩) (by simpa using Nat.ne_of_lt hPC) _).far (p := ⟨Cb, 6, none⟩) (by simpa using Nat.ne_of_lt hPC) _).far (p := ⟨Cb, 7, none⟩) (by simpa using Nat.ne_of_lt hPC) _))
  have Ld : Hid (Blk Wd Lb 101 #[.pointer none, .pointer none]) := Lib.hid (by rw [hWd]; exact (((((Lc.out.far (p := ⟨Cb, 1, none⟩) (by simpa using hLC) _).far (p := ⟨Cb, 4, none⟩) (by simpa using hLC) _).far (p := ⟨Cb, 9, none⟩) (by simpa using hLC) _).far (p := ⟨Cb, 6, none⟩) (by simpa using hLC) _).far (p := ⟨Cb, 7, none⟩) (by simpa using hLC) _))
  have Bd : Hid (Below w.heap.size w Wd) := Lib.hid (by rw [hWd]; exact (((((Bc.out.setCell (p := ⟨Cb, 1, none⟩) (Nat.le_of_lt hPC) _).setCell (p := ⟨Cb, 4, none⟩) (Nat.le_of_lt hPC) _).setCell (p := ⟨Cb, 9, none⟩) (Nat.le_of_lt hPC) _).setCell (p := ⟨Cb, 6, none⟩) (Nat.le_of_lt hPC) _).setCell (p := ⟨Cb, 7, none⟩) (Nat.le_of_lt hPC) _))
  rw [← hWd]
  clear hWd p0 q1 q4 q9 q6 q7 fC hCl
  have z0 : Wd.cell? ⟨Cb, 0, none⟩ = some (.int .u8 0) := Cd.out.cell 0
  have z1 : Wd.cell? ⟨Cb, 1, none⟩ = some (.int .u32 1) := Cd.out.cell 1
  have z2 : Wd.cell? ⟨Cb, 2, none⟩ = some (.int .u32 167772160) := Cd.out.cell 2
  have z3 : Wd.cell? ⟨Cb, 3, none⟩ = some (.int .u8 24) := Cd.out.cell 3
  have z4 : Wd.cell? ⟨Cb, 4, none⟩ = some (.int .u32 167772161) := Cd.out.cell 4
  have z5 : Wd.cell? ⟨Cb, 5, none⟩ = some (.int .u8 2) := Cd.out.cell 5
  have z6 : Wd.cell? ⟨Cb, 6, none⟩ = some (.int .u16 (H : Int)) := Cd.out.cell 6
  have z7 : Wd.cell? ⟨Cb, 7, none⟩ = some (.int .u32 (D : Int)) := Cd.out.cell 7
  have z8 : Wd.cell? ⟨Cb, 8, none⟩ = some (.int .u16 0) := Cd.out.cell 8
  have z9 : Wd.cell? ⟨Cb, 9, none⟩ = some (.int .u8 a) := Cd.out.cell 9
  have z10 : Wd.cell? ⟨Cb, 10, none⟩ = some (.bool false) := Cd.out.cell 10
  have z11 : Wd.cell? ⟨Cb, 11, none⟩ = some (.bool false) := Cd.out.cell 11
  have z12 : Wd.cell? ⟨Cb, 12, none⟩ = some (.slice none 0 0) := Cd.out.cell 12
  have z13 : Wd.cell? ⟨Cb, 13, none⟩ = some (.int .u32 0) := Cd.out.cell 13
  have hgiv : Calls Try.prog 32 #[.agg #[.int .u8 0, .int .u32 1, .int .u32 167772160, .int .u8 24, .int .u32 167772161, .int .u8 2, .int .u16 (H : Int), .int .u32 (D : Int), .int .u16 0, .int .u8 a, .bool false, .bool false, .slice none 0 0, .int .u32 0]] Wd fun e w' => GivenPost (pcfg 1 167772161 a (H : Int) (D : Int) (.slice none 0 0)) [] Wd e w' := given_any Wd (pcfg 1 167772161 a (H : Int) (D : Int) (.slice none 0 0)) [] ⟨none, 0, rfl, ⟨rfl, fun h => absurd h (by decide)⟩⟩ (by simp)
  have HGiv := Lib.hid hgiv
  clear hgiv
  go_wp2_with fail
  refine HGiv.out.mono ?_
  rintro e w2 ⟨vg, rfl, hown, hb2⟩
  obtain ⟨A2, cap2, hv⟩ := own_slice hown
  have hnew := new_any w2 (pcfg 1 167772161 a (H : Int) (D : Int) vg) [] ⟨A2, cap2, hv, Reads.of_own (hv ▸ hown)⟩ (by simp) (pcfg_may 1 167772161 a (H : Int) (D : Int) vg (by decide) (by decide) net24a (by have := HH.out; omega) (by have := HH.out; have := HHD.out; omega)) ⟨show (0 : Int) ≤ 167772161 by decide, show (167772161 : Int) < 4294967296 by decide⟩ ⟨show (0 : Int) ≤ 167772160 by decide, show (167772160 : Int) < 4294967296 by decide⟩ (by simp) (show (0 : Int) ≤ 24 by decide)
  have HNew := Lib.hid hnew
  have Pk := Lib.hid (Pd.out.below hb2 Pd.out.lt)
  have Lk := Lib.hid (Ld.out.below hb2 Ld.out.lt)
  have Bk := Lib.hid (Bd.out.trans (hb2.mono Bd.out.size))
  clear hnew hown hv hb2 z0 z1 z2 z3 z4 z5 z6 z7 z8 z9 z10 z11 z12 z13
  go_wp2_with fail
  refine HNew.out.mono ?_
  rintro e w3 ⟨Q0, v0, rfl, hBl, kB, hO, hb3⟩
  obtain ⟨A3, cap3, hv3⟩ := own_slice hO
  have HPe0 : Hid (∃ A k, v0 = .slice A 0 k) := Lib.hid ⟨A3, cap3, hv3⟩
  have Kn : Hid (Blk w3 Q0 119 (lks (pcfg 1 167772161 a (H : Int) (D : Int) v0) 0 0 0 0 0 0 0 (.slice none 0 0))) := Lib.hid kB
  have Pm := Lib.hid (Pk.out.below hb3 Pk.out.lt)
  have Lm := Lib.hid (Lk.out.below hb3 Lk.out.lt)
  have Bm := Lib.hid (Bk.out.trans (hb3.mono Bk.out.size))
  have HwQ0 : Hid (w.heap.size ≤ Q0) := Lib.hid (Nat.le_trans Bk.out.size hBl)
  have l0 : w3.cell? ⟨Lb, 0, none⟩ = some (.pointer none) := Lm.out.cell 0
  have fL := Lm.out.frozen
  have hLl := Lm.out.lt
  clear kB hO hb3 hBl hv3
  go_wp2_with fail
  obtain ⟨W2, hW⟩ : ∃ W, W = w3.setCell ⟨Lb, 0, none⟩ (.pointer (some ⟨Q0, 0, none⟩)) := ⟨_, rfl⟩
  have P2 : Hid (Blk W2 w.heap.size 100 #[.int .u8 a, .int .u8 b]) := Lib.hid (by rw [hW]; exact Pm.out.far (by simpa using Pm.out.ne_ Lm.out (by decide)) _)
  have L2 : Hid (Blk W2 Lb 101 #[.pointer (some ⟨Q0, 0, none⟩), .pointer none]) := Lib.hid (by rw [hW]; exact Lm.out.set_ 0 _)
  have B2 : Hid (Below w.heap.size w W2) := Lib.hid (by rw [hW]; exact Bm.out.setCell (p := ⟨Lb, 0, none⟩) HLb.out _)
  have K2 : Hid (Blk W2 Q0 119 (lks (pcfg 1 167772161 a (H : Int) (D : Int) v0) 0 0 0 0 0 0 0 (.slice none 0 0))) := Lib.hid (by rw [hW]; exact Kn.out.far (by simpa using Kn.out.ne_ Lm.out (by decide)) _)
  rw [← hW]
  clear hW l0 fL hLl
  rw [rounds_succ]
  go_upto_region 8 with (go_at_call 41; refine (HPl.out _).mono ?_; rintro e wp ⟨rfl, hbp⟩; unfold lcfg)
  obtain ⟨Cb, hCb⟩ : ∃ Cb, Cb = wp.heap.size := ⟨_, rfl⟩
  obtain ⟨Wc, hWc⟩ : ∃ Wc, Wc = wp.alloc (.cells #[.int .u8 0, .int .u32 1, .int .u32 167772160, .int .u8 24, .int .u32 167772161, .int .u8 2, .int .u16 10, .int .u32 40, .int .u16 0, .int .u8 1, .bool false, .bool false, .slice none 0 0, .int .u32 0] 76) := ⟨_, rfl⟩
  have Cc : Hid (Blk Wc Cb 76 #[.int .u8 0, .int .u32 1, .int .u32 167772160, .int .u8 24, .int .u32 167772161, .int .u8 2, .int .u16 10, .int .u32 40, .int .u16 0, .int .u8 1, .bool false, .bool false, .slice none 0 0, .int .u32 0]) := Lib.hid (by rw [hWc, hCb]; exact Blk.new wp _ _)
  have hbc : Below W2.heap.size W2 Wc := by rw [hWc]; exact hbp.alloc hbp.size _
  have Pc : Hid (Blk Wc w.heap.size 100 #[.int .u8 a, .int .u8 b]) := Lib.hid (P2.out.below hbc P2.out.lt)
  have Lc : Hid (Blk Wc Lb 101 #[.pointer (some ⟨Q0, 0, none⟩), .pointer none]) := Lib.hid (L2.out.below hbc L2.out.lt)
  have Bc : Hid (Below w.heap.size w Wc) := Lib.hid (B2.out.trans (hbc.mono B2.out.size))
  have Kc : Hid (Blk Wc Q0 119 (lks (pcfg 1 167772161 a (H : Int) (D : Int) v0) 0 0 0 0 0 0 0 (.slice none 0 0))) := Lib.hid (K2.out.below hbc K2.out.lt)
  have hPC : w.heap.size < Cb := by rw [hCb]; have := P2.out.lt; have := hbp.size; omega
  have hLC : Lb ≠ Cb := Lc.out.ne_ Cc.out (by decide)
  rw [← hWc, ← hCb]
  clear hWc hCb hbp hbc
  have p0 : Wc.cell? ⟨w.heap.size, 1, none⟩ = some (.int .u8 b) := Pc.out.cell 1
  have q1 : Wc.cell? ⟨Cb, 1, none⟩ = some (.int .u32 1) := Cc.out.cell 1
  have q4 : Wc.cell? ⟨Cb, 4, none⟩ = some (.int .u32 167772161) := Cc.out.cell 4
  have q9 : Wc.cell? ⟨Cb, 9, none⟩ = some (.int .u8 1) := Cc.out.cell 9
  have q6 : Wc.cell? ⟨Cb, 6, none⟩ = some (.int .u16 10) := Cc.out.cell 6
  have q7 : Wc.cell? ⟨Cb, 7, none⟩ = some (.int .u32 40) := Cc.out.cell 7
  have fC := Cc.out.frozen
  have hCl := Cc.out.lt
  go_upto_region 13 with fail
  obtain ⟨Wd, hWd⟩ : ∃ Wd, Wd = ((((Wc.setCell ⟨Cb, 1, none⟩ (.int .u32 2)).setCell ⟨Cb, 4, none⟩ (.int .u32 167772162)).setCell ⟨Cb, 9, none⟩ (.int .u8 b)).setCell ⟨Cb, 6, none⟩ (.int .u16 (H : Int))).setCell ⟨Cb, 7, none⟩ (.int .u32 (D : Int)) := ⟨_, rfl⟩
  have Cd : Hid (Blk Wd Cb 76 #[.int .u8 0, .int .u32 2, .int .u32 167772160, .int .u8 24, .int .u32 167772162, .int .u8 2, .int .u16 (H : Int), .int .u32 (D : Int), .int .u16 0, .int .u8 b, .bool false, .bool false, .slice none 0 0, .int .u32 0]) := Lib.hid (by rw [hWd]; exact (((((Cc.out.set_ 1 _).set_ 4 _).set_ 9 _).set_ 6 _).set_ 7 _))
  have Pd : Hid (Blk Wd w.heap.size 100 #[.int .u8 a, .int .u8 b]) := Lib.hid (by rw [hWd]; exact (((((Pc.out.far (p := ⟨Cb, 1, none⟩) (by simpa using Nat.ne_of_lt hPC) _).far (p := ⟨Cb, 4, none⟩) (by simpa using Nat.ne_of_lt hPC) _).far (p := ⟨Cb, 9, none⟩) (by simpa using Nat.ne_of_lt hPC) _).far (p := ⟨Cb, 6, none⟩) (by simpa using Nat.ne_of_lt hPC) _).far (p := ⟨Cb, 7, none⟩) (by simpa using Nat.ne_of_lt hPC) _))
  have Ld : Hid (Blk Wd Lb 101 #[.pointer (some ⟨Q0, 0, none⟩), .pointer none]) := Lib.hid (by rw [hWd]; exact (((((Lc.out.far (p := ⟨Cb, 1, none⟩) (by simpa using hLC) _).far (p := ⟨Cb, 4, none⟩) (by simpa using hLC) _).far (p := ⟨Cb, 9, none⟩) (by simpa using hLC) _).far (p := ⟨Cb, 6, none⟩) (by simpa using hLC) _).far (p := ⟨Cb, 7, none⟩) (by simpa using hLC) _))
  have Bd : Hid (Below w.heap.size w Wd) := Lib.hid (by rw [hWd]; exact (((((Bc.out.setCell (p := ⟨Cb, 1, none⟩) (Nat.le_of_lt hPC) _).setCell (p := ⟨Cb, 4, none⟩) (Nat.le_of_lt hPC) _).setCell (p := ⟨Cb, 9, none⟩) (Nat.le_of_lt hPC) _).setCell (p := ⟨Cb, 6, none⟩) (Nat.le_of_lt hPC) _).setCell (p := ⟨Cb, 7, none⟩) (Nat.le_of_lt hPC) _))
  have hKC : Q0 ≠ Cb := Kc.out.ne_ Cc.out (by decide)
  have Kd : Hid (Blk Wd Q0 119 (lks (pcfg 1 167772161 a (H : Int) (D : Int) v0) 0 0 0 0 0 0 0 (.slice none 0 0))) := Lib.hid (by rw [hWd]; exact (((((Kc.out.far (p := ⟨Cb, 1, none⟩) (by simpa using hKC) _).far (p := ⟨Cb, 4, none⟩) (by simpa using hKC) _).far (p := ⟨Cb, 9, none⟩) (by simpa using hKC) _).far (p := ⟨Cb, 6, none⟩) (by simpa using hKC) _).far (p := ⟨Cb, 7, none⟩) (by simpa using hKC) _))
  rw [← hWd]
  clear hWd p0 q1 q4 q9 q6 q7 fC hCl
  have z0 : Wd.cell? ⟨Cb, 0, none⟩ = some (.int .u8 0) := Cd.out.cell 0
  have z1 : Wd.cell? ⟨Cb, 1, none⟩ = some (.int .u32 2) := Cd.out.cell 1
  have z2 : Wd.cell? ⟨Cb, 2, none⟩ = some (.int .u32 167772160) := Cd.out.cell 2
  have z3 : Wd.cell? ⟨Cb, 3, none⟩ = some (.int .u8 24) := Cd.out.cell 3
  have z4 : Wd.cell? ⟨Cb, 4, none⟩ = some (.int .u32 167772162) := Cd.out.cell 4
  have z5 : Wd.cell? ⟨Cb, 5, none⟩ = some (.int .u8 2) := Cd.out.cell 5
  have z6 : Wd.cell? ⟨Cb, 6, none⟩ = some (.int .u16 (H : Int)) := Cd.out.cell 6
  have z7 : Wd.cell? ⟨Cb, 7, none⟩ = some (.int .u32 (D : Int)) := Cd.out.cell 7
  have z8 : Wd.cell? ⟨Cb, 8, none⟩ = some (.int .u16 0) := Cd.out.cell 8
  have z9 : Wd.cell? ⟨Cb, 9, none⟩ = some (.int .u8 b) := Cd.out.cell 9
  have z10 : Wd.cell? ⟨Cb, 10, none⟩ = some (.bool false) := Cd.out.cell 10
  have z11 : Wd.cell? ⟨Cb, 11, none⟩ = some (.bool false) := Cd.out.cell 11
  have z12 : Wd.cell? ⟨Cb, 12, none⟩ = some (.slice none 0 0) := Cd.out.cell 12
  have z13 : Wd.cell? ⟨Cb, 13, none⟩ = some (.int .u32 0) := Cd.out.cell 13
  have hgiv : Calls Try.prog 32 #[.agg #[.int .u8 0, .int .u32 2, .int .u32 167772160, .int .u8 24, .int .u32 167772162, .int .u8 2, .int .u16 (H : Int), .int .u32 (D : Int), .int .u16 0, .int .u8 b, .bool false, .bool false, .slice none 0 0, .int .u32 0]] Wd fun e w' => GivenPost (pcfg 2 167772162 b (H : Int) (D : Int) (.slice none 0 0)) [] Wd e w' := given_any Wd (pcfg 2 167772162 b (H : Int) (D : Int) (.slice none 0 0)) [] ⟨none, 0, rfl, ⟨rfl, fun h => absurd h (by decide)⟩⟩ (by simp)
  have HGiv := Lib.hid hgiv
  clear hgiv
  go_wp2_with fail
  refine HGiv.out.mono ?_
  rintro e w2 ⟨vg, rfl, hown, hb2⟩
  obtain ⟨A2, cap2, hv⟩ := own_slice hown
  have hnew := new_any w2 (pcfg 2 167772162 b (H : Int) (D : Int) vg) [] ⟨A2, cap2, hv, Reads.of_own (hv ▸ hown)⟩ (by simp) (pcfg_may 2 167772162 b (H : Int) (D : Int) vg (by decide) (by decide) net24b (by have := HH.out; omega) (by have := HH.out; have := HHD.out; omega)) ⟨show (0 : Int) ≤ 167772162 by decide, show (167772162 : Int) < 4294967296 by decide⟩ ⟨show (0 : Int) ≤ 167772160 by decide, show (167772160 : Int) < 4294967296 by decide⟩ (by simp) (show (0 : Int) ≤ 24 by decide)
  have HNew := Lib.hid hnew
  have Pk := Lib.hid (Pd.out.below hb2 Pd.out.lt)
  have Lk := Lib.hid (Ld.out.below hb2 Ld.out.lt)
  have Bk := Lib.hid (Bd.out.trans (hb2.mono Bd.out.size))
  have Kk := Lib.hid (Kd.out.below hb2 Kd.out.lt)
  clear hnew hown hv hb2 z0 z1 z2 z3 z4 z5 z6 z7 z8 z9 z10 z11 z12 z13
  go_wp2_with fail
  refine HNew.out.mono ?_
  rintro e w3 ⟨Q1, v1, rfl, hBl, kB, hO, hb3⟩
  obtain ⟨A3, cap3, hv3⟩ := own_slice hO
  have HPe1 : Hid (∃ A k, v1 = .slice A 0 k) := Lib.hid ⟨A3, cap3, hv3⟩
  have Kn : Hid (Blk w3 Q1 119 (lks (pcfg 2 167772162 b (H : Int) (D : Int) v1) 0 0 0 0 0 0 0 (.slice none 0 0))) := Lib.hid kB
  have Pm := Lib.hid (Pk.out.below hb3 Pk.out.lt)
  have Lm := Lib.hid (Lk.out.below hb3 Lk.out.lt)
  have Bm := Lib.hid (Bk.out.trans (hb3.mono Bk.out.size))
  have HwQ1 : Hid (w.heap.size ≤ Q1) := Lib.hid (Nat.le_trans Bk.out.size hBl)
  have Km := Lib.hid (Kk.out.below hb3 Kk.out.lt)
  have HQ01 : Hid (Q0 ≠ Q1) := Lib.hid (by have := Kk.out.lt; omega)
  have l1 : w3.cell? ⟨Lb, 1, none⟩ = some (.pointer none) := Lm.out.cell 1
  have fL := Lm.out.frozen
  have hLl := Lm.out.lt
  clear kB hO hb3 hBl hv3
  go_wp2_with fail
  obtain ⟨W3, hW⟩ : ∃ W, W = w3.setCell ⟨Lb, 1, none⟩ (.pointer (some ⟨Q1, 0, none⟩)) := ⟨_, rfl⟩
  have P3 : Hid (Blk W3 w.heap.size 100 #[.int .u8 a, .int .u8 b]) := Lib.hid (by rw [hW]; exact Pm.out.far (by simpa using Pm.out.ne_ Lm.out (by decide)) _)
  have L3 : Hid (Blk W3 Lb 101 #[.pointer (some ⟨Q0, 0, none⟩), .pointer (some ⟨Q1, 0, none⟩)]) := Lib.hid (by rw [hW]; exact Lm.out.set_ 1 _)
  have B3 : Hid (Below w.heap.size w W3) := Lib.hid (by rw [hW]; exact Bm.out.setCell (p := ⟨Lb, 1, none⟩) HLb.out _)
  have K3 : Hid (Blk W3 Q0 119 (lks (pcfg 1 167772161 a (H : Int) (D : Int) v0) 0 0 0 0 0 0 0 (.slice none 0 0))) := Lib.hid (by rw [hW]; exact Km.out.far (by simpa using Km.out.ne_ Lm.out (by decide)) _)
  have J3 : Hid (Blk W3 Q1 119 (lks (pcfg 2 167772162 b (H : Int) (D : Int) v1) 0 0 0 0 0 0 0 (.slice none 0 0))) := Lib.hid (by rw [hW]; exact Kn.out.far (by simpa using Kn.out.ne_ Lm.out (by decide)) _)
  rw [← hW]
  clear hW l1 fL hLl
  rw [rounds_succ]
  obtain ⟨V, U, ⟨y1, y2⟩, hSV, hSU, hend, hx1, hx2, hx3⟩ := Pr.steps_both (H := H) (D := D) ⟨1, 167772161, a, 2, 167772162, b⟩ ⟨2, 167772162, b, 1, 167772161, a⟩ rfl rfl rfl rfl rfl rfl (show (167772161 : Int) ≠ 0 by decide) (show (167772162 : Int) ≠ 0 by decide) (show (167772161 : Int) ≠ 167772162 by decide) (show (1 : Int) ≠ 2 by decide) HH.out HHD.out
  have HSV := Lib.hid hSV
  have HSU := Lib.hid hSU
  have HEnd := Lib.hid hend
  have HX1 := Lib.hid hx1
  have HX2 := Lib.hid hx2
  have HX3 := Lib.hid hx3
  clear hSV hSU hend hx1 hx2 hx3
  go_upto_region 18 with fail
  obtain ⟨Nb, hNb⟩ : ∃ Nb, Nb = W3.heap.size := ⟨_, rfl⟩
  obtain ⟨W4, hW4⟩ : ∃ W4, W4 = W3.alloc (.cells #[.slice none 0 0, .slice none 0 0] 103) := ⟨_, rfl⟩
  have F4 : Hid (PFix w W4 w.heap.size Lb Nb Q0 Q1 a b (.slice none 0 0) (.slice none 0 0)) := Lib.hid (by rw [hW4, hNb]; exact ⟨P3.out.alloc _, L3.out.alloc _, Blk.new W3 _ _, B3.out.size, B3.out.alloc B3.out.size _⟩)
  have K4 : Hid (Blk W4 Q0 119 (lks (pcfg 1 167772161 a (H : Int) (D : Int) v0) 0 0 0 0 0 0 0 (.slice none 0 0))) := Lib.hid (by rw [hW4]; exact K3.out.alloc _)
  have J4 : Hid (Blk W4 Q1 119 (lks (pcfg 2 167772162 b (H : Int) (D : Int) v1) 0 0 0 0 0 0 0 (.slice none 0 0))) := Lib.hid (by rw [hW4]; exact J3.out.alloc _)
  have HQN0 : Hid (Q0 ≠ Nb) := Lib.hid (K4.out.ne_ F4.out.n (by decide))
  have HQN1 : Hid (Q1 ≠ Nb) := Lib.hid (J4.out.ne_ F4.out.n (by decide))
  rw [← hW4, ← hNb]
  clear hW4 hNb
  have HUp0 := Lib.hid (up_pl W4 Q0 (pcfg 1 167772161 a (H : Int) (D : Int) v0) 2 ⟨1, 167772161, a, 2, 167772162, b⟩ H D V U (pcfg_ok 1 167772161 a (H : Int) (D : Int) v0 (by omega) (by have := HH20.out; omega)) rfl rfl HPe0.out (show (167772161 : Int) ≠ 0 by decide) rfl rfl rfl (by have := HH.out; have := HHD.out; omega) HSV.out.v0 K4.out)
  have l0 : W4.cell? ⟨Lb, 0, none⟩ = some (.pointer (some ⟨Q0, 0, none⟩)) := F4.out.l.cell 0
  go_wp2_with fail
  refine HUp0.out.mono ?_
  rintro e w5 ⟨n0, rfl, hsay0, hf0, hpl0⟩
  obtain ⟨A0, m0, k0, rfl⟩ := say_slice hsay0
  have F5 := Lib.hid (F4.out.lfr (LFr.one K4.out HwQ0.out (.inl rfl) hf0))
  have J5 := Lib.hid (hf0.blk J4.out (fun e => HQ01.out e.symm))
  have S5 := Lib.hid hsay0
  have PL5 := Lib.hid hpl0
  clear l0 hsay0 hpl0 hf0 HUp0
  have n0c : w5.cell? ⟨Nb, 0, none⟩ = some (.slice none 0 0) := F5.out.n.cell 0
  have fN := F5.out.n.frozen
  have hNl := F5.out.n.lt
  go_upto_region 19 with fail
  obtain ⟨W6, hW6⟩ : ∃ W, W = w5.setCell ⟨Nb, 0, none⟩ (.slice A0 m0 k0) := ⟨_, rfl⟩
  have F6 : Hid (PFix w W6 w.heap.size Lb Nb Q0 Q1 a b (.slice A0 m0 k0) (.slice none 0 0)) := Lib.hid (by rw [hW6]; exact F5.out.set0 (.slice A0 m0 k0))
  have S6 : Hid (SayAt W6 (pcfg 1 167772161 a (H : Int) (D : Int) v0) 2 (.slice A0 m0 k0) (Pr.Pd a H V 0)) := Lib.hid (by rw [hW6]; exact S5.out.far F5.out.n (by decide) (by decide) ((Frame.refl _ w5).setB 0 _))
  have PL6 : Hid (PL W6 Q0 (pcfg 1 167772161 a (H : Int) (D : Int) v0) (Pr.Sd (pcfg 1 167772161 a (H : Int) (D : Int) v0) ⟨1, 167772161, a, 2, 167772162, b⟩ H D V U 0) Q0 Q0) := Lib.hid (by rw [hW6]; exact PL5.out.frame ((Frame.refl (fun j => j = Nb) w5).setB 0 _) (fun j hj e => HQN0.out (by rcases hj with h | h | h <;> omega)))
  have J6 : Hid (Blk W6 Q1 119 (lks (pcfg 2 167772162 b (H : Int) (D : Int) v1) 0 0 0 0 0 0 0 (.slice none 0 0))) := Lib.hid (by rw [hW6]; exact J5.out.far (by simpa using HQN1.out) _)
  rw [← hW6]
  clear hW6 n0c fN hNl
  have HUp1 := Lib.hid (up_pl W6 Q1 (pcfg 2 167772162 b (H : Int) (D : Int) v1) 1 ⟨2, 167772162, b, 1, 167772161, a⟩ H D U V (pcfg_ok 2 167772162 b (H : Int) (D : Int) v1 (by omega) (by have := HH20.out; omega)) rfl rfl HPe1.out (show (167772162 : Int) ≠ 0 by decide) rfl rfl rfl (by have := HH.out; have := HHD.out; omega) HSU.out.v0 J6.out)
  have l1 : W6.cell? ⟨Lb, 1, none⟩ = some (.pointer (some ⟨Q1, 0, none⟩)) := F6.out.l.cell 1
  go_wp2_with fail
  refine HUp1.out.mono ?_
  rintro e w7 ⟨n1, rfl, hsay1, hf1, hpl1⟩
  obtain ⟨A1, m1, k1, rfl⟩ := say_slice hsay1
  have hlf1 := LFr.one J6.out HwQ1.out (.inl rfl) hf1
  have F7 := Lib.hid (F6.out.lfr hlf1)
  have S7 := Lib.hid (S6.out.lfr hlf1)
  have T7 := Lib.hid hsay1
  have PL7 := Lib.hid (PL6.out.frame hf1 (fun j hj e => HQ01.out (by rcases hj with h | h | h <;> omega)))
  have QL7 := Lib.hid hpl1
  clear l1 hsay1 hpl1 hf1 hlf1 HUp1
  have n1c : w7.cell? ⟨Nb, 1, none⟩ = some (.slice none 0 0) := F7.out.n.cell 1
  have fN := F7.out.n.frozen
  have hNl := F7.out.n.lt
  go_upto_region 20 with fail
  obtain ⟨W8, hW8⟩ : ∃ W, W = w7.setCell ⟨Nb, 1, none⟩ (.slice A1 m1 k1) := ⟨_, rfl⟩
  have hP8 : Hid (PInv w w.heap.size Lb Nb Q0 Q1 a b (H : Int) (D : Int) v0 v1 H D V U 0 W8) := Lib.hid (by
    rw [hW8]
    have hfn : Frame (fun j => j = Nb) w7 (w7.setCell ⟨Nb, 1, none⟩ (.slice A1 m1 k1)) := (Frame.refl _ w7).setB 1 _
    exact ⟨_, _, F7.out.set1 (.slice A1 m1 k1), S7.out.far F7.out.n (by decide) (by decide) hfn, T7.out.far F7.out.n (by decide) (by decide) hfn, Q0, Q0, Q1, Q1, PL7.out.frame hfn (fun j hj e => HQN0.out (by rcases hj with h | h | h <;> omega)), QL7.out.frame hfn (fun j hj e => HQN1.out (by rcases hj with h | h | h <;> omega)), fun j hj hk => HQ01.out (by rcases hj with h | h | h <;> rcases hk with h2 | h2 | h2 <;> omega), fun j hj => by have h1 := HwQ0.out; have h2 := HwQ1.out; rcases hj with (h | h | h) | h | h | h <;> omega⟩)
  rw [← hW8]
  clear hW8 n1c fN hNl F4 F5 F6 F7 K4 J4 J5 J6 S5 S6 S7 T7 PL5 PL6 PL7 QL7
  go_wp2_with fail
  go_loopw [13] (fun x wr => ∃ t : Nat, t ≤ 3 * D + 100 ∧ x = .int .u32 t ∧ Hid (PInv w w.heap.size Lb Nb Q0 Q1 a b (H : Int) (D : Int) v0 v1 H D V U t wr)) (fun x _ => 3 * D + 100 - (intOf x).toNat)
  case atStart => exact ⟨0, Nat.zero_le _, rfl, hP8⟩
  case round =>
    clear hP8
    obtain ⟨t, ht, rfl, HP⟩ := hrel
    have hD60 : D ≤ 60 := HD60.out
    by_cases hlt : t < 3 * D + 100
    · obtain ⟨n0, n1, hF, hs0, hs1, hT⟩ := HP.out
      have HF := Lib.hid hF
      have HT := Lib.hid hT
      clear hF hT
      by_cases hm : t % H = 0
      · have e0 : Pr.Pd a H V t = some ⟨a, (V t).1, (V t).2, decide (t ≠ 0)⟩ := if_pos hm
        have e1 : Pr.Pd b H U t = some ⟨b, (U t).1, (U t).2, decide (t ≠ 0)⟩ := if_pos hm
        have HE0 := Lib.hid e0
        have HE1 := Lib.hid e1
        rw [e0] at hs0
        rw [e1] at hs1
        have hs1' := hs1
        obtain ⟨Sa, lva, rfl, hba, hla⟩ := say_some hs0
        obtain ⟨Sb, lvb, rfl, -, -⟩ := say_some hs1
        have Hba := Lib.hid hba
        have HS1 := Lib.hid hs1'
        have hWW : wr.heap.size ≤ wr.heap.size := Nat.le_refl _
        have hcl : ∀ q : Nat, Calls Try.prog 35 #[.pointer (some ⟨Q1, 0, none⟩), .int .u32 167772161, .int .u32 1, .agg #[.int .u32 4294967040, .int .u16 (H : Int), .int .u8 2, .int .u8 a, .int .u32 (D : Int), .int .u32 (V t).1, .int .u32 (V t).2, lva]] (wr.drewN q) fun e w' => (∃ a n k, e = .returned (.tuple #[.slice a n k, .int .i64 0])) ∧ LFr w.heap.size (wr.drewN q) w' ∧ Two w.heap.size w' Q1 (pcfg 2 167772162 b (H : Int) (D : Int) v1) (Pr.Md (pcfg 2 167772162 b (H : Int) (D : Int) v1) ⟨2, 167772162, b, 1, 167772161, a⟩ H D U V t) Q0 (pcfg 1 167772161 a (H : Int) (D : Int) v0) (Pr.Sd (pcfg 1 167772161 a (H : Int) (D : Int) v0) ⟨1, 167772161, a, 2, 167772162, b⟩ H D V U t) := fun q => by
          have h := ((HT.out.below (drewB wr q)).symm).hear_t (hl := ⟨a, (V t).1, (V t).2, decide (t ≠ 0)⟩) (lv := lva) (Nat.le_trans HF.out.bl.size hWW) (pcfg_ok 2 167772162 b (H : Int) (D : Int) v1 (by omega) (by have := HH20.out; omega)) HSU.out rfl rfl rfl rfl HH.out (show (1 : Int) ≠ 0 by decide) (pcfg_may4 2 167772162 b (H : Int) (D : Int) 167772161 1 v1 (by decide) (by decide) (by decide) (by decide) net24a) HE0.out hla
          rw [hello_lit] at h
          exact h
        have HC := Lib.hid hcl
        clear hcl
        clear e0 e1 hs0 hs1 hs1' hla hba hm hWW
        have nc : wr.cell? ⟨Nb, 0, none⟩ = some (.slice (some ⟨Sa, 0, none⟩) 1 1) := HF.out.n.cell 0
        have l1 : wr.cell? ⟨Lb, 1, none⟩ = some (.pointer (some ⟨Q1, 0, none⟩)) := HF.out.l.cell 1
        have g1 : wr.cell? ⟨Sa, 1, none⟩ = some (.int .u32 4294967040) := Hba.out.cell 1
        have g2 : wr.cell? ⟨Sa, 2, none⟩ = some (.int .u16 (H : Int)) := Hba.out.cell 2
        have g3 : wr.cell? ⟨Sa, 3, none⟩ = some (.int .u8 2) := Hba.out.cell 3
        have g4 : wr.cell? ⟨Sa, 4, none⟩ = some (.int .u8 a) := Hba.out.cell 4
        have g5 : wr.cell? ⟨Sa, 5, none⟩ = some (.int .u32 (D : Int)) := Hba.out.cell 5
        have g6 : wr.cell? ⟨Sa, 6, none⟩ = some (.int .u32 (V t).1) := Hba.out.cell 6
        have g7 : wr.cell? ⟨Sa, 7, none⟩ = some (.int .u32 (V t).2) := Hba.out.cell 7
        have g8 : wr.cell? ⟨Sa, 8, none⟩ = some (lva) := Hba.out.cell 8
        go_wp2_with fail
        refine wp_loop_rounds 3 ?_
        rw [rounds_succ]
        go_wp2_with fail
        refine wp_loop_rounds 2 ?_
        rw [rounds_succ]
        go_upto_region 29 with fail
        refine wp_region_drawn_tail 17 (by kernel_rfl) (by kernel_rfl) ?_
        simp only [List.take_succ_cons, List.take_zero, List.drop_succ_cons, List.drop_zero]
        repeat (go_big_quiet_step (fail))
        refine wpQuiet_nil ?_
        rintro wq ⟨q, rfl⟩
        go_wp2_with fail
        refine (HC.out q).mono ?_
        rintro e w1 ⟨⟨ra, rn, rk, rfl⟩, hf1, ht1⟩
        have hfh := (LFr.of_below (drewB wr q) : LFr w.heap.size wr (wr.drewN q)).trans hf1
        have F1 := Lib.hid (HF.out.lfr hfh)
        have S1 := Lib.hid (HS1.out.lfr hfh)
        have T1 := Lib.hid ht1
        clear hf1 ht1 hfh HC g1 g2 g3 g4 g5 g6 g7 g8 nc l1
        have nc0 : w1.cell? ⟨Nb, 0, none⟩ = some (.slice (some ⟨Sa, 0, none⟩) 1 1) := F1.out.n.cell 0
        go_wp2_with fail
        rw [rounds_succ]
        go_wp2_with fail
        obtain ⟨Sb2, lvb2, hn1, hbb, hlb⟩ := say_some S1.out
        obtain rfl : Sb = Sb2 := by simpa using hn1
        have Hbb := Lib.hid hbb
        have hWW : w1.heap.size ≤ w1.heap.size := Nat.le_refl _
        have hcl : ∀ q : Nat, Calls Try.prog 35 #[.pointer (some ⟨Q0, 0, none⟩), .int .u32 167772162, .int .u32 2, .agg #[.int .u32 4294967040, .int .u16 (H : Int), .int .u8 2, .int .u8 b, .int .u32 (D : Int), .int .u32 (U t).1, .int .u32 (U t).2, lvb2]] (w1.drewN q) fun e w' => (∃ a n k, e = .returned (.tuple #[.slice a n k, .int .i64 0])) ∧ LFr w.heap.size (w1.drewN q) w' ∧ Two w.heap.size w' Q0 (pcfg 1 167772161 a (H : Int) (D : Int) v0) (Pr.Md (pcfg 1 167772161 a (H : Int) (D : Int) v0) ⟨1, 167772161, a, 2, 167772162, b⟩ H D V U t) Q1 (pcfg 2 167772162 b (H : Int) (D : Int) v1) (Pr.Md (pcfg 2 167772162 b (H : Int) (D : Int) v1) ⟨2, 167772162, b, 1, 167772161, a⟩ H D U V t) := fun q => by
          have h := ((T1.out.below (drewB w1 q)).symm).hear_t (hl := ⟨b, (U t).1, (U t).2, decide (t ≠ 0)⟩) (lv := lvb2) (Nat.le_trans F1.out.bl.size hWW) (pcfg_ok 1 167772161 a (H : Int) (D : Int) v0 (by omega) (by have := HH20.out; omega)) HSV.out rfl rfl rfl rfl HH.out (show (2 : Int) ≠ 0 by decide) (pcfg_may4 1 167772161 a (H : Int) (D : Int) 167772162 2 v0 (by decide) (by decide) (by decide) (by decide) net24b) HE1.out hlb
          rw [hello_lit] at h
          exact h
        have HC := Lib.hid hcl
        clear hcl
        clear hlb hbb hWW nc0
        have nc : w1.cell? ⟨Nb, 1, none⟩ = some (.slice (some ⟨Sb, 0, none⟩) 1 1) := F1.out.n.cell 1
        have l0 : w1.cell? ⟨Lb, 0, none⟩ = some (.pointer (some ⟨Q0, 0, none⟩)) := F1.out.l.cell 0
        have g1 : w1.cell? ⟨Sb, 1, none⟩ = some (.int .u32 4294967040) := Hbb.out.cell 1
        have g2 : w1.cell? ⟨Sb, 2, none⟩ = some (.int .u16 (H : Int)) := Hbb.out.cell 2
        have g3 : w1.cell? ⟨Sb, 3, none⟩ = some (.int .u8 2) := Hbb.out.cell 3
        have g4 : w1.cell? ⟨Sb, 4, none⟩ = some (.int .u8 b) := Hbb.out.cell 4
        have g5 : w1.cell? ⟨Sb, 5, none⟩ = some (.int .u32 (D : Int)) := Hbb.out.cell 5
        have g6 : w1.cell? ⟨Sb, 6, none⟩ = some (.int .u32 (U t).1) := Hbb.out.cell 6
        have g7 : w1.cell? ⟨Sb, 7, none⟩ = some (.int .u32 (U t).2) := Hbb.out.cell 7
        have g8 : w1.cell? ⟨Sb, 8, none⟩ = some (lvb2) := Hbb.out.cell 8
        rw [rounds_succ]
        go_wp2_with fail
        refine wp_loop_rounds 2 ?_
        rw [rounds_succ]
        go_upto_region 29 with fail
        refine wp_region_drawn_tail 17 (by kernel_rfl) (by kernel_rfl) ?_
        simp only [List.take_succ_cons, List.take_zero, List.drop_succ_cons, List.drop_zero]
        repeat (go_big_quiet_step (fail))
        refine wpQuiet_nil ?_
        rintro wq ⟨q, rfl⟩
        go_wp2_with fail
        refine (HC.out q).mono ?_
        rintro e w2 ⟨⟨ra, rn, rk, rfl⟩, hf1, ht1⟩
        have hfh := (LFr.of_below (drewB w1 q) : LFr w.heap.size w1 (w1.drewN q)).trans hf1
        have F2 := Lib.hid (F1.out.lfr hfh)
        have T2 := Lib.hid ht1
        clear hf1 ht1 hfh HC g1 g2 g3 g4 g5 g6 g7 g8 nc l0
        have nc1 : w2.cell? ⟨Nb, 1, none⟩ = some (.slice (some ⟨Sb, 0, none⟩) 1 1) := F2.out.n.cell 1
        have l0 : w2.cell? ⟨Lb, 0, none⟩ = some (.pointer (some ⟨Q0, 0, none⟩)) := F2.out.l.cell 0
        go_wp2_with fail
        rw [rounds_succ]
        go_wp2_with fail
        rw [rounds_succ]
        have htk0 := T2.out.tick_t (pcfg_ok 1 167772161 a (H : Int) (D : Int) v0 (by omega) (by have := HH20.out; omega)) HSV.out rfl rfl rfl rfl HH.out HHD.out (by omega)
        have HTk0 := Lib.hid htk0
        clear htk0
        go_wp2_with fail
        refine HTk0.out.mono ?_
        rintro e wa ⟨va, rfl, hsa, hfa, hta⟩
        obtain ⟨A0, m0, k0, rfl⟩ := say_slice hsa
        have Fa := Lib.hid (F2.out.lfr hfa)
        have Ya := Lib.hid hsa
        have Ta := Lib.hid hta
        clear hsa hfa hta HTk0
        have nc : wa.cell? ⟨Nb, 0, none⟩ = some (.slice (some ⟨Sa, 0, none⟩) 1 1) := Fa.out.n.cell 0
        have fN := Fa.out.n.frozen
        have hNl := Fa.out.n.lt
        go_upto_region 31 with fail
        obtain ⟨Wb, hWb⟩ : ∃ W, W = wa.setCell ⟨Nb, 0, none⟩ (.slice A0 m0 k0) := ⟨_, rfl⟩
        have hfn : Frame (fun j => j = Nb) wa Wb := by rw [hWb]; exact (Frame.refl _ wa).setB 0 _
        have Fb : Hid (PFix w Wb w.heap.size Lb Nb Q0 Q1 a b (.slice A0 m0 k0) (.slice (some ⟨Sb, 0, none⟩) 1 1)) := Lib.hid (by rw [hWb]; exact Fa.out.set0 _)
        have Yb : Hid (SayAt Wb (pcfg 1 167772161 a (H : Int) (D : Int) v0) 2 (.slice A0 m0 k0) (Pr.Pd a H V (t + 1))) := Lib.hid (Ya.out.far Fa.out.n (by decide) (by decide) hfn)
        have htk1 := (Ta.out.far Fa.out.n (by decide) (by decide) (by decide) hfn).symm.tick_t (pcfg_ok 2 167772162 b (H : Int) (D : Int) v1 (by omega) (by have := HH20.out; omega)) HSU.out rfl rfl rfl rfl HH.out HHD.out (by omega)
        have HTk1 := Lib.hid htk1
        rw [← hWb]
        clear hWb nc fN hNl hfn htk1
        have l1 : Wb.cell? ⟨Lb, 1, none⟩ = some (.pointer (some ⟨Q1, 0, none⟩)) := Fb.out.l.cell 1
        go_wp2_with fail
        refine HTk1.out.mono ?_
        rintro e wc ⟨vc, rfl, hsc, hfc, htc⟩
        obtain ⟨A1, m1, k1, rfl⟩ := say_slice hsc
        have Fc := Lib.hid (Fb.out.lfr hfc)
        have Yc := Lib.hid (Yb.out.lfr hfc)
        have Uc := Lib.hid hsc
        have Tc := Lib.hid htc
        clear hsc hfc htc HTk1 l1
        have nc : wc.cell? ⟨Nb, 1, none⟩ = some (.slice (some ⟨Sb, 0, none⟩) 1 1) := Fc.out.n.cell 1
        have fN := Fc.out.n.frozen
        have hNl := Fc.out.n.lt
        go_upto_region 22 with fail
        obtain ⟨Wd, hWd⟩ : ∃ W, W = wc.setCell ⟨Nb, 1, none⟩ (.slice A1 m1 k1) := ⟨_, rfl⟩
        have hfn : Frame (fun j => j = Nb) wc Wd := by rw [hWd]; exact (Frame.refl _ wc).setB 1 _
        have HPd : Hid (PInv w w.heap.size Lb Nb Q0 Q1 a b (H : Int) (D : Int) v0 v1 H D V U (t + 1) Wd) := Lib.hid ⟨_, _, by rw [hWd]; exact Fc.out.set1 _, Yc.out.far Fc.out.n (by decide) (by decide) hfn, Uc.out.far Fc.out.n (by decide) (by decide) hfn, (Tc.out.far Fc.out.n (by decide) (by decide) (by decide) hfn).symm⟩
        rw [← hWd]
        clear hWd nc fN hNl hfn
        go_wp2_with fail
        go_roundw
        case rel => exact ⟨t + 1, by omega, by simp, HPd⟩
        case measure => simp [intOf]; omega
      · have e0 : Pr.Pd a H V t = none := if_neg hm
        have e1 : Pr.Pd b H U t = none := if_neg hm
        rw [e0] at hs0
        rw [e1] at hs1
        obtain rfl : n0 = .slice none 0 0 := hs0
        obtain rfl : n1 = .slice none 0 0 := hs1
        have HT2 := Lib.hid ((HT.out.quiet_t HH.out e1).symm.quiet_t (s := ⟨2, 167772162, b, 1, 167772161, a⟩) HH.out e0).symm
        clear e0 e1 hm
        have nc0 : wr.cell? ⟨Nb, 0, none⟩ = some (.slice none 0 0) := HF.out.n.cell 0
        have nc1 : wr.cell? ⟨Nb, 1, none⟩ = some (.slice none 0 0) := HF.out.n.cell 1
        have l0 : wr.cell? ⟨Lb, 0, none⟩ = some (.pointer (some ⟨Q0, 0, none⟩)) := HF.out.l.cell 0
        go_wp2_with fail
        refine wp_loop_rounds 3 ?_
        rw [rounds_succ]
        go_wp2_with fail
        refine wp_loop_rounds 1 ?_
        rw [rounds_succ]
        go_wp2_with fail
        rw [rounds_succ]
        go_wp2_with fail
        refine wp_loop_rounds 1 ?_
        rw [rounds_succ]
        go_wp2_with fail
        rw [rounds_succ]
        have htk0 := HT2.out.tick_t (pcfg_ok 1 167772161 a (H : Int) (D : Int) v0 (by omega) (by have := HH20.out; omega)) HSV.out rfl rfl rfl rfl HH.out HHD.out (by omega)
        have HTk0 := Lib.hid htk0
        clear htk0
        go_wp2_with fail
        refine HTk0.out.mono ?_
        rintro e wa ⟨va, rfl, hsa, hfa, hta⟩
        obtain ⟨A0, m0, k0, rfl⟩ := say_slice hsa
        have Fa := Lib.hid (HF.out.lfr hfa)
        have Ya := Lib.hid hsa
        have Ta := Lib.hid hta
        clear hsa hfa hta HTk0
        have nc : wa.cell? ⟨Nb, 0, none⟩ = some (.slice none 0 0) := Fa.out.n.cell 0
        have fN := Fa.out.n.frozen
        have hNl := Fa.out.n.lt
        go_upto_region 31 with fail
        obtain ⟨Wb, hWb⟩ : ∃ W, W = wa.setCell ⟨Nb, 0, none⟩ (.slice A0 m0 k0) := ⟨_, rfl⟩
        have hfn : Frame (fun j => j = Nb) wa Wb := by rw [hWb]; exact (Frame.refl _ wa).setB 0 _
        have Fb : Hid (PFix w Wb w.heap.size Lb Nb Q0 Q1 a b (.slice A0 m0 k0) (.slice none 0 0)) := Lib.hid (by rw [hWb]; exact Fa.out.set0 _)
        have Yb : Hid (SayAt Wb (pcfg 1 167772161 a (H : Int) (D : Int) v0) 2 (.slice A0 m0 k0) (Pr.Pd a H V (t + 1))) := Lib.hid (Ya.out.far Fa.out.n (by decide) (by decide) hfn)
        have htk1 := (Ta.out.far Fa.out.n (by decide) (by decide) (by decide) hfn).symm.tick_t (pcfg_ok 2 167772162 b (H : Int) (D : Int) v1 (by omega) (by have := HH20.out; omega)) HSU.out rfl rfl rfl rfl HH.out HHD.out (by omega)
        have HTk1 := Lib.hid htk1
        rw [← hWb]
        clear hWb nc fN hNl hfn htk1
        have l1 : Wb.cell? ⟨Lb, 1, none⟩ = some (.pointer (some ⟨Q1, 0, none⟩)) := Fb.out.l.cell 1
        go_wp2_with fail
        refine HTk1.out.mono ?_
        rintro e wc ⟨vc, rfl, hsc, hfc, htc⟩
        obtain ⟨A1, m1, k1, rfl⟩ := say_slice hsc
        have Fc := Lib.hid (Fb.out.lfr hfc)
        have Yc := Lib.hid (Yb.out.lfr hfc)
        have Uc := Lib.hid hsc
        have Tc := Lib.hid htc
        clear hsc hfc htc HTk1 l1
        have nc : wc.cell? ⟨Nb, 1, none⟩ = some (.slice none 0 0) := Fc.out.n.cell 1
        have fN := Fc.out.n.frozen
        have hNl := Fc.out.n.lt
        go_upto_region 22 with fail
        obtain ⟨Wd, hWd⟩ : ∃ W, W = wc.setCell ⟨Nb, 1, none⟩ (.slice A1 m1 k1) := ⟨_, rfl⟩
        have hfn : Frame (fun j => j = Nb) wc Wd := by rw [hWd]; exact (Frame.refl _ wc).setB 1 _
        have HPd : Hid (PInv w w.heap.size Lb Nb Q0 Q1 a b (H : Int) (D : Int) v0 v1 H D V U (t + 1) Wd) := Lib.hid ⟨_, _, by rw [hWd]; exact Fc.out.set1 _, Yc.out.far Fc.out.n (by decide) (by decide) hfn, Uc.out.far Fc.out.n (by decide) (by decide) hfn, (Tc.out.far Fc.out.n (by decide) (by decide) (by decide) hfn).symm⟩
        rw [← hWd]
        clear hWd nc fN hNl hfn
        go_wp2_with fail
        go_roundw
        case rel => exact ⟨t + 1, by omega, by simp, HPd⟩
        case measure => simp [intOf]; omega
    · obtain rfl : t = 3 * D + 100 := by omega
      have hle : D + H + H ≤ 3 * D + 100 := by have := HHD.out; omega
      obtain ⟨hV, hU⟩ := HEnd.out _ hle
      obtain ⟨n0, n1, hF, -, -, hT⟩ := HP.out
      have HF := Lib.hid hF
      have HT := Lib.hid hT
      obtain ⟨k0, hE0⟩ := end_of (c := (pcfg 1 167772161 a (H : Int) (D : Int) v0)) (s := ⟨1, 167772161, a, 2, 167772162, b⟩) (U := U) HH.out HHD.out hle hV
      obtain ⟨k1, hE1⟩ := end_of (c := (pcfg 2 167772162 b (H : Int) (D : Int) v1)) (s := ⟨2, 167772162, b, 1, 167772161, a⟩) (V := U) (U := V) HH.out HHD.out hle hU
      have hE0' := Lib.hid hE0
      have hE1' := Lib.hid hE1
      have hc0 : Calls Try.prog 42 #[.pointer (some ⟨Q0, 0, none⟩)] wr fun e w' => e = .returned (.tuple #[.int .u32 y1, .int .u32 y2]) ∧ Below wr.heap.size wr w' := by
        have h := hT.chiefs
        rw [hE0.dr, hE0.bd] at h
        exact h
      have HC0 := Lib.hid hc0
      have l0 : wr.cell? ⟨Lb, 0, none⟩ = some (.pointer (some ⟨Q0, 0, none⟩)) := HF.out.l.cell 0
      clear hc0 hF hT hE0 hE1 hle hV hU
      go_wp2_with fail
      refine HC0.out.mono ?_
      rintro e w1 ⟨rfl, hb1⟩
      have T1 := Lib.hid (HT.out.below hb1)
      have F1 := Lib.hid (HF.out.lfr (LFr.of_below hb1))
      have hc1 : Calls Try.prog 42 #[.pointer (some ⟨Q1, 0, none⟩)] w1 fun e w' => e = .returned (.tuple #[.int .u32 y1, .int .u32 y2]) ∧ Below w1.heap.size w1 w' := by
        have h := T1.out.symm.chiefs
        rw [hE1'.out.dr, hE1'.out.bd] at h
        exact h
      have HC1 := Lib.hid hc1
      clear hb1 l0 HC0 hc1
      have l1 : w1.cell? ⟨Lb, 1, none⟩ = some (.pointer (some ⟨Q1, 0, none⟩)) := F1.out.l.cell 1
      go_wp2_with fail
      refine HC1.out.mono ?_
      rintro e w2 ⟨rfl, hb2⟩
      have T2 := Lib.hid (T1.out.below hb2)
      have F2 := Lib.hid (F1.out.lfr (LFr.of_below hb2))
      clear hb2 l1 HC1
      have l0 : w2.cell? ⟨Lb, 0, none⟩ = some (.pointer (some ⟨Q0, 0, none⟩)) := F2.out.l.cell 0
      have l1 : w2.cell? ⟨Lb, 1, none⟩ = some (.pointer (some ⟨Q1, 0, none⟩)) := F2.out.l.cell 1
      go_upto_region 34 with fail
      have T2d := Lib.hid (T2.out.below ((Below.refl w2.heap.size w2).drew))
      obtain ⟨sm, hsm⟩ : ∃ sm, sm = decide (a ≠ 0 ∨ b ≠ 0) := ⟨_, rfl⟩
      have Hsm := Lib.hid hsm
      have hsm1 : sm = decide (b ≠ 0 ∨ a ≠ 0) := by rw [hsm]; exact decide_eq_decide.2 Or.comm
      have HSm1 := Lib.hid hsm1
      have hn0 := (T2d.out).neigh hE0'.out.nb (b := decide (a ≠ 0 ∨ b ≠ 0)) (want_end hE0'.out rfl rfl (show (167772161 : Int) ≠ 0 by decide) (show (167772162 : Int) ≠ 0 by decide) HX1.out HX2.out HX3.out) hE0'.out.ns
      rw [← hsm] at hn0
      have HN0 := Lib.hid hn0
      clear hn0 hsm hsm1
      go_cut [20, 21] (fun p q wx => ∃ g0 c0 g1 c1, p = .slice (some ⟨g0, 0, none⟩) 1 c0 ∧ q = .slice (some ⟨g1, 0, none⟩) 1 c1 ∧ wx.cell? ⟨g0, 2, none⟩ = some (.int .u8 3) ∧ wx.cell? ⟨g0, 8, none⟩ = some (.bool sm) ∧ wx.cell? ⟨g1, 2, none⟩ = some (.int .u8 3) ∧ wx.cell? ⟨g1, 8, none⟩ = some (.bool sm) ∧ PFix w wx w.heap.size Lb Nb Q0 Q1 a b n0 n1)
      case first =>
        go_region_with (first | (go_at_call_of 38 (Value.pointer (some (Addr.mk Q0 0 none))); refine HN0.out.mono ?_; rintro e w3 ⟨⟨g0, cap0, rfl, ha2, ha8, hag⟩, hb3⟩; have T3 := Lib.hid (T2d.out.below hb3); have F3 := Lib.hid (F2.out.lfr ((LFr.of_below ((Below.refl w2.heap.size w2).drew) : LFr w.heap.size w2 w2.drew).trans (LFr.of_below hb3))); have l1' : w3.cell? ⟨Lb, 1, none⟩ = some (.pointer (some ⟨Q1, 0, none⟩)) := F3.out.l.cell 1; have HA2 := Lib.hid ha2; have HA8 := Lib.hid ha8; have HAg := Lib.hid hag; clear ha2 ha8 hag hb3) | (go_at_call_of 38 (Value.pointer (some (Addr.mk Q1 0 none))); have hn1 := (T3.out.symm).neigh hE1'.out.nb (b := decide (b ≠ 0 ∨ a ≠ 0)) (want_end hE1'.out rfl rfl (show (167772162 : Int) ≠ 0 by decide) (show (167772161 : Int) ≠ 0 by decide) (HX1.out.trans Or.comm) (HX2.out.trans And.comm) (fun h => (HX3.out h.symm).symm)) hE1'.out.ns; rw [← HSm1.out] at hn1; refine hn1.mono ?_; clear hn1; rintro e w4 ⟨⟨g1, cap1, rfl, hc2, hc8, hcg⟩, hb4⟩; have F4 := Lib.hid (F3.out.lfr (LFr.of_below hb4)); have HA2' := Lib.hid ((hb4.cell (p := ⟨g0, 2, none⟩) HAg.out).trans HA2.out); have HA8' := Lib.hid ((hb4.cell (p := ⟨g0, 8, none⟩) HAg.out).trans HA8.out); have HC2 := Lib.hid hc2; have HC8 := Lib.hid hc8; clear hc2 hc8 hcg hb4))
        all_goals
          go_wp2_with fail
          go_meet
          case rel => exact ⟨g0, cap0, g1, cap1, rfl, rfl, HA2'.out, HA8'.out, HC2.out, HC8.out, F4.out⟩
      obtain ⟨g0, cp0, g1, cp1, rfl, rfl, a2, a8, b2, b8, hF4⟩ := hcut
      have p0 : wc.cell? ⟨w.heap.size, 0, none⟩ = some (.int .u8 a) := hF4.p.cell 0
      have p1 : wc.cell? ⟨w.heap.size, 1, none⟩ = some (.int .u8 b) := hF4.p.cell 1
      have BF := Lib.hid hF4.bl
      have hx1 := HX1.out
      have hx2 := HX2.out
      have ha := HA.out
      have hb := HB.out
      clear hF4 l0 l1 HN0
      by_cases ha0 : a = 0 <;> by_cases hb0 : b = 0
      · have hz1 : y1 = 0 := by simpa [ha0, hb0] using hx1
        have hz2 : y2 = 0 := by simpa [ha0, hb0] using hx2
        obtain rfl : sm = false := by rw [Hsm.out]; simp [ha0, hb0]
        have k1 : (y1 != 0) = false := by simp [hz1]
        have k2 : (y2 != 0) = false := by simp [hz2]
        have q0 : ¬ 0 < a := by omega
        have q1 : ¬ 0 < b := by omega
        clear hx1 hx2 ha hb ha0 hb0 hz1 hz2
        go_wp2_with (go_at_call 30; refine (HW.out _).mono ?_; rintro e w9 ⟨rfl, hb9⟩)
        go_ret
        exact ⟨rfl, BF.out.trans (hb9.mono BF.out.size)⟩
      · have hz1 : y1 ≠ 0 := by simpa [ha0, hb0] using hx1
        have hz2 : y2 = 0 := by simpa [ha0, hb0] using hx2
        obtain rfl : sm = true := by rw [Hsm.out]; simp [ha0, hb0]
        have k1 : (y1 != 0) = true := by simp [hz1]
        have k2 : (y2 != 0) = false := by simp [hz2]
        have q0 : ¬ 0 < a := by omega
        have q1 : 0 < b := by omega
        clear hx1 hx2 ha hb ha0 hb0 hz1 hz2
        go_wp2_with (go_at_call 30; refine (HW.out _).mono ?_; rintro e w9 ⟨rfl, hb9⟩)
        go_ret
        exact ⟨rfl, BF.out.trans (hb9.mono BF.out.size)⟩
      · have hz1 : y1 ≠ 0 := by simpa [ha0, hb0] using hx1
        have hz2 : y2 = 0 := by simpa [ha0, hb0] using hx2
        obtain rfl : sm = true := by rw [Hsm.out]; simp [ha0, hb0]
        have k1 : (y1 != 0) = true := by simp [hz1]
        have k2 : (y2 != 0) = false := by simp [hz2]
        have q0 : 0 < a := by omega
        have q1 : ¬ 0 < b := by omega
        clear hx1 hx2 ha hb ha0 hb0 hz1 hz2
        go_wp2_with (go_at_call 30; refine (HW.out _).mono ?_; rintro e w9 ⟨rfl, hb9⟩)
        go_ret
        exact ⟨rfl, BF.out.trans (hb9.mono BF.out.size)⟩
      · have hz1 : y1 ≠ 0 := by simpa [ha0, hb0] using hx1
        have hz2 : y2 ≠ 0 := by simpa [ha0, hb0] using hx2
        obtain rfl : sm = true := by rw [Hsm.out]; simp [ha0, hb0]
        have k1 : (y1 != 0) = true := by simp [hz1]
        have k2 : (y2 != 0) = true := by simp [hz2]
        have q0 : 0 < a := by omega
        have q1 : 0 < b := by omega
        clear hx1 hx2 ha hb ha0 hb0 hz1 hz2
        go_wp2_with (go_at_call 30; refine (HW.out _).mono ?_; rintro e w9 ⟨rfl, hb9⟩)
        go_ret
        exact ⟨rfl, BF.out.trans (hb9.mono BF.out.size)⟩

end Go.Proofs.Ytgbmhijgpdgdbaa
