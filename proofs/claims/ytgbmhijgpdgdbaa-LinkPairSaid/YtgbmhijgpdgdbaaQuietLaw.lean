/- The statement LinkQuiet, walked, given a contract of Up. -/
import Derived.Test.YtgbmhijgpdgdbaaNeigh13
import Derived.Test.YtgbmhijgpdgdbaaMayQ
import Derived.Test.YtgbmhijgpdgdbaaUpAny
import Derived.Test.YtgbmhijgpdgdbaaGiven
import Derived.Test.YtgbmhijgpdgdbaaNewJoin
import Derived.Test.YtgbmhijgpdgdbaaLate
namespace Go.Proofs.Ytgbmhijgpdgdbaa
open Go.RowKit

theorem Frame.below {S : Nat → Prop} {w w' : World} (h : Frame S w w') {N : Nat} (hN : N ≤ w.heap.size) (hS : ∀ j, j < N → ¬ S j) : Below N w w' := ⟨h.os, h.tape, h.output, h.size, fun j hj => h.block j (by omega) (hS j hj)⟩

theorem state_lk (w : World) (B : Nat) (cs : Array Value) (st : Int) (k : Blk w B 119 cs) (h0 : cs[0]? = some (.bool true)) (h15 : cs[15]? = some (.int .u8 st)) : Calls Try.prog 39 #[.pointer (some ⟨B, 0, none⟩)] w fun e w' => e = .returned (.int .u8 st) ∧ w = w' := by
  have c15 : w.cell? ⟨B, 15, none⟩ = some (.int .u8 st) := (k.cell 15).trans h15
  go_enter Try.func39, Try.ntmps39
  go_wp2_with (go_at_call 67; refine (none_lk _ _ _ k h0).mono ?_; rintro e w' ⟨rfl, rfl⟩)
  go_ret
  exact ⟨rfl, rfl⟩

set_option maxHeartbeats 2000000 in
set_option maxRecDepth 20000 in
theorem works13_any (w : World) : Calls Try.prog 30 #[] w fun e w' => e = .returned (.bool true) ∧ Below w.heap.size w w' := by
  have hp : ∀ W : World, Calls Try.prog 41 #[.int .u8 0] W fun e w' => e = .returned lcfg ∧ Below W.heap.size W w' := plain13
  have hg : ∀ W : World, Calls Try.prog 32 #[lcfg] W fun e w' => e = .returned lcfg ∧ Below W.heap.size W w' := given13
  have HPl := Lib.hid hp
  have HGi := Lib.hid hg
  have HNe := Lib.hid new13
  clear hp hg
  go_enter Try.func30, Try.ntmps30
  go_wp2_with fail
  refine (HPl.out _).mono ?_
  rintro e w1 ⟨rfl, hb1⟩
  go_wp2_with fail
  refine (HGi.out _).mono ?_
  rintro e w2 ⟨rfl, hb2⟩
  have B2 := Lib.hid (hb1.trans (hb2.mono hb1.size))
  clear hb1 hb2
  go_wp2_with fail
  refine (HNe.out _).mono ?_
  rintro e w3 ⟨B, rfl, hBl, kB, hb3⟩
  have B3 := Lib.hid (B2.out.trans (hb3.mono B2.out.size))
  have hwB : w.heap.size ≤ B := Nat.le_trans B2.out.size hBl
  have K3 := Lib.hid kB
  clear kB hb3 hBl
  go_wp2_with fail
  refine (up_lk _ B w.heap.size hwB K3.out).mono ?_
  rintro e w4 ⟨S, rfl, hS, hSB, k4, hb4⟩
  have K4 := Lib.hid k4
  have S4 := Lib.hid hS
  have B4 := Lib.hid (B3.out.trans hb4)
  have hBl4 : B < w4.heap.size := k4.lt
  have hSl4 : S < w4.heap.size := lt_of_cell hS
  clear k4 hS hb4
  have hh : ∀ W G, Blk W B 119 (lk 2 40 10 (.slice none 0 0)) → W.cell? ⟨G, 0, none⟩ = some (.int .u32 1) → G ≠ B → Calls Try.prog 35 #[.pointer (some ⟨B, 0, none⟩), .int .u32 167772162, .int .u32 2, .agg #[.int .u32 4294967040, .int .u16 10, .int .u8 2, .int .u8 1, .int .u32 40, .int .u32 0, .int .u32 0, .slice (some ⟨G, 0, none⟩) 1 1]] W fun e w' => HearPost B 40 10 W e w' := fun W G k g h => hear_first W B G 40 10 k g h
  have HH := Lib.hid hh
  clear hh
  go_wp2_with fail
  have a4 : Below w.heap.size w (w4.alloc (.cells #[.int .u32 1] 25)) := B4.out.alloc B4.out.size _
  refine (HH.out _ w4.heap.size (K4.out.alloc _) ((Blk.new w4 _ _).cell 0) (by omega)).mono ?_
  rintro e w5 ⟨rfl, L, K, c, cs, kB, kL, hcs, kK, hL, hK, hF⟩
  have K5 := Lib.hid kB
  have L5 := Lib.hid kL
  have N5 := Lib.hid kK
  have Hcs := Lib.hid hcs
  have S5 : Hid (w5.cell? ⟨S, 0, none⟩ = some (.int .u32 3758096389)) := Lib.hid ((hF.cell_ (b := S) (by simp; omega) hSB 0).trans ((World.cell?_alloc_lt _ _ _ hSl4).trans S4.out))
  have B5 : Hid (Below w.heap.size w w5) := Lib.hid (a4.trans (hF.below (by have := B4.out.size; simp; omega) (fun j hj e => by omega)))
  clear kB kL kK hcs hF a4
  go_wp2_with fail
  refine (hear_times w5 B L K c 40 10 cs _ K5.out L5.out Hcs.out N5.out).mono ?_
  rintro e w6 ⟨rfl, hb6⟩
  have K6 := Lib.hid (K5.out.below hb6 K5.out.lt)
  have L6 := Lib.hid (L5.out.below hb6 L5.out.lt)
  have N6 := Lib.hid (N5.out.below hb6 N5.out.lt)
  have S6 := Lib.hid ((hb6.cell (p := ⟨S, 0, none⟩) (lt_of_cell S5.out)).trans S5.out)
  have B6 := Lib.hid (B5.out.trans (hb6.mono B5.out.size))
  clear hb6
  go_wp2_with fail
  refine (neighbours_lk w6 B L K c 40 10 cs K6.out L6.out Hcs.out N6.out).mono ?_
  rintro e w7 ⟨R, c7, rfl, hR2, hR8, hb7⟩
  have K7 := Lib.hid (K6.out.below hb7 K6.out.lt)
  have s7 : w7.cell? ⟨S, 0, none⟩ = some (.int .u32 3758096389) := (hb7.cell (p := ⟨S, 0, none⟩) (lt_of_cell S6.out)).trans S6.out
  have B7 := Lib.hid (B6.out.trans (hb7.mono B6.out.size))
  clear hb7
  go_wp2_with (go_at_call 39; refine (state_lk _ _ _ 2 K7.out rfl rfl).mono ?_; rintro e w' ⟨rfl, rfl⟩)
  go_ret
  exact ⟨rfl, B7.out⟩
end Go.Proofs.Ytgbmhijgpdgdbaa

namespace Go.Proofs.Ytgbmhijgpdgdbaa
open Go.RowKit

set_option maxHeartbeats 2000000 in
set_option maxRecDepth 20000 in
theorem hear_quiet (w : World) (B : Nat) (c : LC) (st dr bd wt nx po re : Int) (f r hm hv ho hp hd hr hb : Int) (nb : Value) (k : Blk w B 119 (lks c st dr bd wt nx po re (.slice none 0 0))) (hst : st = 0 ∨ st = 1) (hn0 : 0 ≤ c.nb) (hn1 : c.nb ≤ 32) (hnet : bits .and .u32 c.na (maskN c.nb.toNat) = c.na) (hpe : ∃ A n k, c.pe = .slice A n k) :
    Calls Try.prog 35 #[.pointer (some ⟨B, 0, none⟩), .int .u32 f, .int .u32 r, .agg #[.int .u32 hm, .int .u16 hv, .int .u8 ho, .int .u8 hp, .int .u32 hd, .int .u32 hr, .int .u32 hb, nb]] w fun e w' => e = .returned (.tuple #[.slice none 0 0, .int .i64 45]) ∧ Below w.heap.size w w' := by
  have hlt : B < w.heap.size := k.lt
  have K := Lib.hid k
  have Hnet := Lib.hid hnet
  have Hpe := Lib.hid hpe
  have Hst := Lib.hid hst
  clear k hnet hpe hst
  go_enter Try.func35, Try.ntmps35
  go_upto_region 1 with fail
  obtain ⟨W0, hW0⟩ : ∃ W0, W0 = w.alloc (.cells #[.int .u32 hm, .int .u16 hv, .int .u8 ho, .int .u8 hp, .int .u32 hd, .int .u32 hr, .int .u32 hb, nb] 90) := ⟨_, rfl⟩
  have K0 : Hid (Blk W0 B 119 (lks c st dr bd wt nx po re (.slice none 0 0))) := Lib.hid (by rw [hW0]; exact K.out.alloc _)
  have H0 : Hid (Blk W0 w.heap.size 90 #[.int .u32 hm, .int .u16 hv, .int .u8 ho, .int .u8 hp, .int .u32 hd, .int .u32 hr, .int .u32 hb, nb]) := Lib.hid (by rw [hW0]; exact Blk.new w _ _)
  have B0 : Hid (Below w.heap.size w W0) := Lib.hid (by rw [hW0]; exact (Below.refl _ w).alloc (Nat.le_refl _) _)
  rw [← hW0]
  clear hW0
  have r0 : W0.cell? ⟨w.heap.size, 0, none⟩ = some (.int .u32 hm) := H0.out.cell 0
  have r1 : W0.cell? ⟨w.heap.size, 1, none⟩ = some (.int .u16 hv) := H0.out.cell 1
  have r2 : W0.cell? ⟨w.heap.size, 2, none⟩ = some (.int .u8 ho) := H0.out.cell 2
  have r3 : W0.cell? ⟨w.heap.size, 3, none⟩ = some (.int .u8 hp) := H0.out.cell 3
  have r4 : W0.cell? ⟨w.heap.size, 4, none⟩ = some (.int .u32 hd) := H0.out.cell 4
  have r5 : W0.cell? ⟨w.heap.size, 5, none⟩ = some (.int .u32 hr) := H0.out.cell 5
  have r6 : W0.cell? ⟨w.heap.size, 6, none⟩ = some (.int .u32 hb) := H0.out.cell 6
  have r7 : W0.cell? ⟨w.heap.size, 7, none⟩ = some nb := H0.out.cell 7
  go_wp2_with (go_at_call 67; refine (none_lk _ _ _ K0.out rfl).mono ?_; rintro e w' ⟨rfl, rfl⟩)
  refine (may_quiet _ B c st dr bd wt nx po re f r hm hv ho hp hd hr hb nb K0.out Hst.out hn0 hn1 Hnet.out Hpe.out).mono ?_
  rintro e w1 ⟨rfl, hb1⟩
  clear r0 r1 r2 r3 r4 r5 r6 r7
  go_wp2_with fail
  refine bodyPost_ret (v := .tuple #[.slice none 0 0, .int .i64 45]) (by simp [results, Try.results35, go_sem]) rfl ⟨rfl, B0.out.trans (hb1.mono B0.out.size)⟩

set_option maxHeartbeats 400000 in
theorem up_passive (w : World) (B N : Nat) (c : LC) (k : Blk w B 119 (lks c 0 0 0 0 0 0 0 (.slice none 0 0))) (hN : N ≤ B) (hps : c.ps = true) : Calls Try.prog 33 #[.pointer (some ⟨B, 0, none⟩)] w fun e w' => e = .returned (.slice none 0 0) ∧ Blk w' B 119 (lks c 1 0 0 0 0 0 0 (.slice none 0 0)) ∧ Below N w w' := by
  have K := Lib.hid k
  have c12 : w.cell? ⟨B, 12, none⟩ = some (.bool true) := (k.cell 12).trans (by rw [← hps]; rfl)
  have c15 : w.cell? ⟨B, 15, none⟩ = some (.int .u8 0) := k.cell 15
  have fz := k.frozen
  clear k
  go_enter Try.func33, Try.ntmps33
  go_wp2_with (go_at_call 67; refine (none_lk _ _ _ K.out rfl).mono ?_; rintro e w' ⟨rfl, rfl⟩)
  go_ret
  exact ⟨rfl, K.out.set_ 15 _, (Below.refl _ w).setCell (p := ⟨B, 15, none⟩) hN _⟩
end Go.Proofs.Ytgbmhijgpdgdbaa

namespace Go.Proofs.Ytgbmhijgpdgdbaa
open Go.RowKit

theorem PeersAt.later {w w' : World} {N : Nat} {v : Value} {L : List (Int × Int)} (h : PeersAt w w.heap.size v L) (hb : Below w.heap.size w w') (hN : w.heap.size ≤ N) : PeersAt w' N v L := by
  obtain ⟨A, cap, e, hr⟩ := h
  exact ⟨A, cap, e, (hr.below hb).more hN⟩

theorem net_ok {c : LC} {L : List (Int × Int)} (hm : MayOk c L) (hna : WdOk c.na) (hn0 : 0 ≤ c.nb) : bits .and .u32 c.na (maskN c.nb.toNat) = c.na := by
  by_cases ht : c.ty = 4
  · obtain ⟨a1, a2, _⟩ := hm.vi ht
    rw [a1, a2]
    decide
  · exact and_of_andNot hna.v0 hna.v1 (by have := hm.nb; omega) (hm.ot ht).2.2.1

theorem MayOk.with_ {c : LC} {L : List (Int × Int)} (h : MayOk c L) (v : Value) : MayOk (c.with v) L := ⟨h.ty, h.ro, h.hi, h.dd, h.po, h.nb, h.vi, h.ot⟩

def UpQ (B N : Nat) (c : LC) (w : World) (e : Ending) (w' : World) : Prop := ∃ v st dr bd wt nx po l, e = .returned v ∧ (st : Int) ≠ 0 ∧ (∃ A n k, l = .slice A n k) ∧ Blk w' B 119 (lks c st dr bd wt nx po 0 l) ∧ Below N w w'

def QCells (s0 s1 sf sr hm hv ho hp hd hr hb : Int) (GA : Option Addr) (gn gc : Nat) : Array Value := #[.int .i64 s0, .int .i64 s1, .int .u32 sf, .int .u32 sr, .int .u32 hm, .int .u16 hv, .int .u8 ho, .int .u8 hp, .int .u32 hd, .int .u32 hr, .int .u32 hb, .slice GA gn gc]

set_option maxHeartbeats 8000000 in
set_option maxRecDepth 20000 in
theorem lawLinkQuiet_of (hup : ∀ (w : World) (B N : Nat) (c : LC) (L : List (Int × Int)), N ≤ B → 0 ≤ c.nb → c.ps = false → MayOk c L → PeersAt w w.heap.size c.pe L → (∀ ad n k, c.pe = .slice (some ad) n k → ad.block ≠ B) → Blk w B 119 (lks c 0 0 0 0 0 0 0 (.slice none 0 0)) → Calls Try.prog 33 #[.pointer (some ⟨B, 0, none⟩)] w fun e w' => UpQ B N c w e w')
    (w : World) (c : LC) (L : List (Int × Int)) (s0 s1 sf sr hm hv ho hp hd hr hb : Int) (GA : Option Addr) (gn gc : Nat) (hL : PeersAt w w.heap.size c.pe L) (hn0 : 0 ≤ c.nb) (had : WdOk c.ad) (hna : WdOk c.na) (hwd : ∀ p ∈ L, WdOk p.1) :
    Calls Try.prog 7 #[.agg c.cells, .agg (QCells s0 s1 sf sr hm hv ho hp hd hr hb GA gn gc)] w fun e w' => e = .returned (.bool true) ∧ Below w.heap.size w w' := by
  have HUp := Lib.hid hup
  have HW := Lib.hid works13_any
  have HL := Lib.hid hL
  have HMay := Lib.hid rmay_any
  obtain ⟨A, cap, hpe, -⟩ := hL
  have HPE := Lib.hid hpe
  clear hup hpe
  unfold LC.cells QCells
  go_enter Try.func7, Try.ntmps7
  go_upto_region 1 with fail
  obtain ⟨W0, hW0⟩ : ∃ W0, W0 = (w.alloc (.cells c.cells 76)).alloc (.cells #[.int .i64 s0, .int .i64 s1, .int .u32 sf, .int .u32 sr, .int .u32 hm, .int .u16 hv, .int .u8 ho, .int .u8 hp, .int .u32 hd, .int .u32 hr, .int .u32 hb, .slice GA gn gc] 96) := ⟨_, rfl⟩
  have K0 : Hid (Blk W0 w.heap.size 76 c.cells) := Lib.hid (by rw [hW0]; exact (Blk.new w _ _).alloc _)
  have S0 : Hid (Blk W0 (w.heap.size + 1) 96 #[.int .i64 s0, .int .i64 s1, .int .u32 sf, .int .u32 sr, .int .u32 hm, .int .u16 hv, .int .u8 ho, .int .u8 hp, .int .u32 hd, .int .u32 hr, .int .u32 hb, .slice GA gn gc]) := Lib.hid (by rw [hW0]; have := Blk.new (w.alloc (.cells c.cells 76)) 96 #[.int .i64 s0, .int .i64 s1, .int .u32 sf, .int .u32 sr, .int .u32 hm, .int .u16 hv, .int .u8 ho, .int .u8 hp, .int .u32 hd, .int .u32 hr, .int .u32 hb, .slice GA gn gc]; rw [World.size_alloc] at this; exact this)
  have B0 : Hid (Below w.heap.size w W0) := Lib.hid (by rw [hW0]; exact ((Below.refl _ w).alloc (Nat.le_refl _) _).alloc (by simp) _)
  unfold LC.cells at hW0
  rw [← hW0]
  clear hW0
  have z0 : W0.cell? ⟨w.heap.size, 0, none⟩ = some (.int .u8 c.ty) := K0.out.cell 0
  have z1 : W0.cell? ⟨w.heap.size, 1, none⟩ = some (.int .u32 c.ro) := K0.out.cell 1
  have z2 : W0.cell? ⟨w.heap.size, 2, none⟩ = some (.int .u32 c.na) := K0.out.cell 2
  have z3 : W0.cell? ⟨w.heap.size, 3, none⟩ = some (.int .u8 c.nb) := K0.out.cell 3
  have z4 : W0.cell? ⟨w.heap.size, 4, none⟩ = some (.int .u32 c.ad) := K0.out.cell 4
  have z5 : W0.cell? ⟨w.heap.size, 5, none⟩ = some (.int .u8 c.op) := K0.out.cell 5
  have z6 : W0.cell? ⟨w.heap.size, 6, none⟩ = some (.int .u16 c.hi) := K0.out.cell 6
  have z7 : W0.cell? ⟨w.heap.size, 7, none⟩ = some (.int .u32 c.dd) := K0.out.cell 7
  have z8 : W0.cell? ⟨w.heap.size, 8, none⟩ = some (.int .u16 c.po) := K0.out.cell 8
  have z9 : W0.cell? ⟨w.heap.size, 9, none⟩ = some (.int .u8 c.pr) := K0.out.cell 9
  have z10 : W0.cell? ⟨w.heap.size, 10, none⟩ = some (.bool c.dm) := K0.out.cell 10
  have z11 : W0.cell? ⟨w.heap.size, 11, none⟩ = some (.bool c.ps) := K0.out.cell 11
  have z12 : W0.cell? ⟨w.heap.size, 12, none⟩ = some (c.pe) := K0.out.cell 12
  have z13 : W0.cell? ⟨w.heap.size, 13, none⟩ = some (.int .u32 c.rm) := K0.out.cell 13
  have y0 : W0.cell? ⟨w.heap.size + 1, 0, none⟩ = some (.int .i64 s0) := S0.out.cell 0
  have y1 : W0.cell? ⟨w.heap.size + 1, 1, none⟩ = some (.int .i64 s1) := S0.out.cell 1
  have y2 : W0.cell? ⟨w.heap.size + 1, 2, none⟩ = some (.int .u32 sf) := S0.out.cell 2
  have y3 : W0.cell? ⟨w.heap.size + 1, 3, none⟩ = some (.int .u32 sr) := S0.out.cell 3
  have y4 : W0.cell? ⟨w.heap.size + 1, 4, none⟩ = some (.int .u32 hm) := S0.out.cell 4
  have y5 : W0.cell? ⟨w.heap.size + 1, 5, none⟩ = some (.int .u16 hv) := S0.out.cell 5
  have y6 : W0.cell? ⟨w.heap.size + 1, 6, none⟩ = some (.int .u8 ho) := S0.out.cell 6
  have y7 : W0.cell? ⟨w.heap.size + 1, 7, none⟩ = some (.int .u8 hp) := S0.out.cell 7
  have y8 : W0.cell? ⟨w.heap.size + 1, 8, none⟩ = some (.int .u32 hd) := S0.out.cell 8
  have y9 : W0.cell? ⟨w.heap.size + 1, 9, none⟩ = some (.int .u32 hr) := S0.out.cell 9
  have y10 : W0.cell? ⟨w.heap.size + 1, 10, none⟩ = some (.int .u32 hb) := S0.out.cell 10
  have y11 : W0.cell? ⟨w.heap.size + 1, 11, none⟩ = some (.slice GA gn gc) := S0.out.cell 11
  go_wp2_with fail
  refine (HMay.out W0 c L (HL.out.later B0.out B0.out.size) hn0).mono ?_
  rintro e w1 ⟨b, rfl, hb1, hbel⟩
  have HB1 := Lib.hid hb1
  have K1 := Lib.hid (K0.out.below hbel K0.out.lt)
  have S1 := Lib.hid (S0.out.below hbel S0.out.lt)
  have B1 := Lib.hid (B0.out.trans (hbel.mono B0.out.size))
  clear hb1 hbel z0 z1 z2 z3 z4 z5 z6 z7 z8 z9 z10 z11 z12 z13 y0 y1 y2 y3 y4 y5 y6 y7 y8 y9 y10 y11
  have z0 : w1.cell? ⟨w.heap.size, 0, none⟩ = some (.int .u8 c.ty) := K1.out.cell 0
  have z1 : w1.cell? ⟨w.heap.size, 1, none⟩ = some (.int .u32 c.ro) := K1.out.cell 1
  have z2 : w1.cell? ⟨w.heap.size, 2, none⟩ = some (.int .u32 c.na) := K1.out.cell 2
  have z3 : w1.cell? ⟨w.heap.size, 3, none⟩ = some (.int .u8 c.nb) := K1.out.cell 3
  have z4 : w1.cell? ⟨w.heap.size, 4, none⟩ = some (.int .u32 c.ad) := K1.out.cell 4
  have z5 : w1.cell? ⟨w.heap.size, 5, none⟩ = some (.int .u8 c.op) := K1.out.cell 5
  have z6 : w1.cell? ⟨w.heap.size, 6, none⟩ = some (.int .u16 c.hi) := K1.out.cell 6
  have z7 : w1.cell? ⟨w.heap.size, 7, none⟩ = some (.int .u32 c.dd) := K1.out.cell 7
  have z8 : w1.cell? ⟨w.heap.size, 8, none⟩ = some (.int .u16 c.po) := K1.out.cell 8
  have z9 : w1.cell? ⟨w.heap.size, 9, none⟩ = some (.int .u8 c.pr) := K1.out.cell 9
  have z10 : w1.cell? ⟨w.heap.size, 10, none⟩ = some (.bool c.dm) := K1.out.cell 10
  have z11 : w1.cell? ⟨w.heap.size, 11, none⟩ = some (.bool c.ps) := K1.out.cell 11
  have z12 : w1.cell? ⟨w.heap.size, 12, none⟩ = some (c.pe) := K1.out.cell 12
  have z13 : w1.cell? ⟨w.heap.size, 13, none⟩ = some (.int .u32 c.rm) := K1.out.cell 13
  have y0 : w1.cell? ⟨w.heap.size + 1, 0, none⟩ = some (.int .i64 s0) := S1.out.cell 0
  have y1 : w1.cell? ⟨w.heap.size + 1, 1, none⟩ = some (.int .i64 s1) := S1.out.cell 1
  have y2 : w1.cell? ⟨w.heap.size + 1, 2, none⟩ = some (.int .u32 sf) := S1.out.cell 2
  have y3 : w1.cell? ⟨w.heap.size + 1, 3, none⟩ = some (.int .u32 sr) := S1.out.cell 3
  have y4 : w1.cell? ⟨w.heap.size + 1, 4, none⟩ = some (.int .u32 hm) := S1.out.cell 4
  have y5 : w1.cell? ⟨w.heap.size + 1, 5, none⟩ = some (.int .u16 hv) := S1.out.cell 5
  have y6 : w1.cell? ⟨w.heap.size + 1, 6, none⟩ = some (.int .u8 ho) := S1.out.cell 6
  have y7 : w1.cell? ⟨w.heap.size + 1, 7, none⟩ = some (.int .u8 hp) := S1.out.cell 7
  have y8 : w1.cell? ⟨w.heap.size + 1, 8, none⟩ = some (.int .u32 hd) := S1.out.cell 8
  have y9 : w1.cell? ⟨w.heap.size + 1, 9, none⟩ = some (.int .u32 hr) := S1.out.cell 9
  have y10 : w1.cell? ⟨w.heap.size + 1, 10, none⟩ = some (.int .u32 hb) := S1.out.cell 10
  have y11 : w1.cell? ⟨w.heap.size + 1, 11, none⟩ = some (.slice GA gn gc) := S1.out.cell 11
  rw [HPE.out] at z12
  cases b with
  | false =>
    go_wp2_with (go_at_call 30; refine (HW.out _).mono ?_; rintro e w2 ⟨rfl, hb2⟩)
    go_ret
    exact ⟨rfl, B1.out.trans (hb2.mono B1.out.size)⟩
  | true =>
    have hmay := HB1.out rfl
    have HM := Lib.hid hmay
    clear hmay
    by_cases h200 : 200 < L.length
    · go_wp2_with (go_at_call 30; refine (HW.out _).mono ?_; rintro e w2 ⟨rfl, hb2⟩)
      go_ret
      exact ⟨rfl, B1.out.trans (hb2.mono B1.out.size)⟩
    by_cases h300 : 300 < gn
    · go_wp2_with (go_at_call 30; refine (HW.out _).mono ?_; rintro e w2 ⟨rfl, hb2⟩)
      go_ret
      exact ⟨rfl, B1.out.trans (hb2.mono B1.out.size)⟩
    go_upto_region 3 with fail
    clear z12
    have z12 : w1.cell? ⟨w.heap.size, 12, none⟩ = some c.pe := K1.out.cell 12
    go_wp2_with fail
    refine (given_any w1 c L (HL.out.later B1.out B1.out.size) (by omega)).mono ?_
    rintro e w2 ⟨v, rfl, hown, hb2⟩
    have B2 := Lib.hid (B1.out.trans (hb2.mono B1.out.size))
    have K2 := Lib.hid (K1.out.below hb2 K1.out.lt)
    have S2 := Lib.hid (S1.out.below hb2 S1.out.lt)
    obtain ⟨A2, cap2, hv⟩ := own_slice hown
    have HP2 : Hid (PeersAt w2 w2.heap.size v L) := Lib.hid ⟨A2, cap2, hv, Reads.of_own (hv ▸ hown)⟩
    clear hown hb2 hv z0 z1 z2 z3 z4 z5 z6 z7 z8 z9 z10 z11 z12 z13 y0 y1 y2 y3 y4 y5 y6 y7 y8 y9 y10 y11
    go_wp2_with fail
    refine (new_any w2 (c.with v) L HP2.out (by omega) (HM.out.with_ v) had hna hwd hn0).mono ?_
    rintro e w3 ⟨B, v2, rfl, hBl, kB, hO, hb3⟩
    obtain ⟨c2, hc2⟩ : ∃ c2 : LC, c2 = { c.with v with pe := v2 } := ⟨_, rfl⟩
    have M2 : Hid (MayOk c2 L) := Lib.hid (by rw [hc2]; exact HM.out.with_ v2)
    have hps2 : c2.ps = c.ps := by rw [hc2]; rfl
    have hnb2 : 0 ≤ c2.nb := by rw [hc2]; exact hn0
    have hna2 : WdOk c2.na := by rw [hc2]; exact hna
    have hpe2 : c2.pe = v2 := by rw [hc2]
    have hnet : Hid (bits .and .u32 c2.na (maskN c2.nb.toNat) = c2.na) := Lib.hid (net_ok M2.out hna2 hnb2)
    rw [← hc2] at kB
    obtain ⟨A3, cap3, hv2⟩ := own_slice hO
    have P3 : Hid (PeersAt w3 w3.heap.size c2.pe L) := Lib.hid (by rw [hpe2]; exact ⟨A3, cap3, hv2, Reads.of_own (hv2 ▸ hO)⟩)
    have E3 : Hid (∃ A n k, c2.pe = .slice A n k) := Lib.hid (by rw [hpe2]; exact ⟨_, _, _, hv2⟩)
    have N3 : Hid (∀ ad n k, c2.pe = .slice (some ad) n k → ad.block ≠ B) := Lib.hid (fun ad n k e => by
      rw [hpe2] at e
      obtain ⟨_, cs, hc⟩ := own_cells hO ad.block (by rw [e]; rfl)
      exact Blk.ne_ (t := 136) (cs := cs) hc kB (by decide))
    have hnb3 : c2.nb ≤ 32 := M2.out.nb
    have L3 := Lib.hid kB
    have B3 := Lib.hid (B2.out.trans (hb3.mono B2.out.size))
    have K3 := Lib.hid (K2.out.below hb3 K2.out.lt)
    have S3 := Lib.hid (S2.out.below hb3 S2.out.lt)
    have hwB : w.heap.size ≤ B := Nat.le_trans B2.out.size hBl
    have hwB2 : w.heap.size + 1 < B := by have := S2.out.lt; omega
    have HPs := Lib.hid hps2
    clear hO hb3 hBl kB hc2 hv2 hpe2 hps2
    have z0 : w3.cell? ⟨w.heap.size, 0, none⟩ = some (.int .u8 c.ty) := K3.out.cell 0
    have z1 : w3.cell? ⟨w.heap.size, 1, none⟩ = some (.int .u32 c.ro) := K3.out.cell 1
    have z2 : w3.cell? ⟨w.heap.size, 2, none⟩ = some (.int .u32 c.na) := K3.out.cell 2
    have z3 : w3.cell? ⟨w.heap.size, 3, none⟩ = some (.int .u8 c.nb) := K3.out.cell 3
    have z4 : w3.cell? ⟨w.heap.size, 4, none⟩ = some (.int .u32 c.ad) := K3.out.cell 4
    have z5 : w3.cell? ⟨w.heap.size, 5, none⟩ = some (.int .u8 c.op) := K3.out.cell 5
    have z6 : w3.cell? ⟨w.heap.size, 6, none⟩ = some (.int .u16 c.hi) := K3.out.cell 6
    have z7 : w3.cell? ⟨w.heap.size, 7, none⟩ = some (.int .u32 c.dd) := K3.out.cell 7
    have z8 : w3.cell? ⟨w.heap.size, 8, none⟩ = some (.int .u16 c.po) := K3.out.cell 8
    have z9 : w3.cell? ⟨w.heap.size, 9, none⟩ = some (.int .u8 c.pr) := K3.out.cell 9
    have z10 : w3.cell? ⟨w.heap.size, 10, none⟩ = some (.bool c.dm) := K3.out.cell 10
    have z11 : w3.cell? ⟨w.heap.size, 11, none⟩ = some (.bool c.ps) := K3.out.cell 11
    have z12 : w3.cell? ⟨w.heap.size, 12, none⟩ = some (c.pe) := K3.out.cell 12
    have z13 : w3.cell? ⟨w.heap.size, 13, none⟩ = some (.int .u32 c.rm) := K3.out.cell 13
    have y0 : w3.cell? ⟨w.heap.size + 1, 0, none⟩ = some (.int .i64 s0) := S3.out.cell 0
    have y1 : w3.cell? ⟨w.heap.size + 1, 1, none⟩ = some (.int .i64 s1) := S3.out.cell 1
    have y2 : w3.cell? ⟨w.heap.size + 1, 2, none⟩ = some (.int .u32 sf) := S3.out.cell 2
    have y3 : w3.cell? ⟨w.heap.size + 1, 3, none⟩ = some (.int .u32 sr) := S3.out.cell 3
    have y4 : w3.cell? ⟨w.heap.size + 1, 4, none⟩ = some (.int .u32 hm) := S3.out.cell 4
    have y5 : w3.cell? ⟨w.heap.size + 1, 5, none⟩ = some (.int .u16 hv) := S3.out.cell 5
    have y6 : w3.cell? ⟨w.heap.size + 1, 6, none⟩ = some (.int .u8 ho) := S3.out.cell 6
    have y7 : w3.cell? ⟨w.heap.size + 1, 7, none⟩ = some (.int .u8 hp) := S3.out.cell 7
    have y8 : w3.cell? ⟨w.heap.size + 1, 8, none⟩ = some (.int .u32 hd) := S3.out.cell 8
    have y9 : w3.cell? ⟨w.heap.size + 1, 9, none⟩ = some (.int .u32 hr) := S3.out.cell 9
    have y10 : w3.cell? ⟨w.heap.size + 1, 10, none⟩ = some (.int .u32 hb) := S3.out.cell 10
    have y11 : w3.cell? ⟨w.heap.size + 1, 11, none⟩ = some (.slice GA gn gc) := S3.out.cell 11
    go_wp2_with fail
    go_loopw [7] (fun x wr => ∃ i : Int, 0 ≤ i ∧ i ≤ 60 ∧ x = .int .i64 i ∧ wr = w3) (fun x _ => (60 - intOf x).toNat)
    case atStart => exact ⟨0, by omega, by omega, rfl, rfl⟩
    case round =>
      obtain ⟨i, hi0, hi6, rfl, rfl⟩ := hrel
      by_cases hA : i < s1 ∧ i < 60
      · obtain ⟨hA1, hA2⟩ := hA
        go_wp2_with (go_at_call 36; refine (tick_quiet _ B c2 0 0 0 0 0 0 0 _ L3.out (.inl rfl)).mono ?_; rintro e w' ⟨rfl, rfl⟩)
        go_roundw
        case rel => exact ⟨i + 1, by omega, by omega, by simp, trivial⟩
        case measure => simp [intOf]; omega
      · have hN2 : w.heap.size + 2 ≤ B := by omega
        have hN3 : w.heap.size ≤ w.heap.size + 2 := by omega
        have hex : (¬ i < s1) ∨ (i < s1 ∧ ¬ i < 60) := by omega
        clear hA
        rcases hex with hA1 | ⟨hA1, hA2⟩
        all_goals
          go_wp2_with fail
          refine (hear_quiet _ B c2 0 0 0 0 0 0 0 sf sr hm hv ho hp hd hr hb _ L3.out (.inl rfl) hnb2 hnb3 hnet.out E3.out).mono ?_
          rintro e w4 ⟨rfl, hb4⟩
          have L4 := Lib.hid (L3.out.below hb4 L3.out.lt)
          have K4 := Lib.hid (K3.out.below hb4 K3.out.lt)
          have S4 := Lib.hid (S3.out.below hb4 S3.out.lt)
          have P4 := Lib.hid (P3.out.later hb4 hb4.size)
          have B4 := Lib.hid (B3.out.trans (hb4.mono B3.out.size))
          clear hb4 z0 z1 z2 z3 z4 z5 z6 z7 z8 z9 z10 z11 z12 z13 y0 y1 y2 y3 y4 y5 y6 y7 y8 y9 y10 y11
          have z0 : w4.cell? ⟨w.heap.size, 0, none⟩ = some (.int .u8 c.ty) := K4.out.cell 0
          have z1 : w4.cell? ⟨w.heap.size, 1, none⟩ = some (.int .u32 c.ro) := K4.out.cell 1
          have z2 : w4.cell? ⟨w.heap.size, 2, none⟩ = some (.int .u32 c.na) := K4.out.cell 2
          have z3 : w4.cell? ⟨w.heap.size, 3, none⟩ = some (.int .u8 c.nb) := K4.out.cell 3
          have z4 : w4.cell? ⟨w.heap.size, 4, none⟩ = some (.int .u32 c.ad) := K4.out.cell 4
          have z5 : w4.cell? ⟨w.heap.size, 5, none⟩ = some (.int .u8 c.op) := K4.out.cell 5
          have z6 : w4.cell? ⟨w.heap.size, 6, none⟩ = some (.int .u16 c.hi) := K4.out.cell 6
          have z7 : w4.cell? ⟨w.heap.size, 7, none⟩ = some (.int .u32 c.dd) := K4.out.cell 7
          have z8 : w4.cell? ⟨w.heap.size, 8, none⟩ = some (.int .u16 c.po) := K4.out.cell 8
          have z9 : w4.cell? ⟨w.heap.size, 9, none⟩ = some (.int .u8 c.pr) := K4.out.cell 9
          have z10 : w4.cell? ⟨w.heap.size, 10, none⟩ = some (.bool c.dm) := K4.out.cell 10
          have z11 : w4.cell? ⟨w.heap.size, 11, none⟩ = some (.bool c.ps) := K4.out.cell 11
          have z12 : w4.cell? ⟨w.heap.size, 12, none⟩ = some (c.pe) := K4.out.cell 12
          have z13 : w4.cell? ⟨w.heap.size, 13, none⟩ = some (.int .u32 c.rm) := K4.out.cell 13
          have y0 : w4.cell? ⟨w.heap.size + 1, 0, none⟩ = some (.int .i64 s0) := S4.out.cell 0
          have y1 : w4.cell? ⟨w.heap.size + 1, 1, none⟩ = some (.int .i64 s1) := S4.out.cell 1
          have y2 : w4.cell? ⟨w.heap.size + 1, 2, none⟩ = some (.int .u32 sf) := S4.out.cell 2
          have y3 : w4.cell? ⟨w.heap.size + 1, 3, none⟩ = some (.int .u32 sr) := S4.out.cell 3
          have y4 : w4.cell? ⟨w.heap.size + 1, 4, none⟩ = some (.int .u32 hm) := S4.out.cell 4
          have y5 : w4.cell? ⟨w.heap.size + 1, 5, none⟩ = some (.int .u16 hv) := S4.out.cell 5
          have y6 : w4.cell? ⟨w.heap.size + 1, 6, none⟩ = some (.int .u8 ho) := S4.out.cell 6
          have y7 : w4.cell? ⟨w.heap.size + 1, 7, none⟩ = some (.int .u8 hp) := S4.out.cell 7
          have y8 : w4.cell? ⟨w.heap.size + 1, 8, none⟩ = some (.int .u32 hd) := S4.out.cell 8
          have y9 : w4.cell? ⟨w.heap.size + 1, 9, none⟩ = some (.int .u32 hr) := S4.out.cell 9
          have y10 : w4.cell? ⟨w.heap.size + 1, 10, none⟩ = some (.int .u32 hb) := S4.out.cell 10
          have y11 : w4.cell? ⟨w.heap.size + 1, 11, none⟩ = some (.slice GA gn gc) := S4.out.cell 11
          cases hcp : c.ps with
          | true =>
            rw [hcp] at z11
            go_wp2_with (go_at_call 38; refine (neighbours_nil _ B c2 0 0 0 0 0 0 0 L4.out).mono ?_; rintro e w' ⟨rfl, rfl⟩)
            refine (up_passive _ B (w.heap.size + 2) c2 L4.out hN2 (HPs.out.trans hcp)).mono ?_
            rintro e w5 ⟨rfl, l5, hb5⟩
            have L5 := Lib.hid l5
            have K5 := Lib.hid (K4.out.below hb5 (by omega))
            have S5 := Lib.hid (S4.out.below hb5 (by omega))
            have B5 := Lib.hid (B4.out.trans (hb5.mono hN3))
            clear l5 hb5 z0 z1 z2 z3 z4 z5 z6 z7 z8 z9 z10 z11 z12 z13 y0 y1 y2 y3 y4 y5 y6 y7 y8 y9 y10 y11
            have z0 : w5.cell? ⟨w.heap.size, 0, none⟩ = some (.int .u8 c.ty) := K5.out.cell 0
            have z1 : w5.cell? ⟨w.heap.size, 1, none⟩ = some (.int .u32 c.ro) := K5.out.cell 1
            have z2 : w5.cell? ⟨w.heap.size, 2, none⟩ = some (.int .u32 c.na) := K5.out.cell 2
            have z3 : w5.cell? ⟨w.heap.size, 3, none⟩ = some (.int .u8 c.nb) := K5.out.cell 3
            have z4 : w5.cell? ⟨w.heap.size, 4, none⟩ = some (.int .u32 c.ad) := K5.out.cell 4
            have z5 : w5.cell? ⟨w.heap.size, 5, none⟩ = some (.int .u8 c.op) := K5.out.cell 5
            have z6 : w5.cell? ⟨w.heap.size, 6, none⟩ = some (.int .u16 c.hi) := K5.out.cell 6
            have z7 : w5.cell? ⟨w.heap.size, 7, none⟩ = some (.int .u32 c.dd) := K5.out.cell 7
            have z8 : w5.cell? ⟨w.heap.size, 8, none⟩ = some (.int .u16 c.po) := K5.out.cell 8
            have z9 : w5.cell? ⟨w.heap.size, 9, none⟩ = some (.int .u8 c.pr) := K5.out.cell 9
            have z10 : w5.cell? ⟨w.heap.size, 10, none⟩ = some (.bool c.dm) := K5.out.cell 10
            have z11 : w5.cell? ⟨w.heap.size, 11, none⟩ = some (.bool c.ps) := K5.out.cell 11
            have z12 : w5.cell? ⟨w.heap.size, 12, none⟩ = some (c.pe) := K5.out.cell 12
            have z13 : w5.cell? ⟨w.heap.size, 13, none⟩ = some (.int .u32 c.rm) := K5.out.cell 13
            have y0 : w5.cell? ⟨w.heap.size + 1, 0, none⟩ = some (.int .i64 s0) := S5.out.cell 0
            have y1 : w5.cell? ⟨w.heap.size + 1, 1, none⟩ = some (.int .i64 s1) := S5.out.cell 1
            have y2 : w5.cell? ⟨w.heap.size + 1, 2, none⟩ = some (.int .u32 sf) := S5.out.cell 2
            have y3 : w5.cell? ⟨w.heap.size + 1, 3, none⟩ = some (.int .u32 sr) := S5.out.cell 3
            have y4 : w5.cell? ⟨w.heap.size + 1, 4, none⟩ = some (.int .u32 hm) := S5.out.cell 4
            have y5 : w5.cell? ⟨w.heap.size + 1, 5, none⟩ = some (.int .u16 hv) := S5.out.cell 5
            have y6 : w5.cell? ⟨w.heap.size + 1, 6, none⟩ = some (.int .u8 ho) := S5.out.cell 6
            have y7 : w5.cell? ⟨w.heap.size + 1, 7, none⟩ = some (.int .u8 hp) := S5.out.cell 7
            have y8 : w5.cell? ⟨w.heap.size + 1, 8, none⟩ = some (.int .u32 hd) := S5.out.cell 8
            have y9 : w5.cell? ⟨w.heap.size + 1, 9, none⟩ = some (.int .u32 hr) := S5.out.cell 9
            have y10 : w5.cell? ⟨w.heap.size + 1, 10, none⟩ = some (.int .u32 hb) := S5.out.cell 10
            have y11 : w5.cell? ⟨w.heap.size + 1, 11, none⟩ = some (.slice GA gn gc) := S5.out.cell 11
            go_wp2_with fail
            refine (hear_quiet _ B c2 1 0 0 0 0 0 0 sf sr hm hv ho hp hd hr hb _ L5.out (.inr rfl) hnb2 hnb3 hnet.out E3.out).mono ?_
            rintro e w6 ⟨rfl, hb6⟩
            have L6 := Lib.hid (L5.out.below hb6 L5.out.lt)
            have B6 := Lib.hid (B5.out.trans (hb6.mono B5.out.size))
            clear hb6 z0 z1 z2 z3 z4 z5 z6 z7 z8 z9 z10 z11 z12 z13 y0 y1 y2 y3 y4 y5 y6 y7 y8 y9 y10 y11
            go_wp2_with (first
              | (go_at_call 39; refine (state_lk _ B _ 1 L6.out rfl rfl).mono ?_; rintro e w' ⟨rfl, rfl⟩)
              | (go_at_call 36; refine (tick_quiet _ B c2 1 0 0 0 0 0 0 _ L6.out (.inr rfl)).mono ?_; rintro e w' ⟨rfl, rfl⟩)
              | (go_at_call 30; refine (HW.out _).mono ?_; rintro e w7 ⟨rfl, hb7⟩))
            go_ret
            exact ⟨rfl, B6.out.trans (hb7.mono B6.out.size)⟩
          | false =>
            rw [hcp] at z11
            go_wp2_with (go_at_call 38; refine (neighbours_nil _ B c2 0 0 0 0 0 0 0 L4.out).mono ?_; rintro e w' ⟨rfl, rfl⟩)
            refine (HUp.out _ B (w.heap.size + 2) c2 L hN2 hnb2 (HPs.out.trans hcp) M2.out P4.out N3.out L4.out).mono ?_
            rintro e w5 ⟨v5, st, dr, bd, wt, nx, po, l, rfl, hst, hl, l5, hb5⟩
            have e_st : (st == 0) = false := by simpa using hst
            have n_st : (st != 0) = true := by simpa using hst
            have L5 := Lib.hid l5
            have B5 := Lib.hid (B4.out.trans (hb5.mono hN3))
            clear l5 hb5 z0 z1 z2 z3 z4 z5 z6 z7 z8 z9 z10 z11 z12 z13 y0 y1 y2 y3 y4 y5 y6 y7 y8 y9 y10 y11
            go_wp2_with (go_at_call 39; refine (state_lk _ B _ st L5.out rfl rfl).mono ?_; rintro e w' ⟨rfl, rfl⟩)
            refine (down_any _ B w.heap.size c2 st dr bd wt nx po 0 l hl E3.out hwB L5.out).mono ?_
            rintro e w6 ⟨rfl, l6, hb6⟩
            have L6 := Lib.hid l6
            have B6 := Lib.hid (B5.out.trans hb6)
            clear l6 hb6
            go_wp2_with (first
              | (go_at_call 39; refine (state_lk _ B _ 0 L6.out rfl rfl).mono ?_; rintro e w' ⟨rfl, rfl⟩)
              | (go_at_call 36; refine (tick_quiet _ B c2 0 0 0 0 0 0 0 _ L6.out (.inl rfl)).mono ?_; rintro e w' ⟨rfl, rfl⟩)
              | (go_at_call 30; refine (HW.out _).mono ?_; rintro e w7 ⟨rfl, hb7⟩))
            go_ret
            exact ⟨by simp, B6.out.trans (hb7.mono B6.out.size)⟩
end Go.Proofs.Ytgbmhijgpdgdbaa
