/- The statement LinkLost, walked. -/
import Derived.Test.YtgbmhijgpdgdbaaLostUp
namespace Go.Proofs.Ytgbmhijgpdgdbaa
open Go.RowKit

theorem made_two (W : World) (S H : Array Value) (ts th : TypeId) : Blk ((W.alloc (.cells S ts)).alloc (.cells H th)).drew W.heap.size ts S ∧ Blk ((W.alloc (.cells S ts)).alloc (.cells H th)).drew (W.heap.size + 1) th H ∧ Below W.heap.size W ((W.alloc (.cells S ts)).alloc (.cells H th)).drew := by
  refine ⟨((Blk.new W ts S).alloc _).drew, ?_, (((Below.refl _ W).alloc (Nat.le_refl _) _).alloc (by simp) _).drew⟩
  have := (Blk.new (W.alloc (.cells S ts)) th H).drew
  rw [World.size_alloc] at this
  exact this

def LostPost (w : World) (e : Ending) (w' : World) : Prop := e = .returned (.bool true) ∧ Below w.heap.size w w'

def LostIn (lo B : Nat) (c : LC) (As : List Int) (i : Nat) (f r : Int) (Ls : List (Int × Int)) (m : Int) (w0 w : World) : Prop := LFr lo w0 w ∧ SInv lo B c As i f r Ls m w

set_option maxHeartbeats 8000000 in
set_option maxRecDepth 20000 in
theorem lawLinkLost_any (w : World) (c : LC) (L : List (Int × Int)) (f ag : Int) (hag : 0 ≤ ag ∧ ag < 256) (hL : PeersAt w w.heap.size c.pe L) (hn0 : 0 ≤ c.nb) (had : WdOk c.ad) (hna : WdOk c.na) (hdw : WdOk c.dd) (hwd : ∀ p ∈ L, WdOk p.1) :
    Calls Try.prog 6 #[.agg c.cells, .int .u32 f, .int .u8 ag] w fun e w' => LostPost w e w' := by
  have HW := Lib.hid works13_any
  have HL := Lib.hid hL
  have HMay := Lib.hid rmay_any
  have HAg := Lib.hid hag
  have HDw := Lib.hid hdw
  obtain ⟨A, cap, hpe, -⟩ := hL
  have HPE := Lib.hid hpe
  clear hpe hag hdw
  unfold LC.cells
  go_enter Try.func6, Try.ntmps6
  go_upto_region 1 with fail
  obtain ⟨W0, hW0⟩ : ∃ W0, W0 = w.alloc (.cells c.cells 76) := ⟨_, rfl⟩
  have K0 : Hid (Blk W0 w.heap.size 76 c.cells) := Lib.hid (by rw [hW0]; exact Blk.new w _ _)
  have B0 : Hid (Below w.heap.size w W0) := Lib.hid (by rw [hW0]; exact (Below.refl _ w).alloc (Nat.le_refl _) _)
  unfold LC.cells at hW0
  rw [← hW0]
  clear hW0
  have z0 : W0.cell? ⟨w.heap.size, 0, none⟩ = some (.int .u8 c.ty) := K0.out.cell 0
  have z1 : W0.cell? ⟨w.heap.size, 1, none⟩ = some (.int .u32 c.ro) := K0.out.cell 1
  have z2 : W0.cell? ⟨w.heap.size, 2, none⟩ = some (.int .u32 c.na) := K0.out.cell 2
  have z3 : W0.cell? ⟨w.heap.size, 3, none⟩ = some (.int .u8 c.nb) := K0.out.cell 3
  have z4 : W0.cell? ⟨w.heap.size, 4, none⟩ = some (.int .u32 c.ad) := K0.out.cell 4
  have z5 : W0.cell? ⟨w.heap.size, 5, none⟩ = some (.int .u8 c.op) := K0.out.cell 5
  have z6 : W0.cell? ⟨w.heap.size, 6, none⟩ = some (.int .u16 c.hi) := K0.out.cell 6
  have z7 : W0.cell? ⟨w.heap.size, 7, none⟩ = some (.int .u32 c.dd) := K0.out.cell 7
  have z8 : W0.cell? ⟨w.heap.size, 8, none⟩ = some (.int .u16 c.po) := K0.out.cell 8
  have z9 : W0.cell? ⟨w.heap.size, 9, none⟩ = some (.int .u8 c.pr) := K0.out.cell 9
  have z10 : W0.cell? ⟨w.heap.size, 10, none⟩ = some (.bool c.dm) := K0.out.cell 10
  have z11 : W0.cell? ⟨w.heap.size, 11, none⟩ = some (.bool c.ps) := K0.out.cell 11
  have z12 : W0.cell? ⟨w.heap.size, 12, none⟩ = some (c.pe) := K0.out.cell 12
  have z13 : W0.cell? ⟨w.heap.size, 13, none⟩ = some (.int .u32 c.rm) := K0.out.cell 13
  go_wp2_with fail
  refine (HMay.out W0 c L (HL.out.later B0.out B0.out.size) hn0).mono ?_
  rintro e w1 ⟨b, rfl, hb1, hbel⟩
  have HB1 := Lib.hid hb1
  have K1 := Lib.hid (K0.out.below hbel K0.out.lt)
  have B1 := Lib.hid (B0.out.trans (hbel.mono B0.out.size))
  clear hb1 hbel z0 z1 z2 z3 z4 z5 z6 z7 z8 z9 z10 z11 z12 z13
  have z0 : w1.cell? ⟨w.heap.size, 0, none⟩ = some (.int .u8 c.ty) := K1.out.cell 0
  have z1 : w1.cell? ⟨w.heap.size, 1, none⟩ = some (.int .u32 c.ro) := K1.out.cell 1
  have z2 : w1.cell? ⟨w.heap.size, 2, none⟩ = some (.int .u32 c.na) := K1.out.cell 2
  have z3 : w1.cell? ⟨w.heap.size, 3, none⟩ = some (.int .u8 c.nb) := K1.out.cell 3
  have z4 : w1.cell? ⟨w.heap.size, 4, none⟩ = some (.int .u32 c.ad) := K1.out.cell 4
  have z5 : w1.cell? ⟨w.heap.size, 5, none⟩ = some (.int .u8 c.op) := K1.out.cell 5
  have z6 : w1.cell? ⟨w.heap.size, 6, none⟩ = some (.int .u16 c.hi) := K1.out.cell 6
  have z7 : w1.cell? ⟨w.heap.size, 7, none⟩ = some (.int .u32 c.dd) := K1.out.cell 7
  have z8 : w1.cell? ⟨w.heap.size, 8, none⟩ = some (.int .u16 c.po) := K1.out.cell 8
  have z9 : w1.cell? ⟨w.heap.size, 9, none⟩ = some (.int .u8 c.pr) := K1.out.cell 9
  have z10 : w1.cell? ⟨w.heap.size, 10, none⟩ = some (.bool c.dm) := K1.out.cell 10
  have z11 : w1.cell? ⟨w.heap.size, 11, none⟩ = some (.bool c.ps) := K1.out.cell 11
  have z12 : w1.cell? ⟨w.heap.size, 12, none⟩ = some (c.pe) := K1.out.cell 12
  have z13 : w1.cell? ⟨w.heap.size, 13, none⟩ = some (.int .u32 c.rm) := K1.out.cell 13
  rw [HPE.out] at z12
  cases b with
  | false =>
    go_wp2_with (go_at_call 30; refine (HW.out _).mono ?_; rintro e w9 ⟨rfl, hb9⟩)
    go_ret
    exact ⟨rfl, B1.out.trans (hb9.mono B1.out.size)⟩
  | true =>
    have hmay := HB1.out rfl
    have HM := Lib.hid hmay
    clear hmay
    by_cases h200 : 200 < L.length
    · go_wp2_with (go_at_call 30; refine (HW.out _).mono ?_; rintro e w9 ⟨rfl, hb9⟩)
      go_ret
      exact ⟨rfl, B1.out.trans (hb9.mono B1.out.size)⟩
    by_cases h150 : 150 < c.dd
    · go_wp2_with (go_at_call 30; refine (HW.out _).mono ?_; rintro e w9 ⟨rfl, hb9⟩)
      go_ret
      exact ⟨rfl, B1.out.trans (hb9.mono B1.out.size)⟩
    rcases Bool.eq_false_or_eq_true c.ps with hps | hps
    · rw [hps] at z11
      go_wp2_with (go_at_call 30; refine (HW.out _).mono ?_; rintro e w9 ⟨rfl, hb9⟩)
      go_ret
      exact ⟨rfl, B1.out.trans (hb9.mono B1.out.size)⟩
    rcases Bool.eq_false_or_eq_true c.dm with hdm | hdm
    · rw [hdm] at z10
      rw [hps] at z11
      go_wp2_with (go_at_call 30; refine (HW.out _).mono ?_; rintro e w9 ⟨rfl, hb9⟩)
      go_ret
      exact ⟨rfl, B1.out.trans (hb9.mono B1.out.size)⟩
    have HPs := Lib.hid hps
    have HDm := Lib.hid hdm
    rw [hdm] at z10
    rw [hps] at z11
    clear hps hdm
    go_upto_region 3 with fail
    clear z12 z10 z11
    have z10 : w1.cell? ⟨w.heap.size, 10, none⟩ = some (.bool c.dm) := K1.out.cell 10
    have z11 : w1.cell? ⟨w.heap.size, 11, none⟩ = some (.bool c.ps) := K1.out.cell 11
    have z12 : w1.cell? ⟨w.heap.size, 12, none⟩ = some c.pe := K1.out.cell 12
    go_wp2_with fail
    refine (given_any w1 c L (HL.out.later B1.out B1.out.size) (by omega)).mono ?_
    rintro e w2 ⟨v, rfl, hown, hb2⟩
    have B2 := Lib.hid (B1.out.trans (hb2.mono B1.out.size))
    have K2 := Lib.hid (K1.out.below hb2 K1.out.lt)
    obtain ⟨A2, cap2, hv⟩ := own_slice hown
    have HP2 : Hid (PeersAt w2 w2.heap.size v L) := Lib.hid ⟨A2, cap2, hv, Reads.of_own (hv ▸ hown)⟩
    clear hown hb2 hv z0 z1 z2 z3 z4 z5 z6 z7 z8 z9 z10 z11 z12 z13
    go_wp2_with fail
    refine (new_any w2 (c.with v) L HP2.out (by omega) (HM.out.with_ v) had hna hwd hn0).mono ?_
    rintro e w3 ⟨B, v2, rfl, hBl, kB, hO, hb3⟩
    obtain ⟨c2, hc2⟩ : ∃ c2 : LC, c2 = { c.with v with pe := v2 } := ⟨_, rfl⟩
    have M2 : Hid (MayOk c2 L) := Lib.hid (by rw [hc2]; exact HM.out.with_ v2)
    have hps2 : c2.ps = false := by rw [hc2]; exact HPs.out
    have hdm2 : c2.dm = false := by rw [hc2]; exact HDm.out
    have hnb2 : 0 ≤ c2.nb := by rw [hc2]; exact hn0
    have hna2 : WdOk c2.na := by rw [hc2]; exact hna
    have hdw2 : WdOk c2.dd := by rw [hc2]; exact HDw.out
    have HDd : Hid (c2.dd = c.dd) := Lib.hid (by rw [hc2]; rfl)
    have HRo : Hid (c2.ro = c.ro) := Lib.hid (by rw [hc2]; rfl)
    have HHa : Hid (∀ G gc, helloA c2 G gc = .agg #[.int .u32 (maskN c.nb.toNat), .int .u16 c.hi, .int .u8 c.op, .int .u8 1, .int .u32 c.dd, .int .u32 0, .int .u32 0, .slice (some ⟨G, 0, none⟩) 1 gc]) := Lib.hid (by rw [hc2]; exact fun _ _ => rfl)
    have hpe2 : c2.pe = v2 := by rw [hc2]
    rw [← hc2] at kB
    rw [← hpe2] at hO
    obtain ⟨A3, cap3, hv2⟩ := own_slice hO
    have P3 : PeersAt w3 w3.heap.size c2.pe L := ⟨A3, cap3, hv2, Reads.of_own (hv2 ▸ hO)⟩
    have N3 : ∀ ad n k, c2.pe = .slice (some ad) n k → ad.block ≠ B := fun ad n k e => by
      obtain ⟨_, cs, hc⟩ := own_cells hO ad.block (by rw [e]; rfl)
      exact Blk.ne_ (t := 136) (cs := cs) hc kB (by decide)
    have HUp := Lib.hid (lost_up w3 B _ c2 L hnb2 hps2 hdm2 hdw2 M2.out hna2 (by omega) P3 hO N3 kB)
    have B3 := Lib.hid (B2.out.trans (hb3.mono B2.out.size))
    have K3 := Lib.hid (K2.out.below hb3 K2.out.lt)
    have hwB : w.heap.size < B := by have := K2.out.lt; omega
    have hlB := kB.lt
    clear hO hb3 kB hc2 hv2 hpe2 hps2 hdm2 P3 N3 hBl
    go_wp2_with fail
    refine HUp.out.mono ?_
    rintro e W4 ⟨⟨v4, rfl⟩, hb4, hlu⟩
    have HLu := Lib.hid hlu
    have K4 := Lib.hid (K3.out.below hb4 hwB)
    have B4 := Lib.hid (B3.out.trans (hb4.mono (by omega)))
    have hs4 := hb4.size
    clear hb4 hlu HUp
    have z0 : W4.cell? ⟨w.heap.size, 0, none⟩ = some (.int .u8 c.ty) := K4.out.cell 0
    have z1 : W4.cell? ⟨w.heap.size, 1, none⟩ = some (.int .u32 c.ro) := K4.out.cell 1
    have z2 : W4.cell? ⟨w.heap.size, 2, none⟩ = some (.int .u32 c.na) := K4.out.cell 2
    have z3 : W4.cell? ⟨w.heap.size, 3, none⟩ = some (.int .u8 c.nb) := K4.out.cell 3
    have z4 : W4.cell? ⟨w.heap.size, 4, none⟩ = some (.int .u32 c.ad) := K4.out.cell 4
    have z5 : W4.cell? ⟨w.heap.size, 5, none⟩ = some (.int .u8 c.op) := K4.out.cell 5
    have z6 : W4.cell? ⟨w.heap.size, 6, none⟩ = some (.int .u16 c.hi) := K4.out.cell 6
    have z7 : W4.cell? ⟨w.heap.size, 7, none⟩ = some (.int .u32 c.dd) := K4.out.cell 7
    have z8 : W4.cell? ⟨w.heap.size, 8, none⟩ = some (.int .u16 c.po) := K4.out.cell 8
    have z9 : W4.cell? ⟨w.heap.size, 9, none⟩ = some (.int .u8 c.pr) := K4.out.cell 9
    have z10 : W4.cell? ⟨w.heap.size, 10, none⟩ = some (.bool c.dm) := K4.out.cell 10
    have z11 : W4.cell? ⟨w.heap.size, 11, none⟩ = some (.bool c.ps) := K4.out.cell 11
    have z12 : W4.cell? ⟨w.heap.size, 12, none⟩ = some (c.pe) := K4.out.cell 12
    have z13 : W4.cell? ⟨w.heap.size, 13, none⟩ = some (.int .u32 c.rm) := K4.out.cell 13
    go_upto_if 52 with fail
    go_cut [9] (fun p wx => wx = W4 ∧ ∃ r, p = .int .u32 r)
    case first =>
      rcases Bool.eq_false_or_eq_true (c.ty == 4) with e_ty | e_ty
      · go_wp2_with fail
        go_meet
        exact ⟨rfl, _, rfl⟩
      · go_wp2_with fail
        go_meet
        exact ⟨rfl, _, rfl⟩
    obtain ⟨hw5, r, rfl⟩ := hcut
    obtain rfl := hw5.symm
    go_upto_region 10 with fail
    go_cut [10] (fun p wx => ∃ X Y : Nat, p = .pointer (some ⟨Y, 0, none⟩) ∧ Blk wx X 25 #[.int .u32 c.ro] ∧ Blk wx Y 90 #[.int .u32 (maskN c.nb.toNat), .int .u16 c.hi, .int .u8 c.op, .int .u8 1, .int .u32 c.dd, .int .u32 0, .int .u32 0, .slice (some ⟨X, 0, none⟩) 1 1] ∧ Below W4.heap.size W4 wx)
    case first =>
      go_region_held3 (fun w' => w'.cell? ⟨w.heap.size, 1, none⟩ = some (.int .u32 c.ro) ∧ w'.cell? ⟨w.heap.size, 3, none⟩ = some (.int .u8 c.nb) ∧ w'.cell? ⟨w.heap.size, 5, none⟩ = some (.int .u8 c.op) ∧ w'.cell? ⟨w.heap.size, 6, none⟩ = some (.int .u16 c.hi) ∧ w'.cell? ⟨w.heap.size, 7, none⟩ = some (.int .u32 c.dd))
        (go_keep)
        ((go_at_call 34; refine (rmask_any _ _ hn0 HM.out.nb).mono ?_; rintro e w' ⟨rfl, rfl⟩))
      all_goals
        go_wp2_with fail
        go_meet
        case rel =>
          first
            | exact ⟨_, _, rfl, (made_two W4 #[.int .u32 c.ro] #[.int .u32 (maskN c.nb.toNat), .int .u16 c.hi, .int .u8 c.op, .int .u8 1, .int .u32 c.dd, .int .u32 0, .int .u32 0, .slice (some ⟨W4.heap.size, 0, none⟩) 1 1] 25 90).1, (made_two W4 #[.int .u32 c.ro] #[.int .u32 (maskN c.nb.toNat), .int .u16 c.hi, .int .u8 c.op, .int .u8 1, .int .u32 c.dd, .int .u32 0, .int .u32 0, .slice (some ⟨W4.heap.size, 0, none⟩) 1 1] 25 90).2.1, (made_two W4 #[.int .u32 c.ro] #[.int .u32 (maskN c.nb.toNat), .int .u16 c.hi, .int .u8 c.op, .int .u8 1, .int .u32 c.dd, .int .u32 0, .int .u32 0, .slice (some ⟨W4.heap.size, 0, none⟩) 1 1] 25 90).2.2⟩
            | exact ⟨_, _, rfl, (made_two W4 #[.int .u32 (maskN c.nb.toNat), .int .u16 c.hi, .int .u8 c.op, .int .u8 1, .int .u32 c.dd, .int .u32 0, .int .u32 0, .slice (some ⟨W4.heap.size + 1, 0, none⟩) 1 1] #[.int .u32 c.ro] 90 25).2.1, (made_two W4 #[.int .u32 (maskN c.nb.toNat), .int .u16 c.hi, .int .u8 c.op, .int .u8 1, .int .u32 c.dd, .int .u32 0, .int .u32 0, .slice (some ⟨W4.heap.size + 1, 0, none⟩) 1 1] #[.int .u32 c.ro] 90 25).1, (made_two W4 #[.int .u32 (maskN c.nb.toNat), .int .u16 c.hi, .int .u8 c.op, .int .u8 1, .int .u32 c.dd, .int .u32 0, .int .u32 0, .slice (some ⟨W4.heap.size + 1, 0, none⟩) 1 1] #[.int .u32 c.ro] 90 25).2.2⟩
    obtain ⟨X, Y, rfl, hX, hY, hb5⟩ := hcut
    have hcall : ∀ W, Below W4.heap.size W4 W → Blk W X 25 #[.int .u32 c.ro] → Calls Try.prog 35 #[.pointer (some ⟨B, 0, none⟩), .int .u32 f, .int .u32 r, .agg #[.int .u32 (maskN c.nb.toNat), .int .u16 c.hi, .int .u8 c.op, .int .u8 1, .int .u32 c.dd, .int .u32 0, .int .u32 0, .slice (some ⟨X, 0, none⟩) 1 1]] W fun e w' => LostFirst B B c2 f r L W e w' := fun W hW hG => by rw [← HHa.out X 1]; exact HLu.out W hW X 1 (by rw [HRo.out]; exact hG) f r
    have HFst := Lib.hid (hcall wc hb5 hX)
    have HX := Lib.hid hX
    have HY := Lib.hid hY
    have K5 := Lib.hid (K4.out.below hb5 K4.out.lt)
    have B5 := Lib.hid (B4.out.trans (hb5.mono B4.out.size))
    have hB5 := hb5.size
    clear z0 z1 z2 z3 z4 z5 z6 z7 z8 z9 z10 z11 z12 z13 hcall hX hY hb5
    have h0 : wc.cell? ⟨Y, 0, none⟩ = some (.int .u32 (maskN c.nb.toNat)) := HY.out.cell 0
    have h1 : wc.cell? ⟨Y, 1, none⟩ = some (.int .u16 c.hi) := HY.out.cell 1
    have h2 : wc.cell? ⟨Y, 2, none⟩ = some (.int .u8 c.op) := HY.out.cell 2
    have h3 : wc.cell? ⟨Y, 3, none⟩ = some (.int .u8 1) := HY.out.cell 3
    have h4 : wc.cell? ⟨Y, 4, none⟩ = some (.int .u32 c.dd) := HY.out.cell 4
    have h5 : wc.cell? ⟨Y, 5, none⟩ = some (.int .u32 0) := HY.out.cell 5
    have h6 : wc.cell? ⟨Y, 6, none⟩ = some (.int .u32 0) := HY.out.cell 6
    have h7 : wc.cell? ⟨Y, 7, none⟩ = some (.slice (some ⟨X, 0, none⟩) 1 1) := HY.out.cell 7
    go_wp2_with fail
    refine HFst.out.mono ?_
    rintro e w6 hh
    obtain ⟨hf6, hh2⟩ := hh
    clear h0 h1 h2 h3 h4 h5 h6 h7 HFst
    have K6 := Lib.hid (hf6.blk K5.out (by decide) (by decide) (by decide))
    have HX6 := Lib.hid (hf6.blk HX.out (by decide) (by decide) (by decide))
    have HY6 := Lib.hid (hf6.blk HY.out (by decide) (by decide) (by decide))
    have B6 := Lib.hid (B5.out.trans ((hf6.below (by omega)).mono (by omega)))
    have hs6 : B < w6.heap.size := by have := hf6.size; omega
    clear hf6
    rcases hh2 with ⟨code, hcode, rfl⟩ | ⟨⟨a6, n6, k6, rfl⟩, As, i, hs, hat, hinv⟩
    · have e_c : (code != 0) = true := by simpa using hcode
      clear hcode
      go_wp2_with (go_at_call 30; refine (HW.out _).mono ?_; rintro e w9 ⟨rfl, hb9⟩)
      go_ret
      exact ⟨rfl, B6.out.trans (hb9.mono B6.out.size)⟩
    · have HS := Lib.hid hs
      have HAt := Lib.hid hat
      have HInv := Lib.hid hinv
      clear hs hat hinv
      obtain ⟨D, hD⟩ : ∃ D : Nat, c.dd = D := ⟨c.dd.toNat, by have := HDw.out.v0; omega⟩
      have hD1 : 1 ≤ D := by have := HS.out.d1; have := HDd.out; omega
      have hD2 : D ≤ 150 := by omega
      have HD := Lib.hid hD
      have z7 : w6.cell? ⟨w.heap.size, 7, none⟩ = some (.int .u32 D) := by rw [← HD.out]; exact K6.out.cell 7
      clear hD h150
      have e_d : ((D : Int) == 0) = false := by simp; omega
      go_upto_region 14 with fail
      go_cut [11] (fun p wx => wx = w6 ∧ ∃ N : Nat, N < D ∧ p = .int .u32 N)
      case first =>
        go_wp2_with fail
        go_meet
        case rel => 
          have h0 : (0 : Int) < D := by omega
          have h1 := Int.emod_lt_of_pos (ag % 4294967296) h0
          have h2 := Int.emod_nonneg (ag % 4294967296) (Int.ne_of_gt h0)
          exact ⟨rfl, (ag % 4294967296 % (D : Int)).toNat, by omega, by rw [Int.toNat_of_nonneg h2]⟩
      obtain ⟨hw7, N, hN, rfl⟩ := hcut
      obtain rfl := hw7.symm
      clear z7
      go_wp2_with fail
      go_loopw [12] (fun x wr => ∃ n : Nat, n ≤ N ∧ x = .int .u32 n ∧ LostIn B B c2 As i f r L (c2.dd - n) w6 wr) (fun x _ => N - (intOf x).toNat)
      case atStart => exact ⟨0, Nat.zero_le _, rfl, LFr.refl _ _, by simpa using HInv.out⟩
      case round =>
        obtain ⟨n, hn, rfl, hf, hi⟩ := hrel
        have HF := Lib.hid hf
        have HI := Lib.hid hi
        have hsr := hf.size
        clear hf hi
        by_cases hlt : n < N
        · go_wp2_with fail
          refine (tick_step HS.out (by have := HDd.out; have := HD.out; omega) HI.out).mono ?_
          rintro e w7 ⟨⟨a7, n7, k7, rfl⟩, hf7, hi7⟩
          have HF7 := Lib.hid (HF.out.trans hf7)
          have HI7 := Lib.hid hi7
          clear hf7 hi7
          go_wp2_with fail
          refine (heard_step HS.out HI7.out).mono ?_
          rintro e w8 ⟨rfl, hb8⟩
          have HF8 := Lib.hid (HF7.out.trans (LFr.of_below hb8))
          have HI8 := Lib.hid (HI7.out.below hb8)
          clear hb8
          go_wp2_with fail
          go_roundw
          case rel =>
            have h := HI8.out
            rw [show c2.dd - n - 1 = c2.dd - (n + 1 : Nat) from by omega] at h
            exact ⟨n + 1, by omega, by simp, HF8.out, h⟩
          case measure => simp [intOf]; omega
        · obtain rfl : n = N := by omega
          have hcall2 : ∀ W, SInv B B c2 As i f r L (c2.dd - n) W → Blk W X 25 #[.int .u32 c.ro] → Calls Try.prog 35 #[.pointer (some ⟨B, 0, none⟩), .int .u32 f, .int .u32 r, .agg #[.int .u32 (maskN c.nb.toNat), .int .u16 c.hi, .int .u8 c.op, .int .u8 1, .int .u32 c.dd, .int .u32 0, .int .u32 0, .slice (some ⟨X, 0, none⟩) 1 1]] W fun e w' => HearSPost B B c2 As i f r L W e w' := fun W hI hG => by rw [← HHa.out X 1]; exact hear_step HS.out HAt.out hI X 1 (by rw [HRo.out]; exact hG)
          have HSnd := Lib.hid (hcall2 wr HI.out (HF.out.blk HX6.out (by decide) (by decide) (by decide)))
          have HYr := Lib.hid (HF.out.blk HY6.out (by decide) (by decide) (by decide))
          have Kr := Lib.hid (HF.out.blk K6.out (by decide) (by decide) (by decide))
          have Br := Lib.hid (B6.out.trans ((HF.out.below (by omega)).mono (by omega)))
          clear hcall2
          have h0 : wr.cell? ⟨Y, 0, none⟩ = some (.int .u32 (maskN c.nb.toNat)) := HYr.out.cell 0
          have h1 : wr.cell? ⟨Y, 1, none⟩ = some (.int .u16 c.hi) := HYr.out.cell 1
          have h2 : wr.cell? ⟨Y, 2, none⟩ = some (.int .u8 c.op) := HYr.out.cell 2
          have h3 : wr.cell? ⟨Y, 3, none⟩ = some (.int .u8 1) := HYr.out.cell 3
          have h4 : wr.cell? ⟨Y, 4, none⟩ = some (.int .u32 c.dd) := HYr.out.cell 4
          have h5 : wr.cell? ⟨Y, 5, none⟩ = some (.int .u32 0) := HYr.out.cell 5
          have h6 : wr.cell? ⟨Y, 6, none⟩ = some (.int .u32 0) := HYr.out.cell 6
          have h7 : wr.cell? ⟨Y, 7, none⟩ = some (.slice (some ⟨X, 0, none⟩) 1 1) := HYr.out.cell 7
          go_wp2_with fail
          refine HSnd.out.mono ?_
          rintro e w7 ⟨⟨a7, n7, k7, rfl⟩, hf7, hi7⟩
          have HI7 := Lib.hid hi7
          have K7 := Lib.hid (hf7.blk Kr.out (by decide) (by decide) (by decide))
          have B7 := Lib.hid (Br.out.trans ((hf7.below (by omega)).mono (by omega)))
          have hs7 := hf7.size
          clear hf7 hi7 h0 h1 h2 h3 h4 h5 h6 h7 HSnd
          go_wp2_with fail
          go_loopw [13] (fun x wr => ∃ m : Nat, m + 1 ≤ D ∧ x = .int .u32 m ∧ LostIn B B c2 As i f r L (c2.dd - m) w7 wr) (fun x _ => D - (intOf x).toNat)
          case atStart => exact ⟨0, by omega, rfl, LFr.refl _ _, by simpa using HI7.out⟩
          case round =>
            obtain ⟨m, hm, rfl, hf, hi⟩ := hrel
            have HFm := Lib.hid hf
            have HIm := Lib.hid hi
            have z7 : wr.cell? ⟨w.heap.size, 7, none⟩ = some (.int .u32 D) := by rw [← HD.out]; exact (hf.blk K7.out (by decide) (by decide) (by decide)).cell 7
            have hsm := hf.size
            clear hf hi
            by_cases hlt2 : m + 1 < D
            · go_wp2_with fail
              refine (tick_step HS.out (by have := HDd.out; have := HD.out; omega) HIm.out).mono ?_
              rintro e w8 ⟨⟨a8, n8, k8, rfl⟩, hf8, hi8⟩
              have HF8 := Lib.hid (HFm.out.trans hf8)
              have HI8 := Lib.hid hi8
              clear hf8 hi8 z7
              go_wp2_with fail
              refine (heard_step HS.out HI8.out).mono ?_
              rintro e w9 ⟨rfl, hb9⟩
              have HF9 := Lib.hid (HF8.out.trans (LFr.of_below hb9))
              have HI9 := Lib.hid (HI8.out.below hb9)
              clear hb9
              go_wp2_with fail
              go_roundw
              case rel =>
                have h := HI9.out
                rw [show c2.dd - m - 1 = c2.dd - (m + 1 : Nat) from by omega] at h
                exact ⟨m + 1, by omega, by simp, HF9.out, h⟩
              case measure => simp [intOf]; omega
            · have e1 : c2.dd - m = 1 := by have := HDd.out; have := HD.out; omega
              have hlast := HIm.out
              rw [e1] at hlast
              have HLast := Lib.hid hlast
              clear hlast e1
              go_wp2_with fail
              refine (tick_last HS.out HLast.out).mono ?_
              rintro e w8 ⟨⟨a8, n8, k8, rfl⟩, hf8, hg8⟩
              have B8 := Lib.hid (B7.out.trans (((HFm.out.trans hf8).below (by omega)).mono (by omega)))
              have HG8 := Lib.hid hg8
              clear hf8 hg8 z7
              go_wp2_with fail
              refine (heard_last HS.out.r0 HG8.out).mono ?_
              rintro e w10 ⟨rfl, hb10⟩
              have B10 := Lib.hid (B8.out.trans (hb10.mono B8.out.size))
              clear hb10
              go_wp2_with (go_at_call 30; refine (HW.out _).mono ?_; rintro e w9 ⟨rfl, hb9⟩)
              go_ret
              exact ⟨rfl, B10.out.trans (hb9.mono B10.out.size)⟩
end Go.Proofs.Ytgbmhijgpdgdbaa
