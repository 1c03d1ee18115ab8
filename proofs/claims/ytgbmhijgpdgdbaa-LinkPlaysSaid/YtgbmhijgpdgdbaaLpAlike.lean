/- The two links, at one plain state, are alike. -/
import Derived.Test.YtgbmhijgpdgdbaaLpPPut
import Derived.Test.YtgbmhijgpdgdbaaLpRefLeaf
import Derived.Deep.RegionLaw
import Derived.Deep.DeepCutAuto
set_option maxHeartbeats 2000000
set_option maxRecDepth 20000
namespace Go.Proofs.Ytgbmhijgpdgdbaa
open Go.RowKit Go.Shelf
theorem flat_at {α : Type} (f : α → List Value) {n : Nat} (hf : ∀ a, (f a).length = n) {l : List α} {i : Nat} {x : α} (h : l[i]? = some x) {j : Nat} {u : Value} (hj : (f x)[j]? = some u) : (l.flatMap f)[i * n + j]? = some u := by
  induction l generalizing i with
  | nil => simp at h
  | cons y l ih =>
    rw [List.flatMap_cons]
    have hl := hf y
    cases i with
    | zero =>
      simp at h
      subst h
      have hjn : j < n := by have := (List.getElem?_eq_some_iff.1 hj).1; omega
      rw [List.getElem?_append_left (by rw [hl]; omega)]
      simpa using hj
    | succ i =>
      rw [List.getElem?_append_right (by rw [hl, Nat.succ_mul]; omega), hl, show (i + 1) * n + j - n = i * n + j from by rw [Nat.succ_mul]; omega]
      exact ih (by simpa using h)
theorem set9 {w w0 : World} {b N : Nat} {t : TypeId} {z0 z1 z2 z3 z4 z5 z6 z7 z8 v0 v1 v2 v3 v4 v5 v6 v7 v8 : Value} (h : Blk w b t #[z0, z1, z2, z3, z4, z5, z6, z7, z8]) (hb : Below N w0 w) (hN : N ≤ b) :
    Blk (((((((((w.setCell ⟨b, 0, none⟩ v0).setCell ⟨b, 1, none⟩ v1).setCell ⟨b, 2, none⟩ v2).setCell ⟨b, 3, none⟩ v3).setCell ⟨b, 4, none⟩ v4).setCell ⟨b, 5, none⟩ v5).setCell ⟨b, 6, none⟩ v6).setCell ⟨b, 7, none⟩ v7).setCell ⟨b, 8, none⟩ v8) b t #[v0, v1, v2, v3, v4, v5, v6, v7, v8] ∧ Below N w0 (((((((((w.setCell ⟨b, 0, none⟩ v0).setCell ⟨b, 1, none⟩ v1).setCell ⟨b, 2, none⟩ v2).setCell ⟨b, 3, none⟩ v3).setCell ⟨b, 4, none⟩ v4).setCell ⟨b, 5, none⟩ v5).setCell ⟨b, 6, none⟩ v6).setCell ⟨b, 7, none⟩ v7).setCell ⟨b, 8, none⟩ v8) := by
  constructor
  · have k0 := h.set_ 0 v0
    have k1 := k0.set_ 1 v1
    have k2 := k1.set_ 2 v2
    have k3 := k2.set_ 3 v3
    have k4 := k3.set_ 4 v4
    have k5 := k4.set_ 5 v5
    have k6 := k5.set_ 6 v6
    have k7 := k6.set_ 7 v7
    have k8 := k7.set_ 8 v8
    simpa using k8
  · exact ((((((((hb.setCell hN _).setCell hN _).setCell hN _).setCell hN _).setCell hN _).setCell hN _).setCell hN _).setCell hN _).setCell hN _
section
variable {lo : Nat} {w : World} {B R : Nat} {cP c : LC} {s : Pl.St} {A : Option Addr} {cap : Nat} {xs : List (Nat × Kn)} {v : Value}
theorem alike_any (hP : PAt lo w B cP s A cap xs) (hR : RAt lo w R c s v) (hw : ∀ k, Pl.wanted cP s k = Pl.wanted c s k) (hlen : s.l.length ≤ 1000) :
    Calls Try.prog 45 #[.pointer (some ⟨B, 0, none⟩), .pointer (some ⟨R, 0, none⟩)] w fun e w' => e = .returned (.bool true) ∧ Below w.heap.size w w' := by
  have HP := Lib.hid hP
  have HR := Lib.hid hR
  have HWt := Lib.hid hw
  obtain ⟨n, hn⟩ : ∃ n, s.l.length = n := ⟨_, rfl⟩
  have Hn := Lib.hid hn
  have Hxn : Hid (xs.length = n) := Lib.hid (by rw [hP.len, hn])
  rw [hn] at hlen
  clear hP hR hw hn
  go_enter Try.func45, Try.ntmps45
  go_wp2_with fail
  refine (pchiefs_any HP.out).mono ?_
  rintro e w1 ⟨rfl, hb1⟩
  have HP1 := Lib.hid (HP.out.below hb1)
  have HB1 := Lib.hid hb1
  clear hb1
  go_wp2_with fail
  refine (pneigh_any HP1.out (by rw [Hxn.out]; omega)).mono ?_
  rintro e w2 ⟨nv, rfl, hown, hb2⟩
  obtain ⟨na, nc, rfl⟩ := own_slice hown
  have HP2 := Lib.hid (HP1.out.below hb2)
  have HB2 := Lib.hid (HB1.out.trans (hb2.mono HB1.out.size))
  have HR2 := Lib.hid (HR.out.below HB2.out)
  have HOwn := Lib.hid hown
  rw [Hxn.out]
  obtain ⟨RA, rc, hv⟩ := own_slice HR2.out.o
  rw [Hn.out] at hv
  subst hv
  clear hb2 hown
  have c14 : w2.cell? ⟨R, 14, none⟩ = some (.int .u8 s.st) := HR2.out.b.cell 14
  have c15 : w2.cell? ⟨R, 15, none⟩ = some (.int .u32 s.dr) := HR2.out.b.cell 15
  have c16 : w2.cell? ⟨R, 16, none⟩ = some (.int .u32 s.bd) := HR2.out.b.cell 16
  have c21 : w2.cell? ⟨R, 21, none⟩ = some (.slice RA n rc) := HR2.out.b.cell 21
  have hRl := HR2.out.b.lt
  have HSt : Hid (∀ q, Calls Try.prog 39 #[.pointer (some ⟨B, 0, none⟩)] (w2.drewN q) fun e w' => e = .returned (.int .u8 s.st) ∧ w' = w2.drewN q) := Lib.hid (fun q => (pstate_any (HP2.out.below (drewQ w2 q))).mono fun _ _ h => ⟨h.1, h.2.symm⟩)
  go_wp2_with fail
  go_quiet (first | (go_at_call 39; with_reducible exact Calls.quiet_of_same (HSt.out _)))
  rename_i nq
  obtain ⟨w3, hw3⟩ : ∃ y, y = w2.drewN nq := ⟨_, rfl⟩
  rw [← hw3]
  have hb3 : Below w2.heap.size w2 w3 := by rw [hw3]; exact drewQ w2 nq
  have HB3 := Lib.hid (HB2.out.trans (hb3.mono HB2.out.size))
  have HR3 := Lib.hid (HR2.out.below hb3)
  have HOwn3 : Hid (w3.ownsRow w1.heap.size 109 9 (.slice na xs.length nc) xs.length (xs.flatMap (nbRow cP s.st s.dr s.bd))) := Lib.hid ((Frame.of_below (S := fun _ => False) hb3).own HOwn.out (fun _ _ e => e))
  clear hw3 hb3 c14 c15 c16 c21 hRl HSt HP1 HP2 HB1 HB2 HR2 HOwn
  go_wp2_with fail
  go_loopw [8] (fun p wr => ∃ k : Nat, k ≤ n ∧ p = .int .i64 k ∧ Hid (Below w3.heap.size w3 wr)) (fun p _ => n - (intOf p).toNat)
  case atStart => exact ⟨0, Nat.zero_le _, rfl, Lib.hid (Below.refl _ _)⟩
  case round =>
    obtain ⟨k, hk, rfl, HBr⟩ := hrel
    by_cases hlt2 : k < n
    · obtain ⟨x, hx⟩ : ∃ x, s.l[k]? = some x := ⟨_, List.getElem?_eq_getElem (by rw [Hn.out]; exact hlt2)⟩
      obtain ⟨y, hy⟩ : ∃ y, xs[k]? = some y := ⟨_, List.getElem?_eq_getElem (by rw [Hxn.out]; exact hlt2)⟩
      have hyx : y.2 = x := Option.some.inj ((HP.out.atL hy).symm.trans hx)
      have HRr := Lib.hid (HR3.out.below HBr.out)
      obtain ⟨b, n', cap', e, hn2, hb, hc⟩ := HRr.out.o.knb hx
      cases e
      have c21 : wr.cell? ⟨R, 21, none⟩ = some (.slice (some ⟨b, 0, none⟩) n rc) := HRr.out.b.cell 21
      have q0 : wr.cell? ⟨b, k * 9, none⟩ = some (.int .u32 x.ro) := hc 0 _ rfl
      have q1 : wr.cell? ⟨b, k * 9 + 1, none⟩ = some (.int .u32 x.ad) := hc 1 _ rfl
      have q2 : wr.cell? ⟨b, k * 9 + 2, none⟩ = some (.int .u8 x.st) := hc 2 _ rfl
      have q3 : wr.cell? ⟨b, k * 9 + 3, none⟩ = some (.int .u8 x.pr) := hc 3 _ rfl
      have q4 : wr.cell? ⟨b, k * 9 + 4, none⟩ = some (.int .u32 x.dr) := hc 4 _ rfl
      have q5 : wr.cell? ⟨b, k * 9 + 5, none⟩ = some (.int .u32 x.bd) := hc 5 _ rfl
      have q6 : wr.cell? ⟨b, k * 9 + 6, none⟩ = some (.int .u8 x.op) := hc 6 _ rfl
      have q7 : wr.cell? ⟨b, k * 9 + 7, none⟩ = some (.int .u32 x.lf) := hc 7 _ rfl
      have q8 : wr.cell? ⟨b, k * 9 + 8, none⟩ = some (.bool x.fu) := hc 8 _ rfl
      have hRl := HRr.out.b.lt
      have hkn : (k : Int) < (n : Int) := by omega
      have hor : wr.ownsRow w1.heap.size 109 9 (.slice na xs.length nc) xs.length (xs.flatMap (nbRow cP s.st s.dr s.bd)) := (Frame.of_below (S := fun _ => False) HBr.out).own HOwn3.out (fun _ _ e => e)
      obtain ⟨nb, hna, hnl, hnc⟩ : ∃ nb, na = some ⟨nb, 0, none⟩ ∧ nb < wr.heap.size ∧ ∀ j u, (nbRow cP s.st s.dr s.bd y)[j]? = some u → wr.cell? ⟨nb, k * 9 + j, none⟩ = some u := by
        rcases hor.2 with ⟨_, h0⟩ | ⟨g, cp', cur, e1, hg, hh, _⟩
        · have := Hxn.out; omega
        · injection e1 with e1 _ _
          subst e1
          refine ⟨g, rfl, (Array.getElem?_eq_some_iff.1 hh).1, fun j u hu => ?_⟩
          have h1 := hor.cells (g := g) rfl (k * 9 + j) u (flat_at (nbRow cP s.st s.dr s.bd) (fun _ => rfl) hy hu)
          rwa [Addr.add_mid, Nat.zero_add] at h1
      subst hna
      have hwt : wantK cP s.st s.dr s.bd y = Pl.wanted c s x := by rw [← HWt.out x, ← hyx]; rfl
      have p0 : wr.cell? ⟨nb, k * 9, none⟩ = some (.int .u32 x.ro) := by rw [← hyx]; exact hnc 0 _ rfl
      have p1 : wr.cell? ⟨nb, k * 9 + 1, none⟩ = some (.int .u32 x.ad) := by rw [← hyx]; exact hnc 1 _ rfl
      have p2 : wr.cell? ⟨nb, k * 9 + 2, none⟩ = some (.int .u8 x.st) := by rw [← hyx]; exact hnc 2 _ rfl
      have p3 : wr.cell? ⟨nb, k * 9 + 3, none⟩ = some (.int .u8 x.pr) := by rw [← hyx]; exact hnc 3 _ rfl
      have p4 : wr.cell? ⟨nb, k * 9 + 4, none⟩ = some (.int .u32 x.dr) := by rw [← hyx]; exact hnc 4 _ rfl
      have p5 : wr.cell? ⟨nb, k * 9 + 5, none⟩ = some (.int .u32 x.bd) := by rw [← hyx]; exact hnc 5 _ rfl
      have p6 : wr.cell? ⟨nb, k * 9 + 6, none⟩ = some (.int .u8 x.op) := by rw [← hyx]; exact hnc 6 _ rfl
      have p7 : wr.cell? ⟨nb, k * 9 + 7, none⟩ = some (.int .u32 x.lf) := by rw [← hyx]; exact hnc 7 _ rfl
      have p8 : wr.cell? ⟨nb, k * 9 + 8, none⟩ = some (.bool (Pl.wanted c s x)) := by rw [← hwt]; exact hnc 8 _ rfl
      have Hx := Lib.hid hx
      clear hx hy hyx hn2 hc hor hnc hwt
      obtain ⟨wb, hwb⟩ : ∃ b, Pl.wanted c s x = b := ⟨_, rfl⟩
      have HWb := Lib.hid hwb
      rw [hwb] at p8
      clear hwb
      go_upto_region 9 with fail
      obtain ⟨w4, hw4⟩ : ∃ w4, w4 = wr.alloc (.cells #[.int .u32 x.ro, .int .u32 x.ad, .int .u8 x.st, .int .u8 x.pr, .int .u32 x.dr, .int .u32 x.bd, .int .u8 x.op, .int .u32 x.lf, .bool x.fu] 157) := ⟨_, rfl⟩
      have hb4 : Below wr.heap.size wr w4 := by rw [hw4]; exact (Below.refl _ wr).alloc (Nat.le_refl _) _
      have HX4 : Hid (Blk w4 wr.heap.size 157 #[.int .u32 x.ro, .int .u32 x.ad, .int .u8 x.st, .int .u8 x.pr, .int .u32 x.dr, .int .u32 x.bd, .int .u8 x.op, .int .u32 x.lf, .bool x.fu]) := Lib.hid (by rw [hw4]; exact Blk.new wr _ _)
      have HB4 := Lib.hid hb4
      have HR4 := Lib.hid (HRr.out.below hb4)
      rw [← hw4]
      have hs4 : wr.heap.size < w4.heap.size := HX4.out.lt
      clear hw4 hb4 c21 q0 q1 q2 q3 q4 q5 q6 q7 q8
      have z0 : w4.cell? ⟨wr.heap.size, 0, none⟩ = some (.int .u32 x.ro) := HX4.out.cell 0
      have z1 : w4.cell? ⟨wr.heap.size, 1, none⟩ = some (.int .u32 x.ad) := HX4.out.cell 1
      have z2 : w4.cell? ⟨wr.heap.size, 2, none⟩ = some (.int .u8 x.st) := HX4.out.cell 2
      have z3 : w4.cell? ⟨wr.heap.size, 3, none⟩ = some (.int .u8 x.pr) := HX4.out.cell 3
      have z4 : w4.cell? ⟨wr.heap.size, 4, none⟩ = some (.int .u32 x.dr) := HX4.out.cell 4
      have z5 : w4.cell? ⟨wr.heap.size, 5, none⟩ = some (.int .u32 x.bd) := HX4.out.cell 5
      have z6 : w4.cell? ⟨wr.heap.size, 6, none⟩ = some (.int .u8 x.op) := HX4.out.cell 6
      have z7 : w4.cell? ⟨wr.heap.size, 7, none⟩ = some (.int .u32 x.lf) := HX4.out.cell 7
      have z8 : w4.cell? ⟨wr.heap.size, 8, none⟩ = some (.bool x.fu) := HX4.out.cell 8
      have HW : Hid (∀ W, Below w4.heap.size w4 W → Calls Try.prog 85 #[.pointer (some ⟨R, 0, none⟩), .agg #[.int .u32 x.ro, .int .u32 x.ad, .int .u8 x.st, .int .u8 x.pr, .int .u32 x.dr, .int .u32 x.bd, .int .u8 x.op, .int .u32 x.lf, .bool x.fu]] W fun e w' => e = .returned (.bool wb) ∧ Below W.heap.size W w') := Lib.hid (fun W hW => by
        have h := rwanted_any (HR4.out.b.below hW HR4.out.b.lt) x
        rw [HWb.out] at h
        exact h)
      go_cut [10] from 64 to 83 (fun p wx => ∃ S : Nat, p = .pointer (some ⟨S, 0, none⟩) ∧ Hid (Blk wx S 109 #[.int .u32 x.ro, .int .u32 x.ad, .int .u8 x.st, .int .u8 x.pr, .int .u32 x.dr, .int .u32 x.bd, .int .u8 x.op, .int .u32 x.lf, .bool wb]) ∧ Hid (Below w4.heap.size w4 wx))
      case first =>
        have HK : Hid (∀ W, Below w4.heap.size w4 W → W.cell? ⟨wr.heap.size, 0, none⟩ = some (.int .u32 x.ro) ∧ W.cell? ⟨wr.heap.size, 1, none⟩ = some (.int .u32 x.ad) ∧ W.cell? ⟨wr.heap.size, 2, none⟩ = some (.int .u8 x.st) ∧ W.cell? ⟨wr.heap.size, 3, none⟩ = some (.int .u8 x.pr) ∧ W.cell? ⟨wr.heap.size, 4, none⟩ = some (.int .u32 x.dr) ∧ W.cell? ⟨wr.heap.size, 5, none⟩ = some (.int .u32 x.bd) ∧ W.cell? ⟨wr.heap.size, 6, none⟩ = some (.int .u8 x.op) ∧ W.cell? ⟨wr.heap.size, 7, none⟩ = some (.int .u32 x.lf) ∧ W.cell? ⟨wr.heap.size, 8, none⟩ = some (.bool x.fu) ∧ Below w4.heap.size w4 W) := Lib.hid (fun W hW => ⟨(HX4.out.below hW HX4.out.lt).cell 0, (HX4.out.below hW HX4.out.lt).cell 1, (HX4.out.below hW HX4.out.lt).cell 2, (HX4.out.below hW HX4.out.lt).cell 3, (HX4.out.below hW HX4.out.lt).cell 4, (HX4.out.below hW HX4.out.lt).cell 5, (HX4.out.below hW HX4.out.lt).cell 6, (HX4.out.below hW HX4.out.lt).cell 7, (HX4.out.below hW HX4.out.lt).cell 8, hW⟩)
        have hB0 : Below w4.heap.size w4 w4 := Below.refl _ _
        have hdr : Below w4.heap.size w4 w4.drew := hB0.drew
        go_region_held3 (fun W => W.cell? ⟨wr.heap.size, 0, none⟩ = some (.int .u32 x.ro) ∧ W.cell? ⟨wr.heap.size, 1, none⟩ = some (.int .u32 x.ad) ∧ W.cell? ⟨wr.heap.size, 2, none⟩ = some (.int .u8 x.st) ∧ W.cell? ⟨wr.heap.size, 3, none⟩ = some (.int .u8 x.pr) ∧ W.cell? ⟨wr.heap.size, 4, none⟩ = some (.int .u32 x.dr) ∧ W.cell? ⟨wr.heap.size, 5, none⟩ = some (.int .u32 x.bd) ∧ W.cell? ⟨wr.heap.size, 6, none⟩ = some (.int .u8 x.op) ∧ W.cell? ⟨wr.heap.size, 7, none⟩ = some (.int .u32 x.lf) ∧ W.cell? ⟨wr.heap.size, 8, none⟩ = some (.bool x.fu) ∧ Below w4.heap.size w4 W) (first
          | with_reducible assumption
          | (refine HK.out _ ?_; repeat (first | with_reducible assumption | with_reducible refine Below.drew ?_ | with_reducible refine Below.alloc ?_ ?_ _ | with_reducible refine Below.setCell ?_ ?_ _ | exact Nat.le_refl _ | exact Below.size (by with_reducible assumption))))
          (first
          | (go_at_call 85; (with_reducible show Calls Try.prog _ _ w4.drew _); refine (HW.out _ (Below.refl _ w4).drew).mono ?_; rintro e w6 ⟨rfl, hb6⟩; have hB6 : Below w4.heap.size w4 w6 := (Below.refl w4.heap.size w4).drew.trans hb6; have hs6 : w4.heap.size ≤ w6.heap.size := hB6.size; have HB6 := Lib.hid hB6)
          | (go_at_call 85; (with_reducible show Calls Try.prog _ _ (w4.alloc _).drew _); refine (HW.out _ ((Below.refl _ w4).alloc (Nat.le_refl _) _).drew).mono ?_; rintro e w6 ⟨rfl, hb6⟩; have hB6 : Below w4.heap.size w4 w6 := (((Below.refl w4.heap.size w4).alloc (Nat.le_refl _) _).drew).trans (hb6.mono (by simp)); have kz := ((Blk.new w4 109 #[.int .u32 0, .int .u32 0, .int .u8 0, .int .u8 0, .int .u32 0, .int .u32 0, .int .u8 0, .int .u32 0, .bool false]).drew).below hb6 (by simp); have y0 : w6.cell? ⟨w4.heap.size, 0, none⟩ = some (.int .u32 0) := kz.cell 0; have y1 : w6.cell? ⟨w4.heap.size, 1, none⟩ = some (.int .u32 0) := kz.cell 1; have y2 : w6.cell? ⟨w4.heap.size, 2, none⟩ = some (.int .u8 0) := kz.cell 2; have y3 : w6.cell? ⟨w4.heap.size, 3, none⟩ = some (.int .u8 0) := kz.cell 3; have y4 : w6.cell? ⟨w4.heap.size, 4, none⟩ = some (.int .u32 0) := kz.cell 4; have y5 : w6.cell? ⟨w4.heap.size, 5, none⟩ = some (.int .u32 0) := kz.cell 5; have y6 : w6.cell? ⟨w4.heap.size, 6, none⟩ = some (.int .u8 0) := kz.cell 6; have y7 : w6.cell? ⟨w4.heap.size, 7, none⟩ = some (.int .u32 0) := kz.cell 7; have y8 : w6.cell? ⟨w4.heap.size, 8, none⟩ = some (.bool false) := kz.cell 8; have fz := kz.frozen; have hlz := kz.lt; have KZ := Lib.hid kz; have HB6 := Lib.hid hB6; clear kz))
        all_goals
          go_wp2_with fail
          go_meet
          case rel =>
            first
              | (have hq := hs6; refine ⟨_, rfl, ?_⟩; exact ⟨Lib.hid (Blk.new w6 _ _), Lib.hid (HB6.out.alloc hq _)⟩)
              | (refine ⟨_, rfl, ?_⟩; with_reducible exact ⟨Lib.hid (set9 KZ.out HB6.out (Nat.le_refl _)).1, Lib.hid (set9 KZ.out HB6.out (Nat.le_refl _)).2⟩)
      obtain ⟨S, rfl, HX5, HB5'⟩ := hcut
      obtain ⟨w5, hw5⟩ : ∃ y, y = wc := ⟨_, rfl⟩
      rw [← hw5] at HX5 HB5' ⊢
      have HB5 : Hid (Below wr.heap.size wr w5) := Lib.hid (HB4.out.trans (HB5'.out.mono (Nat.le_of_lt hs4)))
      clear hw5 HW z0 z1 z2 z3 z4 z5 z6 z7 z8
      have y0 : w5.cell? ⟨S, 0, none⟩ = some (.int .u32 x.ro) := HX5.out.cell 0
      have g0 : w5.cell? ⟨nb, k * 9, none⟩ = some (.int .u32 x.ro) := (HB5.out.cell (p := ⟨nb, k * 9, none⟩) hnl).trans p0
      have y1 : w5.cell? ⟨S, 1, none⟩ = some (.int .u32 x.ad) := HX5.out.cell 1
      have g1 : w5.cell? ⟨nb, k * 9 + 1, none⟩ = some (.int .u32 x.ad) := (HB5.out.cell (p := ⟨nb, k * 9 + 1, none⟩) hnl).trans p1
      have y2 : w5.cell? ⟨S, 2, none⟩ = some (.int .u8 x.st) := HX5.out.cell 2
      have g2 : w5.cell? ⟨nb, k * 9 + 2, none⟩ = some (.int .u8 x.st) := (HB5.out.cell (p := ⟨nb, k * 9 + 2, none⟩) hnl).trans p2
      have y3 : w5.cell? ⟨S, 3, none⟩ = some (.int .u8 x.pr) := HX5.out.cell 3
      have g3 : w5.cell? ⟨nb, k * 9 + 3, none⟩ = some (.int .u8 x.pr) := (HB5.out.cell (p := ⟨nb, k * 9 + 3, none⟩) hnl).trans p3
      have y4 : w5.cell? ⟨S, 4, none⟩ = some (.int .u32 x.dr) := HX5.out.cell 4
      have g4 : w5.cell? ⟨nb, k * 9 + 4, none⟩ = some (.int .u32 x.dr) := (HB5.out.cell (p := ⟨nb, k * 9 + 4, none⟩) hnl).trans p4
      have y5 : w5.cell? ⟨S, 5, none⟩ = some (.int .u32 x.bd) := HX5.out.cell 5
      have g5 : w5.cell? ⟨nb, k * 9 + 5, none⟩ = some (.int .u32 x.bd) := (HB5.out.cell (p := ⟨nb, k * 9 + 5, none⟩) hnl).trans p5
      have y6 : w5.cell? ⟨S, 6, none⟩ = some (.int .u8 x.op) := HX5.out.cell 6
      have g6 : w5.cell? ⟨nb, k * 9 + 6, none⟩ = some (.int .u8 x.op) := (HB5.out.cell (p := ⟨nb, k * 9 + 6, none⟩) hnl).trans p6
      have y7 : w5.cell? ⟨S, 7, none⟩ = some (.int .u32 x.lf) := HX5.out.cell 7
      have g7 : w5.cell? ⟨nb, k * 9 + 7, none⟩ = some (.int .u32 x.lf) := (HB5.out.cell (p := ⟨nb, k * 9 + 7, none⟩) hnl).trans p7
      have y8 : w5.cell? ⟨S, 8, none⟩ = some (.bool wb) := HX5.out.cell 8
      have g8 : w5.cell? ⟨nb, k * 9 + 8, none⟩ = some (.bool wb) := (HB5.out.cell (p := ⟨nb, k * 9 + 8, none⟩) hnl).trans p8
      have hl5 := HX5.out.lt
      have hxn := Hxn.out
      clear p0 p1 p2 p3 p4 p5 p6 p7 p8
      go_upto_region 10 with fail
      go_quiet (fail)
      go_wp2_with fail
      go_roundw
      case rel => exact ⟨k + 1, by omega, by simp, Lib.hid ((HBr.out.trans (HB5.out.mono HBr.out.size)).trans ((drewQ w5 _).mono (Nat.le_trans HBr.out.size HB5.out.size)))⟩
      case measure => simp [intOf]; omega
    · obtain rfl : k = n := by omega
      go_wp2_with fail
      go_ret
      exact ⟨rfl, HB3.out.trans (HBr.out.mono HB3.out.size)⟩
end
end Go.Proofs.Ytgbmhijgpdgdbaa
