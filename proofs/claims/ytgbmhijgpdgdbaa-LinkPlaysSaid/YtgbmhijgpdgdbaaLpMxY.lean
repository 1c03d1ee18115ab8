/- May, by the document, both ways, of whatever config. -/
import Derived.Test.YtgbmhijgpdgdbaaLpMxA
import Derived.Test.YtgbmhijgpdgdbaaLpMxV
import Derived.Test.YtgbmhijgpdgdbaaLpMxW
import Derived.Test.YtgbmhijgpdgdbaaLpMxX
set_option maxHeartbeats 4000000
set_option maxRecDepth 20000
namespace Go.Proofs.Ytgbmhijgpdgdbaa
open Go.RowKit
namespace Mx
theorem may_peers_many (w : World) (c : LC) (L : List (Int × Int)) (hL : PeersAt w w.heap.size c.pe L) (h1 : ¬ 4 < c.ty) (h2 : c.ro ≠ 0) (h3 : c.hi ≠ 0) (h4 : c.dd ≠ 0) (h6 : ¬ 32 < c.nb) (hn0 : 0 ≤ c.nb) (h7 : c.ty ≠ 4) (h5 : 0 < c.po) (ha : c.rm = 0) (hb : c.ad ≠ 0) (hc : bits .andNot .u32 c.na (maskN c.nb.toNat) = 0) (hd : bits .and .u32 c.ad (maskN c.nb.toNat) = c.na) (he : c.dm = false) (hpb : c.peers = true) (hg : 64 < L.length) : Calls Try.prog 29 #[.agg c.cells] w fun e w' => MayPost c L w e w' := by
  have HNO : Hid (¬ MayOk c L) := Lib.hid (fun m => by have := ((m.ot h7).2.2.2.2.2.2 hpb).1; omega)
  unfold LC.cells
  have H_h1 := Lib.hid h1
  have H_h2 := Lib.hid h2
  have H_h3 := Lib.hid h3
  have H_h4 := Lib.hid h4
  have H_h6 := Lib.hid h6
  have H_hn0 := Lib.hid hn0
  have H_h7 := Lib.hid h7
  have H_h5 := Lib.hid h5
  have H_ha := Lib.hid ha
  have H_hb := Lib.hid hb
  have H_hc := Lib.hid hc
  have H_hd := Lib.hid hd
  have H_he := Lib.hid he
  have H_hpb := Lib.hid hpb
  have H_hg := Lib.hid hg
  clear h1 h2 h3 h4 h6 hn0 h7 h5 ha hb hc hd he hpb hg
  have HPe := Lib.hid rpeers_any
  go_enter Try.func29, Try.ntmps29
  go_upto_region 1 with fail
  obtain ⟨W0, hW0⟩ : ∃ W0, W0 = w.alloc (.cells c.cells 76) := ⟨_, rfl⟩
  have K0 : Hid (Blk W0 w.heap.size 76 c.cells) := Lib.hid (by rw [hW0]; exact Blk.new w _ _)
  have B0 : Hid (Below w.heap.size w W0) := Lib.hid (by rw [hW0]; exact (Below.refl _ w).alloc (Nat.le_refl _) _)
  have hs0 : w.heap.size < W0.heap.size := K0.out.lt
  unfold LC.cells at hW0
  rw [← hW0]
  clear hW0
  have h1 := H_h1.out
  have h2 := H_h2.out
  have h3 := H_h3.out
  have h4 := H_h4.out
  have h6 := H_h6.out
  have h5 := H_h5.out
  have hpb := H_hpb.out
  have e_h2 : (c.ro == 0) = false := by simpa using h2
  have e_h3 : (c.hi == 0) = false := by simpa using h3
  have e_h4 : (c.dd == 0) = false := by simpa using h4
  obtain ⟨q0, q1, q2, q3, q4, q5, q6, q7, q8, q9, q10, q11, q12, q13⟩ := lcq (c := c) K0.out
  have d1 := mxd (n := w.heap.size + 1) (W := W0) hpb
  refine wp_region_later (B := w.heap.size + 1) (w0 := W0) (by kernel_rfl) (by kernel_rfl) (Below.refl _ _) ?_
  repeat (go_big_quiet_step (first
    | (go_at_call 62; with_reducible exact later_call _ (by omega) (d1.out _))))
  refine wpQuiet_nil ?_
  rintro wx ⟨⟨wy, hwy⟩, hwe⟩
  obtain rfl : wx = wy := hwe
  have B1 := Lib.hid (B0.out.trans (hwy.mono (by omega)))
  have K1 := Lib.hid (K0.out.below hwy (by omega))
  clear d1 hwy q0 q1 q2 q3 q4 q5 q6 q7 q8 q9 q10 q11 q12 q13
  have hn0 := H_hn0.out
  have h7 := H_h7.out
  have ha := H_ha.out
  have hb := H_hb.out
  have hc := H_hc.out
  have hd := H_hd.out
  have he := H_he.out
  have hg := H_hg.out
  have e_h7 : (c.ty == 4) = false := by simpa using h7
  have e_hb : (c.ad == 0) = false := by simpa using hb
  obtain ⟨A, cap, hpe, hr⟩ := hL
  have hp2 : ∀ W, Calls Try.prog 62 #[.agg #[.int .u8 c.ty, .int .u32 c.ro, .int .u32 c.na, .int .u8 c.nb, .int .u32 c.ad, .int .u8 c.op, .int .u16 c.hi, .int .u32 c.dd, .int .u16 c.po, .int .u8 c.pr, .bool c.dm, .bool c.ps, (.slice A L.length cap), .int .u32 c.rm]] W fun e w' => e = .returned (.bool true) ∧ Below W.heap.size W w' := fun W => by have h := HPe.out c W; rw [hpb] at h; unfold LC.cells at h; rw [hpe] at h; exact h
  have HP2 := Lib.hid hp2
  clear hp2
  obtain ⟨z0, z1, z2, z3, z4, z5, z6, z7, z8, z9, z10, z11, z12, z13⟩ := lcz (c := c) K1.out
  rw [hpe] at z12
  go_upto_region 8 with (go_at_call 34; refine (rmask_any _ c.nb hn0 (by omega)).mono ?_; rintro e w' ⟨rfl, rfl⟩)
  have H7 := Lib.hid h7
  clear ha hb hc hd he h7 e_h7 e_hb e_h2 e_h3 e_h4
  go_wp2_with fail
  refine (HP2.out _).mono ?_
  rintro e w2 ⟨rfl, hb2⟩
  have y12 : w2.cell? ⟨w.heap.size, 12, none⟩ = some (.slice A L.length cap) := (hb2.cell (p := ⟨w.heap.size, 12, none⟩) K1.out.lt).trans z12
  have y4 : w2.cell? ⟨w.heap.size, 4, none⟩ = some (.int .u32 c.ad) := (hb2.cell (p := ⟨w.heap.size, 4, none⟩) K1.out.lt).trans z4
  have HR := Lib.hid (hr.below (B1.out.trans (hb2.mono B1.out.size)))
  have B2 := Lib.hid (B1.out.trans (hb2.mono B1.out.size))
  have hz2 : w.heap.size < w2.heap.size := by have := hb2.size; have := K1.out.lt; omega
  clear hb2 hr z0 z1 z2 z3 z4 z5 z6 z7 z8 z9 z10 z11 z12 z13
  go_wp2_with fail
  go_ret
  exact ⟨false, rfl, ⟨(fun h => by cases h), fun m => absurd m HNO.out⟩, B2.out⟩
theorem may_peers (w : World) (c : LC) (L : List (Int × Int)) (hL : PeersAt w w.heap.size c.pe L) (h1 : ¬ 4 < c.ty) (h2 : c.ro ≠ 0) (h3 : c.hi ≠ 0) (h4 : c.dd ≠ 0) (h6 : ¬ 32 < c.nb) (hn0 : 0 ≤ c.nb) (h7 : c.ty ≠ 4) (h5 : 0 < c.po) (ha : c.rm = 0) (hb : c.ad ≠ 0) (hc : bits .andNot .u32 c.na (maskN c.nb.toNat) = 0) (hd : bits .and .u32 c.ad (maskN c.nb.toNat) = c.na) (he : c.dm = false) (hpb : c.peers = true) (hg : L.length ≤ 64) : Calls Try.prog 29 #[.agg c.cells] w fun e w' => MayPost c L w e w' := by
  have HALL : Hid (MayOk c L → ∀ (i : Nat) (p : Int × Int), L[i]? = some p → p.1 ≠ 0 ∧ p.1 ≠ c.ad ∧ ∀ (k : Nat) (q : Int × Int), k < i → L[k]? = some q → q.1 ≠ p.1) := Lib.hid (fun m => ((m.ot h7).2.2.2.2.2.2 hpb).2)
  unfold LC.cells
  have H_h1 := Lib.hid h1
  have H_h2 := Lib.hid h2
  have H_h3 := Lib.hid h3
  have H_h4 := Lib.hid h4
  have H_h6 := Lib.hid h6
  have H_hn0 := Lib.hid hn0
  have H_h7 := Lib.hid h7
  have H_h5 := Lib.hid h5
  have H_ha := Lib.hid ha
  have H_hb := Lib.hid hb
  have H_hc := Lib.hid hc
  have H_hd := Lib.hid hd
  have H_he := Lib.hid he
  have H_hpb := Lib.hid hpb
  have H_hg := Lib.hid hg
  clear h1 h2 h3 h4 h6 hn0 h7 h5 ha hb hc hd he hpb hg
  have HPe := Lib.hid rpeers_any
  go_enter Try.func29, Try.ntmps29
  go_upto_region 1 with fail
  obtain ⟨W0, hW0⟩ : ∃ W0, W0 = w.alloc (.cells c.cells 76) := ⟨_, rfl⟩
  have K0 : Hid (Blk W0 w.heap.size 76 c.cells) := Lib.hid (by rw [hW0]; exact Blk.new w _ _)
  have B0 : Hid (Below w.heap.size w W0) := Lib.hid (by rw [hW0]; exact (Below.refl _ w).alloc (Nat.le_refl _) _)
  have hs0 : w.heap.size < W0.heap.size := K0.out.lt
  unfold LC.cells at hW0
  rw [← hW0]
  clear hW0
  have h1 := H_h1.out
  have h2 := H_h2.out
  have h3 := H_h3.out
  have h4 := H_h4.out
  have h6 := H_h6.out
  have h5 := H_h5.out
  have hpb := H_hpb.out
  have e_h2 : (c.ro == 0) = false := by simpa using h2
  have e_h3 : (c.hi == 0) = false := by simpa using h3
  have e_h4 : (c.dd == 0) = false := by simpa using h4
  obtain ⟨q0, q1, q2, q3, q4, q5, q6, q7, q8, q9, q10, q11, q12, q13⟩ := lcq (c := c) K0.out
  have d1 := mxd (n := w.heap.size + 1) (W := W0) hpb
  refine wp_region_later (B := w.heap.size + 1) (w0 := W0) (by kernel_rfl) (by kernel_rfl) (Below.refl _ _) ?_
  repeat (go_big_quiet_step (first
    | (go_at_call 62; with_reducible exact later_call _ (by omega) (d1.out _))))
  refine wpQuiet_nil ?_
  rintro wx ⟨⟨wy, hwy⟩, hwe⟩
  obtain rfl : wx = wy := hwe
  have B1 := Lib.hid (B0.out.trans (hwy.mono (by omega)))
  have K1 := Lib.hid (K0.out.below hwy (by omega))
  clear d1 hwy q0 q1 q2 q3 q4 q5 q6 q7 q8 q9 q10 q11 q12 q13
  have hn0 := H_hn0.out
  have h7 := H_h7.out
  have ha := H_ha.out
  have hb := H_hb.out
  have hc := H_hc.out
  have hd := H_hd.out
  have he := H_he.out
  have hg := H_hg.out
  have e_h7 : (c.ty == 4) = false := by simpa using h7
  have e_hb : (c.ad == 0) = false := by simpa using hb
  obtain ⟨A, cap, hpe, hr⟩ := hL
  have hp2 : ∀ W, Calls Try.prog 62 #[.agg #[.int .u8 c.ty, .int .u32 c.ro, .int .u32 c.na, .int .u8 c.nb, .int .u32 c.ad, .int .u8 c.op, .int .u16 c.hi, .int .u32 c.dd, .int .u16 c.po, .int .u8 c.pr, .bool c.dm, .bool c.ps, (.slice A L.length cap), .int .u32 c.rm]] W fun e w' => e = .returned (.bool true) ∧ Below W.heap.size W w' := fun W => by have h := HPe.out c W; rw [hpb] at h; unfold LC.cells at h; rw [hpe] at h; exact h
  have HP2 := Lib.hid hp2
  clear hp2
  obtain ⟨z0, z1, z2, z3, z4, z5, z6, z7, z8, z9, z10, z11, z12, z13⟩ := lcz (c := c) K1.out
  rw [hpe] at z12
  go_upto_region 8 with (go_at_call 34; refine (rmask_any _ c.nb hn0 (by omega)).mono ?_; rintro e w' ⟨rfl, rfl⟩)
  have H7 := Lib.hid h7
  clear ha hb hc hd he h7 e_h7 e_hb e_h2 e_h3 e_h4
  go_wp2_with fail
  refine (HP2.out _).mono ?_
  rintro e w2 ⟨rfl, hb2⟩
  have y12 : w2.cell? ⟨w.heap.size, 12, none⟩ = some (.slice A L.length cap) := (hb2.cell (p := ⟨w.heap.size, 12, none⟩) K1.out.lt).trans z12
  have y4 : w2.cell? ⟨w.heap.size, 4, none⟩ = some (.int .u32 c.ad) := (hb2.cell (p := ⟨w.heap.size, 4, none⟩) K1.out.lt).trans z4
  have HR := Lib.hid (hr.below (B1.out.trans (hb2.mono B1.out.size)))
  have B2 := Lib.hid (B1.out.trans (hb2.mono B1.out.size))
  have hz2 : w.heap.size < w2.heap.size := by have := hb2.size; have := K1.out.lt; omega
  clear hb2 hr z0 z1 z2 z3 z4 z5 z6 z7 z8 z9 z10 z11 z12 z13
  go_wp2_with fail
  go_loopw [4] (fun x wr => ∃ i q : Nat, i ≤ L.length ∧ x = .int .i64 i ∧ wr = w2.drewN q ∧ ∀ (j : Nat) (p : Int × Int), j < i → L[j]? = some p → p.1 ≠ 0 ∧ p.1 ≠ c.ad ∧ ∀ (k : Nat) (q : Int × Int), k < j → L[k]? = some q → q.1 ≠ p.1) (fun x _ => L.length - (intOf x).toNat)
  case atStart => exact ⟨0, 0, Nat.zero_le _, rfl, rfl, fun j p hj => by omega⟩
  case round =>
    obtain ⟨i, q, hi, rfl, rfl, hok⟩ := hrel
    have Hok := Lib.hid hok
    clear hok
    by_cases hlt : i < L.length
    · obtain ⟨p, hp⟩ : ∃ p, L[i]? = some p := ⟨_, List.getElem?_eq_getElem hlt⟩
      obtain ⟨b, off, hA, hbB, e1, e2⟩ := HR.out.peer hp
      subst hA
      by_cases hz : p.1 = 0
      · rw [hz] at e1
        go_wp2_with fail
        go_quiet (fail)
        go_wp2_with fail
        go_ret
        exact ⟨false, rfl, ⟨(fun h => by cases h ), fun m => absurd hz (HALL.out m i p hp).1⟩, below_drewN' (below_drewN' B2.out _) _⟩
      · have e_z : (p.1 == 0) = false := by simpa using hz
        by_cases had : p.1 = c.ad
        · rw [had] at e1 e_z
          go_wp2_with fail
          go_quiet (fail)
          go_wp2_with fail
          go_ret
          exact ⟨false, rfl, ⟨(fun h => by cases h ), fun m => absurd had (HALL.out m i p hp).2.1⟩, below_drewN' (below_drewN' B2.out _) _⟩
        · have e_ad : (p.1 == c.ad) = false := by simpa using had
          go_wp2_with fail
          go_quiet (fail)
          go_wp2_with fail
          rename_i nq
          go_loopw [5] (fun x wr => ∃ k r : Nat, k ≤ i ∧ x = .int .i64 k ∧ wr = w2.drewN r ∧ ∀ (m : Nat) (q : Int × Int), m < k → L[m]? = some q → q.1 ≠ p.1) (fun x _ => i - (intOf x).toNat)
          case atStart => exact ⟨0, q + nq, Nat.zero_le _, rfl, by simp [World.drewN, Nat.add_assoc], fun m q hm => by omega⟩
          case round =>
            obtain ⟨k, r, hk, rfl, rfl, hne⟩ := hrel
            have Hne := Lib.hid hne
            clear hne
            by_cases hlk : k < i
            · obtain ⟨q2, hq2⟩ : ∃ q2, L[k]? = some q2 := ⟨_, List.getElem?_eq_getElem (by omega)⟩
              obtain ⟨b', off', hA', -, f1, f2⟩ := HR.out.peer hq2
              cases hA'
              by_cases heq : q2.1 = p.1
              · rw [heq] at f1
                go_wp2_with fail
                go_quiet (fail)
                go_wp2_with fail
                go_ret
                exact ⟨false, rfl, ⟨(fun h => by cases h ), fun m => absurd heq ((HALL.out m i p hp).2.2 k q2 hlk hq2)⟩, below_drewN' (below_drewN' B2.out _) _⟩
              · have e_q : (q2.1 == p.1) = false := by simpa using heq
                go_wp2_with fail
                go_quiet (fail)
                go_wp2_with fail
                go_roundw
                case rel =>
                  refine ⟨k + 1, _, by omega, by simp, rfl, fun m q hm hq => ?_⟩
                  by_cases hmk : m = k
                  · subst hmk
                    rw [hq2] at hq
                    cases hq
                    exact heq
                  · exact Hne.out m q (by omega) hq
                case measure => simp [intOf]; omega
            · obtain rfl : k = i := by omega
              go_wp2_with fail
              go_roundw
              case rel =>
                refine ⟨k + 1, _, by omega, by simp, rfl, fun j pp hj hjp => ?_⟩
                by_cases hjk : j = k
                · subst hjk
                  rw [hp] at hjp
                  cases hjp
                  exact ⟨hz, had, fun m q hm hq => Hne.out m q hm hq⟩
                · exact Hok.out j pp (by omega) hjp
              case measure => simp [intOf]; omega
    · obtain rfl : i = L.length := by omega
      go_wp2_with fail
      go_ret
      refine ⟨true, rfl, ⟨fun _ => ?_, fun _ => rfl⟩, below_drewN' B2.out _⟩
      exact ⟨by omega, h2, h3, h4, by rw [hpb]; simp; omega, by omega, fun h => absurd h H7.out, fun _ => ⟨H_ha.out, H_hb.out, H_hc.out, H_hd.out, (fun hd => by rw [H_he.out] at hd; cases hd), (fun h => by rw [hpb] at h; cases h), fun _ => ⟨hg, fun j p hj => Hok.out j p (List.getElem?_eq_some_iff.1 hj).1 hj⟩⟩⟩
theorem rmay_any (w : World) (c : LC) (L : List (Int × Int)) (hL : PeersAt w w.heap.size c.pe L) (hn0 : 0 ≤ c.nb) : Calls Try.prog 29 #[.agg c.cells] w fun e w' => MayPost c L w e w' := by
  by_cases h1 : 4 < c.ty
  · exact may_no1 w c L hL h1 _ rfl
  by_cases h2 : c.ro = 0
  · exact may_no2 w c L hL h1 h2 _ rfl
  by_cases h3 : c.hi = 0
  · exact may_no3 w c L hL h1 h2 h3 _ rfl
  by_cases h4 : c.dd = 0
  · exact may_no4 w c L hL h1 h2 h3 h4 _ rfl
  have hpo : c.peers = decide (0 < c.po) ∨ (c.peers = true ∧ ¬ 0 < c.po) ∨ (c.peers = false ∧ 0 < c.po) := by
    cases c.peers <;> by_cases h : 0 < c.po <;> simp [h]
  rcases hpo with hpo | ⟨hp, h5⟩ | ⟨hp, h5⟩
  · by_cases h6 : 32 < c.nb
    · by_cases h5 : 0 < c.po
      · exact may_no6a w c L hL h1 h2 h3 h4 h5 h6 (by rw [hpo]; simpa using h5)
      · exact may_no6b w c L hL h1 h2 h3 h4 h5 h6 (by rw [hpo]; simpa using h5)
    by_cases h7 : c.ty = 4
    · have hp : c.peers = false := by simp [LC.peers, h7]
      have h5 : ¬ 0 < c.po := by rw [hp] at hpo; simpa using hpo
      by_cases h8 : c.na = 0
      · by_cases h9 : c.nb = 0
        · by_cases ha : c.ad = 0
          · by_cases hb : c.rm = 0
            · exact may_vno_d w c L hL h1 h2 h3 h4 h5 h6 h7 h8 h9 ha hb hp
            · by_cases hc : c.rm = c.ro
              · exact may_vno_e w c L hL h1 h2 h3 h4 h5 h6 h7 h8 h9 ha hb hc hp
              · cases hd : c.ps with
                | true => exact may_vno_f w c L hL h1 h2 h3 h4 h5 h6 h7 h8 h9 ha hb hc hd hp
                | false => exact may_vyes w c L hL h1 h2 h3 h4 h5 h6 h7 h8 h9 ha hb hc hd hp
          · exact may_vno_c w c L hL h1 h2 h3 h4 h5 h6 h7 h8 h9 ha hp
        · exact may_vno_b w c L hL h1 h2 h3 h4 h5 h6 h7 h8 h9 hp
      · exact may_vno_a w c L hL h1 h2 h3 h4 h5 h6 h7 h8 hp
    · by_cases ha : c.rm = 0
      · by_cases hb : c.ad = 0
        · exact may_ono_b w c L hL h1 h2 h3 h4 hpo h6 hn0 h7 ha hb
        · by_cases hc : bits .andNot .u32 c.na (maskN c.nb.toNat) = 0
          · by_cases hd : bits .and .u32 c.ad (maskN c.nb.toNat) = c.na
            · by_cases h5 : 0 < c.po
              · have hp : c.peers = true := by rw [hpo]; simpa using h5
                have hf : c.ty ≠ 3 := fun e => by simp [LC.peers, e] at hp
                cases he : c.dm with
                | true => exact may_ono_e w c L hL h1 h2 h3 h4 hpo h6 hn0 h7 ha hb hc hd he hf
                | false =>
                  by_cases hg : 64 < L.length
                  · exact may_peers_many w c L hL h1 h2 h3 h4 h6 hn0 h7 h5 ha hb hc hd he hp hg
                  · exact may_peers w c L hL h1 h2 h3 h4 h6 hn0 h7 h5 ha hb hc hd he hp (by omega)
              · have hp : c.peers = false := by rw [hpo]; simpa using h5
                cases he : c.dm with
                | true =>
                  by_cases hf : c.ty = 3
                  · exact may_plain_g w c L hL h1 h2 h3 h4 h6 hn0 h7 h5 ha hb hc hd he hf hp
                  · exact may_ono_e w c L hL h1 h2 h3 h4 hpo h6 hn0 h7 ha hb hc hd he hf
                | false => exact may_plain_f w c L hL h1 h2 h3 h4 h6 hn0 h7 h5 ha hb hc hd he hp
            · exact may_ono_d w c L hL h1 h2 h3 h4 hpo h6 hn0 h7 ha hb hc hd
          · exact may_ono_c w c L hL h1 h2 h3 h4 hpo h6 hn0 h7 ha hb hc
      · exact may_ono_a w c L hL h1 h2 h3 h4 hpo h6 hn0 h7 ha
  · exact may_no5a w c L hL h1 h2 h3 h4 h5 hp
  · exact may_no5b w c L hL h1 h2 h3 h4 h5 hp
end Mx
end Go.Proofs.Ytgbmhijgpdgdbaa
