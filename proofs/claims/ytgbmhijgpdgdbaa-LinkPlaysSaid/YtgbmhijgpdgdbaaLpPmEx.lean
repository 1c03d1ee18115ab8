/- The peers of a config, by the program: both ways. -/
import Derived.Test.YtgbmhijgpdgdbaaLpMxX
set_option maxHeartbeats 4000000
set_option maxRecDepth 20000
namespace Go.Proofs.Ytgbmhijgpdgdbaa
open Go.RowKit
def PeersFine (c : LC) (L : List (Int × Int)) : Prop := (c.peers = false → L = []) ∧ (c.peers = true → L.length ≤ 64 ∧ ∀ (i : Nat) (p : Int × Int), L[i]? = some p → p.1 ≠ 0 ∧ p.1 ≠ c.ad ∧ ∀ (k : Nat) (q : Int × Int), k < i → L[k]? = some q → q.1 ≠ p.1)
theorem le64 {n : Nat} (h : decide ((n : Int) ≤ 64) = true) : n ≤ 64 := by
  have h1 := of_decide_eq_true h
  omega
theorem updW_same {α : Type} (M : Int → Option α) (k : Int) (v : Option α) : updW M k v k = v := by unfold updW; simp
theorem peersMay_ex0 (w : World) (c : LC) (L : List (Int × Int)) (hp : c.peers = false) (hL : PeersAt w w.heap.size c.pe L) : Calls Try.prog 64 #[.agg c.cells] w fun e w' => ∃ b, e = .returned (.bool b) ∧ (b = true ↔ PeersFine c L) ∧ Below w.heap.size w w' := by
  have hp2 : ∀ W, Calls Try.prog 63 #[.agg c.cells] W fun e w' => e = .returned (.bool false) ∧ Below W.heap.size W w' := fun W => by have h := peers_any c W; rw [hp] at h; exact h
  have HP := Lib.hid hp2
  obtain ⟨A, cap, hpe, hr⟩ := hL
  have HPE := Lib.hid hpe
  have HPf := Lib.hid hp
  clear hp2 hpe hr hp
  unfold LC.cells at HP ⊢
  go_enter Try.func64, Try.ntmps64
  go_upto_region 1 with fail
  have k1 := Blk.new w 83 c.cells
  unfold LC.cells at k1
  have K1 := Lib.hid k1
  clear k1
  go_wp2_with fail
  refine (HP.out _).mono ?_
  rintro e w1 ⟨rfl, hb1⟩
  have c12 : w1.cell? ⟨w.heap.size, 12, none⟩ = some (.slice A L.length cap) := ((K1.out.below hb1 K1.out.lt).cell 12).trans (congrArg some HPE.out)
  go_wp2_with fail
  go_ret
  refine ⟨_, rfl, ⟨fun h => ⟨fun _ => by simpa using h, fun h0 => (by rw [HPf.out] at h0; cases h0)⟩, fun h => by rw [h.1 HPf.out]; rfl⟩, ((Below.refl _ w).alloc (Nat.le_refl _) _).trans (hb1.mono (by simp))⟩
theorem peersMay_ex1 (w : World) (c : LC) (L : List (Int × Int)) (hp : c.peers = true) (hL : PeersAt w w.heap.size c.pe L) (hlen : L.length ≤ 200) (had : WdOk c.ad) (hwd : ∀ p ∈ L, WdOk p.1) :
    Calls Try.prog 64 #[.agg c.cells] w fun e w' => ∃ b, e = .returned (.bool b) ∧ (b = true ↔ PeersFine c L) ∧ Below w.heap.size w w' := by
  have hp2 : ∀ W, Calls Try.prog 63 #[.agg c.cells] W fun e w' => e = .returned (.bool true) ∧ Below W.heap.size W w' := fun W => by have h := peers_any c W; rw [hp] at h; exact h
  have HP := Lib.hid hp2
  obtain ⟨A, cap, hpe, hr⟩ := hL
  have HPE := Lib.hid hpe
  have HR := Lib.hid hr
  have HWd := Lib.hid hwd
  have HAd := Lib.hid had
  have HPt := Lib.hid hp
  clear hp2 hpe hr hwd had hp
  have hmk := fun w1 : World => run_makeMap (P := Try.prog) 169 w1
  unfold LC.cells at HP ⊢
  go_enter Try.func64, Try.ntmps64
  go_upto_region 1 with fail
  obtain ⟨W0, hW0⟩ : ∃ W0, W0 = w.alloc (.cells c.cells 83) := ⟨_, rfl⟩
  have K0 : Hid (Blk W0 w.heap.size 83 c.cells) := Lib.hid (by rw [hW0]; exact Blk.new w _ _)
  have B0 : Hid (Below w.heap.size w W0) := Lib.hid (by rw [hW0]; exact (Below.refl _ w).alloc (Nat.le_refl _) _)
  unfold LC.cells at hW0
  rw [← hW0]
  clear hW0
  have z0 : W0.cell? ⟨w.heap.size, 0, none⟩ = some (.int .u8 c.ty) := K0.out.cell 0
  have z1 : W0.cell? ⟨w.heap.size, 1, none⟩ = some (.int .u32 c.ro) := K0.out.cell 1
  have z2 : W0.cell? ⟨w.heap.size, 2, none⟩ = some (.int .u32 c.na) := K0.out.cell 2
  have z3 : W0.cell? ⟨w.heap.size, 3, none⟩ = some (.int .u8 c.nb) := K0.out.cell 3
  have z4 : W0.cell? ⟨w.heap.size, 4, none⟩ = some (.int .u32 c.ad) := K0.out.cell 4
  have z5 : W0.cell? ⟨w.heap.size, 5, none⟩ = some (.int .u8 c.op) := K0.out.cell 5
  have z6 : W0.cell? ⟨w.heap.size, 6, none⟩ = some (.int .u16 c.hi) := K0.out.cell 6
  have z7 : W0.cell? ⟨w.heap.size, 7, none⟩ = some (.int .u32 c.dd) := K0.out.cell 7
  have z8 : W0.cell? ⟨w.heap.size, 8, none⟩ = some (.int .u16 c.po) := K0.out.cell 8
  have z9 : W0.cell? ⟨w.heap.size, 9, none⟩ = some (.int .u8 c.pr) := K0.out.cell 9
  have z10 : W0.cell? ⟨w.heap.size, 10, none⟩ = some (.bool c.dm) := K0.out.cell 10
  have z11 : W0.cell? ⟨w.heap.size, 11, none⟩ = some (.bool c.ps) := K0.out.cell 11
  have z12 : W0.cell? ⟨w.heap.size, 12, none⟩ = some (c.pe) := K0.out.cell 12
  have z13 : W0.cell? ⟨w.heap.size, 13, none⟩ = some (.int .u32 c.rm) := K0.out.cell 13
  go_upto_region 1 with fail
  go_upto_region 3 with (go_at_call 63; refine (HP.out _).mono ?_; rintro e w1 ⟨rfl, hb1⟩; have K1 := Lib.hid (K0.out.below hb1 K0.out.lt); have B1 := Lib.hid (B0.out.trans (hb1.mono B0.out.size)); clear z0 z1 z2 z3 z4 z5 z6 z7 z8 z9 z10 z11 z12 z13 hb1)
  have z4 : w1.cell? ⟨w.heap.size, 4, none⟩ = some (.int .u32 c.ad) := K1.out.cell 4
  have hz1 : w.heap.size < w1.heap.size := K1.out.lt
  go_cut [3] (fun p3 wx => ∃ b, p3 = .map (some b) ∧ MapU Value.bool wx b (seen0 c.ad) ∧ Blk wx w.heap.size 83 c.cells ∧ Below w.heap.size w wx ∧ w.heap.size < b)
  case first =>
    have h0 : WdOk 0 := ⟨by decide, by decide⟩
    obtain ⟨V1, hv1, hm1, hg1, hs1⟩ := (MapU.made Value.bool w1).drew.put h0 Try.underlying169 true
    obtain ⟨V2, hv2, hm2, hg2, hs2⟩ := hm1.put HAd.out Try.underlying169 true
    obtain ⟨U1, hu1, hn1, hk1, ht1⟩ := (MapU.made Value.bool w1).drew.put HAd.out Try.underlying169 true
    obtain ⟨U2, hu2, hn2, hk2, ht2⟩ := hn1.put h0 Try.underlying169 true
    have kV1 : Blk V1 w.heap.size 83 c.cells := (K1.out.alloc _).drew.grown hg1 (by simp; omega)
    have kV2 : Blk V2 w.heap.size 83 c.cells := kV1.grown hg2 (by simp; omega)
    have kU1 : Blk U1 w.heap.size 83 c.cells := (K1.out.alloc _).drew.grown hk1 (by simp; omega)
    have kU2 : Blk U2 w.heap.size 83 c.cells := kU1.grown hk2 (by simp; omega)
    have bV1 : Below w.heap.size w V1 := (B1.out.alloc B1.out.size _).drew.grown hg1 (by have := B1.out.size; simp; omega) (fun k hk => by cases hk; omega)
    have bV2 : Below w.heap.size w V2 := bV1.grown hg2 (by have := bV1.size; omega) (fun k hk => by cases hk; omega)
    have bU1 : Below w.heap.size w U1 := (B1.out.alloc B1.out.size _).drew.grown hk1 (by have := B1.out.size; simp; omega) (fun k hk => by cases hk; omega)
    have bU2 : Below w.heap.size w U2 := bU1.grown hk2 (by have := bU1.size; omega) (fun k hk => by cases hk; omega)
    have v4 : V1.cell? ⟨w.heap.size, 4, none⟩ = some (.int .u32 c.ad) := kV1.cell 4
    rw [seen0_comm] at hn2
    unfold wval at hv1 hv2 hu1 hu2
    have Hm2 := Lib.hid hm2
    have Hn2 := Lib.hid hn2
    have KV2 := Lib.hid kV2
    have KU2 := Lib.hid kU2
    have BV2 := Lib.hid bV2
    have BU2 := Lib.hid bU2
    clear hm1 hm2 hn1 hn2 hg1 hg2 hk1 hk2 hs1 hs2 ht1 ht2 kV1 kV2 kU1 kU2 bV1 bV2 bU1 bU2
    go_region_law (fail)
    all_goals
      go_wp2_with fail
      go_meet
      case rel =>
        first
          | exact ⟨_, rfl, Hm2.out, KV2.out, BV2.out, by omega⟩
          | exact ⟨_, rfl, Hn2.out, KU2.out, BU2.out, by omega⟩
  obtain ⟨b, rfl, hM, hK, hB, hwb⟩ := hcut
  have KC := Lib.hid hK
  have BC := Lib.hid hB
  have MC := Lib.hid hM
  have y12 : wc.cell? ⟨w.heap.size, 12, none⟩ = some (.slice A L.length cap) := (hK.cell 12).trans (congrArg some HPE.out)
  have hzc : w.heap.size < wc.heap.size := hK.lt
  clear hK hB hM z4
  go_wp2_with fail
  go_loopw [20] (fun x wr => ∃ (i : Nat) (M : Int → Option Bool), i ≤ L.length ∧ x = .int .i64 i ∧ MapU Value.bool wr b M ∧ (∀ k, (M k = some true ∧ (k = 0 ∨ k = c.ad ∨ ∃ j q, j < i ∧ L[j]? = some q ∧ q.1 = k)) ∨ (M k = none ∧ k ≠ 0 ∧ k ≠ c.ad ∧ ∀ (j : Nat) (q : Int × Int), j < i → L[j]? = some q → q.1 ≠ k)) ∧ (∀ (j : Nat) (p : Int × Int), j < i → L[j]? = some p → p.1 ≠ 0 ∧ p.1 ≠ c.ad ∧ ∀ (k : Nat) (q : Int × Int), k < j → L[k]? = some q → q.1 ≠ p.1) ∧ Blk wr w.heap.size 83 c.cells ∧ Below w.heap.size w wr) (fun x _ => L.length - (intOf x).toNat)
  case atStart =>
    refine ⟨0, _, Nat.zero_le _, rfl, MC.out, fun k => ?_, fun j p hj => by omega, KC.out, BC.out⟩
    unfold seen0 updW
    by_cases h1 : k = c.ad
    · exact .inl ⟨by simp [h1], .inr (.inl h1)⟩
    · by_cases h2 : k = 0
      · exact .inl ⟨by simp [h2], .inl h2⟩
      · exact .inr ⟨by simp [h1, h2], h2, h1, fun j q hj => by omega⟩
  case round =>
    obtain ⟨i, M, hi, rfl, hM, hsub, hdst, hK, hB⟩ := hrel
    have HD := Lib.hid hdst
    have HM := Lib.hid hM
    have HS := Lib.hid hsub
    have HK := Lib.hid hK
    have HB := Lib.hid hB
    have hbl : b < wr.heap.size := hM.lt
    have hzl : w.heap.size < wr.heap.size := hK.lt
    have x12 : wr.cell? ⟨w.heap.size, 12, none⟩ = some (.slice A L.length cap) := (hK.cell 12).trans (congrArg some HPE.out)
    clear hM hsub hdst hK hB y12
    by_cases hlt : i < L.length
    · obtain ⟨p, hp⟩ : ∃ p, L[i]? = some p := ⟨_, List.getElem?_eq_getElem hlt⟩
      obtain ⟨g, off, hA, hgB, ew1, ew2⟩ := HR.out.peer hp
      subst hA
      have e1 : wr.cell? ⟨g, off + i * 2, none⟩ = some (.int .u32 p.1) := (HB.out.cell hgB).trans ew1
      have e2 : wr.cell? ⟨g, off + i * 2 + 1, none⟩ = some (.int .u8 p.2) := (HB.out.cell hgB).trans ew2
      have hgl : g < wr.heap.size := by omega
      have hok : WdOk p.1 := HWd.out p (List.mem_of_getElem? hp)
      rcases HS.out p.1 with ⟨hm, hwhy⟩ | ⟨hnone, a1, a2, a3⟩
      · have hlk := (HM.out.alloc (.cells #[.int .u32 p.1, .int .u8 p.2] 136)).look hok Try.underlying169 (Try.zeroValue4 _) false
        rw [hm] at hlk
        unfold wval at hlk
        simp only [Option.elim] at hlk
        have HNo : Hid (¬ PeersFine c L) := Lib.hid (fun h => by
          obtain ⟨b1, b2, b3⟩ := (h.2 HPt.out).2 i p hp
          rcases hwhy with e | e | ⟨j, q, hj, hq, e⟩
          · exact b1 e
          · exact b2 e
          · exact b3 j q hj hq e)
        clear ew1 ew2 hm hwhy
        go_wp2_with fail
        go_ret
        exact ⟨false, rfl, ⟨fun h => (by cases h), fun h => absurd h HNo.out⟩, HB.out.alloc HB.out.size _⟩
      have hlk := (HM.out.alloc (.cells #[.int .u32 p.1, .int .u8 p.2] 136)).look hok Try.underlying169 (Try.zeroValue4 _) false
      rw [hnone] at hlk
      unfold wval at hlk
      simp only [Option.elim] at hlk
      obtain ⟨W2, hr2, hM2, hg2, hs2⟩ := (HM.out.alloc (.cells #[.int .u32 p.1, .int .u8 p.2] 136)).put hok Try.underlying169 true
      unfold wval at hr2
      have HR2 := Lib.hid hr2
      have HM2 := Lib.hid hM2
      have HG2 := Lib.hid hg2
      clear hr2 hM2 hg2 hs2 ew1 ew2
      go_wp2_with (refine wpList_update rfl (.tmp 28) (.tmp 30) (.const (.bool true)) 169 rfl rfl rfl rfl HR2.out ?_)
      go_roundw
      case rel =>
        refine ⟨i + 1, _, by omega, by simp, HM2.out, fun k => ?_, fun j q hj hq => ?_, (HK.out.alloc _).grown HG2.out (by simp; omega), ((HB.out.alloc HB.out.size _).grown HG2.out (by have := HB.out.size; simp; omega) (fun k hk => by cases hk; omega))⟩
        · by_cases hkp : k = p.1
          · subst hkp
            exact .inl ⟨updW_same _ _ _, .inr (.inr ⟨i, p, by omega, hp, rfl⟩)⟩
          · rw [updW_ne hkp]
            rcases HS.out k with ⟨h1, h2⟩ | ⟨h1, h2, h3, h4⟩
            · refine .inl ⟨h1, ?_⟩
              rcases h2 with h | h | ⟨j, q, hj, hq, he⟩
              · exact .inl h
              · exact .inr (.inl h)
              · exact .inr (.inr ⟨j, q, by omega, hq, he⟩)
            · refine .inr ⟨h1, h2, h3, fun j q hj hq => ?_⟩
              by_cases hji : j = i
              · subst hji
                rw [hp] at hq
                cases hq
                exact fun e => hkp e.symm
              · exact h4 j q (by omega) hq
        · by_cases hji : j = i
          · subst hji
            rw [hp] at hq
            cases hq
            exact ⟨a1, a2, fun k q hk hq => a3 k q hk hq⟩
          · exact HD.out j q (by omega) hq
      case measure => simp [intOf]; omega
    · obtain rfl : i = L.length := by omega
      go_wp2_with fail
      go_ret
      refine ⟨_, rfl, ⟨fun h => ⟨fun h0 => (by rw [HPt.out] at h0; cases h0), fun _ => ⟨le64 h, fun j p hj => HD.out j p (List.getElem?_eq_some_iff.1 hj).1 hj⟩⟩, fun h => by have := (h.2 HPt.out).1; simp; omega⟩, HB.out⟩
noncomputable def pmB (c : LC) (L : List (Int × Int)) : Bool := @decide (PeersFine c L) (Classical.propDecidable _)
theorem pmB_iff (c : LC) (L : List (Int × Int)) : pmB c L = true ↔ PeersFine c L := by unfold pmB; exact @decide_eq_true_iff _ (Classical.propDecidable _)
theorem peersMay_ex (w : World) (c : LC) (L : List (Int × Int)) (hL : PeersAt w w.heap.size c.pe L) (hlen : L.length ≤ 200) (had : WdOk c.ad) (hwd : ∀ p ∈ L, WdOk p.1) :
    Calls Try.prog 64 #[.agg c.cells] w fun e w' => e = .returned (.bool (pmB c L)) ∧ Below w.heap.size w w' := by
  have key : ∀ (e : Ending) (w' : World), (∃ b, e = .returned (.bool b) ∧ (b = true ↔ PeersFine c L) ∧ Below w.heap.size w w') → e = .returned (.bool (pmB c L)) ∧ Below w.heap.size w w' := by
    rintro e w' ⟨b, rfl, hb, hw⟩
    have e : b = pmB c L := by
      rw [Bool.eq_iff_iff, hb, pmB_iff]
    exact ⟨by rw [e], hw⟩
  cases hp : c.peers with
  | false => exact (peersMay_ex0 w c L hp hL).mono key
  | true => exact (peersMay_ex1 w c L hp hL hlen had hwd).mono key
end Go.Proofs.Ytgbmhijgpdgdbaa
