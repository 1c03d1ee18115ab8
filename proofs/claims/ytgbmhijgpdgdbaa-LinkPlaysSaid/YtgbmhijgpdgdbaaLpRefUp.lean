/- The document's link: Up. -/
import Derived.Test.YtgbmhijgpdgdbaaLpRefPlace
import Derived.Deep.CutBlock
set_option maxHeartbeats 8000000
set_option maxRecDepth 20000
namespace Go.Proofs.Ytgbmhijgpdgdbaa
open Go.RowKit Go.Shelf
def Pl.upS1 (c : LC) (s : Pl.St) : Pl.St := { s with st := if c.shared = false then 3 else if c.pr = 0 then 4 else 2, wt := if c.shared = true ∧ c.pr ≠ 0 then c.dd else s.wt }
section
variable {lo : Nat} {w : World} {R : Nat} {c : LC} {s : Pl.St} {v : Value} {L : List (Int × Int)}
theorem RAt.cell1 (h : RAt lo w R c s v) {s' : Pl.St} {j : Nat} {u : Value} (hk : (rlk c s v).setIfInBounds j u = rlk c s' v) (hl : s'.l = s.l) : RAt lo (w.setCell ⟨R, j, none⟩ u) R c s' v ∧ Frame (fun i => i = R) w (w.setCell ⟨R, j, none⟩ u) := by
  have hf : Frame (fun i => i = R) w (w.setCell ⟨R, j, none⟩ u) := (Frame.refl _ w).setB j _
  have hb : RBlk (w.setCell ⟨R, j, none⟩ u) R c s' v := by
    have := h.b.set_ j u
    rw [hk] at this
    exact this
  exact ⟨(h.turn hf hb hl).1, hf⟩
theorem rup_any (h : RAt lo w R c s v) (hpe : PeersAt w lo c.pe L) (g : Pl.CfgOk c L) :
    Calls Try.prog 78 #[.pointer (some ⟨R, 0, none⟩)] w fun e w' => ∃ u v', e = .returned u ∧ OutsAt w' u (Pl.upOut c L s) ∧ RAt lo w' R c (Pl.upSt c L s) v' ∧ RFr lo w w' := by
  have H := Lib.hid h
  have HPe := Lib.hid hpe
  have G := Lib.hid g
  have hlow : lo ≤ w.heap.size := by have := h.loR; have := h.b.lt; omega
  have c14 : w.cell? ⟨R, 14, none⟩ = some (.int .u8 s.st) := h.b.cell 14
  have c11 : w.cell? ⟨R, 11, none⟩ = some (.bool c.ps) := h.b.cell 11
  have hlt := h.b.lt
  have fz := h.b.frozen
  clear h hpe g
  by_cases h1 : s.st = 0
  rotate_left
  · have HO : Hid (Pl.upOut c L s = [] ∧ Pl.upSt c L s = s) := Lib.hid (by unfold Pl.upOut Pl.upSt; rw [if_pos (.inl h1), if_pos h1]; exact ⟨rfl, rfl⟩)
    have e1 : (s.st != 0) = true := by simpa using h1
    clear h1
    go_enter Try.func78, Try.ntmps78
    go_wp2_with fail
    go_ret
    exact ⟨_, v, rfl, by rw [HO.out.1]; exact OutsAt.nil _, by rw [HO.out.2]; exact H.out, RFr.refl _ _⟩
  have H1 := Lib.hid h1
  rw [h1] at c14
  clear h1
  rcases hps : c.ps with _ | _
  rotate_left
  · have HO : Hid (Pl.upOut c L s = [] ∧ Pl.upSt c L s = { s with st := 1 }) := Lib.hid (by unfold Pl.upOut Pl.upSt; rw [if_pos (.inr hps), if_neg (by rw [H1.out]; decide), if_pos hps]; exact ⟨rfl, rfl⟩)
    rw [hps] at c11
    clear hps
    go_enter Try.func78, Try.ntmps78
    go_wp2_with fail
    obtain ⟨h2, hf2⟩ := H.out.cell1 (s' := { s with st := 1 }) (j := 14) (u := .int .u8 1) rfl rfl
    go_ret
    exact ⟨_, v, rfl, by rw [HO.out.1]; exact OutsAt.nil _, by rw [HO.out.2]; exact h2, RFr.one H.out.b H.out.loR (.inl rfl) hf2⟩
  have HO : Hid (Pl.upOut c L s = Pl.round c (Pl.upSt c L s) false ∧ Pl.upSt c L s = { Pl.upS1 c s with nx := c.hi, po := c.po, l := L.map (Pl.fresh c) }) := Lib.hid (by
    unfold Pl.upOut Pl.upSt Pl.upS1
    rw [if_neg (by rw [H1.out, hps]; decide), if_neg (by rw [H1.out]; decide), if_neg (by rw [hps]; decide)]
    exact ⟨rfl, rfl⟩)
  rw [hps] at c11
  have HSh : Hid (∀ W, Calls Try.prog 113 #[.agg #[.int .u8 c.ty, .int .u32 c.ro, .int .u32 c.na, .int .u8 c.nb, .int .u32 c.ad, .int .u8 c.op, .int .u16 c.hi, .int .u32 c.dd, .int .u16 c.po, .int .u8 c.pr, .bool c.dm, .bool false, c.pe, .int .u32 c.rm]] W fun e w' => e = .returned (.bool c.shared) ∧ Below W.heap.size W w') := Lib.hid (fun W => by have h := rshared_any c W; unfold LC.cells at h; rw [hps] at h; exact h)
  clear hps
  have c0 : w.cell? ⟨R, 0, none⟩ = some (.int .u8 c.ty) := H.out.b.cell 0
  have c1 : w.cell? ⟨R, 1, none⟩ = some (.int .u32 c.ro) := H.out.b.cell 1
  have c2 : w.cell? ⟨R, 2, none⟩ = some (.int .u32 c.na) := H.out.b.cell 2
  have c3 : w.cell? ⟨R, 3, none⟩ = some (.int .u8 c.nb) := H.out.b.cell 3
  have c4 : w.cell? ⟨R, 4, none⟩ = some (.int .u32 c.ad) := H.out.b.cell 4
  have c5 : w.cell? ⟨R, 5, none⟩ = some (.int .u8 c.op) := H.out.b.cell 5
  have c6 : w.cell? ⟨R, 6, none⟩ = some (.int .u16 c.hi) := H.out.b.cell 6
  have c7 : w.cell? ⟨R, 7, none⟩ = some (.int .u32 c.dd) := H.out.b.cell 7
  have c8 : w.cell? ⟨R, 8, none⟩ = some (.int .u16 c.po) := H.out.b.cell 8
  have c9 : w.cell? ⟨R, 9, none⟩ = some (.int .u8 c.pr) := H.out.b.cell 9
  have c10 : w.cell? ⟨R, 10, none⟩ = some (.bool c.dm) := H.out.b.cell 10
  have c12 : w.cell? ⟨R, 12, none⟩ = some (c.pe) := H.out.b.cell 12
  have c13 : w.cell? ⟨R, 13, none⟩ = some (.int .u32 c.rm) := H.out.b.cell 13
  go_enter Try.func78, Try.ntmps78
  go_upto_block 0 with fail
  go_cut [] from 5 to 48 (fun wx => Hid (RAt lo wx R c (Pl.upS1 c s) v) ∧ Hid (RFr lo w wx))
  case first =>
    go_wp2_with fail
    refine (HSh.out _).mono ?_
    rintro e w2 ⟨rfl, hb2⟩
    have HR2 := Lib.hid (H.out.below hb2)
    have HF2 : Hid (RFr lo w w2) := Lib.hid (RFr.of_below hb2)
    clear hb2 c0 c1 c2 c3 c4 c5 c6 c7 c8 c9 c10 c11 c12 c13 c14 hlt fz
    have d7 : w2.cell? ⟨R, 7, none⟩ = some (.int .u32 c.dd) := HR2.out.b.cell 7
    have d9 : w2.cell? ⟨R, 9, none⟩ = some (.int .u8 c.pr) := HR2.out.b.cell 9
    have d14 : w2.cell? ⟨R, 14, none⟩ = some (.int .u8 s.st) := HR2.out.b.cell 14
    have d17 : w2.cell? ⟨R, 17, none⟩ = some (.int .u32 s.wt) := HR2.out.b.cell 17
    have hlt := HR2.out.b.lt
    have fz := HR2.out.b.frozen
    rcases hsh : c.shared with _ | _
    · have HE : Hid (Pl.upS1 c s = { s with st := 3 }) := Lib.hid (by unfold Pl.upS1; rw [hsh]; rfl)
      clear hsh
      go_wp2_with fail
      go_meet
      case rel =>
        obtain ⟨h2, hf2⟩ := HR2.out.cell1 (s' := { s with st := 3 }) (j := 14) (u := .int .u8 3) rfl rfl
        exact ⟨Lib.hid (by rw [HE.out]; exact h2), Lib.hid (HF2.out.trans (RFr.one HR2.out.b HR2.out.loR (.inl rfl) hf2))⟩
    · by_cases hp : c.pr = 0
      · have HE : Hid (Pl.upS1 c s = { s with st := 4 }) := Lib.hid (by unfold Pl.upS1; rw [hsh, if_neg (by decide), if_pos hp, if_neg (fun e => e.2 hp)])
        rw [hp] at d9
        clear hsh hp
        go_wp2_with fail
        go_meet
        case rel =>
          obtain ⟨h2, hf2⟩ := HR2.out.cell1 (s' := { s with st := 4 }) (j := 14) (u := .int .u8 4) rfl rfl
          exact ⟨Lib.hid (by rw [HE.out]; exact h2), Lib.hid (HF2.out.trans (RFr.one HR2.out.b HR2.out.loR (.inl rfl) hf2))⟩
      · have HE : Hid (Pl.upS1 c s = { s with st := 2, wt := c.dd }) := Lib.hid (by unfold Pl.upS1; rw [hsh, if_neg (by decide), if_neg hp, if_pos ⟨rfl, hp⟩])
        have ep : (c.pr == 0) = false := by simpa using hp
        clear hsh hp
        go_wp2_with fail
        go_meet
        case rel =>
          obtain ⟨h2, hf2⟩ := HR2.out.cell1 (s' := { s with st := 2 }) (j := 14) (u := .int .u8 2) rfl rfl
          obtain ⟨h3, hf3⟩ := h2.cell1 (s' := { s with st := 2, wt := c.dd }) (j := 17) (u := .int .u32 c.dd) rfl rfl
          exact ⟨Lib.hid (by rw [HE.out]; exact h3), Lib.hid (HF2.out.trans ((RFr.one HR2.out.b HR2.out.loR (.inl rfl) hf2).trans (RFr.one h2.b HR2.out.loR (.inl rfl) hf3)))⟩
  obtain ⟨HR2, HF2⟩ := hcut
  obtain ⟨w2, hw2⟩ : ∃ y, y = wc := ⟨_, rfl⟩
  rw [← hw2] at HR2 HF2 ⊢
  clear hw2 c0 c1 c2 c3 c4 c5 c6 c7 c8 c9 c10 c11 c12 c13 c14 hlt fz
  obtain ⟨s1, hs1⟩ : ∃ s1, Pl.upS1 c s = s1 := ⟨_, rfl⟩
  rw [hs1] at HR2
  have HS1 := Lib.hid hs1
  clear hs1
  have d21 : w2.cell? ⟨R, 21, none⟩ = some v := HR2.out.b.cell 21
  have hlt := HR2.out.b.lt
  have fz := HR2.out.b.frozen
  go_upto_region 13 with fail
  obtain ⟨w3, hw3⟩ : ∃ w3, w3 = w2.setCell ⟨R, 21, none⟩ (.slice none 0 0) := ⟨_, rfl⟩
  have hK3 : RBlk w3 R c { s1 with l := [] } (.slice none 0 0) := by rw [hw3]; exact HR2.out.b.set_ 21 _
  have hF3 : Frame (fun j => j = R) w2 w3 := by rw [hw3]; exact (Frame.refl _ w2).setB 21 _
  have HR3 : Hid (RAt lo w3 R c { s1 with l := (L.take 0).map (Pl.fresh c) } (.slice none 0 0)) := Lib.hid ⟨HR2.out.loR, hK3, World.ownsRow_nil _ _ _ _⟩
  have HF3 := Lib.hid (HF2.out.trans (RFr.one HR2.out.b HR2.out.loR (.inl rfl) hF3))
  rw [← hw3]
  clear hw3 hK3 hF3 d21 hlt fz
  obtain ⟨n, hn⟩ : ∃ n, L.length = n := ⟨_, rfl⟩
  have Hn := Lib.hid hn
  have hn64 : n ≤ 64 := by rw [← hn]; exact G.out.ln
  clear hn
  obtain ⟨i0, hi0, hz0', hz1, hz2⟩ := info_parts rnb_info
  go_wp2_with fail
  go_loopw [3] (fun x wr => ∃ (k : Nat) (v' : Value), k ≤ n ∧ x = .int .i64 k ∧ Hid (RAt lo wr R c { s1 with l := (L.take k).map (Pl.fresh c) } v') ∧ Hid (RFr lo w wr)) (fun x _ => n - (intOf x).toNat)
  case atStart => exact ⟨0, _, Nat.zero_le _, rfl, HR3, HF3⟩
  case round =>
    obtain ⟨k, v', hk, rfl, HR, HF⟩ := hrel
    obtain ⟨A, cp, hv⟩ := own_slice HR.out.o
    have hlk : ((L.take k).map (Pl.fresh c)).length = k := by rw [List.length_map, List.length_take, Hn.out]; omega
    rw [hlk] at hv
    subst hv
    obtain ⟨PA, pcap, hpe1, hpe2⟩ := HPe.out.rfr HF.out hlow
    have HPr := Lib.hid hpe2
    have c12 : wr.cell? ⟨R, 12, none⟩ = some (.slice PA n pcap) := by rw [← Hn.out]; exact (HR.out.b.cell 12).trans (congrArg some hpe1)
    have hRl := HR.out.b.lt
    have Hlk := Lib.hid hlk
    clear hpe1 hpe2 hlk
    by_cases hkn : k < n
    · obtain ⟨p, hpp⟩ : ∃ p, L[k]? = some p := ⟨_, List.getElem?_eq_getElem (by rw [Hn.out]; exact hkn)⟩
      obtain ⟨pb, po, hPA, hpb, hp0, hp1⟩ := HPr.out.peer hpp
      subst hPA
      have hpb1 : pb < wr.heap.size := by have := HF.out.size; omega
      have Hpp := Lib.hid hpp
      have hkI : (k : Int) < (n : Int) := by omega
      clear hpp
      go_upto_region 16 with fail
      go_cut [4] from 62 to 80 (fun p4 wx => ∃ K : Nat, p4 = .pointer (some ⟨K, 0, none⟩) ∧ Hid (Blk wx K 157 #[.int .u32 0, .int .u32 p.1, .int .u8 0, .int .u8 p.2, .int .u32 0, .int .u32 0, .int .u8 0, .int .u32 0, .bool false]) ∧ Hid (wr.heap.size ≤ K) ∧ Hid (Below wr.heap.size wr wx))
      case first =>
        go_region_held3 (fun w' => w'.cell? ⟨R, 12, none⟩ = some (.slice (some ⟨pb, po, none⟩) n pcap) ∧ w'.cell? ⟨pb, po + k * 2, none⟩ = some (.int .u32 p.1) ∧ w'.cell? ⟨pb, po + k * 2 + 1, none⟩ = some (.int .u8 p.2)) (go_keep) (fail)
        all_goals clear c12 hp0 hp1
        all_goals
          go_wp2_with fail
          go_meet
          case rel =>
            refine ⟨_, rfl, Lib.hid ?_, Lib.hid (Nat.le_refl _), Lib.hid ?_⟩
            · exact (Blk.new wr 157 #[.int .u32 0, .int .u32 p.1, .int .u8 0, .int .u8 p.2, .int .u32 0, .int .u32 0, .int .u8 0, .int .u32 0, .bool false]).drew
            · exact ((Below.refl _ wr).alloc (Nat.le_refl _) _).drew
      obtain ⟨K, rfl, HK4, HKl, HB4⟩ := hcut
      obtain ⟨w4, hw4⟩ : ∃ y, y = wc := ⟨_, rfl⟩
      rw [← hw4] at HK4 HB4 ⊢
      clear hw4 c12 hp0 hp1 hRl
      have HR4 := Lib.hid (HR.out.below HB4.out)
      have c0 : w4.cell? ⟨R, 0, none⟩ = some (.int .u8 c.ty) := HR4.out.b.cell 0
      have c9 : w4.cell? ⟨R, 9, none⟩ = some (.int .u8 c.pr) := HR4.out.b.cell 9
      have k3 : w4.cell? ⟨K, 3, none⟩ = some (.int .u8 p.2) := HK4.out.cell 3
      have hRl := HR4.out.b.lt
      have hKl := HK4.out.lt
      obtain ⟨fb, hfb⟩ : ∃ b : Bool, b = ((c.ty == 2) || (decide (0 < c.pr) && decide (0 < p.2))) := ⟨_, rfl⟩
      have HFb := Lib.hid hfb
      clear hfb
      go_upto_region 17 with fail
      go_cut [99] from 81 to 98 (fun q wx => q = .bool fb ∧ w4 = wx)
      case first =>
        by_cases t2 : c.ty = 2
        · have HV : Hid (fb = true) := Lib.hid (by rw [HFb.out, t2]; rfl)
          rw [t2] at c0
          clear t2
          go_wp2_with fail
          go_meet
          case rel => exact ⟨by rw [HV.out], rfl⟩
        · have e2 : (c.ty == 2) = false := by simpa using t2
          clear t2
          by_cases hp : 0 < c.pr
          · by_cases hq : 0 < p.2
            · have HV : Hid (fb = true) := Lib.hid (by rw [HFb.out, e2, decide_eq_true hp, decide_eq_true hq]; rfl)
              go_wp2_with fail
              go_meet
              case rel => exact ⟨by rw [HV.out], rfl⟩
            · have HV : Hid (fb = false) := Lib.hid (by rw [HFb.out, e2, decide_eq_true hp, decide_eq_false hq]; rfl)
              have hq2 : p.2 ≤ 0 := by omega
              clear hq
              go_wp2_with fail
              go_meet
              case rel => exact ⟨by first | (rw [HV.out]; done) | (rw [HV.out, decide_eq_false (by omega)]), rfl⟩
          · have HV : Hid (fb = false) := Lib.hid (by rw [HFb.out, e2, decide_eq_false hp]; rfl)
            have hp2 : c.pr ≤ 0 := by omega
            clear hp
            go_wp2_with fail
            go_meet
            case rel => exact ⟨by rw [HV.out], rfl⟩
      obtain ⟨rfl, rfl⟩ := hcut
      have c7 : w4.cell? ⟨R, 7, none⟩ = some (.int .u32 c.dd) := HR4.out.b.cell 7
      have k2 : w4.cell? ⟨K, 2, none⟩ = some (.int .u8 0) := HK4.out.cell 2
      have k7 : w4.cell? ⟨K, 7, none⟩ = some (.int .u32 0) := HK4.out.cell 7
      have fK := HK4.out.frozen
      have HKR : Hid (K ≠ R) := Lib.hid (by have := HR.out.b.lt; have := HKl.out; omega)
      have hKR := HKR.out
      clear c0 c9 k3
      go_upto_if 99 with fail
      go_cut [] from 99 to 106 (fun wx => Hid (Blk wx K 157 #[.int .u32 (Pl.fresh c p).ro, .int .u32 (Pl.fresh c p).ad, .int .u8 (Pl.fresh c p).st, .int .u8 (Pl.fresh c p).pr, .int .u32 (Pl.fresh c p).dr, .int .u32 (Pl.fresh c p).bd, .int .u8 (Pl.fresh c p).op, .int .u32 (Pl.fresh c p).lf, .bool (Pl.fresh c p).fu]) ∧ Hid (Below wr.heap.size wr wx))
      case first =>
        rcases fb with _ | _
        · have HV : Hid (Pl.fresh c p = Pl.gone p) := Lib.hid (by
            have h0 := HFb.out.symm
            unfold Pl.fresh
            rw [if_neg]
            intro h1
            rcases h1 with h1 | ⟨h1, h2⟩
            · rw [h1] at h0; cases h0
            · rw [decide_eq_true h1, decide_eq_true h2] at h0; simp at h0)
          go_wp2_with fail
          go_meet
          case rel => exact ⟨Lib.hid (by rw [HV.out]; exact HK4.out), HB4⟩
        · have HV : Hid (Pl.fresh c p = { Pl.gone p with st := 1, lf := c.dd }) := Lib.hid (by
            have h0 := HFb.out.symm
            unfold Pl.fresh
            rw [if_pos]
            simp only [Bool.or_eq_true, Bool.and_eq_true, decide_eq_true_eq, beq_iff_eq] at h0
            exact h0)
          go_wp2_with fail
          go_meet
          case rel =>
            refine ⟨Lib.hid ?_, Lib.hid ?_⟩
            · rw [HV.out]
              exact (HK4.out.set_ 2 _).set_ 7 _
            · exact (HB4.out.setCell (p := ⟨K, 2, none⟩) HKl.out _).setCell (p := ⟨K, 7, none⟩) HKl.out _
      obtain ⟨HK5, HB5⟩ := hcut
      obtain ⟨w5, hw5⟩ : ∃ y, y = wc := ⟨_, rfl⟩
      rw [← hw5] at HK5 HB5 ⊢
      clear hw5 c7 k2 k7 fK hKR hRl hKl HR4 HB4 HK4
      have HR5 := Lib.hid (HR.out.below HB5.out)
      have c21 : w5.cell? ⟨R, 21, none⟩ = some (.slice A k cp) := HR5.out.b.cell 21
      have hRl := HR5.out.b.lt
      have hKl := HK5.out.lt
      have k0 : w5.cell? ⟨K, 0, none⟩ = some (.int .u32 (Pl.fresh c p).ro) := HK5.out.cell 0
      have k1 : w5.cell? ⟨K, 1, none⟩ = some (.int .u32 (Pl.fresh c p).ad) := HK5.out.cell 1
      have k2 : w5.cell? ⟨K, 2, none⟩ = some (.int .u8 (Pl.fresh c p).st) := HK5.out.cell 2
      have k3 : w5.cell? ⟨K, 3, none⟩ = some (.int .u8 (Pl.fresh c p).pr) := HK5.out.cell 3
      have k4 : w5.cell? ⟨K, 4, none⟩ = some (.int .u32 (Pl.fresh c p).dr) := HK5.out.cell 4
      have k5 : w5.cell? ⟨K, 5, none⟩ = some (.int .u32 (Pl.fresh c p).bd) := HK5.out.cell 5
      have k6 : w5.cell? ⟨K, 6, none⟩ = some (.int .u8 (Pl.fresh c p).op) := HK5.out.cell 6
      have k7 : w5.cell? ⟨K, 7, none⟩ = some (.int .u32 (Pl.fresh c p).lf) := HK5.out.cell 7
      have k8 : w5.cell? ⟨K, 8, none⟩ = some (.bool (Pl.fresh c p).fu) := HK5.out.cell 8
      obtain ⟨ls, hls⟩ : ∃ l, (L.take k).map (Pl.fresh c) = l := ⟨_, rfl⟩
      have hlsk : ls.length = k := by rw [← hls]; exact Hlk.out
      have hown5 : w5.ownsRow lo 157 9 (.slice A k cp) k (ls.flatMap rcells) := by rw [← hls]; have h := HR5.out.o; rw [show (L.take k).map (Pl.fresh c) = ls from hls] at h ⊢; rw [← hlsk] ; rw [← hlsk] at h; exact h
      have hb6 : Below w5.heap.size w5 (w5.alloc (.cells #[.int .u32 (Pl.fresh c p).ro, .int .u32 (Pl.fresh c p).ad, .int .u8 (Pl.fresh c p).st, .int .u8 (Pl.fresh c p).pr, .int .u32 (Pl.fresh c p).dr, .int .u32 (Pl.fresh c p).bd, .int .u8 (Pl.fresh c p).op, .int .u32 (Pl.fresh c p).lf, .bool (Pl.fresh c p).fu] 157)).drew := ((Below.refl _ w5).alloc (Nat.le_refl _) _).drew
      have HOwn6 := Lib.hid ((Frame.of_below (S := fun _ => False) hb6).own hown5 (fun _ _ e => e))
      have HRd6 : Hid (Reads (w5.alloc (.cells #[.int .u32 (Pl.fresh c p).ro, .int .u32 (Pl.fresh c p).ad, .int .u8 (Pl.fresh c p).st, .int .u8 (Pl.fresh c p).pr, .int .u32 (Pl.fresh c p).dr, .int .u32 (Pl.fresh c p).bd, .int .u8 (Pl.fresh c p).op, .int .u32 (Pl.fresh c p).lf, .bool (Pl.fresh c p).fu] 157)).drew _ 9 (some ⟨w5.heap.size, 0, none⟩) 1 (#[.int .u32 (Pl.fresh c p).ro, .int .u32 (Pl.fresh c p).ad, .int .u8 (Pl.fresh c p).st, .int .u8 (Pl.fresh c p).pr, .int .u32 (Pl.fresh c p).dr, .int .u32 (Pl.fresh c p).bd, .int .u8 (Pl.fresh c p).op, .int .u32 (Pl.fresh c p).lf, .bool (Pl.fresh c p).fu] : Array Value).toList) := Lib.hid (Reads.of_own ((Frame.of_below (S := fun _ => False) (Below.refl _ (w5.alloc (.cells #[.int .u32 (Pl.fresh c p).ro, .int .u32 (Pl.fresh c p).ad, .int .u8 (Pl.fresh c p).st, .int .u8 (Pl.fresh c p).pr, .int .u32 (Pl.fresh c p).dr, .int .u32 (Pl.fresh c p).bd, .int .u8 (Pl.fresh c p).op, .int .u32 (Pl.fresh c p).lf, .bool (Pl.fresh c p).fu] 157))).drew).own (World.ownsRow_lit (base := 0) (e := 157) (size := 9) w5 #[.int .u32 (Pl.fresh c p).ro, .int .u32 (Pl.fresh c p).ad, .int .u8 (Pl.fresh c p).st, .int .u8 (Pl.fresh c p).pr, .int .u32 (Pl.fresh c p).dr, .int .u32 (Pl.fresh c p).bd, .int .u8 (Pl.fresh c p).op, .int .u32 (Pl.fresh c p).lf, .bool (Pl.fresh c p).fu] 1 (Nat.zero_le _) (by simp [maxLen]) rfl) (fun _ _ e => e)))
      have HR6 := Lib.hid (HR5.out.below hb6)
      have HLs := Lib.hid hls
      have Hlsk := Lib.hid hlsk
      have hk64 : k ≤ 64 := by omega
      clear hown5 hb6 hls hlsk
      go_upto_region 20 with fail
      have hstep : ∀ (ops : Array Oper) (o : Oper) (a : Act) (K : Act → World → Prop) (Q : Exit → Act → World → Prop) (E : Prop), o.guard = none → o.op = .call { callee := .builtin .append, args := #[.tmp 111, .tmp 113], argTypes := #[146, 146] } → a.eval (.tmp 111) = .slice A k cp → a.eval (.tmp 113) = .slice (some ⟨w5.heap.size, 0, none⟩) 1 1 →
          (∀ v' w', w'.ownsRow lo 157 9 v' (k + 1) (ls.flatMap rcells ++ (#[.int .u32 (Pl.fresh c p).ro, .int .u32 (Pl.fresh c p).ad, .int .u8 (Pl.fresh c p).st, .int .u8 (Pl.fresh c p).pr, .int .u32 (Pl.fresh c p).dr, .int .u32 (Pl.fresh c p).bd, .int .u8 (Pl.fresh c p).op, .int .u32 (Pl.fresh c p).lf, .bool (Pl.fresh c p).fu] : Array Value).toList) → (w5.alloc (.cells #[.int .u32 (Pl.fresh c p).ro, .int .u32 (Pl.fresh c p).ad, .int .u8 (Pl.fresh c p).st, .int .u8 (Pl.fresh c p).pr, .int .u32 (Pl.fresh c p).dr, .int .u32 (Pl.fresh c p).bd, .int .u8 (Pl.fresh c p).op, .int .u32 (Pl.fresh c p).lf, .bool (Pl.fresh c p).fu] 157)).drew.grownBy w' (Value.slice A k cp).ownBlock → K (a.put o.dst v') w') →
          if Region.wanted o (yielded ops a.tmps) = true then Oper.wp Try.prog o a (w5.alloc (.cells #[.int .u32 (Pl.fresh c p).ro, .int .u32 (Pl.fresh c p).ad, .int .u8 (Pl.fresh c p).st, .int .u8 (Pl.fresh c p).pr, .int .u32 (Pl.fresh c p).dr, .int .u32 (Pl.fresh c p).bd, .int .u8 (Pl.fresh c p).op, .int .u32 (Pl.fresh c p).lf, .bool (Pl.fresh c p).fu] 157)).drew K Q else E := fun ops o a K Q E h1 h2 h3 h4 h5 => by
        refine step_append_any _ h1 (.tmp 111) (.tmp 113) _ h2 lo 157 i0 _ 9 32 Try.underlying146 hi0 hz0' hz1 hz2 rfl (by omega) (.slice A k cp) k _ h3 HOwn6.out _ (some ⟨w5.heap.size, 0, none⟩) 1 1 _ h4 HRd6.out (by simp [Value.oneCell']) ?_ ?_ ?_ (fun v' w' k1 k2 _ => h5 v' w' k1 k2)
        · unfold maxLen; omega
        · omega
        · have := HR6.out.loR; have := HR6.out.b.lt; omega
      have HStep := Lib.hid hstep
      clear hstep
      go_region_law (refine HStep.out _ _ _ _ _ _ rfl rfl rfl rfl ?_; intro v7 w7 hown7 hg7; obtain ⟨vA, vC, rfl⟩ := own_slice hown7; have kR7 := HR6.out.b.grown hg7 (fun e => HR6.out.ne e.symm); have d21 : w7.cell? ⟨R, 21, none⟩ = some (.slice A k cp) := kR7.cell 21; have f7 := kR7.frozen; have hRl7 := kR7.lt; have KR7 := Lib.hid kR7; have Own7 := Lib.hid hown7; have G7 := Lib.hid hg7; clear kR7 hown7 hg7)
      all_goals
        obtain ⟨w8, hw8⟩ : ∃ w8, w8 = w7.setCell ⟨R, 21, none⟩ (.slice vA (k + 1) vC) := ⟨_, rfl⟩
        rw [← hw8]
        have hW : RFr lo (w5.alloc (.cells #[.int .u32 (Pl.fresh c p).ro, .int .u32 (Pl.fresh c p).ad, .int .u8 (Pl.fresh c p).st, .int .u8 (Pl.fresh c p).pr, .int .u32 (Pl.fresh c p).dr, .int .u32 (Pl.fresh c p).bd, .int .u8 (Pl.fresh c p).op, .int .u32 (Pl.fresh c p).lf, .bool (Pl.fresh c p).fu] 157)).drew w7 := Frame.of_grown G7.out (fun j e hj => by
          rcases HOwn6.out.2 with ⟨h0, _⟩ | ⟨g, cap', cur, e1, hb, hh, _⟩
          · cases h0
            simp [Value.ownBlock] at e
          · rw [e1] at e
            have hgj : g = j := by simpa [Value.ownBlock] using e
            subst hgj
            exact ⟨hb, cur, _, hh, .inr rfl⟩)
        have hF8 : Frame (fun j => j = R) w7 w8 := by rw [hw8]; exact (Frame.refl _ w7).setB 21 _
        have hlist : (L.take (k + 1)).map (Pl.fresh c) = ls ++ [Pl.fresh c p] := by rw [List.take_add_one, Hpp.out, ← HLs.out, List.map_append]; rfl
        have hk8 : RBlk w8 R c { s1 with l := (L.take (k + 1)).map (Pl.fresh c) } (.slice vA (k + 1) vC) := by rw [hw8]; exact KR7.out.set_ 21 _
        have ho8 : ROwn lo w8 (.slice vA (k + 1) vC) ((L.take (k + 1)).map (Pl.fresh c)) := by
          have h7 := hF8.own Own7.out (fun g hg e => own_blk_ne Own7.out KR7.out (by decide) (by rw [hg, e]))
          rw [hlist]
          show w8.ownsRow lo _ 9 _ (ls ++ [Pl.fresh c p]).length _
          rw [List.length_append, Hlsk.out, List.flatMap_append]
          exact h7
        have HR8 : Hid (RAt lo w8 R c { s1 with l := (L.take (k + 1)).map (Pl.fresh c) } (.slice vA (k + 1) vC)) := Lib.hid ⟨HR.out.loR, hk8, ho8⟩
        have HF8 : Hid (RFr lo w w8) := Lib.hid (HF.out.trans ((RFr.of_below HB5.out).trans ((RFr.of_below ((Below.refl _ w5).alloc (Nat.le_refl _) _).drew).trans (hW.trans (RFr.one KR7.out HR.out.loR (.inl rfl) hF8)))))
        clear hw8 hW hF8 hlist hk8 ho8 d21 f7 hRl7 KR7 Own7 G7
        go_wp2_with fail
        go_roundw
        case rel => exact ⟨k + 1, _, by omega, by simp, HR8, HF8⟩
        case measure => simp [intOf]; omega
    · obtain rfl : k = n := by omega
      have hR9 : RAt lo wr R c { s1 with l := L.map (Pl.fresh c) } (.slice A k cp) := by
        have h := HR.out
        rw [← Hn.out, List.take_length] at h
        rw [← Hn.out]
        exact h
      have HR9 := Lib.hid hR9
      clear hR9
      have c6 : wr.cell? ⟨R, 6, none⟩ = some (.int .u16 c.hi) := HR9.out.b.cell 6
      have c8 : wr.cell? ⟨R, 8, none⟩ = some (.int .u16 c.po) := HR9.out.b.cell 8
      have c18 : wr.cell? ⟨R, 18, none⟩ = some (.int .u32 s1.nx) := HR9.out.b.cell 18
      have c19 : wr.cell? ⟨R, 19, none⟩ = some (.int .u32 s1.po) := HR9.out.b.cell 19
      have fz := HR9.out.b.frozen
      have hi0 := G.out.hi0
      have hi1 := G.out.hi
      have po0 := G.out.po0
      have po1 := G.out.po
      go_upto_region 23 with fail
      obtain ⟨h2, hf2⟩ := HR9.out.cell1 (s' := { s1 with nx := c.hi, l := L.map (Pl.fresh c) }) (j := 18) (u := .int .u32 c.hi) rfl rfl
      obtain ⟨h3, hf3⟩ := h2.cell1 (s' := { s1 with nx := c.hi, po := c.po, l := L.map (Pl.fresh c) }) (j := 19) (u := .int .u32 c.po) rfl rfl
      obtain ⟨w9, hw9⟩ : ∃ w9, w9 = (wr.setCell ⟨R, 18, none⟩ (.int .u32 c.hi)).setCell ⟨R, 19, none⟩ (.int .u32 c.po) := ⟨_, rfl⟩
      rw [← hw9] at h3 hf3 ⊢
      have HF9 := Lib.hid (HF.out.trans ((RFr.one HR9.out.b HR9.out.loR (.inl rfl) hf2).trans (RFr.one h2.b HR9.out.loR (.inl rfl) hf3)))
      have H3 : Hid (RAt lo w9 R c (Pl.upSt c L s) (.slice A k cp)) := Lib.hid (by rw [HO.out.2, HS1.out]; exact h3)
      have HSt : Hid ((Pl.upSt c L s).st ≤ 6 ∧ (Pl.upSt c L s).l.length ≤ 60000) := Lib.hid (by
        rw [HO.out.2]
        refine ⟨?_, ?_⟩
        · show (Pl.upS1 c s).st ≤ 6
          unfold Pl.upS1
          dsimp only
          split
          · decide
          · split <;> decide
        · show (L.map (Pl.fresh c)).length ≤ 60000
          rw [List.length_map, Hn.out]
          omega)
      have HRd : Hid (Calls Try.prog 114 #[.pointer (some ⟨R, 0, none⟩), .bool false] w9 fun e w' => ∃ u, e = .returned u ∧ OutsAt w' u (Pl.round c (Pl.upSt c L s) false) ∧ Below w9.heap.size w9 w') := Lib.hid (rround_any H3.out HSt.out.2 HSt.out.1 G.out.pr0 G.out.nb0 G.out.nb G.out.vi false)
      clear hw9 h2 h3 hf2 hf3 c6 c8 c18 c19 fz hi0 hi1 po0 po1 hRl c12
      go_wp2_with fail
      refine HRd.out.mono ?_
      rintro e w10 ⟨u, rfl, hou, hb⟩
      have HOu := Lib.hid hou
      have HB := Lib.hid hb
      clear hou hb
      go_wp2_with fail
      go_ret
      exact ⟨u, _, rfl, by rw [HO.out.1]; exact HOu.out, H3.out.below HB.out, HF9.out.trans (RFr.of_below HB.out)⟩
end
end Go.Proofs.Ytgbmhijgpdgdbaa
