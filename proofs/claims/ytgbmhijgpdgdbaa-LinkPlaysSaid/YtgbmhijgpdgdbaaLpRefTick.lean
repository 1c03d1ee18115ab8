/- The document's link: a tick. -/
import Derived.Test.YtgbmhijgpdgdbaaLpOuts
set_option maxHeartbeats 8000000
set_option maxRecDepth 20000
namespace Go.Proofs.Ytgbmhijgpdgdbaa
open Go.RowKit Go.Shelf
section
variable {lo : Nat} {w : World} {R : Nat} {c : LC} {s : Pl.St} {v : Value} {L : List (Int × Int)}
theorem rtick_any (h : RAt lo w R c s v) (hpe : PeersAt w lo c.pe L) (g : Pl.CfgOk c L) (hs : Pl.Ok c L s) :
    Calls Try.prog 80 #[.pointer (some ⟨R, 0, none⟩)] w fun e w' => ∃ u v', e = .returned u ∧ OutsAt w' u (Pl.tickOut c L s) ∧ RAt lo w' R c (Pl.tickSt c L s) v' ∧ RFr lo w w' := by
  have H := Lib.hid h
  have HPe := Lib.hid hpe
  have G := Lib.hid g
  have HS := Lib.hid hs
  have hlow : lo ≤ w.heap.size := by have := h.loR; have := h.b.lt; omega
  have c14 : w.cell? ⟨R, 14, none⟩ = some (.int .u8 s.st) := h.b.cell 14
  have hlt := h.b.lt
  clear h hpe g hs
  by_cases h1 : s.st ≤ 1
  · have HO : Hid (Pl.tickOut c L s = [] ∧ Pl.tickSt c L s = s) := Lib.hid (by unfold Pl.tickOut Pl.tickSt; rw [if_pos h1, if_pos h1]; exact ⟨rfl, rfl⟩)
    go_enter Try.func80, Try.ntmps80
    go_wp2_with fail
    go_ret
    exact ⟨_, v, rfl, by rw [HO.out.1]; exact OutsAt.nil _, by rw [HO.out.2]; exact H.out, RFr.refl _ _⟩
  · have h2 : 2 ≤ s.st := by omega
    have H2 := Lib.hid h2
    obtain ⟨n, hn⟩ : ∃ n, s.l.length = n := ⟨_, rfl⟩
    have Hn := Lib.hid hn
    have hn64 : n ≤ 64 := by rw [← hn]; exact HS.out.ln
    clear hn h2
    go_enter Try.func80, Try.ntmps80
    go_wp2_with fail
    clear h1 c14 hlt
    go_loopg [3, 4] n (fun gk y x wr => ∃ (k i : Nat) (bl : Bool) (v' : Value), k + gk = n ∧ y = .bool bl ∧ x = .int .i64 i ∧ Hid (lostTo c s.l k = bl) ∧ Hid ((Pl.agedTo c L s.l k).length = i) ∧ Hid (RAt lo wr R c { s with l := curL c L s.l k } v') ∧ Hid (RFr lo w wr))
    case atStart => exact ⟨0, 0, false, v, by omega, rfl, rfl, Lib.hid rfl, Lib.hid rfl, Lib.hid (by rw [curL_zero]; exact H.out), Lib.hid (RFr.refl _ _)⟩
    case round =>
      obtain ⟨k, i, bl, v', hkg, rfl, rfl, HBl, HI, HR, HF⟩ := hrel
      obtain ⟨A, cp, hv⟩ := own_slice HR.out.o
      obtain ⟨m, hm⟩ : ∃ m, (curL c L s.l k).length = m := ⟨_, rfl⟩
      have hmi : m = i + (n - k) := by rw [← hm, curL_len, HI.out, Hn.out]
      have hik : i ≤ k := by rw [← HI.out]; exact (Pl.aged_len c L s.l k).1
      have Hm := Lib.hid hm
      have HR2 : Hid (RAt lo wr R c { s with l := curL c L s.l k } (.slice A m cp)) := Lib.hid (by have h := HR.out; rw [hv] at h; rw [← hm]; exact h)
      have Hmi := Lib.hid hmi
      have hm64 : m ≤ 64 := by omega
      have c21 : wr.cell? ⟨R, 21, none⟩ = some (.slice A m cp) := HR2.out.b.cell 21
      have hRl := HR2.out.b.lt
      clear hv hm HR
      by_cases hk : k < n
      · have him : (i : Int) < (m : Int) := by omega
        have Hkg := Lib.hid hkg
        clear hmi hkg
        obtain ⟨x, hx⟩ : ∃ x, s.l[k]? = some x := ⟨_, List.getElem?_eq_getElem (by rw [Hn.out]; exact hk)⟩
        have hcx : (curL c L s.l k)[i]? = some x := by rw [← HI.out]; exact curL_at hx
        obtain ⟨b, n', cap, e, hn2, hb, hc⟩ := HR2.out.o.knb (l := curL c L s.l k) hcx
        cases e
        have q0 : wr.cell? ⟨b, i * 9, none⟩ = some (.int .u32 x.ro) := hc 0 _ rfl
        have q1 : wr.cell? ⟨b, i * 9 + 1, none⟩ = some (.int .u32 x.ad) := hc 1 _ rfl
        have q2 : wr.cell? ⟨b, i * 9 + 2, none⟩ = some (.int .u8 x.st) := hc 2 _ rfl
        have q3 : wr.cell? ⟨b, i * 9 + 3, none⟩ = some (.int .u8 x.pr) := hc 3 _ rfl
        have q4 : wr.cell? ⟨b, i * 9 + 4, none⟩ = some (.int .u32 x.dr) := hc 4 _ rfl
        have q5 : wr.cell? ⟨b, i * 9 + 5, none⟩ = some (.int .u32 x.bd) := hc 5 _ rfl
        have q6 : wr.cell? ⟨b, i * 9 + 6, none⟩ = some (.int .u8 x.op) := hc 6 _ rfl
        have q7 : wr.cell? ⟨b, i * 9 + 7, none⟩ = some (.int .u32 x.lf) := hc 7 _ rfl
        have q8 : wr.cell? ⟨b, i * 9 + 8, none⟩ = some (.bool x.fu) := hc 8 _ rfl
        have fz := HR2.out.o.frozen.1
        have Hx := Lib.hid hx
        have Hcx := Lib.hid hcx
        have hkn := HS.out.kn x (List.mem_of_getElem? hx)
        have HKn := Lib.hid hkn
        clear hx hcx hn2 hc hkn
        rcases h0 : (x.st == 0) with _ | _
        · have HSt : Hid (∀ W, Below wr.heap.size wr W → Calls Try.prog 115 #[.pointer (some ⟨R, 0, none⟩), .agg #[.int .u32 x.ro, .int .u32 x.ad, .int .u8 x.st, .int .u8 x.pr, .int .u32 x.dr, .int .u32 x.bd, .int .u8 x.op, .int .u32 x.lf, .bool x.fu]] W fun e w' => e = .returned (.bool (Pl.still c x)) ∧ Below W.heap.size W w') := Lib.hid (fun W hW => rstill_any (HR2.out.b.below hW hRl) x)
          go_wp2_with fail
          refine (HSt.out _ (Below.refl _ _)).mono ?_
          rintro e w5 ⟨rfl, hb5⟩
          have HR5 := Lib.hid (HR2.out.below hb5)
          have HF5 := Lib.hid (HF.out.trans (RFr.of_below hb5))
          have d21 : w5.cell? ⟨R, 21, none⟩ = some (.slice (some ⟨b, 0, none⟩) m cp) := HR5.out.b.cell 21
          have d7 : w5.cell? ⟨b, i * 9 + 7, none⟩ = some (.int .u32 x.lf) := (hb5.cell (p := ⟨b, i * 9 + 7, none⟩) hb).trans q7
          have fz5 := HR5.out.o.frozen.1
          have hbl5 := HR5.out.o.frozen.2
          have hRl5 := HR5.out.b.lt
          have hbR : R ≠ b := fun e => HR5.out.row_ne e.symm
          clear hb5 HR2 HF c21 hRl fz q0 q1 q2 q3 q4 q5 q6 q7 q8 HSt
          rcases hst : Pl.still c x with _ | _
          · have HQ : Hid (Pl.quietK c x = false) := Lib.hid (by unfold Pl.quietK; rw [h0, hst]; rfl)
            have hlf := HKn.out.lf (by simpa using h0)
            have hlf1 := hlf.1
            have hlf2 := hlf.2
            go_upto_region 9 with fail
            obtain ⟨w6, hw6⟩ : ∃ w6, w6 = w5.setCell ⟨b, i * 9 + 7, none⟩ (.int .u32 (x.lf - 1)) := ⟨_, rfl⟩
            have h6 := HR5.out.cellK (k' := { x with lf := x.lf - 1 }) (j := 7) (u := .int .u32 (x.lf - 1)) Hcx.out rfl (by omega)
            rw [← hw6] at h6 ⊢
            have H6 := Lib.hid h6
            have HF6 := Lib.hid (HF5.out.trans h6.2)
            have hcx6 : ((curL c L s.l k).set i { x with lf := x.lf - 1 })[i]? = some { x with lf := x.lf - 1 } := List.getElem?_set_self (by rw [Hm.out]; omega)
            have x6 : w6.cell? ⟨b, i * 9 + 7, none⟩ = some (.int .u32 (x.lf - 1)) := by
              obtain ⟨b', n'', cap', e', _, _, hc⟩ := h6.1.o.knb (l := (curL c L s.l k).set i { x with lf := x.lf - 1 }) hcx6
              cases e'
              exact hc 7 _ rfl
            have x2 : w6.cell? ⟨b, i * 9 + 2, none⟩ = some (.int .u8 x.st) := by
              obtain ⟨b', n'', cap', e', _, _, hc⟩ := h6.1.o.knb (l := (curL c L s.l k).set i { x with lf := x.lf - 1 }) hcx6
              cases e'
              exact hc 2 _ rfl
            have d216 : w6.cell? ⟨R, 21, none⟩ = some (.slice (some ⟨b, 0, none⟩) m cp) := h6.1.b.cell 21
            clear hw6 h6 d21 d7 fz5 hbl5 hRl5 HR5 HF5 hcx6 hlf
            by_cases hl1 : x.lf = 1
            · have e1 : (x.lf - 1 == 0) = true := by rw [hl1]; rfl
              have HD := Lib.hid (aged_drop (c := c) (L := L) (y := { x with lf := x.lf - 1 }) Hx.out HQ.out hl1)
              have HDr : Hid (∀ W, Below w6.heap.size w6 W → Calls Try.prog 116 #[.pointer (some ⟨R, 0, none⟩), .int .i64 i] W fun e w' => e = .returned (.tuple #[]) ∧ ∃ v', RAt lo w' R c { s with l := curL c L s.l (k + 1) } v' ∧ RFr lo W w') := Lib.hid (fun W hW => by
                have hlen : ((curL c L s.l k).set i { x with lf := x.lf - 1 }).length = m := by rw [List.length_set]; exact Hm.out
                have h := rdrop_any (L := L) (H6.out.1.below hW) ((HPe.out.rfr (HF6.out.trans (RFr.of_below hW)) hlow)) (by show ((curL c L s.l k).set i _).length ≤ 60000; omega) i (by show i < ((curL c L s.l k).set i _).length; omega) (fun hp => by
                  show ((curL c L s.l k).set i _).length = _
                  have h1 := (Pl.aged_len c L s.l k).2 hp
                  have h2 := HS.out.pe hp H2.out
                  have h3 := Hmi.out
                  have h4 := HI.out
                  have h5 := Hn.out
                  omega)
                have e : dropL c L i ((curL c L s.l k).set i { x with lf := x.lf - 1 }) = curL c L s.l (k + 1) := by rw [← HI.out]; exact HD.out.1
                simp only [e] at h
                exact h)
              have hLo : Hid (lostTo c s.l (k + 1) = (bl || (x.st == 3))) := Lib.hid (by rw [lost_next Hx.out, HBl.out, HQ.out, show (x.lf == 1) = true from by rw [hl1]; rfl]; unfold Pl.two; simp)
              have Hl1 := Lib.hid hl1
              clear hl1 hlf1 hlf2
              rcases bl with _ | _
              · rcases h3 : (x.st == 3) with _ | _
                · go_wp2_with fail
                  refine (HDr.out _ (Below.refl _ _)).mono ?_
                  rintro e w7 ⟨rfl, v7, h7, hf7⟩
                  obtain ⟨A7, cp7, rfl⟩ := own_slice h7.o
                  obtain ⟨m7, hm7⟩ : ∃ m, (curL c L s.l (k + 1)).length = m := ⟨_, rfl⟩
                  have hR7 : RAt lo w7 R c { s with l := curL c L s.l (k + 1) } (.slice A7 m7 cp7) := by rw [← hm7]; exact h7
                  have HR7 := Lib.hid hR7
                  have HF7 := Lib.hid (HF6.out.trans hf7)
                  have g21 : w7.cell? ⟨R, 21, none⟩ = some (.slice A7 m7 cp7) := hR7.b.cell 21
                  have hm7e : m7 = (Pl.agedTo c L s.l (k + 1)).length + (n - (k + 1)) := by rw [← hm7, curL_len, Hn.out]
                  have hag := HD.out.2
                  rw [HI.out] at hag
                  have hmi := Hmi.out
                  have HE : Hid (m7 ≤ m ∧ ((Pl.agedTo c L s.l (k + 1)).length : Int) = (i : Int) - m + m7 + 1) := Lib.hid (by
                    split at hag <;> omega)
                  have hm7m : m7 ≤ 64 := by have := HE.out.1; omega
                  have HE2 := Lib.hid HE.out.2
                  have Hgk := Hkg
                  clear h7 hR7 hf7 hm7 hm7e hag hmi
                  go_wp2_with fail
                  go_roundg (n - (k + 1))
                  case measure => have := Hgk.out; omega
                  case rel => exact ⟨k + 1, (Pl.agedTo c L s.l (k + 1)).length, false, _, by omega, by simp, by rw [HE2.out]; try simp, Lib.hid (by rw [hLo.out, h3]; rfl), Lib.hid rfl, HR7, HF7⟩
                · go_wp2_with fail
                  refine (HDr.out _ (Below.refl _ _)).mono ?_
                  rintro e w7 ⟨rfl, v7, h7, hf7⟩
                  obtain ⟨A7, cp7, rfl⟩ := own_slice h7.o
                  obtain ⟨m7, hm7⟩ : ∃ m, (curL c L s.l (k + 1)).length = m := ⟨_, rfl⟩
                  have hR7 : RAt lo w7 R c { s with l := curL c L s.l (k + 1) } (.slice A7 m7 cp7) := by rw [← hm7]; exact h7
                  have HR7 := Lib.hid hR7
                  have HF7 := Lib.hid (HF6.out.trans hf7)
                  have g21 : w7.cell? ⟨R, 21, none⟩ = some (.slice A7 m7 cp7) := hR7.b.cell 21
                  have hm7e : m7 = (Pl.agedTo c L s.l (k + 1)).length + (n - (k + 1)) := by rw [← hm7, curL_len, Hn.out]
                  have hag := HD.out.2
                  rw [HI.out] at hag
                  have hmi := Hmi.out
                  have HE : Hid (m7 ≤ m ∧ ((Pl.agedTo c L s.l (k + 1)).length : Int) = (i : Int) - m + m7 + 1) := Lib.hid (by
                    split at hag <;> omega)
                  have hm7m : m7 ≤ 64 := by have := HE.out.1; omega
                  have HE2 := Lib.hid HE.out.2
                  have Hgk := Hkg
                  clear h7 hR7 hf7 hm7 hm7e hag hmi
                  go_wp2_with fail
                  go_roundg (n - (k + 1))
                  case measure => have := Hgk.out; omega
                  case rel => exact ⟨k + 1, (Pl.agedTo c L s.l (k + 1)).length, true, _, by omega, by simp, by rw [HE2.out]; try simp, Lib.hid (by rw [hLo.out, h3]; rfl), Lib.hid rfl, HR7, HF7⟩
              · go_wp2_with fail
                refine (HDr.out _ (Below.refl _ _)).mono ?_
                rintro e w7 ⟨rfl, v7, h7, hf7⟩
                obtain ⟨A7, cp7, rfl⟩ := own_slice h7.o
                obtain ⟨m7, hm7⟩ : ∃ m, (curL c L s.l (k + 1)).length = m := ⟨_, rfl⟩
                have hR7 : RAt lo w7 R c { s with l := curL c L s.l (k + 1) } (.slice A7 m7 cp7) := by rw [← hm7]; exact h7
                have HR7 := Lib.hid hR7
                have HF7 := Lib.hid (HF6.out.trans hf7)
                have g21 : w7.cell? ⟨R, 21, none⟩ = some (.slice A7 m7 cp7) := hR7.b.cell 21
                have hm7e : m7 = (Pl.agedTo c L s.l (k + 1)).length + (n - (k + 1)) := by rw [← hm7, curL_len, Hn.out]
                have hag := HD.out.2
                rw [HI.out] at hag
                have hmi := Hmi.out
                have HE : Hid (m7 ≤ m ∧ ((Pl.agedTo c L s.l (k + 1)).length : Int) = (i : Int) - m + m7 + 1) := Lib.hid (by
                  split at hag <;> omega)
                have hm7m : m7 ≤ 64 := by have := HE.out.1; omega
                have HE2 := Lib.hid HE.out.2
                have Hgk := Hkg
                clear h7 hR7 hf7 hm7 hm7e hag hmi
                go_wp2_with fail
                go_roundg (n - (k + 1))
                case measure => have := Hgk.out; omega
                case rel => exact ⟨k + 1, (Pl.agedTo c L s.l (k + 1)).length, true, _, by omega, by simp, by rw [HE2.out]; try simp, Lib.hid (by rw [hLo.out]; rfl), Lib.hid rfl, HR7, HF7⟩
            · have e1 : (x.lf - 1 == 0) = false := by simp; omega
              have HD := Lib.hid (aged_older (c := c) (L := L) Hx.out HQ.out hl1)
              have HRn : Hid (RAt lo w6 R c { s with l := curL c L s.l (k + 1) } (.slice (some ⟨b, 0, none⟩) m cp)) := Lib.hid (by
                have h := H6.out.1
                have e := HD.out.1
                rw [HI.out] at e
                simp only [e] at h
                exact h)
              have Hl1 := Lib.hid hl1
              clear hl1
              go_wp2_with fail
              go_roundg (n - (k + 1))
              case measure => have := Hkg.out; omega
              case rel => exact ⟨k + 1, i + 1, bl, _, by omega, rfl, by simp, Lib.hid (by rw [lost_next Hx.out, HBl.out, show (x.lf == 1) = false from by simpa using Hl1.out]; simp), Lib.hid (by rw [HD.out.2, HI.out]), HRn, HF6⟩
          · have HQ : Hid (Pl.quietK c x = true) := Lib.hid (by unfold Pl.quietK; rw [hst]; simp)
            have HD := Lib.hid (aged_keep (c := c) (L := L) Hx.out HQ.out)
            go_wp2_with fail
            go_roundg (n - (k + 1))
            case measure => have := Hkg.out; omega
            case rel => exact ⟨k + 1, i + 1, bl, _, by omega, rfl, by simp, Lib.hid (by rw [lost_next Hx.out, HBl.out, HQ.out]; simp), Lib.hid (by rw [HD.out.2, HI.out]), Lib.hid (by rw [HD.out.1]; exact HR5.out), HF5⟩
        · have HQ : Hid (Pl.quietK c x = true) := Lib.hid (by unfold Pl.quietK; rw [h0]; rfl)
          have HD := Lib.hid (aged_keep (c := c) (L := L) Hx.out HQ.out)
          go_wp2_with fail
          go_roundg (n - (k + 1))
          case measure => have := Hkg.out; omega
          case rel => exact ⟨k + 1, i + 1, bl, _, by omega, rfl, by simp, Lib.hid (by rw [lost_next Hx.out, HBl.out, HQ.out]; simp), Lib.hid (by rw [HD.out.2, HI.out]), Lib.hid (by rw [HD.out.1]; exact HR2.out), HF⟩
      · obtain rfl : k = n := by omega
        obtain rfl : m = i := by omega
        have HLo : Hid (Pl.lost c s.l = bl) := Lib.hid (by rw [← lost_all, Hn.out]; exact HBl.out)
        have HRA : Hid (RAt lo wr R c { s with l := Pl.age c L s.l } (.slice A m cp)) := Lib.hid (by
          have e : curL c L s.l k = Pl.age c L s.l := by rw [← curL_all, Hn.out]
          have h := HR2.out
          simp only [e] at h
          exact h)
        have hpre := Pl.aged_pre HS.out H2.out
        have HPre := Lib.hid hpre
        have HAO := Lib.hid (Pl.tickA_ok G.out HS.out H2.out)
        clear hmi hkg hk HR2 HBl HI hpre Hmi
        go_upto_region 14 with fail
        obtain ⟨w1, hw1⟩ : ∃ w1, w1 = wr := ⟨_, rfl⟩
        rw [← hw1] at HRA HF c21 hRl ⊢
        clear hw1
        have c14 : w1.cell? ⟨R, 14, none⟩ = some (.int .u8 s.st) := HRA.out.b.cell 14
        have c17 : w1.cell? ⟨R, 17, none⟩ = some (.int .u32 s.wt) := HRA.out.b.cell 17
        have fzR := HRA.out.b.frozen
        go_upto_if 94 with fail
        go_cut [] (fun wx => Hid (∃ v2, RAt lo wx R c (Pl.tickA c L s) v2) ∧ Hid (RFr lo w wx))
        case first =>
          by_cases hs2 : s.st = 2
          · have hw := HS.out.wt hs2
            have hwA := hw.1
            have hwB := hw.2
            have Hs2 := Lib.hid hs2
            have e2 : (s.st == 2) = true := by simpa using hs2
            clear hw hs2
            go_upto_region 16 with fail
            obtain ⟨w2, hw2⟩ : ∃ w2, w2 = w1.setCell ⟨R, 17, none⟩ (.int .u32 (s.wt - 1)) := ⟨_, rfl⟩
            have h2 := HRA.out.turn (w' := w2) (s' := { s with l := Pl.age c L s.l, wt := s.wt - 1 }) (by rw [hw2]; exact (Frame.refl _ w1).setB 17 _) (by rw [hw2]; exact HRA.out.b.set_ 17 _) rfl
            rw [← hw2]
            have HR2 := Lib.hid h2.1
            have HF2 := Lib.hid (HF.out.trans h2.2)
            have d17 : w2.cell? ⟨R, 17, none⟩ = some (.int .u32 (s.wt - 1)) := h2.1.b.cell 17
            have hR2l := h2.1.b.lt
            clear hw2 h2 c14 c17 c21 fzR
            by_cases hw1 : s.wt = 1
            · have e1 : (s.wt - 1 == 0) = true := by rw [hw1]; rfl
              have HT : Hid (Pl.tickA c L s = Pl.elect c { s with l := Pl.age c L s.l, wt := 0 }) := Lib.hid (by unfold Pl.tickA Pl.tickEl; dsimp only; rw [if_pos Hs2.out, if_pos hw1])
              have HC : Hid (Calls Try.prog 117 #[.pointer (some ⟨R, 0, none⟩)] w2 fun e w' => e = .returned (.tuple #[]) ∧ RAt lo w' R c (Pl.tickA c L s) (.slice A m cp) ∧ RFr lo w2 w') := Lib.hid (by
                have h := HR2.out
                rw [show s.wt - 1 = 0 from by omega] at h
                rw [HT.out]
                exact relect_l h (by have := HPre.out.ln; show (Pl.age c L s.l).length ≤ 60000; have h2 : (Pl.age c L s.l).length ≤ 64 := this; omega))
              clear hw1
              go_wp2_with fail
              refine HC.out.mono ?_
              rintro e w3 ⟨rfl, h3, hf3⟩
              have H3 := Lib.hid h3
              have HF3 := Lib.hid (HF2.out.trans hf3)
              clear h3 hf3
              go_wp2_with fail
              go_meet
              case rel => exact ⟨Lib.hid ⟨_, H3.out⟩, HF3⟩
            · have e1 : (s.wt - 1 == 0) = false := by simp; omega
              have HT : Hid (Pl.tickA c L s = { s with l := Pl.age c L s.l, wt := s.wt - 1 }) := Lib.hid (by unfold Pl.tickA Pl.tickEl; dsimp only; rw [if_pos Hs2.out, if_neg hw1])
              clear hw1
              go_wp2_with fail
              go_meet
              case rel => exact ⟨Lib.hid ⟨_, by rw [HT.out]; exact HR2.out⟩, HF2⟩
          · have e2 : (s.st == 2) = false := by simpa using hs2
            have Hs2 := Lib.hid hs2
            clear hs2
            rcases bl with _ | _
            · have HT : Hid (Pl.tickA c L s = { s with l := Pl.age c L s.l }) := Lib.hid (by unfold Pl.tickA Pl.tickEl; dsimp only; rw [if_neg Hs2.out, HLo.out, if_neg (by rintro ⟨h, _⟩; cases h)])
              go_wp2_with fail
              go_meet
              case rel => exact ⟨Lib.hid ⟨_, by rw [HT.out]; exact HRA.out⟩, HF⟩
            · by_cases hs4 : 4 ≤ s.st
              · have HT : Hid (Pl.tickA c L s = Pl.elect c { s with l := Pl.age c L s.l }) := Lib.hid (by unfold Pl.tickA Pl.tickEl; dsimp only; rw [if_neg Hs2.out, HLo.out, if_pos ⟨rfl, hs4⟩])
                have HC : Hid (Calls Try.prog 117 #[.pointer (some ⟨R, 0, none⟩)] w1 fun e w' => e = .returned (.tuple #[]) ∧ RAt lo w' R c (Pl.tickA c L s) (.slice A m cp) ∧ RFr lo w1 w') := Lib.hid (by
                  rw [HT.out]
                  exact relect_l HRA.out (by have := HPre.out.ln; show (Pl.age c L s.l).length ≤ 60000; have h2 : (Pl.age c L s.l).length ≤ 64 := this; omega))
                go_wp2_with fail
                refine HC.out.mono ?_
                rintro e w3 ⟨rfl, h3, hf3⟩
                have H3 := Lib.hid h3
                have HF3 := Lib.hid (HF.out.trans hf3)
                clear h3 hf3
                go_wp2_with fail
                go_meet
                case rel => exact ⟨Lib.hid ⟨_, H3.out⟩, HF3⟩
              · have HT : Hid (Pl.tickA c L s = { s with l := Pl.age c L s.l }) := Lib.hid (by unfold Pl.tickA Pl.tickEl; dsimp only; rw [if_neg Hs2.out, if_neg (by rintro ⟨_, h⟩; exact hs4 h)])
                go_wp2_with fail
                go_meet
                case rel => exact ⟨Lib.hid ⟨_, by rw [HT.out]; exact HRA.out⟩, HF⟩
        obtain ⟨⟨v2, hR2⟩, HF2⟩ := hcut
        obtain ⟨w2, hw2⟩ : ∃ w2, w2 = wc := ⟨_, rfl⟩
        rw [← hw2] at hR2 HF2 ⊢
        obtain ⟨sA, hsA⟩ : ∃ x, x = Pl.tickA c L s := ⟨_, rfl⟩
        have HsA := Lib.hid hsA
        rw [← hsA] at hR2 HAO
        have HR2 := Lib.hid hR2
        have hnx := HAO.out.1.nx HAO.out.2.1
        have hnx1 := hnx.1
        have hnx2 := hnx.2
        have c18 : w2.cell? ⟨R, 18, none⟩ = some (.int .u32 sA.nx) := hR2.b.cell 18
        have hRl2 := hR2.b.lt
        have fz2 := hR2.b.frozen
        clear hw2 hR2 hsA hnx HRA HF c14 c17 c21 fzR hRl
        go_upto_region 22 with fail
        obtain ⟨w3, hw3⟩ : ∃ w3, w3 = w2.setCell ⟨R, 18, none⟩ (.int .u32 (sA.nx - 1)) := ⟨_, rfl⟩
        have h3 := HR2.out.turn (w' := w3) (s' := { sA with nx := sA.nx - 1 }) (by rw [hw3]; exact (Frame.refl _ w2).setB 18 _) (by rw [hw3]; exact HR2.out.b.set_ 18 _) rfl
        rw [← hw3]
        have HR3 := Lib.hid h3.1
        have HF3 := Lib.hid (HF2.out.trans h3.2)
        have d18 : w3.cell? ⟨R, 18, none⟩ = some (.int .u32 (sA.nx - 1)) := h3.1.b.cell 18
        have d6 : w3.cell? ⟨R, 6, none⟩ = some (.int .u16 c.hi) := h3.1.b.cell 6
        have hR3l := h3.1.b.lt
        have hsz3 : w.heap.size ≤ w3.heap.size := HF3.out.size
        have fz3 := h3.1.b.frozen
        clear hw3 h3 c18 fz2 hRl2 HR2 HF2
        go_upto_if 130 with fail
        obtain ⟨i0, hi0, hz0', hz1, hz2⟩ := info_parts rsend_info
        go_cut [6] (fun p6 wx => Hid (OutsOwn w3.heap.size 181 wx p6 (if sA.nx = 1 then Pl.round c sA false else [])) ∧ Hid (RAt lo wx R c (Pl.tickNx c sA) v2) ∧ Hid (RFr lo w wx) ∧ Hid (w3.heap.size ≤ wx.heap.size))
        case first =>
          by_cases hx1 : sA.nx = 1
          · have e1 : (sA.nx - 1 == 0) = true := by rw [hx1]; rfl
            have HX1 := Lib.hid hx1
            have hh := G.out.hi
            have hh0 := G.out.hi0
            clear hx1
            go_upto_region 24 with fail
            obtain ⟨w4, hw4⟩ : ∃ w4, w4 = w3.setCell ⟨R, 18, none⟩ (.int .u32 c.hi) := ⟨_, rfl⟩
            have h4 := HR3.out.turn (w' := w4) (s' := Pl.tickNx c sA) (by rw [hw4]; exact (Frame.refl _ w3).setB 18 _) (by rw [hw4]; unfold Pl.tickNx; rw [if_pos HX1.out]; exact HR3.out.b.set_ 18 _) rfl
            have hs4 : w4.heap.size = w3.heap.size := by rw [hw4]; simp [World.setCell]
            rw [← hw4]
            have HS4 := Lib.hid hs4
            have HR4 := Lib.hid h4.1
            have HF4 := Lib.hid (HF3.out.trans h4.2)
            have HC : Hid (Calls Try.prog 114 #[.pointer (some ⟨R, 0, none⟩), .bool false] w4 fun e w' => ∃ u, e = .returned u ∧ OutsAt w' u (Pl.round c sA false) ∧ Below w4.heap.size w4 w') := Lib.hid (rround_any h4.1 (by have := HAO.out.1.ln; show sA.l.length ≤ 60000; omega) HAO.out.1.st1 G.out.pr0 G.out.nb0 G.out.nb G.out.vi false)
            clear hw4 h4 hs4 d18 d6 fz3 hR3l hh hh0
            go_wp2_with fail
            refine HC.out.mono ?_
            rintro e w5 ⟨u, rfl, ho, hb5⟩
            obtain ⟨ua, n5, uc, nvs, rfl, hl5, hn5, h65, hr5, hw5⟩ := ho
            have HR5 := Lib.hid (HR4.out.below hb5)
            have HF5 := Lib.hid (HF4.out.trans (RFr.of_below hb5))
            have HRd := Lib.hid hr5
            have HW := Lib.hid hw5
            have HN := Lib.hid hn5
            have HL := Lib.hid hl5
            have h35 : w3.heap.size ≤ w5.heap.size := by rw [← HS4.out]; exact hb5.size
            have hbase := h35
            have hone := Lib.hid (outs_one hw5)
            clear hr5 hw5 hn5 hl5 hb5
            go_wp2_with (at_builtin; refine wpList_append_any _ rfl (.tmp 140) (.tmp 142) _ rfl w3.heap.size 181 i0 _ 9 56 Try.underlying150 hi0 hz0' hz1 hz2 rfl (by omega) (.slice none 0 0) 0 [] rfl (World.ownsRow_nil _ _ _ _) w5.heap.size ua n5 uc _ rfl HRd.out hone.out (by simp [maxLen]; omega) (by simp; omega) hbase ?_; intro v1 w6 hown6 hg6 _; have HOwn6 := Lib.hid hown6; have HG6 := Lib.hid hg6; clear hown6 hg6)
            go_meet
            case rel =>
              rw [if_pos HX1.out]
              have hF : Frame (fun _ => False) w5 w6 := Frame.of_grown HG6.out (fun k e _ => by simp [Value.ownBlock] at e)
              refine ⟨Lib.hid ?_, Lib.hid (HR5.out.below ⟨hF.os, hF.tape, hF.output, hF.size, fun k hk => hF.block k hk (fun e => e)⟩), Lib.hid (HF5.out.trans (RFr.of_below ⟨hF.os, hF.tape, hF.output, hF.size, fun k hk => hF.block k hk (fun e => e)⟩)), Lib.hid (by have := hF.size; omega)⟩
              have h := outs_join (l := []) (nvs := []) (base := w3.heap.size) (tE := 181) (w := w5) (v := .slice none 0 0) (by decide) rfl (World.ownsRow_nil _ _ _ _) (fun i x nv hx => by simp at hx) (by rw [HN.out, HL.out]) HW.out HG6.out (by rw [HL.out]; exact HOwn6.out)
              rwa [List.nil_append] at h
          · have e1 : (sA.nx - 1 == 0) = false := by simp; omega
            have HX1 := Lib.hid hx1
            clear hx1
            go_wp2_with fail
            go_meet
            case rel =>
              rw [if_neg HX1.out]
              refine ⟨Lib.hid (OutsOwn.nil _ _ _), Lib.hid ?_, HF3, Lib.hid (Nat.le_refl _)⟩
              have h := HR3.out
              unfold Pl.tickNx
              rw [if_neg HX1.out]
              exact h
        obtain ⟨HO, HR5, HF5, H35⟩ := hcut
        obtain ⟨oa, oc, hpo⟩ := HO.out.slice
        subst hpo
        obtain ⟨w5, hw5⟩ : ∃ w5, w5 = wc := ⟨_, rfl⟩
        rw [← hw5] at HO HR5 HF5 H35 ⊢
        obtain ⟨o1, ho1⟩ : ∃ o, o = (if sA.nx = 1 then Pl.round c sA false else []) := ⟨_, rfl⟩
        have Ho1 := Lib.hid ho1
        rw [← ho1] at HO ⊢
        obtain ⟨m1, hm1⟩ : ∃ m, o1.length = m := ⟨_, rfl⟩
        have hm65 : m1 ≤ 65 := by
          rw [← hm1, ho1]
          split
          · have h1 := round_len c sA false
            have h2 := HAO.out.1.ln
            omega
          · exact Nat.zero_le _
        have HOm := Lib.hid HO.out
        have Hm1 := Lib.hid hm1
        rw [hm1] at HOm ⊢
        have hpo := HAO.out.1.po
        have hpo0 := hpo.1
        have hpo1 := hpo.2
        have c19 : w5.cell? ⟨R, 19, none⟩ = some (.int .u32 sA.po) := HR5.out.b.cell 19
        have d8 : w5.cell? ⟨R, 8, none⟩ = some (.int .u16 c.po) := HR5.out.b.cell 8
        have hRl5 := HR5.out.b.lt
        have fz5 := HR5.out.b.frozen
        clear hw5 ho1 hm1 hpo HR3 HF3 d18 d6 fz3 hR3l hnx1 hnx2
        go_upto_if 148 with fail
        go_cut [6] (fun p6 wx => Hid (OutsAt wx p6 (o1 ++ if sA.po = 1 then Pl.round c sA true else [])) ∧ Hid (RAt lo wx R c (Pl.tickPo c (Pl.tickNx c sA)) v2) ∧ Hid (RFr lo w wx))
        case first =>
          by_cases hp0 : sA.po = 0
          · have HP : Hid (Pl.tickPo c (Pl.tickNx c sA) = Pl.tickNx c sA) := Lib.hid (by
              unfold Pl.tickPo
              rw [if_pos (show (Pl.tickNx c sA).po = 0 from hp0)]
              show { Pl.tickNx c sA with po := 0 } = Pl.tickNx c sA
              rw [← hp0]
              rfl)
            have HP1 : Hid (¬ sA.po = 1) := Lib.hid (by omega)
            have e0 : ¬ 0 < sA.po := by omega
            clear hp0 hpo0 hpo1
            go_wp2_with fail
            go_meet
            case rel => exact ⟨Lib.hid (by rw [if_neg HP1.out, List.append_nil]; exact HOm.out.at_ (by rw [Hm1.out]; omega)), Lib.hid (by rw [HP.out]; exact HR5.out), HF5⟩
          · have hp1 : 1 ≤ sA.po := by omega
            have e0 : decide (0 < sA.po) = true := decide_eq_true (by omega)
            have HP0 := Lib.hid hp0
            clear hp0
            go_upto_region 27 with fail
            obtain ⟨w6, hw6⟩ : ∃ w6, w6 = w5.setCell ⟨R, 19, none⟩ (.int .u32 (sA.po - 1)) := ⟨_, rfl⟩
            have h6 := HR5.out.turn (w' := w6) (s' := { Pl.tickNx c sA with po := sA.po - 1 }) (by rw [hw6]; exact (Frame.refl _ w5).setB 19 _) (by rw [hw6]; exact HR5.out.b.set_ 19 _) rfl
            have hff : Frame (fun j => j = R) w5 w6 := by rw [hw6]; exact (Frame.refl _ w5).setB 19 _
            have hs6 : w6.heap.size = w5.heap.size := by rw [hw6]; simp [World.setCell]
            have HO6 : Hid (OutsOwn w3.heap.size 181 w6 (.slice oa m1 oc) o1) := Lib.hid (HOm.out.fr hff (fun g cs t hg ht e => by
              subst e
              have h := hg.symm.trans HR5.out.b
              injection h with h
              injection h with h1 h2
              subst h2
              rcases ht with ht | ht <;> exact absurd ht (by decide)))
            rw [← hw6]
            have HS6 := Lib.hid hs6
            have HR6 := Lib.hid h6.1
            have HF6 := Lib.hid (HF5.out.trans h6.2)
            have x19 : w6.cell? ⟨R, 19, none⟩ = some (.int .u32 (sA.po - 1)) := h6.1.b.cell 19
            have x8 : w6.cell? ⟨R, 8, none⟩ = some (.int .u16 c.po) := h6.1.b.cell 8
            have hRl6 := h6.1.b.lt
            have fz6 := h6.1.b.frozen
            clear hw6 h6 hff hs6 c19 d8 hRl5 fz5 HR5 HF5 HO HOm
            by_cases hq1 : sA.po = 1
            · have e1 : (sA.po - 1 == 0) = true := by rw [hq1]; rfl
              have HQ1 := Lib.hid hq1
              have hh := G.out.po
              have hh0 := G.out.po0
              clear hq1 hp1 hpo0 hpo1
              go_upto_region 29 with fail
              obtain ⟨w7, hw7⟩ : ∃ w7, w7 = w6.setCell ⟨R, 19, none⟩ (.int .u32 c.po) := ⟨_, rfl⟩
              have h7 := HR6.out.turn (w' := w7) (s' := Pl.tickPo c (Pl.tickNx c sA)) (by rw [hw7]; exact (Frame.refl _ w6).setB 19 _) (by
                rw [hw7]
                unfold Pl.tickPo
                rw [if_neg (show ¬ (Pl.tickNx c sA).po = 0 from HP0.out), if_pos (show (Pl.tickNx c sA).po = 1 from HQ1.out)]
                exact HR6.out.b.set_ 19 _) rfl
              have hff : Frame (fun j => j = R) w6 w7 := by rw [hw7]; exact (Frame.refl _ w6).setB 19 _
              have hs7 : w7.heap.size = w6.heap.size := by rw [hw7]; simp [World.setCell]
              have HO7 : Hid (OutsOwn w3.heap.size 181 w7 (.slice oa m1 oc) o1) := Lib.hid (HO6.out.fr hff (fun g cs t hg ht e => by
                subst e
                have h := hg.symm.trans HR6.out.b
                injection h with h
                injection h with h1 h2
                subst h2
                rcases ht with ht | ht <;> exact absurd ht (by decide)))
              rw [← hw7]
              have HS7 := Lib.hid hs7
              have HR7 := Lib.hid h7.1
              have HF7 := Lib.hid (HF6.out.trans h7.2)
              have HC : Hid (Calls Try.prog 114 #[.pointer (some ⟨R, 0, none⟩), .bool true] w7 fun e w' => ∃ u, e = .returned u ∧ OutsAt w' u (Pl.round c sA true) ∧ Below w7.heap.size w7 w') := Lib.hid (rround_any h7.1 (by have := HAO.out.1.ln; show sA.l.length ≤ 60000; omega) HAO.out.1.st1 G.out.pr0 G.out.nb0 G.out.nb G.out.vi true)
              clear hw7 h7 hff hs7 x19 x8 hRl6 fz6 hh hh0
              go_wp2_with fail
              refine HC.out.mono ?_
              rintro e w8 ⟨u, rfl, ho, hb8⟩
              obtain ⟨ua, n8, uc, nvs8, rfl, hl8, hn8, h65, hr8, hw8⟩ := ho
              obtain ⟨nvs1, hk1, hown1, hwd1⟩ := HO7.out.below hb8
              have HR8 := Lib.hid (HR7.out.below hb8)
              have HF8 := Lib.hid (HF7.out.trans (RFr.of_below hb8))
              have HRd := Lib.hid hr8
              have HW := Lib.hid hw8
              have HN := Lib.hid hn8
              have HL := Lib.hid hl8
              have HK1 := Lib.hid hk1
              have HOw := Lib.hid hown1
              have HW1 := Lib.hid hwd1
              have hbase : w3.heap.size ≤ w8.heap.size := by have := hb8.size; have := HS7.out; have := HS6.out; have := H35.out; omega
              have hone := Lib.hid (outs_one hw8)
              have h64 : n8 ≤ 65 := by
                rw [← hl8]
                have h1 := round_len c sA true
                have h2 := HAO.out.1.ln
                omega
              have hown2 : w8.ownsRow w3.heap.size 181 9 (.slice oa m1 oc) m1 ((o1.zip nvs1).flatMap scl) := by have h := hown1; rw [Hm1.out] at h; exact h
              have HOw2 := Lib.hid hown2
              clear hr8 hw8 hn8 hl8 hb8 hk1 hown1 hwd1 hown2 h65
              go_wp2_with (at_builtin; refine wpList_append_any _ rfl (.tmp 170) (.tmp 172) _ rfl w3.heap.size 181 i0 _ 9 56 Try.underlying150 hi0 hz0' hz1 hz2 rfl (by omega) (.slice oa m1 oc) m1 _ rfl HOw2.out w8.heap.size ua n8 uc _ rfl HRd.out hone.out (by simp [maxLen]; omega) (by omega) hbase ?_; intro v1 w9 hown9 hg9 _; have HOwn9 := Lib.hid hown9; have HG9 := Lib.hid hg9; clear hown9 hg9)
              go_meet
              case rel =>
                have hF : Frame (fun j => (Value.slice oa m1 oc).ownBlock = some j) w8 w9 := Frame.of_grown HG9.out (fun k e _ => e)
                refine ⟨Lib.hid ?_, Lib.hid ⟨HR8.out.loR, hF.blk HR8.out.b (own_blk_ne HOw2.out HR8.out.b (by decide)), hF.own HR8.out.o (fun g hg e => rows_apart HR8.out.o HOw2.out (by decide) hg e)⟩, Lib.hid (HF8.out.trans' hF (fun i hi e => by have := (own_cells HOw2.out i e).1; omega))⟩
                rw [if_pos HQ1.out]
                refine OutsOwn.at_ (base := w3.heap.size) (tE := 181) ?_ (by rw [List.length_append, Hm1.out, HL.out]; omega)
                exact outs_join (tE := 181) (v := .slice oa m1 oc) (by decide) HK1.out HOw.out HW1.out (by rw [HN.out, HL.out]) HW.out HG9.out (by rw [Hm1.out, HL.out]; exact HOwn9.out)
            · have e1 : (sA.po - 1 == 0) = false := by simp; omega
              have HQ1 := Lib.hid hq1
              have HP : Hid (Pl.tickPo c (Pl.tickNx c sA) = { Pl.tickNx c sA with po := sA.po - 1 }) := Lib.hid (by
                unfold Pl.tickPo
                rw [if_neg (show ¬ (Pl.tickNx c sA).po = 0 from HP0.out), if_neg (show ¬ (Pl.tickNx c sA).po = 1 from HQ1.out)]
                rfl)
              clear hq1
              go_wp2_with fail
              go_meet
              case rel => exact ⟨Lib.hid (by rw [if_neg HQ1.out, List.append_nil]; exact HO6.out.at_ (by rw [Hm1.out]; omega)), Lib.hid (by rw [HP.out]; exact HR6.out), HF6⟩
        obtain ⟨HOA, HRZ, HFZ⟩ := hcut
        have HOut : Hid (Pl.tickOut c L s = o1 ++ if sA.po = 1 then Pl.round c sA true else []) := Lib.hid (by
          unfold Pl.tickOut
          rw [if_neg (by have := H2.out; omega), ← HsA.out, ← Ho1.out])
        have HSt : Hid (Pl.tickSt c L s = Pl.tickPo c (Pl.tickNx c sA)) := Lib.hid (by
          unfold Pl.tickSt
          rw [if_neg (by have := H2.out; omega), ← HsA.out])
        clear c19 d8 hRl5 fz5
        go_wp2_with fail
        go_ret
        exact ⟨_, v2, rfl, by rw [HOut.out]; exact HOA.out, by rw [HSt.out]; exact HRZ.out, HFZ.out⟩
end
end Go.Proofs.Ytgbmhijgpdgdbaa
