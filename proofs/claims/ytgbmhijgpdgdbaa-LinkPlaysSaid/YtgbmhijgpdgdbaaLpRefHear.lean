/- The document's link: a Hello is heard. -/
import Derived.Test.YtgbmhijgpdgdbaaLpRefMay
import Derived.Test.YtgbmhijgpdgdbaaLpHearC
import Derived.Test.YtgbmhijgpdgdbaaLpRefPlace
set_option maxHeartbeats 8000000
set_option maxRecDepth 20000
namespace Go.Proofs.Ytgbmhijgpdgdbaa
open Go.RowKit Go.Shelf
theorem Reads.wordsAt {w : World} {v : Value} {ws : List Int} (h : WordsAt w v ws) : ∃ A n c, v = .slice A n c := by
  obtain ⟨A, n, c, e, _⟩ := h
  exact ⟨A, n, c, e⟩
theorem spot_found {c : LC} {f r : Int} {l : List Kn} {i : Nat} (h : Pl.find c f r l = some i) : Pl.spot c f r l = i ∧ Pl.withSpot c f r l = l ∧ Pl.findI c f r l = i := by
  unfold Pl.spot Pl.withSpot Pl.findI
  rw [h]
  exact ⟨rfl, rfl, rfl⟩
theorem spot_new {c : LC} {f r : Int} {l : List Kn} (h : Pl.find c f r l = none) : Pl.spot c f r l = Pl.putAt c f l ∧ Pl.withSpot c f r l = Pl.putL c f l ∧ Pl.findI c f r l = -1 := by
  unfold Pl.spot Pl.withSpot Pl.findI
  rw [h]
  exact ⟨rfl, rfl, rfl⟩
theorem hear1_len {c : LC} {L : List (Int × Int)} (g : Pl.CfgOk c L) {s : Pl.St} (hs : Pl.Ok c L s) {f r : Int} {h : Pl.Hel} (h0 : Pl.mayE c s f r h = 0) : (Pl.withSpot c f r s.l).length ≤ 64 := by
  have h1 := (Pl.hear1_pre g hs h0 Pl.zero).ln
  have h2 : (Pl.hear1 c s f r h Pl.zero).l.length = (Pl.withSpot c f r s.l).length := by unfold Pl.hear1; dsimp only; rw [List.length_set]
  omega
section
variable {lo : Nat} {w : World} {R : Nat} {c : LC} {s : Pl.St} {v : Value} {L : List (Int × Int)}
theorem rhear_any (h0 : RAt lo w R c s v) (g : Pl.CfgOk c L) (hs : Pl.Ok c L s) (f r : Int) (h : Pl.Hel) (nv : Value) (hw : ∀ w', RFr lo w w' → WordsAt w' nv h.nb) :
    Calls Try.prog 82 #[.pointer (some ⟨R, 0, none⟩), .int .u32 f, .int .u32 r, hval h nv] w fun e w' => ∃ u v', e = .returned (.tuple #[u, .int .i64 (Pl.mayE c s f r h)]) ∧ OutsAt w' u (Pl.hearOut c s f r h) ∧ RAt lo w' R c (Pl.hearSt c s f r h) v' ∧ RFr lo w w' := by
  obtain ⟨na, nn, nc, rfl⟩ := Reads.wordsAt (hw w (RFr.refl _ _))
  unfold hval
  have H := Lib.hid h0
  have G := Lib.hid g
  have HS := Lib.hid hs
  have HW := Lib.hid hw
  have hlow : lo ≤ w.heap.size := by have := h0.loR; have := h0.b.lt; omega
  have hn64 := hs.ln
  clear h0 g hs hw
  go_enter Try.func82, Try.ntmps82
  go_upto_region 1 with fail
  obtain ⟨w1, hw1⟩ : ∃ w1, w1 = w.alloc (.cells #[.int .u32 h.ma, .int .u16 h.hi, .int .u8 h.op, .int .u8 h.pr, .int .u32 h.dd, .int .u32 h.dr, .int .u32 h.bd, .slice na nn nc] 90) := ⟨_, rfl⟩
  have HB1 : Hid (Below w.heap.size w w1) := Lib.hid (by rw [hw1]; exact (Below.refl _ w).alloc (Nat.le_refl _) _)
  have HR1 := Lib.hid (H.out.below HB1.out)
  have HK1 : Hid (Blk w1 w.heap.size 90 #[.int .u32 h.ma, .int .u16 h.hi, .int .u8 h.op, .int .u8 h.pr, .int .u32 h.dd, .int .u32 h.dr, .int .u32 h.bd, .slice na nn nc]) := Lib.hid (by rw [hw1]; exact Blk.new w _ _)
  rw [← hw1]
  clear hw1
  have k0 : w1.cell? ⟨w.heap.size, 0, none⟩ = some (.int .u32 h.ma) := HK1.out.cell 0
  have k1 : w1.cell? ⟨w.heap.size, 1, none⟩ = some (.int .u16 h.hi) := HK1.out.cell 1
  have k2 : w1.cell? ⟨w.heap.size, 2, none⟩ = some (.int .u8 h.op) := HK1.out.cell 2
  have k3 : w1.cell? ⟨w.heap.size, 3, none⟩ = some (.int .u8 h.pr) := HK1.out.cell 3
  have k4 : w1.cell? ⟨w.heap.size, 4, none⟩ = some (.int .u32 h.dd) := HK1.out.cell 4
  have k5 : w1.cell? ⟨w.heap.size, 5, none⟩ = some (.int .u32 h.dr) := HK1.out.cell 5
  have k6 : w1.cell? ⟨w.heap.size, 6, none⟩ = some (.int .u32 h.bd) := HK1.out.cell 6
  have k7 : w1.cell? ⟨w.heap.size, 7, none⟩ = some (.slice na nn nc) := HK1.out.cell 7
  have hKl := HK1.out.lt
  have HMay : Hid (Calls Try.prog 118 #[.pointer (some ⟨R, 0, none⟩), .int .u32 f, .int .u32 r, .agg #[.int .u32 h.ma, .int .u16 h.hi, .int .u8 h.op, .int .u8 h.pr, .int .u32 h.dd, .int .u32 h.dr, .int .u32 h.bd, .slice na nn nc]] w1 fun e w' => e = .returned (.int .i64 (Pl.mayE c s f r h)) ∧ Below w1.heap.size w1 w') := Lib.hid (rmay_l HR1.out G.out (by omega) f r h _)
  go_wp2_with fail
  refine HMay.out.mono ?_
  rintro e w2 ⟨rfl, hb2⟩
  have HB2 := Lib.hid (HB1.out.trans (hb2.mono HB1.out.size))
  have HR2 := Lib.hid (HR1.out.below hb2)
  have HK2 := Lib.hid (HK1.out.below hb2 hKl)
  clear hb2 k0 k1 k2 k3 k4 k5 k6 k7 hKl HR1 HK1 HMay HB1
  obtain ⟨E, hE⟩ : ∃ E, Pl.mayE c s f r h = E := ⟨_, rfl⟩
  have HE := Lib.hid hE
  rw [hE]
  clear hE
  rcases he0 : (E != 0) with _ | _
  rotate_left
  · have HO : Hid (Pl.hearOut c s f r h = [] ∧ Pl.hearSt c s f r h = s) := Lib.hid (by
      have hne : Pl.mayE c s f r h ≠ 0 := by rw [HE.out]; simpa using he0
      unfold Pl.hearOut Pl.hearSt
      rw [if_pos hne, if_pos hne]
      exact ⟨rfl, rfl⟩)
    go_wp2_with fail
    refine bodyPost_ret (v := .tuple #[.slice none 0 0, .int .i64 E]) (by simp [results, Try.results82, go_sem]) rfl ⟨.slice none 0 0, v, by rw [HE.out], ?_, ?_, RFr.of_below HB2.out⟩
    · rw [HO.out.1]; exact OutsAt.nil _
    · rw [HO.out.2]; exact HR2.out
  have hE0 : E = 0 := by simpa using he0
  have HE0 : Hid (Pl.mayE c s f r h = 0) := Lib.hid (by rw [HE.out]; exact hE0)
  have Hpl := Lib.hid (hear1_len G.out HS.out HE0.out)
  obtain ⟨fi, hfi⟩ : ∃ x, Pl.findI c f r s.l = x := ⟨_, rfl⟩
  have HFi := Lib.hid hfi
  have HFind : Hid (Calls Try.prog 119 #[.pointer (some ⟨R, 0, none⟩), .int .u32 f, .int .u32 r] w2 fun e w' => e = .returned (.int .i64 fi) ∧ Below w2.heap.size w2 w') := Lib.hid (by rw [← hfi]; exact rfind_any HR2.out G.out.ty (by omega) f r)
  clear hfi hE0
  go_upto_region 4 with fail
  clear he0
  go_wp2_with (skip; fail)
  refine HFind.out.mono ?_
  rintro e w3 ⟨rfl, hb3⟩
  have HB3 := Lib.hid (HB2.out.trans (hb3.mono HB2.out.size))
  have HR3 := Lib.hid (HR2.out.below hb3)
  have HK3 := Lib.hid (HK2.out.below hb3 HK2.out.lt)
  clear hb3 HR2 HK2 HFind HB2
  obtain ⟨i, hi⟩ : ∃ i, Pl.spot c f r s.l = i := ⟨_, rfl⟩
  have HI := Lib.hid hi
  obtain ⟨ls, hls⟩ : ∃ l, Pl.withSpot c f r s.l = l := ⟨_, rfl⟩
  have HLs := Lib.hid hls
  rw [hls] at Hpl
  have hil : i < ls.length := by rw [← hi, ← hls]; exact Pl.spot_lt
  have Hil := Lib.hid hil
  clear hi hls hil
  go_upto_if 31 with fail
  go_cut [11] from 30 to 34 (fun p11 wx => p11 = .int .i64 i ∧ Hid (∃ v2, RAt lo wx R c { s with l := ls } v2) ∧ Hid (RFr lo w wx) ∧ Hid (Blk wx w.heap.size 90 #[.int .u32 h.ma, .int .u16 h.hi, .int .u8 h.op, .int .u8 h.pr, .int .u32 h.dd, .int .u32 h.dr, .int .u32 h.bd, .slice na nn nc]))
  case first =>
    by_cases hneg : fi < 0
    · have HPl : Hid (Calls Try.prog 120 #[.pointer (some ⟨R, 0, none⟩), .int .u32 f] w3 fun e w' => e = .returned (.int .i64 i) ∧ ∃ v', RAt lo w' R c { s with l := ls } v' ∧ RFr lo w3 w') := Lib.hid (by
        have hnone := Pl.findI_neg.1 (by rw [HFi.out]; exact hneg)
        have h1 := spot_new hnone
        rw [← HI.out, ← HLs.out, h1.1, h1.2.1]
        exact rplace_any HR3.out (by omega) f)
      go_wp2_with fail
      refine HPl.out.mono ?_
      rintro e w4 ⟨rfl, v4, hr4, hf4⟩
      have HK4 := Lib.hid (hf4.blk HK3.out (by decide) (by decide))
      have HF4 := Lib.hid ((RFr.of_below HB3.out).trans hf4)
      have HR4 := Lib.hid hr4
      clear hr4 hf4
      go_wp2_with fail
      go_meet
      case rel => exact ⟨rfl, Lib.hid ⟨_, HR4.out⟩, HF4, HK4⟩
    · have HIe : Hid (fi = (i : Int) ∧ ls = s.l) := Lib.hid (by
        cases hfd : Pl.find c f r s.l with
        | none => exact absurd (by rw [← HFi.out]; exact Pl.findI_neg.2 hfd) hneg
        | some j =>
          have h1 := spot_found hfd
          exact ⟨by rw [← HFi.out, h1.2.2, ← HI.out, h1.1], by rw [← HLs.out, h1.2.1]⟩)
      go_wp2_with fail
      go_meet
      case rel => exact ⟨by rw [HIe.out.1], Lib.hid ⟨_, by rw [HIe.out.2]; exact HR3.out⟩, Lib.hid (RFr.of_below HB3.out), HK3⟩
  obtain ⟨rfl, ⟨v4, hR4⟩, HF4, HK4⟩ := hcut
  obtain ⟨A, cp, hv4⟩ := own_slice hR4.o
  obtain ⟨m, hm⟩ : ∃ m, ls.length = m := ⟨_, rfl⟩
  have Hm := Lib.hid hm
  obtain ⟨w4, hw4⟩ : ∃ w4, w4 = wc := ⟨_, rfl⟩
  have HR4 : Hid (RAt lo w4 R c { s with l := ls } (.slice A m cp)) := Lib.hid (by rw [hw4, ← hm]; rw [hv4] at hR4; exact hR4)
  rw [← hw4] at HF4 HK4 ⊢
  have hm64 : m ≤ 64 := by rw [← hm]; exact Hpl.out
  have him : (i : Int) < (m : Int) := by have := Hil.out; omega
  obtain ⟨x, hx⟩ : ∃ x, ls[i]? = some x := ⟨_, List.getElem?_eq_getElem Hil.out⟩
  have Hx := Lib.hid hx
  have HOld : Hid (Pl.oldOf c s f r = x) := Lib.hid (by unfold Pl.oldOf; rw [HI.out, HLs.out, List.getD_eq_getElem?_getD, hx]; rfl)
  obtain ⟨b, n', cap, e, hn2, hb, hc⟩ := HR4.out.o.knb (l := ls) hx
  cases e
  have c21 : w4.cell? ⟨R, 21, none⟩ = some (.slice (some ⟨b, 0, none⟩) m cp) := HR4.out.b.cell 21
  have hRl := HR4.out.b.lt
  have q0 : w4.cell? ⟨b, i * 9, none⟩ = some (.int .u32 x.ro) := hc 0 _ rfl
  have q1 : w4.cell? ⟨b, i * 9 + 1, none⟩ = some (.int .u32 x.ad) := hc 1 _ rfl
  have q2 : w4.cell? ⟨b, i * 9 + 2, none⟩ = some (.int .u8 x.st) := hc 2 _ rfl
  have q3 : w4.cell? ⟨b, i * 9 + 3, none⟩ = some (.int .u8 x.pr) := hc 3 _ rfl
  have q4 : w4.cell? ⟨b, i * 9 + 4, none⟩ = some (.int .u32 x.dr) := hc 4 _ rfl
  have q5 : w4.cell? ⟨b, i * 9 + 5, none⟩ = some (.int .u32 x.bd) := hc 5 _ rfl
  have q6 : w4.cell? ⟨b, i * 9 + 6, none⟩ = some (.int .u8 x.op) := hc 6 _ rfl
  have q7 : w4.cell? ⟨b, i * 9 + 7, none⟩ = some (.int .u32 x.lf) := hc 7 _ rfl
  have q8 : w4.cell? ⟨b, i * 9 + 8, none⟩ = some (.bool x.fu) := hc 8 _ rfl
  clear hm hv4 hR4 hw4 hx hn2 hc HR3 HK3 HB3 him
  have him : (i : Int) < (m : Int) := by have := Hil.out; have := Hm.out; omega
  go_upto_region 8 with fail
  obtain ⟨w5, hw5⟩ : ∃ w5, w5 = w4.alloc (.cells #[.int .u32 x.ro, .int .u32 x.ad, .int .u8 x.st, .int .u8 x.pr, .int .u32 x.dr, .int .u32 x.bd, .int .u8 x.op, .int .u32 x.lf, .bool x.fu] 157) := ⟨_, rfl⟩
  have hb5 : Below w4.heap.size w4 w5 := by rw [hw5]; exact (Below.refl _ w4).alloc (Nat.le_refl _) _
  have HO5 : Hid (Blk w5 w4.heap.size 157 #[.int .u32 x.ro, .int .u32 x.ad, .int .u8 x.st, .int .u8 x.pr, .int .u32 x.dr, .int .u32 x.bd, .int .u8 x.op, .int .u32 x.lf, .bool x.fu]) := Lib.hid (by rw [hw5]; exact Blk.new w4 _ _)
  have HB5 := Lib.hid hb5
  have HR5 := Lib.hid (HR4.out.below hb5)
  have HK5 := Lib.hid (HK4.out.below hb5 HK4.out.lt)
  rw [← hw5]
  obtain ⟨OB, hOB⟩ : ∃ O, O = w4.heap.size := ⟨_, rfl⟩
  have HOB := Lib.hid hOB
  rw [← hOB] at HO5 ⊢
  clear hw5 hb5 hOB c21 hRl q0 q1 q2 q3 q4 q5 q6 q7 q8 hb
  have o0 : w5.cell? ⟨OB, 0, none⟩ = some (.int .u32 x.ro) := HO5.out.cell 0
  have o2 : w5.cell? ⟨OB, 2, none⟩ = some (.int .u8 x.st) := HO5.out.cell 2
  have hOl5 := HO5.out.lt
  obtain ⟨sm, hsm⟩ : ∃ b, Pl.same r x = b := ⟨_, rfl⟩
  have HSm := Lib.hid hsm
  clear hsm
  go_cut [13] from 42 to 50 (fun p13 wx => p13 = .bool sm ∧ w5 = wx)
  case first =>
    rcases e1 : (x.ro == r) with _ | _
    · have HV : Hid (sm = false) := Lib.hid (by rw [← HSm.out]; unfold Pl.same; rw [e1]; rfl)
      go_wp2_with fail
      go_meet
      case rel => exact ⟨by rw [HV.out], rfl⟩
    · by_cases e2 : 2 ≤ x.st
      · have HV : Hid (sm = true) := Lib.hid (by rw [← HSm.out]; unfold Pl.same; rw [e1]; simpa using e2)
        go_wp2_with fail
        go_meet
        case rel => exact ⟨by rw [HV.out], rfl⟩
      · have HV : Hid (sm = false) := Lib.hid (by rw [← HSm.out]; unfold Pl.same; rw [e1]; simpa using e2)
        go_wp2_with fail
        go_meet
        case rel => exact ⟨by rw [HV.out], rfl⟩
  obtain ⟨rfl, rfl⟩ := hcut
  clear o0 o2 hOl5
  have k2 : w5.cell? ⟨w.heap.size, 2, none⟩ = some (.int .u8 h.op) := HK5.out.cell 2
  have k3 : w5.cell? ⟨w.heap.size, 3, none⟩ = some (.int .u8 h.pr) := HK5.out.cell 3
  have k5 : w5.cell? ⟨w.heap.size, 5, none⟩ = some (.int .u32 h.dr) := HK5.out.cell 5
  have k6 : w5.cell? ⟨w.heap.size, 6, none⟩ = some (.int .u32 h.bd) := HK5.out.cell 6
  have c7 : w5.cell? ⟨R, 7, none⟩ = some (.int .u32 c.dd) := HR5.out.b.cell 7
  have hRl5 := HR5.out.b.lt
  have hKl5 := HK5.out.lt
  go_upto_region 9 with fail
  go_cut [14] from 51 to 66 (fun p14 wx => ∃ S : Nat, p14 = .pointer (some ⟨S, 0, none⟩) ∧ Hid (Blk wx S 157 #[.int .u32 r, .int .u32 f, .int .u8 2, .int .u8 h.pr, .int .u32 h.dr, .int .u32 h.bd, .int .u8 h.op, .int .u32 c.dd, .bool false]) ∧ Hid (w5.heap.size ≤ S) ∧ Hid (Below w5.heap.size w5 wx))
  case first =>
    go_region_held3 (fun w' => w'.cell? ⟨w.heap.size, 3, none⟩ = some (.int .u8 h.pr) ∧ w'.cell? ⟨w.heap.size, 5, none⟩ = some (.int .u32 h.dr) ∧ w'.cell? ⟨w.heap.size, 6, none⟩ = some (.int .u32 h.bd) ∧ w'.cell? ⟨w.heap.size, 2, none⟩ = some (.int .u8 h.op) ∧ w'.cell? ⟨R, 7, none⟩ = some (.int .u32 c.dd)) (go_keep) (fail)
    all_goals clear k2 k3 k5 k6 c7
    all_goals
      go_wp2_with fail
      go_meet
      case rel =>
        refine ⟨_, rfl, Lib.hid ?_, Lib.hid (Nat.le_refl _), Lib.hid ?_⟩
        · exact (Blk.new w5 157 #[.int .u32 r, .int .u32 f, .int .u8 2, .int .u8 h.pr, .int .u32 h.dr, .int .u32 h.bd, .int .u8 h.op, .int .u32 c.dd, .bool false]).drew
        · exact ((Below.refl _ w5).alloc (Nat.le_refl _) _).drew
  case rest =>
  obtain ⟨S, rfl, HS6, HSl, HB6⟩ := hcut
  obtain ⟨w6, hw6⟩ : ∃ y, y = wc := ⟨_, rfl⟩
  rw [← hw6] at HS6 HB6 ⊢
  have HR6 := Lib.hid (HR5.out.below HB6.out)
  have HK6 := Lib.hid (HK5.out.below HB6.out hKl5)
  have HF6 := Lib.hid (HF4.out.trans ((RFr.of_below HB5.out).trans (RFr.of_below HB6.out)))
  have hbO : b < OB := by rw [HOB.out]; exact HR4.out.o.frozen.2
  have hO5l := HO5.out.lt
  have hOS : OB < S := by have h2 := HSl.out; omega
  clear hw6 k2 k3 k5 k6 c7 hRl5
  go_upto_region 10 with fail
  obtain ⟨nm, hnm⟩ : ∃ b, decide (c.ro ∈ h.nb) = b := ⟨_, rfl⟩
  have HNm : Hid (∀ u : Later w6.heap.size w6, Calls Try.prog 121 #[.agg #[.int .u32 h.ma, .int .u16 h.hi, .int .u8 h.op, .int .u8 h.pr, .int .u32 h.dd, .int .u32 h.dr, .int .u32 h.bd, .slice na nn nc], .int .u32 c.ro] u.to fun e w' => e = .returned (.bool nm) ∧ Below u.to.heap.size u.to w') := Lib.hid (fun u => by
    have h1 := rnames_any u.to h (.slice na nn nc) c.ro (HW.out _ (HF6.out.trans (RFr.of_below u.ok)))
    rw [hnm] at h1
    exact h1)
  have Hnm := Lib.hid hnm
  have hK6l := HK6.out.lt
  have hR6l := HR6.out.b.lt
  have z0 := later_cell (v := .int .u32 h.ma) (B := w6.heap.size) (w0 := w6) (p := ⟨w.heap.size, 0, none⟩) hK6l (HK6.out.cell 0)
  have z1 := later_cell (v := .int .u16 h.hi) (B := w6.heap.size) (w0 := w6) (p := ⟨w.heap.size, 1, none⟩) hK6l (HK6.out.cell 1)
  have z2 := later_cell (v := .int .u8 h.op) (B := w6.heap.size) (w0 := w6) (p := ⟨w.heap.size, 2, none⟩) hK6l (HK6.out.cell 2)
  have z3 := later_cell (v := .int .u8 h.pr) (B := w6.heap.size) (w0 := w6) (p := ⟨w.heap.size, 3, none⟩) hK6l (HK6.out.cell 3)
  have z4 := later_cell (v := .int .u32 h.dd) (B := w6.heap.size) (w0 := w6) (p := ⟨w.heap.size, 4, none⟩) hK6l (HK6.out.cell 4)
  have z5 := later_cell (v := .int .u32 h.dr) (B := w6.heap.size) (w0 := w6) (p := ⟨w.heap.size, 5, none⟩) hK6l (HK6.out.cell 5)
  have z6 := later_cell (v := .int .u32 h.bd) (B := w6.heap.size) (w0 := w6) (p := ⟨w.heap.size, 6, none⟩) hK6l (HK6.out.cell 6)
  have z7 := later_cell (v := .slice na nn nc) (B := w6.heap.size) (w0 := w6) (p := ⟨w.heap.size, 7, none⟩) hK6l (HK6.out.cell 7)
  have y1 := later_cell (v := .int .u32 c.ro) (B := w6.heap.size) (w0 := w6) (p := ⟨R, 1, none⟩) hR6l (HR6.out.b.cell 1)
  clear hnm
  refine wp_region_later (B := w6.heap.size) (w0 := w6) (by kernel_rfl) (by kernel_rfl) (Below.refl _ _) ?_
  repeat (go_big_quiet_step (first
    | (go_at_call 121; with_reducible exact later_call _ (Nat.le_refl _) (HNm.out _))))
  refine wpQuiet_nil ?_
  rintro w7 ⟨⟨wy, hwy⟩, hwe⟩
  obtain rfl : w7 = wy := hwe
  have HB7 := Lib.hid (HB6.out.trans (hwy.mono HB6.out.size))
  have HS7 := Lib.hid (HS6.out.below hwy HS6.out.lt)
  have g2 : w7.cell? ⟨S, 2, none⟩ = some (.int .u8 2) := HS7.out.cell 2
  have hSl7 := HS7.out.lt
  have fS7 := HS7.out.frozen
  clear hwy z0 z1 z2 z3 z4 z5 z6 z7 y1 hK6l hR6l HNm HR6 HK6 HS6 HB6
  obtain ⟨st3, hst3⟩ : ∃ st : Int, st = if nm = true then 3 else 2 := ⟨_, rfl⟩
  have HSt3 := Lib.hid hst3
  clear hst3
  go_upto_if 73 with fail
  go_cut [] from 67 to 74 (fun wx => Hid (Blk wx S 157 #[.int .u32 r, .int .u32 f, .int .u8 st3, .int .u8 h.pr, .int .u32 h.dr, .int .u32 h.bd, .int .u8 h.op, .int .u32 c.dd, .bool false]) ∧ Hid (Below w5.heap.size w5 wx))
  case first =>
    rcases nm with _ | _
    · have e3 : st3 = 2 := HSt3.out
      subst e3
      go_wp2_with fail
      go_meet
      case rel => exact ⟨HS7, HB7⟩
    · have e3 : st3 = 3 := HSt3.out
      subst e3
      go_wp2_with fail
      go_meet
      case rel => exact ⟨Lib.hid (HS7.out.set_ 2 _), Lib.hid (HB7.out.setCell (p := ⟨S, 2, none⟩) HSl.out _)⟩
  obtain ⟨HS8, HB8⟩ := hcut
  obtain ⟨w8, hw8⟩ : ∃ y, y = wc := ⟨_, rfl⟩
  rw [← hw8] at HS8 HB8 ⊢
  clear hw8 g2 hSl7 fS7 HS7 HB7
  have HO8 := Lib.hid (HO5.out.below HB8.out hO5l)
  have o8 : w8.cell? ⟨OB, 8, none⟩ = some (.bool x.fu) := HO8.out.cell 8
  have g2 : w8.cell? ⟨S, 2, none⟩ = some (.int .u8 st3) := HS8.out.cell 2
  have g8 : w8.cell? ⟨S, 8, none⟩ = some (.bool false) := HS8.out.cell 8
  have hSl8 := HS8.out.lt
  have hOl8 := HO8.out.lt
  have fS8 := HS8.out.frozen
  obtain ⟨xfu, hxfu⟩ : ∃ b, x.fu = b := ⟨_, rfl⟩
  have HXfu := Lib.hid hxfu
  rw [hxfu] at o8
  clear hxfu
  obtain ⟨fu3, hfu3⟩ : ∃ b : Bool, b = (sm && (xfu && nm)) := ⟨_, rfl⟩
  have HFu3 := Lib.hid hfu3
  clear hfu3
  go_upto_region 12 with fail
  go_cut [] from 75 to 85 (fun wx => Hid (Blk wx S 157 #[.int .u32 r, .int .u32 f, .int .u8 st3, .int .u8 h.pr, .int .u32 h.dr, .int .u32 h.bd, .int .u8 h.op, .int .u32 c.dd, .bool fu3]) ∧ Hid (Below w5.heap.size w5 wx))
  case first =>
    rcases sm with _ | _
    · have e3 : fu3 = false := HFu3.out
      subst e3
      go_wp2_with fail
      go_meet
      case rel => exact ⟨Lib.hid (HS8.out.set_ 8 _), Lib.hid (HB8.out.setCell (p := ⟨S, 8, none⟩) HSl.out _)⟩
    · rcases xfu with _ | _
      · have e3 : fu3 = false := HFu3.out
        subst e3
        go_wp2_with fail
        go_meet
        case rel => exact ⟨Lib.hid (HS8.out.set_ 8 _), Lib.hid (HB8.out.setCell (p := ⟨S, 8, none⟩) HSl.out _)⟩
      · rcases nm with _ | _
        · have e3 : fu3 = false := HFu3.out
          have e4 : st3 = 2 := HSt3.out
          subst e3 e4
          go_wp2_with fail
          go_meet
          case rel => exact ⟨Lib.hid (HS8.out.set_ 8 _), Lib.hid (HB8.out.setCell (p := ⟨S, 8, none⟩) HSl.out _)⟩
        · have e3 : fu3 = true := HFu3.out
          have e4 : st3 = 3 := HSt3.out
          subst e3 e4
          go_wp2_with fail
          go_meet
          case rel => exact ⟨Lib.hid (HS8.out.set_ 8 _), Lib.hid (HB8.out.setCell (p := ⟨S, 8, none⟩) HSl.out _)⟩
  obtain ⟨HS9, HB9⟩ := hcut
  obtain ⟨w9, hw9⟩ : ∃ y, y = wc := ⟨_, rfl⟩
  rw [← hw9] at HS9 HB9 ⊢
  clear hw9 o8 g2 g8 hSl8 hOl8 fS8 HS8 HB8 HO8
  obtain ⟨nk, hnk⟩ : ∃ nk : Kn, nk = ⟨r, f, st3, h.pr, h.dr, h.bd, h.op, c.dd, false, fu3⟩ := ⟨_, rfl⟩
  have HNew : Hid (Pl.newKn c f r h x = nk) := Lib.hid (by
    rw [hnk]
    unfold Pl.newKn
    rw [HSm.out, HXfu.out, Hnm.out, HFu3.out, HSt3.out]
    have e : (if c.ro ∈ h.nb then (3 : Int) else 2) = if nm = true then 3 else 2 := by
      have := Hnm.out
      cases nm
      · rw [if_neg (by simpa using this), if_neg (by decide)]
      · rw [if_pos (by simpa using this), if_pos rfl]
    rw [e])
  have HR9 := Lib.hid (HR5.out.below HB9.out)
  have d21 : w9.cell? ⟨R, 21, none⟩ = some (.slice (some ⟨b, 0, none⟩) m cp) := HR9.out.b.cell 21
  have hR9l := HR9.out.b.lt
  have n0 : w9.cell? ⟨S, 0, none⟩ = some (.int .u32 r) := HS9.out.cell 0
  have n1 : w9.cell? ⟨S, 1, none⟩ = some (.int .u32 f) := HS9.out.cell 1
  have n2 : w9.cell? ⟨S, 2, none⟩ = some (.int .u8 st3) := HS9.out.cell 2
  have n3 : w9.cell? ⟨S, 3, none⟩ = some (.int .u8 h.pr) := HS9.out.cell 3
  have n4 : w9.cell? ⟨S, 4, none⟩ = some (.int .u32 h.dr) := HS9.out.cell 4
  have n5 : w9.cell? ⟨S, 5, none⟩ = some (.int .u32 h.bd) := HS9.out.cell 5
  have n6 : w9.cell? ⟨S, 6, none⟩ = some (.int .u8 h.op) := HS9.out.cell 6
  have n7 : w9.cell? ⟨S, 7, none⟩ = some (.int .u32 c.dd) := HS9.out.cell 7
  have n8 : w9.cell? ⟨S, 8, none⟩ = some (.bool fu3) := HS9.out.cell 8
  have hS9l := HS9.out.lt
  go_upto_region 13 with fail
  refine wp_region_drawn_tail 7 (by kernel_rfl) (by kernel_rfl) ?_
  simp only [List.take_succ_cons, List.take_zero, List.drop_succ_cons, List.drop_zero]
  repeat (go_big_quiet_step (fail))
  refine wpQuiet_nil ?_
  rintro wq ⟨q, rfl⟩
  have HRq := Lib.hid (HR9.out.below (drewQ w9 q))
  have hth : (w9.drewN q).there b (i * 9) 9 := fun j hj => by
    obtain ⟨b', n'', cap', e', _, _, hc⟩ := HRq.out.o.knb (l := ls) Hx.out
    cases e'
    exact ⟨by rw [hc j _ (List.getElem?_eq_getElem (show j < (rcells x).length from hj))]; rfl, HRq.out.o.frozen.1 _⟩
  refine wpList_store_mid rfl _ (.tmp 92) (.tmp 91) rfl b (i * 9) (rcells nk).toArray rfl (by rw [hnk]; rfl) hth (by kernel_rfl) (by simp [rcells, Value.oneCell']) ?_
  obtain ⟨wX, hwX⟩ : ∃ w4, w4 = (w9.drewN q).setCells b (i * 9) (rcells nk).toArray.toList := ⟨_, rfl⟩
  have hFX : Frame (fun j => j = b) (w9.drewN q) wX := by rw [hwX]; exact Frame.setAll _ _ _ _ (Frame.refl _ _)
  have hoX : ROwn lo wX (.slice (some ⟨b, 0, none⟩) m cp) (ls.set i nk) := by
    rw [hwX]
    exact HRq.out.o.setKn Hx.out nk
  have hbR : b ≠ R := HRq.out.row_ne
  have HRX : Hid (RAt lo wX R c (Pl.hear1 c s f r h x) (.slice (some ⟨b, 0, none⟩) m cp)) := Lib.hid (by
    have e : Pl.hear1 c s f r h x = { s with l := ls.set i nk } := by unfold Pl.hear1; rw [HI.out, HLs.out, HNew.out]
    rw [e]
    exact ⟨HRq.out.loR, hFX.blk HRq.out.b (Ne.symm hbR), hoX⟩)
  have HFX := Lib.hid (HF4.out.trans ((RFr.of_below HB5.out).trans ((RFr.of_below HB9.out).trans ((RFr.of_below (drewQ w9 q)).trans (RFr.ofRow HRq.out.o hFX)))))
  have HOX := Lib.hid (hFX.blk ((HO5.out.below HB9.out hO5l).drewN q) (by omega))
  have HSX := Lib.hid (hFX.blk (HS9.out.drewN q) (by omega))
  have HKX := Lib.hid ((RFr.ofRow HRq.out.o hFX).blk ((HK5.out.below HB9.out HK5.out.lt).drewN q) (by decide) (by decide))
  rw [← hwX]
  clear hwX hFX hoX hbR hth d21 hR9l n0 n1 n2 n3 n4 n5 n6 n7 n8 hS9l HR9 HRq HS9 HB9
  rename_i K hK
  change K _ _
  refine hK _ _ ?_
  clear hK
  obtain rfl : E = 0 := by rw [← HE.out]; exact HE0.out
  have hlen : (Pl.hear1 c s f r h x).l.length ≤ 60000 := by
    have e : (Pl.hear1 c s f r h x).l.length = ls.length := by unfold Pl.hear1; rw [HLs.out]; exact List.length_set
    have := Hpl.out
    omega
  have hSX : Blk wX S 157 #[.int .u32 nk.ro, .int .u32 nk.ad, .int .u8 nk.st, .int .u8 nk.pr, .int .u32 nk.dr, .int .u32 nk.bd, .int .u8 nk.op, .int .u32 nk.lf, .bool nk.fu] := by rw [hnk]; exact HSX.out
  have e1 : Pl.hearSt c s f r h = Pl.hearC c f h sm x nk (Pl.hear1 c s f r h x) := by
    unfold Pl.hearSt
    rw [if_neg (fun e => e HE0.out), HOld.out]
    unfold Pl.hear2 Pl.hearC
    rw [HNew.out, HSm.out]
    rfl
  have e2 : Pl.hearOut c s f r h = Pl.hearO c f h (Pl.hearC c f h sm x nk (Pl.hear1 c s f r h x)) := by
    unfold Pl.hearOut
    rw [if_neg (fun e => e HE0.out), e1]
    rfl
  change Code.wp Try.prog (hearRest 11) _ _ _
  have hc := fun x3 x4 x5 x6 x8 x9 x10 x11 x15 x16 x17 x18 x19 x20 x21 x22 x23 x24 x25 x26 x27 x28 x29 x30 x31 x32 x33 x34 x35 x36 x37 x38 x39 x40 x41 x42 x43 x44 x45 x46 x47 x48 x49 x50 x51 x52 x53 x54 x55 x56 x57 x58 x59 x60 x61 x62 x63 x64 x65 x66 x67 x68 x69 x70 x71 x72 x73 x74 x75 x76 x77 x78 x79 x80 x81 x82 x83 x84 x85 x86 x87 x88 x89 x90 x91 x92 x93 x94 x95 x96 x97 x98 x99 x100 x101 x102 x103 x104 x105 x106 x107 x108 x109 x110 x111 x112 x113 x114 x115 x116 x117 x118 x119 x120 x121 x122 x123 x124 x125 x126 x127 x128 x129 x130 x131 x132 x133 x134 x135 x136 x137 x138 x139 x140 x141 x142 x143 x144 x145 x146 x147 x148 x149 x150 x151 x152 x153 x154 x155 x156 x157 x158 x159 x160 x161 x162 x163 x164 x165 x166 x167 x168 x169 x170 x171 x172 x173 x174 x175 x176 x177 x178 x179 x180 x181 x182 x183 x184 x185 x186 x187 x188 x189 x190 x191 x192 x193 x194 x195 x196 x197 x198 x199 x200 x201 x202 x203 x204 x205 x206 x207 x208 x209 x210 x211 x212 x213 x214 x215 x216 x217 x218 x219 x220 x221 x222 x223 x224 x225 x226 x227 => hear_c (f := f) (r := r) (sm := sm) HRX.out HFX.out hlen G.out.nb0 G.out.nb G.out.vi HOX.out hSX HKX.out (by rw [hnk]) (by rw [hnk]) (by rw [hnk]) x3 x4 x5 x6 x8 x9 x10 x11 x15 x16 x17 x18 x19 x20 x21 x22 x23 x24 x25 x26 x27 x28 x29 x30 x31 x32 x33 x34 x35 x36 x37 x38 x39 x40 x41 x42 x43 x44 x45 x46 x47 x48 x49 x50 x51 x52 x53 x54 x55 x56 x57 x58 x59 x60 x61 x62 x63 x64 x65 x66 x67 x68 x69 x70 x71 x72 x73 x74 x75 x76 x77 x78 x79 x80 x81 x82 x83 x84 x85 x86 x87 x88 x89 x90 x91 x92 x93 x94 x95 x96 x97 x98 x99 x100 x101 x102 x103 x104 x105 x106 x107 x108 x109 x110 x111 x112 x113 x114 x115 x116 x117 x118 x119 x120 x121 x122 x123 x124 x125 x126 x127 x128 x129 x130 x131 x132 x133 x134 x135 x136 x137 x138 x139 x140 x141 x142 x143 x144 x145 x146 x147 x148 x149 x150 x151 x152 x153 x154 x155 x156 x157 x158 x159 x160 x161 x162 x163 x164 x165 x166 x167 x168 x169 x170 x171 x172 x173 x174 x175 x176 x177 x178 x179 x180 x181 x182 x183 x184 x185 x186 x187 x188 x189 x190 x191 x192 x193 x194 x195 x196 x197 x198 x199 x200 x201 x202 x203 x204 x205 x206 x207 x208 x209 x210 x211 x212 x213 x214 x215 x216 x217 x218 x219 x220 x221 x222 x223 x224 x225 x226 x227
  rw [← e2, ← e1] at hc
  change Code.wp Try.prog (hearRest 11) (bodyPost Try.prog Try.f82 _) _ _
  rw [HE0.out]
  simp only [Act.put]
  exact hc _ _ _ _ _ _ _ _ _ _ _ _ _ _ _ _ _ _ _ _ _ _ _ _ _ _ _ _ _ _ _ _ _ _ _ _ _ _ _ _ _ _ _ _ _ _ _ _ _ _ _ _ _ _ _ _ _ _ _ _ _ _ _ _ _ _ _ _ _ _ _ _ _ _ _ _ _ _ _ _ _ _ _ _ _ _ _ _ _ _ _ _ _ _ _ _ _ _ _ _ _ _ _ _ _ _ _ _ _ _ _ _ _ _ _ _ _ _ _ _ _ _ _ _ _ _ _ _ _ _ _ _ _ _ _ _ _ _ _ _ _ _ _ _ _ _ _ _ _ _ _ _ _ _ _ _ _ _ _ _ _ _ _ _ _ _ _ _ _ _ _ _ _ _ _ _ _ _ _ _ _ _ _ _ _ _ _ _ _ _ _ _ _ _ _ _ _ _ _ _ _ _ _ _ _ _ _ _ _ _ _ _ _ _ _ _ _ _ _ _ _ 
end
end Go.Proofs.Ytgbmhijgpdgdbaa
