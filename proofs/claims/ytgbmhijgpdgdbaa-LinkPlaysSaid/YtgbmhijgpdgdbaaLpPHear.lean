/- The program's link: a Hello is heard. -/
import Derived.Test.YtgbmhijgpdgdbaaLpPHeard
import Derived.Test.YtgbmhijgpdgdbaaLpPPutB
import Derived.Test.YtgbmhijgpdgdbaaLpPMay
import Derived.Test.YtgbmhijgpdgdbaaLpRefHear
set_option maxHeartbeats 8000000
set_option maxRecDepth 20000
namespace Go.Proofs.Ytgbmhijgpdgdbaa
open Go.RowKit Go.Shelf
attribute [local go_sem] Oper.semAt_some
section
variable {lo : Nat} {w : World} {B : Nat} {c : LC} {s : Pl.St} {A : Option Addr} {cap : Nat} {xs : List (Nat × Kn)} {L : List (Int × Int)}
theorem pput_any (h : PAt lo w B c s A cap xs) (hn : xs.length ≤ 1000) (f : Int) : Calls Try.prog 72 #[.pointer (some ⟨B, 0, none⟩), .int .u32 f] w fun e w' => e = .returned (.int .i64 (Pl.putAt c f s.l)) ∧ ∃ A' cap' xs', PAt lo w' B c { s with l := Pl.putL c f s.l } A' cap' xs' ∧ LFr lo w w' := by
  by_cases ht : c.ty = 0
  · exact pput_b h ht hn f
  · exact pput_o h ht f
section
variable {w' : World} {s' : Pl.St}
theorem PAt.setRowK {R : Nat} (h : PAt lo w B c s (some ⟨R, 0, none⟩) cap xs) {cur : Array Value} (hc : Blk w R 137 cur) {i K : Nat} {k : Kn} (hi : i < xs.length) (hK : lo ≤ K) (hKne : ∀ x ∈ xs, x.1 ≠ K) (kb : Blk w' K 139 k.cells) (hl : Blk w' R 137 (cur.setIfInBounds i (.pointer (some ⟨K, 0, none⟩)))) (hf : Frame (fun j => j = R) w w') (hsl : s'.l = s.l.set i k) (hse : (lks c s'.st s'.dr s'.bd s'.wt s'.nx s'.po s'.re) = (lks c s.st s.dr s.bd s.wt s.nx s.po s.re)) :
    PAt lo w' B c s' (some ⟨R, 0, none⟩) cap (xs.set i (K, k)) ∧ LFr lo w w' := by
  have hRB : B ≠ R := h.b.ne_ hc (by decide)
  have hlo : lo ≤ R ∧ R < w.heap.size := by
    obtain ⟨L', e, h1, h2, _⟩ := h.at_ (List.getElem?_eq_getElem hi)
    injection e with e
    have e := congrArg Addr.block e
    dsimp only at e
    omega
  refine ⟨⟨h.loB, by rw [List.length_set, hse]; exact hf.blk h.b hRB, ?_, fun x hx => ?_, ?_, by rw [hsl, ← h.l, List.map_set]⟩, LFr.one hc hlo.1 (.inr (.inl rfl)) hf⟩
  · rw [List.length_set]
    have hps : kptrs (xs.set i (K, k)) = (kptrs xs).set i (.pointer (some ⟨K, 0, none⟩)) := by unfold kptrs; rw [List.map_set]
    refine ⟨by rw [hps, List.length_set]; exact h.o.1, ?_⟩
    rcases h.o.2 with ⟨e, _⟩ | ⟨g, cur', e, hg, hh, h1, h2, h3, h4, h5⟩
    · cases e
    · injection e with e
      obtain rfl : R = g := congrArg Addr.block e
      have ec : some (Obj.cells cur 137 (0, 0)) = some (Obj.cells cur' 137 (0, 0)) := (show w.heap[R]? = _ from hc).symm.trans hh
      injection ec with ec
      injection ec with ec
      subst ec
      exact .inr ⟨R, _, rfl, hg, hl, h1, by simpa using h2, h3, by simpa using h4, by rw [Array.toList_setIfInBounds, List.take_set, h5, hps]⟩
  · rcases List.mem_or_eq_of_mem_set hx with hx | rfl
    · exact ⟨hf.blk (h.k x hx).1 ((h.k x hx).1.ne_ hc (by decide)), (h.k x hx).2⟩
    · exact ⟨kb, hK⟩
  · rw [List.map_set]
    refine nodup_set' i h.nd (fun hm => ?_)
    obtain ⟨x, hx, e⟩ := List.mem_map.1 hm
    exact hKne x hx e
end
def namedTo (c : LC) (h : Pl.Hel) (k : Nat) : Int := if c.ro ∈ h.nb.take k then 3 else 2
theorem named_hit {c : LC} {h : Pl.Hel} {k : Nat} {x : Int} (hx : h.nb[k]? = some x) (e : x = c.ro) : namedTo c h (k + 1) = 3 := by
  unfold namedTo
  rw [if_pos]
  rw [List.take_add_one, hx, e]
  exact List.mem_append_right _ (by simp)
theorem named_miss {c : LC} {h : Pl.Hel} {k : Nat} {x : Int} (hx : h.nb[k]? = some x) (e : x ≠ c.ro) : namedTo c h (k + 1) = namedTo c h k := by
  unfold namedTo
  have : c.ro ∈ h.nb.take (k + 1) ↔ c.ro ∈ h.nb.take k := by
    rw [List.take_add_one, hx, List.mem_append]
    constructor
    · rintro (h1 | h1)
      · exact h1
      · simp at h1
        exact absurd h1.symm e
    · exact .inl
  simp only [this]
theorem phear_any (h0 : PAt lo w B c s A cap xs) (g : Pl.CfgOk c L) (hs : Pl.Ok c L s) (hnet : bits .and .u32 c.na (maskN c.nb.toNat) = c.na) (f r : Int) (h : Pl.Hel) (nv : Value) (hw : ∀ w', LFr lo w w' → WordsAt w' nv h.nb) :
    Calls Try.prog 35 #[.pointer (some ⟨B, 0, none⟩), .int .u32 f, .int .u32 r, hval h nv] w fun e w' => ∃ u, e = .returned (.tuple #[u, .int .i64 (Pl.mayE c s f r h)]) ∧ OutsP w' u (Pl.hearOut c s f r h) ∧ (∃ A' cap' xs', PAt lo w' B c (Pl.hearSt c s f r h) A' cap' xs') ∧ LFr lo w w' := by
  obtain ⟨na, nn, nc, rfl⟩ := Reads.wordsAt (hw w (LFr.refl _ _))
  obtain ⟨_, _, _, e0, hnn, hn16, _⟩ := hw w (LFr.refl _ _)
  injection e0 with e01 e02 e03
  subst e01 e02 e03
  unfold hval
  have H := Lib.hid h0
  have G := Lib.hid g
  have HS := Lib.hid hs
  have HW := Lib.hid hw
  have HNet := Lib.hid hnet
  have Hnn := Lib.hid hnn
  have hlow : lo ≤ w.heap.size := by have := h0.loB; have := h0.b.lt; omega
  have hn64 : xs.length ≤ 64 := by have := hs.ln; have := h0.len; omega
  clear h0 g hs hw hnet hnn
  go_enter Try.func35, Try.ntmps35
  go_upto_region 1 with fail
  obtain ⟨w1, hw1⟩ : ∃ w1, w1 = w.alloc (.cells #[.int .u32 h.ma, .int .u16 h.hi, .int .u8 h.op, .int .u8 h.pr, .int .u32 h.dd, .int .u32 h.dr, .int .u32 h.bd, .slice na nn nc] 90) := ⟨_, rfl⟩
  have HB1 : Hid (Below w.heap.size w w1) := Lib.hid (by rw [hw1]; exact (Below.refl _ w).alloc (Nat.le_refl _) _)
  have HR1 := Lib.hid (H.out.below HB1.out)
  have HK1 : Hid (Blk w1 w.heap.size 90 #[.int .u32 h.ma, .int .u16 h.hi, .int .u8 h.op, .int .u8 h.pr, .int .u32 h.dd, .int .u32 h.dr, .int .u32 h.bd, .slice na nn nc]) := Lib.hid (by rw [hw1]; exact Blk.new w _ _)
  rw [← hw1]
  clear hw1
  have k0 : w1.cell? ⟨w.heap.size, 0, none⟩ = some (.int .u32 h.ma) := HK1.out.cell 0
  have k1 : w1.cell? ⟨w.heap.size, 1, none⟩ = some (.int .u16 h.hi) := HK1.out.cell 1
  have k2 : w1.cell? ⟨w.heap.size, 2, none⟩ = some (.int .u8 h.op) := HK1.out.cell 2
  have k3 : w1.cell? ⟨w.heap.size, 3, none⟩ = some (.int .u8 h.pr) := HK1.out.cell 3
  have k4 : w1.cell? ⟨w.heap.size, 4, none⟩ = some (.int .u32 h.dd) := HK1.out.cell 4
  have k5 : w1.cell? ⟨w.heap.size, 5, none⟩ = some (.int .u32 h.dr) := HK1.out.cell 5
  have k6 : w1.cell? ⟨w.heap.size, 6, none⟩ = some (.int .u32 h.bd) := HK1.out.cell 6
  have k7 : w1.cell? ⟨w.heap.size, 7, none⟩ = some (.slice na nn nc) := HK1.out.cell 7
  have hKl := HK1.out.lt
  have HMay : Hid (Calls Try.prog 70 #[.pointer (some ⟨B, 0, none⟩), .int .u32 f, .int .u32 r, .agg #[.int .u32 h.ma, .int .u16 h.hi, .int .u8 h.op, .int .u8 h.pr, .int .u32 h.dd, .int .u32 h.dr, .int .u32 h.bd, .slice na nn nc]] w1 fun e w' => e = .returned (.int .i64 (Pl.mayE c s f r h)) ∧ Below w1.heap.size w1 w') := Lib.hid (pmay_any HR1.out (by omega) G.out.nb0 G.out.nb HNet.out f r h _)
  go_wp2_with (go_at_call 67; refine (none_lk _ _ _ HR1.out.b rfl).mono ?_; rintro e w' ⟨rfl, rfl⟩)
  refine HMay.out.mono ?_
  rintro e w2 ⟨rfl, hb2⟩
  have HB2 := Lib.hid (HB1.out.trans (hb2.mono HB1.out.size))
  have HR2 := Lib.hid (HR1.out.below hb2)
  have HK2 := Lib.hid (HK1.out.below hb2 hKl)
  clear hb2 k0 k1 k2 k3 k4 k5 k6 k7 hKl HR1 HK1 HMay HB1
  obtain ⟨E, hE⟩ : ∃ E, Pl.mayE c s f r h = E := ⟨_, rfl⟩
  have HE := Lib.hid hE
  rw [hE]
  clear hE
  rcases he0 : (E != 0) with _ | _
  rotate_left
  · have HO : Hid (Pl.hearOut c s f r h = [] ∧ Pl.hearSt c s f r h = s) := Lib.hid (by
      have hne : Pl.mayE c s f r h ≠ 0 := by rw [HE.out]; simpa using he0
      unfold Pl.hearOut Pl.hearSt
      rw [if_pos hne, if_pos hne]
      exact ⟨rfl, rfl⟩)
    go_wp2_with fail
    refine bodyPost_ret (v := .tuple #[.slice none 0 0, .int .i64 E]) (by simp [results, Try.results35, go_sem]) rfl ⟨.slice none 0 0, by rw [HE.out], ?_, ⟨A, cap, xs, ?_⟩, LFr.of_below HB2.out⟩
    · rw [HO.out.1]; exact OutsP.nil _
    · rw [HO.out.2]; exact HR2.out
  have hE0 : E = 0 := by simpa using he0
  have HE0 : Hid (Pl.mayE c s f r h = 0) := Lib.hid (by rw [HE.out]; exact hE0)
  have Hpl := Lib.hid (hear1_len G.out HS.out HE0.out)
  obtain ⟨fi, hfi⟩ : ∃ x, Pl.findI c f r s.l = x := ⟨_, rfl⟩
  have HFi := Lib.hid hfi
  have HFind : Hid (Calls Try.prog 71 #[.pointer (some ⟨B, 0, none⟩), .int .u32 f, .int .u32 r] w2 fun e w' => e = .returned (.int .i64 fi) ∧ w2 = w') := Lib.hid (by rw [← hfi]; exact pfind_any HR2.out (by omega) f r)
  clear hfi hE0
  go_upto_region 6 with fail
  clear he0
  go_wp2_with (skip; fail)
  refine HFind.out.mono ?_
  rintro e w3 ⟨rfl, rfl⟩
  obtain ⟨i, hi⟩ : ∃ i, Pl.spot c f r s.l = i := ⟨_, rfl⟩
  have HI := Lib.hid hi
  obtain ⟨ls, hls⟩ : ∃ l, Pl.withSpot c f r s.l = l := ⟨_, rfl⟩
  have HLs := Lib.hid hls
  rw [hls] at Hpl
  have hil : i < ls.length := by rw [← hi, ← hls]; exact Pl.spot_lt
  have Hil := Lib.hid hil
  clear hi hls hil HFind
  go_upto_if 32 with fail
  go_cut [11] from 31 to 35 (fun p11 wx => p11 = .int .i64 i ∧ Hid (∃ A2 cp2 xs2, PAt lo wx B c { s with l := ls } A2 cp2 xs2) ∧ Hid (LFr lo w wx) ∧ Hid (Blk wx w.heap.size 90 #[.int .u32 h.ma, .int .u16 h.hi, .int .u8 h.op, .int .u8 h.pr, .int .u32 h.dd, .int .u32 h.dr, .int .u32 h.bd, .slice na nn nc]))
  case first =>
    by_cases hneg : fi < 0
    · have HPl : Hid (Calls Try.prog 72 #[.pointer (some ⟨B, 0, none⟩), .int .u32 f] w2 fun e w' => e = .returned (.int .i64 i) ∧ ∃ A' cap' xs', PAt lo w' B c { s with l := ls } A' cap' xs' ∧ LFr lo w2 w') := Lib.hid (by
        have hnone := Pl.findI_neg.1 (by rw [HFi.out]; exact hneg)
        have h1 := spot_new hnone
        rw [← HI.out, ← HLs.out, h1.1, h1.2.1]
        exact pput_any HR2.out (by omega) f)
      go_wp2_with fail
      refine HPl.out.mono ?_
      rintro e w4 ⟨rfl, A4, cp4, xs4, hr4, hf4⟩
      have HK4 := Lib.hid (hf4.blk HK2.out (by decide) (by decide) (by decide))
      have HF4 := Lib.hid ((LFr.of_below HB2.out).trans hf4)
      have HR4 := Lib.hid hr4
      clear hr4 hf4
      go_wp2_with fail
      go_meet
      case rel => exact ⟨rfl, Lib.hid ⟨_, _, _, HR4.out⟩, HF4, HK4⟩
    · have HIe : Hid (fi = (i : Int) ∧ ls = s.l) := Lib.hid (by
        cases hfd : Pl.find c f r s.l with
        | none => exact absurd (by rw [← HFi.out]; exact Pl.findI_neg.2 hfd) hneg
        | some j =>
          have h1 := spot_found hfd
          exact ⟨by rw [← HFi.out, h1.2.2, ← HI.out, h1.1], by rw [← HLs.out, h1.2.1]⟩)
      go_wp2_with fail
      go_meet
      case rel => exact ⟨by rw [HIe.out.1], Lib.hid ⟨_, _, _, by rw [HIe.out.2]; exact HR2.out⟩, Lib.hid (LFr.of_below HB2.out), HK2⟩
  obtain ⟨rfl, ⟨A4, cp, xs4, hR4⟩, HF4, HK4⟩ := hcut
  obtain ⟨m, hm⟩ : ∃ m, xs4.length = m := ⟨_, rfl⟩
  have Hm := Lib.hid hm
  obtain ⟨w4, hw4⟩ : ∃ w4, w4 = wc := ⟨_, rfl⟩
  rw [← hw4] at hR4 HF4 HK4 ⊢
  have hlsm : ls.length = m := by rw [← hm, hR4.len]
  have HR4 := Lib.hid hR4
  have hm64 : m ≤ 64 := by rw [← hlsm]; exact Hpl.out
  have him : (i : Int) < (m : Int) := by have := Hil.out; omega
  obtain ⟨y, hy⟩ : ∃ y, xs4[i]? = some y := ⟨_, List.getElem?_eq_getElem (by rw [hm, ← hlsm]; exact Hil.out)⟩
  have hx : ls[i]? = some y.2 := hR4.atL hy
  obtain ⟨OK, x⟩ := y
  have Hx := Lib.hid hx
  have Hy := Lib.hid hy
  have HOld : Hid (Pl.oldOf c s f r = x) := Lib.hid (by unfold Pl.oldOf; rw [HI.out, HLs.out, List.getD_eq_getElem?_getD, hx]; rfl)
  obtain ⟨RB, rfl, hRBl, hRBlo, ⟨cur, hRc⟩, hRx⟩ := hR4.at_ hy
  have HRc := Lib.hid hRc
  have hym := List.mem_of_getElem? hy
  have hkb := (hR4.k _ hym).1
  have c22 : w4.cell? ⟨B, 22, none⟩ = some (.slice (some ⟨RB, 0, none⟩) m cp) := by rw [← hm]; exact hR4.b.cell 22
  have hBl := hR4.b.lt
  have hOKl := hkb.lt
  have q0 : w4.cell? ⟨OK, 0, none⟩ = some (.int .u32 x.ro) := hkb.cell 0
  have q1 : w4.cell? ⟨OK, 1, none⟩ = some (.int .u32 x.ad) := hkb.cell 1
  have q2 : w4.cell? ⟨OK, 2, none⟩ = some (.int .u8 x.st) := hkb.cell 2
  have q3 : w4.cell? ⟨OK, 3, none⟩ = some (.int .u8 x.pr) := hkb.cell 3
  have q4 : w4.cell? ⟨OK, 4, none⟩ = some (.int .u32 x.dr) := hkb.cell 4
  have q5 : w4.cell? ⟨OK, 5, none⟩ = some (.int .u32 x.bd) := hkb.cell 5
  have q6 : w4.cell? ⟨OK, 6, none⟩ = some (.int .u8 x.op) := hkb.cell 6
  have q7 : w4.cell? ⟨OK, 7, none⟩ = some (.int .u32 x.lf) := hkb.cell 7
  have q8 : w4.cell? ⟨OK, 8, none⟩ = some (.bool x.wa) := hkb.cell 8
  have q9 : w4.cell? ⟨OK, 9, none⟩ = some (.bool x.fu) := hkb.cell 9
  clear hm hR4 hw4 hx hy hlsm hRc hym hkb HR2 HK2 HB2
  go_upto_region 10 with fail
  obtain ⟨w5, hw5⟩ : ∃ w5, w5 = w4.alloc (.cells #[.int .u32 x.ro, .int .u32 x.ad, .int .u8 x.st, .int .u8 x.pr, .int .u32 x.dr, .int .u32 x.bd, .int .u8 x.op, .int .u32 x.lf, .bool x.wa, .bool x.fu] 139) := ⟨_, rfl⟩
  have hb5 : Below w4.heap.size w4 w5 := by rw [hw5]; exact (Below.refl _ w4).alloc (Nat.le_refl _) _
  have HO5 : Hid (Blk w5 w4.heap.size 139 #[.int .u32 x.ro, .int .u32 x.ad, .int .u8 x.st, .int .u8 x.pr, .int .u32 x.dr, .int .u32 x.bd, .int .u8 x.op, .int .u32 x.lf, .bool x.wa, .bool x.fu]) := Lib.hid (by rw [hw5]; exact Blk.new w4 _ _)
  have HB5 := Lib.hid hb5
  have HR5 := Lib.hid (HR4.out.below hb5)
  have HK5 := Lib.hid (HK4.out.below hb5 HK4.out.lt)
  rw [← hw5]
  obtain ⟨OB, hOB⟩ : ∃ O, O = w4.heap.size := ⟨_, rfl⟩
  have HOB := Lib.hid hOB
  rw [← hOB] at HO5 ⊢
  have HRc5 := Lib.hid (HRc.out.below hb5 HRc.out.lt)
  clear hw5 hb5 hOB c22 hBl hOKl hRx hRBl q0 q1 q2 q3 q4 q5 q6 q7 q8 q9
  have k2 : w5.cell? ⟨w.heap.size, 2, none⟩ = some (.int .u8 h.op) := HK5.out.cell 2
  have k3 : w5.cell? ⟨w.heap.size, 3, none⟩ = some (.int .u8 h.pr) := HK5.out.cell 3
  have k5 : w5.cell? ⟨w.heap.size, 5, none⟩ = some (.int .u32 h.dr) := HK5.out.cell 5
  have k6 : w5.cell? ⟨w.heap.size, 6, none⟩ = some (.int .u32 h.bd) := HK5.out.cell 6
  have c8 : w5.cell? ⟨B, 8, none⟩ = some (.int .u32 c.dd) := HR5.out.b.cell 8
  have hBl5 := HR5.out.b.lt
  have hKl5 := HK5.out.lt
  go_cut [13] from 45 to 62 (fun p13 wx => ∃ S : Nat, p13 = .pointer (some ⟨S, 0, none⟩) ∧ Hid (Blk wx S 139 #[.int .u32 r, .int .u32 f, .int .u8 2, .int .u8 h.pr, .int .u32 h.dr, .int .u32 h.bd, .int .u8 h.op, .int .u32 c.dd, .bool false, .bool false]) ∧ Hid (w5.heap.size ≤ S) ∧ Hid (Below w5.heap.size w5 wx))
  case first =>
    go_region_held3 (fun w' => w'.cell? ⟨w.heap.size, 3, none⟩ = some (.int .u8 h.pr) ∧ w'.cell? ⟨w.heap.size, 5, none⟩ = some (.int .u32 h.dr) ∧ w'.cell? ⟨w.heap.size, 6, none⟩ = some (.int .u32 h.bd) ∧ w'.cell? ⟨w.heap.size, 2, none⟩ = some (.int .u8 h.op) ∧ w'.cell? ⟨B, 8, none⟩ = some (.int .u32 c.dd)) (go_keep) (fail)
    all_goals clear k2 k3 k5 k6 c8
    all_goals
      go_wp2_with fail
      go_meet
      case rel =>
        refine ⟨_, rfl, Lib.hid ?_, Lib.hid (Nat.le_refl _), Lib.hid ?_⟩
        · exact (Blk.new w5 139 #[.int .u32 r, .int .u32 f, .int .u8 2, .int .u8 h.pr, .int .u32 h.dr, .int .u32 h.bd, .int .u8 h.op, .int .u32 c.dd, .bool false, .bool false]).drew
        · exact ((Below.refl _ w5).alloc (Nat.le_refl _) _).drew
  case rest =>
  obtain ⟨S, rfl, HS6, HSl, HB6⟩ := hcut
  obtain ⟨w6, hw6⟩ : ∃ y, y = wc := ⟨_, rfl⟩
  rw [← hw6] at HS6 HB6 ⊢
  have HR6 := Lib.hid (HR5.out.below HB6.out)
  have HK6 := Lib.hid (HK5.out.below HB6.out hKl5)
  have HF6 := Lib.hid (HF4.out.trans ((LFr.of_below HB5.out).trans (LFr.of_below HB6.out)))
  have hO5l := HO5.out.lt
  have hOS : OB < S := by have h2 := HSl.out; omega
  have hBS : B < S := by have h2 := HSl.out; omega
  have hHS : w.heap.size < S := by have h2 := HSl.out; omega
  clear hw6 k2 k3 k5 k6 c8 hBl5 hKl5
  have k7 : w6.cell? ⟨w.heap.size, 7, none⟩ = some (.slice na nn nc) := HK6.out.cell 7
  have hK6l := HK6.out.lt
  go_upto_block 0 with fail
  go_cut [] from 66 to 81 (fun wx => Hid (Blk wx S 139 #[.int .u32 r, .int .u32 f, .int .u8 (namedTo c h nn), .int .u8 h.pr, .int .u32 h.dr, .int .u32 h.bd, .int .u8 h.op, .int .u32 c.dd, .bool false, .bool false]) ∧ Hid (Frame (fun j => j = S) w6 wx))
  case first =>
    go_wp2_with fail
    clear k7 hK6l
    go_loopw [66] (fun p wr => ∃ k : Nat, k ≤ nn ∧ p = .int .i64 k ∧ Hid (Blk wr S 139 #[.int .u32 r, .int .u32 f, .int .u8 (namedTo c h k), .int .u8 h.pr, .int .u32 h.dr, .int .u32 h.bd, .int .u8 h.op, .int .u32 c.dd, .bool false, .bool false]) ∧ Hid (Frame (fun j => j = S) w6 wr)) (fun p _ => nn - (intOf p).toNat)
    case atStart => exact ⟨0, Nat.zero_le _, rfl, HS6, Lib.hid (Frame.refl _ _)⟩
    case round =>
      obtain ⟨k, hk, rfl, HSr, HFr⟩ := hrel
      by_cases hlt2 : k < nn
      · obtain ⟨z, hz⟩ : ∃ z, h.nb[k]? = some z := ⟨_, List.getElem?_eq_getElem (by rw [Hnn.out]; exact hlt2)⟩
        have hFrw : LFr lo w wr := HF6.out.trans (LFr.one HS6.out (by have := HSl.out; have := HR5.out.loB; have := HR5.out.b.lt; omega) (.inr (.inr rfl)) HFr.out)
        obtain ⟨_, _, _, e0, _, _, hrd⟩ := HW.out wr hFrw
        injection e0 with e01 e02 e03
        subst e01 e02 e03
        obtain ⟨b, off, hA, hb, hc⟩ := hrd.word hz
        subst hA
        have c2 : wr.cell? ⟨B, 2, none⟩ = some (.int .u32 c.ro) := fcell HFr.out (HR6.out.b.cell 2) (by omega)
        have hBr : B < wr.heap.size := by have := HR6.out.b.lt; have := HFr.out.size; omega
        have s2 : wr.cell? ⟨S, 2, none⟩ = some (.int .u8 (namedTo c h k)) := HSr.out.cell 2
        have hSlr := HSr.out.lt
        have fS := HSr.out.frozen
        have Hz := Lib.hid hz
        have hkn : (k : Int) < (nn : Int) := by omega
        clear hz hFrw hrd
        rcases hq : (z == c.ro) with _ | _
        · have HN := Lib.hid (named_miss (c := c) Hz.out (by simpa using hq))
          go_wp2_with fail
          go_roundw
          case rel => exact ⟨k + 1, by omega, by simp, by rw [HN.out]; exact HSr, HFr⟩
          case measure => simp [intOf]; omega
        · have HN := Lib.hid (named_hit (c := c) Hz.out (by simpa using hq))
          go_wp2_with fail
          go_roundw
          case rel => exact ⟨k + 1, by omega, by simp, Lib.hid (by rw [HN.out]; exact HSr.out.set_ 2 _), Lib.hid (HFr.out.setB 2 _)⟩
          case measure => simp [intOf]; omega
      · obtain rfl : k = nn := by omega
        go_wp2_with fail
        go_meet
        case rel => exact ⟨HSr, HFr⟩
  obtain ⟨HS7, HF7⟩ := hcut
  obtain ⟨w7, hw7⟩ : ∃ y, y = wc := ⟨_, rfl⟩
  rw [← hw7] at HS7 HF7 ⊢
  clear hw7 k7 hK6l
  have HO7 : Hid (Blk w7 OB 139 #[.int .u32 x.ro, .int .u32 x.ad, .int .u8 x.st, .int .u8 x.pr, .int .u32 x.dr, .int .u32 x.bd, .int .u8 x.op, .int .u32 x.lf, .bool x.wa, .bool x.fu]) := Lib.hid (HF7.out.blk (HO5.out.below HB6.out hO5l) (by omega))
  have o0 : w7.cell? ⟨OB, 0, none⟩ = some (.int .u32 x.ro) := HO7.out.cell 0
  have o2 : w7.cell? ⟨OB, 2, none⟩ = some (.int .u8 x.st) := HO7.out.cell 2
  have hOl7 := HO7.out.lt
  obtain ⟨sm, hsm⟩ : ∃ b, Pl.same r x = b := ⟨_, rfl⟩
  have HSm := Lib.hid hsm
  clear hsm
  go_upto_region 17 with fail
  go_cut [16] from 82 to 92 (fun p16 wx => p16 = .bool sm ∧ w7 = wx)
  case first =>
    rcases e1 : (x.ro == r) with _ | _
    · have HV : Hid (sm = false) := Lib.hid (by rw [← HSm.out]; unfold Pl.same; rw [e1]; rfl)
      go_wp2_with fail
      go_meet
      case rel => exact ⟨by rw [HV.out], rfl⟩
    · by_cases e2 : 2 ≤ x.st
      · have HV : Hid (sm = true) := Lib.hid (by rw [← HSm.out]; unfold Pl.same; rw [e1]; simpa using e2)
        go_wp2_with fail
        go_meet
        case rel => exact ⟨by rw [HV.out], rfl⟩
      · have HV : Hid (sm = false) := Lib.hid (by rw [← HSm.out]; unfold Pl.same; rw [e1]; simpa using e2)
        go_wp2_with fail
        go_meet
        case rel => exact ⟨by rw [HV.out], rfl⟩
  obtain ⟨rfl, rfl⟩ := hcut
  clear o0 o2
  have o9 : w7.cell? ⟨OB, 9, none⟩ = some (.bool x.fu) := HO7.out.cell 9
  obtain ⟨nm, hnm⟩ : ∃ b, decide (c.ro ∈ h.nb) = b := ⟨_, rfl⟩
  have Hnm := Lib.hid hnm
  obtain ⟨st3, hst3⟩ : ∃ st : Int, st = if nm = true then 3 else 2 := ⟨_, rfl⟩
  have HSt3 := Lib.hid hst3
  have hnt : namedTo c h nn = st3 := by
    unfold namedTo
    rw [hst3, ← Hnn.out, List.take_length, ← hnm]
    simp
  have HS7' : Hid (Blk w7 S 139 #[.int .u32 r, .int .u32 f, .int .u8 st3, .int .u8 h.pr, .int .u32 h.dr, .int .u32 h.bd, .int .u8 h.op, .int .u32 c.dd, .bool false, .bool false]) := Lib.hid (by rw [← hnt]; exact HS7.out)
  have g2 : w7.cell? ⟨S, 2, none⟩ = some (.int .u8 st3) := HS7'.out.cell 2
  have g9 : w7.cell? ⟨S, 9, none⟩ = some (.bool false) := HS7'.out.cell 9
  have hSl7 := HS7.out.lt
  have fS7 := HS7.out.frozen
  obtain ⟨xfu, hxfu⟩ : ∃ b, x.fu = b := ⟨_, rfl⟩
  have HXfu := Lib.hid hxfu
  rw [hxfu] at o9
  obtain ⟨fu3, hfu3⟩ : ∃ b : Bool, b = (sm && (xfu && nm)) := ⟨_, rfl⟩
  have HFu3 := Lib.hid hfu3
  clear hxfu hfu3 hst3 hnm hnt
  go_upto_region 18 with fail
  go_cut [] from 93 to 108 (fun wx => Hid (Blk wx S 139 #[.int .u32 r, .int .u32 f, .int .u8 st3, .int .u8 h.pr, .int .u32 h.dr, .int .u32 h.bd, .int .u8 h.op, .int .u32 c.dd, .bool false, .bool fu3]) ∧ Hid (Frame (fun j => j = S) w6 wx))
  case first =>
    rcases sm with _ | _
    · have e3 : fu3 = false := HFu3.out
      subst e3
      go_wp2_with fail
      go_meet
      case rel => exact ⟨Lib.hid (HS7'.out.set_ 9 _), Lib.hid (HF7.out.setB 9 _)⟩
    · rcases xfu with _ | _
      · have e3 : fu3 = false := HFu3.out
        subst e3
        go_wp2_with fail
        go_meet
        case rel => exact ⟨Lib.hid (HS7'.out.set_ 9 _), Lib.hid (HF7.out.setB 9 _)⟩
      · rcases nm with _ | _
        · have e3 : fu3 = false := HFu3.out
          have e4 : st3 = 2 := HSt3.out
          subst e3 e4
          go_wp2_with fail
          go_meet
          case rel => exact ⟨Lib.hid (HS7'.out.set_ 9 _), Lib.hid (HF7.out.setB 9 _)⟩
        · have e3 : fu3 = true := HFu3.out
          have e4 : st3 = 3 := HSt3.out
          subst e3 e4
          go_wp2_with fail
          go_meet
          case rel => exact ⟨Lib.hid (HS7'.out.set_ 9 _), Lib.hid (HF7.out.setB 9 _)⟩
  obtain ⟨HS8, HF8⟩ := hcut
  obtain ⟨w8, hw8⟩ : ∃ y, y = wc := ⟨_, rfl⟩
  rw [← hw8] at HS8 HF8 ⊢
  clear hw8 o9 g2 g9 hSl7 fS7 hOl7 HS7 HS7' HF7 HO7
  obtain ⟨nk, hnk⟩ : ∃ nk : Kn, nk = ⟨r, f, st3, h.pr, h.dr, h.bd, h.op, c.dd, false, fu3⟩ := ⟨_, rfl⟩
  have HNew : Hid (Pl.newKn c f r h x = nk) := Lib.hid (by
    rw [hnk]
    unfold Pl.newKn
    rw [HSm.out, HXfu.out, Hnm.out, HFu3.out, HSt3.out]
    have e : (if c.ro ∈ h.nb then (3 : Int) else 2) = if nm = true then 3 else 2 := by
      have := Hnm.out
      cases nm
      · rw [if_neg (by simpa using this), if_neg (by decide)]
      · rw [if_pos (by simpa using this), if_pos rfl]
    rw [e])
  have hnkf : nk.ad = f ∧ nk.dr = h.dr ∧ nk.bd = h.bd := by rw [hnk]; exact ⟨rfl, rfl, rfl⟩
  have HNkf := Lib.hid hnkf
  have HS9 : Hid (Blk w8 S 139 nk.cells) := Lib.hid (by rw [hnk]; exact HS8.out)
  have HB8 : Hid (Below w5.heap.size w5 w8) := Lib.hid (below_fr HB6.out HF8.out (fun j e => by have := HSl.out; omega) HB6.out.size)
  have HR8 := Lib.hid (HR5.out.below HB8.out)
  have HO8 := Lib.hid (HO5.out.below HB8.out hO5l)
  have HK8 := Lib.hid (HK5.out.below HB8.out HK5.out.lt)
  have HRc8 := Lib.hid (HRc5.out.below HB8.out HRc5.out.lt)
  have d22 : w8.cell? ⟨B, 22, none⟩ = some (.slice (some ⟨RB, 0, none⟩) m cp) := by rw [← Hm.out]; exact HR8.out.b.cell 22
  have hBl8 := HR8.out.b.lt
  have rx : w8.cell? ⟨RB, i, none⟩ = some (.pointer (some ⟨OK, 0, none⟩)) := by
    obtain ⟨L', e, _, _, _, hc⟩ := HR8.out.at_ Hy.out
    injection e with e
    obtain rfl : RB = L' := congrArg Addr.block e
    exact hc
  have hRl8 := HRc8.out.lt
  have fR8 := HRc8.out.frozen
  clear hnk hnkf HS8
  go_upto_region 20 with fail
  obtain ⟨w9, hw9⟩ : ∃ w9, w9 = w8.setCell ⟨RB, i, none⟩ (.pointer (some ⟨S, 0, none⟩)) := ⟨_, rfl⟩
  have hF9 : Frame (fun j => j = RB) w8 w9 := by rw [hw9]; exact (Frame.refl (fun j => j = RB) w8).setB i _
  have h9 := HR8.out.setRowK (w' := w9) (s' := Pl.hear1 c s f r h x) HRc8.out (i := i) (K := S) (k := nk) (by have := Hil.out; have := HR4.out.len; have h3 : xs4.length = ls.length := this; omega) (by have := HSl.out; have := HR5.out.loB; have := HR5.out.b.lt; omega) (fun y hy => by have := HSl.out; have := (HR5.out.k y hy).1.lt; omega) (hF9.blk HS9.out (HS9.out.ne_ HRc8.out (by decide))) (by rw [hw9]; exact HRc8.out.set_ i _) hF9 (by unfold Pl.hear1; rw [HI.out, HLs.out, HNew.out]) rfl
  rw [← hw9]
  have HR9 := Lib.hid h9.1
  have HF9 := Lib.hid (HF4.out.trans ((LFr.of_below HB5.out).trans ((LFr.of_below HB8.out).trans h9.2)))
  have HO9 := Lib.hid (hF9.blk HO8.out (HO8.out.ne_ HRc8.out (by decide)))
  have HK9 := Lib.hid (hF9.blk HK8.out (HK8.out.ne_ HRc8.out (by decide)))
  clear hw9 hF9 h9 d22 hBl8 rx hRl8 fR8
  have o0 : w9.cell? ⟨OB, 0, none⟩ = some (.int .u32 x.ro) := HO9.out.cell 0
  have o1 : w9.cell? ⟨OB, 1, none⟩ = some (.int .u32 x.ad) := HO9.out.cell 1
  have o2 : w9.cell? ⟨OB, 2, none⟩ = some (.int .u8 x.st) := HO9.out.cell 2
  have o3 : w9.cell? ⟨OB, 3, none⟩ = some (.int .u8 x.pr) := HO9.out.cell 3
  have o4 : w9.cell? ⟨OB, 4, none⟩ = some (.int .u32 x.dr) := HO9.out.cell 4
  have o5 : w9.cell? ⟨OB, 5, none⟩ = some (.int .u32 x.bd) := HO9.out.cell 5
  have o6 : w9.cell? ⟨OB, 6, none⟩ = some (.int .u8 x.op) := HO9.out.cell 6
  have o7 : w9.cell? ⟨OB, 7, none⟩ = some (.int .u32 x.lf) := HO9.out.cell 7
  have o8 : w9.cell? ⟨OB, 8, none⟩ = some (.bool x.wa) := HO9.out.cell 8
  have o9 : w9.cell? ⟨OB, 9, none⟩ = some (.bool x.fu) := HO9.out.cell 9
  have hOl9 := HO9.out.lt
  have hlen9 : (xs4.set i (S, nk)).length ≤ 60000 := by rw [List.length_set, Hm.out]; omega
  have hmem9 : (S, nk) ∈ xs4.set i (S, nk) := List.mem_of_getElem? (List.getElem?_set_self (by have := Hil.out; have := HR4.out.len; have h3 : xs4.length = ls.length := this; omega))
  have HHd : Hid (Calls Try.prog 73 #[.pointer (some ⟨B, 0, none⟩), .agg #[.int .u32 x.ro, .int .u32 x.ad, .int .u8 x.st, .int .u8 x.pr, .int .u32 x.dr, .int .u32 x.bd, .int .u8 x.op, .int .u32 x.lf, .bool x.wa, .bool x.fu], .pointer (some ⟨S, 0, none⟩), .bool sm] w9 fun e w' => e = .returned (.tuple #[]) ∧ ∃ xs', PAt lo w' B c (Pl.hearC c f h sm x nk (Pl.hear1 c s f r h x)) (some ⟨RB, 0, none⟩) cp xs' ∧ LFr lo w9 w') := Lib.hid (pheard HR9.out hlen9 hmem9 x sm HNkf.out.1 HNkf.out.2.1 HNkf.out.2.2)
  obtain ⟨xfu2, hx2⟩ : ∃ b, x.fu = b := ⟨_, rfl⟩
  clear hlen9 hmem9
  rw [HXfu.out] at o9 HHd
  go_wp2_with fail
  refine HHd.out.mono ?_
  rintro e w2 ⟨rfl, xs2, hp2, hf2⟩
  have HK2 := Lib.hid (hf2.blk HK9.out (by decide) (by decide) (by decide))
  have HFf := Lib.hid (HF9.out.trans hf2)
  obtain ⟨s2, hs2⟩ : ∃ s2, Pl.hearC c f h sm x nk (Pl.hear1 c s f r h x) = s2 := ⟨_, rfl⟩
  rw [hs2] at hp2
  have HP2 := Lib.hid hp2
  have HSt : Hid (Pl.hearSt c s f r h = s2) := Lib.hid (by
    rw [← hs2]
    unfold Pl.hearSt
    rw [if_neg (fun e => e HE0.out), HOld.out]
    unfold Pl.hear2 Pl.hearC
    rw [HNew.out, HSm.out]
    rfl)
  have HOut : Hid (Pl.hearOut c s f r h = Pl.hearO c f h s2) := Lib.hid (by
    unfold Pl.hearOut
    rw [if_neg (fun e => e HE0.out), HSt.out]
    rfl)
  have HPf : Hid (PAt lo w2 B c (Pl.hearSt c s f r h) (some ⟨RB, 0, none⟩) cp xs2) := Lib.hid (by rw [HSt.out]; exact hp2)
  have HOk := Pl.hear_ok G.out HS.out f r h
  have hxl2 : xs2.length ≤ 64 := by have h1 := HOk.ln; have h2 := HPf.out.len; omega
  obtain rfl : E = 0 := by rw [← HE.out]; exact HE0.out
  have c1 : w2.cell? ⟨B, 1, none⟩ = some (.int .u8 c.ty) := hp2.b.cell 1
  have c10 : w2.cell? ⟨B, 10, none⟩ = some (.int .u8 c.pr) := hp2.b.cell 10
  have c16 : w2.cell? ⟨B, 16, none⟩ = some (.int .u32 s2.dr) := hp2.b.cell 16
  have c17 : w2.cell? ⟨B, 17, none⟩ = some (.int .u32 s2.bd) := hp2.b.cell 17
  have k3 : w2.cell? ⟨w.heap.size, 3, none⟩ = some (.int .u8 h.pr) := HK2.out.cell 3
  have hBl2 := hp2.b.lt
  have hKl2 := HK2.out.lt
  clear hp2 hf2 hs2 HHd HOk hOl9 o0 o1 o2 o3 o4 o5 o6 o7 o8 o9
  go_upto_region 21 with fail
  by_cases h1 : c.ty = 1
  rotate_left
  · have e1 : (c.ty == 1) = false := by simpa using h1
    have HO0 : Hid (Pl.hearO c f h s2 = []) := Lib.hid (by unfold Pl.hearO; rw [if_neg (by exact fun e => h1 e.1)])
    go_wp2_with fail
    have hA : OutsP w2 (.slice none 0 0) (Pl.hearOut c s f r h) := by rw [HOut.out, HO0.out]; exact OutsP.nil _
    refine bodyPost_ret (v := .tuple #[.slice none 0 0, .int .i64 0]) (by simp [results, Try.results35, go_sem]) rfl ?_
    exact ⟨_, (by first | rfl | rw [HE0.out]), hA, ⟨_, _, _, HPf.out⟩, HFf.out⟩
  by_cases h2 : c.pr = 0
  rotate_left
  · have e2 : (c.pr == 0) = false := by simpa using h2
    have HO0 : Hid (Pl.hearO c f h s2 = []) := Lib.hid (by unfold Pl.hearO; rw [if_neg (by exact fun e => h2 e.2.1)])
    go_wp2_with fail
    have hA : OutsP w2 (.slice none 0 0) (Pl.hearOut c s f r h) := by rw [HOut.out, HO0.out]; exact OutsP.nil _
    refine bodyPost_ret (v := .tuple #[.slice none 0 0, .int .i64 0]) (by simp [results, Try.results35, go_sem]) rfl ?_
    exact ⟨_, (by first | rfl | rw [HE0.out]), hA, ⟨_, _, _, HPf.out⟩, HFf.out⟩
  by_cases h3 : 0 < h.pr
  rotate_left
  · have Hno : Hid (¬ 0 < h.pr) := Lib.hid h3
    have HO0 : Hid (Pl.hearO c f h s2 = []) := Lib.hid (by unfold Pl.hearO; rw [if_neg (by exact fun e => Hno.out e.2.2.1)])
    go_wp2_with fail
    have hA : OutsP w2 (.slice none 0 0) (Pl.hearOut c s f r h) := by rw [HOut.out, HO0.out]; exact OutsP.nil _
    refine bodyPost_ret (v := .tuple #[.slice none 0 0, .int .i64 0]) (by simp [results, Try.results35, go_sem]) rfl ?_
    exact ⟨_, (by first | rfl | rw [HE0.out]), hA, ⟨_, _, _, HPf.out⟩, HFf.out⟩
  rcases e4 : (f != s2.dr) with _ | _
  · have h4 : f = s2.dr := by simpa using e4
    have Hno := Lib.hid h4
    clear h4
    have HO0 : Hid (Pl.hearO c f h s2 = []) := Lib.hid (by unfold Pl.hearO; rw [if_neg (by exact fun e => e.2.2.2.1 Hno.out)])
    go_wp2_with fail
    have hA : OutsP w2 (.slice none 0 0) (Pl.hearOut c s f r h) := by rw [HOut.out, HO0.out]; exact OutsP.nil _
    refine bodyPost_ret (v := .tuple #[.slice none 0 0, .int .i64 0]) (by simp [results, Try.results35, go_sem]) rfl ?_
    exact ⟨_, (by first | rfl | rw [HE0.out]), hA, ⟨_, _, _, HPf.out⟩, HFf.out⟩
  rcases e5 : (f != s2.bd) with _ | _
  · have h5 : f = s2.bd := by simpa using e5
    have Hno := Lib.hid h5
    clear h5
    have HO0 : Hid (Pl.hearO c f h s2 = []) := Lib.hid (by unfold Pl.hearO; rw [if_neg (by exact fun e => e.2.2.2.2 Hno.out)])
    go_wp2_with fail
    have hA : OutsP w2 (.slice none 0 0) (Pl.hearOut c s f r h) := by rw [HOut.out, HO0.out]; exact OutsP.nil _
    refine bodyPost_ret (v := .tuple #[.slice none 0 0, .int .i64 0]) (by simp [results, Try.results35, go_sem]) rfl ?_
    exact ⟨_, (by first | rfl | rw [HE0.out]), hA, ⟨_, _, _, HPf.out⟩, HFf.out⟩
  have HO1 : Hid (Pl.hearO c f h s2 = [(f, Pl.hel c s2)]) := Lib.hid (by unfold Pl.hearO; rw [if_pos ⟨h1, h2, h3, by simpa using e4, by simpa using e5⟩])
  have HC1 : Hid (Calls Try.prog 74 #[.pointer (some ⟨B, 0, none⟩)] w2 fun e w' => RHel c s2 w2 e w') := Lib.hid (phello HP2.out (by omega) G.out.nb0 G.out.nb)
  have HL : Hid ((Pl.hel c s2).nb.length ≤ 65536) := Lib.hid (by
    have h6 : (Pl.hel c s2).nb.length ≤ s2.l.length := by
      show ((s2.l.filter Pl.heard).map (·.ro)).length ≤ _
      rw [List.length_map]
      exact List.length_filter_le _ _
    have := HP2.out.len
    omega)
  rw [h1] at c1
  rw [h2] at c10
  clear h1 h2
  go_upto_region 22 with fail
  clear c1 c10 c16 c17 k3 e4 e5 h3
  go_wp2_with (skip; fail)
  refine HC1.out.mono ?_
  rintro e w3 ⟨nv, rfl, hown, hb3⟩
  obtain ⟨va, vc, rfl⟩ := own_slice hown
  obtain ⟨q, hq⟩ : ∃ q, (Pl.hel c s2).nb.length = q := ⟨_, rfl⟩
  have Hq := Lib.hid hq
  rw [hq] at hown ⊢
  clear hq
  unfold hval
  have HO3 := Lib.hid hown
  have HB3 := Lib.hid hb3
  clear hown hb3 hBl2 hKl2
  go_wp2_with fail
  obtain ⟨w6, hw6⟩ : ∃ y, y = w3.alloc (.cells #[.int .u32 f, .int .u32 (Pl.hel c s2).ma, .int .u16 (Pl.hel c s2).hi, .int .u8 (Pl.hel c s2).op, .int .u8 (Pl.hel c s2).pr, .int .u32 (Pl.hel c s2).dd, .int .u32 (Pl.hel c s2).dr, .int .u32 (Pl.hel c s2).bd, .slice va q vc] 105) := ⟨_, rfl⟩
  have hown6 : w6.ownsRow 0 105 9 (.slice (some ⟨w3.heap.size, 0, none⟩) 1 1) 1 [.int .u32 f, .int .u32 (Pl.hel c s2).ma, .int .u16 (Pl.hel c s2).hi, .int .u8 (Pl.hel c s2).op, .int .u8 (Pl.hel c s2).pr, .int .u32 (Pl.hel c s2).dd, .int .u32 (Pl.hel c s2).dr, .int .u32 (Pl.hel c s2).bd, .slice va q vc] := by
    rw [hw6]
    exact World.ownsRow_lit (base := 0) (e := 105) (size := 9) w3 #[.int .u32 f, .int .u32 (Pl.hel c s2).ma, .int .u16 (Pl.hel c s2).hi, .int .u8 (Pl.hel c s2).op, .int .u8 (Pl.hel c s2).pr, .int .u32 (Pl.hel c s2).dd, .int .u32 (Pl.hel c s2).dr, .int .u32 (Pl.hel c s2).bd, .slice va q vc] 1 (Nat.zero_le _) (by simp [maxLen]) rfl
  have hb6 : Below w3.heap.size w3 w6 := by rw [hw6]; exact (Below.refl _ w3).alloc (Nat.le_refl _) _
  have hF : Frame (fun _ => False) w3 w6 := Frame.of_below hb6
  rw [← hw6]
  clear hw6
  have hA : OutsP w6 (.slice (some ⟨w3.heap.size, 0, none⟩) 1 1) (Pl.hearOut c s f r h) := by
    rw [HOut.out, HO1.out]
    refine ⟨by simp, 0, [.slice va q vc], rfl, hown6, fun i y nv hy hn => ?_⟩
    cases i with
    | succ i => simp at hy
    | zero =>
      simp at hy hn
      subst hy hn
      exact ⟨HL.out, _, by rw [Hq.out]; exact hF.own HO3.out (fun _ _ e => e)⟩
  have hB := (HPf.out.below HB3.out).below hb6
  have hG : LFr lo w w6 := HFf.out.trans ((LFr.of_below HB3.out).trans (LFr.of_below hb6))
  refine bodyPost_ret (v := .tuple #[.slice (some ⟨w3.heap.size, 0, none⟩) 1 1, .int .i64 0]) (by simp [results, Try.results35, go_sem]) rfl ?_
  exact ⟨_, (by first | rfl | rw [HE0.out]), hA, ⟨_, _, _, hB⟩, hG⟩
end
end Go.Proofs.Ytgbmhijgpdgdbaa
