/- A tick, exactly, of a link with one neighbour that is not lost by it. -/
import Derived.Test.YtgbmhijgpdgdbaaTickL
import Derived.Test.YtgbmhijgpdgdbaaPairRound
namespace Go.Proofs.Ytgbmhijgpdgdbaa
open Go.RowKit

theorem elOut_one (c : LC) (dr bd : Int) (K : Nat) (n : Kn) : elOut c dr bd [(K, n)] = Pr.elK c dr bd (some n) := by
  by_cases h : n.st = 3
  · simp [elOut, Pr.elK, twoWayK, voiceK, h]
  · simp [elOut, Pr.elK, twoWayK, h]

def agedK (n : Kn) : Kn := { n with lf := n.lf - 1 }

def AgePair (B : Nat) (c : LC) (st dr bd wt nx : Int) (L cap K : Nat) (n : Kn) (w : World) (e : Ending) (w' : World) : Prop :=
  e = .returned (.bool false) ∧ Frame (fun j => j = K) w w' ∧ LinkOn 0 w' B c st dr bd wt nx 0 0 L cap [(K, agedK n)]

set_option maxHeartbeats 4000000 in
set_option maxRecDepth 20000 in
theorem age_pair (w : World) (B : Nat) (c : LC) (st dr bd wt nx : Int) (L cap K : Nat) (n : Kn) (hdm : c.dm = false) (h : LinkOn 0 w B c st dr bd wt nx 0 0 L cap [(K, n)]) (hst : n.st ≠ 0) (hl1 : 2 ≤ n.lf) (hl2 : n.lf < 4294967296) :
    Calls Try.prog 75 #[.pointer (some ⟨B, 0, none⟩)] w fun e w' => AgePair B c st dr bd wt nx L cap K n w e w' := by
  have HDm := Lib.hid hdm
  have HL := Lib.hid h
  have kx : Blk w K 139 n.cells := (h.k (K, n) (by simp)).1
  have b22 : w.cell? ⟨B, 22, none⟩ = some (.slice (some ⟨L, 0, none⟩) 1 cap) := h.b.cell 22
  have r1 : w.cell? ⟨L, 0, none⟩ = some (.pointer (some ⟨K, 0, none⟩)) := h.r 0 (K, n) rfl
  have x2 : w.cell? ⟨K, 2, none⟩ = some (.int .u8 n.st) := kx.cell 2
  have x7 : w.cell? ⟨K, 7, none⟩ = some (.int .u32 n.lf) := kx.cell 7
  have fx := kx.frozen 7
  have hlx := kx.lt
  have e_st : (n.st == 0) = false := by simpa using hst
  have hl1' : 1 ≤ n.lf := by omega
  have hwl := wrap_lf hl1' hl2
  have hfr : Frame (fun j => j = K) w (w.setCell ⟨K, 7, none⟩ (.int .u32 (n.lf - 1))) := (Frame.refl (fun j => j = K) w).setB 7 _
  have hks := h.kset (i := 0) (x := (K, n)) rfl (agedK n) (w' := w.setCell ⟨K, 7, none⟩ (.int .u32 (n.lf - 1))) hfr (kx.set_ 7 _)
  have HKs := Lib.hid hks
  have HFr := Lib.hid hfr
  have p_gt : 0 < n.lf - 1 := by omega
  clear hks h kx hdm hst hl1 hl2 hl1' hfr
  go_enter Try.func75, Try.ntmps75
  go_wp2_with fail
  refine wp_loop_rounds 2 ?_
  rw [rounds_succ]
  go_wp2_with (go_at_call 106; refine (still_no _ B K c st dr bd wt nx 0 0 _ HDm.out HL.out.b).mono ?_; rintro e w' ⟨rfl, rfl⟩)
  obtain ⟨W5, hW5⟩ : ∃ W5, W5 = w.setCell ⟨K, 7, none⟩ (.int .u32 (n.lf - 1)) := ⟨_, rfl⟩
  rw [← hW5] at HKs HFr
  rw [← hW5]
  clear hW5 b22
  have b22 : W5.cell? ⟨B, 22, none⟩ = some (.slice (some ⟨L, 0, none⟩) 1 cap) := HKs.out.1.b.cell 22
  rw [rounds_succ]
  go_wp2_with fail
  go_ret
  exact ⟨rfl, HFr.out, HKs.out.1⟩

def PTick (B : Nat) (c : LC) (s : Pr.PS) (L cap K : Nat) (n : Kn) (w : World) (e : Ending) (w' : World) : Prop :=
  ∃ v, e = .returned v ∧ SayAt w' c n.ro v (s.says c) ∧ Frame (fun j => j = B ∨ j = K) w w' ∧ LinkOn 0 w' B c (s.tick c).st (s.tick c).dr (s.tick c).bd (s.tick c).wt (s.tick c).nx 0 0 L cap [(K, agedK n)]

theorem LinkOn.lkset {lo : Nat} {w w' : World} {B : Nat} {c : LC} {st dr bd wt nx po re : Int} {L cap : Nat} {xs : List (Nat × Kn)} (h : LinkOn lo w B c st dr bd wt nx po re L cap xs) {st' dr' bd' wt' nx' po' re' : Int} (hf : Frame (fun j => j = B) w w') (hb : Blk w' B 119 (lks c st' dr' bd' wt' nx' po' re' (.slice (some ⟨L, 0, none⟩) xs.length cap))) :
    LinkOn lo w' B c st' dr' bd' wt' nx' po' re' L cap xs ∧ Frame (fun j => j = B) w w' := ⟨(h.turn hf hb).1, hf⟩

theorem ms_sub {i B K : Nat} : i = B → i = B ∨ i = K := .inl
theorem ms_sub2 {i B K : Nat} : i = K → i = B ∨ i = K := .inr
theorem wrap_pred {x : Int} (h1 : 1 ≤ x) (h2 : x < 4294967296) : (x - 1) % 4294967296 = x - 1 := Int.emod_eq_of_lt (by omega) (by omega)

set_option maxHeartbeats 4000000 in
set_option maxRecDepth 20000 in
theorem tick_pair (w : World) (B : Nat) (c : LC) (s : Pr.PS) (L cap K : Nat) (n : Kn) (hnb : s.nb = some n) (ok : Pr.TickOk s) (hty : c.ty = 0) (hdm : c.dm = false) (hn0 : 0 ≤ c.nb) (hn1 : c.nb ≤ 32) (hp : c.peers = false) (hhi : c.hi % 4294967296 = c.hi)
    (h : LinkOn 0 w B c s.st s.dr s.bd s.wt s.nx 0 0 L cap [(K, n)]) :
    Calls Try.prog 36 #[.pointer (some ⟨B, 0, none⟩)] w fun e w' => PTick B c s L cap K n w e w' := by
  obtain ⟨st, dr, bd, wt, nx, nb⟩ := s
  obtain rfl : nb = some n := hnb
  have hk := ok.nb n rfl
  have hst : (st = 2 ∧ 1 ≤ wt ∧ wt < 4294967296) ∨ 4 ≤ st := ok.st
  have hnx : 1 ≤ nx ∧ nx < 4294967296 := ok.nx
  have hns : n.st ≠ 0 := by omega
  have hns2 : 2 ≤ n.st := by omega
  replace h : LinkOn 0 w B c st dr bd wt nx 0 0 L cap [(K, n)] := h
  have hage := age_pair w B c st dr bd wt nx L cap K n hdm h hns hk.1 hk.2.1
  have H := Lib.hid h
  have HAge := Lib.hid hage
  have HDm := Lib.hid hdm
  have HTy := Lib.hid hty
  have HP := Lib.hid hp
  have HHi := Lib.hid hhi
  have HSt := Lib.hid hst
  have HNx := Lib.hid (wrap_pred hnx.1 hnx.2)
  have HNs := Lib.hid hns2
  have c15 : w.cell? ⟨B, 15, none⟩ = some (.int .u8 st) := h.b.cell 15
  have n_st : ¬ st ≤ 1 := by omega
  clear h hage hdm hst hnx hk hns ok hty hp hhi hns2
  go_enter Try.func36, Try.ntmps36
  go_upto_region 3 with (go_at_call 67; refine (none_lk _ _ _ H.out.b rfl).mono ?_; rintro e w' ⟨rfl, rfl⟩)
  clear c15
  go_wp2_with fail
  refine HAge.out.mono ?_
  rintro e w1 ⟨rfl, hf1, hl1⟩
  have HF1 := Lib.hid (hf1.mono (T := fun j => j = B ∨ j = K) fun _ => ms_sub2)
  have HL1 := Lib.hid hl1
  have d15 : w1.cell? ⟨B, 15, none⟩ = some (.int .u8 st) := hl1.b.cell 15
  have d18 : w1.cell? ⟨B, 18, none⟩ = some (.int .u32 wt) := hl1.b.cell 18
  have f18 := hl1.b.frozen 18
  have hlB : B < w1.heap.size := hl1.b.lt
  clear hf1 hl1
  obtain ⟨m, hm⟩ : ∃ m : Pr.PS, m = Pr.PS.waited c (Pr.PS.aged ⟨st, dr, bd, wt, nx, some n⟩) := ⟨_, rfl⟩
  have HM := Lib.hid hm
  clear hm
  go_upto_if 20 with fail
  go_cut [] (fun wx => LinkOn 0 wx B c m.st m.dr m.bd m.wt nx 0 0 L cap [(K, agedK n)] ∧ Frame (fun j => j = B ∨ j = K) w wx)
  case first =>
    rcases Bool.eq_false_or_eq_true (st == 2) with s2 | s2
    · have hst2 : st = 2 := by simpa using s2
      have hwt : (wt - 1) % 4294967296 = wt - 1 := by
        rcases HSt.out with h | h
        · exact wrap_pred h.2.1 h.2.2
        · omega
      have htw := HL1.out.lkset (w' := w1.setCell ⟨B, 18, none⟩ (.int .u32 ((wt - 1) % 4294967296))) (st' := st) (dr' := dr) (bd' := bd) (wt' := (wt - 1) % 4294967296) (nx' := nx) (po' := 0) (re' := 0) ((Frame.refl (fun j => j = B) w1).setB 18 _) (HL1.out.b.set_ 18 _)
      rcases Bool.eq_false_or_eq_true ((wt - 1) % 4294967296 == 0) with s3 | s3
      · have hm : m = ⟨elState c (elOut c dr bd [(K, agedK n)]), (elOut c dr bd [(K, agedK n)]).1, (elOut c dr bd [(K, agedK n)]).2, (wt - 1) % 4294967296, nx, some (agedK n)⟩ := by
          rw [HM.out, elOut_one, hwt]
          rw [hwt] at s3
          simp [Pr.PS.waited, Pr.PS.aged, Pr.PS.elected, s2, s3, agedK]
        have HMm := Lib.hid hm
        have HTW := Lib.hid htw
        clear htw hst2 hwt hm
        go_wp2_with fail
        have e_t : (c.ty == 1) = false := by rw [HTy.out]; rfl
        refine (elect_row _ B c st dr bd _ nx 0 0 L cap [(K, agedK n)] (by simp) e_t HTW.out.1.b HTW.out.1.row).mono ?_
        rintro e w2 ⟨rfl, hb2, hf2⟩
        have HL2 := Lib.hid (HTW.out.1.lkset hf2 hb2)
        have HF2 := Lib.hid (HF1.out.trans ((HTW.out.2.trans hf2).mono fun _ => ms_sub))
        clear hf2 hb2 e_t
        go_wp2_with fail
        go_meet
        rw [HMm.out]
        exact ⟨HL2.out.1, HF2.out⟩
      · have hm : m = ⟨st, dr, bd, (wt - 1) % 4294967296, nx, some (agedK n)⟩ := by
          rw [HM.out, hwt]
          rw [hwt] at s3
          simp [Pr.PS.waited, Pr.PS.aged, s2, s3, agedK]
        have HMm := Lib.hid hm
        have HTW := Lib.hid htw
        clear htw hst2 hwt hm
        go_wp2_with fail
        go_meet
        rw [HMm.out]
        exact ⟨HTW.out.1, HF1.out.trans (HTW.out.2.mono fun _ => ms_sub)⟩
    · have hm : m = ⟨st, dr, bd, wt, nx, some (agedK n)⟩ := by
        rw [HM.out]
        simp [Pr.PS.waited, Pr.PS.aged, s2, agedK]
      have HMm := Lib.hid hm
      clear hm
      go_wp2_with fail
      go_meet
      rw [HMm.out]
      exact ⟨HL1.out, HF1.out⟩
  obtain ⟨hl2, hf2⟩ := hcut
  have HL2 := Lib.hid hl2
  have HF2 := Lib.hid hf2
  have d19 : wc.cell? ⟨B, 19, none⟩ = some (.int .u32 nx) := hl2.b.cell 19
  have f19 := hl2.b.frozen 19
  have hlc : B < wc.heap.size := hl2.b.lt
  clear hl2 hf2 d15 d18 f18 hlB
  go_upto_if 56 with fail
  have htw := HL2.out.lkset (w' := wc.setCell ⟨B, 19, none⟩ (.int .u32 ((nx - 1) % 4294967296))) (st' := m.st) (dr' := m.dr) (bd' := m.bd) (wt' := m.wt) (nx' := (nx - 1) % 4294967296) (po' := 0) (re' := 0) ((Frame.refl (fun j => j = B) wc).setB 19 _) (HL2.out.b.set_ 19 _)
  obtain ⟨wd, hwd⟩ : ∃ wd, wd = wc.setCell ⟨B, 19, none⟩ (.int .u32 ((nx - 1) % 4294967296)) := ⟨_, rfl⟩
  rw [← hwd] at htw
  rw [← hwd]
  have HL3 := Lib.hid htw.1
  have HF3 := Lib.hid (HF2.out.trans (htw.2.mono fun _ => ms_sub))
  have d7 : wd.cell? ⟨B, 7, none⟩ = some (.int .u16 c.hi) := htw.1.b.cell 7
  have d19' : wd.cell? ⟨B, 19, none⟩ = some (.int .u32 ((nx - 1) % 4294967296)) := htw.1.b.cell 19
  have f19' := htw.1.b.frozen 19
  have hld : B < wd.heap.size := htw.1.b.lt
  clear hwd htw d19 f19 hlc
  go_cut [4] (fun p4 wx => SayAt wx c n.ro p4 (Pr.PS.says c ⟨st, dr, bd, wt, nx, some n⟩) ∧ LinkOn 0 wx B c m.st m.dr m.bd m.wt (if nx - 1 == 0 then c.hi else nx - 1) 0 0 L cap [(K, agedK n)] ∧ Frame (fun j => j = B ∨ j = K) w wx)
  case first =>
    rcases Bool.eq_false_or_eq_true ((nx - 1) % 4294967296 == 0) with s3 | s3
    · go_upto_region 14 with fail
      have htw := HL3.out.lkset (w' := wd.setCell ⟨B, 19, none⟩ (.int .u32 (c.hi % 4294967296))) (st' := m.st) (dr' := m.dr) (bd' := m.bd) (wt' := m.wt) (nx' := c.hi % 4294967296) (po' := 0) (re' := 0) ((Frame.refl (fun j => j = B) wd).setB 19 _) (HL3.out.b.set_ 19 _)
      obtain ⟨we, hwe⟩ : ∃ we, we = wd.setCell ⟨B, 19, none⟩ (.int .u32 (c.hi % 4294967296)) := ⟨_, rfl⟩
      rw [← hwe] at htw
      rw [← hwe]
      have HL4 := Lib.hid htw.1
      have HF4 := Lib.hid (HF3.out.trans (htw.2.mono fun _ => ms_sub))
      have HS3 := Lib.hid s3
      clear hwe htw d7 d19' f19' hld s3
      have h7 : c.ty ≠ 4 := by rw [HTy.out]; decide
      go_wp2_with fail
      refine (rnd_pair we B c m.st m.dr m.bd m.wt _ 0 0 hn0 hn1 HDm.out L cap (K, agedK n) HNs.out HL4.out.row HP.out h7 HL4.out.b).mono ?_
      rintro e w5 ⟨v, rfl, hsay, hb5⟩
      have HSay := Lib.hid hsay
      have HB5 := Lib.hid hb5
      clear hsay hb5 h7
      go_wp2_with fail
      go_meet
      case rel =>
        have s3 := HS3.out
        rw [HNx.out] at s3
        refine ⟨?_, ?_, HF4.out.trans (Frame.of_below HB5.out)⟩
        · have hsy : Pr.PS.says c ⟨st, dr, bd, wt, nx, some n⟩ = some ⟨c.pr, m.dr, m.bd, true⟩ := by
            rw [HM.out]
            show (if nx - 1 == 0 then _ else _) = _
            rw [s3]
            rfl
          rw [hsy]
          exact HSay.out
        · rw [s3]
          have h4 := HL4.out.below HB5.out
          rw [HHi.out] at h4
          exact h4
    · have HS3 := Lib.hid s3
      go_wp2_with fail
      go_meet
      case rel =>
        have s3 := HS3.out
        rw [HNx.out] at s3
        refine ⟨?_, ?_, HF3.out⟩
        · have hsy : Pr.PS.says c ⟨st, dr, bd, wt, nx, some n⟩ = none := by
            show (if nx - 1 == 0 then _ else _) = _
            rw [s3]
            rfl
          rw [hsy]
          exact rfl
        · rw [s3]
          have h4 := HL3.out
          rw [HNx.out] at h4
          exact h4
  obtain ⟨hsay, hl4, hf4⟩ := hcut
  have HSay := Lib.hid hsay
  have HL4 := Lib.hid hl4
  have HF4 := Lib.hid hf4
  have g20 : wc.cell? ⟨B, 20, none⟩ = some (.int .u32 0) := hl4.b.cell 20
  have fg := hl4.b.frozen 20
  have hlg : B < wc.heap.size := hl4.b.lt
  clear hsay hl4 hf4 d7 d19' f19' hld
  go_wp2_with fail
  go_ret
  have hm := HM.out
  subst hm
  exact ⟨_, rfl, HSay.out, HF4.out, HL4.out⟩
end Go.Proofs.Ytgbmhijgpdgdbaa
