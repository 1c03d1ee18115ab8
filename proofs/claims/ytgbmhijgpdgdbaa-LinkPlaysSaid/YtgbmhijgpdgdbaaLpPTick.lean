/- The program's link: a tick. -/
import Derived.Test.YtgbmhijgpdgdbaaLpPAge
import Derived.Test.YtgbmhijgpdgdbaaLpPElect
import Derived.Test.YtgbmhijgpdgdbaaLpPRoundN
set_option maxHeartbeats 8000000
set_option maxRecDepth 20000
namespace Go.Proofs.Ytgbmhijgpdgdbaa
open Go.RowKit Go.Shelf
attribute [local go_sem] Oper.semAt_some
def OutsP (w : World) (u : Value) (l : List (Int × Pl.Hel)) : Prop := l.length ≤ 65536 ∧ ∃ b, OutsOwn b 105 w u l
theorem OutsP.nil (w : World) : OutsP w (.slice none 0 0) [] := ⟨Nat.zero_le _, 0, OutsOwn.nil _ _ _⟩
theorem OutsP.at_ {w : World} {u : Value} {l : List (Int × Pl.Hel)} (h : OutsP w u l) : OutsAt w u l := h.2.choose_spec.at_ h.1
theorem OutsP.rfr {lo : Nat} {w w' : World} {u : Value} {l : List (Int × Pl.Hel)} (h : OutsP w u l) (hf : RFr lo w w') : OutsP w' u l := by
  obtain ⟨h1, b, h2⟩ := h
  refine ⟨h1, b, h2.fr hf (fun g cs t hg ht e => ?_)⟩
  obtain ⟨_, cs', t', hb, ht'⟩ := e
  have e : some (Obj.cells cs t (0, 0)) = some (Obj.cells cs' t' (0, 0)) := hg.symm.trans hb
  injection e with e
  injection e with e1 e2
  subst e2
  rcases ht with rfl | rfl <;> rcases ht' with ht' | ht' <;> exact absurd ht' (by decide)
section
variable {lo : Nat} {w w' : World} {B : Nat} {c : LC} {s s' : Pl.St} {A : Option Addr} {cap : Nat} {xs : List (Nat × Kn)} {L : List (Int × Int)} {v : Value}
theorem PAt.frOther {S : Nat → Prop} {tE : TypeId} (h : PAt lo w B c s A cap xs) (hf : Frame S w w') (hS : ∀ g, S g → ∃ cs, Blk w g tE cs) (h1 : tE ≠ 119) (h2 : tE ≠ 137) (h3 : tE ≠ 139) : PAt lo w' B c s A cap xs :=
  h.fr hf (fun e => by obtain ⟨cs, hc⟩ := hS _ e; exact h.b.ne_ hc h1.symm rfl) (fun L hL e => by
    obtain ⟨cs, hc⟩ := hS _ e
    obtain ⟨cur, hr⟩ := h.o.ty hL
    exact hr.ne_ hc h2.symm rfl) (fun x hx e => by obtain ⟨cs, hc⟩ := hS _ e; exact (h.k x hx).1.ne_ hc h3.symm rfl)
theorem ptick_any (h : PAt lo w B c s A cap xs) (hpe : PeersAt w lo c.pe L) (g : Pl.CfgOk c L) (hs : Pl.Ok c L s) :
    Calls Try.prog 36 #[.pointer (some ⟨B, 0, none⟩)] w fun e w' => ∃ u, e = .returned u ∧ OutsP w' u (Pl.tickOut c L s) ∧ (∃ A' cap' xs', PAt lo w' B c (Pl.tickSt c L s) A' cap' xs') ∧ LFr lo w w' := by
  obtain ⟨i0, hi0, hz0, hz1, hz2⟩ := info_parts send_info
  have H := Lib.hid h
  have HPe := Lib.hid hpe
  have G := Lib.hid g
  have HS := Lib.hid hs
  have c15 : w.cell? ⟨B, 15, none⟩ = some (.int .u8 s.st) := h.b.cell 15
  clear h hpe g hs
  by_cases h1 : s.st ≤ 1
  · have HO : Hid (Pl.tickOut c L s = [] ∧ Pl.tickSt c L s = s) := Lib.hid (by unfold Pl.tickOut Pl.tickSt; rw [if_pos h1, if_pos h1]; exact ⟨rfl, rfl⟩)
    go_enter Try.func36, Try.ntmps36
    go_wp2_with (go_at_call 67; refine (none_lk _ _ _ H.out.b rfl).mono ?_; rintro e w' ⟨rfl, rfl⟩)
    go_ret
    exact ⟨_, rfl, by rw [HO.out.1]; exact OutsP.nil _, ⟨_, _, _, by rw [HO.out.2]; exact H.out⟩, LFr.refl _ _⟩
  have h2 : 2 ≤ s.st := by omega
  have H2 := Lib.hid h2
  have HAge : Hid (Calls Try.prog 75 #[.pointer (some ⟨B, 0, none⟩)] w fun e w' => e = .returned (.bool (Pl.lost c s.l)) ∧ ∃ A' cap' xs', PAt lo w' B c { s with l := Pl.age c L s.l } A' cap' xs' ∧ LFr lo w w') := Lib.hid (page_any H.out HPe.out HS.out h2)
  have HPre := Lib.hid (Pl.aged_pre HS.out h2)
  have HAO := Lib.hid (Pl.tickA_ok G.out HS.out h2)
  clear h2
  go_enter Try.func36, Try.ntmps36
  go_upto_region 3 with (go_at_call 67; refine (none_lk _ _ _ H.out.b rfl).mono ?_; rintro e w' ⟨rfl, rfl⟩)
  clear c15 h1
  obtain ⟨bl, hbl⟩ : ∃ b, Pl.lost c s.l = b := ⟨_, rfl⟩
  have HLo := Lib.hid hbl
  rw [hbl] at HAge
  clear hbl
  go_wp2_with fail
  refine HAge.out.mono ?_
  rintro e w1 ⟨rfl, A1, cp1, xs1, hp1, hf1⟩
  have HP1 := Lib.hid hp1
  have HF1 := Lib.hid hf1
  have c15 : w1.cell? ⟨B, 15, none⟩ = some (.int .u8 s.st) := hp1.b.cell 15
  have c18 : w1.cell? ⟨B, 18, none⟩ = some (.int .u32 s.wt) := hp1.b.cell 18
  have fz := hp1.b.frozen
  have hBl := hp1.b.lt
  clear hp1 hf1
  go_upto_if 20 with fail
  go_cut [] from 20 to 44 (fun wx => Hid (∃ A2 cp2 xs2, PAt lo wx B c (Pl.tickA c L s) A2 cp2 xs2) ∧ Hid (LFr lo w wx))
  case first =>
    by_cases hs2 : s.st = 2
    · have hw := HS.out.wt hs2
      have hwA := hw.1
      have hwB := hw.2
      have Hs2 := Lib.hid hs2
      have e2 : (s.st == 2) = true := by simpa using hs2
      clear hw hs2
      go_upto_region 6 with fail
      obtain ⟨w2, hw2⟩ : ∃ w2, w2 = w1.setCell ⟨B, 18, none⟩ (.int .u32 (s.wt - 1)) := ⟨_, rfl⟩
      have h2 := HP1.out.turn (w' := w2) (s' := { s with l := Pl.age c L s.l, wt := s.wt - 1 }) (by rw [hw2]; exact (Frame.refl _ w1).setB 18 _) (by rw [hw2]; exact HP1.out.b.set_ 18 _) rfl
      rw [← hw2]
      have HP2 := Lib.hid h2.1
      have HF2 := Lib.hid (HF1.out.trans h2.2)
      have d18 : w2.cell? ⟨B, 18, none⟩ = some (.int .u32 (s.wt - 1)) := h2.1.b.cell 18
      have hBl2 := h2.1.b.lt
      clear hw2 h2 c15 c18 fz hBl
      by_cases hw1 : s.wt = 1
      · have e1 : (s.wt - 1 == 0) = true := by rw [hw1]; rfl
        have HT : Hid (Pl.tickA c L s = Pl.elect c { s with l := Pl.age c L s.l, wt := 0 }) := Lib.hid (by unfold Pl.tickA Pl.tickEl; dsimp only; rw [if_pos Hs2.out, if_pos hw1])
        have HC : Hid (Calls Try.prog 76 #[.pointer (some ⟨B, 0, none⟩)] w2 fun e w' => e = .returned (.tuple #[]) ∧ ∃ xs', PAt lo w' B c (Pl.tickA c L s) A1 cp1 xs' ∧ LFr lo w2 w') := Lib.hid (by
          have h := HP2.out
          rw [show s.wt - 1 = 0 from by omega] at h
          rw [HT.out]
          exact pelect h (by have := HPre.out.ln; have h3 := h.len; have h2 : (Pl.age c L s.l).length ≤ 64 := this; have h4 : xs1.length = (Pl.age c L s.l).length := h3; omega))
        clear hw1
        go_wp2_with fail
        refine HC.out.mono ?_
        rintro e w3 ⟨rfl, xs3, h3, hf3⟩
        have H3 := Lib.hid h3
        have HF3 := Lib.hid (HF2.out.trans hf3)
        clear h3 hf3
        go_wp2_with fail
        go_meet
        case rel => exact ⟨Lib.hid ⟨_, _, _, H3.out⟩, HF3⟩
      · have e1 : (s.wt - 1 == 0) = false := by simp; omega
        have HT : Hid (Pl.tickA c L s = { s with l := Pl.age c L s.l, wt := s.wt - 1 }) := Lib.hid (by unfold Pl.tickA Pl.tickEl; dsimp only; rw [if_pos Hs2.out, if_neg hw1])
        clear hw1
        go_wp2_with fail
        go_meet
        case rel => exact ⟨Lib.hid ⟨_, _, _, by rw [HT.out]; exact HP2.out⟩, HF2⟩
    · have e2 : (s.st == 2) = false := by simpa using hs2
      have Hs2 := Lib.hid hs2
      clear hs2
      rcases bl with _ | _
      · have HT : Hid (Pl.tickA c L s = { s with l := Pl.age c L s.l }) := Lib.hid (by unfold Pl.tickA Pl.tickEl; dsimp only; rw [if_neg Hs2.out, HLo.out, if_neg (by rintro ⟨h, _⟩; cases h)])
        go_wp2_with fail
        go_meet
        case rel => exact ⟨Lib.hid ⟨_, _, _, by rw [HT.out]; exact HP1.out⟩, HF1⟩
      · by_cases hs4 : 4 ≤ s.st
        · have HT : Hid (Pl.tickA c L s = Pl.elect c { s with l := Pl.age c L s.l }) := Lib.hid (by unfold Pl.tickA Pl.tickEl; dsimp only; rw [if_neg Hs2.out, HLo.out, if_pos ⟨rfl, hs4⟩])
          have HC : Hid (Calls Try.prog 76 #[.pointer (some ⟨B, 0, none⟩)] w1 fun e w' => e = .returned (.tuple #[]) ∧ ∃ xs', PAt lo w' B c (Pl.tickA c L s) A1 cp1 xs' ∧ LFr lo w1 w') := Lib.hid (by
            rw [HT.out]
            exact pelect HP1.out (by have := HPre.out.ln; have h3 := HP1.out.len; have h2 : (Pl.age c L s.l).length ≤ 64 := this; have h4 : xs1.length = (Pl.age c L s.l).length := h3; omega))
          go_wp2_with fail
          refine HC.out.mono ?_
          rintro e w3 ⟨rfl, xs3, h3, hf3⟩
          have H3 := Lib.hid h3
          have HF3 := Lib.hid (HF1.out.trans hf3)
          clear h3 hf3
          go_wp2_with fail
          go_meet
          case rel => exact ⟨Lib.hid ⟨_, _, _, H3.out⟩, HF3⟩
        · have HT : Hid (Pl.tickA c L s = { s with l := Pl.age c L s.l }) := Lib.hid (by unfold Pl.tickA Pl.tickEl; dsimp only; rw [if_neg Hs2.out, if_neg (by rintro ⟨_, h⟩; exact hs4 h)])
          go_wp2_with fail
          go_meet
          case rel => exact ⟨Lib.hid ⟨_, _, _, by rw [HT.out]; exact HP1.out⟩, HF1⟩
  obtain ⟨⟨A2, cp2, xs2, hP2⟩, HF2⟩ := hcut
  obtain ⟨w2, hw2⟩ : ∃ w2, w2 = wc := ⟨_, rfl⟩
  rw [← hw2] at hP2 HF2 ⊢
  obtain ⟨sA, hsA⟩ : ∃ x, x = Pl.tickA c L s := ⟨_, rfl⟩
  have HsA := Lib.hid hsA
  rw [← hsA] at hP2 HAO
  have HP2 := Lib.hid hP2
  have hxl2 : xs2.length ≤ 64 := by have := HAO.out.1.ln; have := hP2.len; omega
  have HOne : Hid (3 ≤ c.ty → xs2.length ≤ 1) := Lib.hid (fun e => by have := HAO.out.1.one e; have := hP2.len; omega)
  have hnx := HAO.out.1.nx HAO.out.2.1
  have hnx1 := hnx.1
  have hnx2 := hnx.2
  have c19 : w2.cell? ⟨B, 19, none⟩ = some (.int .u32 sA.nx) := hP2.b.cell 19
  have hBl2 := hP2.b.lt
  have fz2 := hP2.b.frozen
  clear hw2 hP2 hsA hnx HP1 HF1 c15 c18 fz hBl
  go_upto_region 12 with fail
  obtain ⟨w3, hw3⟩ : ∃ w3, w3 = w2.setCell ⟨B, 19, none⟩ (.int .u32 (sA.nx - 1)) := ⟨_, rfl⟩
  have h3 := HP2.out.turn (w' := w3) (s' := { sA with nx := sA.nx - 1 }) (by rw [hw3]; exact (Frame.refl _ w2).setB 19 _) (by rw [hw3]; exact HP2.out.b.set_ 19 _) rfl
  rw [← hw3]
  have HP3 := Lib.hid h3.1
  have HF3 := Lib.hid (HF2.out.trans h3.2)
  have d19 : w3.cell? ⟨B, 19, none⟩ = some (.int .u32 (sA.nx - 1)) := h3.1.b.cell 19
  have d7 : w3.cell? ⟨B, 7, none⟩ = some (.int .u16 c.hi) := h3.1.b.cell 7
  have hBl3 := h3.1.b.lt
  have fz3 := h3.1.b.frozen
  have HFB : Hid (w.heap.size ≤ w3.heap.size) := Lib.hid HF3.out.size
  clear hw3 h3 c19 fz2 hBl2 HP2 HF2
  go_upto_if 56 with fail
  go_cut [4] from 56 to 67 (fun p4 wx => Hid (OutsOwn w3.heap.size 105 wx p4 (if sA.nx = 1 then Pl.round c sA false else [])) ∧ Hid (PAt lo wx B c (Pl.tickNx c sA) A2 cp2 xs2) ∧ Hid (LFr lo w wx) ∧ Hid (w3.heap.size ≤ wx.heap.size))
  case first =>
    by_cases hx1 : sA.nx = 1
    · have e1 : (sA.nx - 1 == 0) = true := by rw [hx1]; rfl
      have HX1 := Lib.hid hx1
      have hh := G.out.hi
      have hh0 := G.out.hi0
      clear hx1
      go_upto_region 14 with fail
      obtain ⟨w4, hw4⟩ : ∃ w4, w4 = w3.setCell ⟨B, 19, none⟩ (.int .u32 c.hi) := ⟨_, rfl⟩
      have h4 := HP3.out.turn (w' := w4) (s' := Pl.tickNx c sA) (by rw [hw4]; exact (Frame.refl _ w3).setB 19 _) (by rw [hw4]; unfold Pl.tickNx; rw [if_pos HX1.out]; exact HP3.out.b.set_ 19 _) rfl
      have hs4 : w4.heap.size = w3.heap.size := by rw [hw4]; simp [World.setCell]
      rw [← hw4]
      have HS4 := Lib.hid hs4
      have HP4 := Lib.hid h4.1
      have HF4 := Lib.hid (HF3.out.trans h4.2)
      have HC : Hid (Calls Try.prog 69 #[.pointer (some ⟨B, 0, none⟩), .bool false] w4 fun e w' => ∃ u, e = .returned u ∧ OutsOwn w4.heap.size 105 w' u (Pl.round c sA false) ∧ Below w4.heap.size w4 w') := Lib.hid (pround h4.1 (by omega) G.out.nb0 G.out.nb HOne.out G.out.dm false)
      clear hw4 h4 hs4 d19 d7 fz3 hBl3 hh hh0
      go_wp2_with fail
      refine HC.out.mono ?_
      rintro e w5 ⟨u, rfl, ho, hb5⟩
      have HO := Lib.hid ho
      have HP5 := Lib.hid (HP4.out.below hb5)
      have HF5 := Lib.hid (HF4.out.trans (LFr.of_below hb5))
      have H35 : Hid (w3.heap.size ≤ w5.heap.size) := Lib.hid (by rw [← HS4.out]; exact hb5.size)
      clear ho hb5
      go_wp2_with fail
      go_meet
      case rel => exact ⟨Lib.hid (by rw [if_pos HX1.out, ← HS4.out]; exact HO.out), HP5, HF5, H35⟩
    · have e1 : (sA.nx - 1 == 0) = false := by simp; omega
      have HX1 := Lib.hid hx1
      clear hx1
      go_wp2_with fail
      go_meet
      case rel =>
        rw [if_neg HX1.out]
        refine ⟨Lib.hid (OutsOwn.nil _ _ _), Lib.hid ?_, HF3, Lib.hid (Nat.le_refl _)⟩
        have h := HP3.out
        unfold Pl.tickNx
        rw [if_neg HX1.out]
        exact h
  obtain ⟨HO, HP5, HF5, H35⟩ := hcut
  obtain ⟨oa, oc, hpo⟩ := HO.out.slice
  subst hpo
  obtain ⟨w5, hw5⟩ : ∃ w5, w5 = wc := ⟨_, rfl⟩
  rw [← hw5] at HO HP5 HF5 H35 ⊢
  obtain ⟨o1, ho1⟩ : ∃ o, o = (if sA.nx = 1 then Pl.round c sA false else []) := ⟨_, rfl⟩
  have Ho1 := Lib.hid ho1
  rw [← ho1] at HO ⊢
  obtain ⟨m1, hm1⟩ : ∃ m, o1.length = m := ⟨_, rfl⟩
  have hm65 : m1 ≤ 65 := by
    rw [← hm1, ho1]
    split
    · have h1 := round_len c sA false
      have h2 := HAO.out.1.ln
      omega
    · exact Nat.zero_le _
  have HOm := Lib.hid HO.out
  have Hm1 := Lib.hid hm1
  rw [hm1] at HOm ⊢
  have hpo := HAO.out.1.po
  have hpo0 := hpo.1
  have hpo1 := hpo.2
  have c20 : w5.cell? ⟨B, 20, none⟩ = some (.int .u32 sA.po) := HP5.out.b.cell 20
  have d9 : w5.cell? ⟨B, 9, none⟩ = some (.int .u16 c.po) := HP5.out.b.cell 9
  have hBl5 := HP5.out.b.lt
  have fz5 := HP5.out.b.frozen
  have HOut : Hid (Pl.tickOut c L s = o1 ++ if sA.po = 1 then Pl.round c sA true else []) := Lib.hid (by
    unfold Pl.tickOut
    rw [if_neg (by have := H2.out; omega), ← HsA.out, ← Ho1.out])
  have HSt : Hid (Pl.tickSt c L s = Pl.tickPo c (Pl.tickNx c sA)) := Lib.hid (by
    unfold Pl.tickSt
    rw [if_neg (by have := H2.out; omega), ← HsA.out])
  clear hw5 ho1 hm1 hpo HP3 HF3 d19 d7 fz3 hBl3 hnx1 hnx2
  by_cases hp0 : sA.po = 0
  · have HP : Hid (Pl.tickPo c (Pl.tickNx c sA) = Pl.tickNx c sA) := Lib.hid (by
      unfold Pl.tickPo
      rw [if_pos (show (Pl.tickNx c sA).po = 0 from hp0)]
      show { Pl.tickNx c sA with po := 0 } = Pl.tickNx c sA
      rw [← hp0]
      rfl)
    have HP1 : Hid (¬ sA.po = 1) := Lib.hid (by omega)
    have e0 : (sA.po == 0) = true := by simpa using hp0
    clear hp0 hpo0 hpo1
    go_wp2_with fail
    go_ret
    exact ⟨_, rfl, by rw [HOut.out, if_neg HP1.out, List.append_nil]; exact ⟨by rw [Hm1.out]; omega, _, HOm.out⟩, ⟨_, _, _, by rw [HSt.out, HP.out]; exact HP5.out⟩, HF5.out⟩
  have hp1 : 1 ≤ sA.po := by omega
  have e0 : (sA.po == 0) = false := by simpa using hp0
  have HP0 := Lib.hid hp0
  clear hp0
  go_upto_region 18 with fail
  obtain ⟨w6, hw6⟩ : ∃ w6, w6 = w5.setCell ⟨B, 20, none⟩ (.int .u32 (sA.po - 1)) := ⟨_, rfl⟩
  have h6 := HP5.out.turn (w' := w6) (s' := { Pl.tickNx c sA with po := sA.po - 1 }) (by rw [hw6]; exact (Frame.refl _ w5).setB 20 _) (by rw [hw6]; exact HP5.out.b.set_ 20 _) rfl
  have hff : Frame (fun j => j = B) w5 w6 := by rw [hw6]; exact (Frame.refl _ w5).setB 20 _
  have hs6 : w6.heap.size = w5.heap.size := by rw [hw6]; simp [World.setCell]
  have HO6 : Hid (OutsOwn w3.heap.size 105 w6 (.slice oa m1 oc) o1) := Lib.hid (HOm.out.fr hff (fun g cs t hg ht e => by
    subst e
    have h := hg.symm.trans HP5.out.b
    injection h with h
    injection h with h1 h2
    subst h2
    rcases ht with ht | ht <;> exact absurd ht (by decide)))
  rw [← hw6]
  have HS6 := Lib.hid hs6
  have HP6 := Lib.hid h6.1
  have HF6 := Lib.hid (HF5.out.trans h6.2)
  have x20 : w6.cell? ⟨B, 20, none⟩ = some (.int .u32 (sA.po - 1)) := h6.1.b.cell 20
  have x9 : w6.cell? ⟨B, 9, none⟩ = some (.int .u16 c.po) := h6.1.b.cell 9
  have hBl6 := h6.1.b.lt
  have fz6 := h6.1.b.frozen
  clear hw6 h6 hff hs6 c20 d9 hBl5 fz5 HP5 HF5 HO HOm
  by_cases hq1 : sA.po = 1
  rotate_left
  · have e1 : (sA.po - 1 == 0) = false := by simp; omega
    have HQ1 := Lib.hid hq1
    have HP : Hid (Pl.tickPo c (Pl.tickNx c sA) = { Pl.tickNx c sA with po := sA.po - 1 }) := Lib.hid (by
      unfold Pl.tickPo
      rw [if_neg (show ¬ (Pl.tickNx c sA).po = 0 from HP0.out), if_neg (show ¬ (Pl.tickNx c sA).po = 1 from HQ1.out)]
      rfl)
    clear hq1
    go_wp2_with fail
    go_ret
    exact ⟨_, rfl, by rw [HOut.out, if_neg HQ1.out, List.append_nil]; exact ⟨by rw [Hm1.out]; omega, _, HO6.out⟩, ⟨_, _, _, by rw [HSt.out, HP.out]; exact HP6.out⟩, HF6.out⟩
  have e1 : (sA.po - 1 == 0) = true := by rw [hq1]; rfl
  have HQ1 := Lib.hid hq1
  have hh := G.out.po
  have hh0 := G.out.po0
  clear hq1 hp1 hpo0 hpo1
  go_upto_region 20 with fail
  obtain ⟨w7, hw7⟩ : ∃ w7, w7 = w6.setCell ⟨B, 20, none⟩ (.int .u32 c.po) := ⟨_, rfl⟩
  have h7 := HP6.out.turn (w' := w7) (s' := Pl.tickPo c (Pl.tickNx c sA)) (by rw [hw7]; exact (Frame.refl _ w6).setB 20 _) (by
    rw [hw7]
    unfold Pl.tickPo
    rw [if_neg (show ¬ (Pl.tickNx c sA).po = 0 from HP0.out), if_pos (show (Pl.tickNx c sA).po = 1 from HQ1.out)]
    exact HP6.out.b.set_ 20 _) rfl
  have hff : Frame (fun j => j = B) w6 w7 := by rw [hw7]; exact (Frame.refl _ w6).setB 20 _
  have hs7 : w7.heap.size = w6.heap.size := by rw [hw7]; simp [World.setCell]
  have HO7 : Hid (OutsOwn w3.heap.size 105 w7 (.slice oa m1 oc) o1) := Lib.hid (HO6.out.fr hff (fun g cs t hg ht e => by
    subst e
    have h := hg.symm.trans HP6.out.b
    injection h with h
    injection h with h1 h2
    subst h2
    rcases ht with ht | ht <;> exact absurd ht (by decide)))
  rw [← hw7]
  have HS7 := Lib.hid hs7
  have HP7 := Lib.hid h7.1
  have HF7 := Lib.hid (HF6.out.trans h7.2)
  have HC : Hid (Calls Try.prog 69 #[.pointer (some ⟨B, 0, none⟩), .bool true] w7 fun e w' => ∃ u, e = .returned u ∧ OutsOwn w7.heap.size 105 w' u (Pl.round c sA true) ∧ Below w7.heap.size w7 w') := Lib.hid (pround h7.1 (by omega) G.out.nb0 G.out.nb HOne.out G.out.dm true)
  clear hw7 h7 hff hs7 x20 x9 hBl6 fz6 hh hh0
  go_wp2_with fail
  refine HC.out.mono ?_
  rintro e w8 ⟨u, rfl, ho, hb8⟩
  obtain ⟨nvs8, hn8, ho8, hw8⟩ := ho
  obtain ⟨ua, uc, rfl⟩ := own_slice ho8
  obtain ⟨n8, hl8⟩ : ∃ n, (Pl.round c sA true).length = n := ⟨_, rfl⟩
  rw [hl8] at ho8 ⊢
  obtain ⟨nvs1, hk1, hown1, hwd1⟩ := HO7.out.below hb8
  have HP8 := Lib.hid (HP7.out.below hb8)
  have HF8 := Lib.hid (HF7.out.trans (LFr.of_below hb8))
  have HRd := Lib.hid (Reads.of_own ho8)
  have HW := Lib.hid hw8
  have HN := Lib.hid hn8
  have HL := Lib.hid hl8
  have HK1 := Lib.hid hk1
  have HOw := Lib.hid hown1
  have HW1 := Lib.hid hwd1
  have hbase : w3.heap.size ≤ w8.heap.size := by have := hb8.size; have := HS7.out; have := HS6.out; have := H35.out; omega
  have hone := Lib.hid (outs_one hw8)
  have h64 : n8 ≤ 65 := by
    rw [← hl8]
    have h1 := round_len c sA true
    have h2 := HAO.out.1.ln
    omega
  have hown2 : w8.ownsRow w3.heap.size 105 9 (.slice oa m1 oc) m1 ((o1.zip nvs1).flatMap scl) := by have h := hown1; rw [Hm1.out] at h; exact h
  have HOw2 := Lib.hid hown2
  clear ho8 hw8 hn8 hl8 hb8 hk1 hown1 hwd1 hown2
  go_wp2_with (at_builtin; refine wpList_append_any _ rfl (.tmp 95) (.tmp 97) _ rfl w3.heap.size 105 i0 _ 9 56 Try.underlying85 hi0 hz0 hz1 hz2 rfl (by omega) (.slice oa m1 oc) m1 _ rfl HOw2.out w8.heap.size ua n8 uc _ rfl HRd.out hone.out (by simp [maxLen]; omega) (by omega) hbase ?_; intro v1 w9 hown9 hg9 _; have HOwn9 := Lib.hid hown9; have HG9 := Lib.hid hg9; clear hown9 hg9)
  go_ret
  have hF : Frame (fun j => (Value.slice oa m1 oc).ownBlock = some j) w8 w9 := Frame.of_grown HG9.out (fun k e _ => e)
  have hown : ∀ g, (Value.slice oa m1 oc).ownBlock = some g → ∃ cs, Blk w8 g 105 cs := fun g e => by
    obtain ⟨_, cs, h3⟩ := own_cells HOw2.out g e
    exact ⟨cs, h3⟩
  have hP9 := HP8.out.frOther (tE := 105) hF hown (by decide) (by decide) (by decide)
  have hF9 : LFr lo w w9 := HF8.out.trans' hF (fun i hi e => by have := (own_cells HOw2.out i e).1; have h0 := HFB.out; omega)
  refine ⟨_, rfl, ?_, ⟨_, _, _, by rw [HSt.out]; exact hP9⟩, hF9⟩
  rw [HOut.out, if_pos HQ1.out]
  refine ⟨by rw [List.length_append, Hm1.out, HL.out]; omega, w3.heap.size, ?_⟩
  exact outs_join (tE := 105) (v := .slice oa m1 oc) (by decide) HK1.out HOw.out HW1.out (by rw [HN.out]) HW.out HG9.out (by rw [Hm1.out, HL.out]; exact HOwn9.out)
end
end Go.Proofs.Ytgbmhijgpdgdbaa
