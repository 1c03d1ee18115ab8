/- deliver: a list of messages, and all that comes of them. -/
import Derived.Test.YtgbmhijgpdgdbaaFaRestA
import Derived.Test.YtgbmhijgpdgdbaaFaRestB
import Derived.Test.YtgbmhijgpdgdbaaFaRestRA
import Derived.Test.YtgbmhijgpdgdbaaFaRestRB
namespace Go.Proofs.Ytgbmhijgpdgdbaa
open Go.RowKit

structure DInv (T : Tk) (P : Fu.Pa) (C : Cn) (f : Nat) (w0 : World) (W0 : Nat → Prop) (Sf : Fu.Sy) (vg i : Nat) (l : List Sg) (S : Fu.Sy) (a b : Adj) (v0 v1 : Value) (w : World) : Prop where
  net : NetIs T P C w S a b v0 v1
  fr : Frame W0 w0 w
  wr : ∀ j, WrS T C S a b v0 v1 j → W0 j ∨ w0.heap.size ≤ j
  fine : Fine P f S l
  rn : runs P f S l = Sf
  left : Left T w (WrS T C S a b v0 v1) S vg i l
  nw : ¬ WrS T C S a b v0 v1 vg
  vb : ∃ cs, Blk w vg 40 cs

theorem RowAt.frame {w w' : World} {F : Nat → Prop} {vg i : Nat} {r : Raw} (h : RowAt w vg i r) (hf : Frame F w w') (hn : ¬ F vg) (hb : ∃ cs, Blk w vg 40 cs) : RowAt w' vg i r := by
  intro k u hk
  obtain ⟨cs, hb⟩ := hb
  have hb' := hf.blk hb hn
  rw [Blk.cell hb', ← Blk.cell hb]
  exact h k u hk

theorem DInv.next {T : Tk} {P : Fu.Pa} {C : Cn} {f : Nat} {w0 : World} {W0 : Nat → Prop} {Sf : Fu.Sy} {vg i : Nat} {g : Sg} {l : List Sg} {S : Fu.Sy} {a b : Adj} {v0 v1 : Value} {w w' : World} (hN : P.N = T.N) (h : DInv T P C f w0 W0 Sf vg i (g :: l) S a b v0 v1 w) (hl : l.length ≤ 1)
    (hw : Went T P C w (WrS T C S a b v0 v1) (Fu.run P (f + 1) S g.ml) w') : ∃ a' b' v0' v1', DInv T P C f w0 W0 Sf vg (i + 1) l (Fu.run P (f + 1) S g.ml) a' b' v0' v1' w' := by
  obtain ⟨a', b', v0', v1', h1, h2, h3⟩ := hw
  obtain ⟨k1, k2, k3, k4, k5⟩ := h.fine
  obtain ⟨cs, hcs⟩ := h.vb
  have hW0 : ∀ j, WrS T C (Fu.run P (f + 1) S g.ml) a' b' v0' v1' j → W0 j ∨ w0.heap.size ≤ j := fun j hj => by
    rcases h3 j hj with e | e
    · exact h.wr j e
    · exact .inr (Nat.le_trans h.fr.size e)
  have hnw : ¬ WrS T C (Fu.run P (f + 1) S g.ml) a' b' v0' v1' vg := fun e => by
    rcases h3 vg e with e | e
    · exact h.nw e
    · have := hcs.lt; omega
  refine ⟨a', b', v0', v1', h1, h.fr.trans' h2 (fun j hj e => ?_), hW0, k5, h.rn, ?_, hnw, cs, h2.blk hcs h.nw⟩
  · rcases h.wr j e with e | e
    · exact e
    · omega
  · cases l with
    | nil => trivial
    | cons g' l =>
      obtain rfl : l = [] := by cases l with | nil => rfl | cons _ _ => simp at hl
      obtain ⟨_, rfl, rfl, hp, r, hr, kv, rfl, hk, hn⟩ := h.left
      have hd := (Fu.run_did P (f + 1) S .dA k1 k2 k3).ka (.inl ⟨rfl, by rw [hN]; exact hp⟩)
      refine ⟨_, hr.frame h2 h.nw ⟨cs, hcs⟩, kv, rfl, ?_, fun j hj e => ?_⟩
      · show KeysOwn w' 0 kv (((T.WA.drop (Fu.run P (f + 1) S .dA).ga).map keyOfHd).take 16)
        rw [hd.1]
        exact h2.own hk hn
      · rcases h3 j e with e | e
        · exact hn j hj e
        · have := (hk.lt j hj).2; omega

theorem Left.head {T : Tk} {w : World} {W : Nat → Prop} {S : Fu.Sy} {vg i : Nat} {g : Sg} {l : List Sg} (h : Left T w W S vg i (g :: l)) : ∃ r, RowAt w vg i r ∧ SgAt T w W S g r := by
  cases l with
  | nil => exact h
  | cons g' l => exact h.1

set_option maxHeartbeats 4000000 in
set_option maxRecDepth 20000 in
theorem deliver_list {T : Tk} {P : Fu.Pa} {C : Cn} (hT : TkOk T) (hC : CnOk C) (hN : P.N = T.N) (ha : P.a = T.WA.length) (hb : P.b = T.WB.length) (f : Nat) (IH : Onward T P C f)
    (w0 : World) (S0 : Fu.Sy) (a0 b0 : Adj) (u0 u1 : Value) (sgs : List Sg) (t : Int) (vg c : Nat) (len : Nat) (hlen : sgs.length = len) (hl2 : len ≤ 2) (hto : ∀ g ∈ sgs, g.to = t)
    (h0 : DInv T P C f w0 (WrS T C S0 a0 b0 u0 u1) (runs P f S0 sgs) vg 0 sgs S0 a0 b0 u0 u1 w0) :
    Calls Try.prog 18 #[.pointer (some ⟨C.Wb, 0, none⟩), .int .i64 t, .slice (some ⟨vg, 0, none⟩) len c] w0 fun e w' => e = .returned (.tuple #[]) ∧ Went T P C w0 (WrS T C S0 a0 b0 u0 u1) (runs P f S0 sgs) w' := by
  have HT := Lib.hid hT
  have HC := Lib.hid hC
  have HN := Lib.hid hN
  have HA := Lib.hid ha
  have HB := Lib.hid hb
  have HIH := Lib.hid IH
  have Hlen := Lib.hid hlen
  have Hto := Lib.hid hto
  have H0 := Lib.hid h0
  clear hT hC hN ha hb IH hlen hto h0
  go_enter Try.func18, Try.ntmps18
  go_wp2_with fail
  go_loopw [6] (fun x wr => ∃ (i : Nat) (S : Fu.Sy) (a b : Adj) (v0 v1 : Value), i ≤ len ∧ x = .int .i64 i ∧ Hid (DInv T P C f w0 (WrS T C S0 a0 b0 u0 u1) (runs P f S0 sgs) vg i (sgs.drop i) S a b v0 v1 wr)) (fun x _ => len - (intOf x).toNat)
  case atStart => exact ⟨0, S0, a0, b0, u0, u1, Nat.zero_le _, rfl, H0⟩
  case round =>
    clear H0
    obtain ⟨i, S, a, b, v0, v1, hi, rfl, HD⟩ := hrel
    by_cases hlt : i < len
    · have hw := HD.out.net.bs.wire
      obtain ⟨A0, c0, hv0⟩ := own_slice HD.out.net.bs.o0
      obtain ⟨A1, c1, hv1⟩ := own_slice HD.out.net.bs.o1
      obtain ⟨n0, hn0⟩ : ∃ n, (gained T.A (T.WA.take S.ga)).length = n := ⟨_, rfl⟩
      obtain ⟨n1, hn1⟩ : ∃ n, (gained T.B (T.WB.take S.gb)).length = n := ⟨_, rfl⟩
      rw [hn0] at hv0
      rw [hn1] at hv1
      subst hv0 hv1
      have Hn0 := Lib.hid hn0
      have Hn1 := Lib.hid hn1
      obtain ⟨sg, hsg⟩ : ∃ sg, sgs[i]? = some sg := ⟨_, List.getElem?_eq_getElem (by have := Hlen.out; omega)⟩
      have hdrop : sgs.drop i = sg :: sgs.drop (i + 1) := by
        obtain ⟨h1, h2⟩ := List.getElem?_eq_some_iff.1 hsg
        rw [List.drop_eq_getElem_cons h1, h2]
      have hfine := HD.out.fine
      rw [hdrop] at hfine
      obtain ⟨hok, hpre, hrem, hn4, hfine2⟩ := hfine
      have hn4000 : (S.n : Int) < 4000 := by
        have : 1 ≤ Fu.cst S sg.ml := by cases sg <;> simp only [Sg.ml, Fu.cst] <;> (try split) <;> omega
        omega
      have Hsg := Lib.hid hsg
      have Hdrop := Lib.hid hdrop
      have Hok := Lib.hid hok
      have Hpre := Lib.hid hpre
      have Hrem := Lib.hid hrem
      have Hn4 := Lib.hid hn4
      have Hfine := Lib.hid hfine2
      have hW := hw.lt
      have fW := hw.frozen
      have c4 : wr.cell? ⟨C.Wb, 4, none⟩ = some (.int .i64 S.n) := hw.cell 4
      have c5 : wr.cell? ⟨C.Wb, 5, none⟩ = some (.slice C.LA C.ln C.lc) := hw.cell 5
      have c6 : wr.cell? ⟨C.Wb, 6, none⟩ = some (.int .i64 S.n) := hw.cell 6
      have hlti : (i : Int) < (len : Int) := by omega
      clear hw hsg hdrop hok hpre hrem hn4 hfine2 hn0 hn1
      go_upto_region 5 with fail
      obtain ⟨W2, hW2⟩ : ∃ W, W = (wr.setCell ⟨C.Wb, 6, none⟩ (.int .i64 ((S.n : Int) + 1))).setCell ⟨C.Wb, 4, none⟩ (.int .i64 ((S.n : Int) + 1)) := ⟨_, rfl⟩
      have hnet2 : NetIs T P C W2 { S with n := S.n + 1 } a b (.slice A0 n0 c0) (.slice A1 n1 c1) := by rw [hW2]; exact HD.out.net.count HC.out
      have hfr2 : Frame (fun j => j = C.Wb) wr W2 := by rw [hW2]; exact ((Frame.refl _ wr).setB 6 _).setB 4 _
      rw [← hW2]
      clear hW2 c4 c5 c6 fW
      have hw2 := hnet2.bs.wire
      have e4 : W2.cell? ⟨C.Wb, 4, none⟩ = some (.int .i64 ((S.n : Int) + 1)) := hw2.cell 4
      have e5 : W2.cell? ⟨C.Wb, 5, none⟩ = some (.slice C.LA C.ln C.lc) := hw2.cell 5
      have hlst := hnet2.bs.lost
      have hll := hnet2.bs.llen
      have HN2 := Lib.hid hnet2
      have HF2 := Lib.hid hfr2
      have hW2 := hw2.lt
      have HLs := Lib.hid hlst
      have HLl := Lib.hid hll
      clear hnet2 hfr2 hw2 hlst hll
      go_cut [67] (fun p wx => p = .bool (Fu.lostAt P S.n) ∧ ∃ q, wx = W2.drewN q)
      case first =>
        by_cases hln : S.n < C.ln
        · obtain ⟨lb, lo, hLA, hlb, hcl⟩ := oneCell_lost HLs.out HLl.out hln
          rw [hLA] at e5
          rcases hL : Fu.lostAt P S.n
          · rw [hL] at hcl
            go_quiet (fail)
            go_wp2_with fail
            go_meet
            case rel => exact ⟨by rw [hL], _, rfl⟩
          · rw [hL] at hcl
            go_quiet (fail)
            go_wp2_with fail
            go_meet
            case rel => exact ⟨by rw [hL], _, rfl⟩
        · have hL : Fu.lostAt P S.n = false := by
            unfold Fu.lostAt
            rw [List.getD_eq_getElem?_getD, List.getElem?_eq_none (by have := HLl.out; omega)]
            rfl
          go_quiet (fail)
          go_wp2_with fail
          go_meet
          case rel => exact ⟨by rw [hL], _, rfl⟩
      obtain ⟨rfl, q, hq⟩ := hcut
      obtain ⟨W3, hW3⟩ : ∃ W, W = wc := ⟨_, rfl⟩
      rw [← hW3]
      have hb3 : Below W2.heap.size W2 W3 := by rw [hW3, hq]; exact drewB' W2 q
      have HN3 := Lib.hid (HN2.out.quiet HC.out hb3)
      have HF3 : Hid (Frame (fun j => j = C.Wb) wr W3) := Lib.hid (HF2.out.trans (Frame.of_below hb3))
      clear hq hW3 hb3 e4 e5 hW2 HN2 HF2
      rename_i K2 hK2 K1 hK1 K hK
      have hdi := HD.out
      rw [Hdrop.out] at hdi
      have hl1 : (sgs.drop (i + 1)).length ≤ 1 := by rw [List.length_drop, Hlen.out]; omega
      have hf3 : Frame (WrS T C S a b (.slice A0 n0 c0) (.slice A1 n1 c1)) wr W3 := HF3.out.mono (fun j e => .inl (e ▸ .inl rfl))
      have hend : ∀ w', Went T P C W3 (WrS T C S a b (.slice A0 n0 c0) (.slice A1 n1 c1)) (Fu.run P (f + 1) S sg.ml) w' → ∃ a' b' v0' v1', DInv T P C f w0 (WrS T C S0 a0 b0 u0 u1) (runs P f S0 sgs) vg (i + 1) (sgs.drop (i + 1)) (Fu.run P (f + 1) S sg.ml) a' b' v0' v1' w' := fun w' hg =>
        hdi.next HN.out hl1 (Went.trans hf3 (fun j hj => .inl hj) hg)
      have HEnd := Lib.hid hend
      have Hdi := Lib.hid hdi
      have HF3' := Lib.hid hf3
      clear hdi hl1 hf3 hend HF3
      have hlen4 : len ≤ 4 := by omega
      rcases hL : Fu.lostAt P S.n
      · have HL := Lib.hid hL
        clear hL
        have hsgc : (sg = .firstA ∨ sg = .dA) ∨ sg = .dB ∨ sg = .rA ∨ sg = .rB := by cases sg <;> simp
        have hleft := Hdi.out.left
        obtain ⟨r, hr0, hs0⟩ := hleft.head
        have hr3 := hr0.frame HF3'.out HD.out.nw HD.out.vb
        have hs3 := hs0.frame HF3'.out
        have ht := Hto.out sg (List.mem_of_getElem? Hsg.out)
        clear hleft hr0 hs0
        refine hK _ _ (wp_cond_false rfl (wp_skip (hK1 _ _ ?_)))
        clear hK hK1
        change Code.wp Try.prog restC _ _ _
        rcases hsgc with hsg | rfl | rfl | rfl
        · obtain rfl : t = 1 := by rw [← ht]; rcases hsg with rfl | rfl <;> rfl
          obtain ⟨fl, sq, hv, rfl, hready⟩ := ready_b HT.out HC.out HN.out HB.out hsg Hok.out Hpre.out Hrem.out Hn4.out HL.out HN3.out hs3
          refine wp_mono (rest_b HT.out HC.out HIH.out hlti Hn1.out HN3.out hr3 hready _ _ _ _ _ _ _ _ _ _ _ _ _ _ _ _ _ _ _ _ _ _ _ _ _ _ _ _ _ _ _ _ _ _ _ _ _ _ _ _ _ _ _ _ _ _ _ _ _ _ _ _ _ _ _ _ _ _ _ _ _ _ _ _ _ _ _ _ _ _ _ _ _ _ _ _ _ _ _ _ _ _ _ _ _ _ _ _ _ _ _ _ _ _ _ _ _ _ _ _ _ _ _ _ _ _ _ _ _ _ _ _ _ _ _ _ _ _ _ _ _ _ _ _ _ _ _ _ _ _ _ _ _ _ _ _ _ _ _ _ _ _ _ _ _ _ _ _ _ _ _ _ _ _ _ _ _ _ _ _ _ _ _ _ _ _ _ _ _ _ _ _ _ _ _ _ _ _ _ _ _ _ _ _ _ _ ?_) exits_any
          intros
          rename_i w' hres
          obtain ⟨a9, b9, v9, u9, h9⟩ := HEnd.out w' hres
          have H9 := Lib.hid h9
          clear hres h9 ht hsg hready hr3 hs3
          go_wp2_with fail
          go_roundw
          case rel => exact ⟨i + 1, _, a9, b9, v9, u9, by omega, by simp, H9⟩
          case measure => simp [intOf]; omega
        · obtain rfl : t = 0 := by rw [← ht]; rfl
          obtain ⟨fl, sq, hv, rfl, hready⟩ := ready_a HT.out HC.out HN.out HA.out Hok.out Hpre.out Hrem.out Hn4.out HL.out HN3.out hs3
          refine wp_mono (rest_a HT.out HC.out HIH.out hlti Hn0.out HN3.out hr3 hready _ _ _ _ _ _ _ _ _ _ _ _ _ _ _ _ _ _ _ _ _ _ _ _ _ _ _ _ _ _ _ _ _ _ _ _ _ _ _ _ _ _ _ _ _ _ _ _ _ _ _ _ _ _ _ _ _ _ _ _ _ _ _ _ _ _ _ _ _ _ _ _ _ _ _ _ _ _ _ _ _ _ _ _ _ _ _ _ _ _ _ _ _ _ _ _ _ _ _ _ _ _ _ _ _ _ _ _ _ _ _ _ _ _ _ _ _ _ _ _ _ _ _ _ _ _ _ _ _ _ _ _ _ _ _ _ _ _ _ _ _ _ _ _ _ _ _ _ _ _ _ _ _ _ _ _ _ _ _ _ _ _ _ _ _ _ _ _ _ _ _ _ _ _ _ _ _ _ _ _ _ _ _ _ _ _ ?_) exits_any
          intros
          rename_i w' hres
          obtain ⟨a9, b9, v9, u9, h9⟩ := HEnd.out w' hres
          have H9 := Lib.hid h9
          clear hres h9 ht hready hr3 hs3
          go_wp2_with fail
          go_roundw
          case rel => exact ⟨i + 1, _, a9, b9, v9, u9, by omega, by simp, H9⟩
          case measure => simp [intOf]; omega
        · obtain rfl : t = 1 := by rw [← ht]; rfl
          obtain ⟨kv, rfl, hask⟩ := askB HT.out HC.out HN.out Hok.out Hpre.out HN3.out hs3
          refine wp_mono (rest_ra HT.out HC.out HN.out HA.out HIH.out hlti Hok.out Hpre.out Hrem.out Hn4.out HL.out Hn1.out HN3.out hr3 hask _ _ _ _ _ _ _ _ _ _ _ _ _ _ _ _ _ _ _ _ _ _ _ _ _ _ _ _ _ _ _ _ _ _ _ _ _ _ _ _ _ _ _ _ _ _ _ _ _ _ _ _ _ _ _ _ _ _ _ _ _ _ _ _ _ _ _ _ _ _ _ _ _ _ _ _ _ _ _ _ _ _ _ _ _ _ _ _ _ _ _ _ _ _ _ _ _ _ _ _ _ _ _ _ _ _ _ _ _ _ _ _ _ _ _ _ _ _ _ _ _ _ _ _ _ _ _ _ _ _ _ _ _ _ _ _ _ _ _ _ _ _ _ _ _ _ _ _ _ _ _ _ _ _ _ _ _ _ _ _ _ _ _ _ _ _ _ _ _ _ _ _ _ _ _ _ _ _ _ _ _ _ _ _ _ _ ?_) exits_any
          intros
          rename_i w' hres
          obtain ⟨a9, b9, v9, u9, h9⟩ := HEnd.out w' hres
          have H9 := Lib.hid h9
          clear hres h9 ht hask hr3 hs3
          go_wp2_with fail
          go_roundw
          case rel => exact ⟨i + 1, _, a9, b9, v9, u9, by omega, by simp, H9⟩
          case measure => simp [intOf]; omega
        · obtain rfl : t = 0 := by rw [← ht]; rfl
          obtain ⟨kv, rfl, hask⟩ := askA HT.out HC.out HN.out Hok.out Hpre.out HN3.out hs3
          refine wp_mono (rest_rb HT.out HC.out HN.out HB.out HIH.out hlti Hok.out Hpre.out Hrem.out Hn4.out HL.out Hn0.out HN3.out hr3 hask _ _ _ _ _ _ _ _ _ _ _ _ _ _ _ _ _ _ _ _ _ _ _ _ _ _ _ _ _ _ _ _ _ _ _ _ _ _ _ _ _ _ _ _ _ _ _ _ _ _ _ _ _ _ _ _ _ _ _ _ _ _ _ _ _ _ _ _ _ _ _ _ _ _ _ _ _ _ _ _ _ _ _ _ _ _ _ _ _ _ _ _ _ _ _ _ _ _ _ _ _ _ _ _ _ _ _ _ _ _ _ _ _ _ _ _ _ _ _ _ _ _ _ _ _ _ _ _ _ _ _ _ _ _ _ _ _ _ _ _ _ _ _ _ _ _ _ _ _ _ _ _ _ _ _ _ _ _ _ _ _ _ _ _ _ _ _ _ _ _ _ _ _ _ _ _ _ _ _ _ _ _ _ _ _ _ ?_) exits_any
          intros
          rename_i w' hres
          obtain ⟨a9, b9, v9, u9, h9⟩ := HEnd.out w' hres
          have H9 := Lib.hid h9
          clear hres h9 ht hask hr3 hs3
          go_wp2_with fail
          go_roundw
          case rel => exact ⟨i + 1, _, a9, b9, v9, u9, by omega, by simp, H9⟩
          case measure => simp [intOf]; omega
      · have hrun : Fu.run P (f + 1) S sg.ml = { S with n := S.n + 1 } := by cases sg <;> simp [Sg.ml, Fu.run, hL]
        obtain ⟨a9, b9, v9, u9, h9⟩ := HEnd.out W3 (by rw [hrun]; exact ⟨a, b, _, _, HN3.out, Frame.refl _ _, fun j hj => .inl hj⟩)
        have H9 := Lib.hid h9
        clear hrun h9 hL
        go_wp2_with fail
        go_roundw
        case rel => exact ⟨i + 1, _, a9, b9, v9, u9, by omega, by simp, H9⟩
        case measure => simp [intOf]; omega
    · obtain rfl : i = len := by omega
      have hnil : sgs.drop i = [] := List.drop_eq_nil_iff.2 (by rw [Hlen.out]; exact Nat.le_refl _)
      have hdi := HD.out
      rw [hnil] at hdi
      have hwent : Went T P C w0 (WrS T C S0 a0 b0 u0 u1) (runs P f S0 sgs) wr := by
        rw [← hdi.rn]
        exact ⟨a, b, v0, v1, hdi.net, hdi.fr, hdi.wr⟩
      have HWent := Lib.hid hwent
      clear hnil hdi hwent HD
      go_wp2_with fail
      refine bodyPost_end (v := .tuple #[]) (by simp [results, Try.results18, go_sem]) rfl ⟨rfl, HWent.out⟩
end Go.Proofs.Ytgbmhijgpdgdbaa
