/- The statement AdjacentChunks, walked: the lesser one. -/
import Derived.Test.YtgbmhijgpdgdbaaChunkInv
import Derived.Deep.RegionLaw
import Derived.Deep.DeepCutAuto
namespace Go.Proofs.Ytgbmhijgpdgdbaa
open Go.RowKit

theorem HeadsIn.drew {w : World} {v : Value} {l : List Od.Hd} (h : HeadsIn w v l) : HeadsIn w.drew v l := h

set_option maxHeartbeats 4000000 in
set_option maxRecDepth 20000 in
theorem chunks_s_any (w : World) (A : Option Addr) (n c : Nat) (l : List Od.Hd) (hl : HeadsAt w w.heap.size (.slice A n c) l) (hraw : ∀ x ∈ l, HdRaw x) (h200 : n ≤ 200) :
    Calls Try.prog 3 #[.slice A n c, .bool false] w fun e w' => e = .returned (.bool true) ∧ Below w.heap.size w w' := by
  obtain ⟨i0, hi, hz0, hz1, hz2⟩ := info_parts head_info
  have hll : l.length = n := by obtain ⟨A', n', c', e, _, h, _⟩ := hl; injection e with _ e2 _; omega
  have hn200 : ¬ (200 : Int) < (n : Int) := by omega
  have HL := Lib.hid hl
  have HRaw := Lib.hid hraw
  have Hll := Lib.hid hll
  clear hl hraw hll
  go_enter Try.func3, Try.ntmps3
  go_wp2_with fail
  refine (unlike_any w (.slice A n c) l HL.out HRaw.out (by have := Hll.out; omega)).mono ?_
  rintro e w1 ⟨uv, U, rfl, hown1, hU, hb1⟩
  obtain ⟨UA, Uc, rfl⟩ := own_slice hown1
  obtain ⟨un, hun⟩ : ∃ un, U.length = un := ⟨_, rfl⟩
  rw [hun] at hown1 ⊢
  have HU := Lib.hid hU
  have HOwn1 := Lib.hid hown1
  have Hun := Lib.hid hun
  have HB1 := Lib.hid hb1
  clear hU hown1 hun hb1
  go_wp2_with fail
  have kp2 : Blk (w1.alloc (.cells #[.int .u16 0, .int .u8 2, .int .u8 7, .int .u32 9, .slice none 0 0] 28)) w1.heap.size 28 #[.int .u16 0, .int .u8 2, .int .u8 7, .int .u32 9, .slice none 0 0] := Blk.new w1 _ _
  have kb2 : Below w.heap.size w (w1.alloc (.cells #[.int .u16 0, .int .u8 2, .int .u8 7, .int .u32 9, .slice none 0 0] 28)) := HB1.out.alloc HB1.out.size _
  have ku2 : (w1.alloc (.cells #[.int .u16 0, .int .u8 2, .int .u8 7, .int .u32 9, .slice none 0 0] 28)).ownsRow w.heap.size 59 8 (.slice UA un Uc) un (U.flatMap hcells) := ((Frame.refl (fun _ => False) w1).alloc _).own HOwn1.out (fun _ _ e => e)
  refine (new_any 1 2 0 2 2 9 65535 _ (by omega) (by omega) (by omega) (by omega) (by omega)).mono ?_
  rintro e w3 ⟨B, m, v1, rfl, hB, hm, hA3, hM3, hb3, -⟩
  have kp3 := kp2.below hb3 kp2.lt
  have ku3 := (Frame.of_below (S := fun _ => False) hb3).own ku2 (fun _ _ e => e)
  have kb3 := kb2.trans (hb3.mono kb2.size)
  have hpb : w.heap.size ≤ w1.heap.size := HB1.out.size
  have hs2 := kb2.size
  have HFix : Hid (ChFix w w3.heap.size B m w1.heap.size (.slice UA un Uc)) := Lib.hid ⟨by omega, by omega, hpb, kb3.size, fun g hg => (ku3.lt g hg).2⟩
  have HInv : Hid (ChInv false w w3.heap.size B m w1.heap.size U (.slice UA un Uc) w3 (newAdj 1 2 0 2 2 9 65535 m).firsted 0 (.slice none 0 0) 0 7 9) := Lib.hid (by
    refine ⟨⟨⟨hA3, rfl, hM3, World.ownsRow_nil _ _ _ _⟩, rfl, rfl, rfl, rfl, fun g hg => (by cases hg), .inl (by omega), fun _ => ⟨rfl, rfl, (by show isM 7 = true; decide), HeadsIn.nil _, (by rw [if_neg (by decide)]; show (1 : Int) < 2; decide)⟩, fun e => by omega⟩, HeadsIn.own ku3 Hun.out, World.ownsRow_nil _ _ _ _, rfl, fun e => by omega, fun _ => rfl, kp3, kb3, Nat.le_refl _⟩)
  clear hA3 hM3 hb3 kp2 kb2 ku2 kp3 ku3 kb3 hs2
  go_wp2_with fail
  go_loopw [12, 13] (fun gv iv wr => ∃ (i gn Gc : Nat) (GA : Option Addr) (a : Adj) (fl sq : Int), i ≤ 5 ∧ iv = .int .i64 i ∧ gv = .slice GA gn Gc ∧ gn ≤ 60 ∧ 0 ≤ sq ∧ sq < 100 ∧ Hid (sq = 9 + (i : Int)) ∧ Hid (fl = if i = 0 then 7 else 1) ∧ Hid (ChInv false w w3.heap.size B m w1.heap.size U (.slice UA un Uc) wr a i (.slice GA gn Gc) gn fl sq))
    (fun _ i _ => 40 - (intOf i).toNat)
  case atStart => exact ⟨0, 0, 0, none, _, 7, 9, by omega, rfl, rfl, by omega, by omega, by omega, Lib.hid rfl, Lib.hid (by rw [if_pos rfl]), HInv⟩
  case round =>
    clear HInv
    obtain ⟨i, gn, Gc, GA, a, fl, sq, hi5, rfl, rfl, hgn, hsq0, hsq1, HSq, HFl, HC⟩ := hrel
    have hi40 : (i : Int) < 40 := by omega
    have p0 : wr.cell? ⟨w1.heap.size, 0, none⟩ = some (.int .u16 0) := HC.out.p.cell 0
    have p1 : wr.cell? ⟨w1.heap.size, 1, none⟩ = some (.int .u8 2) := HC.out.p.cell 1
    have p2 : wr.cell? ⟨w1.heap.size, 2, none⟩ = some (.int .u8 fl) := HC.out.p.cell 2
    have p3 : wr.cell? ⟨w1.heap.size, 3, none⟩ = some (.int .u32 sq) := HC.out.p.cell 3
    have p4 : wr.cell? ⟨w1.heap.size, 4, none⟩ = some (.slice none 0 0) := HC.out.p.cell 4
    go_upto_region 16 with fail
    go_cut [14, 15] (fun ov e wx => ∃ wy, e = .int .i64 0 ∧ Hid (ChInv false w w3.heap.size B m w1.heap.size U (.slice UA un Uc) wy a i (.slice GA gn Gc) gn fl sq) ∧ Hid (ChOut false w.heap.size wy B m a U i ov wx))
    case first =>
      go_region_law (first
        | (go_simp; go_at_call 15; refine (copyHeads_any wr.drew _ U (HeadsIn.drew HC.out.own) (by have := HU.out.2; omega)).mono ?_; rintro e w5 ⟨cv, rfl, hco, hcb⟩; have HC5 := Lib.hid (HC.out.quiet ((Below.refl wr.heap.size wr).drew.trans hcb)); have q0 : w5.cell? ⟨w1.heap.size, 0, none⟩ = some (.int .u16 0) := HC5.out.p.cell 0; have q1 : w5.cell? ⟨w1.heap.size, 1, none⟩ = some (.int .u8 2) := HC5.out.p.cell 1; have q2 : w5.cell? ⟨w1.heap.size, 2, none⟩ = some (.int .u8 fl) := HC5.out.p.cell 2; have q3 : w5.cell? ⟨w1.heap.size, 3, none⟩ = some (.int .u32 sq) := HC5.out.p.cell 3; have q4 : w5.cell? ⟨w1.heap.size, 4, none⟩ = some (.slice none 0 0) := HC5.out.p.cell 4; have HCo := Lib.hid (HeadsIn.own hco rfl); clear hco hcb)
        | (go_simp; go_at_call 14; have hrd := round_slave w5 w.heap.size B m a U i _ HC5.out.ch HU.out HCo.out HC5.out.bel.size fl HFl.out; rw [← HSq.out] at hrd; refine hrd.mono ?_; rintro e w6 ⟨ov6, rfl, ho6⟩; have HO6 := Lib.hid ho6; clear ho6 hrd))
      all_goals
        go_wp2_with fail
        go_meet
        case rel => exact ⟨w5, rfl, HC5, HO6⟩
    case rest =>
      obtain ⟨wy, rfl, HCy, HOy⟩ := hcut
      obtain ⟨a', G, hM, hv, hn⟩ := HCy.out.round HFix.out HOy.out
      have HM := Lib.hid hM
      have hfr0 : Frame (fun _ => False) wc wc := Frame.refl _ _
      clear hM HCy HOy p0 p1 p2 p3 p4
      have hUl : U.length ≤ 60 := HU.out.2
      rcases hv with ⟨rfl, rfl⟩ | ⟨r, hrd, hrow, hheads, hG16⟩
      · rcases hn with ⟨hst, hall⟩ | ⟨hst, hG, hc⟩
        · rw [List.append_nil] at hall
          have HGot : Hid (HeadsIn wc (.slice GA gn Gc) U) := Lib.hid (by
            have h1 := HM.out.got
            rw [hall] at h1
            have h2 := HM.out.glen
            rw [hall] at h2
            exact HeadsIn.own h1 h2)
          have HOw : Hid (HeadsIn wc (.slice UA un Uc) U) := Lib.hid HM.out.own
          have HBel : Hid (Below w.heap.size w wc) := Lib.hid HM.out.bel
          have hst3 : Calls Try.prog 16 #[.pointer (some ⟨B, 0, none⟩)] wc fun e w' => e = .returned (.int .u8 3) ∧ wc = w' := by rw [← hst]; exact state_yes wc B a' HM.out.adj HM.out.made
          have HSt := Lib.hid hst3
          clear hst3 hall hst
          go_wp2_with (first
            | (go_at_call 16; refine HSt.out.mono ?_; rintro e w' ⟨rfl, rfl⟩)
            | (go_at_call 17; refine (eqHeads_same wc _ _ U HGot.out HOw.out (by omega)).mono ?_; rintro e w8 ⟨rfl, hb8⟩)
            | (go_at_call 11; refine (works_any _).mono ?_; rintro e w9 ⟨rfl, hb9⟩))
          go_ret
          exact ⟨rfl, (HBel.out.trans (hb8.mono HBel.out.size)).trans (hb9.mono (Nat.le_trans HBel.out.size hb8.size))⟩
        · have hI := HM.out.next0 hc hst hG
          have hst1 : Calls Try.prog 16 #[.pointer (some ⟨B, 0, none⟩)] wc fun e w' => e = .returned (.int .u8 1) ∧ wc = w' := by rw [← hst]; exact state_yes wc B a' HM.out.adj HM.out.made
          have HSt := Lib.hid hst1
          have HI := Lib.hid hI
          have hgn' : gn ≤ 60 := hgn
          have hbd : i + 1 ≤ 5 := by rcases hc.bound with e | e <;> omega
          clear hst1 hI hst hG hc
          have s2 : wc.cell? ⟨w1.heap.size, 2, none⟩ = some (.int .u8 fl) := HI.out.p.cell 2
          have s3 : wc.cell? ⟨w1.heap.size, 3, none⟩ = some (.int .u32 sq) := HI.out.p.cell 3
          have fp := HI.out.p.frozen
          go_wp2_with (go_at_call 16; refine HSt.out.mono ?_; rintro e w' ⟨rfl, rfl⟩)
          go_roundw
          case rel =>
            refine ⟨i + 1, gn, Gc, GA, a', 1, _, hbd, by go_num, rfl, hgn', ?_, ?_, Lib.hid ?_, Lib.hid (by rw [if_neg (by omega)]), Lib.hid (HI.out.setp HFix.out (by omega) (((Frame.refl _ _).setB 2 _).setB 3 _) ((HI.out.p.set_ 2 _).set_ 3 _))⟩
            · have := HSq.out; omega
            · have := HSq.out; omega
            · have := HSq.out; omega
          case measure => simp [intOf]; omega
      · obtain ⟨vg, vc, rfl, -, -⟩ := hrow.form (by omega)
        obtain ⟨HA0, Hc, hhv⟩ := own_slice hheads
        have r0 : wc.cell? ⟨vg, 0, none⟩ = some (.bool true) := (hrow.cellAt 0 (by simp)).trans (by simp [Raw.cells, hrd])
        have r5 : wc.cell? ⟨vg, 5, none⟩ = some (.slice HA0 G.length Hc) := (hrow.cellAt 5 (by simp)).trans (by simp [Raw.cells, hhv])
        rw [hhv] at hheads
        have HRd := Lib.hid (Reads.of_own hheads)
        obtain ⟨Gn, hGn⟩ : ∃ Gn, G.length = Gn := ⟨_, rfl⟩
        rw [hGn] at r5
        have HRd2 : Hid (Reads wc wc.heap.size 8 HA0 Gn (G.flatMap hcells)) := Lib.hid (by have := HRd.out; rwa [hGn] at this)
        have hG16' : ¬ (16 : Int) < (Gn : Int) := by omega
        have HGn := Lib.hid hGn
        have h63 : gn + Gn ≤ maxLen := by unfold maxLen; omega
        have hby : (gn + Gn) * 20 ≤ 140737488355328 := by omega
        have hba : w3.heap.size ≤ wc.heap.size := HM.out.size
        clear hrow hheads hhv hrd HRd hGn hG16
        rcases hn with ⟨hst, hall⟩ | ⟨hst, hG, hc⟩
        · have Hall := Lib.hid hall
          have Hst := Lib.hid hst
          clear hall hst
          go_upto_region 23 with (at_builtin; refine wpList_append_any _ rfl (.tmp 72) (.tmp 77) _ rfl w3.heap.size 59 i0 _ 8 20 Try.underlying22 hi hz0 hz1 hz2 rfl (by omega) (.slice GA gn Gc) gn ((U.take (16 * i)).flatMap hcells) rfl HM.out.got wc.heap.size HA0 Gn Hc (G.flatMap hcells) rfl HRd2.out hcells_one h63 hby hba ?_; intro v7 w7 hown7 hg7 hat7; obtain ⟨A7, c7, hv7⟩ := own_slice hown7; subst hv7; have hf7 : Frame (fun j => (Value.slice GA gn Gc).ownBlock = some j) wc w7 := Frame.of_grown hg7 (fun k e _ => e); have HGot : Hid (HeadsIn w7 (.slice A7 (gn + Gn) c7) U) := (by rw [← List.flatMap_append, Hall.out] at hown7; exact Lib.hid (HeadsIn.own hown7 (by have h2 := congrArg List.length Hall.out; rw [List.length_append, HM.out.glen, HGn.out] at h2; exact h2.symm))); have HOw : Hid (HeadsIn w7 (.slice UA un Uc) U) := Lib.hid (HM.out.own.frame2 hf7 (fun g hg e => by have h1 := HFix.out.hu g hg; have h2 := (HM.out.got.lt g e).1; omega)); have kA7 : AdjAt w7 B a' := hf7.blk HM.out.adj (fun e => own_blk_ne HM.out.got HM.out.adj (by decide) e); have HBel : Hid (Below w.heap.size w w7) := Lib.hid (below_of HM.out.bel hf7 (fun j e => by have h1 := HFix.out.h1; have h2 := (HM.out.got.lt j e).1; omega) HM.out.bel.size); have HSt : Hid (Calls Try.prog 16 #[.pointer (some ⟨B, 0, none⟩)] w7 fun e w' => e = .returned (.int .u8 3) ∧ w7 = w') := Lib.hid (by rw [← Hst.out]; exact state_yes w7 B a' kA7 HM.out.made); clear hown7 hg7 hat7 hf7 kA7)
          go_wp2_with (first
            | (go_at_call 16; refine HSt.out.mono ?_; rintro e w' ⟨rfl, rfl⟩)
            | (go_at_call 17; refine (eqHeads_same w7 _ _ U HGot.out HOw.out (by omega)).mono ?_; rintro e w8 ⟨rfl, hb8⟩)
            | (go_at_call 11; refine (works_any _).mono ?_; rintro e w9 ⟨rfl, hb9⟩))
          go_ret
          exact ⟨rfl, (HBel.out.trans (hb8.mono HBel.out.size)).trans (hb9.mono (Nat.le_trans HBel.out.size hb8.size))⟩
        · have HGG := Lib.hid hG
          have Hst := Lib.hid hst
          have Hc2 := Lib.hid hc
          have hbd : i + 1 ≤ 5 := by rcases hc.bound with e | e <;> omega
          clear hG hst hc
          go_upto_region 23 with (at_builtin; refine wpList_append_any _ rfl (.tmp 72) (.tmp 77) _ rfl w3.heap.size 59 i0 _ 8 20 Try.underlying22 hi hz0 hz1 hz2 rfl (by omega) (.slice GA gn Gc) gn ((U.take (16 * i)).flatMap hcells) rfl HM.out.got wc.heap.size HA0 Gn Hc (G.flatMap hcells) rfl HRd2.out hcells_one h63 hby hba ?_; intro v7 w7 hown7 hg7 hat7; obtain ⟨A7, c7, hv7⟩ := own_slice hown7; subst hv7; have HI : Hid (ChInv false w w3.heap.size B m w1.heap.size U (.slice UA un Uc) w7 a' (i + 1) (.slice A7 (gn + Gn) c7) (gn + Gn) fl sq) := Lib.hid (HM.out.next HFix.out Hc2.out Hst.out HGG.out (by rw [HGn.out]) hown7 hg7 hat7); have HSt : Hid (Calls Try.prog 16 #[.pointer (some ⟨B, 0, none⟩)] w7 fun e w' => e = .returned (.int .u8 1) ∧ w7 = w') := Lib.hid (by rw [← Hst.out]; exact state_yes w7 B a' HI.out.ch.wants.adj HM.out.made); clear hown7 hg7 hat7)
          have hgn' : gn + Gn ≤ 60 := by
            have := HI.out.glen
            rw [List.length_take] at this
            omega
          have s2 : w7.cell? ⟨w1.heap.size, 2, none⟩ = some (.int .u8 fl) := HI.out.p.cell 2
          have s3 : w7.cell? ⟨w1.heap.size, 3, none⟩ = some (.int .u32 sq) := HI.out.p.cell 3
          have fp := HI.out.p.frozen
          go_wp2_with (go_at_call 16; refine HSt.out.mono ?_; rintro e w' ⟨rfl, rfl⟩)
          go_roundw
          case rel =>
            refine ⟨i + 1, (gn + Gn), c7, A7, a', 1, _, hbd, by go_num, rfl, hgn', ?_, ?_, Lib.hid ?_, Lib.hid (by rw [if_neg (by omega)]), Lib.hid (HI.out.setp HFix.out (by omega) (((Frame.refl _ _).setB 2 _).setB 3 _) ((HI.out.p.set_ 2 _).set_ 3 _))⟩
            · have := HSq.out; omega
            · have := HSq.out; omega
            · have := HSq.out; omega
          case measure => simp [intOf]; omega
end Go.Proofs.Ytgbmhijgpdgdbaa
