/- The document's link: a neighbour is lost. -/
import Derived.Test.YtgbmhijgpdgdbaaLpPAt
import Derived.Test.YtgbmhijgpdgdbaaLpMxX
set_option maxHeartbeats 4000000
set_option maxRecDepth 20000
namespace Go.Proofs.Ytgbmhijgpdgdbaa
open Go.RowKit Go.Shelf
theorem rnb_info : (Try.prog.info? 157).map (fun i => (i.zero, i.size, i.bytes)) = some (some (.agg #[.int .u32 0, .int .u32 0, .int .u8 0, .int .u8 0, .int .u32 0, .int .u32 0, .int .u8 0, .int .u32 0, .bool false]), 9, 32) := by kernel_rfl
def butI (l : List Kn) (i k : Nat) : List Kn := (l.take k).eraseIdx i
theorem butI_no {l : List Kn} {i k : Nat} {x : Kn} (hx : l[k]? = some x) (h : k = i) : butI l i (k + 1) = butI l i k := by
  subst h
  have hk : k < l.length := (List.getElem?_eq_some_iff.1 hx).1
  have hl : (l.take k).length = k := by rw [List.length_take]; omega
  unfold butI
  have e2 : (l.take k).eraseIdx k = l.take k := List.eraseIdx_of_length_le (by omega)
  rw [List.take_add_one, hx, List.eraseIdx_append_of_length_le (by omega), hl, Nat.sub_self, e2]
  simp
theorem butI_yes {l : List Kn} {i k : Nat} {x : Kn} (hx : l[k]? = some x) (h : k ≠ i) : butI l i (k + 1) = butI l i k ++ [x] := by
  have hk : k < l.length := (List.getElem?_eq_some_iff.1 hx).1
  have hl : (l.take k).length = k := by rw [List.length_take]; omega
  unfold butI
  rw [List.take_add_one, hx]
  by_cases hi : i < k
  · rw [List.eraseIdx_append_of_lt_length (by omega)]; rfl
  · rw [List.eraseIdx_append_of_length_le (by omega), hl, List.eraseIdx_of_length_le (l := l.take k) (by omega), List.eraseIdx_of_length_le (by simp; omega)]; rfl
theorem butI_len (l : List Kn) (i k : Nat) : (butI l i k).length ≤ k := by
  unfold butI
  have := List.length_eraseIdx_le (l.take k) i
  rw [List.length_take] at this
  omega
theorem butI_all (l : List Kn) (i : Nat) : butI l i l.length = l.eraseIdx i := by unfold butI; rw [List.take_length]
def dropL (c : LC) (L : List (Int × Int)) (i : Nat) (l : List Kn) : List Kn := if c.peers then l.set i (Pl.gone (L.getD i (0, 0))) else l.eraseIdx i
section
variable {lo : Nat} {w : World} {R : Nat} {c : LC} {s : Pl.St} {v : Value} {L : List (Int × Int)}
theorem rdrop_any (h : RAt lo w R c s v) (hpe : PeersAt w lo c.pe L) (hn : s.l.length ≤ 60000) (i : Nat) (hi : i < s.l.length) (hL : c.peers = true → s.l.length = L.length) :
    Calls Try.prog 116 #[.pointer (some ⟨R, 0, none⟩), .int .i64 i] w fun e w' => e = .returned (.tuple #[]) ∧ ∃ v', RAt lo w' R c { s with l := dropL c L i s.l } v' ∧ RFr lo w w' := by
  obtain ⟨A, cp, rfl⟩ := own_slice h.o
  obtain ⟨PA, pcap, hpe1, hpe2⟩ := hpe
  obtain ⟨n, hn'⟩ : ∃ n, s.l.length = n := ⟨_, rfl⟩
  have H : Hid (RAt lo w R c s (.slice A n cp)) := Lib.hid (by rw [← hn']; exact h)
  have Hn := Lib.hid hn'
  have HPe := Lib.hid hpe1
  have HPr := Lib.hid hpe2
  have HL := Lib.hid hL
  have HP : Hid (Calls Try.prog 62 #[.agg #[.int .u8 c.ty, .int .u32 c.ro, .int .u32 c.na, .int .u8 c.nb, .int .u32 c.ad, .int .u8 c.op, .int .u16 c.hi, .int .u32 c.dd, .int .u16 c.po, .int .u8 c.pr, .bool c.dm, .bool c.ps, c.pe, .int .u32 c.rm]] w fun e w' => e = .returned (.bool c.peers) ∧ Below w.heap.size w w') := Lib.hid (rpeers_any c w)
  have c0 : w.cell? ⟨R, 0, none⟩ = some (.int .u8 c.ty) := H.out.b.cell 0
  have c1 : w.cell? ⟨R, 1, none⟩ = some (.int .u32 c.ro) := H.out.b.cell 1
  have c2 : w.cell? ⟨R, 2, none⟩ = some (.int .u32 c.na) := H.out.b.cell 2
  have c3 : w.cell? ⟨R, 3, none⟩ = some (.int .u8 c.nb) := H.out.b.cell 3
  have c4 : w.cell? ⟨R, 4, none⟩ = some (.int .u32 c.ad) := H.out.b.cell 4
  have c5 : w.cell? ⟨R, 5, none⟩ = some (.int .u8 c.op) := H.out.b.cell 5
  have c6 : w.cell? ⟨R, 6, none⟩ = some (.int .u16 c.hi) := H.out.b.cell 6
  have c7 : w.cell? ⟨R, 7, none⟩ = some (.int .u32 c.dd) := H.out.b.cell 7
  have c8 : w.cell? ⟨R, 8, none⟩ = some (.int .u16 c.po) := H.out.b.cell 8
  have c9 : w.cell? ⟨R, 9, none⟩ = some (.int .u8 c.pr) := H.out.b.cell 9
  have c10 : w.cell? ⟨R, 10, none⟩ = some (.bool c.dm) := H.out.b.cell 10
  have c11 : w.cell? ⟨R, 11, none⟩ = some (.bool c.ps) := H.out.b.cell 11
  have c12 : w.cell? ⟨R, 12, none⟩ = some (c.pe) := H.out.b.cell 12
  have c13 : w.cell? ⟨R, 13, none⟩ = some (.int .u32 c.rm) := H.out.b.cell 13
  have hlt := H.out.b.lt
  rw [hn'] at hn hi
  clear h hn' hpe1 hpe2 hL
  obtain ⟨i0, hi0, hz0', hz1, hz2⟩ := info_parts rnb_info
  go_enter Try.func116, Try.ntmps116
  go_wp2_with fail
  refine HP.out.mono ?_
  rintro e w1 ⟨rfl, hb1⟩
  have H1 := Lib.hid (H.out.below hb1)
  have HB1 := Lib.hid hb1
  have HPr1 := Lib.hid (HPr.out.below (hb1.mono (by have := H.out.loR; have := H.out.b.lt; omega)))
  clear hb1 c0 c1 c2 c3 c4 c5 c6 c7 c8 c9 c10 c11 c12 c13 hlt
  have c12 : w1.cell? ⟨R, 12, none⟩ = some (.slice PA L.length pcap) := by have := H1.out.b.cell 12; rw [this]; exact congrArg some HPe.out
  have c21 : w1.cell? ⟨R, 21, none⟩ = some (.slice A n cp) := H1.out.b.cell 21
  have hlt := H1.out.b.lt
  rcases hp : c.peers with _ | _
  · have HD : Hid (dropL c L i s.l = s.l.eraseIdx i) := Lib.hid (by unfold dropL; rw [hp]; rfl)
    clear hp c12
    go_wp2_with fail
    go_loopw [5, 6] (fun ov x wr => ∃ k : Nat, k ≤ n ∧ x = .int .i64 k ∧ (∃ oa oc, ov = .slice oa (butI s.l i k).length oc ∧ Hid (wr.ownsRow w1.heap.size 157 9 (.slice oa (butI s.l i k).length oc) (butI s.l i k).length ((butI s.l i k).flatMap rcells))) ∧ Hid (Below w1.heap.size w1 wr)) (fun _ x _ => n - (intOf x).toNat)
    case atStart => exact ⟨0, Nat.zero_le _, rfl, ⟨none, 0, rfl, Lib.hid (World.ownsRow_nil _ _ _ _)⟩, Lib.hid (Below.refl _ _)⟩
    case round =>
      obtain ⟨k, hk, rfl, ⟨oa, oc, rfl, HS⟩, HB⟩ := hrel
      obtain ⟨m, hm⟩ : ∃ m, (butI s.l i k).length = m := ⟨_, rfl⟩
      have hmn : m ≤ k := by rw [← hm]; exact butI_len s.l i k
      have hS := HS.out
      rw [hm] at hS ⊢
      have HSm := Lib.hid hS
      have Hm := Lib.hid hm
      have HRr := Lib.hid (H1.out.below HB.out)
      have c21r : wr.cell? ⟨R, 21, none⟩ = some (.slice A n cp) := HRr.out.b.cell 21
      have hRl := HRr.out.b.lt
      have hfz := HRr.out.b.frozen
      clear hS hm HS c21
      by_cases hlt2 : k < n
      · obtain ⟨x, hx⟩ : ∃ x, s.l[k]? = some x := ⟨_, List.getElem?_eq_getElem (by rw [Hn.out]; exact hlt2)⟩
        obtain ⟨b, n', cap, e, hn2, hb, hc⟩ := HRr.out.o.knb hx
        cases e
        have q0 : wr.cell? ⟨b, k * 9, none⟩ = some (.int .u32 x.ro) := hc 0 _ rfl
        have q1 : wr.cell? ⟨b, k * 9 + 1, none⟩ = some (.int .u32 x.ad) := hc 1 _ rfl
        have q2 : wr.cell? ⟨b, k * 9 + 2, none⟩ = some (.int .u8 x.st) := hc 2 _ rfl
        have q3 : wr.cell? ⟨b, k * 9 + 3, none⟩ = some (.int .u8 x.pr) := hc 3 _ rfl
        have q4 : wr.cell? ⟨b, k * 9 + 4, none⟩ = some (.int .u32 x.dr) := hc 4 _ rfl
        have q5 : wr.cell? ⟨b, k * 9 + 5, none⟩ = some (.int .u32 x.bd) := hc 5 _ rfl
        have q6 : wr.cell? ⟨b, k * 9 + 6, none⟩ = some (.int .u8 x.op) := hc 6 _ rfl
        have q7 : wr.cell? ⟨b, k * 9 + 7, none⟩ = some (.int .u32 x.lf) := hc 7 _ rfl
        have q8 : wr.cell? ⟨b, k * 9 + 8, none⟩ = some (.bool x.fu) := hc 8 _ rfl
        have Hx := Lib.hid hx
        have hkn : (k : Int) < (n : Int) := by omega
        clear hx hn2 hc
        by_cases hki : k = i
        · have HN : Hid (butI s.l i (k + 1) = butI s.l i k) := Lib.hid (butI_no Hx.out hki)
          have e1 : ((k : Int) != (i : Int)) = false := by simp [hki]
          have HK := Lib.hid hki
          clear hki
          go_wp2_with fail
          go_roundw
          case rel => exact ⟨k + 1, by omega, by simp, ⟨oa, oc, by rw [HN.out, Hm.out], by rw [HN.out, Hm.out]; exact HSm⟩, HB⟩
          case measure => simp [intOf]; omega
        · have HN : Hid (butI s.l i (k + 1) = butI s.l i k ++ [x]) := Lib.hid (butI_yes Hx.out hki)
          have e1 : ((k : Int) != (i : Int)) = true := by simp; omega
          have hbase : w1.heap.size ≤ (wr.alloc (.cells #[.int .u32 x.ro, .int .u32 x.ad, .int .u8 x.st, .int .u8 x.pr, .int .u32 x.dr, .int .u32 x.bd, .int .u8 x.op, .int .u32 x.lf, .bool x.fu] 157)).heap.size := by have := HB.out.size; simp; omega
          have hSz := (Frame.of_below (S := fun _ => False) ((Below.refl _ wr).alloc (Nat.le_refl _) (.cells #[.int .u32 x.ro, .int .u32 x.ad, .int .u8 x.st, .int .u8 x.pr, .int .u32 x.dr, .int .u32 x.bd, .int .u8 x.op, .int .u32 x.lf, .bool x.fu] 157))).own HSm.out (fun _ _ e => e)
          have HSz := Lib.hid hSz
          have HK := Lib.hid hki
          clear hSz hki
          go_wp2_with (at_builtin; refine wpList_append_any _ rfl (.tmp 43) (.tmp 51) _ rfl w1.heap.size 157 i0 _ 9 32 Try.underlying146 hi0 hz0' hz1 hz2 rfl (by omega) (.slice oa m oc) m _ rfl HSz.out _ (some ⟨wr.heap.size, 0, none⟩) 1 1 _ rfl (Reads.of_own (World.ownsRow_lit (base := 0) (e := 157) (size := 9) wr #[.int .u32 x.ro, .int .u32 x.ad, .int .u8 x.st, .int .u8 x.pr, .int .u32 x.dr, .int .u32 x.bd, .int .u8 x.op, .int .u32 x.lf, .bool x.fu] 1 (Nat.zero_le _) (by simp [maxLen]) rfl)) (by simp [Value.oneCell']) (by unfold maxLen; omega) (by omega) hbase ?_; intro v1 w6 hown6 hg6 _; obtain ⟨vb, vn, rfl⟩ := own_slice hown6; have HOwn6 := Lib.hid hown6; have HG6 := Lib.hid hg6; clear hown6 hg6)
          go_roundw
          case rel =>
            refine ⟨k + 1, by omega, by simp, ⟨vb, vn, ?_, ?_⟩, Lib.hid ?_⟩
            · rw [HN.out, List.length_append, Hm.out]; rfl
            · rw [HN.out, List.length_append, Hm.out, List.flatMap_append]
              exact HOwn6
            · exact (HB.out.alloc HB.out.size _).grown HG6.out (by simp; have := HB.out.size; omega) (fun j e => (HSz.out.lt j e).1)
          case measure => simp [intOf]; omega
      · obtain rfl : k = n := by omega
        go_wp2_with fail
        obtain ⟨w7, hw7⟩ : ∃ w7, w7 = wr.setCell ⟨R, 21, none⟩ (.slice oa m oc) := ⟨_, rfl⟩
        have hK7 : RBlk w7 R c { s with l := s.l.eraseIdx i } (.slice oa m oc) := by rw [hw7]; exact HRr.out.b.set_ 21 _
        have hF7 : Frame (fun j => j = R) wr w7 := by rw [hw7]; exact (Frame.refl _ wr).setB 21 _
        rw [← hw7]
        have HK7 := Lib.hid hK7
        have HF7 := Lib.hid hF7
        clear hw7 hK7 hF7
        have HE : Hid (butI s.l i k = s.l.eraseIdx i) := Lib.hid (by rw [← butI_all s.l i, Hn.out])
        have HOO : Hid (ROwn lo w7 (.slice oa m oc) (s.l.eraseIdx i)) := Lib.hid (by
          have ho : wr.ownsRow w1.heap.size 157 9 (.slice oa m oc) m ((s.l.eraseIdx i).flatMap rcells) := by rw [← HE.out]; exact HSm.out
          have hm2 : (s.l.eraseIdx i).length = m := by rw [← HE.out]; exact Hm.out
          show w7.ownsRow lo _ 9 _ (s.l.eraseIdx i).length _
          rw [hm2]
          refine ownsRow_lower (HF7.out.own ho (fun g hg e => ?_)) (by have := H1.out.loR; have := H1.out.b.lt; omega)
          have := (ho.lt g hg).1
          have := H1.out.b.lt
          omega)
        try go_wp2_with fail
        refine bodyPost_end (v := .tuple #[]) (by simp [results, Try.results116, go_sem]) rfl ⟨rfl, _, by rw [HD.out]; exact ⟨HRr.out.loR, HK7.out, HOO.out⟩, ?_⟩
        exact (RFr.of_below HB1.out).trans ((RFr.of_below HB.out).trans (RFr.one HRr.out.b HRr.out.loR (.inl rfl) HF7.out))
  · obtain ⟨p, hpp⟩ : ∃ p, L[i]? = some p := ⟨_, List.getElem?_eq_getElem (by rw [← HL.out hp, Hn.out]; exact hi)⟩
    have hiL : i < L.length := (List.getElem?_eq_some_iff.1 hpp).1
    have HD : Hid (dropL c L i s.l = s.l.set i (Pl.gone p)) := Lib.hid (by unfold dropL; rw [hp, List.getD_eq_getElem?_getD, hpp]; rfl)
    obtain ⟨x, hx⟩ : ∃ x, s.l[i]? = some x := ⟨_, List.getElem?_eq_getElem (by rw [Hn.out]; exact hi)⟩
    obtain ⟨b, n', cap, e, hn2, hb, hc⟩ := H1.out.o.knb hx
    cases e
    obtain ⟨pb, po, hPA, hpb, hp0, hp1⟩ := HPr1.out.peer hpp
    subst hPA
    have hlow : lo ≤ w1.heap.size := by have := H1.out.loR; omega
    have hpb1 : pb < w1.heap.size := by omega
    have Hx := Lib.hid hx
    have hkn : (i : Int) < (n : Int) := by omega
    have hkL : (i : Int) < (L.length : Int) := by omega
    clear hp hpp hx hn2 hc
    go_upto_region 2 with fail
    obtain ⟨w2, hw2⟩ : ∃ w2, w2 = w1.alloc (.cells #[.int .u32 p.1, .int .u8 p.2] 132) := ⟨_, rfl⟩
    have hb2 : Below w1.heap.size w1 w2 := by rw [hw2]; exact (Below.refl _ w1).alloc (Nat.le_refl _) _
    have k2 : Blk w2 w1.heap.size 132 #[.int .u32 p.1, .int .u8 p.2] := by rw [hw2]; exact Blk.new w1 _ _
    rw [← hw2]
    have H2 := Lib.hid (H1.out.below hb2)
    have HB2 := Lib.hid hb2
    have d0 : w2.cell? ⟨w1.heap.size, 0, none⟩ = some (.int .u32 p.1) := k2.cell 0
    have d1 : w2.cell? ⟨w1.heap.size, 1, none⟩ = some (.int .u8 p.2) := k2.cell 1
    have d21 : w2.cell? ⟨R, 21, none⟩ = some (.slice (some ⟨b, 0, none⟩) n cp) := H2.out.b.cell 21
    have hR2 := H2.out.b.lt
    have hk2 := k2.lt
    clear hw2 hb2 k2 c12 c21 hp0 hp1
    refine wp_region_drawn_tail 11 (by kernel_rfl) (by kernel_rfl) ?_
    simp only [List.take_succ_cons, List.take_zero, List.drop_succ_cons, List.drop_zero]
    repeat (go_big_quiet_step (fail))
    refine wpQuiet_nil ?_
    rintro wq ⟨q, rfl⟩
    have H3 := Lib.hid (H2.out.below (drewQ w2 q))
    have hth : (w2.drewN q).there b (i * 9) 9 := fun j hj => by
      obtain ⟨b', n'', cap', e', _, _, hc⟩ := H3.out.o.knb Hx.out
      cases e'
      exact ⟨by rw [hc j _ (List.getElem?_eq_getElem (show j < (rcells x).length from hj))]; rfl, H3.out.o.frozen.1 _⟩
    refine wpList_store_mid rfl _ (.tmp 30) (.tmp 29) rfl b (i * 9) (rcells (Pl.gone p)).toArray rfl rfl hth (by kernel_rfl) (by simp [rcells, Value.oneCell']) ?_
    obtain ⟨w4, hw4⟩ : ∃ w4, w4 = (w2.drewN q).setCells b (i * 9) (rcells (Pl.gone p)).toArray.toList := ⟨_, rfl⟩
    have ho4 : ROwn lo w4 (.slice (some ⟨b, 0, none⟩) (s.l.set i (Pl.gone p)).length cp) (s.l.set i (Pl.gone p)) := by
      rw [hw4, List.length_set]
      have := H3.out.o
      rw [← Hn.out] at this
      exact this.setKn Hx.out (Pl.gone p)
    have hF4 : Frame (fun j => j = b) (w2.drewN q) w4 := by rw [hw4]; exact Frame.setAll _ _ _ _ (Frame.refl _ _)
    have hbR : b ≠ R := H3.out.row_ne
    rw [← hw4]
    have hk4 : RBlk w4 R c { s with l := s.l.set i (Pl.gone p) } (.slice (some ⟨b, 0, none⟩) n cp) := hF4.blk H3.out.b (Ne.symm hbR)
    have HO4 := Lib.hid ho4
    have HF4 := Lib.hid hF4
    have HK4 := Lib.hid hk4
    clear hw4 ho4 hF4 hk4 hth d0 d1 d21
    go_wp2_with fail
    refine bodyPost_ret (results_none rfl _ _ _) rfl ?_
    refine ⟨rfl, .slice (some ⟨b, 0, none⟩) n cp, ?_, ?_⟩
    · rw [HD.out]
      refine ⟨H3.out.loR, HK4.out, ?_⟩
      have := HO4.out
      rw [List.length_set, Hn.out] at this
      exact this
    · exact (RFr.of_below HB1.out).trans ((RFr.of_below HB2.out).trans ((RFr.of_below (drewQ w2 q)).trans (RFr.ofRow H3.out.o HF4.out)))
end
end Go.Proofs.Ytgbmhijgpdgdbaa
