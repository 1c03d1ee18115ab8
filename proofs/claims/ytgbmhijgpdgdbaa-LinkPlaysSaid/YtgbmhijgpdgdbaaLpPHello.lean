/- The program's link: what it tells. -/
import Derived.Test.YtgbmhijgpdgdbaaLpPAt
set_option maxHeartbeats 4000000
set_option maxRecDepth 100000
namespace Go.Proofs.Ytgbmhijgpdgdbaa
open Go.RowKit Go.Shelf
attribute [local go_sem] Oper.semAt_some
def roOf (pre : List (Nat × Kn)) : List Value := pre.map fun x => Value.int .u32 x.2.ro
theorem roOf_len (pre : List (Nat × Kn)) : (roOf pre).length = pre.length := by unfold roOf; rw [List.length_map]
theorem nb_of {xs : List (Nat × Kn)} {l : List Kn} (h : xs.map (·.2) = l) : roOf (xs.filter fun x => Pl.heard x.2) = ((l.filter Pl.heard).map (·.ro)).map (Value.int .u32) := by
  subst h
  unfold roOf
  rw [List.filter_map, List.map_map, List.map_map]
  rfl
theorem hello1_is (w : World) (K : Nat) (k : Kn) (h : Blk w K 139 k.cells) : Calls Try.prog 108 (#[.pointer (some ⟨K, 0, none⟩)] ++ #[]) w fun e w' => e = .returned (.bool (Pl.heard k)) ∧ ∃ q, w' = w.drewN q :=
  (hello1_any w K k.st (h.cell 2)).mono fun _ _ h => ⟨h.1, 0, h.2.symm⟩
section
variable {lo : Nat} {w : World} {B : Nat} {c : LC} {s : Pl.St} {A : Option Addr} {cap : Nat} {xs : List (Nat × Kn)}
theorem phello_f (h : PAt lo w B c s A cap xs) (hlen : xs.length ≤ 60000) (hn0 : 0 ≤ c.nb) (hn1 : c.nb ≤ 32) (hdm : c.dm = false) : Calls Try.prog 74 #[.pointer (some ⟨B, 0, none⟩)] w fun e w' => RHel c s w e w' := by
  have H := Lib.hid h
  have H_dm := Lib.hid hdm
  have H_op : Hid (optV c = c.op) := Lib.hid (by unfold optV; rw [hdm]; rfl)
  have c1 : w.cell? ⟨B, 1, none⟩ = some (.int .u8 c.ty) := h.b.cell 1
  have c4 : w.cell? ⟨B, 4, none⟩ = some (.int .u8 c.nb) := h.b.cell 4
  have c6 : w.cell? ⟨B, 6, none⟩ = some (.int .u8 c.op) := h.b.cell 6
  have c7 : w.cell? ⟨B, 7, none⟩ = some (.int .u16 c.hi) := h.b.cell 7
  have c8 : w.cell? ⟨B, 8, none⟩ = some (.int .u32 c.dd) := h.b.cell 8
  have c10 : w.cell? ⟨B, 10, none⟩ = some (.int .u8 c.pr) := h.b.cell 10
  have c11 : w.cell? ⟨B, 11, none⟩ = some (.bool false) := (h.b.cell 11).trans (by rw [← hdm]; rfl)
  have c16 : w.cell? ⟨B, 16, none⟩ = some (.int .u32 s.dr) := h.b.cell 16
  have c17 : w.cell? ⟨B, 17, none⟩ = some (.int .u32 s.bd) := h.b.cell 17
  have hlt : B < w.heap.size := h.b.lt
  clear h hdm
  refine (callsIn_wide (n := 3)).1 ?_
  refine callsIn_of_wp_marks Try.func74 rfl trivial ?_ rfl
  rw [wpIn_wide]
  simp only [Try.ntmps74, List.size_toArray, List.length_cons, List.length_nil, Nat.reduceAdd, Nat.reduceSub, Array.replicate_succ, Array.replicate_zero, List.push_toArray, List.append_toArray, List.nil_append, List.cons_append]
  go_wp2_with fail
  go_cut [3] from 5 to 35 (fun p3 wx => ∃ H : Nat, p3 = .pointer (some ⟨H, 0, none⟩) ∧ Hid (Blk wx H 90 #[.int .u32 (lmaskV c), .int .u16 c.hi, .int .u8 c.op, .int .u8 c.pr, .int .u32 c.dd, .int .u32 s.dr, .int .u32 s.bd, .slice none 0 0]) ∧ Hid (w.heap.size < H) ∧ Hid (Below (w.heap.size + 1) (w.alloc (.cells #[.int .u32 0, .int .u16 0, .int .u8 0, .int .u8 0, .int .u32 0, .int .u32 0, .int .u32 0, .slice none 0 0] 90)) wx))
  case first =>
    go_region_held3 (fun w' => w'.cell? ⟨B, 1, none⟩ = some (.int .u8 c.ty) ∧ w'.cell? ⟨B, 4, none⟩ = some (.int .u8 c.nb) ∧ w'.cell? ⟨B, 6, none⟩ = some (.int .u8 c.op) ∧ w'.cell? ⟨B, 7, none⟩ = some (.int .u16 c.hi) ∧ w'.cell? ⟨B, 8, none⟩ = some (.int .u32 c.dd) ∧ w'.cell? ⟨B, 10, none⟩ = some (.int .u8 c.pr) ∧ w'.cell? ⟨B, 16, none⟩ = some (.int .u32 s.dr) ∧ w'.cell? ⟨B, 17, none⟩ = some (.int .u32 s.bd))
      (go_keep)
      ((go_at_call 107; refine (mask_lks' _ _ c (lks c s.st s.dr s.bd s.wt s.nx s.po s.re (.slice A xs.length cap)) (by first | with_reducible exact (H.out.b.alloc _).drew | with_reducible exact ((H.out.b.alloc _).alloc _).drew) rfl rfl hn0 hn1).mono ?_; rintro e w' ⟨rfl, rfl⟩))
    all_goals clear c1 c4 c6 c7 c8 c10 c16 c17
    all_goals
      go_wp2_with fail
      go_meet
      case rel =>
        refine ⟨_, rfl, Lib.hid ?_, Lib.hid (by omega), Lib.hid ?_⟩
        · have := (Blk.new (w.alloc (.cells #[.int .u32 0, .int .u16 0, .int .u8 0, .int .u8 0, .int .u32 0, .int .u32 0, .int .u32 0, .slice none 0 0] 90)) 90 #[.int .u32 (lmaskV c), .int .u16 c.hi, .int .u8 c.op, .int .u8 c.pr, .int .u32 c.dd, .int .u32 s.dr, .int .u32 s.bd, .slice none 0 0]).drew
          rw [World.size_alloc] at this
          exact this
        · exact ((Below.refl _ _).alloc (by simp) _).drew
  obtain ⟨H', rfl, hH, hHl, hb⟩ := hcut
  have hbw : Below w.heap.size w wc := ((Below.refl _ w).alloc (Nat.le_refl _) _).trans (hb.out.mono (by omega))
  have KR := Lib.hid ((Blk.new w 90 #[.int .u32 0, .int .u16 0, .int .u8 0, .int .u8 0, .int .u32 0, .int .u32 0, .int .u32 0, .slice none 0 0]).below hb.out (by omega))
  clear c1 c4 c6 c7 c8 c10 c16 c17 c11
  have c11 : wc.cell? ⟨B, 11, none⟩ = some (.bool false) := ((H.out.b.below hbw hlt).cell 11).trans (by rw [← H_dm.out]; rfl)
  have hlt2 : B < wc.heap.size := (H.out.b.below hbw hlt).lt
  have HbW := Lib.hid hbw
  have hHlt := hH.out.lt
  clear hbw hb
  go_upto_region 4 with fail
  obtain ⟨wd, hwd⟩ : ∃ wd, wd = wc := ⟨_, rfl⟩
  have KH2 : Hid (Blk wd H' 90 #[.int .u32 (lmaskV c), .int .u16 c.hi, .int .u8 c.op, .int .u8 c.pr, .int .u32 c.dd, .int .u32 s.dr, .int .u32 s.bd, .slice none 0 0]) := Lib.hid (by rw [hwd]; exact hH.out)
  have KR2 : Hid (Blk wd w.heap.size 90 #[.int .u32 0, .int .u16 0, .int .u8 0, .int .u8 0, .int .u32 0, .int .u32 0, .int .u32 0, .slice none 0 0]) := Lib.hid (by rw [hwd]; exact KR.out)
  have HbW2 : Hid (Below w.heap.size w wd) := Lib.hid (by rw [hwd]; exact HbW.out)
  rw [← hwd]
  clear hwd c11 hH KR HbW hHlt hlt2
  go_wp2_with fail
  refine (all_made _ _ _ ⟨_, rfl⟩ ⟨_, _, _, rfl⟩).mono ?_
  rintro e w2 ⟨rfl, hb2, g1, g2⟩
  have h2l : wd.heap.size + 1 < w2.heap.size := lt_of_cell g2
  have hHd : H' < wd.heap.size := KH2.out.lt
  have hwH : w.heap.size < H' := hHl.out
  have KH := Lib.hid (KH2.out.below hb2 hHd)
  have KR := Lib.hid (KR2.out.below hb2 KR2.out.lt)
  have HB2 := Lib.hid (HbW2.out.trans (hb2.mono HbW2.out.size))
  have hBw : B < w.heap.size := hlt
  clear hb2 KH2 KR2 HbW2 hHl
  go_wp2_with fail
  obtain ⟨i0, hi, hz0', hz1, hz2⟩ := info_parts word_info
  obtain ⟨mk, hmk⟩ : ∃ mk : Value → Array Value, mk = fun v => #[.int .u32 (lmaskV c), .int .u16 c.hi, .int .u8 c.op, .int .u8 c.pr, .int .u32 c.dd, .int .u32 s.dr, .int .u32 s.bd, v] := ⟨_, rfl⟩
  have HMk := Lib.hid hmk
  clear hmk
  obtain ⟨I, hI⟩ : ∃ I : List (Nat × Kn) → World → Prop, I = fun pre W => Acc w2 H' 90 mk 25 1 pre.length (roOf pre) W := ⟨_, rfl⟩
  have HI := Lib.hid hI
  clear hI
  have hIo : OwnFrom w2.heap.size I := by rw [HI.out]; exact Acc.own (fun pre : List (Nat × Kn) => pre.length) roOf
  have hI0 : I [] w2 := by rw [HI.out]; exact ⟨Frame.refl _ _, .slice none 0 0, by rw [HMk.out]; exact KH.out, World.ownsRow_nil _ _ _ _⟩
  have hIf : ∀ pre W, I pre W → Frame (fun i => (w.heap.size ≤ i ∧ i < wd.heap.size) ∨ ∃ x ∈ xs, x.1 = i) w2 W := by
    intro pre W hi
    rw [HI.out] at hi
    exact hi.f.mono (fun i e => .inl (by omega))
  have hseq := seq_hello 2 (by omega) w2 I (·.1) (fun x => Pl.heard x.2) B wd.heap.size (wd.heap.size + 1) xs A cap (leans_mk H.out (by omega) HB2.out (by omega) g1 g2 hIf (fun k x W hx hi => by
    have hm := List.mem_of_getElem? hx
    rw [HI.out] at hi
    exact hello1_is W x.1 x.2 (hi.f.blk ((H.out.k x hm).1.below HB2.out (H.out.k x hm).1.lt) (by have := (H.out.k x hm).1.lt; omega))))
  rw [← wpIn_wide (n := 3)]
  refine wpIn_rangeFunc_I (n := 3) (by omega) rfl trivial enters_all1 hseq (fun _ => rfl) hIo (Ix := fun _ _ => False) (fun _ _ _ _ hs _ _ => hs) hI0 ?a₁ ?assign ?body ?done (fun _ _ _ _ _ h _ => h.elim)
  case assign =>
    intro l x W K hK
    gi_wp2
    exact hK
  case body =>
    rintro l pre x W hIx ⟨k0, hx0, hisx, hpre, _⟩
    have hxm := List.mem_of_getElem? hx0
    have hpl : pre.length ≤ 60000 := by rw [hpre]; exact Nat.le_trans (List.length_filter_le _ _) (by rw [List.length_take]; omega)
    clear hpre
    rw [HI.out] at hIx
    obtain ⟨hf, v, hx, hown⟩ := hIx
    obtain ⟨va, vm, rfl⟩ := own_slice hown
    have HF := Lib.hid hf
    have HX := Lib.hid hx
    have HOwn := Lib.hid hown
    have x0 : W.cell? ⟨x.1, 0, none⟩ = some (.int .u32 x.2.ro) := fcell hf ((HB2.out.cell (p := ⟨x.1, 0, none⟩) (H.out.k x hxm).1.lt).trans (H.out.kn hxm 0 _ rfl)) (by have := (H.out.k x hxm).1.lt; omega)
    have xo : W.cell? ⟨H', 7, none⟩ = some (.slice va pre.length vm) := by rw [hx.cell 7, HMk.out]; rfl
    have hHW : H' < W.heap.size := by have := hf.size; omega
    have hsW0 : w2.heap.size ≤ W.heap.size := hf.size
    clear hx hown hf
    gi_wp2_with fail
    refine wpIn_region_late1 (C := fun w' => ∃ u : Later W.heap.size W, w' = u.to) (.pointer (some ⟨H', 7, none⟩)) (.slice va pre.length vm) 7 8 (by kernel_rfl) (by kernel_rfl) (by kernel_rfl) (fun ⟨_, _, h⟩ => h) (fun _ _ _ h => h) (fun _ _ _ h => h) (.inl ⟨rfl, fun w' => ?_⟩) ⟨rfl, ?_⟩ ⟨⟨W.drew, (Below.refl _ W).drew⟩, rfl⟩ ?_
    · simp [go_sem]
    · rintro w' ⟨u, rfl⟩
      have hu := (u.ok.cell (p := ⟨H', 7, none⟩) hHW).trans xo
      simp [go_sem, Act.put, hu]
    simp only [List.take_succ_cons, List.take_zero, List.drop_succ_cons, List.drop_zero, Nat.reduceSub]
    have hxu := later_cell (show (⟨x.1, 0, none⟩ : Addr).block < W.heap.size from lt_of_cell x0) x0
    simp only [Act.put, List.setIfInBounds_toArray, List.set_cons_succ, List.set_cons_zero]
    repeat (go_big_quiet_step (fail))
    refine wpQuiet_nil ?_
    rintro wx ⟨⟨wy, hwy⟩, hwe⟩
    obtain rfl : wx = wy := hwe
    refine wpListK_step rfl rfl ?_
    simp [Oper.wp, Oper.upon, go_sem]
    refine ⟨⟨⟨_, hwy.alloc hwy.size _⟩, rfl⟩, ?_⟩
    refine wpListK_of_list _ 8 _ _ (Nat.le_refl _) (fun j => match j with
      | 0 => rfl
      | 1 => rfl
      | 2 => rfl
      | j + 3 => by simp; omega) ?_
    obtain ⟨wz, hwz⟩ : ∃ wz, wz = wx.alloc (.cells #[.int .u32 x.2.ro] 25) := ⟨_, rfl⟩
    have HLit := Lib.hid (Reads.of_own (World.ownsRow_lit (base := 0) (e := 25) (size := 1) wx #[.int .u32 x.2.ro] 1 (Nat.zero_le _) (by simp [maxLen]) rfl))
    rw [← hwz] at HLit
    rw [← hwz]
    have hwW : Below W.heap.size W wz := by rw [hwz]; exact hwy.alloc hwy.size _
    have hownz : wz.ownsRow w2.heap.size 25 1 (.slice va pre.length vm) pre.length (roOf pre) := (Frame.of_below (S := fun _ => False) hwW).own HOwn.out (fun _ _ e => e)
    have hsW : W.heap.size ≤ wz.heap.size := hwW.size
    refine wpList_append_any _ rfl (.tmp 49) (.tmp 55) _ rfl w2.heap.size 25 i0 _ 1 4 Try.underlying88 hi hz0' hz1 hz2 rfl (by omega) (.slice va pre.length vm) pre.length _ rfl hownz _ (some ⟨wx.heap.size, 0, none⟩) 1 1 _ rfl HLit.out (by simp [Value.oneCell']) (by unfold maxLen; omega) (by omega) (by omega) ?_
    intro v1 w4 hown1 hg1 _
    have hne : (Value.slice va pre.length vm).ownBlock ≠ some H' := fun e => by have := (own_cells hownz H' e).1; omega
    have hX4 : Blk w4 H' 90 (mk (.slice va pre.length vm)) := (HX.out.below hwW hHW).grown hg1 hne.symm
    have hX40 : w4.cell? ⟨H', 7, none⟩ = some (.slice va pre.length vm) := by rw [hX4.cell 7, HMk.out]; rfl
    have hfz4 := hX4.frozen 7
    have hlt4 := hX4.lt
    obtain ⟨vb, vn, rfl⟩ := own_slice hown1
    have HOwn1 := Lib.hid hown1
    have HG1 := Lib.hid hg1
    have HX4 := Lib.hid hX4
    have HWW := Lib.hid hwW
    have HOz := Lib.hid hownz
    clear hown1 hg1 hne hX4 hwW hownz xo x0 hxu hwy hwz
    go_wp2_with fail
    have hX5 : Blk (w4.setCell ⟨H', 7, none⟩ (.slice vb (pre.length + 1) vn)) H' 90 (mk (.slice vb (pre.length + 1) vn)) := by
      have h := HX4.out.set_ 7 (.slice vb (pre.length + 1) vn)
      rw [HMk.out] at h ⊢
      exact h
    refine ⟨?_, ?_⟩
    · refine (below_others HWW.out).trans ((KeepsOthers.of_grownBy HG1.out ?_).trans (KeepsOthers.setCell _ _ _))
      intro j o e hj
      obtain ⟨_, cs, hc⟩ := own_cells HOz.out j e
      rw [hc] at hj
      cases hj
      rfl
    · rw [HI.out]
      have hF : Frame (fun j => (Value.slice va pre.length vm).ownBlock = some j ∨ j = H') W (w4.setCell ⟨H', 7, none⟩ (.slice vb (pre.length + 1) vn)) := ((Frame.of_below HWW.out).trans (Frame.of_grown HG1.out (fun j e _ => .inl e))).setCell (p := ⟨H', 7, none⟩) (fun _ => .inr rfl) _
      refine ⟨HF.out.trans' hF (fun i hi e => ?_), .slice vb (pre.length + 1) vn, hX5, ?_⟩
      · rcases e with e | e
        · have := (own_cells HOz.out i e).1
          omega
        · exact e
      · rw [List.length_append, show roOf (pre ++ [x]) = roOf pre ++ [.int .u32 x.2.ro] from by unfold roOf; rw [List.map_append]; rfl]
        exact own_far HOwn1.out (q := ⟨H', 7, none⟩) (fun e => by have : w2.heap.size ≤ H' := (own_cells HOwn1.out _ e).1; omega) _
  case done =>
    intro D ys W hD hys hIx hK
    rw [HI.out] at hIx
    obtain ⟨hf, v, hx, hown⟩ := hIx
    have hrows : roOf ys = ((s.l.filter Pl.heard).map (·.ro)).map (Value.int .u32) := by rw [hys]; exact nb_of H.out.l
    obtain ⟨va, vm, rfl⟩ := own_slice hown
    obtain ⟨q, hq⟩ : ∃ q, q = ys.length := ⟨_, rfl⟩
    have hq2 : (Pl.hel c s).nb.length = q := by
      show ((s.l.filter Pl.heard).map (·.ro)).length = q
      rw [hq, ← roOf_len ys, hrows, List.length_map (f := Value.int .u32)]
    rw [hrows, ← hq] at hown
    rw [← hq] at hx
    rw [HMk.out] at hx
    have HD := Lib.hid hx
    have RD := Lib.hid (hf.blk KR.out (by omega))
    have HBD : Hid (Below w.heap.size w W) := Lib.hid (below_fr HB2.out hf (fun i e => by omega) (by omega))
    have HOwn := Lib.hid hown
    have HK := Lib.hid hK
    have Hq2 := Lib.hid hq2
    have hsz : w2.heap.size ≤ W.heap.size := hf.size
    have y0 : W.cell? ⟨H', 0, none⟩ = some (.int .u32 (lmaskV c)) := HD.out.cell 0
    have y1 : W.cell? ⟨H', 1, none⟩ = some (.int .u16 c.hi) := HD.out.cell 1
    have y2 : W.cell? ⟨H', 2, none⟩ = some (.int .u8 c.op) := HD.out.cell 2
    have y3 : W.cell? ⟨H', 3, none⟩ = some (.int .u8 c.pr) := HD.out.cell 3
    have y4 : W.cell? ⟨H', 4, none⟩ = some (.int .u32 c.dd) := HD.out.cell 4
    have y5 : W.cell? ⟨H', 5, none⟩ = some (.int .u32 s.dr) := HD.out.cell 5
    have y6 : W.cell? ⟨H', 6, none⟩ = some (.int .u32 s.bd) := HD.out.cell 6
    have y7 : W.cell? ⟨H', 7, none⟩ = some (.slice va q vm) := HD.out.cell 7
    have z0 : W.cell? ⟨w.heap.size, 0, none⟩ = some (.int .u32 0) := RD.out.cell 0
    have z1 : W.cell? ⟨w.heap.size, 1, none⟩ = some (.int .u16 0) := RD.out.cell 1
    have z2 : W.cell? ⟨w.heap.size, 2, none⟩ = some (.int .u8 0) := RD.out.cell 2
    have z3 : W.cell? ⟨w.heap.size, 3, none⟩ = some (.int .u8 0) := RD.out.cell 3
    have z4 : W.cell? ⟨w.heap.size, 4, none⟩ = some (.int .u32 0) := RD.out.cell 4
    have z5 : W.cell? ⟨w.heap.size, 5, none⟩ = some (.int .u32 0) := RD.out.cell 5
    have z6 : W.cell? ⟨w.heap.size, 6, none⟩ = some (.int .u32 0) := RD.out.cell 6
    have z7 : W.cell? ⟨w.heap.size, 7, none⟩ = some (.slice none 0 0) := RD.out.cell 7
    have fz := RD.out.frozen
    have hws : w.heap.size < W.heap.size := by omega
    clear hrows hq hx hown hys hK hf hq2
    dsimp only
    go_wp2_with fail
    obtain ⟨W2, hW2⟩ : ∃ W2, W2 = (((((((W.setCell ⟨w.heap.size, 0, none⟩ (.int .u32 (lmaskV c))).setCell ⟨w.heap.size, 1, none⟩ (.int .u16 c.hi)).setCell ⟨w.heap.size, 2, none⟩ (.int .u8 c.op)).setCell ⟨w.heap.size, 3, none⟩ (.int .u8 c.pr)).setCell ⟨w.heap.size, 4, none⟩ (.int .u32 c.dd)).setCell ⟨w.heap.size, 5, none⟩ (.int .u32 s.dr)).setCell ⟨w.heap.size, 6, none⟩ (.int .u32 s.bd)).setCell ⟨w.heap.size, 7, none⟩ (.slice va q vm) := ⟨_, rfl⟩
    rw [← hW2]
    obtain ⟨k8, b8⟩ := set8r (N := w.heap.size) (v0 := .int .u32 (lmaskV c)) (v1 := .int .u16 c.hi) (v2 := .int .u8 c.op) (v3 := .int .u8 c.pr) (v4 := .int .u32 c.dd) (v5 := .int .u32 s.dr) (v6 := .int .u32 s.bd) (v7 := .slice va q vm) RD.out HBD.out (Nat.le_refl _)
    rw [← hW2] at k8 b8
    have hDw : w.heap.size < D := by omega
    have hK2 : W2.heap[D]? = some (.deferred (some [])) := by
      rw [hW2]
      rw [heap_far _ _ hDw, heap_far _ _ hDw, heap_far _ _ hDw, heap_far _ _ hDw, heap_far _ _ hDw, heap_far _ _ hDw, heap_far _ _ hDw, heap_far _ _ hDw]
      exact HK.out
    have hf8 : Frame (fun j => j = w.heap.size) W W2 := by
      rw [hW2]
      exact ((((((((Frame.refl _ W).setB 0 _).setB 1 _).setB 2 _).setB 3 _).setB 4 _).setB 5 _).setB 6 _).setB 7 _
    have ho8 := hf8.own HOwn.out (fun g hg e => by have := (own_cells HOwn.out g hg).1; omega)
    have ho9 := (Frame.of_grown (S := fun k => k = D) (grownBy_putObj' W2 D (.deferred none)) (fun k e _ => (Option.some.inj e).symm)).own ho8 (fun g hg e => by
      obtain ⟨_, cs, h3⟩ := own_cells ho8 g hg
      rw [e, hK2] at h3
      cases h3)
    refine ⟨by simp, .inl ⟨_, _, rfl, run_takeDeferred hK2, ?_⟩⟩
    have k9 := k8.grown (grownBy_putObj' W2 D (.deferred none)) (by simp; omega)
    have u0 := (k9.cell 0).trans rfl
    have u1 := (k9.cell 1).trans rfl
    have u2 := (k9.cell 2).trans rfl
    have u3 := (k9.cell 3).trans rfl
    have u4 := (k9.cell 4).trans rfl
    have u5 := (k9.cell 5).trans rfl
    have u6 := (k9.cell 6).trans rfl
    have u7 := (k9.cell 7).trans rfl
    refine ⟨hval (Pl.hel c s) (.slice va q vm), ?_, ⟨.slice va q vm, rfl, ?_, b8.trans (below_put hK2 (by omega))⟩⟩
    · simp [results, Try.f74, go_sem, hval, Pl.hel, H_op.out, u0, u1, u2, u3, u4, u5, u6, u7]
    · rw [Hq2.out]
      exact ownsRow_lower ho9 (by have := HB2.out.size; omega)
theorem phello_t (h : PAt lo w B c s A cap xs) (hlen : xs.length ≤ 60000) (hn0 : 0 ≤ c.nb) (hn1 : c.nb ≤ 32) (hdm : c.dm = true) : Calls Try.prog 74 #[.pointer (some ⟨B, 0, none⟩)] w fun e w' => RHel c s w e w' := by
  have H := Lib.hid h
  have H_dm := Lib.hid hdm
  have H_op : Hid (optV c = (bits .or .u8 c.op 32)) := Lib.hid (by unfold optV; rw [hdm]; rfl)
  have c1 : w.cell? ⟨B, 1, none⟩ = some (.int .u8 c.ty) := h.b.cell 1
  have c4 : w.cell? ⟨B, 4, none⟩ = some (.int .u8 c.nb) := h.b.cell 4
  have c6 : w.cell? ⟨B, 6, none⟩ = some (.int .u8 c.op) := h.b.cell 6
  have c7 : w.cell? ⟨B, 7, none⟩ = some (.int .u16 c.hi) := h.b.cell 7
  have c8 : w.cell? ⟨B, 8, none⟩ = some (.int .u32 c.dd) := h.b.cell 8
  have c10 : w.cell? ⟨B, 10, none⟩ = some (.int .u8 c.pr) := h.b.cell 10
  have c11 : w.cell? ⟨B, 11, none⟩ = some (.bool true) := (h.b.cell 11).trans (by rw [← hdm]; rfl)
  have c16 : w.cell? ⟨B, 16, none⟩ = some (.int .u32 s.dr) := h.b.cell 16
  have c17 : w.cell? ⟨B, 17, none⟩ = some (.int .u32 s.bd) := h.b.cell 17
  have hlt : B < w.heap.size := h.b.lt
  clear h hdm
  refine (callsIn_wide (n := 3)).1 ?_
  refine callsIn_of_wp_marks Try.func74 rfl trivial ?_ rfl
  rw [wpIn_wide]
  simp only [Try.ntmps74, List.size_toArray, List.length_cons, List.length_nil, Nat.reduceAdd, Nat.reduceSub, Array.replicate_succ, Array.replicate_zero, List.push_toArray, List.append_toArray, List.nil_append, List.cons_append]
  go_wp2_with fail
  go_cut [3] from 5 to 35 (fun p3 wx => ∃ H : Nat, p3 = .pointer (some ⟨H, 0, none⟩) ∧ Hid (Blk wx H 90 #[.int .u32 (lmaskV c), .int .u16 c.hi, .int .u8 c.op, .int .u8 c.pr, .int .u32 c.dd, .int .u32 s.dr, .int .u32 s.bd, .slice none 0 0]) ∧ Hid (w.heap.size < H) ∧ Hid (Below (w.heap.size + 1) (w.alloc (.cells #[.int .u32 0, .int .u16 0, .int .u8 0, .int .u8 0, .int .u32 0, .int .u32 0, .int .u32 0, .slice none 0 0] 90)) wx))
  case first =>
    go_region_held3 (fun w' => w'.cell? ⟨B, 1, none⟩ = some (.int .u8 c.ty) ∧ w'.cell? ⟨B, 4, none⟩ = some (.int .u8 c.nb) ∧ w'.cell? ⟨B, 6, none⟩ = some (.int .u8 c.op) ∧ w'.cell? ⟨B, 7, none⟩ = some (.int .u16 c.hi) ∧ w'.cell? ⟨B, 8, none⟩ = some (.int .u32 c.dd) ∧ w'.cell? ⟨B, 10, none⟩ = some (.int .u8 c.pr) ∧ w'.cell? ⟨B, 16, none⟩ = some (.int .u32 s.dr) ∧ w'.cell? ⟨B, 17, none⟩ = some (.int .u32 s.bd))
      (go_keep)
      ((go_at_call 107; refine (mask_lks' _ _ c (lks c s.st s.dr s.bd s.wt s.nx s.po s.re (.slice A xs.length cap)) (by first | with_reducible exact (H.out.b.alloc _).drew | with_reducible exact ((H.out.b.alloc _).alloc _).drew) rfl rfl hn0 hn1).mono ?_; rintro e w' ⟨rfl, rfl⟩))
    all_goals clear c1 c4 c6 c7 c8 c10 c16 c17
    all_goals
      go_wp2_with fail
      go_meet
      case rel =>
        refine ⟨_, rfl, Lib.hid ?_, Lib.hid (by omega), Lib.hid ?_⟩
        · have := (Blk.new (w.alloc (.cells #[.int .u32 0, .int .u16 0, .int .u8 0, .int .u8 0, .int .u32 0, .int .u32 0, .int .u32 0, .slice none 0 0] 90)) 90 #[.int .u32 (lmaskV c), .int .u16 c.hi, .int .u8 c.op, .int .u8 c.pr, .int .u32 c.dd, .int .u32 s.dr, .int .u32 s.bd, .slice none 0 0]).drew
          rw [World.size_alloc] at this
          exact this
        · exact ((Below.refl _ _).alloc (by simp) _).drew
  obtain ⟨H', rfl, hH, hHl, hb⟩ := hcut
  have hbw : Below w.heap.size w wc := ((Below.refl _ w).alloc (Nat.le_refl _) _).trans (hb.out.mono (by omega))
  have KR := Lib.hid ((Blk.new w 90 #[.int .u32 0, .int .u16 0, .int .u8 0, .int .u8 0, .int .u32 0, .int .u32 0, .int .u32 0, .slice none 0 0]).below hb.out (by omega))
  clear c1 c4 c6 c7 c8 c10 c16 c17 c11
  have c11 : wc.cell? ⟨B, 11, none⟩ = some (.bool true) := ((H.out.b.below hbw hlt).cell 11).trans (by rw [← H_dm.out]; rfl)
  have hlt2 : B < wc.heap.size := (H.out.b.below hbw hlt).lt
  have HbW := Lib.hid hbw
  have hHlt := hH.out.lt
  have g2 : wc.cell? ⟨H', 2, none⟩ = some (.int .u8 c.op) := hH.out.cell 2
  have fH := hH.out.frozen
  clear hbw hb
  go_upto_region 4 with fail
  obtain ⟨wd, hwd⟩ : ∃ wd, wd = wc.setCell ⟨H', 2, none⟩ (.int .u8 (bits .or .u8 c.op 32)) := ⟨_, rfl⟩
  have KH2 : Hid (Blk wd H' 90 #[.int .u32 (lmaskV c), .int .u16 c.hi, .int .u8 (bits .or .u8 c.op 32), .int .u8 c.pr, .int .u32 c.dd, .int .u32 s.dr, .int .u32 s.bd, .slice none 0 0]) := Lib.hid (by rw [hwd]; exact hH.out.set_ 2 _)
  have KR2 : Hid (Blk wd w.heap.size 90 #[.int .u32 0, .int .u16 0, .int .u8 0, .int .u8 0, .int .u32 0, .int .u32 0, .int .u32 0, .slice none 0 0]) := Lib.hid (by rw [hwd]; exact KR.out.far (by have := hHl.out; show w.heap.size ≠ H'; omega) _)
  have HbW2 : Hid (Below w.heap.size w wd) := Lib.hid (by rw [hwd]; exact HbW.out.setCell (p := ⟨H', 2, none⟩) (by have := hHl.out; show w.heap.size ≤ H'; omega) _)
  rw [← hwd]
  clear hwd c11 hH KR HbW g2 fH hHlt hlt2
  go_wp2_with fail
  refine (all_made _ _ _ ⟨_, rfl⟩ ⟨_, _, _, rfl⟩).mono ?_
  rintro e w2 ⟨rfl, hb2, g1, g2⟩
  have h2l : wd.heap.size + 1 < w2.heap.size := lt_of_cell g2
  have hHd : H' < wd.heap.size := KH2.out.lt
  have hwH : w.heap.size < H' := hHl.out
  have KH := Lib.hid (KH2.out.below hb2 hHd)
  have KR := Lib.hid (KR2.out.below hb2 KR2.out.lt)
  have HB2 := Lib.hid (HbW2.out.trans (hb2.mono HbW2.out.size))
  have hBw : B < w.heap.size := hlt
  clear hb2 KH2 KR2 HbW2 hHl
  go_wp2_with fail
  obtain ⟨i0, hi, hz0', hz1, hz2⟩ := info_parts word_info
  obtain ⟨mk, hmk⟩ : ∃ mk : Value → Array Value, mk = fun v => #[.int .u32 (lmaskV c), .int .u16 c.hi, .int .u8 (bits .or .u8 c.op 32), .int .u8 c.pr, .int .u32 c.dd, .int .u32 s.dr, .int .u32 s.bd, v] := ⟨_, rfl⟩
  have HMk := Lib.hid hmk
  clear hmk
  obtain ⟨I, hI⟩ : ∃ I : List (Nat × Kn) → World → Prop, I = fun pre W => Acc w2 H' 90 mk 25 1 pre.length (roOf pre) W := ⟨_, rfl⟩
  have HI := Lib.hid hI
  clear hI
  have hIo : OwnFrom w2.heap.size I := by rw [HI.out]; exact Acc.own (fun pre : List (Nat × Kn) => pre.length) roOf
  have hI0 : I [] w2 := by rw [HI.out]; exact ⟨Frame.refl _ _, .slice none 0 0, by rw [HMk.out]; exact KH.out, World.ownsRow_nil _ _ _ _⟩
  have hIf : ∀ pre W, I pre W → Frame (fun i => (w.heap.size ≤ i ∧ i < wd.heap.size) ∨ ∃ x ∈ xs, x.1 = i) w2 W := by
    intro pre W hi
    rw [HI.out] at hi
    exact hi.f.mono (fun i e => .inl (by omega))
  have hseq := seq_hello 2 (by omega) w2 I (·.1) (fun x => Pl.heard x.2) B wd.heap.size (wd.heap.size + 1) xs A cap (leans_mk H.out (by omega) HB2.out (by omega) g1 g2 hIf (fun k x W hx hi => by
    have hm := List.mem_of_getElem? hx
    rw [HI.out] at hi
    exact hello1_is W x.1 x.2 (hi.f.blk ((H.out.k x hm).1.below HB2.out (H.out.k x hm).1.lt) (by have := (H.out.k x hm).1.lt; omega))))
  rw [← wpIn_wide (n := 3)]
  refine wpIn_rangeFunc_I (n := 3) (by omega) rfl trivial enters_all1 hseq (fun _ => rfl) hIo (Ix := fun _ _ => False) (fun _ _ _ _ hs _ _ => hs) hI0 ?a₁ ?assign ?body ?done (fun _ _ _ _ _ h _ => h.elim)
  case assign =>
    intro l x W K hK
    gi_wp2
    exact hK
  case body =>
    rintro l pre x W hIx ⟨k0, hx0, hisx, hpre, _⟩
    have hxm := List.mem_of_getElem? hx0
    have hpl : pre.length ≤ 60000 := by rw [hpre]; exact Nat.le_trans (List.length_filter_le _ _) (by rw [List.length_take]; omega)
    clear hpre
    rw [HI.out] at hIx
    obtain ⟨hf, v, hx, hown⟩ := hIx
    obtain ⟨va, vm, rfl⟩ := own_slice hown
    have HF := Lib.hid hf
    have HX := Lib.hid hx
    have HOwn := Lib.hid hown
    have x0 : W.cell? ⟨x.1, 0, none⟩ = some (.int .u32 x.2.ro) := fcell hf ((HB2.out.cell (p := ⟨x.1, 0, none⟩) (H.out.k x hxm).1.lt).trans (H.out.kn hxm 0 _ rfl)) (by have := (H.out.k x hxm).1.lt; omega)
    have xo : W.cell? ⟨H', 7, none⟩ = some (.slice va pre.length vm) := by rw [hx.cell 7, HMk.out]; rfl
    have hHW : H' < W.heap.size := by have := hf.size; omega
    have hsW0 : w2.heap.size ≤ W.heap.size := hf.size
    clear hx hown hf
    gi_wp2_with fail
    refine wpIn_region_late1 (C := fun w' => ∃ u : Later W.heap.size W, w' = u.to) (.pointer (some ⟨H', 7, none⟩)) (.slice va pre.length vm) 7 8 (by kernel_rfl) (by kernel_rfl) (by kernel_rfl) (fun ⟨_, _, h⟩ => h) (fun _ _ _ h => h) (fun _ _ _ h => h) (.inl ⟨rfl, fun w' => ?_⟩) ⟨rfl, ?_⟩ ⟨⟨W.drew, (Below.refl _ W).drew⟩, rfl⟩ ?_
    · simp [go_sem]
    · rintro w' ⟨u, rfl⟩
      have hu := (u.ok.cell (p := ⟨H', 7, none⟩) hHW).trans xo
      simp [go_sem, Act.put, hu]
    simp only [List.take_succ_cons, List.take_zero, List.drop_succ_cons, List.drop_zero, Nat.reduceSub]
    have hxu := later_cell (show (⟨x.1, 0, none⟩ : Addr).block < W.heap.size from lt_of_cell x0) x0
    simp only [Act.put, List.setIfInBounds_toArray, List.set_cons_succ, List.set_cons_zero]
    repeat (go_big_quiet_step (fail))
    refine wpQuiet_nil ?_
    rintro wx ⟨⟨wy, hwy⟩, hwe⟩
    obtain rfl : wx = wy := hwe
    refine wpListK_step rfl rfl ?_
    simp [Oper.wp, Oper.upon, go_sem]
    refine ⟨⟨⟨_, hwy.alloc hwy.size _⟩, rfl⟩, ?_⟩
    refine wpListK_of_list _ 8 _ _ (Nat.le_refl _) (fun j => match j with
      | 0 => rfl
      | 1 => rfl
      | 2 => rfl
      | j + 3 => by simp; omega) ?_
    obtain ⟨wz, hwz⟩ : ∃ wz, wz = wx.alloc (.cells #[.int .u32 x.2.ro] 25) := ⟨_, rfl⟩
    have HLit := Lib.hid (Reads.of_own (World.ownsRow_lit (base := 0) (e := 25) (size := 1) wx #[.int .u32 x.2.ro] 1 (Nat.zero_le _) (by simp [maxLen]) rfl))
    rw [← hwz] at HLit
    rw [← hwz]
    have hwW : Below W.heap.size W wz := by rw [hwz]; exact hwy.alloc hwy.size _
    have hownz : wz.ownsRow w2.heap.size 25 1 (.slice va pre.length vm) pre.length (roOf pre) := (Frame.of_below (S := fun _ => False) hwW).own HOwn.out (fun _ _ e => e)
    have hsW : W.heap.size ≤ wz.heap.size := hwW.size
    refine wpList_append_any _ rfl (.tmp 49) (.tmp 55) _ rfl w2.heap.size 25 i0 _ 1 4 Try.underlying88 hi hz0' hz1 hz2 rfl (by omega) (.slice va pre.length vm) pre.length _ rfl hownz _ (some ⟨wx.heap.size, 0, none⟩) 1 1 _ rfl HLit.out (by simp [Value.oneCell']) (by unfold maxLen; omega) (by omega) (by omega) ?_
    intro v1 w4 hown1 hg1 _
    have hne : (Value.slice va pre.length vm).ownBlock ≠ some H' := fun e => by have := (own_cells hownz H' e).1; omega
    have hX4 : Blk w4 H' 90 (mk (.slice va pre.length vm)) := (HX.out.below hwW hHW).grown hg1 hne.symm
    have hX40 : w4.cell? ⟨H', 7, none⟩ = some (.slice va pre.length vm) := by rw [hX4.cell 7, HMk.out]; rfl
    have hfz4 := hX4.frozen 7
    have hlt4 := hX4.lt
    obtain ⟨vb, vn, rfl⟩ := own_slice hown1
    have HOwn1 := Lib.hid hown1
    have HG1 := Lib.hid hg1
    have HX4 := Lib.hid hX4
    have HWW := Lib.hid hwW
    have HOz := Lib.hid hownz
    clear hown1 hg1 hne hX4 hwW hownz xo x0 hxu hwy hwz
    go_wp2_with fail
    have hX5 : Blk (w4.setCell ⟨H', 7, none⟩ (.slice vb (pre.length + 1) vn)) H' 90 (mk (.slice vb (pre.length + 1) vn)) := by
      have h := HX4.out.set_ 7 (.slice vb (pre.length + 1) vn)
      rw [HMk.out] at h ⊢
      exact h
    refine ⟨?_, ?_⟩
    · refine (below_others HWW.out).trans ((KeepsOthers.of_grownBy HG1.out ?_).trans (KeepsOthers.setCell _ _ _))
      intro j o e hj
      obtain ⟨_, cs, hc⟩ := own_cells HOz.out j e
      rw [hc] at hj
      cases hj
      rfl
    · rw [HI.out]
      have hF : Frame (fun j => (Value.slice va pre.length vm).ownBlock = some j ∨ j = H') W (w4.setCell ⟨H', 7, none⟩ (.slice vb (pre.length + 1) vn)) := ((Frame.of_below HWW.out).trans (Frame.of_grown HG1.out (fun j e _ => .inl e))).setCell (p := ⟨H', 7, none⟩) (fun _ => .inr rfl) _
      refine ⟨HF.out.trans' hF (fun i hi e => ?_), .slice vb (pre.length + 1) vn, hX5, ?_⟩
      · rcases e with e | e
        · have := (own_cells HOz.out i e).1
          omega
        · exact e
      · rw [List.length_append, show roOf (pre ++ [x]) = roOf pre ++ [.int .u32 x.2.ro] from by unfold roOf; rw [List.map_append]; rfl]
        exact own_far HOwn1.out (q := ⟨H', 7, none⟩) (fun e => by have : w2.heap.size ≤ H' := (own_cells HOwn1.out _ e).1; omega) _
  case done =>
    intro D ys W hD hys hIx hK
    rw [HI.out] at hIx
    obtain ⟨hf, v, hx, hown⟩ := hIx
    have hrows : roOf ys = ((s.l.filter Pl.heard).map (·.ro)).map (Value.int .u32) := by rw [hys]; exact nb_of H.out.l
    obtain ⟨va, vm, rfl⟩ := own_slice hown
    obtain ⟨q, hq⟩ : ∃ q, q = ys.length := ⟨_, rfl⟩
    have hq2 : (Pl.hel c s).nb.length = q := by
      show ((s.l.filter Pl.heard).map (·.ro)).length = q
      rw [hq, ← roOf_len ys, hrows, List.length_map (f := Value.int .u32)]
    rw [hrows, ← hq] at hown
    rw [← hq] at hx
    rw [HMk.out] at hx
    have HD := Lib.hid hx
    have RD := Lib.hid (hf.blk KR.out (by omega))
    have HBD : Hid (Below w.heap.size w W) := Lib.hid (below_fr HB2.out hf (fun i e => by omega) (by omega))
    have HOwn := Lib.hid hown
    have HK := Lib.hid hK
    have Hq2 := Lib.hid hq2
    have hsz : w2.heap.size ≤ W.heap.size := hf.size
    have y0 : W.cell? ⟨H', 0, none⟩ = some (.int .u32 (lmaskV c)) := HD.out.cell 0
    have y1 : W.cell? ⟨H', 1, none⟩ = some (.int .u16 c.hi) := HD.out.cell 1
    have y2 : W.cell? ⟨H', 2, none⟩ = some (.int .u8 (bits .or .u8 c.op 32)) := HD.out.cell 2
    have y3 : W.cell? ⟨H', 3, none⟩ = some (.int .u8 c.pr) := HD.out.cell 3
    have y4 : W.cell? ⟨H', 4, none⟩ = some (.int .u32 c.dd) := HD.out.cell 4
    have y5 : W.cell? ⟨H', 5, none⟩ = some (.int .u32 s.dr) := HD.out.cell 5
    have y6 : W.cell? ⟨H', 6, none⟩ = some (.int .u32 s.bd) := HD.out.cell 6
    have y7 : W.cell? ⟨H', 7, none⟩ = some (.slice va q vm) := HD.out.cell 7
    have z0 : W.cell? ⟨w.heap.size, 0, none⟩ = some (.int .u32 0) := RD.out.cell 0
    have z1 : W.cell? ⟨w.heap.size, 1, none⟩ = some (.int .u16 0) := RD.out.cell 1
    have z2 : W.cell? ⟨w.heap.size, 2, none⟩ = some (.int .u8 0) := RD.out.cell 2
    have z3 : W.cell? ⟨w.heap.size, 3, none⟩ = some (.int .u8 0) := RD.out.cell 3
    have z4 : W.cell? ⟨w.heap.size, 4, none⟩ = some (.int .u32 0) := RD.out.cell 4
    have z5 : W.cell? ⟨w.heap.size, 5, none⟩ = some (.int .u32 0) := RD.out.cell 5
    have z6 : W.cell? ⟨w.heap.size, 6, none⟩ = some (.int .u32 0) := RD.out.cell 6
    have z7 : W.cell? ⟨w.heap.size, 7, none⟩ = some (.slice none 0 0) := RD.out.cell 7
    have fz := RD.out.frozen
    have hws : w.heap.size < W.heap.size := by omega
    clear hrows hq hx hown hys hK hf hq2
    dsimp only
    go_wp2_with fail
    obtain ⟨W2, hW2⟩ : ∃ W2, W2 = (((((((W.setCell ⟨w.heap.size, 0, none⟩ (.int .u32 (lmaskV c))).setCell ⟨w.heap.size, 1, none⟩ (.int .u16 c.hi)).setCell ⟨w.heap.size, 2, none⟩ (.int .u8 (bits .or .u8 c.op 32))).setCell ⟨w.heap.size, 3, none⟩ (.int .u8 c.pr)).setCell ⟨w.heap.size, 4, none⟩ (.int .u32 c.dd)).setCell ⟨w.heap.size, 5, none⟩ (.int .u32 s.dr)).setCell ⟨w.heap.size, 6, none⟩ (.int .u32 s.bd)).setCell ⟨w.heap.size, 7, none⟩ (.slice va q vm) := ⟨_, rfl⟩
    rw [← hW2]
    obtain ⟨k8, b8⟩ := set8r (N := w.heap.size) (v0 := .int .u32 (lmaskV c)) (v1 := .int .u16 c.hi) (v2 := .int .u8 (bits .or .u8 c.op 32)) (v3 := .int .u8 c.pr) (v4 := .int .u32 c.dd) (v5 := .int .u32 s.dr) (v6 := .int .u32 s.bd) (v7 := .slice va q vm) RD.out HBD.out (Nat.le_refl _)
    rw [← hW2] at k8 b8
    have hDw : w.heap.size < D := by omega
    have hK2 : W2.heap[D]? = some (.deferred (some [])) := by
      rw [hW2]
      rw [heap_far _ _ hDw, heap_far _ _ hDw, heap_far _ _ hDw, heap_far _ _ hDw, heap_far _ _ hDw, heap_far _ _ hDw, heap_far _ _ hDw, heap_far _ _ hDw]
      exact HK.out
    have hf8 : Frame (fun j => j = w.heap.size) W W2 := by
      rw [hW2]
      exact ((((((((Frame.refl _ W).setB 0 _).setB 1 _).setB 2 _).setB 3 _).setB 4 _).setB 5 _).setB 6 _).setB 7 _
    have ho8 := hf8.own HOwn.out (fun g hg e => by have := (own_cells HOwn.out g hg).1; omega)
    have ho9 := (Frame.of_grown (S := fun k => k = D) (grownBy_putObj' W2 D (.deferred none)) (fun k e _ => (Option.some.inj e).symm)).own ho8 (fun g hg e => by
      obtain ⟨_, cs, h3⟩ := own_cells ho8 g hg
      rw [e, hK2] at h3
      cases h3)
    refine ⟨by simp, .inl ⟨_, _, rfl, run_takeDeferred hK2, ?_⟩⟩
    have k9 := k8.grown (grownBy_putObj' W2 D (.deferred none)) (by simp; omega)
    have u0 := (k9.cell 0).trans rfl
    have u1 := (k9.cell 1).trans rfl
    have u2 := (k9.cell 2).trans rfl
    have u3 := (k9.cell 3).trans rfl
    have u4 := (k9.cell 4).trans rfl
    have u5 := (k9.cell 5).trans rfl
    have u6 := (k9.cell 6).trans rfl
    have u7 := (k9.cell 7).trans rfl
    refine ⟨hval (Pl.hel c s) (.slice va q vm), ?_, ⟨.slice va q vm, rfl, ?_, b8.trans (below_put hK2 (by omega))⟩⟩
    · simp [results, Try.f74, go_sem, hval, Pl.hel, H_op.out, u0, u1, u2, u3, u4, u5, u6, u7]
    · rw [Hq2.out]
      exact ownsRow_lower ho9 (by have := HB2.out.size; omega)
theorem phello (h : PAt lo w B c s A cap xs) (hlen : xs.length ≤ 60000) (hn0 : 0 ≤ c.nb) (hn1 : c.nb ≤ 32) : Calls Try.prog 74 #[.pointer (some ⟨B, 0, none⟩)] w fun e w' => RHel c s w e w' := by
  rcases hd : c.dm with _ | _
  · exact phello_f h hlen hn0 hn1 hd
  · exact phello_t h hlen hn0 hn1 hd
end
end Go.Proofs.Ytgbmhijgpdgdbaa
