/- The program's link: an election. -/
import Derived.Test.YtgbmhijgpdgdbaaLpPRound
import Derived.Test.YtgbmhijgpdgdbaaLpRefElect
set_option maxHeartbeats 8000000
set_option maxRecDepth 100000
namespace Go.Proofs.Ytgbmhijgpdgdbaa
open Go.RowKit Go.Shelf
attribute [local go_sem] Oper.semAt_some
theorem nodup_before {xs : List (Nat × Kn)} (h : (xs.map (·.1)).Nodup) {k : Nat} {x : Nat × Kn} (hx : xs[k]? = some x) : ∀ y ∈ xs.take k, y.1 ≠ x.1 := by
  intro y hy e
  obtain ⟨j, hj, rfl⟩ := List.mem_take_iff_getElem.1 hy
  obtain ⟨hk, rfl⟩ := List.getElem?_eq_some_iff.1 hx
  have hjk : j < k := by omega
  have h1 := List.pairwise_iff_getElem.1 h j k (by rw [List.length_map]; omega) (by rw [List.length_map]; omega) hjk
  rw [List.getElem_map, List.getElem_map] at h1
  exact h1 e
def vcOf (pre : List (Nat × Kn)) : List Value := pre.flatMap fun x => Ev.cells (Pl.voice x.2)
theorem vc_eq {xs : List (Nat × Kn)} {l : List Kn} (h : xs.map (·.2) = l) : vcOf (xs.filter fun x => Pl.two x.2) = ((l.filter Pl.two).map Pl.voice).flatMap Ev.cells := by
  subst h
  unfold vcOf
  rw [List.filter_map, List.map_map, List.flatMap_map]
  rfl
theorem vc_len {xs : List (Nat × Kn)} {l : List Kn} (h : xs.map (·.2) = l) : (xs.filter fun x => Pl.two x.2).length = ((l.filter Pl.two).map Pl.voice).length := by
  subst h
  rw [List.filter_map, List.map_map, List.length_map]
  rfl
section
variable {lo : Nat} {w w' : World} {B : Nat} {c : LC} {s s' : Pl.St} {A : Option Addr} {cap : Nat} {xs : List (Nat × Kn)}
theorem PAt.upd (h : PAt lo w B c s A cap xs) (f : Kn → Kn) (hb : Blk w' B 119 (lks c s'.st s'.dr s'.bd s'.wt s'.nx s'.po s'.re (.slice A xs.length cap))) (ho : PRow w' lo A xs.length cap (kptrs xs))
    (hk : ∀ x ∈ xs, Blk w' x.1 139 (f x.2).cells) (hl : s'.l = s.l.map f) : PAt lo w' B c s' A cap (xs.map fun x => (x.1, f x.2)) := by
  have hp : kptrs (xs.map fun x => (x.1, f x.2)) = kptrs xs := by
    unfold kptrs
    rw [List.map_map]
    rfl
  refine ⟨h.loB, by rw [List.length_map]; exact hb, by rw [List.length_map, hp]; exact ho, fun y hy => ?_, ?_, ?_⟩
  · obtain ⟨x, hx, rfl⟩ := List.mem_map.1 hy
    exact ⟨hk x hx, (h.k x hx).2⟩
  · rw [List.map_map]
    exact h.nd
  · rw [hl, ← h.l, List.map_map, List.map_map]
    rfl
theorem PAt.lfr (h : PAt lo w B c s A cap xs) (hf : Frame (fun j => j = B ∨ ∃ x ∈ xs, x.1 = j) w w') : LFr lo w w' := hf.mono fun j e => by
  rcases e with rfl | ⟨x, hx, rfl⟩
  · exact ⟨h.loB, _, _, h.b, .inl rfl⟩
  · exact ⟨(h.k x hx).2, _, _, (h.k x hx).1, .inr (.inr rfl)⟩
theorem PAt.rowFr {S : Nat → Prop} (h : PAt lo w B c s A cap xs) (hf : Frame S w w') (hL : ∀ L, A = some ⟨L, 0, none⟩ → ¬ S L) : PRow w' lo A xs.length cap (kptrs xs) := h.o.fr hf hL
theorem PAt.rowTy (h : PAt lo w B c s A cap xs) {L : Nat} (hL : A = some ⟨L, 0, none⟩) : ∃ cur, Blk w L 137 cur := h.o.ty hL
def wokeI (c : LC) (w7 : World) (xs : List (Nat × Kn)) (pre : List (Nat × Kn)) (W : World) : Prop :=
  (∀ x ∈ pre, x ∈ xs) ∧ Frame (fun i => ∃ x ∈ pre, x.1 = i) w7 W ∧ ∀ x ∈ pre, Blk W x.1 139 (updK c x.2).cells
theorem wokeI_own (c : LC) (w7 : World) (xs : List (Nat × Kn)) : OwnFrom w7.heap.size (wokeI c w7 xs) := by
  rintro pre W W' row ⟨h1, hf, hk⟩ hg hr
  exact ⟨h1, frame_own hf hg hr, fun x hx => blk_own (hk x hx) hg (fun r e => (hr r e).2)⟩
theorem pelect (h : PAt lo w B c s A cap xs) (hlen : xs.length ≤ 60000) :
    Calls Try.prog 76 #[.pointer (some ⟨B, 0, none⟩)] w fun e w' => e = .returned (.tuple #[]) ∧ ∃ xs', PAt lo w' B c (Pl.elect c s) A cap xs' ∧ LFr lo w w' := by
  have H := Lib.hid h
  have K := Lib.hid h.b
  have hlt : B < w.heap.size := h.b.lt
  clear h
  refine (callsIn_wide (n := 3)).1 ?_
  refine callsIn_of_wp_marks Try.func76 rfl trivial ?_ rfl
  rw [wpIn_wide]
  simp only [Try.ntmps76, List.size_toArray, List.length_cons, List.length_nil, Nat.reduceAdd, Nat.reduceSub, Array.replicate_succ, Array.replicate_zero, List.push_toArray, List.append_toArray, List.nil_append, List.cons_append]
  go_upto_region 1 with fail
  obtain ⟨W0, hW0⟩ : ∃ W0, W0 = w.alloc (.cells #[.pointer (some ⟨B, 0, none⟩)] 78) := ⟨_, rfl⟩
  have A0 : Hid (Blk W0 w.heap.size 78 #[.pointer (some ⟨B, 0, none⟩)]) := Lib.hid (by rw [hW0]; exact Blk.new w _ _)
  have B0 : Hid (Below w.heap.size w W0) := Lib.hid (by rw [hW0]; exact (Below.refl _ w).alloc (Nat.le_refl _) _)
  have K0 := Lib.hid (K.out.below B0.out hlt)
  have hs0 : w.heap.size < W0.heap.size := A0.out.lt
  rw [← hW0]
  clear hW0
  have p0 : W0.cell? ⟨w.heap.size, 0, none⟩ = some (.pointer (some ⟨B, 0, none⟩)) := A0.out.cell 0
  have e2 : W0.cell? ⟨B, 2, none⟩ = some (.int .u32 c.ro) := K0.out.cell 2
  have e5 : W0.cell? ⟨B, 5, none⟩ = some (.int .u32 c.ad) := K0.out.cell 5
  have e10 : W0.cell? ⟨B, 10, none⟩ = some (.int .u8 c.pr) := K0.out.cell 10
  have e16 : W0.cell? ⟨B, 16, none⟩ = some (.int .u32 s.dr) := K0.out.cell 16
  have e17 : W0.cell? ⟨B, 17, none⟩ = some (.int .u32 s.bd) := K0.out.cell 17
  have hl0 : B < W0.heap.size := K0.out.lt
  go_cut [2] from 6 to 29 (fun p2 wx => ∃ S : Nat, p2 = .pointer (some ⟨S, 0, none⟩) ∧ Blk wx S 178 #[.int .u32 c.ro, .int .u32 c.ad, .int .u8 c.pr, .int .u32 s.dr, .int .u32 s.bd] ∧ w.heap.size < S ∧ Below W0.heap.size W0 wx)
  case first =>
    go_region_held3 (fun w' => w'.cell? ⟨w.heap.size, 0, none⟩ = some (.pointer (some ⟨B, 0, none⟩)) ∧ w'.cell? ⟨B, 2, none⟩ = some (.int .u32 c.ro) ∧ w'.cell? ⟨B, 5, none⟩ = some (.int .u32 c.ad) ∧ w'.cell? ⟨B, 10, none⟩ = some (.int .u8 c.pr) ∧ w'.cell? ⟨B, 16, none⟩ = some (.int .u32 s.dr) ∧ w'.cell? ⟨B, 17, none⟩ = some (.int .u32 s.bd)) (go_keep) (fail)
    all_goals clear e2 e5 e10 e16 e17
    all_goals
      go_wp2_with fail
      go_meet
      case rel =>
        refine ⟨_, rfl, ?_, by omega, ?_⟩
        · exact (Blk.new W0 178 #[.int .u32 c.ro, .int .u32 c.ad, .int .u8 c.pr, .int .u32 s.dr, .int .u32 s.bd]).drew
        · exact ((Below.refl _ W0).alloc (Nat.le_refl _) _).drew
  obtain ⟨S, rfl, hS, hSl, hb0⟩ := hcut
  have A1 := Lib.hid (A0.out.below hb0 A0.out.lt)
  have S1 := Lib.hid hS
  have B1 := Lib.hid (B0.out.trans (hb0.mono B0.out.size))
  have hsc : S < wc.heap.size := hS.lt
  clear p0 e2 e5 e10 e16 e17 hl0 hS hb0 K0
  go_upto_region 3 with fail
  obtain ⟨wd, hwd⟩ : ∃ wd, wd = wc.alloc (.cells #[.slice none 0 0] 179) := ⟨_, rfl⟩
  have A2 : Hid (Blk wd w.heap.size 78 #[.pointer (some ⟨B, 0, none⟩)]) := Lib.hid (by rw [hwd]; exact A1.out.alloc _)
  have S2 : Hid (Blk wd S 178 #[.int .u32 c.ro, .int .u32 c.ad, .int .u8 c.pr, .int .u32 s.dr, .int .u32 s.bd]) := Lib.hid (by rw [hwd]; exact S1.out.alloc _)
  have O2 : Hid (Blk wd wc.heap.size 179 #[.slice none 0 0]) := Lib.hid (by rw [hwd]; exact Blk.new wc _ _)
  have B2 : Hid (Below w.heap.size w wd) := Lib.hid (by rw [hwd]; exact B1.out.alloc B1.out.size _)
  have hOl : wc.heap.size < wd.heap.size := O2.out.lt
  rw [← hwd]
  clear hwd
  obtain ⟨O, hO⟩ : ∃ O, O = wc.heap.size := ⟨_, rfl⟩
  rw [← hO] at O2 hOl hsc
  rw [← hO]
  clear hO
  have p0 : wd.cell? ⟨w.heap.size, 0, none⟩ = some (.pointer (some ⟨B, 0, none⟩)) := A2.out.cell 0
  go_wp2_with fail
  refine (all_made _ _ _ ⟨_, rfl⟩ ⟨_, _, _, rfl⟩).mono ?_
  rintro e w2 ⟨rfl, hb2, g1, g2⟩
  have h2l : wd.heap.size + 1 < w2.heap.size := lt_of_cell g2
  have A3 := Lib.hid (A2.out.below hb2 A2.out.lt)
  have S3 := Lib.hid (S2.out.below hb2 S2.out.lt)
  have O3 := Lib.hid (O2.out.below hb2 O2.out.lt)
  have B3 := Lib.hid (B2.out.trans (hb2.mono B2.out.size))
  clear hb2 p0 A0 B0 A1 S1 B1 A2 S2 O2 B2
  have hsw2 : w.heap.size ≤ w2.heap.size := B3.out.size
  obtain ⟨i0, hi, hz0, hz1, hz2⟩ := info_parts Ev.voice_info
  have hlO : O < w2.heap.size := O3.out.lt
  obtain ⟨I, hI⟩ : ∃ I : List (Nat × Kn) → World → Prop, I = fun pre W => Acc w2 O 179 (fun v => #[v]) 178 5 pre.length (vcOf pre) W := ⟨_, rfl⟩
  have HI := Lib.hid hI
  clear hI
  have hIo : OwnFrom w2.heap.size I := by rw [HI.out]; exact Acc.own (fun pre : List (Nat × Kn) => pre.length) vcOf
  have hI0 : I [] w2 := by rw [HI.out]; exact ⟨Frame.refl _ _, .slice none 0 0, O3.out, World.ownsRow_nil _ _ _ _⟩
  have hIf : ∀ pre W, I pre W → Frame (fun i => (w.heap.size ≤ i ∧ i < wd.heap.size) ∨ ∃ x ∈ xs, x.1 = i) w2 W := by
    intro pre W hi
    rw [HI.out] at hi
    exact hi.f.mono (fun i e => .inl (by omega))
  have hseq := seq_elect1 2 (by omega) w2 I (·.1) (fun x => Pl.two x.2) B wd.heap.size (wd.heap.size + 1) xs A cap (leans_mk H.out (by omega) B3.out (by omega) g1 g2 hIf (fun k x W hx hi => by
    have hm := List.mem_of_getElem? hx
    rw [HI.out] at hi
    exact (elect1_any W x.1 _ ((hi.f.blk ((H.out.k x hm).1.below B3.out (H.out.k x hm).1.lt) (by have := (H.out.k x hm).1.lt; omega)).cell 2)).mono fun _ _ h => ⟨h.1, 0, h.2.symm⟩))
  go_wp2_with fail
  rw [← wpIn_wide (n := 3)]
  refine wpIn_rangeFunc_I (n := 3) (by omega) rfl trivial enters_all1 hseq (fun _ => rfl) hIo (Ix := fun _ _ => False) (fun _ _ _ _ hs _ _ => hs) hI0 ?a₁ ?assign ?body ?done (fun _ _ _ _ _ h _ => h.elim)
  case assign =>
    intro l x W K hK
    gi_wp2
    exact hK
  case body =>
    rintro l pre x W hIx ⟨k0, hx0, hisx, hpre, _⟩
    have hxm := List.mem_of_getElem? hx0
    have hpl : pre.length ≤ 60000 := by rw [hpre]; exact Nat.le_trans (List.length_filter_le _ _) (by rw [List.length_take]; omega)
    clear hpre
    rw [HI.out] at hIx
    obtain ⟨hf, v, hx, hown⟩ := hIx
    obtain ⟨va, vm, rfl⟩ := own_slice hown
    have hxl := (H.out.k x hxm).1.lt
    have HF := Lib.hid hf
    have HX := Lib.hid hx
    have HOwn := Lib.hid hown
    have hrd : ∀ (j : Nat) (u : Value), x.2.cells[j]? = some u → W.cell? ⟨x.1, j, none⟩ = some u := fun j u hu => fcell hf ((B3.out.cell (p := ⟨x.1, j, none⟩) hxl).trans (H.out.kn hxm j u hu)) (by omega)
    have x0 : W.cell? ⟨x.1, 0, none⟩ = some (.int .u32 x.2.ro) := hrd 0 _ rfl
    have x1 : W.cell? ⟨x.1, 1, none⟩ = some (.int .u32 x.2.ad) := hrd 1 _ rfl
    have x3 : W.cell? ⟨x.1, 3, none⟩ = some (.int .u8 x.2.pr) := hrd 3 _ rfl
    have x4 : W.cell? ⟨x.1, 4, none⟩ = some (.int .u32 x.2.dr) := hrd 4 _ rfl
    have x5 : W.cell? ⟨x.1, 5, none⟩ = some (.int .u32 x.2.bd) := hrd 5 _ rfl
    have xo : W.cell? ⟨O, 0, none⟩ = some (.slice va pre.length vm) := hx.cell 0
    have hsW0 : w2.heap.size ≤ W.heap.size := hf.size
    have hOW : O < W.heap.size := by omega
    clear hx hown hf hrd
    gi_wp2_with fail
    refine wpIn_region_late (C := fun w' => ∃ u : Later W.heap.size W, w' = u.to) (.slice va pre.length vm) 26 28 (by kernel_rfl) (by kernel_rfl) (by kernel_rfl) (fun ⟨_, _, h⟩ => h) (fun _ _ _ h => h) ⟨rfl, ?_⟩ ⟨⟨W.drew, (Below.refl _ W).drew⟩, rfl⟩ ?_
    · rintro w' ⟨u, rfl⟩
      have hu := (u.ok.cell (p := ⟨O, 0, none⟩) hOW).trans xo
      simp [go_sem, hu]
    simp only [List.take_succ_cons, List.take_zero, List.drop_succ_cons, List.drop_zero, Nat.reduceSub]
    have hlx : x.1 < W.heap.size := lt_of_cell x0
    have u0 := later_cell (show (⟨x.1, 0, none⟩ : Addr).block < W.heap.size from hlx) x0
    have u1 := later_cell (show (⟨x.1, 1, none⟩ : Addr).block < W.heap.size from hlx) x1
    have u3 := later_cell (show (⟨x.1, 3, none⟩ : Addr).block < W.heap.size from hlx) x3
    have u4 := later_cell (show (⟨x.1, 4, none⟩ : Addr).block < W.heap.size from hlx) x4
    have u5 := later_cell (show (⟨x.1, 5, none⟩ : Addr).block < W.heap.size from hlx) x5
    simp only [Act.put, List.setIfInBounds_toArray, List.set_cons_succ, List.set_cons_zero]
    repeat (go_big_quiet_step (fail))
    refine wpQuiet_nil ?_
    rintro wx ⟨⟨wy, hwy⟩, hwe⟩
    obtain rfl : wx = wy := hwe
    refine wpListK_step rfl rfl ?_
    simp [Oper.wp, Oper.upon, go_sem]
    refine ⟨⟨⟨wx, hwy⟩, rfl⟩, ?_⟩
    refine wpListK_step rfl rfl ?_
    simp [Oper.wp, Oper.upon, go_sem]
    refine ⟨⟨⟨_, hwy.alloc hwy.size _⟩, rfl⟩, ?_⟩
    refine wpListK_of_list _ 28 _ _ (Nat.le_refl _) (fun j => match j with
      | 0 => rfl
      | 1 => rfl
      | j + 2 => by simp; omega) ?_
    obtain ⟨wz, hwz⟩ : ∃ wz, wz = wx.alloc (.cells #[.int .u32 x.2.ro, .int .u32 x.2.ad, .int .u8 x.2.pr, .int .u32 x.2.dr, .int .u32 x.2.bd] 178) := ⟨_, rfl⟩
    have HLit := Lib.hid (Reads.of_own (World.ownsRow_lit (base := 0) (e := 178) (size := 5) wx #[.int .u32 x.2.ro, .int .u32 x.2.ad, .int .u8 x.2.pr, .int .u32 x.2.dr, .int .u32 x.2.bd] 1 (Nat.zero_le _) (by simp [maxLen]) rfl))
    rw [← hwz] at HLit
    rw [← hwz]
    have hwW : Below W.heap.size W wz := by rw [hwz]; exact hwy.alloc hwy.size _
    have hownz : wz.ownsRow w2.heap.size 178 5 (.slice va pre.length vm) pre.length (vcOf pre) := (Frame.of_below (S := fun _ => False) hwW).own HOwn.out (fun _ _ e => e)
    have hsW : W.heap.size ≤ wz.heap.size := hwW.size
    refine wpList_append_any _ rfl (.tmp 33) (.tmp 60) _ rfl w2.heap.size 178 i0 _ 5 20 Try.underlying179 hi hz0 hz1 hz2 rfl (by omega) (.slice va pre.length vm) pre.length _ rfl hownz _ (some ⟨wx.heap.size, 0, none⟩) 1 1 _ rfl HLit.out (by simp [Value.oneCell']) (by unfold maxLen; omega) (by omega) (by omega) ?_
    intro v1 w4 hown1 hg1 _
    have hne : (Value.slice va pre.length vm).ownBlock ≠ some O := fun e => by have := (own_cells hownz O e).1; omega
    have hX4 : Blk w4 O 179 #[.slice va pre.length vm] := (HX.out.below hwW hOW).grown hg1 hne.symm
    have hX40 : w4.cell? ⟨O, 0, none⟩ = some (.slice va pre.length vm) := hX4.cell 0
    have hfz4 := hX4.frozen 0
    have hlt4 := hX4.lt
    obtain ⟨vb, vn, rfl⟩ := own_slice hown1
    have HOwn1 := Lib.hid hown1
    have HG1 := Lib.hid hg1
    have HX4 := Lib.hid hX4
    have HWW := Lib.hid hwW
    have HOz := Lib.hid hownz
    clear hown1 hg1 hne hX4 hwW hownz xo x0 x1 x3 x4 x5 u0 u1 u3 u4 u5 hwy hwz
    go_wp2_with fail
    have hX5 : Blk (w4.setCell ⟨O, 0, none⟩ (.slice vb (pre.length + 1) vn)) O 179 #[.slice vb (pre.length + 1) vn] := HX4.out.set_ 0 _
    refine ⟨?_, ?_⟩
    · refine (below_others HWW.out).trans ((KeepsOthers.of_grownBy HG1.out ?_).trans (KeepsOthers.setCell _ _ _))
      intro j o e hj
      obtain ⟨_, cs, hc⟩ := own_cells HOz.out j e
      rw [hc] at hj
      cases hj
      rfl
    · rw [HI.out]
      have hF : Frame (fun j => (Value.slice va pre.length vm).ownBlock = some j ∨ j = O) W (w4.setCell ⟨O, 0, none⟩ (.slice vb (pre.length + 1) vn)) := ((Frame.of_below HWW.out).trans (Frame.of_grown HG1.out (fun j e _ => .inl e))).setCell (p := ⟨O, 0, none⟩) (fun _ => .inr rfl) _
      refine ⟨HF.out.trans' hF (fun i hi e => ?_), .slice vb (pre.length + 1) vn, hX5, ?_⟩
      · rcases e with e | e
        · have := (own_cells HOz.out i e).1
          omega
        · exact e
      · rw [List.length_append, show vcOf (pre ++ [x]) = vcOf pre ++ [.int .u32 x.2.ro, .int .u32 x.2.ad, .int .u8 x.2.pr, .int .u32 x.2.dr, .int .u32 x.2.bd] from by unfold vcOf; rw [List.flatMap_append]; rfl]
        exact own_far HOwn1.out (q := ⟨O, 0, none⟩) (fun e => by have : w2.heap.size ≤ O := (own_cells HOwn1.out _ e).1; omega) _
  case done =>
    intro D ys W hD hys hIx hK
    rw [HI.out] at hIx
    obtain ⟨hf, v, hx, hown⟩ := hIx
    obtain ⟨va, vm, rfl⟩ := own_slice hown
    obtain ⟨vs, hvs'⟩ : ∃ vs, vs = (s.l.filter Pl.two).map Pl.voice := ⟨_, rfl⟩
    have hvs : vcOf ys = vs.flatMap Ev.cells := by rw [hys, hvs']; exact vc_eq H.out.l
    have hvl : ys.length = vs.length := by rw [hys, hvs']; exact vc_len H.out.l
    have HVS := Lib.hid hvs'
    have hvl6 : vs.length ≤ 60000 := by rw [← hvl, hys]; exact Nat.le_trans (List.length_filter_le _ _) hlen
    rw [hvs, hvl] at hown
    rw [hvl] at hx
    have hPW := (H.out.below B3.out).fr hf (by omega) (fun L hL e => by
      obtain ⟨cur, hc⟩ := H.out.rowTy hL
      have := hc.lt
      omega) (fun y hy => by have := (H.out.k y hy).1.lt; omega)
    have KW := Lib.hid hPW.b
    have HPW := Lib.hid hPW
    have HB := Lib.hid (below_fr B3.out hf (fun i e => by omega) hsw2)
    have HX := Lib.hid hx
    have HK := Lib.hid hK
    have s1 : Blk W S 178 #[.int .u32 c.ro, .int .u32 c.ad, .int .u8 c.pr, .int .u32 s.dr, .int .u32 s.bd] := hf.blk S3.out (by omega)
    have a1 : Blk W w.heap.size 78 #[.pointer (some ⟨B, 0, none⟩)] := hf.blk A3.out (by omega)
    have A1 := Lib.hid a1
    have S1W := Lib.hid s1
    have hDl : D < W.heap.size := (Array.getElem?_eq_some_iff.1 hK).1
    obtain ⟨o1, ho1⟩ : ∃ o, (Pl.chosen c s).1 = o := ⟨_, rfl⟩
    obtain ⟨o2, ho2⟩ : ∃ o, (Pl.chosen c s).2 = o := ⟨_, rfl⟩
    have HO1 := Lib.hid ho1
    have HO2 := Lib.hid ho2
    have hE : Hid (∀ u : Later W.heap.size W, Calls Try.prog 111 #[.agg #[.int .u32 c.ro, .int .u32 c.ad, .int .u8 c.pr, .int .u32 s.dr, .int .u32 s.bd], .slice va vs.length vm] u.to fun e w' => e = .returned (.tuple #[.int .u32 o1, .int .u32 o2]) ∧ Below u.to.heap.size u.to w') := Lib.hid fun u => by
      have h := Ev.elect_any c.ro c.ad c.pr s.dr s.bd va vs.length vm vs u.to rfl (by omega) (((Reads.of_own hown).below u.ok).more u.ok.size)
      rw [← ho1, ← ho2]
      unfold Pl.chosen
      rw [← hvs']
      exact h
    have b0 : W.cell? ⟨w.heap.size, 0, none⟩ = some (.pointer (some ⟨B, 0, none⟩)) := a1.cell 0
    have q0 : W.cell? ⟨S, 0, none⟩ = some (.int .u32 c.ro) := s1.cell 0
    have q1 : W.cell? ⟨S, 1, none⟩ = some (.int .u32 c.ad) := s1.cell 1
    have q2 : W.cell? ⟨S, 2, none⟩ = some (.int .u8 c.pr) := s1.cell 2
    have q3 : W.cell? ⟨S, 3, none⟩ = some (.int .u32 s.dr) := s1.cell 3
    have q4 : W.cell? ⟨S, 4, none⟩ = some (.int .u32 s.bd) := s1.cell 4
    have xo : W.cell? ⟨O, 0, none⟩ = some (.slice va vs.length vm) := hx.cell 0
    have hWB : B < W.heap.size := KW.out.lt
    have hWS : S < W.heap.size := s1.lt
    have hWO : O < W.heap.size := hx.lt
    have hWw : w.heap.size < W.heap.size := a1.lt
    clear hx hown hf hvs hvl hvs' hys hK s1 a1 ho1 ho2 hPW
    have hDw2 : w2.heap.size ≤ D := hD
    dsimp only
    go_wp2_with fail
    refine wp_region_lexN (C := fun w' => w'.cell? ⟨w.heap.size, 0, none⟩ = some (.pointer (some ⟨B, 0, none⟩)) ∧ w'.cell? ⟨S, 0, none⟩ = some (.int .u32 c.ro) ∧ w'.cell? ⟨S, 1, none⟩ = some (.int .u32 c.ad) ∧ w'.cell? ⟨S, 2, none⟩ = some (.int .u8 c.pr) ∧ w'.cell? ⟨S, 3, none⟩ = some (.int .u32 s.dr) ∧ w'.cell? ⟨S, 4, none⟩ = some (.int .u32 s.bd) ∧ w'.cell? ⟨O, 0, none⟩ = some (.slice va vs.length vm)) 11 [true, true, true, true, false, true, true, true] (by kernel_rfl) (by kernel_rfl) ⟨b0, q0, q1, q2, q3, q4, xo⟩ ?_
    refine ⟨.pointer (some ⟨B, 0, none⟩), ⟨rfl, fun w' ⟨h, _⟩ => by simp [go_sem, h]⟩, ?_⟩
    refine ⟨.pointer (some ⟨B, 0, none⟩), ⟨rfl, fun w' ⟨h, _⟩ => by simp [go_sem, h, Act.put]⟩, ?_⟩
    refine ⟨.agg #[.int .u32 c.ro, .int .u32 c.ad, .int .u8 c.pr, .int .u32 s.dr, .int .u32 s.bd], ⟨rfl, fun w' ⟨_, h0, h1, h2, h3, h4, _⟩ => by simp [go_sem, Act.put, h0, h1, h2, h3, h4]⟩, ?_⟩
    refine ⟨.slice va vs.length vm, ⟨rfl, fun w' ⟨_, _, _, _, _, _, h⟩ => by simp [go_sem, Act.put, h]⟩, ?_⟩
    simp only [Act.put, List.setIfInBounds_toArray, List.set_cons_succ, List.set_cons_zero]
    refine wpLex_call rfl rfl ?hr (hE.out ⟨W.drew, (Below.refl _ W).drew⟩) ?_
    case hr => simp [go_sem]
    rintro e wx ⟨rfl, hbx⟩
    have hbx' : Below W.heap.size W wx := ⟨hbx.os, hbx.tape, hbx.output, hbx.size, hbx.block⟩
    have KX := Lib.hid (KW.out.below hbx' hWB)
    have AX := Lib.hid (A1.out.below hbx' hWw)
    have SX := Lib.hid (S1W.out.below hbx' hWS)
    have OX := Lib.hid (HX.out.below hbx' hWO)
    have HBX := Lib.hid hbx'
    have HBx := Lib.hid (HB.out.trans (hbx'.mono HB.out.size))
    refine ⟨_, rfl, ⟨AX.out.cell 0, SX.out.cell 0, SX.out.cell 1, SX.out.cell 2, SX.out.cell 3, SX.out.cell 4, OX.out.cell 0⟩, ?_⟩
    have hcx := Lib.hid (show wx.cell? ⟨w.heap.size, 0, none⟩ = some (.pointer (some ⟨B, 0, none⟩)) ∧ wx.cell? ⟨S, 0, none⟩ = some (.int .u32 c.ro) ∧ wx.cell? ⟨S, 1, none⟩ = some (.int .u32 c.ad) ∧ wx.cell? ⟨S, 2, none⟩ = some (.int .u8 c.pr) ∧ wx.cell? ⟨S, 3, none⟩ = some (.int .u32 s.dr) ∧ wx.cell? ⟨S, 4, none⟩ = some (.int .u32 s.bd) ∧ wx.cell? ⟨O, 0, none⟩ = some (.slice va vs.length vm) from ⟨AX.out.cell 0, SX.out.cell 0, SX.out.cell 1, SX.out.cell 2, SX.out.cell 3, SX.out.cell 4, OX.out.cell 0⟩)
    clear hbx hbx' b0 q0 q1 q2 q3 q4 xo
    refine ⟨.tuple #[.int .u32 o1, .int .u32 o2], ⟨rfl, fun w' _ => by simp [go_sem, Act.put]⟩, ?_⟩
    refine ⟨.int .u32 o1, ⟨rfl, fun w' _ => by simp [go_sem, Act.put]⟩, ?_⟩
    refine ⟨.int .u32 o2, ⟨rfl, fun w' _ => by simp [go_sem, Act.put]⟩, ?_⟩
    simp only [Act.put, List.setIfInBounds_toArray, List.set_cons_succ, List.set_cons_zero]
    refine wpListK_step rfl rfl ?_
    simp [Oper.wp, Oper.upon, go_sem]
    refine ⟨hcx.out, ?_⟩
    refine wpListK_step rfl rfl ?_
    simp [Oper.wp, Oper.upon, go_sem]
    refine ⟨hcx.out, ?_⟩
    refine wpListK_step rfl rfl ?_
    have d16 : wx.cell? ⟨B, 16, none⟩ = some (.int .u32 s.dr) := KX.out.cell 16
    have f16 := KX.out.frozen 16
    have hlx := KX.out.lt
    simp [Oper.wp, Oper.upon, go_sem, d16, f16]
    refine ⟨hcx.out, ?_⟩
    refine wpListK_of_list _ 11 _ _ (Nat.le_refl _) (fun j => match j with
      | 0 => rfl
      | 1 => rfl
      | 2 => rfl
      | j + 3 => by simp; omega) ?_
    have d17 : wx.cell? ⟨B, 17, none⟩ = some (.int .u32 s.bd) := KX.out.cell 17
    have f17 := KX.out.frozen 17
    go_wp2_with fail
    dsimp only [NormQ]
    obtain ⟨W5, hW5⟩ : ∃ W5, W5 = (wx.setCell ⟨B, 16, none⟩ (.int .u32 o1)).setCell ⟨B, 17, none⟩ (.int .u32 o2) := ⟨_, rfl⟩
    have hBw : w.heap.size ≠ B := by omega
    have K5 : Hid (Blk W5 B 119 (lks c s.st o1 o2 s.wt s.nx s.po s.re (.slice A xs.length cap))) := Lib.hid (by rw [hW5]; exact (KX.out.set_ 16 _).set_ 17 _)
    have A5 : Hid (Blk W5 w.heap.size 78 #[.pointer (some ⟨B, 0, none⟩)]) := Lib.hid (by rw [hW5]; exact (AX.out.far (by simpa using hBw) _).far (by simpa using hBw) _)
    have F5 : Hid (Frame (fun j => j = B) w W5) := Lib.hid (by rw [hW5]; exact ((Frame.of_below HBx.out).setB 16 _).setB 17 _)
    have D5 : Hid (W5.heap[D]? = some (.deferred (some []))) := Lib.hid (by
      have h1 : wx.heap[D]? = some (.deferred (some [])) := (HBX.out.block D hDl).trans HK.out
      have hDB : D ≠ B := by
        rintro rfl
        have := HK.out.symm.trans KW.out
        cases this
      rw [hW5, Below.heap_setCell _ _ _ D hDB, Below.heap_setCell _ _ _ D hDB]
      exact h1)
    rw [← hW5]
    clear hW5 d16 f16 hlx d17 f17
    have b0 : W5.cell? ⟨w.heap.size, 0, none⟩ = some (.pointer (some ⟨B, 0, none⟩)) := A5.out.cell 0
    have k1 : W5.cell? ⟨B, 1, none⟩ = some (.int .u8 c.ty) := K5.out.cell 1
    have k5 : W5.cell? ⟨B, 5, none⟩ = some (.int .u32 c.ad) := K5.out.cell 5
    have k15 : W5.cell? ⟨B, 15, none⟩ = some (.int .u8 s.st) := K5.out.cell 15
    have k16 : W5.cell? ⟨B, 16, none⟩ = some (.int .u32 o1) := K5.out.cell 16
    have k17 : W5.cell? ⟨B, 17, none⟩ = some (.int .u32 o2) := K5.out.cell 17
    have f15 := K5.out.frozen 15
    have hl5 := K5.out.lt
    have hDB : D ≠ B := by
      rintro rfl
      have := D5.out.symm.trans K5.out
      cases this
    rcases hs1 : (c.ad == o1) with _ | _
    · rcases hs2 : (c.ad == o2) with _ | _
      · have HSt : Hid (elState c (Pl.chosen c s) = 4) := Lib.hid (by unfold elState; rw [HO1.out, HO2.out, hs1, hs2]; rfl)
        go_upto_region 13 with fail
        obtain ⟨W6, hW6⟩ : ∃ W6, W6 = W5.setCell ⟨B, 15, none⟩ (.int .u8 4) := ⟨_, rfl⟩
        have K6 : Hid (Blk W6 B 119 (lks c 4 o1 o2 s.wt s.nx s.po s.re (.slice A xs.length cap))) := Lib.hid (by rw [hW6]; exact K5.out.set_ 15 _)
        have A6 : Hid (Blk W6 w.heap.size 78 #[.pointer (some ⟨B, 0, none⟩)]) := Lib.hid (by rw [hW6]; exact A5.out.far (by simpa using hBw) _)
        have F6 : Hid (Frame (fun j => j = B) w W6) := Lib.hid (by rw [hW6]; exact F5.out.setB 15 _)
        have hD6 : Hid (W6.heap[D]? = some (.deferred (some []))) := Lib.hid (by rw [hW6, Below.heap_setCell _ _ _ D hDB]; exact D5.out)
        rw [← hW6]
        clear hW6 b0 k1 k5 k15 k16 k17 f15 hl5
        have e0 : W6.cell? ⟨w.heap.size, 0, none⟩ = some (.pointer (some ⟨B, 0, none⟩)) := A6.out.cell 0
        have e1 : W6.cell? ⟨B, 1, none⟩ = some (.int .u8 c.ty) := K6.out.cell 1
        have e15 : W6.cell? ⟨B, 15, none⟩ = some (.int .u8 4) := K6.out.cell 15
        rcases hty : (c.ty == 1) with _ | _
        · go_wp2_with fail
          clear hty
          have HMap : Hid (s.l.map (wakeIf c 4) = s.l) := Lib.hid (by
            have h : ∀ k ∈ s.l, wakeIf c 4 k = id k := fun k _ => wakeIf_no (.inr (.inl (by omega)))
            rw [List.map_congr_left h, List.map_id])
          refine ⟨by simp, .inl ⟨_, _, rfl, run_takeDeferred hD6.out, ?_⟩⟩
          have k9 := K6.out.grown (grownBy_putObj' W6 D (.deferred none)) (by simpa using fun e => hDB e.symm)
          have F9 : Frame (fun j => j = B) w (W6.putObj D (.deferred none)) := F6.out.trans' (Frame.of_grown (S := fun k => k = D) (grownBy_putObj' W6 D (.deferred none)) (fun k e _ => (Option.some.inj e).symm)) (fun j hj e => by have h1 : j = D := e; omega)
          refine ⟨.tuple #[], by simp [results, Try.f76, go_sem], rfl, xs, ?_⟩
          rw [elect_eq c s o1 o2 4 HO1.out HO2.out HSt.out, HMap.out]
          exact H.out.turn (s' := { s with dr := o1, bd := o2, st := 4 }) F9 k9 rfl
        · go_wp2_with fail
          clear hty
          have HMap : Hid (s.l.map (wakeIf c 4) = s.l) := Lib.hid (by
            have h : ∀ k ∈ s.l, wakeIf c 4 k = id k := fun k _ => wakeIf_no (.inr (.inl (by omega)))
            rw [List.map_congr_left h, List.map_id])
          refine ⟨by simp, .inl ⟨_, _, rfl, run_takeDeferred hD6.out, ?_⟩⟩
          have k9 := K6.out.grown (grownBy_putObj' W6 D (.deferred none)) (by simpa using fun e => hDB e.symm)
          have F9 : Frame (fun j => j = B) w (W6.putObj D (.deferred none)) := F6.out.trans' (Frame.of_grown (S := fun k => k = D) (grownBy_putObj' W6 D (.deferred none)) (fun k e _ => (Option.some.inj e).symm)) (fun j hj e => by have h1 : j = D := e; omega)
          refine ⟨.tuple #[], by simp [results, Try.f76, go_sem], rfl, xs, ?_⟩
          rw [elect_eq c s o1 o2 4 HO1.out HO2.out HSt.out, HMap.out]
          exact H.out.turn (s' := { s with dr := o1, bd := o2, st := 4 }) F9 k9 rfl
      · have HSt : Hid (elState c (Pl.chosen c s) = 5) := Lib.hid (by unfold elState; rw [HO1.out, HO2.out, hs1, hs2]; rfl)
        go_upto_region 13 with fail
        obtain ⟨W6, hW6⟩ : ∃ W6, W6 = W5.setCell ⟨B, 15, none⟩ (.int .u8 5) := ⟨_, rfl⟩
        have K6 : Hid (Blk W6 B 119 (lks c 5 o1 o2 s.wt s.nx s.po s.re (.slice A xs.length cap))) := Lib.hid (by rw [hW6]; exact K5.out.set_ 15 _)
        have A6 : Hid (Blk W6 w.heap.size 78 #[.pointer (some ⟨B, 0, none⟩)]) := Lib.hid (by rw [hW6]; exact A5.out.far (by simpa using hBw) _)
        have F6 : Hid (Frame (fun j => j = B) w W6) := Lib.hid (by rw [hW6]; exact F5.out.setB 15 _)
        have hD6 : Hid (W6.heap[D]? = some (.deferred (some []))) := Lib.hid (by rw [hW6, Below.heap_setCell _ _ _ D hDB]; exact D5.out)
        rw [← hW6]
        clear hW6 b0 k1 k5 k15 k16 k17 f15 hl5
        have e0 : W6.cell? ⟨w.heap.size, 0, none⟩ = some (.pointer (some ⟨B, 0, none⟩)) := A6.out.cell 0
        have e1 : W6.cell? ⟨B, 1, none⟩ = some (.int .u8 c.ty) := K6.out.cell 1
        have e15 : W6.cell? ⟨B, 15, none⟩ = some (.int .u8 5) := K6.out.cell 15
        rcases hty : (c.ty == 1) with _ | _
        · have HTy := Lib.hid hty
          go_wp2_with fail
          clear hty
          have HMap : Hid (s.l.map (wakeIf c 5) = s.l) := Lib.hid (by
            have h : ∀ k ∈ s.l, wakeIf c 5 k = id k := fun k _ => wakeIf_no (.inl (by have h := HTy.out; simpa using h))
            rw [List.map_congr_left h, List.map_id])
          refine ⟨by simp, .inl ⟨_, _, rfl, run_takeDeferred hD6.out, ?_⟩⟩
          have k9 := K6.out.grown (grownBy_putObj' W6 D (.deferred none)) (by simpa using fun e => hDB e.symm)
          have F9 : Frame (fun j => j = B) w (W6.putObj D (.deferred none)) := F6.out.trans' (Frame.of_grown (S := fun k => k = D) (grownBy_putObj' W6 D (.deferred none)) (fun k e _ => (Option.some.inj e).symm)) (fun j hj e => by have h1 : j = D := e; omega)
          refine ⟨.tuple #[], by simp [results, Try.f76, go_sem], rfl, xs, ?_⟩
          rw [elect_eq c s o1 o2 5 HO1.out HO2.out HSt.out, HMap.out]
          exact H.out.turn (s' := { s with dr := o1, bd := o2, st := 5 }) F9 k9 rfl
        · have HTy := Lib.hid hty
          go_wp2_with fail
          refine (all_made _ _ _ ⟨_, rfl⟩ ⟨_, _, _, rfl⟩).mono ?_
          rintro e w7 ⟨rfl, hb7, j1, j2⟩
          have h7l : W6.heap.size + 1 < w7.heap.size := lt_of_cell j2
          have F7 : Hid (Frame (fun j => j = B) w w7) := Lib.hid (F6.out.trans (Frame.of_below hb7))
          have hP7 := Lib.hid (H.out.turn (s' := { s with dr := o1, bd := o2, st := 5 }) F7.out (K6.out.below hb7 K6.out.lt) rfl)
          have A7 := Lib.hid (A6.out.below hb7 A6.out.lt)
          have hDl6 : D < W6.heap.size := (Array.getElem?_eq_some_iff.1 hD6.out).1
          have hD7 : Hid (w7.heap[D]? = some (.deferred (some []))) := Lib.hid ((hb7.block D hDl6).trans hD6.out)
          have hsz7 : W6.heap.size ≤ w7.heap.size := hb7.size
          have hs6 : w.heap.size ≤ W6.heap.size := F6.out.size
          clear hb7 e0 e1 e15 hty
          have hDl7 : D < w7.heap.size := by omega
          have HxD : Hid (∀ x ∈ xs, x.1 ≠ D) := Lib.hid (fun x hx e => by
            have h1 := (hP7.out.1.k x hx).1
            rw [e] at h1
            have := h1.symm.trans hD7.out
            cases this)
          obtain ⟨I2, hI2⟩ : ∃ I : List (Nat × Kn) → World → Prop, I = wokeI c w7 xs := ⟨_, rfl⟩
          have HI2 := Lib.hid hI2
          clear hI2
          have hIo2 : OwnFrom w7.heap.size I2 := by rw [HI2.out]; exact wokeI_own c w7 xs
          have hI20 : I2 [] w7 := by rw [HI2.out]; exact ⟨fun x h => (by cases h), Frame.refl _ _, fun x h => (by cases h)⟩
          have hIf2 : ∀ pre W, I2 pre W → Frame (fun i => ∃ x ∈ xs, x.1 = i) w7 W := by
            intro pre W hi
            rw [HI2.out] at hi
            exact hi.2.1.mono (fun i ⟨x, hx, e⟩ => ⟨x, hi.1 x hx, e⟩)
          have hseq2 := seq_elect2 2 (by omega) w7 I2 (·.1) (fun x => x.2.st == 0) B W6.heap.size (W6.heap.size + 1) xs A cap (leans_at hP7.out.1 (by omega) j1 j2 (fun x hx => by have := (H.out.k x hx).1.lt; omega) hIf2 (fun k x W hx hi => by
            have hm := List.mem_of_getElem? hx
            rw [HI2.out] at hi
            refine (elect2_w W x.1 _ ((hi.2.1.blk (hP7.out.1.k x hm).1 ?_).cell 2)).mono fun _ _ h => ⟨h.1, 0, h.2.symm⟩
            rintro ⟨y, hy, e⟩
            exact nodup_before H.out.nd hx y (List.mem_filter.1 hy).1 e))
          go_wp2_with fail
          rw [← wpIn_wide (n := 3)]
          refine wpIn_rangeFunc_I (n := 3) (by omega) rfl trivial enters_all1 hseq2 (fun _ => rfl) hIo2 (Ix := fun _ _ => False) (fun _ _ _ _ hs _ _ => hs) hI20 ?a5 ?assign5 ?body5 ?done5 (fun _ _ _ _ _ h _ => h.elim)
          case assign5 =>
            intro l x W K hK
            gi_wp2
            exact hK
          case body5 =>
            rintro l pre x W hIx ⟨k0, hx0, hisx, hpre, _⟩
            have hxm := List.mem_of_getElem? hx0
            rw [HI2.out] at hIx
            have HIx := Lib.hid hIx
            have HNe : Hid (∀ y ∈ pre, y.1 ≠ x.1) := Lib.hid (fun y hy => nodup_before H.out.nd hx0 y (by rw [hpre] at hy; exact (List.mem_filter.1 hy).1))
            have hkx : Blk W x.1 139 x.2.cells := hIx.2.1.blk (hP7.out.1.k x hxm).1 (fun ⟨y, hy, e⟩ => HNe.out y hy e)
            have HKX := Lib.hid hkx
            have x2 : W.cell? ⟨x.1, 2, none⟩ = some (.int .u8 x.2.st) := hkx.cell 2
            have x7 : W.cell? ⟨x.1, 7, none⟩ = some (.int .u32 x.2.lf) := hkx.cell 7
            have fx := hkx.frozen
            have hlx := hkx.lt
            have hl0 : W.cell? ⟨w.heap.size, 0, none⟩ = some (.pointer (some ⟨B, 0, none⟩)) := fcell hIx.2.1 (A7.out.cell 0) (fun ⟨y, hy, e⟩ => by have := (H.out.k y (hIx.1 y hy)).1.lt; omega)
            have hl8 : W.cell? ⟨B, 8, none⟩ = some (.int .u32 c.dd) := fcell hIx.2.1 (hP7.out.1.b.cell 8) (fun ⟨y, hy, e⟩ => (H.out.k y (hIx.1 y hy)).1.ne_ H.out.b (by decide) e)
            clear hkx hIx hpre hisx
            gi_wp2_with fail
            have hk5 : Blk ((W.setCell ⟨x.1, 2, none⟩ (.int .u8 1)).setCell ⟨x.1, 7, none⟩ (.int .u32 c.dd)) x.1 139 (updK c x.2).cells := (HKX.out.set_ 2 (.int .u8 1)).set_ 7 (.int .u32 c.dd)
            have hF5 : Frame (fun j => j = x.1) W ((W.setCell ⟨x.1, 2, none⟩ (.int .u8 1)).setCell ⟨x.1, 7, none⟩ (.int .u32 c.dd)) := ((Frame.refl _ W).setB 2 _).setB 7 _
            refine ⟨(KeepsOthers.setCell _ _ _).trans (KeepsOthers.setCell _ _ _), ?_⟩
            rw [HI2.out]
            refine ⟨fun y hy => ?_, (HIx.out.2.1.mono (fun i ⟨y, hy, e⟩ => ⟨y, List.mem_append_left _ hy, e⟩)).trans (hF5.mono (fun i e => ⟨x, List.mem_append_right _ (List.mem_singleton.2 rfl), e.symm⟩)), fun y hy => ?_⟩
            · rcases List.mem_append.1 hy with hy | hy
              · exact HIx.out.1 y hy
              · rw [List.mem_singleton.1 hy]; exact hxm
            · rcases List.mem_append.1 hy with hy | hy
              · exact hF5.blk (HIx.out.2.2 y hy) (HNe.out y hy)
              · rw [List.mem_singleton.1 hy]; exact hk5
          case done5 =>
            intro D2 ys W hDD hys hIx hK
            rw [HI2.out] at hIx
            have HIx := Lib.hid hIx
            have HK2 := Lib.hid hK
            have HYs := Lib.hid hys
            clear hIx hK hys
            dsimp only
            go_wp2_with fail
            have hDW : W.heap[D]? = some (.deferred (some [])) := (HIx.out.2.1.block D hDl7 (fun ⟨x, hx, e⟩ => HxD.out x (HIx.out.1 x hx) e)).trans hD7.out
            have hDD2 : D ≠ D2 := by omega
            have hD8 : (W.putObj D2 (.deferred none)).heap[D]? = some (.deferred (some [])) := (World.putObj_heap_other hDD2).trans hDW
            refine ⟨by simp, .inl ⟨_, _, rfl, run_takeDeferred HK2.out, ⟨by simp, .inl ⟨_, _, rfl, run_takeDeferred hD8, ?_⟩⟩⟩⟩
            obtain ⟨W9, hW9⟩ : ∃ W9, W9 = (W.putObj D2 (.deferred none)).putObj D (.deferred none) := ⟨_, rfl⟩
            have hF9 : Frame (fun j => j = D2 ∨ j = D) W W9 := by
              rw [hW9]
              exact (Frame.of_grown (S := fun k => k = D2 ∨ k = D) (grownBy_putObj' W D2 (.deferred none)) (fun k e _ => .inl (Option.some.inj e).symm)).trans (Frame.of_grown (S := fun k => k = D2 ∨ k = D) (grownBy_putObj' _ D (.deferred none)) (fun k e _ => .inr (Option.some.inj e).symm))
            have hBl7 : B < w7.heap.size := hP7.out.1.b.lt
            have hsW : w7.heap.size ≤ W.heap.size := HIx.out.2.1.size
            have hxl : ∀ x ∈ xs, x.1 < w.heap.size := fun x hx => (H.out.k x hx).1.lt
            have hsw7 : w.heap.size ≤ w7.heap.size := F7.out.size
            have hBD : B ≠ D := fun e => hDB e.symm
            have hnB : ¬ ∃ x ∈ ys, x.1 = B := fun ⟨y, hy, e⟩ => (H.out.k y (HIx.out.1 y hy)).1.ne_ H.out.b (by decide) e
            have hb9 : Blk W9 B 119 (lks c 5 o1 o2 s.wt s.nx s.po s.re (.slice A xs.length cap)) := hF9.blk (HIx.out.2.1.blk hP7.out.1.b hnB) (by omega)
            have hnL : ∀ L, A = some ⟨L, 0, none⟩ → (¬ ∃ x ∈ ys, x.1 = L) ∧ ¬ (L = D2 ∨ L = D) := by
              intro L hL
              obtain ⟨cur, hc⟩ := hP7.out.1.rowTy hL
              refine ⟨fun ⟨y, hy, e⟩ => (hP7.out.1.k y (HIx.out.1 y hy)).1.ne_ hc (by decide) e, ?_⟩
              rintro (e | e)
              · have := hc.lt; omega
              · have h1 : w7.heap[D]? = some (.cells cur 137 (0, 0)) := by rw [← e]; exact hc
                have := h1.symm.trans hD7.out
                cases this
            have hrow : PRow W9 lo A xs.length cap (kptrs xs) := (hP7.out.1.rowFr HIx.out.2.1 (fun L hL => (hnL L hL).1)).fr hF9 (fun L hL => (hnL L hL).2)
            have hkk : ∀ x ∈ xs, Blk W9 x.1 139 (wakeIf c 5 x.2).cells := by
              intro x hx
              have hne : ¬ (x.1 = D2 ∨ x.1 = D) := by
                rintro (e | e)
                · have := hxl x hx; omega
                · exact HxD.out x hx e
              refine hF9.blk ?_ hne
              by_cases h0 : x.2.st = 0
              · rw [wakeIf_yes (by have h := HTy.out; simpa using h) (by omega) h0]
                exact HIx.out.2.2 x (by rw [HYs.out]; exact List.mem_filter.2 ⟨hx, by simpa using h0⟩)
              · rw [wakeIf_no (.inr (.inr h0))]
                refine HIx.out.2.1.blk (hP7.out.1.k x hx).1 (fun ⟨y, hy, e⟩ => ?_)
                have hyx := H.out.inj (HIx.out.1 y hy) hx e
                rw [HYs.out, hyx] at hy
                exact h0 (by simpa using (List.mem_filter.1 hy).2)
            have F10 : Frame (fun j => j = B ∨ ∃ x ∈ xs, x.1 = j) w W9 := ((F7.out.mono fun j e => Or.inl e).trans' HIx.out.2.1 (fun j _ ⟨y, hy, e⟩ => Or.inr ⟨y, HIx.out.1 y hy, e⟩)).trans' hF9 (fun j hj e => by omega)
            refine ⟨.tuple #[], by simp [results, Try.f76, go_sem], rfl, xs.map fun x => (x.1, wakeIf c 5 x.2), ?_⟩
            rw [← hW9, elect_eq c s o1 o2 5 HO1.out HO2.out HSt.out]
            exact ⟨H.out.upd (s' := { s with dr := o1, bd := o2, st := 5, l := s.l.map (wakeIf c 5) }) (wakeIf c 5) hb9 hrow hkk rfl, H.out.lfr F10⟩
    · have HSt : Hid (elState c (Pl.chosen c s) = 6) := Lib.hid (by unfold elState; rw [HO1.out, hs1]; rfl)
      go_upto_region 13 with fail
      obtain ⟨W6, hW6⟩ : ∃ W6, W6 = W5.setCell ⟨B, 15, none⟩ (.int .u8 6) := ⟨_, rfl⟩
      have K6 : Hid (Blk W6 B 119 (lks c 6 o1 o2 s.wt s.nx s.po s.re (.slice A xs.length cap))) := Lib.hid (by rw [hW6]; exact K5.out.set_ 15 _)
      have A6 : Hid (Blk W6 w.heap.size 78 #[.pointer (some ⟨B, 0, none⟩)]) := Lib.hid (by rw [hW6]; exact A5.out.far (by simpa using hBw) _)
      have F6 : Hid (Frame (fun j => j = B) w W6) := Lib.hid (by rw [hW6]; exact F5.out.setB 15 _)
      have hD6 : Hid (W6.heap[D]? = some (.deferred (some []))) := Lib.hid (by rw [hW6, Below.heap_setCell _ _ _ D hDB]; exact D5.out)
      rw [← hW6]
      clear hW6 b0 k1 k5 k15 k16 k17 f15 hl5
      have e0 : W6.cell? ⟨w.heap.size, 0, none⟩ = some (.pointer (some ⟨B, 0, none⟩)) := A6.out.cell 0
      have e1 : W6.cell? ⟨B, 1, none⟩ = some (.int .u8 c.ty) := K6.out.cell 1
      have e15 : W6.cell? ⟨B, 15, none⟩ = some (.int .u8 6) := K6.out.cell 15
      rcases hty : (c.ty == 1) with _ | _
      · have HTy := Lib.hid hty
        go_wp2_with fail
        clear hty
        have HMap : Hid (s.l.map (wakeIf c 6) = s.l) := Lib.hid (by
          have h : ∀ k ∈ s.l, wakeIf c 6 k = id k := fun k _ => wakeIf_no (.inl (by have h := HTy.out; simpa using h))
          rw [List.map_congr_left h, List.map_id])
        refine ⟨by simp, .inl ⟨_, _, rfl, run_takeDeferred hD6.out, ?_⟩⟩
        have k9 := K6.out.grown (grownBy_putObj' W6 D (.deferred none)) (by simpa using fun e => hDB e.symm)
        have F9 : Frame (fun j => j = B) w (W6.putObj D (.deferred none)) := F6.out.trans' (Frame.of_grown (S := fun k => k = D) (grownBy_putObj' W6 D (.deferred none)) (fun k e _ => (Option.some.inj e).symm)) (fun j hj e => by have h1 : j = D := e; omega)
        refine ⟨.tuple #[], by simp [results, Try.f76, go_sem], rfl, xs, ?_⟩
        rw [elect_eq c s o1 o2 6 HO1.out HO2.out HSt.out, HMap.out]
        exact H.out.turn (s' := { s with dr := o1, bd := o2, st := 6 }) F9 k9 rfl
      · have HTy := Lib.hid hty
        go_wp2_with fail
        refine (all_made _ _ _ ⟨_, rfl⟩ ⟨_, _, _, rfl⟩).mono ?_
        rintro e w7 ⟨rfl, hb7, j1, j2⟩
        have h7l : W6.heap.size + 1 < w7.heap.size := lt_of_cell j2
        have F7 : Hid (Frame (fun j => j = B) w w7) := Lib.hid (F6.out.trans (Frame.of_below hb7))
        have hP7 := Lib.hid (H.out.turn (s' := { s with dr := o1, bd := o2, st := 6 }) F7.out (K6.out.below hb7 K6.out.lt) rfl)
        have A7 := Lib.hid (A6.out.below hb7 A6.out.lt)
        have hDl6 : D < W6.heap.size := (Array.getElem?_eq_some_iff.1 hD6.out).1
        have hD7 : Hid (w7.heap[D]? = some (.deferred (some []))) := Lib.hid ((hb7.block D hDl6).trans hD6.out)
        have hsz7 : W6.heap.size ≤ w7.heap.size := hb7.size
        have hs6 : w.heap.size ≤ W6.heap.size := F6.out.size
        clear hb7 e0 e1 e15 hty
        have hDl7 : D < w7.heap.size := by omega
        have HxD : Hid (∀ x ∈ xs, x.1 ≠ D) := Lib.hid (fun x hx e => by
          have h1 := (hP7.out.1.k x hx).1
          rw [e] at h1
          have := h1.symm.trans hD7.out
          cases this)
        obtain ⟨I2, hI2⟩ : ∃ I : List (Nat × Kn) → World → Prop, I = wokeI c w7 xs := ⟨_, rfl⟩
        have HI2 := Lib.hid hI2
        clear hI2
        have hIo2 : OwnFrom w7.heap.size I2 := by rw [HI2.out]; exact wokeI_own c w7 xs
        have hI20 : I2 [] w7 := by rw [HI2.out]; exact ⟨fun x h => (by cases h), Frame.refl _ _, fun x h => (by cases h)⟩
        have hIf2 : ∀ pre W, I2 pre W → Frame (fun i => ∃ x ∈ xs, x.1 = i) w7 W := by
          intro pre W hi
          rw [HI2.out] at hi
          exact hi.2.1.mono (fun i ⟨x, hx, e⟩ => ⟨x, hi.1 x hx, e⟩)
        have hseq2 := seq_elect2 2 (by omega) w7 I2 (·.1) (fun x => x.2.st == 0) B W6.heap.size (W6.heap.size + 1) xs A cap (leans_at hP7.out.1 (by omega) j1 j2 (fun x hx => by have := (H.out.k x hx).1.lt; omega) hIf2 (fun k x W hx hi => by
          have hm := List.mem_of_getElem? hx
          rw [HI2.out] at hi
          refine (elect2_w W x.1 _ ((hi.2.1.blk (hP7.out.1.k x hm).1 ?_).cell 2)).mono fun _ _ h => ⟨h.1, 0, h.2.symm⟩
          rintro ⟨y, hy, e⟩
          exact nodup_before H.out.nd hx y (List.mem_filter.1 hy).1 e))
        go_wp2_with fail
        rw [← wpIn_wide (n := 3)]
        refine wpIn_rangeFunc_I (n := 3) (by omega) rfl trivial enters_all1 hseq2 (fun _ => rfl) hIo2 (Ix := fun _ _ => False) (fun _ _ _ _ hs _ _ => hs) hI20 ?a6 ?assign6 ?body6 ?done6 (fun _ _ _ _ _ h _ => h.elim)
        case assign6 =>
          intro l x W K hK
          gi_wp2
          exact hK
        case body6 =>
          rintro l pre x W hIx ⟨k0, hx0, hisx, hpre, _⟩
          have hxm := List.mem_of_getElem? hx0
          rw [HI2.out] at hIx
          have HIx := Lib.hid hIx
          have HNe : Hid (∀ y ∈ pre, y.1 ≠ x.1) := Lib.hid (fun y hy => nodup_before H.out.nd hx0 y (by rw [hpre] at hy; exact (List.mem_filter.1 hy).1))
          have hkx : Blk W x.1 139 x.2.cells := hIx.2.1.blk (hP7.out.1.k x hxm).1 (fun ⟨y, hy, e⟩ => HNe.out y hy e)
          have HKX := Lib.hid hkx
          have x2 : W.cell? ⟨x.1, 2, none⟩ = some (.int .u8 x.2.st) := hkx.cell 2
          have x7 : W.cell? ⟨x.1, 7, none⟩ = some (.int .u32 x.2.lf) := hkx.cell 7
          have fx := hkx.frozen
          have hlx := hkx.lt
          have hl0 : W.cell? ⟨w.heap.size, 0, none⟩ = some (.pointer (some ⟨B, 0, none⟩)) := fcell hIx.2.1 (A7.out.cell 0) (fun ⟨y, hy, e⟩ => by have := (H.out.k y (hIx.1 y hy)).1.lt; omega)
          have hl8 : W.cell? ⟨B, 8, none⟩ = some (.int .u32 c.dd) := fcell hIx.2.1 (hP7.out.1.b.cell 8) (fun ⟨y, hy, e⟩ => (H.out.k y (hIx.1 y hy)).1.ne_ H.out.b (by decide) e)
          clear hkx hIx hpre hisx
          gi_wp2_with fail
          have hk5 : Blk ((W.setCell ⟨x.1, 2, none⟩ (.int .u8 1)).setCell ⟨x.1, 7, none⟩ (.int .u32 c.dd)) x.1 139 (updK c x.2).cells := (HKX.out.set_ 2 (.int .u8 1)).set_ 7 (.int .u32 c.dd)
          have hF5 : Frame (fun j => j = x.1) W ((W.setCell ⟨x.1, 2, none⟩ (.int .u8 1)).setCell ⟨x.1, 7, none⟩ (.int .u32 c.dd)) := ((Frame.refl _ W).setB 2 _).setB 7 _
          refine ⟨(KeepsOthers.setCell _ _ _).trans (KeepsOthers.setCell _ _ _), ?_⟩
          rw [HI2.out]
          refine ⟨fun y hy => ?_, (HIx.out.2.1.mono (fun i ⟨y, hy, e⟩ => ⟨y, List.mem_append_left _ hy, e⟩)).trans (hF5.mono (fun i e => ⟨x, List.mem_append_right _ (List.mem_singleton.2 rfl), e.symm⟩)), fun y hy => ?_⟩
          · rcases List.mem_append.1 hy with hy | hy
            · exact HIx.out.1 y hy
            · rw [List.mem_singleton.1 hy]; exact hxm
          · rcases List.mem_append.1 hy with hy | hy
            · exact hF5.blk (HIx.out.2.2 y hy) (HNe.out y hy)
            · rw [List.mem_singleton.1 hy]; exact hk5
        case done6 =>
          intro D2 ys W hDD hys hIx hK
          rw [HI2.out] at hIx
          have HIx := Lib.hid hIx
          have HK2 := Lib.hid hK
          have HYs := Lib.hid hys
          clear hIx hK hys
          dsimp only
          go_wp2_with fail
          have hDW : W.heap[D]? = some (.deferred (some [])) := (HIx.out.2.1.block D hDl7 (fun ⟨x, hx, e⟩ => HxD.out x (HIx.out.1 x hx) e)).trans hD7.out
          have hDD2 : D ≠ D2 := by omega
          have hD8 : (W.putObj D2 (.deferred none)).heap[D]? = some (.deferred (some [])) := (World.putObj_heap_other hDD2).trans hDW
          refine ⟨by simp, .inl ⟨_, _, rfl, run_takeDeferred HK2.out, ⟨by simp, .inl ⟨_, _, rfl, run_takeDeferred hD8, ?_⟩⟩⟩⟩
          obtain ⟨W9, hW9⟩ : ∃ W9, W9 = (W.putObj D2 (.deferred none)).putObj D (.deferred none) := ⟨_, rfl⟩
          have hF9 : Frame (fun j => j = D2 ∨ j = D) W W9 := by
            rw [hW9]
            exact (Frame.of_grown (S := fun k => k = D2 ∨ k = D) (grownBy_putObj' W D2 (.deferred none)) (fun k e _ => .inl (Option.some.inj e).symm)).trans (Frame.of_grown (S := fun k => k = D2 ∨ k = D) (grownBy_putObj' _ D (.deferred none)) (fun k e _ => .inr (Option.some.inj e).symm))
          have hBl7 : B < w7.heap.size := hP7.out.1.b.lt
          have hsW : w7.heap.size ≤ W.heap.size := HIx.out.2.1.size
          have hxl : ∀ x ∈ xs, x.1 < w.heap.size := fun x hx => (H.out.k x hx).1.lt
          have hsw7 : w.heap.size ≤ w7.heap.size := F7.out.size
          have hBD : B ≠ D := fun e => hDB e.symm
          have hnB : ¬ ∃ x ∈ ys, x.1 = B := fun ⟨y, hy, e⟩ => (H.out.k y (HIx.out.1 y hy)).1.ne_ H.out.b (by decide) e
          have hb9 : Blk W9 B 119 (lks c 6 o1 o2 s.wt s.nx s.po s.re (.slice A xs.length cap)) := hF9.blk (HIx.out.2.1.blk hP7.out.1.b hnB) (by omega)
          have hnL : ∀ L, A = some ⟨L, 0, none⟩ → (¬ ∃ x ∈ ys, x.1 = L) ∧ ¬ (L = D2 ∨ L = D) := by
            intro L hL
            obtain ⟨cur, hc⟩ := hP7.out.1.rowTy hL
            refine ⟨fun ⟨y, hy, e⟩ => (hP7.out.1.k y (HIx.out.1 y hy)).1.ne_ hc (by decide) e, ?_⟩
            rintro (e | e)
            · have := hc.lt; omega
            · have h1 : w7.heap[D]? = some (.cells cur 137 (0, 0)) := by rw [← e]; exact hc
              have := h1.symm.trans hD7.out
              cases this
          have hrow : PRow W9 lo A xs.length cap (kptrs xs) := (hP7.out.1.rowFr HIx.out.2.1 (fun L hL => (hnL L hL).1)).fr hF9 (fun L hL => (hnL L hL).2)
          have hkk : ∀ x ∈ xs, Blk W9 x.1 139 (wakeIf c 6 x.2).cells := by
            intro x hx
            have hne : ¬ (x.1 = D2 ∨ x.1 = D) := by
              rintro (e | e)
              · have := hxl x hx; omega
              · exact HxD.out x hx e
            refine hF9.blk ?_ hne
            by_cases h0 : x.2.st = 0
            · rw [wakeIf_yes (by have h := HTy.out; simpa using h) (by omega) h0]
              exact HIx.out.2.2 x (by rw [HYs.out]; exact List.mem_filter.2 ⟨hx, by simpa using h0⟩)
            · rw [wakeIf_no (.inr (.inr h0))]
              refine HIx.out.2.1.blk (hP7.out.1.k x hx).1 (fun ⟨y, hy, e⟩ => ?_)
              have hyx := H.out.inj (HIx.out.1 y hy) hx e
              rw [HYs.out, hyx] at hy
              exact h0 (by simpa using (List.mem_filter.1 hy).2)
          have F10 : Frame (fun j => j = B ∨ ∃ x ∈ xs, x.1 = j) w W9 := ((F7.out.mono fun j e => Or.inl e).trans' HIx.out.2.1 (fun j _ ⟨y, hy, e⟩ => Or.inr ⟨y, HIx.out.1 y hy, e⟩)).trans' hF9 (fun j hj e => by omega)
          refine ⟨.tuple #[], by simp [results, Try.f76, go_sem], rfl, xs.map fun x => (x.1, wakeIf c 6 x.2), ?_⟩
          rw [← hW9, elect_eq c s o1 o2 6 HO1.out HO2.out HSt.out]
          exact ⟨H.out.upd (s' := { s with dr := o1, bd := o2, st := 6, l := s.l.map (wakeIf c 6) }) (wakeIf c 6) hb9 hrow hkk rfl, H.out.lfr F10⟩
end
end Go.Proofs.Ytgbmhijgpdgdbaa
