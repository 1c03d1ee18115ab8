/- The program's link: a round of Hellos to its peers. -/
import Derived.Test.YtgbmhijgpdgdbaaLpPHello
import Derived.Test.YtgbmhijgpdgdbaaLpOuts
set_option maxHeartbeats 4000000
set_option maxRecDepth 100000
namespace Go.Proofs.Ytgbmhijgpdgdbaa
open Go.RowKit Go.Shelf
attribute [local go_sem] Oper.semAt_some
theorem pstill (w : World) (B K : Nat) (c : LC) (cs : Array Value) (k : Kn) (hB : Blk w B 119 cs) (hd : cs[11]? = some (.bool c.dm)) (hK : Blk w K 139 k.cells) :
    Calls Try.prog 106 #[.pointer (some ⟨B, 0, none⟩), .pointer (some ⟨K, 0, none⟩)] w fun e w' => e = .returned (.bool (Pl.still c k)) ∧ w = w' := by
  have c11 : w.cell? ⟨B, 11, none⟩ = some (.bool c.dm) := (hB.cell 11).trans hd
  have k2 : w.cell? ⟨K, 2, none⟩ = some (.int .u8 k.st) := hK.cell 2
  have k6 : w.cell? ⟨K, 6, none⟩ = some (.int .u8 k.op) := hK.cell 6
  have k9 : w.cell? ⟨K, 9, none⟩ = some (.bool k.fu) := hK.cell 9
  have hBl := hB.lt
  have hKl := hK.lt
  clear hB hK hd
  obtain ⟨dm, hdm⟩ : ∃ d, d = c.dm := ⟨_, rfl⟩
  obtain ⟨fu, hfu⟩ : ∃ d, d = k.fu := ⟨_, rfl⟩
  have HV : Hid (Pl.still c k = (dm && (fu && ((bits .and .u8 k.op 32 != 0) && (k.st == 3))))) := Lib.hid (by unfold Pl.still; rw [hdm, hfu])
  rw [HV.out]
  rw [← hdm] at c11
  rw [← hfu] at k9
  clear hdm hfu
  rcases dm with _ | _
  · go_enter Try.func106, Try.ntmps106
    go_wp2_with fail
    go_ret
    exact ⟨rfl, rfl⟩
  · rcases fu with _ | _
    · go_enter Try.func106, Try.ntmps106
      go_wp2_with fail
      go_ret
      exact ⟨rfl, rfl⟩
    · rcases ho : (bits .and .u8 k.op 32 != 0) with _ | _
      · go_enter Try.func106, Try.ntmps106
        go_wp2_with fail
        go_ret
        exact ⟨by simp, rfl⟩
      · go_enter Try.func106, Try.ntmps106
        go_wp2_with fail
        go_ret
        exact ⟨by simp, rfl⟩
def sendsOf (c : LC) (s : Pl.St) (pre : List (Nat × Kn)) : List (Int × Pl.Hel) := pre.map fun x => (x.2.ad, Pl.hel c s)
structure AccR (w2 : World) (X : Nat) (c : LC) (s : Pl.St) (pre : List (Nat × Kn)) (W : World) : Prop where
  f : Frame (fun i => i = X) w2 W
  o : ∃ (v : Value) (nvs : List Value), nvs.length = pre.length ∧ Blk W X 85 #[v] ∧ W.ownsRow w2.heap.size 105 9 v pre.length (((sendsOf c s pre).zip nvs).flatMap scl) ∧ ∀ nv ∈ nvs, W.ownsRow w2.heap.size 25 1 nv (Pl.hel c s).nb.length ((Pl.hel c s).nb.map (Value.int .u32))
theorem AccR.own {w2 : World} {X : Nat} {c : LC} {s : Pl.St} : OwnFrom w2.heap.size (AccR w2 X c s) := by
  rintro pre W W' row ⟨hf, v, nvs, hl, hx, ho, hn⟩ hg hr
  have hr2 := fun r e => (hr r e).2
  exact ⟨frame_own hf hg hr, v, nvs, hl, blk_own hx hg hr2, row_own ho hg hr2, fun nv hm => row_own (hn nv hm) hg hr2⟩
theorem sends_eq {c : LC} {s : Pl.St} {xs : List (Nat × Kn)} (h : xs.map (·.2) = s.l) (pb : Bool) : sendsOf c s (xs.filter fun x => Pl.due c s pb x.2) = (s.l.filter (Pl.due c s pb)).map fun k => (k.ad, Pl.hel c s) := by
  unfold sendsOf
  rw [← h, List.filter_map, List.map_map]
  rfl
section
variable {lo : Nat} {w : World} {B : Nat} {c : LC} {s : Pl.St} {A : Option Addr} {cap : Nat} {xs : List (Nat × Kn)}
theorem pround_p (h : PAt lo w B c s A cap xs) (hlen : xs.length ≤ 60000) (hn0 : 0 ≤ c.nb) (hn1 : c.nb ≤ 32) (hp : c.peers = true) (pb : Bool) : Calls Try.prog 69 #[.pointer (some ⟨B, 0, none⟩), .bool pb] w fun e w' => ∃ u, e = .returned u ∧ OutsOwn w.heap.size 105 w' u (Pl.round c s pb) ∧ Below w.heap.size w w' := by
  have HRd : Hid (Pl.round c s pb = (s.l.filter (Pl.due c s pb)).map fun k => (k.ad, Pl.hel c s)) := Lib.hid (by unfold Pl.round; rw [if_pos hp])
  have H := Lib.hid h
  have HP : Hid (∀ W, Calls Try.prog 63 #[.agg #[.int .u8 c.ty, .int .u32 c.ro, .int .u32 c.na, .int .u8 c.nb, .int .u32 c.ad, .int .u8 c.op, .int .u16 c.hi, .int .u32 c.dd, .int .u16 c.po, .int .u8 c.pr, .bool c.dm, .bool c.ps, c.pe, .int .u32 c.rm]] W fun e w' => e = .returned (.bool true) ∧ Below W.heap.size W w') := Lib.hid (fun W => by have h := peers_any c W; rw [hp] at h; exact h)
  have HCap := Lib.hid hlen
  have hlt : B < w.heap.size := h.b.lt
  have hmf : ∀ (fn : Fn) (first cap : Array Value) (w : World), (Instr.makeFunc fn first cap).run Try.prog w = .ok (.func fn first cap) w := fun _ _ _ _ => rfl
  clear h hp
  refine (callsIn_wide (n := 3)).1 ?_
  refine callsIn_of_wp_marks Try.func69 rfl trivial ?_ rfl
  rw [wpIn_wide]
  simp only [Try.ntmps69, List.size_toArray, List.length_cons, List.length_nil, Nat.reduceAdd, Nat.reduceSub, Array.replicate_succ, Array.replicate_zero, List.push_toArray, List.append_toArray, List.nil_append, List.cons_append]
  go_upto_region 2 with fail
  obtain ⟨W0, hW0⟩ : ∃ W0, W0 = (((w.alloc (.cells #[.pointer (some ⟨B, 0, none⟩)] 78)).alloc (.cells #[.bool pb] 4)).alloc (.cells #[.slice none 0 0] 85)).alloc (.cells #[.slice none 0 0] 85) := ⟨_, rfl⟩
  have A0 : Hid (Blk W0 w.heap.size 78 #[.pointer (some ⟨B, 0, none⟩)]) := Lib.hid (by rw [hW0]; exact (((Blk.new w _ _).alloc _).alloc _).alloc _)
  have A1 : Hid (Blk W0 (w.heap.size + 1) 4 #[.bool pb]) := Lib.hid (by rw [hW0]; have := Blk.new (w.alloc (.cells #[.pointer (some ⟨B, 0, none⟩)] 78)) 4 #[.bool pb]; rw [World.size_alloc] at this; exact ((this).alloc _).alloc _)
  have A2 : Hid (Blk W0 (w.heap.size + 1 + 1) 85 #[.slice none 0 0]) := Lib.hid (by rw [hW0]; have := Blk.new ((w.alloc (.cells #[.pointer (some ⟨B, 0, none⟩)] 78)).alloc (.cells #[.bool pb] 4)) 85 #[.slice none 0 0]; simp only [World.size_alloc] at this; exact (this).alloc _)
  have A3 : Hid (Blk W0 (w.heap.size + 1 + 1 + 1) 85 #[.slice none 0 0]) := Lib.hid (by rw [hW0]; have := Blk.new (((w.alloc (.cells #[.pointer (some ⟨B, 0, none⟩)] 78)).alloc (.cells #[.bool pb] 4)).alloc (.cells #[.slice none 0 0] 85)) 85 #[.slice none 0 0]; simp only [World.size_alloc] at this; exact this)
  have B0 : Hid (Below w.heap.size w W0) := Lib.hid (by rw [hW0]; exact ((((Below.refl _ w).alloc (Nat.le_refl _) _).alloc (by simp) _).alloc (by simp; omega) _).alloc (by simp; omega) _)
  have hs0 : w.heap.size + 1 + 1 + 1 < W0.heap.size := A3.out.lt
  rw [← hW0]
  clear hW0
  have K0 := Lib.hid (H.out.b.below B0.out hlt)
  have p0 : W0.cell? ⟨w.heap.size, 0, none⟩ = some (.pointer (some ⟨B, 0, none⟩)) := A0.out.cell 0
  obtain ⟨e1, e2, e3, e4, e5, e6, e7, e8, e9, e10, e11, e12, e13, e14⟩ := lks_cs K0.out
  have hl0 : B < W0.heap.size := K0.out.lt
  go_wp2_with fail
  refine (HP.out _).mono ?_
  rintro e w1 ⟨rfl, hb1⟩
  have A01 := Lib.hid (A0.out.below hb1 A0.out.lt)
  have A11 := Lib.hid (A1.out.below hb1 A1.out.lt)
  have A21 := Lib.hid (A2.out.below hb1 A2.out.lt)
  have A31 := Lib.hid (A3.out.below hb1 A3.out.lt)
  have B1 := Lib.hid (B0.out.trans (hb1.mono B0.out.size))
  clear p0 e1 e2 e3 e4 e5 e6 e7 e8 e9 e10 e11 e12 e13 e14 hl0 hb1 A0 A1 A2 A3 B0 K0
  have p1 : w1.cell? ⟨w.heap.size, 0, none⟩ = some (.pointer (some ⟨B, 0, none⟩)) := A01.out.cell 0
  go_wp2_with fail
  refine (all_made _ _ _ ⟨_, rfl⟩ ⟨_, _, _, rfl⟩).mono ?_
  rintro e w2 ⟨rfl, hb2, b1, b2⟩
  have h2l : w1.heap.size + 1 < w2.heap.size := lt_of_cell b2
  have A02 := Lib.hid (A01.out.below hb2 A01.out.lt)
  have A12 := Lib.hid (A11.out.below hb2 A11.out.lt)
  have A22 := Lib.hid (A21.out.below hb2 A21.out.lt)
  have A32 := Lib.hid (A31.out.below hb2 A31.out.lt)
  have B2 := Lib.hid (B1.out.trans (hb2.mono B1.out.size))
  have hw1 : w.heap.size + 1 + 1 + 1 < w1.heap.size := A31.out.lt
  have hw2 : w.heap.size + 1 + 1 + 1 < w2.heap.size := A32.out.lt
  clear p1 hb2 A01 A11 A21 A31
  go_wp2_with fail
  rw [← wpIn_wide (n := 3)]
  obtain ⟨i0, hi, hz0, hz1, hz2⟩ := info_parts send_info
  obtain ⟨X, hX⟩ : ∃ X, X = w.heap.size + 1 + 1 + 1 := ⟨_, rfl⟩
  obtain ⟨I, hI⟩ : ∃ I : List (Nat × Kn) → World → Prop, I = AccR w2 X c s := ⟨_, rfl⟩
  have HI := Lib.hid hI
  clear hI
  have HXe := Lib.hid hX
  have hIo : OwnFrom w2.heap.size I := by rw [HI.out]; exact AccR.own
  have hI0 : I [] w2 := by rw [HI.out, hX]; exact ⟨Frame.refl _ _, .slice none 0 0, [], rfl, A32.out, World.ownsRow_nil _ _ _ _, fun nv h => by cases h⟩
  have hIf : ∀ pre W, I pre W → Frame (fun i => (w.heap.size ≤ i ∧ i < w1.heap.size) ∨ ∃ x ∈ xs, x.1 = i) w2 W := by
    intro pre W hi
    rw [HI.out] at hi
    exact hi.f.mono (fun i e => .inl (by omega))
  have hseq := seq_round 2 (by omega) w2 I (·.1) (fun x => Pl.due c s pb x.2) B w1.heap.size (w1.heap.size + 1) w.heap.size (w.heap.size + 1) xs A cap (leans_mk H.out (by omega) B2.out (by omega) b1 b2 hIf (fun k x W hx hi => by
    have hm := List.mem_of_getElem? hx
    have hxl := (H.out.k x hm).1.lt
    rw [HI.out] at hi
    have hBW := hi.f.blk (H.out.b.below B2.out hlt) (by omega)
    have hxW := hi.f.blk ((H.out.k x hm).1.below B2.out hxl) (by omega)
    have hc0 := hi.f.blk A02.out (by omega)
    have hc1 := hi.f.blk A12.out (by omega)
    exact round1_any W B x.1 _ _ c s.st s.dr s.bd s.wt s.nx s.po s.re _ pb _ _ _ hBW (hxW.cell 1) (hxW.cell 2) (hxW.cell 3) (hc0.cell 0) (hc1.cell 0)))
  clear hX
  refine wpIn_rangeFunc_I (n := 3) (by omega) rfl trivial enters_all1 hseq (fun _ => rfl) hIo (Ix := fun _ _ => False) (fun _ _ _ _ hs _ _ => hs) hI0 ?a₁ ?assign ?body ?done (fun _ _ _ _ _ h _ => h.elim)
  case assign =>
    intro l x W K hK
    gi_wp2
    exact hK
  case body =>
    rintro l pre x W hIx ⟨k0, hx0, hisx, hpre, _⟩
    have hxm := List.mem_of_getElem? hx0
    have hpl : pre.length ≤ 60000 := by rw [hpre]; exact Nat.le_trans (List.length_filter_le _ _) (by rw [List.length_take]; omega)
    clear hpre
    rw [HI.out] at hIx
    obtain ⟨hf, v, nvs, hnl, hx, hown, hnv⟩ := hIx
    obtain ⟨va, vm, rfl⟩ := own_slice hown
    have hxl := (H.out.k x hxm).1.lt
    have hXw : X = w.heap.size + 1 + 1 + 1 := HXe.out
    have HF := Lib.hid hf
    have HX := Lib.hid hx
    have HOwn := Lib.hid hown
    have HNv := Lib.hid hnv
    have HNl := Lib.hid hnl
    have x1 : W.cell? ⟨x.1, 1, none⟩ = some (.int .u32 x.2.ad) := fcell hf ((B2.out.cell (p := ⟨x.1, 1, none⟩) hxl).trans (H.out.kn hxm 1 _ rfl)) (by omega)
    have xo : W.cell? ⟨X, 0, none⟩ = some (.slice va pre.length vm) := hx.cell 0
    have xl : W.cell? ⟨w.heap.size, 0, none⟩ = some (.pointer (some ⟨B, 0, none⟩)) := fcell hf (A02.out.cell 0) (by omega)
    have hsW0 : w2.heap.size ≤ W.heap.size := hf.size
    have hXW : X < W.heap.size := by omega
    have hPW : Hid (PAt lo W B c s A cap xs) := Lib.hid ((H.out.below B2.out).fr hf (by omega) (fun L hL => by
      obtain ⟨L', e, h1, _⟩ := H.out.at_ hx0
      rw [e] at hL
      injection hL with hL
      injection hL with hL
      omega) (fun y hy => by have := (H.out.k y hy).1.lt; omega))
    have hHel : Hid (Calls Try.prog 74 #[.pointer (some ⟨B, 0, none⟩)] W.drew fun e w' => RHel c s W.drew e w') := Lib.hid (phello (hPW.out.below ((Below.refl _ W).drew)) (by omega) hn0 hn1)
    have hX2 : X < w2.heap.size := by omega
    rw [← hXw]
    clear hx hown hf hnv hnl hXw
    gi_wp2_with fail
    refine wpIn_region_lex (C := fun w' => w'.cell? ⟨X, 0, none⟩ = some (.slice va pre.length vm) ∧ w'.cell? ⟨x.1, 1, none⟩ = some (.int .u32 x.2.ad) ∧ w'.cell? ⟨w.heap.size, 0, none⟩ = some (.pointer (some ⟨B, 0, none⟩))) 10 [true, true, true, true, true, true, true, false] (by kernel_rfl) (by kernel_rfl) (by kernel_rfl) (fun ⟨_, _, h⟩ => h) (fun _ _ _ _ _ h => h) ⟨xo, x1, xl⟩ ?_
    refine ⟨.slice va pre.length vm, ⟨rfl, fun w' ⟨h, _, _⟩ => by simp [go_sem, h]⟩, ?_⟩
    refine ⟨.pointer (some ⟨x.1, 0, none⟩), ⟨rfl, fun w' _ => by simp [go_sem, Act.put]⟩, ?_⟩
    refine ⟨.pointer (some ⟨x.1, 0, none⟩), ⟨rfl, fun w' _ => by simp [go_sem, Act.put]⟩, ?_⟩
    refine ⟨.pointer (some ⟨x.1, 0, none⟩), ⟨rfl, fun w' _ => by simp [go_sem, Act.put]⟩, ?_⟩
    simp only [Act.put, List.setIfInBounds_toArray, List.set_cons_succ, List.set_cons_zero]
    refine ⟨.pointer (some ⟨x.1, 1, none⟩), ⟨rfl, fun w' _ => by simp [go_sem]⟩, ?_⟩
    refine ⟨.int .u32 x.2.ad, ⟨rfl, fun w' ⟨_, h, _⟩ => by simp [go_sem, Act.put, h]⟩, ?_⟩
    refine ⟨.pointer (some ⟨B, 0, none⟩), ⟨rfl, fun w' ⟨_, _, h⟩ => by simp [go_sem, Act.put, h]⟩, ?_⟩
    simp only [Act.put, List.setIfInBounds_toArray, List.set_cons_succ, List.set_cons_zero]
    refine wpLex_call rfl rfl ?hr hHel.out ?_
    case hr => simp [go_sem]
    rintro e wx ⟨nv, rfl, hno, hbx⟩
    obtain ⟨ha, hk, rfl⟩ := own_slice hno
    obtain ⟨q, hq⟩ : ∃ q, (Pl.hel c s).nb.length = q := ⟨_, rfl⟩
    have Hq := Lib.hid hq
    rw [hq] at hno ⊢
    clear hq
    have hwy : Below W.heap.size W wx := ⟨hbx.os, hbx.tape, hbx.output, hbx.size, hbx.block⟩
    have hcx : wx.cell? ⟨X, 0, none⟩ = some (.slice va pre.length vm) ∧ wx.cell? ⟨x.1, 1, none⟩ = some (.int .u32 x.2.ad) ∧ wx.cell? ⟨w.heap.size, 0, none⟩ = some (.pointer (some ⟨B, 0, none⟩)) := ⟨(hwy.cell (p := ⟨X, 0, none⟩) hXW).trans xo, (hwy.cell (p := ⟨x.1, 1, none⟩) (lt_of_cell x1)).trans x1, (hwy.cell (p := ⟨w.heap.size, 0, none⟩) (lt_of_cell xl)).trans xl⟩
    have HCX := Lib.hid hcx
    have HNo := Lib.hid hno
    clear hbx hcx hno
    refine ⟨_, rfl, HCX.out, ?_⟩
    unfold hval
    simp only [Act.put, List.setIfInBounds_toArray, List.set_cons_succ, List.set_cons_zero]
    refine wpListK_step rfl rfl ?_
    simp [Oper.wp, Oper.upon, go_sem]
    refine ⟨HCX.out, ?_⟩
    refine wpListK_step rfl rfl ?_
    simp [Oper.wp, Oper.upon, go_sem]
    refine ⟨⟨((hwy.alloc hwy.size _).cell (p := ⟨X, 0, none⟩) hXW).trans xo, ((hwy.alloc hwy.size _).cell (p := ⟨x.1, 1, none⟩) (lt_of_cell x1)).trans x1, ((hwy.alloc hwy.size _).cell (p := ⟨w.heap.size, 0, none⟩) (lt_of_cell xl)).trans xl⟩, ?_⟩
    refine wpListK_of_list _ 10 _ _ (Nat.le_refl _) (fun j => match j with
      | 0 => rfl
      | 1 => rfl
      | j + 2 => by simp; omega) ?_
    obtain ⟨wz, hwz⟩ : ∃ wz, wz = wx.alloc (.cells #[.int .u32 x.2.ad, .int .u32 (Pl.hel c s).ma, .int .u16 (Pl.hel c s).hi, .int .u8 (Pl.hel c s).op, .int .u8 (Pl.hel c s).pr, .int .u32 (Pl.hel c s).dd, .int .u32 (Pl.hel c s).dr, .int .u32 (Pl.hel c s).bd, .slice ha q hk] 105) := ⟨_, rfl⟩
    have HLit := Lib.hid (Reads.of_own (World.ownsRow_lit (base := 0) (e := 105) (size := 9) wx #[.int .u32 x.2.ad, .int .u32 (Pl.hel c s).ma, .int .u16 (Pl.hel c s).hi, .int .u8 (Pl.hel c s).op, .int .u8 (Pl.hel c s).pr, .int .u32 (Pl.hel c s).dd, .int .u32 (Pl.hel c s).dr, .int .u32 (Pl.hel c s).bd, .slice ha q hk] 1 (Nat.zero_le _) (by simp [maxLen]) rfl))
    rw [← hwz] at HLit
    rw [← hwz]
    have hwW : Below W.heap.size W wz := by rw [hwz]; exact hwy.alloc hwy.size _
    have hownz : wz.ownsRow w2.heap.size 105 9 (.slice va pre.length vm) pre.length (((sendsOf c s pre).zip nvs).flatMap scl) := (Frame.of_below (S := fun _ => False) hwW).own HOwn.out (fun _ _ e => e)
    have hnoz : wz.ownsRow W.heap.size 25 1 (.slice ha q hk) q ((Pl.hel c s).nb.map (Value.int .u32)) := by rw [hwz]; exact (Frame.of_below (S := fun _ => False) ((Below.refl _ wx).alloc (Nat.le_refl _) _)).own HNo.out (fun _ _ e => e)
    have hsW : W.heap.size ≤ wz.heap.size := hwW.size
    refine wpList_append_any _ rfl (.tmp 17) (.tmp 26) _ rfl w2.heap.size 105 i0 _ 9 56 Try.underlying85 hi hz0 hz1 hz2 rfl (by omega) (.slice va pre.length vm) pre.length _ rfl hownz _ (some ⟨wx.heap.size, 0, none⟩) 1 1 _ rfl HLit.out (by simp [Value.oneCell']) (by unfold maxLen; omega) (by omega) (by omega) ?_
    intro v1 w4 hown1 hg1 _
    have hne : (Value.slice va pre.length vm).ownBlock ≠ some X := fun e => by have := (own_cells hownz X e).1; omega
    have hX4 : Blk w4 X 85 #[.slice va pre.length vm] := (HX.out.below hwW hXW).grown hg1 hne.symm
    have hX40 : w4.cell? ⟨X, 0, none⟩ = some (.slice va pre.length vm) := hX4.cell 0
    have hfz4 := hX4.frozen 0
    have hlt4 := hX4.lt
    obtain ⟨vb, vn, rfl⟩ := own_slice hown1
    have HOwn1 := Lib.hid hown1
    have HG1 := Lib.hid hg1
    have HX4 := Lib.hid hX4
    have HWW := Lib.hid hwW
    have HOz := Lib.hid hownz
    have HNz := Lib.hid hnoz
    clear hown1 hg1 hne hX4 hwW hownz hnoz xo x1 xl hwy hwz
    go_wp2_with fail
    have hX5 : Blk (w4.setCell ⟨X, 0, none⟩ (.slice vb (pre.length + 1) vn)) X 85 #[.slice vb (pre.length + 1) vn] := HX4.out.set_ 0 _
    refine ⟨?_, ?_⟩
    · refine (below_others HWW.out).trans ((KeepsOthers.of_grownBy HG1.out ?_).trans (KeepsOthers.setCell _ _ _))
      intro j o e hj
      obtain ⟨_, cs, hc⟩ := own_cells HOz.out j e
      rw [hc] at hj
      cases hj
      rfl
    · rw [HI.out]
      have hFz : Frame (fun j => (Value.slice va pre.length vm).ownBlock = some j ∨ j = X) wz (w4.setCell ⟨X, 0, none⟩ (.slice vb (pre.length + 1) vn)) := (Frame.of_grown HG1.out (fun j e _ => .inl e)).setCell (p := ⟨X, 0, none⟩) (fun _ => .inr rfl) _
      have hF : Frame (fun j => (Value.slice va pre.length vm).ownBlock = some j ∨ j = X) W (w4.setCell ⟨X, 0, none⟩ (.slice vb (pre.length + 1) vn)) := (Frame.of_below HWW.out).trans hFz
      refine ⟨HF.out.trans' hF (fun i hi e => ?_), .slice vb (pre.length + 1) vn, nvs ++ [.slice ha q hk], ?_, hX5, ?_, ?_⟩
      · rcases e with e | e
        · have := (own_cells HOz.out i e).1
          omega
        · exact e
      · rw [List.length_append, List.length_append, HNl.out]; rfl
      · rw [List.length_append, show ((sendsOf c s (pre ++ [x])).zip (nvs ++ [.slice ha q hk])).flatMap scl = ((sendsOf c s pre).zip nvs).flatMap scl ++ [.int .u32 x.2.ad, .int .u32 (Pl.hel c s).ma, .int .u16 (Pl.hel c s).hi, .int .u8 (Pl.hel c s).op, .int .u8 (Pl.hel c s).pr, .int .u32 (Pl.hel c s).dd, .int .u32 (Pl.hel c s).dr, .int .u32 (Pl.hel c s).bd, .slice ha q hk] from by
          unfold sendsOf
          rw [List.map_append, List.zip_append (by rw [List.length_map]; exact HNl.out.symm), List.flatMap_append]
          rfl]
        exact own_far HOwn1.out (q := ⟨X, 0, none⟩) (fun e => by have : w2.heap.size ≤ X := (own_cells HOwn1.out _ e).1; omega) _
      · intro nv hm
        rcases List.mem_append.1 hm with hm | hm
        · refine hF.own (HNv.out nv hm) (fun g hg e => ?_)
          rcases e with e | e
          · exact rows_apart (HNv.out nv hm) HOwn.out (by decide) hg e
          · have := (own_cells (HNv.out nv hm) g hg).1
            omega
        · rw [List.mem_singleton.1 hm, Hq.out]
          refine ownsRow_lower (hFz.own HNz.out (fun g hg e => ?_)) hsW0
          rcases e with e | e
          · exact rows_apart HNz.out HOz.out (by decide) hg e
          · have := (own_cells HNz.out g hg).1
            omega
  case done =>
    intro D ys W hD hys hIx hK
    rw [HI.out] at hIx
    obtain ⟨hf, v, nvs, hnl, hx, hown, hnv⟩ := hIx
    obtain ⟨va, vm, rfl⟩ := own_slice hown
    have hXw : X = w.heap.size + 1 + 1 + 1 := HXe.out
    have HX := Lib.hid hx
    have HY := Lib.hid (hf.blk A22.out (by omega))
    have HB := Lib.hid (below_fr B2.out hf (fun i e => by omega) (by omega))
    have HOwn := Lib.hid hown
    have HNv := Lib.hid hnv
    have HNl := Lib.hid hnl
    have HYs := Lib.hid hys
    have hyl : ys.length ≤ 60000 := by rw [hys]; exact Nat.le_trans (List.length_filter_le _ _) hlen
    have hsW0 : w2.heap.size ≤ W.heap.size := hf.size
    have xo : W.cell? ⟨w.heap.size + 1 + 1 + 1, 0, none⟩ = some (.slice va ys.length vm) := by rw [← hXw]; exact hx.cell 0
    have yo : W.cell? ⟨w.heap.size + 1 + 1, 0, none⟩ = some (.slice none 0 0) := HY.out.cell 0
    have fy := HY.out.frozen 0
    have hly := HY.out.lt
    have hDl : D < W.heap.size := (Array.getElem?_eq_some_iff.1 hK).1
    clear hx hown hys hf hnv hnl
    dsimp only
    go_wp2_with fail
    obtain ⟨W4, hW4⟩ : ∃ W4, W4 = W.setCell ⟨w.heap.size + 1 + 1, 0, none⟩ (.slice va ys.length vm) := ⟨_, rfl⟩
    rw [← hW4]
    have hwD : w.heap.size + 1 + 1 < D := by omega
    have hK4 : W4.heap[D]? = some (.deferred (some [])) := by
      rw [hW4, heap_far _ _ hwD]
      exact hK
    have kR : Blk W4 (w.heap.size + 1 + 1) 85 #[.slice va ys.length vm] := by rw [hW4]; exact HY.out.set_ 0 _
    have hF4 : Frame (fun j => j = w.heap.size + 1 + 1) W W4 := by rw [hW4]; exact (Frame.refl _ W).setB 0 _
    have hF9 : Frame (fun j => j = D) W4 (W4.putObj D (.deferred none)) := Frame.of_grown (grownBy_putObj' W4 D (.deferred none)) (fun k e _ => (Option.some.inj e).symm)
    have hB4 : Below w.heap.size w W4 := below_fr HB.out hF4 (fun i e => by omega) (by have := HB.out.size; omega)
    have ho4 := hF4.own HOwn.out (fun g hg e => by have := (own_cells HOwn.out g hg).1; omega)
    have ho9 := hF9.own ho4 (fun g hg e => by
      obtain ⟨_, cs, h3⟩ := own_cells ho4 g hg
      rw [e, hK4] at h3
      cases h3)
    refine ⟨by simp, .inl ⟨_, _, rfl, run_takeDeferred hK4, ?_⟩⟩
    have k9 := kR.grown (grownBy_putObj' W4 D (.deferred none)) (by simp; omega)
    have u0 := (k9.cell 0).trans rfl
    refine ⟨.slice va ys.length vm, ?_, .slice va ys.length vm, rfl, ?_, hB4.trans (below_put hK4 (by omega))⟩
    · simp [results, Try.f69, go_sem, u0]
    · rw [HRd.out, ← sends_eq H.out.l pb, ← HYs.out]
      have hsl : (sendsOf c s ys).length = ys.length := by unfold sendsOf; rw [List.length_map]
      refine ⟨nvs, by rw [hsl]; exact HNl.out, by rw [hsl]; exact ownsRow_lower ho9 (by have := B2.out.size; omega), fun i y nv hy hn => ?_⟩
      have hnm := List.mem_of_getElem? hn
      have hy2 : y.2 = Pl.hel c s := by
        have := List.mem_of_getElem? hy
        unfold sendsOf at this
        obtain ⟨z, _, rfl⟩ := List.mem_map.1 this
        rfl
      rw [hy2]
      have h4 := hF4.own (HNv.out nv hnm) (fun g hg e => by have := (own_cells (HNv.out nv hnm) g hg).1; omega)
      refine ⟨?_, _, hF9.own h4 (fun g hg e => by
        obtain ⟨_, cs, h3⟩ := own_cells h4 g hg
        rw [e, hK4] at h3
        cases h3)⟩
      show ((s.l.filter Pl.heard).map (·.ro)).length ≤ 65536
      rw [List.length_map]
      have h1 := List.length_filter_le Pl.heard s.l
      have h2 := H.out.len
      omega
end
end Go.Proofs.Ytgbmhijgpdgdbaa
