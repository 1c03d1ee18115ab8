/- The program's link: a round of Hellos of a link without peers. -/
import Derived.Test.YtgbmhijgpdgdbaaLpPRound
set_option maxHeartbeats 4000000
set_option maxRecDepth 100000
namespace Go.Proofs.Ytgbmhijgpdgdbaa
open Go.RowKit Go.Shelf
attribute [local go_sem] Oper.semAt_some
def stillK (c : LC) (x : Nat × Kn) : Bool := decide (3 ≤ c.ty) && Pl.still c x.2
theorem round2_is (w : World) (B K C0 : Nat) (c : LC) (cs : Array Value) (x : Nat × Kn) (hB : Blk w B 119 cs) (h1 : cs[1]? = some (.int .u8 c.ty)) (hd : cs[11]? = some (.bool c.dm)) (_hx : x.1 = K) (hK : Blk w K 139 x.2.cells) (h0 : w.cell? ⟨C0, 0, none⟩ = some (.pointer (some ⟨B, 0, none⟩))) :
    Calls Try.prog 105 (#[.pointer (some ⟨K, 0, none⟩)] ++ #[.pointer (some ⟨C0, 0, none⟩)]) w fun e w' => e = .returned (.bool (stillK c x)) ∧ ∃ q, w' = w.drewN q := by
  have c1 : w.cell? ⟨B, 1, none⟩ = some (.int .u8 c.ty) := (hB.cell 1).trans h1
  have HS := Lib.hid (pstill w B K c cs x.2 hB hd hK)
  have hBl := hB.lt
  clear hB hK h1 hd
  show Calls Try.prog 105 #[.pointer (some ⟨K, 0, none⟩), .pointer (some ⟨C0, 0, none⟩)] w _
  rcases h3 : decide (3 ≤ c.ty) with _ | _
  · go_enter Try.func105, Try.ntmps105
    go_wp2_with fail
    go_ret
    exact ⟨by unfold stillK; rw [h3]; rfl, 0, rfl⟩
  · go_enter Try.func105, Try.ntmps105
    go_wp2_with fail
    refine HS.out.mono ?_
    rintro e w' ⟨rfl, rfl⟩
    go_wp2_with fail
    go_ret
    exact ⟨by unfold stillK; rw [h3]; simp, 0, rfl⟩
def hush (c : LC) (s : Pl.St) : Bool := s.l.length == 1 && s.l.all (Pl.still c)
theorem hush_no {c : LC} {s : Pl.St} {xs : List (Nat × Kn)} (hl : xs.map (·.2) = s.l) (hdm : c.dm = true → 3 ≤ c.ty) (h : xs.filter (stillK c) = []) : hush c s = false := by
  unfold hush
  rw [← hl]
  match xs, h with
  | [], _ => rfl
  | [x], h =>
    rcases hs : Pl.still c x.2 with _ | _
    · simp [hs]
    · have hd : c.dm = true := by
        unfold Pl.still at hs
        cases hc : c.dm with
        | true => rfl
        | false => rw [hc] at hs; cases hs
      have := hdm hd
      rw [List.filter_cons_of_pos (by unfold stillK; rw [hs]; simp [this])] at h
      cases h
  | x :: y :: t, _ => simp
theorem hush_yes {c : LC} {s : Pl.St} {xs : List (Nat × Kn)} (hl : xs.map (·.2) = s.l) (ho : 3 ≤ c.ty → xs.length ≤ 1) {k : Nat} {x : Nat × Kn} (hx : xs[k]? = some x) (h : stillK c x = true) : hush c s = true := by
  unfold stillK at h
  simp only [Bool.and_eq_true, decide_eq_true_eq] at h
  have h1 := ho h.1
  unfold hush
  rw [← hl]
  match xs, hx, h1 with
  | [], hx, _ => simp at hx
  | [z], hx, _ =>
    obtain rfl : z = x := by
      have := List.mem_of_getElem? hx
      exact (List.mem_singleton.1 this).symm
    simp [h.2]
  | x :: y :: t, _, h1 => simp at h1
section
variable {lo : Nat} {w : World} {B : Nat} {c : LC} {s : Pl.St} {A : Option Addr} {cap : Nat} {xs : List (Nat × Kn)}
theorem pround_o (h : PAt lo w B c s A cap xs) (hlen : xs.length ≤ 60000) (hn0 : 0 ≤ c.nb) (hn1 : c.nb ≤ 32) (hp : c.peers = false) (ht : c.ty ≠ 4) (ho : 3 ≤ c.ty → xs.length ≤ 1) (hdm : c.dm = true → 3 ≤ c.ty) (pb : Bool) : Calls Try.prog 69 #[.pointer (some ⟨B, 0, none⟩), .bool pb] w fun e w' => ∃ u, e = .returned u ∧ OutsOwn w.heap.size 105 w' u (Pl.round c s pb) ∧ Below w.heap.size w w' := by
  have HRd : Hid (Pl.round c s pb = if pb || ((3758096389 == 0) || hush c s) then [] else [(3758096389, Pl.hel c s)]) := Lib.hid (by unfold Pl.round Pl.toOf hush; rw [if_neg (by rw [hp]; decide), if_neg ht]; rfl)
  have HOne := Lib.hid ho
  have HDm := Lib.hid hdm
  have e4 : (c.ty == 4) = false := by simpa using ht
  have HE4 := Lib.hid e4
  clear ho hdm ht e4
  have H := Lib.hid h
  have HP : Hid (∀ W, Calls Try.prog 63 #[.agg #[.int .u8 c.ty, .int .u32 c.ro, .int .u32 c.na, .int .u8 c.nb, .int .u32 c.ad, .int .u8 c.op, .int .u16 c.hi, .int .u32 c.dd, .int .u16 c.po, .int .u8 c.pr, .bool c.dm, .bool c.ps, c.pe, .int .u32 c.rm]] W fun e w' => e = .returned (.bool false) ∧ Below W.heap.size W w') := Lib.hid (fun W => by have h := peers_any c W; rw [hp] at h; exact h)
  have HCap := Lib.hid hlen
  have hlt : B < w.heap.size := h.b.lt
  have hmf : ∀ (fn : Fn) (first cap : Array Value) (w : World), (Instr.makeFunc fn first cap).run Try.prog w = .ok (.func fn first cap) w := fun _ _ _ _ => rfl
  clear h hp
  refine (callsIn_wide (n := 3)).1 ?_
  refine callsIn_of_wp_marks Try.func69 rfl trivial ?_ rfl
  rw [wpIn_wide]
  simp only [Try.ntmps69, List.size_toArray, List.length_cons, List.length_nil, Nat.reduceAdd, Nat.reduceSub, Array.replicate_succ, Array.replicate_zero, List.push_toArray, List.append_toArray, List.nil_append, List.cons_append]
  go_upto_region 2 with fail
  obtain ⟨W0, hW0⟩ : ∃ W0, W0 = (((w.alloc (.cells #[.pointer (some ⟨B, 0, none⟩)] 78)).alloc (.cells #[.bool pb] 4)).alloc (.cells #[.slice none 0 0] 85)).alloc (.cells #[.slice none 0 0] 85) := ⟨_, rfl⟩
  have A0 : Hid (Blk W0 w.heap.size 78 #[.pointer (some ⟨B, 0, none⟩)]) := Lib.hid (by rw [hW0]; exact (((Blk.new w _ _).alloc _).alloc _).alloc _)
  have A1 : Hid (Blk W0 (w.heap.size + 1) 4 #[.bool pb]) := Lib.hid (by rw [hW0]; have := Blk.new (w.alloc (.cells #[.pointer (some ⟨B, 0, none⟩)] 78)) 4 #[.bool pb]; rw [World.size_alloc] at this; exact ((this).alloc _).alloc _)
  have A2 : Hid (Blk W0 (w.heap.size + 1 + 1) 85 #[.slice none 0 0]) := Lib.hid (by rw [hW0]; have := Blk.new ((w.alloc (.cells #[.pointer (some ⟨B, 0, none⟩)] 78)).alloc (.cells #[.bool pb] 4)) 85 #[.slice none 0 0]; simp only [World.size_alloc] at this; exact (this).alloc _)
  have A3 : Hid (Blk W0 (w.heap.size + 1 + 1 + 1) 85 #[.slice none 0 0]) := Lib.hid (by rw [hW0]; have := Blk.new (((w.alloc (.cells #[.pointer (some ⟨B, 0, none⟩)] 78)).alloc (.cells #[.bool pb] 4)).alloc (.cells #[.slice none 0 0] 85)) 85 #[.slice none 0 0]; simp only [World.size_alloc] at this; exact this)
  have B0 : Hid (Below w.heap.size w W0) := Lib.hid (by rw [hW0]; exact ((((Below.refl _ w).alloc (Nat.le_refl _) _).alloc (by simp) _).alloc (by simp; omega) _).alloc (by simp; omega) _)
  have hs0 : w.heap.size + 1 + 1 + 1 < W0.heap.size := A3.out.lt
  rw [← hW0]
  clear hW0
  have K0 := Lib.hid (H.out.b.below B0.out hlt)
  have p0 : W0.cell? ⟨w.heap.size, 0, none⟩ = some (.pointer (some ⟨B, 0, none⟩)) := A0.out.cell 0
  obtain ⟨e1, e2, e3, e4, e5, e6, e7, e8, e9, e10, e11, e12, e13, e14⟩ := lks_cs K0.out
  have hl0 : B < W0.heap.size := K0.out.lt
  go_wp2_with fail
  refine (HP.out _).mono ?_
  rintro e w1 ⟨rfl, hb1⟩
  have A01 := Lib.hid (A0.out.below hb1 A0.out.lt)
  have A11 := Lib.hid (A1.out.below hb1 A1.out.lt)
  have A21 := Lib.hid (A2.out.below hb1 A2.out.lt)
  have A31 := Lib.hid (A3.out.below hb1 A3.out.lt)
  have B1 := Lib.hid (B0.out.trans (hb1.mono B0.out.size))
  clear p0 e1 e2 e3 e4 e5 e6 e7 e8 e9 e10 e11 e12 e13 e14 hl0 hb1 A0 A1 A2 A3 B0 K0
  have p1 : w1.cell? ⟨w.heap.size, 0, none⟩ = some (.pointer (some ⟨B, 0, none⟩)) := A01.out.cell 0
  have K1 := Lib.hid (H.out.b.below B1.out hlt)
  have e4 := HE4.out
  have g1 : w1.cell? ⟨B, 1, none⟩ = some (.int .u8 c.ty) := K1.out.cell 1
  have g21 : w1.cell? ⟨B, 21, none⟩ = some (.int .u32 s.re) := K1.out.cell 21
  go_wp2_with fail
  refine (all_made _ _ _ ⟨_, rfl⟩ ⟨_, _, _, rfl⟩).mono ?_
  rintro e w2 ⟨rfl, hb2, b1, b2⟩
  have h2l : w1.heap.size + 1 < w2.heap.size := lt_of_cell b2
  have A02 := Lib.hid (A01.out.below hb2 A01.out.lt)
  have A12 := Lib.hid (A11.out.below hb2 A11.out.lt)
  have A22 := Lib.hid (A21.out.below hb2 A21.out.lt)
  have A32 := Lib.hid (A31.out.below hb2 A31.out.lt)
  have B2 := Lib.hid (B1.out.trans (hb2.mono B1.out.size))
  have hw1 : w.heap.size + 1 + 1 + 1 < w1.heap.size := A31.out.lt
  have hw2 : w.heap.size + 1 + 1 + 1 < w2.heap.size := A32.out.lt
  clear p1 hb2 A01 A11 A21 A31
  clear g1 g21 e4
  go_wp2_with fail
  rw [← wpIn_wide (n := 3)]
  obtain ⟨Y, hY⟩ : ∃ X, X = w.heap.size + 1 + 1 := ⟨_, rfl⟩
  obtain ⟨I, hI⟩ : ∃ I : List (Nat × Kn) → World → Prop, I = fun pre W => pre = [] ∧ Frame (fun _ => False) w2 W := ⟨_, rfl⟩
  obtain ⟨Ix, hIx0⟩ : ∃ I : List (Nat × Kn) → World → Prop, I = fun _ W => Frame (fun i => i = Y) w2 W ∧ Blk W Y 85 #[.slice none 0 0] := ⟨_, rfl⟩
  have HI := Lib.hid hI
  have HIx := Lib.hid hIx0
  have HYe := Lib.hid hY
  clear hI hIx0
  have hIo : OwnFrom w2.heap.size I := by
    rw [HI.out]
    rintro pre W W' row ⟨h1, hf⟩ hg hr
    exact ⟨h1, frame_own hf hg hr⟩
  have hIxo : OwnFrom w2.heap.size Ix := by
    rw [HIx.out]
    rintro pre W W' row ⟨hf, hk⟩ hg hr
    exact ⟨frame_own hf hg hr, blk_own hk hg (fun r e => (hr r e).2)⟩
  have hI0 : I [] w2 := by rw [HI.out]; exact ⟨rfl, Frame.refl _ _⟩
  have hIf : ∀ pre W, I pre W → Frame (fun i => (w.heap.size ≤ i ∧ i < w1.heap.size) ∨ ∃ x ∈ xs, x.1 = i) w2 W := by
    intro pre W hi
    rw [HI.out] at hi
    exact hi.2.mono (fun i e => e.elim)
  have hseq := seq_round2 2 (by omega) w2 I (·.1) (stillK c) B w1.heap.size (w1.heap.size + 1) w.heap.size xs A cap (leans_mk H.out (by omega) B2.out (by omega) b1 b2 hIf (fun k x W hx hi => by
    have hm := List.mem_of_getElem? hx
    rw [HI.out] at hi
    have hBW := hi.2.blk (H.out.b.below B2.out hlt) (fun e => e)
    have hxW := hi.2.blk ((H.out.k x hm).1.below B2.out (H.out.k x hm).1.lt) (fun e => e)
    have hc0 := hi.2.blk A02.out (fun e => e)
    exact round2_is W B x.1 _ c _ x hBW rfl rfl rfl hxW (hc0.cell 0)))
  refine wpIn_rangeFunc_I (n := 3) (by omega) rfl trivial enters_all1 hseq (fun _ => rfl) hIo (Ix := Ix) hIxo hI0 ?a₁ ?assign ?body ?done ?stop
  case assign =>
    intro l x W K hK
    gi_wp2
    exact hK
  case body =>
    rintro l pre x W hIx1 _
    rw [HI.out] at hIx1
    have KY := Lib.hid (hIx1.2.blk A22.out (fun e => e))
    have yo : W.cell? ⟨w.heap.size + 1 + 1, 0, none⟩ = some (.slice none 0 0) := KY.out.cell 0
    have fy := KY.out.frozen 0
    have hyl := KY.out.lt
    have HF := Lib.hid hIx1.2
    clear hIx1
    gi_wp2_with fail
    refine ⟨KeepsOthers.setCell _ _ _, ?_⟩
    rw [HIx.out, HYe.out]
    exact ⟨(HF.out.mono (fun i e => e.elim)).setB 0 _, KY.out.set_ 0 _⟩
  case stop =>
    rintro D pre W hD ⟨k0, x, hx0, hs, _⟩ hIx1 hK
    rw [HIx.out, HYe.out] at hIx1
    have HHu : Hid (hush c s = true) := Lib.hid (hush_yes H.out.l HOne.out hx0 hs)
    obtain ⟨hf, hk⟩ := hIx1
    have hB4 : Below w.heap.size w W := below_fr B2.out hf (fun i e => by omega) (by omega)
    have hYD : w.heap.size + 1 + 1 < D := by omega
    have k9 := hk.grown (grownBy_putObj' W D (.deferred none)) (by simp; omega)
    have u0 := (k9.cell 0).trans rfl
    gi_wp2
    refine ⟨by simp, .inl ⟨_, _, rfl, run_takeDeferred hK, ?_⟩⟩
    refine ⟨.slice none 0 0, by simp [results, Try.f69, go_sem, u0], .slice none 0 0, rfl, ?_, hB4.trans (below_put hK (by omega))⟩
    rw [HRd.out, HHu.out, Bool.or_true, Bool.or_true]
    exact OutsOwn.nil _ _ _
  case done =>
    intro D ys W hD hys hIx1 hK
    rw [HI.out] at hIx1
    obtain ⟨hy0, hf⟩ := hIx1
    have HHu : Hid (hush c s = false) := Lib.hid (hush_no H.out.l HDm.out (by rw [← hys, hy0]))
    have A0D := Lib.hid (hf.blk A02.out (fun e => e))
    have A1D := Lib.hid (hf.blk A12.out (fun e => e))
    have A2D := Lib.hid (hf.blk A22.out (fun e => e))
    have HPD := Lib.hid ((H.out.below B2.out).fr hf (fun e => e) (fun _ _ e => e) (fun _ _ e => e))
    have BD := Lib.hid (below_fr B2.out hf (fun i e => e.elim) (by omega))
    have HK := Lib.hid hK
    have hDl : D < W.heap.size := (Array.getElem?_eq_some_iff.1 hK).1
    have p3 : W.cell? ⟨w.heap.size, 0, none⟩ = some (.pointer (some ⟨B, 0, none⟩)) := A0D.out.cell 0
    have p4 : W.cell? ⟨w.heap.size + 1, 0, none⟩ = some (.bool pb) := A1D.out.cell 0
    have q2 : W.cell? ⟨w.heap.size + 1 + 1, 0, none⟩ = some (.slice none 0 0) := A2D.out.cell 0
    have fz2 := A2D.out.frozen 0
    have hsz : w.heap.size + 1 + 1 < W.heap.size := A2D.out.lt
    clear hys hy0 hf hK hY
    dsimp only
    rcases pb with _ | _
    · have HRe : Hid (Pl.round c s false = [(3758096389, Pl.hel c s)]) := Lib.hid (by rw [HRd.out, HHu.out]; rfl)
      have hHel : Hid (Calls Try.prog 74 #[.pointer (some ⟨B, 0, none⟩)] W fun e w' => RHel c s W e w') := Lib.hid (phello HPD.out hlen hn0 hn1)
      go_wp2_with fail
      refine hHel.out.mono ?_
      rintro e wx ⟨nv, rfl, hno, hbx⟩
      obtain ⟨ha, hk, rfl⟩ := own_slice hno
      obtain ⟨q, hq⟩ : ∃ q, (Pl.hel c s).nb.length = q := ⟨_, rfl⟩
      have Hq := Lib.hid hq
      rw [hq] at hno ⊢
      clear hq
      have hsx : W.heap.size ≤ wx.heap.size := hbx.size
      have hlx : w.heap.size + 1 + 1 < wx.heap.size := by omega
      have r2 : wx.cell? ⟨w.heap.size + 1 + 1, 0, none⟩ = some (.slice none 0 0) := (hbx.cell (p := ⟨w.heap.size + 1 + 1, 0, none⟩) hsz).trans q2
      have A2X := Lib.hid (A2D.out.below hbx hsz)
      have fz3 := A2X.out.frozen 0
      have HNo := Lib.hid hno
      have HBx := Lib.hid hbx
      clear hno hbx q2 fz2 p3 p4
      unfold hval
      go_wp2_with fail
      obtain ⟨ws, hws⟩ : ∃ ws, ws = wx.setCell ⟨w.heap.size + 1 + 1, 0, none⟩ (.slice (some ⟨wx.heap.size, 0, none⟩) 1 1) := ⟨_, rfl⟩
      have hss : ws.heap.size = wx.heap.size := by rw [hws]; simp [World.setCell]
      have HSs := Lib.hid hss
      obtain ⟨W4, hW4⟩ : ∃ W4, W4 = ws.alloc (.cells #[.int .u32 3758096389, .int .u32 (Pl.hel c s).ma, .int .u16 (Pl.hel c s).hi, .int .u8 (Pl.hel c s).op, .int .u8 (Pl.hel c s).pr, .int .u32 (Pl.hel c s).dd, .int .u32 (Pl.hel c s).dr, .int .u32 (Pl.hel c s).bd, .slice ha q hk] 105) := ⟨_, rfl⟩
      rw [← hws, ← hW4]
      have hwD : w.heap.size + 1 + 1 < D := by omega
      have kS : Blk ws (w.heap.size + 1 + 1) 85 #[.slice (some ⟨wx.heap.size, 0, none⟩) 1 1] := by rw [hws]; exact A2X.out.set_ 0 _
      have hFs : Frame (fun j => j = w.heap.size + 1 + 1) wx ws := by rw [hws]; exact (Frame.refl _ wx).setB 0 _
      have hb4 : Below ws.heap.size ws W4 := by rw [hW4]; exact (Below.refl _ ws).alloc (Nat.le_refl _) _
      have kR := kS.below hb4 kS.lt
      have ho4 : W4.ownsRow w.heap.size 105 9 (.slice (some ⟨wx.heap.size, 0, none⟩) 1 1) 1 [.int .u32 3758096389, .int .u32 (Pl.hel c s).ma, .int .u16 (Pl.hel c s).hi, .int .u8 (Pl.hel c s).op, .int .u8 (Pl.hel c s).pr, .int .u32 (Pl.hel c s).dd, .int .u32 (Pl.hel c s).dr, .int .u32 (Pl.hel c s).bd, .slice ha q hk] := by
        have h1 := World.ownsRow_lit (base := w.heap.size) (e := 105) (size := 9) ws #[.int .u32 3758096389, .int .u32 (Pl.hel c s).ma, .int .u16 (Pl.hel c s).hi, .int .u8 (Pl.hel c s).op, .int .u8 (Pl.hel c s).pr, .int .u32 (Pl.hel c s).dd, .int .u32 (Pl.hel c s).dr, .int .u32 (Pl.hel c s).bd, .slice ha q hk] 1 (by have := BD.out.size; omega) (by simp [maxLen]) rfl
        rw [hss] at h1
        rw [hW4]
        exact h1
      have hK4 : W4.heap[D]? = some (.deferred (some [])) := by
        have h1 : wx.heap[D]? = some (.deferred (some [])) := (HBx.out.block D hDl).trans HK.out
        have h2 : ws.heap[D]? = some (.deferred (some [])) := (hFs.block D (by omega) (by omega)).trans h1
        exact (hb4.block D (by omega)).trans h2
      have hF9 : Frame (fun j => j = D) W4 (W4.putObj D (.deferred none)) := Frame.of_grown (grownBy_putObj' W4 D (.deferred none)) (fun k e _ => (Option.some.inj e).symm)
      have hBs : Below w.heap.size w ws := below_fr (BD.out.trans (HBx.out.mono BD.out.size)) hFs (fun i e => by omega) (by omega)
      have hB4 : Below w.heap.size w W4 := hBs.trans (hb4.mono hBs.size)
      have hn4 := (Frame.of_below (S := fun _ => False) hb4).own (hFs.own HNo.out (fun g hg e => by have := (own_cells HNo.out g hg).1; omega)) (fun _ _ e => e)
      refine ⟨by simp, .inl ⟨_, _, rfl, run_takeDeferred hK4, ?_⟩⟩
      have k9 := kR.grown (grownBy_putObj' W4 D (.deferred none)) (by simp; omega)
      have u0 := (k9.cell 0).trans rfl
      refine ⟨.slice (some ⟨wx.heap.size, 0, none⟩) 1 1, by simp [results, Try.f69, go_sem, u0], .slice (some ⟨wx.heap.size, 0, none⟩) 1 1, rfl, ?_, hB4.trans (below_put hK4 (by omega))⟩
      rw [HRe.out]
      have ho9 := hF9.own ho4 (fun g hg e => by
        obtain ⟨_, cs, h3⟩ := own_cells ho4 g hg
        rw [e, hK4] at h3
        cases h3)
      have hn9 := hF9.own hn4 (fun g hg e => by
        obtain ⟨_, cs, h3⟩ := own_cells hn4 g hg
        rw [e, hK4] at h3
        cases h3)
      refine ⟨[.slice ha q hk], rfl, ho9, fun i y nv hy hn => ?_⟩
      cases i with
      | succ i => simp at hy
      | zero =>
        simp at hy hn
        subst hy hn
        refine ⟨?_, _, by rw [Hq.out]; exact hn9⟩
        show ((s.l.filter Pl.heard).map (·.ro)).length ≤ 65536
        rw [List.length_map]
        have h1 := List.length_filter_le Pl.heard s.l
        have h2 := H.out.len
        omega
    · go_wp2_with fail
      obtain ⟨W4, hW4⟩ : ∃ W4, W4 = W.setCell ⟨w.heap.size + 1 + 1, 0, none⟩ (.slice none 0 0) := ⟨_, rfl⟩
      rw [← hW4]
      have hwD : w.heap.size + 1 + 1 < D := by omega
      have hK4 : W4.heap[D]? = some (.deferred (some [])) := by
        rw [hW4, heap_far _ _ hwD]
        exact HK.out
      have kR : Blk W4 (w.heap.size + 1 + 1) 85 #[.slice none 0 0] := by rw [hW4]; exact A2D.out.set_ 0 _
      have hB4 : Below w.heap.size w W4 := by
        rw [hW4]
        exact BD.out.setCell (p := ⟨w.heap.size + 1 + 1, 0, none⟩) (by show w.heap.size ≤ w.heap.size + 1 + 1; omega) _
      refine ⟨by simp, .inl ⟨_, _, rfl, run_takeDeferred hK4, ?_⟩⟩
      have k9 := kR.grown (grownBy_putObj' W4 D (.deferred none)) (by simp; omega)
      have u0 := (k9.cell 0).trans rfl
      refine ⟨.slice none 0 0, by simp [results, Try.f69, go_sem, u0], .slice none 0 0, rfl, ?_, hB4.trans (below_put hK4 (by omega))⟩
      rw [HRd.out, Bool.true_or]
      exact OutsOwn.nil _ _ _
theorem pround_v (h : PAt lo w B c s A cap xs) (hlen : xs.length ≤ 60000) (hn0 : 0 ≤ c.nb) (hn1 : c.nb ≤ 32) (hp : c.peers = false) (ht : c.ty = 4) (ho : 3 ≤ c.ty → xs.length ≤ 1) (hdm : c.dm = true → 3 ≤ c.ty) (pb : Bool) : Calls Try.prog 69 #[.pointer (some ⟨B, 0, none⟩), .bool pb] w fun e w' => ∃ u, e = .returned u ∧ OutsOwn w.heap.size 105 w' u (Pl.round c s pb) ∧ Below w.heap.size w w' := by
  have HRd : Hid (Pl.round c s pb = if pb || ((s.re == 0) || hush c s) then [] else [(s.re, Pl.hel c s)]) := Lib.hid (by unfold Pl.round Pl.toOf hush; rw [if_neg (by rw [hp]; decide), if_pos ht])
  have HOne := Lib.hid ho
  have HDm := Lib.hid hdm
  have e4 : (c.ty == 4) = true := by simpa using ht
  have HE4 := Lib.hid e4
  clear ho hdm ht e4
  have H := Lib.hid h
  have HP : Hid (∀ W, Calls Try.prog 63 #[.agg #[.int .u8 c.ty, .int .u32 c.ro, .int .u32 c.na, .int .u8 c.nb, .int .u32 c.ad, .int .u8 c.op, .int .u16 c.hi, .int .u32 c.dd, .int .u16 c.po, .int .u8 c.pr, .bool c.dm, .bool c.ps, c.pe, .int .u32 c.rm]] W fun e w' => e = .returned (.bool false) ∧ Below W.heap.size W w') := Lib.hid (fun W => by have h := peers_any c W; rw [hp] at h; exact h)
  have HCap := Lib.hid hlen
  have hlt : B < w.heap.size := h.b.lt
  have hmf : ∀ (fn : Fn) (first cap : Array Value) (w : World), (Instr.makeFunc fn first cap).run Try.prog w = .ok (.func fn first cap) w := fun _ _ _ _ => rfl
  clear h hp
  refine (callsIn_wide (n := 3)).1 ?_
  refine callsIn_of_wp_marks Try.func69 rfl trivial ?_ rfl
  rw [wpIn_wide]
  simp only [Try.ntmps69, List.size_toArray, List.length_cons, List.length_nil, Nat.reduceAdd, Nat.reduceSub, Array.replicate_succ, Array.replicate_zero, List.push_toArray, List.append_toArray, List.nil_append, List.cons_append]
  go_upto_region 2 with fail
  obtain ⟨W0, hW0⟩ : ∃ W0, W0 = (((w.alloc (.cells #[.pointer (some ⟨B, 0, none⟩)] 78)).alloc (.cells #[.bool pb] 4)).alloc (.cells #[.slice none 0 0] 85)).alloc (.cells #[.slice none 0 0] 85) := ⟨_, rfl⟩
  have A0 : Hid (Blk W0 w.heap.size 78 #[.pointer (some ⟨B, 0, none⟩)]) := Lib.hid (by rw [hW0]; exact (((Blk.new w _ _).alloc _).alloc _).alloc _)
  have A1 : Hid (Blk W0 (w.heap.size + 1) 4 #[.bool pb]) := Lib.hid (by rw [hW0]; have := Blk.new (w.alloc (.cells #[.pointer (some ⟨B, 0, none⟩)] 78)) 4 #[.bool pb]; rw [World.size_alloc] at this; exact ((this).alloc _).alloc _)
  have A2 : Hid (Blk W0 (w.heap.size + 1 + 1) 85 #[.slice none 0 0]) := Lib.hid (by rw [hW0]; have := Blk.new ((w.alloc (.cells #[.pointer (some ⟨B, 0, none⟩)] 78)).alloc (.cells #[.bool pb] 4)) 85 #[.slice none 0 0]; simp only [World.size_alloc] at this; exact (this).alloc _)
  have A3 : Hid (Blk W0 (w.heap.size + 1 + 1 + 1) 85 #[.slice none 0 0]) := Lib.hid (by rw [hW0]; have := Blk.new (((w.alloc (.cells #[.pointer (some ⟨B, 0, none⟩)] 78)).alloc (.cells #[.bool pb] 4)).alloc (.cells #[.slice none 0 0] 85)) 85 #[.slice none 0 0]; simp only [World.size_alloc] at this; exact this)
  have B0 : Hid (Below w.heap.size w W0) := Lib.hid (by rw [hW0]; exact ((((Below.refl _ w).alloc (Nat.le_refl _) _).alloc (by simp) _).alloc (by simp; omega) _).alloc (by simp; omega) _)
  have hs0 : w.heap.size + 1 + 1 + 1 < W0.heap.size := A3.out.lt
  rw [← hW0]
  clear hW0
  have K0 := Lib.hid (H.out.b.below B0.out hlt)
  have p0 : W0.cell? ⟨w.heap.size, 0, none⟩ = some (.pointer (some ⟨B, 0, none⟩)) := A0.out.cell 0
  obtain ⟨e1, e2, e3, e4, e5, e6, e7, e8, e9, e10, e11, e12, e13, e14⟩ := lks_cs K0.out
  have hl0 : B < W0.heap.size := K0.out.lt
  go_wp2_with fail
  refine (HP.out _).mono ?_
  rintro e w1 ⟨rfl, hb1⟩
  have A01 := Lib.hid (A0.out.below hb1 A0.out.lt)
  have A11 := Lib.hid (A1.out.below hb1 A1.out.lt)
  have A21 := Lib.hid (A2.out.below hb1 A2.out.lt)
  have A31 := Lib.hid (A3.out.below hb1 A3.out.lt)
  have B1 := Lib.hid (B0.out.trans (hb1.mono B0.out.size))
  clear p0 e1 e2 e3 e4 e5 e6 e7 e8 e9 e10 e11 e12 e13 e14 hl0 hb1 A0 A1 A2 A3 B0 K0
  have p1 : w1.cell? ⟨w.heap.size, 0, none⟩ = some (.pointer (some ⟨B, 0, none⟩)) := A01.out.cell 0
  have K1 := Lib.hid (H.out.b.below B1.out hlt)
  have e4 := HE4.out
  have g1 : w1.cell? ⟨B, 1, none⟩ = some (.int .u8 c.ty) := K1.out.cell 1
  have g21 : w1.cell? ⟨B, 21, none⟩ = some (.int .u32 s.re) := K1.out.cell 21
  go_wp2_with fail
  refine (all_made _ _ _ ⟨_, rfl⟩ ⟨_, _, _, rfl⟩).mono ?_
  rintro e w2 ⟨rfl, hb2, b1, b2⟩
  have h2l : w1.heap.size + 1 < w2.heap.size := lt_of_cell b2
  have A02 := Lib.hid (A01.out.below hb2 A01.out.lt)
  have A12 := Lib.hid (A11.out.below hb2 A11.out.lt)
  have A22 := Lib.hid (A21.out.below hb2 A21.out.lt)
  have A32 := Lib.hid (A31.out.below hb2 A31.out.lt)
  have B2 := Lib.hid (B1.out.trans (hb2.mono B1.out.size))
  have hw1 : w.heap.size + 1 + 1 + 1 < w1.heap.size := A31.out.lt
  have hw2 : w.heap.size + 1 + 1 + 1 < w2.heap.size := A32.out.lt
  clear p1 hb2 A01 A11 A21 A31
  clear g1 g21 e4
  go_wp2_with fail
  rw [← wpIn_wide (n := 3)]
  obtain ⟨Y, hY⟩ : ∃ X, X = w.heap.size + 1 + 1 := ⟨_, rfl⟩
  obtain ⟨I, hI⟩ : ∃ I : List (Nat × Kn) → World → Prop, I = fun pre W => pre = [] ∧ Frame (fun _ => False) w2 W := ⟨_, rfl⟩
  obtain ⟨Ix, hIx0⟩ : ∃ I : List (Nat × Kn) → World → Prop, I = fun _ W => Frame (fun i => i = Y) w2 W ∧ Blk W Y 85 #[.slice none 0 0] := ⟨_, rfl⟩
  have HI := Lib.hid hI
  have HIx := Lib.hid hIx0
  have HYe := Lib.hid hY
  clear hI hIx0
  have hIo : OwnFrom w2.heap.size I := by
    rw [HI.out]
    rintro pre W W' row ⟨h1, hf⟩ hg hr
    exact ⟨h1, frame_own hf hg hr⟩
  have hIxo : OwnFrom w2.heap.size Ix := by
    rw [HIx.out]
    rintro pre W W' row ⟨hf, hk⟩ hg hr
    exact ⟨frame_own hf hg hr, blk_own hk hg (fun r e => (hr r e).2)⟩
  have hI0 : I [] w2 := by rw [HI.out]; exact ⟨rfl, Frame.refl _ _⟩
  have hIf : ∀ pre W, I pre W → Frame (fun i => (w.heap.size ≤ i ∧ i < w1.heap.size) ∨ ∃ x ∈ xs, x.1 = i) w2 W := by
    intro pre W hi
    rw [HI.out] at hi
    exact hi.2.mono (fun i e => e.elim)
  have hseq := seq_round2 2 (by omega) w2 I (·.1) (stillK c) B w1.heap.size (w1.heap.size + 1) w.heap.size xs A cap (leans_mk H.out (by omega) B2.out (by omega) b1 b2 hIf (fun k x W hx hi => by
    have hm := List.mem_of_getElem? hx
    rw [HI.out] at hi
    have hBW := hi.2.blk (H.out.b.below B2.out hlt) (fun e => e)
    have hxW := hi.2.blk ((H.out.k x hm).1.below B2.out (H.out.k x hm).1.lt) (fun e => e)
    have hc0 := hi.2.blk A02.out (fun e => e)
    exact round2_is W B x.1 _ c _ x hBW rfl rfl rfl hxW (hc0.cell 0)))
  refine wpIn_rangeFunc_I (n := 3) (by omega) rfl trivial enters_all1 hseq (fun _ => rfl) hIo (Ix := Ix) hIxo hI0 ?a₁ ?assign ?body ?done ?stop
  case assign =>
    intro l x W K hK
    gi_wp2
    exact hK
  case body =>
    rintro l pre x W hIx1 _
    rw [HI.out] at hIx1
    have KY := Lib.hid (hIx1.2.blk A22.out (fun e => e))
    have yo : W.cell? ⟨w.heap.size + 1 + 1, 0, none⟩ = some (.slice none 0 0) := KY.out.cell 0
    have fy := KY.out.frozen 0
    have hyl := KY.out.lt
    have HF := Lib.hid hIx1.2
    clear hIx1
    gi_wp2_with fail
    refine ⟨KeepsOthers.setCell _ _ _, ?_⟩
    rw [HIx.out, HYe.out]
    exact ⟨(HF.out.mono (fun i e => e.elim)).setB 0 _, KY.out.set_ 0 _⟩
  case stop =>
    rintro D pre W hD ⟨k0, x, hx0, hs, _⟩ hIx1 hK
    rw [HIx.out, HYe.out] at hIx1
    have HHu : Hid (hush c s = true) := Lib.hid (hush_yes H.out.l HOne.out hx0 hs)
    obtain ⟨hf, hk⟩ := hIx1
    have hB4 : Below w.heap.size w W := below_fr B2.out hf (fun i e => by omega) (by omega)
    have hYD : w.heap.size + 1 + 1 < D := by omega
    have k9 := hk.grown (grownBy_putObj' W D (.deferred none)) (by simp; omega)
    have u0 := (k9.cell 0).trans rfl
    gi_wp2
    refine ⟨by simp, .inl ⟨_, _, rfl, run_takeDeferred hK, ?_⟩⟩
    refine ⟨.slice none 0 0, by simp [results, Try.f69, go_sem, u0], .slice none 0 0, rfl, ?_, hB4.trans (below_put hK (by omega))⟩
    rw [HRd.out, HHu.out, Bool.or_true, Bool.or_true]
    exact OutsOwn.nil _ _ _
  case done =>
    intro D ys W hD hys hIx1 hK
    rw [HI.out] at hIx1
    obtain ⟨hy0, hf⟩ := hIx1
    have HHu : Hid (hush c s = false) := Lib.hid (hush_no H.out.l HDm.out (by rw [← hys, hy0]))
    have A0D := Lib.hid (hf.blk A02.out (fun e => e))
    have A1D := Lib.hid (hf.blk A12.out (fun e => e))
    have A2D := Lib.hid (hf.blk A22.out (fun e => e))
    have HPD := Lib.hid ((H.out.below B2.out).fr hf (fun e => e) (fun _ _ e => e) (fun _ _ e => e))
    have BD := Lib.hid (below_fr B2.out hf (fun i e => e.elim) (by omega))
    have HK := Lib.hid hK
    have hDl : D < W.heap.size := (Array.getElem?_eq_some_iff.1 hK).1
    have p3 : W.cell? ⟨w.heap.size, 0, none⟩ = some (.pointer (some ⟨B, 0, none⟩)) := A0D.out.cell 0
    have p4 : W.cell? ⟨w.heap.size + 1, 0, none⟩ = some (.bool pb) := A1D.out.cell 0
    have q2 : W.cell? ⟨w.heap.size + 1 + 1, 0, none⟩ = some (.slice none 0 0) := A2D.out.cell 0
    have fz2 := A2D.out.frozen 0
    have hsz : w.heap.size + 1 + 1 < W.heap.size := A2D.out.lt
    clear hys hy0 hf hK hY
    dsimp only
    rcases pb with _ | _
    · rcases hz : (s.re == 0) with _ | _
      · have HZ := Lib.hid hz
        have HRe : Hid (Pl.round c s false = [(s.re, Pl.hel c s)]) := Lib.hid (by rw [HRd.out, HHu.out, HZ.out]; rfl)
        have hHel : Hid (Calls Try.prog 74 #[.pointer (some ⟨B, 0, none⟩)] W fun e w' => RHel c s W e w') := Lib.hid (phello HPD.out hlen hn0 hn1)
        go_wp2_with fail
        refine hHel.out.mono ?_
        rintro e wx ⟨nv, rfl, hno, hbx⟩
        obtain ⟨ha, hk, rfl⟩ := own_slice hno
        obtain ⟨q, hq⟩ : ∃ q, (Pl.hel c s).nb.length = q := ⟨_, rfl⟩
        have Hq := Lib.hid hq
        rw [hq] at hno ⊢
        clear hq
        have hsx : W.heap.size ≤ wx.heap.size := hbx.size
        have hlx : w.heap.size + 1 + 1 < wx.heap.size := by omega
        have r2 : wx.cell? ⟨w.heap.size + 1 + 1, 0, none⟩ = some (.slice none 0 0) := (hbx.cell (p := ⟨w.heap.size + 1 + 1, 0, none⟩) hsz).trans q2
        have A2X := Lib.hid (A2D.out.below hbx hsz)
        have fz3 := A2X.out.frozen 0
        have HNo := Lib.hid hno
        have HBx := Lib.hid hbx
        clear hno hbx q2 fz2 p3 p4
        unfold hval
        go_wp2_with fail
        obtain ⟨ws, hws⟩ : ∃ ws, ws = wx.setCell ⟨w.heap.size + 1 + 1, 0, none⟩ (.slice (some ⟨wx.heap.size, 0, none⟩) 1 1) := ⟨_, rfl⟩
        have hss : ws.heap.size = wx.heap.size := by rw [hws]; simp [World.setCell]
        have HSs := Lib.hid hss
        obtain ⟨W4, hW4⟩ : ∃ W4, W4 = ws.alloc (.cells #[.int .u32 s.re, .int .u32 (Pl.hel c s).ma, .int .u16 (Pl.hel c s).hi, .int .u8 (Pl.hel c s).op, .int .u8 (Pl.hel c s).pr, .int .u32 (Pl.hel c s).dd, .int .u32 (Pl.hel c s).dr, .int .u32 (Pl.hel c s).bd, .slice ha q hk] 105) := ⟨_, rfl⟩
        rw [← hws, ← hW4]
        have hwD : w.heap.size + 1 + 1 < D := by omega
        have kS : Blk ws (w.heap.size + 1 + 1) 85 #[.slice (some ⟨wx.heap.size, 0, none⟩) 1 1] := by rw [hws]; exact A2X.out.set_ 0 _
        have hFs : Frame (fun j => j = w.heap.size + 1 + 1) wx ws := by rw [hws]; exact (Frame.refl _ wx).setB 0 _
        have hb4 : Below ws.heap.size ws W4 := by rw [hW4]; exact (Below.refl _ ws).alloc (Nat.le_refl _) _
        have kR := kS.below hb4 kS.lt
        have ho4 : W4.ownsRow w.heap.size 105 9 (.slice (some ⟨wx.heap.size, 0, none⟩) 1 1) 1 [.int .u32 s.re, .int .u32 (Pl.hel c s).ma, .int .u16 (Pl.hel c s).hi, .int .u8 (Pl.hel c s).op, .int .u8 (Pl.hel c s).pr, .int .u32 (Pl.hel c s).dd, .int .u32 (Pl.hel c s).dr, .int .u32 (Pl.hel c s).bd, .slice ha q hk] := by
          have h1 := World.ownsRow_lit (base := w.heap.size) (e := 105) (size := 9) ws #[.int .u32 s.re, .int .u32 (Pl.hel c s).ma, .int .u16 (Pl.hel c s).hi, .int .u8 (Pl.hel c s).op, .int .u8 (Pl.hel c s).pr, .int .u32 (Pl.hel c s).dd, .int .u32 (Pl.hel c s).dr, .int .u32 (Pl.hel c s).bd, .slice ha q hk] 1 (by have := BD.out.size; omega) (by simp [maxLen]) rfl
          rw [hss] at h1
          rw [hW4]
          exact h1
        have hK4 : W4.heap[D]? = some (.deferred (some [])) := by
          have h1 : wx.heap[D]? = some (.deferred (some [])) := (HBx.out.block D hDl).trans HK.out
          have h2 : ws.heap[D]? = some (.deferred (some [])) := (hFs.block D (by omega) (by omega)).trans h1
          exact (hb4.block D (by omega)).trans h2
        have hF9 : Frame (fun j => j = D) W4 (W4.putObj D (.deferred none)) := Frame.of_grown (grownBy_putObj' W4 D (.deferred none)) (fun k e _ => (Option.some.inj e).symm)
        have hBs : Below w.heap.size w ws := below_fr (BD.out.trans (HBx.out.mono BD.out.size)) hFs (fun i e => by omega) (by omega)
        have hB4 : Below w.heap.size w W4 := hBs.trans (hb4.mono hBs.size)
        have hn4 := (Frame.of_below (S := fun _ => False) hb4).own (hFs.own HNo.out (fun g hg e => by have := (own_cells HNo.out g hg).1; omega)) (fun _ _ e => e)
        refine ⟨by simp, .inl ⟨_, _, rfl, run_takeDeferred hK4, ?_⟩⟩
        have k9 := kR.grown (grownBy_putObj' W4 D (.deferred none)) (by simp; omega)
        have u0 := (k9.cell 0).trans rfl
        refine ⟨.slice (some ⟨wx.heap.size, 0, none⟩) 1 1, by simp [results, Try.f69, go_sem, u0], .slice (some ⟨wx.heap.size, 0, none⟩) 1 1, rfl, ?_, hB4.trans (below_put hK4 (by omega))⟩
        rw [HRe.out]
        have ho9 := hF9.own ho4 (fun g hg e => by
          obtain ⟨_, cs, h3⟩ := own_cells ho4 g hg
          rw [e, hK4] at h3
          cases h3)
        have hn9 := hF9.own hn4 (fun g hg e => by
          obtain ⟨_, cs, h3⟩ := own_cells hn4 g hg
          rw [e, hK4] at h3
          cases h3)
        refine ⟨[.slice ha q hk], rfl, ho9, fun i y nv hy hn => ?_⟩
        cases i with
        | succ i => simp at hy
        | zero =>
          simp at hy hn
          subst hy hn
          refine ⟨?_, _, by rw [Hq.out]; exact hn9⟩
          show ((s.l.filter Pl.heard).map (·.ro)).length ≤ 65536
          rw [List.length_map]
          have h1 := List.length_filter_le Pl.heard s.l
          have h2 := H.out.len
          omega
      · have HZ := Lib.hid hz
        go_wp2_with fail
        obtain ⟨W4, hW4⟩ : ∃ W4, W4 = W.setCell ⟨w.heap.size + 1 + 1, 0, none⟩ (.slice none 0 0) := ⟨_, rfl⟩
        rw [← hW4]
        have hwD : w.heap.size + 1 + 1 < D := by omega
        have hK4 : W4.heap[D]? = some (.deferred (some [])) := by
          rw [hW4, heap_far _ _ hwD]
          exact HK.out
        have kR : Blk W4 (w.heap.size + 1 + 1) 85 #[.slice none 0 0] := by rw [hW4]; exact A2D.out.set_ 0 _
        have hB4 : Below w.heap.size w W4 := by
          rw [hW4]
          exact BD.out.setCell (p := ⟨w.heap.size + 1 + 1, 0, none⟩) (by show w.heap.size ≤ w.heap.size + 1 + 1; omega) _
        refine ⟨by simp, .inl ⟨_, _, rfl, run_takeDeferred hK4, ?_⟩⟩
        have k9 := kR.grown (grownBy_putObj' W4 D (.deferred none)) (by simp; omega)
        have u0 := (k9.cell 0).trans rfl
        refine ⟨.slice none 0 0, by simp [results, Try.f69, go_sem, u0], .slice none 0 0, rfl, ?_, hB4.trans (below_put hK4 (by omega))⟩
        rw [HRd.out, HZ.out, Bool.true_or, Bool.or_true]
        exact OutsOwn.nil _ _ _
    · go_wp2_with fail
      obtain ⟨W4, hW4⟩ : ∃ W4, W4 = W.setCell ⟨w.heap.size + 1 + 1, 0, none⟩ (.slice none 0 0) := ⟨_, rfl⟩
      rw [← hW4]
      have hwD : w.heap.size + 1 + 1 < D := by omega
      have hK4 : W4.heap[D]? = some (.deferred (some [])) := by
        rw [hW4, heap_far _ _ hwD]
        exact HK.out
      have kR : Blk W4 (w.heap.size + 1 + 1) 85 #[.slice none 0 0] := by rw [hW4]; exact A2D.out.set_ 0 _
      have hB4 : Below w.heap.size w W4 := by
        rw [hW4]
        exact BD.out.setCell (p := ⟨w.heap.size + 1 + 1, 0, none⟩) (by show w.heap.size ≤ w.heap.size + 1 + 1; omega) _
      refine ⟨by simp, .inl ⟨_, _, rfl, run_takeDeferred hK4, ?_⟩⟩
      have k9 := kR.grown (grownBy_putObj' W4 D (.deferred none)) (by simp; omega)
      have u0 := (k9.cell 0).trans rfl
      refine ⟨.slice none 0 0, by simp [results, Try.f69, go_sem, u0], .slice none 0 0, rfl, ?_, hB4.trans (below_put hK4 (by omega))⟩
      rw [HRd.out, Bool.true_or]
      exact OutsOwn.nil _ _ _
theorem pround (h : PAt lo w B c s A cap xs) (hlen : xs.length ≤ 60000) (hn0 : 0 ≤ c.nb) (hn1 : c.nb ≤ 32) (ho : 3 ≤ c.ty → xs.length ≤ 1) (hdm : c.dm = true → 3 ≤ c.ty) (pb : Bool) : Calls Try.prog 69 #[.pointer (some ⟨B, 0, none⟩), .bool pb] w fun e w' => ∃ u, e = .returned u ∧ OutsOwn w.heap.size 105 w' u (Pl.round c s pb) ∧ Below w.heap.size w w' := by
  rcases hp : c.peers with _ | _
  · by_cases ht : c.ty = 4
    · exact pround_v h hlen hn0 hn1 hp ht ho hdm pb
    · exact pround_o h hlen hn0 hn1 hp ht ho hdm pb
  · exact pround_p h hlen hn0 hn1 hp pb
end
end Go.Proofs.Ytgbmhijgpdgdbaa
