/- Hear, exactly, of a link with no neighbour or one. -/
import Derived.Test.YtgbmhijgpdgdbaaHearOn
import Derived.Test.YtgbmhijgpdgdbaaPairRound
namespace Go.Proofs.Ytgbmhijgpdgdbaa
open Go.RowKit

def Pr.hK (c : LC) (f r : Int) (h : Pr.HL) (st : Int) : Kn := { ro := r, ad := f, st := st, pr := h.pr, dr := h.dr, bd := h.bd, op := c.op, lf := c.dd, wa := false, fu := false }

def Ow (B L K : Nat) (j : Nat) : Prop := j = B ∨ j = L ∨ j = K

def PH0 (B : Nat) (c : LC) (st dr bd wt nx : Int) (f r : Int) (h : Pr.HL) (w : World) (e : Ending) (w' : World) : Prop :=
  (∃ a n k, e = .returned (.tuple #[.slice a n k, .int .i64 0])) ∧ Frame (fun j => j = B) w w' ∧ ∃ L cap K, w.heap.size ≤ L ∧ w.heap.size ≤ K ∧ LinkOn 0 w' B c st dr bd wt nx 0 0 L cap [(K, Pr.hK c f r h 2)]

def PH1 (B : Nat) (c : LC) (st dr bd wt nx : Int) (f r : Int) (h : Pr.HL) (L cap : Nat) (el : Bool) (w : World) (e : Ending) (w' : World) : Prop :=
  (∃ a n k, e = .returned (.tuple #[.slice a n k, .int .i64 0])) ∧ Frame (fun j => j = B ∨ j = L) w w' ∧ ∃ K, w.heap.size ≤ K ∧
    LinkOn 0 w' B c (if el then elState c (elOut c dr bd [(K, Pr.hK c f r h 3)]) else st) (if el then (elOut c dr bd [(K, Pr.hK c f r h 3)]).1 else dr) (if el then (elOut c dr bd [(K, Pr.hK c f r h 3)]).2 else bd) wt nx 0 0 L cap [(K, Pr.hK c f r h 3)]

set_option maxHeartbeats 8000000 in
set_option maxRecDepth 40000 in
theorem phear0 (w : World) (B : Nat) (c : LC) (st dr bd wt nx : Int) (f r : Int) (h : Pr.HL) (k : Blk w B 119 (lks c st dr bd wt nx 0 0 (.slice none 0 0))) (h2 : 2 ≤ st) (hty : c.ty = 0) (hn0 : 0 ≤ c.nb) (hn1 : c.nb ≤ 32) (hnet : bits .and .u32 c.na (maskN c.nb.toNat) = c.na) (hr0 : r ≠ 0) (hp : c.peers = false) (hok : (mB4 c f r || mB5 c f || mB6 c r) = false) :
    Calls Try.prog 35 #[.pointer (some ⟨B, 0, none⟩), .int .u32 f, .int .u32 r, .agg #[.int .u32 (maskN c.nb.toNat), .int .u16 c.hi, .int .u8 c.op, .int .u8 h.pr, .int .u32 c.dd, .int .u32 h.dr, .int .u32 h.bd, .slice none 0 0]] w fun e w' => PH0 B c st dr bd wt nx f r h w e w' := by
  have e_t : (c.ty == 1) = false := by rw [hty]; rfl
  have K := Lib.hid k
  have HOk := Lib.hid hok
  have HNet := Lib.hid hnet
  have n_st : Hid (¬ st ≤ 1) := Lib.hid (by omega)
  clear h2
  have HP := Lib.hid hp
  have HR0 := Lib.hid hr0
  have hlt : B < w.heap.size := k.lt
  go_enter Try.func35, Try.ntmps35
  go_upto_region 1 with fail
  obtain ⟨W0, hW0⟩ : ∃ W0, W0 = w.alloc (.cells #[.int .u32 (maskN c.nb.toNat), .int .u16 c.hi, .int .u8 c.op, .int .u8 h.pr, .int .u32 c.dd, .int .u32 h.dr, .int .u32 h.bd, .slice none 0 0] 90) := ⟨_, rfl⟩
  have A0 : Hid (Blk W0 w.heap.size 90 #[.int .u32 (maskN c.nb.toNat), .int .u16 c.hi, .int .u8 c.op, .int .u8 h.pr, .int .u32 c.dd, .int .u32 h.dr, .int .u32 h.bd, .slice none 0 0]) := Lib.hid (by rw [hW0]; exact Blk.new w _ _)
  have B0 : Hid (Below w.heap.size w W0) := Lib.hid (by rw [hW0]; exact (Below.refl _ w).alloc (Nat.le_refl _) _)
  have h00 : w.heap.size < W0.heap.size := A0.out.lt
  rw [← hW0]
  clear hW0
  have r0 : W0.cell? ⟨w.heap.size, 0, none⟩ = some (.int .u32 (maskN c.nb.toNat)) := A0.out.cell 0
  have r1 : W0.cell? ⟨w.heap.size, 1, none⟩ = some (.int .u16 c.hi) := A0.out.cell 1
  have r2 : W0.cell? ⟨w.heap.size, 2, none⟩ = some (.int .u8 c.op) := A0.out.cell 2
  have r3 : W0.cell? ⟨w.heap.size, 3, none⟩ = some (.int .u8 h.pr) := A0.out.cell 3
  have r4 : W0.cell? ⟨w.heap.size, 4, none⟩ = some (.int .u32 c.dd) := A0.out.cell 4
  have r5 : W0.cell? ⟨w.heap.size, 5, none⟩ = some (.int .u32 h.dr) := A0.out.cell 5
  have r6 : W0.cell? ⟨w.heap.size, 6, none⟩ = some (.int .u32 h.bd) := A0.out.cell 6
  have r7 : W0.cell? ⟨w.heap.size, 7, none⟩ = some (.slice none 0 0) := A0.out.cell 7
  have K0 := Lib.hid (K.out.below B0.out hlt)
  clear k hok hnet hp hr0
  have F0 := Lib.hid (Frame.of_below (S := fun j => j = B) B0.out)
  go_wp2_with (go_at_call 67; refine (none_lk _ _ _ K0.out rfl).mono ?_; rintro e w' ⟨rfl, rfl⟩)
  have hfn : ∀ W, Below W0.heap.size W0 W → Calls Try.prog 71 #[.pointer (some ⟨B, 0, none⟩), .int .u32 f, .int .u32 r] W fun e w' => e = .returned (.int .i64 (-1)) ∧ w' = W := fun W hW => (findl_nil W B c st dr bd wt nx 0 0 f r (K0.out.below hW K0.out.lt)).mono fun e w' hh => by
    rcases hh with ⟨h1, ⟨h2, _⟩ | ⟨k, x, _, h3, _⟩⟩
    · exact ⟨h2, h1⟩
    · simp at h3
  refine (may_up _ B c st dr bd wt nx 0 0 f r h.pr h.dr h.bd _ none 0 0 (-1) K0.out (by have := n_st.out; omega) hfn hn0 hn1 HNet.out).mono ?_
  rintro e w1 ⟨code, rfl, hc, hb1⟩
  obtain rfl : code = 0 := hc.2 (by rw [HOk.out]; simp [mB7, mB8, HP.out])
  have HFn := Lib.hid hfn
  have HB1 := Lib.hid hb1
  have K1 := Lib.hid (K0.out.below hb1 K0.out.lt)
  have A1 := Lib.hid (A0.out.below hb1 A0.out.lt)
  have F1 := Lib.hid (F0.out.trans (Frame.of_below hb1))
  have h01 : w.heap.size < w1.heap.size := A1.out.lt
  clear hb1 hc hfn
  clear r0 r1 r2 r3 r4 r5 r6 r7
  go_wp2_with (go_at_call 71; refine (HFn.out _ HB1.out).mono ?_; rintro e w' ⟨rfl, hw⟩; obtain rfl := hw.symm)
  refine (put_pair _ B c st dr bd wt nx 0 0 f hty K1.out).mono ?_
  obtain ⟨i, hi⟩ : ∃ i : Nat, i = 0 := ⟨_, rfl⟩
  rintro e w2 ⟨he, hf2, L, cap, K0', hwL, hwK, hl2⟩
  have he2 : e = .returned (.int .i64 (i : Int)) := by rw [hi]; exact he
  subst he2
  obtain ⟨x, hx0⟩ : ∃ x : Nat × Kn, x = (K0', zeroKn) := ⟨_, rfl⟩
  rw [← hx0] at hl2
  have hx9 : [x][i]? = some x := by rw [hi]; rfl
  have HX := Lib.hid hx9
  have HI := Lib.hid hi
  have HFu : Hid (x.2.fu = false) := Lib.hid (by rw [hx0]; rfl)
  have HRo : Hid (x.2.ro ≠ r) := Lib.hid (by rw [hx0]; exact fun e => HR0.out e.symm)
  have HSt : Hid (x.2.st ≠ 3) := Lib.hid (by rw [hx0]; show (0 : Int) ≠ 3; decide)
  have HWL : Hid (w.heap.size ≤ L) := Lib.hid (by omega)
  have H2 := Lib.hid hl2
  have F2 := Lib.hid (F1.out.trans hf2)
  have A2 := Lib.hid (hf2.blk A1.out (A1.out.ne_ K1.out (by decide)))
  clear hl2 hf2 he hx0 hi hwL hwK hx9
  have hxi : i < [x].length := (List.getElem?_eq_some_iff.1 HX.out).1
  have hxi1 : (i : Int) < 1 := by have := hxi; simp only [List.length_singleton] at this; omega
  have hxm : x ∈ [x] := by simp
  have hlx := (H2.out.k x hxm).1.lt
  have h0W : w.heap.size < w2.heap.size := A2.out.lt
  have y22 : w2.cell? ⟨B, 22, none⟩ = some (.slice (some ⟨L, 0, none⟩) 1 cap) := H2.out.b.cell 22
  have l0 : w2.cell? ⟨L, i, none⟩ = some (.pointer (some ⟨x.1, 0, none⟩)) := H2.out.r i x HX.out
  have o0 : w2.cell? ⟨x.1, 0, none⟩ = some (.int .u32 x.2.ro) := (H2.out.k x hxm).1.cell 0
  have o1 : w2.cell? ⟨x.1, 1, none⟩ = some (.int .u32 x.2.ad) := (H2.out.k x hxm).1.cell 1
  have o2 : w2.cell? ⟨x.1, 2, none⟩ = some (.int .u8 x.2.st) := (H2.out.k x hxm).1.cell 2
  have o3 : w2.cell? ⟨x.1, 3, none⟩ = some (.int .u8 x.2.pr) := (H2.out.k x hxm).1.cell 3
  have o4 : w2.cell? ⟨x.1, 4, none⟩ = some (.int .u32 x.2.dr) := (H2.out.k x hxm).1.cell 4
  have o5 : w2.cell? ⟨x.1, 5, none⟩ = some (.int .u32 x.2.bd) := (H2.out.k x hxm).1.cell 5
  have o6 : w2.cell? ⟨x.1, 6, none⟩ = some (.int .u8 x.2.op) := (H2.out.k x hxm).1.cell 6
  have o7 : w2.cell? ⟨x.1, 7, none⟩ = some (.int .u32 x.2.lf) := (H2.out.k x hxm).1.cell 7
  have o8 : w2.cell? ⟨x.1, 8, none⟩ = some (.bool x.2.wa) := (H2.out.k x hxm).1.cell 8
  have o9 : w2.cell? ⟨x.1, 9, none⟩ = some (.bool x.2.fu) := (H2.out.k x hxm).1.cell 9
  go_upto_region 10 with fail
  obtain ⟨OB, hOB⟩ : ∃ OB, OB = w2.heap.size := ⟨_, rfl⟩
  obtain ⟨W3, hW3⟩ : ∃ W3, W3 = w2.alloc (.cells #[.int .u32 x.2.ro, .int .u32 x.2.ad, .int .u8 x.2.st, .int .u8 x.2.pr, .int .u32 x.2.dr, .int .u32 x.2.bd, .int .u8 x.2.op, .int .u32 x.2.lf, .bool x.2.wa, .bool x.2.fu] 139) := ⟨_, rfl⟩
  have hb3 : Below w2.heap.size w2 W3 := by rw [hW3]; exact (Below.refl _ w2).alloc (Nat.le_refl _) _
  have H3 := Lib.hid (H2.out.below hb3)
  have A3 := Lib.hid (A2.out.below hb3 A2.out.lt)
  have O3 : Hid (Blk W3 OB 139 #[.int .u32 x.2.ro, .int .u32 x.2.ad, .int .u8 x.2.st, .int .u8 x.2.pr, .int .u32 x.2.dr, .int .u32 x.2.bd, .int .u8 x.2.op, .int .u32 x.2.lf, .bool x.2.wa, .bool x.2.fu]) := Lib.hid (by rw [hW3, hOB]; exact Blk.new _ _ _)
  have F3 := Lib.hid (F2.out.trans (Frame.of_below hb3))
  rw [← hW3, ← hOB]
  have h23 : OB < W3.heap.size := O3.out.lt
  have h0O : w.heap.size < OB := by omega
  obtain ⟨cur, hLc⟩ := H3.out.lc
  have KL3 := Lib.hid hLc
  clear hLc hW3 hb3 hOB y22 l0 o0 o1 o2 o3 o4 o5 o6 o7 o8 o9 hlx
  have y8 : W3.cell? ⟨B, 8, none⟩ = some (.int .u32 c.dd) := H3.out.b.cell 8
  have r2 : W3.cell? ⟨w.heap.size, 2, none⟩ = some (.int .u8 c.op) := A3.out.cell 2
  have r3 : W3.cell? ⟨w.heap.size, 3, none⟩ = some (.int .u8 h.pr) := A3.out.cell 3
  have r5 : W3.cell? ⟨w.heap.size, 5, none⟩ = some (.int .u32 h.dr) := A3.out.cell 5
  have r6 : W3.cell? ⟨w.heap.size, 6, none⟩ = some (.int .u32 h.bd) := A3.out.cell 6
  refine wp_region_drawn_tail 17 (by kernel_rfl) (by kernel_rfl) ?_
  simp only [List.take_succ_cons, List.take_zero, List.drop_succ_cons, List.drop_zero]
  repeat (go_big_quiet_step (fail))
  refine wpQuiet_nil ?_
  rintro wq ⟨q, rfl⟩
  go_upto_region 11 with fail
  obtain ⟨KN, hKN⟩ : ∃ KN, KN = W3.heap.size := ⟨_, rfl⟩
  obtain ⟨W4, hW4⟩ : ∃ W4, W4 = (W3.drewN q).alloc (.cells #[.int .u32 r, .int .u32 f, .int .u8 2, .int .u8 h.pr, .int .u32 h.dr, .int .u32 h.bd, .int .u8 c.op, .int .u32 c.dd, .bool false, .bool false] 139) := ⟨_, rfl⟩
  have hb4 : Below W3.heap.size W3 W4 := by rw [hW4]; exact (drewB W3 q).alloc (Nat.le_refl _) _
  have H4 := Lib.hid (H3.out.below hb4)
  have A4 := Lib.hid (A3.out.below hb4 A3.out.lt)
  have O4 := Lib.hid (O3.out.below hb4 O3.out.lt)
  have N4 : Hid (Blk W4 KN 139 #[.int .u32 r, .int .u32 f, .int .u8 2, .int .u8 h.pr, .int .u32 h.dr, .int .u32 h.bd, .int .u8 c.op, .int .u32 c.dd, .bool false, .bool false]) := Lib.hid (by rw [hW4, hKN]; exact Blk.new (W3.drewN q) _ _)
  have hb4s := hb4
  have BB4 := Lib.hid hb4
  have E4 := Lib.hid (Frame.of_below (S := fun j => j = L) hb4s)
  have hK3 : Hid (W3.heap.size ≤ KN) := Lib.hid (by omega)
  have hKw : OB < KN := by omega
  rw [← hW4, ← hKN]
  clear hW4 hKN y8 r2 r3 r5 r6 hb4 hb4s
  have KL4 := Lib.hid (KL3.out.below BB4.out KL3.out.lt)
  have h7 : W4.cell? ⟨w.heap.size, 7, none⟩ = some (.slice none 0 0) := A4.out.cell 7
  have y1 : W4.cell? ⟨B, 1, none⟩ = some (.int .u8 c.ty) := H4.out.b.cell 1
  have y2 : W4.cell? ⟨B, 2, none⟩ = some (.int .u32 c.ro) := H4.out.b.cell 2
  have y22 : W4.cell? ⟨B, 22, none⟩ = some (.slice (some ⟨L, 0, none⟩) 1 cap) := H4.out.b.cell 22
  have l0 : W4.cell? ⟨L, i, none⟩ = some (.pointer (some ⟨x.1, 0, none⟩)) := H4.out.r i x HX.out
  have fL := KL4.out.frozen i
  have n2 : W4.cell? ⟨KN, 2, none⟩ = some (.int .u8 2) := N4.out.cell 2
  have n9 : W4.cell? ⟨KN, 9, none⟩ = some (.bool false) := N4.out.cell 9
  have fN := N4.out.frozen
  have o0 : W4.cell? ⟨OB, 0, none⟩ = some (.int .u32 x.2.ro) := O4.out.cell 0
  have o1 : W4.cell? ⟨OB, 1, none⟩ = some (.int .u32 x.2.ad) := O4.out.cell 1
  have o2 : W4.cell? ⟨OB, 2, none⟩ = some (.int .u8 x.2.st) := O4.out.cell 2
  have o3 : W4.cell? ⟨OB, 3, none⟩ = some (.int .u8 x.2.pr) := O4.out.cell 3
  have o4 : W4.cell? ⟨OB, 4, none⟩ = some (.int .u32 x.2.dr) := O4.out.cell 4
  have o5 : W4.cell? ⟨OB, 5, none⟩ = some (.int .u32 x.2.bd) := O4.out.cell 5
  have o6 : W4.cell? ⟨OB, 6, none⟩ = some (.int .u8 x.2.op) := O4.out.cell 6
  have o7 : W4.cell? ⟨OB, 7, none⟩ = some (.int .u32 x.2.lf) := O4.out.cell 7
  have o8 : W4.cell? ⟨OB, 8, none⟩ = some (.bool x.2.wa) := O4.out.cell 8
  have o9 : W4.cell? ⟨OB, 9, none⟩ = some (.bool x.2.fu) := O4.out.cell 9
  have e_fu := HFu.out
  rw [e_fu] at o9
  have e_ro : (x.2.ro == r) = false := by simpa using HRo.out
  have hLB : L ≠ B := KL4.out.ne_ H4.out.b (by decide)
  have hLl : L < W3.heap.size := KL3.out.lt
  have hKs := hK3.out
  have z1 : B ≠ KN := by have := H3.out.b.lt; omega
  have z2 : L ≠ KN := by omega
  have z3 : OB ≠ KN := by omega
  have z5 : OB ≠ L := O4.out.ne_ KL4.out (by decide)
  go_wp2_with fail
  refine wp_loop_rounds 1 ?_
  rw [rounds_succ]
  go_wp2_with fail
  obtain ⟨W5, hW5⟩ : ∃ W5, W5 = (W4.setCell ⟨KN, 9, none⟩ (.bool false)).setCell ⟨L, i, none⟩ (.pointer (some ⟨KN, 0, none⟩)) := ⟨_, rfl⟩
  have KL5 : Hid (Blk W5 L 137 (cur.setIfInBounds i (.pointer (some ⟨KN, 0, none⟩)))) := Lib.hid (by rw [hW5]; exact (KL4.out.far (by simpa using z2) _).set_ i _)
  have N5 : Hid (Blk W5 KN 139 (Pr.hK c f r h 2).cells) := Lib.hid (by rw [hW5]; exact (N4.out.set_ 9 _).far (by simpa using fun e => z2 e.symm) _)
  have z6 : w.heap.size ≠ KN := by omega
  have z7 : w.heap.size ≠ L := A4.out.ne_ KL4.out (by decide)
  have A5 : Hid (Blk W5 w.heap.size 90 #[.int .u32 (maskN c.nb.toNat), .int .u16 c.hi, .int .u8 c.op, .int .u8 h.pr, .int .u32 c.dd, .int .u32 h.dr, .int .u32 h.bd, .slice none 0 0]) := Lib.hid (by rw [hW5]; exact (A4.out.far (by simpa using z6) _).far (by simpa using z7) _)
  have E5 : Frame (fun j => j = L) W3 W5 := by rw [hW5]; exact (E4.out.setCell (p := ⟨KN, 9, none⟩) (fun h => by simp at h; omega) _).setB i _
  have hin : i < cur.size := by
    have := (KL4.out.cell i).symm.trans l0
    exact (Array.getElem?_eq_some_iff.1 this).1
  have hstep := lose_step (k := Pr.hK c f r h 2) H3.out hxi hK3.out N5.out ⟨_, KL5.out⟩ (by rw [KL5.out.cell i]; simp [hin]) (fun j hj => by rw [KL5.out.cell j, KL3.out.cell j, Array.getElem?_setIfInBounds_ne (Ne.symm hj)]) E5
  have H5 := Lib.hid hstep.1
  have F5 := Lib.hid (F3.out.trans' E5 (fun i hi e => by have := HWL.out; omega))
  rw [← hW5]
  clear hW5 hstep E5 h7 y1 y2 y22 l0 fL n2 n9 fN o0 o1 o2 o3 o4 o5 o6 o7 o8 o9 e_fu e_ro z1 z2 z3 z5 z6 z7
  rw [HI.out] at H5
  have hcall : Calls Try.prog 73 #[.pointer (some ⟨B, 0, none⟩), .agg #[.int .u32 x.2.ro, .int .u32 x.2.ad, .int .u8 x.2.st, .int .u8 x.2.pr, .int .u32 x.2.dr, .int .u32 x.2.bd, .int .u8 x.2.op, .int .u32 x.2.lf, .bool x.2.wa, .bool x.2.fu], .pointer (some ⟨KN, 0, none⟩), .bool false] W5 fun e w' => PHPost B c st dr bd wt nx L cap [(KN, Pr.hK c f r h 2)] false W5 e w' := pheard_a W5 B c st dr bd wt nx L cap (KN, Pr.hK c f r h 2) e_t H5.out x.2 HSt.out rfl
  rw [HFu.out] at hcall
  refine hcall.mono ?_
  rintro e w6 ⟨rfl, hf6, hl6⟩
  have F6 := Lib.hid (F5.out.trans' hf6 (fun _ _ e => e))
  have y1 : w6.cell? ⟨B, 1, none⟩ = some (.int .u8 c.ty) := hl6.b.cell 1
  have H6 := Lib.hid hl6
  clear hl6 hf6 hcall
  go_wp2_with fail
  exact bodyPost_ret (v := .tuple #[.slice none 0 0, .int .i64 0]) (by simp [results, Try.results35, go_sem]) rfl ⟨⟨none, 0, 0, rfl⟩, F6.out, L, cap, KN, HWL.out, by have := A0.out.lt; omega, H6.out⟩

end Go.Proofs.Ytgbmhijgpdgdbaa
