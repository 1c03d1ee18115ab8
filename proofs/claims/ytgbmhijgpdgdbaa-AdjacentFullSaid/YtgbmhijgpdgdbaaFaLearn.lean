/- A head is learnt: the newer one of a key counts. -/
import Derived.Test.YtgbmhijgpdgdbaaFaFindG
import Derived.Test.YtgbmhijgpdgdbaaFaRNewer
import Derived.Test.YtgbmhijgpdgdbaaFaTake
import Derived.Test.YtgbmhijgpdgdbaaFaTail
namespace Go.Proofs.Ytgbmhijgpdgdbaa
open Go.RowKit

/-- The row after a head was learnt. -/
def learnL (own : List Od.Hd) (h : Od.Hd) : List Od.Hd :=
  match own.findIdx? (fun x => keyOfHd x = keyOfHd h) with
  | none => own ++ [h]
  | some i => match own[i]? with
    | none => own
    | some o => if 0 < Od.newer h o then own.set i h else own

theorem findIdx_none {own : List Od.Hd} {k : Od.Ky} (h : ∀ x ∈ own, keyOfHd x ≠ k) : own.findIdx? (fun x => keyOfHd x = k) = none := by
  rw [List.findIdx?_eq_none_iff]
  intro x hx
  simpa using h x hx
theorem findIdx_some {own : List Od.Hd} {k : Od.Ky} {i : Nat} {x : Od.Hd} (hx : own[i]? = some x) (hk : keyOfHd x = k) (h : ∀ y ∈ own.take i, keyOfHd y ≠ k) : own.findIdx? (fun x => keyOfHd x = k) = some i := by
  rw [List.findIdx?_eq_some_iff_getElem]
  obtain ⟨hi, e⟩ := List.getElem?_eq_some_iff.1 hx
  refine ⟨hi, by rw [e]; simpa using hk, fun j hj => ?_⟩
  have := h own[j] (List.mem_take_iff_getElem.2 ⟨j, by omega, rfl⟩)
  simpa using this

theorem hflat_len (l : List Od.Hd) : (l.flatMap hcells).length = l.length * 8 := by
  induction l with
  | nil => rfl
  | cons a t ih => simp only [List.flatMap_cons, List.length_append, ih, List.length_cons]; simp [hcells]; omega

theorem set8_list (A C : List Value) (a0 a1 a2 a3 a4 a5 a6 a7 v0 v1 v2 v3 v4 v5 v6 v7 : Value) :
    ((((((((A ++ (a0 :: a1 :: a2 :: a3 :: a4 :: a5 :: a6 :: a7 :: C)).set A.length v0).set (A.length + 1) v1).set (A.length + 2) v2).set (A.length + 3) v3).set (A.length + 4) v4).set (A.length + 5) v5).set (A.length + 6) v6).set (A.length + 7) v7 = A ++ (v0 :: v1 :: v2 :: v3 :: v4 :: v5 :: v6 :: v7 :: C) := by
  simp [List.set_append_right]

theorem drewB' (w : World) (q : Nat) : Below w.heap.size w (w.drewN q) := below_drewN (Below.refl _ w) q
theorem cell_lt {w : World} {p : Addr} {v : Value} (h : w.cell? p = some v) : p.block < w.heap.size := by
  unfold World.cell? at h
  split at h
  · rename_i hb
    exact (Array.getElem?_eq_some_iff.1 hb).1
  · cases h

set_option maxHeartbeats 2000000 in
theorem own_set8 {w : World} {base g n cap i : Nat} {l : List Od.Hd} {x : Od.Hd} (h : w.ownsRow base 59 8 (.slice (some ⟨g, 0, none⟩) n cap) n (l.flatMap hcells)) (hl : l.length = n) (hi : i < n) :
    ((((((((w.setCell ⟨g, i * 8, none⟩ (.int .u16 x.g)).setCell ⟨g, i * 8 + 1, none⟩ (.int .u8 x.o)).setCell ⟨g, i * 8 + 2, none⟩ (.int .u8 x.t)).setCell ⟨g, i * 8 + 3, none⟩ (.int .u32 x.i)).setCell ⟨g, i * 8 + 4, none⟩ (.int .u32 x.v)).setCell ⟨g, i * 8 + 5, none⟩ (.int .i32 x.s)).setCell ⟨g, i * 8 + 6, none⟩ (.int .u16 x.m)).setCell ⟨g, i * 8 + 7, none⟩ (.int .u16 x.l)).ownsRow base 59 8 (.slice (some ⟨g, 0, none⟩) n cap) n ((l.set i x).flatMap hcells) := by
  obtain ⟨h1, h2⟩ := h
  rcases h2 with ⟨e, _⟩ | ⟨g', cap', cur, e, hb, hh, hc1, hc2, hcs, hct⟩
  · cases e
  · injection e with e1 _ e3
    injection e1 with e1
    injection e1 with e1
    subst e1 e3
    have hk : Blk w g 59 cur := hh
    have hk8 := (((((((hk.set_ (i * 8) (.int .u16 x.g)).set_ (i * 8 + 1) (.int .u8 x.o)).set_ (i * 8 + 2) (.int .u8 x.t)).set_ (i * 8 + 3) (.int .u32 x.i)).set_ (i * 8 + 4) (.int .u32 x.v)).set_ (i * 8 + 5) (.int .i32 x.s)).set_ (i * 8 + 6) (.int .u16 x.m)).set_ (i * 8 + 7) (.int .u16 x.l)
    refine ⟨by rw [hflat_len, List.length_set, hl], .inr ⟨g, cap, _, rfl, hb, hk8, hc1, hc2, by simpa using hcs, ?_⟩⟩
    have hcl : cur.toList.length = cap * 8 := by simpa using hcs
    have hA : (cur.toList.take (i * 8)).length = i * 8 := by rw [List.length_take]; omega
    have hdl : 8 ≤ (cur.toList.drop (i * 8)).length := by rw [List.length_drop]; omega
    have hsp : cur.toList = cur.toList.take (i * 8) ++ cur.toList.drop (i * 8) := (List.take_append_drop _ _).symm
    have hC : cur.toList.drop ((i + 1) * 8) = (cur.toList.drop (i * 8)).drop 8 := by rw [List.drop_drop, show i * 8 + 8 = (i + 1) * 8 from by omega]
    have hT : (l.take i).flatMap hcells = cur.toList.take (i * 8) := by
      rw [flat_take, ← hct, List.take_take, Nat.min_eq_left (by omega)]
    have hD : (l.drop (i + 1)).flatMap hcells = (cur.toList.drop ((i + 1) * 8)).take (n * 8 - (i + 1) * 8) := by
      rw [flat_drop, ← hct, List.drop_take]
    generalize hd : cur.toList.drop (i * 8) = D at hdl hsp hC
    match D, hdl with
    | a0 :: a1 :: a2 :: a3 :: a4 :: a5 :: a6 :: a7 :: C, _ =>
      have hC2 : cur.toList.drop ((i + 1) * 8) = C := hC
      simp only [Array.toList_setIfInBounds]
      rw [hsp]
      have h8 := set8_list (cur.toList.take (i * 8)) C a0 a1 a2 a3 a4 a5 a6 a7 (.int .u16 x.g) (.int .u8 x.o) (.int .u8 x.t) (.int .u32 x.i) (.int .u32 x.v) (.int .i32 x.s) (.int .u16 x.m) (.int .u16 x.l)
      rw [hA] at h8
      rw [h8, List.set_eq_take_append_cons_drop, if_pos (by omega), List.flatMap_append, List.flatMap_cons, hT, hD, hC2]
      rw [List.take_append, hA, List.take_of_length_le (by rw [hA]; omega)]
      have e : n * 8 - i * 8 = 8 + (n * 8 - (i + 1) * 8) := by omega
      have h9 : List.take (8 + (n * 8 - (i + 1) * 8)) (hcells x ++ C) = hcells x ++ List.take (n * 8 - (i + 1) * 8) C := List.take_length_add_append (l₁ := hcells x) _
      rw [e, List.append_cancel_left_eq]
      exact h9

/-- A head's numbers fit their types, all of them. -/
structure HdFull (h : Od.Hd) : Prop where
  g0 : 0 ≤ h.g
  g1 : h.g ≤ 65535
  s0 : -2147483648 ≤ h.s
  s1 : h.s ≤ 2147483647
  m0 : 0 ≤ h.m
  m1 : h.m ≤ 65535

def LearnPost (base : Nat) (ow : Value) (l : List Od.Hd) (h : Od.Hd) (w : World) (e : Ending) (w' : World) : Prop :=
  ∃ v, e = .returned v ∧ w'.ownsRow base 59 8 v (learnL l h).length ((learnL l h).flatMap hcells) ∧ Frame (fun j => ow.ownBlock = some j) w w' ∧ (v.ownBlock = ow.ownBlock ∨ ∃ g, v.ownBlock = some g ∧ w.heap.size ≤ g)

set_option maxHeartbeats 2000000 in
set_option maxRecDepth 20000 in
theorem learn_any (w : World) (base : Nat) (ow : Value) (l : List Od.Hd) (g o t i v s mm ll : Int) (hown : w.ownsRow base 59 8 ow l.length (l.flatMap hcells)) (hok : ∀ x ∈ l, HdFull x) (hf : HdFull ⟨g, o, t, i, v, s, mm, ll⟩) (hn : l.length ≤ 60000) (hbase : base ≤ w.heap.size) :
    Calls Try.prog 53 #[ow, hdval ⟨g, o, t, i, v, s, mm, ll⟩] w fun e w' => LearnPost base ow l ⟨g, o, t, i, v, s, mm, ll⟩ w e w' := by
  obtain ⟨A, c, hsl⟩ := own_slice hown
  subst hsl
  obtain ⟨i0, hi, hz0, hz1, hz2⟩ := info_parts head_info
  have HOk := Lib.hid hok
  have HF := Lib.hid hf
  obtain ⟨n, hn0⟩ : ∃ n, l.length = n := ⟨_, rfl⟩
  rw [hn0] at hn hown
  have Hn0 := Lib.hid hn0
  have HOwn := Lib.hid hown
  rw [hn0]
  clear hown hok hf hn0
  unfold hdval
  go_enter Try.func53, Try.ntmps53
  go_wp2_with fail
  refine (rkey_any _ ⟨g, o, t, i, v, s, mm, ll⟩).mono ?_
  rintro e w1 ⟨rfl, hb1⟩
  have hb01 : Below w.heap.size w w1 := ((Below.refl _ w).alloc (Nat.le_refl _) _).trans (hb1.mono (by simp))
  have HX1 := Lib.hid ((Blk.new w 59 #[.int .u16 g, .int .u8 o, .int .u8 t, .int .u32 i, .int .u32 v, .int .i32 s, .int .u16 mm, .int .u16 ll]).below hb1 (by simp))
  have hO1 := (Frame.of_below (S := fun _ => False) hb01).own HOwn.out (fun _ _ e => e)
  have HB1 := Lib.hid hb01
  have hfind := find_is w1 (.slice A n c) l t i v (HeadsIn.own hO1 Hn0.out) (by have := Hn0.out; omega)
  have HFind := Lib.hid hfind
  clear hb1 hb01 hO1 hfind
  go_wp2_with fail
  refine HFind.out.mono ?_
  rintro e w2 ⟨j, rfl, hj, hb2⟩
  have HX2 := Lib.hid (HX1.out.below hb2 HX1.out.lt)
  have hb02 : Below w.heap.size w w2 := HB1.out.trans (hb2.mono HB1.out.size)
  have HB2 := Lib.hid hb02
  have hsz2 : w.heap.size < w2.heap.size := HX2.out.lt
  have HO2 := Lib.hid ((Frame.of_below (S := fun _ => False) hb02).own HOwn.out (fun _ _ e => e))
  clear hb2 hb02 HFind
  rcases hj with ⟨k, x, rfl, hx, hxk, hxf⟩ | ⟨rfl, hno⟩
  · have Hx := Lib.hid hx
    have HFi := Lib.hid (findIdx_some hx hxk hxf)
    have hkn : k < n := by have := (List.getElem?_eq_some_iff.1 hx).1; have := Hn0.out; omega
    have hxo := HOk.out x (List.mem_of_getElem? hx)
    have HXo := Lib.hid hxo
    have hO2 := HO2.out
    obtain ⟨gO, Oc, hov, -, hog⟩ := hO2.form (by have := Hn0.out; omega)
    have hA : A = some ⟨gO, 0, none⟩ := by injection hov
    subst hA
    obtain ⟨bl, off, hA2, -, hcell⟩ := (Reads.of_own hO2).head hx
    injection hA2 with hA2
    injection hA2 with hb1 hb2
    subst hb1 hb2
    obtain ⟨xg, xo, xt, xi, xv, xs, xm, xl⟩ := x
    have d0 : w2.cell? ⟨gO, k * 8, none⟩ = some (.int .u16 xg) := by simpa using hcell 0 _ rfl
    have d1 : w2.cell? ⟨gO, k * 8 + 1, none⟩ = some (.int .u8 xo) := by simpa using hcell 1 _ rfl
    have d2 : w2.cell? ⟨gO, k * 8 + 2, none⟩ = some (.int .u8 xt) := by simpa using hcell 2 _ rfl
    have d3 : w2.cell? ⟨gO, k * 8 + 3, none⟩ = some (.int .u32 xi) := by simpa using hcell 3 _ rfl
    have d4 : w2.cell? ⟨gO, k * 8 + 4, none⟩ = some (.int .u32 xv) := by simpa using hcell 4 _ rfl
    have d5 : w2.cell? ⟨gO, k * 8 + 5, none⟩ = some (.int .i32 xs) := by simpa using hcell 5 _ rfl
    have d6 : w2.cell? ⟨gO, k * 8 + 6, none⟩ = some (.int .u16 xm) := by simpa using hcell 6 _ rfl
    have d7 : w2.cell? ⟨gO, k * 8 + 7, none⟩ = some (.int .u16 xl) := by simpa using hcell 7 _ rfl
    have hfr : ∀ q, w2.frozen? ⟨gO, q, none⟩ = false := by
      rcases hO2.2 with ⟨e, _⟩ | ⟨g', cap', cur, e, _, hh, _⟩
      · cases e
      · injection e with e1
        injection e1 with e1
        injection e1 with e1
        subst e1
        exact Blk.frozen (t := 59) (cs := cur) hh
    have hkn2 : (k : Int) < (n : Int) := by omega
    clear hcell hx hxk hxf hxo hO2 hog hov
    have z0 : w2.cell? ⟨w.heap.size, 0, none⟩ = some (.int .u16 g) := HX2.out.cell 0
    have z1 : w2.cell? ⟨w.heap.size, 1, none⟩ = some (.int .u8 o) := HX2.out.cell 1
    have z2 : w2.cell? ⟨w.heap.size, 2, none⟩ = some (.int .u8 t) := HX2.out.cell 2
    have z3 : w2.cell? ⟨w.heap.size, 3, none⟩ = some (.int .u32 i) := HX2.out.cell 3
    have z4 : w2.cell? ⟨w.heap.size, 4, none⟩ = some (.int .u32 v) := HX2.out.cell 4
    have z5 : w2.cell? ⟨w.heap.size, 5, none⟩ = some (.int .i32 s) := HX2.out.cell 5
    have z6 : w2.cell? ⟨w.heap.size, 6, none⟩ = some (.int .u16 mm) := HX2.out.cell 6
    have z7 : w2.cell? ⟨w.heap.size, 7, none⟩ = some (.int .u16 ll) := HX2.out.cell 7
    go_upto_region 4 with fail
    refine wp_region_drawn_tail 5 (by kernel_rfl) (by kernel_rfl) ?_
    simp only [List.take_succ_cons, List.take_zero, List.drop_succ_cons, List.drop_zero]
    repeat (go_big_quiet_step (fail))
    refine wpQuiet_nil ?_
    rintro wq ⟨q, rfl⟩
    have hcall := rnewer_any g o t i v s mm ll xg xo xt xi xv xs xm xl (w2.drewN q) HF.out.g0 HF.out.g1 HXo.out.g0 HXo.out.g1 HF.out.s0 HF.out.s1 HXo.out.s0 HXo.out.s1 HF.out.m0 HF.out.m1 HXo.out.m0 HXo.out.m1
    have HC := Lib.hid hcall
    clear hcall
    go_wp2_with fail
    refine HC.out.mono ?_
    rintro e w3 ⟨rfl, hb3⟩
    have hb23 : Below w2.heap.size w2 w3 := (drewB' w2 q).trans hb3
    have HX3 := Lib.hid (HX2.out.below hb23 HX2.out.lt)
    have hO3 := (Frame.of_below (S := fun _ => False) hb23).own HO2.out (fun _ _ e => e)
    have HO3 := Lib.hid hO3
    have hF3 : Frame (fun j => (Value.slice (some ⟨gO, 0, none⟩) n c).ownBlock = some j) w w3 := Frame.of_below (HB2.out.trans (hb23.mono HB2.out.size))
    have HF3 := Lib.hid hF3
    have d0' : w3.cell? ⟨gO, k * 8, none⟩ = some (.int .u16 xg) := (hb23.cell (cell_lt d0)).trans d0
    have d1' : w3.cell? ⟨gO, k * 8 + 1, none⟩ = some (.int .u8 xo) := (hb23.cell (cell_lt d1)).trans d1
    have d2' : w3.cell? ⟨gO, k * 8 + 2, none⟩ = some (.int .u8 xt) := (hb23.cell (cell_lt d2)).trans d2
    have d3' : w3.cell? ⟨gO, k * 8 + 3, none⟩ = some (.int .u32 xi) := (hb23.cell (cell_lt d3)).trans d3
    have d4' : w3.cell? ⟨gO, k * 8 + 4, none⟩ = some (.int .u32 xv) := (hb23.cell (cell_lt d4)).trans d4
    have d5' : w3.cell? ⟨gO, k * 8 + 5, none⟩ = some (.int .i32 xs) := (hb23.cell (cell_lt d5)).trans d5
    have d6' : w3.cell? ⟨gO, k * 8 + 6, none⟩ = some (.int .u16 xm) := (hb23.cell (cell_lt d6)).trans d6
    have d7' : w3.cell? ⟨gO, k * 8 + 7, none⟩ = some (.int .u16 xl) := (hb23.cell (cell_lt d7)).trans d7
    have hfr3 : ∀ q, w3.frozen? ⟨gO, q, none⟩ = false := by
      rcases hO3.2 with ⟨e, _⟩ | ⟨g', cap', cur, e, _, hh, _⟩
      · cases e
      · injection e with e1
        injection e1 with e1
        injection e1 with e1
        subst e1
        exact Blk.frozen (t := 59) (cs := cur) hh
    clear d0 d1 d2 d3 d4 d5 d6 d7 hfr HC hb3 hb23 hO3 hF3 z0 z1 z2 z3 z4 z5 z6 z7
    have z0 : w3.cell? ⟨w.heap.size, 0, none⟩ = some (.int .u16 g) := HX3.out.cell 0
    have z1 : w3.cell? ⟨w.heap.size, 1, none⟩ = some (.int .u8 o) := HX3.out.cell 1
    have z2 : w3.cell? ⟨w.heap.size, 2, none⟩ = some (.int .u8 t) := HX3.out.cell 2
    have z3 : w3.cell? ⟨w.heap.size, 3, none⟩ = some (.int .u32 i) := HX3.out.cell 3
    have z4 : w3.cell? ⟨w.heap.size, 4, none⟩ = some (.int .u32 v) := HX3.out.cell 4
    have z5 : w3.cell? ⟨w.heap.size, 5, none⟩ = some (.int .i32 s) := HX3.out.cell 5
    have z6 : w3.cell? ⟨w.heap.size, 6, none⟩ = some (.int .u16 mm) := HX3.out.cell 6
    have z7 : w3.cell? ⟨w.heap.size, 7, none⟩ = some (.int .u16 ll) := HX3.out.cell 7
    obtain ⟨nv, hnv⟩ : ∃ nv, nv = Od.newer ⟨g, o, t, i, v, s, mm, ll⟩ ⟨xg, xo, xt, xi, xv, xs, xm, xl⟩ := ⟨_, rfl⟩
    rw [← hnv]
    have Hnv := Lib.hid hnv
    clear hnv
    by_cases hpos : 0 < nv
    · have HL : Hid (learnL l ⟨g, o, t, i, v, s, mm, ll⟩ = l.set k ⟨g, o, t, i, v, s, mm, ll⟩) := Lib.hid (by
        unfold learnL
        rw [show l.findIdx? (fun x => decide (keyOfHd x = keyOfHd ⟨g, o, t, i, v, s, mm, ll⟩)) = some k from HFi.out]
        simp only [Hx.out]
        rw [if_pos (by rw [← Hnv.out]; exact hpos)])
      go_wp2_with fail
      go_ret
      refine ⟨_, rfl, ?_, ?_, .inl rfl⟩
      · rw [HL.out, List.length_set, Hn0.out]
        exact own_set8 (x := ⟨g, o, t, i, v, s, mm, ll⟩) HO3.out Hn0.out hkn
      · have hF3 := HF3.out
        exact ((((((((hF3.setCell (p := ⟨gO, k * 8, none⟩) (fun _ => rfl) _).setCell (p := ⟨gO, k * 8 + 1, none⟩) (fun _ => rfl) _).setCell (p := ⟨gO, k * 8 + 2, none⟩) (fun _ => rfl) _).setCell (p := ⟨gO, k * 8 + 3, none⟩) (fun _ => rfl) _).setCell (p := ⟨gO, k * 8 + 4, none⟩) (fun _ => rfl) _).setCell (p := ⟨gO, k * 8 + 5, none⟩) (fun _ => rfl) _).setCell (p := ⟨gO, k * 8 + 6, none⟩) (fun _ => rfl) _).setCell (p := ⟨gO, k * 8 + 7, none⟩) (fun _ => rfl) _)
    · have HL : Hid (learnL l ⟨g, o, t, i, v, s, mm, ll⟩ = l) := Lib.hid (by
        unfold learnL
        rw [show l.findIdx? (fun x => decide (keyOfHd x = keyOfHd ⟨g, o, t, i, v, s, mm, ll⟩)) = some k from HFi.out]
        simp only [Hx.out]
        rw [if_neg (by rw [← Hnv.out]; exact hpos)])
      go_wp2_with fail
      go_ret
      refine ⟨_, rfl, ?_, HF3.out, .inl rfl⟩
      rw [HL.out, Hn0.out]
      exact HO3.out
  · have HL : Hid (learnL l ⟨g, o, t, i, v, s, mm, ll⟩ = l ++ [⟨g, o, t, i, v, s, mm, ll⟩]) := Lib.hid (by
      unfold learnL
      rw [show l.findIdx? (fun x => decide (keyOfHd x = keyOfHd ⟨g, o, t, i, v, s, mm, ll⟩)) = none from findIdx_none hno])
    clear hno
    have z0 : w2.cell? ⟨w.heap.size, 0, none⟩ = some (.int .u16 g) := HX2.out.cell 0
    have z1 : w2.cell? ⟨w.heap.size, 1, none⟩ = some (.int .u8 o) := HX2.out.cell 1
    have z2 : w2.cell? ⟨w.heap.size, 2, none⟩ = some (.int .u8 t) := HX2.out.cell 2
    have z3 : w2.cell? ⟨w.heap.size, 3, none⟩ = some (.int .u32 i) := HX2.out.cell 3
    have z4 : w2.cell? ⟨w.heap.size, 4, none⟩ = some (.int .u32 v) := HX2.out.cell 4
    have z5 : w2.cell? ⟨w.heap.size, 5, none⟩ = some (.int .i32 s) := HX2.out.cell 5
    have z6 : w2.cell? ⟨w.heap.size, 6, none⟩ = some (.int .u16 mm) := HX2.out.cell 6
    have z7 : w2.cell? ⟨w.heap.size, 7, none⟩ = some (.int .u16 ll) := HX2.out.cell 7
    have hlit := Reads.of_own (World.ownsRow_lit (base := 0) (e := 59) (size := 8) w2 #[.int .u16 g, .int .u8 o, .int .u8 t, .int .u32 i, .int .u32 v, .int .i32 s, .int .u16 mm, .int .u16 ll] 1 (Nat.zero_le _) (by simp [maxLen]) rfl)
    have HLit := Lib.hid hlit
    have hOw := HO2.out.alloc (.cells #[.int .u16 g, .int .u8 o, .int .u8 t, .int .u32 i, .int .u32 v, .int .i32 s, .int .u16 mm, .int .u16 ll] 59)
    have HOw := Lib.hid hOw
    have h63 : n + 1 ≤ maxLen := by unfold maxLen; omega
    have hbytes : (n + 1) * 20 ≤ 140737488355328 := by omega
    have hbase2 : base ≤ (w2.alloc (.cells #[.int .u16 g, .int .u8 o, .int .u8 t, .int .u32 i, .int .u32 v, .int .i32 s, .int .u16 mm, .int .u16 ll] 59)).heap.size := by simp; omega
    have hflat : (l.flatMap hcells).length = n * 8 := by rw [hflat_len, Hn0.out]
    clear hlit hOw
    go_wp2_with (at_builtin; refine wpList_append_any _ rfl (.tmp 12) (.tmp 14) _ rfl base 59 i0 _ 8 20 Try.underlying22 hi hz0 hz1 hz2 rfl (by omega) (.slice A n c) n (l.flatMap hcells) rfl HOw.out _ (some ⟨w2.heap.size, 0, none⟩) 1 1 (hcells ⟨g, o, t, i, v, s, mm, ll⟩) rfl HLit.out (by simp [hcells, Value.oneCell']) h63 hbytes hbase2 ?_; intro v8 w8 hown8 hg8 hat8)
    go_ret
    have hF8 : Frame (fun j => (Value.slice A n c).ownBlock = some j) w w8 := ((Frame.of_below HB2.out).alloc _).trans (Frame.of_grown hg8 (fun k e _ => e))
    refine ⟨v8, rfl, ?_, hF8, ?_⟩
    · rw [HL.out, List.length_append, Hn0.out, List.flatMap_append]
      simpa using hown8
    · rcases hat8 with e | e
      · exact .inl e
      · exact .inr ⟨_, e, by simp; omega⟩
end Go.Proofs.Ytgbmhijgpdgdbaa
