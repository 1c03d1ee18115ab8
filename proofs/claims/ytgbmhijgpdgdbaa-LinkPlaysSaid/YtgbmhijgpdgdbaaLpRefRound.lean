/- The document's link: a round of Hellos. -/
import Derived.Test.YtgbmhijgpdgdbaaLpRefHello
set_option maxHeartbeats 4000000
set_option maxRecDepth 20000
namespace Go.Proofs.Ytgbmhijgpdgdbaa
open Go.RowKit Go.Shelf
theorem rsend_info : (Try.prog.info? 181).map (fun i => (i.zero, i.size, i.bytes)) = some (some (.agg #[.int .u32 0, .int .u32 0, .int .u16 0, .int .u8 0, .int .u8 0, .int .u32 0, .int .u32 0, .int .u32 0, .slice none 0 0]), 9, 56) := by kernel_rfl
def outs (c : LC) (s : Pl.St) (pb : Bool) (k : Nat) : List (Int × Pl.Hel) := ((s.l.take k).filter (Pl.due c s pb)).map fun k => (k.ad, Pl.hel c s)
theorem outs_yes {c : LC} {s : Pl.St} {pb : Bool} {k : Nat} {x : Kn} (hx : s.l[k]? = some x) (h : Pl.due c s pb x = true) : outs c s pb (k + 1) = outs c s pb k ++ [(x.ad, Pl.hel c s)] := by
  unfold outs
  rw [List.take_add_one, hx]
  simp [h]
theorem outs_no {c : LC} {s : Pl.St} {pb : Bool} {k : Nat} {x : Kn} (hx : s.l[k]? = some x) (h : Pl.due c s pb x = false) : outs c s pb (k + 1) = outs c s pb k := by
  unfold outs
  rw [List.take_add_one, hx]
  simp [h]
theorem outs_len (c : LC) (s : Pl.St) (pb : Bool) (k : Nat) : (outs c s pb k).length ≤ s.l.length := by
  unfold outs
  rw [List.length_map]
  exact Nat.le_trans (List.length_filter_le _ _) (by rw [List.length_take]; omega)
def sclOf (nv : Value) (l : List (Int × Pl.Hel)) : List Value := l.flatMap fun x => scl (x, nv)
theorem scl_rep (nv : Value) (l : List (Int × Pl.Hel)) : (l.zip (List.replicate l.length nv)).flatMap scl = sclOf nv l := by
  unfold sclOf
  induction l with
  | nil => rfl
  | cons a t ih => simp only [List.length_cons, List.replicate_succ, List.zip_cons_cons, List.flatMap_cons, ih]
theorem OutsAt.of_own {w : World} {base b2 : Nat} {v nv : Value} {l : List (Int × Pl.Hel)} {ws : List Int} (h : w.ownsRow base 181 9 v l.length (sclOf nv l)) (hl : l.length ≤ 65536) (hn : w.ownsRow b2 25 1 nv ws.length (ws.map (Value.int .u32))) (hw : ws.length ≤ 65536) (hall : ∀ x ∈ l, x.2.nb = ws) : OutsAt w v l := by
  obtain ⟨A, cp, rfl⟩ := own_slice h
  refine ⟨A, _, cp, List.replicate l.length nv, rfl, rfl, by simp, hl, by rw [scl_rep]; exact Reads.of_own h, fun i x u hx hu => ?_⟩
  obtain ⟨_, rfl⟩ := List.mem_replicate.1 (List.mem_of_getElem? hu)
  rw [hall x (List.mem_of_getElem? hx)]
  exact ⟨hw, b2, hn⟩
theorem hel_cs {W : World} {B t : Nat} {c : LC} {s : Pl.St} {nv : Value} (K : Blk W B t #[.int .u32 (Pl.hel c s).ma, .int .u16 (Pl.hel c s).hi, .int .u8 (Pl.hel c s).op, .int .u8 (Pl.hel c s).pr, .int .u32 (Pl.hel c s).dd, .int .u32 (Pl.hel c s).dr, .int .u32 (Pl.hel c s).bd, nv]) :
    W.cell? ⟨B, 0, none⟩ = some (.int .u32 (Pl.hel c s).ma) ∧ W.cell? ⟨B, 1, none⟩ = some (.int .u16 (Pl.hel c s).hi) ∧ W.cell? ⟨B, 2, none⟩ = some (.int .u8 (Pl.hel c s).op) ∧ W.cell? ⟨B, 3, none⟩ = some (.int .u8 (Pl.hel c s).pr) ∧ W.cell? ⟨B, 4, none⟩ = some (.int .u32 (Pl.hel c s).dd) ∧ W.cell? ⟨B, 5, none⟩ = some (.int .u32 (Pl.hel c s).dr) ∧ W.cell? ⟨B, 6, none⟩ = some (.int .u32 (Pl.hel c s).bd) ∧ W.cell? ⟨B, 7, none⟩ = some (nv) :=
  ⟨K.cell 0, K.cell 1, K.cell 2, K.cell 3, K.cell 4, K.cell 5, K.cell 6, K.cell 7⟩
section
variable {lo : Nat} {w : World} {R : Nat} {c : LC} {s : Pl.St} {v : Value}
theorem rround_any (h : RAt lo w R c s v) (hn : s.l.length ≤ 60000) (h6 : s.st ≤ 6) (hp0 : 0 ≤ c.pr) (hn0 : 0 ≤ c.nb) (hn1 : c.nb ≤ 32) (hvi : c.ty = 4 → c.nb = 0) (pb : Bool) :
    Calls Try.prog 114 #[.pointer (some ⟨R, 0, none⟩), .bool pb] w fun e w' => ∃ u, e = .returned u ∧ OutsAt w' u (Pl.round c s pb) ∧ Below w.heap.size w w' := by
  obtain ⟨A, cp, rfl⟩ := own_slice h.o
  obtain ⟨n, hn'⟩ : ∃ n, s.l.length = n := ⟨_, rfl⟩
  have H : Hid (RAt lo w R c s (.slice A n cp)) := Lib.hid (by rw [← hn']; exact h)
  have Hn := Lib.hid hn'
  have HB0 := Lib.hid (And.intro hn0 (And.intro hn1 hvi))
  have HC : Hid (∀ W, Below w.heap.size w W → Calls Try.prog 122 #[.pointer (some ⟨R, 0, none⟩)] W fun e w' => RHel c s W e w') := Lib.hid (fun W hW => rhello_any (h.below hW) hn hn0 hn1 hvi)
  have hlt := H.out.b.lt
  rw [hn'] at hn
  clear h hn' hn0 hn1 hvi
  obtain ⟨i0, hi, hz0', hz1, hz2⟩ := info_parts rsend_info
  go_enter Try.func114, Try.ntmps114
  go_upto_region 2 with fail
  go_wp2_with fail
  refine (HC.out _ (Below.refl _ _)).mono ?_
  rintro e w1 ⟨nv, rfl, hown, hb1⟩
  obtain ⟨va, vc, rfl⟩ := own_slice hown
  obtain ⟨q, hq⟩ : ∃ q, (Pl.hel c s).nb.length = q := ⟨_, rfl⟩
  have Hq := Lib.hid hq
  rw [hq] at hown ⊢
  clear hq
  unfold hval
  obtain ⟨w2, hw2⟩ : ∃ w2, w2 = w1.alloc (.cells #[.int .u32 (Pl.hel c s).ma, .int .u16 (Pl.hel c s).hi, .int .u8 (Pl.hel c s).op, .int .u8 (Pl.hel c s).pr, .int .u32 (Pl.hel c s).dd, .int .u32 (Pl.hel c s).dr, .int .u32 (Pl.hel c s).bd, .slice va q vc] 90) := ⟨_, rfl⟩
  have hb2 : Below w.heap.size w w2 := by rw [hw2]; exact hb1.alloc hb1.size _
  have hw1s : w.heap.size ≤ w1.heap.size := hb1.size
  have HP : Hid (Calls Try.prog 62 #[.agg #[.int .u8 c.ty, .int .u32 c.ro, .int .u32 c.na, .int .u8 c.nb, .int .u32 c.ad, .int .u8 c.op, .int .u16 c.hi, .int .u32 c.dd, .int .u16 c.po, .int .u8 c.pr, .bool c.dm, .bool c.ps, c.pe, .int .u32 c.rm]] w2 fun e w' => e = .returned (.bool c.peers) ∧ Below w2.heap.size w2 w') := Lib.hid (rpeers_any c w2)
  have HR2 := Lib.hid (H.out.below hb2)
  have HH2 : Hid (Blk w2 w1.heap.size 90 #[.int .u32 (Pl.hel c s).ma, .int .u16 (Pl.hel c s).hi, .int .u8 (Pl.hel c s).op, .int .u8 (Pl.hel c s).pr, .int .u32 (Pl.hel c s).dd, .int .u32 (Pl.hel c s).dr, .int .u32 (Pl.hel c s).bd, .slice va q vc]) := Lib.hid (by rw [hw2]; exact Blk.new w1 _ _)
  have HO2 : Hid (w2.ownsRow w.heap.size 25 1 (.slice va q vc) q ((Pl.hel c s).nb.map (Value.int .u32))) := Lib.hid (by rw [hw2]; exact (Frame.of_below (S := fun _ => False) ((Below.refl _ w1).alloc (Nat.le_refl _) _)).own hown (fun _ _ e => e))
  have HB2 := Lib.hid hb2
  have c0 : w2.cell? ⟨R, 0, none⟩ = some (.int .u8 c.ty) := HR2.out.b.cell 0
  have c1 : w2.cell? ⟨R, 1, none⟩ = some (.int .u32 c.ro) := HR2.out.b.cell 1
  have c2 : w2.cell? ⟨R, 2, none⟩ = some (.int .u32 c.na) := HR2.out.b.cell 2
  have c3 : w2.cell? ⟨R, 3, none⟩ = some (.int .u8 c.nb) := HR2.out.b.cell 3
  have c4 : w2.cell? ⟨R, 4, none⟩ = some (.int .u32 c.ad) := HR2.out.b.cell 4
  have c5 : w2.cell? ⟨R, 5, none⟩ = some (.int .u8 c.op) := HR2.out.b.cell 5
  have c6 : w2.cell? ⟨R, 6, none⟩ = some (.int .u16 c.hi) := HR2.out.b.cell 6
  have c7 : w2.cell? ⟨R, 7, none⟩ = some (.int .u32 c.dd) := HR2.out.b.cell 7
  have c8 : w2.cell? ⟨R, 8, none⟩ = some (.int .u16 c.po) := HR2.out.b.cell 8
  have c9 : w2.cell? ⟨R, 9, none⟩ = some (.int .u8 c.pr) := HR2.out.b.cell 9
  have c10 : w2.cell? ⟨R, 10, none⟩ = some (.bool c.dm) := HR2.out.b.cell 10
  have c11 : w2.cell? ⟨R, 11, none⟩ = some (.bool c.ps) := HR2.out.b.cell 11
  have c12 : w2.cell? ⟨R, 12, none⟩ = some (c.pe) := HR2.out.b.cell 12
  have c13 : w2.cell? ⟨R, 13, none⟩ = some (.int .u32 c.rm) := HR2.out.b.cell 13
  have hl2 := HR2.out.b.lt
  clear hown hb1 hb2 hlt
  go_upto_region 3 with fail
  rw [← hw2]
  clear hw2
  go_wp2_with fail
  refine HP.out.mono ?_
  rintro e w3 ⟨rfl, hb3⟩
  obtain ⟨Hh, hHh⟩ : ∃ x, x = w1.heap.size := ⟨_, rfl⟩
  rw [← hHh] at HH2 hw1s ⊢
  have HR := Lib.hid (HR2.out.below hb3)
  have HH := Lib.hid (HH2.out.below hb3 HH2.out.lt)
  have HO := Lib.hid ((Frame.of_below (S := fun _ => False) hb3).own HO2.out (fun _ _ e => e))
  have HB := Lib.hid (HB2.out.trans (hb3.mono HB2.out.size))
  have HHl := Lib.hid hw1s
  clear hHh hw1s hb3 HR2 HH2 HO2 HB2 HP c0 c1 c2 c3 c4 c5 c6 c7 c8 c9 c10 c11 c12 c13 hl2
  rcases hp : c.peers with _ | _
  · have HRn : Hid (Pl.round c s pb = if pb || ((Pl.toOf c s == 0) || (s.l.length == 1 && s.l.all (Pl.still c))) then [] else [(Pl.toOf c s, Pl.hel c s)]) := Lib.hid (by unfold Pl.round; rw [hp]; rfl)
    have HL : Hid ((Pl.hel c s).nb.length ≤ 65536) := Lib.hid (by
      have : (Pl.hel c s).nb.length ≤ s.l.length := by
        show ((s.l.filter Pl.heard).map (·.ro)).length ≤ _
        rw [List.length_map]
        exact List.length_filter_le _ _
      rw [Hn.out] at this
      omega)
    have c0 : w3.cell? ⟨R, 0, none⟩ = some (.int .u8 c.ty) := HR.out.b.cell 0
    have c20 : w3.cell? ⟨R, 20, none⟩ = some (.int .u32 s.re) := HR.out.b.cell 20
    have c21 : w3.cell? ⟨R, 21, none⟩ = some (.slice A n cp) := HR.out.b.cell 21
    have hRl := HR.out.b.lt
    clear hp
    by_cases ht : c.ty = 4
    · by_cases hz : s.re = 0
      · have HT : Hid (Pl.toOf c s = 0) := Lib.hid (by unfold Pl.toOf; rw [if_pos ht, hz])
        rw [hz] at c20
        rw [ht] at c0
        by_cases h1 : n = 1
        · subst h1
          obtain ⟨x, hx⟩ : ∃ x, s.l = [x] := List.length_eq_one_iff.1 Hn.out
          have Hx := Lib.hid hx
          obtain ⟨b, n', cap, e, hn2, hb, hc⟩ := HR.out.o.knb (i := 0) (k := x) (by rw [hx]; rfl)
          cases e
          have q0 : w3.cell? ⟨b, 0, none⟩ = some (.int .u32 x.ro) := hc 0 _ rfl
          have q1 : w3.cell? ⟨b, 1, none⟩ = some (.int .u32 x.ad) := hc 1 _ rfl
          have q2 : w3.cell? ⟨b, 2, none⟩ = some (.int .u8 x.st) := hc 2 _ rfl
          have q3 : w3.cell? ⟨b, 3, none⟩ = some (.int .u8 x.pr) := hc 3 _ rfl
          have q4 : w3.cell? ⟨b, 4, none⟩ = some (.int .u32 x.dr) := hc 4 _ rfl
          have q5 : w3.cell? ⟨b, 5, none⟩ = some (.int .u32 x.bd) := hc 5 _ rfl
          have q6 : w3.cell? ⟨b, 6, none⟩ = some (.int .u8 x.op) := hc 6 _ rfl
          have q7 : w3.cell? ⟨b, 7, none⟩ = some (.int .u32 x.lf) := hc 7 _ rfl
          have q8 : w3.cell? ⟨b, 8, none⟩ = some (.bool x.fu) := hc 8 _ rfl
          have HSt : Hid (Calls Try.prog 115 #[.pointer (some ⟨R, 0, none⟩), .agg #[.int .u32 x.ro, .int .u32 x.ad, .int .u8 x.st, .int .u8 x.pr, .int .u32 x.dr, .int .u32 x.bd, .int .u8 x.op, .int .u32 x.lf, .bool x.fu]] w3 fun e w' => e = .returned (.bool (Pl.still c x)) ∧ Below w3.heap.size w3 w') := Lib.hid (rstill_any HR.out.b x)
          clear hx hn2 hc
          go_wp2_with fail
          refine HSt.out.mono ?_
          rintro e w5 ⟨rfl, hb5⟩
          have HH5 := Lib.hid (HH.out.below hb5 HH.out.lt)
          have HO5 := Lib.hid ((Frame.of_below (S := fun _ => False) hb5).own HO.out (fun _ _ e => e))
          have HB5 := Lib.hid (HB.out.trans (hb5.mono HB.out.size))
          obtain ⟨z0, z1, z2, z3, z4, z5, z6, z7⟩ := hel_cs (c := c) (s := s) HH5.out
          have hHl5 := HH5.out.lt
          clear hb5 HR HH HO HB c0 c20 c21 hRl HSt q0 q1 q2 q3 q4 q5 q6 q7 q8 hb
          rcases hst : Pl.still c x with _ | _
          · have HQ : Hid ((s.l.length == 1 && s.l.all (Pl.still c)) = false) := Lib.hid (by rw [Hx.out]; simp [hst])
            rcases pb with _ | _
            · have E : Hid (Pl.round c s _ = []) := Lib.hid (by rw [HRn.out, HQ.out, HT.out]; rfl)
              go_wp2_with fail
              go_ret
              refine ⟨_, rfl, ?_, HB5.out⟩
              rw [E.out]
              exact OutsAt.nil _
            · have E : Hid (Pl.round c s _ = []) := Lib.hid (by rw [HRn.out]; rfl)
              go_wp2_with fail
              go_ret
              refine ⟨_, rfl, ?_, HB5.out⟩
              rw [E.out]
              exact OutsAt.nil _
          · have HQ : Hid ((s.l.length == 1 && s.l.all (Pl.still c)) = true) := Lib.hid (by rw [Hx.out]; simp [hst])
            rcases pb with _ | _
            · have E : Hid (Pl.round c s _ = []) := Lib.hid (by rw [HRn.out, HQ.out, Bool.or_true]; rfl)
              go_wp2_with fail
              go_ret
              refine ⟨_, rfl, ?_, HB5.out⟩
              rw [E.out]
              exact OutsAt.nil _
            · have E : Hid (Pl.round c s _ = []) := Lib.hid (by rw [HRn.out]; rfl)
              go_wp2_with fail
              go_ret
              refine ⟨_, rfl, ?_, HB5.out⟩
              rw [E.out]
              exact OutsAt.nil _
        · have e1 : ((n : Int) == 1) = false := by simp; omega
          have HQ : Hid ((s.l.length == 1 && s.l.all (Pl.still c)) = false) := Lib.hid (by rw [Hn.out]; simp [h1])
          obtain ⟨z0, z1, z2, z3, z4, z5, z6, z7⟩ := hel_cs (c := c) (s := s) HH.out
          have hHl5 := HH.out.lt
          clear h1
          rcases pb with _ | _
          · have E : Hid (Pl.round c s _ = []) := Lib.hid (by rw [HRn.out, HQ.out, HT.out]; rfl)
            go_wp2_with fail
            go_ret
            refine ⟨_, rfl, ?_, HB.out⟩
            rw [E.out]
            exact OutsAt.nil _
          · have E : Hid (Pl.round c s _ = []) := Lib.hid (by rw [HRn.out]; rfl)
            go_wp2_with fail
            go_ret
            refine ⟨_, rfl, ?_, HB.out⟩
            rw [E.out]
            exact OutsAt.nil _
      · have HZ : Hid ((s.re == 0) = false) := Lib.hid (by simp [hz])
        have e0 : (s.re == 0) = false := HZ.out
        have e0n : (s.re != 0) = true := by simp [hz]
        have HT : Hid (Pl.toOf c s = s.re) := Lib.hid (by unfold Pl.toOf; rw [if_pos ht])
        rw [ht] at c0
        by_cases h1 : n = 1
        · subst h1
          obtain ⟨x, hx⟩ : ∃ x, s.l = [x] := List.length_eq_one_iff.1 Hn.out
          have Hx := Lib.hid hx
          obtain ⟨b, n', cap, e, hn2, hb, hc⟩ := HR.out.o.knb (i := 0) (k := x) (by rw [hx]; rfl)
          cases e
          have q0 : w3.cell? ⟨b, 0, none⟩ = some (.int .u32 x.ro) := hc 0 _ rfl
          have q1 : w3.cell? ⟨b, 1, none⟩ = some (.int .u32 x.ad) := hc 1 _ rfl
          have q2 : w3.cell? ⟨b, 2, none⟩ = some (.int .u8 x.st) := hc 2 _ rfl
          have q3 : w3.cell? ⟨b, 3, none⟩ = some (.int .u8 x.pr) := hc 3 _ rfl
          have q4 : w3.cell? ⟨b, 4, none⟩ = some (.int .u32 x.dr) := hc 4 _ rfl
          have q5 : w3.cell? ⟨b, 5, none⟩ = some (.int .u32 x.bd) := hc 5 _ rfl
          have q6 : w3.cell? ⟨b, 6, none⟩ = some (.int .u8 x.op) := hc 6 _ rfl
          have q7 : w3.cell? ⟨b, 7, none⟩ = some (.int .u32 x.lf) := hc 7 _ rfl
          have q8 : w3.cell? ⟨b, 8, none⟩ = some (.bool x.fu) := hc 8 _ rfl
          have HSt : Hid (Calls Try.prog 115 #[.pointer (some ⟨R, 0, none⟩), .agg #[.int .u32 x.ro, .int .u32 x.ad, .int .u8 x.st, .int .u8 x.pr, .int .u32 x.dr, .int .u32 x.bd, .int .u8 x.op, .int .u32 x.lf, .bool x.fu]] w3 fun e w' => e = .returned (.bool (Pl.still c x)) ∧ Below w3.heap.size w3 w') := Lib.hid (rstill_any HR.out.b x)
          clear hx hn2 hc
          go_wp2_with fail
          refine HSt.out.mono ?_
          rintro e w5 ⟨rfl, hb5⟩
          have HH5 := Lib.hid (HH.out.below hb5 HH.out.lt)
          have HO5 := Lib.hid ((Frame.of_below (S := fun _ => False) hb5).own HO.out (fun _ _ e => e))
          have HB5 := Lib.hid (HB.out.trans (hb5.mono HB.out.size))
          obtain ⟨z0, z1, z2, z3, z4, z5, z6, z7⟩ := hel_cs (c := c) (s := s) HH5.out
          have hHl5 := HH5.out.lt
          clear hb5 HR HH HO HB c0 c20 c21 hRl HSt q0 q1 q2 q3 q4 q5 q6 q7 q8 hb
          rcases hst : Pl.still c x with _ | _
          · have HQ : Hid ((s.l.length == 1 && s.l.all (Pl.still c)) = false) := Lib.hid (by rw [Hx.out]; simp [hst])
            rcases pb with _ | _
            · have E : Hid (Pl.round c s _ = [(s.re, Pl.hel c s)]) := Lib.hid (by rw [HRn.out, HQ.out, HT.out, HZ.out]; rfl)
              have hbase : w.heap.size ≤ (w5.alloc (.cells #[.int .u32 s.re, .int .u32 (Pl.hel c s).ma, .int .u16 (Pl.hel c s).hi, .int .u8 (Pl.hel c s).op, .int .u8 (Pl.hel c s).pr, .int .u32 (Pl.hel c s).dd, .int .u32 (Pl.hel c s).dr, .int .u32 (Pl.hel c s).bd, .slice va q vc] 181)).heap.size := by have := HB5.out.size; simp; omega
              go_wp2_with (at_builtin; refine wpList_append_any _ rfl (.tmp 54) (.tmp 58) _ rfl w.heap.size 181 i0 _ 9 56 Try.underlying150 hi hz0' hz1 hz2 rfl (by omega) (.slice none 0 0) 0 [] rfl (World.ownsRow_nil _ _ _ _) _ (some ⟨w5.heap.size, 0, none⟩) 1 1 _ rfl (Reads.of_own (World.ownsRow_lit (base := 0) (e := 181) (size := 9) w5 #[.int .u32 s.re, .int .u32 (Pl.hel c s).ma, .int .u16 (Pl.hel c s).hi, .int .u8 (Pl.hel c s).op, .int .u8 (Pl.hel c s).pr, .int .u32 (Pl.hel c s).dd, .int .u32 (Pl.hel c s).dr, .int .u32 (Pl.hel c s).bd, .slice va q vc] 1 (Nat.zero_le _) (by simp [maxLen]) rfl)) (by simp [Value.oneCell']) (by simp [maxLen]) (by simp) hbase ?_; intro v1 w6 hown6 hg6 _; have hF : Frame (fun _ => False) w5 w6 := (Frame.of_below ((Below.refl _ w5).alloc (Nat.le_refl _) _)).trans (Frame.of_grown hg6 (fun j e _ => by simp [Value.ownBlock] at e)); have HOwn6 := Lib.hid hown6; have HF := Lib.hid hF; clear hown6 hg6 hF)
              go_ret
              refine ⟨_, rfl, ?_, below_fr HB5.out HF.out (fun j e => e.elim) HB5.out.size⟩
              rw [E.out]
              exact OutsAt.of_own (ws := (Pl.hel c s).nb) HOwn6.out (by simp) (by rw [Hq.out]; exact HF.out.own HO5.out (fun _ _ e => e)) HL.out (fun y hy => by rw [List.mem_singleton.1 hy])
            · have E : Hid (Pl.round c s _ = []) := Lib.hid (by rw [HRn.out]; rfl)
              go_wp2_with fail
              go_ret
              refine ⟨_, rfl, ?_, HB5.out⟩
              rw [E.out]
              exact OutsAt.nil _
          · have HQ : Hid ((s.l.length == 1 && s.l.all (Pl.still c)) = true) := Lib.hid (by rw [Hx.out]; simp [hst])
            rcases pb with _ | _
            · have E : Hid (Pl.round c s _ = []) := Lib.hid (by rw [HRn.out, HQ.out, Bool.or_true]; rfl)
              go_wp2_with fail
              go_ret
              refine ⟨_, rfl, ?_, HB5.out⟩
              rw [E.out]
              exact OutsAt.nil _
            · have E : Hid (Pl.round c s _ = []) := Lib.hid (by rw [HRn.out]; rfl)
              go_wp2_with fail
              go_ret
              refine ⟨_, rfl, ?_, HB5.out⟩
              rw [E.out]
              exact OutsAt.nil _
        · have e1 : ((n : Int) == 1) = false := by simp; omega
          have HQ : Hid ((s.l.length == 1 && s.l.all (Pl.still c)) = false) := Lib.hid (by rw [Hn.out]; simp [h1])
          obtain ⟨z0, z1, z2, z3, z4, z5, z6, z7⟩ := hel_cs (c := c) (s := s) HH.out
          have hHl5 := HH.out.lt
          clear h1
          rcases pb with _ | _
          · have E : Hid (Pl.round c s _ = [(s.re, Pl.hel c s)]) := Lib.hid (by rw [HRn.out, HQ.out, HT.out, HZ.out]; rfl)
            have hbase : w.heap.size ≤ (w3.alloc (.cells #[.int .u32 s.re, .int .u32 (Pl.hel c s).ma, .int .u16 (Pl.hel c s).hi, .int .u8 (Pl.hel c s).op, .int .u8 (Pl.hel c s).pr, .int .u32 (Pl.hel c s).dd, .int .u32 (Pl.hel c s).dr, .int .u32 (Pl.hel c s).bd, .slice va q vc] 181)).heap.size := by have := HB.out.size; simp; omega
            go_wp2_with (at_builtin; refine wpList_append_any _ rfl (.tmp 54) (.tmp 58) _ rfl w.heap.size 181 i0 _ 9 56 Try.underlying150 hi hz0' hz1 hz2 rfl (by omega) (.slice none 0 0) 0 [] rfl (World.ownsRow_nil _ _ _ _) _ (some ⟨w3.heap.size, 0, none⟩) 1 1 _ rfl (Reads.of_own (World.ownsRow_lit (base := 0) (e := 181) (size := 9) w3 #[.int .u32 s.re, .int .u32 (Pl.hel c s).ma, .int .u16 (Pl.hel c s).hi, .int .u8 (Pl.hel c s).op, .int .u8 (Pl.hel c s).pr, .int .u32 (Pl.hel c s).dd, .int .u32 (Pl.hel c s).dr, .int .u32 (Pl.hel c s).bd, .slice va q vc] 1 (Nat.zero_le _) (by simp [maxLen]) rfl)) (by simp [Value.oneCell']) (by simp [maxLen]) (by simp) hbase ?_; intro v1 w6 hown6 hg6 _; have hF : Frame (fun _ => False) w3 w6 := (Frame.of_below ((Below.refl _ w3).alloc (Nat.le_refl _) _)).trans (Frame.of_grown hg6 (fun j e _ => by simp [Value.ownBlock] at e)); have HOwn6 := Lib.hid hown6; have HF := Lib.hid hF; clear hown6 hg6 hF)
            go_ret
            refine ⟨_, rfl, ?_, below_fr HB.out HF.out (fun j e => e.elim) HB.out.size⟩
            rw [E.out]
            exact OutsAt.of_own (ws := (Pl.hel c s).nb) HOwn6.out (by simp) (by rw [Hq.out]; exact HF.out.own HO.out (fun _ _ e => e)) HL.out (fun y hy => by rw [List.mem_singleton.1 hy])
          · have E : Hid (Pl.round c s _ = []) := Lib.hid (by rw [HRn.out]; rfl)
            go_wp2_with fail
            go_ret
            refine ⟨_, rfl, ?_, HB.out⟩
            rw [E.out]
            exact OutsAt.nil _
    · have HT : Hid (Pl.toOf c s = 3758096389) := Lib.hid (by unfold Pl.toOf; rw [if_neg ht])
      by_cases h1 : n = 1
      · subst h1
        obtain ⟨x, hx⟩ : ∃ x, s.l = [x] := List.length_eq_one_iff.1 Hn.out
        have Hx := Lib.hid hx
        obtain ⟨b, n', cap, e, hn2, hb, hc⟩ := HR.out.o.knb (i := 0) (k := x) (by rw [hx]; rfl)
        cases e
        have q0 : w3.cell? ⟨b, 0, none⟩ = some (.int .u32 x.ro) := hc 0 _ rfl
        have q1 : w3.cell? ⟨b, 1, none⟩ = some (.int .u32 x.ad) := hc 1 _ rfl
        have q2 : w3.cell? ⟨b, 2, none⟩ = some (.int .u8 x.st) := hc 2 _ rfl
        have q3 : w3.cell? ⟨b, 3, none⟩ = some (.int .u8 x.pr) := hc 3 _ rfl
        have q4 : w3.cell? ⟨b, 4, none⟩ = some (.int .u32 x.dr) := hc 4 _ rfl
        have q5 : w3.cell? ⟨b, 5, none⟩ = some (.int .u32 x.bd) := hc 5 _ rfl
        have q6 : w3.cell? ⟨b, 6, none⟩ = some (.int .u8 x.op) := hc 6 _ rfl
        have q7 : w3.cell? ⟨b, 7, none⟩ = some (.int .u32 x.lf) := hc 7 _ rfl
        have q8 : w3.cell? ⟨b, 8, none⟩ = some (.bool x.fu) := hc 8 _ rfl
        have HSt : Hid (Calls Try.prog 115 #[.pointer (some ⟨R, 0, none⟩), .agg #[.int .u32 x.ro, .int .u32 x.ad, .int .u8 x.st, .int .u8 x.pr, .int .u32 x.dr, .int .u32 x.bd, .int .u8 x.op, .int .u32 x.lf, .bool x.fu]] w3 fun e w' => e = .returned (.bool (Pl.still c x)) ∧ Below w3.heap.size w3 w') := Lib.hid (rstill_any HR.out.b x)
        clear hx hn2 hc
        go_wp2_with fail
        refine HSt.out.mono ?_
        rintro e w5 ⟨rfl, hb5⟩
        have HH5 := Lib.hid (HH.out.below hb5 HH.out.lt)
        have HO5 := Lib.hid ((Frame.of_below (S := fun _ => False) hb5).own HO.out (fun _ _ e => e))
        have HB5 := Lib.hid (HB.out.trans (hb5.mono HB.out.size))
        obtain ⟨z0, z1, z2, z3, z4, z5, z6, z7⟩ := hel_cs (c := c) (s := s) HH5.out
        have hHl5 := HH5.out.lt
        clear hb5 HR HH HO HB c0 c20 c21 hRl HSt q0 q1 q2 q3 q4 q5 q6 q7 q8 hb
        rcases hst : Pl.still c x with _ | _
        · have HQ : Hid ((s.l.length == 1 && s.l.all (Pl.still c)) = false) := Lib.hid (by rw [Hx.out]; simp [hst])
          rcases pb with _ | _
          · have E : Hid (Pl.round c s _ = [(3758096389, Pl.hel c s)]) := Lib.hid (by rw [HRn.out, HQ.out, HT.out]; rfl)
            have hbase : w.heap.size ≤ (w5.alloc (.cells #[.int .u32 3758096389, .int .u32 (Pl.hel c s).ma, .int .u16 (Pl.hel c s).hi, .int .u8 (Pl.hel c s).op, .int .u8 (Pl.hel c s).pr, .int .u32 (Pl.hel c s).dd, .int .u32 (Pl.hel c s).dr, .int .u32 (Pl.hel c s).bd, .slice va q vc] 181)).heap.size := by have := HB5.out.size; simp; omega
            go_wp2_with (at_builtin; refine wpList_append_any _ rfl (.tmp 54) (.tmp 58) _ rfl w.heap.size 181 i0 _ 9 56 Try.underlying150 hi hz0' hz1 hz2 rfl (by omega) (.slice none 0 0) 0 [] rfl (World.ownsRow_nil _ _ _ _) _ (some ⟨w5.heap.size, 0, none⟩) 1 1 _ rfl (Reads.of_own (World.ownsRow_lit (base := 0) (e := 181) (size := 9) w5 #[.int .u32 3758096389, .int .u32 (Pl.hel c s).ma, .int .u16 (Pl.hel c s).hi, .int .u8 (Pl.hel c s).op, .int .u8 (Pl.hel c s).pr, .int .u32 (Pl.hel c s).dd, .int .u32 (Pl.hel c s).dr, .int .u32 (Pl.hel c s).bd, .slice va q vc] 1 (Nat.zero_le _) (by simp [maxLen]) rfl)) (by simp [Value.oneCell']) (by simp [maxLen]) (by simp) hbase ?_; intro v1 w6 hown6 hg6 _; have hF : Frame (fun _ => False) w5 w6 := (Frame.of_below ((Below.refl _ w5).alloc (Nat.le_refl _) _)).trans (Frame.of_grown hg6 (fun j e _ => by simp [Value.ownBlock] at e)); have HOwn6 := Lib.hid hown6; have HF := Lib.hid hF; clear hown6 hg6 hF)
            go_ret
            refine ⟨_, rfl, ?_, below_fr HB5.out HF.out (fun j e => e.elim) HB5.out.size⟩
            rw [E.out]
            exact OutsAt.of_own (ws := (Pl.hel c s).nb) HOwn6.out (by simp) (by rw [Hq.out]; exact HF.out.own HO5.out (fun _ _ e => e)) HL.out (fun y hy => by rw [List.mem_singleton.1 hy])
          · have E : Hid (Pl.round c s _ = []) := Lib.hid (by rw [HRn.out]; rfl)
            go_wp2_with fail
            go_ret
            refine ⟨_, rfl, ?_, HB5.out⟩
            rw [E.out]
            exact OutsAt.nil _
        · have HQ : Hid ((s.l.length == 1 && s.l.all (Pl.still c)) = true) := Lib.hid (by rw [Hx.out]; simp [hst])
          rcases pb with _ | _
          · have E : Hid (Pl.round c s _ = []) := Lib.hid (by rw [HRn.out, HQ.out, Bool.or_true]; rfl)
            go_wp2_with fail
            go_ret
            refine ⟨_, rfl, ?_, HB5.out⟩
            rw [E.out]
            exact OutsAt.nil _
          · have E : Hid (Pl.round c s _ = []) := Lib.hid (by rw [HRn.out]; rfl)
            go_wp2_with fail
            go_ret
            refine ⟨_, rfl, ?_, HB5.out⟩
            rw [E.out]
            exact OutsAt.nil _
      · have e1 : ((n : Int) == 1) = false := by simp; omega
        have HQ : Hid ((s.l.length == 1 && s.l.all (Pl.still c)) = false) := Lib.hid (by rw [Hn.out]; simp [h1])
        obtain ⟨z0, z1, z2, z3, z4, z5, z6, z7⟩ := hel_cs (c := c) (s := s) HH.out
        have hHl5 := HH.out.lt
        clear h1
        rcases pb with _ | _
        · have E : Hid (Pl.round c s _ = [(3758096389, Pl.hel c s)]) := Lib.hid (by rw [HRn.out, HQ.out, HT.out]; rfl)
          have hbase : w.heap.size ≤ (w3.alloc (.cells #[.int .u32 3758096389, .int .u32 (Pl.hel c s).ma, .int .u16 (Pl.hel c s).hi, .int .u8 (Pl.hel c s).op, .int .u8 (Pl.hel c s).pr, .int .u32 (Pl.hel c s).dd, .int .u32 (Pl.hel c s).dr, .int .u32 (Pl.hel c s).bd, .slice va q vc] 181)).heap.size := by have := HB.out.size; simp; omega
          go_wp2_with (at_builtin; refine wpList_append_any _ rfl (.tmp 54) (.tmp 58) _ rfl w.heap.size 181 i0 _ 9 56 Try.underlying150 hi hz0' hz1 hz2 rfl (by omega) (.slice none 0 0) 0 [] rfl (World.ownsRow_nil _ _ _ _) _ (some ⟨w3.heap.size, 0, none⟩) 1 1 _ rfl (Reads.of_own (World.ownsRow_lit (base := 0) (e := 181) (size := 9) w3 #[.int .u32 3758096389, .int .u32 (Pl.hel c s).ma, .int .u16 (Pl.hel c s).hi, .int .u8 (Pl.hel c s).op, .int .u8 (Pl.hel c s).pr, .int .u32 (Pl.hel c s).dd, .int .u32 (Pl.hel c s).dr, .int .u32 (Pl.hel c s).bd, .slice va q vc] 1 (Nat.zero_le _) (by simp [maxLen]) rfl)) (by simp [Value.oneCell']) (by simp [maxLen]) (by simp) hbase ?_; intro v1 w6 hown6 hg6 _; have hF : Frame (fun _ => False) w3 w6 := (Frame.of_below ((Below.refl _ w3).alloc (Nat.le_refl _) _)).trans (Frame.of_grown hg6 (fun j e _ => by simp [Value.ownBlock] at e)); have HOwn6 := Lib.hid hown6; have HF := Lib.hid hF; clear hown6 hg6 hF)
          go_ret
          refine ⟨_, rfl, ?_, below_fr HB.out HF.out (fun j e => e.elim) HB.out.size⟩
          rw [E.out]
          exact OutsAt.of_own (ws := (Pl.hel c s).nb) HOwn6.out (by simp) (by rw [Hq.out]; exact HF.out.own HO.out (fun _ _ e => e)) HL.out (fun y hy => by rw [List.mem_singleton.1 hy])
        · have E : Hid (Pl.round c s _ = []) := Lib.hid (by rw [HRn.out]; rfl)
          go_wp2_with fail
          go_ret
          refine ⟨_, rfl, ?_, HB.out⟩
          rw [E.out]
          exact OutsAt.nil _
  · have HRn : Hid (Pl.round c s pb = outs c s pb n) := Lib.hid (by unfold Pl.round; rw [if_pos hp]; unfold outs; rw [List.take_of_length_le (by rw [Hn.out]; exact Nat.le_refl _)])
    obtain ⟨w4, hw4⟩ : ∃ w4, w4 = w3 := ⟨_, rfl⟩
    go_wp2_with fail
    go_loopw [5, 9] (fun ov i wr => ∃ k : Nat, k ≤ n ∧ i = .int .i64 k ∧ (∃ oa oc, ov = .slice oa (outs c s pb k).length oc ∧ Hid (wr.ownsRow w.heap.size 181 9 (.slice oa (outs c s pb k).length oc) (outs c s pb k).length (sclOf (.slice va q vc) (outs c s pb k)))) ∧ Hid (RAt lo wr R c s (.slice A n cp)) ∧ Hid (Blk wr Hh 90 #[.int .u32 (Pl.hel c s).ma, .int .u16 (Pl.hel c s).hi, .int .u8 (Pl.hel c s).op, .int .u8 (Pl.hel c s).pr, .int .u32 (Pl.hel c s).dd, .int .u32 (Pl.hel c s).dr, .int .u32 (Pl.hel c s).bd, .slice va q vc]) ∧ Hid (wr.ownsRow w.heap.size 25 1 (.slice va q vc) q ((Pl.hel c s).nb.map (Value.int .u32))) ∧ Hid (Below w.heap.size w wr)) (fun _ i _ => n - (intOf i).toNat)
    case atStart => exact ⟨0, Nat.zero_le _, rfl, ⟨none, 0, rfl, Lib.hid (World.ownsRow_nil _ _ _ _)⟩, HR, HH, HO, HB⟩
    case round =>
      clear HR HH HO HB hw4
      obtain ⟨k, hk, rfl, ⟨oa, oc, rfl, HS⟩, HR, HH, HO, HB⟩ := hrel
      obtain ⟨m, hm⟩ : ∃ m, (outs c s pb k).length = m := ⟨_, rfl⟩
      have hmn : m ≤ n := by rw [← hm, ← Hn.out]; exact outs_len c s pb k
      have hS := HS.out
      rw [hm] at hS ⊢
      have HSm := Lib.hid hS
      have Hm := Lib.hid hm
      have c21 : wr.cell? ⟨R, 21, none⟩ = some (.slice A n cp) := HR.out.b.cell 21
      have hRl := HR.out.b.lt
      clear hS hm HS
      by_cases hlt2 : k < n
      · obtain ⟨x, hx⟩ : ∃ x, s.l[k]? = some x := ⟨_, List.getElem?_eq_getElem (by rw [Hn.out]; exact hlt2)⟩
        obtain ⟨b, n', cap, e, hn2, hb, hc⟩ := HR.out.o.knb hx
        cases e
        have q0 : wr.cell? ⟨b, k * 9, none⟩ = some (.int .u32 x.ro) := hc 0 _ rfl
        have q1 : wr.cell? ⟨b, k * 9 + 1, none⟩ = some (.int .u32 x.ad) := hc 1 _ rfl
        have q2 : wr.cell? ⟨b, k * 9 + 2, none⟩ = some (.int .u8 x.st) := hc 2 _ rfl
        have q3 : wr.cell? ⟨b, k * 9 + 3, none⟩ = some (.int .u8 x.pr) := hc 3 _ rfl
        have q4 : wr.cell? ⟨b, k * 9 + 4, none⟩ = some (.int .u32 x.dr) := hc 4 _ rfl
        have q5 : wr.cell? ⟨b, k * 9 + 5, none⟩ = some (.int .u32 x.bd) := hc 5 _ rfl
        have q6 : wr.cell? ⟨b, k * 9 + 6, none⟩ = some (.int .u8 x.op) := hc 6 _ rfl
        have q7 : wr.cell? ⟨b, k * 9 + 7, none⟩ = some (.int .u32 x.lf) := hc 7 _ rfl
        have q8 : wr.cell? ⟨b, k * 9 + 8, none⟩ = some (.bool x.fu) := hc 8 _ rfl
        have HD : Hid (Calls Try.prog 133 #[.pointer (some ⟨R, 0, none⟩), .agg #[.int .u32 x.ro, .int .u32 x.ad, .int .u8 x.st, .int .u8 x.pr, .int .u32 x.dr, .int .u32 x.bd, .int .u8 x.op, .int .u32 x.lf, .bool x.fu], .bool pb] wr fun e w' => e = .returned (.bool (Pl.due c s pb x)) ∧ Below wr.heap.size wr w') := Lib.hid (rdue_any HR.out.b x pb h6 hp0)
        have Hx := Lib.hid hx
        have hkn : (k : Int) < (n : Int) := by omega
        clear hx hn2 hc
        go_wp2_with fail
        refine HD.out.mono ?_
        rintro e w5 ⟨rfl, hb5⟩
        have HR5 := Lib.hid (HR.out.below hb5)
        have HH5 := Lib.hid (HH.out.below hb5 HH.out.lt)
        have HO5 := Lib.hid ((Frame.of_below (S := fun _ => False) hb5).own HO.out (fun _ _ e => e))
        have HS5 := Lib.hid ((Frame.of_below (S := fun _ => False) hb5).own HSm.out (fun _ _ e => e))
        have HB5 := Lib.hid (HB.out.trans (hb5.mono HB.out.size))
        have x21 : w5.cell? ⟨R, 21, none⟩ = some (.slice (some ⟨b, 0, none⟩) n cp) := HR5.out.b.cell 21
        have xq1 : w5.cell? ⟨b, k * 9 + 1, none⟩ = some (.int .u32 x.ad) := (hb5.cell (p := ⟨b, k * 9 + 1, none⟩) hb).trans q1
        obtain ⟨z0, z1, z2, z3, z4, z5, z6, z7⟩ := hel_cs (c := c) (s := s) HH5.out
        have hRl5 := HR5.out.b.lt
        have hHl5 := HH5.out.lt
        have hbl5 : b < w5.heap.size := Nat.lt_of_lt_of_le hb hb5.size
        clear hb5 HR HH HO HSm HB c21 hRl HD q0 q1 q2 q3 q4 q5 q6 q7 q8
        rcases hd : Pl.due c s pb x with _ | _
        · have HN : Hid (outs c s pb (k + 1) = outs c s pb k) := Lib.hid (outs_no Hx.out hd)
          go_wp2_with fail
          go_roundw
          case rel => exact ⟨k + 1, by omega, by simp, ⟨oa, oc, by rw [HN.out, Hm.out], by rw [HN.out, Hm.out]; exact HS5⟩, HR5, HH5, HO5, HB5⟩
          case measure => simp [intOf]; omega
        · have HN : Hid (outs c s pb (k + 1) = outs c s pb k ++ [(x.ad, Pl.hel c s)]) := Lib.hid (outs_yes Hx.out hd)
          go_upto_region 15 with fail
          refine wp_region_late (C := fun w' => ∃ u : Later w5.heap.size w5, w' = u.to) (.slice oa m oc) 11 12 (by kernel_rfl) (by kernel_rfl) (fun _ _ _ h => h) ⟨rfl, ?_⟩ ⟨⟨w5.drew, (Below.refl _ _).drew⟩, rfl⟩ ?_
          · rintro w' ⟨u, rfl⟩
            simp [go_sem]
          simp only [List.take_succ_cons, List.take_zero, List.drop_succ_cons, List.drop_zero, Nat.reduceSub]
          have y8 := later_cell (B := w5.heap.size) (w0 := w5) (p := ⟨R, 21, none⟩) hRl5 x21
          have y9 := later_cell (B := w5.heap.size) (w0 := w5) (p := ⟨b, k * 9 + 1, none⟩) hbl5 xq1
          have y0 := later_cell (B := w5.heap.size) (w0 := w5) (p := ⟨Hh, 0, none⟩) hHl5 z0
          have y1 := later_cell (B := w5.heap.size) (w0 := w5) (p := ⟨Hh, 1, none⟩) hHl5 z1
          have y2 := later_cell (B := w5.heap.size) (w0 := w5) (p := ⟨Hh, 2, none⟩) hHl5 z2
          have y3 := later_cell (B := w5.heap.size) (w0 := w5) (p := ⟨Hh, 3, none⟩) hHl5 z3
          have y4 := later_cell (B := w5.heap.size) (w0 := w5) (p := ⟨Hh, 4, none⟩) hHl5 z4
          have y5 := later_cell (B := w5.heap.size) (w0 := w5) (p := ⟨Hh, 5, none⟩) hHl5 z5
          have y6 := later_cell (B := w5.heap.size) (w0 := w5) (p := ⟨Hh, 6, none⟩) hHl5 z6
          have y7 := later_cell (B := w5.heap.size) (w0 := w5) (p := ⟨Hh, 7, none⟩) hHl5 z7
          simp only [Act.put, List.setIfInBounds_toArray, List.set_cons_succ, List.set_cons_zero]
          repeat (go_big_quiet_step (fail))
          refine wpQuiet_nil ?_
          rintro wx ⟨⟨wy, hby⟩, hwe⟩
          obtain rfl : wx = wy := hwe
          refine wpListK_step rfl rfl ?_
          simp [Oper.wp, Oper.upon, go_sem]
          refine ⟨⟨⟨_, hby.alloc hby.size _⟩, rfl⟩, ?_⟩
          refine wpListK_of_list _ 12 _ _ (Nat.le_refl _) (fun j => match j with
            | 0 => rfl
            | 1 => rfl
            | j + 2 => by simp; omega) ?_
          have hbz := hby.alloc hby.size (.cells #[.int .u32 x.ad, .int .u32 (Pl.hel c s).ma, .int .u16 (Pl.hel c s).hi, .int .u8 (Pl.hel c s).op, .int .u8 (Pl.hel c s).pr, .int .u32 (Pl.hel c s).dd, .int .u32 (Pl.hel c s).dr, .int .u32 (Pl.hel c s).bd, .slice va q vc] 181)
          have hSz := (Frame.of_below (S := fun _ => False) hbz).own HS5.out (fun _ _ e => e)
          have hbase : w.heap.size ≤ (wx.alloc (.cells #[.int .u32 x.ad, .int .u32 (Pl.hel c s).ma, .int .u16 (Pl.hel c s).hi, .int .u8 (Pl.hel c s).op, .int .u8 (Pl.hel c s).pr, .int .u32 (Pl.hel c s).dd, .int .u32 (Pl.hel c s).dr, .int .u32 (Pl.hel c s).bd, .slice va q vc] 181)).heap.size := Nat.le_trans HB5.out.size hbz.size
          have HSz := Lib.hid hSz
          have HBz := Lib.hid hbz
          clear hby hbz hSz z0 z1 z2 z3 z4 z5 z6 z7 x21 xq1 y0 y1 y2 y3 y4 y5 y6 y7 y8 y9
          refine wpList_append_any _ rfl (.tmp 80) (.tmp 91) _ rfl w.heap.size 181 i0 _ 9 56 Try.underlying150 hi hz0' hz1 hz2 rfl (by omega) (.slice oa m oc) m _ rfl HSz.out _ (some ⟨wx.heap.size, 0, none⟩) 1 1 _ rfl (Reads.of_own (World.ownsRow_lit (base := 0) (e := 181) (size := 9) wx #[.int .u32 x.ad, .int .u32 (Pl.hel c s).ma, .int .u16 (Pl.hel c s).hi, .int .u8 (Pl.hel c s).op, .int .u8 (Pl.hel c s).pr, .int .u32 (Pl.hel c s).dd, .int .u32 (Pl.hel c s).dr, .int .u32 (Pl.hel c s).bd, .slice va q vc] 1 (Nat.zero_le _) (by simp [maxLen]) rfl)) (by simp [Value.oneCell']) (by unfold maxLen; omega) (by omega) hbase ?_
          intro v1 w6 hown6 hg6 _
          have hF : Frame (fun j => (Value.slice oa m oc).ownBlock = some j) w5 w6 := (Frame.of_below HBz.out).trans (Frame.of_grown hg6 (fun j e _ => e))
          obtain ⟨vb, vn, rfl⟩ := own_slice hown6
          have HOwn6 := Lib.hid hown6
          have HF := Lib.hid hF
          clear hown6 hg6 hF
          go_wp2_with fail
          go_roundw
          case rel =>
            refine ⟨k + 1, by omega, by simp, ⟨vb, vn, ?_, ?_⟩, Lib.hid ⟨HR5.out.loR, HF.out.blk HR5.out.b (own_blk_ne HS5.out HR5.out.b (by decide)), HF.out.own HR5.out.o (fun g hg e => rows_apart HR5.out.o HS5.out (by decide) hg e)⟩, Lib.hid (HF.out.blk HH5.out (own_blk_ne HS5.out HH5.out (by decide))), Lib.hid (HF.out.own HO5.out (fun g hg e => rows_apart HO5.out HS5.out (by decide) hg e)), Lib.hid (below_fr HB5.out HF.out (fun j e => (HS5.out.lt j e).1) HB5.out.size)⟩
            · rw [HN.out, List.length_append, Hm.out]; rfl
            · rw [HN.out, List.length_append, Hm.out]
              unfold sclOf
              rw [List.flatMap_append]
              exact HOwn6
          case measure => simp [intOf]; omega
      · obtain rfl : k = n := by omega
        go_wp2_with fail
        go_ret
        refine ⟨_, rfl, ?_, HB.out⟩
        rw [HRn.out]
        have hq64 : (Pl.hel c s).nb.length ≤ 65536 := by
          have : (Pl.hel c s).nb.length ≤ s.l.length := by
            show ((s.l.filter Pl.heard).map (·.ro)).length ≤ _
            rw [List.length_map]
            exact List.length_filter_le _ _
          rw [Hn.out] at this
          omega
        refine OutsAt.of_own (ws := (Pl.hel c s).nb) (by rw [Hm.out]; exact HSm.out) (by rw [Hm.out]; omega) (by rw [Hq.out]; exact HO.out) (by omega) (fun y hy => ?_)
        unfold outs at hy
        obtain ⟨z, _, rfl⟩ := List.mem_map.1 hy
        rfl
end
end Go.Proofs.Ytgbmhijgpdgdbaa
