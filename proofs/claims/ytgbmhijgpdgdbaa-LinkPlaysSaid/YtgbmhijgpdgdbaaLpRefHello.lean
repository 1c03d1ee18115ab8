/- The document's link: what it tells. -/
import Derived.Test.YtgbmhijgpdgdbaaLpRefFind
set_option maxHeartbeats 4000000
set_option maxRecDepth 20000
namespace Go.Proofs.Ytgbmhijgpdgdbaa
open Go.RowKit Go.Shelf
attribute [local go_sem] Oper.semAt_some
theorem wp_region_late1 {P : Program} {C : World → Prop} {id : Nat} {Q : Exit → Act → World → Prop} {a : Act} {w : World} {p o : Oper} {l : List Oper} (u v : Value) (n m : Nat) (hm : P.follows .mixedOrders = true) (hB : lateB1 (p :: o :: l).toArray n m = true)
    (hQ : ∀ c a w, Q (.panic c) (a.put p.dst u) w → Q (.panic c) a w) (hQ2 : ∀ c a w, Q (.panic c) (a.put o.dst v) w → Q (.panic c) a w) (hp : Yields P (p :: o :: l).toArray p u a) (hy : ReadsIn P (p :: o :: l).toArray C o v (a.put p.dst u)) (hC : C w.drew)
    (h : wpQuiet P (p :: o :: l).toArray C (fun a' => ∀ w', C w' → wpListK P (p :: o :: l).toArray C m Q n (l.drop (n - 2)) a' w') (l.take (n - 2)) ((a.put p.dst u).put o.dst v)) : (Code.region id (p :: o :: l).toArray true).wp P Q a w :=
  wp_region_any hm (any_late1 n m hB hQ hQ2 hp hy w.drew hC h)
theorem below_fr {w w' w0 : World} {F : Nat → Prop} {k : Nat} (h0 : Below k w0 w) (h : Frame F w w') (hF : ∀ i, F i → k ≤ i) (hk : k ≤ w.heap.size) : Below k w0 w' :=
  ⟨h.os.trans h0.os, h.tape.trans h0.tape, h.output.trans h0.output, Nat.le_trans h0.size h.size, fun i hi => (h.block i (Nat.lt_of_lt_of_le hi hk) (fun e => by have := hF i e; omega)).trans (h0.block i hi)⟩
theorem rows_apart {w : World} {b1 b2 s1 s2 n1 n2 : Nat} {e1 e2 : TypeId} {v1 v2 : Value} {xs ys : List Value} (h1 : w.ownsRow b1 e1 s1 v1 n1 xs) (h2 : w.ownsRow b2 e2 s2 v2 n2 ys) (hne : e1 ≠ e2) {j : Nat} (a1 : v1.ownBlock = some j) (a2 : v2.ownBlock = some j) : False := by
  rcases h2.2 with ⟨rfl, _⟩ | ⟨g, cap, cur, rfl, _, hh, _⟩
  · simp [Value.ownBlock] at a2
  · have : g = j := by simpa [Value.ownBlock] using a2
    subst this
    exact own_blk_ne (t := e2) (cs := cur) h1 hh hne a1
def RHel (c : LC) (s : Pl.St) (w : World) (e : Ending) (w' : World) : Prop := ∃ nv, e = .returned (hval (Pl.hel c s) nv) ∧ w'.ownsRow w.heap.size 25 1 nv (Pl.hel c s).nb.length ((Pl.hel c s).nb.map (Value.int .u32)) ∧ Below w.heap.size w w'
def nbs (l : List Kn) (k : Nat) : List Int := ((l.take k).filter Pl.heard).map (·.ro)
theorem nbs_yes {l : List Kn} {k : Nat} {x : Kn} (hx : l[k]? = some x) (h : Pl.heard x = true) : nbs l (k + 1) = nbs l k ++ [x.ro] := by
  unfold nbs
  rw [List.take_add_one, hx]
  simp [h]
theorem nbs_no {l : List Kn} {k : Nat} {x : Kn} (hx : l[k]? = some x) (h : Pl.heard x = false) : nbs l (k + 1) = nbs l k := by
  unfold nbs
  rw [List.take_add_one, hx]
  simp [h]
theorem nbs_all (l : List Kn) : nbs l l.length = (l.filter Pl.heard).map (·.ro) := by
  unfold nbs
  rw [List.take_of_length_le (Nat.le_refl _)]
section
variable {lo : Nat} {w : World} {R : Nat} {c : LC} {s : Pl.St} {v : Value}
theorem rhello_any (h : RAt lo w R c s v) (hn : s.l.length ≤ 60000) (hn0 : 0 ≤ c.nb) (hn1 : c.nb ≤ 32) (hvi : c.ty = 4 → c.nb = 0) : Calls Try.prog 122 #[.pointer (some ⟨R, 0, none⟩)] w fun e w' => RHel c s w e w' := by
  obtain ⟨A, cp, rfl⟩ := own_slice h.o
  obtain ⟨n, hn'⟩ : ∃ n, s.l.length = n := ⟨_, rfl⟩
  have H : Hid (RAt lo w R c s (.slice A n cp)) := Lib.hid (by rw [← hn']; exact h)
  have Hn := Lib.hid hn'
  have HMk : Hid (∀ W, Calls Try.prog 34 #[.int .u8 c.nb] W fun e w' => e = .returned (.int .u32 (lmaskV c)) ∧ W = w') := Lib.hid (fun W => (rmask_any W c.nb hn0 hn1).mono (fun e w' he => by
    refine ⟨?_, he.2⟩
    rw [he.1]
    unfold lmaskV
    by_cases ht : c.ty = 4
    · rw [if_pos ht, hvi ht]; rfl
    · rw [if_neg ht]))
  rw [hn'] at hn
  have c3 : w.cell? ⟨R, 3, none⟩ = some (.int .u8 c.nb) := H.out.b.cell 3
  have c5 : w.cell? ⟨R, 5, none⟩ = some (.int .u8 c.op) := H.out.b.cell 5
  have c6 : w.cell? ⟨R, 6, none⟩ = some (.int .u16 c.hi) := H.out.b.cell 6
  have c7 : w.cell? ⟨R, 7, none⟩ = some (.int .u32 c.dd) := H.out.b.cell 7
  have c9 : w.cell? ⟨R, 9, none⟩ = some (.int .u8 c.pr) := H.out.b.cell 9
  have c10 : w.cell? ⟨R, 10, none⟩ = some (.bool c.dm) := H.out.b.cell 10
  have c15 : w.cell? ⟨R, 15, none⟩ = some (.int .u32 s.dr) := H.out.b.cell 15
  have c16 : w.cell? ⟨R, 16, none⟩ = some (.int .u32 s.bd) := H.out.b.cell 16
  have hlt := H.out.b.lt
  clear h hn' hn0 hn1 hvi
  obtain ⟨dm, hdm⟩ : ∃ d, d = c.dm := ⟨_, rfl⟩
  have HDm := Lib.hid hdm
  rw [← hdm] at c10
  clear hdm
  go_enter Try.func122, Try.ntmps122
  go_upto_region 1 with fail
  go_cut [3] (fun p3 wx => ∃ H : Nat, p3 = .pointer (some ⟨H, 0, none⟩) ∧ Hid (Blk wx H 90 #[.int .u32 (lmaskV c), .int .u16 c.hi, .int .u8 c.op, .int .u8 c.pr, .int .u32 c.dd, .int .u32 s.dr, .int .u32 s.bd, .slice none 0 0]) ∧ Hid (w.heap.size < H ∧ H < wx.heap.size) ∧ Hid (Below (w.heap.size + 1) (w.alloc (.cells #[.int .u32 0, .int .u16 0, .int .u8 0, .int .u8 0, .int .u32 0, .int .u32 0, .int .u32 0, .slice none 0 0] 90)) wx))
  case first =>
    go_region_held3 (fun w' => w'.cell? ⟨R, 3, none⟩ = some (.int .u8 c.nb) ∧ w'.cell? ⟨R, 5, none⟩ = some (.int .u8 c.op) ∧ w'.cell? ⟨R, 6, none⟩ = some (.int .u16 c.hi) ∧ w'.cell? ⟨R, 7, none⟩ = some (.int .u32 c.dd) ∧ w'.cell? ⟨R, 9, none⟩ = some (.int .u8 c.pr) ∧ w'.cell? ⟨R, 15, none⟩ = some (.int .u32 s.dr) ∧ w'.cell? ⟨R, 16, none⟩ = some (.int .u32 s.bd))
      (go_keep)
      ((go_at_call 34; refine (HMk.out _).mono ?_; rintro e w' ⟨rfl, rfl⟩))
    all_goals clear c3 c5 c6 c7 c9 c15 c16
    all_goals
      go_wp2_with fail
      go_meet
      case rel =>
        refine ⟨_, rfl, Lib.hid ?_, Lib.hid ⟨by simp, by simp⟩, Lib.hid ((Below.refl _ _).alloc (by simp) _).drew⟩
        have := Blk.new (w.alloc (.cells #[.int .u32 0, .int .u16 0, .int .u8 0, .int .u8 0, .int .u32 0, .int .u32 0, .int .u32 0, .slice none 0 0] 90)) 90 #[.int .u32 (lmaskV c), .int .u16 c.hi, .int .u8 c.op, .int .u8 c.pr, .int .u32 c.dd, .int .u32 s.dr, .int .u32 s.bd, .slice none 0 0]
        rw [World.size_alloc] at this
        exact this
  case rest =>
    obtain ⟨H', rfl, HH, Hlt, HBel⟩ := hcut
    obtain ⟨wd, hwd⟩ : ∃ wd, wd = wc := ⟨_, rfl⟩
    rw [← hwd] at HH Hlt HBel ⊢
    clear hwd c3 c5 c6 c7 c9 c15 c16
    have hbw : Below w.heap.size w wd := ((Below.refl _ w).alloc (Nat.le_refl _) _).trans (HBel.out.mono (by omega))
    have KR := Lib.hid ((Blk.new w 90 #[.int .u32 0, .int .u16 0, .int .u8 0, .int .u8 0, .int .u32 0, .int .u32 0, .int .u32 0, .slice none 0 0]).below HBel.out (by omega))
    have HR := Lib.hid (H.out.below hbw)
    have HBw := Lib.hid hbw
    have d10 : wd.cell? ⟨R, 10, none⟩ = some (.bool dm) := by rw [HDm.out]; exact HR.out.b.cell 10
    have hdl := HR.out.b.lt
    have hHlt := Hlt.out.2
    have g2 : wd.cell? ⟨H', 2, none⟩ = some (.int .u8 c.op) := HH.out.cell 2
    have fH := HH.out.frozen
    clear hbw c10 hlt H HBel
    rcases dm with _ | _
    · have KE : Hid (Blk wd H' 90 #[.int .u32 (lmaskV c), .int .u16 c.hi, .int .u8 (optV c), .int .u8 c.pr, .int .u32 c.dd, .int .u32 s.dr, .int .u32 s.bd, .slice none 0 0]) := Lib.hid (by
        have e : optV c = c.op := by unfold optV; rw [← HDm.out]; rfl
        rw [e]; exact HH.out)
      go_upto_region 4 with fail
      obtain ⟨we, hwe⟩ : ∃ we, we = wd := ⟨_, rfl⟩
      rw [← hwe] at KE KR HR HBw hHlt ⊢
      clear hwe HH d10 hdl g2 fH HDm
      have HW : Hid (w.heap.size < H') := Lib.hid Hlt.out.1
      clear Hlt
      go_wp2_with fail
      go_loopw [4] (fun i wr => ∃ k : Nat, k ≤ n ∧ i = .int .i64 k ∧ Hid (∃ va vm, Blk wr H' 90 #[.int .u32 (lmaskV c), .int .u16 c.hi, .int .u8 (optV c), .int .u8 c.pr, .int .u32 c.dd, .int .u32 s.dr, .int .u32 s.bd, .slice va (nbs s.l k).length vm] ∧ wr.ownsRow w.heap.size 25 1 (.slice va (nbs s.l k).length vm) (nbs s.l k).length ((nbs s.l k).map (Value.int .u32))) ∧ Hid (Blk wr w.heap.size 90 #[.int .u32 0, .int .u16 0, .int .u8 0, .int .u8 0, .int .u32 0, .int .u32 0, .int .u32 0, .slice none 0 0]) ∧ Hid (RAt lo wr R c s (.slice A n cp)) ∧ Hid (Below w.heap.size w wr)) (fun i _ => n - (intOf i).toNat)
      case atStart => exact ⟨0, Nat.zero_le _, rfl, Lib.hid ⟨none, 0, KE.out, World.ownsRow_nil _ _ _ _⟩, KR, HR, HBw⟩
      case round =>
        clear KE KR HR HBw hHlt
        obtain ⟨k, hk, rfl, HE, KR, HR, HB⟩ := hrel
        by_cases hlt2 : k < n
        · obtain ⟨x, hx⟩ : ∃ x, s.l[k]? = some x := ⟨_, List.getElem?_eq_getElem (by rw [Hn.out]; exact hlt2)⟩
          obtain ⟨b, n', cap, e, hn2, hb, hc⟩ := HR.out.o.knb hx
          cases e
          obtain ⟨va, vm, hX, hO⟩ := HE.out
          obtain ⟨m, hm⟩ : ∃ m, (nbs s.l k).length = m := ⟨_, rfl⟩
          have hmn : m ≤ n := by
            rw [← hm, ← Hn.out]
            unfold nbs
            rw [List.length_map]
            exact Nat.le_trans (List.length_filter_le _ _) (by rw [List.length_take]; omega)
          rw [hm] at hX hO
          have c21 : wr.cell? ⟨R, 21, none⟩ = some (.slice (some ⟨b, 0, none⟩) n cp) := HR.out.b.cell 21
          have q0 : wr.cell? ⟨b, k * 9, none⟩ = some (.int .u32 x.ro) := hc 0 _ rfl
          have q2 : wr.cell? ⟨b, k * 9 + 2, none⟩ = some (.int .u8 x.st) := hc 2 _ rfl
          have hRl := HR.out.b.lt
          have hHl := hX.lt
          have Hx := Lib.hid hx
          have HX := Lib.hid hX
          have HO := Lib.hid hO
          have Hm := Lib.hid hm
          have hkn : (k : Int) < (n : Int) := by omega
          clear hx hn2 hc hX hO hm HE
          rcases hd : decide (2 ≤ x.st) with _ | _
          · have HN : Hid (nbs s.l (k + 1) = nbs s.l k) := Lib.hid (nbs_no Hx.out hd)
            go_wp2_with fail
            go_roundw
            case rel => exact ⟨k + 1, by omega, by simp, Lib.hid ⟨va, vm, by rw [HN.out, Hm.out]; exact HX.out, by rw [HN.out, Hm.out]; exact HO.out⟩, KR, HR, HB⟩
            case measure => simp [intOf]; omega
          · have HN : Hid (nbs s.l (k + 1) = nbs s.l k ++ [x.ro]) := Lib.hid (nbs_yes Hx.out hd)
            have xo : wr.cell? ⟨H', 7, none⟩ = some (.slice va m vm) := HX.out.cell 7
            obtain ⟨i0, hi, hz0', hz1, hz2⟩ := info_parts word_info
            go_upto_region 8 with fail
            refine wp_region_late1 (C := fun w' => ∃ u : Later wr.heap.size wr, w' = u.to) (.pointer (some ⟨H', 7, none⟩)) (.slice va m vm) 10 11 (by kernel_rfl) (by kernel_rfl) (fun _ _ _ h => h) (fun _ _ _ h => h) (.inl ⟨rfl, fun w' => ?_⟩) ⟨rfl, ?_⟩ ⟨⟨wr.drew, (Below.refl _ _).drew⟩, rfl⟩ ?_
            · simp [go_sem]
            · rintro w' ⟨u, rfl⟩
              have hu := (u.ok.cell (p := ⟨H', 7, none⟩) hHl).trans xo
              simp [go_sem, Act.put, hu]
            simp only [List.take_succ_cons, List.take_zero, List.drop_succ_cons, List.drop_zero, Nat.reduceSub]
            have y0 := later_cell (B := wr.heap.size) (w0 := wr) (p := ⟨b, k * 9, none⟩) hb q0
            have y1 := later_cell (B := wr.heap.size) (w0 := wr) (p := ⟨R, 21, none⟩) hRl c21
            simp only [Act.put, List.setIfInBounds_toArray, List.set_cons_succ, List.set_cons_zero]
            repeat (go_big_quiet_step (fail))
            refine wpQuiet_nil ?_
            rintro wx ⟨⟨wy, hwy⟩, hwe⟩
            obtain rfl : wx = wy := hwe
            refine wpListK_step rfl rfl ?_
            simp [Oper.wp, Oper.upon, go_sem]
            refine ⟨⟨⟨_, hwy.alloc hwy.size _⟩, rfl⟩, ?_⟩
            refine wpListK_of_list _ 11 _ _ (Nat.le_refl _) (fun j => match j with
              | 0 => rfl
              | 1 => rfl
              | 2 => rfl
              | j + 3 => by simp; omega) ?_
            obtain ⟨wz, hwz⟩ : ∃ wz, wz = wx.alloc (.cells #[.int .u32 x.ro] 25) := ⟨_, rfl⟩
            have HLit := Lib.hid (Reads.of_own (World.ownsRow_lit (base := 0) (e := 25) (size := 1) wx #[.int .u32 x.ro] 1 (Nat.zero_le _) (by simp [maxLen]) rfl))
            rw [← hwz] at HLit
            rw [← hwz]
            have hwW : Below wr.heap.size wr wz := by rw [hwz]; exact hwy.alloc hwy.size _
            have hownz : wz.ownsRow w.heap.size 25 1 (.slice va m vm) m ((nbs s.l k).map (Value.int .u32)) := (Frame.of_below (S := fun _ => False) hwW).own HO.out (fun _ _ e => e)
            have hsW : wr.heap.size ≤ wz.heap.size := hwW.size
            have hbase : w.heap.size ≤ wz.heap.size := by have := HB.out.size; omega
            refine wpList_append_any _ rfl (.tmp 69) (.tmp 78) _ rfl w.heap.size 25 i0 _ 1 4 Try.underlying88 hi hz0' hz1 hz2 rfl (by omega) (.slice va m vm) m _ rfl hownz _ (some ⟨wx.heap.size, 0, none⟩) 1 1 _ rfl HLit.out (by simp [Value.oneCell']) (by unfold maxLen; omega) (by omega) hbase ?_
            intro v1 w4 hown1 hg1 _
            have hne : (Value.slice va m vm).ownBlock ≠ some H' := own_blk_ne HO.out HX.out (by decide)
            have hX4 : Blk w4 H' 90 #[.int .u32 (lmaskV c), .int .u16 c.hi, .int .u8 (optV c), .int .u8 c.pr, .int .u32 c.dd, .int .u32 s.dr, .int .u32 s.bd, .slice va m vm] := by
              have h1 := HX.out.below hwW HX.out.lt
              exact h1.grown hg1 hne.symm
            have hX40 : w4.cell? ⟨H', 7, none⟩ = some (.slice va m vm) := hX4.cell 7
            have hfz4 := hX4.frozen
            have hlt4 := hX4.lt
            obtain ⟨vb, vn, rfl⟩ := own_slice hown1
            have HG1 := Lib.hid hg1
            have HX4 := Lib.hid hX4
            have HOwn1 := Lib.hid hown1
            have HWW := Lib.hid hwW
            have HOz := Lib.hid hownz
            clear hown1 hg1 hne hX4 hwW hownz hwy hwz y0 y1 xo q0 q2 c21
            go_wp2_with fail
            go_roundw
            case rel =>
              have hF : Frame (fun j => (Value.slice va m vm).ownBlock = some j ∨ j = H') wr (w4.setCell ⟨H', 7, none⟩ (.slice vb (m + 1) vn)) := ((Frame.of_below HWW.out).trans (Frame.of_grown HG1.out (fun j e _ => .inl e))).setCell (p := ⟨H', 7, none⟩) (fun _ => .inr rfl) _
              have hRo := HR.out
              have hnew : ∃ va vm, Blk (w4.setCell ⟨H', 7, none⟩ (.slice vb (m + 1) vn)) H' 90 #[.int .u32 (lmaskV c), .int .u16 c.hi, .int .u8 (optV c), .int .u8 c.pr, .int .u32 c.dd, .int .u32 s.dr, .int .u32 s.bd, .slice va (nbs s.l (k + 1)).length vm] ∧ (w4.setCell ⟨H', 7, none⟩ (.slice vb (m + 1) vn)).ownsRow w.heap.size 25 1 (.slice va (nbs s.l (k + 1)).length vm) (nbs s.l (k + 1)).length ((nbs s.l (k + 1)).map (Value.int .u32)) := by
                rw [HN.out, List.length_append, List.map_append, Hm.out]
                refine ⟨vb, vn, HX4.out.set_ 7 _, ?_⟩
                exact own_far HOwn1.out (q := ⟨H', 7, none⟩) (own_blk_ne HOwn1.out HX4.out (by decide)) _
              refine ⟨k + 1, by omega, by simp, Lib.hid hnew, Lib.hid (hF.blk KR.out (fun e => ?_)), Lib.hid ⟨hRo.loR, hF.blk hRo.b (fun e => ?_), hF.own hRo.o (fun g hg e => ?_)⟩, Lib.hid (below_fr HB.out hF (fun j e => ?_) HB.out.size)⟩
              · rcases e with e | e
                · exact own_blk_ne HO.out KR.out (by decide) e
                · have := HW.out; omega
              · rcases e with e | e
                · exact own_blk_ne HO.out hRo.b (by decide) e
                · exact hRo.b.ne_ HX.out (by decide) e
              · rcases e with e | e
                · exact rows_apart hRo.o HO.out (by decide) hg e
                · exact own_blk_ne hRo.o HX.out (by decide) (by rw [hg, e])
              · rcases e with e | e
                · exact (HO.out.lt j e).1
                · rw [e]; exact Nat.le_of_lt HW.out
            case measure => simp [intOf]; omega
        · obtain rfl : k = n := by omega
          obtain ⟨va, vm, hX, hO⟩ := HE.out
          obtain ⟨q, hq⟩ : ∃ q, (nbs s.l k).length = q := ⟨_, rfl⟩
          rw [hq] at hX hO
          have c21 : wr.cell? ⟨R, 21, none⟩ = some (.slice A k cp) := HR.out.b.cell 21
          have hRl := HR.out.b.lt
          have hHl := hX.lt
          have fz := KR.out.frozen
          have hwl := KR.out.lt
          have HX := Lib.hid hX
          have HO := Lib.hid hO
          have Hq := Lib.hid hq
          have y0 : wr.cell? ⟨H', 0, none⟩ = some (.int .u32 (lmaskV c)) := hX.cell 0
          have y1 : wr.cell? ⟨H', 1, none⟩ = some (.int .u16 c.hi) := hX.cell 1
          have y2 : wr.cell? ⟨H', 2, none⟩ = some (.int .u8 (optV c)) := hX.cell 2
          have y3 : wr.cell? ⟨H', 3, none⟩ = some (.int .u8 c.pr) := hX.cell 3
          have y4 : wr.cell? ⟨H', 4, none⟩ = some (.int .u32 c.dd) := hX.cell 4
          have y5 : wr.cell? ⟨H', 5, none⟩ = some (.int .u32 s.dr) := hX.cell 5
          have y6 : wr.cell? ⟨H', 6, none⟩ = some (.int .u32 s.bd) := hX.cell 6
          have y7 : wr.cell? ⟨H', 7, none⟩ = some (.slice va q vm) := hX.cell 7
          have z0 : wr.cell? ⟨w.heap.size, 0, none⟩ = some (.int .u32 0) := KR.out.cell 0
          have z1 : wr.cell? ⟨w.heap.size, 1, none⟩ = some (.int .u16 0) := KR.out.cell 1
          have z2 : wr.cell? ⟨w.heap.size, 2, none⟩ = some (.int .u8 0) := KR.out.cell 2
          have z3 : wr.cell? ⟨w.heap.size, 3, none⟩ = some (.int .u8 0) := KR.out.cell 3
          have z4 : wr.cell? ⟨w.heap.size, 4, none⟩ = some (.int .u32 0) := KR.out.cell 4
          have z5 : wr.cell? ⟨w.heap.size, 5, none⟩ = some (.int .u32 0) := KR.out.cell 5
          have z6 : wr.cell? ⟨w.heap.size, 6, none⟩ = some (.int .u32 0) := KR.out.cell 6
          have z7 : wr.cell? ⟨w.heap.size, 7, none⟩ = some (.slice none 0 0) := KR.out.cell 7
          clear hX hO hq HE
          go_wp2_with fail
          obtain ⟨W2, hW2⟩ : ∃ W2, W2 = ((((((((wr.setCell ⟨w.heap.size, 0, none⟩ (.int .u32 (lmaskV c))).setCell ⟨w.heap.size, 1, none⟩ (.int .u16 c.hi)).setCell ⟨w.heap.size, 2, none⟩ (.int .u8 (optV c))).setCell ⟨w.heap.size, 3, none⟩ (.int .u8 c.pr)).setCell ⟨w.heap.size, 4, none⟩ (.int .u32 c.dd)).setCell ⟨w.heap.size, 5, none⟩ (.int .u32 s.dr)).setCell ⟨w.heap.size, 6, none⟩ (.int .u32 s.bd)).setCell ⟨w.heap.size, 7, none⟩ (.slice va q vm)) := ⟨_, rfl⟩
          rw [← hW2]
          obtain ⟨k8, b8⟩ := set8r (N := w.heap.size) (v0 := .int .u32 (lmaskV c)) (v1 := .int .u16 c.hi) (v2 := .int .u8 (optV c)) (v3 := .int .u8 c.pr) (v4 := .int .u32 c.dd) (v5 := .int .u32 s.dr) (v6 := .int .u32 s.bd) (v7 := .slice va q vm) KR.out HB.out (Nat.le_refl _)
          rw [← hW2] at k8 b8
          have hf8 : Frame (fun j => j = w.heap.size) wr W2 := by rw [hW2]; exact ((((((((Frame.refl _ wr).setB 0 _).setB 1 _).setB 2 _).setB 3 _).setB 4 _).setB 5 _).setB 6 _).setB 7 _
          have ho8 := hf8.own HO.out (fun g hg e => own_blk_ne HO.out KR.out (by decide) (by rw [hg, e]))
          have HK8 := Lib.hid k8
          have HB8 := Lib.hid b8
          have HO8 := Lib.hid ho8
          clear hW2 k8 b8 hf8 ho8 y0 y1 y2 y3 y4 y5 y6 y7 z0 z1 z2 z3 z4 z5 z6 z7 fz c21
          have g0 := (HK8.out.cell 0).trans rfl
          have g1 := (HK8.out.cell 1).trans rfl
          have g2 := (HK8.out.cell 2).trans rfl
          have g3 := (HK8.out.cell 3).trans rfl
          have g4 := (HK8.out.cell 4).trans rfl
          have g5 := (HK8.out.cell 5).trans rfl
          have g6 := (HK8.out.cell 6).trans rfl
          have g7 := (HK8.out.cell 7).trans rfl
          go_wp2_with fail
          have hnb : (Pl.hel c s).nb = nbs s.l k := by rw [← Hn.out, nbs_all]; rfl
          refine bodyPost_ret (v := hval (Pl.hel c s) (.slice va q vm)) ?_ rfl ⟨_, rfl, by rw [hnb, Hq.out]; exact HO8.out, HB8.out⟩
          simp [results, Try.f122, go_sem, hval, Pl.hel, g0, g1, g2, g3, g4, g5, g6, g7]
    · have KE : Hid (Blk (wd.setCell ⟨H', 2, none⟩ (.int .u8 (bits .or .u8 c.op 32))) H' 90 #[.int .u32 (lmaskV c), .int .u16 c.hi, .int .u8 (optV c), .int .u8 c.pr, .int .u32 c.dd, .int .u32 s.dr, .int .u32 s.bd, .slice none 0 0]) := Lib.hid (by
        have e : optV c = bits .or .u8 c.op 32 := by unfold optV; rw [← HDm.out]; rfl
        rw [e]; exact HH.out.set_ 2 _)
      have hRH : R ≠ H' := HR.out.b.ne_ HH.out (by decide)
      have hwH : w.heap.size ≠ H' := by have := Hlt.out.1; omega
      have HR2 : Hid (RAt lo (wd.setCell ⟨H', 2, none⟩ (.int .u8 (bits .or .u8 c.op 32))) R c s (.slice A n cp)) := Lib.hid ⟨HR.out.loR, HR.out.b.far (p := ⟨H', 2, none⟩) hRH _, own_far HR.out.o (q := ⟨H', 2, none⟩) (own_blk_ne HR.out.o HH.out (by decide)) _⟩
      have KR2 : Hid (Blk (wd.setCell ⟨H', 2, none⟩ (.int .u8 (bits .or .u8 c.op 32))) w.heap.size 90 #[.int .u32 0, .int .u16 0, .int .u8 0, .int .u8 0, .int .u32 0, .int .u32 0, .int .u32 0, .slice none 0 0]) := Lib.hid (KR.out.far (p := ⟨H', 2, none⟩) hwH _)
      have HBw2 : Hid (Below w.heap.size w (wd.setCell ⟨H', 2, none⟩ (.int .u8 (bits .or .u8 c.op 32)))) := Lib.hid (HBw.out.setCell (p := ⟨H', 2, none⟩) (by have := Hlt.out.1; show w.heap.size ≤ H'; omega) _)
      have hHlt2 : H' < (wd.setCell ⟨H', 2, none⟩ (.int .u8 (bits .or .u8 c.op 32))).heap.size := KE.out.lt
      clear hRH hwH KR HR HBw
      go_upto_region 4 with fail
      obtain ⟨we, hwe⟩ : ∃ we, we = wd.setCell ⟨H', 2, none⟩ (.int .u8 (bits .or .u8 c.op 32)) := ⟨_, rfl⟩
      rw [← hwe] at KE KR2 HR2 HBw2 hHlt2 ⊢
      clear hwe HH d10 hdl g2 fH HDm hHlt
      have KR := KR2
      have HR := HR2
      have HBw := HBw2
      have hHlt := hHlt2
      clear KR2 HR2 HBw2 hHlt2
      have HW : Hid (w.heap.size < H') := Lib.hid Hlt.out.1
      clear Hlt
      go_wp2_with fail
      go_loopw [4] (fun i wr => ∃ k : Nat, k ≤ n ∧ i = .int .i64 k ∧ Hid (∃ va vm, Blk wr H' 90 #[.int .u32 (lmaskV c), .int .u16 c.hi, .int .u8 (optV c), .int .u8 c.pr, .int .u32 c.dd, .int .u32 s.dr, .int .u32 s.bd, .slice va (nbs s.l k).length vm] ∧ wr.ownsRow w.heap.size 25 1 (.slice va (nbs s.l k).length vm) (nbs s.l k).length ((nbs s.l k).map (Value.int .u32))) ∧ Hid (Blk wr w.heap.size 90 #[.int .u32 0, .int .u16 0, .int .u8 0, .int .u8 0, .int .u32 0, .int .u32 0, .int .u32 0, .slice none 0 0]) ∧ Hid (RAt lo wr R c s (.slice A n cp)) ∧ Hid (Below w.heap.size w wr)) (fun i _ => n - (intOf i).toNat)
      case atStart => exact ⟨0, Nat.zero_le _, rfl, Lib.hid ⟨none, 0, KE.out, World.ownsRow_nil _ _ _ _⟩, KR, HR, HBw⟩
      case round =>
        clear KE KR HR HBw hHlt
        obtain ⟨k, hk, rfl, HE, KR, HR, HB⟩ := hrel
        by_cases hlt2 : k < n
        · obtain ⟨x, hx⟩ : ∃ x, s.l[k]? = some x := ⟨_, List.getElem?_eq_getElem (by rw [Hn.out]; exact hlt2)⟩
          obtain ⟨b, n', cap, e, hn2, hb, hc⟩ := HR.out.o.knb hx
          cases e
          obtain ⟨va, vm, hX, hO⟩ := HE.out
          obtain ⟨m, hm⟩ : ∃ m, (nbs s.l k).length = m := ⟨_, rfl⟩
          have hmn : m ≤ n := by
            rw [← hm, ← Hn.out]
            unfold nbs
            rw [List.length_map]
            exact Nat.le_trans (List.length_filter_le _ _) (by rw [List.length_take]; omega)
          rw [hm] at hX hO
          have c21 : wr.cell? ⟨R, 21, none⟩ = some (.slice (some ⟨b, 0, none⟩) n cp) := HR.out.b.cell 21
          have q0 : wr.cell? ⟨b, k * 9, none⟩ = some (.int .u32 x.ro) := hc 0 _ rfl
          have q2 : wr.cell? ⟨b, k * 9 + 2, none⟩ = some (.int .u8 x.st) := hc 2 _ rfl
          have hRl := HR.out.b.lt
          have hHl := hX.lt
          have Hx := Lib.hid hx
          have HX := Lib.hid hX
          have HO := Lib.hid hO
          have Hm := Lib.hid hm
          have hkn : (k : Int) < (n : Int) := by omega
          clear hx hn2 hc hX hO hm HE
          rcases hd : decide (2 ≤ x.st) with _ | _
          · have HN : Hid (nbs s.l (k + 1) = nbs s.l k) := Lib.hid (nbs_no Hx.out hd)
            go_wp2_with fail
            go_roundw
            case rel => exact ⟨k + 1, by omega, by simp, Lib.hid ⟨va, vm, by rw [HN.out, Hm.out]; exact HX.out, by rw [HN.out, Hm.out]; exact HO.out⟩, KR, HR, HB⟩
            case measure => simp [intOf]; omega
          · have HN : Hid (nbs s.l (k + 1) = nbs s.l k ++ [x.ro]) := Lib.hid (nbs_yes Hx.out hd)
            have xo : wr.cell? ⟨H', 7, none⟩ = some (.slice va m vm) := HX.out.cell 7
            obtain ⟨i0, hi, hz0', hz1, hz2⟩ := info_parts word_info
            go_upto_region 8 with fail
            refine wp_region_late1 (C := fun w' => ∃ u : Later wr.heap.size wr, w' = u.to) (.pointer (some ⟨H', 7, none⟩)) (.slice va m vm) 10 11 (by kernel_rfl) (by kernel_rfl) (fun _ _ _ h => h) (fun _ _ _ h => h) (.inl ⟨rfl, fun w' => ?_⟩) ⟨rfl, ?_⟩ ⟨⟨wr.drew, (Below.refl _ _).drew⟩, rfl⟩ ?_
            · simp [go_sem]
            · rintro w' ⟨u, rfl⟩
              have hu := (u.ok.cell (p := ⟨H', 7, none⟩) hHl).trans xo
              simp [go_sem, Act.put, hu]
            simp only [List.take_succ_cons, List.take_zero, List.drop_succ_cons, List.drop_zero, Nat.reduceSub]
            have y0 := later_cell (B := wr.heap.size) (w0 := wr) (p := ⟨b, k * 9, none⟩) hb q0
            have y1 := later_cell (B := wr.heap.size) (w0 := wr) (p := ⟨R, 21, none⟩) hRl c21
            simp only [Act.put, List.setIfInBounds_toArray, List.set_cons_succ, List.set_cons_zero]
            repeat (go_big_quiet_step (fail))
            refine wpQuiet_nil ?_
            rintro wx ⟨⟨wy, hwy⟩, hwe⟩
            obtain rfl : wx = wy := hwe
            refine wpListK_step rfl rfl ?_
            simp [Oper.wp, Oper.upon, go_sem]
            refine ⟨⟨⟨_, hwy.alloc hwy.size _⟩, rfl⟩, ?_⟩
            refine wpListK_of_list _ 11 _ _ (Nat.le_refl _) (fun j => match j with
              | 0 => rfl
              | 1 => rfl
              | 2 => rfl
              | j + 3 => by simp; omega) ?_
            obtain ⟨wz, hwz⟩ : ∃ wz, wz = wx.alloc (.cells #[.int .u32 x.ro] 25) := ⟨_, rfl⟩
            have HLit := Lib.hid (Reads.of_own (World.ownsRow_lit (base := 0) (e := 25) (size := 1) wx #[.int .u32 x.ro] 1 (Nat.zero_le _) (by simp [maxLen]) rfl))
            rw [← hwz] at HLit
            rw [← hwz]
            have hwW : Below wr.heap.size wr wz := by rw [hwz]; exact hwy.alloc hwy.size _
            have hownz : wz.ownsRow w.heap.size 25 1 (.slice va m vm) m ((nbs s.l k).map (Value.int .u32)) := (Frame.of_below (S := fun _ => False) hwW).own HO.out (fun _ _ e => e)
            have hsW : wr.heap.size ≤ wz.heap.size := hwW.size
            have hbase : w.heap.size ≤ wz.heap.size := by have := HB.out.size; omega
            refine wpList_append_any _ rfl (.tmp 69) (.tmp 78) _ rfl w.heap.size 25 i0 _ 1 4 Try.underlying88 hi hz0' hz1 hz2 rfl (by omega) (.slice va m vm) m _ rfl hownz _ (some ⟨wx.heap.size, 0, none⟩) 1 1 _ rfl HLit.out (by simp [Value.oneCell']) (by unfold maxLen; omega) (by omega) hbase ?_
            intro v1 w4 hown1 hg1 _
            have hne : (Value.slice va m vm).ownBlock ≠ some H' := own_blk_ne HO.out HX.out (by decide)
            have hX4 : Blk w4 H' 90 #[.int .u32 (lmaskV c), .int .u16 c.hi, .int .u8 (optV c), .int .u8 c.pr, .int .u32 c.dd, .int .u32 s.dr, .int .u32 s.bd, .slice va m vm] := by
              have h1 := HX.out.below hwW HX.out.lt
              exact h1.grown hg1 hne.symm
            have hX40 : w4.cell? ⟨H', 7, none⟩ = some (.slice va m vm) := hX4.cell 7
            have hfz4 := hX4.frozen
            have hlt4 := hX4.lt
            obtain ⟨vb, vn, rfl⟩ := own_slice hown1
            have HG1 := Lib.hid hg1
            have HX4 := Lib.hid hX4
            have HOwn1 := Lib.hid hown1
            have HWW := Lib.hid hwW
            have HOz := Lib.hid hownz
            clear hown1 hg1 hne hX4 hwW hownz hwy hwz y0 y1 xo q0 q2 c21
            go_wp2_with fail
            go_roundw
            case rel =>
              have hF : Frame (fun j => (Value.slice va m vm).ownBlock = some j ∨ j = H') wr (w4.setCell ⟨H', 7, none⟩ (.slice vb (m + 1) vn)) := ((Frame.of_below HWW.out).trans (Frame.of_grown HG1.out (fun j e _ => .inl e))).setCell (p := ⟨H', 7, none⟩) (fun _ => .inr rfl) _
              have hRo := HR.out
              have hnew : ∃ va vm, Blk (w4.setCell ⟨H', 7, none⟩ (.slice vb (m + 1) vn)) H' 90 #[.int .u32 (lmaskV c), .int .u16 c.hi, .int .u8 (optV c), .int .u8 c.pr, .int .u32 c.dd, .int .u32 s.dr, .int .u32 s.bd, .slice va (nbs s.l (k + 1)).length vm] ∧ (w4.setCell ⟨H', 7, none⟩ (.slice vb (m + 1) vn)).ownsRow w.heap.size 25 1 (.slice va (nbs s.l (k + 1)).length vm) (nbs s.l (k + 1)).length ((nbs s.l (k + 1)).map (Value.int .u32)) := by
                rw [HN.out, List.length_append, List.map_append, Hm.out]
                refine ⟨vb, vn, HX4.out.set_ 7 _, ?_⟩
                exact own_far HOwn1.out (q := ⟨H', 7, none⟩) (own_blk_ne HOwn1.out HX4.out (by decide)) _
              refine ⟨k + 1, by omega, by simp, Lib.hid hnew, Lib.hid (hF.blk KR.out (fun e => ?_)), Lib.hid ⟨hRo.loR, hF.blk hRo.b (fun e => ?_), hF.own hRo.o (fun g hg e => ?_)⟩, Lib.hid (below_fr HB.out hF (fun j e => ?_) HB.out.size)⟩
              · rcases e with e | e
                · exact own_blk_ne HO.out KR.out (by decide) e
                · have := HW.out; omega
              · rcases e with e | e
                · exact own_blk_ne HO.out hRo.b (by decide) e
                · exact hRo.b.ne_ HX.out (by decide) e
              · rcases e with e | e
                · exact rows_apart hRo.o HO.out (by decide) hg e
                · exact own_blk_ne hRo.o HX.out (by decide) (by rw [hg, e])
              · rcases e with e | e
                · exact (HO.out.lt j e).1
                · rw [e]; exact Nat.le_of_lt HW.out
            case measure => simp [intOf]; omega
        · obtain rfl : k = n := by omega
          obtain ⟨va, vm, hX, hO⟩ := HE.out
          obtain ⟨q, hq⟩ : ∃ q, (nbs s.l k).length = q := ⟨_, rfl⟩
          rw [hq] at hX hO
          have c21 : wr.cell? ⟨R, 21, none⟩ = some (.slice A k cp) := HR.out.b.cell 21
          have hRl := HR.out.b.lt
          have hHl := hX.lt
          have fz := KR.out.frozen
          have hwl := KR.out.lt
          have HX := Lib.hid hX
          have HO := Lib.hid hO
          have Hq := Lib.hid hq
          have y0 : wr.cell? ⟨H', 0, none⟩ = some (.int .u32 (lmaskV c)) := hX.cell 0
          have y1 : wr.cell? ⟨H', 1, none⟩ = some (.int .u16 c.hi) := hX.cell 1
          have y2 : wr.cell? ⟨H', 2, none⟩ = some (.int .u8 (optV c)) := hX.cell 2
          have y3 : wr.cell? ⟨H', 3, none⟩ = some (.int .u8 c.pr) := hX.cell 3
          have y4 : wr.cell? ⟨H', 4, none⟩ = some (.int .u32 c.dd) := hX.cell 4
          have y5 : wr.cell? ⟨H', 5, none⟩ = some (.int .u32 s.dr) := hX.cell 5
          have y6 : wr.cell? ⟨H', 6, none⟩ = some (.int .u32 s.bd) := hX.cell 6
          have y7 : wr.cell? ⟨H', 7, none⟩ = some (.slice va q vm) := hX.cell 7
          have z0 : wr.cell? ⟨w.heap.size, 0, none⟩ = some (.int .u32 0) := KR.out.cell 0
          have z1 : wr.cell? ⟨w.heap.size, 1, none⟩ = some (.int .u16 0) := KR.out.cell 1
          have z2 : wr.cell? ⟨w.heap.size, 2, none⟩ = some (.int .u8 0) := KR.out.cell 2
          have z3 : wr.cell? ⟨w.heap.size, 3, none⟩ = some (.int .u8 0) := KR.out.cell 3
          have z4 : wr.cell? ⟨w.heap.size, 4, none⟩ = some (.int .u32 0) := KR.out.cell 4
          have z5 : wr.cell? ⟨w.heap.size, 5, none⟩ = some (.int .u32 0) := KR.out.cell 5
          have z6 : wr.cell? ⟨w.heap.size, 6, none⟩ = some (.int .u32 0) := KR.out.cell 6
          have z7 : wr.cell? ⟨w.heap.size, 7, none⟩ = some (.slice none 0 0) := KR.out.cell 7
          clear hX hO hq HE
          go_wp2_with fail
          obtain ⟨W2, hW2⟩ : ∃ W2, W2 = ((((((((wr.setCell ⟨w.heap.size, 0, none⟩ (.int .u32 (lmaskV c))).setCell ⟨w.heap.size, 1, none⟩ (.int .u16 c.hi)).setCell ⟨w.heap.size, 2, none⟩ (.int .u8 (optV c))).setCell ⟨w.heap.size, 3, none⟩ (.int .u8 c.pr)).setCell ⟨w.heap.size, 4, none⟩ (.int .u32 c.dd)).setCell ⟨w.heap.size, 5, none⟩ (.int .u32 s.dr)).setCell ⟨w.heap.size, 6, none⟩ (.int .u32 s.bd)).setCell ⟨w.heap.size, 7, none⟩ (.slice va q vm)) := ⟨_, rfl⟩
          rw [← hW2]
          obtain ⟨k8, b8⟩ := set8r (N := w.heap.size) (v0 := .int .u32 (lmaskV c)) (v1 := .int .u16 c.hi) (v2 := .int .u8 (optV c)) (v3 := .int .u8 c.pr) (v4 := .int .u32 c.dd) (v5 := .int .u32 s.dr) (v6 := .int .u32 s.bd) (v7 := .slice va q vm) KR.out HB.out (Nat.le_refl _)
          rw [← hW2] at k8 b8
          have hf8 : Frame (fun j => j = w.heap.size) wr W2 := by rw [hW2]; exact ((((((((Frame.refl _ wr).setB 0 _).setB 1 _).setB 2 _).setB 3 _).setB 4 _).setB 5 _).setB 6 _).setB 7 _
          have ho8 := hf8.own HO.out (fun g hg e => own_blk_ne HO.out KR.out (by decide) (by rw [hg, e]))
          have HK8 := Lib.hid k8
          have HB8 := Lib.hid b8
          have HO8 := Lib.hid ho8
          clear hW2 k8 b8 hf8 ho8 y0 y1 y2 y3 y4 y5 y6 y7 z0 z1 z2 z3 z4 z5 z6 z7 fz c21
          have g0 := (HK8.out.cell 0).trans rfl
          have g1 := (HK8.out.cell 1).trans rfl
          have g2 := (HK8.out.cell 2).trans rfl
          have g3 := (HK8.out.cell 3).trans rfl
          have g4 := (HK8.out.cell 4).trans rfl
          have g5 := (HK8.out.cell 5).trans rfl
          have g6 := (HK8.out.cell 6).trans rfl
          have g7 := (HK8.out.cell 7).trans rfl
          go_wp2_with fail
          have hnb : (Pl.hel c s).nb = nbs s.l k := by rw [← Hn.out, nbs_all]; rfl
          refine bodyPost_ret (v := hval (Pl.hel c s) (.slice va q vm)) ?_ rfl ⟨_, rfl, by rw [hnb, Hq.out]; exact HO8.out, HB8.out⟩
          simp [results, Try.f122, go_sem, hval, Pl.hel, g0, g1, g2, g3, g4, g5, g6, g7]
end
end Go.Proofs.Ytgbmhijgpdgdbaa
