/- The statements' 'works' answers true. -/
import Derived.Test.YtgbmhijgpdgdbaaFaBegin
import Derived.Test.YtgbmhijgpdgdbaaFaDup
import Derived.Test.YtgbmhijgpdgdbaaFaGot
namespace Go.Proofs.Ytgbmhijgpdgdbaa
open Go.RowKit

set_option maxHeartbeats 400000 in
theorem state_yes (w : World) (B : Nat) (a : Adj) (h : AdjAt w B a) (hm : a.made = true) : Calls Try.prog 16 #[.pointer (some ⟨B, 0, none⟩)] w fun e w' => e = .returned (.int .u8 a.state) ∧ w = w' := by
  have c8 : w.cell? ⟨B, 8, none⟩ = some (.int .u8 a.state) := h.cell 8
  go_enter Try.func16, Try.ntmps16
  go_wp2_with (go_at_call 50; refine (none_yes _ B a h hm).mono ?_; rintro e w' ⟨rfl, rfl⟩)
  go_ret
  exact ⟨rfl, rfl⟩

theorem below_of {w w' w0 : World} {F : Nat → Prop} {k : Nat} (h0 : Below k w0 w) (h : Frame F w w') (hF : ∀ i, F i → k ≤ i) (hk : k ≤ w.heap.size) : Below k w0 w' :=
  ⟨h.os.trans h0.os, h.tape.trans h0.tape, h.output.trans h0.output, Nat.le_trans h0.size h.size, fun i hi => (h.block i (Nat.lt_of_lt_of_le hi hk) (fun e => by have := hF i e; omega)).trans (h0.block i hi)⟩

def wh : Od.Hd := ⟨0, 0, 1, 2, 2, -2147483647, 0, 0⟩
def wk : Od.Ky := ⟨1, 2, 2⟩

/-- The first description is taken. -/
theorem works_first (W : World) (B m : Nat) (a : Adj) (h : Wants W B m a [] (fun _ => none)) (hmade : a.made = true) (hmtu : a.mtu = 0) (hst : a.state = 0) (hrx : a.rxmt = 5) (hlt : a.self < a.other) (hty : a.types = 65535) :
    Calls Try.prog 14 #[.pointer (some ⟨B, 0, none⟩), .agg #[.int .u16 0, .int .u8 2, .int .u8 7, .int .u32 40, .slice none 0 0], .slice none 0 0] W fun e w' =>
      ∃ v, e = .returned (.tuple #[v, .int .i64 0]) ∧ ∃ ov lv sv, Taken W B m a (({ ({ a with master := false, state := 1 } : Adj).took 2 7 40 with order := ov, seq := 40 } : Adj).described 0 lv sv) [] (fun _ => none) [] [] w' := by
  refine (Describe_start W B a 0 2 7 40 (.slice none 0 0) (.slice none 0 0) (fun v w' => SlaveV W B m { a with master := false, state := 1 } [] (fun _ => none) 2 7 40 [] v w') h.adj (.inl rfl) hmade hmtu hst ?_).mono ?_
  · intro w1 hb
    have hf : Frame (fun _ => False) W w1 := Frame.of_below hb
    refine (begin_slave w1 B m a (fun _ => none) 0 2 7 40 (.slice none 0 0) (.slice none 0 0) [] (h.frame hf (fun _ e => e.elim)) (HeadsIn.nil _) (HeadsIn.nil _) (by simp) (by simp) (by simp) (by rw [hrx]; omega) hlt hty (by decide) (by decide)).mono ?_
    rintro e w' ⟨v, rfl, hs⟩
    exact ⟨v, rfl, SlaveV.from (x := a.left) (Frame.of_below hb) hs⟩
  · rintro e w' ⟨v, rfl, ov, lv, sv, hs⟩
    unfold SlaveB at hs
    rw [show kindOf (decide (16 < ([] : List Od.Hd).length) || isM 7) [] = .more from by rw [show (decide (16 < ([] : List Od.Hd).length) || isM 7) = true from by decide]; rfl] at hs
    obtain ⟨h1, _⟩ := hs
    exact ⟨v, rfl, ov, lv, sv, Taken.from (a1 := { a with master := false, state := 1 }) (Frame.refl _ _) rfl h1⟩

theorem wh_ok : HdOk wh := ⟨by decide, by decide, by decide, by decide, by decide, by decide, by decide, by decide⟩
theorem wk_ok : KyOk wk := wh_ok.ky

/-- The second one, with one head. -/
theorem works_second (W : World) (B m : Nat) (a : Adj) (hv : Value) (h : Wants W B m a [] (fun _ => none)) (hL : HeadsIn W a.left []) (hp : HeadsIn W hv [wh]) (hmade : a.made = true) (hmtu : a.mtu = 0) (hst : a.state = 1) (hrx : a.rxmt = 5) (hty : a.types = 65535)
    (hms : a.master = false) (hseq : a.seq = 40) (htk : a.taken = true) (hls : a.lseq = 40) (hlo : a.lopts = 2) :
    Calls Try.prog 14 #[.pointer (some ⟨B, 0, none⟩), ddval 0 2 1 41 hv, .slice none 0 0] W fun e w' =>
      ∃ v, e = .returned (.tuple #[v, .int .i64 0]) ∧ ∃ ov lv sv av ohv kv, Taken W B m a (({ ({ a.took 2 1 41 with order := ov, seq := 41 } : Adj).described (dflags a.master []) lv sv with state := 2 } : Adj).requested av) [wk] (upd (fun _ => none) wk (some wh)) [] [] w' ∧
        w'.ownsRow W.heap.size 40 7 v 2 (Raw.cells ⟨true, a.mtu, a.opts, dflags a.master [], 41, ohv, .slice none 0 0⟩ ++ Raw.cells (oneReq kv)) ∧ KeysOwn w' W.heap.size av [wk] ∧ KeysOwn w' W.heap.size kv [wk] := by
  have hfit : Fits a 2 1 41 := ⟨by decide, by rw [hms]; decide, hlo.symm, by rw [nextSeq, hms, hseq]; decide, by omega, by omega⟩
  have hs : hv = .slice none 0 0 ∨ ∃ A n c, hv = .slice A n c := by
    obtain ⟨A, n, c, e, -⟩ := hp.1
    exact .inr ⟨A, n, c, e⟩
  refine (Describe_again W B a 0 2 1 41 hv (.slice none 0 0) (fun v w' => SlaveV W B m a [wk] (upd (fun _ => none) wk (some wh)) 2 1 41 [] v w') h.adj hs hmade hmtu (by rw [hst]; decide) ?_).mono ?_
  · intro w1 hb
    have hf : Frame (fun _ => False) W w1 := Frame.of_below hb
    have h1 := h.frame hf (fun _ e => e.elim)
    refine (again_any w1 B a 0 2 1 41 hv (.slice none 0 0) [wh] (fun v w' => SlaveV W B m a [wk] (upd (fun _ => none) wk (some wh)) 2 1 41 [] v w') h1.adj (hp.below hb) (by simp [wh_ok]) (by simp) hty hfit htk (by rw [hls]; decide) hst ?_).mono (fun e w' he => he)
    intro w2 hb2
    have hf2 : Frame (fun _ => False) W w2 := hf.trans (Frame.of_below hb2)
    refine (take_slave w2 B m a [] (fun _ => none) 0 2 1 41 hv (.slice none 0 0) [wh] [] [] (h.frame hf2 (fun _ e => e.elim)) (hL.frame hf2 (noNo _)) (hp.frame hf2 (noNo _)) (HeadsIn.nil _) (by simp [wh_ok]) (by simp) (by simp) (by simp) (by simp) (by rw [hrx]; omega) hms ?_).mono ?_
    · intro k x hx
      exact ⟨rfl, by
        have hk : k = 0 := by
          have := (List.getElem?_eq_some_iff.1 hx).1
          simpa using this
        subst hk
        rfl⟩
    · rintro e w' ⟨v, rfl, hsv⟩
      exact ⟨v, rfl, SlaveV.from (x := a.left) (hf2.mono fun _ e => e.elim) hsv.toV⟩
  · rintro e w' ⟨v, rfl, ov, lv, sv, hs⟩
    unfold SlaveB at hs
    rw [show kindOf (decide (16 < ([] : List Od.Hd).length) || isM 1) [wk] = .loading from by rw [show (decide (16 < ([] : List Od.Hd).length) || isM 1) = false from by decide]; rfl] at hs
    obtain ⟨av, ohv, kv, h1, h2, -, h4, h5⟩ := hs
    exact ⟨v, rfl, ov, lv, sv, av, ohv, kv, h1, h2, h4, h5⟩

end Go.Proofs.Ytgbmhijgpdgdbaa

namespace Go.Proofs.Ytgbmhijgpdgdbaa
open Go.RowKit

def wnew (m : Nat) : Adj := (newAdj 1 2 0 2 5 100 65535 m).firsted

set_option maxHeartbeats 2000000 in
set_option maxRecDepth 20000 in
theorem works_any (w : World) : Calls Try.prog 11 #[] w fun e w' => e = .returned (.bool true) ∧ Below w.heap.size w w' := by
  go_enter Try.func11, Try.ntmps11
  go_wp2_with fail
  refine (new_any 1 2 0 2 5 100 65535 _ (by omega) (by omega) (by omega) (by omega) (by omega)).mono ?_
  rintro e w1 ⟨B, m, v1, rfl, hB, hm, hA1, hM1, hb1, ohv1, hrow1, -⟩
  obtain ⟨vg, vc, rfl, hvg, hvlt⟩ := hrow1.form (by omega)
  have r3 : w1.cell? ⟨vg, 3, none⟩ = some (.int .u8 7) := hrow1.cellAt 3 (by simp)
  have r4 : w1.cell? ⟨vg, 4, none⟩ = some (.int .u32 100) := hrow1.cellAt 4 (by simp)
  have hW1 : Wants (w1.alloc (.cells (hcells wh).toArray 59)) B m (wnew m) [] (fun _ => none) := Wants.alloc ⟨hA1, rfl, hM1, World.ownsRow_nil _ _ _ _⟩ _
  have kh1 : Blk (w1.alloc (.cells (hcells wh).toArray 59)) w1.heap.size 59 (hcells wh).toArray := Blk.new w1 _ _
  have HW1 := Lib.hid hW1
  have HK1 := Lib.hid kh1
  have HB1 := Lib.hid hb1
  have hBl := hA1.lt
  have hml := hM1.lt
  clear hA1 hM1 hb1 hrow1 hW1 kh1
  go_wp2_with fail
  refine (works_first _ B m (wnew m) HW1.out rfl rfl rfl rfl (show (1 : Int) < 2 by decide) rfl).mono ?_
  rintro e w3 ⟨v3, rfl, ov, lv, sv, hT⟩
  have hown3 : ∀ i, Own B m (wnew m).order i → w.heap.size ≤ i := by
    rintro i (e | e | e)
    · omega
    · omega
    · cases e
  have kh3 := hT.frame.blk HK1.out (by
    rintro (e | e | e)
    · omega
    · omega
    · cases e)
  have kb3 : Below w.heap.size w w3 := below_of (HB1.out.alloc HB1.out.size _) hT.frame hown3 (by have := HB1.out.size; simp; omega)
  have x0 : w3.cell? ⟨w1.heap.size, 0, none⟩ = some (.int .u16 0) := kh3.cell 0
  have x1 : w3.cell? ⟨w1.heap.size, 1, none⟩ = some (.int .u8 0) := kh3.cell 1
  have x2 : w3.cell? ⟨w1.heap.size, 2, none⟩ = some (.int .u8 1) := kh3.cell 2
  have x3 : w3.cell? ⟨w1.heap.size, 3, none⟩ = some (.int .u32 2) := kh3.cell 3
  have x4 : w3.cell? ⟨w1.heap.size, 4, none⟩ = some (.int .u32 2) := kh3.cell 4
  have x5 : w3.cell? ⟨w1.heap.size, 5, none⟩ = some (.int .i32 (-2147483647)) := kh3.cell 5
  have x6 : w3.cell? ⟨w1.heap.size, 6, none⟩ = some (.int .u16 0) := kh3.cell 6
  have x7 : w3.cell? ⟨w1.heap.size, 7, none⟩ = some (.int .u16 0) := kh3.cell 7
  have hW4 := hT.wants.alloc (.cells (hcells wh).toArray 59)
  have hL4 := hT.left.frame ((Frame.refl (fun _ => False) w3).alloc (.cells (hcells wh).toArray 59)) (noNo _)
  have hP4 : HeadsIn (w3.alloc (.cells (hcells wh).toArray 59)) (.slice (some ⟨w3.heap.size, 0, none⟩) 1 1) [wh] :=
    HeadsIn.own (World.ownsRow_lit (base := 0) (e := 59) (size := 8) w3 (hcells wh).toArray 1 (Nat.zero_le _) (by simp [maxLen]) rfl) rfl
  have hov : ov.ownBlock = none ∨ ∃ g, ov.ownBlock = some g ∧ w.heap.size ≤ g := by
    rcases hT.ord with e | e | ⟨g, e, hg⟩
    · left; exact e
    · left; exact e
    · right; exact ⟨g, e, by have := HB1.out.size; simp at hg; omega⟩
  have hkeyne : ov.ownBlock ≠ some w1.heap.size := own_blk_ne hT.wants.order kh3 (by decide)
  have HW4 := Lib.hid hW4
  have HL4 := Lib.hid hL4
  have HP4 := Lib.hid hP4
  have HB3 := Lib.hid kb3
  have HK3 := Lib.hid kh3
  have Hov := Lib.hid hov
  have Hne := Lib.hid hkeyne
  clear hT kh3 kb3 hown3 hW4 hL4 hP4 hov hkeyne r3 r4
  go_wp2_with fail
  refine (works_second _ B m _ (.slice (some ⟨w3.heap.size, 0, none⟩) 1 1) HW4.out HL4.out HP4.out rfl rfl rfl rfl rfl rfl rfl rfl rfl rfl).mono ?_
  rintro e w5 ⟨v5, rfl, ov5, lv5, sv5, av5, ohv5, kv5, hT5, hrow5, hav5, hkv5⟩
  obtain ⟨pg, pc, rfl, hpg, hplt⟩ := hrow5.form (by omega)
  obtain ⟨KA, KC, rfl⟩ := own_slice hkv5
  have r13 : w5.cell? ⟨pg, 13, none⟩ = some (.slice KA [wk].length KC) := hrow5.cellAt 13 (by simp)
  simp only [List.length_singleton] at r13
  have kh5 := hT5.frame.blk (HK3.out.alloc (.cells (hcells wh).toArray 59)) (by
    rintro (e | e | e)
    · omega
    · omega
    · exact Hne.out e)
  have kb5 : Below w.heap.size w w5 := below_of (HB3.out.alloc HB3.out.size _) hT5.frame (by
    rintro i (e | e | e)
    · omega
    · omega
    · rcases Hov.out with e2 | ⟨g, e2, hg⟩
      · have e' : ov.ownBlock = some i := e
        rw [e2] at e'; cases e'
      · have e' : ov.ownBlock = some i := e
        rw [e2] at e'; cases e'; exact hg) (by have := HB3.out.size; simp; omega)
  have y0 : w5.cell? ⟨w1.heap.size, 0, none⟩ = some (.int .u16 0) := kh5.cell 0
  have y1 : w5.cell? ⟨w1.heap.size, 1, none⟩ = some (.int .u8 0) := kh5.cell 1
  have y2 : w5.cell? ⟨w1.heap.size, 2, none⟩ = some (.int .u8 1) := kh5.cell 2
  have y3 : w5.cell? ⟨w1.heap.size, 3, none⟩ = some (.int .u32 2) := kh5.cell 3
  have y4 : w5.cell? ⟨w1.heap.size, 4, none⟩ = some (.int .u32 2) := kh5.cell 4
  have y5 : w5.cell? ⟨w1.heap.size, 5, none⟩ = some (.int .i32 (-2147483647)) := kh5.cell 5
  have y6 : w5.cell? ⟨w1.heap.size, 6, none⟩ = some (.int .u16 0) := kh5.cell 6
  have y7 : w5.cell? ⟨w1.heap.size, 7, none⟩ = some (.int .u16 0) := kh5.cell 7
  have HT5 := Lib.hid hT5
  have HB5 := Lib.hid kb5
  have HAv := Lib.hid hav5
  clear hT5 kb5 hrow5 hav5 hkv5 kh5 x0 x1 x2 x3 x4 x5 x6 x7
  have hst5 : Calls Try.prog 16 #[.pointer (some ⟨B, 0, none⟩)] w5 fun e w' => e = .returned (.int .u8 2) ∧ w5 = w' := state_yes w5 B _ HT5.out.wants.adj rfl
  have HS5 := Lib.hid hst5
  have hg5 : Calls Try.prog 25 #[.pointer (some ⟨B, 0, none⟩), .agg #[.int .u16 0, .int .u8 0, .int .u8 1, .int .u32 2, .int .u32 2, .int .i32 (-2147483647), .int .u16 0, .int .u16 0]] w5 fun e w' =>
      e = .returned (.slice none 0 0) ∧ ∃ a', AdjAt w' B a' ∧ a'.made = true ∧ a'.state = 3 ∧ Frame (fun k => k = B ∨ k = m) w5 w' := by
    refine (got_last w5 B m _ _ 0 0 1 2 2 (-2147483647) 0 0 HT5.out.wants wk_ok (by rw [← show wk = ⟨1, 2, 2⟩ from rfl, upd_self]; rfl) (own_base HAv.out (Nat.zero_le _)) rfl rfl (by omega) (by omega)).mono ?_
    rintro e w' ⟨rfl, ov', h1, h2⟩
    exact ⟨rfl, _, h1, rfl, rfl, h2⟩
  have HG5 := Lib.hid hg5
  clear hst5 hg5
  go_wp2_with fail
  refine HS5.out.mono ?_
  rintro e w6 ⟨rfl, rfl⟩
  go_wp2_with fail
  refine HG5.out.mono ?_
  rintro e w7 ⟨rfl, a7, hA7, hm7, hs7, hF7⟩
  have hst7 : Calls Try.prog 16 #[.pointer (some ⟨B, 0, none⟩)] w7 fun e w' => e = .returned (.int .u8 3) ∧ w7 = w' := by
    rw [← hs7]; exact state_yes w7 B a7 hA7 hm7
  have HS7 := Lib.hid hst7
  have HB7 : Hid (Below w.heap.size w w7) := Lib.hid (below_of HB5.out hF7 (by rintro i (e | e) <;> omega) HB5.out.size)
  clear hA7 hm7 hs7 hF7 hst7
  go_wp2_with fail
  refine HS7.out.mono ?_
  rintro e w8 ⟨rfl, rfl⟩
  go_wp2_with fail
  go_ret
  exact ⟨rfl, HB7.out⟩
end Go.Proofs.Ytgbmhijgpdgdbaa
