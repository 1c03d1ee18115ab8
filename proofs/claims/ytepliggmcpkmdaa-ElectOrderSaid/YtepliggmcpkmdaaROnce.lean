/- The reference's Once. -/
import Derived.Test.YtepliggmcpkmdaaFirst
import Derived.Test.YtepliggmcpkmdaaOnce
import Derived.Deep.OwnRows
namespace Go.Proofs.Ytepliggmcpkmdaa
open Go.RowKit

/-- The marks that k rounds have laid, the others not yet. -/
def marksL (c : El.V → Bool) (vs : List El.V) (k n : Nat) : List Value := (vs.take k).map (fun v => Value.bool (c v)) ++ List.replicate (n - k) (.bool false)
def marks (c : El.V → Bool) (vs : List El.V) (k n : Nat) : Array Value := (marksL c vs k n).toArray

theorem marks_zero (c : El.V → Bool) (vs : List El.V) (n : Nat) : madeCells #[.bool false] n = marks c vs 0 n := by
  apply Array.ext'
  rw [toList_madeCells_one]
  simp [marks, marksL]
theorem marks_at {c : El.V → Bool} {vs : List El.V} {k n : Nat} (hn : vs.length = n) (hk : k < n) : (marks c vs k n)[k]? = some (.bool false) := by
  simp only [marks, marksL, List.getElem?_toArray]
  rw [List.getElem?_append_right (by simp; omega)]
  simp only [List.length_map, List.length_take, List.getElem?_replicate]
  rw [if_pos (by omega)]
theorem marks_set_at {c : El.V → Bool} {vs : List El.V} {k n : Nat} {x : Value} (hn : vs.length = n) (hk : k < n) : ((marks c vs k n).setIfInBounds k x)[k]? = some x := by
  have := (Array.getElem?_eq_some_iff.1 (marks_at (c := c) hn hk)).1
  rw [Array.getElem?_setIfInBounds, if_pos rfl, if_pos this]
theorem marksL_step {c : El.V → Bool} {vs : List El.V} {k n : Nat} {v : El.V} (hn : vs.length = n) (hv : vs[k]? = some v) : (marksL c vs k n).set k (.bool (c v)) = marksL c vs (k + 1) n := by
  have hk : k < vs.length := (List.getElem?_eq_some_iff.1 hv).1
  unfold marksL
  rw [take_snoc' hv, List.map_append, List.set_append_right _ _ (by simp; omega)]
  have e : k - ((vs.take k).map (fun v => Value.bool (c v))).length = 0 := by simp; omega
  rw [e, show n - k = (n - (k + 1)) + 1 from by omega, List.replicate_succ]
  simp
theorem marks_step {c : El.V → Bool} {vs : List El.V} {k n : Nat} {v : El.V} (hn : vs.length = n) (hv : vs[k]? = some v) : (marks c vs k n).setIfInBounds k (.bool (c v)) = marks c vs (k + 1) n := by
  unfold marks
  rw [← marksL_step hn hv]; simp
theorem marks_keep {c : El.V → Bool} {vs : List El.V} {k n : Nat} {v : El.V} (hn : vs.length = n) (hv : vs[k]? = some v) (h : c v = false) : marks c vs (k + 1) n = marks c vs k n := by
  have hk : k < vs.length := (List.getElem?_eq_some_iff.1 hv).1
  rw [← marks_step hn hv, h]
  have := marks_at (c := c) hn (show k < n by omega)
  apply Array.ext'
  rw [Array.toList_setIfInBounds]
  have h2 : (marks c vs k n).toList[k]? = some (.bool false) := by rw [Array.getElem?_toList]; exact this
  apply List.ext_getElem?
  intro j
  rw [List.getElem?_set]
  by_cases hj : k = j
  · subst hj
    have hl : k < (marks c vs k n).toList.length := (List.getElem?_eq_some_iff.1 h2).1
    rw [if_pos rfl, if_pos hl, h2]
  · rw [if_neg hj]
theorem marks_done {c : El.V → Bool} {vs : List El.V} {n : Nat} (hn : vs.length = n) : marks c vs n n = ((vs.map c).map Value.bool).toArray := by
  unfold marks marksL
  rw [List.take_of_length_le (by omega)]; simp

theorem any_take {c : El.V → Bool} {vs : List El.V} {k : Nat} {v : El.V} (hv : vs[k]? = some v) : (vs.take (k + 1)).any c = ((vs.take k).any c || c v) := by
  rw [take_snoc' hv]; simp

theorem below_drewN {B : Nat} {a w : World} (h : Below B a w) (n : Nat) : Below B a (w.drewN n) := ⟨h.os, h.tape, h.output, h.size, h.block⟩
theorem bool_info : (Try.prog.info? 4).map (fun i => (i.zero, i.size, i.bytes)) = some (some (.bool false), 1, 1) := by kernel_rfl

set_option maxHeartbeats 1000000 in
theorem ronce_any (A : Option Addr) (n cp : Nat) (vs : List El.V) (w : World) (hlen : vs.length = n) (hn : n ≤ 65536) (hr : Reads w w.heap.size 5 A n (vs.flatMap cells)) :
    Calls Try.prog 11 #[.slice A n cp] w fun e w' => e = .returned (.tuple #[.int .u32 (El.once vs).1, .int .u32 (El.once vs).2]) ∧ Below w.heap.size w w' := by
  have hmk := run_make_row' (P := Try.prog) 42 4 (.bool false) 1 Try.underlying42 bool_info rfl .i64 .i64 n (by omega) (by omega)
  have Hlen := Lib.hid hlen
  clear hlen
  go_enter Try.func11, Try.ntmps11
  go_wp2_with fail
  clear hmk
  go_loopw [7, 8, 9] (fun an dr i wr => ∃ (k : Nat) (aB aC : Bool), k ≤ n ∧ i = .int .i64 k ∧ an = .bool aB ∧ dr = .bool aC ∧ Hid (aB = (vs.take k).any El.cB ∧ aC = (vs.take k).any El.cC) ∧
      Blk wr w.heap.size 4 (marks El.cC vs k n) ∧ Blk wr (w.heap.size + 1) 4 (marks El.cR vs k n) ∧ Blk wr (w.heap.size + 1 + 1) 4 (marks El.cB vs k n) ∧ Below w.heap.size w wr)
    (fun _ _ i _ => n - (intOf i).toNat)
  case atStart =>
    refine ⟨0, false, false, Nat.zero_le _, rfl, rfl, rfl, ⟨rfl, rfl⟩, ?_, ?_, ?_, ?_⟩
    · rw [← marks_zero]; exact ((Blk.new w 4 _).alloc _).alloc _
    · rw [← marks_zero]
      have := (Blk.new (w.alloc (.cells (madeCells #[.bool false] n) 4)) 4 (madeCells #[.bool false] n)).alloc (.cells (madeCells #[.bool false] n) 4)
      rw [World.size_alloc] at this
      exact this
    · rw [← marks_zero]
      have := Blk.new ((w.alloc (.cells (madeCells #[.bool false] n) 4)).alloc (.cells (madeCells #[.bool false] n) 4)) 4 (madeCells #[.bool false] n)
      rw [World.size_alloc, World.size_alloc] at this
      exact this
    · exact ((((Below.refl _ w).alloc (Nat.le_refl _) _).alloc (by simp) _).alloc (by simp; omega) _)
  case round =>
    obtain ⟨k, aB, aC, hk, rfl, rfl, rfl, Hab, hBC, hBR, hBB, hbel⟩ := hrel
    by_cases hlt : k < n
    · obtain ⟨v, hv⟩ : ∃ v, vs[k]? = some v := ⟨_, List.getElem?_eq_getElem (by have := Hlen.out; omega)⟩
      obtain ⟨bl, off, hA, hbl, hcell⟩ := (hr.below hbel).voice hv
      subst hA
      obtain ⟨r, a, p, d, b⟩ := v
      have c0 : wr.cell? ⟨bl, off + k * 5, none⟩ = some (.int .u32 r) := hcell 0 _ rfl
      have c1 := hcell 1 _ rfl
      have c2 := hcell 2 _ rfl
      have c3 := hcell 3 _ rfl
      have c4 := hcell 4 _ rfl
      have hz := hBB.lt
      have Hv := Lib.hid hv
      clear hcell hr hv
      by_cases hp : p = 0
      · subst hp
        have KC := Lib.hid (marks_keep (c := El.cC) Hlen.out Hv.out (by simp [El.cC]))
        have KR := Lib.hid (marks_keep (c := El.cR) Hlen.out Hv.out (by simp [El.cR]))
        have KB := Lib.hid (marks_keep (c := El.cB) Hlen.out Hv.out (by simp [El.cB]))
        have AC := Lib.hid (any_take (c := El.cC) Hv.out)
        have AB := Lib.hid (any_take (c := El.cB) Hv.out)
        go_wp2_with fail
        go_roundw
        case rel => exact ⟨k + 1, aB, aC, by omega, by go_num, rfl, rfl, ⟨by rw [AB.out, Hab.out.1]; simp [El.cB], by rw [AC.out, Hab.out.2]; simp [El.cC]⟩, by rw [KC.out]; exact hBC, by rw [KR.out]; exact hBR, by rw [KB.out]; exact hBB, hbel⟩
        case measure => simp [intOf]; omega
      · go_wp2_with fail
        refine (rchief_any _ _ _ _ _ _).mono ?_
        rintro e w1 ⟨rfl, hb1⟩
        have hz1 := hb1.size
        have hBC1 := hBC.below hb1 hBC.lt
        have hBR1 := hBR.below hb1 hBR.lt
        have hBB1 := hBB.below hb1 hBB.lt
        have hbel1 := hbel.trans (hb1.mono hbel.size)
        have mC := (hBC1.cell k).trans (marks_at Hlen.out hlt)
        have mR := (hBR1.cell k).trans (marks_at Hlen.out hlt)
        have mB := (hBB1.cell k).trans (marks_at Hlen.out hlt)
        have fC := hBC1.frozen k
        have fR := hBR1.frozen k
        have fB := hBB1.frozen k
        have d0 := (hb1.cell (p := ⟨bl, off + k * 5, none⟩) (by simp; omega)).trans c0
        have d1 := (hb1.cell (p := ⟨bl, off + k * 5 + 1, none⟩) (by simp; omega)).trans c1
        have d2 := (hb1.cell (p := ⟨bl, off + k * 5 + 2, none⟩) (by simp; omega)).trans c2
        have d3 := (hb1.cell (p := ⟨bl, off + k * 5 + 3, none⟩) (by simp; omega)).trans c3
        have d4 := (hb1.cell (p := ⟨bl, off + k * 5 + 4, none⟩) (by simp; omega)).trans c4
        clear c0 c1 c2 c3 c4
        have hne1 : bl ≠ w.heap.size := by omega
        have hne2 : bl ≠ w.heap.size + 1 := by omega
        have hne3 : bl ≠ w.heap.size + 1 + 1 := by omega
        have SC := marks_step (c := El.cC) Hlen.out Hv.out
        have SR := marks_step (c := El.cR) Hlen.out Hv.out
        have SB := marks_step (c := El.cB) Hlen.out Hv.out
        have AC := any_take (c := El.cC) Hv.out
        have AB := any_take (c := El.cB) Hv.out
        have eC : El.cC ⟨r, a, p, d, b⟩ = El.chief ⟨r, a, p, d, b⟩ := by simp [El.cC, hp]
        have eR : El.cR ⟨r, a, p, d, b⟩ = !El.chief ⟨r, a, p, d, b⟩ := by simp [El.cR, hp]
        have eB : El.cB ⟨r, a, p, d, b⟩ = (!El.chief ⟨r, a, p, d, b⟩ && El.backup ⟨r, a, p, d, b⟩) := by simp [El.cB, hp]
        rw [eC] at SC AC
        rw [eR] at SR
        rw [eB] at SB AB
        rw [← Hab.out.2] at AC
        rw [← Hab.out.1] at AB
        clear eC eR eB Hab hBC hBR hBB
        cases hch : El.chief ⟨r, a, p, d, b⟩
        · cases hbk : El.backup ⟨r, a, p, d, b⟩
          all_goals
            rw [hch] at SC AC SR SB AB
            rw [hbk] at SB AB
            have HC := Lib.hid SC
            have HR := Lib.hid SR
            have HB := Lib.hid SB
            have HAC := Lib.hid AC
            have HAB := Lib.hid AB
            have HCH := Lib.hid hch
            have HBK := Lib.hid hbk
            clear SC SR SB AC AB hch hbk
            have hch : El.chief ⟨r, a, p, d, b⟩ = false := HCH.out
            go_wp2_with fail
            clear hch
            refine (rbackup_any _ _ _ _ _ _).mono ?_
            rintro e w2 ⟨he, hb2⟩
            rw [HBK.out] at he
            subst he
            have hBC2 := ((hBC1.set_ k (.bool false)).far (p := ⟨w.heap.size + 1, k, none⟩) (by simp <;> omega) (.bool true)).below hb2 (by simp <;> omega)
            have hBR2 := ((hBR1.far (p := ⟨w.heap.size, k, none⟩) (by simp <;> omega) (.bool false)).set_ k (.bool true)).below hb2 (by simp <;> omega)
            have hBB2 := ((hBB1.far (p := ⟨w.heap.size, k, none⟩) (by simp <;> omega) (.bool false)).far (p := ⟨w.heap.size + 1, k, none⟩) (by simp <;> omega) (.bool true)).below hb2 (by simp <;> omega)
            have hbel2 := ((hbel1.setCell (p := ⟨w.heap.size, k, none⟩) (by simp <;> omega) (.bool false)).setCell (p := ⟨w.heap.size + 1, k, none⟩) (by simp <;> omega) (.bool true)).trans (hb2.mono (by simp <;> omega))
            have nB := (hBB2.cell k).trans (marks_at Hlen.out hlt)
            have gB := hBB2.frozen k
            have nC := (hBC2.cell k).trans (marks_set_at (x := .bool false) Hlen.out hlt)
            cases aB <;> cases aC
            all_goals
              go_wp2_with fail
              go_roundw
              case rel => exact ⟨k + 1, _, _, by omega, by go_num, rfl, rfl, ⟨by rw [HAB.out]; rfl, by rw [HAC.out]; rfl⟩, by rw [← HC.out]; exact hBC2.far (by simp <;> omega) _, by rw [← HR.out]; exact hBR2.far (by simp <;> omega) _, by rw [← HB.out]; exact hBB2.set_ k _, hbel2.setCell (by simp <;> omega) _⟩
              case measure => simp [intOf]; omega
        · rw [hch] at SC AC SR SB AB
          have HC := Lib.hid SC
          have HR := Lib.hid SR
          have HB := Lib.hid SB
          have HAC := Lib.hid AC
          have HAB := Lib.hid AB
          clear SC SR SB AC AB
          cases aB <;> cases aC
          all_goals
            go_wp2_with fail
            go_roundw
            case rel => exact ⟨k + 1, _, _, by omega, by go_num, rfl, rfl, ⟨by rw [HAB.out]; rfl, by rw [HAC.out]; rfl⟩, by rw [← HC.out]; exact ((hBC1.set_ k _).far (by simp <;> omega) _).far (by simp <;> omega) _, by rw [← HR.out]; exact ((hBR1.far (by simp <;> omega) _).set_ k _).far (by simp <;> omega) _, by rw [← HB.out]; exact ((hBB1.far (by simp <;> omega) _).far (by simp <;> omega) _).set_ k _, ((hbel1.setCell (by simp <;> omega) _).setCell (by simp <;> omega) _).setCell (by simp <;> omega) _⟩
            case measure => simp [intOf]; omega
    · obtain rfl : k = n := by omega
      have hz := hBB.lt
      have hsz : w.heap.size ≤ wr.heap.size := hbel.size
      have rd : ∀ (g : Nat) (c : El.V → Bool), Blk wr g 4 (marks c vs k k) → Reads wr wr.heap.size 1 (some ⟨g, 0, none⟩) k ((vs.map c).map Value.bool) := by
        intro g c h
        refine ⟨by simp; exact Hlen.out, fun _ => ⟨⟨g, 0, none⟩, rfl, h.lt, fun j u hu => ?_⟩⟩
        have e : (⟨g, 0, none⟩ : Addr).add j = ⟨g, j, none⟩ := by
          unfold Addr.add; split
          · rename_i h0; rw [h0]
          · simp
        rw [e, h.cell j, marks_done Hlen.out]
        simpa using hu
      have HrC := Lib.hid (rd _ _ hBC)
      have HrR := Lib.hid (rd _ _ hBR)
      have HrB := Lib.hid (rd _ _ hBB)
      have HrV := Lib.hid ((hr.below hbel).more hbel.size)
      have HAB : Hid ((El.best El.cB vs).isSome = aB ∧ (El.best El.cC vs).isSome = aC) := by
        have h1 := Hab.out.1
        have h2 := Hab.out.2
        rw [List.take_of_length_le (by have := Hlen.out; omega)] at h1 h2
        exact ⟨by rw [El.best_isSome, h1], by rw [El.best_isSome, h2]⟩
      clear rd hBC hBR hBB hr Hab
      go_wp2_with fail
      refine (first_any El.cR _ _ _ _ _ vs _ Hlen.out hn HrV.out HrR.out).mono ?_
      rintro e w1 ⟨rfl, q1, rfl⟩
      cases aB <;> cases aC
      · have hs : El.second vs = El.addr (El.best El.cR vs) := by simp [El.second, HAB.out.1]
        have ho : El.once vs = (El.second vs, El.second vs) := by simp [El.once, HAB.out.2]
        rw [hs] at ho
        have HO := Lib.hid ho
        clear hs ho
        go_wp2_with fail
        go_ret2
        exact ⟨ret_two (by rw [HO.out]), below_drewN hbel _⟩
      · have hs : El.second vs = El.addr (El.best El.cR vs) := by simp [El.second, HAB.out.1]
        have ho : El.once vs = (El.addr (El.best El.cC vs), El.second vs) := by simp [El.once, HAB.out.2]
        rw [hs] at ho
        have HO := Lib.hid ho
        clear hs ho
        go_wp2_with fail
        refine (first_any El.cC _ _ _ _ _ vs _ Hlen.out hn (HrV.out.drewN q1) (HrC.out.drewN q1)).mono ?_
        rintro e w2 ⟨rfl, q2, rfl⟩
        go_wp2_with fail
        go_ret2
        exact ⟨ret_two (by rw [HO.out]), below_drewN hbel _⟩
      · have hs : El.second vs = El.addr (El.best El.cB vs) := by simp [El.second, HAB.out.1]
        have ho : El.once vs = (El.second vs, El.second vs) := by simp [El.once, HAB.out.2]
        rw [hs] at ho
        have HO := Lib.hid ho
        clear hs ho
        go_wp2_with fail
        refine (first_any El.cB _ _ _ _ _ vs _ Hlen.out hn (HrV.out.drewN q1) (HrB.out.drewN q1)).mono ?_
        rintro e w2 ⟨rfl, q2, rfl⟩
        go_wp2_with fail
        go_ret2
        exact ⟨ret_two (by rw [HO.out]), below_drewN hbel _⟩
      · have hs : El.second vs = El.addr (El.best El.cB vs) := by simp [El.second, HAB.out.1]
        have ho : El.once vs = (El.addr (El.best El.cC vs), El.second vs) := by simp [El.once, HAB.out.2]
        rw [hs] at ho
        have HO := Lib.hid ho
        clear hs ho
        go_wp2_with fail
        refine (first_any El.cB _ _ _ _ _ vs _ Hlen.out hn (HrV.out.drewN q1) (HrB.out.drewN q1)).mono ?_
        rintro e w2 ⟨rfl, q2, rfl⟩
        go_wp2_with fail
        refine (first_any El.cC _ _ _ _ _ vs _ Hlen.out hn (HrV.out.drewN _) (HrC.out.drewN _)).mono ?_
        rintro e w3 ⟨rfl, q3, rfl⟩
        go_wp2_with fail
        go_ret2
        exact ⟨ret_two (by rw [HO.out]), below_drewN hbel _⟩

end Go.Proofs.Ytepliggmcpkmdaa
