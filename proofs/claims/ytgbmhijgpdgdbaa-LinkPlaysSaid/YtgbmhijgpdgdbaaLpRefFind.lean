/- The document's link: where a neighbour is; whether a router is named; a neighbour marked. -/
import Derived.Test.YtgbmhijgpdgdbaaLpRefLeaf
import Derived.Test.YtgbmhijgpdgdbaaLpSends
set_option maxHeartbeats 2000000
set_option maxRecDepth 20000
namespace Go.Proofs.Ytgbmhijgpdgdbaa
open Go.RowKit
theorem find_hit {c : LC} {f r : Int} {l : List Kn} {k : Nat} {x : Kn} (hx : l[k]? = some x) (hn : ∀ y ∈ l.take k, Pl.isAt c f r y = false) (h : Pl.isAt c f r x = true) : Pl.find c f r l = some k := by
  unfold Pl.find
  obtain ⟨hk, e⟩ := List.getElem?_eq_some_iff.1 hx
  rw [List.findIdx?_eq_some_iff_getElem]
  refine ⟨hk, by rw [e]; exact h, fun j hj => ?_⟩
  rw [hn _ (List.mem_take_iff_getElem.2 ⟨j, by omega, rfl⟩)]
  decide
theorem find_miss {c : LC} {f r : Int} {l : List Kn} (hn : ∀ y ∈ l, Pl.isAt c f r y = false) : Pl.find c f r l = none := by
  unfold Pl.find
  exact List.findIdx?_eq_none_iff.2 hn
theorem take_no {c : LC} {f r : Int} {l : List Kn} {k : Nat} {x : Kn} (hx : l[k]? = some x) (hn : ∀ y ∈ l.take k, Pl.isAt c f r y = false) (h : Pl.isAt c f r x = false) : ∀ y ∈ l.take (k + 1), Pl.isAt c f r y = false := by
  intro y hy
  rw [List.take_add_one, hx] at hy
  rcases List.mem_append.1 hy with e | e
  · exact hn y e
  · simp at e
    rw [e]
    exact h
section
variable {lo : Nat} {w : World} {R : Nat} {c : LC} {s : Pl.St} {v : Value}
theorem rfind_any (h : RAt lo w R c s v) (hty : c.ty ≤ 4) (hn : s.l.length ≤ 65536) (f r : Int) : Calls Try.prog 119 #[.pointer (some ⟨R, 0, none⟩), .int .u32 f, .int .u32 r] w fun e w' => e = .returned (.int .i64 (Pl.findI c f r s.l)) ∧ Below w.heap.size w w' := by
  obtain ⟨A, cp, rfl⟩ := own_slice h.o
  obtain ⟨n, hn'⟩ : ∃ n, s.l.length = n := ⟨_, rfl⟩
  have H := Lib.hid h
  have Hn := Lib.hid hn'
  have c0 : w.cell? ⟨R, 0, none⟩ = some (.int .u8 c.ty) := h.b.cell 0
  have c21 : w.cell? ⟨R, 21, none⟩ = some (.slice A s.l.length cp) := h.b.cell 21
  rw [hn'] at c21 hn
  have hlt := h.b.lt
  clear h hn'
  have h34 : c.ty = 3 ∨ c.ty = 4 ∨ (¬ 3 ≤ c.ty ∧ (c.ty == 3) = false ∧ (c.ty == 4) = false) := by
    by_cases h3 : c.ty = 3
    · exact .inl h3
    · by_cases h4 : c.ty = 4
      · exact .inr (.inl h4)
      · exact .inr (.inr ⟨by omega, by simp [h3], by simp [h4]⟩)
  rcases h34 with ht | ht | ⟨ht, e3, e4⟩
  · have HT : Hid (3 ≤ c.ty) := Lib.hid (by omega)
    rw [ht] at c0
    clear ht hty
    go_enter Try.func119, Try.ntmps119
    go_wp2_with fail
    go_loopw [7] (fun i wr => ∃ k : Nat, k ≤ n ∧ i = .int .i64 k ∧ wr = w ∧ Hid (∀ y ∈ s.l.take k, Pl.isAt c f r y = false)) (fun i _ => n - (intOf i).toNat)
    case atStart => exact ⟨0, Nat.zero_le _, rfl, rfl, Lib.hid (by simp)⟩
    case round =>
      obtain ⟨k, hk, rfl, rfl, HI⟩ := hrel
      by_cases hlt2 : k < n
      · obtain ⟨x, hx⟩ : ∃ x, s.l[k]? = some x := ⟨_, List.getElem?_eq_getElem (by rw [Hn.out]; exact hlt2)⟩
        obtain ⟨b, n', cap, e, hn2, hb, hc⟩ := H.out.o.knb hx
        cases e
        have q : wr.cell? ⟨b, k * 9, none⟩ = some (.int .u32 x.ro) := hc 0 _ rfl
        have Hx := Lib.hid hx
        have hkn : (k : Int) < (n : Int) := by omega
        clear hx hn2 hc
        rcases hq : (x.ro == r) with _ | _
        · have HN : Hid (∀ y ∈ s.l.take (k + 1), Pl.isAt c f r y = false) := Lib.hid (take_no Hx.out HI.out (by unfold Pl.isAt; rw [if_pos HT.out]; exact hq))
          go_wp2_with fail
          go_roundw
          case rel => exact ⟨k + 1, by omega, by simp, trivial, HN⟩
          case measure => simp [intOf]; omega
        · have HF : Hid (Pl.findI c f r s.l = (k : Int)) := Lib.hid (by unfold Pl.findI; rw [find_hit Hx.out HI.out (by unfold Pl.isAt; rw [if_pos HT.out]; exact hq)])
          go_wp2_with fail
          go_ret
          exact ⟨by rw [HF.out]; rfl, Below.refl _ _⟩
      · obtain rfl : k = n := by omega
        have HF : Hid (Pl.findI c f r s.l = -1) := Lib.hid (by unfold Pl.findI; rw [find_miss (fun y hy => HI.out y (by rw [List.take_of_length_le (by rw [Hn.out]; exact Nat.le_refl _)]; exact hy))])
        go_wp2_with fail
        go_ret
        exact ⟨by rw [HF.out]; rfl, Below.refl _ _⟩
  · have HT : Hid (3 ≤ c.ty) := Lib.hid (by omega)
    rw [ht] at c0
    clear ht hty
    go_enter Try.func119, Try.ntmps119
    go_wp2_with fail
    go_loopw [7] (fun i wr => ∃ k : Nat, k ≤ n ∧ i = .int .i64 k ∧ wr = w ∧ Hid (∀ y ∈ s.l.take k, Pl.isAt c f r y = false)) (fun i _ => n - (intOf i).toNat)
    case atStart => exact ⟨0, Nat.zero_le _, rfl, rfl, Lib.hid (by simp)⟩
    case round =>
      obtain ⟨k, hk, rfl, rfl, HI⟩ := hrel
      by_cases hlt2 : k < n
      · obtain ⟨x, hx⟩ : ∃ x, s.l[k]? = some x := ⟨_, List.getElem?_eq_getElem (by rw [Hn.out]; exact hlt2)⟩
        obtain ⟨b, n', cap, e, hn2, hb, hc⟩ := H.out.o.knb hx
        cases e
        have q : wr.cell? ⟨b, k * 9, none⟩ = some (.int .u32 x.ro) := hc 0 _ rfl
        have Hx := Lib.hid hx
        have hkn : (k : Int) < (n : Int) := by omega
        clear hx hn2 hc
        rcases hq : (x.ro == r) with _ | _
        · have HN : Hid (∀ y ∈ s.l.take (k + 1), Pl.isAt c f r y = false) := Lib.hid (take_no Hx.out HI.out (by unfold Pl.isAt; rw [if_pos HT.out]; exact hq))
          go_wp2_with fail
          go_roundw
          case rel => exact ⟨k + 1, by omega, by simp, trivial, HN⟩
          case measure => simp [intOf]; omega
        · have HF : Hid (Pl.findI c f r s.l = (k : Int)) := Lib.hid (by unfold Pl.findI; rw [find_hit Hx.out HI.out (by unfold Pl.isAt; rw [if_pos HT.out]; exact hq)])
          go_wp2_with fail
          go_ret
          exact ⟨by rw [HF.out]; rfl, Below.refl _ _⟩
      · obtain rfl : k = n := by omega
        have HF : Hid (Pl.findI c f r s.l = -1) := Lib.hid (by unfold Pl.findI; rw [find_miss (fun y hy => HI.out y (by rw [List.take_of_length_le (by rw [Hn.out]; exact Nat.le_refl _)]; exact hy))])
        go_wp2_with fail
        go_ret
        exact ⟨by rw [HF.out]; rfl, Below.refl _ _⟩
  · have HT := Lib.hid ht
    clear ht hty
    go_enter Try.func119, Try.ntmps119
    go_wp2_with fail
    go_loopw [7] (fun i wr => ∃ k : Nat, k ≤ n ∧ i = .int .i64 k ∧ wr = w ∧ Hid (∀ y ∈ s.l.take k, Pl.isAt c f r y = false)) (fun i _ => n - (intOf i).toNat)
    case atStart => exact ⟨0, Nat.zero_le _, rfl, rfl, Lib.hid (by simp)⟩
    case round =>
      obtain ⟨k, hk, rfl, rfl, HI⟩ := hrel
      by_cases hlt2 : k < n
      · obtain ⟨x, hx⟩ : ∃ x, s.l[k]? = some x := ⟨_, List.getElem?_eq_getElem (by rw [Hn.out]; exact hlt2)⟩
        obtain ⟨b, n', cap, e, hn2, hb, hc⟩ := H.out.o.knb hx
        cases e
        have q : wr.cell? ⟨b, k * 9 + 1, none⟩ = some (.int .u32 x.ad) := hc 1 _ rfl
        have Hx := Lib.hid hx
        have hkn : (k : Int) < (n : Int) := by omega
        clear hx hn2 hc
        rcases hq : (x.ad == f) with _ | _
        · have HN : Hid (∀ y ∈ s.l.take (k + 1), Pl.isAt c f r y = false) := Lib.hid (take_no Hx.out HI.out (by unfold Pl.isAt; rw [if_neg (by have := HT.out; omega)]; exact hq))
          go_wp2_with fail
          go_roundw
          case rel => exact ⟨k + 1, by omega, by simp, trivial, HN⟩
          case measure => simp [intOf]; omega
        · have HF : Hid (Pl.findI c f r s.l = (k : Int)) := Lib.hid (by unfold Pl.findI; rw [find_hit Hx.out HI.out (by unfold Pl.isAt; rw [if_neg (by have := HT.out; omega)]; exact hq)])
          go_wp2_with fail
          go_ret
          exact ⟨by rw [HF.out]; rfl, Below.refl _ _⟩
      · obtain rfl : k = n := by omega
        have HF : Hid (Pl.findI c f r s.l = -1) := Lib.hid (by unfold Pl.findI; rw [find_miss (fun y hy => HI.out y (by rw [List.take_of_length_le (by rw [Hn.out]; exact Nat.le_refl _)]; exact hy))])
        go_wp2_with fail
        go_ret
        exact ⟨by rw [HF.out]; rfl, Below.refl _ _⟩
theorem rnames_any (w : World) (h : Pl.Hel) (u : Value) (r : Int) (hu : WordsAt w u h.nb) : Calls Try.prog 121 #[hval h u, .int .u32 r] w fun e w' => e = .returned (.bool (decide (r ∈ h.nb))) ∧ Below w.heap.size w w' := by
  obtain ⟨A, n, cp, rfl, h1, h2, h3⟩ := hu
  obtain ⟨w1, hw1⟩ : ∃ w1, w1 = w.alloc (.cells #[.int .u32 h.ma, .int .u16 h.hi, .int .u8 h.op, .int .u8 h.pr, .int .u32 h.dd, .int .u32 h.dr, .int .u32 h.bd, .slice A n cp] 90) := ⟨_, rfl⟩
  have hb1 : Below w.heap.size w w1 := by rw [hw1]; exact (Below.refl _ w).alloc (Nat.le_refl _) _
  have k1 : Blk w1 w.heap.size 90 #[.int .u32 h.ma, .int .u16 h.hi, .int .u8 h.op, .int .u8 h.pr, .int .u32 h.dd, .int .u32 h.dr, .int .u32 h.bd, .slice A n cp] := by rw [hw1]; exact Blk.new w _ _
  have q7 : w1.cell? ⟨w.heap.size, 7, none⟩ = some (.slice A n cp) := k1.cell 7
  have hl := k1.lt
  have HB := Lib.hid hb1
  have HR := Lib.hid (h3.below hb1)
  have H1 := Lib.hid h1
  unfold hval
  clear hb1 k1 h3 h1
  go_enter Try.func121, Try.ntmps121
  go_upto_region 1 with fail
  rw [← hw1]
  clear hw1
  go_wp2_with fail
  go_loopw [5] (fun i wr => ∃ k : Nat, k ≤ n ∧ i = .int .i64 k ∧ wr = w1 ∧ Hid (∀ y ∈ h.nb.take k, y ≠ r)) (fun i _ => n - (intOf i).toNat)
  case atStart => exact ⟨0, Nat.zero_le _, rfl, rfl, Lib.hid (by simp)⟩
  case round =>
    obtain ⟨k, hk, rfl, rfl, HI⟩ := hrel
    by_cases hlt2 : k < n
    · obtain ⟨x, hx⟩ : ∃ x, h.nb[k]? = some x := ⟨_, List.getElem?_eq_getElem (by rw [H1.out]; exact hlt2)⟩
      obtain ⟨b, off, hA, hb, hc⟩ := HR.out.word hx
      subst hA
      have hblt : b < wr.heap.size := Nat.lt_of_lt_of_le hb HB.out.size
      have Hx := Lib.hid hx
      have hkn : (k : Int) < (n : Int) := by omega
      clear hx hb
      rcases hq : (x == r) with _ | _
      · have HN : Hid (∀ y ∈ h.nb.take (k + 1), y ≠ r) := Lib.hid (fun y hy => by
          rw [List.take_add_one, Hx.out] at hy
          rcases List.mem_append.1 hy with e | e
          · exact HI.out y e
          · simp at e
            rw [e]
            simpa using hq)
        go_wp2_with fail
        go_roundw
        case rel => exact ⟨k + 1, by omega, by simp, trivial, HN⟩
        case measure => simp [intOf]; omega
      · have HF : Hid (decide (r ∈ h.nb) = true) := Lib.hid (decide_eq_true ((beq_iff_eq.1 hq) ▸ List.mem_of_getElem? Hx.out))
        go_wp2_with fail
        go_ret
        exact ⟨by rw [HF.out]; rfl, HB.out⟩
    · obtain rfl : k = n := by omega
      have HF : Hid (decide (r ∈ h.nb) = false) := Lib.hid (decide_eq_false (fun hm => HI.out r (by rw [List.take_of_length_le (by rw [H1.out]; exact Nat.le_refl _)]; exact hm) rfl))
      go_wp2_with fail
      go_ret
      exact ⟨by rw [HF.out]; rfl, HB.out⟩
theorem mark_split {a : Int} {b : Bool} {l : List Kn} {k : Nat} {x : Kn} (hx : l[k]? = some x) : Pl.markL a b (l.take (k + 1)) ++ l.drop (k + 1) = (Pl.markL a b (l.take k) ++ l.drop k).set k (if x.ad = a ∧ Pl.two x = true then { x with fu := b } else x) := by
  obtain ⟨hk, e⟩ := List.getElem?_eq_some_iff.1 hx
  have hlen : (Pl.markL a b (l.take k)).length = k := by simp [Pl.markL]; omega
  rw [List.set_append_right _ _ (by omega), hlen, Nat.sub_self, List.drop_eq_getElem_cons hk, List.set_cons_zero, List.take_add_one, hx]
  simp [Pl.markL]
theorem mark_at {a : Int} {b : Bool} {l : List Kn} {k : Nat} {x : Kn} (hx : l[k]? = some x) : (Pl.markL a b (l.take k) ++ l.drop k)[k]? = some x := by
  obtain ⟨hk, e⟩ := List.getElem?_eq_some_iff.1 hx
  have hlen : (Pl.markL a b (l.take k)).length = k := by simp [Pl.markL]; omega
  rw [List.getElem?_append_right (by omega), hlen, Nat.sub_self, List.getElem?_drop]
  simpa using hx
theorem rmark_any (h : RAt lo w R c s v) (hn : s.l.length ≤ 65536) (a : Int) (b : Bool) : Calls Try.prog 84 #[.pointer (some ⟨R, 0, none⟩), .int .u32 a, .bool b] w fun e w' => e = .returned (.tuple #[]) ∧ RAt lo w' R c { s with l := Pl.markL a b s.l } v ∧ RFr lo w w' := by
  obtain ⟨A, cp, rfl⟩ := own_slice h.o
  obtain ⟨n, hn'⟩ : ∃ n, s.l.length = n := ⟨_, rfl⟩
  have Hn := Lib.hid hn'
  have H0 : Hid (RAt lo w R c { s with l := Pl.markL a b (s.l.take 0) ++ s.l.drop 0 } (.slice A n cp)) := Lib.hid (by rw [← hn']; exact h)
  rw [hn'] at hn
  clear h hn'
  go_enter Try.func84, Try.ntmps84
  go_wp2_with fail
  go_loopw [6] (fun i wr => ∃ k : Nat, k ≤ n ∧ i = .int .i64 k ∧ Hid (RAt lo wr R c { s with l := Pl.markL a b (s.l.take k) ++ s.l.drop k } (.slice A n cp)) ∧ Hid (RFr lo w wr)) (fun i _ => n - (intOf i).toNat)
  case atStart => exact ⟨0, Nat.zero_le _, rfl, H0, Lib.hid (RFr.refl _ _)⟩
  case round =>
    clear H0
    obtain ⟨k, hk, rfl, HR, HF⟩ := hrel
    have c21 : wr.cell? ⟨R, 21, none⟩ = some (.slice A n cp) := HR.out.b.cell 21
    have hlt := HR.out.b.lt
    by_cases hlt2 : k < n
    · obtain ⟨x, hx⟩ : ∃ x, s.l[k]? = some x := ⟨_, List.getElem?_eq_getElem (by rw [Hn.out]; exact hlt2)⟩
      obtain ⟨bb, n', cap, e, hn2, hb, hc⟩ := HR.out.o.knb (mark_at (a := a) (b := b) hx)
      cases e
      have q1 : wr.cell? ⟨bb, k * 9 + 1, none⟩ = some (.int .u32 x.ad) := hc 1 _ rfl
      have q2 : wr.cell? ⟨bb, k * 9 + 2, none⟩ = some (.int .u8 x.st) := hc 2 _ rfl
      have q8 : wr.cell? ⟨bb, k * 9 + 8, none⟩ = some (.bool x.fu) := hc 8 _ rfl
      have Hx := Lib.hid hx
      have hkn : (k : Int) < (n : Int) := by omega
      have fz := HR.out.o.frozen.1
      clear hx hn2 hc
      have hstay : (¬ (x.ad = a ∧ Pl.two x = true)) → Hid (RAt lo wr R c { s with l := Pl.markL a b (s.l.take (k + 1)) ++ s.l.drop (k + 1) } (.slice (some ⟨bb, 0, none⟩) n cp)) := fun hno => Lib.hid (by
        rw [mark_split Hx.out, if_neg hno]
        have hsame : (Pl.markL a b (s.l.take k) ++ s.l.drop k).set k x = Pl.markL a b (s.l.take k) ++ s.l.drop k := by
          have hm := mark_at (a := a) (b := b) Hx.out
          apply List.ext_getElem?
          intro j
          rw [List.getElem?_set]
          split
          · rename_i e
            subst e
            split
            · exact hm.symm
            · rename_i hl; exact absurd (List.getElem?_eq_some_iff.1 hm).1 hl
          · rfl
        rw [hsame]
        exact HR.out)
      have HStay := Lib.hid hstay
      clear hstay
      rcases ha : (x.ad == a) with _ | _
      · have HR2 := HStay.out (fun e => by rw [e.1] at ha; simp at ha)
        clear HStay
        go_wp2_with fail
        go_roundw
        case rel => exact ⟨k + 1, by omega, by simp, HR2, HF⟩
        case measure => simp [intOf]; omega
      · rcases h3 : (x.st == 3) with _ | _
        · have HR2 := HStay.out (fun e => by have := e.2; unfold Pl.two at this; rw [h3] at this; cases this)
          clear HStay
          go_wp2_with fail
          go_roundw
          case rel => exact ⟨k + 1, by omega, by simp, HR2, HF⟩
          case measure => simp [intOf]; omega
        · have HR2 : Hid (RAt lo (wr.setCell ⟨bb, k * 9 + 8, none⟩ (.bool b)) R c { s with l := Pl.markL a b (s.l.take (k + 1)) ++ s.l.drop (k + 1) } (.slice (some ⟨bb, 0, none⟩) n cp) ∧ RFr lo w (wr.setCell ⟨bb, k * 9 + 8, none⟩ (.bool b))) := Lib.hid (by
            have hR := HR.out
            have hne := hR.row_ne
            rw [mark_split Hx.out, if_pos ⟨by simpa using ha, h3⟩]
            refine ⟨⟨hR.loR, hR.b.far (p := ⟨bb, k * 9 + 8, none⟩) (fun e => hne e.symm) _, hR.o.set1 (mark_at (a := a) (b := b) Hx.out) rfl (by decide)⟩, HF.out.trans (RFr.ofRow hR.o ((Frame.refl _ wr).setB _ _))⟩)
          clear HStay HR HF
          go_wp2_with fail
          go_roundw
          case rel => exact ⟨k + 1, by omega, by simp, Lib.hid HR2.out.1, Lib.hid HR2.out.2⟩
          case measure => simp [intOf]; omega
    · obtain rfl : k = n := by omega
      have HE : Hid (RAt lo wr R c { s with l := Pl.markL a b s.l } (.slice A k cp)) := Lib.hid (by
        have := HR.out
        rw [List.take_of_length_le (by rw [Hn.out]; exact Nat.le_refl _), List.drop_of_length_le (by rw [Hn.out]; exact Nat.le_refl _), List.append_nil] at this
        exact this)
      clear HR
      go_wp2_with fail
      rw [← Hn.out] at HE
      refine bodyPost_end (v := .tuple #[]) (by simp [results, Try.results84, go_sem]) rfl ⟨rfl, HE.out, HF.out⟩
end
end Go.Proofs.Ytgbmhijgpdgdbaa
