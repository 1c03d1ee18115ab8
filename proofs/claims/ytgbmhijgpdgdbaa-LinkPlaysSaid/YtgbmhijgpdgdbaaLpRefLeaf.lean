/- The document's link: what its methods ask of one neighbour; where one is. -/
import Derived.Test.YtgbmhijgpdgdbaaLpRefAt
set_option maxHeartbeats 2000000
set_option maxRecDepth 20000
namespace Go.Proofs.Ytgbmhijgpdgdbaa
open Go.RowKit
theorem rshared_any (c : LC) (w : World) : Calls Try.prog 113 #[.agg c.cells] w fun e w' => e = .returned (.bool c.shared) ∧ Below w.heap.size w w' := by
  obtain ⟨ty, ro, na, nb, ad, op, hi, dd, po, pr, dm, ps, pe, rm⟩ := c
  unfold LC.cells LC.shared
  dsimp only
  by_cases h1 : ty = 0
  · subst h1
    go_enter Try.func113, Try.ntmps113
    go_wp2_with fail
    go_ret
    exact ⟨rfl, (Below.refl _ _).alloc (Nat.le_refl _) _⟩
  · go_enter Try.func113, Try.ntmps113
    go_wp2_with fail
    go_ret
    exact ⟨by simp, (Below.refl _ _).alloc (Nat.le_refl _) _⟩
theorem drewQ2 (w : World) (q : Nat) : Below w.heap.size w (w.drewN q) := ⟨rfl, rfl, rfl, Nat.le_refl _, fun _ _ => rfl⟩
section
variable {w : World} {R : Nat} {c : LC} {s : Pl.St} {v : Value}
theorem rstill_any (h : RBlk w R c s v) (k : Kn) : Calls Try.prog 115 #[.pointer (some ⟨R, 0, none⟩), rval k] w fun e w' => e = .returned (.bool (Pl.still c k)) ∧ Below w.heap.size w w' := by
  have c10 : w.cell? ⟨R, 10, none⟩ = some (.bool c.dm) := h.cell 10
  have hlt := h.lt
  clear h
  obtain ⟨ro, ad, st, pr, dr, bd, op, lf, wa, fu⟩ := k
  unfold rval Pl.still
  dsimp only
  have HB : Hid (Below w.heap.size w (w.alloc (.cells #[.int .u32 ro, .int .u32 ad, .int .u8 st, .int .u8 pr, .int .u32 dr, .int .u32 bd, .int .u8 op, .int .u32 lf, .bool fu] 157))) := Lib.hid ((Below.refl _ w).alloc (Nat.le_refl _) _)
  obtain ⟨dm, hdm⟩ : ∃ d, d = c.dm := ⟨_, rfl⟩
  rw [← hdm] at c10 ⊢
  clear hdm
  rcases dm with _ | _
  · go_enter Try.func115, Try.ntmps115
    go_wp2_with fail
    go_ret
    exact ⟨rfl, HB.out⟩
  · rcases fu with _ | _
    · go_enter Try.func115, Try.ntmps115
      go_wp2_with fail
      go_ret
      exact ⟨rfl, HB.out⟩
    · rcases ho : (bits .and .u8 op 32 != 0) with _ | _
      · go_enter Try.func115, Try.ntmps115
        go_wp2_with fail
        go_ret
        exact ⟨rfl, HB.out⟩
      · go_enter Try.func115, Try.ntmps115
        go_wp2_with fail
        go_ret
        exact ⟨by simp, HB.out⟩
theorem rdue_any (h : RBlk w R c s v) (k : Kn) (pb : Bool) (h6 : s.st ≤ 6) (hp0 : 0 ≤ c.pr) : Calls Try.prog 133 #[.pointer (some ⟨R, 0, none⟩), rval k, .bool pb] w fun e w' => e = .returned (.bool (Pl.due c s pb k)) ∧ Below w.heap.size w w' := by
  have c0 : w.cell? ⟨R, 0, none⟩ = some (.int .u8 c.ty) := h.cell 0
  have c9 : w.cell? ⟨R, 9, none⟩ = some (.int .u8 c.pr) := h.cell 9
  have c14 : w.cell? ⟨R, 14, none⟩ = some (.int .u8 s.st) := h.cell 14
  have c15 : w.cell? ⟨R, 15, none⟩ = some (.int .u32 s.dr) := h.cell 15
  have c16 : w.cell? ⟨R, 16, none⟩ = some (.int .u32 s.bd) := h.cell 16
  have hlt := h.lt
  clear h
  obtain ⟨ro, ad, st, pr, dr, bd, op, lf, wa, fu⟩ := k
  unfold rval Pl.due
  dsimp only
  obtain ⟨sst, hsst⟩ : ∃ x, x = s.st := ⟨_, rfl⟩
  obtain ⟨sdr, hsdr⟩ : ∃ x, x = s.dr := ⟨_, rfl⟩
  obtain ⟨sbd, hsbd⟩ : ∃ x, x = s.bd := ⟨_, rfl⟩
  rw [← hsst, ← hsdr, ← hsbd]
  rw [← hsst] at c14 h6
  rw [← hsdr] at c15
  rw [← hsbd] at c16
  clear hsst hsdr hsbd
  have HB : Hid (Below w.heap.size w (w.alloc (.cells #[.int .u32 ro, .int .u32 ad, .int .u8 st, .int .u8 pr, .int .u32 dr, .int .u32 bd, .int .u8 op, .int .u32 lf, .bool fu] 157))) := Lib.hid ((Below.refl _ w).alloc (Nat.le_refl _) _)
  rcases pb with _ | _
  · rcases h0 : (st == 0) with _ | _
    · by_cases ht : c.ty = 2
      · have HV : Hid (dueV c sst sdr sbd false st ad pr = true) := Lib.hid (by unfold dueV; rw [h0]; simp [ht])
        rw [HV.out]
        rw [ht] at c0
        clear ht
        go_enter Try.func133, Try.ntmps133
        go_wp2_with fail
        all_goals
          go_ret
          exact ⟨rfl, HB.out⟩
      · have e2 : (c.ty == 2) = false := by simp [ht]
        by_cases hp : c.pr = 0
        · have HV : Hid (dueV c sst sdr sbd false st ad pr = ((ad == sdr) || (ad == sbd))) := Lib.hid (by unfold dueV; rw [h0, e2]; simp [hp])
          rw [HV.out]
          rw [hp] at c9
          clear hp hp0 ht
          rcases hs6 : (sst == 6) with _ | _
          · rcases ha : (ad == sdr) with _ | _
            · go_enter Try.func133, Try.ntmps133
              go_wp2_with fail
              go_quiet (fail)
              go_wp2_with fail
              go_ret
              exact ⟨by simp, HB.out.trans ((drewQ2 _ _).mono HB.out.size)⟩
            · go_enter Try.func133, Try.ntmps133
              go_wp2_with fail
              go_quiet (fail)
              go_wp2_with fail
              go_ret
              exact ⟨by simp, HB.out.trans ((drewQ2 _ _).mono HB.out.size)⟩
          · rcases ha : (ad == sdr) with _ | _
            · go_enter Try.func133, Try.ntmps133
              go_wp2_with fail
              go_quiet (fail)
              go_wp2_with fail
              go_ret
              exact ⟨by simp, HB.out.trans ((drewQ2 _ _).mono HB.out.size)⟩
            · go_enter Try.func133, Try.ntmps133
              go_wp2_with fail
              go_quiet (fail)
              go_wp2_with fail
              go_ret
              exact ⟨by simp, HB.out.trans ((drewQ2 _ _).mono HB.out.size)⟩
        · have d2 : decide (0 < c.pr) = true := decide_eq_true (by omega)
          have h5 : decide (5 ≤ sst) = ((sst == 6) || (sst == 5)) := by
            by_cases h5 : sst = 5
            · rw [h5]; decide
            · by_cases h6' : sst = 6
              · rw [h6']; decide
              · have : ¬ 5 ≤ sst := by omega
                simp [h5, h6', this]
          have HV : Hid (dueV c sst sdr sbd false st ad pr = (decide (0 < pr) || ((sst == 6) || (sst == 5)))) := Lib.hid (by unfold dueV; rw [h0, e2, ← h5]; simp [hp])
          rw [HV.out]
          clear hp hp0 ht h5 h6
          rcases hk : decide (0 < pr) with _ | _
          · rcases hs6 : (sst == 6) with _ | _
            · rcases ha : (ad == sdr) with _ | _
              · go_enter Try.func133, Try.ntmps133
                go_wp2_with fail
                go_quiet (fail)
                go_wp2_with fail
                go_ret
                exact ⟨by simp, HB.out.trans ((drewQ2 _ _).mono HB.out.size)⟩
              · go_enter Try.func133, Try.ntmps133
                go_wp2_with fail
                go_quiet (fail)
                go_wp2_with fail
                go_ret
                exact ⟨by simp, HB.out.trans ((drewQ2 _ _).mono HB.out.size)⟩
            · rcases ha : (ad == sdr) with _ | _
              · go_enter Try.func133, Try.ntmps133
                go_wp2_with fail
                go_quiet (fail)
                go_wp2_with fail
                go_ret
                exact ⟨by simp, HB.out.trans ((drewQ2 _ _).mono HB.out.size)⟩
              · go_enter Try.func133, Try.ntmps133
                go_wp2_with fail
                go_quiet (fail)
                go_wp2_with fail
                go_ret
                exact ⟨by simp, HB.out.trans ((drewQ2 _ _).mono HB.out.size)⟩
          · rcases hs6 : (sst == 6) with _ | _
            · rcases ha : (ad == sdr) with _ | _
              · go_enter Try.func133, Try.ntmps133
                go_wp2_with fail
                go_quiet (fail)
                go_wp2_with fail
                go_ret
                exact ⟨by simp, HB.out.trans ((drewQ2 _ _).mono HB.out.size)⟩
              · go_enter Try.func133, Try.ntmps133
                go_wp2_with fail
                go_quiet (fail)
                go_wp2_with fail
                go_ret
                exact ⟨by simp, HB.out.trans ((drewQ2 _ _).mono HB.out.size)⟩
            · rcases ha : (ad == sdr) with _ | _
              · go_enter Try.func133, Try.ntmps133
                go_wp2_with fail
                go_quiet (fail)
                go_wp2_with fail
                go_ret
                exact ⟨by simp, HB.out.trans ((drewQ2 _ _).mono HB.out.size)⟩
              · go_enter Try.func133, Try.ntmps133
                go_wp2_with fail
                go_quiet (fail)
                go_wp2_with fail
                go_ret
                exact ⟨by simp, HB.out.trans ((drewQ2 _ _).mono HB.out.size)⟩
    · have HV : Hid (dueV c sst sdr sbd false st ad pr = false) := Lib.hid (by unfold dueV; rw [h0]; rfl)
      rw [HV.out]
      go_enter Try.func133, Try.ntmps133
      go_wp2_with fail
      all_goals
        go_ret
        exact ⟨rfl, HB.out⟩
  · rcases h0 : (st == 0) with _ | _
    · have HV : Hid (dueV c sst sdr sbd true st ad pr = false) := Lib.hid (by unfold dueV; rw [h0]; rfl)
      rw [HV.out]
      go_enter Try.func133, Try.ntmps133
      go_wp2_with fail
      all_goals
        go_ret
        exact ⟨rfl, HB.out⟩
    · by_cases ht : c.ty = 2
      · have HV : Hid (dueV c sst sdr sbd true st ad pr = true) := Lib.hid (by unfold dueV; rw [h0]; simp [ht])
        rw [HV.out]
        rw [ht] at c0
        clear ht
        go_enter Try.func133, Try.ntmps133
        go_wp2_with fail
        all_goals
          go_ret
          exact ⟨rfl, HB.out⟩
      · have e2 : (c.ty == 2) = false := by simp [ht]
        have HV : Hid (dueV c sst sdr sbd true st ad pr = (decide (0 < c.pr) && decide (0 < pr))) := Lib.hid (by unfold dueV; rw [h0, e2]; simp)
        rw [HV.out]
        clear ht h6 hp0
        rcases hp : decide (0 < c.pr) with _ | _
        · go_enter Try.func133, Try.ntmps133
          go_wp2_with fail
          all_goals
            go_ret
            exact ⟨by simp, HB.out⟩
        · go_enter Try.func133, Try.ntmps133
          go_wp2_with fail
          all_goals
            go_ret
            exact ⟨by simp, HB.out⟩
theorem rwanted_any (h : RBlk w R c s v) (k : Kn) : Calls Try.prog 85 #[.pointer (some ⟨R, 0, none⟩), rval k] w fun e w' => e = .returned (.bool (Pl.wanted c s k)) ∧ Below w.heap.size w w' := by
  obtain ⟨w1, hw1⟩ : ∃ w1, w1 = w.alloc (.cells #[.int .u32 k.ro, .int .u32 k.ad, .int .u8 k.st, .int .u8 k.pr, .int .u32 k.dr, .int .u32 k.bd, .int .u8 k.op, .int .u32 k.lf, .bool k.fu] 157) := ⟨_, rfl⟩
  have hb1 : Below w.heap.size w w1 := by rw [hw1]; exact (Below.refl _ w).alloc (Nat.le_refl _) _
  have k1 : Blk w1 w.heap.size 157 #[.int .u32 k.ro, .int .u32 k.ad, .int .u8 k.st, .int .u8 k.pr, .int .u32 k.dr, .int .u32 k.bd, .int .u8 k.op, .int .u32 k.lf, .bool k.fu] := by rw [hw1]; exact Blk.new w _ _
  have h1 := h.below hb1 h.lt
  have HB := Lib.hid hb1
  have H1 := Lib.hid h1
  have K1 := Lib.hid k1
  have HSh : Hid (Calls Try.prog 113 #[.agg #[.int .u8 c.ty, .int .u32 c.ro, .int .u32 c.na, .int .u8 c.nb, .int .u32 c.ad, .int .u8 c.op, .int .u16 c.hi, .int .u32 c.dd, .int .u16 c.po, .int .u8 c.pr, .bool c.dm, .bool c.ps, c.pe, .int .u32 c.rm]] w1 fun e w' => e = .returned (.bool c.shared) ∧ Below w1.heap.size w1 w') := Lib.hid (rshared_any c w1)
  have c0 : w1.cell? ⟨R, 0, none⟩ = some (.int .u8 c.ty) := h1.cell 0
  have c1 : w1.cell? ⟨R, 1, none⟩ = some (.int .u32 c.ro) := h1.cell 1
  have c2 : w1.cell? ⟨R, 2, none⟩ = some (.int .u32 c.na) := h1.cell 2
  have c3 : w1.cell? ⟨R, 3, none⟩ = some (.int .u8 c.nb) := h1.cell 3
  have c4 : w1.cell? ⟨R, 4, none⟩ = some (.int .u32 c.ad) := h1.cell 4
  have c5 : w1.cell? ⟨R, 5, none⟩ = some (.int .u8 c.op) := h1.cell 5
  have c6 : w1.cell? ⟨R, 6, none⟩ = some (.int .u16 c.hi) := h1.cell 6
  have c7 : w1.cell? ⟨R, 7, none⟩ = some (.int .u32 c.dd) := h1.cell 7
  have c8 : w1.cell? ⟨R, 8, none⟩ = some (.int .u16 c.po) := h1.cell 8
  have c9 : w1.cell? ⟨R, 9, none⟩ = some (.int .u8 c.pr) := h1.cell 9
  have c10 : w1.cell? ⟨R, 10, none⟩ = some (.bool c.dm) := h1.cell 10
  have c11 : w1.cell? ⟨R, 11, none⟩ = some (.bool c.ps) := h1.cell 11
  have c12 : w1.cell? ⟨R, 12, none⟩ = some (c.pe) := h1.cell 12
  have c13 : w1.cell? ⟨R, 13, none⟩ = some (.int .u32 c.rm) := h1.cell 13
  have q2 : w1.cell? ⟨w.heap.size, 2, none⟩ = some (.int .u8 k.st) := k1.cell 2
  have hl := h1.lt
  have hlw := k1.lt
  have HV : Hid (Pl.wanted c s k = ((k.st == 3) && (!c.shared || (decide (5 ≤ s.st) || ((s.st == 4) && ((k.ad == s.dr) || (k.ad == s.bd))))))) := Lib.hid rfl
  rw [HV.out]
  unfold rval
  obtain ⟨sst, hsst⟩ : ∃ x, x = s.st := ⟨_, rfl⟩
  have HSst := Lib.hid hsst
  rw [← hsst]
  clear hsst
  rcases h3 : (k.st == 3) with _ | _
  · clear h h1 k1 hb1
    go_enter Try.func85, Try.ntmps85
    go_upto_region 1 with fail
    rw [← hw1]
    clear hw1
    go_wp2_with fail
    go_ret
    exact ⟨rfl, HB.out⟩
  · clear h h1 k1 hb1
    go_enter Try.func85, Try.ntmps85
    go_upto_region 1 with fail
    rw [← hw1]
    clear hw1
    go_wp2_with fail
    refine HSh.out.mono ?_
    rintro e w2 ⟨rfl, hb2⟩
    have h2 := H1.out.below hb2 H1.out.lt
    have k2 := K1.out.below hb2 K1.out.lt
    have e14 : w2.cell? ⟨R, 14, none⟩ = some (.int .u8 s.st) := h2.cell 14
    have e15 : w2.cell? ⟨R, 15, none⟩ = some (.int .u32 s.dr) := h2.cell 15
    have e16 : w2.cell? ⟨R, 16, none⟩ = some (.int .u32 s.bd) := h2.cell 16
    have q1 : w2.cell? ⟨w.heap.size, 1, none⟩ = some (.int .u32 k.ad) := k2.cell 1
    have l2 := h2.lt
    have HB2 := Lib.hid (HB.out.trans (hb2.mono HB.out.size))
    clear h2 k2 hb2 c0 c1 c2 c3 c4 c5 c6 c7 c8 c9 c10 c11 c12 c13 q2 hl hlw
    rcases hsh : c.shared with _ | _
    · go_wp2_with fail
      go_ret
      exact ⟨by rw [hsh]; rfl, HB2.out⟩
    · have h45 : (sst < 4 ∨ sst = 4 ∨ 4 < sst) := by omega
      rw [← HSst.out] at e14
      clear HSst
      rcases h45 with h4 | rfl | h4
      · have d1 : decide (4 ≤ sst) = false := decide_eq_false (by omega)
        have E5 : Hid (decide (5 ≤ sst) = false ∧ (sst == 4) = false) := Lib.hid ⟨decide_eq_false (by omega), by simp; omega⟩
        clear h4
        go_wp2_with fail
        go_quiet (fail)
        go_wp2_with fail
        go_ret
        exact ⟨by rw [hsh, E5.out.1, E5.out.2]; simp, HB2.out.trans ((drewQ2 w2 _).mono HB2.out.size)⟩
      · rcases ha : (k.ad == s.dr) with _ | _
        · go_wp2_with fail
          go_quiet (fail)
          go_wp2_with fail
          go_ret
          exact ⟨by have h := ha; simp at h; simp [hsh, h], HB2.out.trans ((drewQ2 w2 _).mono HB2.out.size)⟩
        · go_wp2_with fail
          go_quiet (fail)
          go_wp2_with fail
          go_ret
          exact ⟨by have h := ha; simp at h; simp [hsh, h], HB2.out.trans ((drewQ2 w2 _).mono HB2.out.size)⟩
      · have d1 : decide (4 ≤ sst) = true := decide_eq_true (by omega)
        have d2 : decide (4 < sst) = true := decide_eq_true (by omega)
        have E5 : Hid (decide (5 ≤ sst) = true) := Lib.hid (decide_eq_true (by omega))
        clear h4
        go_wp2_with fail
        go_quiet (fail)
        go_wp2_with fail
        go_ret
        exact ⟨by rw [hsh, E5.out]; simp, HB2.out.trans ((drewQ2 w2 _).mono HB2.out.size)⟩
end
end Go.Proofs.Ytgbmhijgpdgdbaa
