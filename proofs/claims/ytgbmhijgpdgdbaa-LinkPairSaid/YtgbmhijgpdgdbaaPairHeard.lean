/- What a neighbour's Hello changes, exactly, where one neighbour is known. -/
import Derived.Test.YtgbmhijgpdgdbaaPairState
namespace Go.Proofs.Ytgbmhijgpdgdbaa
open Go.RowKit

theorem drewBp (w : World) (q : Nat) : Below w.heap.size w (w.drewN q) := ⟨rfl, rfl, rfl, Nat.le_refl _, fun _ _ => rfl⟩

def PHPost (B : Nat) (c : LC) (st dr bd wt nx : Int) (L cap : Nat) (xs : List (Nat × Kn)) (el : Bool) (w : World) (e : Ending) (w' : World) : Prop :=
  e = .returned (.tuple #[]) ∧ Frame (fun j => j = B) w w' ∧ LinkOn 0 w' B c (if el then elState c (elOut c dr bd xs) else st) (if el then (elOut c dr bd xs).1 else dr) (if el then (elOut c dr bd xs).2 else bd) wt nx 0 0 L cap xs

set_option maxHeartbeats 4000000 in
set_option maxRecDepth 20000 in
theorem pheard_a (w : World) (B : Nat) (c : LC) (st dr bd wt nx : Int) (L cap : Nat) (x : Nat × Kn) (hty : (c.ty == 1) = false) (h : LinkOn 0 w B c st dr bd wt nx 0 0 L cap [x]) (old : Kn) (hold : old.st ≠ 3) (hst : x.2.st = 2) :
    Calls Try.prog 73 #[.pointer (some ⟨B, 0, none⟩), .agg #[.int .u32 old.ro, .int .u32 old.ad, .int .u8 old.st, .int .u8 old.pr, .int .u32 old.dr, .int .u32 old.bd, .int .u8 old.op, .int .u32 old.lf, .bool old.wa, .bool old.fu], .pointer (some ⟨x.1, 0, none⟩), .bool false] w fun e w' => PHPost B c st dr bd wt nx L cap [x] false w e w' := by
  have H := Lib.hid h
  have HTy := Lib.hid hty
  have kx := (h.k x (by simp)).1
  have e_old : (old.st == 3) = false := by simpa using hold
  have e_st : (x.2.st == 3) = false := by rw [hst]; rfl
  have hlx := kx.lt
  have hlB : B < w.heap.size := h.b.lt
  have b15 : w.cell? ⟨B, 15, none⟩ = some (.int .u8 st) := h.b.cell 15
  obtain ⟨W0, hW0⟩ : ∃ W0, W0 = w.alloc (.cells #[.int .u32 old.ro, .int .u32 old.ad, .int .u8 old.st, .int .u8 old.pr, .int .u32 old.dr, .int .u32 old.bd, .int .u8 old.op, .int .u32 old.lf, .bool old.wa, .bool old.fu] 139) := ⟨_, rfl⟩
  have hb0 : Below w.heap.size w W0 := by rw [hW0]; exact (Below.refl _ w).alloc (Nat.le_refl _) _
  have O0 : Blk W0 w.heap.size 139 #[.int .u32 old.ro, .int .u32 old.ad, .int .u8 old.st, .int .u8 old.pr, .int .u32 old.dr, .int .u32 old.bd, .int .u8 old.op, .int .u32 old.lf, .bool old.wa, .bool old.fu] := by rw [hW0]; exact Blk.new w _ _
  have H0 := Lib.hid (h.below hb0)
  have F0 := Lib.hid (Frame.of_below (S := fun j => j = B) hb0)
  have y15 : W0.cell? ⟨B, 15, none⟩ = some (.int .u8 st) := (hb0.cell (p := ⟨B, 15, none⟩) hlB).trans b15
  have y2 : W0.cell? ⟨x.1, 2, none⟩ = some (.int .u8 x.2.st) := (hb0.cell (p := ⟨x.1, 2, none⟩) hlx).trans (kx.cell 2)
  have o2 : W0.cell? ⟨w.heap.size, 2, none⟩ = some (.int .u8 old.st) := O0.cell 2
  clear h kx hb0 O0 b15 hold hst hty
  rcases Bool.eq_false_or_eq_true (st == 2) with s2 | s2
  all_goals
    by_cases s4 : 4 ≤ st
    all_goals
      go_enter Try.func73, Try.ntmps73
      go_upto_region 1 with fail
      rw [← hW0]
      clear hW0
      go_quiet (fail)
      go_wp2_with fail
      go_quiet (fail)
      go_wp2_with fail
      go_end0
      exact ⟨rfl, F0.out.trans (Frame.of_below (drewBp W0 _)), H0.out.below (drewBp W0 _)⟩

set_option maxHeartbeats 4000000 in
set_option maxRecDepth 20000 in
theorem pheard_b (w : World) (B : Nat) (c : LC) (st dr bd wt nx : Int) (L cap : Nat) (x : Nat × Kn) (hty : (c.ty == 1) = false) (h : LinkOn 0 w B c st dr bd wt nx 0 0 L cap [x]) (old : Kn) (hold : old.st ≠ 3) (hst : x.2.st = 3) (h2 : (st = 2 ∧ x.2.dr ≠ x.2.ad ∧ x.2.bd ≠ x.2.ad) ∨ 4 ≤ st) :
    Calls Try.prog 73 #[.pointer (some ⟨B, 0, none⟩), .agg #[.int .u32 old.ro, .int .u32 old.ad, .int .u8 old.st, .int .u8 old.pr, .int .u32 old.dr, .int .u32 old.bd, .int .u8 old.op, .int .u32 old.lf, .bool old.wa, .bool old.fu], .pointer (some ⟨x.1, 0, none⟩), .bool true] w fun e w' => PHPost B c st dr bd wt nx L cap [x] (st != 2) w e w' := by
  have H := Lib.hid h
  have HTy := Lib.hid hty
  have kx := (h.k x (by simp)).1
  have e_old : (old.st == 3) = false := by simpa using hold
  have e_st : (x.2.st == 3) = true := by rw [hst]; rfl
  have hlx := kx.lt
  have hlB : B < w.heap.size := h.b.lt
  have b15 : w.cell? ⟨B, 15, none⟩ = some (.int .u8 st) := h.b.cell 15
  obtain ⟨W0, hW0⟩ : ∃ W0, W0 = w.alloc (.cells #[.int .u32 old.ro, .int .u32 old.ad, .int .u8 old.st, .int .u8 old.pr, .int .u32 old.dr, .int .u32 old.bd, .int .u8 old.op, .int .u32 old.lf, .bool old.wa, .bool old.fu] 139) := ⟨_, rfl⟩
  have hb0 : Below w.heap.size w W0 := by rw [hW0]; exact (Below.refl _ w).alloc (Nat.le_refl _) _
  have O0 : Blk W0 w.heap.size 139 #[.int .u32 old.ro, .int .u32 old.ad, .int .u8 old.st, .int .u8 old.pr, .int .u32 old.dr, .int .u32 old.bd, .int .u8 old.op, .int .u32 old.lf, .bool old.wa, .bool old.fu] := by rw [hW0]; exact Blk.new w _ _
  have H0 := Lib.hid (h.below hb0)
  have F0 := Lib.hid (Frame.of_below (S := fun j => j = B) hb0)
  have y15 : W0.cell? ⟨B, 15, none⟩ = some (.int .u8 st) := (hb0.cell (p := ⟨B, 15, none⟩) hlB).trans b15
  have y1 : W0.cell? ⟨x.1, 1, none⟩ = some (.int .u32 x.2.ad) := (hb0.cell (p := ⟨x.1, 1, none⟩) hlx).trans (kx.cell 1)
  have y2 : W0.cell? ⟨x.1, 2, none⟩ = some (.int .u8 x.2.st) := (hb0.cell (p := ⟨x.1, 2, none⟩) hlx).trans (kx.cell 2)
  have y4 : W0.cell? ⟨x.1, 4, none⟩ = some (.int .u32 x.2.dr) := (hb0.cell (p := ⟨x.1, 4, none⟩) hlx).trans (kx.cell 4)
  have y5 : W0.cell? ⟨x.1, 5, none⟩ = some (.int .u32 x.2.bd) := (hb0.cell (p := ⟨x.1, 5, none⟩) hlx).trans (kx.cell 5)
  have o2 : W0.cell? ⟨w.heap.size, 2, none⟩ = some (.int .u8 old.st) := O0.cell 2
  clear h kx hb0 O0 b15 hold hst hty
  rcases h2 with ⟨rfl, d1, d2⟩ | s4
  · have e_d1 : (x.2.dr == x.2.ad) = false := by simpa using d1
    have e_d2 : (x.2.bd == x.2.ad) = false := by simpa using d2
    clear d1 d2
    go_enter Try.func73, Try.ntmps73
    go_upto_region 1 with fail
    rw [← hW0]
    clear hW0
    go_quiet (fail)
    go_wp2_with fail
    go_quiet (fail)
    go_wp2_with fail
    go_end0
    exact ⟨rfl, F0.out.trans (Frame.of_below (drewBp W0 _)), H0.out.below (drewBp W0 _)⟩
  · have s2 : (st == 2) = false := by simp; omega
    have e_el : (st != 2) = true := by simp; omega
    rw [e_el]
    clear e_el
    go_enter Try.func73, Try.ntmps73
    go_upto_region 1 with fail
    rw [← hW0]
    clear hW0
    go_quiet (fail)
    go_wp2_with fail
    go_quiet (fail)
    go_wp2_with fail
    refine (elect_row _ B c st dr bd wt nx 0 0 L cap [x] (by simp) HTy.out (H0.out.below (drewBp W0 _)).b (H0.out.below (drewBp W0 _)).row).mono ?_
    rintro e w2 ⟨rfl, hk2, hf2⟩
    have hl2 := (H0.out.below (drewBp W0 _)).turn hf2 hk2
    go_wp2_with fail
    go_end0
    exact ⟨rfl, (F0.out.trans (Frame.of_below (drewBp W0 _))).trans hf2, hl2.1⟩

set_option maxHeartbeats 4000000 in
set_option maxRecDepth 20000 in
theorem pheard_c (w : World) (B : Nat) (c : LC) (st dr bd wt nx : Int) (L cap : Nat) (x : Nat × Kn) (hty : (c.ty == 1) = false) (h : LinkOn 0 w B c st dr bd wt nx 0 0 L cap [x]) (old : Kn) (hold : old.st = 3) (hst : x.2.st = 3) (hop : old.pr = x.2.pr) (h2 : (st = 2 ∧ x.2.dr ≠ x.2.ad ∧ x.2.bd ≠ x.2.ad) ∨ 4 ≤ st) :
    Calls Try.prog 73 #[.pointer (some ⟨B, 0, none⟩), .agg #[.int .u32 old.ro, .int .u32 old.ad, .int .u8 old.st, .int .u8 old.pr, .int .u32 old.dr, .int .u32 old.bd, .int .u8 old.op, .int .u32 old.lf, .bool old.wa, .bool old.fu], .pointer (some ⟨x.1, 0, none⟩), .bool true] w fun e w' => PHPost B c st dr bd wt nx L cap [x] ((st != 2) && Pr.chV x.2.ad (old.dr, old.bd) (x.2.dr, x.2.bd)) w e w' := by
  have H := Lib.hid h
  have HTy := Lib.hid hty
  have kx := (h.k x (by simp)).1
  have e_old : (old.st == 3) = true := by rw [hold]; rfl
  have e_st : (x.2.st == 3) = true := by rw [hst]; rfl
  have e_pr : (old.pr != x.2.pr) = false := by rw [hop]; simp
  have hlx := kx.lt
  have hlB : B < w.heap.size := h.b.lt
  have b15 : w.cell? ⟨B, 15, none⟩ = some (.int .u8 st) := h.b.cell 15
  obtain ⟨W0, hW0⟩ : ∃ W0, W0 = w.alloc (.cells #[.int .u32 old.ro, .int .u32 old.ad, .int .u8 old.st, .int .u8 old.pr, .int .u32 old.dr, .int .u32 old.bd, .int .u8 old.op, .int .u32 old.lf, .bool old.wa, .bool old.fu] 139) := ⟨_, rfl⟩
  have hb0 : Below w.heap.size w W0 := by rw [hW0]; exact (Below.refl _ w).alloc (Nat.le_refl _) _
  have O0 : Blk W0 w.heap.size 139 #[.int .u32 old.ro, .int .u32 old.ad, .int .u8 old.st, .int .u8 old.pr, .int .u32 old.dr, .int .u32 old.bd, .int .u8 old.op, .int .u32 old.lf, .bool old.wa, .bool old.fu] := by rw [hW0]; exact Blk.new w _ _
  have H0 := Lib.hid (h.below hb0)
  have F0 := Lib.hid (Frame.of_below (S := fun j => j = B) hb0)
  have y15 : W0.cell? ⟨B, 15, none⟩ = some (.int .u8 st) := (hb0.cell (p := ⟨B, 15, none⟩) hlB).trans b15
  have y1 : W0.cell? ⟨x.1, 1, none⟩ = some (.int .u32 x.2.ad) := (hb0.cell (p := ⟨x.1, 1, none⟩) hlx).trans (kx.cell 1)
  have y2 : W0.cell? ⟨x.1, 2, none⟩ = some (.int .u8 x.2.st) := (hb0.cell (p := ⟨x.1, 2, none⟩) hlx).trans (kx.cell 2)
  have y3 : W0.cell? ⟨x.1, 3, none⟩ = some (.int .u8 x.2.pr) := (hb0.cell (p := ⟨x.1, 3, none⟩) hlx).trans (kx.cell 3)
  have y4 : W0.cell? ⟨x.1, 4, none⟩ = some (.int .u32 x.2.dr) := (hb0.cell (p := ⟨x.1, 4, none⟩) hlx).trans (kx.cell 4)
  have y5 : W0.cell? ⟨x.1, 5, none⟩ = some (.int .u32 x.2.bd) := (hb0.cell (p := ⟨x.1, 5, none⟩) hlx).trans (kx.cell 5)
  have o2 : W0.cell? ⟨w.heap.size, 2, none⟩ = some (.int .u8 old.st) := O0.cell 2
  have o3 : W0.cell? ⟨w.heap.size, 3, none⟩ = some (.int .u8 old.pr) := O0.cell 3
  have o4 : W0.cell? ⟨w.heap.size, 4, none⟩ = some (.int .u32 old.dr) := O0.cell 4
  have o5 : W0.cell? ⟨w.heap.size, 5, none⟩ = some (.int .u32 old.bd) := O0.cell 5
  clear h kx hb0 O0 b15 hold hst hty hop
  rcases h2 with ⟨rfl, d1, d2⟩ | s4
  · have e_d1 : (x.2.dr == x.2.ad) = false := by simpa using d1
    have e_d2 : (x.2.bd == x.2.ad) = false := by simpa using d2
    clear d1 d2
    rcases Bool.eq_false_or_eq_true (old.dr == x.2.ad) with e_c1 | e_c1
    all_goals
      rcases Bool.eq_false_or_eq_true (old.bd == x.2.ad) with e_c2 | e_c2
      all_goals
        go_enter Try.func73, Try.ntmps73
        go_upto_region 1 with fail
        rw [← hW0]
        clear hW0
        go_quiet (fail)
        go_wp2_with fail
        go_quiet (fail)
        go_wp2_with fail
        go_quiet (fail)
        go_wp2_with fail
        go_end0
        exact ⟨rfl, F0.out.trans (Frame.of_below (drewBp W0 _)), H0.out.below (drewBp W0 _)⟩
  · have s2 : (st == 2) = false := by simp; omega
    have e_el : (st != 2) = true := by simp; omega
    rw [e_el, Bool.true_and]
    clear e_el
    rcases Bool.eq_false_or_eq_true (old.dr == x.2.ad) with e_c1 | e_c1
    all_goals
      rcases Bool.eq_false_or_eq_true (old.bd == x.2.ad) with e_c2 | e_c2
      all_goals
        rcases Bool.eq_false_or_eq_true (x.2.dr == x.2.ad) with e_d1 | e_d1
        all_goals
          rcases Bool.eq_false_or_eq_true (x.2.bd == x.2.ad) with e_d2 | e_d2
          all_goals
            simp only [Pr.chV, e_c1, e_c2, e_d1, e_d2, bne_self_eq_false, Bool.or_self, Bool.true_bne, Bool.bne_true, Bool.not_false, Bool.or_true, Bool.or_false]
            go_enter Try.func73, Try.ntmps73
            go_upto_region 1 with fail
            rw [← hW0]
            clear hW0
            go_quiet (fail)
            go_wp2_with fail
            go_quiet (fail)
            go_wp2_with fail
            go_quiet (fail)
            go_wp2_with fail
            first
            | (refine (elect_row _ B c st dr bd wt nx 0 0 L cap [x] (by simp) HTy.out (H0.out.below (drewBp W0 _)).b (H0.out.below (drewBp W0 _)).row).mono ?_; rintro e w2 ⟨rfl, hk2, hf2⟩; have hl2 := (H0.out.below (drewBp W0 _)).turn hf2 hk2; go_wp2_with fail; go_end0; exact ⟨rfl, (F0.out.trans (Frame.of_below (drewBp W0 _))).trans hf2, hl2.1⟩)
            | (go_end0; exact ⟨rfl, F0.out.trans (Frame.of_below (drewBp W0 _)), H0.out.below (drewBp W0 _)⟩)

theorem pheard_two (w : World) (B : Nat) (c : LC) (st dr bd wt nx : Int) (L cap : Nat) (x : Nat × Kn) (hty : (c.ty == 1) = false) (h : LinkOn 0 w B c st dr bd wt nx 0 0 L cap [x]) (old : Kn) (hold : old.st = 2 ∨ old.st = 3) (hst : x.2.st = 3) (hop : old.pr = x.2.pr) (h2 : (st = 2 ∧ x.2.dr ≠ x.2.ad ∧ x.2.bd ≠ x.2.ad) ∨ 4 ≤ st) :
    Calls Try.prog 73 #[.pointer (some ⟨B, 0, none⟩), .agg #[.int .u32 old.ro, .int .u32 old.ad, .int .u8 old.st, .int .u8 old.pr, .int .u32 old.dr, .int .u32 old.bd, .int .u8 old.op, .int .u32 old.lf, .bool old.wa, .bool old.fu], .pointer (some ⟨x.1, 0, none⟩), .bool true] w fun e w' => PHPost B c st dr bd wt nx L cap [x] ((st != 2) && Pr.chK old x.2) w e w' := by
  rcases hold with ho | ho
  · have e : ((st != 2) && Pr.chK old x.2) = (st != 2) := by simp [Pr.chK, ho]
    rw [e]
    exact pheard_b w B c st dr bd wt nx L cap x hty h old (by rw [ho]; decide) hst h2
  · have e : Pr.chK old x.2 = Pr.chV x.2.ad (old.dr, old.bd) (x.2.dr, x.2.bd) := by simp [Pr.chK, ho]
    rw [e]
    exact pheard_c w B c st dr bd wt nx L cap x hty h old ho hst hop h2
end Go.Proofs.Ytgbmhijgpdgdbaa
