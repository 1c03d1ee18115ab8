/- Newer of the reference. -/
import Derived.Test.YtgbmhijgpdgdbaaFaWords
import Derived.Deep.QuietTactic
import Derived.BigQuiet
namespace Go.Proofs.Ytgbmhijgpdgdbaa
open Go.RowKit

theorem below_drewN {B : Nat} {a w : World} (h : Below B a w) (n : Nat) : Below B a (w.drewN n) := ⟨h.os, h.tape, h.output, h.size, h.block⟩

set_option maxHeartbeats 2000000 in
theorem rnewer_any (g o t i v s m l g' o' t' i' v' s' m' l' : Int) (w : World) (h0 : 0 ≤ g) (h1 : g ≤ 65535) (h0' : 0 ≤ g') (h1' : g' ≤ 65535)
    (s0 : -2147483648 ≤ s) (s1 : s ≤ 2147483647) (s0' : -2147483648 ≤ s') (s1' : s' ≤ 2147483647) (m0 : 0 ≤ m) (m1 : m ≤ 65535) (m0' : 0 ≤ m') (m1' : m' ≤ 65535) :
    Calls Try.prog 23 #[.agg #[.int .u16 g, .int .u8 o, .int .u8 t, .int .u32 i, .int .u32 v, .int .i32 s, .int .u16 m, .int .u16 l], .agg #[.int .u16 g', .int .u8 o', .int .u8 t', .int .u32 i', .int .u32 v', .int .i32 s', .int .u16 m', .int .u16 l']] w fun e w' => e = .returned (.int .i64 (Od.newer ⟨g, o, t, i, v, s, m, l⟩ ⟨g', o', t', i', v', s', m', l'⟩)) ∧ Below w.heap.size w w' := by
  by_cases hs : s = s'
  · by_cases hm : m = m'
    · have hN : Hid (Od.newer ⟨g, o, t, i, v, s, m, l⟩ ⟨g', o', t', i', v', s', m', l'⟩ = if Od.old g ≠ Od.old g' then Od.comp (Od.years g) (Od.years g') else if Od.years g - Od.years g' > 900 ∨ Od.years g' - Od.years g > 900 then Od.comp (Od.years g') (Od.years g) else 0) := by
        have z1 := (Od.comp_zero s s').2 hs
        have z2 := (Od.comp_zero m m').2 hm
        simp only [Hid, Od.newer, z1, z2]; simp
      have hs1 : (s != s') = false := by simpa using hs
      have hm1 : (m != m') = false := by simpa using hm
      have hr0 := Od.years_range g
      have hr1 := Od.years_range g'
      obtain ⟨x, hx⟩ : ∃ x, Od.years g = x := ⟨_, rfl⟩
      obtain ⟨y, hy⟩ : ∃ y, Od.years g' = y := ⟨_, rfl⟩
      obtain ⟨p, hp⟩ : ∃ p, Od.old g = p := ⟨_, rfl⟩
      obtain ⟨q, hq⟩ : ∃ q, Od.old g' = q := ⟨_, rfl⟩
      rw [hx] at hr0
      rw [hy] at hr1
      obtain ⟨x0, x1⟩ := hr0
      obtain ⟨y0, y1⟩ := hr1
      have HN : Hid (Od.newer ⟨g, o, t, i, v, s, m, l⟩ ⟨g', o', t', i', v', s', m', l'⟩ = if p ≠ q then Od.comp x y else if x - y > 900 ∨ y - x > 900 then Od.comp y x else 0) := by rw [← hx, ← hy, ← hp, ← hq]; exact hN.out
      have cx : ∀ W : World, Calls Try.prog 58 #[.int .u16 g] W fun e w' => e = .returned (.int .i64 x) ∧ W = w' := fun W => by rw [← hx]; exact ryears_any g W h0 h1
      have cy : ∀ W : World, Calls Try.prog 58 #[.int .u16 g'] W fun e w' => e = .returned (.int .i64 y) ∧ W = w' := fun W => by rw [← hy]; exact ryears_any g' W h0' h1'
      have op : ∀ W : World, Calls Try.prog 48 #[.int .u16 g] W fun e w' => e = .returned (.bool p) ∧ w' = W := fun W => by rw [← hp]; exact (rold_any g W h0 h1).mono fun _ _ h => ⟨h.1, h.2.symm⟩
      have oq : ∀ W : World, Calls Try.prog 48 #[.int .u16 g'] W fun e w' => e = .returned (.bool q) ∧ w' = W := fun W => by rw [← hq]; exact (rold_any g' W h0' h1').mono fun _ _ h => ⟨h.1, h.2.symm⟩
      have Cx := Lib.hid cx
      have Cy := Lib.hid cy
      have Op := Lib.hid op
      have Oq := Lib.hid oq
      clear cx cy op oq hx hy hp hq hN hs hm
      cases p <;> cases q
      · by_cases h9 : 900 < x - y
        · have h91 : decide (900 < x - y) = true := by simpa using h9
          have HF : Hid (Od.newer ⟨g, o, t, i, v, s, m, l⟩ ⟨g', o', t', i', v', s', m', l'⟩ = Od.comp y x) := by rw [Hid, HN.out, if_neg (by simp), if_pos (by omega)]
          clear HN
          go_enter Try.func23, Try.ntmps23
          go_wp2_with fail
          refine (Cx.out _).mono ?_
          rintro e w' ⟨rfl, rfl⟩
          go_wp2_with fail
          refine (Cy.out _).mono ?_
          rintro e w' ⟨rfl, rfl⟩
          go_wp2_with fail
          go_quiet (first | (go_at_call 48; with_reducible exact Calls.quiet_of_same (Op.out _)) | (go_at_call 48; with_reducible exact Calls.quiet_of_same (Oq.out _)))
          go_wp2_with (go_at_call 57; refine (rcomp_any _ _ _).mono ?_; rintro e w' ⟨rfl, rfl⟩)
          go_ret
          exact ⟨ret_int HF.out.symm, below_drewN (((Below.refl _ _).alloc (Nat.le_refl _) _).alloc (by simp) _) _⟩
        · have h91 : decide (900 < x - y) = false := by simpa using h9
          by_cases h8 : 900 < y - x
          · have h81 : decide (900 < y - x) = true := by simpa using h8
            have HF : Hid (Od.newer ⟨g, o, t, i, v, s, m, l⟩ ⟨g', o', t', i', v', s', m', l'⟩ = Od.comp y x) := by rw [Hid, HN.out, if_neg (by simp), if_pos (by omega)]
            clear HN
            go_enter Try.func23, Try.ntmps23
            go_wp2_with fail
            refine (Cx.out _).mono ?_
            rintro e w' ⟨rfl, rfl⟩
            go_wp2_with fail
            refine (Cy.out _).mono ?_
            rintro e w' ⟨rfl, rfl⟩
            go_wp2_with fail
            go_quiet (first | (go_at_call 48; with_reducible exact Calls.quiet_of_same (Op.out _)) | (go_at_call 48; with_reducible exact Calls.quiet_of_same (Oq.out _)))
            go_wp2_with (go_at_call 57; refine (rcomp_any _ _ _).mono ?_; rintro e w' ⟨rfl, rfl⟩)
            go_ret
            exact ⟨ret_int HF.out.symm, below_drewN (((Below.refl _ _).alloc (Nat.le_refl _) _).alloc (by simp) _) _⟩
          · have h81 : decide (900 < y - x) = false := by simpa using h8
            have HF : Hid (Od.newer ⟨g, o, t, i, v, s, m, l⟩ ⟨g', o', t', i', v', s', m', l'⟩ = 0) := by rw [Hid, HN.out, if_neg (by simp), if_neg (by omega)]
            clear HN
            go_enter Try.func23, Try.ntmps23
            go_wp2_with fail
            refine (Cx.out _).mono ?_
            rintro e w' ⟨rfl, rfl⟩
            go_wp2_with fail
            refine (Cy.out _).mono ?_
            rintro e w' ⟨rfl, rfl⟩
            go_wp2_with fail
            go_quiet (first | (go_at_call 48; with_reducible exact Calls.quiet_of_same (Op.out _)) | (go_at_call 48; with_reducible exact Calls.quiet_of_same (Oq.out _)))
            go_wp2_with fail
            go_ret
            exact ⟨ret_int (a := 0) HF.out.symm, below_drewN (((Below.refl _ _).alloc (Nat.le_refl _) _).alloc (by simp) _) _⟩
      · have HF : Hid (Od.newer ⟨g, o, t, i, v, s, m, l⟩ ⟨g', o', t', i', v', s', m', l'⟩ = Od.comp x y) := by rw [Hid, HN.out, if_pos (by simp)]
        clear HN
        go_enter Try.func23, Try.ntmps23
        go_wp2_with fail
        refine (Cx.out _).mono ?_
        rintro e w' ⟨rfl, rfl⟩
        go_wp2_with fail
        refine (Cy.out _).mono ?_
        rintro e w' ⟨rfl, rfl⟩
        go_wp2_with fail
        go_quiet (first | (go_at_call 48; with_reducible exact Calls.quiet_of_same (Op.out _)) | (go_at_call 48; with_reducible exact Calls.quiet_of_same (Oq.out _)))
        go_wp2_with (go_at_call 57; refine (rcomp_any _ _ _).mono ?_; rintro e w' ⟨rfl, rfl⟩)
        go_ret
        exact ⟨ret_int HF.out.symm, below_drewN (((Below.refl _ _).alloc (Nat.le_refl _) _).alloc (by simp) _) _⟩
      · have HF : Hid (Od.newer ⟨g, o, t, i, v, s, m, l⟩ ⟨g', o', t', i', v', s', m', l'⟩ = Od.comp x y) := by rw [Hid, HN.out, if_pos (by simp)]
        clear HN
        go_enter Try.func23, Try.ntmps23
        go_wp2_with fail
        refine (Cx.out _).mono ?_
        rintro e w' ⟨rfl, rfl⟩
        go_wp2_with fail
        refine (Cy.out _).mono ?_
        rintro e w' ⟨rfl, rfl⟩
        go_wp2_with fail
        go_quiet (first | (go_at_call 48; with_reducible exact Calls.quiet_of_same (Op.out _)) | (go_at_call 48; with_reducible exact Calls.quiet_of_same (Oq.out _)))
        go_wp2_with (go_at_call 57; refine (rcomp_any _ _ _).mono ?_; rintro e w' ⟨rfl, rfl⟩)
        go_ret
        exact ⟨ret_int HF.out.symm, below_drewN (((Below.refl _ _).alloc (Nat.le_refl _) _).alloc (by simp) _) _⟩
      · by_cases h9 : 900 < x - y
        · have h91 : decide (900 < x - y) = true := by simpa using h9
          have HF : Hid (Od.newer ⟨g, o, t, i, v, s, m, l⟩ ⟨g', o', t', i', v', s', m', l'⟩ = Od.comp y x) := by rw [Hid, HN.out, if_neg (by simp), if_pos (by omega)]
          clear HN
          go_enter Try.func23, Try.ntmps23
          go_wp2_with fail
          refine (Cx.out _).mono ?_
          rintro e w' ⟨rfl, rfl⟩
          go_wp2_with fail
          refine (Cy.out _).mono ?_
          rintro e w' ⟨rfl, rfl⟩
          go_wp2_with fail
          go_quiet (first | (go_at_call 48; with_reducible exact Calls.quiet_of_same (Op.out _)) | (go_at_call 48; with_reducible exact Calls.quiet_of_same (Oq.out _)))
          go_wp2_with (go_at_call 57; refine (rcomp_any _ _ _).mono ?_; rintro e w' ⟨rfl, rfl⟩)
          go_ret
          exact ⟨ret_int HF.out.symm, below_drewN (((Below.refl _ _).alloc (Nat.le_refl _) _).alloc (by simp) _) _⟩
        · have h91 : decide (900 < x - y) = false := by simpa using h9
          by_cases h8 : 900 < y - x
          · have h81 : decide (900 < y - x) = true := by simpa using h8
            have HF : Hid (Od.newer ⟨g, o, t, i, v, s, m, l⟩ ⟨g', o', t', i', v', s', m', l'⟩ = Od.comp y x) := by rw [Hid, HN.out, if_neg (by simp), if_pos (by omega)]
            clear HN
            go_enter Try.func23, Try.ntmps23
            go_wp2_with fail
            refine (Cx.out _).mono ?_
            rintro e w' ⟨rfl, rfl⟩
            go_wp2_with fail
            refine (Cy.out _).mono ?_
            rintro e w' ⟨rfl, rfl⟩
            go_wp2_with fail
            go_quiet (first | (go_at_call 48; with_reducible exact Calls.quiet_of_same (Op.out _)) | (go_at_call 48; with_reducible exact Calls.quiet_of_same (Oq.out _)))
            go_wp2_with (go_at_call 57; refine (rcomp_any _ _ _).mono ?_; rintro e w' ⟨rfl, rfl⟩)
            go_ret
            exact ⟨ret_int HF.out.symm, below_drewN (((Below.refl _ _).alloc (Nat.le_refl _) _).alloc (by simp) _) _⟩
          · have h81 : decide (900 < y - x) = false := by simpa using h8
            have HF : Hid (Od.newer ⟨g, o, t, i, v, s, m, l⟩ ⟨g', o', t', i', v', s', m', l'⟩ = 0) := by rw [Hid, HN.out, if_neg (by simp), if_neg (by omega)]
            clear HN
            go_enter Try.func23, Try.ntmps23
            go_wp2_with fail
            refine (Cx.out _).mono ?_
            rintro e w' ⟨rfl, rfl⟩
            go_wp2_with fail
            refine (Cy.out _).mono ?_
            rintro e w' ⟨rfl, rfl⟩
            go_wp2_with fail
            go_quiet (first | (go_at_call 48; with_reducible exact Calls.quiet_of_same (Op.out _)) | (go_at_call 48; with_reducible exact Calls.quiet_of_same (Oq.out _)))
            go_wp2_with fail
            go_ret
            exact ⟨ret_int (a := 0) HF.out.symm, below_drewN (((Below.refl _ _).alloc (Nat.le_refl _) _).alloc (by simp) _) _⟩
    · have HF : Hid (Od.newer ⟨g, o, t, i, v, s, m, l⟩ ⟨g', o', t', i', v', s', m', l'⟩ = Od.comp m m') := Od.newer_sum (a := ⟨g, o, t, i, v, s, m, l⟩) (b := ⟨g', o', t', i', v', s', m', l'⟩) hs hm
      have hs1 : (s != s') = false := by simpa using hs
      have hm1 : (m != m') = true := by simpa using hm
      clear hs hm
      go_enter Try.func23, Try.ntmps23
      go_wp2_with (go_at_call 57; refine (rcomp_any _ _ _).mono ?_; rintro e w' ⟨rfl, rfl⟩)
      go_ret
      exact ⟨ret_int HF.out.symm, (((Below.refl _ _).alloc (Nat.le_refl _) _).alloc (by simp) _)⟩
  · have HF : Hid (Od.newer ⟨g, o, t, i, v, s, m, l⟩ ⟨g', o', t', i', v', s', m', l'⟩ = Od.comp s s') := by
      have hne : Od.comp s s' ≠ 0 := fun e => hs ((Od.comp_zero s s').1 e)
      simp only [Hid, Od.newer]; rw [if_pos hne]
    have hs1 : (s != s') = true := by simpa using hs
    clear hs
    go_enter Try.func23, Try.ntmps23
    go_wp2_with (go_at_call 56; refine (rseq_any _ _ _ s0 s1 s0' s1').mono ?_; rintro e w' ⟨rfl, rfl⟩)
    go_ret
    exact ⟨ret_int HF.out.symm, (((Below.refl _ _).alloc (Nat.le_refl _) _).alloc (by simp) _)⟩

end Go.Proofs.Ytgbmhijgpdgdbaa
