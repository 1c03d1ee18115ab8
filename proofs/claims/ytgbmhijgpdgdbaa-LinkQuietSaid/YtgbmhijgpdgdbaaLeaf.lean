/- The leaves of the order: compare, years, old, numbers; each a call that leaves the world alone. -/
import Derived.Test.YtgbmhijgpdgdbaaRows
import Derived.Test.YtgbmhijgpdgdbaaPlain
import Derived.WalkKit
import Derived.WalkSpells
import Derived.WalkLawsBesides
import Derived.Lib.Hide
import Derived.Laws.BitsAllLaws
namespace Go.Proofs.Ytgbmhijgpdgdbaa
open Go.RowKit

theorem ret_int {k : IntKind} {a b : Int} (h : a = b) : Ending.returned (.int k a) = .returned (.int k b) := by rw [h]
theorem ret_bool {a b : Bool} (h : a = b) : Ending.returned (.bool a) = .returned (.bool b) := by rw [h]

theorem andNot_years (g : Int) (h0 : 0 ≤ g) (h1 : g ≤ 65535) : bits .andNot .u16 g 32768 = g % 32768 := by
  rw [u16_andNot g 32768 h0 (by omega) (by omega) (by omega)]
  obtain ⟨n, rfl⟩ := Int.eq_ofNat_of_zero_le h0
  have := Nat.and_two_pow_sub_one_eq_mod n 15
  simp at this ⊢
  rw [this]; omega
theorem and_age (g : Int) (h0 : 0 ≤ g) (h1 : g ≤ 65535) : bits .and .u16 g 32768 = if 32768 ≤ g then 32768 else 0 := by
  rw [u16_and g 32768 h0 (by omega) (by omega) (by omega)]
  obtain ⟨n, rfl⟩ := Int.eq_ofNat_of_zero_le h0
  have h1 : n < 65536 := by omega
  simp only [Int.toNat_natCast]
  have e : (32768 : Int).toNat = 2 ^ 15 := by decide
  have ht : n.testBit 15 = decide (32768 ≤ n) := by
    rw [Nat.testBit_eq_decide_div_mod_eq, decide_eq_decide]
    omega
  have key : n &&& 2 ^ 15 = if n.testBit 15 then 2 ^ 15 else 0 := by
    apply Nat.eq_of_testBit_eq
    intro i
    rw [Nat.testBit_and, Nat.testBit_two_pow]
    by_cases hi : 15 = i
    · subst hi
      cases n.testBit 15
      · simp
      · simp only [if_true]; rw [Nat.testBit_two_pow]; simp
    · cases n.testBit 15
      · simp [hi]
      · simp only [if_true]; rw [Nat.testBit_two_pow]; simp [hi]
  rw [e, key, ht]
  by_cases h : 32768 ≤ n
  · rw [if_pos (show (32768 : Int) ≤ (n : Int) by omega)]; simp [h]
  · rw [if_neg (show ¬ (32768 : Int) ≤ (n : Int) by omega)]; simp [h]

set_option maxHeartbeats 400000 in
theorem years_any (g : Int) (w : World) (h0 : 0 ≤ g) (h1 : g ≤ 65535) : Calls Try.prog 92 #[.int .u16 g] w fun e w' => e = .returned (.int .i64 (Od.years g)) ∧ w = w' := by
  have hb := andNot_years g h0 h1
  have hm0 : 0 ≤ g % 32768 := by omega
  have hm1 : g % 32768 ≤ 32767 := by omega
  go_enter Try.func92, Try.ntmps92
  go_wp2
  all_goals
    clear hb
    go_ret
    exact ⟨ret_int (by unfold Od.years; omega), rfl⟩

set_option maxHeartbeats 400000 in
theorem ryears_any (g : Int) (w : World) (h0 : 0 ≤ g) (h1 : g ≤ 65535) : Calls Try.prog 58 #[.int .u16 g] w fun e w' => e = .returned (.int .i64 (Od.years g)) ∧ w = w' := by
  have hm0 : 0 ≤ g % 32768 := by omega
  have hm1 : g % 32768 ≤ 32767 := by omega
  go_enter Try.func58, Try.ntmps58
  go_wp2
  all_goals
    go_ret
    exact ⟨ret_int (by unfold Od.years; omega), rfl⟩

set_option maxHeartbeats 400000 in
theorem old_any (g : Int) (w : World) (h0 : 0 ≤ g) (h1 : g ≤ 65535) : Calls Try.prog 91 #[.int .u16 g] w fun e w' => e = .returned (.bool (Od.old g)) ∧ w = w' := by
  go_enter Try.func91, Try.ntmps91
  go_wp2_with (go_at_call 92; refine (years_any _ _ h0 h1).mono ?_; rintro e w' ⟨rfl, rfl⟩)
  go_ret
  exact ⟨rfl, rfl⟩

set_option maxHeartbeats 400000 in
theorem rold_any (g : Int) (w : World) (h0 : 0 ≤ g) (h1 : g ≤ 65535) : Calls Try.prog 48 #[.int .u16 g] w fun e w' => e = .returned (.bool (Od.old g)) ∧ w = w' := by
  go_enter Try.func48, Try.ntmps48
  go_wp2_with (go_at_call 58; refine (ryears_any _ _ h0 h1).mono ?_; rintro e w' ⟨rfl, rfl⟩)
  go_ret
  exact ⟨rfl, rfl⟩

theorem comp_lt {a b : Int} (h : a < b) : Od.comp a b = -1 := by unfold Od.comp; rw [if_pos h]
theorem comp_eq (a : Int) : Od.comp a a = 0 := (Od.comp_zero a a).2 rfl
theorem comp_gt {a b : Int} (h : b < a) : Od.comp a b = 1 := (Od.comp_one a b).2 h

set_option maxHeartbeats 400000 in
theorem cmp_i32 (a b : Int) (w : World) : Calls Try.prog 127 #[.int .i32 a, .int .i32 b] w fun e w' => e = .returned (.int .i64 (Od.comp a b)) ∧ w = w' := by
  rcases Int.lt_trichotomy a b with h | h | h
  · go_enter Try.func127, Try.ntmps127
    go_wp2
    go_ret
    exact ⟨ret_int (comp_lt h).symm, rfl⟩
  · subst h
    go_enter Try.func127, Try.ntmps127
    go_wp2
    go_ret
    exact ⟨ret_int (comp_eq a).symm, rfl⟩
  · have h' : ¬ a < b := by omega
    go_enter Try.func127, Try.ntmps127
    go_wp2
    go_ret
    exact ⟨ret_int (comp_gt h).symm, rfl⟩

set_option maxHeartbeats 400000 in
theorem cmp_u16 (a b : Int) (w : World) : Calls Try.prog 97 #[.int .u16 a, .int .u16 b] w fun e w' => e = .returned (.int .i64 (Od.comp a b)) ∧ w = w' := by
  rcases Int.lt_trichotomy a b with h | h | h
  · go_enter Try.func97, Try.ntmps97
    go_wp2
    go_ret
    exact ⟨ret_int (comp_lt h).symm, rfl⟩
  · subst h
    go_enter Try.func97, Try.ntmps97
    go_wp2
    go_ret
    exact ⟨ret_int (comp_eq a).symm, rfl⟩
  · have h' : ¬ a < b := by omega
    go_enter Try.func97, Try.ntmps97
    go_wp2
    go_ret
    exact ⟨ret_int (comp_gt h).symm, rfl⟩

set_option maxHeartbeats 400000 in
theorem cmp_int (a b : Int) (w : World) : Calls Try.prog 99 #[.int .i64 a, .int .i64 b] w fun e w' => e = .returned (.int .i64 (Od.comp a b)) ∧ w = w' := by
  rcases Int.lt_trichotomy a b with h | h | h
  · go_enter Try.func99, Try.ntmps99
    go_wp2
    go_ret
    exact ⟨ret_int (comp_lt h).symm, rfl⟩
  · subst h
    go_enter Try.func99, Try.ntmps99
    go_wp2
    go_ret
    exact ⟨ret_int (comp_eq a).symm, rfl⟩
  · have h' : ¬ a < b := by omega
    go_enter Try.func99, Try.ntmps99
    go_wp2
    go_ret
    exact ⟨ret_int (comp_gt h).symm, rfl⟩

set_option maxHeartbeats 400000 in
theorem rcomp_any (a b : Int) (w : World) : Calls Try.prog 57 #[.int .i64 a, .int .i64 b] w fun e w' => e = .returned (.int .i64 (Od.comp a b)) ∧ w = w' := by
  rcases Int.lt_trichotomy a b with h | h | h
  · go_enter Try.func57, Try.ntmps57
    go_wp2
    go_ret
    exact ⟨ret_int (comp_lt h).symm, rfl⟩
  · subst h
    go_enter Try.func57, Try.ntmps57
    go_wp2
    go_ret
    exact ⟨ret_int (comp_eq a).symm, rfl⟩
  · have h' : ¬ a < b := by omega
    go_enter Try.func57, Try.ntmps57
    go_wp2
    go_ret
    exact ⟨ret_int (comp_gt h).symm, rfl⟩

set_option maxHeartbeats 400000 in
theorem seq_any (a b : Int) (w : World) : Calls Try.prog 95 #[.int .i32 a, .int .i32 b] w fun e w' => e = .returned (.int .i64 (Od.comp a b)) ∧ w = w' := by
  go_enter Try.func95, Try.ntmps95
  go_wp2_with (go_at_call 127; refine (cmp_i32 _ _ _).mono ?_; rintro e w' ⟨rfl, rfl⟩)
  go_ret
  exact ⟨rfl, rfl⟩

set_option maxHeartbeats 400000 in
theorem rseq_any (a b : Int) (w : World) (ha : -2147483648 ≤ a) (ha' : a ≤ 2147483647) (hb : -2147483648 ≤ b) (hb' : b ≤ 2147483647) : Calls Try.prog 56 #[.int .i32 a, .int .i32 b] w fun e w' => e = .returned (.int .i64 (Od.comp a b)) ∧ w = w' := by
  go_enter Try.func56, Try.ntmps56
  go_wp2_with (go_at_call 57; refine (rcomp_any _ _ _).mono ?_; rintro e w' ⟨rfl, rfl⟩)
  go_ret
  exact ⟨rfl, rfl⟩

end Go.Proofs.Ytgbmhijgpdgdbaa
