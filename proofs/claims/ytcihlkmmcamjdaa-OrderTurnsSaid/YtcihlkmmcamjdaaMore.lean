/- The reference's Keys; Next and Age of both. -/
import Derived.Test.YtcihlkmmcamjdaaLeaf
namespace Go.Proofs.Ytcihlkmmcamjdaa
open Go.RowKit

def KFit (t i v : Int) : Prop := 0 ≤ t ∧ t ≤ 255 ∧ 0 ≤ i ∧ i ≤ 4294967295 ∧ 0 ≤ v ∧ v ≤ 4294967295

set_option maxHeartbeats 1000000 in
theorem rkeys_any (t i v t' i' v' : Int) (w : World) (hk : KFit t i v) (hk' : KFit t' i' v') :
    Calls Try.prog 16 #[.agg #[.int .u8 t, .int .u32 i, .int .u32 v], .agg #[.int .u8 t', .int .u32 i', .int .u32 v']] w fun e w' => e = .returned (.int .i64 (Od.keys ⟨t, i, v⟩ ⟨t', i', v'⟩)) ∧ Below w.heap.size w w' := by
  obtain ⟨t0, t1, i0, i1, v0, v1⟩ := hk
  obtain ⟨t0', t1', i0', i1', v0', v1'⟩ := hk'
  by_cases ht : t = t'
  · subst ht
    by_cases hi : i = i'
    · subst hi
      have HF : Hid (Od.keys ⟨t, i, v⟩ ⟨t, i, v'⟩ = Od.comp v v') := by simp [Hid, Od.keys, comp_eq]
      go_enter Try.func16, Try.ntmps16
      go_wp2_with (go_at_call 19; refine (rcomp_any _ _ _).mono ?_; rintro e w' ⟨rfl, rfl⟩)
      go_ret
      exact ⟨ret_int HF.out.symm, (((Below.refl _ _).alloc (Nat.le_refl _) _).alloc (by simp) _)⟩
    · have HF : Hid (Od.keys ⟨t, i, v⟩ ⟨t, i', v'⟩ = Od.comp i i') := by
        have : Od.comp i i' ≠ 0 := fun e => hi ((Od.comp_zero _ _).1 e)
        simp [Hid, Od.keys, comp_eq, this]
      go_enter Try.func16, Try.ntmps16
      go_wp2_with (go_at_call 19; refine (rcomp_any _ _ _).mono ?_; rintro e w' ⟨rfl, rfl⟩)
      go_ret
      exact ⟨ret_int HF.out.symm, (((Below.refl _ _).alloc (Nat.le_refl _) _).alloc (by simp) _)⟩
  · have HF : Hid (Od.keys ⟨t, i, v⟩ ⟨t', i', v'⟩ = Od.comp t t') := by
      have : Od.comp t t' ≠ 0 := fun e => ht ((Od.comp_zero _ _).1 e)
      simp [Hid, Od.keys, this]
    go_enter Try.func16, Try.ntmps16
    go_wp2_with (go_at_call 19; refine (rcomp_any _ _ _).mono ?_; rintro e w' ⟨rfl, rfl⟩)
    go_ret
    exact ⟨ret_int HF.out.symm, (((Below.refl _ _).alloc (Nat.le_refl _) _).alloc (by simp) _)⟩

set_option maxHeartbeats 400000 in
theorem next_any (s : Int) (w : World) (h0 : -2147483648 ≤ s) (h1 : s ≤ 2147483647) : Calls Try.prog 5 #[.int .i32 s] w fun e w' => e = .returned (.tuple #[.int .i32 (Od.next s).1, .bool (Od.next s).2]) ∧ w = w' := by
  by_cases h : s = 2147483647
  · have hn : Od.next s = (0, false) := by unfold Od.next; rw [if_pos h]
    rw [hn]
    have hb : (s == 2147483647) = true := by simpa using h
    clear h hn
    go_enter Try.func5, Try.ntmps5
    go_wp2
    go_ret2
    exact ⟨rfl, rfl⟩
  · have hn : Od.next s = (s + 1, true) := by unfold Od.next; rw [if_neg h]
    rw [hn]
    have hb : (s == 2147483647) = false := by simpa using h
    have hlt : s < 2147483647 := by omega
    clear h hn
    go_enter Try.func5, Try.ntmps5
    go_wp2
    go_ret2
    exact ⟨rfl, rfl⟩

set_option maxHeartbeats 400000 in
theorem rnext_any (s : Int) (w : World) (h0 : -2147483648 ≤ s) (h1 : s ≤ 2147483647) : Calls Try.prog 6 #[.int .i32 s] w fun e w' => e = .returned (.tuple #[.int .i32 (Od.next s).1, .bool (Od.next s).2]) ∧ w = w' := by
  by_cases h : s = 2147483647
  · have hn : Od.next s = (0, false) := by unfold Od.next; rw [if_pos h]
    rw [hn]
    have hb : (s == 2147483647) = true := by simpa using h
    clear h hn
    go_enter Try.func6, Try.ntmps6
    go_wp2
    go_ret2
    exact ⟨rfl, rfl⟩
  · have hn : Od.next s = (s + 1, true) := by unfold Od.next; rw [if_neg h]
    rw [hn]
    have hb : (s == 2147483647) = false := by simpa using h
    have hlt : s < 2147483647 := by omega
    clear h hn
    go_enter Try.func6, Try.ntmps6
    go_wp2
    go_ret2
    exact ⟨rfl, rfl⟩

theorem ret_u16 {a b : Int} (h : a = b) : Ending.returned (.int .u16 a) = .returned (.int .u16 b) := by rw [h]

set_option maxHeartbeats 1000000 in
theorem age_any (g p : Int) (w : World) (h0 : 0 ≤ g) (h1 : g ≤ 65535) (p0 : -9223372036854775808 ≤ p) (p1 : p ≤ 9223372036854775807) : Calls Try.prog 9 #[.int .u16 g, .int .i64 p] w fun e w' => e = .returned (.int .u16 (Od.age g p)) ∧ w = w' := by
  have hb := and_age g h0 h1
  by_cases h : 32768 ≤ g
  · rw [if_pos h] at hb
    have HF : Hid (Od.age g p = g) := by unfold Hid Od.age; rw [if_pos (Or.inl h)]
    go_enter Try.func9, Try.ntmps9
    go_wp2
    clear hb
    go_ret
    exact ⟨ret_u16 HF.out.symm, rfl⟩
  · rw [if_neg h] at hb
    by_cases hp : p < 1
    · have HF : Hid (Od.age g p = g) := by unfold Hid Od.age; rw [if_pos (Or.inr hp)]
      go_enter Try.func9, Try.ntmps9
      go_wp2
      clear hb
      go_ret
      exact ⟨ret_u16 HF.out.symm, rfl⟩
    · have hy := Od.years_range g
      have HF : Hid (Od.age g p = min (Od.years g + min p 3600) 3600) := by unfold Hid Od.age; rw [if_neg (by omega)]
      obtain ⟨x, hx⟩ : ∃ x, Od.years g = x := ⟨_, rfl⟩
      rw [hx] at hy
      have cx : ∀ W : World, Calls Try.prog 20 #[.int .u16 g] W fun e w' => e = .returned (.int .i64 x) ∧ W = w' := fun W => by rw [← hx]; exact years_any g W h0 h1
      have HF2 : Hid (Od.age g p = min (x + min p 3600) 3600) := by rw [Hid, HF.out, hx]
      have Cx := Lib.hid cx
      obtain ⟨x0, x1⟩ := hy
      clear cx hx HF
      go_enter Try.func9, Try.ntmps9
      go_wp2_with (go_at_call 20; refine (Cx.out _).mono ?_; rintro e w' ⟨rfl, rfl⟩)
      all_goals
        clear hb
        go_ret
        exact ⟨ret_u16 (by rw [HF2.out]; omega), rfl⟩

set_option maxHeartbeats 1000000 in
theorem rage_any (g p : Int) (w : World) (h0 : 0 ≤ g) (h1 : g ≤ 65535) (p0 : -9223372036854775808 ≤ p) (p1 : p ≤ 9223372036854775807) : Calls Try.prog 10 #[.int .u16 g, .int .i64 p] w fun e w' => e = .returned (.int .u16 (Od.age g p)) ∧ w = w' := by
  by_cases h : 32768 ≤ g
  · have HF : Hid (Od.age g p = g) := by unfold Hid Od.age; rw [if_pos (Or.inl h)]
    go_enter Try.func10, Try.ntmps10
    go_wp2
    go_ret
    exact ⟨ret_u16 HF.out.symm, rfl⟩
  · by_cases hp : p < 1
    · have HF : Hid (Od.age g p = g) := by unfold Hid Od.age; rw [if_pos (Or.inr hp)]
      go_enter Try.func10, Try.ntmps10
      go_wp2
      go_ret
      exact ⟨ret_u16 HF.out.symm, rfl⟩
    · have hy := Od.years_range g
      have HF : Hid (Od.age g p = min (Od.years g + min p 3600) 3600) := by unfold Hid Od.age; rw [if_neg (by omega)]
      obtain ⟨x, hx⟩ : ∃ x, Od.years g = x := ⟨_, rfl⟩
      rw [hx] at hy
      have cx : ∀ W : World, Calls Try.prog 22 #[.int .u16 g] W fun e w' => e = .returned (.int .i64 x) ∧ W = w' := fun W => by rw [← hx]; exact ryears_any g W h0 h1
      have HF2 : Hid (Od.age g p = min (x + min p 3600) 3600) := by rw [Hid, HF.out, hx]
      have Cx := Lib.hid cx
      obtain ⟨x0, x1⟩ := hy
      clear cx hx HF
      have hd : decide (32768 ≤ g) = false := by simpa using h
      have hp1 : decide (p < 1) = false := by simpa using hp
      go_enter Try.func10, Try.ntmps10
      go_wp2_with (first | (go_at_call 22; refine (Cx.out _).mono ?_; rintro e w' ⟨rfl, rfl⟩) | go_in)
      all_goals
        clear hd hp1
        go_ret
        exact ⟨ret_u16 (by rw [HF2.out]; omega), rfl⟩

end Go.Proofs.Ytcihlkmmcamjdaa
