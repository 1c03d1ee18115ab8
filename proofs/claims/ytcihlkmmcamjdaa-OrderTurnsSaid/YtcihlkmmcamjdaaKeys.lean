/- Keys, of the program and of the reference. -/
import Derived.Test.YtcihlkmmcamjdaaNewer
namespace Go.Proofs.Ytcihlkmmcamjdaa
open Go.RowKit

set_option maxHeartbeats 400000 in
theorem k1_any (A B : Nat) (s s' : Int) (w : World) (hs : w.cell? ⟨A, 0, none⟩ = some (.int .u8 s)) (hs' : w.cell? ⟨B, 0, none⟩ = some (.int .u8 s')) :
    Calls Try.prog 30 #[.pointer (some ⟨A, 0, none⟩), .pointer (some ⟨B, 0, none⟩)] w fun e w' => e = .returned (.int .i64 (Od.comp s s')) ∧ w = w' := by
  go_enter Try.func30, Try.ntmps30
  go_wp2_with (go_at_call 31; refine (cmp_u8 _ _ _).mono ?_; rintro e w' ⟨rfl, rfl⟩)
  go_ret
  exact ⟨rfl, rfl⟩

set_option maxHeartbeats 400000 in
theorem k2_any (A B : Nat) (s s' : Int) (w : World) (hs : w.cell? ⟨A, 1, none⟩ = some (.int .u32 s)) (hs' : w.cell? ⟨B, 1, none⟩ = some (.int .u32 s')) :
    Calls Try.prog 32 #[.pointer (some ⟨A, 0, none⟩), .pointer (some ⟨B, 0, none⟩)] w fun e w' => e = .returned (.int .i64 (Od.comp s s')) ∧ w = w' := by
  go_enter Try.func32, Try.ntmps32
  go_wp2_with (go_at_call 33; refine (cmp_u32 _ _ _).mono ?_; rintro e w' ⟨rfl, rfl⟩)
  go_ret
  exact ⟨rfl, rfl⟩

set_option maxHeartbeats 400000 in
theorem k3_any (A B : Nat) (s s' : Int) (w : World) (hs : w.cell? ⟨A, 2, none⟩ = some (.int .u32 s)) (hs' : w.cell? ⟨B, 2, none⟩ = some (.int .u32 s')) :
    Calls Try.prog 34 #[.pointer (some ⟨A, 0, none⟩), .pointer (some ⟨B, 0, none⟩)] w fun e w' => e = .returned (.int .i64 (Od.comp s s')) ∧ w = w' := by
  go_enter Try.func34, Try.ntmps34
  go_wp2_with (go_at_call 33; refine (cmp_u32 _ _ _).mono ?_; rintro e w' ⟨rfl, rfl⟩)
  go_ret
  exact ⟨rfl, rfl⟩

def firstOf3 (a b c : Int) : Int := if a ≠ 0 then a else if b ≠ 0 then b else c
theorem keys_of (a b : Od.Ky) : Od.keys a b = firstOf3 (Od.comp a.t b.t) (Od.comp a.i b.i) (Od.comp a.v b.v) := rfl

set_option maxHeartbeats 2000000 in
theorem first3_any (b A B : Nat) (t t' i i' v v' : Int) (w : World)
    (f0 : w.cell? ⟨b, 0, none⟩ = some (.func (.func 30) #[] #[.pointer (some ⟨A, 0, none⟩), .pointer (some ⟨B, 0, none⟩)])) (f1 : w.cell? ⟨b, 1, none⟩ = some (.func (.func 32) #[] #[.pointer (some ⟨A, 0, none⟩), .pointer (some ⟨B, 0, none⟩)]))
    (f2 : w.cell? ⟨b, 2, none⟩ = some (.func (.func 34) #[] #[.pointer (some ⟨A, 0, none⟩), .pointer (some ⟨B, 0, none⟩)]))
    (a0 : w.cell? ⟨A, 0, none⟩ = some (.int .u8 t)) (b0 : w.cell? ⟨B, 0, none⟩ = some (.int .u8 t')) (a1 : w.cell? ⟨A, 1, none⟩ = some (.int .u32 i)) (b1 : w.cell? ⟨B, 1, none⟩ = some (.int .u32 i'))
    (a2 : w.cell? ⟨A, 2, none⟩ = some (.int .u32 v)) (b2 : w.cell? ⟨B, 2, none⟩ = some (.int .u32 v')) :
    Calls Try.prog 23 #[.slice (some ⟨b, 0, none⟩) 3 3] w fun e w' => e = .returned (.int .i64 (firstOf3 (Od.comp t t') (Od.comp i i') (Od.comp v v'))) ∧ w = w' := by
  go_enter Try.func23, Try.ntmps23
  go_wp2_with fail
  refine wp_loop_rounds 4 ?_
  rw [rounds_succ]
  go_wp2_with fail
  refine (k1_any A B t t' w a0 b0).mono ?_
  rintro e w' ⟨rfl, rfl⟩
  obtain ⟨c1, hc1⟩ : ∃ c, Od.comp t t' = c := ⟨_, rfl⟩
  rw [hc1]
  have HC1 := Lib.hid hc1
  clear hc1
  by_cases h1 : c1 = 0
  · subst h1
    go_wp2_with fail
    rw [rounds_succ]
    go_wp2_with fail
    refine (k2_any A B i i' w a1 b1).mono ?_
    rintro e w' ⟨rfl, rfl⟩
    obtain ⟨c2, hc2⟩ : ∃ c, Od.comp i i' = c := ⟨_, rfl⟩
    rw [hc2]
    have HC2 := Lib.hid hc2
    clear hc2
    by_cases h2 : c2 = 0
    · subst h2
      go_wp2_with fail
      rw [rounds_succ]
      go_wp2_with fail
      refine (k3_any A B v v' w a2 b2).mono ?_
      rintro e w' ⟨rfl, rfl⟩
      obtain ⟨c3, hc3⟩ : ∃ c, Od.comp v v' = c := ⟨_, rfl⟩
      rw [hc3]
      have HC3 := Lib.hid hc3
      clear hc3
      by_cases h3 : c3 = 0
      · subst h3
        go_wp2_with fail
        rw [rounds_succ]
        go_wp2_with fail
        go_ret
        exact ⟨ret_int (a := 0) (by simp [firstOf3, HC1.out, HC2.out, HC3.out]), rfl⟩
      · have h3' : (c3 != 0) = true := by simpa using h3
        have H3 := Lib.hid h3
        clear h3
        go_wp2_with fail
        go_ret
        exact ⟨ret_int (a := c3) (by simp [firstOf3, HC1.out, HC2.out, HC3.out]), rfl⟩
    · have h2' : (c2 != 0) = true := by simpa using h2
      have H2 := Lib.hid h2
      clear h2
      go_wp2_with fail
      go_ret
      exact ⟨ret_int (a := c2) (by rw [HC1.out, HC2.out]; simp [firstOf3, H2.out]), rfl⟩
  · have h1' : (c1 != 0) = true := by simpa using h1
    have H1 := Lib.hid h1
    clear h1
    go_wp2_with fail
    go_ret
    exact ⟨ret_int (a := c1) (by rw [HC1.out]; simp [firstOf3, H1.out]), rfl⟩

set_option maxHeartbeats 2000000 in
theorem keys_any (t i v t' i' v' : Int) (w : World) :
    Calls Try.prog 15 #[.agg #[.int .u8 t, .int .u32 i, .int .u32 v], .agg #[.int .u8 t', .int .u32 i', .int .u32 v']] w fun e w' => e = .returned (.int .i64 (Od.keys ⟨t, i, v⟩ ⟨t', i', v'⟩)) ∧ Below w.heap.size w w' := by
  have hmf : ∀ (fn : Fn) (first cap : Array Value) (w : World), (Instr.makeFunc fn first cap).run Try.prog w = .ok (.func fn first cap) w := fun _ _ _ _ => rfl
  by_cases ht : t = t'
  · subst ht
    by_cases hi : i = i'
    · subst hi
      by_cases hv : v = v'
      · subst hv
        have HF : Hid (Od.keys ⟨t, i, v⟩ ⟨t, i, v⟩ = 0) := by simp [Hid, Od.keys, comp_eq]
        go_enter Try.func15, Try.ntmps15
        go_wp2_with fail
        go_ret
        exact ⟨ret_int (a := 0) HF.out.symm, ((Below.refl _ w).alloc (Nat.le_refl _) _).alloc (by simp) _⟩
      · skip
        have hA : Hid (Blk (((w.alloc (.cells #[.int .u8 t, .int .u32 i, .int .u32 v] 27)).alloc (.cells #[.int .u8 t, .int .u32 i, .int .u32 v'] 27)).alloc (.cells #[.func (.func 30) #[] #[.pointer (some ⟨w.heap.size, 0, none⟩), .pointer (some ⟨w.heap.size + 1, 0, none⟩)], .func (.func 32) #[] #[.pointer (some ⟨w.heap.size, 0, none⟩), .pointer (some ⟨w.heap.size + 1, 0, none⟩)], .func (.func 34) #[] #[.pointer (some ⟨w.heap.size, 0, none⟩), .pointer (some ⟨w.heap.size + 1, 0, none⟩)]] 41)) w.heap.size 27 #[.int .u8 t, .int .u32 i, .int .u32 v]) := ((Blk.new w _ _).alloc _).alloc _
        have hB : Hid (Blk (((w.alloc (.cells #[.int .u8 t, .int .u32 i, .int .u32 v] 27)).alloc (.cells #[.int .u8 t, .int .u32 i, .int .u32 v'] 27)).alloc (.cells #[.func (.func 30) #[] #[.pointer (some ⟨w.heap.size, 0, none⟩), .pointer (some ⟨w.heap.size + 1, 0, none⟩)], .func (.func 32) #[] #[.pointer (some ⟨w.heap.size, 0, none⟩), .pointer (some ⟨w.heap.size + 1, 0, none⟩)], .func (.func 34) #[] #[.pointer (some ⟨w.heap.size, 0, none⟩), .pointer (some ⟨w.heap.size + 1, 0, none⟩)]] 41)) (w.heap.size + 1) 27 #[.int .u8 t, .int .u32 i, .int .u32 v']) := by
          have := (Blk.new (w.alloc (.cells #[.int .u8 t, .int .u32 i, .int .u32 v] 27)) 27 #[.int .u8 t, .int .u32 i, .int .u32 v']).alloc (.cells #[.func (.func 30) #[] #[.pointer (some ⟨w.heap.size, 0, none⟩), .pointer (some ⟨w.heap.size + 1, 0, none⟩)], .func (.func 32) #[] #[.pointer (some ⟨w.heap.size, 0, none⟩), .pointer (some ⟨w.heap.size + 1, 0, none⟩)], .func (.func 34) #[] #[.pointer (some ⟨w.heap.size, 0, none⟩), .pointer (some ⟨w.heap.size + 1, 0, none⟩)]] 41)
          rw [World.size_alloc] at this
          exact this
        have hF : Hid (Blk (((w.alloc (.cells #[.int .u8 t, .int .u32 i, .int .u32 v] 27)).alloc (.cells #[.int .u8 t, .int .u32 i, .int .u32 v'] 27)).alloc (.cells #[.func (.func 30) #[] #[.pointer (some ⟨w.heap.size, 0, none⟩), .pointer (some ⟨w.heap.size + 1, 0, none⟩)], .func (.func 32) #[] #[.pointer (some ⟨w.heap.size, 0, none⟩), .pointer (some ⟨w.heap.size + 1, 0, none⟩)], .func (.func 34) #[] #[.pointer (some ⟨w.heap.size, 0, none⟩), .pointer (some ⟨w.heap.size + 1, 0, none⟩)]] 41)) (w.heap.size + 1 + 1) 41 #[.func (.func 30) #[] #[.pointer (some ⟨w.heap.size, 0, none⟩), .pointer (some ⟨w.heap.size + 1, 0, none⟩)], .func (.func 32) #[] #[.pointer (some ⟨w.heap.size, 0, none⟩), .pointer (some ⟨w.heap.size + 1, 0, none⟩)], .func (.func 34) #[] #[.pointer (some ⟨w.heap.size, 0, none⟩), .pointer (some ⟨w.heap.size + 1, 0, none⟩)]]) := by
          have := Blk.new ((w.alloc (.cells #[.int .u8 t, .int .u32 i, .int .u32 v] 27)).alloc (.cells #[.int .u8 t, .int .u32 i, .int .u32 v'] 27)) 41 #[.func (.func 30) #[] #[.pointer (some ⟨w.heap.size, 0, none⟩), .pointer (some ⟨w.heap.size + 1, 0, none⟩)], .func (.func 32) #[] #[.pointer (some ⟨w.heap.size, 0, none⟩), .pointer (some ⟨w.heap.size + 1, 0, none⟩)], .func (.func 34) #[] #[.pointer (some ⟨w.heap.size, 0, none⟩), .pointer (some ⟨w.heap.size + 1, 0, none⟩)]]
          rw [World.size_alloc, World.size_alloc] at this
          exact this
        go_enter Try.func15, Try.ntmps15
        go_wp2_with fail
        refine (first3_any (w.heap.size + 1 + 1) w.heap.size (w.heap.size + 1) t t i i v v' _ (hF.out.cell 0) (hF.out.cell 1) (hF.out.cell 2) (hA.out.cell 0) (hB.out.cell 0) (hA.out.cell 1) (hB.out.cell 1) (hA.out.cell 2) (hB.out.cell 2)).mono ?_
        rintro e w2 ⟨rfl, rfl⟩
        go_wp2_with fail
        go_ret
        exact ⟨ret_int (keys_of ⟨t, i, v⟩ ⟨t, i, v'⟩).symm, ((((Below.refl _ w).alloc (Nat.le_refl _) _).alloc (by simp) _).alloc (by simp <;> omega) _)⟩
    · skip
      have hA : Hid (Blk (((w.alloc (.cells #[.int .u8 t, .int .u32 i, .int .u32 v] 27)).alloc (.cells #[.int .u8 t, .int .u32 i', .int .u32 v'] 27)).alloc (.cells #[.func (.func 30) #[] #[.pointer (some ⟨w.heap.size, 0, none⟩), .pointer (some ⟨w.heap.size + 1, 0, none⟩)], .func (.func 32) #[] #[.pointer (some ⟨w.heap.size, 0, none⟩), .pointer (some ⟨w.heap.size + 1, 0, none⟩)], .func (.func 34) #[] #[.pointer (some ⟨w.heap.size, 0, none⟩), .pointer (some ⟨w.heap.size + 1, 0, none⟩)]] 41)) w.heap.size 27 #[.int .u8 t, .int .u32 i, .int .u32 v]) := ((Blk.new w _ _).alloc _).alloc _
      have hB : Hid (Blk (((w.alloc (.cells #[.int .u8 t, .int .u32 i, .int .u32 v] 27)).alloc (.cells #[.int .u8 t, .int .u32 i', .int .u32 v'] 27)).alloc (.cells #[.func (.func 30) #[] #[.pointer (some ⟨w.heap.size, 0, none⟩), .pointer (some ⟨w.heap.size + 1, 0, none⟩)], .func (.func 32) #[] #[.pointer (some ⟨w.heap.size, 0, none⟩), .pointer (some ⟨w.heap.size + 1, 0, none⟩)], .func (.func 34) #[] #[.pointer (some ⟨w.heap.size, 0, none⟩), .pointer (some ⟨w.heap.size + 1, 0, none⟩)]] 41)) (w.heap.size + 1) 27 #[.int .u8 t, .int .u32 i', .int .u32 v']) := by
        have := (Blk.new (w.alloc (.cells #[.int .u8 t, .int .u32 i, .int .u32 v] 27)) 27 #[.int .u8 t, .int .u32 i', .int .u32 v']).alloc (.cells #[.func (.func 30) #[] #[.pointer (some ⟨w.heap.size, 0, none⟩), .pointer (some ⟨w.heap.size + 1, 0, none⟩)], .func (.func 32) #[] #[.pointer (some ⟨w.heap.size, 0, none⟩), .pointer (some ⟨w.heap.size + 1, 0, none⟩)], .func (.func 34) #[] #[.pointer (some ⟨w.heap.size, 0, none⟩), .pointer (some ⟨w.heap.size + 1, 0, none⟩)]] 41)
        rw [World.size_alloc] at this
        exact this
      have hF : Hid (Blk (((w.alloc (.cells #[.int .u8 t, .int .u32 i, .int .u32 v] 27)).alloc (.cells #[.int .u8 t, .int .u32 i', .int .u32 v'] 27)).alloc (.cells #[.func (.func 30) #[] #[.pointer (some ⟨w.heap.size, 0, none⟩), .pointer (some ⟨w.heap.size + 1, 0, none⟩)], .func (.func 32) #[] #[.pointer (some ⟨w.heap.size, 0, none⟩), .pointer (some ⟨w.heap.size + 1, 0, none⟩)], .func (.func 34) #[] #[.pointer (some ⟨w.heap.size, 0, none⟩), .pointer (some ⟨w.heap.size + 1, 0, none⟩)]] 41)) (w.heap.size + 1 + 1) 41 #[.func (.func 30) #[] #[.pointer (some ⟨w.heap.size, 0, none⟩), .pointer (some ⟨w.heap.size + 1, 0, none⟩)], .func (.func 32) #[] #[.pointer (some ⟨w.heap.size, 0, none⟩), .pointer (some ⟨w.heap.size + 1, 0, none⟩)], .func (.func 34) #[] #[.pointer (some ⟨w.heap.size, 0, none⟩), .pointer (some ⟨w.heap.size + 1, 0, none⟩)]]) := by
        have := Blk.new ((w.alloc (.cells #[.int .u8 t, .int .u32 i, .int .u32 v] 27)).alloc (.cells #[.int .u8 t, .int .u32 i', .int .u32 v'] 27)) 41 #[.func (.func 30) #[] #[.pointer (some ⟨w.heap.size, 0, none⟩), .pointer (some ⟨w.heap.size + 1, 0, none⟩)], .func (.func 32) #[] #[.pointer (some ⟨w.heap.size, 0, none⟩), .pointer (some ⟨w.heap.size + 1, 0, none⟩)], .func (.func 34) #[] #[.pointer (some ⟨w.heap.size, 0, none⟩), .pointer (some ⟨w.heap.size + 1, 0, none⟩)]]
        rw [World.size_alloc, World.size_alloc] at this
        exact this
      go_enter Try.func15, Try.ntmps15
      go_wp2_with fail
      refine (first3_any (w.heap.size + 1 + 1) w.heap.size (w.heap.size + 1) t t i i' v v' _ (hF.out.cell 0) (hF.out.cell 1) (hF.out.cell 2) (hA.out.cell 0) (hB.out.cell 0) (hA.out.cell 1) (hB.out.cell 1) (hA.out.cell 2) (hB.out.cell 2)).mono ?_
      rintro e w2 ⟨rfl, rfl⟩
      go_wp2_with fail
      go_ret
      exact ⟨ret_int (keys_of ⟨t, i, v⟩ ⟨t, i', v'⟩).symm, ((((Below.refl _ w).alloc (Nat.le_refl _) _).alloc (by simp) _).alloc (by simp <;> omega) _)⟩
  · skip
    have hA : Hid (Blk (((w.alloc (.cells #[.int .u8 t, .int .u32 i, .int .u32 v] 27)).alloc (.cells #[.int .u8 t', .int .u32 i', .int .u32 v'] 27)).alloc (.cells #[.func (.func 30) #[] #[.pointer (some ⟨w.heap.size, 0, none⟩), .pointer (some ⟨w.heap.size + 1, 0, none⟩)], .func (.func 32) #[] #[.pointer (some ⟨w.heap.size, 0, none⟩), .pointer (some ⟨w.heap.size + 1, 0, none⟩)], .func (.func 34) #[] #[.pointer (some ⟨w.heap.size, 0, none⟩), .pointer (some ⟨w.heap.size + 1, 0, none⟩)]] 41)) w.heap.size 27 #[.int .u8 t, .int .u32 i, .int .u32 v]) := ((Blk.new w _ _).alloc _).alloc _
    have hB : Hid (Blk (((w.alloc (.cells #[.int .u8 t, .int .u32 i, .int .u32 v] 27)).alloc (.cells #[.int .u8 t', .int .u32 i', .int .u32 v'] 27)).alloc (.cells #[.func (.func 30) #[] #[.pointer (some ⟨w.heap.size, 0, none⟩), .pointer (some ⟨w.heap.size + 1, 0, none⟩)], .func (.func 32) #[] #[.pointer (some ⟨w.heap.size, 0, none⟩), .pointer (some ⟨w.heap.size + 1, 0, none⟩)], .func (.func 34) #[] #[.pointer (some ⟨w.heap.size, 0, none⟩), .pointer (some ⟨w.heap.size + 1, 0, none⟩)]] 41)) (w.heap.size + 1) 27 #[.int .u8 t', .int .u32 i', .int .u32 v']) := by
      have := (Blk.new (w.alloc (.cells #[.int .u8 t, .int .u32 i, .int .u32 v] 27)) 27 #[.int .u8 t', .int .u32 i', .int .u32 v']).alloc (.cells #[.func (.func 30) #[] #[.pointer (some ⟨w.heap.size, 0, none⟩), .pointer (some ⟨w.heap.size + 1, 0, none⟩)], .func (.func 32) #[] #[.pointer (some ⟨w.heap.size, 0, none⟩), .pointer (some ⟨w.heap.size + 1, 0, none⟩)], .func (.func 34) #[] #[.pointer (some ⟨w.heap.size, 0, none⟩), .pointer (some ⟨w.heap.size + 1, 0, none⟩)]] 41)
      rw [World.size_alloc] at this
      exact this
    have hF : Hid (Blk (((w.alloc (.cells #[.int .u8 t, .int .u32 i, .int .u32 v] 27)).alloc (.cells #[.int .u8 t', .int .u32 i', .int .u32 v'] 27)).alloc (.cells #[.func (.func 30) #[] #[.pointer (some ⟨w.heap.size, 0, none⟩), .pointer (some ⟨w.heap.size + 1, 0, none⟩)], .func (.func 32) #[] #[.pointer (some ⟨w.heap.size, 0, none⟩), .pointer (some ⟨w.heap.size + 1, 0, none⟩)], .func (.func 34) #[] #[.pointer (some ⟨w.heap.size, 0, none⟩), .pointer (some ⟨w.heap.size + 1, 0, none⟩)]] 41)) (w.heap.size + 1 + 1) 41 #[.func (.func 30) #[] #[.pointer (some ⟨w.heap.size, 0, none⟩), .pointer (some ⟨w.heap.size + 1, 0, none⟩)], .func (.func 32) #[] #[.pointer (some ⟨w.heap.size, 0, none⟩), .pointer (some ⟨w.heap.size + 1, 0, none⟩)], .func (.func 34) #[] #[.pointer (some ⟨w.heap.size, 0, none⟩), .pointer (some ⟨w.heap.size + 1, 0, none⟩)]]) := by
      have := Blk.new ((w.alloc (.cells #[.int .u8 t, .int .u32 i, .int .u32 v] 27)).alloc (.cells #[.int .u8 t', .int .u32 i', .int .u32 v'] 27)) 41 #[.func (.func 30) #[] #[.pointer (some ⟨w.heap.size, 0, none⟩), .pointer (some ⟨w.heap.size + 1, 0, none⟩)], .func (.func 32) #[] #[.pointer (some ⟨w.heap.size, 0, none⟩), .pointer (some ⟨w.heap.size + 1, 0, none⟩)], .func (.func 34) #[] #[.pointer (some ⟨w.heap.size, 0, none⟩), .pointer (some ⟨w.heap.size + 1, 0, none⟩)]]
      rw [World.size_alloc, World.size_alloc] at this
      exact this
    go_enter Try.func15, Try.ntmps15
    go_wp2_with fail
    refine (first3_any (w.heap.size + 1 + 1) w.heap.size (w.heap.size + 1) t t' i i' v v' _ (hF.out.cell 0) (hF.out.cell 1) (hF.out.cell 2) (hA.out.cell 0) (hB.out.cell 0) (hA.out.cell 1) (hB.out.cell 1) (hA.out.cell 2) (hB.out.cell 2)).mono ?_
    rintro e w2 ⟨rfl, rfl⟩
    go_wp2_with fail
    go_ret
    exact ⟨ret_int (keys_of ⟨t, i, v⟩ ⟨t', i', v'⟩).symm, ((((Below.refl _ w).alloc (Nat.le_refl _) _).alloc (by simp) _).alloc (by simp <;> omega) _)⟩

end Go.Proofs.Ytcihlkmmcamjdaa
