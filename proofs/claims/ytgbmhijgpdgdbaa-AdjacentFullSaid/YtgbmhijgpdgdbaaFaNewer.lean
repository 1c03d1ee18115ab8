/- Newer, of the program and of the reference. -/
import Derived.Test.YtgbmhijgpdgdbaaFaWords
import Derived.Deep.RegionHeld3
import Derived.Deep.DeepCutAuto
import Derived.Deep.QuietTactic
import Derived.BigQuiet
namespace Go.Proofs.Ytgbmhijgpdgdbaa
open Go.RowKit

/-- The eight cells of a head. -/
def hcells (h : Od.Hd) : List Value := [.int .u16 h.g, .int .u8 h.o, .int .u8 h.t, .int .u32 h.i, .int .u32 h.v, .int .i32 h.s, .int .u16 h.m, .int .u16 h.l]

set_option maxHeartbeats 400000 in
theorem n1_any (A B : Nat) (s s' : Int) (w : World) (hs : w.cell? ⟨A, 5, none⟩ = some (.int .i32 s)) (hs' : w.cell? ⟨B, 5, none⟩ = some (.int .i32 s')) :
    Calls Try.prog 94 #[.pointer (some ⟨A, 0, none⟩), .pointer (some ⟨B, 0, none⟩)] w fun e w' => e = .returned (.int .i64 (Od.comp s s')) ∧ w = w' := by
  go_enter Try.func94, Try.ntmps94
  go_wp2_with (go_at_call 95; refine (seq_any _ _ _).mono ?_; rintro e w' ⟨rfl, rfl⟩)
  go_ret
  exact ⟨rfl, rfl⟩

set_option maxHeartbeats 400000 in
theorem n2_any (A B : Nat) (s s' : Int) (w : World) (hs : w.cell? ⟨A, 6, none⟩ = some (.int .u16 s)) (hs' : w.cell? ⟨B, 6, none⟩ = some (.int .u16 s')) :
    Calls Try.prog 96 #[.pointer (some ⟨A, 0, none⟩), .pointer (some ⟨B, 0, none⟩)] w fun e w' => e = .returned (.int .i64 (Od.comp s s')) ∧ w = w' := by
  go_enter Try.func96, Try.ntmps96
  go_wp2_with (go_at_call 97; refine (cmp_u16 _ _ _).mono ?_; rintro e w' ⟨rfl, rfl⟩)
  go_ret
  exact ⟨rfl, rfl⟩

def third (x y : Int) : Int := if (x == 3600) ≠ (y == 3600) then Od.comp x y else 0
def fourth (x y : Int) : Int := if x - y > 900 ∨ y - x > 900 then Od.comp y x else 0

set_option maxHeartbeats 400000 in
theorem n3_any (A B : Nat) (x y : Int) (w : World) (hs : w.cell? ⟨A, 0, none⟩ = some (.int .i64 x)) (hs' : w.cell? ⟨B, 0, none⟩ = some (.int .i64 y)) :
    Calls Try.prog 98 #[.pointer (some ⟨A, 0, none⟩), .pointer (some ⟨B, 0, none⟩)] w fun e w' => e = .returned (.int .i64 (third x y)) ∧ w = w' := by
  obtain ⟨p, hp⟩ : ∃ p, (x == 3600) = p := ⟨_, rfl⟩
  obtain ⟨q, hq⟩ : ∃ q, (y == 3600) = q := ⟨_, rfl⟩
  cases p <;> cases q
  all_goals
    go_enter Try.func98, Try.ntmps98
    go_wp2_with (go_at_call 99; refine (cmp_int _ _ _).mono ?_; rintro e w' ⟨rfl, rfl⟩)
    go_ret
    exact ⟨ret_int (by unfold third; rw [hp, hq]; simp), rfl⟩

set_option maxHeartbeats 400000 in
theorem n4_any (A B : Nat) (x y : Int) (w : World) (x0 : 0 ≤ x) (x1 : x ≤ 3600) (y0 : 0 ≤ y) (y1 : y ≤ 3600) (hs : w.cell? ⟨A, 0, none⟩ = some (.int .i64 x)) (hs' : w.cell? ⟨B, 0, none⟩ = some (.int .i64 y)) :
    Calls Try.prog 100 #[.pointer (some ⟨A, 0, none⟩), .pointer (some ⟨B, 0, none⟩)] w fun e w' => e = .returned (.int .i64 (fourth x y)) ∧ w = w' := by
  by_cases h : y - x ≤ x - y
  · by_cases h9 : 900 < x - y
    all_goals
      go_enter Try.func100, Try.ntmps100
      go_wp2_with (go_at_call 99; refine (cmp_int _ _ _).mono ?_; rintro e w' ⟨rfl, rfl⟩)
      all_goals
        go_ret
        exact ⟨ret_int (by unfold fourth; first | rw [if_pos (by omega)] | rw [if_neg (by omega)]), rfl⟩
  · by_cases h9 : 900 < y - x
    all_goals
      go_enter Try.func100, Try.ntmps100
      go_wp2_with (go_at_call 99; refine (cmp_int _ _ _).mono ?_; rintro e w' ⟨rfl, rfl⟩)
      all_goals
        go_ret
        exact ⟨ret_int (by unfold fourth; first | rw [if_pos (by omega)] | rw [if_neg (by omega)]), rfl⟩

def firstOf (a b c d : Int) : Int := if a ≠ 0 then a else if b ≠ 0 then b else if c ≠ 0 then c else d

theorem newer_of (a b : Od.Hd) : Od.newer a b = firstOf (Od.comp a.s b.s) (Od.comp a.m b.m) (third (Od.years a.g) (Od.years b.g)) (fourth (Od.years a.g) (Od.years b.g)) := by
  unfold firstOf Od.newer third fourth Od.old
  split
  · rfl
  · split
    · rfl
    · have c := Od.comp_cases (Od.years a.g) (Od.years b.g)
      by_cases h : (Od.years a.g == 3600) ≠ (Od.years b.g == 3600)
      · have hne : Od.comp (Od.years a.g) (Od.years b.g) ≠ 0 := by
          intro e
          exact h (by rw [(Od.comp_zero _ _).1 e])
        rw [if_pos h, if_pos h, if_pos hne]
      · rw [if_neg h, if_neg h]; simp

set_option maxHeartbeats 2000000 in
theorem first4_any (b A B X Y : Nat) (s s' m m' x y : Int) (w : World) (x0 : 0 ≤ x) (x1 : x ≤ 3600) (y0 : 0 ≤ y) (y1 : y ≤ 3600)
    (f0 : w.cell? ⟨b, 0, none⟩ = some (.func (.func 94) #[] #[.pointer (some ⟨A, 0, none⟩), .pointer (some ⟨B, 0, none⟩)])) (f1 : w.cell? ⟨b, 1, none⟩ = some (.func (.func 96) #[] #[.pointer (some ⟨A, 0, none⟩), .pointer (some ⟨B, 0, none⟩)]))
    (f2 : w.cell? ⟨b, 2, none⟩ = some (.func (.func 98) #[] #[.pointer (some ⟨X, 0, none⟩), .pointer (some ⟨Y, 0, none⟩)])) (f3 : w.cell? ⟨b, 3, none⟩ = some (.func (.func 100) #[] #[.pointer (some ⟨X, 0, none⟩), .pointer (some ⟨Y, 0, none⟩)]))
    (hs : w.cell? ⟨A, 5, none⟩ = some (.int .i32 s)) (hs' : w.cell? ⟨B, 5, none⟩ = some (.int .i32 s')) (hm : w.cell? ⟨A, 6, none⟩ = some (.int .u16 m)) (hm' : w.cell? ⟨B, 6, none⟩ = some (.int .u16 m'))
    (hx : w.cell? ⟨X, 0, none⟩ = some (.int .i64 x)) (hy : w.cell? ⟨Y, 0, none⟩ = some (.int .i64 y)) :
    Calls Try.prog 93 #[.slice (some ⟨b, 0, none⟩) 4 4] w fun e w' =>
      e = .returned (.int .i64 (firstOf (Od.comp s s') (Od.comp m m') (third x y) (fourth x y))) ∧ w = w' := by
  go_enter Try.func93, Try.ntmps93
  go_wp2_with fail
  refine wp_loop_rounds 5 ?_
  rw [rounds_succ]
  go_wp2_with fail
  refine (n1_any A B s s' w hs hs').mono ?_
  rintro e w' ⟨rfl, rfl⟩
  obtain ⟨c1, hc1⟩ : ∃ c, Od.comp s s' = c := ⟨_, rfl⟩
  rw [hc1]
  have HC1 := Lib.hid hc1
  clear hc1
  by_cases h1 : c1 = 0
  · subst h1
    go_wp2_with fail
    rw [rounds_succ]
    go_wp2_with fail
    refine (n2_any A B m m' w hm hm').mono ?_
    rintro e w' ⟨rfl, rfl⟩
    obtain ⟨c2, hc2⟩ : ∃ c, Od.comp m m' = c := ⟨_, rfl⟩
    rw [hc2]
    have HC2 := Lib.hid hc2
    clear hc2
    by_cases h2 : c2 = 0
    · subst h2
      go_wp2_with fail
      rw [rounds_succ]
      go_wp2_with fail
      refine (n3_any X Y x y w hx hy).mono ?_
      rintro e w' ⟨rfl, rfl⟩
      obtain ⟨c3, hc3⟩ : ∃ c, third x y = c := ⟨_, rfl⟩
      rw [hc3]
      have HC3 := Lib.hid hc3
      clear hc3
      by_cases h3 : c3 = 0
      · subst h3
        go_wp2_with fail
        rw [rounds_succ]
        go_wp2_with fail
        refine (n4_any X Y x y w x0 x1 y0 y1 hx hy).mono ?_
        rintro e w' ⟨rfl, rfl⟩
        obtain ⟨c4, hc4⟩ : ∃ c, fourth x y = c := ⟨_, rfl⟩
        rw [hc4]
        have HC4 := Lib.hid hc4
        clear hc4
        by_cases h4 : c4 = 0
        · subst h4
          go_wp2_with fail
          rw [rounds_succ]
          go_wp2_with fail
          go_ret
          exact ⟨ret_int (a := 0) (by simp [firstOf, HC1.out, HC2.out, HC3.out, HC4.out]), rfl⟩
        · have h4' : (c4 != 0) = true := by simpa using h4
          have H4 := Lib.hid h4
          clear h4
          go_wp2_with fail
          go_ret
          exact ⟨ret_int (a := c4) (by simp [firstOf, HC1.out, HC2.out, HC3.out, HC4.out]), rfl⟩
      · have h3' : (c3 != 0) = true := by simpa using h3
        have H3 := Lib.hid h3
        clear h3
        go_wp2_with fail
        go_ret
        exact ⟨ret_int (a := c3) (by rw [HC1.out, HC2.out, HC3.out]; simp [firstOf, H3.out]), rfl⟩
    · have h2' : (c2 != 0) = true := by simpa using h2
      have H2 := Lib.hid h2
      clear h2
      go_wp2_with fail
      go_ret
      exact ⟨ret_int (a := c2) (by rw [HC1.out, HC2.out]; simp [firstOf, H2.out]), rfl⟩
  · have h1' : (c1 != 0) = true := by simpa using h1
    have H1 := Lib.hid h1
    clear h1
    go_wp2_with fail
    go_ret
    exact ⟨ret_int (a := c1) (by rw [HC1.out]; simp [firstOf, H1.out]), rfl⟩

theorem two_new2 (w : World) (o1 o2 : Obj) (a b : Value) (t : TypeId) : ((((w.alloc o1).alloc o2).alloc (.cells #[a] t)).alloc (.cells #[b] t)).drew.cell? ⟨w.heap.size + 1 + 1, 0, none⟩ = some a ∧
    ((((w.alloc o1).alloc o2).alloc (.cells #[a] t)).alloc (.cells #[b] t)).drew.cell? ⟨w.heap.size + 1 + 1 + 1, 0, none⟩ = some b ∧
    Below (w.heap.size + 1 + 1) ((w.alloc o1).alloc o2) ((((w.alloc o1).alloc o2).alloc (.cells #[a] t)).alloc (.cells #[b] t)).drew := by
  have h1 := (((Blk.new ((w.alloc o1).alloc o2) t #[a]).alloc (.cells #[b] t)).drew).cell 0
  have h2 := ((Blk.new (((w.alloc o1).alloc o2).alloc (.cells #[a] t)) t #[b]).drew).cell 0
  rw [World.size_alloc, World.size_alloc] at h1
  rw [World.size_alloc, World.size_alloc, World.size_alloc] at h2
  exact ⟨h1, h2, (((Below.refl _ _).alloc (by simp) _).alloc (by simp) _).drew⟩

set_option maxHeartbeats 4000000 in
set_option maxRecDepth 100000 in
theorem newer_any (g o t i v s m l g' o' t' i' v' s' m' l' : Int) (w : World) (h0 : 0 ≤ g) (h1 : g ≤ 65535) (h0' : 0 ≤ g') (h1' : g' ≤ 65535) :
    Calls Try.prog 61 #[.agg #[.int .u16 g, .int .u8 o, .int .u8 t, .int .u32 i, .int .u32 v, .int .i32 s, .int .u16 m, .int .u16 l], .agg #[.int .u16 g', .int .u8 o', .int .u8 t', .int .u32 i', .int .u32 v', .int .i32 s', .int .u16 m', .int .u16 l']] w fun e w' =>
      e = .returned (.int .i64 (Od.newer ⟨g, o, t, i, v, s, m, l⟩ ⟨g', o', t', i', v', s', m', l'⟩)) ∧ Below w.heap.size w w' := by
  have hmf : ∀ (fn : Fn) (first cap : Array Value) (w : World), (Instr.makeFunc fn first cap).run Try.prog w = .ok (.func fn first cap) w := fun _ _ _ _ => rfl
  have hb2 : Hid (Below w.heap.size w ((w.alloc (.cells #[.int .u16 g, .int .u8 o, .int .u8 t, .int .u32 i, .int .u32 v, .int .i32 s, .int .u16 m, .int .u16 l] 59)).alloc (.cells #[.int .u16 g', .int .u8 o', .int .u8 t', .int .u32 i', .int .u32 v', .int .i32 s', .int .u16 m', .int .u16 l'] 59))) := ((Below.refl _ w).alloc (Nat.le_refl _) _).alloc (by simp) _
  go_enter Try.func61, Try.ntmps61
  go_upto_region 1 with fail
  go_cut [5, 6] (fun p5 p6 wx => ∃ X Y : Nat, p5 = .pointer (some ⟨X, 0, none⟩) ∧ p6 = .pointer (some ⟨Y, 0, none⟩) ∧ wx.cell? ⟨X, 0, none⟩ = some (.int .i64 (Od.years g)) ∧ wx.cell? ⟨Y, 0, none⟩ = some (.int .i64 (Od.years g')) ∧ X < wx.heap.size ∧ Y < wx.heap.size ∧
      Below (w.heap.size + 1 + 1) ((w.alloc (.cells #[.int .u16 g, .int .u8 o, .int .u8 t, .int .u32 i, .int .u32 v, .int .i32 s, .int .u16 m, .int .u16 l] 59)).alloc (.cells #[.int .u16 g', .int .u8 o', .int .u8 t', .int .u32 i', .int .u32 v', .int .i32 s', .int .u16 m', .int .u16 l'] 59)) wx)
  case first =>
    go_region_held3 (fun w' => w'.cell? ⟨w.heap.size, 0, none⟩ = some (.int .u16 g) ∧ w'.cell? ⟨w.heap.size + 1, 0, none⟩ = some (.int .u16 g'))
      (go_keep)
      ((go_at_call 92; refine (years_any _ _ (by assumption) (by assumption)).mono ?_; rintro e w' ⟨rfl, rfl⟩))
    all_goals
      go_wp2_with fail
      go_meet
      case rel =>
        first
          | exact ⟨_, _, rfl, rfl, (two_new2 w (.cells #[.int .u16 g, .int .u8 o, .int .u8 t, .int .u32 i, .int .u32 v, .int .i32 s, .int .u16 m, .int .u16 l] 59) (.cells #[.int .u16 g', .int .u8 o', .int .u8 t', .int .u32 i', .int .u32 v', .int .i32 s', .int .u16 m', .int .u16 l'] 59) _ _ 3).1, (two_new2 w (.cells #[.int .u16 g, .int .u8 o, .int .u8 t, .int .u32 i, .int .u32 v, .int .i32 s, .int .u16 m, .int .u16 l] 59) (.cells #[.int .u16 g', .int .u8 o', .int .u8 t', .int .u32 i', .int .u32 v', .int .i32 s', .int .u16 m', .int .u16 l'] 59) _ _ 3).2.1, by simp <;> omega, by simp <;> omega, (two_new2 w (.cells #[.int .u16 g, .int .u8 o, .int .u8 t, .int .u32 i, .int .u32 v, .int .i32 s, .int .u16 m, .int .u16 l] 59) (.cells #[.int .u16 g', .int .u8 o', .int .u8 t', .int .u32 i', .int .u32 v', .int .i32 s', .int .u16 m', .int .u16 l'] 59) _ _ 3).2.2⟩
          | exact ⟨_, _, rfl, rfl, (two_new2 w (.cells #[.int .u16 g, .int .u8 o, .int .u8 t, .int .u32 i, .int .u32 v, .int .i32 s, .int .u16 m, .int .u16 l] 59) (.cells #[.int .u16 g', .int .u8 o', .int .u8 t', .int .u32 i', .int .u32 v', .int .i32 s', .int .u16 m', .int .u16 l'] 59) _ _ 3).2.1, (two_new2 w (.cells #[.int .u16 g, .int .u8 o, .int .u8 t, .int .u32 i, .int .u32 v, .int .i32 s, .int .u16 m, .int .u16 l] 59) (.cells #[.int .u16 g', .int .u8 o', .int .u8 t', .int .u32 i', .int .u32 v', .int .i32 s', .int .u16 m', .int .u16 l'] 59) _ _ 3).1, by simp <;> omega, by simp <;> omega, (two_new2 w (.cells #[.int .u16 g, .int .u8 o, .int .u8 t, .int .u32 i, .int .u32 v, .int .i32 s, .int .u16 m, .int .u16 l] 59) (.cells #[.int .u16 g', .int .u8 o', .int .u8 t', .int .u32 i', .int .u32 v', .int .i32 s', .int .u16 m', .int .u16 l'] 59) _ _ 3).2.2⟩
  case rest =>
    obtain ⟨X, Y, rfl, rfl, hX, hY, hXl, hYl, hbx⟩ := hcut
    have hA := ((Blk.new w 59 #[.int .u16 g, .int .u8 o, .int .u8 t, .int .u32 i, .int .u32 v, .int .i32 s, .int .u16 m, .int .u16 l]).alloc (.cells #[.int .u16 g', .int .u8 o', .int .u8 t', .int .u32 i', .int .u32 v', .int .i32 s', .int .u16 m', .int .u16 l'] 59)).below hbx (by omega)
    have hB : Blk wc (w.heap.size + 1) 59 #[.int .u16 g', .int .u8 o', .int .u8 t', .int .u32 i', .int .u32 v', .int .i32 s', .int .u16 m', .int .u16 l'] := by
      have := (Blk.new (w.alloc (.cells #[.int .u16 g, .int .u8 o, .int .u8 t, .int .u32 i, .int .u32 v, .int .i32 s, .int .u16 m, .int .u16 l] 59)) 59 #[.int .u16 g', .int .u8 o', .int .u8 t', .int .u32 i', .int .u32 v', .int .i32 s', .int .u16 m', .int .u16 l']).below hbx (by simp)
      rw [World.size_alloc] at this
      exact this
    have hbelow : Below w.heap.size w wc := hb2.out.trans (hbx.mono (by omega))
    have hr0 := Od.years_range g
    have hr1 := Od.years_range g'
    have HA := Lib.hid hA
    have HB := Lib.hid hB
    have HX := Lib.hid hX
    have HY := Lib.hid hY
    clear hA hB hX hY hbx hb2
    go_wp2_with fail
    refine (first4_any wc.heap.size w.heap.size (w.heap.size + 1) X Y s s' m m' (Od.years g) (Od.years g') _ hr0.1 hr0.2 hr1.1 hr1.2 ((Blk.new wc _ _).cell 0) ((Blk.new wc _ _).cell 1) ((Blk.new wc _ _).cell 2) ((Blk.new wc _ _).cell 3)
      ((HA.out.alloc _).cell 5) ((HB.out.alloc _).cell 5) ((HA.out.alloc _).cell 6) ((HB.out.alloc _).cell 6) ((World.cell?_alloc_lt _ _ _ hXl).trans HX.out) ((World.cell?_alloc_lt _ _ _ hYl).trans HY.out)).mono ?_
    rintro e w2 ⟨rfl, rfl⟩
    have hfin : firstOf (Od.comp s s') (Od.comp m m') (third (Od.years g) (Od.years g')) (fourth (Od.years g) (Od.years g')) = Od.newer ⟨g, o, t, i, v, s, m, l⟩ ⟨g', o', t', i', v', s', m', l'⟩ := (newer_of ⟨g, o, t, i, v, s, m, l⟩ ⟨g', o', t', i', v', s', m', l'⟩).symm
    rw [hfin]
    clear hfin
    go_wp2_with fail
    go_ret
    exact ⟨rfl, hbelow.alloc hbelow.size _⟩

end Go.Proofs.Ytgbmhijgpdgdbaa
