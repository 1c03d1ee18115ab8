/- Words for memory: a slice that reads as a list; a block that is known whole (after the guide's page of small lemmas). -/
import Derived.Test.YtgbmhijgpdgdbaaRows
import Derived.WalkKit
import Derived.WalkSpells
import Derived.WalkLawsBesides
import Derived.Lib.Hide
import Derived.Laws.BitsAllLaws
import Derived.Below
import Derived.Laws.OwnMore
import Derived.Deep.AppendLies
import Derived.Deep.Draws
import Derived.Laws.Rows
namespace Go.Proofs.Ytgbmhijgpdgdbaa
namespace Od

def comp (a b : Int) : Int := if a < b then -1 else if b < a then 1 else 0
def years (age : Int) : Int := min (age % 32768) 3600
def old (age : Int) : Bool := years age == 3600
def next (s : Int) : Int × Bool := if s = 2147483647 then (0, false) else (s + 1, true)
def age (g : Int) (passed : Int) : Int := if 32768 ≤ g ∨ passed < 1 then g else min (years g + min passed 3600) 3600

/-- A head: age, options, type, id, advertiser, number, sum, length. -/
structure Hd where
  g : Int
  o : Int
  t : Int
  i : Int
  v : Int
  s : Int
  m : Int
  l : Int
deriving DecidableEq

def newer (a b : Hd) : Int :=
  if comp a.s b.s ≠ 0 then comp a.s b.s
  else if comp a.m b.m ≠ 0 then comp a.m b.m
  else if old a.g ≠ old b.g then comp (years a.g) (years b.g)
  else if years a.g - years b.g > 900 ∨ years b.g - years a.g > 900 then comp (years b.g) (years a.g)
  else 0

/-- A key: type, id, advertiser. -/
structure Ky where
  t : Int
  i : Int
  v : Int
deriving DecidableEq
def keys (a b : Ky) : Int := if comp a.t b.t ≠ 0 then comp a.t b.t else if comp a.i b.i ≠ 0 then comp a.i b.i else comp a.v b.v

theorem comp_cases (a b : Int) : (a < b ∧ comp a b = -1) ∨ (a = b ∧ comp a b = 0) ∨ (b < a ∧ comp a b = 1) := by
  unfold comp
  rcases Int.lt_trichotomy a b with h | h | h
  · left; exact ⟨h, by rw [if_pos h]⟩
  · right; left; exact ⟨h, by rw [if_neg (by omega), if_neg (by omega)]⟩
  · right; right; exact ⟨h, by rw [if_neg (by omega), if_pos h]⟩
theorem comp_neg (a b : Int) : comp a b = -comp b a := by
  have := comp_cases a b; have := comp_cases b a; omega
theorem comp_zero (a b : Int) : comp a b = 0 ↔ a = b := by
  have := comp_cases a b; omega
theorem comp_one (a b : Int) : comp a b = 1 ↔ b < a := by
  have := comp_cases a b; omega
theorem comp_range (a b : Int) : -1 ≤ comp a b ∧ comp a b ≤ 1 := by have := comp_cases a b; omega
theorem years_range (g : Int) : 0 ≤ years g ∧ years g ≤ 3600 := by unfold years; omega
theorem old_iff (g : Int) : old g = true ↔ years g = 3600 := by simp [old]
theorem old_false (g : Int) : old g = false ↔ years g ≠ 3600 := by simp [old]

theorem newer_range (a b : Hd) : -1 ≤ newer a b ∧ newer a b ≤ 1 := by
  unfold newer
  have h1 := comp_range a.s b.s; have h2 := comp_range a.m b.m; have h3 := comp_range (years a.g) (years b.g); have h4 := comp_range (years b.g) (years a.g)
  split
  · exact h1
  · split
    · exact h2
    · split
      · exact h3
      · split
        · exact h4
        · omega

/-- P5.3 from either side. -/
theorem newer_neg (a b : Hd) : newer a b = -newer b a := by
  unfold newer
  have e1 := comp_neg a.s b.s; have e2 := comp_neg a.m b.m; have e3 := comp_neg (years a.g) (years b.g)
  by_cases h1 : comp a.s b.s = 0
  · have h1' : comp b.s a.s = 0 := by omega
    by_cases h2 : comp a.m b.m = 0
    · have h2' : comp b.m a.m = 0 := by omega
      simp only [h1, h1', h2, h2', ne_eq, not_true_eq_false, if_false]
      by_cases h3 : old a.g = old b.g
      · have h3' : old b.g = old a.g := h3.symm
        by_cases h4 : years a.g - years b.g > 900 ∨ years b.g - years a.g > 900
        · have h4' : years b.g - years a.g > 900 ∨ years a.g - years b.g > 900 := h4.symm
          simp only [h3, not_true_eq_false, if_false, h4, h4', if_true]; omega
        · have h4' : ¬ (years b.g - years a.g > 900 ∨ years a.g - years b.g > 900) := fun h => h4 h.symm
          simp only [h3, not_true_eq_false, if_false, h4, h4']; rfl
      · have h3' : ¬ old b.g = old a.g := fun e => h3 e.symm
        simp only [h3, h3', not_false_eq_true, if_true]; exact e3
    · have h2' : comp b.m a.m ≠ 0 := by omega
      simp only [h1, h1', ne_eq, not_true_eq_false, if_false, h2, not_false_eq_true, if_true, h2']
      exact e2
  · have h1' : comp b.s a.s ≠ 0 := by omega
    simp only [ne_eq, h1, h1', not_false_eq_true, if_true]
    exact e1
theorem newer_self (a : Hd) : newer a a = 0 := by have := newer_neg a a; omega

theorem newer_seq {a b : Hd} (h : b.s < a.s) : newer a b = 1 := by
  have h1 := (comp_one a.s b.s).2 h
  unfold newer; rw [if_pos (by omega)]; exact h1
theorem newer_sum {a b : Hd} (h : a.s = b.s) (hm : a.m ≠ b.m) : newer a b = comp a.m b.m := by
  have h1 := (comp_zero a.s b.s).2 h
  unfold newer; rw [if_neg (by omega), if_pos (fun e => hm ((comp_zero _ _).1 e))]

/-- Newer by the sums is handed on. -/
theorem newer_chain {a b c : Hd} (h1 : a.s = b.s) (h2 : b.s = c.s) (n1 : newer a b = 1) (n2 : newer b c = 1) (hm : a.m ≠ b.m) : newer a c = 1 := by
  rw [newer_sum h1 hm, comp_one] at n1
  have hbc : c.m ≤ b.m := by
    by_cases e : b.m = c.m
    · omega
    · rw [newer_sum h2 e, comp_one] at n2; omega
  rw [newer_sum (h1.trans h2) (by omega), comp_one]; omega

/-- Old age is newer than an age that is none. -/
theorem newer_old {a : Hd} (h : old a.g = false) : newer { a with g := 3600 } a = 1 := by
  have e : old 3600 = true := by decide
  have ey : years 3600 = 3600 := by decide
  have z1 := (comp_zero a.s a.s).2 rfl; have z2 := (comp_zero a.m a.m).2 rfl
  have hy := years_range a.g; have hn := (old_false _).1 h
  unfold newer
  simp only [z1, z2, ne_eq, not_true_eq_false, if_false, e, h, ey]
  rw [if_pos (by simp)]
  exact (comp_one _ _).2 (by omega)
theorem newer_old_same {a : Hd} (h : old a.g = true) : newer { a with g := 3600 } a = 0 := by
  have e : old 3600 = true := by decide
  have ey : years 3600 = 3600 := by decide
  have z1 := (comp_zero a.s a.s).2 rfl; have z2 := (comp_zero a.m a.m).2 rfl
  have hn := (old_iff _).1 h
  unfold newer
  simp only [z1, z2, ne_eq, not_true_eq_false, if_false, e, h, ey, hn]
  simp

/-- Time passes in pieces as at once. -/
theorem age_add {g p q : Int} (h0 : 0 ≤ g) (hp : 0 ≤ p) (hq : 0 ≤ q) : age g (p + q) = age (age g p) q := by
  unfold age years
  by_cases hg : 32768 ≤ g
  · simp [hg]
  · by_cases h1 : p < 1
    · have : p = 0 := by omega
      subst this; simp [hg]
    · by_cases h2 : q < 1
      · have : q = 0 := by omega
        subst this; simp
      · rw [if_neg (by omega), if_neg (by omega), if_neg (by omega)]
        omega
theorem age_old {g p : Int} (h : old g = true) : old (age g p) = true := by
  rw [old_iff] at h ⊢
  unfold age
  split
  · exact h
  · unfold years at h ⊢; omega
theorem age_range {g p : Int} (h0 : 0 ≤ g) (h1 : g < 65536) : 0 ≤ age g p ∧ age g p < 65536 := by
  unfold age
  split
  · omega
  · unfold years; omega

end Od
end Go.Proofs.Ytgbmhijgpdgdbaa

namespace Go.Proofs.Ytgbmhijgpdgdbaa
open Go.RowKit

theorem ret_int {k : IntKind} {a b : Int} (h : a = b) : Ending.returned (.int k a) = .returned (.int k b) := by rw [h]
theorem ret_bool {a b : Bool} (h : a = b) : Ending.returned (.bool a) = .returned (.bool b) := by rw [h]

theorem andNot_years (g : Int) (h0 : 0 ≤ g) (h1 : g ≤ 65535) : bits .andNot .u16 g 32768 = g % 32768 := by
  rw [u16_andNot g 32768 h0 (by omega) (by omega) (by omega)]
  obtain ⟨n, rfl⟩ := Int.eq_ofNat_of_zero_le h0
  have := Nat.and_two_pow_sub_one_eq_mod n 15
  simp at this ⊢
  rw [this]; omega
theorem and_age (g : Int) (h0 : 0 ≤ g) (h1 : g ≤ 65535) : bits .and .u16 g 32768 = if 32768 ≤ g then 32768 else 0 := by
  rw [u16_and g 32768 h0 (by omega) (by omega) (by omega)]
  obtain ⟨n, rfl⟩ := Int.eq_ofNat_of_zero_le h0
  have h1 : n < 65536 := by omega
  simp only [Int.toNat_natCast]
  have e : (32768 : Int).toNat = 2 ^ 15 := by decide
  have ht : n.testBit 15 = decide (32768 ≤ n) := by
    rw [Nat.testBit_eq_decide_div_mod_eq, decide_eq_decide]
    omega
  have key : n &&& 2 ^ 15 = if n.testBit 15 then 2 ^ 15 else 0 := by
    apply Nat.eq_of_testBit_eq
    intro i
    rw [Nat.testBit_and, Nat.testBit_two_pow]
    by_cases hi : 15 = i
    · subst hi
      cases n.testBit 15
      · simp
      · simp only [if_true]; rw [Nat.testBit_two_pow]; simp
    · cases n.testBit 15
      · simp [hi]
      · simp only [if_true]; rw [Nat.testBit_two_pow]; simp [hi]
  rw [e, key, ht]
  by_cases h : 32768 ≤ n
  · rw [if_pos (show (32768 : Int) ≤ (n : Int) by omega)]; simp [h]
  · rw [if_neg (show ¬ (32768 : Int) ≤ (n : Int) by omega)]; simp [h]

set_option maxHeartbeats 400000 in
theorem years_any (g : Int) (w : World) (h0 : 0 ≤ g) (h1 : g ≤ 65535) : Calls Try.prog 92 #[.int .u16 g] w fun e w' => e = .returned (.int .i64 (Od.years g)) ∧ w = w' := by
  have hb := andNot_years g h0 h1
  have hm0 : 0 ≤ g % 32768 := by omega
  have hm1 : g % 32768 ≤ 32767 := by omega
  go_enter Try.func92, Try.ntmps92
  go_wp2
  all_goals
    clear hb
    go_ret
    exact ⟨ret_int (by unfold Od.years; omega), rfl⟩

set_option maxHeartbeats 400000 in
theorem ryears_any (g : Int) (w : World) (h0 : 0 ≤ g) (h1 : g ≤ 65535) : Calls Try.prog 58 #[.int .u16 g] w fun e w' => e = .returned (.int .i64 (Od.years g)) ∧ w = w' := by
  have hm0 : 0 ≤ g % 32768 := by omega
  have hm1 : g % 32768 ≤ 32767 := by omega
  go_enter Try.func58, Try.ntmps58
  go_wp2
  all_goals
    go_ret
    exact ⟨ret_int (by unfold Od.years; omega), rfl⟩

set_option maxHeartbeats 400000 in
theorem old_any (g : Int) (w : World) (h0 : 0 ≤ g) (h1 : g ≤ 65535) : Calls Try.prog 91 #[.int .u16 g] w fun e w' => e = .returned (.bool (Od.old g)) ∧ w = w' := by
  go_enter Try.func91, Try.ntmps91
  go_wp2_with (go_at_call 92; refine (years_any _ _ h0 h1).mono ?_; rintro e w' ⟨rfl, rfl⟩)
  go_ret
  exact ⟨rfl, rfl⟩

set_option maxHeartbeats 400000 in
theorem rold_any (g : Int) (w : World) (h0 : 0 ≤ g) (h1 : g ≤ 65535) : Calls Try.prog 48 #[.int .u16 g] w fun e w' => e = .returned (.bool (Od.old g)) ∧ w = w' := by
  go_enter Try.func48, Try.ntmps48
  go_wp2_with (go_at_call 58; refine (ryears_any _ _ h0 h1).mono ?_; rintro e w' ⟨rfl, rfl⟩)
  go_ret
  exact ⟨rfl, rfl⟩

theorem comp_lt {a b : Int} (h : a < b) : Od.comp a b = -1 := by unfold Od.comp; rw [if_pos h]
theorem comp_eq (a : Int) : Od.comp a a = 0 := (Od.comp_zero a a).2 rfl
theorem comp_gt {a b : Int} (h : b < a) : Od.comp a b = 1 := (Od.comp_one a b).2 h

set_option maxHeartbeats 400000 in
theorem cmp_i32 (a b : Int) (w : World) : Calls Try.prog 127 #[.int .i32 a, .int .i32 b] w fun e w' => e = .returned (.int .i64 (Od.comp a b)) ∧ w = w' := by
  rcases Int.lt_trichotomy a b with h | h | h
  · go_enter Try.func127, Try.ntmps127
    go_wp2
    go_ret
    exact ⟨ret_int (comp_lt h).symm, rfl⟩
  · subst h
    go_enter Try.func127, Try.ntmps127
    go_wp2
    go_ret
    exact ⟨ret_int (comp_eq a).symm, rfl⟩
  · have h' : ¬ a < b := by omega
    go_enter Try.func127, Try.ntmps127
    go_wp2
    go_ret
    exact ⟨ret_int (comp_gt h).symm, rfl⟩

set_option maxHeartbeats 400000 in
theorem cmp_u16 (a b : Int) (w : World) : Calls Try.prog 97 #[.int .u16 a, .int .u16 b] w fun e w' => e = .returned (.int .i64 (Od.comp a b)) ∧ w = w' := by
  rcases Int.lt_trichotomy a b with h | h | h
  · go_enter Try.func97, Try.ntmps97
    go_wp2
    go_ret
    exact ⟨ret_int (comp_lt h).symm, rfl⟩
  · subst h
    go_enter Try.func97, Try.ntmps97
    go_wp2
    go_ret
    exact ⟨ret_int (comp_eq a).symm, rfl⟩
  · have h' : ¬ a < b := by omega
    go_enter Try.func97, Try.ntmps97
    go_wp2
    go_ret
    exact ⟨ret_int (comp_gt h).symm, rfl⟩

set_option maxHeartbeats 400000 in
theorem cmp_int (a b : Int) (w : World) : Calls Try.prog 99 #[.int .i64 a, .int .i64 b] w fun e w' => e = .returned (.int .i64 (Od.comp a b)) ∧ w = w' := by
  rcases Int.lt_trichotomy a b with h | h | h
  · go_enter Try.func99, Try.ntmps99
    go_wp2
    go_ret
    exact ⟨ret_int (comp_lt h).symm, rfl⟩
  · subst h
    go_enter Try.func99, Try.ntmps99
    go_wp2
    go_ret
    exact ⟨ret_int (comp_eq a).symm, rfl⟩
  · have h' : ¬ a < b := by omega
    go_enter Try.func99, Try.ntmps99
    go_wp2
    go_ret
    exact ⟨ret_int (comp_gt h).symm, rfl⟩

set_option maxHeartbeats 400000 in
theorem rcomp_any (a b : Int) (w : World) : Calls Try.prog 57 #[.int .i64 a, .int .i64 b] w fun e w' => e = .returned (.int .i64 (Od.comp a b)) ∧ w = w' := by
  rcases Int.lt_trichotomy a b with h | h | h
  · go_enter Try.func57, Try.ntmps57
    go_wp2
    go_ret
    exact ⟨ret_int (comp_lt h).symm, rfl⟩
  · subst h
    go_enter Try.func57, Try.ntmps57
    go_wp2
    go_ret
    exact ⟨ret_int (comp_eq a).symm, rfl⟩
  · have h' : ¬ a < b := by omega
    go_enter Try.func57, Try.ntmps57
    go_wp2
    go_ret
    exact ⟨ret_int (comp_gt h).symm, rfl⟩

set_option maxHeartbeats 400000 in
theorem seq_any (a b : Int) (w : World) : Calls Try.prog 95 #[.int .i32 a, .int .i32 b] w fun e w' => e = .returned (.int .i64 (Od.comp a b)) ∧ w = w' := by
  go_enter Try.func95, Try.ntmps95
  go_wp2_with (go_at_call 127; refine (cmp_i32 _ _ _).mono ?_; rintro e w' ⟨rfl, rfl⟩)
  go_ret
  exact ⟨rfl, rfl⟩

set_option maxHeartbeats 400000 in
theorem rseq_any (a b : Int) (w : World) (ha : -2147483648 ≤ a) (ha' : a ≤ 2147483647) (hb : -2147483648 ≤ b) (hb' : b ≤ 2147483647) : Calls Try.prog 56 #[.int .i32 a, .int .i32 b] w fun e w' => e = .returned (.int .i64 (Od.comp a b)) ∧ w = w' := by
  go_enter Try.func56, Try.ntmps56
  go_wp2_with (go_at_call 57; refine (rcomp_any _ _ _).mono ?_; rintro e w' ⟨rfl, rfl⟩)
  go_ret
  exact ⟨rfl, rfl⟩

end Go.Proofs.Ytgbmhijgpdgdbaa

namespace Go.Proofs.Ytgbmhijgpdgdbaa
open Go.RowKit

theorem block_of_add (a : Addr) (n : Nat) : (a.add n).block = a.block := by unfold Addr.add; split <;> rfl
theorem add_of_add (a : Addr) (i j : Nat) : (a.add i).add j = a.add (i + j) := by
  unfold Addr.add
  by_cases hi : i = 0 <;> by_cases hj : j = 0 <;> simp [hi, hj, Nat.add_assoc]

def Reads (w : World) (B size : Nat) (A : Option Addr) (n : Nat) (xs : List Value) : Prop :=
  xs.length = n * size ∧ (0 < n → ∃ ad, A = some ad ∧ ad.block < B ∧ ∀ j u, xs[j]? = some u → w.cell? (ad.add j) = some u)

section
variable {w w' : World} {B B' size n : Nat} {A : Option Addr} {xs : List Value}
theorem Reads.none_ : Reads w B size A 0 [] := ⟨by simp, fun h => absurd h (by omega)⟩
theorem Reads.at_ {k : Nat} (h : Reads w B 1 A n xs) (hk : k < n) : ∃ ad u, A = some ad ∧ ad.block < B ∧ xs[k]? = some u ∧ w.cell? (ad.add k) = some u := by
  obtain ⟨ad, e, hb, hc⟩ := h.2 (by omega)
  have hl : k < xs.length := by have := h.1; omega
  exact ⟨ad, xs[k], e, hb, List.getElem?_eq_getElem hl, hc k _ (List.getElem?_eq_getElem hl)⟩
theorem Reads.keep (h : Reads w B size A n xs) (hk : ∀ p : Addr, p.block < B → w'.cell? p = w.cell? p) : Reads w' B size A n xs :=
  ⟨h.1, fun hn => by
    obtain ⟨ad, e, hb, hc⟩ := h.2 hn
    exact ⟨ad, e, hb, fun j u hu => (hk _ (by rw [block_of_add]; exact hb)).trans (hc j u hu)⟩⟩
theorem Reads.more (h : Reads w B size A n xs) (hB : B ≤ B') : Reads w B' size A n xs :=
  ⟨h.1, fun hn => by
    obtain ⟨ad, e, hb, hc⟩ := h.2 hn
    exact ⟨ad, e, by omega, hc⟩⟩
theorem Reads.below (h : Reads w B size A n xs) (hb : Below B w w') : Reads w' B size A n xs := h.keep fun _ hp => hb.cell hp
theorem Reads.drew (h : Reads w B size A n xs) : Reads w.drew B size A n xs := h
theorem Reads.drewN (h : Reads w B size A n xs) (k : Nat) : Reads (w.drewN k) B size A n xs := h
theorem Reads.alloc (h : Reads w B size A n xs) (hB : B ≤ w.heap.size) (o : Obj) : Reads (w.alloc o) B size A n xs := h.keep fun p hp => World.cell?_alloc_lt w o p (by omega)
theorem Reads.setCell (h : Reads w B size A n xs) {p : Addr} (hB : B ≤ p.block) (u : Value) : Reads (w.setCell p u) B size A n xs :=
  h.keep fun q hq => World.cell?_setCell_other w p q u (fun e => by subst e; omega)
theorem Reads.grown (h : Reads w B size A n xs) {row : Option Nat} (hg : w.grownBy w' row) (hB : B ≤ w.heap.size) (hr : ∀ g, row = some g → B ≤ g) : Reads w' B size A n xs :=
  h.keep fun p hp => World.cell?_of_block (hg.block p.block (by omega) (fun e => by have := hr _ e.symm; omega))
theorem Reads.cut (h : Reads w B size A n xs) {k cap : Nat} (hk : k ≤ n) (hc : n ≤ cap) :
    Reads w B size (if cap = k then A else A.map (·.add (k * size))) (n - k) (xs.drop (k * size)) := by
  refine ⟨by rw [List.length_drop, h.1, Nat.sub_mul], fun hn => ?_⟩
  obtain ⟨ad, rfl, hb, hcell⟩ := h.2 (by omega)
  rw [if_neg (by omega)]
  refine ⟨ad.add (k * size), rfl, by rw [block_of_add]; exact hb, fun j u hu => ?_⟩
  rw [add_of_add]
  exact hcell _ u (by rw [← hu, List.getElem?_drop])
theorem Reads.of_own {base : Nat} {e : TypeId} {c : Nat} (h : w.ownsRow base e size (.slice A n c) n xs) : Reads w w.heap.size size A n xs := by
  refine ⟨h.1, fun hn => ?_⟩
  obtain ⟨g, cap, hv, _, hlt⟩ := h.form hn
  have hA : A = some ⟨g, 0, none⟩ := by injection hv
  subst hA
  exact ⟨_, rfl, hlt, h.cells (g := g) rfl⟩
end

def Blk (w : World) (g : Nat) (t : TypeId) (cs : Array Value) : Prop := w.heap[g]? = some (.cells cs t (0, 0))

section
variable {w w' : World} {g : Nat} {t : TypeId} {cs : Array Value}
theorem Blk.lt (h : Blk w g t cs) : g < w.heap.size := by
  rcases Nat.lt_or_ge g w.heap.size with hlt | hge
  · exact hlt
  · unfold Blk at h; rw [Array.getElem?_eq_none hge] at h; cases h
theorem Blk.cell (h : Blk w g t cs) (i : Nat) : w.cell? ⟨g, i, none⟩ = cs[i]? := cell_of_row w g i cs t (0, 0) h
theorem Blk.frozen (h : Blk w g t cs) (i : Nat) : w.frozen? ⟨g, i, none⟩ = false := by
  unfold Blk at h
  simp [World.frozen?, h]
theorem Blk.new (w : World) (t : TypeId) (cs : Array Value) : Blk (w.alloc (.cells cs t)) w.heap.size t cs := heap_alloc_new w _
theorem Blk.drew (h : Blk w g t cs) : Blk w.drew g t cs := h
theorem Blk.drewN (h : Blk w g t cs) (n : Nat) : Blk (w.drewN n) g t cs := h
theorem Blk.alloc (h : Blk w g t cs) (o : Obj) : Blk (w.alloc o) g t cs := (Below.heap_alloc w o g h.lt).trans h
theorem Blk.set_ (h : Blk w g t cs) (i : Nat) (u : Value) : Blk (w.setCell ⟨g, i, none⟩ u) g t (cs.setIfInBounds i u) := by
  unfold Blk at h ⊢
  simp [World.setCell, Array.getElem?_modify, h]
theorem Blk.far (h : Blk w g t cs) {p : Addr} (hp : g ≠ p.block) (u : Value) : Blk (w.setCell p u) g t cs := (Below.heap_setCell w p u g hp).trans h
theorem Blk.below {B : Nat} (h : Blk w g t cs) (hb : Below B w w') (hg : g < B) : Blk w' g t cs := (hb.block g hg).trans h
theorem Blk.grown {row : Option Nat} (h : Blk w g t cs) (hb : w.grownBy w' row) (hg : some g ≠ row) : Blk w' g t cs := (hb.block g h.lt hg).trans h
theorem Blk.ne_ {g' : Nat} {t' : TypeId} {cs' : Array Value} (h : Blk w g t cs) (h' : Blk w g' t' cs') (hne : t ≠ t') : g ≠ g' := by
  rintro rfl
  unfold Blk at h h'
  rw [h] at h'
  injection h' with h'
  injection h' with _ ht
  exact hne ht
theorem own_blk_ne {base : Nat} {e : TypeId} {size n : Nat} {v : Value} {xs : List Value} (h : w.ownsRow base e size v n xs) (hg : Blk w g t cs) (hne : e ≠ t) : v.ownBlock ≠ some g := by
  rcases h.2 with ⟨rfl, _⟩ | ⟨g', cap, cur, rfl, _, hh, _⟩
  · simp [Value.ownBlock]
  · intro he
    have : g' = g := by simpa [Value.ownBlock] using he
    subst this
    exact Blk.ne_ (t := e) hh hg hne rfl
end

end Go.Proofs.Ytgbmhijgpdgdbaa
