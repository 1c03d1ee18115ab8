/- Plain law of the order: numbers, ages, heads, keys are compared; what newer means, from either side; time in pieces. No program in sight. -/
namespace Go.Proofs.Ytgbmhijgpdgdbaa
namespace Od

def comp (a b : Int) : Int := if a < b then -1 else if b < a then 1 else 0
def years (age : Int) : Int := min (age % 32768) 3600
def old (age : Int) : Bool := years age == 3600
def next (s : Int) : Int × Bool := if s = 2147483647 then (0, false) else (s + 1, true)
def age (g : Int) (passed : Int) : Int := if 32768 ≤ g ∨ passed < 1 then g else min (years g + min passed 3600) 3600

/-- A head: age, options, type, id, advertiser, number, sum, length. -/
structure Hd where
  g : Int
  o : Int
  t : Int
  i : Int
  v : Int
  s : Int
  m : Int
  l : Int
deriving DecidableEq

def newer (a b : Hd) : Int :=
  if comp a.s b.s ≠ 0 then comp a.s b.s
  else if comp a.m b.m ≠ 0 then comp a.m b.m
  else if old a.g ≠ old b.g then comp (years a.g) (years b.g)
  else if years a.g - years b.g > 900 ∨ years b.g - years a.g > 900 then comp (years b.g) (years a.g)
  else 0

/-- A key: type, id, advertiser. -/
structure Ky where
  t : Int
  i : Int
  v : Int
deriving DecidableEq
def keys (a b : Ky) : Int := if comp a.t b.t ≠ 0 then comp a.t b.t else if comp a.i b.i ≠ 0 then comp a.i b.i else comp a.v b.v

theorem comp_cases (a b : Int) : (a < b ∧ comp a b = -1) ∨ (a = b ∧ comp a b = 0) ∨ (b < a ∧ comp a b = 1) := by
  unfold comp
  rcases Int.lt_trichotomy a b with h | h | h
  · left; exact ⟨h, by rw [if_pos h]⟩
  · right; left; exact ⟨h, by rw [if_neg (by omega), if_neg (by omega)]⟩
  · right; right; exact ⟨h, by rw [if_neg (by omega), if_pos h]⟩
theorem comp_neg (a b : Int) : comp a b = -comp b a := by
  have := comp_cases a b; have := comp_cases b a; omega
theorem comp_zero (a b : Int) : comp a b = 0 ↔ a = b := by
  have := comp_cases a b; omega
theorem comp_one (a b : Int) : comp a b = 1 ↔ b < a := by
  have := comp_cases a b; omega
theorem comp_range (a b : Int) : -1 ≤ comp a b ∧ comp a b ≤ 1 := by have := comp_cases a b; omega
theorem years_range (g : Int) : 0 ≤ years g ∧ years g ≤ 3600 := by unfold years; omega
theorem old_iff (g : Int) : old g = true ↔ years g = 3600 := by simp [old]
theorem old_false (g : Int) : old g = false ↔ years g ≠ 3600 := by simp [old]

theorem newer_range (a b : Hd) : -1 ≤ newer a b ∧ newer a b ≤ 1 := by
  unfold newer
  have h1 := comp_range a.s b.s; have h2 := comp_range a.m b.m; have h3 := comp_range (years a.g) (years b.g); have h4 := comp_range (years b.g) (years a.g)
  split
  · exact h1
  · split
    · exact h2
    · split
      · exact h3
      · split
        · exact h4
        · omega

/-- P5.3 from either side. -/
theorem newer_neg (a b : Hd) : newer a b = -newer b a := by
  unfold newer
  have e1 := comp_neg a.s b.s; have e2 := comp_neg a.m b.m; have e3 := comp_neg (years a.g) (years b.g)
  by_cases h1 : comp a.s b.s = 0
  · have h1' : comp b.s a.s = 0 := by omega
    by_cases h2 : comp a.m b.m = 0
    · have h2' : comp b.m a.m = 0 := by omega
      simp only [h1, h1', h2, h2', ne_eq, not_true_eq_false, if_false]
      by_cases h3 : old a.g = old b.g
      · have h3' : old b.g = old a.g := h3.symm
        by_cases h4 : years a.g - years b.g > 900 ∨ years b.g - years a.g > 900
        · have h4' : years b.g - years a.g > 900 ∨ years a.g - years b.g > 900 := h4.symm
          simp only [h3, not_true_eq_false, if_false, h4, h4', if_true]; omega
        · have h4' : ¬ (years b.g - years a.g > 900 ∨ years a.g - years b.g > 900) := fun h => h4 h.symm
          simp only [h3, not_true_eq_false, if_false, h4, h4']; rfl
      · have h3' : ¬ old b.g = old a.g := fun e => h3 e.symm
        simp only [h3, h3', not_false_eq_true, if_true]; exact e3
    · have h2' : comp b.m a.m ≠ 0 := by omega
      simp only [h1, h1', ne_eq, not_true_eq_false, if_false, h2, not_false_eq_true, if_true, h2']
      exact e2
  · have h1' : comp b.s a.s ≠ 0 := by omega
    simp only [ne_eq, h1, h1', not_false_eq_true, if_true]
    exact e1
theorem newer_self (a : Hd) : newer a a = 0 := by have := newer_neg a a; omega

theorem newer_seq {a b : Hd} (h : b.s < a.s) : newer a b = 1 := by
  have h1 := (comp_one a.s b.s).2 h
  unfold newer; rw [if_pos (by omega)]; exact h1
theorem newer_sum {a b : Hd} (h : a.s = b.s) (hm : a.m ≠ b.m) : newer a b = comp a.m b.m := by
  have h1 := (comp_zero a.s b.s).2 h
  unfold newer; rw [if_neg (by omega), if_pos (fun e => hm ((comp_zero _ _).1 e))]

/-- Newer by the sums is handed on. -/
theorem newer_chain {a b c : Hd} (h1 : a.s = b.s) (h2 : b.s = c.s) (n1 : newer a b = 1) (n2 : newer b c = 1) (hm : a.m ≠ b.m) : newer a c = 1 := by
  rw [newer_sum h1 hm, comp_one] at n1
  have hbc : c.m ≤ b.m := by
    by_cases e : b.m = c.m
    · omega
    · rw [newer_sum h2 e, comp_one] at n2; omega
  rw [newer_sum (h1.trans h2) (by omega), comp_one]; omega

/-- Old age is newer than an age that is none. -/
theorem newer_old {a : Hd} (h : old a.g = false) : newer { a with g := 3600 } a = 1 := by
  have e : old 3600 = true := by decide
  have ey : years 3600 = 3600 := by decide
  have z1 := (comp_zero a.s a.s).2 rfl; have z2 := (comp_zero a.m a.m).2 rfl
  have hy := years_range a.g; have hn := (old_false _).1 h
  unfold newer
  simp only [z1, z2, ne_eq, not_true_eq_false, if_false, e, h, ey]
  rw [if_pos (by simp)]
  exact (comp_one _ _).2 (by omega)
theorem newer_old_same {a : Hd} (h : old a.g = true) : newer { a with g := 3600 } a = 0 := by
  have e : old 3600 = true := by decide
  have ey : years 3600 = 3600 := by decide
  have z1 := (comp_zero a.s a.s).2 rfl; have z2 := (comp_zero a.m a.m).2 rfl
  have hn := (old_iff _).1 h
  unfold newer
  simp only [z1, z2, ne_eq, not_true_eq_false, if_false, e, h, ey, hn]
  simp

/-- Time passes in pieces as at once. -/
theorem age_add {g p q : Int} (h0 : 0 ≤ g) (hp : 0 ≤ p) (hq : 0 ≤ q) : age g (p + q) = age (age g p) q := by
  unfold age years
  by_cases hg : 32768 ≤ g
  · simp [hg]
  · by_cases h1 : p < 1
    · have : p = 0 := by omega
      subst this; simp [hg]
    · by_cases h2 : q < 1
      · have : q = 0 := by omega
        subst this; simp
      · rw [if_neg (by omega), if_neg (by omega), if_neg (by omega)]
        omega
theorem age_old {g p : Int} (h : old g = true) : old (age g p) = true := by
  rw [old_iff] at h ⊢
  unfold age
  split
  · exact h
  · unfold years at h ⊢; omega
theorem age_range {g p : Int} (h0 : 0 ≤ g) (h1 : g < 65536) : 0 ≤ age g p ∧ age g p < 65536 := by
  unfold age
  split
  · omega
  · unfold years; omega

end Od
end Go.Proofs.Ytgbmhijgpdgdbaa
