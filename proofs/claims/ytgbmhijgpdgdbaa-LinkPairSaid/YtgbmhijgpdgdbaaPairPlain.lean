/- What two links on one wire come to: the plain law. -/
import Derived.Test.YtgbmhijgpdgdbaaElectAll
namespace Go.Proofs.Ytgbmhijgpdgdbaa
namespace Pr
open El

section
variable {r a p r' a' q d b d' b' : Int}

theorem el_win (ha : a ≠ 0) (ha' : a' ≠ 0) (hne : a ≠ a') (hp : p ≠ 0) (hq : q ≠ 0) (h : q < p ∨ (q = p ∧ r' < r)) : elect ⟨r, a, p, 0, 0⟩ [⟨r', a', q, 0, 0⟩] = (a, a') := by
  have e0 : ((0 : Int) == a) = false := by simpa using fun e => ha e.symm
  have e0' : ((0 : Int) == a') = false := by simpa using fun e => ha' e.symm
  have e1 : (a == 0) = false := by simpa using ha
  have e1' : (a' == 0) = false := by simpa using ha'
  have e3 : (a == a') = false := by simpa using hne
  have e3' : (a' == a) = false := by simpa using fun e => hne e.symm
  have e2 : (p == 0) = false := by simpa using hp
  have e2' : (q == 0) = false := by simpa using hq
  have h1 : (decide (p < q) || q == p && decide (r < r')) = false := by
    rcases h with h | ⟨rfl, h⟩
    · simp; omega
    · simp; omega
  simp [elect, once, second, best, stepB, cC, cR, cB, chief, backup, isC, isB, addr, now, over, bne, e0, e0', e1, e1', e2, e2', h1]

theorem el_lose (ha : a ≠ 0) (ha' : a' ≠ 0) (hne : a ≠ a') (hp : p ≠ 0) (hq : q ≠ 0) (h : p < q ∨ (q = p ∧ r < r')) : elect ⟨r, a, p, 0, 0⟩ [⟨r', a', q, 0, 0⟩] = (a', a') := by
  have e0 : ((0 : Int) == a) = false := by simpa using fun e => ha e.symm
  have e0' : ((0 : Int) == a') = false := by simpa using fun e => ha' e.symm
  have e1 : (a == 0) = false := by simpa using ha
  have e1' : (a' == 0) = false := by simpa using ha'
  have e3 : (a == a') = false := by simpa using hne
  have e3' : (a' == a) = false := by simpa using fun e => hne e.symm
  have e2 : (p == 0) = false := by simpa using hp
  have e2' : (q == 0) = false := by simpa using hq
  have h1 : (decide (p < q) || q == p && decide (r < r')) = true := by
    rcases h with h | ⟨rfl, h⟩
    · simp; omega
    · simp; omega
  simp [elect, once, second, best, stepB, cC, cR, cB, chief, backup, isC, isB, addr, over, bne, e0, e0', e1, e1', e2, e2', e3', h1]

theorem el_lose2 (ha : a ≠ 0) (ha' : a' ≠ 0) (hne : a ≠ a') (hp : p ≠ 0) (hq : q ≠ 0) : elect ⟨r, a, p, a', a'⟩ [⟨r', a', q, a', a⟩] = (a', a) := by
  have e0 : ((0 : Int) == a) = false := by simpa using fun e => ha e.symm
  have e0' : ((0 : Int) == a') = false := by simpa using fun e => ha' e.symm
  have e1 : (a == 0) = false := by simpa using ha
  have e1' : (a' == 0) = false := by simpa using ha'
  have e3 : (a == a') = false := by simpa using hne
  have e3' : (a' == a) = false := by simpa using fun e => hne e.symm
  have e2 : (p == 0) = false := by simpa using hp
  have e2' : (q == 0) = false := by simpa using hq
  simp [elect, once, second, best, stepB, cC, cR, cB, chief, backup, isC, isB, addr, now, bne, e0, e1, e1', e2, e2', e3, e3']

theorem el_win2 (ha : a ≠ 0) (ha' : a' ≠ 0) (hne : a ≠ a') (hp : p ≠ 0) (hq : q ≠ 0) : elect ⟨r, a, p, a, a'⟩ [⟨r', a', q, a, a'⟩] = (a, a') := by
  have e0 : ((0 : Int) == a) = false := by simpa using fun e => ha e.symm
  have e0' : ((0 : Int) == a') = false := by simpa using fun e => ha' e.symm
  have e1 : (a == 0) = false := by simpa using ha
  have e1' : (a' == 0) = false := by simpa using ha'
  have e3 : (a == a') = false := by simpa using hne
  have e3' : (a' == a) = false := by simpa using fun e => hne e.symm
  have e2 : (p == 0) = false := by simpa using hp
  have e2' : (q == 0) = false := by simpa using hq
  simp [elect, once, second, best, stepB, cC, cB, chief, backup, isC, isB, addr, bne, e1, e1', e2, e2', e3, e3']

theorem el_zero (ha : a ≠ 0) (ha' : a' ≠ 0) (hne : a ≠ a') (hq : q ≠ 0) : elect ⟨r, a, 0, 0, 0⟩ [⟨r', a', q, 0, 0⟩] = (a', a') := by
  have e0 : ((0 : Int) == a) = false := by simpa using fun e => ha e.symm
  have e0' : ((0 : Int) == a') = false := by simpa using fun e => ha' e.symm
  have e1 : (a == 0) = false := by simpa using ha
  have e1' : (a' == 0) = false := by simpa using ha'
  have e3 : (a == a') = false := by simpa using hne
  have e3' : (a' == a) = false := by simpa using fun e => hne e.symm
  have e2' : (q == 0) = false := by simpa using hq
  simp [elect, once, second, best, stepB, cC, cR, cB, chief, backup, isC, isB, addr, bne, e0, e0', e1, e1', e2', e3']

theorem el_zero2 (ha : a ≠ 0) (ha' : a' ≠ 0) (hne : a ≠ a') (hq : q ≠ 0) : elect ⟨r, a, 0, a', a'⟩ [⟨r', a', q, a', 0⟩] = (a', 0) := by
  have e0 : ((0 : Int) == a) = false := by simpa using fun e => ha e.symm
  have e0' : ((0 : Int) == a') = false := by simpa using fun e => ha' e.symm
  have e1 : (a == 0) = false := by simpa using ha
  have e1' : (a' == 0) = false := by simpa using ha'
  have e3 : (a == a') = false := by simpa using hne
  have e3' : (a' == a) = false := by simpa using fun e => hne e.symm
  have e2' : (q == 0) = false := by simpa using hq
  simp [elect, once, second, best, stepB, cC, cR, cB, chief, backup, isC, isB, addr, bne, e0, e0', e1, e1', e2', e3']

theorem el_alone (ha : a ≠ 0) (hp : p ≠ 0) : elect ⟨r, a, p, 0, 0⟩ [⟨r', a', 0, d, b⟩] = (a, 0) := by
  have e0 : ((0 : Int) == a) = false := by simpa using fun e => ha e.symm
  have e1 : (a == 0) = false := by simpa using ha
  have e2 : (p == 0) = false := by simpa using hp
  simp [elect, once, second, best, stepB, cC, cR, cB, chief, backup, isC, isB, addr, now, bne, e0, e1, e2]

theorem el_none (ha : a ≠ 0) : elect ⟨r, a, 0, 0, 0⟩ [⟨r', a', 0, d, b⟩] = (0, 0) := by
  have e0 : ((0 : Int) == a) = false := by simpa using fun e => ha e.symm
  have e1 : (a == 0) = false := by simpa using ha
  simp [elect, once, second, best, stepB, cC, cR, cB, chief, backup, isC, isB, addr, bne, e0, e1]

end

/-- One side's word changes so. -/
def chV (a' : Int) (u u' : Int × Int) : Bool := ((u.1 == a') != (u'.1 == a')) || ((u.2 == a') != (u'.2 == a'))

/-- One side: its own router, address, priority; the other's. -/
structure Sde where
  r : Int
  a : Int
  p : Int
  r' : Int
  a' : Int
  q : Int

def Sde.el (s : Sde) (u u' : Int × Int) : Int × Int := elect ⟨s.r, s.a, s.p, u.1, u.2⟩ [⟨s.r', s.a', s.q, u'.1, u'.2⟩]

/-- What a side says behind t ticks, V, where the other says U. -/
structure Steps (s : Sde) (H D : Nat) (V U : Nat → Int × Int) : Prop where
  v0 : V 0 = (0, 0)
  wait : s.p ≠ 0 → ∀ t, t < D → (U t).1 ≠ s.a' ∧ (U t).2 ≠ s.a'
  lt : s.p ≠ 0 → ∀ t, t < D → V t = (0, 0)
  step : ∀ t, V (t + 1) = (if s.p ≠ 0 ∧ t + 1 = D then s.el (if t % H = 0 ∧ t ≠ 0 ∧ ¬ (s.p ≠ 0 ∧ t < D) ∧ (t = H ∨ chV s.a' (U (t - H)) (U t) = true) then s.el (V t) (U t) else V t) (U (t - t % H))
    else if t % H = 0 ∧ t ≠ 0 ∧ ¬ (s.p ≠ 0 ∧ t < D) ∧ (t = H ∨ chV s.a' (U (t - H)) (U t) = true) then s.el (V t) (U t) else V t)

theorem mult_eq {H t T : Nat} (_hH : 0 < H) (ht : t % H = 0) (hT : T % H = 0) (h1 : t < T + H) (h2 : T < t + H) : t = T := by
  obtain ⟨m, rfl⟩ := Nat.dvd_of_mod_eq_zero ht
  obtain ⟨n, rfl⟩ := Nat.dvd_of_mod_eq_zero hT
  have h3 : H * m < H * (n + 1) := by rw [Nat.mul_add]; omega
  have h4 : H * n < H * (m + 1) := by rw [Nat.mul_add]; omega
  have h5 := Nat.lt_of_mul_lt_mul_left h3
  have h6 := Nat.lt_of_mul_lt_mul_left h4
  have : m = n := by omega
  rw [this]

theorem chV_no {a' : Int} {u u' : Int × Int} (h' : u'.1 ≠ a' ∧ u'.2 ≠ a') (h : u.1 ≠ a' ∧ u.2 ≠ a') : chV a' u u' = false := by
  have f1 : (u.1 == a') = false := by simpa using h.1
  have f2 : (u.2 == a') = false := by simpa using h.2
  have f3 : (u'.1 == a') = false := by simpa using h'.1
  have f4 : (u'.2 == a') = false := by simpa using h'.2
  simp [chV, f1, f2, f3, f4]
theorem chV_first {a' y : Int} (z : (0 : Int) ≠ a') : chV a' (0, 0) (a', y) = true := by
  have f1 : ((0 : Int) == a') = false := by simpa using z
  show (((0 : Int) == a') != (a' == a') || _) = true
  rw [f1, beq_self_eq_true]
  rfl
theorem chV_same {a' : Int} {u : Int × Int} : chV a' u u = false := by simp [chV]

section
variable {s : Sde} {H D T : Nat}

/-- The winner's word, and the loser's. -/
def vWin (a a' : Int) (D : Nat) (t : Nat) : Int × Int := if t < D then (0, 0) else (a, a')
def vLose (a a' : Int) (D T : Nat) (t : Nat) : Int × Int := if t < D then (0, 0) else if t ≤ T then (a', a') else (a', a)
def vAlone (a : Int) (D : Nat) (t : Nat) : Int × Int := if t < D then (0, 0) else (a, 0)
def vZero (a' : Int) (H T : Nat) (t : Nat) : Int × Int := if t ≤ H then (0, 0) else if t ≤ T then (a', a') else (a', 0)

theorem vLose_mid {a a' : Int} {D T t : Nat} (h : ¬ t < D) (h1 : t ≤ T) : vLose a a' D T t = (a', a') := by rw [vLose, if_neg h, if_pos h1]
theorem vLose_hi {a a' : Int} {D T t : Nat} (h : ¬ t < D) (h1 : ¬ t ≤ T) : vLose a a' D T t = (a', a) := by rw [vLose, if_neg h, if_neg h1]
theorem vZero_lo {a' : Int} {H T t : Nat} (h : t ≤ H) : vZero a' H T t = (0, 0) := if_pos h
theorem vZero_mid {a' : Int} {H T t : Nat} (h : ¬ t ≤ H) (h1 : t ≤ T) : vZero a' H T t = (a', a') := by rw [vZero, if_neg h, if_pos h1]
theorem vZero_hi {a' : Int} {H T t : Nat} (h : ¬ t ≤ H) (h1 : ¬ t ≤ T) : vZero a' H T t = (a', 0) := by rw [vZero, if_neg h, if_neg h1]

theorem steps_win (ha : s.a ≠ 0) (ha' : s.a' ≠ 0) (hne : s.a ≠ s.a') (hp : s.p ≠ 0) (hq : s.q ≠ 0) (h : s.q < s.p ∨ (s.q = s.p ∧ s.r' < s.r)) (hH : 0 < H) (hD : H < D) : Steps s H D (vWin s.a s.a' D) (vLose s.a' s.a D T) := by
  have z : (0 : Int) ≠ s.a' := fun e => ha' e.symm
  refine ⟨?_, fun _ t ht => ?_, fun _ t ht => ?_, fun t => ?_⟩
  · simp [vWin]; omega
  · simp [vLose, ht, z]
  · simp [vWin, ht]
  · by_cases h1 : t + 1 = D
    · have hA : t < D := by omega
      have hB : t - t % H < D := by omega
      have hC : ¬ t + 1 < D := by omega
      simp only [h1, hp, ne_eq, not_false_eq_true, true_and, hA, not_true_eq_false, false_and, and_false, if_false, if_true]
      rw [vWin, if_neg (by omega), vWin, if_pos hA, vLose, if_pos hB]
      exact (el_win ha ha' hne hp hq h).symm
    · simp only [h1, and_false, if_false]
      by_cases h2 : t < D
      · have hC : t + 1 < D := by omega
        simp only [h2, hp, ne_eq, not_false_eq_true, true_and, not_true_eq_false, false_and, and_false, if_false]
        rw [vWin, vWin, if_pos hC, if_pos h2]
      · have hC : ¬ t + 1 < D := by omega
        rw [show vWin s.a s.a' D (t + 1) = (s.a, s.a') from if_neg hC, show vWin s.a s.a' D t = (s.a, s.a') from if_neg h2]
        split
        · rename_i hh
          obtain ⟨h3, h4, h5, h6⟩ := hh
          have h7 : t ≠ H := by omega
          have hch := h6.resolve_left h7
          by_cases h8 : t ≤ T
          · have e1 : ∀ u, u ≤ t → (vLose s.a' s.a D T u).1 ≠ s.a' ∧ (vLose s.a' s.a D T u).2 ≠ s.a' := fun u hu => by
              unfold vLose
              split
              · exact ⟨z, z⟩
              · rw [if_pos (by omega)]
                exact ⟨hne, hne⟩
            exact absurd hch (by rw [chV_no (e1 t (Nat.le_refl _)) (e1 (t - H) (by omega))]; decide)
          · rw [show vLose s.a' s.a D T t = (s.a, s.a') by simp [vLose, h2, h8]]
            exact (el_win2 ha ha' hne hp hq).symm
        · rfl

theorem steps_lose (ha : s.a ≠ 0) (ha' : s.a' ≠ 0) (hne : s.a ≠ s.a') (hp : s.p ≠ 0) (hq : s.q ≠ 0) (h : s.p < s.q ∨ (s.q = s.p ∧ s.r < s.r')) (hH : 0 < H) (hD : H < D) (hT : T % H = 0) (hT1 : D ≤ T) (hT2 : T < D + H) : Steps s H D (vLose s.a s.a' D T) (vWin s.a' s.a D) := by
  have z : (0 : Int) ≠ s.a' := fun e => ha' e.symm
  refine ⟨?_, fun _ t ht => ?_, fun _ t ht => ?_, fun t => ?_⟩
  · simp [vLose]; omega
  · simp [vWin, ht, z]
  · simp [vLose, ht]
  · by_cases h1 : t + 1 = D
    · have hA : t < D := by omega
      have hB : t - t % H < D := by omega
      simp only [h1, hp, ne_eq, not_false_eq_true, true_and, hA, not_true_eq_false, false_and, and_false, if_false, if_true]
      rw [vLose, if_neg (by omega), if_pos (by omega), vLose, if_pos hA, vWin, if_pos hB]
      exact (el_lose ha ha' hne hp hq h).symm
    · simp only [h1, and_false, if_false]
      by_cases h2 : t < D
      · have hC : t + 1 < D := by omega
        simp only [h2, hp, ne_eq, not_false_eq_true, true_and, not_true_eq_false, false_and, and_false, if_false]
        rw [vLose, vLose, if_pos hC, if_pos h2]
      · have hC : ¬ t + 1 < D := by omega
        have hU : vWin s.a' s.a D t = (s.a', s.a) := if_neg h2
        by_cases h3 : t % H = 0
        · by_cases h4 : t - H < D
          · obtain rfl : t = T := mult_eq hH h3 hT (by omega) (by omega)
            have hU' : vWin s.a' s.a D (t - H) = (0, 0) := if_pos h4
            have hc : chV s.a' (0, 0) (s.a', s.a) = true := chV_first z
            rw [hU, hU', hc, if_pos ⟨h3, by omega, fun e => h2 e.2, .inr rfl⟩]
            rw [show vLose s.a s.a' D t t = (s.a', s.a') from vLose_mid (by omega) (by omega), show vLose s.a s.a' D t (t + 1) = (s.a', s.a) from vLose_hi (by omega) (by omega)]
            exact (el_lose2 ha ha' hne hp hq).symm
          · have hU' : vWin s.a' s.a D (t - H) = (s.a', s.a) := if_neg h4
            have hTt : ¬ t ≤ T := by
              intro hle
              have h5 : t = T := mult_eq hH h3 hT (by omega) (by omega)
              omega
            rw [hU, hU', chV_same, if_neg (fun e => by rcases e.2.2.2 with e | e; · omega
                                                       · cases e)]
            rw [show vLose s.a s.a' D T t = (s.a', s.a) from vLose_hi (by omega) (by omega), show vLose s.a s.a' D T (t + 1) = (s.a', s.a) from vLose_hi (by omega) (by omega)]
        · rw [if_neg (fun e => h3 e.1)]
          have hTt : t ≠ T := fun e => h3 (by rw [e]; exact hT)
          by_cases h5 : t ≤ T
          · rw [show vLose s.a s.a' D T t = (s.a', s.a') from vLose_mid (by omega) (by omega), show vLose s.a s.a' D T (t + 1) = (s.a', s.a') from vLose_mid (by omega) (by omega)]
          · rw [show vLose s.a s.a' D T t = (s.a', s.a) from vLose_hi (by omega) (by omega), show vLose s.a s.a' D T (t + 1) = (s.a', s.a) from vLose_hi (by omega) (by omega)]

theorem steps_zero (ha : s.a ≠ 0) (ha' : s.a' ≠ 0) (hne : s.a ≠ s.a') (hp : s.p = 0) (hq : s.q ≠ 0) (hH : 0 < H) (hD : H < D) (hT : T % H = 0) (hT1 : D ≤ T) (hT2 : T < D + H) : Steps s H D (vZero s.a' H T) (vAlone s.a' D) := by
  have z : (0 : Int) ≠ s.a' := fun e => ha' e.symm
  refine ⟨by simp [vZero], fun h => absurd hp h, fun h => absurd hp h, fun t => ?_⟩
  simp only [hp, ne_eq, not_true_eq_false, false_and, if_false, not_false_eq_true, true_and]
  by_cases h3 : t % H = 0
  · by_cases h0 : t = 0
    · subst h0
      rw [if_neg (fun e => e.2.1 rfl), show vZero s.a' H T 0 = (0, 0) from vZero_lo (by omega), show vZero s.a' H T (0 + 1) = (0, 0) from vZero_lo (by omega)]
    by_cases h1 : t = H
    · subst h1
      rw [if_pos ⟨h3, h0, .inl rfl⟩, show vAlone s.a' D t = (0, 0) from if_pos hD, show vZero s.a' t T t = (0, 0) from vZero_lo (by omega), show vZero s.a' t T (t + 1) = (s.a', s.a') from vZero_mid (by omega) (by omega)]
      rw [Sde.el, hp]
      exact (el_zero ha ha' hne hq).symm
    · have hge : H ≤ t := by
        rcases Nat.lt_or_ge t H with h | h
        · rw [Nat.mod_eq_of_lt h] at h3
          exact absurd h3 h0
        · exact h
      have hH1 : ¬ t ≤ H := by omega
      have hH2 : ¬ t + 1 ≤ H := by omega
      by_cases h4 : t = T
      · subst h4
        have hU : vAlone s.a' D t = (s.a', 0) := if_neg (by omega)
        have hU' : vAlone s.a' D (t - H) = (0, 0) := if_pos (by omega)
        have hc : chV s.a' (0, 0) (s.a', 0) = true := chV_first z
        rw [hU, hU', hc, if_pos ⟨h3, h0, .inr rfl⟩, show vZero s.a' H t t = (s.a', s.a') from vZero_mid (by omega) (by omega), show vZero s.a' H t (t + 1) = (s.a', 0) from vZero_hi (by omega) (by omega), Sde.el, hp]
        exact (el_zero2 ha ha' hne hq).symm
      · have hsame : vAlone s.a' D (t - H) = vAlone s.a' D t := by
          by_cases h5 : t < D
          · rw [vAlone, if_pos (by omega), vAlone, if_pos h5]
          · have h6 : ¬ t - H < D := fun h => h4 (mult_eq hH h3 hT (by omega) (by omega))
            rw [vAlone, if_neg h6, vAlone, if_neg h5]
        rw [hsame, chV_same, if_neg (fun e => by rcases e.2.2 with e | e; · exact h1 e
                                                 · cases e)]
        by_cases h5 : t ≤ T
        · rw [show vZero s.a' H T t = (s.a', s.a') from vZero_mid (by omega) (by omega), show vZero s.a' H T (t + 1) = (s.a', s.a') from vZero_mid (by omega) (by omega)]
        · rw [show vZero s.a' H T t = (s.a', 0) from vZero_hi (by omega) (by omega), show vZero s.a' H T (t + 1) = (s.a', 0) from vZero_hi (by omega) (by omega)]
  · rw [if_neg (fun e => h3 e.1)]
    have h4 : t ≠ T := fun e => h3 (by rw [e]; exact hT)
    have h5 : t ≠ H := fun e => h3 (by rw [e]; exact Nat.mod_self H)
    by_cases h6 : t ≤ H
    · rw [show vZero s.a' H T t = (0, 0) from vZero_lo (by omega), show vZero s.a' H T (t + 1) = (0, 0) from vZero_lo (by omega)]
    · have h7 : ¬ t + 1 ≤ H := by omega
      by_cases h8 : t ≤ T
      · rw [show vZero s.a' H T t = (s.a', s.a') from vZero_mid (by omega) (by omega), show vZero s.a' H T (t + 1) = (s.a', s.a') from vZero_mid (by omega) (by omega)]
      · rw [show vZero s.a' H T t = (s.a', 0) from vZero_hi (by omega) (by omega), show vZero s.a' H T (t + 1) = (s.a', 0) from vZero_hi (by omega) (by omega)]

theorem steps_alone (ha : s.a ≠ 0) (ha' : s.a' ≠ 0) (hne : s.a ≠ s.a') (hp : s.p ≠ 0) (hq : s.q = 0) (hH : 0 < H) (hD : H < D) : Steps s H D (vAlone s.a D) (vZero s.a H T) := by
  have z : (0 : Int) ≠ s.a' := fun e => ha' e.symm
  have hU : ∀ t, (vZero s.a H T t).1 ≠ s.a' ∧ (vZero s.a H T t).2 ≠ s.a' := fun t => by
    unfold vZero
    split
    · exact ⟨z, z⟩
    · split
      · exact ⟨hne, hne⟩
      · exact ⟨hne, z⟩
  refine ⟨?_, fun _ t _ => hU t, fun _ t ht => if_pos ht, fun t => ?_⟩
  · simp [vAlone]; omega
  · rw [chV_no (hU t) (hU (t - H))]
    by_cases h1 : t + 1 = D
    · have hA : t < D := by omega
      simp only [h1, hp, ne_eq, not_false_eq_true, true_and, hA, not_true_eq_false, false_and, and_false, if_false, if_true]
      rw [vAlone, if_neg (by omega), vAlone, if_pos hA, Sde.el, hq]
      exact (el_alone ha hp).symm
    · simp only [h1, and_false, if_false]
      rw [if_neg (fun e => by rcases e.2.2.2 with e' | e'; · exact e.2.2.1 ⟨hp, by omega⟩
                              · cases e')]
      by_cases h2 : t < D
      · rw [vAlone, if_pos (by omega), vAlone, if_pos h2]
      · rw [vAlone, if_neg (by omega), vAlone, if_neg h2]

theorem steps_none (ha : s.a ≠ 0) (hp : s.p = 0) (hq : s.q = 0) : Steps s H D (fun _ => (0, 0)) (fun _ => (0, 0)) := by
  refine ⟨rfl, fun h => absurd hp h, fun h => absurd hp h, fun t => ?_⟩
  have he : s.el (0, 0) (0, 0) = (0, 0) := by
    rw [Sde.el, hp, hq]
    exact el_none ha
  simp only [he, ite_self]

/-- The two words, whoever wins; what they come to. -/
theorem steps_both (s s' : Sde) (h1 : s'.r = s.r') (h2 : s'.a = s.a') (h3 : s'.p = s.q) (h4 : s'.r' = s.r) (h5 : s'.a' = s.a) (h6 : s'.q = s.p) (ha : s.a ≠ 0) (ha' : s.a' ≠ 0) (hne : s.a ≠ s.a') (hr : s.r ≠ s.r') (hH : 0 < H) (hD : H < D) :
    ∃ (V U : Nat → Int × Int) (x : Int × Int), Steps s H D V U ∧ Steps s' H D U V ∧ (∀ t, D + H + H ≤ t → V t = x ∧ U t = x) ∧ ((x.1 ≠ 0 ↔ s.p ≠ 0 ∨ s.q ≠ 0) ∧ (x.2 ≠ 0 ↔ s.p ≠ 0 ∧ s.q ≠ 0) ∧ (s.p ≠ 0 ∨ s.q ≠ 0 → x.1 = s.a ∨ x.1 = s.a')) := by
  obtain ⟨r2, a2, p2, r2', a2', q2⟩ := s'
  simp only at h1 h2 h3 h4 h5 h6
  subst h1 h2 h3 h4 h5 h6
  obtain ⟨T, hT, hT1, hT2⟩ : ∃ T, T % H = 0 ∧ D ≤ T ∧ T < D + H := by
    have h1 := Nat.div_add_mod (D + H - 1) H
    have h2 := Nat.mod_lt (D + H - 1) hH
    exact ⟨H * ((D + H - 1) / H), Nat.mul_mod_right _ _, by omega, by omega⟩
  by_cases hp : s.p = 0
  · by_cases hq : s.q = 0
    · refine ⟨fun _ => (0, 0), fun _ => (0, 0), (0, 0), steps_none ha hp hq, steps_none ha' hq hp, fun _ _ => ⟨rfl, rfl⟩, ?_⟩
      simp [hp, hq]
    · refine ⟨_, _, (s.a', 0), steps_zero ha ha' hne hp hq hH hD hT hT1 hT2, steps_alone (s := ⟨s.r', s.a', s.q, s.r, s.a, s.p⟩) (T := T) ha' ha (fun e => hne e.symm) hq hp hH hD, fun t ht => ⟨?_, ?_⟩, ?_⟩
      · show vZero s.a' H T t = _
        rw [vZero, if_neg (by omega), if_neg (by omega)]
      · show vAlone s.a' D t = _
        rw [vAlone, if_neg (by omega)]
      · simp [hp, hq, ha']
  · by_cases hq : s.q = 0
    · refine ⟨_, _, (s.a, 0), steps_alone (T := T) ha ha' hne hp hq hH hD, steps_zero (s := ⟨s.r', s.a', s.q, s.r, s.a, s.p⟩) ha' ha (fun e => hne e.symm) hq hp hH hD hT hT1 hT2, fun t ht => ⟨?_, ?_⟩, ?_⟩
      · show vAlone s.a D t = _
        rw [vAlone, if_neg (by omega)]
      · show vZero s.a H T t = _
        rw [vZero, if_neg (by omega), if_neg (by omega)]
      · simp [hp, hq, ha]
    · have hw : (s.q < s.p ∨ (s.q = s.p ∧ s.r' < s.r)) ∨ (s.p < s.q ∨ (s.q = s.p ∧ s.r < s.r')) := by omega
      rcases hw with hw | hw
      · refine ⟨_, _, (s.a, s.a'), steps_win (T := T) ha ha' hne hp hq hw hH hD, steps_lose (s := ⟨s.r', s.a', s.q, s.r, s.a, s.p⟩) ha' ha (fun e => hne e.symm) hq hp (by simp only; omega) hH hD hT hT1 hT2, fun t ht => ⟨?_, ?_⟩, ?_⟩
        · show vWin s.a s.a' D t = _
          rw [vWin, if_neg (by omega)]
        · show vLose s.a' s.a D T t = _
          rw [vLose, if_neg (by omega), if_neg (by omega)]
        · simp [hp, hq, ha, ha']
      · refine ⟨_, _, (s.a', s.a), steps_lose ha ha' hne hp hq hw hH hD hT hT1 hT2, steps_win (s := ⟨s.r', s.a', s.q, s.r, s.a, s.p⟩) (T := T) ha' ha (fun e => hne e.symm) hq hp (by simp only; omega) hH hD, fun t ht => ⟨?_, ?_⟩, ?_⟩
        · show vLose s.a s.a' D T t = _
          rw [vLose, if_neg (by omega), if_neg (by omega)]
        · show vWin s.a' s.a D t = _
          rw [vWin, if_neg (by omega)]
        · simp [hp, hq, ha, ha']
end
end Pr
end Go.Proofs.Ytgbmhijgpdgdbaa
