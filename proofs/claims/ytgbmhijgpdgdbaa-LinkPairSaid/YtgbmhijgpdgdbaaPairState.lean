/- What a side of the pair holds, tick by tick: the plain law. -/
import Derived.Test.YtgbmhijgpdgdbaaPairPlain
import Derived.Test.YtgbmhijgpdgdbaaLinkOn
namespace Go.Proofs.Ytgbmhijgpdgdbaa
namespace Pr

structure PS where
  st : Int
  dr : Int
  bd : Int
  wt : Int
  nx : Int
  nb : Option Kn

/-- A Hello: the sender's priority, the two that it names, and whether it hears. -/
structure HL where
  pr : Int
  dr : Int
  bd : Int
  has : Bool

def elK (c : LC) (dr bd : Int) (nb : Option Kn) : Int × Int := elOut c dr bd (nb.toList.map fun k => (0, k))
def PS.elected (c : LC) (s : PS) : PS := { s with st := elState c (elK c s.dr s.bd s.nb), dr := (elK c s.dr s.bd s.nb).1, bd := (elK c s.dr s.bd s.nb).2 }
def heardKn (c : LC) (f r : Int) (h : HL) : Kn := { ro := r, ad := f, st := if h.has then 3 else 2, pr := h.pr, dr := h.dr, bd := h.bd, op := c.op, lf := c.dd, wa := false, fu := false }
def chK (x n : Kn) : Bool := x.st != 3 || chV n.ad (x.dr, x.bd) (n.dr, n.bd)
def PS.hear (c : LC) (f r : Int) (h : HL) (s : PS) : PS :=
  match s.nb with
  | none => { s with nb := some (heardKn c f r h) }
  | some x => if s.st == 2 then { s with nb := some (heardKn c f r h) } else if chK x (heardKn c f r h) then ({ s with nb := some (heardKn c f r h) } : PS).elected c else { s with nb := some (heardKn c f r h) }

structure HearOk (f r : Int) (h : HL) (s : PS) : Prop where
  no : s.nb = none → h.has = false
  so : ∀ x, s.nb = some x → h.has = true ∧ x.ro = r ∧ x.ad = f ∧ x.pr = h.pr ∧ (x.st = 2 ∨ x.st = 3) ∧ x.fu = false
  st : (s.st = 2 ∧ h.dr ≠ f ∧ h.bd ≠ f) ∨ 4 ≤ s.st

def PS.aged (s : PS) : PS := { s with nb := s.nb.map fun k => { k with lf := k.lf - 1 } }
def PS.waited (c : LC) (s : PS) : PS := if s.st == 2 then (if s.wt - 1 == 0 then ({ s with wt := s.wt - 1 } : PS).elected c else { s with wt := s.wt - 1 }) else s
def PS.tick (c : LC) (s : PS) : PS := { s.aged.waited c with nx := if s.nx - 1 == 0 then c.hi else s.nx - 1 }
def PS.says (c : LC) (s : PS) : Option HL := if s.nx - 1 == 0 then some ⟨c.pr, (s.aged.waited c).dr, (s.aged.waited c).bd, s.nb.isSome⟩ else none

structure TickOk (s : PS) : Prop where
  nb : ∀ x, s.nb = some x → 2 ≤ x.lf ∧ x.lf < 4294967296 ∧ (x.st = 2 ∨ x.st = 3)
  st : (s.st = 2 ∧ 1 ≤ s.wt ∧ s.wt < 4294967296) ∨ 4 ≤ s.st
  nx : 1 ≤ s.nx ∧ s.nx < 4294967296

theorem elState4 (c : LC) (o : Int × Int) : 4 ≤ elState c o := by
  unfold elState
  split
  · omega
  · split <;> omega

/-- What a side holds behind t ticks. -/
def Sd (c : LC) (s : Sde) (H D : Nat) (V U : Nat → Int × Int) (t : Nat) : PS :=
  { st := if s.p ≠ 0 ∧ t < D then 2 else elState c (V t), dr := (V t).1, bd := (V t).2, wt := if s.p ≠ 0 ∧ t < D then (D : Int) - t else 0, nx := (H : Int) - (t % H : Nat),
    nb := if t = 0 then none else some { ro := s.r', ad := s.a', st := if t ≤ H then 2 else 3, pr := s.q, dr := (U (t - 1 - (t - 1) % H)).1, bd := (U (t - 1 - (t - 1) % H)).2, op := c.op, lf := (D : Int) - 1 - ((t - 1) % H : Nat), wa := false, fu := false } }

/-- What it says then. -/
def Pd (p : Int) (H : Nat) (V : Nat → Int × Int) (t : Nat) : Option HL := if t % H = 0 then some ⟨p, (V t).1, (V t).2, decide (t ≠ 0)⟩ else none

/-- Its word behind the Hello of round t. -/
def Vm (s : Sde) (H D : Nat) (V U : Nat → Int × Int) (t : Nat) : Int × Int := if t % H = 0 ∧ t ≠ 0 ∧ ¬ (s.p ≠ 0 ∧ t < D) ∧ (t = H ∨ chV s.a' (U (t - H)) (U t) = true) then s.el (V t) (U t) else V t

def Md (c : LC) (s : Sde) (H D : Nat) (V U : Nat → Int × Int) (t : Nat) : PS :=
  { st := if s.p ≠ 0 ∧ t < D then 2 else elState c (Vm s H D V U t), dr := (Vm s H D V U t).1, bd := (Vm s H D V U t).2, wt := if s.p ≠ 0 ∧ t < D then (D : Int) - t else 0, nx := (H : Int) - (t % H : Nat),
    nb := some { ro := s.r', ad := s.a', st := if t < H then 2 else 3, pr := s.q, dr := (U (t - t % H)).1, bd := (U (t - t % H)).2, op := c.op, lf := (D : Int) - (t % H : Nat), wa := false, fu := false } }

theorem pred_mod {H t : Nat} (hH : 0 < H) (h : t % H ≠ 0) : (t - 1) % H = t % H - 1 := by
  have h1 := Nat.div_add_mod t H
  have h2 := Nat.mod_lt t hH
  have h3 : t - 1 = t % H - 1 + H * (t / H) := by omega
  rw [h3, Nat.add_mul_mod_self_left, Nat.mod_eq_of_lt (by omega)]

theorem pred_mod0 {H t : Nat} (hH : 0 < H) (h : t % H = 0) (h0 : t ≠ 0) : (t - 1) % H = H - 1 ∧ H ≤ t := by
  obtain ⟨m, rfl⟩ := Nat.dvd_of_mod_eq_zero h
  cases m with
  | zero => exact absurd rfl h0
  | succ m =>
    have h3 : H * (m + 1) - 1 = H - 1 + H * m := by rw [Nat.mul_add]; omega
    refine ⟨?_, by rw [Nat.mul_add]; omega⟩
    rw [h3, Nat.add_mul_mod_self_left, Nat.mod_eq_of_lt (by omega)]

theorem succ_mod {H t : Nat} (hH : 0 < H) : ((t + 1) % H = 0 ∧ t % H = H - 1) ∨ ((t + 1) % H = t % H + 1 ∧ t % H < H - 1) := by
  have h2 := Nat.mod_lt t hH
  by_cases h : (t + 1) % H = 0
  · exact .inl ⟨h, (pred_mod0 hH h (by omega)).1⟩
  · have := pred_mod hH h
    have h3 := Nat.mod_lt (t + 1) hH
    rw [Nat.add_sub_cancel] at this
    exact .inr ⟨by omega, by omega⟩

section
variable {c : LC} {s : Sde} {H D : Nat} {V U : Nat → Int × Int}

theorem el_one (hr : c.ro = s.r) (ha : c.ad = s.a) (hp : c.pr = s.p) (u u' : Int × Int) (k : Kn) (h1 : k.ro = s.r') (h2 : k.ad = s.a') (h3 : k.st = 3) (h4 : k.pr = s.q) (h5 : k.dr = u'.1) (h6 : k.bd = u'.2) : elK c u.1 u.2 (some k) = s.el u u' := by
  simp [elK, elOut, twoWayK, voiceK, Sde.el, hr, ha, hp, h1, h2, h3, h4, h5, h6]

theorem hear_md (hS : Steps s H D V U) (hr : c.ro = s.r) (ha : c.ad = s.a) (hp : c.pr = s.p) (hd : c.dd = D) (hH : 0 < H) (t : Nat) (h : HL) (hh : Pd s.q H U t = some h) :
    HearOk s.a' s.r' h (Sd c s H D V U t) ∧ (Sd c s H D V U t).hear c s.a' s.r' h = Md c s H D V U t := by
  have ht : t % H = 0 := by
    unfold Pd at hh
    split at hh
    · assumption
    · cases hh
  rw [Pd, if_pos ht] at hh
  obtain rfl := Option.some.inj hh
  have hst : ((Sd c s H D V U t).st = 2 ∧ (U t).1 ≠ s.a' ∧ (U t).2 ≠ s.a') ∨ 4 ≤ (Sd c s H D V U t).st := by
    by_cases hw : s.p ≠ 0 ∧ t < D
    · exact .inl ⟨if_pos hw, hS.wait hw.1 t hw.2⟩
    · refine .inr ?_
      show 4 ≤ (if s.p ≠ 0 ∧ t < D then (2 : Int) else elState c (V t))
      rw [if_neg hw]
      exact elState4 _ _
  by_cases h0 : t = 0
  · subst h0
    refine ⟨⟨fun _ => rfl, fun x hx => (by cases hx), hst⟩, ?_⟩
    have hV : Vm s H D V U 0 = V 0 := if_neg (fun e => e.2.1 rfl)
    simp [PS.hear, Sd, Md, hV, heardKn, hH, hd]
  · obtain ⟨h1, h2⟩ := pred_mod0 hH ht h0
    have h3 : t - 1 - (t - 1) % H = t - H := by omega
    have h4 : decide (t ≠ 0) = true := by simpa using h0
    have h5 : ¬ t < H := by omega
    rw [h4]
    refine ⟨⟨fun hn => (by simp [Sd, h0] at hn), fun x hx => ?_, hst⟩, ?_⟩
    · simp only [Sd, h0, if_false] at hx
      obtain rfl := Option.some.inj hx
      refine ⟨rfl, rfl, rfl, rfl, ?_, rfl⟩
      show (if t ≤ H then (2 : Int) else 3) = 2 ∨ (if t ≤ H then (2 : Int) else 3) = 3
      split
      · exact .inl rfl
      · exact .inr rfl
    · have hK : heardKn c s.a' s.r' ⟨s.q, (U t).1, (U t).2, true⟩ = { ro := s.r', ad := s.a', st := if t < H then 2 else 3, pr := s.q, dr := (U (t - t % H)).1, bd := (U (t - t % H)).2, op := c.op, lf := (D : Int) - (t % H : Nat), wa := false, fu := false } := by
        simp [heardKn, h5, ht, hd]
      by_cases hw : s.p ≠ 0 ∧ t < D
      · have hV : Vm s H D V U t = V t := if_neg (fun e => e.2.2.1 hw)
        simp only [PS.hear, Sd, Md, hV, h0, if_false, hw, and_self, if_true, hK, beq_self_eq_true, ne_eq, not_false_eq_true]
      · have h4s := elState4 c (V t)
        have hne : (elState c (V t) == 2) = false := by simp; omega
        have hc : chK { ro := s.r', ad := s.a', st := if t ≤ H then 2 else 3, pr := s.q, dr := (U (t - H)).1, bd := (U (t - H)).2, op := c.op, lf := (D : Int) - 1 - ((t - 1) % H : Nat), wa := false, fu := false } { ro := s.r', ad := s.a', st := if t < H then 2 else 3, pr := s.q, dr := (U (t - t % H)).1, bd := (U (t - t % H)).2, op := c.op, lf := (D : Int) - (t % H : Nat), wa := false, fu := false } = (decide (t = H) || chV s.a' (U (t - H)) (U t)) := by
          by_cases hth : t = H
          · subst hth
            simp [chK]
          · have : ¬ t ≤ H := by omega
            simp [chK, this, hth, ht]
        by_cases hch : t = H ∨ chV s.a' (U (t - H)) (U t) = true
        · have hV : Vm s H D V U t = s.el (V t) (U t) := if_pos ⟨ht, h0, hw, hch⟩
          have hc2 : (decide (t = H) || chV s.a' (U (t - H)) (U t)) = true := by simpa using hch
          rw [hc2] at hc
          have hel : elK c (V t).1 (V t).2 (some { ro := s.r', ad := s.a', st := if t < H then 2 else 3, pr := s.q, dr := (U (t - t % H)).1, bd := (U (t - t % H)).2, op := c.op, lf := (D : Int) - (t % H : Nat), wa := false, fu := false }) = s.el (V t) (U t) :=
            el_one hr ha hp _ _ _ rfl rfl (if_neg h5) rfl (by rw [ht]; rfl) (by rw [ht]; rfl)
          simp only [PS.hear, Sd, Md, hV, h0, if_false, hw, hK, hne, h3, hc, if_true, PS.elected, hel, Bool.false_eq_true]
        · have hV : Vm s H D V U t = V t := if_neg (fun e => hch e.2.2.2)
          have hc2 : (decide (t = H) || chV s.a' (U (t - H)) (U t)) = false := by simpa using hch
          rw [hc2] at hc
          simp only [PS.hear, Sd, Md, hV, h0, if_false, hw, hK, hne, h3, hc, Bool.false_eq_true]

theorem quiet_md (hH : 0 < H) (t : Nat) (hh : Pd s.q H U t = none) : Sd c s H D V U t = Md c s H D V U t := by
  have ht : t % H ≠ 0 := by
    intro e
    rw [Pd, if_pos e] at hh
    cases hh
  have h0 : t ≠ 0 := by rintro rfl; simp at ht
  have h1 := pred_mod hH ht
  have hV : Vm s H D V U t = V t := if_neg (fun e => ht e.1)
  have hl : t % H ≤ t := Nat.mod_le _ _
  have h2 : t - 1 - (t - 1) % H = t - t % H := by omega
  have h3 : (D : Int) - 1 - ((t - 1) % H : Nat) = (D : Int) - (t % H : Nat) := by omega
  have h4 : (t ≤ H) = (t < H) := by
    have : t ≠ H := by rintro rfl; simp at ht
    exact propext ⟨fun h => by omega, fun h => by omega⟩
  simp only [Sd, Md, hV, h0, if_false, h2, h3, h4]

theorem tick_md (hS : Steps s H D V U) (hr : c.ro = s.r) (ha : c.ad = s.a) (hp : c.pr = s.p) (hi : c.hi = H) (hH : 0 < H) (hD : H < D) (hDm : D < 4294967296) (t : Nat) :
    TickOk (Md c s H D V U t) ∧ (Md c s H D V U t).tick c = Sd c s H D V U (t + 1) ∧ (Md c s H D V U t).says c = Pd s.p H V (t + 1) := by
  have hm := Nat.mod_lt t hH
  have hstep := hS.step t
  rw [← Vm] at hstep
  have hok : TickOk (Md c s H D V U t) := by
    refine ⟨fun x hx => ?_, ?_, ?_⟩
    · obtain rfl := Option.some.inj hx
      refine ⟨?_, ?_, ?_⟩
      · show (2 : Int) ≤ (D : Int) - (t % H : Nat)
        omega
      · show (D : Int) - (t % H : Nat) < 4294967296
        omega
      · show (if t < H then (2 : Int) else 3) = 2 ∨ (if t < H then (2 : Int) else 3) = 3
        split
        · exact .inl rfl
        · exact .inr rfl
    · by_cases hw : s.p ≠ 0 ∧ t < D
      · refine .inl ⟨if_pos hw, ?_, ?_⟩
        · show 1 ≤ (if s.p ≠ 0 ∧ t < D then (D : Int) - t else 0)
          rw [if_pos hw]
          omega
        · show (if s.p ≠ 0 ∧ t < D then (D : Int) - t else 0) < 4294967296
          rw [if_pos hw]
          omega
      · refine .inr ?_
        show 4 ≤ (if s.p ≠ 0 ∧ t < D then (2 : Int) else elState c _)
        rw [if_neg hw]
        exact elState4 _ _
    · show 1 ≤ (H : Int) - (t % H : Nat) ∧ (H : Int) - (t % H : Nat) < 4294967296
      omega
  have hnx : (if (H : Int) - (t % H : Nat) - 1 == 0 then c.hi else (H : Int) - (t % H : Nat) - 1) = (H : Int) - ((t + 1) % H : Nat) := by
    rcases succ_mod (t := t) hH with ⟨h1, h2⟩ | ⟨h1, h2⟩
    · have : ((H : Int) - (t % H : Nat) - 1 == 0) = true := by simp; omega
      rw [this, if_pos rfl, h1, hi]
      simp
    · have : ((H : Int) - (t % H : Nat) - 1 == 0) = false := by simp; omega
      rw [this, if_neg (by decide), h1]
      omega
  have hnb : ({ ro := s.r', ad := s.a', st := if t < H then 2 else 3, pr := s.q, dr := (U (t - t % H)).1, bd := (U (t - t % H)).2, op := c.op, lf := (D : Int) - (t % H : Nat) - 1, wa := false, fu := false } : Kn)
      = { ro := s.r', ad := s.a', st := if t + 1 ≤ H then 2 else 3, pr := s.q, dr := (U (t + 1 - 1 - (t + 1 - 1) % H)).1, bd := (U (t + 1 - 1 - (t + 1 - 1) % H)).2, op := c.op, lf := (D : Int) - 1 - ((t + 1 - 1) % H : Nat), wa := false, fu := false } := by
    have e1 : t + 1 - 1 = t := rfl
    have e2 : (D : Int) - (t % H : Nat) - 1 = (D : Int) - 1 - (t % H : Nat) := by omega
    rw [e1, e2]
    rfl
  have hwait : (Md c s H D V U t).aged.waited c = { Sd c s H D V U (t + 1) with nx := (H : Int) - (t % H : Nat) } := by
    have hn1 : ¬ t + 1 = 0 := by omega
    by_cases hw : s.p ≠ 0 ∧ t < D
    · by_cases hz : t + 1 = D
      · have hz' : ((D : Int) - t - 1 == 0) = true := by simp; omega
        have hnl : ¬ t + 1 < D := by omega
        have hth : ¬ t < H := by omega
        rw [if_pos ⟨hw.1, hz⟩] at hstep
        have hel : elK c (Vm s H D V U t).1 (Vm s H D V U t).2 (some { ro := s.r', ad := s.a', st := if t < H then 2 else 3, pr := s.q, dr := (U (t - t % H)).1, bd := (U (t - t % H)).2, op := c.op, lf := (D : Int) - (t % H : Nat) - 1, wa := false, fu := false }) = V (t + 1) := by
          rw [hstep]
          exact el_one hr ha hp _ _ _ rfl rfl (if_neg hth) rfl rfl rfl
        simp only [PS.aged, PS.waited, Md, Sd, hw, and_self, if_true, beq_self_eq_true, hz', PS.elected, Option.map_some, hel, hn1, if_false, hnl, and_false, ne_eq, not_false_eq_true]
        rw [hnb]
        congr 1
        omega
      · have hz' : ((D : Int) - t - 1 == 0) = false := by simp; omega
        have hnl : t + 1 < D := by omega
        rw [if_neg (fun e => hz e.2)] at hstep
        simp only [PS.aged, PS.waited, Md, Sd, hw, hnl, and_self, if_true, beq_self_eq_true, hz', Option.map_some, hn1, if_false, ne_eq, not_false_eq_true, Bool.false_eq_true, hstep]
        rw [hnb]
        congr 1
        omega
    · have hnl : ¬ (s.p ≠ 0 ∧ t + 1 < D) := fun e => hw ⟨e.1, by omega⟩
      have h4s := elState4 c (Vm s H D V U t)
      have hne : (elState c (Vm s H D V U t) == 2) = false := by simp; omega
      rw [if_neg (fun e => hw ⟨e.1, by omega⟩)] at hstep
      simp only [PS.aged, PS.waited, Md, Sd, hw, hnl, if_false, hne, Option.map_some, hn1, Bool.false_eq_true, hstep]
      rw [hnb]
  refine ⟨hok, ?_, ?_⟩
  · rw [PS.tick, hwait]
    show ({ Sd c s H D V U (t + 1) with nx := if (H : Int) - (t % H : Nat) - 1 == 0 then c.hi else (H : Int) - (t % H : Nat) - 1 } : PS) = _
    rw [hnx]
    rfl
  · rw [PS.says, hwait]
    show (if (H : Int) - (t % H : Nat) - 1 == 0 then some (⟨c.pr, (V (t + 1)).1, (V (t + 1)).2, true⟩ : HL) else none) = _
    rcases succ_mod (t := t) hH with ⟨h1, h2⟩ | ⟨h1, h2⟩
    · have e : ((H : Int) - (t % H : Nat) - 1 == 0) = true := by simp; omega
      rw [e, if_pos rfl, Pd, if_pos h1, hp]
      simp
    · have e : ((H : Int) - (t % H : Nat) - 1 == 0) = false := by simp; omega
      rw [e, if_neg (by decide), Pd, if_neg (by omega)]
end
end Pr
end Go.Proofs.Ytgbmhijgpdgdbaa
