/- The messages on the wire, and what comes of them. -/
import Derived.Test.YtgbmhijgpdgdbaaFaSideGot
namespace Go.Proofs.Ytgbmhijgpdgdbaa
namespace Fu

/-- What holds throughout: the last message's number, how many heads each wants, what is lost. -/
structure Pa where
  N : Nat
  a : Nat
  b : Nat
  lost : List Bool

/-- Where the two stand: steps of the exchange, heads that came to either, timers, messages sent. -/
structure Sy where
  p : Nat
  ga : Nat
  gb : Nat
  ta : Nat
  tb : Nat
  n : Nat

inductive Ml | nil | firstA | dA | dB | rA | rB | dArA

def lostAt (P : Pa) (n : Nat) : Bool := P.lost.getD n false

def run (P : Pa) : Nat → Sy → Ml → Sy
  | 0, S, _ => S
  | _ + 1, S, .nil => S
  | _ + 1, S, .firstA => { S with n := S.n + 1 }
  | f + 1, S, .dA =>
    if lostAt P S.n then { S with n := S.n + 1 }
    else if S.p < 2 * P.N + 1 then run P f { S with n := S.n + 1, p := S.p + 1, tb := 2 } .dB
    else if P.b = 0 then { S with n := S.n + 1, p := S.p + 1, tb := 2 }
    else run P f { S with n := S.n + 1, p := S.p + 1, tb := 2 } .rB
  | f + 1, S, .dB =>
    if lostAt P S.n then { S with n := S.n + 1 }
    else if S.p % 2 = 0 then run P f { S with n := S.n + 1, p := S.p + 1, ta := 2 } (if S.p = 2 * P.N ∧ P.a ≠ 0 then .dArA else .dA)
    else run P f { S with n := S.n + 1 } .dA
  | f + 1, S, .rA =>
    if lostAt P S.n then { S with n := S.n + 1 }
    else if S.ga + 16 < P.a then run P f { S with n := S.n + 1, ga := S.ga + 16, ta := 2 } .rA
    else { S with n := S.n + 1, ga := P.a, ta := 2 }
  | f + 1, S, .rB =>
    if lostAt P S.n then { S with n := S.n + 1 }
    else if S.gb + 16 < P.b then run P f { S with n := S.n + 1, gb := S.gb + 16, tb := 2 } .rB
    else { S with n := S.n + 1, gb := P.b, tb := 2 }
  | f + 1, S, .dArA => run P f (run P f S .dA) .rA

structure Ok (P : Pa) (S : Sy) : Prop where
  p : S.p ≤ 2 * P.N + 2
  ga : S.ga ≤ P.a
  gb : S.gb ≤ P.b
  ga0 : S.p < 2 * P.N + 1 → S.ga = 0
  gb0 : S.p < 2 * P.N + 2 → S.gb = 0
  ta : S.ta = 1 ∨ S.ta = 2
  tb : S.tb = 1 ∨ S.tb = 2

def Pre (P : Pa) (S : Sy) : Ml → Prop
  | .nil => True
  | .firstA => S.p = 0
  | .dA => S.p % 2 = 1 ∧ S.p ≤ 2 * P.N + 1
  | .dB => S.p ≤ 2 * P.N + 1
  | .rA => 2 * P.N + 1 ≤ S.p ∧ S.ga < P.a
  | .rB => S.p = 2 * P.N + 2 ∧ S.gb < P.b
  | .dArA => S.p = 2 * P.N + 1 ∧ S.ga < P.a

def rem (P : Pa) (S : Sy) : Nat := (2 * P.N + 2 - S.p) + (if S.p ≤ 2 * P.N then 1 else 0) + (P.a - S.ga) + (P.b - S.gb)
def cst (S : Sy) : Ml → Nat
  | .nil => 0
  | .dB => if S.p % 2 = 0 then 1 else 2
  | .dArA => 2
  | _ => 1

/-- What a message does to the state, whatever is lost. -/
structure Did (P : Pa) (S S' : Sy) (ml : Ml) : Prop where
  ok : Ok P S'
  p : S.p ≤ S'.p
  ga : S.ga ≤ S'.ga
  gb : S.gb ≤ S'.gb
  n : ml ≠ .nil → S.n + 1 ≤ S'.n
  n0 : S.n ≤ S'.n
  c : S'.n + rem P S' ≤ S.n + rem P S + cst S ml
  ka : (ml = .dA ∧ 2 * P.N + 1 ≤ S.p) ∨ ml = .rB ∨ ml = .nil → S'.ga = S.ga ∧ S'.ta = S.ta
  kb : ml = .firstA ∨ ml = .rA ∨ ml = .nil → S'.gb = S.gb ∧ S'.tb = S.tb ∧ S'.p = S.p
  kp : ml = .rB → S'.p = S.p

theorem did_lost {P : Pa} {S : Sy} {ml : Ml} (h : Ok P S) (hc : 1 ≤ cst S ml) : Did P S { S with n := S.n + 1 } ml :=
  ⟨⟨h.p, h.ga, h.gb, h.ga0, h.gb0, h.ta, h.tb⟩, Nat.le_refl _, Nat.le_refl _, Nat.le_refl _, fun _ => Nat.le_refl _, Nat.le_succ _, by show S.n + 1 + rem P S ≤ _; omega, fun _ => ⟨rfl, rfl⟩, fun _ => ⟨rfl, rfl, rfl⟩, fun _ => rfl⟩

theorem run_did (P : Pa) : ∀ (f : Nat) (S : Sy) (ml : Ml), Ok P S → Pre P S ml → rem P S + cst S ml ≤ f → Did P S (run P f S ml) ml := by
  intro f
  induction f with
  | zero =>
    intro S ml h hp hf
    cases ml with
    | nil => exact ⟨h, Nat.le_refl _, Nat.le_refl _, Nat.le_refl _, fun e => absurd rfl e, Nat.le_refl _, by simp [run], fun _ => ⟨rfl, rfl⟩, fun _ => ⟨rfl, rfl, rfl⟩, fun _ => rfl⟩
    | dB => simp only [cst] at hf; split at hf <;> omega
    | _ => simp only [cst] at hf; omega
  | succ f ih =>
    intro S ml h hp hf
    have h1 := h.p
    have h2 := h.ga
    have h3 := h.gb
    cases ml with
    | nil => exact ⟨h, Nat.le_refl _, Nat.le_refl _, Nat.le_refl _, fun e => absurd rfl e, Nat.le_refl _, by simp [run], fun _ => ⟨rfl, rfl⟩, fun _ => ⟨rfl, rfl, rfl⟩, fun _ => rfl⟩
    | firstA => exact did_lost h (Nat.le_refl _)
    | dA =>
      obtain ⟨hp1, hp2⟩ := hp
      simp only [run]
      split
      · exact did_lost h (Nat.le_refl _)
      · have hr : ∀ tb n, rem P { S with n := n, p := S.p + 1, tb := tb } + 1 ≤ rem P S := fun tb n => by
          simp only [rem]
          split <;> split <;> omega
        have hr' := hr 2 (S.n + 1)
        have hok : Ok P { S with n := S.n + 1, p := S.p + 1, tb := 2 } := ⟨by simp only; omega, h.ga, h.gb, fun e => h.ga0 (by simp only at e; omega), fun e => h.gb0 (by simp only at e; omega), h.ta, .inr rfl⟩
        simp only [cst] at hf
        split
        · rename_i hlt
          have hd := ih { S with n := S.n + 1, p := S.p + 1, tb := 2 } .dB hok (by simp only [Pre]; omega) (by simp only [cst]; split <;> omega)
          have hc := hd.c
          simp only [cst] at hc
          rw [if_pos (by omega)] at hc
          refine ⟨hd.ok, Nat.le_trans (Nat.le_succ _) hd.p, hd.ga, hd.gb, fun _ => hd.n0, Nat.le_trans (Nat.le_succ _) hd.n0, by simp only [cst]; omega, fun e => ?_, fun e => ?_, fun e => by cases e⟩
          · rcases e with ⟨_, e⟩ | e | e
            · omega
            · cases e
            · cases e
          · rcases e with e | e | e <;> cases e
        · split
          · refine ⟨hok, Nat.le_succ _, Nat.le_refl _, Nat.le_refl _, fun _ => Nat.le_refl _, Nat.le_succ _, by simp only [cst]; omega, fun _ => ⟨rfl, rfl⟩, fun e => ?_, fun e => by cases e⟩
            rcases e with e | e | e <;> cases e
          · rename_i hge hb
            have hg0 := h.gb0 (by omega)
            have hd := ih { S with n := S.n + 1, p := S.p + 1, tb := 2 } .rB hok ⟨by simp only; omega, by simp only; omega⟩ (by simp only [cst]; omega)
            have hc := hd.c
            simp only [cst] at hc
            refine ⟨hd.ok, Nat.le_trans (Nat.le_succ _) hd.p, hd.ga, hd.gb, fun _ => hd.n0, Nat.le_trans (Nat.le_succ _) hd.n0, by simp only [cst]; omega, fun _ => hd.ka (.inr (.inl rfl)), fun e => ?_, fun e => by cases e⟩
            rcases e with e | e | e <;> cases e
    | dB =>
      simp only [Pre] at hp
      simp only [run]
      split
      · refine did_lost h ?_
        simp only [cst]
        split <;> omega
      · split
        · rename_i hev
          have hr : rem P { S with n := S.n + 1, p := S.p + 1, ta := 2 } + 1 + (if S.p = 2 * P.N then 1 else 0) ≤ rem P S := by
            simp only [rem]
            split <;> split <;> split <;> omega
          have hok : Ok P { S with n := S.n + 1, p := S.p + 1, ta := 2 } := ⟨by simp only; omega, h.ga, h.gb, fun e => h.ga0 (by simp only at e; omega), fun e => h.gb0 (by simp only at e; omega), .inr rfl, h.tb⟩
          simp only [cst, hev, if_true] at hf
          have hga := h.ga0 (by omega)
          have fin : ∀ ml, cst { S with n := S.n + 1, p := S.p + 1, ta := 2 } ml ≤ 1 + (if S.p = 2 * P.N then 1 else 0) → Pre P { S with n := S.n + 1, p := S.p + 1, ta := 2 } ml → Did P S (run P f { S with n := S.n + 1, p := S.p + 1, ta := 2 } ml) .dB := by
            intro ml hcm hpm
            have hd := ih { S with n := S.n + 1, p := S.p + 1, ta := 2 } ml hok hpm (by omega)
            have hc := hd.c
            simp only at hc
            refine ⟨hd.ok, Nat.le_trans (Nat.le_succ _) hd.p, hd.ga, hd.gb, fun _ => hd.n0, Nat.le_trans (Nat.le_succ _) hd.n0, by simp only [cst, hev, if_true]; omega, fun e => ?_, fun e => ?_, fun e => by cases e⟩
            · rcases e with ⟨e, _⟩ | e | e <;> cases e
            · rcases e with e | e | e <;> cases e
          split
          · rename_i hN
            exact fin _ (by simp only [cst]; rw [if_pos hN.1]; decide) ⟨by simp only; omega, by simp only; omega⟩
          · exact fin _ (by simp only [cst]; omega) ⟨by simp only; omega, by simp only; omega⟩
        · rename_i hod
          have hok : Ok P { S with n := S.n + 1 } := ⟨h.p, h.ga, h.gb, h.ga0, h.gb0, h.ta, h.tb⟩
          simp only [cst, hod, if_false] at hf
          have hd := ih { S with n := S.n + 1 } .dA hok ⟨by simp only; omega, by simp only; omega⟩ (by show rem P S + 1 ≤ f; omega)
          have hc : _ ≤ S.n + 1 + rem P S + 1 := hd.c
          refine ⟨hd.ok, hd.p, hd.ga, hd.gb, fun _ => hd.n0, Nat.le_trans (Nat.le_succ _) hd.n0, by simp only [cst, hod, if_false]; omega, fun e => ?_, fun e => ?_, fun e => by cases e⟩
          · rcases e with ⟨e, _⟩ | e | e <;> cases e
          · rcases e with e | e | e <;> cases e
    | rA =>
      obtain ⟨hp1, hp2⟩ := hp
      simp only [run]
      split
      · exact did_lost h (Nat.le_refl _)
      · simp only [cst] at hf
        split
        · have hr : rem P { S with n := S.n + 1, ga := S.ga + 16, ta := 2 } + 1 ≤ rem P S := by simp only [rem]; omega
          have hok : Ok P { S with n := S.n + 1, ga := S.ga + 16, ta := 2 } := ⟨h.p, by simp only; omega, h.gb, fun e => by simp only at e; omega, h.gb0, .inr rfl, h.tb⟩
          have hd := ih { S with n := S.n + 1, ga := S.ga + 16, ta := 2 } .rA hok ⟨hp1, by simp only; omega⟩ (by simp only [cst]; omega)
          have hc := hd.c
          have hga := hd.ga
          simp only [cst] at hc hga
          refine ⟨hd.ok, hd.p, by omega, hd.gb, fun _ => hd.n0, Nat.le_trans (Nat.le_succ _) hd.n0, by simp only [cst]; omega, fun e => ?_, fun _ => hd.kb (.inr (.inl rfl)), fun e => by cases e⟩
          rcases e with ⟨e, _⟩ | e | e <;> cases e
        · refine ⟨⟨h.p, Nat.le_refl _, h.gb, fun e => by simp only at e; omega, h.gb0, .inr rfl, h.tb⟩, Nat.le_refl _, by simp only; omega, Nat.le_refl _, fun _ => Nat.le_refl _, Nat.le_succ _, by simp only [cst, rem]; omega, fun e => ?_, fun _ => ⟨rfl, rfl, rfl⟩, fun e => by cases e⟩
          rcases e with ⟨e, _⟩ | e | e <;> cases e
    | rB =>
      obtain ⟨hp1, hp2⟩ := hp
      simp only [run]
      split
      · exact did_lost h (Nat.le_refl _)
      · simp only [cst] at hf
        split
        · have hr : rem P { S with n := S.n + 1, gb := S.gb + 16, tb := 2 } + 1 ≤ rem P S := by simp only [rem]; omega
          have hok : Ok P { S with n := S.n + 1, gb := S.gb + 16, tb := 2 } := ⟨h.p, h.ga, by simp only; omega, h.ga0, fun e => by simp only at e; omega, h.ta, .inr rfl⟩
          have hd := ih { S with n := S.n + 1, gb := S.gb + 16, tb := 2 } .rB hok ⟨hp1, by simp only; omega⟩ (by simp only [cst]; omega)
          have hc := hd.c
          have hgb := hd.gb
          simp only [cst] at hc hgb
          refine ⟨hd.ok, hd.p, hd.ga, by omega, fun _ => hd.n0, Nat.le_trans (Nat.le_succ _) hd.n0, by simp only [cst]; omega, fun _ => hd.ka (.inr (.inl rfl)), fun e => ?_, fun _ => hd.kp rfl⟩
          rcases e with e | e | e <;> cases e
        · refine ⟨⟨h.p, h.ga, Nat.le_refl _, h.ga0, fun e => by simp only at e; omega, h.ta, .inr rfl⟩, Nat.le_refl _, Nat.le_refl _, by simp only; omega, fun _ => Nat.le_refl _, Nat.le_succ _, by simp only [cst, rem]; omega, fun _ => ⟨rfl, rfl⟩, fun e => ?_, fun _ => rfl⟩
          rcases e with e | e | e <;> cases e
    | dArA =>
      obtain ⟨hp1, hp2⟩ := hp
      simp only [run]
      simp only [cst] at hf
      have hd := ih S .dA h ⟨by omega, by omega⟩ (by simp only [cst]; omega)
      have hk := hd.ka (.inl ⟨rfl, by omega⟩)
      have hc := hd.c
      simp only [cst] at hc
      have hpp := hd.p
      have hrm : rem P (run P f S .dA) ≤ rem P S := by
        have h5 := hd.gb
        simp only [rem, hk.1]
        split <;> split <;> omega
      have he := ih (run P f S .dA) .rA hd.ok ⟨by omega, by rw [hk.1]; exact hp2⟩ (by simp only [cst]; omega)
      have hc2 := he.c
      simp only [cst] at hc2
      have hn := hd.n (by intro e; cases e)
      refine ⟨he.ok, Nat.le_trans hd.p he.p, Nat.le_trans hd.ga he.ga, Nat.le_trans hd.gb he.gb, fun _ => Nat.le_trans hn he.n0, Nat.le_trans hd.n0 he.n0, by simp only [cst]; omega, fun e => ?_, fun e => ?_, fun e => by cases e⟩
      · rcases e with ⟨e, _⟩ | e | e <;> cases e
      · rcases e with e | e | e <;> cases e

theorem lostAt_no {P : Pa} (hl : P.lost.length ≤ 40) {n : Nat} (hn : 40 ≤ n) : lostAt P n = false := by
  unfold lostAt
  rw [List.getD_eq_getElem?_getD, List.getElem?_eq_none (by omega)]
  rfl

/-- What comes of a message when nothing more is lost. -/
structure Rel (P : Pa) (S S' : Sy) (ml : Ml) : Prop where
  rA : ml = .rA → S'.ga = P.a
  rB : ml = .rB → S'.gb = P.b
  d : ml = .dA ∨ ml = .dB ∨ ml = .dArA → S'.p = 2 * P.N + 2 ∧ S'.gb = P.b
  dg : (ml = .dA ∧ S.p < 2 * P.N + 1) ∨ (ml = .dB ∧ S.p ≤ 2 * P.N) ∨ ml = .dArA → S'.ga = P.a

theorem run_rel (P : Pa) (hl : P.lost.length ≤ 40) : ∀ (f : Nat) (S : Sy) (ml : Ml), Ok P S → Pre P S ml → rem P S + cst S ml ≤ f → 40 ≤ S.n → Rel P S (run P f S ml) ml := by
  intro f
  induction f with
  | zero =>
    intro S ml h hp hf hn
    cases ml with
    | nil => exact ⟨fun e => (by cases e), fun e => (by cases e), fun e => (by rcases e with e | e | e <;> cases e), fun e => (by rcases e with ⟨e, _⟩ | ⟨e, _⟩ | e <;> cases e)⟩
    | dB => simp only [cst] at hf; split at hf <;> omega
    | _ => simp only [cst] at hf; omega
  | succ f ih =>
    intro S ml h hp hf hn
    have h1 := h.p
    have h2 := h.ga
    have h3 := h.gb
    have hno : ¬ (lostAt P S.n = true) := by rw [lostAt_no hl hn]; decide
    cases ml with
    | nil => exact ⟨fun e => (by cases e), fun e => (by cases e), fun e => (by rcases e with e | e | e <;> cases e), fun e => (by rcases e with ⟨e, _⟩ | ⟨e, _⟩ | e <;> cases e)⟩
    | firstA => exact ⟨fun e => (by cases e), fun e => (by cases e), fun e => (by rcases e with e | e | e <;> cases e), fun e => (by rcases e with ⟨e, _⟩ | ⟨e, _⟩ | e <;> cases e)⟩
    | dA =>
      obtain ⟨hp1, hp2⟩ := hp
      simp only [run]
      rw [if_neg hno]
      have hr : rem P { S with n := S.n + 1, p := S.p + 1, tb := 2 } + 1 ≤ rem P S := by
        simp only [rem]
        split <;> split <;> omega
      have hok : Ok P { S with n := S.n + 1, p := S.p + 1, tb := 2 } := ⟨by simp only; omega, h.ga, h.gb, fun e => h.ga0 (by simp only at e; omega), fun e => h.gb0 (by simp only at e; omega), h.ta, .inr rfl⟩
      simp only [cst] at hf
      split
      · have hd := ih { S with n := S.n + 1, p := S.p + 1, tb := 2 } .dB hok (by simp only [Pre]; omega) (by simp only [cst]; split <;> omega) (by simp only; omega)
        exact ⟨fun e => (by cases e), fun e => (by cases e), fun _ => hd.d (.inr (.inl rfl)), fun _ => hd.dg (.inr (.inl ⟨rfl, by simp only; omega⟩))⟩
      · rename_i hge
        have hg0 := h.gb0 (by omega)
        split
        · rename_i hb
          refine ⟨fun e => (by cases e), fun e => (by cases e), fun _ => ⟨by simp only; omega, by simp only; omega⟩, fun e => ?_⟩
          rcases e with ⟨_, e⟩ | ⟨e, _⟩ | e
          · omega
          · cases e
          · cases e
        · have hd := ih { S with n := S.n + 1, p := S.p + 1, tb := 2 } .rB hok ⟨by simp only; omega, by simp only; omega⟩ (by simp only [cst]; omega) (by simp only; omega)
          have hk := (run_did P f { S with n := S.n + 1, p := S.p + 1, tb := 2 } .rB hok ⟨by simp only; omega, by simp only; omega⟩ (by simp only [cst]; omega)).kp rfl
          simp only at hk
          refine ⟨fun e => (by cases e), fun e => (by cases e), fun _ => ⟨by omega, hd.rB rfl⟩, fun e => ?_⟩
          rcases e with ⟨_, e⟩ | ⟨e, _⟩ | e
          · omega
          · cases e
          · cases e
    | dB =>
      simp only [Pre] at hp
      simp only [run]
      rw [if_neg hno]
      split
      · rename_i hev
        have hr : rem P { S with n := S.n + 1, p := S.p + 1, ta := 2 } + 1 + (if S.p = 2 * P.N then 1 else 0) ≤ rem P S := by
          simp only [rem]
          split <;> split <;> split <;> omega
        have hok : Ok P { S with n := S.n + 1, p := S.p + 1, ta := 2 } := ⟨by simp only; omega, h.ga, h.gb, fun e => h.ga0 (by simp only at e; omega), fun e => h.gb0 (by simp only at e; omega), .inr rfl, h.tb⟩
        simp only [cst, hev, if_true] at hf
        have hga := h.ga0 (by omega)
        split
        · rename_i hN
          have hd := ih { S with n := S.n + 1, p := S.p + 1, ta := 2 } .dArA hok ⟨by simp only; omega, by simp only; omega⟩ (by simp only [cst]; rw [if_pos hN.1] at hr; omega) (by simp only; omega)
          exact ⟨fun e => (by cases e), fun e => (by cases e), fun _ => hd.d (.inr (.inr rfl)), fun _ => hd.dg (.inr (.inr rfl))⟩
        · rename_i hN
          have hpre : Pre P { S with n := S.n + 1, p := S.p + 1, ta := 2 } .dA := ⟨by simp only; omega, by simp only; omega⟩
          have hle : rem P { S with n := S.n + 1, p := S.p + 1, ta := 2 } + cst { S with n := S.n + 1, p := S.p + 1, ta := 2 } .dA ≤ f := by simp only [cst]; omega
          have hd := ih { S with n := S.n + 1, p := S.p + 1, ta := 2 } .dA hok hpre hle (by simp only; omega)
          have hk := run_did P f { S with n := S.n + 1, p := S.p + 1, ta := 2 } .dA hok hpre hle
          refine ⟨fun e => (by cases e), fun e => (by cases e), fun _ => hd.d (.inl rfl), fun _ => ?_⟩
          by_cases hpN : S.p = 2 * P.N
          · have ha : P.a = 0 := Decidable.byContradiction fun e => hN ⟨hpN, e⟩
            have := (hk.ok.ga)
            omega
          · exact hd.dg (.inl ⟨rfl, by simp only; omega⟩)
      · rename_i hod
        have hok : Ok P { S with n := S.n + 1 } := ⟨h.p, h.ga, h.gb, h.ga0, h.gb0, h.ta, h.tb⟩
        simp only [cst, hod, if_false] at hf
        have hd := ih { S with n := S.n + 1 } .dA hok ⟨by simp only; omega, by simp only; omega⟩ (by show rem P S + 1 ≤ f; omega) (by simp only; omega)
        refine ⟨fun e => (by cases e), fun e => (by cases e), fun _ => hd.d (.inl rfl), fun e => ?_⟩
        rcases e with ⟨e, _⟩ | ⟨_, e⟩ | e
        · cases e
        · exact hd.dg (.inl ⟨rfl, by simp only; omega⟩)
        · cases e
    | rA =>
      obtain ⟨hp1, hp2⟩ := hp
      simp only [run]
      rw [if_neg hno]
      simp only [cst] at hf
      split
      · have hr : rem P { S with n := S.n + 1, ga := S.ga + 16, ta := 2 } + 1 ≤ rem P S := by simp only [rem]; omega
        have hok : Ok P { S with n := S.n + 1, ga := S.ga + 16, ta := 2 } := ⟨h.p, by simp only; omega, h.gb, fun e => by simp only at e; omega, h.gb0, .inr rfl, h.tb⟩
        have hd := ih { S with n := S.n + 1, ga := S.ga + 16, ta := 2 } .rA hok ⟨hp1, by simp only; omega⟩ (by simp only [cst]; omega) (by simp only; omega)
        exact ⟨fun _ => hd.rA rfl, fun e => (by cases e), fun e => (by rcases e with e | e | e <;> cases e), fun e => (by rcases e with ⟨e, _⟩ | ⟨e, _⟩ | e <;> cases e)⟩
      · exact ⟨fun _ => rfl, fun e => (by cases e), fun e => (by rcases e with e | e | e <;> cases e), fun e => (by rcases e with ⟨e, _⟩ | ⟨e, _⟩ | e <;> cases e)⟩
    | rB =>
      obtain ⟨hp1, hp2⟩ := hp
      simp only [run]
      rw [if_neg hno]
      simp only [cst] at hf
      split
      · have hr : rem P { S with n := S.n + 1, gb := S.gb + 16, tb := 2 } + 1 ≤ rem P S := by simp only [rem]; omega
        have hok : Ok P { S with n := S.n + 1, gb := S.gb + 16, tb := 2 } := ⟨h.p, h.ga, by simp only; omega, h.ga0, fun e => by simp only at e; omega, h.ta, .inr rfl⟩
        have hd := ih { S with n := S.n + 1, gb := S.gb + 16, tb := 2 } .rB hok ⟨hp1, by simp only; omega⟩ (by simp only [cst]; omega) (by simp only; omega)
        exact ⟨fun e => (by cases e), fun _ => hd.rB rfl, fun e => (by rcases e with e | e | e <;> cases e), fun e => (by rcases e with ⟨e, _⟩ | ⟨e, _⟩ | e <;> cases e)⟩
      · exact ⟨fun e => (by cases e), fun _ => rfl, fun e => (by rcases e with e | e | e <;> cases e), fun e => (by rcases e with ⟨e, _⟩ | ⟨e, _⟩ | e <;> cases e)⟩
    | dArA =>
      obtain ⟨hp1, hp2⟩ := hp
      simp only [run]
      simp only [cst] at hf
      have hpd : Pre P S .dA := ⟨by omega, by omega⟩
      have hfd : rem P S + cst S .dA ≤ f := by simp only [cst]; omega
      have hd := run_did P f S .dA h hpd hfd
      have hk := hd.ka (.inl ⟨rfl, by omega⟩)
      have hpp := hd.p
      have hrm : rem P (run P f S .dA) ≤ rem P S := by
        have h5 := hd.gb
        simp only [rem, hk.1]
        split <;> split <;> omega
      have hdr := ih S .dA h hpd hfd hn
      have hpr : Pre P (run P f S .dA) .rA := ⟨by omega, by rw [hk.1]; exact hp2⟩
      have hfr : rem P (run P f S .dA) + cst (run P f S .dA) .rA ≤ f := by simp only [cst]; omega
      have her := ih (run P f S .dA) .rA hd.ok hpr hfr (Nat.le_trans hn hd.n0)
      have he := run_did P f (run P f S .dA) .rA hd.ok hpr hfr
      have hkb := he.kb (.inr (.inl rfl))
      have hdd := hdr.d (.inl rfl)
      exact ⟨fun e => (by cases e), fun e => (by cases e), fun _ => ⟨by rw [hkb.2.2]; exact hdd.1, by rw [hkb.1]; exact hdd.2⟩, fun _ => her.rA rfl⟩

/-! ### Ticks -/

def idleA (P : Pa) (S : Sy) : Bool := (decide (1 ≤ S.p) && decide (S.p ≤ 2 * P.N)) || (decide (2 * P.N + 1 ≤ S.p) && decide (S.ga = P.a))
def idleB (P : Pa) (S : Sy) : Bool := decide (S.p = 2 * P.N + 2) && decide (S.gb = P.b)
def tickA (P : Pa) (S : Sy) : Sy × Ml :=
  if idleA P S then (S, .nil) else if S.ta = 2 then ({ S with ta := 1 }, .nil) else ({ S with ta := 2 }, if S.p = 0 then .firstA else .rA)
def tickB (P : Pa) (S : Sy) : Sy × Ml :=
  if idleB P S then (S, .nil) else if S.tb = 2 then ({ S with tb := 1 }, .nil) else ({ S with tb := 2 }, if S.p ≤ 2 * P.N + 1 then .dB else .rB)

/-- What a run is given to go on with. -/
def enough (P : Pa) : Nat := 2 * P.N + P.a + P.b + 10
def halfA (P : Pa) (S : Sy) : Sy := run P (enough P) (tickA P S).1 (tickA P S).2
def halfB (P : Pa) (S : Sy) : Sy := run P (enough P) (tickB P S).1 (tickB P S).2
def round (P : Pa) (S : Sy) : Sy := halfB P (halfA P S)
def rounds (P : Pa) : Nat → Sy → Sy
  | 0, S => S
  | t + 1, S => round P (rounds P t S)

theorem rem_le (P : Pa) (S : Sy) : rem P S ≤ 2 * P.N + 3 + P.a + P.b := by
  simp only [rem]
  split <;> omega
theorem enough_ok (P : Pa) (S : Sy) (ml : Ml) : rem P S + cst S ml ≤ enough P := by
  have h1 := rem_le P S
  have h2 : cst S ml ≤ 2 := by
    cases ml <;> simp only [cst] <;> (try split) <;> omega
  unfold enough
  omega

theorem tickA_ok {P : Pa} {S : Sy} (h : Ok P S) : Ok P (tickA P S).1 ∧ Pre P (tickA P S).1 (tickA P S).2 := by
  unfold tickA
  split
  · exact ⟨h, trivial⟩
  · rename_i hi
    split
    · exact ⟨⟨h.p, h.ga, h.gb, h.ga0, h.gb0, .inl rfl, h.tb⟩, trivial⟩
    · refine ⟨⟨h.p, h.ga, h.gb, h.ga0, h.gb0, .inr rfl, h.tb⟩, ?_⟩
      have h2 := h.ga
      simp [idleA] at hi
      split
      · rename_i h0
        exact h0
      · exact ⟨by simp only; omega, by simp only; omega⟩
theorem tickB_ok {P : Pa} {S : Sy} (h : Ok P S) : Ok P (tickB P S).1 ∧ Pre P (tickB P S).1 (tickB P S).2 := by
  unfold tickB
  split
  · exact ⟨h, trivial⟩
  · rename_i hi
    split
    · exact ⟨⟨h.p, h.ga, h.gb, h.ga0, h.gb0, h.ta, .inl rfl⟩, trivial⟩
    · refine ⟨⟨h.p, h.ga, h.gb, h.ga0, h.gb0, h.ta, .inr rfl⟩, ?_⟩
      have h1 := h.p
      have h2 := h.gb
      simp [idleB] at hi
      split
      · rename_i h0
        exact h0
      · exact ⟨by simp only; omega, by simp only; omega⟩


def Bc (P : Pa) (S : Sy) : Prop := S.p = 2 * P.N + 2 ∧ S.gb = P.b
def Done (P : Pa) (S : Sy) : Prop := Bc P S ∧ S.ga = P.a

theorem halfA_idle {P : Pa} {S : Sy} (hi : idleA P S = true) : halfA P S = S := by unfold halfA tickA; rw [if_pos hi]; unfold enough; rfl
theorem halfA_wait {P : Pa} {S : Sy} (hi : ¬ idleA P S = true) (ht : S.ta = 2) : halfA P S = { S with ta := 1 } := by unfold halfA tickA; rw [if_neg hi, if_pos ht]; unfold enough; rfl
theorem halfA_first {P : Pa} {S : Sy} (hi : ¬ idleA P S = true) (ht : ¬ S.ta = 2) (hp : S.p = 0) : halfA P S = run P (enough P) { S with ta := 2 } .firstA := by unfold halfA tickA; rw [if_neg hi, if_neg ht, if_pos hp]
theorem halfA_req {P : Pa} {S : Sy} (hi : ¬ idleA P S = true) (ht : ¬ S.ta = 2) (hp : ¬ S.p = 0) : halfA P S = run P (enough P) { S with ta := 2 } .rA := by unfold halfA tickA; rw [if_neg hi, if_neg ht, if_neg hp]
theorem halfB_idle {P : Pa} {S : Sy} (hi : idleB P S = true) : halfB P S = S := by unfold halfB tickB; rw [if_pos hi]; unfold enough; rfl
theorem halfB_wait {P : Pa} {S : Sy} (hi : ¬ idleB P S = true) (ht : S.tb = 2) : halfB P S = { S with tb := 1 } := by unfold halfB tickB; rw [if_neg hi, if_pos ht]; unfold enough; rfl
theorem halfB_desc {P : Pa} {S : Sy} (hi : ¬ idleB P S = true) (ht : ¬ S.tb = 2) (hp : S.p ≤ 2 * P.N + 1) : halfB P S = run P (enough P) { S with tb := 2 } .dB := by unfold halfB tickB; rw [if_neg hi, if_neg ht, if_pos hp]
theorem halfB_req {P : Pa} {S : Sy} (hi : ¬ idleB P S = true) (ht : ¬ S.tb = 2) (hp : ¬ S.p ≤ 2 * P.N + 1) : halfB P S = run P (enough P) { S with tb := 2 } .rB := by unfold halfB tickB; rw [if_neg hi, if_neg ht, if_neg hp]

/-- What A's tick comes to. -/
theorem halfA_is {P : Pa} (hl : P.lost.length ≤ 40) {S : Sy} (h : Ok P S) :
    Ok P (halfA P S) ∧ (halfA P S).p = S.p ∧ (halfA P S).gb = S.gb ∧ (halfA P S).tb = S.tb ∧ S.n ≤ (halfA P S).n ∧ (halfA P S).n + rem P (halfA P S) ≤ S.n + rem P S + 2 ∧
      ((idleA P S = true ∧ halfA P S = S) ∨ (idleA P S = false ∧ S.ta = 2 ∧ halfA P S = { S with ta := 1 }) ∨ (idleA P S = false ∧ S.ta = 1 ∧ S.n + 1 ≤ (halfA P S).n ∧ (40 ≤ S.n → S.p ≠ 0 → (halfA P S).ga = P.a))) := by
  by_cases hi : idleA P S = true
  · rw [halfA_idle hi]
    exact ⟨h, rfl, rfl, rfl, Nat.le_refl _, Nat.le_add_right _ _, .inl ⟨hi, rfl⟩⟩
  · have hi' : idleA P S = false := by simpa using hi
    by_cases ht : S.ta = 2
    · rw [halfA_wait hi ht]
      exact ⟨⟨h.p, h.ga, h.gb, h.ga0, h.gb0, .inl rfl, h.tb⟩, rfl, rfl, rfl, Nat.le_refl _, Nat.le_add_right _ _, .inr (.inl ⟨hi', ht, rfl⟩)⟩
    · have ht1 : S.ta = 1 := h.ta.resolve_right ht
      have hok : Ok P { S with ta := 2 } := ⟨h.p, h.ga, h.gb, h.ga0, h.gb0, .inr rfl, h.tb⟩
      have h2 := h.ga
      by_cases hp : S.p = 0
      · rw [halfA_first hi ht hp]
        have hd := run_did P (enough P) { S with ta := 2 } .firstA hok hp (enough_ok P _ _)
        have hkb := hd.kb (.inl rfl)
        have hc : _ ≤ S.n + rem P S + 1 := hd.c
        exact ⟨hd.ok, hkb.2.2, hkb.1, hkb.2.1, hd.n0, by omega, .inr (.inr ⟨hi', ht1, hd.n (by intro e; cases e), fun _ e => absurd hp e⟩)⟩
      · rw [halfA_req hi ht hp]
        have hpre : Pre P { S with ta := 2 } .rA := by
          simp [idleA] at hi
          exact ⟨by simp only; omega, by simp only; omega⟩
        have hd := run_did P (enough P) { S with ta := 2 } .rA hok hpre (enough_ok P _ _)
        have hr := run_rel P hl (enough P) { S with ta := 2 } .rA hok hpre (enough_ok P _ _)
        have hkb := hd.kb (.inr (.inl rfl))
        have hc : _ ≤ S.n + rem P S + 1 := hd.c
        exact ⟨hd.ok, hkb.2.2, hkb.1, hkb.2.1, hd.n0, by omega, .inr (.inr ⟨hi', ht1, hd.n (by intro e; cases e), fun h40 _ => (hr h40).rA rfl⟩)⟩

theorem halfB_is {P : Pa} (hl : P.lost.length ≤ 40) {S : Sy} (h : Ok P S) :
    Ok P (halfB P S) ∧ S.n ≤ (halfB P S).n ∧ (halfB P S).n + rem P (halfB P S) ≤ S.n + rem P S + 2 ∧
      ((idleB P S = true ∧ halfB P S = S) ∨ (idleB P S = false ∧ S.tb = 2 ∧ halfB P S = { S with tb := 1 }) ∨ (idleB P S = false ∧ S.tb = 1 ∧ S.n + 1 ≤ (halfB P S).n ∧ (40 ≤ S.n → Bc P (halfB P S)))) := by
  by_cases hi : idleB P S = true
  · rw [halfB_idle hi]
    exact ⟨h, Nat.le_refl _, Nat.le_add_right _ _, .inl ⟨hi, rfl⟩⟩
  · have hi' : idleB P S = false := by simpa using hi
    by_cases ht : S.tb = 2
    · rw [halfB_wait hi ht]
      exact ⟨⟨h.p, h.ga, h.gb, h.ga0, h.gb0, h.ta, .inl rfl⟩, Nat.le_refl _, Nat.le_add_right _ _, .inr (.inl ⟨hi', ht, rfl⟩)⟩
    · have ht1 : S.tb = 1 := h.tb.resolve_right ht
      have hok : Ok P { S with tb := 2 } := ⟨h.p, h.ga, h.gb, h.ga0, h.gb0, h.ta, .inr rfl⟩
      have h1 := h.p
      have h2 := h.gb
      by_cases hp : S.p ≤ 2 * P.N + 1
      · rw [halfB_desc hi ht hp]
        have hd := run_did P (enough P) { S with tb := 2 } .dB hok hp (enough_ok P _ _)
        have hr := run_rel P hl (enough P) { S with tb := 2 } .dB hok hp (enough_ok P _ _)
        have hc : _ ≤ S.n + rem P S + cst { S with tb := 2 } .dB := hd.c
        have hc2 : cst { S with tb := 2 } .dB ≤ 2 := by simp only [cst]; split <;> omega
        exact ⟨hd.ok, hd.n0, by omega, .inr (.inr ⟨hi', ht1, hd.n (by intro e; cases e), fun h40 => (hr h40).d (.inr (.inl rfl))⟩)⟩
      · rw [halfB_req hi ht hp]
        have hpre : Pre P { S with tb := 2 } .rB := by
          simp [idleB] at hi
          exact ⟨by simp only; omega, by simp only; omega⟩
        have hd := run_did P (enough P) { S with tb := 2 } .rB hok hpre (enough_ok P _ _)
        have hr := run_rel P hl (enough P) { S with tb := 2 } .rB hok hpre (enough_ok P _ _)
        have hc : _ ≤ S.n + rem P S + 1 := hd.c
        have hkp : _ = S.p := hd.kp rfl
        exact ⟨hd.ok, hd.n0, by omega, .inr (.inr ⟨hi', ht1, hd.n (by intro e; cases e), fun h40 => ⟨by rw [hkp]; omega, (hr h40).rB rfl⟩⟩)⟩

/-- What holds behind t rounds. -/
structure Jo (P : Pa) (c t : Nat) (S : Sy) : Prop where
  ok : Ok P S
  n : S.n + rem P S ≤ c + 4 * t
  j : Done P S ∨ (S.n < 40 ∧ ¬ Bc P S ∧ t + S.tb ≤ 2 * S.n + 2) ∨ (S.n < 40 ∧ Bc P S ∧ t + S.ta ≤ 2 * S.n + 2) ∨ (40 ≤ S.n ∧ ¬ Bc P S ∧ t + S.tb ≤ 84) ∨ (40 ≤ S.n ∧ Bc P S ∧ t + S.ta ≤ 88)

theorem idleB_iff {P : Pa} {S : Sy} : idleB P S = true ↔ Bc P S := by simp [idleB, Bc]

theorem round_jo {P : Pa} (hl : P.lost.length ≤ 40) {c t : Nat} {S : Sy} (h : Jo P c t S) : Jo P c (t + 1) (round P S) := by
  obtain ⟨hA, hp, hgb, htb, hn, hc, hcase⟩ := halfA_is hl h.ok
  obtain ⟨hB, hn2, hc2, hcase2⟩ := halfB_is hl hA
  have hcc := h.n
  have hta' := hB.ta
  have htb' := hB.tb
  have hta := h.ok.ta
  have htbS := h.ok.tb
  have hj := h.j
  have hga := h.ok.ga
  have hgaB := hB.ga
  have hbA : Bc P (halfA P S) ↔ Bc P S := by unfold Bc; rw [hp, hgb]
  have hr : round P S = halfB P (halfA P S) := rfl
  rw [hr]
  refine ⟨hB, by omega, ?_⟩
  by_cases hd : Done P S
  · have hi : idleA P S = true := by
      obtain ⟨⟨h1, h2⟩, h3⟩ := hd
      simp [idleA, h1, h3]
    rcases hcase with ⟨_, e⟩ | ⟨e, _⟩ | ⟨e, _⟩
    · rcases hcase2 with ⟨_, e2⟩ | ⟨e2, _⟩ | ⟨e2, _⟩
      · rw [e2, e]
        exact .inl hd
      · rw [e, idleB_iff.2 hd.1] at e2
        cases e2
      · rw [e, idleB_iff.2 hd.1] at e2
        cases e2
    · rw [hi] at e
      cases e
    · rw [hi] at e
      cases e
  · have hj2 := hj.resolve_left hd
    by_cases hbS : Bc P S
    · -- B has all; A is awake
      have hi : idleA P S = false := by
        have h3 : S.ga ≠ P.a := fun e => hd ⟨hbS, e⟩
        have h4 := hbS.1
        simp [idleA, h3]
        omega
      have hiB : idleB P (halfA P S) = true := idleB_iff.2 (hbA.2 hbS)
      have hBe : halfB P (halfA P S) = halfA P S := by
        rcases hcase2 with ⟨_, e2⟩ | ⟨e2, _⟩ | ⟨e2, _⟩
        · exact e2
        · rw [hiB] at e2; cases e2
        · rw [hiB] at e2; cases e2
      rw [hBe] at hta' ⊢
      rcases hcase with ⟨e, _⟩ | ⟨_, ht2, e⟩ | ⟨_, ht1, hn1, hrel⟩
      · rw [hi] at e; cases e
      · have e1 : (halfA P S).ta = 1 := by rw [e]
        have e2 : (halfA P S).n = S.n := by rw [e]
        rcases hj2 with ⟨_, h2, _⟩ | ⟨h1, _, h3⟩ | ⟨_, h2, _⟩ | ⟨h1, _, h3⟩
        · exact absurd hbS h2
        · exact .inr (.inr (.inl ⟨by omega, hbA.2 hbS, by omega⟩))
        · exact absurd hbS h2
        · exact .inr (.inr (.inr (.inr ⟨by omega, hbA.2 hbS, by omega⟩)))
      · have hp0 : S.p ≠ 0 := by have := hbS.1; omega
        rcases hj2 with ⟨_, h2, _⟩ | ⟨h1, _, h3⟩ | ⟨_, h2, _⟩ | ⟨h1, _, h3⟩
        · exact absurd hbS h2
        · by_cases h40 : (halfA P S).n < 40
          · exact .inr (.inr (.inl ⟨h40, hbA.2 hbS, by omega⟩))
          · exact .inr (.inr (.inr (.inr ⟨by omega, hbA.2 hbS, by omega⟩)))
        · exact absurd hbS h2
        · exact .inl ⟨hbA.2 hbS, hrel h1 hp0⟩
    · have hiB : idleB P (halfA P S) = false := by
        rcases Bool.eq_false_or_eq_true (idleB P (halfA P S)) with e | e
        · exact absurd (hbA.1 (idleB_iff.1 e)) hbS
        · exact e
      rcases hcase2 with ⟨e, _⟩ | ⟨_, ht2, e⟩ | ⟨_, ht1, hn1, hrel⟩
      · rw [hiB] at e; cases e
      · have e1 : (halfB P (halfA P S)).tb = 1 := by rw [e]
        have e2 : (halfB P (halfA P S)).n = (halfA P S).n := by rw [e]
        have hbB : ¬ Bc P (halfB P (halfA P S)) := by
          rw [e]
          exact fun hb => hbS (hbA.1 hb)
        rcases hj2 with ⟨h1, _, h3⟩ | ⟨_, h2, _⟩ | ⟨h1, _, h3⟩ | ⟨_, h2, _⟩
        · by_cases h40 : (halfA P S).n < 40
          · exact .inr (.inl ⟨by omega, hbB, by omega⟩)
          · exact .inr (.inr (.inr (.inl ⟨by omega, hbB, by omega⟩)))
        · exact absurd h2 hbS
        · exact .inr (.inr (.inr (.inl ⟨by omega, hbB, by omega⟩)))
        · exact absurd h2 hbS
      · by_cases hbB : Bc P (halfB P (halfA P S))
        · rcases hj2 with ⟨h1, _, h3⟩ | ⟨_, h2, _⟩ | ⟨h1, _, h3⟩ | ⟨_, h2, _⟩
          · by_cases h40 : (halfB P (halfA P S)).n < 40
            · exact .inr (.inr (.inl ⟨h40, hbB, by omega⟩))
            · exact .inr (.inr (.inr (.inr ⟨by omega, hbB, by omega⟩)))
          · exact absurd h2 hbS
          · exact .inr (.inr (.inr (.inr ⟨by omega, hbB, by omega⟩)))
          · exact absurd h2 hbS
        · rcases hj2 with ⟨h1, _, h3⟩ | ⟨_, h2, _⟩ | ⟨h1, _, h3⟩ | ⟨_, h2, _⟩
          · by_cases h40 : (halfA P S).n < 40
            · by_cases h41 : (halfB P (halfA P S)).n < 40
              · exact .inr (.inl ⟨h41, hbB, by omega⟩)
              · exact .inr (.inr (.inr (.inl ⟨by omega, hbB, by omega⟩)))
            · exact absurd (hrel (by omega)) hbB
          · exact absurd h2 hbS
          · exact absurd (hrel (by omega)) hbB
          · exact absurd h2 hbS

theorem rounds_jo {P : Pa} (hl : P.lost.length ≤ 40) {c : Nat} {S : Sy} (h : Jo P c 0 S) : ∀ t, Jo P c t (rounds P t S) := by
  intro t
  induction t with
  | zero => exact h
  | succ t ih => exact round_jo hl ih

/-- **Behind three hundred rounds both have all.** -/
theorem rounds_done {P : Pa} (hl : P.lost.length ≤ 40) {c : Nat} {S : Sy} (h : Jo P c 0 S) : Done P (rounds P 300 S) := by
  have hj := (rounds_jo hl h 300).j
  have ht := (rounds_jo hl h 300).ok.ta
  have htb := (rounds_jo hl h 300).ok.tb
  rcases hj with h | ⟨h1, _, h3⟩ | ⟨h1, _, h3⟩ | ⟨_, _, h3⟩ | ⟨_, _, h3⟩
  · exact h
  all_goals omega

def start : Sy := ⟨0, 0, 0, 2, 2, 0⟩
/-- The two first messages. -/
def first (P : Pa) : Sy := run P (enough P) (run P (enough P) start .firstA) .dB
theorem first_jo {P : Pa} : Jo P (2 * P.N + 6 + P.a + P.b) 0 (first P) := by
  have h0 : Ok P start := ⟨Nat.zero_le _, Nat.zero_le _, Nat.zero_le _, fun _ => rfl, fun _ => rfl, .inr rfl, .inr rfl⟩
  have hd1 := run_did P (enough P) start .firstA h0 rfl (enough_ok P _ _)
  have hk := hd1.kb (.inl rfl)
  have hpre : Pre P (run P (enough P) start .firstA) .dB := by
    show _ ≤ _
    rw [hk.2.2]
    exact Nat.zero_le _
  have hd2 := run_did P (enough P) _ .dB hd1.ok hpre (enough_ok P _ _)
  have hn1 := hd1.n (by intro e; cases e)
  have hn2 := hd2.n (by intro e; cases e)
  have hc1 := hd1.c
  have hc2 := hd2.c
  have hr := rem_le P start
  have hcd : cst (run P (enough P) start .firstA) .dB ≤ 2 := by simp only [cst]; split <;> omega
  have hs : start.n = 0 := rfl
  simp only [cst] at hc1
  have hta := hd2.ok.ta
  have htb := hd2.ok.tb
  have hnn : (first P).n = (run P (enough P) (run P (enough P) start .firstA) .dB).n := rfl
  refine ⟨hd2.ok, by show (first P).n + rem P (first P) ≤ _; unfold first; omega, ?_⟩
  by_cases hb : Bc P (first P)
  · by_cases h40 : (first P).n < 40
    · exact .inr (.inr (.inl ⟨h40, hb, by unfold first at *; omega⟩))
    · exact .inr (.inr (.inr (.inr ⟨by omega, hb, by unfold first at *; omega⟩)))
  · by_cases h40 : (first P).n < 40
    · exact .inr (.inl ⟨h40, hb, by unfold first at *; omega⟩)
    · exact .inr (.inr (.inr (.inl ⟨by omega, hb, by unfold first at *; omega⟩)))
end Fu
end Go.Proofs.Ytgbmhijgpdgdbaa

namespace Go.Proofs.Ytgbmhijgpdgdbaa
open Go.RowKit

theorem HeadsIn.apart {w w' : World} {F : Nat → Prop} {v : Value} {l : List Od.Hd} (h : HeadsIn w v l) (hf : Frame F w w') (hn : ∀ g, v.ownBlock = some g → ¬ F g) : HeadsIn w' v l := by
  obtain ⟨h1, h2⟩ := h
  refine ⟨hf.heads h1 (fun g hg => hn g hg), fun g hg => ?_⟩
  obtain ⟨cs, fr, e⟩ := h2 g hg
  exact ⟨cs, fr, (hf.block g (Array.getElem?_eq_some_iff.1 e).1 (hn g hg)).trans e⟩

/-- No block of F is one that side a stands on. -/
def Off (F : Nat → Prop) (B m : Nat) (a : Adj) : Prop := ∀ j, F j → j ≠ B ∧ j ≠ m ∧ a.order.ownBlock ≠ some j ∧ ¬ HeldB a j

section
variable {T : Tk} {w w' : World} {B m k g t : Nat} {a : Adj} {F : Nat → Prop}
theorem Off.wants {O : List Od.Ky} {M : Od.Ky → Option Od.Hd} (ho : Off F B m a) (hf : Frame F w w') (h : Wants w B m a O M) : Wants w' B m a O M :=
  h.frame hf fun j hj e => by
    obtain ⟨h1, h2, h3, _⟩ := ho j hj
    rcases e with e | e | e
    · exact h1 e
    · exact h2 e
    · exact h3 e
theorem Off.left (ho : Off F B m a) (hf : Frame F w w') {l : List Od.Hd} (h : HeadsIn w a.left l) : HeadsIn w' a.left l := h.apart hf fun j hj hF => (ho j hF).2.2.2 (.inl hj)
theorem Off.sent (ho : Off F B m a) (hf : Frame F w w') {l : List Od.Hd} (h : HeadsIn w a.sheads l) : HeadsIn w' a.sheads l := h.apart hf fun j hj hF => (ho j hF).2.2.2 (.inr (.inl hj))
theorem Off.asks (ho : Off F B m a) (hf : Frame F w w') {G : List Od.Ky} (h : KeysOwn w 0 a.asks G) : KeysOwn w' 0 a.asks G := hf.own h fun j hj hF => (ho j hF).2.2.2 (.inr (.inr hj))

theorem SlaveAt.frame (h : SlaveAt T w B m a k g t) (hf : Frame F w w') (ho : Off F B m a) : SlaveAt T w' B m a k g t :=
  ⟨h.toAdjC, hf.blk h.adj (fun e => (ho B e).1 rfl), h.ms, fun e => by
    obtain ⟨h1, h2, h3, h4, h5, h6, h7⟩ := h.zero e
    exact ⟨h1, h2, h3, h4, h5, ho.sent hf h6, ho.wants hf h7⟩, fun e => by
    obtain ⟨h1, h2, h3, h4, h5, h6, h7, h8, h9, h10, h11⟩ := h.some_ e
    exact ⟨h1, h2, h3, h4, h5, h6, h7, h8, h9, ho.sent hf h10, ho.left hf h11⟩, fun e e2 => ⟨(h.mid e e2).1, ho.wants hf (h.mid e e2).2⟩, fun e => ⟨fun e2 => ⟨((h.fin e).1 e2).1, ho.wants hf ((h.fin e).1 e2).2.1, ho.asks hf ((h.fin e).1 e2).2.2⟩, (h.fin e).2⟩, h.tim⟩

theorem MasterAt.frame (h : MasterAt T w B m a k g t) (hf : Frame F w w') (ho : Off F B m a) : MasterAt T w' B m a k g t :=
  ⟨h.toAdjC, hf.blk h.adj (fun e => (ho B e).1 rfl), fun e => ⟨(h.zero e).1, (h.zero e).2.1, ho.wants hf (h.zero e).2.2⟩, fun e e2 => ⟨(h.mid e e2).1, ho.wants hf (h.mid e e2).2.1, ho.left hf (h.mid e e2).2.2.1, (h.mid e e2).2.2.2⟩, fun e => by
    obtain ⟨h1, h2, h3, h4, h5⟩ := h.sent e
    exact ⟨h1, h2, h3, h4, ho.sent hf h5⟩, h.some_, fun e => ⟨fun e2 => ⟨((h.fin e).1 e2).1, ho.wants hf ((h.fin e).1 e2).2.1, ho.asks hf ((h.fin e).1 e2).2.2⟩, (h.fin e).2⟩, h.tim⟩
end

/-- The blocks that stay. -/
structure Cn where
  Wb : Nat
  Ba : Nat
  ma : Nat
  Bb : Nat
  mb : Nat
  N0 : Nat
  N1 : Nat
  LA : Option Addr
  ln : Nat
  lc : Nat

def Cn.con (C : Cn) (j : Nat) : Prop := j = C.Wb ∨ j = C.Ba ∨ j = C.ma ∨ j = C.Bb ∨ j = C.mb
structure CnOk (C : Cn) : Prop where
  lo : ∀ j, C.con j → C.N0 ≤ j ∧ j < C.N1
  n0 : C.N0 ≤ C.N1
  wa : C.Wb ≠ C.Ba
  wm : C.Wb ≠ C.ma
  wb : C.Wb ≠ C.Bb
  wn : C.Wb ≠ C.mb
  ab : C.Ba ≠ C.Bb
  an : C.Ba ≠ C.mb
  mb : C.ma ≠ C.Bb
  mn : C.ma ≠ C.mb

/-- An order counts as written while its side still exchanges. -/
def oC (T : Tk) (k : Nat) (a : Adj) (j : Nat) : Prop := k ≤ T.N ∧ a.order.ownBlock = some j
/-- What a message may write. -/
def Wr (T : Tk) (C : Cn) (ka kb : Nat) (a b : Adj) (v0 v1 : Value) (j : Nat) : Prop := C.con j ∨ v0.ownBlock = some j ∨ v1.ownBlock = some j ∨ oC T ka a j ∨ oC T kb b j

/-- The wire's block, what the two have, and that nothing lies on another. -/
structure Base (T : Tk) (P : Fu.Pa) (C : Cn) (w : World) (n ka kb : Nat) (a b : Adj) (v0 v1 : Value) (l0 l1 : List Od.Hd) : Prop where
  wire : Blk w C.Wb 51 #[.pointer (some ⟨C.Ba, 0, none⟩), .pointer (some ⟨C.Bb, 0, none⟩), v0, v1, .int .i64 n, .slice C.LA C.ln C.lc, .int .i64 n]
  o0 : w.ownsRow C.N0 59 8 v0 l0.length (l0.flatMap hcells)
  o1 : w.ownsRow C.N0 59 8 v1 l1.length (l1.flatMap hcells)
  la : ∀ j, HeldB a j ∨ a.order.ownBlock = some j → C.N1 ≤ j ∧ j < w.heap.size
  lb : ∀ j, HeldB b j ∨ b.order.ownBlock = some j → C.N1 ≤ j ∧ j < w.heap.size
  lv : ∀ j, v0.ownBlock = some j ∨ v1.ownBlock = some j → ¬ C.con j ∧ j < w.heap.size ∧ ¬ HeldB a j ∧ ¬ HeldB b j ∧ a.order.ownBlock ≠ some j ∧ b.order.ownBlock ≠ some j
  vv : ∀ j, v0.ownBlock = some j → v1.ownBlock ≠ some j
  da : ∀ j, oC T ka a j → b.order.ownBlock ≠ some j ∧ ¬ HeldB b j
  db : ∀ j, oC T kb b j → a.order.ownBlock ≠ some j ∧ ¬ HeldB a j
  sz : C.N1 ≤ w.heap.size
  lost : Reads w C.N0 1 C.LA C.ln (P.lost.map Value.bool)
  llen : P.lost.length = C.ln

section
variable {T : Tk} {P : Fu.Pa} {C : Cn} {w w' : World} {n ka kb : Nat} {a b : Adj} {v0 v1 : Value} {l0 l1 : List Od.Hd}

theorem Base.lost_keep {F : Nat → Prop} (hf : Frame F w w') (hF : ∀ j, F j → C.N0 ≤ j ∨ w.heap.size ≤ j) (h : Reads w C.N0 1 C.LA C.ln (P.lost.map Value.bool)) (hs : C.N0 ≤ w.heap.size) : Reads w' C.N0 1 C.LA C.ln (P.lost.map Value.bool) :=
  h.keep fun p hp => World.cell?_of_block (hf.block p.block (by omega) (fun e => by rcases hF _ e with h | h <;> omega))

theorem Base.con_lt (hC : CnOk C) (h : Base T P C w n ka kb a b v0 v1 l0 l1) {j : Nat} (hj : C.con j) : j < w.heap.size := Nat.lt_of_lt_of_le (hC.lo j hj).2 h.sz

/-- All of it, where nothing of it was written. -/
theorem Base.quiet (hC : CnOk C) (h : Base T P C w n ka kb a b v0 v1 l0 l1) (hb : Below w.heap.size w w') : Base T P C w' n ka kb a b v0 v1 l0 l1 := by
  have hf : Frame (fun _ => False) w w' := Frame.of_below hb
  have hs := hb.size
  refine ⟨hf.blk h.wire (fun e => e), hf.own h.o0 (fun _ _ e => e), hf.own h.o1 (fun _ _ e => e), fun j hj => ?_, fun j hj => ?_, fun j hj => ?_, h.vv, h.da, h.db, Nat.le_trans h.sz hs, Base.lost_keep hf (fun _ e => e.elim) h.lost (Nat.le_trans hC.n0 h.sz), h.llen⟩
  · have := h.la j hj; exact ⟨this.1, by omega⟩
  · have := h.lb j hj; exact ⟨this.1, by omega⟩
  · obtain ⟨h1, h2, h3⟩ := h.lv j hj; exact ⟨h1, by omega, h3⟩

/-- One more message is counted. -/
theorem Base.count (hC : CnOk C) (h : Base T P C w n ka kb a b v0 v1 l0 l1) : Base T P C ((w.setCell ⟨C.Wb, 6, none⟩ (.int .i64 (n + 1 : Nat))).setCell ⟨C.Wb, 4, none⟩ (.int .i64 (n + 1 : Nat))) (n + 1) ka kb a b v0 v1 l0 l1 ∧ Frame (fun j => j = C.Wb) w ((w.setCell ⟨C.Wb, 6, none⟩ (.int .i64 (n + 1 : Nat))).setCell ⟨C.Wb, 4, none⟩ (.int .i64 (n + 1 : Nat))) := by
  have hf : Frame (fun j => j = C.Wb) w ((w.setCell ⟨C.Wb, 6, none⟩ (.int .i64 (n + 1 : Nat))).setCell ⟨C.Wb, 4, none⟩ (.int .i64 (n + 1 : Nat))) := ((Frame.refl _ w).setB 6 _).setB 4 _
  have hs := hf.size
  have hWc : C.con C.Wb := .inl rfl
  have hW := hC.lo C.Wb hWc
  refine ⟨⟨(h.wire.set_ 6 _).set_ 4 _, hf.own h.o0 (fun j hj e => (h.lv j (.inl hj)).1 (e ▸ hWc)), hf.own h.o1 (fun j hj e => (h.lv j (.inr hj)).1 (e ▸ hWc)), fun j hj => ?_, fun j hj => ?_, fun j hj => ?_, h.vv, h.da, h.db, Nat.le_trans h.sz hs, Base.lost_keep hf (fun j e => by subst e; exact .inl hW.1) h.lost (Nat.le_trans hC.n0 h.sz), h.llen⟩, hf⟩
  · have := h.la j hj; exact ⟨this.1, by omega⟩
  · have := h.lb j hj; exact ⟨this.1, by omega⟩
  · obtain ⟨h1, h2, h3⟩ := h.lv j hj; exact ⟨h1, by omega, h3⟩
theorem Base.offWA (hC : CnOk C) (h : Base T P C w n ka kb a b v0 v1 l0 l1) : Off (fun j => j = C.Wb) C.Ba C.ma a := by
  rintro j rfl
  have hW := hC.lo C.Wb (.inl rfl)
  exact ⟨hC.wa, hC.wm, fun e => by have := (h.la _ (.inr e)).1; omega, fun e => by have := (h.la _ (.inl e)).1; omega⟩
theorem Base.offWB (hC : CnOk C) (h : Base T P C w n ka kb a b v0 v1 l0 l1) : Off (fun j => j = C.Wb) C.Bb C.mb b := by
  rintro j rfl
  have hW := hC.lo C.Wb (.inl rfl)
  exact ⟨hC.wb, hC.wn, fun e => by have := (h.lb _ (.inr e)).1; omega, fun e => by have := (h.lb _ (.inl e)).1; omega⟩

/-- The lesser has gone on. -/
theorem Base.stepA (hC : CnOk C) (h : Base T P C w n ka kb a b v0 v1 l0 l1) {ka' : Nat} {a' : Adj} (hk : ka ≤ ka')
    {F : Nat → Prop} (hf : Frame F w w') (hF : ∀ j, F j → j = C.Ba ∨ j = C.ma ∨ oC T ka a j) (ord : ∀ j, a'.order.ownBlock = some j → a.order.ownBlock = some j ∨ (w.heap.size ≤ j ∧ j < w'.heap.size)) (held : ∀ j, HeldB a' j → HeldB a j ∨ (w.heap.size ≤ j ∧ j < w'.heap.size)) :
    Base T P C w' n ka' kb a' b v0 v1 l0 l1 ∧ Off F C.Bb C.mb b ∧ Frame (Wr T C ka kb a b v0 v1) w w' ∧ ∀ j, Wr T C ka' kb a' b v0 v1 j → Wr T C ka kb a b v0 v1 j ∨ w.heap.size ≤ j := by
  have hsz := hf.size
  have hFc : ∀ j, F j → (C.con j ∧ j ≠ C.Wb ∧ j ≠ C.Bb ∧ j ≠ C.mb) ∨ oC T ka a j := by
    intro j hj
    rcases hF j hj with e | e | e
    · subst e
      exact .inl ⟨.inr (.inl rfl), hC.wa.symm, hC.ab, hC.an⟩
    · subst e
      exact .inl ⟨.inr (.inr (.inl rfl)), hC.wm.symm, hC.mb, hC.mn⟩
    · exact .inr e
  have hoA : ∀ j, oC T ka a j → C.N1 ≤ j := fun j hj => (h.la j (.inr hj.2)).1
  have hnc : ∀ j, C.con j → oC T ka a j → False := fun j hc ho => by have := (hC.lo j hc).2; have := hoA j ho; omega
  have hWb : ¬ F C.Wb := fun e => by
    rcases hFc _ e with e | e
    · exact e.2.1 rfl
    · exact hnc _ (.inl rfl) e
  have hoff : Off F C.Bb C.mb b := by
    intro j hj
    rcases hFc j hj with ⟨e1, e2, e3, e4⟩ | e
    · refine ⟨e3, e4, fun e => ?_, fun e => ?_⟩
      · have := (h.lb j (.inr e)).1; have := (hC.lo j e1).2; omega
      · have := (h.lb j (.inl e)).1; have := (hC.lo j e1).2; omega
    · refine ⟨fun e1 => hnc j (e1 ▸ .inr (.inr (.inr (.inl rfl)))) e, fun e1 => hnc j (e1 ▸ .inr (.inr (.inr (.inr rfl)))) e, (h.da j e).1, (h.da j e).2⟩
  have hv : ∀ j, v0.ownBlock = some j ∨ v1.ownBlock = some j → ¬ F j := fun j hj e => by
    obtain ⟨h1, _, _, _, h5, _⟩ := h.lv j hj
    rcases hFc j e with e1 | e1
    · exact h1 e1.1
    · exact h5 e1.2
  have hla' : ∀ j, HeldB a' j ∨ a'.order.ownBlock = some j → (HeldB a j ∨ a.order.ownBlock = some j) ∨ (w.heap.size ≤ j ∧ j < w'.heap.size) := by
    intro j hj
    rcases hj with hj | hj
    · exact (held j hj).imp .inl id
    · exact (ord j hj).imp .inr id
  refine ⟨⟨hf.blk h.wire hWb, hf.own h.o0 (fun j hj => hv j (.inl hj)), hf.own h.o1 (fun j hj => hv j (.inr hj)), ?_, ?_, ?_, h.vv, ?_, ?_, Nat.le_trans h.sz hsz, Base.lost_keep hf (fun j hj => ?_) h.lost (Nat.le_trans hC.n0 h.sz), h.llen⟩, hoff, ?_, ?_⟩
  · intro j hj
    have hsz2 := h.sz
    rcases hla' j hj with e | e
    · have := h.la j e
      exact ⟨this.1, by omega⟩
    · exact ⟨by omega, e.2⟩
  · intro j hj
    have := h.lb j hj
    exact ⟨this.1, by omega⟩
  · intro j hj
    obtain ⟨h1, h2, h3, h4, h5, h6⟩ := h.lv j hj
    refine ⟨h1, by omega, fun e => ?_, h4, fun e => ?_, h6⟩
    · rcases held j e with e | e
      · exact h3 e
      · omega
    · rcases ord j e with e | e
      · exact h5 e
      · omega
  · rintro j ⟨hk2, hj⟩
    rcases ord j hj with e | e
    · exact h.da j ⟨by omega, e⟩
    · refine ⟨fun e2 => ?_, fun e2 => ?_⟩
      · have := (h.lb j (.inr e2)).2; omega
      · have := (h.lb j (.inl e2)).2; omega
  · rintro j hj
    have hb := (h.lb j (.inr hj.2)).2
    have hd := h.db j hj
    refine ⟨fun e => ?_, fun e => ?_⟩
    · rcases ord j e with e | e
      · exact hd.1 e
      · omega
    · rcases held j e with e | e
      · exact hd.2 e
      · omega
  · rcases hFc j hj with e | e
    · exact .inl (hC.lo j e.1).1
    · have := hoA j e; have := hC.n0; exact .inl (by omega)
  · refine hf.mono fun j hj => ?_
    rcases hFc j hj with e | e
    · exact .inl e.1
    · exact .inr (.inr (.inr (.inl e)))
  · intro j hj
    rcases hj with e | e | e | ⟨e1, e2⟩ | e
    · exact .inl (.inl e)
    · exact .inl (.inr (.inl e))
    · exact .inl (.inr (.inr (.inl e)))
    · rcases ord j e2 with e | e
      · exact .inl (.inr (.inr (.inr (.inl ⟨by omega, e⟩))))
      · exact .inr e.1
    · exact .inl (.inr (.inr (.inr (.inr e))))

/-- The greater has gone on. -/
theorem Base.stepB (hC : CnOk C) (h : Base T P C w n ka kb a b v0 v1 l0 l1) {kb' : Nat} {b' : Adj} (hk : kb ≤ kb')
    {F : Nat → Prop} (hf : Frame F w w') (hF : ∀ j, F j → j = C.Bb ∨ j = C.mb ∨ oC T kb b j) (ord : ∀ j, b'.order.ownBlock = some j → b.order.ownBlock = some j ∨ (w.heap.size ≤ j ∧ j < w'.heap.size)) (held : ∀ j, HeldB b' j → HeldB b j ∨ (w.heap.size ≤ j ∧ j < w'.heap.size)) :
    Base T P C w' n ka kb' a b' v0 v1 l0 l1 ∧ Off F C.Ba C.ma a ∧ Frame (Wr T C ka kb a b v0 v1) w w' ∧ ∀ j, Wr T C ka kb' a b' v0 v1 j → Wr T C ka kb a b v0 v1 j ∨ w.heap.size ≤ j := by
  have hsz := hf.size
  have hFc : ∀ j, F j → (C.con j ∧ j ≠ C.Wb ∧ j ≠ C.Ba ∧ j ≠ C.ma) ∨ oC T kb b j := by
    intro j hj
    rcases hF j hj with e | e | e
    · subst e
      exact .inl ⟨.inr (.inr (.inr (.inl rfl))), hC.wb.symm, hC.ab.symm, hC.mb.symm⟩
    · subst e
      exact .inl ⟨.inr (.inr (.inr (.inr rfl))), hC.wn.symm, hC.an.symm, hC.mn.symm⟩
    · exact .inr e
  have hoA : ∀ j, oC T kb b j → C.N1 ≤ j := fun j hj => (h.lb j (.inr hj.2)).1
  have hnc : ∀ j, C.con j → oC T kb b j → False := fun j hc ho => by have := (hC.lo j hc).2; have := hoA j ho; omega
  have hWb : ¬ F C.Wb := fun e => by
    rcases hFc _ e with e | e
    · exact e.2.1 rfl
    · exact hnc _ (.inl rfl) e
  have hoff : Off F C.Ba C.ma a := by
    intro j hj
    rcases hFc j hj with ⟨e1, e2, e3, e4⟩ | e
    · refine ⟨e3, e4, fun e => ?_, fun e => ?_⟩
      · have := (h.la j (.inr e)).1; have := (hC.lo j e1).2; omega
      · have := (h.la j (.inl e)).1; have := (hC.lo j e1).2; omega
    · refine ⟨fun e1 => hnc j (e1 ▸ .inr (.inl rfl)) e, fun e1 => hnc j (e1 ▸ .inr (.inr (.inl rfl))) e, (h.db j e).1, (h.db j e).2⟩
  have hv : ∀ j, v0.ownBlock = some j ∨ v1.ownBlock = some j → ¬ F j := fun j hj e => by
    obtain ⟨h1, _, _, _, _, h5⟩ := h.lv j hj
    rcases hFc j e with e1 | e1
    · exact h1 e1.1
    · exact h5 e1.2
  have hla' : ∀ j, HeldB b' j ∨ b'.order.ownBlock = some j → (HeldB b j ∨ b.order.ownBlock = some j) ∨ (w.heap.size ≤ j ∧ j < w'.heap.size) := by
    intro j hj
    rcases hj with hj | hj
    · exact (held j hj).imp .inl id
    · exact (ord j hj).imp .inr id
  refine ⟨⟨hf.blk h.wire hWb, hf.own h.o0 (fun j hj => hv j (.inl hj)), hf.own h.o1 (fun j hj => hv j (.inr hj)), ?_, ?_, ?_, h.vv, ?_, ?_, Nat.le_trans h.sz hsz, Base.lost_keep hf (fun j hj => ?_) h.lost (Nat.le_trans hC.n0 h.sz), h.llen⟩, hoff, ?_, ?_⟩
  · intro j hj
    have := h.la j hj
    exact ⟨this.1, by omega⟩
  · intro j hj
    have hsz2 := h.sz
    rcases hla' j hj with e | e
    · have := h.lb j e
      exact ⟨this.1, by omega⟩
    · exact ⟨by omega, e.2⟩
  · intro j hj
    obtain ⟨h1, h2, h3, h4, h5, h6⟩ := h.lv j hj
    refine ⟨h1, by omega, h3, fun e => ?_, h5, fun e => ?_⟩
    · rcases held j e with e | e
      · exact h4 e
      · omega
    · rcases ord j e with e | e
      · exact h6 e
      · omega
  · rintro j hj
    have hb := (h.la j (.inr hj.2)).2
    have hd := h.da j hj
    refine ⟨fun e => ?_, fun e => ?_⟩
    · rcases ord j e with e | e
      · exact hd.1 e
      · omega
    · rcases held j e with e | e
      · exact hd.2 e
      · omega
  · rintro j ⟨hk2, hj⟩
    rcases ord j hj with e | e
    · exact h.db j ⟨by omega, e⟩
    · refine ⟨fun e2 => ?_, fun e2 => ?_⟩
      · have := (h.la j (.inr e2)).2; omega
      · have := (h.la j (.inl e2)).2; omega
  · rcases hFc j hj with e | e
    · exact .inl (hC.lo j e.1).1
    · have := hoA j e; have := hC.n0; exact .inl (by omega)
  · refine hf.mono fun j hj => ?_
    rcases hFc j hj with e | e
    · exact .inl e.1
    · exact .inr (.inr (.inr (.inr e)))
  · intro j hj
    rcases hj with e | e | e | e | ⟨e1, e2⟩
    · exact .inl (.inl e)
    · exact .inl (.inr (.inl e))
    · exact .inl (.inr (.inr (.inl e)))
    · exact .inl (.inr (.inr (.inr (.inl e))))
    · rcases ord j e2 with e | e
      · exact .inl (.inr (.inr (.inr (.inr ⟨by omega, e⟩))))
      · exact .inr e.1
end
end Go.Proofs.Ytgbmhijgpdgdbaa

namespace Go.Proofs.Ytgbmhijgpdgdbaa
open Go.RowKit

section
variable {T : Tk} {P : Fu.Pa} {C : Cn} {w w1 : World} {n ka kb : Nat} {a b : Adj} {v0 v1 v' : Value} {l0 l1 l' : List Od.Hd}

theorem Base.learn0 (hC : CnOk C) (h : Base T P C w n ka kb a b v0 v1 l0 l1) (ho : w1.ownsRow C.N0 59 8 v' l'.length (l'.flatMap hcells)) (hf1 : Frame (fun j => v0.ownBlock = some j) w w1) (hv' : v'.ownBlock = v0.ownBlock ∨ ∃ g, v'.ownBlock = some g ∧ w.heap.size ≤ g) :
    Base T P C (w1.setCell ⟨C.Wb, 2, none⟩ v') n ka kb a b v' v1 l' l1 ∧ Off (fun j => v0.ownBlock = some j ∨ j = C.Wb) C.Ba C.ma a ∧ Off (fun j => v0.ownBlock = some j ∨ j = C.Wb) C.Bb C.mb b ∧ Frame (fun j => v0.ownBlock = some j ∨ j = C.Wb) w (w1.setCell ⟨C.Wb, 2, none⟩ v') ∧
      Frame (Wr T C ka kb a b v0 v1) w (w1.setCell ⟨C.Wb, 2, none⟩ v') ∧ ∀ j, Wr T C ka kb a b v' v1 j → Wr T C ka kb a b v0 v1 j ∨ w.heap.size ≤ j := by
  have hf : Frame (fun j => v0.ownBlock = some j ∨ j = C.Wb) w (w1.setCell ⟨C.Wb, 2, none⟩ v') := (hf1.mono (fun _ e => .inl e)).setCell (p := ⟨C.Wb, 2, none⟩) (fun _ => .inr rfl) _
  have hs := hf.size
  have hW := hC.lo C.Wb (.inl rfl)
  have hlv0 := fun j (e : v0.ownBlock = some j) => h.lv j (.inl e)
  have hWv : v0.ownBlock ≠ some C.Wb := fun e => (hlv0 _ e).1 (.inl rfl)
  have hw1 : Blk w1 C.Wb 51 #[.pointer (some ⟨C.Ba, 0, none⟩), .pointer (some ⟨C.Bb, 0, none⟩), v0, v1, .int .i64 n, .slice C.LA C.ln C.lc, .int .i64 n] := hf1.blk h.wire hWv
  have hlt' : ∀ j, v'.ownBlock = some j → j < (w1.setCell ⟨C.Wb, 2, none⟩ v').heap.size := fun j hj => by have := (ho.lt j hj).2; simpa [World.setCell] using this
  have hold : ∀ j, v'.ownBlock = some j → v0.ownBlock = some j ∨ w.heap.size ≤ j := by
    intro j hj
    rcases hv' with e | ⟨g, e, hg⟩
    · left; rw [← e]; exact hj
    · right; rw [e] at hj; cases hj; exact hg
  have hWsz : C.Wb < w.heap.size := h.con_lt hC (.inl rfl)
  have hnW' : v'.ownBlock ≠ some C.Wb := fun e => by
    rcases hold _ e with e | e
    · exact hWv e
    · omega
  refine ⟨⟨hw1.set_ 2 _, own_far ho (q := ⟨C.Wb, 2, none⟩) hnW' _, hf.own h.o1 (fun j hj e => ?_), fun j hj => ?_, fun j hj => ?_, fun j hj => ?_, fun j hj => ?_, h.da, h.db, Nat.le_trans h.sz hs, Base.lost_keep hf (fun j e => ?_) h.lost (Nat.le_trans hC.n0 h.sz), h.llen⟩, ?_, ?_, hf, hf.mono (fun j e => ?_), fun j hj => ?_⟩
  · rcases e with e | e
    · exact h.vv j e hj
    · exact (h.lv j (.inr hj)).1 (e ▸ .inl rfl)
  · have := h.la j hj; exact ⟨this.1, by omega⟩
  · have := h.lb j hj; exact ⟨this.1, by omega⟩
  · rcases hj with hj | hj
    · rcases hold j hj with e | e
      · obtain ⟨h1, h2, h3⟩ := hlv0 j e; exact ⟨h1, by omega, h3⟩
      · refine ⟨fun e2 => by have := h.con_lt hC e2; omega, hlt' j hj, fun e2 => ?_, fun e2 => ?_, fun e2 => ?_, fun e2 => ?_⟩
        · have := (h.la j (.inl e2)).2; omega
        · have := (h.lb j (.inl e2)).2; omega
        · have := (h.la j (.inr e2)).2; omega
        · have := (h.lb j (.inr e2)).2; omega
    · obtain ⟨h1, h2, h3⟩ := h.lv j (.inr hj); exact ⟨h1, by omega, h3⟩
  · intro e
    rcases hold j hj with e2 | e2
    · exact h.vv j e2 e
    · have := (h.lv j (.inr e)).2.1; omega
  · rcases e with e | e
    · exact .inl (h.o0.lt j e).1
    · subst e; exact .inl hW.1
  · rintro j (e | rfl)
    · obtain ⟨h1, _, h3, _, h5, _⟩ := hlv0 j e
      exact ⟨fun e2 => h1 (e2 ▸ .inr (.inl rfl)), fun e2 => h1 (e2 ▸ .inr (.inr (.inl rfl))), h5, h3⟩
    · exact h.offWA hC _ rfl
  · rintro j (e | rfl)
    · obtain ⟨h1, _, _, h4, _, h6⟩ := hlv0 j e
      exact ⟨fun e2 => h1 (e2 ▸ .inr (.inr (.inr (.inl rfl)))), fun e2 => h1 (e2 ▸ .inr (.inr (.inr (.inr rfl)))), h6, h4⟩
    · exact h.offWB hC _ rfl
  · rcases e with e | e
    · exact .inr (.inl e)
    · exact .inl (e ▸ .inl rfl)
  · rcases hj with e | e | e
    · exact .inl (.inl e)
    · rcases hold j e with e | e
      · exact .inl (.inr (.inl e))
      · exact .inr e
    · exact .inl (.inr (.inr e))

theorem Base.learn1 (hC : CnOk C) (h : Base T P C w n ka kb a b v0 v1 l0 l1) (ho : w1.ownsRow C.N0 59 8 v' l'.length (l'.flatMap hcells)) (hf1 : Frame (fun j => v1.ownBlock = some j) w w1) (hv' : v'.ownBlock = v1.ownBlock ∨ ∃ g, v'.ownBlock = some g ∧ w.heap.size ≤ g) :
    Base T P C (w1.setCell ⟨C.Wb, 3, none⟩ v') n ka kb a b v0 v' l0 l' ∧ Off (fun j => v1.ownBlock = some j ∨ j = C.Wb) C.Ba C.ma a ∧ Off (fun j => v1.ownBlock = some j ∨ j = C.Wb) C.Bb C.mb b ∧ Frame (fun j => v1.ownBlock = some j ∨ j = C.Wb) w (w1.setCell ⟨C.Wb, 3, none⟩ v') ∧
      Frame (Wr T C ka kb a b v0 v1) w (w1.setCell ⟨C.Wb, 3, none⟩ v') ∧ ∀ j, Wr T C ka kb a b v0 v' j → Wr T C ka kb a b v0 v1 j ∨ w.heap.size ≤ j := by
  have hf : Frame (fun j => v1.ownBlock = some j ∨ j = C.Wb) w (w1.setCell ⟨C.Wb, 3, none⟩ v') := (hf1.mono (fun _ e => .inl e)).setCell (p := ⟨C.Wb, 3, none⟩) (fun _ => .inr rfl) _
  have hs := hf.size
  have hW := hC.lo C.Wb (.inl rfl)
  have hlv1 := fun j (e : v1.ownBlock = some j) => h.lv j (.inr e)
  have hWv : v1.ownBlock ≠ some C.Wb := fun e => (hlv1 _ e).1 (.inl rfl)
  have hw1 : Blk w1 C.Wb 51 #[.pointer (some ⟨C.Ba, 0, none⟩), .pointer (some ⟨C.Bb, 0, none⟩), v0, v1, .int .i64 n, .slice C.LA C.ln C.lc, .int .i64 n] := hf1.blk h.wire hWv
  have hlt' : ∀ j, v'.ownBlock = some j → j < (w1.setCell ⟨C.Wb, 3, none⟩ v').heap.size := fun j hj => by have := (ho.lt j hj).2; simpa [World.setCell] using this
  have hold : ∀ j, v'.ownBlock = some j → v1.ownBlock = some j ∨ w.heap.size ≤ j := by
    intro j hj
    rcases hv' with e | ⟨g, e, hg⟩
    · left; rw [← e]; exact hj
    · right; rw [e] at hj; cases hj; exact hg
  have hWsz : C.Wb < w.heap.size := h.con_lt hC (.inl rfl)
  have hnW' : v'.ownBlock ≠ some C.Wb := fun e => by
    rcases hold _ e with e | e
    · exact hWv e
    · omega
  refine ⟨⟨hw1.set_ 3 _, hf.own h.o0 (fun j hj e => ?_), own_far ho (q := ⟨C.Wb, 3, none⟩) hnW' _, fun j hj => ?_, fun j hj => ?_, fun j hj => ?_, fun j hj e => ?_, h.da, h.db, Nat.le_trans h.sz hs, Base.lost_keep hf (fun j e => ?_) h.lost (Nat.le_trans hC.n0 h.sz), h.llen⟩, ?_, ?_, hf, hf.mono (fun j e => ?_), fun j hj => ?_⟩
  · rcases e with e | e
    · exact h.vv j hj e
    · exact (h.lv j (.inl hj)).1 (e ▸ .inl rfl)
  · have := h.la j hj; exact ⟨this.1, by omega⟩
  · have := h.lb j hj; exact ⟨this.1, by omega⟩
  · rcases hj with hj | hj
    · obtain ⟨h1, h2, h3⟩ := h.lv j (.inl hj); exact ⟨h1, by omega, h3⟩
    · rcases hold j hj with e | e
      · obtain ⟨h1, h2, h3⟩ := hlv1 j e; exact ⟨h1, by omega, h3⟩
      · refine ⟨fun e2 => by have := h.con_lt hC e2; omega, hlt' j hj, fun e2 => ?_, fun e2 => ?_, fun e2 => ?_, fun e2 => ?_⟩
        · have := (h.la j (.inl e2)).2; omega
        · have := (h.lb j (.inl e2)).2; omega
        · have := (h.la j (.inr e2)).2; omega
        · have := (h.lb j (.inr e2)).2; omega
  · rcases hold j e with e2 | e2
    · exact h.vv j hj e2
    · have := (h.lv j (.inl hj)).2.1; omega
  · rcases e with e | e
    · exact .inl (h.o1.lt j e).1
    · subst e; exact .inl hW.1
  · rintro j (e | rfl)
    · obtain ⟨h1, _, h3, _, h5, _⟩ := hlv1 j e
      exact ⟨fun e2 => h1 (e2 ▸ .inr (.inl rfl)), fun e2 => h1 (e2 ▸ .inr (.inr (.inl rfl))), h5, h3⟩
    · exact h.offWA hC _ rfl
  · rintro j (e | rfl)
    · obtain ⟨h1, _, _, h4, _, h6⟩ := hlv1 j e
      exact ⟨fun e2 => h1 (e2 ▸ .inr (.inr (.inr (.inl rfl)))), fun e2 => h1 (e2 ▸ .inr (.inr (.inr (.inr rfl)))), h6, h4⟩
    · exact h.offWB hC _ rfl
  · rcases e with e | e
    · exact .inr (.inr (.inl e))
    · exact .inl (e ▸ .inl rfl)
  · rcases hj with e | e | e | e
    · exact .inl (.inl e)
    · exact .inl (.inr (.inl e))
    · rcases hold j e with e | e
      · exact .inl (.inr (.inr (.inl e)))
      · exact .inr e
    · exact .inl (.inr (.inr (.inr e)))
end
end Go.Proofs.Ytgbmhijgpdgdbaa

namespace Go.Proofs.Ytgbmhijgpdgdbaa
open Go.RowKit

inductive Sg | firstA | dA | dB | rA | rB
def Sg.ml : Sg → Fu.Ml
  | .firstA => .firstA
  | .dA => .dA
  | .dB => .dB
  | .rA => .rA
  | .rB => .rB
def Sg.to : Sg → Int
  | .dB => 0
  | .rB => 0
  | _ => 1

/-- A message, as its row has it. -/
def SgAt (T : Tk) (w : World) (W : Nat → Prop) (S : Fu.Sy) : Sg → Raw → Prop
  | .firstA, r => ∃ A c, r = ⟨true, 0, 2, 7, T.s0, .slice A 0 c, .slice none 0 0⟩
  | .dA, r => ∃ hv, r = ⟨true, 0, 2, dflags false (T.A.drop (16 * (S.p / 2))), seqAt T.s1 (S.p / 2), hv, .slice none 0 0⟩ ∧ HeadsIn w hv ((T.A.drop (16 * (S.p / 2))).take 16) ∧ ∀ j, hv.ownBlock = some j → ¬ W j
  | .dB, r => ∃ hv, r = ⟨true, 0, 2, flB T.B (S.p / 2), seqAt T.s1 (S.p / 2), hv, .slice none 0 0⟩ ∧ HeadsIn w hv (chB T.B (S.p / 2)) ∧ ∀ j, hv.ownBlock = some j → ¬ W j
  | .rA, r => ∃ kv, r = oneReq kv ∧ KeysOwn w 0 kv (((T.WA.drop S.ga).map keyOfHd).take 16) ∧ ∀ j, kv.ownBlock = some j → ¬ W j
  | .rB, r => ∃ kv, r = oneReq kv ∧ KeysOwn w 0 kv (((T.WB.drop S.gb).map keyOfHd).take 16) ∧ ∀ j, kv.ownBlock = some j → ¬ W j

/-- A row of messages. -/
def RowAt (w : World) (vg i : Nat) (r : Raw) : Prop := ∀ k u, r.cells[k]? = some u → w.cell? ⟨vg, i * 7 + k, none⟩ = some u

/-- A state of the talk in the world. -/
structure NetIs (T : Tk) (P : Fu.Pa) (C : Cn) (w : World) (S : Fu.Sy) (a b : Adj) (v0 v1 : Value) : Prop where
  bs : Base T P C w S.n ((S.p + 1) / 2) (S.p / 2) a b v0 v1 (gained T.A (T.WA.take S.ga)) (gained T.B (T.WB.take S.gb))
  sa : SlaveAt T w C.Ba C.ma a ((S.p + 1) / 2) S.ga S.ta
  sb : MasterAt T w C.Bb C.mb b (S.p / 2) S.gb S.tb

def WrS (T : Tk) (C : Cn) (S : Fu.Sy) (a b : Adj) (v0 v1 : Value) : Nat → Prop := Wr T C ((S.p + 1) / 2) (S.p / 2) a b v0 v1

/-- The talk has gone on to S'. -/
def Went (T : Tk) (P : Fu.Pa) (C : Cn) (w : World) (W : Nat → Prop) (S' : Fu.Sy) (w' : World) : Prop :=
  ∃ a b v0 v1, NetIs T P C w' S' a b v0 v1 ∧ Frame W w w' ∧ ∀ j, WrS T C S' a b v0 v1 j → W j ∨ w.heap.size ≤ j

theorem Went.trans {T : Tk} {P : Fu.Pa} {C : Cn} {w w1 w2 : World} {W : Nat → Prop} {S' : Fu.Sy} {W1 : Nat → Prop} (hf : Frame W w w1) (hW : ∀ j, W1 j → W j ∨ w.heap.size ≤ j) (h : Went T P C w1 W1 S' w2) : Went T P C w W S' w2 := by
  obtain ⟨a, b, v0, v1, h1, h2, h3⟩ := h
  refine ⟨a, b, v0, v1, h1, hf.trans' h2 (fun i hi e => ?_), fun j hj => ?_⟩
  · rcases hW i e with e | e
    · exact e
    · omega
  · rcases h3 j hj with e | e
    · exact hW j e
    · exact .inr (Nat.le_trans hf.size e)

/-- What is left of a list of messages, from the i-th on. -/
def Left (T : Tk) (w : World) (W : Nat → Prop) (S : Fu.Sy) (vg i : Nat) : List Sg → Prop
  | [] => True
  | [g] => ∃ r, RowAt w vg i r ∧ SgAt T w W S g r
  | g :: g' :: _ => (∃ r, RowAt w vg i r ∧ SgAt T w W S g r) ∧ g = .dA ∧ g' = .rA ∧ 2 * T.N + 1 ≤ S.p ∧ ∃ r, RowAt w vg (i + 1) r ∧ SgAt T w W S .rA r

/-- The states that a list of messages goes through. -/
def runs (P : Fu.Pa) (f : Nat) : Fu.Sy → List Sg → Fu.Sy
  | S, [] => S
  | S, g :: l => runs P f (Fu.run P (f + 1) S g.ml) l
def Fine (P : Fu.Pa) (f : Nat) : Fu.Sy → List Sg → Prop
  | S, [] => Fu.Ok P S
  | S, g :: l => Fu.Ok P S ∧ Fu.Pre P S g.ml ∧ Fu.rem P S + Fu.cst S g.ml ≤ f + 1 ∧ S.n + Fu.rem P S + Fu.cst S g.ml < 4000 ∧ Fine P f (Fu.run P (f + 1) S g.ml) l

theorem oneCell_lost {P : Fu.Pa} {C : Cn} {w : World} (h : Reads w C.N0 1 C.LA C.ln (P.lost.map Value.bool)) (hl : P.lost.length = C.ln) {n : Nat} (hn : n < C.ln) : ∃ b off, C.LA = some ⟨b, off, none⟩ ∧ b < C.N0 ∧ w.cell? ⟨b, off + n, none⟩ = some (.bool (Fu.lostAt P n)) := by
  obtain ⟨ad, u, hA, hb, hu, hc⟩ := h.at_ hn
  have hu2 : u = .bool (Fu.lostAt P n) := by
    rw [List.getElem?_map, List.getElem?_eq_getElem (by omega)] at hu
    unfold Fu.lostAt
    rw [List.getD_eq_getElem?_getD, List.getElem?_eq_getElem (by omega)]
    simpa using hu.symm
  obtain ⟨ad0, u0, hA0, _, _, hc0⟩ := h.at_ (k := 0) (by omega)
  have : ad0 = ad := by rw [hA] at hA0; injection hA0 with e; exact e.symm
  subst this
  have hs := World.cell?_spot hc0
  obtain ⟨b, off, sp⟩ := ad0
  have hsp : sp = none := by simpa [Addr.add] using hs
  subst hsp
  refine ⟨b, off, hA, hb, ?_⟩
  rw [← hu2]
  unfold Addr.add at hc
  split at hc
  · rename_i e; subst e; exact hc
  · exact hc

set_option maxRecDepth 20000 in
set_option maxHeartbeats 1000000 in
theorem deliver_nil (w : World) (p : Value) (t : Int) : Calls Try.prog 18 #[p, .int .i64 t, .slice none 0 0] w fun e w' => e = .returned (.tuple #[]) ∧ w = w' := by
  go_enter Try.func18, Try.ntmps18
  go_wp2_with fail
  refine wp_loop_rounds 1 ?_
  rw [rounds_succ]
  go_wp2_with fail
  refine bodyPost_end (v := .tuple #[]) (by simp [results, Try.results18, go_sem]) rfl ⟨rfl, rfl⟩
end Go.Proofs.Ytgbmhijgpdgdbaa
