/- The two configs of the pair; what each side says and holds, joined with the plain law. -/
import Derived.Test.YtgbmhijgpdgdbaaPairLink
import Derived.Test.YtgbmhijgpdgdbaaNewJoin
import Derived.Test.YtgbmhijgpdgdbaaLostInv
namespace Go.Proofs.Ytgbmhijgpdgdbaa
open Go.RowKit

def pcfg (ro ad p h d : Int) (v : Value) : LC := ⟨0, ro, 167772160, 24, ad, 2, h, d, 0, p, false, false, v, 0⟩

theorem maskn24 : maskN (24 : Int).toNat = 4294967040 := by decide
theorem net24 : bits .and .u32 167772160 4294967040 = 167772160 := by decide
theorem net24a : bits .and .u32 167772161 4294967040 = 167772160 := by decide
theorem net24b : bits .and .u32 167772162 4294967040 = 167772160 := by decide
theorem net24n : bits .andNot .u32 167772160 4294967040 = 0 := by decide

theorem pcfg_ok (ro ad p h d : Int) (v : Value) (h0 : 0 ≤ h) (h1 : h < 65536) : PCfg (pcfg ro ad p h d v) := by
  refine ⟨rfl, rfl, by show (0 : Int) ≤ 24; decide, by show (24 : Int) ≤ 32; decide, ?_, ?_⟩
  · show bits .and .u32 167772160 (maskN (24 : Int).toNat) = 167772160
    rw [maskn24, net24]
  · show h % 4294967296 = h
    omega

theorem pcfg_may (ro ad p h d : Int) (v : Value) (hr : ro ≠ 0) (ha : ad ≠ 0) (hn : bits .and .u32 ad 4294967040 = 167772160) (hh : h ≠ 0) (hd : d ≠ 0) : MayOk (pcfg ro ad p h d v) [] := by
  refine ⟨by show (0 : Int) ≤ 4; decide, hr, hh, hd, rfl, by show (24 : Int) ≤ 32; decide, fun e => ?_, fun _ => ⟨rfl, ha, ?_, ?_, fun e => ?_, fun _ => rfl, fun e => ?_⟩⟩
  · exact absurd (show (0 : Int) = 4 from e) (by decide)
  · show bits .andNot .u32 167772160 (maskN (24 : Int).toNat) = 0
    rw [maskn24, net24n]
  · show bits .and .u32 ad (maskN (24 : Int).toNat) = 167772160
    rw [maskn24, hn]
  · cases e
  · cases e

theorem pcfg_may4 (ro ad p h d f r : Int) (v : Value) (h1 : r ≠ 0) (h2 : r ≠ ro) (h3 : f ≠ 0) (h4 : f ≠ ad) (hn : bits .and .u32 f 4294967040 = 167772160) : (mB4 (pcfg ro ad p h d v) f r || mB5 (pcfg ro ad p h d v) f || mB6 (pcfg ro ad p h d v) r) = false := by
  have e4 : mB4 (pcfg ro ad p h d v) f r = false := by simp [mB4, pcfg, h1, h2, h3, h4]
  have e5 : mB5 (pcfg ro ad p h d v) f = false := by
    show ((0 : Int) == 0 && !decide (bits .and .u32 f (maskN (24 : Int).toNat) = 167772160)) = false
    rw [maskn24, hn]
    rfl
  have e6 : mB6 (pcfg ro ad p h d v) r = false := by simp [mB6, pcfg]
  rw [e4, e5, e6]
  rfl

theorem elState_zero (c : LC) (h : c.ad ≠ 0) : elState c (0, 0) = 4 := by
  have : (c.ad == 0) = false := by simpa using h
  simp [elState, this]

def UpPL (B : Nat) (c : LC) (ro : Int) (s : Pr.PS) (o : Option Pr.HL) (w : World) (e : Ending) (w' : World) : Prop :=
  ∃ v, e = .returned v ∧ SayAt w' c ro v o ∧ Frame (fun j => j = B) w w' ∧ PL w' B c s B B

theorem up_pl (w : World) (B : Nat) (c : LC) (ro : Int) (s : Pr.Sde) (H D : Nat) (V U : Nat → Int × Int) (hc : PCfg c) (hps : c.ps = false) (hpo : c.po = 0) (hpe : ∃ A k, c.pe = .slice A 0 k) (had : c.ad ≠ 0) (hp : c.pr = s.p) (hi : c.hi = H) (hd : c.dd = D) (hD : 0 < D) (hV : V 0 = (0, 0))
    (k : Blk w B 119 (lks c 0 0 0 0 0 0 0 (.slice none 0 0))) :
    Calls Try.prog 33 #[.pointer (some ⟨B, 0, none⟩)] w fun e w' => UpPL B c ro (Pr.Sd c s H D V U 0) (Pr.Pd s.p H V 0) w e w' := by
  have h7 : c.ty ≠ 4 := by rw [hc.ty]; decide
  have hsh : c.shared = true := by simp [LC.shared, hc.ty]
  have hpd : Pr.Pd s.p H V 0 = some ⟨c.pr, 0, 0, false⟩ := by simp [Pr.Pd, hV, hp]
  rw [hpd]
  by_cases h8 : c.pr = 0
  · have hsd : Pr.Sd c s H D V U 0 = ⟨4, 0, 0, 0, c.hi, none⟩ := by
      have : s.p = 0 := by rw [← hp]; exact h8
      simp [Pr.Sd, hV, this, elState_zero c had, hi]
    rw [hsd]
    refine (pup_other w B c ro h7 hc.dm hc.hi hpo hc.n0 hc.n1 hc.peers hps hpe hsh h8 k).mono ?_
    rintro e w' ⟨v, rfl, h1, h2, h3⟩
    exact ⟨v, rfl, h1, h2, h3, rfl, rfl⟩
  · have hsd : Pr.Sd c s H D V U 0 = ⟨2, 0, 0, c.dd, c.hi, none⟩ := by
      have : s.p ≠ 0 := by rw [← hp]; exact h8
      simp [Pr.Sd, hV, this, hD, hi, hd]
    rw [hsd]
    refine (pup_wait w B c ro h7 hc.dm hc.hi hpo hc.n0 hc.n1 hc.peers hps hpe hsh h8 k).mono ?_
    rintro e w' ⟨v, rfl, h1, h2, h3⟩
    exact ⟨v, rfl, h1, h2, h3, rfl, rfl⟩

section
variable {N : Nat} {w : World} {B B' : Nat} {c c' : LC} {s : Pr.Sde} {s' : Pr.PS} {H D : Nat} {V U : Nat → Int × Int}

/-- Side one hears what the other says behind t ticks. -/
theorem Two.hear_t {t : Nat} (h : Two N w B c (Pr.Sd c s H D V U t) B' c' s') (hN : N ≤ w.heap.size) (hc : PCfg c) (hS : Pr.Steps s H D V U) (hr : c.ro = s.r) (ha : c.ad = s.a) (hp : c.pr = s.p) (hd : c.dd = D) (hH : 0 < H) (hr0 : s.r' ≠ 0) (hok : (mB4 c s.a' s.r' || mB5 c s.a' || mB6 c s.r') = false)
    {hl : Pr.HL} {lv : Value} (hh : Pr.Pd s.q H U t = some hl) (hlv : LstAt w c.ro lv hl.has) :
    Calls Try.prog 35 #[.pointer (some ⟨B, 0, none⟩), .int .u32 s.a', .int .u32 s.r', helloL c hl lv] w fun e w' => (∃ a n k, e = .returned (.tuple #[.slice a n k, .int .i64 0])) ∧ LFr N w w' ∧ Two N w' B c (Pr.Md c s H D V U t) B' c' s' := by
  obtain ⟨ok, he⟩ := Pr.hear_md hS hr ha hp hd hH t hl hh
  rw [← he]
  exact h.hear hN hc ok hlv hr0 hok

theorem Two.quiet_t {t : Nat} (h : Two N w B c (Pr.Sd c s H D V U t) B' c' s') (hH : 0 < H) (hh : Pr.Pd s.q H U t = none) : Two N w B c (Pr.Md c s H D V U t) B' c' s' := by
  rw [← Pr.quiet_md hH t hh]
  exact h

theorem Two.tick_t {t : Nat} (h : Two N w B c (Pr.Md c s H D V U t) B' c' s') (hc : PCfg c) (hS : Pr.Steps s H D V U) (hr : c.ro = s.r) (ha : c.ad = s.a) (hp : c.pr = s.p) (hi : c.hi = H) (hH : 0 < H) (hD : H < D) (hDm : D < 4294967296) :
    Calls Try.prog 36 #[.pointer (some ⟨B, 0, none⟩)] w fun e w' => ∃ v, e = .returned v ∧ SayAt w' c s.r' v (Pr.Pd s.p H V (t + 1)) ∧ LFr N w w' ∧ Two N w' B c (Pr.Sd c s H D V U (t + 1)) B' c' s' := by
  obtain ⟨ok, he, hy⟩ := Pr.tick_md hS hr ha hp hi hH hD hDm t
  rw [← he, ← hy]
  exact h.tick hc ok ⟨_, rfl, rfl⟩
end

/-- What a side holds at the end. -/
structure EndOf (c : LC) (s : Pr.Sde) (x : Int × Int) (z : Pr.PS) (n : Kn) : Prop where
  nb : z.nb = some n
  st : z.st = elState c x
  dr : z.dr = x.1
  bd : z.bd = x.2
  ns : n.st = 3
  na : n.ad = s.a'

theorem end_of {c : LC} {s : Pr.Sde} {H D : Nat} {V U : Nat → Int × Int} {t : Nat} {x : Int × Int} (hH : 0 < H) (hD : H < D) (ht : D + H + H ≤ t) (hV : V t = x) : ∃ n, EndOf c s x (Pr.Sd c s H D V U t) n := by
  have h0 : ¬ t = 0 := by omega
  have hw : ¬ (s.p ≠ 0 ∧ t < D) := fun e => by omega
  refine ⟨_, if_neg h0, ?_, ?_, ?_, ?_, rfl⟩
  · show (if s.p ≠ 0 ∧ t < D then (2 : Int) else elState c (V t)) = _
    rw [if_neg hw, hV]
  · show (V t).1 = _
    rw [hV]
  · show (V t).2 = _
    rw [hV]
  · show (if t ≤ H then (2 : Int) else 3) = 3
    rw [if_neg (by omega)]

theorem want_end {c : LC} {s : Pr.Sde} {x : Int × Int} {z : Pr.PS} {n : Kn} (he : EndOf c s x z n) (hty : c.ty = 0) (ha : c.ad = s.a) (ha0 : s.a ≠ 0) (ha0' : s.a' ≠ 0) (h1 : x.1 ≠ 0 ↔ s.p ≠ 0 ∨ s.q ≠ 0) (h2 : x.2 ≠ 0 ↔ s.p ≠ 0 ∧ s.q ≠ 0) (h3 : s.p ≠ 0 ∨ s.q ≠ 0 → x.1 = s.a ∨ x.1 = s.a') (K : Nat) :
    wantK c z.st z.dr z.bd (K, n) = decide (s.p ≠ 0 ∨ s.q ≠ 0) := by
  have hsh : c.shared = true := by simp [LC.shared, hty]
  unfold wantK
  rw [he.st, he.dr, he.bd, hsh]
  show ((n.st == 3) && (false || (decide (5 ≤ elState c x) || ((elState c x == 4) && (n.ad == x.1 || n.ad == x.2))))) = _
  rw [he.ns, he.na]
  by_cases hs : s.p ≠ 0 ∨ s.q ≠ 0
  · rw [decide_eq_true hs]
    rcases h3 hs with e | e
    · have : elState c x = 6 := by simp [elState, ha, e]
      rw [this]
      rfl
    · have e' : (s.a' == x.1) = true := by simpa using e.symm
      rw [e']
      rcases Decidable.em (5 ≤ elState c x) with h5 | h5
      · rw [decide_eq_true h5]
        rfl
      · have h4 := Pr.elState4 c x
        have : elState c x = 4 := by omega
        rw [this]
        rfl
  · rw [decide_eq_false hs]
    have e1 : x.1 = 0 := Decidable.byContradiction fun e => hs (h1.1 e)
    have e2 : x.2 = 0 := Decidable.byContradiction fun e => hs (.inl (h2.1 e).1)
    have e4 : elState c x = 4 := by
      have : x = (0, 0) := Prod.ext e1 e2
      rw [this]
      exact elState_zero c (by rw [ha]; exact ha0)
    have e5 : (s.a' == (0 : Int)) = false := by simpa using ha0'
    rw [e4, e1, e2, e5]
    rfl

/-- The link's block, whatever it knows. -/
theorem PL.blk {w : World} {B : Nat} {c : LC} {s : Pr.PS} {L K : Nat} (h : PL w B c s L K) : ∃ l, Blk w B 119 (lks c s.st s.dr s.bd s.wt s.nx 0 0 l) := by
  cases hn : s.nb with
  | none => exact ⟨_, (h.nil hn).1⟩
  | some n =>
    obtain ⟨cap, h1⟩ := h.one hn
    exact ⟨_, h1.b⟩

theorem Two.chiefs {N : Nat} {w : World} {B B' : Nat} {c c' : LC} {s s' : Pr.PS} (h : Two N w B c s B' c' s') :
    Calls Try.prog 42 #[.pointer (some ⟨B, 0, none⟩)] w fun e w' => e = .returned (.tuple #[.int .u32 s.dr, .int .u32 s.bd]) ∧ Below w.heap.size w w' := by
  obtain ⟨L, K, _, _, h1, _⟩ := h
  obtain ⟨l, hb⟩ := h1.blk
  exact chiefs_any w B c _ _ _ _ _ _ _ _ hb

theorem Two.neigh {N : Nat} {w : World} {B B' : Nat} {c c' : LC} {s s' : Pr.PS} (h : Two N w B c s B' c' s') {n : Kn} (hn : s.nb = some n) {b : Bool} (hw : ∀ K, wantK c s.st s.dr s.bd (K, n) = b) (h3 : n.st = 3) :
    Calls Try.prog 38 #[.pointer (some ⟨B, 0, none⟩)] w fun e w' => (∃ g cap, e = .returned (.slice (some ⟨g, 0, none⟩) 1 cap) ∧ w'.cell? ⟨g, 2, none⟩ = some (.int .u8 3) ∧ w'.cell? ⟨g, 8, none⟩ = some (.bool b) ∧ g < w'.heap.size) ∧ Below w.heap.size w w' := by
  obtain ⟨L, K, _, _, h1, _⟩ := h
  obtain ⟨cap, hl⟩ := h1.one hn
  refine (neigh_row w B c _ _ _ _ _ _ _ L cap [(K, n)] (by simp) hl.b hl.row).mono ?_
  rintro e w' ⟨v, rfl, hown, hb⟩
  obtain ⟨g, cp, rfl⟩ := own_slice1 hown
  have h2 : w'.cell? ⟨g, 2, none⟩ = some (.int .u8 3) := own_cell hown 2 (by rw [← h3]; rfl)
  refine ⟨⟨g, cp, rfl, h2, own_cell hown 8 (by rw [← hw K]; rfl), lt_of_cell h2⟩, hb⟩
end Go.Proofs.Ytgbmhijgpdgdbaa
