/- The document's link in the world. -/
import Derived.Test.YtgbmhijgpdgdbaaLpHear13
import Derived.Test.YtgbmhijgpdgdbaaLpMxX
namespace Go.Proofs.Ytgbmhijgpdgdbaa
namespace Pl
structure St where
  st : Int
  dr : Int
  bd : Int
  wt : Int
  nx : Int
  po : Int
  re : Int
  l : List Kn
structure Hel where
  ma : Int
  hi : Int
  op : Int
  pr : Int
  dd : Int
  dr : Int
  bd : Int
  nb : List Int
def still (c : LC) (k : Kn) : Bool := c.dm && (k.fu && ((bits .and .u8 k.op 32 != 0) && (k.st == 3)))
def heard (k : Kn) : Bool := decide (2 ≤ k.st)
def two (k : Kn) : Bool := k.st == 3
def hel (c : LC) (s : St) : Hel := ⟨lmaskV c, c.hi, optV c, c.pr, c.dd, s.dr, s.bd, (s.l.filter heard).map (·.ro)⟩
def due (c : LC) (s : St) (pb : Bool) (k : Kn) : Bool := dueV c s.st s.dr s.bd pb k.st k.ad k.pr
def toOf (c : LC) (s : St) : Int := if c.ty = 4 then s.re else 3758096389
def round (c : LC) (s : St) (pb : Bool) : List (Int × Hel) :=
  if c.peers then (s.l.filter (due c s pb)).map fun k => (k.ad, hel c s)
  else if pb || ((toOf c s == 0) || (s.l.length == 1 && s.l.all (still c))) then [] else [(toOf c s, hel c s)]
def voice (k : Kn) : El.V := ⟨k.ro, k.ad, k.pr, k.dr, k.bd⟩
def chosen (c : LC) (s : St) : Int × Int := El.elect ⟨c.ro, c.ad, c.pr, s.dr, s.bd⟩ ((s.l.filter two).map voice)
def wake (c : LC) (k : Kn) : Kn := if k.st = 0 then { k with st := 1, lf := c.dd } else k
def elect (c : LC) (s : St) : St :=
  { s with dr := (chosen c s).1, bd := (chosen c s).2, st := elState c (chosen c s), l := if c.ty = 1 ∧ 5 ≤ elState c (chosen c s) then s.l.map (wake c) else s.l }
def gone (p : Int × Int) : Kn := ⟨0, p.1, 0, p.2, 0, 0, 0, 0, false, false⟩
def fresh (c : LC) (p : Int × Int) : Kn := if c.ty = 2 ∨ (0 < c.pr ∧ 0 < p.2) then { gone p with st := 1, lf := c.dd } else gone p
def upSt (c : LC) (L : List (Int × Int)) (s : St) : St :=
  if s.st ≠ 0 then s else if c.ps = true then { s with st := 1 } else
  { s with st := if c.shared = false then 3 else if c.pr = 0 then 4 else 2, wt := if c.shared = true ∧ c.pr ≠ 0 then c.dd else s.wt, nx := c.hi, po := c.po, l := L.map (fresh c) }
def upOut (c : LC) (L : List (Int × Int)) (s : St) : List (Int × Hel) := if s.st ≠ 0 ∨ c.ps = true then [] else round c (upSt c L s) false
def downSt (s : St) : St := ⟨0, 0, 0, 0, 0, 0, s.re, []⟩
def quietK (c : LC) (k : Kn) : Bool := (k.st == 0) || still c k
def older (k : Kn) : Kn := { k with lf := k.lf - 1 }
def zero : Kn := ⟨0, 0, 0, 0, 0, 0, 0, 0, false, false⟩
def ageK (c : LC) (p : Int × Int) (k : Kn) : List Kn := if quietK c k then [k] else if k.lf = 1 then (if c.peers then [gone p] else []) else [older k]
def agedTo (c : LC) (L : List (Int × Int)) (l : List Kn) : Nat → List Kn
  | 0 => []
  | k + 1 => agedTo c L l k ++ ageK c (L.getD k (0, 0)) (l.getD k zero)
def age (c : LC) (L : List (Int × Int)) (l : List Kn) : List Kn := agedTo c L l l.length
def lost (c : LC) (l : List Kn) : Bool := l.any fun k => !quietK c k && ((k.lf == 1) && two k)
def tickEl (c : LC) (b : Bool) (s : St) : St :=
  if s.st = 2 then if s.wt = 1 then elect c { s with wt := 0 } else { s with wt := s.wt - 1 }
  else if b = true ∧ 4 ≤ s.st then elect c s else s
def tickNx (c : LC) (s : St) : St := { s with nx := if s.nx = 1 then c.hi else s.nx - 1 }
def tickPo (c : LC) (s : St) : St := { s with po := if s.po = 0 then 0 else if s.po = 1 then c.po else s.po - 1 }
def tickA (c : LC) (L : List (Int × Int)) (s : St) : St := tickEl c (lost c s.l) { s with l := age c L s.l }
def tickSt (c : LC) (L : List (Int × Int)) (s : St) : St := if s.st ≤ 1 then s else tickPo c (tickNx c (tickA c L s))
def tickOut (c : LC) (L : List (Int × Int)) (s : St) : List (Int × Hel) :=
  if s.st ≤ 1 then [] else (if (tickA c L s).nx = 1 then round c (tickA c L s) false else []) ++ (if (tickA c L s).po = 1 then round c (tickA c L s) true else [])
def isAt (c : LC) (f r : Int) (k : Kn) : Bool := if 3 ≤ c.ty then k.ro == r else k.ad == f
def find (c : LC) (f r : Int) (l : List Kn) : Option Nat := l.findIdx? (isAt c f r)
def findI (c : LC) (f r : Int) (l : List Kn) : Int := match find c f r l with | some i => i | none => -1
def mayE (c : LC) (s : St) (f r : Int) (h : Hel) : Int :=
  if s.st ≤ 1 then 45 else if h.hi ≠ c.hi ∨ h.dd ≠ c.dd then 43 else if c.ty < 3 ∧ h.ma ≠ maskN c.nb.toNat then 42
  else if bits .and .u8 (bits .xor .u8 h.op c.op) 10 ≠ 0 then 44 else if r = 0 ∨ r = c.ro ∨ f = 0 ∨ f = c.ad then 41
  else if c.ty = 0 ∧ bits .and .u32 f (maskN c.nb.toNat) ≠ c.na then 41 else if c.ty = 4 ∧ r ≠ c.rm then 46
  else if c.peers = true ∧ findI c f r s.l < 0 then 46 else if c.ty = 0 ∧ findI c f r s.l < 0 ∧ 64 ≤ s.l.length then 47 else 0
def place (f : Int) : List Kn → Nat
  | [] => 0
  | k :: l => if k.ad < f then place f l + 1 else 0
def putAt (c : LC) (f : Int) (l : List Kn) : Nat := if c.ty = 0 then place f l else 0
def putL (c : LC) (f : Int) (l : List Kn) : List Kn := if c.ty = 0 then l.take (place f l) ++ zero :: l.drop (place f l) else [zero]
def spot (c : LC) (f r : Int) (l : List Kn) : Nat := match find c f r l with | some i => i | none => putAt c f l
def withSpot (c : LC) (f r : Int) (l : List Kn) : List Kn := match find c f r l with | some _ => l | none => putL c f l
def same (r : Int) (old : Kn) : Bool := (old.ro == r) && decide (2 ≤ old.st)
def newKn (c : LC) (f r : Int) (h : Hel) (old : Kn) : Kn :=
  { ro := r, ad := f, st := if c.ro ∈ h.nb then 3 else 2, pr := h.pr, dr := h.dr, bd := h.bd, op := h.op, lf := c.dd, wa := false, fu := same r old && (old.fu && decide (c.ro ∈ h.nb)) }
def change (f : Int) (sm : Bool) (old n : Kn) : Bool :=
  if two old && (two n && sm) then (old.pr != n.pr) || (((old.dr == f) != (n.dr == f)) || ((old.bd == f) != (n.bd == f))) else (two old != two n) || (two n && !sm)
def hear1 (c : LC) (s : St) (f r : Int) (h : Hel) (old : Kn) : St := { s with l := (withSpot c f r s.l).set (spot c f r s.l) (newKn c f r h old) }
def hear2 (c : LC) (s : St) (f r : Int) (h : Hel) (old : Kn) : St :=
  if s.st = 2 then if two (newKn c f r h old) && ((h.bd == f) || ((h.dr == f) && (h.bd == 0))) then elect c (hear1 c s f r h old) else hear1 c s f r h old
  else if 4 ≤ s.st ∧ change f (same r old) old (newKn c f r h old) = true then elect c (hear1 c s f r h old) else hear1 c s f r h old
def oldOf (c : LC) (s : St) (f r : Int) : Kn := (withSpot c f r s.l).getD (spot c f r s.l) zero
def hearSt (c : LC) (s : St) (f r : Int) (h : Hel) : St := if mayE c s f r h ≠ 0 then s else hear2 c s f r h (oldOf c s f r)
def hearOut (c : LC) (s : St) (f r : Int) (h : Hel) : List (Int × Hel) :=
  if mayE c s f r h ≠ 0 then [] else if c.ty = 1 ∧ c.pr = 0 ∧ 0 < h.pr ∧ f ≠ (hearSt c s f r h).dr ∧ f ≠ (hearSt c s f r h).bd then [(f, hel c (hearSt c s f r h))] else []
def markL (a : Int) (b : Bool) (l : List Kn) : List Kn := l.map fun k => if k.ad = a ∧ two k = true then { k with fu := b } else k
def wanted (c : LC) (s : St) (k : Kn) : Bool := two k && (!c.shared || (decide (5 ≤ s.st) || ((s.st == 4) && ((k.ad == s.dr) || (k.ad == s.bd)))))
structure CfgOk (c : LC) (L : List (Int × Int)) : Prop where
  ty0 : 0 ≤ c.ty
  ty : c.ty ≤ 4
  nb0 : 0 ≤ c.nb
  nb : c.nb ≤ 32
  vi : c.ty = 4 → c.nb = 0
  pr0 : 0 ≤ c.pr
  hi0 : 1 ≤ c.hi
  hi : c.hi < 65536
  dd0 : 1 ≤ c.dd
  dd : c.dd < 4294967296
  po0 : 0 ≤ c.po
  po : c.po < 65536
  pp : c.peers = decide (0 < c.po)
  ln : L.length ≤ 64
  no : c.peers = false → L = []
  dm : c.dm = true → 3 ≤ c.ty
structure KnOk (k : Kn) : Prop where
  st0 : 0 ≤ k.st
  lf : k.st ≠ 0 → 1 ≤ k.lf ∧ k.lf < 4294967296
  wa : k.wa = false
structure Ok (c : LC) (L : List (Int × Int)) (s : St) : Prop where
  st0 : 0 ≤ s.st
  st1 : s.st ≤ 6
  kn : ∀ k ∈ s.l, KnOk k
  wt : s.st = 2 → 1 ≤ s.wt ∧ s.wt < 4294967296
  nx : 2 ≤ s.st → 1 ≤ s.nx ∧ s.nx < 4294967296
  po : 0 ≤ s.po ∧ s.po < 4294967296
  ln : s.l.length ≤ 64
  one : 3 ≤ c.ty → s.l.length ≤ 1
  pe : c.peers = true → 2 ≤ s.st → s.l.length = L.length
  dn : s.st ≤ 1 → s.l = []
end Pl
end Go.Proofs.Ytgbmhijgpdgdbaa
namespace Go.Proofs.Ytgbmhijgpdgdbaa
open Go.RowKit
def rcells (k : Kn) : List Value := [.int .u32 k.ro, .int .u32 k.ad, .int .u8 k.st, .int .u8 k.pr, .int .u32 k.dr, .int .u32 k.bd, .int .u8 k.op, .int .u32 k.lf, .bool k.fu]
def rval (k : Kn) : Value := .agg #[.int .u32 k.ro, .int .u32 k.ad, .int .u8 k.st, .int .u8 k.pr, .int .u32 k.dr, .int .u32 k.bd, .int .u8 k.op, .int .u32 k.lf, .bool k.fu]
def rlk (c : LC) (s : Pl.St) (v : Value) : Array Value := #[.int .u8 c.ty, .int .u32 c.ro, .int .u32 c.na, .int .u8 c.nb, .int .u32 c.ad, .int .u8 c.op, .int .u16 c.hi, .int .u32 c.dd, .int .u16 c.po, .int .u8 c.pr, .bool c.dm, .bool c.ps, c.pe, .int .u32 c.rm,
  .int .u8 s.st, .int .u32 s.dr, .int .u32 s.bd, .int .u32 s.wt, .int .u32 s.nx, .int .u32 s.po, .int .u32 s.re, v]
abbrev RBlk (w : World) (R : Nat) (c : LC) (s : Pl.St) (v : Value) : Prop := Blk w R 148 (rlk c s v)
abbrev ROwn (lo : Nat) (w : World) (v : Value) (l : List Kn) : Prop := w.ownsRow lo 157 9 v l.length (l.flatMap rcells)
structure RAt (lo : Nat) (w : World) (R : Nat) (c : LC) (s : Pl.St) (v : Value) : Prop where
  loR : lo ≤ R
  b : RBlk w R c s v
  o : ROwn lo w v s.l
def RTy (w : World) (j : Nat) : Prop := ∃ cs t, Blk w j t cs ∧ (t = 148 ∨ t = 157)
def RFr (lo : Nat) (w w' : World) : Prop := Frame (fun j => lo ≤ j ∧ RTy w j) w w'
section
variable {lo : Nat} {w w' w'' : World} {R : Nat} {c : LC} {s s' : Pl.St} {v v' : Value} {l : List Kn}
theorem RFr.refl (lo : Nat) (w : World) : RFr lo w w := Frame.refl _ _
theorem RFr.of_below (h : Below w.heap.size w w') : RFr lo w w' := Frame.of_below h
theorem RFr.trans (h : RFr lo w w') (k : RFr lo w' w'') : RFr lo w w'' :=
  ⟨k.os.trans h.os, k.tape.trans h.tape, k.output.trans h.output, Nat.le_trans h.size k.size, fun i hi hS => by
    have h1 := h.block i hi hS
    refine (k.block i (by have := h.size; omega) (fun ⟨a, cs, t, hb, ht⟩ => hS ⟨a, cs, t, h1.symm.trans hb, ht⟩)).trans h1⟩
theorem RFr.below (h : RFr lo w w') (hl : lo ≤ w.heap.size) : Below lo w w' := ⟨h.os, h.tape, h.output, h.size, fun k hk => h.block k (by omega) (fun e => by omega)⟩
theorem RFr.blk {g : Nat} {t : TypeId} {cs : Array Value} (h : RFr lo w w') (hb : Blk w g t cs) (h1 : t ≠ 148) (h2 : t ≠ 157) : Blk w' g t cs :=
  Frame.blk h hb (fun ⟨_, cs', t', hb', ht⟩ => by
    have e : some (Obj.cells cs t (0, 0)) = some (Obj.cells cs' t' (0, 0)) := hb.symm.trans hb'
    injection e with e
    injection e with e1 e2
    subst e2
    rcases ht with ht | ht
    · exact h1 ht
    · exact h2 ht)
theorem RFr.one {g : Nat} {t : TypeId} {cs : Array Value} (hg : Blk w g t cs) (hl : lo ≤ g) (ht : t = 148 ∨ t = 157) (h : Frame (fun j => j = g) w w') : RFr lo w w' :=
  h.mono fun i e => by subst e; exact ⟨hl, cs, t, hg, ht⟩
theorem RAt.below (h : RAt lo w R c s v) (hb : Below w.heap.size w w') : RAt lo w' R c s v :=
  ⟨h.loR, h.b.below hb h.b.lt, (Frame.of_below (S := fun _ => False) hb).own h.o (fun _ _ e => e)⟩
theorem RAt.ne (h : RAt lo w R c s v) : v.ownBlock ≠ some R := own_blk_ne h.o h.b (by decide)
theorem RAt.turn (h : RAt lo w R c s v) (hf : Frame (fun j => j = R) w w') (hb : RBlk w' R c s' v) (hl : s'.l = s.l) : RAt lo w' R c s' v ∧ RFr lo w w' :=
  ⟨⟨h.loR, hb, by rw [hl]; exact hf.own h.o (fun g hg e => h.ne (by rw [hg, e]))⟩, RFr.one h.b h.loR (.inl rfl) hf⟩
theorem rflat_length (l : List Kn) : (l.flatMap rcells).length = l.length * 9 := by
  induction l with
  | nil => rfl
  | cons a t ih => simp only [List.flatMap_cons, List.length_append, ih, List.length_cons, show (rcells a).length = 9 from rfl]; omega
theorem rflat_at {l : List Kn} {i : Nat} {k : Kn} (h : l[i]? = some k) {j : Nat} {u : Value} (hj : (rcells k)[j]? = some u) : (l.flatMap rcells)[i * 9 + j]? = some u := by
  induction l generalizing i with
  | nil => simp at h
  | cons x l ih =>
    rw [List.flatMap_cons]
    have hl : (rcells x).length = 9 := rfl
    cases i with
    | zero =>
      simp at h
      subst h
      have hj9 : j < 9 := (List.getElem?_eq_some_iff.1 hj).1
      rw [List.getElem?_append_left (by rw [hl]; omega)]
      simpa using hj
    | succ i =>
      rw [List.getElem?_append_right (by rw [hl]; omega), hl, show (i + 1) * 9 + j - 9 = i * 9 + j from by omega]
      exact ih (by simpa using h)
theorem ROwn.knb (h : ROwn lo w v l) {i : Nat} {k : Kn} (hk : l[i]? = some k) :
    ∃ b n cap, v = .slice (some ⟨b, 0, none⟩) n cap ∧ n = l.length ∧ b < w.heap.size ∧ ∀ j u, (rcells k)[j]? = some u → w.cell? ⟨b, i * 9 + j, none⟩ = some u := by
  have hi := (List.getElem?_eq_some_iff.1 hk).1
  rcases h.2 with ⟨_, h2⟩ | ⟨g, cap, cur, rfl, hg, hh, hle, hcm, hcs, hx⟩
  · omega
  · refine ⟨g, _, cap, rfl, rfl, (Array.getElem?_eq_some_iff.1 hh).1, fun j u hj => ?_⟩
    have hu := rflat_at hk hj
    rw [Blk.cell hh (i * 9 + j), ← Array.getElem?_toList]
    rw [← hx, List.getElem?_take] at hu
    split at hu
    · exact hu
    · cases hu
theorem rflat_set {l : List Kn} {i : Nat} {k k' : Kn} {j : Nat} {u : Value} (h : l[i]? = some k) (hk : (rcells k).set j u = rcells k') (hj : j < 9) : (l.flatMap rcells).set (i * 9 + j) u = (l.set i k').flatMap rcells := by
  induction l generalizing i with
  | nil => simp at h
  | cons x l ih =>
    have hl : (rcells x).length = 9 := rfl
    rw [List.flatMap_cons]
    cases i with
    | zero =>
      simp at h
      subst h
      rw [List.set_append_left _ _ (by rw [hl]; omega), List.set_cons_zero, List.flatMap_cons, Nat.zero_mul, Nat.zero_add, hk]
    | succ i =>
      rw [List.set_append_right _ _ (by rw [hl]; omega), hl, show (i + 1) * 9 + j - 9 = i * 9 + j from by omega, ih (by simpa using h), List.set_cons_succ, List.flatMap_cons]
theorem ROwn.set1 {b n cap : Nat} (h : ROwn lo w (.slice (some ⟨b, 0, none⟩) n cap) l) {i : Nat} {k k' : Kn} {j : Nat} {u : Value} (hi : l[i]? = some k) (hk : (rcells k).set j u = rcells k') (hj : j < 9) :
    ROwn lo (w.setCell ⟨b, i * 9 + j, none⟩ u) (.slice (some ⟨b, 0, none⟩) n cap) (l.set i k') := by
  obtain ⟨h1, h2⟩ := h
  rcases h2 with ⟨e, _⟩ | ⟨g', cap', cur, e, hb, hh, hc1, hc2, hcs, hct⟩
  · cases e
  · injection e with e1 e2 e3
    injection e1 with e1
    injection e1 with e1
    subst e1 e2 e3
    have hb2 : Blk w b 157 cur := hh
    refine ⟨by rw [rflat_length, List.length_set], .inr ⟨b, cap, _, by rw [List.length_set], hb, hb2.set_ (i * 9 + j) u, by rw [List.length_set]; exact hc1, hc2, by simpa using hcs, ?_⟩⟩
    rw [Array.toList_setIfInBounds, List.length_set, List.take_set, hct, rflat_set hi hk hj]
theorem RAt.row_ne {b n cap : Nat} (h : RAt lo w R c s (.slice (some ⟨b, 0, none⟩) n cap)) : b ≠ R := fun e => h.ne (by rw [e]; rfl)
theorem RFr.ofRow {b n cap : Nat} {l : List Kn} (h : ROwn lo w (.slice (some ⟨b, 0, none⟩) n cap) l) (hf : Frame (fun j => j = b) w w') : RFr lo w w' := by
  rcases h.2 with ⟨e, _⟩ | ⟨g', cap', cur, e, hb, hh, _⟩
  · cases e
  · injection e with e1
    injection e1 with e1
    injection e1 with e1
    subst e1
    exact RFr.one (t := 157) (cs := cur) hh hb (.inr rfl) hf
theorem ROwn.frozen {b n cap : Nat} {l : List Kn} (h : ROwn lo w (.slice (some ⟨b, 0, none⟩) n cap) l) : (∀ q, w.frozen? ⟨b, q, none⟩ = false) ∧ b < w.heap.size := by
  rcases h.2 with ⟨e, _⟩ | ⟨g', cap', cur, e, hb, hh, _⟩
  · cases e
  · injection e with e1
    injection e1 with e1
    injection e1 with e1
    subst e1
    exact ⟨Blk.frozen (t := 157) (cs := cur) hh, (Array.getElem?_eq_some_iff.1 hh).1⟩
end
end Go.Proofs.Ytgbmhijgpdgdbaa
