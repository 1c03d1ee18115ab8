/- LinkPlays, of whatever config and script. -/
import Derived.Test.YtgbmhijgpdgdbaaLpNewEx
import Derived.Test.YtgbmhijgpdgdbaaLpMxX
import Derived.Test.YtgbmhijgpdgdbaaLpStep
import Derived.Test.YtgbmhijgpdgdbaaLpMxY
import Derived.Test.YtgbmhijgpdgdbaaLpGiven
import Derived.Test.YtgbmhijgpdgdbaaLpWorks13
set_option maxHeartbeats 8000000
set_option maxRecDepth 20000
namespace Go.Proofs.Ytgbmhijgpdgdbaa
open Go.RowKit
theorem andNot_of_and {x : Int} {n : Nat} (h0 : 0 ≤ x) (h1 : x < 4294967296) (hn : n ≤ 32) (h : bits .and .u32 x (maskN n) = x) : bits .andNot .u32 x (maskN n) = 0 := by
  obtain ⟨m0, m1⟩ := mask_range n hn
  rw [u32_and x (maskN n) h0 h1 m0 m1] at h
  rw [u32_andNot x (maskN n) h0 h1 m0 m1]
  have h' : x.toNat &&& (maskN n).toNat = x.toNat := by omega
  have key : x.toNat &&& (4294967295 - (maskN n).toNat) = 0 := by
    apply Nat.eq_of_testBit_eq
    intro i
    rw [Nat.testBit_and, Nat.zero_testBit]
    have hx : (x.toNat &&& (maskN n).toNat).testBit i = x.toNat.testBit i := by rw [h']
    rw [Nat.testBit_and] at hx
    by_cases hi : i < 32
    · have e : 4294967295 - (maskN n).toNat = 2 ^ 32 - ((maskN n).toNat + 1) := by omega
      rw [e, Nat.testBit_two_pow_sub_succ (by omega)]
      cases h2 : x.toNat.testBit i <;> simp [h2, hi] at hx ⊢
      exact hx
    · have : x.toNat.testBit i = false := Nat.testBit_lt_two_pow (Nat.lt_of_lt_of_le (show x.toNat < 2 ^ 32 by omega) (Nat.pow_le_pow_right (by omega) (by omega)))
      simp [this]
  rw [key]
  rfl
theorem okV {c : LC} {L : List (Int × Int)} (h : c.ty = 4) : nV c (n1 c c.peers (pmB c L)) = true ↔ MayOk c L := by
  have hp : c.peers = false := by simp [LC.peers, h]
  unfold nV n1
  simp only [Bool.and_eq_true, decide_eq_true_eq, bne_iff_ne, beq_iff_eq, Bool.not_eq_true', pmB_iff]
  constructor
  · rintro ⟨⟨a1, a2, a3, a4, a5, a6, a7⟩, ⟨b1, b2⟩, b3, b4, b5, b6⟩
    exact ⟨a1, a2, a3, a4, a5, a6, fun _ => ⟨b1, b2, b3, b4, b5, b6, a7.1 hp⟩, fun e => absurd h e⟩
  · intro m
    obtain ⟨b1, b2, b3, b4, b5, b6, b7⟩ := m.vi h
    exact ⟨⟨m.ty, m.ro, m.hi, m.dd, m.po, m.nb, fun _ => b7, fun e => by rw [hp] at e; cases e⟩, ⟨b1, b2⟩, b3, b4, b5, b6⟩
theorem okO {c : LC} {L : List (Int × Int)} (h : c.ty ≠ 4) (hna : WdOk c.na) : nO c (n1 c c.peers (pmB c L)) = true ↔ MayOk c L := by
  unfold nO n1
  simp only [Bool.and_eq_true, decide_eq_true_eq, bne_iff_ne, beq_iff_eq, Bool.not_eq_true', Bool.or_eq_true, pmB_iff]
  constructor
  · rintro ⟨⟨a1, a2, a3, a4, a5, a6, a7⟩, b1, b2, b3, b4, b5⟩
    refine ⟨a1, a2, a3, a4, a5, a6, fun e => absurd e h, fun _ => ⟨b1, b2, andNot_of_and hna.v0 hna.v1 (by omega) b3, b4, fun e => ?_, a7.1, a7.2⟩⟩
    rcases b5 with b5 | b5
    · rw [b5] at e; cases e
    · exact b5
  · intro m
    obtain ⟨b1, b2, b3, b4, b5, b6, b7⟩ := m.ot h
    refine ⟨⟨m.ty, m.ro, m.hi, m.dd, m.po, m.nb, b6, b7⟩, b1, b2, and_of_andNot hna.v0 hna.v1 (by have := m.nb; omega) b3, b4, ?_⟩
    cases hd : c.dm with
    | false => exact .inl rfl
    | true => exact .inr (b5 hd)
theorem new_ex (w : World) (c : LC) (L : List (Int × Int)) (hL : PeersAt w w.heap.size c.pe L) (hlen : L.length ≤ 200) (had : WdOk c.ad) (hna : WdOk c.na) (hwd : ∀ p ∈ L, WdOk p.1) (hn0 : 0 ≤ c.nb) :
    Calls Try.prog 31 #[.agg c.cells] w fun e w' =>
      (MayOk c L ∧ ∃ B v, e = .returned (.tuple #[.pointer (some ⟨B, 0, none⟩), .int .i64 0]) ∧ w.heap.size ≤ B ∧ Blk w' B 119 (lks { c with pe := v } 0 0 0 0 0 0 0 (.slice none 0 0)) ∧ PeersAt w' B v L ∧ Below w.heap.size w w') ∨
      (¬ MayOk c L ∧ e = .returned (.tuple #[.pointer none, .int .i64 60]) ∧ Below w.heap.size w w') := by
  by_cases h : c.ty = 4
  · refine (new_ex_v w c L hL hlen had hwd (by simpa using h)).mono ?_
    rintro e w' (⟨hb, h1⟩ | ⟨hb, h1⟩)
    · exact .inl ⟨(okV h).1 hb, h1⟩
    · exact .inr ⟨fun m => (by rw [(okV h).2 m] at hb; cases hb), h1⟩
  · refine (new_ex_o w c L hL hlen had hwd hn0 (by simpa using h)).mono ?_
    rintro e w' (⟨hb, h1⟩ | ⟨hb, h1⟩)
    · exact .inl ⟨(okO h hna).1 hb, h1⟩
    · exact .inr ⟨fun m => (by rw [(okO h hna).2 m] at hb; cases hb), h1⟩
end Go.Proofs.Ytgbmhijgpdgdbaa
namespace Go.Proofs.Ytgbmhijgpdgdbaa
open Go.RowKit Go.Shelf
structure Sv where
  dn : Int
  n : Int
  fr : Int
  ro : Int
  h : Pl.Hel
  na : Option Addr
  nn : Nat
  nc : Nat
def Sv.cells (x : Sv) : List Value := [.int .i64 x.dn, .int .i64 x.n, .int .u32 x.fr, .int .u32 x.ro, .int .u32 x.h.ma, .int .u16 x.h.hi, .int .u8 x.h.op, .int .u8 x.h.pr, .int .u32 x.h.dd, .int .u32 x.h.dr, .int .u32 x.h.bd, .slice x.na x.nn x.nc]
theorem Reads.row {α : Type} {f : α → List Value} {w : World} {N m n : Nat} {A : Option Addr} {l : List α} (hf : ∀ a, (f a).length = m) (hm : 0 < m) (h : Reads w N m A n (l.flatMap f)) (hn : l.length = n) {k : Nat} {x : α} (hx : l[k]? = some x) :
    ∃ b off, A = some ⟨b, off, none⟩ ∧ b < N ∧ ∀ j u, (f x)[j]? = some u → w.cell? ⟨b, off + k * m + j, none⟩ = some u := by
  have hk : k < l.length := (List.getElem?_eq_some_iff.1 hx).1
  obtain ⟨ad, rfl, hb, hc⟩ := h.2 (by omega)
  have h0 := hc (0 * m + 0) _ (flat_at f hf (List.getElem?_eq_getElem (show 0 < l.length by omega)) (List.getElem?_eq_getElem (show 0 < (f l[0]).length by rw [hf]; exact hm)))
  have hs := World.cell?_spot h0
  rw [Nat.zero_mul, Nat.zero_add] at hs
  obtain ⟨b, off, spot⟩ := ad
  have hsp : spot = none := by simpa [Addr.add] using hs
  subst hsp
  refine ⟨b, off, rfl, hb, fun j u hu => ?_⟩
  have h1 := hc _ _ (flat_at f hf hx hu)
  rw [addN] at h1
  rwa [show off + k * m + j = off + (k * m + j) from by omega]
theorem MayOk.pe_ {c : LC} {L : List (Int × Int)} (v : Value) : MayOk (c.with v) L ↔ MayOk c L := ⟨fun m => ⟨m.ty, m.ro, m.hi, m.dd, m.po, m.nb, m.vi, m.ot⟩, fun m => ⟨m.ty, m.ro, m.hi, m.dd, m.po, m.nb, m.vi, m.ot⟩⟩
structure CfgIn (c : LC) : Prop where
  ty : 0 ≤ c.ty
  nb : 0 ≤ c.nb
  pr : 0 ≤ c.pr
  hi : 0 ≤ c.hi ∧ c.hi < 65536
  dd : 0 ≤ c.dd ∧ c.dd < 4294967296
  po : 0 ≤ c.po ∧ c.po < 65536
  ad : WdOk c.ad
  na : WdOk c.na
theorem cfg_ok {c : LC} {L : List (Int × Int)} (i : CfgIn c) (m : MayOk c L) : Pl.CfgOk c L where
  ty0 := i.ty
  ty := m.ty
  nb0 := i.nb
  nb := m.nb
  vi := fun h => (m.vi h).2.1
  pr0 := i.pr
  hi0 := by have := i.hi; have := m.hi; omega
  hi := i.hi.2
  dd0 := by have := i.dd; have := m.dd; omega
  dd := i.dd.2
  po0 := i.po.1
  po := i.po.2
  pp := m.po
  ln := by
    cases hp : c.peers with
    | false =>
      have : L = [] := by
        by_cases h : c.ty = 4
        · exact (m.vi h).2.2.2.2.2.2
        · exact (m.ot h).2.2.2.2.2.1 hp
      rw [this]
      exact Nat.zero_le _
    | true =>
      have h : c.ty ≠ 4 := fun e => by simp [LC.peers, e] at hp
      exact ((m.ot h).2.2.2.2.2.2 hp).1
  no := fun hp => by
    by_cases h : c.ty = 4
    · exact (m.vi h).2.2.2.2.2.2
    · exact (m.ot h).2.2.2.2.2.1 hp
  dm := fun hd => by
    by_cases h : c.ty = 4
    · omega
    · have := (m.ot h).2.2.2.2.1 hd; omega
theorem net_ok {c : LC} {L : List (Int × Int)} (i : CfgIn c) (m : MayOk c L) : bits .and .u32 c.na (maskN c.nb.toNat) = c.na := by
  by_cases h : c.ty = 4
  · rw [(m.vi h).1, (m.vi h).2.1]
    decide
  · exact and_of_andNot i.na.v0 i.na.v1 (by have := m.nb; omega) (m.ot h).2.2.1
theorem st0_ok (c : LC) (L : List (Int × Int)) : Pl.Ok c L Pl.st0 := ⟨Int.le_refl 0, by decide, fun k hk => (by cases hk), fun h => (by cases h), fun h => absurd h (by decide), ⟨Int.le_refl 0, by decide⟩, Nat.zero_le _, fun _ => Nat.zero_le _, fun _ h => absurd h (by decide), fun _ => rfl⟩
theorem lawLinkPlays_any (w : World) (c : LC) (L : List (Int × Int)) (SA : Option Addr) (sn sc : Nat) (l : List Sv) (hL : PeersAt w w.heap.size c.pe L) (hi : CfgIn c) (hwd : ∀ p ∈ L, WdOk p.1)
    (hS : Reads w w.heap.size 12 SA sn (l.flatMap Sv.cells)) (hl : l.length = sn) (hws : ∀ x ∈ l, x.nn ≤ 300 → WordsLo w.heap.size w (.slice x.na x.nn x.nc) x.h.nb) :
    Calls Try.prog 9 #[.agg c.cells, .slice SA sn sc] w fun e w' => e = .returned (.bool true) ∧ Below w.heap.size w w' := by
  have HL := Lib.hid hL
  obtain ⟨PA, pcap, hpe, hpr⟩ := hL
  have HI := Lib.hid hi
  have HWd := Lib.hid hwd
  have HS := Lib.hid hS
  have Hl := Lib.hid hl
  have HWs := Lib.hid hws
  have HPE := Lib.hid hpe
  clear hi hwd hS hl hws hpr hpe
  unfold LC.cells
  go_enter Try.func9, Try.ntmps9
  go_upto_region 1 with fail
  obtain ⟨W0, hW0⟩ : ∃ W0, W0 = w.alloc (.cells c.cells 76) := ⟨_, rfl⟩
  have K0 : Hid (Blk W0 w.heap.size 76 c.cells) := Lib.hid (by rw [hW0]; exact Blk.new w _ _)
  have B0 : Hid (Below w.heap.size w W0) := Lib.hid (by rw [hW0]; exact (Below.refl _ w).alloc (Nat.le_refl _) _)
  unfold LC.cells at hW0
  rw [← hW0]
  clear hW0
  obtain ⟨X, hX⟩ : ∃ X, X = w.heap.size := ⟨_, rfl⟩
  rw [← hX] at K0 ⊢
  have HX := Lib.hid hX
  have hXl := K0.out.lt
  clear hX
  have z0 : W0.cell? ⟨X, 0, none⟩ = some (.int .u8 c.ty) := K0.out.cell 0
  have z1 : W0.cell? ⟨X, 1, none⟩ = some (.int .u32 c.ro) := K0.out.cell 1
  have z2 : W0.cell? ⟨X, 2, none⟩ = some (.int .u32 c.na) := K0.out.cell 2
  have z3 : W0.cell? ⟨X, 3, none⟩ = some (.int .u8 c.nb) := K0.out.cell 3
  have z4 : W0.cell? ⟨X, 4, none⟩ = some (.int .u32 c.ad) := K0.out.cell 4
  have z5 : W0.cell? ⟨X, 5, none⟩ = some (.int .u8 c.op) := K0.out.cell 5
  have z6 : W0.cell? ⟨X, 6, none⟩ = some (.int .u16 c.hi) := K0.out.cell 6
  have z7 : W0.cell? ⟨X, 7, none⟩ = some (.int .u32 c.dd) := K0.out.cell 7
  have z8 : W0.cell? ⟨X, 8, none⟩ = some (.int .u16 c.po) := K0.out.cell 8
  have z9 : W0.cell? ⟨X, 9, none⟩ = some (.int .u8 c.pr) := K0.out.cell 9
  have z10 : W0.cell? ⟨X, 10, none⟩ = some (.bool c.dm) := K0.out.cell 10
  have z11 : W0.cell? ⟨X, 11, none⟩ = some (.bool c.ps) := K0.out.cell 11
  have z12 : W0.cell? ⟨X, 12, none⟩ = some (.slice PA L.length pcap) := (K0.out.cell 12).trans (congrArg some HPE.out)
  have z13 : W0.cell? ⟨X, 13, none⟩ = some (.int .u32 c.rm) := K0.out.cell 13
  by_cases hg : 200 < L.length
  · have hgI : (200 : Int) < (L.length : Int) := by omega
    go_wp2_with fail
    refine (works13_any _).mono ?_
    rintro e w1 ⟨rfl, hb1⟩
    go_wp2_with fail
    go_ret
    exact ⟨rfl, B0.out.trans (hb1.mono B0.out.size)⟩
  have hgI : (L.length : Int) ≤ 200 := by omega
  by_cases hs : 80 < sn
  · have hsI : (80 : Int) < (sn : Int) := by omega
    go_wp2_with fail
    refine (works13_any _).mono ?_
    rintro e w1 ⟨rfl, hb1⟩
    go_wp2_with fail
    go_ret
    exact ⟨rfl, B0.out.trans (hb1.mono B0.out.size)⟩
  have hsI : (sn : Int) ≤ 80 := by omega
  have hlen : L.length ≤ 200 := by omega
  have hPA0 : PeersAt W0 W0.heap.size (.slice PA L.length pcap) L := by
    obtain ⟨A2, c2, e, h2⟩ := HL.out
    have e2 := HPE.out.symm.trans e
    injection e2 with e3 _ e4
    subst e3 e4
    exact ⟨_, _, rfl, (h2.below B0.out).more B0.out.size⟩
  have HG : Hid (Calls Try.prog 32 #[.agg #[.int .u8 c.ty, .int .u32 c.ro, .int .u32 c.na, .int .u8 c.nb, .int .u32 c.ad, .int .u8 c.op, .int .u16 c.hi, .int .u32 c.dd, .int .u16 c.po, .int .u8 c.pr, .bool c.dm, .bool c.ps, .slice PA L.length pcap, .int .u32 c.rm]] W0 fun e w' => GivenPost c L W0 e w') := Lib.hid (by
    have h := given_any W0 (c.with (.slice PA L.length pcap)) L hPA0 hlen
    refine h.mono ?_
    rintro e w' ⟨v, he, h1, h2⟩
    exact ⟨v, he, h1, h2⟩)
  clear hg hs hPA0
  go_wp2_with fail
  refine HG.out.mono ?_
  rintro e w1 ⟨v, rfl, hown, hb1⟩
  obtain ⟨ga, gc, rfl⟩ := own_slice hown
  have HB1 := Lib.hid (B0.out.trans (hb1.mono B0.out.size))
  have K1 := Lib.hid (K0.out.below hb1 hXl)
  have HN := Lib.hid (new_ex w1 (c.with (.slice ga L.length gc)) L ⟨ga, gc, rfl, Reads.of_own hown⟩ hlen HI.out.ad HI.out.na HWd.out HI.out.nb)
  unfold LC.cells LC.with at HN
  unfold LC.with LC.cells
  clear hown hb1 HG hXl z0 z1 z2 z3 z4 z5 z6 z7 z8 z9 z10 z11 z12 z13
  go_wp2_with fail
  refine HN.out.mono ?_
  rintro e w2 hnew
  have HMy : Hid (∀ W, Below w.heap.size w W → Calls Try.prog 29 #[.agg #[.int .u8 c.ty, .int .u32 c.ro, .int .u32 c.na, .int .u8 c.nb, .int .u32 c.ad, .int .u8 c.op, .int .u16 c.hi, .int .u32 c.dd, .int .u16 c.po, .int .u8 c.pr, .bool c.dm, .bool c.ps, .slice PA L.length pcap, .int .u32 c.rm]] W fun e w' => ∃ b, e = .returned (.bool b) ∧ (b = true ↔ MayOk c L) ∧ Below W.heap.size W w') := Lib.hid (fun W hW => by
    obtain ⟨A2, c2, e, h2⟩ := HL.out
    have hP : PeersAt W W.heap.size c.pe L := ⟨A2, c2, e, (h2.below hW).more hW.size⟩
    have h := Mx.rmay_any W c L hP HI.out.nb
    unfold LC.cells at h
    rw [HPE.out] at h
    exact h)
  rcases hnew with ⟨hm, B, v2, rfl, hBl, hBk, hpp, hb2⟩ | ⟨hm, rfl, hb2⟩
  rotate_left
  · have HM := Lib.hid hm
    have HB2 := Lib.hid (HB1.out.trans (hb2.mono HB1.out.size))
    have K2 := Lib.hid (K1.out.below hb2 K1.out.lt)
    have hXl := K2.out.lt
    have z0 : w2.cell? ⟨X, 0, none⟩ = some (.int .u8 c.ty) := K2.out.cell 0
    have z1 : w2.cell? ⟨X, 1, none⟩ = some (.int .u32 c.ro) := K2.out.cell 1
    have z2 : w2.cell? ⟨X, 2, none⟩ = some (.int .u32 c.na) := K2.out.cell 2
    have z3 : w2.cell? ⟨X, 3, none⟩ = some (.int .u8 c.nb) := K2.out.cell 3
    have z4 : w2.cell? ⟨X, 4, none⟩ = some (.int .u32 c.ad) := K2.out.cell 4
    have z5 : w2.cell? ⟨X, 5, none⟩ = some (.int .u8 c.op) := K2.out.cell 5
    have z6 : w2.cell? ⟨X, 6, none⟩ = some (.int .u16 c.hi) := K2.out.cell 6
    have z7 : w2.cell? ⟨X, 7, none⟩ = some (.int .u32 c.dd) := K2.out.cell 7
    have z8 : w2.cell? ⟨X, 8, none⟩ = some (.int .u16 c.po) := K2.out.cell 8
    have z9 : w2.cell? ⟨X, 9, none⟩ = some (.int .u8 c.pr) := K2.out.cell 9
    have z10 : w2.cell? ⟨X, 10, none⟩ = some (.bool c.dm) := K2.out.cell 10
    have z11 : w2.cell? ⟨X, 11, none⟩ = some (.bool c.ps) := K2.out.cell 11
    have z12 : w2.cell? ⟨X, 12, none⟩ = some (.slice PA L.length pcap) := (K2.out.cell 12).trans (congrArg some HPE.out)
    have z13 : w2.cell? ⟨X, 13, none⟩ = some (.int .u32 c.rm) := K2.out.cell 13
    clear hm hb2 HN
    go_wp2_with fail
    refine (HMy.out _ HB2.out).mono ?_
    rintro e w3 ⟨b, rfl, hb, hb3⟩
    have hbf : b = false := by
      cases b with
      | false => rfl
      | true => exact absurd ((MayOk.pe_ _).2 (hb.1 rfl)) HM.out
    subst hbf
    have HB3 := Lib.hid (HB2.out.trans (hb3.mono HB2.out.size))
    clear hb hb3 z0 z1 z2 z3 z4 z5 z6 z7 z8 z9 z10 z11 z12 z13
    go_wp2_with fail
    refine (works13_any _).mono ?_
    rintro e w4 ⟨rfl, hb4⟩
    go_wp2_with fail
    go_ret
    exact ⟨rfl, HB3.out.trans (hb4.mono HB3.out.size)⟩
  have HM : Hid (MayOk c L) := Lib.hid ((MayOk.pe_ _).1 hm)
  have HB2 := Lib.hid (HB1.out.trans (hb2.mono HB1.out.size))
  have K2 := Lib.hid (K1.out.below hb2 K1.out.lt)
  have hXl := K2.out.lt
  have hwB : Hid (w.heap.size ≤ B) := Lib.hid (Nat.le_trans HB1.out.size hBl)
  have HBk := Lib.hid hBk
  have HPp := Lib.hid hpp
  have z0 : w2.cell? ⟨X, 0, none⟩ = some (.int .u8 c.ty) := K2.out.cell 0
  have z1 : w2.cell? ⟨X, 1, none⟩ = some (.int .u32 c.ro) := K2.out.cell 1
  have z2 : w2.cell? ⟨X, 2, none⟩ = some (.int .u32 c.na) := K2.out.cell 2
  have z3 : w2.cell? ⟨X, 3, none⟩ = some (.int .u8 c.nb) := K2.out.cell 3
  have z4 : w2.cell? ⟨X, 4, none⟩ = some (.int .u32 c.ad) := K2.out.cell 4
  have z5 : w2.cell? ⟨X, 5, none⟩ = some (.int .u8 c.op) := K2.out.cell 5
  have z6 : w2.cell? ⟨X, 6, none⟩ = some (.int .u16 c.hi) := K2.out.cell 6
  have z7 : w2.cell? ⟨X, 7, none⟩ = some (.int .u32 c.dd) := K2.out.cell 7
  have z8 : w2.cell? ⟨X, 8, none⟩ = some (.int .u16 c.po) := K2.out.cell 8
  have z9 : w2.cell? ⟨X, 9, none⟩ = some (.int .u8 c.pr) := K2.out.cell 9
  have z10 : w2.cell? ⟨X, 10, none⟩ = some (.bool c.dm) := K2.out.cell 10
  have z11 : w2.cell? ⟨X, 11, none⟩ = some (.bool c.ps) := K2.out.cell 11
  have z12 : w2.cell? ⟨X, 12, none⟩ = some (.slice PA L.length pcap) := (K2.out.cell 12).trans (congrArg some HPE.out)
  have z13 : w2.cell? ⟨X, 13, none⟩ = some (.int .u32 c.rm) := K2.out.cell 13
  clear hm hb2 HN hBk hpp hBl
  go_wp2_with fail
  refine (HMy.out _ HB2.out).mono ?_
  rintro e w3 ⟨b, rfl, hb, hb3⟩
  have hbt : b = true := hb.2 HM.out
  subst hbt
  have HB3 := Lib.hid (HB2.out.trans (hb3.mono HB2.out.size))
  have K3 := Lib.hid (K2.out.below hb3 hXl)
  have HBk3 := Lib.hid (HBk.out.below hb3 HBk.out.lt)
  have HPp3 : Hid (PeersAt w3 B v2 L) := Lib.hid (HPp.out.lo_ (hb3.mono (Nat.le_of_lt HBk.out.lt)))
  clear hb hb3 hXl K2 HBk HPp HB2 z0 z1 z2 z3 z4 z5 z6 z7 z8 z9 z10 z11 z12 z13
  have hXl := K3.out.lt
  have z0 : w3.cell? ⟨X, 0, none⟩ = some (.int .u8 c.ty) := K3.out.cell 0
  have z1 : w3.cell? ⟨X, 1, none⟩ = some (.int .u32 c.ro) := K3.out.cell 1
  have z2 : w3.cell? ⟨X, 2, none⟩ = some (.int .u32 c.na) := K3.out.cell 2
  have z3 : w3.cell? ⟨X, 3, none⟩ = some (.int .u8 c.nb) := K3.out.cell 3
  have z4 : w3.cell? ⟨X, 4, none⟩ = some (.int .u32 c.ad) := K3.out.cell 4
  have z5 : w3.cell? ⟨X, 5, none⟩ = some (.int .u8 c.op) := K3.out.cell 5
  have z6 : w3.cell? ⟨X, 6, none⟩ = some (.int .u16 c.hi) := K3.out.cell 6
  have z7 : w3.cell? ⟨X, 7, none⟩ = some (.int .u32 c.dd) := K3.out.cell 7
  have z8 : w3.cell? ⟨X, 8, none⟩ = some (.int .u16 c.po) := K3.out.cell 8
  have z9 : w3.cell? ⟨X, 9, none⟩ = some (.int .u8 c.pr) := K3.out.cell 9
  have z10 : w3.cell? ⟨X, 10, none⟩ = some (.bool c.dm) := K3.out.cell 10
  have z11 : w3.cell? ⟨X, 11, none⟩ = some (.bool c.ps) := K3.out.cell 11
  have z12 : w3.cell? ⟨X, 12, none⟩ = some (.slice PA L.length pcap) := (K3.out.cell 12).trans (congrArg some HPE.out)
  have z13 : w3.cell? ⟨X, 13, none⟩ = some (.int .u32 c.rm) := K3.out.cell 13
  have HRn := Lib.hid (rnew_any B w3 (Nat.le_of_lt HBk3.out.lt) c)
  unfold LC.cells at HRn
  rw [HPE.out] at HRn
  go_wp2_with fail
  refine HRn.out.mono ?_
  rintro e w4 ⟨R, rfl, hR, hRat, hb4⟩
  have HB4 := Lib.hid (HB3.out.trans (hb4.mono HB3.out.size))
  have HTwo : Hid (Two B w4 B R c v2 L Pl.st0) := Lib.hid ⟨⟨none, 0, [], Nat.le_refl _, HBk3.out.below hb4 HBk3.out.lt, PRow.nil _ _, fun x hx => by simp at hx, by simp, rfl⟩, ⟨_, hRat⟩, HPp3.out.lo_ (hb4.mono (Nat.le_of_lt HBk3.out.lt)), by
    obtain ⟨A2, c2, e, h2⟩ := HL.out
    exact ⟨A2, c2, e, (h2.below HB4.out).more hwB.out⟩, st0_ok c L⟩
  have HC := Lib.hid (cfg_ok HI.out HM.out)
  have HNet := Lib.hid (net_ok HI.out HM.out)
  clear hR hRat hb4 HRn hXl z0 z1 z2 z3 z4 z5 z6 z7 z8 z9 z10 z11 z12 z13
  go_wp2_with fail
  go_loopw [9] (fun p wr => ∃ k : Nat, k ≤ sn ∧ p = .int .i64 k ∧ Hid (∃ s', Two B wr B R c v2 L s') ∧ Hid (Below B w4 wr)) (fun p _ => sn - (intOf p).toNat)
  case atStart => exact ⟨0, Nat.zero_le _, rfl, Lib.hid ⟨_, HTwo.out⟩, Lib.hid (Below.refl _ _)⟩
  case round =>
    obtain ⟨k, hk, rfl, HTs, HBr⟩ := hrel
    by_cases hkn : k < sn
    · obtain ⟨x, hx⟩ : ∃ x, l[k]? = some x := ⟨_, List.getElem?_eq_getElem (by rw [Hl.out]; exact hkn)⟩
      obtain ⟨sb, so, hSA, hsb, hsc⟩ := HS.out.row (m := 12) (f := Sv.cells) (fun _ => rfl) (by decide) Hl.out hx
      subst hSA
      have hxm := List.mem_of_getElem? hx
      obtain ⟨s1, ht1⟩ := HTs.out
      have HT1 := Lib.hid ht1
      have hwr : Below w.heap.size w wr := HB4.out.trans (HBr.out.mono hwB.out)
      have HWr := Lib.hid hwr
      have hsbl : sb < wr.heap.size := by have := hwr.size; omega
      have hkI : (k : Int) < (sn : Int) := by omega
      have g0 : wr.cell? ⟨sb, so + k * 12, none⟩ = some (.int .i64 x.dn) := (hwr.cell (p := ⟨sb, so + k * 12, none⟩) hsb).trans (hsc 0 _ rfl)
      have g1 : wr.cell? ⟨sb, so + k * 12 + 1, none⟩ = some (.int .i64 x.n) := (hwr.cell (p := ⟨sb, so + k * 12 + 1, none⟩) hsb).trans (hsc 1 _ rfl)
      have g2 : wr.cell? ⟨sb, so + k * 12 + 2, none⟩ = some (.int .u32 x.fr) := (hwr.cell (p := ⟨sb, so + k * 12 + 2, none⟩) hsb).trans (hsc 2 _ rfl)
      have g3 : wr.cell? ⟨sb, so + k * 12 + 3, none⟩ = some (.int .u32 x.ro) := (hwr.cell (p := ⟨sb, so + k * 12 + 3, none⟩) hsb).trans (hsc 3 _ rfl)
      have g4 : wr.cell? ⟨sb, so + k * 12 + 4, none⟩ = some (.int .u32 x.h.ma) := (hwr.cell (p := ⟨sb, so + k * 12 + 4, none⟩) hsb).trans (hsc 4 _ rfl)
      have g5 : wr.cell? ⟨sb, so + k * 12 + 5, none⟩ = some (.int .u16 x.h.hi) := (hwr.cell (p := ⟨sb, so + k * 12 + 5, none⟩) hsb).trans (hsc 5 _ rfl)
      have g6 : wr.cell? ⟨sb, so + k * 12 + 6, none⟩ = some (.int .u8 x.h.op) := (hwr.cell (p := ⟨sb, so + k * 12 + 6, none⟩) hsb).trans (hsc 6 _ rfl)
      have g7 : wr.cell? ⟨sb, so + k * 12 + 7, none⟩ = some (.int .u8 x.h.pr) := (hwr.cell (p := ⟨sb, so + k * 12 + 7, none⟩) hsb).trans (hsc 7 _ rfl)
      have g8 : wr.cell? ⟨sb, so + k * 12 + 8, none⟩ = some (.int .u32 x.h.dd) := (hwr.cell (p := ⟨sb, so + k * 12 + 8, none⟩) hsb).trans (hsc 8 _ rfl)
      have g9 : wr.cell? ⟨sb, so + k * 12 + 9, none⟩ = some (.int .u32 x.h.dr) := (hwr.cell (p := ⟨sb, so + k * 12 + 9, none⟩) hsb).trans (hsc 9 _ rfl)
      have g10 : wr.cell? ⟨sb, so + k * 12 + 10, none⟩ = some (.int .u32 x.h.bd) := (hwr.cell (p := ⟨sb, so + k * 12 + 10, none⟩) hsb).trans (hsc 10 _ rfl)
      have g11 : wr.cell? ⟨sb, so + k * 12 + 11, none⟩ = some (.slice x.na x.nn x.nc) := (hwr.cell (p := ⟨sb, so + k * 12 + 11, none⟩) hsb).trans (hsc 11 _ rfl)
      clear hx hsc ht1 hwr
      by_cases hnn : 300 < x.nn
      · have hnI : (300 : Int) < (x.nn : Int) := by omega
        go_wp2_with fail
        refine (works13_any _).mono ?_
        rintro e w5 ⟨rfl, hb5⟩
        go_wp2_with fail
        go_ret
        exact ⟨rfl, HWr.out.trans (hb5.mono HWr.out.size)⟩
      · have hnI : (x.nn : Int) ≤ 300 := by omega
        have HSt := Lib.hid (step_any HT1.out HC.out HNet.out (dn := x.dn) (n := x.n) (fr := x.fr) (ro := x.ro) (h := x.h) (na := x.na) (nn := x.nn) (nc := x.nc) (by
          obtain ⟨A2, n2, c2, e, h1, h2, h3⟩ := HWs.out x hxm (by omega)
          exact ⟨A2, n2, c2, e, h1, h2, (h3.below HWr.out).more hwB.out⟩))
        clear hxm hnn
        go_wp2_with fail
        refine HSt.out.mono ?_
        rintro e w5 ⟨rfl, ⟨s2, ht2⟩, hb5⟩
        have HT2 := Lib.hid ht2
        have HB5 := Lib.hid (HBr.out.trans hb5)
        have HAl : Hid (Calls Try.prog 45 #[.pointer (some ⟨B, 0, none⟩), .pointer (some ⟨R, 0, none⟩)] w5 fun e w' => e = .returned (.bool true) ∧ Below w5.heap.size w5 w') := Lib.hid (by
          obtain ⟨pA, pcap2, pxs, hp⟩ := ht2.p
          obtain ⟨vR, hr⟩ := ht2.r
          exact alike_any hp hr (fun k => Pl.wanted_pe c v2 _ k) (by have := ht2.ok.ln; omega))
        clear ht2 hb5 HSt g0 g1 g2 g3 g4 g5 g6 g7 g8 g9 g10 g11
        go_wp2_with fail
        refine HAl.out.mono ?_
        rintro e w6 ⟨rfl, hb6⟩
        have HT6 := Lib.hid (HT2.out.below hb6)
        have HB6 := Lib.hid (HB5.out.trans (hb6.mono HT2.out.low))
        clear hb6 HAl
        go_wp2_with fail
        go_roundw
        case rel => exact ⟨k + 1, by omega, by simp, Lib.hid ⟨_, HT6.out⟩, HB6⟩
        case measure => simp [intOf]; omega
    · obtain rfl : k = sn := by omega
      go_wp2_with fail
      refine (works13_any _).mono ?_
      rintro e w5 ⟨rfl, hb5⟩
      go_wp2_with fail
      go_ret
      have hwr : Below w.heap.size w wr := HB4.out.trans (HBr.out.mono hwB.out)
      exact ⟨rfl, hwr.trans (hb5.mono hwr.size)⟩
end Go.Proofs.Ytgbmhijgpdgdbaa
