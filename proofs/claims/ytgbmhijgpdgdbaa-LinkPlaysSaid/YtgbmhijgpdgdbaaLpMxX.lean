/- New, of whatever config that may be. -/
import Derived.Test.YtgbmhijgpdgdbaaLpMapU
import Derived.Test.YtgbmhijgpdgdbaaLpTail
import Derived.Laws.BitsAllLaws
import Derived.Test.YtgbmhijgpdgdbaaLpHello13
import Derived.Laws.CopyOwn
import Derived.Laws.Tables
import Derived.Test.YtgbmhijgpdgdbaaLpMay13b
import Derived.Deep.RegionLaw
import Derived.Deep.RegionWith
import Derived.Deep.DeepCutAuto
import Derived.Maps.OwnSet
set_option maxHeartbeats 4000000
set_option maxRecDepth 20000
namespace Go.Proofs.Ytgbmhijgpdgdbaa
open Go.RowKit
def maskN (n : Nat) : Int := 4294967296 - 2 ^ (32 - n)
theorem mask_any (w : World) (n : Int) (h0 : 0 ≤ n) (h1 : n ≤ 32) : Calls Try.prog 102 #[.int .u8 n] w fun e w' => e = .returned (.int .u32 (maskN n.toNat)) ∧ w = w' := by
  have hn : n = 0 ∨ n = 1 ∨ n = 2 ∨ n = 3 ∨ n = 4 ∨ n = 5 ∨ n = 6 ∨ n = 7 ∨ n = 8 ∨ n = 9 ∨ n = 10 ∨ n = 11 ∨ n = 12 ∨ n = 13 ∨ n = 14 ∨ n = 15 ∨ n = 16 ∨ n = 17 ∨ n = 18 ∨ n = 19 ∨ n = 20 ∨ n = 21 ∨ n = 22 ∨ n = 23 ∨ n = 24 ∨ n = 25 ∨ n = 26 ∨ n = 27 ∨ n = 28 ∨ n = 29 ∨ n = 30 ∨ n = 31 ∨ n = 32 := by omega
  clear h0 h1
  rcases hn with rfl | rfl | rfl | rfl | rfl | rfl | rfl | rfl | rfl | rfl | rfl | rfl | rfl | rfl | rfl | rfl | rfl | rfl | rfl | rfl | rfl | rfl | rfl | rfl | rfl | rfl | rfl | rfl | rfl | rfl | rfl | rfl | rfl <;>
    (go_enter Try.func102, Try.ntmps102
     go_wp2_with fail
     go_ret
     exact ⟨rfl, rfl⟩)
theorem or_step (i : Nat) (hi : i < 32) : bits .or .u32 (maskN i) (2 ^ (31 - i) % 4294967296) = maskN (i + 1) := by
  have h : i = 0 ∨ i = 1 ∨ i = 2 ∨ i = 3 ∨ i = 4 ∨ i = 5 ∨ i = 6 ∨ i = 7 ∨ i = 8 ∨ i = 9 ∨ i = 10 ∨ i = 11 ∨ i = 12 ∨ i = 13 ∨ i = 14 ∨ i = 15 ∨ i = 16 ∨ i = 17 ∨ i = 18 ∨ i = 19 ∨ i = 20 ∨ i = 21 ∨ i = 22 ∨ i = 23 ∨ i = 24 ∨ i = 25 ∨ i = 26 ∨ i = 27 ∨ i = 28 ∨ i = 29 ∨ i = 30 ∨ i = 31 := by omega
  clear hi
  rcases h with rfl | rfl | rfl | rfl | rfl | rfl | rfl | rfl | rfl | rfl | rfl | rfl | rfl | rfl | rfl | rfl | rfl | rfl | rfl | rfl | rfl | rfl | rfl | rfl | rfl | rfl | rfl | rfl | rfl | rfl | rfl | rfl <;> decide +kernel
theorem rmask_any (w : World) (n : Int) (h0 : 0 ≤ n) (h1 : n ≤ 32) : Calls Try.prog 34 #[.int .u8 n] w fun e w' => e = .returned (.int .u32 (maskN n.toNat)) ∧ w = w' := by
  obtain ⟨m, rfl⟩ : ∃ m : Nat, n = m := ⟨n.toNat, by omega⟩
  have hm : m ≤ 32 := by omega
  clear h0 h1
  go_enter Try.func34, Try.ntmps34
  go_wp2_with fail
  go_loopw [3, 4] (fun x y wr => ∃ i : Nat, i ≤ m ∧ x = .int .u32 (maskN i) ∧ y = .int .u8 i ∧ wr = w) (fun _ y _ => m - (intOf y).toNat)
  case atStart => exact ⟨0, by omega, rfl, rfl, rfl⟩
  case round =>
    obtain ⟨i, hi, rfl, rfl, rfl⟩ := hrel
    by_cases hlt : i < m
    · go_wp2_with fail
      refine ⟨⟨i + 1, by omega, by rw [or_step i (by omega)], by simp, trivial⟩, ?_⟩
      simp [intOf]
      omega
    · obtain rfl : i = m := by omega
      go_wp2_with fail
      go_ret
      exact ⟨by simp, rfl⟩
end Go.Proofs.Ytgbmhijgpdgdbaa
namespace Go.Proofs.Ytgbmhijgpdgdbaa
open Go.RowKit
structure LC where
  ty : Int
  ro : Int
  na : Int
  nb : Int
  ad : Int
  op : Int
  hi : Int
  dd : Int
  po : Int
  pr : Int
  dm : Bool
  ps : Bool
  pe : Value
  rm : Int
def LC.cells (c : LC) : Array Value := #[.int .u8 c.ty, .int .u32 c.ro, .int .u32 c.na, .int .u8 c.nb, .int .u32 c.ad, .int .u8 c.op, .int .u16 c.hi, .int .u32 c.dd, .int .u16 c.po, .int .u8 c.pr, .bool c.dm, .bool c.ps, c.pe, .int .u32 c.rm]
theorem make_any (x n : Int) (w : World) (h0 : 0 ≤ n) (h1 : n ≤ 32) : Calls Try.prog 101 #[.int .u32 x, .int .u8 n] w fun e w' => e = .returned (.tuple #[.agg #[.int .u32 (bits .and .u32 x (maskN n.toNat)), .int .u8 n], .int .i64 0]) ∧ Below w.heap.size w w' := by
  go_enter Try.func101, Try.ntmps101
  go_wp2_with (go_at_call 102; refine (mask_any _ n h0 h1).mono ?_; rintro e w' ⟨rfl, rfl⟩)
  refine bodyPost_ret (v := .tuple #[.agg #[.int .u32 (bits .and .u32 x (maskN n.toNat)), .int .u8 n], .int .i64 0]) (by simp [results, Try.results101, go_sem]) rfl ⟨rfl, ?_⟩
  exact (Below.refl _ _).alloc (Nat.le_refl _) _
theorem check_any (x n : Int) (w : World) (h0 : 0 ≤ n) (h1 : n ≤ 32) : Calls Try.prog 65 #[.agg #[.int .u32 x, .int .u8 n]] w fun e w' => e = .returned (.int .i64 (if bits .and .u32 x (maskN n.toNat) = x then 0 else 12)) ∧ Below w.heap.size w w' := by
  have k1 := Blk.new w 73 #[.int .u32 x, .int .u8 n]
  have hb0 : Below w.heap.size w (w.alloc (.cells #[.int .u32 x, .int .u8 n] 73)) := (Below.refl _ _).alloc (Nat.le_refl _) _
  have HB0 := Lib.hid hb0
  have K1 := Lib.hid k1
  clear hb0 k1
  go_enter Try.func65, Try.ntmps65
  go_wp2_with fail
  refine (make_any _ _ _ h0 h1).mono ?_
  rintro e w1 ⟨rfl, hb1⟩
  have k2 := K1.out.below hb1 K1.out.lt
  have c0 : w1.cell? ⟨w.heap.size, 0, none⟩ = some (.int .u32 x) := k2.cell 0
  have c1 : w1.cell? ⟨w.heap.size, 1, none⟩ = some (.int .u8 n) := k2.cell 1
  have hbl : w.heap.size < w1.heap.size := k2.lt
  have HB1 := Lib.hid (HB0.out.trans (hb1.mono (by simp)))
  clear k2 hb1
  by_cases h : bits .and .u32 x (maskN n.toNat) = x
  · rw [h]
    go_wp2_with fail
    go_ret
    exact ⟨by simp, HB1.out.alloc HB1.out.size _⟩
  · have h' : x ≠ bits .and .u32 x (maskN n.toNat) := fun e => h e.symm
    go_wp2_with fail
    go_ret
    exact ⟨by simp, HB1.out.alloc HB1.out.size _⟩
theorem has_any (a n x : Int) (w : World) (h0 : 0 ≤ n) (h1 : n ≤ 32) (hok : bits .and .u32 a (maskN n.toNat) = a) : Calls Try.prog 66 #[.agg #[.int .u32 a, .int .u8 n], .int .u32 x] w fun e w' => e = .returned (.bool (decide (bits .and .u32 x (maskN n.toNat) = a))) ∧ Below w.heap.size w w' := by
  have k1 := Blk.new w 73 #[.int .u32 a, .int .u8 n]
  have hb0 : Below w.heap.size w (w.alloc (.cells #[.int .u32 a, .int .u8 n] 73)) := (Below.refl _ _).alloc (Nat.le_refl _) _
  have HB0 := Lib.hid hb0
  have K1 := Lib.hid k1
  clear hb0 k1
  go_enter Try.func66, Try.ntmps66
  go_wp2_with fail
  have q0 := later_cell (v := .int .u32 a) (B := w.heap.size + 1) (w0 := (w.alloc (.cells #[.int .u32 a, .int .u8 n] 73))) (p := ⟨w.heap.size, 0, none⟩) (by simp) (K1.out.cell 0)
  have q1 := later_cell (v := .int .u8 n) (B := w.heap.size + 1) (w0 := (w.alloc (.cells #[.int .u32 a, .int .u8 n] 73))) (p := ⟨w.heap.size, 1, none⟩) (by simp) (K1.out.cell 1)
  have d1 : Hid (∀ u : Later (w.heap.size + 1) (w.alloc (.cells #[.int .u32 a, .int .u8 n] 73)), Calls Try.prog 65 #[.agg #[.int .u32 a, .int .u8 n]] u.to fun e w' => e = .returned (.int .i64 0) ∧ Below u.to.heap.size u.to w') := Lib.hid (fun u => (check_any a n u.to h0 h1).mono fun _ _ h => ⟨by rw [h.1, if_pos hok], h.2⟩)
  have d2 : Hid (∀ u : Later (w.heap.size + 1) (w.alloc (.cells #[.int .u32 a, .int .u8 n] 73)), Calls Try.prog 102 #[.int .u8 n] u.to fun e w' => e = .returned (.int .u32 (maskN n.toNat)) ∧ Below u.to.heap.size u.to w') := Lib.hid (fun u => (mask_any u.to n h0 h1).mono fun _ _ h => ⟨h.1, h.2 ▸ Below.refl _ _⟩)
  refine wp_region_later (B := w.heap.size + 1) (w0 := (w.alloc (.cells #[.int .u32 a, .int .u8 n] 73))) (by kernel_rfl) (by kernel_rfl) (Below.refl _ _) ?_
  repeat (go_big_quiet_step (first
    | (go_at_call 65; with_reducible exact later_call _ (by simp) (d1.out _))
    | (go_at_call 102; with_reducible exact later_call _ (by simp) (d2.out _))))
  refine wpQuiet_nil ?_
  rintro wx ⟨⟨wy, hwy⟩, hwe⟩
  obtain rfl : wx = wy := hwe
  go_wp2_with fail
  go_ret
  refine ⟨?_, HB0.out.trans (hwy.mono (by omega))⟩
  rw [Ending.returned.injEq]
  exact congrArg Value.bool (Bool.eq_iff_iff.2 (by simp))
def LC.peers (c : LC) : Bool := c.ty == 1 || c.ty == 2
def LC.shared (c : LC) : Bool := c.ty == 0 || c.ty == 1
theorem peers_any (c : LC) (w : World) : Calls Try.prog 63 #[.agg c.cells] w fun e w' => e = .returned (.bool c.peers) ∧ Below w.heap.size w w' := by
  obtain ⟨ty, ro, na, nb, ad, op, hi, dd, po, pr, dm, ps, pe, rm⟩ := c
  unfold LC.cells LC.peers
  dsimp only
  by_cases h1 : ty = 1
  · subst h1
    go_enter Try.func63, Try.ntmps63
    go_wp2_with fail
    go_ret
    exact ⟨rfl, (Below.refl _ _).alloc (Nat.le_refl _) _⟩
  · go_enter Try.func63, Try.ntmps63
    go_wp2_with fail
    go_ret
    exact ⟨by simp, (Below.refl _ _).alloc (Nat.le_refl _) _⟩
theorem shared_any (c : LC) (w : World) : Calls Try.prog 68 #[.agg c.cells] w fun e w' => e = .returned (.bool c.shared) ∧ Below w.heap.size w w' := by
  obtain ⟨ty, ro, na, nb, ad, op, hi, dd, po, pr, dm, ps, pe, rm⟩ := c
  unfold LC.cells LC.shared
  dsimp only
  by_cases h1 : ty = 0
  · subst h1
    go_enter Try.func68, Try.ntmps68
    go_wp2_with fail
    go_ret
    exact ⟨rfl, (Below.refl _ _).alloc (Nat.le_refl _) _⟩
  · go_enter Try.func68, Try.ntmps68
    go_wp2_with fail
    go_ret
    exact ⟨by simp, (Below.refl _ _).alloc (Nat.le_refl _) _⟩
theorem rpeers_any (c : LC) (w : World) : Calls Try.prog 62 #[.agg c.cells] w fun e w' => e = .returned (.bool c.peers) ∧ Below w.heap.size w w' := by
  obtain ⟨ty, ro, na, nb, ad, op, hi, dd, po, pr, dm, ps, pe, rm⟩ := c
  unfold LC.cells LC.peers
  dsimp only
  by_cases h1 : ty = 1
  · subst h1
    go_enter Try.func62, Try.ntmps62
    go_wp2_with fail
    go_ret
    exact ⟨rfl, (Below.refl _ _).alloc (Nat.le_refl _) _⟩
  · go_enter Try.func62, Try.ntmps62
    go_wp2_with fail
    go_ret
    exact ⟨by simp, (Below.refl _ _).alloc (Nat.le_refl _) _⟩
end Go.Proofs.Ytgbmhijgpdgdbaa
namespace Go.Proofs.Ytgbmhijgpdgdbaa
open Go.RowKit
def lks (c : LC) (st dr bd wt nx po re : Int) (l : Value) : Array Value := #[.bool true, .int .u8 c.ty, .int .u32 c.ro, .int .u32 c.na, .int .u8 c.nb, .int .u32 c.ad, .int .u8 c.op, .int .u16 c.hi, .int .u32 c.dd, .int .u16 c.po, .int .u8 c.pr, .bool c.dm, .bool c.ps, c.pe, .int .u32 c.rm, .int .u8 st, .int .u32 dr, .int .u32 bd, .int .u32 wt, .int .u32 nx, .int .u32 po, .int .u32 re, l]
theorem neighbours_nil (w : World) (B : Nat) (c : LC) (st dr bd wt nx po re : Int) (k : Blk w B 119 (lks c st dr bd wt nx po re (.slice none 0 0))) : Calls Try.prog 38 #[.pointer (some ⟨B, 0, none⟩)] w fun e w' => e = .returned (.slice none 0 0) ∧ w = w' := by
  have K := Lib.hid k
  have c22 : w.cell? ⟨B, 22, none⟩ = some (.slice none 0 0) := k.cell 22
  clear k
  go_enter Try.func38, Try.ntmps38
  go_wp2_with (go_at_call 67; refine (none_lk _ _ _ K.out rfl).mono ?_; rintro e w' ⟨rfl, rfl⟩)
  refine wp_loop_rounds 1 ?_
  rw [rounds_succ]
  go_wp2_with fail
  go_ret
  exact ⟨rfl, rfl⟩
end Go.Proofs.Ytgbmhijgpdgdbaa
namespace Go.Proofs.Ytgbmhijgpdgdbaa
open Go.RowKit
theorem frame_of {F : (Nat → Value) → Act} {T : Array Value} (h : F (fun i => T.toList.getD i undef) = { tmps := T, defers := [] }) : ∃ u : Nat → Value, ({ tmps := T, defers := [] } : Act) = F u := ⟨_, h.symm⟩
theorem wpQuiet_cut {P : Program} {ops : Array Oper} {C : World → Prop} {R Q : Act → Prop} (l : List Oper) : ∀ (k : Nat) (a : Act), wpQuiet P ops C R (l.take k) a → (∀ a', R a' → wpQuiet P ops C Q (l.drop k) a') → wpQuiet P ops C Q l a := by
  induction l with
  | nil => intro k a h1 h2; simpa using h2 a (by simpa [wpQuiet] using h1)
  | cons o l ih =>
    intro k a h1 h2
    cases k with
    | zero => exact h2 a (by simpa [wpQuiet] using h1)
    | succ k =>
      simp only [List.take_succ_cons, List.drop_succ_cons] at h1 h2
      unfold wpQuiet at h1 ⊢
      split
      · rename_i hw
        rw [if_pos hw] at h1
        exact Oper.quiet_mono (fun a' h' => ih k a' h' h2) h1
      · rename_i hw
        rw [if_neg hw] at h1
        exact ih k _ h1 h2
theorem mask_lks (w : World) (B : Nat) (c : LC) (cs : Array Value) (k : Blk w B 119 cs) (h1 : cs[1]? = some (.int .u8 c.ty)) (h4 : cs[4]? = some (.int .u8 c.nb)) (ht : c.ty < 3) (hn0 : 0 ≤ c.nb) (hn1 : c.nb ≤ 32) : Calls Try.prog 107 #[.pointer (some ⟨B, 0, none⟩)] w fun e w' => e = .returned (.int .u32 (maskN c.nb.toNat)) ∧ w = w' := by
  have c1 : w.cell? ⟨B, 1, none⟩ = some (.int .u8 c.ty) := (k.cell 1).trans h1
  have c4 : w.cell? ⟨B, 4, none⟩ = some (.int .u8 c.nb) := (k.cell 4).trans h4
  have h5 : (c.ty == 4) = false := by simp; omega
  clear k
  go_enter Try.func107, Try.ntmps107
  go_wp2_with (go_at_call 102; refine (mask_any _ _ hn0 hn1).mono ?_; rintro e w' ⟨rfl, rfl⟩)
  go_ret
  exact ⟨rfl, rfl⟩
end Go.Proofs.Ytgbmhijgpdgdbaa
namespace Go.Proofs.Ytgbmhijgpdgdbaa
open Go.RowKit
def pcells (p : Int × Int) : List Value := [.int .u32 p.1, .int .u8 p.2]
def PeersAt (w : World) (N : Nat) (v : Value) (L : List (Int × Int)) : Prop := ∃ A cap, v = .slice A L.length cap ∧ Reads w N 2 A L.length (L.flatMap pcells)
structure MayOk (c : LC) (L : List (Int × Int)) : Prop where
  ty : c.ty ≤ 4
  ro : c.ro ≠ 0
  hi : c.hi ≠ 0
  dd : c.dd ≠ 0
  po : c.peers = decide (0 < c.po)
  nb : c.nb ≤ 32
  vi : c.ty = 4 → c.na = 0 ∧ c.nb = 0 ∧ c.ad = 0 ∧ c.rm ≠ 0 ∧ c.rm ≠ c.ro ∧ c.ps = false ∧ L = []
  ot : c.ty ≠ 4 → c.rm = 0 ∧ c.ad ≠ 0 ∧ bits .andNot .u32 c.na (maskN c.nb.toNat) = 0 ∧ bits .and .u32 c.ad (maskN c.nb.toNat) = c.na ∧ (c.dm = true → c.ty = 3) ∧ (c.peers = false → L = []) ∧
    (c.peers = true → L.length ≤ 64 ∧ ∀ (i : Nat) (p : Int × Int), L[i]? = some p → p.1 ≠ 0 ∧ p.1 ≠ c.ad ∧ ∀ (k : Nat) (q : Int × Int), k < i → L[k]? = some q → q.1 ≠ p.1)
def MayPost (c : LC) (L : List (Int × Int)) (w : World) (e : Ending) (w' : World) : Prop := ∃ b, e = .returned (.bool b) ∧ (b = true → MayOk c L) ∧ Below w.heap.size w w'
end Go.Proofs.Ytgbmhijgpdgdbaa
namespace Go.Proofs.Ytgbmhijgpdgdbaa
open Go.RowKit
theorem pflat_len (l : List (Int × Int)) : (l.flatMap pcells).length = l.length * 2 := by
  induction l with
  | nil => rfl
  | cons a t ih => simp only [List.flatMap_cons, List.length_append, ih, List.length_cons]; simp [pcells]; omega
theorem pflat_drop (l : List (Int × Int)) (k : Nat) : (l.flatMap pcells).drop (k * 2) = (l.drop k).flatMap pcells := by
  induction k generalizing l with
  | zero => simp
  | succ k ih =>
    cases l with
    | nil => simp
    | cons a t =>
      have : (k + 1) * 2 = 2 + k * 2 := by omega
      rw [this, ← List.drop_drop]
      simpa [List.flatMap_cons, pcells] using ih t
theorem Reads.peer {w : World} {B n : Nat} {A : Option Addr} {l : List (Int × Int)} (h : Reads w B 2 A n (l.flatMap pcells)) {k : Nat} {x : Int × Int} (hx : l[k]? = some x) :
    ∃ b off, A = some ⟨b, off, none⟩ ∧ b < B ∧ w.cell? ⟨b, off + k * 2, none⟩ = some (.int .u32 x.1) ∧ w.cell? ⟨b, off + k * 2 + 1, none⟩ = some (.int .u8 x.2) := by
  have hk : k < l.length := (List.getElem?_eq_some_iff.1 hx).1
  have hn : n = l.length := by have := h.1; have := pflat_len l; omega
  obtain ⟨ad, rfl, hb, hc⟩ := h.2 (by omega)
  have hcell : ∀ (k : Nat) (x : Int × Int), l[k]? = some x → ∀ i u, (pcells x)[i]? = some u → (l.flatMap pcells)[k * 2 + i]? = some u := by
    intro k x hx i u hu
    have hi : i < 2 := by
      have := (List.getElem?_eq_some_iff.1 hu).1
      simpa [pcells] using this
    rw [← List.getElem?_drop, pflat_drop]
    have hk : k < l.length := (List.getElem?_eq_some_iff.1 hx).1
    rw [List.drop_eq_getElem_cons hk, List.flatMap_cons, List.getElem?_append_left (by simp [pcells]; omega)]
    rw [List.getElem?_eq_getElem hk] at hx
    cases hx
    exact hu
  have hs := World.cell?_spot (hc (0 * 2 + 0) _ (hcell 0 l[0] (List.getElem?_eq_getElem (by omega)) 0 _ rfl))
  have hsp : ad.spot = none := by
    unfold Addr.add at hs
    simpa using hs
  obtain ⟨b, off, spot⟩ := ad
  simp only at hsp
  subst hsp
  have key : ∀ (i : Nat) (u : Value), (pcells x)[i]? = some u → w.cell? ⟨b, off + (k * 2 + i), none⟩ = some u := by
    intro i u hu
    have := hc _ _ (hcell k x hx i u hu)
    unfold Addr.add at this
    split at this
    · rename_i h0
      simpa [h0] using this
    · simpa using this
  exact ⟨b, off, rfl, hb, key 0 _ rfl, key 1 _ rfl⟩
end Go.Proofs.Ytgbmhijgpdgdbaa
namespace Go.Proofs.Ytgbmhijgpdgdbaa
open Go.RowKit
theorem below_drewN' {B : Nat} {a w : World} (h : Below B a w) (n : Nat) : Below B a (w.drewN n) := ⟨h.os, h.tape, h.output, h.size, h.block⟩
end Go.Proofs.Ytgbmhijgpdgdbaa
namespace Go.Proofs.Ytgbmhijgpdgdbaa
open Go.RowKit
namespace Mx
def MayPost (c : LC) (L : List (Int × Int)) (w : World) (e : Ending) (w' : World) : Prop := ∃ b, e = .returned (.bool b) ∧ (b = true ↔ MayOk c L) ∧ Below w.heap.size w w'
theorem mxd {n : Nat} {W : World} {c : LC} {b : Bool} (h : c.peers = b) : Hid (∀ u : Later n W, Calls Try.prog 62 #[.agg #[.int .u8 c.ty, .int .u32 c.ro, .int .u32 c.na, .int .u8 c.nb, .int .u32 c.ad, .int .u8 c.op, .int .u16 c.hi, .int .u32 c.dd, .int .u16 c.po, .int .u8 c.pr, .bool c.dm, .bool c.ps, c.pe, .int .u32 c.rm]] u.to fun e w' => e = .returned (.bool b) ∧ Below u.to.heap.size u.to w') := Lib.hid (fun u => by have h1 := rpeers_any c u.to; rw [h] at h1; exact h1)
theorem lcz {w : World} {B t : Nat} {c : LC} (K : Blk w B t c.cells) : w.cell? ⟨B, 0, none⟩ = some (.int .u8 c.ty) ∧ w.cell? ⟨B, 1, none⟩ = some (.int .u32 c.ro) ∧ w.cell? ⟨B, 2, none⟩ = some (.int .u32 c.na) ∧ w.cell? ⟨B, 3, none⟩ = some (.int .u8 c.nb) ∧ w.cell? ⟨B, 4, none⟩ = some (.int .u32 c.ad) ∧ w.cell? ⟨B, 5, none⟩ = some (.int .u8 c.op) ∧ w.cell? ⟨B, 6, none⟩ = some (.int .u16 c.hi) ∧ w.cell? ⟨B, 7, none⟩ = some (.int .u32 c.dd) ∧ w.cell? ⟨B, 8, none⟩ = some (.int .u16 c.po) ∧ w.cell? ⟨B, 9, none⟩ = some (.int .u8 c.pr) ∧ w.cell? ⟨B, 10, none⟩ = some (.bool c.dm) ∧ w.cell? ⟨B, 11, none⟩ = some (.bool c.ps) ∧ w.cell? ⟨B, 12, none⟩ = some (c.pe) ∧ w.cell? ⟨B, 13, none⟩ = some (.int .u32 c.rm) :=
  ⟨K.cell 0, K.cell 1, K.cell 2, K.cell 3, K.cell 4, K.cell 5, K.cell 6, K.cell 7, K.cell 8, K.cell 9, K.cell 10, K.cell 11, K.cell 12, K.cell 13⟩
theorem lcq {w : World} {B t : Nat} {c : LC} (K : Blk w B t c.cells) : (∀ u : Later (B + 1) w, u.to.cell? ⟨B, 0, none⟩ = some (.int .u8 c.ty)) ∧ (∀ u : Later (B + 1) w, u.to.cell? ⟨B, 1, none⟩ = some (.int .u32 c.ro)) ∧ (∀ u : Later (B + 1) w, u.to.cell? ⟨B, 2, none⟩ = some (.int .u32 c.na)) ∧ (∀ u : Later (B + 1) w, u.to.cell? ⟨B, 3, none⟩ = some (.int .u8 c.nb)) ∧ (∀ u : Later (B + 1) w, u.to.cell? ⟨B, 4, none⟩ = some (.int .u32 c.ad)) ∧ (∀ u : Later (B + 1) w, u.to.cell? ⟨B, 5, none⟩ = some (.int .u8 c.op)) ∧ (∀ u : Later (B + 1) w, u.to.cell? ⟨B, 6, none⟩ = some (.int .u16 c.hi)) ∧ (∀ u : Later (B + 1) w, u.to.cell? ⟨B, 7, none⟩ = some (.int .u32 c.dd)) ∧ (∀ u : Later (B + 1) w, u.to.cell? ⟨B, 8, none⟩ = some (.int .u16 c.po)) ∧ (∀ u : Later (B + 1) w, u.to.cell? ⟨B, 9, none⟩ = some (.int .u8 c.pr)) ∧ (∀ u : Later (B + 1) w, u.to.cell? ⟨B, 10, none⟩ = some (.bool c.dm)) ∧ (∀ u : Later (B + 1) w, u.to.cell? ⟨B, 11, none⟩ = some (.bool c.ps)) ∧ (∀ u : Later (B + 1) w, u.to.cell? ⟨B, 12, none⟩ = some (c.pe)) ∧ (∀ u : Later (B + 1) w, u.to.cell? ⟨B, 13, none⟩ = some (.int .u32 c.rm)) :=
  ⟨later_cell (by simp) (K.cell 0), later_cell (by simp) (K.cell 1), later_cell (by simp) (K.cell 2), later_cell (by simp) (K.cell 3), later_cell (by simp) (K.cell 4), later_cell (by simp) (K.cell 5), later_cell (by simp) (K.cell 6), later_cell (by simp) (K.cell 7), later_cell (by simp) (K.cell 8), later_cell (by simp) (K.cell 9), later_cell (by simp) (K.cell 10), later_cell (by simp) (K.cell 11), later_cell (by simp) (K.cell 12), later_cell (by simp) (K.cell 13)⟩
end Mx
end Go.Proofs.Ytgbmhijgpdgdbaa
namespace Go.Proofs.Ytgbmhijgpdgdbaa
open Go.RowKit
namespace Mx
theorem may_plain_f (w : World) (c : LC) (L : List (Int × Int)) (hL : PeersAt w w.heap.size c.pe L) (h1 : ¬ 4 < c.ty) (h2 : c.ro ≠ 0) (h3 : c.hi ≠ 0) (h4 : c.dd ≠ 0) (h6 : ¬ 32 < c.nb) (hn0 : 0 ≤ c.nb) (h7 : c.ty ≠ 4) (h5 : ¬ 0 < c.po) (ha : c.rm = 0) (hb : c.ad ≠ 0) (hc : bits .andNot .u32 c.na (maskN c.nb.toNat) = 0) (hd : bits .and .u32 c.ad (maskN c.nb.toNat) = c.na) (he : c.dm = false) (hpb : c.peers = false) : Calls Try.prog 29 #[.agg c.cells] w fun e w' => MayPost c L w e w' := by
  unfold LC.cells
  have H_h1 := Lib.hid h1
  have H_h2 := Lib.hid h2
  have H_h3 := Lib.hid h3
  have H_h4 := Lib.hid h4
  have H_h6 := Lib.hid h6
  have H_hn0 := Lib.hid hn0
  have H_h7 := Lib.hid h7
  have H_h5 := Lib.hid h5
  have H_ha := Lib.hid ha
  have H_hb := Lib.hid hb
  have H_hc := Lib.hid hc
  have H_hd := Lib.hid hd
  have H_he := Lib.hid he
  have H_hpb := Lib.hid hpb
  clear h1 h2 h3 h4 h6 hn0 h7 h5 ha hb hc hd he hpb
  have HPe := Lib.hid rpeers_any
  go_enter Try.func29, Try.ntmps29
  go_upto_region 1 with fail
  obtain ⟨W0, hW0⟩ : ∃ W0, W0 = w.alloc (.cells c.cells 76) := ⟨_, rfl⟩
  have K0 : Hid (Blk W0 w.heap.size 76 c.cells) := Lib.hid (by rw [hW0]; exact Blk.new w _ _)
  have B0 : Hid (Below w.heap.size w W0) := Lib.hid (by rw [hW0]; exact (Below.refl _ w).alloc (Nat.le_refl _) _)
  have hs0 : w.heap.size < W0.heap.size := K0.out.lt
  unfold LC.cells at hW0
  rw [← hW0]
  clear hW0
  have h1 := H_h1.out
  have h2 := H_h2.out
  have h3 := H_h3.out
  have h4 := H_h4.out
  have h6 := H_h6.out
  have h5 := H_h5.out
  have hpb := H_hpb.out
  have e_h2 : (c.ro == 0) = false := by simpa using h2
  have e_h3 : (c.hi == 0) = false := by simpa using h3
  have e_h4 : (c.dd == 0) = false := by simpa using h4
  obtain ⟨q0, q1, q2, q3, q4, q5, q6, q7, q8, q9, q10, q11, q12, q13⟩ := lcq (c := c) K0.out
  have d1 := mxd (n := w.heap.size + 1) (W := W0) hpb
  refine wp_region_later (B := w.heap.size + 1) (w0 := W0) (by kernel_rfl) (by kernel_rfl) (Below.refl _ _) ?_
  repeat (go_big_quiet_step (first
    | (go_at_call 62; with_reducible exact later_call _ (by omega) (d1.out _))))
  refine wpQuiet_nil ?_
  rintro wx ⟨⟨wy, hwy⟩, hwe⟩
  obtain rfl : wx = wy := hwe
  have B1 := Lib.hid (B0.out.trans (hwy.mono (by omega)))
  have K1 := Lib.hid (K0.out.below hwy (by omega))
  clear d1 hwy q0 q1 q2 q3 q4 q5 q6 q7 q8 q9 q10 q11 q12 q13
  have hn0 := H_hn0.out
  have h7 := H_h7.out
  have ha := H_ha.out
  have hb := H_hb.out
  have hc := H_hc.out
  have hd := H_hd.out
  have he := H_he.out
  have e_h7 : (c.ty == 4) = false := by simpa using h7
  have e_hb : (c.ad == 0) = false := by simpa using hb
  obtain ⟨A, cap, hpe, hr⟩ := hL
  have hp2 : ∀ W, Calls Try.prog 62 #[.agg #[.int .u8 c.ty, .int .u32 c.ro, .int .u32 c.na, .int .u8 c.nb, .int .u32 c.ad, .int .u8 c.op, .int .u16 c.hi, .int .u32 c.dd, .int .u16 c.po, .int .u8 c.pr, .bool c.dm, .bool c.ps, (.slice A L.length cap), .int .u32 c.rm]] W fun e w' => e = .returned (.bool false) ∧ Below W.heap.size W w' := fun W => by have h := HPe.out c W; rw [hpb] at h; unfold LC.cells at h; rw [hpe] at h; exact h
  have HP2 := Lib.hid hp2
  clear hp2
  obtain ⟨z0, z1, z2, z3, z4, z5, z6, z7, z8, z9, z10, z11, z12, z13⟩ := lcz (c := c) K1.out
  rw [hpe] at z12
  go_upto_region 8 with (go_at_call 34; refine (rmask_any _ c.nb hn0 (by omega)).mono ?_; rintro e w' ⟨rfl, rfl⟩)
  have H7 := Lib.hid h7
  clear ha hb hc hd he h7 e_h7 e_hb e_h2 e_h3 e_h4
  go_wp2_with fail
  refine (HP2.out _).mono ?_
  rintro e w2 ⟨rfl, hb2⟩
  have y12 : w2.cell? ⟨w.heap.size, 12, none⟩ = some (.slice A L.length cap) := (hb2.cell (p := ⟨w.heap.size, 12, none⟩) K1.out.lt).trans z12
  go_wp2_with fail
  go_ret
  refine ⟨_, rfl, ⟨fun hb0 => ?_, fun m => by have hn := (m.ot H7.out).2.2.2.2.2.1 hpb; simp [hn]⟩, B1.out.trans (hb2.mono B1.out.size)⟩
  have hn : L = [] := by simpa using hb0
  exact ⟨by omega, h2, h3, h4, by rw [hpb]; simp; omega, by omega, fun h => absurd h H7.out, fun _ => ⟨H_ha.out, H_hb.out, H_hc.out, H_hd.out, (fun hd => by rw [H_he.out] at hd; cases hd), fun _ => hn, fun h => by rw [hpb] at h; cases h⟩⟩
theorem may_plain_g (w : World) (c : LC) (L : List (Int × Int)) (hL : PeersAt w w.heap.size c.pe L) (h1 : ¬ 4 < c.ty) (h2 : c.ro ≠ 0) (h3 : c.hi ≠ 0) (h4 : c.dd ≠ 0) (h6 : ¬ 32 < c.nb) (hn0 : 0 ≤ c.nb) (h7 : c.ty ≠ 4) (h5 : ¬ 0 < c.po) (ha : c.rm = 0) (hb : c.ad ≠ 0) (hc : bits .andNot .u32 c.na (maskN c.nb.toNat) = 0) (hd : bits .and .u32 c.ad (maskN c.nb.toNat) = c.na) (he : c.dm = true) (hf : c.ty = 3) (hpb : c.peers = false) : Calls Try.prog 29 #[.agg c.cells] w fun e w' => MayPost c L w e w' := by
  unfold LC.cells
  have H_h1 := Lib.hid h1
  have H_h2 := Lib.hid h2
  have H_h3 := Lib.hid h3
  have H_h4 := Lib.hid h4
  have H_h6 := Lib.hid h6
  have H_hn0 := Lib.hid hn0
  have H_h7 := Lib.hid h7
  have H_h5 := Lib.hid h5
  have H_ha := Lib.hid ha
  have H_hb := Lib.hid hb
  have H_hc := Lib.hid hc
  have H_hd := Lib.hid hd
  have H_he := Lib.hid he
  have H_hf := Lib.hid hf
  have H_hpb := Lib.hid hpb
  clear h1 h2 h3 h4 h6 hn0 h7 h5 ha hb hc hd he hf hpb
  have HPe := Lib.hid rpeers_any
  go_enter Try.func29, Try.ntmps29
  go_upto_region 1 with fail
  obtain ⟨W0, hW0⟩ : ∃ W0, W0 = w.alloc (.cells c.cells 76) := ⟨_, rfl⟩
  have K0 : Hid (Blk W0 w.heap.size 76 c.cells) := Lib.hid (by rw [hW0]; exact Blk.new w _ _)
  have B0 : Hid (Below w.heap.size w W0) := Lib.hid (by rw [hW0]; exact (Below.refl _ w).alloc (Nat.le_refl _) _)
  have hs0 : w.heap.size < W0.heap.size := K0.out.lt
  unfold LC.cells at hW0
  rw [← hW0]
  clear hW0
  have h1 := H_h1.out
  have h2 := H_h2.out
  have h3 := H_h3.out
  have h4 := H_h4.out
  have h6 := H_h6.out
  have h5 := H_h5.out
  have hpb := H_hpb.out
  have e_h2 : (c.ro == 0) = false := by simpa using h2
  have e_h3 : (c.hi == 0) = false := by simpa using h3
  have e_h4 : (c.dd == 0) = false := by simpa using h4
  obtain ⟨q0, q1, q2, q3, q4, q5, q6, q7, q8, q9, q10, q11, q12, q13⟩ := lcq (c := c) K0.out
  have d1 := mxd (n := w.heap.size + 1) (W := W0) hpb
  refine wp_region_later (B := w.heap.size + 1) (w0 := W0) (by kernel_rfl) (by kernel_rfl) (Below.refl _ _) ?_
  repeat (go_big_quiet_step (first
    | (go_at_call 62; with_reducible exact later_call _ (by omega) (d1.out _))))
  refine wpQuiet_nil ?_
  rintro wx ⟨⟨wy, hwy⟩, hwe⟩
  obtain rfl : wx = wy := hwe
  have B1 := Lib.hid (B0.out.trans (hwy.mono (by omega)))
  have K1 := Lib.hid (K0.out.below hwy (by omega))
  clear d1 hwy q0 q1 q2 q3 q4 q5 q6 q7 q8 q9 q10 q11 q12 q13
  have hn0 := H_hn0.out
  have h7 := H_h7.out
  have ha := H_ha.out
  have hb := H_hb.out
  have hc := H_hc.out
  have hd := H_hd.out
  have he := H_he.out
  have hf := H_hf.out
  have e_h7 : (c.ty == 4) = false := by simpa using h7
  have e_hb : (c.ad == 0) = false := by simpa using hb
  obtain ⟨A, cap, hpe, hr⟩ := hL
  have hp2 : ∀ W, Calls Try.prog 62 #[.agg #[.int .u8 c.ty, .int .u32 c.ro, .int .u32 c.na, .int .u8 c.nb, .int .u32 c.ad, .int .u8 c.op, .int .u16 c.hi, .int .u32 c.dd, .int .u16 c.po, .int .u8 c.pr, .bool c.dm, .bool c.ps, (.slice A L.length cap), .int .u32 c.rm]] W fun e w' => e = .returned (.bool false) ∧ Below W.heap.size W w' := fun W => by have h := HPe.out c W; rw [hpb] at h; unfold LC.cells at h; rw [hpe] at h; exact h
  have HP2 := Lib.hid hp2
  clear hp2
  obtain ⟨z0, z1, z2, z3, z4, z5, z6, z7, z8, z9, z10, z11, z12, z13⟩ := lcz (c := c) K1.out
  rw [hpe] at z12
  go_upto_region 8 with (go_at_call 34; refine (rmask_any _ c.nb hn0 (by omega)).mono ?_; rintro e w' ⟨rfl, rfl⟩)
  have H7 := Lib.hid h7
  clear ha hb hc hd he hf h7 e_h7 e_hb e_h2 e_h3 e_h4
  go_wp2_with fail
  refine (HP2.out _).mono ?_
  rintro e w2 ⟨rfl, hb2⟩
  have y12 : w2.cell? ⟨w.heap.size, 12, none⟩ = some (.slice A L.length cap) := (hb2.cell (p := ⟨w.heap.size, 12, none⟩) K1.out.lt).trans z12
  go_wp2_with fail
  go_ret
  refine ⟨_, rfl, ⟨fun hb0 => ?_, fun m => by have hn := (m.ot H7.out).2.2.2.2.2.1 hpb; simp [hn]⟩, B1.out.trans (hb2.mono B1.out.size)⟩
  have hn : L = [] := by simpa using hb0
  exact ⟨by omega, h2, h3, h4, by rw [hpb]; simp; omega, by omega, fun h => absurd h H7.out, fun _ => ⟨H_ha.out, H_hb.out, H_hc.out, H_hd.out, (fun hd => H_hf.out), fun _ => hn, fun h => by rw [hpb] at h; cases h⟩⟩
end Mx
end Go.Proofs.Ytgbmhijgpdgdbaa
namespace Go.Proofs.Ytgbmhijgpdgdbaa
open Go.RowKit
theorem wpList_update {P : Program} {ops : Array Oper} {rest : List Oper} {o : Oper} {a : Act} {w w' : World} {Q : Exit → Act → World → Prop} {mv kv xv : Value} (hgd : o.guard = none) (m k x : Operand) (t : TypeId)
    (ho : o.op = .mapUpdate t m k x) (hm : a.eval m = mv) (hk : a.eval k = kv) (hx : a.eval x = xv) (hrun : (Instr.mapUpdate t mv kv xv).run P w = .ok () w') (h : wpList P ops Q rest (a.put o.dst undef) w') : wpList P ops Q (o :: rest) a w :=
  wpList_plain hgd fun _ hK => by
    unfold Oper.wp execOp
    simp only [ho, hm, hk, hx, Sem.run_bind, Sem.run_pure, Result.andThen_ok, hrun]
    exact hK _ _ h
def seen0 (ad : Int) : Int → Option Bool := updW (updW (fun _ => none) 0 (some true)) ad (some true)
theorem seen0_comm (ad : Int) : updW (updW (fun _ => none) ad (some true)) 0 (some true) = seen0 ad := by
  funext x
  unfold seen0 updW
  by_cases h1 : x = 0 <;> by_cases h2 : x = ad <;> simp [h1, h2]
end Go.Proofs.Ytgbmhijgpdgdbaa
namespace Go.Proofs.Ytgbmhijgpdgdbaa
open Go.RowKit
theorem lpeer_info : (Try.prog.info? 136).map (fun i => (i.zero, i.size, i.bytes)) = some (some (.agg #[.int .u32 0, .int .u8 0]), 2, 8) := by kernel_rfl
theorem own_far_t {w : World} {base size n : Nat} {e t : TypeId} {v : Value} {xs : List Value} {B : Nat} {cs : Array Value} (h : w.ownsRow base e size v n xs) (k : Blk w B t cs) (hne : t ≠ e) : v.ownBlock ≠ some B := by
  rcases h.2 with ⟨rfl, _⟩ | ⟨g, cap, cur, rfl, _, hg, _⟩
  · simp [Value.ownBlock]
  · intro hh
    simp only [Value.ownBlock, Option.some.injEq] at hh
    subst hh
    unfold Blk at k
    rw [hg] at k
    cases k
    exact hne rfl
theorem pcells_one (L : List (Int × Int)) : ∀ u ∈ L.flatMap pcells, u.oneCell' = true := by
  intro u hu
  obtain ⟨p, _, hp⟩ := List.mem_flatMap.1 hu
  simp only [pcells, List.mem_cons, List.not_mem_nil, or_false] at hp
  rcases hp with rfl | rfl <;> rfl
end Go.Proofs.Ytgbmhijgpdgdbaa
namespace Go.Proofs.Ytgbmhijgpdgdbaa
open Go.RowKit
theorem mask_range (n : Nat) (h : n ≤ 32) : 0 ≤ maskN n ∧ maskN n < 4294967296 := by
  have hn : n = 0 ∨ n = 1 ∨ n = 2 ∨ n = 3 ∨ n = 4 ∨ n = 5 ∨ n = 6 ∨ n = 7 ∨ n = 8 ∨ n = 9 ∨ n = 10 ∨ n = 11 ∨ n = 12 ∨ n = 13 ∨ n = 14 ∨ n = 15 ∨ n = 16 ∨ n = 17 ∨ n = 18 ∨ n = 19 ∨ n = 20 ∨ n = 21 ∨ n = 22 ∨ n = 23 ∨ n = 24 ∨ n = 25 ∨ n = 26 ∨ n = 27 ∨ n = 28 ∨ n = 29 ∨ n = 30 ∨ n = 31 ∨ n = 32 := by omega
  clear h
  rcases hn with rfl | rfl | rfl | rfl | rfl | rfl | rfl | rfl | rfl | rfl | rfl | rfl | rfl | rfl | rfl | rfl | rfl | rfl | rfl | rfl | rfl | rfl | rfl | rfl | rfl | rfl | rfl | rfl | rfl | rfl | rfl | rfl | rfl <;> decide
theorem and_of_andNot {x : Int} {n : Nat} (h0 : 0 ≤ x) (h1 : x < 4294967296) (hn : n ≤ 32) (h : bits .andNot .u32 x (maskN n) = 0) : bits .and .u32 x (maskN n) = x := by
  obtain ⟨m0, m1⟩ := mask_range n hn
  rw [u32_andNot x (maskN n) h0 h1 m0 m1] at h
  rw [u32_and x (maskN n) h0 h1 m0 m1]
  have h' : x.toNat &&& (4294967295 - (maskN n).toNat) = 0 := by exact_mod_cast h
  have key : x.toNat &&& (maskN n).toNat = x.toNat := by
    apply Nat.eq_of_testBit_eq
    intro i
    rw [Nat.testBit_and]
    by_cases hi : i < 32
    · have hz : (x.toNat &&& (4294967295 - (maskN n).toNat)).testBit i = false := by rw [h']; simp
      rw [Nat.testBit_and] at hz
      have e : 4294967295 - (maskN n).toNat = 2 ^ 32 - ((maskN n).toNat + 1) := by omega
      rw [e, Nat.testBit_two_pow_sub_succ (by omega)] at hz
      cases hx : x.toNat.testBit i <;> simp [hx, hi] at hz ⊢
      exact hz
    · have : x.toNat.testBit i = false := Nat.testBit_lt_two_pow (Nat.lt_of_lt_of_le (show x.toNat < 2 ^ 32 by omega) (Nat.pow_le_pow_right (by omega) (by omega)))
      simp [this]
  rw [key]
  omega
end Go.Proofs.Ytgbmhijgpdgdbaa
