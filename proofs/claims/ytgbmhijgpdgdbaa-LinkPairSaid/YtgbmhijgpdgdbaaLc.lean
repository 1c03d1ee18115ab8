/- A link's config, of whatever kind; prefixes of whatever numbers. -/
import Derived.Test.YtgbmhijgpdgdbaaLater
import Derived.Test.YtgbmhijgpdgdbaaLinkNo
import Derived.Test.YtgbmhijgpdgdbaaTail
import Derived.Laws.BitsAllLaws
namespace Go.Proofs.Ytgbmhijgpdgdbaa
open Go.RowKit

theorem wpOps_of_quiet {P : Program} {ops : Array Oper} {C : World → Prop} {Q' : Act → Prop} {Q : Exit → Act → World → Prop} (hQ : ∀ a w, C w → Q' a → Q .normal a w) :
    ∀ (l : List Oper) (k : Nat) (_ : ∀ j, l[j]? = ops[k + j]?) (a : Act) (w : World), C w → wpQuiet P ops C Q' l a → wpOps P ops Q (List.range' k l.length) a w
  | [], _, _, a, w, hw, h => hQ a w hw h
  | o :: l, k, hl, a, w, hw, h => by
    have h0 : ops[k]? = some o := by simpa using (hl 0).symm
    have ih := wpOps_of_quiet (P := P) (ops := ops) hQ l (k + 1) (fun j => by have := hl (j + 1); simpa [Nat.add_assoc, Nat.add_comm 1 j] using this)
    rw [List.length_cons, List.range'_succ]
    unfold wpOps
    simp only [h0]
    unfold wpQuiet at h
    split
    · rename_i hwant
      rw [if_pos hwant] at h
      exact .inl (Oper.wp_of_quiet hw (fun a' w' hw' hk => ih a' w' hw' hk) h)
    · rename_i hwant
      rw [if_neg hwant] at h
      exact ih _ _ hw h

theorem wp_region_later_plain {P : Program} {B : Nat} {w0 : World} {id : Nat} {Q : Exit → Act → World → Prop} {a : Act} {w : World} {l : List Oper} (h0 : Below B w0 w)
    (h : wpQuiet P l.toArray (fun w' => ∃ u : Later B w0, w' = u.to) (fun a' => ∀ w', (∃ u : Later B w0, w' = u.to) → Q .normal a' w') l a) : (Code.region id l.toArray false).wp P Q a w := by
  refine wp_region ?_
  have := wpOps_of_quiet (P := P) (ops := l.toArray) (C := fun w' => ∃ u : Later B w0, w' = u.to) (Q := Q) (Q' := fun a' => ∀ w', (∃ u : Later B w0, w' = u.to) → Q .normal a' w') (fun a' w' hw' hh => hh w' hw') l 0 (fun j => by simp) a w ⟨⟨w, h0⟩, rfl⟩ h
  rw [List.range_eq_range']
  simpa using this

end Go.Proofs.Ytgbmhijgpdgdbaa

namespace Go.Proofs.Ytgbmhijgpdgdbaa
open Go.RowKit

/-- The mask of n bits. -/
def maskN (n : Nat) : Int := 4294967296 - 2 ^ (32 - n)

set_option maxHeartbeats 4000000 in
theorem mask_any (w : World) (n : Int) (h0 : 0 ≤ n) (h1 : n ≤ 32) : Calls Try.prog 102 #[.int .u8 n] w fun e w' => e = .returned (.int .u32 (maskN n.toNat)) ∧ w = w' := by
  have hn : n = 0 ∨ n = 1 ∨ n = 2 ∨ n = 3 ∨ n = 4 ∨ n = 5 ∨ n = 6 ∨ n = 7 ∨ n = 8 ∨ n = 9 ∨ n = 10 ∨ n = 11 ∨ n = 12 ∨ n = 13 ∨ n = 14 ∨ n = 15 ∨ n = 16 ∨ n = 17 ∨ n = 18 ∨ n = 19 ∨ n = 20 ∨ n = 21 ∨ n = 22 ∨ n = 23 ∨ n = 24 ∨ n = 25 ∨ n = 26 ∨ n = 27 ∨ n = 28 ∨ n = 29 ∨ n = 30 ∨ n = 31 ∨ n = 32 := by omega
  clear h0 h1
  rcases hn with rfl | rfl | rfl | rfl | rfl | rfl | rfl | rfl | rfl | rfl | rfl | rfl | rfl | rfl | rfl | rfl | rfl | rfl | rfl | rfl | rfl | rfl | rfl | rfl | rfl | rfl | rfl | rfl | rfl | rfl | rfl | rfl | rfl <;>
    (go_enter Try.func102, Try.ntmps102
     go_wp2_with fail
     go_ret
     exact ⟨rfl, rfl⟩)

theorem or_step (i : Nat) (hi : i < 32) : bits .or .u32 (maskN i) (2 ^ (31 - i) % 4294967296) = maskN (i + 1) := by
  have h : i = 0 ∨ i = 1 ∨ i = 2 ∨ i = 3 ∨ i = 4 ∨ i = 5 ∨ i = 6 ∨ i = 7 ∨ i = 8 ∨ i = 9 ∨ i = 10 ∨ i = 11 ∨ i = 12 ∨ i = 13 ∨ i = 14 ∨ i = 15 ∨ i = 16 ∨ i = 17 ∨ i = 18 ∨ i = 19 ∨ i = 20 ∨ i = 21 ∨ i = 22 ∨ i = 23 ∨ i = 24 ∨ i = 25 ∨ i = 26 ∨ i = 27 ∨ i = 28 ∨ i = 29 ∨ i = 30 ∨ i = 31 := by omega
  clear hi
  rcases h with rfl | rfl | rfl | rfl | rfl | rfl | rfl | rfl | rfl | rfl | rfl | rfl | rfl | rfl | rfl | rfl | rfl | rfl | rfl | rfl | rfl | rfl | rfl | rfl | rfl | rfl | rfl | rfl | rfl | rfl | rfl | rfl <;> decide +kernel

set_option maxHeartbeats 4000000 in
theorem rmask_any (w : World) (n : Int) (h0 : 0 ≤ n) (h1 : n ≤ 32) : Calls Try.prog 34 #[.int .u8 n] w fun e w' => e = .returned (.int .u32 (maskN n.toNat)) ∧ w = w' := by
  obtain ⟨m, rfl⟩ : ∃ m : Nat, n = m := ⟨n.toNat, by omega⟩
  have hm : m ≤ 32 := by omega
  clear h0 h1
  go_enter Try.func34, Try.ntmps34
  go_wp2_with fail
  go_loopw [3, 4] (fun x y wr => ∃ i : Nat, i ≤ m ∧ x = .int .u32 (maskN i) ∧ y = .int .u8 i ∧ wr = w) (fun _ y _ => m - (intOf y).toNat)
  case atStart => exact ⟨0, by omega, rfl, rfl, rfl⟩
  case round =>
    obtain ⟨i, hi, rfl, rfl, rfl⟩ := hrel
    by_cases hlt : i < m
    · go_wp2_with fail
      refine ⟨⟨i + 1, by omega, by rw [or_step i (by omega)], by simp, trivial⟩, ?_⟩
      simp [intOf]
      omega
    · obtain rfl : i = m := by omega
      go_wp2_with fail
      go_ret
      exact ⟨by simp, rfl⟩
end Go.Proofs.Ytgbmhijgpdgdbaa

namespace Go.Proofs.Ytgbmhijgpdgdbaa
open Go.RowKit

/-- A config, as both packages lay it out. -/
structure LC where
  ty : Int
  ro : Int
  na : Int
  nb : Int
  ad : Int
  op : Int
  hi : Int
  dd : Int
  po : Int
  pr : Int
  dm : Bool
  ps : Bool
  pe : Value
  rm : Int

def LC.cells (c : LC) : Array Value := #[.int .u8 c.ty, .int .u32 c.ro, .int .u32 c.na, .int .u8 c.nb, .int .u32 c.ad, .int .u8 c.op, .int .u16 c.hi, .int .u32 c.dd, .int .u16 c.po, .int .u8 c.pr, .bool c.dm, .bool c.ps, c.pe, .int .u32 c.rm]

set_option maxHeartbeats 400000 in
theorem make_any (x n : Int) (w : World) (h0 : 0 ≤ n) (h1 : n ≤ 32) : Calls Try.prog 101 #[.int .u32 x, .int .u8 n] w fun e w' => e = .returned (.tuple #[.agg #[.int .u32 (bits .and .u32 x (maskN n.toNat)), .int .u8 n], .int .i64 0]) ∧ Below w.heap.size w w' := by
  go_enter Try.func101, Try.ntmps101
  go_wp2_with (go_at_call 102; refine (mask_any _ n h0 h1).mono ?_; rintro e w' ⟨rfl, rfl⟩)
  refine bodyPost_ret (v := .tuple #[.agg #[.int .u32 (bits .and .u32 x (maskN n.toNat)), .int .u8 n], .int .i64 0]) (by simp [results, Try.results101, go_sem]) rfl ⟨rfl, ?_⟩
  exact (Below.refl _ _).alloc (Nat.le_refl _) _

set_option maxHeartbeats 1000000 in
theorem check_any (x n : Int) (w : World) (h0 : 0 ≤ n) (h1 : n ≤ 32) : Calls Try.prog 65 #[.agg #[.int .u32 x, .int .u8 n]] w fun e w' => e = .returned (.int .i64 (if bits .and .u32 x (maskN n.toNat) = x then 0 else 12)) ∧ Below w.heap.size w w' := by
  have k1 := Blk.new w 73 #[.int .u32 x, .int .u8 n]
  have hb0 : Below w.heap.size w (w.alloc (.cells #[.int .u32 x, .int .u8 n] 73)) := (Below.refl _ _).alloc (Nat.le_refl _) _
  have HB0 := Lib.hid hb0
  have K1 := Lib.hid k1
  clear hb0 k1
  go_enter Try.func65, Try.ntmps65
  go_wp2_with fail
  refine (make_any _ _ _ h0 h1).mono ?_
  rintro e w1 ⟨rfl, hb1⟩
  have k2 := K1.out.below hb1 K1.out.lt
  have c0 : w1.cell? ⟨w.heap.size, 0, none⟩ = some (.int .u32 x) := k2.cell 0
  have c1 : w1.cell? ⟨w.heap.size, 1, none⟩ = some (.int .u8 n) := k2.cell 1
  have hbl : w.heap.size < w1.heap.size := k2.lt
  have HB1 := Lib.hid (HB0.out.trans (hb1.mono (by simp)))
  clear k2 hb1
  by_cases h : bits .and .u32 x (maskN n.toNat) = x
  · rw [h]
    go_wp2_with fail
    go_ret
    exact ⟨by simp, HB1.out.alloc HB1.out.size _⟩
  · have h' : x ≠ bits .and .u32 x (maskN n.toNat) := fun e => h e.symm
    go_wp2_with fail
    go_ret
    exact ⟨by simp, HB1.out.alloc HB1.out.size _⟩

set_option maxHeartbeats 1000000 in
theorem has_any (a n x : Int) (w : World) (h0 : 0 ≤ n) (h1 : n ≤ 32) (hok : bits .and .u32 a (maskN n.toNat) = a) : Calls Try.prog 66 #[.agg #[.int .u32 a, .int .u8 n], .int .u32 x] w fun e w' => e = .returned (.bool (decide (bits .and .u32 x (maskN n.toNat) = a))) ∧ Below w.heap.size w w' := by
  have k1 := Blk.new w 73 #[.int .u32 a, .int .u8 n]
  have hb0 : Below w.heap.size w (w.alloc (.cells #[.int .u32 a, .int .u8 n] 73)) := (Below.refl _ _).alloc (Nat.le_refl _) _
  have HB0 := Lib.hid hb0
  have K1 := Lib.hid k1
  clear hb0 k1
  go_enter Try.func66, Try.ntmps66
  go_wp2_with fail
  have q0 := later_cell (v := .int .u32 a) (B := w.heap.size + 1) (w0 := (w.alloc (.cells #[.int .u32 a, .int .u8 n] 73))) (p := ⟨w.heap.size, 0, none⟩) (by simp) (K1.out.cell 0)
  have q1 := later_cell (v := .int .u8 n) (B := w.heap.size + 1) (w0 := (w.alloc (.cells #[.int .u32 a, .int .u8 n] 73))) (p := ⟨w.heap.size, 1, none⟩) (by simp) (K1.out.cell 1)
  have d1 : Hid (∀ u : Later (w.heap.size + 1) (w.alloc (.cells #[.int .u32 a, .int .u8 n] 73)), Calls Try.prog 65 #[.agg #[.int .u32 a, .int .u8 n]] u.to fun e w' => e = .returned (.int .i64 0) ∧ Below u.to.heap.size u.to w') := Lib.hid (fun u => (check_any a n u.to h0 h1).mono fun _ _ h => ⟨by rw [h.1, if_pos hok], h.2⟩)
  have d2 : Hid (∀ u : Later (w.heap.size + 1) (w.alloc (.cells #[.int .u32 a, .int .u8 n] 73)), Calls Try.prog 102 #[.int .u8 n] u.to fun e w' => e = .returned (.int .u32 (maskN n.toNat)) ∧ Below u.to.heap.size u.to w') := Lib.hid (fun u => (mask_any u.to n h0 h1).mono fun _ _ h => ⟨h.1, h.2 ▸ Below.refl _ _⟩)
  refine wp_region_later (B := w.heap.size + 1) (w0 := (w.alloc (.cells #[.int .u32 a, .int .u8 n] 73))) (by kernel_rfl) (by kernel_rfl) (Below.refl _ _) ?_
  repeat (go_big_quiet_step (first
    | (go_at_call 65; with_reducible exact later_call _ (by simp) (d1.out _))
    | (go_at_call 102; with_reducible exact later_call _ (by simp) (d2.out _))))
  refine wpQuiet_nil ?_
  rintro wx ⟨⟨wy, hwy⟩, hwe⟩
  obtain rfl : wx = wy := hwe
  go_wp2_with fail
  go_ret
  refine ⟨?_, HB0.out.trans (hwy.mono (by omega))⟩
  rw [Ending.returned.injEq]
  exact congrArg Value.bool (Bool.eq_iff_iff.2 (by simp))

/-- A config's kinds. -/
def LC.peers (c : LC) : Bool := c.ty == 1 || c.ty == 2
def LC.shared (c : LC) : Bool := c.ty == 0 || c.ty == 1

set_option maxHeartbeats 1000000 in
set_option maxRecDepth 20000 in
theorem peers_any (c : LC) (w : World) : Calls Try.prog 63 #[.agg c.cells] w fun e w' => e = .returned (.bool c.peers) ∧ Below w.heap.size w w' := by
  obtain ⟨ty, ro, na, nb, ad, op, hi, dd, po, pr, dm, ps, pe, rm⟩ := c
  unfold LC.cells LC.peers
  dsimp only
  by_cases h1 : ty = 1
  · subst h1
    go_enter Try.func63, Try.ntmps63
    go_wp2_with fail
    go_ret
    exact ⟨rfl, (Below.refl _ _).alloc (Nat.le_refl _) _⟩
  · go_enter Try.func63, Try.ntmps63
    go_wp2_with fail
    go_ret
    exact ⟨by simp, (Below.refl _ _).alloc (Nat.le_refl _) _⟩

set_option maxHeartbeats 1000000 in
set_option maxRecDepth 20000 in
theorem shared_any (c : LC) (w : World) : Calls Try.prog 68 #[.agg c.cells] w fun e w' => e = .returned (.bool c.shared) ∧ Below w.heap.size w w' := by
  obtain ⟨ty, ro, na, nb, ad, op, hi, dd, po, pr, dm, ps, pe, rm⟩ := c
  unfold LC.cells LC.shared
  dsimp only
  by_cases h1 : ty = 0
  · subst h1
    go_enter Try.func68, Try.ntmps68
    go_wp2_with fail
    go_ret
    exact ⟨rfl, (Below.refl _ _).alloc (Nat.le_refl _) _⟩
  · go_enter Try.func68, Try.ntmps68
    go_wp2_with fail
    go_ret
    exact ⟨by simp, (Below.refl _ _).alloc (Nat.le_refl _) _⟩

set_option maxHeartbeats 1000000 in
set_option maxRecDepth 20000 in
theorem rpeers_any (c : LC) (w : World) : Calls Try.prog 62 #[.agg c.cells] w fun e w' => e = .returned (.bool c.peers) ∧ Below w.heap.size w w' := by
  obtain ⟨ty, ro, na, nb, ad, op, hi, dd, po, pr, dm, ps, pe, rm⟩ := c
  unfold LC.cells LC.peers
  dsimp only
  by_cases h1 : ty = 1
  · subst h1
    go_enter Try.func62, Try.ntmps62
    go_wp2_with fail
    go_ret
    exact ⟨rfl, (Below.refl _ _).alloc (Nat.le_refl _) _⟩
  · go_enter Try.func62, Try.ntmps62
    go_wp2_with fail
    go_ret
    exact ⟨by simp, (Below.refl _ _).alloc (Nat.le_refl _) _⟩
end Go.Proofs.Ytgbmhijgpdgdbaa
