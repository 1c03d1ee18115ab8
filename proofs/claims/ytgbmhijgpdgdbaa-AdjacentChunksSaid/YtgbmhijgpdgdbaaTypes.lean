/- The types of a description's heads may all be. -/
import Derived.Test.YtgbmhijgpdgdbaaHeads
import Derived.BigQuiet
namespace Go.Proofs.Ytgbmhijgpdgdbaa
open Go.RowKit

/-- A head's numbers fit their types; its type may be. -/
structure HdOk (h : Od.Hd) : Prop where
  g0 : 0 ≤ h.g
  g1 : h.g < 65536
  t0 : 0 ≤ h.t
  t1 : h.t ≤ 15
  i0 : 0 ≤ h.i
  i1 : h.i < 4294967296
  v0 : 0 ≤ h.v
  v1 : h.v < 4294967296

theorem below_drewN {B : Nat} {a w : World} (h : Below B a w) (n : Nat) : Below B a (w.drewN n) := ⟨h.os, h.tape, h.output, h.size, h.block⟩

/-- A description's value. -/
def ddval (mtu opts flags seq : Int) (hv : Value) : Value := .agg #[.int .u16 mtu, .int .u8 opts, .int .u8 flags, .int .u32 seq, hv]

theorem Reads.head {w : World} {B n : Nat} {A : Option Addr} {l : List Od.Hd} (h : Reads w B 8 A n (l.flatMap hcells)) {k : Nat} {x : Od.Hd} (hx : l[k]? = some x) :
    ∃ b off, A = some ⟨b, off, none⟩ ∧ b < B ∧ ∀ i u, (hcells x)[i]? = some u → w.cell? ⟨b, off + k * 8 + i, none⟩ = some u := by
  have hk : k < l.length := (List.getElem?_eq_some_iff.1 hx).1
  have hlen : (l.flatMap hcells).length = l.length * 8 := by
    clear h hx hk
    induction l with
    | nil => rfl
    | cons a t ih => simp only [List.flatMap_cons, List.length_append, ih, List.length_cons]; simp [hcells]; omega
  have hn : n = l.length := by have := h.1; omega
  obtain ⟨ad, rfl, hb, hc⟩ := h.2 (by omega)
  have hcell : ∀ (k : Nat) (x : Od.Hd), l[k]? = some x → ∀ i u, (hcells x)[i]? = some u → (l.flatMap hcells)[k * 8 + i]? = some u := by
    intro k x hx i u hu
    have hd : (l.flatMap hcells).drop (k * 8) = (l.drop k).flatMap hcells := (flat_drop l k).symm
    have hi : i < 8 := by
      have := (List.getElem?_eq_some_iff.1 hu).1
      simpa [hcells] using this
    rw [← List.getElem?_drop, hd]
    have hk : k < l.length := (List.getElem?_eq_some_iff.1 hx).1
    rw [List.drop_eq_getElem_cons hk, List.flatMap_cons, List.getElem?_append_left (by simp [hcells]; omega)]
    rw [List.getElem?_eq_getElem hk] at hx
    cases hx
    exact hu
  have hs := World.cell?_spot (hc (0 * 8 + 0) _ (hcell 0 l[0] (List.getElem?_eq_getElem (by omega)) 0 _ rfl))
  obtain ⟨b, off, sp⟩ := ad
  have hsp : sp = none := by simpa [Addr.add] using hs
  subst hsp
  refine ⟨b, off, rfl, hb, fun i u hu => ?_⟩
  have := hc (k * 8 + i) u (hcell k x hx i u hu)
  unfold Addr.add at this
  split at this
  · rename_i h0
    rw [show off + k * 8 + i = off from by omega]; exact this
  · rw [show off + k * 8 + i = off + (k * 8 + i) from by omega]; exact this

theorem type_bit : ∀ t : Nat, t ≤ 15 → bits .and .u16 ((65535 : Int) / 2 ^ t) 1 = 1 := by decide

set_option maxHeartbeats 2000000 in
set_option maxRecDepth 20000 in
theorem types_any (w : World) (B : Nat) (a : Adj) (mtu opts flags seq : Int) (hv : Value) (l : List Od.Hd) (h : AdjAt w B a) (hl : HeadsIn w hv l) (ht : a.types = 65535) (hok : ∀ x ∈ l, HdOk x) (hn : l.length ≤ 65536) :
    Calls Try.prog 90 #[.pointer (some ⟨B, 0, none⟩), ddval mtu opts flags seq hv] w fun e w' => e = .returned (.bool true) ∧ Below w.heap.size w w' := by
  obtain ⟨⟨A, n, c, rfl, hnc, hlen, hr⟩, -⟩ := hl
  have hBlt := h.lt
  have c7 : w.cell? ⟨B, 7, none⟩ = some (.int .u16 65535) := (h.cell 7).trans (by rw [← ht]; rfl)
  have Hok := Lib.hid hok
  have hn0 : n ≤ 65536 := by omega
  have Hlen := Lib.hid hlen
  clear h hlen hok ht hn
  unfold ddval
  go_enter Try.func90, Try.ntmps90
  go_wp2_with fail
  go_loopw [10] (fun i wr => ∃ k : Nat, k ≤ n ∧ i = .int .i64 k ∧ Below w.heap.size w wr) (fun i _ => n - (intOf i).toNat)
  case atStart => exact ⟨0, Nat.zero_le _, rfl, (Below.refl _ _).alloc (Nat.le_refl _) _⟩
  case round =>
    obtain ⟨k, hk, rfl, hbel⟩ := hrel
    by_cases hlt : k < n
    · obtain ⟨x, hx⟩ : ∃ x, l[k]? = some x := ⟨_, List.getElem?_eq_getElem (by have := Hlen.out; omega)⟩
      obtain ⟨bl, off, hA, hbl, hcell⟩ := (hr.below hbel).head hx
      have hx0 := Hok.out x (List.mem_of_getElem? hx)
      subst hA
      obtain ⟨g, o, t, i, v, s, m, ll⟩ := x
      have d0 : wr.cell? ⟨bl, off + k * 8, none⟩ = some (.int .u16 g) := hcell 0 _ rfl
      have d1 := hcell 1 _ rfl
      have d2 := hcell 2 _ rfl
      have d3 := hcell 3 _ rfl
      have d4 := hcell 4 _ rfl
      have d5 := hcell 5 _ rfl
      have d6 := hcell 6 _ rfl
      have d7 := hcell 7 _ rfl
      have e7 := (hbel.cell (p := ⟨B, 7, none⟩) hBlt).trans c7
      have t0 : 0 ≤ t := hx0.t0
      have t1 : t ≤ 15 := hx0.t1
      have ht15 : decide (15 < t) = false := by simp; omega
      have hkn : (k : Int) < (n : Int) := by omega
      have hbit := type_bit t.toNat (by omega)
      have hsz := hbel.size
      have hBwr : B < wr.heap.size := by omega
      clear hcell hr hx hx0 c7
      go_wp2_with fail
      go_quiet (fail)
      go_wp2_with fail
      go_roundw
      case rel => exact ⟨k + 1, by omega, by go_num, below_drewN (hbel.alloc hsz _) _⟩
      case measure => simp [intOf]; omega
    · obtain rfl : k = n := by omega
      go_wp2_with fail
      go_ret
      exact ⟨rfl, hbel⟩
end Go.Proofs.Ytgbmhijgpdgdbaa
