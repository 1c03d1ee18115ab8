/- New, of whatever config that may be. -/
import Derived.Test.YtgbmhijgpdgdbaaNewAny
namespace Go.Proofs.Ytgbmhijgpdgdbaa
open Go.RowKit

theorem mask_range (n : Nat) (h : n ≤ 32) : 0 ≤ maskN n ∧ maskN n < 4294967296 := by
  have hn : n = 0 ∨ n = 1 ∨ n = 2 ∨ n = 3 ∨ n = 4 ∨ n = 5 ∨ n = 6 ∨ n = 7 ∨ n = 8 ∨ n = 9 ∨ n = 10 ∨ n = 11 ∨ n = 12 ∨ n = 13 ∨ n = 14 ∨ n = 15 ∨ n = 16 ∨ n = 17 ∨ n = 18 ∨ n = 19 ∨ n = 20 ∨ n = 21 ∨ n = 22 ∨ n = 23 ∨ n = 24 ∨ n = 25 ∨ n = 26 ∨ n = 27 ∨ n = 28 ∨ n = 29 ∨ n = 30 ∨ n = 31 ∨ n = 32 := by omega
  clear h
  rcases hn with rfl | rfl | rfl | rfl | rfl | rfl | rfl | rfl | rfl | rfl | rfl | rfl | rfl | rfl | rfl | rfl | rfl | rfl | rfl | rfl | rfl | rfl | rfl | rfl | rfl | rfl | rfl | rfl | rfl | rfl | rfl | rfl | rfl <;> decide

theorem and_of_andNot {x : Int} {n : Nat} (h0 : 0 ≤ x) (h1 : x < 4294967296) (hn : n ≤ 32) (h : bits .andNot .u32 x (maskN n) = 0) : bits .and .u32 x (maskN n) = x := by
  obtain ⟨m0, m1⟩ := mask_range n hn
  rw [u32_andNot x (maskN n) h0 h1 m0 m1] at h
  rw [u32_and x (maskN n) h0 h1 m0 m1]
  have h' : x.toNat &&& (4294967295 - (maskN n).toNat) = 0 := by exact_mod_cast h
  have key : x.toNat &&& (maskN n).toNat = x.toNat := by
    apply Nat.eq_of_testBit_eq
    intro i
    rw [Nat.testBit_and]
    by_cases hi : i < 32
    · have hz : (x.toNat &&& (4294967295 - (maskN n).toNat)).testBit i = false := by rw [h']; simp
      rw [Nat.testBit_and] at hz
      have e : 4294967295 - (maskN n).toNat = 2 ^ 32 - ((maskN n).toNat + 1) := by omega
      rw [e, Nat.testBit_two_pow_sub_succ (by omega)] at hz
      cases hx : x.toNat.testBit i <;> simp [hx, hi] at hz ⊢
      exact hz
    · have : x.toNat.testBit i = false := Nat.testBit_lt_two_pow (Nat.lt_of_lt_of_le (show x.toNat < 2 ^ 32 by omega) (Nat.pow_le_pow_right (by omega) (by omega)))
      simp [this]
  rw [key]
  omega

/-- **New, of whatever config that may be.** -/
theorem new_any (w : World) (c : LC) (L : List (Int × Int)) (hL : PeersAt w w.heap.size c.pe L) (hlen : L.length ≤ 200) (hm : MayOk c L) (had : WdOk c.ad) (hna : WdOk c.na) (hwd : ∀ p ∈ L, WdOk p.1) (hn0 : 0 ≤ c.nb) :
    Calls Try.prog 31 #[.agg c.cells] w fun e w' => NewPost c L w e w' := by
  have hL0 := hL
  obtain ⟨A, cap, hpe, hr⟩ := hL0
  have hpm : ∀ W, Below w.heap.size w W → Calls Try.prog 64 #[.agg c.cells] W fun e w' => e = .returned (.bool true) ∧ Below W.heap.size W w' := by
    intro W hb
    cases hp : c.peers with
    | false =>
      have hnil : L = [] := by
        by_cases ht : c.ty = 4
        · exact (hm.vi ht).2.2.2.2.2.2
        · exact (hm.ot ht).2.2.2.2.2.1 hp
      subst hnil
      exact peersMay_none W c hp cap A hpe
    | true =>
      have ht : c.ty ≠ 4 := fun e => by simp [LC.peers, e] at hp
      obtain ⟨h64, hall⟩ := (hm.ot ht).2.2.2.2.2.2 hp
      exact peersMay_some W c L hp ⟨A, cap, hpe, (hr.below hb).more hb.size⟩ h64 had hwd hall
  by_cases ht : c.ty = 4
  · obtain ⟨a1, a2, a3, a4, a5, a6, _⟩ := hm.vi ht
    exact new_virtual w c L hL hlen hm.ty hm.ro hm.hi hm.dd hm.po hm.nb hn0 hpm ht a1 a2 a3 a4 a5 a6
  · obtain ⟨a1, a2, a3, a4, a5, _, _⟩ := hm.ot ht
    have hand := and_of_andNot hna.v0 hna.v1 (by have := hm.nb; omega : c.nb.toNat ≤ 32) a3
    cases hdm : c.dm with
    | false => exact new_plain w c L hL hlen hm.ty hm.ro hm.hi hm.dd hm.po hm.nb hn0 hpm ht a1 a2 hand a4 hdm
    | true => exact new_demand w c L hL hlen hm.ty hm.ro hm.hi hm.dd hm.po hm.nb hn0 hpm ht a1 a2 hand a4 hdm (a5 hdm)
end Go.Proofs.Ytgbmhijgpdgdbaa
