/- The statements' 'same': the voices are what they were. -/
import Derived.Test.YtepliggmcpkmdaaRElect
namespace Go.Proofs.Ytepliggmcpkmdaa
open Go.RowKit

set_option maxHeartbeats 1000000 in
theorem same_any (A L : Option Addr) (n cp cq : Nat) (vs : List El.V) (w : World) (hlen : vs.length = n) (hn : n ≤ 65536) (hr : Reads w w.heap.size 5 A n (vs.flatMap cells)) (hl : Reads w w.heap.size 5 L n (vs.flatMap cells)) :
    Calls Try.prog 12 #[.slice A n cp, .slice L n cq] w fun e w' => e = .returned (.bool true) ∧ Below w.heap.size w w' := by
  have Hlen := Lib.hid hlen
  clear hlen
  go_enter Try.func12, Try.ntmps12
  go_wp2_with fail
  refine (copied_any _ _ _ vs _ Hlen.out hn hl).mono ?_
  rintro e w1 ⟨v, rfl, hown, hb1⟩
  obtain ⟨C, cc, rfl⟩ : ∃ C cc, v = .slice C n cc := by
    rcases hown.2 with ⟨rfl, h⟩ | ⟨g, cap, cur, hv, _⟩
    · have e := hown.1
      rw [h] at e
      obtain rfl : n = 0 := by simp at e; omega
      exact ⟨_, _, rfl⟩
    · exact ⟨_, _, hv⟩
  have hc := Reads.of_own hown
  have hr1 := hr.below hb1
  have hz := hb1.size
  clear hown hl hr
  go_wp2_with fail
  go_loopw [6] (fun i wr => ∃ k q : Nat, k ≤ n ∧ i = .int .i64 k ∧ wr = w1.drewN q)
    (fun i _ => n - (intOf i).toNat)
  case atStart => exact ⟨0, 0, Nat.zero_le _, rfl, rfl⟩
  case round =>
    obtain ⟨k, q, hk, rfl, rfl⟩ := hrel
    by_cases hlt : k < n
    · obtain ⟨v, hv⟩ : ∃ v, vs[k]? = some v := ⟨_, List.getElem?_eq_getElem (by have := Hlen.out; omega)⟩
      obtain ⟨bl, off, hA, hbl, hcell⟩ := hr1.voice hv
      obtain ⟨bl', off', hA', hbl', hcell'⟩ := hc.voice hv
      subst hA hA'
      obtain ⟨r, a, p, d, b⟩ := v
      have c0 : w1.cell? ⟨bl, off + k * 5, none⟩ = some (.int .u32 r) := hcell 0 _ rfl
      have c1 := hcell 1 _ rfl
      have c2 := hcell 2 _ rfl
      have c3 := hcell 3 _ rfl
      have c4 := hcell 4 _ rfl
      have e0 : w1.cell? ⟨bl', off' + k * 5, none⟩ = some (.int .u32 r) := hcell' 0 _ rfl
      have e1 := hcell' 1 _ rfl
      have e2 := hcell' 2 _ rfl
      have e3 := hcell' 3 _ rfl
      have e4 := hcell' 4 _ rfl
      have hkn : (k : Int) < (n : Int) := by omega
      clear hcell hcell' hr1 hc hv
      go_wp2_with fail
      go_quiet (fail)
      go_wp2_with fail
      go_roundw
      case rel => exact ⟨k + 1, _, by omega, by go_num, rfl⟩
      case measure => simp [intOf]; omega
    · obtain rfl : k = n := by omega
      go_wp2_with fail
      go_ret
      exact ⟨rfl, below_drewN hb1 _⟩

end Go.Proofs.Ytepliggmcpkmdaa
