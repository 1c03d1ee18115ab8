/- The iterator over neighbours none of whom is heard, asked for those that are: it gives nothing. -/
import Derived.Test.YtgbmhijgpdgdbaaRange
namespace Go.Proofs.Ytgbmhijgpdgdbaa
open Go.RowKit

set_option maxHeartbeats 400000 in
theorem hello1_any (w : World) (K : Nat) (st : Int) (h : w.cell? ⟨K, 2, none⟩ = some (.int .u8 st)) :
    Calls Try.prog 108 #[.pointer (some ⟨K, 0, none⟩)] w fun e w' => e = .returned (.bool (decide (2 ≤ st))) ∧ w = w' := by
  go_enter Try.func108, Try.ntmps108
  go_wp2_with fail
  go_ret
  exact ⟨by simp, rfl⟩

set_option maxHeartbeats 1000000 in
theorem all_none (W : World) (Bl Bi B L l n cap : Nat) (h1 : W.cell? ⟨Bl, 0, none⟩ = some (.pointer (some ⟨B, 0, none⟩))) (hi : W.cell? ⟨Bi, 0, none⟩ = some (.func (.func 108) #[] #[])) (h2 : W.cell? ⟨B, 22, none⟩ = some (.slice (some ⟨L, 0, none⟩) n cap)) (hn : n ≤ 100000)
    (hrow : ∀ i, i < n → ∃ K st, W.cell? ⟨L, i, none⟩ = some (.pointer (some ⟨K, 0, none⟩)) ∧ W.cell? ⟨K, 2, none⟩ = some (.int .u8 st) ∧ st < 2) :
    Calls Try.prog 124 #[.func (.yield l) #[] #[], .pointer (some ⟨Bl, 0, none⟩), .pointer (some ⟨Bi, 0, none⟩)] W fun e W' => (∃ v, e = .returned v) ∧ W = W' := by
  have HRow := Lib.hid hrow
  clear hrow
  go_enter Try.func124, Try.ntmps124
  go_wp2_with fail
  go_loopw [11] (fun x wr => ∃ i : Nat, i ≤ n ∧ x = .int .i64 i ∧ wr = W) (fun x _ => n - (intOf x).toNat)
  case atStart => exact ⟨0, Nat.zero_le _, rfl, rfl⟩
  case round =>
    obtain ⟨i, hin, rfl, rfl⟩ := hrel
    by_cases hlt : i < n
    · obtain ⟨K, st, k1, k2, hst⟩ := HRow.out i hlt
      have hdec : decide (2 ≤ st) = false := decide_eq_false (by omega)
      go_wp2_with (go_at_call 108; refine (hello1_any _ K st k2).mono ?_; rintro e w' ⟨rfl, rfl⟩; rw [hdec])
      go_roundw
      case rel => exact ⟨i + 1, by omega, by simp, trivial⟩
      case measure => simp [intOf]; omega
    · obtain rfl : i = n := by omega
      go_wp2_with fail
      refine bodyPost_end (v := .tuple #[]) (by simp [results, Try.results124, go_sem]) rfl ⟨⟨_, rfl⟩, rfl⟩
end Go.Proofs.Ytgbmhijgpdgdbaa
