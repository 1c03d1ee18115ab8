/- The statement ElectOnce: the program's Once answers as the reference's; the voices stay. Walk of the statement itself. -/
import Derived.Test.YtepliggmcpkmdaaWorks
namespace Go.Proofs.Ytepliggmcpkmdaa
open Go.RowKit

/-- What 'copied' hands back, as a slice. -/
theorem own_slice {w : World} {base e : Nat} {v : Value} {n : Nat} {vs : List El.V} (h : w.ownsRow base e 5 v n (vs.flatMap cells)) : ∃ C cc, v = .slice C n cc := by
  rcases h.2 with ⟨rfl, h0⟩ | ⟨g, cap, cur, hv, _⟩
  · have e := h.1
    rw [h0] at e
    obtain rfl : n = 0 := by simp at e; omega
    exact ⟨_, _, rfl⟩
  · exact ⟨_, _, hv⟩

set_option maxHeartbeats 1000000 in
theorem lawOnce_any (A : Option Addr) (n cp : Nat) (vs : List El.V) (w : World) (hlen : vs.length = n) (hm : n ≤ maxLen) (hr : Reads w w.heap.size 5 A n (vs.flatMap cells)) :
    Calls Try.prog 3 #[.slice A n cp] w fun e w' => e = .returned (.bool true) ∧ Below w.heap.size w w' := by
  have Hlen := Lib.hid hlen
  clear hlen
  unfold maxLen at hm
  by_cases h300 : (300 : Int) < (n : Int)
  · go_enter Try.func3, Try.ntmps3
    go_wp2_with (go_at_call 8; refine (works_any _).mono ?_; rintro e w1 ⟨rfl, hb1⟩)
    go_ret
    exact ⟨rfl, hb1⟩
  · have hn : n ≤ 300 := by omega
    go_enter Try.func3, Try.ntmps3
    go_wp2_with fail
    refine (copied_any _ _ _ vs _ Hlen.out (by omega) hr).mono ?_
    rintro e w1 ⟨v, rfl, hown, hb1⟩
    obtain ⟨C, cc, rfl⟩ := own_slice hown
    have hc1 := Lib.hid (Reads.of_own hown)
    have hr1 := Lib.hid (hr.onto hb1)
    clear hown hr
    go_wp2_with fail
    refine (once_any _ _ _ vs _ Hlen.out (by omega) hc1.out).mono ?_
    rintro e w2 ⟨rfl, hb2⟩
    have hb2' := hb1.trans (hb2.mono hb1.size)
    have hr2 := Lib.hid (hr1.out.onto hb2)
    have hc2 := Lib.hid (hc1.out.onto hb2)
    clear hr1 hc1
    go_wp2_with fail
    refine (ronce_any _ _ _ vs _ Hlen.out (by omega) hr2.out).mono ?_
    rintro e w3 ⟨rfl, hb3⟩
    have hb3' := hb2'.trans (hb3.mono hb2'.size)
    have hr3 := Lib.hid (hr2.out.onto hb3)
    have hc3 := Lib.hid (hc2.out.onto hb3)
    clear hr2 hc2
    go_wp2_with fail
    refine (same_any _ _ _ _ _ vs _ Hlen.out (by omega) hc3.out hr3.out).mono ?_
    rintro e w4 ⟨rfl, hb4⟩
    have hb4' := hb3'.trans (hb4.mono hb3'.size)
    go_wp2_with fail
    refine (works_any _).mono ?_
    rintro e w5 ⟨rfl, hb5⟩
    go_wp2_with fail
    go_ret
    exact ⟨rfl, hb4'.trans (hb5.mono hb4'.size)⟩

end Go.Proofs.Ytepliggmcpkmdaa
