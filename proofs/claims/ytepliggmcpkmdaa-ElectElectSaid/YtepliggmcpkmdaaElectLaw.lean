/- The statement ElectElect, walked. -/
import Derived.Test.YtepliggmcpkmdaaOnceLaw
namespace Go.Proofs.Ytepliggmcpkmdaa
open Go.RowKit

set_option maxHeartbeats 2000000 in
theorem lawElect_any (r a p d b : Int) (A : Option Addr) (n cp : Nat) (vs : List El.V) (w : World) (hlen : vs.length = n) (hm : n ≤ maxLen) (hr : Reads w w.heap.size 5 A n (vs.flatMap cells)) :
    Calls Try.prog 4 #[.agg #[.int .u32 r, .int .u32 a, .int .u8 p, .int .u32 d, .int .u32 b], .slice A n cp] w fun e w' => e = .returned (.bool true) ∧ Below w.heap.size w w' := by
  have Hlen := Lib.hid hlen
  clear hlen
  unfold maxLen at hm
  by_cases h300 : (300 : Int) < (n : Int)
  · go_enter Try.func4, Try.ntmps4
    go_wp2_with (go_at_call 8; refine (works_any _).mono ?_; rintro e w1 ⟨rfl, hb1⟩)
    go_ret
    exact ⟨rfl, ((Below.refl _ _).alloc (Nat.le_refl _) _).trans (hb1.mono (by simp))⟩
  · have hn : n ≤ 300 := by omega
    have hb0 := (Below.refl w.heap.size w).alloc (Nat.le_refl _) (.cells (cells ⟨r, a, p, d, b⟩).toArray 33)
    go_enter Try.func4, Try.ntmps4
    go_wp2_with fail
    refine (copied_any _ _ _ vs _ Hlen.out (by omega) ((hr.below hb0).more hb0.size)).mono ?_
    rintro e w1 ⟨v, rfl, hown, hb1⟩
    obtain ⟨C, cc, rfl⟩ := own_slice hown
    have hbA := hb0.trans (hb1.mono hb0.size)
    have hS := (Blk.new w 33 (cells ⟨r, a, p, d, b⟩).toArray).below hb1 (by simp)
    have hzS := hS.lt
    have hc1 := Lib.hid (Reads.of_own hown)
    have hr1 := Lib.hid ((hr.below hbA).more hbA.size)
    clear hown hr
    have s0 : w1.cell? ⟨w.heap.size, 0, none⟩ = some (.int .u32 r) := hS.cell 0
    have s1 : w1.cell? ⟨w.heap.size, 1, none⟩ = some (.int .u32 a) := hS.cell 1
    have s2 : w1.cell? ⟨w.heap.size, 2, none⟩ = some (.int .u8 p) := hS.cell 2
    have s3 : w1.cell? ⟨w.heap.size, 3, none⟩ = some (.int .u32 d) := hS.cell 3
    have s4 : w1.cell? ⟨w.heap.size, 4, none⟩ = some (.int .u32 b) := hS.cell 4
    go_wp2_with fail
    -- the router itself, copied in a row of one
    refine (copied_any _ 1 _ [⟨r, a, p, d, b⟩] _ rfl (by omega) ((Reads.new w1 33 [⟨r, a, p, d, b⟩]).more (by simp))).mono ?_
    rintro e w2 ⟨v, rfl, hown, hb2⟩
    obtain ⟨g, cap, hv, hgb, hglt⟩ := hown.form (by omega)
    subst hv
    have hbB := (hbA.alloc hbA.size (.cells (cells ⟨r, a, p, d, b⟩).toArray 33)).trans (hb2.mono (by have := hbA.size; simp; omega))
    have k0 : w2.cell? ⟨g, 0, none⟩ = some (.int .u32 r) := hown.cellAt 0 (by omega)
    have k1 : w2.cell? ⟨g, 1, none⟩ = some (.int .u32 a) := hown.cellAt 1 (by omega)
    have k2 : w2.cell? ⟨g, 2, none⟩ = some (.int .u8 p) := hown.cellAt 2 (by omega)
    have k3 : w2.cell? ⟨g, 3, none⟩ = some (.int .u32 d) := hown.cellAt 3 (by omega)
    have k4 : w2.cell? ⟨g, 4, none⟩ = some (.int .u32 b) := hown.cellAt 4 (by omega)
    have hw12 : Below w1.heap.size w1 w2 := ((Below.refl w1.heap.size w1).alloc (Nat.le_refl _) (.cells (cells ⟨r, a, p, d, b⟩).toArray 33)).trans (hb2.mono (by simp))
    have hS2 := hS.below hw12 hzS
    have hc2 := Lib.hid (hc1.out.onto hw12)
    have hr2 := Lib.hid (hr1.out.onto hw12)
    clear hown hc1 hr1 s0 s1 s2 s3 s4
    go_wp2_with fail
    refine (elect_any _ _ _ _ _ _ _ _ vs _ Hlen.out (by omega) hc2.out).mono ?_
    rintro e w3 ⟨rfl, hb3⟩
    have hbC := hbB.trans (hb3.mono hbB.size)
    have hS3 := hS2.below hb3 hS2.lt
    have hc3 := Lib.hid (hc2.out.onto hb3)
    have hr3 := Lib.hid (hr2.out.onto hb3)
    have s0 : w3.cell? ⟨w.heap.size, 0, none⟩ = some (.int .u32 r) := hS3.cell 0
    have s1 : w3.cell? ⟨w.heap.size, 1, none⟩ = some (.int .u32 a) := hS3.cell 1
    have s2 : w3.cell? ⟨w.heap.size, 2, none⟩ = some (.int .u8 p) := hS3.cell 2
    have s3 : w3.cell? ⟨w.heap.size, 3, none⟩ = some (.int .u32 d) := hS3.cell 3
    have s4 : w3.cell? ⟨w.heap.size, 4, none⟩ = some (.int .u32 b) := hS3.cell 4
    clear hc2 hr2 k0 k1 k2 k3 k4
    go_wp2_with fail
    refine (relect_any _ _ _ _ _ _ _ _ vs _ Hlen.out (by omega) hr3.out).mono ?_
    rintro e w4 ⟨rfl, hb4⟩
    have hbD := hbC.trans (hb4.mono hbC.size)
    have hr4 := Lib.hid (hr3.out.onto hb4)
    have hc4 := Lib.hid (hc3.out.onto hb4)
    clear hr3 hc3 s0 s1 s2 s3 s4
    go_wp2_with fail
    refine (same_any _ _ _ _ _ vs _ Hlen.out (by omega) hc4.out hr4.out).mono ?_
    rintro e w5 ⟨rfl, hb5⟩
    have hbE := hbD.trans (hb5.mono hbD.size)
    go_wp2_with fail
    refine (works_any _).mono ?_
    rintro e w6 ⟨rfl, hb6⟩
    go_wp2_with fail
    go_ret
    exact ⟨rfl, hbE.trans (hb6.mono hbE.size)⟩

end Go.Proofs.Ytepliggmcpkmdaa
