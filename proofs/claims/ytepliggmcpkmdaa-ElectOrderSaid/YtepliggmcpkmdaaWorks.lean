/- The statements' 'works': two routers. -/
import Derived.Test.YtepliggmcpkmdaaSame
namespace Go.Proofs.Ytepliggmcpkmdaa
open Go.RowKit

theorem works_elect : El.elect ⟨2, 12, 1, 0, 0⟩ [⟨1, 11, 1, 0, 0⟩] = (12, 11) := by decide
theorem works_once : El.once [⟨1, 11, 1, 0, 0⟩, ⟨2, 12, 1, 0, 0⟩] = (12, 12) := by decide

/-- A row of voices in a new block. -/
theorem Reads.new (w : World) (t : TypeId) (vs : List El.V) : Reads (w.alloc (.cells (vs.flatMap cells).toArray t)) (w.heap.size + 1) 5 (some ⟨w.heap.size, 0, none⟩) vs.length (vs.flatMap cells) := by
  refine ⟨flat_length vs, fun _ => ⟨⟨w.heap.size, 0, none⟩, rfl, by simp, fun j u hu => ?_⟩⟩
  have e : (⟨w.heap.size, 0, none⟩ : Addr).add j = ⟨w.heap.size, j, none⟩ := by
    unfold Addr.add; split
    · rename_i h0; rw [h0]
    · simp
  rw [e, (Blk.new w t _).cell j]
  simpa using hu

set_option maxHeartbeats 1000000 in
theorem works_any (w : World) : Calls Try.prog 8 #[] w fun e w' => e = .returned (.bool true) ∧ Below w.heap.size w w' := by
  go_enter Try.func8, Try.ntmps8
  go_wp2_with fail
  have hr := Reads.new ((w.alloc (.cells (cells ⟨1, 11, 1, 0, 0⟩).toArray 35)).alloc (.cells (cells ⟨2, 12, 1, 0, 0⟩).toArray 35)) 35 [⟨1, 11, 1, 0, 0⟩]
  rw [World.size_alloc, World.size_alloc] at hr
  refine (elect_any _ _ _ _ _ _ _ _ [⟨1, 11, 1, 0, 0⟩] _ rfl (by decide) (hr.more (by simp))).mono ?_
  rw [works_elect]
  rintro e w1 ⟨rfl, hb1⟩
  have hb0 : Below w.heap.size w (((w.alloc (.cells (cells ⟨1, 11, 1, 0, 0⟩).toArray 35)).alloc (.cells (cells ⟨2, 12, 1, 0, 0⟩).toArray 35)).alloc (.cells (cells ⟨1, 11, 1, 0, 0⟩).toArray 35)) :=
    (((Below.refl _ w).alloc (Nat.le_refl _) _).alloc (by simp) _).alloc (by simp; omega) _
  have hbA := hb0.trans (hb1.mono (by simp; omega))
  have hz1 : w.heap.size + 1 + 1 + 1 ≤ w1.heap.size := by have := hb1.size; simpa using this
  have hA : Blk w1 w.heap.size 35 (cells ⟨1, 11, 1, 0, 0⟩).toArray := (((Blk.new w 35 _).alloc _).alloc _).below hb1 (by simp; omega)
  have hB : Blk w1 (w.heap.size + 1) 35 (cells ⟨2, 12, 1, 0, 0⟩).toArray := by
    have := ((Blk.new (w.alloc (.cells (cells ⟨1, 11, 1, 0, 0⟩).toArray 35)) 35 (cells ⟨2, 12, 1, 0, 0⟩).toArray).alloc (.cells (cells ⟨1, 11, 1, 0, 0⟩).toArray 35)).below hb1 (by simp)
    rw [World.size_alloc] at this
    exact this
  have a0 : w1.cell? ⟨w.heap.size, 0, none⟩ = some (.int .u32 1) := hA.cell 0
  have a1 : w1.cell? ⟨w.heap.size, 1, none⟩ = some (.int .u32 11) := hA.cell 1
  have a2 : w1.cell? ⟨w.heap.size, 2, none⟩ = some (.int .u8 1) := hA.cell 2
  have a3 : w1.cell? ⟨w.heap.size, 3, none⟩ = some (.int .u32 0) := hA.cell 3
  have a4 : w1.cell? ⟨w.heap.size, 4, none⟩ = some (.int .u32 0) := hA.cell 4
  have b0 : w1.cell? ⟨w.heap.size + 1, 0, none⟩ = some (.int .u32 2) := hB.cell 0
  have b1 : w1.cell? ⟨w.heap.size + 1, 1, none⟩ = some (.int .u32 12) := hB.cell 1
  have b2 : w1.cell? ⟨w.heap.size + 1, 2, none⟩ = some (.int .u8 1) := hB.cell 2
  have b3 : w1.cell? ⟨w.heap.size + 1, 3, none⟩ = some (.int .u32 0) := hB.cell 3
  have b4 : w1.cell? ⟨w.heap.size + 1, 4, none⟩ = some (.int .u32 0) := hB.cell 4
  go_wp2_with fail
  refine (once_any _ _ _ [⟨1, 11, 1, 0, 0⟩, ⟨2, 12, 1, 0, 0⟩] _ rfl (by decide) ((Reads.new w1 35 [⟨1, 11, 1, 0, 0⟩, ⟨2, 12, 1, 0, 0⟩]).more (by simp))).mono ?_
  rw [works_once]
  rintro e w2 ⟨rfl, hb2⟩
  have hbC := (hbA.alloc hbA.size _).trans (hb2.mono (by simp; omega))
  go_wp2_with fail
  go_ret
  exact ⟨rfl, hbC⟩

end Go.Proofs.Ytepliggmcpkmdaa
