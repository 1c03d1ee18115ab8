/- The statements' copy of the voices, for the program. -/
import Derived.Test.YtepliggmcpkmdaaAhead
import Derived.Test.YtepliggmcpkmdaaAppend
import Derived.Deep.RegionHeld3
import Derived.Deep.AppendLies
import Derived.StillTactics
namespace Go.Proofs.Ytepliggmcpkmdaa
open Go.RowKit

theorem take_flat {vs : List El.V} {k : Nat} {v : El.V} (hv : vs[k]? = some v) : (vs.take (k + 1)).flatMap cells = (vs.take k).flatMap cells ++ cells v := by
  rw [take_snoc' hv, List.flatMap_append]; simp

theorem voice_info : (Try.prog.info? 35).map (fun i => (i.zero, i.size, i.bytes)) = some (some (.agg #[.int .u32 0, .int .u32 0, .int .u8 0, .int .u32 0, .int .u32 0]), 5, 20) := by kernel_rfl

set_option maxHeartbeats 1000000 in
theorem copied_any (A : Option Addr) (n cp : Nat) (vs : List El.V) (w : World) (hlen : vs.length = n) (hn : n ≤ 65536) (hr : Reads w w.heap.size 5 A n (vs.flatMap cells)) :
    Calls Try.prog 9 #[.slice A n cp] w fun e w' => ∃ v, e = .returned v ∧ w'.ownsRow w.heap.size 35 5 v n (vs.flatMap cells) ∧ Below w.heap.size w w' := by
  obtain ⟨i0, hi, hz0, hz1, hz2⟩ := info_parts voice_info
  have Hlen := Lib.hid hlen
  clear hlen
  go_enter Try.func9, Try.ntmps9
  go_wp2
  go_loopw [3, 4] (fun v i wr => ∃ k : Nat, k ≤ n ∧ i = .int .i64 k ∧ wr.ownsRow w.heap.size 35 5 v k ((vs.take k).flatMap cells) ∧ Below w.heap.size w wr)
    (fun _ i _ => n - (intOf i).toNat)
  case atStart => exact ⟨0, Nat.zero_le _, rfl, World.ownsRow_nil _ _ _ _, Below.refl _ _⟩
  case round =>
    obtain ⟨k, hk, rfl, hown, hbel⟩ := hrel
    by_cases hlt : k < n
    · obtain ⟨v, hv⟩ : ∃ v, vs[k]? = some v := ⟨_, List.getElem?_eq_getElem (by have := Hlen.out; omega)⟩
      obtain ⟨bl, off, hA, hbl, hcell⟩ := (hr.below hbel).voice hv
      subst hA
      obtain ⟨r, a, p, d, b⟩ := v
      have c0 : wr.cell? ⟨bl, off + k * 5, none⟩ = some (.int .u32 r) := hcell 0 _ rfl
      have c1 := hcell 1 _ rfl
      have c2 := hcell 2 _ rfl
      have c3 := hcell 3 _ rfl
      have c4 := hcell 4 _ rfl
      have Hv := Lib.hid hv
      have hkn : (k : Int) < (n : Int) := by omega
      clear hcell hr hv
      have hsz := hbel.size
      have hob : u3.ownBlock ≠ some bl := fun e => by
        have := (hown.lt _ e).1
        omega
      go_wp2_with fail
      go_region_held3 (fun w' => w'.cell? ⟨bl, off + k * 5, none⟩ = some (.int .u32 r) ∧ w'.cell? ⟨bl, off + k * 5 + 1, none⟩ = some (.int .u32 a) ∧ w'.cell? ⟨bl, off + k * 5 + 2, none⟩ = some (.int .u8 p) ∧
          w'.cell? ⟨bl, off + k * 5 + 3, none⟩ = some (.int .u32 d) ∧ w'.cell? ⟨bl, off + k * 5 + 4, none⟩ = some (.int .u32 b))
        (first
          | go_keep
          | (go_split_ands
             refine ⟨?_, ?_, ?_, ?_, ?_⟩
             · (rw [hgrow.cell_far _ (by simp; omega) (Ne.symm hob)]; assumption)
             · (rw [hgrow.cell_far _ (by simp; omega) (Ne.symm hob)]; assumption)
             · (rw [hgrow.cell_far _ (by simp; omega) (Ne.symm hob)]; assumption)
             · (rw [hgrow.cell_far _ (by simp; omega) (Ne.symm hob)]; assumption)
             · (rw [hgrow.cell_far _ (by simp; omega) (Ne.symm hob)]; assumption)))
        ((refine step_append_lies _ (by rfl) _ _ _ (by rfl) w.heap.size 35 i0 _ 5 20 Try.underlying24 hi hz0 hz1 hz2 rfl (by omega) u3 k ((vs.take k).flatMap cells) (by rfl) ((hown.alloc _).drew)
            ⟨wr.heap.size, 0, none⟩ 1 1 (cells ⟨r, a, p, d, b⟩) (by rfl) (by rfl) (World.news_of_block (cs := (cells ⟨r, a, p, d, b⟩).toArray) (t := 35) (fr := (0, 0)) (heap_alloc_new wr _)) (by simp [cells, Value.oneCell'])
            (by omega) (by unfold maxLen; omega) (by omega) (by simp; omega) (wr.heap.size + 1) (by simp) ?_; intro gg cap w1 hown1 hgrow hat hlt))
      all_goals
        go_wp2
        go_roundw
        case rel => exact ⟨k + 1, by omega, by go_num, by rw [take_flat Hv.out]; exact hown1, ((hbel.alloc hsz _).drew).grown hgrow (by simp; omega) (fun g hg => (hown.lt g hg).1)⟩
        case measure => simp [intOf]; omega
    · obtain rfl : k = n := by omega
      have hfin : vs.take k = vs := List.take_of_length_le (by have := Hlen.out; omega)
      rw [hfin] at hown
      clear hfin
      go_wp2
      go_ret
      exact ⟨u3, rfl, hown, hbel⟩

end Go.Proofs.Ytepliggmcpkmdaa
