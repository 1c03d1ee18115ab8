/- A config is handed to the program. -/
import Derived.Test.YtgbmhijgpdgdbaaLpMxX
import Derived.Test.YtgbmhijgpdgdbaaLpMapU
import Derived.Deep.RegionLaw
import Derived.Laws.CopyOwn
import Derived.Laws.Tables
import Derived.Deep.RegionHeldLaw
set_option maxHeartbeats 4000000
set_option maxRecDepth 20000
namespace Go.Proofs.Ytgbmhijgpdgdbaa
open Go.RowKit
theorem peer_info : (Try.prog.info? 136).map (fun i => (i.zero, i.size, i.bytes)) = some (some (.agg #[.int .u32 0, .int .u8 0]), 2, 8) := by kernel_rfl
def LC.with (c : LC) (v : Value) : LC := { c with pe := v }
def GivenPost (c : LC) (L : List (Int × Int)) (w : World) (e : Ending) (w' : World) : Prop := ∃ v, e = .returned (.agg (c.with v).cells) ∧ w'.ownsRow w.heap.size 136 2 v L.length (L.flatMap pcells) ∧ Below w.heap.size w w'
theorem take_step {L : List (Int × Int)} {i : Nat} {p : Int × Int} (h : L[i]? = some p) : (L.take (i + 1)).flatMap pcells = (L.take i).flatMap pcells ++ [.int .u32 p.1, .int .u8 p.2] := by
  rw [List.take_add_one, h]
  simp [pcells]
theorem own_of_block {w w' : World} {base size n : Nat} {e : TypeId} {v : Value} {xs : List Value} (h : w.ownsRow base e size v n xs) (hb : ∀ g, v.ownBlock = some g → w'.heap[g]? = w.heap[g]?) : w'.ownsRow base e size v n xs := by
  refine ⟨h.1, ?_⟩
  rcases h.2 with h0 | ⟨g, cap, cur, rfl, hbg, hg, r⟩
  · exact .inl h0
  · exact .inr ⟨g, cap, cur, rfl, hbg, (hb g rfl).trans hg, r⟩
theorem own_far_typed {w : World} {base size n : Nat} {e t : TypeId} {v : Value} {xs : List Value} {B : Nat} {cs : Array Value} (h : w.ownsRow base e size v n xs) (k : Blk w B t cs) (hne : t ≠ e) : v.ownBlock ≠ some B := by
  rcases h.2 with ⟨rfl, _⟩ | ⟨g, cap, cur, rfl, _, hg, _⟩
  · simp [Value.ownBlock]
  · intro hh
    simp only [Value.ownBlock, Option.some.injEq] at hh
    subst hh
    unfold Blk at k
    rw [hg] at k
    cases k
    exact hne rfl
theorem given_any (w : World) (c : LC) (L : List (Int × Int)) (hL : PeersAt w w.heap.size c.pe L) (hn : L.length ≤ 200) : Calls Try.prog 32 #[.agg c.cells] w fun e w' => GivenPost c L w e w' := by
  obtain ⟨i0, hi, hz0, hz1, hz2⟩ := info_parts peer_info
  obtain ⟨A, cap, hpe, hr⟩ := hL
  have HR := Lib.hid hr
  have HPE := Lib.hid hpe
  clear hr hpe
  unfold LC.cells
  go_enter Try.func32, Try.ntmps32
  go_upto_region 1 with fail
  obtain ⟨W0, hW0⟩ : ∃ W0, W0 = (w.alloc (.cells c.cells 76)).alloc (.cells #[.int .u8 0, .int .u32 0, .int .u32 0, .int .u8 0, .int .u32 0, .int .u8 0, .int .u16 0, .int .u32 0, .int .u16 0, .int .u8 0, .bool false, .bool false, .slice none 0 0, .int .u32 0] 83) := ⟨_, rfl⟩
  have K0 : Hid (Blk W0 w.heap.size 76 c.cells) := Lib.hid (by rw [hW0]; exact (Blk.new w _ _).alloc _)
  have R0 : Hid (Blk W0 (w.heap.size + 1) 83 #[.int .u8 0, .int .u32 0, .int .u32 0, .int .u8 0, .int .u32 0, .int .u8 0, .int .u16 0, .int .u32 0, .int .u16 0, .int .u8 0, .bool false, .bool false, .slice none 0 0, .int .u32 0]) := Lib.hid (by rw [hW0]; have := Blk.new (w.alloc (.cells c.cells 76)) 83 #[.int .u8 0, .int .u32 0, .int .u32 0, .int .u8 0, .int .u32 0, .int .u8 0, .int .u16 0, .int .u32 0, .int .u16 0, .int .u8 0, .bool false, .bool false, .slice none 0 0, .int .u32 0]; rw [World.size_alloc] at this; exact this)
  have B0 : Hid (Below w.heap.size w W0) := Lib.hid (by rw [hW0]; exact ((Below.refl _ w).alloc (Nat.le_refl _) _).alloc (by simp) _)
  have hs0 : w.heap.size + 1 < W0.heap.size := R0.out.lt
  unfold LC.cells at hW0
  rw [← hW0]
  clear hW0
  have z0 : W0.cell? ⟨w.heap.size, 0, none⟩ = some (.int .u8 c.ty) := K0.out.cell 0
  have z1 : W0.cell? ⟨w.heap.size, 1, none⟩ = some (.int .u32 c.ro) := K0.out.cell 1
  have z2 : W0.cell? ⟨w.heap.size, 2, none⟩ = some (.int .u32 c.na) := K0.out.cell 2
  have z3 : W0.cell? ⟨w.heap.size, 3, none⟩ = some (.int .u8 c.nb) := K0.out.cell 3
  have z4 : W0.cell? ⟨w.heap.size, 4, none⟩ = some (.int .u32 c.ad) := K0.out.cell 4
  have z5 : W0.cell? ⟨w.heap.size, 5, none⟩ = some (.int .u8 c.op) := K0.out.cell 5
  have z6 : W0.cell? ⟨w.heap.size, 6, none⟩ = some (.int .u16 c.hi) := K0.out.cell 6
  have z7 : W0.cell? ⟨w.heap.size, 7, none⟩ = some (.int .u32 c.dd) := K0.out.cell 7
  have z8 : W0.cell? ⟨w.heap.size, 8, none⟩ = some (.int .u16 c.po) := K0.out.cell 8
  have z9 : W0.cell? ⟨w.heap.size, 9, none⟩ = some (.int .u8 c.pr) := K0.out.cell 9
  have z10 : W0.cell? ⟨w.heap.size, 10, none⟩ = some (.bool c.dm) := K0.out.cell 10
  have z11 : W0.cell? ⟨w.heap.size, 11, none⟩ = some (.bool c.ps) := K0.out.cell 11
  have z12 : W0.cell? ⟨w.heap.size, 12, none⟩ = some (c.pe) := K0.out.cell 12
  have z13 : W0.cell? ⟨w.heap.size, 13, none⟩ = some (.int .u32 c.rm) := K0.out.cell 13
  rw [HPE.out] at z12
  go_upto_region 2 with fail
  obtain ⟨X, hX⟩ : ∃ X, X = W0.heap.size := ⟨_, rfl⟩
  obtain ⟨W1, hW1⟩ : ∃ W1, W1 = W0.alloc (.cells (c.with (.slice none 0 0)).cells 83) := ⟨_, rfl⟩
  have K1 : Hid (Blk W1 w.heap.size 76 c.cells) := Lib.hid (by rw [hW1]; exact K0.out.alloc _)
  have R1 : Hid (Blk W1 (w.heap.size + 1) 83 #[.int .u8 0, .int .u32 0, .int .u32 0, .int .u8 0, .int .u32 0, .int .u8 0, .int .u16 0, .int .u32 0, .int .u16 0, .int .u8 0, .bool false, .bool false, .slice none 0 0, .int .u32 0]) := Lib.hid (by rw [hW1]; exact R0.out.alloc _)
  have X1 : Hid (Blk W1 X 83 (c.with (.slice none 0 0)).cells) := Lib.hid (by rw [hW1, hX]; exact Blk.new _ _ _)
  have B1 : Hid (Below w.heap.size w W1) := Lib.hid (by rw [hW1]; exact B0.out.alloc B0.out.size _)
  have hXw : w.heap.size + 1 < X := by omega
  unfold LC.cells LC.with at hW1
  dsimp only at hW1
  rw [← hW1, ← hX]
  clear hW1 hX z0 z1 z2 z3 z4 z5 z6 z7 z8 z9 z10 z11 z12 z13
  go_wp2_with fail
  go_loopw [4] (fun x wr => ∃ (i : Nat) (v : Value), i ≤ L.length ∧ x = .int .i64 i ∧ Blk wr w.heap.size 76 c.cells ∧ Blk wr (w.heap.size + 1) 83 #[.int .u8 0, .int .u32 0, .int .u32 0, .int .u8 0, .int .u32 0, .int .u8 0, .int .u16 0, .int .u32 0, .int .u16 0, .int .u8 0, .bool false, .bool false, .slice none 0 0, .int .u32 0] ∧ Blk wr X 83 (c.with v).cells ∧ wr.ownsRow w.heap.size 136 2 v i ((L.take i).flatMap pcells) ∧ Below w.heap.size w wr) (fun x _ => L.length - (intOf x).toNat)
  case atStart => exact ⟨0, _, Nat.zero_le _, rfl, K1.out, R1.out, X1.out, World.ownsRow_nil _ _ _ _, B1.out⟩
  case round =>
    obtain ⟨i, v, hil, rfl, hK, hR, hX, hown, hB⟩ := hrel
    obtain ⟨Av, cv, rfl⟩ := own_slice hown
    have HK := Lib.hid hK
    have HR2 := Lib.hid hR
    have HX := Lib.hid hX
    have HO := Lib.hid hown
    have HB := Lib.hid hB
    have x12 : wr.cell? ⟨X, 12, none⟩ = some (.slice Av i cv) := hX.cell 12
    have y12 : wr.cell? ⟨w.heap.size, 12, none⟩ = some (.slice A L.length cap) := (hK.cell 12).trans (congrArg some HPE.out)
    have fX := hX.frozen
    have hXl : X < wr.heap.size := hX.lt
    have hXs : w.heap.size < wr.heap.size := by omega
    clear hK hR hX hown hB
    by_cases hlt : i < L.length
    · obtain ⟨p, hp⟩ : ∃ p, L[i]? = some p := ⟨_, List.getElem?_eq_getElem hlt⟩
      obtain ⟨b, off, hA, hbB, ew1, ew2⟩ := HR.out.peer hp
      have HW1 := Lib.hid ew1
      have HW2 := Lib.hid ew2
      clear ew1 ew2
      subst hA
      have e1 : wr.cell? ⟨b, off + i * 2, none⟩ = some (.int .u32 p.1) := (HB.out.cell hbB).trans HW1.out
      have e2 : wr.cell? ⟨b, off + i * 2 + 1, none⟩ = some (.int .u8 p.2) := (HB.out.cell hbB).trans HW2.out
      have hs : ∀ W, Below w.heap.size w W → Blk W w.heap.size 76 c.cells → W.cell? ⟨w.heap.size, 12, none⟩ = some (.slice (some ⟨b, off, none⟩) L.length cap) ∧ W.cell? ⟨b, off + i * 2, none⟩ = some (.int .u32 p.1) ∧ W.cell? ⟨b, off + i * 2 + 1, none⟩ = some (.int .u8 p.2) := fun W hb hk => ⟨(hk.cell 12).trans (congrArg some HPE.out), (hb.cell (p := ⟨b, off + i * 2, none⟩) hbB).trans HW1.out, (hb.cell (p := ⟨b, off + i * 2 + 1, none⟩) hbB).trans HW2.out⟩
      have HS := Lib.hid hs
      clear hs
      have hbl : b < wr.heap.size := by omega
      have HLit := Lib.hid (Reads.of_own (World.ownsRow_lit (base := 0) (e := 136) (size := 2) wr #[.int .u32 p.1, .int .u8 p.2] 1 (Nat.zero_le _) (by simp [maxLen]) rfl))
      have hvX : some X ≠ (Value.slice Av i cv).ownBlock := fun e => own_far_typed HO.out HX.out (by decide) e.symm
      have hvK : some w.heap.size ≠ (Value.slice Av i cv).ownBlock := fun e => own_far_typed HO.out HK.out (by decide) e.symm
      have hvR : some (w.heap.size + 1) ≠ (Value.slice Av i cv).ownBlock := fun e => own_far_typed HO.out HR2.out (by decide) e.symm
      have HvX := Lib.hid hvX
      have HvK := Lib.hid hvK
      have HvR := Lib.hid hvR
      clear hvX hvK hvR
      go_wp2_with fail
      go_region_law (refine step_append_any _ rfl (.tmp 38) (.tmp 52) _ rfl w.heap.size 136 i0 _ 2 8 Try.underlying81 hi hz0 hz1 hz2 rfl (by omega) (.slice Av i cv) i ((L.take i).flatMap pcells) rfl (HO.out.alloc _) _ (some ⟨wr.heap.size, 0, none⟩) 1 1 [.int .u32 p.1, .int .u8 p.2] rfl HLit.out (by simp [Value.oneCell']) (by unfold maxLen; omega) (by omega) (by simp; omega) ?_; intro v1 w1 hown1 hg1 hat1; obtain ⟨A1, c1, hv1⟩ := own_slice hown1; subst hv1; have kX : Blk w1 X 83 (c.with (.slice Av i cv)).cells := (by first | exact (HX.out.drew.alloc _).grown hg1 HvX.out | exact (HX.out.alloc _).drew.grown hg1 HvX.out); have kK : Blk w1 w.heap.size 76 c.cells := (by first | exact (HK.out.drew.alloc _).grown hg1 HvK.out | exact (HK.out.alloc _).drew.grown hg1 HvK.out); have kR : Blk w1 (w.heap.size + 1) 83 #[.int .u8 0, .int .u32 0, .int .u32 0, .int .u8 0, .int .u32 0, .int .u8 0, .int .u16 0, .int .u32 0, .int .u16 0, .int .u8 0, .bool false, .bool false, .slice none 0 0, .int .u32 0] := (by first | exact (HR2.out.drew.alloc _).grown hg1 HvR.out | exact (HR2.out.alloc _).drew.grown hg1 HvR.out); have bB : Below w.heap.size w w1 := (by first | exact (HB.out.drew.alloc HB.out.size _).grown hg1 (by have := HB.out.size; simp; omega) (fun k hk => (HO.out.lt k hk).1) | exact (HB.out.alloc HB.out.size _).drew.grown hg1 (by have := HB.out.size; simp; omega) (fun k hk => (HO.out.lt k hk).1)); have x12b : w1.cell? ⟨X, 12, none⟩ = some (.slice Av i cv) := kX.cell 12; have fXb := kX.frozen; have HX1 := Lib.hid kX; have HK1 := Lib.hid kK; have HR1 := Lib.hid kR; have HB1 := Lib.hid bB; have HO1 := Lib.hid hown1; clear kX kK kR bB hown1 hg1 hat1)
      all_goals
        go_wp2_with fail
        refine ⟨⟨i + 1, .slice A1 (i + 1) c1, by omega, by simp, (HK1.out.far (by simp; omega) _), (HR1.out.far (by simp; omega) _), HX1.out.set_ 12 _, ?_, HB1.out.setCell (p := ⟨X, 12, none⟩) (by simp; omega) _⟩, ?_⟩
        · rw [take_step hp]
          exact own_far HO1.out (q := ⟨X, 12, none⟩) (own_far_typed HO1.out HX1.out (by decide)) _
        · simp [intOf]; omega
    · obtain rfl : i = L.length := by omega
      have x0 : wr.cell? ⟨X, 0, none⟩ = some (.int .u8 c.ty) := HX.out.cell 0
      have x1 : wr.cell? ⟨X, 1, none⟩ = some (.int .u32 c.ro) := HX.out.cell 1
      have x2 : wr.cell? ⟨X, 2, none⟩ = some (.int .u32 c.na) := HX.out.cell 2
      have x3 : wr.cell? ⟨X, 3, none⟩ = some (.int .u8 c.nb) := HX.out.cell 3
      have x4 : wr.cell? ⟨X, 4, none⟩ = some (.int .u32 c.ad) := HX.out.cell 4
      have x5 : wr.cell? ⟨X, 5, none⟩ = some (.int .u8 c.op) := HX.out.cell 5
      have x6 : wr.cell? ⟨X, 6, none⟩ = some (.int .u16 c.hi) := HX.out.cell 6
      have x7 : wr.cell? ⟨X, 7, none⟩ = some (.int .u32 c.dd) := HX.out.cell 7
      have x8 : wr.cell? ⟨X, 8, none⟩ = some (.int .u16 c.po) := HX.out.cell 8
      have x9 : wr.cell? ⟨X, 9, none⟩ = some (.int .u8 c.pr) := HX.out.cell 9
      have x10 : wr.cell? ⟨X, 10, none⟩ = some (.bool c.dm) := HX.out.cell 10
      have x11 : wr.cell? ⟨X, 11, none⟩ = some (.bool c.ps) := HX.out.cell 11
      have x13 : wr.cell? ⟨X, 13, none⟩ = some (.int .u32 c.rm) := HX.out.cell 13
      go_wp2_with (refine wpList_store_row rfl 83 (.tmp 2) (.tmp 55) rfl (w.heap.size + 1) (c.with (.slice Av L.length cv)).cells rfl rfl 83 _ HR2.out (by kernel_rfl) rfl (by simp [LC.cells, LC.with, Value.oneCell']) ?_)
      have kR : Blk (wr.setRow (w.heap.size + 1) (c.with (.slice Av L.length cv)).cells) (w.heap.size + 1) 83 (c.with (.slice Av L.length cv)).cells := setRow_heap _ _ _ _ _ _ HR2.out
      have u0 := kR.cell 0
      have u1 := kR.cell 1
      have u2 := kR.cell 2
      have u3 := kR.cell 3
      have u4 := kR.cell 4
      have u5 := kR.cell 5
      have u6 := kR.cell 6
      have u7 := kR.cell 7
      have u8 := kR.cell 8
      have u9 := kR.cell 9
      have u10 := kR.cell 10
      have u11 := kR.cell 11
      have u12 := kR.cell 12
      have u13 := kR.cell 13
      refine bodyPost_ret (v := .agg (c.with (.slice Av L.length cv)).cells) (by simp [results, Try.results32, go_sem, LC.with, LC.cells] at *; simp [*]) rfl ⟨_, rfl, ?_, ?_⟩
      · refine own_of_block (by have h := HO.out; rw [List.take_length] at h; exact h) fun g hg => ?_
        have hne : g ≠ w.heap.size + 1 := fun e => own_far_typed HO.out HR2.out (by decide) (by rw [hg, e])
        simp [World.setRow, Array.getElem?_modify, Ne.symm hne]
      · exact below_setRow HB.out (by omega) _
end Go.Proofs.Ytgbmhijgpdgdbaa
