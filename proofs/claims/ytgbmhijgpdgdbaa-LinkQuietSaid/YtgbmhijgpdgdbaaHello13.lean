/- The link of 'works', up: what its small methods answer; hello; a round. -/
import Derived.Test.YtgbmhijgpdgdbaaRange
import Derived.Test.YtgbmhijgpdgdbaaNew13
namespace Go.Proofs.Ytgbmhijgpdgdbaa
open Go.RowKit

/-- The link of 'works' in a state, its times, its neighbours. -/
def lk (st wt nx : Int) (l : Value) : Array Value := #[.bool true, .int .u8 0, .int .u32 1, .int .u32 167772160, .int .u8 24, .int .u32 167772161, .int .u8 2, .int .u16 10, .int .u32 40, .int .u16 0, .int .u8 1, .bool false, .bool false, .slice none 0 0, .int .u32 0, .int .u8 st, .int .u32 0, .int .u32 0, .int .u32 wt, .int .u32 nx, .int .u32 0, .int .u32 0, l]
theorem lnew_lk : lnew = lk 0 0 0 (.slice none 0 0) := rfl

theorem none_lk (w : World) (B : Nat) (cs : Array Value) (k : Blk w B 119 cs) (h0 : cs[0]? = some (.bool true)) : Calls Try.prog 67 #[.pointer (some ⟨B, 0, none⟩)] w fun e w' => e = .returned (.bool false) ∧ w = w' := by
  have c0 : w.cell? ⟨B, 0, none⟩ = some (.bool true) := (k.cell 0).trans h0
  go_enter Try.func67, Try.ntmps67
  go_wp2
  go_ret
  exact ⟨rfl, rfl⟩

set_option maxHeartbeats 400000 in
theorem mask_lk (w : World) (B : Nat) (cs : Array Value) (k : Blk w B 119 cs) (h1 : cs[1]? = some (.int .u8 0)) (h4 : cs[4]? = some (.int .u8 24)) : Calls Try.prog 107 #[.pointer (some ⟨B, 0, none⟩)] w fun e w' => e = .returned (.int .u32 4294967040) ∧ w = w' := by
  have c1 : w.cell? ⟨B, 1, none⟩ = some (.int .u8 0) := (k.cell 1).trans h1
  have c4 : w.cell? ⟨B, 4, none⟩ = some (.int .u8 24) := (k.cell 4).trans h4
  clear k
  go_enter Try.func107, Try.ntmps107
  go_wp2_with (go_at_call 102; refine (mask24 _).mono ?_; rintro e w' ⟨rfl, rfl⟩)
  go_ret
  exact ⟨rfl, rfl⟩

theorem set8r {w w0 : World} {b N : Nat} {t : TypeId} {z0 z1 z2 z3 z4 z5 z6 z7 v0 v1 v2 v3 v4 v5 v6 v7 : Value} (h : Blk w b t #[z0, z1, z2, z3, z4, z5, z6, z7]) (hb : Below N w0 w) (hN : N ≤ b) :
    Blk ((((((((w.setCell ⟨b, 0, none⟩ v0).setCell ⟨b, 1, none⟩ v1).setCell ⟨b, 2, none⟩ v2).setCell ⟨b, 3, none⟩ v3).setCell ⟨b, 4, none⟩ v4).setCell ⟨b, 5, none⟩ v5).setCell ⟨b, 6, none⟩ v6).setCell ⟨b, 7, none⟩ v7) b t #[v0, v1, v2, v3, v4, v5, v6, v7] ∧ Below N w0 ((((((((w.setCell ⟨b, 0, none⟩ v0).setCell ⟨b, 1, none⟩ v1).setCell ⟨b, 2, none⟩ v2).setCell ⟨b, 3, none⟩ v3).setCell ⟨b, 4, none⟩ v4).setCell ⟨b, 5, none⟩ v5).setCell ⟨b, 6, none⟩ v6).setCell ⟨b, 7, none⟩ v7) := by
  constructor
  · have k0 := h.set_ 0 v0
    have k1 := k0.set_ 1 v1
    have k2 := k1.set_ 2 v2
    have k3 := k2.set_ 3 v3
    have k4 := k3.set_ 4 v4
    have k5 := k4.set_ 5 v5
    have k6 := k5.set_ 6 v6
    have k7 := k6.set_ 7 v7
    simpa using k7
  · exact (((((((hb.setCell hN _).setCell hN _).setCell hN _).setCell hN _).setCell hN _).setCell hN _).setCell hN _).setCell hN _

theorem heap_far {W : World} {D b : Nat} (i : Nat) (u : Value) (h : b < D) : (W.setCell ⟨b, i, none⟩ u).heap[D]? = W.heap[D]? := Below.heap_setCell W ⟨b, i, none⟩ u D (by simp; omega)
theorem below_put {N D : Nat} {W : World} {o o' : Obj} (h : W.heap[D]? = some o) (hN : N ≤ D) : Below N W (W.putObj D o') := by
  have hl := (Array.getElem?_eq_some_iff.1 h).1
  exact (Below.refl N W).grown (grownBy_putObj' W D o') (by omega) (fun k e => by cases e; omega)

def hv13 : Value := .agg #[.int .u32 4294967040, .int .u16 10, .int .u8 2, .int .u8 1, .int .u32 40, .int .u32 0, .int .u32 0, .slice none 0 0]

set_option maxHeartbeats 2000000 in
set_option maxRecDepth 20000 in
theorem hello_lk (w : World) (B : Nat) (st wt nx : Int) (k : Blk w B 119 (lk st wt nx (.slice none 0 0))) :
    Calls Try.prog 74 #[.pointer (some ⟨B, 0, none⟩)] w fun e w' => e = .returned hv13 ∧ Below w.heap.size w w' := by
  have K := Lib.hid k
  have c1 : w.cell? ⟨B, 1, none⟩ = some (.int .u8 0) := k.cell 1
  have c4 : w.cell? ⟨B, 4, none⟩ = some (.int .u8 24) := k.cell 4
  have c6 : w.cell? ⟨B, 6, none⟩ = some (.int .u8 2) := k.cell 6
  have c7 : w.cell? ⟨B, 7, none⟩ = some (.int .u16 10) := k.cell 7
  have c8 : w.cell? ⟨B, 8, none⟩ = some (.int .u32 40) := k.cell 8
  have c10 : w.cell? ⟨B, 10, none⟩ = some (.int .u8 1) := k.cell 10
  have c11 : w.cell? ⟨B, 11, none⟩ = some (.bool false) := k.cell 11
  have c16 : w.cell? ⟨B, 16, none⟩ = some (.int .u32 0) := k.cell 16
  have c17 : w.cell? ⟨B, 17, none⟩ = some (.int .u32 0) := k.cell 17
  have hlt : B < w.heap.size := k.lt
  clear k
  refine (callsIn_wide (n := 3)).1 ?_
  refine callsIn_of_wp_marks Try.func74 rfl trivial ?_ rfl
  rw [wpIn_wide]
  simp only [Try.ntmps74, List.size_toArray, List.length_cons, List.length_nil, Nat.reduceAdd, Nat.reduceSub, Array.replicate_succ, Array.replicate_zero, List.push_toArray, List.append_toArray, List.nil_append, List.cons_append]
  go_wp2_with fail
  go_cut [3] from 5 to 35 (fun p3 wx => ∃ H : Nat, p3 = .pointer (some ⟨H, 0, none⟩) ∧ Blk wx H 90 #[.int .u32 4294967040, .int .u16 10, .int .u8 2, .int .u8 1, .int .u32 40, .int .u32 0, .int .u32 0, .slice none 0 0] ∧ w.heap.size < H ∧ Below (w.heap.size + 1) (w.alloc (.cells #[.int .u32 0, .int .u16 0, .int .u8 0, .int .u8 0, .int .u32 0, .int .u32 0, .int .u32 0, .slice none 0 0] 90)) wx)
  case first =>
    go_region_held3 (fun w' => w'.cell? ⟨B, 1, none⟩ = some (.int .u8 0) ∧ w'.cell? ⟨B, 4, none⟩ = some (.int .u8 24) ∧ w'.cell? ⟨B, 6, none⟩ = some (.int .u8 2) ∧ w'.cell? ⟨B, 7, none⟩ = some (.int .u16 10) ∧ w'.cell? ⟨B, 8, none⟩ = some (.int .u32 40) ∧ w'.cell? ⟨B, 10, none⟩ = some (.int .u8 1) ∧ w'.cell? ⟨B, 16, none⟩ = some (.int .u32 0) ∧ w'.cell? ⟨B, 17, none⟩ = some (.int .u32 0))
      (go_keep)
      ((go_at_call 107; refine (mask_lk _ _ (lk st wt nx (.slice none 0 0)) (by first | with_reducible exact (K.out.alloc _).drew | with_reducible exact ((K.out.alloc _).alloc _).drew) rfl rfl).mono ?_; rintro e w' ⟨rfl, rfl⟩))
    all_goals clear c1 c4 c6 c7 c8 c10 c16 c17
    all_goals
      go_wp2_with fail
      go_meet
      case rel =>
        refine ⟨_, rfl, ?_, by omega, ?_⟩
        · have := (Blk.new (w.alloc (.cells #[.int .u32 0, .int .u16 0, .int .u8 0, .int .u8 0, .int .u32 0, .int .u32 0, .int .u32 0, .slice none 0 0] 90)) 90 #[.int .u32 4294967040, .int .u16 10, .int .u8 2, .int .u8 1, .int .u32 40, .int .u32 0, .int .u32 0, .slice none 0 0]).drew
          rw [World.size_alloc] at this
          exact this
        · exact ((Below.refl _ _).alloc (by simp) _).drew
  obtain ⟨H, rfl, hH, hHl, hb⟩ := hcut
  have hbw : Below w.heap.size w wc := ((Below.refl _ w).alloc (Nat.le_refl _) _).trans (hb.mono (by omega))
  have kL := K.out.below hbw hlt
  have d11 : wc.cell? ⟨B, 11, none⟩ = some (.bool false) := kL.cell 11
  have HbW := Lib.hid hbw
  have KR := Lib.hid ((Blk.new w 90 #[.int .u32 0, .int .u16 0, .int .u8 0, .int .u8 0, .int .u32 0, .int .u32 0, .int .u32 0, .slice none 0 0]).below hb (by omega))
  have KL := Lib.hid kL
  have KH := Lib.hid hH
  have hsz : w.heap.size ≤ wc.heap.size := hbw.size
  clear c1 c4 c6 c7 c8 c10 c11 c16 c17 hbw kL hH
  go_wp2_with fail
  refine (all_made _ _ _ ⟨_, rfl⟩ ⟨_, _, _, rfl⟩).mono ?_
  rintro e w2 ⟨rfl, hb2, g1, g2⟩
  have h2l : wc.heap.size + 1 < w2.heap.size := lt_of_cell g2
  have K2 := Lib.hid (KL.out.below hb2 KL.out.lt)
  have H2 := Lib.hid (KH.out.below hb2 KH.out.lt)
  have R2 := Lib.hid (KR.out.below hb2 KR.out.lt)
  have HB2 := Lib.hid (HbW.out.trans (hb2.mono hsz))
  have hHc : H < wc.heap.size := KH.out.lt
  clear hb2
  go_wp2_with fail
  refine wp_rangeFunc_none rfl enters_all1 (fun l W hW => ?_) (fun D W hD hB hK => ?_)
  · refine all_nil W _ _ B l ?_ ?_
    · exact (hW.cell (p := ⟨wc.heap.size, 0, none⟩) (by simp; omega)).trans g1
    · exact (K2.out.below hW K2.out.lt).cell 22
  have KD := Lib.hid (K2.out.below hB K2.out.lt)
  have HD := Lib.hid (H2.out.below hB H2.out.lt)
  have HBD := Lib.hid (HB2.out.trans (hB.mono HB2.out.size))
  have y0 : W.cell? ⟨H, 0, none⟩ = some (.int .u32 4294967040) := HD.out.cell 0
  have y1 : W.cell? ⟨H, 1, none⟩ = some (.int .u16 10) := HD.out.cell 1
  have y2 : W.cell? ⟨H, 2, none⟩ = some (.int .u8 2) := HD.out.cell 2
  have y3 : W.cell? ⟨H, 3, none⟩ = some (.int .u8 1) := HD.out.cell 3
  have y4 : W.cell? ⟨H, 4, none⟩ = some (.int .u32 40) := HD.out.cell 4
  have y5 : W.cell? ⟨H, 5, none⟩ = some (.int .u32 0) := HD.out.cell 5
  have y6 : W.cell? ⟨H, 6, none⟩ = some (.int .u32 0) := HD.out.cell 6
  have y7 : W.cell? ⟨H, 7, none⟩ = some (.slice none 0 0) := HD.out.cell 7
  have RD := Lib.hid (R2.out.below hB R2.out.lt)
  have z0 : W.cell? ⟨w.heap.size, 0, none⟩ = some (.int .u32 0) := RD.out.cell 0
  have z1 : W.cell? ⟨w.heap.size, 1, none⟩ = some (.int .u16 0) := RD.out.cell 1
  have z2 : W.cell? ⟨w.heap.size, 2, none⟩ = some (.int .u8 0) := RD.out.cell 2
  have z3 : W.cell? ⟨w.heap.size, 3, none⟩ = some (.int .u8 0) := RD.out.cell 3
  have z4 : W.cell? ⟨w.heap.size, 4, none⟩ = some (.int .u32 0) := RD.out.cell 4
  have z5 : W.cell? ⟨w.heap.size, 5, none⟩ = some (.int .u32 0) := RD.out.cell 5
  have z6 : W.cell? ⟨w.heap.size, 6, none⟩ = some (.int .u32 0) := RD.out.cell 6
  have z7 : W.cell? ⟨w.heap.size, 7, none⟩ = some (.slice none 0 0) := RD.out.cell 7
  have fz := RD.out.frozen
  have hws : w.heap.size < W.heap.size := by have := HD.out.lt; omega
  clear hB
  go_wp2_with fail
  obtain ⟨W2, hW2⟩ : ∃ W2, W2 = ((((((((W.setCell ⟨w.heap.size, 0, none⟩ (.int .u32 4294967040)).setCell ⟨w.heap.size, 1, none⟩ (.int .u16 10)).setCell ⟨w.heap.size, 2, none⟩ (.int .u8 2)).setCell ⟨w.heap.size, 3, none⟩ (.int .u8 1)).setCell ⟨w.heap.size, 4, none⟩ (.int .u32 40)).setCell ⟨w.heap.size, 5, none⟩ (.int .u32 0)).setCell ⟨w.heap.size, 6, none⟩ (.int .u32 0)).setCell ⟨w.heap.size, 7, none⟩ (.slice none 0 0)) := ⟨_, rfl⟩
  rw [← hW2]
  obtain ⟨k8, b8⟩ := set8r (N := w.heap.size) (v0 := .int .u32 4294967040) (v1 := .int .u16 10) (v2 := .int .u8 2) (v3 := .int .u8 1) (v4 := .int .u32 40) (v5 := .int .u32 0) (v6 := .int .u32 0) (v7 := .slice none 0 0) RD.out HBD.out (Nat.le_refl _)
  rw [← hW2] at k8 b8
  have hD0 : w2.heap.size ≤ D := hD
  have hDw : w.heap.size < D := by have := HbW.out.size; omega
  have hK2 : W2.heap[D]? = some (.deferred (some [])) := by
    rw [hW2]
    rw [heap_far _ _ hDw, heap_far _ _ hDw, heap_far _ _ hDw, heap_far _ _ hDw, heap_far _ _ hDw, heap_far _ _ hDw, heap_far _ _ hDw, heap_far _ _ hDw]
    exact hK
  refine ⟨by simp, .inl ⟨_, _, rfl, run_takeDeferred hK2, ?_⟩⟩
  have k9 := k8.grown (grownBy_putObj' W2 D (.deferred none)) (by simp; omega)
  have u0 := (k9.cell 0).trans rfl
  have u1 := (k9.cell 1).trans rfl
  have u2 := (k9.cell 2).trans rfl
  have u3 := (k9.cell 3).trans rfl
  have u4 := (k9.cell 4).trans rfl
  have u5 := (k9.cell 5).trans rfl
  have u6 := (k9.cell 6).trans rfl
  have u7 := (k9.cell 7).trans rfl
  refine ⟨hv13, ?_, rfl, b8.trans (below_put hK2 (by omega))⟩
  simp [results, Try.f74, go_sem, hv13, u0, u1, u2, u3, u4, u5, u6, u7]
end Go.Proofs.Ytgbmhijgpdgdbaa
