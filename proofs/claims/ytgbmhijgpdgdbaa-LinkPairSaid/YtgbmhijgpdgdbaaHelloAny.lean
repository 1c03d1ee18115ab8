/- Hello of a link of whatever config that knows no neighbour. -/
import Derived.Test.YtgbmhijgpdgdbaaMayQ
namespace Go.Proofs.Ytgbmhijgpdgdbaa
open Go.RowKit

/-- The mask that a link tells. -/
def lmaskV (c : LC) : Int := if c.ty = 4 then 0 else maskN c.nb.toNat
/-- The options that a link tells. -/
def optV (c : LC) : Int := if c.dm then bits .or .u8 c.op 32 else c.op
def helloV (c : LC) (dr bd : Int) : Value := .agg #[.int .u32 (lmaskV c), .int .u16 c.hi, .int .u8 (optV c), .int .u8 c.pr, .int .u32 c.dd, .int .u32 dr, .int .u32 bd, .slice none 0 0]

set_option maxHeartbeats 400000 in
theorem mask_lks' (w : World) (B : Nat) (c : LC) (cs : Array Value) (k : Blk w B 119 cs) (h1 : cs[1]? = some (.int .u8 c.ty)) (h4 : cs[4]? = some (.int .u8 c.nb)) (hn0 : 0 ≤ c.nb) (hn1 : c.nb ≤ 32) : Calls Try.prog 107 #[.pointer (some ⟨B, 0, none⟩)] w fun e w' => e = .returned (.int .u32 (lmaskV c)) ∧ w = w' := by
  have c1 : w.cell? ⟨B, 1, none⟩ = some (.int .u8 c.ty) := (k.cell 1).trans h1
  have c4 : w.cell? ⟨B, 4, none⟩ = some (.int .u8 c.nb) := (k.cell 4).trans h4
  clear k
  by_cases ht : c.ty = 4
  · have hv : lmaskV c = 0 := if_pos ht
    rw [hv]
    rw [ht] at c1
    go_enter Try.func107, Try.ntmps107
    go_wp2_with fail
    go_ret
    exact ⟨rfl, rfl⟩
  · have hv : lmaskV c = maskN c.nb.toNat := if_neg ht
    rw [hv]
    have h5 : (c.ty == 4) = false := by simpa using ht
    go_enter Try.func107, Try.ntmps107
    go_wp2_with (go_at_call 102; refine (mask_any _ _ hn0 hn1).mono ?_; rintro e w' ⟨rfl, rfl⟩)
    go_ret
    exact ⟨rfl, rfl⟩

set_option maxHeartbeats 2000000 in
set_option maxRecDepth 20000 in
theorem hello_nil_f (w : World) (B : Nat) (c : LC) (st dr bd wt nx po re : Int) (hn0 : 0 ≤ c.nb) (hn1 : c.nb ≤ 32) (hdm : c.dm = false) (k : Blk w B 119 (lks c st dr bd wt nx po re (.slice none 0 0))) :
    Calls Try.prog 74 #[.pointer (some ⟨B, 0, none⟩)] w fun e w' => e = .returned (helloV c dr bd) ∧ Below w.heap.size w w' := by
  have K := Lib.hid k
  have H_dm := Lib.hid hdm
  have c1 : w.cell? ⟨B, 1, none⟩ = some (.int .u8 c.ty) := k.cell 1
  have c4 : w.cell? ⟨B, 4, none⟩ = some (.int .u8 c.nb) := k.cell 4
  have c6 : w.cell? ⟨B, 6, none⟩ = some (.int .u8 c.op) := k.cell 6
  have c7 : w.cell? ⟨B, 7, none⟩ = some (.int .u16 c.hi) := k.cell 7
  have c8 : w.cell? ⟨B, 8, none⟩ = some (.int .u32 c.dd) := k.cell 8
  have c10 : w.cell? ⟨B, 10, none⟩ = some (.int .u8 c.pr) := k.cell 10
  have c11 : w.cell? ⟨B, 11, none⟩ = some (.bool false) := (k.cell 11).trans (by rw [← hdm]; rfl)
  have c16 : w.cell? ⟨B, 16, none⟩ = some (.int .u32 dr) := k.cell 16
  have c17 : w.cell? ⟨B, 17, none⟩ = some (.int .u32 bd) := k.cell 17
  have hlt : B < w.heap.size := k.lt
  clear k hdm
  refine (callsIn_wide (n := 3)).1 ?_
  refine callsIn_of_wp_marks Try.func74 rfl trivial ?_ rfl
  rw [wpIn_wide]
  simp only [Try.ntmps74, List.size_toArray, List.length_cons, List.length_nil, Nat.reduceAdd, Nat.reduceSub, Array.replicate_succ, Array.replicate_zero, List.push_toArray, List.append_toArray, List.nil_append, List.cons_append]
  go_wp2_with fail
  go_cut [3] from 5 to 35 (fun p3 wx => ∃ H : Nat, p3 = .pointer (some ⟨H, 0, none⟩) ∧ Blk wx H 90 #[.int .u32 (lmaskV c), .int .u16 c.hi, .int .u8 c.op, .int .u8 c.pr, .int .u32 c.dd, .int .u32 dr, .int .u32 bd, .slice none 0 0] ∧ w.heap.size < H ∧ Below (w.heap.size + 1) (w.alloc (.cells #[.int .u32 0, .int .u16 0, .int .u8 0, .int .u8 0, .int .u32 0, .int .u32 0, .int .u32 0, .slice none 0 0] 90)) wx)
  case first =>
    go_region_held3 (fun w' => w'.cell? ⟨B, 1, none⟩ = some (.int .u8 c.ty) ∧ w'.cell? ⟨B, 4, none⟩ = some (.int .u8 c.nb) ∧ w'.cell? ⟨B, 6, none⟩ = some (.int .u8 c.op) ∧ w'.cell? ⟨B, 7, none⟩ = some (.int .u16 c.hi) ∧ w'.cell? ⟨B, 8, none⟩ = some (.int .u32 c.dd) ∧ w'.cell? ⟨B, 10, none⟩ = some (.int .u8 c.pr) ∧ w'.cell? ⟨B, 16, none⟩ = some (.int .u32 dr) ∧ w'.cell? ⟨B, 17, none⟩ = some (.int .u32 bd))
      (go_keep)
      ((go_at_call 107; refine (mask_lks' _ _ c (lks c st dr bd wt nx po re (.slice none 0 0)) (by first | with_reducible exact (K.out.alloc _).drew | with_reducible exact ((K.out.alloc _).alloc _).drew) rfl rfl hn0 hn1).mono ?_; rintro e w' ⟨rfl, rfl⟩))
    all_goals clear c1 c4 c6 c7 c8 c10 c16 c17
    all_goals
      go_wp2_with fail
      go_meet
      case rel =>
        refine ⟨_, rfl, ?_, by omega, ?_⟩
        · have := (Blk.new (w.alloc (.cells #[.int .u32 0, .int .u16 0, .int .u8 0, .int .u8 0, .int .u32 0, .int .u32 0, .int .u32 0, .slice none 0 0] 90)) 90 #[.int .u32 (lmaskV c), .int .u16 c.hi, .int .u8 c.op, .int .u8 c.pr, .int .u32 c.dd, .int .u32 dr, .int .u32 bd, .slice none 0 0]).drew
          rw [World.size_alloc] at this
          exact this
        · exact ((Below.refl _ _).alloc (by simp) _).drew
  obtain ⟨H, rfl, hH, hHl, hb⟩ := hcut
  have hbw : Below w.heap.size w wc := ((Below.refl _ w).alloc (Nat.le_refl _) _).trans (hb.mono (by omega))
  have kL := K.out.below hbw hlt
  have d11 : wc.cell? ⟨B, 11, none⟩ = some (.bool false) := (kL.cell 11).trans (by rw [← H_dm.out]; rfl)
  have HbW := Lib.hid hbw
  have KR := Lib.hid ((Blk.new w 90 #[.int .u32 0, .int .u16 0, .int .u8 0, .int .u8 0, .int .u32 0, .int .u32 0, .int .u32 0, .slice none 0 0]).below hb (by omega))
  have KL := Lib.hid kL
  have KH := Lib.hid hH
  have hsz : w.heap.size ≤ wc.heap.size := hbw.size
  clear c1 c4 c6 c7 c8 c10 c11 c16 c17 hbw kL hH
  obtain ⟨wd, hwd⟩ : ∃ wd, wd = wc := ⟨_, rfl⟩
  have KL2 : Hid (Blk wd B 119 (lks c st dr bd wt nx po re (.slice none 0 0))) := Lib.hid (by rw [hwd]; exact KL.out)
  have KR2 : Hid (Blk wd w.heap.size 90 #[.int .u32 0, .int .u16 0, .int .u8 0, .int .u8 0, .int .u32 0, .int .u32 0, .int .u32 0, .slice none 0 0]) := Lib.hid (by rw [hwd]; exact KR.out)
  have KH2 : Hid (Blk wd H 90 #[.int .u32 (lmaskV c), .int .u16 c.hi, .int .u8 c.op, .int .u8 c.pr, .int .u32 c.dd, .int .u32 dr, .int .u32 bd, .slice none 0 0]) := Lib.hid (by rw [hwd]; exact KH.out)
  have HbW2 : Hid (Below w.heap.size w wd) := Lib.hid (by rw [hwd]; exact HbW.out)
  have hsz2 : w.heap.size ≤ wd.heap.size := HbW2.out.size
  have d11' : wd.cell? ⟨B, 11, none⟩ = some (.bool false) := by rw [hwd]; exact d11
  rw [← hwd]
  clear hwd d11
  go_wp2_with fail
  refine (all_made _ _ _ ⟨_, rfl⟩ ⟨_, _, _, rfl⟩).mono ?_
  rintro e w2 ⟨rfl, hb2, g1, g2⟩
  have h2l : wd.heap.size + 1 < w2.heap.size := lt_of_cell g2
  have K2 := Lib.hid (KL2.out.below hb2 KL2.out.lt)
  have H2 := Lib.hid (KH2.out.below hb2 KH2.out.lt)
  have R2 := Lib.hid (KR2.out.below hb2 KR2.out.lt)
  have HB2 := Lib.hid (HbW2.out.trans (hb2.mono hsz2))
  have hHc : H < wd.heap.size := KH2.out.lt
  clear hb2
  go_wp2_with fail
  refine wp_rangeFunc_none rfl enters_all1 (fun l W hW => ?_) (fun D W hD hB hK => ?_)
  · refine all_nil W _ _ B l ?_ ?_
    · exact (hW.cell (p := ⟨wd.heap.size, 0, none⟩) (by simp; omega)).trans g1
    · exact (K2.out.below hW K2.out.lt).cell 22
  have KD := Lib.hid (K2.out.below hB K2.out.lt)
  have HD := Lib.hid (H2.out.below hB H2.out.lt)
  have HBD := Lib.hid (HB2.out.trans (hB.mono HB2.out.size))
  have y0 : W.cell? ⟨H, 0, none⟩ = some (.int .u32 (lmaskV c)) := HD.out.cell 0
  have y1 : W.cell? ⟨H, 1, none⟩ = some (.int .u16 c.hi) := HD.out.cell 1
  have y2 : W.cell? ⟨H, 2, none⟩ = some (.int .u8 c.op) := HD.out.cell 2
  have y3 : W.cell? ⟨H, 3, none⟩ = some (.int .u8 c.pr) := HD.out.cell 3
  have y4 : W.cell? ⟨H, 4, none⟩ = some (.int .u32 c.dd) := HD.out.cell 4
  have y5 : W.cell? ⟨H, 5, none⟩ = some (.int .u32 dr) := HD.out.cell 5
  have y6 : W.cell? ⟨H, 6, none⟩ = some (.int .u32 bd) := HD.out.cell 6
  have y7 : W.cell? ⟨H, 7, none⟩ = some (.slice none 0 0) := HD.out.cell 7
  have RD := Lib.hid (R2.out.below hB R2.out.lt)
  have z0 : W.cell? ⟨w.heap.size, 0, none⟩ = some (.int .u32 0) := RD.out.cell 0
  have z1 : W.cell? ⟨w.heap.size, 1, none⟩ = some (.int .u16 0) := RD.out.cell 1
  have z2 : W.cell? ⟨w.heap.size, 2, none⟩ = some (.int .u8 0) := RD.out.cell 2
  have z3 : W.cell? ⟨w.heap.size, 3, none⟩ = some (.int .u8 0) := RD.out.cell 3
  have z4 : W.cell? ⟨w.heap.size, 4, none⟩ = some (.int .u32 0) := RD.out.cell 4
  have z5 : W.cell? ⟨w.heap.size, 5, none⟩ = some (.int .u32 0) := RD.out.cell 5
  have z6 : W.cell? ⟨w.heap.size, 6, none⟩ = some (.int .u32 0) := RD.out.cell 6
  have z7 : W.cell? ⟨w.heap.size, 7, none⟩ = some (.slice none 0 0) := RD.out.cell 7
  have fz := RD.out.frozen
  have hws : w.heap.size < W.heap.size := by have := HD.out.lt; omega
  clear hB
  go_wp2_with fail
  obtain ⟨W2, hW2⟩ : ∃ W2, W2 = ((((((((W.setCell ⟨w.heap.size, 0, none⟩ (.int .u32 (lmaskV c))).setCell ⟨w.heap.size, 1, none⟩ (.int .u16 c.hi)).setCell ⟨w.heap.size, 2, none⟩ (.int .u8 c.op)).setCell ⟨w.heap.size, 3, none⟩ (.int .u8 c.pr)).setCell ⟨w.heap.size, 4, none⟩ (.int .u32 c.dd)).setCell ⟨w.heap.size, 5, none⟩ (.int .u32 dr)).setCell ⟨w.heap.size, 6, none⟩ (.int .u32 bd)).setCell ⟨w.heap.size, 7, none⟩ (.slice none 0 0)) := ⟨_, rfl⟩
  rw [← hW2]
  obtain ⟨k8, b8⟩ := set8r (N := w.heap.size) (v0 := .int .u32 (lmaskV c)) (v1 := .int .u16 c.hi) (v2 := .int .u8 c.op) (v3 := .int .u8 c.pr) (v4 := .int .u32 c.dd) (v5 := .int .u32 dr) (v6 := .int .u32 bd) (v7 := .slice none 0 0) RD.out HBD.out (Nat.le_refl _)
  rw [← hW2] at k8 b8
  have hD0 : w2.heap.size ≤ D := hD
  have hDw : w.heap.size < D := by have := HbW2.out.size; omega
  have hK2 : W2.heap[D]? = some (.deferred (some [])) := by
    rw [hW2]
    rw [heap_far _ _ hDw, heap_far _ _ hDw, heap_far _ _ hDw, heap_far _ _ hDw, heap_far _ _ hDw, heap_far _ _ hDw, heap_far _ _ hDw, heap_far _ _ hDw]
    exact hK
  refine ⟨by simp, .inl ⟨_, _, rfl, run_takeDeferred hK2, ?_⟩⟩
  have k9 := k8.grown (grownBy_putObj' W2 D (.deferred none)) (by simp; omega)
  have u0 := (k9.cell 0).trans rfl
  have u1 := (k9.cell 1).trans rfl
  have u2 := (k9.cell 2).trans rfl
  have u3 := (k9.cell 3).trans rfl
  have u4 := (k9.cell 4).trans rfl
  have u5 := (k9.cell 5).trans rfl
  have u6 := (k9.cell 6).trans rfl
  have u7 := (k9.cell 7).trans rfl
  refine ⟨helloV c dr bd, ?_, rfl, b8.trans (below_put hK2 (by omega))⟩
  simp [results, Try.f74, go_sem, helloV, optV, H_dm.out, u0, u1, u2, u3, u4, u5, u6, u7]

set_option maxHeartbeats 2000000 in
set_option maxRecDepth 20000 in
theorem hello_nil_t (w : World) (B : Nat) (c : LC) (st dr bd wt nx po re : Int) (hn0 : 0 ≤ c.nb) (hn1 : c.nb ≤ 32) (hdm : c.dm = true) (k : Blk w B 119 (lks c st dr bd wt nx po re (.slice none 0 0))) :
    Calls Try.prog 74 #[.pointer (some ⟨B, 0, none⟩)] w fun e w' => e = .returned (helloV c dr bd) ∧ Below w.heap.size w w' := by
  have K := Lib.hid k
  have H_dm := Lib.hid hdm
  have c1 : w.cell? ⟨B, 1, none⟩ = some (.int .u8 c.ty) := k.cell 1
  have c4 : w.cell? ⟨B, 4, none⟩ = some (.int .u8 c.nb) := k.cell 4
  have c6 : w.cell? ⟨B, 6, none⟩ = some (.int .u8 c.op) := k.cell 6
  have c7 : w.cell? ⟨B, 7, none⟩ = some (.int .u16 c.hi) := k.cell 7
  have c8 : w.cell? ⟨B, 8, none⟩ = some (.int .u32 c.dd) := k.cell 8
  have c10 : w.cell? ⟨B, 10, none⟩ = some (.int .u8 c.pr) := k.cell 10
  have c11 : w.cell? ⟨B, 11, none⟩ = some (.bool true) := (k.cell 11).trans (by rw [← hdm]; rfl)
  have c16 : w.cell? ⟨B, 16, none⟩ = some (.int .u32 dr) := k.cell 16
  have c17 : w.cell? ⟨B, 17, none⟩ = some (.int .u32 bd) := k.cell 17
  have hlt : B < w.heap.size := k.lt
  clear k hdm
  refine (callsIn_wide (n := 3)).1 ?_
  refine callsIn_of_wp_marks Try.func74 rfl trivial ?_ rfl
  rw [wpIn_wide]
  simp only [Try.ntmps74, List.size_toArray, List.length_cons, List.length_nil, Nat.reduceAdd, Nat.reduceSub, Array.replicate_succ, Array.replicate_zero, List.push_toArray, List.append_toArray, List.nil_append, List.cons_append]
  go_wp2_with fail
  go_cut [3] from 5 to 35 (fun p3 wx => ∃ H : Nat, p3 = .pointer (some ⟨H, 0, none⟩) ∧ Blk wx H 90 #[.int .u32 (lmaskV c), .int .u16 c.hi, .int .u8 c.op, .int .u8 c.pr, .int .u32 c.dd, .int .u32 dr, .int .u32 bd, .slice none 0 0] ∧ w.heap.size < H ∧ Below (w.heap.size + 1) (w.alloc (.cells #[.int .u32 0, .int .u16 0, .int .u8 0, .int .u8 0, .int .u32 0, .int .u32 0, .int .u32 0, .slice none 0 0] 90)) wx)
  case first =>
    go_region_held3 (fun w' => w'.cell? ⟨B, 1, none⟩ = some (.int .u8 c.ty) ∧ w'.cell? ⟨B, 4, none⟩ = some (.int .u8 c.nb) ∧ w'.cell? ⟨B, 6, none⟩ = some (.int .u8 c.op) ∧ w'.cell? ⟨B, 7, none⟩ = some (.int .u16 c.hi) ∧ w'.cell? ⟨B, 8, none⟩ = some (.int .u32 c.dd) ∧ w'.cell? ⟨B, 10, none⟩ = some (.int .u8 c.pr) ∧ w'.cell? ⟨B, 16, none⟩ = some (.int .u32 dr) ∧ w'.cell? ⟨B, 17, none⟩ = some (.int .u32 bd))
      (go_keep)
      ((go_at_call 107; refine (mask_lks' _ _ c (lks c st dr bd wt nx po re (.slice none 0 0)) (by first | with_reducible exact (K.out.alloc _).drew | with_reducible exact ((K.out.alloc _).alloc _).drew) rfl rfl hn0 hn1).mono ?_; rintro e w' ⟨rfl, rfl⟩))
    all_goals clear c1 c4 c6 c7 c8 c10 c16 c17
    all_goals
      go_wp2_with fail
      go_meet
      case rel =>
        refine ⟨_, rfl, ?_, by omega, ?_⟩
        · have := (Blk.new (w.alloc (.cells #[.int .u32 0, .int .u16 0, .int .u8 0, .int .u8 0, .int .u32 0, .int .u32 0, .int .u32 0, .slice none 0 0] 90)) 90 #[.int .u32 (lmaskV c), .int .u16 c.hi, .int .u8 c.op, .int .u8 c.pr, .int .u32 c.dd, .int .u32 dr, .int .u32 bd, .slice none 0 0]).drew
          rw [World.size_alloc] at this
          exact this
        · exact ((Below.refl _ _).alloc (by simp) _).drew
  obtain ⟨H, rfl, hH, hHl, hb⟩ := hcut
  have hbw : Below w.heap.size w wc := ((Below.refl _ w).alloc (Nat.le_refl _) _).trans (hb.mono (by omega))
  have kL := K.out.below hbw hlt
  have d11 : wc.cell? ⟨B, 11, none⟩ = some (.bool true) := (kL.cell 11).trans (by rw [← H_dm.out]; rfl)
  have HbW := Lib.hid hbw
  have KR := Lib.hid ((Blk.new w 90 #[.int .u32 0, .int .u16 0, .int .u8 0, .int .u8 0, .int .u32 0, .int .u32 0, .int .u32 0, .slice none 0 0]).below hb (by omega))
  have KL := Lib.hid kL
  have KH := Lib.hid hH
  have hsz : w.heap.size ≤ wc.heap.size := hbw.size
  clear c1 c4 c6 c7 c8 c10 c11 c16 c17 hbw kL hH
  have t2 : wc.cell? ⟨H, 2, none⟩ = some (.int .u8 c.op) := KH.out.cell 2
  have tf := KH.out.frozen
  have hBH : B ≠ H := by omega
  go_upto_region 4 with fail
  obtain ⟨wd, hwd⟩ : ∃ wd, wd = wc.setCell ⟨H, 2, none⟩ (.int .u8 (bits .or .u8 c.op 32)) := ⟨_, rfl⟩
  have KL2 : Hid (Blk wd B 119 (lks c st dr bd wt nx po re (.slice none 0 0))) := Lib.hid (by rw [hwd]; exact KL.out.far (by simpa using hBH) _)
  have KR2 : Hid (Blk wd w.heap.size 90 #[.int .u32 0, .int .u16 0, .int .u8 0, .int .u8 0, .int .u32 0, .int .u32 0, .int .u32 0, .slice none 0 0]) := Lib.hid (by rw [hwd]; exact KR.out.far (by simp; omega) _)
  have KH2 : Hid (Blk wd H 90 #[.int .u32 (lmaskV c), .int .u16 c.hi, .int .u8 (bits .or .u8 c.op 32), .int .u8 c.pr, .int .u32 c.dd, .int .u32 dr, .int .u32 bd, .slice none 0 0]) := Lib.hid (by rw [hwd]; exact KH.out.set_ 2 _)
  have HbW2 : Hid (Below w.heap.size w wd) := Lib.hid (by rw [hwd]; exact HbW.out.setCell (p := ⟨H, 2, none⟩) (by simp; omega) _)
  have hsz2 : w.heap.size ≤ wd.heap.size := HbW2.out.size
  rw [← hwd]
  clear hwd d11 t2 tf
  go_wp2_with fail
  refine (all_made _ _ _ ⟨_, rfl⟩ ⟨_, _, _, rfl⟩).mono ?_
  rintro e w2 ⟨rfl, hb2, g1, g2⟩
  have h2l : wd.heap.size + 1 < w2.heap.size := lt_of_cell g2
  have K2 := Lib.hid (KL2.out.below hb2 KL2.out.lt)
  have H2 := Lib.hid (KH2.out.below hb2 KH2.out.lt)
  have R2 := Lib.hid (KR2.out.below hb2 KR2.out.lt)
  have HB2 := Lib.hid (HbW2.out.trans (hb2.mono hsz2))
  have hHc : H < wd.heap.size := KH2.out.lt
  clear hb2
  go_wp2_with fail
  refine wp_rangeFunc_none rfl enters_all1 (fun l W hW => ?_) (fun D W hD hB hK => ?_)
  · refine all_nil W _ _ B l ?_ ?_
    · exact (hW.cell (p := ⟨wd.heap.size, 0, none⟩) (by simp; omega)).trans g1
    · exact (K2.out.below hW K2.out.lt).cell 22
  have KD := Lib.hid (K2.out.below hB K2.out.lt)
  have HD := Lib.hid (H2.out.below hB H2.out.lt)
  have HBD := Lib.hid (HB2.out.trans (hB.mono HB2.out.size))
  have y0 : W.cell? ⟨H, 0, none⟩ = some (.int .u32 (lmaskV c)) := HD.out.cell 0
  have y1 : W.cell? ⟨H, 1, none⟩ = some (.int .u16 c.hi) := HD.out.cell 1
  have y2 : W.cell? ⟨H, 2, none⟩ = some (.int .u8 (bits .or .u8 c.op 32)) := HD.out.cell 2
  have y3 : W.cell? ⟨H, 3, none⟩ = some (.int .u8 c.pr) := HD.out.cell 3
  have y4 : W.cell? ⟨H, 4, none⟩ = some (.int .u32 c.dd) := HD.out.cell 4
  have y5 : W.cell? ⟨H, 5, none⟩ = some (.int .u32 dr) := HD.out.cell 5
  have y6 : W.cell? ⟨H, 6, none⟩ = some (.int .u32 bd) := HD.out.cell 6
  have y7 : W.cell? ⟨H, 7, none⟩ = some (.slice none 0 0) := HD.out.cell 7
  have RD := Lib.hid (R2.out.below hB R2.out.lt)
  have z0 : W.cell? ⟨w.heap.size, 0, none⟩ = some (.int .u32 0) := RD.out.cell 0
  have z1 : W.cell? ⟨w.heap.size, 1, none⟩ = some (.int .u16 0) := RD.out.cell 1
  have z2 : W.cell? ⟨w.heap.size, 2, none⟩ = some (.int .u8 0) := RD.out.cell 2
  have z3 : W.cell? ⟨w.heap.size, 3, none⟩ = some (.int .u8 0) := RD.out.cell 3
  have z4 : W.cell? ⟨w.heap.size, 4, none⟩ = some (.int .u32 0) := RD.out.cell 4
  have z5 : W.cell? ⟨w.heap.size, 5, none⟩ = some (.int .u32 0) := RD.out.cell 5
  have z6 : W.cell? ⟨w.heap.size, 6, none⟩ = some (.int .u32 0) := RD.out.cell 6
  have z7 : W.cell? ⟨w.heap.size, 7, none⟩ = some (.slice none 0 0) := RD.out.cell 7
  have fz := RD.out.frozen
  have hws : w.heap.size < W.heap.size := by have := HD.out.lt; omega
  clear hB
  go_wp2_with fail
  obtain ⟨W2, hW2⟩ : ∃ W2, W2 = ((((((((W.setCell ⟨w.heap.size, 0, none⟩ (.int .u32 (lmaskV c))).setCell ⟨w.heap.size, 1, none⟩ (.int .u16 c.hi)).setCell ⟨w.heap.size, 2, none⟩ (.int .u8 (bits .or .u8 c.op 32))).setCell ⟨w.heap.size, 3, none⟩ (.int .u8 c.pr)).setCell ⟨w.heap.size, 4, none⟩ (.int .u32 c.dd)).setCell ⟨w.heap.size, 5, none⟩ (.int .u32 dr)).setCell ⟨w.heap.size, 6, none⟩ (.int .u32 bd)).setCell ⟨w.heap.size, 7, none⟩ (.slice none 0 0)) := ⟨_, rfl⟩
  rw [← hW2]
  obtain ⟨k8, b8⟩ := set8r (N := w.heap.size) (v0 := .int .u32 (lmaskV c)) (v1 := .int .u16 c.hi) (v2 := .int .u8 (bits .or .u8 c.op 32)) (v3 := .int .u8 c.pr) (v4 := .int .u32 c.dd) (v5 := .int .u32 dr) (v6 := .int .u32 bd) (v7 := .slice none 0 0) RD.out HBD.out (Nat.le_refl _)
  rw [← hW2] at k8 b8
  have hD0 : w2.heap.size ≤ D := hD
  have hDw : w.heap.size < D := by have := HbW2.out.size; omega
  have hK2 : W2.heap[D]? = some (.deferred (some [])) := by
    rw [hW2]
    rw [heap_far _ _ hDw, heap_far _ _ hDw, heap_far _ _ hDw, heap_far _ _ hDw, heap_far _ _ hDw, heap_far _ _ hDw, heap_far _ _ hDw, heap_far _ _ hDw]
    exact hK
  refine ⟨by simp, .inl ⟨_, _, rfl, run_takeDeferred hK2, ?_⟩⟩
  have k9 := k8.grown (grownBy_putObj' W2 D (.deferred none)) (by simp; omega)
  have u0 := (k9.cell 0).trans rfl
  have u1 := (k9.cell 1).trans rfl
  have u2 := (k9.cell 2).trans rfl
  have u3 := (k9.cell 3).trans rfl
  have u4 := (k9.cell 4).trans rfl
  have u5 := (k9.cell 5).trans rfl
  have u6 := (k9.cell 6).trans rfl
  have u7 := (k9.cell 7).trans rfl
  refine ⟨helloV c dr bd, ?_, rfl, b8.trans (below_put hK2 (by omega))⟩
  simp [results, Try.f74, go_sem, helloV, optV, H_dm.out, u0, u1, u2, u3, u4, u5, u6, u7]

theorem hello_nil (w : World) (B : Nat) (c : LC) (st dr bd wt nx po re : Int) (hn0 : 0 ≤ c.nb) (hn1 : c.nb ≤ 32) (k : Blk w B 119 (lks c st dr bd wt nx po re (.slice none 0 0))) :
    Calls Try.prog 74 #[.pointer (some ⟨B, 0, none⟩)] w fun e w' => e = .returned (helloV c dr bd) ∧ Below w.heap.size w w' := by
  cases h : c.dm with
  | false => exact hello_nil_f w B c st dr bd wt nx po re hn0 hn1 h k
  | true => exact hello_nil_t w B c st dr bd wt nx po re hn0 hn1 h k
end Go.Proofs.Ytgbmhijgpdgdbaa
