/- The statement AdjacentFull, walked: all of it. -/
import Derived.Test.YtgbmhijgpdgdbaaFaStart
import Derived.Test.YtgbmhijgpdgdbaaFaWorksAll
import Derived.Deep.DeepCutAuto
namespace Go.Proofs.Ytgbmhijgpdgdbaa
open Go.RowKit

theorem drew_below (w : World) : Below w.heap.size w w.drew := ⟨rfl, rfl, rfl, Nat.le_refl _, fun _ _ => rfl⟩
theorem unlike_drew {w : World} {u : Value} {l : List Od.Hd} (hu : HeadsAt w w.heap.size u l) (hraw : ∀ x ∈ l, HdRaw x) (hfull : ∀ x ∈ l, HdFull x) (hn : l.length ≤ 200) :
    Calls Try.prog 12 #[u] w.drew fun e w' => ∃ A' n' c' U, e = .returned (.slice A' n' c') ∧ U.length = n' ∧ w'.ownsRow w.heap.size 59 8 (.slice A' n' c') U.length (U.flatMap hcells) ∧ UnlikeG U ∧ Below w.heap.size w w' := by
  have hu' : HeadsAt w.drew w.drew.heap.size u l := hu
  refine (unlike_all w.drew u l hu' hraw hfull hn).mono ?_
  rintro e w' ⟨v, U, rfl, ho, hU, hb⟩
  obtain ⟨A', c', rfl⟩ := own_slice ho
  exact ⟨A', _, c', U, rfl, rfl, ho, hU, (drew_below w).trans hb⟩

/-- What New made. -/
def NewIs (self other s : Int) (w : World) (Ba ma : Nat) (ov : Value) (w' : World) : Prop :=
  w.heap.size ≤ Ba ∧ w.heap.size ≤ ma ∧ AdjAt w' Ba (newAdj self other 0 2 2 s 65535 ma).firsted ∧ MapIs hdval w' ma none0 ∧ Below w.heap.size w w' ∧ OneDesc (newAdj self other 0 2 2 s 65535 ma).firsted [] w.heap.size w' ov
theorem new_is (w : World) (self other s : Int) (h1 : self ≠ 0) (h2 : other ≠ 0) (h3 : self ≠ other) :
    Calls Try.prog 13 #[.agg #[.int .u32 self, .int .u32 other, .int .u16 0, .int .u8 2, .int .u16 2, .int .u32 s, .int .u16 65535]] w fun e w' => ∃ Ba ma OA oc, e = .returned (.tuple #[.pointer (some ⟨Ba, 0, none⟩), .slice OA 1 oc, .int .i64 0]) ∧ NewIs self other s w Ba ma (.slice OA 1 oc) w' := by
  refine (new_any self other 0 2 2 s 65535 w h1 h2 h3 (by decide) (by decide)).mono ?_
  rintro e w' ⟨Ba, ma, v, rfl, hB, hm, hA, hM, hb, hd⟩
  obtain ⟨hv, ho, hh⟩ := hd
  obtain ⟨OA, oc, rfl⟩ := own_slice ho
  exact ⟨Ba, ma, OA, oc, rfl, hB, hm, hA, hM, hb, hv, ho, hh⟩

set_option maxHeartbeats 4000000 in
set_option maxRecDepth 20000 in
theorem full_walk (w : World) (A B L : Option Addr) (na ca nb cb nl cl : Nat) (lA lB : List Od.Hd) (lost : List Bool) (s0 s1 : Int)
    (hA : HeadsAt w w.heap.size (.slice A na ca) lA) (hrA : ∀ x ∈ lA, HdRaw x) (hfA : ∀ x ∈ lA, HdFull x) (hB : HeadsAt w w.heap.size (.slice B nb cb) lB) (hrB : ∀ x ∈ lB, HdRaw x) (hfB : ∀ x ∈ lB, HdFull x)
    (hL : Reads w w.heap.size 1 L nl (lost.map Value.bool)) (hll : lost.length = nl) (h0 : 0 ≤ s1) (h1 : s1 < 4294967296) (hna : na ≤ 100) (hnb : nb ≤ 100) (hnl : nl ≤ 40) :
    Calls Try.prog 4 #[.agg #[.slice A na ca, .slice B nb cb, .slice L nl cl, .int .u32 s0, .int .u32 s1]] w fun e w' => e = .returned (.bool true) ∧ Below w.heap.size w w' := by
  have HhA := Lib.hid hA
  have HrA := Lib.hid hrA
  have HfA := Lib.hid hfA
  have HhB := Lib.hid hB
  have HrB := Lib.hid hrB
  have HfB := Lib.hid hfB
  have HL := Lib.hid hL
  have Hll := Lib.hid hll
  have H01 := Lib.hid (And.intro h0 h1)
  have hna' : (na : Int) ≤ 100 := by omega
  have hnb' : (nb : Int) ≤ 100 := by omega
  have hnl' : (nl : Int) ≤ 40 := by omega
  clear hA hrA hfA hB hrB hfB hL hll h0 h1
  go_enter Try.func4, Try.ntmps4
  go_upto_region 4 with fail
  obtain ⟨xb, hxb⟩ : ∃ xb, xb = w.heap.size := ⟨_, rfl⟩
  obtain ⟨Wb, hWb⟩ : ∃ Wb, Wb = w.heap.size + 1 := ⟨_, rfl⟩
  obtain ⟨W1, hW1⟩ : ∃ W1, W1 = (w.alloc (.cells #[.slice A na ca, .slice B nb cb, .slice L nl cl, .int .u32 s0, .int .u32 s1] 47)).alloc (.cells #[.pointer none, .pointer none, .slice none 0 0, .slice none 0 0, .int .i64 0, .slice L nl cl, .int .i64 0] 51) := ⟨_, rfl⟩
  have hb1 : Below w.heap.size w W1 := by rw [hW1]; exact ((Below.refl _ w).alloc (Nat.le_refl _) _).alloc (by simp) _
  have kx1 : Blk W1 xb 47 #[.slice A na ca, .slice B nb cb, .slice L nl cl, .int .u32 s0, .int .u32 s1] := by rw [hW1, hxb]; exact (Blk.new w _ _).alloc _
  have kw1 : Blk W1 Wb 51 #[.pointer none, .pointer none, .slice none 0 0, .slice none 0 0, .int .i64 0, .slice L nl cl, .int .i64 0] := by rw [hW1]; exact blk_at (by rw [hWb]; simp)
  have hlo : w.heap.size ≤ xb ∧ xb < Wb ∧ W1.heap.size = Wb + 1 := by rw [hW1, hxb, hWb]; simp
  rw [← hWb, ← hxb, ← hW1]
  have HUa : Hid (Calls Try.prog 12 #[.slice A na ca] W1.drew fun e w' => ∃ A' n' c' U, e = .returned (.slice A' n' c') ∧ U.length = n' ∧ w'.ownsRow W1.heap.size 59 8 (.slice A' n' c') U.length (U.flatMap hcells) ∧ UnlikeG U ∧ Below W1.heap.size W1 w') :=
    Lib.hid (unlike_drew ((Frame.of_below (S := fun _ => False) hb1).heads HhA.out (fun _ _ e => e)) HrA.out HfA.out (by obtain ⟨_, _, _, e, _, e2, _⟩ := HhA.out; cases e; omega))
  have x0 : W1.cell? ⟨xb, 0, none⟩ = some (.slice A na ca) := kx1.cell 0
  have Kx1 := Lib.hid kx1
  have Kw1 := Lib.hid kw1
  have Hb1 := Lib.hid hb1
  have Hlo := Lib.hid hlo
  have lx1 := kx1.lt
  have lw1 := kw1.lt
  have hwr0 : IntKind.i64.wrap 0 = 0 := by decide
  have hwr1 : IntKind.i64.wrap 1 = 1 := by decide
  clear hxb hWb hW1 hb1 kx1 kw1 hlo
  go_cut [] (fun wx => ∃ A' n' c' U w7, wx = w7.setCell ⟨Wb, 2, none⟩ (.slice A' n' c') ∧ Hid (U.length = n') ∧ Hid (w7.ownsRow W1.heap.size 59 8 (.slice A' n' c') U.length (U.flatMap hcells)) ∧ Hid (UnlikeG U) ∧ Hid (Below W1.heap.size W1 w7))
  case first =>
    go_region_law (go_simp; go_at_call 12; refine HUa.out.mono ?_; rintro e w7 ⟨A', n', c', U, rfl, hn, ho, hU, hb⟩; have hk := Kw1.out.below hb Kw1.out.lt; have l7 := hk.lt; have f7 := hk.frozen; have z2 : w7.cell? ⟨Wb, 2, none⟩ = some (.slice none 0 0) := hk.cell 2; have Hn7 := Lib.hid hn; have Ho7 := Lib.hid ho; have HU7 := Lib.hid hU; have HB7 := Lib.hid hb; clear hk hn ho hU hb)
    all_goals
      go_wp2_with fail
      go_meet
      case rel => exact ⟨A', n', c', U, w7, rfl, Hn7, Ho7, HU7, HB7⟩
  case rest =>
    obtain ⟨UA, un, uc, U, w7, rfl, Hun, HoU, HU, HB7⟩ := hcut
    have k7 := Kw1.out.below HB7.out Kw1.out.lt
    obtain ⟨W2, hW2⟩ : ∃ W2, W2 = w7.setCell ⟨Wb, 2, none⟩ (.slice UA un uc) := ⟨_, rfl⟩
    rw [← hW2]
    have hf2 : Frame (fun j => j = Wb) W1 W2 := by rw [hW2]; exact (Frame.of_below HB7.out).setB 2 _
    have kw2 : Blk W2 Wb 51 #[.pointer none, .pointer none, .slice UA un uc, .slice none 0 0, .int .i64 0, .slice L nl cl, .int .i64 0] := by rw [hW2]; exact k7.set_ 2 _
    have hxw : xb ≠ Wb := by have := Hlo.out; omega
    have kx2 : Blk W2 xb 47 #[.slice A na ca, .slice B nb cb, .slice L nl cl, .int .u32 s0, .int .u32 s1] := hf2.blk Kx1.out hxw
    have hoU2 : W2.ownsRow W1.heap.size 59 8 (.slice UA un uc) U.length (U.flatMap hcells) := by rw [hW2]; exact own_far HoU.out (q := ⟨Wb, 2, none⟩) (own_blk_ne HoU.out k7 (by decide)) _
    have hlow2 : Frame (fun _ => False) w W2 := (Frame.of_below Hb1.out).trans' hf2 (fun i hi e => by have := Hlo.out; omega)
    have hs2 := hf2.size
    have HUb : Hid (Calls Try.prog 12 #[.slice B nb cb] W2.drew fun e w' => ∃ A' n' c' U, e = .returned (.slice A' n' c') ∧ U.length = n' ∧ w'.ownsRow W2.heap.size 59 8 (.slice A' n' c') U.length (U.flatMap hcells) ∧ UnlikeG U ∧ Below W2.heap.size W2 w') :=
      Lib.hid (unlike_drew (hlow2.heads HhB.out (fun _ _ e => e)) HrB.out HfB.out (by obtain ⟨_, _, _, e, _, e2, _⟩ := HhB.out; cases e; omega))
    have x1 : W2.cell? ⟨xb, 1, none⟩ = some (.slice B nb cb) := kx2.cell 1
    have Kx2 := Lib.hid kx2
    have Kw2 := Lib.hid kw2
    have HoU2 := Lib.hid hoU2
    have Hlow2 := Lib.hid hlow2
    have Hs2 := Lib.hid hs2
    have lx2 := kx2.lt
    have lw2 := kw2.lt
    clear k7 hW2 hf2 kw2 kx2 hoU2 hlow2 hs2 x0 lx1 lw1 HoU HB7 HUa hxw
    go_upto_region 5 with fail
    go_cut [] (fun wx => ∃ A' n' c' U w7, wx = w7.setCell ⟨Wb, 3, none⟩ (.slice A' n' c') ∧ Hid (U.length = n') ∧ Hid (w7.ownsRow W2.heap.size 59 8 (.slice A' n' c') U.length (U.flatMap hcells)) ∧ Hid (UnlikeG U) ∧ Hid (Below W2.heap.size W2 w7))
    case first =>
      go_region_law (go_simp; go_at_call 12; refine HUb.out.mono ?_; rintro e w7 ⟨A', n', c', U', rfl, hn, ho, hU, hb⟩; have hk := Kw2.out.below hb Kw2.out.lt; have l7 := hk.lt; have f7 := hk.frozen; have z3 : w7.cell? ⟨Wb, 3, none⟩ = some (.slice none 0 0) := hk.cell 3; have Hn7 := Lib.hid hn; have Ho7 := Lib.hid ho; have HU7 := Lib.hid hU; have HB7 := Lib.hid hb; clear hk hn ho hU hb)
      all_goals
        go_wp2_with fail
        go_meet
        case rel => exact ⟨A', n', c', U', w7, rfl, Hn7, Ho7, HU7, HB7⟩
    case rest =>
      obtain ⟨VA, vn, vc, V, w8, rfl, Hvn, HoV, HV, HB8⟩ := hcut
      have k8 := Kw2.out.below HB8.out Kw2.out.lt
      obtain ⟨W3, hW3⟩ : ∃ W3, W3 = w8.setCell ⟨Wb, 3, none⟩ (.slice VA vn vc) := ⟨_, rfl⟩
      rw [← hW3]
      have hf3 : Frame (fun j => j = Wb) W2 W3 := by rw [hW3]; exact (Frame.of_below HB8.out).setB 3 _
      have kw3 : Blk W3 Wb 51 #[.pointer none, .pointer none, .slice UA un uc, .slice VA vn vc, .int .i64 0, .slice L nl cl, .int .i64 0] := by rw [hW3]; exact k8.set_ 3 _
      have hxw : xb ≠ Wb := by have := Hlo.out; omega
      have kx3 : Blk W3 xb 47 #[.slice A na ca, .slice B nb cb, .slice L nl cl, .int .u32 s0, .int .u32 s1] := hf3.blk Kx2.out hxw
      have hoU3 : W3.ownsRow W1.heap.size 59 8 (.slice UA un uc) U.length (U.flatMap hcells) := hf3.own HoU2.out (fun g hg e => own_blk_ne HoU2.out Kw2.out (by decide) (e ▸ hg))
      have hoV3 : W3.ownsRow W2.heap.size 59 8 (.slice VA vn vc) V.length (V.flatMap hcells) := by rw [hW3]; exact own_far HoV.out (q := ⟨Wb, 3, none⟩) (own_blk_ne HoV.out k8 (by decide)) _
      have hlow3 : Frame (fun _ => False) w W3 := Hlow2.out.trans' hf3 (fun i hi e => by have := Hlo.out; omega)
      have hs3 := hf3.size
      have hNa : Calls Try.prog 13 #[.agg #[.int .u32 1, .int .u32 2, .int .u16 0, .int .u8 2, .int .u16 2, .int .u32 s0, .int .u16 65535]] W3 fun e w' => ∃ Ba ma OA oc, e = .returned (.tuple #[.pointer (some ⟨Ba, 0, none⟩), .slice OA 1 oc, .int .i64 0]) ∧ NewIs 1 2 s0 W3 Ba ma (.slice OA 1 oc) w' := new_is W3 1 2 s0 (by decide) (by decide) (by decide)
      have HNa := Lib.hid hNa
      have x3 : W3.cell? ⟨xb, 3, none⟩ = some (.int .u32 s0) := kx3.cell 3
      have Kx3 := Lib.hid kx3
      have Kw3 := Lib.hid kw3
      have HoU3 := Lib.hid hoU3
      have HoV3 := Lib.hid hoV3
      have Hlow3 := Lib.hid hlow3
      have Hs3 := Lib.hid hs3
      have lx3 := kx3.lt
      have lw3 := kw3.lt
      clear k8 hW3 hf3 kw3 kx3 hoU3 hoV3 hlow3 hs3 x1 lx2 lw2 HoV HB8 HUb hxw hNa
      go_wp2_with fail
      refine HNa.out.mono ?_
      rintro e W4 ⟨Ba, ma, OA, oc, rfl, hn4⟩
      have hb4 := hn4.2.2.2.2.1
      have kx4 := Kx3.out.below hb4 Kx3.out.lt
      have hNb : Calls Try.prog 13 #[.agg #[.int .u32 2, .int .u32 1, .int .u16 0, .int .u8 2, .int .u16 2, .int .u32 s1, .int .u16 65535]] W4 fun e w' => ∃ Ba ma OA oc, e = .returned (.tuple #[.pointer (some ⟨Ba, 0, none⟩), .slice OA 1 oc, .int .i64 0]) ∧ NewIs 2 1 s1 W4 Ba ma (.slice OA 1 oc) w' := new_is W4 2 1 s1 (by decide) (by decide) (by decide)
      have HNb := Lib.hid hNb
      have HN4 := Lib.hid hn4
      have x4 : W4.cell? ⟨xb, 4, none⟩ = some (.int .u32 s1) := kx4.cell 4
      have lx4 := kx4.lt
      clear hn4 hb4 kx4 hNb x3 lx3 lw3 HNa
      go_wp2_with fail
      refine HNb.out.mono ?_
      rintro e W5 ⟨Bb, mb, PA, pc, rfl, hn5⟩
      obtain ⟨q1, q2, q3, q4, q5, q6⟩ := HN4.out
      obtain ⟨r1, r2, r3, r4, r5, r6⟩ := hn5
      have kw4 := Kw3.out.below q5 Kw3.out.lt
      have kw5 := kw4.below r5 kw4.lt
      have HN5 := Lib.hid (show NewIs 2 1 s1 W4 Bb mb (.slice PA 1 pc) W5 from ⟨r1, r2, r3, r4, r5, r6⟩)
      have lw5 := kw5.lt
      have fw5 := kw5.frozen
      have y0 : W5.cell? ⟨Wb, 0, none⟩ = some (.pointer none) := kw5.cell 0
      have y1 : W5.cell? ⟨Wb, 1, none⟩ = some (.pointer none) := kw5.cell 1
      have Kw5 := Lib.hid kw5
      clear q1 q2 q3 q4 q5 q6 r1 r2 r3 r4 r5 r6 kw4 kw5 x4 lx4 HNb
      go_wp2_with fail
      obtain ⟨W6, hW6⟩ : ∃ W6, W6 = (W5.setCell ⟨Wb, 0, none⟩ (.pointer (some ⟨Ba, 0, none⟩))).setCell ⟨Wb, 1, none⟩ (.pointer (some ⟨Bb, 0, none⟩)) := ⟨_, rfl⟩
      rw [← hW6]
      have hbeg : ∃ (T : Tk) (P : Fu.Pa) (C : Cn) (WB : Nat → Prop), TkOk T ∧ CnOk C ∧ P.N = T.N ∧ P.a = T.WA.length ∧ P.b = T.WB.length ∧ P.N ≤ 4 ∧ P.lost.length ≤ 40 ∧ C.Wb = Wb ∧ C.Ba = Ba ∧ C.Bb = Bb ∧ (∀ j, WB j → w.heap.size ≤ j) ∧ Below w.heap.size w W6 ∧
          Calls Try.prog 18 #[.pointer (some ⟨Wb, 0, none⟩), .int .i64 1, .slice OA 1 oc] W6 fun e w1 => e = .returned (.tuple #[]) ∧ Calls Try.prog 18 #[.pointer (some ⟨Wb, 0, none⟩), .int .i64 0, .slice PA 1 pc] w1 fun e w2 => e = .returned (.tuple #[]) ∧ Went T P C W6 WB (Fu.first P) w2 := by
        obtain ⟨q1, q2, q3, q4, q5, q6⟩ := HN4.out
        obtain ⟨r1, r2, r3, r4, r5, r6⟩ := HN5.out
        have hlo := Hlo.out
        have s1' := Hb1.out.size
        have s2' := Hs2.out
        have s3' := Hs3.out
        have s4' := q5.size
        have s5' := r5.size
        have kw4 := Kw3.out.below q5 Kw3.out.lt
        have f56 : Frame (fun j => j = Wb) W5 W6 := by rw [hW6]; exact ((Frame.refl _ W5).setB 0 _).setB 1 _
        have f46 : Frame (fun j => j = Wb) W4 W6 := (Frame.of_below r5).trans f56
        have f36 : Frame (fun j => j = Wb) W3 W6 := (Frame.of_below q5).trans f46
        have kw6 : Blk W6 Wb 51 #[.pointer (some ⟨Ba, 0, none⟩), .pointer (some ⟨Bb, 0, none⟩), .slice UA un uc, .slice VA vn vc, .int .i64 0, .slice L nl cl, .int .i64 0] := by rw [hW6]; exact (Kw5.out.set_ 0 _).set_ 1 _
        have l4 := q3.lt
        have l5 := q4.lt
        have hlow6 : Frame (fun _ => False) w W6 := Hlow3.out.trans' f36 (fun i hi e => by omega)
        obtain ⟨hvO, hoO, hhO⟩ := q6
        obtain ⟨hvP, hoP, hhP⟩ := r6
        have u1 : OneDesc (newAdj 1 2 0 2 2 s0 65535 ma).firsted [] W3.heap.size W6 (.slice OA 1 oc) := ⟨hvO, f46.own hoO (fun g hg e => own_blk_ne hoO kw4 (by decide) (e ▸ hg)), f46.own hhO (fun g hg e => own_blk_ne hhO kw4 (by decide) (e ▸ hg))⟩
        have u2 : OneDesc (newAdj 2 1 0 2 2 s1 65535 mb).firsted [] W4.heap.size W6 (.slice PA 1 pc) := ⟨hvP, f56.own hoP (fun g hg e => own_blk_ne hoP Kw5.out (by decide) (e ▸ hg)), f56.own hhP (fun g hg e => own_blk_ne hhP Kw5.out (by decide) (e ▸ hg))⟩
        have hoU6 := f36.own HoU3.out (fun g hg e => own_blk_ne HoU3.out Kw3.out (by decide) (e ▸ hg))
        have hoV6 := f36.own HoV3.out (fun g hg e => own_blk_ne HoV3.out Kw3.out (by decide) (e ▸ hg))
        have hlr : Reads W6 w.heap.size 1 L nl (lost.map Value.bool) := hlow6.reads HL.out (Nat.le_refl _) (fun _ _ e => e)
        obtain ⟨T, P, C, WB, g1, g2, g3, g4, g5, g6, g7, g8, g9, g10, g11, g12⟩ := full_begin (Wb := Wb) (N0 := w.heap.size) (m3 := W3.heap.size) (m4 := W4.heap.size) (cl := cl) HU.out HV.out H01.out.1 H01.out.2 hnl kw6 (own_base hoU6 (by omega)) (own_base hoV6 (by omega)) (fun j hj hj2 => by have := (HoU2.out.lt j hj).2; have := (HoV3.out.lt j hj2).1; omega) (fun j hj => by
          rcases hj with hj | hj
          · exact (HoU3.out.lt j hj).2
          · exact (HoV3.out.lt j hj).2) (f46.blk q3 (by omega)) (f46.map q4 (by omega)) (f56.blk r3 (by omega)) (f56.map r4 (by omega)) (by omega) (by omega) q1 l4 q2 l5 r1 r2 hlr Hll.out u1 u2
        exact ⟨T, P, C, WB, g1, g2, g3, g4, g5, g6, g7, g8, g9, g10, g11, below_of_frame2 hlow6 (fun _ _ e => e), g12⟩
      obtain ⟨T, P, C, WB, hT, hC, hN, ha, hb, hN4, hlost, rfl, rfl, rfl, hWB, hb6, hfirst⟩ := hbeg
      have HT := Lib.hid hT
      have HC := Lib.hid hC
      have HN := Lib.hid hN
      have HA := Lib.hid ha
      have HB := Lib.hid hb
      have HN4' := Lib.hid hN4
      have Hlost := Lib.hid hlost
      have HWB := Lib.hid hWB
      have HB6 := Lib.hid hb6
      have HF := Lib.hid hfirst
      clear hT hC hN ha hb hN4 hlost hWB hb6 hfirst hW6 y0 y1 fw5 lw5 HN4 HN5 Kw5 HoU3 HoV3 HoU2 Kw3 Kw2 Kw1 Kx1 Kx2 Kx3 Hlow2 Hlow3 Hs2 Hs3 HU HV Hun Hvn HhA HrA HfA HhB HrB HfB HL Hll Hlo Hb1
      refine HF.out.mono ?_
      rintro e w1 ⟨rfl, hg⟩
      have HG1 := Lib.hid hg
      clear hg HF
      go_wp2_with fail
      refine HG1.out.mono ?_
      rintro e w2 ⟨rfl, hg⟩
      have HG2 := Lib.hid hg
      clear hg HG1
      go_wp2_with fail
      go_loopw [10] (fun x wr => ∃ t : Nat, t ≤ 300 ∧ x = .int .i64 t ∧ Hid (Went T P C W6 WB (Fu.rounds P t (Fu.first P)) wr)) (fun x _ => 300 - (intOf x).toNat)
      case atStart => exact ⟨0, by decide, rfl, HG2⟩
      case round =>
        clear HG2
        obtain ⟨t, ht, rfl, HG⟩ := hrel
        by_cases hlt : t < 300
        · have hlti : (t : Int) < 300 := by omega
          obtain ⟨p1, p2⟩ := round_ok (P := P) Hlost.out HN4'.out (by rw [HA.out]; exact wA_len HT.out) (by rw [HB.out]; exact wB_len HT.out) ht
          obtain ⟨p3, p4⟩ := round_half Hlost.out p1 p2
          have HTa := Lib.hid (half_a HT.out HC.out HN.out HA.out HB.out p1 (by omega) HG.out)
          have HTb := Lib.hid (fun w2 (h : Went T P C W6 WB (Fu.halfA P (Fu.rounds P t (Fu.first P))) w2) => half_b HT.out HC.out HN.out HA.out HB.out p3 p4 h)
          clear p1 p2 p3 p4
          go_wp2_with fail
          refine HTa.out.mono ?_
          rintro e w3 ⟨lv, rfl, hd⟩
          have HD := Lib.hid hd
          clear hd HTa
          go_wp2_with fail
          refine HD.out.mono ?_
          rintro e w4 ⟨rfl, hg⟩
          have HTb2 := Lib.hid (HTb.out w4 hg)
          clear hg HD HTb
          go_wp2_with fail
          refine HTb2.out.mono ?_
          rintro e w5 ⟨lv2, rfl, hd⟩
          have HD := Lib.hid hd
          clear hd HTb2
          go_wp2_with fail
          refine HD.out.mono ?_
          rintro e w6 ⟨rfl, hg⟩
          have HG6 := Lib.hid hg
          clear hg HD
          go_wp2_with fail
          go_roundw
          case rel => exact ⟨t + 1, by omega, by simp, HG6⟩
          case measure => simp [intOf]; omega
        · obtain rfl : t = 300 := by omega
          have hend : ∃ (A9 B9 : Option Addr) (c9 d9 n9 : Nat) (mv : Int), mv < 4000 ∧ n9 ≤ 120 ∧ (∃ a b : Adj, AdjAt wr C.Ba a ∧ AdjAt wr C.Bb b ∧ a.made = true ∧ b.made = true ∧ a.state = 3 ∧ b.state = 3 ∧ a.master = false ∧ b.master = true) ∧ Blk wr C.Wb 51 #[.pointer (some ⟨C.Ba, 0, none⟩), .pointer (some ⟨C.Bb, 0, none⟩), .slice A9 n9 c9, .slice B9 n9 d9, .int .i64 mv, .slice C.LA C.ln C.lc, .int .i64 mv] ∧ (gained T.A T.WA).length = n9 ∧ (gained T.B T.WB).length = n9 ∧ wr.ownsRow C.N0 59 8 (.slice A9 n9 c9) n9 ((gained T.A T.WA).flatMap hcells) ∧ wr.ownsRow C.N0 59 8 (.slice B9 n9 d9) n9 ((gained T.B T.WB).flatMap hcells) ∧ Below w.heap.size w wr := by
            obtain ⟨a, b, v0, v1, hnet, hf, -⟩ := HG.out
            have hdone := Fu.rounds_done Hlost.out (Fu.first_jo (P := P))
            obtain ⟨e1, e2, e3, e4, o9, p9⟩ := net_end HN.out HA.out HB.out hdone hnet
            obtain ⟨_, p2⟩ := round_ok (P := P) Hlost.out HN4'.out (by rw [HA.out]; exact wA_len HT.out) (by rw [HB.out]; exact wB_len HT.out) (Nat.le_refl 300)
            have hlen : (gained T.B T.WB).length = (gained T.A T.WA).length := (gained_length HT.out.uA HT.out.uB).symm
            have hn := (ownA HT.out T.WA.length).n
            rw [List.take_of_length_le (Nat.le_refl _)] at hn
            rw [hlen] at p9
            obtain ⟨A9, c9, rfl⟩ := own_slice o9
            obtain ⟨B9, d9, rfl⟩ := own_slice p9
            exact ⟨A9, B9, c9, d9, _, _, by omega, hn, ⟨a, b, hnet.sa.adj, hnet.sb.adj, hnet.sa.made, hnet.sb.made, e1, e2, e3, e4⟩, hnet.bs.wire, rfl, hlen, o9, p9, below_of HB6.out hf (fun j hj => HWB.out j hj) HB6.out.size⟩
          obtain ⟨A9, B9, c9, d9, n9, mv, hmv, hn9, ⟨a, b, hAa, hAb, hma, hmb, hsa, hsb, hms, hmt⟩, hwr9, hla, hlb, hoa, hob, hbel⟩ := hend
          have HSa : Hid (∀ n, Calls Try.prog 16 #[.pointer (some ⟨C.Ba, 0, none⟩)] (wr.drewN n) fun e w' => e = .returned (.int .u8 3) ∧ w' = wr.drewN n) := Lib.hid fun n => (state_is (wr.drewN n) C.Ba a hAa hma).mono fun e w' he => ⟨by rw [he.1, hsa], he.2.symm⟩
          have HSb : Hid (∀ n, Calls Try.prog 16 #[.pointer (some ⟨C.Bb, 0, none⟩)] (wr.drewN n) fun e w' => e = .returned (.int .u8 3) ∧ w' = wr.drewN n) := Lib.hid fun n => (state_is (wr.drewN n) C.Bb b hAb hmb).mono fun e w' he => ⟨by rw [he.1, hsb], he.2.symm⟩
          have HMa : Hid (∀ n, Calls Try.prog 20 #[.pointer (some ⟨C.Ba, 0, none⟩)] (wr.drewN n) fun e w' => e = .returned (.bool false) ∧ w' = wr.drewN n) := Lib.hid fun n => (master_is (wr.drewN n) C.Ba a hAa hma).mono fun e w' he => ⟨by rw [he.1, hms], he.2.symm⟩
          have HMb : Hid (∀ n, Calls Try.prog 20 #[.pointer (some ⟨C.Bb, 0, none⟩)] (wr.drewN n) fun e w' => e = .returned (.bool true) ∧ w' = wr.drewN n) := Lib.hid fun n => (master_is (wr.drewN n) C.Bb b hAb hmb).mono fun e w' he => ⟨by rw [he.1, hmt], he.2.symm⟩
          have c2 : wr.cell? ⟨C.Wb, 2, none⟩ = some (.slice A9 n9 c9) := hwr9.cell 2
          have c3 : wr.cell? ⟨C.Wb, 3, none⟩ = some (.slice B9 n9 d9) := hwr9.cell 3
          have c6 : wr.cell? ⟨C.Wb, 6, none⟩ = some (.int .i64 mv) := hwr9.cell 6
          have hge : decide (4000 ≤ mv) = false := decide_eq_false (by omega)
          have hbn : ((n9 : Int) != (n9 : Int)) = false := by simp
          have l9 := hwr9.lt
          have Hwr9 := Lib.hid hwr9
          have Hla := Lib.hid hla
          have Hlb := Lib.hid hlb
          have Hoa := Lib.hid hoa
          have Hob := Lib.hid hob
          have Hbel := Lib.hid hbel
          clear hmv hAa hAb hma hmb hsa hsb hms hmt hwr9 hla hlb hoa hob hbel HG hlt HB6 HWB HA HB HN HN4' Hlost HC
          go_upto_region 19 with fail
          go_quiet (first
            | (go_at_call 16; with_reducible exact Calls.quiet_of_same (HSa.out _))
            | (go_at_call 16; with_reducible exact Calls.quiet_of_same (HSb.out _))
            | (go_at_call 20; with_reducible exact Calls.quiet_of_same (HMa.out _))
            | (go_at_call 20; with_reducible exact Calls.quiet_of_same (HMb.out _)))
          obtain ⟨W9, hW9⟩ : ∃ W9, W9 = wr.drewN nq := ⟨_, rfl⟩
          rw [← hW9]
          have hb9 : Below wr.heap.size wr W9 := by rw [hW9]; exact drewB' wr nq
          have hf9 : Frame (fun _ => False) wr W9 := Frame.of_below hb9
          have kw9 := Hwr9.out.below hb9 Hwr9.out.lt
          have Kw9 := Lib.hid kw9
          have Oa9 := Lib.hid (hf9.own Hoa.out (fun _ _ e => e))
          have Ob9 := Lib.hid (hf9.own Hob.out (fun _ _ e => e))
          have Bel9 := Lib.hid (Hbel.out.trans (hb9.mono Hbel.out.size))
          have c2' : W9.cell? ⟨C.Wb, 2, none⟩ = some (.slice A9 n9 c9) := kw9.cell 2
          have l9' := kw9.lt
          clear hW9 hb9 hf9 kw9 c2 c3 c6 l9 Hoa Hob Hbel Hwr9 HSa HSb HMa HMb hge hbn
          go_wp2_with fail
          go_loopw [11] (fun x wx => ∃ i : Nat, i ≤ n9 ∧ x = .int .i64 i ∧ Hid (Below W9.heap.size W9 wx)) (fun x _ => n9 - (intOf x).toNat)
          case atStart => exact ⟨0, Nat.zero_le _, rfl, Lib.hid (Below.refl _ _)⟩
          case round =>
            obtain ⟨i, hi, rfl, HBl⟩ := hrel
            obtain ⟨wq, hwq⟩ : ∃ wq, wq = wr := ⟨_, rfl⟩
            rw [← hwq] at HBl ⊢
            clear hwq
            clear c2' l9'
            have hkq := Kw9.out.below HBl.out Kw9.out.lt
            have c2 : wq.cell? ⟨C.Wb, 2, none⟩ = some (.slice A9 n9 c9) := hkq.cell 2
            have l9 := hkq.lt
            by_cases hlt : i < n9
            · obtain ⟨x, hx⟩ : ∃ x, (gained T.A T.WA)[i]? = some x := ⟨_, List.getElem?_eq_getElem (by rw [Hla.out]; exact hlt)⟩
              obtain ⟨j, hj⟩ := findIs_ex (gained T.B T.WB) (keyOfHd x)
              obtain ⟨i0, y, rfl, hy, hnew⟩ := net_same HT.out hx hj
              have oaq := (Frame.of_below (S := fun _ => False) HBl.out).own Oa9.out (fun _ _ e => e)
              have obq := (Frame.of_below (S := fun _ => False) HBl.out).own Ob9.out (fun _ _ e => e)
              have hxf := (ownA HT.out T.WA.length).ok x (by rw [List.take_of_length_le (Nat.le_refl _)]; exact List.mem_of_getElem? hx)
              have hyf := (ownB HT.out T.WB.length).ok y (by rw [List.take_of_length_le (Nat.le_refl _)]; exact List.mem_of_getElem? hy)
              obtain ⟨bl, off, hA9, hbl, hcell⟩ := (Reads.of_own oaq).head hx
              obtain ⟨bm, ofm, hB9, hbm, hcelm⟩ := (Reads.of_own obq).head hy
              subst hA9
              subst hB9
              have hi0 : i0 < n9 := by have := (List.getElem?_eq_some_iff.1 hy).1; rw [Hlb.out] at this; exact this
              obtain ⟨g, o, t, ii, v, s, mm, l⟩ := x
              obtain ⟨g', o', t', ii', v', s', mm', l'⟩ := y
              have d0 := later_cell (v := .int .u16 g) (B := wq.heap.size) (w0 := wq) (p := ⟨bl, off + i * 8, none⟩) hbl (hcell 0 _ rfl)
              have d1 := later_cell (v := .int .u8 o) (B := wq.heap.size) (w0 := wq) (p := ⟨bl, off + i * 8 + 1, none⟩) hbl (hcell 1 _ rfl)
              have d2 := later_cell (v := .int .u8 t) (B := wq.heap.size) (w0 := wq) (p := ⟨bl, off + i * 8 + 2, none⟩) hbl (hcell 2 _ rfl)
              have d3 := later_cell (v := .int .u32 ii) (B := wq.heap.size) (w0 := wq) (p := ⟨bl, off + i * 8 + 3, none⟩) hbl (hcell 3 _ rfl)
              have d4 := later_cell (v := .int .u32 v) (B := wq.heap.size) (w0 := wq) (p := ⟨bl, off + i * 8 + 4, none⟩) hbl (hcell 4 _ rfl)
              have d5 := later_cell (v := .int .i32 s) (B := wq.heap.size) (w0 := wq) (p := ⟨bl, off + i * 8 + 5, none⟩) hbl (hcell 5 _ rfl)
              have d6 := later_cell (v := .int .u16 mm) (B := wq.heap.size) (w0 := wq) (p := ⟨bl, off + i * 8 + 6, none⟩) hbl (hcell 6 _ rfl)
              have d7 := later_cell (v := .int .u16 l) (B := wq.heap.size) (w0 := wq) (p := ⟨bl, off + i * 8 + 7, none⟩) hbl (hcell 7 _ rfl)
              have e0 := later_cell (v := .int .u16 g') (B := wq.heap.size) (w0 := wq) (p := ⟨bm, ofm + i0 * 8, none⟩) hbm (hcelm 0 _ rfl)
              have e1 := later_cell (v := .int .u8 o') (B := wq.heap.size) (w0 := wq) (p := ⟨bm, ofm + i0 * 8 + 1, none⟩) hbm (hcelm 1 _ rfl)
              have e2 := later_cell (v := .int .u8 t') (B := wq.heap.size) (w0 := wq) (p := ⟨bm, ofm + i0 * 8 + 2, none⟩) hbm (hcelm 2 _ rfl)
              have e3 := later_cell (v := .int .u32 ii') (B := wq.heap.size) (w0 := wq) (p := ⟨bm, ofm + i0 * 8 + 3, none⟩) hbm (hcelm 3 _ rfl)
              have e4 := later_cell (v := .int .u32 v') (B := wq.heap.size) (w0 := wq) (p := ⟨bm, ofm + i0 * 8 + 4, none⟩) hbm (hcelm 4 _ rfl)
              have e5 := later_cell (v := .int .i32 s') (B := wq.heap.size) (w0 := wq) (p := ⟨bm, ofm + i0 * 8 + 5, none⟩) hbm (hcelm 5 _ rfl)
              have e6 := later_cell (v := .int .u16 mm') (B := wq.heap.size) (w0 := wq) (p := ⟨bm, ofm + i0 * 8 + 6, none⟩) hbm (hcelm 6 _ rfl)
              have e7 := later_cell (v := .int .u16 l') (B := wq.heap.size) (w0 := wq) (p := ⟨bm, ofm + i0 * 8 + 7, none⟩) hbm (hcelm 7 _ rfl)
              have q2 := later_cell (v := .slice (some ⟨bl, off, none⟩) n9 c9) (B := wq.heap.size) (w0 := wq) (p := ⟨C.Wb, 2, none⟩) hkq.lt (hkq.cell 2)
              have q3 := later_cell (v := .slice (some ⟨bm, ofm, none⟩) n9 d9) (B := wq.heap.size) (w0 := wq) (p := ⟨C.Wb, 3, none⟩) hkq.lt (hkq.cell 3)
              have dk : Hid (∀ u : Later wq.heap.size wq, Calls Try.prog 22 #[.agg #[.int .u16 g, .int .u8 o, .int .u8 t, .int .u32 ii, .int .u32 v, .int .i32 s, .int .u16 mm, .int .u16 l]] u.to fun e w' => e = .returned (.agg #[.int .u8 t, .int .u32 ii, .int .u32 v]) ∧ Below u.to.heap.size u.to w') := Lib.hid (fun u => rkey_any u.to ⟨g, o, t, ii, v, s, mm, l⟩)
              have df : Hid (∀ u : Later wq.heap.size wq, Calls Try.prog 21 #[.slice (some ⟨bm, ofm, none⟩) n9 d9, .agg #[.int .u8 t, .int .u32 ii, .int .u32 v]] u.to fun e w' => e = .returned (.int .i64 (i0 : Int)) ∧ Below u.to.heap.size u.to w') := Lib.hid (fun u => by
                have ou := (Frame.of_below (S := fun _ => False) u.ok).own obq (fun _ _ e => e)
                refine (find_is u.to _ (gained T.B T.WB) t ii v (HeadsIn.own ou Hlb.out) (by rw [Hlb.out]; omega)).mono ?_
                rintro e w' ⟨j', rfl, hj', hb'⟩
                exact ⟨by rw [findIs_uniq hj' hj], hb'⟩)
              have dn : Hid (∀ u : Later wq.heap.size wq, Calls Try.prog 23 #[.agg #[.int .u16 g, .int .u8 o, .int .u8 t, .int .u32 ii, .int .u32 v, .int .i32 s, .int .u16 mm, .int .u16 l], .agg #[.int .u16 g', .int .u8 o', .int .u8 t', .int .u32 ii', .int .u32 v', .int .i32 s', .int .u16 mm', .int .u16 l']] u.to fun e w' => e = .returned (.int .i64 0) ∧ Below u.to.heap.size u.to w') := Lib.hid (fun u => by
                have h := rnewer_any g o t ii v s mm l g' o' t' ii' v' s' mm' l' u.to hxf.2.g0 hxf.2.g1 hyf.2.g0 hyf.2.g1 hxf.2.s0 hxf.2.s1 hyf.2.s0 hyf.2.s1 hxf.2.m0 hxf.2.m1 hyf.2.m0 hyf.2.m1
                rw [hnew] at h
                exact h)
              have hlti : (i : Int) < (n9 : Int) := by omega
              have hlt0 : (i0 : Int) < (n9 : Int) := by omega
              have hneg : decide ((i0 : Int) < 0) = false := by simp
              clear hx hj hy hnew oaq obq hxf hyf hbl hcell hbm hcelm hkq hi0
              go_upto_region 24 with fail
              refine wp_region_later (B := wq.heap.size) (w0 := wq) (by kernel_rfl) (by kernel_rfl) (Below.refl _ _) ?_
              repeat (go_big_quiet_step (first
                | (go_at_call 22; with_reducible exact later_call _ (Nat.le_refl _) (dk.out _))
                | (go_at_call 21; with_reducible exact later_call _ (Nat.le_refl _) (df.out _))))
              refine wpQuiet_nil ?_
              rintro wx ⟨⟨wy, hwy⟩, hw⟩
              obtain rfl : wx = wy := hw
              go_upto_region 25 with fail
              refine wp_region_later (B := wq.heap.size) (w0 := wq) (by kernel_rfl) (by kernel_rfl) hwy ?_
              repeat (go_big_quiet_step (first
                | (go_at_call 23; with_reducible exact later_call _ (Nat.le_refl _) (dn.out _))))
              refine wpQuiet_nil ?_
              rintro wz ⟨⟨wy, hwz⟩, hw⟩
              obtain rfl : wz = wy := hw
              have HBz := Lib.hid (HBl.out.trans (hwz.mono HBl.out.size))
              clear hwz hwy
              go_wp2_with fail
              go_roundw
              case rel => exact ⟨i + 1, by omega, by simp, HBz⟩
              case measure => simp [intOf]; omega
            · obtain rfl : i = n9 := by omega
              have HBq := Lib.hid (Bel9.out.trans (HBl.out.mono Bel9.out.size))
              clear hkq HBl
              go_wp2_with (go_at_call 11; refine (works_any _).mono ?_; rintro e w1 ⟨rfl, hb1⟩)
              go_ret
              exact ⟨rfl, HBq.out.trans (hb1.mono HBq.out.size)⟩
end Go.Proofs.Ytgbmhijgpdgdbaa

namespace Go.Proofs.Ytgbmhijgpdgdbaa
open Go.RowKit

set_option maxHeartbeats 1000000 in
set_option maxRecDepth 20000 in
theorem lawFull_any (w : World) (A B L : Option Addr) (na ca nb cb nl cl : Nat) (lA lB : List Od.Hd) (lost : List Bool) (s0 s1 : Int)
    (hA : HeadsAt w w.heap.size (.slice A na ca) lA) (hrA : ∀ x ∈ lA, HdRaw x) (hfA : ∀ x ∈ lA, HdFull x) (hB : HeadsAt w w.heap.size (.slice B nb cb) lB) (hrB : ∀ x ∈ lB, HdRaw x) (hfB : ∀ x ∈ lB, HdFull x)
    (hL : Reads w w.heap.size 1 L nl (lost.map Value.bool)) (hll : lost.length = nl) (h0 : 0 ≤ s1) (h1 : s1 < 4294967296) :
    Calls Try.prog 4 #[.agg #[.slice A na ca, .slice B nb cb, .slice L nl cl, .int .u32 s0, .int .u32 s1]] w fun e w' => e = .returned (.bool true) ∧ Below w.heap.size w w' := by
  by_cases hna : na ≤ 100
  · by_cases hnb : nb ≤ 100
    · by_cases hnl : nl ≤ 40
      · exact full_walk w A B L na ca nb cb nl cl lA lB lost s0 s1 hA hrA hfA hB hrB hfB hL hll h0 h1 hna hnb hnl
      · have d1 : decide ((100 : Int) < (na : Int)) = false := decide_eq_false (by omega)
        have d2 : decide ((100 : Int) < (nb : Int)) = false := decide_eq_false (by omega)
        have d3 : decide ((40 : Int) < (nl : Int)) = true := decide_eq_true (by omega)
        clear hA hrA hfA hB hrB hfB hL hll h0 h1 hna hnb hnl
        have hb : Below w.heap.size w (w.alloc (.cells #[.slice A na ca, .slice B nb cb, .slice L nl cl, .int .u32 s0, .int .u32 s1] 47)) := (Below.refl _ w).alloc (Nat.le_refl _) _
        have HB := Lib.hid hb
        clear hb
        go_enter Try.func4, Try.ntmps4
        go_wp2_with (go_at_call 11; refine (works_any _).mono ?_; rintro e w1 ⟨rfl, hb1⟩)
        go_ret
        exact ⟨rfl, HB.out.trans (hb1.mono HB.out.size)⟩
    · have d1 : decide ((100 : Int) < (na : Int)) = false := decide_eq_false (by omega)
      have d2 : decide ((100 : Int) < (nb : Int)) = true := decide_eq_true (by omega)
      clear hA hrA hfA hB hrB hfB hL hll h0 h1 hna hnb
      have hb : Below w.heap.size w (w.alloc (.cells #[.slice A na ca, .slice B nb cb, .slice L nl cl, .int .u32 s0, .int .u32 s1] 47)) := (Below.refl _ w).alloc (Nat.le_refl _) _
      have HB := Lib.hid hb
      clear hb
      go_enter Try.func4, Try.ntmps4
      go_wp2_with (go_at_call 11; refine (works_any _).mono ?_; rintro e w1 ⟨rfl, hb1⟩)
      go_ret
      exact ⟨rfl, HB.out.trans (hb1.mono HB.out.size)⟩
  · have d1 : decide ((100 : Int) < (na : Int)) = true := decide_eq_true (by omega)
    clear hA hrA hfA hB hrB hfB hL hll h0 h1 hna
    have hb : Below w.heap.size w (w.alloc (.cells #[.slice A na ca, .slice B nb cb, .slice L nl cl, .int .u32 s0, .int .u32 s1] 47)) := (Below.refl _ w).alloc (Nat.le_refl _) _
    have HB := Lib.hid hb
    clear hb
    go_enter Try.func4, Try.ntmps4
    go_wp2_with (go_at_call 11; refine (works_any _).mono ?_; rintro e w1 ⟨rfl, hb1⟩)
    go_ret
    exact ⟨rfl, HB.out.trans (hb1.mono HB.out.size)⟩
end Go.Proofs.Ytgbmhijgpdgdbaa
