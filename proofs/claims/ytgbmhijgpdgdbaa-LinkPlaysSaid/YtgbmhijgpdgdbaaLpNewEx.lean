/- New, of whatever config: what it answers, both ways. -/
import Derived.Test.YtgbmhijgpdgdbaaLpPmEx
import Derived.Test.YtgbmhijgpdgdbaaLpMxX
import Derived.Deep.DeepCutAuto
set_option maxHeartbeats 8000000
set_option maxRecDepth 20000
namespace Go.Proofs.Ytgbmhijgpdgdbaa
open Go.RowKit
def n1 (c : LC) (pv pm : Bool) : Bool := decide (c.ty ≤ 4) && (c.ro != 0 && (c.hi != 0 && (c.dd != 0 && ((pv == decide (0 < c.po)) && (decide (c.nb ≤ 32) && pm)))))
def nV (c : LC) (b : Bool) : Bool := b && ((c.na == 0 && c.nb == 0) && (c.ad == 0 && (c.rm != 0 && (c.rm != c.ro && !c.ps))))
def nO (c : LC) (b : Bool) : Bool := b && (c.rm == 0 && (c.ad != 0 && (decide (bits .and .u32 c.na (maskN c.nb.toNat) = c.na) && (decide (bits .and .u32 c.ad (maskN c.nb.toNat) = c.na) && (!c.dm || c.ty == 3)))))
def NewEx (b : Bool) (c : LC) (L : List (Int × Int)) (w : World) (e : Ending) (w' : World) : Prop :=
  (b = true ∧ ∃ B v, e = .returned (.tuple #[.pointer (some ⟨B, 0, none⟩), .int .i64 0]) ∧ w.heap.size ≤ B ∧ Blk w' B 119 (lks { c with pe := v } 0 0 0 0 0 0 0 (.slice none 0 0)) ∧ PeersAt w' B v L ∧ Below w.heap.size w w') ∨
  (b = false ∧ e = .returned (.tuple #[.pointer none, .int .i64 60]) ∧ Below w.heap.size w w')
theorem new_ex_v (w : World) (c : LC) (L : List (Int × Int)) (hL : PeersAt w w.heap.size c.pe L) (hlen : L.length ≤ 200) (had : WdOk c.ad) (hwd : ∀ p ∈ L, WdOk p.1) (h7 : (c.ty == 4) = true) :
    Calls Try.prog 31 #[.agg c.cells] w fun e w' => NewEx (nV c (n1 c c.peers (pmB c L))) c L w e w' := by
  obtain ⟨i0, hi, hz0, hz1, hz2⟩ := info_parts lpeer_info
  obtain ⟨A, cap, hpe, hr⟩ := hL
  have HPE := Lib.hid hpe
  have HR := Lib.hid hr
  have HPm : Hid (∀ W, Below w.heap.size w W → Calls Try.prog 64 #[.agg c.cells] W fun e w' => e = .returned (.bool (pmB c L)) ∧ Below W.heap.size W w') := Lib.hid (fun W hb => peersMay_ex W c L ⟨A, cap, hpe, (hr.below hb).more hb.size⟩ hlen had hwd)
  obtain ⟨pv, hpv⟩ : ∃ b, c.peers = b := ⟨_, rfl⟩
  obtain ⟨pm, hpm⟩ : ∃ b, pmB c L = b := ⟨_, rfl⟩
  have HPv := Lib.hid hpv
  rw [hpv, hpm]
  rw [hpm] at HPm
  have H7 := Lib.hid h7
  clear hpe hr had hwd hpv hpm h7
  unfold LC.cells
  go_enter Try.func31, Try.ntmps31
  go_upto_region 1 with fail
  obtain ⟨W0, hW0⟩ : ∃ W0, W0 = w.alloc (.cells c.cells 83) := ⟨_, rfl⟩
  have K0 : Hid (Blk W0 w.heap.size 83 c.cells) := Lib.hid (by rw [hW0]; exact Blk.new w _ _)
  have B0 : Hid (Below w.heap.size w W0) := Lib.hid (by rw [hW0]; exact (Below.refl _ w).alloc (Nat.le_refl _) _)
  have hs0 : w.heap.size < W0.heap.size := K0.out.lt
  unfold LC.cells at hW0
  rw [← hW0]
  clear hW0
  have q0 := later_cell (v := .int .u8 c.ty) (B := w.heap.size + 1) (w0 := W0) (p := ⟨w.heap.size, 0, none⟩) (by simp) (K0.out.cell 0)
  have q1 := later_cell (v := .int .u32 c.ro) (B := w.heap.size + 1) (w0 := W0) (p := ⟨w.heap.size, 1, none⟩) (by simp) (K0.out.cell 1)
  have q2 := later_cell (v := .int .u32 c.na) (B := w.heap.size + 1) (w0 := W0) (p := ⟨w.heap.size, 2, none⟩) (by simp) (K0.out.cell 2)
  have q3 := later_cell (v := .int .u8 c.nb) (B := w.heap.size + 1) (w0 := W0) (p := ⟨w.heap.size, 3, none⟩) (by simp) (K0.out.cell 3)
  have q4 := later_cell (v := .int .u32 c.ad) (B := w.heap.size + 1) (w0 := W0) (p := ⟨w.heap.size, 4, none⟩) (by simp) (K0.out.cell 4)
  have q5 := later_cell (v := .int .u8 c.op) (B := w.heap.size + 1) (w0 := W0) (p := ⟨w.heap.size, 5, none⟩) (by simp) (K0.out.cell 5)
  have q6 := later_cell (v := .int .u16 c.hi) (B := w.heap.size + 1) (w0 := W0) (p := ⟨w.heap.size, 6, none⟩) (by simp) (K0.out.cell 6)
  have q7 := later_cell (v := .int .u32 c.dd) (B := w.heap.size + 1) (w0 := W0) (p := ⟨w.heap.size, 7, none⟩) (by simp) (K0.out.cell 7)
  have q8 := later_cell (v := .int .u16 c.po) (B := w.heap.size + 1) (w0 := W0) (p := ⟨w.heap.size, 8, none⟩) (by simp) (K0.out.cell 8)
  have q9 := later_cell (v := .int .u8 c.pr) (B := w.heap.size + 1) (w0 := W0) (p := ⟨w.heap.size, 9, none⟩) (by simp) (K0.out.cell 9)
  have q10 := later_cell (v := .bool c.dm) (B := w.heap.size + 1) (w0 := W0) (p := ⟨w.heap.size, 10, none⟩) (by simp) (K0.out.cell 10)
  have q11 := later_cell (v := .bool c.ps) (B := w.heap.size + 1) (w0 := W0) (p := ⟨w.heap.size, 11, none⟩) (by simp) (K0.out.cell 11)
  have q12 := later_cell (v := c.pe) (B := w.heap.size + 1) (w0 := W0) (p := ⟨w.heap.size, 12, none⟩) (by simp) (K0.out.cell 12)
  have q13 := later_cell (v := .int .u32 c.rm) (B := w.heap.size + 1) (w0 := W0) (p := ⟨w.heap.size, 13, none⟩) (by simp) (K0.out.cell 13)
  have d1 : Hid (∀ u : Later (w.heap.size + 1) W0, Calls Try.prog 63 #[.agg #[.int .u8 c.ty, .int .u32 c.ro, .int .u32 c.na, .int .u8 c.nb, .int .u32 c.ad, .int .u8 c.op, .int .u16 c.hi, .int .u32 c.dd, .int .u16 c.po, .int .u8 c.pr, .bool c.dm, .bool c.ps, c.pe, .int .u32 c.rm]] u.to fun e w' => e = .returned (.bool pv) ∧ Below u.to.heap.size u.to w') := Lib.hid (fun u => by have h := peers_any c u.to; rw [HPv.out] at h; exact h)
  have d2 : Hid (∀ u : Later (w.heap.size + 1) W0, Calls Try.prog 64 #[.agg #[.int .u8 c.ty, .int .u32 c.ro, .int .u32 c.na, .int .u8 c.nb, .int .u32 c.ad, .int .u8 c.op, .int .u16 c.hi, .int .u32 c.dd, .int .u16 c.po, .int .u8 c.pr, .bool c.dm, .bool c.ps, c.pe, .int .u32 c.rm]] u.to fun e w' => e = .returned (.bool pm) ∧ Below u.to.heap.size u.to w') := Lib.hid (fun u => HPm.out u.to (B0.out.trans (u.ok.mono (by omega))))
  go_cut [4] from 5 to 40 (fun p wx => p = .bool (n1 c pv pm) ∧ Hid (Below (w.heap.size + 1) W0 wx))
  case first =>
    by_cases s1 : c.ty ≤ 4
    · rcases s2 : (c.ro != 0) with _ | _
      · refine wp_region_later (B := w.heap.size + 1) (w0 := W0) (by kernel_rfl) (by kernel_rfl) (Below.refl _ _) ?_
        repeat (go_big_quiet_step (first
          | (go_at_call 63; with_reducible exact later_call _ (by omega) (d1.out _))
          | (go_at_call 64; with_reducible exact later_call _ (by omega) (d2.out _))))
        refine wpQuiet_nil ?_
        rintro wx ⟨⟨wy, hwy⟩, hwe⟩
        obtain rfl : wx = wy := hwe
        go_wp2_with fail
        go_meet
        case rel => exact ⟨by first | (simp [n1, *]; done) | (simp [n1, *]; intros; omega), Lib.hid hwy⟩
      · rcases s3 : (c.hi != 0) with _ | _
        · refine wp_region_later (B := w.heap.size + 1) (w0 := W0) (by kernel_rfl) (by kernel_rfl) (Below.refl _ _) ?_
          repeat (go_big_quiet_step (first
            | (go_at_call 63; with_reducible exact later_call _ (by omega) (d1.out _))
            | (go_at_call 64; with_reducible exact later_call _ (by omega) (d2.out _))))
          refine wpQuiet_nil ?_
          rintro wx ⟨⟨wy, hwy⟩, hwe⟩
          obtain rfl : wx = wy := hwe
          go_wp2_with fail
          go_meet
          case rel => exact ⟨by first | (simp [n1, *]; done) | (simp [n1, *]; intros; omega), Lib.hid hwy⟩
        · rcases s4 : (c.dd != 0) with _ | _
          · refine wp_region_later (B := w.heap.size + 1) (w0 := W0) (by kernel_rfl) (by kernel_rfl) (Below.refl _ _) ?_
            repeat (go_big_quiet_step (first
              | (go_at_call 63; with_reducible exact later_call _ (by omega) (d1.out _))
              | (go_at_call 64; with_reducible exact later_call _ (by omega) (d2.out _))))
            refine wpQuiet_nil ?_
            rintro wx ⟨⟨wy, hwy⟩, hwe⟩
            obtain rfl : wx = wy := hwe
            go_wp2_with fail
            go_meet
            case rel => exact ⟨by first | (simp [n1, *]; done) | (simp [n1, *]; intros; omega), Lib.hid hwy⟩
          · rcases s5 : (pv == decide (0 < c.po)) with _ | _
            · refine wp_region_later (B := w.heap.size + 1) (w0 := W0) (by kernel_rfl) (by kernel_rfl) (Below.refl _ _) ?_
              repeat (go_big_quiet_step (first
                | (go_at_call 63; with_reducible exact later_call _ (by omega) (d1.out _))
                | (go_at_call 64; with_reducible exact later_call _ (by omega) (d2.out _))))
              refine wpQuiet_nil ?_
              rintro wx ⟨⟨wy, hwy⟩, hwe⟩
              obtain rfl : wx = wy := hwe
              go_wp2_with fail
              go_meet
              case rel => exact ⟨by first | (simp [n1, *]; done) | (simp [n1, *]; intros; omega), Lib.hid hwy⟩
            · by_cases s6 : c.nb ≤ 32
              · refine wp_region_later (B := w.heap.size + 1) (w0 := W0) (by kernel_rfl) (by kernel_rfl) (Below.refl _ _) ?_
                repeat (go_big_quiet_step (first
                  | (go_at_call 63; with_reducible exact later_call _ (by omega) (d1.out _))
                  | (go_at_call 64; with_reducible exact later_call _ (by omega) (d2.out _))))
                refine wpQuiet_nil ?_
                rintro wx ⟨⟨wy, hwy⟩, hwe⟩
                obtain rfl : wx = wy := hwe
                go_wp2_with fail
                go_meet
                case rel => exact ⟨by first | (simp [n1, *]; done) | (simp [n1, *]; intros; omega), Lib.hid hwy⟩
              · refine wp_region_later (B := w.heap.size + 1) (w0 := W0) (by kernel_rfl) (by kernel_rfl) (Below.refl _ _) ?_
                repeat (go_big_quiet_step (first
                  | (go_at_call 63; with_reducible exact later_call _ (by omega) (d1.out _))
                  | (go_at_call 64; with_reducible exact later_call _ (by omega) (d2.out _))))
                refine wpQuiet_nil ?_
                rintro wx ⟨⟨wy, hwy⟩, hwe⟩
                obtain rfl : wx = wy := hwe
                go_wp2_with fail
                go_meet
                case rel => exact ⟨by first | (simp [n1, *]; done) | (simp [n1, *]; intros; omega), Lib.hid hwy⟩
    · refine wp_region_later (B := w.heap.size + 1) (w0 := W0) (by kernel_rfl) (by kernel_rfl) (Below.refl _ _) ?_
      repeat (go_big_quiet_step (first
        | (go_at_call 63; with_reducible exact later_call _ (by omega) (d1.out _))
        | (go_at_call 64; with_reducible exact later_call _ (by omega) (d2.out _))))
      refine wpQuiet_nil ?_
      rintro wx ⟨⟨wy, hwy⟩, hwe⟩
      obtain rfl : wx = wy := hwe
      go_wp2_with fail
      go_meet
      case rel => exact ⟨by first | (simp [n1, *]; done) | (simp [n1, *]; intros; omega), Lib.hid hwy⟩
  obtain ⟨rfl, HB1⟩ := hcut
  obtain ⟨W1, hW1⟩ : ∃ y, y = wc := ⟨_, rfl⟩
  rw [← hW1] at HB1 ⊢
  have B1 := Lib.hid (B0.out.trans (HB1.out.mono (Nat.le_succ _)))
  have K1 := Lib.hid (K0.out.below HB1.out (Nat.lt_succ_self _))
  obtain ⟨b1, hb1⟩ : ∃ b, n1 c pv pm = b := ⟨_, rfl⟩
  have HB1e := Lib.hid hb1
  rw [hb1]
  clear hW1 d1 d2 hb1 q0 q1 q2 q3 q4 q5 q6 q7 q8 q9 q10 q11 q12 q13
  have hs1 : w.heap.size < W1.heap.size := K1.out.lt
  have z0 : W1.cell? ⟨w.heap.size, 0, none⟩ = some (.int .u8 c.ty) := K1.out.cell 0
  have h7 := H7.out
  go_upto_if 43 with fail
  clear z0
  have q0 := later_cell (v := .int .u8 c.ty) (B := w.heap.size + 1) (w0 := W1) (p := ⟨w.heap.size, 0, none⟩) (by simp) (K1.out.cell 0)
  have q1 := later_cell (v := .int .u32 c.ro) (B := w.heap.size + 1) (w0 := W1) (p := ⟨w.heap.size, 1, none⟩) (by simp) (K1.out.cell 1)
  have q2 := later_cell (v := .int .u32 c.na) (B := w.heap.size + 1) (w0 := W1) (p := ⟨w.heap.size, 2, none⟩) (by simp) (K1.out.cell 2)
  have q3 := later_cell (v := .int .u8 c.nb) (B := w.heap.size + 1) (w0 := W1) (p := ⟨w.heap.size, 3, none⟩) (by simp) (K1.out.cell 3)
  have q4 := later_cell (v := .int .u32 c.ad) (B := w.heap.size + 1) (w0 := W1) (p := ⟨w.heap.size, 4, none⟩) (by simp) (K1.out.cell 4)
  have q5 := later_cell (v := .int .u8 c.op) (B := w.heap.size + 1) (w0 := W1) (p := ⟨w.heap.size, 5, none⟩) (by simp) (K1.out.cell 5)
  have q6 := later_cell (v := .int .u16 c.hi) (B := w.heap.size + 1) (w0 := W1) (p := ⟨w.heap.size, 6, none⟩) (by simp) (K1.out.cell 6)
  have q7 := later_cell (v := .int .u32 c.dd) (B := w.heap.size + 1) (w0 := W1) (p := ⟨w.heap.size, 7, none⟩) (by simp) (K1.out.cell 7)
  have q8 := later_cell (v := .int .u16 c.po) (B := w.heap.size + 1) (w0 := W1) (p := ⟨w.heap.size, 8, none⟩) (by simp) (K1.out.cell 8)
  have q9 := later_cell (v := .int .u8 c.pr) (B := w.heap.size + 1) (w0 := W1) (p := ⟨w.heap.size, 9, none⟩) (by simp) (K1.out.cell 9)
  have q10 := later_cell (v := .bool c.dm) (B := w.heap.size + 1) (w0 := W1) (p := ⟨w.heap.size, 10, none⟩) (by simp) (K1.out.cell 10)
  have q11 := later_cell (v := .bool c.ps) (B := w.heap.size + 1) (w0 := W1) (p := ⟨w.heap.size, 11, none⟩) (by simp) (K1.out.cell 11)
  have q12 := later_cell (v := c.pe) (B := w.heap.size + 1) (w0 := W1) (p := ⟨w.heap.size, 12, none⟩) (by simp) (K1.out.cell 12)
  have q13 := later_cell (v := .int .u32 c.rm) (B := w.heap.size + 1) (w0 := W1) (p := ⟨w.heap.size, 13, none⟩) (by simp) (K1.out.cell 13)
  go_cut [4] from 43 to 106 (fun p wx => p = .bool (nV c b1) ∧ Hid (Below (w.heap.size + 1) W1 wx))
  case first =>
    go_upto_region 3 with fail
    rcases t0 : b1 with _ | _
    · refine wp_region_later_plain (B := w.heap.size + 1) (w0 := W1) (Below.refl _ _) ?_
      repeat (go_big_quiet_step (fail))
      refine wpQuiet_nil ?_
      rintro wx ⟨⟨wy, hwy⟩, hwe⟩
      obtain rfl : wx = wy := hwe
      go_wp2_with fail
      go_meet
      case rel => exact ⟨by simp [nV, *], Lib.hid hwy⟩
    · rcases t1 : (c.na == 0) with _ | _
      · refine wp_region_later_plain (B := w.heap.size + 1) (w0 := W1) (Below.refl _ _) ?_
        repeat (go_big_quiet_step (fail))
        refine wpQuiet_nil ?_
        rintro wx ⟨⟨wy, hwy⟩, hwe⟩
        obtain rfl : wx = wy := hwe
        go_wp2_with fail
        go_meet
        case rel => exact ⟨by simp [nV, *], Lib.hid hwy⟩
      · rcases t2 : (c.nb == 0) with _ | _
        · refine wp_region_later_plain (B := w.heap.size + 1) (w0 := W1) (Below.refl _ _) ?_
          repeat (go_big_quiet_step (fail))
          refine wpQuiet_nil ?_
          rintro wx ⟨⟨wy, hwy⟩, hwe⟩
          obtain rfl : wx = wy := hwe
          go_wp2_with fail
          go_meet
          case rel => exact ⟨by simp [nV, *], Lib.hid hwy⟩
        · rcases t3 : (c.ad == 0) with _ | _
          · refine wp_region_later_plain (B := w.heap.size + 1) (w0 := W1) (Below.refl _ _) ?_
            repeat (go_big_quiet_step (fail))
            refine wpQuiet_nil ?_
            rintro wx ⟨⟨wy, hwy⟩, hwe⟩
            obtain rfl : wx = wy := hwe
            go_wp2_with fail
            go_meet
            case rel => exact ⟨by simp [nV, *], Lib.hid hwy⟩
          · rcases t4 : (c.rm != 0) with _ | _
            · refine wp_region_later_plain (B := w.heap.size + 1) (w0 := W1) (Below.refl _ _) ?_
              repeat (go_big_quiet_step (fail))
              refine wpQuiet_nil ?_
              rintro wx ⟨⟨wy, hwy⟩, hwe⟩
              obtain rfl : wx = wy := hwe
              go_wp2_with fail
              go_meet
              case rel => exact ⟨by simp [nV, *], Lib.hid hwy⟩
            · rcases t5 : (c.rm != c.ro) with _ | _
              · refine wp_region_later_plain (B := w.heap.size + 1) (w0 := W1) (Below.refl _ _) ?_
                repeat (go_big_quiet_step (fail))
                refine wpQuiet_nil ?_
                rintro wx ⟨⟨wy, hwy⟩, hwe⟩
                obtain rfl : wx = wy := hwe
                go_wp2_with fail
                go_meet
                case rel => exact ⟨by simp [nV, *], Lib.hid hwy⟩
              · refine wp_region_later_plain (B := w.heap.size + 1) (w0 := W1) (Below.refl _ _) ?_
                repeat (go_big_quiet_step (fail))
                refine wpQuiet_nil ?_
                rintro wx ⟨⟨wy, hwy⟩, hwe⟩
                obtain rfl : wx = wy := hwe
                go_wp2_with fail
                go_meet
                case rel => exact ⟨by simp [nV, *], Lib.hid hwy⟩
  obtain ⟨rfl, HB2⟩ := hcut
  obtain ⟨W2, hW2⟩ : ∃ y, y = wc := ⟨_, rfl⟩
  rw [← hW2] at HB2 ⊢
  have B2 := Lib.hid (B1.out.trans (HB2.out.mono (Nat.le_succ _)))
  have K2 := Lib.hid (K1.out.below HB2.out (Nat.lt_succ_self _))
  obtain ⟨b2, hb2⟩ : ∃ b, nV c b1 = b := ⟨_, rfl⟩
  have HB2e := Lib.hid hb2
  rw [hb2]
  clear hW2 hb2 h7 q0 q1 q2 q3 q4 q5 q6 q7 q8 q9 q10 q11 q12 q13
  rcases b2 with _ | _
  · go_wp2_with fail
    refine bodyPost_ret (v := .tuple #[.pointer none, .int .i64 60]) (by simp [results, Try.results31, go_sem]) rfl (.inr ⟨by rw [HB1e.out, HB2e.out], rfl, B2.out⟩)
  · have z0 : W2.cell? ⟨w.heap.size, 0, none⟩ = some (.int .u8 c.ty) := K2.out.cell 0
    have z1 : W2.cell? ⟨w.heap.size, 1, none⟩ = some (.int .u32 c.ro) := K2.out.cell 1
    have z2 : W2.cell? ⟨w.heap.size, 2, none⟩ = some (.int .u32 c.na) := K2.out.cell 2
    have z3 : W2.cell? ⟨w.heap.size, 3, none⟩ = some (.int .u8 c.nb) := K2.out.cell 3
    have z4 : W2.cell? ⟨w.heap.size, 4, none⟩ = some (.int .u32 c.ad) := K2.out.cell 4
    have z5 : W2.cell? ⟨w.heap.size, 5, none⟩ = some (.int .u8 c.op) := K2.out.cell 5
    have z6 : W2.cell? ⟨w.heap.size, 6, none⟩ = some (.int .u16 c.hi) := K2.out.cell 6
    have z7 : W2.cell? ⟨w.heap.size, 7, none⟩ = some (.int .u32 c.dd) := K2.out.cell 7
    have z8 : W2.cell? ⟨w.heap.size, 8, none⟩ = some (.int .u16 c.po) := K2.out.cell 8
    have z9 : W2.cell? ⟨w.heap.size, 9, none⟩ = some (.int .u8 c.pr) := K2.out.cell 9
    have z10 : W2.cell? ⟨w.heap.size, 10, none⟩ = some (.bool c.dm) := K2.out.cell 10
    have z11 : W2.cell? ⟨w.heap.size, 11, none⟩ = some (.bool c.ps) := K2.out.cell 11
    have z12 : W2.cell? ⟨w.heap.size, 12, none⟩ = some (c.pe) := K2.out.cell 12
    have z13 : W2.cell? ⟨w.heap.size, 13, none⟩ = some (.int .u32 c.rm) := K2.out.cell 13
    rw [HPE.out] at z12
    have fz := K2.out.frozen
    have hl2 : w.heap.size < W2.heap.size := K2.out.lt
    have HRd := Lib.hid (HR.out.below B2.out)
    go_upto_region 8 with (at_builtin; refine wpList_append_any _ rfl (.const (.slice none 0 0)) (.tmp 110) _ rfl w.heap.size 136 i0 _ 2 8 Try.underlying81 hi hz0 hz1 hz2 rfl (by omega) (.slice none 0 0) 0 [] rfl (World.ownsRow_nil _ _ _ _) w.heap.size A L.length cap (L.flatMap pcells) rfl HRd.out (pcells_one L) (by unfold maxLen; omega) (by omega) B2.out.size ?_; intro v1 w1 hown1 hg1 hat1; rw [List.nil_append, Nat.zero_add] at hown1; obtain ⟨A1, c1, hv1⟩ := own_slice hown1; subst hv1; have HO1 := Lib.hid hown1; have K3 := Lib.hid (K2.out.grown hg1 (by simp [Value.ownBlock])); have B3 := Lib.hid (B2.out.grown hg1 B2.out.size (fun k hk => by simp [Value.ownBlock] at hk)); have f3 := K3.out.frozen; have g12 : w1.cell? ⟨w.heap.size, 12, none⟩ = some (.slice A L.length cap) := (K3.out.cell 12).trans (congrArg some HPE.out); clear hown1 hg1 hat1 fz z0 z1 z2 z3 z4 z5 z6 z7 z8 z9 z10 z11 z12 z13)
    obtain ⟨W4, hW4⟩ : ∃ W4, W4 = w1.setCell ⟨w.heap.size, 12, none⟩ (.slice A1 L.length c1) := ⟨_, rfl⟩
    have K4 : Hid (Blk W4 w.heap.size 83 ({ c with pe := .slice A1 L.length c1 } : LC).cells) := Lib.hid (by rw [hW4]; exact K3.out.set_ 12 (.slice A1 L.length c1))
    have B4 : Hid (Below w.heap.size w W4) := Lib.hid (by rw [hW4]; exact B3.out.setCell (p := ⟨w.heap.size, 12, none⟩) (Nat.le_refl _) _)
    have O4 : Hid (W4.ownsRow w.heap.size 136 2 (.slice A1 L.length c1) L.length (L.flatMap pcells)) := Lib.hid (by rw [hW4]; exact own_far HO1.out (q := ⟨w.heap.size, 12, none⟩) (own_far_t HO1.out K3.out (by decide)) _)
    rw [← hW4]
    clear hW4 f3 g12
    have z0 : W4.cell? ⟨w.heap.size, 0, none⟩ = some (.int .u8 c.ty) := K4.out.cell 0
    have z1 : W4.cell? ⟨w.heap.size, 1, none⟩ = some (.int .u32 c.ro) := K4.out.cell 1
    have z2 : W4.cell? ⟨w.heap.size, 2, none⟩ = some (.int .u32 c.na) := K4.out.cell 2
    have z3 : W4.cell? ⟨w.heap.size, 3, none⟩ = some (.int .u8 c.nb) := K4.out.cell 3
    have z4 : W4.cell? ⟨w.heap.size, 4, none⟩ = some (.int .u32 c.ad) := K4.out.cell 4
    have z5 : W4.cell? ⟨w.heap.size, 5, none⟩ = some (.int .u8 c.op) := K4.out.cell 5
    have z6 : W4.cell? ⟨w.heap.size, 6, none⟩ = some (.int .u16 c.hi) := K4.out.cell 6
    have z7 : W4.cell? ⟨w.heap.size, 7, none⟩ = some (.int .u32 c.dd) := K4.out.cell 7
    have z8 : W4.cell? ⟨w.heap.size, 8, none⟩ = some (.int .u16 c.po) := K4.out.cell 8
    have z9 : W4.cell? ⟨w.heap.size, 9, none⟩ = some (.int .u8 c.pr) := K4.out.cell 9
    have z10 : W4.cell? ⟨w.heap.size, 10, none⟩ = some (.bool c.dm) := K4.out.cell 10
    have z11 : W4.cell? ⟨w.heap.size, 11, none⟩ = some (.bool c.ps) := K4.out.cell 11
    have z12 : W4.cell? ⟨w.heap.size, 12, none⟩ = some (.slice A1 L.length c1) := K4.out.cell 12
    have z13 : W4.cell? ⟨w.heap.size, 13, none⟩ = some (.int .u32 c.rm) := K4.out.cell 13
    go_wp2_with fail
    refine bodyPost_ret (v := .tuple #[.pointer (some ⟨W4.heap.size, 0, none⟩), .int .i64 0]) (by simp [results, Try.results31, go_sem]) rfl (.inl ⟨by rw [HB1e.out, HB2e.out], W4.heap.size, .slice A1 L.length c1, rfl, B4.out.size, Blk.new W4 _ _, ⟨A1, c1, rfl, (Reads.of_own O4.out).below ((Below.refl _ W4).alloc (Nat.le_refl _) _)⟩, B4.out.alloc B4.out.size _⟩)
theorem new_ex_o (w : World) (c : LC) (L : List (Int × Int)) (hL : PeersAt w w.heap.size c.pe L) (hlen : L.length ≤ 200) (had : WdOk c.ad) (hwd : ∀ p ∈ L, WdOk p.1) (hn0 : 0 ≤ c.nb) (h7 : (c.ty == 4) = false) :
    Calls Try.prog 31 #[.agg c.cells] w fun e w' => NewEx (nO c (n1 c c.peers (pmB c L))) c L w e w' := by
  obtain ⟨i0, hi, hz0, hz1, hz2⟩ := info_parts lpeer_info
  obtain ⟨A, cap, hpe, hr⟩ := hL
  have HPE := Lib.hid hpe
  have HR := Lib.hid hr
  have HPm : Hid (∀ W, Below w.heap.size w W → Calls Try.prog 64 #[.agg c.cells] W fun e w' => e = .returned (.bool (pmB c L)) ∧ Below W.heap.size W w') := Lib.hid (fun W hb => peersMay_ex W c L ⟨A, cap, hpe, (hr.below hb).more hb.size⟩ hlen had hwd)
  obtain ⟨pv, hpv⟩ : ∃ b, c.peers = b := ⟨_, rfl⟩
  obtain ⟨pm, hpm⟩ : ∃ b, pmB c L = b := ⟨_, rfl⟩
  have HPv := Lib.hid hpv
  rw [hpv, hpm]
  rw [hpm] at HPm
  have H7 := Lib.hid h7
  clear hpe hr had hwd hpv hpm h7
  unfold LC.cells
  go_enter Try.func31, Try.ntmps31
  go_upto_region 1 with fail
  obtain ⟨W0, hW0⟩ : ∃ W0, W0 = w.alloc (.cells c.cells 83) := ⟨_, rfl⟩
  have K0 : Hid (Blk W0 w.heap.size 83 c.cells) := Lib.hid (by rw [hW0]; exact Blk.new w _ _)
  have B0 : Hid (Below w.heap.size w W0) := Lib.hid (by rw [hW0]; exact (Below.refl _ w).alloc (Nat.le_refl _) _)
  have hs0 : w.heap.size < W0.heap.size := K0.out.lt
  unfold LC.cells at hW0
  rw [← hW0]
  clear hW0
  have q0 := later_cell (v := .int .u8 c.ty) (B := w.heap.size + 1) (w0 := W0) (p := ⟨w.heap.size, 0, none⟩) (by simp) (K0.out.cell 0)
  have q1 := later_cell (v := .int .u32 c.ro) (B := w.heap.size + 1) (w0 := W0) (p := ⟨w.heap.size, 1, none⟩) (by simp) (K0.out.cell 1)
  have q2 := later_cell (v := .int .u32 c.na) (B := w.heap.size + 1) (w0 := W0) (p := ⟨w.heap.size, 2, none⟩) (by simp) (K0.out.cell 2)
  have q3 := later_cell (v := .int .u8 c.nb) (B := w.heap.size + 1) (w0 := W0) (p := ⟨w.heap.size, 3, none⟩) (by simp) (K0.out.cell 3)
  have q4 := later_cell (v := .int .u32 c.ad) (B := w.heap.size + 1) (w0 := W0) (p := ⟨w.heap.size, 4, none⟩) (by simp) (K0.out.cell 4)
  have q5 := later_cell (v := .int .u8 c.op) (B := w.heap.size + 1) (w0 := W0) (p := ⟨w.heap.size, 5, none⟩) (by simp) (K0.out.cell 5)
  have q6 := later_cell (v := .int .u16 c.hi) (B := w.heap.size + 1) (w0 := W0) (p := ⟨w.heap.size, 6, none⟩) (by simp) (K0.out.cell 6)
  have q7 := later_cell (v := .int .u32 c.dd) (B := w.heap.size + 1) (w0 := W0) (p := ⟨w.heap.size, 7, none⟩) (by simp) (K0.out.cell 7)
  have q8 := later_cell (v := .int .u16 c.po) (B := w.heap.size + 1) (w0 := W0) (p := ⟨w.heap.size, 8, none⟩) (by simp) (K0.out.cell 8)
  have q9 := later_cell (v := .int .u8 c.pr) (B := w.heap.size + 1) (w0 := W0) (p := ⟨w.heap.size, 9, none⟩) (by simp) (K0.out.cell 9)
  have q10 := later_cell (v := .bool c.dm) (B := w.heap.size + 1) (w0 := W0) (p := ⟨w.heap.size, 10, none⟩) (by simp) (K0.out.cell 10)
  have q11 := later_cell (v := .bool c.ps) (B := w.heap.size + 1) (w0 := W0) (p := ⟨w.heap.size, 11, none⟩) (by simp) (K0.out.cell 11)
  have q12 := later_cell (v := c.pe) (B := w.heap.size + 1) (w0 := W0) (p := ⟨w.heap.size, 12, none⟩) (by simp) (K0.out.cell 12)
  have q13 := later_cell (v := .int .u32 c.rm) (B := w.heap.size + 1) (w0 := W0) (p := ⟨w.heap.size, 13, none⟩) (by simp) (K0.out.cell 13)
  have d1 : Hid (∀ u : Later (w.heap.size + 1) W0, Calls Try.prog 63 #[.agg #[.int .u8 c.ty, .int .u32 c.ro, .int .u32 c.na, .int .u8 c.nb, .int .u32 c.ad, .int .u8 c.op, .int .u16 c.hi, .int .u32 c.dd, .int .u16 c.po, .int .u8 c.pr, .bool c.dm, .bool c.ps, c.pe, .int .u32 c.rm]] u.to fun e w' => e = .returned (.bool pv) ∧ Below u.to.heap.size u.to w') := Lib.hid (fun u => by have h := peers_any c u.to; rw [HPv.out] at h; exact h)
  have d2 : Hid (∀ u : Later (w.heap.size + 1) W0, Calls Try.prog 64 #[.agg #[.int .u8 c.ty, .int .u32 c.ro, .int .u32 c.na, .int .u8 c.nb, .int .u32 c.ad, .int .u8 c.op, .int .u16 c.hi, .int .u32 c.dd, .int .u16 c.po, .int .u8 c.pr, .bool c.dm, .bool c.ps, c.pe, .int .u32 c.rm]] u.to fun e w' => e = .returned (.bool pm) ∧ Below u.to.heap.size u.to w') := Lib.hid (fun u => HPm.out u.to (B0.out.trans (u.ok.mono (by omega))))
  go_cut [4] from 5 to 40 (fun p wx => p = .bool (n1 c pv pm) ∧ Hid (Below (w.heap.size + 1) W0 wx))
  case first =>
    by_cases s1 : c.ty ≤ 4
    · rcases s2 : (c.ro != 0) with _ | _
      · refine wp_region_later (B := w.heap.size + 1) (w0 := W0) (by kernel_rfl) (by kernel_rfl) (Below.refl _ _) ?_
        repeat (go_big_quiet_step (first
          | (go_at_call 63; with_reducible exact later_call _ (by omega) (d1.out _))
          | (go_at_call 64; with_reducible exact later_call _ (by omega) (d2.out _))))
        refine wpQuiet_nil ?_
        rintro wx ⟨⟨wy, hwy⟩, hwe⟩
        obtain rfl : wx = wy := hwe
        go_wp2_with fail
        go_meet
        case rel => exact ⟨by first | (simp [n1, *]; done) | (simp [n1, *]; intros; omega), Lib.hid hwy⟩
      · rcases s3 : (c.hi != 0) with _ | _
        · refine wp_region_later (B := w.heap.size + 1) (w0 := W0) (by kernel_rfl) (by kernel_rfl) (Below.refl _ _) ?_
          repeat (go_big_quiet_step (first
            | (go_at_call 63; with_reducible exact later_call _ (by omega) (d1.out _))
            | (go_at_call 64; with_reducible exact later_call _ (by omega) (d2.out _))))
          refine wpQuiet_nil ?_
          rintro wx ⟨⟨wy, hwy⟩, hwe⟩
          obtain rfl : wx = wy := hwe
          go_wp2_with fail
          go_meet
          case rel => exact ⟨by first | (simp [n1, *]; done) | (simp [n1, *]; intros; omega), Lib.hid hwy⟩
        · rcases s4 : (c.dd != 0) with _ | _
          · refine wp_region_later (B := w.heap.size + 1) (w0 := W0) (by kernel_rfl) (by kernel_rfl) (Below.refl _ _) ?_
            repeat (go_big_quiet_step (first
              | (go_at_call 63; with_reducible exact later_call _ (by omega) (d1.out _))
              | (go_at_call 64; with_reducible exact later_call _ (by omega) (d2.out _))))
            refine wpQuiet_nil ?_
            rintro wx ⟨⟨wy, hwy⟩, hwe⟩
            obtain rfl : wx = wy := hwe
            go_wp2_with fail
            go_meet
            case rel => exact ⟨by first | (simp [n1, *]; done) | (simp [n1, *]; intros; omega), Lib.hid hwy⟩
          · rcases s5 : (pv == decide (0 < c.po)) with _ | _
            · refine wp_region_later (B := w.heap.size + 1) (w0 := W0) (by kernel_rfl) (by kernel_rfl) (Below.refl _ _) ?_
              repeat (go_big_quiet_step (first
                | (go_at_call 63; with_reducible exact later_call _ (by omega) (d1.out _))
                | (go_at_call 64; with_reducible exact later_call _ (by omega) (d2.out _))))
              refine wpQuiet_nil ?_
              rintro wx ⟨⟨wy, hwy⟩, hwe⟩
              obtain rfl : wx = wy := hwe
              go_wp2_with fail
              go_meet
              case rel => exact ⟨by first | (simp [n1, *]; done) | (simp [n1, *]; intros; omega), Lib.hid hwy⟩
            · by_cases s6 : c.nb ≤ 32
              · refine wp_region_later (B := w.heap.size + 1) (w0 := W0) (by kernel_rfl) (by kernel_rfl) (Below.refl _ _) ?_
                repeat (go_big_quiet_step (first
                  | (go_at_call 63; with_reducible exact later_call _ (by omega) (d1.out _))
                  | (go_at_call 64; with_reducible exact later_call _ (by omega) (d2.out _))))
                refine wpQuiet_nil ?_
                rintro wx ⟨⟨wy, hwy⟩, hwe⟩
                obtain rfl : wx = wy := hwe
                go_wp2_with fail
                go_meet
                case rel => exact ⟨by first | (simp [n1, *]; done) | (simp [n1, *]; intros; omega), Lib.hid hwy⟩
              · refine wp_region_later (B := w.heap.size + 1) (w0 := W0) (by kernel_rfl) (by kernel_rfl) (Below.refl _ _) ?_
                repeat (go_big_quiet_step (first
                  | (go_at_call 63; with_reducible exact later_call _ (by omega) (d1.out _))
                  | (go_at_call 64; with_reducible exact later_call _ (by omega) (d2.out _))))
                refine wpQuiet_nil ?_
                rintro wx ⟨⟨wy, hwy⟩, hwe⟩
                obtain rfl : wx = wy := hwe
                go_wp2_with fail
                go_meet
                case rel => exact ⟨by first | (simp [n1, *]; done) | (simp [n1, *]; intros; omega), Lib.hid hwy⟩
    · refine wp_region_later (B := w.heap.size + 1) (w0 := W0) (by kernel_rfl) (by kernel_rfl) (Below.refl _ _) ?_
      repeat (go_big_quiet_step (first
        | (go_at_call 63; with_reducible exact later_call _ (by omega) (d1.out _))
        | (go_at_call 64; with_reducible exact later_call _ (by omega) (d2.out _))))
      refine wpQuiet_nil ?_
      rintro wx ⟨⟨wy, hwy⟩, hwe⟩
      obtain rfl : wx = wy := hwe
      go_wp2_with fail
      go_meet
      case rel => exact ⟨by first | (simp [n1, *]; done) | (simp [n1, *]; intros; omega), Lib.hid hwy⟩
  obtain ⟨rfl, HB1⟩ := hcut
  obtain ⟨W1, hW1⟩ : ∃ y, y = wc := ⟨_, rfl⟩
  rw [← hW1] at HB1 ⊢
  have B1 := Lib.hid (B0.out.trans (HB1.out.mono (Nat.le_succ _)))
  have K1 := Lib.hid (K0.out.below HB1.out (Nat.lt_succ_self _))
  obtain ⟨b1, hb1⟩ : ∃ b, n1 c pv pm = b := ⟨_, rfl⟩
  have HB1e := Lib.hid hb1
  rw [hb1]
  clear hW1 d1 d2 hb1 q0 q1 q2 q3 q4 q5 q6 q7 q8 q9 q10 q11 q12 q13
  have hs1 : w.heap.size < W1.heap.size := K1.out.lt
  have z0 : W1.cell? ⟨w.heap.size, 0, none⟩ = some (.int .u8 c.ty) := K1.out.cell 0
  have h7 := H7.out
  go_upto_if 43 with fail
  clear z0
  have q0 := later_cell (v := .int .u8 c.ty) (B := w.heap.size + 1) (w0 := W1) (p := ⟨w.heap.size, 0, none⟩) (by simp) (K1.out.cell 0)
  have q1 := later_cell (v := .int .u32 c.ro) (B := w.heap.size + 1) (w0 := W1) (p := ⟨w.heap.size, 1, none⟩) (by simp) (K1.out.cell 1)
  have q2 := later_cell (v := .int .u32 c.na) (B := w.heap.size + 1) (w0 := W1) (p := ⟨w.heap.size, 2, none⟩) (by simp) (K1.out.cell 2)
  have q3 := later_cell (v := .int .u8 c.nb) (B := w.heap.size + 1) (w0 := W1) (p := ⟨w.heap.size, 3, none⟩) (by simp) (K1.out.cell 3)
  have q4 := later_cell (v := .int .u32 c.ad) (B := w.heap.size + 1) (w0 := W1) (p := ⟨w.heap.size, 4, none⟩) (by simp) (K1.out.cell 4)
  have q5 := later_cell (v := .int .u8 c.op) (B := w.heap.size + 1) (w0 := W1) (p := ⟨w.heap.size, 5, none⟩) (by simp) (K1.out.cell 5)
  have q6 := later_cell (v := .int .u16 c.hi) (B := w.heap.size + 1) (w0 := W1) (p := ⟨w.heap.size, 6, none⟩) (by simp) (K1.out.cell 6)
  have q7 := later_cell (v := .int .u32 c.dd) (B := w.heap.size + 1) (w0 := W1) (p := ⟨w.heap.size, 7, none⟩) (by simp) (K1.out.cell 7)
  have q8 := later_cell (v := .int .u16 c.po) (B := w.heap.size + 1) (w0 := W1) (p := ⟨w.heap.size, 8, none⟩) (by simp) (K1.out.cell 8)
  have q9 := later_cell (v := .int .u8 c.pr) (B := w.heap.size + 1) (w0 := W1) (p := ⟨w.heap.size, 9, none⟩) (by simp) (K1.out.cell 9)
  have q10 := later_cell (v := .bool c.dm) (B := w.heap.size + 1) (w0 := W1) (p := ⟨w.heap.size, 10, none⟩) (by simp) (K1.out.cell 10)
  have q11 := later_cell (v := .bool c.ps) (B := w.heap.size + 1) (w0 := W1) (p := ⟨w.heap.size, 11, none⟩) (by simp) (K1.out.cell 11)
  have q12 := later_cell (v := c.pe) (B := w.heap.size + 1) (w0 := W1) (p := ⟨w.heap.size, 12, none⟩) (by simp) (K1.out.cell 12)
  have q13 := later_cell (v := .int .u32 c.rm) (B := w.heap.size + 1) (w0 := W1) (p := ⟨w.heap.size, 13, none⟩) (by simp) (K1.out.cell 13)
  have HNb : Hid (b1 = true → c.nb ≤ 32) := Lib.hid (fun h => by
    have h1 := HB1e.out
    rw [h] at h1
    unfold n1 at h1
    simp only [Bool.and_eq_true, decide_eq_true_eq] at h1
    exact h1.2.2.2.2.2.1)
  go_cut [4] from 43 to 106 (fun p wx => p = .bool (nO c b1) ∧ Hid (Below (w.heap.size + 1) W1 wx))
  case first =>
    go_upto_region 4 with fail
    rcases t0 : b1 with _ | _
    · refine wp_region_later_plain (B := w.heap.size + 1) (w0 := W1) (Below.refl _ _) ?_
      repeat (go_big_quiet_step (fail))
      refine wpQuiet_nil ?_
      rintro wx ⟨⟨wy, hwy⟩, hwe⟩
      obtain rfl : wx = wy := hwe
      go_wp2_with fail
      go_meet
      case rel => exact ⟨by simp [nO, *], Lib.hid hwy⟩
    · have h32 := HNb.out t0
      rcases t1 : (c.rm == 0) with _ | _
      · refine wp_region_later_plain (B := w.heap.size + 1) (w0 := W1) (Below.refl _ _) ?_
        repeat (go_big_quiet_step (fail))
        refine wpQuiet_nil ?_
        rintro wx ⟨⟨wy, hwy⟩, hwe⟩
        obtain rfl : wx = wy := hwe
        go_wp2_with fail
        go_meet
        case rel => exact ⟨by simp [nO, *], Lib.hid hwy⟩
      · rcases t2 : (c.ad != 0) with _ | _
        · refine wp_region_later_plain (B := w.heap.size + 1) (w0 := W1) (Below.refl _ _) ?_
          repeat (go_big_quiet_step (fail))
          refine wpQuiet_nil ?_
          rintro wx ⟨⟨wy, hwy⟩, hwe⟩
          obtain rfl : wx = wy := hwe
          go_wp2_with fail
          go_meet
          case rel => exact ⟨by simp [nO, *], Lib.hid hwy⟩
        · by_cases t3 : bits .and .u32 c.na (maskN c.nb.toNat) = c.na
          · have H3 := Lib.hid t3
            have d3 : Hid (∀ u : Later (w.heap.size + 1) W1, Calls Try.prog 65 #[.agg #[.int .u32 c.na, .int .u8 c.nb]] u.to fun e w' => e = .returned (.int .i64 0) ∧ Below u.to.heap.size u.to w') := Lib.hid (fun u => (check_any c.na c.nb u.to hn0 h32).mono fun _ _ h => ⟨by rw [h.1, if_pos H3.out], h.2⟩)
            obtain ⟨dmv, hdmv⟩ : ∃ b, c.dm = b := ⟨_, rfl⟩
            have HDm := Lib.hid hdmv
            rw [hdmv] at q10
            clear hdmv
            obtain ⟨hs, hhs⟩ : ∃ b, decide (bits .and .u32 c.ad (maskN c.nb.toNat) = c.na) = b := ⟨_, rfl⟩
            have d4 : Hid (∀ u : Later (w.heap.size + 1) W1, Calls Try.prog 66 #[.agg #[.int .u32 c.na, .int .u8 c.nb], .int .u32 c.ad] u.to fun e w' => e = .returned (.bool hs) ∧ Below u.to.heap.size u.to w') := Lib.hid (fun u => (has_any c.na c.nb c.ad u.to hn0 h32 H3.out).mono fun _ _ h => ⟨by rw [h.1, hhs], h.2⟩)
            have HO : Hid (∀ x : Bool, nO c true = (c.rm == 0 && (c.ad != 0 && (hs && (!dmv || c.ty == 3))))) := Lib.hid (fun _ => by unfold nO; rw [hhs, decide_eq_true H3.out, HDm.out]; simp)
            clear t3 hhs
            rcases t5 : hs with _ | _
            · refine wp_region_later_plain (B := w.heap.size + 1) (w0 := W1) (Below.refl _ _) ?_
              repeat (go_big_quiet_step (first
                | (go_at_call 65; with_reducible exact later_call _ (by omega) (d3.out _))
                | (go_at_call 66; with_reducible exact later_call _ (by omega) (d4.out _))))
              refine wpQuiet_nil ?_
              rintro wx ⟨⟨wy, hwy⟩, hwe⟩
              obtain rfl : wx = wy := hwe
              go_wp2_with fail
              go_meet
              case rel => exact ⟨by rw [t0, HO.out true]; simp [*], Lib.hid hwy⟩
            · rcases t6 : dmv with _ | _
              · refine wp_region_later_plain (B := w.heap.size + 1) (w0 := W1) (Below.refl _ _) ?_
                repeat (go_big_quiet_step (first
                  | (go_at_call 65; with_reducible exact later_call _ (by omega) (d3.out _))
                  | (go_at_call 66; with_reducible exact later_call _ (by omega) (d4.out _))))
                refine wpQuiet_nil ?_
                rintro wx ⟨⟨wy, hwy⟩, hwe⟩
                obtain rfl : wx = wy := hwe
                go_wp2_with fail
                go_meet
                case rel => exact ⟨by rw [t0, HO.out true]; simp [*], Lib.hid hwy⟩
              · refine wp_region_later_plain (B := w.heap.size + 1) (w0 := W1) (Below.refl _ _) ?_
                repeat (go_big_quiet_step (first
                  | (go_at_call 65; with_reducible exact later_call _ (by omega) (d3.out _))
                  | (go_at_call 66; with_reducible exact later_call _ (by omega) (d4.out _))))
                refine wpQuiet_nil ?_
                rintro wx ⟨⟨wy, hwy⟩, hwe⟩
                obtain rfl : wx = wy := hwe
                go_wp2_with fail
                go_meet
                case rel => exact ⟨by rw [t0, HO.out true]; simp [*], Lib.hid hwy⟩
          · have H3 := Lib.hid t3
            have d3 : Hid (∀ u : Later (w.heap.size + 1) W1, Calls Try.prog 65 #[.agg #[.int .u32 c.na, .int .u8 c.nb]] u.to fun e w' => e = .returned (.int .i64 12) ∧ Below u.to.heap.size u.to w') := Lib.hid (fun u => (check_any c.na c.nb u.to hn0 h32).mono fun _ _ h => ⟨by rw [h.1, if_neg H3.out], h.2⟩)
            have HO : Hid (nO c true = false) := Lib.hid (by unfold nO; rw [decide_eq_false H3.out]; simp)
            clear t3
            refine wp_region_later_plain (B := w.heap.size + 1) (w0 := W1) (Below.refl _ _) ?_
            repeat (go_big_quiet_step (first
              | (go_at_call 65; with_reducible exact later_call _ (by omega) (d3.out _))))
            refine wpQuiet_nil ?_
            rintro wx ⟨⟨wy, hwy⟩, hwe⟩
            obtain rfl : wx = wy := hwe
            go_wp2_with fail
            go_meet
            case rel => exact ⟨by rw [t0, HO.out], Lib.hid hwy⟩
  obtain ⟨rfl, HB2⟩ := hcut
  obtain ⟨W2, hW2⟩ : ∃ y, y = wc := ⟨_, rfl⟩
  rw [← hW2] at HB2 ⊢
  have B2 := Lib.hid (B1.out.trans (HB2.out.mono (Nat.le_succ _)))
  have K2 := Lib.hid (K1.out.below HB2.out (Nat.lt_succ_self _))
  obtain ⟨b2, hb2⟩ : ∃ b, nO c b1 = b := ⟨_, rfl⟩
  have HB2e := Lib.hid hb2
  rw [hb2]
  clear hW2 hb2 h7 q0 q1 q2 q3 q4 q5 q6 q7 q8 q9 q10 q11 q12 q13
  rcases b2 with _ | _
  · go_wp2_with fail
    refine bodyPost_ret (v := .tuple #[.pointer none, .int .i64 60]) (by simp [results, Try.results31, go_sem]) rfl (.inr ⟨by rw [HB1e.out, HB2e.out], rfl, B2.out⟩)
  · have z0 : W2.cell? ⟨w.heap.size, 0, none⟩ = some (.int .u8 c.ty) := K2.out.cell 0
    have z1 : W2.cell? ⟨w.heap.size, 1, none⟩ = some (.int .u32 c.ro) := K2.out.cell 1
    have z2 : W2.cell? ⟨w.heap.size, 2, none⟩ = some (.int .u32 c.na) := K2.out.cell 2
    have z3 : W2.cell? ⟨w.heap.size, 3, none⟩ = some (.int .u8 c.nb) := K2.out.cell 3
    have z4 : W2.cell? ⟨w.heap.size, 4, none⟩ = some (.int .u32 c.ad) := K2.out.cell 4
    have z5 : W2.cell? ⟨w.heap.size, 5, none⟩ = some (.int .u8 c.op) := K2.out.cell 5
    have z6 : W2.cell? ⟨w.heap.size, 6, none⟩ = some (.int .u16 c.hi) := K2.out.cell 6
    have z7 : W2.cell? ⟨w.heap.size, 7, none⟩ = some (.int .u32 c.dd) := K2.out.cell 7
    have z8 : W2.cell? ⟨w.heap.size, 8, none⟩ = some (.int .u16 c.po) := K2.out.cell 8
    have z9 : W2.cell? ⟨w.heap.size, 9, none⟩ = some (.int .u8 c.pr) := K2.out.cell 9
    have z10 : W2.cell? ⟨w.heap.size, 10, none⟩ = some (.bool c.dm) := K2.out.cell 10
    have z11 : W2.cell? ⟨w.heap.size, 11, none⟩ = some (.bool c.ps) := K2.out.cell 11
    have z12 : W2.cell? ⟨w.heap.size, 12, none⟩ = some (c.pe) := K2.out.cell 12
    have z13 : W2.cell? ⟨w.heap.size, 13, none⟩ = some (.int .u32 c.rm) := K2.out.cell 13
    rw [HPE.out] at z12
    have fz := K2.out.frozen
    have hl2 : w.heap.size < W2.heap.size := K2.out.lt
    have HRd := Lib.hid (HR.out.below B2.out)
    go_upto_region 8 with (at_builtin; refine wpList_append_any _ rfl (.const (.slice none 0 0)) (.tmp 110) _ rfl w.heap.size 136 i0 _ 2 8 Try.underlying81 hi hz0 hz1 hz2 rfl (by omega) (.slice none 0 0) 0 [] rfl (World.ownsRow_nil _ _ _ _) w.heap.size A L.length cap (L.flatMap pcells) rfl HRd.out (pcells_one L) (by unfold maxLen; omega) (by omega) B2.out.size ?_; intro v1 w1 hown1 hg1 hat1; rw [List.nil_append, Nat.zero_add] at hown1; obtain ⟨A1, c1, hv1⟩ := own_slice hown1; subst hv1; have HO1 := Lib.hid hown1; have K3 := Lib.hid (K2.out.grown hg1 (by simp [Value.ownBlock])); have B3 := Lib.hid (B2.out.grown hg1 B2.out.size (fun k hk => by simp [Value.ownBlock] at hk)); have f3 := K3.out.frozen; have g12 : w1.cell? ⟨w.heap.size, 12, none⟩ = some (.slice A L.length cap) := (K3.out.cell 12).trans (congrArg some HPE.out); clear hown1 hg1 hat1 fz z0 z1 z2 z3 z4 z5 z6 z7 z8 z9 z10 z11 z12 z13)
    obtain ⟨W4, hW4⟩ : ∃ W4, W4 = w1.setCell ⟨w.heap.size, 12, none⟩ (.slice A1 L.length c1) := ⟨_, rfl⟩
    have K4 : Hid (Blk W4 w.heap.size 83 ({ c with pe := .slice A1 L.length c1 } : LC).cells) := Lib.hid (by rw [hW4]; exact K3.out.set_ 12 (.slice A1 L.length c1))
    have B4 : Hid (Below w.heap.size w W4) := Lib.hid (by rw [hW4]; exact B3.out.setCell (p := ⟨w.heap.size, 12, none⟩) (Nat.le_refl _) _)
    have O4 : Hid (W4.ownsRow w.heap.size 136 2 (.slice A1 L.length c1) L.length (L.flatMap pcells)) := Lib.hid (by rw [hW4]; exact own_far HO1.out (q := ⟨w.heap.size, 12, none⟩) (own_far_t HO1.out K3.out (by decide)) _)
    rw [← hW4]
    clear hW4 f3 g12
    have z0 : W4.cell? ⟨w.heap.size, 0, none⟩ = some (.int .u8 c.ty) := K4.out.cell 0
    have z1 : W4.cell? ⟨w.heap.size, 1, none⟩ = some (.int .u32 c.ro) := K4.out.cell 1
    have z2 : W4.cell? ⟨w.heap.size, 2, none⟩ = some (.int .u32 c.na) := K4.out.cell 2
    have z3 : W4.cell? ⟨w.heap.size, 3, none⟩ = some (.int .u8 c.nb) := K4.out.cell 3
    have z4 : W4.cell? ⟨w.heap.size, 4, none⟩ = some (.int .u32 c.ad) := K4.out.cell 4
    have z5 : W4.cell? ⟨w.heap.size, 5, none⟩ = some (.int .u8 c.op) := K4.out.cell 5
    have z6 : W4.cell? ⟨w.heap.size, 6, none⟩ = some (.int .u16 c.hi) := K4.out.cell 6
    have z7 : W4.cell? ⟨w.heap.size, 7, none⟩ = some (.int .u32 c.dd) := K4.out.cell 7
    have z8 : W4.cell? ⟨w.heap.size, 8, none⟩ = some (.int .u16 c.po) := K4.out.cell 8
    have z9 : W4.cell? ⟨w.heap.size, 9, none⟩ = some (.int .u8 c.pr) := K4.out.cell 9
    have z10 : W4.cell? ⟨w.heap.size, 10, none⟩ = some (.bool c.dm) := K4.out.cell 10
    have z11 : W4.cell? ⟨w.heap.size, 11, none⟩ = some (.bool c.ps) := K4.out.cell 11
    have z12 : W4.cell? ⟨w.heap.size, 12, none⟩ = some (.slice A1 L.length c1) := K4.out.cell 12
    have z13 : W4.cell? ⟨w.heap.size, 13, none⟩ = some (.int .u32 c.rm) := K4.out.cell 13
    go_wp2_with fail
    refine bodyPost_ret (v := .tuple #[.pointer (some ⟨W4.heap.size, 0, none⟩), .int .i64 0]) (by simp [results, Try.results31, go_sem]) rfl (.inl ⟨by rw [HB1e.out, HB2e.out], W4.heap.size, .slice A1 L.length c1, rfl, B4.out.size, Blk.new W4 _ _, ⟨A1, c1, rfl, (Reads.of_own O4.out).below ((Below.refl _ W4).alloc (Nat.le_refl _) _)⟩, B4.out.alloc B4.out.size _⟩)
end Go.Proofs.Ytgbmhijgpdgdbaa
