/- What a link that hears one neighbour keeps, tick by tick: the plain law. -/
import Derived.Test.YtgbmhijgpdgdbaaLose
import Derived.Test.YtgbmhijgpdgdbaaNeigh13
import Derived.Test.YtgbmhijgpdgdbaaMayQ
import Derived.Test.YtgbmhijgpdgdbaaHearOn
import Derived.Test.YtgbmhijgpdgdbaaTickL
namespace Go.Proofs.Ytgbmhijgpdgdbaa
open Go.RowKit

def wantK (c : LC) (st dr bd : Int) (x : Nat × Kn) : Bool := (x.2.st == 3) && (!c.shared || (decide (5 ≤ st) || ((st == 4) && (x.2.ad == dr || x.2.ad == bd))))
def nbRow (c : LC) (st dr bd : Int) (x : Nat × Kn) : List Value := [.int .u32 x.2.ro, .int .u32 x.2.ad, .int .u8 x.2.st, .int .u8 x.2.pr, .int .u32 x.2.dr, .int .u32 x.2.bd, .int .u8 x.2.op, .int .u32 x.2.lf, .bool (wantK c st dr bd x)]

def NeighOnPost (c : LC) (st dr bd : Int) (xs : List (Nat × Kn)) (w : World) (e : Ending) (w' : World) : Prop :=
  ∃ v, e = .returned v ∧ w'.ownsRow w.heap.size 109 9 v xs.length (xs.flatMap (nbRow c st dr bd)) ∧ Below w.heap.size w w'

theorem flat_take {α β : Type} (f : α → List β) {xs : List α} {i : Nat} {x : α} (h : xs[i]? = some x) : (xs.take (i + 1)).flatMap f = (xs.take i).flatMap f ++ f x := by
  rw [List.take_add_one, h]
  simp

set_option maxHeartbeats 8000000 in
set_option maxRecDepth 40000 in
theorem neigh_row (w : World) (B : Nat) (c : LC) (st dr bd wt nx po re : Int) (L cap : Nat) (xs : List (Nat × Kn)) (hlen : xs.length ≤ 60000) (k : Blk w B 119 (lks c st dr bd wt nx po re (.slice (some ⟨L, 0, none⟩) xs.length cap))) (hrow : RowAt w L xs) :
    Calls Try.prog 38 #[.pointer (some ⟨B, 0, none⟩)] w fun e w' => NeighOnPost c st dr bd xs w e w' := by
  obtain ⟨i0, hi, hz0, hz1, hz2⟩ := info_parts neigh_info
  have HP := Lib.hid shared_any
  have HK := Lib.hid k
  have HRow := Lib.hid hrow
  have hlt : B < w.heap.size := k.lt
  have y22 : w.cell? ⟨B, 22, none⟩ = some (.slice (some ⟨L, 0, none⟩) xs.length cap) := HK.out.cell 22
  clear k hrow
  go_enter Try.func38, Try.ntmps38
  go_wp2_with (go_at_call 67; refine (none_lk _ _ _ HK.out rfl).mono ?_; rintro e w' ⟨rfl, rfl⟩)
  clear y22
  go_loopw [3, 14] (fun v y wr => ∃ (i : Nat) (va : Option Addr) (vm : Nat), i ≤ xs.length ∧ v = .slice va i vm ∧ y = .int .i64 i ∧ wr.ownsRow w.heap.size 109 9 (.slice va i vm) i ((xs.take i).flatMap (nbRow c st dr bd)) ∧ Below w.heap.size w wr) (fun _ y _ => xs.length - (intOf y).toNat)
  case atStart => exact ⟨0, none, 0, Nat.zero_le _, rfl, rfl, World.ownsRow_nil _ _ _ _, Below.refl _ _⟩
  case round =>
    obtain ⟨i, va, vm, hin, rfl, rfl, hown, hbw⟩ := hrel
    have HOwn := Lib.hid hown
    have HBw := Lib.hid hbw
    have hsw := hbw.size
    clear hown hbw
    by_cases hlt2 : i < xs.length
    · obtain ⟨x, hx⟩ : ∃ x, xs[i]? = some x := ⟨_, List.getElem?_eq_getElem hlt2⟩
      have HX := Lib.hid hx
      have KR := Lib.hid (HK.out.below HBw.out hlt)
      have hk0 := HRow.out.k x (List.mem_of_getElem? hx)
      have KX := Lib.hid (hk0.below HBw.out hk0.lt)
      have hlx := KX.out.lt
      have hlB := KR.out.lt
      have hl0 := HRow.out.r i x hx
      have l1 : wr.cell? ⟨L, i, none⟩ = some (.pointer (some ⟨x.1, 0, none⟩)) := (HBw.out.cell (p := ⟨L, i, none⟩) (lt_of_cell hl0)).trans hl0
      have n0 : wr.cell? ⟨x.1, 0, none⟩ = some (.int .u32 x.2.ro) := KX.out.cell 0
      have n1 : wr.cell? ⟨x.1, 1, none⟩ = some (.int .u32 x.2.ad) := KX.out.cell 1
      have n2 : wr.cell? ⟨x.1, 2, none⟩ = some (.int .u8 x.2.st) := KX.out.cell 2
      have n3 : wr.cell? ⟨x.1, 3, none⟩ = some (.int .u8 x.2.pr) := KX.out.cell 3
      have n4 : wr.cell? ⟨x.1, 4, none⟩ = some (.int .u32 x.2.dr) := KX.out.cell 4
      have n5 : wr.cell? ⟨x.1, 5, none⟩ = some (.int .u32 x.2.bd) := KX.out.cell 5
      have n6 : wr.cell? ⟨x.1, 6, none⟩ = some (.int .u8 x.2.op) := KX.out.cell 6
      have n7 : wr.cell? ⟨x.1, 7, none⟩ = some (.int .u32 x.2.lf) := KX.out.cell 7
      have n8 : wr.cell? ⟨x.1, 8, none⟩ = some (.bool x.2.wa) := KX.out.cell 8
      clear hx hk0 hl0
      go_upto_region 8 with fail
      obtain ⟨W0, hW0⟩ : ∃ W0, W0 = wr.alloc (.cells #[.int .u32 x.2.ro, .int .u32 x.2.ad, .int .u8 x.2.st, .int .u8 x.2.pr, .int .u32 x.2.dr, .int .u32 x.2.bd, .int .u8 x.2.op, .int .u32 x.2.lf, .bool x.2.wa] 109) := ⟨_, rfl⟩
      have K0 : Hid (Blk W0 B 119 (lks c st dr bd wt nx po re (.slice (some ⟨L, 0, none⟩) xs.length cap))) := Lib.hid (by rw [hW0]; exact KR.out.alloc _)
      have N0 : Hid (Blk W0 x.1 139 x.2.cells) := Lib.hid (by rw [hW0]; exact KX.out.alloc _)
      have X0 : Hid (Blk W0 wr.heap.size 109 #[.int .u32 x.2.ro, .int .u32 x.2.ad, .int .u8 x.2.st, .int .u8 x.2.pr, .int .u32 x.2.dr, .int .u32 x.2.bd, .int .u8 x.2.op, .int .u32 x.2.lf, .bool x.2.wa]) := Lib.hid (by rw [hW0]; exact Blk.new wr _ _)
      have B0 : Hid (Below wr.heap.size wr W0) := Lib.hid (by rw [hW0]; exact (Below.refl _ wr).alloc (Nat.le_refl _) _)
      rw [← hW0]
      clear hW0 l1 n0 n1 n2 n3 n4 n5 n6 n7 n8
      have hx0 : wr.heap.size < W0.heap.size := X0.out.lt
      have q1 := later_cell (v := .int .u8 c.ty) (B := wr.heap.size + 1) (w0 := W0) (p := ⟨B, 1, none⟩) (by simp; omega) (K0.out.cell 1)
      have q2 := later_cell (v := .int .u32 c.ro) (B := wr.heap.size + 1) (w0 := W0) (p := ⟨B, 2, none⟩) (by simp; omega) (K0.out.cell 2)
      have q3 := later_cell (v := .int .u32 c.na) (B := wr.heap.size + 1) (w0 := W0) (p := ⟨B, 3, none⟩) (by simp; omega) (K0.out.cell 3)
      have q4 := later_cell (v := .int .u8 c.nb) (B := wr.heap.size + 1) (w0 := W0) (p := ⟨B, 4, none⟩) (by simp; omega) (K0.out.cell 4)
      have q5 := later_cell (v := .int .u32 c.ad) (B := wr.heap.size + 1) (w0 := W0) (p := ⟨B, 5, none⟩) (by simp; omega) (K0.out.cell 5)
      have q6 := later_cell (v := .int .u8 c.op) (B := wr.heap.size + 1) (w0 := W0) (p := ⟨B, 6, none⟩) (by simp; omega) (K0.out.cell 6)
      have q7 := later_cell (v := .int .u16 c.hi) (B := wr.heap.size + 1) (w0 := W0) (p := ⟨B, 7, none⟩) (by simp; omega) (K0.out.cell 7)
      have q8 := later_cell (v := .int .u32 c.dd) (B := wr.heap.size + 1) (w0 := W0) (p := ⟨B, 8, none⟩) (by simp; omega) (K0.out.cell 8)
      have q9 := later_cell (v := .int .u16 c.po) (B := wr.heap.size + 1) (w0 := W0) (p := ⟨B, 9, none⟩) (by simp; omega) (K0.out.cell 9)
      have q10 := later_cell (v := .int .u8 c.pr) (B := wr.heap.size + 1) (w0 := W0) (p := ⟨B, 10, none⟩) (by simp; omega) (K0.out.cell 10)
      have q11 := later_cell (v := .bool c.dm) (B := wr.heap.size + 1) (w0 := W0) (p := ⟨B, 11, none⟩) (by simp; omega) (K0.out.cell 11)
      have q12 := later_cell (v := .bool c.ps) (B := wr.heap.size + 1) (w0 := W0) (p := ⟨B, 12, none⟩) (by simp; omega) (K0.out.cell 12)
      have q13 := later_cell (v := c.pe) (B := wr.heap.size + 1) (w0 := W0) (p := ⟨B, 13, none⟩) (by simp; omega) (K0.out.cell 13)
      have q14 := later_cell (v := .int .u32 c.rm) (B := wr.heap.size + 1) (w0 := W0) (p := ⟨B, 14, none⟩) (by simp; omega) (K0.out.cell 14)
      have q15 := later_cell (v := .int .u8 st) (B := wr.heap.size + 1) (w0 := W0) (p := ⟨B, 15, none⟩) (by simp; omega) (K0.out.cell 15)
      have q16 := later_cell (v := .int .u32 dr) (B := wr.heap.size + 1) (w0 := W0) (p := ⟨B, 16, none⟩) (by simp; omega) (K0.out.cell 16)
      have q17 := later_cell (v := .int .u32 bd) (B := wr.heap.size + 1) (w0 := W0) (p := ⟨B, 17, none⟩) (by simp; omega) (K0.out.cell 17)
      have p1 := later_cell (v := .int .u32 x.2.ad) (B := wr.heap.size + 1) (w0 := W0) (p := ⟨x.1, 1, none⟩) (by simp; omega) (N0.out.cell 1)
      have p2 := later_cell (v := .int .u8 x.2.st) (B := wr.heap.size + 1) (w0 := W0) (p := ⟨x.1, 2, none⟩) (by simp; omega) (N0.out.cell 2)
      refine wp_region_later_tail (B := wr.heap.size + 1) (w0 := W0) 52 (by kernel_rfl) (by kernel_rfl) (Below.refl _ _) ?_
      simp only [List.take_succ_cons, List.take_zero, List.drop_succ_cons, List.drop_zero]
      refine wpQuiet_cut _ 52 (R := fun a' : Act => ∃ q : Bool, q = wantK c st dr bd x ∧ ∃ u : Nat → Value, a' = { tmps := #[.pointer (some ⟨B, 0, none⟩), undef, .slice none 0 0, .slice va i vm, undef, .pointer (some ⟨x.1, 0, none⟩), .pointer (some ⟨wr.heap.size, 0, none⟩), .pointer (some ⟨B, 0, none⟩), .bool false, .pointer (some ⟨B, 0, none⟩), .pointer (some ⟨B, 0, none⟩), .pointer (some ⟨B, 22, none⟩), .slice (some ⟨L, 0, none⟩) xs.length cap, .int .i64 xs.length, .int .i64 i, u 15, u 16, u 17, u 18, u 19, u 20, u 21, u 22, u 23, u 24, u 25, u 26, u 27, u 28, u 29, u 30, u 31, u 32, u 33, u 34, u 35, u 36, u 37, u 38, u 39, u 40, u 41, u 42, u 43, u 44, u 45, u 46, u 47, u 48, u 49, u 50, u 51, u 52, u 53, u 54, u 55, u 56, u 57, u 58, u 59, u 60, u 61, u 62, u 63, u 64, u 65, u 66, u 67, u 68, u 69, u 70, u 71, u 72, .bool q, u 74, u 75, u 76, u 77, u 78, u 79, undef], defers := [] }) _ ?_ ?_
      · simp only [List.take_succ_cons, List.take_zero]
        rcases Bool.eq_false_or_eq_true (x.2.st == 3) with s1 | s1
        · obtain ⟨sh, hsh⟩ : ∃ sh, sh = c.shared := ⟨_, rfl⟩
          have d1 : Hid (∀ u : Later (wr.heap.size + 1) W0, Calls Try.prog 68 #[.agg #[.int .u8 c.ty, .int .u32 c.ro, .int .u32 c.na, .int .u8 c.nb, .int .u32 c.ad, .int .u8 c.op, .int .u16 c.hi, .int .u32 c.dd, .int .u16 c.po, .int .u8 c.pr, .bool c.dm, .bool c.ps, c.pe, .int .u32 c.rm]] u.to fun e w' => e = .returned (.bool sh) ∧ Below u.to.heap.size u.to w') := Lib.hid (fun u => by rw [hsh]; exact HP.out c u.to)
          have HSh := Lib.hid hsh
          clear hsh
          cases sh with
          | true =>
            have hsf := HSh.out.symm
            clear HSh
            by_cases s2 : 5 ≤ st
            · repeat (go_big_quiet_step (first | (go_at_call 68; with_reducible exact later_call _ (by omega) (d1.out _))))
              refine wpQuiet_nil ?_
              refine ⟨_, ?_, frame_of rfl⟩
              simp [wantK, s1, s2]
            · rcases Bool.eq_false_or_eq_true (st == 4) with s3 | s3
              · rcases Bool.eq_false_or_eq_true (x.2.ad == dr) with s4 | s4
                · repeat (go_big_quiet_step (first | (go_at_call 68; with_reducible exact later_call _ (by omega) (d1.out _))))
                  refine wpQuiet_nil ?_
                  refine ⟨_, ?_, frame_of rfl⟩
                  simp [wantK, s1, s3, s4]
                · repeat (go_big_quiet_step (first | (go_at_call 68; with_reducible exact later_call _ (by omega) (d1.out _))))
                  refine wpQuiet_nil ?_
                  refine ⟨_, ?_, frame_of rfl⟩
                  simp only [wantK, s1, s3, s4, hsf, decide_eq_false s2, Bool.not_true, Bool.false_or, Bool.true_and]
              · repeat (go_big_quiet_step (first | (go_at_call 68; with_reducible exact later_call _ (by omega) (d1.out _))))
                refine wpQuiet_nil ?_
                refine ⟨_, ?_, frame_of rfl⟩
                simp only [wantK, s1, s3, hsf, decide_eq_false s2, Bool.not_true, Bool.false_or, Bool.true_and, Bool.false_and]
          | false =>
            have hsf := HSh.out.symm
            clear HSh
            repeat (go_big_quiet_step (first | (go_at_call 68; with_reducible exact later_call _ (by omega) (d1.out _))))
            refine wpQuiet_nil ?_
            refine ⟨_, ?_, frame_of rfl⟩
            simp [wantK, s1, hsf]
        · repeat (go_big_quiet_step (fail))
          refine wpQuiet_nil ?_
          refine ⟨_, ?_, frame_of rfl⟩
          simp [wantK, s1]
      simp only [List.drop_succ_cons, List.drop_zero]
      rintro a' ⟨q, hq, u, rfl⟩
      refine wpQuiet_nil ?_
      rintro wx ⟨⟨wy, hwy⟩, hwe⟩
      obtain rfl : wx = wy := hwe
      have X1 := Lib.hid (X0.out.below hwy (by omega))
      have B1 := Lib.hid (B0.out.trans (hwy.mono (by omega)))
      have HQ := Lib.hid hq
      clear hq q1 q2 q3 q4 q5 q6 q7 q8 q9 q10 q11 q12 q13 q14 q15 q16 q17 p1 p2 hwy
      have x8 : wx.cell? ⟨wr.heap.size, 8, none⟩ = some (.bool x.2.wa) := X1.out.cell 8
      have fx := X1.out.frozen 8
      go_upto_region 9 with fail
      obtain ⟨W2, hW2⟩ : ∃ W2, W2 = wx.setCell ⟨wr.heap.size, 8, none⟩ (.bool q) := ⟨_, rfl⟩
      have X2 : Hid (Blk W2 wr.heap.size 109 #[.int .u32 x.2.ro, .int .u32 x.2.ad, .int .u8 x.2.st, .int .u8 x.2.pr, .int .u32 x.2.dr, .int .u32 x.2.bd, .int .u8 x.2.op, .int .u32 x.2.lf, .bool q]) := Lib.hid (by rw [hW2]; exact X1.out.set_ 8 _)
      have B2 : Hid (Below wr.heap.size wr W2) := Lib.hid (by rw [hW2]; exact B1.out.setCell (p := ⟨wr.heap.size, 8, none⟩) (Nat.le_refl _) _)
      rw [← hW2]
      clear hW2 x8 fx
      have m0 : W2.cell? ⟨wr.heap.size, 0, none⟩ = some (.int .u32 x.2.ro) := X2.out.cell 0
      have m1 : W2.cell? ⟨wr.heap.size, 1, none⟩ = some (.int .u32 x.2.ad) := X2.out.cell 1
      have m2 : W2.cell? ⟨wr.heap.size, 2, none⟩ = some (.int .u8 x.2.st) := X2.out.cell 2
      have m3 : W2.cell? ⟨wr.heap.size, 3, none⟩ = some (.int .u8 x.2.pr) := X2.out.cell 3
      have m4 : W2.cell? ⟨wr.heap.size, 4, none⟩ = some (.int .u32 x.2.dr) := X2.out.cell 4
      have m5 : W2.cell? ⟨wr.heap.size, 5, none⟩ = some (.int .u32 x.2.bd) := X2.out.cell 5
      have m6 : W2.cell? ⟨wr.heap.size, 6, none⟩ = some (.int .u8 x.2.op) := X2.out.cell 6
      have m7 : W2.cell? ⟨wr.heap.size, 7, none⟩ = some (.int .u32 x.2.lf) := X2.out.cell 7
      have m8 : W2.cell? ⟨wr.heap.size, 8, none⟩ = some (.bool q) := X2.out.cell 8
      have HLit := Lib.hid (Reads.of_own (World.ownsRow_lit (base := 0) (e := 109) (size := 9) W2 #[.int .u32 x.2.ro, .int .u32 x.2.ad, .int .u8 x.2.st, .int .u8 x.2.pr, .int .u32 x.2.dr, .int .u32 x.2.bd, .int .u8 x.2.op, .int .u32 x.2.lf, .bool q] 1 (Nat.zero_le _) (by simp [maxLen]) rfl))
      have HOwn2 : Hid ((W2.alloc (.cells #[.int .u32 x.2.ro, .int .u32 x.2.ad, .int .u8 x.2.st, .int .u8 x.2.pr, .int .u32 x.2.dr, .int .u32 x.2.bd, .int .u8 x.2.op, .int .u32 x.2.lf, .bool q] 109)).ownsRow w.heap.size 109 9 (.slice va i vm) i ((xs.take i).flatMap (nbRow c st dr bd))) := Lib.hid ((Frame.of_below (S := fun _ => False) (B2.out.alloc B2.out.size _)).own HOwn.out (fun _ _ e => e))
      have hs2 : w.heap.size ≤ W2.heap.size := by have := B2.out.size; omega
      have hs3 : w.heap.size ≤ (W2.alloc (.cells #[.int .u32 x.2.ro, .int .u32 x.2.ad, .int .u8 x.2.st, .int .u8 x.2.pr, .int .u32 x.2.dr, .int .u32 x.2.bd, .int .u8 x.2.op, .int .u32 x.2.lf, .bool q] 109)).heap.size := by rw [World.size_alloc]; omega
      go_wp2_with (at_builtin; refine wpList_append_any _ rfl (.tmp 75) (.tmp 77) _ rfl w.heap.size 109 i0 _ 9 32 Try.underlying97 hi hz0 hz1 hz2 rfl (by omega) (.slice va i vm) i _ rfl HOwn2.out _ (some ⟨W2.heap.size, 0, none⟩) 1 1 [.int .u32 x.2.ro, .int .u32 x.2.ad, .int .u8 x.2.st, .int .u8 x.2.pr, .int .u32 x.2.dr, .int .u32 x.2.bd, .int .u8 x.2.op, .int .u32 x.2.lf, .bool q] rfl HLit.out (by simp [Value.oneCell']) (by unfold maxLen; omega) (by omega) hs3 ?_; intro v1 w1 hown1 hg1 hat1; obtain ⟨va1, vm1, hv1⟩ := own_slice hown1; subst hv1; have HO := Lib.hid hown1; have HG1 := Lib.hid hg1; clear hown1 hg1 hat1)
      go_roundw
      case rel =>
        refine ⟨i + 1, va1, vm1, by omega, rfl, by simp, ?_, ?_⟩
        · have hf := flat_take (nbRow c st dr bd) HX.out
          rw [hf, nbRow, ← HQ.out]
          exact HO.out
        · exact (HBw.out.trans ((B2.out.alloc B2.out.size _).mono hsw)).grown HG1.out hs3 (fun k hk => by
            rcases HOwn.out.2 with ⟨h1, _⟩ | ⟨g, cp, cur, h1, hg, _⟩
            · rw [h1] at hk; simp [Value.ownBlock] at hk
            · rw [h1] at hk
              have : g = k := by simpa [Value.ownBlock] using hk
              omega)
      case measure => simp [intOf]; omega
    · obtain rfl : i = xs.length := by omega
      go_wp2_with fail
      go_ret
      have ho := HOwn.out
      rw [List.take_length] at ho
      exact ⟨_, rfl, ho, HBw.out⟩
end Go.Proofs.Ytgbmhijgpdgdbaa

namespace Go.Proofs.Ytgbmhijgpdgdbaa
open Go.RowKit

def heardQ (r : Int) (x : Nat × Kn) : Bool := (x.2.ro == r) && decide (2 ≤ x.2.st)

theorem flat_cell (c : LC) (st dr bd : Int) : ∀ (xs : List (Nat × Kn)) (j k : Nat) (x : Nat × Kn), xs[j]? = some x → k < 9 → (xs.flatMap (nbRow c st dr bd))[j * 9 + k]? = (nbRow c st dr bd x)[k]? := by
  intro xs
  induction xs with
  | nil => intro j k x h _; simp at h
  | cons y ys ih =>
    intro j k x h hk
    rw [List.flatMap_cons]
    cases j with
    | zero =>
      obtain rfl : y = x := by simpa using h
      rw [List.getElem?_append_left (by simp [nbRow]; omega)]
      simp
    | succ j =>
      rw [List.getElem?_append_right (by simp [nbRow]; omega)]
      have e : (j + 1) * 9 + k - (nbRow c st dr bd y).length = j * 9 + k := by simp [nbRow]; omega
      rw [e]
      exact ih j k x (by simpa using h) hk

def WasPost (r : Int) (xs : List (Nat × Kn)) (w : World) (e : Ending) (w' : World) : Prop := e = .returned (.bool (xs.any (heardQ r))) ∧ Below w.heap.size w w'

set_option maxHeartbeats 2000000 in
set_option maxRecDepth 20000 in
theorem was_heard (w : World) (B : Nat) (c : LC) (st dr bd r : Int) (xs : List (Nat × Kn)) (hlen : xs.length ≤ 60000) (hn : Calls Try.prog 38 #[.pointer (some ⟨B, 0, none⟩)] w fun e w' => NeighOnPost c st dr bd xs w e w') :
    Calls Try.prog 37 #[.pointer (some ⟨B, 0, none⟩), .int .u32 r] w fun e w' => WasPost r xs w e w' := by
  have HN := Lib.hid hn
  clear hn
  go_enter Try.func37, Try.ntmps37
  go_wp2_with fail
  refine HN.out.mono ?_
  rintro e w1 ⟨v, rfl, hown, hb⟩
  obtain ⟨a, m, rfl⟩ := own_slice hown
  have HOwn := Lib.hid hown
  have HB := Lib.hid hb
  clear hown hb HN
  go_wp2_with fail
  go_loopw [6] (fun x wr => ∃ i : Nat, i ≤ xs.length ∧ x = .int .i64 i ∧ wr = w1 ∧ ∀ (j : Nat) (y : Nat × Kn), j < i → xs[j]? = some y → heardQ r y = false) (fun x _ => xs.length - (intOf x).toNat)
  case atStart => exact ⟨0, Nat.zero_le _, rfl, rfl, fun j y hj => by omega⟩
  case round =>
    obtain ⟨i, hin, rfl, rfl, hno⟩ := hrel
    have HNo := Lib.hid hno
    clear hno
    by_cases hlt : i < xs.length
    · obtain ⟨x, hx⟩ : ∃ x, xs[i]? = some x := ⟨_, List.getElem?_eq_getElem hlt⟩
      have HX := Lib.hid hx
      obtain ⟨g, cap, rfl, b0, b2⟩ : ∃ g cap, a = some ⟨g, 0, none⟩ ∧ wr.cell? ⟨g, i * 9, none⟩ = some (.int .u32 x.2.ro) ∧ wr.cell? ⟨g, i * 9 + 2, none⟩ = some (.int .u8 x.2.st) := by
        rcases HOwn.out.2 with ⟨_, h0⟩ | ⟨g, cap, cur, hv, _⟩
        · omega
        · have ho := HOwn.out
          rw [hv] at ho
          injection hv with h1 h2 h3
          refine ⟨g, cap, h1, (ho.cellAt (i * 9) (by omega)).trans ?_, (ho.cellAt (i * 9 + 2) (by omega)).trans ?_⟩
          · exact (flat_cell c st dr bd xs i 0 x HX.out (by omega)).trans rfl
          · exact (flat_cell c st dr bd xs i 2 x HX.out (by omega)).trans rfl
      have hno2 : heardQ r x = false → ∀ (j : Nat) (y : Nat × Kn), j < i + 1 → xs[j]? = some y → heardQ r y = false := by
        intro h j y hj hy
        by_cases hji : j = i
        · subst hji
          rw [HX.out] at hy
          obtain rfl : x = y := Option.some.inj hy
          exact h
        · exact HNo.out j y (by omega) hy
      have HNo2 := Lib.hid hno2
      clear hx hno2
      rcases Bool.eq_false_or_eq_true (x.2.ro == r) with s4 | s4
      · by_cases s5 : 2 ≤ x.2.st
        · have hk : heardQ r x = true := by simp [heardQ, s4, s5]
          have HK := Lib.hid hk
          clear hk
          go_wp2_with fail
          go_ret
          refine ⟨?_, HB.out⟩
          have : xs.any (heardQ r) = true := List.any_eq_true.2 ⟨x, List.mem_of_getElem? HX.out, HK.out⟩
          rw [this]
          rfl
        · have hk : heardQ r x = false := by simp [heardQ, s5]
          have HK := Lib.hid hk
          clear hk
          go_wp2_with fail
          go_roundw
          case rel => exact ⟨i + 1, by omega, by simp, trivial, HNo2.out HK.out⟩
          case measure => simp [intOf]; omega
      · have hk : heardQ r x = false := by simp [heardQ, s4]
        have HK := Lib.hid hk
        clear hk
        go_wp2_with fail
        go_roundw
        case rel => exact ⟨i + 1, by omega, by simp, trivial, HNo2.out HK.out⟩
        case measure => simp [intOf]; omega
    · obtain rfl : i = xs.length := by omega
      go_wp2_with fail
      go_ret
      refine ⟨?_, HB.out⟩
      have : xs.any (heardQ r) = false := by
        rw [Bool.eq_false_iff]
        intro h
        obtain ⟨x, hx, hq⟩ := List.any_eq_true.1 h
        obtain ⟨j, hj⟩ := List.getElem?_of_mem hx
        rw [HNo.out j x (List.getElem?_eq_some_iff.1 hj).1 hj] at hq
        cases hq
      rw [this]
      rfl
end Go.Proofs.Ytgbmhijgpdgdbaa

namespace Go.Proofs.Ytgbmhijgpdgdbaa
open Go.RowKit

/-- A row with the one neighbour heard, m ticks left. -/
structure Row1 (c : LC) (As : List Int) (i : Nat) (f r m : Int) (xs : List (Nat × Kn)) : Prop where
  a : xs.map (fun x => x.2.ad) = As
  x : ∃ K, xs[i]? = some (K, { newK c f r with lf := m })
  o : ∀ (j : Nat) (y : Nat × Kn), j ≠ i → xs[j]? = some y → y.2.ro = 0
  l : LeftOk xs

/-- What does not change. -/
structure Stat (c : LC) (As : List Int) (i : Nat) (f r : Int) (Ls : List (Int × Int)) : Prop where
  dm : c.dm = false
  n0 : 0 ≤ c.nb
  n1 : c.nb ≤ 32
  net : bits .and .u32 c.na (maskN c.nb.toNat) = c.na
  ok : (mB4 c f r || mB5 c f || mB6 c r) = false
  d1 : 1 ≤ c.dd
  d2 : c.dd < 4294967296
  len : As.length ≤ 200
  fst : ∀ j, j < i → As[j]? ≠ some f
  one : c.peers = false → As.length = 1
  pe : c.peers = true → As = Ls.map (·.1)

theorem Stat.r0 {c : LC} {As : List Int} {i : Nat} {f r : Int} {Ls : List (Int × Int)} (h : Stat c As i f r Ls) : r ≠ 0 := by
  have := h.ok
  intro e
  simp [mB4, e] at this
theorem Stat.f0 {c : LC} {As : List Int} {i : Nat} {f r : Int} {Ls : List (Int × Int)} (h : Stat c As i f r Ls) : f ≠ 0 := by
  have := h.ok
  intro e
  simp [mB4, e] at this

section
variable {c : LC} {As : List Int} {i : Nat} {f r m : Int} {xs : List (Nat × Kn)} {Ls : List (Int × Int)}

theorem Row1.len (h : Row1 c As i f r m xs) : xs.length = As.length := by rw [← h.a, List.length_map]

theorem Row1.mapK (h : Row1 c As i f r m xs) (hs : Stat c As i f r Ls) {ks : Nat × Kn → Kn} (he : ElKn c xs ks) : Row1 c As i f r m (mapK ks xs) := by
  refine ⟨?_, ?_, fun j y hj hy => ?_, fun y hy h0 => ?_⟩
  · rw [← h.a]
    show (xs.map _).map _ = _
    rw [List.map_map]
    refine List.map_congr_left fun x hx => ?_
    rcases he x hx with e | ⟨_, _, e⟩
    · show (ks x).ad = _
      rw [e]
    · show (ks x).ad = _
      rw [e]
      rfl
  · obtain ⟨K, hK⟩ := h.x
    refine ⟨K, ?_⟩
    show (xs.map _)[i]? = _
    rw [List.getElem?_map, hK]
    rcases he _ (List.mem_of_getElem? hK) with e | ⟨_, e, _⟩
    · simp only [Option.map_some, e]
    · exact absurd (show (3 : Int) = 0 from e) (by decide)
  · have hy' : (xs.map fun x => (x.1, ks x))[j]? = some y := hy
    rw [List.getElem?_map] at hy'
    obtain ⟨x, hx, rfl⟩ := Option.map_eq_some_iff.1 hy'
    rcases he _ (List.mem_of_getElem? hx) with e | ⟨_, _, e⟩
    · show (ks x).ro = 0
      rw [e]
      exact h.o j x hj hx
    · show (ks x).ro = 0
      rw [e]
      exact h.o j x hj hx
  · obtain ⟨x, hx, rfl⟩ := List.mem_map.1 hy
    rcases he x hx with e | ⟨_, _, e⟩
    · show 1 ≤ (ks x).lf ∧ (ks x).lf < 4294967296
      have h0' : (ks x).st ≠ 0 := h0
      rw [e] at h0' ⊢
      exact h.l x hx h0'
    · show 1 ≤ (ks x).lf ∧ (ks x).lf < 4294967296
      rw [e]
      exact ⟨hs.d1, hs.d2⟩

theorem age_ad {xs' : List (Nat × Kn)} (ha : xs.map (fun x => x.2.ad) = Ls.map (·.1)) (hl : xs'.length = xs.length) (hr : ∀ (j : Nat) (x : Nat × Kn), xs[j]? = some x → ∃ x', xs'[j]? = some x' ∧ AgeRel Ls j x x') : xs'.map (fun x => x.2.ad) = Ls.map (·.1) := by
  rw [← ha]
  apply List.ext_getElem?
  intro j
  rw [List.getElem?_map, List.getElem?_map]
  cases hj : xs[j]? with
  | none =>
    have : xs'[j]? = none := by
      rw [List.getElem?_eq_none_iff] at hj ⊢
      omega
    rw [this]
  | some x =>
    obtain ⟨x', hx', hrel⟩ := hr j x hj
    rw [hx']
    rcases hrel with ⟨_, rfl⟩ | ⟨_, _, rfl⟩ | ⟨_, _, K, p, hp, rfl⟩
    · rfl
    · rfl
    · have h1 : (xs.map (fun x => x.2.ad))[j]? = (Ls.map (·.1))[j]? := by rw [ha]
      rw [List.getElem?_map, List.getElem?_map, hj, hp] at h1
      exact h1.symm

theorem age_back {xs' : List (Nat × Kn)} (hl : xs'.length = xs.length) (hr : ∀ (j : Nat) (x : Nat × Kn), xs[j]? = some x → ∃ x', xs'[j]? = some x' ∧ AgeRel Ls j x x') {j : Nat} {y : Nat × Kn} (hy : xs'[j]? = some y) : ∃ x, xs[j]? = some x ∧ AgeRel Ls j x y := by
  have hj : j < xs.length := by rw [← hl]; exact (List.getElem?_eq_some_iff.1 hy).1
  obtain ⟨x', hx', hrel⟩ := hr j _ (List.getElem?_eq_getElem hj)
  rw [hy] at hx'
  obtain rfl := Option.some.inj hx'
  exact ⟨_, List.getElem?_eq_getElem hj, hrel⟩

theorem age_left {xs' : List (Nat × Kn)} (h : LeftOk xs) (hl : xs'.length = xs.length) (hr : ∀ (j : Nat) (x : Nat × Kn), xs[j]? = some x → ∃ x', xs'[j]? = some x' ∧ AgeRel Ls j x x') : LeftOk xs' := by
  intro y hy h0
  obtain ⟨j, hj⟩ := List.getElem?_of_mem hy
  obtain ⟨x, hx, hrel⟩ := age_back hl hr hj
  rcases hrel with ⟨e, rfl⟩ | ⟨e, e1, rfl⟩ | ⟨_, _, K, p, hp, rfl⟩
  · exact absurd e h0
  · have := h x (List.mem_of_getElem? hx) e
    show 1 ≤ x.2.lf - 1 ∧ x.2.lf - 1 < 4294967296
    omega
  · exact absurd rfl h0

theorem age_others {xs' : List (Nat × Kn)} (ho : ∀ (j : Nat) (y : Nat × Kn), j ≠ i → xs[j]? = some y → y.2.ro = 0) (hl : xs'.length = xs.length) (hr : ∀ (j : Nat) (x : Nat × Kn), xs[j]? = some x → ∃ x', xs'[j]? = some x' ∧ AgeRel Ls j x x') : ∀ (j : Nat) (y : Nat × Kn), j ≠ i → xs'[j]? = some y → y.2.ro = 0 := by
  intro j y hj hy
  obtain ⟨x, hx, hrel⟩ := age_back hl hr hy
  rcases hrel with ⟨e, rfl⟩ | ⟨e, e1, rfl⟩ | ⟨_, _, K, p, hp, rfl⟩
  · exact ho j _ hj hx
  · show x.2.ro = 0
    exact ho j x hj hx
  · rfl

theorem Row1.age {xs' : List (Nat × Kn)} (h : Row1 c (Ls.map (·.1)) i f r m xs) (hm : m ≠ 1) (hl : xs'.length = xs.length) (hr : ∀ (j : Nat) (x : Nat × Kn), xs[j]? = some x → ∃ x', xs'[j]? = some x' ∧ AgeRel Ls j x x') : Row1 c (Ls.map (·.1)) i f r (m - 1) xs' := by
  refine ⟨age_ad h.a hl hr, ?_, age_others h.o hl hr, age_left h.l hl hr⟩
  obtain ⟨K, hK⟩ := h.x
  obtain ⟨x', hx', hrel⟩ := hr i _ hK
  rcases hrel with ⟨e, _⟩ | ⟨_, _, rfl⟩ | ⟨_, e, _⟩
  · exact absurd (show (3 : Int) = 0 from e) (by decide)
  · exact ⟨K, hx'⟩
  · exact absurd e hm

theorem Row1.age_end {xs' : List (Nat × Kn)} (h : Row1 c (Ls.map (·.1)) i f r 1 xs) (hl : xs'.length = xs.length) (hr : ∀ (j : Nat) (x : Nat × Kn), xs[j]? = some x → ∃ x', xs'[j]? = some x' ∧ AgeRel Ls j x x') : ∀ y ∈ xs', y.2.ro = 0 := by
  intro y hy
  obtain ⟨j, hj⟩ := List.getElem?_of_mem hy
  by_cases hji : j = i
  · subst hji
    obtain ⟨K, hK⟩ := h.x
    obtain ⟨x, hx, hrel⟩ := age_back hl hr hj
    rw [hK] at hx
    obtain rfl := Option.some.inj hx
    rcases hrel with ⟨e, _⟩ | ⟨_, e, _⟩ | ⟨_, e, K, p, hp, rfl⟩
    · exact absurd (show (3 : Int) = 0 from e) (by decide)
    · exact absurd rfl e
    · rfl
  · exact age_others h.o hl hr j y hji hj

theorem Row1.heard (h : Row1 c As i f r m xs) : xs.any (heardQ r) = true := by
  obtain ⟨K, hK⟩ := h.x
  exact List.any_eq_true.2 ⟨_, List.mem_of_getElem? hK, by simp [heardQ, newK]⟩

theorem none_heard (hr : r ≠ 0) (h : ∀ x ∈ xs, x.2.ro = 0) : xs.any (heardQ r) = false := by
  rw [Bool.eq_false_iff]
  intro e
  obtain ⟨x, hx, hq⟩ := List.any_eq_true.1 e
  have h0 := h x hx
  simp [heardQ, h0] at hq
  exact hr hq.1.symm

/-- A neighbour heard anew. -/
theorem Row1.set (ha : xs.map (fun x => x.2.ad) = As) (ho : ∀ (j : Nat) (y : Nat × Kn), j ≠ i → xs[j]? = some y → y.2.ro = 0) (hl : LeftOk xs) (hf : As[i]? = some f) (hd1 : 1 ≤ c.dd) (hd2 : c.dd < 4294967296) (K : Nat) : Row1 c As i f r c.dd (xs.set i (K, newK c f r)) := by
  have hi : i < xs.length := by
    have := (List.getElem?_eq_some_iff.1 hf).1
    rw [← ha, List.length_map] at this
    exact this
  refine ⟨?_, ⟨K, List.getElem?_set_self hi⟩, fun j y hj hy => ?_, fun y hy h0 => ?_⟩
  · rw [List.map_set, ha]
    exact set_same hf
  · rw [List.getElem?_set_ne (Ne.symm hj)] at hy
    exact ho j y hj hy
  · rcases List.mem_or_eq_of_mem_set hy with hy | rfl
    · exact hl y hy h0
    · exact ⟨hd1, hd2⟩

theorem find_det {e : Ending} {w w' : World} {x : Nat × Kn} (hx : xs[i]? = some x) (hk : isK c f r x = true) (hn : ∀ (j : Nat) (y : Nat × Kn), j < i → xs[j]? = some y → isK c f r y = false) (h : FindPost c f r xs w e w') : e = .returned (.int .i64 (i : Int)) ∧ w' = w := by
  obtain ⟨hw, ⟨_, h1⟩ | ⟨k, y, he, hy, hky, hmin⟩⟩ := h
  · rw [h1 x (List.mem_of_getElem? hx)] at hk
    cases hk
  · refine ⟨?_, hw⟩
    rcases Nat.lt_trichotomy k i with h | h | h
    · rw [hn k y h hy] at hky
      cases hky
    · rw [he, h]
    · rw [hmin i x h hx] at hk
      cases hk

theorem Row1.isK (h : Row1 c As i f r m xs) (hs : Stat c As i f r Ls) : (∃ x, xs[i]? = some x ∧ isK c f r x = true) ∧ ∀ (j : Nat) (y : Nat × Kn), j < i → xs[j]? = some y → Go.Proofs.Ytgbmhijgpdgdbaa.isK c f r y = false := by
  obtain ⟨K, hK⟩ := h.x
  refine ⟨⟨_, hK, ?_⟩, fun j y hj hy => ?_⟩
  · by_cases ht : c.ty < 3
    · simp [Go.Proofs.Ytgbmhijgpdgdbaa.isK, newK, ht]
    · have : 3 ≤ c.ty := by omega
      simp [Go.Proofs.Ytgbmhijgpdgdbaa.isK, newK, this]
  · have h0 := h.o j y (by omega) hy
    have h1 : (xs.map (fun x => x.2.ad))[j]? = some y.2.ad := by rw [List.getElem?_map, hy]; rfl
    rw [h.a] at h1
    have h2 : y.2.ad ≠ f := fun e => hs.fst j hj (by rw [h1, e])
    have h3 : (y.2.ad == f) = false := by simpa using h2
    have h4 : (y.2.ro == r) = false := by rw [h0]; simpa using fun e => hs.r0 e.symm
    simp [Go.Proofs.Ytgbmhijgpdgdbaa.isK, h3, h4]
end
end Go.Proofs.Ytgbmhijgpdgdbaa
