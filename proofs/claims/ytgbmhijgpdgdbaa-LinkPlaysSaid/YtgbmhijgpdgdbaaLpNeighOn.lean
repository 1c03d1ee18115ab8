/- The neighbours of a link with its row. -/
import Derived.Test.YtgbmhijgpdgdbaaLpHear13
import Derived.Test.YtgbmhijgpdgdbaaLpWorks13
import Derived.Test.YtgbmhijgpdgdbaaLpMxX
set_option maxHeartbeats 8000000
set_option maxRecDepth 40000
namespace Go.Proofs.Ytgbmhijgpdgdbaa
open Go.RowKit
def wantK (c : LC) (st dr bd : Int) (x : Nat × Kn) : Bool := (x.2.st == 3) && (!c.shared || (decide (5 ≤ st) || ((st == 4) && (x.2.ad == dr || x.2.ad == bd))))
def nbRow (c : LC) (st dr bd : Int) (x : Nat × Kn) : List Value := [.int .u32 x.2.ro, .int .u32 x.2.ad, .int .u8 x.2.st, .int .u8 x.2.pr, .int .u32 x.2.dr, .int .u32 x.2.bd, .int .u8 x.2.op, .int .u32 x.2.lf, .bool (wantK c st dr bd x)]
def NeighOnPost (c : LC) (st dr bd : Int) (xs : List (Nat × Kn)) (w : World) (e : Ending) (w' : World) : Prop :=
  ∃ v, e = .returned v ∧ w'.ownsRow w.heap.size 109 9 v xs.length (xs.flatMap (nbRow c st dr bd)) ∧ Below w.heap.size w w'
theorem flat_take {α β : Type} (f : α → List β) {xs : List α} {i : Nat} {x : α} (h : xs[i]? = some x) : (xs.take (i + 1)).flatMap f = (xs.take i).flatMap f ++ f x := by
  rw [List.take_add_one, h]
  simp
theorem neigh_row (w : World) (B : Nat) (c : LC) (st dr bd wt nx po re : Int) (L cap : Nat) (xs : List (Nat × Kn)) (hlen : xs.length ≤ 60000) (k : Blk w B 119 (lks c st dr bd wt nx po re (.slice (some ⟨L, 0, none⟩) xs.length cap))) (hrow : RowAt w L xs) :
    Calls Try.prog 38 #[.pointer (some ⟨B, 0, none⟩)] w fun e w' => NeighOnPost c st dr bd xs w e w' := by
  obtain ⟨i0, hi, hz0, hz1, hz2⟩ := info_parts neigh_info
  have HP := Lib.hid shared_any
  have HK := Lib.hid k
  have HRow := Lib.hid hrow
  have hlt : B < w.heap.size := k.lt
  have y22 : w.cell? ⟨B, 22, none⟩ = some (.slice (some ⟨L, 0, none⟩) xs.length cap) := HK.out.cell 22
  clear k hrow
  go_enter Try.func38, Try.ntmps38
  go_wp2_with (go_at_call 67; refine (none_lk _ _ _ HK.out rfl).mono ?_; rintro e w' ⟨rfl, rfl⟩)
  clear y22
  go_loopw [3, 14] (fun v y wr => ∃ (i : Nat) (va : Option Addr) (vm : Nat), i ≤ xs.length ∧ v = .slice va i vm ∧ y = .int .i64 i ∧ wr.ownsRow w.heap.size 109 9 (.slice va i vm) i ((xs.take i).flatMap (nbRow c st dr bd)) ∧ Below w.heap.size w wr) (fun _ y _ => xs.length - (intOf y).toNat)
  case atStart => exact ⟨0, none, 0, Nat.zero_le _, rfl, rfl, World.ownsRow_nil _ _ _ _, Below.refl _ _⟩
  case round =>
    obtain ⟨i, va, vm, hin, rfl, rfl, hown, hbw⟩ := hrel
    have HOwn := Lib.hid hown
    have HBw := Lib.hid hbw
    have hsw := hbw.size
    clear hown hbw
    by_cases hlt2 : i < xs.length
    · obtain ⟨x, hx⟩ : ∃ x, xs[i]? = some x := ⟨_, List.getElem?_eq_getElem hlt2⟩
      have HX := Lib.hid hx
      have KR := Lib.hid (HK.out.below HBw.out hlt)
      have hk0 := HRow.out.k x (List.mem_of_getElem? hx)
      have KX := Lib.hid (hk0.below HBw.out hk0.lt)
      have hlx := KX.out.lt
      have hlB := KR.out.lt
      have hl0 := HRow.out.r i x hx
      have l1 : wr.cell? ⟨L, i, none⟩ = some (.pointer (some ⟨x.1, 0, none⟩)) := (HBw.out.cell (p := ⟨L, i, none⟩) (lt_of_cell hl0)).trans hl0
      have n0 : wr.cell? ⟨x.1, 0, none⟩ = some (.int .u32 x.2.ro) := KX.out.cell 0
      have n1 : wr.cell? ⟨x.1, 1, none⟩ = some (.int .u32 x.2.ad) := KX.out.cell 1
      have n2 : wr.cell? ⟨x.1, 2, none⟩ = some (.int .u8 x.2.st) := KX.out.cell 2
      have n3 : wr.cell? ⟨x.1, 3, none⟩ = some (.int .u8 x.2.pr) := KX.out.cell 3
      have n4 : wr.cell? ⟨x.1, 4, none⟩ = some (.int .u32 x.2.dr) := KX.out.cell 4
      have n5 : wr.cell? ⟨x.1, 5, none⟩ = some (.int .u32 x.2.bd) := KX.out.cell 5
      have n6 : wr.cell? ⟨x.1, 6, none⟩ = some (.int .u8 x.2.op) := KX.out.cell 6
      have n7 : wr.cell? ⟨x.1, 7, none⟩ = some (.int .u32 x.2.lf) := KX.out.cell 7
      have n8 : wr.cell? ⟨x.1, 8, none⟩ = some (.bool x.2.wa) := KX.out.cell 8
      clear hx hk0 hl0
      go_upto_region 8 with fail
      obtain ⟨W0, hW0⟩ : ∃ W0, W0 = wr.alloc (.cells #[.int .u32 x.2.ro, .int .u32 x.2.ad, .int .u8 x.2.st, .int .u8 x.2.pr, .int .u32 x.2.dr, .int .u32 x.2.bd, .int .u8 x.2.op, .int .u32 x.2.lf, .bool x.2.wa] 109) := ⟨_, rfl⟩
      have K0 : Hid (Blk W0 B 119 (lks c st dr bd wt nx po re (.slice (some ⟨L, 0, none⟩) xs.length cap))) := Lib.hid (by rw [hW0]; exact KR.out.alloc _)
      have N0 : Hid (Blk W0 x.1 139 x.2.cells) := Lib.hid (by rw [hW0]; exact KX.out.alloc _)
      have X0 : Hid (Blk W0 wr.heap.size 109 #[.int .u32 x.2.ro, .int .u32 x.2.ad, .int .u8 x.2.st, .int .u8 x.2.pr, .int .u32 x.2.dr, .int .u32 x.2.bd, .int .u8 x.2.op, .int .u32 x.2.lf, .bool x.2.wa]) := Lib.hid (by rw [hW0]; exact Blk.new wr _ _)
      have B0 : Hid (Below wr.heap.size wr W0) := Lib.hid (by rw [hW0]; exact (Below.refl _ wr).alloc (Nat.le_refl _) _)
      rw [← hW0]
      clear hW0 l1 n0 n1 n2 n3 n4 n5 n6 n7 n8
      have hx0 : wr.heap.size < W0.heap.size := X0.out.lt
      have q1 := later_cell (v := .int .u8 c.ty) (B := wr.heap.size + 1) (w0 := W0) (p := ⟨B, 1, none⟩) (by simp; omega) (K0.out.cell 1)
      have q2 := later_cell (v := .int .u32 c.ro) (B := wr.heap.size + 1) (w0 := W0) (p := ⟨B, 2, none⟩) (by simp; omega) (K0.out.cell 2)
      have q3 := later_cell (v := .int .u32 c.na) (B := wr.heap.size + 1) (w0 := W0) (p := ⟨B, 3, none⟩) (by simp; omega) (K0.out.cell 3)
      have q4 := later_cell (v := .int .u8 c.nb) (B := wr.heap.size + 1) (w0 := W0) (p := ⟨B, 4, none⟩) (by simp; omega) (K0.out.cell 4)
      have q5 := later_cell (v := .int .u32 c.ad) (B := wr.heap.size + 1) (w0 := W0) (p := ⟨B, 5, none⟩) (by simp; omega) (K0.out.cell 5)
      have q6 := later_cell (v := .int .u8 c.op) (B := wr.heap.size + 1) (w0 := W0) (p := ⟨B, 6, none⟩) (by simp; omega) (K0.out.cell 6)
      have q7 := later_cell (v := .int .u16 c.hi) (B := wr.heap.size + 1) (w0 := W0) (p := ⟨B, 7, none⟩) (by simp; omega) (K0.out.cell 7)
      have q8 := later_cell (v := .int .u32 c.dd) (B := wr.heap.size + 1) (w0 := W0) (p := ⟨B, 8, none⟩) (by simp; omega) (K0.out.cell 8)
      have q9 := later_cell (v := .int .u16 c.po) (B := wr.heap.size + 1) (w0 := W0) (p := ⟨B, 9, none⟩) (by simp; omega) (K0.out.cell 9)
      have q10 := later_cell (v := .int .u8 c.pr) (B := wr.heap.size + 1) (w0 := W0) (p := ⟨B, 10, none⟩) (by simp; omega) (K0.out.cell 10)
      have q11 := later_cell (v := .bool c.dm) (B := wr.heap.size + 1) (w0 := W0) (p := ⟨B, 11, none⟩) (by simp; omega) (K0.out.cell 11)
      have q12 := later_cell (v := .bool c.ps) (B := wr.heap.size + 1) (w0 := W0) (p := ⟨B, 12, none⟩) (by simp; omega) (K0.out.cell 12)
      have q13 := later_cell (v := c.pe) (B := wr.heap.size + 1) (w0 := W0) (p := ⟨B, 13, none⟩) (by simp; omega) (K0.out.cell 13)
      have q14 := later_cell (v := .int .u32 c.rm) (B := wr.heap.size + 1) (w0 := W0) (p := ⟨B, 14, none⟩) (by simp; omega) (K0.out.cell 14)
      have q15 := later_cell (v := .int .u8 st) (B := wr.heap.size + 1) (w0 := W0) (p := ⟨B, 15, none⟩) (by simp; omega) (K0.out.cell 15)
      have q16 := later_cell (v := .int .u32 dr) (B := wr.heap.size + 1) (w0 := W0) (p := ⟨B, 16, none⟩) (by simp; omega) (K0.out.cell 16)
      have q17 := later_cell (v := .int .u32 bd) (B := wr.heap.size + 1) (w0 := W0) (p := ⟨B, 17, none⟩) (by simp; omega) (K0.out.cell 17)
      have p1 := later_cell (v := .int .u32 x.2.ad) (B := wr.heap.size + 1) (w0 := W0) (p := ⟨x.1, 1, none⟩) (by simp; omega) (N0.out.cell 1)
      have p2 := later_cell (v := .int .u8 x.2.st) (B := wr.heap.size + 1) (w0 := W0) (p := ⟨x.1, 2, none⟩) (by simp; omega) (N0.out.cell 2)
      refine wp_region_later_tail (B := wr.heap.size + 1) (w0 := W0) 52 (by kernel_rfl) (by kernel_rfl) (Below.refl _ _) ?_
      simp only [List.take_succ_cons, List.take_zero, List.drop_succ_cons, List.drop_zero]
      refine wpQuiet_cut _ 52 (R := fun a' : Act => ∃ q : Bool, q = wantK c st dr bd x ∧ ∃ u : Nat → Value, a' = { tmps := #[.pointer (some ⟨B, 0, none⟩), undef, .slice none 0 0, .slice va i vm, undef, .pointer (some ⟨x.1, 0, none⟩), .pointer (some ⟨wr.heap.size, 0, none⟩), .pointer (some ⟨B, 0, none⟩), .bool false, .pointer (some ⟨B, 0, none⟩), .pointer (some ⟨B, 0, none⟩), .pointer (some ⟨B, 22, none⟩), .slice (some ⟨L, 0, none⟩) xs.length cap, .int .i64 xs.length, .int .i64 i, u 15, u 16, u 17, u 18, u 19, u 20, u 21, u 22, u 23, u 24, u 25, u 26, u 27, u 28, u 29, u 30, u 31, u 32, u 33, u 34, u 35, u 36, u 37, u 38, u 39, u 40, u 41, u 42, u 43, u 44, u 45, u 46, u 47, u 48, u 49, u 50, u 51, u 52, u 53, u 54, u 55, u 56, u 57, u 58, u 59, u 60, u 61, u 62, u 63, u 64, u 65, u 66, u 67, u 68, u 69, u 70, u 71, u 72, .bool q, u 74, u 75, u 76, u 77, u 78, u 79, undef], defers := [] }) _ ?_ ?_
      · simp only [List.take_succ_cons, List.take_zero]
        rcases Bool.eq_false_or_eq_true (x.2.st == 3) with s1 | s1
        · obtain ⟨sh, hsh⟩ : ∃ sh, sh = c.shared := ⟨_, rfl⟩
          have d1 : Hid (∀ u : Later (wr.heap.size + 1) W0, Calls Try.prog 68 #[.agg #[.int .u8 c.ty, .int .u32 c.ro, .int .u32 c.na, .int .u8 c.nb, .int .u32 c.ad, .int .u8 c.op, .int .u16 c.hi, .int .u32 c.dd, .int .u16 c.po, .int .u8 c.pr, .bool c.dm, .bool c.ps, c.pe, .int .u32 c.rm]] u.to fun e w' => e = .returned (.bool sh) ∧ Below u.to.heap.size u.to w') := Lib.hid (fun u => by rw [hsh]; exact HP.out c u.to)
          have HSh := Lib.hid hsh
          clear hsh
          cases sh with
          | true =>
            have hsf := HSh.out.symm
            clear HSh
            by_cases s2 : 5 ≤ st
            · repeat (go_big_quiet_step (first | (go_at_call 68; with_reducible exact later_call _ (by omega) (d1.out _))))
              refine wpQuiet_nil ?_
              refine ⟨_, ?_, frame_of rfl⟩
              simp [wantK, s1, s2]
            · rcases Bool.eq_false_or_eq_true (st == 4) with s3 | s3
              · rcases Bool.eq_false_or_eq_true (x.2.ad == dr) with s4 | s4
                · repeat (go_big_quiet_step (first | (go_at_call 68; with_reducible exact later_call _ (by omega) (d1.out _))))
                  refine wpQuiet_nil ?_
                  refine ⟨_, ?_, frame_of rfl⟩
                  simp [wantK, s1, s3, s4]
                · repeat (go_big_quiet_step (first | (go_at_call 68; with_reducible exact later_call _ (by omega) (d1.out _))))
                  refine wpQuiet_nil ?_
                  refine ⟨_, ?_, frame_of rfl⟩
                  simp only [wantK, s1, s3, s4, hsf, decide_eq_false s2, Bool.not_true, Bool.false_or, Bool.true_and]
              · repeat (go_big_quiet_step (first | (go_at_call 68; with_reducible exact later_call _ (by omega) (d1.out _))))
                refine wpQuiet_nil ?_
                refine ⟨_, ?_, frame_of rfl⟩
                simp only [wantK, s1, s3, hsf, decide_eq_false s2, Bool.not_true, Bool.false_or, Bool.true_and, Bool.false_and]
          | false =>
            have hsf := HSh.out.symm
            clear HSh
            repeat (go_big_quiet_step (first | (go_at_call 68; with_reducible exact later_call _ (by omega) (d1.out _))))
            refine wpQuiet_nil ?_
            refine ⟨_, ?_, frame_of rfl⟩
            simp [wantK, s1, hsf]
        · repeat (go_big_quiet_step (fail))
          refine wpQuiet_nil ?_
          refine ⟨_, ?_, frame_of rfl⟩
          simp [wantK, s1]
      simp only [List.drop_succ_cons, List.drop_zero]
      rintro a' ⟨q, hq, u, rfl⟩
      refine wpQuiet_nil ?_
      rintro wx ⟨⟨wy, hwy⟩, hwe⟩
      obtain rfl : wx = wy := hwe
      have X1 := Lib.hid (X0.out.below hwy (by omega))
      have B1 := Lib.hid (B0.out.trans (hwy.mono (by omega)))
      have HQ := Lib.hid hq
      clear hq q1 q2 q3 q4 q5 q6 q7 q8 q9 q10 q11 q12 q13 q14 q15 q16 q17 p1 p2 hwy
      have x8 : wx.cell? ⟨wr.heap.size, 8, none⟩ = some (.bool x.2.wa) := X1.out.cell 8
      have fx := X1.out.frozen 8
      go_upto_region 9 with fail
      obtain ⟨W2, hW2⟩ : ∃ W2, W2 = wx.setCell ⟨wr.heap.size, 8, none⟩ (.bool q) := ⟨_, rfl⟩
      have X2 : Hid (Blk W2 wr.heap.size 109 #[.int .u32 x.2.ro, .int .u32 x.2.ad, .int .u8 x.2.st, .int .u8 x.2.pr, .int .u32 x.2.dr, .int .u32 x.2.bd, .int .u8 x.2.op, .int .u32 x.2.lf, .bool q]) := Lib.hid (by rw [hW2]; exact X1.out.set_ 8 _)
      have B2 : Hid (Below wr.heap.size wr W2) := Lib.hid (by rw [hW2]; exact B1.out.setCell (p := ⟨wr.heap.size, 8, none⟩) (Nat.le_refl _) _)
      rw [← hW2]
      clear hW2 x8 fx
      have m0 : W2.cell? ⟨wr.heap.size, 0, none⟩ = some (.int .u32 x.2.ro) := X2.out.cell 0
      have m1 : W2.cell? ⟨wr.heap.size, 1, none⟩ = some (.int .u32 x.2.ad) := X2.out.cell 1
      have m2 : W2.cell? ⟨wr.heap.size, 2, none⟩ = some (.int .u8 x.2.st) := X2.out.cell 2
      have m3 : W2.cell? ⟨wr.heap.size, 3, none⟩ = some (.int .u8 x.2.pr) := X2.out.cell 3
      have m4 : W2.cell? ⟨wr.heap.size, 4, none⟩ = some (.int .u32 x.2.dr) := X2.out.cell 4
      have m5 : W2.cell? ⟨wr.heap.size, 5, none⟩ = some (.int .u32 x.2.bd) := X2.out.cell 5
      have m6 : W2.cell? ⟨wr.heap.size, 6, none⟩ = some (.int .u8 x.2.op) := X2.out.cell 6
      have m7 : W2.cell? ⟨wr.heap.size, 7, none⟩ = some (.int .u32 x.2.lf) := X2.out.cell 7
      have m8 : W2.cell? ⟨wr.heap.size, 8, none⟩ = some (.bool q) := X2.out.cell 8
      have HLit := Lib.hid (Reads.of_own (World.ownsRow_lit (base := 0) (e := 109) (size := 9) W2 #[.int .u32 x.2.ro, .int .u32 x.2.ad, .int .u8 x.2.st, .int .u8 x.2.pr, .int .u32 x.2.dr, .int .u32 x.2.bd, .int .u8 x.2.op, .int .u32 x.2.lf, .bool q] 1 (Nat.zero_le _) (by simp [maxLen]) rfl))
      have HOwn2 : Hid ((W2.alloc (.cells #[.int .u32 x.2.ro, .int .u32 x.2.ad, .int .u8 x.2.st, .int .u8 x.2.pr, .int .u32 x.2.dr, .int .u32 x.2.bd, .int .u8 x.2.op, .int .u32 x.2.lf, .bool q] 109)).ownsRow w.heap.size 109 9 (.slice va i vm) i ((xs.take i).flatMap (nbRow c st dr bd))) := Lib.hid ((Frame.of_below (S := fun _ => False) (B2.out.alloc B2.out.size _)).own HOwn.out (fun _ _ e => e))
      have hs2 : w.heap.size ≤ W2.heap.size := by have := B2.out.size; omega
      have hs3 : w.heap.size ≤ (W2.alloc (.cells #[.int .u32 x.2.ro, .int .u32 x.2.ad, .int .u8 x.2.st, .int .u8 x.2.pr, .int .u32 x.2.dr, .int .u32 x.2.bd, .int .u8 x.2.op, .int .u32 x.2.lf, .bool q] 109)).heap.size := by rw [World.size_alloc]; omega
      go_wp2_with (at_builtin; refine wpList_append_any _ rfl (.tmp 75) (.tmp 77) _ rfl w.heap.size 109 i0 _ 9 32 Try.underlying97 hi hz0 hz1 hz2 rfl (by omega) (.slice va i vm) i _ rfl HOwn2.out _ (some ⟨W2.heap.size, 0, none⟩) 1 1 [.int .u32 x.2.ro, .int .u32 x.2.ad, .int .u8 x.2.st, .int .u8 x.2.pr, .int .u32 x.2.dr, .int .u32 x.2.bd, .int .u8 x.2.op, .int .u32 x.2.lf, .bool q] rfl HLit.out (by simp [Value.oneCell']) (by unfold maxLen; omega) (by omega) hs3 ?_; intro v1 w1 hown1 hg1 hat1; obtain ⟨va1, vm1, hv1⟩ := own_slice hown1; subst hv1; have HO := Lib.hid hown1; have HG1 := Lib.hid hg1; clear hown1 hg1 hat1)
      go_roundw
      case rel =>
        refine ⟨i + 1, va1, vm1, by omega, rfl, by simp, ?_, ?_⟩
        · have hf := flat_take (nbRow c st dr bd) HX.out
          rw [hf, nbRow, ← HQ.out]
          exact HO.out
        · exact (HBw.out.trans ((B2.out.alloc B2.out.size _).mono hsw)).grown HG1.out hs3 (fun k hk => by
            rcases HOwn.out.2 with ⟨h1, _⟩ | ⟨g, cp, cur, h1, hg, _⟩
            · rw [h1] at hk; simp [Value.ownBlock] at hk
            · rw [h1] at hk
              have : g = k := by simpa [Value.ownBlock] using hk
              omega)
      case measure => simp [intOf]; omega
    · obtain rfl : i = xs.length := by omega
      go_wp2_with fail
      go_ret
      have ho := HOwn.out
      rw [List.take_length] at ho
      exact ⟨_, rfl, ho, HBw.out⟩
end Go.Proofs.Ytgbmhijgpdgdbaa
