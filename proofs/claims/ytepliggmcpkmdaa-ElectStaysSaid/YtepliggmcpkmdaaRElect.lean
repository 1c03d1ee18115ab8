/- The reference's Elect. -/
import Derived.Test.YtepliggmcpkmdaaROnce
import Derived.Test.YtepliggmcpkmdaaElect
namespace Go.Proofs.Ytepliggmcpkmdaa
open Go.RowKit

theorem rvoice_info : (Try.prog.info? 33).map (fun i => (i.zero, i.size, i.bytes)) = some (some (.agg #[.int .u32 0, .int .u32 0, .int .u8 0, .int .u32 0, .int .u32 0]), 5, 20) := by kernel_rfl

theorem rchief_is {r a p d b : Int} {c : Bool} (h : El.chief ⟨r, a, p, d, b⟩ = c) (w : World) :
    Calls Try.prog 20 #[.agg #[.int .u32 r, .int .u32 a, .int .u8 p, .int .u32 d, .int .u32 b]] w fun e w' => e = .returned (.bool c) ∧ Below w.heap.size w w' := by
  rw [← h]; exact rchief_any _ _ _ _ _ _
theorem rbackup_is {r a p d b : Int} {c : Bool} (h : El.backup ⟨r, a, p, d, b⟩ = c) (w : World) :
    Calls Try.prog 21 #[.agg #[.int .u32 r, .int .u32 a, .int .u8 p, .int .u32 d, .int .u32 b]] w fun e w' => e = .returned (.bool c) ∧ Below w.heap.size w w' := by
  rw [← h]; exact rbackup_any _ _ _ _ _ _

/-- The first of a row of the call's own: two of its cells written over. -/
theorem rown_first {w : World} {base g n cap : Nat} {r a p d b d' b' : Int} {ys : List Value} (h : w.ownsRow base 33 5 (.slice (some ⟨g, 0, none⟩) n cap) n (cells ⟨r, a, p, d, b⟩ ++ ys)) :
    ((w.setCell ⟨g, 3, none⟩ (.int .u32 d')).setCell ⟨g, 4, none⟩ (.int .u32 b')).ownsRow base 33 5 (.slice (some ⟨g, 0, none⟩) n cap) n (cells ⟨r, a, p, d', b'⟩ ++ ys) :=
  (h.stored 3 _).1.stored 4 _ |>.1

set_option maxHeartbeats 4000000 in
theorem relect_any (r a p d b : Int) (A : Option Addr) (n cp : Nat) (vs : List El.V) (w : World) (hlen : vs.length = n) (hn : n + 1 ≤ 65536) (hr : Reads w w.heap.size 5 A n (vs.flatMap cells)) :
    Calls Try.prog 14 #[.agg #[.int .u32 r, .int .u32 a, .int .u8 p, .int .u32 d, .int .u32 b], .slice A n cp] w fun e w' =>
      e = .returned (.tuple #[.int .u32 (El.elect ⟨r, a, p, d, b⟩ vs).1, .int .u32 (El.elect ⟨r, a, p, d, b⟩ vs).2]) ∧ Below w.heap.size w w' := by
  obtain ⟨i0, hi, hz0, hz1, hz2⟩ := info_parts rvoice_info
  have Hlen := Lib.hid hlen
  clear hlen
  have hs : ((w.alloc (.cells #[.int .u32 r, .int .u32 a, .int .u8 p, .int .u32 d, .int .u32 b] 33)).alloc (.cells #[.int .u32 r, .int .u32 a, .int .u8 p, .int .u32 d, .int .u32 b] 33)).ownsRow w.heap.size 33 5 (.slice (some ⟨w.heap.size + 1, 0, none⟩) 1 1) 1 (cells ⟨r, a, p, d, b⟩) := by
    have := World.ownsRow_lit (base := w.heap.size) (e := 33) (size := 5) (w.alloc (.cells #[.int .u32 r, .int .u32 a, .int .u8 p, .int .u32 d, .int .u32 b] 33)) #[.int .u32 r, .int .u32 a, .int .u8 p, .int .u32 d, .int .u32 b] 1 (by simp) (by simp [maxLen]) rfl
    rw [World.size_alloc] at this
    exact this
  have HS := Lib.hid hs
  have HR := Lib.hid ((hr.alloc (Nat.le_refl _) (.cells #[.int .u32 r, .int .u32 a, .int .u8 p, .int .u32 d, .int .u32 b] 33)).alloc (by simp) (.cells #[.int .u32 r, .int .u32 a, .int .u8 p, .int .u32 d, .int .u32 b] 33))
  have HB : Hid (Below w.heap.size w ((w.alloc (.cells #[.int .u32 r, .int .u32 a, .int .u8 p, .int .u32 d, .int .u32 b] 33)).alloc (.cells #[.int .u32 r, .int .u32 a, .int .u8 p, .int .u32 d, .int .u32 b] 33))) := ((Below.refl _ w).alloc (Nat.le_refl _) _).alloc (by simp) _
  have HBlk : Hid (Blk ((w.alloc (.cells #[.int .u32 r, .int .u32 a, .int .u8 p, .int .u32 d, .int .u32 b] 33)).alloc (.cells #[.int .u32 r, .int .u32 a, .int .u8 p, .int .u32 d, .int .u32 b] 33)) w.heap.size 33 (cells ⟨r, a, p, d, b⟩).toArray) := (Blk.new w 33 _).alloc _
  clear hs hr
  go_enter Try.func14, Try.ntmps14
  go_wp2_with (at_builtin; refine wpList_append_any _ rfl (.tmp 13) (.tmp 14) _ rfl w.heap.size 33 i0 _ 5 20 Try.underlying22 hi hz0 hz1 hz2 rfl (by omega) (.slice (some ⟨w.heap.size + 1, 0, none⟩) 1 1) 1 (cells ⟨r, a, p, d, b⟩) rfl HS.out w.heap.size A n cp (vs.flatMap cells) rfl HR.out flat_one (by unfold maxLen; omega) (by omega) (by simp; omega) ?_; intro v1 w1 hown1 hg1 hat1)
  obtain ⟨g, cap, hv1, hgb, hlt⟩ := hown1.form (by omega)
  subst hv1
  have hblk1 := HBlk.out.grown hg1 (by simp [Value.ownBlock])
  have hbel1 : Below w.heap.size w w1 := HB.out.grown hg1 (by simp; omega) (fun k hk => by simp [Value.ownBlock] at hk; omega)
  have hgne : g ≠ w.heap.size := by
    rcases hat1 with h | h <;> simp [Value.ownBlock] at h <;> omega
  have e1 : cells ⟨r, a, p, d, b⟩ ++ vs.flatMap cells = (⟨r, a, p, d, b⟩ :: vs : List El.V).flatMap cells := by simp
  rw [e1, Nat.add_comm 1 n] at hown1
  have hlen2 : Hid ((⟨r, a, p, d, b⟩ :: vs : List El.V).length = n + 1) := by rw [Hid, List.length_cons, Hlen.out]
  rw [Nat.add_comm 1 n]
  clear HS HR HB HBlk hat1 hg1 e1
  refine (ronce_any _ _ _ (⟨r, a, p, d, b⟩ :: vs) _ hlen2.out hn (Reads.of_own hown1)).mono ?_
  obtain ⟨⟨x, y⟩, ho⟩ : ∃ o, El.once (⟨r, a, p, d, b⟩ :: vs) = o := ⟨_, rfl⟩
  rw [ho]
  have HO := Lib.hid ho
  clear ho
  rintro e w2 ⟨rfl, hb2⟩
  have hblk2 := hblk1.below hb2 hblk1.lt
  have hbel2 := hbel1.trans (hb2.mono hbel1.size)
  have hzq := hbel2.size
  have hzz : w.heap.size < w2.heap.size := hblk2.lt
  have hown2 := ownsRow_below hown1 hb2
  have hglt : g < w2.heap.size := by have := hb2.size; omega
  have s0 : w2.cell? ⟨w.heap.size, 0, none⟩ = some (.int .u32 r) := hblk2.cell 0
  have s1 : w2.cell? ⟨w.heap.size, 1, none⟩ = some (.int .u32 a) := hblk2.cell 1
  have s2 : w2.cell? ⟨w.heap.size, 2, none⟩ = some (.int .u8 p) := hblk2.cell 2
  have s3 : w2.cell? ⟨w.heap.size, 3, none⟩ = some (.int .u32 d) := hblk2.cell 3
  have s4 : w2.cell? ⟨w.heap.size, 4, none⟩ = some (.int .u32 b) := hblk2.cell 4
  clear hi hz0 hz1 hz2 hb2 hlt hown1
  go_upto_region 4 with fail
  go_cut [9] (fun s9 wx => wx = w2 ∧ s9 = .bool (El.isC ⟨r, a, p, d, b⟩ (x, y)))
  case first =>
    obtain ⟨A0, hA0⟩ : ∃ A0, (a != 0) = A0 := ⟨_, rfl⟩
    cases A0
    all_goals
      go_wp2_with fail
      go_meet
      case rel => exact ⟨rfl, by simp [El.isC, *]⟩
  case rest =>
  obtain ⟨rfl, rfl⟩ := hcut
  go_upto_region 5 with fail
  go_cut [10] (fun s10 wx => wx = wc ∧ s10 = .bool (El.isB ⟨r, a, p, d, b⟩ (x, y)))
  case first =>
    obtain ⟨A0, hA0⟩ : ∃ A0, (a != 0) = A0 := ⟨_, rfl⟩
    cases A0
    all_goals
      go_wp2_with fail
      go_meet
      case rel => exact ⟨rfl, by simp [El.isB, *]⟩
  case rest =>
  obtain ⟨hwc, rfl⟩ := hcut
  subst hwc
  have hpos : (0 : Int) < (n : Int) + 1 := by omega
  cases hC : El.isC ⟨r, a, p, d, b⟩ (x, y) <;> cases hB : El.isB ⟨r, a, p, d, b⟩ (x, y) <;> cases hch : El.chief ⟨r, a, p, d, b⟩ <;> cases hbk : El.backup ⟨r, a, p, d, b⟩
  · have HD : Hid (El.isC ⟨r, a, p, d, b⟩ (x, y) = false ∧ El.isB ⟨r, a, p, d, b⟩ (x, y) = false ∧ El.chief ⟨r, a, p, d, b⟩ = false ∧ El.backup ⟨r, a, p, d, b⟩ = false) := ⟨hC, hB, hch, hbk⟩
    clear hC hB hch hbk
    go_wp2_with fail
    refine (rchief_is HD.out.2.2.1 _).mono ?_
    rintro e w3 ⟨rfl, hb3⟩
    have hbel3 := hbel2.trans (hb3.mono hzq)
    have hz3 := hb3.size
    have t0 := (hb3.cell (p := ⟨w.heap.size, 0, none⟩) hzz).trans s0
    have t1 := (hb3.cell (p := ⟨w.heap.size, 1, none⟩) hzz).trans s1
    have t2 := (hb3.cell (p := ⟨w.heap.size, 2, none⟩) hzz).trans s2
    have t3 := (hb3.cell (p := ⟨w.heap.size, 3, none⟩) hzz).trans s3
    have t4 := (hb3.cell (p := ⟨w.heap.size, 4, none⟩) hzz).trans s4
    have hownK := ownsRow_below hown2 hb3
    have hbelK := hbel3
    clear s0 s1 s2 s3 s4
    go_wp2_with fail
    refine (rbackup_is HD.out.2.2.2 _).mono ?_
    rintro e w4 ⟨rfl, hb4⟩
    have hbelK := hbelK.trans (hb4.mono hbelK.size)
    have hfin := elect_stay HO.out (by rw [HD.out.1, HD.out.2.1, HD.out.2.2.1, HD.out.2.2.2]; rfl)
    have Hfin := Lib.hid hfin
    clear hfin
    go_wp2_with fail
    go_ret2
    exact ⟨ret_two (by rw [Hfin.out]), hbelK⟩
  · have HD : Hid (El.isC ⟨r, a, p, d, b⟩ (x, y) = false ∧ El.isB ⟨r, a, p, d, b⟩ (x, y) = false ∧ El.chief ⟨r, a, p, d, b⟩ = false ∧ El.backup ⟨r, a, p, d, b⟩ = true) := ⟨hC, hB, hch, hbk⟩
    clear hC hB hch hbk
    go_wp2_with fail
    refine (rchief_is HD.out.2.2.1 _).mono ?_
    rintro e w3 ⟨rfl, hb3⟩
    have hbel3 := hbel2.trans (hb3.mono hzq)
    have hz3 := hb3.size
    have t0 := (hb3.cell (p := ⟨w.heap.size, 0, none⟩) hzz).trans s0
    have t1 := (hb3.cell (p := ⟨w.heap.size, 1, none⟩) hzz).trans s1
    have t2 := (hb3.cell (p := ⟨w.heap.size, 2, none⟩) hzz).trans s2
    have t3 := (hb3.cell (p := ⟨w.heap.size, 3, none⟩) hzz).trans s3
    have t4 := (hb3.cell (p := ⟨w.heap.size, 4, none⟩) hzz).trans s4
    have hownK := ownsRow_below hown2 hb3
    have hbelK := hbel3
    clear s0 s1 s2 s3 s4
    go_wp2_with fail
    refine (rbackup_is HD.out.2.2.2 _).mono ?_
    rintro e w4 ⟨rfl, hb4⟩
    have hbelK := hbelK.trans (hb4.mono hbelK.size)
    have t0' := (hb4.cell (p := ⟨w.heap.size, 0, none⟩) (by simp; omega)).trans t0
    have t1' := (hb4.cell (p := ⟨w.heap.size, 1, none⟩) (by simp; omega)).trans t1
    have t2' := (hb4.cell (p := ⟨w.heap.size, 2, none⟩) (by simp; omega)).trans t2
    have t3' := (hb4.cell (p := ⟨w.heap.size, 3, none⟩) (by simp; omega)).trans t3
    have t4' := (hb4.cell (p := ⟨w.heap.size, 4, none⟩) (by simp; omega)).trans t4
    have hownK := ownsRow_below hownK hb4
    clear t0 t1 t2 t3 t4
    have k3 : w4.cell? ⟨g, 3, none⟩ = some (.int .u32 d) := hownK.cellAt 3 (by omega)
    have k4 : w4.cell? ⟨g, 4, none⟩ = some (.int .u32 b) := hownK.cellAt 4 (by omega)
    have kf := hownK.frozenAt
    have HW := Lib.hid hownK
    clear hownK
    go_wp2_with fail
    have HW0 := HW.out
    rw [List.flatMap_cons] at HW0
    have hownE := (HW0.stored 3 (.int .u32 0)).1.stored 4 (.int .u32 0) |>.1
    refine (ronce_any _ _ _ (⟨r, a, p, 0, 0⟩ :: vs) _ (by rw [List.length_cons, Hlen.out]) hn (Reads.of_own (by rw [List.flatMap_cons]; exact hownE))).mono ?_
    obtain ⟨⟨x', y'⟩, ho'⟩ : ∃ o, El.once (⟨r, a, p, 0, 0⟩ :: vs) = o := ⟨_, rfl⟩
    rw [ho']
    have HO' := Lib.hid ho'
    clear ho' hownE HW0 HW
    rintro e w5 ⟨rfl, hb5⟩
    have hbelE := (hbelK.setCell (p := ⟨g, 3, none⟩) hgb (.int .u32 0)).setCell (p := ⟨g, 4, none⟩) hgb (.int .u32 0)
    have hbelF := hbelE.trans (hb5.mono hbelE.size)
    have hfin := elect_anew HO.out (by rw [HD.out.1, HD.out.2.1, HD.out.2.2.1, HD.out.2.2.2]; rfl)
    rw [HD.out.1, HD.out.2.1] at hfin
    have Hfin := Lib.hid hfin
    clear hfin
    go_wp2_with fail
    go_ret2
    exact ⟨ret_two (by rw [Hfin.out]; exact HO'.out.symm), hbelF⟩
  · have HD : Hid (El.isC ⟨r, a, p, d, b⟩ (x, y) = false ∧ El.isB ⟨r, a, p, d, b⟩ (x, y) = false ∧ El.chief ⟨r, a, p, d, b⟩ = true ∧ El.backup ⟨r, a, p, d, b⟩ = false) := ⟨hC, hB, hch, hbk⟩
    clear hC hB hch hbk
    go_wp2_with fail
    refine (rchief_is HD.out.2.2.1 _).mono ?_
    rintro e w3 ⟨rfl, hb3⟩
    have hbel3 := hbel2.trans (hb3.mono hzq)
    have hz3 := hb3.size
    have t0 := (hb3.cell (p := ⟨w.heap.size, 0, none⟩) hzz).trans s0
    have t1 := (hb3.cell (p := ⟨w.heap.size, 1, none⟩) hzz).trans s1
    have t2 := (hb3.cell (p := ⟨w.heap.size, 2, none⟩) hzz).trans s2
    have t3 := (hb3.cell (p := ⟨w.heap.size, 3, none⟩) hzz).trans s3
    have t4 := (hb3.cell (p := ⟨w.heap.size, 4, none⟩) hzz).trans s4
    have hownK := ownsRow_below hown2 hb3
    have hbelK := hbel3
    clear s0 s1 s2 s3 s4
    have k3 : w3.cell? ⟨g, 3, none⟩ = some (.int .u32 d) := hownK.cellAt 3 (by omega)
    have k4 : w3.cell? ⟨g, 4, none⟩ = some (.int .u32 b) := hownK.cellAt 4 (by omega)
    have kf := hownK.frozenAt
    have HW := Lib.hid hownK
    clear hownK
    go_wp2_with fail
    have HW0 := HW.out
    rw [List.flatMap_cons] at HW0
    have hownE := (HW0.stored 3 (.int .u32 0)).1.stored 4 (.int .u32 0) |>.1
    refine (ronce_any _ _ _ (⟨r, a, p, 0, 0⟩ :: vs) _ (by rw [List.length_cons, Hlen.out]) hn (Reads.of_own (by rw [List.flatMap_cons]; exact hownE))).mono ?_
    obtain ⟨⟨x', y'⟩, ho'⟩ : ∃ o, El.once (⟨r, a, p, 0, 0⟩ :: vs) = o := ⟨_, rfl⟩
    rw [ho']
    have HO' := Lib.hid ho'
    clear ho' hownE HW0 HW
    rintro e w5 ⟨rfl, hb5⟩
    have hbelE := (hbelK.setCell (p := ⟨g, 3, none⟩) hgb (.int .u32 0)).setCell (p := ⟨g, 4, none⟩) hgb (.int .u32 0)
    have hbelF := hbelE.trans (hb5.mono hbelE.size)
    have hfin := elect_anew HO.out (by rw [HD.out.1, HD.out.2.1, HD.out.2.2.1, HD.out.2.2.2]; rfl)
    rw [HD.out.1, HD.out.2.1] at hfin
    have Hfin := Lib.hid hfin
    clear hfin
    go_wp2_with fail
    go_ret2
    exact ⟨ret_two (by rw [Hfin.out]; exact HO'.out.symm), hbelF⟩
  · have HD : Hid (El.isC ⟨r, a, p, d, b⟩ (x, y) = false ∧ El.isB ⟨r, a, p, d, b⟩ (x, y) = false ∧ El.chief ⟨r, a, p, d, b⟩ = true ∧ El.backup ⟨r, a, p, d, b⟩ = true) := ⟨hC, hB, hch, hbk⟩
    clear hC hB hch hbk
    go_wp2_with fail
    refine (rchief_is HD.out.2.2.1 _).mono ?_
    rintro e w3 ⟨rfl, hb3⟩
    have hbel3 := hbel2.trans (hb3.mono hzq)
    have hz3 := hb3.size
    have t0 := (hb3.cell (p := ⟨w.heap.size, 0, none⟩) hzz).trans s0
    have t1 := (hb3.cell (p := ⟨w.heap.size, 1, none⟩) hzz).trans s1
    have t2 := (hb3.cell (p := ⟨w.heap.size, 2, none⟩) hzz).trans s2
    have t3 := (hb3.cell (p := ⟨w.heap.size, 3, none⟩) hzz).trans s3
    have t4 := (hb3.cell (p := ⟨w.heap.size, 4, none⟩) hzz).trans s4
    have hownK := ownsRow_below hown2 hb3
    have hbelK := hbel3
    clear s0 s1 s2 s3 s4
    have k3 : w3.cell? ⟨g, 3, none⟩ = some (.int .u32 d) := hownK.cellAt 3 (by omega)
    have k4 : w3.cell? ⟨g, 4, none⟩ = some (.int .u32 b) := hownK.cellAt 4 (by omega)
    have kf := hownK.frozenAt
    have HW := Lib.hid hownK
    clear hownK
    go_wp2_with fail
    have HW0 := HW.out
    rw [List.flatMap_cons] at HW0
    have hownE := (HW0.stored 3 (.int .u32 0)).1.stored 4 (.int .u32 0) |>.1
    refine (ronce_any _ _ _ (⟨r, a, p, 0, 0⟩ :: vs) _ (by rw [List.length_cons, Hlen.out]) hn (Reads.of_own (by rw [List.flatMap_cons]; exact hownE))).mono ?_
    obtain ⟨⟨x', y'⟩, ho'⟩ : ∃ o, El.once (⟨r, a, p, 0, 0⟩ :: vs) = o := ⟨_, rfl⟩
    rw [ho']
    have HO' := Lib.hid ho'
    clear ho' hownE HW0 HW
    rintro e w5 ⟨rfl, hb5⟩
    have hbelE := (hbelK.setCell (p := ⟨g, 3, none⟩) hgb (.int .u32 0)).setCell (p := ⟨g, 4, none⟩) hgb (.int .u32 0)
    have hbelF := hbelE.trans (hb5.mono hbelE.size)
    have hfin := elect_anew HO.out (by rw [HD.out.1, HD.out.2.1, HD.out.2.2.1, HD.out.2.2.2]; rfl)
    rw [HD.out.1, HD.out.2.1] at hfin
    have Hfin := Lib.hid hfin
    clear hfin
    go_wp2_with fail
    go_ret2
    exact ⟨ret_two (by rw [Hfin.out]; exact HO'.out.symm), hbelF⟩
  · have HD : Hid (El.isC ⟨r, a, p, d, b⟩ (x, y) = false ∧ El.isB ⟨r, a, p, d, b⟩ (x, y) = true ∧ El.chief ⟨r, a, p, d, b⟩ = false ∧ El.backup ⟨r, a, p, d, b⟩ = false) := ⟨hC, hB, hch, hbk⟩
    clear hC hB hch hbk
    go_wp2_with fail
    refine (rchief_is HD.out.2.2.1 _).mono ?_
    rintro e w3 ⟨rfl, hb3⟩
    have hbel3 := hbel2.trans (hb3.mono hzq)
    have hz3 := hb3.size
    have t0 := (hb3.cell (p := ⟨w.heap.size, 0, none⟩) hzz).trans s0
    have t1 := (hb3.cell (p := ⟨w.heap.size, 1, none⟩) hzz).trans s1
    have t2 := (hb3.cell (p := ⟨w.heap.size, 2, none⟩) hzz).trans s2
    have t3 := (hb3.cell (p := ⟨w.heap.size, 3, none⟩) hzz).trans s3
    have t4 := (hb3.cell (p := ⟨w.heap.size, 4, none⟩) hzz).trans s4
    have hownK := ownsRow_below hown2 hb3
    have hbelK := hbel3
    clear s0 s1 s2 s3 s4
    go_wp2_with fail
    refine (rbackup_is HD.out.2.2.2 _).mono ?_
    rintro e w4 ⟨rfl, hb4⟩
    have hbelK := hbelK.trans (hb4.mono hbelK.size)
    have t0' := (hb4.cell (p := ⟨w.heap.size, 0, none⟩) (by simp; omega)).trans t0
    have t1' := (hb4.cell (p := ⟨w.heap.size, 1, none⟩) (by simp; omega)).trans t1
    have t2' := (hb4.cell (p := ⟨w.heap.size, 2, none⟩) (by simp; omega)).trans t2
    have t3' := (hb4.cell (p := ⟨w.heap.size, 3, none⟩) (by simp; omega)).trans t3
    have t4' := (hb4.cell (p := ⟨w.heap.size, 4, none⟩) (by simp; omega)).trans t4
    have hownK := ownsRow_below hownK hb4
    clear t0 t1 t2 t3 t4
    have k3 : w4.cell? ⟨g, 3, none⟩ = some (.int .u32 d) := hownK.cellAt 3 (by omega)
    have k4 : w4.cell? ⟨g, 4, none⟩ = some (.int .u32 b) := hownK.cellAt 4 (by omega)
    have kf := hownK.frozenAt
    have HW := Lib.hid hownK
    clear hownK
    go_wp2_with fail
    have HW0 := HW.out
    rw [List.flatMap_cons] at HW0
    have hownE := ((HW0.stored 3 (.int .u32 0)).1.stored 4 (.int .u32 0)).1.stored 4 (.int .u32 a) |>.1
    refine (ronce_any _ _ _ (⟨r, a, p, 0, a⟩ :: vs) _ (by rw [List.length_cons, Hlen.out]) hn (Reads.of_own (by rw [List.flatMap_cons]; exact hownE))).mono ?_
    obtain ⟨⟨x', y'⟩, ho'⟩ : ∃ o, El.once (⟨r, a, p, 0, a⟩ :: vs) = o := ⟨_, rfl⟩
    rw [ho']
    have HO' := Lib.hid ho'
    clear ho' hownE HW0 HW
    rintro e w5 ⟨rfl, hb5⟩
    have hbelE := (hbelK.setCell (p := ⟨g, 3, none⟩) hgb (.int .u32 0)).setCell (p := ⟨g, 4, none⟩) hgb (.int .u32 0)
    have hbelE := hbelE.setCell (p := ⟨g, 4, none⟩) hgb (.int .u32 a)
    have hbelF := hbelE.trans (hb5.mono hbelE.size)
    have hfin := elect_anew HO.out (by rw [HD.out.1, HD.out.2.1, HD.out.2.2.1, HD.out.2.2.2]; rfl)
    rw [HD.out.1, HD.out.2.1] at hfin
    have Hfin := Lib.hid hfin
    clear hfin
    go_wp2_with fail
    go_ret2
    exact ⟨ret_two (by rw [Hfin.out]; exact HO'.out.symm), hbelF⟩
  · have HD : Hid (El.isC ⟨r, a, p, d, b⟩ (x, y) = false ∧ El.isB ⟨r, a, p, d, b⟩ (x, y) = true ∧ El.chief ⟨r, a, p, d, b⟩ = false ∧ El.backup ⟨r, a, p, d, b⟩ = true) := ⟨hC, hB, hch, hbk⟩
    clear hC hB hch hbk
    go_wp2_with fail
    refine (rchief_is HD.out.2.2.1 _).mono ?_
    rintro e w3 ⟨rfl, hb3⟩
    have hbel3 := hbel2.trans (hb3.mono hzq)
    have hz3 := hb3.size
    have t0 := (hb3.cell (p := ⟨w.heap.size, 0, none⟩) hzz).trans s0
    have t1 := (hb3.cell (p := ⟨w.heap.size, 1, none⟩) hzz).trans s1
    have t2 := (hb3.cell (p := ⟨w.heap.size, 2, none⟩) hzz).trans s2
    have t3 := (hb3.cell (p := ⟨w.heap.size, 3, none⟩) hzz).trans s3
    have t4 := (hb3.cell (p := ⟨w.heap.size, 4, none⟩) hzz).trans s4
    have hownK := ownsRow_below hown2 hb3
    have hbelK := hbel3
    clear s0 s1 s2 s3 s4
    go_wp2_with fail
    refine (rbackup_is HD.out.2.2.2 _).mono ?_
    rintro e w4 ⟨rfl, hb4⟩
    have hbelK := hbelK.trans (hb4.mono hbelK.size)
    have hfin := elect_stay HO.out (by rw [HD.out.1, HD.out.2.1, HD.out.2.2.1, HD.out.2.2.2]; rfl)
    have Hfin := Lib.hid hfin
    clear hfin
    go_wp2_with fail
    go_ret2
    exact ⟨ret_two (by rw [Hfin.out]), hbelK⟩
  · have HD : Hid (El.isC ⟨r, a, p, d, b⟩ (x, y) = false ∧ El.isB ⟨r, a, p, d, b⟩ (x, y) = true ∧ El.chief ⟨r, a, p, d, b⟩ = true ∧ El.backup ⟨r, a, p, d, b⟩ = false) := ⟨hC, hB, hch, hbk⟩
    clear hC hB hch hbk
    go_wp2_with fail
    refine (rchief_is HD.out.2.2.1 _).mono ?_
    rintro e w3 ⟨rfl, hb3⟩
    have hbel3 := hbel2.trans (hb3.mono hzq)
    have hz3 := hb3.size
    have t0 := (hb3.cell (p := ⟨w.heap.size, 0, none⟩) hzz).trans s0
    have t1 := (hb3.cell (p := ⟨w.heap.size, 1, none⟩) hzz).trans s1
    have t2 := (hb3.cell (p := ⟨w.heap.size, 2, none⟩) hzz).trans s2
    have t3 := (hb3.cell (p := ⟨w.heap.size, 3, none⟩) hzz).trans s3
    have t4 := (hb3.cell (p := ⟨w.heap.size, 4, none⟩) hzz).trans s4
    have hownK := ownsRow_below hown2 hb3
    have hbelK := hbel3
    clear s0 s1 s2 s3 s4
    have k3 : w3.cell? ⟨g, 3, none⟩ = some (.int .u32 d) := hownK.cellAt 3 (by omega)
    have k4 : w3.cell? ⟨g, 4, none⟩ = some (.int .u32 b) := hownK.cellAt 4 (by omega)
    have kf := hownK.frozenAt
    have HW := Lib.hid hownK
    clear hownK
    go_wp2_with fail
    have HW0 := HW.out
    rw [List.flatMap_cons] at HW0
    have hownE := ((HW0.stored 3 (.int .u32 0)).1.stored 4 (.int .u32 0)).1.stored 4 (.int .u32 a) |>.1
    refine (ronce_any _ _ _ (⟨r, a, p, 0, a⟩ :: vs) _ (by rw [List.length_cons, Hlen.out]) hn (Reads.of_own (by rw [List.flatMap_cons]; exact hownE))).mono ?_
    obtain ⟨⟨x', y'⟩, ho'⟩ : ∃ o, El.once (⟨r, a, p, 0, a⟩ :: vs) = o := ⟨_, rfl⟩
    rw [ho']
    have HO' := Lib.hid ho'
    clear ho' hownE HW0 HW
    rintro e w5 ⟨rfl, hb5⟩
    have hbelE := (hbelK.setCell (p := ⟨g, 3, none⟩) hgb (.int .u32 0)).setCell (p := ⟨g, 4, none⟩) hgb (.int .u32 0)
    have hbelE := hbelE.setCell (p := ⟨g, 4, none⟩) hgb (.int .u32 a)
    have hbelF := hbelE.trans (hb5.mono hbelE.size)
    have hfin := elect_anew HO.out (by rw [HD.out.1, HD.out.2.1, HD.out.2.2.1, HD.out.2.2.2]; rfl)
    rw [HD.out.1, HD.out.2.1] at hfin
    have Hfin := Lib.hid hfin
    clear hfin
    go_wp2_with fail
    go_ret2
    exact ⟨ret_two (by rw [Hfin.out]; exact HO'.out.symm), hbelF⟩
  · have HD : Hid (El.isC ⟨r, a, p, d, b⟩ (x, y) = false ∧ El.isB ⟨r, a, p, d, b⟩ (x, y) = true ∧ El.chief ⟨r, a, p, d, b⟩ = true ∧ El.backup ⟨r, a, p, d, b⟩ = true) := ⟨hC, hB, hch, hbk⟩
    clear hC hB hch hbk
    go_wp2_with fail
    refine (rchief_is HD.out.2.2.1 _).mono ?_
    rintro e w3 ⟨rfl, hb3⟩
    have hbel3 := hbel2.trans (hb3.mono hzq)
    have hz3 := hb3.size
    have t0 := (hb3.cell (p := ⟨w.heap.size, 0, none⟩) hzz).trans s0
    have t1 := (hb3.cell (p := ⟨w.heap.size, 1, none⟩) hzz).trans s1
    have t2 := (hb3.cell (p := ⟨w.heap.size, 2, none⟩) hzz).trans s2
    have t3 := (hb3.cell (p := ⟨w.heap.size, 3, none⟩) hzz).trans s3
    have t4 := (hb3.cell (p := ⟨w.heap.size, 4, none⟩) hzz).trans s4
    have hownK := ownsRow_below hown2 hb3
    have hbelK := hbel3
    clear s0 s1 s2 s3 s4
    have k3 : w3.cell? ⟨g, 3, none⟩ = some (.int .u32 d) := hownK.cellAt 3 (by omega)
    have k4 : w3.cell? ⟨g, 4, none⟩ = some (.int .u32 b) := hownK.cellAt 4 (by omega)
    have kf := hownK.frozenAt
    have HW := Lib.hid hownK
    clear hownK
    go_wp2_with fail
    have HW0 := HW.out
    rw [List.flatMap_cons] at HW0
    have hownE := ((HW0.stored 3 (.int .u32 0)).1.stored 4 (.int .u32 0)).1.stored 4 (.int .u32 a) |>.1
    refine (ronce_any _ _ _ (⟨r, a, p, 0, a⟩ :: vs) _ (by rw [List.length_cons, Hlen.out]) hn (Reads.of_own (by rw [List.flatMap_cons]; exact hownE))).mono ?_
    obtain ⟨⟨x', y'⟩, ho'⟩ : ∃ o, El.once (⟨r, a, p, 0, a⟩ :: vs) = o := ⟨_, rfl⟩
    rw [ho']
    have HO' := Lib.hid ho'
    clear ho' hownE HW0 HW
    rintro e w5 ⟨rfl, hb5⟩
    have hbelE := (hbelK.setCell (p := ⟨g, 3, none⟩) hgb (.int .u32 0)).setCell (p := ⟨g, 4, none⟩) hgb (.int .u32 0)
    have hbelE := hbelE.setCell (p := ⟨g, 4, none⟩) hgb (.int .u32 a)
    have hbelF := hbelE.trans (hb5.mono hbelE.size)
    have hfin := elect_anew HO.out (by rw [HD.out.1, HD.out.2.1, HD.out.2.2.1, HD.out.2.2.2]; rfl)
    rw [HD.out.1, HD.out.2.1] at hfin
    have Hfin := Lib.hid hfin
    clear hfin
    go_wp2_with fail
    go_ret2
    exact ⟨ret_two (by rw [Hfin.out]; exact HO'.out.symm), hbelF⟩
  · have HD : Hid (El.isC ⟨r, a, p, d, b⟩ (x, y) = true ∧ El.isB ⟨r, a, p, d, b⟩ (x, y) = false ∧ El.chief ⟨r, a, p, d, b⟩ = false ∧ El.backup ⟨r, a, p, d, b⟩ = false) := ⟨hC, hB, hch, hbk⟩
    clear hC hB hch hbk
    go_wp2_with fail
    refine (rchief_is HD.out.2.2.1 _).mono ?_
    rintro e w3 ⟨rfl, hb3⟩
    have hbel3 := hbel2.trans (hb3.mono hzq)
    have hz3 := hb3.size
    have t0 := (hb3.cell (p := ⟨w.heap.size, 0, none⟩) hzz).trans s0
    have t1 := (hb3.cell (p := ⟨w.heap.size, 1, none⟩) hzz).trans s1
    have t2 := (hb3.cell (p := ⟨w.heap.size, 2, none⟩) hzz).trans s2
    have t3 := (hb3.cell (p := ⟨w.heap.size, 3, none⟩) hzz).trans s3
    have t4 := (hb3.cell (p := ⟨w.heap.size, 4, none⟩) hzz).trans s4
    have hownK := ownsRow_below hown2 hb3
    have hbelK := hbel3
    clear s0 s1 s2 s3 s4
    have k3 : w3.cell? ⟨g, 3, none⟩ = some (.int .u32 d) := hownK.cellAt 3 (by omega)
    have k4 : w3.cell? ⟨g, 4, none⟩ = some (.int .u32 b) := hownK.cellAt 4 (by omega)
    have kf := hownK.frozenAt
    have HW := Lib.hid hownK
    clear hownK
    go_wp2_with fail
    have HW0 := HW.out
    rw [List.flatMap_cons] at HW0
    have hownE := ((HW0.stored 3 (.int .u32 0)).1.stored 4 (.int .u32 0)).1.stored 3 (.int .u32 a) |>.1
    refine (ronce_any _ _ _ (⟨r, a, p, a, 0⟩ :: vs) _ (by rw [List.length_cons, Hlen.out]) hn (Reads.of_own (by rw [List.flatMap_cons]; exact hownE))).mono ?_
    obtain ⟨⟨x', y'⟩, ho'⟩ : ∃ o, El.once (⟨r, a, p, a, 0⟩ :: vs) = o := ⟨_, rfl⟩
    rw [ho']
    have HO' := Lib.hid ho'
    clear ho' hownE HW0 HW
    rintro e w5 ⟨rfl, hb5⟩
    have hbelE := (hbelK.setCell (p := ⟨g, 3, none⟩) hgb (.int .u32 0)).setCell (p := ⟨g, 4, none⟩) hgb (.int .u32 0)
    have hbelE := hbelE.setCell (p := ⟨g, 3, none⟩) hgb (.int .u32 a)
    have hbelF := hbelE.trans (hb5.mono hbelE.size)
    have hfin := elect_anew HO.out (by rw [HD.out.1, HD.out.2.1, HD.out.2.2.1, HD.out.2.2.2]; rfl)
    rw [HD.out.1, HD.out.2.1] at hfin
    have Hfin := Lib.hid hfin
    clear hfin
    go_wp2_with fail
    go_ret2
    exact ⟨ret_two (by rw [Hfin.out]; exact HO'.out.symm), hbelF⟩
  · have HD : Hid (El.isC ⟨r, a, p, d, b⟩ (x, y) = true ∧ El.isB ⟨r, a, p, d, b⟩ (x, y) = false ∧ El.chief ⟨r, a, p, d, b⟩ = false ∧ El.backup ⟨r, a, p, d, b⟩ = true) := ⟨hC, hB, hch, hbk⟩
    clear hC hB hch hbk
    go_wp2_with fail
    refine (rchief_is HD.out.2.2.1 _).mono ?_
    rintro e w3 ⟨rfl, hb3⟩
    have hbel3 := hbel2.trans (hb3.mono hzq)
    have hz3 := hb3.size
    have t0 := (hb3.cell (p := ⟨w.heap.size, 0, none⟩) hzz).trans s0
    have t1 := (hb3.cell (p := ⟨w.heap.size, 1, none⟩) hzz).trans s1
    have t2 := (hb3.cell (p := ⟨w.heap.size, 2, none⟩) hzz).trans s2
    have t3 := (hb3.cell (p := ⟨w.heap.size, 3, none⟩) hzz).trans s3
    have t4 := (hb3.cell (p := ⟨w.heap.size, 4, none⟩) hzz).trans s4
    have hownK := ownsRow_below hown2 hb3
    have hbelK := hbel3
    clear s0 s1 s2 s3 s4
    have k3 : w3.cell? ⟨g, 3, none⟩ = some (.int .u32 d) := hownK.cellAt 3 (by omega)
    have k4 : w3.cell? ⟨g, 4, none⟩ = some (.int .u32 b) := hownK.cellAt 4 (by omega)
    have kf := hownK.frozenAt
    have HW := Lib.hid hownK
    clear hownK
    go_wp2_with fail
    have HW0 := HW.out
    rw [List.flatMap_cons] at HW0
    have hownE := ((HW0.stored 3 (.int .u32 0)).1.stored 4 (.int .u32 0)).1.stored 3 (.int .u32 a) |>.1
    refine (ronce_any _ _ _ (⟨r, a, p, a, 0⟩ :: vs) _ (by rw [List.length_cons, Hlen.out]) hn (Reads.of_own (by rw [List.flatMap_cons]; exact hownE))).mono ?_
    obtain ⟨⟨x', y'⟩, ho'⟩ : ∃ o, El.once (⟨r, a, p, a, 0⟩ :: vs) = o := ⟨_, rfl⟩
    rw [ho']
    have HO' := Lib.hid ho'
    clear ho' hownE HW0 HW
    rintro e w5 ⟨rfl, hb5⟩
    have hbelE := (hbelK.setCell (p := ⟨g, 3, none⟩) hgb (.int .u32 0)).setCell (p := ⟨g, 4, none⟩) hgb (.int .u32 0)
    have hbelE := hbelE.setCell (p := ⟨g, 3, none⟩) hgb (.int .u32 a)
    have hbelF := hbelE.trans (hb5.mono hbelE.size)
    have hfin := elect_anew HO.out (by rw [HD.out.1, HD.out.2.1, HD.out.2.2.1, HD.out.2.2.2]; rfl)
    rw [HD.out.1, HD.out.2.1] at hfin
    have Hfin := Lib.hid hfin
    clear hfin
    go_wp2_with fail
    go_ret2
    exact ⟨ret_two (by rw [Hfin.out]; exact HO'.out.symm), hbelF⟩
  · have HD : Hid (El.isC ⟨r, a, p, d, b⟩ (x, y) = true ∧ El.isB ⟨r, a, p, d, b⟩ (x, y) = false ∧ El.chief ⟨r, a, p, d, b⟩ = true ∧ El.backup ⟨r, a, p, d, b⟩ = false) := ⟨hC, hB, hch, hbk⟩
    clear hC hB hch hbk
    go_wp2_with fail
    refine (rchief_is HD.out.2.2.1 _).mono ?_
    rintro e w3 ⟨rfl, hb3⟩
    have hbel3 := hbel2.trans (hb3.mono hzq)
    have hz3 := hb3.size
    have t0 := (hb3.cell (p := ⟨w.heap.size, 0, none⟩) hzz).trans s0
    have t1 := (hb3.cell (p := ⟨w.heap.size, 1, none⟩) hzz).trans s1
    have t2 := (hb3.cell (p := ⟨w.heap.size, 2, none⟩) hzz).trans s2
    have t3 := (hb3.cell (p := ⟨w.heap.size, 3, none⟩) hzz).trans s3
    have t4 := (hb3.cell (p := ⟨w.heap.size, 4, none⟩) hzz).trans s4
    have hownK := ownsRow_below hown2 hb3
    have hbelK := hbel3
    clear s0 s1 s2 s3 s4
    go_wp2_with fail
    refine (rbackup_is HD.out.2.2.2 _).mono ?_
    rintro e w4 ⟨rfl, hb4⟩
    have hbelK := hbelK.trans (hb4.mono hbelK.size)
    have hfin := elect_stay HO.out (by rw [HD.out.1, HD.out.2.1, HD.out.2.2.1, HD.out.2.2.2]; rfl)
    have Hfin := Lib.hid hfin
    clear hfin
    go_wp2_with fail
    go_ret2
    exact ⟨ret_two (by rw [Hfin.out]), hbelK⟩
  · have HD : Hid (El.isC ⟨r, a, p, d, b⟩ (x, y) = true ∧ El.isB ⟨r, a, p, d, b⟩ (x, y) = false ∧ El.chief ⟨r, a, p, d, b⟩ = true ∧ El.backup ⟨r, a, p, d, b⟩ = true) := ⟨hC, hB, hch, hbk⟩
    clear hC hB hch hbk
    go_wp2_with fail
    refine (rchief_is HD.out.2.2.1 _).mono ?_
    rintro e w3 ⟨rfl, hb3⟩
    have hbel3 := hbel2.trans (hb3.mono hzq)
    have hz3 := hb3.size
    have t0 := (hb3.cell (p := ⟨w.heap.size, 0, none⟩) hzz).trans s0
    have t1 := (hb3.cell (p := ⟨w.heap.size, 1, none⟩) hzz).trans s1
    have t2 := (hb3.cell (p := ⟨w.heap.size, 2, none⟩) hzz).trans s2
    have t3 := (hb3.cell (p := ⟨w.heap.size, 3, none⟩) hzz).trans s3
    have t4 := (hb3.cell (p := ⟨w.heap.size, 4, none⟩) hzz).trans s4
    have hownK := ownsRow_below hown2 hb3
    have hbelK := hbel3
    clear s0 s1 s2 s3 s4
    go_wp2_with fail
    refine (rbackup_is HD.out.2.2.2 _).mono ?_
    rintro e w4 ⟨rfl, hb4⟩
    have hbelK := hbelK.trans (hb4.mono hbelK.size)
    have t0' := (hb4.cell (p := ⟨w.heap.size, 0, none⟩) (by simp; omega)).trans t0
    have t1' := (hb4.cell (p := ⟨w.heap.size, 1, none⟩) (by simp; omega)).trans t1
    have t2' := (hb4.cell (p := ⟨w.heap.size, 2, none⟩) (by simp; omega)).trans t2
    have t3' := (hb4.cell (p := ⟨w.heap.size, 3, none⟩) (by simp; omega)).trans t3
    have t4' := (hb4.cell (p := ⟨w.heap.size, 4, none⟩) (by simp; omega)).trans t4
    have hownK := ownsRow_below hownK hb4
    clear t0 t1 t2 t3 t4
    have k3 : w4.cell? ⟨g, 3, none⟩ = some (.int .u32 d) := hownK.cellAt 3 (by omega)
    have k4 : w4.cell? ⟨g, 4, none⟩ = some (.int .u32 b) := hownK.cellAt 4 (by omega)
    have kf := hownK.frozenAt
    have HW := Lib.hid hownK
    clear hownK
    go_wp2_with fail
    have HW0 := HW.out
    rw [List.flatMap_cons] at HW0
    have hownE := ((HW0.stored 3 (.int .u32 0)).1.stored 4 (.int .u32 0)).1.stored 3 (.int .u32 a) |>.1
    refine (ronce_any _ _ _ (⟨r, a, p, a, 0⟩ :: vs) _ (by rw [List.length_cons, Hlen.out]) hn (Reads.of_own (by rw [List.flatMap_cons]; exact hownE))).mono ?_
    obtain ⟨⟨x', y'⟩, ho'⟩ : ∃ o, El.once (⟨r, a, p, a, 0⟩ :: vs) = o := ⟨_, rfl⟩
    rw [ho']
    have HO' := Lib.hid ho'
    clear ho' hownE HW0 HW
    rintro e w5 ⟨rfl, hb5⟩
    have hbelE := (hbelK.setCell (p := ⟨g, 3, none⟩) hgb (.int .u32 0)).setCell (p := ⟨g, 4, none⟩) hgb (.int .u32 0)
    have hbelE := hbelE.setCell (p := ⟨g, 3, none⟩) hgb (.int .u32 a)
    have hbelF := hbelE.trans (hb5.mono hbelE.size)
    have hfin := elect_anew HO.out (by rw [HD.out.1, HD.out.2.1, HD.out.2.2.1, HD.out.2.2.2]; rfl)
    rw [HD.out.1, HD.out.2.1] at hfin
    have Hfin := Lib.hid hfin
    clear hfin
    go_wp2_with fail
    go_ret2
    exact ⟨ret_two (by rw [Hfin.out]; exact HO'.out.symm), hbelF⟩
  · have HD : Hid (El.isC ⟨r, a, p, d, b⟩ (x, y) = true ∧ El.isB ⟨r, a, p, d, b⟩ (x, y) = true ∧ El.chief ⟨r, a, p, d, b⟩ = false ∧ El.backup ⟨r, a, p, d, b⟩ = false) := ⟨hC, hB, hch, hbk⟩
    clear hC hB hch hbk
    go_wp2_with fail
    refine (rchief_is HD.out.2.2.1 _).mono ?_
    rintro e w3 ⟨rfl, hb3⟩
    have hbel3 := hbel2.trans (hb3.mono hzq)
    have hz3 := hb3.size
    have t0 := (hb3.cell (p := ⟨w.heap.size, 0, none⟩) hzz).trans s0
    have t1 := (hb3.cell (p := ⟨w.heap.size, 1, none⟩) hzz).trans s1
    have t2 := (hb3.cell (p := ⟨w.heap.size, 2, none⟩) hzz).trans s2
    have t3 := (hb3.cell (p := ⟨w.heap.size, 3, none⟩) hzz).trans s3
    have t4 := (hb3.cell (p := ⟨w.heap.size, 4, none⟩) hzz).trans s4
    have hownK := ownsRow_below hown2 hb3
    have hbelK := hbel3
    clear s0 s1 s2 s3 s4
    have k3 : w3.cell? ⟨g, 3, none⟩ = some (.int .u32 d) := hownK.cellAt 3 (by omega)
    have k4 : w3.cell? ⟨g, 4, none⟩ = some (.int .u32 b) := hownK.cellAt 4 (by omega)
    have kf := hownK.frozenAt
    have HW := Lib.hid hownK
    clear hownK
    go_wp2_with fail
    have HW0 := HW.out
    rw [List.flatMap_cons] at HW0
    have hownE := ((HW0.stored 3 (.int .u32 0)).1.stored 4 (.int .u32 0)).1.stored 3 (.int .u32 a) |>.1
    refine (ronce_any _ _ _ (⟨r, a, p, a, 0⟩ :: vs) _ (by rw [List.length_cons, Hlen.out]) hn (Reads.of_own (by rw [List.flatMap_cons]; exact hownE))).mono ?_
    obtain ⟨⟨x', y'⟩, ho'⟩ : ∃ o, El.once (⟨r, a, p, a, 0⟩ :: vs) = o := ⟨_, rfl⟩
    rw [ho']
    have HO' := Lib.hid ho'
    clear ho' hownE HW0 HW
    rintro e w5 ⟨rfl, hb5⟩
    have hbelE := (hbelK.setCell (p := ⟨g, 3, none⟩) hgb (.int .u32 0)).setCell (p := ⟨g, 4, none⟩) hgb (.int .u32 0)
    have hbelE := hbelE.setCell (p := ⟨g, 3, none⟩) hgb (.int .u32 a)
    have hbelF := hbelE.trans (hb5.mono hbelE.size)
    have hfin := elect_anew HO.out (by rw [HD.out.1, HD.out.2.1, HD.out.2.2.1, HD.out.2.2.2]; rfl)
    rw [HD.out.1, HD.out.2.1] at hfin
    have Hfin := Lib.hid hfin
    clear hfin
    go_wp2_with fail
    go_ret2
    exact ⟨ret_two (by rw [Hfin.out]; exact HO'.out.symm), hbelF⟩
  · have HD : Hid (El.isC ⟨r, a, p, d, b⟩ (x, y) = true ∧ El.isB ⟨r, a, p, d, b⟩ (x, y) = true ∧ El.chief ⟨r, a, p, d, b⟩ = false ∧ El.backup ⟨r, a, p, d, b⟩ = true) := ⟨hC, hB, hch, hbk⟩
    clear hC hB hch hbk
    go_wp2_with fail
    refine (rchief_is HD.out.2.2.1 _).mono ?_
    rintro e w3 ⟨rfl, hb3⟩
    have hbel3 := hbel2.trans (hb3.mono hzq)
    have hz3 := hb3.size
    have t0 := (hb3.cell (p := ⟨w.heap.size, 0, none⟩) hzz).trans s0
    have t1 := (hb3.cell (p := ⟨w.heap.size, 1, none⟩) hzz).trans s1
    have t2 := (hb3.cell (p := ⟨w.heap.size, 2, none⟩) hzz).trans s2
    have t3 := (hb3.cell (p := ⟨w.heap.size, 3, none⟩) hzz).trans s3
    have t4 := (hb3.cell (p := ⟨w.heap.size, 4, none⟩) hzz).trans s4
    have hownK := ownsRow_below hown2 hb3
    have hbelK := hbel3
    clear s0 s1 s2 s3 s4
    have k3 : w3.cell? ⟨g, 3, none⟩ = some (.int .u32 d) := hownK.cellAt 3 (by omega)
    have k4 : w3.cell? ⟨g, 4, none⟩ = some (.int .u32 b) := hownK.cellAt 4 (by omega)
    have kf := hownK.frozenAt
    have HW := Lib.hid hownK
    clear hownK
    go_wp2_with fail
    have HW0 := HW.out
    rw [List.flatMap_cons] at HW0
    have hownE := ((HW0.stored 3 (.int .u32 0)).1.stored 4 (.int .u32 0)).1.stored 3 (.int .u32 a) |>.1
    refine (ronce_any _ _ _ (⟨r, a, p, a, 0⟩ :: vs) _ (by rw [List.length_cons, Hlen.out]) hn (Reads.of_own (by rw [List.flatMap_cons]; exact hownE))).mono ?_
    obtain ⟨⟨x', y'⟩, ho'⟩ : ∃ o, El.once (⟨r, a, p, a, 0⟩ :: vs) = o := ⟨_, rfl⟩
    rw [ho']
    have HO' := Lib.hid ho'
    clear ho' hownE HW0 HW
    rintro e w5 ⟨rfl, hb5⟩
    have hbelE := (hbelK.setCell (p := ⟨g, 3, none⟩) hgb (.int .u32 0)).setCell (p := ⟨g, 4, none⟩) hgb (.int .u32 0)
    have hbelE := hbelE.setCell (p := ⟨g, 3, none⟩) hgb (.int .u32 a)
    have hbelF := hbelE.trans (hb5.mono hbelE.size)
    have hfin := elect_anew HO.out (by rw [HD.out.1, HD.out.2.1, HD.out.2.2.1, HD.out.2.2.2]; rfl)
    rw [HD.out.1, HD.out.2.1] at hfin
    have Hfin := Lib.hid hfin
    clear hfin
    go_wp2_with fail
    go_ret2
    exact ⟨ret_two (by rw [Hfin.out]; exact HO'.out.symm), hbelF⟩
  · have HD : Hid (El.isC ⟨r, a, p, d, b⟩ (x, y) = true ∧ El.isB ⟨r, a, p, d, b⟩ (x, y) = true ∧ El.chief ⟨r, a, p, d, b⟩ = true ∧ El.backup ⟨r, a, p, d, b⟩ = false) := ⟨hC, hB, hch, hbk⟩
    clear hC hB hch hbk
    go_wp2_with fail
    refine (rchief_is HD.out.2.2.1 _).mono ?_
    rintro e w3 ⟨rfl, hb3⟩
    have hbel3 := hbel2.trans (hb3.mono hzq)
    have hz3 := hb3.size
    have t0 := (hb3.cell (p := ⟨w.heap.size, 0, none⟩) hzz).trans s0
    have t1 := (hb3.cell (p := ⟨w.heap.size, 1, none⟩) hzz).trans s1
    have t2 := (hb3.cell (p := ⟨w.heap.size, 2, none⟩) hzz).trans s2
    have t3 := (hb3.cell (p := ⟨w.heap.size, 3, none⟩) hzz).trans s3
    have t4 := (hb3.cell (p := ⟨w.heap.size, 4, none⟩) hzz).trans s4
    have hownK := ownsRow_below hown2 hb3
    have hbelK := hbel3
    clear s0 s1 s2 s3 s4
    go_wp2_with fail
    refine (rbackup_is HD.out.2.2.2 _).mono ?_
    rintro e w4 ⟨rfl, hb4⟩
    have hbelK := hbelK.trans (hb4.mono hbelK.size)
    have t0' := (hb4.cell (p := ⟨w.heap.size, 0, none⟩) (by simp; omega)).trans t0
    have t1' := (hb4.cell (p := ⟨w.heap.size, 1, none⟩) (by simp; omega)).trans t1
    have t2' := (hb4.cell (p := ⟨w.heap.size, 2, none⟩) (by simp; omega)).trans t2
    have t3' := (hb4.cell (p := ⟨w.heap.size, 3, none⟩) (by simp; omega)).trans t3
    have t4' := (hb4.cell (p := ⟨w.heap.size, 4, none⟩) (by simp; omega)).trans t4
    have hownK := ownsRow_below hownK hb4
    clear t0 t1 t2 t3 t4
    have k3 : w4.cell? ⟨g, 3, none⟩ = some (.int .u32 d) := hownK.cellAt 3 (by omega)
    have k4 : w4.cell? ⟨g, 4, none⟩ = some (.int .u32 b) := hownK.cellAt 4 (by omega)
    have kf := hownK.frozenAt
    have HW := Lib.hid hownK
    clear hownK
    go_wp2_with fail
    have HW0 := HW.out
    rw [List.flatMap_cons] at HW0
    have hownE := ((HW0.stored 3 (.int .u32 0)).1.stored 4 (.int .u32 0)).1.stored 3 (.int .u32 a) |>.1
    refine (ronce_any _ _ _ (⟨r, a, p, a, 0⟩ :: vs) _ (by rw [List.length_cons, Hlen.out]) hn (Reads.of_own (by rw [List.flatMap_cons]; exact hownE))).mono ?_
    obtain ⟨⟨x', y'⟩, ho'⟩ : ∃ o, El.once (⟨r, a, p, a, 0⟩ :: vs) = o := ⟨_, rfl⟩
    rw [ho']
    have HO' := Lib.hid ho'
    clear ho' hownE HW0 HW
    rintro e w5 ⟨rfl, hb5⟩
    have hbelE := (hbelK.setCell (p := ⟨g, 3, none⟩) hgb (.int .u32 0)).setCell (p := ⟨g, 4, none⟩) hgb (.int .u32 0)
    have hbelE := hbelE.setCell (p := ⟨g, 3, none⟩) hgb (.int .u32 a)
    have hbelF := hbelE.trans (hb5.mono hbelE.size)
    have hfin := elect_anew HO.out (by rw [HD.out.1, HD.out.2.1, HD.out.2.2.1, HD.out.2.2.2]; rfl)
    rw [HD.out.1, HD.out.2.1] at hfin
    have Hfin := Lib.hid hfin
    clear hfin
    go_wp2_with fail
    go_ret2
    exact ⟨ret_two (by rw [Hfin.out]; exact HO'.out.symm), hbelF⟩
  · have HD : Hid (El.isC ⟨r, a, p, d, b⟩ (x, y) = true ∧ El.isB ⟨r, a, p, d, b⟩ (x, y) = true ∧ El.chief ⟨r, a, p, d, b⟩ = true ∧ El.backup ⟨r, a, p, d, b⟩ = true) := ⟨hC, hB, hch, hbk⟩
    clear hC hB hch hbk
    go_wp2_with fail
    refine (rchief_is HD.out.2.2.1 _).mono ?_
    rintro e w3 ⟨rfl, hb3⟩
    have hbel3 := hbel2.trans (hb3.mono hzq)
    have hz3 := hb3.size
    have t0 := (hb3.cell (p := ⟨w.heap.size, 0, none⟩) hzz).trans s0
    have t1 := (hb3.cell (p := ⟨w.heap.size, 1, none⟩) hzz).trans s1
    have t2 := (hb3.cell (p := ⟨w.heap.size, 2, none⟩) hzz).trans s2
    have t3 := (hb3.cell (p := ⟨w.heap.size, 3, none⟩) hzz).trans s3
    have t4 := (hb3.cell (p := ⟨w.heap.size, 4, none⟩) hzz).trans s4
    have hownK := ownsRow_below hown2 hb3
    have hbelK := hbel3
    clear s0 s1 s2 s3 s4
    go_wp2_with fail
    refine (rbackup_is HD.out.2.2.2 _).mono ?_
    rintro e w4 ⟨rfl, hb4⟩
    have hbelK := hbelK.trans (hb4.mono hbelK.size)
    have hfin := elect_stay HO.out (by rw [HD.out.1, HD.out.2.1, HD.out.2.2.1, HD.out.2.2.2]; rfl)
    have Hfin := Lib.hid hfin
    clear hfin
    go_wp2_with fail
    go_ret2
    exact ⟨ret_two (by rw [Hfin.out]), hbelK⟩

end Go.Proofs.Ytepliggmcpkmdaa
