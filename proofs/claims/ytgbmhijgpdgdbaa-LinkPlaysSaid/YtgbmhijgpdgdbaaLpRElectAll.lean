/- The document's election: what a list of voices designates (turned from the election's own texts). -/
import Derived.Test.YtgbmhijgpdgdbaaLpElectAll
import Derived.Deep.QuietTactic
import Derived.BigQuiet
import Derived.Deep.OwnRows
set_option maxHeartbeats 4000000
namespace Go.Proofs.Ytgbmhijgpdgdbaa
namespace Ev
open Go.RowKit
theorem rchief_any (r a p d b : Int) (w : World) :
    Calls Try.prog 140 #[.agg #[.int .u32 r, .int .u32 a, .int .u8 p, .int .u32 d, .int .u32 b]] w fun e w' => e = .returned (.bool (El.chief ⟨r, a, p, d, b⟩)) ∧ Below w.heap.size w w' := by
  by_cases h0 : a = 0
  · subst h0
    go_enter Try.func140, Try.ntmps140
    go_wp2
    go_ret
    exact ⟨rfl, (Below.refl _ _).alloc (Nat.le_refl _) _⟩
  · have h2 : (a != 0) = true := by simpa using h0
    go_enter Try.func140, Try.ntmps140
    go_wp2
    go_ret
    exact ⟨by simp [El.chief, h0], (Below.refl _ _).alloc (Nat.le_refl _) _⟩
theorem rbackup_any (r a p d b : Int) (w : World) :
    Calls Try.prog 141 #[.agg #[.int .u32 r, .int .u32 a, .int .u8 p, .int .u32 d, .int .u32 b]] w fun e w' => e = .returned (.bool (El.backup ⟨r, a, p, d, b⟩)) ∧ Below w.heap.size w w' := by
  by_cases h0 : a = 0
  · subst h0
    go_enter Try.func141, Try.ntmps141
    go_wp2
    go_ret
    exact ⟨rfl, (Below.refl _ _).alloc (Nat.le_refl _) _⟩
  · have h2 : (a != 0) = true := by simpa using h0
    go_enter Try.func141, Try.ntmps141
    go_wp2
    go_ret
    exact ⟨by simp [El.backup, h0], (Below.refl _ _).alloc (Nat.le_refl _) _⟩
theorem _root_.Go.Proofs.Ytgbmhijgpdgdbaa.Reads.bit {w : World} {B n : Nat} {A : Option Addr} {bs : List Bool} (h : Reads w B 1 A n (bs.map Value.bool)) {k : Nat} {x : Bool} (hx : bs[k]? = some x) :
    ∃ b off, A = some ⟨b, off, none⟩ ∧ b < B ∧ w.cell? ⟨b, off + k, none⟩ = some (.bool x) := by
  have hk : k < bs.length := (List.getElem?_eq_some_iff.1 hx).1
  have hn : n = bs.length := by have := h.1; simp at this; omega
  obtain ⟨ad, rfl, hb, hc⟩ := h.2 (by omega)
  have h0 := hc 0 (.bool bs[0]) (by rw [List.getElem?_map, List.getElem?_eq_getElem (by omega)]; rfl)
  have hs := World.cell?_spot h0
  obtain ⟨b, off, sp⟩ := ad
  have hsp : sp = none := by simpa [Addr.add] using hs
  subst hsp
  refine ⟨b, off, rfl, hb, ?_⟩
  have := hc k (.bool x) (by rw [List.getElem?_map, hx]; rfl)
  unfold Addr.add at this
  split at this
  · rename_i h0; rw [h0]; exact this
  · exact this
theorem bestc_keep {c : El.V → Bool} {vs : List El.V} {k : Nat} {v : El.V} {o : Option El.V} (hv : vs[k]? = some v) (hb : El.best c (vs.take k) = o) (h : c v = false) : El.best c (vs.take (k + 1)) = o := by
  rw [take_snoc' hv, El.best_snoc, hb]; simp [El.stepB, h]
theorem bestc_first {c : El.V → Bool} {vs : List El.V} {k : Nat} {v : El.V} (hv : vs[k]? = some v) (hb : El.best c (vs.take k) = none) (h : c v = true) : El.best c (vs.take (k + 1)) = some v := by
  rw [take_snoc' hv, El.best_snoc, hb]; simp [El.stepB, h]
theorem bestc_over {c : El.V → Bool} {vs : List El.V} {k : Nat} {v b : El.V} (hv : vs[k]? = some v) (hb : El.best c (vs.take k) = some b) (h : c v = true) (ho : El.over v b = true) : El.best c (vs.take (k + 1)) = some v := by
  rw [take_snoc' hv, El.best_snoc, hb]; simp [El.stepB, h, ho]
theorem bestc_under {c : El.V → Bool} {vs : List El.V} {k : Nat} {v b : El.V} (hv : vs[k]? = some v) (hb : El.best c (vs.take k) = some b) (h : c v = true) (ho : El.over v b = false) : El.best c (vs.take (k + 1)) = some b := by
  rw [take_snoc' hv, El.best_snoc, hb]; simp [El.stepB, h, ho]
def At (vs : List El.V) (k : Nat) (o : Option El.V) (t : Value) : Prop :=
  (o = none ∧ t = .int .i64 (-1)) ∨ ∃ j v, j < k ∧ vs[j]? = some v ∧ o = some v ∧ t = .int .i64 (j : Int)
theorem At.step {vs : List El.V} {k : Nat} {o : Option El.V} {t : Value} (h : At vs k o t) : At vs (k + 1) o t := by
  rcases h with h | ⟨j, v, hj, h⟩
  · exact .inl h
  · exact .inr ⟨j, v, by omega, h⟩
theorem first_any (c : El.V → Bool) (A M : Option Addr) (n cp cq : Nat) (vs : List El.V) (w : World) (hlen : vs.length = n) (hn : n ≤ 65536)
    (hr : Reads w w.heap.size 5 A n (vs.flatMap cells)) (hm : Reads w w.heap.size 1 M n ((vs.map c).map Value.bool)) :
    Calls Try.prog 142 #[.slice A n cp, .slice M n cq] w fun e w' => e = .returned (.int .u32 (El.addr (El.best c vs))) ∧ ∃ q, w' = w.drewN q := by
  go_enter Try.func142, Try.ntmps142
  go_wp2
  go_loopw [5, 6] (fun t i wr => ∃ (k : Nat) (o : Option El.V) (q : Nat), k ≤ n ∧ i = .int .i64 k ∧ Hid (At vs k o t) ∧ Hid (El.best c (vs.take k) = o) ∧ wr = w.drewN q)
    (fun _ i _ => n - (intOf i).toNat)
  case atStart => exact ⟨0, none, 0, Nat.zero_le _, rfl, .inl ⟨rfl, rfl⟩, rfl, rfl⟩
  case round =>
    obtain ⟨k, o, q, hk, rfl, Hat, Ho, rfl⟩ := hrel
    by_cases hlt : k < n
    · obtain ⟨v, hv⟩ : ∃ v, vs[k]? = some v := ⟨_, List.getElem?_eq_getElem (by omega)⟩
      obtain ⟨bl, off, hA, -, hcell⟩ := hr.voice hv
      obtain ⟨bm, om, hM, -, mcell⟩ := hm.bit (k := k) (x := c v) (by rw [List.getElem?_map, hv]; rfl)
      subst hA hM
      obtain ⟨r, a, p, d, b⟩ := v
      have c0 : w.cell? ⟨bl, off + k * 5, none⟩ = some (.int .u32 r) := hcell 0 _ rfl
      have c2 := hcell 2 _ rfl
      clear hcell
      cases hcv : c ⟨r, a, p, d, b⟩
      · have HK := Lib.hid (bestc_keep (c := c) hv Ho.out hcv)
        rw [hcv] at mcell
        clear hcv hv hr hm hlen
        go_wp2_with fail
        go_roundw
        case rel => exact ⟨k + 1, o, _, by omega, by go_num, Hat.out.step, HK, rfl⟩
        case measure => simp [intOf]; omega
      · rw [hcv] at mcell
        rcases Hat.out with ⟨rfl, rfl⟩ | ⟨j, x, hj, hx, rfl, rfl⟩
        · have HK := Lib.hid (bestc_first (c := c) hv Ho.out hcv)
          have Hv := Lib.hid hv
          clear hcv hv hr hm hlen
          go_wp2_with fail
          go_quiet (fail)
          go_wp2_with fail
          go_roundw
          case rel => exact ⟨k + 1, _, _, by omega, by go_num, .inr ⟨k, _, by omega, Hv.out, rfl, rfl⟩, HK, rfl⟩
          case measure => simp [intOf]; omega
        · obtain ⟨bl', off', hA', -, hcell'⟩ := hr.voice hx
          simp only [Option.some.injEq, Addr.mk.injEq] at hA'
          obtain ⟨rfl, rfl, -⟩ := hA'
          obtain ⟨r', a', p', d', b'⟩ := x
          have e0 : w.cell? ⟨bl, off + j * 5, none⟩ = some (.int .u32 r') := hcell' 0 _ rfl
          have e2 := hcell' 2 _ rfl
          have Hv := Lib.hid hv
          have Hx := Lib.hid hx
          have Hc := Lib.hid hcv
          have hj0 : decide ((j : Int) < 0) = false := by simp
          have hjn : j < n := by omega
          have hjm : (j : Int) < (n : Int) := by omega
          have hkm : (k : Int) < (n : Int) := by omega
          clear hcell' hcv hv hx hr hm hlen
          by_cases hpp : p' < p
          · have hpd : decide (p' < p) = true := by simpa using hpp
            have HK := Lib.hid (bestc_over (c := c) Hv.out Ho.out Hc.out (over_more hpp))
            go_wp2_with fail
            go_quiet (fail)
            go_wp2_with fail
            go_roundw
            case rel => exact ⟨k + 1, _, _, by omega, by go_num, .inr ⟨k, _, by omega, Hv.out, rfl, rfl⟩, HK, rfl⟩
            case measure => simp [intOf]; omega
          · have hpd : decide (p' < p) = false := by simpa using hpp
            by_cases hpe : p = p'
            · subst hpe
              by_cases hrr : r' < r
              · have hrd : decide (r' < r) = true := by simpa using hrr
                have HK := Lib.hid (bestc_over (c := c) Hv.out Ho.out Hc.out (over_same hrr))
                go_wp2_with fail
                go_quiet (fail)
                go_wp2_with fail
                go_roundw
                case rel => exact ⟨k + 1, _, _, by omega, by go_num, .inr ⟨k, _, by omega, Hv.out, rfl, rfl⟩, HK, rfl⟩
                case measure => simp [intOf]; omega
              · have hrd : decide (r' < r) = false := by simpa using hrr
                have HK := Lib.hid (bestc_under (c := c) Hv.out Ho.out Hc.out (over_no hrr))
                go_wp2_with fail
                go_quiet (fail)
                go_wp2_with fail
                go_roundw
                case rel => exact ⟨k + 1, _, _, by omega, by go_num, .inr ⟨j, _, by omega, Hx.out, rfl, rfl⟩, HK, rfl⟩
                case measure => simp [intOf]; omega
            · have hlt2 : p < p' := by omega
              have hne : (p == p') = false := by simpa using hpe
              have HK := Lib.hid (bestc_under (c := c) Hv.out Ho.out Hc.out (over_less hlt2))
              go_wp2_with fail
              go_quiet (fail)
              go_wp2_with fail
              go_roundw
              case rel => exact ⟨k + 1, _, _, by omega, by go_num, .inr ⟨j, _, by omega, Hx.out, rfl, rfl⟩, HK, rfl⟩
              case measure => simp [intOf]; omega
    · have hfin : El.best c vs = o := by rw [← Ho.out, List.take_of_length_le (by omega)]
      rcases Hat.out with ⟨rfl, rfl⟩ | ⟨j, x, hj, hx, rfl, rfl⟩
      · have Hfin := Lib.hid hfin
        clear hfin hr hm hlen
        go_wp2_with fail
        go_ret
        exact ⟨by rw [Hfin.out]; rfl, _, rfl⟩
      · obtain ⟨bl, off, hA, -, hcell⟩ := hr.voice hx
        subst hA
        obtain ⟨r, a, p, d, b⟩ := x
        have c1 := hcell 1 _ rfl
        have Hfin := Lib.hid hfin
        have hjn : j < n := by omega
        clear hcell hx hfin hr hm hlen
        go_wp2_with fail
        go_ret
        exact ⟨by rw [Hfin.out]; rfl, _, rfl⟩
def marksL (c : El.V → Bool) (vs : List El.V) (k n : Nat) : List Value := (vs.take k).map (fun v => Value.bool (c v)) ++ List.replicate (n - k) (.bool false)
def marks (c : El.V → Bool) (vs : List El.V) (k n : Nat) : Array Value := (marksL c vs k n).toArray
theorem marks_zero (c : El.V → Bool) (vs : List El.V) (n : Nat) : madeCells #[.bool false] n = marks c vs 0 n := by
  apply Array.ext'
  rw [toList_madeCells_one]
  simp [marks, marksL]
theorem marks_at {c : El.V → Bool} {vs : List El.V} {k n : Nat} (hn : vs.length = n) (hk : k < n) : (marks c vs k n)[k]? = some (.bool false) := by
  simp only [marks, marksL, List.getElem?_toArray]
  rw [List.getElem?_append_right (by simp; omega)]
  simp only [List.length_map, List.length_take, List.getElem?_replicate]
  rw [if_pos (by omega)]
theorem marks_set_at {c : El.V → Bool} {vs : List El.V} {k n : Nat} {x : Value} (hn : vs.length = n) (hk : k < n) : ((marks c vs k n).setIfInBounds k x)[k]? = some x := by
  have := (Array.getElem?_eq_some_iff.1 (marks_at (c := c) hn hk)).1
  rw [Array.getElem?_setIfInBounds, if_pos rfl, if_pos this]
theorem marksL_step {c : El.V → Bool} {vs : List El.V} {k n : Nat} {v : El.V} (hn : vs.length = n) (hv : vs[k]? = some v) : (marksL c vs k n).set k (.bool (c v)) = marksL c vs (k + 1) n := by
  have hk : k < vs.length := (List.getElem?_eq_some_iff.1 hv).1
  unfold marksL
  rw [take_snoc' hv, List.map_append, List.set_append_right _ _ (by simp; omega)]
  have e : k - ((vs.take k).map (fun v => Value.bool (c v))).length = 0 := by simp; omega
  rw [e, show n - k = (n - (k + 1)) + 1 from by omega, List.replicate_succ]
  simp
theorem marks_step {c : El.V → Bool} {vs : List El.V} {k n : Nat} {v : El.V} (hn : vs.length = n) (hv : vs[k]? = some v) : (marks c vs k n).setIfInBounds k (.bool (c v)) = marks c vs (k + 1) n := by
  unfold marks
  rw [← marksL_step hn hv]; simp
theorem marks_keep {c : El.V → Bool} {vs : List El.V} {k n : Nat} {v : El.V} (hn : vs.length = n) (hv : vs[k]? = some v) (h : c v = false) : marks c vs (k + 1) n = marks c vs k n := by
  have hk : k < vs.length := (List.getElem?_eq_some_iff.1 hv).1
  rw [← marks_step hn hv, h]
  have := marks_at (c := c) hn (show k < n by omega)
  apply Array.ext'
  rw [Array.toList_setIfInBounds]
  have h2 : (marks c vs k n).toList[k]? = some (.bool false) := by rw [Array.getElem?_toList]; exact this
  apply List.ext_getElem?
  intro j
  rw [List.getElem?_set]
  by_cases hj : k = j
  · subst hj
    have hl : k < (marks c vs k n).toList.length := (List.getElem?_eq_some_iff.1 h2).1
    rw [if_pos rfl, if_pos hl, h2]
  · rw [if_neg hj]
theorem marks_done {c : El.V → Bool} {vs : List El.V} {n : Nat} (hn : vs.length = n) : marks c vs n n = ((vs.map c).map Value.bool).toArray := by
  unfold marks marksL
  rw [List.take_of_length_le (by omega)]; simp
theorem any_take {c : El.V → Bool} {vs : List El.V} {k : Nat} {v : El.V} (hv : vs[k]? = some v) : (vs.take (k + 1)).any c = ((vs.take k).any c || c v) := by
  rw [take_snoc' hv]; simp
theorem below_drewN {B : Nat} {a w : World} (h : Below B a w) (n : Nat) : Below B a (w.drewN n) := ⟨h.os, h.tape, h.output, h.size, h.block⟩
theorem bool_info : (Try.prog.info? 4).map (fun i => (i.zero, i.size, i.bytes)) = some (some (.bool false), 1, 1) := by kernel_rfl
theorem ronce_any (A : Option Addr) (n cp : Nat) (vs : List El.V) (w : World) (hlen : vs.length = n) (hn : n ≤ 65536) (hr : Reads w w.heap.size 5 A n (vs.flatMap cells)) :
    Calls Try.prog 139 #[.slice A n cp] w fun e w' => e = .returned (.tuple #[.int .u32 (El.once vs).1, .int .u32 (El.once vs).2]) ∧ Below w.heap.size w w' := by
  have hmk := run_make_row' (P := Try.prog) 44 4 (.bool false) 1 Try.underlying44 bool_info rfl .i64 .i64 n (by omega) (by omega)
  have Hlen := Lib.hid hlen
  clear hlen
  go_enter Try.func139, Try.ntmps139
  go_wp2_with fail
  clear hmk
  go_loopw [7, 8, 9] (fun an dr i wr => ∃ (k : Nat) (aB aC : Bool), k ≤ n ∧ i = .int .i64 k ∧ an = .bool aB ∧ dr = .bool aC ∧ Hid (aB = (vs.take k).any El.cB ∧ aC = (vs.take k).any El.cC) ∧
      Blk wr w.heap.size 4 (marks El.cC vs k n) ∧ Blk wr (w.heap.size + 1) 4 (marks El.cR vs k n) ∧ Blk wr (w.heap.size + 1 + 1) 4 (marks El.cB vs k n) ∧ Below w.heap.size w wr)
    (fun _ _ i _ => n - (intOf i).toNat)
  case atStart =>
    refine ⟨0, false, false, Nat.zero_le _, rfl, rfl, rfl, ⟨rfl, rfl⟩, ?_, ?_, ?_, ?_⟩
    · rw [← marks_zero]; exact ((Blk.new w 4 _).alloc _).alloc _
    · rw [← marks_zero]
      have := (Blk.new (w.alloc (.cells (madeCells #[.bool false] n) 4)) 4 (madeCells #[.bool false] n)).alloc (.cells (madeCells #[.bool false] n) 4)
      rw [World.size_alloc] at this
      exact this
    · rw [← marks_zero]
      have := Blk.new ((w.alloc (.cells (madeCells #[.bool false] n) 4)).alloc (.cells (madeCells #[.bool false] n) 4)) 4 (madeCells #[.bool false] n)
      rw [World.size_alloc, World.size_alloc] at this
      exact this
    · exact ((((Below.refl _ w).alloc (Nat.le_refl _) _).alloc (by simp) _).alloc (by simp; omega) _)
  case round =>
    obtain ⟨k, aB, aC, hk, rfl, rfl, rfl, Hab, hBC, hBR, hBB, hbel⟩ := hrel
    by_cases hlt : k < n
    · obtain ⟨v, hv⟩ : ∃ v, vs[k]? = some v := ⟨_, List.getElem?_eq_getElem (by have := Hlen.out; omega)⟩
      obtain ⟨bl, off, hA, hbl, hcell⟩ := (hr.below hbel).voice hv
      subst hA
      obtain ⟨r, a, p, d, b⟩ := v
      have c0 : wr.cell? ⟨bl, off + k * 5, none⟩ = some (.int .u32 r) := hcell 0 _ rfl
      have c1 := hcell 1 _ rfl
      have c2 := hcell 2 _ rfl
      have c3 := hcell 3 _ rfl
      have c4 := hcell 4 _ rfl
      have hz := hBB.lt
      have Hv := Lib.hid hv
      clear hcell hr hv
      by_cases hp : p = 0
      · subst hp
        have KC := Lib.hid (marks_keep (c := El.cC) Hlen.out Hv.out (by simp [El.cC]))
        have KR := Lib.hid (marks_keep (c := El.cR) Hlen.out Hv.out (by simp [El.cR]))
        have KB := Lib.hid (marks_keep (c := El.cB) Hlen.out Hv.out (by simp [El.cB]))
        have AC := Lib.hid (any_take (c := El.cC) Hv.out)
        have AB := Lib.hid (any_take (c := El.cB) Hv.out)
        go_wp2_with fail
        go_roundw
        case rel => exact ⟨k + 1, aB, aC, by omega, by go_num, rfl, rfl, ⟨by rw [AB.out, Hab.out.1]; simp [El.cB], by rw [AC.out, Hab.out.2]; simp [El.cC]⟩, by rw [KC.out]; exact hBC, by rw [KR.out]; exact hBR, by rw [KB.out]; exact hBB, hbel⟩
        case measure => simp [intOf]; omega
      · go_wp2_with fail
        refine (rchief_any _ _ _ _ _ _).mono ?_
        rintro e w1 ⟨rfl, hb1⟩
        have hz1 := hb1.size
        have hBC1 := hBC.below hb1 hBC.lt
        have hBR1 := hBR.below hb1 hBR.lt
        have hBB1 := hBB.below hb1 hBB.lt
        have hbel1 := hbel.trans (hb1.mono hbel.size)
        have mC := (hBC1.cell k).trans (marks_at Hlen.out hlt)
        have mR := (hBR1.cell k).trans (marks_at Hlen.out hlt)
        have mB := (hBB1.cell k).trans (marks_at Hlen.out hlt)
        have fC := hBC1.frozen k
        have fR := hBR1.frozen k
        have fB := hBB1.frozen k
        have d0 := (hb1.cell (p := ⟨bl, off + k * 5, none⟩) (by simp; omega)).trans c0
        have d1 := (hb1.cell (p := ⟨bl, off + k * 5 + 1, none⟩) (by simp; omega)).trans c1
        have d2 := (hb1.cell (p := ⟨bl, off + k * 5 + 2, none⟩) (by simp; omega)).trans c2
        have d3 := (hb1.cell (p := ⟨bl, off + k * 5 + 3, none⟩) (by simp; omega)).trans c3
        have d4 := (hb1.cell (p := ⟨bl, off + k * 5 + 4, none⟩) (by simp; omega)).trans c4
        clear c0 c1 c2 c3 c4
        have hne1 : bl ≠ w.heap.size := by omega
        have hne2 : bl ≠ w.heap.size + 1 := by omega
        have hne3 : bl ≠ w.heap.size + 1 + 1 := by omega
        have SC := marks_step (c := El.cC) Hlen.out Hv.out
        have SR := marks_step (c := El.cR) Hlen.out Hv.out
        have SB := marks_step (c := El.cB) Hlen.out Hv.out
        have AC := any_take (c := El.cC) Hv.out
        have AB := any_take (c := El.cB) Hv.out
        have eC : El.cC ⟨r, a, p, d, b⟩ = El.chief ⟨r, a, p, d, b⟩ := by simp [El.cC, hp]
        have eR : El.cR ⟨r, a, p, d, b⟩ = !El.chief ⟨r, a, p, d, b⟩ := by simp [El.cR, hp]
        have eB : El.cB ⟨r, a, p, d, b⟩ = (!El.chief ⟨r, a, p, d, b⟩ && El.backup ⟨r, a, p, d, b⟩) := by simp [El.cB, hp]
        rw [eC] at SC AC
        rw [eR] at SR
        rw [eB] at SB AB
        rw [← Hab.out.2] at AC
        rw [← Hab.out.1] at AB
        clear eC eR eB Hab hBC hBR hBB
        cases hch : El.chief ⟨r, a, p, d, b⟩
        · cases hbk : El.backup ⟨r, a, p, d, b⟩
          all_goals
            rw [hch] at SC AC SR SB AB
            rw [hbk] at SB AB
            have HC := Lib.hid SC
            have HR := Lib.hid SR
            have HB := Lib.hid SB
            have HAC := Lib.hid AC
            have HAB := Lib.hid AB
            have HCH := Lib.hid hch
            have HBK := Lib.hid hbk
            clear SC SR SB AC AB hch hbk
            have hch : El.chief ⟨r, a, p, d, b⟩ = false := HCH.out
            go_wp2_with fail
            clear hch
            refine (rbackup_any _ _ _ _ _ _).mono ?_
            rintro e w2 ⟨he, hb2⟩
            rw [HBK.out] at he
            subst he
            have hBC2 := ((hBC1.set_ k (.bool false)).far (p := ⟨w.heap.size + 1, k, none⟩) (by simp <;> omega) (.bool true)).below hb2 (by simp <;> omega)
            have hBR2 := ((hBR1.far (p := ⟨w.heap.size, k, none⟩) (by simp <;> omega) (.bool false)).set_ k (.bool true)).below hb2 (by simp <;> omega)
            have hBB2 := ((hBB1.far (p := ⟨w.heap.size, k, none⟩) (by simp <;> omega) (.bool false)).far (p := ⟨w.heap.size + 1, k, none⟩) (by simp <;> omega) (.bool true)).below hb2 (by simp <;> omega)
            have hbel2 := ((hbel1.setCell (p := ⟨w.heap.size, k, none⟩) (by simp <;> omega) (.bool false)).setCell (p := ⟨w.heap.size + 1, k, none⟩) (by simp <;> omega) (.bool true)).trans (hb2.mono (by simp <;> omega))
            have nB := (hBB2.cell k).trans (marks_at Hlen.out hlt)
            have gB := hBB2.frozen k
            have nC := (hBC2.cell k).trans (marks_set_at (x := .bool false) Hlen.out hlt)
            cases aB <;> cases aC
            all_goals
              go_wp2_with fail
              go_roundw
              case rel => exact ⟨k + 1, _, _, by omega, by go_num, rfl, rfl, ⟨by rw [HAB.out]; rfl, by rw [HAC.out]; rfl⟩, by rw [← HC.out]; exact hBC2.far (by simp <;> omega) _, by rw [← HR.out]; exact hBR2.far (by simp <;> omega) _, by rw [← HB.out]; exact hBB2.set_ k _, hbel2.setCell (by simp <;> omega) _⟩
              case measure => simp [intOf]; omega
        · rw [hch] at SC AC SR SB AB
          have HC := Lib.hid SC
          have HR := Lib.hid SR
          have HB := Lib.hid SB
          have HAC := Lib.hid AC
          have HAB := Lib.hid AB
          clear SC SR SB AC AB
          cases aB <;> cases aC
          all_goals
            go_wp2_with fail
            go_roundw
            case rel => exact ⟨k + 1, _, _, by omega, by go_num, rfl, rfl, ⟨by rw [HAB.out]; rfl, by rw [HAC.out]; rfl⟩, by rw [← HC.out]; exact ((hBC1.set_ k _).far (by simp <;> omega) _).far (by simp <;> omega) _, by rw [← HR.out]; exact ((hBR1.far (by simp <;> omega) _).set_ k _).far (by simp <;> omega) _, by rw [← HB.out]; exact ((hBB1.far (by simp <;> omega) _).far (by simp <;> omega) _).set_ k _, ((hbel1.setCell (by simp <;> omega) _).setCell (by simp <;> omega) _).setCell (by simp <;> omega) _⟩
            case measure => simp [intOf]; omega
    · obtain rfl : k = n := by omega
      have hz := hBB.lt
      have hsz : w.heap.size ≤ wr.heap.size := hbel.size
      have rd : ∀ (g : Nat) (c : El.V → Bool), Blk wr g 4 (marks c vs k k) → Reads wr wr.heap.size 1 (some ⟨g, 0, none⟩) k ((vs.map c).map Value.bool) := by
        intro g c h
        refine ⟨by simp; exact Hlen.out, fun _ => ⟨⟨g, 0, none⟩, rfl, h.lt, fun j u hu => ?_⟩⟩
        have e : (⟨g, 0, none⟩ : Addr).add j = ⟨g, j, none⟩ := by
          unfold Addr.add; split
          · rename_i h0; rw [h0]
          · simp
        rw [e, h.cell j, marks_done Hlen.out]
        simpa using hu
      have HrC := Lib.hid (rd _ _ hBC)
      have HrR := Lib.hid (rd _ _ hBR)
      have HrB := Lib.hid (rd _ _ hBB)
      have HrV := Lib.hid ((hr.below hbel).more hbel.size)
      have HAB : Hid ((El.best El.cB vs).isSome = aB ∧ (El.best El.cC vs).isSome = aC) := by
        have h1 := Hab.out.1
        have h2 := Hab.out.2
        rw [List.take_of_length_le (by have := Hlen.out; omega)] at h1 h2
        exact ⟨by rw [El.best_isSome, h1], by rw [El.best_isSome, h2]⟩
      clear rd hBC hBR hBB hr Hab
      go_wp2_with fail
      refine (first_any El.cR _ _ _ _ _ vs _ Hlen.out hn HrV.out HrR.out).mono ?_
      rintro e w1 ⟨rfl, q1, rfl⟩
      cases aB <;> cases aC
      · have hs : El.second vs = El.addr (El.best El.cR vs) := by simp [El.second, HAB.out.1]
        have ho : El.once vs = (El.second vs, El.second vs) := by simp [El.once, HAB.out.2]
        rw [hs] at ho
        have HO := Lib.hid ho
        clear hs ho
        go_wp2_with fail
        go_ret2
        exact ⟨ret_two (by rw [HO.out]), below_drewN hbel _⟩
      · have hs : El.second vs = El.addr (El.best El.cR vs) := by simp [El.second, HAB.out.1]
        have ho : El.once vs = (El.addr (El.best El.cC vs), El.second vs) := by simp [El.once, HAB.out.2]
        rw [hs] at ho
        have HO := Lib.hid ho
        clear hs ho
        go_wp2_with fail
        refine (first_any El.cC _ _ _ _ _ vs _ Hlen.out hn (HrV.out.drewN q1) (HrC.out.drewN q1)).mono ?_
        rintro e w2 ⟨rfl, q2, rfl⟩
        go_wp2_with fail
        go_ret2
        exact ⟨ret_two (by rw [HO.out]), below_drewN hbel _⟩
      · have hs : El.second vs = El.addr (El.best El.cB vs) := by simp [El.second, HAB.out.1]
        have ho : El.once vs = (El.second vs, El.second vs) := by simp [El.once, HAB.out.2]
        rw [hs] at ho
        have HO := Lib.hid ho
        clear hs ho
        go_wp2_with fail
        refine (first_any El.cB _ _ _ _ _ vs _ Hlen.out hn (HrV.out.drewN q1) (HrB.out.drewN q1)).mono ?_
        rintro e w2 ⟨rfl, q2, rfl⟩
        go_wp2_with fail
        go_ret2
        exact ⟨ret_two (by rw [HO.out]), below_drewN hbel _⟩
      · have hs : El.second vs = El.addr (El.best El.cB vs) := by simp [El.second, HAB.out.1]
        have ho : El.once vs = (El.addr (El.best El.cC vs), El.second vs) := by simp [El.once, HAB.out.2]
        rw [hs] at ho
        have HO := Lib.hid ho
        clear hs ho
        go_wp2_with fail
        refine (first_any El.cB _ _ _ _ _ vs _ Hlen.out hn (HrV.out.drewN q1) (HrB.out.drewN q1)).mono ?_
        rintro e w2 ⟨rfl, q2, rfl⟩
        go_wp2_with fail
        refine (first_any El.cC _ _ _ _ _ vs _ Hlen.out hn (HrV.out.drewN _) (HrC.out.drewN _)).mono ?_
        rintro e w3 ⟨rfl, q3, rfl⟩
        go_wp2_with fail
        go_ret2
        exact ⟨ret_two (by rw [HO.out]), below_drewN hbel _⟩
theorem rvoice_info : (Try.prog.info? 190).map (fun i => (i.zero, i.size, i.bytes)) = some (some (.agg #[.int .u32 0, .int .u32 0, .int .u8 0, .int .u32 0, .int .u32 0]), 5, 20) := by kernel_rfl
theorem rchief_is {r a p d b : Int} {c : Bool} (h : El.chief ⟨r, a, p, d, b⟩ = c) (w : World) :
    Calls Try.prog 140 #[.agg #[.int .u32 r, .int .u32 a, .int .u8 p, .int .u32 d, .int .u32 b]] w fun e w' => e = .returned (.bool c) ∧ Below w.heap.size w w' := by
  rw [← h]; exact rchief_any _ _ _ _ _ _
theorem rbackup_is {r a p d b : Int} {c : Bool} (h : El.backup ⟨r, a, p, d, b⟩ = c) (w : World) :
    Calls Try.prog 141 #[.agg #[.int .u32 r, .int .u32 a, .int .u8 p, .int .u32 d, .int .u32 b]] w fun e w' => e = .returned (.bool c) ∧ Below w.heap.size w w' := by
  rw [← h]; exact rbackup_any _ _ _ _ _ _
theorem relect_any (r a p d b : Int) (A : Option Addr) (n cp : Nat) (vs : List El.V) (w : World) (hlen : vs.length = n) (hn : n + 1 ≤ 65536) (hr : Reads w w.heap.size 5 A n (vs.flatMap cells)) :
    Calls Try.prog 134 #[.agg #[.int .u32 r, .int .u32 a, .int .u8 p, .int .u32 d, .int .u32 b], .slice A n cp] w fun e w' =>
      e = .returned (.tuple #[.int .u32 (El.elect ⟨r, a, p, d, b⟩ vs).1, .int .u32 (El.elect ⟨r, a, p, d, b⟩ vs).2]) ∧ Below w.heap.size w w' := by
  obtain ⟨i0, hi, hz0, hz1, hz2⟩ := info_parts rvoice_info
  have Hlen := Lib.hid hlen
  clear hlen
  have hs : ((w.alloc (.cells #[.int .u32 r, .int .u32 a, .int .u8 p, .int .u32 d, .int .u32 b] 190)).alloc (.cells #[.int .u32 r, .int .u32 a, .int .u8 p, .int .u32 d, .int .u32 b] 190)).ownsRow w.heap.size 190 5 (.slice (some ⟨w.heap.size + 1, 0, none⟩) 1 1) 1 (cells ⟨r, a, p, d, b⟩) := by
    have := World.ownsRow_lit (base := w.heap.size) (e := 190) (size := 5) (w.alloc (.cells #[.int .u32 r, .int .u32 a, .int .u8 p, .int .u32 d, .int .u32 b] 190)) #[.int .u32 r, .int .u32 a, .int .u8 p, .int .u32 d, .int .u32 b] 1 (by simp) (by simp [maxLen]) rfl
    rw [World.size_alloc] at this
    exact this
  have HS := Lib.hid hs
  have HR := Lib.hid ((hr.alloc (Nat.le_refl _) (.cells #[.int .u32 r, .int .u32 a, .int .u8 p, .int .u32 d, .int .u32 b] 190)).alloc (by simp) (.cells #[.int .u32 r, .int .u32 a, .int .u8 p, .int .u32 d, .int .u32 b] 190))
  have HB : Hid (Below w.heap.size w ((w.alloc (.cells #[.int .u32 r, .int .u32 a, .int .u8 p, .int .u32 d, .int .u32 b] 190)).alloc (.cells #[.int .u32 r, .int .u32 a, .int .u8 p, .int .u32 d, .int .u32 b] 190))) := ((Below.refl _ w).alloc (Nat.le_refl _) _).alloc (by simp) _
  have HBlk : Hid (Blk ((w.alloc (.cells #[.int .u32 r, .int .u32 a, .int .u8 p, .int .u32 d, .int .u32 b] 190)).alloc (.cells #[.int .u32 r, .int .u32 a, .int .u8 p, .int .u32 d, .int .u32 b] 190)) w.heap.size 190 (cells ⟨r, a, p, d, b⟩).toArray) := (Blk.new w 190 _).alloc _
  clear hs hr
  go_enter Try.func134, Try.ntmps134
  go_wp2_with (at_builtin; refine wpList_append_any _ rfl (.tmp 13) (.tmp 14) _ rfl w.heap.size 190 i0 _ 5 20 Try.underlying191 hi hz0 hz1 hz2 rfl (by omega) (.slice (some ⟨w.heap.size + 1, 0, none⟩) 1 1) 1 (cells ⟨r, a, p, d, b⟩) rfl HS.out w.heap.size A n cp (vs.flatMap cells) rfl HR.out flat_one (by unfold maxLen; omega) (by omega) (by simp; omega) ?_; intro v1 w1 hown1 hg1 hat1)
  obtain ⟨g, cap, hv1, hgb, hlt⟩ := hown1.form (by omega)
  subst hv1
  have hblk1 := HBlk.out.grown hg1 (by simp [Value.ownBlock])
  have hbel1 : Below w.heap.size w w1 := HB.out.grown hg1 (by simp; omega) (fun k hk => by simp [Value.ownBlock] at hk; omega)
  have hgne : g ≠ w.heap.size := by
    rcases hat1 with h | h <;> simp [Value.ownBlock] at h <;> omega
  have e1 : cells ⟨r, a, p, d, b⟩ ++ vs.flatMap cells = (⟨r, a, p, d, b⟩ :: vs : List El.V).flatMap cells := by simp
  rw [e1, Nat.add_comm 1 n] at hown1
  have hlen2 : Hid ((⟨r, a, p, d, b⟩ :: vs : List El.V).length = n + 1) := by rw [Hid, List.length_cons, Hlen.out]
  rw [Nat.add_comm 1 n]
  clear HS HR HB HBlk hat1 hg1 e1
  refine (ronce_any _ _ _ (⟨r, a, p, d, b⟩ :: vs) _ hlen2.out hn (Reads.of_own hown1)).mono ?_
  obtain ⟨⟨x, y⟩, ho⟩ : ∃ o, El.once (⟨r, a, p, d, b⟩ :: vs) = o := ⟨_, rfl⟩
  rw [ho]
  have HO := Lib.hid ho
  clear ho
  rintro e w2 ⟨rfl, hb2⟩
  have hblk2 := hblk1.below hb2 hblk1.lt
  have hbel2 := hbel1.trans (hb2.mono hbel1.size)
  have hzq := hbel2.size
  have hzz : w.heap.size < w2.heap.size := hblk2.lt
  have hown2 := ownsRow_below hown1 hb2
  have hglt : g < w2.heap.size := by have := hb2.size; omega
  have s0 : w2.cell? ⟨w.heap.size, 0, none⟩ = some (.int .u32 r) := hblk2.cell 0
  have s1 : w2.cell? ⟨w.heap.size, 1, none⟩ = some (.int .u32 a) := hblk2.cell 1
  have s2 : w2.cell? ⟨w.heap.size, 2, none⟩ = some (.int .u8 p) := hblk2.cell 2
  have s3 : w2.cell? ⟨w.heap.size, 3, none⟩ = some (.int .u32 d) := hblk2.cell 3
  have s4 : w2.cell? ⟨w.heap.size, 4, none⟩ = some (.int .u32 b) := hblk2.cell 4
  clear hi hz0 hz1 hz2 hb2 hlt hown1
  go_upto_region 4 with fail
  go_cut [9] (fun s9 wx => wx = w2 ∧ s9 = .bool (El.isC ⟨r, a, p, d, b⟩ (x, y)))
  case first =>
    obtain ⟨A0, hA0⟩ : ∃ A0, (a != 0) = A0 := ⟨_, rfl⟩
    cases A0
    all_goals
      go_wp2_with fail
      go_meet
      case rel => exact ⟨rfl, by simp [El.isC, *]⟩
  case rest =>
  obtain ⟨rfl, rfl⟩ := hcut
  go_upto_region 5 with fail
  go_cut [10] (fun s10 wx => wx = wc ∧ s10 = .bool (El.isB ⟨r, a, p, d, b⟩ (x, y)))
  case first =>
    obtain ⟨A0, hA0⟩ : ∃ A0, (a != 0) = A0 := ⟨_, rfl⟩
    cases A0
    all_goals
      go_wp2_with fail
      go_meet
      case rel => exact ⟨rfl, by simp [El.isB, *]⟩
  case rest =>
  obtain ⟨hwc, rfl⟩ := hcut
  subst hwc
  have hpos : (0 : Int) < (n : Int) + 1 := by omega
  cases hC : El.isC ⟨r, a, p, d, b⟩ (x, y) <;> cases hB : El.isB ⟨r, a, p, d, b⟩ (x, y) <;> cases hch : El.chief ⟨r, a, p, d, b⟩ <;> cases hbk : El.backup ⟨r, a, p, d, b⟩
  · have HD : Hid (El.isC ⟨r, a, p, d, b⟩ (x, y) = false ∧ El.isB ⟨r, a, p, d, b⟩ (x, y) = false ∧ El.chief ⟨r, a, p, d, b⟩ = false ∧ El.backup ⟨r, a, p, d, b⟩ = false) := ⟨hC, hB, hch, hbk⟩
    clear hC hB hch hbk
    go_wp2_with fail
    refine (rchief_is HD.out.2.2.1 _).mono ?_
    rintro e w3 ⟨rfl, hb3⟩
    have hbel3 := hbel2.trans (hb3.mono hzq)
    have hz3 := hb3.size
    have t0 := (hb3.cell (p := ⟨w.heap.size, 0, none⟩) hzz).trans s0
    have t1 := (hb3.cell (p := ⟨w.heap.size, 1, none⟩) hzz).trans s1
    have t2 := (hb3.cell (p := ⟨w.heap.size, 2, none⟩) hzz).trans s2
    have t3 := (hb3.cell (p := ⟨w.heap.size, 3, none⟩) hzz).trans s3
    have t4 := (hb3.cell (p := ⟨w.heap.size, 4, none⟩) hzz).trans s4
    have hownK := ownsRow_below hown2 hb3
    have hbelK := hbel3
    clear s0 s1 s2 s3 s4
    go_wp2_with fail
    refine (rbackup_is HD.out.2.2.2 _).mono ?_
    rintro e w4 ⟨rfl, hb4⟩
    have hbelK := hbelK.trans (hb4.mono hbelK.size)
    have hfin := elect_stay HO.out (by rw [HD.out.1, HD.out.2.1, HD.out.2.2.1, HD.out.2.2.2]; rfl)
    have Hfin := Lib.hid hfin
    clear hfin
    go_wp2_with fail
    go_ret2
    exact ⟨ret_two (by rw [Hfin.out]), hbelK⟩
  · have HD : Hid (El.isC ⟨r, a, p, d, b⟩ (x, y) = false ∧ El.isB ⟨r, a, p, d, b⟩ (x, y) = false ∧ El.chief ⟨r, a, p, d, b⟩ = false ∧ El.backup ⟨r, a, p, d, b⟩ = true) := ⟨hC, hB, hch, hbk⟩
    clear hC hB hch hbk
    go_wp2_with fail
    refine (rchief_is HD.out.2.2.1 _).mono ?_
    rintro e w3 ⟨rfl, hb3⟩
    have hbel3 := hbel2.trans (hb3.mono hzq)
    have hz3 := hb3.size
    have t0 := (hb3.cell (p := ⟨w.heap.size, 0, none⟩) hzz).trans s0
    have t1 := (hb3.cell (p := ⟨w.heap.size, 1, none⟩) hzz).trans s1
    have t2 := (hb3.cell (p := ⟨w.heap.size, 2, none⟩) hzz).trans s2
    have t3 := (hb3.cell (p := ⟨w.heap.size, 3, none⟩) hzz).trans s3
    have t4 := (hb3.cell (p := ⟨w.heap.size, 4, none⟩) hzz).trans s4
    have hownK := ownsRow_below hown2 hb3
    have hbelK := hbel3
    clear s0 s1 s2 s3 s4
    go_wp2_with fail
    refine (rbackup_is HD.out.2.2.2 _).mono ?_
    rintro e w4 ⟨rfl, hb4⟩
    have hbelK := hbelK.trans (hb4.mono hbelK.size)
    have t0' := (hb4.cell (p := ⟨w.heap.size, 0, none⟩) (by simp; omega)).trans t0
    have t1' := (hb4.cell (p := ⟨w.heap.size, 1, none⟩) (by simp; omega)).trans t1
    have t2' := (hb4.cell (p := ⟨w.heap.size, 2, none⟩) (by simp; omega)).trans t2
    have t3' := (hb4.cell (p := ⟨w.heap.size, 3, none⟩) (by simp; omega)).trans t3
    have t4' := (hb4.cell (p := ⟨w.heap.size, 4, none⟩) (by simp; omega)).trans t4
    have hownK := ownsRow_below hownK hb4
    clear t0 t1 t2 t3 t4
    have k3 : w4.cell? ⟨g, 3, none⟩ = some (.int .u32 d) := hownK.cellAt 3 (by omega)
    have k4 : w4.cell? ⟨g, 4, none⟩ = some (.int .u32 b) := hownK.cellAt 4 (by omega)
    have kf := hownK.frozenAt
    have HW := Lib.hid hownK
    clear hownK
    go_wp2_with fail
    have HW0 := HW.out
    rw [List.flatMap_cons] at HW0
    have hownE := (HW0.stored 3 (.int .u32 0)).1.stored 4 (.int .u32 0) |>.1
    refine (ronce_any _ _ _ (⟨r, a, p, 0, 0⟩ :: vs) _ (by rw [List.length_cons, Hlen.out]) hn (Reads.of_own (by rw [List.flatMap_cons]; exact hownE))).mono ?_
    obtain ⟨⟨x', y'⟩, ho'⟩ : ∃ o, El.once (⟨r, a, p, 0, 0⟩ :: vs) = o := ⟨_, rfl⟩
    rw [ho']
    have HO' := Lib.hid ho'
    clear ho' hownE HW0 HW
    rintro e w5 ⟨rfl, hb5⟩
    have hbelE := (hbelK.setCell (p := ⟨g, 3, none⟩) hgb (.int .u32 0)).setCell (p := ⟨g, 4, none⟩) hgb (.int .u32 0)
    have hbelF := hbelE.trans (hb5.mono hbelE.size)
    have hfin := elect_anew HO.out (by rw [HD.out.1, HD.out.2.1, HD.out.2.2.1, HD.out.2.2.2]; rfl)
    rw [HD.out.1, HD.out.2.1] at hfin
    have Hfin := Lib.hid hfin
    clear hfin
    go_wp2_with fail
    go_ret2
    exact ⟨ret_two (by rw [Hfin.out]; exact HO'.out.symm), hbelF⟩
  · have HD : Hid (El.isC ⟨r, a, p, d, b⟩ (x, y) = false ∧ El.isB ⟨r, a, p, d, b⟩ (x, y) = false ∧ El.chief ⟨r, a, p, d, b⟩ = true ∧ El.backup ⟨r, a, p, d, b⟩ = false) := ⟨hC, hB, hch, hbk⟩
    clear hC hB hch hbk
    go_wp2_with fail
    refine (rchief_is HD.out.2.2.1 _).mono ?_
    rintro e w3 ⟨rfl, hb3⟩
    have hbel3 := hbel2.trans (hb3.mono hzq)
    have hz3 := hb3.size
    have t0 := (hb3.cell (p := ⟨w.heap.size, 0, none⟩) hzz).trans s0
    have t1 := (hb3.cell (p := ⟨w.heap.size, 1, none⟩) hzz).trans s1
    have t2 := (hb3.cell (p := ⟨w.heap.size, 2, none⟩) hzz).trans s2
    have t3 := (hb3.cell (p := ⟨w.heap.size, 3, none⟩) hzz).trans s3
    have t4 := (hb3.cell (p := ⟨w.heap.size, 4, none⟩) hzz).trans s4
    have hownK := ownsRow_below hown2 hb3
    have hbelK := hbel3
    clear s0 s1 s2 s3 s4
    have k3 : w3.cell? ⟨g, 3, none⟩ = some (.int .u32 d) := hownK.cellAt 3 (by omega)
    have k4 : w3.cell? ⟨g, 4, none⟩ = some (.int .u32 b) := hownK.cellAt 4 (by omega)
    have kf := hownK.frozenAt
    have HW := Lib.hid hownK
    clear hownK
    go_wp2_with fail
    have HW0 := HW.out
    rw [List.flatMap_cons] at HW0
    have hownE := (HW0.stored 3 (.int .u32 0)).1.stored 4 (.int .u32 0) |>.1
    refine (ronce_any _ _ _ (⟨r, a, p, 0, 0⟩ :: vs) _ (by rw [List.length_cons, Hlen.out]) hn (Reads.of_own (by rw [List.flatMap_cons]; exact hownE))).mono ?_
    obtain ⟨⟨x', y'⟩, ho'⟩ : ∃ o, El.once (⟨r, a, p, 0, 0⟩ :: vs) = o := ⟨_, rfl⟩
    rw [ho']
    have HO' := Lib.hid ho'
    clear ho' hownE HW0 HW
    rintro e w5 ⟨rfl, hb5⟩
    have hbelE := (hbelK.setCell (p := ⟨g, 3, none⟩) hgb (.int .u32 0)).setCell (p := ⟨g, 4, none⟩) hgb (.int .u32 0)
    have hbelF := hbelE.trans (hb5.mono hbelE.size)
    have hfin := elect_anew HO.out (by rw [HD.out.1, HD.out.2.1, HD.out.2.2.1, HD.out.2.2.2]; rfl)
    rw [HD.out.1, HD.out.2.1] at hfin
    have Hfin := Lib.hid hfin
    clear hfin
    go_wp2_with fail
    go_ret2
    exact ⟨ret_two (by rw [Hfin.out]; exact HO'.out.symm), hbelF⟩
  · have HD : Hid (El.isC ⟨r, a, p, d, b⟩ (x, y) = false ∧ El.isB ⟨r, a, p, d, b⟩ (x, y) = false ∧ El.chief ⟨r, a, p, d, b⟩ = true ∧ El.backup ⟨r, a, p, d, b⟩ = true) := ⟨hC, hB, hch, hbk⟩
    clear hC hB hch hbk
    go_wp2_with fail
    refine (rchief_is HD.out.2.2.1 _).mono ?_
    rintro e w3 ⟨rfl, hb3⟩
    have hbel3 := hbel2.trans (hb3.mono hzq)
    have hz3 := hb3.size
    have t0 := (hb3.cell (p := ⟨w.heap.size, 0, none⟩) hzz).trans s0
    have t1 := (hb3.cell (p := ⟨w.heap.size, 1, none⟩) hzz).trans s1
    have t2 := (hb3.cell (p := ⟨w.heap.size, 2, none⟩) hzz).trans s2
    have t3 := (hb3.cell (p := ⟨w.heap.size, 3, none⟩) hzz).trans s3
    have t4 := (hb3.cell (p := ⟨w.heap.size, 4, none⟩) hzz).trans s4
    have hownK := ownsRow_below hown2 hb3
    have hbelK := hbel3
    clear s0 s1 s2 s3 s4
    have k3 : w3.cell? ⟨g, 3, none⟩ = some (.int .u32 d) := hownK.cellAt 3 (by omega)
    have k4 : w3.cell? ⟨g, 4, none⟩ = some (.int .u32 b) := hownK.cellAt 4 (by omega)
    have kf := hownK.frozenAt
    have HW := Lib.hid hownK
    clear hownK
    go_wp2_with fail
    have HW0 := HW.out
    rw [List.flatMap_cons] at HW0
    have hownE := (HW0.stored 3 (.int .u32 0)).1.stored 4 (.int .u32 0) |>.1
    refine (ronce_any _ _ _ (⟨r, a, p, 0, 0⟩ :: vs) _ (by rw [List.length_cons, Hlen.out]) hn (Reads.of_own (by rw [List.flatMap_cons]; exact hownE))).mono ?_
    obtain ⟨⟨x', y'⟩, ho'⟩ : ∃ o, El.once (⟨r, a, p, 0, 0⟩ :: vs) = o := ⟨_, rfl⟩
    rw [ho']
    have HO' := Lib.hid ho'
    clear ho' hownE HW0 HW
    rintro e w5 ⟨rfl, hb5⟩
    have hbelE := (hbelK.setCell (p := ⟨g, 3, none⟩) hgb (.int .u32 0)).setCell (p := ⟨g, 4, none⟩) hgb (.int .u32 0)
    have hbelF := hbelE.trans (hb5.mono hbelE.size)
    have hfin := elect_anew HO.out (by rw [HD.out.1, HD.out.2.1, HD.out.2.2.1, HD.out.2.2.2]; rfl)
    rw [HD.out.1, HD.out.2.1] at hfin
    have Hfin := Lib.hid hfin
    clear hfin
    go_wp2_with fail
    go_ret2
    exact ⟨ret_two (by rw [Hfin.out]; exact HO'.out.symm), hbelF⟩
  · have HD : Hid (El.isC ⟨r, a, p, d, b⟩ (x, y) = false ∧ El.isB ⟨r, a, p, d, b⟩ (x, y) = true ∧ El.chief ⟨r, a, p, d, b⟩ = false ∧ El.backup ⟨r, a, p, d, b⟩ = false) := ⟨hC, hB, hch, hbk⟩
    clear hC hB hch hbk
    go_wp2_with fail
    refine (rchief_is HD.out.2.2.1 _).mono ?_
    rintro e w3 ⟨rfl, hb3⟩
    have hbel3 := hbel2.trans (hb3.mono hzq)
    have hz3 := hb3.size
    have t0 := (hb3.cell (p := ⟨w.heap.size, 0, none⟩) hzz).trans s0
    have t1 := (hb3.cell (p := ⟨w.heap.size, 1, none⟩) hzz).trans s1
    have t2 := (hb3.cell (p := ⟨w.heap.size, 2, none⟩) hzz).trans s2
    have t3 := (hb3.cell (p := ⟨w.heap.size, 3, none⟩) hzz).trans s3
    have t4 := (hb3.cell (p := ⟨w.heap.size, 4, none⟩) hzz).trans s4
    have hownK := ownsRow_below hown2 hb3
    have hbelK := hbel3
    clear s0 s1 s2 s3 s4
    go_wp2_with fail
    refine (rbackup_is HD.out.2.2.2 _).mono ?_
    rintro e w4 ⟨rfl, hb4⟩
    have hbelK := hbelK.trans (hb4.mono hbelK.size)
    have t0' := (hb4.cell (p := ⟨w.heap.size, 0, none⟩) (by simp; omega)).trans t0
    have t1' := (hb4.cell (p := ⟨w.heap.size, 1, none⟩) (by simp; omega)).trans t1
    have t2' := (hb4.cell (p := ⟨w.heap.size, 2, none⟩) (by simp; omega)).trans t2
    have t3' := (hb4.cell (p := ⟨w.heap.size, 3, none⟩) (by simp; omega)).trans t3
    have t4' := (hb4.cell (p := ⟨w.heap.size, 4, none⟩) (by simp; omega)).trans t4
    have hownK := ownsRow_below hownK hb4
    clear t0 t1 t2 t3 t4
    have k3 : w4.cell? ⟨g, 3, none⟩ = some (.int .u32 d) := hownK.cellAt 3 (by omega)
    have k4 : w4.cell? ⟨g, 4, none⟩ = some (.int .u32 b) := hownK.cellAt 4 (by omega)
    have kf := hownK.frozenAt
    have HW := Lib.hid hownK
    clear hownK
    go_wp2_with fail
    have HW0 := HW.out
    rw [List.flatMap_cons] at HW0
    have hownE := ((HW0.stored 3 (.int .u32 0)).1.stored 4 (.int .u32 0)).1.stored 4 (.int .u32 a) |>.1
    refine (ronce_any _ _ _ (⟨r, a, p, 0, a⟩ :: vs) _ (by rw [List.length_cons, Hlen.out]) hn (Reads.of_own (by rw [List.flatMap_cons]; exact hownE))).mono ?_
    obtain ⟨⟨x', y'⟩, ho'⟩ : ∃ o, El.once (⟨r, a, p, 0, a⟩ :: vs) = o := ⟨_, rfl⟩
    rw [ho']
    have HO' := Lib.hid ho'
    clear ho' hownE HW0 HW
    rintro e w5 ⟨rfl, hb5⟩
    have hbelE := (hbelK.setCell (p := ⟨g, 3, none⟩) hgb (.int .u32 0)).setCell (p := ⟨g, 4, none⟩) hgb (.int .u32 0)
    have hbelE := hbelE.setCell (p := ⟨g, 4, none⟩) hgb (.int .u32 a)
    have hbelF := hbelE.trans (hb5.mono hbelE.size)
    have hfin := elect_anew HO.out (by rw [HD.out.1, HD.out.2.1, HD.out.2.2.1, HD.out.2.2.2]; rfl)
    rw [HD.out.1, HD.out.2.1] at hfin
    have Hfin := Lib.hid hfin
    clear hfin
    go_wp2_with fail
    go_ret2
    exact ⟨ret_two (by rw [Hfin.out]; exact HO'.out.symm), hbelF⟩
  · have HD : Hid (El.isC ⟨r, a, p, d, b⟩ (x, y) = false ∧ El.isB ⟨r, a, p, d, b⟩ (x, y) = true ∧ El.chief ⟨r, a, p, d, b⟩ = false ∧ El.backup ⟨r, a, p, d, b⟩ = true) := ⟨hC, hB, hch, hbk⟩
    clear hC hB hch hbk
    go_wp2_with fail
    refine (rchief_is HD.out.2.2.1 _).mono ?_
    rintro e w3 ⟨rfl, hb3⟩
    have hbel3 := hbel2.trans (hb3.mono hzq)
    have hz3 := hb3.size
    have t0 := (hb3.cell (p := ⟨w.heap.size, 0, none⟩) hzz).trans s0
    have t1 := (hb3.cell (p := ⟨w.heap.size, 1, none⟩) hzz).trans s1
    have t2 := (hb3.cell (p := ⟨w.heap.size, 2, none⟩) hzz).trans s2
    have t3 := (hb3.cell (p := ⟨w.heap.size, 3, none⟩) hzz).trans s3
    have t4 := (hb3.cell (p := ⟨w.heap.size, 4, none⟩) hzz).trans s4
    have hownK := ownsRow_below hown2 hb3
    have hbelK := hbel3
    clear s0 s1 s2 s3 s4
    go_wp2_with fail
    refine (rbackup_is HD.out.2.2.2 _).mono ?_
    rintro e w4 ⟨rfl, hb4⟩
    have hbelK := hbelK.trans (hb4.mono hbelK.size)
    have hfin := elect_stay HO.out (by rw [HD.out.1, HD.out.2.1, HD.out.2.2.1, HD.out.2.2.2]; rfl)
    have Hfin := Lib.hid hfin
    clear hfin
    go_wp2_with fail
    go_ret2
    exact ⟨ret_two (by rw [Hfin.out]), hbelK⟩
  · have HD : Hid (El.isC ⟨r, a, p, d, b⟩ (x, y) = false ∧ El.isB ⟨r, a, p, d, b⟩ (x, y) = true ∧ El.chief ⟨r, a, p, d, b⟩ = true ∧ El.backup ⟨r, a, p, d, b⟩ = false) := ⟨hC, hB, hch, hbk⟩
    clear hC hB hch hbk
    go_wp2_with fail
    refine (rchief_is HD.out.2.2.1 _).mono ?_
    rintro e w3 ⟨rfl, hb3⟩
    have hbel3 := hbel2.trans (hb3.mono hzq)
    have hz3 := hb3.size
    have t0 := (hb3.cell (p := ⟨w.heap.size, 0, none⟩) hzz).trans s0
    have t1 := (hb3.cell (p := ⟨w.heap.size, 1, none⟩) hzz).trans s1
    have t2 := (hb3.cell (p := ⟨w.heap.size, 2, none⟩) hzz).trans s2
    have t3 := (hb3.cell (p := ⟨w.heap.size, 3, none⟩) hzz).trans s3
    have t4 := (hb3.cell (p := ⟨w.heap.size, 4, none⟩) hzz).trans s4
    have hownK := ownsRow_below hown2 hb3
    have hbelK := hbel3
    clear s0 s1 s2 s3 s4
    have k3 : w3.cell? ⟨g, 3, none⟩ = some (.int .u32 d) := hownK.cellAt 3 (by omega)
    have k4 : w3.cell? ⟨g, 4, none⟩ = some (.int .u32 b) := hownK.cellAt 4 (by omega)
    have kf := hownK.frozenAt
    have HW := Lib.hid hownK
    clear hownK
    go_wp2_with fail
    have HW0 := HW.out
    rw [List.flatMap_cons] at HW0
    have hownE := ((HW0.stored 3 (.int .u32 0)).1.stored 4 (.int .u32 0)).1.stored 4 (.int .u32 a) |>.1
    refine (ronce_any _ _ _ (⟨r, a, p, 0, a⟩ :: vs) _ (by rw [List.length_cons, Hlen.out]) hn (Reads.of_own (by rw [List.flatMap_cons]; exact hownE))).mono ?_
    obtain ⟨⟨x', y'⟩, ho'⟩ : ∃ o, El.once (⟨r, a, p, 0, a⟩ :: vs) = o := ⟨_, rfl⟩
    rw [ho']
    have HO' := Lib.hid ho'
    clear ho' hownE HW0 HW
    rintro e w5 ⟨rfl, hb5⟩
    have hbelE := (hbelK.setCell (p := ⟨g, 3, none⟩) hgb (.int .u32 0)).setCell (p := ⟨g, 4, none⟩) hgb (.int .u32 0)
    have hbelE := hbelE.setCell (p := ⟨g, 4, none⟩) hgb (.int .u32 a)
    have hbelF := hbelE.trans (hb5.mono hbelE.size)
    have hfin := elect_anew HO.out (by rw [HD.out.1, HD.out.2.1, HD.out.2.2.1, HD.out.2.2.2]; rfl)
    rw [HD.out.1, HD.out.2.1] at hfin
    have Hfin := Lib.hid hfin
    clear hfin
    go_wp2_with fail
    go_ret2
    exact ⟨ret_two (by rw [Hfin.out]; exact HO'.out.symm), hbelF⟩
  · have HD : Hid (El.isC ⟨r, a, p, d, b⟩ (x, y) = false ∧ El.isB ⟨r, a, p, d, b⟩ (x, y) = true ∧ El.chief ⟨r, a, p, d, b⟩ = true ∧ El.backup ⟨r, a, p, d, b⟩ = true) := ⟨hC, hB, hch, hbk⟩
    clear hC hB hch hbk
    go_wp2_with fail
    refine (rchief_is HD.out.2.2.1 _).mono ?_
    rintro e w3 ⟨rfl, hb3⟩
    have hbel3 := hbel2.trans (hb3.mono hzq)
    have hz3 := hb3.size
    have t0 := (hb3.cell (p := ⟨w.heap.size, 0, none⟩) hzz).trans s0
    have t1 := (hb3.cell (p := ⟨w.heap.size, 1, none⟩) hzz).trans s1
    have t2 := (hb3.cell (p := ⟨w.heap.size, 2, none⟩) hzz).trans s2
    have t3 := (hb3.cell (p := ⟨w.heap.size, 3, none⟩) hzz).trans s3
    have t4 := (hb3.cell (p := ⟨w.heap.size, 4, none⟩) hzz).trans s4
    have hownK := ownsRow_below hown2 hb3
    have hbelK := hbel3
    clear s0 s1 s2 s3 s4
    have k3 : w3.cell? ⟨g, 3, none⟩ = some (.int .u32 d) := hownK.cellAt 3 (by omega)
    have k4 : w3.cell? ⟨g, 4, none⟩ = some (.int .u32 b) := hownK.cellAt 4 (by omega)
    have kf := hownK.frozenAt
    have HW := Lib.hid hownK
    clear hownK
    go_wp2_with fail
    have HW0 := HW.out
    rw [List.flatMap_cons] at HW0
    have hownE := ((HW0.stored 3 (.int .u32 0)).1.stored 4 (.int .u32 0)).1.stored 4 (.int .u32 a) |>.1
    refine (ronce_any _ _ _ (⟨r, a, p, 0, a⟩ :: vs) _ (by rw [List.length_cons, Hlen.out]) hn (Reads.of_own (by rw [List.flatMap_cons]; exact hownE))).mono ?_
    obtain ⟨⟨x', y'⟩, ho'⟩ : ∃ o, El.once (⟨r, a, p, 0, a⟩ :: vs) = o := ⟨_, rfl⟩
    rw [ho']
    have HO' := Lib.hid ho'
    clear ho' hownE HW0 HW
    rintro e w5 ⟨rfl, hb5⟩
    have hbelE := (hbelK.setCell (p := ⟨g, 3, none⟩) hgb (.int .u32 0)).setCell (p := ⟨g, 4, none⟩) hgb (.int .u32 0)
    have hbelE := hbelE.setCell (p := ⟨g, 4, none⟩) hgb (.int .u32 a)
    have hbelF := hbelE.trans (hb5.mono hbelE.size)
    have hfin := elect_anew HO.out (by rw [HD.out.1, HD.out.2.1, HD.out.2.2.1, HD.out.2.2.2]; rfl)
    rw [HD.out.1, HD.out.2.1] at hfin
    have Hfin := Lib.hid hfin
    clear hfin
    go_wp2_with fail
    go_ret2
    exact ⟨ret_two (by rw [Hfin.out]; exact HO'.out.symm), hbelF⟩
  · have HD : Hid (El.isC ⟨r, a, p, d, b⟩ (x, y) = true ∧ El.isB ⟨r, a, p, d, b⟩ (x, y) = false ∧ El.chief ⟨r, a, p, d, b⟩ = false ∧ El.backup ⟨r, a, p, d, b⟩ = false) := ⟨hC, hB, hch, hbk⟩
    clear hC hB hch hbk
    go_wp2_with fail
    refine (rchief_is HD.out.2.2.1 _).mono ?_
    rintro e w3 ⟨rfl, hb3⟩
    have hbel3 := hbel2.trans (hb3.mono hzq)
    have hz3 := hb3.size
    have t0 := (hb3.cell (p := ⟨w.heap.size, 0, none⟩) hzz).trans s0
    have t1 := (hb3.cell (p := ⟨w.heap.size, 1, none⟩) hzz).trans s1
    have t2 := (hb3.cell (p := ⟨w.heap.size, 2, none⟩) hzz).trans s2
    have t3 := (hb3.cell (p := ⟨w.heap.size, 3, none⟩) hzz).trans s3
    have t4 := (hb3.cell (p := ⟨w.heap.size, 4, none⟩) hzz).trans s4
    have hownK := ownsRow_below hown2 hb3
    have hbelK := hbel3
    clear s0 s1 s2 s3 s4
    have k3 : w3.cell? ⟨g, 3, none⟩ = some (.int .u32 d) := hownK.cellAt 3 (by omega)
    have k4 : w3.cell? ⟨g, 4, none⟩ = some (.int .u32 b) := hownK.cellAt 4 (by omega)
    have kf := hownK.frozenAt
    have HW := Lib.hid hownK
    clear hownK
    go_wp2_with fail
    have HW0 := HW.out
    rw [List.flatMap_cons] at HW0
    have hownE := ((HW0.stored 3 (.int .u32 0)).1.stored 4 (.int .u32 0)).1.stored 3 (.int .u32 a) |>.1
    refine (ronce_any _ _ _ (⟨r, a, p, a, 0⟩ :: vs) _ (by rw [List.length_cons, Hlen.out]) hn (Reads.of_own (by rw [List.flatMap_cons]; exact hownE))).mono ?_
    obtain ⟨⟨x', y'⟩, ho'⟩ : ∃ o, El.once (⟨r, a, p, a, 0⟩ :: vs) = o := ⟨_, rfl⟩
    rw [ho']
    have HO' := Lib.hid ho'
    clear ho' hownE HW0 HW
    rintro e w5 ⟨rfl, hb5⟩
    have hbelE := (hbelK.setCell (p := ⟨g, 3, none⟩) hgb (.int .u32 0)).setCell (p := ⟨g, 4, none⟩) hgb (.int .u32 0)
    have hbelE := hbelE.setCell (p := ⟨g, 3, none⟩) hgb (.int .u32 a)
    have hbelF := hbelE.trans (hb5.mono hbelE.size)
    have hfin := elect_anew HO.out (by rw [HD.out.1, HD.out.2.1, HD.out.2.2.1, HD.out.2.2.2]; rfl)
    rw [HD.out.1, HD.out.2.1] at hfin
    have Hfin := Lib.hid hfin
    clear hfin
    go_wp2_with fail
    go_ret2
    exact ⟨ret_two (by rw [Hfin.out]; exact HO'.out.symm), hbelF⟩
  · have HD : Hid (El.isC ⟨r, a, p, d, b⟩ (x, y) = true ∧ El.isB ⟨r, a, p, d, b⟩ (x, y) = false ∧ El.chief ⟨r, a, p, d, b⟩ = false ∧ El.backup ⟨r, a, p, d, b⟩ = true) := ⟨hC, hB, hch, hbk⟩
    clear hC hB hch hbk
    go_wp2_with fail
    refine (rchief_is HD.out.2.2.1 _).mono ?_
    rintro e w3 ⟨rfl, hb3⟩
    have hbel3 := hbel2.trans (hb3.mono hzq)
    have hz3 := hb3.size
    have t0 := (hb3.cell (p := ⟨w.heap.size, 0, none⟩) hzz).trans s0
    have t1 := (hb3.cell (p := ⟨w.heap.size, 1, none⟩) hzz).trans s1
    have t2 := (hb3.cell (p := ⟨w.heap.size, 2, none⟩) hzz).trans s2
    have t3 := (hb3.cell (p := ⟨w.heap.size, 3, none⟩) hzz).trans s3
    have t4 := (hb3.cell (p := ⟨w.heap.size, 4, none⟩) hzz).trans s4
    have hownK := ownsRow_below hown2 hb3
    have hbelK := hbel3
    clear s0 s1 s2 s3 s4
    have k3 : w3.cell? ⟨g, 3, none⟩ = some (.int .u32 d) := hownK.cellAt 3 (by omega)
    have k4 : w3.cell? ⟨g, 4, none⟩ = some (.int .u32 b) := hownK.cellAt 4 (by omega)
    have kf := hownK.frozenAt
    have HW := Lib.hid hownK
    clear hownK
    go_wp2_with fail
    have HW0 := HW.out
    rw [List.flatMap_cons] at HW0
    have hownE := ((HW0.stored 3 (.int .u32 0)).1.stored 4 (.int .u32 0)).1.stored 3 (.int .u32 a) |>.1
    refine (ronce_any _ _ _ (⟨r, a, p, a, 0⟩ :: vs) _ (by rw [List.length_cons, Hlen.out]) hn (Reads.of_own (by rw [List.flatMap_cons]; exact hownE))).mono ?_
    obtain ⟨⟨x', y'⟩, ho'⟩ : ∃ o, El.once (⟨r, a, p, a, 0⟩ :: vs) = o := ⟨_, rfl⟩
    rw [ho']
    have HO' := Lib.hid ho'
    clear ho' hownE HW0 HW
    rintro e w5 ⟨rfl, hb5⟩
    have hbelE := (hbelK.setCell (p := ⟨g, 3, none⟩) hgb (.int .u32 0)).setCell (p := ⟨g, 4, none⟩) hgb (.int .u32 0)
    have hbelE := hbelE.setCell (p := ⟨g, 3, none⟩) hgb (.int .u32 a)
    have hbelF := hbelE.trans (hb5.mono hbelE.size)
    have hfin := elect_anew HO.out (by rw [HD.out.1, HD.out.2.1, HD.out.2.2.1, HD.out.2.2.2]; rfl)
    rw [HD.out.1, HD.out.2.1] at hfin
    have Hfin := Lib.hid hfin
    clear hfin
    go_wp2_with fail
    go_ret2
    exact ⟨ret_two (by rw [Hfin.out]; exact HO'.out.symm), hbelF⟩
  · have HD : Hid (El.isC ⟨r, a, p, d, b⟩ (x, y) = true ∧ El.isB ⟨r, a, p, d, b⟩ (x, y) = false ∧ El.chief ⟨r, a, p, d, b⟩ = true ∧ El.backup ⟨r, a, p, d, b⟩ = false) := ⟨hC, hB, hch, hbk⟩
    clear hC hB hch hbk
    go_wp2_with fail
    refine (rchief_is HD.out.2.2.1 _).mono ?_
    rintro e w3 ⟨rfl, hb3⟩
    have hbel3 := hbel2.trans (hb3.mono hzq)
    have hz3 := hb3.size
    have t0 := (hb3.cell (p := ⟨w.heap.size, 0, none⟩) hzz).trans s0
    have t1 := (hb3.cell (p := ⟨w.heap.size, 1, none⟩) hzz).trans s1
    have t2 := (hb3.cell (p := ⟨w.heap.size, 2, none⟩) hzz).trans s2
    have t3 := (hb3.cell (p := ⟨w.heap.size, 3, none⟩) hzz).trans s3
    have t4 := (hb3.cell (p := ⟨w.heap.size, 4, none⟩) hzz).trans s4
    have hownK := ownsRow_below hown2 hb3
    have hbelK := hbel3
    clear s0 s1 s2 s3 s4
    go_wp2_with fail
    refine (rbackup_is HD.out.2.2.2 _).mono ?_
    rintro e w4 ⟨rfl, hb4⟩
    have hbelK := hbelK.trans (hb4.mono hbelK.size)
    have hfin := elect_stay HO.out (by rw [HD.out.1, HD.out.2.1, HD.out.2.2.1, HD.out.2.2.2]; rfl)
    have Hfin := Lib.hid hfin
    clear hfin
    go_wp2_with fail
    go_ret2
    exact ⟨ret_two (by rw [Hfin.out]), hbelK⟩
  · have HD : Hid (El.isC ⟨r, a, p, d, b⟩ (x, y) = true ∧ El.isB ⟨r, a, p, d, b⟩ (x, y) = false ∧ El.chief ⟨r, a, p, d, b⟩ = true ∧ El.backup ⟨r, a, p, d, b⟩ = true) := ⟨hC, hB, hch, hbk⟩
    clear hC hB hch hbk
    go_wp2_with fail
    refine (rchief_is HD.out.2.2.1 _).mono ?_
    rintro e w3 ⟨rfl, hb3⟩
    have hbel3 := hbel2.trans (hb3.mono hzq)
    have hz3 := hb3.size
    have t0 := (hb3.cell (p := ⟨w.heap.size, 0, none⟩) hzz).trans s0
    have t1 := (hb3.cell (p := ⟨w.heap.size, 1, none⟩) hzz).trans s1
    have t2 := (hb3.cell (p := ⟨w.heap.size, 2, none⟩) hzz).trans s2
    have t3 := (hb3.cell (p := ⟨w.heap.size, 3, none⟩) hzz).trans s3
    have t4 := (hb3.cell (p := ⟨w.heap.size, 4, none⟩) hzz).trans s4
    have hownK := ownsRow_below hown2 hb3
    have hbelK := hbel3
    clear s0 s1 s2 s3 s4
    go_wp2_with fail
    refine (rbackup_is HD.out.2.2.2 _).mono ?_
    rintro e w4 ⟨rfl, hb4⟩
    have hbelK := hbelK.trans (hb4.mono hbelK.size)
    have t0' := (hb4.cell (p := ⟨w.heap.size, 0, none⟩) (by simp; omega)).trans t0
    have t1' := (hb4.cell (p := ⟨w.heap.size, 1, none⟩) (by simp; omega)).trans t1
    have t2' := (hb4.cell (p := ⟨w.heap.size, 2, none⟩) (by simp; omega)).trans t2
    have t3' := (hb4.cell (p := ⟨w.heap.size, 3, none⟩) (by simp; omega)).trans t3
    have t4' := (hb4.cell (p := ⟨w.heap.size, 4, none⟩) (by simp; omega)).trans t4
    have hownK := ownsRow_below hownK hb4
    clear t0 t1 t2 t3 t4
    have k3 : w4.cell? ⟨g, 3, none⟩ = some (.int .u32 d) := hownK.cellAt 3 (by omega)
    have k4 : w4.cell? ⟨g, 4, none⟩ = some (.int .u32 b) := hownK.cellAt 4 (by omega)
    have kf := hownK.frozenAt
    have HW := Lib.hid hownK
    clear hownK
    go_wp2_with fail
    have HW0 := HW.out
    rw [List.flatMap_cons] at HW0
    have hownE := ((HW0.stored 3 (.int .u32 0)).1.stored 4 (.int .u32 0)).1.stored 3 (.int .u32 a) |>.1
    refine (ronce_any _ _ _ (⟨r, a, p, a, 0⟩ :: vs) _ (by rw [List.length_cons, Hlen.out]) hn (Reads.of_own (by rw [List.flatMap_cons]; exact hownE))).mono ?_
    obtain ⟨⟨x', y'⟩, ho'⟩ : ∃ o, El.once (⟨r, a, p, a, 0⟩ :: vs) = o := ⟨_, rfl⟩
    rw [ho']
    have HO' := Lib.hid ho'
    clear ho' hownE HW0 HW
    rintro e w5 ⟨rfl, hb5⟩
    have hbelE := (hbelK.setCell (p := ⟨g, 3, none⟩) hgb (.int .u32 0)).setCell (p := ⟨g, 4, none⟩) hgb (.int .u32 0)
    have hbelE := hbelE.setCell (p := ⟨g, 3, none⟩) hgb (.int .u32 a)
    have hbelF := hbelE.trans (hb5.mono hbelE.size)
    have hfin := elect_anew HO.out (by rw [HD.out.1, HD.out.2.1, HD.out.2.2.1, HD.out.2.2.2]; rfl)
    rw [HD.out.1, HD.out.2.1] at hfin
    have Hfin := Lib.hid hfin
    clear hfin
    go_wp2_with fail
    go_ret2
    exact ⟨ret_two (by rw [Hfin.out]; exact HO'.out.symm), hbelF⟩
  · have HD : Hid (El.isC ⟨r, a, p, d, b⟩ (x, y) = true ∧ El.isB ⟨r, a, p, d, b⟩ (x, y) = true ∧ El.chief ⟨r, a, p, d, b⟩ = false ∧ El.backup ⟨r, a, p, d, b⟩ = false) := ⟨hC, hB, hch, hbk⟩
    clear hC hB hch hbk
    go_wp2_with fail
    refine (rchief_is HD.out.2.2.1 _).mono ?_
    rintro e w3 ⟨rfl, hb3⟩
    have hbel3 := hbel2.trans (hb3.mono hzq)
    have hz3 := hb3.size
    have t0 := (hb3.cell (p := ⟨w.heap.size, 0, none⟩) hzz).trans s0
    have t1 := (hb3.cell (p := ⟨w.heap.size, 1, none⟩) hzz).trans s1
    have t2 := (hb3.cell (p := ⟨w.heap.size, 2, none⟩) hzz).trans s2
    have t3 := (hb3.cell (p := ⟨w.heap.size, 3, none⟩) hzz).trans s3
    have t4 := (hb3.cell (p := ⟨w.heap.size, 4, none⟩) hzz).trans s4
    have hownK := ownsRow_below hown2 hb3
    have hbelK := hbel3
    clear s0 s1 s2 s3 s4
    have k3 : w3.cell? ⟨g, 3, none⟩ = some (.int .u32 d) := hownK.cellAt 3 (by omega)
    have k4 : w3.cell? ⟨g, 4, none⟩ = some (.int .u32 b) := hownK.cellAt 4 (by omega)
    have kf := hownK.frozenAt
    have HW := Lib.hid hownK
    clear hownK
    go_wp2_with fail
    have HW0 := HW.out
    rw [List.flatMap_cons] at HW0
    have hownE := ((HW0.stored 3 (.int .u32 0)).1.stored 4 (.int .u32 0)).1.stored 3 (.int .u32 a) |>.1
    refine (ronce_any _ _ _ (⟨r, a, p, a, 0⟩ :: vs) _ (by rw [List.length_cons, Hlen.out]) hn (Reads.of_own (by rw [List.flatMap_cons]; exact hownE))).mono ?_
    obtain ⟨⟨x', y'⟩, ho'⟩ : ∃ o, El.once (⟨r, a, p, a, 0⟩ :: vs) = o := ⟨_, rfl⟩
    rw [ho']
    have HO' := Lib.hid ho'
    clear ho' hownE HW0 HW
    rintro e w5 ⟨rfl, hb5⟩
    have hbelE := (hbelK.setCell (p := ⟨g, 3, none⟩) hgb (.int .u32 0)).setCell (p := ⟨g, 4, none⟩) hgb (.int .u32 0)
    have hbelE := hbelE.setCell (p := ⟨g, 3, none⟩) hgb (.int .u32 a)
    have hbelF := hbelE.trans (hb5.mono hbelE.size)
    have hfin := elect_anew HO.out (by rw [HD.out.1, HD.out.2.1, HD.out.2.2.1, HD.out.2.2.2]; rfl)
    rw [HD.out.1, HD.out.2.1] at hfin
    have Hfin := Lib.hid hfin
    clear hfin
    go_wp2_with fail
    go_ret2
    exact ⟨ret_two (by rw [Hfin.out]; exact HO'.out.symm), hbelF⟩
  · have HD : Hid (El.isC ⟨r, a, p, d, b⟩ (x, y) = true ∧ El.isB ⟨r, a, p, d, b⟩ (x, y) = true ∧ El.chief ⟨r, a, p, d, b⟩ = false ∧ El.backup ⟨r, a, p, d, b⟩ = true) := ⟨hC, hB, hch, hbk⟩
    clear hC hB hch hbk
    go_wp2_with fail
    refine (rchief_is HD.out.2.2.1 _).mono ?_
    rintro e w3 ⟨rfl, hb3⟩
    have hbel3 := hbel2.trans (hb3.mono hzq)
    have hz3 := hb3.size
    have t0 := (hb3.cell (p := ⟨w.heap.size, 0, none⟩) hzz).trans s0
    have t1 := (hb3.cell (p := ⟨w.heap.size, 1, none⟩) hzz).trans s1
    have t2 := (hb3.cell (p := ⟨w.heap.size, 2, none⟩) hzz).trans s2
    have t3 := (hb3.cell (p := ⟨w.heap.size, 3, none⟩) hzz).trans s3
    have t4 := (hb3.cell (p := ⟨w.heap.size, 4, none⟩) hzz).trans s4
    have hownK := ownsRow_below hown2 hb3
    have hbelK := hbel3
    clear s0 s1 s2 s3 s4
    have k3 : w3.cell? ⟨g, 3, none⟩ = some (.int .u32 d) := hownK.cellAt 3 (by omega)
    have k4 : w3.cell? ⟨g, 4, none⟩ = some (.int .u32 b) := hownK.cellAt 4 (by omega)
    have kf := hownK.frozenAt
    have HW := Lib.hid hownK
    clear hownK
    go_wp2_with fail
    have HW0 := HW.out
    rw [List.flatMap_cons] at HW0
    have hownE := ((HW0.stored 3 (.int .u32 0)).1.stored 4 (.int .u32 0)).1.stored 3 (.int .u32 a) |>.1
    refine (ronce_any _ _ _ (⟨r, a, p, a, 0⟩ :: vs) _ (by rw [List.length_cons, Hlen.out]) hn (Reads.of_own (by rw [List.flatMap_cons]; exact hownE))).mono ?_
    obtain ⟨⟨x', y'⟩, ho'⟩ : ∃ o, El.once (⟨r, a, p, a, 0⟩ :: vs) = o := ⟨_, rfl⟩
    rw [ho']
    have HO' := Lib.hid ho'
    clear ho' hownE HW0 HW
    rintro e w5 ⟨rfl, hb5⟩
    have hbelE := (hbelK.setCell (p := ⟨g, 3, none⟩) hgb (.int .u32 0)).setCell (p := ⟨g, 4, none⟩) hgb (.int .u32 0)
    have hbelE := hbelE.setCell (p := ⟨g, 3, none⟩) hgb (.int .u32 a)
    have hbelF := hbelE.trans (hb5.mono hbelE.size)
    have hfin := elect_anew HO.out (by rw [HD.out.1, HD.out.2.1, HD.out.2.2.1, HD.out.2.2.2]; rfl)
    rw [HD.out.1, HD.out.2.1] at hfin
    have Hfin := Lib.hid hfin
    clear hfin
    go_wp2_with fail
    go_ret2
    exact ⟨ret_two (by rw [Hfin.out]; exact HO'.out.symm), hbelF⟩
  · have HD : Hid (El.isC ⟨r, a, p, d, b⟩ (x, y) = true ∧ El.isB ⟨r, a, p, d, b⟩ (x, y) = true ∧ El.chief ⟨r, a, p, d, b⟩ = true ∧ El.backup ⟨r, a, p, d, b⟩ = false) := ⟨hC, hB, hch, hbk⟩
    clear hC hB hch hbk
    go_wp2_with fail
    refine (rchief_is HD.out.2.2.1 _).mono ?_
    rintro e w3 ⟨rfl, hb3⟩
    have hbel3 := hbel2.trans (hb3.mono hzq)
    have hz3 := hb3.size
    have t0 := (hb3.cell (p := ⟨w.heap.size, 0, none⟩) hzz).trans s0
    have t1 := (hb3.cell (p := ⟨w.heap.size, 1, none⟩) hzz).trans s1
    have t2 := (hb3.cell (p := ⟨w.heap.size, 2, none⟩) hzz).trans s2
    have t3 := (hb3.cell (p := ⟨w.heap.size, 3, none⟩) hzz).trans s3
    have t4 := (hb3.cell (p := ⟨w.heap.size, 4, none⟩) hzz).trans s4
    have hownK := ownsRow_below hown2 hb3
    have hbelK := hbel3
    clear s0 s1 s2 s3 s4
    go_wp2_with fail
    refine (rbackup_is HD.out.2.2.2 _).mono ?_
    rintro e w4 ⟨rfl, hb4⟩
    have hbelK := hbelK.trans (hb4.mono hbelK.size)
    have t0' := (hb4.cell (p := ⟨w.heap.size, 0, none⟩) (by simp; omega)).trans t0
    have t1' := (hb4.cell (p := ⟨w.heap.size, 1, none⟩) (by simp; omega)).trans t1
    have t2' := (hb4.cell (p := ⟨w.heap.size, 2, none⟩) (by simp; omega)).trans t2
    have t3' := (hb4.cell (p := ⟨w.heap.size, 3, none⟩) (by simp; omega)).trans t3
    have t4' := (hb4.cell (p := ⟨w.heap.size, 4, none⟩) (by simp; omega)).trans t4
    have hownK := ownsRow_below hownK hb4
    clear t0 t1 t2 t3 t4
    have k3 : w4.cell? ⟨g, 3, none⟩ = some (.int .u32 d) := hownK.cellAt 3 (by omega)
    have k4 : w4.cell? ⟨g, 4, none⟩ = some (.int .u32 b) := hownK.cellAt 4 (by omega)
    have kf := hownK.frozenAt
    have HW := Lib.hid hownK
    clear hownK
    go_wp2_with fail
    have HW0 := HW.out
    rw [List.flatMap_cons] at HW0
    have hownE := ((HW0.stored 3 (.int .u32 0)).1.stored 4 (.int .u32 0)).1.stored 3 (.int .u32 a) |>.1
    refine (ronce_any _ _ _ (⟨r, a, p, a, 0⟩ :: vs) _ (by rw [List.length_cons, Hlen.out]) hn (Reads.of_own (by rw [List.flatMap_cons]; exact hownE))).mono ?_
    obtain ⟨⟨x', y'⟩, ho'⟩ : ∃ o, El.once (⟨r, a, p, a, 0⟩ :: vs) = o := ⟨_, rfl⟩
    rw [ho']
    have HO' := Lib.hid ho'
    clear ho' hownE HW0 HW
    rintro e w5 ⟨rfl, hb5⟩
    have hbelE := (hbelK.setCell (p := ⟨g, 3, none⟩) hgb (.int .u32 0)).setCell (p := ⟨g, 4, none⟩) hgb (.int .u32 0)
    have hbelE := hbelE.setCell (p := ⟨g, 3, none⟩) hgb (.int .u32 a)
    have hbelF := hbelE.trans (hb5.mono hbelE.size)
    have hfin := elect_anew HO.out (by rw [HD.out.1, HD.out.2.1, HD.out.2.2.1, HD.out.2.2.2]; rfl)
    rw [HD.out.1, HD.out.2.1] at hfin
    have Hfin := Lib.hid hfin
    clear hfin
    go_wp2_with fail
    go_ret2
    exact ⟨ret_two (by rw [Hfin.out]; exact HO'.out.symm), hbelF⟩
  · have HD : Hid (El.isC ⟨r, a, p, d, b⟩ (x, y) = true ∧ El.isB ⟨r, a, p, d, b⟩ (x, y) = true ∧ El.chief ⟨r, a, p, d, b⟩ = true ∧ El.backup ⟨r, a, p, d, b⟩ = true) := ⟨hC, hB, hch, hbk⟩
    clear hC hB hch hbk
    go_wp2_with fail
    refine (rchief_is HD.out.2.2.1 _).mono ?_
    rintro e w3 ⟨rfl, hb3⟩
    have hbel3 := hbel2.trans (hb3.mono hzq)
    have hz3 := hb3.size
    have t0 := (hb3.cell (p := ⟨w.heap.size, 0, none⟩) hzz).trans s0
    have t1 := (hb3.cell (p := ⟨w.heap.size, 1, none⟩) hzz).trans s1
    have t2 := (hb3.cell (p := ⟨w.heap.size, 2, none⟩) hzz).trans s2
    have t3 := (hb3.cell (p := ⟨w.heap.size, 3, none⟩) hzz).trans s3
    have t4 := (hb3.cell (p := ⟨w.heap.size, 4, none⟩) hzz).trans s4
    have hownK := ownsRow_below hown2 hb3
    have hbelK := hbel3
    clear s0 s1 s2 s3 s4
    go_wp2_with fail
    refine (rbackup_is HD.out.2.2.2 _).mono ?_
    rintro e w4 ⟨rfl, hb4⟩
    have hbelK := hbelK.trans (hb4.mono hbelK.size)
    have hfin := elect_stay HO.out (by rw [HD.out.1, HD.out.2.1, HD.out.2.2.1, HD.out.2.2.2]; rfl)
    have Hfin := Lib.hid hfin
    clear hfin
    go_wp2_with fail
    go_ret2
    exact ⟨ret_two (by rw [Hfin.out]), hbelK⟩
end Ev
end Go.Proofs.Ytgbmhijgpdgdbaa
