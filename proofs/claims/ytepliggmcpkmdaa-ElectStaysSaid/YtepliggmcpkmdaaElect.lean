/- The program's Elect. -/
import Derived.Test.YtepliggmcpkmdaaOnce
import Derived.Test.YtepliggmcpkmdaaAppend
import Derived.Test.YtepliggmcpkmdaaCopied
import Derived.Test.YtepliggmcpkmdaaLater
import Derived.Deep.DeepCutAuto
namespace Go.Proofs.Ytepliggmcpkmdaa
open Go.RowKit

theorem flat_one {vs : List El.V} : ∀ u ∈ vs.flatMap cells, u.oneCell' = true := by
  intro u hu
  obtain ⟨v, _, hv⟩ := List.mem_flatMap.1 hu
  simp [cells] at hv
  rcases hv with h | h | h | h | h <;> subst h <;> rfl

theorem ownsRow_below {w w' : World} {base : Nat} {e : TypeId} {size : Nat} {v : Value} {n : Nat} {xs : List Value} (h : w.ownsRow base e size v n xs) (hb : Below w.heap.size w w') : w'.ownsRow base e size v n xs := by
  obtain ⟨h1, h2⟩ := h
  refine ⟨h1, ?_⟩
  rcases h2 with h2 | ⟨g, cap, cur, hv, hg, hh, r⟩
  · exact .inl h2
  · exact .inr ⟨g, cap, cur, hv, hg, (hb.block g (Array.getElem?_eq_some_iff.1 hh).1).trans hh, r⟩

theorem ownsRow_far {w : World} {base g n cap : Nat} {e : TypeId} {size : Nat} {xs : List Value} (h : w.ownsRow base e size (.slice (some ⟨g, 0, none⟩) n cap) n xs) {q : Addr} (hq : g ≠ q.block) (u : Value) :
    (w.setCell q u).ownsRow base e size (.slice (some ⟨g, 0, none⟩) n cap) n xs := by
  obtain ⟨h1, h2⟩ := h
  refine ⟨h1, ?_⟩
  rcases h2 with h2 | ⟨g', cap', cur, hv, hg, hh, r⟩
  · exact .inl h2
  · have e : g = g' := by
      simp only [Value.slice.injEq, Option.some.injEq, Addr.mk.injEq, and_true, true_and] at hv
      exact hv.1
    subst e
    exact .inr ⟨g, cap', cur, hv, hg, (Below.heap_setCell w q u g hq).trans hh, r⟩

/-- A voice written over the first of a row of the call's own. -/
theorem own_first {w : World} {base g n cap : Nat} {x v : El.V} {ys : List Value} (h : w.ownsRow base 35 5 (.slice (some ⟨g, 0, none⟩) n cap) n (cells x ++ ys)) :
    (((((w.setCell ⟨g, 0, none⟩ (.int .u32 v.r)).setCell ⟨g, 1, none⟩ (.int .u32 v.a)).setCell ⟨g, 2, none⟩ (.int .u8 v.p)).setCell ⟨g, 3, none⟩ (.int .u32 v.d)).setCell ⟨g, 4, none⟩ (.int .u32 v.b)).ownsRow base 35 5 (.slice (some ⟨g, 0, none⟩) n cap) n (cells v ++ ys) :=
  ((((h.stored 0 _).1.stored 1 _).1.stored 2 _).1.stored 3 _).1.stored 4 _ |>.1

theorem now_chief (r a p d b : Int) (o : Int × Int) (b' : Int) : El.chief ⟨r, a, p, if El.isC ⟨r, a, p, d, b⟩ o then a else 0, b'⟩ = El.isC ⟨r, a, p, d, b⟩ o := by
  by_cases ha : a = 0
  · subst ha; simp [El.chief, El.isC]
  · cases h : El.isC ⟨r, a, p, d, b⟩ o
    · simp [El.chief, ha]; exact fun e => ha e.symm
    · simp [El.chief, ha]
theorem now_backup (r a p d b : Int) (o : Int × Int) (d' : Int) : El.backup ⟨r, a, p, d', if El.isB ⟨r, a, p, d, b⟩ o then a else 0⟩ = El.isB ⟨r, a, p, d, b⟩ o := by
  by_cases ha : a = 0
  · subst ha; simp [El.backup, El.isB]
  · cases h : El.isB ⟨r, a, p, d, b⟩ o
    · simp [El.backup, ha]; exact fun e => ha e.symm
    · simp [El.backup, ha]
theorem elect_stay {self : El.V} {vs : List El.V} {o : Int × Int} (ho : El.once (self :: vs) = o) (h : (El.isC self o == El.chief self && El.isB self o == El.backup self) = true) : El.elect self vs = o := by
  unfold El.elect; rw [ho]; simp only [h, if_true]
theorem elect_anew {self : El.V} {vs : List El.V} {o : Int × Int} (ho : El.once (self :: vs) = o) (h : (El.isC self o == El.chief self && El.isB self o == El.backup self) = false) : El.elect self vs = El.once (El.now self (El.isC self o) (El.isB self o) :: vs) := by
  unfold El.elect; rw [ho]; simp only [h]; rfl

theorem chief_is {r a p d b : Int} {c : Bool} (h : El.chief ⟨r, a, p, d, b⟩ = c) (w : World) :
    Calls Try.prog 17 #[.agg #[.int .u32 r, .int .u32 a, .int .u8 p, .int .u32 d, .int .u32 b]] w fun e w' => e = .returned (.bool c) ∧ Below w.heap.size w w' := by
  rw [← h]; exact chief_any _ _ _ _ _ _

set_option maxHeartbeats 1000000 in
theorem elect_any (r a p d b : Int) (A : Option Addr) (n cp : Nat) (vs : List El.V) (w : World) (hlen : vs.length = n) (hn : n + 1 ≤ 65536) (hr : Reads w w.heap.size 5 A n (vs.flatMap cells)) :
    Calls Try.prog 13 #[.agg #[.int .u32 r, .int .u32 a, .int .u8 p, .int .u32 d, .int .u32 b], .slice A n cp] w fun e w' =>
      e = .returned (.tuple #[.int .u32 (El.elect ⟨r, a, p, d, b⟩ vs).1, .int .u32 (El.elect ⟨r, a, p, d, b⟩ vs).2]) ∧ Below w.heap.size w w' := by
  obtain ⟨i0, hi, hz0, hz1, hz2⟩ := info_parts voice_info
  have Hlen := Lib.hid hlen
  clear hlen
  have hs : ((w.alloc (.cells #[.int .u32 r, .int .u32 a, .int .u8 p, .int .u32 d, .int .u32 b] 35)).alloc (.cells #[.int .u32 r, .int .u32 a, .int .u8 p, .int .u32 d, .int .u32 b] 35)).ownsRow w.heap.size 35 5 (.slice (some ⟨w.heap.size + 1, 0, none⟩) 1 1) 1 (cells ⟨r, a, p, d, b⟩) := by
    have := World.ownsRow_lit (base := w.heap.size) (e := 35) (size := 5) (w.alloc (.cells #[.int .u32 r, .int .u32 a, .int .u8 p, .int .u32 d, .int .u32 b] 35)) #[.int .u32 r, .int .u32 a, .int .u8 p, .int .u32 d, .int .u32 b] 1 (by simp) (by simp [maxLen]) rfl
    rw [World.size_alloc] at this
    exact this
  have HS := Lib.hid hs
  have HR := Lib.hid ((hr.alloc (Nat.le_refl _) (.cells #[.int .u32 r, .int .u32 a, .int .u8 p, .int .u32 d, .int .u32 b] 35)).alloc (by simp) (.cells #[.int .u32 r, .int .u32 a, .int .u8 p, .int .u32 d, .int .u32 b] 35))
  have HB : Hid (Below w.heap.size w ((w.alloc (.cells #[.int .u32 r, .int .u32 a, .int .u8 p, .int .u32 d, .int .u32 b] 35)).alloc (.cells #[.int .u32 r, .int .u32 a, .int .u8 p, .int .u32 d, .int .u32 b] 35))) := ((Below.refl _ w).alloc (Nat.le_refl _) _).alloc (by simp) _
  have HBlk : Hid (Blk ((w.alloc (.cells #[.int .u32 r, .int .u32 a, .int .u8 p, .int .u32 d, .int .u32 b] 35)).alloc (.cells #[.int .u32 r, .int .u32 a, .int .u8 p, .int .u32 d, .int .u32 b] 35)) w.heap.size 35 (cells ⟨r, a, p, d, b⟩).toArray) := (Blk.new w 35 _).alloc _
  clear hs hr
  go_enter Try.func13, Try.ntmps13
  go_wp2_with (at_builtin; refine wpList_append_any _ rfl (.tmp 9) (.tmp 10) _ rfl w.heap.size 35 i0 _ 5 20 Try.underlying24 hi hz0 hz1 hz2 rfl (by omega) (.slice (some ⟨w.heap.size + 1, 0, none⟩) 1 1) 1 (cells ⟨r, a, p, d, b⟩) rfl HS.out w.heap.size A n cp (vs.flatMap cells) rfl HR.out flat_one (by unfold maxLen; omega) (by omega) (by simp; omega) ?_; intro v1 w1 hown1 hg1 hat1)
  obtain ⟨g, cap, hv1, hgb, hlt⟩ := hown1.form (by omega)
  subst hv1
  have hblk1 := HBlk.out.grown hg1 (by simp [Value.ownBlock])
  have hbel1 : Below w.heap.size w w1 := HB.out.grown hg1 (by simp; omega) (fun k hk => by simp [Value.ownBlock] at hk; omega)
  have hgne : g ≠ w.heap.size := by
    rcases hat1 with h | h <;> simp [Value.ownBlock] at h <;> omega
  have e1 : cells ⟨r, a, p, d, b⟩ ++ vs.flatMap cells = (⟨r, a, p, d, b⟩ :: vs : List El.V).flatMap cells := by simp
  rw [e1, Nat.add_comm 1 n] at hown1
  have hlen2 : Hid ((⟨r, a, p, d, b⟩ :: vs : List El.V).length = n + 1) := by rw [Hid, List.length_cons, Hlen.out]
  rw [Nat.add_comm 1 n]
  clear HS HR HB HBlk hat1 hg1 e1
  refine (once_any _ _ _ (⟨r, a, p, d, b⟩ :: vs) _ hlen2.out hn (Reads.of_own hown1)).mono ?_
  obtain ⟨⟨x, y⟩, ho⟩ : ∃ o, El.once (⟨r, a, p, d, b⟩ :: vs) = o := ⟨_, rfl⟩
  rw [ho]
  have HO := Lib.hid ho
  clear ho
  rintro e w2 ⟨rfl, hb2⟩
  have hblk2 := hblk1.below hb2 hblk1.lt
  have hbel2 := hbel1.trans (hb2.mono hbel1.size)
  have hzq := hbel2.size
  have hzz : w.heap.size < w2.heap.size := hblk2.lt
  have s0 := hblk2.cell 0
  have s1 := hblk2.cell 1
  have s2 := hblk2.cell 2
  have s3 := hblk2.cell 3
  have s4 := hblk2.cell 4
  simp [cells] at s0 s1 s2 s3 s4
  have hown2 := ownsRow_below hown1 hb2
  have hglt : g < w2.heap.size := by have := hb2.size; omega
  clear hi hz0 hz1 hz2 hb2 hlt hown1
  obtain ⟨A0, hA0⟩ : ∃ A0, (a != 0) = A0 := ⟨_, rfl⟩
  cases A0
  all_goals
    go_upto_if 28 with fail
    go_cut [] (fun wx => ∃ d' : Int, wx = w2.alloc (.cells #[.int .u32 r, .int .u32 a, .int .u8 p, .int .u32 d', .int .u32 0] 35) ∧ Hid (d' = if El.isC ⟨r, a, p, d, b⟩ (x, y) then a else 0))
    case first =>
      go_wp2_with fail
      all_goals
        go_meet
        case rel => exact ⟨_, rfl, by simp [Hid, El.isC, *]⟩
    case rest =>
    obtain ⟨d', rfl, Hd⟩ := hcut
    go_upto_if 40 with fail
    go_cut [] (fun wx => ∃ b' : Int, wx = w2.alloc (.cells #[.int .u32 r, .int .u32 a, .int .u8 p, .int .u32 d', .int .u32 b'] 35) ∧ Hid (b' = if El.isB ⟨r, a, p, d, b⟩ (x, y) then a else 0))
    case first =>
      go_wp2_with fail
      all_goals
        go_meet
        case rel => exact ⟨_, rfl, by simp [Hid, El.isB, *]⟩
    case rest =>
    obtain ⟨b', rfl, Hb⟩ := hcut
    clear hA0
    go_upto_region 9 with fail
    go_cut [55] (fun s wx => s = .bool (El.chief ⟨r, a, p, d', b'⟩ == El.chief ⟨r, a, p, d, b⟩ && El.backup ⟨r, a, p, d', b'⟩ == El.backup ⟨r, a, p, d, b⟩) ∧ Blk wx w2.heap.size 35 (cells ⟨r, a, p, d', b'⟩).toArray ∧ Below w2.heap.size w2 wx)
    case first =>
      cases hC1 : El.chief ⟨r, a, p, d', b'⟩ <;> cases hC2 : El.chief ⟨r, a, p, d, b⟩
      all_goals
        have HC1 := Lib.hid hC1
        have HC2 := Lib.hid hC2
        clear hC1 hC2
        have l0 := later_cell (v := .int .u32 r) (B := w2.heap.size + 1) (w0 := w2.alloc (.cells #[.int .u32 r, .int .u32 a, .int .u8 p, .int .u32 d', .int .u32 b'] 35)) (p := ⟨w.heap.size, 0, none⟩) (by simp; omega) ((hblk2.alloc _).cell 0)
        have l1 := later_cell (v := .int .u32 a) (B := w2.heap.size + 1) (w0 := w2.alloc (.cells #[.int .u32 r, .int .u32 a, .int .u8 p, .int .u32 d', .int .u32 b'] 35)) (p := ⟨w.heap.size, 1, none⟩) (by simp; omega) ((hblk2.alloc _).cell 1)
        have l2 := later_cell (v := .int .u8 p) (B := w2.heap.size + 1) (w0 := w2.alloc (.cells #[.int .u32 r, .int .u32 a, .int .u8 p, .int .u32 d', .int .u32 b'] 35)) (p := ⟨w.heap.size, 2, none⟩) (by simp; omega) ((hblk2.alloc _).cell 2)
        have l3 := later_cell (v := .int .u32 d) (B := w2.heap.size + 1) (w0 := w2.alloc (.cells #[.int .u32 r, .int .u32 a, .int .u8 p, .int .u32 d', .int .u32 b'] 35)) (p := ⟨w.heap.size, 3, none⟩) (by simp; omega) ((hblk2.alloc _).cell 3)
        have l4 := later_cell (v := .int .u32 b) (B := w2.heap.size + 1) (w0 := w2.alloc (.cells #[.int .u32 r, .int .u32 a, .int .u8 p, .int .u32 d', .int .u32 b'] 35)) (p := ⟨w.heap.size, 4, none⟩) (by simp; omega) ((hblk2.alloc _).cell 4)
        have m0 := later_cell (B := w2.heap.size + 1) (w0 := w2.alloc (.cells #[.int .u32 r, .int .u32 a, .int .u8 p, .int .u32 d', .int .u32 b'] 35)) (p := ⟨w2.heap.size, 0, none⟩) (by simp) ((Blk.new w2 35 _).cell 0)
        have m1 := later_cell (B := w2.heap.size + 1) (w0 := w2.alloc (.cells #[.int .u32 r, .int .u32 a, .int .u8 p, .int .u32 d', .int .u32 b'] 35)) (p := ⟨w2.heap.size, 1, none⟩) (by simp) ((Blk.new w2 35 _).cell 1)
        have m2 := later_cell (B := w2.heap.size + 1) (w0 := w2.alloc (.cells #[.int .u32 r, .int .u32 a, .int .u8 p, .int .u32 d', .int .u32 b'] 35)) (p := ⟨w2.heap.size, 2, none⟩) (by simp) ((Blk.new w2 35 _).cell 2)
        have m3 := later_cell (B := w2.heap.size + 1) (w0 := w2.alloc (.cells #[.int .u32 r, .int .u32 a, .int .u8 p, .int .u32 d', .int .u32 b'] 35)) (p := ⟨w2.heap.size, 3, none⟩) (by simp) ((Blk.new w2 35 _).cell 3)
        have m4 := later_cell (B := w2.heap.size + 1) (w0 := w2.alloc (.cells #[.int .u32 r, .int .u32 a, .int .u8 p, .int .u32 d', .int .u32 b'] 35)) (p := ⟨w2.heap.size, 4, none⟩) (by simp) ((Blk.new w2 35 _).cell 4)
        refine wp_region_later (B := w2.heap.size + 1) (w0 := w2.alloc (.cells #[.int .u32 r, .int .u32 a, .int .u8 p, .int .u32 d', .int .u32 b'] 35)) (by kernel_rfl) (by kernel_rfl) (Below.refl _ _) ?_
        repeat (go_big_quiet_step (first
          | (go_at_call 17; with_reducible exact later_call _ (by simp) (chief_is HC1.out _))
          | (go_at_call 17; with_reducible exact later_call _ (by simp) (chief_is HC2.out _))
          | (go_at_call 18; with_reducible exact later_call _ (by simp) (backup_any _ _ _ _ _ _))))
        refine wpQuiet_nil ?_
        rintro wx ⟨⟨wy, hwy⟩, hw⟩
        obtain rfl : wx = wy := hw
        go_wp2_with fail
        go_meet
        case rel => exact ⟨by simp [HC1.out, HC2.out], (Blk.new w2 35 _).below hwy (by simp), ((Below.refl _ _).alloc (Nat.le_refl _) _).trans (hwy.mono (by simp))⟩
    case rest =>
      obtain ⟨rfl, hblk3, hb3⟩ := hcut
      have hcN : El.chief ⟨r, a, p, d', b'⟩ = El.isC ⟨r, a, p, d, b⟩ (x, y) := by rw [Hd.out]; exact now_chief _ _ _ _ _ _ _
      have hbN : El.backup ⟨r, a, p, d', b'⟩ = El.isB ⟨r, a, p, d, b⟩ (x, y) := by rw [Hb.out]; exact now_backup _ _ _ _ _ _ _
      rw [hcN, hbN]
      have HcN := Lib.hid hcN
      clear hcN hbN
      have hbelC := hbel2.trans (hb3.mono hzq)
      cases hE : (El.isC ⟨r, a, p, d, b⟩ (x, y) == El.chief ⟨r, a, p, d, b⟩ && El.isB ⟨r, a, p, d, b⟩ (x, y) == El.backup ⟨r, a, p, d, b⟩)
      · have hfin := elect_anew HO.out hE
        have n0 : wc.cell? ⟨w2.heap.size, 0, none⟩ = some (.int .u32 r) := hblk3.cell 0
        have n1 : wc.cell? ⟨w2.heap.size, 1, none⟩ = some (.int .u32 a) := hblk3.cell 1
        have n2 : wc.cell? ⟨w2.heap.size, 2, none⟩ = some (.int .u8 p) := hblk3.cell 2
        have n3 : wc.cell? ⟨w2.heap.size, 3, none⟩ = some (.int .u32 d') := hblk3.cell 3
        have n4 : wc.cell? ⟨w2.heap.size, 4, none⟩ = some (.int .u32 b') := hblk3.cell 4
        have hzc := hblk3.lt
        have hownC := ownsRow_below hown2 hb3
        have Hfin := Lib.hid hfin
        have HE := Lib.hid hE
        clear hfin hE
        cases hc : El.isC ⟨r, a, p, d, b⟩ (x, y)
        · have HCI := Lib.hid (HcN.out.trans hc)
          have hdd : El.now ⟨r, a, p, d, b⟩ (El.isC ⟨r, a, p, d, b⟩ (x, y)) (El.isB ⟨r, a, p, d, b⟩ (x, y)) = ⟨r, a, p, d', b'⟩ := by
            rw [Hd.out, Hb.out, hc]; simp [El.now]
          rw [hdd] at Hfin
          have Hfin' := Lib.hid Hfin.out
          clear Hfin hdd
          go_wp2_with fail
          refine (chief_is HCI.out _).mono ?_
          rintro e w4 ⟨rfl, hb4⟩
          have hblk4 := hblk3.below hb4 hzc
          have hownD := ownsRow_below hownC hb4
          have hbelD := hbelC.trans (hb4.mono hbelC.size)
          have q0 : w4.cell? ⟨w2.heap.size, 0, none⟩ = some (.int .u32 r) := hblk4.cell 0
          have q1 : w4.cell? ⟨w2.heap.size, 1, none⟩ = some (.int .u32 a) := hblk4.cell 1
          have q2 : w4.cell? ⟨w2.heap.size, 2, none⟩ = some (.int .u8 p) := hblk4.cell 2
          have q3 : w4.cell? ⟨w2.heap.size, 3, none⟩ = some (.int .u32 d') := hblk4.cell 3
          have q4 : w4.cell? ⟨w2.heap.size, 4, none⟩ = some (.int .u32 b') := hblk4.cell 4
          have qf := hblk4.frozen
          have k0 : w4.cell? ⟨g, 0, none⟩ = some (.int .u32 r) := hownD.cellAt 0 (by omega)
          have k1 : w4.cell? ⟨g, 1, none⟩ = some (.int .u32 a) := hownD.cellAt 1 (by omega)
          have k2 : w4.cell? ⟨g, 2, none⟩ = some (.int .u8 p) := hownD.cellAt 2 (by omega)
          have k3 : w4.cell? ⟨g, 3, none⟩ = some (.int .u32 d) := hownD.cellAt 3 (by omega)
          have k4 : w4.cell? ⟨g, 4, none⟩ = some (.int .u32 b) := hownD.cellAt 4 (by omega)
          have kf := hownD.frozenAt
          have hgz : g ≠ w2.heap.size := by omega
          have hgz2 : w2.heap.size ≠ g := by omega
          have hpos : (0 : Int) < (n : Int) + 1 := by omega
          have HW := Lib.hid hownD
          clear hownD hownC hown2 n0 n1 n2 n3 n4
          go_wp2_with fail
          have hownE := own_first (v := ⟨r, a, p, d', b'⟩) (x := ⟨r, a, p, d, b⟩) (ys := vs.flatMap cells) (by have h := HW.out; rw [List.flatMap_cons] at h; exact h)
          refine (once_any _ _ _ (⟨r, a, p, d', b'⟩ :: vs) _ (by rw [List.length_cons, Hlen.out]) hn (Reads.of_own (by rw [List.flatMap_cons]; exact hownE))).mono ?_
          obtain ⟨⟨x', y'⟩, ho'⟩ : ∃ o, El.once (⟨r, a, p, d', b'⟩ :: vs) = o := ⟨_, rfl⟩
          rw [ho']
          have HO' := Lib.hid ho'
          clear ho' hownE
          rintro e w5 ⟨rfl, hb5⟩
          have hbelE := below5 hbelD (g' := g) hgb (.int .u32 r) (.int .u32 a) (.int .u8 p) (.int .u32 d') (.int .u32 b')
          have hbelF := hbelE.trans (hb5.mono hbelE.size)
          go_wp2_with fail
          go_ret2
          exact ⟨ret_two (by rw [Hfin'.out, HO'.out]), hbelF⟩
        · have HCI := Lib.hid (HcN.out.trans hc)
          have hdd : El.now ⟨r, a, p, d, b⟩ (El.isC ⟨r, a, p, d, b⟩ (x, y)) (El.isB ⟨r, a, p, d, b⟩ (x, y)) = ⟨r, a, p, d', 0⟩ := by
            rw [Hd.out, hc]; simp [El.now]
          rw [hdd] at Hfin
          have Hfin' := Lib.hid Hfin.out
          clear Hfin hdd
          go_wp2_with fail
          refine (chief_is HCI.out _).mono ?_
          rintro e w4 ⟨rfl, hb4⟩
          have hblk4 := hblk3.below hb4 hzc
          have hownD := ownsRow_below hownC hb4
          have hbelD := hbelC.trans (hb4.mono hbelC.size)
          have q0 : w4.cell? ⟨w2.heap.size, 0, none⟩ = some (.int .u32 r) := hblk4.cell 0
          have q1 : w4.cell? ⟨w2.heap.size, 1, none⟩ = some (.int .u32 a) := hblk4.cell 1
          have q2 : w4.cell? ⟨w2.heap.size, 2, none⟩ = some (.int .u8 p) := hblk4.cell 2
          have q3 : w4.cell? ⟨w2.heap.size, 3, none⟩ = some (.int .u32 d') := hblk4.cell 3
          have q4 : w4.cell? ⟨w2.heap.size, 4, none⟩ = some (.int .u32 b') := hblk4.cell 4
          have qf := hblk4.frozen
          have k0 : w4.cell? ⟨g, 0, none⟩ = some (.int .u32 r) := hownD.cellAt 0 (by omega)
          have k1 : w4.cell? ⟨g, 1, none⟩ = some (.int .u32 a) := hownD.cellAt 1 (by omega)
          have k2 : w4.cell? ⟨g, 2, none⟩ = some (.int .u8 p) := hownD.cellAt 2 (by omega)
          have k3 : w4.cell? ⟨g, 3, none⟩ = some (.int .u32 d) := hownD.cellAt 3 (by omega)
          have k4 : w4.cell? ⟨g, 4, none⟩ = some (.int .u32 b) := hownD.cellAt 4 (by omega)
          have kf := hownD.frozenAt
          have hgz : g ≠ w2.heap.size := by omega
          have hgz2 : w2.heap.size ≠ g := by omega
          have hpos : (0 : Int) < (n : Int) + 1 := by omega
          have HW := Lib.hid hownD
          clear hownD hownC hown2 n0 n1 n2 n3 n4
          go_wp2_with fail
          have hownE := own_first (v := ⟨r, a, p, d', 0⟩) (x := ⟨r, a, p, d, b⟩) (ys := vs.flatMap cells) (by have h := ownsRow_far HW.out (q := ⟨w2.heap.size, 4, none⟩) hgz (.int .u32 0); rw [List.flatMap_cons] at h; exact h)
          refine (once_any _ _ _ (⟨r, a, p, d', 0⟩ :: vs) _ (by rw [List.length_cons, Hlen.out]) hn (Reads.of_own (by rw [List.flatMap_cons]; exact hownE))).mono ?_
          obtain ⟨⟨x', y'⟩, ho'⟩ : ∃ o, El.once (⟨r, a, p, d', 0⟩ :: vs) = o := ⟨_, rfl⟩
          rw [ho']
          have HO' := Lib.hid ho'
          clear ho' hownE
          rintro e w5 ⟨rfl, hb5⟩
          have hbelE := below5 (hbelD.setCell (p := ⟨w2.heap.size, 4, none⟩) hzq (.int .u32 0)) (g' := g) hgb (.int .u32 r) (.int .u32 a) (.int .u8 p) (.int .u32 d') (.int .u32 0)
          have hbelF := hbelE.trans (hb5.mono hbelE.size)
          go_wp2_with fail
          go_ret2
          exact ⟨ret_two (by rw [Hfin'.out, HO'.out]), hbelF⟩
      · have hfin := elect_stay HO.out hE
        have Hfin := Lib.hid hfin
        clear hfin
        go_wp2_with fail
        go_ret2
        exact ⟨ret_two (by rw [Hfin.out]), hbelC⟩

end Go.Proofs.Ytepliggmcpkmdaa
