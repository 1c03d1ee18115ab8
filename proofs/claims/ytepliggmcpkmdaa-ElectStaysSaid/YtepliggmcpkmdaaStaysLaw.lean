/- The statement ElectStays, walked. -/
import Derived.Test.YtepliggmcpkmdaaSomeLaw
namespace Go.Proofs.Ytepliggmcpkmdaa
open Go.RowKit

/-- It says that it is designated, and may be. -/
def says (v : El.V) : Bool := decide (0 < v.p) && v.d == v.a
/-- What k rounds have seen: no address is 0, all are unlike; how many say so; the last of them is number c. -/
def Seen (L : List El.V) (k c m : Nat) : Prop :=
  (∀ u ∈ L.take k, u.a ≠ 0) ∧ (∀ i j u v, i < j → j < k → L[i]? = some u → L[j]? = some v → u.a ≠ v.a) ∧ m = ((L.take k).filter says).length ∧ c < L.length ∧
    ∀ x, ((L.take k).filter says).getLast? = some x → L[c]? = some x
theorem Seen.start {L : List El.V} (h : 0 < L.length) : Seen L 0 0 0 := ⟨by simp, fun i j _ _ _ h => by omega, by simp, h, by simp⟩
theorem Seen.step {L : List El.V} {k c m : Nat} {v : El.V} (h : Seen L k c m) (hv : L[k]? = some v) (ha : v.a ≠ 0) (hu : ∀ i u, i < k → L[i]? = some u → u.a ≠ v.a) :
    (says v = false → Seen L (k + 1) c m) ∧ (says v = true → Seen L (k + 1) k (m + 1)) := by
  obtain ⟨h1, h2, h3, h4, h5⟩ := h
  have e := take_snoc' hv
  have hk : k < L.length := (List.getElem?_eq_some_iff.1 hv).1
  have g1 : ∀ u ∈ L.take (k + 1), u.a ≠ 0 := by
    intro u hu
    rw [e] at hu
    rcases List.mem_append.1 hu with hu | hu
    · exact h1 u hu
    · rw [List.mem_singleton.1 hu]; exact ha
  have g2 : ∀ i j u x, i < j → j < k + 1 → L[i]? = some u → L[j]? = some x → u.a ≠ x.a := by
    intro i j u x hij hj hi hx
    by_cases hjk : j = k
    · subst hjk
      rw [hv] at hx; injection hx with hx; subst hx
      exact hu i u hij hi
    · exact h2 i j u x hij (by omega) hi hx
  refine ⟨fun hs => ⟨g1, g2, ?_, h4, ?_⟩, fun hs => ⟨g1, g2, ?_, hk, ?_⟩⟩
  · rw [e, List.filter_append]; simp [hs, h3]
  · rw [e, List.filter_append]; simpa [hs] using h5
  · rw [e, List.filter_append]; simp [hs, h3]
  · intro x hx
    rw [e, List.filter_append] at hx
    simp [hs] at hx
    rw [hv, hx]

/-- One alone says so: it stays. -/
theorem Seen.stays {self : El.V} {vs : List El.V} {c : Nat} {x : El.V} (h : Seen (self :: vs) (vs.length + 1) c 1) (hx : (self :: vs)[c]? = some x) (hp : ∀ u ∈ self :: vs, 0 ≤ u.p) :
    (El.elect self vs).1 = x.a ∧ (El.elect self vs).2 ≠ x.a := by
  obtain ⟨h1, h2, h3, h4, h5⟩ := h
  have et : (self :: vs).take (vs.length + 1) = self :: vs := List.take_of_length_le (by simp)
  rw [et] at h1 h3 h5
  obtain ⟨y, hy⟩ := List.length_eq_one_iff.1 h3.symm
  rw [hy] at h5
  have hxy : x = y := by
    have := h5 y (by simp)
    rw [hx] at this
    injection this
  subst hxy
  have hmem : ∀ u, u ∈ (self :: vs).filter says ↔ u = x := by intro u; rw [hy]; simp
  have hx2 : x ∈ self :: vs ∧ says x = true := List.mem_filter.1 ((hmem x).2 rfl)
  have hcC : ∀ u ∈ self :: vs, El.cC u = says u := by
    intro u hu
    have e1 := hp u hu
    have e2 := h1 u hu
    simp only [El.cC, says, El.chief]
    have : (u.p != 0) = decide (0 < u.p) := by
      rw [Bool.eq_iff_iff]; simp; omega
    have e3 : (u.a != 0) = true := by simpa using e2
    rw [this, e3, Bool.true_and]
  refine El.elect_stays (x := x) hx2.1 (by rw [hcC x hx2.1]; exact hx2.2) ?_ h1 ?_ ?_
  · intro v hv hc
    rw [hcC v hv] at hc
    exact (hmem v).1 (List.mem_filter.2 ⟨hv, hc⟩)
  · intro v hv
    obtain ⟨j, hj⟩ := List.getElem?_of_mem hv
    have hjl := (List.getElem?_eq_some_iff.1 hj).1
    have := h2 0 (j + 1) self v (by omega) (by omega) rfl (by simpa using hj)
    exact fun e => this e.symm
  · intro u hu v hv e
    obtain ⟨i, hi⟩ := List.getElem?_of_mem hu
    obtain ⟨j, hj⟩ := List.getElem?_of_mem hv
    have hil := (List.getElem?_eq_some_iff.1 hi).1
    have hjl := (List.getElem?_eq_some_iff.1 hj).1
    rcases Nat.lt_trichotomy i j with h | h | h
    · exact absurd e (h2 (i + 1) (j + 1) u v (by omega) (by omega) (by simpa using hi) (by simpa using hj))
    · subst h; rw [hi] at hj; injection hj
    · exact absurd e.symm (h2 (j + 1) (i + 1) v u (by omega) (by omega) (by simpa using hj) (by simpa using hi))

set_option maxHeartbeats 4000000 in
theorem lawStays_any (r a p d b : Int) (A : Option Addr) (n cp : Nat) (vs : List El.V) (w : World) (hlen : vs.length = n) (hm : n ≤ maxLen) (h0p : 0 ≤ p) (hps : ∀ u ∈ vs, 0 ≤ u.p) (hr : Reads w w.heap.size 5 A n (vs.flatMap cells)) :
    Calls Try.prog 6 #[.agg #[.int .u32 r, .int .u32 a, .int .u8 p, .int .u32 d, .int .u32 b], .slice A n cp] w fun e w' => e = .returned (.bool true) ∧ Below w.heap.size w w' := by
  obtain ⟨i0, hi, hz0, hz1, hz2⟩ := info_parts rvoice_info
  have Hlen := Lib.hid hlen
  have Hps : Hid (∀ u ∈ (⟨r, a, p, d, b⟩ :: vs : List El.V), 0 ≤ u.p) := by
    intro u hu
    rcases List.mem_cons.1 hu with rfl | hu
    · exact h0p
    · exact hps u hu
  clear hlen hps
  unfold maxLen at hm
  by_cases h300 : (300 : Int) < (n : Int)
  · go_enter Try.func6, Try.ntmps6
    go_wp2_with (go_at_call 8; refine (works_any _).mono ?_; rintro e w1 ⟨rfl, hb1⟩)
    go_ret
    exact ⟨rfl, ((Below.refl _ _).alloc (Nat.le_refl _) _).trans (hb1.mono (by simp))⟩
  · have hn : n ≤ 300 := by omega
    have hs : ((w.alloc (.cells #[.int .u32 r, .int .u32 a, .int .u8 p, .int .u32 d, .int .u32 b] 33)).alloc (.cells #[.int .u32 r, .int .u32 a, .int .u8 p, .int .u32 d, .int .u32 b] 33)).ownsRow w.heap.size 33 5 (.slice (some ⟨w.heap.size + 1, 0, none⟩) 1 1) 1 (cells ⟨r, a, p, d, b⟩) := by
      have := World.ownsRow_lit (base := w.heap.size) (e := 33) (size := 5) (w.alloc (.cells #[.int .u32 r, .int .u32 a, .int .u8 p, .int .u32 d, .int .u32 b] 33)) #[.int .u32 r, .int .u32 a, .int .u8 p, .int .u32 d, .int .u32 b] 1 (by simp) (by simp [maxLen]) rfl
      rw [World.size_alloc] at this
      exact this
    have HS := Lib.hid hs
    have HR := Lib.hid ((hr.alloc (Nat.le_refl _) (.cells #[.int .u32 r, .int .u32 a, .int .u8 p, .int .u32 d, .int .u32 b] 33)).alloc (by simp) (.cells #[.int .u32 r, .int .u32 a, .int .u8 p, .int .u32 d, .int .u32 b] 33))
    have HB : Hid (Below w.heap.size w ((w.alloc (.cells #[.int .u32 r, .int .u32 a, .int .u8 p, .int .u32 d, .int .u32 b] 33)).alloc (.cells #[.int .u32 r, .int .u32 a, .int .u8 p, .int .u32 d, .int .u32 b] 33))) := ((Below.refl _ w).alloc (Nat.le_refl _) _).alloc (by simp) _
    have HBlk : Hid (Blk ((w.alloc (.cells #[.int .u32 r, .int .u32 a, .int .u8 p, .int .u32 d, .int .u32 b] 33)).alloc (.cells #[.int .u32 r, .int .u32 a, .int .u8 p, .int .u32 d, .int .u32 b] 33)) w.heap.size 33 (cells ⟨r, a, p, d, b⟩).toArray) := (Blk.new w 33 _).alloc _
    clear hs
    go_enter Try.func6, Try.ntmps6
    go_wp2_with (at_builtin; refine wpList_append_any _ rfl (.tmp 18) (.tmp 19) _ rfl w.heap.size 33 i0 _ 5 20 Try.underlying22 hi hz0 hz1 hz2 rfl (by omega) (.slice (some ⟨w.heap.size + 1, 0, none⟩) 1 1) 1 (cells ⟨r, a, p, d, b⟩) rfl HS.out w.heap.size A n cp (vs.flatMap cells) rfl HR.out flat_one (by unfold maxLen; omega) (by omega) (by simp; omega) ?_; intro v1 w1 hown1 hg1 hat1)
    obtain ⟨g, cap, hv1, hgb, hglt1⟩ := hown1.form (by omega)
    subst hv1
    have hblk1 := HBlk.out.grown hg1 (by simp [Value.ownBlock])
    have hbel1 : Below w.heap.size w w1 := HB.out.grown hg1 (by simp; omega) (fun k hk => by simp [Value.ownBlock] at hk; omega)
    have e1 : cells ⟨r, a, p, d, b⟩ ++ vs.flatMap cells = (⟨r, a, p, d, b⟩ :: vs : List El.V).flatMap cells := by simp
    rw [e1, Nat.add_comm 1 n] at hown1
    obtain ⟨L, hL⟩ : ∃ L : List El.V, L = ⟨r, a, p, d, b⟩ :: vs := ⟨_, rfl⟩
    rw [← hL] at hown1 Hps
    have HL := Lib.hid hL
    have HLen : Hid (L.length = n + 1) := by rw [Hid, HL.out, List.length_cons, Hlen.out]
    rw [Nat.add_comm 1 n]
    clear HS HR HB HBlk hat1 hg1 e1 hL hi hz0 hz1 hz2
    have hrL := Reads.of_own hown1
    clear hown1
    go_loopw [6, 7, 8] (fun ch cn i wr => ∃ (k c m q : Nat), k ≤ n + 1 ∧ i = .int .i64 k ∧ ch = .int .i64 c ∧ cn = .int .i64 m ∧ m ≤ k ∧ Hid (Seen L k c m) ∧ wr = w1.drewN q)
      (fun _ _ i _ => n + 1 - (intOf i).toNat)
    case atStart => exact ⟨0, 0, 0, 0, Nat.zero_le _, rfl, rfl, rfl, Nat.le_refl _, Seen.start (by rw [HLen.out]; omega), rfl⟩
    case round =>
      obtain ⟨k, c, m, q, hk, rfl, rfl, rfl, hmk, HSeen, rfl⟩ := hrel
      by_cases hlt : k < n + 1
      · obtain ⟨v, hv⟩ : ∃ v, L[k]? = some v := ⟨_, List.getElem?_eq_getElem (by have := HLen.out; omega)⟩
        obtain ⟨g', off, hA, _, hcell⟩ := hrL.voice hv
        simp only [Option.some.injEq, Addr.mk.injEq] at hA
        obtain ⟨rfl, rfl, -⟩ := hA
        obtain ⟨r', a', p', d', b'⟩ := v
        have c1 := hcell 1 _ rfl
        have c2 := hcell 2 _ rfl
        have c3 := hcell 3 _ rfl
        simp only [Nat.zero_add] at c1 c2 c3
        have Hv := Lib.hid hv
        have hkn : (k : Int) < (n : Int) + 1 := by omega
        clear hcell hv
        by_cases ha' : a' = 0
        · subst ha'
          go_wp2_with (go_at_call 8; refine (works_any _).mono ?_; rintro e w6 ⟨rfl, hb6⟩)
          go_ret
          exact ⟨rfl, (below_drewN hbel1 q).trans (hb6.mono hbel1.size)⟩
        · have ha1' : (a' == 0) = false := by simpa using ha'
          have Ha' := Lib.hid ha'
          clear ha'
          go_wp2_with fail
          go_loopw [9] (fun kk wr' => ∃ (j q' : Nat), j ≤ k ∧ kk = .int .i64 j ∧ Hid (∀ i u, i < j → L[i]? = some u → u.a ≠ a') ∧ wr' = w1.drewN q')
            (fun kk _ => k - (intOf kk).toNat)
          case atStart => exact ⟨0, q, Nat.zero_le _, rfl, by intro i u h; omega, rfl⟩
          case round =>
            obtain ⟨j, q', hj, rfl, HUn, rfl⟩ := hrel
            by_cases hjk : j < k
            · obtain ⟨v2, hv2⟩ : ∃ v, L[j]? = some v := ⟨_, List.getElem?_eq_getElem (by have := HLen.out; omega)⟩
              obtain ⟨g2, off2, hA2, _, hcell2⟩ := hrL.voice hv2
              simp only [Option.some.injEq, Addr.mk.injEq] at hA2
              obtain ⟨rfl, rfl, -⟩ := hA2
              obtain ⟨r2, a2, p2, d2, b2⟩ := v2
              have e1 := hcell2 1 _ rfl
              simp only [Nat.zero_add] at e1
              have Hv2 := Lib.hid hv2
              have hjn : (j : Int) < (n : Int) + 1 := by omega
              clear hcell2 hv2 hrL hr
              by_cases haa : a2 = a'
              · subst haa
                go_wp2_with fail
                go_quiet (fail)
                go_wp2_with (go_at_call 8; refine (works_any _).mono ?_; rintro e w6 ⟨rfl, hb6⟩)
                go_ret
                exact ⟨rfl, (below_drewN hbel1 _).trans (hb6.mono hbel1.size)⟩
              · have haa1 : (a2 == a') = false := by simpa using haa
                have Haa := Lib.hid haa
                clear haa
                go_wp2_with fail
                go_quiet (fail)
                go_wp2_with fail
                go_roundw
                case rel =>
                  refine ⟨j + 1, _, by omega, by go_num, ?_, rfl⟩
                  intro i u hi hu
                  rcases Nat.lt_succ_iff_lt_or_eq.1 hi with h | h
                  · exact HUn.out i u h hu
                  · subst h
                    have := Hv2.out
                    rw [hu] at this
                    injection this with this
                    subst this
                    exact Haa.out
                case measure => simp [intOf]; omega
            · obtain rfl : j = k := by omega
              have hstep := HSeen.out.step Hv.out Ha'.out HUn.out
              have HStep := Lib.hid hstep
              clear hstep hrL hr
              by_cases hp' : 0 < p'
              · have hp1 : decide (0 < p') = true := by simpa using hp'
                by_cases hd' : d' = a'
                · have hsy : says ⟨r', a', p', d', b'⟩ = true := by simp [says, hp', hd']
                  have HN := Lib.hid (HStep.out.2 hsy)
                  have hd1 : (d' == a') = true := by simpa using hd'
                  have hm1 : m < 9223372036854775807 := by omega
                  clear hd' hsy
                  go_wp2_with fail
                  go_quiet (fail)
                  go_wp2_with fail
                  go_roundw
                  case rel => exact ⟨j + 1, j, m + 1, _, by omega, by go_num, rfl, by go_num, by omega, HN, rfl⟩
                  case measure => simp [intOf]; omega
                · have hsy : says ⟨r', a', p', d', b'⟩ = false := by simp [says, hd']
                  have HN := Lib.hid (HStep.out.1 hsy)
                  have hd1 : (d' == a') = false := by simpa using hd'
                  clear hd' hsy
                  go_wp2_with fail
                  go_quiet (fail)
                  go_wp2_with fail
                  go_roundw
                  case rel => exact ⟨j + 1, c, m, _, by omega, by go_num, rfl, rfl, by omega, HN, rfl⟩
                  case measure => simp [intOf]; omega
              · have hsy : says ⟨r', a', p', d', b'⟩ = false := by simp [says, hp']
                have HN := Lib.hid (HStep.out.1 hsy)
                have hp1 : decide (0 < p') = false := by simpa using hp'
                clear hsy
                go_wp2_with fail
                go_quiet (fail)
                go_wp2_with fail
                go_roundw
                case rel => exact ⟨j + 1, c, m, _, by omega, by go_num, rfl, rfl, by omega, HN, rfl⟩
                case measure => simp [intOf]; omega
      · obtain rfl : k = n + 1 := by omega
        by_cases hm1 : m = 1
        · subst hm1
          obtain ⟨x, hx⟩ : ∃ x, L[c]? = some x := ⟨_, List.getElem?_eq_getElem HSeen.out.2.2.2.1⟩
          have hcn : c < n + 1 := by have := HSeen.out.2.2.2.1; have := HLen.out; omega
          have hst : (El.elect ⟨r, a, p, d, b⟩ vs).1 = x.a ∧ (El.elect ⟨r, a, p, d, b⟩ vs).2 ≠ x.a := by
            have h := HSeen.out
            have hp := Hps.out
            rw [HL.out] at h hx hp
            rw [← Hlen.out] at h
            exact h.stays hx hp
          obtain ⟨g', off, hA, _, hcell⟩ := hrL.voice hx
          simp only [Option.some.injEq, Addr.mk.injEq] at hA
          obtain ⟨rfl, rfl, -⟩ := hA
          have x1 := hcell 1 _ rfl
          simp only [Nat.zero_add] at x1
          obtain ⟨⟨ex, ey⟩, ho⟩ : ∃ o, El.elect ⟨r, a, p, d, b⟩ vs = o := ⟨_, rfl⟩
          rw [ho] at hst
          have HO := Lib.hid ho
          have HST := Lib.hid hst
          clear ho hst hcell hx hrL
          have s0 : w1.cell? ⟨w.heap.size, 0, none⟩ = some (.int .u32 r) := hblk1.cell 0
          have s1 : w1.cell? ⟨w.heap.size, 1, none⟩ = some (.int .u32 a) := hblk1.cell 1
          have s2 : w1.cell? ⟨w.heap.size, 2, none⟩ = some (.int .u8 p) := hblk1.cell 2
          have s3 : w1.cell? ⟨w.heap.size, 3, none⟩ = some (.int .u32 d) := hblk1.cell 3
          have s4 : w1.cell? ⟨w.heap.size, 4, none⟩ = some (.int .u32 b) := hblk1.cell 4
          have HRone : Hid (∀ j : Nat, Reads ((w1.alloc (.cells #[.int .u32 r, .int .u32 a, .int .u8 p, .int .u32 d, .int .u32 b] 33)).drewN j) ((w1.alloc (.cells #[.int .u32 r, .int .u32 a, .int .u8 p, .int .u32 d, .int .u32 b] 33)).drewN j).heap.size 5 (some ⟨w1.heap.size, 0, none⟩) 1 ([⟨r, a, p, d, b⟩].flatMap cells)) :=
            fun j => ((Reads.new w1 33 [⟨r, a, p, d, b⟩]).drewN j).more (by simp)
          have HB0 : Hid (∀ j : Nat, Below w.heap.size w ((w1.alloc (.cells #[.int .u32 r, .int .u32 a, .int .u8 p, .int .u32 d, .int .u32 b] 33)).drewN j)) := fun j => below_drewN (hbel1.alloc hbel1.size _) j
          have hB01 : Hid (∀ (j : Nat) (W : World), Below ((w1.alloc (.cells #[.int .u32 r, .int .u32 a, .int .u8 p, .int .u32 d, .int .u32 b] 33)).drewN j).heap.size ((w1.alloc (.cells #[.int .u32 r, .int .u32 a, .int .u8 p, .int .u32 d, .int .u32 b] 33)).drewN j) W → Below w.heap.size w W ∧ Below w1.heap.size w1 W) := fun j W h =>
            ⟨(HB0.out j).trans (h.mono (by have := hbel1.size; simp; omega)), (below_drewN ((Below.refl _ w1).alloc (Nat.le_refl _) _) j).trans (h.mono (by simp))⟩
          have hx1n : Hid (g < w1.heap.size) := hglt1
          have hpos : (c : Int) < (n : Int) + 1 := by omega
          go_wp2_with fail
          go_region_with (first
            | (go_at_call_of 9 (Value.slice A n cp); refine (copied_any _ _ _ vs _ Hlen.out (by omega) ?_).mono ?_; exact (hr.below (hB01.out _ _ hb1).1).more (hB01.out _ _ hb1).1.size; rintro e w4 ⟨v, rfl, hown, hb2⟩; obtain ⟨C, cc2, rfl⟩ := own_slice hown; have hc := Reads.of_own hown; have q0 := (hb2.cell (p := ⟨gg, 0, none⟩) hggl).trans k0; have q1 := (hb2.cell (p := ⟨gg, 1, none⟩) hggl).trans k1; have q2 := (hb2.cell (p := ⟨gg, 2, none⟩) hggl).trans k2; have q3 := (hb2.cell (p := ⟨gg, 3, none⟩) hggl).trans k3; have q4 := (hb2.cell (p := ⟨gg, 4, none⟩) hggl).trans k4)
            | (go_at_call 9; refine (copied_one r a p d b _ _ _ ?_).mono ?_; exact HRone.out _; rintro e w3 ⟨gg, cc, rfl, hggb, ⟨k0, k1, k2, k3, k4⟩, hggl, hb1⟩)
            | (go_at_call 13; refine (elect_any _ _ _ _ _ _ _ _ vs _ Hlen.out (by omega) hc).mono ?_; rintro e w5 ⟨he, hb3⟩; rw [HO.out] at he; subst he))
          all_goals
            have hbG := hB01.out _ _ hb1
            have hbF : Below w.heap.size w w5 := (hbG.1.trans (hb2.mono hbG.1.size)).trans (hb3.mono (by have := hb2.size; have := hbG.1.size; omega))
            have x2 : w5.cell? ⟨g, c * 5 + 1, none⟩ = some (.int .u32 x.a) := by
              have h1 := hbG.2.cell (p := ⟨g, c * 5 + 1, none⟩) hx1n.out
              have h2 := hb2.cell (p := ⟨g, c * 5 + 1, none⟩) (by have := hbG.2.size; have := hx1n.out; simp; omega)
              have h3 := hb3.cell (p := ⟨g, c * 5 + 1, none⟩) (by have := hbG.2.size; have := hb2.size; have := hx1n.out; simp; omega)
              rw [h3, h2, h1]; exact x1
            have y1 : (ex == x.a) = true := by simp [HST.out.1]
            have y2 : (ey != ex) = true := by
              have h1 := HST.out.1
              have h2 := HST.out.2
              simp at h1 h2
              simp [h1, h2]
            go_wp2_with (go_at_call 8; refine (works_any _).mono ?_; rintro e w6 ⟨rfl, hb6⟩)
            go_ret
            exact ⟨rfl, hbF.trans (hb6.mono hbF.size)⟩
        · have hm2 : ((m : Int) != 1) = true := by simp; omega
          go_wp2_with (go_at_call 8; refine (works_any _).mono ?_; rintro e w6 ⟨rfl, hb6⟩)
          go_ret
          exact ⟨rfl, (below_drewN hbel1 q).trans (hb6.mono hbel1.size)⟩

end Go.Proofs.Ytepliggmcpkmdaa
