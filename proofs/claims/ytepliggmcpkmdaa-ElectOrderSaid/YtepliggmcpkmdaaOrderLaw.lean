/- The statement ElectOrder, walked. -/
import Derived.Test.YtepliggmcpkmdaaSomeLaw
import Derived.Deep.DeepCutAuto
namespace Go.Proofs.Ytepliggmcpkmdaa
open Go.RowKit

theorem wf_u8' {n : Int} (h : (Lit.int .u8 n).wf = true) : 0 ≤ n := by
  simp only [Lit.wf, Bool.and_eq_true, decide_eq_true_eq] at h
  have e : IntKind.u8.min = 0 := by decide
  omega

/-- k rounds: nobody's router is the router itself's, no two are alike. -/
def Unlike (r : Int) (L : List El.V) (k : Nat) : Prop :=
  (∀ i u, i < k → L[i]? = some u → u.r ≠ r) ∧ ∀ i j u v, i < j → j < k → L[i]? = some u → L[j]? = some v → u.r ≠ v.r
theorem Unlike.start (r : Int) (L : List El.V) : Unlike r L 0 := ⟨fun i u h => by omega, fun i j _ _ _ h => by omega⟩
theorem Unlike.step {r : Int} {L : List El.V} {k : Nat} {v : El.V} (h : Unlike r L k) (hv : L[k]? = some v) (hr : v.r ≠ r) (hu : ∀ i u, i < k → L[i]? = some u → u.r ≠ v.r) : Unlike r L (k + 1) := by
  refine ⟨fun i u hi hu' => ?_, fun i j u x hij hj hi hx => ?_⟩
  · by_cases e : i = k
    · subst e; rw [hv] at hu'; injection hu' with hu'; subst hu'; exact hr
    · exact h.1 i u (by omega) hu'
  · by_cases e : j = k
    · subst e; rw [hv] at hx; injection hx with hx; subst hx; exact hu i u hij hi
    · exact h.2 i j u x hij (by omega) hi hx
theorem Unlike.turned {self : El.V} {L : List El.V} (h : Unlike self.r L L.length) (k : Nat) : El.elect self (L.drop k ++ L.take k) = El.elect self L := by
  symm
  refine El.elect_perm ?_ ?_ ?_
  · intro u hu
    obtain ⟨i, hi⟩ := List.getElem?_of_mem hu
    exact h.1 i u (List.getElem?_eq_some_iff.1 hi).1 hi
  · intro u hu v hv e
    obtain ⟨i, hi⟩ := List.getElem?_of_mem hu
    obtain ⟨j, hj⟩ := List.getElem?_of_mem hv
    have hil := (List.getElem?_eq_some_iff.1 hi).1
    have hjl := (List.getElem?_eq_some_iff.1 hj).1
    rcases Nat.lt_trichotomy i j with h' | h' | h'
    · exact absurd e (h.2 i j u v h' hjl hi hj)
    · subst h'; rw [hi] at hj; injection hj
    · exact absurd e.symm (h.2 j i v u h' hil hj hi)
  · intro v
    have e := List.take_append_drop k L
    constructor
    · intro hv
      rw [← e] at hv
      rcases List.mem_append.1 hv with hv | hv
      · exact List.mem_append_right _ hv
      · exact List.mem_append_left _ hv
    · intro hv
      rw [← e]
      rcases List.mem_append.1 hv with hv | hv
      · exact List.mem_append_right _ hv
      · exact List.mem_append_left _ hv

theorem flat_take (vs : List El.V) (k : Nat) : (vs.take k).flatMap cells = (vs.flatMap cells).take (k * 5) := by
  induction vs generalizing k with
  | nil => simp
  | cons v vs ih =>
    cases k with
    | zero => simp
    | succ k =>
      rw [List.take_succ_cons, List.flatMap_cons, List.flatMap_cons, ih, List.take_append, cells_length]
      have : (cells v).take ((k + 1) * 5) = cells v := List.take_of_length_le (by rw [cells_length]; omega)
      rw [this, show (k + 1) * 5 - 5 = k * 5 from by omega]
theorem flat_drop (vs : List El.V) (k : Nat) : (vs.drop k).flatMap cells = (vs.flatMap cells).drop (k * 5) := by
  induction vs generalizing k with
  | nil => simp
  | cons v vs ih =>
    cases k with
    | zero => simp
    | succ k =>
      rw [List.drop_succ_cons, List.flatMap_cons, ih, List.drop_append, cells_length]
      have : (cells v).drop ((k + 1) * 5) = [] := List.drop_of_length_le (by rw [cells_length]; omega)
      rw [this, show (k + 1) * 5 - 5 = k * 5 from by omega]; simp
theorem Reads.pre {w : World} {B n k : Nat} {A : Option Addr} {vs : List El.V} (h : Reads w B 5 A n (vs.flatMap cells)) (hk : k ≤ n) : Reads w B 5 A k ((vs.take k).flatMap cells) := by
  have hl := h.1
  rw [flat_length] at hl
  refine ⟨by rw [flat_length, List.length_take]; omega, fun h0 => ?_⟩
  obtain ⟨ad, e, hb, hc⟩ := h.2 (by omega)
  refine ⟨ad, e, hb, fun j u hu => hc j u ?_⟩
  rw [flat_take, List.getElem?_take] at hu
  split at hu
  · exact hu
  · cases hu

set_option maxHeartbeats 4000000 in
set_option maxRecDepth 100000 in
theorem lawOrder_any (r a p d b by_ : Int) (A : Option Addr) (n cp : Nat) (vs : List El.V) (w : World) (hlen : vs.length = n) (hm : n ≤ maxLen) (hwf : (Lit.int .u8 by_).wf = true) (hcp : n ≤ cp) (hr : Reads w w.heap.size 5 A n (vs.flatMap cells)) :
    Calls Try.prog 7 #[.agg #[.int .u32 r, .int .u32 a, .int .u8 p, .int .u32 d, .int .u32 b], .slice A n cp, .int .u8 by_] w fun e w' => e = .returned (.bool true) ∧ Below w.heap.size w w' := by
  have h0 : 0 ≤ by_ := wf_u8' hwf
  have h255 : by_ ≤ 255 := by
    simp only [Lit.wf, Bool.and_eq_true, decide_eq_true_eq] at hwf
    have e : IntKind.u8.max = 255 := by decide
    omega
  obtain ⟨y, rfl⟩ := Int.eq_ofNat_of_zero_le h0
  have hy255 := h255
  clear hwf h255
  obtain ⟨i0, hi, hz0, hz1, hz2⟩ := info_parts voice_info
  have Hlen := Lib.hid hlen
  clear hlen
  unfold maxLen at hm
  have hb0 := (Below.refl w.heap.size w).alloc (Nat.le_refl _) (.cells #[.int .u32 r, .int .u32 a, .int .u8 p, .int .u32 d, .int .u32 b] 33)
  by_cases h300 : (300 : Int) < (n : Int)
  · go_enter Try.func7, Try.ntmps7
    go_wp2_with (go_at_call 8; refine (works_any _).mono ?_; rintro e w1 ⟨rfl, hb1⟩)
    go_ret
    exact ⟨rfl, hb0.trans (hb1.mono (by simp))⟩
  · have hn : n ≤ 300 := by omega
    have h3 : decide ((300 : Int) < (n : Int)) = false := by simpa using h300
    by_cases hn0 : n = 0
    · subst hn0
      go_enter Try.func7, Try.ntmps7
      go_wp2_with (go_at_call 8; refine (works_any _).mono ?_; rintro e w1 ⟨rfl, hb1⟩)
      go_ret
      exact ⟨rfl, hb0.trans (hb1.mono (by simp))⟩
    · have hn1 : ((n : Int) == 0) = false := by simp; omega
      have hnp : 0 < n := by omega
      have HRd := Lib.hid hr
      obtain ⟨ad, hA, hadb, _⟩ := hr.2 hnp
      subst hA
      have hrW := (hr.below hb0).more hb0.size
      clear hn0 hr
      have s0 : (w.alloc (.cells #[.int .u32 r, .int .u32 a, .int .u8 p, .int .u32 d, .int .u32 b] 33)).cell? ⟨w.heap.size, 0, none⟩ = some (.int .u32 r) := (Blk.new w 33 _).cell 0
      go_enter Try.func7, Try.ntmps7
      go_wp2_with fail
      go_loopw [7] (fun i wr => ∃ (k q : Nat), k ≤ n ∧ i = .int .i64 k ∧ Hid (Unlike r vs k) ∧ wr = (w.alloc (.cells #[.int .u32 r, .int .u32 a, .int .u8 p, .int .u32 d, .int .u32 b] 33)).drewN q)
        (fun i _ => n - (intOf i).toNat)
      case atStart => exact ⟨0, 0, Nat.zero_le _, rfl, Unlike.start _ _, rfl⟩
      case round =>
        obtain ⟨k, q, hk, rfl, HU, rfl⟩ := hrel
        by_cases hlt : k < n
        · obtain ⟨v, hv⟩ : ∃ v, vs[k]? = some v := ⟨_, List.getElem?_eq_getElem (by have := Hlen.out; omega)⟩
          obtain ⟨bl, off, hA, hbl, hcell⟩ := hrW.voice hv
          simp only [Option.some.injEq] at hA
          subst hA
          obtain ⟨r', a', p', d', b'⟩ := v
          have c0 : (w.alloc (.cells #[.int .u32 r, .int .u32 a, .int .u8 p, .int .u32 d, .int .u32 b] 33)).cell? ⟨bl, off + k * 5, none⟩ = some (.int .u32 r') := hcell 0 _ rfl
          have Hv := Lib.hid hv
          have hkn : (k : Int) < (n : Int) := by omega
          clear hcell hv
          by_cases hrr : r' = r
          · subst hrr
            clear hrW
            go_wp2_with fail
            go_quiet (fail)
            go_wp2_with (go_at_call 8; refine (works_any _).mono ?_; rintro e w6 ⟨rfl, hb6⟩)
            go_ret
            exact ⟨rfl, (below_drewN hb0 _).trans (hb6.mono (by simp))⟩
          · have hrr1 : (r' == r) = false := by simpa using hrr
            have Hrr := Lib.hid hrr
            clear hrr
            go_wp2_with fail
            go_quiet (fail)
            go_wp2_with fail
            go_loopw [8] (fun kk wr' => ∃ (j q' : Nat), j ≤ k ∧ kk = .int .i64 j ∧ Hid (∀ i u, i < j → vs[i]? = some u → u.r ≠ r') ∧ wr' = (w.alloc (.cells #[.int .u32 r, .int .u32 a, .int .u8 p, .int .u32 d, .int .u32 b] 33)).drewN q')
              (fun kk _ => k - (intOf kk).toNat)
            case atStart => exact ⟨0, q + nq, Nat.zero_le _, rfl, by intro i u h; omega, World.drewN_drewN _ _ _⟩
            case round =>
              obtain ⟨j, q', hj, rfl, HUn, rfl⟩ := hrel
              by_cases hjk : j < k
              · obtain ⟨v2, hv2⟩ : ∃ v, vs[j]? = some v := ⟨_, List.getElem?_eq_getElem (by have := Hlen.out; omega)⟩
                obtain ⟨bl2, off2, hA2, _, hcell2⟩ := hrW.voice hv2
                simp only [Option.some.injEq, Addr.mk.injEq] at hA2
                obtain ⟨rfl, rfl, -⟩ := hA2
                obtain ⟨r2, a2, p2, d2, b2⟩ := v2
                have e0 : (w.alloc (.cells #[.int .u32 r, .int .u32 a, .int .u8 p, .int .u32 d, .int .u32 b] 33)).cell? ⟨bl, off + j * 5, none⟩ = some (.int .u32 r2) := hcell2 0 _ rfl
                have Hv2 := Lib.hid hv2
                have hjn : (j : Int) < (n : Int) := by omega
                clear hcell2 hv2 hrW
                by_cases haa : r2 = r'
                · subst haa
                  go_wp2_with fail
                  go_quiet (fail)
                  go_wp2_with (go_at_call 8; refine (works_any _).mono ?_; rintro e w6 ⟨rfl, hb6⟩)
                  go_ret
                  exact ⟨rfl, (below_drewN hb0 _).trans (hb6.mono (by simp))⟩
                · have haa1 : (r2 == r') = false := by simpa using haa
                  have Haa := Lib.hid haa
                  clear haa
                  go_wp2_with fail
                  go_quiet (fail)
                  go_wp2_with fail
                  go_roundw
                  case rel =>
                    refine ⟨j + 1, _, by omega, by go_num, ?_, rfl⟩
                    intro i u hi hu
                    rcases Nat.lt_succ_iff_lt_or_eq.1 hi with h | h
                    · exact HUn.out i u h hu
                    · subst h
                      have := Hv2.out
                      rw [hu] at this
                      injection this with this
                      subst this
                      exact Haa.out
                  case measure => simp [intOf]; omega
              · obtain rfl : j = k := by omega
                have HStep := Lib.hid (HU.out.step Hv.out Hrr.out HUn.out)
                clear hrW
                go_wp2_with fail
                go_roundw
                case rel => exact ⟨j + 1, _, by omega, by go_num, HStep, rfl⟩
                case measure => simp [intOf]; omega
        · obtain rfl : k = n := by omega
          have hy1 : (y : Int) ≤ 255 := hy255
          have hk1 : (1 : Int) ≤ (k : Int) := by omega
          go_upto_region 13 with fail
          go_cut [9] (fun s wx => ∃ t : Nat, t < k ∧ s = .int .i64 (t : Int) ∧ wx = (w.alloc (.cells #[.int .u32 r, .int .u32 a, .int .u8 p, .int .u32 d, .int .u32 b] 33)).drewN q)
          case first =>
            go_wp2_with fail
            go_meet
            case rel => exact ⟨y % k, Nat.mod_lt _ hnp, by simp, rfl⟩
          case rest =>
          obtain ⟨t, ht, rfl, rfl⟩ := hcut
          have ht1 : (t : Int) < (k : Int) := by omega
          have ht2 : (t : Int) ≤ (k : Int) := by omega
          have ht3 : t ≤ k := by omega
          have ht4 : t ≤ cp := by omega
          have ht5 : ¬ cp = t := by omega
          have hdrop : Reads (w.alloc (.cells #[.int .u32 r, .int .u32 a, .int .u8 p, .int .u32 d, .int .u32 b] 33)) (w.alloc (.cells #[.int .u32 r, .int .u32 a, .int .u8 p, .int .u32 d, .int .u32 b] 33)).heap.size 5 (some (ad.add (t * 5))) (k - t) ((vs.drop t).flatMap cells) := by
            have := hrW.cut (k := t) (cap := cp) ht3 hcp
            rw [if_neg ht5] at this
            rw [flat_drop]
            exact this
          have Hdrop := Lib.hid hdrop
          have HrW := Lib.hid hrW
          have hlD : Hid ((vs.drop t).length = k - t) := by rw [Hid, List.length_drop, Hlen.out]
          have hlT : Hid ((vs.take t).length = t) := by rw [Hid, List.length_take, Hlen.out]; omega
          clear hdrop hrW
          go_wp2_with fail
          refine (copied_any _ _ _ (vs.drop t) _ hlD.out (by omega) (Hdrop.out.drewN _)).mono ?_
          rintro e w1 ⟨v1, rfl, hown1, hb1⟩
          have hbw1 : Below w.heap.size w w1 := (below_drewN hb0 _).trans (hb1.mono (by simp))
          have hS1 := ((Blk.new w 33 (cells ⟨r, a, p, d, b⟩).toArray).drewN q).below hb1 (by simp)
          have hT1 : Hid (Reads w1 w1.heap.size 5 (some ad) t ((vs.take t).flatMap cells)) := ((HRd.out.below hbw1).more hbw1.size).pre ht3
          have hzS1 := hS1.lt
          go_wp2_with fail
          refine (copied_any _ _ _ (vs.take t) _ hlT.out (by omega) hT1.out).mono ?_
          rintro e w2 ⟨v2, rfl, hown2, hb2⟩
          have hbw2 := hbw1.trans (hb2.mono hbw1.size)
          obtain ⟨C2, cc2, rfl⟩ := own_slice hown2
          have hown1' := Lib.hid (ownsRow_below hown1 hb2)
          have hC2 := Lib.hid (Reads.of_own hown2)
          have hS2 := hS1.below hb2 hzS1
          have hbase : Hid ((((w.alloc (.cells #[.int .u32 r, .int .u32 a, .int .u8 p, .int .u32 d, .int .u32 b] 33)).drewN q).heap.size) ≤ w2.heap.size) := by have h1 := hb1.size; have h2 := hb2.size; exact Nat.le_trans h1 h2
          clear hown1 hown2 hS1
          go_wp2_with (at_builtin; refine wpList_append_any _ rfl (.tmp 65) (.tmp 69) _ rfl _ 35 i0 _ 5 20 Try.underlying24 hi hz0 hz1 hz2 rfl (by omega) v1 (k - t) ((vs.drop t).flatMap cells) rfl hown1'.out w2.heap.size C2 t cc2 ((vs.take t).flatMap cells) rfl hC2.out flat_one (by unfold maxLen; omega) (by omega) hbase.out ?_; intro v3 w3 hown3 hg3 hat3)
          have hbw3 : Below w.heap.size w w3 := hbw2.grown hg3 hbw2.size (fun g hg => by have h1 := (hown1'.out.lt g hg).1; simp at h1; omega)
          have hS3 : Blk w3 w.heap.size 33 (cells ⟨r, a, p, d, b⟩).toArray := hS2.grown hg3 (fun e => by have h1 := (hown1'.out.lt _ e.symm).1; simp at h1; omega)
          rw [Nat.sub_add_cancel ht3, ← List.flatMap_append] at hown3
          obtain ⟨C3, cc3, rfl⟩ := own_slice hown3
          have hC3 := Lib.hid (Reads.of_own hown3)
          have HR3 := Lib.hid ((HRd.out.below hbw3).more hbw3.size)
          have hlL : Hid ((vs.drop t ++ vs.take t).length = k) := by rw [Hid, List.length_append, hlD.out, hlT.out]; omega
          have hturn : El.elect ⟨r, a, p, d, b⟩ (vs.drop t ++ vs.take t) = El.elect ⟨r, a, p, d, b⟩ vs := Unlike.turned (self := ⟨r, a, p, d, b⟩) (by rw [Hlen.out]; exact HU.out) t
          obtain ⟨⟨ex, ey⟩, ho⟩ : ∃ o, El.elect ⟨r, a, p, d, b⟩ vs = o := ⟨_, rfl⟩
          rw [ho] at hturn
          have HO := Lib.hid ho
          have HT := Lib.hid hturn
          clear ho hturn hown3 hg3 hat3 hown1' hC2 hS2 hT1 hi hz0 hz1 hz2 s0
          have hzS3 := Lib.hid hS3.lt
          have s0 : w3.cell? ⟨w.heap.size, 0, none⟩ = some (.int .u32 r) := hS3.cell 0
          have s1 : w3.cell? ⟨w.heap.size, 1, none⟩ = some (.int .u32 a) := hS3.cell 1
          have s2 : w3.cell? ⟨w.heap.size, 2, none⟩ = some (.int .u8 p) := hS3.cell 2
          have s3 : w3.cell? ⟨w.heap.size, 3, none⟩ = some (.int .u32 d) := hS3.cell 3
          have s4 : w3.cell? ⟨w.heap.size, 4, none⟩ = some (.int .u32 b) := hS3.cell 4
          have HRone : Hid (∀ j : Nat, Reads ((w3.alloc (.cells #[.int .u32 r, .int .u32 a, .int .u8 p, .int .u32 d, .int .u32 b] 33)).drewN j) ((w3.alloc (.cells #[.int .u32 r, .int .u32 a, .int .u8 p, .int .u32 d, .int .u32 b] 33)).drewN j).heap.size 5 (some ⟨w3.heap.size, 0, none⟩) 1 ([⟨r, a, p, d, b⟩].flatMap cells)) :=
            fun j => ((Reads.new w3 33 [⟨r, a, p, d, b⟩]).drewN j).more (by simp)
          have hB01 : Hid (∀ (j : Nat) (W : World), Below ((w3.alloc (.cells #[.int .u32 r, .int .u32 a, .int .u8 p, .int .u32 d, .int .u32 b] 33)).drewN j).heap.size ((w3.alloc (.cells #[.int .u32 r, .int .u32 a, .int .u8 p, .int .u32 d, .int .u32 b] 33)).drewN j) W → Below w3.heap.size w3 W) := fun j W h =>
            (below_drewN ((Below.refl _ w3).alloc (Nat.le_refl _) _) j).trans (h.mono (by simp))
          go_region_with (first
            | (go_at_call_of 9 (Value.slice (some ad) k cp); refine (copied_any _ _ _ vs _ Hlen.out (by omega) ?_).mono ?_; exact HR3.out.onto (hB01.out 1 _ hb4); rintro e w5 ⟨v, rfl, hown, hb5⟩; obtain ⟨C, cc2, rfl⟩ := own_slice hown; have hc := Reads.of_own hown; have q0 := (hb5.cell (p := ⟨gg, 0, none⟩) hggl).trans k0; have q1 := (hb5.cell (p := ⟨gg, 1, none⟩) hggl).trans k1; have q2 := (hb5.cell (p := ⟨gg, 2, none⟩) hggl).trans k2; have q3 := (hb5.cell (p := ⟨gg, 3, none⟩) hggl).trans k3; have q4 := (hb5.cell (p := ⟨gg, 4, none⟩) hggl).trans k4)
            | (go_at_call 9; refine (copied_one r a p d b _ _ _ ?_).mono ?_; exact HRone.out 1; rintro e w4 ⟨gg, cc, rfl, hggb, ⟨k0, k1, k2, k3, k4⟩, hggl, hb4⟩)
            | (go_at_call 13; refine (elect_any _ _ _ _ _ _ _ _ vs _ Hlen.out (by omega) hc).mono ?_; rintro e w6 ⟨he, hb6⟩; rw [HO.out] at he; subst he))
          all_goals
            have hq4 := hB01.out 1 _ hb4
            have hq5 := hq4.trans (hb5.mono hq4.size)
            have hq6 : Below w3.heap.size w3 w6 := hq5.trans (hb6.mono hq5.size)
            have hS6 := hS3.below hq6 hzS3.out
            have hbw6 := hbw3.trans (hq6.mono hbw3.size)
            have hC6 := Lib.hid (hC3.out.onto hq6)
            clear k0 k1 k2 k3 k4 q0 q1 q2 q3 q4 s0 s1 s2 s3 s4
            have s0 : w6.cell? ⟨w.heap.size, 0, none⟩ = some (.int .u32 r) := hS6.cell 0
            have s1 : w6.cell? ⟨w.heap.size, 1, none⟩ = some (.int .u32 a) := hS6.cell 1
            have s2 : w6.cell? ⟨w.heap.size, 2, none⟩ = some (.int .u8 p) := hS6.cell 2
            have s3 : w6.cell? ⟨w.heap.size, 3, none⟩ = some (.int .u32 d) := hS6.cell 3
            have s4 : w6.cell? ⟨w.heap.size, 4, none⟩ = some (.int .u32 b) := hS6.cell 4
            go_wp2_with fail
            refine (copied_one r a p d b _ _ _ ((Reads.new w6 33 [⟨r, a, p, d, b⟩]).more (by simp))).mono ?_
            rintro e w7 ⟨g7, cc7, rfl, hg7b, ⟨k0, k1, k2, k3, k4⟩, hg7l, hb7⟩
            have hq7 : Below w6.heap.size w6 w7 := ((Below.refl _ w6).alloc (Nat.le_refl _) _).trans (hb7.mono (by simp))
            have hC7 := Lib.hid (hC6.out.onto hq7)
            have hbw7 := hbw6.trans (hq7.mono hbw6.size)
            clear s0 s1 s2 s3 s4
            go_wp2_with fail
            refine (elect_any _ _ _ _ _ _ _ _ (vs.drop t ++ vs.take t) _ hlL.out (by omega) hC7.out).mono ?_
            rintro e w8 ⟨he, hb8⟩
            rw [HT.out] at he
            subst he
            have hbw8 := hbw7.trans (hb8.mono hbw7.size)
            go_wp2_with (go_at_call 8; refine (works_any _).mono ?_; rintro e w9 ⟨rfl, hb9⟩)
            go_ret
            exact ⟨rfl, hbw8.trans (hb9.mono hbw8.size)⟩

end Go.Proofs.Ytepliggmcpkmdaa
