/- The statement ElectSome, walked. -/
import Derived.Test.YtepliggmcpkmdaaOnceLaw
import Derived.Deep.RegionWith
namespace Go.Proofs.Ytepliggmcpkmdaa
open Go.RowKit

/-- May anybody be designated? -/
def anyMay (l : List El.V) : Bool := l.any fun v => decide (0 < v.p)
theorem anyMay_step {vs : List El.V} {k : Nat} {v : El.V} (hv : vs[k]? = some v) : anyMay (vs.take (k + 1)) = (anyMay (vs.take k) || decide (0 < v.p)) := by
  unfold anyMay; rw [take_snoc' hv]; simp
theorem some_of {self : El.V} {vs : List El.V} (h0 : 0 ≤ self.p) (hp : ∀ u ∈ vs, 0 ≤ u.p) : (decide (0 < self.p) || anyMay vs) = true ↔ (self.p ≠ 0 ∨ ∃ v ∈ vs, v.p ≠ 0) := by
  simp only [Bool.or_eq_true, decide_eq_true_eq, anyMay, List.any_eq_true]
  constructor
  · rintro (h | ⟨v, hv, h⟩)
    · left; omega
    · right; exact ⟨v, hv, by omega⟩
  · rintro (h | ⟨v, hv, h⟩)
    · left; omega
    · right; exact ⟨v, hv, by have := hp v hv; omega⟩

/-- The router itself, copied in a row of one. -/
theorem copied_one (r a p d b : Int) (A : Option Addr) (c : Nat) (W : World) (hr : Reads W W.heap.size 5 A 1 ([⟨r, a, p, d, b⟩].flatMap cells)) :
    Calls Try.prog 9 #[.slice A 1 c] W fun e w' => ∃ g cc, e = .returned (.slice (some ⟨g, 0, none⟩) 1 cc) ∧ W.heap.size ≤ g ∧
      (w'.cell? ⟨g, 0, none⟩ = some (.int .u32 r) ∧ w'.cell? ⟨g, 1, none⟩ = some (.int .u32 a) ∧ w'.cell? ⟨g, 2, none⟩ = some (.int .u8 p) ∧ w'.cell? ⟨g, 3, none⟩ = some (.int .u32 d) ∧ w'.cell? ⟨g, 4, none⟩ = some (.int .u32 b)) ∧ g < w'.heap.size ∧ Below W.heap.size W w' := by
  refine (copied_any A 1 c [⟨r, a, p, d, b⟩] W rfl (by omega) hr).mono ?_
  rintro e w' ⟨v, rfl, hown, hb⟩
  obtain ⟨g, cap, hv, hgb, hglt⟩ := hown.form (by omega)
  subst hv
  exact ⟨g, cap, rfl, hgb, ⟨hown.cellAt 0 (by omega), hown.cellAt 1 (by omega), hown.cellAt 2 (by omega), hown.cellAt 3 (by omega), hown.cellAt 4 (by omega)⟩, hglt, hb⟩

set_option maxHeartbeats 2000000 in
theorem lawSome_any (r a p d b : Int) (A : Option Addr) (n cp : Nat) (vs : List El.V) (w : World) (hlen : vs.length = n) (hm : n ≤ maxLen) (h0p : 0 ≤ p) (hps : ∀ u ∈ vs, 0 ≤ u.p) (hr : Reads w w.heap.size 5 A n (vs.flatMap cells)) :
    Calls Try.prog 5 #[.agg #[.int .u32 r, .int .u32 a, .int .u8 p, .int .u32 d, .int .u32 b], .slice A n cp] w fun e w' => e = .returned (.bool true) ∧ Below w.heap.size w w' := by
  have Hlen := Lib.hid hlen
  have Hps := Lib.hid hps
  clear hlen hps
  unfold maxLen at hm
  have hb0 := (Below.refl w.heap.size w).alloc (Nat.le_refl _) (.cells (cells ⟨r, a, p, d, b⟩).toArray 33)
  by_cases h300 : (300 : Int) < (n : Int)
  · go_enter Try.func5, Try.ntmps5
    go_wp2_with (go_at_call 8; refine (works_any _).mono ?_; rintro e w1 ⟨rfl, hb1⟩)
    go_ret
    exact ⟨rfl, hb0.trans (hb1.mono (by simp))⟩
  · have hn : n ≤ 300 := by omega
    have h3 : decide ((300 : Int) < (n : Int)) = false := by simpa using h300
    by_cases ha : a = 0
    · subst ha
      go_enter Try.func5, Try.ntmps5
      go_wp2_with (go_at_call 8; refine (works_any _).mono ?_; rintro e w1 ⟨rfl, hb1⟩)
      go_ret
      exact ⟨rfl, hb0.trans (hb1.mono (by simp))⟩
    · have ha1 : (a == 0) = false := by simpa using ha
      have Ha := Lib.hid ha
      clear ha
      go_enter Try.func5, Try.ntmps5
      go_wp2_with fail
      go_loop [5, 6] (fun s i => ∃ (k : Nat) (sb : Bool), k ≤ n ∧ i = .int .i64 k ∧ s = .bool sb ∧ Hid (sb = (decide (0 < p) || anyMay (vs.take k)) ∧ ∀ u ∈ vs.take k, u.a ≠ 0))
        (fun _ i => n - (intOf i).toNat)
      case atStart => exact ⟨0, decide (0 < p), Nat.zero_le _, rfl, rfl, by simp [anyMay], by simp⟩
      case round =>
        obtain ⟨k, sb, hk, rfl, rfl, HI⟩ := hrel
        by_cases hlt : k < n
        · obtain ⟨v, hv⟩ : ∃ v, vs[k]? = some v := ⟨_, List.getElem?_eq_getElem (by have := Hlen.out; omega)⟩
          obtain ⟨bl, off, hA, hbl, hcell⟩ := hr.voice hv
          subst hA
          obtain ⟨r', a', p', d', b'⟩ := v
          have c1 := hcell 1 _ rfl
          have c2 := hcell 2 _ rfl
          have Hv := Lib.hid hv
          have HS := Lib.hid (anyMay_step hv)
          clear hcell hv hr
          by_cases ha' : a' = 0
          · subst ha'
            go_wp2_with (go_at_call 8; refine (works_any _).mono ?_; rintro e w1 ⟨rfl, hb1⟩)
            go_ret
            exact ⟨rfl, hb0.trans (hb1.mono (by simp))⟩
          · have ha1' : (a' == 0) = false := by simpa using ha'
            have hall : Hid (∀ u ∈ vs.take (k + 1), u.a ≠ 0) := by
              intro u hu
              rw [take_snoc' Hv.out] at hu
              rcases List.mem_append.1 hu with hu | hu
              · exact HI.out.2 u hu
              · rw [List.mem_singleton.1 hu]; exact ha'
            clear ha'
            cases sb
            all_goals
              go_wp2_with fail
              go_round
              case rel => exact ⟨k + 1, _, by omega, by go_num, rfl, by rw [HS.out, ← Bool.or_assoc, ← HI.out.1]; simp, hall.out⟩
              case measure => simp [intOf]; omega
        · obtain rfl : k = n := by omega
          have htk : vs.take k = vs := List.take_of_length_le (by have := Hlen.out; omega)
          have HI2 : Hid (sb = (decide (0 < p) || anyMay vs) ∧ ∀ u ∈ vs, u.a ≠ 0) := by have := HI.out; rw [htk] at this; exact this
          clear htk HI
          go_wp2_with fail
          have HRone : Hid (Reads ((w.alloc (.cells #[.int .u32 r, .int .u32 a, .int .u8 p, .int .u32 d, .int .u32 b] 33)).alloc (.cells #[.int .u32 r, .int .u32 a, .int .u8 p, .int .u32 d, .int .u32 b] 33)).drew ((w.alloc (.cells #[.int .u32 r, .int .u32 a, .int .u8 p, .int .u32 d, .int .u32 b] 33)).alloc (.cells #[.int .u32 r, .int .u32 a, .int .u8 p, .int .u32 d, .int .u32 b] 33)).drew.heap.size 5 (some ⟨w.heap.size + 1, 0, none⟩) 1 ([⟨r, a, p, d, b⟩].flatMap cells)) := by
            have := Reads.new (w.alloc (.cells #[.int .u32 r, .int .u32 a, .int .u8 p, .int .u32 d, .int .u32 b] 33)) 33 [⟨r, a, p, d, b⟩]
            rw [World.size_alloc] at this
            exact this.drew.more (by simp)
          have HB0 : Hid (Below w.heap.size w ((w.alloc (.cells #[.int .u32 r, .int .u32 a, .int .u8 p, .int .u32 d, .int .u32 b] 33)).alloc (.cells #[.int .u32 r, .int .u32 a, .int .u8 p, .int .u32 d, .int .u32 b] 33)).drew) := (((Below.refl _ w).alloc (Nat.le_refl _) _).alloc (by simp) _).drew
          obtain ⟨⟨x, y⟩, ho⟩ : ∃ o, El.elect ⟨r, a, p, d, b⟩ vs = o := ⟨_, rfl⟩
          have HO := Lib.hid ho
          have HX : Hid ((x ≠ 0 ↔ sb = true) ∧ (sb = false → y = 0)) := by
            have h1 := El.elect_some (self := ⟨r, a, p, d, b⟩) (l := vs) Ha.out HI2.out.2
            rw [ho, ← some_of h0p Hps.out, ← HI2.out.1] at h1
            exact ⟨h1.1, fun e => h1.2 (by simp [e])⟩
          clear ho
          go_region_with (first
            | (go_at_call_of 9 (Value.slice A k cp); refine (copied_any _ _ _ vs _ Hlen.out (by omega) ?_).mono ?_; exact (hr.below (HB0.out.trans (hb1.mono (by simp <;> omega)))).more (by have := hb1.size; simp at this; omega); rintro e w2 ⟨v, rfl, hown, hb2⟩; obtain ⟨C, cc2, rfl⟩ := own_slice hown; have hc := Reads.of_own hown; have q0 := (hb2.cell (p := ⟨g, 0, none⟩) hglt).trans k0; have q1 := (hb2.cell (p := ⟨g, 1, none⟩) hglt).trans k1; have q2 := (hb2.cell (p := ⟨g, 2, none⟩) hglt).trans k2; have q3 := (hb2.cell (p := ⟨g, 3, none⟩) hglt).trans k3; have q4 := (hb2.cell (p := ⟨g, 4, none⟩) hglt).trans k4)
            | (go_at_call 9; refine (copied_one r a p d b _ _ _ ?_).mono ?_; exact HRone.out; rintro e w1 ⟨g, cc, rfl, hgb, ⟨k0, k1, k2, k3, k4⟩, hglt, hb1⟩)
            | (go_at_call 13; refine (elect_any _ _ _ _ _ _ _ _ vs _ Hlen.out (by omega) hc).mono ?_; rintro e w3 ⟨he, hb3⟩; rw [HO.out] at he; subst he))
          all_goals
            have hbF : Below w.heap.size w w3 := ((HB0.out.trans (hb1.mono (by simp <;> omega))).trans (hb2.mono (by have := hb1.size; simp at this; omega))).trans (hb3.mono (by have := hb1.size; have := hb2.size; simp at *; omega))
            cases sb
            · have hx : (x != 0) = false := by
                have := HX.out.1
                by_cases h : x = 0
                · simp [h]
                · exact absurd (this.1 h) (by simp)
              have hy : (y == 0) = true := by simp [HX.out.2 rfl]
              go_wp2_with (go_at_call 8; refine (works_any _).mono ?_; rintro e w6 ⟨rfl, hb6⟩)
              go_ret
              exact ⟨rfl, hbF.trans (hb6.mono hbF.size)⟩
            · have hx : (x != 0) = true := by
                have := HX.out.1.2 rfl
                simpa using this
              go_wp2_with (go_at_call 8; refine (works_any _).mono ?_; rintro e w6 ⟨rfl, hb6⟩)
              go_ret
              exact ⟨rfl, hbF.trans (hb6.mono hbF.size)⟩

end Go.Proofs.Ytepliggmcpkmdaa
