/- The reference's first: the address of the one that is ahead, of those marked. -/
import Derived.Test.YtepliggmcpkmdaaAhead
import Derived.Deep.QuietTactic
import Derived.BigQuiet
namespace Go.Proofs.Ytepliggmcpkmdaa
open Go.RowKit

theorem Reads.bit {w : World} {B n : Nat} {A : Option Addr} {bs : List Bool} (h : Reads w B 1 A n (bs.map Value.bool)) {k : Nat} {x : Bool} (hx : bs[k]? = some x) :
    ∃ b off, A = some ⟨b, off, none⟩ ∧ b < B ∧ w.cell? ⟨b, off + k, none⟩ = some (.bool x) := by
  have hk : k < bs.length := (List.getElem?_eq_some_iff.1 hx).1
  have hn : n = bs.length := by have := h.1; simp at this; omega
  obtain ⟨ad, rfl, hb, hc⟩ := h.2 (by omega)
  have h0 := hc 0 (.bool bs[0]) (by rw [List.getElem?_map, List.getElem?_eq_getElem (by omega)]; rfl)
  have hs := World.cell?_spot h0
  obtain ⟨b, off, sp⟩ := ad
  have hsp : sp = none := by simpa [Addr.add] using hs
  subst hsp
  refine ⟨b, off, rfl, hb, ?_⟩
  have := hc k (.bool x) (by rw [List.getElem?_map, hx]; rfl)
  unfold Addr.add at this
  split at this
  · rename_i h0; rw [h0]; exact this
  · exact this

theorem bestc_keep {c : El.V → Bool} {vs : List El.V} {k : Nat} {v : El.V} {o : Option El.V} (hv : vs[k]? = some v) (hb : El.best c (vs.take k) = o) (h : c v = false) : El.best c (vs.take (k + 1)) = o := by
  rw [take_snoc' hv, El.best_snoc, hb]; simp [El.stepB, h]
theorem bestc_first {c : El.V → Bool} {vs : List El.V} {k : Nat} {v : El.V} (hv : vs[k]? = some v) (hb : El.best c (vs.take k) = none) (h : c v = true) : El.best c (vs.take (k + 1)) = some v := by
  rw [take_snoc' hv, El.best_snoc, hb]; simp [El.stepB, h]
theorem bestc_over {c : El.V → Bool} {vs : List El.V} {k : Nat} {v b : El.V} (hv : vs[k]? = some v) (hb : El.best c (vs.take k) = some b) (h : c v = true) (ho : El.over v b = true) : El.best c (vs.take (k + 1)) = some v := by
  rw [take_snoc' hv, El.best_snoc, hb]; simp [El.stepB, h, ho]
theorem bestc_under {c : El.V → Bool} {vs : List El.V} {k : Nat} {v b : El.V} (hv : vs[k]? = some v) (hb : El.best c (vs.take k) = some b) (h : c v = true) (ho : El.over v b = false) : El.best c (vs.take (k + 1)) = some b := by
  rw [take_snoc' hv, El.best_snoc, hb]; simp [El.stepB, h, ho]

/-- Where the best one lies: nowhere (-1), or at j. -/
def At (vs : List El.V) (k : Nat) (o : Option El.V) (t : Value) : Prop :=
  (o = none ∧ t = .int .i64 (-1)) ∨ ∃ j v, j < k ∧ vs[j]? = some v ∧ o = some v ∧ t = .int .i64 (j : Int)
theorem At.step {vs : List El.V} {k : Nat} {o : Option El.V} {t : Value} (h : At vs k o t) : At vs (k + 1) o t := by
  rcases h with h | ⟨j, v, hj, h⟩
  · exact .inl h
  · exact .inr ⟨j, v, by omega, h⟩

set_option maxHeartbeats 1000000 in
theorem first_any (c : El.V → Bool) (A M : Option Addr) (n cp cq : Nat) (vs : List El.V) (w : World) (hlen : vs.length = n) (hn : n ≤ 65536)
    (hr : Reads w w.heap.size 5 A n (vs.flatMap cells)) (hm : Reads w w.heap.size 1 M n ((vs.map c).map Value.bool)) :
    Calls Try.prog 22 #[.slice A n cp, .slice M n cq] w fun e w' => e = .returned (.int .u32 (El.addr (El.best c vs))) ∧ ∃ q, w' = w.drewN q := by
  go_enter Try.func22, Try.ntmps22
  go_wp2
  go_loopw [5, 6] (fun t i wr => ∃ (k : Nat) (o : Option El.V) (q : Nat), k ≤ n ∧ i = .int .i64 k ∧ Hid (At vs k o t) ∧ Hid (El.best c (vs.take k) = o) ∧ wr = w.drewN q)
    (fun _ i _ => n - (intOf i).toNat)
  case atStart => exact ⟨0, none, 0, Nat.zero_le _, rfl, .inl ⟨rfl, rfl⟩, rfl, rfl⟩
  case round =>
    obtain ⟨k, o, q, hk, rfl, Hat, Ho, rfl⟩ := hrel
    by_cases hlt : k < n
    · obtain ⟨v, hv⟩ : ∃ v, vs[k]? = some v := ⟨_, List.getElem?_eq_getElem (by omega)⟩
      obtain ⟨bl, off, hA, -, hcell⟩ := hr.voice hv
      obtain ⟨bm, om, hM, -, mcell⟩ := hm.bit (k := k) (x := c v) (by rw [List.getElem?_map, hv]; rfl)
      subst hA hM
      obtain ⟨r, a, p, d, b⟩ := v
      have c0 : w.cell? ⟨bl, off + k * 5, none⟩ = some (.int .u32 r) := hcell 0 _ rfl
      have c2 := hcell 2 _ rfl
      clear hcell
      cases hcv : c ⟨r, a, p, d, b⟩
      · have HK := Lib.hid (bestc_keep (c := c) hv Ho.out hcv)
        rw [hcv] at mcell
        clear hcv hv hr hm hlen
        go_wp2_with fail
        go_roundw
        case rel => exact ⟨k + 1, o, _, by omega, by go_num, Hat.out.step, HK, rfl⟩
        case measure => simp [intOf]; omega
      · rw [hcv] at mcell
        rcases Hat.out with ⟨rfl, rfl⟩ | ⟨j, x, hj, hx, rfl, rfl⟩
        · have HK := Lib.hid (bestc_first (c := c) hv Ho.out hcv)
          have Hv := Lib.hid hv
          clear hcv hv hr hm hlen
          go_wp2_with fail
          go_quiet (fail)
          go_wp2_with fail
          go_roundw
          case rel => exact ⟨k + 1, _, _, by omega, by go_num, .inr ⟨k, _, by omega, Hv.out, rfl, rfl⟩, HK, rfl⟩
          case measure => simp [intOf]; omega
        · obtain ⟨bl', off', hA', -, hcell'⟩ := hr.voice hx
          simp only [Option.some.injEq, Addr.mk.injEq] at hA'
          obtain ⟨rfl, rfl, -⟩ := hA'
          obtain ⟨r', a', p', d', b'⟩ := x
          have e0 : w.cell? ⟨bl, off + j * 5, none⟩ = some (.int .u32 r') := hcell' 0 _ rfl
          have e2 := hcell' 2 _ rfl
          have Hv := Lib.hid hv
          have Hx := Lib.hid hx
          have Hc := Lib.hid hcv
          have hj0 : decide ((j : Int) < 0) = false := by simp
          have hjn : j < n := by omega
          have hjm : (j : Int) < (n : Int) := by omega
          have hkm : (k : Int) < (n : Int) := by omega
          clear hcell' hcv hv hx hr hm hlen
          by_cases hpp : p' < p
          · have hpd : decide (p' < p) = true := by simpa using hpp
            have HK := Lib.hid (bestc_over (c := c) Hv.out Ho.out Hc.out (over_more hpp))
            go_wp2_with fail
            go_quiet (fail)
            go_wp2_with fail
            go_roundw
            case rel => exact ⟨k + 1, _, _, by omega, by go_num, .inr ⟨k, _, by omega, Hv.out, rfl, rfl⟩, HK, rfl⟩
            case measure => simp [intOf]; omega
          · have hpd : decide (p' < p) = false := by simpa using hpp
            by_cases hpe : p = p'
            · subst hpe
              by_cases hrr : r' < r
              · have hrd : decide (r' < r) = true := by simpa using hrr
                have HK := Lib.hid (bestc_over (c := c) Hv.out Ho.out Hc.out (over_same hrr))
                go_wp2_with fail
                go_quiet (fail)
                go_wp2_with fail
                go_roundw
                case rel => exact ⟨k + 1, _, _, by omega, by go_num, .inr ⟨k, _, by omega, Hv.out, rfl, rfl⟩, HK, rfl⟩
                case measure => simp [intOf]; omega
              · have hrd : decide (r' < r) = false := by simpa using hrr
                have HK := Lib.hid (bestc_under (c := c) Hv.out Ho.out Hc.out (over_no hrr))
                go_wp2_with fail
                go_quiet (fail)
                go_wp2_with fail
                go_roundw
                case rel => exact ⟨k + 1, _, _, by omega, by go_num, .inr ⟨j, _, by omega, Hx.out, rfl, rfl⟩, HK, rfl⟩
                case measure => simp [intOf]; omega
            · have hlt2 : p < p' := by omega
              have hne : (p == p') = false := by simpa using hpe
              have HK := Lib.hid (bestc_under (c := c) Hv.out Ho.out Hc.out (over_less hlt2))
              go_wp2_with fail
              go_quiet (fail)
              go_wp2_with fail
              go_roundw
              case rel => exact ⟨k + 1, _, _, by omega, by go_num, .inr ⟨j, _, by omega, Hx.out, rfl, rfl⟩, HK, rfl⟩
              case measure => simp [intOf]; omega
    · have hfin : El.best c vs = o := by rw [← Ho.out, List.take_of_length_le (by omega)]
      rcases Hat.out with ⟨rfl, rfl⟩ | ⟨j, x, hj, hx, rfl, rfl⟩
      · have Hfin := Lib.hid hfin
        clear hfin hr hm hlen
        go_wp2_with fail
        go_ret
        exact ⟨by rw [Hfin.out]; rfl, _, rfl⟩
      · obtain ⟨bl, off, hA, -, hcell⟩ := hr.voice hx
        subst hA
        obtain ⟨r, a, p, d, b⟩ := x
        have c1 := hcell 1 _ rfl
        have Hfin := Lib.hid hfin
        have hjn : j < n := by omega
        clear hcell hx hfin hr hm hlen
        go_wp2_with fail
        go_ret
        exact ⟨by rw [Hfin.out]; rfl, _, rfl⟩

end Go.Proofs.Ytepliggmcpkmdaa
