import Derived.Test.YtepliggmcpkmdaaLeaf
import Derived.Test.YtepliggmcpkmdaaWords
import Derived.Lib.Hide
namespace Go.Proofs.Ytepliggmcpkmdaa
open Go.RowKit

def may (c : El.V → Bool) (v : El.V) : Bool := v.p != 0 && c v
def bestOf (c : El.V → Bool) (l : List El.V) : El.V := (El.best (may c) l).getD El.V.zero

theorem cells_length (v : El.V) : (cells v).length = 5 := rfl
theorem flat_length (vs : List El.V) : (vs.flatMap cells).length = vs.length * 5 := by
  induction vs with
  | nil => rfl
  | cons v vs ih => rw [List.flatMap_cons, List.length_append, ih, cells_length, List.length_cons]; omega
theorem flat_at (vs : List El.V) : ∀ (k j : Nat) (v : El.V) (u : Value), vs[k]? = some v → (cells v)[j]? = some u → (vs.flatMap cells)[k * 5 + j]? = some u := by
  induction vs with
  | nil => intro k j v u h; simp at h
  | cons x vs ih =>
    intro k j v u h hu
    have hj : j < 5 := by
      rcases Nat.lt_or_ge j 5 with h5 | h5
      · exact h5
      · rw [List.getElem?_eq_none (by rw [cells_length]; exact h5)] at hu; cases hu
    rw [List.flatMap_cons]
    cases k with
    | zero =>
      simp at h; subst h
      rw [List.getElem?_append_left (by rw [cells_length]; omega)]
      simpa using hu
    | succ k =>
      rw [List.getElem?_append_right (by rw [cells_length]; omega), cells_length, show (k + 1) * 5 + j - 5 = k * 5 + j from by omega]
      exact ih k j v u (by simpa using h) hu

/-- The cells of the k-th voice of a slice, as the walk comes to them. -/
theorem Reads.voice {w : World} {B n : Nat} {A : Option Addr} {vs : List El.V} (h : Reads w B 5 A n (vs.flatMap cells)) {k : Nat} {v : El.V} (hv : vs[k]? = some v) :
    ∃ b off, A = some ⟨b, off, none⟩ ∧ b < B ∧ ∀ j u, (cells v)[j]? = some u → w.cell? ⟨b, off + k * 5 + j, none⟩ = some u := by
  have hk : k < vs.length := (List.getElem?_eq_some_iff.1 hv).1
  have hn : n = vs.length := by have := h.1; rw [flat_length] at this; omega
  obtain ⟨ad, rfl, hb, hc⟩ := h.2 (by omega)
  have h0 := hc _ _ (flat_at vs 0 0 _ _ (List.getElem?_eq_getElem (by omega)) rfl)
  have hs := World.cell?_spot h0
  obtain ⟨b, off, sp⟩ := ad
  have hsp : sp = none := by simpa [Addr.add] using hs
  subst hsp
  refine ⟨b, off, rfl, hb, fun j u hu => ?_⟩
  have := hc _ _ (flat_at vs k j v u hv hu)
  rw [Nat.add_assoc]
  unfold Addr.add at this
  split at this
  · rename_i h0; rw [h0]; exact this
  · exact this


theorem take_snoc' {vs : List El.V} {k : Nat} {v : El.V} (hv : vs[k]? = some v) : vs.take (k + 1) = vs.take k ++ [v] := by
  rw [List.take_add_one, hv]; rfl
theorem best_keep {c : El.V → Bool} {vs : List El.V} {k : Nat} {v : El.V} {o : Option El.V} (hv : vs[k]? = some v) (hb : El.best (may c) (vs.take k) = o) (h : may c v = false) : El.best (may c) (vs.take (k + 1)) = o := by
  rw [take_snoc' hv, El.best_snoc, hb]; simp [El.stepB, h]
theorem best_first {c : El.V → Bool} {vs : List El.V} {k : Nat} {v : El.V} (hv : vs[k]? = some v) (hb : El.best (may c) (vs.take k) = none) (h : may c v = true) : El.best (may c) (vs.take (k + 1)) = some v := by
  rw [take_snoc' hv, El.best_snoc, hb]; simp [El.stepB, h]
theorem best_over {c : El.V → Bool} {vs : List El.V} {k : Nat} {v b : El.V} (hv : vs[k]? = some v) (hb : El.best (may c) (vs.take k) = some b) (h : may c v = true) (ho : El.over v b = true) : El.best (may c) (vs.take (k + 1)) = some v := by
  rw [take_snoc' hv, El.best_snoc, hb]; simp [El.stepB, h, ho]
theorem best_under {c : El.V → Bool} {vs : List El.V} {k : Nat} {v b : El.V} (hv : vs[k]? = some v) (hb : El.best (may c) (vs.take k) = some b) (h : may c v = true) (ho : El.over v b = false) : El.best (may c) (vs.take (k + 1)) = some b := by
  rw [take_snoc' hv, El.best_snoc, hb]; simp [El.stepB, h, ho]
theorem over_more {r a p d b r' a' p' d' b' : Int} (h : p' < p) : El.over ⟨r, a, p, d, b⟩ ⟨r', a', p', d', b'⟩ = true := by simp [El.over, h]
theorem over_same {r a p d b r' a' d' b' : Int} (h : r' < r) : El.over ⟨r, a, p, d, b⟩ ⟨r', a', p, d', b'⟩ = true := by simp [El.over, h]
theorem over_no {r a p d b r' a' d' b' : Int} (h : ¬ r' < r) : El.over ⟨r, a, p, d, b⟩ ⟨r', a', p, d', b'⟩ = false := by simp [El.over]; omega
theorem over_less {r a p d b r' a' p' d' b' : Int} (h : p < p') : El.over ⟨r, a, p, d, b⟩ ⟨r', a', p', d', b'⟩ = false := by simp [El.over]; omega

/-- A voice written into a block of five cells. -/
theorem Blk.voice {w : World} {g : Nat} {t : TypeId} {v x : El.V} (h : Blk w g t (cells x).toArray) :
    Blk (((((w.setCell ⟨g, 0, none⟩ (.int .u32 v.r)).setCell ⟨g, 1, none⟩ (.int .u32 v.a)).setCell ⟨g, 2, none⟩ (.int .u8 v.p)).setCell ⟨g, 3, none⟩ (.int .u32 v.d)).setCell ⟨g, 4, none⟩ (.int .u32 v.b)) g t (cells v).toArray :=
  ((((h.set_ 0 _).set_ 1 _).set_ 2 _).set_ 3 _).set_ 4 _
theorem Blk.far5 {w : World} {g g' : Nat} {t : TypeId} {cs : Array Value} (h : Blk w g t cs) (hne : g ≠ g') (a b c d e : Value) :
    Blk (((((w.setCell ⟨g', 0, none⟩ a).setCell ⟨g', 1, none⟩ b).setCell ⟨g', 2, none⟩ c).setCell ⟨g', 3, none⟩ d).setCell ⟨g', 4, none⟩ e) g t cs :=
  ((((h.far hne _).far hne _).far hne _).far hne _).far hne _
theorem below5 {W w : World} {g' B : Nat} (h : Below B W w) (hg : B ≤ g') (a b c d e : Value) :
    Below B W (((((w.setCell ⟨g', 0, none⟩ a).setCell ⟨g', 1, none⟩ b).setCell ⟨g', 2, none⟩ c).setCell ⟨g', 3, none⟩ d).setCell ⟨g', 4, none⟩ e) :=
  ((((h.setCell hg _).setCell hg _).setCell hg _).setCell hg _).setCell hg _


set_option maxHeartbeats 1000000 in
theorem ahead_chief (A : Option Addr) (n cp : Nat) (vs : List El.V) (w : World) (hlen : vs.length = n) (hn : n ≤ 65536)
    (hr : Reads w w.heap.size 5 A n (vs.flatMap cells)) :
    Calls Try.prog 15 #[.slice A n cp, .func (.func 17) #[] #[]] w fun e w' =>
      e = .returned (.tuple #[.agg (cells (bestOf (El.chief) vs)).toArray, .bool (El.best (may (El.chief)) vs).isSome]) ∧ Below w.heap.size w w' := by
  obtain ⟨c, hc⟩ : ∃ c : El.V → Bool, c = (El.chief) := ⟨_, rfl⟩
  have hf : Asks 17 c := by rw [hc]; exact asks_chief
  rw [← hc]
  clear hc
  go_enter Try.func15, Try.ntmps15
  go_wp2
  go_loopw [7, 13] (fun fd i wr => ∃ (k : Nat) (o : Option El.V), k ≤ n ∧ i = .int .i64 k ∧ fd = .bool o.isSome ∧ Hid (El.best (may c) (vs.take k) = o) ∧
      Blk wr w.heap.size 35 (cells El.V.zero).toArray ∧ Blk wr (w.heap.size + 1) 35 (cells (o.getD El.V.zero)).toArray ∧ Below w.heap.size w wr)
    (fun _ i _ => n - (intOf i).toNat)
  case atStart =>
    refine ⟨0, none, Nat.zero_le _, rfl, rfl, rfl, ?_, ?_, ?_⟩
    · exact (Blk.new w 35 _).alloc _
    · have := Blk.new (w.alloc (Obj.cells (cells El.V.zero).toArray 35)) 35 (cells El.V.zero).toArray
      rw [World.size_alloc] at this
      exact this
    · exact (((Below.refl _ w).alloc (Nat.le_refl _) _).alloc (by simp) _)
  case round =>
    obtain ⟨k, o, hk, rfl, rfl, Ho, hB4, hB6, hbel⟩ := hrel
    by_cases hlt : k < n
    · obtain ⟨v, hv⟩ : ∃ v, vs[k]? = some v := ⟨_, List.getElem?_eq_getElem (by omega)⟩
      obtain ⟨bl, off, hA, hbl, hcell⟩ := (hr.below hbel).voice hv
      subst hA
      obtain ⟨r, a, p, d, b⟩ := v
      have c0 : wr.cell? ⟨bl, off + k * 5, none⟩ = some (.int .u32 r) := hcell 0 _ rfl
      have c1 := hcell 1 _ rfl
      have c2 := hcell 2 _ rfl
      have c3 := hcell 3 _ rfl
      have c4 := hcell 4 _ rfl
      have hz := hB6.lt
      clear hcell hr hbl
      have Hv := Lib.hid hv
      have Hlen := Lib.hid hlen
      clear hv hlen
      by_cases hp : p = 0
      · subst hp
        have HK := Lib.hid (best_keep (c := c) Hv.out Ho.out (by simp [may]))
        go_wp2_with fail
        go_roundw
        case rel => exact ⟨k + 1, o, by omega, by go_num, rfl, HK, hB4.alloc _, hB6.alloc _, hbel.alloc hbel.size _⟩
        case measure => simp [intOf]; omega
      · go_wp2_with fail
        refine (hf _ _ _ _ _ _).mono ?_
        rintro e w1 ⟨rfl, hb1⟩
        obtain ⟨hcl, hfz⟩ := bcell hb1
        have hz1 : wr.heap.size + 1 ≤ w1.heap.size := by have := hb1.size; simpa using this
        have hB4' := (hB4.alloc (Obj.cells #[.int .u32 r, .int .u32 a, .int .u8 p, .int .u32 d, .int .u32 b] 35)).below hb1 (by simp; omega)
        have hB6' := (hB6.alloc (Obj.cells #[.int .u32 r, .int .u32 a, .int .u8 p, .int .u32 d, .int .u32 b] 35)).below hb1 (by simp; omega)
        have hbel' : Below w.heap.size w w1 := (hbel.alloc hbel.size (Obj.cells #[.int .u32 r, .int .u32 a, .int .u8 p, .int .u32 d, .int .u32 b] 35)).trans (hb1.mono (by simp; omega))
        cases hcv : c ⟨r, a, p, d, b⟩
        · have HK := Lib.hid (best_keep (c := c) Hv.out Ho.out (by simp [may, hcv]))
          go_wp2_with fail
          go_roundw
          case rel => exact ⟨k + 1, o, by omega, by go_num, rfl, HK, hB4', hB6', hbel'⟩
          case measure => simp [intOf]; omega
        · have hmay : may c ⟨r, a, p, d, b⟩ = true := by simp [may, hcv, hp]
          have Hmay := Lib.hid hmay
          clear hcv hmay
          cases o with
          | none =>
            have HK := Lib.hid (best_first (c := c) Hv.out Ho.out Hmay.out)
            have e0 := hB6'.cell 0
            have e1 := hB6'.cell 1
            have e2 := hB6'.cell 2
            have e3 := hB6'.cell 3
            have e4 := hB6'.cell 4
            have ef := hB6'.frozen
            simp [cells] at e0 e1 e2 e3 e4
            go_wp2_with fail
            go_roundw
            case rel => exact ⟨k + 1, some ⟨r, a, p, d, b⟩, by omega, by go_num, rfl, HK, hB4'.far5 (by omega) _ _ _ _ _, hB6'.voice (v := ⟨r, a, p, d, b⟩), below5 hbel' (by omega) _ _ _ _ _⟩
            case measure => simp [intOf]; omega
          | some x =>
            obtain ⟨r', a', p', d', b'⟩ := x
            have e0 := hB6'.cell 0
            have e1 := hB6'.cell 1
            have e2 := hB6'.cell 2
            have e3 := hB6'.cell 3
            have e4 := hB6'.cell 4
            have ef := hB6'.frozen
            simp [cells] at e0 e1 e2 e3 e4
            by_cases hpp : p' < p
            · have HK := Lib.hid (best_over (c := c) Hv.out Ho.out Hmay.out (over_more hpp))
              go_wp2_with fail
              go_roundw
              case rel => exact ⟨k + 1, some ⟨r, a, p, d, b⟩, by omega, by go_num, rfl, HK, hB4'.far5 (by omega) _ _ _ _ _, hB6'.voice (v := ⟨r, a, p, d, b⟩), below5 hbel' (by omega) _ _ _ _ _⟩
              case measure => simp [intOf]; omega
            · by_cases hpe : p = p'
              · subst hpe
                by_cases hrr : r' < r
                · have HK := Lib.hid (best_over (c := c) Hv.out Ho.out Hmay.out (over_same hrr))
                  go_wp2_with fail
                  go_roundw
                  case rel => exact ⟨k + 1, some ⟨r, a, p, d, b⟩, by omega, by go_num, rfl, HK, hB4'.far5 (by omega) _ _ _ _ _, hB6'.voice (v := ⟨r, a, p, d, b⟩), below5 hbel' (by omega) _ _ _ _ _⟩
                  case measure => simp [intOf]; omega
                · have HK := Lib.hid (best_under (c := c) Hv.out Ho.out Hmay.out (over_no hrr))
                  go_wp2_with fail
                  go_roundw
                  case rel => exact ⟨k + 1, some ⟨r', a', p, d', b'⟩, by omega, by go_num, rfl, HK, hB4', hB6', hbel'⟩
                  case measure => simp [intOf]; omega
              · have hlt2 : p < p' := by omega
                have hne : (p == p') = false := by simpa using hpe
                have HK := Lib.hid (best_under (c := c) Hv.out Ho.out Hmay.out (over_less hlt2))
                go_wp2_with fail
                go_roundw
                case rel => exact ⟨k + 1, some ⟨r', a', p', d', b'⟩, by omega, by go_num, rfl, HK, hB4', hB6', hbel'⟩
                case measure => simp [intOf]; omega
    · have hfin : El.best (may c) vs = o := by rw [← Ho.out, List.take_of_length_le (by omega)]
      have Hfin := Lib.hid hfin
      clear hfin
      have hz := hB6.lt
      generalize hx : o.getD El.V.zero = x at hB6
      have Hx := Lib.hid hx
      clear hx
      obtain ⟨r', a', p', d', b'⟩ := x
      have e0 := hB6.cell 0
      have e1 := hB6.cell 1
      have e2 := hB6.cell 2
      have e3 := hB6.cell 3
      have e4 := hB6.cell 4
      have ef := hB6.frozen
      have g0 := hB4.cell 0
      have g1 := hB4.cell 1
      have g2 := hB4.cell 2
      have g3 := hB4.cell 3
      have g4 := hB4.cell 4
      have gf := hB4.frozen
      simp [cells] at e0 e1 e2 e3 e4 g0 g1 g2 g3 g4
      go_wp2_with fail
      refine bodyPost_ret (v := .tuple #[.agg #[.int .u32 r', .int .u32 a', .int .u8 p', .int .u32 d', .int .u32 b'], .bool o.isSome]) (by simp [results, Try.results15, go_sem, g0, g1, g2, g3, g4]) rfl ⟨?_, below5 hbel (by omega) _ _ _ _ _⟩
      rw [bestOf, Hfin.out, Hx.out]; rfl

set_option maxHeartbeats 1000000 in
theorem ahead_rest (A : Option Addr) (n cp : Nat) (vs : List El.V) (w : World) (hlen : vs.length = n) (hn : n ≤ 65536)
    (hr : Reads w w.heap.size 5 A n (vs.flatMap cells)) :
    Calls Try.prog 15 #[.slice A n cp, .func (.func 19) #[] #[]] w fun e w' =>
      e = .returned (.tuple #[.agg (cells (bestOf (fun v => !El.chief v) vs)).toArray, .bool (El.best (may (fun v => !El.chief v)) vs).isSome]) ∧ Below w.heap.size w w' := by
  obtain ⟨c, hc⟩ : ∃ c : El.V → Bool, c = (fun v => !El.chief v) := ⟨_, rfl⟩
  have hf : Asks 19 c := by rw [hc]; exact asks_rest
  rw [← hc]
  clear hc
  go_enter Try.func15, Try.ntmps15
  go_wp2
  go_loopw [7, 13] (fun fd i wr => ∃ (k : Nat) (o : Option El.V), k ≤ n ∧ i = .int .i64 k ∧ fd = .bool o.isSome ∧ Hid (El.best (may c) (vs.take k) = o) ∧
      Blk wr w.heap.size 35 (cells El.V.zero).toArray ∧ Blk wr (w.heap.size + 1) 35 (cells (o.getD El.V.zero)).toArray ∧ Below w.heap.size w wr)
    (fun _ i _ => n - (intOf i).toNat)
  case atStart =>
    refine ⟨0, none, Nat.zero_le _, rfl, rfl, rfl, ?_, ?_, ?_⟩
    · exact (Blk.new w 35 _).alloc _
    · have := Blk.new (w.alloc (Obj.cells (cells El.V.zero).toArray 35)) 35 (cells El.V.zero).toArray
      rw [World.size_alloc] at this
      exact this
    · exact (((Below.refl _ w).alloc (Nat.le_refl _) _).alloc (by simp) _)
  case round =>
    obtain ⟨k, o, hk, rfl, rfl, Ho, hB4, hB6, hbel⟩ := hrel
    by_cases hlt : k < n
    · obtain ⟨v, hv⟩ : ∃ v, vs[k]? = some v := ⟨_, List.getElem?_eq_getElem (by omega)⟩
      obtain ⟨bl, off, hA, hbl, hcell⟩ := (hr.below hbel).voice hv
      subst hA
      obtain ⟨r, a, p, d, b⟩ := v
      have c0 : wr.cell? ⟨bl, off + k * 5, none⟩ = some (.int .u32 r) := hcell 0 _ rfl
      have c1 := hcell 1 _ rfl
      have c2 := hcell 2 _ rfl
      have c3 := hcell 3 _ rfl
      have c4 := hcell 4 _ rfl
      have hz := hB6.lt
      clear hcell hr hbl
      have Hv := Lib.hid hv
      have Hlen := Lib.hid hlen
      clear hv hlen
      by_cases hp : p = 0
      · subst hp
        have HK := Lib.hid (best_keep (c := c) Hv.out Ho.out (by simp [may]))
        go_wp2_with fail
        go_roundw
        case rel => exact ⟨k + 1, o, by omega, by go_num, rfl, HK, hB4.alloc _, hB6.alloc _, hbel.alloc hbel.size _⟩
        case measure => simp [intOf]; omega
      · go_wp2_with fail
        refine (hf _ _ _ _ _ _).mono ?_
        rintro e w1 ⟨rfl, hb1⟩
        obtain ⟨hcl, hfz⟩ := bcell hb1
        have hz1 : wr.heap.size + 1 ≤ w1.heap.size := by have := hb1.size; simpa using this
        have hB4' := (hB4.alloc (Obj.cells #[.int .u32 r, .int .u32 a, .int .u8 p, .int .u32 d, .int .u32 b] 35)).below hb1 (by simp; omega)
        have hB6' := (hB6.alloc (Obj.cells #[.int .u32 r, .int .u32 a, .int .u8 p, .int .u32 d, .int .u32 b] 35)).below hb1 (by simp; omega)
        have hbel' : Below w.heap.size w w1 := (hbel.alloc hbel.size (Obj.cells #[.int .u32 r, .int .u32 a, .int .u8 p, .int .u32 d, .int .u32 b] 35)).trans (hb1.mono (by simp; omega))
        cases hcv : c ⟨r, a, p, d, b⟩
        · have HK := Lib.hid (best_keep (c := c) Hv.out Ho.out (by simp [may, hcv]))
          go_wp2_with fail
          go_roundw
          case rel => exact ⟨k + 1, o, by omega, by go_num, rfl, HK, hB4', hB6', hbel'⟩
          case measure => simp [intOf]; omega
        · have hmay : may c ⟨r, a, p, d, b⟩ = true := by simp [may, hcv, hp]
          have Hmay := Lib.hid hmay
          clear hcv hmay
          cases o with
          | none =>
            have HK := Lib.hid (best_first (c := c) Hv.out Ho.out Hmay.out)
            have e0 := hB6'.cell 0
            have e1 := hB6'.cell 1
            have e2 := hB6'.cell 2
            have e3 := hB6'.cell 3
            have e4 := hB6'.cell 4
            have ef := hB6'.frozen
            simp [cells] at e0 e1 e2 e3 e4
            go_wp2_with fail
            go_roundw
            case rel => exact ⟨k + 1, some ⟨r, a, p, d, b⟩, by omega, by go_num, rfl, HK, hB4'.far5 (by omega) _ _ _ _ _, hB6'.voice (v := ⟨r, a, p, d, b⟩), below5 hbel' (by omega) _ _ _ _ _⟩
            case measure => simp [intOf]; omega
          | some x =>
            obtain ⟨r', a', p', d', b'⟩ := x
            have e0 := hB6'.cell 0
            have e1 := hB6'.cell 1
            have e2 := hB6'.cell 2
            have e3 := hB6'.cell 3
            have e4 := hB6'.cell 4
            have ef := hB6'.frozen
            simp [cells] at e0 e1 e2 e3 e4
            by_cases hpp : p' < p
            · have HK := Lib.hid (best_over (c := c) Hv.out Ho.out Hmay.out (over_more hpp))
              go_wp2_with fail
              go_roundw
              case rel => exact ⟨k + 1, some ⟨r, a, p, d, b⟩, by omega, by go_num, rfl, HK, hB4'.far5 (by omega) _ _ _ _ _, hB6'.voice (v := ⟨r, a, p, d, b⟩), below5 hbel' (by omega) _ _ _ _ _⟩
              case measure => simp [intOf]; omega
            · by_cases hpe : p = p'
              · subst hpe
                by_cases hrr : r' < r
                · have HK := Lib.hid (best_over (c := c) Hv.out Ho.out Hmay.out (over_same hrr))
                  go_wp2_with fail
                  go_roundw
                  case rel => exact ⟨k + 1, some ⟨r, a, p, d, b⟩, by omega, by go_num, rfl, HK, hB4'.far5 (by omega) _ _ _ _ _, hB6'.voice (v := ⟨r, a, p, d, b⟩), below5 hbel' (by omega) _ _ _ _ _⟩
                  case measure => simp [intOf]; omega
                · have HK := Lib.hid (best_under (c := c) Hv.out Ho.out Hmay.out (over_no hrr))
                  go_wp2_with fail
                  go_roundw
                  case rel => exact ⟨k + 1, some ⟨r', a', p, d', b'⟩, by omega, by go_num, rfl, HK, hB4', hB6', hbel'⟩
                  case measure => simp [intOf]; omega
              · have hlt2 : p < p' := by omega
                have hne : (p == p') = false := by simpa using hpe
                have HK := Lib.hid (best_under (c := c) Hv.out Ho.out Hmay.out (over_less hlt2))
                go_wp2_with fail
                go_roundw
                case rel => exact ⟨k + 1, some ⟨r', a', p', d', b'⟩, by omega, by go_num, rfl, HK, hB4', hB6', hbel'⟩
                case measure => simp [intOf]; omega
    · have hfin : El.best (may c) vs = o := by rw [← Ho.out, List.take_of_length_le (by omega)]
      have Hfin := Lib.hid hfin
      clear hfin
      have hz := hB6.lt
      generalize hx : o.getD El.V.zero = x at hB6
      have Hx := Lib.hid hx
      clear hx
      obtain ⟨r', a', p', d', b'⟩ := x
      have e0 := hB6.cell 0
      have e1 := hB6.cell 1
      have e2 := hB6.cell 2
      have e3 := hB6.cell 3
      have e4 := hB6.cell 4
      have ef := hB6.frozen
      have g0 := hB4.cell 0
      have g1 := hB4.cell 1
      have g2 := hB4.cell 2
      have g3 := hB4.cell 3
      have g4 := hB4.cell 4
      have gf := hB4.frozen
      simp [cells] at e0 e1 e2 e3 e4 g0 g1 g2 g3 g4
      go_wp2_with fail
      refine bodyPost_ret (v := .tuple #[.agg #[.int .u32 r', .int .u32 a', .int .u8 p', .int .u32 d', .int .u32 b'], .bool o.isSome]) (by simp [results, Try.results15, go_sem, g0, g1, g2, g3, g4]) rfl ⟨?_, below5 hbel (by omega) _ _ _ _ _⟩
      rw [bestOf, Hfin.out, Hx.out]; rfl

set_option maxHeartbeats 1000000 in
theorem ahead_backup (A : Option Addr) (n cp : Nat) (vs : List El.V) (w : World) (hlen : vs.length = n) (hn : n ≤ 65536)
    (hr : Reads w w.heap.size 5 A n (vs.flatMap cells)) :
    Calls Try.prog 15 #[.slice A n cp, .func (.func 16) #[] #[]] w fun e w' =>
      e = .returned (.tuple #[.agg (cells (bestOf (fun v => !El.chief v && El.backup v) vs)).toArray, .bool (El.best (may (fun v => !El.chief v && El.backup v)) vs).isSome]) ∧ Below w.heap.size w w' := by
  obtain ⟨c, hc⟩ : ∃ c : El.V → Bool, c = (fun v => !El.chief v && El.backup v) := ⟨_, rfl⟩
  have hf : Asks 16 c := by rw [hc]; exact asks_backup
  rw [← hc]
  clear hc
  go_enter Try.func15, Try.ntmps15
  go_wp2
  go_loopw [7, 13] (fun fd i wr => ∃ (k : Nat) (o : Option El.V), k ≤ n ∧ i = .int .i64 k ∧ fd = .bool o.isSome ∧ Hid (El.best (may c) (vs.take k) = o) ∧
      Blk wr w.heap.size 35 (cells El.V.zero).toArray ∧ Blk wr (w.heap.size + 1) 35 (cells (o.getD El.V.zero)).toArray ∧ Below w.heap.size w wr)
    (fun _ i _ => n - (intOf i).toNat)
  case atStart =>
    refine ⟨0, none, Nat.zero_le _, rfl, rfl, rfl, ?_, ?_, ?_⟩
    · exact (Blk.new w 35 _).alloc _
    · have := Blk.new (w.alloc (Obj.cells (cells El.V.zero).toArray 35)) 35 (cells El.V.zero).toArray
      rw [World.size_alloc] at this
      exact this
    · exact (((Below.refl _ w).alloc (Nat.le_refl _) _).alloc (by simp) _)
  case round =>
    obtain ⟨k, o, hk, rfl, rfl, Ho, hB4, hB6, hbel⟩ := hrel
    by_cases hlt : k < n
    · obtain ⟨v, hv⟩ : ∃ v, vs[k]? = some v := ⟨_, List.getElem?_eq_getElem (by omega)⟩
      obtain ⟨bl, off, hA, hbl, hcell⟩ := (hr.below hbel).voice hv
      subst hA
      obtain ⟨r, a, p, d, b⟩ := v
      have c0 : wr.cell? ⟨bl, off + k * 5, none⟩ = some (.int .u32 r) := hcell 0 _ rfl
      have c1 := hcell 1 _ rfl
      have c2 := hcell 2 _ rfl
      have c3 := hcell 3 _ rfl
      have c4 := hcell 4 _ rfl
      have hz := hB6.lt
      clear hcell hr hbl
      have Hv := Lib.hid hv
      have Hlen := Lib.hid hlen
      clear hv hlen
      by_cases hp : p = 0
      · subst hp
        have HK := Lib.hid (best_keep (c := c) Hv.out Ho.out (by simp [may]))
        go_wp2_with fail
        go_roundw
        case rel => exact ⟨k + 1, o, by omega, by go_num, rfl, HK, hB4.alloc _, hB6.alloc _, hbel.alloc hbel.size _⟩
        case measure => simp [intOf]; omega
      · go_wp2_with fail
        refine (hf _ _ _ _ _ _).mono ?_
        rintro e w1 ⟨rfl, hb1⟩
        obtain ⟨hcl, hfz⟩ := bcell hb1
        have hz1 : wr.heap.size + 1 ≤ w1.heap.size := by have := hb1.size; simpa using this
        have hB4' := (hB4.alloc (Obj.cells #[.int .u32 r, .int .u32 a, .int .u8 p, .int .u32 d, .int .u32 b] 35)).below hb1 (by simp; omega)
        have hB6' := (hB6.alloc (Obj.cells #[.int .u32 r, .int .u32 a, .int .u8 p, .int .u32 d, .int .u32 b] 35)).below hb1 (by simp; omega)
        have hbel' : Below w.heap.size w w1 := (hbel.alloc hbel.size (Obj.cells #[.int .u32 r, .int .u32 a, .int .u8 p, .int .u32 d, .int .u32 b] 35)).trans (hb1.mono (by simp; omega))
        cases hcv : c ⟨r, a, p, d, b⟩
        · have HK := Lib.hid (best_keep (c := c) Hv.out Ho.out (by simp [may, hcv]))
          go_wp2_with fail
          go_roundw
          case rel => exact ⟨k + 1, o, by omega, by go_num, rfl, HK, hB4', hB6', hbel'⟩
          case measure => simp [intOf]; omega
        · have hmay : may c ⟨r, a, p, d, b⟩ = true := by simp [may, hcv, hp]
          have Hmay := Lib.hid hmay
          clear hcv hmay
          cases o with
          | none =>
            have HK := Lib.hid (best_first (c := c) Hv.out Ho.out Hmay.out)
            have e0 := hB6'.cell 0
            have e1 := hB6'.cell 1
            have e2 := hB6'.cell 2
            have e3 := hB6'.cell 3
            have e4 := hB6'.cell 4
            have ef := hB6'.frozen
            simp [cells] at e0 e1 e2 e3 e4
            go_wp2_with fail
            go_roundw
            case rel => exact ⟨k + 1, some ⟨r, a, p, d, b⟩, by omega, by go_num, rfl, HK, hB4'.far5 (by omega) _ _ _ _ _, hB6'.voice (v := ⟨r, a, p, d, b⟩), below5 hbel' (by omega) _ _ _ _ _⟩
            case measure => simp [intOf]; omega
          | some x =>
            obtain ⟨r', a', p', d', b'⟩ := x
            have e0 := hB6'.cell 0
            have e1 := hB6'.cell 1
            have e2 := hB6'.cell 2
            have e3 := hB6'.cell 3
            have e4 := hB6'.cell 4
            have ef := hB6'.frozen
            simp [cells] at e0 e1 e2 e3 e4
            by_cases hpp : p' < p
            · have HK := Lib.hid (best_over (c := c) Hv.out Ho.out Hmay.out (over_more hpp))
              go_wp2_with fail
              go_roundw
              case rel => exact ⟨k + 1, some ⟨r, a, p, d, b⟩, by omega, by go_num, rfl, HK, hB4'.far5 (by omega) _ _ _ _ _, hB6'.voice (v := ⟨r, a, p, d, b⟩), below5 hbel' (by omega) _ _ _ _ _⟩
              case measure => simp [intOf]; omega
            · by_cases hpe : p = p'
              · subst hpe
                by_cases hrr : r' < r
                · have HK := Lib.hid (best_over (c := c) Hv.out Ho.out Hmay.out (over_same hrr))
                  go_wp2_with fail
                  go_roundw
                  case rel => exact ⟨k + 1, some ⟨r, a, p, d, b⟩, by omega, by go_num, rfl, HK, hB4'.far5 (by omega) _ _ _ _ _, hB6'.voice (v := ⟨r, a, p, d, b⟩), below5 hbel' (by omega) _ _ _ _ _⟩
                  case measure => simp [intOf]; omega
                · have HK := Lib.hid (best_under (c := c) Hv.out Ho.out Hmay.out (over_no hrr))
                  go_wp2_with fail
                  go_roundw
                  case rel => exact ⟨k + 1, some ⟨r', a', p, d', b'⟩, by omega, by go_num, rfl, HK, hB4', hB6', hbel'⟩
                  case measure => simp [intOf]; omega
              · have hlt2 : p < p' := by omega
                have hne : (p == p') = false := by simpa using hpe
                have HK := Lib.hid (best_under (c := c) Hv.out Ho.out Hmay.out (over_less hlt2))
                go_wp2_with fail
                go_roundw
                case rel => exact ⟨k + 1, some ⟨r', a', p', d', b'⟩, by omega, by go_num, rfl, HK, hB4', hB6', hbel'⟩
                case measure => simp [intOf]; omega
    · have hfin : El.best (may c) vs = o := by rw [← Ho.out, List.take_of_length_le (by omega)]
      have Hfin := Lib.hid hfin
      clear hfin
      have hz := hB6.lt
      generalize hx : o.getD El.V.zero = x at hB6
      have Hx := Lib.hid hx
      clear hx
      obtain ⟨r', a', p', d', b'⟩ := x
      have e0 := hB6.cell 0
      have e1 := hB6.cell 1
      have e2 := hB6.cell 2
      have e3 := hB6.cell 3
      have e4 := hB6.cell 4
      have ef := hB6.frozen
      have g0 := hB4.cell 0
      have g1 := hB4.cell 1
      have g2 := hB4.cell 2
      have g3 := hB4.cell 3
      have g4 := hB4.cell 4
      have gf := hB4.frozen
      simp [cells] at e0 e1 e2 e3 e4 g0 g1 g2 g3 g4
      go_wp2_with fail
      refine bodyPost_ret (v := .tuple #[.agg #[.int .u32 r', .int .u32 a', .int .u8 p', .int .u32 d', .int .u32 b'], .bool o.isSome]) (by simp [results, Try.results15, go_sem, g0, g1, g2, g3, g4]) rfl ⟨?_, below5 hbel (by omega) _ _ _ _ _⟩
      rw [bestOf, Hfin.out, Hx.out]; rfl

end Go.Proofs.Ytepliggmcpkmdaa
