/- The election of the program: what a list of voices designates (turned from the election's own texts). -/
import Derived.Test.YtgbmhijgpdgdbaaLpMapU
import Derived.Test.YtgbmhijgpdgdbaaLpSeqI
import Derived.Deep.DeepCutAuto
import Derived.WalkSpells
import Derived.WalkLawsBesides
import Derived.Lib.Hide
set_option maxHeartbeats 1000000
namespace Go.Proofs.Ytgbmhijgpdgdbaa
namespace El
structure V where
  r : Int
  a : Int
  p : Int
  d : Int
  b : Int
deriving DecidableEq
def V.zero : V := ⟨0, 0, 0, 0, 0⟩
def chief (v : V) : Bool := v.a != 0 && v.d == v.a
def backup (v : V) : Bool := v.a != 0 && v.b == v.a
def over (v b : V) : Bool := decide (v.p > b.p) || (v.p == b.p && decide (v.r > b.r))
def stepB (c : V → Bool) (acc : Option V) (v : V) : Option V :=
  if c v then (match acc with | none => some v | some b => if over v b then some v else some b) else acc
def best (c : V → Bool) (l : List V) : Option V := l.foldl (stepB c) none
def addr : Option V → Int | none => 0 | some v => v.a
def cC (v : V) : Bool := v.p != 0 && chief v
def cR (v : V) : Bool := v.p != 0 && !chief v
def cB (v : V) : Bool := v.p != 0 && (!chief v && backup v)
def second (l : List V) : Int := if (best cB l).isSome then addr (best cB l) else addr (best cR l)
def once (l : List V) : Int × Int := if (best cC l).isSome then (addr (best cC l), second l) else (second l, second l)
def now (self : V) (isC isB : Bool) : V := { self with d := if isC then self.a else 0, b := if isC then 0 else if isB then self.a else 0 }
def isC (self : V) (o : Int × Int) : Bool := self.a != 0 && o.1 == self.a
def isB (self : V) (o : Int × Int) : Bool := self.a != 0 && o.2 == self.a
def elect (self : V) (others : List V) : Int × Int :=
  let o := once (self :: others)
  if isC self o == chief self && isB self o == backup self then o else once (now self (isC self o) (isB self o) :: others)
theorem snoc_ind {P : List V → Prop} (h0 : P []) (h1 : ∀ l x, P l → P (l ++ [x])) (l : List V) : P l := by
  rw [← List.reverse_reverse l]
  induction l.reverse with
  | nil => exact h0
  | cons x l ih => rw [List.reverse_cons]; exact h1 _ _ ih
theorem best_snoc (c : V → Bool) (l : List V) (v : V) : best c (l ++ [v]) = stepB c (best c l) v := by simp [best]
theorem best_mem (c : V → Bool) (l : List V) : ∀ v, best c l = some v → v ∈ l ∧ c v = true := by
  induction l using snoc_ind with
  | h0 => intro v h; simp [best] at h
  | h1 l x ih =>
    intro v h
    rw [best_snoc] at h
    unfold stepB at h
    by_cases hx : c x = true
    · rw [if_pos hx] at h
      cases hb : best c l with
      | none => rw [hb] at h; injection h with h; subst h; exact ⟨by simp, hx⟩
      | some b =>
        rw [hb] at h
        have := ih b hb
        dsimp only at h
        split at h
        · injection h with h; subst h; exact ⟨by simp, hx⟩
        · injection h with h; subst h; exact ⟨by simp [this.1], this.2⟩
    · rw [if_neg hx] at h
      have := ih v h
      exact ⟨by simp [this.1], this.2⟩
theorem best_none (c : V → Bool) (l : List V) : best c l = none ↔ ∀ v ∈ l, c v = false := by
  induction l using snoc_ind with
  | h0 => simp [best]
  | h1 l x ih =>
    rw [best_snoc]
    unfold stepB
    by_cases hx : c x = true
    · rw [if_pos hx]
      constructor
      · intro h
        cases hb : best c l with
        | none => rw [hb] at h; cases h
        | some b => rw [hb] at h; dsimp only at h; split at h <;> cases h
      · intro h; have := h x (by simp); rw [hx] at this; cases this
    · rw [if_neg hx, ih]
      constructor
      · intro h v hv
        rcases List.mem_append.1 hv with hv | hv
        · exact h v hv
        · rw [List.mem_singleton.1 hv]; simpa using hx
      · intro h v hv; exact h v (List.mem_append_left _ hv)
theorem best_isSome (c : V → Bool) (l : List V) : (best c l).isSome = l.any c := by
  rw [Bool.eq_iff_iff, List.any_eq_true]
  constructor
  · intro h
    obtain ⟨v, hv⟩ := Option.isSome_iff_exists.1 h
    exact ⟨v, best_mem c l v hv⟩
  · rintro ⟨v, hv, hc⟩
    cases hb : best c l with
    | none => have := (best_none c l).1 hb v hv; rw [hc] at this; cases this
    | some b => rfl
end El
namespace Ev
open Go.RowKit
theorem bcell {W w1 : World} (hb : Below W.heap.size W w1) : (∀ b o, b < W.heap.size → w1.cell? ⟨b, o, none⟩ = W.cell? ⟨b, o, none⟩) ∧ (∀ b o, b < W.heap.size → w1.frozen? ⟨b, o, none⟩ = W.frozen? ⟨b, o, none⟩) :=
  ⟨fun b o h => hb.cell (p := ⟨b, o, none⟩) h, fun b o h => hb.frozen (p := ⟨b, o, none⟩) h⟩
def cells (v : El.V) : List Value := [.int .u32 v.r, .int .u32 v.a, .int .u8 v.p, .int .u32 v.d, .int .u32 v.b]
theorem chief_any (r a p d b : Int) (w : World) :
    Calls Try.prog 131 #[.agg #[.int .u32 r, .int .u32 a, .int .u8 p, .int .u32 d, .int .u32 b]] w fun e w' => e = .returned (.bool (El.chief ⟨r, a, p, d, b⟩)) ∧ Below w.heap.size w w' := by
  by_cases h0 : a = 0
  · subst h0
    go_enter Try.func131, Try.ntmps131
    go_wp2
    go_ret
    exact ⟨rfl, (Below.refl _ _).alloc (Nat.le_refl _) _⟩
  · have h2 : (a != 0) = true := by simpa using h0
    go_enter Try.func131, Try.ntmps131
    go_wp2
    go_ret
    exact ⟨by simp [El.chief, h0], (Below.refl _ _).alloc (Nat.le_refl _) _⟩
theorem backup_any (r a p d b : Int) (w : World) :
    Calls Try.prog 132 #[.agg #[.int .u32 r, .int .u32 a, .int .u8 p, .int .u32 d, .int .u32 b]] w fun e w' => e = .returned (.bool (El.backup ⟨r, a, p, d, b⟩)) ∧ Below w.heap.size w w' := by
  by_cases h0 : a = 0
  · subst h0
    go_enter Try.func132, Try.ntmps132
    go_wp2
    go_ret
    exact ⟨rfl, (Below.refl _ _).alloc (Nat.le_refl _) _⟩
  · have h2 : (a != 0) = true := by simpa using h0
    go_enter Try.func132, Try.ntmps132
    go_wp2
    go_ret
    exact ⟨by simp [El.backup, h0], (Below.refl _ _).alloc (Nat.le_refl _) _⟩
def Asks (f : FuncId) (c : El.V → Bool) : Prop := ∀ (r a p d b : Int) (w : World),
    Calls Try.prog f #[.agg #[.int .u32 r, .int .u32 a, .int .u8 p, .int .u32 d, .int .u32 b]] w fun e w' => e = .returned (.bool (c ⟨r, a, p, d, b⟩)) ∧ Below w.heap.size w w'
theorem asks_chief : Asks 131 El.chief := chief_any
theorem asks_rest : Asks 138 (fun v => !El.chief v) := by
  intro r a p d b w
  go_enter Try.func138, Try.ntmps138
  go_wp2_with (go_at_call 131; refine (chief_any _ _ _ _ _ _).mono ?_; rintro e w' ⟨rfl, hb⟩)
  go_ret
  exact ⟨rfl, ((Below.refl _ _).alloc (Nat.le_refl _) _).trans (hb.mono (by simp))⟩
theorem asks_backup : Asks 137 (fun v => !El.chief v && El.backup v) := by
  intro r a p d b w
  cases hc : El.chief ⟨r, a, p, d, b⟩
  all_goals
    go_enter Try.func137, Try.ntmps137
    go_wp2_with fail
    refine (chief_any _ _ _ _ _ _).mono ?_
    rintro e w1 ⟨rfl, hb⟩
    obtain ⟨hcl, hfz⟩ := bcell hb
    have hz : w.heap.size + 1 ≤ w1.heap.size := by have := hb.size; simpa using this
    go_wp2_with fail
  · refine (backup_any _ _ _ _ _ _).mono ?_
    rintro e w2 ⟨rfl, hb2⟩
    go_wp2
    go_ret
    exact ⟨by simp [hc], (((Below.refl _ _).alloc (Nat.le_refl _) _).trans (hb.mono (by simp))).trans (hb2.mono (by omega))⟩
  · go_wp2
    go_ret
    exact ⟨by simp [hc], ((Below.refl _ _).alloc (Nat.le_refl _) _).trans (hb.mono (by simp))⟩
def may (c : El.V → Bool) (v : El.V) : Bool := v.p != 0 && c v
def bestOf (c : El.V → Bool) (l : List El.V) : El.V := (El.best (may c) l).getD El.V.zero
theorem cells_length (v : El.V) : (cells v).length = 5 := rfl
theorem flat_length (vs : List El.V) : (vs.flatMap cells).length = vs.length * 5 := by
  induction vs with
  | nil => rfl
  | cons v vs ih => rw [List.flatMap_cons, List.length_append, ih, cells_length, List.length_cons]; omega
theorem flat_at (vs : List El.V) : ∀ (k j : Nat) (v : El.V) (u : Value), vs[k]? = some v → (cells v)[j]? = some u → (vs.flatMap cells)[k * 5 + j]? = some u := by
  induction vs with
  | nil => intro k j v u h; simp at h
  | cons x vs ih =>
    intro k j v u h hu
    have hj : j < 5 := by
      rcases Nat.lt_or_ge j 5 with h5 | h5
      · exact h5
      · rw [List.getElem?_eq_none (by rw [cells_length]; exact h5)] at hu; cases hu
    rw [List.flatMap_cons]
    cases k with
    | zero =>
      simp at h; subst h
      rw [List.getElem?_append_left (by rw [cells_length]; omega)]
      simpa using hu
    | succ k =>
      rw [List.getElem?_append_right (by rw [cells_length]; omega), cells_length, show (k + 1) * 5 + j - 5 = k * 5 + j from by omega]
      exact ih k j v u (by simpa using h) hu
theorem _root_.Go.Proofs.Ytgbmhijgpdgdbaa.Reads.voice {w : World} {B n : Nat} {A : Option Addr} {vs : List El.V} (h : Reads w B 5 A n (vs.flatMap cells)) {k : Nat} {v : El.V} (hv : vs[k]? = some v) :
    ∃ b off, A = some ⟨b, off, none⟩ ∧ b < B ∧ ∀ j u, (cells v)[j]? = some u → w.cell? ⟨b, off + k * 5 + j, none⟩ = some u := by
  have hk : k < vs.length := (List.getElem?_eq_some_iff.1 hv).1
  have hn : n = vs.length := by have := h.1; rw [flat_length] at this; omega
  obtain ⟨ad, rfl, hb, hc⟩ := h.2 (by omega)
  have h0 := hc _ _ (flat_at vs 0 0 _ _ (List.getElem?_eq_getElem (by omega)) rfl)
  have hs := World.cell?_spot h0
  obtain ⟨b, off, sp⟩ := ad
  have hsp : sp = none := by simpa [Addr.add] using hs
  subst hsp
  refine ⟨b, off, rfl, hb, fun j u hu => ?_⟩
  have := hc _ _ (flat_at vs k j v u hv hu)
  rw [Nat.add_assoc]
  unfold Addr.add at this
  split at this
  · rename_i h0; rw [h0]; exact this
  · exact this
theorem take_snoc' {vs : List El.V} {k : Nat} {v : El.V} (hv : vs[k]? = some v) : vs.take (k + 1) = vs.take k ++ [v] := by
  rw [List.take_add_one, hv]; rfl
theorem best_keep {c : El.V → Bool} {vs : List El.V} {k : Nat} {v : El.V} {o : Option El.V} (hv : vs[k]? = some v) (hb : El.best (may c) (vs.take k) = o) (h : may c v = false) : El.best (may c) (vs.take (k + 1)) = o := by
  rw [take_snoc' hv, El.best_snoc, hb]; simp [El.stepB, h]
theorem best_first {c : El.V → Bool} {vs : List El.V} {k : Nat} {v : El.V} (hv : vs[k]? = some v) (hb : El.best (may c) (vs.take k) = none) (h : may c v = true) : El.best (may c) (vs.take (k + 1)) = some v := by
  rw [take_snoc' hv, El.best_snoc, hb]; simp [El.stepB, h]
theorem best_over {c : El.V → Bool} {vs : List El.V} {k : Nat} {v b : El.V} (hv : vs[k]? = some v) (hb : El.best (may c) (vs.take k) = some b) (h : may c v = true) (ho : El.over v b = true) : El.best (may c) (vs.take (k + 1)) = some v := by
  rw [take_snoc' hv, El.best_snoc, hb]; simp [El.stepB, h, ho]
theorem best_under {c : El.V → Bool} {vs : List El.V} {k : Nat} {v b : El.V} (hv : vs[k]? = some v) (hb : El.best (may c) (vs.take k) = some b) (h : may c v = true) (ho : El.over v b = false) : El.best (may c) (vs.take (k + 1)) = some b := by
  rw [take_snoc' hv, El.best_snoc, hb]; simp [El.stepB, h, ho]
theorem over_more {r a p d b r' a' p' d' b' : Int} (h : p' < p) : El.over ⟨r, a, p, d, b⟩ ⟨r', a', p', d', b'⟩ = true := by simp [El.over, h]
theorem over_same {r a p d b r' a' d' b' : Int} (h : r' < r) : El.over ⟨r, a, p, d, b⟩ ⟨r', a', p, d', b'⟩ = true := by simp [El.over, h]
theorem over_no {r a p d b r' a' d' b' : Int} (h : ¬ r' < r) : El.over ⟨r, a, p, d, b⟩ ⟨r', a', p, d', b'⟩ = false := by simp [El.over]; omega
theorem over_less {r a p d b r' a' p' d' b' : Int} (h : p < p') : El.over ⟨r, a, p, d, b⟩ ⟨r', a', p', d', b'⟩ = false := by simp [El.over]; omega
theorem _root_.Go.Proofs.Ytgbmhijgpdgdbaa.Blk.voice {w : World} {g : Nat} {t : TypeId} {v x : El.V} (h : Blk w g t (cells x).toArray) :
    Blk (((((w.setCell ⟨g, 0, none⟩ (.int .u32 v.r)).setCell ⟨g, 1, none⟩ (.int .u32 v.a)).setCell ⟨g, 2, none⟩ (.int .u8 v.p)).setCell ⟨g, 3, none⟩ (.int .u32 v.d)).setCell ⟨g, 4, none⟩ (.int .u32 v.b)) g t (cells v).toArray :=
  ((((h.set_ 0 _).set_ 1 _).set_ 2 _).set_ 3 _).set_ 4 _
theorem _root_.Go.Proofs.Ytgbmhijgpdgdbaa.Blk.far5 {w : World} {g g' : Nat} {t : TypeId} {cs : Array Value} (h : Blk w g t cs) (hne : g ≠ g') (a b c d e : Value) :
    Blk (((((w.setCell ⟨g', 0, none⟩ a).setCell ⟨g', 1, none⟩ b).setCell ⟨g', 2, none⟩ c).setCell ⟨g', 3, none⟩ d).setCell ⟨g', 4, none⟩ e) g t cs :=
  ((((h.far hne _).far hne _).far hne _).far hne _).far hne _
theorem below5 {W w : World} {g' B : Nat} (h : Below B W w) (hg : B ≤ g') (a b c d e : Value) :
    Below B W (((((w.setCell ⟨g', 0, none⟩ a).setCell ⟨g', 1, none⟩ b).setCell ⟨g', 2, none⟩ c).setCell ⟨g', 3, none⟩ d).setCell ⟨g', 4, none⟩ e) :=
  ((((h.setCell hg _).setCell hg _).setCell hg _).setCell hg _).setCell hg _
theorem ahead_chief (A : Option Addr) (n cp : Nat) (vs : List El.V) (w : World) (hlen : vs.length = n) (hn : n ≤ 65536)
    (hr : Reads w w.heap.size 5 A n (vs.flatMap cells)) :
    Calls Try.prog 136 #[.slice A n cp, .func (.func 131) #[] #[]] w fun e w' =>
      e = .returned (.tuple #[.agg (cells (bestOf (El.chief) vs)).toArray, .bool (El.best (may (El.chief)) vs).isSome]) ∧ Below w.heap.size w w' := by
  obtain ⟨c, hc⟩ : ∃ c : El.V → Bool, c = (El.chief) := ⟨_, rfl⟩
  have hf : Asks 131 c := by rw [hc]; exact asks_chief
  rw [← hc]
  clear hc
  go_enter Try.func136, Try.ntmps136
  go_wp2
  go_loopw [7, 13] (fun fd i wr => ∃ (k : Nat) (o : Option El.V), k ≤ n ∧ i = .int .i64 k ∧ fd = .bool o.isSome ∧ Hid (El.best (may c) (vs.take k) = o) ∧
      Blk wr w.heap.size 178 (cells El.V.zero).toArray ∧ Blk wr (w.heap.size + 1) 178 (cells (o.getD El.V.zero)).toArray ∧ Below w.heap.size w wr)
    (fun _ i _ => n - (intOf i).toNat)
  case atStart =>
    refine ⟨0, none, Nat.zero_le _, rfl, rfl, rfl, ?_, ?_, ?_⟩
    · exact (Blk.new w 178 _).alloc _
    · have := Blk.new (w.alloc (Obj.cells (cells El.V.zero).toArray 178)) 178 (cells El.V.zero).toArray
      rw [World.size_alloc] at this
      exact this
    · exact (((Below.refl _ w).alloc (Nat.le_refl _) _).alloc (by simp) _)
  case round =>
    obtain ⟨k, o, hk, rfl, rfl, Ho, hB4, hB6, hbel⟩ := hrel
    by_cases hlt : k < n
    · obtain ⟨v, hv⟩ : ∃ v, vs[k]? = some v := ⟨_, List.getElem?_eq_getElem (by omega)⟩
      obtain ⟨bl, off, hA, hbl, hcell⟩ := (hr.below hbel).voice hv
      subst hA
      obtain ⟨r, a, p, d, b⟩ := v
      have c0 : wr.cell? ⟨bl, off + k * 5, none⟩ = some (.int .u32 r) := hcell 0 _ rfl
      have c1 := hcell 1 _ rfl
      have c2 := hcell 2 _ rfl
      have c3 := hcell 3 _ rfl
      have c4 := hcell 4 _ rfl
      have hz := hB6.lt
      clear hcell hr hbl
      have Hv := Lib.hid hv
      have Hlen := Lib.hid hlen
      clear hv hlen
      by_cases hp : p = 0
      · subst hp
        have HK := Lib.hid (best_keep (c := c) Hv.out Ho.out (by simp [may]))
        go_wp2_with fail
        go_roundw
        case rel => exact ⟨k + 1, o, by omega, by go_num, rfl, HK, hB4.alloc _, hB6.alloc _, hbel.alloc hbel.size _⟩
        case measure => simp [intOf]; omega
      · go_wp2_with fail
        refine (hf _ _ _ _ _ _).mono ?_
        rintro e w1 ⟨rfl, hb1⟩
        obtain ⟨hcl, hfz⟩ := bcell hb1
        have hz1 : wr.heap.size + 1 ≤ w1.heap.size := by have := hb1.size; simpa using this
        have hB4' := (hB4.alloc (Obj.cells #[.int .u32 r, .int .u32 a, .int .u8 p, .int .u32 d, .int .u32 b] 178)).below hb1 (by simp; omega)
        have hB6' := (hB6.alloc (Obj.cells #[.int .u32 r, .int .u32 a, .int .u8 p, .int .u32 d, .int .u32 b] 178)).below hb1 (by simp; omega)
        have hbel' : Below w.heap.size w w1 := (hbel.alloc hbel.size (Obj.cells #[.int .u32 r, .int .u32 a, .int .u8 p, .int .u32 d, .int .u32 b] 178)).trans (hb1.mono (by simp; omega))
        cases hcv : c ⟨r, a, p, d, b⟩
        · have HK := Lib.hid (best_keep (c := c) Hv.out Ho.out (by simp [may, hcv]))
          go_wp2_with fail
          go_roundw
          case rel => exact ⟨k + 1, o, by omega, by go_num, rfl, HK, hB4', hB6', hbel'⟩
          case measure => simp [intOf]; omega
        · have hmay : may c ⟨r, a, p, d, b⟩ = true := by simp [may, hcv, hp]
          have Hmay := Lib.hid hmay
          clear hcv hmay
          cases o with
          | none =>
            have HK := Lib.hid (best_first (c := c) Hv.out Ho.out Hmay.out)
            have e0 := hB6'.cell 0
            have e1 := hB6'.cell 1
            have e2 := hB6'.cell 2
            have e3 := hB6'.cell 3
            have e4 := hB6'.cell 4
            have ef := hB6'.frozen
            simp [cells] at e0 e1 e2 e3 e4
            go_wp2_with fail
            go_roundw
            case rel => exact ⟨k + 1, some ⟨r, a, p, d, b⟩, by omega, by go_num, rfl, HK, hB4'.far5 (by omega) _ _ _ _ _, hB6'.voice (v := ⟨r, a, p, d, b⟩), below5 hbel' (by omega) _ _ _ _ _⟩
            case measure => simp [intOf]; omega
          | some x =>
            obtain ⟨r', a', p', d', b'⟩ := x
            have e0 := hB6'.cell 0
            have e1 := hB6'.cell 1
            have e2 := hB6'.cell 2
            have e3 := hB6'.cell 3
            have e4 := hB6'.cell 4
            have ef := hB6'.frozen
            simp [cells] at e0 e1 e2 e3 e4
            by_cases hpp : p' < p
            · have HK := Lib.hid (best_over (c := c) Hv.out Ho.out Hmay.out (over_more hpp))
              go_wp2_with fail
              go_roundw
              case rel => exact ⟨k + 1, some ⟨r, a, p, d, b⟩, by omega, by go_num, rfl, HK, hB4'.far5 (by omega) _ _ _ _ _, hB6'.voice (v := ⟨r, a, p, d, b⟩), below5 hbel' (by omega) _ _ _ _ _⟩
              case measure => simp [intOf]; omega
            · by_cases hpe : p = p'
              · subst hpe
                by_cases hrr : r' < r
                · have HK := Lib.hid (best_over (c := c) Hv.out Ho.out Hmay.out (over_same hrr))
                  go_wp2_with fail
                  go_roundw
                  case rel => exact ⟨k + 1, some ⟨r, a, p, d, b⟩, by omega, by go_num, rfl, HK, hB4'.far5 (by omega) _ _ _ _ _, hB6'.voice (v := ⟨r, a, p, d, b⟩), below5 hbel' (by omega) _ _ _ _ _⟩
                  case measure => simp [intOf]; omega
                · have HK := Lib.hid (best_under (c := c) Hv.out Ho.out Hmay.out (over_no hrr))
                  go_wp2_with fail
                  go_roundw
                  case rel => exact ⟨k + 1, some ⟨r', a', p, d', b'⟩, by omega, by go_num, rfl, HK, hB4', hB6', hbel'⟩
                  case measure => simp [intOf]; omega
              · have hlt2 : p < p' := by omega
                have hne : (p == p') = false := by simpa using hpe
                have HK := Lib.hid (best_under (c := c) Hv.out Ho.out Hmay.out (over_less hlt2))
                go_wp2_with fail
                go_roundw
                case rel => exact ⟨k + 1, some ⟨r', a', p', d', b'⟩, by omega, by go_num, rfl, HK, hB4', hB6', hbel'⟩
                case measure => simp [intOf]; omega
    · have hfin : El.best (may c) vs = o := by rw [← Ho.out, List.take_of_length_le (by omega)]
      have Hfin := Lib.hid hfin
      clear hfin
      have hz := hB6.lt
      generalize hx : o.getD El.V.zero = x at hB6
      have Hx := Lib.hid hx
      clear hx
      obtain ⟨r', a', p', d', b'⟩ := x
      have e0 := hB6.cell 0
      have e1 := hB6.cell 1
      have e2 := hB6.cell 2
      have e3 := hB6.cell 3
      have e4 := hB6.cell 4
      have ef := hB6.frozen
      have g0 := hB4.cell 0
      have g1 := hB4.cell 1
      have g2 := hB4.cell 2
      have g3 := hB4.cell 3
      have g4 := hB4.cell 4
      have gf := hB4.frozen
      simp [cells] at e0 e1 e2 e3 e4 g0 g1 g2 g3 g4
      go_wp2_with fail
      refine bodyPost_ret (v := .tuple #[.agg #[.int .u32 r', .int .u32 a', .int .u8 p', .int .u32 d', .int .u32 b'], .bool o.isSome]) (by simp [results, Try.results136, go_sem, g0, g1, g2, g3, g4]) rfl ⟨?_, below5 hbel (by omega) _ _ _ _ _⟩
      rw [bestOf, Hfin.out, Hx.out]; rfl
theorem ahead_rest (A : Option Addr) (n cp : Nat) (vs : List El.V) (w : World) (hlen : vs.length = n) (hn : n ≤ 65536)
    (hr : Reads w w.heap.size 5 A n (vs.flatMap cells)) :
    Calls Try.prog 136 #[.slice A n cp, .func (.func 138) #[] #[]] w fun e w' =>
      e = .returned (.tuple #[.agg (cells (bestOf (fun v => !El.chief v) vs)).toArray, .bool (El.best (may (fun v => !El.chief v)) vs).isSome]) ∧ Below w.heap.size w w' := by
  obtain ⟨c, hc⟩ : ∃ c : El.V → Bool, c = (fun v => !El.chief v) := ⟨_, rfl⟩
  have hf : Asks 138 c := by rw [hc]; exact asks_rest
  rw [← hc]
  clear hc
  go_enter Try.func136, Try.ntmps136
  go_wp2
  go_loopw [7, 13] (fun fd i wr => ∃ (k : Nat) (o : Option El.V), k ≤ n ∧ i = .int .i64 k ∧ fd = .bool o.isSome ∧ Hid (El.best (may c) (vs.take k) = o) ∧
      Blk wr w.heap.size 178 (cells El.V.zero).toArray ∧ Blk wr (w.heap.size + 1) 178 (cells (o.getD El.V.zero)).toArray ∧ Below w.heap.size w wr)
    (fun _ i _ => n - (intOf i).toNat)
  case atStart =>
    refine ⟨0, none, Nat.zero_le _, rfl, rfl, rfl, ?_, ?_, ?_⟩
    · exact (Blk.new w 178 _).alloc _
    · have := Blk.new (w.alloc (Obj.cells (cells El.V.zero).toArray 178)) 178 (cells El.V.zero).toArray
      rw [World.size_alloc] at this
      exact this
    · exact (((Below.refl _ w).alloc (Nat.le_refl _) _).alloc (by simp) _)
  case round =>
    obtain ⟨k, o, hk, rfl, rfl, Ho, hB4, hB6, hbel⟩ := hrel
    by_cases hlt : k < n
    · obtain ⟨v, hv⟩ : ∃ v, vs[k]? = some v := ⟨_, List.getElem?_eq_getElem (by omega)⟩
      obtain ⟨bl, off, hA, hbl, hcell⟩ := (hr.below hbel).voice hv
      subst hA
      obtain ⟨r, a, p, d, b⟩ := v
      have c0 : wr.cell? ⟨bl, off + k * 5, none⟩ = some (.int .u32 r) := hcell 0 _ rfl
      have c1 := hcell 1 _ rfl
      have c2 := hcell 2 _ rfl
      have c3 := hcell 3 _ rfl
      have c4 := hcell 4 _ rfl
      have hz := hB6.lt
      clear hcell hr hbl
      have Hv := Lib.hid hv
      have Hlen := Lib.hid hlen
      clear hv hlen
      by_cases hp : p = 0
      · subst hp
        have HK := Lib.hid (best_keep (c := c) Hv.out Ho.out (by simp [may]))
        go_wp2_with fail
        go_roundw
        case rel => exact ⟨k + 1, o, by omega, by go_num, rfl, HK, hB4.alloc _, hB6.alloc _, hbel.alloc hbel.size _⟩
        case measure => simp [intOf]; omega
      · go_wp2_with fail
        refine (hf _ _ _ _ _ _).mono ?_
        rintro e w1 ⟨rfl, hb1⟩
        obtain ⟨hcl, hfz⟩ := bcell hb1
        have hz1 : wr.heap.size + 1 ≤ w1.heap.size := by have := hb1.size; simpa using this
        have hB4' := (hB4.alloc (Obj.cells #[.int .u32 r, .int .u32 a, .int .u8 p, .int .u32 d, .int .u32 b] 178)).below hb1 (by simp; omega)
        have hB6' := (hB6.alloc (Obj.cells #[.int .u32 r, .int .u32 a, .int .u8 p, .int .u32 d, .int .u32 b] 178)).below hb1 (by simp; omega)
        have hbel' : Below w.heap.size w w1 := (hbel.alloc hbel.size (Obj.cells #[.int .u32 r, .int .u32 a, .int .u8 p, .int .u32 d, .int .u32 b] 178)).trans (hb1.mono (by simp; omega))
        cases hcv : c ⟨r, a, p, d, b⟩
        · have HK := Lib.hid (best_keep (c := c) Hv.out Ho.out (by simp [may, hcv]))
          go_wp2_with fail
          go_roundw
          case rel => exact ⟨k + 1, o, by omega, by go_num, rfl, HK, hB4', hB6', hbel'⟩
          case measure => simp [intOf]; omega
        · have hmay : may c ⟨r, a, p, d, b⟩ = true := by simp [may, hcv, hp]
          have Hmay := Lib.hid hmay
          clear hcv hmay
          cases o with
          | none =>
            have HK := Lib.hid (best_first (c := c) Hv.out Ho.out Hmay.out)
            have e0 := hB6'.cell 0
            have e1 := hB6'.cell 1
            have e2 := hB6'.cell 2
            have e3 := hB6'.cell 3
            have e4 := hB6'.cell 4
            have ef := hB6'.frozen
            simp [cells] at e0 e1 e2 e3 e4
            go_wp2_with fail
            go_roundw
            case rel => exact ⟨k + 1, some ⟨r, a, p, d, b⟩, by omega, by go_num, rfl, HK, hB4'.far5 (by omega) _ _ _ _ _, hB6'.voice (v := ⟨r, a, p, d, b⟩), below5 hbel' (by omega) _ _ _ _ _⟩
            case measure => simp [intOf]; omega
          | some x =>
            obtain ⟨r', a', p', d', b'⟩ := x
            have e0 := hB6'.cell 0
            have e1 := hB6'.cell 1
            have e2 := hB6'.cell 2
            have e3 := hB6'.cell 3
            have e4 := hB6'.cell 4
            have ef := hB6'.frozen
            simp [cells] at e0 e1 e2 e3 e4
            by_cases hpp : p' < p
            · have HK := Lib.hid (best_over (c := c) Hv.out Ho.out Hmay.out (over_more hpp))
              go_wp2_with fail
              go_roundw
              case rel => exact ⟨k + 1, some ⟨r, a, p, d, b⟩, by omega, by go_num, rfl, HK, hB4'.far5 (by omega) _ _ _ _ _, hB6'.voice (v := ⟨r, a, p, d, b⟩), below5 hbel' (by omega) _ _ _ _ _⟩
              case measure => simp [intOf]; omega
            · by_cases hpe : p = p'
              · subst hpe
                by_cases hrr : r' < r
                · have HK := Lib.hid (best_over (c := c) Hv.out Ho.out Hmay.out (over_same hrr))
                  go_wp2_with fail
                  go_roundw
                  case rel => exact ⟨k + 1, some ⟨r, a, p, d, b⟩, by omega, by go_num, rfl, HK, hB4'.far5 (by omega) _ _ _ _ _, hB6'.voice (v := ⟨r, a, p, d, b⟩), below5 hbel' (by omega) _ _ _ _ _⟩
                  case measure => simp [intOf]; omega
                · have HK := Lib.hid (best_under (c := c) Hv.out Ho.out Hmay.out (over_no hrr))
                  go_wp2_with fail
                  go_roundw
                  case rel => exact ⟨k + 1, some ⟨r', a', p, d', b'⟩, by omega, by go_num, rfl, HK, hB4', hB6', hbel'⟩
                  case measure => simp [intOf]; omega
              · have hlt2 : p < p' := by omega
                have hne : (p == p') = false := by simpa using hpe
                have HK := Lib.hid (best_under (c := c) Hv.out Ho.out Hmay.out (over_less hlt2))
                go_wp2_with fail
                go_roundw
                case rel => exact ⟨k + 1, some ⟨r', a', p', d', b'⟩, by omega, by go_num, rfl, HK, hB4', hB6', hbel'⟩
                case measure => simp [intOf]; omega
    · have hfin : El.best (may c) vs = o := by rw [← Ho.out, List.take_of_length_le (by omega)]
      have Hfin := Lib.hid hfin
      clear hfin
      have hz := hB6.lt
      generalize hx : o.getD El.V.zero = x at hB6
      have Hx := Lib.hid hx
      clear hx
      obtain ⟨r', a', p', d', b'⟩ := x
      have e0 := hB6.cell 0
      have e1 := hB6.cell 1
      have e2 := hB6.cell 2
      have e3 := hB6.cell 3
      have e4 := hB6.cell 4
      have ef := hB6.frozen
      have g0 := hB4.cell 0
      have g1 := hB4.cell 1
      have g2 := hB4.cell 2
      have g3 := hB4.cell 3
      have g4 := hB4.cell 4
      have gf := hB4.frozen
      simp [cells] at e0 e1 e2 e3 e4 g0 g1 g2 g3 g4
      go_wp2_with fail
      refine bodyPost_ret (v := .tuple #[.agg #[.int .u32 r', .int .u32 a', .int .u8 p', .int .u32 d', .int .u32 b'], .bool o.isSome]) (by simp [results, Try.results136, go_sem, g0, g1, g2, g3, g4]) rfl ⟨?_, below5 hbel (by omega) _ _ _ _ _⟩
      rw [bestOf, Hfin.out, Hx.out]; rfl
theorem ahead_backup (A : Option Addr) (n cp : Nat) (vs : List El.V) (w : World) (hlen : vs.length = n) (hn : n ≤ 65536)
    (hr : Reads w w.heap.size 5 A n (vs.flatMap cells)) :
    Calls Try.prog 136 #[.slice A n cp, .func (.func 137) #[] #[]] w fun e w' =>
      e = .returned (.tuple #[.agg (cells (bestOf (fun v => !El.chief v && El.backup v) vs)).toArray, .bool (El.best (may (fun v => !El.chief v && El.backup v)) vs).isSome]) ∧ Below w.heap.size w w' := by
  obtain ⟨c, hc⟩ : ∃ c : El.V → Bool, c = (fun v => !El.chief v && El.backup v) := ⟨_, rfl⟩
  have hf : Asks 137 c := by rw [hc]; exact asks_backup
  rw [← hc]
  clear hc
  go_enter Try.func136, Try.ntmps136
  go_wp2
  go_loopw [7, 13] (fun fd i wr => ∃ (k : Nat) (o : Option El.V), k ≤ n ∧ i = .int .i64 k ∧ fd = .bool o.isSome ∧ Hid (El.best (may c) (vs.take k) = o) ∧
      Blk wr w.heap.size 178 (cells El.V.zero).toArray ∧ Blk wr (w.heap.size + 1) 178 (cells (o.getD El.V.zero)).toArray ∧ Below w.heap.size w wr)
    (fun _ i _ => n - (intOf i).toNat)
  case atStart =>
    refine ⟨0, none, Nat.zero_le _, rfl, rfl, rfl, ?_, ?_, ?_⟩
    · exact (Blk.new w 178 _).alloc _
    · have := Blk.new (w.alloc (Obj.cells (cells El.V.zero).toArray 178)) 178 (cells El.V.zero).toArray
      rw [World.size_alloc] at this
      exact this
    · exact (((Below.refl _ w).alloc (Nat.le_refl _) _).alloc (by simp) _)
  case round =>
    obtain ⟨k, o, hk, rfl, rfl, Ho, hB4, hB6, hbel⟩ := hrel
    by_cases hlt : k < n
    · obtain ⟨v, hv⟩ : ∃ v, vs[k]? = some v := ⟨_, List.getElem?_eq_getElem (by omega)⟩
      obtain ⟨bl, off, hA, hbl, hcell⟩ := (hr.below hbel).voice hv
      subst hA
      obtain ⟨r, a, p, d, b⟩ := v
      have c0 : wr.cell? ⟨bl, off + k * 5, none⟩ = some (.int .u32 r) := hcell 0 _ rfl
      have c1 := hcell 1 _ rfl
      have c2 := hcell 2 _ rfl
      have c3 := hcell 3 _ rfl
      have c4 := hcell 4 _ rfl
      have hz := hB6.lt
      clear hcell hr hbl
      have Hv := Lib.hid hv
      have Hlen := Lib.hid hlen
      clear hv hlen
      by_cases hp : p = 0
      · subst hp
        have HK := Lib.hid (best_keep (c := c) Hv.out Ho.out (by simp [may]))
        go_wp2_with fail
        go_roundw
        case rel => exact ⟨k + 1, o, by omega, by go_num, rfl, HK, hB4.alloc _, hB6.alloc _, hbel.alloc hbel.size _⟩
        case measure => simp [intOf]; omega
      · go_wp2_with fail
        refine (hf _ _ _ _ _ _).mono ?_
        rintro e w1 ⟨rfl, hb1⟩
        obtain ⟨hcl, hfz⟩ := bcell hb1
        have hz1 : wr.heap.size + 1 ≤ w1.heap.size := by have := hb1.size; simpa using this
        have hB4' := (hB4.alloc (Obj.cells #[.int .u32 r, .int .u32 a, .int .u8 p, .int .u32 d, .int .u32 b] 178)).below hb1 (by simp; omega)
        have hB6' := (hB6.alloc (Obj.cells #[.int .u32 r, .int .u32 a, .int .u8 p, .int .u32 d, .int .u32 b] 178)).below hb1 (by simp; omega)
        have hbel' : Below w.heap.size w w1 := (hbel.alloc hbel.size (Obj.cells #[.int .u32 r, .int .u32 a, .int .u8 p, .int .u32 d, .int .u32 b] 178)).trans (hb1.mono (by simp; omega))
        cases hcv : c ⟨r, a, p, d, b⟩
        · have HK := Lib.hid (best_keep (c := c) Hv.out Ho.out (by simp [may, hcv]))
          go_wp2_with fail
          go_roundw
          case rel => exact ⟨k + 1, o, by omega, by go_num, rfl, HK, hB4', hB6', hbel'⟩
          case measure => simp [intOf]; omega
        · have hmay : may c ⟨r, a, p, d, b⟩ = true := by simp [may, hcv, hp]
          have Hmay := Lib.hid hmay
          clear hcv hmay
          cases o with
          | none =>
            have HK := Lib.hid (best_first (c := c) Hv.out Ho.out Hmay.out)
            have e0 := hB6'.cell 0
            have e1 := hB6'.cell 1
            have e2 := hB6'.cell 2
            have e3 := hB6'.cell 3
            have e4 := hB6'.cell 4
            have ef := hB6'.frozen
            simp [cells] at e0 e1 e2 e3 e4
            go_wp2_with fail
            go_roundw
            case rel => exact ⟨k + 1, some ⟨r, a, p, d, b⟩, by omega, by go_num, rfl, HK, hB4'.far5 (by omega) _ _ _ _ _, hB6'.voice (v := ⟨r, a, p, d, b⟩), below5 hbel' (by omega) _ _ _ _ _⟩
            case measure => simp [intOf]; omega
          | some x =>
            obtain ⟨r', a', p', d', b'⟩ := x
            have e0 := hB6'.cell 0
            have e1 := hB6'.cell 1
            have e2 := hB6'.cell 2
            have e3 := hB6'.cell 3
            have e4 := hB6'.cell 4
            have ef := hB6'.frozen
            simp [cells] at e0 e1 e2 e3 e4
            by_cases hpp : p' < p
            · have HK := Lib.hid (best_over (c := c) Hv.out Ho.out Hmay.out (over_more hpp))
              go_wp2_with fail
              go_roundw
              case rel => exact ⟨k + 1, some ⟨r, a, p, d, b⟩, by omega, by go_num, rfl, HK, hB4'.far5 (by omega) _ _ _ _ _, hB6'.voice (v := ⟨r, a, p, d, b⟩), below5 hbel' (by omega) _ _ _ _ _⟩
              case measure => simp [intOf]; omega
            · by_cases hpe : p = p'
              · subst hpe
                by_cases hrr : r' < r
                · have HK := Lib.hid (best_over (c := c) Hv.out Ho.out Hmay.out (over_same hrr))
                  go_wp2_with fail
                  go_roundw
                  case rel => exact ⟨k + 1, some ⟨r, a, p, d, b⟩, by omega, by go_num, rfl, HK, hB4'.far5 (by omega) _ _ _ _ _, hB6'.voice (v := ⟨r, a, p, d, b⟩), below5 hbel' (by omega) _ _ _ _ _⟩
                  case measure => simp [intOf]; omega
                · have HK := Lib.hid (best_under (c := c) Hv.out Ho.out Hmay.out (over_no hrr))
                  go_wp2_with fail
                  go_roundw
                  case rel => exact ⟨k + 1, some ⟨r', a', p, d', b'⟩, by omega, by go_num, rfl, HK, hB4', hB6', hbel'⟩
                  case measure => simp [intOf]; omega
              · have hlt2 : p < p' := by omega
                have hne : (p == p') = false := by simpa using hpe
                have HK := Lib.hid (best_under (c := c) Hv.out Ho.out Hmay.out (over_less hlt2))
                go_wp2_with fail
                go_roundw
                case rel => exact ⟨k + 1, some ⟨r', a', p', d', b'⟩, by omega, by go_num, rfl, HK, hB4', hB6', hbel'⟩
                case measure => simp [intOf]; omega
    · have hfin : El.best (may c) vs = o := by rw [← Ho.out, List.take_of_length_le (by omega)]
      have Hfin := Lib.hid hfin
      clear hfin
      have hz := hB6.lt
      generalize hx : o.getD El.V.zero = x at hB6
      have Hx := Lib.hid hx
      clear hx
      obtain ⟨r', a', p', d', b'⟩ := x
      have e0 := hB6.cell 0
      have e1 := hB6.cell 1
      have e2 := hB6.cell 2
      have e3 := hB6.cell 3
      have e4 := hB6.cell 4
      have ef := hB6.frozen
      have g0 := hB4.cell 0
      have g1 := hB4.cell 1
      have g2 := hB4.cell 2
      have g3 := hB4.cell 3
      have g4 := hB4.cell 4
      have gf := hB4.frozen
      simp [cells] at e0 e1 e2 e3 e4 g0 g1 g2 g3 g4
      go_wp2_with fail
      refine bodyPost_ret (v := .tuple #[.agg #[.int .u32 r', .int .u32 a', .int .u8 p', .int .u32 d', .int .u32 b'], .bool o.isSome]) (by simp [results, Try.results136, go_sem, g0, g1, g2, g3, g4]) rfl ⟨?_, below5 hbel (by omega) _ _ _ _ _⟩
      rw [bestOf, Hfin.out, Hx.out]; rfl
theorem _root_.Go.Proofs.Ytgbmhijgpdgdbaa.Reads.onto {w w1 : World} {A : Option Addr} {n size : Nat} {xs : List Value} (h : Reads w w.heap.size size A n xs) (hb : Below w.heap.size w w1) : Reads w1 w1.heap.size size A n xs :=
  (h.below hb).more hb.size
def Ahead (c : El.V → Bool) (vs : List El.V) (w : World) (e : Ending) (w' : World) : Prop :=
  ∃ (x : El.V) (s : Bool), Hid (x = bestOf c vs ∧ s = (El.best (may c) vs).isSome) ∧ e = .returned (.tuple #[.agg #[.int .u32 x.r, .int .u32 x.a, .int .u8 x.p, .int .u32 x.d, .int .u32 x.b], .bool s]) ∧ Below w.heap.size w w'
theorem Ahead.mk {c : El.V → Bool} {vs : List El.V} {w w' : World} {e : Ending} (h : e = .returned (.tuple #[.agg (cells (bestOf c vs)).toArray, .bool (El.best (may c) vs).isSome]) ∧ Below w.heap.size w w') : Ahead c vs w e w' :=
  ⟨_, _, ⟨rfl, rfl⟩, h.1, h.2⟩
theorem sec_of {vs : List El.V} : El.second vs = if (El.best (may (fun v => !El.chief v && El.backup v)) vs).isSome then (bestOf (fun v => !El.chief v && El.backup v) vs).a else (bestOf (fun v => !El.chief v) vs).a := by
  have ha : ∀ o : Option El.V, El.addr o = (o.getD El.V.zero).a := fun o => by cases o <;> rfl
  unfold El.second
  rw [ha, ha]; rfl
theorem once_of {vs : List El.V} : El.once vs = if (El.best (may El.chief) vs).isSome then ((bestOf El.chief vs).a, El.second vs) else (El.second vs, El.second vs) := by
  have ha : ∀ o : Option El.V, El.addr o = (o.getD El.V.zero).a := fun o => by cases o <;> rfl
  unfold El.once
  rw [ha]; rfl
theorem ret_two {a b c d : Int} (h : (a, b) = (c, d)) : Ending.returned (.tuple #[.int .u32 a, .int .u32 b]) = .returned (.tuple #[.int .u32 c, .int .u32 d]) := by
  injection h with h1 h2; rw [h1, h2]
theorem once_any (A : Option Addr) (n cp : Nat) (vs : List El.V) (w : World) (hlen : vs.length = n) (hn : n ≤ 65536) (hr : Reads w w.heap.size 5 A n (vs.flatMap cells)) :
    Calls Try.prog 130 #[.slice A n cp] w fun e w' => e = .returned (.tuple #[.int .u32 (El.once vs).1, .int .u32 (El.once vs).2]) ∧ Below w.heap.size w w' := by
  have Hlen := Lib.hid hlen
  clear hlen
  go_enter Try.func130, Try.ntmps130
  go_wp2_with fail
  refine (ahead_backup _ _ _ vs _ Hlen.out hn hr).mono ?_
  intro e w1 h
  obtain ⟨⟨rB, aB, pB, dB, bB⟩, sB, HB, rfl, hb1⟩ := Ahead.mk h
  clear h
  obtain ⟨hc1, hf1⟩ := bcell hb1
  have hz1 := hb1.size
  have hr1 := hr.onto hb1
  cases sB
  ·
    go_wp2_with fail
    have hbA := hb1.alloc hb1.size (Obj.cells #[.int .u32 rB, .int .u32 aB, .int .u8 pB, .int .u32 dB, .int .u32 bB] 178)
    refine (ahead_rest _ _ _ vs _ Hlen.out hn ((hr.below hbA).more hbA.size)).mono ?_
    intro e w2 h
    obtain ⟨⟨rR, aR, pR, dR, bR⟩, sR, HR, rfl, hb2⟩ := Ahead.mk h
    clear h
    have hS := (Blk.new w1 178 #[.int .u32 rB, .int .u32 aB, .int .u8 pB, .int .u32 dB, .int .u32 bB]).below hb2 (by simp)
    have hz2 := hS.lt
    have hbB := hbA.trans (hb2.mono hbA.size)
    have e0 := hS.cell 0
    have e1 := hS.cell 1
    have e2 := hS.cell 2
    have e3 := hS.cell 3
    have e4 := hS.cell 4
    have ef := hS.frozen
    simp at e0 e1 e2 e3 e4
    go_wp2_with fail
    have hbC := below5 hbB (g' := w1.heap.size) (by omega) (.int .u32 rR) (.int .u32 aR) (.int .u8 pR) (.int .u32 dR) (.int .u32 bR)
    refine (ahead_chief _ _ _ vs _ Hlen.out hn ((hr.below hbC).more hbC.size)).mono ?_
    intro e w3 h
    obtain ⟨⟨rC, aC, pC, dC, bC⟩, sC, HC, rfl, hb3⟩ := Ahead.mk h
    clear h
    have hbD := hbC.trans (hb3.mono hbC.size)
    have hz3 := hb3.size
    simp at hz3
    have hsec : El.second vs = aR := by
      rw [sec_of, ← HB.out.2, ← HR.out.1]; rfl
    have Hsec := Lib.hid hsec
    clear hsec
    cases sC
    · go_wp2_with fail
      go_ret2
      exact ⟨ret_two (by rw [once_of, ← HC.out.2, Hsec.out]; rfl), hbD.alloc hbD.size _⟩
    · go_wp2_with fail
      go_ret2
      exact ⟨ret_two (by rw [once_of, ← HC.out.2, ← HC.out.1, Hsec.out]; rfl), hbD.alloc hbD.size _⟩
  ·
    go_wp2_with fail
    have hbA := hb1.alloc hb1.size (Obj.cells #[.int .u32 rB, .int .u32 aB, .int .u8 pB, .int .u32 dB, .int .u32 bB] 178)
    refine (ahead_chief _ _ _ vs _ Hlen.out hn ((hr.below hbA).more hbA.size)).mono ?_
    intro e w3 h
    obtain ⟨⟨rC, aC, pC, dC, bC⟩, sC, HC, rfl, hb3⟩ := Ahead.mk h
    clear h
    have hbD := hbA.trans (hb3.mono hbA.size)
    have hz3 := hb3.size
    simp at hz3
    have hsec : El.second vs = aB := by
      rw [sec_of, ← HB.out.2, ← HB.out.1]; rfl
    have Hsec := Lib.hid hsec
    clear hsec
    cases sC
    · go_wp2_with fail
      go_ret2
      exact ⟨ret_two (by rw [once_of, ← HC.out.2, Hsec.out]; rfl), hbD.alloc hbD.size _⟩
    · go_wp2_with fail
      go_ret2
      exact ⟨ret_two (by rw [once_of, ← HC.out.2, ← HC.out.1, Hsec.out]; rfl), hbD.alloc hbD.size _⟩
theorem voice_info : (Try.prog.info? 178).map (fun i => (i.zero, i.size, i.bytes)) = some (some (.agg #[.int .u32 0, .int .u32 0, .int .u8 0, .int .u32 0, .int .u32 0]), 5, 20) := by kernel_rfl
theorem flat_one {vs : List El.V} : ∀ u ∈ vs.flatMap cells, u.oneCell' = true := by
  intro u hu
  obtain ⟨v, _, hv⟩ := List.mem_flatMap.1 hu
  simp [cells] at hv
  rcases hv with h | h | h | h | h <;> subst h <;> rfl
theorem ownsRow_below {w w' : World} {base : Nat} {e : TypeId} {size : Nat} {v : Value} {n : Nat} {xs : List Value} (h : w.ownsRow base e size v n xs) (hb : Below w.heap.size w w') : w'.ownsRow base e size v n xs := by
  obtain ⟨h1, h2⟩ := h
  refine ⟨h1, ?_⟩
  rcases h2 with h2 | ⟨g, cap, cur, hv, hg, hh, r⟩
  · exact .inl h2
  · exact .inr ⟨g, cap, cur, hv, hg, (hb.block g (Array.getElem?_eq_some_iff.1 hh).1).trans hh, r⟩
theorem ownsRow_far {w : World} {base g n cap : Nat} {e : TypeId} {size : Nat} {xs : List Value} (h : w.ownsRow base e size (.slice (some ⟨g, 0, none⟩) n cap) n xs) {q : Addr} (hq : g ≠ q.block) (u : Value) :
    (w.setCell q u).ownsRow base e size (.slice (some ⟨g, 0, none⟩) n cap) n xs := by
  obtain ⟨h1, h2⟩ := h
  refine ⟨h1, ?_⟩
  rcases h2 with h2 | ⟨g', cap', cur, hv, hg, hh, r⟩
  · exact .inl h2
  · have e : g = g' := by
      simp only [Value.slice.injEq, Option.some.injEq, Addr.mk.injEq, and_true, true_and] at hv
      exact hv.1
    subst e
    exact .inr ⟨g, cap', cur, hv, hg, (Below.heap_setCell w q u g hq).trans hh, r⟩
theorem own_first {w : World} {base g n cap : Nat} {x v : El.V} {ys : List Value} (h : w.ownsRow base 178 5 (.slice (some ⟨g, 0, none⟩) n cap) n (cells x ++ ys)) :
    (((((w.setCell ⟨g, 0, none⟩ (.int .u32 v.r)).setCell ⟨g, 1, none⟩ (.int .u32 v.a)).setCell ⟨g, 2, none⟩ (.int .u8 v.p)).setCell ⟨g, 3, none⟩ (.int .u32 v.d)).setCell ⟨g, 4, none⟩ (.int .u32 v.b)).ownsRow base 178 5 (.slice (some ⟨g, 0, none⟩) n cap) n (cells v ++ ys) :=
  ((((h.stored 0 _).1.stored 1 _).1.stored 2 _).1.stored 3 _).1.stored 4 _ |>.1
theorem now_chief (r a p d b : Int) (o : Int × Int) (b' : Int) : El.chief ⟨r, a, p, if El.isC ⟨r, a, p, d, b⟩ o then a else 0, b'⟩ = El.isC ⟨r, a, p, d, b⟩ o := by
  by_cases ha : a = 0
  · subst ha; simp [El.chief, El.isC]
  · cases h : El.isC ⟨r, a, p, d, b⟩ o
    · simp [El.chief, ha]; exact fun e => ha e.symm
    · simp [El.chief, ha]
theorem now_backup (r a p d b : Int) (o : Int × Int) (d' : Int) : El.backup ⟨r, a, p, d', if El.isB ⟨r, a, p, d, b⟩ o then a else 0⟩ = El.isB ⟨r, a, p, d, b⟩ o := by
  by_cases ha : a = 0
  · subst ha; simp [El.backup, El.isB]
  · cases h : El.isB ⟨r, a, p, d, b⟩ o
    · simp [El.backup, ha]; exact fun e => ha e.symm
    · simp [El.backup, ha]
theorem elect_stay {self : El.V} {vs : List El.V} {o : Int × Int} (ho : El.once (self :: vs) = o) (h : (El.isC self o == El.chief self && El.isB self o == El.backup self) = true) : El.elect self vs = o := by
  unfold El.elect; rw [ho]; simp only [h, if_true]
theorem elect_anew {self : El.V} {vs : List El.V} {o : Int × Int} (ho : El.once (self :: vs) = o) (h : (El.isC self o == El.chief self && El.isB self o == El.backup self) = false) : El.elect self vs = El.once (El.now self (El.isC self o) (El.isB self o) :: vs) := by
  unfold El.elect; rw [ho]; simp only [h]; rfl
theorem chief_is {r a p d b : Int} {c : Bool} (h : El.chief ⟨r, a, p, d, b⟩ = c) (w : World) :
    Calls Try.prog 131 #[.agg #[.int .u32 r, .int .u32 a, .int .u8 p, .int .u32 d, .int .u32 b]] w fun e w' => e = .returned (.bool c) ∧ Below w.heap.size w w' := by
  rw [← h]; exact chief_any _ _ _ _ _ _
theorem elect_any (r a p d b : Int) (A : Option Addr) (n cp : Nat) (vs : List El.V) (w : World) (hlen : vs.length = n) (hn : n + 1 ≤ 65536) (hr : Reads w w.heap.size 5 A n (vs.flatMap cells)) :
    Calls Try.prog 111 #[.agg #[.int .u32 r, .int .u32 a, .int .u8 p, .int .u32 d, .int .u32 b], .slice A n cp] w fun e w' =>
      e = .returned (.tuple #[.int .u32 (El.elect ⟨r, a, p, d, b⟩ vs).1, .int .u32 (El.elect ⟨r, a, p, d, b⟩ vs).2]) ∧ Below w.heap.size w w' := by
  obtain ⟨i0, hi, hz0, hz1, hz2⟩ := info_parts voice_info
  have Hlen := Lib.hid hlen
  clear hlen
  have hs : ((w.alloc (.cells #[.int .u32 r, .int .u32 a, .int .u8 p, .int .u32 d, .int .u32 b] 178)).alloc (.cells #[.int .u32 r, .int .u32 a, .int .u8 p, .int .u32 d, .int .u32 b] 178)).ownsRow w.heap.size 178 5 (.slice (some ⟨w.heap.size + 1, 0, none⟩) 1 1) 1 (cells ⟨r, a, p, d, b⟩) := by
    have := World.ownsRow_lit (base := w.heap.size) (e := 178) (size := 5) (w.alloc (.cells #[.int .u32 r, .int .u32 a, .int .u8 p, .int .u32 d, .int .u32 b] 178)) #[.int .u32 r, .int .u32 a, .int .u8 p, .int .u32 d, .int .u32 b] 1 (by simp) (by simp [maxLen]) rfl
    rw [World.size_alloc] at this
    exact this
  have HS := Lib.hid hs
  have HR := Lib.hid ((hr.alloc (Nat.le_refl _) (.cells #[.int .u32 r, .int .u32 a, .int .u8 p, .int .u32 d, .int .u32 b] 178)).alloc (by simp) (.cells #[.int .u32 r, .int .u32 a, .int .u8 p, .int .u32 d, .int .u32 b] 178))
  have HB : Hid (Below w.heap.size w ((w.alloc (.cells #[.int .u32 r, .int .u32 a, .int .u8 p, .int .u32 d, .int .u32 b] 178)).alloc (.cells #[.int .u32 r, .int .u32 a, .int .u8 p, .int .u32 d, .int .u32 b] 178))) := ((Below.refl _ w).alloc (Nat.le_refl _) _).alloc (by simp) _
  have HBlk : Hid (Blk ((w.alloc (.cells #[.int .u32 r, .int .u32 a, .int .u8 p, .int .u32 d, .int .u32 b] 178)).alloc (.cells #[.int .u32 r, .int .u32 a, .int .u8 p, .int .u32 d, .int .u32 b] 178)) w.heap.size 178 (cells ⟨r, a, p, d, b⟩).toArray) := (Blk.new w 178 _).alloc _
  clear hs hr
  go_enter Try.func111, Try.ntmps111
  go_wp2_with (at_builtin; refine wpList_append_any _ rfl (.tmp 9) (.tmp 10) _ rfl w.heap.size 178 i0 _ 5 20 Try.underlying179 hi hz0 hz1 hz2 rfl (by omega) (.slice (some ⟨w.heap.size + 1, 0, none⟩) 1 1) 1 (cells ⟨r, a, p, d, b⟩) rfl HS.out w.heap.size A n cp (vs.flatMap cells) rfl HR.out flat_one (by unfold maxLen; omega) (by omega) (by simp; omega) ?_; intro v1 w1 hown1 hg1 hat1)
  obtain ⟨g, cap, hv1, hgb, hlt⟩ := hown1.form (by omega)
  subst hv1
  have hblk1 := HBlk.out.grown hg1 (by simp [Value.ownBlock])
  have hbel1 : Below w.heap.size w w1 := HB.out.grown hg1 (by simp; omega) (fun k hk => by simp [Value.ownBlock] at hk; omega)
  have hgne : g ≠ w.heap.size := by
    rcases hat1 with h | h <;> simp [Value.ownBlock] at h <;> omega
  have e1 : cells ⟨r, a, p, d, b⟩ ++ vs.flatMap cells = (⟨r, a, p, d, b⟩ :: vs : List El.V).flatMap cells := by simp
  rw [e1, Nat.add_comm 1 n] at hown1
  have hlen2 : Hid ((⟨r, a, p, d, b⟩ :: vs : List El.V).length = n + 1) := by rw [Hid, List.length_cons, Hlen.out]
  rw [Nat.add_comm 1 n]
  clear HS HR HB HBlk hat1 hg1 e1
  refine (once_any _ _ _ (⟨r, a, p, d, b⟩ :: vs) _ hlen2.out hn (Reads.of_own hown1)).mono ?_
  obtain ⟨⟨x, y⟩, ho⟩ : ∃ o, El.once (⟨r, a, p, d, b⟩ :: vs) = o := ⟨_, rfl⟩
  rw [ho]
  have HO := Lib.hid ho
  clear ho
  rintro e w2 ⟨rfl, hb2⟩
  have hblk2 := hblk1.below hb2 hblk1.lt
  have hbel2 := hbel1.trans (hb2.mono hbel1.size)
  have hzq := hbel2.size
  have hzz : w.heap.size < w2.heap.size := hblk2.lt
  have s0 := hblk2.cell 0
  have s1 := hblk2.cell 1
  have s2 := hblk2.cell 2
  have s3 := hblk2.cell 3
  have s4 := hblk2.cell 4
  simp [cells] at s0 s1 s2 s3 s4
  have hown2 := ownsRow_below hown1 hb2
  have hglt : g < w2.heap.size := by have := hb2.size; omega
  clear hi hz0 hz1 hz2 hb2 hlt hown1
  obtain ⟨A0, hA0⟩ : ∃ A0, (a != 0) = A0 := ⟨_, rfl⟩
  cases A0
  all_goals
    go_upto_if 28 with fail
    go_cut [] (fun wx => ∃ d' : Int, wx = w2.alloc (.cells #[.int .u32 r, .int .u32 a, .int .u8 p, .int .u32 d', .int .u32 0] 178) ∧ Hid (d' = if El.isC ⟨r, a, p, d, b⟩ (x, y) then a else 0))
    case first =>
      go_wp2_with fail
      all_goals
        go_meet
        case rel => exact ⟨_, rfl, by simp [Hid, El.isC, *]⟩
    case rest =>
    obtain ⟨d', rfl, Hd⟩ := hcut
    go_upto_if 40 with fail
    go_cut [] (fun wx => ∃ b' : Int, wx = w2.alloc (.cells #[.int .u32 r, .int .u32 a, .int .u8 p, .int .u32 d', .int .u32 b'] 178) ∧ Hid (b' = if El.isB ⟨r, a, p, d, b⟩ (x, y) then a else 0))
    case first =>
      go_wp2_with fail
      all_goals
        go_meet
        case rel => exact ⟨_, rfl, by simp [Hid, El.isB, *]⟩
    case rest =>
    obtain ⟨b', rfl, Hb⟩ := hcut
    clear hA0
    go_upto_region 9 with fail
    go_cut [55] (fun s wx => s = .bool (El.chief ⟨r, a, p, d', b'⟩ == El.chief ⟨r, a, p, d, b⟩ && El.backup ⟨r, a, p, d', b'⟩ == El.backup ⟨r, a, p, d, b⟩) ∧ Blk wx w2.heap.size 178 (cells ⟨r, a, p, d', b'⟩).toArray ∧ Below w2.heap.size w2 wx)
    case first =>
      cases hC1 : El.chief ⟨r, a, p, d', b'⟩ <;> cases hC2 : El.chief ⟨r, a, p, d, b⟩
      all_goals
        have HC1 := Lib.hid hC1
        have HC2 := Lib.hid hC2
        clear hC1 hC2
        have l0 := later_cell (v := .int .u32 r) (B := w2.heap.size + 1) (w0 := w2.alloc (.cells #[.int .u32 r, .int .u32 a, .int .u8 p, .int .u32 d', .int .u32 b'] 178)) (p := ⟨w.heap.size, 0, none⟩) (by simp; omega) ((hblk2.alloc _).cell 0)
        have l1 := later_cell (v := .int .u32 a) (B := w2.heap.size + 1) (w0 := w2.alloc (.cells #[.int .u32 r, .int .u32 a, .int .u8 p, .int .u32 d', .int .u32 b'] 178)) (p := ⟨w.heap.size, 1, none⟩) (by simp; omega) ((hblk2.alloc _).cell 1)
        have l2 := later_cell (v := .int .u8 p) (B := w2.heap.size + 1) (w0 := w2.alloc (.cells #[.int .u32 r, .int .u32 a, .int .u8 p, .int .u32 d', .int .u32 b'] 178)) (p := ⟨w.heap.size, 2, none⟩) (by simp; omega) ((hblk2.alloc _).cell 2)
        have l3 := later_cell (v := .int .u32 d) (B := w2.heap.size + 1) (w0 := w2.alloc (.cells #[.int .u32 r, .int .u32 a, .int .u8 p, .int .u32 d', .int .u32 b'] 178)) (p := ⟨w.heap.size, 3, none⟩) (by simp; omega) ((hblk2.alloc _).cell 3)
        have l4 := later_cell (v := .int .u32 b) (B := w2.heap.size + 1) (w0 := w2.alloc (.cells #[.int .u32 r, .int .u32 a, .int .u8 p, .int .u32 d', .int .u32 b'] 178)) (p := ⟨w.heap.size, 4, none⟩) (by simp; omega) ((hblk2.alloc _).cell 4)
        have m0 := later_cell (B := w2.heap.size + 1) (w0 := w2.alloc (.cells #[.int .u32 r, .int .u32 a, .int .u8 p, .int .u32 d', .int .u32 b'] 178)) (p := ⟨w2.heap.size, 0, none⟩) (by simp) ((Blk.new w2 178 _).cell 0)
        have m1 := later_cell (B := w2.heap.size + 1) (w0 := w2.alloc (.cells #[.int .u32 r, .int .u32 a, .int .u8 p, .int .u32 d', .int .u32 b'] 178)) (p := ⟨w2.heap.size, 1, none⟩) (by simp) ((Blk.new w2 178 _).cell 1)
        have m2 := later_cell (B := w2.heap.size + 1) (w0 := w2.alloc (.cells #[.int .u32 r, .int .u32 a, .int .u8 p, .int .u32 d', .int .u32 b'] 178)) (p := ⟨w2.heap.size, 2, none⟩) (by simp) ((Blk.new w2 178 _).cell 2)
        have m3 := later_cell (B := w2.heap.size + 1) (w0 := w2.alloc (.cells #[.int .u32 r, .int .u32 a, .int .u8 p, .int .u32 d', .int .u32 b'] 178)) (p := ⟨w2.heap.size, 3, none⟩) (by simp) ((Blk.new w2 178 _).cell 3)
        have m4 := later_cell (B := w2.heap.size + 1) (w0 := w2.alloc (.cells #[.int .u32 r, .int .u32 a, .int .u8 p, .int .u32 d', .int .u32 b'] 178)) (p := ⟨w2.heap.size, 4, none⟩) (by simp) ((Blk.new w2 178 _).cell 4)
        refine wp_region_later (B := w2.heap.size + 1) (w0 := w2.alloc (.cells #[.int .u32 r, .int .u32 a, .int .u8 p, .int .u32 d', .int .u32 b'] 178)) (by kernel_rfl) (by kernel_rfl) (Below.refl _ _) ?_
        repeat (go_big_quiet_step (first
          | (go_at_call 131; with_reducible exact later_call _ (by simp) (chief_is HC1.out _))
          | (go_at_call 131; with_reducible exact later_call _ (by simp) (chief_is HC2.out _))
          | (go_at_call 132; with_reducible exact later_call _ (by simp) (backup_any _ _ _ _ _ _))))
        refine wpQuiet_nil ?_
        rintro wx ⟨⟨wy, hwy⟩, hw⟩
        obtain rfl : wx = wy := hw
        go_wp2_with fail
        go_meet
        case rel => exact ⟨by simp [HC1.out, HC2.out], (Blk.new w2 178 _).below hwy (by simp), ((Below.refl _ _).alloc (Nat.le_refl _) _).trans (hwy.mono (by simp))⟩
    case rest =>
      obtain ⟨rfl, hblk3, hb3⟩ := hcut
      have hcN : El.chief ⟨r, a, p, d', b'⟩ = El.isC ⟨r, a, p, d, b⟩ (x, y) := by rw [Hd.out]; exact now_chief _ _ _ _ _ _ _
      have hbN : El.backup ⟨r, a, p, d', b'⟩ = El.isB ⟨r, a, p, d, b⟩ (x, y) := by rw [Hb.out]; exact now_backup _ _ _ _ _ _ _
      rw [hcN, hbN]
      have HcN := Lib.hid hcN
      clear hcN hbN
      have hbelC := hbel2.trans (hb3.mono hzq)
      cases hE : (El.isC ⟨r, a, p, d, b⟩ (x, y) == El.chief ⟨r, a, p, d, b⟩ && El.isB ⟨r, a, p, d, b⟩ (x, y) == El.backup ⟨r, a, p, d, b⟩)
      · have hfin := elect_anew HO.out hE
        have n0 : wc.cell? ⟨w2.heap.size, 0, none⟩ = some (.int .u32 r) := hblk3.cell 0
        have n1 : wc.cell? ⟨w2.heap.size, 1, none⟩ = some (.int .u32 a) := hblk3.cell 1
        have n2 : wc.cell? ⟨w2.heap.size, 2, none⟩ = some (.int .u8 p) := hblk3.cell 2
        have n3 : wc.cell? ⟨w2.heap.size, 3, none⟩ = some (.int .u32 d') := hblk3.cell 3
        have n4 : wc.cell? ⟨w2.heap.size, 4, none⟩ = some (.int .u32 b') := hblk3.cell 4
        have hzc := hblk3.lt
        have hownC := ownsRow_below hown2 hb3
        have Hfin := Lib.hid hfin
        have HE := Lib.hid hE
        clear hfin hE
        cases hc : El.isC ⟨r, a, p, d, b⟩ (x, y)
        · have HCI := Lib.hid (HcN.out.trans hc)
          have hdd : El.now ⟨r, a, p, d, b⟩ (El.isC ⟨r, a, p, d, b⟩ (x, y)) (El.isB ⟨r, a, p, d, b⟩ (x, y)) = ⟨r, a, p, d', b'⟩ := by
            rw [Hd.out, Hb.out, hc]; simp [El.now]
          rw [hdd] at Hfin
          have Hfin' := Lib.hid Hfin.out
          clear Hfin hdd
          go_wp2_with fail
          refine (chief_is HCI.out _).mono ?_
          rintro e w4 ⟨rfl, hb4⟩
          have hblk4 := hblk3.below hb4 hzc
          have hownD := ownsRow_below hownC hb4
          have hbelD := hbelC.trans (hb4.mono hbelC.size)
          have q0 : w4.cell? ⟨w2.heap.size, 0, none⟩ = some (.int .u32 r) := hblk4.cell 0
          have q1 : w4.cell? ⟨w2.heap.size, 1, none⟩ = some (.int .u32 a) := hblk4.cell 1
          have q2 : w4.cell? ⟨w2.heap.size, 2, none⟩ = some (.int .u8 p) := hblk4.cell 2
          have q3 : w4.cell? ⟨w2.heap.size, 3, none⟩ = some (.int .u32 d') := hblk4.cell 3
          have q4 : w4.cell? ⟨w2.heap.size, 4, none⟩ = some (.int .u32 b') := hblk4.cell 4
          have qf := hblk4.frozen
          have k0 : w4.cell? ⟨g, 0, none⟩ = some (.int .u32 r) := hownD.cellAt 0 (by omega)
          have k1 : w4.cell? ⟨g, 1, none⟩ = some (.int .u32 a) := hownD.cellAt 1 (by omega)
          have k2 : w4.cell? ⟨g, 2, none⟩ = some (.int .u8 p) := hownD.cellAt 2 (by omega)
          have k3 : w4.cell? ⟨g, 3, none⟩ = some (.int .u32 d) := hownD.cellAt 3 (by omega)
          have k4 : w4.cell? ⟨g, 4, none⟩ = some (.int .u32 b) := hownD.cellAt 4 (by omega)
          have kf := hownD.frozenAt
          have hgz : g ≠ w2.heap.size := by omega
          have hgz2 : w2.heap.size ≠ g := by omega
          have hpos : (0 : Int) < (n : Int) + 1 := by omega
          have HW := Lib.hid hownD
          clear hownD hownC hown2 n0 n1 n2 n3 n4
          go_wp2_with fail
          have hownE := own_first (v := ⟨r, a, p, d', b'⟩) (x := ⟨r, a, p, d, b⟩) (ys := vs.flatMap cells) (by have h := HW.out; rw [List.flatMap_cons] at h; exact h)
          refine (once_any _ _ _ (⟨r, a, p, d', b'⟩ :: vs) _ (by rw [List.length_cons, Hlen.out]) hn (Reads.of_own (by rw [List.flatMap_cons]; exact hownE))).mono ?_
          obtain ⟨⟨x', y'⟩, ho'⟩ : ∃ o, El.once (⟨r, a, p, d', b'⟩ :: vs) = o := ⟨_, rfl⟩
          rw [ho']
          have HO' := Lib.hid ho'
          clear ho' hownE
          rintro e w5 ⟨rfl, hb5⟩
          have hbelE := below5 hbelD (g' := g) hgb (.int .u32 r) (.int .u32 a) (.int .u8 p) (.int .u32 d') (.int .u32 b')
          have hbelF := hbelE.trans (hb5.mono hbelE.size)
          go_wp2_with fail
          go_ret2
          exact ⟨ret_two (by rw [Hfin'.out, HO'.out]), hbelF⟩
        · have HCI := Lib.hid (HcN.out.trans hc)
          have hdd : El.now ⟨r, a, p, d, b⟩ (El.isC ⟨r, a, p, d, b⟩ (x, y)) (El.isB ⟨r, a, p, d, b⟩ (x, y)) = ⟨r, a, p, d', 0⟩ := by
            rw [Hd.out, hc]; simp [El.now]
          rw [hdd] at Hfin
          have Hfin' := Lib.hid Hfin.out
          clear Hfin hdd
          go_wp2_with fail
          refine (chief_is HCI.out _).mono ?_
          rintro e w4 ⟨rfl, hb4⟩
          have hblk4 := hblk3.below hb4 hzc
          have hownD := ownsRow_below hownC hb4
          have hbelD := hbelC.trans (hb4.mono hbelC.size)
          have q0 : w4.cell? ⟨w2.heap.size, 0, none⟩ = some (.int .u32 r) := hblk4.cell 0
          have q1 : w4.cell? ⟨w2.heap.size, 1, none⟩ = some (.int .u32 a) := hblk4.cell 1
          have q2 : w4.cell? ⟨w2.heap.size, 2, none⟩ = some (.int .u8 p) := hblk4.cell 2
          have q3 : w4.cell? ⟨w2.heap.size, 3, none⟩ = some (.int .u32 d') := hblk4.cell 3
          have q4 : w4.cell? ⟨w2.heap.size, 4, none⟩ = some (.int .u32 b') := hblk4.cell 4
          have qf := hblk4.frozen
          have k0 : w4.cell? ⟨g, 0, none⟩ = some (.int .u32 r) := hownD.cellAt 0 (by omega)
          have k1 : w4.cell? ⟨g, 1, none⟩ = some (.int .u32 a) := hownD.cellAt 1 (by omega)
          have k2 : w4.cell? ⟨g, 2, none⟩ = some (.int .u8 p) := hownD.cellAt 2 (by omega)
          have k3 : w4.cell? ⟨g, 3, none⟩ = some (.int .u32 d) := hownD.cellAt 3 (by omega)
          have k4 : w4.cell? ⟨g, 4, none⟩ = some (.int .u32 b) := hownD.cellAt 4 (by omega)
          have kf := hownD.frozenAt
          have hgz : g ≠ w2.heap.size := by omega
          have hgz2 : w2.heap.size ≠ g := by omega
          have hpos : (0 : Int) < (n : Int) + 1 := by omega
          have HW := Lib.hid hownD
          clear hownD hownC hown2 n0 n1 n2 n3 n4
          go_wp2_with fail
          have hownE := own_first (v := ⟨r, a, p, d', 0⟩) (x := ⟨r, a, p, d, b⟩) (ys := vs.flatMap cells) (by have h := ownsRow_far HW.out (q := ⟨w2.heap.size, 4, none⟩) hgz (.int .u32 0); rw [List.flatMap_cons] at h; exact h)
          refine (once_any _ _ _ (⟨r, a, p, d', 0⟩ :: vs) _ (by rw [List.length_cons, Hlen.out]) hn (Reads.of_own (by rw [List.flatMap_cons]; exact hownE))).mono ?_
          obtain ⟨⟨x', y'⟩, ho'⟩ : ∃ o, El.once (⟨r, a, p, d', 0⟩ :: vs) = o := ⟨_, rfl⟩
          rw [ho']
          have HO' := Lib.hid ho'
          clear ho' hownE
          rintro e w5 ⟨rfl, hb5⟩
          have hbelE := below5 (hbelD.setCell (p := ⟨w2.heap.size, 4, none⟩) hzq (.int .u32 0)) (g' := g) hgb (.int .u32 r) (.int .u32 a) (.int .u8 p) (.int .u32 d') (.int .u32 0)
          have hbelF := hbelE.trans (hb5.mono hbelE.size)
          go_wp2_with fail
          go_ret2
          exact ⟨ret_two (by rw [Hfin'.out, HO'.out]), hbelF⟩
      · have hfin := elect_stay HO.out hE
        have Hfin := Lib.hid hfin
        clear hfin
        go_wp2_with fail
        go_ret2
        exact ⟨ret_two (by rw [Hfin.out]), hbelC⟩
end Ev
end Go.Proofs.Ytgbmhijgpdgdbaa
