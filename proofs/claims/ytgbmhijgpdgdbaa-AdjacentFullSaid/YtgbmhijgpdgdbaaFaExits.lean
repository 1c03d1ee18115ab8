/- A part of a body that neither returns nor panics: whatever is asked of such ends. -/
import Derived.Test.YtgbmhijgpdgdbaaFaMsgs
import Derived.Deep.CutBlock
namespace Go.Proofs.Ytgbmhijgpdgdbaa
open Go.RowKit

def msgsOf : Fu.Ml → List Sg
  | .nil => []
  | .firstA => [.firstA]
  | .dA => [.dA]
  | .dB => [.dB]
  | .rA => [.rA]
  | .rB => [.rB]
  | .dArA => [.dA, .rA]
def toOf : Fu.Ml → Int
  | .dB => 0
  | .rB => 0
  | _ => 1

def MlAt (T : Tk) (w : World) (W : Nat → Prop) (S : Fu.Sy) (ml : Fu.Ml) (lv : Value) : Prop :=
  match msgsOf ml with
  | [] => lv = .slice none 0 0
  | l => ∃ vg c, lv = .slice (some ⟨vg, 0, none⟩) l.length c ∧ (∃ cs, Blk w vg 40 cs) ∧ ¬ W vg ∧ Left T w W S vg 0 l

theorem NetIs.count {T : Tk} {P : Fu.Pa} {C : Cn} {w : World} {S : Fu.Sy} {a b : Adj} {v0 v1 : Value} (hC : CnOk C) (h : NetIs T P C w S a b v0 v1) : NetIs T P C ((w.setCell ⟨C.Wb, 6, none⟩ (.int .i64 (S.n + 1 : Nat))).setCell ⟨C.Wb, 4, none⟩ (.int .i64 (S.n + 1 : Nat))) { S with n := S.n + 1 } a b v0 v1 :=
  ⟨(h.bs.count hC).1, h.sa.frame (h.bs.count hC).2 (h.bs.offWA hC), h.sb.frame (h.bs.count hC).2 (h.bs.offWB hC)⟩
theorem NetIs.quiet {T : Tk} {P : Fu.Pa} {C : Cn} {w w' : World} {S : Fu.Sy} {a b : Adj} {v0 v1 : Value} (hC : CnOk C) (h : NetIs T P C w S a b v0 v1) (hb : Below w.heap.size w w') : NetIs T P C w' S a b v0 v1 :=
  ⟨h.bs.quiet hC hb, h.sa.frame (Frame.of_below (S := fun _ => False) hb) (fun _ e => e.elim), h.sb.frame (Frame.of_below (S := fun _ => False) hb) (fun _ e => e.elim)⟩

/-- A message was taken, and the talk goes on. -/
def Goes (T : Tk) (P : Fu.Pa) (C : Cn) (f : Nat) (S : Fu.Sy) (ml : Fu.Ml) (t : Int) (a b : Adj) (v0 v1 : Value) (w w' : World) (lv : Value) : Prop :=
  ∃ (S' : Fu.Sy) (ml' : Fu.Ml) (a' b' : Adj), Fu.Ok P S' ∧ Fu.Pre P S' ml' ∧ Fu.rem P S' + Fu.cst S' ml' ≤ f ∧ S'.n + Fu.rem P S' + Fu.cst S' ml' < 4000 ∧ NetIs T P C w' S' a' b' v0 v1 ∧ MlAt T w' (WrS T C S' a' b' v0 v1) S' ml' lv ∧ (ml' = .nil ∨ toOf ml' = 1 - t) ∧
    Fu.run P (f + 1) S ml = Fu.run P f S' ml' ∧ Frame (WrS T C S a b v0 v1) w w' ∧ ∀ j, WrS T C S' a' b' v0 v1 j → WrS T C S a b v0 v1 j ∨ w.heap.size ≤ j

theorem run_nil (P : Fu.Pa) (f : Nat) (S : Fu.Sy) : Fu.run P f S .nil = S := by cases f <;> rfl

section
variable {T : Tk} {P : Fu.Pa} {C : Cn} {w w' : World} {S : Fu.Sy} {a b : Adj} {v0 v1 : Value} {f : Nat}

/-- A row of one or two, as it was given back. -/
theorem own_rows {base n : Nat} {v : Value} {xs : List Value} (h : w.ownsRow base 40 7 v n xs) (hn : 0 < n) : ∃ vg c, v = .slice (some ⟨vg, 0, none⟩) n c ∧ base ≤ vg ∧ (∃ cs, Blk w vg 40 cs) ∧ ∀ k u, xs[k]? = some u → w.cell? ⟨vg, k, none⟩ = some u := by
  obtain ⟨h1, h2⟩ := h
  rcases h2 with ⟨_, h2⟩ | ⟨g, cap, cur, rfl, hg, hh, hle, hcm, hcs, hx⟩
  · omega
  · refine ⟨g, cap, rfl, hg, ⟨cur, hh⟩, fun k u hk => ?_⟩
    rw [Blk.cell hh k, ← Array.getElem?_toList]
    rw [← hx, List.getElem?_take] at hk
    split at hk
    · exact hk
    · cases hk

theorem wr_not {T : Tk} {C : Cn} {ka kb : Nat} {a b : Adj} {v0 v1 : Value} {j base : Nat} (hc : ∀ j, C.con j → j < base) (hv : ∀ j, v0.ownBlock = some j ∨ v1.ownBlock = some j → j < base) (hj : base ≤ j) (ha : ¬ oC T ka a j) (hb : ¬ oC T kb b j) : ¬ Wr T C ka kb a b v0 v1 j := by
  rintro (e | e | e | e | e)
  · have := hc j e; omega
  · have := hv j (.inl e); omega
  · have := hv j (.inr e); omega
  · exact ha e
  · exact hb e

/-- The order's block is one of keys, while the side exchanges. -/
theorem SlaveAt.keys {B m k g t : Nat} (h : SlaveAt T w B m a k g t) {j : Nat} (hj : oC T k a j) : ∃ cs, Blk w j 56 cs := by
  obtain ⟨hk, hj⟩ := hj
  have hw : ∃ O M, Wants w B m a O M := by
    by_cases h0 : k = 0
    · exact ⟨_, _, (h.zero h0).2.2.2.2.2.2⟩
    · exact ⟨_, _, (h.mid (by omega) hk).2⟩
  obtain ⟨O, M, hw⟩ := hw
  rcases hw.order.2 with ⟨e, _⟩ | ⟨g, cap, cur, e, _, hh, _⟩
  · rw [e] at hj; cases hj
  · rw [e] at hj
    have : g = j := by simpa [Value.ownBlock] using hj
    subst this
    exact ⟨cur, hh⟩
theorem MasterAt.keys {B m k g t : Nat} (h : MasterAt T w B m a k g t) {j : Nat} (hj : oC T k a j) : ∃ cs, Blk w j 56 cs := by
  obtain ⟨hk, hj⟩ := hj
  have hw : ∃ O M, Wants w B m a O M := by
    by_cases h0 : k = 0
    · exact ⟨_, _, (h.zero h0).2.2⟩
    · exact ⟨_, _, (h.mid (by omega) hk).2.1⟩
  obtain ⟨O, M, hw⟩ := hw
  rcases hw.order.2 with ⟨e, _⟩ | ⟨g, cap, cur, e, _, hh, _⟩
  · rw [e] at hj; cases hj
  · rw [e] at hj
    have : g = j := by simpa [Value.ownBlock] using hj
    subst this
    exact ⟨cur, hh⟩
theorem blk_two {w : World} {j : Nat} {t t' : TypeId} {cs cs' : Array Value} (h : Blk w j t cs) (h' : Blk w j t' cs') (hne : t ≠ t') : False := by
  unfold Blk at h h'
  rw [h] at h'
  cases h'
  exact hne rfl

/-- A new block that isn't one of keys may not be written. -/
theorem NetIs.new_not (hC : CnOk C) {S' : Fu.Sy} {a' b' : Adj} {base : Nat} (h : NetIs T P C w' S' a' b' v0 v1) (hN : C.N1 ≤ base) (hv : ∀ j, v0.ownBlock = some j ∨ v1.ownBlock = some j → j < base) {j : Nat} (hj : base ≤ j) {t : TypeId} (ht : t ≠ 56) (hb : ∃ cs, Blk w' j t cs) : ¬ WrS T C S' a' b' v0 v1 j := by
  obtain ⟨cs, hb⟩ := hb
  refine wr_not (base := base) (fun j hj => Nat.lt_of_lt_of_le (hC.lo j hj).2 hN) hv hj (fun e => ?_) (fun e => ?_)
  · obtain ⟨cs', h'⟩ := h.sa.keys e
    exact blk_two hb h' ht
  · obtain ⟨cs', h'⟩ := h.sb.keys e
    exact blk_two hb h' ht

theorem own_headblk {base n : Nat} {v : Value} {xs : List Value} (h : w.ownsRow base 59 8 v n xs) {j : Nat} (hj : v.ownBlock = some j) : base ≤ j ∧ ∃ cs, Blk w j 59 cs := by
  rcases h.2 with ⟨e, _⟩ | ⟨g, cap, cur, e, hg, hh, _⟩
  · rw [e] at hj; cases hj
  · rw [e] at hj
    have : g = j := by simpa [Value.ownBlock] using hj
    subst this
    exact ⟨hg, cur, hh⟩

/-- One description in a row. -/
theorem desc1_row {base : Nat} {v : Value} {fl sq : Int} {l : List Od.Hd} {W : Nat → Prop} (h : Desc1 base w v fl sq l) (hW : ∀ j t, base ≤ j → t ≠ 56 → (∃ cs, Blk w j t cs) → ¬ W j) :
    ∃ vg c, v = .slice (some ⟨vg, 0, none⟩) 1 c ∧ (∃ cs, Blk w vg 40 cs) ∧ ¬ W vg ∧ ∃ r, RowAt w vg 0 r ∧ ∃ hv, r = ⟨true, 0, 2, fl, sq, hv, .slice none 0 0⟩ ∧ HeadsIn w hv l ∧ ∀ j, hv.ownBlock = some j → ¬ W j := by
  obtain ⟨hv, h1, h2⟩ := h
  obtain ⟨vg, c, rfl, hb, hcs, hx⟩ := own_rows h1 (by decide)
  refine ⟨vg, c, rfl, hcs, hW vg _ hb (by decide) hcs, _, fun k u hk => ?_, hv, rfl, HeadsIn.own h2 rfl, fun j hj => ?_⟩
  · have := hx k u hk
    simpa using this
  · obtain ⟨e1, e2⟩ := own_headblk h2 hj
    exact hW j _ e1 (by decide) e2

theorem req1_row {base : Nat} {v : Value} {ks : List Od.Ky} {W : Nat → Prop} (h : Req1 base w v ks) (hW : ∀ j, base ≤ j → ¬ W j) :
    ∃ vg c, v = .slice (some ⟨vg, 0, none⟩) 1 c ∧ (∃ cs, Blk w vg 40 cs) ∧ ¬ W vg ∧ ∃ r, RowAt w vg 0 r ∧ ∃ kv, r = oneReq kv ∧ KeysOwn w 0 kv ks ∧ ∀ j, kv.ownBlock = some j → ¬ W j := by
  obtain ⟨kv, h1, h2⟩ := h
  obtain ⟨vg, c, rfl, hb, hcs, hx⟩ := own_rows h1 (by decide)
  refine ⟨vg, c, rfl, hcs, hW vg hb, _, fun k u hk => ?_, kv, rfl, own_base h2 (Nat.zero_le _), fun j hj => hW j (h2.lt j hj).1⟩
  have := hx k u hk
  simpa using this

theorem desc2_row {base : Nat} {v : Value} {fl sq : Int} {l : List Od.Hd} {ks : List Od.Ky} {W : Nat → Prop} (h : Desc2 base w v fl sq l ks) (hW : ∀ j, base ≤ j → ¬ W j) :
    ∃ vg c, v = .slice (some ⟨vg, 0, none⟩) 2 c ∧ (∃ cs, Blk w vg 40 cs) ∧ ¬ W vg ∧ (∃ r, RowAt w vg 0 r ∧ ∃ hv, r = ⟨true, 0, 2, fl, sq, hv, .slice none 0 0⟩ ∧ HeadsIn w hv l ∧ ∀ j, hv.ownBlock = some j → ¬ W j) ∧
      ∃ r, RowAt w vg 1 r ∧ ∃ kv, r = oneReq kv ∧ KeysOwn w 0 kv ks ∧ ∀ j, kv.ownBlock = some j → ¬ W j := by
  obtain ⟨hv, kv, h1, h2, h3⟩ := h
  obtain ⟨vg, c, rfl, hb, hcs, hx⟩ := own_rows h1 (by decide)
  refine ⟨vg, c, rfl, hcs, hW vg hb, ⟨_, fun k u hk => ?_, hv, rfl, HeadsIn.own h2 rfl, fun j hj => hW j (h2.lt j hj).1⟩, _, fun k u hk => ?_, kv, rfl, own_base h3 (Nat.zero_le _), fun j hj => hW j (h3.lt j hj).1⟩
  · have hk7 : k < 7 := (List.getElem?_eq_some_iff.1 hk).1
    have := hx k u (by rw [List.getElem?_append_left (by exact hk7)]; exact hk)
    simpa using this
  · have := hx (7 + k) u (by rw [List.getElem?_append_right (by show 7 ≤ 7 + k; omega)]; show (Raw.cells (oneReq kv))[7 + k - 7]? = some u; rw [Nat.add_sub_cancel_left]; exact hk)
    simpa using this

/-- The greater refuses the lesser's first one. -/
theorem step_firstA (hC : CnOk C) (hok : Fu.Ok P S) (hpre : S.p = 0) (hrem : Fu.rem P S + 1 ≤ f + 1) (hn4 : S.n + Fu.rem P S + 1 < 4000)
    (hnet : NetIs T P C w { S with n := S.n + 1 } a b v0 v1) {hv ow : Value} {s : Int} (hh : ∃ A c, hv = .slice A 0 c) :
    Calls Try.prog 14 #[.pointer (some ⟨C.Bb, 0, none⟩), ddval 0 2 7 s hv, ow] w fun e w' => ∃ lv cd, e = .returned (.tuple #[lv, .int .i64 cd]) ∧ Goes T P C f S .firstA 1 a b v0 v1 w w' lv := by
  have hsb := hnet.sb
  simp only [hpre] at hsb
  refine (b_no hsb hh).mono ?_
  rintro e w' ⟨rfl, hb⟩
  exact ⟨_, _, rfl, { S with n := S.n + 1 }, .nil, a, b, ⟨hok.p, hok.ga, hok.gb, hok.ga0, hok.gb0, hok.ta, hok.tb⟩, trivial, (by show Fu.rem P S + 0 ≤ f; omega), (by show S.n + 1 + Fu.rem P S + 0 < 4000; omega), hnet.quiet hC hb, rfl, .inl rfl, (by rw [run_nil]; rfl), Frame.of_below hb, fun j hj => .inl hj⟩

/-- What the world's old blocks are. -/
theorem Base.olds {n ka kb : Nat} {l0 l1 : List Od.Hd} (h : Base T P C w n ka kb a b v0 v1 l0 l1) : C.N1 ≤ w.heap.size ∧ ∀ j, v0.ownBlock = some j ∨ v1.ownBlock = some j → j < w.heap.size := ⟨h.sz, fun j hj => (h.lv j hj).2.1⟩

set_option maxHeartbeats 1000000 in
/-- The lesser takes a description. -/
theorem step_dB (hT : TkOk T) (hC : CnOk C) (hN : P.N = T.N) (ha : P.a = T.WA.length) (hok : Fu.Ok P S) (hpre : S.p ≤ 2 * P.N + 1) (hrem : Fu.rem P S + Fu.cst S .dB ≤ f + 1) (hn4 : S.n + Fu.rem P S + Fu.cst S .dB < 4000) (hL : Fu.lostAt P S.n = false)
    (hnet : NetIs T P C w { S with n := S.n + 1 } a b v0 v1) {hv ow : Value} (hh : HeadsIn w hv (chB T.B (S.p / 2))) (how : S.ga = 0 → HeadsIn w ow T.A) :
    Calls Try.prog 14 #[.pointer (some ⟨C.Ba, 0, none⟩), ddval 0 2 (flB T.B (S.p / 2)) (seqAt T.s1 (S.p / 2)) hv, ow] w fun e w' => ∃ lv cd, e = .returned (.tuple #[lv, .int .i64 cd]) ∧ Goes T P C f S .dB 0 a b v0 v1 w w' lv := by
  obtain ⟨p, ga, gb, ta, tb, n⟩ := S
  simp only at hpre hn4 hL hh how
  have hold := hnet.bs.olds
  by_cases hev : p % 2 = 0
  · obtain ⟨j, rfl⟩ : ∃ j, p = 2 * j := ⟨p / 2, by omega⟩
    have e1 : 2 * j / 2 = j := by omega
    have e2 : (2 * j + 1) / 2 = j := by omega
    have e3 : (2 * j + 1 + 1) / 2 = j + 1 := by omega
    have hj : j ≤ T.N := by omega
    obtain rfl : ga = 0 := hok.ga0 (by show 2 * j < 2 * P.N + 1; omega)
    have hA : AfterA T C.Ba C.ma a j w = AfterA T C.Ba C.ma a j w := rfl
    have hsa : SlaveAt T w C.Ba C.ma a j 0 ta := by have := hnet.sa; simp only [e2] at this; exact this
    have hcall : Calls Try.prog 14 #[.pointer (some ⟨C.Ba, 0, none⟩), ddval 0 2 (flB T.B j) (seqAt T.s1 j) hv, ow] w fun e w' => AfterA T C.Ba C.ma a j w e w' := by
      cases j with
      | zero => exact a_first hT hsa (by simpa [chB] using hh) (how rfl)
      | succ j => exact a_next hT hsa hj (by rw [e1] at hh; exact hh) (how rfl)
    rw [e1]
    refine hcall.mono ?_
    rintro e w' ⟨v, rfl, a', hsa', ht, hs⟩
    have hbs : Base T P C w (n + 1) j j a b v0 v1 (gained T.A (T.WA.take 0)) (gained T.B (T.WB.take gb)) := by have := hnet.bs; simp only [e1, e2] at this; exact this
    obtain ⟨hb1, hb2, hb3, hb4⟩ := hbs.stepA hC (ka' := j + 1) (a' := a') (by omega) ht.fr (fun i hi => by
      rcases hi with hi | hi | hi
      · exact .inl hi
      · exact .inr (.inl hi)
      · exact .inr (.inr ⟨hj, hi⟩)) ht.ord ht.held
    have hnet' : NetIs T P C w' ⟨2 * j + 1, 0, gb, 2, tb, n + 1⟩ a' b v0 v1 := by
      refine ⟨?_, ?_, ?_⟩
      · simp only [e2, e3]; exact hb1
      · simp only [e3]; exact hsa'
      · simp only [e2]
        have := hnet.sb
        simp only [e1] at this
        exact this.frame ht.fr hb2
    have hfr : Frame (WrS T C ⟨2 * j, 0, gb, ta, tb, n⟩ a b v0 v1) w w' := by unfold WrS; simp only [e1, e2]; exact hb3
    have hwr : ∀ i, WrS T C ⟨2 * j + 1, 0, gb, 2, tb, n + 1⟩ a' b v0 v1 i → WrS T C ⟨2 * j, 0, gb, ta, tb, n⟩ a b v0 v1 i ∨ w.heap.size ≤ i := by
      unfold WrS; simp only [e1, e2, e3]; exact hb4
    have hok' : Fu.Ok P ⟨2 * j + 1, 0, gb, 2, tb, n + 1⟩ := ⟨by show 2 * j + 1 ≤ _; omega, Nat.zero_le _, hok.gb, fun _ => rfl, fun e => hok.gb0 (by show 2 * j < _; have : 2 * j + 1 < 2 * P.N + 2 := e; omega), .inr rfl, hok.tb⟩
    have hcs : Fu.cst ⟨2 * j, 0, gb, ta, tb, n⟩ .dB = 1 := by unfold Fu.cst; exact if_pos (by show 2 * j % 2 = 0; omega)
    rw [hcs] at hrem hn4
    have hrm : Fu.rem P ⟨2 * j + 1, 0, gb, 2, tb, n + 1⟩ + (if j = T.N then 2 else 1) ≤ Fu.rem P ⟨2 * j, 0, gb, ta, tb, n⟩ := by
      unfold Fu.rem
      simp only
      split <;> split <;> split <;> omega
    unfold SaysA at hs
    have hnn : ∀ i t, w.heap.size ≤ i → t ≠ 56 → (∃ cs, Blk w' i t cs) → ¬ WrS T C ⟨2 * j + 1, 0, gb, 2, tb, n + 1⟩ a' b v0 v1 i := fun i t hi ht hb => hnet'.new_not hC hold.1 hold.2 hi ht hb
    by_cases hc : j < T.N ∨ T.WA = []
    · rw [if_pos hc] at hs
      have hrun : Fu.run P (f + 1) ⟨2 * j, 0, gb, ta, tb, n⟩ .dB = Fu.run P f ⟨2 * j + 1, 0, gb, 2, tb, n + 1⟩ .dA := by
        simp only [Fu.run, hL, Bool.false_eq_true, if_false]
        rw [if_pos (by omega), if_neg (by
          rintro ⟨h1, h2⟩
          rcases hc with hc | hc
          · omega
          · rw [ha, hc] at h2; exact h2 rfl)]
      obtain ⟨vg, c, rfl, hcs2, hnw, r, hr, hv2, hr2, hh2, hnv⟩ := desc1_row hs hnn
      refine ⟨_, _, rfl, ⟨2 * j + 1, 0, gb, 2, tb, n + 1⟩, .dA, a', b, hok', ⟨by show (2 * j + 1) % 2 = 1; omega, by show 2 * j + 1 ≤ _; omega⟩, ?_, ?_, hnet', ⟨vg, c, rfl, hcs2, hnw, r, hr, hv2, ?_, ?_, hnv⟩, .inr rfl, hrun, hfr, hwr⟩
      · show _ + 1 ≤ f; split at hrm <;> omega
      · show n + 1 + _ + 1 < 4000; split at hrm <;> omega
      · simp only [e2]; exact hr2
      · simp only [e2]; exact hh2
    · rw [if_neg hc] at hs
      obtain rfl : j = T.N := by omega
      have hWA : T.WA.length ≠ 0 := fun e => hc (.inr (List.length_eq_zero_iff.1 e))
      have hrun : Fu.run P (f + 1) ⟨2 * T.N, 0, gb, ta, tb, n⟩ .dB = Fu.run P f ⟨2 * T.N + 1, 0, gb, 2, tb, n + 1⟩ .dArA := by
        simp only [Fu.run, hL, Bool.false_eq_true, if_false]
        rw [if_pos (by omega), if_pos ⟨by omega, by rw [ha]; exact hWA⟩]
      have hnn2 : ∀ i, w.heap.size ≤ i → ¬ WrS T C ⟨2 * T.N + 1, 0, gb, 2, tb, n + 1⟩ a' b v0 v1 i := fun i hi => by
        unfold WrS
        simp only [e2, e3]
        refine wr_not (base := w.heap.size) (fun i hi => Nat.lt_of_lt_of_le (hC.lo i hi).2 hold.1) hold.2 hi (fun e => ?_) (fun e => ?_)
        · exact absurd e.1 (by omega)
        · have := (hbs.lb i (.inr e.2)).2; omega
      obtain ⟨vg, c, rfl, hcs2, hnw, ⟨r, hr, hv2, hr2, hh2, hnv⟩, r3, hr3, kv, hr4, hk, hnk⟩ := desc2_row hs hnn2
      refine ⟨_, _, rfl, ⟨2 * T.N + 1, 0, gb, 2, tb, n + 1⟩, .dArA, a', b, hok', ⟨by show 2 * T.N + 1 = 2 * P.N + 1; omega, by show 0 < P.a; omega⟩, ?_, ?_, hnet', ⟨vg, c, rfl, hcs2, hnw, ⟨r, hr, hv2, ?_, ?_, hnv⟩, rfl, rfl, Nat.le_refl _, r3, hr3, kv, hr4, hk, hnk⟩, .inr rfl, hrun, hfr, hwr⟩
      · show _ + 2 ≤ f; rw [if_pos rfl] at hrm; omega
      · show n + 1 + _ + 2 < 4000; rw [if_pos rfl] at hrm; omega
      · simp only [e2]; exact hr2
      · simp only [e2]; exact hh2
  · obtain ⟨j, rfl⟩ : ∃ j, p = 2 * j + 1 := ⟨p / 2, by omega⟩
    have e1 : (2 * j + 1) / 2 = j := by omega
    have e2 : (2 * j + 1 + 1) / 2 = j + 1 := by omega
    have hj : j ≤ T.N := by omega
    have hsa : SlaveAt T w C.Ba C.ma a (j + 1) ga ta := by have := hnet.sa; simp only [e2] at this; exact this
    obtain ⟨A, hn, hc, hhv, _⟩ := hh.1
    rw [e1]
    refine (a_dup hsa hj ⟨A, hn, hc, hhv⟩).mono ?_
    rintro e w' ⟨v, rfl, hbl, hs⟩
    have hnet' : NetIs T P C w' ⟨2 * j + 1, ga, gb, ta, tb, n + 1⟩ a b v0 v1 := hnet.quiet hC hbl
    have hcs : Fu.cst ⟨2 * j + 1, ga, gb, ta, tb, n⟩ .dB = 2 := by unfold Fu.cst; exact if_neg (by show ¬ (2 * j + 1) % 2 = 0; omega)
    rw [hcs] at hrem hn4
    have hrun : Fu.run P (f + 1) ⟨2 * j + 1, ga, gb, ta, tb, n⟩ .dB = Fu.run P f ⟨2 * j + 1, ga, gb, ta, tb, n + 1⟩ .dA := by
      simp only [Fu.run, hL, Bool.false_eq_true, if_false]
      rw [if_neg (by omega)]
    obtain ⟨vg, c, rfl, hcs2, hnw, r, hr, hv2, hr2, hh2, hnv⟩ := desc1_row hs (fun i t hi ht hb => hnet'.new_not hC hold.1 hold.2 hi ht hb)
    refine ⟨_, _, rfl, ⟨2 * j + 1, ga, gb, ta, tb, n + 1⟩, .dA, a, b, ⟨hok.p, hok.ga, hok.gb, hok.ga0, hok.gb0, hok.ta, hok.tb⟩, ⟨by show (2 * j + 1) % 2 = 1; omega, hpre⟩, ?_, ?_, hnet', ⟨vg, c, rfl, hcs2, hnw, r, hr, hv2, ?_, ?_, hnv⟩, .inr rfl, hrun, Frame.of_below hbl, fun j hj => .inl hj⟩
    · show Fu.rem P ⟨2 * j + 1, ga, gb, ta, tb, n⟩ + 1 ≤ f; omega
    · show n + 1 + Fu.rem P ⟨2 * j + 1, ga, gb, ta, tb, n⟩ + 1 < 4000; omega
    · simp only [e1]; exact hr2
    · simp only [e1]; exact hh2

set_option maxHeartbeats 1000000 in
/-- The greater takes an answer. -/
theorem step_dA (hT : TkOk T) (hC : CnOk C) (hN : P.N = T.N) (hb : P.b = T.WB.length) (hok : Fu.Ok P S) (hpre : S.p % 2 = 1 ∧ S.p ≤ 2 * P.N + 1) (hrem : Fu.rem P S + 1 ≤ f + 1) (hn4 : S.n + Fu.rem P S + 1 < 4000) (hL : Fu.lostAt P S.n = false)
    (hnet : NetIs T P C w { S with n := S.n + 1 } a b v0 v1) {hv ow : Value} (hh : HeadsIn w hv ((T.A.drop (16 * (S.p / 2))).take 16)) (how : S.gb = 0 → HeadsIn w ow T.B) :
    Calls Try.prog 14 #[.pointer (some ⟨C.Bb, 0, none⟩), ddval 0 2 (dflags false (T.A.drop (16 * (S.p / 2)))) (seqAt T.s1 (S.p / 2)) hv, ow] w fun e w' => ∃ lv cd, e = .returned (.tuple #[lv, .int .i64 cd]) ∧ Goes T P C f S .dA 1 a b v0 v1 w w' lv := by
  obtain ⟨p, ga, gb, ta, tb, n⟩ := S
  simp only at hpre hn4 hL hh how
  obtain ⟨hp1, hp2⟩ := hpre
  have hold := hnet.bs.olds
  obtain ⟨j, rfl⟩ : ∃ j, p = 2 * j + 1 := ⟨p / 2, by omega⟩
  have e1 : (2 * j + 1) / 2 = j := by omega
  have e2 : (2 * j + 1 + 1) / 2 = j + 1 := by omega
  have e3 : (2 * j + 1 + 1 + 1) / 2 = j + 1 := by omega
  have hj : j ≤ T.N := by omega
  obtain rfl : gb = 0 := hok.gb0 (by show 2 * j + 1 < 2 * P.N + 2; omega)
  have hsb : MasterAt T w C.Bb C.mb b j 0 tb := by have := hnet.sb; simp only [e1] at this; exact this
  have hcall : Calls Try.prog 14 #[.pointer (some ⟨C.Bb, 0, none⟩), ddval 0 2 (dflags false (T.A.drop (16 * j))) (seqAt T.s1 j) hv, ow] w fun e w' => AfterB T C.Bb C.mb b j w e w' := by
    cases j with
    | zero => exact b_first hT hsb (by rw [e1] at hh; exact hh) (how rfl)
    | succ j => exact b_next hT hsb hj (by rw [e1] at hh; exact hh) (how rfl)
  rw [e1]
  refine hcall.mono ?_
  rintro e w' ⟨v, rfl, b', t', htt, hsb', ht, hs⟩
  have hbs : Base T P C w (n + 1) (j + 1) j a b v0 v1 (gained T.A (T.WA.take ga)) (gained T.B (T.WB.take 0)) := by have := hnet.bs; simp only [e1, e2] at this; exact this
  obtain ⟨hb1, hb2, hb3, hb4⟩ := hbs.stepB hC (kb' := j + 1) (b' := b') (by omega) ht.fr (fun i hi => by
    rcases hi with hi | hi | hi
    · exact .inl hi
    · exact .inr (.inl hi)
    · exact .inr (.inr ⟨hj, hi⟩)) ht.ord ht.held
  have hsb2 : MasterAt T w' C.Bb C.mb b' (j + 1) 0 2 := by
    by_cases hc : j < T.N ∨ T.WB ≠ []
    · rw [htt hc] at hsb'; exact hsb'
    · refine { hsb' with tim := fun e => ?_ }
      exfalso
      have hW : T.WB = [] := Classical.not_not.1 fun e => hc (.inr e)
      rw [hW] at e
      rcases e with e | e
      · exact hc (.inl (by omega))
      · exact absurd e.2 (Nat.not_lt_zero _)
  have hnet' : NetIs T P C w' ⟨2 * j + 1 + 1, ga, 0, ta, 2, n + 1⟩ a b' v0 v1 := by
    refine ⟨?_, ?_, ?_⟩
    · simp only [e2, e3]; exact hb1
    · simp only [e3]
      have := hnet.sa
      simp only [e2] at this
      exact this.frame ht.fr hb2
    · simp only [e2]; exact hsb2
  have hfr : Frame (WrS T C ⟨2 * j + 1, ga, 0, ta, tb, n⟩ a b v0 v1) w w' := by unfold WrS; simp only [e1, e2]; exact hb3
  have hwr : ∀ i, WrS T C ⟨2 * j + 1 + 1, ga, 0, ta, 2, n + 1⟩ a b' v0 v1 i → WrS T C ⟨2 * j + 1, ga, 0, ta, tb, n⟩ a b v0 v1 i ∨ w.heap.size ≤ i := by
    unfold WrS; simp only [e1, e2, e3]; exact hb4
  have hok' : Fu.Ok P ⟨2 * j + 1 + 1, ga, 0, ta, 2, n + 1⟩ := ⟨by show 2 * j + 1 + 1 ≤ _; omega, hok.ga, Nat.zero_le _, fun e => hok.ga0 (by show 2 * j + 1 < _; have : 2 * j + 1 + 1 < 2 * P.N + 1 := e; omega), fun _ => rfl, hok.ta, .inr rfl⟩
  have hrm : Fu.rem P ⟨2 * j + 1 + 1, ga, 0, ta, 2, n + 1⟩ + 1 ≤ Fu.rem P ⟨2 * j + 1, ga, 0, ta, tb, n⟩ := by
    unfold Fu.rem
    simp only
    split <;> split <;> omega
  unfold SaysB at hs
  by_cases hc : j < T.N
  · rw [if_pos hc] at hs
    have hrun : Fu.run P (f + 1) ⟨2 * j + 1, ga, 0, ta, tb, n⟩ .dA = Fu.run P f ⟨2 * j + 1 + 1, ga, 0, ta, 2, n + 1⟩ .dB := by
      simp only [Fu.run, hL, Bool.false_eq_true, if_false]
      rw [if_pos (by omega)]
    obtain ⟨vg, c, rfl, hcs2, hnw, r, hr, hv2, hr2, hh2, hnv⟩ := desc1_row hs (fun i t hi ht hb => hnet'.new_not hC hold.1 hold.2 hi ht hb)
    have hcs : Fu.cst ⟨2 * j + 1 + 1, ga, 0, ta, 2, n + 1⟩ .dB = 1 := by unfold Fu.cst; exact if_pos (by show (2 * j + 1 + 1) % 2 = 0; omega)
    refine ⟨_, _, rfl, ⟨2 * j + 1 + 1, ga, 0, ta, 2, n + 1⟩, .dB, a, b', hok', by show 2 * j + 1 + 1 ≤ 2 * P.N + 1; omega, ?_, ?_, hnet', ⟨vg, c, rfl, hcs2, hnw, r, hr, hv2, ?_, ?_, hnv⟩, .inr rfl, hrun, hfr, hwr⟩
    · rw [hcs]; omega
    · rw [hcs]; show n + 1 + _ + 1 < 4000; omega
    · simp only [e2]; exact hr2
    · simp only [e2]; exact hh2
  · rw [if_neg hc] at hs
    obtain rfl : j = T.N := by omega
    by_cases hd : T.WB = []
    · rw [if_pos hd] at hs
      have hrun : Fu.run P (f + 1) ⟨2 * T.N + 1, ga, 0, ta, tb, n⟩ .dA = Fu.run P f ⟨2 * T.N + 1 + 1, ga, 0, ta, 2, n + 1⟩ .nil := by
        rw [run_nil]
        simp only [Fu.run, hL, Bool.false_eq_true, if_false]
        rw [if_neg (by omega), if_pos (by rw [hb, hd]; rfl)]
      exact ⟨_, _, rfl, ⟨2 * T.N + 1 + 1, ga, 0, ta, 2, n + 1⟩, .nil, a, b', hok', trivial, by show _ + 0 ≤ f; omega, by show n + 1 + _ + 0 < 4000; omega, hnet', hs, .inl rfl, hrun, hfr, hwr⟩
    · rw [if_neg hd] at hs
      have hWB : T.WB.length ≠ 0 := fun e => hd (List.length_eq_zero_iff.1 e)
      have hrun : Fu.run P (f + 1) ⟨2 * T.N + 1, ga, 0, ta, tb, n⟩ .dA = Fu.run P f ⟨2 * T.N + 1 + 1, ga, 0, ta, 2, n + 1⟩ .rB := by
        simp only [Fu.run, hL, Bool.false_eq_true, if_false]
        rw [if_neg (by omega), if_neg (by rw [hb]; exact hWB)]
      have hnn2 : ∀ i, w.heap.size ≤ i → ¬ WrS T C ⟨2 * T.N + 1 + 1, ga, 0, ta, 2, n + 1⟩ a b' v0 v1 i := fun i hi => by
        unfold WrS
        simp only [e2, e3]
        refine wr_not (base := w.heap.size) (fun i hi => Nat.lt_of_lt_of_le (hC.lo i hi).2 hold.1) hold.2 hi (fun e => ?_) (fun e => ?_)
        · exact absurd e.1 (by omega)
        · exact absurd e.1 (by omega)
      obtain ⟨vg, c, rfl, hcs2, hnw, r3, hr3, kv, hr4, hk, hnk⟩ := req1_row hs hnn2
      exact ⟨_, _, rfl, ⟨2 * T.N + 1 + 1, ga, 0, ta, 2, n + 1⟩, .rB, a, b', hok', ⟨by show 2 * T.N + 1 + 1 = 2 * P.N + 2; omega, by show 0 < P.b; omega⟩, by show _ + 1 ≤ f; omega, by show n + 1 + _ + 1 < 4000; omega, hnet', ⟨vg, c, rfl, hcs2, hnw, r3, hr3, kv, hr4, hk, hnk⟩, .inr rfl, hrun, hfr, hwr⟩
end
end Go.Proofs.Ytgbmhijgpdgdbaa

namespace Go.Proofs.Ytgbmhijgpdgdbaa
open Go.RowKit

section
variable {T : Tk}
theorem learn_mem {own : List Od.Hd} {h x : Od.Hd} (hx : x ∈ learnL own h) : x ∈ own ∨ x = h := by
  unfold learnL at hx
  split at hx
  · rcases List.mem_append.1 hx with e | e
    · exact .inl e
    · exact .inr (by simpa using e)
  · split at hx
    · exact .inl hx
    · split at hx
      · exact List.mem_or_eq_of_mem_set hx
      · exact .inl hx
theorem gained_mem : ∀ {W own : List Od.Hd} {x : Od.Hd}, x ∈ gained own W → x ∈ own ∨ x ∈ W := by
  intro W
  induction W with
  | nil => intro own x h; exact .inl h
  | cons h W ih =>
    intro own x hx
    rcases ih (own := learnL own h) hx with e | e
    · rcases learn_mem e with e | e
      · exact .inl e
      · exact .inr (e ▸ List.mem_cons_self ..)
    · exact .inr (List.mem_cons_of_mem _ e)
theorem learn_len (own : List Od.Hd) (h : Od.Hd) : (learnL own h).length ≤ own.length + 1 := by
  unfold learnL
  split
  · simp
  · split
    · omega
    · split <;> simp
theorem gained_len : ∀ (W own : List Od.Hd), (gained own W).length ≤ own.length + W.length := by
  intro W
  induction W with
  | nil => intro own; exact Nat.le_refl _
  | cons h W ih =>
    intro own
    have h1 := ih (learnL own h)
    have h2 := learn_len own h
    show (gained (learnL own h) W).length ≤ _
    rw [List.length_cons]
    omega

theorem wA_sub {x : Od.Hd} (h : x ∈ T.WA) : x ∈ T.B := (List.mem_filter.1 h).1
theorem wB_sub {x : Od.Hd} (h : x ∈ T.WB) : x ∈ T.A := (List.mem_filter.1 h).1
theorem wA_len (hT : TkOk T) : T.WA.length ≤ 60 := Nat.le_trans (wantF_length _ _) hT.nB
theorem wB_len (hT : TkOk T) : T.WB.length ≤ 60 := Nat.le_trans (wantF_length _ _) hT.nA
theorem wA_uniq (hT : TkOk T) : Uniq T.WA := wantF_uniq hT.uB
theorem wB_uniq (hT : TkOk T) : Uniq T.WB := wantF_uniq hT.uA

/-- What either has, part way. -/
structure OwnOk (l : List Od.Hd) : Prop where
  u : Uniq l
  ok : ∀ x ∈ l, HdOk x ∧ HdFull x
  n : l.length ≤ 120
theorem ownA (hT : TkOk T) (g : Nat) : OwnOk (gained T.A (T.WA.take g)) := by
  refine ⟨gained_uniq hT.uA _, fun x hx => ?_, ?_⟩
  · rcases gained_mem hx with e | e
    · exact ⟨(hT.okA x e).1, (hT.okA x e).2.2⟩
    · have := hT.okB x (wA_sub (List.mem_of_mem_take e))
      exact ⟨this.1, this.2.2⟩
  · have h1 := gained_len (T.WA.take g) T.A
    have h2 := hT.nA
    have h3 := wA_len hT
    rw [List.length_take] at h1
    omega
theorem ownB (hT : TkOk T) (g : Nat) : OwnOk (gained T.B (T.WB.take g)) := by
  refine ⟨gained_uniq hT.uB _, fun x hx => ?_, ?_⟩
  · rcases gained_mem hx with e | e
    · exact ⟨(hT.okB x e).1, (hT.okB x e).2.2⟩
    · have := hT.okA x (wB_sub (List.mem_of_mem_take e))
      exact ⟨this.1, this.2.2⟩
  · have h1 := gained_len (T.WB.take g) T.B
    have h2 := hT.nB
    have h3 := wB_len hT
    rw [List.length_take] at h1
    omega

theorem find_have {l : List Od.Hd} (hu : Uniq l) {k : Od.Ky} {x : Od.Hd} (h : haveOf l k = some x) {j : Int} (hj : FindIs l k j) : ∃ i0 : Nat, j = i0 ∧ l[i0]? = some x := by
  obtain ⟨hm, hk⟩ := have_key h
  rcases hj with ⟨i, y, rfl, hy, hyk, _⟩ | ⟨_, hn⟩
  · refine ⟨i, rfl, ?_⟩
    have := have_mem hu (List.mem_of_getElem? hy)
    rw [hyk, h] at this
    cases this
    exact hy
  · exact absurd hk (hn x hm)

/-- What is asked for lies in the other's heads, as it was described. -/
theorem wantA_has (hT : TkOk T) {x : Od.Hd} (hx : x ∈ T.WA) (g : Nat) : haveOf (gained T.B (T.WB.take g)) (keyOfHd x) = some x := by
  rw [gained_have hT.uB ((wB_uniq hT).take g)]
  have hn : haveOf (T.WB.take g) (keyOfHd x) = none := have_none.2 fun y hy => have_none.1 (wants_apart hT.uA hT.uB hx) y (List.mem_of_mem_take hy)
  rw [hn]
  exact have_mem hT.uB (wA_sub hx)
theorem wantB_has (hT : TkOk T) {x : Od.Hd} (hx : x ∈ T.WB) (g : Nat) : haveOf (gained T.A (T.WA.take g)) (keyOfHd x) = some x := by
  rw [gained_have hT.uA ((wA_uniq hT).take g)]
  have hn : haveOf (T.WA.take g) (keyOfHd x) = none := have_none.2 fun y hy => have_none.1 (wants_apart hT.uB hT.uA hx) y (List.mem_of_mem_take hy)
  rw [hn]
  exact have_mem hT.uA (wB_sub hx)
end

section
variable {T : Tk} {P : Fu.Pa} {C : Cn} {w w' : World} {S : Fu.Sy} {a b : Adj} {v0 v1 : Value} {f i : Nat} {l0 l1 : List Od.Hd}

/-- i heads of the answer to the lesser's request have come. -/
structure MidA (T : Tk) (P : Fu.Pa) (C : Cn) (w : World) (S : Fu.Sy) (i : Nat) (l0 : List Od.Hd) (a b : Adj) (v0 v1 : Value) : Prop where
  bs : Base T P C w S.n (T.N + 1) (S.p / 2) a b v0 v1 l0 (gained T.B (T.WB.take S.gb))
  con : AdjC a 1 2
  ms : a.master = false
  so : a.smtu = 0 ∧ a.sopts = 2 ∧ a.sflags = dflags false (T.A.drop (16 * T.N)) ∧ a.sseq = seqAt T.s1 T.N ∧ a.seq = seqAt T.s1 T.N ∧ a.taken = true ∧ a.lopts = 2 ∧ a.lflags = flB T.B T.N ∧ a.lseq = seqAt T.s1 T.N
  sh : HeadsIn w a.sheads ((T.A.drop (16 * T.N)).take 16)
  lf : HeadsIn w a.left (T.A.drop (16 * (T.N + 1)))
  ld : LoadAt w C.Ba C.ma a (T.WA.drop (S.ga + i)) (((T.WA.drop S.ga).map keyOfHd).take 16)
  tm : a.timer = S.ta
  sb : MasterAt T w C.Bb C.mb b (S.p / 2) S.gb S.tb

theorem LoadAt.frame {B m : Nat} {W : List Od.Hd} {G : List Od.Ky} {F : Nat → Prop} (h : LoadAt w B m a W G) (hf : Frame F w w') (ho : Off F B m a) : LoadAt w' B m a W G := ⟨h.made, h.rx, h.st, ho.wants hf h.wa, ho.asks hf h.ga⟩

theorem MidA.quiet (hC : CnOk C) (h : MidA T P C w S i l0 a b v0 v1) (hb : Below w.heap.size w w') : MidA T P C w' S i l0 a b v0 v1 := by
  have hf : Frame (fun _ => False) w w' := Frame.of_below hb
  have ho : ∀ {B m : Nat} {a : Adj}, Off (fun _ => False) B m a := fun _ e => e.elim
  exact ⟨h.bs.quiet hC hb, h.con, h.ms, h.so, (ho (B := 0) (m := 0)).sent hf h.sh, (ho (B := 0) (m := 0)).left hf h.lf, h.ld.frame hf ho, h.tm, h.sb.frame hf ho⟩

theorem MidA.start (hok : Fu.Ok P S) (hN : P.N = T.N) (ha : P.a = T.WA.length) (hpre : 2 * P.N + 1 ≤ S.p ∧ S.ga < P.a) (h : NetIs T P C w S a b v0 v1) : MidA T P C w S 0 (gained T.A (T.WA.take S.ga)) a b v0 v1 := by
  have hp := hok.p
  have e : (S.p + 1) / 2 = T.N + 1 := by omega
  have hsa := h.sa
  have hbs := h.bs
  rw [e] at hsa hbs
  obtain ⟨s1, s2, s3, s4, s5, s6, s7, s8, s9, s10, s11⟩ := hsa.some_ (by omega)
  obtain ⟨f1, f2, f3⟩ := (hsa.fin rfl).1 (by omega)
  exact ⟨hbs, hsa.toAdjC, hsa.ms, ⟨s1, s2, s3, s4, s5, s6, s7, s8, s9⟩, s10, s11, ⟨hsa.made, hsa.rx, f1, f2, f3⟩, hsa.tim (.inr ⟨rfl, by omega⟩), h.sb⟩

theorem MidA.learn (hC : CnOk C) (h : MidA T P C w S i l0 a b v0 v1) {w1 : World} {v' : Value} {l' : List Od.Hd} (ho : w1.ownsRow C.N0 59 8 v' l'.length (l'.flatMap hcells)) (hf1 : Frame (fun j => v0.ownBlock = some j) w w1) (hv' : v'.ownBlock = v0.ownBlock ∨ ∃ g, v'.ownBlock = some g ∧ w.heap.size ≤ g) :
    MidA T P C (w1.setCell ⟨C.Wb, 2, none⟩ v') S i l' a b v' v1 ∧ Frame (Wr T C (T.N + 1) (S.p / 2) a b v0 v1) w (w1.setCell ⟨C.Wb, 2, none⟩ v') ∧ ∀ j, Wr T C (T.N + 1) (S.p / 2) a b v' v1 j → Wr T C (T.N + 1) (S.p / 2) a b v0 v1 j ∨ w.heap.size ≤ j := by
  obtain ⟨h1, h2, h3, h4, h5, h6⟩ := h.bs.learn0 hC ho hf1 hv'
  exact ⟨⟨h1, h.con, h.ms, h.so, h2.sent h4 h.sh, h2.left h4 h.lf, h.ld.frame h4 h2, h.tm, h.sb.frame h4 h3⟩, h5, h6⟩

set_option maxHeartbeats 1000000 in
theorem MidA.got (hT : TkOk T) (hC : CnOk C) (hN : P.N = T.N) (ha : P.a = T.WA.length) (hok : Fu.Ok P S) (hpre : 2 * P.N + 1 ≤ S.p ∧ S.ga < P.a) (hrem : Fu.rem P S + 1 ≤ f + 1) (hn4 : S.n + Fu.rem P S + 1 < 4000) (hL : Fu.lostAt P S.n = false)
    (h : MidA T P C w { S with n := S.n + 1 } i (gained T.A (T.WA.take (S.ga + (i + 1)))) a b v0 v1) (hi : i < (((T.WA.drop S.ga).map keyOfHd).take 16).length) {e : Ending} (hg : GotStep C.Ba C.ma a (T.WA.drop (S.ga + (i + 1))) (((T.WA.drop S.ga).map keyOfHd).take 16) w e w') :
    ∃ v, e = .returned v ∧ ((i + 1 < (((T.WA.drop S.ga).map keyOfHd).take 16).length ∧ v = .slice none 0 0 ∧ ∃ a', MidA T P C w' { S with n := S.n + 1 } (i + 1) (gained T.A (T.WA.take (S.ga + (i + 1)))) a' b v0 v1 ∧ Frame (Wr T C (T.N + 1) (S.p / 2) a b v0 v1) w w' ∧ ∀ j, Wr T C (T.N + 1) (S.p / 2) a' b v0 v1 j → Wr T C (T.N + 1) (S.p / 2) a b v0 v1 j ∨ w.heap.size ≤ j) ∨
      (i + 1 = (((T.WA.drop S.ga).map keyOfHd).take 16).length ∧ Goes T P C f S .rA 0 a b v0 v1 w w' v)) := by
  have hp := hok.p
  have ep : (S.p + 1) / 2 = T.N + 1 := by omega
  have hlen : (((T.WA.drop S.ga).map keyOfHd).take 16).length = min 16 (T.WA.length - S.ga) := by simp
  rw [hlen] at hi ⊢
  obtain ⟨hfr, a', hkp, hord, hask, hres⟩ := hg
  have hst : stillL (T.WA.drop (S.ga + (i + 1))) (((T.WA.drop S.ga).map keyOfHd).take 16) = decide (i + 1 < 16 ∧ i + 1 < T.WA.length - S.ga) := by
    rw [← List.drop_drop, still_first ((wA_uniq hT).drop _), List.length_drop]
  obtain ⟨hb1, hb2, hb3, hb4⟩ := h.bs.stepA hC (ka' := T.N + 1) (a' := a') (Nat.le_refl _) hfr (fun j hj => hj.imp id .inl) hord (fun j hj => by
    rcases hj with hj | hj | hj
    · rw [hkp.left] at hj; exact .inl (.inl hj)
    · rw [hkp.sheads] at hj; exact .inl (.inr (.inl hj))
    · rcases hask with e | e
      · rw [e] at hj; exact .inl (.inr (.inr hj))
      · exact .inr (e j hj))
  have hN1 : ∀ j, HeldB a j → ¬ (j = C.Ba ∨ j = C.ma) := fun j hj e => by
    have h1 := (h.bs.la j (.inl hj)).1
    rcases e with e | e
    · have := (hC.lo j (.inr (.inl e))).2; omega
    · have := (hC.lo j (.inr (.inr (.inl e)))).2; omega
  have hsh : HeadsIn w' a'.sheads ((T.A.drop (16 * T.N)).take 16) := by rw [hkp.sheads]; exact h.sh.apart hfr (fun j hj => hN1 j (.inr (.inl hj)))
  have hlf : HeadsIn w' a'.left (T.A.drop (16 * (T.N + 1))) := by rw [hkp.left]; exact h.lf.apart hfr (fun j hj => hN1 j (.inl hj))
  have hso : a'.smtu = 0 ∧ a'.sopts = 2 ∧ a'.sflags = dflags false (T.A.drop (16 * T.N)) ∧ a'.sseq = seqAt T.s1 T.N ∧ a'.seq = seqAt T.s1 T.N ∧ a'.taken = true ∧ a'.lopts = 2 ∧ a'.lflags = flB T.B T.N ∧ a'.lseq = seqAt T.s1 T.N := by
    rw [hkp.smtu, hkp.sopts, hkp.sflags, hkp.sseq, hkp.seq, hkp.taken, hkp.lopts, hkp.lflags, hkp.lseq]
    exact h.so
  have hcon : AdjC a' 1 2 := hkp.con h.con
  have hms : a'.master = false := by rw [hkp.master]; exact h.ms
  have hsb := h.sb.frame hfr hb2
  have hfW : Frame (WrS T C S a b v0 v1) w w' := by unfold WrS; rw [ep]; exact hb3
  by_cases hX : T.WA.drop (S.ga + (i + 1)) = []
  · rw [if_pos hX] at hres
    have hle : T.WA.length ≤ S.ga + (i + 1) := List.drop_eq_nil_iff.1 hX
    obtain ⟨rfl, hadj, hs3⟩ := hres (by rw [hst]; exact decide_eq_false (by omega))
    refine ⟨_, rfl, .inr ⟨by omega, { S with n := S.n + 1, ga := P.a, ta := 2 }, .nil, a', b, ⟨hp, Nat.le_refl _, hok.gb, fun e => absurd hpre.1 (by show ¬ _; have : S.p < 2 * P.N + 1 := e; omega), hok.gb0, .inr rfl, hok.tb⟩, trivial, ?_, ?_, ⟨?_, ?_, hsb⟩, rfl, .inl rfl, ?_, hfW, ?_⟩⟩
    · unfold Fu.rem at hrem ⊢; simp only [Fu.cst]; omega
    · unfold Fu.rem at hn4 ⊢; simp only [Fu.cst]; omega
    · show Base T P C w' (S.n + 1) ((S.p + 1) / 2) (S.p / 2) a' b v0 v1 (gained T.A (T.WA.take P.a)) _
      rw [ep, show T.WA.take P.a = T.WA.take (S.ga + (i + 1)) from by rw [ha, List.take_of_length_le (Nat.le_refl _), List.take_of_length_le hle]]
      exact hb1
    · show SlaveAt T w' C.Ba C.ma a' ((S.p + 1) / 2) P.a 2
      rw [ep]
      obtain ⟨q1, q2, q3, q4, q5, q6, q7, q8, q9⟩ := hso
      exact ⟨hcon, hadj, hms, fun e => by omega, fun _ => ⟨q1, q2, q3, q4, q5, q6, q7, q8, q9, hsh, hlf⟩, fun _ e => by omega, fun _ => ⟨fun e => by omega, fun _ => hs3⟩, fun e => by omega⟩
    · rw [run_nil]
      simp only [Fu.run, hL, Bool.false_eq_true, if_false]
      rw [if_neg (by omega)]
    · intro j hj
      unfold WrS at hj ⊢
      simp only [ep] at hj ⊢
      exact hb4 j hj
  · rw [if_neg hX] at hres
    have hlt : S.ga + (i + 1) < T.WA.length := by
      refine Nat.lt_of_not_le fun e => hX (List.drop_eq_nil_iff.2 e)
    by_cases hs : stillL (T.WA.drop (S.ga + (i + 1))) (((T.WA.drop S.ga).map keyOfHd).take 16) = true
    · rw [if_pos hs] at hres
      obtain ⟨rfl, hld, htm⟩ := hres
      rw [hst] at hs
      have hs := of_decide_eq_true hs
      refine ⟨_, rfl, .inl ⟨by omega, rfl, a', ⟨hb1, hcon, hms, hso, hsh, hlf, hld, ?_, hsb⟩, hb3, hb4⟩⟩
      rw [htm]
      exact h.tm
    · rw [if_neg hs] at hres
      obtain ⟨v, rfl, hreq, hld, htm⟩ := hres
      rw [hst] at hs
      have hs : ¬ (i + 1 < 16 ∧ i + 1 < T.WA.length - S.ga) := fun e => hs (decide_eq_true e)
      obtain rfl : i = 15 := by omega
      have h16 : S.ga + (15 + 1) = S.ga + 16 := rfl
      rw [h16] at hreq hld hb1 hlt
      have hnet' : NetIs T P C w' { S with n := S.n + 1, ga := S.ga + 16, ta := 2 } a' b v0 v1 := by
        refine ⟨?_, ?_, hsb⟩
        · show Base T P C w' (S.n + 1) ((S.p + 1) / 2) (S.p / 2) a' b v0 v1 (gained T.A (T.WA.take (S.ga + 16))) _
          rw [ep]
          exact hb1
        · show SlaveAt T w' C.Ba C.ma a' ((S.p + 1) / 2) (S.ga + 16) 2
          rw [ep]
          obtain ⟨q1, q2, q3, q4, q5, q6, q7, q8, q9⟩ := hso
          exact ⟨hcon, hld.wa.adj, hms, fun e => by omega, fun _ => ⟨q1, q2, q3, q4, q5, q6, q7, q8, q9, hsh, hlf⟩, fun _ e => by omega, fun _ => ⟨fun _ => ⟨hld.st, hld.wa, hld.ga⟩, fun e => by omega⟩, fun _ => htm⟩
      have hold := h.bs.olds
      have hwr : ∀ j, WrS T C { S with n := S.n + 1, ga := S.ga + 16, ta := 2 } a' b v0 v1 j → WrS T C S a b v0 v1 j ∨ w.heap.size ≤ j := by
        intro j hj
        unfold WrS at hj ⊢
        simp only [ep] at hj ⊢
        exact hb4 j hj
      have hnn2 : ∀ j, w.heap.size ≤ j → ¬ WrS T C { S with n := S.n + 1, ga := S.ga + 16, ta := 2 } a' b v0 v1 j := fun j hj => by
        unfold WrS
        simp only [ep]
        refine wr_not (base := w.heap.size) (fun i hi => Nat.lt_of_lt_of_le (hC.lo i hi).2 hold.1) hold.2 hj (fun e => ?_) (fun e => ?_)
        · exact absurd e.1 (by omega)
        · have := (h.bs.lb j (.inr e.2)).2; omega
      obtain ⟨vg, c, rfl, hcs2, hnw, r3, hr3, kv, hr4, hk, hnk⟩ := req1_row hreq hnn2
      refine ⟨_, rfl, .inr ⟨by omega, { S with n := S.n + 1, ga := S.ga + 16, ta := 2 }, .rA, a', b, ⟨hp, by show S.ga + 16 ≤ P.a; omega, hok.gb, fun e => absurd hpre.1 (by have : S.p < 2 * P.N + 1 := e; omega), hok.gb0, .inr rfl, hok.tb⟩, ⟨hpre.1, by show S.ga + 16 < P.a; omega⟩, ?_, ?_, hnet', ⟨vg, c, rfl, hcs2, hnw, r3, hr3, kv, hr4, hk, hnk⟩, .inr rfl, ?_, hfW, hwr⟩⟩
      · unfold Fu.rem at hrem ⊢; simp only [Fu.cst]; omega
      · unfold Fu.rem at hn4 ⊢; simp only [Fu.cst]; omega
      · simp only [Fu.run, hL, Bool.false_eq_true, if_false]
        rw [if_pos (by omega)]

/-- i heads of the answer to the greater's request have come. -/
structure MidB (T : Tk) (P : Fu.Pa) (C : Cn) (w : World) (S : Fu.Sy) (i : Nat) (l1 : List Od.Hd) (a b : Adj) (v0 v1 : Value) : Prop where
  bs : Base T P C w S.n (T.N + 1) (T.N + 1) a b v0 v1 (gained T.A (T.WA.take S.ga)) l1
  con : AdjC b 2 1
  so : b.master = true ∧ b.taken = true ∧ b.lopts = 2 ∧ b.lseq = seqAt T.s1 T.N
  ld : LoadAt w C.Bb C.mb b (T.WB.drop (S.gb + i)) (((T.WB.drop S.gb).map keyOfHd).take 16)
  tm : b.timer = S.tb
  sa : SlaveAt T w C.Ba C.ma a (T.N + 1) S.ga S.ta

theorem MidB.quiet (hC : CnOk C) (h : MidB T P C w S i l1 a b v0 v1) (hb : Below w.heap.size w w') : MidB T P C w' S i l1 a b v0 v1 := by
  have hf : Frame (fun _ => False) w w' := Frame.of_below hb
  have ho : ∀ {B m : Nat} {a : Adj}, Off (fun _ => False) B m a := fun _ e => e.elim
  exact ⟨h.bs.quiet hC hb, h.con, h.so, h.ld.frame hf ho, h.tm, h.sa.frame hf ho⟩

theorem MidB.start (hN : P.N = T.N) (hb : P.b = T.WB.length) (hpre : S.p = 2 * P.N + 2 ∧ S.gb < P.b) (h : NetIs T P C w S a b v0 v1) : MidB T P C w S 0 (gained T.B (T.WB.take S.gb)) a b v0 v1 := by
  have e : (S.p + 1) / 2 = T.N + 1 := by omega
  have e2 : S.p / 2 = T.N + 1 := by omega
  have hsb := h.sb
  have hbs := h.bs
  have hsa := h.sa
  rw [e, e2] at hbs
  rw [e] at hsa
  rw [e2] at hsb
  obtain ⟨f1, f2, f3⟩ := (hsb.fin rfl).1 (by omega)
  exact ⟨hbs, hsb.toAdjC, hsb.some_ (by omega), ⟨hsb.made, hsb.rx, f1, f2, f3⟩, hsb.tim (.inr ⟨rfl, by omega⟩), hsa⟩

theorem MidB.learn (hC : CnOk C) (h : MidB T P C w S i l1 a b v0 v1) {w1 : World} {v' : Value} {l' : List Od.Hd} (ho : w1.ownsRow C.N0 59 8 v' l'.length (l'.flatMap hcells)) (hf1 : Frame (fun j => v1.ownBlock = some j) w w1) (hv' : v'.ownBlock = v1.ownBlock ∨ ∃ g, v'.ownBlock = some g ∧ w.heap.size ≤ g) :
    MidB T P C (w1.setCell ⟨C.Wb, 3, none⟩ v') S i l' a b v0 v' ∧ Frame (Wr T C (T.N + 1) (T.N + 1) a b v0 v1) w (w1.setCell ⟨C.Wb, 3, none⟩ v') ∧ ∀ j, Wr T C (T.N + 1) (T.N + 1) a b v0 v' j → Wr T C (T.N + 1) (T.N + 1) a b v0 v1 j ∨ w.heap.size ≤ j := by
  obtain ⟨h1, h2, h3, h4, h5, h6⟩ := h.bs.learn1 hC ho hf1 hv'
  exact ⟨⟨h1, h.con, h.so, h.ld.frame h4 h3, h.tm, h.sa.frame h4 h2⟩, h5, h6⟩

set_option maxHeartbeats 1000000 in
theorem MidB.got (hT : TkOk T) (hC : CnOk C) (hN : P.N = T.N) (hb : P.b = T.WB.length) (hok : Fu.Ok P S) (hpre : S.p = 2 * P.N + 2 ∧ S.gb < P.b) (hrem : Fu.rem P S + 1 ≤ f + 1) (hn4 : S.n + Fu.rem P S + 1 < 4000) (hL : Fu.lostAt P S.n = false)
    (h : MidB T P C w { S with n := S.n + 1 } i (gained T.B (T.WB.take (S.gb + (i + 1)))) a b v0 v1) (hi : i < (((T.WB.drop S.gb).map keyOfHd).take 16).length) {e : Ending} (hg : GotStep C.Bb C.mb b (T.WB.drop (S.gb + (i + 1))) (((T.WB.drop S.gb).map keyOfHd).take 16) w e w') :
    ∃ v, e = .returned v ∧ ((i + 1 < (((T.WB.drop S.gb).map keyOfHd).take 16).length ∧ v = .slice none 0 0 ∧ ∃ b', MidB T P C w' { S with n := S.n + 1 } (i + 1) (gained T.B (T.WB.take (S.gb + (i + 1)))) a b' v0 v1 ∧ Frame (Wr T C (T.N + 1) (T.N + 1) a b v0 v1) w w' ∧ ∀ j, Wr T C (T.N + 1) (T.N + 1) a b' v0 v1 j → Wr T C (T.N + 1) (T.N + 1) a b v0 v1 j ∨ w.heap.size ≤ j) ∨
      (i + 1 = (((T.WB.drop S.gb).map keyOfHd).take 16).length ∧ Goes T P C f S .rB 1 a b v0 v1 w w' v)) := by
  have hp := hok.p
  have ep : (S.p + 1) / 2 = T.N + 1 := by omega
  have eq : S.p / 2 = T.N + 1 := by omega
  have hlen : (((T.WB.drop S.gb).map keyOfHd).take 16).length = min 16 (T.WB.length - S.gb) := by simp
  rw [hlen] at hi ⊢
  obtain ⟨hfr, b', hkp, hord, hask, hres⟩ := hg
  have hst : stillL (T.WB.drop (S.gb + (i + 1))) (((T.WB.drop S.gb).map keyOfHd).take 16) = decide (i + 1 < 16 ∧ i + 1 < T.WB.length - S.gb) := by
    rw [← List.drop_drop, still_first ((wB_uniq hT).drop _), List.length_drop]
  obtain ⟨hb1, hb2, hb3, hb4⟩ := h.bs.stepB hC (kb' := T.N + 1) (b' := b') (Nat.le_refl _) hfr (fun j hj => hj.imp id .inl) hord (fun j hj => by
    rcases hj with hj | hj | hj
    · rw [hkp.left] at hj; exact .inl (.inl hj)
    · rw [hkp.sheads] at hj; exact .inl (.inr (.inl hj))
    · rcases hask with e | e
      · rw [e] at hj; exact .inl (.inr (.inr hj))
      · exact .inr (e j hj))
  have hso : b'.master = true ∧ b'.taken = true ∧ b'.lopts = 2 ∧ b'.lseq = seqAt T.s1 T.N := by
    rw [hkp.master, hkp.taken, hkp.lopts, hkp.lseq]
    exact h.so
  have hcon : AdjC b' 2 1 := hkp.con h.con
  have hsa := h.sa.frame hfr hb2
  have hfW : Frame (WrS T C S a b v0 v1) w w' := by unfold WrS; rw [ep, eq]; exact hb3
  by_cases hX : T.WB.drop (S.gb + (i + 1)) = []
  · rw [if_pos hX] at hres
    have hle : T.WB.length ≤ S.gb + (i + 1) := List.drop_eq_nil_iff.1 hX
    obtain ⟨rfl, hadj, hs3⟩ := hres (by rw [hst]; exact decide_eq_false (by omega))
    refine ⟨_, rfl, .inr ⟨by omega, { S with n := S.n + 1, gb := P.b, tb := 2 }, .nil, a, b', ⟨hp, hok.ga, Nat.le_refl _, hok.ga0, fun e => absurd hpre.1 (by have : S.p < 2 * P.N + 2 := e; omega), hok.ta, .inr rfl⟩, trivial, ?_, ?_, ⟨?_, ?_, ?_⟩, rfl, .inl rfl, ?_, hfW, ?_⟩⟩
    · unfold Fu.rem at hrem ⊢; simp only [Fu.cst]; omega
    · unfold Fu.rem at hn4 ⊢; simp only [Fu.cst]; omega
    · show Base T P C w' (S.n + 1) ((S.p + 1) / 2) (S.p / 2) a b' v0 v1 _ (gained T.B (T.WB.take P.b))
      rw [ep, eq, show T.WB.take P.b = T.WB.take (S.gb + (i + 1)) from by rw [hb, List.take_of_length_le (Nat.le_refl _), List.take_of_length_le hle]]
      exact hb1
    · show SlaveAt T w' C.Ba C.ma a ((S.p + 1) / 2) S.ga S.ta
      rw [ep]
      exact hsa
    · show MasterAt T w' C.Bb C.mb b' (S.p / 2) P.b 2
      rw [eq]
      exact ⟨hcon, hadj, fun e => by omega, fun _ e => by omega, fun e => by omega, fun _ => hso, fun _ => ⟨fun e => by omega, fun _ => hs3⟩, fun e => by omega⟩
    · rw [run_nil]
      simp only [Fu.run, hL, Bool.false_eq_true, if_false]
      rw [if_neg (by omega)]
    · intro j hj
      unfold WrS at hj ⊢
      simp only [ep, eq] at hj ⊢
      exact hb4 j hj
  · rw [if_neg hX] at hres
    have hlt : S.gb + (i + 1) < T.WB.length := by
      refine Nat.lt_of_not_le fun e => hX (List.drop_eq_nil_iff.2 e)
    by_cases hs : stillL (T.WB.drop (S.gb + (i + 1))) (((T.WB.drop S.gb).map keyOfHd).take 16) = true
    · rw [if_pos hs] at hres
      obtain ⟨rfl, hld, htm⟩ := hres
      rw [hst] at hs
      have hs := of_decide_eq_true hs
      refine ⟨_, rfl, .inl ⟨by omega, rfl, b', ⟨hb1, hcon, hso, hld, ?_, hsa⟩, hb3, hb4⟩⟩
      rw [htm]
      exact h.tm
    · rw [if_neg hs] at hres
      obtain ⟨v, rfl, hreq, hld, htm⟩ := hres
      rw [hst] at hs
      have hs : ¬ (i + 1 < 16 ∧ i + 1 < T.WB.length - S.gb) := fun e => hs (decide_eq_true e)
      obtain rfl : i = 15 := by omega
      have h16 : S.gb + (15 + 1) = S.gb + 16 := rfl
      rw [h16] at hreq hld hb1 hlt
      have hnet' : NetIs T P C w' { S with n := S.n + 1, gb := S.gb + 16, tb := 2 } a b' v0 v1 := by
        refine ⟨?_, ?_, ?_⟩
        · show Base T P C w' (S.n + 1) ((S.p + 1) / 2) (S.p / 2) a b' v0 v1 _ (gained T.B (T.WB.take (S.gb + 16)))
          rw [ep, eq]
          exact hb1
        · show SlaveAt T w' C.Ba C.ma a ((S.p + 1) / 2) S.ga S.ta
          rw [ep]
          exact hsa
        · show MasterAt T w' C.Bb C.mb b' (S.p / 2) (S.gb + 16) 2
          rw [eq]
          exact ⟨hcon, hld.wa.adj, fun e => by omega, fun _ e => by omega, fun e => by omega, fun _ => hso, fun _ => ⟨fun _ => ⟨hld.st, hld.wa, hld.ga⟩, fun e => by omega⟩, fun _ => htm⟩
      have hold := h.bs.olds
      have hwr : ∀ j, WrS T C { S with n := S.n + 1, gb := S.gb + 16, tb := 2 } a b' v0 v1 j → WrS T C S a b v0 v1 j ∨ w.heap.size ≤ j := by
        intro j hj
        unfold WrS at hj ⊢
        simp only [ep, eq] at hj ⊢
        exact hb4 j hj
      have hnn2 : ∀ j, w.heap.size ≤ j → ¬ WrS T C { S with n := S.n + 1, gb := S.gb + 16, tb := 2 } a b' v0 v1 j := fun j hj => by
        unfold WrS
        simp only [ep, eq]
        refine wr_not (base := w.heap.size) (fun i hi => Nat.lt_of_lt_of_le (hC.lo i hi).2 hold.1) hold.2 hj (fun e => ?_) (fun e => ?_)
        · exact absurd e.1 (by omega)
        · exact absurd e.1 (by omega)
      obtain ⟨vg, c, rfl, hcs2, hnw, r3, hr3, kv, hr4, hk, hnk⟩ := req1_row hreq hnn2
      refine ⟨_, rfl, .inr ⟨by omega, { S with n := S.n + 1, gb := S.gb + 16, tb := 2 }, .rB, a, b', ⟨hp, hok.ga, by show S.gb + 16 ≤ P.b; omega, hok.ga0, fun e => absurd hpre.1 (by have : S.p < 2 * P.N + 2 := e; omega), hok.ta, .inr rfl⟩, ⟨hpre.1, by show S.gb + 16 < P.b; omega⟩, ?_, ?_, hnet', ⟨vg, c, rfl, hcs2, hnw, r3, hr3, kv, hr4, hk, hnk⟩, .inr rfl, ?_, hfW, hwr⟩⟩
      · unfold Fu.rem at hrem ⊢; simp only [Fu.cst]; omega
      · unfold Fu.rem at hn4 ⊢; simp only [Fu.cst]; omega
      · simp only [Fu.run, hL, Bool.false_eq_true, if_false]
        rw [if_pos (by omega)]
end
end Go.Proofs.Ytgbmhijgpdgdbaa

namespace Go.Proofs.Ytgbmhijgpdgdbaa
open Go.RowKit

section
variable {T : Tk} {P : Fu.Pa} {C : Cn} {w w' : World} {W : Nat → Prop} {S : Fu.Sy} {a b : Adj} {v0 v1 : Value} {f : Nat} {r : Raw} {sg : Sg}

theorem SgAt.frame (h : SgAt T w W S sg r) (hf : Frame W w w') : SgAt T w' W S sg r := by
  cases sg with
  | firstA => exact h
  | dA => obtain ⟨hv, e, h1, h2⟩ := h; exact ⟨hv, e, h1.apart hf h2, h2⟩
  | dB => obtain ⟨hv, e, h1, h2⟩ := h; exact ⟨hv, e, h1.apart hf h2, h2⟩
  | rA => obtain ⟨kv, e, h1, h2⟩ := h; exact ⟨kv, e, hf.own h1 h2, h2⟩
  | rB => obtain ⟨kv, e, h1, h2⟩ := h; exact ⟨kv, e, hf.own h1 h2, h2⟩

/-- A description to the greater. -/
def ReadyB (T : Tk) (P : Fu.Pa) (C : Cn) (f : Nat) (S : Fu.Sy) (ml : Fu.Ml) (a b : Adj) (v0 v1 : Value) (w : World) (fl sq : Int) (hv : Value) : Prop :=
  ∀ w5 ow, Below w.heap.size w w5 → HeadsIn w5 ow (gained T.B (T.WB.take S.gb)) → Calls Try.prog 14 #[.pointer (some ⟨C.Bb, 0, none⟩), ddval 0 2 fl sq hv, ow] w5 fun e w' => ∃ lv cd, e = .returned (.tuple #[lv, .int .i64 cd]) ∧ Goes T P C f S ml 1 a b v0 v1 w5 w' lv
def ReadyA (T : Tk) (P : Fu.Pa) (C : Cn) (f : Nat) (S : Fu.Sy) (ml : Fu.Ml) (a b : Adj) (v0 v1 : Value) (w : World) (fl sq : Int) (hv : Value) : Prop :=
  ∀ w5 ow, Below w.heap.size w w5 → HeadsIn w5 ow (gained T.A (T.WA.take S.ga)) → Calls Try.prog 14 #[.pointer (some ⟨C.Ba, 0, none⟩), ddval 0 2 fl sq hv, ow] w5 fun e w' => ∃ lv cd, e = .returned (.tuple #[lv, .int .i64 cd]) ∧ Goes T P C f S ml 0 a b v0 v1 w5 w' lv

theorem ready_b (hT : TkOk T) (hC : CnOk C) (hN : P.N = T.N) (hb : P.b = T.WB.length) (hsg : sg = .firstA ∨ sg = .dA) (hok : Fu.Ok P S) (hpre : Fu.Pre P S sg.ml) (hrem : Fu.rem P S + Fu.cst S sg.ml ≤ f + 1) (hn4 : S.n + Fu.rem P S + Fu.cst S sg.ml < 4000) (hL : Fu.lostAt P S.n = false)
    (hnet : NetIs T P C w { S with n := S.n + 1 } a b v0 v1) (hr : SgAt T w W S sg r) : ∃ fl sq hv, r = ⟨true, 0, 2, fl, sq, hv, .slice none 0 0⟩ ∧ ReadyB T P C f S sg.ml a b v0 v1 w fl sq hv := by
  rcases hsg with rfl | rfl
  · obtain ⟨A, c, rfl⟩ := hr
    exact ⟨_, _, _, rfl, fun w5 ow hb5 _ => step_firstA hC hok hpre hrem hn4 (hnet.quiet hC hb5) ⟨A, c, rfl⟩⟩
  · obtain ⟨hv, rfl, hh, _⟩ := hr
    exact ⟨_, _, _, rfl, fun w5 ow hb5 ho => step_dA hT hC hN hb hok hpre hrem hn4 hL (hnet.quiet hC hb5) (hh.below hb5) (fun e => by rw [e] at ho; exact ho)⟩
theorem ready_a (hT : TkOk T) (hC : CnOk C) (hN : P.N = T.N) (ha : P.a = T.WA.length) (hok : Fu.Ok P S) (hpre : Fu.Pre P S .dB) (hrem : Fu.rem P S + Fu.cst S .dB ≤ f + 1) (hn4 : S.n + Fu.rem P S + Fu.cst S .dB < 4000) (hL : Fu.lostAt P S.n = false)
    (hnet : NetIs T P C w { S with n := S.n + 1 } a b v0 v1) (hr : SgAt T w W S .dB r) : ∃ fl sq hv, r = ⟨true, 0, 2, fl, sq, hv, .slice none 0 0⟩ ∧ ReadyA T P C f S .dB a b v0 v1 w fl sq hv := by
  obtain ⟨hv, rfl, hh, _⟩ := hr
  exact ⟨_, _, _, rfl, fun w5 ow hb5 ho => step_dB hT hC hN ha hok hpre hrem hn4 hL (hnet.quiet hC hb5) (hh.below hb5) (fun e => by rw [e] at ho; exact ho)⟩

/-- The keys asked for. -/
def keysA (T : Tk) (S : Fu.Sy) : List Od.Ky := ((T.WA.drop S.ga).map keyOfHd).take 16
def keysB (T : Tk) (S : Fu.Sy) : List Od.Ky := ((T.WB.drop S.gb).map keyOfHd).take 16
theorem keysA_mem {k : Od.Ky} (h : k ∈ keysA T S) : ∃ x ∈ T.WA, keyOfHd x = k := by
  obtain ⟨x, hx, e⟩ := List.mem_map.1 (List.mem_of_mem_take h)
  exact ⟨x, List.mem_of_mem_drop hx, e⟩
theorem keysB_mem {k : Od.Ky} (h : k ∈ keysB T S) : ∃ x ∈ T.WB, keyOfHd x = k := by
  obtain ⟨x, hx, e⟩ := List.mem_map.1 (List.mem_of_mem_take h)
  exact ⟨x, List.mem_of_mem_drop hx, e⟩
theorem keysA_len : (keysA T S).length = min 16 (T.WA.length - S.ga) := by simp [keysA]
theorem keysB_len : (keysB T S).length = min 16 (T.WB.length - S.gb) := by simp [keysB]
theorem keysA_at {k : Nat} (hk : k < (keysA T S).length) : ∃ x, T.WA[S.ga + k]? = some x ∧ (keysA T S)[k]? = some (keyOfHd x) := by
  rw [keysA_len] at hk
  have h1 : S.ga + k < T.WA.length := by omega
  refine ⟨_, List.getElem?_eq_getElem h1, ?_⟩
  unfold keysA
  rw [List.getElem?_take, if_pos (by omega), List.getElem?_map, List.getElem?_drop, List.getElem?_eq_getElem h1]
  rfl
theorem keysB_at {k : Nat} (hk : k < (keysB T S).length) : ∃ x, T.WB[S.gb + k]? = some x ∧ (keysB T S)[k]? = some (keyOfHd x) := by
  rw [keysB_len] at hk
  have h1 : S.gb + k < T.WB.length := by omega
  refine ⟨_, List.getElem?_eq_getElem h1, ?_⟩
  unfold keysB
  rw [List.getElem?_take, if_pos (by omega), List.getElem?_map, List.getElem?_drop, List.getElem?_eq_getElem h1]
  rfl

theorem askB (hT : TkOk T) (hC : CnOk C) (hN : P.N = T.N) (hok : Fu.Ok P S) (hpre : Fu.Pre P S .rA) (hnet : NetIs T P C w { S with n := S.n + 1 } a b v0 v1) (hr : SgAt T w W S .rA r) : ∃ kv, r = oneReq kv ∧
    ∀ w5 ow, Below w.heap.size w w5 → HeadsIn w5 ow (gained T.B (T.WB.take S.gb)) → Calls Try.prog 24 #[.pointer (some ⟨C.Bb, 0, none⟩), kv, ow] w5 fun e w' => AskPost (keysA T S) w5 e w' := by
  obtain ⟨kv, rfl, hk, _⟩ := hr
  refine ⟨kv, rfl, fun w5 ow hb5 ho => ?_⟩
  have hk5 : KeysOwn w5 0 kv (keysA T S) := (Frame.of_below (S := fun _ => False) hb5).own hk (fun _ _ e => e)
  obtain ⟨A, c, rfl⟩ := own_slice hk5
  have hsb := (hnet.quiet hC hb5).sb
  have hp := hok.p
  have hN0 : 0 < T.N := (hT.more 0).1 (.inl rfl)
  have hp2 : 2 * P.N + 1 ≤ S.p := hpre.1
  have hst : (b.state == 0) = false := by
    by_cases hc : S.p / 2 ≤ T.N
    · rw [(hsb.mid (by show 1 ≤ S.p / 2; omega) hc).1]; rfl
    · obtain ⟨f1, f2⟩ := hsb.fin (by show S.p / 2 = T.N + 1; omega)
      by_cases hg : S.gb < T.WB.length
      · rw [(f1 hg).1]; rfl
      · rw [f2 (by show T.WB.length ≤ S.gb; omega)]; rfl
  have hO := ownB hT S.gb
  refine asked_all w5 C.Bb b (keysA T S) _ A _ c ow hsb.adj hsb.made hst (Reads.of_own hk5) rfl ho (fun x hx => ?_) (fun x hx => (hO.ok x hx).1) ?_ (by have := hO.n; omega) (fun x hx => ?_)
  · obtain ⟨y, hy, rfl⟩ := keysA_mem hx
    exact (hT.okB y (wA_sub hy)).1.ky
  · rw [keysA_len]; omega
  · obtain ⟨y, hy, rfl⟩ := keysA_mem hx
    exact ⟨y, haveOf_mem (wantA_has hT hy S.gb), rfl⟩
theorem askA (hT : TkOk T) (hC : CnOk C) (hN : P.N = T.N) (_hok : Fu.Ok P S) (hpre : Fu.Pre P S .rB) (hnet : NetIs T P C w { S with n := S.n + 1 } a b v0 v1) (hr : SgAt T w W S .rB r) : ∃ kv, r = oneReq kv ∧
    ∀ w5 ow, Below w.heap.size w w5 → HeadsIn w5 ow (gained T.A (T.WA.take S.ga)) → Calls Try.prog 24 #[.pointer (some ⟨C.Ba, 0, none⟩), kv, ow] w5 fun e w' => AskPost (keysB T S) w5 e w' := by
  obtain ⟨kv, rfl, hk, _⟩ := hr
  refine ⟨kv, rfl, fun w5 ow hb5 ho => ?_⟩
  have hk5 : KeysOwn w5 0 kv (keysB T S) := (Frame.of_below (S := fun _ => False) hb5).own hk (fun _ _ e => e)
  obtain ⟨A, c, rfl⟩ := own_slice hk5
  have hsa := (hnet.quiet hC hb5).sa
  have hp2 : S.p = 2 * P.N + 2 := hpre.1
  have hst : (a.state == 0) = false := by
    obtain ⟨f1, f2⟩ := hsa.fin (by show (S.p + 1) / 2 = T.N + 1; omega)
    by_cases hg : S.ga < T.WA.length
    · rw [(f1 hg).1]; rfl
    · rw [f2 (by show T.WA.length ≤ S.ga; omega)]; rfl
  have hO := ownA hT S.ga
  refine asked_all w5 C.Ba a (keysB T S) _ A _ c ow hsa.adj hsa.made hst (Reads.of_own hk5) rfl ho (fun x hx => ?_) (fun x hx => (hO.ok x hx).1) ?_ (by have := hO.n; omega) (fun x hx => ?_)
  · obtain ⟨y, hy, rfl⟩ := keysB_mem hx
    exact (hT.okA y (wB_sub hy)).1.ky
  · rw [keysB_len]; omega
  · obtain ⟨y, hy, rfl⟩ := keysB_mem hx
    exact ⟨y, haveOf_mem (wantB_has hT hy S.ga), rfl⟩

/-- In the loop over the keys that were asked for. -/
structure KinA (T : Tk) (P : Fu.Pa) (C : Cn) (w0 : World) (W0 : Nat → Prop) (S : Fu.Sy) (kv : Value) (k : Nat) (a b : Adj) (v0 v1 : Value) (w : World) : Prop where
  mid : MidA T P C w { S with n := S.n + 1 } k (gained T.A (T.WA.take (S.ga + k))) a b v0 v1
  fr : Frame W0 w0 w
  wr : ∀ j, Wr T C (T.N + 1) (S.p / 2) a b v0 v1 j → W0 j ∨ w0.heap.size ≤ j
  ks : KeysOwn w 0 kv (keysA T S)
  kn : ∀ j, kv.ownBlock = some j → ¬ Wr T C (T.N + 1) (S.p / 2) a b v0 v1 j
structure KinB (T : Tk) (P : Fu.Pa) (C : Cn) (w0 : World) (W0 : Nat → Prop) (S : Fu.Sy) (kv : Value) (k : Nat) (a b : Adj) (v0 v1 : Value) (w : World) : Prop where
  mid : MidB T P C w { S with n := S.n + 1 } k (gained T.B (T.WB.take (S.gb + k))) a b v0 v1
  fr : Frame W0 w0 w
  wr : ∀ j, Wr T C (T.N + 1) (T.N + 1) a b v0 v1 j → W0 j ∨ w0.heap.size ≤ j
  ks : KeysOwn w 0 kv (keysB T S)
  kn : ∀ j, kv.ownBlock = some j → ¬ Wr T C (T.N + 1) (T.N + 1) a b v0 v1 j

/-- A copy of what one has. -/
theorem copy_own {base : Nat} {v : Value} {l : List Od.Hd} (h : w.ownsRow base 59 8 v l.length (l.flatMap hcells)) (hn : l.length ≤ 120) :
    Calls Try.prog 15 #[v] w.drew fun e w' => ∃ v', e = .returned v' ∧ HeadsIn w' v' l ∧ Below w.heap.size w w' := by
  have hd : w.drew.ownsRow base 59 8 v l.length (l.flatMap hcells) := h
  refine (copyHeads_any w.drew v l (HeadsIn.own hd rfl) (by omega)).mono ?_
  rintro e w' ⟨v', rfl, h1, h2⟩
  exact ⟨v', rfl, HeadsIn.own h1 rfl, (Below.refl w.heap.size w).drew.trans h2⟩
end
end Go.Proofs.Ytgbmhijgpdgdbaa

namespace Go.Proofs.Ytgbmhijgpdgdbaa
open Go.RowKit

noncomputable def codeAt : List Nat → Code → Code
  | 0 :: p, .seq x _ => codeAt p x
  | 1 :: p, .seq _ y => codeAt p y
  | 2 :: p, .block _ x => codeAt p x
  | 3 :: p, .cond _ x _ => codeAt p x
  | 4 :: p, .loop x => codeAt p x
  | _, x => x
/-- What is left of a round behind the loss. -/
noncomputable def restC : Code := codeAt [1, 2, 4, 1, 0, 2, 1, 1, 1] (Try.f18.body.getD .skip)

/-- A round of the loop over the keys. -/
noncomputable def keyC : Code := codeAt [1, 1, 1, 1, 1, 1, 2, 4, 1, 0, 2] restC

def Onward (T : Tk) (P : Fu.Pa) (C : Cn) (f : Nat) : Prop :=
  ∀ (S : Fu.Sy) (ml : Fu.Ml) (w : World) (a b : Adj) (v0 v1 lv : Value) (t : Int), Fu.Ok P S → Fu.Pre P S ml → Fu.rem P S + Fu.cst S ml ≤ f → S.n + Fu.rem P S + Fu.cst S ml < 4000 → NetIs T P C w S a b v0 v1 → MlAt T w (WrS T C S a b v0 v1) S ml lv → (ml = .nil ∨ toOf ml = t) →
    Calls Try.prog 18 #[.pointer (some ⟨C.Wb, 0, none⟩), .int .i64 t, lv] w fun e w' => e = .returned (.tuple #[]) ∧ Went T P C w (WrS T C S a b v0 v1) (Fu.run P f S ml) w'

theorem RowAt.cells {w : World} {vg i : Nat} {d : Bool} {m o f s : Int} {hv kv : Value} (h : RowAt w vg i ⟨d, m, o, f, s, hv, kv⟩) :
    w.cell? ⟨vg, i * 7, none⟩ = some (.bool d) ∧ w.cell? ⟨vg, i * 7 + 1, none⟩ = some (.int .u16 m) ∧ w.cell? ⟨vg, i * 7 + 2, none⟩ = some (.int .u8 o) ∧ w.cell? ⟨vg, i * 7 + 3, none⟩ = some (.int .u8 f) ∧ w.cell? ⟨vg, i * 7 + 4, none⟩ = some (.int .u32 s) ∧ w.cell? ⟨vg, i * 7 + 5, none⟩ = some hv ∧ w.cell? ⟨vg, i * 7 + 6, none⟩ = some kv :=
  ⟨h 0 _ rfl, h 1 _ rfl, h 2 _ rfl, h 3 _ rfl, h 4 _ rfl, h 5 _ rfl, h 6 _ rfl⟩
/-- What came of a message goes on to what its answers come to. -/
theorem Goes.on {T : Tk} {P : Fu.Pa} {C : Cn} {f : Nat} {S : Fu.Sy} {ml : Fu.Ml} {t : Int} {a b : Adj} {v0 v1 lv : Value} {w w' : World} (IH : Onward T P C f) (h : Goes T P C f S ml t a b v0 v1 w w' lv) :
    Calls Try.prog 18 #[.pointer (some ⟨C.Wb, 0, none⟩), .int .i64 (1 - t), lv] w' fun e w2 => e = .returned (.tuple #[]) ∧ Went T P C w (WrS T C S a b v0 v1) (Fu.run P (f + 1) S ml) w2 := by
  obtain ⟨S', ml', a', b', h1, h2, h3, h4, h5, h6, h7, h8, h9, h10⟩ := h
  refine (IH S' ml' w' a' b' v0 v1 lv (1 - t) h1 h2 h3 h4 h5 h6 h7).mono ?_
  rintro e w2 ⟨rfl, hg⟩
  rw [h8]
  exact ⟨rfl, hg.trans h9 h10⟩
end Go.Proofs.Ytgbmhijgpdgdbaa

namespace Go.Proofs.Ytgbmhijgpdgdbaa
open Go.RowKit

section
variable {T : Tk} {P : Fu.Pa} {C : Cn} {w0 w w6 w8 w9 : World} {W0 : Nat → Prop} {S : Fu.Sy} {a b : Adj} {v0 v1 v' kv : Value} {f k : Nat}

theorem KinA.near {W : Nat → Prop} (hkin : KinA T P C w0 W0 S kv k a b v0 v1 w) (hb : Below w.heap.size w w6) (hW : ∀ j, W j → Wr T C (T.N + 1) (S.p / 2) a b v0 v1 j ∨ w6.heap.size ≤ j) (hf : Frame W w6 w8) : Frame W0 w0 w8 ∧ (∀ j, Wr T C (T.N + 1) (S.p / 2) a b v0 v1 j → W0 j ∨ w0.heap.size ≤ j) ∧ KeysOwn w8 0 kv (keysA T S) := by
  have h6 : Frame W0 w0 w6 := hkin.fr.trans (Frame.of_below hb)
  have hs0 := hkin.fr.size
  refine ⟨h6.trans' hf (fun j hj e => ?_), hkin.wr, hf.own ((Frame.of_below (S := fun _ => False) hb).own hkin.ks (fun _ _ e => e)) (fun j hj e => ?_)⟩
  · rcases hW j e with e | e
    · rcases hkin.wr j e with e | e
      · exact e
      · omega
    · have := hb.size; omega
  · rcases hW j e with e | e
    · exact hkin.kn j hj e
    · have := (hkin.ks.lt j hj).2; have := hb.size; omega

theorem KinA.step (hT : TkOk T) (hC : CnOk C) (hN : P.N = T.N) (ha : P.a = T.WA.length) (IH : Onward T P C f) (hok : Fu.Ok P S) (hpre : 2 * P.N + 1 ≤ S.p ∧ S.ga < P.a) (hrem : Fu.rem P S + 1 ≤ f + 1) (hn4 : S.n + Fu.rem P S + 1 < 4000) (hL : Fu.lostAt P S.n = false)
    (hkin : KinA T P C w0 W0 S kv k a b v0 v1 w) (hk : k < (keysA T S).length) (hb : Below w.heap.size w w6) (hfr : Frame (Wr T C (T.N + 1) (S.p / 2) a b v0 v1) w6 w8) (hwr : ∀ j, Wr T C (T.N + 1) (S.p / 2) a b v' v1 j → Wr T C (T.N + 1) (S.p / 2) a b v0 v1 j ∨ w6.heap.size ≤ j)
    (hmid : MidA T P C w8 { S with n := S.n + 1 } k (gained T.A (T.WA.take (S.ga + (k + 1)))) a b v' v1) {e : Ending} (hg : GotStep C.Ba C.ma a (T.WA.drop (S.ga + (k + 1))) (keysA T S) w8 e w9) :
    ∃ v, e = .returned v ∧ Calls Try.prog 18 #[.pointer (some ⟨C.Wb, 0, none⟩), .int .i64 1, v] w9 fun e w' => e = .returned (.tuple #[]) ∧ ((k + 1 < (keysA T S).length ∧ ∃ a' v0', KinA T P C w0 W0 S kv (k + 1) a' b v0' v1 w') ∨ (k + 1 = (keysA T S).length ∧ Went T P C w0 W0 (Fu.run P (f + 1) S .rA) w')) := by
  obtain ⟨hf8, hw0, hk8⟩ := hkin.near hb (fun j e => .inl e) hfr
  have hs06 : w0.heap.size ≤ w6.heap.size := Nat.le_trans hkin.fr.size hb.size
  have hs68 := hfr.size
  have hw8 : ∀ j, Wr T C (T.N + 1) (S.p / 2) a b v' v1 j → W0 j ∨ w0.heap.size ≤ j := fun j hj => by
    rcases hwr j hj with e | e
    · exact hw0 j e
    · exact .inr (by omega)
  have hkn8 : ∀ j, kv.ownBlock = some j → ¬ Wr T C (T.N + 1) (S.p / 2) a b v' v1 j := fun j hj e => by
    rcases hwr j e with e | e
    · exact hkin.kn j hj e
    · have := (hkin.ks.lt j hj).2; have := hb.size; omega
  obtain ⟨v, rfl, h⟩ := hmid.got hT hC hN ha hok hpre hrem hn4 hL hk hg
  refine ⟨v, rfl, ?_⟩
  rcases h with ⟨h1, rfl, a', h2, h3, h4⟩ | ⟨h1, h2⟩
  · refine (deliver_nil w9 _ 1).mono ?_
    rintro e w' ⟨rfl, rfl⟩
    refine ⟨rfl, .inl ⟨h1, a', v', h2, hf8.trans' h3 (fun j hj e => ?_), fun j hj => ?_, h3.own hk8 hkn8, fun j hj e => ?_⟩⟩
    · rcases hw8 j e with e | e
      · exact e
      · omega
    · rcases h4 j hj with e | e
      · exact hw8 j e
      · exact .inr (by omega)
    · rcases h4 j e with e | e
      · exact hkn8 j hj e
      · have := (hk8.lt j hj).2; omega
  · refine (h2.on IH).mono ?_
    rintro e w' ⟨rfl, hg⟩
    have ep : (S.p + 1) / 2 = T.N + 1 := by have := hok.p; omega
    refine ⟨rfl, .inr ⟨h1, Went.trans hf8 (fun j hj => ?_) hg⟩⟩
    unfold WrS at hj
    rw [ep] at hj
    exact hw8 j hj

theorem KinB.near {W : Nat → Prop} (hkin : KinB T P C w0 W0 S kv k a b v0 v1 w) (hb : Below w.heap.size w w6) (hW : ∀ j, W j → Wr T C (T.N + 1) (T.N + 1) a b v0 v1 j ∨ w6.heap.size ≤ j) (hf : Frame W w6 w8) : Frame W0 w0 w8 ∧ (∀ j, Wr T C (T.N + 1) (T.N + 1) a b v0 v1 j → W0 j ∨ w0.heap.size ≤ j) ∧ KeysOwn w8 0 kv (keysB T S) := by
  have h6 : Frame W0 w0 w6 := hkin.fr.trans (Frame.of_below hb)
  have hs0 := hkin.fr.size
  refine ⟨h6.trans' hf (fun j hj e => ?_), hkin.wr, hf.own ((Frame.of_below (S := fun _ => False) hb).own hkin.ks (fun _ _ e => e)) (fun j hj e => ?_)⟩
  · rcases hW j e with e | e
    · rcases hkin.wr j e with e | e
      · exact e
      · omega
    · have := hb.size; omega
  · rcases hW j e with e | e
    · exact hkin.kn j hj e
    · have := (hkin.ks.lt j hj).2; have := hb.size; omega

theorem KinB.step (hT : TkOk T) (hC : CnOk C) (hN : P.N = T.N) (hbb : P.b = T.WB.length) (IH : Onward T P C f) (hok : Fu.Ok P S) (hpre : S.p = 2 * P.N + 2 ∧ S.gb < P.b) (hrem : Fu.rem P S + 1 ≤ f + 1) (hn4 : S.n + Fu.rem P S + 1 < 4000) (hL : Fu.lostAt P S.n = false)
    (hkin : KinB T P C w0 W0 S kv k a b v0 v1 w) (hk : k < (keysB T S).length) (hb : Below w.heap.size w w6) (hfr : Frame (Wr T C (T.N + 1) (T.N + 1) a b v0 v1) w6 w8) (hwr : ∀ j, Wr T C (T.N + 1) (T.N + 1) a b v0 v' j → Wr T C (T.N + 1) (T.N + 1) a b v0 v1 j ∨ w6.heap.size ≤ j)
    (hmid : MidB T P C w8 { S with n := S.n + 1 } k (gained T.B (T.WB.take (S.gb + (k + 1)))) a b v0 v') {e : Ending} (hg : GotStep C.Bb C.mb b (T.WB.drop (S.gb + (k + 1))) (keysB T S) w8 e w9) :
    ∃ v, e = .returned v ∧ Calls Try.prog 18 #[.pointer (some ⟨C.Wb, 0, none⟩), .int .i64 0, v] w9 fun e w' => e = .returned (.tuple #[]) ∧ ((k + 1 < (keysB T S).length ∧ ∃ b' v1', KinB T P C w0 W0 S kv (k + 1) a b' v0 v1' w') ∨ (k + 1 = (keysB T S).length ∧ Went T P C w0 W0 (Fu.run P (f + 1) S .rB) w')) := by
  obtain ⟨hf8, hw0, hk8⟩ := hkin.near hb (fun j e => .inl e) hfr
  have hs06 : w0.heap.size ≤ w6.heap.size := Nat.le_trans hkin.fr.size hb.size
  have hs68 := hfr.size
  have hw8 : ∀ j, Wr T C (T.N + 1) (T.N + 1) a b v0 v' j → W0 j ∨ w0.heap.size ≤ j := fun j hj => by
    rcases hwr j hj with e | e
    · exact hw0 j e
    · exact .inr (by omega)
  have hkn8 : ∀ j, kv.ownBlock = some j → ¬ Wr T C (T.N + 1) (T.N + 1) a b v0 v' j := fun j hj e => by
    rcases hwr j e with e | e
    · exact hkin.kn j hj e
    · have := (hkin.ks.lt j hj).2; have := hb.size; omega
  obtain ⟨v, rfl, h⟩ := hmid.got hT hC hN hbb hok hpre hrem hn4 hL hk hg
  refine ⟨v, rfl, ?_⟩
  rcases h with ⟨h1, rfl, a', h2, h3, h4⟩ | ⟨h1, h2⟩
  · refine (deliver_nil w9 _ 0).mono ?_
    rintro e w' ⟨rfl, rfl⟩
    refine ⟨rfl, .inl ⟨h1, a', v', h2, hf8.trans' h3 (fun j hj e => ?_), fun j hj => ?_, h3.own hk8 hkn8, fun j hj e => ?_⟩⟩
    · rcases hw8 j e with e | e
      · exact e
      · omega
    · rcases h4 j hj with e | e
      · exact hw8 j e
      · exact .inr (by omega)
    · rcases h4 j e with e | e
      · exact hkn8 j hj e
      · have := (hk8.lt j hj).2; omega
  · refine (h2.on IH).mono ?_
    rintro e w' ⟨rfl, hg⟩
    have ep : (S.p + 1) / 2 = T.N + 1 := by have := hpre.1; omega
    have eq : S.p / 2 = T.N + 1 := by have := hpre.1; omega
    refine ⟨rfl, .inr ⟨h1, Went.trans hf8 (fun j hj => ?_) hg⟩⟩
    unfold WrS at hj
    rw [ep, eq] at hj
    exact hw8 j hj
end
end Go.Proofs.Ytgbmhijgpdgdbaa

namespace Go.Proofs.Ytgbmhijgpdgdbaa
open Go.RowKit

theorem exits_any {P : Program} {fn : Func} {id : Nat} {K0 : Act → World → Prop} {Q : Exit → Act → World → Prop} : ∀ e a w, Exit.inBlock id (Exit.then K0 (bodyPost P fn fun _ _ => False)) e a w → Exit.inBlock id (Exit.then K0 Q) e a w := by
  intro e a w h
  cases e with
  | normal => exact h
  | exit id' =>
    simp only [Exit.inBlock] at h ⊢
    split
    · rename_i hi
      rw [if_pos hi] at h
      exact h
    · rename_i hi
      rw [if_neg hi] at h
      exact h.elim
  | ret => obtain ⟨_, _, _, h⟩ := h; exact h.elim
  | panic c => obtain ⟨_, h⟩ := h; exact h.elim
  | outgrown => exact h.elim
  | _ => exact h.elim
end Go.Proofs.Ytgbmhijgpdgdbaa
