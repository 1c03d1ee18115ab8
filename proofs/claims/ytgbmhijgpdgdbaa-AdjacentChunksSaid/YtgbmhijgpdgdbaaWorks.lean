/- The statements' 'works': a router that takes one head. -/
import Derived.Test.YtgbmhijgpdgdbaaBegin
import Derived.Test.YtgbmhijgpdgdbaaAgain
import Derived.Test.YtgbmhijgpdgdbaaGot
namespace Go.Proofs.Ytgbmhijgpdgdbaa
open Go.RowKit

set_option maxHeartbeats 400000 in
theorem state_yes (w : World) (B : Nat) (a : Adj) (h : AdjAt w B a) (hm : a.made = true) : Calls Try.prog 16 #[.pointer (some ⟨B, 0, none⟩)] w fun e w' => e = .returned (.int .u8 a.state) ∧ w = w' := by
  have c8 : w.cell? ⟨B, 8, none⟩ = some (.int .u8 a.state) := h.cell 8
  go_enter Try.func16, Try.ntmps16
  go_wp2_with (go_at_call 50; refine (none_yes _ B a h hm).mono ?_; rintro e w' ⟨rfl, rfl⟩)
  go_ret
  exact ⟨rfl, rfl⟩

theorem below_of {w w' w0 : World} {F : Nat → Prop} {k : Nat} (h0 : Below k w0 w) (h : Frame F w w') (hF : ∀ i, F i → k ≤ i) (hk : k ≤ w.heap.size) : Below k w0 w' :=
  ⟨h.os.trans h0.os, h.tape.trans h0.tape, h.output.trans h0.output, Nat.le_trans h0.size h.size, fun i hi => (h.block i (Nat.lt_of_lt_of_le hi hk) (fun e => by have := hF i e; omega)).trans (h0.block i hi)⟩

def wh : Od.Hd := ⟨0, 0, 1, 2, 2, -2147483647, 0, 0⟩
def wk : Od.Ky := ⟨1, 2, 2⟩

/-- The first description is taken. -/
theorem works_first (W : World) (B m : Nat) (a : Adj) (h : Wants W B m a [] (fun _ => none)) (hmade : a.made = true) (hmtu : a.mtu = 0) (hst : a.state = 0) (hrx : a.rxmt = 5) (hlt : a.self < a.other) (hty : a.types = 65535) :
    Calls Try.prog 14 #[.pointer (some ⟨B, 0, none⟩), .agg #[.int .u16 0, .int .u8 2, .int .u8 7, .int .u32 40, .slice none 0 0], .slice none 0 0] W fun e w' =>
      ∃ v, e = .returned (.tuple #[v, .int .i64 0]) ∧ ∃ ov lv sv, Taken W B m a (({ ({ a with master := false, state := 1 } : Adj).took 2 7 40 with order := ov, seq := 40 } : Adj).described 0 lv sv) [] (fun _ => none) [] [] w' := by
  refine (Describe_start W B a 0 2 7 40 (.slice none 0 0) (.slice none 0 0) (fun v w' => SlaveV W B m { a with master := false, state := 1 } [] (fun _ => none) 2 7 40 [] v w') h.adj (.inl rfl) hmade hmtu hst ?_).mono ?_
  · intro w1 hb
    have hf : Frame (fun _ => False) W w1 := Frame.of_below hb
    refine (begin_slave w1 B m a (fun _ => none) 0 2 7 40 (.slice none 0 0) (.slice none 0 0) [] (h.frame hf (fun _ e => e.elim)) (HeadsIn.nil _) (HeadsIn.nil _) (by simp) (by simp) (by simp) (by rw [hrx]; omega) hlt hty (by decide) (by decide)).mono ?_
    rintro e w' ⟨v, rfl, hs⟩
    exact ⟨v, rfl, SlaveV.from (x := a.left) (Frame.of_below hb) hs⟩
  · rintro e w' ⟨v, rfl, ov, lv, sv, hs⟩
    unfold SlaveB at hs
    rw [show kindOf (decide (16 < ([] : List Od.Hd).length) || isM 7) [] = .more from by rw [show (decide (16 < ([] : List Od.Hd).length) || isM 7) = true from by decide]; rfl] at hs
    obtain ⟨h1, _⟩ := hs
    exact ⟨v, rfl, ov, lv, sv, Taken.from (a1 := { a with master := false, state := 1 }) (Frame.refl _ _) rfl h1⟩

theorem wh_ok : HdOk wh := ⟨by decide, by decide, by decide, by decide, by decide, by decide, by decide, by decide⟩
theorem wk_ok : KyOk wk := wh_ok.ky

/-- The second one, with one head. -/
theorem works_second (W : World) (B m : Nat) (a : Adj) (hv : Value) (h : Wants W B m a [] (fun _ => none)) (hL : HeadsIn W a.left []) (hp : HeadsIn W hv [wh]) (hmade : a.made = true) (hmtu : a.mtu = 0) (hst : a.state = 1) (hrx : a.rxmt = 5) (hty : a.types = 65535)
    (hms : a.master = false) (hseq : a.seq = 40) (htk : a.taken = true) (hls : a.lseq = 40) (hlo : a.lopts = 2) :
    Calls Try.prog 14 #[.pointer (some ⟨B, 0, none⟩), ddval 0 2 1 41 hv, .slice none 0 0] W fun e w' =>
      ∃ v, e = .returned (.tuple #[v, .int .i64 0]) ∧ ∃ ov lv sv av ohv kv, Taken W B m a (({ ({ a.took 2 1 41 with order := ov, seq := 41 } : Adj).described (dflags a.master []) lv sv with state := 2 } : Adj).requested av) [wk] (upd (fun _ => none) wk (some wh)) [] [] w' ∧
        w'.ownsRow W.heap.size 40 7 v 2 (Raw.cells ⟨true, a.mtu, a.opts, dflags a.master [], 41, ohv, .slice none 0 0⟩ ++ Raw.cells (oneReq kv)) ∧ KeysOwn w' W.heap.size av [wk] ∧ KeysOwn w' W.heap.size kv [wk] := by
  have hfit : Fits a 2 1 41 := ⟨by decide, by rw [hms]; decide, hlo.symm, by rw [nextSeq, hms, hseq]; decide, by omega, by omega⟩
  have hs : hv = .slice none 0 0 ∨ ∃ A n c, hv = .slice A n c := by
    obtain ⟨A, n, c, e, -⟩ := hp.1
    exact .inr ⟨A, n, c, e⟩
  refine (Describe_again W B a 0 2 1 41 hv (.slice none 0 0) (fun v w' => SlaveV W B m a [wk] (upd (fun _ => none) wk (some wh)) 2 1 41 [] v w') h.adj hs hmade hmtu (by rw [hst]; decide) ?_).mono ?_
  · intro w1 hb
    have hf : Frame (fun _ => False) W w1 := Frame.of_below hb
    have h1 := h.frame hf (fun _ e => e.elim)
    refine (again_any w1 B a 0 2 1 41 hv (.slice none 0 0) [wh] (fun v w' => SlaveV W B m a [wk] (upd (fun _ => none) wk (some wh)) 2 1 41 [] v w') h1.adj (hp.below hb) (by simp [wh_ok]) (by simp) hty hfit htk (by rw [hls]; decide) hst ?_).mono (fun e w' he => he)
    intro w2 hb2
    have hf2 : Frame (fun _ => False) W w2 := hf.trans (Frame.of_below hb2)
    refine (take_slave w2 B m a [] (fun _ => none) 0 2 1 41 hv (.slice none 0 0) [wh] [] [] (h.frame hf2 (fun _ e => e.elim)) (hL.frame hf2 (noNo _)) (hp.frame hf2 (noNo _)) (HeadsIn.nil _) (by simp [wh_ok]) (by simp) (by simp) (by simp) (by simp) (by rw [hrx]; omega) hms ?_).mono ?_
    · intro k x hx
      exact ⟨rfl, by
        have hk : k = 0 := by
          have := (List.getElem?_eq_some_iff.1 hx).1
          simpa using this
        subst hk
        rfl⟩
    · rintro e w' ⟨v, rfl, hsv⟩
      exact ⟨v, rfl, SlaveV.from (x := a.left) (hf2.mono fun _ e => e.elim) hsv.toV⟩
  · rintro e w' ⟨v, rfl, ov, lv, sv, hs⟩
    unfold SlaveB at hs
    rw [show kindOf (decide (16 < ([] : List Od.Hd).length) || isM 1) [wk] = .loading from by rw [show (decide (16 < ([] : List Od.Hd).length) || isM 1) = false from by decide]; rfl] at hs
    obtain ⟨av, ohv, kv, h1, h2, -, h4, h5⟩ := hs
    exact ⟨v, rfl, ov, lv, sv, av, ohv, kv, h1, h2, h4, h5⟩

end Go.Proofs.Ytgbmhijgpdgdbaa
