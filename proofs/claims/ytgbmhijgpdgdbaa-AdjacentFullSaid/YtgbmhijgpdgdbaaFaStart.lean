/- The two sides as they begin; a round; the end. No walk. -/
import Derived.Test.YtgbmhijgpdgdbaaFaDeliver
import Derived.Test.YtgbmhijgpdgdbaaFaExits
import Derived.Test.YtgbmhijgpdgdbaaFaUnlikeG
namespace Go.Proofs.Ytgbmhijgpdgdbaa
open Go.RowKit

section
variable {T : Tk} {P : Fu.Pa} {C : Cn} {w : World} {S : Fu.Sy} {a b : Adj} {v0 v1 lv : Value} {f : Nat} {t : Int}

theorem went_refl (h : NetIs T P C w S a b v0 v1) : Went T P C w (WrS T C S a b v0 v1) S w := ⟨a, b, v0, v1, h, Frame.refl _ _, fun _ hj => .inl hj⟩

theorem onward_nil (f : Nat) (h : NetIs T P C w S a b v0 v1) (hm : MlAt T w (WrS T C S a b v0 v1) S .nil lv) (t : Int) :
    Calls Try.prog 18 #[.pointer (some ⟨C.Wb, 0, none⟩), .int .i64 t, lv] w fun e w' => e = .returned (.tuple #[]) ∧ Went T P C w (WrS T C S a b v0 v1) (Fu.run P f S .nil) w' := by
  have hm : lv = .slice none 0 0 := hm
  subst hm
  refine (deliver_nil w _ t).mono ?_
  rintro e w' ⟨rfl, rfl⟩
  rw [run_nil]
  exact ⟨rfl, went_refl h⟩

theorem onward_one (hT : TkOk T) (hC : CnOk C) (hN : P.N = T.N) (ha : P.a = T.WA.length) (hb : P.b = T.WB.length) (IH : Onward T P C f) (sg : Sg) (hok : Fu.Ok P S) (hpre : Fu.Pre P S sg.ml) (hrem : Fu.rem P S + Fu.cst S sg.ml ≤ f + 1) (hn4 : S.n + Fu.rem P S + Fu.cst S sg.ml < 4000)
    (hnet : NetIs T P C w S a b v0 v1) (hm : MlAt T w (WrS T C S a b v0 v1) S sg.ml lv) (ht : sg.to = t) :
    Calls Try.prog 18 #[.pointer (some ⟨C.Wb, 0, none⟩), .int .i64 t, lv] w fun e w' => e = .returned (.tuple #[]) ∧ Went T P C w (WrS T C S a b v0 v1) (Fu.run P (f + 1) S sg.ml) w' := by
  have hm2 : ∃ vg c, lv = .slice (some ⟨vg, 0, none⟩) 1 c ∧ (∃ cs, Blk w vg 40 cs) ∧ ¬ WrS T C S a b v0 v1 vg ∧ Left T w (WrS T C S a b v0 v1) S vg 0 [sg] := by cases sg <;> exact hm
  obtain ⟨vg, c, rfl, hcs, hnw, hl⟩ := hm2
  exact deliver_list hT hC hN ha hb f IH w S a b v0 v1 [sg] t vg c 1 rfl (by decide) (fun g hg => by rw [List.mem_singleton.1 hg]; exact ht) ⟨hnet, Frame.refl _ _, fun _ hj => .inl hj, ⟨hok, hpre, hrem, hn4, (Fu.run_did P (f + 1) S sg.ml hok hpre hrem).ok⟩, rfl, hl, hnw, hcs⟩

theorem onward_all (hT : TkOk T) (hC : CnOk C) (hN : P.N = T.N) (ha : P.a = T.WA.length) (hb : P.b = T.WB.length) : ∀ f g, g ≤ f → Onward T P C g := by
  intro f
  induction f with
  | zero =>
    intro g hg S ml w a b v0 v1 lv t hok hpre hrem hn4 hnet hm ht
    have hc : Fu.cst S ml = 0 := by omega
    have : ml = .nil := by
      cases ml with
      | nil => rfl
      | dB => simp only [Fu.cst] at hc; split at hc <;> omega
      | _ => simp only [Fu.cst] at hc; omega
    subst this
    exact onward_nil g hnet hm t
  | succ f ih =>
    intro g hg
    by_cases hle : g ≤ f
    · exact ih g hle
    obtain rfl : g = f + 1 := by omega
    have IH := ih f (Nat.le_refl _)
    intro S ml w a b v0 v1 lv t hok hpre hrem hn4 hnet hm ht
    cases ml with
    | nil => exact onward_nil _ hnet hm t
    | firstA => exact onward_one hT hC hN ha hb IH .firstA hok hpre hrem hn4 hnet hm (ht.elim (fun e => by cases e) id)
    | dA => exact onward_one hT hC hN ha hb IH .dA hok hpre hrem hn4 hnet hm (ht.elim (fun e => by cases e) id)
    | dB => exact onward_one hT hC hN ha hb IH .dB hok hpre hrem hn4 hnet hm (ht.elim (fun e => by cases e) id)
    | rA => exact onward_one hT hC hN ha hb IH .rA hok hpre hrem hn4 hnet hm (ht.elim (fun e => by cases e) id)
    | rB => exact onward_one hT hC hN ha hb IH .rB hok hpre hrem hn4 hnet hm (ht.elim (fun e => by cases e) id)
    | dArA =>
      obtain ⟨hp1, hp2⟩ := hpre
      simp only [Fu.cst] at hrem hn4
      obtain ⟨f', rfl⟩ : ∃ f', f = f' + 1 := ⟨f - 1, by omega⟩
      have IH' := ih f' (Nat.le_succ _)
      obtain ⟨vg, c, rfl, hcs, hnw, hl⟩ := hm
      have ht1 : t = 1 := by
        rcases ht with e | e
        · cases e
        · exact e.symm
      have hpre1 : Fu.Pre P S .dA := ⟨by omega, by omega⟩
      have hd := Fu.run_did P (f' + 1) S .dA hok hpre1 (by simp only [Fu.cst]; omega)
      have hk := hd.ka (.inl ⟨rfl, by omega⟩)
      have hc := hd.c
      simp only [Fu.cst] at hc
      have hn := hd.n (by intro e; cases e)
      have hp := hd.p
      have hpre2 : Fu.Pre P (Fu.run P (f' + 1) S .dA) .rA := ⟨by omega, by rw [hk.1]; exact hp2⟩
      have hrem2 : Fu.rem P (Fu.run P (f' + 1) S .dA) + Fu.cst (Fu.run P (f' + 1) S .dA) .rA ≤ f' + 1 := by simp only [Fu.cst]; omega
      exact deliver_list hT hC hN ha hb f' IH' w S a b v0 v1 [.dA, .rA] t vg c 2 rfl (by decide) (fun g hg => by
        rw [ht1]
        rcases List.mem_cons.1 hg with rfl | hg
        · rfl
        · rw [List.mem_singleton.1 hg]; rfl) ⟨hnet, Frame.refl _ _, fun _ hj => .inl hj, ⟨hok, hpre1, by simp only [Sg.ml, Fu.cst]; omega, by simp only [Sg.ml, Fu.cst]; omega, hd.ok, hpre2, hrem2, by simp only [Sg.ml, Fu.cst]; omega, (Fu.run_did P (f' + 1) _ .rA hd.ok hpre2 hrem2).ok⟩, rfl, hl, hnw, hcs⟩
end
end Go.Proofs.Ytgbmhijgpdgdbaa

namespace Go.Proofs.Ytgbmhijgpdgdbaa
open Go.RowKit

section
variable {T : Tk} {P : Fu.Pa} {C : Cn} {w w' : World} {S : Fu.Sy} {a b : Adj} {v0 v1 av : Value} {B m k g t t' : Nat}

theorem SlaveAt.timed (h : SlaveAt T w B m a k g t) (hf : Frame (fun j => j = B) w w') (hn : ∀ j, HeldB a j → j ≠ B) (hA : AdjAt w' B { a with asks := av, timer := (t' : Int) }) (hk : k = T.N + 1 → g < T.WA.length → KeysOwn w' 0 av (((T.WA.drop g).map keyOfHd).take 16)) : SlaveAt T w' B m { a with asks := av, timer := (t' : Int) } k g t' := by
  refine ⟨⟨h.made, h.sf, h.ot, h.mtu, h.opts, h.rx, h.types⟩, hA, h.ms, fun e => ?_, fun e => ?_, fun e e2 => ?_, fun e => ⟨fun e2 => ?_, fun e2 => ?_⟩, fun _ => rfl⟩
  · obtain ⟨h1, h2, h3, h4, h5, h6, h7⟩ := h.zero e
    exact ⟨h1, h2, h3, h4, h5, h6.apart hf (fun j hj => hn j (.inr (.inl hj))), h7.step hf hA rfl rfl⟩
  · obtain ⟨h1, h2, h3, h4, h5, h6, h7, h8, h9, h10, h11⟩ := h.some_ e
    exact ⟨h1, h2, h3, h4, h5, h6, h7, h8, h9, h10.apart hf (fun j hj => hn j (.inr (.inl hj))), h11.apart hf (fun j hj => hn j (.inl hj))⟩
  · exact ⟨(h.mid e e2).1, (h.mid e e2).2.step hf hA rfl rfl⟩
  · obtain ⟨h1, h2, h3⟩ := (h.fin e).1 e2
    exact ⟨h1, h2.step hf hA rfl rfl, hk e e2⟩
  · exact (h.fin e).2 e2

theorem MasterAt.timed (h : MasterAt T w B m a k g t) (hf : Frame (fun j => j = B) w w') (hn : ∀ j, HeldB a j → j ≠ B) (hA : AdjAt w' B { a with asks := av, timer := (t' : Int) }) (hk : k = T.N + 1 → g < T.WB.length → KeysOwn w' 0 av (((T.WB.drop g).map keyOfHd).take 16)) : MasterAt T w' B m { a with asks := av, timer := (t' : Int) } k g t' := by
  refine ⟨⟨h.made, h.sf, h.ot, h.mtu, h.opts, h.rx, h.types⟩, hA, fun e => ?_, fun e e2 => ?_, fun e => ?_, h.some_, fun e => ⟨fun e2 => ?_, fun e2 => ?_⟩, fun _ => rfl⟩
  · obtain ⟨h1, h2, h3⟩ := h.zero e
    exact ⟨h1, h2, h3.step hf hA rfl rfl⟩
  · obtain ⟨h1, h2, h3, h4⟩ := h.mid e e2
    exact ⟨h1, h2.step hf hA rfl rfl, h3.apart hf (fun j hj => hn j (.inl hj)), h4⟩
  · obtain ⟨h1, h2, h3, h4, h5⟩ := h.sent e
    exact ⟨h1, h2, h3, h4, h5.apart hf (fun j hj => hn j (.inr (.inl hj)))⟩
  · obtain ⟨h1, h2, h3⟩ := (h.fin e).1 e2
    exact ⟨h1, h2.step hf hA rfl rfl, hk e e2⟩
  · exact (h.fin e).2 e2

theorem NetIs.timedA (hC : CnOk C) (h : NetIs T P C w S a b v0 v1) (hf : Frame (fun j => j = C.Ba) w w') (hA : AdjAt w' C.Ba { a with asks := av, timer := (t' : Int) }) (hav : ∀ j, av.ownBlock = some j → a.asks.ownBlock = some j ∨ (w.heap.size ≤ j ∧ j < w'.heap.size))
    (hk : (S.p + 1) / 2 = T.N + 1 → S.ga < T.WA.length → KeysOwn w' 0 av (((T.WA.drop S.ga).map keyOfHd).take 16)) :
    NetIs T P C w' { S with ta := t' } { a with asks := av, timer := (t' : Int) } b v0 v1 ∧ Frame (WrS T C S a b v0 v1) w w' ∧ ∀ j, WrS T C { S with ta := t' } { a with asks := av, timer := (t' : Int) } b v0 v1 j → WrS T C S a b v0 v1 j ∨ w.heap.size ≤ j := by
  obtain ⟨h1, h2, h3, h4⟩ := h.bs.stepA hC (a' := { a with asks := av, timer := (t' : Int) }) (Nat.le_refl _) hf (fun j e => .inl e) (fun j e => .inl e) (fun j e => by
    rcases e with e | e | e
    · exact .inl (.inl e)
    · exact .inl (.inr (.inl e))
    · rcases hav j e with e | e
      · exact .inl (.inr (.inr e))
      · exact .inr e)
  refine ⟨⟨h1, h.sa.timed hf (fun j hj e => ?_) hA hk, h.sb.frame hf h2⟩, h3, h4⟩
  have := (h.bs.la j (.inl hj)).1
  have := (hC.lo j (.inr (.inl e))).2
  omega

theorem NetIs.timedB (hC : CnOk C) (h : NetIs T P C w S a b v0 v1) (hf : Frame (fun j => j = C.Bb) w w') (hA : AdjAt w' C.Bb { b with asks := av, timer := (t' : Int) }) (hav : ∀ j, av.ownBlock = some j → b.asks.ownBlock = some j ∨ (w.heap.size ≤ j ∧ j < w'.heap.size))
    (hk : S.p / 2 = T.N + 1 → S.gb < T.WB.length → KeysOwn w' 0 av (((T.WB.drop S.gb).map keyOfHd).take 16)) :
    NetIs T P C w' { S with tb := t' } a { b with asks := av, timer := (t' : Int) } v0 v1 ∧ Frame (WrS T C S a b v0 v1) w w' ∧ ∀ j, WrS T C { S with tb := t' } a { b with asks := av, timer := (t' : Int) } v0 v1 j → WrS T C S a b v0 v1 j ∨ w.heap.size ≤ j := by
  obtain ⟨h1, h2, h3, h4⟩ := h.bs.stepB hC (b' := { b with asks := av, timer := (t' : Int) }) (Nat.le_refl _) hf (fun j e => .inl e) (fun j e => .inl e) (fun j e => by
    rcases e with e | e | e
    · exact .inl (.inl e)
    · exact .inl (.inr (.inl e))
    · rcases hav j e with e | e
      · exact .inl (.inr (.inr e))
      · exact .inr e)
  refine ⟨⟨h1, h.sa.frame hf h2, h.sb.timed hf (fun j hj e => ?_) hA hk⟩, h3, h4⟩
  have := (h.bs.lb j (.inl hj)).1
  have := (hC.lo j (.inr (.inr (.inr (.inl e))))).2
  omega

/-- What a tick comes to. -/
def Ticked (T : Tk) (P : Fu.Pa) (C : Cn) (S S' : Fu.Sy) (ml : Fu.Ml) (a b : Adj) (v0 v1 : Value) (w : World) (e : Ending) (w' : World) : Prop :=
  ∃ lv a' b', e = .returned lv ∧ NetIs T P C w' S' a' b' v0 v1 ∧ MlAt T w' (WrS T C S' a' b' v0 v1) S' ml lv ∧ Frame (WrS T C S a b v0 v1) w w' ∧ ∀ j, WrS T C S' a' b' v0 v1 j → WrS T C S a b v0 v1 j ∨ w.heap.size ≤ j

theorem tick_a (hT : TkOk T) (hC : CnOk C) (hN : P.N = T.N) (ha : P.a = T.WA.length) (hok : Fu.Ok P S) (hnet : NetIs T P C w S a b v0 v1) :
    Calls Try.prog 19 #[.pointer (some ⟨C.Ba, 0, none⟩)] w fun e w' => Ticked T P C S (Fu.tickA P S).1 (Fu.tickA P S).2 a b v0 v1 w e w' := by
  have hp := hok.p
  have hsa := hnet.sa
  have hga := hok.ga
  by_cases hi : Fu.idleA P S = true
  · have e1 : Fu.tickA P S = (S, .nil) := by unfold Fu.tickA; rw [if_pos hi]
    rw [e1]
    simp [Fu.idleA] at hi
    refine (tick_idle w C.Ba a hsa.adj hsa.made ?_).mono ?_
    · rcases hi with ⟨h1, h2⟩ | ⟨h1, h2⟩
      · exact .inr ⟨(hsa.mid (by omega) (by omega)).1, hsa.ms⟩
      · exact .inl ((hsa.fin (by omega)).2 (by omega))
    · rintro e w' ⟨rfl, rfl⟩
      exact ⟨_, a, b, rfl, hnet, rfl, Frame.refl _ _, fun j hj => .inl hj⟩
  · have hi2 := hi
    simp [Fu.idleA] at hi2
    have hk : (S.p + 1) / 2 = 0 ∨ ((S.p + 1) / 2 = T.N + 1 ∧ S.ga < T.WA.length) := by
      by_cases h0 : S.p = 0
      · exact .inl (by omega)
      · exact .inr ⟨by omega, by omega⟩
    have htm := hsa.tim hk
    have hst : a.state = 0 ∨ a.state = 2 := by
      rcases hk with e | ⟨e, e2⟩
      · exact .inl (hsa.zero e).1
      · exact .inr ((hsa.fin e).1 e2).1
    by_cases ht : S.ta = 2
    · have e1 : Fu.tickA P S = ({ S with ta := 1 }, .nil) := by unfold Fu.tickA; rw [if_neg hi, if_pos ht]
      rw [e1]
      refine (tick_wait w C.Ba a hsa.adj hsa.made (hst.imp id .inl) (by rw [htm, ht]; rfl)).mono ?_
      rintro e w' ⟨rfl, hA, hf⟩
      have hN1 : ∀ j, HeldB a j → j ≠ C.Ba := fun j hj e => by
        have := (hnet.bs.la j (.inl hj)).1
        have := (hC.lo j (.inr (.inl e))).2
        omega
      obtain ⟨h1, h2, h3⟩ := hnet.timedA (t' := 1) (av := a.asks) hC hf hA (fun j e => .inl e) (fun e1 e2 => hf.own ((hsa.fin e1).1 e2).2.2 (fun j hj e => hN1 j (.inr (.inr hj)) e))
      exact ⟨_, _, b, rfl, h1, rfl, h2, h3⟩
    · have ht1 : S.ta = 1 := hok.ta.resolve_right ht
      have htm1 : a.timer = 1 := by rw [htm, ht1]; rfl
      by_cases h0 : S.p = 0
      · have e1 : Fu.tickA P S = ({ S with ta := 2 }, .firstA) := by unfold Fu.tickA; rw [if_neg hi, if_neg ht, if_pos h0]
        rw [e1]
        obtain ⟨z1, z2, z3, z4, z5, z6, z7⟩ := hsa.zero (by omega)
        refine (tick_out w C.Ba a [] hsa.adj hsa.made (.inl z1) htm1 z6 (by decide) ⟨by rw [hsa.rx]; decide, by rw [hsa.rx]; decide⟩).mono ?_
        rintro e w' ⟨v, hv, rfl, ho, hh, hA, hf⟩
        have hA2 : AdjAt w' C.Ba { a with asks := a.asks, timer := ((2 : Nat) : Int) } := by have e : a.rxmt = ((2 : Nat) : Int) := hsa.rx; rw [← e]; exact hA
        rw [z2, z3, z4, z5] at ho
        obtain ⟨h1, h2, h3⟩ := hnet.timedA (t' := 2) (av := a.asks) hC hf hA2 (fun j e => .inl e) (fun e1 _ => absurd e1 (by omega))
        have hold := hnet.bs.olds
        obtain ⟨vg, c, rfl, hcs, hnw, r, hr, hv2, hr2, hh2, hnv⟩ := desc1_row ⟨_, ho, hh⟩ (fun i t hi ht hb => h1.new_not hC hold.1 hold.2 hi ht hb)
        obtain ⟨A', n', c', e, _, e0, _⟩ := hh2.1
        obtain rfl : n' = 0 := e0.symm
        exact ⟨_, _, b, rfl, h1, ⟨vg, c, rfl, hcs, hnw, r, hr, A', c', by rw [hr2, e]⟩, h2, h3⟩
      · have e1 : Fu.tickA P S = ({ S with ta := 2 }, .rA) := by unfold Fu.tickA; rw [if_neg hi, if_neg ht, if_neg h0]
        rw [e1]
        have hk2 : (S.p + 1) / 2 = T.N + 1 ∧ S.ga < T.WA.length := hk.resolve_left (by omega)
        obtain ⟨f1, f2, f3⟩ := (hsa.fin hk2.1).1 hk2.2
        have hlen := wA_len hT
        refine (tick_req w C.Ba a ((T.WA.drop S.ga).map keyOfHd) hsa.adj hsa.made f1 htm1 f2.order (by rw [List.length_map, List.length_drop]; omega) ⟨by rw [hsa.rx]; decide, by rw [hsa.rx]; decide⟩).mono ?_
        rintro e w' ⟨v, kv, av, rfl, ho, hkv, hav, hA, hf⟩
        have hA2 : AdjAt w' C.Ba { a with asks := av, timer := ((2 : Nat) : Int) } := by have e : a.rxmt = ((2 : Nat) : Int) := hsa.rx; rw [← e]; exact hA
        obtain ⟨h1, h2, h3⟩ := hnet.timedA (t' := 2) (av := av) hC hf hA2 (fun j e => .inr (hav.lt j e)) (fun _ _ => own_base hav (Nat.zero_le _))
        have hold := hnet.bs.olds
        have hnn2 : ∀ j, w.heap.size ≤ j → ¬ WrS T C { S with ta := 2 } { a with asks := av, timer := ((2 : Nat) : Int) } b v0 v1 j := fun j hj => by
          unfold WrS
          refine wr_not (base := w.heap.size) (fun i hi => Nat.lt_of_lt_of_le (hC.lo i hi).2 hold.1) hold.2 hj (fun e => ?_) (fun e => ?_)
          · have := e.1
            have : (S.p + 1) / 2 ≤ T.N := this
            omega
          · have := (hnet.bs.lb j (.inr e.2)).2; omega
        obtain ⟨vg, c, rfl, hcs, hnw, r3, hr3, kv2, hr4, hk4, hnk⟩ := req1_row ⟨kv, ho, hkv⟩ hnn2
        exact ⟨_, _, b, rfl, h1, ⟨vg, c, rfl, hcs, hnw, r3, hr3, kv2, hr4, hk4, hnk⟩, h2, h3⟩

theorem tick_b (hT : TkOk T) (hC : CnOk C) (hN : P.N = T.N) (hb : P.b = T.WB.length) (hok : Fu.Ok P S) (hnet : NetIs T P C w S a b v0 v1) :
    Calls Try.prog 19 #[.pointer (some ⟨C.Bb, 0, none⟩)] w fun e w' => Ticked T P C S (Fu.tickB P S).1 (Fu.tickB P S).2 a b v0 v1 w e w' := by
  have hp := hok.p
  have hsb := hnet.sb
  have hgb := hok.gb
  have hN0 : 0 < T.N := (hT.more 0).1 (.inl rfl)
  by_cases hi : Fu.idleB P S = true
  · have e1 : Fu.tickB P S = (S, .nil) := by unfold Fu.tickB; rw [if_pos hi]
    rw [e1]
    simp [Fu.idleB] at hi
    refine (tick_idle w C.Bb b hsb.adj hsb.made (.inl ((hsb.fin (by omega)).2 (by omega)))).mono ?_
    rintro e w' ⟨rfl, rfl⟩
    exact ⟨_, a, b, rfl, hnet, rfl, Frame.refl _ _, fun j hj => .inl hj⟩
  · have hi2 := hi
    simp [Fu.idleB] at hi2
    have hk : S.p / 2 ≤ T.N ∨ (S.p / 2 = T.N + 1 ∧ S.gb < T.WB.length) := by
      by_cases h0 : S.p ≤ 2 * P.N + 1
      · exact .inl (by omega)
      · exact .inr ⟨by omega, by omega⟩
    have htm := hsb.tim hk
    have hst : (S.p / 2 ≤ T.N ∧ (b.state = 0 ∨ b.state = 1 ∧ b.master = true)) ∨ b.state = 2 := by
      rcases hk with e | ⟨e, e2⟩
      · refine .inl ⟨e, ?_⟩
        by_cases h0 : S.p / 2 = 0
        · exact .inl (hsb.zero h0).1
        · exact .inr ⟨(hsb.mid (by omega) e).1, (hsb.some_ (by omega)).1⟩
      · exact .inr ((hsb.fin e).1 e2).1
    by_cases ht : S.tb = 2
    · have e1 : Fu.tickB P S = ({ S with tb := 1 }, .nil) := by unfold Fu.tickB; rw [if_neg hi, if_pos ht]
      rw [e1]
      refine (tick_wait w C.Bb b hsb.adj hsb.made ?_ (by rw [htm, ht]; rfl)).mono ?_
      · rcases hst with ⟨_, e | e⟩ | e
        · exact .inl e
        · exact .inr (.inr e)
        · exact .inr (.inl e)
      rintro e w' ⟨rfl, hA, hf⟩
      have hN1 : ∀ j, HeldB b j → j ≠ C.Bb := fun j hj e => by
        have := (hnet.bs.lb j (.inl hj)).1
        have := (hC.lo j (.inr (.inr (.inr (.inl e))))).2
        omega
      obtain ⟨h1, h2, h3⟩ := hnet.timedB (t' := 1) (av := b.asks) hC hf hA (fun j e => .inl e) (fun e1 e2 => hf.own ((hsb.fin e1).1 e2).2.2 (fun j hj e => hN1 j (.inr (.inr hj)) e))
      exact ⟨_, a, _, rfl, h1, rfl, h2, h3⟩
    · have ht1 : S.tb = 1 := hok.tb.resolve_right ht
      have htm1 : b.timer = 1 := by rw [htm, ht1]; rfl
      by_cases h0 : S.p ≤ 2 * P.N + 1
      · have e1 : Fu.tickB P S = ({ S with tb := 2 }, .dB) := by unfold Fu.tickB; rw [if_neg hi, if_neg ht, if_pos h0]
        rw [e1]
        have hkN : S.p / 2 ≤ T.N := by omega
        have hst0 : b.state = 0 ∨ b.state = 1 ∧ b.master = true := by
          by_cases h0 : S.p / 2 = 0
          · exact .inl (hsb.zero h0).1
          · exact .inr ⟨(hsb.mid (by omega) hkN).1, (hsb.some_ (by omega)).1⟩
        obtain ⟨z2, z3, z4, z5, z6⟩ := hsb.sent hkN
        have hlen : (chB T.B (S.p / 2)).length ≤ 16 := by
          cases S.p / 2 with
          | zero => exact Nat.zero_le _
          | succ j => show ((T.B.drop (16 * j)).take 16).length ≤ 16; rw [List.length_take]; omega
        refine (tick_out w C.Bb b (chB T.B (S.p / 2)) hsb.adj hsb.made hst0 htm1 z6 (by omega) ⟨by rw [hsb.rx]; decide, by rw [hsb.rx]; decide⟩).mono ?_
        rintro e w' ⟨v, hv, rfl, ho, hh, hA, hf⟩
        have hA2 : AdjAt w' C.Bb { b with asks := b.asks, timer := ((2 : Nat) : Int) } := by have e : b.rxmt = ((2 : Nat) : Int) := hsb.rx; rw [← e]; exact hA
        rw [z2, z3, z4, z5] at ho
        obtain ⟨h1, h2, h3⟩ := hnet.timedB (t' := 2) (av := b.asks) hC hf hA2 (fun j e => .inl e) (fun e1 _ => absurd e1 (by omega))
        have hold := hnet.bs.olds
        obtain ⟨vg, c, rfl, hcs, hnw, r, hr, hv2, hr2, hh2, hnv⟩ := desc1_row ⟨_, ho, hh⟩ (fun i t hi ht hb => h1.new_not hC hold.1 hold.2 hi ht hb)
        exact ⟨_, a, _, rfl, h1, ⟨vg, c, rfl, hcs, hnw, r, hr, hv2, hr2, hh2, hnv⟩, h2, h3⟩
      · have e1 : Fu.tickB P S = ({ S with tb := 2 }, .rB) := by unfold Fu.tickB; rw [if_neg hi, if_neg ht, if_neg h0]
        rw [e1]
        have hk2 : S.p / 2 = T.N + 1 ∧ S.gb < T.WB.length := hk.resolve_left (by omega)
        obtain ⟨f1, f2, f3⟩ := (hsb.fin hk2.1).1 hk2.2
        have hlen := wB_len hT
        refine (tick_req w C.Bb b ((T.WB.drop S.gb).map keyOfHd) hsb.adj hsb.made f1 htm1 f2.order (by rw [List.length_map, List.length_drop]; omega) ⟨by rw [hsb.rx]; decide, by rw [hsb.rx]; decide⟩).mono ?_
        rintro e w' ⟨v, kv, av, rfl, ho, hkv, hav, hA, hf⟩
        have hA2 : AdjAt w' C.Bb { b with asks := av, timer := ((2 : Nat) : Int) } := by have e : b.rxmt = ((2 : Nat) : Int) := hsb.rx; rw [← e]; exact hA
        obtain ⟨h1, h2, h3⟩ := hnet.timedB (t' := 2) (av := av) hC hf hA2 (fun j e => .inr (hav.lt j e)) (fun _ _ => own_base hav (Nat.zero_le _))
        have hold := hnet.bs.olds
        have hnn2 : ∀ j, w.heap.size ≤ j → ¬ WrS T C { S with tb := 2 } a { b with asks := av, timer := ((2 : Nat) : Int) } v0 v1 j := fun j hj => by
          unfold WrS
          refine wr_not (base := w.heap.size) (fun i hi => Nat.lt_of_lt_of_le (hC.lo i hi).2 hold.1) hold.2 hj (fun e => ?_) (fun e => ?_)
          · have := (hnet.bs.la j (.inr e.2)).2; omega
          · have := e.1
            have : S.p / 2 ≤ T.N := this
            omega
        obtain ⟨vg, c, rfl, hcs, hnw, r3, hr3, kv2, hr4, hk4, hnk⟩ := req1_row ⟨kv, ho, hkv⟩ hnn2
        exact ⟨_, a, _, rfl, h1, ⟨vg, c, rfl, hcs, hnw, r3, hr3, kv2, hr4, hk4, hnk⟩, h2, h3⟩
end
end Go.Proofs.Ytgbmhijgpdgdbaa

namespace Go.Proofs.Ytgbmhijgpdgdbaa
open Go.RowKit

theorem more_ex (a b : Nat) : ∃ N, (∀ k, (k = 0 ∨ 16 * (k + 1) < a ∨ 16 * k < b) ↔ k < N) ∧ (a ≤ 60 → b ≤ 60 → N ≤ 4) := by
  by_cases h1 : (a + 15) / 16 - 1 ≤ (b + 15) / 16
  · by_cases h2 : (b + 15) / 16 = 0
    · exact ⟨1, fun k => by omega, fun _ _ => by omega⟩
    · exact ⟨(b + 15) / 16, fun k => by omega, fun _ _ => by omega⟩
  · exact ⟨(a + 15) / 16 - 1, fun k => by omega, fun _ _ => by omega⟩

theorem tk_ok {U V : List Od.Hd} {s0 s1 : Int} {N : Nat} (hU : UnlikeG U) (hV : UnlikeG V) (h0 : 0 ≤ s1) (h1 : s1 < 4294967296) (hN : ∀ k, (k = 0 ∨ 16 * (k + 1) < U.length ∨ 16 * k < V.length) ↔ k < N) : TkOk ⟨U, V, s0, s1, N⟩ :=
  ⟨hU.2.2, hV.2.2, hU.1, hV.1, hU.2.1, hV.2.1, h0, h1, hN⟩

theorem headsInNil (w : World) : HeadsIn w (.slice none 0 0) [] := ⟨headsNil _ _, fun g hg => by simp [Value.ownBlock] at hg⟩

theorem findIs_ex (l : List Od.Hd) (k : Od.Ky) : ∃ j, FindIs l k j := by
  rcases h : l.findIdx? (fun x => decide (keyOfHd x = k)) with _ | i
  · refine ⟨-1, .inr ⟨rfl, fun x hx => ?_⟩⟩
    have := List.findIdx?_eq_none_iff.1 h x hx
    simpa using this
  · rw [List.findIdx?_eq_some_iff_getElem] at h
    obtain ⟨hi, h1, h2⟩ := h
    refine ⟨i, .inl ⟨i, l[i], rfl, List.getElem?_eq_getElem hi, by simpa using h1, fun x hx => ?_⟩⟩
    obtain ⟨j, hj, e⟩ := List.mem_take_iff_getElem.1 hx
    have := h2 j (by omega)
    rw [← e]
    simpa using this
theorem findIs_uniq {l : List Od.Hd} {k : Od.Ky} {j j' : Int} (h : FindIs l k j) (h' : FindIs l k j') : j = j' := by
  rcases h with ⟨i, x, rfl, hx, hk, hn⟩ | ⟨rfl, hn⟩ <;> rcases h' with ⟨i', x', rfl, hx', hk', hn'⟩ | ⟨rfl, hn'⟩
  · have hne : ¬ i < i' := fun hlt => hn' x (List.mem_take_iff_getElem.2 ⟨i, by have := (List.getElem?_eq_some_iff.1 hx').1; omega, (List.getElem?_eq_some_iff.1 hx).2⟩) hk
    have hne' : ¬ i' < i := fun hlt => hn x' (List.mem_take_iff_getElem.2 ⟨i', by have := (List.getElem?_eq_some_iff.1 hx).1; omega, (List.getElem?_eq_some_iff.1 hx').2⟩) hk'
    have : i = i' := by omega
    rw [this]
  · exact absurd hk (hn' x (List.mem_of_getElem? hx))
  · exact absurd hk' (hn x' (List.mem_of_getElem? hx'))
  · rfl
theorem below_of_frame2 {S : Nat → Prop} {w w' : World} (h : Frame S w w') (hS : ∀ i, i < w.heap.size → ¬ S i) : Below w.heap.size w w' := ⟨h.os, h.tape, h.output, h.size, fun i hi => h.block i hi (hS i hi)⟩

section
variable {T : Tk} {P : Fu.Pa} {C : Cn} {w w' wB : World} {WB : Nat → Prop} {S S' : Fu.Sy} {a b : Adj} {v0 v1 lv : Value} {f : Nat}

theorem start_net (hT : TkOk T)
    (hw : Blk w C.Wb 51 #[.pointer (some ⟨C.Ba, 0, none⟩), .pointer (some ⟨C.Bb, 0, none⟩), v0, v1, .int .i64 0, .slice C.LA C.ln C.lc, .int .i64 0])
    (o0 : w.ownsRow C.N0 59 8 v0 T.A.length (T.A.flatMap hcells)) (o1 : w.ownsRow C.N0 59 8 v1 T.B.length (T.B.flatMap hcells)) (hvv : ∀ j, v0.ownBlock = some j → v1.ownBlock ≠ some j)
    (ha : AdjAt w C.Ba (newAdj 1 2 0 2 2 T.s0 65535 C.ma).firsted) (hma : MapIs hdval w C.ma none0) (hb : AdjAt w C.Bb (newAdj 2 1 0 2 2 T.s1 65535 C.mb).firsted) (hmb : MapIs hdval w C.mb none0)
    (hsz : C.N1 ≤ w.heap.size) (lost : Reads w C.N0 1 C.LA C.ln (P.lost.map Value.bool)) (llen : P.lost.length = C.ln) :
    NetIs T P C w Fu.start (newAdj 1 2 0 2 2 T.s0 65535 C.ma).firsted (newAdj 2 1 0 2 2 T.s1 65535 C.mb).firsted v0 v1 := by
  have hh : ∀ s o sq m j, ¬ (HeldB (newAdj s o 0 2 2 sq 65535 m).firsted j ∨ (newAdj s o 0 2 2 sq 65535 m).firsted.order.ownBlock = some j) := by
    rintro s o sq m j ((h | h | h) | h) <;> simp [newAdj, Adj.firsted, Value.ownBlock] at h
  have hcon : ∀ v xs n, w.ownsRow C.N0 59 8 v n xs → ∀ j, v.ownBlock = some j → ¬ C.con j := by
    rintro v xs n ho j hj (rfl | rfl | rfl | rfl | rfl)
    · exact own_blk_ne ho hw (by decide) hj
    · exact own_blk_ne ho ha (by decide) hj
    · exact own_map_ne ho hma hj
    · exact own_blk_ne ho hb (by decide) hj
    · exact own_map_ne ho hmb hj
  have hs1 : seqAt T.s1 0 = T.s1 := seqAt0 hT.z0 hT.z1
  refine ⟨⟨hw, o0, o1, fun j hj => absurd hj (hh _ _ _ _ j), fun j hj => absurd hj (hh _ _ _ _ j), fun j hj => ?_, hvv, fun j hj => absurd (.inr hj.2) (hh _ _ _ _ j), fun j hj => absurd (.inr hj.2) (hh _ _ _ _ j), hsz, lost, llen⟩, ?_, ?_⟩
  · refine ⟨?_, ?_, fun e => hh _ _ _ _ j (.inl e), fun e => hh _ _ _ _ j (.inl e), fun e => hh _ _ _ _ j (.inr e), fun e => hh _ _ _ _ j (.inr e)⟩
    · rcases hj with hj | hj
      · exact hcon _ _ _ o0 j hj
      · exact hcon _ _ _ o1 j hj
    · rcases hj with hj | hj
      · exact (o0.lt j hj).2
      · exact (o1.lt j hj).2
  · refine ⟨⟨rfl, rfl, rfl, rfl, rfl, rfl, rfl⟩, ha, rfl, fun _ => ⟨rfl, rfl, rfl, rfl, rfl, headsInNil w, ha, rfl, hma, World.ownsRow_nil _ _ _ _⟩, fun e => absurd e (by decide), fun e => absurd e (by decide), fun e => absurd (show (0 : Nat) = T.N + 1 from e) (by omega), fun _ => rfl⟩
  · refine ⟨⟨rfl, rfl, rfl, rfl, rfl, rfl, rfl⟩, hb, fun _ => ⟨rfl, hs1.symm, hb, rfl, hmb, World.ownsRow_nil _ _ _ _⟩, fun e => absurd e (by decide), fun _ => ⟨rfl, rfl, rfl, hs1.symm, headsInNil w⟩, fun e => absurd e (by decide), fun e => absurd (show (0 : Nat) = T.N + 1 from e) (by omega), fun _ => rfl⟩

/-- A first message's row. -/
theorem first_row {base : Nat} {v : Value} {fl sq : Int} {W : Nat → Prop} (h : Desc1 base w v fl sq []) (hW : ∀ j t, base ≤ j → (t = 40 ∨ t = 59) → (∃ cs, Blk w j t cs) → ¬ W j) :
    ∃ vg c, v = .slice (some ⟨vg, 0, none⟩) 1 c ∧ (∃ cs, Blk w vg 40 cs) ∧ ¬ W vg ∧ ∃ r, RowAt w vg 0 r ∧ ∃ hv, r = ⟨true, 0, 2, fl, sq, hv, .slice none 0 0⟩ ∧ HeadsIn w hv [] ∧ ∀ j, hv.ownBlock = some j → ¬ W j := by
  obtain ⟨hv, h1, h2⟩ := h
  obtain ⟨vg, c, rfl, hb, hcs, hx⟩ := own_rows h1 (by decide)
  refine ⟨vg, c, rfl, hcs, hW vg _ hb (.inl rfl) hcs, _, fun k u hk => ?_, hv, rfl, HeadsIn.own h2 rfl, fun j hj => ?_⟩
  · have := hx k u hk
    simpa using this
  · obtain ⟨e1, e2⟩ := own_headblk h2 hj
    exact hW j _ e1 (.inr rfl) e2

/-- The first messages. -/
theorem first_a {lo : Nat} {W : Nat → Prop} (h : OneDesc (newAdj 1 2 0 2 2 T.s0 65535 C.ma).firsted [] lo w lv) (hW : ∀ j t, lo ≤ j → (t = 40 ∨ t = 59) → (∃ cs, Blk w j t cs) → ¬ W j) : MlAt T w W Fu.start .firstA lv := by
  obtain ⟨vg, c, rfl, hcs, hnw, r, hr, hv2, hr2, hh2, hnv⟩ := first_row (W := W) h hW
  obtain ⟨A', n', c', e, _, e0, _⟩ := hh2.1
  obtain rfl : n' = 0 := e0.symm
  exact ⟨vg, c, rfl, hcs, hnw, r, hr, A', c', by rw [hr2, e]; rfl⟩
theorem first_b {lo : Nat} {W : Nat → Prop} (hT : TkOk T) (h : OneDesc (newAdj 2 1 0 2 2 T.s1 65535 C.mb).firsted [] lo w lv) (hW : ∀ j t, lo ≤ j → (t = 40 ∨ t = 59) → (∃ cs, Blk w j t cs) → ¬ W j) : MlAt T w W Fu.start .dB lv := by
  obtain ⟨vg, c, rfl, hcs, hnw, r, hr, hv2, hr2, hh2, hnv⟩ := first_row (W := W) h hW
  have hs1 : seqAt T.s1 0 = T.s1 := seqAt0 hT.z0 hT.z1
  refine ⟨vg, c, rfl, hcs, hnw, r, hr, hv2, ?_, hh2, hnv⟩
  rw [hr2]
  show _ = (⟨true, 0, 2, 7, seqAt T.s1 0, hv2, .slice none 0 0⟩ : Raw)
  rw [hs1]
  rfl

theorem MlAt.keep {W W' : Nat → Prop} (h : MlAt T w W S .dB lv) (hf : Frame W w w') (hW : ∀ j, W' j → W j ∨ w.heap.size ≤ j) (hS : S'.p = S.p) : MlAt T w' W' S' .dB lv := by
  obtain ⟨vg, c, rfl, ⟨cs, hcs⟩, hnw, r, hr, hv, rfl, hh, hnv⟩ := h
  refine ⟨vg, c, rfl, ⟨cs, hf.blk hcs hnw⟩, fun e => ?_, _, hr.frame hf hnw ⟨cs, hcs⟩, hv, by rw [hS], ?_, fun j hj e => ?_⟩
  · rcases hW vg e with e | e
    · exact hnw e
    · have := hcs.lt; omega
  · rw [hS]
    exact hh.apart hf hnv
  · rcases hW j e with e | e
    · exact hnv j hj e
    · have := hh.lt hj; omega

theorem own_block_ge {base n : Nat} {e : TypeId} {size : Nat} {v : Value} {xs : List Value} (h : w.ownsRow base e size v n xs) {j : Nat} (hj : v.ownBlock = some j) : base ≤ j := (h.lt j hj).1

/-- A message goes on from where the talk stands. -/
theorem go_on (hT : TkOk T) (hC : CnOk C) (hN : P.N = T.N) (ha : P.a = T.WA.length) (hb : P.b = T.WB.length) {ml : Fu.Ml} {t : Int} (hok : Fu.Ok P S) (hpre : Fu.Pre P S ml) (hn4 : S.n + Fu.rem P S + 2 < 4000) (hnet : NetIs T P C w S a b v0 v1) (hm : MlAt T w (WrS T C S a b v0 v1) S ml lv) (ht : ml = .nil ∨ toOf ml = t)
    (hf : Frame WB wB w) (hW : ∀ j, WrS T C S a b v0 v1 j → WB j ∨ wB.heap.size ≤ j) :
    Calls Try.prog 18 #[.pointer (some ⟨C.Wb, 0, none⟩), .int .i64 t, lv] w fun e w' => e = .returned (.tuple #[]) ∧ Went T P C wB WB (Fu.run P (Fu.enough P) S ml) w' := by
  have hc : Fu.cst S ml ≤ 2 := by cases ml <;> simp only [Fu.cst] <;> (try split) <;> omega
  refine (onward_all hT hC hN ha hb (Fu.enough P) (Fu.enough P) (Nat.le_refl _) S ml w a b v0 v1 lv t hok hpre (Fu.enough_ok P S ml) (by omega) hnet hm ht).mono ?_
  rintro e w' ⟨rfl, hg⟩
  exact ⟨rfl, hg.trans hf hW⟩

/-- The first two deliveries. -/
theorem first_two (hT : TkOk T) (hC : CnOk C) (hN : P.N = T.N) (ha : P.a = T.WA.length) (hb : P.b = T.WB.length) (hN4 : P.N ≤ 4) (hnet : NetIs T P C w Fu.start a b v0 v1) {ov pv : Value} (ho : MlAt T w (WrS T C Fu.start a b v0 v1) Fu.start .firstA ov) (hp : MlAt T w (WrS T C Fu.start a b v0 v1) Fu.start .dB pv) :
    Calls Try.prog 18 #[.pointer (some ⟨C.Wb, 0, none⟩), .int .i64 1, ov] w fun e w1 => e = .returned (.tuple #[]) ∧ Calls Try.prog 18 #[.pointer (some ⟨C.Wb, 0, none⟩), .int .i64 0, pv] w1 fun e w2 => e = .returned (.tuple #[]) ∧ Went T P C w (WrS T C Fu.start a b v0 v1) (Fu.first P) w2 := by
  have hok : Fu.Ok P Fu.start := ⟨Nat.zero_le _, Nat.zero_le _, Nat.zero_le _, fun _ => rfl, fun _ => rfl, .inr rfl, .inr rfl⟩
  have hwa := wA_len hT
  have hwb := wB_len hT
  have hr := Fu.rem_le P Fu.start
  have hs0 : Fu.start.n = 0 := rfl
  refine (go_on (ml := .firstA) hT hC hN ha hb hok rfl (by omega) hnet ho (.inr rfl) (Frame.refl _ _) (fun _ e => .inl e)).mono ?_
  rintro e w1 ⟨rfl, a1, b1, x0, x1, hnet1, hf1, hW1⟩
  have hd := Fu.run_did P (Fu.enough P) Fu.start .firstA hok rfl (Fu.enough_ok P _ _)
  have hk := hd.kb (.inl rfl)
  have hc := hd.c
  simp only [Fu.cst] at hc
  refine ⟨rfl, ?_⟩
  have hp1 : MlAt T w1 (WrS T C (Fu.run P (Fu.enough P) Fu.start .firstA) a1 b1 x0 x1) (Fu.run P (Fu.enough P) Fu.start .firstA) .dB pv := hp.keep hf1 hW1 hk.2.2
  refine go_on (ml := .dB) hT hC hN ha hb hd.ok ?_ (by omega) hnet1 hp1 (.inr rfl) hf1 hW1
  show (Fu.run P (Fu.enough P) Fu.start .firstA).p ≤ _
  rw [hk.2.2]
  exact Nat.zero_le _

/-- A tick of the lesser, and what comes of it. -/
theorem half_a (hT : TkOk T) (hC : CnOk C) (hN : P.N = T.N) (ha : P.a = T.WA.length) (hb : P.b = T.WB.length) (hok : Fu.Ok P S) (hn4 : S.n + Fu.rem P S + 2 < 4000) (hw : Went T P C wB WB S w) :
    Calls Try.prog 19 #[.pointer (some ⟨C.Ba, 0, none⟩)] w fun e w1 => ∃ lv, e = .returned lv ∧ Calls Try.prog 18 #[.pointer (some ⟨C.Wb, 0, none⟩), .int .i64 1, lv] w1 fun e w2 => e = .returned (.tuple #[]) ∧ Went T P C wB WB (Fu.halfA P S) w2 := by
  obtain ⟨a, b, v0, v1, hnet, hf, hW⟩ := hw
  refine (tick_a hT hC hN ha hok hnet).mono ?_
  rintro e w1 ⟨lv, a', b', rfl, hnet', hm, hf', hW'⟩
  have hok' := Fu.tickA_ok hok
  have hrem : (Fu.tickA P S).1.n + Fu.rem P (Fu.tickA P S).1 = S.n + Fu.rem P S := by unfold Fu.tickA; split <;> (try split) <;> rfl
  refine ⟨lv, rfl, go_on hT hC hN ha hb hok'.1 hok'.2 (by omega) hnet' hm ?_ (hf.trans' hf' (fun j hj e => ?_)) (fun j hj => ?_)⟩
  · unfold Fu.tickA
    split
    · exact .inl rfl
    · split
      · exact .inl rfl
      · split
        · exact .inr rfl
        · exact .inr rfl
  · rcases hW j e with e | e
    · exact e
    · omega
  · rcases hW' j hj with e | e
    · exact hW j e
    · exact .inr (Nat.le_trans hf.size e)

theorem half_b (hT : TkOk T) (hC : CnOk C) (hN : P.N = T.N) (ha : P.a = T.WA.length) (hb : P.b = T.WB.length) (hok : Fu.Ok P S) (hn4 : S.n + Fu.rem P S + 2 < 4000) (hw : Went T P C wB WB S w) :
    Calls Try.prog 19 #[.pointer (some ⟨C.Bb, 0, none⟩)] w fun e w1 => ∃ lv, e = .returned lv ∧ Calls Try.prog 18 #[.pointer (some ⟨C.Wb, 0, none⟩), .int .i64 0, lv] w1 fun e w2 => e = .returned (.tuple #[]) ∧ Went T P C wB WB (Fu.halfB P S) w2 := by
  obtain ⟨a, b, v0, v1, hnet, hf, hW⟩ := hw
  refine (tick_b hT hC hN hb hok hnet).mono ?_
  rintro e w1 ⟨lv, a', b', rfl, hnet', hm, hf', hW'⟩
  have hok' := Fu.tickB_ok hok
  have hrem : (Fu.tickB P S).1.n + Fu.rem P (Fu.tickB P S).1 = S.n + Fu.rem P S := by unfold Fu.tickB; split <;> (try split) <;> rfl
  refine ⟨lv, rfl, go_on hT hC hN ha hb hok'.1 hok'.2 (by omega) hnet' hm ?_ (hf.trans' hf' (fun j hj e => ?_)) (fun j hj => ?_)⟩
  · unfold Fu.tickB
    split
    · exact .inl rfl
    · split
      · exact .inl rfl
      · split
        · exact .inr rfl
        · exact .inr rfl
  · rcases hW j e with e | e
    · exact e
    · omega
  · rcases hW' j hj with e | e
    · exact hW j e
    · exact .inr (Nat.le_trans hf.size e)

/-- A round, given what holds behind t of them. -/
theorem round_ok (hl : P.lost.length ≤ 40) (hN : P.N ≤ 4) (ha : P.a ≤ 60) (hb : P.b ≤ 60) {t : Nat} (ht : t ≤ 300) :
    Fu.Ok P (Fu.rounds P t (Fu.first P)) ∧ (Fu.rounds P t (Fu.first P)).n + Fu.rem P (Fu.rounds P t (Fu.first P)) + 4 < 4000 := by
  have h := Fu.rounds_jo hl (Fu.first_jo (P := P)) t
  have h2 := h.n
  exact ⟨h.ok, by omega⟩
theorem round_half (hl : P.lost.length ≤ 40) (hok : Fu.Ok P S) (hn : S.n + Fu.rem P S + 4 < 4000) : Fu.Ok P (Fu.halfA P S) ∧ (Fu.halfA P S).n + Fu.rem P (Fu.halfA P S) + 2 < 4000 := by
  obtain ⟨h1, _, _, _, _, h2, _⟩ := Fu.halfA_is hl hok
  exact ⟨h1, by omega⟩

/-- The end. -/
theorem net_end (hN : P.N = T.N) (ha : P.a = T.WA.length) (hb : P.b = T.WB.length) (hd : Fu.Done P S) (h : NetIs T P C w S a b v0 v1) :
    a.state = 3 ∧ b.state = 3 ∧ a.master = false ∧ b.master = true ∧ w.ownsRow C.N0 59 8 v0 (gained T.A T.WA).length ((gained T.A T.WA).flatMap hcells) ∧ w.ownsRow C.N0 59 8 v1 (gained T.B T.WB).length ((gained T.B T.WB).flatMap hcells) := by
  obtain ⟨⟨h1, h2⟩, h3⟩ := hd
  have hsa := h.sa
  have hsb := h.sb
  have e1 : (S.p + 1) / 2 = T.N + 1 := by omega
  have e2 : S.p / 2 = T.N + 1 := by omega
  have h0 := h.bs.o0
  have h4 := h.bs.o1
  rw [h3, ha, List.take_of_length_le (Nat.le_refl _)] at h0
  rw [h2, hb, List.take_of_length_le (Nat.le_refl _)] at h4
  exact ⟨(hsa.fin e1).2 (by omega), (hsb.fin e2).2 (by omega), hsa.ms, (hsb.some_ (by omega)).1, h0, h4⟩

theorem net_same (hT : TkOk T) {i : Nat} {x : Od.Hd} (hx : (gained T.A T.WA)[i]? = some x) {j : Int} (hj : FindIs (gained T.B T.WB) (keyOfHd x) j) : ∃ (i0 : Nat) (y : Od.Hd), j = (i0 : Int) ∧ (gained T.B T.WB)[i0]? = some y ∧ Od.newer x y = 0 := by
  have hu := gained_uniq hT.uA T.WA
  have hm := have_mem hu (List.mem_of_getElem? hx)
  rcases gained_end hT.uA hT.uB (keyOfHd x) with ⟨h1, _⟩ | ⟨x', y, h1, h2, h3⟩
  · rw [show gained T.A (wantF T.A T.B) = gained T.A T.WA from rfl, hm] at h1
    cases h1
  · rw [show gained T.A (wantF T.A T.B) = gained T.A T.WA from rfl, hm] at h1
    cases h1
    obtain ⟨i0, e, h4⟩ := find_have (gained_uniq hT.uB T.WB) h2 hj
    exact ⟨i0, y, e, h4, h3⟩

/-- All of it stands. -/
theorem begin_net (hT : TkOk T) {Wb Ba ma Bb mb N0 m3 m4 nl cl : Nat} {L : Option Addr} {ov pv : Value}
    (hw : Blk w Wb 51 #[.pointer (some ⟨Ba, 0, none⟩), .pointer (some ⟨Bb, 0, none⟩), v0, v1, .int .i64 0, .slice L nl cl, .int .i64 0])
    (o0 : w.ownsRow N0 59 8 v0 T.A.length (T.A.flatMap hcells)) (o1 : w.ownsRow N0 59 8 v1 T.B.length (T.B.flatMap hcells)) (hvv : ∀ j, v0.ownBlock = some j → v1.ownBlock ≠ some j) (hv : ∀ j, v0.ownBlock = some j ∨ v1.ownBlock = some j → j < m3)
    (ha : AdjAt w Ba (newAdj 1 2 0 2 2 T.s0 65535 ma).firsted) (hma : MapIs hdval w ma none0) (hb : AdjAt w Bb (newAdj 2 1 0 2 2 T.s1 65535 mb).firsted) (hmb : MapIs hdval w mb none0)
    (hN0 : N0 ≤ Wb) (hWb : Wb < m3) (h1 : m3 ≤ Ba) (h2 : Ba < m4) (h3 : m3 ≤ ma) (h4 : ma < m4) (h5 : m4 ≤ Bb) (h6 : m4 ≤ mb) (lost : Reads w N0 1 L nl (P.lost.map Value.bool)) (llen : P.lost.length = nl)
    (do_ : OneDesc (newAdj 1 2 0 2 2 T.s0 65535 ma).firsted [] m3 w ov) (dp : OneDesc (newAdj 2 1 0 2 2 T.s1 65535 mb).firsted [] m4 w pv) :
    CnOk ⟨Wb, Ba, ma, Bb, mb, N0, w.heap.size, L, nl, cl⟩ ∧ NetIs T P ⟨Wb, Ba, ma, Bb, mb, N0, w.heap.size, L, nl, cl⟩ w Fu.start (newAdj 1 2 0 2 2 T.s0 65535 ma).firsted (newAdj 2 1 0 2 2 T.s1 65535 mb).firsted v0 v1 ∧
      MlAt T w (WrS T ⟨Wb, Ba, ma, Bb, mb, N0, w.heap.size, L, nl, cl⟩ Fu.start (newAdj 1 2 0 2 2 T.s0 65535 ma).firsted (newAdj 2 1 0 2 2 T.s1 65535 mb).firsted v0 v1) Fu.start .firstA ov ∧
      MlAt T w (WrS T ⟨Wb, Ba, ma, Bb, mb, N0, w.heap.size, L, nl, cl⟩ Fu.start (newAdj 1 2 0 2 2 T.s0 65535 ma).firsted (newAdj 2 1 0 2 2 T.s1 65535 mb).firsted v0 v1) Fu.start .dB pv ∧
      ∀ j, WrS T ⟨Wb, Ba, ma, Bb, mb, N0, w.heap.size, L, nl, cl⟩ Fu.start (newAdj 1 2 0 2 2 T.s0 65535 ma).firsted (newAdj 2 1 0 2 2 T.s1 65535 mb).firsted v0 v1 j → N0 ≤ j := by
  have l1 := hw.lt
  have l2 := ha.lt
  have l3 := hma.lt
  have l4 := hb.lt
  have l5 := hmb.lt
  have hord : ∀ s o sq m j k, ¬ oC T k (newAdj s o 0 2 2 sq 65535 m).firsted j := by
    rintro s o sq m j k ⟨_, h⟩
    simp [newAdj, Adj.firsted, Value.ownBlock] at h
  have hmW : ∀ j t, m3 ≤ j → (t = 40 ∨ t = 59) → (∃ cs, Blk w j t cs) → ¬ WrS T ⟨Wb, Ba, ma, Bb, mb, N0, w.heap.size, L, nl, cl⟩ Fu.start (newAdj 1 2 0 2 2 T.s0 65535 ma).firsted (newAdj 2 1 0 2 2 T.s1 65535 mb).firsted v0 v1 j := by
    rintro j t hj ht ⟨cs, hcs⟩ ((rfl | rfl | rfl | rfl | rfl) | e | e | e | e)
    · omega
    · exact blk_two hcs ha (by rcases ht with rfl | rfl <;> decide)
    · exact hma.blk_ne hcs rfl
    · exact blk_two hcs hb (by rcases ht with rfl | rfl <;> decide)
    · exact hmb.blk_ne hcs rfl
    · have := hv j (.inl e); omega
    · have := hv j (.inr e); omega
    · exact hord _ _ _ _ _ _ e
    · exact hord _ _ _ _ _ _ e
  refine ⟨⟨?_, by show N0 ≤ w.heap.size; omega, by show Wb ≠ Ba; omega, by show Wb ≠ ma; omega, by show Wb ≠ Bb; omega, by show Wb ≠ mb; omega, by show Ba ≠ Bb; omega, by show Ba ≠ mb; omega, by show ma ≠ Bb; omega, by show ma ≠ mb; omega⟩, start_net hT hw o0 o1 hvv ha hma hb hmb (Nat.le_refl _) lost llen, first_a (C := ⟨Wb, Ba, ma, Bb, mb, N0, w.heap.size, L, nl, cl⟩) do_ hmW, first_b (C := ⟨Wb, Ba, ma, Bb, mb, N0, w.heap.size, L, nl, cl⟩) hT dp (fun j t hj ht hb => hmW j t (by omega) ht hb), ?_⟩
  · rintro j (rfl | rfl | rfl | rfl | rfl)
    · exact ⟨hN0, l1⟩
    · exact ⟨by show N0 ≤ j; omega, l2⟩
    · exact ⟨by show N0 ≤ j; omega, l3⟩
    · exact ⟨by show N0 ≤ j; omega, l4⟩
    · exact ⟨by show N0 ≤ j; omega, l5⟩
  · rintro j ((rfl | rfl | rfl | rfl | rfl) | e | e | e | e)
    · exact hN0
    · show N0 ≤ j; omega
    · show N0 ≤ j; omega
    · show N0 ≤ j; omega
    · show N0 ≤ j; omega
    · exact own_block_ge o0 e
    · exact own_block_ge o1 e
    · exact absurd e (hord _ _ _ _ _ _)
    · exact absurd e (hord _ _ _ _ _ _)

/-- The beginning, and the first two deliveries. -/
theorem full_begin {U V : List Od.Hd} {lost : List Bool} {s0 s1 : Int} {Wb Ba ma Bb mb N0 m3 m4 nl cl : Nat} {L : Option Addr} {ov pv : Value} (hU : UnlikeG U) (hV : UnlikeG V) (h0 : 0 ≤ s1) (h1 : s1 < 4294967296) (hnl : nl ≤ 40)
    (hw : Blk w Wb 51 #[.pointer (some ⟨Ba, 0, none⟩), .pointer (some ⟨Bb, 0, none⟩), v0, v1, .int .i64 0, .slice L nl cl, .int .i64 0])
    (o0 : w.ownsRow N0 59 8 v0 U.length (U.flatMap hcells)) (o1 : w.ownsRow N0 59 8 v1 V.length (V.flatMap hcells)) (hvv : ∀ j, v0.ownBlock = some j → v1.ownBlock ≠ some j) (hv : ∀ j, v0.ownBlock = some j ∨ v1.ownBlock = some j → j < m3)
    (ha : AdjAt w Ba (newAdj 1 2 0 2 2 s0 65535 ma).firsted) (hma : MapIs hdval w ma none0) (hb : AdjAt w Bb (newAdj 2 1 0 2 2 s1 65535 mb).firsted) (hmb : MapIs hdval w mb none0)
    (hN0 : N0 ≤ Wb) (hWb : Wb < m3) (q1 : m3 ≤ Ba) (q2 : Ba < m4) (q3 : m3 ≤ ma) (q4 : ma < m4) (q5 : m4 ≤ Bb) (q6 : m4 ≤ mb) (hlost : Reads w N0 1 L nl (lost.map Value.bool)) (llen : lost.length = nl)
    (do_ : OneDesc (newAdj 1 2 0 2 2 s0 65535 ma).firsted [] m3 w ov) (dp : OneDesc (newAdj 2 1 0 2 2 s1 65535 mb).firsted [] m4 w pv) :
    ∃ (T : Tk) (P : Fu.Pa) (C : Cn) (WB : Nat → Prop), TkOk T ∧ CnOk C ∧ P.N = T.N ∧ P.a = T.WA.length ∧ P.b = T.WB.length ∧ P.N ≤ 4 ∧ P.lost.length ≤ 40 ∧ C.Wb = Wb ∧ C.Ba = Ba ∧ C.Bb = Bb ∧ (∀ j, WB j → N0 ≤ j) ∧
      Calls Try.prog 18 #[.pointer (some ⟨Wb, 0, none⟩), .int .i64 1, ov] w fun e w1 => e = .returned (.tuple #[]) ∧ Calls Try.prog 18 #[.pointer (some ⟨Wb, 0, none⟩), .int .i64 0, pv] w1 fun e w2 => e = .returned (.tuple #[]) ∧ Went T P C w WB (Fu.first P) w2 := by
  obtain ⟨N, hN, hN4⟩ := more_ex U.length V.length
  have hT := tk_ok (s0 := s0) hU hV h0 h1 hN
  obtain ⟨g1, g2, g3, g4, g5⟩ := begin_net (P := ⟨N, (Tk.mk U V s0 s1 N).WA.length, (Tk.mk U V s0 s1 N).WB.length, lost⟩) hT hw o0 o1 hvv hv ha hma hb hmb hN0 hWb q1 q2 q3 q4 q5 q6 hlost llen do_ dp
  refine ⟨_, _, _, _, hT, g1, rfl, rfl, rfl, hN4 hU.2.1 hV.2.1, by show lost.length ≤ 40; omega, rfl, rfl, rfl, g5, first_two hT g1 rfl rfl rfl (hN4 hU.2.1 hV.2.1) g2 g3 g4⟩
end
end Go.Proofs.Ytgbmhijgpdgdbaa
