/- One round of such a talk, by the master. -/
import Derived.Test.YtgbmhijgpdgdbaaChunk
namespace Go.Proofs.Ytgbmhijgpdgdbaa
open Go.RowKit

theorem dflags_next (m : Bool) (U : List Od.Hd) (i : Nat) : isM (dflags m (U.drop (16 * i))) = decide (U.drop (16 * (i + 1)) ≠ []) := by
  rw [isM_dflags, decide_eq_decide, ← List.length_pos_iff, List.length_drop, List.length_drop]
  omega

theorem round_master (w : World) (base B m : Nat) (a : Adj) (U : List Od.Hd) (i : Nat) (ow : Value) (h : ChAt true base w B m a U i) (hU : Unlike U) (how : HeadsIn w ow U) (hbase : base ≤ w.heap.size) :
    Calls Try.prog 14 #[.pointer (some ⟨B, 0, none⟩), ddval 0 2 0 (9 + (i : Int)) (.slice none 0 0), ow] w fun e w' => ∃ v, e = .returned (.tuple #[v, .int .i64 0]) ∧ ChOut true base w B m a U i v w' := by
  have hUl := hU.2
  have hbd : i ≤ 5 := by rcases h.bound with e | e <;> omega
  rcases Nat.eq_zero_or_pos i with hi | hi
  · subst hi
    obtain ⟨f1, f2, f3, f4, f5⟩ := h.first rfl
    rw [if_pos rfl] at f5
    refine (Describe_start w B a 0 2 0 9 (.slice none 0 0) ow (fun v w' => MasterMore w B m { a with master := true, state := 1 } [] (fun _ => none) 2 0 9 U v w') h.wants.adj (.inl rfl) h.made h.mtu f1 ?_).mono ?_
    · intro w1 hb
      have hf : Frame (fun _ => False) w w1 := Frame.of_below hb
      refine (begin_master w1 B m a (fun _ => none) 0 2 0 9 (.slice none 0 0) ow U (h.wants.frame hf (fun _ e => e.elim)) (HeadsIn.nil _) (how.frame hf (noNo _)) (fun x hx => (hU.1 x hx).1) (fun x hx => (hU.1 x hx).2) (by omega) (by rw [h.rx]; omega) f5 h.types (by decide) (by decide) f2.symm f3 (f4.frame hf (noNo _))).mono ?_
      rintro e w' ⟨v, rfl, hs⟩
      exact ⟨v, rfl, MasterMore.from (x := a.left) (Frame.of_below hb) hs⟩
    · rintro e w' ⟨v, rfl, ov, lv, sv, h1, hv, h2, h3⟩
      refine ⟨v, rfl, _, U.take 16, .inr ⟨_, rfl, h2, h3, by rw [List.length_take]; omega⟩, h1.frame, h1.wants.adj, h.made, fun e => by omega, .inr ⟨rfl, by simp, ?_⟩⟩
      exact ⟨h1.wants, h.made, h.mtu, h.rx, h.types, fun g hg => by
        rcases h1.ord with e | e | ⟨g', e, hg'⟩
        · exact h.ord g (e ▸ hg)
        · rw [e] at hg; cases hg
        · rw [e] at hg; cases hg; omega, .inl (by omega), fun e => by omega, fun _ => ⟨rfl, rfl, rfl, rfl, by simp; rfl, by rw [if_pos rfl]; show (a.seq + 1) % 4294967296 = _; rw [f2]; decide, h1.left, ⟨_, h1.sent⟩, fun _ => dflags_next true U 0⟩⟩
  · obtain ⟨f1, f2, f3, f4, f5, f6, f7, ⟨S, f8⟩, f9⟩ := h.next hi
    rw [if_pos rfl] at f6
    have f9 := f9 rfl
    have hfit : Fits a 2 0 (9 + (i : Int)) := ⟨by decide, by rw [f2]; decide, f4.symm, by rw [nextSeq, f2, f6]; simp, by omega, by omega⟩
    refine (Describe_again w B a 0 2 0 (9 + (i : Int)) (.slice none 0 0) ow (fun v w' => if (isM a.sflags || isM 0) = true then MasterMoreW w B m a [] (fun _ => none) 2 0 (9 + (i : Int)) (U.drop (16 * i)) v w' else MasterFull w B m a [] (fun _ => none) 2 0 (9 + (i : Int)) (U.drop (16 * i)) S v w') h.wants.adj (.inl rfl) h.made h.mtu (by rw [f1]; decide) ?_).mono ?_
    · intro w1 hb
      have hf : Frame (fun _ => False) w w1 := Frame.of_below hb
      refine (again_any w1 B a 0 2 0 (9 + (i : Int)) (.slice none 0 0) ow [] (fun v w' => if (isM a.sflags || isM 0) = true then MasterMoreW w B m a [] (fun _ => none) 2 0 (9 + (i : Int)) (U.drop (16 * i)) v w' else MasterFull w B m a [] (fun _ => none) 2 0 (9 + (i : Int)) (U.drop (16 * i)) S v w') (h.wants.frame hf (fun _ e => e.elim)).adj (HeadsIn.nil _) (by simp) (by simp) h.types hfit f3 (by simp; omega) f1 ?_).mono (fun e w' he => he)
      intro w2 hb2
      have hf2 : Frame (fun _ => False) w w2 := hf.trans (Frame.of_below hb2)
      refine (take_master w2 B m a [] (fun _ => none) 0 2 0 (9 + (i : Int)) (.slice none 0 0) ow [] U (U.drop (16 * i)) S (h.wants.frame hf2 (fun _ e => e.elim)) (f7.frame hf2 (noNo _)) (f8.frame hf2 (noNo _)) (HeadsIn.nil _) (how.frame hf2 (noNo _)) (by simp) (fun x hx => (hU.1 x hx).1) (by rw [List.length_drop]; omega) (by simp) (by omega) (by rw [h.rx]; omega) f2 (fun _ => rfl) (by simp)).mono ?_
      rintro e w' ⟨v, rfl, hsv⟩
      refine ⟨v, rfl, ?_⟩
      by_cases hm : (isM a.sflags || isM 0) = true
      · rw [if_pos hm] at hsv ⊢
        exact MasterMoreW.from (hf2.mono fun _ e => e.elim) hsv
      · rw [if_neg hm] at hsv ⊢
        exact MasterFull.from (hf2.mono fun _ e => e.elim) hsv
    · rintro e w' ⟨v, rfl, hs⟩
      rw [show isM 0 = false from by decide, Bool.or_false, f9] at hs
      by_cases hg : U.drop (16 * i) ≠ []
      · rw [if_pos (by simpa using hg)] at hs
        obtain ⟨ov, lv, sv, ⟨hsb1, hsb2⟩, h1, hv, h2, h3⟩ := hs
        have hlen : 16 * i < U.length := by
          have := List.length_pos_iff.2 hg
          rw [List.length_drop] at this
          omega
        refine ⟨v, rfl, _, (U.drop (16 * i)).take 16, .inr ⟨_, rfl, h2, h3, by rw [List.length_take]; omega⟩, h1.frame, h1.wants.adj, h.made, fun _ => ⟨hsb1, fun _ => hsb2⟩, .inr ⟨f1, chunk_next U i, ?_⟩⟩
        exact ⟨h1.wants, h.made, h.mtu, h.rx, h.types, fun g hg => by
          rcases h1.ord with e | e | ⟨g', e, hg'⟩
          · exact h.ord g (e ▸ hg)
          · rw [e] at hg; cases hg
          · rw [e] at hg; cases hg; omega, .inr (by simpa using hlen), fun e => by omega, fun _ => ⟨f1, f2, rfl, rfl, by show 9 + (i : Int) = _; omega, by rw [if_pos rfl]; show (a.seq + 1) % 4294967296 = _; rw [f6]; omega, by rw [← chunk_drop]; exact h1.left, ⟨_, h1.sent⟩, fun _ => dflags_next _ U i⟩⟩
      · have hg' : U.drop (16 * i) = [] := by simpa using hg
        rw [if_neg (by simpa using hg')] at hs
        obtain ⟨ov, h1, rfl⟩ := hs
        refine ⟨_, rfl, _, [], .inl ⟨rfl, rfl⟩, h1.frame, h1.wants.adj, h.made, fun _ => ⟨fun _ e => e, fun e => by cases e⟩, .inl ⟨rfl, ?_⟩⟩
        have := List.take_append_drop (16 * i) U
        rw [hg'] at this
        exact this
end Go.Proofs.Ytgbmhijgpdgdbaa
