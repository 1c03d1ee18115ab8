/- One round of a talk in which the other one hears and says nothing. -/
import Derived.Test.YtgbmhijgpdgdbaaUnlike
import Derived.Test.YtgbmhijgpdgdbaaBeginM
import Derived.Test.YtgbmhijgpdgdbaaAgain
namespace Go.Proofs.Ytgbmhijgpdgdbaa
open Go.RowKit

/-- How the adjacency stands ahead of round i. -/
structure ChAt (mst : Bool) (base : Nat) (w : World) (B m : Nat) (a : Adj) (U : List Od.Hd) (i : Nat) : Prop where
  wants : Wants w B m a [] (fun _ => none)
  made : a.made = true
  mtu : a.mtu = 0
  rx : a.rxmt = 2
  types : a.types = 65535
  ord : ∀ g, a.order.ownBlock = some g → base ≤ g
  bound : i ≤ 1 ∨ 16 * (i - 1) < U.length
  first : i = 0 → a.state = 0 ∧ a.seq = 9 ∧ isM a.sflags = true ∧ HeadsIn w a.sheads [] ∧ (if mst then a.other < a.self else a.self < a.other)
  next : 0 < i → a.state = 1 ∧ a.master = mst ∧ a.taken = true ∧ a.lopts = 2 ∧ a.lseq = 9 + (i : Int) - 1 ∧ (a.seq = if mst then 9 + (i : Int) else 9 + (i : Int) - 1) ∧ HeadsIn w a.left (U.drop (16 * i)) ∧ (∃ S, HeadsIn w a.sheads S) ∧ (mst = true → isM a.sflags = decide (U.drop (16 * i) ≠ []))

def ChOut (mst : Bool) (base : Nat) (w : World) (B m : Nat) (a : Adj) (U : List Od.Hd) (i : Nat) (v : Value) (w' : World) : Prop :=
  ∃ a' G, ((G = [] ∧ v = .slice none 0 0) ∨ ∃ r : Raw, r.d = true ∧ w'.ownsRow w.heap.size 40 7 v 1 r.cells ∧ w'.ownsRow w.heap.size 59 8 r.hv G.length (G.flatMap hcells) ∧ G.length ≤ 16) ∧
    Frame (Own B m a.order) w w' ∧ AdjAt w' B a' ∧ a'.made = true ∧ (0 < i → SubBlk a'.left a.left ∧ (a'.state = 1 → SubBlk a'.sheads a.left)) ∧ ((a'.state = 3 ∧ U.take (16 * i) ++ G = U) ∨ (a'.state = 1 ∧ U.take (16 * i) ++ G = U.take (16 * (i + 1)) ∧ ChAt mst base w' B m a' U (i + 1)))

theorem chunk_next (U : List Od.Hd) (i : Nat) : U.take (16 * i) ++ (U.drop (16 * i)).take 16 = U.take (16 * (i + 1)) := by
  rw [show 16 * (i + 1) = 16 * i + 16 from by omega, List.take_add]
theorem chunk_drop (U : List Od.Hd) (i : Nat) : (U.drop (16 * i)).drop 16 = U.drop (16 * (i + 1)) := by
  rw [List.drop_drop, show 16 * i + 16 = 16 * (i + 1) from by omega]
theorem chunk_all (U : List Od.Hd) (i : Nat) (h : (U.drop (16 * i)).length ≤ 16) : U.take (16 * i) ++ (U.drop (16 * i)).take 16 = U := by
  rw [List.take_of_length_le h, List.take_append_drop]
theorem isM_dflags (m : Bool) (L : List Od.Hd) : isM (dflags m L) = decide (16 < L.length) := by
  unfold isM dflags
  by_cases hg : 16 < L.length <;> cases m <;> simp only [hg, if_true, if_false, Bool.false_eq_true, decide_true, decide_false] <;> decide

theorem round_slave (w : World) (base B m : Nat) (a : Adj) (U : List Od.Hd) (i : Nat) (ow : Value) (h : ChAt false base w B m a U i) (hU : Unlike U) (how : HeadsIn w ow U) (hbase : base ≤ w.heap.size) (flags : Int) (hfl : flags = if i = 0 then 7 else 1) :
    Calls Try.prog 14 #[.pointer (some ⟨B, 0, none⟩), ddval 0 2 flags (9 + (i : Int)) (.slice none 0 0), ow] w fun e w' => ∃ v, e = .returned (.tuple #[v, .int .i64 0]) ∧ ChOut false base w B m a U i v w' := by
  have hUl := hU.2
  have hbd : i ≤ 5 := by rcases h.bound with e | e <;> omega
  rcases Nat.eq_zero_or_pos i with hi | hi
  · subst hi
    rw [if_pos rfl] at hfl
    subst hfl
    obtain ⟨f1, f2, f3, f4, f5⟩ := h.first rfl
    rw [if_neg (by decide)] at f5
    refine (Describe_start w B a 0 2 7 9 (.slice none 0 0) ow (fun v w' => SlaveV w B m { a with master := false, state := 1 } [] (fun _ => none) 2 7 9 U v w') h.wants.adj (.inl rfl) h.made h.mtu f1 ?_).mono ?_
    · intro w1 hb
      have hf : Frame (fun _ => False) w w1 := Frame.of_below hb
      refine (begin_slave w1 B m a (fun _ => none) 0 2 7 9 (.slice none 0 0) ow U (h.wants.frame hf (fun _ e => e.elim)) (HeadsIn.nil _) (how.frame hf (noNo _)) (fun x hx => (hU.1 x hx).1) (fun x hx => (hU.1 x hx).2) (by omega) (by rw [h.rx]; omega) f5 h.types (by decide) (by decide)).mono ?_
      rintro e w' ⟨v, rfl, hs⟩
      exact ⟨v, rfl, SlaveV.from (x := a.left) (Frame.of_below hb) hs⟩
    · rintro e w' ⟨v, rfl, ov, lv, sv, hs⟩
      unfold SlaveB at hs
      rw [show kindOf (decide (16 < U.length) || isM 7) [] = .more from by rw [show isM 7 = true from by decide, Bool.or_true]; rfl] at hs
      obtain ⟨h1, hv, h2, h3⟩ := hs
      refine ⟨v, rfl, _, U.take 16, .inr ⟨_, rfl, h2, h3, by rw [List.length_take]; omega⟩, h1.frame, h1.wants.adj, h.made, fun e => by omega, .inr ⟨rfl, by simp, ?_⟩⟩
      exact ⟨h1.wants, h.made, h.mtu, h.rx, h.types, fun g hg => by
        rcases h1.ord with e | e | ⟨g', e, hg'⟩
        · exact h.ord g (e ▸ hg)
        · rw [e] at hg; cases hg
        · rw [e] at hg; cases hg; omega, .inl (by omega), fun e => by omega, fun _ => ⟨rfl, rfl, rfl, rfl, by simp; rfl, by simp; rfl, h1.left, ⟨_, h1.sent⟩, fun e => by cases e⟩⟩
  · rw [if_neg (by omega)] at hfl
    subst hfl
    obtain ⟨f1, f2, f3, f4, f5, f6, f7, -, -⟩ := h.next hi
    rw [if_neg (by decide)] at f6
    have hfit : Fits a 2 1 (9 + (i : Int)) := ⟨by decide, by rw [f2]; decide, f4.symm, by rw [nextSeq, f2, f6]; simp; omega, by omega, by omega⟩
    refine (Describe_again w B a 0 2 1 (9 + (i : Int)) (.slice none 0 0) ow (fun v w' => SlaveW w B m a [] (fun _ => none) 2 1 (9 + (i : Int)) (U.drop (16 * i)) v w') h.wants.adj (.inl rfl) h.made h.mtu (by rw [f1]; decide) ?_).mono ?_
    · intro w1 hb
      have hf : Frame (fun _ => False) w w1 := Frame.of_below hb
      refine (again_any w1 B a 0 2 1 (9 + (i : Int)) (.slice none 0 0) ow [] (fun v w' => SlaveW w B m a [] (fun _ => none) 2 1 (9 + (i : Int)) (U.drop (16 * i)) v w') (h.wants.frame hf (fun _ e => e.elim)).adj (HeadsIn.nil _) (by simp) (by simp) h.types hfit f3 (by simp; omega) f1 ?_).mono (fun e w' he => he)
      intro w2 hb2
      have hf2 : Frame (fun _ => False) w w2 := hf.trans (Frame.of_below hb2)
      refine (take_slave w2 B m a [] (fun _ => none) 0 2 1 (9 + (i : Int)) (.slice none 0 0) ow [] U (U.drop (16 * i)) (h.wants.frame hf2 (fun _ e => e.elim)) (f7.frame hf2 (noNo _)) (HeadsIn.nil _) (how.frame hf2 (noNo _)) (by simp) (fun x hx => (hU.1 x hx).1) (by rw [List.length_drop]; omega) (by simp) (by omega) (by rw [h.rx]; omega) f2 (by simp)).mono ?_
      rintro e w' ⟨v, rfl, hsv⟩
      exact ⟨v, rfl, SlaveW.from (hf2.mono fun _ e => e.elim) hsv⟩
    · rintro e w' ⟨v, rfl, ov, lv, sv, ⟨hsb1, hsb2⟩, hs⟩
      unfold SlaveB at hs
      rw [show isM 1 = false from by decide, Bool.or_false] at hs
      by_cases hg : 16 < (U.drop (16 * i)).length
      · rw [show kindOf (decide (16 < (U.drop (16 * i)).length)) [] = .more from by rw [decide_eq_true hg]; rfl] at hs
        obtain ⟨h1, hv, h2, h3⟩ := hs
        refine ⟨v, rfl, _, (U.drop (16 * i)).take 16, .inr ⟨_, rfl, h2, h3, by rw [List.length_take]; omega⟩, h1.frame, h1.wants.adj, h.made, fun _ => ⟨hsb1, fun _ => hsb2⟩, .inr ⟨f1, chunk_next U i, ?_⟩⟩
        exact ⟨h1.wants, h.made, h.mtu, h.rx, h.types, fun g hg => by
          rcases h1.ord with e | e | ⟨g', e, hg'⟩
          · exact h.ord g (e ▸ hg)
          · rw [e] at hg; cases hg
          · rw [e] at hg; cases hg; omega, .inr (by rw [List.length_drop] at hg; omega), fun e => by omega, fun _ => ⟨f1, f2, rfl, rfl, by show 9 + (i : Int) = _; omega, by rw [if_neg (by decide)]; show 9 + (i : Int) = _; omega, by rw [← chunk_drop]; exact h1.left, ⟨_, h1.sent⟩, fun e => by cases e⟩⟩
      · rw [show kindOf (decide (16 < (U.drop (16 * i)).length)) [] = .full from by rw [decide_eq_false hg]; rfl] at hs
        obtain ⟨h1, hv, h2, h3⟩ := hs
        exact ⟨v, rfl, _, (U.drop (16 * i)).take 16, .inr ⟨_, rfl, h2, h3, by rw [List.length_take]; omega⟩, h1.frame, h1.wants.adj, h.made, fun _ => ⟨hsb1, fun _ => hsb2⟩, .inl ⟨rfl, chunk_all U i (by omega)⟩⟩
end Go.Proofs.Ytgbmhijgpdgdbaa
