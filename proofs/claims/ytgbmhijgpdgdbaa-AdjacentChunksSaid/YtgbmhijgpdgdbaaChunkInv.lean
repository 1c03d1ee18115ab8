/- What holds ahead of each round of AdjacentChunks. -/
import Derived.Test.YtgbmhijgpdgdbaaChunkM
import Derived.Test.YtgbmhijgpdgdbaaWorksAll
namespace Go.Proofs.Ytgbmhijgpdgdbaa
open Go.RowKit

theorem HeadsIn.frame2 {w w' : World} {F : Nat → Prop} {v : Value} {l : List Od.Hd} (h : HeadsIn w v l) (hf : Frame F w w') (hn : ∀ g, v.ownBlock = some g → ¬ F g) : HeadsIn w' v l := by
  obtain ⟨h1, h2⟩ := h
  refine ⟨hf.heads h1 hn, fun g hg => ?_⟩
  obtain ⟨cs, fr, e⟩ := h2 g hg
  exact ⟨cs, fr, (hf.block g (Array.getElem?_eq_some_iff.1 e).1 (hn g hg)).trans e⟩
theorem HeadsIn.lt {w : World} {v : Value} {l : List Od.Hd} (h : HeadsIn w v l) : ∀ g, v.ownBlock = some g → g < w.heap.size := by
  intro g hg
  obtain ⟨cs, fr, e⟩ := h.2 g hg
  exact (Array.getElem?_eq_some_iff.1 e).1

theorem ChAt.frame {mst : Bool} {base : Nat} {w w' : World} {B m : Nat} {a : Adj} {U : List Od.Hd} {i : Nat} {F : Nat → Prop} (h : ChAt mst base w B m a U i) (hf : Frame F w w') (hF : ∀ k, F k → ¬ Own B m a.order k)
    (h0 : i = 0 → ∀ g, ¬ F g) (h1 : 0 < i → ∀ g, F g → a.left.ownBlock ≠ some g ∧ a.sheads.ownBlock ≠ some g) : ChAt mst base w' B m a U i :=
  ⟨h.wants.frame hf hF, h.made, h.mtu, h.rx, h.types, h.ord, h.bound, fun e => by
    obtain ⟨f1, f2, f3, f4, f5⟩ := h.first e
    exact ⟨f1, f2, f3, f4.frame2 hf (fun g _ => h0 e g), f5⟩, fun e => by
    obtain ⟨f1, f2, f3, f4, f5, f6, f7, ⟨S, f8⟩, f9⟩ := h.next e
    exact ⟨f1, f2, f3, f4, f5, f6, f7.frame2 hf (fun g hg hF => (h1 e g hF).1 hg), ⟨S, f8.frame2 hf (fun g hg hF => (h1 e g hF).2 hg)⟩, f9⟩⟩

structure ChInv (mst : Bool) (w0 : World) (b1 B m pb : Nat) (U : List Od.Hd) (uv : Value) (w : World) (a : Adj) (i : Nat) (gv : Value) (gn : Nat) (fl sq : Int) : Prop where
  ch : ChAt mst w0.heap.size w B m a U i
  own : HeadsIn w uv U
  got : w.ownsRow b1 59 8 gv gn ((U.take (16 * i)).flatMap hcells)
  glen : (U.take (16 * i)).length = gn
  apart : 0 < i → ∀ g, gv.ownBlock = some g → a.left.ownBlock ≠ some g ∧ a.sheads.ownBlock ≠ some g
  start : i = 0 → gv.ownBlock = none
  p : Blk w pb 28 #[.int .u16 0, .int .u8 2, .int .u8 fl, .int .u32 sq, .slice none 0 0]
  bel : Below w0.heap.size w0 w
  size : b1 ≤ w.heap.size

structure ChFix (w0 : World) (b1 B m pb : Nat) (uv : Value) : Prop where
  hB : w0.heap.size ≤ B
  hm : w0.heap.size ≤ m
  hp : w0.heap.size ≤ pb
  h1 : w0.heap.size ≤ b1
  hu : ∀ g, uv.ownBlock = some g → g < b1

theorem ChInv.quiet {mst : Bool} {w0 : World} {b1 B m pb : Nat} {U : List Od.Hd} {uv : Value} {w w' : World} {a : Adj} {i : Nat} {gv : Value} {gn : Nat} {fl sq : Int} (h : ChInv mst w0 b1 B m pb U uv w a i gv gn fl sq) (hb : Below w.heap.size w w') : ChInv mst w0 b1 B m pb U uv w' a i gv gn fl sq := by
  have hf : Frame (fun _ => False) w w' := Frame.of_below hb
  exact ⟨h.ch.frame hf (fun _ e => e.elim) (fun _ _ e => e) (fun _ _ e => e.elim), h.own.frame hf (noNo _), hf.own h.got (fun _ _ e => e), h.glen, h.apart, h.start, hf.blk h.p (fun e => e), h.bel.trans (hb.mono h.bel.size), Nat.le_trans h.size hb.size⟩

theorem own_not {w : World} {B m : Nat} {a : Adj} {O : List Od.Ky} {M : Od.Ky → Option Od.Hd} (h : Wants w B m a O M) {b : Nat} {e : TypeId} {size n : Nat} {v : Value} {xs : List Value} (hr : w.ownsRow b e size v n xs) (h1 : e ≠ 66) (h2 : e ≠ 56) :
    ∀ g, v.ownBlock = some g → ¬ Own B m a.order g := by
  rintro g hg (rfl | rfl | e1)
  · exact own_blk_ne hr h.adj h1 hg
  · exact own_map_ne hr h.map hg
  · exact own_own_ne hr h.order h2 g hg e1
theorem blk_not {w : World} {B m : Nat} {a : Adj} {O : List Od.Ky} {M : Od.Ky → Option Od.Hd} (h : Wants w B m a O M) {g : Nat} {e : TypeId} {cs : Array Value} (hr : Blk w g e cs) (h1 : e ≠ 66) (h2 : e ≠ 56) : ¬ Own B m a.order g := by
  rintro (rfl | rfl | e1)
  · exact Blk.ne_ hr h.adj h1 rfl
  · exact h.map.blk_ne hr rfl
  · exact own_blk_ne h.order hr (Ne.symm h2) e1

/-- Behind a round: what stands, whatever it said. -/
structure ChMid (mst : Bool) (w0 : World) (b1 B m pb : Nat) (U : List Od.Hd) (uv : Value) (w : World) (i : Nat) (gv : Value) (gn : Nat) (fl sq : Int) (a' : Adj) : Prop where
  own : HeadsIn w uv U
  got : w.ownsRow b1 59 8 gv gn ((U.take (16 * i)).flatMap hcells)
  glen : (U.take (16 * i)).length = gn
  p : Blk w pb 28 #[.int .u16 0, .int .u8 2, .int .u8 fl, .int .u32 sq, .slice none 0 0]
  bel : Below w0.heap.size w0 w
  size : b1 ≤ w.heap.size
  adj : AdjAt w B a'
  made : a'.made = true
  apart : a'.state = 1 → ∀ g, gv.ownBlock = some g → a'.left.ownBlock ≠ some g ∧ a'.sheads.ownBlock ≠ some g

theorem ChInv.round {mst : Bool} {w0 : World} {b1 B m pb : Nat} {U : List Od.Hd} {uv : Value} {w w' : World} {a : Adj} {i : Nat} {gv : Value} {gn : Nat} {fl sq : Int} {v : Value} (h : ChInv mst w0 b1 B m pb U uv w a i gv gn fl sq) (hx : ChFix w0 b1 B m pb uv)
    (ho : ChOut mst w0.heap.size w B m a U i v w') : ∃ a' G, ChMid mst w0 b1 B m pb U uv w' i gv gn fl sq a' ∧
      ((G = [] ∧ v = .slice none 0 0) ∨ ∃ r : Raw, r.d = true ∧ w'.ownsRow w.heap.size 40 7 v 1 r.cells ∧ w'.ownsRow w.heap.size 59 8 r.hv G.length (G.flatMap hcells) ∧ G.length ≤ 16) ∧
      ((a'.state = 3 ∧ U.take (16 * i) ++ G = U) ∨ (a'.state = 1 ∧ U.take (16 * i) ++ G = U.take (16 * (i + 1)) ∧ ChAt mst w0.heap.size w' B m a' U (i + 1))) := by
  obtain ⟨a', G, hv, hf, hA, hm, hs, hn⟩ := ho
  refine ⟨a', G, ⟨h.own.frame hf (NoHeads.own h.ch.wants), hf.own h.got (own_not h.ch.wants h.got (by decide) (by decide)), h.glen, hf.blk h.p (blk_not h.ch.wants h.p (by decide) (by decide)), below_of h.bel hf ?_ h.bel.size, Nat.le_trans h.size hf.size, hA, hm, ?_⟩, hv, hn⟩
  · rintro j (e | e | e)
    · have := hx.hB; omega
    · have := hx.hm; omega
    · exact h.ch.ord j e
  · intro h1 g hg
    rcases Nat.eq_zero_or_pos i with hi | hi
    · rw [h.start hi] at hg; cases hg
    · obtain ⟨s1, s2⟩ := hs hi
      exact ⟨fun e => (h.apart hi g hg).1 (s1 g e), fun e => (h.apart hi g hg).1 (s2 h1 g e)⟩

theorem ChMid.next {mst : Bool} {w0 : World} {b1 B m pb : Nat} {U : List Od.Hd} {uv : Value} {w w2 : World} {i : Nat} {gv gv' : Value} {gn gn' : Nat} {fl sq : Int} {a' : Adj} {G : List Od.Hd} (h : ChMid mst w0 b1 B m pb U uv w i gv gn fl sq a') (hx : ChFix w0 b1 B m pb uv)
    (hc : ChAt mst w0.heap.size w B m a' U (i + 1)) (hst : a'.state = 1) (hG : U.take (16 * i) ++ G = U.take (16 * (i + 1))) (hn : gn' = gn + G.length) (hown : w2.ownsRow b1 59 8 gv' gn' ((U.take (16 * i)).flatMap hcells ++ G.flatMap hcells))
    (hg : w.grownBy w2 gv.ownBlock) (hat : gv'.ownBlock = gv.ownBlock ∨ gv'.ownBlock = some w.heap.size) : ChInv mst w0 b1 B m pb U uv w2 a' (i + 1) gv' gn' fl sq := by
  have hf : Frame (fun j => gv.ownBlock = some j) w w2 := Frame.of_grown hg (fun k e _ => e)
  refine ⟨hc.frame hf (fun k e => own_not hc.wants h.got (by decide) (by decide) k e) (fun e => by omega) (fun _ g hg' => h.apart hst g hg'), h.own.frame2 hf (fun g hg' e => by
    have h1 := hx.hu g hg'
    have h2 := (h.got.lt g e).1
    omega), by rw [← hG, List.flatMap_append]; exact hown, by rw [← hG, List.length_append, h.glen, hn], fun _ g hg' => ?_, fun e => by omega, hf.blk h.p (fun e => own_blk_ne h.got h.p (by decide) e), below_of h.bel hf (fun j e => by
    have h1 := hx.h1
    have h2 := (h.got.lt j e).1
    omega) h.bel.size, Nat.le_trans h.size hf.size⟩
  rcases hat with e | e
  · exact h.apart hst g (e ▸ hg')
  · rw [e] at hg'
    cases hg'
    obtain ⟨f1, f2, f3, f4, f5, f6, f7, ⟨S, f8⟩, f9⟩ := hc.next (by omega)
    exact ⟨fun e => Nat.lt_irrefl _ (f7.lt _ e), fun e => Nat.lt_irrefl _ (f8.lt _ e)⟩

theorem ChMid.next0 {mst : Bool} {w0 : World} {b1 B m pb : Nat} {U : List Od.Hd} {uv : Value} {w : World} {i : Nat} {gv : Value} {gn : Nat} {fl sq : Int} {a' : Adj} (h : ChMid mst w0 b1 B m pb U uv w i gv gn fl sq a')
    (hc : ChAt mst w0.heap.size w B m a' U (i + 1)) (hst : a'.state = 1) (hG : U.take (16 * i) ++ [] = U.take (16 * (i + 1))) : ChInv mst w0 b1 B m pb U uv w a' (i + 1) gv gn fl sq := by
  rw [List.append_nil] at hG
  exact ⟨hc, h.own, by rw [← hG]; exact h.got, by rw [← hG]; exact h.glen, fun _ => h.apart hst, fun e => by omega, h.p, h.bel, h.size⟩

theorem ChInv.setp {mst : Bool} {w0 : World} {b1 B m pb : Nat} {U : List Od.Hd} {uv : Value} {w w3 : World} {a : Adj} {i : Nat} {gv : Value} {gn : Nat} {fl sq fl' sq' : Int} (h : ChInv mst w0 b1 B m pb U uv w a i gv gn fl sq) (hx : ChFix w0 b1 B m pb uv) (hi : 0 < i)
    (hf : Frame (fun j => j = pb) w w3) (hp : Blk w3 pb 28 #[.int .u16 0, .int .u8 2, .int .u8 fl', .int .u32 sq', .slice none 0 0]) : ChInv mst w0 b1 B m pb U uv w3 a i gv gn fl' sq' := by
  have hno : NoHeads w (fun j => j = pb) := NoHeads.blk h.p (by decide)
  obtain ⟨f1, f2, f3, f4, f5, f6, f7, ⟨S, f8⟩, f9⟩ := h.ch.next hi
  refine ⟨h.ch.frame hf (fun k e => by subst e; exact blk_not h.ch.wants h.p (by decide) (by decide)) (fun e => by omega) (fun _ g e => ⟨fun e2 => ?_, fun e2 => ?_⟩), h.own.frame hf hno, hf.own h.got (fun g hg e => own_blk_ne h.got h.p (by decide) (e ▸ hg)), h.glen, h.apart, h.start, hp, below_of h.bel hf (fun j e => by have := hx.hp; omega) h.bel.size, Nat.le_trans h.size hf.size⟩
  · obtain ⟨cs, fr, e3⟩ := f7.2 g e2
    exact hno g cs fr e e3
  · obtain ⟨cs, fr, e3⟩ := f8.2 g e2
    exact hno g cs fr e e3
end Go.Proofs.Ytgbmhijgpdgdbaa
