/- Up of a link that is to hear one neighbour: what a first Hello then does. -/
import Derived.Test.YtgbmhijgpdgdbaaLostSteps
import Derived.Test.YtgbmhijgpdgdbaaQuietLaw
namespace Go.Proofs.Ytgbmhijgpdgdbaa
open Go.RowKit

theorem LFr.pre {lo : Nat} {w W w' : World} (hb : Below w.heap.size w W) (h : LFr lo W w') : LFr lo w w' := (LFr.of_below hb).trans h

/-- Whatever comes first, a Hello of whomever is refused or heard. -/
def LostUp (B : Nat) (c : LC) (L : List (Int × Int)) (w : World) : Prop := ∀ W, Below w.heap.size w W → ∀ (G gc : Nat), Blk W G 25 #[.int .u32 c.ro] → ∀ f r : Int,
  Calls Try.prog 35 #[.pointer (some ⟨B, 0, none⟩), .int .u32 f, .int .u32 r, helloA c G gc] W fun e w' => LostFirst B B c f r L W e w'

def LostUpPost (B : Nat) (c : LC) (L : List (Int × Int)) (w : World) (e : Ending) (w' : World) : Prop := (∃ v, e = .returned v) ∧ Below B w w' ∧ LostUp B c L w'

theorem peers_cell : ∀ (L : List (Int × Int)) (j : Nat) (p : Int × Int), L[j]? = some p → (L.flatMap pcells)[j * 2]? = some (.int .u32 p.1) ∧ (L.flatMap pcells)[j * 2 + 1]? = some (.int .u8 p.2) := by
  intro L
  induction L with
  | nil => intro j p h; simp at h
  | cons y ys ih =>
    intro j p h
    rw [List.flatMap_cons]
    cases j with
    | zero =>
      obtain rfl : y = p := by simpa using h
      exact ⟨rfl, rfl⟩
    | succ j =>
      obtain ⟨h1, h2⟩ := ih j p (by simpa using h)
      have e1 : (j + 1) * 2 = j * 2 + 2 := by omega
      have e2 : j * 2 + 2 + 1 = (j * 2 + 1) + 2 := by omega
      rw [e1, e2]
      constructor
      · rw [List.getElem?_append_right (by simp [pcells])]
        simpa [pcells] using h1
      · rw [List.getElem?_append_right (by simp [pcells])]
        simpa [pcells] using h2

theorem peersOwn_of {w : World} {base : Nat} {c : LC} {L : List (Int × Int)} (h : w.ownsRow base 136 2 c.pe L.length (L.flatMap pcells)) (hne : L ≠ []) : PeersOwn w c L := by
  rcases h.2 with ⟨_, h0⟩ | ⟨g, cap, cur, hv, _, hg, _⟩
  · exact absurd (List.length_eq_zero_iff.1 h0) hne
  · have ho := h
    rw [hv] at ho
    refine ⟨g, cap, cur, hv, hg, fun i p hp => ?_⟩
    have hi := (List.getElem?_eq_some_iff.1 hp).1
    obtain ⟨h1, h2⟩ := peers_cell L i p hp
    exact ⟨(ho.cellAt (i * 2) (by omega)).trans h1, (ho.cellAt (i * 2 + 1) (by omega)).trans h2⟩

theorem lost_up (w : World) (B base : Nat) (c : LC) (L : List (Int × Int)) (hn0 : 0 ≤ c.nb) (hps : c.ps = false) (hdm : c.dm = false) (hd : WdOk c.dd) (hm : MayOk c L) (hna : WdOk c.na) (hll : L.length ≤ 200) (hL : PeersAt w w.heap.size c.pe L) (hO : w.ownsRow base 136 2 c.pe L.length (L.flatMap pcells)) (hne : ∀ ad n k, c.pe = .slice (some ad) n k → ad.block ≠ B) (k : Blk w B 119 (lks c 0 0 0 0 0 0 0 (.slice none 0 0))) :
    Calls Try.prog 33 #[.pointer (some ⟨B, 0, none⟩)] w fun e w' => LostUpPost B c L w e w' := by
  have hnet := net_ok hm hna hn0
  have hd0 := hd.v0
  have hd1 : 1 ≤ c.dd := by have := hm.dd; omega
  have hd2 := hd.v1
  cases hp : c.peers with
  | false =>
    have hL0 : L = [] := by
      by_cases h4 : c.ty = 4
      · exact (hm.vi h4).2.2.2.2.2.2
      · exact (hm.ot h4).2.2.2.2.2.1 hp
    subst hL0
    obtain ⟨A, cap, hpe, _⟩ := hL
    refine (up_np w B B c (Nat.le_refl _) hn0 hm.nb hp hps ⟨A, cap, hpe⟩ k).mono ?_
    rintro e w' ⟨v, st, wt, nx, po, he, hst, hk, hb⟩
    refine ⟨⟨v, he⟩, hb, fun W hW G gc hG f r => ?_⟩
    exact first_none (Ls := []) st wt nx po (Nat.le_refl _) (hk.below hW hk.lt) hst hdm hn0 hm.nb hnet hd1 hd2 hp G gc hG f r
  | true =>
    refine (up_peers w B c L hn0 hm.nb hp hps hL hne (by omega) k).mono ?_
    rintro e w' ⟨v, st, wt, nx, po, xs, he, hst, hxs, hk, hf⟩
    refine ⟨⟨v, he⟩, frame_below hf (Nat.le_refl _) k.lt, fun W hW G gc hG f r => ?_⟩
    refine first_peers st wt nx po xs (hk.below hW) hxs hst hdm hn0 hm.nb hnet hd1 hd2 hp hll (fun hne2 => ?_) G gc hG f r
    exact ((peersOwn_of hO hne2).fr (LFr.one (lo := B) k (Nat.le_refl _) (.inl rfl) hf)).fr (LFr.of_below (lo := B) hW)
end Go.Proofs.Ytgbmhijgpdgdbaa
