/- A new adjacency. -/
import Derived.Test.YtgbmhijgpdgdbaaFaTypes
import Derived.Carry
namespace Go.Proofs.Ytgbmhijgpdgdbaa
open Go.RowKit

def newAdj (self other mtu opts rxmt seq types : Int) (m : Nat) : Adj :=
  ⟨true, self, other, mtu, opts, rxmt, seq, types, 0, seq, false, .slice none 0 0, 0, 0, 0, 0, .slice none 0 0, false, 0, 0, 0, .slice none 0 0, .map (some m), .slice none 0 0, 0⟩

def NewPost (self other mtu opts rxmt seq types : Int) (w : World) (e : Ending) (w' : World) : Prop :=
  ∃ B m v, e = .returned (.tuple #[.pointer (some ⟨B, 0, none⟩), v, .int .i64 0]) ∧ w.heap.size ≤ B ∧ w.heap.size ≤ m ∧ AdjAt w' B (newAdj self other mtu opts rxmt seq types m).firsted ∧
    MapIs hdval w' m (fun _ => none) ∧ Below w.heap.size w w' ∧ OneDesc (newAdj self other mtu opts rxmt seq types m).firsted [] w.heap.size w' v

theorem below_of_frame {w w' w0 : World} {B k : Nat} (h0 : Below k w0 w) (h : Frame (fun i => i = B) w w') (hB : k ≤ B) (hk : k ≤ w.heap.size) : Below k w0 w' :=
  ⟨h.os.trans h0.os, h.tape.trans h0.tape, h.output.trans h0.output, Nat.le_trans h0.size h.size, fun i hi => (h.block i (Nat.lt_of_lt_of_le hi hk) (by omega)).trans (h0.block i hi)⟩

theorem own_base {w : World} {base base' : Nat} {e : TypeId} {size n : Nat} {v : Value} {xs : List Value} (h : w.ownsRow base e size v n xs) (hb : base' ≤ base) : w.ownsRow base' e size v n xs := by
  obtain ⟨q1, q2⟩ := h
  refine ⟨q1, ?_⟩
  rcases q2 with q2 | ⟨g, cap, cur, q3, q4, q5⟩
  · exact .inl q2
  · exact .inr ⟨g, cap, cur, q3, by omega, q5⟩
theorem OneDesc.base {a : Adj} {l : List Od.Hd} {lo lo' : Nat} {w : World} {v : Value} (h : OneDesc a l lo w v) (hb : lo' ≤ lo) : OneDesc a l lo' w v := by
  obtain ⟨hv, h1, h2⟩ := h
  exact ⟨hv, own_base h1 hb, own_base h2 hb⟩

theorem blk_at {w : World} {g : Nat} {t : TypeId} {cs : Array Value} (h : g = w.heap.size) : Blk (w.alloc (.cells cs t)) g t cs := by subst h; exact Blk.new w t cs

set_option maxHeartbeats 2000000 in
set_option maxRecDepth 20000 in
theorem new_any (self other mtu opts rxmt seq types : Int) (w : World) (h1 : self ≠ 0) (h2 : other ≠ 0) (h3 : self ≠ other) (h4 : 0 < rxmt) (h5 : rxmt < 65536) :
    Calls Try.prog 13 #[.agg #[.int .u32 self, .int .u32 other, .int .u16 mtu, .int .u8 opts, .int .u16 rxmt, .int .u32 seq, .int .u16 types]] w fun e w' => NewPost self other mtu opts rxmt seq types w e w' := by
  have e1 : (self == 0) = false := by simpa using h1
  have e2 : (other == 0) = false := by simpa using h2
  have e3 : (self == other) = false := by simpa using h3
  have e4 : (rxmt == 0) = false := by simp; omega
  have hmk := fun w1 : World => run_makeMap (P := Try.prog) 64 w1
  clear h1 h2 h3
  go_enter Try.func13, Try.ntmps13
  go_wp2_with fail
  have hA : AdjAt (((w.alloc (.cells #[.int .u32 self, .int .u32 other, .int .u16 mtu, .int .u8 opts, .int .u16 rxmt, .int .u32 seq, .int .u16 types] 35)).alloc (.map #[] 0)).alloc (.cells (newAdj self other mtu opts rxmt seq types (w.heap.size + 1)).cells 66)) (w.heap.size + 1 + 1) (newAdj self other mtu opts rxmt seq types (w.heap.size + 1)) := blk_at (by simp)
  have hM : MapIs hdval (((w.alloc (.cells #[.int .u32 self, .int .u32 other, .int .u16 mtu, .int .u8 opts, .int .u16 rxmt, .int .u32 seq, .int .u16 types] 35)).alloc (.map #[] 0)).alloc (.cells (newAdj self other mtu opts rxmt seq types (w.heap.size + 1)).cells 66)) (w.heap.size + 1) (fun _ => none) := by
    have := (MapIs.made hdval (w.alloc (.cells #[.int .u32 self, .int .u32 other, .int .u16 mtu, .int .u8 opts, .int .u16 rxmt, .int .u32 seq, .int .u16 types] 35))).alloc (.cells (newAdj self other mtu opts rxmt seq types (w.heap.size + 1)).cells 66)
    rw [World.size_alloc] at this
    exact this
  have hBel : Below w.heap.size w (((w.alloc (.cells #[.int .u32 self, .int .u32 other, .int .u16 mtu, .int .u8 opts, .int .u16 rxmt, .int .u32 seq, .int .u16 types] 35)).alloc (.map #[] 0)).alloc (.cells (newAdj self other mtu opts rxmt seq types (w.heap.size + 1)).cells 66)) := (((Below.refl _ w).alloc (Nat.le_refl _) _).alloc (by simp) _).alloc (by simp; omega) _
  refine (first_any _ (w.heap.size + 1 + 1) (newAdj self other mtu opts rxmt seq types (w.heap.size + 1)) hA ⟨by show 0 ≤ rxmt; omega, h5⟩).mono ?_
  have HM := Lib.hid hM
  have HB := Lib.hid hBel
  clear hA hM hBel hmk
  rintro e w2 ⟨v, rfl, hA2, hF2, hD2⟩
  have HP := Lib.hid (show NewPost self other mtu opts rxmt seq types w (.returned (.tuple #[.pointer (some ⟨w.heap.size + 1 + 1, 0, none⟩), v, .int .i64 0])) w2 from
    ⟨_, _, v, rfl, by omega, by omega, hA2, hF2.map HM.out (by omega), below_of_frame HB.out hF2 (by omega) (by simp; omega), hD2.base (by simp; omega)⟩)
  clear hA2 hF2 hD2 HM HB
  go_wp2_with fail
  refine bodyPost_ret (v := .tuple #[.pointer (some ⟨w.heap.size + 1 + 1, 0, none⟩), v, .int .i64 0]) (by simp [results, Try.results13, go_sem]) rfl HP.out
end Go.Proofs.Ytgbmhijgpdgdbaa
