/- The next description of an adjacency. -/
import Derived.Test.YtgbmhijgpdgdbaaFaTypes
import Derived.BigRegion
namespace Go.Proofs.Ytgbmhijgpdgdbaa
open Go.RowKit

theorem head_size (w : World) : (sizeOf (Try.prog.elem 22)).run Try.prog w = .ok 8 w := by
  obtain ⟨i0, hi, hz0, hz1, hz2⟩ := info_parts head_info
  have : Try.prog.elem 22 = 59 := by kernel_rfl
  rw [this]
  simp [sizeOf, typeInfo, hi, hz1]
theorem elem22 : Try.prog.underlying 22 = some (.slice (Try.prog.elem 22)) := by
  have : Try.prog.elem 22 = 59 := by kernel_rfl
  rw [this]; exact Try.underlying22

theorem map_add_zero (A : Option Addr) (k : Nat) : Option.map (fun a : Addr => a.add (0 * k)) A = A := by
  cases A <;> simp [Addr.add]

theorem slice_hm (w : World) (A : Option Addr) (n c k : Nat) (hk : k ≤ c) : (Instr.slice 22 (.slice A n c) none (some (.int .i64 k)) (some (.int .i64 k))).run Try.prog w = .ok (.slice A k k) w := by
  rw [run_slice_hm w 22 A n c elem22 _ _ _ _ (by omega) (by omega) (by omega), head_size]
  simp only [Result.andThen, sliced, Int.toNat_natCast, Nat.sub_zero]
  congr 2
  split
  · rfl
  · exact map_add_zero A 8
theorem slice_lo (w : World) (A : Option Addr) (n c k : Nat) (hk : k ≤ n) : (Instr.slice 22 (.slice A n c) (some (.int .i64 k)) none none).run Try.prog w = .ok (.slice (if c = k then A else A.map (·.add (k * 8))) (n - k) (c - k)) w := by
  rw [run_slice_l w 22 A n c elem22 _ _ (by omega) (by omega), head_size]
  simp only [Result.andThen, sliced, Int.toNat_natCast]

def dflags (m : Bool) (L : List Od.Hd) : Int := (if 16 < L.length then 2 else 0) + (if m then 1 else 0)
def Adj.described (a : Adj) (fl : Int) (lv sv : Value) : Adj := { a with left := lv, smtu := a.mtu, sopts := a.opts, sflags := fl, sseq := a.seq, sheads := sv, timer := a.rxmt }

/-- The block of v, if it has one, is u's. -/
def SubBlk (v u : Value) : Prop := ∀ g, v.ownBlock = some g → u.ownBlock = some g
theorem sub_take (A : Option Addr) (n c x y : Nat) : SubBlk (.slice A x y) (.slice A n c) := by
  intro g hg
  cases A with
  | none => simp [Value.ownBlock] at hg
  | some ad => simpa [Value.ownBlock] using hg
theorem sub_cut (A : Option Addr) (n c k x y : Nat) : SubBlk (.slice (if c = k then A else A.map (·.add (k * 8))) x y) (.slice A n c) := by
  intro g hg
  cases A with
  | none => simp [Value.ownBlock] at hg
  | some ad => split at hg <;> simpa [Value.ownBlock, block_of_add] using hg
theorem sub_128 (A : Option Addr) (n c x y : Nat) : SubBlk (.slice (Option.map (fun x => (⟨x.block, x.off + 128, none⟩ : Addr)) A) x y) (.slice A n c) := by
  intro g hg
  cases A with
  | none => simp [Value.ownBlock] at hg
  | some ad => simpa [Value.ownBlock] using hg

def DescPost (B : Nat) (a : Adj) (L : List Od.Hd) (w : World) (e : Ending) (w' : World) : Prop :=
  ∃ hv lv sv, e = .returned (outval true a.mtu a.opts (dflags a.master L) a.seq hv (.slice none 0 0)) ∧ AdjAt w' B (a.described (dflags a.master L) lv sv) ∧ HeadsIn w' lv (L.drop 16) ∧ HeadsIn w' sv (L.take 16) ∧ Frame (fun k => k = B) w w' ∧
    w'.ownsRow w.heap.size 59 8 hv (L.take 16).length ((L.take 16).flatMap hcells) ∧ SubBlk lv a.left ∧ SubBlk sv a.left

def ozero : Array Value := #[.bool false, .int .u16 0, .int .u8 0, .int .u8 0, .int .u32 0, .slice none 0 0, .slice none 0 0]

theorem blk_new_at {w : World} {g : Nat} {t : TypeId} {cs : Array Value} (h : g = w.heap.size) : Blk (w.alloc (.cells cs t)) g t cs := by subst h; exact Blk.new w t cs

/-- 'out' out of a world that came of w by writes to B. -/
def OutFrom (w : World) (B : Nat) (a : Adj) (l l2 : List Od.Hd) (e : Ending) (w' : World) : Prop :=
  ∃ hv, e = .returned (outval true a.smtu a.sopts a.sflags a.sseq hv (.slice none 0 0)) ∧ AdjAt w' B a ∧ HeadsIn w' a.left l2 ∧ HeadsIn w' a.sheads l ∧ Frame (fun k => k = B) w w' ∧ Blk w' w.heap.size 40 ozero ∧
    w'.ownsRow w.heap.size 59 8 hv l.length (l.flatMap hcells)
theorem out_from (W w : World) (B : Nat) (a : Adj) (l l2 : List Od.Hd) (hA : AdjAt W B a) (hl : HeadsIn W a.sheads l) (hl2 : HeadsIn W a.left l2) (hn : l.length ≤ 65536) (hF : Frame (fun k => k = B) w W) (hO : Blk W w.heap.size 40 ozero) :
    Calls Try.prog 55 #[.pointer (some ⟨B, 0, none⟩)] W fun e w' => OutFrom w B a l l2 e w' := by
  refine (out_any W B a l hA hl.1 hn).mono ?_
  rintro e w2 ⟨hv, rfl, hb2, ho2⟩
  refine ⟨hv, rfl, hA.below hb2 hA.lt, hl2.below hb2, hl.below hb2, hF.trans (Frame.of_below hb2), hO.below hb2 hO.lt, ?_⟩
  obtain ⟨q1, q2⟩ := ho2
  refine ⟨q1, ?_⟩
  rcases q2 with q2 | ⟨g, cap, cur, q3, q4, q5⟩
  · exact .inl q2
  · exact .inr ⟨g, cap, cur, q3, by have := hF.size; omega, q5⟩

/-- The last stores: the message into its own block. -/
theorem desc_post (w w2 w3 : World) (B : Nat) (a : Adj) (L : List Od.Hd) (lv sv hv : Value) (fl : Int) (hfl : dflags a.master L = fl) (hB : B < w.heap.size)
    (hA : AdjAt w2 B (a.described fl lv sv)) (h2 : HeadsIn w2 lv (L.drop 16)) (h1 : HeadsIn w2 sv (L.take 16)) (hF : Frame (fun k => k = B) w w2) (hO : Blk w2 w.heap.size 40 ozero)
    (hw : w2.ownsRow w.heap.size 59 8 hv (L.take 16).length ((L.take 16).flatMap hcells)) (hF3 : Frame (fun k => k = w.heap.size) w2 w3) (hb1 : SubBlk lv a.left) (hb2 : SubBlk sv a.left) :
    DescPost B a L w (.returned (outval true a.mtu a.opts fl a.seq hv (.slice none 0 0))) w3 := by
  subst hfl
  refine ⟨hv, lv, sv, rfl, hF3.blk hA (by omega), h2.frame hF3 (NoHeads.blk hO (by decide)), h1.frame hF3 (NoHeads.blk hO (by decide)), hF.trans' hF3 (fun i hi e => by omega), hF3.own hw (fun g hg e => ?_), hb1, hb2⟩
  exact own_blk_ne hw hO (by decide) (by rw [hg, e])

end Go.Proofs.Ytgbmhijgpdgdbaa
