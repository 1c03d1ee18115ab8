/- A link with its row of neighbours. -/
import Derived.Test.YtgbmhijgpdgdbaaMay13
import Derived.Test.YtgbmhijgpdgdbaaTail
import Derived.Test.YtgbmhijgpdgdbaaFirst
import Derived.Laws.CopyOwn
import Derived.Test.YtgbmhijgpdgdbaaLate
namespace Go.Proofs.Ytgbmhijgpdgdbaa
open Go.RowKit

theorem known_info : (Try.prog.info? 137).map (fun i => (i.zero, i.size, i.bytes)) = some (some (.pointer none), 1, 8) := by kernel_rfl
def kzero : Array Value := #[.int .u32 0, .int .u32 0, .int .u8 0, .int .u8 0, .int .u32 0, .int .u32 0, .int .u8 0, .int .u32 0, .bool false, .bool false]

theorem own_blk {w : World} {base : Nat} {e : TypeId} {v : Value} {xs : List Value} (h : w.ownsRow base e 1 v 1 xs) : ∃ g cap cur, v = .slice (some ⟨g, 0, none⟩) 1 cap ∧ base ≤ g ∧ Blk w g e cur ∧ 0 < cur.size ∧ 1 ≤ cap := by
  rcases h.2 with ⟨_, h0⟩ | ⟨g, cap, cur, hv, hb, hg, h1, h2, h3, _⟩
  · omega
  · exact ⟨g, cap, cur, hv, hb, hg, by omega, h1⟩

def PutPost (B : Nat) (wt nx : Int) (w : World) (e : Ending) (w' : World) : Prop := e = .returned (.int .i64 0) ∧ ∃ L K c cs, Blk w' B 119 (lk 2 wt nx (.slice (some ⟨L, 0, none⟩) 1 c)) ∧ Blk w' L 137 cs ∧ cs[0]? = some (.pointer (some ⟨K, 0, none⟩)) ∧ Blk w' K 139 kzero ∧ w.heap.size ≤ L ∧ w.heap.size ≤ K ∧ Frame (fun j => j = B) w w'

set_option maxHeartbeats 2000000 in
set_option maxRecDepth 20000 in
theorem put_nil (w : World) (B : Nat) (wt nx x : Int) (k : Blk w B 119 (lk 2 wt nx (.slice none 0 0))) :
    Calls Try.prog 72 #[.pointer (some ⟨B, 0, none⟩), .int .u32 x] w fun e w' => PutPost B wt nx w e w' := by
  obtain ⟨i0, hi, hz0, hz1, hz2⟩ := info_parts known_info
  have K := Lib.hid k
  have hlt : B < w.heap.size := k.lt
  have c1 : w.cell? ⟨B, 1, none⟩ = some (.int .u8 0) := k.cell 1
  have c22 : w.cell? ⟨B, 22, none⟩ = some (.slice none 0 0) := k.cell 22
  have fz := k.frozen
  clear k
  go_enter Try.func72, Try.ntmps72
  go_wp2_with fail
  refine wp_loop_rounds 1 ?_
  rw [rounds_succ]
  have HLit := Lib.hid (Reads.of_own (World.ownsRow_lit (base := 0) (e := 137) (size := 1) w #[.pointer none] 1 (Nat.zero_le _) (by simp [maxLen]) rfl))
  go_upto_region 8 with (at_builtin; refine wpList_append_any _ rfl (.tmp 46) (.tmp 47) _ rfl w.heap.size 137 i0 _ 1 8 Try.underlying117 hi hz0 hz1 hz2 rfl (by omega) (.slice none 0 0) 0 [] rfl (World.ownsRow_nil _ _ _ _) _ (some ⟨w.heap.size, 0, none⟩) 1 1 [.pointer none] rfl HLit.out (by simp [Value.oneCell']) (by unfold maxLen; omega) (by omega) (by simp) ?_; intro v1 w1 hown1 hg1 hat1; rw [List.nil_append] at hown1; obtain ⟨L, cap, cur, hv1, hL, kL, hcs, hcap⟩ := own_blk hown1; subst hv1; have hF1 : Frame (fun _ => False) w w1 := ((Frame.refl _ w).alloc _).trans (Frame.of_grown hg1 (by simp [Value.ownBlock])); have kB1 := hF1.blk K.out (fun e => e); have KB1 := Lib.hid kB1; have KL1 := Lib.hid kL; have HF1 := Lib.hid hF1; have Hcs := Lib.hid hcs; have d22 : w1.cell? ⟨B, 22, none⟩ = some (.slice none 0 0) := kB1.cell 22; have fz1 := kB1.frozen; clear hF1 kB1 kL hcs hg1 hat1 hown1 c1 c22 fz)
  have hLB : L ≠ B := by omega
  obtain ⟨W2, hW2⟩ : ∃ W2, W2 = w1.setCell ⟨B, 22, none⟩ (.slice (some ⟨L, 0, none⟩) 1 cap) := ⟨_, rfl⟩
  have K2 : Hid (Blk W2 B 119 (lk 2 wt nx (.slice (some ⟨L, 0, none⟩) 1 cap))) := Lib.hid (by rw [hW2]; exact KB1.out.set_ 22 _)
  have L2 : Hid (Blk W2 L 137 cur) := Lib.hid (by rw [hW2]; exact KL1.out.far (by simpa using hLB) _)
  have F2 : Hid (Frame (fun j => j = B) w W2) := Lib.hid (by rw [hW2]; exact (HF1.out.mono fun _ e => e.elim).setB 22 _)
  rw [← hW2]
  clear hW2 d22 fz1
  have e22 : W2.cell? ⟨B, 22, none⟩ = some (.slice (some ⟨L, 0, none⟩) 1 cap) := K2.out.cell 22
  go_cut [] from 42 to 64 (fun wx => ∃ k, wx = W2.drewN k)
  case first =>
    refine wp_region_drawn_tail 13 (by kernel_rfl) (by kernel_rfl) ?_
    simp only [List.take_succ_cons, List.take_zero, List.drop_succ_cons, List.drop_zero]
    repeat (go_big_quiet_step (fail))
    refine wpQuiet_nil ?_
    rintro wq ⟨q, rfl⟩
    refine wpList_copy_nothing rfl (.tmp 57) (.tmp 63) 117 117 rfl 137 Try.underlying117 (by kernel_rfl) _ _ _ _ _ _ rfl rfl (by simp) ?_
    go_wp2_with fail
    all_goals
      go_meet
      exact ⟨q, rfl⟩
  obtain ⟨q, hq⟩ := hcut
  have K3 : Hid (Blk wc B 119 (lk 2 wt nx (.slice (some ⟨L, 0, none⟩) 1 cap))) := Lib.hid (by rw [hq]; exact K2.out.drewN q)
  have L3 : Hid (Blk wc L 137 cur) := Lib.hid (by rw [hq]; exact L2.out.drewN q)
  have F3 : Hid (Frame (fun j => j = B) w wc) := Lib.hid (by rw [hq]; exact F2.out.drewN q)
  clear hq e22
  have e22 : wc.cell? ⟨B, 22, none⟩ = some (.slice (some ⟨L, 0, none⟩) 1 cap) := K3.out.cell 22
  have l0 := (L3.out.cell 0).trans (Array.getElem?_eq_getElem Hcs.out)
  have fzL := L3.out.frozen
  have hl2 : L < wc.heap.size := L3.out.lt
  have hl3 : B < wc.heap.size := K3.out.lt
  go_wp2_with fail
  have hs3 : (wc.setCell ⟨L, 0, none⟩ (.pointer (some ⟨wc.heap.size, 0, none⟩))).heap.size = wc.heap.size := by simp [World.setCell]
  have hKB : wc.heap.size ≠ L := by omega
  go_ret
  refine ⟨rfl, L, wc.heap.size, cap, cur.setIfInBounds 0 (.pointer (some ⟨wc.heap.size, 0, none⟩)), ?_, ?_, ?_, ?_, hL, F3.out.size, ?_⟩
  · exact (K3.out.far (by simpa using fun e => hLB e.symm) _).alloc _
  · exact (L3.out.set_ 0 _).alloc _
  · simp [Hcs.out]
  · have := Blk.new (wc.setCell ⟨L, 0, none⟩ (.pointer (some ⟨wc.heap.size, 0, none⟩))) 139 kzero
    rw [hs3] at this
    exact this
  · exact (F3.out.setCell (p := ⟨L, 0, none⟩) (fun h => by simp at h; omega) _).alloc _
end Go.Proofs.Ytgbmhijgpdgdbaa

namespace Go.Proofs.Ytgbmhijgpdgdbaa
open Go.RowKit

theorem ownsRow_lower {w : World} {b b' : Nat} {e : TypeId} {size n : Nat} {v : Value} {xs : List Value} (h : w.ownsRow b e size v n xs) (hb : b' ≤ b) : w.ownsRow b' e size v n xs := by
  obtain ⟨h1, h2⟩ := h
  refine ⟨h1, ?_⟩
  rcases h2 with h2 | ⟨g, cap, cur, rfl, hg, r⟩
  · exact .inl h2
  · exact .inr ⟨g, cap, cur, rfl, Nat.le_trans hb hg, r⟩

abbrev kptrs (xs : List (Nat × Kn)) : List Value := xs.map fun x => .pointer (some ⟨x.1, 0, none⟩)

/-- A link with its row of neighbours; what is its own lies at or beyond lo. -/
structure LinkAt (lo : Nat) (w : World) (B : Nat) (c : LC) (st dr bd wt nx po re : Int) (xs : List (Nat × Kn)) : Prop where
  loB : lo ≤ B
  o : ∃ l, Blk w B 119 (lks c st dr bd wt nx po re l) ∧ w.ownsRow lo 137 1 l xs.length (kptrs xs)
  k : ∀ x ∈ xs, Blk w x.1 139 x.2.cells ∧ lo ≤ x.1
  nd : (xs.map (·.1)).Nodup

/-- A block of one of the three types of a link's own. -/
def LinkTy (w : World) (j : Nat) : Prop := ∃ cs t, Blk w j t cs ∧ (t = 119 ∨ t = 137 ∨ t = 139)

/-- What a link may do to the world: new blocks, and its own turned. -/
def LFr (lo : Nat) (w w' : World) : Prop := Frame (fun j => lo ≤ j ∧ LinkTy w j) w w'

section
variable {lo : Nat} {w w' w'' : World} {B : Nat} {c : LC} {st dr bd wt nx po re : Int} {xs : List (Nat × Kn)}
theorem LFr.refl (lo : Nat) (w : World) : LFr lo w w := Frame.refl _ _
theorem LFr.of_below (h : Below w.heap.size w w') : LFr lo w w' := Frame.of_below h
theorem LFr.trans (h : LFr lo w w') (k : LFr lo w' w'') : LFr lo w w'' :=
  ⟨k.os.trans h.os, k.tape.trans h.tape, k.output.trans h.output, Nat.le_trans h.size k.size, fun i hi hS => by
    have h1 := h.block i hi hS
    refine (k.block i (by have := h.size; omega) (fun ⟨a, cs, t, hb, ht⟩ => hS ⟨a, cs, t, h1.symm.trans hb, ht⟩)).trans h1⟩
theorem LFr.below (h : LFr lo w w') (hl : lo ≤ w.heap.size) : Below lo w w' := ⟨h.os, h.tape, h.output, h.size, fun k hk => h.block k (by omega) (fun e => by omega)⟩
theorem LFr.blk {g : Nat} {t : TypeId} {cs : Array Value} (h : LFr lo w w') (hb : Blk w g t cs) (h1 : t ≠ 119) (h2 : t ≠ 137) (h3 : t ≠ 139) : Blk w' g t cs :=
  Frame.blk h hb (fun ⟨_, cs', t', hb', ht⟩ => by
    have e : some (Obj.cells cs t (0, 0)) = some (Obj.cells cs' t' (0, 0)) := hb.symm.trans hb'
    injection e with e
    injection e with e1 e2
    subst e2
    rcases ht with ht | ht | ht
    · exact h1 ht
    · exact h2 ht
    · exact h3 ht)
/-- One block of the link's own turned. -/
theorem LFr.one {g : Nat} {t : TypeId} {cs : Array Value} (hg : Blk w g t cs) (hl : lo ≤ g) (ht : t = 119 ∨ t = 137 ∨ t = 139) (h : Frame (fun j => j = g) w w') : LFr lo w w' :=
  h.mono fun i e => by subst e; exact ⟨hl, cs, t, hg, ht⟩

theorem LinkAt.below (h : LinkAt lo w B c st dr bd wt nx po re xs) (hb : Below w.heap.size w w') : LinkAt lo w' B c st dr bd wt nx po re xs := by
  obtain ⟨l, hk, ho⟩ := h.o
  exact ⟨h.loB, ⟨l, hk.below hb hk.lt, (Frame.of_below (S := fun _ => False) hb).own ho (fun _ _ e => e)⟩, fun x hx => ⟨(h.k x hx).1.below hb (h.k x hx).1.lt, (h.k x hx).2⟩, h.nd⟩

/-- The slice that holds the row. -/
theorem LinkAt.row (h : LinkAt lo w B c st dr bd wt nx po re xs) : (Blk w B 119 (lks c st dr bd wt nx po re (.slice none 0 0)) ∧ xs = []) ∨
    ∃ L cap cur, lo ≤ L ∧ Blk w B 119 (lks c st dr bd wt nx po re (.slice (some ⟨L, 0, none⟩) xs.length cap)) ∧ Blk w L 137 cur ∧ RowAt w L xs ∧ w.ownsRow lo 137 1 (.slice (some ⟨L, 0, none⟩) xs.length cap) xs.length (kptrs xs) := by
  obtain ⟨l, hk, ho⟩ := h.o
  have ho' := ho
  rcases ho.2 with ⟨rfl, h0⟩ | ⟨g, cap, cur, rfl, hg, hb, _⟩
  · exact .inl ⟨hk, List.length_eq_zero_iff.1 h0⟩
  · refine .inr ⟨g, cap, cur, hg, hk, hb, ⟨fun j x hj => ?_, fun x hx => (h.k x hx).1⟩, ho'⟩
    have hjl : j < xs.length := (List.getElem?_eq_some_iff.1 hj).1
    rw [ho'.cellAt j (by omega), List.getElem?_map, hj]
    rfl
end
end Go.Proofs.Ytgbmhijgpdgdbaa
