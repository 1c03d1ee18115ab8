/- The link of 'works' hears its neighbour: a first Hello; one of other times. -/
import Derived.Test.YtgbmhijgpdgdbaaLpMay13
import Derived.Test.YtgbmhijgpdgdbaaLpTail
import Derived.Test.YtgbmhijgpdgdbaaLpMapU
import Derived.Test.YtgbmhijgpdgdbaaLpSeqI
import Derived.Laws.CopyOwn
import Derived.Test.YtgbmhijgpdgdbaaLpLate
import Derived.Test.YtgbmhijgpdgdbaaLpElectAll
import Derived.RangeFuncBox
import Derived.RangeFuncLeaves
import Derived.RangeFuncFrom
import Derived.RangeFuncNested
import Derived.RangeFuncBound
import Derived.RangeFuncCalls
import Derived.Shelf.Abstract
import Derived.Shelf.RegionOpen
import Derived.WalkKit
import Derived.OwnWalkIn
import Derived.TacticsInMore
import Derived.LoopNIn
import Derived.LoopIn
import Derived.Test.YtgbmhijgpdgdbaaLpMay13b
set_option maxHeartbeats 2000000
set_option maxRecDepth 20000
namespace Go.Proofs.Ytgbmhijgpdgdbaa
open Go.RowKit
theorem known_info : (Try.prog.info? 137).map (fun i => (i.zero, i.size, i.bytes)) = some (some (.pointer none), 1, 8) := by kernel_rfl
def kzero : Array Value := #[.int .u32 0, .int .u32 0, .int .u8 0, .int .u8 0, .int .u32 0, .int .u32 0, .int .u8 0, .int .u32 0, .bool false, .bool false]
theorem own_blk {w : World} {base : Nat} {e : TypeId} {v : Value} {xs : List Value} (h : w.ownsRow base e 1 v 1 xs) : ∃ g cap cur, v = .slice (some ⟨g, 0, none⟩) 1 cap ∧ base ≤ g ∧ Blk w g e cur ∧ 0 < cur.size ∧ 1 ≤ cap := by
  rcases h.2 with ⟨_, h0⟩ | ⟨g, cap, cur, hv, hb, hg, h1, h2, h3, _⟩
  · omega
  · exact ⟨g, cap, cur, hv, hb, hg, by omega, h1⟩
def PutPost (B : Nat) (wt nx : Int) (w : World) (e : Ending) (w' : World) : Prop := e = .returned (.int .i64 0) ∧ ∃ L K c cs, Blk w' B 119 (lk 2 wt nx (.slice (some ⟨L, 0, none⟩) 1 c)) ∧ Blk w' L 137 cs ∧ cs[0]? = some (.pointer (some ⟨K, 0, none⟩)) ∧ Blk w' K 139 kzero ∧ w.heap.size ≤ L ∧ w.heap.size ≤ K ∧ Frame (fun j => j = B) w w'
theorem put_nil (w : World) (B : Nat) (wt nx x : Int) (k : Blk w B 119 (lk 2 wt nx (.slice none 0 0))) :
    Calls Try.prog 72 #[.pointer (some ⟨B, 0, none⟩), .int .u32 x] w fun e w' => PutPost B wt nx w e w' := by
  obtain ⟨i0, hi, hz0, hz1, hz2⟩ := info_parts known_info
  have K := Lib.hid k
  have hlt : B < w.heap.size := k.lt
  have c1 : w.cell? ⟨B, 1, none⟩ = some (.int .u8 0) := k.cell 1
  have c22 : w.cell? ⟨B, 22, none⟩ = some (.slice none 0 0) := k.cell 22
  have fz := k.frozen
  clear k
  go_enter Try.func72, Try.ntmps72
  go_wp2_with fail
  refine wp_loop_rounds 1 ?_
  rw [rounds_succ]
  have HLit := Lib.hid (Reads.of_own (World.ownsRow_lit (base := 0) (e := 137) (size := 1) w #[.pointer none] 1 (Nat.zero_le _) (by simp [maxLen]) rfl))
  go_upto_region 8 with (at_builtin; refine wpList_append_any _ rfl (.tmp 46) (.tmp 47) _ rfl w.heap.size 137 i0 _ 1 8 Try.underlying117 hi hz0 hz1 hz2 rfl (by omega) (.slice none 0 0) 0 [] rfl (World.ownsRow_nil _ _ _ _) _ (some ⟨w.heap.size, 0, none⟩) 1 1 [.pointer none] rfl HLit.out (by simp [Value.oneCell']) (by unfold maxLen; omega) (by omega) (by simp) ?_; intro v1 w1 hown1 hg1 hat1; rw [List.nil_append] at hown1; obtain ⟨L, cap, cur, hv1, hL, kL, hcs, hcap⟩ := own_blk hown1; subst hv1; have hF1 : Frame (fun _ => False) w w1 := ((Frame.refl _ w).alloc _).trans (Frame.of_grown hg1 (by simp [Value.ownBlock])); have kB1 := hF1.blk K.out (fun e => e); have KB1 := Lib.hid kB1; have KL1 := Lib.hid kL; have HF1 := Lib.hid hF1; have Hcs := Lib.hid hcs; have d22 : w1.cell? ⟨B, 22, none⟩ = some (.slice none 0 0) := kB1.cell 22; have fz1 := kB1.frozen; clear hF1 kB1 kL hcs hg1 hat1 hown1 c1 c22 fz)
  have hLB : L ≠ B := by omega
  obtain ⟨W2, hW2⟩ : ∃ W2, W2 = w1.setCell ⟨B, 22, none⟩ (.slice (some ⟨L, 0, none⟩) 1 cap) := ⟨_, rfl⟩
  have K2 : Hid (Blk W2 B 119 (lk 2 wt nx (.slice (some ⟨L, 0, none⟩) 1 cap))) := Lib.hid (by rw [hW2]; exact KB1.out.set_ 22 _)
  have L2 : Hid (Blk W2 L 137 cur) := Lib.hid (by rw [hW2]; exact KL1.out.far (by simpa using hLB) _)
  have F2 : Hid (Frame (fun j => j = B) w W2) := Lib.hid (by rw [hW2]; exact (HF1.out.mono fun _ e => e.elim).setB 22 _)
  rw [← hW2]
  clear hW2 d22 fz1
  have e22 : W2.cell? ⟨B, 22, none⟩ = some (.slice (some ⟨L, 0, none⟩) 1 cap) := K2.out.cell 22
  go_cut [] from 42 to 64 (fun wx => ∃ k, wx = W2.drewN k)
  case first =>
    refine wp_region_drawn_tail 13 (by kernel_rfl) (by kernel_rfl) ?_
    simp only [List.take_succ_cons, List.take_zero, List.drop_succ_cons, List.drop_zero]
    repeat (go_big_quiet_step (fail))
    refine wpQuiet_nil ?_
    rintro wq ⟨q, rfl⟩
    refine wpList_copy_nothing rfl (.tmp 57) (.tmp 63) 117 117 rfl 137 Try.underlying117 (by kernel_rfl) _ _ _ _ _ _ rfl rfl (by simp) ?_
    go_wp2_with fail
    all_goals
      go_meet
      exact ⟨q, rfl⟩
  obtain ⟨q, hq⟩ := hcut
  have K3 : Hid (Blk wc B 119 (lk 2 wt nx (.slice (some ⟨L, 0, none⟩) 1 cap))) := Lib.hid (by rw [hq]; exact K2.out.drewN q)
  have L3 : Hid (Blk wc L 137 cur) := Lib.hid (by rw [hq]; exact L2.out.drewN q)
  have F3 : Hid (Frame (fun j => j = B) w wc) := Lib.hid (by rw [hq]; exact F2.out.drewN q)
  clear hq e22
  have e22 : wc.cell? ⟨B, 22, none⟩ = some (.slice (some ⟨L, 0, none⟩) 1 cap) := K3.out.cell 22
  have l0 := (L3.out.cell 0).trans (Array.getElem?_eq_getElem Hcs.out)
  have fzL := L3.out.frozen
  have hl2 : L < wc.heap.size := L3.out.lt
  have hl3 : B < wc.heap.size := K3.out.lt
  go_wp2_with fail
  have hs3 : (wc.setCell ⟨L, 0, none⟩ (.pointer (some ⟨wc.heap.size, 0, none⟩))).heap.size = wc.heap.size := by simp [World.setCell]
  have hKB : wc.heap.size ≠ L := by omega
  go_ret
  refine ⟨rfl, L, wc.heap.size, cap, cur.setIfInBounds 0 (.pointer (some ⟨wc.heap.size, 0, none⟩)), ?_, ?_, ?_, ?_, hL, F3.out.size, ?_⟩
  · exact (K3.out.far (by simpa using fun e => hLB e.symm) _).alloc _
  · exact (L3.out.set_ 0 _).alloc _
  · simp [Hcs.out]
  · have := Blk.new (wc.setCell ⟨L, 0, none⟩ (.pointer (some ⟨wc.heap.size, 0, none⟩))) 139 kzero
    rw [hs3] at this
    exact this
  · exact (F3.out.setCell (p := ⟨L, 0, none⟩) (fun h => by simp at h; omega) _).alloc _
end Go.Proofs.Ytgbmhijgpdgdbaa
namespace Go.Proofs.Ytgbmhijgpdgdbaa
open Go.RowKit
theorem ownsRow_lower {w : World} {b b' : Nat} {e : TypeId} {size n : Nat} {v : Value} {xs : List Value} (h : w.ownsRow b e size v n xs) (hb : b' ≤ b) : w.ownsRow b' e size v n xs := by
  obtain ⟨h1, h2⟩ := h
  refine ⟨h1, ?_⟩
  rcases h2 with h2 | ⟨g, cap, cur, rfl, hg, r⟩
  · exact .inl h2
  · exact .inr ⟨g, cap, cur, rfl, Nat.le_trans hb hg, r⟩
abbrev kptrs (xs : List (Nat × Kn)) : List Value := xs.map fun x => .pointer (some ⟨x.1, 0, none⟩)
def LinkTy (w : World) (j : Nat) : Prop := ∃ cs t, Blk w j t cs ∧ (t = 119 ∨ t = 137 ∨ t = 139)
def LFr (lo : Nat) (w w' : World) : Prop := Frame (fun j => lo ≤ j ∧ LinkTy w j) w w'
section
variable {lo : Nat} {w w' w'' : World} {B : Nat} {c : LC} {st dr bd wt nx po re : Int} {xs : List (Nat × Kn)}
theorem LFr.refl (lo : Nat) (w : World) : LFr lo w w := Frame.refl _ _
theorem LFr.of_below (h : Below w.heap.size w w') : LFr lo w w' := Frame.of_below h
theorem LFr.trans (h : LFr lo w w') (k : LFr lo w' w'') : LFr lo w w'' :=
  ⟨k.os.trans h.os, k.tape.trans h.tape, k.output.trans h.output, Nat.le_trans h.size k.size, fun i hi hS => by
    have h1 := h.block i hi hS
    refine (k.block i (by have := h.size; omega) (fun ⟨a, cs, t, hb, ht⟩ => hS ⟨a, cs, t, h1.symm.trans hb, ht⟩)).trans h1⟩
theorem LFr.below (h : LFr lo w w') (hl : lo ≤ w.heap.size) : Below lo w w' := ⟨h.os, h.tape, h.output, h.size, fun k hk => h.block k (by omega) (fun e => by omega)⟩
theorem LFr.blk {g : Nat} {t : TypeId} {cs : Array Value} (h : LFr lo w w') (hb : Blk w g t cs) (h1 : t ≠ 119) (h2 : t ≠ 137) (h3 : t ≠ 139) : Blk w' g t cs :=
  Frame.blk h hb (fun ⟨_, cs', t', hb', ht⟩ => by
    have e : some (Obj.cells cs t (0, 0)) = some (Obj.cells cs' t' (0, 0)) := hb.symm.trans hb'
    injection e with e
    injection e with e1 e2
    subst e2
    rcases ht with ht | ht | ht
    · exact h1 ht
    · exact h2 ht
    · exact h3 ht)
theorem LFr.one {g : Nat} {t : TypeId} {cs : Array Value} (hg : Blk w g t cs) (hl : lo ≤ g) (ht : t = 119 ∨ t = 137 ∨ t = 139) (h : Frame (fun j => j = g) w w') : LFr lo w w' :=
  h.mono fun i e => by subst e; exact ⟨hl, cs, t, hg, ht⟩
end
end Go.Proofs.Ytgbmhijgpdgdbaa
namespace Go.Proofs.Ytgbmhijgpdgdbaa
open Go.RowKit Go.Shelf
attribute [local go_sem] Oper.semAt_some
section
variable {w0 : World} {B : Nat} {c : LC} {st dr bd wt nx po re : Int} {L cap : Nat} {xs : List (Nat × Kn)} {Bl Bi X : Nat} {tX : TypeId} {f : Value} {W W' : World}
end
def elState (c : LC) (o : Int × Int) : Int := if c.ad == o.1 then 6 else if c.ad == o.2 then 5 else 4
theorem elect1_any (w : World) (K : Nat) (st : Int) (h : w.cell? ⟨K, 2, none⟩ = some (.int .u8 st)) :
    Calls Try.prog 110 #[.pointer (some ⟨K, 0, none⟩)] w fun e w' => e = .returned (.bool (st == 3)) ∧ w = w' := by
  go_enter Try.func110, Try.ntmps110
  go_wp2_with fail
  go_ret
  exact ⟨rfl, rfl⟩
end Go.Proofs.Ytgbmhijgpdgdbaa
namespace Go.Proofs.Ytgbmhijgpdgdbaa
open Go.RowKit Go.Shelf
attribute [local go_sem] Oper.semAt_some
def updK (c : LC) (k : Kn) : Kn := { k with st := 1, lf := c.dd }
theorem elect2_w (w : World) (K : Nat) (st : Int) (h : w.cell? ⟨K, 2, none⟩ = some (.int .u8 st)) :
    Calls Try.prog 112 #[.pointer (some ⟨K, 0, none⟩)] w fun e w' => e = .returned (.bool (st == 0)) ∧ w = w' := by
  go_enter Try.func112, Try.ntmps112
  go_wp2_with fail
  go_ret
  exact ⟨rfl, rfl⟩
section
variable {w0 : World} {B : Nat} {c : LC} {st dr bd wt nx po re : Int} {L cap : Nat} {xs : List (Nat × Kn)} {Bl Bi C0 : Nat} {W W' : World}
end
end Go.Proofs.Ytgbmhijgpdgdbaa
namespace Go.Proofs.Ytgbmhijgpdgdbaa
open Go.RowKit Go.Shelf
attribute [local go_sem] Oper.semAt_some
theorem word_info : (Try.prog.info? 25).map (fun i => (i.zero, i.size, i.bytes)) = some (some (.int .u32 0), 1, 4) := by kernel_rfl
section
variable {w0 : World} {B : Nat} {c : LC} {st dr bd wt nx po re : Int} {L cap : Nat} {xs : List (Nat × Kn)} {Bl Bi X : Nat} {hv : List Value} {W W' : World}
end
end Go.Proofs.Ytgbmhijgpdgdbaa
namespace Go.Proofs.Ytgbmhijgpdgdbaa
open Go.RowKit
def nk (st : Int) : Array Value := #[.int .u32 2, .int .u32 167772162, .int .u8 st, .int .u8 1, .int .u32 0, .int .u32 0, .int .u8 2, .int .u32 40, .bool false, .bool false]
theorem Below.drewN_ {N : Nat} {w w' : World} (h : Below N w w') (n : Nat) : Below N w (w'.drewN n) := ⟨h.os, h.tape, h.output, h.size, h.block⟩
theorem heard_lk (w : World) (B K : Nat) (wt nx : Int) (l : Value) (k : Blk w B 119 (lk 2 wt nx l)) (kk : Blk w K 139 (nk 3)) :
    Calls Try.prog 73 #[.pointer (some ⟨B, 0, none⟩), .agg kzero, .pointer (some ⟨K, 0, none⟩), .bool false] w fun e w' => e = .returned (.tuple #[]) ∧ Below w.heap.size w w' := by
  have c15 : w.cell? ⟨B, 15, none⟩ = some (.int .u8 2) := k.cell 15
  have n1 : w.cell? ⟨K, 1, none⟩ = some (.int .u32 167772162) := kk.cell 1
  have n2 : w.cell? ⟨K, 2, none⟩ = some (.int .u8 3) := kk.cell 2
  have n3 : w.cell? ⟨K, 3, none⟩ = some (.int .u8 1) := kk.cell 3
  have n4 : w.cell? ⟨K, 4, none⟩ = some (.int .u32 0) := kk.cell 4
  have n5 : w.cell? ⟨K, 5, none⟩ = some (.int .u32 0) := kk.cell 5
  have hlt : B < w.heap.size := k.lt
  have hlk : K < w.heap.size := kk.lt
  clear k kk
  unfold kzero
  go_enter Try.func73, Try.ntmps73
  go_wp2_with fail
  go_quiet (fail)
  go_wp2_with fail
  go_quiet (fail)
  go_wp2_with fail
  refine bodyPost_end (v := .tuple #[]) (by simp [results, Try.results73, go_sem]) rfl ⟨rfl, ?_⟩
  exact Below.drewN_ ((Below.refl _ w).alloc (Nat.le_refl _) _) _
end Go.Proofs.Ytgbmhijgpdgdbaa
namespace Go.Proofs.Ytgbmhijgpdgdbaa
open Go.RowKit
theorem Frame.cell_ {S : Nat → Prop} {w w' : World} (h : Frame S w w') {b : Nat} (hb : b < w.heap.size) (hS : ¬ S b) (i : Nat) : w'.cell? ⟨b, i, none⟩ = w.cell? ⟨b, i, none⟩ := by
  have := h.block b hb hS
  simp [World.cell?, this]
def HearPost (B : Nat) (wt nx : Int) (w : World) (e : Ending) (w' : World) : Prop := e = .returned (.tuple #[.slice none 0 0, .int .i64 0]) ∧ ∃ L K c cs, Blk w' B 119 (lk 2 wt nx (.slice (some ⟨L, 0, none⟩) 1 c)) ∧ Blk w' L 137 cs ∧ cs[0]? = some (.pointer (some ⟨K, 0, none⟩)) ∧ Blk w' K 139 (nk 3) ∧ w.heap.size ≤ L ∧ w.heap.size ≤ K ∧ Frame (fun j => j = B) w w'
theorem hear_first (w : World) (B G : Nat) (wt nx : Int) (k : Blk w B 119 (lk 2 wt nx (.slice none 0 0))) (g : w.cell? ⟨G, 0, none⟩ = some (.int .u32 1)) (hGB : G ≠ B) :
    Calls Try.prog 35 #[.pointer (some ⟨B, 0, none⟩), .int .u32 167772162, .int .u32 2, .agg (hl 10 (.slice (some ⟨G, 0, none⟩) 1 1))] w fun e w' => HearPost B wt nx w e w' := by
  have hlt : B < w.heap.size := k.lt
  have hGl : G < w.heap.size := lt_of_cell g
  have K := Lib.hid k
  have HG := Lib.hid g
  clear k g
  unfold hl
  go_enter Try.func35, Try.ntmps35
  go_upto_region 1 with fail
  obtain ⟨W0, hW0⟩ : ∃ W0, W0 = w.alloc (.cells #[.int .u32 4294967040, .int .u16 10, .int .u8 2, .int .u8 1, .int .u32 40, .int .u32 0, .int .u32 0, .slice (some ⟨G, 0, none⟩) 1 1] 90) := ⟨_, rfl⟩
  have K0 : Hid (Blk W0 B 119 (lk 2 wt nx (.slice none 0 0))) := Lib.hid (by rw [hW0]; exact K.out.alloc _)
  have H0 : Hid (Blk W0 w.heap.size 90 (hl 10 (.slice (some ⟨G, 0, none⟩) 1 1))) := Lib.hid (by rw [hW0]; exact Blk.new w _ _)
  have F0 : Hid (Frame (fun j => j = B) w W0) := Lib.hid (by rw [hW0]; exact (Frame.refl _ w).alloc _)
  have G0 : Hid (W0.cell? ⟨G, 0, none⟩ = some (.int .u32 1)) := Lib.hid (by rw [hW0]; exact (World.cell?_alloc_lt w _ _ hGl).trans HG.out)
  have h00 : w.heap.size < W0.heap.size := H0.out.lt
  rw [← hW0]
  clear hW0
  have r0 : W0.cell? ⟨w.heap.size, 0, none⟩ = some (.int .u32 4294967040) := H0.out.cell 0
  have r1 : W0.cell? ⟨w.heap.size, 1, none⟩ = some (.int .u16 10) := H0.out.cell 1
  have r2 : W0.cell? ⟨w.heap.size, 2, none⟩ = some (.int .u8 2) := H0.out.cell 2
  have r3 : W0.cell? ⟨w.heap.size, 3, none⟩ = some (.int .u8 1) := H0.out.cell 3
  have r4 : W0.cell? ⟨w.heap.size, 4, none⟩ = some (.int .u32 40) := H0.out.cell 4
  have r5 : W0.cell? ⟨w.heap.size, 5, none⟩ = some (.int .u32 0) := H0.out.cell 5
  have r6 : W0.cell? ⟨w.heap.size, 6, none⟩ = some (.int .u32 0) := H0.out.cell 6
  have r7 : W0.cell? ⟨w.heap.size, 7, none⟩ = some (.slice (some ⟨G, 0, none⟩) 1 1) := H0.out.cell 7
  go_wp2_with (go_at_call 67; refine (none_lk _ _ _ K0.out rfl).mono ?_; rintro e w' ⟨rfl, rfl⟩)
  refine (may_ok _ B wt nx _ K0.out (fun W kW _ => find_nil W B _ _ _ kW rfl)).mono ?_
  rintro e w1 ⟨rfl, hb1⟩
  have K1 := Lib.hid (K0.out.below hb1 K0.out.lt)
  have H1 := Lib.hid (H0.out.below hb1 H0.out.lt)
  have F1 := Lib.hid (F0.out.trans (Frame.of_below hb1))
  have G1 := Lib.hid ((hb1.cell (p := ⟨G, 0, none⟩) (by simp; omega)).trans G0.out)
  have h01 : w.heap.size < w1.heap.size := H1.out.lt
  clear r0 r1 r2 r3 r4 r5 r6 r7 hb1
  go_wp2_with (go_at_call 71; refine (find_nil _ B _ _ _ K1.out rfl).mono ?_; rintro e w' ⟨rfl, rfl⟩)
  refine (put_nil _ B wt nx _ K1.out).mono ?_
  rintro e w2 ⟨rfl, L, K0', c, cs, kB, kL, hcs, kK, hL, hK0, hF2⟩
  have H2 := Lib.hid (hF2.blk H1.out (by omega))
  have F2 := Lib.hid (F1.out.trans hF2)
  have G2 := Lib.hid ((hF2.cell_ (b := G) (by omega) hGB 0).trans G1.out)
  have KB2 := Lib.hid kB
  have KL2 := Lib.hid kL
  have KK2 := Lib.hid kK
  have Hcs := Lib.hid hcs
  have hw1 : w.heap.size < L := by omega
  have hw2 : w.heap.size < K0' := by omega
  clear kB kL hcs kK hL hF2
  have y8 : w2.cell? ⟨B, 8, none⟩ = some (.int .u32 40) := KB2.out.cell 8
  have y22 : w2.cell? ⟨B, 22, none⟩ = some (.slice (some ⟨L, 0, none⟩) 1 c) := KB2.out.cell 22
  have l0 : w2.cell? ⟨L, 0, none⟩ = some (.pointer (some ⟨K0', 0, none⟩)) := (KL2.out.cell 0).trans Hcs.out
  have o0 : w2.cell? ⟨K0', 0, none⟩ = some (.int .u32 0) := KK2.out.cell 0
  have o1 : w2.cell? ⟨K0', 1, none⟩ = some (.int .u32 0) := KK2.out.cell 1
  have o2 : w2.cell? ⟨K0', 2, none⟩ = some (.int .u8 0) := KK2.out.cell 2
  have o3 : w2.cell? ⟨K0', 3, none⟩ = some (.int .u8 0) := KK2.out.cell 3
  have o4 : w2.cell? ⟨K0', 4, none⟩ = some (.int .u32 0) := KK2.out.cell 4
  have o5 : w2.cell? ⟨K0', 5, none⟩ = some (.int .u32 0) := KK2.out.cell 5
  have o6 : w2.cell? ⟨K0', 6, none⟩ = some (.int .u8 0) := KK2.out.cell 6
  have o7 : w2.cell? ⟨K0', 7, none⟩ = some (.int .u32 0) := KK2.out.cell 7
  have o8 : w2.cell? ⟨K0', 8, none⟩ = some (.bool false) := KK2.out.cell 8
  have o9 : w2.cell? ⟨K0', 9, none⟩ = some (.bool false) := KK2.out.cell 9
  go_upto_region 10 with fail
  obtain ⟨W3, hW3⟩ : ∃ W3, W3 = w2.alloc (.cells kzero 139) := ⟨_, rfl⟩
  have KB3 : Hid (Blk W3 B 119 (lk 2 wt nx (.slice (some ⟨L, 0, none⟩) 1 c))) := Lib.hid (by rw [hW3]; exact KB2.out.alloc _)
  have KL3 : Hid (Blk W3 L 137 cs) := Lib.hid (by rw [hW3]; exact KL2.out.alloc _)
  have H3 : Hid (Blk W3 w.heap.size 90 (hl 10 (.slice (some ⟨G, 0, none⟩) 1 1))) := Lib.hid (by rw [hW3]; exact H2.out.alloc _)
  have O3 : Hid (Blk W3 w2.heap.size 139 kzero) := Lib.hid (by rw [hW3]; exact Blk.new _ _ _)
  have F3 : Hid (Frame (fun j => j = B) w W3) := Lib.hid (by rw [hW3]; exact F2.out.alloc _)
  have G3 : Hid (W3.cell? ⟨G, 0, none⟩ = some (.int .u32 1)) := Lib.hid (by rw [hW3]; exact (World.cell?_alloc_lt _ _ _ (lt_of_cell G2.out)).trans G2.out)
  unfold kzero at hW3
  rw [← hW3]
  have h23 : w2.heap.size < W3.heap.size := O3.out.lt
  have hLl : L < w2.heap.size := KL2.out.lt
  clear hW3 y8 y22 l0 o0 o1 o2 o3 o4 o5 o6 o7 o8 o9
  have y8 : W3.cell? ⟨B, 8, none⟩ = some (.int .u32 40) := KB3.out.cell 8
  have r2 : W3.cell? ⟨w.heap.size, 2, none⟩ = some (.int .u8 2) := H3.out.cell 2
  have r3 : W3.cell? ⟨w.heap.size, 3, none⟩ = some (.int .u8 1) := H3.out.cell 3
  have r5 : W3.cell? ⟨w.heap.size, 5, none⟩ = some (.int .u32 0) := H3.out.cell 5
  have r6 : W3.cell? ⟨w.heap.size, 6, none⟩ = some (.int .u32 0) := H3.out.cell 6
  refine wp_region_drawn_tail 17 (by kernel_rfl) (by kernel_rfl) ?_
  simp only [List.take_succ_cons, List.take_zero, List.drop_succ_cons, List.drop_zero]
  repeat (go_big_quiet_step (fail))
  refine wpQuiet_nil ?_
  rintro wq ⟨q, rfl⟩
  go_upto_region 11 with fail
  obtain ⟨KN, hKN⟩ : ∃ KN, KN = W3.heap.size := ⟨_, rfl⟩
  obtain ⟨W4, hW4⟩ : ∃ W4, W4 = (W3.drewN q).alloc (.cells (nk 2) 139) := ⟨_, rfl⟩
  have KB4 : Hid (Blk W4 B 119 (lk 2 wt nx (.slice (some ⟨L, 0, none⟩) 1 c))) := Lib.hid (by rw [hW4]; exact (KB3.out.drewN q).alloc _)
  have KL4 : Hid (Blk W4 L 137 cs) := Lib.hid (by rw [hW4]; exact (KL3.out.drewN q).alloc _)
  have H4 : Hid (Blk W4 w.heap.size 90 (hl 10 (.slice (some ⟨G, 0, none⟩) 1 1))) := Lib.hid (by rw [hW4]; exact (H3.out.drewN q).alloc _)
  have O4 : Hid (Blk W4 w2.heap.size 139 kzero) := Lib.hid (by rw [hW4]; exact (O3.out.drewN q).alloc _)
  have N4 : Hid (Blk W4 KN 139 (nk 2)) := Lib.hid (by rw [hW4, hKN]; exact Blk.new (W3.drewN q) _ _)
  have F4 : Hid (Frame (fun j => j = B) w W4) := Lib.hid (by rw [hW4]; exact (F3.out.drewN q).alloc _)
  have G4 : Hid (W4.cell? ⟨G, 0, none⟩ = some (.int .u32 1)) := Lib.hid (by rw [hW4]; exact (World.cell?_alloc_lt (W3.drewN q) _ _ (lt_of_cell G3.out)).trans G3.out)
  unfold nk at hW4
  have hKw : w2.heap.size < KN := by omega
  rw [← hW4, ← hKN]
  clear hW4 hKN y8 r2 r3 r5 r6
  have h7 : W4.cell? ⟨w.heap.size, 7, none⟩ = some (.slice (some ⟨G, 0, none⟩) 1 1) := H4.out.cell 7
  have g4 : W4.cell? ⟨G, 0, none⟩ = some (.int .u32 1) := G4.out
  have y1 : W4.cell? ⟨B, 1, none⟩ = some (.int .u8 0) := KB4.out.cell 1
  have y2 : W4.cell? ⟨B, 2, none⟩ = some (.int .u32 1) := KB4.out.cell 2
  have y22 : W4.cell? ⟨B, 22, none⟩ = some (.slice (some ⟨L, 0, none⟩) 1 c) := KB4.out.cell 22
  have l0 : W4.cell? ⟨L, 0, none⟩ = some (.pointer (some ⟨K0', 0, none⟩)) := (KL4.out.cell 0).trans Hcs.out
  have fL := KL4.out.frozen
  have n2 : W4.cell? ⟨KN, 2, none⟩ = some (.int .u8 2) := N4.out.cell 2
  have n9 : W4.cell? ⟨KN, 9, none⟩ = some (.bool false) := N4.out.cell 9
  have fN := N4.out.frozen
  have o0 : W4.cell? ⟨w2.heap.size, 0, none⟩ = some (.int .u32 0) := O4.out.cell 0
  have o1 : W4.cell? ⟨w2.heap.size, 1, none⟩ = some (.int .u32 0) := O4.out.cell 1
  have o2 : W4.cell? ⟨w2.heap.size, 2, none⟩ = some (.int .u8 0) := O4.out.cell 2
  have o3 : W4.cell? ⟨w2.heap.size, 3, none⟩ = some (.int .u8 0) := O4.out.cell 3
  have o4 : W4.cell? ⟨w2.heap.size, 4, none⟩ = some (.int .u32 0) := O4.out.cell 4
  have o5 : W4.cell? ⟨w2.heap.size, 5, none⟩ = some (.int .u32 0) := O4.out.cell 5
  have o6 : W4.cell? ⟨w2.heap.size, 6, none⟩ = some (.int .u8 0) := O4.out.cell 6
  have o7 : W4.cell? ⟨w2.heap.size, 7, none⟩ = some (.int .u32 0) := O4.out.cell 7
  have o8 : W4.cell? ⟨w2.heap.size, 8, none⟩ = some (.bool false) := O4.out.cell 8
  have o9 : W4.cell? ⟨w2.heap.size, 9, none⟩ = some (.bool false) := O4.out.cell 9
  have z1 : B ≠ KN := by omega
  have z2 : L ≠ KN := by omega
  have z3 : w2.heap.size ≠ KN := by omega
  have z4 : L ≠ B := by omega
  have z5 : w2.heap.size ≠ L := by omega
  go_wp2_with fail
  refine wp_loop_rounds 2 ?_
  rw [rounds_succ]
  go_wp2_with fail
  rw [rounds_succ]
  go_wp2_with fail
  obtain ⟨W5, hW5⟩ : ∃ W5, W5 = ((W4.setCell ⟨KN, 2, none⟩ (.int .u8 3)).setCell ⟨KN, 9, none⟩ (.bool false)).setCell ⟨L, 0, none⟩ (.pointer (some ⟨KN, 0, none⟩)) := ⟨_, rfl⟩
  have KB5 : Hid (Blk W5 B 119 (lk 2 wt nx (.slice (some ⟨L, 0, none⟩) 1 c))) := Lib.hid (by rw [hW5]; exact ((KB4.out.far (by simpa using z1) _).far (by simpa using z1) _).far (by simpa using fun e => z4 e.symm) _)
  have KL5 : Hid (Blk W5 L 137 (cs.setIfInBounds 0 (.pointer (some ⟨KN, 0, none⟩)))) := Lib.hid (by rw [hW5]; exact ((KL4.out.far (by simpa using z2) _).far (by simpa using z2) _).set_ 0 _)
  have N5 : Hid (Blk W5 KN 139 (nk 3)) := Lib.hid (by rw [hW5]; exact ((N4.out.set_ 2 _).set_ 9 _).far (by simpa using fun e => z2 e.symm) _)
  have F5 : Hid (Frame (fun j => j = B) w W5) := Lib.hid (by rw [hW5]; exact ((F4.out.setCell (p := ⟨KN, 2, none⟩) (fun h => by simp at h; omega) _).setCell (p := ⟨KN, 9, none⟩) (fun h => by simp at h; omega) _).setCell (p := ⟨L, 0, none⟩) (fun h => by simp at h; omega) _)
  rw [← hW5]
  clear hW5 h7 g4 y1 y2 y22 l0 fL n2 n9 fN o0 o1 o2 o3 o4 o5 o6 o7 o8 o9
  refine (heard_lk _ B KN wt nx _ KB5.out N5.out).mono ?_
  rintro e w6 ⟨rfl, hb6⟩
  have KB6 := Lib.hid (KB5.out.below hb6 KB5.out.lt)
  have y1 : w6.cell? ⟨B, 1, none⟩ = some (.int .u8 0) := KB6.out.cell 1
  go_wp2_with fail
  refine bodyPost_ret (v := .tuple #[.slice none 0 0, .int .i64 0]) (by simp [results, Try.results35, go_sem]) rfl ⟨rfl, L, KN, c, _, KB6.out, KL5.out.below hb6 KL5.out.lt, ?_, N5.out.below hb6 N5.out.lt, by omega, by omega, F5.out.trans (Frame.of_below hb6)⟩
  have : 0 < cs.size := (Array.getElem?_eq_some_iff.1 Hcs.out).1
  simp [this]
theorem hear_times (w : World) (B L K c : Nat) (wt nx : Int) (cs : Array Value) (nb : Value) (k : Blk w B 119 (lk 2 wt nx (.slice (some ⟨L, 0, none⟩) 1 c))) (kl : Blk w L 137 cs) (hcs : cs[0]? = some (.pointer (some ⟨K, 0, none⟩))) (kk : Blk w K 139 (nk 3)) :
    Calls Try.prog 35 #[.pointer (some ⟨B, 0, none⟩), .int .u32 167772162, .int .u32 2, .agg (hl 9 nb)] w fun e w' => e = .returned (.tuple #[.slice none 0 0, .int .i64 43]) ∧ Below w.heap.size w w' := by
  have hlt : B < w.heap.size := k.lt
  have HK := Lib.hid k
  have HL := Lib.hid kl
  have HKn := Lib.hid kk
  have Hcs := Lib.hid hcs
  clear k kl kk hcs
  unfold hl
  go_enter Try.func35, Try.ntmps35
  go_upto_region 1 with fail
  obtain ⟨W0, hW0⟩ : ∃ W0, W0 = w.alloc (.cells #[.int .u32 4294967040, .int .u16 9, .int .u8 2, .int .u8 1, .int .u32 40, .int .u32 0, .int .u32 0, nb] 90) := ⟨_, rfl⟩
  have K0 : Hid (Blk W0 B 119 (lk 2 wt nx (.slice (some ⟨L, 0, none⟩) 1 c))) := Lib.hid (by rw [hW0]; exact HK.out.alloc _)
  have H0 : Hid (Blk W0 w.heap.size 90 (hl 9 nb)) := Lib.hid (by rw [hW0]; exact Blk.new w _ _)
  have L0 : Hid (Blk W0 L 137 cs) := Lib.hid (by rw [hW0]; exact HL.out.alloc _)
  have N0 : Hid (Blk W0 K 139 (nk 3)) := Lib.hid (by rw [hW0]; exact HKn.out.alloc _)
  have B0 : Hid (Below w.heap.size w W0) := Lib.hid (by rw [hW0]; exact (Below.refl _ w).alloc (Nat.le_refl _) _)
  rw [← hW0]
  clear hW0
  have r0 : W0.cell? ⟨w.heap.size, 0, none⟩ = some (.int .u32 4294967040) := H0.out.cell 0
  have r1 : W0.cell? ⟨w.heap.size, 1, none⟩ = some (.int .u16 9) := H0.out.cell 1
  have r2 : W0.cell? ⟨w.heap.size, 2, none⟩ = some (.int .u8 2) := H0.out.cell 2
  have r3 : W0.cell? ⟨w.heap.size, 3, none⟩ = some (.int .u8 1) := H0.out.cell 3
  have r4 : W0.cell? ⟨w.heap.size, 4, none⟩ = some (.int .u32 40) := H0.out.cell 4
  have r5 : W0.cell? ⟨w.heap.size, 5, none⟩ = some (.int .u32 0) := H0.out.cell 5
  have r6 : W0.cell? ⟨w.heap.size, 6, none⟩ = some (.int .u32 0) := H0.out.cell 6
  have r7 : W0.cell? ⟨w.heap.size, 7, none⟩ = some nb := H0.out.cell 7
  go_wp2_with (go_at_call 67; refine (none_lk _ _ _ K0.out rfl).mono ?_; rintro e w' ⟨rfl, rfl⟩)
  refine (may_bad _ B wt nx _ _ K0.out (fun W kW hW => find_one W B L K c _ _ _ kW rfl rfl (((L0.out.below hW L0.out.lt).cell 0).trans Hcs.out) ((N0.out.below hW N0.out.lt).cell 1))).mono ?_
  rintro e w1 ⟨rfl, hb1⟩
  clear r0 r1 r2 r3 r4 r5 r6 r7
  go_wp2_with fail
  refine bodyPost_ret (v := .tuple #[.slice none 0 0, .int .i64 43]) (by simp [results, Try.results35, go_sem]) rfl ⟨rfl, B0.out.trans (hb1.mono B0.out.size)⟩
end Go.Proofs.Ytgbmhijgpdgdbaa
