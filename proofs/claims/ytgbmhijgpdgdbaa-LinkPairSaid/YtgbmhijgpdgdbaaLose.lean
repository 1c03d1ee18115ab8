/- A neighbour is lost. -/
import Derived.Test.YtgbmhijgpdgdbaaLinkOn
namespace Go.Proofs.Ytgbmhijgpdgdbaa
open Go.RowKit

def zeroKn : Kn := { ro := 0, ad := 0, st := 0, pr := 0, dr := 0, bd := 0, op := 0, lf := 0, wa := false, fu := false }

def PutAny (lo B : Nat) (c : LC) (st dr bd wt nx po re : Int) (w : World) (e : Ending) (w' : World) : Prop :=
  e = .returned (.int .i64 0) ∧ LFr lo w w' ∧ ∃ L cap K, LinkOn lo w' B c st dr bd wt nx po re L cap [(K, zeroKn)]

set_option maxHeartbeats 4000000 in
set_option maxRecDepth 20000 in
theorem put_bc (lo : Nat) (w : World) (B : Nat) (c : LC) (st dr bd wt nx po re x : Int) (hlo : lo ≤ B) (hty : c.ty = 0) (k : Blk w B 119 (lks c st dr bd wt nx po re (.slice none 0 0))) :
    Calls Try.prog 72 #[.pointer (some ⟨B, 0, none⟩), .int .u32 x] w fun e w' => PutAny lo B c st dr bd wt nx po re w e w' := by
  obtain ⟨i0, hi, hz0, hz1, hz2⟩ := info_parts known_info
  have K := Lib.hid k
  have e_ty : (c.ty != 0) = false := by simpa using hty
  have hlt : B < w.heap.size := k.lt
  have c1 : w.cell? ⟨B, 1, none⟩ = some (.int .u8 c.ty) := k.cell 1
  have c22 : w.cell? ⟨B, 22, none⟩ = some (.slice none 0 0) := k.cell 22
  have fz := k.frozen
  clear k hty
  go_enter Try.func72, Try.ntmps72
  go_wp2_with fail
  refine wp_loop_rounds 1 ?_
  rw [rounds_succ]
  have HLit := Lib.hid (Reads.of_own (World.ownsRow_lit (base := 0) (e := 137) (size := 1) w #[.pointer none] 1 (Nat.zero_le _) (by simp [maxLen]) rfl))
  go_upto_region 8 with (at_builtin; refine wpList_append_any _ rfl (.tmp 46) (.tmp 47) _ rfl w.heap.size 137 i0 _ 1 8 Try.underlying117 hi hz0 hz1 hz2 rfl (by omega) (.slice none 0 0) 0 [] rfl (World.ownsRow_nil _ _ _ _) _ (some ⟨w.heap.size, 0, none⟩) 1 1 [.pointer none] rfl HLit.out (by simp [Value.oneCell']) (by unfold maxLen; omega) (by omega) (by simp) ?_; intro v1 w1 hown1 hg1 hat1; rw [List.nil_append] at hown1; obtain ⟨L, cap, cur, hv1, hL, kL, hcs, hcap⟩ := own_blk hown1; subst hv1; have hF1 : Frame (fun _ => False) w w1 := ((Frame.refl _ w).alloc _).trans (Frame.of_grown hg1 (by simp [Value.ownBlock])); have kB1 := hF1.blk K.out (fun e => e); have KB1 := Lib.hid kB1; have KL1 := Lib.hid kL; have HF1 := Lib.hid hF1; have Hcs := Lib.hid hcs; have d22 : w1.cell? ⟨B, 22, none⟩ = some (.slice none 0 0) := kB1.cell 22; have fz1 := kB1.frozen; clear hF1 kB1 kL hcs hg1 hat1 hown1 c1 c22 fz)
  have hLB : L ≠ B := by omega
  obtain ⟨W2, hW2⟩ : ∃ W2, W2 = w1.setCell ⟨B, 22, none⟩ (.slice (some ⟨L, 0, none⟩) 1 cap) := ⟨_, rfl⟩
  have K2 : Hid (Blk W2 B 119 (lks c st dr bd wt nx po re (.slice (some ⟨L, 0, none⟩) 1 cap))) := Lib.hid (by rw [hW2]; exact KB1.out.set_ 22 _)
  have L2 : Hid (Blk W2 L 137 cur) := Lib.hid (by rw [hW2]; exact KL1.out.far (by simpa using hLB) _)
  have F2 : Hid (Frame (fun j => j = B) w W2) := Lib.hid (by rw [hW2]; exact (HF1.out.mono fun _ e => e.elim).setB 22 _)
  rw [← hW2]
  clear hW2 d22 fz1
  have e22 : W2.cell? ⟨B, 22, none⟩ = some (.slice (some ⟨L, 0, none⟩) 1 cap) := K2.out.cell 22
  go_cut [] from 42 to 64 (fun wx => ∃ k, wx = W2.drewN k)
  case first =>
    refine wp_region_drawn_tail 13 (by kernel_rfl) (by kernel_rfl) ?_
    simp only [List.take_succ_cons, List.take_zero, List.drop_succ_cons, List.drop_zero]
    repeat (go_big_quiet_step (fail))
    refine wpQuiet_nil ?_
    rintro wq ⟨q, rfl⟩
    refine wpList_copy_nothing rfl (.tmp 57) (.tmp 63) 117 117 rfl 137 Try.underlying117 (by kernel_rfl) _ _ _ _ _ _ rfl rfl (by simp) ?_
    go_wp2_with fail
    all_goals
      go_meet
      exact ⟨q, rfl⟩
  obtain ⟨q, hq⟩ := hcut
  have K3 : Hid (Blk wc B 119 (lks c st dr bd wt nx po re (.slice (some ⟨L, 0, none⟩) 1 cap))) := Lib.hid (by rw [hq]; exact K2.out.drewN q)
  have L3 : Hid (Blk wc L 137 cur) := Lib.hid (by rw [hq]; exact L2.out.drewN q)
  have F3 : Hid (Frame (fun j => j = B) w wc) := Lib.hid (by rw [hq]; exact F2.out.drewN q)
  clear hq e22
  have e22 : wc.cell? ⟨B, 22, none⟩ = some (.slice (some ⟨L, 0, none⟩) 1 cap) := K3.out.cell 22
  have l0 := (L3.out.cell 0).trans (Array.getElem?_eq_getElem Hcs.out)
  have fzL := L3.out.frozen
  have hl2 : L < wc.heap.size := L3.out.lt
  have hl3 : B < wc.heap.size := K3.out.lt
  go_wp2_with fail
  have hs3 : (wc.setCell ⟨L, 0, none⟩ (.pointer (some ⟨wc.heap.size, 0, none⟩))).heap.size = wc.heap.size := by simp [World.setCell]
  have hKB : wc.heap.size ≠ L := by omega
  go_ret
  have hB' : Blk ((wc.setCell ⟨L, 0, none⟩ (.pointer (some ⟨wc.heap.size, 0, none⟩))).alloc (.cells zeroKn.cells 139)) B 119 (lks c st dr bd wt nx po re (.slice (some ⟨L, 0, none⟩) 1 cap)) := (K3.out.far (by simpa using fun e => hLB e.symm) _).alloc _
  have hL' : Blk ((wc.setCell ⟨L, 0, none⟩ (.pointer (some ⟨wc.heap.size, 0, none⟩))).alloc (.cells zeroKn.cells 139)) L 137 (cur.setIfInBounds 0 (.pointer (some ⟨wc.heap.size, 0, none⟩))) := (L3.out.set_ 0 _).alloc _
  have hK' := Blk.new (wc.setCell ⟨L, 0, none⟩ (.pointer (some ⟨wc.heap.size, 0, none⟩))) 139 zeroKn.cells
  rw [hs3] at hK'
  have hF' : Frame (fun j => j = B) w ((wc.setCell ⟨L, 0, none⟩ (.pointer (some ⟨wc.heap.size, 0, none⟩))).alloc (.cells zeroKn.cells 139)) := (F3.out.setCell (p := ⟨L, 0, none⟩) (fun h => by simp at h; omega) _).alloc _
  have hsz := F3.out.size
  refine ⟨rfl, LFr.one K.out hlo (.inl rfl) hF', L, cap, wc.heap.size, ⟨hlo, by omega, hB', ⟨_, hL'⟩, fun j x hj => ?_, fun x hx => ?_, by simp⟩⟩
  · rcases j with _ | j
    · obtain rfl : (wc.heap.size, zeroKn) = x := by simpa using hj
      refine (hL'.cell 0).trans ?_
      simp [Hcs.out]
    · simp at hj
  · obtain rfl : x = (wc.heap.size, zeroKn) := by simpa using hx
    exact ⟨hK', by omega⟩

set_option maxHeartbeats 4000000 in
set_option maxRecDepth 20000 in
theorem put_one (lo : Nat) (w : World) (B : Nat) (c : LC) (st dr bd wt nx po re x : Int) (hlo : lo ≤ B) (hty : c.ty ≠ 0) (k : Blk w B 119 (lks c st dr bd wt nx po re (.slice none 0 0))) :
    Calls Try.prog 72 #[.pointer (some ⟨B, 0, none⟩), .int .u32 x] w fun e w' => PutAny lo B c st dr bd wt nx po re w e w' := by
  have K := Lib.hid k
  have e_ty : (c.ty != 0) = true := by simpa using hty
  have hlt : B < w.heap.size := k.lt
  have c1 : w.cell? ⟨B, 1, none⟩ = some (.int .u8 c.ty) := k.cell 1
  have c22 : w.cell? ⟨B, 22, none⟩ = some (.slice none 0 0) := k.cell 22
  have fz := k.frozen 22
  clear k hty
  go_enter Try.func72, Try.ntmps72
  go_wp2_with fail
  go_ret
  obtain ⟨W0, hW0⟩ : ∃ W0, W0 = w.setCell ⟨B, 22, none⟩ (.slice (some ⟨w.heap.size + 1, 0, none⟩) 1 1) := ⟨_, rfl⟩
  have hs0 : W0.heap.size = w.heap.size := by rw [hW0]; simp [World.setCell]
  have b0 := K.out.set_ 22 (.slice (some ⟨w.heap.size + 1, 0, none⟩) 1 1)
  have f0 := (Frame.refl (fun j => j = B) w).setB 22 (.slice (some ⟨w.heap.size + 1, 0, none⟩) 1 1)
  rw [← hW0] at b0 f0
  obtain ⟨W1, hW1⟩ : ∃ W1, W1 = W0.alloc (.cells zeroKn.cells 139) := ⟨_, rfl⟩
  have hs1 : W1.heap.size = w.heap.size + 1 := by rw [hW1]; simp [hs0]
  have k1 := Blk.new W0 139 zeroKn.cells
  have b1 := b0.alloc (.cells zeroKn.cells 139)
  have f1 := f0.alloc (.cells zeroKn.cells 139)
  rw [← hW1] at b1 f1 k1
  rw [hs0] at k1
  have b2 := b1.alloc (.cells #[.pointer (some ⟨w.heap.size, 0, none⟩)] 137)
  have k2 := k1.alloc (.cells #[.pointer (some ⟨w.heap.size, 0, none⟩)] 137)
  have f2 := f1.alloc (.cells #[.pointer (some ⟨w.heap.size, 0, none⟩)] 137)
  have l2 := Blk.new W1 137 #[.pointer (some ⟨w.heap.size, 0, none⟩)]
  rw [hs1] at l2
  obtain ⟨W2, hW2⟩ : ∃ W2, W2 = W1.alloc (.cells #[.pointer (some ⟨w.heap.size, 0, none⟩)] 137) := ⟨_, rfl⟩
  rw [← hW2] at b2 l2 k2 f2
  have hfin : PutAny lo B c st dr bd wt nx po re w (.returned (.int .i64 0)) W2 := by
    refine ⟨rfl, LFr.one K.out hlo (.inl rfl) f2, w.heap.size + 1, 1, w.heap.size, ⟨hlo, by omega, b2, ⟨_, l2⟩, fun j x hj => ?_, fun x hx => ?_, by simp⟩⟩
    · rcases j with _ | j
      · obtain rfl : (w.heap.size, zeroKn) = x := by simpa using hj
        exact l2.cell 0
      · simp at hj
    · obtain rfl : x = (w.heap.size, zeroKn) := by simpa using hx
      exact ⟨k2, by omega⟩
  rw [hW2, hW1, hW0] at hfin
  exact hfin

theorem put_up (lo : Nat) (w : World) (B : Nat) (c : LC) (st dr bd wt nx po re x : Int) (hlo : lo ≤ B) (k : Blk w B 119 (lks c st dr bd wt nx po re (.slice none 0 0))) :
    Calls Try.prog 72 #[.pointer (some ⟨B, 0, none⟩), .int .u32 x] w fun e w' => PutAny lo B c st dr bd wt nx po re w e w' := by
  by_cases h : c.ty = 0
  · exact put_bc lo w B c st dr bd wt nx po re x hlo h k
  · exact put_one lo w B c st dr bd wt nx po re x hlo h k
end Go.Proofs.Ytgbmhijgpdgdbaa

namespace Go.Proofs.Ytgbmhijgpdgdbaa
open Go.RowKit

theorem drewB (w : World) (q : Nat) : Below w.heap.size w (w.drewN q) := ⟨rfl, rfl, rfl, Nat.le_refl _, fun _ _ => rfl⟩

def HeardPost (lo B : Nat) (c : LC) (st wt nx po re : Int) (L cap : Nat) (xs : List (Nat × Kn)) (w : World) (e : Ending) (w' : World) : Prop :=
  e = .returned (.tuple #[]) ∧ LFr lo w w' ∧ ∃ st' dr' bd' ks, ElKn c xs ks ∧ (2 ≤ st → 2 ≤ (st' : Int)) ∧ LinkOn lo w' B c st' dr' bd' wt nx po re L cap (mapK ks xs)

theorem elState_ge (c : LC) (o : Int × Int) : 2 ≤ elState c o := by
  unfold elState
  split
  · omega
  · split <;> omega

set_option maxHeartbeats 4000000 in
set_option maxRecDepth 20000 in
theorem heard_new (lo : Nat) (w : World) (B : Nat) (c : LC) (st dr bd wt nx po re : Int) (L cap : Nat) (xs : List (Nat × Kn)) (hlen : xs.length ≤ 60000) (h : LinkOn lo w B c st dr bd wt nx po re L cap xs) (old : Kn) (hold : old.st ≠ 3) (x : Nat × Kn) (hx : x ∈ xs) (hst : x.2.st = 3) (hdr : x.2.dr = 0) (hbd : x.2.bd = 0) (had : x.2.ad ≠ 0) (same : Bool) :
    Calls Try.prog 73 #[.pointer (some ⟨B, 0, none⟩), .agg old.cells, .pointer (some ⟨x.1, 0, none⟩), .bool same] w fun e w' => HeardPost lo B c st wt nx po re L cap xs w e w' := by
  have H := Lib.hid h
  have kx := (h.k x hx).1
  have KX := Lib.hid kx
  have e_old : (old.st == 3) = false := by simpa using hold
  have e_ad : (0 == x.2.ad) = false := by simpa using fun e => had e.symm
  have x2 : w.cell? ⟨x.1, 2, none⟩ = some (.int .u8 3) := (kx.cell 2).trans (by rw [← hst]; rfl)
  have x1 : w.cell? ⟨x.1, 1, none⟩ = some (.int .u32 x.2.ad) := kx.cell 1
  have x4 : w.cell? ⟨x.1, 4, none⟩ = some (.int .u32 0) := (kx.cell 4).trans (by rw [← hdr]; rfl)
  have x5 : w.cell? ⟨x.1, 5, none⟩ = some (.int .u32 0) := (kx.cell 5).trans (by rw [← hbd]; rfl)
  have b15 : w.cell? ⟨B, 15, none⟩ = some (.int .u8 st) := h.b.cell 15
  have hlx := kx.lt
  have hlB : B < w.heap.size := h.b.lt
  obtain ⟨W0, hW0⟩ : ∃ W0, W0 = w.alloc (.cells old.cells 139) := ⟨_, rfl⟩
  have hb0 : Below w.heap.size w W0 := by rw [hW0]; exact (Below.refl _ w).alloc (Nat.le_refl _) _
  have O0 : Blk W0 w.heap.size 139 old.cells := by rw [hW0]; exact Blk.new w _ _
  have H0 := Lib.hid (h.below hb0)
  have F0 := Lib.hid (LFr.of_below (lo := lo) hb0)
  have o2 : W0.cell? ⟨w.heap.size, 2, none⟩ = some (.int .u8 old.st) := O0.cell 2
  have y1 : W0.cell? ⟨x.1, 1, none⟩ = some (.int .u32 x.2.ad) := (hb0.cell (p := ⟨x.1, 1, none⟩) hlx).trans x1
  have y2 : W0.cell? ⟨x.1, 2, none⟩ = some (.int .u8 3) := (hb0.cell (p := ⟨x.1, 2, none⟩) hlx).trans x2
  have y4 : W0.cell? ⟨x.1, 4, none⟩ = some (.int .u32 0) := (hb0.cell (p := ⟨x.1, 4, none⟩) hlx).trans x4
  have y5 : W0.cell? ⟨x.1, 5, none⟩ = some (.int .u32 0) := (hb0.cell (p := ⟨x.1, 5, none⟩) hlx).trans x5
  have y15 : W0.cell? ⟨B, 15, none⟩ = some (.int .u8 st) := (hb0.cell (p := ⟨B, 15, none⟩) hlB).trans b15
  have hcs : old.cells = #[.int .u32 old.ro, .int .u32 old.ad, .int .u8 old.st, .int .u8 old.pr, .int .u32 old.dr, .int .u32 old.bd, .int .u8 old.op, .int .u32 old.lf, .bool old.wa, .bool old.fu] := rfl
  rw [hcs] at hW0 ⊢
  clear h kx hb0 O0 x1 x2 x4 x5 b15 hold had hst hdr hbd hcs
  have hid : ElKn c xs (fun x => x.2) := fun x _ => .inl rfl
  have hmid : mapK (fun x => x.2) xs = xs := by simp [mapK]
  rcases Bool.eq_false_or_eq_true (st == 2) with s2 | s2
  · have hn4 : ¬ 4 ≤ st := by have : st = 2 := by simpa using s2
                              omega
    go_enter Try.func73, Try.ntmps73
    go_upto_region 1 with fail
    rw [← hW0]
    clear hW0
    go_quiet (fail)
    go_wp2_with fail
    go_quiet (fail)
    go_wp2_with fail
    go_end0
    exact ⟨rfl, F0.out.trans (LFr.of_below (drewB W0 _)), st, dr, bd, fun x => x.2, hid, fun h => h, by rw [hmid]; exact H0.out.below (drewB W0 _)⟩
  · by_cases s4 : 4 ≤ st
    · go_enter Try.func73, Try.ntmps73
      go_upto_region 1 with fail
      rw [← hW0]
      clear hW0
      go_quiet (fail)
      go_wp2_with fail
      go_quiet (fail)
      go_wp2_with fail
      refine (elect_on (H0.out.below (drewB W0 _)) hlen).mono ?_
      rintro e w2 ⟨rfl, ks, hks, hl2, hf2⟩
      go_wp2_with fail
      go_end0
      exact ⟨rfl, F0.out.trans ((LFr.of_below (drewB W0 _)).trans hf2), _, _, _, ks, hks, fun _ => elState_ge _ _, hl2⟩
    · go_enter Try.func73, Try.ntmps73
      go_upto_region 1 with fail
      rw [← hW0]
      clear hW0
      go_quiet (fail)
      go_wp2_with fail
      go_quiet (fail)
      go_wp2_with fail
      go_end0
      exact ⟨rfl, F0.out.trans (LFr.of_below (drewB W0 _)), st, dr, bd, fun x => x.2, hid, fun h => h, by rw [hmid]; exact H0.out.below (drewB W0 _)⟩

set_option maxHeartbeats 4000000 in
set_option maxRecDepth 20000 in
theorem heard_again (lo : Nat) (w : World) (B : Nat) (c : LC) (st dr bd wt nx po re : Int) (L cap : Nat) (xs : List (Nat × Kn)) (h : LinkOn lo w B c st dr bd wt nx po re L cap xs) (old : Kn) (hold : old.st = 3) (hop : old.pr = 1) (hod : old.dr = 0) (hob : old.bd = 0) (x : Nat × Kn) (hx : x ∈ xs) (hst : x.2.st = 3) (hdr : x.2.dr = 0) (hbd : x.2.bd = 0) (hpr : x.2.pr = 1) (had : x.2.ad ≠ 0) :
    Calls Try.prog 73 #[.pointer (some ⟨B, 0, none⟩), .agg old.cells, .pointer (some ⟨x.1, 0, none⟩), .bool true] w fun e w' => HeardPost lo B c st wt nx po re L cap xs w e w' := by
  have H := Lib.hid h
  have kx := (h.k x hx).1
  have KX := Lib.hid kx
  have e_ad : (0 == x.2.ad) = false := by simpa using fun e => had e.symm
  have x2 : w.cell? ⟨x.1, 2, none⟩ = some (.int .u8 3) := (kx.cell 2).trans (by rw [← hst]; rfl)
  have x1 : w.cell? ⟨x.1, 1, none⟩ = some (.int .u32 x.2.ad) := kx.cell 1
  have x4 : w.cell? ⟨x.1, 4, none⟩ = some (.int .u32 0) := (kx.cell 4).trans (by rw [← hdr]; rfl)
  have x5 : w.cell? ⟨x.1, 5, none⟩ = some (.int .u32 0) := (kx.cell 5).trans (by rw [← hbd]; rfl)
  have b15 : w.cell? ⟨B, 15, none⟩ = some (.int .u8 st) := h.b.cell 15
  have x3 : w.cell? ⟨x.1, 3, none⟩ = some (.int .u8 1) := (kx.cell 3).trans (by rw [← hpr]; rfl)
  have hlx := kx.lt
  have hlB : B < w.heap.size := h.b.lt
  obtain ⟨W0, hW0⟩ : ∃ W0, W0 = w.alloc (.cells old.cells 139) := ⟨_, rfl⟩
  have hb0 : Below w.heap.size w W0 := by rw [hW0]; exact (Below.refl _ w).alloc (Nat.le_refl _) _
  have O0 : Blk W0 w.heap.size 139 old.cells := by rw [hW0]; exact Blk.new w _ _
  have H0 := Lib.hid (h.below hb0)
  have F0 := Lib.hid (LFr.of_below (lo := lo) hb0)
  have o2 : W0.cell? ⟨w.heap.size, 2, none⟩ = some (.int .u8 3) := (O0.cell 2).trans (by rw [← hold]; rfl)
  have o3 : W0.cell? ⟨w.heap.size, 3, none⟩ = some (.int .u8 1) := (O0.cell 3).trans (by rw [← hop]; rfl)
  have o4 : W0.cell? ⟨w.heap.size, 4, none⟩ = some (.int .u32 0) := (O0.cell 4).trans (by rw [← hod]; rfl)
  have o5 : W0.cell? ⟨w.heap.size, 5, none⟩ = some (.int .u32 0) := (O0.cell 5).trans (by rw [← hob]; rfl)
  have y3 : W0.cell? ⟨x.1, 3, none⟩ = some (.int .u8 1) := (hb0.cell (p := ⟨x.1, 3, none⟩) hlx).trans x3
  have y1 : W0.cell? ⟨x.1, 1, none⟩ = some (.int .u32 x.2.ad) := (hb0.cell (p := ⟨x.1, 1, none⟩) hlx).trans x1
  have y2 : W0.cell? ⟨x.1, 2, none⟩ = some (.int .u8 3) := (hb0.cell (p := ⟨x.1, 2, none⟩) hlx).trans x2
  have y4 : W0.cell? ⟨x.1, 4, none⟩ = some (.int .u32 0) := (hb0.cell (p := ⟨x.1, 4, none⟩) hlx).trans x4
  have y5 : W0.cell? ⟨x.1, 5, none⟩ = some (.int .u32 0) := (hb0.cell (p := ⟨x.1, 5, none⟩) hlx).trans x5
  have y15 : W0.cell? ⟨B, 15, none⟩ = some (.int .u8 st) := (hb0.cell (p := ⟨B, 15, none⟩) hlB).trans b15
  have hcs : old.cells = #[.int .u32 old.ro, .int .u32 old.ad, .int .u8 old.st, .int .u8 old.pr, .int .u32 old.dr, .int .u32 old.bd, .int .u8 old.op, .int .u32 old.lf, .bool old.wa, .bool old.fu] := rfl
  rw [hcs] at hW0 ⊢
  clear h kx hb0 O0 x1 x2 x3 x4 x5 b15 hold hop hod hob had hst hdr hbd hpr hcs
  have hid : ElKn c xs (fun x => x.2) := fun x _ => .inl rfl
  have hmid : mapK (fun x => x.2) xs = xs := by simp [mapK]
  rcases Bool.eq_false_or_eq_true (st == 2) with s2 | s2
  · have hn4 : ¬ 4 ≤ st := by have : st = 2 := by simpa using s2
                              omega
    go_enter Try.func73, Try.ntmps73
    go_upto_region 1 with fail
    rw [← hW0]
    clear hW0
    go_quiet (fail)
    go_wp2_with fail
    go_quiet (fail)
    go_wp2_with fail
    go_quiet (fail)
    go_wp2_with fail
    go_end0
    exact ⟨rfl, F0.out.trans (LFr.of_below (drewB W0 _)), st, dr, bd, fun x => x.2, hid, fun h => h, by rw [hmid]; exact H0.out.below (drewB W0 _)⟩
  · by_cases s4 : 4 ≤ st
    all_goals
      go_enter Try.func73, Try.ntmps73
      go_upto_region 1 with fail
      rw [← hW0]
      clear hW0
      go_quiet (fail)
      go_wp2_with fail
      go_quiet (fail)
      go_wp2_with fail
      go_quiet (fail)
      go_wp2_with fail
      go_end0
      exact ⟨rfl, F0.out.trans (LFr.of_below (drewB W0 _)), st, dr, bd, fun x => x.2, hid, fun h => h, by rw [hmid]; exact H0.out.below (drewB W0 _)⟩
end Go.Proofs.Ytgbmhijgpdgdbaa

namespace Go.Proofs.Ytgbmhijgpdgdbaa
open Go.RowKit

/-- The link's own copy of its peers. -/
def PeersOwn (w : World) (c : LC) (Ps : List (Int × Int)) : Prop := ∃ P cap cur, c.pe = .slice (some ⟨P, 0, none⟩) Ps.length cap ∧ Blk w P 136 cur ∧ ∀ (i : Nat) (p : Int × Int), Ps[i]? = some p → w.cell? ⟨P, i * 2, none⟩ = some (.int .u32 p.1) ∧ w.cell? ⟨P, i * 2 + 1, none⟩ = some (.int .u8 p.2)

theorem PeersOwn.fr {lo : Nat} {w w' : World} {c : LC} {Ps : List (Int × Int)} (h : PeersOwn w c Ps) (hf : LFr lo w w') : PeersOwn w' c Ps := by
  obtain ⟨P, cap, cur, he, hb, hr⟩ := h
  have hb' := hf.blk hb (by decide) (by decide) (by decide)
  have hc : ∀ i, w'.cell? ⟨P, i, none⟩ = w.cell? ⟨P, i, none⟩ := fun i => (hb'.cell i).trans (hb.cell i).symm
  exact ⟨P, cap, cur, he, hb', fun i p hp => ⟨(hc _).trans (hr i p hp).1, (hc _).trans (hr i p hp).2⟩⟩

/-- A peer of whom nothing is known. -/
def goneK (p : Int × Int) : Kn := { ro := 0, ad := p.1, st := 0, pr := p.2, dr := 0, bd := 0, op := 0, lf := 0, wa := false, fu := false }

def LosePost (lo B : Nat) (c : LC) (st dr bd wt nx po re : Int) (L cap : Nat) (xs : List (Nat × Kn)) (i : Nat) (p : Int × Int) (w : World) (e : Ending) (w' : World) : Prop :=
  e = .returned (.tuple #[]) ∧ ∃ K, LinkOn lo w' B c st dr bd wt nx po re L cap (xs.set i (K, goneK p)) ∧ LFr lo w w'

theorem nodup_set {l : List Nat} {K : Nat} : ∀ (i : Nat), l.Nodup → K ∉ l → (l.set i K).Nodup := by
  induction l with
  | nil => intro i h _; simp
  | cons a l ih =>
    intro i h hK
    rw [List.nodup_cons] at h
    simp only [List.mem_cons, not_or] at hK
    cases i with
    | zero =>
      rw [List.set_cons_zero, List.nodup_cons]
      exact ⟨hK.2, h.2⟩
    | succ i =>
      rw [List.set_cons_succ, List.nodup_cons]
      refine ⟨fun hm => ?_, ih i h.2 hK.2⟩
      rcases List.mem_or_eq_of_mem_set hm with hm | e
      · exact h.1 hm
      · exact hK.1 e.symm

theorem lose_step {lo : Nat} {w w' : World} {B : Nat} {c : LC} {st dr bd wt nx po re : Int} {L cap : Nat} {xs : List (Nat × Kn)} (h : LinkOn lo w B c st dr bd wt nx po re L cap xs) {i K : Nat} {k : Kn} (hi : i < xs.length) (hK : w.heap.size ≤ K)
    (hb : Blk w' K 139 k.cells) (hL : ∃ cur, Blk w' L 137 cur) (hc : w'.cell? ⟨L, i, none⟩ = some (.pointer (some ⟨K, 0, none⟩))) (ho : ∀ j, j ≠ i → w'.cell? ⟨L, j, none⟩ = w.cell? ⟨L, j, none⟩) (hf : Frame (fun j => j = L) w w') :
    LinkOn lo w' B c st dr bd wt nx po re L cap (xs.set i (K, k)) ∧ LFr lo w w' := by
  obtain ⟨cur, hc0⟩ := h.lc
  have hLB : B ≠ L := h.b.ne_ hc0 (by decide)
  have hlo : lo ≤ K := by have := h.loL; have := hc0.lt; omega
  refine ⟨⟨h.loB, h.loL, by rw [List.length_set]; exact hf.blk h.b hLB, hL, fun j x hj => ?_, fun x hx => ?_, ?_⟩, LFr.one hc0 h.loL (.inr (.inl rfl)) hf⟩
  · by_cases hji : i = j
    · subst hji
      rw [List.getElem?_set_self hi] at hj
      obtain rfl : (K, k) = x := Option.some.inj hj
      exact hc
    · rw [List.getElem?_set_ne hji] at hj
      exact (ho j (Ne.symm hji)).trans (h.r j x hj)
  · rcases List.mem_or_eq_of_mem_set hx with hx | rfl
    · exact ⟨hf.blk (h.k x hx).1 ((h.k x hx).1.ne_ hc0 (by decide)), (h.k x hx).2⟩
    · exact ⟨hb, hlo⟩
  · rw [List.map_set]
    have hnK : K ∉ xs.map (·.1) := by
      intro hm
      obtain ⟨x, hx, e⟩ := List.mem_map.1 hm
      have := (h.k x hx).1.lt
      omega
    exact nodup_set i h.nd hnK

set_option maxHeartbeats 4000000 in
set_option maxRecDepth 20000 in
theorem lose_peers (lo : Nat) (w : World) (B : Nat) (c : LC) (st dr bd wt nx po re : Int) (L cap : Nat) (xs : List (Nat × Kn)) (Ps : List (Int × Int)) (i : Nat) (p : Int × Int) (hp : c.peers = true) (h : LinkOn lo w B c st dr bd wt nx po re L cap xs) (hpo : PeersOwn w c Ps) (hi : i < xs.length) (hpi : Ps[i]? = some p) :
    Calls Try.prog 109 #[.pointer (some ⟨B, 0, none⟩), .int .i64 i] w fun e w' => LosePost lo B c st dr bd wt nx po re L cap xs i p w e w' := by
  have hp2 : ∀ W, Calls Try.prog 63 #[.agg #[.int .u8 c.ty, .int .u32 c.ro, .int .u32 c.na, .int .u8 c.nb, .int .u32 c.ad, .int .u8 c.op, .int .u16 c.hi, .int .u32 c.dd, .int .u16 c.po, .int .u8 c.pr, .bool c.dm, .bool c.ps, c.pe, .int .u32 c.rm]] W fun e w' => e = .returned (.bool true) ∧ Below W.heap.size W w' := fun W => by have h := peers_any c W; rw [hp] at h; exact h
  have HP := Lib.hid hp2
  have H := Lib.hid h
  have hpl : i < Ps.length := (List.getElem?_eq_some_iff.1 hpi).1
  obtain ⟨P, pcap, pcur, hpe, hpb, hpr⟩ := hpo
  obtain ⟨cur, hLc⟩ := h.lc
  have HPB := Lib.hid hpb
  have HLC := Lib.hid hLc
  have K0 := Lib.hid h.b
  have hL1 : w.cell? ⟨L, i, none⟩ = some (.pointer (some ⟨(xs[i]'hi).1, 0, none⟩)) := h.r i _ (List.getElem?_eq_getElem hi)
  have HL1 := Lib.hid hL1
  have HPR := Lib.hid (hpr i p hpi)
  have e1 : w.cell? ⟨B, 1, none⟩ = some (.int .u8 c.ty) := h.b.cell 1
  have e2 : w.cell? ⟨B, 2, none⟩ = some (.int .u32 c.ro) := h.b.cell 2
  have e3 : w.cell? ⟨B, 3, none⟩ = some (.int .u32 c.na) := h.b.cell 3
  have e4 : w.cell? ⟨B, 4, none⟩ = some (.int .u8 c.nb) := h.b.cell 4
  have e5 : w.cell? ⟨B, 5, none⟩ = some (.int .u32 c.ad) := h.b.cell 5
  have e6 : w.cell? ⟨B, 6, none⟩ = some (.int .u8 c.op) := h.b.cell 6
  have e7 : w.cell? ⟨B, 7, none⟩ = some (.int .u16 c.hi) := h.b.cell 7
  have e8 : w.cell? ⟨B, 8, none⟩ = some (.int .u32 c.dd) := h.b.cell 8
  have e9 : w.cell? ⟨B, 9, none⟩ = some (.int .u16 c.po) := h.b.cell 9
  have e10 : w.cell? ⟨B, 10, none⟩ = some (.int .u8 c.pr) := h.b.cell 10
  have e11 : w.cell? ⟨B, 11, none⟩ = some (.bool c.dm) := h.b.cell 11
  have e12 : w.cell? ⟨B, 12, none⟩ = some (.bool c.ps) := h.b.cell 12
  have e13 : w.cell? ⟨B, 13, none⟩ = some (c.pe) := h.b.cell 13
  have e14 : w.cell? ⟨B, 14, none⟩ = some (.int .u32 c.rm) := h.b.cell 14
  have hl0 : B < w.heap.size := h.b.lt
  have HPE := Lib.hid hpe
  clear h hpr hp2 hp hpb hLc hL1 hpe hpi
  go_enter Try.func109, Try.ntmps109
  go_wp2_with fail
  refine (HP.out _).mono ?_
  rintro e w1 ⟨rfl, hb1⟩
  have H1 := Lib.hid (H.out.below hb1)
  have PB1 := Lib.hid (HPB.out.below hb1 HPB.out.lt)
  have LC1 := Lib.hid (HLC.out.below hb1 HLC.out.lt)
  have HB1 := Lib.hid hb1
  have d13 : w1.cell? ⟨B, 13, none⟩ = some (.slice (some ⟨P, 0, none⟩) Ps.length pcap) := (H1.out.b.cell 13).trans (congrArg some HPE.out)
  have d22 : w1.cell? ⟨B, 22, none⟩ = some (.slice (some ⟨L, 0, none⟩) xs.length cap) := H1.out.b.cell 22
  have d0 : w1.cell? ⟨P, i * 2, none⟩ = some (.int .u32 p.1) := (hb1.cell (p := ⟨P, i * 2, none⟩) HPB.out.lt).trans HPR.out.1
  have d1 : w1.cell? ⟨P, i * 2 + 1, none⟩ = some (.int .u8 p.2) := (hb1.cell (p := ⟨P, i * 2 + 1, none⟩) HPB.out.lt).trans HPR.out.2
  have l1 : w1.cell? ⟨L, i, none⟩ = some (.pointer (some ⟨(xs[i]'hi).1, 0, none⟩)) := (hb1.cell (p := ⟨L, i, none⟩) HLC.out.lt).trans HL1.out
  have fL := LC1.out.frozen i
  have hlL := LC1.out.lt
  have hlB : B < w1.heap.size := H1.out.b.lt
  have hlP := PB1.out.lt
  have hBL : B ≠ L := H1.out.b.ne_ LC1.out (by decide)
  have hPL : P ≠ L := PB1.out.ne_ LC1.out (by decide)
  have hS : ∀ W', Blk W' B 119 (lks c st dr bd wt nx po re (.slice (some ⟨L, 0, none⟩) xs.length cap)) → Blk W' P 136 pcur → W'.cell? ⟨B, 13, none⟩ = some (.slice (some ⟨P, 0, none⟩) Ps.length pcap) ∧ W'.cell? ⟨B, 22, none⟩ = some (.slice (some ⟨L, 0, none⟩) xs.length cap) ∧ W'.cell? ⟨P, i * 2, none⟩ = some (.int .u32 p.1) ∧ W'.cell? ⟨P, i * 2 + 1, none⟩ = some (.int .u8 p.2) :=
    fun W' h1 h2 => ⟨(h1.cell 13).trans (congrArg some HPE.out), h1.cell 22, (h2.cell _).trans ((PB1.out.cell _).symm.trans d0), (h2.cell _).trans ((PB1.out.cell _).symm.trans d1)⟩
  have HS := Lib.hid hS
  clear hS e1 e2 e3 e4 e5 e6 e7 e8 e9 e10 e11 e12 e13 e14 hl0 hb1
  go_wp2_with fail
  go_cut [] from 9 to 35 (fun wx => ∃ K, w1.heap.size ≤ K ∧ Blk wx K 139 (goneK p).cells ∧ Blk wx L 137 (cur.setIfInBounds i (.pointer (some ⟨K, 0, none⟩))) ∧ Frame (fun j => j = L) w1 wx)
  case first =>
    go_region_held3 (fun w' => w'.cell? ⟨B, 13, none⟩ = some (.slice (some ⟨P, 0, none⟩) Ps.length pcap) ∧ w'.cell? ⟨B, 22, none⟩ = some (.slice (some ⟨L, 0, none⟩) xs.length cap) ∧ w'.cell? ⟨P, i * 2, none⟩ = some (.int .u32 p.1) ∧ w'.cell? ⟨P, i * 2 + 1, none⟩ = some (.int .u8 p.2)) (first
      | assumption
      | exact HS.out _ ((H1.out.b.far (p := ⟨L, i, none⟩) hBL _).alloc _).drew ((PB1.out.far (p := ⟨L, i, none⟩) hPL _).alloc _).drew
      | go_keep) (fail)
    go_wp2_with fail
    go_meet
    have hsz : (w1.setCell ⟨L, i, none⟩ (.pointer (some ⟨w1.heap.size, 0, none⟩))).heap.size = w1.heap.size := by simp [World.setCell]
    have hn := Blk.new (w1.setCell ⟨L, i, none⟩ (.pointer (some ⟨w1.heap.size, 0, none⟩))) 139 (goneK p).cells
    rw [hsz] at hn
    exact ⟨w1.heap.size, Nat.le_refl _, hn.drew, ((LC1.out.set_ i _).alloc _).drew, (((Frame.refl (fun j => j = L) w1).setB i _).alloc _).drew⟩
  obtain ⟨K, hK, kb, lb, hf⟩ := hcut
  have hin : i < cur.size := by
    have := (LC1.out.cell i).symm.trans l1
    exact (Array.getElem?_eq_some_iff.1 this).1
  have hstep := lose_step (k := goneK p) H1.out hi hK kb ⟨_, lb⟩ (by rw [lb.cell i]; simp [hin]) (fun j hj => by rw [lb.cell j, LC1.out.cell j, Array.getElem?_setIfInBounds_ne (Ne.symm hj)]) hf
  have hres := Lib.hid hstep
  clear hstep hf lb kb d0 d1 d13 d22 l1
  go_wp2_with fail
  refine bodyPost_ret (results_none rfl _ _ _) rfl ?_
  exact ⟨rfl, K, hres.out.1, (LFr.of_below HB1.out).trans hres.out.2⟩
end Go.Proofs.Ytgbmhijgpdgdbaa
