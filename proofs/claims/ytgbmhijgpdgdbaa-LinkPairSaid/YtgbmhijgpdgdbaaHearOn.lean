/- Hear of a link that is up: a Hello that is refused; a first one; one more. -/
import Derived.Test.YtgbmhijgpdgdbaaMayUp
import Derived.Test.YtgbmhijgpdgdbaaLose
namespace Go.Proofs.Ytgbmhijgpdgdbaa
open Go.RowKit

def newK (c : LC) (f r : Int) : Kn := { ro := r, ad := f, st := 3, pr := 1, dr := 0, bd := 0, op := c.op, lf := c.dd, wa := false, fu := false }

theorem mapK_len' (ks : Nat × Kn → Kn) (xs : List (Nat × Kn)) : (mapK ks xs).length = xs.length := List.length_map ..

def HearOnPost (lo B : Nat) (c : LC) (f r wt nx po re : Int) (L cap : Nat) (xs : List (Nat × Kn)) (i : Nat) (w : World) (e : Ending) (w' : World) : Prop :=
  (∃ a n k, e = .returned (.tuple #[.slice a n k, .int .i64 0])) ∧ LFr lo w w' ∧ ∃ K st' dr' bd' ks, ElKn c (xs.set i (K, newK c f r)) ks ∧ 2 ≤ (st' : Int) ∧
    LinkOn lo w' B c st' dr' bd' wt nx po re L cap (mapK ks (xs.set i (K, newK c f r)))

def HearPutPost (lo B : Nat) (c : LC) (f r wt nx po re : Int) (w : World) (e : Ending) (w' : World) : Prop :=
  (∃ a n k, e = .returned (.tuple #[.slice a n k, .int .i64 0])) ∧ LFr lo w w' ∧ ∃ L cap K st' dr' bd' ks, ElKn c [(K, newK c f r)] ks ∧ 2 ≤ (st' : Int) ∧
    LinkOn lo w' B c st' dr' bd' wt nx po re L cap (mapK ks [(K, newK c f r)])

abbrev helloA (c : LC) (G gc : Nat) : Value := .agg #[.int .u32 (maskN c.nb.toNat), .int .u16 c.hi, .int .u8 c.op, .int .u8 1, .int .u32 c.dd, .int .u32 0, .int .u32 0, .slice (some ⟨G, 0, none⟩) 1 gc]

set_option maxHeartbeats 4000000 in
set_option maxRecDepth 20000 in
theorem hear_refused (w : World) (B : Nat) (c : LC) (st dr bd wt nx po re : Int) (f r : Int) (G gc : Nat) (la : Option Addr) (ln lc : Nat) (at_ : Int) (k : Blk w B 119 (lks c st dr bd wt nx po re (.slice la ln lc))) (hst1 : ¬ st ≤ 1)
    (hfind : ∀ W, Below w.heap.size w W → Calls Try.prog 71 #[.pointer (some ⟨B, 0, none⟩), .int .u32 f, .int .u32 r] W fun e w' => e = .returned (.int .i64 at_) ∧ w' = W) (hn0 : 0 ≤ c.nb) (hn1 : c.nb ≤ 32) (hnet : bits .and .u32 c.na (maskN c.nb.toNat) = c.na)
    (hbad : (mB4 c f r || mB5 c f || mB6 c r || mB7 c at_ || mB8 c at_ ln) = true) :
    Calls Try.prog 35 #[.pointer (some ⟨B, 0, none⟩), .int .u32 f, .int .u32 r, .agg #[.int .u32 (maskN c.nb.toNat), .int .u16 c.hi, .int .u8 c.op, .int .u8 1, .int .u32 c.dd, .int .u32 0, .int .u32 0, .slice (some ⟨G, 0, none⟩) 1 gc]] w fun e w' => (∃ code : Int, code ≠ 0 ∧ e = .returned (.tuple #[.slice none 0 0, .int .i64 code])) ∧ Below w.heap.size w w' := by
  have K := Lib.hid k
  have HFind := Lib.hid hfind
  have HBad := Lib.hid hbad
  have n_st := Lib.hid hst1
  have HNet := Lib.hid hnet
  have hlt : B < w.heap.size := K.out.lt
  go_enter Try.func35, Try.ntmps35
  go_upto_region 1 with fail
  obtain ⟨W0, hW0⟩ : ∃ W0, W0 = w.alloc (.cells #[.int .u32 (maskN c.nb.toNat), .int .u16 c.hi, .int .u8 c.op, .int .u8 1, .int .u32 c.dd, .int .u32 0, .int .u32 0, .slice (some ⟨G, 0, none⟩) 1 gc] 90) := ⟨_, rfl⟩
  have A0 : Hid (Blk W0 w.heap.size 90 #[.int .u32 (maskN c.nb.toNat), .int .u16 c.hi, .int .u8 c.op, .int .u8 1, .int .u32 c.dd, .int .u32 0, .int .u32 0, .slice (some ⟨G, 0, none⟩) 1 gc]) := Lib.hid (by rw [hW0]; exact Blk.new w _ _)
  have B0 : Hid (Below w.heap.size w W0) := Lib.hid (by rw [hW0]; exact (Below.refl _ w).alloc (Nat.le_refl _) _)
  have h00 : w.heap.size < W0.heap.size := A0.out.lt
  rw [← hW0]
  clear hW0
  have r0 : W0.cell? ⟨w.heap.size, 0, none⟩ = some (.int .u32 (maskN c.nb.toNat)) := A0.out.cell 0
  have r1 : W0.cell? ⟨w.heap.size, 1, none⟩ = some (.int .u16 c.hi) := A0.out.cell 1
  have r2 : W0.cell? ⟨w.heap.size, 2, none⟩ = some (.int .u8 c.op) := A0.out.cell 2
  have r3 : W0.cell? ⟨w.heap.size, 3, none⟩ = some (.int .u8 1) := A0.out.cell 3
  have r4 : W0.cell? ⟨w.heap.size, 4, none⟩ = some (.int .u32 c.dd) := A0.out.cell 4
  have r5 : W0.cell? ⟨w.heap.size, 5, none⟩ = some (.int .u32 0) := A0.out.cell 5
  have r6 : W0.cell? ⟨w.heap.size, 6, none⟩ = some (.int .u32 0) := A0.out.cell 6
  have r7 : W0.cell? ⟨w.heap.size, 7, none⟩ = some (.slice (some ⟨G, 0, none⟩) 1 gc) := A0.out.cell 7
  have K0 := Lib.hid (K.out.below B0.out hlt)
  clear k hfind hbad hnet hst1
  go_wp2_with (go_at_call 67; refine (none_lk _ _ _ K0.out rfl).mono ?_; rintro e w' ⟨rfl, rfl⟩)
  refine (may_up _ B c st dr bd wt nx po re f r 1 0 0 _ la ln lc at_ K0.out (by have := n_st.out; omega) (fun W hW => HFind.out W (B0.out.trans (hW.mono B0.out.size))) hn0 hn1 HNet.out).mono ?_
  rintro e w1 ⟨code, rfl, hc, hb1⟩
  have hne : code ≠ 0 := fun e => by have := hc.1 e; rw [HBad.out] at this; cases this
  have HNe := Lib.hid hne
  have e_c : (code != 0) = true := by simpa using hne
  have B1 := Lib.hid (B0.out.trans (hb1.mono B0.out.size))
  clear hne hc hb1
  clear r0 r1 r2 r3 r4 r5 r6 r7
  go_wp2_with fail
  exact bodyPost_ret (v := .tuple #[.slice none 0 0, .int .i64 code]) (by simp [results, Try.results35, go_sem]) rfl ⟨⟨code, HNe.out, rfl⟩, B1.out⟩

set_option maxHeartbeats 8000000 in
set_option maxRecDepth 40000 in
theorem hear_put (lo : Nat) (w : World) (B : Nat) (c : LC) (st dr bd wt nx po re : Int) (f r : Int) (G gc : Nat) (hlo : lo ≤ B) (k : Blk w B 119 (lks c st dr bd wt nx po re (.slice none 0 0))) (h2 : 2 ≤ st) (hdm : c.dm = false) (hn0 : 0 ≤ c.nb) (hn1 : c.nb ≤ 32) (hnet : bits .and .u32 c.na (maskN c.nb.toNat) = c.na) (hf0 : f ≠ 0) (g : Blk w G 25 #[.int .u32 c.ro])
    (hr0 : r ≠ 0) (hp : c.peers = false) (hok : (mB4 c f r || mB5 c f || mB6 c r) = false) :
    Calls Try.prog 35 #[.pointer (some ⟨B, 0, none⟩), .int .u32 f, .int .u32 r, .agg #[.int .u32 (maskN c.nb.toNat), .int .u16 c.hi, .int .u8 c.op, .int .u8 1, .int .u32 c.dd, .int .u32 0, .int .u32 0, .slice (some ⟨G, 0, none⟩) 1 gc]] w fun e w' => HearPutPost lo B c f r wt nx po re w e w' := by
  have K := Lib.hid k
  have HOk := Lib.hid hok
  have HNet := Lib.hid hnet
  have HDm := Lib.hid hdm
  have HG := Lib.hid g
  have HF0 := Lib.hid hf0
  have n_st : Hid (¬ st ≤ 1) := Lib.hid (by omega)
  have h2s := h2
  clear h2
  have HP := Lib.hid hp
  have HR0 := Lib.hid hr0
  have hlt : B < w.heap.size := k.lt
  go_enter Try.func35, Try.ntmps35
  go_upto_region 1 with fail
  obtain ⟨W0, hW0⟩ : ∃ W0, W0 = w.alloc (.cells #[.int .u32 (maskN c.nb.toNat), .int .u16 c.hi, .int .u8 c.op, .int .u8 1, .int .u32 c.dd, .int .u32 0, .int .u32 0, .slice (some ⟨G, 0, none⟩) 1 gc] 90) := ⟨_, rfl⟩
  have A0 : Hid (Blk W0 w.heap.size 90 #[.int .u32 (maskN c.nb.toNat), .int .u16 c.hi, .int .u8 c.op, .int .u8 1, .int .u32 c.dd, .int .u32 0, .int .u32 0, .slice (some ⟨G, 0, none⟩) 1 gc]) := Lib.hid (by rw [hW0]; exact Blk.new w _ _)
  have B0 : Hid (Below w.heap.size w W0) := Lib.hid (by rw [hW0]; exact (Below.refl _ w).alloc (Nat.le_refl _) _)
  have h00 : w.heap.size < W0.heap.size := A0.out.lt
  rw [← hW0]
  clear hW0
  have r0 : W0.cell? ⟨w.heap.size, 0, none⟩ = some (.int .u32 (maskN c.nb.toNat)) := A0.out.cell 0
  have r1 : W0.cell? ⟨w.heap.size, 1, none⟩ = some (.int .u16 c.hi) := A0.out.cell 1
  have r2 : W0.cell? ⟨w.heap.size, 2, none⟩ = some (.int .u8 c.op) := A0.out.cell 2
  have r3 : W0.cell? ⟨w.heap.size, 3, none⟩ = some (.int .u8 1) := A0.out.cell 3
  have r4 : W0.cell? ⟨w.heap.size, 4, none⟩ = some (.int .u32 c.dd) := A0.out.cell 4
  have r5 : W0.cell? ⟨w.heap.size, 5, none⟩ = some (.int .u32 0) := A0.out.cell 5
  have r6 : W0.cell? ⟨w.heap.size, 6, none⟩ = some (.int .u32 0) := A0.out.cell 6
  have r7 : W0.cell? ⟨w.heap.size, 7, none⟩ = some (.slice (some ⟨G, 0, none⟩) 1 gc) := A0.out.cell 7
  have K0 := Lib.hid (K.out.below B0.out hlt)
  clear k hok hnet hdm g hf0 hp hr0
  have G0 := Lib.hid (HG.out.below B0.out HG.out.lt)
  have F0 := Lib.hid (LFr.of_below (lo := lo) B0.out)
  go_wp2_with (go_at_call 67; refine (none_lk _ _ _ K0.out rfl).mono ?_; rintro e w' ⟨rfl, rfl⟩)
  have hfn : ∀ W, Below W0.heap.size W0 W → Calls Try.prog 71 #[.pointer (some ⟨B, 0, none⟩), .int .u32 f, .int .u32 r] W fun e w' => e = .returned (.int .i64 (-1)) ∧ w' = W := fun W hW => (findl_nil W B c st dr bd wt nx po re f r (K0.out.below hW K0.out.lt)).mono fun e w' hh => by
    rcases hh with ⟨h1, ⟨h2, _⟩ | ⟨k, x, _, h3, _⟩⟩
    · exact ⟨h2, h1⟩
    · simp at h3
  refine (may_up _ B c st dr bd wt nx po re f r 1 0 0 _ none 0 0 (-1) K0.out (by have := n_st.out; omega) hfn hn0 hn1 HNet.out).mono ?_
  rintro e w1 ⟨code, rfl, hc, hb1⟩
  obtain rfl : code = 0 := hc.2 (by rw [HOk.out]; simp [mB7, mB8, HP.out])
  have HFn := Lib.hid hfn
  have HB1 := Lib.hid hb1
  have K1 := Lib.hid (K0.out.below hb1 K0.out.lt)
  have A1 := Lib.hid (A0.out.below hb1 A0.out.lt)
  have G1 := Lib.hid (G0.out.below hb1 G0.out.lt)
  have F1 := Lib.hid (F0.out.trans (LFr.of_below hb1))
  have h01 : w.heap.size < w1.heap.size := A1.out.lt
  clear hb1 hc hfn
  clear r0 r1 r2 r3 r4 r5 r6 r7
  go_wp2_with (go_at_call 71; refine (HFn.out _ HB1.out).mono ?_; rintro e w' ⟨rfl, hw⟩; obtain rfl := hw.symm)
  refine (put_up lo _ B c st dr bd wt nx po re f hlo K1.out).mono ?_
  obtain ⟨i, hi⟩ : ∃ i : Nat, i = 0 := ⟨_, rfl⟩
  rintro e w2 ⟨he, hf2, L, cap, K0', hl2⟩
  have he2 : e = .returned (.int .i64 (i : Int)) := by rw [hi]; exact he
  subst he2
  obtain ⟨xs, hxs⟩ : ∃ xs : List (Nat × Kn), xs = [(K0', zeroKn)] := ⟨_, rfl⟩
  obtain ⟨x, hx0⟩ : ∃ x : Nat × Kn, x = (K0', zeroKn) := ⟨_, rfl⟩
  rw [← hxs] at hl2
  have HX : Hid (xs[i]? = some x) := Lib.hid (by rw [hxs, hi, hx0]; rfl)
  have HXs := Lib.hid hxs
  have HI := Lib.hid hi
  have HFu : Hid (x.2.fu = false) := Lib.hid (by rw [hx0]; rfl)
  have HRo : Hid (x.2.ro ≠ r) := Lib.hid (by rw [hx0]; exact fun e => HR0.out e.symm)
  have HSt : Hid (x.2.st ≠ 3) := Lib.hid (by rw [hx0]; show (0 : Int) ≠ 3; decide)
  have HLen : Hid (xs.length ≤ 60000) := Lib.hid (by rw [hxs]; simp)
  have H2 := Lib.hid hl2
  have F2 := Lib.hid (F1.out.trans hf2)
  have A2 := Lib.hid (hf2.blk A1.out (by decide) (by decide) (by decide))
  have G2 := Lib.hid (hf2.blk G1.out (by decide) (by decide) (by decide))
  clear hl2 hf2 he hx0 hxs hi
  have hxi : i < xs.length := (List.getElem?_eq_some_iff.1 HX.out).1
  have hxm : x ∈ xs := List.mem_of_getElem? HX.out
  have hlx := (H2.out.k x hxm).1.lt
  have h0W : w.heap.size < w2.heap.size := A2.out.lt
  have y22 : w2.cell? ⟨B, 22, none⟩ = some (.slice (some ⟨L, 0, none⟩) xs.length cap) := H2.out.b.cell 22
  have l0 : w2.cell? ⟨L, i, none⟩ = some (.pointer (some ⟨x.1, 0, none⟩)) := H2.out.r i x HX.out
  have o0 : w2.cell? ⟨x.1, 0, none⟩ = some (.int .u32 x.2.ro) := (H2.out.k x hxm).1.cell 0
  have o1 : w2.cell? ⟨x.1, 1, none⟩ = some (.int .u32 x.2.ad) := (H2.out.k x hxm).1.cell 1
  have o2 : w2.cell? ⟨x.1, 2, none⟩ = some (.int .u8 x.2.st) := (H2.out.k x hxm).1.cell 2
  have o3 : w2.cell? ⟨x.1, 3, none⟩ = some (.int .u8 x.2.pr) := (H2.out.k x hxm).1.cell 3
  have o4 : w2.cell? ⟨x.1, 4, none⟩ = some (.int .u32 x.2.dr) := (H2.out.k x hxm).1.cell 4
  have o5 : w2.cell? ⟨x.1, 5, none⟩ = some (.int .u32 x.2.bd) := (H2.out.k x hxm).1.cell 5
  have o6 : w2.cell? ⟨x.1, 6, none⟩ = some (.int .u8 x.2.op) := (H2.out.k x hxm).1.cell 6
  have o7 : w2.cell? ⟨x.1, 7, none⟩ = some (.int .u32 x.2.lf) := (H2.out.k x hxm).1.cell 7
  have o8 : w2.cell? ⟨x.1, 8, none⟩ = some (.bool x.2.wa) := (H2.out.k x hxm).1.cell 8
  have o9 : w2.cell? ⟨x.1, 9, none⟩ = some (.bool x.2.fu) := (H2.out.k x hxm).1.cell 9
  go_upto_region 10 with fail
  obtain ⟨OB, hOB⟩ : ∃ OB, OB = w2.heap.size := ⟨_, rfl⟩
  obtain ⟨W3, hW3⟩ : ∃ W3, W3 = w2.alloc (.cells #[.int .u32 x.2.ro, .int .u32 x.2.ad, .int .u8 x.2.st, .int .u8 x.2.pr, .int .u32 x.2.dr, .int .u32 x.2.bd, .int .u8 x.2.op, .int .u32 x.2.lf, .bool x.2.wa, .bool x.2.fu] 139) := ⟨_, rfl⟩
  have hb3 : Below w2.heap.size w2 W3 := by rw [hW3]; exact (Below.refl _ w2).alloc (Nat.le_refl _) _
  have H3 := Lib.hid (H2.out.below hb3)
  have A3 := Lib.hid (A2.out.below hb3 A2.out.lt)
  have O3 : Hid (Blk W3 OB 139 #[.int .u32 x.2.ro, .int .u32 x.2.ad, .int .u8 x.2.st, .int .u8 x.2.pr, .int .u32 x.2.dr, .int .u32 x.2.bd, .int .u8 x.2.op, .int .u32 x.2.lf, .bool x.2.wa, .bool x.2.fu]) := Lib.hid (by rw [hW3, hOB]; exact Blk.new _ _ _)
  have F3 := Lib.hid (F2.out.trans (LFr.of_below hb3))
  have G3 := Lib.hid (G2.out.below hb3 G2.out.lt)
  rw [← hW3, ← hOB]
  have h23 : OB < W3.heap.size := O3.out.lt
  have h0O : w.heap.size < OB := by omega
  obtain ⟨cur, hLc⟩ := H3.out.lc
  have KL3 := Lib.hid hLc
  clear hLc hW3 hb3 hOB y22 l0 o0 o1 o2 o3 o4 o5 o6 o7 o8 o9 hlx
  have y8 : W3.cell? ⟨B, 8, none⟩ = some (.int .u32 c.dd) := H3.out.b.cell 8
  have r2 : W3.cell? ⟨w.heap.size, 2, none⟩ = some (.int .u8 c.op) := A3.out.cell 2
  have r3 : W3.cell? ⟨w.heap.size, 3, none⟩ = some (.int .u8 1) := A3.out.cell 3
  have r5 : W3.cell? ⟨w.heap.size, 5, none⟩ = some (.int .u32 0) := A3.out.cell 5
  have r6 : W3.cell? ⟨w.heap.size, 6, none⟩ = some (.int .u32 0) := A3.out.cell 6
  refine wp_region_drawn_tail 17 (by kernel_rfl) (by kernel_rfl) ?_
  simp only [List.take_succ_cons, List.take_zero, List.drop_succ_cons, List.drop_zero]
  repeat (go_big_quiet_step (fail))
  refine wpQuiet_nil ?_
  rintro wq ⟨q, rfl⟩
  go_upto_region 11 with fail
  obtain ⟨KN, hKN⟩ : ∃ KN, KN = W3.heap.size := ⟨_, rfl⟩
  obtain ⟨W4, hW4⟩ : ∃ W4, W4 = (W3.drewN q).alloc (.cells #[.int .u32 r, .int .u32 f, .int .u8 2, .int .u8 1, .int .u32 0, .int .u32 0, .int .u8 c.op, .int .u32 c.dd, .bool false, .bool false] 139) := ⟨_, rfl⟩
  have hb4 : Below W3.heap.size W3 W4 := by rw [hW4]; exact (drewB W3 q).alloc (Nat.le_refl _) _
  have H4 := Lib.hid (H3.out.below hb4)
  have A4 := Lib.hid (A3.out.below hb4 A3.out.lt)
  have O4 := Lib.hid (O3.out.below hb4 O3.out.lt)
  have G4 := Lib.hid (G3.out.below hb4 G3.out.lt)
  have N4 : Hid (Blk W4 KN 139 #[.int .u32 r, .int .u32 f, .int .u8 2, .int .u8 1, .int .u32 0, .int .u32 0, .int .u8 c.op, .int .u32 c.dd, .bool false, .bool false]) := Lib.hid (by rw [hW4, hKN]; exact Blk.new (W3.drewN q) _ _)
  have hb4s := hb4
  have BB4 := Lib.hid hb4
  have E4 := Lib.hid (Frame.of_below (S := fun j => j = L) hb4s)
  have hK3 : Hid (W3.heap.size ≤ KN) := Lib.hid (by omega)
  have hKw : OB < KN := by omega
  rw [← hW4, ← hKN]
  clear hW4 hKN y8 r2 r3 r5 r6 hb4 hb4s
  have KL4 := Lib.hid (KL3.out.below BB4.out KL3.out.lt)
  have h7 : W4.cell? ⟨w.heap.size, 7, none⟩ = some (.slice (some ⟨G, 0, none⟩) 1 gc) := A4.out.cell 7
  have g4 : W4.cell? ⟨G, 0, none⟩ = some (.int .u32 c.ro) := G4.out.cell 0
  have y1 : W4.cell? ⟨B, 1, none⟩ = some (.int .u8 c.ty) := H4.out.b.cell 1
  have y2 : W4.cell? ⟨B, 2, none⟩ = some (.int .u32 c.ro) := H4.out.b.cell 2
  have y22 : W4.cell? ⟨B, 22, none⟩ = some (.slice (some ⟨L, 0, none⟩) xs.length cap) := H4.out.b.cell 22
  have l0 : W4.cell? ⟨L, i, none⟩ = some (.pointer (some ⟨x.1, 0, none⟩)) := H4.out.r i x HX.out
  have fL := KL4.out.frozen i
  have n2 : W4.cell? ⟨KN, 2, none⟩ = some (.int .u8 2) := N4.out.cell 2
  have n9 : W4.cell? ⟨KN, 9, none⟩ = some (.bool false) := N4.out.cell 9
  have fN := N4.out.frozen
  have o0 : W4.cell? ⟨OB, 0, none⟩ = some (.int .u32 x.2.ro) := O4.out.cell 0
  have o1 : W4.cell? ⟨OB, 1, none⟩ = some (.int .u32 x.2.ad) := O4.out.cell 1
  have o2 : W4.cell? ⟨OB, 2, none⟩ = some (.int .u8 x.2.st) := O4.out.cell 2
  have o3 : W4.cell? ⟨OB, 3, none⟩ = some (.int .u8 x.2.pr) := O4.out.cell 3
  have o4 : W4.cell? ⟨OB, 4, none⟩ = some (.int .u32 x.2.dr) := O4.out.cell 4
  have o5 : W4.cell? ⟨OB, 5, none⟩ = some (.int .u32 x.2.bd) := O4.out.cell 5
  have o6 : W4.cell? ⟨OB, 6, none⟩ = some (.int .u8 x.2.op) := O4.out.cell 6
  have o7 : W4.cell? ⟨OB, 7, none⟩ = some (.int .u32 x.2.lf) := O4.out.cell 7
  have o8 : W4.cell? ⟨OB, 8, none⟩ = some (.bool x.2.wa) := O4.out.cell 8
  have o9 : W4.cell? ⟨OB, 9, none⟩ = some (.bool x.2.fu) := O4.out.cell 9
  have e_fu := HFu.out
  rw [e_fu] at o9
  have e_ro : (x.2.ro == r) = false := by simpa using HRo.out
  have hLB : L ≠ B := KL4.out.ne_ H4.out.b (by decide)
  have hLl : L < W3.heap.size := KL3.out.lt
  have hKs := hK3.out
  have z1 : B ≠ KN := by have := H3.out.b.lt; omega
  have z2 : L ≠ KN := by omega
  have z3 : OB ≠ KN := by omega
  have z5 : OB ≠ L := O4.out.ne_ KL4.out (by decide)
  go_wp2_with fail
  refine wp_loop_rounds 2 ?_
  rw [rounds_succ]
  go_wp2_with fail
  rw [rounds_succ]
  go_wp2_with fail
  obtain ⟨W5, hW5⟩ : ∃ W5, W5 = ((W4.setCell ⟨KN, 2, none⟩ (.int .u8 3)).setCell ⟨KN, 9, none⟩ (.bool false)).setCell ⟨L, i, none⟩ (.pointer (some ⟨KN, 0, none⟩)) := ⟨_, rfl⟩
  have KL5 : Hid (Blk W5 L 137 (cur.setIfInBounds i (.pointer (some ⟨KN, 0, none⟩)))) := Lib.hid (by rw [hW5]; exact ((KL4.out.far (by simpa using z2) _).far (by simpa using z2) _).set_ i _)
  have N5 : Hid (Blk W5 KN 139 (newK c f r).cells) := Lib.hid (by rw [hW5]; exact ((N4.out.set_ 2 _).set_ 9 _).far (by simpa using fun e => z2 e.symm) _)
  have z6 : w.heap.size ≠ KN := by omega
  have z7 : w.heap.size ≠ L := A4.out.ne_ KL4.out (by decide)
  have A5 : Hid (Blk W5 w.heap.size 90 #[.int .u32 (maskN c.nb.toNat), .int .u16 c.hi, .int .u8 c.op, .int .u8 1, .int .u32 c.dd, .int .u32 0, .int .u32 0, .slice (some ⟨G, 0, none⟩) 1 gc]) := Lib.hid (by rw [hW5]; exact ((A4.out.far (by simpa using z6) _).far (by simpa using z6) _).far (by simpa using z7) _)
  have E5 : Frame (fun j => j = L) W3 W5 := by rw [hW5]; exact ((E4.out.setCell (p := ⟨KN, 2, none⟩) (fun h => by simp at h; omega) _).setCell (p := ⟨KN, 9, none⟩) (fun h => by simp at h; omega) _).setB i _
  have hin : i < cur.size := by
    have := (KL4.out.cell i).symm.trans l0
    exact (Array.getElem?_eq_some_iff.1 this).1
  have hstep := lose_step (k := newK c f r) H3.out hxi hK3.out N5.out ⟨_, KL5.out⟩ (by rw [KL5.out.cell i]; simp [hin]) (fun j hj => by rw [KL5.out.cell j, KL3.out.cell j, Array.getElem?_setIfInBounds_ne (Ne.symm hj)]) E5
  have H5 := Lib.hid hstep.1
  have F5 := Lib.hid (F3.out.trans hstep.2)
  rw [← hW5]
  clear hW5 hstep E5 h7 g4 y1 y2 y22 l0 fL n2 n9 fN o0 o1 o2 o3 o4 o5 o6 o7 o8 o9 e_fu e_ro z1 z2 z3 z5 z6 z7
  have hm5 : (KN, newK c f r) ∈ xs.set i (KN, newK c f r) := List.mem_of_getElem? (List.getElem?_set_self hxi)
  have hl5 : (xs.set i (KN, newK c f r)).length ≤ 60000 := by rw [List.length_set]; exact HLen.out
  have hcall : Calls Try.prog 73 #[.pointer (some ⟨B, 0, none⟩), .agg #[.int .u32 x.2.ro, .int .u32 x.2.ad, .int .u8 x.2.st, .int .u8 x.2.pr, .int .u32 x.2.dr, .int .u32 x.2.bd, .int .u8 x.2.op, .int .u32 x.2.lf, .bool x.2.wa, .bool x.2.fu], .pointer (some ⟨KN, 0, none⟩), .bool false] W5 fun e w' => HeardPost lo B c st wt nx po re L cap (xs.set i (KN, newK c f r)) W5 e w' := heard_new lo W5 B c st dr bd wt nx po re L cap _ hl5 H5.out x.2 HSt.out (KN, newK c f r) hm5 rfl rfl rfl HF0.out false
  rw [HFu.out] at hcall
  refine hcall.mono ?_
  rintro e w6 ⟨rfl, hf6, st', dr', bd', ks, hks, hge, hl6⟩
  have H6 := Lib.hid hl6
  have F6 := Lib.hid (F5.out.trans hf6)
  have A6 := Lib.hid (hf6.blk A5.out (by decide) (by decide) (by decide))
  have hlm : (mapK ks (xs.set i (KN, newK c f r))).length ≤ 100000 := by rw [mapK_len']; omega
  have hfin : ∀ (W : World) (a : Option Addr) (n k : Nat), LFr lo w W → LinkOn lo W B c st' dr' bd' wt nx po re L cap (mapK ks (xs.set i (KN, newK c f r))) → HearPutPost lo B c f r wt nx po re w (.returned (.tuple #[.slice a n k, .int .i64 0])) W := fun W a n k h1 h2 => by
    have hset : xs.set i (KN, newK c f r) = [(KN, newK c f r)] := by rw [HXs.out, HI.out]; rfl
    rw [hset] at h2 hks
    exact ⟨⟨a, n, k, rfl⟩, h1, L, cap, KN, st', dr', bd', ks, hks, hge h2s, h2⟩
  have HFin := Lib.hid hfin
  have y1 : w6.cell? ⟨B, 1, none⟩ = some (.int .u8 c.ty) := H6.out.b.cell 1
  have y10 : w6.cell? ⟨B, 10, none⟩ = some (.int .u8 c.pr) := H6.out.b.cell 10
  have y16 : w6.cell? ⟨B, 16, none⟩ = some (.int .u32 dr') := H6.out.b.cell 16
  have y17 : w6.cell? ⟨B, 17, none⟩ = some (.int .u32 bd') := H6.out.b.cell 17
  have r3 : w6.cell? ⟨w.heap.size, 3, none⟩ = some (.int .u8 1) := A6.out.cell 3
  clear hks hge hl6 hf6 hfin hm5 hl5
  rcases Bool.eq_false_or_eq_true (c.ty == 1) with e_t | e_t
  · rcases Bool.eq_false_or_eq_true (c.pr == 0) with e_p | e_p
    · rcases Bool.eq_false_or_eq_true (f != dr') with e_d | e_d
      · rcases Bool.eq_false_or_eq_true (f != bd') with e_b | e_b
        · go_wp2_with fail
          refine (hello_gen_f w6 B c st' dr' bd' wt nx po re hn0 hn1 HDm.out L cap _ hlm H6.out.row H6.out.b).mono ?_
          rintro e w7 ⟨ha, hn, hk, rfl, _, hb7⟩
          unfold helloW
          have H7 := Lib.hid (H6.out.below hb7)
          have F7 := Lib.hid (F6.out.trans (LFr.of_below hb7))
          clear hb7
          go_wp2_with fail
          exact bodyPost_ret (v := .tuple #[.slice (some ⟨w7.heap.size, 0, none⟩) 1 1, .int .i64 0]) (by simp [results, Try.results35, go_sem]) rfl (HFin.out _ _ _ _ (F7.out.trans (LFr.of_below ((Below.refl _ _).alloc (Nat.le_refl _) _))) (H7.out.below ((Below.refl _ _).alloc (Nat.le_refl _) _)))
        · go_wp2_with fail
          exact bodyPost_ret (v := .tuple #[.slice none 0 0, .int .i64 0]) (by simp [results, Try.results35, go_sem]) rfl (HFin.out _ _ _ _ F6.out H6.out)
      · go_wp2_with fail
        exact bodyPost_ret (v := .tuple #[.slice none 0 0, .int .i64 0]) (by simp [results, Try.results35, go_sem]) rfl (HFin.out _ _ _ _ F6.out H6.out)
    · go_wp2_with fail
      exact bodyPost_ret (v := .tuple #[.slice none 0 0, .int .i64 0]) (by simp [results, Try.results35, go_sem]) rfl (HFin.out _ _ _ _ F6.out H6.out)
  · go_wp2_with fail
    exact bodyPost_ret (v := .tuple #[.slice none 0 0, .int .i64 0]) (by simp [results, Try.results35, go_sem]) rfl (HFin.out _ _ _ _ F6.out H6.out)

set_option maxHeartbeats 8000000 in
set_option maxRecDepth 40000 in
theorem hear_find0 (lo : Nat) (w : World) (B : Nat) (c : LC) (st dr bd wt nx po re : Int) (f r : Int) (G gc : Nat) (L cap : Nat) (xs : List (Nat × Kn)) (i : Nat) (x : Nat × Kn) (h : LinkOn lo w B c st dr bd wt nx po re L cap xs) (hx : xs[i]? = some x) (hlen : xs.length ≤ 60000) (h2 : 2 ≤ st) (hdm : c.dm = false) (hn0 : 0 ≤ c.nb) (hn1 : c.nb ≤ 32) (hnet : bits .and .u32 c.na (maskN c.nb.toNat) = c.na) (hf0 : f ≠ 0) (g : Blk w G 25 #[.int .u32 c.ro])
    (hfind : ∀ W, Below w.heap.size w W → Calls Try.prog 71 #[.pointer (some ⟨B, 0, none⟩), .int .u32 f, .int .u32 r] W fun e w' => e = .returned (.int .i64 (i : Int)) ∧ w' = W) (hok : (mB4 c f r || mB5 c f || mB6 c r) = false)
    (hfu : x.2.fu = false) (hro : x.2.ro ≠ r) (hst : x.2.st ≠ 3) :
    Calls Try.prog 35 #[.pointer (some ⟨B, 0, none⟩), .int .u32 f, .int .u32 r, .agg #[.int .u32 (maskN c.nb.toNat), .int .u16 c.hi, .int .u8 c.op, .int .u8 1, .int .u32 c.dd, .int .u32 0, .int .u32 0, .slice (some ⟨G, 0, none⟩) 1 gc]] w fun e w' => HearOnPost lo B c f r wt nx po re L cap xs i w e w' := by
  have H := Lib.hid h
  have HX := Lib.hid hx
  have HFind := Lib.hid hfind
  have HOk := Lib.hid hok
  have HNet := Lib.hid hnet
  have HDm := Lib.hid hdm
  have HG := Lib.hid g
  have HF0 := Lib.hid hf0
  have n_st : Hid (¬ st ≤ 1) := Lib.hid (by omega)
  have h2s := h2
  clear h2
  have HFu := Lib.hid hfu
  have HRo := Lib.hid hro
  have HSt := Lib.hid hst
  have HLen := Lib.hid hlen
  have hlt : B < w.heap.size := h.b.lt
  go_enter Try.func35, Try.ntmps35
  go_upto_region 1 with fail
  obtain ⟨W0, hW0⟩ : ∃ W0, W0 = w.alloc (.cells #[.int .u32 (maskN c.nb.toNat), .int .u16 c.hi, .int .u8 c.op, .int .u8 1, .int .u32 c.dd, .int .u32 0, .int .u32 0, .slice (some ⟨G, 0, none⟩) 1 gc] 90) := ⟨_, rfl⟩
  have A0 : Hid (Blk W0 w.heap.size 90 #[.int .u32 (maskN c.nb.toNat), .int .u16 c.hi, .int .u8 c.op, .int .u8 1, .int .u32 c.dd, .int .u32 0, .int .u32 0, .slice (some ⟨G, 0, none⟩) 1 gc]) := Lib.hid (by rw [hW0]; exact Blk.new w _ _)
  have B0 : Hid (Below w.heap.size w W0) := Lib.hid (by rw [hW0]; exact (Below.refl _ w).alloc (Nat.le_refl _) _)
  have h00 : w.heap.size < W0.heap.size := A0.out.lt
  rw [← hW0]
  clear hW0
  have r0 : W0.cell? ⟨w.heap.size, 0, none⟩ = some (.int .u32 (maskN c.nb.toNat)) := A0.out.cell 0
  have r1 : W0.cell? ⟨w.heap.size, 1, none⟩ = some (.int .u16 c.hi) := A0.out.cell 1
  have r2 : W0.cell? ⟨w.heap.size, 2, none⟩ = some (.int .u8 c.op) := A0.out.cell 2
  have r3 : W0.cell? ⟨w.heap.size, 3, none⟩ = some (.int .u8 1) := A0.out.cell 3
  have r4 : W0.cell? ⟨w.heap.size, 4, none⟩ = some (.int .u32 c.dd) := A0.out.cell 4
  have r5 : W0.cell? ⟨w.heap.size, 5, none⟩ = some (.int .u32 0) := A0.out.cell 5
  have r6 : W0.cell? ⟨w.heap.size, 6, none⟩ = some (.int .u32 0) := A0.out.cell 6
  have r7 : W0.cell? ⟨w.heap.size, 7, none⟩ = some (.slice (some ⟨G, 0, none⟩) 1 gc) := A0.out.cell 7
  have H0 := Lib.hid (H.out.below B0.out)
  clear h hx hfind hok hnet hdm g hf0 hfu hro hst hlen
  have G0 := Lib.hid (HG.out.below B0.out HG.out.lt)
  have F0 := Lib.hid (LFr.of_below (lo := lo) B0.out)
  go_wp2_with (go_at_call 67; refine (none_lk _ _ _ H0.out.b rfl).mono ?_; rintro e w' ⟨rfl, rfl⟩)
  have hfn : ∀ W, Below W0.heap.size W0 W → Calls Try.prog 71 #[.pointer (some ⟨B, 0, none⟩), .int .u32 f, .int .u32 r] W fun e w' => e = .returned (.int .i64 (i : Int)) ∧ w' = W := fun W hW => HFind.out W (B0.out.trans (hW.mono B0.out.size))
  have n_i : ¬ (i : Int) < 0 := by omega
  refine (may_up _ B c st dr bd wt nx po re f r 1 0 0 _ (some ⟨L, 0, none⟩) xs.length cap (i : Int) H0.out.b (by have := n_st.out; omega) hfn hn0 hn1 HNet.out).mono ?_
  rintro e w1 ⟨code, rfl, hc, hb1⟩
  obtain rfl : code = 0 := hc.2 (by rw [HOk.out]; simp [mB7, mB8, n_i])
  have HFn := Lib.hid hfn
  have HB1 := Lib.hid hb1
  have H1 := Lib.hid (H0.out.below hb1)
  have A1 := Lib.hid (A0.out.below hb1 A0.out.lt)
  have G1 := Lib.hid (G0.out.below hb1 G0.out.lt)
  have F1 := Lib.hid (F0.out.trans (LFr.of_below hb1))
  have h01 : w.heap.size < w1.heap.size := A1.out.lt
  clear hb1 hc hfn
  clear r0 r1 r2 r3 r4 r5 r6 r7
  have H2 := H1
  have F2 := F1
  have A2 := A1
  have G2 := G1
  have hxi : i < xs.length := (List.getElem?_eq_some_iff.1 HX.out).1
  have hxm : x ∈ xs := List.mem_of_getElem? HX.out
  have hlx := (H2.out.k x hxm).1.lt
  have h0W : w.heap.size < w1.heap.size := A2.out.lt
  have y22 : w1.cell? ⟨B, 22, none⟩ = some (.slice (some ⟨L, 0, none⟩) xs.length cap) := H2.out.b.cell 22
  have l0 : w1.cell? ⟨L, i, none⟩ = some (.pointer (some ⟨x.1, 0, none⟩)) := H2.out.r i x HX.out
  have o0 : w1.cell? ⟨x.1, 0, none⟩ = some (.int .u32 x.2.ro) := (H2.out.k x hxm).1.cell 0
  have o1 : w1.cell? ⟨x.1, 1, none⟩ = some (.int .u32 x.2.ad) := (H2.out.k x hxm).1.cell 1
  have o2 : w1.cell? ⟨x.1, 2, none⟩ = some (.int .u8 x.2.st) := (H2.out.k x hxm).1.cell 2
  have o3 : w1.cell? ⟨x.1, 3, none⟩ = some (.int .u8 x.2.pr) := (H2.out.k x hxm).1.cell 3
  have o4 : w1.cell? ⟨x.1, 4, none⟩ = some (.int .u32 x.2.dr) := (H2.out.k x hxm).1.cell 4
  have o5 : w1.cell? ⟨x.1, 5, none⟩ = some (.int .u32 x.2.bd) := (H2.out.k x hxm).1.cell 5
  have o6 : w1.cell? ⟨x.1, 6, none⟩ = some (.int .u8 x.2.op) := (H2.out.k x hxm).1.cell 6
  have o7 : w1.cell? ⟨x.1, 7, none⟩ = some (.int .u32 x.2.lf) := (H2.out.k x hxm).1.cell 7
  have o8 : w1.cell? ⟨x.1, 8, none⟩ = some (.bool x.2.wa) := (H2.out.k x hxm).1.cell 8
  have o9 : w1.cell? ⟨x.1, 9, none⟩ = some (.bool x.2.fu) := (H2.out.k x hxm).1.cell 9
  go_upto_region 10 with (go_at_call 71; refine (HFn.out _ HB1.out).mono ?_; rintro e w' ⟨rfl, hw⟩; obtain rfl := hw.symm)
  obtain ⟨OB, hOB⟩ : ∃ OB, OB = w1.heap.size := ⟨_, rfl⟩
  obtain ⟨W3, hW3⟩ : ∃ W3, W3 = w1.alloc (.cells #[.int .u32 x.2.ro, .int .u32 x.2.ad, .int .u8 x.2.st, .int .u8 x.2.pr, .int .u32 x.2.dr, .int .u32 x.2.bd, .int .u8 x.2.op, .int .u32 x.2.lf, .bool x.2.wa, .bool x.2.fu] 139) := ⟨_, rfl⟩
  have hb3 : Below w1.heap.size w1 W3 := by rw [hW3]; exact (Below.refl _ w1).alloc (Nat.le_refl _) _
  have H3 := Lib.hid (H2.out.below hb3)
  have A3 := Lib.hid (A2.out.below hb3 A2.out.lt)
  have O3 : Hid (Blk W3 OB 139 #[.int .u32 x.2.ro, .int .u32 x.2.ad, .int .u8 x.2.st, .int .u8 x.2.pr, .int .u32 x.2.dr, .int .u32 x.2.bd, .int .u8 x.2.op, .int .u32 x.2.lf, .bool x.2.wa, .bool x.2.fu]) := Lib.hid (by rw [hW3, hOB]; exact Blk.new _ _ _)
  have F3 := Lib.hid (F2.out.trans (LFr.of_below hb3))
  have G3 := Lib.hid (G2.out.below hb3 G2.out.lt)
  rw [← hW3, ← hOB]
  have h23 : OB < W3.heap.size := O3.out.lt
  have h0O : w.heap.size < OB := by omega
  obtain ⟨cur, hLc⟩ := H3.out.lc
  have KL3 := Lib.hid hLc
  clear hLc hW3 hb3 hOB y22 l0 o0 o1 o2 o3 o4 o5 o6 o7 o8 o9 hlx
  have y8 : W3.cell? ⟨B, 8, none⟩ = some (.int .u32 c.dd) := H3.out.b.cell 8
  have r2 : W3.cell? ⟨w.heap.size, 2, none⟩ = some (.int .u8 c.op) := A3.out.cell 2
  have r3 : W3.cell? ⟨w.heap.size, 3, none⟩ = some (.int .u8 1) := A3.out.cell 3
  have r5 : W3.cell? ⟨w.heap.size, 5, none⟩ = some (.int .u32 0) := A3.out.cell 5
  have r6 : W3.cell? ⟨w.heap.size, 6, none⟩ = some (.int .u32 0) := A3.out.cell 6
  refine wp_region_drawn_tail 17 (by kernel_rfl) (by kernel_rfl) ?_
  simp only [List.take_succ_cons, List.take_zero, List.drop_succ_cons, List.drop_zero]
  repeat (go_big_quiet_step (fail))
  refine wpQuiet_nil ?_
  rintro wq ⟨q, rfl⟩
  go_upto_region 11 with fail
  obtain ⟨KN, hKN⟩ : ∃ KN, KN = W3.heap.size := ⟨_, rfl⟩
  obtain ⟨W4, hW4⟩ : ∃ W4, W4 = (W3.drewN q).alloc (.cells #[.int .u32 r, .int .u32 f, .int .u8 2, .int .u8 1, .int .u32 0, .int .u32 0, .int .u8 c.op, .int .u32 c.dd, .bool false, .bool false] 139) := ⟨_, rfl⟩
  have hb4 : Below W3.heap.size W3 W4 := by rw [hW4]; exact (drewB W3 q).alloc (Nat.le_refl _) _
  have H4 := Lib.hid (H3.out.below hb4)
  have A4 := Lib.hid (A3.out.below hb4 A3.out.lt)
  have O4 := Lib.hid (O3.out.below hb4 O3.out.lt)
  have G4 := Lib.hid (G3.out.below hb4 G3.out.lt)
  have N4 : Hid (Blk W4 KN 139 #[.int .u32 r, .int .u32 f, .int .u8 2, .int .u8 1, .int .u32 0, .int .u32 0, .int .u8 c.op, .int .u32 c.dd, .bool false, .bool false]) := Lib.hid (by rw [hW4, hKN]; exact Blk.new (W3.drewN q) _ _)
  have hb4s := hb4
  have BB4 := Lib.hid hb4
  have E4 := Lib.hid (Frame.of_below (S := fun j => j = L) hb4s)
  have hK3 : Hid (W3.heap.size ≤ KN) := Lib.hid (by omega)
  have hKw : OB < KN := by omega
  rw [← hW4, ← hKN]
  clear hW4 hKN y8 r2 r3 r5 r6 hb4 hb4s
  have KL4 := Lib.hid (KL3.out.below BB4.out KL3.out.lt)
  have h7 : W4.cell? ⟨w.heap.size, 7, none⟩ = some (.slice (some ⟨G, 0, none⟩) 1 gc) := A4.out.cell 7
  have g4 : W4.cell? ⟨G, 0, none⟩ = some (.int .u32 c.ro) := G4.out.cell 0
  have y1 : W4.cell? ⟨B, 1, none⟩ = some (.int .u8 c.ty) := H4.out.b.cell 1
  have y2 : W4.cell? ⟨B, 2, none⟩ = some (.int .u32 c.ro) := H4.out.b.cell 2
  have y22 : W4.cell? ⟨B, 22, none⟩ = some (.slice (some ⟨L, 0, none⟩) xs.length cap) := H4.out.b.cell 22
  have l0 : W4.cell? ⟨L, i, none⟩ = some (.pointer (some ⟨x.1, 0, none⟩)) := H4.out.r i x HX.out
  have fL := KL4.out.frozen i
  have n2 : W4.cell? ⟨KN, 2, none⟩ = some (.int .u8 2) := N4.out.cell 2
  have n9 : W4.cell? ⟨KN, 9, none⟩ = some (.bool false) := N4.out.cell 9
  have fN := N4.out.frozen
  have o0 : W4.cell? ⟨OB, 0, none⟩ = some (.int .u32 x.2.ro) := O4.out.cell 0
  have o1 : W4.cell? ⟨OB, 1, none⟩ = some (.int .u32 x.2.ad) := O4.out.cell 1
  have o2 : W4.cell? ⟨OB, 2, none⟩ = some (.int .u8 x.2.st) := O4.out.cell 2
  have o3 : W4.cell? ⟨OB, 3, none⟩ = some (.int .u8 x.2.pr) := O4.out.cell 3
  have o4 : W4.cell? ⟨OB, 4, none⟩ = some (.int .u32 x.2.dr) := O4.out.cell 4
  have o5 : W4.cell? ⟨OB, 5, none⟩ = some (.int .u32 x.2.bd) := O4.out.cell 5
  have o6 : W4.cell? ⟨OB, 6, none⟩ = some (.int .u8 x.2.op) := O4.out.cell 6
  have o7 : W4.cell? ⟨OB, 7, none⟩ = some (.int .u32 x.2.lf) := O4.out.cell 7
  have o8 : W4.cell? ⟨OB, 8, none⟩ = some (.bool x.2.wa) := O4.out.cell 8
  have o9 : W4.cell? ⟨OB, 9, none⟩ = some (.bool x.2.fu) := O4.out.cell 9
  have e_fu := HFu.out
  rw [e_fu] at o9
  have e_ro : (x.2.ro == r) = false := by simpa using HRo.out
  have hLB : L ≠ B := KL4.out.ne_ H4.out.b (by decide)
  have hLl : L < W3.heap.size := KL3.out.lt
  have hKs := hK3.out
  have z1 : B ≠ KN := by have := H3.out.b.lt; omega
  have z2 : L ≠ KN := by omega
  have z3 : OB ≠ KN := by omega
  have z5 : OB ≠ L := O4.out.ne_ KL4.out (by decide)
  go_wp2_with fail
  refine wp_loop_rounds 2 ?_
  rw [rounds_succ]
  go_wp2_with fail
  rw [rounds_succ]
  go_wp2_with fail
  obtain ⟨W5, hW5⟩ : ∃ W5, W5 = ((W4.setCell ⟨KN, 2, none⟩ (.int .u8 3)).setCell ⟨KN, 9, none⟩ (.bool false)).setCell ⟨L, i, none⟩ (.pointer (some ⟨KN, 0, none⟩)) := ⟨_, rfl⟩
  have KL5 : Hid (Blk W5 L 137 (cur.setIfInBounds i (.pointer (some ⟨KN, 0, none⟩)))) := Lib.hid (by rw [hW5]; exact ((KL4.out.far (by simpa using z2) _).far (by simpa using z2) _).set_ i _)
  have N5 : Hid (Blk W5 KN 139 (newK c f r).cells) := Lib.hid (by rw [hW5]; exact ((N4.out.set_ 2 _).set_ 9 _).far (by simpa using fun e => z2 e.symm) _)
  have z6 : w.heap.size ≠ KN := by omega
  have z7 : w.heap.size ≠ L := A4.out.ne_ KL4.out (by decide)
  have A5 : Hid (Blk W5 w.heap.size 90 #[.int .u32 (maskN c.nb.toNat), .int .u16 c.hi, .int .u8 c.op, .int .u8 1, .int .u32 c.dd, .int .u32 0, .int .u32 0, .slice (some ⟨G, 0, none⟩) 1 gc]) := Lib.hid (by rw [hW5]; exact ((A4.out.far (by simpa using z6) _).far (by simpa using z6) _).far (by simpa using z7) _)
  have E5 : Frame (fun j => j = L) W3 W5 := by rw [hW5]; exact ((E4.out.setCell (p := ⟨KN, 2, none⟩) (fun h => by simp at h; omega) _).setCell (p := ⟨KN, 9, none⟩) (fun h => by simp at h; omega) _).setB i _
  have hin : i < cur.size := by
    have := (KL4.out.cell i).symm.trans l0
    exact (Array.getElem?_eq_some_iff.1 this).1
  have hstep := lose_step (k := newK c f r) H3.out hxi hK3.out N5.out ⟨_, KL5.out⟩ (by rw [KL5.out.cell i]; simp [hin]) (fun j hj => by rw [KL5.out.cell j, KL3.out.cell j, Array.getElem?_setIfInBounds_ne (Ne.symm hj)]) E5
  have H5 := Lib.hid hstep.1
  have F5 := Lib.hid (F3.out.trans hstep.2)
  rw [← hW5]
  clear hW5 hstep E5 h7 g4 y1 y2 y22 l0 fL n2 n9 fN o0 o1 o2 o3 o4 o5 o6 o7 o8 o9 e_fu e_ro z1 z2 z3 z5 z6 z7
  have hm5 : (KN, newK c f r) ∈ xs.set i (KN, newK c f r) := List.mem_of_getElem? (List.getElem?_set_self hxi)
  have hl5 : (xs.set i (KN, newK c f r)).length ≤ 60000 := by rw [List.length_set]; exact HLen.out
  have hcall : Calls Try.prog 73 #[.pointer (some ⟨B, 0, none⟩), .agg #[.int .u32 x.2.ro, .int .u32 x.2.ad, .int .u8 x.2.st, .int .u8 x.2.pr, .int .u32 x.2.dr, .int .u32 x.2.bd, .int .u8 x.2.op, .int .u32 x.2.lf, .bool x.2.wa, .bool x.2.fu], .pointer (some ⟨KN, 0, none⟩), .bool false] W5 fun e w' => HeardPost lo B c st wt nx po re L cap (xs.set i (KN, newK c f r)) W5 e w' := heard_new lo W5 B c st dr bd wt nx po re L cap _ hl5 H5.out x.2 HSt.out (KN, newK c f r) hm5 rfl rfl rfl HF0.out false
  rw [HFu.out] at hcall
  refine hcall.mono ?_
  rintro e w6 ⟨rfl, hf6, st', dr', bd', ks, hks, hge, hl6⟩
  have H6 := Lib.hid hl6
  have F6 := Lib.hid (F5.out.trans hf6)
  have A6 := Lib.hid (hf6.blk A5.out (by decide) (by decide) (by decide))
  have hlm : (mapK ks (xs.set i (KN, newK c f r))).length ≤ 100000 := by rw [mapK_len']; omega
  have hfin : ∀ (W : World) (a : Option Addr) (n k : Nat), LFr lo w W → LinkOn lo W B c st' dr' bd' wt nx po re L cap (mapK ks (xs.set i (KN, newK c f r))) → HearOnPost lo B c f r wt nx po re L cap xs i w (.returned (.tuple #[.slice a n k, .int .i64 0])) W := fun W a n k h1 h2 => by
    exact ⟨⟨a, n, k, rfl⟩, h1, KN, st', dr', bd', ks, hks, hge h2s, h2⟩
  have HFin := Lib.hid hfin
  have y1 : w6.cell? ⟨B, 1, none⟩ = some (.int .u8 c.ty) := H6.out.b.cell 1
  have y10 : w6.cell? ⟨B, 10, none⟩ = some (.int .u8 c.pr) := H6.out.b.cell 10
  have y16 : w6.cell? ⟨B, 16, none⟩ = some (.int .u32 dr') := H6.out.b.cell 16
  have y17 : w6.cell? ⟨B, 17, none⟩ = some (.int .u32 bd') := H6.out.b.cell 17
  have r3 : w6.cell? ⟨w.heap.size, 3, none⟩ = some (.int .u8 1) := A6.out.cell 3
  clear hks hge hl6 hf6 hfin hm5 hl5
  rcases Bool.eq_false_or_eq_true (c.ty == 1) with e_t | e_t
  · rcases Bool.eq_false_or_eq_true (c.pr == 0) with e_p | e_p
    · rcases Bool.eq_false_or_eq_true (f != dr') with e_d | e_d
      · rcases Bool.eq_false_or_eq_true (f != bd') with e_b | e_b
        · go_wp2_with fail
          refine (hello_gen_f w6 B c st' dr' bd' wt nx po re hn0 hn1 HDm.out L cap _ hlm H6.out.row H6.out.b).mono ?_
          rintro e w7 ⟨ha, hn, hk, rfl, _, hb7⟩
          unfold helloW
          have H7 := Lib.hid (H6.out.below hb7)
          have F7 := Lib.hid (F6.out.trans (LFr.of_below hb7))
          clear hb7
          go_wp2_with fail
          exact bodyPost_ret (v := .tuple #[.slice (some ⟨w7.heap.size, 0, none⟩) 1 1, .int .i64 0]) (by simp [results, Try.results35, go_sem]) rfl (HFin.out _ _ _ _ (F7.out.trans (LFr.of_below ((Below.refl _ _).alloc (Nat.le_refl _) _))) (H7.out.below ((Below.refl _ _).alloc (Nat.le_refl _) _)))
        · go_wp2_with fail
          exact bodyPost_ret (v := .tuple #[.slice none 0 0, .int .i64 0]) (by simp [results, Try.results35, go_sem]) rfl (HFin.out _ _ _ _ F6.out H6.out)
      · go_wp2_with fail
        exact bodyPost_ret (v := .tuple #[.slice none 0 0, .int .i64 0]) (by simp [results, Try.results35, go_sem]) rfl (HFin.out _ _ _ _ F6.out H6.out)
    · go_wp2_with fail
      exact bodyPost_ret (v := .tuple #[.slice none 0 0, .int .i64 0]) (by simp [results, Try.results35, go_sem]) rfl (HFin.out _ _ _ _ F6.out H6.out)
  · go_wp2_with fail
    exact bodyPost_ret (v := .tuple #[.slice none 0 0, .int .i64 0]) (by simp [results, Try.results35, go_sem]) rfl (HFin.out _ _ _ _ F6.out H6.out)

set_option maxHeartbeats 8000000 in
set_option maxRecDepth 40000 in
theorem hear_find1 (lo : Nat) (w : World) (B : Nat) (c : LC) (st dr bd wt nx po re : Int) (f r : Int) (G gc : Nat) (L cap : Nat) (xs : List (Nat × Kn)) (i : Nat) (x : Nat × Kn) (h : LinkOn lo w B c st dr bd wt nx po re L cap xs) (hx : xs[i]? = some x) (hlen : xs.length ≤ 60000) (h2 : 2 ≤ st) (hdm : c.dm = false) (hn0 : 0 ≤ c.nb) (hn1 : c.nb ≤ 32) (hnet : bits .and .u32 c.na (maskN c.nb.toNat) = c.na) (hf0 : f ≠ 0) (g : Blk w G 25 #[.int .u32 c.ro])
    (hfind : ∀ W, Below w.heap.size w W → Calls Try.prog 71 #[.pointer (some ⟨B, 0, none⟩), .int .u32 f, .int .u32 r] W fun e w' => e = .returned (.int .i64 (i : Int)) ∧ w' = W) (hok : (mB4 c f r || mB5 c f || mB6 c r) = false)
    (hfu : x.2.fu = false) (hro : x.2.ro = r) (hst : x.2.st = 3) (hpr : x.2.pr = 1) (hdr : x.2.dr = 0) (hbd : x.2.bd = 0) :
    Calls Try.prog 35 #[.pointer (some ⟨B, 0, none⟩), .int .u32 f, .int .u32 r, .agg #[.int .u32 (maskN c.nb.toNat), .int .u16 c.hi, .int .u8 c.op, .int .u8 1, .int .u32 c.dd, .int .u32 0, .int .u32 0, .slice (some ⟨G, 0, none⟩) 1 gc]] w fun e w' => HearOnPost lo B c f r wt nx po re L cap xs i w e w' := by
  have H := Lib.hid h
  have HX := Lib.hid hx
  have HFind := Lib.hid hfind
  have HOk := Lib.hid hok
  have HNet := Lib.hid hnet
  have HDm := Lib.hid hdm
  have HG := Lib.hid g
  have HF0 := Lib.hid hf0
  have n_st : Hid (¬ st ≤ 1) := Lib.hid (by omega)
  have h2s := h2
  clear h2
  have HFu := Lib.hid hfu
  have HRo := Lib.hid hro
  have HSt := Lib.hid hst
  have HLen := Lib.hid hlen
  have HPr := Lib.hid hpr
  have HDr := Lib.hid hdr
  have HBd := Lib.hid hbd
  have hlt : B < w.heap.size := h.b.lt
  go_enter Try.func35, Try.ntmps35
  go_upto_region 1 with fail
  obtain ⟨W0, hW0⟩ : ∃ W0, W0 = w.alloc (.cells #[.int .u32 (maskN c.nb.toNat), .int .u16 c.hi, .int .u8 c.op, .int .u8 1, .int .u32 c.dd, .int .u32 0, .int .u32 0, .slice (some ⟨G, 0, none⟩) 1 gc] 90) := ⟨_, rfl⟩
  have A0 : Hid (Blk W0 w.heap.size 90 #[.int .u32 (maskN c.nb.toNat), .int .u16 c.hi, .int .u8 c.op, .int .u8 1, .int .u32 c.dd, .int .u32 0, .int .u32 0, .slice (some ⟨G, 0, none⟩) 1 gc]) := Lib.hid (by rw [hW0]; exact Blk.new w _ _)
  have B0 : Hid (Below w.heap.size w W0) := Lib.hid (by rw [hW0]; exact (Below.refl _ w).alloc (Nat.le_refl _) _)
  have h00 : w.heap.size < W0.heap.size := A0.out.lt
  rw [← hW0]
  clear hW0
  have r0 : W0.cell? ⟨w.heap.size, 0, none⟩ = some (.int .u32 (maskN c.nb.toNat)) := A0.out.cell 0
  have r1 : W0.cell? ⟨w.heap.size, 1, none⟩ = some (.int .u16 c.hi) := A0.out.cell 1
  have r2 : W0.cell? ⟨w.heap.size, 2, none⟩ = some (.int .u8 c.op) := A0.out.cell 2
  have r3 : W0.cell? ⟨w.heap.size, 3, none⟩ = some (.int .u8 1) := A0.out.cell 3
  have r4 : W0.cell? ⟨w.heap.size, 4, none⟩ = some (.int .u32 c.dd) := A0.out.cell 4
  have r5 : W0.cell? ⟨w.heap.size, 5, none⟩ = some (.int .u32 0) := A0.out.cell 5
  have r6 : W0.cell? ⟨w.heap.size, 6, none⟩ = some (.int .u32 0) := A0.out.cell 6
  have r7 : W0.cell? ⟨w.heap.size, 7, none⟩ = some (.slice (some ⟨G, 0, none⟩) 1 gc) := A0.out.cell 7
  have H0 := Lib.hid (H.out.below B0.out)
  clear h hx hfind hok hnet hdm g hf0 hfu hro hst hlen hpr hdr hbd
  have G0 := Lib.hid (HG.out.below B0.out HG.out.lt)
  have F0 := Lib.hid (LFr.of_below (lo := lo) B0.out)
  go_wp2_with (go_at_call 67; refine (none_lk _ _ _ H0.out.b rfl).mono ?_; rintro e w' ⟨rfl, rfl⟩)
  have hfn : ∀ W, Below W0.heap.size W0 W → Calls Try.prog 71 #[.pointer (some ⟨B, 0, none⟩), .int .u32 f, .int .u32 r] W fun e w' => e = .returned (.int .i64 (i : Int)) ∧ w' = W := fun W hW => HFind.out W (B0.out.trans (hW.mono B0.out.size))
  have n_i : ¬ (i : Int) < 0 := by omega
  refine (may_up _ B c st dr bd wt nx po re f r 1 0 0 _ (some ⟨L, 0, none⟩) xs.length cap (i : Int) H0.out.b (by have := n_st.out; omega) hfn hn0 hn1 HNet.out).mono ?_
  rintro e w1 ⟨code, rfl, hc, hb1⟩
  obtain rfl : code = 0 := hc.2 (by rw [HOk.out]; simp [mB7, mB8, n_i])
  have HFn := Lib.hid hfn
  have HB1 := Lib.hid hb1
  have H1 := Lib.hid (H0.out.below hb1)
  have A1 := Lib.hid (A0.out.below hb1 A0.out.lt)
  have G1 := Lib.hid (G0.out.below hb1 G0.out.lt)
  have F1 := Lib.hid (F0.out.trans (LFr.of_below hb1))
  have h01 : w.heap.size < w1.heap.size := A1.out.lt
  clear hb1 hc hfn
  clear r0 r1 r2 r3 r4 r5 r6 r7
  have H2 := H1
  have F2 := F1
  have A2 := A1
  have G2 := G1
  have hxi : i < xs.length := (List.getElem?_eq_some_iff.1 HX.out).1
  have hxm : x ∈ xs := List.mem_of_getElem? HX.out
  have hlx := (H2.out.k x hxm).1.lt
  have h0W : w.heap.size < w1.heap.size := A2.out.lt
  have y22 : w1.cell? ⟨B, 22, none⟩ = some (.slice (some ⟨L, 0, none⟩) xs.length cap) := H2.out.b.cell 22
  have l0 : w1.cell? ⟨L, i, none⟩ = some (.pointer (some ⟨x.1, 0, none⟩)) := H2.out.r i x HX.out
  have o0 : w1.cell? ⟨x.1, 0, none⟩ = some (.int .u32 x.2.ro) := (H2.out.k x hxm).1.cell 0
  have o1 : w1.cell? ⟨x.1, 1, none⟩ = some (.int .u32 x.2.ad) := (H2.out.k x hxm).1.cell 1
  have o2 : w1.cell? ⟨x.1, 2, none⟩ = some (.int .u8 x.2.st) := (H2.out.k x hxm).1.cell 2
  have o3 : w1.cell? ⟨x.1, 3, none⟩ = some (.int .u8 x.2.pr) := (H2.out.k x hxm).1.cell 3
  have o4 : w1.cell? ⟨x.1, 4, none⟩ = some (.int .u32 x.2.dr) := (H2.out.k x hxm).1.cell 4
  have o5 : w1.cell? ⟨x.1, 5, none⟩ = some (.int .u32 x.2.bd) := (H2.out.k x hxm).1.cell 5
  have o6 : w1.cell? ⟨x.1, 6, none⟩ = some (.int .u8 x.2.op) := (H2.out.k x hxm).1.cell 6
  have o7 : w1.cell? ⟨x.1, 7, none⟩ = some (.int .u32 x.2.lf) := (H2.out.k x hxm).1.cell 7
  have o8 : w1.cell? ⟨x.1, 8, none⟩ = some (.bool x.2.wa) := (H2.out.k x hxm).1.cell 8
  have o9 : w1.cell? ⟨x.1, 9, none⟩ = some (.bool x.2.fu) := (H2.out.k x hxm).1.cell 9
  go_upto_region 10 with (go_at_call 71; refine (HFn.out _ HB1.out).mono ?_; rintro e w' ⟨rfl, hw⟩; obtain rfl := hw.symm)
  obtain ⟨OB, hOB⟩ : ∃ OB, OB = w1.heap.size := ⟨_, rfl⟩
  obtain ⟨W3, hW3⟩ : ∃ W3, W3 = w1.alloc (.cells #[.int .u32 x.2.ro, .int .u32 x.2.ad, .int .u8 x.2.st, .int .u8 x.2.pr, .int .u32 x.2.dr, .int .u32 x.2.bd, .int .u8 x.2.op, .int .u32 x.2.lf, .bool x.2.wa, .bool x.2.fu] 139) := ⟨_, rfl⟩
  have hb3 : Below w1.heap.size w1 W3 := by rw [hW3]; exact (Below.refl _ w1).alloc (Nat.le_refl _) _
  have H3 := Lib.hid (H2.out.below hb3)
  have A3 := Lib.hid (A2.out.below hb3 A2.out.lt)
  have O3 : Hid (Blk W3 OB 139 #[.int .u32 x.2.ro, .int .u32 x.2.ad, .int .u8 x.2.st, .int .u8 x.2.pr, .int .u32 x.2.dr, .int .u32 x.2.bd, .int .u8 x.2.op, .int .u32 x.2.lf, .bool x.2.wa, .bool x.2.fu]) := Lib.hid (by rw [hW3, hOB]; exact Blk.new _ _ _)
  have F3 := Lib.hid (F2.out.trans (LFr.of_below hb3))
  have G3 := Lib.hid (G2.out.below hb3 G2.out.lt)
  rw [← hW3, ← hOB]
  have h23 : OB < W3.heap.size := O3.out.lt
  have h0O : w.heap.size < OB := by omega
  obtain ⟨cur, hLc⟩ := H3.out.lc
  have KL3 := Lib.hid hLc
  clear hLc hW3 hb3 hOB y22 l0 o0 o1 o2 o3 o4 o5 o6 o7 o8 o9 hlx
  have y8 : W3.cell? ⟨B, 8, none⟩ = some (.int .u32 c.dd) := H3.out.b.cell 8
  have r2 : W3.cell? ⟨w.heap.size, 2, none⟩ = some (.int .u8 c.op) := A3.out.cell 2
  have r3 : W3.cell? ⟨w.heap.size, 3, none⟩ = some (.int .u8 1) := A3.out.cell 3
  have r5 : W3.cell? ⟨w.heap.size, 5, none⟩ = some (.int .u32 0) := A3.out.cell 5
  have r6 : W3.cell? ⟨w.heap.size, 6, none⟩ = some (.int .u32 0) := A3.out.cell 6
  refine wp_region_drawn_tail 17 (by kernel_rfl) (by kernel_rfl) ?_
  simp only [List.take_succ_cons, List.take_zero, List.drop_succ_cons, List.drop_zero]
  repeat (go_big_quiet_step (fail))
  refine wpQuiet_nil ?_
  rintro wq ⟨q, rfl⟩
  go_upto_region 11 with fail
  obtain ⟨KN, hKN⟩ : ∃ KN, KN = W3.heap.size := ⟨_, rfl⟩
  obtain ⟨W4, hW4⟩ : ∃ W4, W4 = (W3.drewN q).alloc (.cells #[.int .u32 r, .int .u32 f, .int .u8 2, .int .u8 1, .int .u32 0, .int .u32 0, .int .u8 c.op, .int .u32 c.dd, .bool false, .bool false] 139) := ⟨_, rfl⟩
  have hb4 : Below W3.heap.size W3 W4 := by rw [hW4]; exact (drewB W3 q).alloc (Nat.le_refl _) _
  have H4 := Lib.hid (H3.out.below hb4)
  have A4 := Lib.hid (A3.out.below hb4 A3.out.lt)
  have O4 := Lib.hid (O3.out.below hb4 O3.out.lt)
  have G4 := Lib.hid (G3.out.below hb4 G3.out.lt)
  have N4 : Hid (Blk W4 KN 139 #[.int .u32 r, .int .u32 f, .int .u8 2, .int .u8 1, .int .u32 0, .int .u32 0, .int .u8 c.op, .int .u32 c.dd, .bool false, .bool false]) := Lib.hid (by rw [hW4, hKN]; exact Blk.new (W3.drewN q) _ _)
  have hb4s := hb4
  have BB4 := Lib.hid hb4
  have E4 := Lib.hid (Frame.of_below (S := fun j => j = L) hb4s)
  have hK3 : Hid (W3.heap.size ≤ KN) := Lib.hid (by omega)
  have hKw : OB < KN := by omega
  rw [← hW4, ← hKN]
  clear hW4 hKN y8 r2 r3 r5 r6 hb4 hb4s
  have KL4 := Lib.hid (KL3.out.below BB4.out KL3.out.lt)
  have h7 : W4.cell? ⟨w.heap.size, 7, none⟩ = some (.slice (some ⟨G, 0, none⟩) 1 gc) := A4.out.cell 7
  have g4 : W4.cell? ⟨G, 0, none⟩ = some (.int .u32 c.ro) := G4.out.cell 0
  have y1 : W4.cell? ⟨B, 1, none⟩ = some (.int .u8 c.ty) := H4.out.b.cell 1
  have y2 : W4.cell? ⟨B, 2, none⟩ = some (.int .u32 c.ro) := H4.out.b.cell 2
  have y22 : W4.cell? ⟨B, 22, none⟩ = some (.slice (some ⟨L, 0, none⟩) xs.length cap) := H4.out.b.cell 22
  have l0 : W4.cell? ⟨L, i, none⟩ = some (.pointer (some ⟨x.1, 0, none⟩)) := H4.out.r i x HX.out
  have fL := KL4.out.frozen i
  have n2 : W4.cell? ⟨KN, 2, none⟩ = some (.int .u8 2) := N4.out.cell 2
  have n9 : W4.cell? ⟨KN, 9, none⟩ = some (.bool false) := N4.out.cell 9
  have fN := N4.out.frozen
  have o0 : W4.cell? ⟨OB, 0, none⟩ = some (.int .u32 x.2.ro) := O4.out.cell 0
  have o1 : W4.cell? ⟨OB, 1, none⟩ = some (.int .u32 x.2.ad) := O4.out.cell 1
  have o2 : W4.cell? ⟨OB, 2, none⟩ = some (.int .u8 x.2.st) := O4.out.cell 2
  have o3 : W4.cell? ⟨OB, 3, none⟩ = some (.int .u8 x.2.pr) := O4.out.cell 3
  have o4 : W4.cell? ⟨OB, 4, none⟩ = some (.int .u32 x.2.dr) := O4.out.cell 4
  have o5 : W4.cell? ⟨OB, 5, none⟩ = some (.int .u32 x.2.bd) := O4.out.cell 5
  have o6 : W4.cell? ⟨OB, 6, none⟩ = some (.int .u8 x.2.op) := O4.out.cell 6
  have o7 : W4.cell? ⟨OB, 7, none⟩ = some (.int .u32 x.2.lf) := O4.out.cell 7
  have o8 : W4.cell? ⟨OB, 8, none⟩ = some (.bool x.2.wa) := O4.out.cell 8
  have o9 : W4.cell? ⟨OB, 9, none⟩ = some (.bool x.2.fu) := O4.out.cell 9
  have e_fu := HFu.out
  rw [e_fu] at o9
  have e_ro : (x.2.ro == r) = true := by simpa using HRo.out
  have e_s2 : 2 ≤ x.2.st := by rw [HSt.out]; decide
  have hLB : L ≠ B := KL4.out.ne_ H4.out.b (by decide)
  have hLl : L < W3.heap.size := KL3.out.lt
  have hKs := hK3.out
  have z1 : B ≠ KN := by have := H3.out.b.lt; omega
  have z2 : L ≠ KN := by omega
  have z3 : OB ≠ KN := by omega
  have z5 : OB ≠ L := O4.out.ne_ KL4.out (by decide)
  go_wp2_with fail
  refine wp_loop_rounds 2 ?_
  rw [rounds_succ]
  go_wp2_with fail
  rw [rounds_succ]
  go_wp2_with fail
  obtain ⟨W5, hW5⟩ : ∃ W5, W5 = ((W4.setCell ⟨KN, 2, none⟩ (.int .u8 3)).setCell ⟨KN, 9, none⟩ (.bool false)).setCell ⟨L, i, none⟩ (.pointer (some ⟨KN, 0, none⟩)) := ⟨_, rfl⟩
  have KL5 : Hid (Blk W5 L 137 (cur.setIfInBounds i (.pointer (some ⟨KN, 0, none⟩)))) := Lib.hid (by rw [hW5]; exact ((KL4.out.far (by simpa using z2) _).far (by simpa using z2) _).set_ i _)
  have N5 : Hid (Blk W5 KN 139 (newK c f r).cells) := Lib.hid (by rw [hW5]; exact ((N4.out.set_ 2 _).set_ 9 _).far (by simpa using fun e => z2 e.symm) _)
  have z6 : w.heap.size ≠ KN := by omega
  have z7 : w.heap.size ≠ L := A4.out.ne_ KL4.out (by decide)
  have A5 : Hid (Blk W5 w.heap.size 90 #[.int .u32 (maskN c.nb.toNat), .int .u16 c.hi, .int .u8 c.op, .int .u8 1, .int .u32 c.dd, .int .u32 0, .int .u32 0, .slice (some ⟨G, 0, none⟩) 1 gc]) := Lib.hid (by rw [hW5]; exact ((A4.out.far (by simpa using z6) _).far (by simpa using z6) _).far (by simpa using z7) _)
  have E5 : Frame (fun j => j = L) W3 W5 := by rw [hW5]; exact ((E4.out.setCell (p := ⟨KN, 2, none⟩) (fun h => by simp at h; omega) _).setCell (p := ⟨KN, 9, none⟩) (fun h => by simp at h; omega) _).setB i _
  have hin : i < cur.size := by
    have := (KL4.out.cell i).symm.trans l0
    exact (Array.getElem?_eq_some_iff.1 this).1
  have hstep := lose_step (k := newK c f r) H3.out hxi hK3.out N5.out ⟨_, KL5.out⟩ (by rw [KL5.out.cell i]; simp [hin]) (fun j hj => by rw [KL5.out.cell j, KL3.out.cell j, Array.getElem?_setIfInBounds_ne (Ne.symm hj)]) E5
  have H5 := Lib.hid hstep.1
  have F5 := Lib.hid (F3.out.trans hstep.2)
  rw [← hW5]
  clear hW5 hstep E5 h7 g4 y1 y2 y22 l0 fL n2 n9 fN o0 o1 o2 o3 o4 o5 o6 o7 o8 o9 e_fu e_ro e_s2 z1 z2 z3 z5 z6 z7
  have hm5 : (KN, newK c f r) ∈ xs.set i (KN, newK c f r) := List.mem_of_getElem? (List.getElem?_set_self hxi)
  have hl5 : (xs.set i (KN, newK c f r)).length ≤ 60000 := by rw [List.length_set]; exact HLen.out
  have hcall : Calls Try.prog 73 #[.pointer (some ⟨B, 0, none⟩), .agg #[.int .u32 x.2.ro, .int .u32 x.2.ad, .int .u8 x.2.st, .int .u8 x.2.pr, .int .u32 x.2.dr, .int .u32 x.2.bd, .int .u8 x.2.op, .int .u32 x.2.lf, .bool x.2.wa, .bool x.2.fu], .pointer (some ⟨KN, 0, none⟩), .bool true] W5 fun e w' => HeardPost lo B c st wt nx po re L cap (xs.set i (KN, newK c f r)) W5 e w' := heard_again lo W5 B c st dr bd wt nx po re L cap _ H5.out x.2 HSt.out HPr.out HDr.out HBd.out (KN, newK c f r) hm5 rfl rfl rfl rfl HF0.out
  rw [HFu.out] at hcall
  refine hcall.mono ?_
  rintro e w6 ⟨rfl, hf6, st', dr', bd', ks, hks, hge, hl6⟩
  have H6 := Lib.hid hl6
  have F6 := Lib.hid (F5.out.trans hf6)
  have A6 := Lib.hid (hf6.blk A5.out (by decide) (by decide) (by decide))
  have hlm : (mapK ks (xs.set i (KN, newK c f r))).length ≤ 100000 := by rw [mapK_len']; omega
  have hfin : ∀ (W : World) (a : Option Addr) (n k : Nat), LFr lo w W → LinkOn lo W B c st' dr' bd' wt nx po re L cap (mapK ks (xs.set i (KN, newK c f r))) → HearOnPost lo B c f r wt nx po re L cap xs i w (.returned (.tuple #[.slice a n k, .int .i64 0])) W := fun W a n k h1 h2 => by
    exact ⟨⟨a, n, k, rfl⟩, h1, KN, st', dr', bd', ks, hks, hge h2s, h2⟩
  have HFin := Lib.hid hfin
  have y1 : w6.cell? ⟨B, 1, none⟩ = some (.int .u8 c.ty) := H6.out.b.cell 1
  have y10 : w6.cell? ⟨B, 10, none⟩ = some (.int .u8 c.pr) := H6.out.b.cell 10
  have y16 : w6.cell? ⟨B, 16, none⟩ = some (.int .u32 dr') := H6.out.b.cell 16
  have y17 : w6.cell? ⟨B, 17, none⟩ = some (.int .u32 bd') := H6.out.b.cell 17
  have r3 : w6.cell? ⟨w.heap.size, 3, none⟩ = some (.int .u8 1) := A6.out.cell 3
  clear hks hge hl6 hf6 hfin hm5 hl5
  rcases Bool.eq_false_or_eq_true (c.ty == 1) with e_t | e_t
  · rcases Bool.eq_false_or_eq_true (c.pr == 0) with e_p | e_p
    · rcases Bool.eq_false_or_eq_true (f != dr') with e_d | e_d
      · rcases Bool.eq_false_or_eq_true (f != bd') with e_b | e_b
        · go_wp2_with fail
          refine (hello_gen_f w6 B c st' dr' bd' wt nx po re hn0 hn1 HDm.out L cap _ hlm H6.out.row H6.out.b).mono ?_
          rintro e w7 ⟨ha, hn, hk, rfl, _, hb7⟩
          unfold helloW
          have H7 := Lib.hid (H6.out.below hb7)
          have F7 := Lib.hid (F6.out.trans (LFr.of_below hb7))
          clear hb7
          go_wp2_with fail
          exact bodyPost_ret (v := .tuple #[.slice (some ⟨w7.heap.size, 0, none⟩) 1 1, .int .i64 0]) (by simp [results, Try.results35, go_sem]) rfl (HFin.out _ _ _ _ (F7.out.trans (LFr.of_below ((Below.refl _ _).alloc (Nat.le_refl _) _))) (H7.out.below ((Below.refl _ _).alloc (Nat.le_refl _) _)))
        · go_wp2_with fail
          exact bodyPost_ret (v := .tuple #[.slice none 0 0, .int .i64 0]) (by simp [results, Try.results35, go_sem]) rfl (HFin.out _ _ _ _ F6.out H6.out)
      · go_wp2_with fail
        exact bodyPost_ret (v := .tuple #[.slice none 0 0, .int .i64 0]) (by simp [results, Try.results35, go_sem]) rfl (HFin.out _ _ _ _ F6.out H6.out)
    · go_wp2_with fail
      exact bodyPost_ret (v := .tuple #[.slice none 0 0, .int .i64 0]) (by simp [results, Try.results35, go_sem]) rfl (HFin.out _ _ _ _ F6.out H6.out)
  · go_wp2_with fail
    exact bodyPost_ret (v := .tuple #[.slice none 0 0, .int .i64 0]) (by simp [results, Try.results35, go_sem]) rfl (HFin.out _ _ _ _ F6.out H6.out)

end Go.Proofs.Ytgbmhijgpdgdbaa
