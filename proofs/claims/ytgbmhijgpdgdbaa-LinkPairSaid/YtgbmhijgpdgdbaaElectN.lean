/- The election of a link of type NBMA. -/
import Derived.RangeFuncBox
import Derived.RangeFuncLeaves
import Derived.RangeFuncFrom
import Derived.RangeFuncNested
import Derived.RangeFuncBound
import Derived.RangeFuncCalls
import Derived.Shelf.Abstract
import Derived.Shelf.RegionOpen
import Derived.WalkKit
import Derived.OwnWalkIn
import Derived.TacticsInMore
import Derived.LoopNIn
import Derived.LoopIn
import Derived.Test.YtgbmhijgpdgdbaaAllNone
import Derived.Test.YtgbmhijgpdgdbaaElectL
namespace Go.Proofs.Ytgbmhijgpdgdbaa
open Go.RowKit Go.Shelf

attribute [local go_sem] Oper.semAt_some


set_option maxRecDepth 100000 in
set_option maxHeartbeats 2000000 in
theorem all_in_elect2w {β : Type} (n : Nat) (hn : 1 ≤ n) (G : World → Prop) (enc : β → Nat) (P : β → Prop) (l B Bl Bi L cap : Nat) (row : List β) (hlen : row.length ≤ 100000)
    (g : Good G enc B Bl Bi L (.func (.func 112) #[] #[]) row cap)
    (hq : ∀ W x, G W → x ∈ row → Calls Try.prog 112 #[.pointer (some ⟨enc x, 0, none⟩)] W fun e w' => (∃ b, e = .returned (.bool b) ∧ (b = true → P x)) ∧ ∃ q, w' = W.drewN q)
    (J Jx : List { x : β // x ∈ row ∧ P x } → World → Prop) (W : World) (hG : G W) (hJa : AbidesFrom W.heap.size J)
    (hY : ∀ pre x W1, J pre W1 → pre.length < row.length → YieldAt Fence.wide (n - 1) Try.prog l #[.pointer (some ⟨enc x.1, 0, none⟩)] W1 fun e W' =>
      (e = .returned (.bool true) ∧ J (pre ++ [x]) W' ∧ (G W1 → G W')) ∨ (e = .returned (.bool false) ∧ Jx (pre ++ [x]) W'))
    (h0 : J [] W) :
    CallsIn Fence.wide n Try.prog 124 #[.func (.yield l) #[] #[], .pointer (some ⟨Bl, 0, none⟩), .pointer (some ⟨Bi, 0, none⟩)] W fun e W' => (∃ v, e = .returned v) ∧ ((∃ ys, J ys W') ∨ (∃ pre, Jx pre W')) := by
  have HQ := Lib.hid hq
  have HY := Lib.hid hY
  have HJa := Lib.hid hJa
  have HG := Lib.hid g
  have a1 : W.cell? ⟨Bl, 0, none⟩ = some (.pointer (some ⟨B, 0, none⟩)) := g.h1 W hG
  have c22 : W.cell? ⟨B, 22, none⟩ = some (.slice (some ⟨L, 0, none⟩) row.length cap) := g.h2 W hG
  clear g hq hY hJa
  refine callsIn_of_wp Try.func124 rfl trivial ?_ rfl
  simp only [Try.ntmps124, List.size_toArray, List.length_cons, List.length_nil, Nat.reduceAdd, Nat.reduceSub, Array.replicate_succ, Array.replicate_zero, List.push_toArray, List.append_toArray, List.nil_append, List.cons_append]
  gi_wp2
  gi_loopw [11] (fun i wr => ∃ (k : Nat) (pre : List { x : β // x ∈ row ∧ P x }), k ≤ row.length ∧ i = .int .i64 k ∧ pre.length ≤ k ∧ J pre wr ∧ G wr)
    (fun i _ => row.length - (intOf i).toNat)
  case atStart => exact ⟨0, [], Nat.zero_le _, rfl, Nat.le_refl _, h0, hG⟩
  case round =>
    obtain ⟨k, pre, hk, rfl, hpl, hJs, hGr⟩ := hrel
    have HJs := Lib.hid hJs
    clear hJs
    have b1 : wr.cell? ⟨Bi, 0, none⟩ = some (.func (.func 112) #[] #[]) := HG.out.hi wr hGr
    by_cases hlt : k < row.length
    · obtain ⟨x, hx⟩ : ∃ x, row[k]? = some x := ⟨_, List.getElem?_eq_getElem hlt⟩
      have b2 : wr.cell? ⟨L, k, none⟩ = some (.pointer (some ⟨enc x, 0, none⟩)) := HG.out.hr wr hGr k x hx
      have HR1 := Lib.hid (HQ.out wr x hGr (List.mem_of_getElem? hx))
      gi_wp2_with fail
      refine ⟨trivial, (callsIn_wide.2 HR1.out).mono ?_⟩
      rintro e w' ⟨⟨b, rfl, hbP⟩, q, rfl⟩
      have hJq : J pre (wr.drewN q) := HJa.out _ wr _ none HJs.out (grownBy_drewN wr q) (fun r e => by cases e)
      cases b with
      | false =>
        gi_wp2_with fail
        refine ⟨fun _ h => (by cases h), ?_⟩
        gi_wp2_with fail
        go_roundw
        case rel => exact ⟨k + 1, pre, by omega, by simp, by omega, hJq, HG.out.d _ _ hGr⟩
        case measure => simp [intOf]; omega
      | true =>
        obtain ⟨fn, tmps, assign, body, hy, hR⟩ := HY.out _ ⟨x, List.mem_of_getElem? hx, hbP rfl⟩ (wr.drewN q) hJq (by omega)
        dsimp only at hy
        gi_wp2_with fail
        refine hR.mono ?_
        rintro e W3 (⟨rfl, hJ3, hk3⟩ | ⟨rfl, hJx3⟩)
        · gi_wp2_with fail
          go_roundw
          case rel => exact ⟨k + 1, _, by omega, by simp, by simp; omega, hJ3, hk3 (HG.out.d _ _ hGr)⟩
          case measure => simp [intOf]; omega
        · gi_wp2_with fail
          refine bodyPost_ret (results_none rfl _ _ _) rfl ?_
          exact ⟨⟨_, rfl⟩, .inr ⟨_, hJx3⟩⟩
    · obtain rfl : k = row.length := by omega
      gi_wp2_with fail
      go_end0
      exact ⟨⟨_, rfl⟩, .inl ⟨_, HJs.out⟩⟩

theorem all_stops_elect2w {β : Type} (n : Nat) (hn : 1 ≤ n) (w0 : World) (G : World → Prop) (enc : β → Nat) (P : β → Prop) (B Bl Bi L cap : Nat) (row : List β) (hlen : row.length ≤ 100000)
    (g : Good G enc B Bl Bi L (.func (.func 112) #[] #[]) row cap) (hG : ∀ W, Below w0.heap.size w0 W → G W)
    (hq : ∀ W x, G W → x ∈ row → Calls Try.prog 112 #[.pointer (some ⟨enc x, 0, none⟩)] W fun e w' => (∃ b, e = .returned (.bool b) ∧ (b = true → P x)) ∧ ∃ q, w' = W.drewN q) :
    SeqStopsK Fence.wide n Try.prog 124 #[.pointer (some ⟨Bl, 0, none⟩), .pointer (some ⟨Bi, 0, none⟩)] (fun x : { x : β // x ∈ row ∧ P x } => #[.pointer (some ⟨enc x.1, 0, none⟩)]) (fun A B => G A → G B) (fun _ => True) (fun _ => True) row.length w0 := by
  intro l J Jx W hW hJ _ hY h0
  refine (all_in_elect2w n hn G enc P l B Bl Bi L cap row hlen g hq J Jx W (hG W hW) hJ hY h0).mono ?_
  rintro e W' ⟨hv, ⟨ys, h⟩ | ⟨pre, h⟩⟩
  · exact ⟨hv, .inl ⟨ys, trivial, h⟩⟩
  · exact ⟨hv, .inr ⟨pre, trivial, h⟩⟩
end Go.Proofs.Ytgbmhijgpdgdbaa

namespace Go.Proofs.Ytgbmhijgpdgdbaa
open Go.RowKit Go.Shelf

attribute [local go_sem] Oper.semAt_some

/-- A neighbour that is sent to again. -/
def updK (c : LC) (k : Kn) : Kn := { k with st := 1, lf := c.dd }

set_option maxHeartbeats 400000 in
theorem elect2_w (w : World) (K : Nat) (st : Int) (h : w.cell? ⟨K, 2, none⟩ = some (.int .u8 st)) :
    Calls Try.prog 112 #[.pointer (some ⟨K, 0, none⟩)] w fun e w' => e = .returned (.bool (st == 0)) ∧ w = w' := by
  go_enter Try.func112, Try.ntmps112
  go_wp2_with fail
  go_ret
  exact ⟨rfl, rfl⟩

def ElectPostN (B : Nat) (c : LC) (_st dr bd wt nx po re : Int) (L cap : Nat) (xs : List (Nat × Kn)) (w : World) (e : Ending) (w' : World) : Prop :=
  e = .returned (.tuple #[]) ∧ Blk w' B 119 (lks c (elState c (elOut c dr bd xs)) (elOut c dr bd xs).1 (elOut c dr bd xs).2 wt nx po re (.slice (some ⟨L, 0, none⟩) xs.length cap)) ∧
    ∃ ks : Nat × Kn → Kn, (∀ x ∈ xs, Blk w' x.1 139 (ks x).cells ∧ (ks x = x.2 ∨ (x.2.st = 0 ∧ ks x = updK c x.2))) ∧ Frame (fun j => j = B ∨ ∃ x ∈ xs, x.1 = j) w w'

/-- What the second range leans on. -/
structure GN (w0 : World) (B : Nat) (c : LC) (st dr bd wt nx po re : Int) (L cap : Nat) (xs : List (Nat × Kn)) (Bl Bi C0 : Nat) (W : World) : Prop where
  b : Blk W B 119 (lks c st dr bd wt nx po re (.slice (some ⟨L, 0, none⟩) xs.length cap))
  lb : ∃ cur, Blk W L 137 cur
  row : (∀ (j : Nat) (x : Nat × Kn), xs[j]? = some x → W.cell? ⟨L, j, none⟩ = some (.pointer (some ⟨x.1, 0, none⟩))) ∧ ∀ x ∈ xs, Blk W x.1 139 x.2.cells ∨ (x.2.st = 0 ∧ Blk W x.1 139 (updK c x.2).cells)
  p0 : W.cell? ⟨Bl, 0, none⟩ = some (.pointer (some ⟨B, 0, none⟩))
  p1 : W.cell? ⟨Bi, 0, none⟩ = some (.func (.func 112) #[] #[])
  p2 : W.cell? ⟨C0, 0, none⟩ = some (.pointer (some ⟨B, 0, none⟩))
  lt : B < w0.heap.size ∧ Bl < w0.heap.size ∧ Bi < w0.heap.size ∧ C0 < w0.heap.size ∧ L < w0.heap.size ∧ ∀ x ∈ xs, x.1 < w0.heap.size

section
variable {w0 : World} {B : Nat} {c : LC} {st dr bd wt nx po re : Int} {L cap : Nat} {xs : List (Nat × Kn)} {Bl Bi C0 : Nat} {W W' : World}

theorem GN.kn (g : GN w0 B c st dr bd wt nx po re L cap xs Bl Bi C0 W) {x : Nat × Kn} (hx : x ∈ xs) : ∃ kn : Kn, Blk W x.1 139 kn.cells := by
  rcases g.row.2 x hx with h | ⟨_, h⟩
  · exact ⟨_, h⟩
  · exact ⟨_, h⟩

theorem GN.keep (g : GN w0 B c st dr bd wt nx po re L cap xs Bl Bi C0 W) (hk : ∀ k, k < w0.heap.size → W'.heap[k]? = W.heap[k]?) : GN w0 B c st dr bd wt nx po re L cap xs Bl Bi C0 W' := by
  have key : ∀ (b i : Nat) (u : Value), b < w0.heap.size → W.cell? ⟨b, i, none⟩ = some u → W'.cell? ⟨b, i, none⟩ = some u := fun b i u hb h => (World.cell?_of_block (a := ⟨b, i, none⟩) (hk b hb)).trans h
  obtain ⟨cur, hc⟩ := g.lb
  exact ⟨(hk B g.lt.1).trans g.b, ⟨cur, (hk L g.lt.2.2.2.2.1).trans hc⟩, ⟨fun j x hj => key _ _ _ g.lt.2.2.2.2.1 (g.row.1 j x hj), fun x hx => (g.row.2 x hx).imp (fun h => (hk x.1 (g.lt.2.2.2.2.2 x hx)).trans h) (fun h => ⟨h.1, (hk x.1 (g.lt.2.2.2.2.2 x hx)).trans h.2⟩)⟩,
    key _ _ _ g.lt.2.1 g.p0, key _ _ _ g.lt.2.2.1 g.p1, key _ _ _ g.lt.2.2.2.1 g.p2, g.lt⟩

theorem GN.step (g : GN w0 B c st dr bd wt nx po re L cap xs Bl Bi C0 W) (hinj : ∀ x ∈ xs, ∀ y ∈ xs, x.1 = y.1 → x = y) {x : Nat × Kn} (hx : x ∈ xs) (h0 : x.2.st = 0) (hk5 : Blk W' x.1 139 (updK c x.2).cells) (hF : Frame (fun j => j = x.1) W W') : GN w0 B c st dr bd wt nx po re L cap xs Bl Bi C0 W' := by
  obtain ⟨kn, hkn⟩ := g.kn hx
  obtain ⟨cur, hc⟩ := g.lb
  have hne0 : ∀ (b : Nat) (u : Value), W.cell? ⟨b, 0, none⟩ = some u → (∀ k n, u ≠ .int k n) → b ≠ x.1 := by
    rintro b u h hu rfl
    rw [hkn.cell 0] at h
    exact hu _ _ (Option.some.inj h).symm
  have key : ∀ (b i : Nat) (u : Value), b ≠ x.1 → W.cell? ⟨b, i, none⟩ = some u → W'.cell? ⟨b, i, none⟩ = some u := fun b i u hb h => (World.cell?_of_block (a := ⟨b, i, none⟩) (hF.block b (lt_of_cell h) hb)).trans h
  have hLx : L ≠ x.1 := hc.ne_ hkn (by decide)
  refine ⟨hF.blk g.b (g.b.ne_ hkn (by decide)), ⟨cur, hF.blk hc hLx⟩, ⟨fun j y hj => key _ _ _ hLx (g.row.1 j y hj), fun y hy => ?_⟩, key _ _ _ (hne0 _ _ g.p0 (by intro k n e; cases e)) g.p0, key _ _ _ (hne0 _ _ g.p1 (by intro k n e; cases e)) g.p1, key _ _ _ (hne0 _ _ g.p2 (by intro k n e; cases e)) g.p2, g.lt⟩
  by_cases hyx : y.1 = x.1
  · obtain rfl := hinj y hy x hx hyx
    exact .inr ⟨h0, hk5⟩
  · rcases g.row.2 y hy with h | ⟨h, h'⟩
    · exact .inl (hF.blk h hyx)
    · exact .inr ⟨h, hF.blk h' hyx⟩

theorem GN.good : Good (α := Nat × Kn) (GN w0 B c st dr bd wt nx po re L cap xs Bl Bi C0) (fun x => x.1) B Bl Bi L (.func (.func 112) #[] #[]) xs cap where
  d := fun _ _ g => ⟨g.b, g.lb, g.row, g.p0, g.p1, g.p2, g.lt⟩
  h1 := fun _ g => g.p0
  h2 := fun _ g => g.b.cell 22
  hi := fun _ g => g.p1
  hr := fun _ g j x hj => g.row.1 j x hj

theorem elect2_any (g : GN w0 B c st dr bd wt nx po re L cap xs Bl Bi C0 W) {x : Nat × Kn} (hx : x ∈ xs) :
    Calls Try.prog 112 #[.pointer (some ⟨x.1, 0, none⟩)] W fun e w' => (∃ b, e = .returned (.bool b) ∧ (b = true → x.2.st = 0)) ∧ ∃ q, w' = W.drewN q := by
  rcases g.row.2 x hx with h | ⟨h0, h⟩
  · exact (elect2_w W x.1 _ (h.cell 2)).mono fun e w' ⟨h1, h2⟩ => ⟨⟨_, h1, fun hb => by simpa using hb⟩, 0, h2.symm⟩
  · exact (elect2_w W x.1 _ (h.cell 2)).mono fun e w' ⟨h1, h2⟩ => ⟨⟨_, h1, fun _ => h0⟩, 0, h2.symm⟩

structure IN (w0 : World) (B : Nat) (c : LC) (st dr bd wt nx po re : Int) (L cap : Nat) (xs : List (Nat × Kn)) (Bl Bi C0 : Nat) (W : World) : Prop where
  g : GN w0 B c st dr bd wt nx po re L cap xs Bl Bi C0 W
  f : Frame (fun j => ∃ x ∈ xs, x.1 = j) w0 W

theorem IN.own {β : Type} : OwnFrom w0.heap.size (fun (_ : β) W => IN w0 B c st dr bd wt nx po re L cap xs Bl Bi C0 W) := by
  rintro _ W W' row ⟨g, f⟩ hg hr
  have hs := f.size
  exact ⟨g.keep (fun k hk => hg.block k (by omega) (fun e => by have := (hr k e.symm).1; omega)), f.trans' (Frame.of_grown (S := fun k => row = some k) hg (fun k e _ => e)) (fun i hi e => by have := (hr i e).1; omega)⟩
end

set_option maxHeartbeats 4000000 in
set_option maxRecDepth 100000 in
theorem elect_nbma (w : World) (B : Nat) (c : LC) (st dr bd wt nx po re : Int) (L cap : Nat) (xs : List (Nat × Kn)) (hlen : xs.length ≤ 60000) (hty : (c.ty == 1) = true) (hinj : ∀ x ∈ xs, ∀ y ∈ xs, x.1 = y.1 → x = y) (cur : Array Value) (hLc : Blk w L 137 cur) (k : Blk w B 119 (lks c st dr bd wt nx po re (.slice (some ⟨L, 0, none⟩) xs.length cap))) (hrow : RowAt w L xs) :
    Calls Try.prog 76 #[.pointer (some ⟨B, 0, none⟩)] w fun e w' => ElectPostN B c st dr bd wt nx po re L cap xs w e w' := by
  have K := Lib.hid k
  have HRow := Lib.hid hrow
  have HTy := Lib.hid hty
  have HInj := Lib.hid hinj
  have HLc := Lib.hid hLc
  clear hinj hLc
  have hlt : B < w.heap.size := k.lt
  clear k hrow hty
  refine (callsIn_wide (n := 3)).1 ?_
  refine callsIn_of_wp_marks Try.func76 rfl trivial ?_ rfl
  rw [wpIn_wide]
  simp only [Try.ntmps76, List.size_toArray, List.length_cons, List.length_nil, Nat.reduceAdd, Nat.reduceSub, Array.replicate_succ, Array.replicate_zero, List.push_toArray, List.append_toArray, List.nil_append, List.cons_append]
  go_upto_region 1 with fail
  obtain ⟨W0, hW0⟩ : ∃ W0, W0 = w.alloc (.cells #[.pointer (some ⟨B, 0, none⟩)] 78) := ⟨_, rfl⟩
  have K0 : Hid (Blk W0 B 119 (lks c st dr bd wt nx po re (.slice (some ⟨L, 0, none⟩) xs.length cap))) := Lib.hid (by rw [hW0]; exact K.out.alloc _)
  have A0 : Hid (Blk W0 w.heap.size 78 #[.pointer (some ⟨B, 0, none⟩)]) := Lib.hid (by rw [hW0]; exact Blk.new w _ _)
  have B0 : Hid (Below w.heap.size w W0) := Lib.hid (by rw [hW0]; exact (Below.refl _ w).alloc (Nat.le_refl _) _)
  have hs0 : w.heap.size < W0.heap.size := A0.out.lt
  rw [← hW0]
  clear hW0
  have p0 : W0.cell? ⟨w.heap.size, 0, none⟩ = some (.pointer (some ⟨B, 0, none⟩)) := A0.out.cell 0
  have e2 : W0.cell? ⟨B, 2, none⟩ = some (.int .u32 c.ro) := K0.out.cell 2
  have e5 : W0.cell? ⟨B, 5, none⟩ = some (.int .u32 c.ad) := K0.out.cell 5
  have e10 : W0.cell? ⟨B, 10, none⟩ = some (.int .u8 c.pr) := K0.out.cell 10
  have e16 : W0.cell? ⟨B, 16, none⟩ = some (.int .u32 dr) := K0.out.cell 16
  have e17 : W0.cell? ⟨B, 17, none⟩ = some (.int .u32 bd) := K0.out.cell 17
  have hl0 : B < W0.heap.size := K0.out.lt
  go_cut [2] from 6 to 29 (fun p2 wx => ∃ S : Nat, p2 = .pointer (some ⟨S, 0, none⟩) ∧ Blk wx S 178 #[.int .u32 c.ro, .int .u32 c.ad, .int .u8 c.pr, .int .u32 dr, .int .u32 bd] ∧ w.heap.size < S ∧ Below W0.heap.size W0 wx)
  case first =>
    go_region_held3 (fun w' => w'.cell? ⟨w.heap.size, 0, none⟩ = some (.pointer (some ⟨B, 0, none⟩)) ∧ w'.cell? ⟨B, 2, none⟩ = some (.int .u32 c.ro) ∧ w'.cell? ⟨B, 5, none⟩ = some (.int .u32 c.ad) ∧ w'.cell? ⟨B, 10, none⟩ = some (.int .u8 c.pr) ∧ w'.cell? ⟨B, 16, none⟩ = some (.int .u32 dr) ∧ w'.cell? ⟨B, 17, none⟩ = some (.int .u32 bd)) (go_keep) (fail)
    all_goals clear e2 e5 e10 e16 e17
    all_goals
      go_wp2_with fail
      go_meet
      case rel =>
        refine ⟨_, rfl, ?_, by omega, ?_⟩
        · exact (Blk.new W0 178 #[.int .u32 c.ro, .int .u32 c.ad, .int .u8 c.pr, .int .u32 dr, .int .u32 bd]).drew
        · exact ((Below.refl _ W0).alloc (Nat.le_refl _) _).drew
  obtain ⟨S, rfl, hS, hSl, hb0⟩ := hcut
  have K1 := Lib.hid (K0.out.below hb0 hl0)
  have A1 := Lib.hid (A0.out.below hb0 A0.out.lt)
  have S1 := Lib.hid hS
  have B1 := Lib.hid (B0.out.trans (hb0.mono B0.out.size))
  have hsc : S < wc.heap.size := hS.lt
  clear p0 e2 e5 e10 e16 e17 hl0 hS hb0
  go_upto_region 3 with fail
  obtain ⟨wd, hwd⟩ : ∃ wd, wd = wc.alloc (.cells #[.slice none 0 0] 179) := ⟨_, rfl⟩
  have K2 : Hid (Blk wd B 119 (lks c st dr bd wt nx po re (.slice (some ⟨L, 0, none⟩) xs.length cap))) := Lib.hid (by rw [hwd]; exact K1.out.alloc _)
  have A2 : Hid (Blk wd w.heap.size 78 #[.pointer (some ⟨B, 0, none⟩)]) := Lib.hid (by rw [hwd]; exact A1.out.alloc _)
  have S2 : Hid (Blk wd S 178 #[.int .u32 c.ro, .int .u32 c.ad, .int .u8 c.pr, .int .u32 dr, .int .u32 bd]) := Lib.hid (by rw [hwd]; exact S1.out.alloc _)
  have O2 : Hid (Blk wd wc.heap.size 179 #[.slice none 0 0]) := Lib.hid (by rw [hwd]; exact Blk.new wc _ _)
  have B2 : Hid (Below w.heap.size w wd) := Lib.hid (by rw [hwd]; exact B1.out.alloc B1.out.size _)
  have hOl : wc.heap.size < wd.heap.size := O2.out.lt
  rw [← hwd]
  clear hwd
  obtain ⟨O, hO⟩ : ∃ O, O = wc.heap.size := ⟨_, rfl⟩
  rw [← hO] at O2 hOl hsc
  rw [← hO]
  clear hO
  have p0 : wd.cell? ⟨w.heap.size, 0, none⟩ = some (.pointer (some ⟨B, 0, none⟩)) := A2.out.cell 0
  go_wp2_with fail
  refine (all_made _ _ _ ⟨_, rfl⟩ ⟨_, _, _, rfl⟩).mono ?_
  rintro e w2 ⟨rfl, hb2, g1, g2⟩
  have h2l : wd.heap.size + 1 < w2.heap.size := lt_of_cell g2
  have K3 := Lib.hid (K2.out.below hb2 K2.out.lt)
  have A3 := Lib.hid (A2.out.below hb2 A2.out.lt)
  have S3 := Lib.hid (S2.out.below hb2 S2.out.lt)
  have O3 := Lib.hid (O2.out.below hb2 O2.out.lt)
  have B3 := Lib.hid (B2.out.trans (hb2.mono B2.out.size))
  clear hb2 p0
  have R3 : Hid (RowAt w2 L xs) := Lib.hid ⟨fun j x hj => (B3.out.cell (p := ⟨L, j, none⟩) (lt_of_cell (HRow.out.r j x hj))).trans (HRow.out.r j x hj), fun x hx => (HRow.out.k x hx).below B3.out (HRow.out.k x hx).lt⟩
  have hltL : xs ≠ [] → L < w.heap.size := fun h => by
    obtain ⟨x, r, rfl⟩ := List.exists_cons_of_ne_nil h
    exact lt_of_cell (HRow.out.r 0 x rfl)
  have hwx : ∀ x ∈ xs, x.1 < w.heap.size := fun x hx => (HRow.out.k x hx).lt
  have hsw2 : w.heap.size ≤ w2.heap.size := B3.out.size
  have G2 : Hid (GQ w2 B c st dr bd wt nx po re L cap xs wd.heap.size (wd.heap.size + 1) O 179 (.func (.func 110) #[] #[]) w2) := Lib.hid
    ⟨K3.out, R3.out, g1, g2, ⟨_, _, _, O3.out⟩, by omega, by omega, by omega, by omega, fun h => by have := hltL h; omega, fun x hx => by have := hwx x hx; omega⟩
  obtain ⟨i0, hi, hz0, hz1, hz2⟩ := info_parts Ev.voice_info
  have hnf : ∀ a n k, Value.func (.func 110) #[] #[] ≠ .slice a n k := by intro a n k e; cases e
  have hgs : ∀ W, Below w2.heap.size w2 W → GQ w2 B c st dr bd wt nx po re L cap xs wd.heap.size (wd.heap.size + 1) O 179 (.func (.func 110) #[] #[]) W := fun W h => G2.out.keep (by decide) (by decide) hnf ⟨_, _, _, O3.out.below h O3.out.lt⟩ (fun k hk _ => h.block k hk)
  have hlO : O < w2.heap.size := O3.out.lt
  obtain ⟨G, hG⟩ : ∃ G, G = GQ w2 B c st dr bd wt nx po re L cap xs wd.heap.size (wd.heap.size + 1) O 179 (.func (.func 110) #[] #[]) := ⟨_, rfl⟩
  have hkb : ∀ (W : World) (l : Nat) (o o' : Obj), w2.heap.size ≤ l → W.heap[l]? = some o → o.isCells = false → o.isWalk = false → (G W → G (W.putObj l o')) := by
    intro W l o o' hl _ _ _ g
    rw [hG] at g ⊢
    obtain ⟨a, n, k, hx⟩ := g.xb
    have hk : ∀ k, k < w2.heap.size → (W.putObj l o').heap[k]? = W.heap[k]? := fun k hk => World.putObj_heap_other (by omega)
    exact g.keep (by decide) (by decide) hnf ⟨_, _, _, (hk _ hlO).trans hx⟩ (fun k h _ => hk k h)
  have hseq := all_stops_elect1 2 (by omega) w2 G (fun x : { x // x ∈ xs } => x.1.1) (fun x => twoWayK x.1) B wd.heap.size (wd.heap.size + 1) L cap xs.attach (by rw [List.length_attach]; omega) (by rw [hG]; exact GQ.good) (by rw [hG]; exact hgs)
      (fun W x g _ => by rw [hG] at g; exact (elect1_any W x.1.1 _ ((g.row.k x.1 x.2).cell 2)).mono (fun e w' h => ⟨h.1, 0, h.2.symm⟩))
  obtain ⟨I, hI⟩ : ∃ I : List { x // x ∈ xs } → World → Prop, I = fun pre W => IQ w w2 B c st dr bd wt nx po re L cap xs wd.heap.size (wd.heap.size + 1) O 179 (.func (.func 110) #[] #[]) 178 5 [(S, 178, #[.int .u32 c.ro, .int .u32 c.ad, .int .u8 c.pr, .int .u32 dr, .int .u32 bd]), (w.heap.size, 78, #[.pointer (some ⟨B, 0, none⟩)])] pre.length (voiceRows pre) W := ⟨_, rfl⟩
  have hIo : OwnFrom w2.heap.size I := by rw [hI]; exact IQ.own (w := w) (w0 := w2) (B := B) (c := c) (st := st) (dr := dr) (bd := bd) (wt := wt) (nx := nx) (po := po) (re := re) (L := L) (cap := cap) (xs := xs) (Bl := wd.heap.size) (Bi := wd.heap.size + 1) (X := O) (tX := 179) (by decide) (by decide) hnf hsw2 (mem2 (show S < w2.heap.size by omega) (show w.heap.size < w2.heap.size by omega)) (fun pre : List { x // x ∈ xs } => pre.length) (fun pre => voiceRows pre)
  have hI0 : I [] w2 := by rw [hI]; exact ⟨G2.out, ⟨.slice none 0 0, O3.out, World.ownsRow_nil _ _ _ _⟩, mem2 S3.out A3.out, Nat.le_refl _, B3.out⟩
  go_wp2_with fail
  rw [← wpIn_wide (n := 3)]
  refine wpIn_rangeFunc_ownF (F := Fence.wide) (n := 3) rfl (by omega) rfl trivial enters_all1 hseq (fun h k g => k (h g)) (fun W l o o' => hkb W l o o') (Below.refl _ _) (fun _ => rfl) I (fun _ _ _ => False) hIo (fun _ _ _ _ _ hs _ _ => hs) hI0 ?a₁ ?assign ?body ?done (fun _ _ _ _ _ _ h _ => h.elim)
  case assign =>
    intro l x W K hK
    gi_wp2
    exact hK
  case body =>
    intro l pre x W hIx hlen2
    rw [hI] at hIx
    obtain ⟨g, ⟨v, hx, hown⟩, hy, hsz, hb⟩ := hIx
    obtain ⟨va, vm, rfl⟩ := own_slice hown
    have HG := Lib.hid g
    have HX := Lib.hid hx
    have HOwn := Lib.hid hown
    have HY := Lib.hid hy
    have HB := Lib.hid hb
    have kx := g.row.k x.1 x.2
    have x0 : W.cell? ⟨x.1.1, 0, none⟩ = some (.int .u32 x.1.2.ro) := kx.cell 0
    have x1 : W.cell? ⟨x.1.1, 1, none⟩ = some (.int .u32 x.1.2.ad) := kx.cell 1
    have x3 : W.cell? ⟨x.1.1, 3, none⟩ = some (.int .u8 x.1.2.pr) := kx.cell 3
    have x4 : W.cell? ⟨x.1.1, 4, none⟩ = some (.int .u32 x.1.2.dr) := kx.cell 4
    have x5 : W.cell? ⟨x.1.1, 5, none⟩ = some (.int .u32 x.1.2.bd) := kx.cell 5
    have xo : W.cell? ⟨O, 0, none⟩ = some (.slice va pre.length vm) := hx.cell 0
    have hOW : O < W.heap.size := by omega
    clear kx hx hown hy hb g
    gi_wp2_with fail
    refine wpIn_region_late (C := fun w' => ∃ u : Later W.heap.size W, w' = u.to) (.slice va pre.length vm) 26 28 (by kernel_rfl) (by kernel_rfl) (by kernel_rfl) (fun ⟨_, _, h⟩ => h) (fun _ _ _ h => h) ⟨rfl, ?_⟩ ⟨⟨W.drew, (Below.refl _ W).drew⟩, rfl⟩ ?_
    · rintro w' ⟨u, rfl⟩
      have hu := (u.ok.cell (p := ⟨O, 0, none⟩) hOW).trans xo
      simp [go_sem, hu]
    simp only [List.take_succ_cons, List.take_zero, List.drop_succ_cons, List.drop_zero, Nat.reduceSub]
    have hlx : x.1.1 < W.heap.size := lt_of_cell x0
    have u0 := later_cell (show (⟨x.1.1, 0, none⟩ : Addr).block < W.heap.size from hlx) x0
    have u1 := later_cell (show (⟨x.1.1, 1, none⟩ : Addr).block < W.heap.size from hlx) x1
    have u3 := later_cell (show (⟨x.1.1, 3, none⟩ : Addr).block < W.heap.size from hlx) x3
    have u4 := later_cell (show (⟨x.1.1, 4, none⟩ : Addr).block < W.heap.size from hlx) x4
    have u5 := later_cell (show (⟨x.1.1, 5, none⟩ : Addr).block < W.heap.size from hlx) x5
    simp only [Act.put, List.setIfInBounds_toArray, List.set_cons_succ, List.set_cons_zero]
    repeat (go_big_quiet_step (fail))
    refine wpQuiet_nil ?_
    rintro wx ⟨⟨wy, hwy⟩, hwe⟩
    obtain rfl : wx = wy := hwe
    refine wpListK_step rfl rfl ?_
    simp [Oper.wp, Oper.upon, go_sem]
    refine ⟨⟨⟨wx, hwy⟩, rfl⟩, ?_⟩
    refine wpListK_step rfl rfl ?_
    simp [Oper.wp, Oper.upon, go_sem]
    refine ⟨⟨⟨_, hwy.alloc hwy.size _⟩, rfl⟩, ?_⟩
    refine wpListK_of_list _ 28 _ _ (Nat.le_refl _) (fun j => match j with
      | 0 => rfl
      | 1 => rfl
      | j + 2 => by simp; omega) ?_
    obtain ⟨wz, hwz⟩ : ∃ wz, wz = wx.alloc (.cells #[.int .u32 x.1.2.ro, .int .u32 x.1.2.ad, .int .u8 x.1.2.pr, .int .u32 x.1.2.dr, .int .u32 x.1.2.bd] 178) := ⟨_, rfl⟩
    have HLit := Lib.hid (Reads.of_own (World.ownsRow_lit (base := 0) (e := 178) (size := 5) wx #[.int .u32 x.1.2.ro, .int .u32 x.1.2.ad, .int .u8 x.1.2.pr, .int .u32 x.1.2.dr, .int .u32 x.1.2.bd] 1 (Nat.zero_le _) (by simp [maxLen]) rfl))
    rw [← hwz] at HLit
    rw [← hwz]
    have hwW : Below W.heap.size W wz := by rw [hwz]; exact hwy.alloc hwy.size _
    have hownz : wz.ownsRow w2.heap.size 178 5 (.slice va pre.length vm) pre.length (voiceRows pre) := (Frame.of_below (S := fun _ => False) hwW).own HOwn.out (fun _ _ e => e)
    have hlp : pre.length < 60000 := by rw [List.length_attach] at hlen2; omega
    have hsW : W.heap.size ≤ wz.heap.size := hwW.size
    refine wpList_append_any _ rfl (.tmp 33) (.tmp 60) _ rfl w2.heap.size 178 i0 _ 5 20 Try.underlying179 hi hz0 hz1 hz2 rfl (by omega) (.slice va pre.length vm) pre.length _ rfl hownz _ (some ⟨wx.heap.size, 0, none⟩) 1 1 _ rfl HLit.out (by simp [Value.oneCell']) (by unfold maxLen; omega) (by omega) (by omega) ?_
    intro v1 w4 hown1 hg1 _
    have hb4 : ∀ k, k < W.heap.size → some k ≠ (Value.slice va pre.length vm).ownBlock → w4.heap[k]? = W.heap[k]? := fun k hk hne => (hg1.block k (by omega) hne).trans (hwW.block k hk)
    have hne : ∀ k, k < w2.heap.size → some k ≠ (Value.slice va pre.length vm).ownBlock := fun k hk e => by
      have := (own_cells hownz k e.symm).1
      omega
    have hX4 : Blk w4 O 179 #[.slice va pre.length vm] := (hb4 _ hOW (hne _ hlO)).trans HX.out
    have hX40 : w4.cell? ⟨O, 0, none⟩ = some (.slice va pre.length vm) := hX4.cell 0
    have hfz4 := hX4.frozen 0
    have hlt4 := hX4.lt
    obtain ⟨vb, vn, rfl⟩ := own_slice hown1
    have HOwn1 := Lib.hid hown1
    have HG1 := Lib.hid hg1
    have HB4 := Lib.hid hb4
    have HNe := Lib.hid hne
    have HWW := Lib.hid hwW
    have HOz := Lib.hid hownz
    clear hown1 hg1 hb4 hne hwW hownz xo x0 x1 x3 x4 x5 u0 u1 u3 u4 u5 hwy hwz
    go_wp2_with fail
    have hX5 : Blk (w4.setCell ⟨O, 0, none⟩ (.slice vb (pre.length + 1) vn)) O 179 #[.slice vb (pre.length + 1) vn] := hX4.set_ 0 _
    have hk5 : ∀ k, k < w2.heap.size → k ≠ O → (w4.setCell ⟨O, 0, none⟩ (.slice vb (pre.length + 1) vn)).heap[k]? = W.heap[k]? := fun k hk hx =>
      (Below.heap_setCell w4 _ _ k hx).trans (HB4.out k (by omega) (HNe.out k hk))
    have hs4 : wz.heap.size ≤ w4.heap.size := HG1.out.size
    have hs5 : (w4.setCell ⟨O, 0, none⟩ (.slice vb (pre.length + 1) vn)).heap.size = w4.heap.size := by simp [World.setCell]
    have hb4 : Below w.heap.size w w4 := (HB.out.trans (HWW.out.mono HB.out.size)).grown HG1.out (by have := HB.out.size; omega) (fun k e => by have := (own_cells HOz.out k e).1; omega)
    have ho5 : ∃ v, Blk (w4.setCell ⟨O, 0, none⟩ (.slice vb (pre.length + 1) vn)) O 179 #[v] ∧ (w4.setCell ⟨O, 0, none⟩ (.slice vb (pre.length + 1) vn)).ownsRow w2.heap.size 178 5 v (pre ++ [x]).length (voiceRows (pre ++ [x])) := by
      rw [List.length_append, voiceRows, List.flatMap_append]
      exact ⟨_, hX5, ((Frame.refl (fun k => k = O) w4).setCell (p := ⟨O, 0, none⟩) (fun _ => rfl) _).own HOwn1.out (fun g hg e => by have := (own_cells HOwn1.out g hg).1; omega)⟩
    have hSO : S ≠ O := by omega
    have hwO : w.heap.size ≠ O := by omega
    have hy5 : ∀ y ∈ [(S, 178, #[.int .u32 c.ro, .int .u32 c.ad, .int .u8 c.pr, .int .u32 dr, .int .u32 bd]), (w.heap.size, 78, #[.pointer (some ⟨B, 0, none⟩)])], Blk (w4.setCell ⟨O, 0, none⟩ (.slice vb (pre.length + 1) vn)) y.1 y.2.1 y.2.2 := by
      intro y hy
      have h := HY.out y hy
      rcases List.mem_cons.1 hy with rfl | hy
      · exact (hk5 S (by omega) hSO).trans h
      · obtain rfl := List.mem_singleton.1 hy
        exact (hk5 w.heap.size (by omega) hwO).trans h
    refine ⟨?_, fun g => g.keep (by decide) (by decide) hnf ⟨_, _, _, hX5⟩ hk5, HG.out.keep (by decide) (by decide) hnf ⟨_, _, _, hX5⟩ hk5, ho5, hy5, by omega, hb4.setCell (p := ⟨O, 0, none⟩) (by show w.heap.size ≤ O; omega) _⟩
    refine (below_others HWW.out).trans ((KeepsOthers.of_grownBy HG1.out ?_).trans (KeepsOthers.setCell _ _ _))
    intro j o e hj
    obtain ⟨_, cs, hc⟩ := own_cells HOz.out j e
    rw [hc] at hj
    cases hj
    rfl
  case done =>
    intro D ys W hD hys hIx hK
    rw [hI] at hIx
    obtain ⟨g, ⟨v, hx, hown⟩, hy, hsz, hb⟩ := hIx
    obtain ⟨va, vm, rfl⟩ := own_slice hown
    have hvs : voiceRows ys = ((xs.filter twoWayK).map voiceK).flatMap Ev.cells := by
      rw [hys, ← attach_filter_map xs twoWayK voiceK, voiceRows, List.flatMap_map]
    have hvl : ys.length = ((xs.filter twoWayK).map voiceK).length := by
      rw [hys, ← attach_filter_map xs twoWayK voiceK, List.length_map]
    obtain ⟨vs, hvs'⟩ : ∃ vs, vs = (xs.filter twoWayK).map voiceK := ⟨_, rfl⟩
    have HVS := Lib.hid hvs'
    rw [← hvs'] at hvs hvl
    have hvl6 : vs.length ≤ 60000 := by rw [hvs', List.length_map]; exact Nat.le_trans (List.length_filter_le _ _) hlen
    rw [hvs, hvl] at hown
    rw [hvl] at hx
    have KW := Lib.hid g.b
    have RW := Lib.hid g.row
    have HB := Lib.hid hb
    have HX := Lib.hid hx
    have HK := Lib.hid hK
    have s1 : Blk W S 178 #[.int .u32 c.ro, .int .u32 c.ad, .int .u8 c.pr, .int .u32 dr, .int .u32 bd] := hy (S, 178, _) (by simp)
    have a1 : Blk W w.heap.size 78 #[.pointer (some ⟨B, 0, none⟩)] := hy (w.heap.size, 78, _) (by simp)
    have A1 := Lib.hid a1
    have S1W := Lib.hid s1
    have hDl : D < W.heap.size := (Array.getElem?_eq_some_iff.1 hK).1
    have hE : Hid (∀ u : Later W.heap.size W, Calls Try.prog 111 #[.agg #[.int .u32 c.ro, .int .u32 c.ad, .int .u8 c.pr, .int .u32 dr, .int .u32 bd], .slice va vs.length vm] u.to fun e w' => e = .returned (.tuple #[.int .u32 (El.elect ⟨c.ro, c.ad, c.pr, dr, bd⟩ vs).1, .int .u32 (El.elect ⟨c.ro, c.ad, c.pr, dr, bd⟩ vs).2]) ∧ Below u.to.heap.size u.to w') := Lib.hid fun u =>
      Ev.elect_any c.ro c.ad c.pr dr bd va vs.length vm vs u.to rfl (by omega) (((Reads.of_own hown).below u.ok).more u.ok.size)
    obtain ⟨o, ho⟩ : ∃ o, o = El.elect ⟨c.ro, c.ad, c.pr, dr, bd⟩ vs := ⟨_, rfl⟩
    rw [← ho] at hE
    have HO := Lib.hid ho
    have b0 : W.cell? ⟨w.heap.size, 0, none⟩ = some (.pointer (some ⟨B, 0, none⟩)) := a1.cell 0
    have q0 : W.cell? ⟨S, 0, none⟩ = some (.int .u32 c.ro) := s1.cell 0
    have q1 : W.cell? ⟨S, 1, none⟩ = some (.int .u32 c.ad) := s1.cell 1
    have q2 : W.cell? ⟨S, 2, none⟩ = some (.int .u8 c.pr) := s1.cell 2
    have q3 : W.cell? ⟨S, 3, none⟩ = some (.int .u32 dr) := s1.cell 3
    have q4 : W.cell? ⟨S, 4, none⟩ = some (.int .u32 bd) := s1.cell 4
    have xo : W.cell? ⟨O, 0, none⟩ = some (.slice va vs.length vm) := hx.cell 0
    have hWB : B < W.heap.size := KW.out.lt
    have hWS : S < W.heap.size := s1.lt
    have hWO : O < W.heap.size := hx.lt
    have hWw : w.heap.size < W.heap.size := a1.lt
    clear g hx hown hy hsz hb hvs hvl hvs' hys hK s1 a1 ho
    have hDw2 : w2.heap.size ≤ D := hD
    dsimp only
    go_wp2_with fail
    refine wp_region_lexN (C := fun w' => w'.cell? ⟨w.heap.size, 0, none⟩ = some (.pointer (some ⟨B, 0, none⟩)) ∧ w'.cell? ⟨S, 0, none⟩ = some (.int .u32 c.ro) ∧ w'.cell? ⟨S, 1, none⟩ = some (.int .u32 c.ad) ∧ w'.cell? ⟨S, 2, none⟩ = some (.int .u8 c.pr) ∧ w'.cell? ⟨S, 3, none⟩ = some (.int .u32 dr) ∧ w'.cell? ⟨S, 4, none⟩ = some (.int .u32 bd) ∧ w'.cell? ⟨O, 0, none⟩ = some (.slice va vs.length vm)) 11 [true, true, true, true, false, true, true, true] (by kernel_rfl) (by kernel_rfl) ⟨b0, q0, q1, q2, q3, q4, xo⟩ ?_
    refine ⟨.pointer (some ⟨B, 0, none⟩), ⟨rfl, fun w' ⟨h, _⟩ => by simp [go_sem, h]⟩, ?_⟩
    refine ⟨.pointer (some ⟨B, 0, none⟩), ⟨rfl, fun w' ⟨h, _⟩ => by simp [go_sem, h, Act.put]⟩, ?_⟩
    refine ⟨.agg #[.int .u32 c.ro, .int .u32 c.ad, .int .u8 c.pr, .int .u32 dr, .int .u32 bd], ⟨rfl, fun w' ⟨_, h0, h1, h2, h3, h4, _⟩ => by simp [go_sem, Act.put, h0, h1, h2, h3, h4]⟩, ?_⟩
    refine ⟨.slice va vs.length vm, ⟨rfl, fun w' ⟨_, _, _, _, _, _, h⟩ => by simp [go_sem, Act.put, h]⟩, ?_⟩
    simp only [Act.put, List.setIfInBounds_toArray, List.set_cons_succ, List.set_cons_zero]
    refine wpLex_call rfl rfl ?hr (hE.out ⟨W.drew, (Below.refl _ W).drew⟩) ?_
    case hr => simp [go_sem]
    rintro e wx ⟨rfl, hbx⟩
    have hbx' : Below W.heap.size W wx := ⟨hbx.os, hbx.tape, hbx.output, hbx.size, hbx.block⟩
    have KX := Lib.hid (KW.out.below hbx' hWB)
    have AX := Lib.hid (A1.out.below hbx' hWw)
    have SX := Lib.hid (S1W.out.below hbx' hWS)
    have OX := Lib.hid (HX.out.below hbx' hWO)
    have HBX := Lib.hid hbx'
    have HBx := Lib.hid (HB.out.trans (hbx'.mono HB.out.size))
    refine ⟨_, rfl, ⟨AX.out.cell 0, SX.out.cell 0, SX.out.cell 1, SX.out.cell 2, SX.out.cell 3, SX.out.cell 4, OX.out.cell 0⟩, ?_⟩
    have hcx := Lib.hid (show wx.cell? ⟨w.heap.size, 0, none⟩ = some (.pointer (some ⟨B, 0, none⟩)) ∧ wx.cell? ⟨S, 0, none⟩ = some (.int .u32 c.ro) ∧ wx.cell? ⟨S, 1, none⟩ = some (.int .u32 c.ad) ∧ wx.cell? ⟨S, 2, none⟩ = some (.int .u8 c.pr) ∧ wx.cell? ⟨S, 3, none⟩ = some (.int .u32 dr) ∧ wx.cell? ⟨S, 4, none⟩ = some (.int .u32 bd) ∧ wx.cell? ⟨O, 0, none⟩ = some (.slice va vs.length vm) from ⟨AX.out.cell 0, SX.out.cell 0, SX.out.cell 1, SX.out.cell 2, SX.out.cell 3, SX.out.cell 4, OX.out.cell 0⟩)
    clear hbx hbx' b0 q0 q1 q2 q3 q4 xo
    refine ⟨.tuple #[.int .u32 o.1, .int .u32 o.2], ⟨rfl, fun w' _ => by simp [go_sem, Act.put]⟩, ?_⟩
    refine ⟨.int .u32 o.1, ⟨rfl, fun w' _ => by simp [go_sem, Act.put]⟩, ?_⟩
    refine ⟨.int .u32 o.2, ⟨rfl, fun w' _ => by simp [go_sem, Act.put]⟩, ?_⟩
    simp only [Act.put, List.setIfInBounds_toArray, List.set_cons_succ, List.set_cons_zero]
    refine wpListK_step rfl rfl ?_
    simp [Oper.wp, Oper.upon, go_sem]
    refine ⟨hcx.out, ?_⟩
    refine wpListK_step rfl rfl ?_
    simp [Oper.wp, Oper.upon, go_sem]
    refine ⟨hcx.out, ?_⟩
    refine wpListK_step rfl rfl ?_
    have d16 : wx.cell? ⟨B, 16, none⟩ = some (.int .u32 dr) := KX.out.cell 16
    have f16 := KX.out.frozen 16
    have hlx := KX.out.lt
    simp [Oper.wp, Oper.upon, go_sem, d16, f16]
    refine ⟨hcx.out, ?_⟩
    refine wpListK_of_list _ 11 _ _ (Nat.le_refl _) (fun j => match j with
      | 0 => rfl
      | 1 => rfl
      | 2 => rfl
      | j + 3 => by simp; omega) ?_
    have d17 : wx.cell? ⟨B, 17, none⟩ = some (.int .u32 bd) := KX.out.cell 17
    have f17 := KX.out.frozen 17
    go_wp2_with fail
    dsimp only [NormQ]
    obtain ⟨W5, hW5⟩ : ∃ W5, W5 = (wx.setCell ⟨B, 16, none⟩ (.int .u32 o.1)).setCell ⟨B, 17, none⟩ (.int .u32 o.2) := ⟨_, rfl⟩
    have hBw : w.heap.size ≠ B := by omega
    have K5 : Hid (Blk W5 B 119 (lks c st o.1 o.2 wt nx po re (.slice (some ⟨L, 0, none⟩) xs.length cap))) := Lib.hid (by rw [hW5]; exact (KX.out.set_ 16 _).set_ 17 _)
    have A5 : Hid (Blk W5 w.heap.size 78 #[.pointer (some ⟨B, 0, none⟩)]) := Lib.hid (by rw [hW5]; exact (AX.out.far (by simpa using hBw) _).far (by simpa using hBw) _)
    have F5 : Hid (Frame (fun j => j = B) w W5) := Lib.hid (by rw [hW5]; exact ((Frame.of_below HBx.out).setB 16 _).setB 17 _)
    have D5 : Hid (W5.heap[D]? = some (.deferred (some []))) := Lib.hid (by
      have h1 : wx.heap[D]? = some (.deferred (some [])) := (HBX.out.block D hDl).trans HK.out
      have hDB : D ≠ B := by
        rintro rfl
        have := HK.out.symm.trans KW.out
        cases this
      rw [hW5, Below.heap_setCell _ _ _ D hDB, Below.heap_setCell _ _ _ D hDB]
      exact h1)
    rw [← hW5]
    clear hW5 d16 f16 hlx d17 f17
    have b0 : W5.cell? ⟨w.heap.size, 0, none⟩ = some (.pointer (some ⟨B, 0, none⟩)) := A5.out.cell 0
    have k1 : W5.cell? ⟨B, 1, none⟩ = some (.int .u8 c.ty) := K5.out.cell 1
    have k5 : W5.cell? ⟨B, 5, none⟩ = some (.int .u32 c.ad) := K5.out.cell 5
    have k15 : W5.cell? ⟨B, 15, none⟩ = some (.int .u8 st) := K5.out.cell 15
    have k16 : W5.cell? ⟨B, 16, none⟩ = some (.int .u32 o.1) := K5.out.cell 16
    have k17 : W5.cell? ⟨B, 17, none⟩ = some (.int .u32 o.2) := K5.out.cell 17
    have f15 := K5.out.frozen 15
    have hl5 := K5.out.lt
    obtain ⟨o1, o2⟩ := o
    have hty := HTy.out
    rcases Bool.eq_false_or_eq_true (c.ad == o1) with s1 | s1
    · go_upto_region 13 with fail
      obtain ⟨W6, hW6⟩ : ∃ W6, W6 = W5.setCell ⟨B, 15, none⟩ (.int .u8 6) := ⟨_, rfl⟩
      have K6 : Hid (Blk W6 B 119 (lks c 6 o1 o2 wt nx po re (.slice (some ⟨L, 0, none⟩) xs.length cap))) := Lib.hid (by rw [hW6]; exact K5.out.set_ 15 _)
      have A6 : Hid (Blk W6 w.heap.size 78 #[.pointer (some ⟨B, 0, none⟩)]) := Lib.hid (by rw [hW6]; exact A5.out.far (by simpa using hBw) _)
      have F6 : Hid (Frame (fun j => j = B) w W6) := Lib.hid (by rw [hW6]; exact F5.out.setB 15 _)
      have hDB : D ≠ B := by
        rintro rfl
        have := D5.out.symm.trans K5.out
        cases this
      have hD6 : Hid (W6.heap[D]? = some (.deferred (some []))) := Lib.hid (by rw [hW6, Below.heap_setCell _ _ _ D hDB]; exact D5.out)
      have hst : elState c (o1, o2) = 6 := by simp [elState, s1]
      rw [← hW6]
      clear hW6 b0 k1 k5 k15 k16 k17 f15 hl5
      have e0 : W6.cell? ⟨w.heap.size, 0, none⟩ = some (.pointer (some ⟨B, 0, none⟩)) := A6.out.cell 0
      have e1 : W6.cell? ⟨B, 1, none⟩ = some (.int .u8 c.ty) := K6.out.cell 1
      have e15 : W6.cell? ⟨B, 15, none⟩ = some (.int .u8 6) := K6.out.cell 15
      go_wp2_with fail
      refine (all_made _ _ _ ⟨_, rfl⟩ ⟨_, _, _, rfl⟩).mono ?_
      rintro e w7 ⟨rfl, hb7, j1, j2⟩
      have h7l : W6.heap.size + 1 < w7.heap.size := lt_of_cell j2
      have K7 := Lib.hid (K6.out.below hb7 K6.out.lt)
      have A7 := Lib.hid (A6.out.below hb7 A6.out.lt)
      have F7 : Hid (Frame (fun j => j = B) w w7) := Lib.hid (F6.out.trans (Frame.of_below hb7))
      have hDl6 : D < W6.heap.size := (Array.getElem?_eq_some_iff.1 hD6.out).1
      have hD7 : Hid (w7.heap[D]? = some (.deferred (some []))) := Lib.hid ((hb7.block D hDl6).trans hD6.out)
      have hsz7 : W6.heap.size ≤ w7.heap.size := hb7.size
      clear hb7 e0 e1 e15
      have L7 : Blk w7 L 137 cur := F7.out.blk HLc.out (HLc.out.ne_ K.out (by decide))
      have R7 : RowAt w7 L xs := ⟨fun j x hj => (World.cell?_of_block (a := ⟨L, j, none⟩) (L7.trans HLc.out.symm)).trans (HRow.out.r j x hj), fun x hx => F7.out.blk (HRow.out.k x hx) ((HRow.out.k x hx).ne_ K.out (by decide))⟩
      have hs7 : w.heap.size ≤ w7.heap.size := F7.out.size
      have hLw := HLc.out.lt
      have G7 : Hid (GN w7 B c 6 o1 o2 wt nx po re L cap xs W6.heap.size (W6.heap.size + 1) w.heap.size w7) := Lib.hid
        ⟨K7.out, ⟨cur, L7⟩, ⟨R7.r, fun x hx => .inl (R7.k x hx)⟩, j1, j2, A7.out.cell 0, K7.out.lt, by omega, by omega, A7.out.lt, by omega, fun x hx => by have := hwx x hx; omega⟩
      have HD7K : Hid (∀ x ∈ xs, x.1 ≠ D) := Lib.hid (fun x hx e => by
        have h1 := R7.k x hx
        rw [e] at h1
        have := h1.symm.trans hD7.out
        cases this)
      obtain ⟨G, hG⟩ : ∃ G, G = GN w7 B c 6 o1 o2 wt nx po re L cap xs W6.heap.size (W6.heap.size + 1) w.heap.size := ⟨_, rfl⟩
      have hseq := all_stops_elect2w 2 (by omega) w7 G (fun x : Nat × Kn => x.1) (fun x => x.2.st = 0) B W6.heap.size (W6.heap.size + 1) L cap xs (by omega) (by rw [hG]; exact GN.good) (by rw [hG]; exact fun W h => G7.out.keep (fun k hk => h.block k hk))
        (fun W x g hx => by rw [hG] at g; exact elect2_any g hx)
      obtain ⟨I, hI⟩ : ∃ I : List { x : Nat × Kn // x ∈ xs ∧ x.2.st = 0 } → World → Prop, I = fun _ W => IN w7 B c 6 o1 o2 wt nx po re L cap xs W6.heap.size (W6.heap.size + 1) w.heap.size W := ⟨_, rfl⟩
      have hIo : OwnFrom w7.heap.size I := by rw [hI]; exact IN.own
      have hI0 : I [] w7 := by rw [hI]; exact ⟨G7.out, Frame.refl _ _⟩
      go_wp2_with fail
      rw [← wpIn_wide (n := 3)]
      refine wpIn_rangeFunc_ownF (F := Fence.wide) (n := 3) rfl (by omega) rfl trivial enters_all1 hseq (fun h k g => k (h g)) (fun W l o o' hl _ _ _ g => by rw [hG] at g ⊢; exact g.keep (fun k hk => World.putObj_heap_other (by omega))) (Below.refl _ _) (fun _ => rfl) I (fun _ _ _ => False) hIo (fun _ _ _ _ _ hs _ _ => hs) hI0 ?a6 ?assign6 ?body6 ?done6 (fun _ _ _ _ _ _ h _ => h.elim)
      case assign6 =>
        intro l x W K hK
        gi_wp2
        exact hK
      case body6 =>
        intro l pre x W hIx hlen2
        rw [hI] at hIx
        obtain ⟨g, hf⟩ := hIx
        have HG := Lib.hid g
        have HF := Lib.hid hf
        obtain ⟨kn, hkx, hkn⟩ : ∃ kn : Kn, Blk W x.1.1 139 kn.cells ∧ (kn = x.1.2 ∨ kn = updK c x.1.2) := by
          rcases g.row.2 x.1 x.2.1 with h | ⟨_, h⟩
          · exact ⟨_, h, .inl rfl⟩
          · exact ⟨_, h, .inr rfl⟩
        have HKX := Lib.hid hkx
        have x2 : W.cell? ⟨x.1.1, 2, none⟩ = some (.int .u8 kn.st) := hkx.cell 2
        have x7 : W.cell? ⟨x.1.1, 7, none⟩ = some (.int .u32 kn.lf) := hkx.cell 7
        have fx := hkx.frozen
        have hlx := hkx.lt
        have hl0 : W.cell? ⟨w.heap.size, 0, none⟩ = some (.pointer (some ⟨B, 0, none⟩)) := g.p2
        have hl8 : W.cell? ⟨B, 8, none⟩ = some (.int .u32 c.dd) := g.b.cell 8
        clear hkx g hf
        gi_wp2_with fail
        have hk5 : Blk ((W.setCell ⟨x.1.1, 2, none⟩ (.int .u8 1)).setCell ⟨x.1.1, 7, none⟩ (.int .u32 c.dd)) x.1.1 139 (updK c x.1.2).cells := by
          have := (HKX.out.set_ 2 (.int .u8 1)).set_ 7 (.int .u32 c.dd)
          rcases hkn with rfl | rfl
          · exact this
          · exact this
        have hF5 : Frame (fun j => j = x.1.1) W ((W.setCell ⟨x.1.1, 2, none⟩ (.int .u8 1)).setCell ⟨x.1.1, 7, none⟩ (.int .u32 c.dd)) := ((Frame.refl _ W).setB 2 _).setB 7 _
        have hs5 := hF5.size
        refine ⟨(KeepsOthers.setCell _ _ _).trans (KeepsOthers.setCell _ _ _), fun g => ?_, ?_⟩
        · rw [hG] at g ⊢
          exact g.step HInj.out x.2.1 x.2.2 hk5 hF5
        · rw [hI]
          exact ⟨HG.out.step HInj.out x.2.1 x.2.2 hk5 hF5, HF.out.trans (hF5.mono fun j e => ⟨x.1, x.2.1, e.symm⟩)⟩
      case done6 =>
        intro D2 ys W hDD _ hIx hK
        rw [hI] at hIx
        obtain ⟨g, hf⟩ := hIx
        have HG := Lib.hid g
        have HF := Lib.hid hf
        have HK2 := Lib.hid hK
        clear g hf hK
        dsimp only
        go_wp2_with fail
        have hDl7 : D < w7.heap.size := by omega
        have hDW : W.heap[D]? = some (.deferred (some [])) := (HF.out.block D hDl7 (fun ⟨x, hx, e⟩ => HD7K.out x hx e)).trans hD7.out
        have hDD2 : D ≠ D2 := by omega
        have hD8 : (W.putObj D2 (.deferred none)).heap[D]? = some (.deferred (some [])) := (World.putObj_heap_other hDD2).trans hDW
        refine ⟨by simp, .inl ⟨_, _, rfl, run_takeDeferred HK2.out, ⟨by simp, .inl ⟨_, _, rfl, run_takeDeferred hD8, ?_⟩⟩⟩⟩
        have hB2 : B ≠ D2 := by have := G7.out.lt.1; omega
        have hBD : B ≠ D := fun e => hDB e.symm
        have k8 := (HG.out.b.grown (grownBy_putObj' W D2 (.deferred none)) (by simpa using hB2)).grown (grownBy_putObj' _ D (.deferred none)) (by simpa using hBD)
        have F9 : Frame (fun j => j = B ∨ ∃ x ∈ xs, x.1 = j) w ((W.putObj D2 (.deferred none)).putObj D (.deferred none)) :=
          ((((F7.out.mono fun j e => Or.inl e).trans' HF.out (fun j _ e => Or.inr e)).trans' (Frame.of_grown (S := fun k => k = D2) (grownBy_putObj' W D2 (.deferred none)) (fun k e _ => (Option.some.inj e).symm)) (fun j hj e => by have h1 : j = D2 := e; omega)).trans' (Frame.of_grown (S := fun k => k = D) (grownBy_putObj' _ D (.deferred none)) (fun k e _ => (Option.some.inj e).symm)) (fun j hj e => by have h1 : j = D := e; omega))
        have hks : ∀ x : Nat × Kn, ∃ kk : Kn, x ∈ xs → Blk ((W.putObj D2 (.deferred none)).putObj D (.deferred none)) x.1 139 kk.cells ∧ (kk = x.2 ∨ (x.2.st = 0 ∧ kk = updK c x.2)) := by
          intro x
          by_cases hx : x ∈ xs
          · have hx2 : x.1 ≠ D2 := by have := G7.out.lt.2.2.2.2.2 x hx; omega
            have hxD : x.1 ≠ D := HD7K.out x hx
            rcases HG.out.row.2 x hx with h | ⟨h0, h⟩
            · exact ⟨x.2, fun _ => ⟨(h.grown (grownBy_putObj' W D2 (.deferred none)) (by simpa using hx2)).grown (grownBy_putObj' _ D (.deferred none)) (by simpa using hxD), .inl rfl⟩⟩
            · exact ⟨updK c x.2, fun _ => ⟨(h.grown (grownBy_putObj' W D2 (.deferred none)) (by simpa using hx2)).grown (grownBy_putObj' _ D (.deferred none)) (by simpa using hxD), .inr ⟨h0, rfl⟩⟩⟩
          · exact ⟨x.2, fun h => absurd h hx⟩
        obtain ⟨ks, hks⟩ := Classical.axiomOfChoice hks
        refine ⟨.tuple #[], by simp [results, Try.f76, go_sem], rfl, ?_, ks, hks, F9⟩
        unfold elOut
        rw [← HVS.out, ← HO.out, hst]
        exact k8
    · rcases Bool.eq_false_or_eq_true (c.ad == o2) with s2 | s2
      · go_upto_region 13 with fail
        obtain ⟨W6, hW6⟩ : ∃ W6, W6 = W5.setCell ⟨B, 15, none⟩ (.int .u8 5) := ⟨_, rfl⟩
        have K6 : Hid (Blk W6 B 119 (lks c 5 o1 o2 wt nx po re (.slice (some ⟨L, 0, none⟩) xs.length cap))) := Lib.hid (by rw [hW6]; exact K5.out.set_ 15 _)
        have A6 : Hid (Blk W6 w.heap.size 78 #[.pointer (some ⟨B, 0, none⟩)]) := Lib.hid (by rw [hW6]; exact A5.out.far (by simpa using hBw) _)
        have F6 : Hid (Frame (fun j => j = B) w W6) := Lib.hid (by rw [hW6]; exact F5.out.setB 15 _)
        have hDB : D ≠ B := by
          rintro rfl
          have := D5.out.symm.trans K5.out
          cases this
        have hD6 : Hid (W6.heap[D]? = some (.deferred (some []))) := Lib.hid (by rw [hW6, Below.heap_setCell _ _ _ D hDB]; exact D5.out)
        have hst : elState c (o1, o2) = 5 := by simp [elState, s1, s2]
        rw [← hW6]
        clear hW6 b0 k1 k5 k15 k16 k17 f15 hl5
        have e0 : W6.cell? ⟨w.heap.size, 0, none⟩ = some (.pointer (some ⟨B, 0, none⟩)) := A6.out.cell 0
        have e1 : W6.cell? ⟨B, 1, none⟩ = some (.int .u8 c.ty) := K6.out.cell 1
        have e15 : W6.cell? ⟨B, 15, none⟩ = some (.int .u8 5) := K6.out.cell 15
        go_wp2_with fail
        refine (all_made _ _ _ ⟨_, rfl⟩ ⟨_, _, _, rfl⟩).mono ?_
        rintro e w7 ⟨rfl, hb7, j1, j2⟩
        have h7l : W6.heap.size + 1 < w7.heap.size := lt_of_cell j2
        have K7 := Lib.hid (K6.out.below hb7 K6.out.lt)
        have A7 := Lib.hid (A6.out.below hb7 A6.out.lt)
        have F7 : Hid (Frame (fun j => j = B) w w7) := Lib.hid (F6.out.trans (Frame.of_below hb7))
        have hDl6 : D < W6.heap.size := (Array.getElem?_eq_some_iff.1 hD6.out).1
        have hD7 : Hid (w7.heap[D]? = some (.deferred (some []))) := Lib.hid ((hb7.block D hDl6).trans hD6.out)
        have hsz7 : W6.heap.size ≤ w7.heap.size := hb7.size
        clear hb7 e0 e1 e15
        have L7 : Blk w7 L 137 cur := F7.out.blk HLc.out (HLc.out.ne_ K.out (by decide))
        have R7 : RowAt w7 L xs := ⟨fun j x hj => (World.cell?_of_block (a := ⟨L, j, none⟩) (L7.trans HLc.out.symm)).trans (HRow.out.r j x hj), fun x hx => F7.out.blk (HRow.out.k x hx) ((HRow.out.k x hx).ne_ K.out (by decide))⟩
        have hs7 : w.heap.size ≤ w7.heap.size := F7.out.size
        have hLw := HLc.out.lt
        have G7 : Hid (GN w7 B c 5 o1 o2 wt nx po re L cap xs W6.heap.size (W6.heap.size + 1) w.heap.size w7) := Lib.hid
          ⟨K7.out, ⟨cur, L7⟩, ⟨R7.r, fun x hx => .inl (R7.k x hx)⟩, j1, j2, A7.out.cell 0, K7.out.lt, by omega, by omega, A7.out.lt, by omega, fun x hx => by have := hwx x hx; omega⟩
        have HD7K : Hid (∀ x ∈ xs, x.1 ≠ D) := Lib.hid (fun x hx e => by
          have h1 := R7.k x hx
          rw [e] at h1
          have := h1.symm.trans hD7.out
          cases this)
        obtain ⟨G, hG⟩ : ∃ G, G = GN w7 B c 5 o1 o2 wt nx po re L cap xs W6.heap.size (W6.heap.size + 1) w.heap.size := ⟨_, rfl⟩
        have hseq := all_stops_elect2w 2 (by omega) w7 G (fun x : Nat × Kn => x.1) (fun x => x.2.st = 0) B W6.heap.size (W6.heap.size + 1) L cap xs (by omega) (by rw [hG]; exact GN.good) (by rw [hG]; exact fun W h => G7.out.keep (fun k hk => h.block k hk))
          (fun W x g hx => by rw [hG] at g; exact elect2_any g hx)
        obtain ⟨I, hI⟩ : ∃ I : List { x : Nat × Kn // x ∈ xs ∧ x.2.st = 0 } → World → Prop, I = fun _ W => IN w7 B c 5 o1 o2 wt nx po re L cap xs W6.heap.size (W6.heap.size + 1) w.heap.size W := ⟨_, rfl⟩
        have hIo : OwnFrom w7.heap.size I := by rw [hI]; exact IN.own
        have hI0 : I [] w7 := by rw [hI]; exact ⟨G7.out, Frame.refl _ _⟩
        go_wp2_with fail
        rw [← wpIn_wide (n := 3)]
        refine wpIn_rangeFunc_ownF (F := Fence.wide) (n := 3) rfl (by omega) rfl trivial enters_all1 hseq (fun h k g => k (h g)) (fun W l o o' hl _ _ _ g => by rw [hG] at g ⊢; exact g.keep (fun k hk => World.putObj_heap_other (by omega))) (Below.refl _ _) (fun _ => rfl) I (fun _ _ _ => False) hIo (fun _ _ _ _ _ hs _ _ => hs) hI0 ?a5 ?assign5 ?body5 ?done5 (fun _ _ _ _ _ _ h _ => h.elim)
        case assign5 =>
          intro l x W K hK
          gi_wp2
          exact hK
        case body5 =>
          intro l pre x W hIx hlen2
          rw [hI] at hIx
          obtain ⟨g, hf⟩ := hIx
          have HG := Lib.hid g
          have HF := Lib.hid hf
          obtain ⟨kn, hkx, hkn⟩ : ∃ kn : Kn, Blk W x.1.1 139 kn.cells ∧ (kn = x.1.2 ∨ kn = updK c x.1.2) := by
            rcases g.row.2 x.1 x.2.1 with h | ⟨_, h⟩
            · exact ⟨_, h, .inl rfl⟩
            · exact ⟨_, h, .inr rfl⟩
          have HKX := Lib.hid hkx
          have x2 : W.cell? ⟨x.1.1, 2, none⟩ = some (.int .u8 kn.st) := hkx.cell 2
          have x7 : W.cell? ⟨x.1.1, 7, none⟩ = some (.int .u32 kn.lf) := hkx.cell 7
          have fx := hkx.frozen
          have hlx := hkx.lt
          have hl0 : W.cell? ⟨w.heap.size, 0, none⟩ = some (.pointer (some ⟨B, 0, none⟩)) := g.p2
          have hl8 : W.cell? ⟨B, 8, none⟩ = some (.int .u32 c.dd) := g.b.cell 8
          clear hkx g hf
          gi_wp2_with fail
          have hk5 : Blk ((W.setCell ⟨x.1.1, 2, none⟩ (.int .u8 1)).setCell ⟨x.1.1, 7, none⟩ (.int .u32 c.dd)) x.1.1 139 (updK c x.1.2).cells := by
            have := (HKX.out.set_ 2 (.int .u8 1)).set_ 7 (.int .u32 c.dd)
            rcases hkn with rfl | rfl
            · exact this
            · exact this
          have hF5 : Frame (fun j => j = x.1.1) W ((W.setCell ⟨x.1.1, 2, none⟩ (.int .u8 1)).setCell ⟨x.1.1, 7, none⟩ (.int .u32 c.dd)) := ((Frame.refl _ W).setB 2 _).setB 7 _
          have hs5 := hF5.size
          refine ⟨(KeepsOthers.setCell _ _ _).trans (KeepsOthers.setCell _ _ _), fun g => ?_, ?_⟩
          · rw [hG] at g ⊢
            exact g.step HInj.out x.2.1 x.2.2 hk5 hF5
          · rw [hI]
            exact ⟨HG.out.step HInj.out x.2.1 x.2.2 hk5 hF5, HF.out.trans (hF5.mono fun j e => ⟨x.1, x.2.1, e.symm⟩)⟩
        case done5 =>
          intro D2 ys W hDD _ hIx hK
          rw [hI] at hIx
          obtain ⟨g, hf⟩ := hIx
          have HG := Lib.hid g
          have HF := Lib.hid hf
          have HK2 := Lib.hid hK
          clear g hf hK
          dsimp only
          go_wp2_with fail
          have hDl7 : D < w7.heap.size := by omega
          have hDW : W.heap[D]? = some (.deferred (some [])) := (HF.out.block D hDl7 (fun ⟨x, hx, e⟩ => HD7K.out x hx e)).trans hD7.out
          have hDD2 : D ≠ D2 := by omega
          have hD8 : (W.putObj D2 (.deferred none)).heap[D]? = some (.deferred (some [])) := (World.putObj_heap_other hDD2).trans hDW
          refine ⟨by simp, .inl ⟨_, _, rfl, run_takeDeferred HK2.out, ⟨by simp, .inl ⟨_, _, rfl, run_takeDeferred hD8, ?_⟩⟩⟩⟩
          have hB2 : B ≠ D2 := by have := G7.out.lt.1; omega
          have hBD : B ≠ D := fun e => hDB e.symm
          have k8 := (HG.out.b.grown (grownBy_putObj' W D2 (.deferred none)) (by simpa using hB2)).grown (grownBy_putObj' _ D (.deferred none)) (by simpa using hBD)
          have F9 : Frame (fun j => j = B ∨ ∃ x ∈ xs, x.1 = j) w ((W.putObj D2 (.deferred none)).putObj D (.deferred none)) :=
            ((((F7.out.mono fun j e => Or.inl e).trans' HF.out (fun j _ e => Or.inr e)).trans' (Frame.of_grown (S := fun k => k = D2) (grownBy_putObj' W D2 (.deferred none)) (fun k e _ => (Option.some.inj e).symm)) (fun j hj e => by have h1 : j = D2 := e; omega)).trans' (Frame.of_grown (S := fun k => k = D) (grownBy_putObj' _ D (.deferred none)) (fun k e _ => (Option.some.inj e).symm)) (fun j hj e => by have h1 : j = D := e; omega))
          have hks : ∀ x : Nat × Kn, ∃ kk : Kn, x ∈ xs → Blk ((W.putObj D2 (.deferred none)).putObj D (.deferred none)) x.1 139 kk.cells ∧ (kk = x.2 ∨ (x.2.st = 0 ∧ kk = updK c x.2)) := by
            intro x
            by_cases hx : x ∈ xs
            · have hx2 : x.1 ≠ D2 := by have := G7.out.lt.2.2.2.2.2 x hx; omega
              have hxD : x.1 ≠ D := HD7K.out x hx
              rcases HG.out.row.2 x hx with h | ⟨h0, h⟩
              · exact ⟨x.2, fun _ => ⟨(h.grown (grownBy_putObj' W D2 (.deferred none)) (by simpa using hx2)).grown (grownBy_putObj' _ D (.deferred none)) (by simpa using hxD), .inl rfl⟩⟩
              · exact ⟨updK c x.2, fun _ => ⟨(h.grown (grownBy_putObj' W D2 (.deferred none)) (by simpa using hx2)).grown (grownBy_putObj' _ D (.deferred none)) (by simpa using hxD), .inr ⟨h0, rfl⟩⟩⟩
            · exact ⟨x.2, fun h => absurd h hx⟩
          obtain ⟨ks, hks⟩ := Classical.axiomOfChoice hks
          refine ⟨.tuple #[], by simp [results, Try.f76, go_sem], rfl, ?_, ks, hks, F9⟩
          unfold elOut
          rw [← HVS.out, ← HO.out, hst]
          exact k8
      · go_wp2_with fail
        obtain ⟨W6, hW6⟩ : ∃ W6, W6 = W5.setCell ⟨B, 15, none⟩ (.int .u8 4) := ⟨_, rfl⟩
        have K6 : Hid (Blk W6 B 119 (lks c 4 o1 o2 wt nx po re (.slice (some ⟨L, 0, none⟩) xs.length cap))) := Lib.hid (by rw [hW6]; exact K5.out.set_ 15 _)
        have A6 : Hid (Blk W6 w.heap.size 78 #[.pointer (some ⟨B, 0, none⟩)]) := Lib.hid (by rw [hW6]; exact A5.out.far (by simpa using hBw) _)
        have F6 : Hid (Frame (fun j => j = B) w W6) := Lib.hid (by rw [hW6]; exact F5.out.setB 15 _)
        have hDB : D ≠ B := by
          rintro rfl
          have := D5.out.symm.trans K5.out
          cases this
        have hD6 : Hid (W6.heap[D]? = some (.deferred (some []))) := Lib.hid (by rw [hW6, Below.heap_setCell _ _ _ D hDB]; exact D5.out)
        have hst : elState c (o1, o2) = 4 := by simp [elState, s1, s2]
        rw [← hW6]
        clear hW6 b0 k1 k5 k15 k16 k17 f15 hl5
        refine ⟨by simp, .inl ⟨_, _, rfl, run_takeDeferred hD6.out, ?_⟩⟩
        have k9 := K6.out.grown (grownBy_putObj' W6 D (.deferred none)) (by simpa using fun e => hDB e.symm)
        have hDF : ∀ j, j < w.heap.size → j = D → j = B := fun j hj e => by have := hsw2; omega
        have F9 : Frame (fun j => j = B) w (W6.putObj D (.deferred none)) := F6.out.trans' (Frame.of_grown (S := fun k => k = D) (grownBy_putObj' W6 D (.deferred none)) (fun k e _ => (Option.some.inj e).symm)) hDF
        refine ⟨.tuple #[], by simp [results, Try.f76, go_sem], rfl, ?_, fun x => x.2, fun x hx => ⟨F9.blk (HRow.out.k x hx) ((HRow.out.k x hx).ne_ K.out (by decide)), .inl rfl⟩, F9.mono fun j e => .inl e⟩
        unfold elOut
        rw [← HVS.out, ← HO.out, hst]
        exact k9
end Go.Proofs.Ytgbmhijgpdgdbaa
