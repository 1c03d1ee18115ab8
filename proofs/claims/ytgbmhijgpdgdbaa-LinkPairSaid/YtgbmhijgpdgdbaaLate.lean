/- The law of a late load, behind a first operation that asks no world. -/
import Derived.Test.YtgbmhijgpdgdbaaAllNone
import Derived.Test.YtgbmhijgpdgdbaaTail
import Derived.Test.YtgbmhijgpdgdbaaFirst
import Derived.Test.YtgbmhijgpdgdbaaHelloNone
namespace Go.Proofs.Ytgbmhijgpdgdbaa
open Go.RowKit Go.Shelf

attribute [local go_sem] Oper.semAt_some

/-- What is known of a neighbour. -/
structure Kn where
  ro : Int
  ad : Int
  st : Int
  pr : Int
  dr : Int
  bd : Int
  op : Int
  lf : Int
  wa : Bool
  fu : Bool
def Kn.cells (k : Kn) : Array Value := #[.int .u32 k.ro, .int .u32 k.ad, .int .u8 k.st, .int .u8 k.pr, .int .u32 k.dr, .int .u32 k.bd, .int .u8 k.op, .int .u32 k.lf, .bool k.wa, .bool k.fu]

/-- A row of neighbours, each in its block. -/
structure RowAt (w : World) (L : Nat) (xs : List (Nat × Kn)) : Prop where
  r : ∀ (j : Nat) (x : Nat × Kn), xs[j]? = some x → w.cell? ⟨L, j, none⟩ = some (.pointer (some ⟨x.1, 0, none⟩))
  k : ∀ x ∈ xs, Blk w x.1 139 x.2.cells

theorem send_info : (Try.prog.info? 105).map (fun i => (i.zero, i.size, i.bytes)) = some (some (.agg #[.int .u32 0, .int .u32 0, .int .u16 0, .int .u8 0, .int .u8 0, .int .u32 0, .int .u32 0, .int .u32 0, .slice none 0 0]), 9, 56) := by kernel_rfl

/-- What a round of peers leans on. -/
structure GR (w0 : World) (B : Nat) (c : LC) (st dr bd wt nx po re : Int) (L cap : Nat) (xs : List (Nat × Kn)) (Bl Bi C0 C1 X : Nat) (W : World) : Prop where
  b : Blk W B 119 (lks c st dr bd wt nx po re (.slice (some ⟨L, 0, none⟩) xs.length cap))
  row : RowAt W L xs
  p0 : W.cell? ⟨Bl, 0, none⟩ = some (.pointer (some ⟨B, 0, none⟩))
  p1 : W.cell? ⟨Bi, 0, none⟩ = some (.func (.func 103) #[] #[.pointer (some ⟨C0, 0, none⟩), .pointer (some ⟨C1, 0, none⟩)])
  p2 : W.cell? ⟨C0, 0, none⟩ = some (.pointer (some ⟨B, 0, none⟩))
  p3 : W.cell? ⟨C1, 0, none⟩ = some (.bool false)
  xb : ∃ a n k, Blk W X 85 #[.slice a n k]
  lt : X < w0.heap.size ∧ B < w0.heap.size ∧ Bl < w0.heap.size ∧ Bi < w0.heap.size ∧ C0 < w0.heap.size ∧ C1 < w0.heap.size ∧ (xs ≠ [] → L < w0.heap.size) ∧ ∀ x ∈ xs, x.1 < w0.heap.size

section
variable {w0 : World} {B : Nat} {c : LC} {st dr bd wt nx po re : Int} {L cap : Nat} {xs : List (Nat × Kn)} {Bl Bi C0 C1 X : Nat} {W W' : World}

theorem cell_ne_blk {W : World} {X b i : Nat} {v u : Value} (hx : Blk W X 85 #[v]) (h : W.cell? ⟨b, i, none⟩ = some u) (hs : ∀ a n k, u ≠ .slice a n k) (hv : ∃ a n k, v = .slice a n k) : b ≠ X := by
  rintro rfl
  rw [hx.cell i] at h
  obtain ⟨a, n, k, rfl⟩ := hv
  match i, h with
  | 0, h => simp at h; exact hs a n k h.symm
  | i + 1, h => simp at h

theorem GR.keep (g : GR w0 B c st dr bd wt nx po re L cap xs Bl Bi C0 C1 X W) (hx : ∃ a n k, Blk W' X 85 #[.slice a n k])
    (hk : ∀ k, k < w0.heap.size → k ≠ X → W'.heap[k]? = W.heap[k]?) : GR w0 B c st dr bd wt nx po re L cap xs Bl Bi C0 C1 X W' := by
  obtain ⟨a, n, k, xv⟩ := g.xb
  have hv' : ∃ a' n' k', Value.slice a n k = .slice a' n' k' := ⟨_, _, _, rfl⟩
  have key : ∀ (b i : Nat) (u : Value), b < w0.heap.size → W.cell? ⟨b, i, none⟩ = some u → (∀ a n k, u ≠ .slice a n k) → W'.cell? ⟨b, i, none⟩ = some u := by
    intro b i u hb h hs
    have hne := cell_ne_blk xv h hs hv'
    exact (World.cell?_of_block (a := ⟨b, i, none⟩) (hk b hb hne)).trans h
  have hB : B ≠ X := g.b.ne_ xv (by decide)
  refine ⟨(hk B g.lt.2.1 hB).trans g.b, ⟨fun j x hj => ?_, fun x hxm => ?_⟩, ?_, ?_, ?_, ?_, hx, g.lt⟩
  · exact key _ _ _ (g.lt.2.2.2.2.2.2.1 (by rintro rfl; simp at hj)) (g.row.r j x hj) (by intro a n k e; cases e)
  · have hne : x.1 ≠ X := (g.row.k x hxm).ne_ xv (by decide)
    exact (hk x.1 (g.lt.2.2.2.2.2.2.2 x hxm) hne).trans (g.row.k x hxm)
  · exact key _ _ _ g.lt.2.2.1 g.p0 (by intro a n k e; cases e)
  · exact key _ _ _ g.lt.2.2.2.1 g.p1 (by intro a n k e; cases e)
  · exact key _ _ _ g.lt.2.2.2.2.1 g.p2 (by intro a n k e; cases e)
  · exact key _ _ _ g.lt.2.2.2.2.2.1 g.p3 (by intro a n k e; cases e)

theorem GR.good : Good (α := { x // x ∈ xs }) (GR w0 B c st dr bd wt nx po re L cap xs Bl Bi C0 C1 X) (fun x => x.1.1) B Bl Bi L (.func (.func 103) #[] #[.pointer (some ⟨C0, 0, none⟩), .pointer (some ⟨C1, 0, none⟩)]) xs.attach cap where
  d := fun W q g => ⟨g.b, ⟨g.row.r, g.row.k⟩, g.p0, g.p1, g.p2, g.p3, g.xb, g.lt⟩
  h1 := fun W g => g.p0
  h2 := fun W g => by rw [List.length_attach]; exact g.b.cell 22
  hi := fun W g => g.p1
  hr := fun W g j x hj => g.row.r j x.1 (by
    have := congrArg (Option.map Subtype.val) hj
    rwa [← List.getElem?_map, List.attach_map_subtype_val] at this)
/-- What the rounds have laid by. -/
structure IR (w : World) (w0 : World) (B : Nat) (c : LC) (st dr bd wt nx po re : Int) (L cap : Nat) (xs : List (Nat × Kn)) (Bl Bi C0 C1 X Y : Nat) (k : Nat) (W : World) : Prop where
  g : GR w0 B c st dr bd wt nx po re L cap xs Bl Bi C0 C1 X W
  o : ∃ v rows, Blk W X 85 #[v] ∧ W.ownsRow w0.heap.size 105 9 v k rows
  y : Blk W Y 85 #[.slice none 0 0]
  s : w0.heap.size ≤ W.heap.size
  b : Below w.heap.size w W

theorem own_cells {w : World} {base : Nat} {e : TypeId} {size n : Nat} {v : Value} {xs : List Value} (h : w.ownsRow base e size v n xs) (g : Nat) (hg : v.ownBlock = some g) : base ≤ g ∧ ∃ cs, w.heap[g]? = some (.cells cs e (0, 0)) := by
  rcases h.2 with ⟨rfl, _⟩ | ⟨g', cap, cur, rfl, hb, hh, _⟩
  · cases hg
  · cases hg
    exact ⟨hb, _, hh⟩

theorem IR.own {w : World} {Y : Nat} (hw : w.heap.size ≤ w0.heap.size) (hY : Y < w0.heap.size) {β : Type} (f : β → Nat) : OwnFrom w0.heap.size (fun (s : β) W => IR w w0 B c st dr bd wt nx po re L cap xs Bl Bi C0 C1 X Y (f s) W) := by
  rintro s W W' row ⟨g, ⟨v, rows, hx, ho⟩, y, hs, hb⟩ hg hr
  have hk : ∀ k, k < w0.heap.size → W'.heap[k]? = W.heap[k]? := fun k hk => hg.block k (by omega) (fun e => by have := (hr k e.symm).1; omega)
  obtain ⟨a, m, rfl⟩ := own_slice ho
  have hx' : Blk W' X 85 #[.slice a (f s) m] := (hk X g.lt.1).trans hx
  refine ⟨g.keep ⟨_, _, _, hx'⟩ (fun k h _ => hk k h), ⟨_, rows, hx', ?_⟩, (hk Y hY).trans y, Nat.le_trans hs hg.size, hb.grown hg (by omega) (fun k e => by have := (hr k e).1; omega)⟩
  refine (Frame.of_grown (S := fun k => row = some k) hg (fun k e _ => e)).own ho ?_
  intro g' hg' e
  obtain ⟨_, o, h1, h2⟩ := hr g' e
  obtain ⟨_, cs, h3⟩ := own_cells ho g' hg'
  rw [h3] at h1
  cases h1
  cases h2

theorem below_others {W W' : World} (h : Below W.heap.size W W') : KeepsOthers W W' := ⟨h.size, fun k _ hk _ => (h.block k (Array.getElem?_eq_some_iff.1 hk).1).trans hk⟩
end
end Go.Proofs.Ytgbmhijgpdgdbaa

namespace Go.Proofs.Ytgbmhijgpdgdbaa
open Go.RowKit Go.Shelf

set_option maxHeartbeats 4000000 in
set_option maxRecDepth 100000 in
theorem round_peers_nil (w : World) (B : Nat) (c : LC) (st dr bd wt nx po re : Int) (hp : c.peers = true)
    (k : Blk w B 119 (lks c st dr bd wt nx po re (.slice none 0 0))) :
    Calls Try.prog 69 #[.pointer (some ⟨B, 0, none⟩), .bool false] w fun e w' => (∃ a n k, e = .returned (.slice a n k)) ∧ Below w.heap.size w w' := by
  have hp2 : ∀ W, Calls Try.prog 63 #[.agg #[.int .u8 c.ty, .int .u32 c.ro, .int .u32 c.na, .int .u8 c.nb, .int .u32 c.ad, .int .u8 c.op, .int .u16 c.hi, .int .u32 c.dd, .int .u16 c.po, .int .u8 c.pr, .bool c.dm, .bool c.ps, c.pe, .int .u32 c.rm]] W fun e w' => e = .returned (.bool true) ∧ Below W.heap.size W w' := fun W => by have h := peers_any c W; rw [hp] at h; exact h
  have HP := Lib.hid hp2
  clear hp2 hp
  have K := Lib.hid k
  have hlt : B < w.heap.size := k.lt
  have hmf : ∀ (fn : Fn) (first cap : Array Value) (w : World), (Instr.makeFunc fn first cap).run Try.prog w = .ok (.func fn first cap) w := fun _ _ _ _ => rfl
  clear k
  refine (callsIn_wide (n := 3)).1 ?_
  refine callsIn_of_wp_marks Try.func69 rfl trivial ?_ rfl
  rw [wpIn_wide]
  simp only [Try.ntmps69, List.size_toArray, List.length_cons, List.length_nil, Nat.reduceAdd, Nat.reduceSub, Array.replicate_succ, Array.replicate_zero, List.push_toArray, List.append_toArray, List.nil_append, List.cons_append]
  go_upto_region 2 with fail
  obtain ⟨W0, hW0⟩ : ∃ W0, W0 = (((w.alloc (.cells #[.pointer (some ⟨B, 0, none⟩)] 78)).alloc (.cells #[.bool false] 4)).alloc (.cells #[.slice none 0 0] 85)).alloc (.cells #[.slice none 0 0] 85) := ⟨_, rfl⟩
  have K0 : Hid (Blk W0 B 119 (lks c st dr bd wt nx po re (.slice none 0 0))) := Lib.hid (by rw [hW0]; exact (((K.out.alloc _).alloc _).alloc _).alloc _)
  have A0 : Hid (Blk W0 w.heap.size 78 #[.pointer (some ⟨B, 0, none⟩)]) := Lib.hid (by rw [hW0]; exact (((Blk.new w _ _).alloc _).alloc _).alloc _)
  have A1 : Hid (Blk W0 (w.heap.size + 1) 4 #[.bool false]) := Lib.hid (by rw [hW0]; have := Blk.new (w.alloc (.cells #[.pointer (some ⟨B, 0, none⟩)] 78)) 4 #[.bool false]; rw [World.size_alloc] at this; exact ((this).alloc _).alloc _)
  have A2 : Hid (Blk W0 (w.heap.size + 1 + 1) 85 #[.slice none 0 0]) := Lib.hid (by rw [hW0]; have := Blk.new ((w.alloc (.cells #[.pointer (some ⟨B, 0, none⟩)] 78)).alloc (.cells #[.bool false] 4)) 85 #[.slice none 0 0]; simp only [World.size_alloc] at this; exact (this).alloc _)
  have A3 : Hid (Blk W0 (w.heap.size + 1 + 1 + 1) 85 #[.slice none 0 0]) := Lib.hid (by rw [hW0]; have := Blk.new (((w.alloc (.cells #[.pointer (some ⟨B, 0, none⟩)] 78)).alloc (.cells #[.bool false] 4)).alloc (.cells #[.slice none 0 0] 85)) 85 #[.slice none 0 0]; simp only [World.size_alloc] at this; exact this)
  have B0 : Hid (Below w.heap.size w W0) := Lib.hid (by rw [hW0]; exact ((((Below.refl _ w).alloc (Nat.le_refl _) _).alloc (by simp) _).alloc (by simp; omega) _).alloc (by simp; omega) _)
  have hs0 : w.heap.size + 1 + 1 + 1 < W0.heap.size := A3.out.lt
  rw [← hW0]
  clear hW0
  have p0 : W0.cell? ⟨w.heap.size, 0, none⟩ = some (.pointer (some ⟨B, 0, none⟩)) := A0.out.cell 0
  have e1 : W0.cell? ⟨B, 1, none⟩ = some (.int .u8 c.ty) := K0.out.cell 1
  have e2 : W0.cell? ⟨B, 2, none⟩ = some (.int .u32 c.ro) := K0.out.cell 2
  have e3 : W0.cell? ⟨B, 3, none⟩ = some (.int .u32 c.na) := K0.out.cell 3
  have e4 : W0.cell? ⟨B, 4, none⟩ = some (.int .u8 c.nb) := K0.out.cell 4
  have e5 : W0.cell? ⟨B, 5, none⟩ = some (.int .u32 c.ad) := K0.out.cell 5
  have e6 : W0.cell? ⟨B, 6, none⟩ = some (.int .u8 c.op) := K0.out.cell 6
  have e7 : W0.cell? ⟨B, 7, none⟩ = some (.int .u16 c.hi) := K0.out.cell 7
  have e8 : W0.cell? ⟨B, 8, none⟩ = some (.int .u32 c.dd) := K0.out.cell 8
  have e9 : W0.cell? ⟨B, 9, none⟩ = some (.int .u16 c.po) := K0.out.cell 9
  have e10 : W0.cell? ⟨B, 10, none⟩ = some (.int .u8 c.pr) := K0.out.cell 10
  have e11 : W0.cell? ⟨B, 11, none⟩ = some (.bool c.dm) := K0.out.cell 11
  have e12 : W0.cell? ⟨B, 12, none⟩ = some (.bool c.ps) := K0.out.cell 12
  have e13 : W0.cell? ⟨B, 13, none⟩ = some (c.pe) := K0.out.cell 13
  have e14 : W0.cell? ⟨B, 14, none⟩ = some (.int .u32 c.rm) := K0.out.cell 14
  have hl0 : B < W0.heap.size := K0.out.lt
  go_wp2_with fail
  refine (HP.out _).mono ?_
  rintro e w1 ⟨rfl, hb1⟩
  have K1 := Lib.hid (K0.out.below hb1 K0.out.lt)
  have A01 := Lib.hid (A0.out.below hb1 A0.out.lt)
  have A11 := Lib.hid (A1.out.below hb1 A1.out.lt)
  have A21 := Lib.hid (A2.out.below hb1 A2.out.lt)
  have A31 := Lib.hid (A3.out.below hb1 A3.out.lt)
  have B1 := Lib.hid (B0.out.trans (hb1.mono B0.out.size))
  clear p0 e1 e2 e3 e4 e5 e6 e7 e8 e9 e10 e11 e12 e13 e14 hl0 hb1
  have p1 : w1.cell? ⟨w.heap.size, 0, none⟩ = some (.pointer (some ⟨B, 0, none⟩)) := A01.out.cell 0
  go_wp2_with fail
  refine (all_made _ _ _ ⟨_, rfl⟩ ⟨_, _, _, rfl⟩).mono ?_
  rintro e w2 ⟨rfl, hb2, b1, b2⟩
  have h2l : w1.heap.size + 1 < w2.heap.size := lt_of_cell b2
  have K2 := Lib.hid (K1.out.below hb2 K1.out.lt)
  have A02 := Lib.hid (A01.out.below hb2 A01.out.lt)
  have A12 := Lib.hid (A11.out.below hb2 A11.out.lt)
  have A22 := Lib.hid (A21.out.below hb2 A21.out.lt)
  have A32 := Lib.hid (A31.out.below hb2 A31.out.lt)
  have B2 := Lib.hid (B1.out.trans (hb2.mono B1.out.size))
  clear p1 hb2
  have hw2 : w.heap.size + 1 + 1 + 1 < w2.heap.size := A32.out.lt
  go_wp2_with fail
  refine wp_rangeFunc_none rfl enters_all1 (fun l W hW => ?_) (fun D W hD hB hK => ?_)
  · refine all_nil W _ _ B l ?_ ?_
    · exact (hW.cell (p := ⟨w1.heap.size, 0, none⟩) (by simp; omega)).trans b1
    · exact (K2.out.below hW K2.out.lt).cell 22
  have HX := Lib.hid (A32.out.below hB hw2)
  have HY := Lib.hid (A22.out.below hB A22.out.lt)
  have HB := Lib.hid (B2.out.trans (hB.mono B2.out.size))
  have xo : W.cell? ⟨w.heap.size + 1 + 1 + 1, 0, none⟩ = some (.slice none 0 0) := HX.out.cell 0
  have yo : W.cell? ⟨w.heap.size + 1 + 1, 0, none⟩ = some (.slice none 0 0) := HY.out.cell 0
  have fy := HY.out.frozen 0
  have hly := HY.out.lt
  have hDl : D < W.heap.size := (Array.getElem?_eq_some_iff.1 hK).1
  clear b1 b2 hB
  go_wp2_with fail
  obtain ⟨W4, hW4⟩ : ∃ W4, W4 = W.setCell ⟨w.heap.size + 1 + 1, 0, none⟩ (.slice none 0 0) := ⟨_, rfl⟩
  rw [← hW4]
  have hD2 : w2.heap.size ≤ D := hD
  have hwD : w.heap.size + 1 + 1 < D := by omega
  have hK4 : W4.heap[D]? = some (.deferred (some [])) := by
    rw [hW4, heap_far _ _ hwD]
    exact hK
  have kR : Blk W4 (w.heap.size + 1 + 1) 85 #[.slice none 0 0] := by rw [hW4]; exact HY.out.set_ 0 _
  have hB4 : Below w.heap.size w W4 := by
    rw [hW4]
    exact HB.out.setCell (p := ⟨w.heap.size + 1 + 1, 0, none⟩) (by show w.heap.size ≤ w.heap.size + 1 + 1; omega) _
  refine ⟨by simp, .inl ⟨_, _, rfl, run_takeDeferred hK4, ?_⟩⟩
  have k9 := kR.grown (grownBy_putObj' W4 D (.deferred none)) (by simp; omega)
  have u0 := (k9.cell 0).trans rfl
  refine ⟨.slice none 0 0, ?_, ⟨_, _, _, rfl⟩, hB4.trans (below_put hK4 (by omega))⟩
  simp [results, Try.f69, go_sem, u0]
end Go.Proofs.Ytgbmhijgpdgdbaa

namespace Go.Proofs.Ytgbmhijgpdgdbaa
open Go.RowKit Go.Shelf

attribute [local go_sem] Oper.semAt_some

set_option maxHeartbeats 4000000 in
set_option maxRecDepth 100000 in
theorem round_peers (w : World) (B : Nat) (c : LC) (st dr bd wt nx po re : Int) (L cap : Nat) (xs : List (Nat × Kn)) (hn0 : 0 ≤ c.nb) (hn1 : c.nb ≤ 32) (hp : c.peers = true) (hlen : xs.length ≤ 100000)
    (k : Blk w B 119 (lks c st dr bd wt nx po re (.slice (some ⟨L, 0, none⟩) xs.length cap))) (hrow : RowAt w L xs) (hst : ∀ x ∈ xs, x.2.st < 2) :
    Calls Try.prog 69 #[.pointer (some ⟨B, 0, none⟩), .bool false] w fun e w' => (∃ a n k, e = .returned (.slice a n k)) ∧ Below w.heap.size w w' := by
  have hp2 : ∀ W, Calls Try.prog 63 #[.agg #[.int .u8 c.ty, .int .u32 c.ro, .int .u32 c.na, .int .u8 c.nb, .int .u32 c.ad, .int .u8 c.op, .int .u16 c.hi, .int .u32 c.dd, .int .u16 c.po, .int .u8 c.pr, .bool c.dm, .bool c.ps, c.pe, .int .u32 c.rm]] W fun e w' => e = .returned (.bool true) ∧ Below W.heap.size W w' := fun W => by have h := peers_any c W; rw [hp] at h; exact h
  have HP := Lib.hid hp2
  clear hp2 hp
  have K := Lib.hid k
  have HRow := Lib.hid hrow
  have HSt := Lib.hid hst
  have hlt : B < w.heap.size := k.lt
  have hmf : ∀ (fn : Fn) (first cap : Array Value) (w : World), (Instr.makeFunc fn first cap).run Try.prog w = .ok (.func fn first cap) w := fun _ _ _ _ => rfl
  clear k hrow hst
  refine (callsIn_wide (n := 3)).1 ?_
  refine callsIn_of_wp_marks Try.func69 rfl trivial ?_ rfl
  rw [wpIn_wide]
  simp only [Try.ntmps69, List.size_toArray, List.length_cons, List.length_nil, Nat.reduceAdd, Nat.reduceSub, Array.replicate_succ, Array.replicate_zero, List.push_toArray, List.append_toArray, List.nil_append, List.cons_append]
  go_upto_region 2 with fail
  obtain ⟨W0, hW0⟩ : ∃ W0, W0 = (((w.alloc (.cells #[.pointer (some ⟨B, 0, none⟩)] 78)).alloc (.cells #[.bool false] 4)).alloc (.cells #[.slice none 0 0] 85)).alloc (.cells #[.slice none 0 0] 85) := ⟨_, rfl⟩
  have K0 : Hid (Blk W0 B 119 (lks c st dr bd wt nx po re (.slice (some ⟨L, 0, none⟩) xs.length cap))) := Lib.hid (by rw [hW0]; exact (((K.out.alloc _).alloc _).alloc _).alloc _)
  have A0 : Hid (Blk W0 w.heap.size 78 #[.pointer (some ⟨B, 0, none⟩)]) := Lib.hid (by rw [hW0]; exact (((Blk.new w _ _).alloc _).alloc _).alloc _)
  have A1 : Hid (Blk W0 (w.heap.size + 1) 4 #[.bool false]) := Lib.hid (by rw [hW0]; have := Blk.new (w.alloc (.cells #[.pointer (some ⟨B, 0, none⟩)] 78)) 4 #[.bool false]; rw [World.size_alloc] at this; exact ((this).alloc _).alloc _)
  have A2 : Hid (Blk W0 (w.heap.size + 1 + 1) 85 #[.slice none 0 0]) := Lib.hid (by rw [hW0]; have := Blk.new ((w.alloc (.cells #[.pointer (some ⟨B, 0, none⟩)] 78)).alloc (.cells #[.bool false] 4)) 85 #[.slice none 0 0]; simp only [World.size_alloc] at this; exact (this).alloc _)
  have A3 : Hid (Blk W0 (w.heap.size + 1 + 1 + 1) 85 #[.slice none 0 0]) := Lib.hid (by rw [hW0]; have := Blk.new (((w.alloc (.cells #[.pointer (some ⟨B, 0, none⟩)] 78)).alloc (.cells #[.bool false] 4)).alloc (.cells #[.slice none 0 0] 85)) 85 #[.slice none 0 0]; simp only [World.size_alloc] at this; exact this)
  have B0 : Hid (Below w.heap.size w W0) := Lib.hid (by rw [hW0]; exact ((((Below.refl _ w).alloc (Nat.le_refl _) _).alloc (by simp) _).alloc (by simp; omega) _).alloc (by simp; omega) _)
  have hs0 : w.heap.size + 1 + 1 + 1 < W0.heap.size := A3.out.lt
  rw [← hW0]
  clear hW0
  have p0 : W0.cell? ⟨w.heap.size, 0, none⟩ = some (.pointer (some ⟨B, 0, none⟩)) := A0.out.cell 0
  have e1 : W0.cell? ⟨B, 1, none⟩ = some (.int .u8 c.ty) := K0.out.cell 1
  have e2 : W0.cell? ⟨B, 2, none⟩ = some (.int .u32 c.ro) := K0.out.cell 2
  have e3 : W0.cell? ⟨B, 3, none⟩ = some (.int .u32 c.na) := K0.out.cell 3
  have e4 : W0.cell? ⟨B, 4, none⟩ = some (.int .u8 c.nb) := K0.out.cell 4
  have e5 : W0.cell? ⟨B, 5, none⟩ = some (.int .u32 c.ad) := K0.out.cell 5
  have e6 : W0.cell? ⟨B, 6, none⟩ = some (.int .u8 c.op) := K0.out.cell 6
  have e7 : W0.cell? ⟨B, 7, none⟩ = some (.int .u16 c.hi) := K0.out.cell 7
  have e8 : W0.cell? ⟨B, 8, none⟩ = some (.int .u32 c.dd) := K0.out.cell 8
  have e9 : W0.cell? ⟨B, 9, none⟩ = some (.int .u16 c.po) := K0.out.cell 9
  have e10 : W0.cell? ⟨B, 10, none⟩ = some (.int .u8 c.pr) := K0.out.cell 10
  have e11 : W0.cell? ⟨B, 11, none⟩ = some (.bool c.dm) := K0.out.cell 11
  have e12 : W0.cell? ⟨B, 12, none⟩ = some (.bool c.ps) := K0.out.cell 12
  have e13 : W0.cell? ⟨B, 13, none⟩ = some (c.pe) := K0.out.cell 13
  have e14 : W0.cell? ⟨B, 14, none⟩ = some (.int .u32 c.rm) := K0.out.cell 14
  have hl0 : B < W0.heap.size := K0.out.lt
  go_wp2_with fail
  refine (HP.out _).mono ?_
  rintro e w1 ⟨rfl, hb1⟩
  have K1 := Lib.hid (K0.out.below hb1 K0.out.lt)
  have A01 := Lib.hid (A0.out.below hb1 A0.out.lt)
  have A11 := Lib.hid (A1.out.below hb1 A1.out.lt)
  have A21 := Lib.hid (A2.out.below hb1 A2.out.lt)
  have A31 := Lib.hid (A3.out.below hb1 A3.out.lt)
  have B1 := Lib.hid (B0.out.trans (hb1.mono B0.out.size))
  clear p0 e1 e2 e3 e4 e5 e6 e7 e8 e9 e10 e11 e12 e13 e14 hl0 hb1
  have p1 : w1.cell? ⟨w.heap.size, 0, none⟩ = some (.pointer (some ⟨B, 0, none⟩)) := A01.out.cell 0
  go_wp2_with fail
  refine (all_made _ _ _ ⟨_, rfl⟩ ⟨_, _, _, rfl⟩).mono ?_
  rintro e w2 ⟨rfl, hb2, b1, b2⟩
  have h2l : w1.heap.size + 1 < w2.heap.size := lt_of_cell b2
  have K2 := Lib.hid (K1.out.below hb2 K1.out.lt)
  have A02 := Lib.hid (A01.out.below hb2 A01.out.lt)
  have A12 := Lib.hid (A11.out.below hb2 A11.out.lt)
  have A22 := Lib.hid (A21.out.below hb2 A21.out.lt)
  have A32 := Lib.hid (A31.out.below hb2 A31.out.lt)
  have B2 := Lib.hid (B1.out.trans (hb2.mono B1.out.size))
  clear p1 hb2
  have R2 : Hid (RowAt w2 L xs) := Lib.hid ⟨fun j x hj => (B2.out.cell (p := ⟨L, j, none⟩) (lt_of_cell (HRow.out.r j x hj))).trans (HRow.out.r j x hj), fun x hx => (HRow.out.k x hx).below B2.out (HRow.out.k x hx).lt⟩
  have hltL : xs ≠ [] → L < w.heap.size := fun h => by
    obtain ⟨x, r, rfl⟩ := List.exists_cons_of_ne_nil h
    exact lt_of_cell (HRow.out.r 0 x rfl)
  have hwx : ∀ x ∈ xs, x.1 < w.heap.size := fun x hx => (HRow.out.k x hx).lt
  have hw2 : w.heap.size + 1 + 1 + 1 < w2.heap.size := A32.out.lt
  have G2 : Hid (GR w2 B c st dr bd wt nx po re L cap xs w1.heap.size (w1.heap.size + 1) w.heap.size (w.heap.size + 1) (w.heap.size + 1 + 1 + 1) w2) := Lib.hid
    ⟨K2.out, R2.out, b1, b2, A02.out.cell 0, A12.out.cell 0, ⟨_, _, _, A32.out⟩, by omega, by omega, by omega, by omega, by omega, by omega, fun h => by have := hltL h; omega, fun x hx => by have := hwx x hx; omega⟩
  go_wp2_with fail
  rw [← wpIn_wide (n := 3)]
  obtain ⟨i0, hi, hz0, hz1, hz2⟩ := info_parts send_info
  have hgs : ∀ W, Below w2.heap.size w2 W → GR w2 B c st dr bd wt nx po re L cap xs w1.heap.size (w1.heap.size + 1) w.heap.size (w.heap.size + 1) (w.heap.size + 1 + 1 + 1) W := fun W h => G2.out.keep ⟨_, _, _, A32.out.below h hw2⟩ (fun k hk _ => h.block k hk)
  have HI := Lib.hid (IR.own (w0 := w2) (B := B) (c := c) (st := st) (dr := dr) (bd := bd) (wt := wt) (nx := nx) (po := po) (re := re) (L := L) (cap := cap) (xs := xs) (Bl := w1.heap.size) (Bi := w1.heap.size + 1) (C0 := w.heap.size) (C1 := w.heap.size + 1) (X := w.heap.size + 1 + 1 + 1) (w := w) (Y := w.heap.size + 1 + 1) (by omega) (by omega) (List.length (α := { x // x ∈ xs })))
  obtain ⟨G, hG⟩ : ∃ G, G = GR w2 B c st dr bd wt nx po re L cap xs w1.heap.size (w1.heap.size + 1) w.heap.size (w.heap.size + 1) (w.heap.size + 1 + 1 + 1) := ⟨_, rfl⟩
  have hkb : ∀ (W : World) (l : Nat) (o o' : Obj), w2.heap.size ≤ l → W.heap[l]? = some o → o.isCells = false → o.isWalk = false → (G W → G (W.putObj l o')) := by
    intro W l o o' hl _ _ _ g
    rw [hG] at g ⊢
    obtain ⟨a, n, k, hx⟩ := g.xb
    have hk : ∀ k, k < w2.heap.size → (W.putObj l o').heap[k]? = W.heap[k]? := fun k hk => World.putObj_heap_other (by omega)
    exact g.keep ⟨_, _, _, (hk _ hw2).trans hx⟩ (fun k h _ => hk k h)
  have hseq := all_stops_round 2 (by omega) w2 G (fun x : { x // x ∈ xs } => x.1.1) (fun x => dueV c st dr bd false x.1.2.st x.1.2.ad x.1.2.pr) B w1.heap.size (w1.heap.size + 1) L cap w.heap.size (w.heap.size + 1) xs.attach (by rw [List.length_attach]; exact hlen) (by rw [hG]; exact GR.good) (by rw [hG]; exact hgs)
      (fun W x g _ => by rw [hG] at g; exact round1_any W B x.1.1 _ _ c st dr bd wt nx po re _ false _ _ _ g.b ((g.row.k x.1 x.2).cell 1) ((g.row.k x.1 x.2).cell 2) ((g.row.k x.1 x.2).cell 3) g.p2 g.p3)
  obtain ⟨I, hI⟩ : ∃ I : List { x // x ∈ xs } → World → Prop, I = fun pre W => IR w w2 B c st dr bd wt nx po re L cap xs w1.heap.size (w1.heap.size + 1) w.heap.size (w.heap.size + 1) (w.heap.size + 1 + 1 + 1) (w.heap.size + 1 + 1) pre.length W := ⟨_, rfl⟩
  have hIo : OwnFrom w2.heap.size I := by rw [hI]; exact HI.out
  have hI0 : I [] w2 := by rw [hI]; exact ⟨G2.out, ⟨.slice none 0 0, [], A32.out, World.ownsRow_nil _ _ _ _⟩, A22.out, Nat.le_refl _, B2.out⟩
  refine wpIn_rangeFunc_ownF (F := Fence.wide) (n := 3) rfl (by omega) rfl trivial enters_all1 hseq (fun h k g => k (h g)) (fun W l o o' => hkb W l o o') (Below.refl _ _) (fun _ => rfl) I (fun _ _ _ => False) hIo (fun _ _ _ _ _ hs _ _ => hs) hI0 ?a₁ ?assign ?body ?done (fun _ _ _ _ _ _ h _ => h.elim)
  case assign =>
    intro l x W K hK
    gi_wp2
    exact hK
  case body =>
    intro l pre x W hIx hlen2
    rw [hI] at hIx
    obtain ⟨g, ⟨v, rows, hx, hown⟩, hy, hsz, hb⟩ := hIx
    obtain ⟨va, vm, rfl⟩ := own_slice hown
    have HG := Lib.hid g
    have HX := Lib.hid hx
    have HOwn := Lib.hid hown
    have HY := Lib.hid hy
    have HB := Lib.hid hb
    have kx := g.row.k x.1 x.2
    have x1 : W.cell? ⟨x.1.1, 1, none⟩ = some (.int .u32 x.1.2.ad) := kx.cell 1
    have xo : W.cell? ⟨w.heap.size + 1 + 1 + 1, 0, none⟩ = some (.slice va pre.length vm) := hx.cell 0
    have xl : W.cell? ⟨w.heap.size, 0, none⟩ = some (.pointer (some ⟨B, 0, none⟩)) := g.p2
    have hBW : B < W.heap.size := by omega
    have hh : Hid (∀ u : Later W.heap.size W, Calls Try.prog 74 #[.pointer (some ⟨B, 0, none⟩)] u.to fun e w' => e = .returned (helloV c dr bd) ∧ Below u.to.heap.size u.to w') := Lib.hid fun u => by
      refine hello_none u.to B c st dr bd wt nx po re _ hn0 hn1 ⟨L, xs.length, cap, rfl, hlen, fun i hi => ?_⟩ (HG.out.b.below u.ok hBW)
      have hxi : xs[i]? = some (xs[i]'hi) := List.getElem?_eq_getElem hi
      have hm : xs[i]'hi ∈ xs := List.getElem_mem hi
      refine ⟨(xs[i]'hi).1, (xs[i]'hi).2.st, ?_, ?_, HSt.out _ hm⟩
      · have h := HG.out.row.r i _ hxi
        exact (u.ok.cell (p := ⟨L, i, none⟩) (lt_of_cell h)).trans h
      · have h := (HG.out.row.k _ hm)
        exact (h.below u.ok h.lt).cell 2
    clear kx hx hown hy hb g
    have hXW : w.heap.size + 1 + 1 + 1 < W.heap.size := by omega
    gi_wp2_with fail
    refine wpIn_region_late (C := fun w' => ∃ u : Later W.heap.size W, w' = u.to) (.slice va pre.length vm) 8 10 (by kernel_rfl) (by kernel_rfl) (by kernel_rfl) (fun ⟨_, _, h⟩ => h) (fun _ _ _ h => h) ⟨rfl, ?_⟩ ⟨⟨W.drew, (Below.refl _ W).drew⟩, rfl⟩ ?_
    · rintro w' ⟨u, rfl⟩
      have hu := (u.ok.cell (p := ⟨w.heap.size + 1 + 1 + 1, 0, none⟩) hXW).trans xo
      simp [go_sem, hu]
    simp only [List.take_succ_cons, List.take_zero, List.drop_succ_cons, List.drop_zero, Nat.reduceSub]
    have hxu := later_cell (show (⟨x.1.1, 1, none⟩ : Addr).block < W.heap.size from lt_of_cell x1) x1
    have hlu := later_cell (show (⟨w.heap.size, 0, none⟩ : Addr).block < W.heap.size from lt_of_cell xl) xl
    simp only [Act.put, List.setIfInBounds_toArray, List.set_cons_succ, List.set_cons_zero]
    repeat (go_big_quiet_step (first | (go_at_call 74; with_reducible exact later_call _ (Nat.le_refl _) (hh.out _))))
    refine wpQuiet_nil ?_
    rintro wx ⟨⟨wy, hwy⟩, hwe⟩
    obtain rfl : wx = wy := hwe
    unfold helloV
    refine wpListK_step rfl rfl ?_
    simp [Oper.wp, Oper.upon, go_sem]
    refine ⟨⟨⟨wx, hwy⟩, rfl⟩, ?_⟩
    refine wpListK_step rfl rfl ?_
    simp [Oper.wp, Oper.upon, go_sem]
    refine ⟨⟨⟨_, hwy.alloc hwy.size _⟩, rfl⟩, ?_⟩
    refine wpListK_of_list _ 10 _ _ (Nat.le_refl _) (fun j => match j with
      | 0 => rfl
      | 1 => rfl
      | j + 2 => by simp; omega) ?_
    obtain ⟨wz, hwz⟩ : ∃ wz, wz = wx.alloc (.cells #[.int .u32 x.1.2.ad, .int .u32 (lmaskV c), .int .u16 c.hi, .int .u8 (optV c), .int .u8 c.pr, .int .u32 c.dd, .int .u32 dr, .int .u32 bd, .slice none 0 0] 105) := ⟨_, rfl⟩
    have HLit := Lib.hid (Reads.of_own (World.ownsRow_lit (base := 0) (e := 105) (size := 9) wx #[.int .u32 x.1.2.ad, .int .u32 (lmaskV c), .int .u16 c.hi, .int .u8 (optV c), .int .u8 c.pr, .int .u32 c.dd, .int .u32 dr, .int .u32 bd, .slice none 0 0] 1 (Nat.zero_le _) (by simp [maxLen]) rfl))
    rw [← hwz] at HLit
    rw [← hwz]
    have hwW : Below W.heap.size W wz := by rw [hwz]; exact hwy.alloc hwy.size _
    have hownz : wz.ownsRow w2.heap.size 105 9 (.slice va pre.length vm) pre.length rows := (Frame.of_below (S := fun _ => False) hwW).own HOwn.out (fun _ _ e => e)
    have hlp : pre.length < 100000 := by rw [List.length_attach] at hlen2; omega
    have hsW : W.heap.size ≤ wz.heap.size := hwW.size
    refine wpList_append_any _ rfl (.tmp 17) (.tmp 26) _ rfl w2.heap.size 105 i0 _ 9 56 Try.underlying85 hi hz0 hz1 hz2 rfl (by omega) (.slice va pre.length vm) pre.length rows rfl hownz _ (some ⟨wx.heap.size, 0, none⟩) 1 1 _ rfl HLit.out (by simp [Value.oneCell']) (by unfold maxLen; omega) (by omega) (by omega) ?_
    intro v1 w4 hown1 hg1 _
    have hb4 : ∀ k, k < W.heap.size → some k ≠ (Value.slice va pre.length vm).ownBlock → w4.heap[k]? = W.heap[k]? := fun k hk hne => (hg1.block k (by omega) hne).trans (hwW.block k hk)
    have hne : ∀ k, k < w2.heap.size → some k ≠ (Value.slice va pre.length vm).ownBlock := fun k hk e => by
      have := (own_cells hownz k e.symm).1
      omega
    have hX4 : Blk w4 (w.heap.size + 1 + 1 + 1) 85 #[.slice va pre.length vm] := (hb4 _ hXW (hne _ hw2)).trans HX.out
    have hX40 : w4.cell? ⟨w.heap.size + 1 + 1 + 1, 0, none⟩ = some (.slice va pre.length vm) := hX4.cell 0
    have hfz4 := hX4.frozen 0
    have hlt4 := hX4.lt
    obtain ⟨vb, vn, rfl⟩ := own_slice hown1
    have HOwn1 := Lib.hid hown1
    have HG1 := Lib.hid hg1
    have HB4 := Lib.hid hb4
    have HNe := Lib.hid hne
    have HWW := Lib.hid hwW
    have HOz := Lib.hid hownz
    clear hown1 hg1 hb4 hne hwW hownz xo x1 xl hxu hlu hwy hwz hh
    go_wp2_with fail
    have hX5 : Blk (w4.setCell ⟨w.heap.size + 1 + 1 + 1, 0, none⟩ (.slice vb (pre.length + 1) vn)) (w.heap.size + 1 + 1 + 1) 85 #[.slice vb (pre.length + 1) vn] := hX4.set_ 0 _
    have hk5 : ∀ k, k < w2.heap.size → k ≠ w.heap.size + 1 + 1 + 1 → (w4.setCell ⟨w.heap.size + 1 + 1 + 1, 0, none⟩ (.slice vb (pre.length + 1) vn)).heap[k]? = W.heap[k]? := fun k hk hx =>
      (Below.heap_setCell w4 _ _ k hx).trans (HB4.out k (by omega) (HNe.out k hk))
    have hs4 : wz.heap.size ≤ w4.heap.size := HG1.out.size
    have hs5 : (w4.setCell ⟨w.heap.size + 1 + 1 + 1, 0, none⟩ (.slice vb (pre.length + 1) vn)).heap.size = w4.heap.size := by simp [World.setCell]
    have hb4 : Below w.heap.size w w4 := (HB.out.trans (HWW.out.mono HB.out.size)).grown HG1.out (by have := HB.out.size; omega) (fun k e => by have := (own_cells HOz.out k e).1; omega)
    have ho5 : ∃ v rows, Blk (w4.setCell ⟨w.heap.size + 1 + 1 + 1, 0, none⟩ (.slice vb (pre.length + 1) vn)) (w.heap.size + 1 + 1 + 1) 85 #[v] ∧ (w4.setCell ⟨w.heap.size + 1 + 1 + 1, 0, none⟩ (.slice vb (pre.length + 1) vn)).ownsRow w2.heap.size 105 9 v (pre ++ [x]).length rows := by
      rw [List.length_append]
      exact ⟨_, _, hX5, ((Frame.refl (fun k => k = w.heap.size + 1 + 1 + 1) w4).setCell (p := ⟨w.heap.size + 1 + 1 + 1, 0, none⟩) (fun _ => rfl) _).own HOwn1.out (fun g hg e => by have := (own_cells HOwn1.out g hg).1; omega)⟩
    refine ⟨?_, fun g => g.keep ⟨_, _, _, hX5⟩ hk5, HG.out.keep ⟨_, _, _, hX5⟩ hk5, ho5, (hk5 _ (by omega) (by omega)).trans HY.out, by omega, hb4.setCell (p := ⟨w.heap.size + 1 + 1 + 1, 0, none⟩) (by show w.heap.size ≤ w.heap.size + 1 + 1 + 1; omega) _⟩
    refine (below_others HWW.out).trans ((KeepsOthers.of_grownBy HG1.out ?_).trans (KeepsOthers.setCell _ _ _))
    intro j o e hj
    obtain ⟨_, cs, hc⟩ := own_cells HOz.out j e
    rw [hc] at hj
    cases hj
    rfl
  case done =>
    intro D ys W hD hys hIx hK
    rw [hI] at hIx
    obtain ⟨g, ⟨v, rows, hx, hown⟩, hy, hsz, hb⟩ := hIx
    obtain ⟨va, vm, rfl⟩ := own_slice hown
    have HX := Lib.hid hx
    have HY := Lib.hid hy
    have HB := Lib.hid hb
    have xo : W.cell? ⟨w.heap.size + 1 + 1 + 1, 0, none⟩ = some (.slice va ys.length vm) := hx.cell 0
    have yo : W.cell? ⟨w.heap.size + 1 + 1, 0, none⟩ = some (.slice none 0 0) := hy.cell 0
    have fy := hy.frozen 0
    have hly := hy.lt
    have hDl : D < W.heap.size := (Array.getElem?_eq_some_iff.1 hK).1
    clear hx hy hb hown g hys
    dsimp only
    go_wp2_with fail
    obtain ⟨W4, hW4⟩ : ∃ W4, W4 = W.setCell ⟨w.heap.size + 1 + 1, 0, none⟩ (.slice va ys.length vm) := ⟨_, rfl⟩
    rw [← hW4]
    have hD2 : w2.heap.size ≤ D := hD
    have hwD : w.heap.size + 1 + 1 < D := by omega
    have hK4 : W4.heap[D]? = some (.deferred (some [])) := by
      rw [hW4, heap_far _ _ hwD]
      exact hK
    have kR : Blk W4 (w.heap.size + 1 + 1) 85 #[.slice va ys.length vm] := by rw [hW4]; exact HY.out.set_ 0 _
    have hB4 : Below w.heap.size w W4 := by
      rw [hW4]
      exact HB.out.setCell (p := ⟨w.heap.size + 1 + 1, 0, none⟩) (by show w.heap.size ≤ w.heap.size + 1 + 1; omega) _
    refine ⟨by simp, .inl ⟨_, _, rfl, run_takeDeferred hK4, ?_⟩⟩
    have k9 := kR.grown (grownBy_putObj' W4 D (.deferred none)) (by simp; omega)
    have u0 := (k9.cell 0).trans rfl
    refine ⟨.slice va ys.length vm, ?_, ⟨_, _, _, rfl⟩, hB4.trans (below_put hK4 (by omega))⟩
    simp [results, Try.f69, go_sem, u0]
end Go.Proofs.Ytgbmhijgpdgdbaa

namespace Go.Proofs.Ytgbmhijgpdgdbaa
open Go.RowKit

section
variable {P : Program} {C : World → Prop}
/-- The form of the region from what is listed on: number s is a load; up to number n what keeps the class; up to number m what keeps it, one behind the other; then the rest, which alone waits for the load. -/
def lateAtB (ops : Array Oper) (pre : Array Bool) (s n m : Nat) : Bool :=
  Region.noSelect ops && decide (s < n) && decide (n ≤ m) && decide (m < ops.size) && sinkFrom .any ops (s + 1) n && Region.chainB .any ops n && Region.sinkB .any ops m && Region.chainB .any ops m &&
    (Region.ready .any ops pre).contains s && Region.free .any ops pre s && Region.lexHead .any ops (ops.size - n) (n - (s + 1)) (s + 1) (pre.setIfInBounds s true)

theorem any_late_at {Q : Exit → Act → World → Prop} {a : Act} {ops : Array Oper} {o : Oper} {l : List Oper} {v : Value} (pre : Array Bool) (s n m : Nat) (hi0 : ops[s]? = some o) (hl : ∀ j, l[j]? = ops[s + 1 + j]?) (hB : lateAtB ops pre s n m = true)
    (inv : ∀ t, s < t → HeadInv .any ops t pre) (hQ : ∀ c a w, Q (.panic c) (a.put o.dst v) w → Q (.panic c) a w) (hy : ReadsIn P ops C o v a) (w : World) (hC : C w)
    (h : wpQuiet P ops C (fun a' => ∀ w', C w' → wpListK P ops C m Q n (l.drop (n - (s + 1))) a' w') (l.take (n - (s + 1))) (a.put o.dst v)) :
    wpAny P .any ops Q (ops.size - s) pre a w := by
  simp only [lateAtB, Bool.and_eq_true, decide_eq_true_eq] at hB
  obtain ⟨⟨⟨⟨⟨⟨⟨⟨⟨⟨hsel, hn0⟩, hnm⟩, hm⟩, hs1⟩, hc1⟩, hsm⟩, hcm⟩, hr0⟩, hf0⟩, hlex⟩ := hB
  have hll : l.length + s + 1 = ops.size := by
    have h1 : l[l.length]? = none := List.getElem?_eq_none (Nat.le_refl _)
    rw [hl] at h1
    have h2 : ops.size ≤ s + 1 + l.length := Array.getElem?_eq_none_iff.1 h1
    rcases Nat.lt_or_ge (l.length + s + 1) ops.size with h3 | h3
    · omega
    · rcases Nat.lt_or_ge ops.size (l.length + s + 1) with h4 | h4
      · have h5 : ops[s + 1 + (l.length - 1)]? = none := Array.getElem?_eq_none (by omega)
        rw [← hl] at h5
        have := List.getElem?_eq_none_iff.1 h5
        omega
      · omega
  have hr : s ∈ Region.ready .any ops pre := by simpa using hr0
  have htl : (l.take (n - (s + 1))).length = n - (s + 1) := by rw [List.length_take]; omega
  have hdl : (l.drop (n - (s + 1))).length = ops.size - n := by rw [List.length_drop]; omega
  have H := wpHead_lex_from (P := P) (C := C) (s := s + 1) (md := .any) (g := ops.size - n) hsel hs1 hc1 (by omega) (l.take (n - (s + 1))) (s + 1) _ (a.put o.dst v) (Nat.le_refl _) (fun j hj => by
    have hj' : j < n - (s + 1) := by rw [htl] at hj; exact hj
    rw [List.getElem?_take, if_pos hj', hl]) (by rw [htl]; omega) ((inv n hn0).set hr hn0) (by rw [htl]; exact hlex) h
  have H2 := wpHead_anyK (m := m) (Q' := Q) (g := ops.size - n) (fun listed a' w' hw' hL => by
    have := wpAnyK_of_seq (P := P) (C := C) (m := m) (md := .any) (Q' := Q) (l.drop (n - (s + 1))) n listed a' w' (by rw [hdl]; exact hL.1) (hL.2 w' hw')
    rwa [hdl] at this) _ _ _ w hC H
  have hsz : ops.size - s = (l.take (n - (s + 1))).length + (ops.size - n) + 1 := by rw [htl]; omega
  have H3 := wpAnyK_late (m := m) hi0 (Region.noSelect_spec hsel) hQ (fun listed hinv hun j hj => by
    refine Nat.lt_of_not_le fun hle => ?_
    exact tail_waits hsm hcm hm hinv _ s rfl (by omega) hun j hle hj) _ _ a w (inv m (by omega)) (Region.free_spec hi0 hf0) hr hy hC H2
  rwa [← hsz] at H3

theorem inv_none (ops : Array Oper) (t : Nat) : HeadInv .any ops t (Array.replicate ops.size false) :=
  ⟨by simp, fun j oj _ hl => (by rw [getD_replicate_false] at hl; cases hl), fun t _ ht => getD_in (by simpa using ht) (getD_replicate_false _ _)⟩

/-- The same behind a first operation that asks no world. -/
def lateB1 (ops : Array Oper) (n m : Nat) : Bool :=
  (Region.ready .any ops (Array.replicate ops.size false)).contains 0 && Region.free .any ops (Array.replicate ops.size false) 0 && lateAtB ops ((Array.replicate ops.size false).setIfInBounds 0 true) 1 n m

theorem any_late1 {Q : Exit → Act → World → Prop} {a : Act} {p o : Oper} {l : List Oper} {u v : Value} (n m : Nat) (hB : lateB1 (p :: o :: l).toArray n m = true)
    (hQ : ∀ c a w, Q (.panic c) (a.put p.dst u) w → Q (.panic c) a w) (hQ2 : ∀ c a w, Q (.panic c) (a.put o.dst v) w → Q (.panic c) a w) (hp : Yields P (p :: o :: l).toArray p u a) (hy : ReadsIn P (p :: o :: l).toArray C o v (a.put p.dst u)) (w : World) (hC : C w)
    (h : wpQuiet P (p :: o :: l).toArray C (fun a' => ∀ w', C w' → wpListK P (p :: o :: l).toArray C m Q n (l.drop (n - 2)) a' w') (l.take (n - 2)) ((a.put p.dst u).put o.dst v)) :
    wpAny P .any (p :: o :: l).toArray Q (p :: o :: l).toArray.size (Array.replicate (p :: o :: l).toArray.size false) a w := by
  simp only [lateB1, Bool.and_eq_true] at hB
  obtain ⟨⟨hr0, hf0⟩, hB2⟩ := hB
  have hr : 0 ∈ Region.ready .any (p :: o :: l).toArray (Array.replicate (p :: o :: l).toArray.size false) := by simpa using hr0
  have hi0 : (p :: o :: l).toArray[0]? = some p := by simp
  have hsel : Region.noSelect (p :: o :: l).toArray = true := by
    simp only [lateAtB, Bool.and_eq_true] at hB2
    exact hB2.1.1.1.1.1.1.1.1.1.1
  have H := any_late_at (P := P) (C := C) (Q := Q) ((Array.replicate (p :: o :: l).toArray.size false).setIfInBounds 0 true) 1 n m (ops := (p :: o :: l).toArray) (o := o) (l := l) (by simp) (fun j => by simp [Nat.add_comm]) hB2
    (fun t ht => (inv_none _ t).set hr (by omega)) hQ2 hy w hC h
  have hsz : (p :: o :: l).toArray.size = ((p :: o :: l).toArray.size - 1) + 1 := by simp
  have H3 := wpAny_first hi0 (Region.noSelect_spec hsel) hQ ((p :: o :: l).toArray.size - 1) _ a w (Region.free_spec hi0 hf0) hr hp H
  rwa [← hsz] at H3

theorem wpIn_region_late1 {id : Nat} {Q : Exit → Act → World → Prop} {a : Act} {w : World} {p o : Oper} {l : List Oper} {r k : Nat} (u v : Value) (n m : Nat) (hm : P.follows .mixedOrders = true) (hB : lateB1 (p :: o :: l).toArray n m = true) (hd : noDefer (p :: o :: l) = true) (hq : LetsOut Q → False)
    (hQ : ∀ c a w, Q (.panic c) (a.put p.dst u) w → Q (.panic c) a w) (hQ2 : ∀ c a w, Q (.panic c) (a.put o.dst v) w → Q (.panic c) a w) (hp : Yields P (p :: o :: l).toArray p u a) (hy : ReadsIn P (p :: o :: l).toArray C o v (a.put p.dst u)) (hC : C w.drew)
    (h : wpQuiet P (p :: o :: l).toArray C (fun a' => ∀ w', C w' → wpListK P (p :: o :: l).toArray C m Q n (l.drop (n - 2)) a' w') (l.take (n - 2)) ((a.put p.dst u).put o.dst v)) : (Code.region id (p :: o :: l).toArray true).wpIn (Fence.wide.inRound r) k P Q a w :=
  wpIn_region_any hm (anyIn_of_wp r k hq (fun i o' ho => noDefer_spec hd o' (by simpa using Array.mem_of_getElem? ho)) _ _ _ _ (any_late1 n m hB hQ hQ2 hp hy w.drew hC h))

/-- A load may come late: what is left keeps the class still. -/
theorem wpAnyK_lateK {ops : Array Oper} {md : Region.Mode} {Q : Exit → Act → World → Prop} {i m : Nat} {oi : Oper} {v : Value} (hi : ops[i]? = some oi) (hsel : ∀ (j : Nat) (o : Oper) cs b, ops[j]? = some o → o.op ≠ .select cs b)
    (hQ : ∀ c a w, Q (.panic c) (a.put oi.dst v) w → Q (.panic c) a w) (hwait : ∀ listed, HeadInv md ops m listed → listed.getD i true = false → ∀ j ∈ Region.ready md ops listed, j < m) (f : Nat) :
    ∀ (listed : Array Bool) (a : Act) (w : World), HeadInv md ops m listed →
      (∀ j oj, ops[j]? = some oj → j ≠ i → listed.getD j true = false → (∀ e ∈ oj.after, Region.binds md e = true → e.on ≠ i) → oi.apart ops oj = true) →
      i ∈ Region.ready md ops listed → ReadsIn P ops C oi v a → C w → wpAnyK P md ops C m Q f (listed.setIfInBounds i true) (a.put oi.dst v) w → wpAnyK P md ops C m Q (f + 1) listed a w := by
  induction f with
  | zero =>
    intro listed a w _ _ hr hy hC H
    refine ⟨fun h => (by rw [h] at hr; cases hr), fun j hj => ?_⟩
    by_cases hji : j = i
    · subst hji; exact hy.wpOp hi hC ⟨fun _ => hC, H⟩
    · have := ready_mono hj hji
      rw [H.1] at this
      cases this
  | succ f ih =>
    intro listed a w inv hfree hr hy hC H
    refine ⟨fun h => (by rw [h] at hr; cases hr), fun j hj => ?_⟩
    have hun := (mem_ready.1 hr).1
    by_cases hji : j = i
    · subst hji; exact hy.wpOp hi hC ⟨fun _ => hC, H⟩
    · have h1 := H.2 j (ready_mono hj hji)
      obtain ⟨hjun, oj, hoj, hall⟩ := mem_ready.1 hj
      have hjm := hwait listed inv hun j hj
      have hnot : ∀ e ∈ oj.after, Region.binds md e = true → e.on ≠ i := fun e he hb heq => by
        have h1 := hall e he hb
        rw [heq, getD_both hun] at h1
        cases h1
      have h2 := wpOp_putR hoj (hfree j oj hoj hji hjun hnot) (fun cs b => hsel i oi cs b hi) (fun cs b => hsel j oj cs b hoj) hQ hy h1
      have hfree' : ∀ k ok, ops[k]? = some ok → k ≠ i → (listed.setIfInBounds j true).getD k true = false → (∀ e ∈ ok.after, Region.binds md e = true → e.on ≠ i) → oi.apart ops ok = true := by
        intro k ok hk hki hu hno
        by_cases hjk : j = k
        · subst hjk; exact hfree j ok hk hki hjun hno
        · rw [getD_set_ne true hjk] at hu; exact hfree k ok hk hki hu hno
      refine wpOp_mono (fun a' w' h3 => ⟨fun _ => h3.2.1 hjm, ih (listed.setIfInBounds j true) a' w' (inv.set hj hjm) hfree' (ready_mono hr (Ne.symm hji)) h3.1 (h3.2.1 hjm) ?_⟩) h2
      rw [Array.setIfInBounds_comm _ _ hji]
      exact h3.2.2

/-- The form of a region in the order of its text: 'true': a load, that may come late; 'false': the one that is ready; behind them all one by one. -/
def lexC (md : Region.Mode) (ops : Array Oper) : List Bool → Nat → Array Bool → Bool
  | [], k, listed => Region.seqB md ops (ops.size - k) k listed
  | true :: fl, k, listed => (Region.ready md ops listed).contains k && Region.free md ops listed k && lexC md ops fl (k + 1) (listed.setIfInBounds k true)
  | false :: fl, k, listed => decide (Region.ready md ops listed = [k]) && lexC md ops fl (k + 1) (listed.setIfInBounds k true)

/-- What the walk shows of it. -/
def wpLex (P : Program) (ops : Array Oper) (C : World → Prop) (m : Nat) (Q : Exit → Act → World → Prop) : List Bool → Nat → List Oper → Act → World → Prop
  | [], k, l, a, w => wpListK P ops C m Q k l a w
  | _ :: _, _, [], _, _ => False
  | true :: fl, k, o :: l, a, w => ∃ v, ReadsIn P ops C o v a ∧ wpLex P ops C m Q fl (k + 1) l (a.put o.dst v) w
  | false :: fl, k, _ :: l, a, w => wpOp P ops Q k (fun a' w' => C w' ∧ wpLex P ops C m Q fl (k + 1) l a' w') a w

theorem anyK_lex {ops : Array Oper} {Q : Exit → Act → World → Prop} {m : Nat} (hsel : Region.noSelect ops = true) (hQ : ∀ c a dst v w, Q (.panic c) (Act.put a dst v) w → Q (.panic c) a w) (hs : Region.sinkB .any ops m = true) (hc : Region.chainB .any ops m = true) (hm : m < ops.size) :
    ∀ (fl : List Bool) (k : Nat) (l : List Oper) (listed : Array Bool) (a : Act) (w : World), (∀ j, l[j]? = ops[k + j]?) → k + fl.length ≤ m → HeadInv .any ops m listed → lexC .any ops fl k listed = true → C w → wpLex P ops C m Q fl k l a w →
    wpAnyK P .any ops C m Q (ops.size - k) listed a w
  | [], k, l, listed, a, w, hl, hk, _, hB, _, h => by
    have hll : l.length = ops.size - k := by
      rcases Nat.lt_trichotomy l.length (ops.size - k) with h1 | h1 | h1
      · have h2 : l[l.length]? = none := List.getElem?_eq_none (Nat.le_refl _)
        rw [hl] at h2
        have := Array.getElem?_eq_none_iff.1 h2
        omega
      · exact h1
      · have h2 : ops[k + (ops.size - k)]? = none := Array.getElem?_eq_none (by omega)
        rw [← hl] at h2
        have := List.getElem?_eq_none_iff.1 h2
        omega
    have := wpAnyK_of_seq (P := P) (C := C) (m := m) (md := .any) (Q' := Q) l k listed a w (by rw [hll]; exact hB) h
    rwa [hll] at this
  | _ :: _, _, [], _, _, _, _, _, _, _, _, h => h.elim
  | true :: fl, k, o :: l, listed, a, w, hl, hk, inv, hB, hC, h => by
    simp only [List.length_cons] at hk
    have h0 : ops[k]? = some o := by simpa using (hl 0).symm
    simp only [lexC, Bool.and_eq_true] at hB
    obtain ⟨⟨hr, hf⟩, hB'⟩ := hB
    obtain ⟨v, hy, h'⟩ := h
    have hr' : k ∈ Region.ready .any ops listed := by simpa using hr
    have e : ops.size - k = (ops.size - (k + 1)) + 1 := by omega
    rw [e]
    refine wpAnyK_lateK h0 (Region.noSelect_spec hsel) (fun c a' w' hp => hQ c _ _ _ w' hp) (fun lst hinv hun j hj => Nat.lt_of_not_le fun hle => tail_waits hs hc hm hinv _ k rfl (by omega) hun j hle hj) _ listed a w inv (Region.free_spec h0 hf) hr' hy hC ?_
    exact anyK_lex hsel hQ hs hc hm fl (k + 1) l _ _ w (fun j => by have := hl (j + 1); simpa [Nat.add_assoc, Nat.add_comm 1 j] using this) (by omega) (inv.set hr' (by omega)) hB' hC h'
  | false :: fl, k, o :: l, listed, a, w, hl, hk, inv, hB, hC, h => by
    simp only [List.length_cons] at hk
    simp only [lexC, Bool.and_eq_true, decide_eq_true_eq] at hB
    obtain ⟨hr, hB'⟩ := hB
    have hr' : k ∈ Region.ready .any ops listed := by rw [hr]; simp
    have e : ops.size - k = (ops.size - (k + 1)) + 1 := by omega
    rw [e]
    refine ⟨fun h1 => (by rw [hr] at h1; cases h1), fun i hi => ?_⟩
    rw [hr] at hi
    obtain rfl : i = k := by simpa using hi
    exact wpOp_mono (fun a' w' h' => ⟨fun _ => h'.1, anyK_lex hsel hQ hs hc hm fl (i + 1) l _ a' w' (fun j => by have := hl (j + 1); simpa [Nat.add_assoc, Nat.add_comm 1 j] using this) (by omega) (inv.set hr' (by omega)) hB' h'.1 h'.2⟩) h

def lexAllB (ops : Array Oper) (m : Nat) (fl : List Bool) : Bool :=
  Region.noSelect ops && decide (m < ops.size) && decide (fl.length ≤ m) && Region.sinkB .any ops m && Region.chainB .any ops m && lexC .any ops fl 0 (Array.replicate ops.size false)

theorem any_lex {Q : Exit → Act → World → Prop} {a : Act} {l : List Oper} (m : Nat) (fl : List Bool) (hB : lexAllB l.toArray m fl = true) (hQ : ∀ c a dst v w, Q (.panic c) (Act.put a dst v) w → Q (.panic c) a w) (w : World) (hC : C w) (h : wpLex P l.toArray C m Q fl 0 l a w) :
    wpAny P .any l.toArray Q l.toArray.size (Array.replicate l.toArray.size false) a w := by
  simp only [lexAllB, Bool.and_eq_true, decide_eq_true_eq] at hB
  obtain ⟨⟨⟨⟨⟨hsel, hm⟩, hfl⟩, hs⟩, hc⟩, hlex⟩ := hB
  exact wpAnyK_any _ _ _ _ (anyK_lex hsel hQ hs hc hm fl 0 l _ a w (fun j => by simp) (by omega) (inv_none _ m) hlex hC h)

theorem wp_region_lex {id : Nat} {Q : Exit → Act → World → Prop} {a : Act} {w : World} {l : List Oper} (m : Nat) (fl : List Bool) (hm : P.follows .mixedOrders = true) (hB : lexAllB l.toArray m fl = true) (hQ : ∀ c a dst v w, Q (.panic c) (Act.put a dst v) w → Q (.panic c) a w) (hC : C w.drew) (h : wpLex P l.toArray C m Q fl 0 l a w.drew) :
    (Code.region id l.toArray true).wp P Q a w := wp_region_any hm (any_lex m fl hB hQ w.drew hC h)

theorem wpIn_region_lex {id : Nat} {Q : Exit → Act → World → Prop} {a : Act} {w : World} {l : List Oper} {r k : Nat} (m : Nat) (fl : List Bool) (hm : P.follows .mixedOrders = true) (hB : lexAllB l.toArray m fl = true) (hd : noDefer l = true) (hq : LetsOut Q → False) (hQ : ∀ c a dst v w, Q (.panic c) (Act.put a dst v) w → Q (.panic c) a w) (hC : C w.drew) (h : wpLex P l.toArray C m Q fl 0 l a w.drew) :
    (Code.region id l.toArray true).wpIn (Fence.wide.inRound r) k P Q a w :=
  wpIn_region_any hm (anyIn_of_wp r k hq (fun i o' ho => noDefer_spec hd o' (by simpa using Array.mem_of_getElem? ho)) _ _ _ _ (any_lex m fl hB hQ w.drew hC h))

/-- One operation of a guard of none. -/
theorem wpOp_step {ops : Array Oper} {k : Nat} {Q : Exit → Act → World → Prop} {o : Oper} {K : Act → World → Prop} {a : Act} {w : World} (h0 : ops[k]? = some o) (hg : o.guard = none) (h : o.wp P a w K Q) : wpOp P ops Q k K a w := by
  unfold wpOp
  have hw : Region.wanted o (yielded ops a.tmps) = true := by simp [Region.wanted, hg]
  simp only [h0, hw, if_true]
  exact .inl h

theorem wpLex_step {ops : Array Oper} {m : Nat} {Q : Exit → Act → World → Prop} {fl : List Bool} {k : Nat} {o : Oper} {l : List Oper} {a : Act} {w : World} (h0 : ops[k]? = some o) (hg : o.guard = none) (h : o.wp P a w (fun a' w' => C w' ∧ wpLex P ops C m Q fl (k + 1) l a' w') Q) :
    wpLex P ops C m Q (false :: fl) k (o :: l) a w := wpOp_step h0 hg h
theorem wpLex_call {ops : Array Oper} {m : Nat} {Q : Exit → Act → World → Prop} {fl : List Bool} {k : Nat} {o : Oper} {l : List Oper} {a : Act} {w : World} {f : FuncId} {args : Array Value} {R : Ending → World → Prop} (h0 : ops[k]? = some o) (hg : o.guard = none) (hr : (execOp a.eval o).run P w = .ok (.enter f args) w)
    (hc : Calls P f args w R) (h : ∀ e w', R e w' → ∃ v, e = .returned v ∧ C w' ∧ wpLex P ops C m Q fl (k + 1) l (a.put o.dst v) w') :
    wpLex P ops C m Q (false :: fl) k (o :: l) a w := wpLex_step h0 hg (by
  unfold Oper.wp
  rw [hr]
  refine hc.mono fun e w' hR => ?_
  obtain ⟨v, rfl, h1, h2⟩ := h e w' hR
  exact ⟨h1, h2⟩)

/-- Only the ordinary end. -/
def NormQ (Q : Exit → Act → World → Prop) : Exit → Act → World → Prop
  | .normal, a, w => Q .normal a w
  | _, _, _ => False

theorem NormQ.of {Q : Exit → Act → World → Prop} : ∀ e a w, NormQ Q e a w → Q e a w
  | .normal, _, _, h => h
  | .ret, _, _, h => h.elim
  | .exit _, _, _, h => h.elim
  | .goto _, _, _, h => h.elim
  | .panic _, _, _, h => h.elim
  | .outgrown, _, _, h => h.elim

theorem wp_region_lexN {id : Nat} {Q : Exit → Act → World → Prop} {a : Act} {w : World} {l : List Oper} (m : Nat) (fl : List Bool) (hm : P.follows .mixedOrders = true) (hB : lexAllB l.toArray m fl = true) (hC : C w.drew) (h : wpLex P l.toArray C m (NormQ Q) fl 0 l a w.drew) :
    (Code.region id l.toArray true).wp P Q a w := wp_mono (wp_region_lex m fl hm hB (fun _ _ _ _ _ h => h.elim) hC h) NormQ.of
end
end Go.Proofs.Ytgbmhijgpdgdbaa
