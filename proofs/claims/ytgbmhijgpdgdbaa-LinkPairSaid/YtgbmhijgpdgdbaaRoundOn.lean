/- A round of a link with whatever neighbours. -/
import Derived.Test.YtgbmhijgpdgdbaaLinkOn
namespace Go.Proofs.Ytgbmhijgpdgdbaa
open Go.RowKit Go.Shelf

attribute [local go_sem] Oper.semAt_some

/-- A row of Hellos of its own. -/
def RowPost (w : World) (e : Ending) (w' : World) : Prop := ∃ a n k rows, e = .returned (.slice a n k) ∧ w'.ownsRow w.heap.size 105 9 (.slice a n k) n rows ∧ (∀ u ∈ rows, u.oneCell' = true) ∧ n ≤ 100000 ∧ Below w.heap.size w w'

/-- What a round of peers leans on. -/
structure GRb (pb : Bool) (w0 : World) (B : Nat) (c : LC) (st dr bd wt nx po re : Int) (L cap : Nat) (xs : List (Nat × Kn)) (Bl Bi C0 C1 X : Nat) (W : World) : Prop where
  b : Blk W B 119 (lks c st dr bd wt nx po re (.slice (some ⟨L, 0, none⟩) xs.length cap))
  row : RowAt W L xs
  p0 : W.cell? ⟨Bl, 0, none⟩ = some (.pointer (some ⟨B, 0, none⟩))
  p1 : W.cell? ⟨Bi, 0, none⟩ = some (.func (.func 103) #[] #[.pointer (some ⟨C0, 0, none⟩), .pointer (some ⟨C1, 0, none⟩)])
  p2 : W.cell? ⟨C0, 0, none⟩ = some (.pointer (some ⟨B, 0, none⟩))
  p3 : W.cell? ⟨C1, 0, none⟩ = some (.bool pb)
  xb : ∃ a n k, Blk W X 85 #[.slice a n k]
  lt : X < w0.heap.size ∧ B < w0.heap.size ∧ Bl < w0.heap.size ∧ Bi < w0.heap.size ∧ C0 < w0.heap.size ∧ C1 < w0.heap.size ∧ (xs ≠ [] → L < w0.heap.size) ∧ ∀ x ∈ xs, x.1 < w0.heap.size

section
variable {pb : Bool} {w0 : World} {B : Nat} {c : LC} {st dr bd wt nx po re : Int} {L cap : Nat} {xs : List (Nat × Kn)} {Bl Bi C0 C1 X : Nat} {W W' : World}

theorem GRb.keep (g : GRb pb w0 B c st dr bd wt nx po re L cap xs Bl Bi C0 C1 X W) (hx : ∃ a n k, Blk W' X 85 #[.slice a n k])
    (hk : ∀ k, k < w0.heap.size → k ≠ X → W'.heap[k]? = W.heap[k]?) : GRb pb w0 B c st dr bd wt nx po re L cap xs Bl Bi C0 C1 X W' := by
  obtain ⟨a, n, k, xv⟩ := g.xb
  have hv' : ∃ a' n' k', Value.slice a n k = .slice a' n' k' := ⟨_, _, _, rfl⟩
  have key : ∀ (b i : Nat) (u : Value), b < w0.heap.size → W.cell? ⟨b, i, none⟩ = some u → (∀ a n k, u ≠ .slice a n k) → W'.cell? ⟨b, i, none⟩ = some u := by
    intro b i u hb h hs
    have hne := cell_ne_blk xv h hs hv'
    exact (World.cell?_of_block (a := ⟨b, i, none⟩) (hk b hb hne)).trans h
  have hB : B ≠ X := g.b.ne_ xv (by decide)
  refine ⟨(hk B g.lt.2.1 hB).trans g.b, ⟨fun j x hj => ?_, fun x hxm => ?_⟩, ?_, ?_, ?_, ?_, hx, g.lt⟩
  · exact key _ _ _ (g.lt.2.2.2.2.2.2.1 (by rintro rfl; simp at hj)) (g.row.r j x hj) (by intro a n k e; cases e)
  · have hne : x.1 ≠ X := (g.row.k x hxm).ne_ xv (by decide)
    exact (hk x.1 (g.lt.2.2.2.2.2.2.2 x hxm) hne).trans (g.row.k x hxm)
  · exact key _ _ _ g.lt.2.2.1 g.p0 (by intro a n k e; cases e)
  · exact key _ _ _ g.lt.2.2.2.1 g.p1 (by intro a n k e; cases e)
  · exact key _ _ _ g.lt.2.2.2.2.1 g.p2 (by intro a n k e; cases e)
  · exact key _ _ _ g.lt.2.2.2.2.2.1 g.p3 (by intro a n k e; cases e)

theorem GRb.good : Good (α := { x // x ∈ xs }) (GRb pb w0 B c st dr bd wt nx po re L cap xs Bl Bi C0 C1 X) (fun x => x.1.1) B Bl Bi L (.func (.func 103) #[] #[.pointer (some ⟨C0, 0, none⟩), .pointer (some ⟨C1, 0, none⟩)]) xs.attach cap where
  d := fun W q g => ⟨g.b, ⟨g.row.r, g.row.k⟩, g.p0, g.p1, g.p2, g.p3, g.xb, g.lt⟩
  h1 := fun W g => g.p0
  h2 := fun W g => by rw [List.length_attach]; exact g.b.cell 22
  hi := fun W g => g.p1
  hr := fun W g j x hj => g.row.r j x.1 (by
    have := congrArg (Option.map Subtype.val) hj
    rwa [← List.getElem?_map, List.attach_map_subtype_val] at this)
/-- What the rounds have laid by. -/
structure IRb (pb : Bool) (w : World) (w0 : World) (B : Nat) (c : LC) (st dr bd wt nx po re : Int) (L cap : Nat) (xs : List (Nat × Kn)) (Bl Bi C0 C1 X Y : Nat) (k : Nat) (W : World) : Prop where
  g : GRb pb w0 B c st dr bd wt nx po re L cap xs Bl Bi C0 C1 X W
  o : ∃ v rows, Blk W X 85 #[v] ∧ W.ownsRow w0.heap.size 105 9 v k rows ∧ ∀ u ∈ rows, u.oneCell' = true
  y : Blk W Y 85 #[.slice none 0 0]
  s : w0.heap.size ≤ W.heap.size
  b : Below w.heap.size w W

theorem IRb.own {w : World} {Y : Nat} (hw : w.heap.size ≤ w0.heap.size) (hY : Y < w0.heap.size) {β : Type} (f : β → Nat) : OwnFrom w0.heap.size (fun (s : β) W => IRb pb w w0 B c st dr bd wt nx po re L cap xs Bl Bi C0 C1 X Y (f s) W) := by
  rintro s W W' row ⟨g, ⟨v, rows, hx, ho, hone⟩, y, hs, hb⟩ hg hr
  have hk : ∀ k, k < w0.heap.size → W'.heap[k]? = W.heap[k]? := fun k hk => hg.block k (by omega) (fun e => by have := (hr k e.symm).1; omega)
  obtain ⟨a, m, rfl⟩ := own_slice ho
  have hx' : Blk W' X 85 #[.slice a (f s) m] := (hk X g.lt.1).trans hx
  refine ⟨g.keep ⟨_, _, _, hx'⟩ (fun k h _ => hk k h), ⟨_, rows, hx', ?_, hone⟩, (hk Y hY).trans y, Nat.le_trans hs hg.size, hb.grown hg (by omega) (fun k e => by have := (hr k e).1; omega)⟩
  refine (Frame.of_grown (S := fun k => row = some k) hg (fun k e _ => e)).own ho ?_
  intro g' hg' e
  obtain ⟨_, o, h1, h2⟩ := hr g' e
  obtain ⟨_, cs, h3⟩ := own_cells ho g' hg'
  rw [h3] at h1
  cases h1
  cases h2

end

set_option maxHeartbeats 4000000 in
set_option maxRecDepth 100000 in
theorem round_peers_on (w : World) (B : Nat) (c : LC) (st dr bd wt nx po re : Int) (L cap : Nat) (xs : List (Nat × Kn)) (hn0 : 0 ≤ c.nb) (hn1 : c.nb ≤ 32) (hdm : c.dm = false) (pb : Bool) (hp : c.peers = true) (hlen : xs.length ≤ 100000)
    (k : Blk w B 119 (lks c st dr bd wt nx po re (.slice (some ⟨L, 0, none⟩) xs.length cap))) (hrow : RowAt w L xs) :
    Calls Try.prog 69 #[.pointer (some ⟨B, 0, none⟩), .bool pb] w fun e w' => RowPost w e w' := by
  have hp2 : ∀ W, Calls Try.prog 63 #[.agg #[.int .u8 c.ty, .int .u32 c.ro, .int .u32 c.na, .int .u8 c.nb, .int .u32 c.ad, .int .u8 c.op, .int .u16 c.hi, .int .u32 c.dd, .int .u16 c.po, .int .u8 c.pr, .bool c.dm, .bool c.ps, c.pe, .int .u32 c.rm]] W fun e w' => e = .returned (.bool true) ∧ Below W.heap.size W w' := fun W => by have h := peers_any c W; rw [hp] at h; exact h
  have HP := Lib.hid hp2
  clear hp2 hp
  have K := Lib.hid k
  have HRow := Lib.hid hrow
  have HDm := Lib.hid hdm
  have hlt : B < w.heap.size := k.lt
  have hmf : ∀ (fn : Fn) (first cap : Array Value) (w : World), (Instr.makeFunc fn first cap).run Try.prog w = .ok (.func fn first cap) w := fun _ _ _ _ => rfl
  clear k hrow hdm
  refine (callsIn_wide (n := 3)).1 ?_
  refine callsIn_of_wp_marks Try.func69 rfl trivial ?_ rfl
  rw [wpIn_wide]
  simp only [Try.ntmps69, List.size_toArray, List.length_cons, List.length_nil, Nat.reduceAdd, Nat.reduceSub, Array.replicate_succ, Array.replicate_zero, List.push_toArray, List.append_toArray, List.nil_append, List.cons_append]
  go_upto_region 2 with fail
  obtain ⟨W0, hW0⟩ : ∃ W0, W0 = (((w.alloc (.cells #[.pointer (some ⟨B, 0, none⟩)] 78)).alloc (.cells #[.bool pb] 4)).alloc (.cells #[.slice none 0 0] 85)).alloc (.cells #[.slice none 0 0] 85) := ⟨_, rfl⟩
  have K0 : Hid (Blk W0 B 119 (lks c st dr bd wt nx po re (.slice (some ⟨L, 0, none⟩) xs.length cap))) := Lib.hid (by rw [hW0]; exact (((K.out.alloc _).alloc _).alloc _).alloc _)
  have A0 : Hid (Blk W0 w.heap.size 78 #[.pointer (some ⟨B, 0, none⟩)]) := Lib.hid (by rw [hW0]; exact (((Blk.new w _ _).alloc _).alloc _).alloc _)
  have A1 : Hid (Blk W0 (w.heap.size + 1) 4 #[.bool pb]) := Lib.hid (by rw [hW0]; have := Blk.new (w.alloc (.cells #[.pointer (some ⟨B, 0, none⟩)] 78)) 4 #[.bool pb]; rw [World.size_alloc] at this; exact ((this).alloc _).alloc _)
  have A2 : Hid (Blk W0 (w.heap.size + 1 + 1) 85 #[.slice none 0 0]) := Lib.hid (by rw [hW0]; have := Blk.new ((w.alloc (.cells #[.pointer (some ⟨B, 0, none⟩)] 78)).alloc (.cells #[.bool pb] 4)) 85 #[.slice none 0 0]; simp only [World.size_alloc] at this; exact (this).alloc _)
  have A3 : Hid (Blk W0 (w.heap.size + 1 + 1 + 1) 85 #[.slice none 0 0]) := Lib.hid (by rw [hW0]; have := Blk.new (((w.alloc (.cells #[.pointer (some ⟨B, 0, none⟩)] 78)).alloc (.cells #[.bool pb] 4)).alloc (.cells #[.slice none 0 0] 85)) 85 #[.slice none 0 0]; simp only [World.size_alloc] at this; exact this)
  have B0 : Hid (Below w.heap.size w W0) := Lib.hid (by rw [hW0]; exact ((((Below.refl _ w).alloc (Nat.le_refl _) _).alloc (by simp) _).alloc (by simp; omega) _).alloc (by simp; omega) _)
  have hs0 : w.heap.size + 1 + 1 + 1 < W0.heap.size := A3.out.lt
  rw [← hW0]
  clear hW0
  have p0 : W0.cell? ⟨w.heap.size, 0, none⟩ = some (.pointer (some ⟨B, 0, none⟩)) := A0.out.cell 0
  have e1 : W0.cell? ⟨B, 1, none⟩ = some (.int .u8 c.ty) := K0.out.cell 1
  have e2 : W0.cell? ⟨B, 2, none⟩ = some (.int .u32 c.ro) := K0.out.cell 2
  have e3 : W0.cell? ⟨B, 3, none⟩ = some (.int .u32 c.na) := K0.out.cell 3
  have e4 : W0.cell? ⟨B, 4, none⟩ = some (.int .u8 c.nb) := K0.out.cell 4
  have e5 : W0.cell? ⟨B, 5, none⟩ = some (.int .u32 c.ad) := K0.out.cell 5
  have e6 : W0.cell? ⟨B, 6, none⟩ = some (.int .u8 c.op) := K0.out.cell 6
  have e7 : W0.cell? ⟨B, 7, none⟩ = some (.int .u16 c.hi) := K0.out.cell 7
  have e8 : W0.cell? ⟨B, 8, none⟩ = some (.int .u32 c.dd) := K0.out.cell 8
  have e9 : W0.cell? ⟨B, 9, none⟩ = some (.int .u16 c.po) := K0.out.cell 9
  have e10 : W0.cell? ⟨B, 10, none⟩ = some (.int .u8 c.pr) := K0.out.cell 10
  have e11 : W0.cell? ⟨B, 11, none⟩ = some (.bool c.dm) := K0.out.cell 11
  have e12 : W0.cell? ⟨B, 12, none⟩ = some (.bool c.ps) := K0.out.cell 12
  have e13 : W0.cell? ⟨B, 13, none⟩ = some (c.pe) := K0.out.cell 13
  have e14 : W0.cell? ⟨B, 14, none⟩ = some (.int .u32 c.rm) := K0.out.cell 14
  have hl0 : B < W0.heap.size := K0.out.lt
  go_wp2_with fail
  refine (HP.out _).mono ?_
  rintro e w1 ⟨rfl, hb1⟩
  have K1 := Lib.hid (K0.out.below hb1 K0.out.lt)
  have A01 := Lib.hid (A0.out.below hb1 A0.out.lt)
  have A11 := Lib.hid (A1.out.below hb1 A1.out.lt)
  have A21 := Lib.hid (A2.out.below hb1 A2.out.lt)
  have A31 := Lib.hid (A3.out.below hb1 A3.out.lt)
  have B1 := Lib.hid (B0.out.trans (hb1.mono B0.out.size))
  clear p0 e1 e2 e3 e4 e5 e6 e7 e8 e9 e10 e11 e12 e13 e14 hl0 hb1
  have p1 : w1.cell? ⟨w.heap.size, 0, none⟩ = some (.pointer (some ⟨B, 0, none⟩)) := A01.out.cell 0
  go_wp2_with fail
  refine (all_made _ _ _ ⟨_, rfl⟩ ⟨_, _, _, rfl⟩).mono ?_
  rintro e w2 ⟨rfl, hb2, b1, b2⟩
  have h2l : w1.heap.size + 1 < w2.heap.size := lt_of_cell b2
  have K2 := Lib.hid (K1.out.below hb2 K1.out.lt)
  have A02 := Lib.hid (A01.out.below hb2 A01.out.lt)
  have A12 := Lib.hid (A11.out.below hb2 A11.out.lt)
  have A22 := Lib.hid (A21.out.below hb2 A21.out.lt)
  have A32 := Lib.hid (A31.out.below hb2 A31.out.lt)
  have B2 := Lib.hid (B1.out.trans (hb2.mono B1.out.size))
  clear p1 hb2
  have R2 : Hid (RowAt w2 L xs) := Lib.hid ⟨fun j x hj => (B2.out.cell (p := ⟨L, j, none⟩) (lt_of_cell (HRow.out.r j x hj))).trans (HRow.out.r j x hj), fun x hx => (HRow.out.k x hx).below B2.out (HRow.out.k x hx).lt⟩
  have hltL : xs ≠ [] → L < w.heap.size := fun h => by
    obtain ⟨x, r, rfl⟩ := List.exists_cons_of_ne_nil h
    exact lt_of_cell (HRow.out.r 0 x rfl)
  have hwx : ∀ x ∈ xs, x.1 < w.heap.size := fun x hx => (HRow.out.k x hx).lt
  have hw2 : w.heap.size + 1 + 1 + 1 < w2.heap.size := A32.out.lt
  have G2 : Hid (GRb pb w2 B c st dr bd wt nx po re L cap xs w1.heap.size (w1.heap.size + 1) w.heap.size (w.heap.size + 1) (w.heap.size + 1 + 1 + 1) w2) := Lib.hid
    ⟨K2.out, R2.out, b1, b2, A02.out.cell 0, A12.out.cell 0, ⟨_, _, _, A32.out⟩, by omega, by omega, by omega, by omega, by omega, by omega, fun h => by have := hltL h; omega, fun x hx => by have := hwx x hx; omega⟩
  go_wp2_with fail
  rw [← wpIn_wide (n := 3)]
  obtain ⟨i0, hi, hz0, hz1, hz2⟩ := info_parts send_info
  have hgs : ∀ W, Below w2.heap.size w2 W → GRb pb w2 B c st dr bd wt nx po re L cap xs w1.heap.size (w1.heap.size + 1) w.heap.size (w.heap.size + 1) (w.heap.size + 1 + 1 + 1) W := fun W h => G2.out.keep ⟨_, _, _, A32.out.below h hw2⟩ (fun k hk _ => h.block k hk)
  have HI := Lib.hid (IRb.own (pb := pb) (w0 := w2) (B := B) (c := c) (st := st) (dr := dr) (bd := bd) (wt := wt) (nx := nx) (po := po) (re := re) (L := L) (cap := cap) (xs := xs) (Bl := w1.heap.size) (Bi := w1.heap.size + 1) (C0 := w.heap.size) (C1 := w.heap.size + 1) (X := w.heap.size + 1 + 1 + 1) (w := w) (Y := w.heap.size + 1 + 1) (by omega) (by omega) (List.length (α := { x // x ∈ xs })))
  obtain ⟨G, hG⟩ : ∃ G, G = GRb pb w2 B c st dr bd wt nx po re L cap xs w1.heap.size (w1.heap.size + 1) w.heap.size (w.heap.size + 1) (w.heap.size + 1 + 1 + 1) := ⟨_, rfl⟩
  have hkb : ∀ (W : World) (l : Nat) (o o' : Obj), w2.heap.size ≤ l → W.heap[l]? = some o → o.isCells = false → o.isWalk = false → (G W → G (W.putObj l o')) := by
    intro W l o o' hl _ _ _ g
    rw [hG] at g ⊢
    obtain ⟨a, n, k, hx⟩ := g.xb
    have hk : ∀ k, k < w2.heap.size → (W.putObj l o').heap[k]? = W.heap[k]? := fun k hk => World.putObj_heap_other (by omega)
    exact g.keep ⟨_, _, _, (hk _ hw2).trans hx⟩ (fun k h _ => hk k h)
  have hseq := all_stops_round 2 (by omega) w2 G (fun x : { x // x ∈ xs } => x.1.1) (fun x => dueV c st dr bd pb x.1.2.st x.1.2.ad x.1.2.pr) B w1.heap.size (w1.heap.size + 1) L cap w.heap.size (w.heap.size + 1) xs.attach (by rw [List.length_attach]; exact hlen) (by rw [hG]; exact GRb.good) (by rw [hG]; exact hgs)
      (fun W x g _ => by rw [hG] at g; exact round1_any W B x.1.1 _ _ c st dr bd wt nx po re _ pb _ _ _ g.b ((g.row.k x.1 x.2).cell 1) ((g.row.k x.1 x.2).cell 2) ((g.row.k x.1 x.2).cell 3) g.p2 g.p3)
  obtain ⟨I, hI⟩ : ∃ I : List { x // x ∈ xs } → World → Prop, I = fun pre W => IRb pb w w2 B c st dr bd wt nx po re L cap xs w1.heap.size (w1.heap.size + 1) w.heap.size (w.heap.size + 1) (w.heap.size + 1 + 1 + 1) (w.heap.size + 1 + 1) pre.length W := ⟨_, rfl⟩
  have hIo : OwnFrom w2.heap.size I := by rw [hI]; exact HI.out
  have hI0 : I [] w2 := by rw [hI]; exact ⟨G2.out, ⟨.slice none 0 0, [], A32.out, World.ownsRow_nil _ _ _ _, by simp⟩, A22.out, Nat.le_refl _, B2.out⟩
  refine wpIn_rangeFunc_ownF (F := Fence.wide) (n := 3) rfl (by omega) rfl trivial enters_all1 hseq (fun h k g => k (h g)) (fun W l o o' => hkb W l o o') (Below.refl _ _) (fun _ => rfl) I (fun _ _ _ => False) hIo (fun _ _ _ _ _ hs _ _ => hs) hI0 ?a₁ ?assign ?body ?done (fun _ _ _ _ _ _ h _ => h.elim)
  case assign =>
    intro l x W K hK
    gi_wp2
    exact hK
  case body =>
    intro l pre x W hIx hlen2
    rw [hI] at hIx
    obtain ⟨g, ⟨v, rows, hx, hown, hone⟩, hy, hsz, hb⟩ := hIx
    obtain ⟨va, vm, rfl⟩ := own_slice hown
    have HG := Lib.hid g
    have HX := Lib.hid hx
    have HOwn := Lib.hid hown
    have HY := Lib.hid hy
    have HB := Lib.hid hb
    have kx := g.row.k x.1 x.2
    have x1 : W.cell? ⟨x.1.1, 1, none⟩ = some (.int .u32 x.1.2.ad) := kx.cell 1
    have xo : W.cell? ⟨w.heap.size + 1 + 1 + 1, 0, none⟩ = some (.slice va pre.length vm) := hx.cell 0
    have xl : W.cell? ⟨w.heap.size, 0, none⟩ = some (.pointer (some ⟨B, 0, none⟩)) := g.p2
    have hBW : B < W.heap.size := by omega
    clear kx hx hown hy hb g
    have hXW : w.heap.size + 1 + 1 + 1 < W.heap.size := by omega
    gi_wp2_with fail
    refine wpIn_region_lex (C := fun w' => w'.cell? ⟨w.heap.size + 1 + 1 + 1, 0, none⟩ = some (.slice va pre.length vm) ∧ w'.cell? ⟨x.1.1, 1, none⟩ = some (.int .u32 x.1.2.ad) ∧ w'.cell? ⟨w.heap.size, 0, none⟩ = some (.pointer (some ⟨B, 0, none⟩))) 10 [true, true, true, true, true, true, true, false] (by kernel_rfl) (by kernel_rfl) (by kernel_rfl) (fun ⟨_, _, h⟩ => h) (fun _ _ _ _ _ h => h) ⟨xo, x1, xl⟩ ?_
    refine ⟨.slice va pre.length vm, ⟨rfl, fun w' ⟨h, _, _⟩ => by simp [go_sem, h]⟩, ?_⟩
    refine ⟨.pointer (some ⟨x.1.1, 0, none⟩), ⟨rfl, fun w' _ => by simp [go_sem, Act.put]⟩, ?_⟩
    refine ⟨.pointer (some ⟨x.1.1, 0, none⟩), ⟨rfl, fun w' _ => by simp [go_sem, Act.put]⟩, ?_⟩
    refine ⟨.pointer (some ⟨x.1.1, 0, none⟩), ⟨rfl, fun w' _ => by simp [go_sem, Act.put]⟩, ?_⟩
    simp only [Act.put, List.setIfInBounds_toArray, List.set_cons_succ, List.set_cons_zero]
    refine ⟨.pointer (some ⟨x.1.1, 1, none⟩), ⟨rfl, fun w' _ => by simp [go_sem]⟩, ?_⟩
    refine ⟨.int .u32 x.1.2.ad, ⟨rfl, fun w' ⟨_, h, _⟩ => by simp [go_sem, Act.put, h]⟩, ?_⟩
    refine ⟨.pointer (some ⟨B, 0, none⟩), ⟨rfl, fun w' ⟨_, _, h⟩ => by simp [go_sem, Act.put, h]⟩, ?_⟩
    simp only [Act.put, List.setIfInBounds_toArray, List.set_cons_succ, List.set_cons_zero]
    refine wpLex_call rfl rfl ?hr (hello_gen_f W.drew B c st dr bd wt nx po re hn0 hn1 HDm.out L cap xs hlen ⟨HG.out.row.r, fun y hy => (HG.out.row.k y hy).drew⟩ HG.out.b.drew) ?_
    case hr => simp [go_sem]
    rintro e wx ⟨ha, hn, hk, rfl, _, hbx⟩
    have hwy : Below W.heap.size W wx := ⟨hbx.os, hbx.tape, hbx.output, hbx.size, hbx.block⟩
    have hcx : wx.cell? ⟨w.heap.size + 1 + 1 + 1, 0, none⟩ = some (.slice va pre.length vm) ∧ wx.cell? ⟨x.1.1, 1, none⟩ = some (.int .u32 x.1.2.ad) ∧ wx.cell? ⟨w.heap.size, 0, none⟩ = some (.pointer (some ⟨B, 0, none⟩)) := ⟨(hwy.cell (p := ⟨w.heap.size + 1 + 1 + 1, 0, none⟩) hXW).trans xo, (hwy.cell (p := ⟨x.1.1, 1, none⟩) (lt_of_cell x1)).trans x1, (hwy.cell (p := ⟨w.heap.size, 0, none⟩) (lt_of_cell xl)).trans xl⟩
    have HCX := Lib.hid hcx
    clear hbx hcx
    refine ⟨_, rfl, HCX.out, ?_⟩
    unfold helloW
    simp only [Act.put, List.setIfInBounds_toArray, List.set_cons_succ, List.set_cons_zero]
    refine wpListK_step rfl rfl ?_
    simp [Oper.wp, Oper.upon, go_sem]
    refine ⟨HCX.out, ?_⟩
    refine wpListK_step rfl rfl ?_
    simp [Oper.wp, Oper.upon, go_sem]
    refine ⟨⟨((hwy.alloc hwy.size _).cell (p := ⟨w.heap.size + 1 + 1 + 1, 0, none⟩) hXW).trans xo, ((hwy.alloc hwy.size _).cell (p := ⟨x.1.1, 1, none⟩) (lt_of_cell x1)).trans x1, ((hwy.alloc hwy.size _).cell (p := ⟨w.heap.size, 0, none⟩) (lt_of_cell xl)).trans xl⟩, ?_⟩
    refine wpListK_of_list _ 10 _ _ (Nat.le_refl _) (fun j => match j with
      | 0 => rfl
      | 1 => rfl
      | j + 2 => by simp; omega) ?_
    obtain ⟨wz, hwz⟩ : ∃ wz, wz = wx.alloc (.cells #[.int .u32 x.1.2.ad, .int .u32 (lmaskV c), .int .u16 c.hi, .int .u8 (optV c), .int .u8 c.pr, .int .u32 c.dd, .int .u32 dr, .int .u32 bd, .slice ha hn hk] 105) := ⟨_, rfl⟩
    have HLit := Lib.hid (Reads.of_own (World.ownsRow_lit (base := 0) (e := 105) (size := 9) wx #[.int .u32 x.1.2.ad, .int .u32 (lmaskV c), .int .u16 c.hi, .int .u8 (optV c), .int .u8 c.pr, .int .u32 c.dd, .int .u32 dr, .int .u32 bd, .slice ha hn hk] 1 (Nat.zero_le _) (by simp [maxLen]) rfl))
    rw [← hwz] at HLit
    rw [← hwz]
    have hwW : Below W.heap.size W wz := by rw [hwz]; exact hwy.alloc hwy.size _
    have hownz : wz.ownsRow w2.heap.size 105 9 (.slice va pre.length vm) pre.length rows := (Frame.of_below (S := fun _ => False) hwW).own HOwn.out (fun _ _ e => e)
    have hlp : pre.length < 100000 := by rw [List.length_attach] at hlen2; omega
    have hsW : W.heap.size ≤ wz.heap.size := hwW.size
    refine wpList_append_any _ rfl (.tmp 17) (.tmp 26) _ rfl w2.heap.size 105 i0 _ 9 56 Try.underlying85 hi hz0 hz1 hz2 rfl (by omega) (.slice va pre.length vm) pre.length rows rfl hownz _ (some ⟨wx.heap.size, 0, none⟩) 1 1 _ rfl HLit.out (by simp [Value.oneCell']) (by unfold maxLen; omega) (by omega) (by omega) ?_
    intro v1 w4 hown1 hg1 _
    have hb4 : ∀ k, k < W.heap.size → some k ≠ (Value.slice va pre.length vm).ownBlock → w4.heap[k]? = W.heap[k]? := fun k hk hne => (hg1.block k (by omega) hne).trans (hwW.block k hk)
    have hne : ∀ k, k < w2.heap.size → some k ≠ (Value.slice va pre.length vm).ownBlock := fun k hk e => by
      have := (own_cells hownz k e.symm).1
      omega
    have hX4 : Blk w4 (w.heap.size + 1 + 1 + 1) 85 #[.slice va pre.length vm] := (hb4 _ hXW (hne _ hw2)).trans HX.out
    have hX40 : w4.cell? ⟨w.heap.size + 1 + 1 + 1, 0, none⟩ = some (.slice va pre.length vm) := hX4.cell 0
    have hfz4 := hX4.frozen 0
    have hlt4 := hX4.lt
    obtain ⟨vb, vn, rfl⟩ := own_slice hown1
    have HOwn1 := Lib.hid hown1
    have HG1 := Lib.hid hg1
    have HB4 := Lib.hid hb4
    have HNe := Lib.hid hne
    have HWW := Lib.hid hwW
    have HOz := Lib.hid hownz
    clear hown1 hg1 hb4 hne hwW hownz xo x1 xl hwy hwz
    go_wp2_with fail
    have hX5 : Blk (w4.setCell ⟨w.heap.size + 1 + 1 + 1, 0, none⟩ (.slice vb (pre.length + 1) vn)) (w.heap.size + 1 + 1 + 1) 85 #[.slice vb (pre.length + 1) vn] := hX4.set_ 0 _
    have hk5 : ∀ k, k < w2.heap.size → k ≠ w.heap.size + 1 + 1 + 1 → (w4.setCell ⟨w.heap.size + 1 + 1 + 1, 0, none⟩ (.slice vb (pre.length + 1) vn)).heap[k]? = W.heap[k]? := fun k hk hx =>
      (Below.heap_setCell w4 _ _ k hx).trans (HB4.out k (by omega) (HNe.out k hk))
    have hs4 : wz.heap.size ≤ w4.heap.size := HG1.out.size
    have hs5 : (w4.setCell ⟨w.heap.size + 1 + 1 + 1, 0, none⟩ (.slice vb (pre.length + 1) vn)).heap.size = w4.heap.size := by simp [World.setCell]
    have hb4 : Below w.heap.size w w4 := (HB.out.trans (HWW.out.mono HB.out.size)).grown HG1.out (by have := HB.out.size; omega) (fun k e => by have := (own_cells HOz.out k e).1; omega)
    have ho5 : ∃ v rows, Blk (w4.setCell ⟨w.heap.size + 1 + 1 + 1, 0, none⟩ (.slice vb (pre.length + 1) vn)) (w.heap.size + 1 + 1 + 1) 85 #[v] ∧ (w4.setCell ⟨w.heap.size + 1 + 1 + 1, 0, none⟩ (.slice vb (pre.length + 1) vn)).ownsRow w2.heap.size 105 9 v (pre ++ [x]).length rows ∧ ∀ u ∈ rows, u.oneCell' = true := by
      rw [List.length_append]
      refine ⟨_, _, hX5, ?own5, fun u hu => (List.mem_append.1 hu).elim (hone u) (fun h => (show ∀ u ∈ (#[.int .u32 x.1.2.ad, .int .u32 (lmaskV c), .int .u16 c.hi, .int .u8 (optV c), .int .u8 c.pr, .int .u32 c.dd, .int .u32 dr, .int .u32 bd, .slice ha hn hk] : Array Value).toList, u.oneCell' = true from by simp [Value.oneCell']) u h)⟩
      exact ((Frame.refl (fun k => k = w.heap.size + 1 + 1 + 1) w4).setCell (p := ⟨w.heap.size + 1 + 1 + 1, 0, none⟩) (fun _ => rfl) _).own HOwn1.out (fun g hg e => by have := (own_cells HOwn1.out g hg).1; omega)
    refine ⟨?_, fun g => g.keep ⟨_, _, _, hX5⟩ hk5, HG.out.keep ⟨_, _, _, hX5⟩ hk5, ho5, (hk5 _ (by omega) (by omega)).trans HY.out, by omega, hb4.setCell (p := ⟨w.heap.size + 1 + 1 + 1, 0, none⟩) (by show w.heap.size ≤ w.heap.size + 1 + 1 + 1; omega) _⟩
    refine (below_others HWW.out).trans ((KeepsOthers.of_grownBy HG1.out ?_).trans (KeepsOthers.setCell _ _ _))
    intro j o e hj
    obtain ⟨_, cs, hc⟩ := own_cells HOz.out j e
    rw [hc] at hj
    cases hj
    rfl
  case done =>
    intro D ys W hD hys hIx hK
    rw [hI] at hIx
    obtain ⟨g, ⟨v, rows, hx, hown, hone⟩, hy, hsz, hb⟩ := hIx
    obtain ⟨va, vm, rfl⟩ := own_slice hown
    have HX := Lib.hid hx
    have HY := Lib.hid hy
    have HB := Lib.hid hb
    have HOwn := Lib.hid hown
    have hyl : ys.length ≤ 100000 := by rw [hys]; exact Nat.le_trans (List.length_filter_le _ _) (by rw [List.length_attach]; exact hlen)
    have xo : W.cell? ⟨w.heap.size + 1 + 1 + 1, 0, none⟩ = some (.slice va ys.length vm) := hx.cell 0
    have yo : W.cell? ⟨w.heap.size + 1 + 1, 0, none⟩ = some (.slice none 0 0) := hy.cell 0
    have fy := hy.frozen 0
    have hly := hy.lt
    have hDl : D < W.heap.size := (Array.getElem?_eq_some_iff.1 hK).1
    clear hx hy hb hown g hys
    dsimp only
    go_wp2_with fail
    obtain ⟨W4, hW4⟩ : ∃ W4, W4 = W.setCell ⟨w.heap.size + 1 + 1, 0, none⟩ (.slice va ys.length vm) := ⟨_, rfl⟩
    rw [← hW4]
    have hD2 : w2.heap.size ≤ D := hD
    have hwD : w.heap.size + 1 + 1 < D := by omega
    have hK4 : W4.heap[D]? = some (.deferred (some [])) := by
      rw [hW4, heap_far _ _ hwD]
      exact hK
    have kR : Blk W4 (w.heap.size + 1 + 1) 85 #[.slice va ys.length vm] := by rw [hW4]; exact HY.out.set_ 0 _
    have hB4 : Below w.heap.size w W4 := by
      rw [hW4]
      exact HB.out.setCell (p := ⟨w.heap.size + 1 + 1, 0, none⟩) (by show w.heap.size ≤ w.heap.size + 1 + 1; omega) _
    refine ⟨by simp, .inl ⟨_, _, rfl, run_takeDeferred hK4, ?_⟩⟩
    have k9 := kR.grown (grownBy_putObj' W4 D (.deferred none)) (by simp; omega)
    have u0 := (k9.cell 0).trans rfl
    have hYW : w.heap.size + 1 + 1 < w2.heap.size := by omega
    have ho4 : W4.ownsRow w2.heap.size 105 9 (.slice va ys.length vm) ys.length rows := by
      rw [hW4]
      exact ((Frame.refl (fun k => k = w.heap.size + 1 + 1) W).setCell (p := ⟨w.heap.size + 1 + 1, 0, none⟩) (fun _ => rfl) _).own HOwn.out (fun g hg e => by have := (own_cells HOwn.out g hg).1; omega)
    have ho9 := (Frame.of_grown (S := fun k => k = D) (grownBy_putObj' W4 D (.deferred none)) (fun k e _ => (Option.some.inj e).symm)).own ho4 (fun g hg e => by
      obtain ⟨_, cs, h3⟩ := own_cells ho4 g hg
      rw [e, hK4] at h3
      cases h3)
    refine ⟨.slice va ys.length vm, ?_, ⟨va, ys.length, vm, rows, rfl, ownsRow_lower ho9 (by omega), hone, hyl, hB4.trans (below_put hK4 (by omega))⟩⟩
    simp [results, Try.f69, go_sem, u0]
end Go.Proofs.Ytgbmhijgpdgdbaa
