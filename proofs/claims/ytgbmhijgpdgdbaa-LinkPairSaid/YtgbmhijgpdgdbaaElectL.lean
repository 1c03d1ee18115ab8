/- A link's election. -/
import Derived.Test.YtgbmhijgpdgdbaaElectAll
import Derived.Test.YtgbmhijgpdgdbaaAllNone
import Derived.Test.YtgbmhijgpdgdbaaLinkAt
namespace Go.Proofs.Ytgbmhijgpdgdbaa
open Go.RowKit Go.Shelf

attribute [local go_sem] Oper.semAt_some

theorem mem2 {α : Type} {P : α → Prop} {a b : α} (h1 : P a) (h2 : P b) : ∀ y ∈ [a, b], P y := by
  intro y hy
  rcases List.mem_cons.1 hy with rfl | hy
  · exact h1
  · obtain rfl := List.mem_singleton.1 hy
    exact h2

/-- What a range over the neighbours leans on: the link, its row, the iterator's two boxes; a box X is written. -/
structure GQ (w0 : World) (B : Nat) (c : LC) (st dr bd wt nx po re : Int) (L cap : Nat) (xs : List (Nat × Kn)) (Bl Bi X : Nat) (tX : TypeId) (f : Value) (W : World) : Prop where
  b : Blk W B 119 (lks c st dr bd wt nx po re (.slice (some ⟨L, 0, none⟩) xs.length cap))
  row : RowAt W L xs
  p0 : W.cell? ⟨Bl, 0, none⟩ = some (.pointer (some ⟨B, 0, none⟩))
  p1 : W.cell? ⟨Bi, 0, none⟩ = some f
  xb : ∃ a n k, Blk W X tX #[.slice a n k]
  lt : X < w0.heap.size ∧ B < w0.heap.size ∧ Bl < w0.heap.size ∧ Bi < w0.heap.size ∧ (xs ≠ [] → L < w0.heap.size) ∧ ∀ x ∈ xs, x.1 < w0.heap.size

section
variable {w0 : World} {B : Nat} {c : LC} {st dr bd wt nx po re : Int} {L cap : Nat} {xs : List (Nat × Kn)} {Bl Bi X : Nat} {tX : TypeId} {f : Value} {W W' : World}

theorem cell_ne_blk' {W : World} {X b i : Nat} {tX : TypeId} {v u : Value} (hx : Blk W X tX #[v]) (h : W.cell? ⟨b, i, none⟩ = some u) (hs : ∀ a n k, u ≠ .slice a n k) (hv : ∃ a n k, v = .slice a n k) : b ≠ X := by
  rintro rfl
  rw [hx.cell i] at h
  obtain ⟨a, n, k, rfl⟩ := hv
  match i, h with
  | 0, h => simp at h; exact hs a n k h.symm
  | i + 1, h => simp at h

theorem GQ.keep (ht1 : tX ≠ 119) (ht2 : tX ≠ 139) (hf : ∀ a n k, f ≠ .slice a n k) (g : GQ w0 B c st dr bd wt nx po re L cap xs Bl Bi X tX f W) (hx : ∃ a n k, Blk W' X tX #[.slice a n k])
    (hk : ∀ k, k < w0.heap.size → k ≠ X → W'.heap[k]? = W.heap[k]?) : GQ w0 B c st dr bd wt nx po re L cap xs Bl Bi X tX f W' := by
  obtain ⟨a, n, k, xv⟩ := g.xb
  have hv' : ∃ a' n' k', Value.slice a n k = .slice a' n' k' := ⟨_, _, _, rfl⟩
  have key : ∀ (b i : Nat) (u : Value), b < w0.heap.size → W.cell? ⟨b, i, none⟩ = some u → (∀ a n k, u ≠ .slice a n k) → W'.cell? ⟨b, i, none⟩ = some u := by
    intro b i u hb h hs
    have hne := cell_ne_blk' xv h hs hv'
    exact (World.cell?_of_block (a := ⟨b, i, none⟩) (hk b hb hne)).trans h
  have hB : B ≠ X := g.b.ne_ xv (Ne.symm ht1)
  refine ⟨(hk B g.lt.2.1 hB).trans g.b, ⟨fun j x hj => ?_, fun x hxm => ?_⟩, ?_, ?_, hx, g.lt⟩
  · exact key _ _ _ (g.lt.2.2.2.2.1 (by rintro rfl; simp at hj)) (g.row.r j x hj) (by intro a n k e; cases e)
  · have hne : x.1 ≠ X := (g.row.k x hxm).ne_ xv (Ne.symm ht2)
    exact (hk x.1 (g.lt.2.2.2.2.2 x hxm) hne).trans (g.row.k x hxm)
  · exact key _ _ _ g.lt.2.2.1 g.p0 (by intro a n k e; cases e)
  · exact key _ _ _ g.lt.2.2.2.1 g.p1 hf

theorem GQ.good : Good (α := { x // x ∈ xs }) (GQ w0 B c st dr bd wt nx po re L cap xs Bl Bi X tX f) (fun x => x.1.1) B Bl Bi L f xs.attach cap where
  d := fun W q g => ⟨g.b, ⟨g.row.r, g.row.k⟩, g.p0, g.p1, g.xb, g.lt⟩
  h1 := fun W g => g.p0
  h2 := fun W g => by rw [List.length_attach]; exact g.b.cell 22
  hi := fun W g => g.p1
  hr := fun W g j x hj => g.row.r j x.1 (by
    have := congrArg (Option.map Subtype.val) hj
    rwa [← List.getElem?_map, List.attach_map_subtype_val] at this)

/-- What the rounds have laid by: elements of type tE, of size z. -/
structure IQ (w : World) (w0 : World) (B : Nat) (c : LC) (st dr bd wt nx po re : Int) (L cap : Nat) (xs : List (Nat × Kn)) (Bl Bi X : Nat) (tX : TypeId) (f : Value) (tE : TypeId) (z : Nat) (Ys : List (Nat × TypeId × Array Value)) (n : Nat) (rows : List Value) (W : World) : Prop where
  g : GQ w0 B c st dr bd wt nx po re L cap xs Bl Bi X tX f W
  o : ∃ v, Blk W X tX #[v] ∧ W.ownsRow w0.heap.size tE z v n rows
  y : ∀ y ∈ Ys, Blk W y.1 y.2.1 y.2.2
  s : w0.heap.size ≤ W.heap.size
  b : Below w.heap.size w W

theorem IQ.own {w : World} {tE : TypeId} {z : Nat} {Ys : List (Nat × TypeId × Array Value)} (ht1 : tX ≠ 119) (ht2 : tX ≠ 139) (hf : ∀ a n k, f ≠ .slice a n k) (hw : w.heap.size ≤ w0.heap.size) (hY : ∀ y ∈ Ys, y.1 < w0.heap.size) {β : Type} (N : β → Nat) (R : β → List Value) :
    OwnFrom w0.heap.size (fun (s : β) W => IQ w w0 B c st dr bd wt nx po re L cap xs Bl Bi X tX f tE z Ys (N s) (R s) W) := by
  rintro s W W' row ⟨g, ⟨v, hx, ho⟩, y, hs, hb⟩ hg hr
  have hk : ∀ k, k < w0.heap.size → W'.heap[k]? = W.heap[k]? := fun k hk => hg.block k (by omega) (fun e => by have := (hr k e.symm).1; omega)
  obtain ⟨a, m, rfl⟩ := own_slice ho
  have hx' := (hk X g.lt.1).trans hx
  refine ⟨g.keep ht1 ht2 hf ⟨_, _, _, hx'⟩ (fun k h _ => hk k h), ⟨_, hx', ?_⟩, fun y' hy' => (hk y'.1 (hY y' hy')).trans (y y' hy'), Nat.le_trans hs hg.size, hb.grown hg (by omega) (fun k e => by have := (hr k e).1; omega)⟩
  refine (Frame.of_grown (S := fun k => row = some k) hg (fun k e _ => e)).own ho ?_
  intro g' hg' e
  obtain ⟨_, o, h1, h2⟩ := hr g' e
  obtain ⟨_, cs, h3⟩ := own_cells ho g' hg'
  rw [h3] at h1
  cases h1
  cases h2
end

def twoWayK (x : Nat × Kn) : Bool := x.2.st == 3
def voiceK (x : Nat × Kn) : El.V := ⟨x.2.ro, x.2.ad, x.2.pr, x.2.dr, x.2.bd⟩
def voiceRows {xs : List (Nat × Kn)} (pre : List { x // x ∈ xs }) : List Value := pre.flatMap fun x => Ev.cells (voiceK x.1)

theorem voice_rows_len {xs : List (Nat × Kn)} (pre : List { x // x ∈ xs }) : (voiceRows pre).length = pre.length * 5 := by
  induction pre with
  | nil => rfl
  | cons a l ih => simp only [voiceRows, List.flatMap_cons, List.length_append, List.length_cons] at ih ⊢; rw [ih]; simp [Ev.cells]; omega

/-- What a link is behind an election. -/
def elState (c : LC) (o : Int × Int) : Int := if c.ad == o.1 then 6 else if c.ad == o.2 then 5 else 4
def elOut (c : LC) (dr bd : Int) (xs : List (Nat × Kn)) : Int × Int := El.elect ⟨c.ro, c.ad, c.pr, dr, bd⟩ ((xs.filter twoWayK).map voiceK)
def ElectPost (B : Nat) (c : LC) (_st dr bd wt nx po re : Int) (L cap : Nat) (xs : List (Nat × Kn)) (w : World) (e : Ending) (w' : World) : Prop :=
  e = .returned (.tuple #[]) ∧ Blk w' B 119 (lks c (elState c (elOut c dr bd xs)) (elOut c dr bd xs).1 (elOut c dr bd xs).2 wt nx po re (.slice (some ⟨L, 0, none⟩) xs.length cap)) ∧ Frame (fun j => j = B) w w'

set_option maxHeartbeats 400000 in
theorem elect1_any (w : World) (K : Nat) (st : Int) (h : w.cell? ⟨K, 2, none⟩ = some (.int .u8 st)) :
    Calls Try.prog 110 #[.pointer (some ⟨K, 0, none⟩)] w fun e w' => e = .returned (.bool (st == 3)) ∧ w = w' := by
  go_enter Try.func110, Try.ntmps110
  go_wp2_with fail
  go_ret
  exact ⟨rfl, rfl⟩

set_option maxHeartbeats 4000000 in
set_option maxRecDepth 100000 in
theorem elect_row (w : World) (B : Nat) (c : LC) (st dr bd wt nx po re : Int) (L cap : Nat) (xs : List (Nat × Kn)) (hlen : xs.length ≤ 60000) (hty : (c.ty == 1) = false) (k : Blk w B 119 (lks c st dr bd wt nx po re (.slice (some ⟨L, 0, none⟩) xs.length cap))) (hrow : RowAt w L xs) :
    Calls Try.prog 76 #[.pointer (some ⟨B, 0, none⟩)] w fun e w' => ElectPost B c st dr bd wt nx po re L cap xs w e w' := by
  have K := Lib.hid k
  have HRow := Lib.hid hrow
  have HTy := Lib.hid hty
  have hlt : B < w.heap.size := k.lt
  clear k hrow hty
  refine (callsIn_wide (n := 3)).1 ?_
  refine callsIn_of_wp_marks Try.func76 rfl trivial ?_ rfl
  rw [wpIn_wide]
  simp only [Try.ntmps76, List.size_toArray, List.length_cons, List.length_nil, Nat.reduceAdd, Nat.reduceSub, Array.replicate_succ, Array.replicate_zero, List.push_toArray, List.append_toArray, List.nil_append, List.cons_append]
  go_upto_region 1 with fail
  obtain ⟨W0, hW0⟩ : ∃ W0, W0 = w.alloc (.cells #[.pointer (some ⟨B, 0, none⟩)] 78) := ⟨_, rfl⟩
  have K0 : Hid (Blk W0 B 119 (lks c st dr bd wt nx po re (.slice (some ⟨L, 0, none⟩) xs.length cap))) := Lib.hid (by rw [hW0]; exact K.out.alloc _)
  have A0 : Hid (Blk W0 w.heap.size 78 #[.pointer (some ⟨B, 0, none⟩)]) := Lib.hid (by rw [hW0]; exact Blk.new w _ _)
  have B0 : Hid (Below w.heap.size w W0) := Lib.hid (by rw [hW0]; exact (Below.refl _ w).alloc (Nat.le_refl _) _)
  have hs0 : w.heap.size < W0.heap.size := A0.out.lt
  rw [← hW0]
  clear hW0
  have p0 : W0.cell? ⟨w.heap.size, 0, none⟩ = some (.pointer (some ⟨B, 0, none⟩)) := A0.out.cell 0
  have e2 : W0.cell? ⟨B, 2, none⟩ = some (.int .u32 c.ro) := K0.out.cell 2
  have e5 : W0.cell? ⟨B, 5, none⟩ = some (.int .u32 c.ad) := K0.out.cell 5
  have e10 : W0.cell? ⟨B, 10, none⟩ = some (.int .u8 c.pr) := K0.out.cell 10
  have e16 : W0.cell? ⟨B, 16, none⟩ = some (.int .u32 dr) := K0.out.cell 16
  have e17 : W0.cell? ⟨B, 17, none⟩ = some (.int .u32 bd) := K0.out.cell 17
  have hl0 : B < W0.heap.size := K0.out.lt
  go_cut [2] from 6 to 29 (fun p2 wx => ∃ S : Nat, p2 = .pointer (some ⟨S, 0, none⟩) ∧ Blk wx S 178 #[.int .u32 c.ro, .int .u32 c.ad, .int .u8 c.pr, .int .u32 dr, .int .u32 bd] ∧ w.heap.size < S ∧ Below W0.heap.size W0 wx)
  case first =>
    go_region_held3 (fun w' => w'.cell? ⟨w.heap.size, 0, none⟩ = some (.pointer (some ⟨B, 0, none⟩)) ∧ w'.cell? ⟨B, 2, none⟩ = some (.int .u32 c.ro) ∧ w'.cell? ⟨B, 5, none⟩ = some (.int .u32 c.ad) ∧ w'.cell? ⟨B, 10, none⟩ = some (.int .u8 c.pr) ∧ w'.cell? ⟨B, 16, none⟩ = some (.int .u32 dr) ∧ w'.cell? ⟨B, 17, none⟩ = some (.int .u32 bd)) (go_keep) (fail)
    all_goals clear e2 e5 e10 e16 e17
    all_goals
      go_wp2_with fail
      go_meet
      case rel =>
        refine ⟨_, rfl, ?_, by omega, ?_⟩
        · exact (Blk.new W0 178 #[.int .u32 c.ro, .int .u32 c.ad, .int .u8 c.pr, .int .u32 dr, .int .u32 bd]).drew
        · exact ((Below.refl _ W0).alloc (Nat.le_refl _) _).drew
  obtain ⟨S, rfl, hS, hSl, hb0⟩ := hcut
  have K1 := Lib.hid (K0.out.below hb0 hl0)
  have A1 := Lib.hid (A0.out.below hb0 A0.out.lt)
  have S1 := Lib.hid hS
  have B1 := Lib.hid (B0.out.trans (hb0.mono B0.out.size))
  have hsc : S < wc.heap.size := hS.lt
  clear p0 e2 e5 e10 e16 e17 hl0 hS hb0
  go_upto_region 3 with fail
  obtain ⟨wd, hwd⟩ : ∃ wd, wd = wc.alloc (.cells #[.slice none 0 0] 179) := ⟨_, rfl⟩
  have K2 : Hid (Blk wd B 119 (lks c st dr bd wt nx po re (.slice (some ⟨L, 0, none⟩) xs.length cap))) := Lib.hid (by rw [hwd]; exact K1.out.alloc _)
  have A2 : Hid (Blk wd w.heap.size 78 #[.pointer (some ⟨B, 0, none⟩)]) := Lib.hid (by rw [hwd]; exact A1.out.alloc _)
  have S2 : Hid (Blk wd S 178 #[.int .u32 c.ro, .int .u32 c.ad, .int .u8 c.pr, .int .u32 dr, .int .u32 bd]) := Lib.hid (by rw [hwd]; exact S1.out.alloc _)
  have O2 : Hid (Blk wd wc.heap.size 179 #[.slice none 0 0]) := Lib.hid (by rw [hwd]; exact Blk.new wc _ _)
  have B2 : Hid (Below w.heap.size w wd) := Lib.hid (by rw [hwd]; exact B1.out.alloc B1.out.size _)
  have hOl : wc.heap.size < wd.heap.size := O2.out.lt
  rw [← hwd]
  clear hwd
  obtain ⟨O, hO⟩ : ∃ O, O = wc.heap.size := ⟨_, rfl⟩
  rw [← hO] at O2 hOl hsc
  rw [← hO]
  clear hO
  have p0 : wd.cell? ⟨w.heap.size, 0, none⟩ = some (.pointer (some ⟨B, 0, none⟩)) := A2.out.cell 0
  go_wp2_with fail
  refine (all_made _ _ _ ⟨_, rfl⟩ ⟨_, _, _, rfl⟩).mono ?_
  rintro e w2 ⟨rfl, hb2, g1, g2⟩
  have h2l : wd.heap.size + 1 < w2.heap.size := lt_of_cell g2
  have K3 := Lib.hid (K2.out.below hb2 K2.out.lt)
  have A3 := Lib.hid (A2.out.below hb2 A2.out.lt)
  have S3 := Lib.hid (S2.out.below hb2 S2.out.lt)
  have O3 := Lib.hid (O2.out.below hb2 O2.out.lt)
  have B3 := Lib.hid (B2.out.trans (hb2.mono B2.out.size))
  clear hb2 p0
  have R3 : Hid (RowAt w2 L xs) := Lib.hid ⟨fun j x hj => (B3.out.cell (p := ⟨L, j, none⟩) (lt_of_cell (HRow.out.r j x hj))).trans (HRow.out.r j x hj), fun x hx => (HRow.out.k x hx).below B3.out (HRow.out.k x hx).lt⟩
  have hltL : xs ≠ [] → L < w.heap.size := fun h => by
    obtain ⟨x, r, rfl⟩ := List.exists_cons_of_ne_nil h
    exact lt_of_cell (HRow.out.r 0 x rfl)
  have hwx : ∀ x ∈ xs, x.1 < w.heap.size := fun x hx => (HRow.out.k x hx).lt
  have hsw2 : w.heap.size ≤ w2.heap.size := B3.out.size
  have G2 : Hid (GQ w2 B c st dr bd wt nx po re L cap xs wd.heap.size (wd.heap.size + 1) O 179 (.func (.func 110) #[] #[]) w2) := Lib.hid
    ⟨K3.out, R3.out, g1, g2, ⟨_, _, _, O3.out⟩, by omega, by omega, by omega, by omega, fun h => by have := hltL h; omega, fun x hx => by have := hwx x hx; omega⟩
  obtain ⟨i0, hi, hz0, hz1, hz2⟩ := info_parts Ev.voice_info
  have hnf : ∀ a n k, Value.func (.func 110) #[] #[] ≠ .slice a n k := by intro a n k e; cases e
  have hgs : ∀ W, Below w2.heap.size w2 W → GQ w2 B c st dr bd wt nx po re L cap xs wd.heap.size (wd.heap.size + 1) O 179 (.func (.func 110) #[] #[]) W := fun W h => G2.out.keep (by decide) (by decide) hnf ⟨_, _, _, O3.out.below h O3.out.lt⟩ (fun k hk _ => h.block k hk)
  have hlO : O < w2.heap.size := O3.out.lt
  obtain ⟨G, hG⟩ : ∃ G, G = GQ w2 B c st dr bd wt nx po re L cap xs wd.heap.size (wd.heap.size + 1) O 179 (.func (.func 110) #[] #[]) := ⟨_, rfl⟩
  have hkb : ∀ (W : World) (l : Nat) (o o' : Obj), w2.heap.size ≤ l → W.heap[l]? = some o → o.isCells = false → o.isWalk = false → (G W → G (W.putObj l o')) := by
    intro W l o o' hl _ _ _ g
    rw [hG] at g ⊢
    obtain ⟨a, n, k, hx⟩ := g.xb
    have hk : ∀ k, k < w2.heap.size → (W.putObj l o').heap[k]? = W.heap[k]? := fun k hk => World.putObj_heap_other (by omega)
    exact g.keep (by decide) (by decide) hnf ⟨_, _, _, (hk _ hlO).trans hx⟩ (fun k h _ => hk k h)
  have hseq := all_stops_elect1 2 (by omega) w2 G (fun x : { x // x ∈ xs } => x.1.1) (fun x => twoWayK x.1) B wd.heap.size (wd.heap.size + 1) L cap xs.attach (by rw [List.length_attach]; omega) (by rw [hG]; exact GQ.good) (by rw [hG]; exact hgs)
      (fun W x g _ => by rw [hG] at g; exact (elect1_any W x.1.1 _ ((g.row.k x.1 x.2).cell 2)).mono (fun e w' h => ⟨h.1, 0, h.2.symm⟩))
  obtain ⟨I, hI⟩ : ∃ I : List { x // x ∈ xs } → World → Prop, I = fun pre W => IQ w w2 B c st dr bd wt nx po re L cap xs wd.heap.size (wd.heap.size + 1) O 179 (.func (.func 110) #[] #[]) 178 5 [(S, 178, #[.int .u32 c.ro, .int .u32 c.ad, .int .u8 c.pr, .int .u32 dr, .int .u32 bd]), (w.heap.size, 78, #[.pointer (some ⟨B, 0, none⟩)])] pre.length (voiceRows pre) W := ⟨_, rfl⟩
  have hIo : OwnFrom w2.heap.size I := by rw [hI]; exact IQ.own (w := w) (w0 := w2) (B := B) (c := c) (st := st) (dr := dr) (bd := bd) (wt := wt) (nx := nx) (po := po) (re := re) (L := L) (cap := cap) (xs := xs) (Bl := wd.heap.size) (Bi := wd.heap.size + 1) (X := O) (tX := 179) (by decide) (by decide) hnf hsw2 (mem2 (show S < w2.heap.size by omega) (show w.heap.size < w2.heap.size by omega)) (fun pre : List { x // x ∈ xs } => pre.length) (fun pre => voiceRows pre)
  have hI0 : I [] w2 := by rw [hI]; exact ⟨G2.out, ⟨.slice none 0 0, O3.out, World.ownsRow_nil _ _ _ _⟩, mem2 S3.out A3.out, Nat.le_refl _, B3.out⟩
  go_wp2_with fail
  rw [← wpIn_wide (n := 3)]
  refine wpIn_rangeFunc_ownF (F := Fence.wide) (n := 3) rfl (by omega) rfl trivial enters_all1 hseq (fun h k g => k (h g)) (fun W l o o' => hkb W l o o') (Below.refl _ _) (fun _ => rfl) I (fun _ _ _ => False) hIo (fun _ _ _ _ _ hs _ _ => hs) hI0 ?a₁ ?assign ?body ?done (fun _ _ _ _ _ _ h _ => h.elim)
  case assign =>
    intro l x W K hK
    gi_wp2
    exact hK
  case body =>
    intro l pre x W hIx hlen2
    rw [hI] at hIx
    obtain ⟨g, ⟨v, hx, hown⟩, hy, hsz, hb⟩ := hIx
    obtain ⟨va, vm, rfl⟩ := own_slice hown
    have HG := Lib.hid g
    have HX := Lib.hid hx
    have HOwn := Lib.hid hown
    have HY := Lib.hid hy
    have HB := Lib.hid hb
    have kx := g.row.k x.1 x.2
    have x0 : W.cell? ⟨x.1.1, 0, none⟩ = some (.int .u32 x.1.2.ro) := kx.cell 0
    have x1 : W.cell? ⟨x.1.1, 1, none⟩ = some (.int .u32 x.1.2.ad) := kx.cell 1
    have x3 : W.cell? ⟨x.1.1, 3, none⟩ = some (.int .u8 x.1.2.pr) := kx.cell 3
    have x4 : W.cell? ⟨x.1.1, 4, none⟩ = some (.int .u32 x.1.2.dr) := kx.cell 4
    have x5 : W.cell? ⟨x.1.1, 5, none⟩ = some (.int .u32 x.1.2.bd) := kx.cell 5
    have xo : W.cell? ⟨O, 0, none⟩ = some (.slice va pre.length vm) := hx.cell 0
    have hOW : O < W.heap.size := by omega
    clear kx hx hown hy hb g
    gi_wp2_with fail
    refine wpIn_region_late (C := fun w' => ∃ u : Later W.heap.size W, w' = u.to) (.slice va pre.length vm) 26 28 (by kernel_rfl) (by kernel_rfl) (by kernel_rfl) (fun ⟨_, _, h⟩ => h) (fun _ _ _ h => h) ⟨rfl, ?_⟩ ⟨⟨W.drew, (Below.refl _ W).drew⟩, rfl⟩ ?_
    · rintro w' ⟨u, rfl⟩
      have hu := (u.ok.cell (p := ⟨O, 0, none⟩) hOW).trans xo
      simp [go_sem, hu]
    simp only [List.take_succ_cons, List.take_zero, List.drop_succ_cons, List.drop_zero, Nat.reduceSub]
    have hlx : x.1.1 < W.heap.size := lt_of_cell x0
    have u0 := later_cell (show (⟨x.1.1, 0, none⟩ : Addr).block < W.heap.size from hlx) x0
    have u1 := later_cell (show (⟨x.1.1, 1, none⟩ : Addr).block < W.heap.size from hlx) x1
    have u3 := later_cell (show (⟨x.1.1, 3, none⟩ : Addr).block < W.heap.size from hlx) x3
    have u4 := later_cell (show (⟨x.1.1, 4, none⟩ : Addr).block < W.heap.size from hlx) x4
    have u5 := later_cell (show (⟨x.1.1, 5, none⟩ : Addr).block < W.heap.size from hlx) x5
    simp only [Act.put, List.setIfInBounds_toArray, List.set_cons_succ, List.set_cons_zero]
    repeat (go_big_quiet_step (fail))
    refine wpQuiet_nil ?_
    rintro wx ⟨⟨wy, hwy⟩, hwe⟩
    obtain rfl : wx = wy := hwe
    refine wpListK_step rfl rfl ?_
    simp [Oper.wp, Oper.upon, go_sem]
    refine ⟨⟨⟨wx, hwy⟩, rfl⟩, ?_⟩
    refine wpListK_step rfl rfl ?_
    simp [Oper.wp, Oper.upon, go_sem]
    refine ⟨⟨⟨_, hwy.alloc hwy.size _⟩, rfl⟩, ?_⟩
    refine wpListK_of_list _ 28 _ _ (Nat.le_refl _) (fun j => match j with
      | 0 => rfl
      | 1 => rfl
      | j + 2 => by simp; omega) ?_
    obtain ⟨wz, hwz⟩ : ∃ wz, wz = wx.alloc (.cells #[.int .u32 x.1.2.ro, .int .u32 x.1.2.ad, .int .u8 x.1.2.pr, .int .u32 x.1.2.dr, .int .u32 x.1.2.bd] 178) := ⟨_, rfl⟩
    have HLit := Lib.hid (Reads.of_own (World.ownsRow_lit (base := 0) (e := 178) (size := 5) wx #[.int .u32 x.1.2.ro, .int .u32 x.1.2.ad, .int .u8 x.1.2.pr, .int .u32 x.1.2.dr, .int .u32 x.1.2.bd] 1 (Nat.zero_le _) (by simp [maxLen]) rfl))
    rw [← hwz] at HLit
    rw [← hwz]
    have hwW : Below W.heap.size W wz := by rw [hwz]; exact hwy.alloc hwy.size _
    have hownz : wz.ownsRow w2.heap.size 178 5 (.slice va pre.length vm) pre.length (voiceRows pre) := (Frame.of_below (S := fun _ => False) hwW).own HOwn.out (fun _ _ e => e)
    have hlp : pre.length < 60000 := by rw [List.length_attach] at hlen2; omega
    have hsW : W.heap.size ≤ wz.heap.size := hwW.size
    refine wpList_append_any _ rfl (.tmp 33) (.tmp 60) _ rfl w2.heap.size 178 i0 _ 5 20 Try.underlying179 hi hz0 hz1 hz2 rfl (by omega) (.slice va pre.length vm) pre.length _ rfl hownz _ (some ⟨wx.heap.size, 0, none⟩) 1 1 _ rfl HLit.out (by simp [Value.oneCell']) (by unfold maxLen; omega) (by omega) (by omega) ?_
    intro v1 w4 hown1 hg1 _
    have hb4 : ∀ k, k < W.heap.size → some k ≠ (Value.slice va pre.length vm).ownBlock → w4.heap[k]? = W.heap[k]? := fun k hk hne => (hg1.block k (by omega) hne).trans (hwW.block k hk)
    have hne : ∀ k, k < w2.heap.size → some k ≠ (Value.slice va pre.length vm).ownBlock := fun k hk e => by
      have := (own_cells hownz k e.symm).1
      omega
    have hX4 : Blk w4 O 179 #[.slice va pre.length vm] := (hb4 _ hOW (hne _ hlO)).trans HX.out
    have hX40 : w4.cell? ⟨O, 0, none⟩ = some (.slice va pre.length vm) := hX4.cell 0
    have hfz4 := hX4.frozen 0
    have hlt4 := hX4.lt
    obtain ⟨vb, vn, rfl⟩ := own_slice hown1
    have HOwn1 := Lib.hid hown1
    have HG1 := Lib.hid hg1
    have HB4 := Lib.hid hb4
    have HNe := Lib.hid hne
    have HWW := Lib.hid hwW
    have HOz := Lib.hid hownz
    clear hown1 hg1 hb4 hne hwW hownz xo x0 x1 x3 x4 x5 u0 u1 u3 u4 u5 hwy hwz
    go_wp2_with fail
    have hX5 : Blk (w4.setCell ⟨O, 0, none⟩ (.slice vb (pre.length + 1) vn)) O 179 #[.slice vb (pre.length + 1) vn] := hX4.set_ 0 _
    have hk5 : ∀ k, k < w2.heap.size → k ≠ O → (w4.setCell ⟨O, 0, none⟩ (.slice vb (pre.length + 1) vn)).heap[k]? = W.heap[k]? := fun k hk hx =>
      (Below.heap_setCell w4 _ _ k hx).trans (HB4.out k (by omega) (HNe.out k hk))
    have hs4 : wz.heap.size ≤ w4.heap.size := HG1.out.size
    have hs5 : (w4.setCell ⟨O, 0, none⟩ (.slice vb (pre.length + 1) vn)).heap.size = w4.heap.size := by simp [World.setCell]
    have hb4 : Below w.heap.size w w4 := (HB.out.trans (HWW.out.mono HB.out.size)).grown HG1.out (by have := HB.out.size; omega) (fun k e => by have := (own_cells HOz.out k e).1; omega)
    have ho5 : ∃ v, Blk (w4.setCell ⟨O, 0, none⟩ (.slice vb (pre.length + 1) vn)) O 179 #[v] ∧ (w4.setCell ⟨O, 0, none⟩ (.slice vb (pre.length + 1) vn)).ownsRow w2.heap.size 178 5 v (pre ++ [x]).length (voiceRows (pre ++ [x])) := by
      rw [List.length_append, voiceRows, List.flatMap_append]
      exact ⟨_, hX5, ((Frame.refl (fun k => k = O) w4).setCell (p := ⟨O, 0, none⟩) (fun _ => rfl) _).own HOwn1.out (fun g hg e => by have := (own_cells HOwn1.out g hg).1; omega)⟩
    have hSO : S ≠ O := by omega
    have hwO : w.heap.size ≠ O := by omega
    have hy5 : ∀ y ∈ [(S, 178, #[.int .u32 c.ro, .int .u32 c.ad, .int .u8 c.pr, .int .u32 dr, .int .u32 bd]), (w.heap.size, 78, #[.pointer (some ⟨B, 0, none⟩)])], Blk (w4.setCell ⟨O, 0, none⟩ (.slice vb (pre.length + 1) vn)) y.1 y.2.1 y.2.2 := by
      intro y hy
      have h := HY.out y hy
      rcases List.mem_cons.1 hy with rfl | hy
      · exact (hk5 S (by omega) hSO).trans h
      · obtain rfl := List.mem_singleton.1 hy
        exact (hk5 w.heap.size (by omega) hwO).trans h
    refine ⟨?_, fun g => g.keep (by decide) (by decide) hnf ⟨_, _, _, hX5⟩ hk5, HG.out.keep (by decide) (by decide) hnf ⟨_, _, _, hX5⟩ hk5, ho5, hy5, by omega, hb4.setCell (p := ⟨O, 0, none⟩) (by show w.heap.size ≤ O; omega) _⟩
    refine (below_others HWW.out).trans ((KeepsOthers.of_grownBy HG1.out ?_).trans (KeepsOthers.setCell _ _ _))
    intro j o e hj
    obtain ⟨_, cs, hc⟩ := own_cells HOz.out j e
    rw [hc] at hj
    cases hj
    rfl
  case done =>
    intro D ys W hD hys hIx hK
    rw [hI] at hIx
    obtain ⟨g, ⟨v, hx, hown⟩, hy, hsz, hb⟩ := hIx
    obtain ⟨va, vm, rfl⟩ := own_slice hown
    have hvs : voiceRows ys = ((xs.filter twoWayK).map voiceK).flatMap Ev.cells := by
      rw [hys, ← attach_filter_map xs twoWayK voiceK, voiceRows, List.flatMap_map]
    have hvl : ys.length = ((xs.filter twoWayK).map voiceK).length := by
      rw [hys, ← attach_filter_map xs twoWayK voiceK, List.length_map]
    obtain ⟨vs, hvs'⟩ : ∃ vs, vs = (xs.filter twoWayK).map voiceK := ⟨_, rfl⟩
    have HVS := Lib.hid hvs'
    rw [← hvs'] at hvs hvl
    have hvl6 : vs.length ≤ 60000 := by rw [hvs', List.length_map]; exact Nat.le_trans (List.length_filter_le _ _) hlen
    rw [hvs, hvl] at hown
    rw [hvl] at hx
    have KW := Lib.hid g.b
    have RW := Lib.hid g.row
    have HB := Lib.hid hb
    have HX := Lib.hid hx
    have HK := Lib.hid hK
    have s1 : Blk W S 178 #[.int .u32 c.ro, .int .u32 c.ad, .int .u8 c.pr, .int .u32 dr, .int .u32 bd] := hy (S, 178, _) (by simp)
    have a1 : Blk W w.heap.size 78 #[.pointer (some ⟨B, 0, none⟩)] := hy (w.heap.size, 78, _) (by simp)
    have A1 := Lib.hid a1
    have S1W := Lib.hid s1
    have hDl : D < W.heap.size := (Array.getElem?_eq_some_iff.1 hK).1
    have hE : Hid (∀ u : Later W.heap.size W, Calls Try.prog 111 #[.agg #[.int .u32 c.ro, .int .u32 c.ad, .int .u8 c.pr, .int .u32 dr, .int .u32 bd], .slice va vs.length vm] u.to fun e w' => e = .returned (.tuple #[.int .u32 (El.elect ⟨c.ro, c.ad, c.pr, dr, bd⟩ vs).1, .int .u32 (El.elect ⟨c.ro, c.ad, c.pr, dr, bd⟩ vs).2]) ∧ Below u.to.heap.size u.to w') := Lib.hid fun u =>
      Ev.elect_any c.ro c.ad c.pr dr bd va vs.length vm vs u.to rfl (by omega) (((Reads.of_own hown).below u.ok).more u.ok.size)
    obtain ⟨o, ho⟩ : ∃ o, o = El.elect ⟨c.ro, c.ad, c.pr, dr, bd⟩ vs := ⟨_, rfl⟩
    rw [← ho] at hE
    have HO := Lib.hid ho
    have b0 : W.cell? ⟨w.heap.size, 0, none⟩ = some (.pointer (some ⟨B, 0, none⟩)) := a1.cell 0
    have q0 : W.cell? ⟨S, 0, none⟩ = some (.int .u32 c.ro) := s1.cell 0
    have q1 : W.cell? ⟨S, 1, none⟩ = some (.int .u32 c.ad) := s1.cell 1
    have q2 : W.cell? ⟨S, 2, none⟩ = some (.int .u8 c.pr) := s1.cell 2
    have q3 : W.cell? ⟨S, 3, none⟩ = some (.int .u32 dr) := s1.cell 3
    have q4 : W.cell? ⟨S, 4, none⟩ = some (.int .u32 bd) := s1.cell 4
    have xo : W.cell? ⟨O, 0, none⟩ = some (.slice va vs.length vm) := hx.cell 0
    have hWB : B < W.heap.size := KW.out.lt
    have hWS : S < W.heap.size := s1.lt
    have hWO : O < W.heap.size := hx.lt
    have hWw : w.heap.size < W.heap.size := a1.lt
    clear g hx hown hy hsz hb hvs hvl hvs' hys hK s1 a1 ho
    have hDw2 : w2.heap.size ≤ D := hD
    dsimp only
    go_wp2_with fail
    refine wp_region_lexN (C := fun w' => w'.cell? ⟨w.heap.size, 0, none⟩ = some (.pointer (some ⟨B, 0, none⟩)) ∧ w'.cell? ⟨S, 0, none⟩ = some (.int .u32 c.ro) ∧ w'.cell? ⟨S, 1, none⟩ = some (.int .u32 c.ad) ∧ w'.cell? ⟨S, 2, none⟩ = some (.int .u8 c.pr) ∧ w'.cell? ⟨S, 3, none⟩ = some (.int .u32 dr) ∧ w'.cell? ⟨S, 4, none⟩ = some (.int .u32 bd) ∧ w'.cell? ⟨O, 0, none⟩ = some (.slice va vs.length vm)) 11 [true, true, true, true, false, true, true, true] (by kernel_rfl) (by kernel_rfl) ⟨b0, q0, q1, q2, q3, q4, xo⟩ ?_
    refine ⟨.pointer (some ⟨B, 0, none⟩), ⟨rfl, fun w' ⟨h, _⟩ => by simp [go_sem, h]⟩, ?_⟩
    refine ⟨.pointer (some ⟨B, 0, none⟩), ⟨rfl, fun w' ⟨h, _⟩ => by simp [go_sem, h, Act.put]⟩, ?_⟩
    refine ⟨.agg #[.int .u32 c.ro, .int .u32 c.ad, .int .u8 c.pr, .int .u32 dr, .int .u32 bd], ⟨rfl, fun w' ⟨_, h0, h1, h2, h3, h4, _⟩ => by simp [go_sem, Act.put, h0, h1, h2, h3, h4]⟩, ?_⟩
    refine ⟨.slice va vs.length vm, ⟨rfl, fun w' ⟨_, _, _, _, _, _, h⟩ => by simp [go_sem, Act.put, h]⟩, ?_⟩
    simp only [Act.put, List.setIfInBounds_toArray, List.set_cons_succ, List.set_cons_zero]
    refine wpLex_call rfl rfl ?hr (hE.out ⟨W.drew, (Below.refl _ W).drew⟩) ?_
    case hr => simp [go_sem]
    rintro e wx ⟨rfl, hbx⟩
    have hbx' : Below W.heap.size W wx := ⟨hbx.os, hbx.tape, hbx.output, hbx.size, hbx.block⟩
    have KX := Lib.hid (KW.out.below hbx' hWB)
    have AX := Lib.hid (A1.out.below hbx' hWw)
    have SX := Lib.hid (S1W.out.below hbx' hWS)
    have OX := Lib.hid (HX.out.below hbx' hWO)
    have HBX := Lib.hid hbx'
    have HBx := Lib.hid (HB.out.trans (hbx'.mono HB.out.size))
    refine ⟨_, rfl, ⟨AX.out.cell 0, SX.out.cell 0, SX.out.cell 1, SX.out.cell 2, SX.out.cell 3, SX.out.cell 4, OX.out.cell 0⟩, ?_⟩
    have hcx := Lib.hid (show wx.cell? ⟨w.heap.size, 0, none⟩ = some (.pointer (some ⟨B, 0, none⟩)) ∧ wx.cell? ⟨S, 0, none⟩ = some (.int .u32 c.ro) ∧ wx.cell? ⟨S, 1, none⟩ = some (.int .u32 c.ad) ∧ wx.cell? ⟨S, 2, none⟩ = some (.int .u8 c.pr) ∧ wx.cell? ⟨S, 3, none⟩ = some (.int .u32 dr) ∧ wx.cell? ⟨S, 4, none⟩ = some (.int .u32 bd) ∧ wx.cell? ⟨O, 0, none⟩ = some (.slice va vs.length vm) from ⟨AX.out.cell 0, SX.out.cell 0, SX.out.cell 1, SX.out.cell 2, SX.out.cell 3, SX.out.cell 4, OX.out.cell 0⟩)
    clear hbx hbx' b0 q0 q1 q2 q3 q4 xo
    refine ⟨.tuple #[.int .u32 o.1, .int .u32 o.2], ⟨rfl, fun w' _ => by simp [go_sem, Act.put]⟩, ?_⟩
    refine ⟨.int .u32 o.1, ⟨rfl, fun w' _ => by simp [go_sem, Act.put]⟩, ?_⟩
    refine ⟨.int .u32 o.2, ⟨rfl, fun w' _ => by simp [go_sem, Act.put]⟩, ?_⟩
    simp only [Act.put, List.setIfInBounds_toArray, List.set_cons_succ, List.set_cons_zero]
    refine wpListK_step rfl rfl ?_
    simp [Oper.wp, Oper.upon, go_sem]
    refine ⟨hcx.out, ?_⟩
    refine wpListK_step rfl rfl ?_
    simp [Oper.wp, Oper.upon, go_sem]
    refine ⟨hcx.out, ?_⟩
    refine wpListK_step rfl rfl ?_
    have d16 : wx.cell? ⟨B, 16, none⟩ = some (.int .u32 dr) := KX.out.cell 16
    have f16 := KX.out.frozen 16
    have hlx := KX.out.lt
    simp [Oper.wp, Oper.upon, go_sem, d16, f16]
    refine ⟨hcx.out, ?_⟩
    refine wpListK_of_list _ 11 _ _ (Nat.le_refl _) (fun j => match j with
      | 0 => rfl
      | 1 => rfl
      | 2 => rfl
      | j + 3 => by simp; omega) ?_
    have d17 : wx.cell? ⟨B, 17, none⟩ = some (.int .u32 bd) := KX.out.cell 17
    have f17 := KX.out.frozen 17
    go_wp2_with fail
    dsimp only [NormQ]
    obtain ⟨W5, hW5⟩ : ∃ W5, W5 = (wx.setCell ⟨B, 16, none⟩ (.int .u32 o.1)).setCell ⟨B, 17, none⟩ (.int .u32 o.2) := ⟨_, rfl⟩
    have hBw : w.heap.size ≠ B := by omega
    have K5 : Hid (Blk W5 B 119 (lks c st o.1 o.2 wt nx po re (.slice (some ⟨L, 0, none⟩) xs.length cap))) := Lib.hid (by rw [hW5]; exact (KX.out.set_ 16 _).set_ 17 _)
    have A5 : Hid (Blk W5 w.heap.size 78 #[.pointer (some ⟨B, 0, none⟩)]) := Lib.hid (by rw [hW5]; exact (AX.out.far (by simpa using hBw) _).far (by simpa using hBw) _)
    have F5 : Hid (Frame (fun j => j = B) w W5) := Lib.hid (by rw [hW5]; exact ((Frame.of_below HBx.out).setB 16 _).setB 17 _)
    have D5 : Hid (W5.heap[D]? = some (.deferred (some []))) := Lib.hid (by
      have h1 : wx.heap[D]? = some (.deferred (some [])) := (HBX.out.block D hDl).trans HK.out
      have hDB : D ≠ B := by
        rintro rfl
        have := HK.out.symm.trans KW.out
        cases this
      rw [hW5, Below.heap_setCell _ _ _ D hDB, Below.heap_setCell _ _ _ D hDB]
      exact h1)
    rw [← hW5]
    clear hW5 d16 f16 hlx d17 f17
    have b0 : W5.cell? ⟨w.heap.size, 0, none⟩ = some (.pointer (some ⟨B, 0, none⟩)) := A5.out.cell 0
    have k1 : W5.cell? ⟨B, 1, none⟩ = some (.int .u8 c.ty) := K5.out.cell 1
    have k5 : W5.cell? ⟨B, 5, none⟩ = some (.int .u32 c.ad) := K5.out.cell 5
    have k15 : W5.cell? ⟨B, 15, none⟩ = some (.int .u8 st) := K5.out.cell 15
    have k16 : W5.cell? ⟨B, 16, none⟩ = some (.int .u32 o.1) := K5.out.cell 16
    have k17 : W5.cell? ⟨B, 17, none⟩ = some (.int .u32 o.2) := K5.out.cell 17
    have f15 := K5.out.frozen 15
    have hl5 := K5.out.lt
    obtain ⟨o1, o2⟩ := o
    have hty := HTy.out
    rcases Bool.eq_false_or_eq_true (c.ad == o1) with s1 | s1
    · go_wp2_with fail
      obtain ⟨W6, hW6⟩ : ∃ W6, W6 = W5.setCell ⟨B, 15, none⟩ (.int .u8 6) := ⟨_, rfl⟩
      have K6 : Blk W6 B 119 (lks c 6 o1 o2 wt nx po re (.slice (some ⟨L, 0, none⟩) xs.length cap)) := by rw [hW6]; exact K5.out.set_ 15 _
      have F6 : Frame (fun j => j = B) w W6 := by rw [hW6]; exact F5.out.setB 15 _
      have hDB : D ≠ B := by
        rintro rfl
        have := D5.out.symm.trans K5.out
        cases this
      have hD6 : W6.heap[D]? = some (.deferred (some [])) := by rw [hW6, Below.heap_setCell _ _ _ D hDB]; exact D5.out
      rw [← hW6]
      refine ⟨by simp, .inl ⟨_, _, rfl, run_takeDeferred hD6, ?_⟩⟩
      have k9 := K6.grown (grownBy_putObj' W6 D (.deferred none)) (by simpa using fun e => hDB e.symm)
      refine ⟨.tuple #[], by simp [results, Try.f76, go_sem], rfl, ?_, ?_⟩
      · unfold elOut
        rw [← HVS.out, ← HO.out]
        have e : elState c (o1, o2) = 6 := by simp [elState, s1]
        rw [e]
        exact k9
      · exact F6.trans' (Frame.of_grown (S := fun k => k = D) (grownBy_putObj' W6 D (.deferred none)) (fun k e _ => (Option.some.inj e).symm)) (fun j hj e => by have h1 : j = D := e; have := hsw2; omega)
    · rcases Bool.eq_false_or_eq_true (c.ad == o2) with s2 | s2
      · go_wp2_with fail
        obtain ⟨W6, hW6⟩ : ∃ W6, W6 = W5.setCell ⟨B, 15, none⟩ (.int .u8 5) := ⟨_, rfl⟩
        have K6 : Blk W6 B 119 (lks c 5 o1 o2 wt nx po re (.slice (some ⟨L, 0, none⟩) xs.length cap)) := by rw [hW6]; exact K5.out.set_ 15 _
        have F6 : Frame (fun j => j = B) w W6 := by rw [hW6]; exact F5.out.setB 15 _
        have hDB : D ≠ B := by
          rintro rfl
          have := D5.out.symm.trans K5.out
          cases this
        have hD6 : W6.heap[D]? = some (.deferred (some [])) := by rw [hW6, Below.heap_setCell _ _ _ D hDB]; exact D5.out
        rw [← hW6]
        refine ⟨by simp, .inl ⟨_, _, rfl, run_takeDeferred hD6, ?_⟩⟩
        have k9 := K6.grown (grownBy_putObj' W6 D (.deferred none)) (by simpa using fun e => hDB e.symm)
        refine ⟨.tuple #[], by simp [results, Try.f76, go_sem], rfl, ?_, ?_⟩
        · unfold elOut
          rw [← HVS.out, ← HO.out]
          have e : elState c (o1, o2) = 5 := by simp [elState, s1, s2]
          rw [e]
          exact k9
        · exact F6.trans' (Frame.of_grown (S := fun k => k = D) (grownBy_putObj' W6 D (.deferred none)) (fun k e _ => (Option.some.inj e).symm)) (fun j hj e => by have h1 : j = D := e; have := hsw2; omega)
      · go_wp2_with fail
        obtain ⟨W6, hW6⟩ : ∃ W6, W6 = W5.setCell ⟨B, 15, none⟩ (.int .u8 4) := ⟨_, rfl⟩
        have K6 : Blk W6 B 119 (lks c 4 o1 o2 wt nx po re (.slice (some ⟨L, 0, none⟩) xs.length cap)) := by rw [hW6]; exact K5.out.set_ 15 _
        have F6 : Frame (fun j => j = B) w W6 := by rw [hW6]; exact F5.out.setB 15 _
        have hDB : D ≠ B := by
          rintro rfl
          have := D5.out.symm.trans K5.out
          cases this
        have hD6 : W6.heap[D]? = some (.deferred (some [])) := by rw [hW6, Below.heap_setCell _ _ _ D hDB]; exact D5.out
        rw [← hW6]
        refine ⟨by simp, .inl ⟨_, _, rfl, run_takeDeferred hD6, ?_⟩⟩
        have k9 := K6.grown (grownBy_putObj' W6 D (.deferred none)) (by simpa using fun e => hDB e.symm)
        refine ⟨.tuple #[], by simp [results, Try.f76, go_sem], rfl, ?_, ?_⟩
        · unfold elOut
          rw [← HVS.out, ← HO.out]
          have e : elState c (o1, o2) = 4 := by simp [elState, s1, s2]
          rw [e]
          exact k9
        · exact F6.trans' (Frame.of_grown (S := fun k => k = D) (grownBy_putObj' W6 D (.deferred none)) (fun k e _ => (Option.some.inj e).symm)) (fun j hj e => by have h1 : j = D := e; have := hsw2; omega)
end Go.Proofs.Ytgbmhijgpdgdbaa
