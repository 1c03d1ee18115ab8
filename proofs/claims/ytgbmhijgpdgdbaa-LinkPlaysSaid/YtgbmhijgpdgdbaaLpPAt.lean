/- The program's link in the world, for a state of the plain model; what a range over its neighbours leans on. -/
import Derived.Test.YtgbmhijgpdgdbaaLpRefRound
import Derived.Deep.MidRow
import Derived.Test.YtgbmhijgpdgdbaaLpAllI
set_option maxHeartbeats 2000000
set_option maxRecDepth 20000
namespace Go.Proofs.Ytgbmhijgpdgdbaa
open Go.RowKit
section
variable {lo : Nat} {w w' : World} {R : Nat} {c : LC} {s : Pl.St} {v : Value} {L : List (Int × Int)}
theorem PeersAt.rfr (h : PeersAt w lo v L) (hf : RFr lo w w') (hl : lo ≤ w.heap.size) : PeersAt w' lo v L := by
  obtain ⟨A, cp, rfl, h2⟩ := h
  exact ⟨A, cp, rfl, h2.below (hf.below hl)⟩
def setAll (cs : Array Value) : Nat → List Value → Array Value
  | _, [] => cs
  | o, v :: r => setAll (cs.setIfInBounds o v) (o + 1) r
theorem Blk.setAll {b : Nat} {t : TypeId} : ∀ (vs : List Value) (o : Nat) (w : World) (cs : Array Value), Blk w b t cs → Blk (w.setCells b o vs) b t (Go.Proofs.Ytgbmhijgpdgdbaa.setAll cs o vs)
  | [], _, _, _, h => h
  | v :: r, o, _, _, h => Blk.setAll r (o + 1) _ _ (h.set_ o v)
theorem setAll_full : ∀ (vs : List Value) (o : Nat) (cs : Array Value), o + vs.length = cs.size → (setAll cs o vs).toList = cs.toList.take o ++ vs
  | [], o, cs, h => by
    rw [List.append_nil, List.take_of_length_le (by simp at h ⊢; omega)]; rfl
  | v :: r, o, cs, h => by
    have hlt : o < cs.toList.length := by simp at h ⊢; omega
    show (setAll (cs.setIfInBounds o v) (o + 1) r).toList = _
    rw [setAll_full r (o + 1) _ (by simp at h ⊢; omega), Array.toList_setIfInBounds, List.take_add_one, List.take_set_of_le (Nat.le_refl _), List.getElem?_set_self hlt]
    simp
theorem Blk.setWhole {b : Nat} {t : TypeId} {w : World} {cs vs : Array Value} (h : Blk w b t cs) (hs : vs.size = cs.size) : Blk (w.setCells b 0 vs.toList) b t vs := by
  have h1 := Blk.setAll vs.toList 0 w cs h
  have e : Go.Proofs.Ytgbmhijgpdgdbaa.setAll cs 0 vs.toList = vs := Array.ext' (by rw [setAll_full vs.toList 0 cs (by simpa using hs)]; simp)
  rwa [e] at h1
theorem Frame.setAll {b : Nat} : ∀ (vs : List Value) (o : Nat) (w0 w : World), Frame (fun j => j = b) w0 w → Frame (fun j => j = b) w0 (w.setCells b o vs)
  | [], _, _, _, h => h
  | v :: r, o, _, _, h => Frame.setAll r (o + 1) _ _ (h.setB o v)
theorem Blk.there {b : Nat} {t : TypeId} {w : World} {cs : Array Value} (h : Blk w b t cs) : w.there b 0 cs.size := fun j hj => by
  rw [Nat.zero_add]
  exact ⟨by rw [Blk.cell h j, Array.getElem?_eq_getElem hj]; rfl, h.frozen j⟩
theorem rdown_any (h : RAt lo w R c s v) (hpe : ∃ A n k, c.pe = .slice A n k) : Calls Try.prog 79 #[.pointer (some ⟨R, 0, none⟩)] w fun e w' => e = .returned (.tuple #[]) ∧ RAt lo w' R c (Pl.downSt s) (.slice none 0 0) ∧ RFr lo w w' := by
  obtain ⟨A, cp, rfl⟩ := own_slice h.o
  obtain ⟨PA, pn, pk, hpe⟩ := hpe
  have H := Lib.hid h
  have HPe := Lib.hid hpe
  have c0 : w.cell? ⟨R, 0, none⟩ = some (.int .u8 c.ty) := h.b.cell 0
  have c1 : w.cell? ⟨R, 1, none⟩ = some (.int .u32 c.ro) := h.b.cell 1
  have c2 : w.cell? ⟨R, 2, none⟩ = some (.int .u32 c.na) := h.b.cell 2
  have c3 : w.cell? ⟨R, 3, none⟩ = some (.int .u8 c.nb) := h.b.cell 3
  have c4 : w.cell? ⟨R, 4, none⟩ = some (.int .u32 c.ad) := h.b.cell 4
  have c5 : w.cell? ⟨R, 5, none⟩ = some (.int .u8 c.op) := h.b.cell 5
  have c6 : w.cell? ⟨R, 6, none⟩ = some (.int .u16 c.hi) := h.b.cell 6
  have c7 : w.cell? ⟨R, 7, none⟩ = some (.int .u32 c.dd) := h.b.cell 7
  have c8 : w.cell? ⟨R, 8, none⟩ = some (.int .u16 c.po) := h.b.cell 8
  have c9 : w.cell? ⟨R, 9, none⟩ = some (.int .u8 c.pr) := h.b.cell 9
  have c10 : w.cell? ⟨R, 10, none⟩ = some (.bool c.dm) := h.b.cell 10
  have c11 : w.cell? ⟨R, 11, none⟩ = some (.bool c.ps) := h.b.cell 11
  have c12 : w.cell? ⟨R, 12, none⟩ = some (.slice PA pn pk) := by rw [← hpe]; exact h.b.cell 12
  have c13 : w.cell? ⟨R, 13, none⟩ = some (.int .u32 c.rm) := h.b.cell 13
  have c20 : w.cell? ⟨R, 20, none⟩ = some (.int .u32 s.re) := h.b.cell 20
  have hlt := h.b.lt
  clear h hpe
  go_enter Try.func79, Try.ntmps79
  go_upto_region 1 with fail
  refine wp_region_lit ?_
  iterate 24 go_step
  refine wpList_store_mid rfl _ (.tmp 14) (.tmp 13) rfl R 0 (rlk c (Pl.downSt s) (.slice none 0 0)) rfl (by unfold rlk; rw [HPe.out]; rfl) H.out.b.there (by kernel_rfl) (by unfold rlk; rw [HPe.out]; simp [Value.oneCell']) ?_
  obtain ⟨w2, hw2⟩ : ∃ w2, w2 = w.setCells R 0 (rlk c (Pl.downSt s) (.slice none 0 0)).toList := ⟨_, rfl⟩
  have hk : RBlk w2 R c (Pl.downSt s) (.slice none 0 0) := by rw [hw2]; exact Blk.setWhole H.out.b rfl
  have hF : Frame (fun j => j = R) w w2 := by rw [hw2]; exact Frame.setAll _ 0 w w (Frame.refl _ w)
  rw [← hw2]
  have HK := Lib.hid hk
  have HF := Lib.hid hF
  clear hw2 hk hF c0 c1 c2 c3 c4 c5 c6 c7 c8 c9 c10 c11 c12 c13 c20 hlt
  go_wp2_with fail
  refine bodyPost_end (v := .tuple #[]) (by simp [results, Try.results79, go_sem]) rfl ⟨rfl, ⟨H.out.loR, HK.out, World.ownsRow_nil _ _ _ _⟩, RFr.one H.out.b H.out.loR (.inl rfl) HF.out⟩
end
end Go.Proofs.Ytgbmhijgpdgdbaa
namespace Go.Proofs.Ytgbmhijgpdgdbaa
open Go.RowKit
section
variable {lo : Nat} {w : World} {b n cap : Nat} {l : List Kn}
theorem ROwn.setKn (h : ROwn lo w (.slice (some ⟨b, 0, none⟩) n cap) l) {i : Nat} {k : Kn} (hi : l[i]? = some k) (k' : Kn) : ROwn lo (w.setCells b (i * 9) (rcells k')) (.slice (some ⟨b, 0, none⟩) n cap) (l.set i k') := by
  have hl : i < l.length := (List.getElem?_eq_some_iff.1 hi).1
  have g : ∀ x : Kn, (l.set i x)[i]? = some x := fun x => by simp [hl]
  have e0 := h.set1 hi (k' := { k with ro := k'.ro }) (j := 0) (u := .int .u32 k'.ro) rfl (by decide)
  have e1 := e0.set1 (g _) (k' := { k with ro := k'.ro, ad := k'.ad }) (j := 1) (u := .int .u32 k'.ad) rfl (by decide)
  have e2 := e1.set1 (i := i) (k := { k with ro := k'.ro, ad := k'.ad }) (by simp [hl]) (k' := { k with ro := k'.ro, ad := k'.ad, st := k'.st }) (j := 2) (u := .int .u8 k'.st) rfl (by decide)
  have e3 := e2.set1 (i := i) (k := { k with ro := k'.ro, ad := k'.ad, st := k'.st }) (by simp [hl]) (k' := { k with ro := k'.ro, ad := k'.ad, st := k'.st, pr := k'.pr }) (j := 3) (u := .int .u8 k'.pr) rfl (by decide)
  have e4 := e3.set1 (i := i) (k := { k with ro := k'.ro, ad := k'.ad, st := k'.st, pr := k'.pr }) (by simp [hl]) (k' := { k with ro := k'.ro, ad := k'.ad, st := k'.st, pr := k'.pr, dr := k'.dr }) (j := 4) (u := .int .u32 k'.dr) rfl (by decide)
  have e5 := e4.set1 (i := i) (k := { k with ro := k'.ro, ad := k'.ad, st := k'.st, pr := k'.pr, dr := k'.dr }) (by simp [hl]) (k' := { k with ro := k'.ro, ad := k'.ad, st := k'.st, pr := k'.pr, dr := k'.dr, bd := k'.bd }) (j := 5) (u := .int .u32 k'.bd) rfl (by decide)
  have e6 := e5.set1 (i := i) (k := { k with ro := k'.ro, ad := k'.ad, st := k'.st, pr := k'.pr, dr := k'.dr, bd := k'.bd }) (by simp [hl]) (k' := { k with ro := k'.ro, ad := k'.ad, st := k'.st, pr := k'.pr, dr := k'.dr, bd := k'.bd, op := k'.op }) (j := 6) (u := .int .u8 k'.op) rfl (by decide)
  have e7 := e6.set1 (i := i) (k := { k with ro := k'.ro, ad := k'.ad, st := k'.st, pr := k'.pr, dr := k'.dr, bd := k'.bd, op := k'.op }) (by simp [hl]) (k' := { k with ro := k'.ro, ad := k'.ad, st := k'.st, pr := k'.pr, dr := k'.dr, bd := k'.bd, op := k'.op, lf := k'.lf }) (j := 7) (u := .int .u32 k'.lf) rfl (by decide)
  have e8 := e7.set1 (i := i) (k := { k with ro := k'.ro, ad := k'.ad, st := k'.st, pr := k'.pr, dr := k'.dr, bd := k'.bd, op := k'.op, lf := k'.lf }) (by simp [hl]) (k' := k') (j := 8) (u := .bool k'.fu) rfl (by decide)
  simp only [List.set_set] at e8
  exact e8
end
end Go.Proofs.Ytgbmhijgpdgdbaa
namespace Go.Proofs.Ytgbmhijgpdgdbaa
open Go.RowKit Go.Shelf
def PRow (w : World) (lo : Nat) (A : Option Addr) (n cap : Nat) (ps : List Value) : Prop :=
  ps.length = n ∧ ((A = none ∧ n = 0 ∧ cap = 0) ∨ ∃ g cur, A = some ⟨g, 0, none⟩ ∧ lo ≤ g ∧ Blk w g 137 cur ∧ n ≤ cap ∧ cap ≤ cur.size ∧ cap ≤ maxLen ∧ (n = cap ∨ cap = cur.size) ∧ cur.toList.take n = ps)
section
variable {w w' : World} {lo : Nat} {A : Option Addr} {n cap : Nat} {ps : List Value}
theorem PRow.nil (w : World) (lo : Nat) : PRow w lo none 0 0 [] := ⟨rfl, .inl ⟨rfl, rfl, rfl⟩⟩
theorem PRow.of_own (h : w.ownsRow lo 137 1 (.slice A n cap) n ps) : PRow w lo A n cap ps := by
  refine ⟨by have := h.1; omega, ?_⟩
  rcases h.2 with ⟨e, h0⟩ | ⟨g, cap', cur, e, hg, hh, h1, h2, h3, h4⟩
  · injection e with e1 e2 e3
    exact .inl ⟨e1, h0, e3⟩
  · injection e with e1 e2 e3
    subst e3
    rw [Nat.mul_one] at h3 h4
    exact .inr ⟨g, cur, e1, hg, hh, h1, by omega, h2, .inr h3.symm, h4⟩
theorem PRow.own {A' : Addr} (h : PRow w lo (some A') n cap ps) (hc : ∀ g cur, A' = ⟨g, 0, none⟩ → Blk w g 137 cur → cap = cur.size) : w.ownsRow lo 137 1 (.slice (some A') n cap) n ps := by
  refine ⟨by have := h.1; omega, ?_⟩
  rcases h.2 with ⟨e, _⟩ | ⟨g, cur, e, hg, hh, h1, h2, h3, h4, h5⟩
  · cases e
  · injection e with e
    subst e
    have h6 := hc g cur rfl hh
    exact .inr ⟨g, cap, cur, rfl, hg, hh, h1, h3, by omega, by rw [Nat.mul_one]; exact h5⟩
theorem PRow.fr {S : Nat → Prop} (h : PRow w lo A n cap ps) (hf : Frame S w w') (hL : ∀ L, A = some ⟨L, 0, none⟩ → ¬ S L) : PRow w' lo A n cap ps := by
  refine ⟨h.1, ?_⟩
  rcases h.2 with h0 | ⟨g, cur, e, hg, hh, r⟩
  · exact .inl h0
  · exact .inr ⟨g, cur, e, hg, hf.blk hh (hL g e), r⟩
theorem PRow.ty (h : PRow w lo A n cap ps) {L : Nat} (hL : A = some ⟨L, 0, none⟩) : ∃ cur, Blk w L 137 cur := by
  rcases h.2 with ⟨e, _⟩ | ⟨g, cur, e, hg, hh, _⟩
  · rw [e] at hL; cases hL
  · rw [e] at hL
    injection hL with hL
    injection hL with hL
    subst hL
    exact ⟨cur, hh⟩
end
theorem lks_cs {W : World} {B t : Nat} {c : LC} {st dr bd wt nx po re : Int} {l : Value} (K : Blk W B t (lks c st dr bd wt nx po re l)) :
    W.cell? ⟨B, 1, none⟩ = some (.int .u8 c.ty) ∧ W.cell? ⟨B, 2, none⟩ = some (.int .u32 c.ro) ∧ W.cell? ⟨B, 3, none⟩ = some (.int .u32 c.na) ∧ W.cell? ⟨B, 4, none⟩ = some (.int .u8 c.nb) ∧ W.cell? ⟨B, 5, none⟩ = some (.int .u32 c.ad) ∧ W.cell? ⟨B, 6, none⟩ = some (.int .u8 c.op) ∧ W.cell? ⟨B, 7, none⟩ = some (.int .u16 c.hi) ∧ W.cell? ⟨B, 8, none⟩ = some (.int .u32 c.dd) ∧ W.cell? ⟨B, 9, none⟩ = some (.int .u16 c.po) ∧ W.cell? ⟨B, 10, none⟩ = some (.int .u8 c.pr) ∧ W.cell? ⟨B, 11, none⟩ = some (.bool c.dm) ∧ W.cell? ⟨B, 12, none⟩ = some (.bool c.ps) ∧ W.cell? ⟨B, 13, none⟩ = some (c.pe) ∧ W.cell? ⟨B, 14, none⟩ = some (.int .u32 c.rm) :=
  ⟨K.cell 1, K.cell 2, K.cell 3, K.cell 4, K.cell 5, K.cell 6, K.cell 7, K.cell 8, K.cell 9, K.cell 10, K.cell 11, K.cell 12, K.cell 13, K.cell 14⟩
structure PAt (lo : Nat) (w : World) (B : Nat) (c : LC) (s : Pl.St) (A : Option Addr) (cap : Nat) (xs : List (Nat × Kn)) : Prop where
  loB : lo ≤ B
  b : Blk w B 119 (lks c s.st s.dr s.bd s.wt s.nx s.po s.re (.slice A xs.length cap))
  o : PRow w lo A xs.length cap (kptrs xs)
  k : ∀ x ∈ xs, Blk w x.1 139 x.2.cells ∧ lo ≤ x.1
  nd : (xs.map (·.1)).Nodup
  l : xs.map (·.2) = s.l
section
variable {lo : Nat} {w w' : World} {B : Nat} {c : LC} {s s' : Pl.St} {A : Option Addr} {cap : Nat} {xs : List (Nat × Kn)}
theorem PAt.len (h : PAt lo w B c s A cap xs) : xs.length = s.l.length := by rw [← h.l, List.length_map]
theorem PAt.below (h : PAt lo w B c s A cap xs) (hb : Below w.heap.size w w') : PAt lo w' B c s A cap xs :=
  ⟨h.loB, h.b.below hb h.b.lt, h.o.fr (Frame.of_below (S := fun _ => False) hb) (fun _ _ e => e), fun x hx => ⟨(h.k x hx).1.below hb (h.k x hx).1.lt, (h.k x hx).2⟩, h.nd, h.l⟩
theorem PAt.at_ (h : PAt lo w B c s A cap xs) {j : Nat} {x : Nat × Kn} (hj : xs[j]? = some x) : ∃ L, A = some ⟨L, 0, none⟩ ∧ L < w.heap.size ∧ lo ≤ L ∧ (∃ cur, Blk w L 137 cur) ∧ w.cell? ⟨L, j, none⟩ = some (.pointer (some ⟨x.1, 0, none⟩)) := by
  have hl : j < xs.length := (List.getElem?_eq_some_iff.1 hj).1
  rcases h.o.2 with ⟨_, h2, _⟩ | ⟨g, cur, e, hg, hh, h1, h2, h3, h4, h5⟩
  · omega
  · refine ⟨g, e, hh.lt, hg, ⟨cur, hh⟩, ?_⟩
    have hk : (kptrs xs)[j]? = some (.pointer (some ⟨x.1, 0, none⟩)) := by unfold kptrs; rw [List.getElem?_map, hj]; rfl
    rw [← h5, List.getElem?_take, if_pos hl] at hk
    rw [hh.cell j, ← Array.getElem?_toList]
    exact hk
theorem PAt.fr {S : Nat → Prop} (h : PAt lo w B c s A cap xs) (hf : Frame S w w') (hB : ¬ S B) (hL : ∀ L, A = some ⟨L, 0, none⟩ → ¬ S L) (hx : ∀ x ∈ xs, ¬ S x.1) : PAt lo w' B c s A cap xs :=
  ⟨h.loB, hf.blk h.b hB, h.o.fr hf hL, fun x hxm => ⟨hf.blk (h.k x hxm).1 (hx x hxm), (h.k x hxm).2⟩, h.nd, h.l⟩
theorem PAt.rowNe (h : PAt lo w B c s A cap xs) {g : Nat} {t : TypeId} {cs : Array Value} (hg : Blk w g t cs) (ht : t ≠ 137) : ∀ L, A = some ⟨L, 0, none⟩ → ¬ L = g := by
  rintro L hL rfl
  obtain ⟨cur, hc⟩ := h.o.ty hL
  exact hc.ne_ hg (Ne.symm ht) rfl
theorem PAt.turn (h : PAt lo w B c s A cap xs) (hf : Frame (fun j => j = B) w w') (hb : Blk w' B 119 (lks c s'.st s'.dr s'.bd s'.wt s'.nx s'.po s'.re (.slice A xs.length cap))) (hl : s'.l = s.l) : PAt lo w' B c s' A cap xs ∧ LFr lo w w' :=
  ⟨⟨h.loB, hb, h.o.fr hf (h.rowNe h.b (by decide)), fun x hx => ⟨hf.blk (h.k x hx).1 ((h.k x hx).1.ne_ h.b (by decide)), (h.k x hx).2⟩, h.nd, by rw [hl]; exact h.l⟩, LFr.one h.b h.loB (.inl rfl) hf⟩
theorem PAt.kn (h : PAt lo w B c s A cap xs) {x : Nat × Kn} (hx : x ∈ xs) : ∀ (j : Nat) (u : Value), x.2.cells[j]? = some u → w.cell? ⟨x.1, j, none⟩ = some u := fun j _ hu => ((h.k x hx).1.cell j).trans hu
theorem PAt.inj (h : PAt lo w B c s A cap xs) {x y : Nat × Kn} (hx : x ∈ xs) (hy : y ∈ xs) (e : x.1 = y.1) : x = y := by
  have h1 := (h.k x hx).1
  have h2 := (h.k y hy).1
  rw [← e] at h2
  have h3 : some (Obj.cells x.2.cells 139 (0, 0)) = some (Obj.cells y.2.cells 139 (0, 0)) := h1.symm.trans h2
  obtain ⟨x1, x2⟩ := x
  obtain ⟨y1, y2⟩ := y
  obtain rfl : x1 = y1 := e
  cases x2
  cases y2
  simp [Kn.cells] at h3
  simp [h3]
theorem PAt.atL (h : PAt lo w B c s A cap xs) {j : Nat} {x : Nat × Kn} (hj : xs[j]? = some x) : s.l[j]? = some x.2 := by rw [← h.l, List.getElem?_map, hj]; rfl
theorem fcell {S : Nat → Prop} (h : Frame S w w') {b i : Nat} {u : Value} (hc : w.cell? ⟨b, i, none⟩ = some u) (hS : ¬ S b) : w'.cell? ⟨b, i, none⟩ = some u :=
  (World.cell?_of_block (a := ⟨b, i, none⟩) (h.block b (lt_of_cell hc) hS)).trans hc
structure Acc (w2 : World) (X : Nat) (tX : TypeId) (mk : Value → Array Value) (tE : TypeId) (z n : Nat) (rows : List Value) (W : World) : Prop where
  f : Frame (fun i => i = X) w2 W
  o : ∃ v, Blk W X tX (mk v) ∧ W.ownsRow w2.heap.size tE z v n rows
theorem frame_own {S : Nat → Prop} {w2 W W' : World} {row : Option Nat} (h : Frame S w2 W) (hg : W.grownBy W' row) (hr : ∀ r, row = some r → w2.heap.size ≤ r ∧ ∃ o : Obj, W.heap[r]? = some o ∧ o.isCells = false) : Frame S w2 W' :=
  h.trans' (Frame.of_grown (S := fun k => row = some k) hg (fun k e _ => e)) (fun i hi e => by have := (hr i e).1; omega)
theorem blk_own {W W' : World} {row : Option Nat} {g : Nat} {t : TypeId} {cs : Array Value} (h : Blk W g t cs) (hg : W.grownBy W' row) (hr : ∀ r, row = some r → ∃ o : Obj, W.heap[r]? = some o ∧ o.isCells = false) : Blk W' g t cs :=
  (Frame.of_grown (S := fun k => row = some k) hg (fun k e _ => e)).blk h (fun e => by
    obtain ⟨o, h1, h2⟩ := hr g e
    have h3 : W.heap[g]? = some (.cells cs t (0, 0)) := h
    rw [h3] at h1
    cases h1
    cases h2)
theorem row_own {W W' : World} {row : Option Nat} {base size n : Nat} {e : TypeId} {v : Value} {ys : List Value} (h : W.ownsRow base e size v n ys) (hg : W.grownBy W' row) (hr : ∀ r, row = some r → ∃ o : Obj, W.heap[r]? = some o ∧ o.isCells = false) : W'.ownsRow base e size v n ys :=
  (Frame.of_grown (S := fun k => row = some k) hg (fun k e _ => e)).own h (fun g hg' e => by
    obtain ⟨o, h1, h2⟩ := hr g e
    obtain ⟨_, cs, h3⟩ := own_cells h g hg'
    rw [h3] at h1
    cases h1
    cases h2)
theorem Acc.own {w2 : World} {X : Nat} {tX : TypeId} {mk : Value → Array Value} {tE : TypeId} {z : Nat} {β : Type} (N : β → Nat) (R : β → List Value) : OwnFrom w2.heap.size (fun (s : β) W => Acc w2 X tX mk tE z (N s) (R s) W) := by
  rintro s W W' row ⟨hf, v, hx, ho⟩ hg hr
  have hr2 := fun r e => (hr r e).2
  exact ⟨frame_own hf hg hr, v, blk_own hx hg hr2, row_own ho hg hr2⟩
theorem leans_mk {w2 : World} {I : List (Nat × Kn) → World → Prop} {is : Nat × Kn → Bool} {Bl : Nat} {fn : FuncId} {caps : Array Value} (h : PAt lo w B c s A cap xs) (hlen : xs.length ≤ 100000) (hw : Below w.heap.size w w2) (hN : w.heap.size ≤ Bl)
    (g1 : w2.cell? ⟨Bl, 0, none⟩ = some (.pointer (some ⟨B, 0, none⟩))) (g2 : w2.cell? ⟨Bl + 1, 0, none⟩ = some (.func (.func fn) #[] caps))
    (hI : ∀ pre W, I pre W → Frame (fun i => (w.heap.size ≤ i ∧ i < Bl) ∨ ∃ x ∈ xs, x.1 = i) w2 W)
    (hq : ∀ k x W, xs[k]? = some x → I ((xs.take k).filter is) W → Calls Try.prog fn (#[.pointer (some ⟨x.1, 0, none⟩)] ++ caps) W fun e w' => e = .returned (.bool (is x)) ∧ ∃ q, w' = W.drewN q) : Leans I (·.1) is B Bl (Bl + 1) fn caps xs A cap := by
  have h2 := h.below hw
  have hBx : ∀ x ∈ xs, x.1 ≠ B := fun x hx => (h.k x hx).1.ne_ h.b (by decide)
  have hxl : ∀ x ∈ xs, x.1 < w.heap.size := fun x hx => (h.k x hx).1.lt
  have hS1 : ¬ ((w.heap.size ≤ Bl ∧ Bl < Bl) ∨ ∃ x ∈ xs, x.1 = Bl) := by
    rintro (e | ⟨x, hx, e⟩)
    · omega
    · have := hxl x hx; omega
  have hS2 : ¬ ((w.heap.size ≤ Bl + 1 ∧ Bl + 1 < Bl) ∨ ∃ x ∈ xs, x.1 = Bl + 1) := by
    rintro (e | ⟨x, hx, e⟩)
    · omega
    · have := hxl x hx; omega
  have hSB : ¬ ((w.heap.size ≤ B ∧ B < Bl) ∨ ∃ x ∈ xs, x.1 = B) := by
    rintro (e | ⟨x, hx, e⟩)
    · have := h.b.lt; omega
    · exact hBx x hx e
  exact {
    len := hlen
    h1 := fun pre W hi => fcell (hI pre W hi) g1 hS1
    h2 := fun pre W hi => ((hI pre W hi).blk h2.b hSB).cell 22
    hi := fun pre W hi => fcell (hI pre W hi) g2 hS2
    hr := fun pre W hi j x hj => by
      obtain ⟨L, hL, hl, _, ⟨cur, hc⟩, hcell⟩ := h.at_ hj
      refine ⟨L, hL, fcell (hI pre W hi) ((hw.cell (p := ⟨L, j, none⟩) hl).trans hcell) ?_⟩
      rintro (e | ⟨y, hy, e⟩)
      · omega
      · exact (h.k y hy).1.ne_ hc (by decide) e
    hq := hq }
theorem leans_at {I : List (Nat × Kn) → World → Prop} {is : Nat × Kn → Bool} {Bl : Nat} {fn : FuncId} {caps : Array Value} (h : PAt lo w B c s A cap xs) (hlen : xs.length ≤ 100000)
    (g1 : w.cell? ⟨Bl, 0, none⟩ = some (.pointer (some ⟨B, 0, none⟩))) (g2 : w.cell? ⟨Bl + 1, 0, none⟩ = some (.func (.func fn) #[] caps)) (hx : ∀ x ∈ xs, x.1 < Bl)
    (hI : ∀ pre W, I pre W → Frame (fun i => ∃ x ∈ xs, x.1 = i) w W)
    (hq : ∀ k x W, xs[k]? = some x → I ((xs.take k).filter is) W → Calls Try.prog fn (#[.pointer (some ⟨x.1, 0, none⟩)] ++ caps) W fun e w' => e = .returned (.bool (is x)) ∧ ∃ q, w' = W.drewN q) : Leans I (·.1) is B Bl (Bl + 1) fn caps xs A cap where
  len := hlen
  h1 := fun pre W hi => fcell (hI pre W hi) g1 (fun ⟨x, hm, e⟩ => by have := hx x hm; omega)
  h2 := fun pre W hi => ((hI pre W hi).blk h.b (fun ⟨x, hm, e⟩ => (h.k x hm).1.ne_ h.b (by decide) e)).cell 22
  hi := fun pre W hi => fcell (hI pre W hi) g2 (fun ⟨x, hm, e⟩ => by have := hx x hm; omega)
  hr := fun pre W hi j x hj => by
    obtain ⟨L, hL, hl, _, ⟨cur, hc⟩, hcell⟩ := h.at_ hj
    exact ⟨L, hL, fcell (hI pre W hi) hcell (fun ⟨y, hy, e⟩ => (h.k y hy).1.ne_ hc (by decide) e)⟩
  hq := hq
end
end Go.Proofs.Ytgbmhijgpdgdbaa
