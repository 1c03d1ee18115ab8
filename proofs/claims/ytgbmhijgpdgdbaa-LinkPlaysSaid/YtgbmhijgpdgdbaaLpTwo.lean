/- The two links at one plain state. -/
import Derived.Test.YtgbmhijgpdgdbaaLpPElect
import Derived.Test.YtgbmhijgpdgdbaaLpRefUp
import Derived.Test.YtgbmhijgpdgdbaaLpOuts
import Derived.Test.YtgbmhijgpdgdbaaLpPHear
import Derived.Test.YtgbmhijgpdgdbaaLpAlike
set_option maxHeartbeats 8000000
set_option maxRecDepth 100000
namespace Go.Proofs.Ytgbmhijgpdgdbaa
open Go.RowKit Go.Shelf
attribute [local go_sem] Oper.semAt_some
def fullIs (a : Int) (x : Nat × Kn) : Bool := (x.2.ad == a) && Pl.two x.2
def markK (a : Int) (b : Bool) (k : Kn) : Kn := if k.ad = a ∧ Pl.two k = true then { k with fu := b } else k
theorem mark_eq (a : Int) (b : Bool) (l : List Kn) : Pl.markL a b l = l.map (markK a b) := rfl
theorem full1_is (w : World) (K C0 : Nat) (k : Kn) (a : Int) (hK : Blk w K 139 k.cells) (h0 : w.cell? ⟨C0, 0, none⟩ = some (.int .u32 a)) :
    Calls Try.prog 87 (#[.pointer (some ⟨K, 0, none⟩)] ++ #[.pointer (some ⟨C0, 0, none⟩)]) w fun e w' => e = .returned (.bool ((k.ad == a) && Pl.two k)) ∧ ∃ q, w' = w.drewN q := by
  have k1 : w.cell? ⟨K, 1, none⟩ = some (.int .u32 k.ad) := hK.cell 1
  have k2 : w.cell? ⟨K, 2, none⟩ = some (.int .u8 k.st) := hK.cell 2
  have hKl := hK.lt
  clear hK
  show Calls Try.prog 87 #[.pointer (some ⟨K, 0, none⟩), .pointer (some ⟨C0, 0, none⟩)] w _
  rcases e : (k.ad == a) with _ | _
  · go_enter Try.func87, Try.ntmps87
    go_wp2_with fail
    go_quiet (fail)
    go_wp2_with fail
    go_ret
    exact ⟨rfl, _, rfl⟩
  · go_enter Try.func87, Try.ntmps87
    go_wp2_with fail
    go_quiet (fail)
    go_wp2_with fail
    go_ret
    exact ⟨rfl, _, rfl⟩
def fullI (b : Bool) (w7 : World) (xs : List (Nat × Kn)) (pre : List (Nat × Kn)) (W : World) : Prop :=
  (∀ x ∈ pre, x ∈ xs) ∧ Frame (fun i => ∃ x ∈ pre, x.1 = i) w7 W ∧ ∀ x ∈ pre, Blk W x.1 139 ({ x.2 with fu := b } : Kn).cells
theorem fullI_own (b : Bool) (w7 : World) (xs : List (Nat × Kn)) : OwnFrom w7.heap.size (fullI b w7 xs) := by
  rintro pre W W' row ⟨h1, hf, hk⟩ hg hr
  exact ⟨h1, frame_own hf hg hr, fun x hx => blk_own (hk x hx) hg (fun r e => (hr r e).2)⟩
section
variable {lo : Nat} {w w' : World} {B : Nat} {c : LC} {s s' : Pl.St} {A : Option Addr} {cap : Nat} {xs : List (Nat × Kn)}
theorem pfull_any (h : PAt lo w B c s A cap xs) (hlen : xs.length ≤ 60000) (a : Int) (b : Bool) :
    Calls Try.prog 47 #[.pointer (some ⟨B, 0, none⟩), .int .u32 a, .bool b] w fun e w' => e = .returned (.tuple #[]) ∧ ∃ xs', PAt lo w' B c { s with l := Pl.markL a b s.l } A cap xs' ∧ LFr lo w w' := by
  have H := Lib.hid h
  have hlt : B < w.heap.size := h.b.lt
  have hmf : ∀ (fn : Fn) (first cap : Array Value) (w : World), (Instr.makeFunc fn first cap).run Try.prog w = .ok (.func fn first cap) w := fun _ _ _ _ => rfl
  clear h
  refine (callsIn_wide (n := 3)).1 ?_
  refine callsIn_of_wp_marks Try.func47 rfl trivial ?_ rfl
  rw [wpIn_wide]
  simp only [Try.ntmps47, List.size_toArray, List.length_cons, List.length_nil, Nat.reduceAdd, Nat.reduceSub, Array.replicate_succ, Array.replicate_zero, List.push_toArray, List.append_toArray, List.nil_append, List.cons_append]
  go_upto_region 1 with fail
  obtain ⟨W0, hW0⟩ : ∃ W0, W0 = (w.alloc (.cells #[.int .u32 a] 25)).alloc (.cells #[.bool b] 4) := ⟨_, rfl⟩
  have A0 : Hid (Blk W0 w.heap.size 25 #[.int .u32 a]) := Lib.hid (by rw [hW0]; exact (Blk.new w _ _).alloc _)
  have A1 : Hid (Blk W0 (w.heap.size + 1) 4 #[.bool b]) := Lib.hid (by rw [hW0]; have := Blk.new (w.alloc (.cells #[.int .u32 a] 25)) 4 #[.bool b]; rw [World.size_alloc] at this; exact this)
  have B0 : Hid (Below w.heap.size w W0) := Lib.hid (by rw [hW0]; exact ((Below.refl _ w).alloc (Nat.le_refl _) _).alloc (by simp) _)
  have hs0 : w.heap.size + 1 < W0.heap.size := A1.out.lt
  rw [← hW0]
  clear hW0
  have H0 := Lib.hid (H.out.below B0.out)
  go_wp2_with (go_at_call 67; refine (none_lk _ _ _ H0.out.b rfl).mono ?_; rintro e w' ⟨rfl, rfl⟩)
  refine (all_made _ _ _ ⟨_, rfl⟩ ⟨_, _, _, rfl⟩).mono ?_
  rintro e w2 ⟨rfl, hb2, g1, g2⟩
  have h2l : W0.heap.size + 1 < w2.heap.size := lt_of_cell g2
  have A02 := Lib.hid (A0.out.below hb2 A0.out.lt)
  have A12 := Lib.hid (A1.out.below hb2 A1.out.lt)
  have HP2 := Lib.hid (H0.out.below hb2)
  have B2 := Lib.hid (B0.out.trans (hb2.mono B0.out.size))
  clear hb2 A0 A1 B0 H0
  have hsw2 : w.heap.size ≤ w2.heap.size := B2.out.size
  obtain ⟨I, hI⟩ : ∃ I : List (Nat × Kn) → World → Prop, I = fullI b w2 xs := ⟨_, rfl⟩
  have HI := Lib.hid hI
  clear hI
  have hIo : OwnFrom w2.heap.size I := by rw [HI.out]; exact fullI_own b w2 xs
  have hI0 : I [] w2 := by rw [HI.out]; exact ⟨fun x h => (by cases h), Frame.refl _ _, fun x h => (by cases h)⟩
  have hIf : ∀ pre W, I pre W → Frame (fun i => ∃ x ∈ xs, x.1 = i) w2 W := by
    intro pre W hi
    rw [HI.out] at hi
    exact hi.2.1.mono (fun i ⟨x, hx, e⟩ => ⟨x, hi.1 x hx, e⟩)
  have hxl : ∀ x ∈ xs, x.1 < w.heap.size := fun x hx => (H.out.k x hx).1.lt
  have hseq := seq_full 2 (by omega) w2 I (·.1) (fullIs a) B W0.heap.size (W0.heap.size + 1) w.heap.size xs A cap (leans_at HP2.out (by omega) g1 g2 (fun x hx => by have := hxl x hx; omega) hIf (fun k x W hx hi => by
    have hm := List.mem_of_getElem? hx
    rw [HI.out] at hi
    have hne : ¬ ∃ y ∈ (xs.take k).filter (fullIs a), y.1 = x.1 := by
      rintro ⟨y, hy, e⟩
      exact nodup_before H.out.nd hx y (List.mem_filter.1 hy).1 e
    exact full1_is W x.1 w.heap.size x.2 a (hi.2.1.blk (HP2.out.k x hm).1 hne) (fcell hi.2.1 (A02.out.cell 0) (fun ⟨y, hy, e⟩ => by have := hxl y (hi.1 y hy); omega))))
  have HXl := Lib.hid hxl
  clear hxl
  go_wp2_with fail
  rw [← wpIn_wide (n := 3)]
  refine wpIn_rangeFunc_I (n := 3) (by omega) rfl trivial enters_all1 hseq (fun _ => rfl) hIo (Ix := fun _ _ => False) (fun _ _ _ _ hs _ _ => hs) hI0 ?a₁ ?assign ?body ?done (fun _ _ _ _ _ h _ => h.elim)
  case assign =>
    intro l x W K hK
    gi_wp2
    exact hK
  case body =>
    rintro l pre x W hIx ⟨k0, hx0, hisx, hpre, _⟩
    have hxm := List.mem_of_getElem? hx0
    rw [HI.out] at hIx
    have HIx := Lib.hid hIx
    have HNe : Hid (∀ y ∈ pre, y.1 ≠ x.1) := Lib.hid (fun y hy => nodup_before H.out.nd hx0 y (by rw [hpre] at hy; exact (List.mem_filter.1 hy).1))
    have hkx : Blk W x.1 139 x.2.cells := hIx.2.1.blk (HP2.out.k x hxm).1 (fun ⟨y, hy, e⟩ => HNe.out y hy e)
    have HKX := Lib.hid hkx
    have x9 : W.cell? ⟨x.1, 9, none⟩ = some (.bool x.2.fu) := hkx.cell 9
    have fx := hkx.frozen
    have hlx := hkx.lt
    have b1 : W.cell? ⟨w.heap.size + 1, 0, none⟩ = some (.bool b) := fcell hIx.2.1 (A12.out.cell 0) (fun ⟨y, hy, e⟩ => by have := HXl.out y (hIx.1 y hy); omega)
    clear hkx hIx hpre hisx
    gi_wp2_with fail
    have hk5 : Blk (W.setCell ⟨x.1, 9, none⟩ (.bool b)) x.1 139 ({ x.2 with fu := b } : Kn).cells := HKX.out.set_ 9 (.bool b)
    have hF5 : Frame (fun j => j = x.1) W (W.setCell ⟨x.1, 9, none⟩ (.bool b)) := (Frame.refl _ W).setB 9 _
    refine ⟨KeepsOthers.setCell _ _ _, ?_⟩
    rw [HI.out]
    refine ⟨fun y hy => ?_, (HIx.out.2.1.mono (fun i ⟨y, hy, e⟩ => ⟨y, List.mem_append_left _ hy, e⟩)).trans (hF5.mono (fun i e => ⟨x, List.mem_append_right _ (List.mem_singleton.2 rfl), e.symm⟩)), fun y hy => ?_⟩
    · rcases List.mem_append.1 hy with hy | hy
      · exact HIx.out.1 y hy
      · rw [List.mem_singleton.1 hy]; exact hxm
    · rcases List.mem_append.1 hy with hy | hy
      · exact hF5.blk (HIx.out.2.2 y hy) (HNe.out y hy)
      · rw [List.mem_singleton.1 hy]; exact hk5
  case done =>
    intro D ys W hD hys hIx hK
    rw [HI.out] at hIx
    have HIx := Lib.hid hIx
    have HK := Lib.hid hK
    have HYs := Lib.hid hys
    clear hIx hK hys
    dsimp only
    go_wp2_with fail
    refine ⟨by simp, .inl ⟨_, _, rfl, run_takeDeferred HK.out, ?_⟩⟩
    obtain ⟨W9, hW9⟩ : ∃ W9, W9 = W.putObj D (.deferred none) := ⟨_, rfl⟩
    have hF9 : Frame (fun j => j = D) W W9 := by
      rw [hW9]
      exact Frame.of_grown (S := fun k => k = D) (grownBy_putObj' W D (.deferred none)) (fun k e _ => (Option.some.inj e).symm)
    rw [← hW9]
    clear hW9
    have hDw : w2.heap.size ≤ D := hD
    have hxl := HXl.out
    have hnB : ¬ ∃ x ∈ ys, x.1 = B := fun ⟨y, hy, e⟩ => (H.out.k y (HIx.out.1 y hy)).1.ne_ H.out.b (by decide) e
    have hb9 : Blk W9 B 119 (lks c s.st s.dr s.bd s.wt s.nx s.po s.re (.slice A xs.length cap)) := hF9.blk (HIx.out.2.1.blk HP2.out.b hnB) (by omega)
    have hnL : ∀ L, A = some ⟨L, 0, none⟩ → (¬ ∃ x ∈ ys, x.1 = L) ∧ ¬ L = D := by
      intro L hL
      obtain ⟨cur, hc⟩ := H.out.rowTy hL
      refine ⟨fun ⟨y, hy, e⟩ => (H.out.k y (HIx.out.1 y hy)).1.ne_ hc (by decide) e, ?_⟩
      have := hc.lt
      omega
    have hrow : PRow W9 lo A xs.length cap (kptrs xs) := (HP2.out.rowFr HIx.out.2.1 (fun L hL => (hnL L hL).1)).fr hF9 (fun L hL => (hnL L hL).2)
    have hkk : ∀ x ∈ xs, Blk W9 x.1 139 (markK a b x.2).cells := by
      intro x hx
      refine hF9.blk ?_ (by have := hxl x hx; omega)
      by_cases h0 : x.2.ad = a ∧ Pl.two x.2 = true
      · have e : markK a b x.2 = { x.2 with fu := b } := by unfold markK; rw [if_pos h0]
        rw [e]
        exact HIx.out.2.2 x (by rw [HYs.out]; exact List.mem_filter.2 ⟨hx, by unfold fullIs; rw [h0.2, h0.1]; simp⟩)
      · have e : markK a b x.2 = x.2 := by unfold markK; rw [if_neg h0]
        rw [e]
        refine HIx.out.2.1.blk (HP2.out.k x hx).1 (fun ⟨y, hy, e⟩ => ?_)
        have hyx := H.out.inj (HIx.out.1 y hy) hx e
        rw [HYs.out, hyx] at hy
        have h1 := (List.mem_filter.1 hy).2
        unfold fullIs at h1
        rw [Bool.and_eq_true] at h1
        exact h0 ⟨by simpa using h1.1, h1.2⟩
    have F10 : Frame (fun j => j = B ∨ ∃ x ∈ xs, x.1 = j) w W9 := ((Frame.of_below (S := fun j => j = B ∨ ∃ x ∈ xs, x.1 = j) B2.out).trans' HIx.out.2.1 (fun j _ ⟨y, hy, e⟩ => Or.inr ⟨y, HIx.out.1 y hy, e⟩)).trans' hF9 (fun j hj e => by omega)
    refine ⟨.tuple #[], by simp [results, Try.f47, go_sem], rfl, xs.map fun x => (x.1, markK a b x.2), ?_⟩
    exact ⟨H.out.upd (s' := { s with l := Pl.markL a b s.l }) (markK a b) hb9 hrow hkk (mark_eq a b s.l), H.out.lfr F10⟩
end
end Go.Proofs.Ytgbmhijgpdgdbaa
namespace Go.Proofs.Ytgbmhijgpdgdbaa
open Go.RowKit Go.Shelf
def Pl.st0 : Pl.St := ⟨0, 0, 0, 0, 0, 0, 0, []⟩
theorem rnew_any (lo : Nat) (w : World) (hl : lo ≤ w.heap.size) (c : LC) :
    Calls Try.prog 43 #[.agg c.cells] w fun e w' => ∃ R, e = .returned (.pointer (some ⟨R, 0, none⟩)) ∧ w.heap.size ≤ R ∧ RAt lo w' R c Pl.st0 (.slice none 0 0) ∧ Below w.heap.size w w' := by
  unfold LC.cells
  have Hl := Lib.hid hl
  clear hl
  go_enter Try.func43, Try.ntmps43
  go_upto_region 1 with fail
  obtain ⟨w1, hw1⟩ : ∃ w1, w1 = w.alloc (.cells #[.int .u8 c.ty, .int .u32 c.ro, .int .u32 c.na, .int .u8 c.nb, .int .u32 c.ad, .int .u8 c.op, .int .u16 c.hi, .int .u32 c.dd, .int .u16 c.po, .int .u8 c.pr, .bool c.dm, .bool c.ps, c.pe, .int .u32 c.rm] 76) := ⟨_, rfl⟩
  have hb1 : Below w.heap.size w w1 := by rw [hw1]; exact (Below.refl _ w).alloc (Nat.le_refl _) _
  have hk1 : Blk w1 w.heap.size 76 #[.int .u8 c.ty, .int .u32 c.ro, .int .u32 c.na, .int .u8 c.nb, .int .u32 c.ad, .int .u8 c.op, .int .u16 c.hi, .int .u32 c.dd, .int .u16 c.po, .int .u8 c.pr, .bool c.dm, .bool c.ps, c.pe, .int .u32 c.rm] := by rw [hw1]; exact Blk.new w _ _
  rw [← hw1]
  have HB1 := Lib.hid hb1
  have k0 : w1.cell? ⟨w.heap.size, 0, none⟩ = some (.int .u8 c.ty) := hk1.cell 0
  have k1 : w1.cell? ⟨w.heap.size, 1, none⟩ = some (.int .u32 c.ro) := hk1.cell 1
  have k2 : w1.cell? ⟨w.heap.size, 2, none⟩ = some (.int .u32 c.na) := hk1.cell 2
  have k3 : w1.cell? ⟨w.heap.size, 3, none⟩ = some (.int .u8 c.nb) := hk1.cell 3
  have k4 : w1.cell? ⟨w.heap.size, 4, none⟩ = some (.int .u32 c.ad) := hk1.cell 4
  have k5 : w1.cell? ⟨w.heap.size, 5, none⟩ = some (.int .u8 c.op) := hk1.cell 5
  have k6 : w1.cell? ⟨w.heap.size, 6, none⟩ = some (.int .u16 c.hi) := hk1.cell 6
  have k7 : w1.cell? ⟨w.heap.size, 7, none⟩ = some (.int .u32 c.dd) := hk1.cell 7
  have k8 : w1.cell? ⟨w.heap.size, 8, none⟩ = some (.int .u16 c.po) := hk1.cell 8
  have k9 : w1.cell? ⟨w.heap.size, 9, none⟩ = some (.int .u8 c.pr) := hk1.cell 9
  have k10 : w1.cell? ⟨w.heap.size, 10, none⟩ = some (.bool c.dm) := hk1.cell 10
  have k11 : w1.cell? ⟨w.heap.size, 11, none⟩ = some (.bool c.ps) := hk1.cell 11
  have k12 : w1.cell? ⟨w.heap.size, 12, none⟩ = some (c.pe) := hk1.cell 12
  have k13 : w1.cell? ⟨w.heap.size, 13, none⟩ = some (.int .u32 c.rm) := hk1.cell 13
  have hlt := hk1.lt
  clear hw1 hb1 hk1
  go_wp2_with fail
  go_ret
  have hs := HB1.out.size
  refine ⟨_, rfl, hs, ⟨?_, ?_, World.ownsRow_nil _ _ _ _⟩, HB1.out.trans (((Below.refl _ w1).alloc (Nat.le_refl _) _).mono hs)⟩
  · have := Hl.out; omega
  · exact Blk.new w1 _ _
end Go.Proofs.Ytgbmhijgpdgdbaa
namespace Go.Proofs.Ytgbmhijgpdgdbaa
namespace Pl
section
variable (c : LC) (v : Value) (L : List (Int × Int)) (s : St) (f r : Int) (h : Hel)
theorem upSt_pe : upSt { c with pe := v } L s = upSt c L s := rfl
theorem upOut_pe : upOut { c with pe := v } L s = upOut c L s := rfl
theorem aged_pe (l : List Kn) : ∀ k, agedTo { c with pe := v } L l k = agedTo c L l k
  | 0 => rfl
  | k + 1 => by
    show agedTo { c with pe := v } L l k ++ _ = agedTo c L l k ++ _
    rw [aged_pe l k]
    rfl
theorem tickA_pe : tickA { c with pe := v } L s = tickA c L s := by
  unfold tickA age
  rw [aged_pe]
  rfl
theorem tickSt_pe : tickSt { c with pe := v } L s = tickSt c L s := by
  unfold tickSt
  rw [tickA_pe]
  rfl
theorem tickOut_pe : tickOut { c with pe := v } L s = tickOut c L s := by
  unfold tickOut
  rw [tickA_pe]
  rfl
theorem mayE_pe : mayE { c with pe := v } s f r h = mayE c s f r h := rfl
theorem hearSt_pe : hearSt { c with pe := v } s f r h = hearSt c s f r h := rfl
theorem hearOut_pe : hearOut { c with pe := v } s f r h = hearOut c s f r h := rfl
theorem wanted_pe (k : Kn) : wanted { c with pe := v } s k = wanted c s k := rfl
variable {c L s}
theorem CfgOk.pe_ (g : CfgOk c L) : CfgOk { c with pe := v } L := ⟨g.ty0, g.ty, g.nb0, g.nb, g.vi, g.pr0, g.hi0, g.hi, g.dd0, g.dd, g.po0, g.po, g.pp, g.ln, g.no, g.dm⟩
theorem Ok.pe_ (g : Ok c L s) : Ok { c with pe := v } L s := ⟨g.st0, g.st1, g.kn, g.wt, g.nx, g.po, g.ln, g.one, g.pe, g.dn⟩
end
end Pl
end Go.Proofs.Ytgbmhijgpdgdbaa
namespace Go.Proofs.Ytgbmhijgpdgdbaa
open Go.RowKit Go.Shelf
section
variable {lo : Nat} {w w' : World} {B R : Nat} {c : LC} {s s' : Pl.St} {A : Option Addr} {cap : Nat} {xs : List (Nat × Kn)} {v u : Value} {L : List (Int × Int)}
theorem rty_ne {g : Nat} {t : TypeId} {cs : Array Value} (h : Blk w g t cs) (h1 : t ≠ 148) (h2 : t ≠ 157) : ¬ (lo ≤ g ∧ RTy w g) := by
  rintro ⟨_, cs', t', hb, ht⟩
  have e : some (Obj.cells cs t (0, 0)) = some (Obj.cells cs' t' (0, 0)) := (show w.heap[g]? = _ from h).symm.trans hb
  injection e with e
  injection e with e1 e2
  subst e2
  rcases ht with ht | ht
  · exact h1 ht
  · exact h2 ht
theorem lty_ne {g : Nat} {t : TypeId} {cs : Array Value} (h : Blk w g t cs) (h1 : t ≠ 119) (h2 : t ≠ 137) (h3 : t ≠ 139) : ¬ (lo ≤ g ∧ LinkTy w g) := by
  rintro ⟨_, cs', t', hb, ht⟩
  have e : some (Obj.cells cs t (0, 0)) = some (Obj.cells cs' t' (0, 0)) := (show w.heap[g]? = _ from h).symm.trans hb
  injection e with e
  injection e with e1 e2
  subst e2
  rcases ht with ht | ht | ht
  · exact h1 ht
  · exact h2 ht
  · exact h3 ht
theorem PAt.rfr (h : PAt lo w B c s A cap xs) (hf : RFr lo w w') : PAt lo w' B c s A cap xs :=
  h.fr hf (rty_ne h.b (by decide) (by decide)) (fun L hL => by
    obtain ⟨cur, hc⟩ := h.o.ty hL
    exact rty_ne hc (by decide) (by decide)) (fun x hx => rty_ne (h.k x hx).1 (by decide) (by decide))
theorem RAt.lfr (h : RAt lo w R c s v) (hf : LFr lo w w') : RAt lo w' R c s v :=
  ⟨h.loR, Frame.blk hf h.b (lty_ne h.b (by decide) (by decide) (by decide)), Frame.own hf h.o (fun g hg => by
    obtain ⟨_, cs, hc⟩ := own_cells h.o g hg
    exact lty_ne (t := 157) (cs := cs) hc (by decide) (by decide) (by decide))⟩
structure Two (lo : Nat) (w : World) (B R : Nat) (c : LC) (v : Value) (L : List (Int × Int)) (s : Pl.St) : Prop where
  p : ∃ A cap xs, PAt lo w B { c with pe := v } s A cap xs
  r : ∃ vR, RAt lo w R c s vR
  pp : PeersAt w lo v L
  pr : PeersAt w lo c.pe L
  ok : Pl.Ok c L s
theorem Two.low (h : Two lo w B R c v L s) : lo ≤ w.heap.size := by
  obtain ⟨vR, hr⟩ := h.r
  have := hr.loR
  have := hr.b.lt
  omega
theorem PeersAt.lo_ (h : PeersAt w lo v L) (hb : Below lo w w') : PeersAt w' lo v L := by
  obtain ⟨A, cp, rfl, h2⟩ := h
  exact ⟨A, cp, rfl, h2.below hb⟩
theorem Two.next (h : Two lo w B R c v L s) (hp : ∃ A cap xs, PAt lo w' B { c with pe := v } s' A cap xs) (hr : ∃ vR, RAt lo w' R c s' vR) (hb : Below lo w w') (ok : Pl.Ok c L s') : Two lo w' B R c v L s' := ⟨hp, hr, h.pp.lo_ hb, h.pr.lo_ hb, ok⟩
theorem Two.below (h : Two lo w B R c v L s) (hb : Below w.heap.size w w') : Two lo w' B R c v L s := by
  obtain ⟨A, cap, xs, hp⟩ := h.p
  obtain ⟨vR, hr⟩ := h.r
  exact h.next ⟨_, _, _, hp.below hb⟩ ⟨_, hr.below hb⟩ (hb.mono h.low) h.ok
theorem PeersAt.slice_ (h : PeersAt w lo v L) : ∃ A n k, v = .slice A n k := by
  obtain ⟨A, cp, e, _⟩ := h
  exact ⟨A, _, cp, e⟩
def WordsLo (lo : Nat) (w : World) (v : Value) (ws : List Int) : Prop := ∃ A n c, v = .slice A n c ∧ ws.length = n ∧ n ≤ 65536 ∧ Reads w lo 1 A n (ws.map (Value.int .u32))
theorem WordsLo.at_ {ws : List Int} (h : WordsLo lo w v ws) (hl : lo ≤ w.heap.size) : WordsAt w v ws := by
  obtain ⟨A, n, c, rfl, h1, h2, h3⟩ := h
  exact ⟨A, n, c, rfl, h1, h2, h3.more hl⟩
theorem WordsLo.below {ws : List Int} (h : WordsLo lo w v ws) (hb : Below lo w w') : WordsLo lo w' v ws := by
  obtain ⟨A, n, c, rfl, h1, h2, h3⟩ := h
  exact ⟨A, n, c, rfl, h1, h2, h3.below hb⟩
theorem WordsOwn.lfr {ws : List Int} (h : WordsOwn w v ws) (hf : LFr lo w w') : WordsOwn w' v ws := h.fr hf (fun g hg => by
  obtain ⟨_, b, h4⟩ := h
  obtain ⟨_, cs, hc⟩ := own_cells h4 g hg
  exact lty_ne (t := 25) (cs := cs) hc (by decide) (by decide) (by decide))
theorem WordsOwn.rfr {ws : List Int} (h : WordsOwn w v ws) (hf : RFr lo w w') : WordsOwn w' v ws := h.fr hf (fun g hg => by
  obtain ⟨_, b, h4⟩ := h
  obtain ⟨_, cs, hc⟩ := own_cells h4 g hg
  exact rty_ne (t := 25) (cs := cs) hc (by decide) (by decide))
end
end Go.Proofs.Ytgbmhijgpdgdbaa
