/- The program's link: Chiefs. -/
import Derived.Test.YtgbmhijgpdgdbaaLpPLose
import Derived.Test.YtgbmhijgpdgdbaaLpNeighOn
set_option maxHeartbeats 4000000
set_option maxRecDepth 20000
namespace Go.Proofs.Ytgbmhijgpdgdbaa
open Go.RowKit Go.Shelf
section
variable {lo : Nat} {w : World} {B : Nat} {c : LC} {s : Pl.St} {A : Option Addr} {cap : Nat} {xs : List (Nat × Kn)}
theorem pstate_any (h : PAt lo w B c s A cap xs) : Calls Try.prog 39 #[.pointer (some ⟨B, 0, none⟩)] w fun e w' => e = .returned (.int .u8 s.st) ∧ w = w' := by
  have H := Lib.hid h
  have c15 : w.cell? ⟨B, 15, none⟩ = some (.int .u8 s.st) := h.b.cell 15
  clear h
  go_enter Try.func39, Try.ntmps39
  go_wp2_with (go_at_call 67; refine (none_lk _ _ _ H.out.b rfl).mono ?_; rintro e w' ⟨rfl, rfl⟩)
  go_ret
  exact ⟨rfl, rfl⟩
theorem preach_any (h : PAt lo w B c s A cap xs) (a : Int) : Calls Try.prog 46 #[.pointer (some ⟨B, 0, none⟩), .int .u32 a] w fun e w' => e = .returned (.tuple #[]) ∧ PAt lo w' B c { s with re := a } A cap xs ∧ LFr lo w w' := by
  have H := Lib.hid h
  have c21 : w.cell? ⟨B, 21, none⟩ = some (.int .u32 s.re) := h.b.cell 21
  have fz := h.b.frozen
  have hlt := h.b.lt
  clear h
  go_enter Try.func46, Try.ntmps46
  go_wp2_with (go_at_call 67; refine (none_lk _ _ _ H.out.b rfl).mono ?_; rintro e w' ⟨rfl, rfl⟩)
  have hf : Frame (fun j => j = B) w (w.setCell ⟨B, 21, none⟩ (.int .u32 a)) := (Frame.refl _ w).setB 21 _
  have h2 := H.out.turn (s' := { s with re := a }) hf (H.out.b.set_ 21 (.int .u32 a)) rfl
  refine bodyPost_end (v := .tuple #[]) (by simp [results, Try.results46, go_sem]) rfl ⟨rfl, h2.1, h2.2⟩
theorem findI_at {c : LC} {f r : Int} {l : List Kn} {i : Nat} {k : Kn} (h : ∀ j x, j < i → l[j]? = some x → Pl.isAt c f r x = false) (hk : l[i]? = some k) (hi : Pl.isAt c f r k = true) : Pl.findI c f r l = i := by
  have hil : i < l.length := (List.getElem?_eq_some_iff.1 hk).1
  have e : Pl.find c f r l = some i := by
    unfold Pl.find
    rw [List.findIdx?_eq_some_iff_getElem]
    refine ⟨hil, ?_, fun j hj => ?_⟩
    · rw [List.getElem?_eq_getElem hil] at hk
      cases hk
      exact hi
    · rw [h j _ hj (List.getElem?_eq_getElem (by omega))]
      decide
  unfold Pl.findI
  rw [e]
theorem findI_no {c : LC} {f r : Int} {l : List Kn} (h : ∀ j x, j < l.length → l[j]? = some x → Pl.isAt c f r x = false) : Pl.findI c f r l = -1 := by
  have e : Pl.find c f r l = none := by
    unfold Pl.find
    rw [List.findIdx?_eq_none_iff]
    intro x hx
    obtain ⟨j, hj, rfl⟩ := List.getElem_of_mem hx
    exact h j _ hj (List.getElem?_eq_getElem hj)
  unfold Pl.findI
  rw [e]
theorem pfind_any (h : PAt lo w B c s A cap xs) (hlen : xs.length ≤ 60000) (f r : Int) : Calls Try.prog 71 #[.pointer (some ⟨B, 0, none⟩), .int .u32 f, .int .u32 r] w fun e w' => e = .returned (.int .i64 (Pl.findI c f r s.l)) ∧ w = w' := by
  have H := Lib.hid h
  obtain ⟨n, hn⟩ : ∃ n, xs.length = n := ⟨_, rfl⟩
  have Hn := Lib.hid hn
  have c1 : w.cell? ⟨B, 1, none⟩ = some (.int .u8 c.ty) := h.b.cell 1
  have c22 : w.cell? ⟨B, 22, none⟩ = some (.slice A n cap) := by rw [← hn]; exact h.b.cell 22
  have hlt := h.b.lt
  have hn6 : n ≤ 60000 := by omega
  clear h hn hlen
  go_enter Try.func71, Try.ntmps71
  go_wp2_with fail
  go_loopw [14] (fun x wr => ∃ k : Nat, k ≤ n ∧ x = .int .i64 k ∧ w = wr ∧ Hid (∀ j y, j < k → s.l[j]? = some y → Pl.isAt c f r y = false)) (fun x _ => n - (intOf x).toNat)
  case atStart => exact ⟨0, Nat.zero_le _, rfl, rfl, Lib.hid (fun j y hj => by omega)⟩
  case round =>
    obtain ⟨k, hk, rfl, rfl, HI⟩ := hrel
    by_cases hkn : k < n
    · obtain ⟨x, hx⟩ : ∃ x, xs[k]? = some x := ⟨_, List.getElem?_eq_getElem (by rw [Hn.out]; exact hkn)⟩
      obtain ⟨L, hA, hL, _, _, hc⟩ := H.out.at_ hx
      subst hA
      have hkI : (k : Int) < (n : Int) := by omega
      have hm : x ∈ xs := List.mem_of_getElem? hx
      have q0 : w.cell? ⟨x.1, 0, none⟩ = some (.int .u32 x.2.ro) := H.out.kn hm 0 _ rfl
      have q1 : w.cell? ⟨x.1, 1, none⟩ = some (.int .u32 x.2.ad) := H.out.kn hm 1 _ rfl
      have hxl := (H.out.k x hm).1.lt
      have Hx := Lib.hid (H.out.atL hx)
      have HN : Hid (Pl.isAt c f r x.2 = false → ∀ j y, j < k + 1 → s.l[j]? = some y → Pl.isAt c f r y = false) := Lib.hid (fun hno j y hj hy => by
        by_cases e : j < k
        · exact HI.out j y e hy
        · obtain rfl : j = k := by omega
          rw [Hx.out] at hy
          cases hy
          exact hno)
      have HY : Hid (Pl.isAt c f r x.2 = true → Pl.findI c f r s.l = (k : Int)) := Lib.hid (fun hy => findI_at HI.out Hx.out hy)
      clear hx hm
      by_cases h3 : 3 ≤ c.ty
      · have HQ : Hid (Pl.isAt c f r x.2 = (x.2.ro == r)) := Lib.hid (by unfold Pl.isAt; rw [if_pos h3])
        rcases e : (x.2.ro == r) with _ | _
        · have HZ := Lib.hid (HN.out (HQ.out.trans e))
          go_wp2_with fail
          go_roundw
          case rel => exact ⟨k + 1, by omega, by simp, trivial, HZ⟩
          case measure => simp [intOf]; omega
        · have HZ := Lib.hid (HY.out (HQ.out.trans e))
          go_wp2_with fail
          go_ret
          exact ⟨by rw [HZ.out] <;> rfl, rfl⟩
      · have HQ : Hid (Pl.isAt c f r x.2 = (x.2.ad == f)) := Lib.hid (by unfold Pl.isAt; rw [if_neg h3])
        have h3' : c.ty < 3 := by omega
        clear h3
        rcases e : (x.2.ad == f) with _ | _
        · have HZ := Lib.hid (HN.out (HQ.out.trans e))
          go_wp2_with fail
          go_roundw
          case rel => exact ⟨k + 1, by omega, by simp, trivial, HZ⟩
          case measure => simp [intOf]; omega
        · have HZ := Lib.hid (HY.out (HQ.out.trans e))
          go_wp2_with fail
          go_ret
          exact ⟨by rw [HZ.out] <;> rfl, rfl⟩
    · obtain rfl : k = n := by omega
      have HZ : Hid (Pl.findI c f r s.l = -1) := Lib.hid (findI_no (fun j y hj hy => HI.out j y (by rw [← H.out.len, Hn.out] at hj; exact hj) hy))
      go_wp2_with fail
      go_ret
      exact ⟨by rw [HZ.out] <;> rfl, rfl⟩
end
end Go.Proofs.Ytgbmhijgpdgdbaa
namespace Go.Proofs.Ytgbmhijgpdgdbaa
open Go.RowKit Go.Shelf
theorem frame_setRow {w0 w : World} {B : Nat} {cs : Array Value} (h : Frame (fun j => j = B) w0 w) : Frame (fun j => j = B) w0 (w.setRow B cs) :=
  ⟨h.os, h.tape, h.output, by have := h.size; simpa [World.setRow] using this, fun i hi hS => (setRow_other w B i cs hS).trans (h.block i hi hS)⟩
section
variable {lo : Nat} {w : World} {B : Nat} {c : LC} {s : Pl.St} {A : Option Addr} {cap : Nat} {xs : List (Nat × Kn)}
theorem pdown_any (h : PAt lo w B c s A cap xs) (hpe : ∃ A n k, c.pe = .slice A n k) : Calls Try.prog 40 #[.pointer (some ⟨B, 0, none⟩)] w fun e w' => e = .returned (.tuple #[]) ∧ PAt lo w' B c (Pl.downSt s) none 0 [] ∧ LFr lo w w' := by
  obtain ⟨A2, n2, cp2, hpe⟩ := hpe
  have HPE := Lib.hid hpe
  have H := Lib.hid h
  have hlt := h.b.lt
  have fz := h.b.frozen
  clear hpe h
  have c0 : w.cell? ⟨B, 0, none⟩ = some (.bool true) := H.out.b.cell 0
  have c1 : w.cell? ⟨B, 1, none⟩ = some (.int .u8 c.ty) := H.out.b.cell 1
  have c2 : w.cell? ⟨B, 2, none⟩ = some (.int .u32 c.ro) := H.out.b.cell 2
  have c3 : w.cell? ⟨B, 3, none⟩ = some (.int .u32 c.na) := H.out.b.cell 3
  have c4 : w.cell? ⟨B, 4, none⟩ = some (.int .u8 c.nb) := H.out.b.cell 4
  have c5 : w.cell? ⟨B, 5, none⟩ = some (.int .u32 c.ad) := H.out.b.cell 5
  have c6 : w.cell? ⟨B, 6, none⟩ = some (.int .u8 c.op) := H.out.b.cell 6
  have c7 : w.cell? ⟨B, 7, none⟩ = some (.int .u16 c.hi) := H.out.b.cell 7
  have c8 : w.cell? ⟨B, 8, none⟩ = some (.int .u32 c.dd) := H.out.b.cell 8
  have c9 : w.cell? ⟨B, 9, none⟩ = some (.int .u16 c.po) := H.out.b.cell 9
  have c10 : w.cell? ⟨B, 10, none⟩ = some (.int .u8 c.pr) := H.out.b.cell 10
  have c11 : w.cell? ⟨B, 11, none⟩ = some (.bool c.dm) := H.out.b.cell 11
  have c12 : w.cell? ⟨B, 12, none⟩ = some (.bool c.ps) := H.out.b.cell 12
  have c13 : w.cell? ⟨B, 13, none⟩ = some (c.pe) := H.out.b.cell 13
  have c14 : w.cell? ⟨B, 14, none⟩ = some (.int .u32 c.rm) := H.out.b.cell 14
  have c15 : w.cell? ⟨B, 15, none⟩ = some (.int .u8 s.st) := H.out.b.cell 15
  have c16 : w.cell? ⟨B, 16, none⟩ = some (.int .u32 s.dr) := H.out.b.cell 16
  have c17 : w.cell? ⟨B, 17, none⟩ = some (.int .u32 s.bd) := H.out.b.cell 17
  have c18 : w.cell? ⟨B, 18, none⟩ = some (.int .u32 s.wt) := H.out.b.cell 18
  have c19 : w.cell? ⟨B, 19, none⟩ = some (.int .u32 s.nx) := H.out.b.cell 19
  have c20 : w.cell? ⟨B, 20, none⟩ = some (.int .u32 s.po) := H.out.b.cell 20
  have c21 : w.cell? ⟨B, 21, none⟩ = some (.int .u32 s.re) := H.out.b.cell 21
  have c22 : w.cell? ⟨B, 22, none⟩ = some (.slice A xs.length cap) := H.out.b.cell 22
  go_enter Try.func40, Try.ntmps40
  go_wp2_with (go_at_call 67; refine (none_lk _ _ _ H.out.b rfl).mono ?_; rintro e w' ⟨rfl, rfl⟩)
  refine wp_region_drawn_tail 11 (by kernel_rfl) (by kernel_rfl) ?_
  simp only [List.take_succ_cons, List.take_zero, List.drop_succ_cons, List.drop_zero]
  repeat (go_big_quiet_step (fail))
  refine wpQuiet_nil ?_
  rintro wq ⟨q, rfl⟩
  refine wpList_store_row rfl 119 (.tmp 15) (.tmp 14) rfl B (lks c 0 0 0 0 0 0 s.re (.slice none 0 0)) rfl rfl 119 _ (H.out.b.drewN q) (by kernel_rfl) rfl (by simp [lks, Value.oneCell', HPE.out]) ?_
  go_wp2_with fail
  have hf : Frame (fun j => j = B) w ((w.drewN q).setRow B (lks c 0 0 0 0 0 0 s.re (.slice none 0 0))) := frame_setRow (Frame.of_below (drewQ w q))
  have hk : Blk ((w.drewN q).setRow B (lks c 0 0 0 0 0 0 s.re (.slice none 0 0))) B 119 (lks c 0 0 0 0 0 0 s.re (.slice none 0 0)) := setRow_heap _ B _ _ _ _ (H.out.b.drewN q)
  refine bodyPost_end (v := .tuple #[]) (by simp [results, Try.results40, go_sem]) rfl ⟨rfl, ⟨H.out.loB, hk, PRow.nil _ _, fun x hx => by simp at hx, by simp, rfl⟩, LFr.one H.out.b H.out.loB (.inl rfl) hf⟩
end
end Go.Proofs.Ytgbmhijgpdgdbaa
namespace Go.Proofs.Ytgbmhijgpdgdbaa
open Go.RowKit Go.Shelf
section
variable {lo : Nat} {w : World} {B : Nat} {c : LC} {s : Pl.St} {A : Option Addr} {cap : Nat} {xs : List (Nat × Kn)}
theorem pput_o (h : PAt lo w B c s A cap xs) (ht : c.ty ≠ 0) (f : Int) : Calls Try.prog 72 #[.pointer (some ⟨B, 0, none⟩), .int .u32 f] w fun e w' => e = .returned (.int .i64 (Pl.putAt c f s.l)) ∧ ∃ A' cap' xs', PAt lo w' B c { s with l := Pl.putL c f s.l } A' cap' xs' ∧ LFr lo w w' := by
  have H := Lib.hid h
  have HE : Hid (Pl.putAt c f s.l = 0 ∧ Pl.putL c f s.l = [Pl.zero]) := Lib.hid (by unfold Pl.putAt Pl.putL; rw [if_neg ht, if_neg ht]; exact ⟨rfl, rfl⟩)
  have e0 : (c.ty != 0) = true := by simpa using ht
  have c1 : w.cell? ⟨B, 1, none⟩ = some (.int .u8 c.ty) := h.b.cell 1
  have c22 : w.cell? ⟨B, 22, none⟩ = some (.slice A xs.length cap) := h.b.cell 22
  have hlt := h.b.lt
  have fz := h.b.frozen
  clear h ht
  go_enter Try.func72, Try.ntmps72
  go_upto_region 3 with fail
  obtain ⟨ws, hws⟩ : ∃ ws, ws = w.setCell ⟨B, 22, none⟩ (.slice (some ⟨w.heap.size + 1, 0, none⟩) 1 1) := ⟨_, rfl⟩
  obtain ⟨w3, hw3⟩ : ∃ y, y = ws.alloc (.cells Pl.zero.cells 139) := ⟨_, rfl⟩
  obtain ⟨w4, hw4⟩ : ∃ y, y = w3.alloc (.cells #[.pointer (some ⟨w.heap.size, 0, none⟩)] 137) := ⟨_, rfl⟩
  have hss : ws.heap.size = w.heap.size := by rw [hws]; simp [World.setCell]
  have hs3 : w3.heap.size = w.heap.size + 1 := by rw [hw3]; simp [hss]
  have hFs : Frame (fun j => j = B) w ws := by rw [hws]; exact (Frame.refl _ w).setB 22 _
  have kb : Blk ws B 119 (lks c s.st s.dr s.bd s.wt s.nx s.po s.re (.slice (some ⟨w.heap.size + 1, 0, none⟩) 1 1)) := by rw [hws]; exact H.out.b.set_ 22 _
  have hb3 : Below ws.heap.size ws w3 := by rw [hw3]; exact (Below.refl _ ws).alloc (Nat.le_refl _) _
  have hb4 : Below w3.heap.size w3 w4 := by rw [hw4]; exact (Below.refl _ w3).alloc (Nat.le_refl _) _
  have k3 : Blk w3 w.heap.size 139 Pl.zero.cells := by rw [hw3, ← hss]; exact Blk.new ws _ _
  have k4 : Blk w4 (w.heap.size + 1) 137 #[.pointer (some ⟨w.heap.size, 0, none⟩)] := by rw [hw4, ← hs3]; exact Blk.new w3 _ _
  have hP : PAt lo w4 B c { s with l := [Pl.zero] } (some ⟨w.heap.size + 1, 0, none⟩) 1 [(w.heap.size, Pl.zero)] := by
    have hlo := H.out.loB
    have hBl := H.out.b.lt
    refine ⟨hlo, (kb.below hb3 kb.lt).below hb4 (kb.below hb3 kb.lt).lt, ⟨rfl, .inr ⟨_, _, rfl, by omega, k4, Nat.le_refl _, by simp, by simp [maxLen], .inl rfl, rfl⟩⟩, fun x hx => ?_, by simp, rfl⟩
    rw [List.mem_singleton.1 hx]
    exact ⟨k3.below hb4 k3.lt, by show lo ≤ w.heap.size; omega⟩
  have HP := Lib.hid hP
  have HF := Lib.hid ((LFr.one H.out.b H.out.loB (.inl rfl) hFs).trans ((LFr.of_below hb3).trans (LFr.of_below hb4)))
  rw [← hws]
  have hw3' : w3 = ws.alloc (.cells #[.int .u32 0, .int .u32 0, .int .u8 0, .int .u8 0, .int .u32 0, .int .u32 0, .int .u8 0, .int .u32 0, .bool false, .bool false] 139) := hw3
  rw [← hw3', ← hw4]
  clear hw3'
  clear hws hw3 hw4 hss hs3 hFs kb hb3 hb4 k3 k4 hP
  go_wp2_with fail
  go_ret
  exact ⟨by rw [HE.out.1] <;> rfl, _, _, _, by rw [HE.out.2]; exact HP.out, HF.out⟩
end
end Go.Proofs.Ytgbmhijgpdgdbaa
namespace Go.Proofs.Ytgbmhijgpdgdbaa
open Go.RowKit Go.Shelf
section
variable {lo : Nat} {w : World} {B : Nat} {c : LC} {s : Pl.St} {A : Option Addr} {cap : Nat} {xs : List (Nat × Kn)}
theorem pneigh_any (h : PAt lo w B c s A cap xs) (hlen : xs.length ≤ 60000) : Calls Try.prog 38 #[.pointer (some ⟨B, 0, none⟩)] w fun e w' => NeighOnPost c s.st s.dr s.bd xs w e w' := by
  rcases h.o.2 with ⟨hA, hn, hc⟩ | ⟨g, cur, hA, hg, hh, _⟩
  · subst hA hc
    obtain rfl : xs = [] := List.length_eq_zero_iff.1 hn
    refine (neighbours_nil w B c s.st s.dr s.bd s.wt s.nx s.po s.re h.b).mono ?_
    rintro e w' ⟨rfl, rfl⟩
    exact ⟨_, rfl, World.ownsRow_nil _ _ _ _, Below.refl _ _⟩
  · subst hA
    refine neigh_row w B c s.st s.dr s.bd s.wt s.nx s.po s.re g cap xs hlen h.b ⟨fun j x hj => ?_, fun x hx => (h.k x hx).1⟩
    obtain ⟨L, hL, _, _, _, hc⟩ := h.at_ hj
    injection hL with hL
    injection hL with hL
    subst hL
    exact hc
end
end Go.Proofs.Ytgbmhijgpdgdbaa
namespace Go.Proofs.Ytgbmhijgpdgdbaa
open Go.RowKit Go.Shelf
section
variable {lo : Nat} {w : World} {B : Nat} {c : LC} {s : Pl.St} {A : Option Addr} {cap : Nat} {xs : List (Nat × Kn)}
theorem pchiefs_any (h : PAt lo w B c s A cap xs) : Calls Try.prog 42 #[.pointer (some ⟨B, 0, none⟩)] w fun e w' => e = .returned (.tuple #[.int .u32 s.dr, .int .u32 s.bd]) ∧ Below w.heap.size w w' := by
  have H := Lib.hid h
  have c16 : w.cell? ⟨B, 16, none⟩ = some (.int .u32 s.dr) := h.b.cell 16
  have c17 : w.cell? ⟨B, 17, none⟩ = some (.int .u32 s.bd) := h.b.cell 17
  have hlt := h.b.lt
  clear h
  go_enter Try.func42, Try.ntmps42
  go_wp2_with (go_at_call 67; refine (none_lk _ _ _ H.out.b rfl).mono ?_; rintro e w' ⟨rfl, rfl⟩)
  go_quiet (fail)
  go_wp2_with fail
  refine bodyPost_ret (v := .tuple #[.int .u32 s.dr, .int .u32 s.bd]) (by simp [results, Try.results42, go_sem]) rfl ⟨rfl, drewQ w _⟩
end
end Go.Proofs.Ytgbmhijgpdgdbaa
