/- Rows of Hellos: the same of either side compare as equal. -/
import Derived.Test.YtgbmhijgpdgdbaaLpRefAt
set_option maxHeartbeats 4000000
set_option maxRecDepth 20000
namespace Go.Proofs.Ytgbmhijgpdgdbaa
open Go.RowKit
theorem Reads.word {w : World} {B n : Nat} {A : Option Addr} {ws : List Int} (h : Reads w B 1 A n (ws.map (Value.int .u32))) {k : Nat} {x : Int} (hx : ws[k]? = some x) :
    ∃ b off, A = some ⟨b, off, none⟩ ∧ b < B ∧ w.cell? ⟨b, off + k, none⟩ = some (.int .u32 x) := by
  have hk : k < ws.length := (List.getElem?_eq_some_iff.1 hx).1
  have hn : n = ws.length := by have := h.1; simp at this; omega
  obtain ⟨ad, rfl, hb, hc⟩ := h.2 (by omega)
  have h0 := hc 0 (.int .u32 ws[0]) (by rw [List.getElem?_map, List.getElem?_eq_getElem (by omega)]; rfl)
  have hs := World.cell?_spot h0
  obtain ⟨b, off, sp⟩ := ad
  have hsp : sp = none := by simpa [Addr.add] using hs
  subst hsp
  refine ⟨b, off, rfl, hb, ?_⟩
  have h1 := hc k (.int .u32 x) (by rw [List.getElem?_map, hx]; rfl)
  unfold Addr.add at h1
  split at h1
  · rename_i e; subst e; exact h1
  · exact h1
theorem drewQ (w : World) (q : Nat) : Below w.heap.size w (w.drewN q) := ⟨rfl, rfl, rfl, Nat.le_refl _, fun _ _ => rfl⟩
def WordsAt (w : World) (v : Value) (ws : List Int) : Prop := ∃ A n c, v = .slice A n c ∧ ws.length = n ∧ n ≤ 65536 ∧ Reads w w.heap.size 1 A n (ws.map (Value.int .u32))
theorem WordsAt.below {w w' : World} {v : Value} {ws : List Int} (h : WordsAt w v ws) (hb : Below w.heap.size w w') : WordsAt w' v ws := by
  obtain ⟨A, n, c, rfl, h1, h2, h3⟩ := h
  exact ⟨A, n, c, rfl, h1, h2, (h3.below hb).more hb.size⟩
def hcl (h : Pl.Hel) (nv : Value) : List Value := [.int .u32 h.ma, .int .u16 h.hi, .int .u8 h.op, .int .u8 h.pr, .int .u32 h.dd, .int .u32 h.dr, .int .u32 h.bd, nv]
def hval (h : Pl.Hel) (nv : Value) : Value := .agg #[.int .u32 h.ma, .int .u16 h.hi, .int .u8 h.op, .int .u8 h.pr, .int .u32 h.dd, .int .u32 h.dr, .int .u32 h.bd, nv]
def scl (p : (Int × Pl.Hel) × Value) : List Value := .int .u32 p.1.1 :: hcl p.1.2 p.2
def WordsOwn (w : World) (v : Value) (ws : List Int) : Prop := ws.length ≤ 65536 ∧ ∃ b, w.ownsRow b 25 1 v ws.length (ws.map (Value.int .u32))
theorem WordsOwn.at_ {w : World} {v : Value} {ws : List Int} (h : WordsOwn w v ws) : WordsAt w v ws := by
  obtain ⟨h1, b, h2⟩ := h
  obtain ⟨A, c, rfl⟩ := own_slice h2
  exact ⟨A, _, c, rfl, rfl, h1, Reads.of_own h2⟩
theorem WordsOwn.fr {S : Nat → Prop} {w w' : World} {v : Value} {ws : List Int} (h : WordsOwn w v ws) (hf : Frame S w w') (hS : ∀ g, v.ownBlock = some g → ¬ S g) : WordsOwn w' v ws := by
  obtain ⟨h1, b, h2⟩ := h
  exact ⟨h1, b, hf.own h2 hS⟩
theorem WordsOwn.below {w w' : World} {v : Value} {ws : List Int} (h : WordsOwn w v ws) (hb : Below w.heap.size w w') : WordsOwn w' v ws := h.fr (Frame.of_below (S := fun _ => False) hb) (fun _ _ e => e)
def OutsAt (w : World) (v : Value) (l : List (Int × Pl.Hel)) : Prop :=
  ∃ (A : Option Addr) (n c : Nat) (nvs : List Value), v = .slice A n c ∧ l.length = n ∧ nvs.length = n ∧ n ≤ 65536 ∧ Reads w w.heap.size 9 A n ((l.zip nvs).flatMap scl) ∧ ∀ (i : Nat) (x : Int × Pl.Hel) (nv : Value), l[i]? = some x → nvs[i]? = some nv → WordsOwn w nv x.2.nb
theorem OutsAt.nil (w : World) : OutsAt w (.slice none 0 0) [] := ⟨none, 0, 0, [], rfl, rfl, rfl, Nat.zero_le _, Reads.none_, fun i x nv hx => by simp at hx⟩
theorem scl_at {l : List ((Int × Pl.Hel) × Value)} {i : Nat} {p : (Int × Pl.Hel) × Value} (h : l[i]? = some p) {j : Nat} {u : Value} (hj : (scl p)[j]? = some u) : (l.flatMap scl)[i * 9 + j]? = some u := by
  induction l generalizing i with
  | nil => simp at h
  | cons x l ih =>
    rw [List.flatMap_cons]
    have hl : (scl x).length = 9 := rfl
    cases i with
    | zero =>
      simp at h
      subst h
      have hj9 : j < 9 := (List.getElem?_eq_some_iff.1 hj).1
      rw [List.getElem?_append_left (by rw [hl]; omega)]
      simpa using hj
    | succ i =>
      rw [List.getElem?_append_right (by rw [hl]; omega), hl, show (i + 1) * 9 + j - 9 = i * 9 + j from by omega]
      exact ih (by simpa using h)
theorem Reads.send {w : World} {B n : Nat} {A : Option Addr} {l : List ((Int × Pl.Hel) × Value)} (h : Reads w B 9 A n (l.flatMap scl)) (hn : l.length = n) {k : Nat} {p : (Int × Pl.Hel) × Value} (hx : l[k]? = some p) :
    ∃ b off, A = some ⟨b, off, none⟩ ∧ b < B ∧ ∀ j u, (scl p)[j]? = some u → w.cell? ⟨b, off + k * 9 + j, none⟩ = some u := by
  have hk : k < n := by rw [← hn]; exact (List.getElem?_eq_some_iff.1 hx).1
  obtain ⟨ad, rfl, hb, hc⟩ := h.2 (by omega)
  have h0 := hc (0 * 9 + 0) _ (scl_at (i := 0) (List.getElem?_eq_getElem (by omega)) (j := 0) rfl)
  have hs := World.cell?_spot h0
  obtain ⟨b, off, sp⟩ := ad
  have hsp : sp = none := by simpa [Addr.add] using hs
  subst hsp
  refine ⟨b, off, rfl, hb, fun j u hj => ?_⟩
  have h1 := hc (k * 9 + j) u (scl_at hx hj)
  unfold Addr.add at h1
  split at h1
  · rename_i e
    rw [show off + k * 9 + j = off from by omega]
    exact h1
  · rw [show off + k * 9 + j = off + (k * 9 + j) from by omega]
    exact h1
theorem eqw_any (w : World) (u v : Value) (ws : List Int) (hu : WordsAt w u ws) (hv : WordsAt w v ws) : Calls Try.prog 123 #[u, v] w fun e w' => e = .returned (.bool true) ∧ Below w.heap.size w w' := by
  obtain ⟨A, n, ca, rfl, h1, h2, h3⟩ := hu
  obtain ⟨B, m, cb, rfl, h4, h5, h6⟩ := hv
  obtain rfl : n = m := by omega
  have H1 := Lib.hid h1
  have H3 := Lib.hid h3
  have H6 := Lib.hid h6
  clear h1 h3 h4 h5 h6
  go_enter Try.func123, Try.ntmps123
  go_wp2_with fail
  go_loopw [5] (fun x wr => ∃ k : Nat, k ≤ n ∧ x = .int .i64 k ∧ Hid (Below w.heap.size w wr)) (fun x _ => n - (intOf x).toNat)
  case atStart => exact ⟨0, Nat.zero_le _, rfl, Lib.hid (Below.refl _ _)⟩
  case round =>
    obtain ⟨k, hk, rfl, HB⟩ := hrel
    by_cases hlt : k < n
    · obtain ⟨x, hx⟩ : ∃ x, ws[k]? = some x := ⟨_, List.getElem?_eq_getElem (by rw [H1.out]; exact hlt)⟩
      obtain ⟨ba, oa, hA, hba, hca⟩ := (H3.out.below HB.out).word hx
      obtain ⟨bb, ob, hB, hbb, hcb⟩ := (H6.out.below HB.out).word hx
      subst hA
      subst hB
      have hkn : (k : Int) < (n : Int) := by omega
      clear hx hba hbb
      go_wp2_with fail
      go_quiet (fail)
      go_wp2_with fail
      go_roundw
      case rel => exact ⟨k + 1, by omega, by simp, Lib.hid (HB.out.trans ((drewQ wr _).mono HB.out.size))⟩
      case measure => simp [intOf]; omega
    · obtain rfl : k = n := by omega
      go_wp2_with fail
      go_ret
      exact ⟨rfl, HB.out⟩
theorem eqh_any (w : World) (h : Pl.Hel) (u v : Value) (hu : WordsAt w u h.nb) (hv : WordsAt w v h.nb) : Calls Try.prog 83 #[hval h u, hval h v] w fun e w' => e = .returned (.bool true) ∧ Below w.heap.size w w' := by
  obtain ⟨w1, hw1⟩ : ∃ w1, w1 = (w.alloc (.cells #[.int .u32 h.ma, .int .u16 h.hi, .int .u8 h.op, .int .u8 h.pr, .int .u32 h.dd, .int .u32 h.dr, .int .u32 h.bd, u] 90)).alloc (.cells #[.int .u32 h.ma, .int .u16 h.hi, .int .u8 h.op, .int .u8 h.pr, .int .u32 h.dd, .int .u32 h.dr, .int .u32 h.bd, v] 90) := ⟨_, rfl⟩
  have hb : Below w.heap.size w w1 := by rw [hw1]; exact ((Below.refl _ w).alloc (Nat.le_refl _) _).alloc (by simp) _
  have hq := eqw_any w1 u v h.nb (hu.below hb) (hv.below hb)
  rw [hw1] at hq
  obtain ⟨A, n, ca, rfl, _⟩ := hu
  obtain ⟨B, m, cb, rfl, _⟩ := hv
  have HB := Lib.hid hb
  have HQ := Lib.hid hq
  unfold hval
  clear hb hq
  go_enter Try.func83, Try.ntmps83
  go_wp2_with fail
  refine HQ.out.mono ?_
  rintro e w2 ⟨rfl, hb2⟩
  rw [← hw1] at hb2
  have HB2 := Lib.hid hb2
  clear hb2
  go_wp2_with fail
  go_ret
  exact ⟨rfl, HB.out.trans (HB2.out.mono HB.out.size)⟩
theorem sends_any (w : World) (u v : Value) (l : List (Int × Pl.Hel)) (hu : OutsAt w u l) (hv : OutsAt w v l) : Calls Try.prog 77 #[u, v] w fun e w' => e = .returned (.bool true) ∧ Below w.heap.size w w' := by
  have HU := Lib.hid hu
  have HV := Lib.hid hv
  obtain ⟨A, n, ca, nvs, rfl, h1, h2, h3, h4, h5⟩ := hu
  obtain ⟨B, m, cb, mvs, rfl, g1, g2, g3, g4, g5⟩ := hv
  obtain rfl : n = m := by omega
  have H1 := Lib.hid h1
  have H2 := Lib.hid h2
  have H4 := Lib.hid h4
  have H5 := Lib.hid h5
  have G2 := Lib.hid g2
  have G4 := Lib.hid g4
  have G5 := Lib.hid g5
  clear h1 h2 h4 h5 g1 g2 g3 g4 g5 HU HV
  go_enter Try.func77, Try.ntmps77
  go_wp2_with fail
  go_loopw [5] (fun x wr => ∃ k : Nat, k ≤ n ∧ x = .int .i64 k ∧ Hid (Below w.heap.size w wr)) (fun x _ => n - (intOf x).toNat)
  case atStart => exact ⟨0, Nat.zero_le _, rfl, Lib.hid (Below.refl _ _)⟩
  case round =>
    obtain ⟨k, hk, rfl, HB⟩ := hrel
    by_cases hlt : k < n
    · obtain ⟨x, hx⟩ : ∃ x, l[k]? = some x := ⟨_, List.getElem?_eq_getElem (by rw [H1.out]; exact hlt)⟩
      obtain ⟨nv, hnv⟩ : ∃ x, nvs[k]? = some x := ⟨_, List.getElem?_eq_getElem (by rw [H2.out]; exact hlt)⟩
      obtain ⟨mv, hmv⟩ : ∃ x, mvs[k]? = some x := ⟨_, List.getElem?_eq_getElem (by rw [G2.out]; exact hlt)⟩
      obtain ⟨ba, oa, hA, hba, hca⟩ := ((H4.out.below HB.out).more HB.out.size).send (p := (x, nv)) (by rw [List.length_zip, H1.out, H2.out]; exact Nat.min_self n) (List.getElem?_zip_eq_some.2 ⟨hx, hnv⟩)
      obtain ⟨bb, ob, hB, hbb, hcb⟩ := ((G4.out.below HB.out).more HB.out.size).send (p := (x, mv)) (by rw [List.length_zip, H1.out, G2.out]; exact Nat.min_self n) (List.getElem?_zip_eq_some.2 ⟨hx, hmv⟩)
      subst hA
      subst hB
      have hna := (H5.out k x nv hx hnv).at_.below HB.out
      have hnb := (G5.out k x mv hx hmv).at_.below HB.out
      have hkn : (k : Int) < (n : Int) := by omega
      have d0 := later_cell (v := .int .u32 x.1) (B := wr.heap.size) (w0 := wr) (p := ⟨ba, oa + k * 9, none⟩) hba (hca 0 _ rfl)
      have d1 := later_cell (v := .int .u32 x.2.ma) (B := wr.heap.size) (w0 := wr) (p := ⟨ba, oa + k * 9 + 1, none⟩) hba (hca 1 _ rfl)
      have d2 := later_cell (v := .int .u16 x.2.hi) (B := wr.heap.size) (w0 := wr) (p := ⟨ba, oa + k * 9 + 2, none⟩) hba (hca 2 _ rfl)
      have d3 := later_cell (v := .int .u8 x.2.op) (B := wr.heap.size) (w0 := wr) (p := ⟨ba, oa + k * 9 + 3, none⟩) hba (hca 3 _ rfl)
      have d4 := later_cell (v := .int .u8 x.2.pr) (B := wr.heap.size) (w0 := wr) (p := ⟨ba, oa + k * 9 + 4, none⟩) hba (hca 4 _ rfl)
      have d5 := later_cell (v := .int .u32 x.2.dd) (B := wr.heap.size) (w0 := wr) (p := ⟨ba, oa + k * 9 + 5, none⟩) hba (hca 5 _ rfl)
      have d6 := later_cell (v := .int .u32 x.2.dr) (B := wr.heap.size) (w0 := wr) (p := ⟨ba, oa + k * 9 + 6, none⟩) hba (hca 6 _ rfl)
      have d7 := later_cell (v := .int .u32 x.2.bd) (B := wr.heap.size) (w0 := wr) (p := ⟨ba, oa + k * 9 + 7, none⟩) hba (hca 7 _ rfl)
      have d8 := later_cell (v := nv) (B := wr.heap.size) (w0 := wr) (p := ⟨ba, oa + k * 9 + 8, none⟩) hba (hca 8 _ rfl)
      have e0 := later_cell (v := .int .u32 x.1) (B := wr.heap.size) (w0 := wr) (p := ⟨bb, ob + k * 9, none⟩) hbb (hcb 0 _ rfl)
      have e1 := later_cell (v := .int .u32 x.2.ma) (B := wr.heap.size) (w0 := wr) (p := ⟨bb, ob + k * 9 + 1, none⟩) hbb (hcb 1 _ rfl)
      have e2 := later_cell (v := .int .u16 x.2.hi) (B := wr.heap.size) (w0 := wr) (p := ⟨bb, ob + k * 9 + 2, none⟩) hbb (hcb 2 _ rfl)
      have e3 := later_cell (v := .int .u8 x.2.op) (B := wr.heap.size) (w0 := wr) (p := ⟨bb, ob + k * 9 + 3, none⟩) hbb (hcb 3 _ rfl)
      have e4 := later_cell (v := .int .u8 x.2.pr) (B := wr.heap.size) (w0 := wr) (p := ⟨bb, ob + k * 9 + 4, none⟩) hbb (hcb 4 _ rfl)
      have e5 := later_cell (v := .int .u32 x.2.dd) (B := wr.heap.size) (w0 := wr) (p := ⟨bb, ob + k * 9 + 5, none⟩) hbb (hcb 5 _ rfl)
      have e6 := later_cell (v := .int .u32 x.2.dr) (B := wr.heap.size) (w0 := wr) (p := ⟨bb, ob + k * 9 + 6, none⟩) hbb (hcb 6 _ rfl)
      have e7 := later_cell (v := .int .u32 x.2.bd) (B := wr.heap.size) (w0 := wr) (p := ⟨bb, ob + k * 9 + 7, none⟩) hbb (hcb 7 _ rfl)
      have e8 := later_cell (v := mv) (B := wr.heap.size) (w0 := wr) (p := ⟨bb, ob + k * 9 + 8, none⟩) hbb (hcb 8 _ rfl)
      have dq : Hid (∀ u : Later wr.heap.size wr, Calls Try.prog 83 #[.agg #[.int .u32 x.2.ma, .int .u16 x.2.hi, .int .u8 x.2.op, .int .u8 x.2.pr, .int .u32 x.2.dd, .int .u32 x.2.dr, .int .u32 x.2.bd, nv], .agg #[.int .u32 x.2.ma, .int .u16 x.2.hi, .int .u8 x.2.op, .int .u8 x.2.pr, .int .u32 x.2.dd, .int .u32 x.2.dr, .int .u32 x.2.bd, mv]] u.to fun e w' => e = .returned (.bool true) ∧ Below u.to.heap.size u.to w') := Lib.hid (fun u => eqh_any u.to x.2 nv mv (hna.below u.ok) (hnb.below u.ok))
      clear hx hnv hmv hba hbb hca hcb hna hnb
      go_upto_region 6 with fail
      refine wp_region_later (B := wr.heap.size) (w0 := wr) (by kernel_rfl) (by kernel_rfl) (Below.refl _ _) ?_
      repeat (go_big_quiet_step (first
        | (go_at_call 83; with_reducible exact later_call _ (Nat.le_refl _) (dq.out _))))
      refine wpQuiet_nil ?_
      rintro wx ⟨⟨wy, hwy⟩, hw⟩
      obtain rfl : wx = wy := hw
      have HBx := Lib.hid (HB.out.trans (hwy.mono HB.out.size))
      clear hwy
      go_wp2_with fail
      go_roundw
      case rel => exact ⟨k + 1, by omega, by simp, HBx⟩
      case measure => simp [intOf]; omega
    · obtain rfl : k = n := by omega
      go_wp2_with fail
      go_ret
      exact ⟨rfl, HB.out⟩
theorem words_one (ws : List Int) : ∀ u ∈ ws.map (Value.int .u32), u.oneCell' = true := by
  intro u hu
  obtain ⟨x, _, rfl⟩ := List.mem_map.1 hu
  rfl
end Go.Proofs.Ytgbmhijgpdgdbaa
