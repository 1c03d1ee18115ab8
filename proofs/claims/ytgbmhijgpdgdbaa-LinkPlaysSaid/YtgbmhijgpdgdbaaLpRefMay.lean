/- The document's link: what it answers to a Hello that may not be. -/
import Derived.Test.YtgbmhijgpdgdbaaLpRefTick
set_option maxHeartbeats 8000000
set_option maxRecDepth 20000
namespace Go.Proofs.Ytgbmhijgpdgdbaa
open Go.RowKit Go.Shelf
def m9 (c : LC) (s : Pl.St) (f r : Int) : Int := if c.ty = 0 ∧ Pl.findI c f r s.l < 0 ∧ 64 ≤ s.l.length then 47 else 0
def m8 (c : LC) (s : Pl.St) (f r : Int) : Int := if c.peers = true ∧ Pl.findI c f r s.l < 0 then 46 else m9 c s f r
def m7 (c : LC) (s : Pl.St) (f r : Int) : Int := if c.ty = 4 ∧ r ≠ c.rm then 46 else m8 c s f r
def m6 (c : LC) (s : Pl.St) (f r : Int) : Int := if c.ty = 0 ∧ bits .and .u32 f (maskN c.nb.toNat) ≠ c.na then 41 else m7 c s f r
def m5 (c : LC) (s : Pl.St) (f r : Int) : Int := if r = 0 ∨ r = c.ro ∨ f = 0 ∨ f = c.ad then 41 else m6 c s f r
def m4 (c : LC) (s : Pl.St) (f r : Int) (h : Pl.Hel) : Int := if bits .and .u8 (bits .xor .u8 h.op c.op) 10 ≠ 0 then 44 else m5 c s f r
def m3 (c : LC) (s : Pl.St) (f r : Int) (h : Pl.Hel) : Int := if c.ty < 3 ∧ h.ma ≠ maskN c.nb.toNat then 42 else m4 c s f r h
def m2 (c : LC) (s : Pl.St) (f r : Int) (h : Pl.Hel) : Int := if h.hi ≠ c.hi ∨ h.dd ≠ c.dd then 43 else m3 c s f r h
section
variable {lo : Nat} {w : World} {R : Nat} {c : LC} {s : Pl.St} {v : Value} {L : List (Int × Int)}
theorem rm_facts {W : World} {A : Option Addr} {n cp B ty : Nat} {h : Pl.Hel} {nv : Value} {t : Int} (H : RAt lo W R c s (.slice A n cp)) (K : Blk W B ty #[.int .u32 h.ma, .int .u16 h.hi, .int .u8 h.op, .int .u8 h.pr, .int .u32 h.dd, .int .u32 h.dr, .int .u32 h.bd, nv]) (ht : c.ty = t) :
    W.cell? ⟨R, 0, none⟩ = some (.int .u8 t) ∧ W.cell? ⟨R, 1, none⟩ = some (.int .u32 c.ro) ∧ W.cell? ⟨R, 2, none⟩ = some (.int .u32 c.na) ∧ W.cell? ⟨R, 3, none⟩ = some (.int .u8 c.nb) ∧ W.cell? ⟨R, 4, none⟩ = some (.int .u32 c.ad) ∧ W.cell? ⟨R, 5, none⟩ = some (.int .u8 c.op) ∧ W.cell? ⟨R, 6, none⟩ = some (.int .u16 c.hi) ∧ W.cell? ⟨R, 7, none⟩ = some (.int .u32 c.dd) ∧ W.cell? ⟨R, 13, none⟩ = some (.int .u32 c.rm) ∧ W.cell? ⟨R, 14, none⟩ = some (.int .u8 s.st) ∧ W.cell? ⟨R, 21, none⟩ = some (.slice A n cp) ∧ W.cell? ⟨B, 0, none⟩ = some (.int .u32 h.ma) ∧ W.cell? ⟨B, 1, none⟩ = some (.int .u16 h.hi) ∧ W.cell? ⟨B, 2, none⟩ = some (.int .u8 h.op) ∧ W.cell? ⟨B, 4, none⟩ = some (.int .u32 h.dd) ∧ R < W.heap.size ∧ B < W.heap.size :=
  ⟨ht ▸ H.b.cell 0, H.b.cell 1, H.b.cell 2, H.b.cell 3, H.b.cell 4, H.b.cell 5, H.b.cell 6, H.b.cell 7, H.b.cell 13, H.b.cell 14, H.b.cell 21, K.cell 0, K.cell 1, K.cell 2, K.cell 4, H.b.lt, K.lt⟩
theorem rm_cs {W : World} (H : RAt lo W R c s v) :
    W.cell? ⟨R, 0, none⟩ = some (.int .u8 c.ty) ∧ W.cell? ⟨R, 1, none⟩ = some (.int .u32 c.ro) ∧ W.cell? ⟨R, 2, none⟩ = some (.int .u32 c.na) ∧ W.cell? ⟨R, 3, none⟩ = some (.int .u8 c.nb) ∧ W.cell? ⟨R, 4, none⟩ = some (.int .u32 c.ad) ∧ W.cell? ⟨R, 5, none⟩ = some (.int .u8 c.op) ∧ W.cell? ⟨R, 6, none⟩ = some (.int .u16 c.hi) ∧ W.cell? ⟨R, 7, none⟩ = some (.int .u32 c.dd) ∧ W.cell? ⟨R, 8, none⟩ = some (.int .u16 c.po) ∧ W.cell? ⟨R, 9, none⟩ = some (.int .u8 c.pr) ∧ W.cell? ⟨R, 10, none⟩ = some (.bool c.dm) ∧ W.cell? ⟨R, 11, none⟩ = some (.bool c.ps) ∧ W.cell? ⟨R, 12, none⟩ = some (c.pe) ∧ W.cell? ⟨R, 13, none⟩ = some (.int .u32 c.rm) :=
  ⟨H.b.cell 0, H.b.cell 1, H.b.cell 2, H.b.cell 3, H.b.cell 4, H.b.cell 5, H.b.cell 6, H.b.cell 7, H.b.cell 8, H.b.cell 9, H.b.cell 10, H.b.cell 11, H.b.cell 12, H.b.cell 13⟩
theorem rm_step {W N : World} {A : Option Addr} {n cp ty nq : Nat} {h : Pl.Hel} {nv : Value} (e : N = W.drewN nq) (H : Hid (RAt lo W R c s (.slice A n cp))) (K : Hid (Blk W w.heap.size ty #[.int .u32 h.ma, .int .u16 h.hi, .int .u8 h.op, .int .u8 h.pr, .int .u32 h.dd, .int .u32 h.dr, .int .u32 h.bd, nv])) (B : Hid (Below w.heap.size w W)) :
    Hid (RAt lo N R c s (.slice A n cp)) ∧ Hid (Blk N w.heap.size ty #[.int .u32 h.ma, .int .u16 h.hi, .int .u8 h.op, .int .u8 h.pr, .int .u32 h.dd, .int .u32 h.dr, .int .u32 h.bd, nv]) ∧ Hid (Below w.heap.size w N) := by
  rw [e]
  exact ⟨Lib.hid (H.out.below (drewQ W nq)), Lib.hid (K.out.drewN nq), Lib.hid (B.out.trans ((drewQ W nq).mono B.out.size))⟩
theorem rmay_0 (h0 : RAt lo w R c s v) (hnb : 0 ≤ c.nb ∧ c.nb ≤ 32) (hn : s.l.length ≤ 60000) (hty : c.ty = 0) (f r : Int) (h : Pl.Hel) (nv : Value) :
    Calls Try.prog 118 #[.pointer (some ⟨R, 0, none⟩), .int .u32 f, .int .u32 r, .agg #[.int .u32 h.ma, .int .u16 h.hi, .int .u8 h.op, .int .u8 h.pr, .int .u32 h.dd, .int .u32 h.dr, .int .u32 h.bd, nv]] w fun e w' => e = .returned (.int .i64 (Pl.mayE c s f r h)) ∧ Below w.heap.size w w' := by
  obtain ⟨A, cp, rfl⟩ := own_slice h0.o
  obtain ⟨n, hn'⟩ : ∃ n, s.l.length = n := ⟨_, rfl⟩
  have H : Hid (RAt lo w R c s (.slice A n cp)) := Lib.hid (by rw [← hn']; exact h0)
  have Hn := Lib.hid hn'
  have HTy := Lib.hid hty
  have HNb := Lib.hid hnb
  have hn1 : n ≤ 60000 := by rw [← hn']; exact hn
  have hlt := h0.b.lt
  clear h0 hn' hn hty hnb
  go_enter Try.func118, Try.ntmps118
  go_upto_region 1 with fail
  obtain ⟨w1, hw1⟩ : ∃ w1, w1 = w.alloc (.cells #[.int .u32 h.ma, .int .u16 h.hi, .int .u8 h.op, .int .u8 h.pr, .int .u32 h.dd, .int .u32 h.dr, .int .u32 h.bd, nv] 90) := ⟨_, rfl⟩
  have HB : Hid (Below w.heap.size w w1) := Lib.hid (by rw [hw1]; exact (Below.refl _ w).alloc (Nat.le_refl _) _)
  have HR := Lib.hid (H.out.below HB.out)
  have HK : Hid (Blk w1 w.heap.size 90 #[.int .u32 h.ma, .int .u16 h.hi, .int .u8 h.op, .int .u8 h.pr, .int .u32 h.dd, .int .u32 h.dr, .int .u32 h.bd, nv]) := Lib.hid (by rw [hw1]; exact Blk.new w _ _)
  rw [← hw1]
  clear hw1 hlt
  obtain ⟨c0, c1, c2, c3, c4, c5, c6, c7, c13, c14, c21, g0, g1, g2, g4, hRl, hKl⟩ := rm_facts HR.out HK.out HTy.out
  by_cases q1 : s.st ≤ 1
  · have HM : Hid (Pl.mayE c s f r h = 45) := Lib.hid (if_pos q1)
    go_wp2_with fail
    go_ret
    exact ⟨(by rw [HM.out] <;> rfl), HB.out⟩
  have HM : Hid (Pl.mayE c s f r h = m2 c s f r h) := Lib.hid (if_neg q1)
  go_upto_region 3 with fail
  clear q1
  rcases e1 : (h.hi != c.hi) with _ | _
  rotate_left
  · have HM : Hid (Pl.mayE c s f r h = 43) := Lib.hid (HM.out.trans (if_pos (show (h.hi ≠ c.hi ∨ h.dd ≠ c.dd) from (.inl (by simpa using e1)))))
    go_quiet (fail)
    obtain ⟨w2, hnew⟩ : ∃ x, x = w1.drewN nq := ⟨_, rfl⟩
    have hs := rm_step hnew HR HK HB
    rw [← hnew]
    clear c0 c1 c2 c3 c4 c5 c6 c7 c13 c14 c21 g0 g1 g2 g4 hRl hKl hnew HR HK HB
    obtain ⟨HR, HK, HB⟩ := hs
    obtain ⟨c0, c1, c2, c3, c4, c5, c6, c7, c13, c14, c21, g0, g1, g2, g4, hRl, hKl⟩ := rm_facts HR.out HK.out HTy.out
    go_wp2_with fail
    go_ret
    exact ⟨(by rw [HM.out] <;> rfl), HB.out⟩
  rcases e2 : (h.dd != c.dd) with _ | _
  rotate_left
  · have HM : Hid (Pl.mayE c s f r h = 43) := Lib.hid (HM.out.trans (if_pos (show (h.hi ≠ c.hi ∨ h.dd ≠ c.dd) from (.inr (by simpa using e2)))))
    go_quiet (fail)
    obtain ⟨w2, hnew⟩ : ∃ x, x = w1.drewN nq := ⟨_, rfl⟩
    have hs := rm_step hnew HR HK HB
    rw [← hnew]
    clear c0 c1 c2 c3 c4 c5 c6 c7 c13 c14 c21 g0 g1 g2 g4 hRl hKl hnew HR HK HB
    obtain ⟨HR, HK, HB⟩ := hs
    obtain ⟨c0, c1, c2, c3, c4, c5, c6, c7, c13, c14, c21, g0, g1, g2, g4, hRl, hKl⟩ := rm_facts HR.out HK.out HTy.out
    go_wp2_with fail
    go_ret
    exact ⟨(by rw [HM.out] <;> rfl), HB.out⟩
  have HM : Hid (Pl.mayE c s f r h = m3 c s f r h) := Lib.hid (HM.out.trans (if_neg (show ¬ (h.hi ≠ c.hi ∨ h.dd ≠ c.dd) from (by simp only [bne_eq_false_iff_eq] at e1 e2; rintro (e | e); exact e e1; exact e e2))))
  go_quiet (fail)
  obtain ⟨w2, hnew⟩ : ∃ x, x = w1.drewN nq := ⟨_, rfl⟩
  have hs := rm_step hnew HR HK HB
  rw [← hnew]
  clear c0 c1 c2 c3 c4 c5 c6 c7 c13 c14 c21 g0 g1 g2 g4 hRl hKl hnew HR HK HB
  obtain ⟨HR, HK, HB⟩ := hs
  obtain ⟨c0, c1, c2, c3, c4, c5, c6, c7, c13, c14, c21, g0, g1, g2, g4, hRl, hKl⟩ := rm_facts HR.out HK.out HTy.out
  clear e1 e2
  go_upto_region 5 with fail
  have HMk : Hid (∀ q, Calls Try.prog 34 #[.int .u8 c.nb] (w2.drewN q) fun e w' => e = .returned (.int .u32 (maskN c.nb.toNat)) ∧ w' = w2.drewN q) := Lib.hid (fun q => (rmask_any _ c.nb HNb.out.1 HNb.out.2).mono fun e w' h => ⟨h.1, h.2.symm⟩)
  rcases e1 : (h.ma != maskN c.nb.toNat) with _ | _
  rotate_left
  · have HM : Hid (Pl.mayE c s f r h = 42) := Lib.hid (HM.out.trans (if_pos (show (c.ty < 3 ∧ h.ma ≠ maskN c.nb.toNat) from ⟨by rw [HTy.out]; omega, by simpa using e1⟩)))
    go_quiet ((go_at_call 34; with_reducible exact Calls.quiet_of_same (HMk.out _)))
    obtain ⟨w3, hnew⟩ : ∃ x, x = w2.drewN nq := ⟨_, rfl⟩
    have hs := rm_step hnew HR HK HB
    rw [← hnew]
    clear c0 c1 c2 c3 c4 c5 c6 c7 c13 c14 c21 g0 g1 g2 g4 hRl hKl hnew HR HK HB
    obtain ⟨HR, HK, HB⟩ := hs
    obtain ⟨c0, c1, c2, c3, c4, c5, c6, c7, c13, c14, c21, g0, g1, g2, g4, hRl, hKl⟩ := rm_facts HR.out HK.out HTy.out
    go_wp2_with fail
    go_ret
    exact ⟨(by rw [HM.out] <;> rfl), HB.out⟩
  have HM : Hid (Pl.mayE c s f r h = m4 c s f r h) := Lib.hid (HM.out.trans (if_neg (show ¬ (c.ty < 3 ∧ h.ma ≠ maskN c.nb.toNat) from (by rintro ⟨_, e⟩; exact e (by simpa using e1)))))
  go_quiet ((go_at_call 34; with_reducible exact Calls.quiet_of_same (HMk.out _)))
  obtain ⟨w3, hnew⟩ : ∃ x, x = w2.drewN nq := ⟨_, rfl⟩
  have hs := rm_step hnew HR HK HB
  rw [← hnew]
  clear c0 c1 c2 c3 c4 c5 c6 c7 c13 c14 c21 g0 g1 g2 g4 hRl hKl hnew HR HK HB
  obtain ⟨HR, HK, HB⟩ := hs
  obtain ⟨c0, c1, c2, c3, c4, c5, c6, c7, c13, c14, c21, g0, g1, g2, g4, hRl, hKl⟩ := rm_facts HR.out HK.out HTy.out
  clear e1
  go_upto_region 7 with fail
  rcases e1 : (bits .and .u8 (bits .xor .u8 h.op c.op) 10 != 0) with _ | _
  rotate_left
  · have HM : Hid (Pl.mayE c s f r h = 44) := Lib.hid (HM.out.trans (if_pos (show (bits .and .u8 (bits .xor .u8 h.op c.op) 10 ≠ 0) from (by simpa using e1))))
    go_quiet (fail)
    obtain ⟨w4, hnew⟩ : ∃ x, x = w3.drewN nq := ⟨_, rfl⟩
    have hs := rm_step hnew HR HK HB
    rw [← hnew]
    clear c0 c1 c2 c3 c4 c5 c6 c7 c13 c14 c21 g0 g1 g2 g4 hRl hKl hnew HR HK HB
    obtain ⟨HR, HK, HB⟩ := hs
    obtain ⟨c0, c1, c2, c3, c4, c5, c6, c7, c13, c14, c21, g0, g1, g2, g4, hRl, hKl⟩ := rm_facts HR.out HK.out HTy.out
    go_wp2_with fail
    go_ret
    exact ⟨(by rw [HM.out] <;> rfl), HB.out⟩
  have HM : Hid (Pl.mayE c s f r h = m5 c s f r) := Lib.hid (HM.out.trans (if_neg (show ¬ bits .and .u8 (bits .xor .u8 h.op c.op) 10 ≠ 0 from (by simpa using e1))))
  go_quiet (fail)
  obtain ⟨w4, hnew⟩ : ∃ x, x = w3.drewN nq := ⟨_, rfl⟩
  have hs := rm_step hnew HR HK HB
  rw [← hnew]
  clear c0 c1 c2 c3 c4 c5 c6 c7 c13 c14 c21 g0 g1 g2 g4 hRl hKl hnew HR HK HB
  obtain ⟨HR, HK, HB⟩ := hs
  obtain ⟨c0, c1, c2, c3, c4, c5, c6, c7, c13, c14, c21, g0, g1, g2, g4, hRl, hKl⟩ := rm_facts HR.out HK.out HTy.out
  clear e1
  go_upto_region 9 with fail
  rcases e1 : (r == 0) with _ | _
  rotate_left
  · have HM : Hid (Pl.mayE c s f r h = 41) := Lib.hid (HM.out.trans (if_pos (show (r = 0 ∨ r = c.ro ∨ f = 0 ∨ f = c.ad) from (.inl (by simpa using e1)))))
    go_wp2_with fail
    go_ret
    exact ⟨(by rw [HM.out] <;> rfl), HB.out⟩
  rcases e2 : (r == c.ro) with _ | _
  rotate_left
  · have HM : Hid (Pl.mayE c s f r h = 41) := Lib.hid (HM.out.trans (if_pos (show (r = 0 ∨ r = c.ro ∨ f = 0 ∨ f = c.ad) from (.inr (.inl (by simpa using e2))))))
    go_wp2_with fail
    go_ret
    exact ⟨(by rw [HM.out] <;> rfl), HB.out⟩
  rcases e3 : (f == 0) with _ | _
  rotate_left
  · have HM : Hid (Pl.mayE c s f r h = 41) := Lib.hid (HM.out.trans (if_pos (show (r = 0 ∨ r = c.ro ∨ f = 0 ∨ f = c.ad) from (.inr (.inr (.inl (by simpa using e3)))))))
    go_wp2_with fail
    go_ret
    exact ⟨(by rw [HM.out] <;> rfl), HB.out⟩
  rcases e4 : (f == c.ad) with _ | _
  rotate_left
  · have HM : Hid (Pl.mayE c s f r h = 41) := Lib.hid (HM.out.trans (if_pos (show (r = 0 ∨ r = c.ro ∨ f = 0 ∨ f = c.ad) from (.inr (.inr (.inr (by simpa using e4)))))))
    go_wp2_with fail
    go_ret
    exact ⟨(by rw [HM.out] <;> rfl), HB.out⟩
  have HM : Hid (Pl.mayE c s f r h = m6 c s f r) := Lib.hid (HM.out.trans (if_neg (show ¬ (r = 0 ∨ r = c.ro ∨ f = 0 ∨ f = c.ad) from (by simp only [beq_eq_false_iff_ne] at e1 e2 e3 e4; rintro (e | e | e | e); exact e1 e; exact e2 e; exact e3 e; exact e4 e))))
  go_upto_region 11 with fail
  clear e1 e2 e3 e4
  have HMk : Hid (∀ q, Calls Try.prog 34 #[.int .u8 c.nb] (w4.drewN q) fun e w' => e = .returned (.int .u32 (maskN c.nb.toNat)) ∧ w' = w4.drewN q) := Lib.hid (fun q => (rmask_any _ c.nb HNb.out.1 HNb.out.2).mono fun e w' h => ⟨h.1, h.2.symm⟩)
  rcases e1 : (bits .and .u32 f (maskN c.nb.toNat) != c.na) with _ | _
  rotate_left
  · have HM : Hid (Pl.mayE c s f r h = 41) := Lib.hid (HM.out.trans (if_pos (show (c.ty = 0 ∧ bits .and .u32 f (maskN c.nb.toNat) ≠ c.na) from ⟨HTy.out, by simpa using e1⟩)))
    go_quiet ((go_at_call 34; with_reducible exact Calls.quiet_of_same (HMk.out _)))
    obtain ⟨w5, hnew⟩ : ∃ x, x = w4.drewN nq := ⟨_, rfl⟩
    have hs := rm_step hnew HR HK HB
    rw [← hnew]
    clear c0 c1 c2 c3 c4 c5 c6 c7 c13 c14 c21 g0 g1 g2 g4 hRl hKl hnew HR HK HB
    obtain ⟨HR, HK, HB⟩ := hs
    obtain ⟨c0, c1, c2, c3, c4, c5, c6, c7, c13, c14, c21, g0, g1, g2, g4, hRl, hKl⟩ := rm_facts HR.out HK.out HTy.out
    go_wp2_with fail
    go_ret
    exact ⟨(by rw [HM.out] <;> rfl), HB.out⟩
  have HM : Hid (Pl.mayE c s f r h = m7 c s f r) := Lib.hid (HM.out.trans (if_neg (show ¬ (c.ty = 0 ∧ bits .and .u32 f (maskN c.nb.toNat) ≠ c.na) from (by rintro ⟨_, e⟩; exact e (by simpa using e1)))))
  go_quiet ((go_at_call 34; with_reducible exact Calls.quiet_of_same (HMk.out _)))
  obtain ⟨w5, hnew⟩ : ∃ x, x = w4.drewN nq := ⟨_, rfl⟩
  have hs := rm_step hnew HR HK HB
  rw [← hnew]
  clear c0 c1 c2 c3 c4 c5 c6 c7 c13 c14 c21 g0 g1 g2 g4 hRl hKl hnew HR HK HB
  obtain ⟨HR, HK, HB⟩ := hs
  obtain ⟨c0, c1, c2, c3, c4, c5, c6, c7, c13, c14, c21, g0, g1, g2, g4, hRl, hKl⟩ := rm_facts HR.out HK.out HTy.out
  clear e1
  go_upto_region 13 with fail
  have HM : Hid (Pl.mayE c s f r h = m8 c s f r) := Lib.hid (HM.out.trans (if_neg (show ¬ (c.ty = 4 ∧ r ≠ c.rm) from (by rintro ⟨e, _⟩; rw [HTy.out] at e; omega))))
  have HFi : Hid (Calls Try.prog 119 #[.pointer (some ⟨R, 0, none⟩), .int .u32 f, .int .u32 r] w5 fun e w' => e = .returned (.int .i64 (Pl.findI c f r s.l)) ∧ Below w5.heap.size w5 w') := Lib.hid (rfind_any HR.out (by rw [HTy.out]; omega) (by rw [Hn.out]; omega) f r)
  go_wp2_with fail
  refine HFi.out.mono ?_
  rintro e w6 ⟨rfl, hb6⟩
  have HR6 := Lib.hid (HR.out.below hb6)
  have HB6 := Lib.hid (HB.out.trans (hb6.mono HB.out.size))
  clear c0 c1 c2 c3 c4 c5 c6 c7 c13 c14 c21 g0 g1 g2 g4 hRl hKl hb6
  have HPe : Hid (Calls Try.prog 62 #[.agg #[.int .u8 c.ty, .int .u32 c.ro, .int .u32 c.na, .int .u8 c.nb, .int .u32 c.ad, .int .u8 c.op, .int .u16 c.hi, .int .u32 c.dd, .int .u16 c.po, .int .u8 c.pr, .bool c.dm, .bool c.ps, c.pe, .int .u32 c.rm]] w6 fun e w' => e = .returned (.bool false) ∧ Below w6.heap.size w6 w') := Lib.hid (by have h := rpeers_any c w6; rw [show c.peers = false from by unfold LC.peers; rw [HTy.out]; rfl] at h; exact h)
  have HPb : Hid (c.peers = false) := Lib.hid (by unfold LC.peers; rw [HTy.out]; rfl)
  obtain ⟨c0, c1, c2, c3, c4, c5, c6, c7, c8, c9, c10, c11, c12, c13⟩ := rm_cs HR6.out
  have hR6l := HR6.out.b.lt
  obtain ⟨fi, hfi⟩ : ∃ x, Pl.findI c f r s.l = x := ⟨_, rfl⟩
  have HFi2 := Lib.hid hfi
  rw [hfi]
  clear hfi
  go_wp2_with fail
  refine HPe.out.mono ?_
  rintro e w7 ⟨rfl, hb7⟩
  have HR7 := Lib.hid (HR6.out.below hb7)
  have HB := Lib.hid (HB6.out.trans (hb7.mono HB6.out.size))
  clear c0 c1 c2 c3 c4 c5 c6 c7 c8 c9 c10 c11 c12 c13 hR6l hb7
  have c0 : w7.cell? ⟨R, 0, none⟩ = some (.int .u8 0) := by rw [← HTy.out]; exact HR7.out.b.cell 0
  have c21 : w7.cell? ⟨R, 21, none⟩ = some (.slice A n cp) := HR7.out.b.cell 21
  have hRl := HR7.out.b.lt
  have HM : Hid (Pl.mayE c s f r h = m9 c s f r) := Lib.hid (HM.out.trans (if_neg (show ¬ (c.peers = true ∧ Pl.findI c f r s.l < 0) from (by rintro ⟨e, _⟩; rw [HPb.out] at e; cases e))))
  by_cases e1 : fi < 0
  · by_cases e2 : 64 ≤ n
    · have HM : Hid (Pl.mayE c s f r h = 47) := Lib.hid (HM.out.trans (if_pos (show (c.ty = 0 ∧ Pl.findI c f r s.l < 0 ∧ 64 ≤ s.l.length) from ⟨HTy.out, by rw [HFi2.out]; exact e1, by rw [Hn.out]; exact e2⟩)))
      have e3 : decide ((64 : Int) ≤ (n : Int)) = true := decide_eq_true (by omega)
      go_wp2_with fail
      go_ret
      exact ⟨(by rw [HM.out] <;> rfl), HB.out⟩
    · have HM : Hid (Pl.mayE c s f r h = 0) := Lib.hid (HM.out.trans (if_neg (show ¬ (c.ty = 0 ∧ Pl.findI c f r s.l < 0 ∧ 64 ≤ s.l.length) from (by rintro ⟨_, _, e⟩; rw [Hn.out] at e; exact e2 e))))
      have e3 : decide ((64 : Int) ≤ (n : Int)) = false := decide_eq_false (by omega)
      go_wp2_with fail
      go_ret
      exact ⟨(by rw [HM.out] <;> rfl), HB.out⟩
  · have HM : Hid (Pl.mayE c s f r h = 0) := Lib.hid (HM.out.trans (if_neg (show ¬ (c.ty = 0 ∧ Pl.findI c f r s.l < 0 ∧ 64 ≤ s.l.length) from (by rintro ⟨_, e, _⟩; rw [HFi2.out] at e; exact e1 e))))
    go_wp2_with fail
    go_ret
    exact ⟨(by rw [HM.out] <;> rfl), HB.out⟩
theorem rmay_1 (h0 : RAt lo w R c s v) (hnb : 0 ≤ c.nb ∧ c.nb ≤ 32) (hn : s.l.length ≤ 60000) (hty : c.ty = 1) (f r : Int) (h : Pl.Hel) (nv : Value) :
    Calls Try.prog 118 #[.pointer (some ⟨R, 0, none⟩), .int .u32 f, .int .u32 r, .agg #[.int .u32 h.ma, .int .u16 h.hi, .int .u8 h.op, .int .u8 h.pr, .int .u32 h.dd, .int .u32 h.dr, .int .u32 h.bd, nv]] w fun e w' => e = .returned (.int .i64 (Pl.mayE c s f r h)) ∧ Below w.heap.size w w' := by
  obtain ⟨A, cp, rfl⟩ := own_slice h0.o
  obtain ⟨n, hn'⟩ : ∃ n, s.l.length = n := ⟨_, rfl⟩
  have H : Hid (RAt lo w R c s (.slice A n cp)) := Lib.hid (by rw [← hn']; exact h0)
  have Hn := Lib.hid hn'
  have HTy := Lib.hid hty
  have HNb := Lib.hid hnb
  have hn1 : n ≤ 60000 := by rw [← hn']; exact hn
  have hlt := h0.b.lt
  clear h0 hn' hn hty hnb
  go_enter Try.func118, Try.ntmps118
  go_upto_region 1 with fail
  obtain ⟨w1, hw1⟩ : ∃ w1, w1 = w.alloc (.cells #[.int .u32 h.ma, .int .u16 h.hi, .int .u8 h.op, .int .u8 h.pr, .int .u32 h.dd, .int .u32 h.dr, .int .u32 h.bd, nv] 90) := ⟨_, rfl⟩
  have HB : Hid (Below w.heap.size w w1) := Lib.hid (by rw [hw1]; exact (Below.refl _ w).alloc (Nat.le_refl _) _)
  have HR := Lib.hid (H.out.below HB.out)
  have HK : Hid (Blk w1 w.heap.size 90 #[.int .u32 h.ma, .int .u16 h.hi, .int .u8 h.op, .int .u8 h.pr, .int .u32 h.dd, .int .u32 h.dr, .int .u32 h.bd, nv]) := Lib.hid (by rw [hw1]; exact Blk.new w _ _)
  rw [← hw1]
  clear hw1 hlt
  obtain ⟨c0, c1, c2, c3, c4, c5, c6, c7, c13, c14, c21, g0, g1, g2, g4, hRl, hKl⟩ := rm_facts HR.out HK.out HTy.out
  by_cases q1 : s.st ≤ 1
  · have HM : Hid (Pl.mayE c s f r h = 45) := Lib.hid (if_pos q1)
    go_wp2_with fail
    go_ret
    exact ⟨(by rw [HM.out] <;> rfl), HB.out⟩
  have HM : Hid (Pl.mayE c s f r h = m2 c s f r h) := Lib.hid (if_neg q1)
  go_upto_region 3 with fail
  clear q1
  rcases e1 : (h.hi != c.hi) with _ | _
  rotate_left
  · have HM : Hid (Pl.mayE c s f r h = 43) := Lib.hid (HM.out.trans (if_pos (show (h.hi ≠ c.hi ∨ h.dd ≠ c.dd) from (.inl (by simpa using e1)))))
    go_quiet (fail)
    obtain ⟨w2, hnew⟩ : ∃ x, x = w1.drewN nq := ⟨_, rfl⟩
    have hs := rm_step hnew HR HK HB
    rw [← hnew]
    clear c0 c1 c2 c3 c4 c5 c6 c7 c13 c14 c21 g0 g1 g2 g4 hRl hKl hnew HR HK HB
    obtain ⟨HR, HK, HB⟩ := hs
    obtain ⟨c0, c1, c2, c3, c4, c5, c6, c7, c13, c14, c21, g0, g1, g2, g4, hRl, hKl⟩ := rm_facts HR.out HK.out HTy.out
    go_wp2_with fail
    go_ret
    exact ⟨(by rw [HM.out] <;> rfl), HB.out⟩
  rcases e2 : (h.dd != c.dd) with _ | _
  rotate_left
  · have HM : Hid (Pl.mayE c s f r h = 43) := Lib.hid (HM.out.trans (if_pos (show (h.hi ≠ c.hi ∨ h.dd ≠ c.dd) from (.inr (by simpa using e2)))))
    go_quiet (fail)
    obtain ⟨w2, hnew⟩ : ∃ x, x = w1.drewN nq := ⟨_, rfl⟩
    have hs := rm_step hnew HR HK HB
    rw [← hnew]
    clear c0 c1 c2 c3 c4 c5 c6 c7 c13 c14 c21 g0 g1 g2 g4 hRl hKl hnew HR HK HB
    obtain ⟨HR, HK, HB⟩ := hs
    obtain ⟨c0, c1, c2, c3, c4, c5, c6, c7, c13, c14, c21, g0, g1, g2, g4, hRl, hKl⟩ := rm_facts HR.out HK.out HTy.out
    go_wp2_with fail
    go_ret
    exact ⟨(by rw [HM.out] <;> rfl), HB.out⟩
  have HM : Hid (Pl.mayE c s f r h = m3 c s f r h) := Lib.hid (HM.out.trans (if_neg (show ¬ (h.hi ≠ c.hi ∨ h.dd ≠ c.dd) from (by simp only [bne_eq_false_iff_eq] at e1 e2; rintro (e | e); exact e e1; exact e e2))))
  go_quiet (fail)
  obtain ⟨w2, hnew⟩ : ∃ x, x = w1.drewN nq := ⟨_, rfl⟩
  have hs := rm_step hnew HR HK HB
  rw [← hnew]
  clear c0 c1 c2 c3 c4 c5 c6 c7 c13 c14 c21 g0 g1 g2 g4 hRl hKl hnew HR HK HB
  obtain ⟨HR, HK, HB⟩ := hs
  obtain ⟨c0, c1, c2, c3, c4, c5, c6, c7, c13, c14, c21, g0, g1, g2, g4, hRl, hKl⟩ := rm_facts HR.out HK.out HTy.out
  clear e1 e2
  go_upto_region 5 with fail
  have HMk : Hid (∀ q, Calls Try.prog 34 #[.int .u8 c.nb] (w2.drewN q) fun e w' => e = .returned (.int .u32 (maskN c.nb.toNat)) ∧ w' = w2.drewN q) := Lib.hid (fun q => (rmask_any _ c.nb HNb.out.1 HNb.out.2).mono fun e w' h => ⟨h.1, h.2.symm⟩)
  rcases e1 : (h.ma != maskN c.nb.toNat) with _ | _
  rotate_left
  · have HM : Hid (Pl.mayE c s f r h = 42) := Lib.hid (HM.out.trans (if_pos (show (c.ty < 3 ∧ h.ma ≠ maskN c.nb.toNat) from ⟨by rw [HTy.out]; omega, by simpa using e1⟩)))
    go_quiet ((go_at_call 34; with_reducible exact Calls.quiet_of_same (HMk.out _)))
    obtain ⟨w3, hnew⟩ : ∃ x, x = w2.drewN nq := ⟨_, rfl⟩
    have hs := rm_step hnew HR HK HB
    rw [← hnew]
    clear c0 c1 c2 c3 c4 c5 c6 c7 c13 c14 c21 g0 g1 g2 g4 hRl hKl hnew HR HK HB
    obtain ⟨HR, HK, HB⟩ := hs
    obtain ⟨c0, c1, c2, c3, c4, c5, c6, c7, c13, c14, c21, g0, g1, g2, g4, hRl, hKl⟩ := rm_facts HR.out HK.out HTy.out
    go_wp2_with fail
    go_ret
    exact ⟨(by rw [HM.out] <;> rfl), HB.out⟩
  have HM : Hid (Pl.mayE c s f r h = m4 c s f r h) := Lib.hid (HM.out.trans (if_neg (show ¬ (c.ty < 3 ∧ h.ma ≠ maskN c.nb.toNat) from (by rintro ⟨_, e⟩; exact e (by simpa using e1)))))
  go_quiet ((go_at_call 34; with_reducible exact Calls.quiet_of_same (HMk.out _)))
  obtain ⟨w3, hnew⟩ : ∃ x, x = w2.drewN nq := ⟨_, rfl⟩
  have hs := rm_step hnew HR HK HB
  rw [← hnew]
  clear c0 c1 c2 c3 c4 c5 c6 c7 c13 c14 c21 g0 g1 g2 g4 hRl hKl hnew HR HK HB
  obtain ⟨HR, HK, HB⟩ := hs
  obtain ⟨c0, c1, c2, c3, c4, c5, c6, c7, c13, c14, c21, g0, g1, g2, g4, hRl, hKl⟩ := rm_facts HR.out HK.out HTy.out
  clear e1
  go_upto_region 7 with fail
  rcases e1 : (bits .and .u8 (bits .xor .u8 h.op c.op) 10 != 0) with _ | _
  rotate_left
  · have HM : Hid (Pl.mayE c s f r h = 44) := Lib.hid (HM.out.trans (if_pos (show (bits .and .u8 (bits .xor .u8 h.op c.op) 10 ≠ 0) from (by simpa using e1))))
    go_quiet (fail)
    obtain ⟨w4, hnew⟩ : ∃ x, x = w3.drewN nq := ⟨_, rfl⟩
    have hs := rm_step hnew HR HK HB
    rw [← hnew]
    clear c0 c1 c2 c3 c4 c5 c6 c7 c13 c14 c21 g0 g1 g2 g4 hRl hKl hnew HR HK HB
    obtain ⟨HR, HK, HB⟩ := hs
    obtain ⟨c0, c1, c2, c3, c4, c5, c6, c7, c13, c14, c21, g0, g1, g2, g4, hRl, hKl⟩ := rm_facts HR.out HK.out HTy.out
    go_wp2_with fail
    go_ret
    exact ⟨(by rw [HM.out] <;> rfl), HB.out⟩
  have HM : Hid (Pl.mayE c s f r h = m5 c s f r) := Lib.hid (HM.out.trans (if_neg (show ¬ bits .and .u8 (bits .xor .u8 h.op c.op) 10 ≠ 0 from (by simpa using e1))))
  go_quiet (fail)
  obtain ⟨w4, hnew⟩ : ∃ x, x = w3.drewN nq := ⟨_, rfl⟩
  have hs := rm_step hnew HR HK HB
  rw [← hnew]
  clear c0 c1 c2 c3 c4 c5 c6 c7 c13 c14 c21 g0 g1 g2 g4 hRl hKl hnew HR HK HB
  obtain ⟨HR, HK, HB⟩ := hs
  obtain ⟨c0, c1, c2, c3, c4, c5, c6, c7, c13, c14, c21, g0, g1, g2, g4, hRl, hKl⟩ := rm_facts HR.out HK.out HTy.out
  clear e1
  go_upto_region 9 with fail
  rcases e1 : (r == 0) with _ | _
  rotate_left
  · have HM : Hid (Pl.mayE c s f r h = 41) := Lib.hid (HM.out.trans (if_pos (show (r = 0 ∨ r = c.ro ∨ f = 0 ∨ f = c.ad) from (.inl (by simpa using e1)))))
    go_wp2_with fail
    go_ret
    exact ⟨(by rw [HM.out] <;> rfl), HB.out⟩
  rcases e2 : (r == c.ro) with _ | _
  rotate_left
  · have HM : Hid (Pl.mayE c s f r h = 41) := Lib.hid (HM.out.trans (if_pos (show (r = 0 ∨ r = c.ro ∨ f = 0 ∨ f = c.ad) from (.inr (.inl (by simpa using e2))))))
    go_wp2_with fail
    go_ret
    exact ⟨(by rw [HM.out] <;> rfl), HB.out⟩
  rcases e3 : (f == 0) with _ | _
  rotate_left
  · have HM : Hid (Pl.mayE c s f r h = 41) := Lib.hid (HM.out.trans (if_pos (show (r = 0 ∨ r = c.ro ∨ f = 0 ∨ f = c.ad) from (.inr (.inr (.inl (by simpa using e3)))))))
    go_wp2_with fail
    go_ret
    exact ⟨(by rw [HM.out] <;> rfl), HB.out⟩
  rcases e4 : (f == c.ad) with _ | _
  rotate_left
  · have HM : Hid (Pl.mayE c s f r h = 41) := Lib.hid (HM.out.trans (if_pos (show (r = 0 ∨ r = c.ro ∨ f = 0 ∨ f = c.ad) from (.inr (.inr (.inr (by simpa using e4)))))))
    go_wp2_with fail
    go_ret
    exact ⟨(by rw [HM.out] <;> rfl), HB.out⟩
  have HM : Hid (Pl.mayE c s f r h = m6 c s f r) := Lib.hid (HM.out.trans (if_neg (show ¬ (r = 0 ∨ r = c.ro ∨ f = 0 ∨ f = c.ad) from (by simp only [beq_eq_false_iff_ne] at e1 e2 e3 e4; rintro (e | e | e | e); exact e1 e; exact e2 e; exact e3 e; exact e4 e))))
  go_upto_region 11 with fail
  clear e1 e2 e3 e4
  have HM : Hid (Pl.mayE c s f r h = m7 c s f r) := Lib.hid (HM.out.trans (if_neg (show ¬ (c.ty = 0 ∧ bits .and .u32 f (maskN c.nb.toNat) ≠ c.na) from (by rintro ⟨e, _⟩; rw [HTy.out] at e; omega))))
  go_quiet (fail)
  obtain ⟨w5, hnew⟩ : ∃ x, x = w4.drewN nq := ⟨_, rfl⟩
  have hs := rm_step hnew HR HK HB
  rw [← hnew]
  clear c0 c1 c2 c3 c4 c5 c6 c7 c13 c14 c21 g0 g1 g2 g4 hRl hKl hnew HR HK HB
  obtain ⟨HR, HK, HB⟩ := hs
  obtain ⟨c0, c1, c2, c3, c4, c5, c6, c7, c13, c14, c21, g0, g1, g2, g4, hRl, hKl⟩ := rm_facts HR.out HK.out HTy.out
  go_upto_region 13 with fail
  have HM : Hid (Pl.mayE c s f r h = m8 c s f r) := Lib.hid (HM.out.trans (if_neg (show ¬ (c.ty = 4 ∧ r ≠ c.rm) from (by rintro ⟨e, _⟩; rw [HTy.out] at e; omega))))
  have HFi : Hid (Calls Try.prog 119 #[.pointer (some ⟨R, 0, none⟩), .int .u32 f, .int .u32 r] w5 fun e w' => e = .returned (.int .i64 (Pl.findI c f r s.l)) ∧ Below w5.heap.size w5 w') := Lib.hid (rfind_any HR.out (by rw [HTy.out]; omega) (by rw [Hn.out]; omega) f r)
  go_wp2_with fail
  refine HFi.out.mono ?_
  rintro e w6 ⟨rfl, hb6⟩
  have HR6 := Lib.hid (HR.out.below hb6)
  have HB6 := Lib.hid (HB.out.trans (hb6.mono HB.out.size))
  clear c0 c1 c2 c3 c4 c5 c6 c7 c13 c14 c21 g0 g1 g2 g4 hRl hKl hb6
  have HPe : Hid (Calls Try.prog 62 #[.agg #[.int .u8 c.ty, .int .u32 c.ro, .int .u32 c.na, .int .u8 c.nb, .int .u32 c.ad, .int .u8 c.op, .int .u16 c.hi, .int .u32 c.dd, .int .u16 c.po, .int .u8 c.pr, .bool c.dm, .bool c.ps, c.pe, .int .u32 c.rm]] w6 fun e w' => e = .returned (.bool true) ∧ Below w6.heap.size w6 w') := Lib.hid (by have h := rpeers_any c w6; rw [show c.peers = true from by unfold LC.peers; rw [HTy.out]; rfl] at h; exact h)
  have HPb : Hid (c.peers = true) := Lib.hid (by unfold LC.peers; rw [HTy.out]; rfl)
  obtain ⟨c0, c1, c2, c3, c4, c5, c6, c7, c8, c9, c10, c11, c12, c13⟩ := rm_cs HR6.out
  have hR6l := HR6.out.b.lt
  obtain ⟨fi, hfi⟩ : ∃ x, Pl.findI c f r s.l = x := ⟨_, rfl⟩
  have HFi2 := Lib.hid hfi
  rw [hfi]
  clear hfi
  go_wp2_with fail
  refine HPe.out.mono ?_
  rintro e w7 ⟨rfl, hb7⟩
  have HR7 := Lib.hid (HR6.out.below hb7)
  have HB := Lib.hid (HB6.out.trans (hb7.mono HB6.out.size))
  clear c0 c1 c2 c3 c4 c5 c6 c7 c8 c9 c10 c11 c12 c13 hR6l hb7
  have c0 : w7.cell? ⟨R, 0, none⟩ = some (.int .u8 1) := by rw [← HTy.out]; exact HR7.out.b.cell 0
  have c21 : w7.cell? ⟨R, 21, none⟩ = some (.slice A n cp) := HR7.out.b.cell 21
  have hRl := HR7.out.b.lt
  by_cases e1 : fi < 0
  · have HM : Hid (Pl.mayE c s f r h = 46) := Lib.hid (HM.out.trans (if_pos (show (c.peers = true ∧ Pl.findI c f r s.l < 0) from ⟨HPb.out, by rw [HFi2.out]; exact e1⟩)))
    go_wp2_with fail
    go_ret
    exact ⟨(by rw [HM.out] <;> rfl), HB.out⟩
  have HM : Hid (Pl.mayE c s f r h = m9 c s f r) := Lib.hid (HM.out.trans (if_neg (show ¬ (c.peers = true ∧ Pl.findI c f r s.l < 0) from (by rintro ⟨_, e⟩; rw [HFi2.out] at e; exact e1 e))))
  have HM : Hid (Pl.mayE c s f r h = 0) := Lib.hid (HM.out.trans (if_neg (show ¬ (c.ty = 0 ∧ Pl.findI c f r s.l < 0 ∧ 64 ≤ s.l.length) from (by rintro ⟨e, _⟩; rw [HTy.out] at e; omega))))
  go_wp2_with fail
  go_ret
  exact ⟨(by rw [HM.out] <;> rfl), HB.out⟩
theorem rmay_2 (h0 : RAt lo w R c s v) (hnb : 0 ≤ c.nb ∧ c.nb ≤ 32) (hn : s.l.length ≤ 60000) (hty : c.ty = 2) (f r : Int) (h : Pl.Hel) (nv : Value) :
    Calls Try.prog 118 #[.pointer (some ⟨R, 0, none⟩), .int .u32 f, .int .u32 r, .agg #[.int .u32 h.ma, .int .u16 h.hi, .int .u8 h.op, .int .u8 h.pr, .int .u32 h.dd, .int .u32 h.dr, .int .u32 h.bd, nv]] w fun e w' => e = .returned (.int .i64 (Pl.mayE c s f r h)) ∧ Below w.heap.size w w' := by
  obtain ⟨A, cp, rfl⟩ := own_slice h0.o
  obtain ⟨n, hn'⟩ : ∃ n, s.l.length = n := ⟨_, rfl⟩
  have H : Hid (RAt lo w R c s (.slice A n cp)) := Lib.hid (by rw [← hn']; exact h0)
  have Hn := Lib.hid hn'
  have HTy := Lib.hid hty
  have HNb := Lib.hid hnb
  have hn1 : n ≤ 60000 := by rw [← hn']; exact hn
  have hlt := h0.b.lt
  clear h0 hn' hn hty hnb
  go_enter Try.func118, Try.ntmps118
  go_upto_region 1 with fail
  obtain ⟨w1, hw1⟩ : ∃ w1, w1 = w.alloc (.cells #[.int .u32 h.ma, .int .u16 h.hi, .int .u8 h.op, .int .u8 h.pr, .int .u32 h.dd, .int .u32 h.dr, .int .u32 h.bd, nv] 90) := ⟨_, rfl⟩
  have HB : Hid (Below w.heap.size w w1) := Lib.hid (by rw [hw1]; exact (Below.refl _ w).alloc (Nat.le_refl _) _)
  have HR := Lib.hid (H.out.below HB.out)
  have HK : Hid (Blk w1 w.heap.size 90 #[.int .u32 h.ma, .int .u16 h.hi, .int .u8 h.op, .int .u8 h.pr, .int .u32 h.dd, .int .u32 h.dr, .int .u32 h.bd, nv]) := Lib.hid (by rw [hw1]; exact Blk.new w _ _)
  rw [← hw1]
  clear hw1 hlt
  obtain ⟨c0, c1, c2, c3, c4, c5, c6, c7, c13, c14, c21, g0, g1, g2, g4, hRl, hKl⟩ := rm_facts HR.out HK.out HTy.out
  by_cases q1 : s.st ≤ 1
  · have HM : Hid (Pl.mayE c s f r h = 45) := Lib.hid (if_pos q1)
    go_wp2_with fail
    go_ret
    exact ⟨(by rw [HM.out] <;> rfl), HB.out⟩
  have HM : Hid (Pl.mayE c s f r h = m2 c s f r h) := Lib.hid (if_neg q1)
  go_upto_region 3 with fail
  clear q1
  rcases e1 : (h.hi != c.hi) with _ | _
  rotate_left
  · have HM : Hid (Pl.mayE c s f r h = 43) := Lib.hid (HM.out.trans (if_pos (show (h.hi ≠ c.hi ∨ h.dd ≠ c.dd) from (.inl (by simpa using e1)))))
    go_quiet (fail)
    obtain ⟨w2, hnew⟩ : ∃ x, x = w1.drewN nq := ⟨_, rfl⟩
    have hs := rm_step hnew HR HK HB
    rw [← hnew]
    clear c0 c1 c2 c3 c4 c5 c6 c7 c13 c14 c21 g0 g1 g2 g4 hRl hKl hnew HR HK HB
    obtain ⟨HR, HK, HB⟩ := hs
    obtain ⟨c0, c1, c2, c3, c4, c5, c6, c7, c13, c14, c21, g0, g1, g2, g4, hRl, hKl⟩ := rm_facts HR.out HK.out HTy.out
    go_wp2_with fail
    go_ret
    exact ⟨(by rw [HM.out] <;> rfl), HB.out⟩
  rcases e2 : (h.dd != c.dd) with _ | _
  rotate_left
  · have HM : Hid (Pl.mayE c s f r h = 43) := Lib.hid (HM.out.trans (if_pos (show (h.hi ≠ c.hi ∨ h.dd ≠ c.dd) from (.inr (by simpa using e2)))))
    go_quiet (fail)
    obtain ⟨w2, hnew⟩ : ∃ x, x = w1.drewN nq := ⟨_, rfl⟩
    have hs := rm_step hnew HR HK HB
    rw [← hnew]
    clear c0 c1 c2 c3 c4 c5 c6 c7 c13 c14 c21 g0 g1 g2 g4 hRl hKl hnew HR HK HB
    obtain ⟨HR, HK, HB⟩ := hs
    obtain ⟨c0, c1, c2, c3, c4, c5, c6, c7, c13, c14, c21, g0, g1, g2, g4, hRl, hKl⟩ := rm_facts HR.out HK.out HTy.out
    go_wp2_with fail
    go_ret
    exact ⟨(by rw [HM.out] <;> rfl), HB.out⟩
  have HM : Hid (Pl.mayE c s f r h = m3 c s f r h) := Lib.hid (HM.out.trans (if_neg (show ¬ (h.hi ≠ c.hi ∨ h.dd ≠ c.dd) from (by simp only [bne_eq_false_iff_eq] at e1 e2; rintro (e | e); exact e e1; exact e e2))))
  go_quiet (fail)
  obtain ⟨w2, hnew⟩ : ∃ x, x = w1.drewN nq := ⟨_, rfl⟩
  have hs := rm_step hnew HR HK HB
  rw [← hnew]
  clear c0 c1 c2 c3 c4 c5 c6 c7 c13 c14 c21 g0 g1 g2 g4 hRl hKl hnew HR HK HB
  obtain ⟨HR, HK, HB⟩ := hs
  obtain ⟨c0, c1, c2, c3, c4, c5, c6, c7, c13, c14, c21, g0, g1, g2, g4, hRl, hKl⟩ := rm_facts HR.out HK.out HTy.out
  clear e1 e2
  go_upto_region 5 with fail
  have HMk : Hid (∀ q, Calls Try.prog 34 #[.int .u8 c.nb] (w2.drewN q) fun e w' => e = .returned (.int .u32 (maskN c.nb.toNat)) ∧ w' = w2.drewN q) := Lib.hid (fun q => (rmask_any _ c.nb HNb.out.1 HNb.out.2).mono fun e w' h => ⟨h.1, h.2.symm⟩)
  rcases e1 : (h.ma != maskN c.nb.toNat) with _ | _
  rotate_left
  · have HM : Hid (Pl.mayE c s f r h = 42) := Lib.hid (HM.out.trans (if_pos (show (c.ty < 3 ∧ h.ma ≠ maskN c.nb.toNat) from ⟨by rw [HTy.out]; omega, by simpa using e1⟩)))
    go_quiet ((go_at_call 34; with_reducible exact Calls.quiet_of_same (HMk.out _)))
    obtain ⟨w3, hnew⟩ : ∃ x, x = w2.drewN nq := ⟨_, rfl⟩
    have hs := rm_step hnew HR HK HB
    rw [← hnew]
    clear c0 c1 c2 c3 c4 c5 c6 c7 c13 c14 c21 g0 g1 g2 g4 hRl hKl hnew HR HK HB
    obtain ⟨HR, HK, HB⟩ := hs
    obtain ⟨c0, c1, c2, c3, c4, c5, c6, c7, c13, c14, c21, g0, g1, g2, g4, hRl, hKl⟩ := rm_facts HR.out HK.out HTy.out
    go_wp2_with fail
    go_ret
    exact ⟨(by rw [HM.out] <;> rfl), HB.out⟩
  have HM : Hid (Pl.mayE c s f r h = m4 c s f r h) := Lib.hid (HM.out.trans (if_neg (show ¬ (c.ty < 3 ∧ h.ma ≠ maskN c.nb.toNat) from (by rintro ⟨_, e⟩; exact e (by simpa using e1)))))
  go_quiet ((go_at_call 34; with_reducible exact Calls.quiet_of_same (HMk.out _)))
  obtain ⟨w3, hnew⟩ : ∃ x, x = w2.drewN nq := ⟨_, rfl⟩
  have hs := rm_step hnew HR HK HB
  rw [← hnew]
  clear c0 c1 c2 c3 c4 c5 c6 c7 c13 c14 c21 g0 g1 g2 g4 hRl hKl hnew HR HK HB
  obtain ⟨HR, HK, HB⟩ := hs
  obtain ⟨c0, c1, c2, c3, c4, c5, c6, c7, c13, c14, c21, g0, g1, g2, g4, hRl, hKl⟩ := rm_facts HR.out HK.out HTy.out
  clear e1
  go_upto_region 7 with fail
  rcases e1 : (bits .and .u8 (bits .xor .u8 h.op c.op) 10 != 0) with _ | _
  rotate_left
  · have HM : Hid (Pl.mayE c s f r h = 44) := Lib.hid (HM.out.trans (if_pos (show (bits .and .u8 (bits .xor .u8 h.op c.op) 10 ≠ 0) from (by simpa using e1))))
    go_quiet (fail)
    obtain ⟨w4, hnew⟩ : ∃ x, x = w3.drewN nq := ⟨_, rfl⟩
    have hs := rm_step hnew HR HK HB
    rw [← hnew]
    clear c0 c1 c2 c3 c4 c5 c6 c7 c13 c14 c21 g0 g1 g2 g4 hRl hKl hnew HR HK HB
    obtain ⟨HR, HK, HB⟩ := hs
    obtain ⟨c0, c1, c2, c3, c4, c5, c6, c7, c13, c14, c21, g0, g1, g2, g4, hRl, hKl⟩ := rm_facts HR.out HK.out HTy.out
    go_wp2_with fail
    go_ret
    exact ⟨(by rw [HM.out] <;> rfl), HB.out⟩
  have HM : Hid (Pl.mayE c s f r h = m5 c s f r) := Lib.hid (HM.out.trans (if_neg (show ¬ bits .and .u8 (bits .xor .u8 h.op c.op) 10 ≠ 0 from (by simpa using e1))))
  go_quiet (fail)
  obtain ⟨w4, hnew⟩ : ∃ x, x = w3.drewN nq := ⟨_, rfl⟩
  have hs := rm_step hnew HR HK HB
  rw [← hnew]
  clear c0 c1 c2 c3 c4 c5 c6 c7 c13 c14 c21 g0 g1 g2 g4 hRl hKl hnew HR HK HB
  obtain ⟨HR, HK, HB⟩ := hs
  obtain ⟨c0, c1, c2, c3, c4, c5, c6, c7, c13, c14, c21, g0, g1, g2, g4, hRl, hKl⟩ := rm_facts HR.out HK.out HTy.out
  clear e1
  go_upto_region 9 with fail
  rcases e1 : (r == 0) with _ | _
  rotate_left
  · have HM : Hid (Pl.mayE c s f r h = 41) := Lib.hid (HM.out.trans (if_pos (show (r = 0 ∨ r = c.ro ∨ f = 0 ∨ f = c.ad) from (.inl (by simpa using e1)))))
    go_wp2_with fail
    go_ret
    exact ⟨(by rw [HM.out] <;> rfl), HB.out⟩
  rcases e2 : (r == c.ro) with _ | _
  rotate_left
  · have HM : Hid (Pl.mayE c s f r h = 41) := Lib.hid (HM.out.trans (if_pos (show (r = 0 ∨ r = c.ro ∨ f = 0 ∨ f = c.ad) from (.inr (.inl (by simpa using e2))))))
    go_wp2_with fail
    go_ret
    exact ⟨(by rw [HM.out] <;> rfl), HB.out⟩
  rcases e3 : (f == 0) with _ | _
  rotate_left
  · have HM : Hid (Pl.mayE c s f r h = 41) := Lib.hid (HM.out.trans (if_pos (show (r = 0 ∨ r = c.ro ∨ f = 0 ∨ f = c.ad) from (.inr (.inr (.inl (by simpa using e3)))))))
    go_wp2_with fail
    go_ret
    exact ⟨(by rw [HM.out] <;> rfl), HB.out⟩
  rcases e4 : (f == c.ad) with _ | _
  rotate_left
  · have HM : Hid (Pl.mayE c s f r h = 41) := Lib.hid (HM.out.trans (if_pos (show (r = 0 ∨ r = c.ro ∨ f = 0 ∨ f = c.ad) from (.inr (.inr (.inr (by simpa using e4)))))))
    go_wp2_with fail
    go_ret
    exact ⟨(by rw [HM.out] <;> rfl), HB.out⟩
  have HM : Hid (Pl.mayE c s f r h = m6 c s f r) := Lib.hid (HM.out.trans (if_neg (show ¬ (r = 0 ∨ r = c.ro ∨ f = 0 ∨ f = c.ad) from (by simp only [beq_eq_false_iff_ne] at e1 e2 e3 e4; rintro (e | e | e | e); exact e1 e; exact e2 e; exact e3 e; exact e4 e))))
  go_upto_region 11 with fail
  clear e1 e2 e3 e4
  have HM : Hid (Pl.mayE c s f r h = m7 c s f r) := Lib.hid (HM.out.trans (if_neg (show ¬ (c.ty = 0 ∧ bits .and .u32 f (maskN c.nb.toNat) ≠ c.na) from (by rintro ⟨e, _⟩; rw [HTy.out] at e; omega))))
  go_quiet (fail)
  obtain ⟨w5, hnew⟩ : ∃ x, x = w4.drewN nq := ⟨_, rfl⟩
  have hs := rm_step hnew HR HK HB
  rw [← hnew]
  clear c0 c1 c2 c3 c4 c5 c6 c7 c13 c14 c21 g0 g1 g2 g4 hRl hKl hnew HR HK HB
  obtain ⟨HR, HK, HB⟩ := hs
  obtain ⟨c0, c1, c2, c3, c4, c5, c6, c7, c13, c14, c21, g0, g1, g2, g4, hRl, hKl⟩ := rm_facts HR.out HK.out HTy.out
  go_upto_region 13 with fail
  have HM : Hid (Pl.mayE c s f r h = m8 c s f r) := Lib.hid (HM.out.trans (if_neg (show ¬ (c.ty = 4 ∧ r ≠ c.rm) from (by rintro ⟨e, _⟩; rw [HTy.out] at e; omega))))
  have HFi : Hid (Calls Try.prog 119 #[.pointer (some ⟨R, 0, none⟩), .int .u32 f, .int .u32 r] w5 fun e w' => e = .returned (.int .i64 (Pl.findI c f r s.l)) ∧ Below w5.heap.size w5 w') := Lib.hid (rfind_any HR.out (by rw [HTy.out]; omega) (by rw [Hn.out]; omega) f r)
  go_wp2_with fail
  refine HFi.out.mono ?_
  rintro e w6 ⟨rfl, hb6⟩
  have HR6 := Lib.hid (HR.out.below hb6)
  have HB6 := Lib.hid (HB.out.trans (hb6.mono HB.out.size))
  clear c0 c1 c2 c3 c4 c5 c6 c7 c13 c14 c21 g0 g1 g2 g4 hRl hKl hb6
  have HPe : Hid (Calls Try.prog 62 #[.agg #[.int .u8 c.ty, .int .u32 c.ro, .int .u32 c.na, .int .u8 c.nb, .int .u32 c.ad, .int .u8 c.op, .int .u16 c.hi, .int .u32 c.dd, .int .u16 c.po, .int .u8 c.pr, .bool c.dm, .bool c.ps, c.pe, .int .u32 c.rm]] w6 fun e w' => e = .returned (.bool true) ∧ Below w6.heap.size w6 w') := Lib.hid (by have h := rpeers_any c w6; rw [show c.peers = true from by unfold LC.peers; rw [HTy.out]; rfl] at h; exact h)
  have HPb : Hid (c.peers = true) := Lib.hid (by unfold LC.peers; rw [HTy.out]; rfl)
  obtain ⟨c0, c1, c2, c3, c4, c5, c6, c7, c8, c9, c10, c11, c12, c13⟩ := rm_cs HR6.out
  have hR6l := HR6.out.b.lt
  obtain ⟨fi, hfi⟩ : ∃ x, Pl.findI c f r s.l = x := ⟨_, rfl⟩
  have HFi2 := Lib.hid hfi
  rw [hfi]
  clear hfi
  go_wp2_with fail
  refine HPe.out.mono ?_
  rintro e w7 ⟨rfl, hb7⟩
  have HR7 := Lib.hid (HR6.out.below hb7)
  have HB := Lib.hid (HB6.out.trans (hb7.mono HB6.out.size))
  clear c0 c1 c2 c3 c4 c5 c6 c7 c8 c9 c10 c11 c12 c13 hR6l hb7
  have c0 : w7.cell? ⟨R, 0, none⟩ = some (.int .u8 2) := by rw [← HTy.out]; exact HR7.out.b.cell 0
  have c21 : w7.cell? ⟨R, 21, none⟩ = some (.slice A n cp) := HR7.out.b.cell 21
  have hRl := HR7.out.b.lt
  by_cases e1 : fi < 0
  · have HM : Hid (Pl.mayE c s f r h = 46) := Lib.hid (HM.out.trans (if_pos (show (c.peers = true ∧ Pl.findI c f r s.l < 0) from ⟨HPb.out, by rw [HFi2.out]; exact e1⟩)))
    go_wp2_with fail
    go_ret
    exact ⟨(by rw [HM.out] <;> rfl), HB.out⟩
  have HM : Hid (Pl.mayE c s f r h = m9 c s f r) := Lib.hid (HM.out.trans (if_neg (show ¬ (c.peers = true ∧ Pl.findI c f r s.l < 0) from (by rintro ⟨_, e⟩; rw [HFi2.out] at e; exact e1 e))))
  have HM : Hid (Pl.mayE c s f r h = 0) := Lib.hid (HM.out.trans (if_neg (show ¬ (c.ty = 0 ∧ Pl.findI c f r s.l < 0 ∧ 64 ≤ s.l.length) from (by rintro ⟨e, _⟩; rw [HTy.out] at e; omega))))
  go_wp2_with fail
  go_ret
  exact ⟨(by rw [HM.out] <;> rfl), HB.out⟩
theorem rmay_3 (h0 : RAt lo w R c s v) (hnb : 0 ≤ c.nb ∧ c.nb ≤ 32) (hn : s.l.length ≤ 60000) (hty : c.ty = 3) (f r : Int) (h : Pl.Hel) (nv : Value) :
    Calls Try.prog 118 #[.pointer (some ⟨R, 0, none⟩), .int .u32 f, .int .u32 r, .agg #[.int .u32 h.ma, .int .u16 h.hi, .int .u8 h.op, .int .u8 h.pr, .int .u32 h.dd, .int .u32 h.dr, .int .u32 h.bd, nv]] w fun e w' => e = .returned (.int .i64 (Pl.mayE c s f r h)) ∧ Below w.heap.size w w' := by
  obtain ⟨A, cp, rfl⟩ := own_slice h0.o
  obtain ⟨n, hn'⟩ : ∃ n, s.l.length = n := ⟨_, rfl⟩
  have H : Hid (RAt lo w R c s (.slice A n cp)) := Lib.hid (by rw [← hn']; exact h0)
  have Hn := Lib.hid hn'
  have HTy := Lib.hid hty
  have HNb := Lib.hid hnb
  have hn1 : n ≤ 60000 := by rw [← hn']; exact hn
  have hlt := h0.b.lt
  clear h0 hn' hn hty hnb
  go_enter Try.func118, Try.ntmps118
  go_upto_region 1 with fail
  obtain ⟨w1, hw1⟩ : ∃ w1, w1 = w.alloc (.cells #[.int .u32 h.ma, .int .u16 h.hi, .int .u8 h.op, .int .u8 h.pr, .int .u32 h.dd, .int .u32 h.dr, .int .u32 h.bd, nv] 90) := ⟨_, rfl⟩
  have HB : Hid (Below w.heap.size w w1) := Lib.hid (by rw [hw1]; exact (Below.refl _ w).alloc (Nat.le_refl _) _)
  have HR := Lib.hid (H.out.below HB.out)
  have HK : Hid (Blk w1 w.heap.size 90 #[.int .u32 h.ma, .int .u16 h.hi, .int .u8 h.op, .int .u8 h.pr, .int .u32 h.dd, .int .u32 h.dr, .int .u32 h.bd, nv]) := Lib.hid (by rw [hw1]; exact Blk.new w _ _)
  rw [← hw1]
  clear hw1 hlt
  obtain ⟨c0, c1, c2, c3, c4, c5, c6, c7, c13, c14, c21, g0, g1, g2, g4, hRl, hKl⟩ := rm_facts HR.out HK.out HTy.out
  by_cases q1 : s.st ≤ 1
  · have HM : Hid (Pl.mayE c s f r h = 45) := Lib.hid (if_pos q1)
    go_wp2_with fail
    go_ret
    exact ⟨(by rw [HM.out] <;> rfl), HB.out⟩
  have HM : Hid (Pl.mayE c s f r h = m2 c s f r h) := Lib.hid (if_neg q1)
  go_upto_region 3 with fail
  clear q1
  rcases e1 : (h.hi != c.hi) with _ | _
  rotate_left
  · have HM : Hid (Pl.mayE c s f r h = 43) := Lib.hid (HM.out.trans (if_pos (show (h.hi ≠ c.hi ∨ h.dd ≠ c.dd) from (.inl (by simpa using e1)))))
    go_quiet (fail)
    obtain ⟨w2, hnew⟩ : ∃ x, x = w1.drewN nq := ⟨_, rfl⟩
    have hs := rm_step hnew HR HK HB
    rw [← hnew]
    clear c0 c1 c2 c3 c4 c5 c6 c7 c13 c14 c21 g0 g1 g2 g4 hRl hKl hnew HR HK HB
    obtain ⟨HR, HK, HB⟩ := hs
    obtain ⟨c0, c1, c2, c3, c4, c5, c6, c7, c13, c14, c21, g0, g1, g2, g4, hRl, hKl⟩ := rm_facts HR.out HK.out HTy.out
    go_wp2_with fail
    go_ret
    exact ⟨(by rw [HM.out] <;> rfl), HB.out⟩
  rcases e2 : (h.dd != c.dd) with _ | _
  rotate_left
  · have HM : Hid (Pl.mayE c s f r h = 43) := Lib.hid (HM.out.trans (if_pos (show (h.hi ≠ c.hi ∨ h.dd ≠ c.dd) from (.inr (by simpa using e2)))))
    go_quiet (fail)
    obtain ⟨w2, hnew⟩ : ∃ x, x = w1.drewN nq := ⟨_, rfl⟩
    have hs := rm_step hnew HR HK HB
    rw [← hnew]
    clear c0 c1 c2 c3 c4 c5 c6 c7 c13 c14 c21 g0 g1 g2 g4 hRl hKl hnew HR HK HB
    obtain ⟨HR, HK, HB⟩ := hs
    obtain ⟨c0, c1, c2, c3, c4, c5, c6, c7, c13, c14, c21, g0, g1, g2, g4, hRl, hKl⟩ := rm_facts HR.out HK.out HTy.out
    go_wp2_with fail
    go_ret
    exact ⟨(by rw [HM.out] <;> rfl), HB.out⟩
  have HM : Hid (Pl.mayE c s f r h = m3 c s f r h) := Lib.hid (HM.out.trans (if_neg (show ¬ (h.hi ≠ c.hi ∨ h.dd ≠ c.dd) from (by simp only [bne_eq_false_iff_eq] at e1 e2; rintro (e | e); exact e e1; exact e e2))))
  go_quiet (fail)
  obtain ⟨w2, hnew⟩ : ∃ x, x = w1.drewN nq := ⟨_, rfl⟩
  have hs := rm_step hnew HR HK HB
  rw [← hnew]
  clear c0 c1 c2 c3 c4 c5 c6 c7 c13 c14 c21 g0 g1 g2 g4 hRl hKl hnew HR HK HB
  obtain ⟨HR, HK, HB⟩ := hs
  obtain ⟨c0, c1, c2, c3, c4, c5, c6, c7, c13, c14, c21, g0, g1, g2, g4, hRl, hKl⟩ := rm_facts HR.out HK.out HTy.out
  clear e1 e2
  go_upto_region 5 with fail
  have HM : Hid (Pl.mayE c s f r h = m4 c s f r h) := Lib.hid (HM.out.trans (if_neg (show ¬ (c.ty < 3 ∧ h.ma ≠ maskN c.nb.toNat) from (by rintro ⟨e, _⟩; rw [HTy.out] at e; omega))))
  go_quiet (fail)
  obtain ⟨w3, hnew⟩ : ∃ x, x = w2.drewN nq := ⟨_, rfl⟩
  have hs := rm_step hnew HR HK HB
  rw [← hnew]
  clear c0 c1 c2 c3 c4 c5 c6 c7 c13 c14 c21 g0 g1 g2 g4 hRl hKl hnew HR HK HB
  obtain ⟨HR, HK, HB⟩ := hs
  obtain ⟨c0, c1, c2, c3, c4, c5, c6, c7, c13, c14, c21, g0, g1, g2, g4, hRl, hKl⟩ := rm_facts HR.out HK.out HTy.out
  go_upto_region 7 with fail
  rcases e1 : (bits .and .u8 (bits .xor .u8 h.op c.op) 10 != 0) with _ | _
  rotate_left
  · have HM : Hid (Pl.mayE c s f r h = 44) := Lib.hid (HM.out.trans (if_pos (show (bits .and .u8 (bits .xor .u8 h.op c.op) 10 ≠ 0) from (by simpa using e1))))
    go_quiet (fail)
    obtain ⟨w4, hnew⟩ : ∃ x, x = w3.drewN nq := ⟨_, rfl⟩
    have hs := rm_step hnew HR HK HB
    rw [← hnew]
    clear c0 c1 c2 c3 c4 c5 c6 c7 c13 c14 c21 g0 g1 g2 g4 hRl hKl hnew HR HK HB
    obtain ⟨HR, HK, HB⟩ := hs
    obtain ⟨c0, c1, c2, c3, c4, c5, c6, c7, c13, c14, c21, g0, g1, g2, g4, hRl, hKl⟩ := rm_facts HR.out HK.out HTy.out
    go_wp2_with fail
    go_ret
    exact ⟨(by rw [HM.out] <;> rfl), HB.out⟩
  have HM : Hid (Pl.mayE c s f r h = m5 c s f r) := Lib.hid (HM.out.trans (if_neg (show ¬ bits .and .u8 (bits .xor .u8 h.op c.op) 10 ≠ 0 from (by simpa using e1))))
  go_quiet (fail)
  obtain ⟨w4, hnew⟩ : ∃ x, x = w3.drewN nq := ⟨_, rfl⟩
  have hs := rm_step hnew HR HK HB
  rw [← hnew]
  clear c0 c1 c2 c3 c4 c5 c6 c7 c13 c14 c21 g0 g1 g2 g4 hRl hKl hnew HR HK HB
  obtain ⟨HR, HK, HB⟩ := hs
  obtain ⟨c0, c1, c2, c3, c4, c5, c6, c7, c13, c14, c21, g0, g1, g2, g4, hRl, hKl⟩ := rm_facts HR.out HK.out HTy.out
  clear e1
  go_upto_region 9 with fail
  rcases e1 : (r == 0) with _ | _
  rotate_left
  · have HM : Hid (Pl.mayE c s f r h = 41) := Lib.hid (HM.out.trans (if_pos (show (r = 0 ∨ r = c.ro ∨ f = 0 ∨ f = c.ad) from (.inl (by simpa using e1)))))
    go_wp2_with fail
    go_ret
    exact ⟨(by rw [HM.out] <;> rfl), HB.out⟩
  rcases e2 : (r == c.ro) with _ | _
  rotate_left
  · have HM : Hid (Pl.mayE c s f r h = 41) := Lib.hid (HM.out.trans (if_pos (show (r = 0 ∨ r = c.ro ∨ f = 0 ∨ f = c.ad) from (.inr (.inl (by simpa using e2))))))
    go_wp2_with fail
    go_ret
    exact ⟨(by rw [HM.out] <;> rfl), HB.out⟩
  rcases e3 : (f == 0) with _ | _
  rotate_left
  · have HM : Hid (Pl.mayE c s f r h = 41) := Lib.hid (HM.out.trans (if_pos (show (r = 0 ∨ r = c.ro ∨ f = 0 ∨ f = c.ad) from (.inr (.inr (.inl (by simpa using e3)))))))
    go_wp2_with fail
    go_ret
    exact ⟨(by rw [HM.out] <;> rfl), HB.out⟩
  rcases e4 : (f == c.ad) with _ | _
  rotate_left
  · have HM : Hid (Pl.mayE c s f r h = 41) := Lib.hid (HM.out.trans (if_pos (show (r = 0 ∨ r = c.ro ∨ f = 0 ∨ f = c.ad) from (.inr (.inr (.inr (by simpa using e4)))))))
    go_wp2_with fail
    go_ret
    exact ⟨(by rw [HM.out] <;> rfl), HB.out⟩
  have HM : Hid (Pl.mayE c s f r h = m6 c s f r) := Lib.hid (HM.out.trans (if_neg (show ¬ (r = 0 ∨ r = c.ro ∨ f = 0 ∨ f = c.ad) from (by simp only [beq_eq_false_iff_ne] at e1 e2 e3 e4; rintro (e | e | e | e); exact e1 e; exact e2 e; exact e3 e; exact e4 e))))
  go_upto_region 11 with fail
  clear e1 e2 e3 e4
  have HM : Hid (Pl.mayE c s f r h = m7 c s f r) := Lib.hid (HM.out.trans (if_neg (show ¬ (c.ty = 0 ∧ bits .and .u32 f (maskN c.nb.toNat) ≠ c.na) from (by rintro ⟨e, _⟩; rw [HTy.out] at e; omega))))
  go_quiet (fail)
  obtain ⟨w5, hnew⟩ : ∃ x, x = w4.drewN nq := ⟨_, rfl⟩
  have hs := rm_step hnew HR HK HB
  rw [← hnew]
  clear c0 c1 c2 c3 c4 c5 c6 c7 c13 c14 c21 g0 g1 g2 g4 hRl hKl hnew HR HK HB
  obtain ⟨HR, HK, HB⟩ := hs
  obtain ⟨c0, c1, c2, c3, c4, c5, c6, c7, c13, c14, c21, g0, g1, g2, g4, hRl, hKl⟩ := rm_facts HR.out HK.out HTy.out
  go_upto_region 13 with fail
  have HM : Hid (Pl.mayE c s f r h = m8 c s f r) := Lib.hid (HM.out.trans (if_neg (show ¬ (c.ty = 4 ∧ r ≠ c.rm) from (by rintro ⟨e, _⟩; rw [HTy.out] at e; omega))))
  have HFi : Hid (Calls Try.prog 119 #[.pointer (some ⟨R, 0, none⟩), .int .u32 f, .int .u32 r] w5 fun e w' => e = .returned (.int .i64 (Pl.findI c f r s.l)) ∧ Below w5.heap.size w5 w') := Lib.hid (rfind_any HR.out (by rw [HTy.out]; omega) (by rw [Hn.out]; omega) f r)
  go_wp2_with fail
  refine HFi.out.mono ?_
  rintro e w6 ⟨rfl, hb6⟩
  have HR6 := Lib.hid (HR.out.below hb6)
  have HB6 := Lib.hid (HB.out.trans (hb6.mono HB.out.size))
  clear c0 c1 c2 c3 c4 c5 c6 c7 c13 c14 c21 g0 g1 g2 g4 hRl hKl hb6
  have HPe : Hid (Calls Try.prog 62 #[.agg #[.int .u8 c.ty, .int .u32 c.ro, .int .u32 c.na, .int .u8 c.nb, .int .u32 c.ad, .int .u8 c.op, .int .u16 c.hi, .int .u32 c.dd, .int .u16 c.po, .int .u8 c.pr, .bool c.dm, .bool c.ps, c.pe, .int .u32 c.rm]] w6 fun e w' => e = .returned (.bool false) ∧ Below w6.heap.size w6 w') := Lib.hid (by have h := rpeers_any c w6; rw [show c.peers = false from by unfold LC.peers; rw [HTy.out]; rfl] at h; exact h)
  have HPb : Hid (c.peers = false) := Lib.hid (by unfold LC.peers; rw [HTy.out]; rfl)
  obtain ⟨c0, c1, c2, c3, c4, c5, c6, c7, c8, c9, c10, c11, c12, c13⟩ := rm_cs HR6.out
  have hR6l := HR6.out.b.lt
  obtain ⟨fi, hfi⟩ : ∃ x, Pl.findI c f r s.l = x := ⟨_, rfl⟩
  have HFi2 := Lib.hid hfi
  rw [hfi]
  clear hfi
  go_wp2_with fail
  refine HPe.out.mono ?_
  rintro e w7 ⟨rfl, hb7⟩
  have HR7 := Lib.hid (HR6.out.below hb7)
  have HB := Lib.hid (HB6.out.trans (hb7.mono HB6.out.size))
  clear c0 c1 c2 c3 c4 c5 c6 c7 c8 c9 c10 c11 c12 c13 hR6l hb7
  have c0 : w7.cell? ⟨R, 0, none⟩ = some (.int .u8 3) := by rw [← HTy.out]; exact HR7.out.b.cell 0
  have c21 : w7.cell? ⟨R, 21, none⟩ = some (.slice A n cp) := HR7.out.b.cell 21
  have hRl := HR7.out.b.lt
  have HM : Hid (Pl.mayE c s f r h = m9 c s f r) := Lib.hid (HM.out.trans (if_neg (show ¬ (c.peers = true ∧ Pl.findI c f r s.l < 0) from (by rintro ⟨e, _⟩; rw [HPb.out] at e; cases e))))
  have HM : Hid (Pl.mayE c s f r h = 0) := Lib.hid (HM.out.trans (if_neg (show ¬ (c.ty = 0 ∧ Pl.findI c f r s.l < 0 ∧ 64 ≤ s.l.length) from (by rintro ⟨e, _⟩; rw [HTy.out] at e; omega))))
  go_wp2_with fail
  go_ret
  exact ⟨(by rw [HM.out] <;> rfl), HB.out⟩
theorem rmay_4 (h0 : RAt lo w R c s v) (hnb : 0 ≤ c.nb ∧ c.nb ≤ 32) (hn : s.l.length ≤ 60000) (hty : c.ty = 4) (f r : Int) (h : Pl.Hel) (nv : Value) :
    Calls Try.prog 118 #[.pointer (some ⟨R, 0, none⟩), .int .u32 f, .int .u32 r, .agg #[.int .u32 h.ma, .int .u16 h.hi, .int .u8 h.op, .int .u8 h.pr, .int .u32 h.dd, .int .u32 h.dr, .int .u32 h.bd, nv]] w fun e w' => e = .returned (.int .i64 (Pl.mayE c s f r h)) ∧ Below w.heap.size w w' := by
  obtain ⟨A, cp, rfl⟩ := own_slice h0.o
  obtain ⟨n, hn'⟩ : ∃ n, s.l.length = n := ⟨_, rfl⟩
  have H : Hid (RAt lo w R c s (.slice A n cp)) := Lib.hid (by rw [← hn']; exact h0)
  have Hn := Lib.hid hn'
  have HTy := Lib.hid hty
  have HNb := Lib.hid hnb
  have hn1 : n ≤ 60000 := by rw [← hn']; exact hn
  have hlt := h0.b.lt
  clear h0 hn' hn hty hnb
  go_enter Try.func118, Try.ntmps118
  go_upto_region 1 with fail
  obtain ⟨w1, hw1⟩ : ∃ w1, w1 = w.alloc (.cells #[.int .u32 h.ma, .int .u16 h.hi, .int .u8 h.op, .int .u8 h.pr, .int .u32 h.dd, .int .u32 h.dr, .int .u32 h.bd, nv] 90) := ⟨_, rfl⟩
  have HB : Hid (Below w.heap.size w w1) := Lib.hid (by rw [hw1]; exact (Below.refl _ w).alloc (Nat.le_refl _) _)
  have HR := Lib.hid (H.out.below HB.out)
  have HK : Hid (Blk w1 w.heap.size 90 #[.int .u32 h.ma, .int .u16 h.hi, .int .u8 h.op, .int .u8 h.pr, .int .u32 h.dd, .int .u32 h.dr, .int .u32 h.bd, nv]) := Lib.hid (by rw [hw1]; exact Blk.new w _ _)
  rw [← hw1]
  clear hw1 hlt
  obtain ⟨c0, c1, c2, c3, c4, c5, c6, c7, c13, c14, c21, g0, g1, g2, g4, hRl, hKl⟩ := rm_facts HR.out HK.out HTy.out
  by_cases q1 : s.st ≤ 1
  · have HM : Hid (Pl.mayE c s f r h = 45) := Lib.hid (if_pos q1)
    go_wp2_with fail
    go_ret
    exact ⟨(by rw [HM.out] <;> rfl), HB.out⟩
  have HM : Hid (Pl.mayE c s f r h = m2 c s f r h) := Lib.hid (if_neg q1)
  go_upto_region 3 with fail
  clear q1
  rcases e1 : (h.hi != c.hi) with _ | _
  rotate_left
  · have HM : Hid (Pl.mayE c s f r h = 43) := Lib.hid (HM.out.trans (if_pos (show (h.hi ≠ c.hi ∨ h.dd ≠ c.dd) from (.inl (by simpa using e1)))))
    go_quiet (fail)
    obtain ⟨w2, hnew⟩ : ∃ x, x = w1.drewN nq := ⟨_, rfl⟩
    have hs := rm_step hnew HR HK HB
    rw [← hnew]
    clear c0 c1 c2 c3 c4 c5 c6 c7 c13 c14 c21 g0 g1 g2 g4 hRl hKl hnew HR HK HB
    obtain ⟨HR, HK, HB⟩ := hs
    obtain ⟨c0, c1, c2, c3, c4, c5, c6, c7, c13, c14, c21, g0, g1, g2, g4, hRl, hKl⟩ := rm_facts HR.out HK.out HTy.out
    go_wp2_with fail
    go_ret
    exact ⟨(by rw [HM.out] <;> rfl), HB.out⟩
  rcases e2 : (h.dd != c.dd) with _ | _
  rotate_left
  · have HM : Hid (Pl.mayE c s f r h = 43) := Lib.hid (HM.out.trans (if_pos (show (h.hi ≠ c.hi ∨ h.dd ≠ c.dd) from (.inr (by simpa using e2)))))
    go_quiet (fail)
    obtain ⟨w2, hnew⟩ : ∃ x, x = w1.drewN nq := ⟨_, rfl⟩
    have hs := rm_step hnew HR HK HB
    rw [← hnew]
    clear c0 c1 c2 c3 c4 c5 c6 c7 c13 c14 c21 g0 g1 g2 g4 hRl hKl hnew HR HK HB
    obtain ⟨HR, HK, HB⟩ := hs
    obtain ⟨c0, c1, c2, c3, c4, c5, c6, c7, c13, c14, c21, g0, g1, g2, g4, hRl, hKl⟩ := rm_facts HR.out HK.out HTy.out
    go_wp2_with fail
    go_ret
    exact ⟨(by rw [HM.out] <;> rfl), HB.out⟩
  have HM : Hid (Pl.mayE c s f r h = m3 c s f r h) := Lib.hid (HM.out.trans (if_neg (show ¬ (h.hi ≠ c.hi ∨ h.dd ≠ c.dd) from (by simp only [bne_eq_false_iff_eq] at e1 e2; rintro (e | e); exact e e1; exact e e2))))
  go_quiet (fail)
  obtain ⟨w2, hnew⟩ : ∃ x, x = w1.drewN nq := ⟨_, rfl⟩
  have hs := rm_step hnew HR HK HB
  rw [← hnew]
  clear c0 c1 c2 c3 c4 c5 c6 c7 c13 c14 c21 g0 g1 g2 g4 hRl hKl hnew HR HK HB
  obtain ⟨HR, HK, HB⟩ := hs
  obtain ⟨c0, c1, c2, c3, c4, c5, c6, c7, c13, c14, c21, g0, g1, g2, g4, hRl, hKl⟩ := rm_facts HR.out HK.out HTy.out
  clear e1 e2
  go_upto_region 5 with fail
  have HM : Hid (Pl.mayE c s f r h = m4 c s f r h) := Lib.hid (HM.out.trans (if_neg (show ¬ (c.ty < 3 ∧ h.ma ≠ maskN c.nb.toNat) from (by rintro ⟨e, _⟩; rw [HTy.out] at e; omega))))
  go_quiet (fail)
  obtain ⟨w3, hnew⟩ : ∃ x, x = w2.drewN nq := ⟨_, rfl⟩
  have hs := rm_step hnew HR HK HB
  rw [← hnew]
  clear c0 c1 c2 c3 c4 c5 c6 c7 c13 c14 c21 g0 g1 g2 g4 hRl hKl hnew HR HK HB
  obtain ⟨HR, HK, HB⟩ := hs
  obtain ⟨c0, c1, c2, c3, c4, c5, c6, c7, c13, c14, c21, g0, g1, g2, g4, hRl, hKl⟩ := rm_facts HR.out HK.out HTy.out
  go_upto_region 7 with fail
  rcases e1 : (bits .and .u8 (bits .xor .u8 h.op c.op) 10 != 0) with _ | _
  rotate_left
  · have HM : Hid (Pl.mayE c s f r h = 44) := Lib.hid (HM.out.trans (if_pos (show (bits .and .u8 (bits .xor .u8 h.op c.op) 10 ≠ 0) from (by simpa using e1))))
    go_quiet (fail)
    obtain ⟨w4, hnew⟩ : ∃ x, x = w3.drewN nq := ⟨_, rfl⟩
    have hs := rm_step hnew HR HK HB
    rw [← hnew]
    clear c0 c1 c2 c3 c4 c5 c6 c7 c13 c14 c21 g0 g1 g2 g4 hRl hKl hnew HR HK HB
    obtain ⟨HR, HK, HB⟩ := hs
    obtain ⟨c0, c1, c2, c3, c4, c5, c6, c7, c13, c14, c21, g0, g1, g2, g4, hRl, hKl⟩ := rm_facts HR.out HK.out HTy.out
    go_wp2_with fail
    go_ret
    exact ⟨(by rw [HM.out] <;> rfl), HB.out⟩
  have HM : Hid (Pl.mayE c s f r h = m5 c s f r) := Lib.hid (HM.out.trans (if_neg (show ¬ bits .and .u8 (bits .xor .u8 h.op c.op) 10 ≠ 0 from (by simpa using e1))))
  go_quiet (fail)
  obtain ⟨w4, hnew⟩ : ∃ x, x = w3.drewN nq := ⟨_, rfl⟩
  have hs := rm_step hnew HR HK HB
  rw [← hnew]
  clear c0 c1 c2 c3 c4 c5 c6 c7 c13 c14 c21 g0 g1 g2 g4 hRl hKl hnew HR HK HB
  obtain ⟨HR, HK, HB⟩ := hs
  obtain ⟨c0, c1, c2, c3, c4, c5, c6, c7, c13, c14, c21, g0, g1, g2, g4, hRl, hKl⟩ := rm_facts HR.out HK.out HTy.out
  clear e1
  go_upto_region 9 with fail
  rcases e1 : (r == 0) with _ | _
  rotate_left
  · have HM : Hid (Pl.mayE c s f r h = 41) := Lib.hid (HM.out.trans (if_pos (show (r = 0 ∨ r = c.ro ∨ f = 0 ∨ f = c.ad) from (.inl (by simpa using e1)))))
    go_wp2_with fail
    go_ret
    exact ⟨(by rw [HM.out] <;> rfl), HB.out⟩
  rcases e2 : (r == c.ro) with _ | _
  rotate_left
  · have HM : Hid (Pl.mayE c s f r h = 41) := Lib.hid (HM.out.trans (if_pos (show (r = 0 ∨ r = c.ro ∨ f = 0 ∨ f = c.ad) from (.inr (.inl (by simpa using e2))))))
    go_wp2_with fail
    go_ret
    exact ⟨(by rw [HM.out] <;> rfl), HB.out⟩
  rcases e3 : (f == 0) with _ | _
  rotate_left
  · have HM : Hid (Pl.mayE c s f r h = 41) := Lib.hid (HM.out.trans (if_pos (show (r = 0 ∨ r = c.ro ∨ f = 0 ∨ f = c.ad) from (.inr (.inr (.inl (by simpa using e3)))))))
    go_wp2_with fail
    go_ret
    exact ⟨(by rw [HM.out] <;> rfl), HB.out⟩
  rcases e4 : (f == c.ad) with _ | _
  rotate_left
  · have HM : Hid (Pl.mayE c s f r h = 41) := Lib.hid (HM.out.trans (if_pos (show (r = 0 ∨ r = c.ro ∨ f = 0 ∨ f = c.ad) from (.inr (.inr (.inr (by simpa using e4)))))))
    go_wp2_with fail
    go_ret
    exact ⟨(by rw [HM.out] <;> rfl), HB.out⟩
  have HM : Hid (Pl.mayE c s f r h = m6 c s f r) := Lib.hid (HM.out.trans (if_neg (show ¬ (r = 0 ∨ r = c.ro ∨ f = 0 ∨ f = c.ad) from (by simp only [beq_eq_false_iff_ne] at e1 e2 e3 e4; rintro (e | e | e | e); exact e1 e; exact e2 e; exact e3 e; exact e4 e))))
  go_upto_region 11 with fail
  clear e1 e2 e3 e4
  have HM : Hid (Pl.mayE c s f r h = m7 c s f r) := Lib.hid (HM.out.trans (if_neg (show ¬ (c.ty = 0 ∧ bits .and .u32 f (maskN c.nb.toNat) ≠ c.na) from (by rintro ⟨e, _⟩; rw [HTy.out] at e; omega))))
  go_quiet (fail)
  obtain ⟨w5, hnew⟩ : ∃ x, x = w4.drewN nq := ⟨_, rfl⟩
  have hs := rm_step hnew HR HK HB
  rw [← hnew]
  clear c0 c1 c2 c3 c4 c5 c6 c7 c13 c14 c21 g0 g1 g2 g4 hRl hKl hnew HR HK HB
  obtain ⟨HR, HK, HB⟩ := hs
  obtain ⟨c0, c1, c2, c3, c4, c5, c6, c7, c13, c14, c21, g0, g1, g2, g4, hRl, hKl⟩ := rm_facts HR.out HK.out HTy.out
  go_upto_region 13 with fail
  rcases e1 : (r != c.rm) with _ | _
  rotate_left
  · have HM : Hid (Pl.mayE c s f r h = 46) := Lib.hid (HM.out.trans (if_pos (show (c.ty = 4 ∧ r ≠ c.rm) from ⟨HTy.out, by simpa using e1⟩)))
    go_wp2_with fail
    go_ret
    exact ⟨(by rw [HM.out] <;> rfl), HB.out⟩
  have HM : Hid (Pl.mayE c s f r h = m8 c s f r) := Lib.hid (HM.out.trans (if_neg (show ¬ (c.ty = 4 ∧ r ≠ c.rm) from (by rintro ⟨_, e⟩; exact e (by simpa using e1)))))
  have HFi : Hid (Calls Try.prog 119 #[.pointer (some ⟨R, 0, none⟩), .int .u32 f, .int .u32 r] w5 fun e w' => e = .returned (.int .i64 (Pl.findI c f r s.l)) ∧ Below w5.heap.size w5 w') := Lib.hid (rfind_any HR.out (by rw [HTy.out]; omega) (by rw [Hn.out]; omega) f r)
  go_wp2_with fail
  refine HFi.out.mono ?_
  rintro e w6 ⟨rfl, hb6⟩
  have HR6 := Lib.hid (HR.out.below hb6)
  have HB6 := Lib.hid (HB.out.trans (hb6.mono HB.out.size))
  clear c0 c1 c2 c3 c4 c5 c6 c7 c13 c14 c21 g0 g1 g2 g4 hRl hKl e1 hb6
  have HPe : Hid (Calls Try.prog 62 #[.agg #[.int .u8 c.ty, .int .u32 c.ro, .int .u32 c.na, .int .u8 c.nb, .int .u32 c.ad, .int .u8 c.op, .int .u16 c.hi, .int .u32 c.dd, .int .u16 c.po, .int .u8 c.pr, .bool c.dm, .bool c.ps, c.pe, .int .u32 c.rm]] w6 fun e w' => e = .returned (.bool false) ∧ Below w6.heap.size w6 w') := Lib.hid (by have h := rpeers_any c w6; rw [show c.peers = false from by unfold LC.peers; rw [HTy.out]; rfl] at h; exact h)
  have HPb : Hid (c.peers = false) := Lib.hid (by unfold LC.peers; rw [HTy.out]; rfl)
  obtain ⟨c0, c1, c2, c3, c4, c5, c6, c7, c8, c9, c10, c11, c12, c13⟩ := rm_cs HR6.out
  have hR6l := HR6.out.b.lt
  obtain ⟨fi, hfi⟩ : ∃ x, Pl.findI c f r s.l = x := ⟨_, rfl⟩
  have HFi2 := Lib.hid hfi
  rw [hfi]
  clear hfi
  go_wp2_with fail
  refine HPe.out.mono ?_
  rintro e w7 ⟨rfl, hb7⟩
  have HR7 := Lib.hid (HR6.out.below hb7)
  have HB := Lib.hid (HB6.out.trans (hb7.mono HB6.out.size))
  clear c0 c1 c2 c3 c4 c5 c6 c7 c8 c9 c10 c11 c12 c13 hR6l hb7
  have c0 : w7.cell? ⟨R, 0, none⟩ = some (.int .u8 4) := by rw [← HTy.out]; exact HR7.out.b.cell 0
  have c21 : w7.cell? ⟨R, 21, none⟩ = some (.slice A n cp) := HR7.out.b.cell 21
  have hRl := HR7.out.b.lt
  have HM : Hid (Pl.mayE c s f r h = m9 c s f r) := Lib.hid (HM.out.trans (if_neg (show ¬ (c.peers = true ∧ Pl.findI c f r s.l < 0) from (by rintro ⟨e, _⟩; rw [HPb.out] at e; cases e))))
  have HM : Hid (Pl.mayE c s f r h = 0) := Lib.hid (HM.out.trans (if_neg (show ¬ (c.ty = 0 ∧ Pl.findI c f r s.l < 0 ∧ 64 ≤ s.l.length) from (by rintro ⟨e, _⟩; rw [HTy.out] at e; omega))))
  go_wp2_with fail
  go_ret
  exact ⟨(by rw [HM.out] <;> rfl), HB.out⟩
theorem rmay_l (h0 : RAt lo w R c s v) (g : Pl.CfgOk c L) (hn : s.l.length ≤ 60000) (f r : Int) (h : Pl.Hel) (nv : Value) :
    Calls Try.prog 118 #[.pointer (some ⟨R, 0, none⟩), .int .u32 f, .int .u32 r, .agg #[.int .u32 h.ma, .int .u16 h.hi, .int .u8 h.op, .int .u8 h.pr, .int .u32 h.dd, .int .u32 h.dr, .int .u32 h.bd, nv]] w fun e w' => e = .returned (.int .i64 (Pl.mayE c s f r h)) ∧ Below w.heap.size w w' := by
  have h1 := g.ty0
  have h2 := g.ty
  have ht : c.ty = 0 ∨ c.ty = 1 ∨ c.ty = 2 ∨ c.ty = 3 ∨ c.ty = 4 := by omega
  rcases ht with ht | ht | ht | ht | ht
  · exact rmay_0 h0 ⟨g.nb0, g.nb⟩ hn ht f r h nv
  · exact rmay_1 h0 ⟨g.nb0, g.nb⟩ hn ht f r h nv
  · exact rmay_2 h0 ⟨g.nb0, g.nb⟩ hn ht f r h nv
  · exact rmay_3 h0 ⟨g.nb0, g.nb⟩ hn ht f r h nv
  · exact rmay_4 h0 ⟨g.nb0, g.nb⟩ hn ht f r h nv
end
end Go.Proofs.Ytgbmhijgpdgdbaa
