/- The document's link: the place of a new neighbour. -/
import Derived.Test.YtgbmhijgpdgdbaaLpRefTick
set_option maxHeartbeats 4000000
set_option maxRecDepth 20000
namespace Go.Proofs.Ytgbmhijgpdgdbaa
open Go.RowKit Go.Shelf
theorem place_go {f : Int} {l : List Kn} {k : Nat} (h : ∀ y ∈ l.take k, y.ad < f) (hk : k ≤ l.length) (hs : ∀ x, l[k]? = some x → ¬ x.ad < f) : Pl.place f l = k := by
  induction l generalizing k with
  | nil => simp at hk; subst hk; rfl
  | cons a t ih =>
    unfold Pl.place
    cases k with
    | zero => rw [if_neg (hs a rfl)]
    | succ k =>
      rw [if_pos (h a (by simp)), ih (k := k) (fun y hy => h y (by simp [hy])) (by simpa using hk) (fun x hx => hs x (by simpa using hx))]
theorem rk_one (l : List Kn) : ∀ u ∈ l.flatMap rcells, u.oneCell' = true := by
  intro u hu
  obtain ⟨x, _, hu⟩ := List.mem_flatMap.1 hu
  simp only [rcells, List.mem_cons, List.not_mem_nil, or_false] at hu
  rcases hu with h | h | h | h | h | h | h | h | h <;> rw [h] <;> rfl
theorem addN (b o : Nat) (j : Nat) : (⟨b, o, none⟩ : Addr).add j = ⟨b, o + j, none⟩ := by unfold Addr.add; split <;> simp_all
theorem reads_take {lo : Nat} {w : World} {A : Option Addr} {n cp : Nat} {l : List Kn} (h : ROwn lo w (.slice A n cp) l) {k : Nat} (hk : k ≤ l.length) : Reads w w.heap.size 9 A k ((l.take k).flatMap rcells) := by
  refine ⟨by rw [rflat_length, List.length_take]; omega, fun h0 => ?_⟩
  have h1 := h.2
  rcases h.2 with ⟨_, h2⟩ | ⟨g, cap', cur, e, hg, hh, hle, hcm, hcs, hx⟩
  · omega
  · injection e with e1 e2 e3
    subst e1
    refine ⟨⟨g, 0, none⟩, rfl, (Array.getElem?_eq_some_iff.1 hh).1, fun j u hu => ?_⟩
    rw [addN, Nat.zero_add]
    have hj : j < k * 9 := by
      have := (List.getElem?_eq_some_iff.1 hu).1
      rw [rflat_length, List.length_take] at this
      omega
    have hlt : j / 9 < k := by omega
    obtain ⟨x, hx1⟩ : ∃ x, l[j / 9]? = some x := ⟨_, List.getElem?_eq_getElem (by omega)⟩
    have hx2 : (l.take k)[j / 9]? = some x := by rw [List.getElem?_take, if_pos hlt]; exact hx1
    obtain ⟨b, n', cap, e', hn2, hb, hc⟩ := h.knb hx1
    injection e' with e1
    injection e1 with e1
    injection e1 with e1
    subst e1
    have hr : (rcells x)[j % 9]? = some u := by
      have hlr : j % 9 < (rcells x).length := by show j % 9 < 9; omega
      have h9 := rflat_at hx2 (List.getElem?_eq_getElem hlr)
      rw [show j / 9 * 9 + j % 9 = j from by omega, hu] at h9
      rw [List.getElem?_eq_getElem hlr, ← Option.some.inj h9]
    have := hc (j % 9) u hr
    rwa [show j / 9 * 9 + j % 9 = j from by omega] at this
theorem reads_drop {lo : Nat} {w : World} {b n cp : Nat} {l : List Kn} (h : ROwn lo w (.slice (some ⟨b, 0, none⟩) n cp) l) {k m : Nat} (hm : k + m = l.length) : Reads w w.heap.size 9 (some ⟨b, k * 9, none⟩) m ((l.drop k).flatMap rcells) := by
  refine ⟨by rw [rflat_length, List.length_drop]; congr 1; omega, fun h0 => ⟨⟨b, k * 9, none⟩, rfl, h.frozen.2, fun j u hu => ?_⟩⟩
  rw [addN]
  have hj : j < m * 9 := by
    have := (List.getElem?_eq_some_iff.1 hu).1
    rw [rflat_length, List.length_drop] at this
    omega
  obtain ⟨x, hx1⟩ : ∃ x, l[k + j / 9]? = some x := ⟨_, List.getElem?_eq_getElem (by omega)⟩
  have hx2 : (l.drop k)[j / 9]? = some x := by rw [List.getElem?_drop]; exact hx1
  obtain ⟨b', n', cap, e', hn2, hb, hc⟩ := h.knb hx1
  injection e' with e1
  injection e1 with e1
  injection e1 with e1
  subst e1
  have hr : (rcells x)[j % 9]? = some u := by
    have hlr : j % 9 < (rcells x).length := by show j % 9 < 9; omega
    have h9 := rflat_at hx2 (List.getElem?_eq_getElem hlr)
    rw [show j / 9 * 9 + j % 9 = j from by omega, hu] at h9
    rw [List.getElem?_eq_getElem hlr, ← Option.some.inj h9]
  have := hc (j % 9) u hr
  rwa [show (k + j / 9) * 9 + j % 9 = k * 9 + j from by omega] at this
theorem own_cap {lo : Nat} {w : World} {A : Option Addr} {n cp : Nat} {l : List Kn} (h : ROwn lo w (.slice A n cp) l) : l.length ≤ cp ∧ (A = none → l.length = 0 ∧ cp = 0) ∧ (∀ a, A = some a → a = ⟨a.block, 0, none⟩) := by
  rcases h.2 with ⟨e, h2⟩ | ⟨g, cap', cur, e, hg, hh, hle, hcm, hcs, hx⟩
  · injection e with e1 e2 e3
    subst e1 e3
    exact ⟨by omega, fun _ => ⟨h2, rfl⟩, fun a ha => by cases ha⟩
  · injection e with e1 e2 e3
    subst e1 e3
    exact ⟨hle, fun e => (by cases e), fun a ha => by injection ha with ha; subst ha; rfl⟩
section
variable {lo : Nat} {w : World} {R : Nat} {c : LC} {s : Pl.St} {v : Value}
theorem rplace_o (h : RAt lo w R c s v) (ht : c.ty ≠ 0) (f : Int) :
    Calls Try.prog 120 #[.pointer (some ⟨R, 0, none⟩), .int .u32 f] w fun e w' => e = .returned (.int .i64 (Pl.putAt c f s.l)) ∧ ∃ v', RAt lo w' R c { s with l := Pl.putL c f s.l } v' ∧ RFr lo w w' := by
  have H := Lib.hid h
  have c0 : w.cell? ⟨R, 0, none⟩ = some (.int .u8 c.ty) := h.b.cell 0
  have c21 : w.cell? ⟨R, 21, none⟩ = some v := h.b.cell 21
  have HE : Hid (Pl.putAt c f s.l = 0 ∧ Pl.putL c f s.l = [Pl.zero]) := Lib.hid (by unfold Pl.putAt Pl.putL; rw [if_neg ht, if_neg ht]; exact ⟨rfl, rfl⟩)
  have e0 : (c.ty != 0) = true := by simpa using ht
  obtain ⟨A, cp, rfl⟩ := own_slice h.o
  have hlt := h.b.lt
  have fz := h.b.frozen
  clear h ht
  go_enter Try.func120, Try.ntmps120
  go_upto_region 3 with fail
  obtain ⟨ws, hws⟩ : ∃ ws, ws = w.setCell ⟨R, 21, none⟩ (.slice (some ⟨w.heap.size, 0, none⟩) 1 1) := ⟨_, rfl⟩
  obtain ⟨w4, hw4⟩ : ∃ w4, w4 = ws.alloc (.cells #[.int .u32 0, .int .u32 0, .int .u8 0, .int .u8 0, .int .u32 0, .int .u32 0, .int .u8 0, .int .u32 0, .bool false] 157) := ⟨_, rfl⟩
  rw [← hws, ← hw4]
  have hss : ws.heap.size = w.heap.size := by rw [hws]; simp [World.setCell]
  have hFs : Frame (fun j => j = R) w ws := by rw [hws]; exact (Frame.refl _ w).setB 21 _
  have kb : RBlk ws R c { s with l := [Pl.zero] } (.slice (some ⟨w.heap.size, 0, none⟩) 1 1) := by rw [hws]; exact H.out.b.set_ 21 _
  have hb4 : Below ws.heap.size ws w4 := by rw [hw4]; exact (Below.refl _ ws).alloc (Nat.le_refl _) _
  have ho4 : ROwn lo w4 (.slice (some ⟨w.heap.size, 0, none⟩) 1 1) [Pl.zero] := by
    have h1 := World.ownsRow_lit (base := lo) (e := 157) (size := 9) ws #[.int .u32 0, .int .u32 0, .int .u8 0, .int .u8 0, .int .u32 0, .int .u32 0, .int .u8 0, .int .u32 0, .bool false] 1 (by have := H.out.loR; omega) (by simp [maxLen]) rfl
    rw [hss] at h1
    rw [hw4]
    exact h1
  have HK := Lib.hid (kb.below hb4 kb.lt)
  have HO := Lib.hid ho4
  have HF := Lib.hid ((RFr.one H.out.b H.out.loR (.inl rfl) hFs).trans (RFr.of_below hb4))
  clear hws hw4 hss hFs kb hb4 ho4
  go_wp2_with fail
  go_ret
  exact ⟨by rw [HE.out.1]; rfl, _, by rw [HE.out.2]; exact ⟨H.out.loR, HK.out, HO.out⟩, HF.out⟩
theorem rplace_b (h : RAt lo w R c s v) (ht : c.ty = 0) (hn : s.l.length ≤ 60000) (f : Int) :
    Calls Try.prog 120 #[.pointer (some ⟨R, 0, none⟩), .int .u32 f] w fun e w' => e = .returned (.int .i64 (Pl.putAt c f s.l)) ∧ ∃ v', RAt lo w' R c { s with l := Pl.putL c f s.l } v' ∧ RFr lo w w' := by
  have HE : Hid (Pl.putAt c f s.l = Pl.place f s.l ∧ Pl.putL c f s.l = s.l.take (Pl.place f s.l) ++ Pl.zero :: s.l.drop (Pl.place f s.l)) := Lib.hid (by unfold Pl.putAt Pl.putL; rw [if_pos ht, if_pos ht]; exact ⟨rfl, rfl⟩)
  obtain ⟨A, cp, rfl⟩ := own_slice h.o
  obtain ⟨n, hn'⟩ : ∃ n, s.l.length = n := ⟨_, rfl⟩
  have H : Hid (RAt lo w R c s (.slice A n cp)) := Lib.hid (by rw [← hn']; exact h)
  have Hn := Lib.hid hn'
  have hcap := own_cap H.out.o
  rw [hn'] at hcap hn
  have hncp := hcap.1
  have HCap := Lib.hid hcap
  have c0 : w.cell? ⟨R, 0, none⟩ = some (.int .u8 0) := by rw [← ht]; exact h.b.cell 0
  have c21 : w.cell? ⟨R, 21, none⟩ = some (.slice A n cp) := H.out.b.cell 21
  have hlt := h.b.lt
  have fz := h.b.frozen
  clear h hn' hcap ht
  obtain ⟨i0, hi0, hz0', hz1, hz2⟩ := info_parts rnb_info
  go_enter Try.func120, Try.ntmps120
  go_wp2_with fail
  go_loopw [6] (fun x wr => ∃ k : Nat, k ≤ n ∧ x = .int .i64 k ∧ wr = w ∧ Hid (∀ y ∈ s.l.take k, y.ad < f)) (fun x _ => n - (intOf x).toNat)
  case atStart => exact ⟨0, Nat.zero_le _, rfl, rfl, Lib.hid (by simp)⟩
  case round =>
    obtain ⟨k, hk, rfl, rfl, HI⟩ := hrel
    by_cases hlt2 : k < n
    · obtain ⟨x, hx⟩ : ∃ x, s.l[k]? = some x := ⟨_, List.getElem?_eq_getElem (by rw [Hn.out]; exact hlt2)⟩
      obtain ⟨b, n', cap, e, hn2, hb, hc⟩ := H.out.o.knb hx
      cases e
      have q : wr.cell? ⟨b, k * 9 + 1, none⟩ = some (.int .u32 x.ad) := hc 1 _ rfl
      have Hx := Lib.hid hx
      have hkn : (k : Int) < (n : Int) := by omega
      clear hx hn2 hc
      by_cases hf : x.ad < f
      · have HN : Hid (∀ y ∈ s.l.take (k + 1), y.ad < f) := Lib.hid (by
          intro y hy
          rw [List.take_add_one, Hx.out] at hy
          rcases List.mem_append.1 hy with e | e
          · exact HI.out y e
          · simp at e; rw [e]; exact hf)
        go_wp2_with fail
        go_roundw
        case rel => exact ⟨k + 1, by omega, by simp, trivial, HN⟩
        case measure => simp [intOf]; omega
      · have HP : Hid (Pl.place f s.l = k) := Lib.hid (place_go HI.out (by rw [Hn.out]; omega) (fun y hy => by rw [Hx.out] at hy; cases hy; exact hf))
        have HRd1 : Hid (Reads wr wr.heap.size 9 (some ⟨b, 0, none⟩) k ((s.l.take k).flatMap rcells)) := Lib.hid (reads_take H.out.o (by rw [Hn.out]; omega))
        have HRd2 : Hid (Reads wr wr.heap.size 9 (some ⟨b, k * 9, none⟩) (n - k) ((s.l.drop k).flatMap rcells)) := Lib.hid (reads_drop H.out.o (by rw [Hn.out]; omega))
        have hone1 := rk_one (s.l.take k)
        have HOne2 := Lib.hid (rk_one (s.l.drop k))
        have h60 := hn
        go_upto_region 10 with (first
          | (at_builtin; refine wpList_append_any _ rfl (.tmp 39) (.tmp 45) _ rfl wr.heap.size 157 i0 _ 9 32 Try.underlying146 hi0 hz0' hz1 hz2 rfl (by omega) (.slice none 0 0) 0 [] rfl (World.ownsRow_nil _ _ _ _) wr.heap.size (some ⟨b, 0, none⟩) k cp _ rfl HRd1.out hone1 (by simp [maxLen] <;> omega) (by simp <;> omega) (Nat.le_refl _) ?_; intro v1 w1 hown1 hg1 _; rw [List.nil_append, Nat.zero_add] at hown1; have HG1 : Hid (Below wr.heap.size wr w1) := Lib.hid ((Below.refl _ wr).grown hg1 (Nat.le_refl _) (fun k e => by simp [Value.ownBlock] at e)); obtain ⟨va, vc, rfl⟩ := own_slice hown1; have HOwn1 := Lib.hid hown1; clear hown1 hg1 hone1; have HSz1 : Hid (wr.heap.size ≤ w1.heap.size) := Lib.hid HG1.out.size; have hsz1 : wr.heap.size ≤ w1.heap.size := HSz1.out; have HOz : Hid ((w1.alloc (.cells #[.int .u32 0, .int .u32 0, .int .u8 0, .int .u8 0, .int .u32 0, .int .u32 0, .int .u8 0, .int .u32 0, .bool false] 157)).ownsRow wr.heap.size 157 9 (.slice va k vc) k ((s.l.take k).flatMap rcells)) := Lib.hid ((Frame.of_below (S := fun _ => False) ((Below.refl _ w1).alloc (Nat.le_refl _) _)).own HOwn1.out (fun _ _ e => e)))
          | (at_builtin; refine wpList_append_any _ rfl (.tmp 47) (.tmp 49) _ rfl wr.heap.size 157 i0 _ 9 32 Try.underlying146 hi0 hz0' hz1 hz2 rfl (by omega) (.slice va k vc) k _ rfl HOz.out _ (some ⟨w1.heap.size, 0, none⟩) 1 1 _ rfl (Reads.of_own (World.ownsRow_lit (base := 0) (e := 157) (size := 9) w1 #[.int .u32 0, .int .u32 0, .int .u8 0, .int .u8 0, .int .u32 0, .int .u32 0, .int .u8 0, .int .u32 0, .bool false] 1 (Nat.zero_le _) (by simp [maxLen]) rfl)) (by simp [Value.oneCell']) (by unfold maxLen; omega) (by omega) (by simp <;> omega) ?_; intro v2 w2 hown2 hg2 _; obtain ⟨vb, vd, rfl⟩ := own_slice hown2; have HG2 : Hid (Below wr.heap.size wr w2) := Lib.hid ((HG1.out.alloc HG1.out.size _).grown hg2 (by have := HG1.out.size; simp <;> omega) (fun j e => (HOz.out.lt j e).1)); have HOwn2 := Lib.hid hown2; clear hown2 hg2))
        have HR2 := Lib.hid (H.out.below HG2.out)
        have d21 : w2.cell? ⟨R, 21, none⟩ = some (.slice (some ⟨b, 0, none⟩) n cp) := HR2.out.b.cell 21
        have hsz2 : wr.heap.size ≤ w2.heap.size := HG2.out.size
        have hRl2 := HR2.out.b.lt
        have fz2 := HR2.out.b.frozen
        go_upto_region 11 with (at_builtin; refine wpList_append_any _ rfl (.tmp 51) (.tmp 57) _ rfl wr.heap.size 157 i0 _ 9 32 Try.underlying146 hi0 hz0' hz1 hz2 rfl (by omega) (.slice vb (k + 1) vd) (k + 1) _ rfl HOwn2.out wr.heap.size (some ⟨b, k * 9, none⟩) ((n - k)) ((cp - k)) _ rfl (HRd2.out.below HG2.out) HOne2.out (by unfold maxLen; omega) (by omega) hsz2 ?_; intro v3 w3 hown3 hg3 _; obtain ⟨vx, vy, rfl⟩ := own_slice hown3; have HG3 : Hid (Below wr.heap.size wr w3) := Lib.hid (HG2.out.grown hg3 hsz2 (fun j e => (HOwn2.out.lt j e).1)); have HOwn3 := Lib.hid hown3; clear hown3 hg3)
        have HR3 := Lib.hid (H.out.below HG3.out)
        have d213 : w3.cell? ⟨R, 21, none⟩ = some (.slice (some ⟨b, 0, none⟩) n cp) := HR3.out.b.cell 21
        have hRl3 := HR3.out.b.lt
        have fz3 := HR3.out.b.frozen
        go_upto_region 12 with fail
        obtain ⟨w4, hw4⟩ : ∃ w4, w4 = w3.setCell ⟨R, 21, none⟩ (.slice vx (k + 1 + (n - k)) vy) := ⟨_, rfl⟩
        have hk4 : RBlk w4 R c { s with l := Pl.putL c f s.l } (.slice vx (k + 1 + (n - k)) vy) := by rw [hw4]; exact HR3.out.b.set_ 21 _
        have hF4 : Frame (fun j => j = R) w3 w4 := by rw [hw4]; exact (Frame.refl _ w3).setB 21 _
        have hLen : (Pl.putL c f s.l).length = k + 1 + (n - k) := by
          rw [HE.out.2, HP.out, List.length_append, List.length_take, List.length_cons, List.length_drop, Hn.out]
          omega
        have hCel : ((s.l.take k).flatMap rcells ++ [.int .u32 0, .int .u32 0, .int .u8 0, .int .u8 0, .int .u32 0, .int .u32 0, .int .u8 0, .int .u32 0, .bool false]) ++ (s.l.drop k).flatMap rcells = (Pl.putL c f s.l).flatMap rcells := by
          rw [HE.out.2, HP.out, List.flatMap_append, List.flatMap_cons, List.append_assoc]
          rfl
        have ho4 : ROwn lo w4 (.slice vx (k + 1 + (n - k)) vy) (Pl.putL c f s.l) := by
          have h1 := HOwn3.out
          rw [show ((s.l.take k).flatMap rcells ++ (#[.int .u32 0, .int .u32 0, .int .u8 0, .int .u8 0, .int .u32 0, .int .u32 0, .int .u8 0, .int .u32 0, .bool false] : Array Value).toList) ++ (s.l.drop k).flatMap rcells = (Pl.putL c f s.l).flatMap rcells from hCel] at h1
          show w4.ownsRow lo _ 9 _ (Pl.putL c f s.l).length _
          rw [hLen]
          refine ownsRow_lower (hF4.own h1 (fun g hg e => ?_)) (by have := H.out.loR; omega)
          have := (own_cells h1 g hg).1
          omega
        have HF4 := Lib.hid ((RFr.of_below HG3.out).trans (RFr.one HR3.out.b H.out.loR (.inl rfl) hF4))
        have HK4 := Lib.hid hk4
        have HO4 := Lib.hid ho4
        rw [← hw4]
        clear hw4 hk4 hF4 ho4 hLen hCel d21 d213 fz2 fz3 hRl2 hRl3
        go_wp2_with fail
        go_ret
        refine ⟨(by rw [HE.out.1, HP.out] <;> rfl), ?_⟩
        first | exact ⟨_, ⟨H.out.loR, HK4.out, HO4.out⟩, HF4.out⟩ | exact ⟨⟨_, ⟨H.out.loR, HK4.out, HO4.out⟩⟩, HF4.out⟩
    · obtain rfl : k = n := by omega
      have HP : Hid (Pl.place f s.l = k) := Lib.hid (place_go HI.out (by rw [Hn.out]; omega) (fun y hy => by rw [List.getElem?_eq_none (by rw [Hn.out]; omega)] at hy; cases hy))
      have HD0 : Hid ((s.l.drop k).flatMap rcells = []) := Lib.hid (by rw [List.drop_eq_nil_of_le (by rw [Hn.out]; omega)]; rfl)
      have hz0 : ∀ A2 : Option Addr, Reads wr wr.heap.size 9 A2 0 ((s.l.drop k).flatMap rcells) := fun A2 => by rw [HD0.out]; exact ⟨rfl, fun h => absurd h (by omega)⟩
      have HZ0 := Lib.hid hz0
      clear hz0
      cases A with
      | none =>
        have hkz := (HCap.out.2.1 rfl).1
        have hcz := (HCap.out.2.1 rfl).2
        subst hkz hcz
        have HRd1 : Hid (Reads wr wr.heap.size 9 none 0 ((s.l.take 0).flatMap rcells)) := Lib.hid (⟨by rw [rflat_length]; simp, fun h => absurd h (by omega)⟩)
        have HRd2 : Hid (Reads wr wr.heap.size 9 none 0 ((s.l.drop 0).flatMap rcells)) := Lib.hid (HZ0.out none)
        have hone1 := rk_one (s.l.take 0)
        have HOne2 := Lib.hid (rk_one (s.l.drop 0))
        have h60 := hn
        go_upto_region 10 with (first
          | (at_builtin; refine wpList_append_any _ rfl (.tmp 39) (.tmp 45) _ rfl wr.heap.size 157 i0 _ 9 32 Try.underlying146 hi0 hz0' hz1 hz2 rfl (by omega) (.slice none 0 0) 0 [] rfl (World.ownsRow_nil _ _ _ _) wr.heap.size none 0 0 _ rfl HRd1.out hone1 (by simp [maxLen] <;> omega) (by simp <;> omega) (Nat.le_refl _) ?_; intro v1 w1 hown1 hg1 _; rw [List.nil_append, Nat.zero_add] at hown1; have HG1 : Hid (Below wr.heap.size wr w1) := Lib.hid ((Below.refl _ wr).grown hg1 (Nat.le_refl _) (fun k e => by simp [Value.ownBlock] at e)); obtain ⟨va, vc, rfl⟩ := own_slice hown1; have HOwn1 := Lib.hid hown1; clear hown1 hg1 hone1; have HSz1 : Hid (wr.heap.size ≤ w1.heap.size) := Lib.hid HG1.out.size; have hsz1 : wr.heap.size ≤ w1.heap.size := HSz1.out; have HOz : Hid ((w1.alloc (.cells #[.int .u32 0, .int .u32 0, .int .u8 0, .int .u8 0, .int .u32 0, .int .u32 0, .int .u8 0, .int .u32 0, .bool false] 157)).ownsRow wr.heap.size 157 9 (.slice va 0 vc) 0 ((s.l.take 0).flatMap rcells)) := Lib.hid ((Frame.of_below (S := fun _ => False) ((Below.refl _ w1).alloc (Nat.le_refl _) _)).own HOwn1.out (fun _ _ e => e)))
          | (at_builtin; refine wpList_append_any _ rfl (.tmp 47) (.tmp 49) _ rfl wr.heap.size 157 i0 _ 9 32 Try.underlying146 hi0 hz0' hz1 hz2 rfl (by omega) (.slice va 0 vc) 0 _ rfl HOz.out _ (some ⟨w1.heap.size, 0, none⟩) 1 1 _ rfl (Reads.of_own (World.ownsRow_lit (base := 0) (e := 157) (size := 9) w1 #[.int .u32 0, .int .u32 0, .int .u8 0, .int .u8 0, .int .u32 0, .int .u32 0, .int .u8 0, .int .u32 0, .bool false] 1 (Nat.zero_le _) (by simp [maxLen]) rfl)) (by simp [Value.oneCell']) (by unfold maxLen; omega) (by omega) (by simp <;> omega) ?_; intro v2 w2 hown2 hg2 _; obtain ⟨vb, vd, rfl⟩ := own_slice hown2; have HG2 : Hid (Below wr.heap.size wr w2) := Lib.hid ((HG1.out.alloc HG1.out.size _).grown hg2 (by have := HG1.out.size; simp <;> omega) (fun j e => (HOz.out.lt j e).1)); have HOwn2 := Lib.hid hown2; clear hown2 hg2))
        have HR2 := Lib.hid (H.out.below HG2.out)
        have d21 : w2.cell? ⟨R, 21, none⟩ = some (.slice none 0 0) := HR2.out.b.cell 21
        have hsz2 : wr.heap.size ≤ w2.heap.size := HG2.out.size
        have hRl2 := HR2.out.b.lt
        have fz2 := HR2.out.b.frozen
        go_upto_region 11 with (at_builtin; refine wpList_append_any _ rfl (.tmp 51) (.tmp 57) _ rfl wr.heap.size 157 i0 _ 9 32 Try.underlying146 hi0 hz0' hz1 hz2 rfl (by omega) (.slice vb (0 + 1) vd) (0 + 1) _ rfl HOwn2.out wr.heap.size none (0) (0) _ rfl (HRd2.out.below HG2.out) HOne2.out (by unfold maxLen; omega) (by omega) hsz2 ?_; intro v3 w3 hown3 hg3 _; obtain ⟨vx, vy, rfl⟩ := own_slice hown3; have HG3 : Hid (Below wr.heap.size wr w3) := Lib.hid (HG2.out.grown hg3 hsz2 (fun j e => (HOwn2.out.lt j e).1)); have HOwn3 := Lib.hid hown3; clear hown3 hg3)
        have HR3 := Lib.hid (H.out.below HG3.out)
        have d213 : w3.cell? ⟨R, 21, none⟩ = some (.slice none 0 0) := HR3.out.b.cell 21
        have hRl3 := HR3.out.b.lt
        have fz3 := HR3.out.b.frozen
        go_upto_region 12 with fail
        obtain ⟨w4, hw4⟩ : ∃ w4, w4 = w3.setCell ⟨R, 21, none⟩ (.slice vx (0 + 1 + 0) vy) := ⟨_, rfl⟩
        have hk4 : RBlk w4 R c { s with l := Pl.putL c f s.l } (.slice vx (0 + 1 + 0) vy) := by rw [hw4]; exact HR3.out.b.set_ 21 _
        have hF4 : Frame (fun j => j = R) w3 w4 := by rw [hw4]; exact (Frame.refl _ w3).setB 21 _
        have hLen : (Pl.putL c f s.l).length = 0 + 1 + 0 := by
          rw [HE.out.2, HP.out, List.length_append, List.length_take, List.length_cons, List.length_drop, Hn.out]
          omega
        have hCel : ((s.l.take 0).flatMap rcells ++ [.int .u32 0, .int .u32 0, .int .u8 0, .int .u8 0, .int .u32 0, .int .u32 0, .int .u8 0, .int .u32 0, .bool false]) ++ (s.l.drop 0).flatMap rcells = (Pl.putL c f s.l).flatMap rcells := by
          rw [HE.out.2, HP.out, List.flatMap_append, List.flatMap_cons, List.append_assoc]
          rfl
        have ho4 : ROwn lo w4 (.slice vx (0 + 1 + 0) vy) (Pl.putL c f s.l) := by
          have h1 := HOwn3.out
          rw [show ((s.l.take 0).flatMap rcells ++ (#[.int .u32 0, .int .u32 0, .int .u8 0, .int .u8 0, .int .u32 0, .int .u32 0, .int .u8 0, .int .u32 0, .bool false] : Array Value).toList) ++ (s.l.drop 0).flatMap rcells = (Pl.putL c f s.l).flatMap rcells from hCel] at h1
          show w4.ownsRow lo _ 9 _ (Pl.putL c f s.l).length _
          rw [hLen]
          refine ownsRow_lower (hF4.own h1 (fun g hg e => ?_)) (by have := H.out.loR; omega)
          have := (own_cells h1 g hg).1
          omega
        have HF4 := Lib.hid ((RFr.of_below HG3.out).trans (RFr.one HR3.out.b H.out.loR (.inl rfl) hF4))
        have HK4 := Lib.hid hk4
        have HO4 := Lib.hid ho4
        rw [← hw4]
        clear hw4 hk4 hF4 ho4 hLen hCel d21 d213 fz2 fz3 hRl2 hRl3
        go_wp2_with fail
        go_ret
        refine ⟨(by rw [HE.out.1, HP.out] <;> rfl), ?_⟩
        first | exact ⟨_, ⟨H.out.loR, HK4.out, HO4.out⟩, HF4.out⟩ | exact ⟨⟨_, ⟨H.out.loR, HK4.out, HO4.out⟩⟩, HF4.out⟩
      | some a =>
        obtain ⟨b, hab⟩ : ∃ b, a = ⟨b, 0, none⟩ := ⟨_, HCap.out.2.2 a rfl⟩
        subst hab
        by_cases hcn : cp = k
        · subst hcn
          have HRd1 : Hid (Reads wr wr.heap.size 9 (some ⟨b, 0, none⟩) cp ((s.l.take cp).flatMap rcells)) := Lib.hid (reads_take H.out.o (by rw [Hn.out]; omega))
          have HRd2 : Hid (Reads wr wr.heap.size 9 (some ⟨b, 0, none⟩) 0 ((s.l.drop cp).flatMap rcells)) := Lib.hid (HZ0.out _)
          have hone1 := rk_one (s.l.take cp)
          have HOne2 := Lib.hid (rk_one (s.l.drop cp))
          have h60 := hn
          go_upto_region 10 with (first
            | (at_builtin; refine wpList_append_any _ rfl (.tmp 39) (.tmp 45) _ rfl wr.heap.size 157 i0 _ 9 32 Try.underlying146 hi0 hz0' hz1 hz2 rfl (by omega) (.slice none 0 0) 0 [] rfl (World.ownsRow_nil _ _ _ _) wr.heap.size (some ⟨b, 0, none⟩) cp cp _ rfl HRd1.out hone1 (by simp [maxLen] <;> omega) (by simp <;> omega) (Nat.le_refl _) ?_; intro v1 w1 hown1 hg1 _; rw [List.nil_append, Nat.zero_add] at hown1; have HG1 : Hid (Below wr.heap.size wr w1) := Lib.hid ((Below.refl _ wr).grown hg1 (Nat.le_refl _) (fun k e => by simp [Value.ownBlock] at e)); obtain ⟨va, vc, rfl⟩ := own_slice hown1; have HOwn1 := Lib.hid hown1; clear hown1 hg1 hone1; have HSz1 : Hid (wr.heap.size ≤ w1.heap.size) := Lib.hid HG1.out.size; have hsz1 : wr.heap.size ≤ w1.heap.size := HSz1.out; have HOz : Hid ((w1.alloc (.cells #[.int .u32 0, .int .u32 0, .int .u8 0, .int .u8 0, .int .u32 0, .int .u32 0, .int .u8 0, .int .u32 0, .bool false] 157)).ownsRow wr.heap.size 157 9 (.slice va cp vc) cp ((s.l.take cp).flatMap rcells)) := Lib.hid ((Frame.of_below (S := fun _ => False) ((Below.refl _ w1).alloc (Nat.le_refl _) _)).own HOwn1.out (fun _ _ e => e)))
            | (at_builtin; refine wpList_append_any _ rfl (.tmp 47) (.tmp 49) _ rfl wr.heap.size 157 i0 _ 9 32 Try.underlying146 hi0 hz0' hz1 hz2 rfl (by omega) (.slice va cp vc) cp _ rfl HOz.out _ (some ⟨w1.heap.size, 0, none⟩) 1 1 _ rfl (Reads.of_own (World.ownsRow_lit (base := 0) (e := 157) (size := 9) w1 #[.int .u32 0, .int .u32 0, .int .u8 0, .int .u8 0, .int .u32 0, .int .u32 0, .int .u8 0, .int .u32 0, .bool false] 1 (Nat.zero_le _) (by simp [maxLen]) rfl)) (by simp [Value.oneCell']) (by unfold maxLen; omega) (by omega) (by simp <;> omega) ?_; intro v2 w2 hown2 hg2 _; obtain ⟨vb, vd, rfl⟩ := own_slice hown2; have HG2 : Hid (Below wr.heap.size wr w2) := Lib.hid ((HG1.out.alloc HG1.out.size _).grown hg2 (by have := HG1.out.size; simp <;> omega) (fun j e => (HOz.out.lt j e).1)); have HOwn2 := Lib.hid hown2; clear hown2 hg2))
          have HR2 := Lib.hid (H.out.below HG2.out)
          have d21 : w2.cell? ⟨R, 21, none⟩ = some (.slice (some ⟨b, 0, none⟩) cp cp) := HR2.out.b.cell 21
          have hsz2 : wr.heap.size ≤ w2.heap.size := HG2.out.size
          have hRl2 := HR2.out.b.lt
          have fz2 := HR2.out.b.frozen
          go_upto_region 11 with (at_builtin; refine wpList_append_any _ rfl (.tmp 51) (.tmp 57) _ rfl wr.heap.size 157 i0 _ 9 32 Try.underlying146 hi0 hz0' hz1 hz2 rfl (by omega) (.slice vb (cp + 1) vd) (cp + 1) _ rfl HOwn2.out wr.heap.size (some ⟨b, 0, none⟩) (0) (0) _ rfl (HRd2.out.below HG2.out) HOne2.out (by unfold maxLen; omega) (by omega) hsz2 ?_; intro v3 w3 hown3 hg3 _; obtain ⟨vx, vy, rfl⟩ := own_slice hown3; have HG3 : Hid (Below wr.heap.size wr w3) := Lib.hid (HG2.out.grown hg3 hsz2 (fun j e => (HOwn2.out.lt j e).1)); have HOwn3 := Lib.hid hown3; clear hown3 hg3)
          have HR3 := Lib.hid (H.out.below HG3.out)
          have d213 : w3.cell? ⟨R, 21, none⟩ = some (.slice (some ⟨b, 0, none⟩) cp cp) := HR3.out.b.cell 21
          have hRl3 := HR3.out.b.lt
          have fz3 := HR3.out.b.frozen
          go_upto_region 12 with fail
          obtain ⟨w4, hw4⟩ : ∃ w4, w4 = w3.setCell ⟨R, 21, none⟩ (.slice vx (cp + 1 + 0) vy) := ⟨_, rfl⟩
          have hk4 : RBlk w4 R c { s with l := Pl.putL c f s.l } (.slice vx (cp + 1 + 0) vy) := by rw [hw4]; exact HR3.out.b.set_ 21 _
          have hF4 : Frame (fun j => j = R) w3 w4 := by rw [hw4]; exact (Frame.refl _ w3).setB 21 _
          have hLen : (Pl.putL c f s.l).length = cp + 1 + 0 := by
            rw [HE.out.2, HP.out, List.length_append, List.length_take, List.length_cons, List.length_drop, Hn.out]
            omega
          have hCel : ((s.l.take cp).flatMap rcells ++ [.int .u32 0, .int .u32 0, .int .u8 0, .int .u8 0, .int .u32 0, .int .u32 0, .int .u8 0, .int .u32 0, .bool false]) ++ (s.l.drop cp).flatMap rcells = (Pl.putL c f s.l).flatMap rcells := by
            rw [HE.out.2, HP.out, List.flatMap_append, List.flatMap_cons, List.append_assoc]
            rfl
          have ho4 : ROwn lo w4 (.slice vx (cp + 1 + 0) vy) (Pl.putL c f s.l) := by
            have h1 := HOwn3.out
            rw [show ((s.l.take cp).flatMap rcells ++ (#[.int .u32 0, .int .u32 0, .int .u8 0, .int .u8 0, .int .u32 0, .int .u32 0, .int .u8 0, .int .u32 0, .bool false] : Array Value).toList) ++ (s.l.drop cp).flatMap rcells = (Pl.putL c f s.l).flatMap rcells from hCel] at h1
            show w4.ownsRow lo _ 9 _ (Pl.putL c f s.l).length _
            rw [hLen]
            refine ownsRow_lower (hF4.own h1 (fun g hg e => ?_)) (by have := H.out.loR; omega)
            have := (own_cells h1 g hg).1
            omega
          have HF4 := Lib.hid ((RFr.of_below HG3.out).trans (RFr.one HR3.out.b H.out.loR (.inl rfl) hF4))
          have HK4 := Lib.hid hk4
          have HO4 := Lib.hid ho4
          rw [← hw4]
          clear hw4 hk4 hF4 ho4 hLen hCel d21 d213 fz2 fz3 hRl2 hRl3
          go_wp2_with fail
          go_ret
          refine ⟨(by rw [HE.out.1, HP.out] <;> rfl), ?_⟩
          first | exact ⟨_, ⟨H.out.loR, HK4.out, HO4.out⟩, HF4.out⟩ | exact ⟨⟨_, ⟨H.out.loR, HK4.out, HO4.out⟩⟩, HF4.out⟩
        · have hcn2 : k < cp := by omega
          have HRd1 : Hid (Reads wr wr.heap.size 9 (some ⟨b, 0, none⟩) k ((s.l.take k).flatMap rcells)) := Lib.hid (reads_take H.out.o (by rw [Hn.out]; omega))
          have HRd2 : Hid (Reads wr wr.heap.size 9 (some ⟨b, k * 9, none⟩) 0 ((s.l.drop k).flatMap rcells)) := Lib.hid (HZ0.out _)
          have hone1 := rk_one (s.l.take k)
          have HOne2 := Lib.hid (rk_one (s.l.drop k))
          have h60 := hn
          go_upto_region 10 with (first
            | (at_builtin; refine wpList_append_any _ rfl (.tmp 39) (.tmp 45) _ rfl wr.heap.size 157 i0 _ 9 32 Try.underlying146 hi0 hz0' hz1 hz2 rfl (by omega) (.slice none 0 0) 0 [] rfl (World.ownsRow_nil _ _ _ _) wr.heap.size (some ⟨b, 0, none⟩) k cp _ rfl HRd1.out hone1 (by simp [maxLen] <;> omega) (by simp <;> omega) (Nat.le_refl _) ?_; intro v1 w1 hown1 hg1 _; rw [List.nil_append, Nat.zero_add] at hown1; have HG1 : Hid (Below wr.heap.size wr w1) := Lib.hid ((Below.refl _ wr).grown hg1 (Nat.le_refl _) (fun k e => by simp [Value.ownBlock] at e)); obtain ⟨va, vc, rfl⟩ := own_slice hown1; have HOwn1 := Lib.hid hown1; clear hown1 hg1 hone1; have HSz1 : Hid (wr.heap.size ≤ w1.heap.size) := Lib.hid HG1.out.size; have hsz1 : wr.heap.size ≤ w1.heap.size := HSz1.out; have HOz : Hid ((w1.alloc (.cells #[.int .u32 0, .int .u32 0, .int .u8 0, .int .u8 0, .int .u32 0, .int .u32 0, .int .u8 0, .int .u32 0, .bool false] 157)).ownsRow wr.heap.size 157 9 (.slice va k vc) k ((s.l.take k).flatMap rcells)) := Lib.hid ((Frame.of_below (S := fun _ => False) ((Below.refl _ w1).alloc (Nat.le_refl _) _)).own HOwn1.out (fun _ _ e => e)))
            | (at_builtin; refine wpList_append_any _ rfl (.tmp 47) (.tmp 49) _ rfl wr.heap.size 157 i0 _ 9 32 Try.underlying146 hi0 hz0' hz1 hz2 rfl (by omega) (.slice va k vc) k _ rfl HOz.out _ (some ⟨w1.heap.size, 0, none⟩) 1 1 _ rfl (Reads.of_own (World.ownsRow_lit (base := 0) (e := 157) (size := 9) w1 #[.int .u32 0, .int .u32 0, .int .u8 0, .int .u8 0, .int .u32 0, .int .u32 0, .int .u8 0, .int .u32 0, .bool false] 1 (Nat.zero_le _) (by simp [maxLen]) rfl)) (by simp [Value.oneCell']) (by unfold maxLen; omega) (by omega) (by simp <;> omega) ?_; intro v2 w2 hown2 hg2 _; obtain ⟨vb, vd, rfl⟩ := own_slice hown2; have HG2 : Hid (Below wr.heap.size wr w2) := Lib.hid ((HG1.out.alloc HG1.out.size _).grown hg2 (by have := HG1.out.size; simp <;> omega) (fun j e => (HOz.out.lt j e).1)); have HOwn2 := Lib.hid hown2; clear hown2 hg2))
          have HR2 := Lib.hid (H.out.below HG2.out)
          have d21 : w2.cell? ⟨R, 21, none⟩ = some (.slice (some ⟨b, 0, none⟩) k cp) := HR2.out.b.cell 21
          have hsz2 : wr.heap.size ≤ w2.heap.size := HG2.out.size
          have hRl2 := HR2.out.b.lt
          have fz2 := HR2.out.b.frozen
          go_upto_region 11 with (at_builtin; refine wpList_append_any _ rfl (.tmp 51) (.tmp 57) _ rfl wr.heap.size 157 i0 _ 9 32 Try.underlying146 hi0 hz0' hz1 hz2 rfl (by omega) (.slice vb (k + 1) vd) (k + 1) _ rfl HOwn2.out wr.heap.size (some ⟨b, k * 9, none⟩) (0) ((cp - k)) _ rfl (HRd2.out.below HG2.out) HOne2.out (by unfold maxLen; omega) (by omega) hsz2 ?_; intro v3 w3 hown3 hg3 _; obtain ⟨vx, vy, rfl⟩ := own_slice hown3; have HG3 : Hid (Below wr.heap.size wr w3) := Lib.hid (HG2.out.grown hg3 hsz2 (fun j e => (HOwn2.out.lt j e).1)); have HOwn3 := Lib.hid hown3; clear hown3 hg3)
          have HR3 := Lib.hid (H.out.below HG3.out)
          have d213 : w3.cell? ⟨R, 21, none⟩ = some (.slice (some ⟨b, 0, none⟩) k cp) := HR3.out.b.cell 21
          have hRl3 := HR3.out.b.lt
          have fz3 := HR3.out.b.frozen
          go_upto_region 12 with fail
          obtain ⟨w4, hw4⟩ : ∃ w4, w4 = w3.setCell ⟨R, 21, none⟩ (.slice vx (k + 1 + 0) vy) := ⟨_, rfl⟩
          have hk4 : RBlk w4 R c { s with l := Pl.putL c f s.l } (.slice vx (k + 1 + 0) vy) := by rw [hw4]; exact HR3.out.b.set_ 21 _
          have hF4 : Frame (fun j => j = R) w3 w4 := by rw [hw4]; exact (Frame.refl _ w3).setB 21 _
          have hLen : (Pl.putL c f s.l).length = k + 1 + 0 := by
            rw [HE.out.2, HP.out, List.length_append, List.length_take, List.length_cons, List.length_drop, Hn.out]
            omega
          have hCel : ((s.l.take k).flatMap rcells ++ [.int .u32 0, .int .u32 0, .int .u8 0, .int .u8 0, .int .u32 0, .int .u32 0, .int .u8 0, .int .u32 0, .bool false]) ++ (s.l.drop k).flatMap rcells = (Pl.putL c f s.l).flatMap rcells := by
            rw [HE.out.2, HP.out, List.flatMap_append, List.flatMap_cons, List.append_assoc]
            rfl
          have ho4 : ROwn lo w4 (.slice vx (k + 1 + 0) vy) (Pl.putL c f s.l) := by
            have h1 := HOwn3.out
            rw [show ((s.l.take k).flatMap rcells ++ (#[.int .u32 0, .int .u32 0, .int .u8 0, .int .u8 0, .int .u32 0, .int .u32 0, .int .u8 0, .int .u32 0, .bool false] : Array Value).toList) ++ (s.l.drop k).flatMap rcells = (Pl.putL c f s.l).flatMap rcells from hCel] at h1
            show w4.ownsRow lo _ 9 _ (Pl.putL c f s.l).length _
            rw [hLen]
            refine ownsRow_lower (hF4.own h1 (fun g hg e => ?_)) (by have := H.out.loR; omega)
            have := (own_cells h1 g hg).1
            omega
          have HF4 := Lib.hid ((RFr.of_below HG3.out).trans (RFr.one HR3.out.b H.out.loR (.inl rfl) hF4))
          have HK4 := Lib.hid hk4
          have HO4 := Lib.hid ho4
          rw [← hw4]
          clear hw4 hk4 hF4 ho4 hLen hCel d21 d213 fz2 fz3 hRl2 hRl3
          go_wp2_with fail
          go_ret
          refine ⟨(by rw [HE.out.1, HP.out] <;> rfl), ?_⟩
          first | exact ⟨_, ⟨H.out.loR, HK4.out, HO4.out⟩, HF4.out⟩ | exact ⟨⟨_, ⟨H.out.loR, HK4.out, HO4.out⟩⟩, HF4.out⟩
theorem rplace_any (h : RAt lo w R c s v) (hn : s.l.length ≤ 60000) (f : Int) :
    Calls Try.prog 120 #[.pointer (some ⟨R, 0, none⟩), .int .u32 f] w fun e w' => e = .returned (.int .i64 (Pl.putAt c f s.l)) ∧ ∃ v', RAt lo w' R c { s with l := Pl.putL c f s.l } v' ∧ RFr lo w w' := by
  by_cases ht : c.ty = 0
  · exact rplace_b h ht hn f
  · exact rplace_o h ht f
end
end Go.Proofs.Ytgbmhijgpdgdbaa
