/- The document's link: an election. -/
import Derived.Test.YtgbmhijgpdgdbaaLpRefDrop
import Derived.Test.YtgbmhijgpdgdbaaLpRElectAll
set_option maxHeartbeats 8000000
set_option maxRecDepth 20000
namespace Go.Proofs.Ytgbmhijgpdgdbaa
open Go.RowKit Go.Shelf
def vsK (l : List Kn) (k : Nat) : List El.V := ((l.take k).filter Pl.two).map Pl.voice
theorem vsK_yes {l : List Kn} {k : Nat} {x : Kn} (hx : l[k]? = some x) (h : Pl.two x = true) : vsK l (k + 1) = vsK l k ++ [Pl.voice x] := by
  unfold vsK
  rw [List.take_add_one, hx]
  simp [h]
theorem vsK_no {l : List Kn} {k : Nat} {x : Kn} (hx : l[k]? = some x) (h : Pl.two x = false) : vsK l (k + 1) = vsK l k := by
  unfold vsK
  rw [List.take_add_one, hx]
  simp [h]
theorem vsK_len (l : List Kn) (k : Nat) : (vsK l k).length ≤ k := by
  unfold vsK
  rw [List.length_map]
  exact Nat.le_trans (List.length_filter_le _ _) (by rw [List.length_take]; omega)
theorem vsK_all (l : List Kn) : vsK l l.length = (l.filter Pl.two).map Pl.voice := by unfold vsK; rw [List.take_length]
def upto (f : Kn → Kn) (k : Nat) (l : List Kn) : List Kn := (l.take k).map f ++ l.drop k
theorem upto_zero (f : Kn → Kn) (l : List Kn) : upto f 0 l = l := by simp [upto]
theorem upto_all (f : Kn → Kn) (l : List Kn) : upto f l.length l = l.map f := by simp [upto]
theorem upto_len (f : Kn → Kn) (k : Nat) (l : List Kn) : (upto f k l).length = l.length := by simp [upto]; omega
theorem upto_at {f : Kn → Kn} {k : Nat} {l : List Kn} {x : Kn} (h : l[k]? = some x) : (upto f k l)[k]? = some x := by
  have hk := (List.getElem?_eq_some_iff.1 h).1
  unfold upto
  rw [List.getElem?_append_right (by simp; omega), List.getElem?_drop, List.length_map, List.length_take, Nat.min_eq_left (by omega), Nat.sub_self]
  exact h
theorem upto_step {f : Kn → Kn} {k : Nat} {l : List Kn} {x : Kn} (h : l[k]? = some x) : (upto f k l).set k (f x) = upto f (k + 1) l := by
  obtain ⟨hk, hx⟩ := List.getElem?_eq_some_iff.1 h
  unfold upto
  rw [List.set_append_right _ _ (by simp; omega), List.length_map, List.length_take, Nat.min_eq_left (by omega), Nat.sub_self, List.take_add_one, h, List.drop_eq_getElem_cons hk, hx, List.set_cons_zero]
  simp
theorem upto_same {f : Kn → Kn} {k : Nat} {l : List Kn} {x : Kn} (h : l[k]? = some x) (hf : f x = x) : upto f (k + 1) l = upto f k l := by
  rw [← upto_step h, hf]
  apply List.ext_getElem?
  intro i
  by_cases hi : k = i
  · subst hi
    rw [List.getElem?_set_self (by rw [upto_len]; exact (List.getElem?_eq_some_iff.1 h).1), upto_at h]
  · rw [List.getElem?_set_ne hi]
section
variable {lo : Nat} {w w' : World} {R : Nat} {c : LC} {s : Pl.St} {v : Value}
theorem RAt.cellK {b n cap : Nat} (h : RAt lo w R c s (.slice (some ⟨b, 0, none⟩) n cap)) {i : Nat} {k k' : Kn} {j : Nat} {u : Value} (hi : s.l[i]? = some k) (hk : (rcells k).set j u = rcells k') (hj : j < 9) :
    RAt lo (w.setCell ⟨b, i * 9 + j, none⟩ u) R c { s with l := s.l.set i k' } (.slice (some ⟨b, 0, none⟩) n cap) ∧ RFr lo w (w.setCell ⟨b, i * 9 + j, none⟩ u) :=
  ⟨⟨h.loR, h.b.far (fun e => h.row_ne e.symm) _, h.o.set1 hi hk hj⟩, RFr.ofRow h.o ((Frame.refl _ w).setB _ _)⟩
def wakeIf (c : LC) (t : Int) (k : Kn) : Kn := if c.ty = 1 ∧ 5 ≤ t then Pl.wake c k else k
theorem wakeIf_no {c : LC} {t : Int} {k : Kn} (h : c.ty ≠ 1 ∨ ¬ 5 ≤ t ∨ k.st ≠ 0) : wakeIf c t k = k := by
  unfold wakeIf Pl.wake
  split
  · rename_i h1
    rcases h with h | h | h
    · exact absurd h1.1 h
    · exact absurd h1.2 h
    · rw [if_neg h]
  · rfl
theorem wakeIf_yes {c : LC} {t : Int} {k : Kn} (h1 : c.ty = 1) (h2 : 5 ≤ t) (h3 : k.st = 0) : wakeIf c t k = { k with st := 1, lf := c.dd } := by
  unfold wakeIf Pl.wake
  rw [if_pos ⟨h1, h2⟩, if_pos h3]
theorem elect_eq (c : LC) (s : Pl.St) (D E t : Int) (hD : (Pl.chosen c s).1 = D) (hE : (Pl.chosen c s).2 = E) (ht : elState c (Pl.chosen c s) = t) : Pl.elect c s = { s with dr := D, bd := E, st := t, l := s.l.map (wakeIf c t) } := by
  unfold Pl.elect
  rw [hD, hE, ht]
  have : (if c.ty = 1 ∧ 5 ≤ t then s.l.map (Pl.wake c) else s.l) = s.l.map (wakeIf c t) := by
    split
    · rename_i h
      congr 1
      funext k
      unfold wakeIf
      rw [if_pos h]
    · rename_i h
      have : wakeIf c t = id := by
        funext k
        unfold wakeIf
        rw [if_neg h]
        rfl
      rw [this, List.map_id]
  rw [this]
theorem relect_l (h : RAt lo w R c s v) (hn : s.l.length ≤ 60000) :
    Calls Try.prog 117 #[.pointer (some ⟨R, 0, none⟩)] w fun e w' => e = .returned (.tuple #[]) ∧ RAt lo w' R c (Pl.elect c s) v ∧ RFr lo w w' := by
  obtain ⟨A, cp, rfl⟩ := own_slice h.o
  obtain ⟨n, hn'⟩ : ∃ n, s.l.length = n := ⟨_, rfl⟩
  have H : Hid (RAt lo w R c s (.slice A n cp)) := Lib.hid (by rw [← hn']; exact h)
  have Hn := Lib.hid hn'
  have c1 : w.cell? ⟨R, 1, none⟩ = some (.int .u32 c.ro) := H.out.b.cell 1
  have c4 : w.cell? ⟨R, 4, none⟩ = some (.int .u32 c.ad) := H.out.b.cell 4
  have c9 : w.cell? ⟨R, 9, none⟩ = some (.int .u8 c.pr) := H.out.b.cell 9
  have c15 : w.cell? ⟨R, 15, none⟩ = some (.int .u32 s.dr) := H.out.b.cell 15
  have c16 : w.cell? ⟨R, 16, none⟩ = some (.int .u32 s.bd) := H.out.b.cell 16
  have hlt := H.out.b.lt
  rw [hn'] at hn ⊢
  clear h hn'
  obtain ⟨i0, hi0, hz0', hz1, hz2⟩ := info_parts Ev.rvoice_info
  go_enter Try.func117, Try.ntmps117
  go_upto_region 0 with fail
  go_cut [2] (fun p2 wx => ∃ S : Nat, p2 = .pointer (some ⟨S, 0, none⟩) ∧ Hid (Blk wx S 190 #[.int .u32 c.ro, .int .u32 c.ad, .int .u8 c.pr, .int .u32 s.dr, .int .u32 s.bd]) ∧ Hid (Below w.heap.size w wx))
  case first =>
    go_region_held3 (fun w' => w'.cell? ⟨R, 1, none⟩ = some (.int .u32 c.ro) ∧ w'.cell? ⟨R, 4, none⟩ = some (.int .u32 c.ad) ∧ w'.cell? ⟨R, 9, none⟩ = some (.int .u8 c.pr) ∧ w'.cell? ⟨R, 15, none⟩ = some (.int .u32 s.dr) ∧ w'.cell? ⟨R, 16, none⟩ = some (.int .u32 s.bd)) (go_keep) (fail)
    all_goals clear c1 c4 c9 c15 c16
    all_goals
      go_wp2_with fail
      go_meet
      case rel =>
        refine ⟨_, rfl, Lib.hid ?_, Lib.hid ?_⟩
        · exact (Blk.new w 190 #[.int .u32 c.ro, .int .u32 c.ad, .int .u8 c.pr, .int .u32 s.dr, .int .u32 s.bd]).drew
        · exact ((Below.refl _ w).alloc (Nat.le_refl _) _).drew
  case rest =>
  obtain ⟨S, rfl, HS1, HB1⟩ := hcut
  obtain ⟨w1, hw1⟩ : ∃ w1, w1 = wc := ⟨_, rfl⟩
  rw [← hw1] at HS1 HB1 ⊢
  clear hw1 c1 c4 c9 c15 c16 hlt
  have H1 := Lib.hid (H.out.below HB1.out)
  have hS1 := HS1.out.lt
  go_wp2_with fail
  go_loopw [3, 4] (fun ov x wr => ∃ k : Nat, k ≤ n ∧ x = .int .i64 k ∧ (∃ oa oc, ov = .slice oa (vsK s.l k).length oc ∧ Hid (wr.ownsRow w1.heap.size 190 5 (.slice oa (vsK s.l k).length oc) (vsK s.l k).length ((vsK s.l k).flatMap Ev.cells))) ∧ Hid (Below w1.heap.size w1 wr)) (fun _ x _ => n - (intOf x).toNat)
  case atStart => exact ⟨0, Nat.zero_le _, rfl, ⟨none, 0, rfl, Lib.hid (World.ownsRow_nil _ _ _ _)⟩, Lib.hid (Below.refl _ _)⟩
  case round =>
    obtain ⟨k, hk, rfl, ⟨oa, oc, rfl, HS⟩, HB⟩ := hrel
    obtain ⟨m, hm⟩ : ∃ m, (vsK s.l k).length = m := ⟨_, rfl⟩
    have hmn : m ≤ k := by rw [← hm]; exact vsK_len s.l k
    have hS := HS.out
    rw [hm] at hS ⊢
    have HSm := Lib.hid hS
    have Hm := Lib.hid hm
    have HRr := Lib.hid (H1.out.below HB.out)
    have c21r : wr.cell? ⟨R, 21, none⟩ = some (.slice A n cp) := HRr.out.b.cell 21
    have hRl := HRr.out.b.lt
    have hSr := HS1.out.below HB.out hS1
    have HSr := Lib.hid hSr
    clear hS hm HS hSr
    by_cases hlt2 : k < n
    · obtain ⟨x, hx⟩ : ∃ x, s.l[k]? = some x := ⟨_, List.getElem?_eq_getElem (by rw [Hn.out]; exact hlt2)⟩
      obtain ⟨b, n', cap, e, hn2, hb, hc⟩ := HRr.out.o.knb hx
      cases e
      have q0 : wr.cell? ⟨b, k * 9, none⟩ = some (.int .u32 x.ro) := hc 0 _ rfl
      have q1 : wr.cell? ⟨b, k * 9 + 1, none⟩ = some (.int .u32 x.ad) := hc 1 _ rfl
      have q2 : wr.cell? ⟨b, k * 9 + 2, none⟩ = some (.int .u8 x.st) := hc 2 _ rfl
      have q3 : wr.cell? ⟨b, k * 9 + 3, none⟩ = some (.int .u8 x.pr) := hc 3 _ rfl
      have q4 : wr.cell? ⟨b, k * 9 + 4, none⟩ = some (.int .u32 x.dr) := hc 4 _ rfl
      have q5 : wr.cell? ⟨b, k * 9 + 5, none⟩ = some (.int .u32 x.bd) := hc 5 _ rfl
      have q6 : wr.cell? ⟨b, k * 9 + 6, none⟩ = some (.int .u8 x.op) := hc 6 _ rfl
      have q7 : wr.cell? ⟨b, k * 9 + 7, none⟩ = some (.int .u32 x.lf) := hc 7 _ rfl
      have q8 : wr.cell? ⟨b, k * 9 + 8, none⟩ = some (.bool x.fu) := hc 8 _ rfl
      have Hx := Lib.hid hx
      have hkn : (k : Int) < (n : Int) := by omega
      clear hx hn2 hc
      rcases h3 : (x.st == 3) with _ | _
      · have HN : Hid (vsK s.l (k + 1) = vsK s.l k) := Lib.hid (vsK_no Hx.out h3)
        go_wp2_with fail
        go_roundw
        case rel => exact ⟨k + 1, by omega, by simp, ⟨oa, oc, by rw [HN.out, Hm.out], by rw [HN.out, Hm.out]; exact Lib.hid ((Frame.of_below (S := fun _ => False) ((Below.refl _ wr).alloc (Nat.le_refl _) _)).own HSm.out (fun _ _ e => e))⟩, Lib.hid (HB.out.alloc HB.out.size _)⟩
        case measure => simp [intOf]; omega
      · have HN : Hid (vsK s.l (k + 1) = vsK s.l k ++ [Pl.voice x]) := Lib.hid (vsK_yes Hx.out h3)
        go_upto_region 6 with fail
        obtain ⟨wy, hwy⟩ : ∃ wy, wy = wr.alloc (.cells #[.int .u32 x.ro, .int .u32 x.ad, .int .u8 x.st, .int .u8 x.pr, .int .u32 x.dr, .int .u32 x.bd, .int .u8 x.op, .int .u32 x.lf, .bool x.fu] 157) := ⟨_, rfl⟩
        have hby : Below w1.heap.size w1 wy := by rw [hwy]; exact HB.out.alloc HB.out.size _
        have ky : Blk wy wr.heap.size 157 #[.int .u32 x.ro, .int .u32 x.ad, .int .u8 x.st, .int .u8 x.pr, .int .u32 x.dr, .int .u32 x.bd, .int .u8 x.op, .int .u32 x.lf, .bool x.fu] := by rw [hwy]; exact Blk.new wr _ _
        have hSy : wy.ownsRow w1.heap.size 190 5 (.slice oa m oc) m ((vsK s.l k).flatMap Ev.cells) := by rw [hwy]; exact (Frame.of_below (S := fun _ => False) ((Below.refl _ wr).alloc (Nat.le_refl _) _)).own HSm.out (fun _ _ e => e)
        rw [← hwy]
        have y0 : wy.cell? ⟨wr.heap.size, 0, none⟩ = some (.int .u32 x.ro) := ky.cell 0
        have y1 : wy.cell? ⟨wr.heap.size, 1, none⟩ = some (.int .u32 x.ad) := ky.cell 1
        have y2 : wy.cell? ⟨wr.heap.size, 2, none⟩ = some (.int .u8 x.st) := ky.cell 2
        have y3 : wy.cell? ⟨wr.heap.size, 3, none⟩ = some (.int .u8 x.pr) := ky.cell 3
        have y4 : wy.cell? ⟨wr.heap.size, 4, none⟩ = some (.int .u32 x.dr) := ky.cell 4
        have y5 : wy.cell? ⟨wr.heap.size, 5, none⟩ = some (.int .u32 x.bd) := ky.cell 5
        have hyl := ky.lt
        have HBy := Lib.hid hby
        have hbase : w1.heap.size ≤ (wy.alloc (.cells #[.int .u32 x.ro, .int .u32 x.ad, .int .u8 x.pr, .int .u32 x.dr, .int .u32 x.bd] 190)).heap.size := by have := HBy.out.size; simp; omega
        have hSz := (Frame.of_below (S := fun _ => False) ((Below.refl _ wy).alloc (Nat.le_refl _) (.cells #[.int .u32 x.ro, .int .u32 x.ad, .int .u8 x.pr, .int .u32 x.dr, .int .u32 x.bd] 190))).own hSy (fun _ _ e => e)
        have HSz := Lib.hid hSz
        clear hSz hwy hby ky hSy q0 q1 q2 q3 q4 q5 q6 q7 q8 c21r hRl
        go_wp2_with (at_builtin; refine wpList_append_any _ rfl (.tmp 52) (.tmp 64) _ rfl w1.heap.size 190 i0 _ 5 20 Try.underlying191 hi0 hz0' hz1 hz2 rfl (by omega) (.slice oa m oc) m _ rfl HSz.out _ (some ⟨wy.heap.size, 0, none⟩) 1 1 _ rfl (Reads.of_own (World.ownsRow_lit (base := 0) (e := 190) (size := 5) wy #[.int .u32 x.ro, .int .u32 x.ad, .int .u8 x.pr, .int .u32 x.dr, .int .u32 x.bd] 1 (Nat.zero_le _) (by simp [maxLen]) rfl)) (by simp [Value.oneCell']) (by unfold maxLen; omega) (by omega) hbase ?_; intro v1 w6 hown6 hg6 _; obtain ⟨vb, vn, rfl⟩ := own_slice hown6; have HOwn6 := Lib.hid hown6; have HG6 := Lib.hid hg6; clear hown6 hg6)
        go_roundw
        case rel =>
          refine ⟨k + 1, by omega, by simp, ⟨vb, vn, ?_, ?_⟩, Lib.hid ?_⟩
          · rw [HN.out, List.length_append, Hm.out]; rfl
          · rw [HN.out, List.length_append, Hm.out, List.flatMap_append]
            exact HOwn6
          · exact (HBy.out.alloc HBy.out.size _).grown HG6.out (by simp; have := HBy.out.size; omega) (fun j e => (HSz.out.lt j e).1)
        case measure => simp [intOf]; omega
    · obtain rfl : k = n := by omega
      have hvs : vsK s.l k = (s.l.filter Pl.two).map Pl.voice := by rw [← vsK_all, Hn.out]
      obtain ⟨De, hDe⟩ : ∃ D, (Pl.chosen c s).1 = D := ⟨_, rfl⟩
      obtain ⟨Ee, hEe⟩ : ∃ E, (Pl.chosen c s).2 = E := ⟨_, rfl⟩
      have HEl : Hid (Calls Try.prog 134 #[.agg #[.int .u32 c.ro, .int .u32 c.ad, .int .u8 c.pr, .int .u32 s.dr, .int .u32 s.bd], .slice oa m oc] wr fun e w' => e = .returned (.tuple #[.int .u32 De, .int .u32 Ee]) ∧ Below wr.heap.size wr w') := Lib.hid (by
        have h := Ev.relect_any c.ro c.ad c.pr s.dr s.bd oa m oc (vsK s.l k) wr Hm.out (by omega) (Reads.of_own HSm.out)
        rw [hvs] at h
        rw [← hDe, ← hEe]
        exact h)
      have s0 : wr.cell? ⟨S, 0, none⟩ = some (.int .u32 c.ro) := HSr.out.cell 0
      have s1 : wr.cell? ⟨S, 1, none⟩ = some (.int .u32 c.ad) := HSr.out.cell 1
      have s2 : wr.cell? ⟨S, 2, none⟩ = some (.int .u8 c.pr) := HSr.out.cell 2
      have s3 : wr.cell? ⟨S, 3, none⟩ = some (.int .u32 s.dr) := HSr.out.cell 3
      have s4 : wr.cell? ⟨S, 4, none⟩ = some (.int .u32 s.bd) := HSr.out.cell 4
      have HDe := Lib.hid hDe
      have HEe := Lib.hid hEe
      clear hvs hDe hEe
      go_wp2_with fail
      refine HEl.out.mono ?_
      rintro e w4 ⟨rfl, hb4⟩
      have HB4 := Lib.hid (HB1.out.trans ((HB.out.trans (hb4.mono HB.out.size)).mono HB1.out.size))
      have H4 := Lib.hid (HRr.out.below hb4)
      have hR4 := H4.out.b.lt
      have hfz := H4.out.b.frozen
      have g14 : w4.cell? ⟨R, 14, none⟩ = some (.int .u8 s.st) := H4.out.b.cell 14
      have g15 : w4.cell? ⟨R, 15, none⟩ = some (.int .u32 s.dr) := H4.out.b.cell 15
      have g16 : w4.cell? ⟨R, 16, none⟩ = some (.int .u32 s.bd) := H4.out.b.cell 16
      clear hb4 s0 s1 s2 s3 s4 HRr HSr HSm HB H1 HB1 HS1 hS1
      go_upto_region 12 with fail
      obtain ⟨w5, hw5⟩ : ∃ w5, w5 = ((w4.setCell ⟨R, 15, none⟩ (.int .u32 De)).setCell ⟨R, 16, none⟩ (.int .u32 Ee)).setCell ⟨R, 14, none⟩ (.int .u8 4) := ⟨_, rfl⟩
      have hk5 : RBlk w5 R c { s with dr := De, bd := Ee, st := 4 } (.slice A k cp) := by rw [hw5]; exact ((H4.out.b.set_ 15 _).set_ 16 _).set_ 14 _
      have hf5 : Frame (fun j => j = R) w4 w5 := by rw [hw5]; exact (((Frame.refl _ w4).setB 15 _).setB 16 _).setB 14 _
      rw [← hw5]
      have HT5 := Lib.hid (H4.out.turn (s' := { s with dr := De, bd := Ee, st := 4 }) hf5 hk5 rfl)
      clear hw5 hf5 hk5 hR4 hfz g14 g15 g16
      have c4 : w5.cell? ⟨R, 4, none⟩ = some (.int .u32 c.ad) := HT5.out.1.b.cell 4
      have c15 : w5.cell? ⟨R, 15, none⟩ = some (.int .u32 De) := HT5.out.1.b.cell 15
      have c16 : w5.cell? ⟨R, 16, none⟩ = some (.int .u32 Ee) := HT5.out.1.b.cell 16
      have hR5 := HT5.out.1.b.lt
      have hfz := HT5.out.1.b.frozen
      have HF5 := Lib.hid (HT5.out.2)
      rcases hb : (Ee == c.ad) with _ | _
      · rcases hd : (De == c.ad) with _ | _
        · have HSt : Hid (elState c (Pl.chosen c s) = 4) := Lib.hid (by
            have hd' := hd
            have hb' := hb
            unfold elState
            rw [HDe.out, HEe.out]
            simp only [beq_eq_false_iff_ne, ne_eq, beq_iff_eq] at hd' hb' ⊢
            rw [if_neg (fun e => hd' e.symm), if_neg (fun e => hb' e.symm)])
          have HEq := Lib.hid (elect_eq c s De Ee 4 HDe.out HEe.out HSt.out)
          go_wp2_with fail
          go_quiet (fail)
          obtain ⟨wa, hwa⟩ : ∃ wa, wa = w5.drewN nq := ⟨_, rfl⟩
          have HTa : Hid (RAt lo wa R c { s with dr := De, bd := Ee, st := 4 } (.slice A k cp) ∧ RFr lo w wa) := Lib.hid (by rw [hwa]; exact ⟨HT5.out.1.below (drewQ w5 nq), (RFr.of_below HB4.out).trans (HT5.out.2.trans (RFr.of_below (drewQ w5 nq)))⟩)
          rw [← hwa]
          clear hwa c4 c15 c16 hR5 hfz HT5 HF5
          have c4 : wa.cell? ⟨R, 4, none⟩ = some (.int .u32 c.ad) := HTa.out.1.b.cell 4
          have c15 : wa.cell? ⟨R, 15, none⟩ = some (.int .u32 De) := HTa.out.1.b.cell 15
          have c14 : wa.cell? ⟨R, 14, none⟩ = some (.int .u8 4) := HTa.out.1.b.cell 14
          have hRa := HTa.out.1.b.lt
          have hfz := HTa.out.1.b.frozen
          go_wp2_with fail
          go_quiet (fail)
          obtain ⟨w6, hw6⟩ : ∃ w6, w6 = wa.drewN nq := ⟨_, rfl⟩
          have HT6 : Hid (RAt lo w6 R c { s with dr := De, bd := Ee, st := 4 } (.slice A k cp) ∧ RFr lo w w6) := Lib.hid (by
            rw [hw6]
            exact ⟨HTa.out.1.below (drewQ wa nq), HTa.out.2.trans (RFr.of_below (drewQ wa nq))⟩)
          rw [← hw6]
          clear hw6 c4 c15 c14 hRa hfz hb hd
          go_wp2_with fail
          go_loopw [8] (fun x wr => ∃ i : Nat, i ≤ k ∧ x = .int .i64 i ∧ Hid (RAt lo wr R c { s with dr := De, bd := Ee, st := 4, l := upto (wakeIf c 4) i s.l } (.slice A k cp)) ∧ Hid (RFr lo w wr)) (fun x _ => k - (intOf x).toNat)
          case atStart => exact ⟨0, Nat.zero_le _, rfl, Lib.hid (by rw [upto_zero]; exact HT6.out.1), Lib.hid HT6.out.2⟩
          case round =>
            clear HT6 HTa
            obtain ⟨i, hik, rfl, HR, HF⟩ := hrel
            have d0 : wr.cell? ⟨R, 0, none⟩ = some (.int .u8 c.ty) := HR.out.b.cell 0
            have d6 : wr.cell? ⟨R, 7, none⟩ = some (.int .u32 c.dd) := HR.out.b.cell 7
            have d14 : wr.cell? ⟨R, 14, none⟩ = some (.int .u8 4) := HR.out.b.cell 14
            have d21 : wr.cell? ⟨R, 21, none⟩ = some (.slice A k cp) := HR.out.b.cell 21
            have hRl := HR.out.b.lt
            by_cases hlt3 : i < k
            · obtain ⟨x, hx⟩ : ∃ x, s.l[i]? = some x := ⟨_, List.getElem?_eq_getElem (by rw [Hn.out]; exact hlt3)⟩
              have hux := upto_at (f := wakeIf c 4) hx
              obtain ⟨b, n', cap, e, hn2, hbl, hc⟩ := HR.out.o.knb (l := upto (wakeIf c 4) i s.l) hux
              cases e
              have q2 : wr.cell? ⟨b, i * 9 + 2, none⟩ = some (.int .u8 x.st) := hc 2 _ rfl
              have q7 : wr.cell? ⟨b, i * 9 + 7, none⟩ = some (.int .u32 x.lf) := hc 7 _ rfl
              have fz := HR.out.o.frozen.1
              have hbR : R ≠ b := fun e => HR.out.row_ne e.symm
              have Hx := Lib.hid hx
              have Hux := Lib.hid hux
              have hkn : (i : Int) < (k : Int) := by omega
              clear hx hux hn2 hc
              rcases hty : (c.ty == 1) with _ | _
              · have HN : Hid (upto (wakeIf c 4) (i + 1) s.l = upto (wakeIf c 4) i s.l) := Lib.hid (upto_same Hx.out (wakeIf_no (.inl (by simpa using hty))))
                go_wp2_with fail
                go_roundw
                case rel => exact ⟨i + 1, by omega, by simp, by rw [HN.out]; exact HR, HF⟩
                case measure => simp [intOf]; omega
              · have HN : Hid (upto (wakeIf c 4) (i + 1) s.l = upto (wakeIf c 4) i s.l) := Lib.hid (upto_same Hx.out (wakeIf_no (.inr (.inl (by omega)))))
                go_wp2_with fail
                go_roundw
                case rel => exact ⟨i + 1, by omega, by simp, by rw [HN.out]; exact HR, HF⟩
                case measure => simp [intOf]; omega
            · obtain rfl : i = k := by omega
              have HN : Hid (upto (wakeIf c 4) i s.l = s.l.map (wakeIf c 4)) := Lib.hid (by rw [← upto_all, Hn.out])
              go_wp2_with fail
              refine bodyPost_end (v := .tuple #[]) (by simp [results, Try.results117, go_sem]) rfl ⟨rfl, ?_, HF.out⟩
              rw [HEq.out]
              have := HR.out
              rw [HN.out] at this
              exact this
        · have HSt : Hid (elState c (Pl.chosen c s) = 6) := Lib.hid (by
            have hd' := hd
            have hb' := hb
            unfold elState
            rw [HDe.out, HEe.out]
            simp only [beq_eq_false_iff_ne, ne_eq, beq_iff_eq] at hd' hb' ⊢
            rw [if_pos hd'.symm])
          have HEq := Lib.hid (elect_eq c s De Ee 6 HDe.out HEe.out HSt.out)
          go_wp2_with fail
          go_quiet (fail)
          obtain ⟨wa, hwa⟩ : ∃ wa, wa = w5.drewN nq := ⟨_, rfl⟩
          have HTa : Hid (RAt lo wa R c { s with dr := De, bd := Ee, st := 4 } (.slice A k cp) ∧ RFr lo w wa) := Lib.hid (by rw [hwa]; exact ⟨HT5.out.1.below (drewQ w5 nq), (RFr.of_below HB4.out).trans (HT5.out.2.trans (RFr.of_below (drewQ w5 nq)))⟩)
          rw [← hwa]
          clear hwa c4 c15 c16 hR5 hfz HT5 HF5
          have c4 : wa.cell? ⟨R, 4, none⟩ = some (.int .u32 c.ad) := HTa.out.1.b.cell 4
          have c15 : wa.cell? ⟨R, 15, none⟩ = some (.int .u32 De) := HTa.out.1.b.cell 15
          have c14 : wa.cell? ⟨R, 14, none⟩ = some (.int .u8 4) := HTa.out.1.b.cell 14
          have hRa := HTa.out.1.b.lt
          have hfz := HTa.out.1.b.frozen
          go_wp2_with fail
          go_quiet (fail)
          obtain ⟨wd, hwd⟩ : ∃ wd, wd = wa.drewN nq := ⟨_, rfl⟩
          have HTd : Hid (RAt lo wd R c { s with dr := De, bd := Ee, st := 4 } (.slice A k cp) ∧ RFr lo w wd) := Lib.hid (by rw [hwd]; exact ⟨HTa.out.1.below (drewQ wa nq), HTa.out.2.trans (RFr.of_below (drewQ wa nq))⟩)
          rw [← hwd]
          clear hwd c4 c15 c14 hRa hfz
          have hRa := HTd.out.1.b.lt
          have hfz := HTd.out.1.b.frozen
          have c14 : wd.cell? ⟨R, 14, none⟩ = some (.int .u8 4) := HTd.out.1.b.cell 14
          go_upto_region 16 with fail
          obtain ⟨w6, hw6⟩ : ∃ w6, w6 = wd.setCell ⟨R, 14, none⟩ (.int .u8 6) := ⟨_, rfl⟩
          have HT0 := HTd.out.1.turn (w' := w6) (s' := { s with dr := De, bd := Ee, st := 6 }) (by rw [hw6]; exact (Frame.refl _ wd).setB 14 _) (by rw [hw6]; exact HTd.out.1.b.set_ 14 _) rfl
          clear c14
          have HT6 : Hid (RAt lo w6 R c { s with dr := De, bd := Ee, st := 6 } (.slice A k cp) ∧ RFr lo w w6) := Lib.hid ⟨HT0.1, HTd.out.2.trans HT0.2⟩
          rw [← hw6]
          clear hw6 HT0 hRa hfz hb hd
          go_wp2_with fail
          go_loopw [8] (fun x wr => ∃ i : Nat, i ≤ k ∧ x = .int .i64 i ∧ Hid (RAt lo wr R c { s with dr := De, bd := Ee, st := 6, l := upto (wakeIf c 6) i s.l } (.slice A k cp)) ∧ Hid (RFr lo w wr)) (fun x _ => k - (intOf x).toNat)
          case atStart => exact ⟨0, Nat.zero_le _, rfl, Lib.hid (by rw [upto_zero]; exact HT6.out.1), Lib.hid HT6.out.2⟩
          case round =>
            clear HT6 HTa HTd
            obtain ⟨i, hik, rfl, HR, HF⟩ := hrel
            have d0 : wr.cell? ⟨R, 0, none⟩ = some (.int .u8 c.ty) := HR.out.b.cell 0
            have d6 : wr.cell? ⟨R, 7, none⟩ = some (.int .u32 c.dd) := HR.out.b.cell 7
            have d14 : wr.cell? ⟨R, 14, none⟩ = some (.int .u8 6) := HR.out.b.cell 14
            have d21 : wr.cell? ⟨R, 21, none⟩ = some (.slice A k cp) := HR.out.b.cell 21
            have hRl := HR.out.b.lt
            by_cases hlt3 : i < k
            · obtain ⟨x, hx⟩ : ∃ x, s.l[i]? = some x := ⟨_, List.getElem?_eq_getElem (by rw [Hn.out]; exact hlt3)⟩
              have hux := upto_at (f := wakeIf c 6) hx
              obtain ⟨b, n', cap, e, hn2, hbl, hc⟩ := HR.out.o.knb (l := upto (wakeIf c 6) i s.l) hux
              cases e
              have q2 : wr.cell? ⟨b, i * 9 + 2, none⟩ = some (.int .u8 x.st) := hc 2 _ rfl
              have q7 : wr.cell? ⟨b, i * 9 + 7, none⟩ = some (.int .u32 x.lf) := hc 7 _ rfl
              have fz := HR.out.o.frozen.1
              have hbR : R ≠ b := fun e => HR.out.row_ne e.symm
              have Hx := Lib.hid hx
              have Hux := Lib.hid hux
              have hkn : (i : Int) < (k : Int) := by omega
              clear hx hux hn2 hc
              rcases hty : (c.ty == 1) with _ | _
              · have HN : Hid (upto (wakeIf c 6) (i + 1) s.l = upto (wakeIf c 6) i s.l) := Lib.hid (upto_same Hx.out (wakeIf_no (.inl (by simpa using hty))))
                go_wp2_with fail
                go_roundw
                case rel => exact ⟨i + 1, by omega, by simp, by rw [HN.out]; exact HR, HF⟩
                case measure => simp [intOf]; omega
              · rcases hx0 : (x.st == 0) with _ | _
                · have HN : Hid (upto (wakeIf c 6) (i + 1) s.l = upto (wakeIf c 6) i s.l) := Lib.hid (upto_same Hx.out (wakeIf_no (.inr (.inr (by simpa using hx0)))))
                  go_wp2_with fail
                  go_roundw
                  case rel => exact ⟨i + 1, by omega, by simp, by rw [HN.out]; exact HR, HF⟩
                  case measure => simp [intOf]; omega
                · have HN : Hid ((upto (wakeIf c 6) i s.l).set i { x with st := 1, lf := c.dd } = upto (wakeIf c 6) (i + 1) s.l) := Lib.hid (by rw [← wakeIf_yes (t := 6) (by simpa using hty) (by omega) (by simpa using hx0)]; exact upto_step Hx.out)
                  go_upto_region 21 with fail
                  obtain ⟨w7, hw7⟩ : ∃ w7, w7 = wr.setCell ⟨b, i * 9 + 2, none⟩ (.int .u8 1) := ⟨_, rfl⟩
                  have h7 := HR.out.cellK (k' := { x with st := 1 }) (j := 2) (u := .int .u8 1) Hux.out rfl (by omega)
                  rw [← hw7] at h7 ⊢
                  have H7 := Lib.hid h7
                  have q7' : w7.cell? ⟨b, i * 9 + 7, none⟩ = some (.int .u32 x.lf) := by
                    obtain ⟨b', n'', cap', e', _, _, hc⟩ := h7.1.o.knb (l := (upto (wakeIf c 6) i s.l).set i { x with st := 1 }) (i := i) (k := { x with st := 1 }) (List.getElem?_set_self (by rw [upto_len, Hn.out]; exact hlt3))
                    cases e'
                    exact hc 7 _ rfl
                  have d67 : w7.cell? ⟨R, 7, none⟩ = some (.int .u32 c.dd) := h7.1.b.cell 7
                  have d217 : w7.cell? ⟨R, 21, none⟩ = some (.slice (some ⟨b, 0, none⟩) k cp) := h7.1.b.cell 21
                  have fz7 := h7.1.o.frozen.1
                  have hb7 := h7.1.o.frozen.2
                  have hR7 := h7.1.b.lt
                  clear h7 hw7 q2 q7 d0 d6 d14 d21 fz hRl hbl
                  refine wp_region_drawn_tail 12 (by kernel_rfl) (by kernel_rfl) ?_
                  simp only [List.take_succ_cons, List.take_zero, List.drop_succ_cons, List.drop_zero]
                  repeat (go_big_quiet_step (fail))
                  refine wpQuiet_nil ?_
                  rintro wq ⟨q, rfl⟩
                  have HQ := Lib.hid (H7.out.1.below (drewQ w7 q))
                  have hux2 : ((upto (wakeIf c 6) i s.l).set i { x with st := 1 })[i]? = some { x with st := 1 } := List.getElem?_set_self (by rw [upto_len, Hn.out]; exact hlt3)
                  have h8 := HQ.out.cellK (k' := { x with st := 1, lf := c.dd }) (j := 7) (u := .int .u32 c.dd) hux2 rfl (by omega)
                  have H8 := Lib.hid h8
                  clear h8 hux2
                  go_wp2_with fail
                  go_roundw
                  case rel =>
                    refine ⟨i + 1, by omega, by simp, Lib.hid ?_, Lib.hid (HF.out.trans (H7.out.2.trans ((RFr.of_below (drewQ w7 q)).trans H8.out.2)))⟩
                    rw [← HN.out]
                    have := H8.out.1
                    simp only [List.set_set] at this
                    exact this
                  case measure => simp [intOf]; omega
            · obtain rfl : i = k := by omega
              have HN : Hid (upto (wakeIf c 6) i s.l = s.l.map (wakeIf c 6)) := Lib.hid (by rw [← upto_all, Hn.out])
              go_wp2_with fail
              refine bodyPost_end (v := .tuple #[]) (by simp [results, Try.results117, go_sem]) rfl ⟨rfl, ?_, HF.out⟩
              rw [HEq.out]
              have := HR.out
              rw [HN.out] at this
              exact this
      · rcases hd : (De == c.ad) with _ | _
        · have HSt : Hid (elState c (Pl.chosen c s) = 5) := Lib.hid (by
            have hd' := hd
            have hb' := hb
            unfold elState
            rw [HDe.out, HEe.out]
            simp only [beq_eq_false_iff_ne, ne_eq, beq_iff_eq] at hd' hb' ⊢
            rw [if_neg (fun e => hd' e.symm), if_pos hb'.symm])
          have HEq := Lib.hid (elect_eq c s De Ee 5 HDe.out HEe.out HSt.out)
          go_wp2_with fail
          go_quiet (fail)
          obtain ⟨wa, hwa⟩ : ∃ wa, wa = w5.drewN nq := ⟨_, rfl⟩
          have HTa : Hid (RAt lo wa R c { s with dr := De, bd := Ee, st := 4 } (.slice A k cp) ∧ RFr lo w wa) := Lib.hid (by rw [hwa]; exact ⟨HT5.out.1.below (drewQ w5 nq), (RFr.of_below HB4.out).trans (HT5.out.2.trans (RFr.of_below (drewQ w5 nq)))⟩)
          rw [← hwa]
          clear hwa c4 c15 c16 hR5 hfz HT5 HF5
          have c4 : wa.cell? ⟨R, 4, none⟩ = some (.int .u32 c.ad) := HTa.out.1.b.cell 4
          have c15 : wa.cell? ⟨R, 15, none⟩ = some (.int .u32 De) := HTa.out.1.b.cell 15
          have c14 : wa.cell? ⟨R, 14, none⟩ = some (.int .u8 4) := HTa.out.1.b.cell 14
          have hRa := HTa.out.1.b.lt
          have hfz := HTa.out.1.b.frozen
          go_upto_region 14 with fail
          obtain ⟨wb, hwb⟩ : ∃ wb, wb = wa.setCell ⟨R, 14, none⟩ (.int .u8 5) := ⟨_, rfl⟩
          have HTb0 := HTa.out.1.turn (w' := wb) (s' := { s with dr := De, bd := Ee, st := 5 }) (by rw [hwb]; exact (Frame.refl _ wa).setB 14 _) (by rw [hwb]; exact HTa.out.1.b.set_ 14 _) rfl
          have HTb : Hid (RAt lo wb R c { s with dr := De, bd := Ee, st := 5 } (.slice A k cp) ∧ RFr lo w wb) := Lib.hid ⟨HTb0.1, HTa.out.2.trans HTb0.2⟩
          rw [← hwb]
          clear hwb HTb0 c4 c15 c14 hRa hfz
          have c4 : wb.cell? ⟨R, 4, none⟩ = some (.int .u32 c.ad) := HTb.out.1.b.cell 4
          have c15 : wb.cell? ⟨R, 15, none⟩ = some (.int .u32 De) := HTb.out.1.b.cell 15
          have c14 : wb.cell? ⟨R, 14, none⟩ = some (.int .u8 5) := HTb.out.1.b.cell 14
          have hRa := HTb.out.1.b.lt
          have hfz := HTb.out.1.b.frozen
          go_wp2_with fail
          go_quiet (fail)
          obtain ⟨w6, hw6⟩ : ∃ w6, w6 = wb.drewN nq := ⟨_, rfl⟩
          have HT6 : Hid (RAt lo w6 R c { s with dr := De, bd := Ee, st := 5 } (.slice A k cp) ∧ RFr lo w w6) := Lib.hid (by
            rw [hw6]
            exact ⟨HTb.out.1.below (drewQ wb nq), HTb.out.2.trans (RFr.of_below (drewQ wb nq))⟩)
          rw [← hw6]
          clear hw6 c4 c15 c14 hRa hfz hb hd
          go_wp2_with fail
          go_loopw [8] (fun x wr => ∃ i : Nat, i ≤ k ∧ x = .int .i64 i ∧ Hid (RAt lo wr R c { s with dr := De, bd := Ee, st := 5, l := upto (wakeIf c 5) i s.l } (.slice A k cp)) ∧ Hid (RFr lo w wr)) (fun x _ => k - (intOf x).toNat)
          case atStart => exact ⟨0, Nat.zero_le _, rfl, Lib.hid (by rw [upto_zero]; exact HT6.out.1), Lib.hid HT6.out.2⟩
          case round =>
            clear HT6 HTa HTb
            obtain ⟨i, hik, rfl, HR, HF⟩ := hrel
            have d0 : wr.cell? ⟨R, 0, none⟩ = some (.int .u8 c.ty) := HR.out.b.cell 0
            have d6 : wr.cell? ⟨R, 7, none⟩ = some (.int .u32 c.dd) := HR.out.b.cell 7
            have d14 : wr.cell? ⟨R, 14, none⟩ = some (.int .u8 5) := HR.out.b.cell 14
            have d21 : wr.cell? ⟨R, 21, none⟩ = some (.slice A k cp) := HR.out.b.cell 21
            have hRl := HR.out.b.lt
            by_cases hlt3 : i < k
            · obtain ⟨x, hx⟩ : ∃ x, s.l[i]? = some x := ⟨_, List.getElem?_eq_getElem (by rw [Hn.out]; exact hlt3)⟩
              have hux := upto_at (f := wakeIf c 5) hx
              obtain ⟨b, n', cap, e, hn2, hbl, hc⟩ := HR.out.o.knb (l := upto (wakeIf c 5) i s.l) hux
              cases e
              have q2 : wr.cell? ⟨b, i * 9 + 2, none⟩ = some (.int .u8 x.st) := hc 2 _ rfl
              have q7 : wr.cell? ⟨b, i * 9 + 7, none⟩ = some (.int .u32 x.lf) := hc 7 _ rfl
              have fz := HR.out.o.frozen.1
              have hbR : R ≠ b := fun e => HR.out.row_ne e.symm
              have Hx := Lib.hid hx
              have Hux := Lib.hid hux
              have hkn : (i : Int) < (k : Int) := by omega
              clear hx hux hn2 hc
              rcases hty : (c.ty == 1) with _ | _
              · have HN : Hid (upto (wakeIf c 5) (i + 1) s.l = upto (wakeIf c 5) i s.l) := Lib.hid (upto_same Hx.out (wakeIf_no (.inl (by simpa using hty))))
                go_wp2_with fail
                go_roundw
                case rel => exact ⟨i + 1, by omega, by simp, by rw [HN.out]; exact HR, HF⟩
                case measure => simp [intOf]; omega
              · rcases hx0 : (x.st == 0) with _ | _
                · have HN : Hid (upto (wakeIf c 5) (i + 1) s.l = upto (wakeIf c 5) i s.l) := Lib.hid (upto_same Hx.out (wakeIf_no (.inr (.inr (by simpa using hx0)))))
                  go_wp2_with fail
                  go_roundw
                  case rel => exact ⟨i + 1, by omega, by simp, by rw [HN.out]; exact HR, HF⟩
                  case measure => simp [intOf]; omega
                · have HN : Hid ((upto (wakeIf c 5) i s.l).set i { x with st := 1, lf := c.dd } = upto (wakeIf c 5) (i + 1) s.l) := Lib.hid (by rw [← wakeIf_yes (t := 5) (by simpa using hty) (by omega) (by simpa using hx0)]; exact upto_step Hx.out)
                  go_upto_region 21 with fail
                  obtain ⟨w7, hw7⟩ : ∃ w7, w7 = wr.setCell ⟨b, i * 9 + 2, none⟩ (.int .u8 1) := ⟨_, rfl⟩
                  have h7 := HR.out.cellK (k' := { x with st := 1 }) (j := 2) (u := .int .u8 1) Hux.out rfl (by omega)
                  rw [← hw7] at h7 ⊢
                  have H7 := Lib.hid h7
                  have q7' : w7.cell? ⟨b, i * 9 + 7, none⟩ = some (.int .u32 x.lf) := by
                    obtain ⟨b', n'', cap', e', _, _, hc⟩ := h7.1.o.knb (l := (upto (wakeIf c 5) i s.l).set i { x with st := 1 }) (i := i) (k := { x with st := 1 }) (List.getElem?_set_self (by rw [upto_len, Hn.out]; exact hlt3))
                    cases e'
                    exact hc 7 _ rfl
                  have d67 : w7.cell? ⟨R, 7, none⟩ = some (.int .u32 c.dd) := h7.1.b.cell 7
                  have d217 : w7.cell? ⟨R, 21, none⟩ = some (.slice (some ⟨b, 0, none⟩) k cp) := h7.1.b.cell 21
                  have fz7 := h7.1.o.frozen.1
                  have hb7 := h7.1.o.frozen.2
                  have hR7 := h7.1.b.lt
                  clear h7 hw7 q2 q7 d0 d6 d14 d21 fz hRl hbl
                  refine wp_region_drawn_tail 12 (by kernel_rfl) (by kernel_rfl) ?_
                  simp only [List.take_succ_cons, List.take_zero, List.drop_succ_cons, List.drop_zero]
                  repeat (go_big_quiet_step (fail))
                  refine wpQuiet_nil ?_
                  rintro wq ⟨q, rfl⟩
                  have HQ := Lib.hid (H7.out.1.below (drewQ w7 q))
                  have hux2 : ((upto (wakeIf c 5) i s.l).set i { x with st := 1 })[i]? = some { x with st := 1 } := List.getElem?_set_self (by rw [upto_len, Hn.out]; exact hlt3)
                  have h8 := HQ.out.cellK (k' := { x with st := 1, lf := c.dd }) (j := 7) (u := .int .u32 c.dd) hux2 rfl (by omega)
                  have H8 := Lib.hid h8
                  clear h8 hux2
                  go_wp2_with fail
                  go_roundw
                  case rel =>
                    refine ⟨i + 1, by omega, by simp, Lib.hid ?_, Lib.hid (HF.out.trans (H7.out.2.trans ((RFr.of_below (drewQ w7 q)).trans H8.out.2)))⟩
                    rw [← HN.out]
                    have := H8.out.1
                    simp only [List.set_set] at this
                    exact this
                  case measure => simp [intOf]; omega
            · obtain rfl : i = k := by omega
              have HN : Hid (upto (wakeIf c 5) i s.l = s.l.map (wakeIf c 5)) := Lib.hid (by rw [← upto_all, Hn.out])
              go_wp2_with fail
              refine bodyPost_end (v := .tuple #[]) (by simp [results, Try.results117, go_sem]) rfl ⟨rfl, ?_, HF.out⟩
              rw [HEq.out]
              have := HR.out
              rw [HN.out] at this
              exact this
        · have HSt : Hid (elState c (Pl.chosen c s) = 6) := Lib.hid (by
            have hd' := hd
            have hb' := hb
            unfold elState
            rw [HDe.out, HEe.out]
            simp only [beq_iff_eq] at hd' hb' ⊢
            rw [if_pos hd'.symm])
          have HEq := Lib.hid (elect_eq c s De Ee 6 HDe.out HEe.out HSt.out)
          go_wp2_with fail
          go_quiet (fail)
          obtain ⟨wa, hwa⟩ : ∃ wa, wa = w5.drewN nq := ⟨_, rfl⟩
          have HTa : Hid (RAt lo wa R c { s with dr := De, bd := Ee, st := 4 } (.slice A k cp) ∧ RFr lo w wa) := Lib.hid (by rw [hwa]; exact ⟨HT5.out.1.below (drewQ w5 nq), (RFr.of_below HB4.out).trans (HT5.out.2.trans (RFr.of_below (drewQ w5 nq)))⟩)
          rw [← hwa]
          clear hwa c4 c15 c16 hR5 hfz HT5 HF5
          have c4 : wa.cell? ⟨R, 4, none⟩ = some (.int .u32 c.ad) := HTa.out.1.b.cell 4
          have c15 : wa.cell? ⟨R, 15, none⟩ = some (.int .u32 De) := HTa.out.1.b.cell 15
          have c14 : wa.cell? ⟨R, 14, none⟩ = some (.int .u8 4) := HTa.out.1.b.cell 14
          have hRa := HTa.out.1.b.lt
          have hfz := HTa.out.1.b.frozen
          go_upto_region 14 with fail
          obtain ⟨wb, hwb⟩ : ∃ wb, wb = wa.setCell ⟨R, 14, none⟩ (.int .u8 5) := ⟨_, rfl⟩
          have HTb0 := HTa.out.1.turn (w' := wb) (s' := { s with dr := De, bd := Ee, st := 5 }) (by rw [hwb]; exact (Frame.refl _ wa).setB 14 _) (by rw [hwb]; exact HTa.out.1.b.set_ 14 _) rfl
          have HTb : Hid (RAt lo wb R c { s with dr := De, bd := Ee, st := 5 } (.slice A k cp) ∧ RFr lo w wb) := Lib.hid ⟨HTb0.1, HTa.out.2.trans HTb0.2⟩
          rw [← hwb]
          clear hwb HTb0 c4 c15 c14 hRa hfz
          have c4 : wb.cell? ⟨R, 4, none⟩ = some (.int .u32 c.ad) := HTb.out.1.b.cell 4
          have c15 : wb.cell? ⟨R, 15, none⟩ = some (.int .u32 De) := HTb.out.1.b.cell 15
          have c14 : wb.cell? ⟨R, 14, none⟩ = some (.int .u8 5) := HTb.out.1.b.cell 14
          have hRa := HTb.out.1.b.lt
          have hfz := HTb.out.1.b.frozen
          go_wp2_with fail
          go_quiet (fail)
          obtain ⟨wd, hwd⟩ : ∃ wd, wd = wb.drewN nq := ⟨_, rfl⟩
          have HTd : Hid (RAt lo wd R c { s with dr := De, bd := Ee, st := 5 } (.slice A k cp) ∧ RFr lo w wd) := Lib.hid (by rw [hwd]; exact ⟨HTb.out.1.below (drewQ wb nq), HTb.out.2.trans (RFr.of_below (drewQ wb nq))⟩)
          rw [← hwd]
          clear hwd c4 c15 c14 hRa hfz
          have hRa := HTd.out.1.b.lt
          have hfz := HTd.out.1.b.frozen
          have c14 : wd.cell? ⟨R, 14, none⟩ = some (.int .u8 5) := HTd.out.1.b.cell 14
          go_upto_region 16 with fail
          obtain ⟨w6, hw6⟩ : ∃ w6, w6 = wd.setCell ⟨R, 14, none⟩ (.int .u8 6) := ⟨_, rfl⟩
          have HT0 := HTd.out.1.turn (w' := w6) (s' := { s with dr := De, bd := Ee, st := 6 }) (by rw [hw6]; exact (Frame.refl _ wd).setB 14 _) (by rw [hw6]; exact HTd.out.1.b.set_ 14 _) rfl
          clear c14
          have HT6 : Hid (RAt lo w6 R c { s with dr := De, bd := Ee, st := 6 } (.slice A k cp) ∧ RFr lo w w6) := Lib.hid ⟨HT0.1, HTd.out.2.trans HT0.2⟩
          rw [← hw6]
          clear hw6 HT0 hRa hfz hb hd
          go_wp2_with fail
          go_loopw [8] (fun x wr => ∃ i : Nat, i ≤ k ∧ x = .int .i64 i ∧ Hid (RAt lo wr R c { s with dr := De, bd := Ee, st := 6, l := upto (wakeIf c 6) i s.l } (.slice A k cp)) ∧ Hid (RFr lo w wr)) (fun x _ => k - (intOf x).toNat)
          case atStart => exact ⟨0, Nat.zero_le _, rfl, Lib.hid (by rw [upto_zero]; exact HT6.out.1), Lib.hid HT6.out.2⟩
          case round =>
            clear HT6 HTa HTd HTb
            obtain ⟨i, hik, rfl, HR, HF⟩ := hrel
            have d0 : wr.cell? ⟨R, 0, none⟩ = some (.int .u8 c.ty) := HR.out.b.cell 0
            have d6 : wr.cell? ⟨R, 7, none⟩ = some (.int .u32 c.dd) := HR.out.b.cell 7
            have d14 : wr.cell? ⟨R, 14, none⟩ = some (.int .u8 6) := HR.out.b.cell 14
            have d21 : wr.cell? ⟨R, 21, none⟩ = some (.slice A k cp) := HR.out.b.cell 21
            have hRl := HR.out.b.lt
            by_cases hlt3 : i < k
            · obtain ⟨x, hx⟩ : ∃ x, s.l[i]? = some x := ⟨_, List.getElem?_eq_getElem (by rw [Hn.out]; exact hlt3)⟩
              have hux := upto_at (f := wakeIf c 6) hx
              obtain ⟨b, n', cap, e, hn2, hbl, hc⟩ := HR.out.o.knb (l := upto (wakeIf c 6) i s.l) hux
              cases e
              have q2 : wr.cell? ⟨b, i * 9 + 2, none⟩ = some (.int .u8 x.st) := hc 2 _ rfl
              have q7 : wr.cell? ⟨b, i * 9 + 7, none⟩ = some (.int .u32 x.lf) := hc 7 _ rfl
              have fz := HR.out.o.frozen.1
              have hbR : R ≠ b := fun e => HR.out.row_ne e.symm
              have Hx := Lib.hid hx
              have Hux := Lib.hid hux
              have hkn : (i : Int) < (k : Int) := by omega
              clear hx hux hn2 hc
              rcases hty : (c.ty == 1) with _ | _
              · have HN : Hid (upto (wakeIf c 6) (i + 1) s.l = upto (wakeIf c 6) i s.l) := Lib.hid (upto_same Hx.out (wakeIf_no (.inl (by simpa using hty))))
                go_wp2_with fail
                go_roundw
                case rel => exact ⟨i + 1, by omega, by simp, by rw [HN.out]; exact HR, HF⟩
                case measure => simp [intOf]; omega
              · rcases hx0 : (x.st == 0) with _ | _
                · have HN : Hid (upto (wakeIf c 6) (i + 1) s.l = upto (wakeIf c 6) i s.l) := Lib.hid (upto_same Hx.out (wakeIf_no (.inr (.inr (by simpa using hx0)))))
                  go_wp2_with fail
                  go_roundw
                  case rel => exact ⟨i + 1, by omega, by simp, by rw [HN.out]; exact HR, HF⟩
                  case measure => simp [intOf]; omega
                · have HN : Hid ((upto (wakeIf c 6) i s.l).set i { x with st := 1, lf := c.dd } = upto (wakeIf c 6) (i + 1) s.l) := Lib.hid (by rw [← wakeIf_yes (t := 6) (by simpa using hty) (by omega) (by simpa using hx0)]; exact upto_step Hx.out)
                  go_upto_region 21 with fail
                  obtain ⟨w7, hw7⟩ : ∃ w7, w7 = wr.setCell ⟨b, i * 9 + 2, none⟩ (.int .u8 1) := ⟨_, rfl⟩
                  have h7 := HR.out.cellK (k' := { x with st := 1 }) (j := 2) (u := .int .u8 1) Hux.out rfl (by omega)
                  rw [← hw7] at h7 ⊢
                  have H7 := Lib.hid h7
                  have q7' : w7.cell? ⟨b, i * 9 + 7, none⟩ = some (.int .u32 x.lf) := by
                    obtain ⟨b', n'', cap', e', _, _, hc⟩ := h7.1.o.knb (l := (upto (wakeIf c 6) i s.l).set i { x with st := 1 }) (i := i) (k := { x with st := 1 }) (List.getElem?_set_self (by rw [upto_len, Hn.out]; exact hlt3))
                    cases e'
                    exact hc 7 _ rfl
                  have d67 : w7.cell? ⟨R, 7, none⟩ = some (.int .u32 c.dd) := h7.1.b.cell 7
                  have d217 : w7.cell? ⟨R, 21, none⟩ = some (.slice (some ⟨b, 0, none⟩) k cp) := h7.1.b.cell 21
                  have fz7 := h7.1.o.frozen.1
                  have hb7 := h7.1.o.frozen.2
                  have hR7 := h7.1.b.lt
                  clear h7 hw7 q2 q7 d0 d6 d14 d21 fz hRl hbl
                  refine wp_region_drawn_tail 12 (by kernel_rfl) (by kernel_rfl) ?_
                  simp only [List.take_succ_cons, List.take_zero, List.drop_succ_cons, List.drop_zero]
                  repeat (go_big_quiet_step (fail))
                  refine wpQuiet_nil ?_
                  rintro wq ⟨q, rfl⟩
                  have HQ := Lib.hid (H7.out.1.below (drewQ w7 q))
                  have hux2 : ((upto (wakeIf c 6) i s.l).set i { x with st := 1 })[i]? = some { x with st := 1 } := List.getElem?_set_self (by rw [upto_len, Hn.out]; exact hlt3)
                  have h8 := HQ.out.cellK (k' := { x with st := 1, lf := c.dd }) (j := 7) (u := .int .u32 c.dd) hux2 rfl (by omega)
                  have H8 := Lib.hid h8
                  clear h8 hux2
                  go_wp2_with fail
                  go_roundw
                  case rel =>
                    refine ⟨i + 1, by omega, by simp, Lib.hid ?_, Lib.hid (HF.out.trans (H7.out.2.trans ((RFr.of_below (drewQ w7 q)).trans H8.out.2)))⟩
                    rw [← HN.out]
                    have := H8.out.1
                    simp only [List.set_set] at this
                    exact this
                  case measure => simp [intOf]; omega
            · obtain rfl : i = k := by omega
              have HN : Hid (upto (wakeIf c 6) i s.l = s.l.map (wakeIf c 6)) := Lib.hid (by rw [← upto_all, Hn.out])
              go_wp2_with fail
              refine bodyPost_end (v := .tuple #[]) (by simp [results, Try.results117, go_sem]) rfl ⟨rfl, ?_, HF.out⟩
              rw [HEq.out]
              have := HR.out
              rw [HN.out] at this
              exact this
end
end Go.Proofs.Ytgbmhijgpdgdbaa
