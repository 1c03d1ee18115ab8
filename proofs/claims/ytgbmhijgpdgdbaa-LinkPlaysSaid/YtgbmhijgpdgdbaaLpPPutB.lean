/- The program's link: the place of a new neighbour, of a shared link. -/
import Derived.Test.YtgbmhijgpdgdbaaLpPPut
import Derived.Test.YtgbmhijgpdgdbaaLpPUp
import Derived.Laws.CopyOwn
set_option maxHeartbeats 4000000
set_option maxRecDepth 20000
namespace Go.Proofs.Ytgbmhijgpdgdbaa
open Go.RowKit Go.Shelf
attribute [local go_sem] Oper.semAt_some
theorem insert_row {α : Type} (cur ps : List α) (z y : α) (n k : Nat) (h : cur.take (n + 1) = ps ++ [z]) (hl : ps.length = n) (hk : k ≤ n) :
    ((cur.take (k + 1) ++ (ps.drop k ++ cur.drop (k + 1 + (n - k)))).set k y).take (n + 1) = ps.take k ++ y :: ps.drop k := by
  have hc : n + 1 ≤ cur.length := by
    have := congrArg List.length h
    rw [List.length_take, List.length_append] at this
    simp at this
    omega
  have e1 : cur.take k = ps.take k := by
    have := congrArg (List.take k) h
    rw [List.take_take, Nat.min_eq_left (by omega), List.take_append_of_le_length (by omega)] at this
    exact this
  have e2 : cur.take (k + 1) = ps.take k ++ [cur[k]] := by
    rw [← e1, List.take_succ_eq_append_getElem (by omega)]
  have hlk : (ps.take k).length = k := by rw [List.length_take]; omega
  rw [e2, List.append_assoc, List.set_append_right _ _ (by omega), hlk, Nat.sub_self, List.singleton_append, List.set_cons_zero]
  have e3 : (ps.take k ++ y :: ps.drop k).length = n + 1 := by simp; omega
  rw [show ps.take k ++ y :: (ps.drop k ++ cur.drop (k + 1 + (n - k))) = (ps.take k ++ y :: ps.drop k) ++ cur.drop (k + 1 + (n - k)) from by simp, List.take_append_of_le_length (by omega), List.take_of_length_le (by omega)]
section
variable {lo : Nat} {w : World} {B : Nat} {c : LC} {s : Pl.St} {A : Option Addr} {cap : Nat} {xs : List (Nat × Kn)}
theorem pput_b (h : PAt lo w B c s A cap xs) (ht : c.ty = 0) (hn : xs.length ≤ 1000) (f : Int) : Calls Try.prog 72 #[.pointer (some ⟨B, 0, none⟩), .int .u32 f] w fun e w' => e = .returned (.int .i64 (Pl.putAt c f s.l)) ∧ ∃ A' cap' xs', PAt lo w' B c { s with l := Pl.putL c f s.l } A' cap' xs' ∧ LFr lo w w' := by
  have HE : Hid (Pl.putAt c f s.l = Pl.place f s.l ∧ Pl.putL c f s.l = s.l.take (Pl.place f s.l) ++ Pl.zero :: s.l.drop (Pl.place f s.l)) := Lib.hid (by unfold Pl.putAt Pl.putL; rw [if_pos ht, if_pos ht]; exact ⟨rfl, rfl⟩)
  have H := Lib.hid h
  obtain ⟨n, hn'⟩ : ∃ n, xs.length = n := ⟨_, rfl⟩
  have Hn := Lib.hid hn'
  have HnS : Hid (s.l.length = n) := Lib.hid (by rw [← hn', h.len])
  rw [hn'] at hn
  have c1 : w.cell? ⟨B, 1, none⟩ = some (.int .u8 0) := by rw [← ht]; exact h.b.cell 1
  have c22 : w.cell? ⟨B, 22, none⟩ = some (.slice A n cap) := by rw [← hn']; exact h.b.cell 22
  have hlt := h.b.lt
  have fz := h.b.frozen
  clear h hn' ht
  go_enter Try.func72, Try.ntmps72
  go_upto_block 0 with fail
  go_cut [5] from 18 to 41 (fun p wx => ∃ k : Nat, p = .int .i64 k ∧ k ≤ n ∧ Hid (Pl.place f s.l = k) ∧ w = wx)
  case first =>
    go_wp2_with fail
    go_loopw [5] (fun x wr => ∃ k : Nat, k ≤ n ∧ x = .int .i64 k ∧ wr = w ∧ Hid (∀ y ∈ s.l.take k, y.ad < f)) (fun x _ => n - (intOf x).toNat)
    case atStart => exact ⟨0, Nat.zero_le _, rfl, rfl, Lib.hid (by simp)⟩
    case round =>
      obtain ⟨k, hk, rfl, rfl, HI⟩ := hrel
      by_cases hlt2 : k < n
      · obtain ⟨x, hx⟩ : ∃ x, xs[k]? = some x := ⟨_, List.getElem?_eq_getElem (by rw [Hn.out]; exact hlt2)⟩
        obtain ⟨R, rfl, hRl, _, _, hRx⟩ := H.out.at_ hx
        have hm := List.mem_of_getElem? hx
        have q1 : wr.cell? ⟨x.1, 1, none⟩ = some (.int .u32 x.2.ad) := H.out.kn hm 1 _ rfl
        have hxl := (H.out.k x hm).1.lt
        have Hx := Lib.hid (H.out.atL hx)
        have hkn : (k : Int) < (n : Int) := by omega
        clear hx hm
        by_cases hf : x.2.ad < f
        · have HN : Hid (∀ y ∈ s.l.take (k + 1), y.ad < f) := Lib.hid (by
            intro y hy
            rw [List.take_add_one, Hx.out] at hy
            rcases List.mem_append.1 hy with e | e
            · exact HI.out y e
            · simp at e; rw [e]; exact hf)
          go_wp2_with fail
          go_roundw
          case rel => exact ⟨k + 1, by omega, by simp, trivial, HN⟩
          case measure => simp [intOf]; omega
        · have HP : Hid (Pl.place f s.l = k) := Lib.hid (place_go HI.out (by rw [HnS.out]; omega) (fun y hy => by rw [Hx.out] at hy; cases hy; exact hf))
          go_wp2_with fail
          go_meet
          case rel => exact ⟨k, rfl, by omega, HP, rfl⟩
      · obtain rfl : k = n := by omega
        have HP : Hid (Pl.place f s.l = k) := Lib.hid (place_go HI.out (by rw [HnS.out]; omega) (fun y hy => by rw [List.getElem?_eq_none (by rw [HnS.out]; omega)] at hy; cases hy))
        go_wp2_with fail
        go_meet
        case rel => exact ⟨k, rfl, by omega, HP, rfl⟩
  obtain ⟨k, rfl, hk, HPl, rfl⟩ := hcut
  have hlow : lo ≤ w.heap.size := by have := H.out.loB; omega
  have HRow : Hid (PRow (w.alloc (.cells #[.pointer none] 137)) lo A n cap (kptrs xs)) := Lib.hid (by rw [← Hn.out]; exact H.out.o.fr (Frame.of_below (S := fun _ => False) ((Below.refl _ w).alloc (Nat.le_refl _) _)) (fun _ _ e => e))
  have HLit := Lib.hid (Reads.of_own (World.ownsRow_lit (base := 0) (e := 137) (size := 1) w #[.pointer none] 1 (Nat.zero_le _) (by simp [maxLen]) rfl))
  go_upto_region 7 with fail
  go_upto_region 8 with (at_builtin; refine wpList_append_prow rfl (.tmp 46) (.tmp 47) rfl lo A n cap (kptrs xs) rfl HRow.out (by simp; omega) (kptrs_one xs) _ (some ⟨w.heap.size, 0, none⟩) 1 1 [.pointer none] rfl HLit.out (by simp [Value.oneCell']) (by omega) ?_; intro A7 cp7 w7 hrow7 hg7; have HRow7 := Lib.hid hrow7; have HG7 := Lib.hid hg7; have kB7 := H.out.grownB (w3 := w.alloc (.cells #[.pointer none] 137)) (n := n) Hn.out ((Below.refl _ w).alloc (Nat.le_refl _) _) HG7.out; have d22 : w7.cell? ⟨B, 22, none⟩ = some (.slice A n cap) := kB7.cell 22; have fz7 := kB7.frozen; have hl7 := kB7.lt; clear hrow7 hg7; have HB7 := Lib.hid kB7; clear kB7)
  obtain ⟨w8, hw8⟩ : ∃ w8, w8 = w7.setCell ⟨B, 22, none⟩ (.slice A7 (n + 1) cp7) := ⟨_, rfl⟩
  have kB8 : Blk w8 B 119 (lks c s.st s.dr s.bd s.wt s.nx s.po s.re (.slice A7 (n + 1) cp7)) := by rw [hw8]; exact HB7.out.set_ 22 _
  have hF8 : Frame (fun j => j = B) w7 w8 := by rw [hw8]; exact (Frame.refl _ w7).setB 22 _
  have hrow8 : PRow w8 lo A7 (n + 1) cp7 (kptrs xs ++ [.pointer none]) := HRow7.out.fr hF8 (fun L hL e => by
    obtain ⟨cur, hc⟩ := HRow7.out.ty hL
    exact hc.ne_ HB7.out (by decide) e)
  rw [← hw8]
  have hA : ∀ j, (Value.slice A n cap).ownBlock = some j → lo ≤ j ∧ ∃ cur, Blk w j 137 cur := fun j e => by
    rcases H.out.o.2 with ⟨e1, _⟩ | ⟨g, cur, e1, hg, hh, _⟩
    · rw [e1] at e
      simp [Value.ownBlock] at e
    · rw [e1] at e
      have hgj : g = j := by simpa [Value.ownBlock] using e
      subst hgj
      exact ⟨hg, cur, hh⟩
  have hF7 : Frame (fun j => (Value.slice A n cap).ownBlock = some j) w w7 := (Frame.of_below ((Below.refl _ w).alloc (Nat.le_refl _) _)).trans (Frame.of_grown HG7.out (fun j e _ => e))
  have HF7 := Lib.hid hF7
  have HA := Lib.hid hA
  have HFr8 : Hid (LFr lo w w8) := Lib.hid (LFr.trans (hF7.mono fun j e => by obtain ⟨h1, cur, hc⟩ := hA j e; exact ⟨h1, cur, _, hc, .inr (.inl rfl)⟩) (LFr.one HB7.out H.out.loB (.inl rfl) hF8))
  have HKs : Hid (∀ x ∈ xs, Blk w8 x.1 139 x.2.cells) := Lib.hid (fun x hx => by
    have k7 := hF7.blk (H.out.k x hx).1 (fun e => by obtain ⟨_, cur, hc⟩ := hA _ e; exact (H.out.k x hx).1.ne_ hc (by decide) rfl)
    exact hF8.blk k7 (k7.ne_ HB7.out (by decide)))
  obtain ⟨g, cur, hA7, hgl, hh8, hnc, hcs, hcm, _, hct⟩ : ∃ g cur, A7 = some ⟨g, 0, none⟩ ∧ lo ≤ g ∧ Blk w8 g 137 cur ∧ n + 1 ≤ cp7 ∧ cp7 ≤ cur.size ∧ cp7 ≤ maxLen ∧ (n + 1 = cp7 ∨ cp7 = cur.size) ∧ cur.toList.take (n + 1) = kptrs xs ++ [.pointer none] := by
    rcases hrow8.2 with ⟨_, h0, _⟩ | h1
    · omega
    · exact h1
  subst hA7
  have HH8 := Lib.hid hh8
  have HCt := Lib.hid hct
  have Hrow8 := Lib.hid hrow8
  have KB8 := Lib.hid kB8
  have HGl := Lib.hid hgl
  have e22 : w8.cell? ⟨B, 22, none⟩ = some (.slice (some ⟨g, 0, none⟩) (n + 1) cp7) := kB8.cell 22
  have hl8 := kB8.lt
  clear hw8 kB8 hF8 hrow8 hF7 hA hh8 hct hgl d22 fz7 hl7 c22 fz hlt c1 hlow
  go_cut [] from 51 to 64 (fun wx => ∃ cur2 : Array Value, Hid (Blk wx g 137 cur2) ∧ Hid (cur2.toList = cur.toList.take (k + 1) ++ ((kptrs xs).drop k ++ cur.toList.drop (k + 1 + (n - k)))) ∧ Hid (Frame (fun j => j = g) w8 wx))
  case first =>
    refine wp_region_drawn_tail 13 (by kernel_rfl) (by kernel_rfl) ?_
    simp only [List.take_succ_cons, List.take_zero, List.drop_succ_cons, List.drop_zero]
    have hkI : (k : Int) + 1 ≤ (n : Int) + 1 := by omega
    have hkI2 : (k : Int) ≤ (n : Int) + 1 := by omega
    repeat (go_big_quiet_step (fail))
    refine wpQuiet_nil ?_
    rintro wq ⟨q, rfl⟩
    obtain ⟨DA, hDA⟩ : ∃ DA : Option Addr, (if cp7 = k + 1 then some ⟨g, 0, none⟩ else some ⟨g, k + 1, none⟩) = DA := ⟨_, rfl⟩
    rw [hDA]
    have HDA := Lib.hid hDA
    clear hDA
    have hcs2 : n + 1 ≤ cur.size := by omega
    have hone : ∀ v ∈ (kptrs xs).drop k, v.oneCell' = true := fun v hv => kptrs_one xs v (List.mem_of_mem_drop hv)
    have hpl : (kptrs xs).length = n := by unfold kptrs; rw [List.length_map]; exact Hn.out
    by_cases hkn : k < n
    · have hsrc : ∀ j v, ((kptrs xs).drop k)[j]? = some v → (w8.drewN q).cell? ((⟨g, k, none⟩ : Addr).add j) = some v := by
        intro j v hv
        rw [Addr.add_mid, (HH8.out.drewN q).cell (k + j), ← Array.getElem?_toList]
        rw [List.getElem?_drop] at hv
        have h1 := (List.getElem?_eq_some_iff.1 hv).1
        have h2 : (cur.toList.take (n + 1))[k + j]? = some v := by
          rw [HCt.out, List.getElem?_append_left h1]
          exact hv
        rw [List.getElem?_take, if_pos (by omega)] at h2
        exact h2
      refine wpList_copy_own rfl (.tmp 57) (.tmp 63) 117 117 rfl 137 Try.underlying117 (by kernel_rfl) g (k + 1) (n - k) (cp7 - (k + 1)) ⟨g, k, none⟩ (n + 1 - k) (cp7 - k) (by show Value.slice DA _ _ = _; rw [← HDA.out, if_neg (by omega)]) rfl cur 137 (HH8.out.drewN q) ((kptrs xs).drop k) (by rw [List.length_drop, hpl]; show _ = min _ _; omega) hsrc (by rw [List.length_drop, hpl]; omega) hone ?_
      go_wp2_with fail
      go_meet
      case rel =>
        refine ⟨(cur.toList.take (k + 1) ++ ((kptrs xs).drop k ++ cur.toList.drop (k + 1 + (n - k)))).toArray, Lib.hid ?_, Lib.hid (by simp), Lib.hid ?_⟩
        · have h1 := setRow_heap (w8.drewN q) g cur (cur.toList.take (k + 1) ++ ((kptrs xs).drop k ++ cur.toList.drop (k + 1 + (n - k)))).toArray 137 (0, 0) (HH8.out.drewN q)
          first | exact h1 | (rw [List.length_drop, hpl]; exact h1)
        · exact frame_setRow (Frame.of_below (drewQ w8 q))
    · obtain rfl : k = n := by omega
      refine wpList_copy_nothing rfl (.tmp 57) (.tmp 63) 117 117 rfl 137 Try.underlying117 (by kernel_rfl) _ _ _ _ _ _ rfl rfl (by show min _ _ = 0; omega) ?_
      go_wp2_with fail
      go_meet
      case rel =>
        refine ⟨cur, Lib.hid (HH8.out.drewN q), Lib.hid ?_, Lib.hid (Frame.of_below (drewQ w8 q))⟩
        rw [List.drop_eq_nil_of_le (by omega), List.nil_append, Nat.sub_self, Nat.add_zero, List.take_append_drop]
  obtain ⟨cur2, HC2, HCl2, HF9⟩ := hcut
  obtain ⟨w9, hw9⟩ : ∃ y, y = wc := ⟨_, rfl⟩
  rw [← hw9] at HC2 HF9 ⊢
  clear hw9 e22 hl8
  have KB9 : Hid (Blk w9 B 119 (lks c s.st s.dr s.bd s.wt s.nx s.po s.re (.slice (some ⟨g, 0, none⟩) (n + 1) cp7))) := Lib.hid (HF9.out.blk KB8.out (KB8.out.ne_ HH8.out (by decide)))
  have e22 : w9.cell? ⟨B, 22, none⟩ = some (.slice (some ⟨g, 0, none⟩) (n + 1) cp7) := KB9.out.cell 22
  have hl9 := KB9.out.lt
  have hg9 := HC2.out.lt
  have fg9 := HC2.out.frozen
  obtain ⟨u, hu⟩ : ∃ u, w9.cell? ⟨g, k, none⟩ = some u := by
    have hk2 : k < cur2.size := by
      have h1 := congrArg List.length HCl2.out
      rw [Array.length_toList, List.length_append, List.length_take, Array.length_toList] at h1
      omega
    exact ⟨_, (HC2.out.cell k).trans (Array.getElem?_eq_getElem hk2)⟩
  have hkI : (k : Int) < (n : Int) + 1 := by omega
  go_wp2_with fail
  have hsz2 : cur2.size = cur.size := by
    have h1 := congrArg List.length HCl2.out
    have hpl : (kptrs xs).length = n := by unfold kptrs; rw [List.length_map]; exact Hn.out
    rw [Array.length_toList, List.length_append, List.length_append, List.length_take, List.length_drop, List.length_drop, Array.length_toList, hpl] at h1
    omega
  obtain ⟨ws, hws⟩ : ∃ ws, ws = w9.setCell ⟨g, k, none⟩ (.pointer (some ⟨w9.heap.size, 0, none⟩)) := ⟨_, rfl⟩
  have hss : ws.heap.size = w9.heap.size := by rw [hws]; simp [World.setCell]
  have hFs : Frame (fun j => j = g) w9 ws := by rw [hws]; exact (Frame.refl (fun j => j = g) w9).setB k _
  have hgs : Blk ws g 137 (cur2.setIfInBounds k (.pointer (some ⟨w9.heap.size, 0, none⟩))) := by rw [hws]; exact HC2.out.set_ k _
  obtain ⟨wz, hwz⟩ : ∃ wz, wz = ws.alloc (.cells Pl.zero.cells 139) := ⟨_, rfl⟩
  have hbz : Below ws.heap.size ws wz := by rw [hwz]; exact (Below.refl _ ws).alloc (Nat.le_refl _) _
  have hKz : Blk wz w9.heap.size 139 Pl.zero.cells := by rw [hwz, ← hss]; exact Blk.new ws _ _
  rw [← hws]
  have hwz' : wz = ws.alloc (.cells #[.int .u32 0, .int .u32 0, .int .u8 0, .int .u8 0, .int .u32 0, .int .u32 0, .int .u8 0, .int .u32 0, .bool false, .bool false] 139) := hwz
  rw [← hwz']
  have hfz : Frame (fun j => j = g) w8 wz := HF9.out.trans (hFs.trans (Frame.of_below hbz))
  have hgB : B ≠ g := KB8.out.ne_ HH8.out (by decide)
  have hxl : (xs.take k ++ (w9.heap.size, Pl.zero) :: xs.drop k).length = n + 1 := by have := Hn.out; simp; omega
  have hps : kptrs (xs.take k ++ (w9.heap.size, Pl.zero) :: xs.drop k) = (kptrs xs).take k ++ .pointer (some ⟨w9.heap.size, 0, none⟩) :: (kptrs xs).drop k := by
    unfold kptrs
    rw [List.map_append, List.map_cons, List.map_take, List.map_drop]
  have hP : PAt lo wz B c { s with l := Pl.putL c f s.l } (some ⟨g, 0, none⟩) cp7 (xs.take k ++ (w9.heap.size, Pl.zero) :: xs.drop k) := by
    refine ⟨H.out.loB, by rw [hxl]; exact hfz.blk KB8.out hgB, ?_, fun x hx => ?_, ?_, ?_⟩
    · rw [hxl, hps]
      refine ⟨by have := Hn.out; unfold kptrs; simp; omega, .inr ⟨g, _, rfl, HGl.out, hgs.below hbz hgs.lt, hnc, by simp; omega, hcm, ?_, ?_⟩⟩
      · rw [Array.size_setIfInBounds, hsz2]
        assumption
      · rw [Array.toList_setIfInBounds, HCl2.out]
        exact insert_row cur.toList (kptrs xs) _ _ n k HCt.out (by unfold kptrs; rw [List.length_map]; exact Hn.out) hk
    · have hx2 : x = (w9.heap.size, Pl.zero) ∨ x ∈ xs := by
        rcases List.mem_append.1 hx with hx | hx
        · exact .inr (List.mem_of_mem_take hx)
        · rcases List.mem_cons.1 hx with hx | hx
          · exact .inl hx
          · exact .inr (List.mem_of_mem_drop hx)
      rcases hx2 with rfl | hx2
      · exact ⟨hKz, by have := H.out.loB; have := KB9.out.lt; show lo ≤ w9.heap.size; omega⟩
      · exact ⟨hfz.blk (HKs.out x hx2) ((HKs.out x hx2).ne_ HH8.out (by decide)), (H.out.k x hx2).2⟩
    · have hperm : (xs.take k ++ (w9.heap.size, Pl.zero) :: xs.drop k).Perm ((w9.heap.size, Pl.zero) :: xs) := by
        have h1 := List.perm_middle (a := (w9.heap.size, Pl.zero)) (l₁ := xs.take k) (l₂ := xs.drop k)
        rwa [List.take_append_drop] at h1
      refine (hperm.map (·.1)).nodup_iff.2 ?_
      rw [List.map_cons, List.nodup_cons]
      refine ⟨fun hm => ?_, H.out.nd⟩
      obtain ⟨x, hx, e⟩ := List.mem_map.1 hm
      have h1 := (HKs.out x hx).lt
      have h2 := HF9.out.size
      have e : x.1 = w9.heap.size := e
      omega
    · rw [List.map_append, List.map_cons, List.map_take, List.map_drop, H.out.l]
      show _ = Pl.putL c f s.l
      rw [HE.out.2, HPl.out]
  have hL : LFr lo w wz := HFr8.out.trans ((LFr.one HH8.out HGl.out (.inr (.inl rfl)) HF9.out).trans ((LFr.one HC2.out HGl.out (.inr (.inl rfl)) hFs).trans (LFr.of_below hbz)))
  refine bodyPost_ret (v := .int .i64 k) (by simp [results, Try.results72, go_sem]) rfl ?_
  have e1 : Ending.returned (.int .i64 (k : Int)) = .returned (.int .i64 (Pl.putAt c f s.l : Int)) := by rw [HE.out.1, HPl.out]
  first | exact ⟨e1, ⟨_, _, _, hP⟩, hL⟩ | exact ⟨e1, _, _, _, hP, hL⟩
end
end Go.Proofs.Ytgbmhijgpdgdbaa
