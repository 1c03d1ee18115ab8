/- Heads of unlike keys, of types that may be, none old. -/
import Derived.Test.YtgbmhijgpdgdbaaFaFindG
import Derived.Test.YtgbmhijgpdgdbaaFaBegin
namespace Go.Proofs.Ytgbmhijgpdgdbaa
open Go.RowKit

/-- A head's numbers fit their types. -/
structure HdRaw (h : Od.Hd) : Prop where
  g0 : 0 ≤ h.g
  g1 : h.g ≤ 65535
  t0 : 0 ≤ h.t
  t1 : h.t ≤ 255
  i0 : 0 ≤ h.i
  i1 : h.i < 4294967296
  v0 : 0 ≤ h.v
  v1 : h.v < 4294967296

theorem and15 : ∀ t : Nat, t < 256 → 0 ≤ bits .and .u8 (t : Int) 15 ∧ bits .and .u8 (t : Int) 15 ≤ 15 := by decide +kernel

def Unlike (U : List Od.Hd) : Prop := (∀ x ∈ U, HdOk x ∧ Od.old x.g = false) ∧ U.length ≤ 60

def UnlikePost (w : World) (e : Ending) (w' : World) : Prop :=
  ∃ v U, e = .returned v ∧ w'.ownsRow w.heap.size 59 8 v U.length (U.flatMap hcells) ∧ Unlike U ∧ Below w.heap.size w w'

set_option maxHeartbeats 4000000 in
set_option maxRecDepth 20000 in
theorem unlike_any (w : World) (u : Value) (l : List Od.Hd) (hu : HeadsAt w w.heap.size u l) (hraw : ∀ x ∈ l, HdRaw x) (hn : l.length ≤ 200) :
    Calls Try.prog 12 #[u] w fun e w' => UnlikePost w e w' := by
  obtain ⟨A, n, c, rfl, hnc, hlen, hr⟩ := hu
  obtain ⟨i0, hi, hz0, hz1, hz2⟩ := info_parts head_info
  have Hlen := Lib.hid hlen
  have Hraw := Lib.hid hraw
  have HR := Lib.hid hr
  have hn0 : n ≤ 200 := by omega
  clear hlen hn hr hraw
  go_enter Try.func12, Try.ntmps12
  go_wp2_with fail
  go_loopw [3, 4] (fun ov i wr => ∃ (k m : Nat) (UA : Option Addr) (Uc : Nat) (U : List Od.Hd), k ≤ n ∧ i = .int .i64 k ∧ ov = .slice UA m Uc ∧ m ≤ 60 ∧ Hid (U.length = m) ∧ Hid (wr.ownsRow w.heap.size 59 8 (.slice UA m Uc) m (U.flatMap hcells)) ∧ Hid (∀ x ∈ U, HdOk x ∧ Od.old x.g = false) ∧ Hid (Below w.heap.size w wr))
    (fun _ i _ => n - (intOf i).toNat)
  case atStart => exact ⟨0, 0, none, 0, [], Nat.zero_le _, rfl, rfl, by omega, Lib.hid rfl, Lib.hid (World.ownsRow_nil _ _ _ _), Lib.hid (by simp), Lib.hid (Below.refl _ _)⟩
  case round =>
    obtain ⟨k, m, UA, Uc, U, hk, rfl, rfl, hm, HL, HU, HG, HB⟩ := hrel
    have HFin : Hid (UnlikePost w (.returned (.slice UA m Uc)) wr) := Lib.hid ⟨_, U, rfl, by rw [HL.out]; exact HU.out, ⟨HG.out, by rw [HL.out]; exact hm⟩, HB.out⟩
    by_cases hlt : k < n
    · have hkn : (k : Int) < (n : Int) := by omega
      by_cases h60 : m < 60
      · have h60' : (m : Int) < 60 := by omega
        obtain ⟨x, hx⟩ : ∃ x, l[k]? = some x := ⟨_, List.getElem?_eq_getElem (by have := Hlen.out; omega)⟩
        have hxr := Hraw.out x (List.mem_of_getElem? hx)
        obtain ⟨bl, off, hA, hbl, hcell⟩ := (HR.out.below HB.out).head hx
        subst hA
        obtain ⟨g, o, t, i, v, s, mm, ll⟩ := x
        have d0 : wr.cell? ⟨bl, off + k * 8, none⟩ = some (.int .u16 g) := hcell 0 _ rfl
        have d1 := hcell 1 _ rfl
        have d2 := hcell 2 _ rfl
        have d3 := hcell 3 _ rfl
        have d4 := hcell 4 _ rfl
        have d5 := hcell 5 _ rfl
        have d6 := hcell 6 _ rfl
        have d7 := hcell 7 _ rfl
        have hg0 : 0 ≤ g := hxr.g0
        have hg1 : g ≤ 65535 := hxr.g1
        obtain ⟨t', ht'⟩ : ∃ t', bits .and .u8 t 15 = t' := ⟨_, rfl⟩
        have hti : 0 ≤ t' ∧ t' ≤ 15 := by
          have h0 : 0 ≤ t := hxr.t0
          have h1 : t ≤ 255 := hxr.t1
          have := and15 t.toNat (by omega)
          rw [show ((t.toNat : Nat) : Int) = t from by omega, ht'] at this
          exact this
        have Hi : Hid (0 ≤ i ∧ i < 4294967296) := Lib.hid ⟨hxr.i0, hxr.i1⟩
        have Hv : Hid (0 ≤ v ∧ v < 4294967296) := Lib.hid ⟨hxr.v0, hxr.v1⟩
        have HT := Lib.hid hti
        clear hcell hx hxr hti
        rcases hog : Od.old g
        · go_wp2_with (first
            | (go_at_call 48; refine (rold_any g _ hg0 hg1).mono ?_; rintro e w' ⟨rfl, rfl⟩))
          refine (rkey_any _ ⟨g, o, t', i, v, s, mm, ll⟩).mono ?_
          rintro e w1 ⟨rfl, hb1⟩
          unfold kval keyOfHd
          have hb01 : Below w.heap.size w w1 := (HB.out.alloc HB.out.size _).trans (hb1.mono (by have := HB.out.size; simp; omega))
          have kh1 : Blk w1 wr.heap.size 59 #[.int .u16 g, .int .u8 o, .int .u8 t', .int .u32 i, .int .u32 v, .int .i32 s, .int .u16 mm, .int .u16 ll] := (Blk.new wr _ _).below hb1 (by simp)
          have kU1 : w1.ownsRow w.heap.size 59 8 (.slice UA m Uc) m (U.flatMap hcells) := (((Frame.refl (fun _ => False) wr).alloc _).trans (Frame.of_below hb1)).own HU.out (fun _ _ e => e)
          have z0 : w1.cell? ⟨wr.heap.size, 0, none⟩ = some (.int .u16 g) := kh1.cell 0
          have z1 : w1.cell? ⟨wr.heap.size, 1, none⟩ = some (.int .u8 o) := kh1.cell 1
          have z2 : w1.cell? ⟨wr.heap.size, 2, none⟩ = some (.int .u8 t') := kh1.cell 2
          have z3 : w1.cell? ⟨wr.heap.size, 3, none⟩ = some (.int .u32 i) := kh1.cell 3
          have z4 : w1.cell? ⟨wr.heap.size, 4, none⟩ = some (.int .u32 v) := kh1.cell 4
          have z5 : w1.cell? ⟨wr.heap.size, 5, none⟩ = some (.int .i32 s) := kh1.cell 5
          have z6 : w1.cell? ⟨wr.heap.size, 6, none⟩ = some (.int .u16 mm) := kh1.cell 6
          have z7 : w1.cell? ⟨wr.heap.size, 7, none⟩ = some (.int .u16 ll) := kh1.cell 7
          have HX : Hid (HdOk ⟨g, o, t', i, v, s, mm, ll⟩ ∧ Od.old g = false) := Lib.hid ⟨⟨by show 0 ≤ g; omega, by show g < 65536; omega, HT.out.1, HT.out.2, Hi.out.1, Hi.out.2, Hv.out.1, Hv.out.2⟩, hog⟩
          have HK1 := Lib.hid kh1
          have HU1 := Lib.hid kU1
          have HB1 := Lib.hid hb01
          clear hb1 kh1 kU1 hb01 d0 d1 d2 d3 d4 d5 d6 d7
          go_wp2_with fail
          refine (find_any w1 (.slice UA m Uc) U t' i v (HeadsIn.own HU1.out HL.out) (by have := HL.out; omega)).mono ?_
          rintro e w2 ⟨j, rfl, hj, hb2⟩
          have hb02 : Below w.heap.size w w2 := HB1.out.trans (hb2.mono HB1.out.size)
          have kU2 : w2.ownsRow w.heap.size 59 8 (.slice UA m Uc) m (U.flatMap hcells) := (Frame.of_below (S := fun _ => False) hb2).own HU1.out (fun _ _ e => e)
          have kh2 := HK1.out.below hb2 HK1.out.lt
          by_cases hj0 : j < 0
          · have hd0 : decide (j < 0) = true := by simpa using hj0
            have y0 : w2.cell? ⟨wr.heap.size, 0, none⟩ = some (.int .u16 g) := kh2.cell 0
            have y1 : w2.cell? ⟨wr.heap.size, 1, none⟩ = some (.int .u8 o) := kh2.cell 1
            have y2 : w2.cell? ⟨wr.heap.size, 2, none⟩ = some (.int .u8 t') := kh2.cell 2
            have y3 : w2.cell? ⟨wr.heap.size, 3, none⟩ = some (.int .u32 i) := kh2.cell 3
            have y4 : w2.cell? ⟨wr.heap.size, 4, none⟩ = some (.int .u32 v) := kh2.cell 4
            have y5 : w2.cell? ⟨wr.heap.size, 5, none⟩ = some (.int .i32 s) := kh2.cell 5
            have y6 : w2.cell? ⟨wr.heap.size, 6, none⟩ = some (.int .u16 mm) := kh2.cell 6
            have y7 : w2.cell? ⟨wr.heap.size, 7, none⟩ = some (.int .u16 ll) := kh2.cell 7
            have hlit := Reads.of_own (World.ownsRow_lit (base := 0) (e := 59) (size := 8) w2 #[.int .u16 g, .int .u8 o, .int .u8 t', .int .u32 i, .int .u32 v, .int .i32 s, .int .u16 mm, .int .u16 ll] 1 (Nat.zero_le _) (by simp [maxLen]) rfl)
            have HLit := Lib.hid hlit
            have HU2 := Lib.hid (((Frame.refl (fun _ => False) w2).alloc (.cells #[.int .u16 g, .int .u8 o, .int .u8 t', .int .u32 i, .int .u32 v, .int .i32 s, .int .u16 mm, .int .u16 ll] 59)).own kU2 (fun _ _ e => e))
            have HB2 := Lib.hid hb02
            have h63 : m + 1 ≤ maxLen := by unfold maxLen; omega
            have hby : (m + 1) * 20 ≤ 140737488355328 := by omega
            have hba : w.heap.size ≤ w2.heap.size := hb02.size
            clear hj hb2 hb02 kU2 kh2 hlit z0 z1 z2 z3 z4 z5 z6 z7
            go_wp2_with (at_builtin; refine wpList_append_any _ rfl (.tmp 34) (.tmp 36) _ rfl w.heap.size 59 i0 _ 8 20 Try.underlying22 hi hz0 hz1 hz2 rfl (by omega) (.slice UA m Uc) m (U.flatMap hcells) rfl HU2.out _ (some ⟨w2.heap.size, 0, none⟩) 1 1 (hcells ⟨g, o, t', i, v, s, mm, ll⟩) rfl HLit.out (by simp [hcells, Value.oneCell']) h63 hby (by simp; omega) ?_; intro v3 w3 hown3 hg3 hat3; obtain ⟨A3, c3, hv3⟩ := own_slice hown3; subst hv3)
            go_roundw
            case rel =>
              refine ⟨k + 1, m + 1, A3, c3, U ++ [⟨g, o, t', i, v, s, mm, ll⟩], by omega, by go_num, rfl, by omega, Lib.hid (by rw [List.length_append, HL.out]; rfl), Lib.hid ?_, Lib.hid ?_, Lib.hid ?_⟩
              · rw [List.flatMap_append]
                simpa using hown3
              · intro x hx
                rcases List.mem_append.1 hx with hx | hx
                · exact HG.out x hx
                · rw [List.mem_singleton.1 hx]; exact HX.out
              · exact (HB2.out.alloc HB2.out.size _).grown hg3 (by simp; omega) (fun q hq => (HU2.out.lt q hq).1)
            case measure => simp [intOf]; omega
          · have hd0 : decide (j < 0) = false := by simpa using hj0
            have HU2 := Lib.hid kU2
            have HB2 := Lib.hid hb02
            clear hj hb2 hb02 kU2 kh2 z0 z1 z2 z3 z4 z5 z6 z7
            go_wp2_with fail
            go_roundw
            case rel => exact ⟨k + 1, m, UA, Uc, U, by omega, by go_num, rfl, hm, HL, HU2, HG, HB2⟩
            case measure => simp [intOf]; omega
        · go_wp2_with (first
            | (go_at_call 48; refine (rold_any g _ hg0 hg1).mono ?_; rintro e w' ⟨rfl, rfl⟩))
          refine (rkey_any _ ⟨0, o, t', i, v, s, mm, ll⟩).mono ?_
          rintro e w1 ⟨rfl, hb1⟩
          unfold kval keyOfHd
          have hb01 : Below w.heap.size w w1 := (HB.out.alloc HB.out.size _).trans (hb1.mono (by have := HB.out.size; simp; omega))
          have kh1 : Blk w1 wr.heap.size 59 #[.int .u16 0, .int .u8 o, .int .u8 t', .int .u32 i, .int .u32 v, .int .i32 s, .int .u16 mm, .int .u16 ll] := (Blk.new wr _ _).below hb1 (by simp)
          have kU1 : w1.ownsRow w.heap.size 59 8 (.slice UA m Uc) m (U.flatMap hcells) := (((Frame.refl (fun _ => False) wr).alloc _).trans (Frame.of_below hb1)).own HU.out (fun _ _ e => e)
          have z0 : w1.cell? ⟨wr.heap.size, 0, none⟩ = some (.int .u16 0) := kh1.cell 0
          have z1 : w1.cell? ⟨wr.heap.size, 1, none⟩ = some (.int .u8 o) := kh1.cell 1
          have z2 : w1.cell? ⟨wr.heap.size, 2, none⟩ = some (.int .u8 t') := kh1.cell 2
          have z3 : w1.cell? ⟨wr.heap.size, 3, none⟩ = some (.int .u32 i) := kh1.cell 3
          have z4 : w1.cell? ⟨wr.heap.size, 4, none⟩ = some (.int .u32 v) := kh1.cell 4
          have z5 : w1.cell? ⟨wr.heap.size, 5, none⟩ = some (.int .i32 s) := kh1.cell 5
          have z6 : w1.cell? ⟨wr.heap.size, 6, none⟩ = some (.int .u16 mm) := kh1.cell 6
          have z7 : w1.cell? ⟨wr.heap.size, 7, none⟩ = some (.int .u16 ll) := kh1.cell 7
          have HX : Hid (HdOk ⟨0, o, t', i, v, s, mm, ll⟩ ∧ Od.old 0 = false) := Lib.hid ⟨⟨by show 0 ≤ 0; omega, by show 0 < 65536; omega, HT.out.1, HT.out.2, Hi.out.1, Hi.out.2, Hv.out.1, Hv.out.2⟩, by decide⟩
          have HK1 := Lib.hid kh1
          have HU1 := Lib.hid kU1
          have HB1 := Lib.hid hb01
          clear hb1 kh1 kU1 hb01 d0 d1 d2 d3 d4 d5 d6 d7
          go_wp2_with fail
          refine (find_any w1 (.slice UA m Uc) U t' i v (HeadsIn.own HU1.out HL.out) (by have := HL.out; omega)).mono ?_
          rintro e w2 ⟨j, rfl, hj, hb2⟩
          have hb02 : Below w.heap.size w w2 := HB1.out.trans (hb2.mono HB1.out.size)
          have kU2 : w2.ownsRow w.heap.size 59 8 (.slice UA m Uc) m (U.flatMap hcells) := (Frame.of_below (S := fun _ => False) hb2).own HU1.out (fun _ _ e => e)
          have kh2 := HK1.out.below hb2 HK1.out.lt
          by_cases hj0 : j < 0
          · have hd0 : decide (j < 0) = true := by simpa using hj0
            have y0 : w2.cell? ⟨wr.heap.size, 0, none⟩ = some (.int .u16 0) := kh2.cell 0
            have y1 : w2.cell? ⟨wr.heap.size, 1, none⟩ = some (.int .u8 o) := kh2.cell 1
            have y2 : w2.cell? ⟨wr.heap.size, 2, none⟩ = some (.int .u8 t') := kh2.cell 2
            have y3 : w2.cell? ⟨wr.heap.size, 3, none⟩ = some (.int .u32 i) := kh2.cell 3
            have y4 : w2.cell? ⟨wr.heap.size, 4, none⟩ = some (.int .u32 v) := kh2.cell 4
            have y5 : w2.cell? ⟨wr.heap.size, 5, none⟩ = some (.int .i32 s) := kh2.cell 5
            have y6 : w2.cell? ⟨wr.heap.size, 6, none⟩ = some (.int .u16 mm) := kh2.cell 6
            have y7 : w2.cell? ⟨wr.heap.size, 7, none⟩ = some (.int .u16 ll) := kh2.cell 7
            have hlit := Reads.of_own (World.ownsRow_lit (base := 0) (e := 59) (size := 8) w2 #[.int .u16 0, .int .u8 o, .int .u8 t', .int .u32 i, .int .u32 v, .int .i32 s, .int .u16 mm, .int .u16 ll] 1 (Nat.zero_le _) (by simp [maxLen]) rfl)
            have HLit := Lib.hid hlit
            have HU2 := Lib.hid (((Frame.refl (fun _ => False) w2).alloc (.cells #[.int .u16 0, .int .u8 o, .int .u8 t', .int .u32 i, .int .u32 v, .int .i32 s, .int .u16 mm, .int .u16 ll] 59)).own kU2 (fun _ _ e => e))
            have HB2 := Lib.hid hb02
            have h63 : m + 1 ≤ maxLen := by unfold maxLen; omega
            have hby : (m + 1) * 20 ≤ 140737488355328 := by omega
            have hba : w.heap.size ≤ w2.heap.size := hb02.size
            clear hj hb2 hb02 kU2 kh2 hlit z0 z1 z2 z3 z4 z5 z6 z7
            go_wp2_with (at_builtin; refine wpList_append_any _ rfl (.tmp 34) (.tmp 36) _ rfl w.heap.size 59 i0 _ 8 20 Try.underlying22 hi hz0 hz1 hz2 rfl (by omega) (.slice UA m Uc) m (U.flatMap hcells) rfl HU2.out _ (some ⟨w2.heap.size, 0, none⟩) 1 1 (hcells ⟨0, o, t', i, v, s, mm, ll⟩) rfl HLit.out (by simp [hcells, Value.oneCell']) h63 hby (by simp; omega) ?_; intro v3 w3 hown3 hg3 hat3; obtain ⟨A3, c3, hv3⟩ := own_slice hown3; subst hv3)
            go_roundw
            case rel =>
              refine ⟨k + 1, m + 1, A3, c3, U ++ [⟨0, o, t', i, v, s, mm, ll⟩], by omega, by go_num, rfl, by omega, Lib.hid (by rw [List.length_append, HL.out]; rfl), Lib.hid ?_, Lib.hid ?_, Lib.hid ?_⟩
              · rw [List.flatMap_append]
                simpa using hown3
              · intro x hx
                rcases List.mem_append.1 hx with hx | hx
                · exact HG.out x hx
                · rw [List.mem_singleton.1 hx]; exact HX.out
              · exact (HB2.out.alloc HB2.out.size _).grown hg3 (by simp; omega) (fun q hq => (HU2.out.lt q hq).1)
            case measure => simp [intOf]; omega
          · have hd0 : decide (j < 0) = false := by simpa using hj0
            have HU2 := Lib.hid kU2
            have HB2 := Lib.hid hb02
            clear hj hb2 hb02 kU2 kh2 z0 z1 z2 z3 z4 z5 z6 z7
            go_wp2_with fail
            go_roundw
            case rel => exact ⟨k + 1, m, UA, Uc, U, by omega, by go_num, rfl, hm, HL, HU2, HG, HB2⟩
            case measure => simp [intOf]; omega
      · have h60' : ¬ (m : Int) < 60 := by omega
        go_wp2_with fail
        go_ret
        exact HFin.out
    · obtain rfl : k = n := by omega
      go_wp2_with fail
      go_ret
      exact HFin.out
end Go.Proofs.Ytgbmhijgpdgdbaa
