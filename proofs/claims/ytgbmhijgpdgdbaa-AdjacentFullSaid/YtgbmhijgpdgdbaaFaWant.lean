/- What an adjacency wants. -/
import Derived.Test.YtgbmhijgpdgdbaaFaReq
import Derived.Test.YtgbmhijgpdgdbaaFaTypes
import Derived.Deep.RegionLaw
namespace Go.Proofs.Ytgbmhijgpdgdbaa
open Go.RowKit

theorem zeroHead (w : World) : (zeroValue 59).run Try.prog w = .ok (hdval ⟨0, 0, 0, 0, 0, 0, 0, 0⟩) w := by
  obtain ⟨i0, hi, hz0, hz1, hz2⟩ := info_parts head_info
  simp [zeroValue, typeInfo, hi, hz0]

theorem HdOk.ky {h : Od.Hd} (k : HdOk h) : KyOk (keyOfHd h) := ⟨k.t0, by have := k.t1; show h.t < 256; omega, k.i0, k.i1, k.v0, k.v1⟩

/-- Where an adjacency writes: its own block, its map's, its order's. -/
def Own (B m : Nat) (ov : Value) : Nat → Prop := fun k => k = B ∨ k = m ∨ ov.ownBlock = some k

theorem own_map_ne {α : Type} {f : α → Value} {w : World} {b base : Nat} {M : Od.Ky → Option α} {e : TypeId} {size n : Nat} {v : Value} {xs : List Value} (h : w.ownsRow base e size v n xs) (hm : MapIs f w b M) : v.ownBlock ≠ some b := by
  rcases h.2 with ⟨rfl, _⟩ | ⟨g', cap, cur, rfl, _, hh, _⟩
  · simp [Value.ownBlock]
  · intro he
    have : g' = b := by simpa [Value.ownBlock] using he
    subst this
    exact hm.blk_ne (t := e) (cs := cur) hh rfl
theorem MapIs.grown {α : Type} {f : α → Value} {w w' : World} {b : Nat} {M : Od.Ky → Option α} {row : Option Nat} (h : MapIs f w b M) (hg : w.grownBy w' row) (hr : row ≠ some b) : MapIs f w' b M := h.keep (hg.block b h.lt (fun e => hr e.symm))

/-- The order after a head that is wanted. -/
def wantO (h : Od.Hd) (O : List Od.Ky) (M : Od.Ky → Option Od.Hd) : List Od.Ky := if (M (keyOfHd h)).isSome then O else O ++ [keyOfHd h]

structure Wants (w : World) (B m : Nat) (a : Adj) (O : List Od.Ky) (M : Od.Ky → Option Od.Hd) : Prop where
  adj : AdjAt w B a
  want : a.wants = .map (some m)
  map : MapIs hdval w m M
  order : KeysOwn w 0 a.order O

def WantPost (B m : Nat) (a : Adj) (O : List Od.Ky) (M : Od.Ky → Option Od.Hd) (w : World) (e : Ending) (w' : World) : Prop :=
  e = .returned (.tuple #[]) ∧ ∃ ov, Wants w' B m { a with order := ov } O M ∧ (ov.ownBlock = a.order.ownBlock ∨ ov.ownBlock = none ∨ ∃ g, ov.ownBlock = some g ∧ w.heap.size ≤ g) ∧ Frame (Own B m a.order) w w'

set_option maxHeartbeats 2000000 in
set_option maxRecDepth 20000 in
theorem want_new (w : World) (B m mh : Nat) (a : Adj) (O : List Od.Ky) (M H : Od.Ky → Option Od.Hd) (g o t i v s mm l : Int) (h : Wants w B m a O M) (hH : MapIs hdval w mh H) (hk : KyOk ⟨t, i, v⟩) (hn : O.length ≤ 65535)
    (hHk : H ⟨t, i, v⟩ = none) (hMk : M ⟨t, i, v⟩ = none) :
    Calls Try.prog 125 #[.pointer (some ⟨B, 0, none⟩), hdval ⟨g, o, t, i, v, s, mm, l⟩, .map (some mh)] w fun e w' => WantPost B m a (O ++ [⟨t, i, v⟩]) (upd M ⟨t, i, v⟩ (some ⟨g, o, t, i, v, s, mm, l⟩)) w e w' := by
  obtain ⟨h1, h2, h3, h4⟩ := h
  obtain ⟨i0, hi, hz0, hz1, hz2⟩ := info_parts key_info
  have hBlt := h1.lt
  have hmlt := h3.lt
  have HA := Lib.hid h1
  have HM := Lib.hid h3
  have HH := Lib.hid hH
  have HO := Lib.hid h4
  have hmhlt := hH.lt
  clear h1 h3 hH h4
  unfold hdval
  go_enter Try.func125, Try.ntmps125
  go_wp2_with fail
  refine (key_any _ ⟨g, o, t, i, v, s, mm, l⟩).mono ?_
  rintro e w1 ⟨rfl, hb1⟩
  unfold kval keyOfHd
  have hb01 : Below w.heap.size w w1 := ((Below.refl _ w).alloc (Nat.le_refl _) _).trans (hb1.mono (by simp))
  have hs1 : w.heap.size + 1 ≤ w1.heap.size := by have := hb1.size; simpa using this
  have kH1 := (Blk.new w 59 #[.int .u16 g, .int .u8 o, .int .u8 t, .int .u32 i, .int .u32 v, .int .i32 s, .int .u16 mm, .int .u16 l]).below hb1 (by simp)
  have HK1 := Lib.hid kH1
  have hlk1 := (((HH.out.below hb01 hmhlt).alloc (.cells #[.int .u8 t, .int .u32 i, .int .u32 v] 56)).look hk Try.underlying64 (zeroHead _) true)
  rw [hHk] at hlk1
  simp only [kval, hdval, Option.elim, Option.isSome, if_true] at hlk1
  have HB01 := Lib.hid hb01
  have HS1 := Lib.hid hs1
  clear kH1 hb1 hb01
  go_upto_region 4 with fail
  obtain ⟨W4, hW4⟩ : ∃ W4, W4 = ((w1.alloc (.cells #[.int .u8 t, .int .u32 i, .int .u32 v] 56)).alloc (.cells #[.int .u16 0, .int .u8 0, .int .u8 0, .int .u32 0, .int .u32 0, .int .i32 0, .int .u16 0, .int .u16 0] 59)) := ⟨_, rfl⟩
  have hB4 : Below w.heap.size w W4 := by rw [hW4]; exact (HB01.out.alloc HB01.out.size _).alloc (by simp; omega) _
  have hs4 : W4.heap.size = w1.heap.size + 2 := by rw [hW4]; simp
  have kk4 : Blk W4 w1.heap.size 56 #[.int .u8 t, .int .u32 i, .int .u32 v] := by rw [hW4]; exact (Blk.new w1 _ _).alloc _
  have kh4 : Blk W4 w.heap.size 59 #[.int .u16 g, .int .u8 o, .int .u8 t, .int .u32 i, .int .u32 v, .int .i32 s, .int .u16 mm, .int .u16 l] := by rw [hW4]; exact (HK1.out.alloc _).alloc _
  rw [← hW4]
  clear hW4 hlk1
  have hlkm := ((HM.out.below hB4 hmlt).drew).look hk Try.underlying64 (zeroHead _) true
  have hlkm2 := fun ob => (((HM.out.below hB4 hmlt).alloc ob).drew).look hk Try.underlying64 (zeroHead _) true
  rw [hMk] at hlkm hlkm2
  simp only [kval, hdval, Option.elim, Option.isSome, if_true] at hlkm hlkm2
  have hBW4 : B < W4.heap.size := by have := hB4.size; omega
  have hkW4 : w1.heap.size < W4.heap.size := by omega
  have c22 : W4.cell? ⟨B, 22, none⟩ = some (.map (some m)) := (hB4.cell hBlt).trans ((HA.out.cell 22).trans (congrArg some h2))
  have q0 : W4.cell? ⟨w1.heap.size, 0, none⟩ = some (.int .u8 t) := kk4.cell 0
  have q1 : W4.cell? ⟨w1.heap.size, 1, none⟩ = some (.int .u32 i) := kk4.cell 1
  have q2 : W4.cell? ⟨w1.heap.size, 2, none⟩ = some (.int .u32 v) := kk4.cell 2
  have HK4 := Lib.hid kk4
  have HH4 := Lib.hid kh4
  have HB4 := Lib.hid hB4
  have HS4 := Lib.hid hs4
  clear kk4 kh4 hB4 hs4
  go_region
  go_upto_region 6 with fail
  obtain ⟨OA, Oc, ov⟩ := own_slice HO.out
  have HOv := Lib.hid ov
  have hB5 : Below w.heap.size w (W4.alloc (.cells #[.int .u16 0, .int .u8 0, .int .u8 0, .int .u32 0, .int .u32 0, .int .i32 0, .int .u16 0, .int .u16 0] 59)).drew := (HB4.out.alloc HB4.out.size _).drew
  obtain ⟨W5, hW5⟩ : ∃ W5, W5 = (W4.alloc (.cells #[.int .u16 0, .int .u8 0, .int .u8 0, .int .u32 0, .int .u32 0, .int .i32 0, .int .u16 0, .int .u16 0] 59)).drew := ⟨_, rfl⟩
  have kk5 : Blk W5 w1.heap.size 56 #[.int .u8 t, .int .u32 i, .int .u32 v] := by rw [hW5]; exact (HK4.out.alloc _).drew
  have kh5 : Blk W5 w.heap.size 59 #[.int .u16 g, .int .u8 o, .int .u8 t, .int .u32 i, .int .u32 v, .int .i32 s, .int .u16 mm, .int .u16 l] := by rw [hW5]; exact (HH4.out.alloc _).drew
  have hs5 : w1.heap.size < W5.heap.size := kk5.lt
  rw [← hW5]
  rw [← hW5] at hB5
  have hBW5 : B < W5.heap.size := Nat.lt_of_lt_of_le hBlt hB5.size
  have kB5 : AdjAt W5 B a := HA.out.below hB5 hBlt
  have kO5 : KeysOwn W5 0 a.order O := (Frame.of_below (S := fun _ => False) hB5).own HO.out (fun _ _ e => e)
  have hne1 : (Value.slice OA O.length Oc).ownBlock ≠ some B := by rw [← ov]; exact own_blk_ne kO5 kB5 (by decide)
  have hne2 : (Value.slice OA O.length Oc).ownBlock ≠ some w.heap.size := by rw [← ov]; exact own_blk_ne kO5 kh5 (by decide)
  have hne3 : (Value.slice OA O.length Oc).ownBlock ≠ some w1.heap.size := by rw [← ov]; exact fun e => by have := (HO.out.lt _ e).2; have := HS1.out; omega
  have kM5 : MapIs hdval W5 m M := HM.out.below hB5 hmlt
  have hne4 : (Value.slice OA O.length Oc).ownBlock ≠ some m := by rw [← ov]; exact own_map_ne kO5 kM5
  have c21 : W5.cell? ⟨B, 21, none⟩ = some (.slice OA O.length Oc) := (kB5.cell 21).trans (congrArg some ov)
  have q0' : W5.cell? ⟨w1.heap.size, 0, none⟩ = some (.int .u8 t) := kk5.cell 0
  have q1' : W5.cell? ⟨w1.heap.size, 1, none⟩ = some (.int .u32 i) := kk5.cell 1
  have q2' : W5.cell? ⟨w1.heap.size, 2, none⟩ = some (.int .u32 v) := kk5.cell 2
  rw [ov] at kO5
  have HKB := Lib.hid kB5
  have HKK := Lib.hid kk5
  have HKH := Lib.hid kh5
  have HKO := Lib.hid kO5
  have HKM := Lib.hid kM5
  have HB5 := Lib.hid hB5
  have HN1 := Lib.hid hne1
  have HN2 := Lib.hid hne2
  have HN3 := Lib.hid hne3
  have HN4 := Lib.hid hne4
  obtain ⟨On, hOn⟩ : ∃ On, O.length = On := ⟨_, rfl⟩
  rw [hOn] at c21 hn
  have HNO1 : Hid ((Value.slice OA On Oc).ownBlock ≠ some B) := Lib.hid (by rw [← hOn]; exact hne1)
  have HC21 : Hid (a.cells[21]? = some (.slice OA On Oc)) := Lib.hid ((congrArg some ov).trans (by rw [hOn]))
  have h63 : On + 1 ≤ maxLen := by unfold maxLen; omega
  have hbytes : (On + 1) * 12 ≤ 140737488355328 := by omega
  have HOn := Lib.hid hOn
  have HR := Lib.hid (show W5.ownsRow 0 56 3 (.slice OA On Oc) On (O.flatMap kcells) from by have := kO5; unfold KeysOwn at this; rwa [hOn] at this)
  clear hW5 kB5 kk5 kh5 kO5 kM5 hB5 hne1 hne2 hne3 hne4 hOn ov q0 q1 q2 c22 hlkm hlkm2
  go_region_law (refine step_append_lies _ rfl (.tmp 41) (.tmp 43) _ rfl 0 56 i0 _ 3 12 Try.underlying38 hi hz0 hz1 hz2 rfl (by omega) (.slice OA On Oc) On (O.flatMap kcells) rfl ((HR.out.alloc _).drew) ⟨W5.heap.size, 0, none⟩ 1 1 (kcells ⟨t, i, v⟩) rfl rfl (World.news_of_block (cs := (kcells ⟨t, i, v⟩).toArray) (t := 56) (fr := (0, 0)) (heap_alloc_new W5 _)) (by simp [kcells, Value.oneCell']) (by omega) h63 hbytes (by simp) (W5.heap.size + 1) (by simp) ?_; intro gg cap w6 hown6 hg6 hat6 hlt6; have kB6 := ((HKB.out.alloc _).drew).grown hg6 (fun e => HNO1.out e.symm); have b21 : w6.cell? ⟨B, 21, none⟩ = some (.slice OA On Oc) := (kB6.cell 21).trans HC21.out; have fB6 := kB6.frozen; have K6 := Lib.hid kB6; have G6 := Lib.hid hg6; have A6 := Lib.hid hat6; have O6 := Lib.hid hown6; clear kB6 hg6 hat6 hown6)
  all_goals
    have hBg : gg ≠ B := by
      rcases A6.out with e | e
      · exact fun e2 => HNO1.out (by rw [e, e2])
      · have := HB5.out.size; omega
    go_upto_region 8 with fail
    have kA8 := K6.out.set_ 21 (.slice (some ⟨gg, 0, none⟩) (On + 1) cap)
    have kM8 : MapIs hdval (w6.setCell ⟨B, 21, none⟩ (.slice (some ⟨gg, 0, none⟩) (On + 1) cap)) m M :=
      (((HKM.out.alloc _).drew).grown G6.out (by rw [← HOn.out]; exact HN4.out)).setCell (HKM.out.blk_ne HKB.out).symm _
    have kO8 := own_far O6.out (q := ⟨B, 21, none⟩) (by simpa [Value.ownBlock] using hBg) (.slice (some ⟨gg, 0, none⟩) (On + 1) cap)
    have kK8 := (((HKK.out.alloc _).drew).grown G6.out (by rw [← HOn.out]; exact fun e => HN3.out e.symm)).far (p := ⟨B, 21, none⟩) (by simp; omega) (.slice (some ⟨gg, 0, none⟩) (On + 1) cap)
    have kH8 := (((HKH.out.alloc _).drew).grown G6.out (by rw [← HOn.out]; exact fun e => HN2.out e.symm)).far (p := ⟨B, 21, none⟩) (by simp; omega) (.slice (some ⟨gg, 0, none⟩) (On + 1) cap)
    obtain ⟨w9, hrun9, hM9, hg9, hs9⟩ := (kM8.drew).put hk Try.underlying64 ⟨g, o, t, i, v, s, mm, l⟩
    simp only [kval, hdval] at hrun9
    have d22 : (w6.setCell ⟨B, 21, none⟩ (.slice (some ⟨gg, 0, none⟩) (On + 1) cap)).cell? ⟨B, 22, none⟩ = some (.map (some m)) := (kA8.cell 22).trans (congrArg some h2)
    have x0 : (w6.setCell ⟨B, 21, none⟩ (.slice (some ⟨gg, 0, none⟩) (On + 1) cap)).cell? ⟨w1.heap.size, 0, none⟩ = some (.int .u8 t) := kK8.cell 0
    have x1 : (w6.setCell ⟨B, 21, none⟩ (.slice (some ⟨gg, 0, none⟩) (On + 1) cap)).cell? ⟨w1.heap.size, 1, none⟩ = some (.int .u32 i) := kK8.cell 1
    have x2 : (w6.setCell ⟨B, 21, none⟩ (.slice (some ⟨gg, 0, none⟩) (On + 1) cap)).cell? ⟨w1.heap.size, 2, none⟩ = some (.int .u32 v) := kK8.cell 2
    have y0 : (w6.setCell ⟨B, 21, none⟩ (.slice (some ⟨gg, 0, none⟩) (On + 1) cap)).cell? ⟨w.heap.size, 0, none⟩ = some (.int .u16 g) := kH8.cell 0
    have y1 : (w6.setCell ⟨B, 21, none⟩ (.slice (some ⟨gg, 0, none⟩) (On + 1) cap)).cell? ⟨w.heap.size, 1, none⟩ = some (.int .u8 o) := kH8.cell 1
    have y2 : (w6.setCell ⟨B, 21, none⟩ (.slice (some ⟨gg, 0, none⟩) (On + 1) cap)).cell? ⟨w.heap.size, 2, none⟩ = some (.int .u8 t) := kH8.cell 2
    have y3 : (w6.setCell ⟨B, 21, none⟩ (.slice (some ⟨gg, 0, none⟩) (On + 1) cap)).cell? ⟨w.heap.size, 3, none⟩ = some (.int .u32 i) := kH8.cell 3
    have y4 : (w6.setCell ⟨B, 21, none⟩ (.slice (some ⟨gg, 0, none⟩) (On + 1) cap)).cell? ⟨w.heap.size, 4, none⟩ = some (.int .u32 v) := kH8.cell 4
    have y5 : (w6.setCell ⟨B, 21, none⟩ (.slice (some ⟨gg, 0, none⟩) (On + 1) cap)).cell? ⟨w.heap.size, 5, none⟩ = some (.int .i32 s) := kH8.cell 5
    have y6 : (w6.setCell ⟨B, 21, none⟩ (.slice (some ⟨gg, 0, none⟩) (On + 1) cap)).cell? ⟨w.heap.size, 6, none⟩ = some (.int .u16 mm) := kH8.cell 6
    have y7 : (w6.setCell ⟨B, 21, none⟩ (.slice (some ⟨gg, 0, none⟩) (On + 1) cap)).cell? ⟨w.heap.size, 7, none⟩ = some (.int .u16 l) := kH8.cell 7
    have hF5 : Frame (Own B m a.order) w W5 := Frame.of_below HB5.out
    have hF6 : Frame (Own B m a.order) w w6 := (hF5.alloc _).drew.trans' (Frame.of_grown (S := Own B m a.order) G6.out (fun k e _ => Or.inr (Or.inr (by rw [HOv.out, HOn.out]; exact e)))) (fun _ _ e => e)
    have hF9 : Frame (Own B m a.order) w w9 := ((hF6.setCell (p := ⟨B, 21, none⟩) (fun _ => Or.inl rfl) _).drew).trans' (Frame.of_grown (S := Own B m a.order) hg9 (fun k e _ => Or.inr (Or.inl (by cases e; rfl)))) (fun _ _ e => e)
    have hBm : B ≠ m := (HKM.out.blk_ne HKB.out)
    have HFin : Hid (WantPost B m a (O ++ [⟨t, i, v⟩]) (upd M ⟨t, i, v⟩ (some ⟨g, o, t, i, v, s, mm, l⟩)) w (.returned (.tuple #[])) w9) := Lib.hid (by
      refine ⟨rfl, .slice (some ⟨gg, 0, none⟩) (On + 1) cap, ⟨(kA8.drew).grown hg9 (by simpa using hBm), h2, hM9, ?_⟩, ?_, hF9⟩
      · show World.ownsRow _ _ _ _ _ _ _
        rw [List.length_append, List.flatMap_append, HOn.out]
        have := (kO8.drew).kept hg9 (.inr (own_map_ne kO8 kM8))
        simpa using this
      · rcases A6.out with e | e
        · left; rw [HOv.out, HOn.out, e]; rfl
        · right; right; exact ⟨gg, rfl, by have := HB5.out.size; omega⟩)
    clear hF5 hF6 hF9 kA8 kM8 kO8 kK8 kH8 hM9 hg9 hs9
    go_region
    go_wp2_with fail
    refine bodyPost_ret (v := .tuple #[]) (by simp [results, Try.results125, go_sem]) rfl HFin.out
end Go.Proofs.Ytgbmhijgpdgdbaa
