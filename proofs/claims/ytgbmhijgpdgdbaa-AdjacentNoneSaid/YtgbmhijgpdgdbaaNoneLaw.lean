/- The statement AdjacentNone, walked. -/
import Derived.Test.YtgbmhijgpdgdbaaWorksAll
namespace Go.Proofs.Ytgbmhijgpdgdbaa
open Go.RowKit

/-- An adjacency that New did not make. -/
def zadj : Adj := ⟨false, 0, 0, 0, 0, 0, 0, 0, 0, 0, false, .slice none 0 0, 0, 0, 0, 0, .slice none 0 0, false, 0, 0, 0, .slice none 0 0, .map none, .slice none 0 0, 0⟩
theorem zno {w : World} {B : Nat} (h : AdjAt w B zadj) : NoAdj w (.pointer (some ⟨B, 0, none⟩)) := Or.inr ⟨B, zadj, rfl, h, rfl⟩
theorem nno (w : World) : NoAdj w (.pointer none) := Or.inl rfl

set_option maxHeartbeats 4000000 in
set_option maxRecDepth 20000 in
theorem lawNone_any (g o t i v s mm l : Int) (w : World) :
    Calls Try.prog 5 #[.agg #[.int .u16 g, .int .u8 o, .int .u8 t, .int .u32 i, .int .u32 v, .int .i32 s, .int .u16 mm, .int .u16 l]] w fun e w' => e = .returned (.bool true) ∧ Below w.heap.size w w' := by
  go_enter Try.func5, Try.ntmps5
  go_wp2_with fail
  have hb2 : Below w.heap.size w ((w.alloc (.cells #[.int .u16 g, .int .u8 o, .int .u8 t, .int .u32 i, .int .u32 v, .int .i32 s, .int .u16 mm, .int .u16 l] 59)).alloc (.cells zadj.cells 66)) := ((Below.refl _ w).alloc (Nat.le_refl _) _).alloc (by simp) _
  have kh2 : Blk ((w.alloc (.cells #[.int .u16 g, .int .u8 o, .int .u8 t, .int .u32 i, .int .u32 v, .int .i32 s, .int .u16 mm, .int .u16 l] 59)).alloc (.cells zadj.cells 66)) w.heap.size 59 #[.int .u16 g, .int .u8 o, .int .u8 t, .int .u32 i, .int .u32 v, .int .i32 s, .int .u16 mm, .int .u16 l] := (Blk.new w _ _).alloc _
  have ka2 : AdjAt ((w.alloc (.cells #[.int .u16 g, .int .u8 o, .int .u8 t, .int .u32 i, .int .u32 v, .int .i32 s, .int .u16 mm, .int .u16 l] 59)).alloc (.cells zadj.cells 66)) (w.heap.size + 1) zadj := blk_at (by simp)
  refine (describe_no _ (.pointer none) _ _ (nno _)).mono ?_
  rintro e w3 ⟨rfl, hb3⟩
  have kh3 := kh2.below hb3 kh2.lt
  have ka3 := ka2.below hb3 ka2.lt
  have kb3 := hb2.trans (hb3.mono hb2.size)
  have x0 : w3.cell? ⟨w.heap.size, 0, none⟩ = some (.int .u16 g) := kh3.cell 0
  have x1 : w3.cell? ⟨w.heap.size, 1, none⟩ = some (.int .u8 o) := kh3.cell 1
  have x2 : w3.cell? ⟨w.heap.size, 2, none⟩ = some (.int .u8 t) := kh3.cell 2
  have x3 : w3.cell? ⟨w.heap.size, 3, none⟩ = some (.int .u32 i) := kh3.cell 3
  have x4 : w3.cell? ⟨w.heap.size, 4, none⟩ = some (.int .u32 v) := kh3.cell 4
  have x5 : w3.cell? ⟨w.heap.size, 5, none⟩ = some (.int .i32 s) := kh3.cell 5
  have x6 : w3.cell? ⟨w.heap.size, 6, none⟩ = some (.int .u16 mm) := kh3.cell 6
  have x7 : w3.cell? ⟨w.heap.size, 7, none⟩ = some (.int .u16 l) := kh3.cell 7
  have HK3 := Lib.hid kh3
  have HA3 := Lib.hid ka3
  have HB3 := Lib.hid kb3
  clear hb2 kh2 ka2 hb3 kh3 ka3 kb3
  go_wp2_with fail
  have hb4 : Below w.heap.size w (w3.alloc (.cells #[.int .u16 g, .int .u8 o, .int .u8 t, .int .u32 i, .int .u32 v, .int .i32 s, .int .u16 mm, .int .u16 l] 59)) := HB3.out.alloc HB3.out.size _
  have kh4 := HK3.out.alloc (.cells #[.int .u16 g, .int .u8 o, .int .u8 t, .int .u32 i, .int .u32 v, .int .i32 s, .int .u16 mm, .int .u16 l] 59)
  have ka4 := HA3.out.alloc (.cells #[.int .u16 g, .int .u8 o, .int .u8 t, .int .u32 i, .int .u32 v, .int .i32 s, .int .u16 mm, .int .u16 l] 59)
  refine (describe_no _ _ _ _ (zno ka4)).mono ?_
  rintro e w5 ⟨rfl, hb5⟩
  have kh5 := kh4.below hb5 kh4.lt
  have ka5 := ka4.below hb5 ka4.lt
  have kb5 := hb4.trans (hb5.mono hb4.size)
  have y0 : w5.cell? ⟨w.heap.size, 0, none⟩ = some (.int .u16 g) := kh5.cell 0
  have y1 : w5.cell? ⟨w.heap.size, 1, none⟩ = some (.int .u8 o) := kh5.cell 1
  have y2 : w5.cell? ⟨w.heap.size, 2, none⟩ = some (.int .u8 t) := kh5.cell 2
  have y3 : w5.cell? ⟨w.heap.size, 3, none⟩ = some (.int .u32 i) := kh5.cell 3
  have y4 : w5.cell? ⟨w.heap.size, 4, none⟩ = some (.int .u32 v) := kh5.cell 4
  have y5 : w5.cell? ⟨w.heap.size, 5, none⟩ = some (.int .i32 s) := kh5.cell 5
  have y6 : w5.cell? ⟨w.heap.size, 6, none⟩ = some (.int .u16 mm) := kh5.cell 6
  have y7 : w5.cell? ⟨w.heap.size, 7, none⟩ = some (.int .u16 l) := kh5.cell 7
  have HK5 := Lib.hid kh5
  have HA5 := Lib.hid ka5
  have HB5 := Lib.hid kb5
  clear hb4 kh4 ka4 hb5 kh5 ka5 kb5 x0 x1 x2 x3 x4 x5 x6 x7
  go_wp2_with fail
  refine (asked_no _ _ _ _ (zno HA5.out)).mono ?_
  rintro e w' ⟨rfl, rfl⟩
  go_wp2_with fail
  have d0a : Hid (∀ u : Later w5.heap.size w5, Calls Try.prog 25 #[.pointer none, .agg #[.int .u16 g, .int .u8 o, .int .u8 t, .int .u32 i, .int .u32 v, .int .i32 s, .int .u16 mm, .int .u16 l]] u.to fun e w' => e = .returned (.slice none 0 0) ∧ Below u.to.heap.size u.to w') := Lib.hid (fun u => (got_no _ _ _ (nno _)))
  have d0b : Hid (∀ u : Later w5.heap.size w5, Calls Try.prog 25 #[.pointer (some ⟨w.heap.size + 1, 0, none⟩), .agg #[.int .u16 g, .int .u8 o, .int .u8 t, .int .u32 i, .int .u32 v, .int .i32 s, .int .u16 mm, .int .u16 l]] u.to fun e w' => e = .returned (.slice none 0 0) ∧ Below u.to.heap.size u.to w') := Lib.hid (fun u => (got_no _ _ _ (zno (HA5.out.below u.ok HA5.out.lt))))
  have d1a : Hid (∀ u : Later w5.heap.size w5, Calls Try.prog 26 #[.pointer none] u.to fun e w' => e = .returned (.slice none 0 0) ∧ Below u.to.heap.size u.to w') := Lib.hid (fun u => ((anew_no _ _ (nno _)).mono fun _ _ h => ⟨h.1, h.2 ▸ Below.refl _ _⟩))
  have d1b : Hid (∀ u : Later w5.heap.size w5, Calls Try.prog 26 #[.pointer (some ⟨w.heap.size + 1, 0, none⟩)] u.to fun e w' => e = .returned (.slice none 0 0) ∧ Below u.to.heap.size u.to w') := Lib.hid (fun u => ((anew_no _ _ (zno (HA5.out.below u.ok HA5.out.lt))).mono fun _ _ h => ⟨h.1, h.2 ▸ Below.refl _ _⟩))
  have d2a : Hid (∀ u : Later w5.heap.size w5, Calls Try.prog 19 #[.pointer none] u.to fun e w' => e = .returned (.slice none 0 0) ∧ Below u.to.heap.size u.to w') := Lib.hid (fun u => ((tick_no _ _ (nno _)).mono fun _ _ h => ⟨h.1, h.2 ▸ Below.refl _ _⟩))
  have d2b : Hid (∀ u : Later w5.heap.size w5, Calls Try.prog 19 #[.pointer (some ⟨w.heap.size + 1, 0, none⟩)] u.to fun e w' => e = .returned (.slice none 0 0) ∧ Below u.to.heap.size u.to w') := Lib.hid (fun u => ((tick_no _ _ (zno (HA5.out.below u.ok HA5.out.lt))).mono fun _ _ h => ⟨h.1, h.2 ▸ Below.refl _ _⟩))
  have d3a : Hid (∀ u : Later w5.heap.size w5, Calls Try.prog 16 #[.pointer none] u.to fun e w' => e = .returned (.int .u8 0) ∧ Below u.to.heap.size u.to w') := Lib.hid (fun u => ((state_no _ _ (nno _)).mono fun _ _ h => ⟨h.1, h.2 ▸ Below.refl _ _⟩))
  have d3b : Hid (∀ u : Later w5.heap.size w5, Calls Try.prog 16 #[.pointer (some ⟨w.heap.size + 1, 0, none⟩)] u.to fun e w' => e = .returned (.int .u8 0) ∧ Below u.to.heap.size u.to w') := Lib.hid (fun u => ((state_no _ _ (zno (HA5.out.below u.ok HA5.out.lt))).mono fun _ _ h => ⟨h.1, h.2 ▸ Below.refl _ _⟩))
  have d4a : Hid (∀ u : Later w5.heap.size w5, Calls Try.prog 20 #[.pointer none] u.to fun e w' => e = .returned (.bool false) ∧ Below u.to.heap.size u.to w') := Lib.hid (fun u => ((master_no _ _ (nno _)).mono fun _ _ h => ⟨h.1, h.2 ▸ Below.refl _ _⟩))
  have d4b : Hid (∀ u : Later w5.heap.size w5, Calls Try.prog 20 #[.pointer (some ⟨w.heap.size + 1, 0, none⟩)] u.to fun e w' => e = .returned (.bool false) ∧ Below u.to.heap.size u.to w') := Lib.hid (fun u => ((master_no _ _ (zno (HA5.out.below u.ok HA5.out.lt))).mono fun _ _ h => ⟨h.1, h.2 ▸ Below.refl _ _⟩))
  have d5a : Hid (∀ u : Later w5.heap.size w5, Calls Try.prog 27 #[.pointer none] u.to fun e w' => e = .returned (.slice none 0 0) ∧ Below u.to.heap.size u.to w') := Lib.hid (fun u => ((wants_no _ _ (nno _)).mono fun _ _ h => ⟨h.1, h.2 ▸ Below.refl _ _⟩))
  have d5b : Hid (∀ u : Later w5.heap.size w5, Calls Try.prog 27 #[.pointer (some ⟨w.heap.size + 1, 0, none⟩)] u.to fun e w' => e = .returned (.slice none 0 0) ∧ Below u.to.heap.size u.to w') := Lib.hid (fun u => ((wants_no _ _ (zno (HA5.out.below u.ok HA5.out.lt))).mono fun _ _ h => ⟨h.1, h.2 ▸ Below.refl _ _⟩))
  have d6a : Hid (∀ u : Later w5.heap.size w5, Calls Try.prog 28 #[.pointer none] u.to fun e w' => e = .returned (.int .u8 0) ∧ Below u.to.heap.size u.to w') := Lib.hid (fun u => ((opts_no _ _ (nno _)).mono fun _ _ h => ⟨h.1, h.2 ▸ Below.refl _ _⟩))
  have d6b : Hid (∀ u : Later w5.heap.size w5, Calls Try.prog 28 #[.pointer (some ⟨w.heap.size + 1, 0, none⟩)] u.to fun e w' => e = .returned (.int .u8 0) ∧ Below u.to.heap.size u.to w') := Lib.hid (fun u => ((opts_no _ _ (zno (HA5.out.below u.ok HA5.out.lt))).mono fun _ _ h => ⟨h.1, h.2 ▸ Below.refl _ _⟩))
  have dw : Hid (∀ u : Later w5.heap.size w5, Calls Try.prog 11 #[] u.to fun e w' => e = .returned (.bool true) ∧ Below u.to.heap.size u.to w') := Lib.hid (fun u => works_any _)
  have q0 := later_cell (v := .int .u16 g) (B := w5.heap.size) (w0 := w5) (p := ⟨w.heap.size, 0, none⟩) HK5.out.lt y0
  have q1 := later_cell (v := .int .u8 o) (B := w5.heap.size) (w0 := w5) (p := ⟨w.heap.size, 1, none⟩) HK5.out.lt y1
  have q2 := later_cell (v := .int .u8 t) (B := w5.heap.size) (w0 := w5) (p := ⟨w.heap.size, 2, none⟩) HK5.out.lt y2
  have q3 := later_cell (v := .int .u32 i) (B := w5.heap.size) (w0 := w5) (p := ⟨w.heap.size, 3, none⟩) HK5.out.lt y3
  have q4 := later_cell (v := .int .u32 v) (B := w5.heap.size) (w0 := w5) (p := ⟨w.heap.size, 4, none⟩) HK5.out.lt y4
  have q5 := later_cell (v := .int .i32 s) (B := w5.heap.size) (w0 := w5) (p := ⟨w.heap.size, 5, none⟩) HK5.out.lt y5
  have q6 := later_cell (v := .int .u16 mm) (B := w5.heap.size) (w0 := w5) (p := ⟨w.heap.size, 6, none⟩) HK5.out.lt y6
  have q7 := later_cell (v := .int .u16 l) (B := w5.heap.size) (w0 := w5) (p := ⟨w.heap.size, 7, none⟩) HK5.out.lt y7
  clear y0 y1 y2 y3 y4 y5 y6 y7
  refine wp_region_later (B := w5.heap.size) (w0 := w5) (by kernel_rfl) (by kernel_rfl) (Below.refl _ _) ?_
  dsimp only [List.append]
  repeat (go_big_quiet_step (first
    | (go_at_call 25; with_reducible exact later_call _ (Nat.le_refl _) (d0a.out _))
    | (go_at_call 25; with_reducible exact later_call _ (Nat.le_refl _) (d0b.out _))
    | (go_at_call 26; with_reducible exact later_call _ (Nat.le_refl _) (d1a.out _))
    | (go_at_call 26; with_reducible exact later_call _ (Nat.le_refl _) (d1b.out _))
    | (go_at_call 19; with_reducible exact later_call _ (Nat.le_refl _) (d2a.out _))
    | (go_at_call 19; with_reducible exact later_call _ (Nat.le_refl _) (d2b.out _))
    | (go_at_call 16; with_reducible exact later_call _ (Nat.le_refl _) (d3a.out _))
    | (go_at_call 16; with_reducible exact later_call _ (Nat.le_refl _) (d3b.out _))
    | (go_at_call 20; with_reducible exact later_call _ (Nat.le_refl _) (d4a.out _))
    | (go_at_call 20; with_reducible exact later_call _ (Nat.le_refl _) (d4b.out _))
    | (go_at_call 27; with_reducible exact later_call _ (Nat.le_refl _) (d5a.out _))
    | (go_at_call 27; with_reducible exact later_call _ (Nat.le_refl _) (d5b.out _))
    | (go_at_call 28; with_reducible exact later_call _ (Nat.le_refl _) (d6a.out _))
    | (go_at_call 28; with_reducible exact later_call _ (Nat.le_refl _) (d6b.out _))
    | (go_at_call 11; with_reducible exact later_call _ (Nat.le_refl _) (dw.out _))))
  refine wpQuiet_nil ?_
  rintro wx ⟨⟨wy, hwy⟩, hw⟩
  obtain rfl : wx = wy := hw
  go_wp2_with fail
  go_ret
  exact ⟨rfl, HB5.out.trans (hwy.mono HB5.out.size)⟩
end Go.Proofs.Ytgbmhijgpdgdbaa
