/- Where the head with a key is. -/
import Derived.Test.YtgbmhijgpdgdbaaFaTypes
import Derived.Test.YtgbmhijgpdgdbaaFaNew
import Derived.Test.YtgbmhijgpdgdbaaFaLaterPlain
import Derived.BigQuiet
namespace Go.Proofs.Ytgbmhijgpdgdbaa
open Go.RowKit

set_option maxHeartbeats 1000000 in
theorem copyHeads_any (w : World) (v : Value) (l : List Od.Hd) (hv : HeadsIn w v l) (hn : l.length ≤ 65536) :
    Calls Try.prog 15 #[v] w fun e w' => ∃ v', e = .returned v' ∧ w'.ownsRow w.heap.size 59 8 v' l.length (l.flatMap hcells) ∧ Below w.heap.size w w' := by
  obtain ⟨i0, hi, hz0, hz1, hz2⟩ := info_parts head_info
  obtain ⟨⟨A, n, c, rfl, hnc, hlen, hr⟩, -⟩ := hv
  have HR := Lib.hid hr
  have Hl := Lib.hid hlen
  have h63 : 0 + n ≤ maxLen := by unfold maxLen; omega
  have hby : (0 + n) * 20 ≤ 140737488355328 := by omega
  clear hr hlen hn
  go_enter Try.func15, Try.ntmps15
  go_wp2_with (at_builtin; refine wpList_append_any _ rfl (.tmp 4) (.tmp 5) _ rfl w.heap.size 59 i0 _ 8 20 Try.underlying22 hi hz0 hz1 hz2 rfl (by omega) (.slice none 0 0) 0 [] rfl (World.ownsRow_nil _ _ _ _) w.heap.size A n c (l.flatMap hcells) rfl HR.out hcells_one h63 hby (Nat.le_refl _) ?_; intro v1 w1 hown1 hg1 hat1; rw [List.nil_append, Nat.zero_add] at hown1)
  go_ret
  refine ⟨v1, rfl, by rw [Hl.out]; exact hown1, ?_⟩
  exact (Below.refl _ w).grown hg1 (Nat.le_refl _) (fun k hk => by simp [Value.ownBlock] at hk)

set_option maxHeartbeats 1000000 in
theorem rkey_any (w : World) (h : Od.Hd) : Calls Try.prog 22 #[hdval h] w fun e w' => e = .returned (kval (keyOfHd h)) ∧ Below w.heap.size w w' := by
  unfold hdval
  go_enter Try.func22, Try.ntmps22
  go_wp2
  refine bodyPost_ret (v := kval (keyOfHd h)) (by simp [results, Try.results22, go_sem, kval, keyOfHd]) rfl ⟨rfl, ((Below.refl _ _).alloc (Nat.le_refl _) _).alloc (by simp) _⟩

set_option maxHeartbeats 2000000 in
set_option maxRecDepth 20000 in
theorem eqHeads_same (w : World) (u v : Value) (l : List Od.Hd) (hu : HeadsIn w u l) (hv : HeadsIn w v l) (hn : l.length ≤ 65536) :
    Calls Try.prog 17 #[u, v] w fun e w' => e = .returned (.bool true) ∧ Below w.heap.size w w' := by
  obtain ⟨⟨A, n, c, rfl, hnc, hlen, hr⟩, -⟩ := hu
  obtain ⟨⟨A2, n2, c2, rfl, hnc2, hlen2, hr2⟩, -⟩ := hv
  obtain rfl : n = n2 := by omega
  have Hlen := Lib.hid hlen
  have hn0 : n ≤ 65536 := by omega
  clear hlen hlen2 hn
  go_enter Try.func17, Try.ntmps17
  go_wp2_with fail
  go_loopw [5] (fun i wr => ∃ (k q : Nat), k ≤ n ∧ i = .int .i64 k ∧ wr = w.drewN q) (fun i _ => n - (intOf i).toNat)
  case atStart => exact ⟨0, 0, Nat.zero_le _, rfl, rfl⟩
  case round =>
    obtain ⟨k, q, hk, rfl, rfl⟩ := hrel
    by_cases hlt : k < n
    · obtain ⟨x, hx⟩ : ∃ x, l[k]? = some x := ⟨_, List.getElem?_eq_getElem (by have := Hlen.out; omega)⟩
      obtain ⟨bl, off, hA, -, hcell⟩ := hr.head hx
      obtain ⟨bl2, off2, hA2, -, hcell2⟩ := hr2.head hx
      subst hA hA2
      obtain ⟨g, o, t, i, v, s, mm, ll⟩ := x
      have d0 : w.cell? ⟨bl, off + k * 8, none⟩ = some (.int .u16 g) := hcell 0 _ rfl
      have d1 := hcell 1 _ rfl
      have d2 := hcell 2 _ rfl
      have d3 := hcell 3 _ rfl
      have d4 := hcell 4 _ rfl
      have d5 := hcell 5 _ rfl
      have d6 := hcell 6 _ rfl
      have d7 := hcell 7 _ rfl
      have e0 : w.cell? ⟨bl2, off2 + k * 8, none⟩ = some (.int .u16 g) := hcell2 0 _ rfl
      have e1 := hcell2 1 _ rfl
      have e2 := hcell2 2 _ rfl
      have e3 := hcell2 3 _ rfl
      have e4 := hcell2 4 _ rfl
      have e5 := hcell2 5 _ rfl
      have e6 := hcell2 6 _ rfl
      have e7 := hcell2 7 _ rfl
      have hkn : (k : Int) < (n : Int) := by omega
      clear hcell hcell2 hr hr2 hx
      go_wp2_with fail
      go_quiet (fail)
      go_wp2_with fail
      go_roundw
      case rel => exact ⟨k + 1, _, by omega, by go_num, rfl⟩
      case measure => simp [intOf]; omega
    · obtain rfl : k = n := by omega
      go_wp2_with fail
      go_ret
      exact ⟨rfl, below_drewN (Below.refl _ _) _⟩
end Go.Proofs.Ytgbmhijgpdgdbaa

namespace Go.Proofs.Ytgbmhijgpdgdbaa
open Go.RowKit

theorem take_snoc2 {α : Type} {l : List α} {k : Nat} {x : α} (h : l[k]? = some x) : l.take (k + 1) = l.take k ++ [x] := by
  rw [List.take_add_one, h]; simp

def FindPost (l : List Od.Hd) (k : Od.Ky) (w : World) (e : Ending) (w' : World) : Prop :=
  ∃ j : Int, e = .returned (.int .i64 j) ∧ (j < 0 ↔ ∀ h ∈ l, keyOfHd h ≠ k) ∧ Below w.heap.size w w'

set_option maxHeartbeats 2000000 in
set_option maxRecDepth 20000 in
theorem find_any (w : World) (u : Value) (l : List Od.Hd) (kt ki kv : Int) (hu : HeadsIn w u l) (hn : l.length ≤ 65536) :
    Calls Try.prog 21 #[u, .agg #[.int .u8 kt, .int .u32 ki, .int .u32 kv]] w fun e w' => FindPost l ⟨kt, ki, kv⟩ w e w' := by
  obtain ⟨⟨A, n, c, rfl, hnc, hlen, hr⟩, -⟩ := hu
  have Hlen := Lib.hid hlen
  have hn0 : n ≤ 65536 := by omega
  clear hlen hn
  go_enter Try.func21, Try.ntmps21
  go_wp2_with fail
  go_loopw [5] (fun i wr => ∃ (k : Nat), k ≤ n ∧ i = .int .i64 k ∧ Hid (∀ h ∈ l.take k, keyOfHd h ≠ ⟨kt, ki, kv⟩) ∧ Hid (Below w.heap.size w wr) ∧ Hid (Blk wr w.heap.size 56 #[.int .u8 kt, .int .u32 ki, .int .u32 kv])) (fun i _ => n - (intOf i).toNat)
  case atStart => exact ⟨0, Nat.zero_le _, rfl, Lib.hid (by simp), Lib.hid ((Below.refl _ _).alloc (Nat.le_refl _) _), Lib.hid (Blk.new _ _ _)⟩
  case round =>
    obtain ⟨k, hk, rfl, HI, HB, HK⟩ := hrel
    by_cases hlt : k < n
    · obtain ⟨x, hx⟩ : ∃ x, l[k]? = some x := ⟨_, List.getElem?_eq_getElem (by have := Hlen.out; omega)⟩
      obtain ⟨bl, off, hA, hbl, hcell⟩ := (hr.below HB.out).head hx
      subst hA
      obtain ⟨g, o, t, i, v, s, mm, ll⟩ := x
      have hlw : bl < wr.heap.size := Nat.lt_of_lt_of_le hbl HB.out.size
      have d0 := later_cell (v := .int .u16 g) (B := wr.heap.size) (w0 := wr) (p := ⟨bl, off + k * 8, none⟩) hlw (hcell 0 _ rfl)
      have d1 := later_cell (v := .int .u8 o) (B := wr.heap.size) (w0 := wr) (p := ⟨bl, off + k * 8 + 1, none⟩) hlw (hcell 1 _ rfl)
      have d2 := later_cell (v := .int .u8 t) (B := wr.heap.size) (w0 := wr) (p := ⟨bl, off + k * 8 + 2, none⟩) hlw (hcell 2 _ rfl)
      have d3 := later_cell (v := .int .u32 i) (B := wr.heap.size) (w0 := wr) (p := ⟨bl, off + k * 8 + 3, none⟩) hlw (hcell 3 _ rfl)
      have d4 := later_cell (v := .int .u32 v) (B := wr.heap.size) (w0 := wr) (p := ⟨bl, off + k * 8 + 4, none⟩) hlw (hcell 4 _ rfl)
      have d5 := later_cell (v := .int .i32 s) (B := wr.heap.size) (w0 := wr) (p := ⟨bl, off + k * 8 + 5, none⟩) hlw (hcell 5 _ rfl)
      have d6 := later_cell (v := .int .u16 mm) (B := wr.heap.size) (w0 := wr) (p := ⟨bl, off + k * 8 + 6, none⟩) hlw (hcell 6 _ rfl)
      have d7 := later_cell (v := .int .u16 ll) (B := wr.heap.size) (w0 := wr) (p := ⟨bl, off + k * 8 + 7, none⟩) hlw (hcell 7 _ rfl)
      have q0 := later_cell (v := .int .u8 kt) (B := wr.heap.size) (w0 := wr) (p := ⟨w.heap.size, 0, none⟩) HK.out.lt (HK.out.cell 0)
      have q1 := later_cell (v := .int .u32 ki) (B := wr.heap.size) (w0 := wr) (p := ⟨w.heap.size, 1, none⟩) HK.out.lt (HK.out.cell 1)
      have q2 := later_cell (v := .int .u32 kv) (B := wr.heap.size) (w0 := wr) (p := ⟨w.heap.size, 2, none⟩) HK.out.lt (HK.out.cell 2)
      have Hx := Lib.hid hx
      have hkn : (k : Int) < (n : Int) := by omega
      have dk : Hid (∀ u : Later wr.heap.size wr, Calls Try.prog 22 #[.agg #[.int .u16 g, .int .u8 o, .int .u8 t, .int .u32 i, .int .u32 v, .int .i32 s, .int .u16 mm, .int .u16 ll]] u.to fun e w' => e = .returned (.agg #[.int .u8 t, .int .u32 i, .int .u32 v]) ∧ Below u.to.heap.size u.to w') := Lib.hid (fun u => rkey_any u.to ⟨g, o, t, i, v, s, mm, ll⟩)
      clear hcell hx hr
      by_cases hkey : (⟨t, i, v⟩ : Od.Ky) = ⟨kt, ki, kv⟩
      · injection hkey with h1 h2 h3
        subst h1 h2 h3
        go_upto_region 4 with fail
        refine wp_region_later (B := wr.heap.size) (w0 := wr) (by kernel_rfl) (by kernel_rfl) (Below.refl _ _) ?_
        repeat (go_big_quiet_step (first
          | (go_at_call 22; with_reducible exact later_call _ (Nat.le_refl _) (dk.out _))))
        refine wpQuiet_nil ?_
        rintro wx ⟨⟨wy, hwy⟩, hw⟩
        obtain rfl : wx = wy := hw
        go_wp2_with fail
        go_ret
        refine ⟨k, rfl, ?_, HB.out.trans (hwy.mono HB.out.size)⟩
        constructor
        · intro h; omega
        · intro h
          exact absurd rfl (h _ (List.mem_of_getElem? Hx.out))
      · have Hkey := Lib.hid hkey
        have hdec : t ≠ kt ∨ (t = kt ∧ i ≠ ki) ∨ (t = kt ∧ i = ki ∧ v ≠ kv) := by
          by_cases h1 : t = kt
          · by_cases h2 : i = ki
            · exact .inr (.inr ⟨h1, h2, fun h3 => hkey (by rw [h1, h2, h3])⟩)
            · exact .inr (.inl ⟨h1, h2⟩)
          · exact .inl h1
        clear hkey
        have HR : Hid (∀ wx : World, Below wr.heap.size wr wx → Hid (∀ h ∈ l.take (k + 1), keyOfHd h ≠ ⟨kt, ki, kv⟩) ∧ Hid (Below w.heap.size w wx) ∧ Hid (Blk wx w.heap.size 56 #[.int .u8 kt, .int .u32 ki, .int .u32 kv])) := Lib.hid (fun wx hb => ⟨Lib.hid (by
          intro h hh
          rw [take_snoc2 Hx.out] at hh
          rcases List.mem_append.1 hh with hh | hh
          · exact HI.out h hh
          · rw [List.mem_singleton.1 hh]; exact Hkey.out), Lib.hid (HB.out.trans (hb.mono HB.out.size)), Lib.hid (HK.out.below hb HK.out.lt)⟩)
        rcases hdec with h1 | ⟨rfl, h2⟩ | ⟨rfl, rfl, h3⟩
        · have e1 : (t == kt) = false := by simpa using h1
          clear h1 HI HB HK Hkey
          go_upto_region 4 with fail
          refine wp_region_later (B := wr.heap.size) (w0 := wr) (by kernel_rfl) (by kernel_rfl) (Below.refl _ _) ?_
          repeat (go_big_quiet_step (first
            | (go_at_call 22; with_reducible exact later_call _ (Nat.le_refl _) (dk.out _))))
          refine wpQuiet_nil ?_
          rintro wx ⟨⟨wy, hwy⟩, hw⟩
          obtain rfl : wx = wy := hw
          go_wp2_with fail
          go_roundw
          case rel => exact ⟨k + 1, by omega, by go_num, HR.out _ hwy⟩
          case measure => simp [intOf]; omega
        · have e1 : (i == ki) = false := by simpa using h2
          clear h2 HI HB HK Hkey
          go_upto_region 4 with fail
          refine wp_region_later (B := wr.heap.size) (w0 := wr) (by kernel_rfl) (by kernel_rfl) (Below.refl _ _) ?_
          repeat (go_big_quiet_step (first
            | (go_at_call 22; with_reducible exact later_call _ (Nat.le_refl _) (dk.out _))))
          refine wpQuiet_nil ?_
          rintro wx ⟨⟨wy, hwy⟩, hw⟩
          obtain rfl : wx = wy := hw
          go_wp2_with fail
          go_roundw
          case rel => exact ⟨k + 1, by omega, by go_num, HR.out _ hwy⟩
          case measure => simp [intOf]; omega
        · have e1 : (v == kv) = false := by simpa using h3
          clear h3 HI HB HK Hkey
          go_upto_region 4 with fail
          refine wp_region_later (B := wr.heap.size) (w0 := wr) (by kernel_rfl) (by kernel_rfl) (Below.refl _ _) ?_
          repeat (go_big_quiet_step (first
            | (go_at_call 22; with_reducible exact later_call _ (Nat.le_refl _) (dk.out _))))
          refine wpQuiet_nil ?_
          rintro wx ⟨⟨wy, hwy⟩, hw⟩
          obtain rfl : wx = wy := hw
          go_wp2_with fail
          go_roundw
          case rel => exact ⟨k + 1, by omega, by go_num, HR.out _ hwy⟩
          case measure => simp [intOf]; omega
    · obtain rfl : k = n := by omega
      have htk : l.take k = l := List.take_of_length_le (by have := Hlen.out; omega)
      rw [htk] at HI
      go_wp2_with fail
      go_ret
      exact ⟨-1, rfl, ⟨fun _ => HI.out, fun _ => by omega⟩, HB.out⟩
end Go.Proofs.Ytgbmhijgpdgdbaa

namespace Go.Proofs.Ytgbmhijgpdgdbaa
open Go.RowKit

def FindIs (l : List Od.Hd) (k : Od.Ky) (j : Int) : Prop :=
  (∃ (i : Nat) (x : Od.Hd), j = (i : Int) ∧ l[i]? = some x ∧ keyOfHd x = k ∧ ∀ h ∈ l.take i, keyOfHd h ≠ k) ∨ (j = -1 ∧ ∀ h ∈ l, keyOfHd h ≠ k)
def FindG (l : List Od.Hd) (k : Od.Ky) (w : World) (e : Ending) (w' : World) : Prop := ∃ j : Int, e = .returned (.int .i64 j) ∧ FindIs l k j ∧ Below w.heap.size w w'

set_option maxHeartbeats 2000000 in
set_option maxRecDepth 20000 in
theorem find_is (w : World) (u : Value) (l : List Od.Hd) (kt ki kv : Int) (hu : HeadsIn w u l) (hn : l.length ≤ 65536) :
    Calls Try.prog 21 #[u, .agg #[.int .u8 kt, .int .u32 ki, .int .u32 kv]] w fun e w' => FindG l ⟨kt, ki, kv⟩ w e w' := by
  obtain ⟨⟨A, n, c, rfl, hnc, hlen, hr⟩, -⟩ := hu
  have Hlen := Lib.hid hlen
  have hn0 : n ≤ 65536 := by omega
  clear hlen hn
  go_enter Try.func21, Try.ntmps21
  go_wp2_with fail
  go_loopw [5] (fun i wr => ∃ (k : Nat), k ≤ n ∧ i = .int .i64 k ∧ Hid (∀ h ∈ l.take k, keyOfHd h ≠ ⟨kt, ki, kv⟩) ∧ Hid (Below w.heap.size w wr) ∧ Hid (Blk wr w.heap.size 56 #[.int .u8 kt, .int .u32 ki, .int .u32 kv])) (fun i _ => n - (intOf i).toNat)
  case atStart => exact ⟨0, Nat.zero_le _, rfl, Lib.hid (by simp), Lib.hid ((Below.refl _ _).alloc (Nat.le_refl _) _), Lib.hid (Blk.new _ _ _)⟩
  case round =>
    obtain ⟨k, hk, rfl, HI, HB, HK⟩ := hrel
    by_cases hlt : k < n
    · obtain ⟨x, hx⟩ : ∃ x, l[k]? = some x := ⟨_, List.getElem?_eq_getElem (by have := Hlen.out; omega)⟩
      obtain ⟨bl, off, hA, hbl, hcell⟩ := (hr.below HB.out).head hx
      subst hA
      obtain ⟨g, o, t, i, v, s, mm, ll⟩ := x
      have hlw : bl < wr.heap.size := Nat.lt_of_lt_of_le hbl HB.out.size
      have d0 := later_cell (v := .int .u16 g) (B := wr.heap.size) (w0 := wr) (p := ⟨bl, off + k * 8, none⟩) hlw (hcell 0 _ rfl)
      have d1 := later_cell (v := .int .u8 o) (B := wr.heap.size) (w0 := wr) (p := ⟨bl, off + k * 8 + 1, none⟩) hlw (hcell 1 _ rfl)
      have d2 := later_cell (v := .int .u8 t) (B := wr.heap.size) (w0 := wr) (p := ⟨bl, off + k * 8 + 2, none⟩) hlw (hcell 2 _ rfl)
      have d3 := later_cell (v := .int .u32 i) (B := wr.heap.size) (w0 := wr) (p := ⟨bl, off + k * 8 + 3, none⟩) hlw (hcell 3 _ rfl)
      have d4 := later_cell (v := .int .u32 v) (B := wr.heap.size) (w0 := wr) (p := ⟨bl, off + k * 8 + 4, none⟩) hlw (hcell 4 _ rfl)
      have d5 := later_cell (v := .int .i32 s) (B := wr.heap.size) (w0 := wr) (p := ⟨bl, off + k * 8 + 5, none⟩) hlw (hcell 5 _ rfl)
      have d6 := later_cell (v := .int .u16 mm) (B := wr.heap.size) (w0 := wr) (p := ⟨bl, off + k * 8 + 6, none⟩) hlw (hcell 6 _ rfl)
      have d7 := later_cell (v := .int .u16 ll) (B := wr.heap.size) (w0 := wr) (p := ⟨bl, off + k * 8 + 7, none⟩) hlw (hcell 7 _ rfl)
      have q0 := later_cell (v := .int .u8 kt) (B := wr.heap.size) (w0 := wr) (p := ⟨w.heap.size, 0, none⟩) HK.out.lt (HK.out.cell 0)
      have q1 := later_cell (v := .int .u32 ki) (B := wr.heap.size) (w0 := wr) (p := ⟨w.heap.size, 1, none⟩) HK.out.lt (HK.out.cell 1)
      have q2 := later_cell (v := .int .u32 kv) (B := wr.heap.size) (w0 := wr) (p := ⟨w.heap.size, 2, none⟩) HK.out.lt (HK.out.cell 2)
      have Hx := Lib.hid hx
      have hkn : (k : Int) < (n : Int) := by omega
      have dk : Hid (∀ u : Later wr.heap.size wr, Calls Try.prog 22 #[.agg #[.int .u16 g, .int .u8 o, .int .u8 t, .int .u32 i, .int .u32 v, .int .i32 s, .int .u16 mm, .int .u16 ll]] u.to fun e w' => e = .returned (.agg #[.int .u8 t, .int .u32 i, .int .u32 v]) ∧ Below u.to.heap.size u.to w') := Lib.hid (fun u => rkey_any u.to ⟨g, o, t, i, v, s, mm, ll⟩)
      clear hcell hx hr
      by_cases hkey : (⟨t, i, v⟩ : Od.Ky) = ⟨kt, ki, kv⟩
      · injection hkey with h1 h2 h3
        subst h1 h2 h3
        go_upto_region 4 with fail
        refine wp_region_later (B := wr.heap.size) (w0 := wr) (by kernel_rfl) (by kernel_rfl) (Below.refl _ _) ?_
        repeat (go_big_quiet_step (first
          | (go_at_call 22; with_reducible exact later_call _ (Nat.le_refl _) (dk.out _))))
        refine wpQuiet_nil ?_
        rintro wx ⟨⟨wy, hwy⟩, hw⟩
        obtain rfl : wx = wy := hw
        go_wp2_with fail
        go_ret
        exact ⟨k, rfl, .inl ⟨k, _, rfl, Hx.out, rfl, HI.out⟩, HB.out.trans (hwy.mono HB.out.size)⟩
      · have Hkey := Lib.hid hkey
        have hdec : t ≠ kt ∨ (t = kt ∧ i ≠ ki) ∨ (t = kt ∧ i = ki ∧ v ≠ kv) := by
          by_cases h1 : t = kt
          · by_cases h2 : i = ki
            · exact .inr (.inr ⟨h1, h2, fun h3 => hkey (by rw [h1, h2, h3])⟩)
            · exact .inr (.inl ⟨h1, h2⟩)
          · exact .inl h1
        clear hkey
        have HR : Hid (∀ wx : World, Below wr.heap.size wr wx → Hid (∀ h ∈ l.take (k + 1), keyOfHd h ≠ ⟨kt, ki, kv⟩) ∧ Hid (Below w.heap.size w wx) ∧ Hid (Blk wx w.heap.size 56 #[.int .u8 kt, .int .u32 ki, .int .u32 kv])) := Lib.hid (fun wx hb => ⟨Lib.hid (by
          intro h hh
          rw [take_snoc2 Hx.out] at hh
          rcases List.mem_append.1 hh with hh | hh
          · exact HI.out h hh
          · rw [List.mem_singleton.1 hh]; exact Hkey.out), Lib.hid (HB.out.trans (hb.mono HB.out.size)), Lib.hid (HK.out.below hb HK.out.lt)⟩)
        rcases hdec with h1 | ⟨rfl, h2⟩ | ⟨rfl, rfl, h3⟩
        · have e1 : (t == kt) = false := by simpa using h1
          clear h1 HI HB HK Hkey
          go_upto_region 4 with fail
          refine wp_region_later (B := wr.heap.size) (w0 := wr) (by kernel_rfl) (by kernel_rfl) (Below.refl _ _) ?_
          repeat (go_big_quiet_step (first
            | (go_at_call 22; with_reducible exact later_call _ (Nat.le_refl _) (dk.out _))))
          refine wpQuiet_nil ?_
          rintro wx ⟨⟨wy, hwy⟩, hw⟩
          obtain rfl : wx = wy := hw
          go_wp2_with fail
          go_roundw
          case rel => exact ⟨k + 1, by omega, by go_num, HR.out _ hwy⟩
          case measure => simp [intOf]; omega
        · have e1 : (i == ki) = false := by simpa using h2
          clear h2 HI HB HK Hkey
          go_upto_region 4 with fail
          refine wp_region_later (B := wr.heap.size) (w0 := wr) (by kernel_rfl) (by kernel_rfl) (Below.refl _ _) ?_
          repeat (go_big_quiet_step (first
            | (go_at_call 22; with_reducible exact later_call _ (Nat.le_refl _) (dk.out _))))
          refine wpQuiet_nil ?_
          rintro wx ⟨⟨wy, hwy⟩, hw⟩
          obtain rfl : wx = wy := hw
          go_wp2_with fail
          go_roundw
          case rel => exact ⟨k + 1, by omega, by go_num, HR.out _ hwy⟩
          case measure => simp [intOf]; omega
        · have e1 : (v == kv) = false := by simpa using h3
          clear h3 HI HB HK Hkey
          go_upto_region 4 with fail
          refine wp_region_later (B := wr.heap.size) (w0 := wr) (by kernel_rfl) (by kernel_rfl) (Below.refl _ _) ?_
          repeat (go_big_quiet_step (first
            | (go_at_call 22; with_reducible exact later_call _ (Nat.le_refl _) (dk.out _))))
          refine wpQuiet_nil ?_
          rintro wx ⟨⟨wy, hwy⟩, hw⟩
          obtain rfl : wx = wy := hw
          go_wp2_with fail
          go_roundw
          case rel => exact ⟨k + 1, by omega, by go_num, HR.out _ hwy⟩
          case measure => simp [intOf]; omega
    · obtain rfl : k = n := by omega
      have htk : l.take k = l := List.take_of_length_le (by have := Hlen.out; omega)
      rw [htk] at HI
      go_wp2_with fail
      go_ret
      exact ⟨-1, rfl, .inr ⟨rfl, HI.out⟩, HB.out⟩
end Go.Proofs.Ytgbmhijgpdgdbaa
