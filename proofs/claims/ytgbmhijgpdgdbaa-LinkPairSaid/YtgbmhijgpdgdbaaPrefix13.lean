/- Prefixes, at the numbers of 'works'. -/
import Derived.Test.YtgbmhijgpdgdbaaLinkNo
import Derived.RangeFuncNested
import Derived.RangeFuncBound
import Derived.RangeFuncCalls
import Derived.RangeFuncLeaves
import Derived.RangeFuncFrom
import Derived.RangeFuncOne
import Derived.Shelf.Abstract
import Derived.Test.YtgbmhijgpdgdbaaLc
import Derived.BigQuiet
import Derived.Laws.BitsAllLaws
namespace Go.Proofs.Ytgbmhijgpdgdbaa
open Go.RowKit

set_option maxHeartbeats 400000 in
theorem all_made (w : World) (v f : Value) (hv : ∃ B, v = .pointer (some ⟨B, 0, none⟩)) (hf : ∃ fn a c, f = .func fn a c) :
    Calls Try.prog 86 #[v, f] w fun e w' => e = .returned (.func (.func 124) #[] #[.pointer (some ⟨w.heap.size, 0, none⟩), .pointer (some ⟨w.heap.size + 1, 0, none⟩)]) ∧ Below w.heap.size w w' ∧ w'.cell? ⟨w.heap.size, 0, none⟩ = some v ∧ w'.cell? ⟨w.heap.size + 1, 0, none⟩ = some f := by
  obtain ⟨B, rfl⟩ := hv
  obtain ⟨fn, a, c, rfl⟩ := hf
  have hmf : ∀ (fn : Fn) (first cap : Array Value) (w : World), (Instr.makeFunc fn first cap).run Try.prog w = .ok (.func fn first cap) w := fun _ _ _ _ => rfl
  go_enter Try.func86, Try.ntmps86
  go_wp2_with fail
  go_ret
  refine ⟨rfl, ?_, ?_, ?_⟩
  · exact ((Below.refl _ _).alloc (Nat.le_refl _) _).alloc (by simp) _
  · simp
  · simp
end Go.Proofs.Ytgbmhijgpdgdbaa

namespace Go.Proofs.Ytgbmhijgpdgdbaa
open Go.RowKit

/-- **A range over an iterator that gives nothing: what lay lies as it lay.** -/
theorem wp_rangeFunc_none {P : Program} {g : Operand} {ps : Array Tmp} {assign body : Code} {Q : Exit → Act → World → Prop} {ts : Array Value} {ds : List Deferred} {w : World} {gf : Nat} {lb : Array Value}
    (hg : ({ tmps := ts, defers := ds } : Act).eval g = .func (.func gf) #[] lb) (eg : ∀ args w, (callFunc gf args).run P w = .ok (.enter gf args) w)
    (hc : ∀ l W, Below w.heap.size w W → Calls P gf (#[.func (.yield l) #[] #[]] ++ lb) W fun e W' => (∃ v, e = .returned v) ∧ W = W')
    (hdone : ∀ D W, w.heap.size ≤ D → Below w.heap.size w W → W.heap[D]? = some (.deferred (some [])) → Q .normal { tmps := ts, defers := { target := .collected D, args := #[] } :: ds } W) :
    (Code.rangeFunc g ps assign body).wp P Q { tmps := ts, defers := ds } w := by
  rw [← wpIn_wide (n := 3)]
  refine wpIn_rangeFunc_ownF (α := Empty) (F := Fence.wide) (n := 3) rfl (by omega) hg trivial eg (encs := nofun) (Kp := Below w.heap.size) (S := fun _ => True) (Sp := fun _ => False) (N := 0) (w0 := w)
    (fun l J Jx W hW hJ hJx hY h0 => callsIn_wide.2 ((hc l W hW).mono fun e W' h => ⟨h.1, Or.inl ⟨[], trivial, h.2 ▸ h0⟩⟩))
    belowK_t (fun W l o o' hl h h1 h2 => belowK_b (Nat.le_refl _) W l o o' hl h h1 h2) (Below.refl _ _) nofun (fun _ W => Below w.heap.size w W) (fun _ _ _ => False)
    (ownFrom_below (Nat.le_refl _) (Nat.le_refl _)) (fun _ _ _ _ _ hs _ _ => hs) (Below.refl _ _) nofun nofun (fun _ _ x => nomatch x) ?_ (fun _ _ _ _ _ h _ _ => h.elim)
  exact fun D xs W hD _ hB hK => hdone D W hD hB hK

theorem lt_of_cell {w : World} {p : Addr} {v : Value} (h : w.cell? p = some v) : p.block < w.heap.size := by
  rcases Nat.lt_or_ge p.block w.heap.size with hlt | hge
  · exact hlt
  · have hn : w.heap[p.block]? = none := Array.getElem?_eq_none hge
    simp [World.cell?, hn] at h

set_option maxHeartbeats 400000 in
/-- The iterator over no neighbour gives nothing. -/
theorem all_nil (W : World) (Bl Bi B l : Nat) (h1 : W.cell? ⟨Bl, 0, none⟩ = some (.pointer (some ⟨B, 0, none⟩))) (h2 : W.cell? ⟨B, 22, none⟩ = some (.slice none 0 0)) :
    Calls Try.prog 124 #[.func (.yield l) #[] #[], .pointer (some ⟨Bl, 0, none⟩), .pointer (some ⟨Bi, 0, none⟩)] W fun e W' => (∃ v, e = .returned v) ∧ W = W' := by
  go_enter Try.func124, Try.ntmps124
  go_wp2_with fail
  refine wp_loop_rounds 1 ?_
  rw [rounds_succ]
  go_wp2_with fail
  refine bodyPost_end (v := .tuple #[]) (by simp [results, Try.results124, go_sem]) rfl ⟨⟨_, rfl⟩, rfl⟩
theorem enters_all1 : ∀ args w, (callFunc 124 args).run Try.prog w = .ok (.enter 124 args) w := enters_of Try.func124 (by kernel_rfl) rfl
end Go.Proofs.Ytgbmhijgpdgdbaa

namespace Go.Proofs.Ytgbmhijgpdgdbaa
open Go.RowKit

/-- A broadcast link's config, as both packages lay it out. -/
def lcfg : Value := .agg #[.int .u8 0, .int .u32 1, .int .u32 167772160, .int .u8 24, .int .u32 167772161, .int .u8 2, .int .u16 10, .int .u32 40, .int .u16 0, .int .u8 1, .bool false, .bool false, .slice none 0 0, .int .u32 0]

set_option maxHeartbeats 1000000 in
set_option maxRecDepth 20000 in
theorem plain13 (w : World) : Calls Try.prog 41 #[.int .u8 0] w fun e w' => e = .returned lcfg ∧ Below w.heap.size w w' := by
  go_enter Try.func41, Try.ntmps41
  go_wp2_with fail
  refine bodyPost_ret (v := lcfg) (by simp [results, Try.results41, go_sem, lcfg]) rfl ⟨rfl, ?_⟩
  exact ((Below.refl _ _).alloc (Nat.le_refl _) _).alloc (by simp) _

set_option maxHeartbeats 1000000 in
set_option maxRecDepth 20000 in
theorem given13 (w : World) : Calls Try.prog 32 #[lcfg] w fun e w' => e = .returned lcfg ∧ Below w.heap.size w w' := by
  unfold lcfg
  go_enter Try.func32, Try.ntmps32
  go_wp2_with fail
  refine wp_loop_rounds 1 ?_
  rw [rounds_succ]
  go_wp2_with fail
  refine bodyPost_ret (v := lcfg) (by simp [results, Try.results32, go_sem, lcfg]) rfl ⟨rfl, ?_⟩
  exact (((Below.refl _ _).alloc (Nat.le_refl _) _).alloc (by simp) _).alloc (by simp; omega) _

set_option maxHeartbeats 1000000 in
set_option maxRecDepth 20000 in
theorem peers13 (w : World) : Calls Try.prog 63 #[lcfg] w fun e w' => e = .returned (.bool false) ∧ Below w.heap.size w w' := by
  unfold lcfg
  go_enter Try.func63, Try.ntmps63
  go_wp2_with fail
  go_ret
  exact ⟨rfl, (Below.refl _ _).alloc (Nat.le_refl _) _⟩

set_option maxHeartbeats 1000000 in
set_option maxRecDepth 20000 in
theorem peersMay13 (w : World) : Calls Try.prog 64 #[lcfg] w fun e w' => e = .returned (.bool true) ∧ Below w.heap.size w w' := by
  have hp := fun W => peers13 W
  unfold lcfg at hp ⊢
  have HP := Lib.hid hp
  clear hp
  go_enter Try.func64, Try.ntmps64
  go_wp2_with fail
  have k1 := Blk.new w 83 #[.int .u8 0, .int .u32 1, .int .u32 167772160, .int .u8 24, .int .u32 167772161, .int .u8 2, .int .u16 10, .int .u32 40, .int .u16 0, .int .u8 1, .bool false, .bool false, .slice none 0 0, .int .u32 0]
  refine (HP.out _).mono ?_
  rintro e w1 ⟨rfl, hb1⟩
  have c12 : w1.cell? ⟨w.heap.size, 12, none⟩ = some (.slice none 0 0) := (k1.below hb1 k1.lt).cell 12
  go_wp2_with fail
  go_ret
  exact ⟨rfl, ((Below.refl _ w).alloc (Nat.le_refl _) _).trans (hb1.mono (by simp))⟩
end Go.Proofs.Ytgbmhijgpdgdbaa

namespace Go.Proofs.Ytgbmhijgpdgdbaa
open Go.RowKit

theorem shl24 : bits .and .u32 167772160 4294967040 = 167772160 := by decide +kernel
theorem and1 : bits .and .u32 167772161 4294967040 = 167772160 := by decide +kernel
theorem and2 : bits .and .u32 167772162 4294967040 = 167772160 := by decide +kernel

set_option maxHeartbeats 400000 in
theorem mask24 (w : World) : Calls Try.prog 102 #[.int .u8 24] w fun e w' => e = .returned (.int .u32 4294967040) ∧ w = w' := by
  go_enter Try.func102, Try.ntmps102
  go_wp2_with fail
  go_ret
  exact ⟨rfl, rfl⟩

set_option maxHeartbeats 400000 in
theorem make24 (w : World) : Calls Try.prog 101 #[.int .u32 167772160, .int .u8 24] w fun e w' => e = .returned (.tuple #[.agg #[.int .u32 167772160, .int .u8 24], .int .i64 0]) ∧ Below w.heap.size w w' := by
  have h := shl24
  go_enter Try.func101, Try.ntmps101
  go_wp2_with (go_at_call 102; refine (mask24 _).mono ?_; rintro e w' ⟨rfl, rfl⟩)
  refine bodyPost_ret (v := .tuple #[.agg #[.int .u32 167772160, .int .u8 24], .int .i64 0]) (by simp [results, Try.results101, go_sem]) rfl ⟨rfl, ?_⟩
  exact (Below.refl _ _).alloc (Nat.le_refl _) _

set_option maxHeartbeats 400000 in
theorem check24 (w : World) : Calls Try.prog 65 #[.agg #[.int .u32 167772160, .int .u8 24]] w fun e w' => e = .returned (.int .i64 0) ∧ Below w.heap.size w w' := by
  have k1 := Blk.new w 73 #[.int .u32 167772160, .int .u8 24]
  have hb0 : Below w.heap.size w (w.alloc (.cells #[.int .u32 167772160, .int .u8 24] 73)) := (Below.refl _ _).alloc (Nat.le_refl _) _
  have HB0 := Lib.hid hb0
  have K1 := Lib.hid k1
  clear hb0 k1
  go_enter Try.func65, Try.ntmps65
  go_wp2_with fail
  refine (make24 _).mono ?_
  rintro e w1 ⟨rfl, hb1⟩
  have k2 := K1.out.below hb1 K1.out.lt
  have c0 : w1.cell? ⟨w.heap.size, 0, none⟩ = some (.int .u32 167772160) := k2.cell 0
  have c1 : w1.cell? ⟨w.heap.size, 1, none⟩ = some (.int .u8 24) := k2.cell 1
  have hbl : w.heap.size < w1.heap.size := k2.lt
  have HB1 := Lib.hid (HB0.out.trans (hb1.mono (by simp)))
  clear k2 hb1
  go_wp2_with fail
  go_ret
  exact ⟨rfl, HB1.out.alloc HB1.out.size _⟩

set_option maxHeartbeats 400000 in
theorem has24 (x : Int) (w : World) (hx : bits .and .u32 x 4294967040 = 167772160) : Calls Try.prog 66 #[.agg #[.int .u32 167772160, .int .u8 24], .int .u32 x] w fun e w' => e = .returned (.bool true) ∧ Below w.heap.size w w' := by
  have k1 := Blk.new w 73 #[.int .u32 167772160, .int .u8 24]
  have hb0 : Below w.heap.size w (w.alloc (.cells #[.int .u32 167772160, .int .u8 24] 73)) := (Below.refl _ _).alloc (Nat.le_refl _) _
  have HB0 := Lib.hid hb0
  have K1 := Lib.hid k1
  clear hb0 k1
  go_enter Try.func66, Try.ntmps66
  go_wp2_with fail
  have q0 := later_cell (v := .int .u32 167772160) (B := w.heap.size + 1) (w0 := (w.alloc (.cells #[.int .u32 167772160, .int .u8 24] 73))) (p := ⟨w.heap.size, 0, none⟩) (by simp) (K1.out.cell 0)
  have q1 := later_cell (v := .int .u8 24) (B := w.heap.size + 1) (w0 := (w.alloc (.cells #[.int .u32 167772160, .int .u8 24] 73))) (p := ⟨w.heap.size, 1, none⟩) (by simp) (K1.out.cell 1)
  have d1 : Hid (∀ u : Later (w.heap.size + 1) (w.alloc (.cells #[.int .u32 167772160, .int .u8 24] 73)), Calls Try.prog 65 #[.agg #[.int .u32 167772160, .int .u8 24]] u.to fun e w' => e = .returned (.int .i64 0) ∧ Below u.to.heap.size u.to w') := Lib.hid (fun u => check24 u.to)
  have d2 : Hid (∀ u : Later (w.heap.size + 1) (w.alloc (.cells #[.int .u32 167772160, .int .u8 24] 73)), Calls Try.prog 102 #[.int .u8 24] u.to fun e w' => e = .returned (.int .u32 4294967040) ∧ Below u.to.heap.size u.to w') := Lib.hid (fun u => (mask24 u.to).mono fun _ _ h => ⟨h.1, h.2 ▸ Below.refl _ _⟩)
  refine wp_region_later (B := w.heap.size + 1) (w0 := (w.alloc (.cells #[.int .u32 167772160, .int .u8 24] 73))) (by kernel_rfl) (by kernel_rfl) (Below.refl _ _) ?_
  repeat (go_big_quiet_step (first
    | (go_at_call 65; with_reducible exact later_call _ (by simp) (d1.out _))
    | (go_at_call 102; with_reducible exact later_call _ (by simp) (d2.out _))))
  refine wpQuiet_nil ?_
  rintro wx ⟨⟨wy, hwy⟩, hwe⟩
  obtain rfl : wx = wy := hwe
  go_wp2_with fail
  go_ret
  exact ⟨rfl, HB0.out.trans (hwy.mono (by omega))⟩
end Go.Proofs.Ytgbmhijgpdgdbaa
