/- A description fits. -/
import Derived.Test.YtgbmhijgpdgdbaaTypes
import Derived.Test.YtgbmhijgpdgdbaaLaterPlain
namespace Go.Proofs.Ytgbmhijgpdgdbaa
open Go.RowKit

def nextSeq (a : Adj) : Int := if a.master then a.seq else (a.seq + 1) % 4294967296

structure Fits (a : Adj) (opts flags seq : Int) : Prop where
  i : bits .and .u8 flags 4 = 0
  ms : (bits .and .u8 flags 1 == 0) = a.master
  opts : opts = a.lopts
  seq : seq = nextSeq a
  s0 : 0 ≤ a.seq
  s1 : a.seq < 4294967296

set_option maxHeartbeats 2000000 in
set_option maxRecDepth 20000 in
theorem fits_any (w : World) (B : Nat) (a : Adj) (mtu opts flags seq : Int) (hv : Value) (l : List Od.Hd) (h : AdjAt w B a) (hl : HeadsIn w hv l) (ht : a.types = 65535) (hok : ∀ x ∈ l, HdOk x) (hn : l.length ≤ 65536) (hf : Fits a opts flags seq) :
    Calls Try.prog 88 #[.pointer (some ⟨B, 0, none⟩), ddval mtu opts flags seq hv] w fun e w' => e = .returned (.bool true) ∧ Below w.heap.size w w' := by
  obtain ⟨f1, f2, rfl, rfl, f5, f6⟩ := hf
  have hBlt := h.lt
  have c9 : w.cell? ⟨B, 9, none⟩ = some (.int .u32 a.seq) := h.cell 9
  have c10 : w.cell? ⟨B, 10, none⟩ = some (.bool a.master) := h.cell 10
  have hb0 := (Below.refl _ w).alloc (Nat.le_refl w.heap.size) (.cells #[.int .u16 mtu, .int .u8 a.lopts, .int .u8 flags, .int .u32 (nextSeq a), hv] 28)
  have d1 : Hid (∀ u : Later (w.heap.size + 1) (w.alloc (.cells #[.int .u16 mtu, .int .u8 a.lopts, .int .u8 flags, .int .u32 (nextSeq a), hv] 28)),
      Calls Try.prog 90 #[.pointer (some ⟨B, 0, none⟩), .agg #[.int .u16 mtu, .int .u8 a.lopts, .int .u8 flags, .int .u32 (nextSeq a), hv]] u.to fun e w' => e = .returned (.bool true) ∧ Below u.to.heap.size u.to w') := Lib.hid (fun u =>
    types_any u.to B a mtu a.lopts flags (nextSeq a) hv l ((h.alloc _).below u.ok (by omega)) ((hl.below hb0).below (by simpa using u.ok)) ht hok hn)
  have hbd := Blk.new w 28 #[.int .u16 mtu, .int .u8 a.lopts, .int .u8 flags, .int .u32 (nextSeq a), hv]
  have hkB := h.alloc (.cells #[.int .u16 mtu, .int .u8 a.lopts, .int .u8 flags, .int .u32 (nextSeq a), hv] 28)
  have HB0 := Lib.hid hb0
  have q10 := later_cell (v := .bool a.master) (B := w.heap.size + 1) (w0 := w.alloc (.cells #[.int .u16 mtu, .int .u8 a.lopts, .int .u8 flags, .int .u32 (nextSeq a), hv] 28)) (p := ⟨B, 10, none⟩) (by simp <;> omega) (hkB.cell 10)
  have q19 := later_cell (v := .int .u8 a.lopts) (B := w.heap.size + 1) (w0 := w.alloc (.cells #[.int .u16 mtu, .int .u8 a.lopts, .int .u8 flags, .int .u32 (nextSeq a), hv] 28)) (p := ⟨B, 19, none⟩) (by simp <;> omega) (hkB.cell 19)
  have p0 := later_cell (v := .int .u16 mtu) (B := w.heap.size + 1) (w0 := w.alloc (.cells #[.int .u16 mtu, .int .u8 a.lopts, .int .u8 flags, .int .u32 (nextSeq a), hv] 28)) (p := ⟨w.heap.size, 0, none⟩) (by simp) (hbd.cell 0)
  have p1 := later_cell (v := .int .u8 a.lopts) (B := w.heap.size + 1) (w0 := w.alloc (.cells #[.int .u16 mtu, .int .u8 a.lopts, .int .u8 flags, .int .u32 (nextSeq a), hv] 28)) (p := ⟨w.heap.size, 1, none⟩) (by simp) (hbd.cell 1)
  have p2 := later_cell (v := .int .u8 flags) (B := w.heap.size + 1) (w0 := w.alloc (.cells #[.int .u16 mtu, .int .u8 a.lopts, .int .u8 flags, .int .u32 (nextSeq a), hv] 28)) (p := ⟨w.heap.size, 2, none⟩) (by simp) (hbd.cell 2)
  have p3 := later_cell (v := .int .u32 (nextSeq a)) (B := w.heap.size + 1) (w0 := w.alloc (.cells #[.int .u16 mtu, .int .u8 a.lopts, .int .u8 flags, .int .u32 (nextSeq a), hv] 28)) (p := ⟨w.heap.size, 3, none⟩) (by simp) (hbd.cell 3)
  have p4 := later_cell (v := hv) (B := w.heap.size + 1) (w0 := w.alloc (.cells #[.int .u16 mtu, .int .u8 a.lopts, .int .u8 flags, .int .u32 (nextSeq a), hv] 28)) (p := ⟨w.heap.size, 4, none⟩) (by simp) (hbd.cell 4)
  have hns : Hid (nextSeq a = if a.master then a.seq else (a.seq + 1) % 4294967296) := Lib.hid rfl
  obtain ⟨ns, hnse⟩ : ∃ ns, nextSeq a = ns := ⟨_, rfl⟩
  rw [hnse] at d1 q10 q19 p0 p1 p2 p3 p4 HB0 hns ⊢
  obtain ⟨A, n, c, rfl, -⟩ := hl.1
  clear hbd hkB h hl hok hb0 hnse
  unfold ddval
  cases hm : a.master
  all_goals
    rw [hm] at hns f2 q10 c10
    simp only [if_true, Bool.false_eq_true, if_false] at hns
    have hns2 := hns.out
    clear hns
    subst hns2
    go_enter Try.func88, Try.ntmps88
    go_wp2_with fail
    refine wp_region_later (B := w.heap.size + 1) (w0 := _) (by kernel_rfl) (by kernel_rfl) (Below.refl _ _) ?_
    repeat (go_big_quiet_step (first
      | (go_at_call 90; with_reducible exact later_call _ (by simp) (d1.out _))))
    refine wpQuiet_nil ?_
    rintro wx ⟨⟨wy, hwy⟩, hw⟩
    obtain rfl : wx = wy := hw
    go_wp2_with fail
    go_ret
    exact ⟨rfl, HB0.out.trans (hwy.mono (by omega))⟩
end Go.Proofs.Ytgbmhijgpdgdbaa
