/- A description behind Start, that fits; Describe. -/
import Derived.Test.YtgbmhijgpdgdbaaFits
namespace Go.Proofs.Ytgbmhijgpdgdbaa
open Go.RowKit

set_option maxHeartbeats 1000000 in
set_option maxRecDepth 20000 in
theorem again_any (w : World) (B : Nat) (a : Adj) (mtu opts flags seq : Int) (hv ow : Value) (Lp : List Od.Hd) (P : Value → World → Prop)
    (h : AdjAt w B a) (hp : HeadsIn w hv Lp) (hokp : ∀ x ∈ Lp, HdOk x) (hnp : Lp.length ≤ 65536) (hty : a.types = 65535) (hfit : Fits a opts flags seq)
    (htk : a.taken = true) (hne : (a.lseq == seq) = false) (hst : a.state = 1)
    (hT : ∀ w1, Below w.heap.size w w1 → Calls Try.prog 89 #[.pointer (some ⟨B, 0, none⟩), ddval mtu opts flags seq hv, ow] w1 fun e w' => ∃ v, e = .returned v ∧ P v w') :
    Calls Try.prog 51 #[.pointer (some ⟨B, 0, none⟩), ddval mtu opts flags seq hv, ow] w fun e w' => ∃ v, e = .returned (.tuple #[v, .int .i64 0]) ∧ P v w' := by
  obtain ⟨A, n, c, rfl, -⟩ := hp.1
  have hBlt := h.lt
  have c8 : w.cell? ⟨B, 8, none⟩ = some (.int .u8 1) := (h.cell 8).trans (by rw [← hst]; rfl)
  have c17 : w.cell? ⟨B, 17, none⟩ = some (.bool true) := (h.cell 17).trans (by rw [← htk]; rfl)
  have c18 : w.cell? ⟨B, 18, none⟩ = some (.int .u8 a.lflags) := h.cell 18
  have c19 : w.cell? ⟨B, 19, none⟩ = some (.int .u8 a.lopts) := h.cell 19
  have c20 : w.cell? ⟨B, 20, none⟩ = some (.int .u32 a.lseq) := h.cell 20
  have hb0 : Below w.heap.size w (w.alloc (.cells #[.int .u16 mtu, .int .u8 opts, .int .u8 flags, .int .u32 seq, .slice A n c] 28)) := (Below.refl _ w).alloc (Nat.le_refl _) _
  have HH := Lib.hid h
  have HP := Lib.hid hp
  have Hok := Lib.hid hokp
  have HT := Lib.hid hT
  have HFit := Lib.hid hfit
  have HTy := Lib.hid hty
  have Hnp := Lib.hid hnp
  have HB0 := Lib.hid hb0
  clear h hp hokp hT hfit hty hnp hb0 htk hst
  unfold ddval
  go_enter Try.func51, Try.ntmps51
  go_wp2_with fail
  go_quiet (fail)
  go_wp2_with fail
  refine (fits_any _ B a mtu opts flags seq (.slice A n c) Lp ((HH.out.alloc _).drewN _) (HP.out.below (below_drewN HB0.out _)) HTy.out Hok.out Hnp.out HFit.out).mono ?_
  rintro e w1 ⟨rfl, hb1⟩
  have hb01 : Below w.heap.size w w1 := (below_drewN HB0.out _).trans (hb1.mono (by simp [World.drewN]))
  have kD1 : Blk w1 w.heap.size 28 #[.int .u16 mtu, .int .u8 opts, .int .u8 flags, .int .u32 seq, .slice A n c] := ((Blk.new w _ _).drewN _).below hb1 (by simp [World.drewN])
  have p0 : w1.cell? ⟨w.heap.size, 0, none⟩ = some (.int .u16 mtu) := kD1.cell 0
  have p1 : w1.cell? ⟨w.heap.size, 1, none⟩ = some (.int .u8 opts) := kD1.cell 1
  have p2 : w1.cell? ⟨w.heap.size, 2, none⟩ = some (.int .u8 flags) := kD1.cell 2
  have p3 : w1.cell? ⟨w.heap.size, 3, none⟩ = some (.int .u32 seq) := kD1.cell 3
  have p4 : w1.cell? ⟨w.heap.size, 4, none⟩ = some (.slice A n c) := kD1.cell 4
  have HT1 := Lib.hid (HT.out w1 hb01)
  clear kD1 hb01 hb1 c8 c17 c18 c19 c20 hne
  go_wp2_with fail
  refine HT1.out.mono ?_
  rintro e w2 ⟨v, rfl, hS⟩
  have HS := Lib.hid hS
  clear hS
  go_wp2_with fail
  refine bodyPost_ret (v := .tuple #[v, .int .i64 0]) (by simp [results, Try.results51, go_sem]) rfl ⟨v, rfl, HS.out⟩

set_option maxHeartbeats 1000000 in
set_option maxRecDepth 20000 in
theorem Describe_start (w : World) (B : Nat) (a : Adj) (mtu opts flags seq : Int) (hv ow : Value) (P : Value → World → Prop) (h : AdjAt w B a) (hs : hv = .slice none 0 0 ∨ ∃ A n c, hv = .slice A n c) (hmade : a.made = true) (hmtu : a.mtu = 0) (hst : a.state = 0)
    (hT : ∀ w1, Below w.heap.size w w1 → Calls Try.prog 52 #[.pointer (some ⟨B, 0, none⟩), ddval mtu opts flags seq hv, ow] w1 fun e w' => ∃ v, e = .returned (.tuple #[v, .int .i64 0]) ∧ P v w') :
    Calls Try.prog 14 #[.pointer (some ⟨B, 0, none⟩), ddval mtu opts flags seq hv, ow] w fun e w' => ∃ v, e = .returned (.tuple #[v, .int .i64 0]) ∧ P v w' := by
  obtain ⟨A, n, c, rfl⟩ : ∃ A n c, hv = .slice A n c := by
    rcases hs with rfl | h
    · exact ⟨_, _, _, rfl⟩
    · exact h
  have hBlt := h.lt
  have hmf : ∀ (fn : Fn) (first cap : Array Value) (w : World), (Instr.makeFunc fn first cap).run Try.prog w = .ok (.func fn first cap) w := fun _ _ _ _ => rfl
  have c3 : w.cell? ⟨B, 3, none⟩ = some (.int .u16 0) := (h.cell 3).trans (by rw [← hmtu]; rfl)
  have c8 : w.cell? ⟨B, 8, none⟩ = some (.int .u8 0) := (h.cell 8).trans (by rw [← hst]; rfl)
  have hb0 : Below w.heap.size w (w.alloc (.cells #[.int .u16 mtu, .int .u8 opts, .int .u8 flags, .int .u32 seq, .slice A n c] 28)) := (Below.refl _ w).alloc (Nat.le_refl _) _
  have HH := Lib.hid h
  have HT := Lib.hid hT
  have HB0 := Lib.hid hb0
  have Hm := Lib.hid hmade
  clear h hT hb0 hst hmtu hmade hs
  unfold ddval
  go_enter Try.func14, Try.ntmps14
  go_wp2_with (go_at_call 50; refine (none_yes _ B a (HH.out.alloc _) Hm.out).mono ?_; rintro e w' ⟨rfl, rfl⟩)
  go_quiet (fail)
  go_wp2_with fail
  refine (HT.out _ (below_drewN HB0.out _)).mono ?_
  rintro e w2 ⟨v, rfl, hS⟩
  have HS := Lib.hid hS
  clear hS
  go_wp2_with fail
  refine bodyPost_ret (v := .tuple #[v, .int .i64 0]) (by simp [results, Try.results14, go_sem]) rfl ⟨v, rfl, HS.out⟩
set_option maxHeartbeats 1000000 in
set_option maxRecDepth 20000 in
theorem Describe_again (w : World) (B : Nat) (a : Adj) (mtu opts flags seq : Int) (hv ow : Value) (P : Value → World → Prop) (h : AdjAt w B a) (hs : hv = .slice none 0 0 ∨ ∃ A n c, hv = .slice A n c) (hmade : a.made = true) (hmtu : a.mtu = 0) (hst : (a.state == 0) = false)
    (hT : ∀ w1, Below w.heap.size w w1 → Calls Try.prog 51 #[.pointer (some ⟨B, 0, none⟩), ddval mtu opts flags seq hv, ow] w1 fun e w' => ∃ v, e = .returned (.tuple #[v, .int .i64 0]) ∧ P v w') :
    Calls Try.prog 14 #[.pointer (some ⟨B, 0, none⟩), ddval mtu opts flags seq hv, ow] w fun e w' => ∃ v, e = .returned (.tuple #[v, .int .i64 0]) ∧ P v w' := by
  obtain ⟨A, n, c, rfl⟩ : ∃ A n c, hv = .slice A n c := by
    rcases hs with rfl | h
    · exact ⟨_, _, _, rfl⟩
    · exact h
  have hBlt := h.lt
  have hmf : ∀ (fn : Fn) (first cap : Array Value) (w : World), (Instr.makeFunc fn first cap).run Try.prog w = .ok (.func fn first cap) w := fun _ _ _ _ => rfl
  have c3 : w.cell? ⟨B, 3, none⟩ = some (.int .u16 0) := (h.cell 3).trans (by rw [← hmtu]; rfl)
  have c8 : w.cell? ⟨B, 8, none⟩ = some (.int .u8 a.state) := h.cell 8
  have hb0 : Below w.heap.size w (w.alloc (.cells #[.int .u16 mtu, .int .u8 opts, .int .u8 flags, .int .u32 seq, .slice A n c] 28)) := (Below.refl _ w).alloc (Nat.le_refl _) _
  have HH := Lib.hid h
  have HT := Lib.hid hT
  have HB0 := Lib.hid hb0
  have Hm := Lib.hid hmade
  clear h hT hb0 hmtu hmade hs
  unfold ddval
  go_enter Try.func14, Try.ntmps14
  go_wp2_with (go_at_call 50; refine (none_yes _ B a (HH.out.alloc _) Hm.out).mono ?_; rintro e w' ⟨rfl, rfl⟩)
  go_quiet (fail)
  go_wp2_with fail
  refine (HT.out _ (below_drewN HB0.out _)).mono ?_
  rintro e w2 ⟨v, rfl, hS⟩
  have HS := Lib.hid hS
  clear hS
  go_wp2_with fail
  refine bodyPost_ret (v := .tuple #[v, .int .i64 0]) (by simp [results, Try.results14, go_sem]) rfl ⟨v, rfl, HS.out⟩
end Go.Proofs.Ytgbmhijgpdgdbaa
