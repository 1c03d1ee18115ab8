/- A description that came before is answered again. -/
import Derived.Test.YtgbmhijgpdgdbaaFaTypes
import Derived.Test.YtgbmhijgpdgdbaaFaLaterPlain
import Derived.Test.YtgbmhijgpdgdbaaFaNew
namespace Go.Proofs.Ytgbmhijgpdgdbaa
open Go.RowKit

def nextSeq (a : Adj) : Int := if a.master then a.seq else (a.seq + 1) % 4294967296

structure Fits (a : Adj) (opts flags seq : Int) : Prop where
  i : bits .and .u8 flags 4 = 0
  ms : (bits .and .u8 flags 1 == 0) = a.master
  opts : opts = a.lopts
  seq : seq = nextSeq a
  s0 : 0 ≤ a.seq
  s1 : a.seq < 4294967296

set_option maxHeartbeats 2000000 in
set_option maxRecDepth 20000 in
theorem fits_any (w : World) (B : Nat) (a : Adj) (mtu opts flags seq : Int) (hv : Value) (l : List Od.Hd) (h : AdjAt w B a) (hl : HeadsIn w hv l) (ht : a.types = 65535) (hok : ∀ x ∈ l, HdOk x) (hn : l.length ≤ 65536) (hf : Fits a opts flags seq) :
    Calls Try.prog 88 #[.pointer (some ⟨B, 0, none⟩), ddval mtu opts flags seq hv] w fun e w' => e = .returned (.bool true) ∧ Below w.heap.size w w' := by
  obtain ⟨f1, f2, rfl, rfl, f5, f6⟩ := hf
  have hBlt := h.lt
  have c9 : w.cell? ⟨B, 9, none⟩ = some (.int .u32 a.seq) := h.cell 9
  have c10 : w.cell? ⟨B, 10, none⟩ = some (.bool a.master) := h.cell 10
  have hb0 := (Below.refl _ w).alloc (Nat.le_refl w.heap.size) (.cells #[.int .u16 mtu, .int .u8 a.lopts, .int .u8 flags, .int .u32 (nextSeq a), hv] 28)
  have d1 : Hid (∀ u : Later (w.heap.size + 1) (w.alloc (.cells #[.int .u16 mtu, .int .u8 a.lopts, .int .u8 flags, .int .u32 (nextSeq a), hv] 28)),
      Calls Try.prog 90 #[.pointer (some ⟨B, 0, none⟩), .agg #[.int .u16 mtu, .int .u8 a.lopts, .int .u8 flags, .int .u32 (nextSeq a), hv]] u.to fun e w' => e = .returned (.bool true) ∧ Below u.to.heap.size u.to w') := Lib.hid (fun u =>
    types_any u.to B a mtu a.lopts flags (nextSeq a) hv l ((h.alloc _).below u.ok (by omega)) ((hl.below hb0).below (by simpa using u.ok)) ht hok hn)
  have hbd := Blk.new w 28 #[.int .u16 mtu, .int .u8 a.lopts, .int .u8 flags, .int .u32 (nextSeq a), hv]
  have hkB := h.alloc (.cells #[.int .u16 mtu, .int .u8 a.lopts, .int .u8 flags, .int .u32 (nextSeq a), hv] 28)
  have HB0 := Lib.hid hb0
  have q10 := later_cell (v := .bool a.master) (B := w.heap.size + 1) (w0 := w.alloc (.cells #[.int .u16 mtu, .int .u8 a.lopts, .int .u8 flags, .int .u32 (nextSeq a), hv] 28)) (p := ⟨B, 10, none⟩) (by simp <;> omega) (hkB.cell 10)
  have q19 := later_cell (v := .int .u8 a.lopts) (B := w.heap.size + 1) (w0 := w.alloc (.cells #[.int .u16 mtu, .int .u8 a.lopts, .int .u8 flags, .int .u32 (nextSeq a), hv] 28)) (p := ⟨B, 19, none⟩) (by simp <;> omega) (hkB.cell 19)
  have p0 := later_cell (v := .int .u16 mtu) (B := w.heap.size + 1) (w0 := w.alloc (.cells #[.int .u16 mtu, .int .u8 a.lopts, .int .u8 flags, .int .u32 (nextSeq a), hv] 28)) (p := ⟨w.heap.size, 0, none⟩) (by simp) (hbd.cell 0)
  have p1 := later_cell (v := .int .u8 a.lopts) (B := w.heap.size + 1) (w0 := w.alloc (.cells #[.int .u16 mtu, .int .u8 a.lopts, .int .u8 flags, .int .u32 (nextSeq a), hv] 28)) (p := ⟨w.heap.size, 1, none⟩) (by simp) (hbd.cell 1)
  have p2 := later_cell (v := .int .u8 flags) (B := w.heap.size + 1) (w0 := w.alloc (.cells #[.int .u16 mtu, .int .u8 a.lopts, .int .u8 flags, .int .u32 (nextSeq a), hv] 28)) (p := ⟨w.heap.size, 2, none⟩) (by simp) (hbd.cell 2)
  have p3 := later_cell (v := .int .u32 (nextSeq a)) (B := w.heap.size + 1) (w0 := w.alloc (.cells #[.int .u16 mtu, .int .u8 a.lopts, .int .u8 flags, .int .u32 (nextSeq a), hv] 28)) (p := ⟨w.heap.size, 3, none⟩) (by simp) (hbd.cell 3)
  have p4 := later_cell (v := hv) (B := w.heap.size + 1) (w0 := w.alloc (.cells #[.int .u16 mtu, .int .u8 a.lopts, .int .u8 flags, .int .u32 (nextSeq a), hv] 28)) (p := ⟨w.heap.size, 4, none⟩) (by simp) (hbd.cell 4)
  have hns : Hid (nextSeq a = if a.master then a.seq else (a.seq + 1) % 4294967296) := Lib.hid rfl
  obtain ⟨ns, hnse⟩ : ∃ ns, nextSeq a = ns := ⟨_, rfl⟩
  rw [hnse] at d1 q10 q19 p0 p1 p2 p3 p4 HB0 hns ⊢
  obtain ⟨A, n, c, rfl, -⟩ := hl.1
  clear hbd hkB h hl hok hb0 hnse
  unfold ddval
  cases hm : a.master
  all_goals
    rw [hm] at hns f2 q10 c10
    simp only [if_true, Bool.false_eq_true, if_false] at hns
    have hns2 := hns.out
    clear hns
    subst hns2
    go_enter Try.func88, Try.ntmps88
    go_wp2_with fail
    refine wp_region_later (B := w.heap.size + 1) (w0 := _) (by kernel_rfl) (by kernel_rfl) (Below.refl _ _) ?_
    repeat (go_big_quiet_step (first
      | (go_at_call 90; with_reducible exact later_call _ (by simp) (d1.out _))))
    refine wpQuiet_nil ?_
    rintro wx ⟨⟨wy, hwy⟩, hw⟩
    obtain rfl : wx = wy := hw
    go_wp2_with fail
    go_ret
    exact ⟨rfl, HB0.out.trans (hwy.mono (by omega))⟩
end Go.Proofs.Ytgbmhijgpdgdbaa

namespace Go.Proofs.Ytgbmhijgpdgdbaa
open Go.RowKit

set_option maxHeartbeats 1000000 in
set_option maxRecDepth 20000 in
theorem again_any (w : World) (B : Nat) (a : Adj) (mtu opts flags seq : Int) (hv ow : Value) (Lp : List Od.Hd) (P : Value → World → Prop)
    (h : AdjAt w B a) (hp : HeadsIn w hv Lp) (hokp : ∀ x ∈ Lp, HdOk x) (hnp : Lp.length ≤ 65536) (hty : a.types = 65535) (hfit : Fits a opts flags seq)
    (htk : a.taken = true) (hne : (a.lseq == seq) = false) (hst : a.state = 1)
    (hT : ∀ w1, Below w.heap.size w w1 → Calls Try.prog 89 #[.pointer (some ⟨B, 0, none⟩), ddval mtu opts flags seq hv, ow] w1 fun e w' => ∃ v, e = .returned v ∧ P v w') :
    Calls Try.prog 51 #[.pointer (some ⟨B, 0, none⟩), ddval mtu opts flags seq hv, ow] w fun e w' => ∃ v, e = .returned (.tuple #[v, .int .i64 0]) ∧ P v w' := by
  obtain ⟨A, n, c, rfl, -⟩ := hp.1
  have hBlt := h.lt
  have c8 : w.cell? ⟨B, 8, none⟩ = some (.int .u8 1) := (h.cell 8).trans (by rw [← hst]; rfl)
  have c17 : w.cell? ⟨B, 17, none⟩ = some (.bool true) := (h.cell 17).trans (by rw [← htk]; rfl)
  have c18 : w.cell? ⟨B, 18, none⟩ = some (.int .u8 a.lflags) := h.cell 18
  have c19 : w.cell? ⟨B, 19, none⟩ = some (.int .u8 a.lopts) := h.cell 19
  have c20 : w.cell? ⟨B, 20, none⟩ = some (.int .u32 a.lseq) := h.cell 20
  have hb0 : Below w.heap.size w (w.alloc (.cells #[.int .u16 mtu, .int .u8 opts, .int .u8 flags, .int .u32 seq, .slice A n c] 28)) := (Below.refl _ w).alloc (Nat.le_refl _) _
  have HH := Lib.hid h
  have HP := Lib.hid hp
  have Hok := Lib.hid hokp
  have HT := Lib.hid hT
  have HFit := Lib.hid hfit
  have HTy := Lib.hid hty
  have Hnp := Lib.hid hnp
  have HB0 := Lib.hid hb0
  clear h hp hokp hT hfit hty hnp hb0 htk hst
  unfold ddval
  go_enter Try.func51, Try.ntmps51
  go_wp2_with fail
  go_quiet (fail)
  go_wp2_with fail
  refine (fits_any _ B a mtu opts flags seq (.slice A n c) Lp ((HH.out.alloc _).drewN _) (HP.out.below (below_drewN HB0.out _)) HTy.out Hok.out Hnp.out HFit.out).mono ?_
  rintro e w1 ⟨rfl, hb1⟩
  have hb01 : Below w.heap.size w w1 := (below_drewN HB0.out _).trans (hb1.mono (by simp [World.drewN]))
  have kD1 : Blk w1 w.heap.size 28 #[.int .u16 mtu, .int .u8 opts, .int .u8 flags, .int .u32 seq, .slice A n c] := ((Blk.new w _ _).drewN _).below hb1 (by simp [World.drewN])
  have p0 : w1.cell? ⟨w.heap.size, 0, none⟩ = some (.int .u16 mtu) := kD1.cell 0
  have p1 : w1.cell? ⟨w.heap.size, 1, none⟩ = some (.int .u8 opts) := kD1.cell 1
  have p2 : w1.cell? ⟨w.heap.size, 2, none⟩ = some (.int .u8 flags) := kD1.cell 2
  have p3 : w1.cell? ⟨w.heap.size, 3, none⟩ = some (.int .u32 seq) := kD1.cell 3
  have p4 : w1.cell? ⟨w.heap.size, 4, none⟩ = some (.slice A n c) := kD1.cell 4
  have HT1 := Lib.hid (HT.out w1 hb01)
  clear kD1 hb01 hb1 c8 c17 c18 c19 c20 hne
  go_wp2_with fail
  refine HT1.out.mono ?_
  rintro e w2 ⟨v, rfl, hS⟩
  have HS := Lib.hid hS
  clear hS
  go_wp2_with fail
  refine bodyPost_ret (v := .tuple #[v, .int .i64 0]) (by simp [results, Try.results51, go_sem]) rfl ⟨v, rfl, HS.out⟩

set_option maxHeartbeats 1000000 in
set_option maxRecDepth 20000 in
theorem Describe_start (w : World) (B : Nat) (a : Adj) (mtu opts flags seq : Int) (hv ow : Value) (P : Value → World → Prop) (h : AdjAt w B a) (hs : hv = .slice none 0 0 ∨ ∃ A n c, hv = .slice A n c) (hmade : a.made = true) (hmtu : a.mtu = 0) (hst : a.state = 0)
    (hT : ∀ w1, Below w.heap.size w w1 → Calls Try.prog 52 #[.pointer (some ⟨B, 0, none⟩), ddval mtu opts flags seq hv, ow] w1 fun e w' => ∃ v, e = .returned (.tuple #[v, .int .i64 0]) ∧ P v w') :
    Calls Try.prog 14 #[.pointer (some ⟨B, 0, none⟩), ddval mtu opts flags seq hv, ow] w fun e w' => ∃ v, e = .returned (.tuple #[v, .int .i64 0]) ∧ P v w' := by
  obtain ⟨A, n, c, rfl⟩ : ∃ A n c, hv = .slice A n c := by
    rcases hs with rfl | h
    · exact ⟨_, _, _, rfl⟩
    · exact h
  have hBlt := h.lt
  have hmf : ∀ (fn : Fn) (first cap : Array Value) (w : World), (Instr.makeFunc fn first cap).run Try.prog w = .ok (.func fn first cap) w := fun _ _ _ _ => rfl
  have c3 : w.cell? ⟨B, 3, none⟩ = some (.int .u16 0) := (h.cell 3).trans (by rw [← hmtu]; rfl)
  have c8 : w.cell? ⟨B, 8, none⟩ = some (.int .u8 0) := (h.cell 8).trans (by rw [← hst]; rfl)
  have hb0 : Below w.heap.size w (w.alloc (.cells #[.int .u16 mtu, .int .u8 opts, .int .u8 flags, .int .u32 seq, .slice A n c] 28)) := (Below.refl _ w).alloc (Nat.le_refl _) _
  have HH := Lib.hid h
  have HT := Lib.hid hT
  have HB0 := Lib.hid hb0
  have Hm := Lib.hid hmade
  clear h hT hb0 hst hmtu hmade hs
  unfold ddval
  go_enter Try.func14, Try.ntmps14
  go_wp2_with (go_at_call 50; refine (none_yes _ B a (HH.out.alloc _) Hm.out).mono ?_; rintro e w' ⟨rfl, rfl⟩)
  go_quiet (fail)
  go_wp2_with fail
  refine (HT.out _ (below_drewN HB0.out _)).mono ?_
  rintro e w2 ⟨v, rfl, hS⟩
  have HS := Lib.hid hS
  clear hS
  go_wp2_with fail
  refine bodyPost_ret (v := .tuple #[v, .int .i64 0]) (by simp [results, Try.results14, go_sem]) rfl ⟨v, rfl, HS.out⟩
set_option maxHeartbeats 1000000 in
set_option maxRecDepth 20000 in
theorem Describe_again (w : World) (B : Nat) (a : Adj) (mtu opts flags seq : Int) (hv ow : Value) (P : Value → World → Prop) (h : AdjAt w B a) (hs : hv = .slice none 0 0 ∨ ∃ A n c, hv = .slice A n c) (hmade : a.made = true) (hmtu : a.mtu = 0) (hst : (a.state == 0) = false)
    (hT : ∀ w1, Below w.heap.size w w1 → Calls Try.prog 51 #[.pointer (some ⟨B, 0, none⟩), ddval mtu opts flags seq hv, ow] w1 fun e w' => ∃ v, e = .returned (.tuple #[v, .int .i64 0]) ∧ P v w') :
    Calls Try.prog 14 #[.pointer (some ⟨B, 0, none⟩), ddval mtu opts flags seq hv, ow] w fun e w' => ∃ v, e = .returned (.tuple #[v, .int .i64 0]) ∧ P v w' := by
  obtain ⟨A, n, c, rfl⟩ : ∃ A n c, hv = .slice A n c := by
    rcases hs with rfl | h
    · exact ⟨_, _, _, rfl⟩
    · exact h
  have hBlt := h.lt
  have hmf : ∀ (fn : Fn) (first cap : Array Value) (w : World), (Instr.makeFunc fn first cap).run Try.prog w = .ok (.func fn first cap) w := fun _ _ _ _ => rfl
  have c3 : w.cell? ⟨B, 3, none⟩ = some (.int .u16 0) := (h.cell 3).trans (by rw [← hmtu]; rfl)
  have c8 : w.cell? ⟨B, 8, none⟩ = some (.int .u8 a.state) := h.cell 8
  have hb0 : Below w.heap.size w (w.alloc (.cells #[.int .u16 mtu, .int .u8 opts, .int .u8 flags, .int .u32 seq, .slice A n c] 28)) := (Below.refl _ w).alloc (Nat.le_refl _) _
  have HH := Lib.hid h
  have HT := Lib.hid hT
  have HB0 := Lib.hid hb0
  have Hm := Lib.hid hmade
  clear h hT hb0 hmtu hmade hs
  unfold ddval
  go_enter Try.func14, Try.ntmps14
  go_wp2_with (go_at_call 50; refine (none_yes _ B a (HH.out.alloc _) Hm.out).mono ?_; rintro e w' ⟨rfl, rfl⟩)
  go_quiet (fail)
  go_wp2_with fail
  refine (HT.out _ (below_drewN HB0.out _)).mono ?_
  rintro e w2 ⟨v, rfl, hS⟩
  have HS := Lib.hid hS
  clear hS
  go_wp2_with fail
  refine bodyPost_ret (v := .tuple #[v, .int .i64 0]) (by simp [results, Try.results14, go_sem]) rfl ⟨v, rfl, HS.out⟩
end Go.Proofs.Ytgbmhijgpdgdbaa

namespace Go.Proofs.Ytgbmhijgpdgdbaa
open Go.RowKit

def DupPost (a : Adj) (l : List Od.Hd) (w : World) (e : Ending) (w' : World) : Prop :=
  ∃ v hv, e = .returned (.tuple #[v, .int .i64 0]) ∧ w'.ownsRow w.heap.size 40 7 v 1 (Raw.cells ⟨true, a.smtu, a.sopts, a.sflags, a.sseq, hv, .slice none 0 0⟩) ∧ w'.ownsRow w.heap.size 59 8 hv l.length (l.flatMap hcells) ∧ Below w.heap.size w w'

set_option maxHeartbeats 1000000 in
set_option maxRecDepth 20000 in
theorem again_dup (w : World) (B : Nat) (a : Adj) (mtu opts flags seq : Int) (hv ow : Value) (l : List Od.Hd) (h : AdjAt w B a) (hs : ∃ A n c, hv = .slice A n c)
    (htk : a.taken = true) (h1 : a.lflags = flags) (h2 : a.lopts = opts) (h3 : a.lseq = seq) (hms : a.master = false) (hl : HeadsIn w a.sheads l) (hn : l.length ≤ 65536) :
    Calls Try.prog 51 #[.pointer (some ⟨B, 0, none⟩), ddval mtu opts flags seq hv, ow] w fun e w' => DupPost a l w e w' := by
  obtain ⟨A, n, c, rfl⟩ := hs
  subst h1 h2 h3
  have hBlt := h.lt
  have c10 : w.cell? ⟨B, 10, none⟩ = some (.bool false) := (h.cell 10).trans (by rw [← hms]; rfl)
  have c17 : w.cell? ⟨B, 17, none⟩ = some (.bool true) := (h.cell 17).trans (by rw [← htk]; rfl)
  have c18 : w.cell? ⟨B, 18, none⟩ = some (.int .u8 a.lflags) := h.cell 18
  have c19 : w.cell? ⟨B, 19, none⟩ = some (.int .u8 a.lopts) := h.cell 19
  have c20 : w.cell? ⟨B, 20, none⟩ = some (.int .u32 a.lseq) := h.cell 20
  have hb0 : Below w.heap.size w (w.alloc (.cells #[.int .u16 mtu, .int .u8 a.lopts, .int .u8 a.lflags, .int .u32 a.lseq, .slice A n c] 28)) := (Below.refl _ w).alloc (Nat.le_refl _) _
  have HH := Lib.hid h
  have HL := Lib.hid hl
  have Hn := Lib.hid hn
  have HB0 := Lib.hid hb0
  clear h hl hn hb0 htk hms
  unfold ddval
  go_enter Try.func51, Try.ntmps51
  go_wp2_with fail
  go_quiet (fail)
  go_wp2_with fail
  have hb1 := below_drewN HB0.out
  refine (out_any _ B a l ((HH.out.alloc _).drewN _) (HL.out.below (hb1 _)).1 Hn.out).mono ?_
  rintro e w2 ⟨ho, rfl, hb2, hown2⟩
  obtain ⟨Ah, ch, rfl⟩ := own_slice hown2
  have hb02 : Below w.heap.size w w2 := (hb1 _).trans (hb2.mono (hb1 _).size)
  have HB2 := Lib.hid hb02
  have HO2 := Lib.hid (own_base hown2 (hb1 _).size)
  clear hb2 hown2 hb02 hb1 c10 c17 c18 c19 c20
  unfold outval
  go_wp2_with fail
  have hF3 : Frame (fun _ => False) w2 (w2.alloc (.cells #[.bool true, .int .u16 a.smtu, .int .u8 a.sopts, .int .u8 a.sflags, .int .u32 a.sseq, .slice Ah l.length ch, .slice none 0 0] 40)) := (Frame.refl _ w2).alloc _
  refine bodyPost_ret (v := .tuple #[.slice (some ⟨w2.heap.size, 0, none⟩) 1 1, .int .i64 0]) (by simp [results, Try.results51, go_sem]) rfl ?_
  exact ⟨_, .slice Ah l.length ch, rfl, World.ownsRow_lit (base := w.heap.size) (e := 40) (size := 7) w2 #[.bool true, .int .u16 a.smtu, .int .u8 a.sopts, .int .u8 a.sflags, .int .u32 a.sseq, .slice Ah l.length ch, .slice none 0 0] 1 HB2.out.size (by simp [maxLen]) rfl, hF3.own HO2.out (fun _ _ e => e), HB2.out.alloc HB2.out.size _⟩

set_option maxHeartbeats 1000000 in
set_option maxRecDepth 20000 in
theorem Describe_start_e (w : World) (B : Nat) (a : Adj) (mtu opts flags seq : Int) (hv ow : Value) (er : Int) (P : Value → World → Prop) (h : AdjAt w B a) (hs : hv = .slice none 0 0 ∨ ∃ A n c, hv = .slice A n c) (hmade : a.made = true) (hmtu : a.mtu = 0) (hst : a.state = 0)
    (hT : ∀ w1, Below w.heap.size w w1 → Calls Try.prog 52 #[.pointer (some ⟨B, 0, none⟩), ddval mtu opts flags seq hv, ow] w1 fun e w' => ∃ v, e = .returned (.tuple #[v, .int .i64 er]) ∧ P v w') :
    Calls Try.prog 14 #[.pointer (some ⟨B, 0, none⟩), ddval mtu opts flags seq hv, ow] w fun e w' => ∃ v, e = .returned (.tuple #[v, .int .i64 er]) ∧ P v w' := by
  obtain ⟨A, n, c, rfl⟩ : ∃ A n c, hv = .slice A n c := by
    rcases hs with rfl | h
    · exact ⟨_, _, _, rfl⟩
    · exact h
  have hBlt := h.lt
  have hmf : ∀ (fn : Fn) (first cap : Array Value) (w : World), (Instr.makeFunc fn first cap).run Try.prog w = .ok (.func fn first cap) w := fun _ _ _ _ => rfl
  have c3 : w.cell? ⟨B, 3, none⟩ = some (.int .u16 0) := (h.cell 3).trans (by rw [← hmtu]; rfl)
  have c8 : w.cell? ⟨B, 8, none⟩ = some (.int .u8 0) := (h.cell 8).trans (by rw [← hst]; rfl)
  have hb0 : Below w.heap.size w (w.alloc (.cells #[.int .u16 mtu, .int .u8 opts, .int .u8 flags, .int .u32 seq, .slice A n c] 28)) := (Below.refl _ w).alloc (Nat.le_refl _) _
  have HH := Lib.hid h
  have HT := Lib.hid hT
  have HB0 := Lib.hid hb0
  have Hm := Lib.hid hmade
  clear h hT hb0 hst hmtu hmade hs
  unfold ddval
  go_enter Try.func14, Try.ntmps14
  go_wp2_with (go_at_call 50; refine (none_yes _ B a (HH.out.alloc _) Hm.out).mono ?_; rintro e w' ⟨rfl, rfl⟩)
  go_quiet (fail)
  go_wp2_with fail
  refine (HT.out _ (below_drewN HB0.out _)).mono ?_
  rintro e w2 ⟨v, rfl, hS⟩
  have HS := Lib.hid hS
  clear hS
  go_wp2_with fail
  refine bodyPost_ret (v := .tuple #[v, .int .i64 er]) (by simp [results, Try.results14, go_sem]) rfl ⟨v, rfl, HS.out⟩
end Go.Proofs.Ytgbmhijgpdgdbaa
