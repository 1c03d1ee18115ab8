/- A tick of an adjacency; its state and whether it is the master. -/
import Derived.Test.YtgbmhijgpdgdbaaFaReq
import Derived.Test.YtgbmhijgpdgdbaaFaNew
namespace Go.Proofs.Ytgbmhijgpdgdbaa
open Go.RowKit

set_option maxHeartbeats 400000 in
theorem state_is (w : World) (B : Nat) (a : Adj) (h : AdjAt w B a) (hm : a.made = true) : Calls Try.prog 16 #[.pointer (some ⟨B, 0, none⟩)] w fun e w' => e = .returned (.int .u8 a.state) ∧ w = w' := by
  have c8 : w.cell? ⟨B, 8, none⟩ = some (.int .u8 a.state) := h.cell 8
  have HH := Lib.hid h
  have HM := Lib.hid hm
  clear h hm
  go_enter Try.func16, Try.ntmps16
  go_wp2_with (go_at_call 50; refine (none_yes _ B a HH.out HM.out).mono ?_; rintro e w' ⟨rfl, rfl⟩)
  go_ret
  exact ⟨rfl, rfl⟩

set_option maxHeartbeats 400000 in
theorem master_is (w : World) (B : Nat) (a : Adj) (h : AdjAt w B a) (hm : a.made = true) : Calls Try.prog 20 #[.pointer (some ⟨B, 0, none⟩)] w fun e w' => e = .returned (.bool a.master) ∧ w = w' := by
  have c10 : w.cell? ⟨B, 10, none⟩ = some (.bool a.master) := h.cell 10
  have HH := Lib.hid h
  have HM := Lib.hid hm
  clear h hm
  go_enter Try.func20, Try.ntmps20
  go_wp2_with (go_at_call 50; refine (none_yes _ B a HH.out HM.out).mono ?_; rintro e w' ⟨rfl, rfl⟩)
  go_ret
  exact ⟨rfl, rfl⟩

set_option maxHeartbeats 400000 in
theorem tick_idle (w : World) (B : Nat) (a : Adj) (h : AdjAt w B a) (hm : a.made = true) (hs : a.state = 3 ∨ a.state = 1 ∧ a.master = false) : Calls Try.prog 19 #[.pointer (some ⟨B, 0, none⟩)] w fun e w' => e = .returned (.slice none 0 0) ∧ w = w' := by
  have c8 : w.cell? ⟨B, 8, none⟩ = some (.int .u8 a.state) := h.cell 8
  have c10 : w.cell? ⟨B, 10, none⟩ = some (.bool a.master) := h.cell 10
  have HH := Lib.hid h
  have HM := Lib.hid hm
  clear h hm
  rcases hs with hs | ⟨hs, hm⟩
  · rw [hs] at c8
    go_enter Try.func19, Try.ntmps19
    go_wp2_with (go_at_call 50; refine (none_yes _ B a HH.out HM.out).mono ?_; rintro e w' ⟨rfl, rfl⟩)
    go_ret
    exact ⟨rfl, rfl⟩
  · rw [hs] at c8
    rw [hm] at c10
    go_enter Try.func19, Try.ntmps19
    go_wp2_with (go_at_call 50; refine (none_yes _ B a HH.out HM.out).mono ?_; rintro e w' ⟨rfl, rfl⟩)
    go_ret
    exact ⟨rfl, rfl⟩

/-- The states in which a timer runs. -/
def Awake (a : Adj) : Prop := a.state = 0 ∨ a.state = 2 ∨ a.state = 1 ∧ a.master = true

def TickWait (w : World) (B : Nat) (a : Adj) (e : Ending) (w' : World) : Prop := e = .returned (.slice none 0 0) ∧ AdjAt w' B { a with timer := 1 } ∧ Frame (fun j => j = B) w w'

set_option maxHeartbeats 1000000 in
theorem tick_wait (w : World) (B : Nat) (a : Adj) (h : AdjAt w B a) (hm : a.made = true) (hs : Awake a) (ht : a.timer = 2) : Calls Try.prog 19 #[.pointer (some ⟨B, 0, none⟩)] w fun e w' => TickWait w B a e w' := by
  have c8 : w.cell? ⟨B, 8, none⟩ = some (.int .u8 a.state) := h.cell 8
  have c10 : w.cell? ⟨B, 10, none⟩ = some (.bool a.master) := h.cell 10
  have c24 : w.cell? ⟨B, 24, none⟩ = some (.int .u32 2) := (h.cell 24).trans (by rw [← ht]; rfl)
  have f := h.frozen
  have hlt := h.lt
  have HH := Lib.hid h
  have HM := Lib.hid hm
  have hfin : ∀ w', w' = w.setCell ⟨B, 24, none⟩ (.int .u32 1) → TickWait w B a (.returned (.slice none 0 0)) w' := by
    rintro w' rfl
    exact ⟨rfl, HH.out.set_ 24 _, (Frame.refl _ w).setB 24 _⟩
  have HFin := Lib.hid hfin
  clear h hm ht hfin
  rcases hs with hs | hs | ⟨hs, hm⟩
  · rw [hs] at c8
    go_enter Try.func19, Try.ntmps19
    go_wp2_with (go_at_call 50; refine (none_yes _ B a HH.out HM.out).mono ?_; rintro e w' ⟨rfl, rfl⟩)
    go_ret
    exact HFin.out _ rfl
  · rw [hs] at c8
    go_enter Try.func19, Try.ntmps19
    go_wp2_with (go_at_call 50; refine (none_yes _ B a HH.out HM.out).mono ?_; rintro e w' ⟨rfl, rfl⟩)
    go_ret
    exact HFin.out _ rfl
  · rw [hs] at c8
    rw [hm] at c10
    go_enter Try.func19, Try.ntmps19
    go_wp2_with (go_at_call 50; refine (none_yes _ B a HH.out HM.out).mono ?_; rintro e w' ⟨rfl, rfl⟩)
    go_ret
    exact HFin.out _ rfl

def TickOut (w : World) (B : Nat) (a : Adj) (l : List Od.Hd) (e : Ending) (w' : World) : Prop :=
  ∃ v hv, e = .returned v ∧ w'.ownsRow w.heap.size 40 7 v 1 (Raw.cells ⟨true, a.smtu, a.sopts, a.sflags, a.sseq, hv, .slice none 0 0⟩) ∧ w'.ownsRow w.heap.size 59 8 hv l.length (l.flatMap hcells) ∧
    AdjAt w' B { a with timer := a.rxmt } ∧ Frame (fun j => j = B) w w'

set_option maxHeartbeats 1000000 in
set_option maxRecDepth 20000 in
theorem tick_out (w : World) (B : Nat) (a : Adj) (l : List Od.Hd) (h : AdjAt w B a) (hm : a.made = true) (hs : a.state = 0 ∨ a.state = 1 ∧ a.master = true) (ht : a.timer = 1) (hl : HeadsIn w a.sheads l) (hn : l.length ≤ 65536) (hrx : 0 ≤ a.rxmt ∧ a.rxmt < 65536) :
    Calls Try.prog 19 #[.pointer (some ⟨B, 0, none⟩)] w fun e w' => TickOut w B a l e w' := by
  have c5 : w.cell? ⟨B, 5, none⟩ = some (.int .u16 a.rxmt) := h.cell 5
  have c8 : w.cell? ⟨B, 8, none⟩ = some (.int .u8 a.state) := h.cell 8
  have c10 : w.cell? ⟨B, 10, none⟩ = some (.bool a.master) := h.cell 10
  have c24 : w.cell? ⟨B, 24, none⟩ = some (.int .u32 1) := (h.cell 24).trans (by rw [← ht]; rfl)
  have f := h.frozen
  have hlt := h.lt
  obtain ⟨hr0, hr1⟩ := hrx
  have hA2 : AdjAt ((w.setCell ⟨B, 24, none⟩ (.int .u32 0)).setCell ⟨B, 24, none⟩ (.int .u32 a.rxmt)) B { a with timer := a.rxmt } := (h.set_ 24 _).set_ 24 _
  have hF2 : Frame (fun j => j = B) w ((w.setCell ⟨B, 24, none⟩ (.int .u32 0)).setCell ⟨B, 24, none⟩ (.int .u32 a.rxmt)) := ((Frame.refl _ w).setB 24 _).setB 24 _
  have hl2 := hl.frame hF2 (NoHeads.blk h (by decide))
  have HOut := Lib.hid (out_any _ B { a with timer := a.rxmt } l hA2 hl2.1 hn)
  have HH := Lib.hid h
  have HM := Lib.hid hm
  have HF2 := Lib.hid hF2
  have HA2 := Lib.hid hA2
  clear h hm ht hl hA2 hF2 hl2
  rcases hs with hs | ⟨hs, hm⟩
  all_goals
    rw [hs] at c8
    try rw [hm] at c10
    go_enter Try.func19, Try.ntmps19
    go_wp2_with (go_at_call 50; refine (none_yes _ B a HH.out HM.out).mono ?_; rintro e w' ⟨rfl, rfl⟩)
    refine HOut.out.mono ?_
    rintro e w2 ⟨hv, rfl, hb2, ho2⟩
    have HB2 := Lib.hid hb2
    obtain ⟨Ah, ch, rfl⟩ := own_slice ho2
    have HO2 := Lib.hid ho2
    clear hb2 ho2
    unfold outval
    go_wp2_with fail
    go_ret
    have hF3 : Frame (fun _ => False) w2 (w2.alloc (.cells #[.bool true, .int .u16 a.smtu, .int .u8 a.sopts, .int .u8 a.sflags, .int .u32 a.sseq, .slice Ah l.length ch, .slice none 0 0] 40)) := (Frame.refl _ w2).alloc _
    have hsz2 : w.heap.size ≤ w2.heap.size := by have := HB2.out.size; simpa [World.setCell] using this
    refine ⟨_, .slice Ah l.length ch, rfl, World.ownsRow_lit (base := w.heap.size) (e := 40) (size := 7) w2 #[.bool true, .int .u16 a.smtu, .int .u8 a.sopts, .int .u8 a.sflags, .int .u32 a.sseq, .slice Ah l.length ch, .slice none 0 0] 1 hsz2 (by simp [maxLen]) rfl, own_base (hF3.own HO2.out (fun _ _ e => e)) (by simp [World.setCell]), (HA2.out.below HB2.out HA2.out.lt).alloc _, (HF2.out.trans (Frame.of_below HB2.out)).alloc _⟩

def TickReq (w : World) (B : Nat) (a : Adj) (O : List Od.Ky) (e : Ending) (w' : World) : Prop :=
  ∃ v kv av, e = .returned v ∧ w'.ownsRow w.heap.size 40 7 v 1 (Raw.cells ⟨false, 0, 0, 0, 0, .slice none 0 0, kv⟩) ∧ KeysOwn w' w.heap.size kv (O.take 16) ∧ KeysOwn w' w.heap.size av (O.take 16) ∧
    AdjAt w' B (a.requested av) ∧ Frame (fun j => j = B) w w'

set_option maxHeartbeats 1000000 in
set_option maxRecDepth 20000 in
theorem tick_req (w : World) (B : Nat) (a : Adj) (O : List Od.Ky) (h : AdjAt w B a) (hm : a.made = true) (hs : a.state = 2) (ht : a.timer = 1) (ho : KeysOwn w 0 a.order O) (hn : O.length ≤ 65536) (hrx : 0 ≤ a.rxmt ∧ a.rxmt < 65536) :
    Calls Try.prog 19 #[.pointer (some ⟨B, 0, none⟩)] w fun e w' => TickReq w B a O e w' := by
  have c5 : w.cell? ⟨B, 5, none⟩ = some (.int .u16 a.rxmt) := h.cell 5
  have c8 : w.cell? ⟨B, 8, none⟩ = some (.int .u8 2) := (h.cell 8).trans (by rw [← hs]; rfl)
  have c24 : w.cell? ⟨B, 24, none⟩ = some (.int .u32 1) := (h.cell 24).trans (by rw [← ht]; rfl)
  have f := h.frozen
  have hlt := h.lt
  have hrx2 := hrx
  obtain ⟨hr0, hr1⟩ := hrx
  have hA2 : AdjAt ((w.setCell ⟨B, 24, none⟩ (.int .u32 0)).setCell ⟨B, 24, none⟩ (.int .u32 a.rxmt)) B { a with timer := a.rxmt } := (h.set_ 24 _).set_ 24 _
  have hF2 : Frame (fun j => j = B) w ((w.setCell ⟨B, 24, none⟩ (.int .u32 0)).setCell ⟨B, 24, none⟩ (.int .u32 a.rxmt)) := ((Frame.refl _ w).setB 24 _).setB 24 _
  have ho2 := hF2.own ho (fun g hg e => own_blk_ne ho h (by decide) (by rw [hg, e]))
  have hq : Calls Try.prog 54 #[.pointer (some ⟨B, 0, none⟩)] ((w.setCell ⟨B, 24, none⟩ (.int .u32 0)).setCell ⟨B, 24, none⟩ (.int .u32 a.rxmt)) fun e w' => ∃ kv av, e = .returned (outval false 0 0 0 0 (.slice none 0 0) kv) ∧ AdjAt w' B (a.requested av) ∧ KeysOwn w' ((w.setCell ⟨B, 24, none⟩ (.int .u32 0)).setCell ⟨B, 24, none⟩ (.int .u32 a.rxmt)).heap.size av (O.take 16) ∧ KeysOwn w' ((w.setCell ⟨B, 24, none⟩ (.int .u32 0)).setCell ⟨B, 24, none⟩ (.int .u32 a.rxmt)).heap.size kv (O.take 16) ∧ (av.ownBlock = none ∨ av.ownBlock ≠ kv.ownBlock) ∧ Frame (fun k => k = B) ((w.setCell ⟨B, 24, none⟩ (.int .u32 0)).setCell ⟨B, 24, none⟩ (.int .u32 a.rxmt)) w' := request_any _ B { a with timer := a.rxmt } O hA2 ho2 hn hrx2
  have HReq := Lib.hid hq
  have HH := Lib.hid h
  have HM := Lib.hid hm
  have HF2 := Lib.hid hF2
  clear h hm hs ht ho hA2 hF2 ho2 hq hn hrx2
  go_enter Try.func19, Try.ntmps19
  go_wp2_with (go_at_call 50; refine (none_yes _ B a HH.out HM.out).mono ?_; rintro e w' ⟨rfl, rfl⟩)
  refine HReq.out.mono ?_
  rintro e w2 ⟨kv, av, rfl, hA2, hav, hkv, -, hf2⟩
  obtain ⟨Ak, ck, rfl⟩ := own_slice hkv
  obtain ⟨nk, hnk⟩ : ∃ nk, (O.take 16).length = nk := ⟨_, rfl⟩
  rw [hnk] at hkv
  have HA2 := Lib.hid hA2
  have Hav := Lib.hid hav
  have Hkv := Lib.hid hkv
  have Hf2 := Lib.hid hf2
  rw [hnk]
  clear hA2 hav hkv hf2 hnk
  unfold outval
  go_wp2_with fail
  go_ret
  have hF3 : Frame (fun _ => False) w2 (w2.alloc (.cells #[.bool false, .int .u16 0, .int .u8 0, .int .u8 0, .int .u32 0, .slice none 0 0, .slice Ak nk ck] 40)) := (Frame.refl _ w2).alloc _
  have hsz2 : w.heap.size ≤ w2.heap.size := by have := Hf2.out.size; simpa [World.setCell] using this
  refine ⟨_, .slice Ak nk ck, av, rfl, World.ownsRow_lit (base := w.heap.size) (e := 40) (size := 7) w2 #[.bool false, .int .u16 0, .int .u8 0, .int .u8 0, .int .u32 0, .slice none 0 0, .slice Ak nk ck] 1 hsz2 (by simp [maxLen]) rfl, ?_, ?_, HA2.out.alloc _, (HF2.out.trans Hf2.out).alloc _⟩
  · exact own_base (hF3.own Hkv.out (fun _ _ e => e)) (by simp [World.setCell])
  · exact own_base (hF3.own Hav.out (fun _ _ e => e)) (by simp [World.setCell])
end Go.Proofs.Ytgbmhijgpdgdbaa
