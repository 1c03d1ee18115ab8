/- The frame of a step of an adjacency; its first description. -/
import Derived.Test.YtgbmhijgpdgdbaaOut
namespace Go.Proofs.Ytgbmhijgpdgdbaa
open Go.RowKit

/-- Of the old blocks only those of S have turned. -/
structure Frame (S : Nat → Prop) (w w' : World) : Prop where
  os : w'.os = w.os
  tape : w'.tape = w.tape
  output : w'.output = w.output
  size : w.heap.size ≤ w'.heap.size
  block : ∀ k, k < w.heap.size → ¬ S k → w'.heap[k]? = w.heap[k]?

section
variable {S T : Nat → Prop} {w w' w'' : World}
theorem Frame.refl (S : Nat → Prop) (w : World) : Frame S w w := ⟨rfl, rfl, rfl, Nat.le_refl _, fun _ _ _ => rfl⟩
theorem Frame.trans (h : Frame S w w') (k : Frame S w' w'') : Frame S w w'' :=
  ⟨k.os.trans h.os, k.tape.trans h.tape, k.output.trans h.output, Nat.le_trans h.size k.size, fun i hi hS => (k.block i (by have := h.size; omega) hS).trans (h.block i hi hS)⟩
/-- What is written of new blocks does not count. -/
theorem Frame.trans' (h : Frame S w w') (k : Frame T w' w'') (hT : ∀ i, i < w.heap.size → T i → S i) : Frame S w w'' :=
  ⟨k.os.trans h.os, k.tape.trans h.tape, k.output.trans h.output, Nat.le_trans h.size k.size, fun i hi hS => (k.block i (by have := h.size; omega) (fun e => hS (hT i hi e))).trans (h.block i hi hS)⟩
theorem Frame.mono (h : Frame S w w') (hS : ∀ i, S i → T i) : Frame T w w' := ⟨h.os, h.tape, h.output, h.size, fun i hi hT => h.block i hi (fun e => hT (hS i e))⟩
theorem Frame.of_below (h : Below w.heap.size w w') : Frame S w w' := ⟨h.os, h.tape, h.output, h.size, fun i hi _ => h.block i hi⟩
theorem Frame.of_grown {row : Option Nat} (h : w.grownBy w' row) (hr : ∀ k, row = some k → k < w.heap.size → S k) : Frame S w w' :=
  ⟨h.os, h.tape, h.output, h.size, fun i hi hS => h.block i hi (fun e => hS (hr i e.symm hi))⟩
theorem Frame.setCell (h : Frame S w w') {p : Addr} (hp : p.block < w.heap.size → S p.block) (u : Value) : Frame S w (w'.setCell p u) :=
  ⟨h.os, h.tape, h.output, by have := h.size; simpa [World.setCell] using this, fun i hi hS => (Below.heap_setCell w' p u i (fun e => hS (by subst e; exact hp hi))).trans (h.block i hi hS)⟩
theorem Frame.alloc (h : Frame S w w') (o : Obj) : Frame S w (w'.alloc o) := h.trans' (Frame.of_below (S := S) ((Below.refl _ w').alloc (Nat.le_refl _) o)) fun _ _ e => e
theorem Frame.drew (h : Frame S w w') : Frame S w w'.drew := ⟨h.os, h.tape, h.output, h.size, h.block⟩
theorem Frame.drewN (h : Frame S w w') (n : Nat) : Frame S w (w'.drewN n) := ⟨h.os, h.tape, h.output, h.size, h.block⟩
theorem Frame.blk {g : Nat} {t : TypeId} {cs : Array Value} (h : Frame S w w') (hb : Blk w g t cs) (hS : ¬ S g) : Blk w' g t cs := (h.block g hb.lt hS).trans hb
theorem Frame.reads {B size n : Nat} {A : Option Addr} {xs : List Value} (h : Frame S w w') (hr : Reads w B size A n xs) (hB : B ≤ w.heap.size) (hS : ∀ ad, A = some ad → ¬ S ad.block) : Reads w' B size A n xs :=
  ⟨hr.1, fun hn => by
    obtain ⟨ad, e, hb, hc⟩ := hr.2 hn
    exact ⟨ad, e, hb, fun j u hu => (World.cell?_of_block (h.block (ad.add j).block (by rw [block_of_add]; omega) (by rw [block_of_add]; exact hS ad e))).trans (hc j u hu)⟩⟩
theorem Frame.own {base : Nat} {e : TypeId} {size n : Nat} {v : Value} {xs : List Value} (h : Frame S w w') (hr : w.ownsRow base e size v n xs) (hS : ∀ g, v.ownBlock = some g → ¬ S g) : w'.ownsRow base e size v n xs := by
  obtain ⟨h1, h2⟩ := hr
  refine ⟨h1, ?_⟩
  rcases h2 with h2 | ⟨g, cap, cur, rfl, hg, hh, r⟩
  · exact .inl h2
  · exact .inr ⟨g, cap, cur, rfl, hg, (h.block g (Array.getElem?_eq_some_iff.1 hh).1 (hS g rfl)).trans hh, r⟩
theorem Frame.map {α : Type} {f : α → Value} {b : Nat} {M : Od.Ky → Option α} (h : Frame S w w') (hm : MapIs f w b M) (hS : ¬ S b) : MapIs f w' b M := hm.keep (h.block b hm.lt hS)
theorem Frame.heads {v : Value} {l : List Od.Hd} (h : Frame S w w') (hr : HeadsAt w w.heap.size v l) (hS : ∀ g, v.ownBlock = some g → ¬ S g) : HeadsAt w' w'.heap.size v l := by
  obtain ⟨A, n, c, rfl, h1, h2, h3⟩ := hr
  exact ⟨A, n, c, rfl, h1, h2, (h.reads h3 (Nat.le_refl _) (fun ad e => hS _ (by rw [e]; rfl))).more h.size⟩
end

theorem Frame.setB {B : Nat} {w w' : World} (h : Frame (fun k => k = B) w w') (i : Nat) (u : Value) : Frame (fun k => k = B) w (w'.setCell ⟨B, i, none⟩ u) := h.setCell (fun _ => rfl) u

theorem headsNil (w : World) (B : Nat) : HeadsAt w B (.slice none 0 0) [] := ⟨none, 0, 0, rfl, Nat.le_refl _, rfl, Reads.none_⟩

/-- A message as seven cells. -/
structure Raw where
  d : Bool
  mtu : Int
  opts : Int
  flags : Int
  seq : Int
  hv : Value
  kv : Value
def Raw.cells (r : Raw) : List Value := [.bool r.d, .int .u16 r.mtu, .int .u8 r.opts, .int .u8 r.flags, .int .u32 r.seq, r.hv, r.kv]
/-- The message of a description as it was sent. -/
def Adj.raw (a : Adj) (hv : Value) : Raw := ⟨true, a.smtu, a.sopts, a.sflags, a.sseq, hv, .slice none 0 0⟩

/-- One description of its own, in a row of its own. -/
def OneDesc (a : Adj) (l : List Od.Hd) (lo : Nat) (w' : World) (v : Value) : Prop :=
  ∃ hv, w'.ownsRow lo 40 7 v 1 (a.raw hv).cells ∧ w'.ownsRow lo 59 8 hv l.length (l.flatMap hcells)

def Adj.firsted (a : Adj) : Adj := { a with smtu := a.mtu, sopts := a.opts, sflags := 7, sseq := a.seq, sheads := .slice none 0 0, timer := a.rxmt }

def FirstPost (B : Nat) (a : Adj) (w : World) (e : Ending) (w' : World) : Prop :=
  ∃ v, e = .returned v ∧ AdjAt w' B a.firsted ∧ Frame (· = B) w w' ∧ OneDesc a.firsted [] w.heap.size w' v

set_option maxHeartbeats 1000000 in
set_option maxRecDepth 20000 in
theorem first_any (w : World) (B : Nat) (a : Adj) (h : AdjAt w B a) (hrx : 0 ≤ a.rxmt ∧ a.rxmt < 65536) :
    Calls Try.prog 49 #[.pointer (some ⟨B, 0, none⟩)] w fun e w' => FirstPost B a w e w' := by
  have hBlt := h.lt
  have f := h.frozen
  have c3 : w.cell? ⟨B, 3, none⟩ = some (.int .u16 a.mtu) := h.cell 3
  have c4 : w.cell? ⟨B, 4, none⟩ = some (.int .u8 a.opts) := h.cell 4
  have c5 : w.cell? ⟨B, 5, none⟩ = some (.int .u16 a.rxmt) := h.cell 5
  have c9 : w.cell? ⟨B, 9, none⟩ = some (.int .u32 a.seq) := h.cell 9
  have c12 : w.cell? ⟨B, 12, none⟩ = some (.int .u16 a.smtu) := h.cell 12
  have c13 : w.cell? ⟨B, 13, none⟩ = some (.int .u8 a.sopts) := h.cell 13
  have c14 : w.cell? ⟨B, 14, none⟩ = some (.int .u8 a.sflags) := h.cell 14
  have c15 : w.cell? ⟨B, 15, none⟩ = some (.int .u32 a.sseq) := h.cell 15
  have c16 : w.cell? ⟨B, 16, none⟩ = some a.sheads := h.cell 16
  have c24 : w.cell? ⟨B, 24, none⟩ = some (.int .u32 a.timer) := h.cell 24
  have H := Lib.hid h
  obtain ⟨hx0, hx1⟩ := hrx
  clear h
  go_enter Try.func49, Try.ntmps49
  go_wp2_with fail
  go_region
  go_wp2_with fail
  have hA : AdjAt ((((((w.setCell ⟨B, 12, none⟩ (.int .u16 a.mtu)).setCell ⟨B, 13, none⟩ (.int .u8 a.opts)).setCell ⟨B, 14, none⟩ (.int .u8 7)).setCell ⟨B, 15, none⟩ (.int .u32 a.seq)).setCell ⟨B, 16, none⟩ (.slice none 0 0)).setCell ⟨B, 24, none⟩ (.int .u32 a.rxmt)).drew B a.firsted :=
    ((((((H.out.set_ 12 _).set_ 13 _).set_ 14 _).set_ 15 _).set_ 16 _).set_ 24 _).drew
  have hF : Frame (· = B) w ((((((w.setCell ⟨B, 12, none⟩ (.int .u16 a.mtu)).setCell ⟨B, 13, none⟩ (.int .u8 a.opts)).setCell ⟨B, 14, none⟩ (.int .u8 7)).setCell ⟨B, 15, none⟩ (.int .u32 a.seq)).setCell ⟨B, 16, none⟩ (.slice none 0 0)).setCell ⟨B, 24, none⟩ (.int .u32 a.rxmt)).drew :=
    (((((((Frame.refl _ w).setB 12 _).setB 13 _).setB 14 _).setB 15 _).setB 16 _).setB 24 _).drew
  refine (out_any _ B a.firsted [] hA (headsNil _ _) (by simp)).mono ?_
  have HA := Lib.hid hA
  have HF := Lib.hid hF
  clear hA hF
  rintro e w2 ⟨hv, rfl, hb2, ho2⟩
  have hA2 := HA.out.below hb2 HA.out.lt
  have hF2 := HF.out.trans (Frame.of_below hb2)
  have HO := Lib.hid (Frame.own (S := fun _ => False) (Frame.of_below ((Below.refl _ w2).alloc (Nat.le_refl _) (.cells (a.firsted.raw hv).cells.toArray 40))) ho2 (fun _ _ e => e))
  have HL := Lib.hid (World.ownsRow_lit (base := w.heap.size) (e := 40) (size := 7) w2 (a.firsted.raw hv).cells.toArray 1 hF2.size (by simp [maxLen]) rfl)
  have HA2 := Lib.hid (hA2.alloc (.cells (a.firsted.raw hv).cells.toArray 40))
  have HF2 := Lib.hid (hF2.alloc (.cells (a.firsted.raw hv).cells.toArray 40))
  have HS := Lib.hid HF.out.size
  clear hA2 hF2 ho2 hb2
  unfold outval
  go_wp2_with fail
  go_ret
  refine ⟨_, rfl, HA2.out, HF2.out, hv, HL.out, ?_⟩
  obtain ⟨q1, q2⟩ := HO.out
  refine ⟨q1, ?_⟩
  rcases q2 with q2 | ⟨g, cap, cur, q3, q4, q5⟩
  · exact .inl q2
  · exact .inr ⟨g, cap, cur, q3, by have := HS.out; omega, q5⟩
end Go.Proofs.Ytgbmhijgpdgdbaa
