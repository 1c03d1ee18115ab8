/- The next description: one of four cases. -/
import Derived.Test.YtgbmhijgpdgdbaaFaDescTop
namespace Go.Proofs.Ytgbmhijgpdgdbaa
open Go.RowKit

set_option maxHeartbeats 2000000 in
set_option maxRecDepth 20000 in
theorem describe_mb (w : World) (B : Nat) (a : Adj) (L : List Od.Hd) (h : AdjAt w B a) (hl : HeadsIn w a.left L) (hn : L.length ≤ 65536) (hrx : 0 ≤ a.rxmt ∧ a.rxmt < 65536) (hm : a.master = true) (hg : 16 < L.length) :
    Calls Try.prog 126 #[.pointer (some ⟨B, 0, none⟩)] w fun e w' => DescPost B a L w e w' := by
  have hl0 := hl
  obtain ⟨⟨A, n, c, ev, hnc, hlen, hr⟩, htyp⟩ := hl
  have hBlt := h.lt
  have f := h.frozen
  have c3 : w.cell? ⟨B, 3, none⟩ = some (.int .u16 a.mtu) := h.cell 3
  have c4 : w.cell? ⟨B, 4, none⟩ = some (.int .u8 a.opts) := h.cell 4
  have c5 : w.cell? ⟨B, 5, none⟩ = some (.int .u16 a.rxmt) := h.cell 5
  have c9 : w.cell? ⟨B, 9, none⟩ = some (.int .u32 a.seq) := h.cell 9
  have c10 : w.cell? ⟨B, 10, none⟩ = some (.bool true) := (h.cell 10).trans (by rw [← hm]; rfl)
  have c11 : w.cell? ⟨B, 11, none⟩ = some (.slice A n c) := (h.cell 11).trans (congrArg some ev)
  have c12 : w.cell? ⟨B, 12, none⟩ = some (.int .u16 a.smtu) := h.cell 12
  have c13 : w.cell? ⟨B, 13, none⟩ = some (.int .u8 a.sopts) := h.cell 13
  have c14 : w.cell? ⟨B, 14, none⟩ = some (.int .u8 a.sflags) := h.cell 14
  have c15 : w.cell? ⟨B, 15, none⟩ = some (.int .u32 a.sseq) := h.cell 15
  have c16 : w.cell? ⟨B, 16, none⟩ = some a.sheads := h.cell 16
  have c24 : w.cell? ⟨B, 24, none⟩ = some (.int .u32 a.timer) := h.cell 24
  rw [ev] at hl0
  have hn16 : (16 : Int) < (n : Int) := by omega
  have hd := Lib.hid (hl0.drop (k := 16) (by omega))
  have hcc : (if c = 16 then A else A.map (·.add (16 * 8))) = Option.map (fun x => (⟨x.block, x.off + 128, none⟩ : Addr)) A := by
    rw [if_neg (by omega)]; cases A <;> simp [Addr.add]
  rw [hcc] at hd
  have ht := Lib.hid (hl0.take (k := 16) (by omega))
  have Hfl : Hid (dflags a.master L = 3) := Lib.hid (by rw [hm]; simp [dflags, hg])
  have Hs1 : Hid (SubBlk (.slice (Option.map (fun x => (⟨x.block, x.off + 128, none⟩ : Addr)) A) (n - 16) (c - 16)) a.left) := Lib.hid (by rw [ev]; exact sub_128 A n c _ _)
  have Hs2 : Hid (SubBlk (.slice A 16 16) a.left) := Lib.hid (by rw [ev]; exact sub_take A n c 16 16)
  have Hlen := Lib.hid hlen
  have H := Lib.hid h
  have HB := Lib.hid hBlt
  have hsz : (0 : Int) < ((n - 16 : Nat) : Int) := by omega
  obtain ⟨hx0, hx1⟩ := hrx
  clear h hlen hr htyp hl0 ev hcc hn hm
  go_enter Try.func126, Try.ntmps126
  go_wp2_with fail
  go_region
  go_wp2_with fail
  go_region
  go_wp2_with fail
  have HF : Hid (Frame (fun k => k = B) w (((((((w.setCell ⟨B, 11, none⟩ (.slice (Option.map (fun x => (⟨x.block, x.off + 128, none⟩ : Addr)) A) (n - 16) (c - 16))).setCell ⟨B, 12, none⟩ (.int .u16 a.mtu)).setCell ⟨B, 13, none⟩ (.int .u8 a.opts)).setCell ⟨B, 14, none⟩ (.int .u8 3)).setCell ⟨B, 15, none⟩ (.int .u32 a.seq)).setCell ⟨B, 16, none⟩ (.slice A 16 16)).setCell ⟨B, 24, none⟩ (.int .u32 a.rxmt))) := Lib.hid (((((((((Frame.refl _ w).setB 11 _).setB 12 _).setB 13 _).setB 14 _).setB 15 _).setB 16 _).setB 24 _))
  refine (out_from _ w B (a.described 3 (.slice (Option.map (fun x => (⟨x.block, x.off + 128, none⟩ : Addr)) A) (n - 16) (c - 16)) (.slice A 16 16)) (L.take 16) (L.drop 16) ?hA ?hl ?hl2 ?hn ?hF ?hO).mono ?_
  case hA => exact (((((((((((H.out.set_ 11 _).set_ 12 _).set_ 13 _).set_ 14 _).set_ 15 _).set_ 16 _).set_ 24 _).alloc _).alloc _).drew).drew)
  case hl => exact ht.out.frame ((((HF.out.alloc _).alloc _).drew).drew) (NoHeads.blk H.out (by decide))
  case hl2 => exact hd.out.frame ((((HF.out.alloc _).alloc _).drew).drew) (NoHeads.blk H.out (by decide))
  case hn => rw [List.length_take]; omega
  case hF => exact ((((HF.out.alloc _).alloc _).drew).drew)
  case hO => exact Blk.drew (Blk.drew (Blk.alloc (blk_new_at (by simp [World.setCell])) _))
  rintro e w2 ⟨hv, rfl, hA2, h2, h1, hF2, hO2, hw2⟩
  have f0 := hO2.frozen
  have g0 : w2.cell? ⟨w.heap.size, 0, none⟩ = some (.bool false) := hO2.cell 0
  have g1 : w2.cell? ⟨w.heap.size, 1, none⟩ = some (.int .u16 0) := hO2.cell 1
  have g2 : w2.cell? ⟨w.heap.size, 2, none⟩ = some (.int .u8 0) := hO2.cell 2
  have g3 : w2.cell? ⟨w.heap.size, 3, none⟩ = some (.int .u8 0) := hO2.cell 3
  have g4 : w2.cell? ⟨w.heap.size, 4, none⟩ = some (.int .u32 0) := hO2.cell 4
  have g5 : w2.cell? ⟨w.heap.size, 5, none⟩ = some (.slice none 0 0) := hO2.cell 5
  have g6 : w2.cell? ⟨w.heap.size, 6, none⟩ = some (.slice none 0 0) := hO2.cell 6
  obtain ⟨A3, c3', hv3⟩ := own_slice hw2
  subst hv3
  have PP := Lib.hid (fun w3 h3 => desc_post w w2 w3 B a L _ _ _ _ Hfl.out HB.out hA2 h2 h1 hF2 hO2 hw2 h3 Hs1.out Hs2.out)
  have HL2 := Lib.hid hO2.lt
  clear hA2 h2 h1 hF2 hO2 hw2 HF H hd ht Hfl
  clear f c3 c4 c5 c9 c10 c11 c12 c13 c14 c15 c16 c24
  unfold outval Adj.described
  go_wp2_with fail
  refine bodyPost_ret (v := outval true a.mtu a.opts 3 a.seq (.slice A3 _ c3') (.slice none 0 0)) (by simp [results, Try.results126, go_sem, g0, g1, g2, g3, g4, g5, g6, outval] <;> omega) rfl (PP.out _ ?_)
  exact (((((((Frame.refl _ w2).setB 0 _).setB 1 _).setB 2 _).setB 3 _).setB 4 _).setB 5 _).setB 6 _
end Go.Proofs.Ytgbmhijgpdgdbaa
