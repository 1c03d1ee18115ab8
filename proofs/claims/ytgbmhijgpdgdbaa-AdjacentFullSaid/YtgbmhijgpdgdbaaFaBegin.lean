/- A description that is taken in Start, by the lesser one. -/
import Derived.Test.YtgbmhijgpdgdbaaFaTake
import Derived.Test.YtgbmhijgpdgdbaaFaDup
import Derived.Deep.RegionLaw
namespace Go.Proofs.Ytgbmhijgpdgdbaa
open Go.RowKit

set_option maxHeartbeats 1000000 in
set_option maxRecDepth 20000 in
theorem begin_slave (w : World) (B m : Nat) (a : Adj) (M : Od.Ky → Option Od.Hd) (mtu opts flags seq : Int) (hv ow : Value) (own : List Od.Hd)
    (h : Wants w B m a [] M) (hp : HeadsIn w hv []) (how : HeadsIn w ow own) (hoko : ∀ x ∈ own, HdOk x) (hyoung : ∀ x ∈ own, Od.old x.g = false)
    (hnown : own.length ≤ 65535) (hrx : 0 ≤ a.rxmt ∧ a.rxmt < 65536) (hlt : a.self < a.other) (hty : a.types = 65535) (h7 : (flags == 7) = true) (h5 : (bits .and .u8 flags 5 == 0) = false) :
    Calls Try.prog 52 #[.pointer (some ⟨B, 0, none⟩), ddval mtu opts flags seq hv, ow] w fun e w' =>
      ∃ v, e = .returned (.tuple #[v, .int .i64 0]) ∧ SlaveV w B m { a with master := false, state := 1 } [] M opts flags seq own v w' := by
  obtain ⟨Ap, np, cp, ep, hncp, hlenp, hrp⟩ := hp.1
  obtain ⟨Ao, no, co, eo, hnco, hleno, hro⟩ := how.1
  subst ep eo
  have hnp : np = 0 := hlenp.symm
  subst hnp
  obtain ⟨i0, hi, hz0, hz1, hz2⟩ := info_parts head_info
  have hBlt := h.adj.lt
  have f := h.adj.frozen
  have c1 : w.cell? ⟨B, 1, none⟩ = some (.int .u32 a.self) := h.adj.cell 1
  have c2 : w.cell? ⟨B, 2, none⟩ = some (.int .u32 a.other) := h.adj.cell 2
  have c9 : w.cell? ⟨B, 9, none⟩ = some (.int .u32 a.seq) := h.adj.cell 9
  have hgt : decide (a.self < a.other) = true := by simpa using hlt
  have HW := Lib.hid h
  have HP := Lib.hid hp
  have HOw := Lib.hid how
  have Hleno := Lib.hid hleno
  have HRo := Lib.hid hro
  have Hoko := Lib.hid hoko
  have Hyoung := Lib.hid hyoung
  have Hty := Lib.hid hty
  have hno : no ≤ 65535 := by omega
  obtain ⟨hx0, hx1⟩ := hrx
  clear h hp how hlenp hleno hro hrp hoko hnown hyoung hty hlt
  unfold ddval
  go_enter Try.func52, Try.ntmps52
  go_wp2_with fail
  go_quiet (fail)
  go_wp2_with fail
  go_quiet (fail)
  go_wp2_with fail
  have hbA : Below w.heap.size w ((w.alloc (.cells #[.int .u16 mtu, .int .u8 opts, .int .u8 flags, .int .u32 seq, .slice Ap 0 cp] 28))) := (Below.refl _ w).alloc (Nat.le_refl _) _
  refine (types_any _ B a mtu opts flags seq (.slice Ap 0 cp) [] ((HW.out.adj.alloc _).drewN _) (HP.out.below (below_drewN hbA _)) Hty.out (by simp) (by simp)).mono ?_
  rintro e w1 ⟨rfl, hb1⟩
  have hb01 : Below w.heap.size w w1 := (below_drewN hbA _).trans (hb1.mono (by simp [World.drewN]))
  have kA1 := HW.out.adj.below hb01 hBlt
  have kD1 : Blk w1 w.heap.size 28 #[.int .u16 mtu, .int .u8 opts, .int .u8 flags, .int .u32 seq, .slice Ap 0 cp] := ((Blk.new w _ _).drewN _).below hb1 (by simp [World.drewN])
  have f1 := kA1.frozen
  have b8 : w1.cell? ⟨B, 8, none⟩ = some (.int .u8 a.state) := kA1.cell 8
  have b10 : w1.cell? ⟨B, 10, none⟩ = some (.bool a.master) := kA1.cell 10
  have b11 : w1.cell? ⟨B, 11, none⟩ = some a.left := kA1.cell 11
  have HA1 := Lib.hid kA1
  have HD1 := Lib.hid kD1
  have HB1 := Lib.hid hb01
  clear hb1 hb01 kA1 kD1 hbA f c1 c2 c9
  go_wp2_with fail
  have hB1 : Hid (B ≠ w.heap.size) := Lib.hid (by omega)
  go_loopw [86] (fun i wr => ∃ (k : Nat) (lv : Value), k ≤ no ∧ i = .int .i64 k ∧ Hid (AdjAt wr B { a with master := false, state := 1, left := lv }) ∧ Hid (wr.ownsRow w.heap.size 59 8 lv k ((own.take k).flatMap hcells)) ∧ Hid (Frame (fun j => j = B) w wr) ∧
      Hid (Blk wr w.heap.size 28 #[.int .u16 mtu, .int .u8 opts, .int .u8 flags, .int .u32 seq, .slice Ap 0 cp]))
    (fun i _ => no - (intOf i).toNat)
  case atStart =>
    refine ⟨0, .slice none 0 0, Nat.zero_le _, rfl, Lib.hid (((HA1.out.set_ 10 (.bool false)).set_ 8 (.int .u8 1)).set_ 11 (.slice none 0 0)), Lib.hid (World.ownsRow_nil _ _ _ _), Lib.hid ((((Frame.of_below HB1.out).setB 10 _).setB 8 _).setB 11 _), Lib.hid (((HD1.out.far (p := ⟨B, 10, none⟩) (fun e => hB1.out e.symm) _).far (p := ⟨B, 8, none⟩) (fun e => hB1.out e.symm) _).far (p := ⟨B, 11, none⟩) (fun e => hB1.out e.symm) _)⟩
  case round =>
    clear b8 b10 b11 f1
    obtain ⟨k, lv, hk, rfl, HA, HR, HF, HD⟩ := hrel
    by_cases hlt : k < no
    · obtain ⟨x, hx⟩ : ∃ x, own[k]? = some x := ⟨_, List.getElem?_eq_getElem (by have := Hleno.out; omega)⟩
      have hxo := Hoko.out x (List.mem_of_getElem? hx)
      have hxy := Hyoung.out x (List.mem_of_getElem? hx)
      obtain ⟨⟨A', n', c', e', -, -, hrw⟩, -⟩ := HOw.out.frame HF.out (NoHeads.blk HW.out.adj (by decide))
      injection e' with e1 e2 e3
      subst e1 e2 e3
      obtain ⟨bl, off, hAo, hbl, hcell⟩ := hrw.head hx
      subst hAo
      obtain ⟨g, o, t, i, v, s, mm, l⟩ := x
      have hg0 : 0 ≤ g := hxo.g0
      have hg1 : g ≤ 65535 := by have := hxo.g1; show g ≤ 65535; change g < 65536 at this; omega
      have hog : Od.old g = false := hxy
      have d0 : wr.cell? ⟨bl, off + k * 8, none⟩ = some (.int .u16 g) := hcell 0 _ rfl
      have d1 := hcell 1 _ rfl
      have d2 := hcell 2 _ rfl
      have d3 := hcell 3 _ rfl
      have d4 := hcell 4 _ rfl
      have d5 := hcell 5 _ rfl
      have d6 := hcell 6 _ rfl
      have d7 := hcell 7 _ rfl
      obtain ⟨LA, Lc, rfl⟩ := own_slice HR.out
      have b11 : wr.cell? ⟨B, 11, none⟩ = some (.slice LA k Lc) := HA.out.cell 11
      have fB := HA.out.frozen
      have hBwr : B < wr.heap.size := HA.out.lt
      have Hx := Lib.hid hx
      have hkn : (k : Int) < (no : Int) := by omega
      clear hcell hrw hx hxo hxy
      go_wp2_with (go_at_call 91; refine (old_any _ _ hg0 hg1).mono ?_; rintro e w' ⟨rfl, rfl⟩)
      obtain ⟨W5, hW5⟩ : ∃ W5, W5 = wr.alloc (.cells #[.int .u16 g, .int .u8 o, .int .u8 t, .int .u32 i, .int .u32 v, .int .i32 s, .int .u16 mm, .int .u16 l] 59) := ⟨_, rfl⟩
      have kH5 : Blk W5 wr.heap.size 59 #[.int .u16 g, .int .u8 o, .int .u8 t, .int .u32 i, .int .u32 v, .int .i32 s, .int .u16 mm, .int .u16 l] := by rw [hW5]; exact Blk.new wr _ _
      have kA5 : AdjAt W5 B { a with master := false, state := 1, left := .slice LA k Lc } := by rw [hW5]; exact HA.out.alloc _
      have kR5 : W5.ownsRow w.heap.size 59 8 (.slice LA k Lc) k ((own.take k).flatMap hcells) := by rw [hW5]; exact HR.out.alloc _
      have kF5 : Frame (fun j => j = B) w W5 := by rw [hW5]; exact HF.out.alloc _
      have kD5 : Blk W5 w.heap.size 28 #[.int .u16 mtu, .int .u8 opts, .int .u8 flags, .int .u32 seq, .slice Ap 0 cp] := by rw [hW5]; exact HD.out.alloc _
      have c11 : W5.cell? ⟨B, 11, none⟩ = some (.slice LA k Lc) := kA5.cell 11
      have hBW5 : B < W5.heap.size := kA5.lt
      have z0 : W5.cell? ⟨wr.heap.size, 0, none⟩ = some (.int .u16 g) := kH5.cell 0
      have z1 : W5.cell? ⟨wr.heap.size, 1, none⟩ = some (.int .u8 o) := kH5.cell 1
      have z2 : W5.cell? ⟨wr.heap.size, 2, none⟩ = some (.int .u8 t) := kH5.cell 2
      have z3 : W5.cell? ⟨wr.heap.size, 3, none⟩ = some (.int .u32 i) := kH5.cell 3
      have z4 : W5.cell? ⟨wr.heap.size, 4, none⟩ = some (.int .u32 v) := kH5.cell 4
      have z5 : W5.cell? ⟨wr.heap.size, 5, none⟩ = some (.int .i32 s) := kH5.cell 5
      have z6 : W5.cell? ⟨wr.heap.size, 6, none⟩ = some (.int .u16 mm) := kH5.cell 6
      have z7 : W5.cell? ⟨wr.heap.size, 7, none⟩ = some (.int .u16 l) := kH5.cell 7
      have hwW5 : wr.heap.size < W5.heap.size := kH5.lt
      rw [← hW5]
      have h63 : k + 1 ≤ maxLen := by unfold maxLen; omega
      have hbytes : (k + 1) * 20 ≤ 140737488355328 := by omega
      have hbase5 : w.heap.size ≤ W5.heap.size := kF5.size
      have HK5 := Lib.hid kA5
      have HR5 := Lib.hid kR5
      have HF5 := Lib.hid kF5
      have HD5 := Lib.hid kD5
      have HN5 : Hid ((Value.slice LA k Lc).ownBlock ≠ some B) := Lib.hid (own_blk_ne kR5 kA5 (by decide))
      have HN6 : Hid ((Value.slice LA k Lc).ownBlock ≠ some w.heap.size) := Lib.hid (own_blk_ne kR5 kD5 (by decide))
      have HC11 : Hid (W5.cell? ⟨B, 11, none⟩ = some (.slice LA k Lc)) := Lib.hid c11
      clear hW5 kH5 kA5 kR5 kF5 kD5 d0 d1 d2 d3 d4 d5 d6 d7 b11 fB
      go_region_law (refine step_append_lies _ rfl (.tmp 98) (.tmp 100) _ rfl w.heap.size 59 i0 _ 8 20 Try.underlying22 hi hz0 hz1 hz2 rfl (by omega) (.slice LA k Lc) k ((own.take k).flatMap hcells) rfl ((HR5.out.alloc _).drew) ⟨W5.heap.size, 0, none⟩ 1 1 (hcells ⟨g, o, t, i, v, s, mm, l⟩) rfl rfl (World.news_of_block (cs := (hcells ⟨g, o, t, i, v, s, mm, l⟩).toArray) (t := 59) (fr := (0, 0)) (heap_alloc_new W5 _)) (by simp [hcells, Value.oneCell']) (by omega) h63 hbytes (by simp; omega) (W5.heap.size + 1) (by simp) ?_; intro gg cap w6 hown6 hg6 hat6 hlt6; have kB6 := ((HK5.out.alloc _).drew).grown hg6 (fun e => HN5.out e.symm); have b11 : w6.cell? ⟨B, 11, none⟩ = some (.slice LA k Lc) := kB6.cell 11; have fB6 := kB6.frozen; have K6 := Lib.hid kB6; have G6 := Lib.hid hg6; have O6 := Lib.hid hown6; clear kB6 hg6 hat6 hown6)
      all_goals
        go_wp2_with fail
        go_roundw
        case rel =>
          have hF56 : Frame (fun j => (Value.slice LA k Lc).ownBlock = some j) W5 w6 := (((Frame.refl _ W5).alloc _).drew).trans (Frame.of_grown G6.out (fun j e _ => e))
          have hF6 : Frame (fun j => j = B) w w6 := HF5.out.trans' hF56 (fun j hj e => by have := (HR5.out.lt j e).1; omega)
          refine ⟨k + 1, .slice (some ⟨gg, 0, none⟩) (k + 1) cap, by omega, by go_num, Lib.hid (K6.out.set_ 11 _), Lib.hid ?_, Lib.hid (hF6.setB 11 _), Lib.hid ((hF56.blk HD5.out HN6.out).far (p := ⟨B, 11, none⟩) (fun e => hB1.out e.symm) _)⟩
          rw [take_snoc Hx.out, List.flatMap_append]
          have := own_far O6.out (q := ⟨B, 11, none⟩) (own_blk_ne O6.out K6.out (by decide)) (.slice (some ⟨gg, 0, none⟩) (k + 1) cap)
          simpa using this
        case measure => simp [intOf]; omega
    · obtain rfl : k = no := by omega
      have htk : own.take k = own := List.take_of_length_le (by have := Hleno.out; omega)
      rw [htk] at HR
      clear htk
      have p0 : wr.cell? ⟨w.heap.size, 0, none⟩ = some (.int .u16 mtu) := HD.out.cell 0
      have p1 : wr.cell? ⟨w.heap.size, 1, none⟩ = some (.int .u8 opts) := HD.out.cell 1
      have p2 : wr.cell? ⟨w.heap.size, 2, none⟩ = some (.int .u8 flags) := HD.out.cell 2
      have p3 : wr.cell? ⟨w.heap.size, 3, none⟩ = some (.int .u32 seq) := HD.out.cell 3
      have p4 : wr.cell? ⟨w.heap.size, 4, none⟩ = some (.slice Ap 0 cp) := HD.out.cell 4
      have hW : Wants wr B m { a with master := false, state := 1, left := lv } [] M := HW.out.step HF.out HA.out rfl rfl
      have hP : HeadsIn wr (.slice Ap 0 cp) [] := HP.out.frame HF.out (NoHeads.blk HW.out.adj (by decide))
      have hO : HeadsIn wr (.slice Ao k co) own := HOw.out.frame HF.out (NoHeads.blk HW.out.adj (by decide))
      have hL : HeadsIn wr lv own := HeadsIn.own HR.out Hleno.out
      have hT := take_slave wr B m { a with master := false, state := 1, left := lv } [] M mtu opts flags seq (.slice Ap 0 cp) (.slice Ao k co) [] own own hW hL hP hO (by simp) Hoko.out (by have := Hleno.out; omega) (by simp) (by have := Hleno.out; omega) ⟨hx0, hx1⟩ rfl (by simp)
      have HT := Lib.hid hT
      clear hW hP hO hL hT
      go_wp2_with fail
      refine HT.out.mono ?_
      rintro e w2 ⟨v, rfl, hS⟩
      have HS := Lib.hid hS
      clear hS
      go_wp2_with fail
      refine bodyPost_ret (v := .tuple #[v, .int .i64 0]) (by simp [results, Try.results52, go_sem]) rfl ⟨v, rfl, SlaveV.from (a := { a with master := false, state := 1 }) (x := lv) HF.out HS.out.toV⟩
end Go.Proofs.Ytgbmhijgpdgdbaa
