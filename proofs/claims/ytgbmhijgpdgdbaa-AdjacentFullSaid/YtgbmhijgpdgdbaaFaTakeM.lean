/- A description is taken by the master. -/
import Derived.Test.YtgbmhijgpdgdbaaFaTake
namespace Go.Proofs.Ytgbmhijgpdgdbaa
open Go.RowKit

def MasterMore (w : World) (B m : Nat) (a : Adj) (O : List Od.Ky) (M : Od.Ky → Option Od.Hd) (opts flags seq : Int) (L : List Od.Hd) (v : Value) (w' : World) : Prop :=
  ∃ ov lv sv, Taken w B m a (({ a.took opts flags seq with order := ov, seq := (a.seq + 1) % 4294967296 } : Adj).described (dflags a.master L) lv sv) O M (L.drop 16) (L.take 16) w' ∧
    ∃ hv, w'.ownsRow w.heap.size 40 7 v 1 (Raw.cells ⟨true, a.mtu, a.opts, dflags a.master L, (a.seq + 1) % 4294967296, hv, .slice none 0 0⟩) ∧ w'.ownsRow w.heap.size 59 8 hv (L.take 16).length ((L.take 16).flatMap hcells)
def MasterMoreW (w : World) (B m : Nat) (a : Adj) (O : List Od.Ky) (M : Od.Ky → Option Od.Hd) (opts flags seq : Int) (L : List Od.Hd) (v : Value) (w' : World) : Prop :=
  ∃ ov lv sv, (SubBlk lv a.left ∧ SubBlk sv a.left) ∧ Taken w B m a (({ a.took opts flags seq with order := ov, seq := (a.seq + 1) % 4294967296 } : Adj).described (dflags a.master L) lv sv) O M (L.drop 16) (L.take 16) w' ∧
    ∃ hv, w'.ownsRow w.heap.size 40 7 v 1 (Raw.cells ⟨true, a.mtu, a.opts, dflags a.master L, (a.seq + 1) % 4294967296, hv, .slice none 0 0⟩) ∧ w'.ownsRow w.heap.size 59 8 hv (L.take 16).length ((L.take 16).flatMap hcells)
theorem MasterMoreW.toV {w w' : World} {B m : Nat} {a : Adj} {O : List Od.Ky} {M : Od.Ky → Option Od.Hd} {opts flags seq : Int} {L : List Od.Hd} {v : Value} (h : MasterMoreW w B m a O M opts flags seq L v w') : MasterMore w B m a O M opts flags seq L v w' := by
  obtain ⟨ov, lv, sv, _, h⟩ := h
  exact ⟨ov, lv, sv, h⟩
def MasterFull (w : World) (B m : Nat) (a : Adj) (O : List Od.Ky) (M : Od.Ky → Option Od.Hd) (opts flags seq : Int) (L S : List Od.Hd) (v : Value) (w' : World) : Prop :=
  ∃ ov, Taken w B m a { a.took opts flags seq with order := ov, state := 3 } O M L S w' ∧ v = .slice none 0 0
def MasterPost (w : World) (B m : Nat) (a : Adj) (O : List Od.Ky) (M : Od.Ky → Option Od.Hd) (opts flags seq : Int) (L S : List Od.Hd) (e : Ending) (w' : World) : Prop :=
  ∃ v, e = .returned v ∧ if (isM a.sflags || isM flags) = true then MasterMoreW w B m a O M opts flags seq L v w' else MasterFull w B m a O M opts flags seq L S v w'

theorem MasterMore.from {w w1 w' : World} {B m : Nat} {a : Adj} {x : Value} {O : List Od.Ky} {M : Od.Ky → Option Od.Hd} {opts flags seq : Int} {L : List Od.Hd} {v : Value} (hf : Frame (fun k => k = B) w w1)
    (h : MasterMore w1 B m { a with left := x } O M opts flags seq L v w') : MasterMore w B m a O M opts flags seq L v w' := by
  obtain ⟨ov, lv, sv, h1, hv, h2, h3⟩ := h
  exact ⟨ov, lv, sv, Taken.from (a1 := { a with left := x }) hf rfl h1, hv, own_base h2 hf.size, own_base h3 hf.size⟩
theorem MasterMoreW.from {w w1 w' : World} {B m : Nat} {a : Adj} {O : List Od.Ky} {M : Od.Ky → Option Od.Hd} {opts flags seq : Int} {L : List Od.Hd} {v : Value} (hf : Frame (fun k => k = B) w w1)
    (h : MasterMoreW w1 B m a O M opts flags seq L v w') : MasterMoreW w B m a O M opts flags seq L v w' := by
  obtain ⟨ov, lv, sv, h0, h1, hv, h2, h3⟩ := h
  exact ⟨ov, lv, sv, h0, Taken.from (a1 := a) hf rfl h1, hv, own_base h2 hf.size, own_base h3 hf.size⟩
theorem MasterFull.from {w w1 w' : World} {B m : Nat} {a : Adj} {O : List Od.Ky} {M : Od.Ky → Option Od.Hd} {opts flags seq : Int} {L S : List Od.Hd} {v : Value} (hf : Frame (fun k => k = B) w w1)
    (h : MasterFull w1 B m a O M opts flags seq L S v w') : MasterFull w B m a O M opts flags seq L S v w' := by
  obtain ⟨ov, h1, h2⟩ := h
  exact ⟨ov, Taken.from (a1 := a) hf rfl h1, h2⟩

set_option maxHeartbeats 4000000 in
set_option maxRecDepth 20000 in
theorem take_master (w : World) (B m : Nat) (a : Adj) (O : List Od.Ky) (M : Od.Ky → Option Od.Hd) (mtu opts flags seq : Int) (hv ow : Value) (Lp own L S : List Od.Hd)
    (h : Wants w B m a O M) (hL : HeadsIn w a.left L) (hS : HeadsIn w a.sheads S) (hp : HeadsIn w hv Lp) (how : HeadsIn w ow own) (hokp : ∀ x ∈ Lp, HdOk x) (hoko : ∀ x ∈ own, HdOk x)
    (hnL : L.length ≤ 65536) (hnO : O.length + Lp.length ≤ 65535) (hnown : own.length ≤ 65536) (hrx : 0 ≤ a.rxmt ∧ a.rxmt < 65536)
    (hms : a.master = true) (hO : (isM a.sflags || isM flags) = false → O ++ Lp.map keyOfHd = []) (hnew : ∀ k x, Lp[k]? = some x → haveOf own (keyOfHd x) = none ∧ wantsM (Lp.take k) M (keyOfHd x) = none) :
    Calls Try.prog 89 #[.pointer (some ⟨B, 0, none⟩), ddval mtu opts flags seq hv, ow] w fun e w' => MasterPost w B m a (O ++ Lp.map keyOfHd) (wantsM Lp M) opts flags seq L S e w' := by
  obtain ⟨Ap, np, cp, ep, hncp, hlenp, hrp⟩ := hp.1
  obtain ⟨Ao, no, co, eo, hnco, hleno, hro⟩ := how.1
  subst ep eo
  have hBlt := h.adj.lt
  have hmlt := h.map.lt
  have f := h.adj.frozen
  have c17 : w.cell? ⟨B, 17, none⟩ = some (.bool a.taken) := h.adj.cell 17
  have c18 : w.cell? ⟨B, 18, none⟩ = some (.int .u8 a.lflags) := h.adj.cell 18
  have c19 : w.cell? ⟨B, 19, none⟩ = some (.int .u8 a.lopts) := h.adj.cell 19
  have c20 : w.cell? ⟨B, 20, none⟩ = some (.int .u32 a.lseq) := h.adj.cell 20
  have hmk := fun w1 : World => run_makeMap (P := Try.prog) 64 w1
  have HW := Lib.hid h
  have HL := Lib.hid hL
  have HP := Lib.hid hp
  have HOw := Lib.hid how
  have Hlenp := Lib.hid hlenp
  have Hleno := Lib.hid hleno
  have HRo := Lib.hid hro
  have HRp := Lib.hid hrp
  have Hokp := Lib.hid hokp
  have Hoko := Lib.hid hoko
  have Hnew := Lib.hid hnew
  have HnL := Lib.hid hnL
  have HMs := Lib.hid hms
  have HS := Lib.hid hS
  have HOe := Lib.hid hO
  have HnO := Lib.hid hnO
  have hno : no ≤ 65536 := by omega
  have hnp : np ≤ 65535 := by omega
  obtain ⟨hx0, hx1⟩ := hrx
  clear h hL hp how hlenp hleno hro hrp hokp hoko hnew hms hS hO hnL hnO hnown
  unfold ddval
  go_enter Try.func89, Try.ntmps89
  go_wp2_with fail
  go_region
  go_wp2_with fail
  have kF0 : Frame (fun j => j = B) w ((((((w.setCell ⟨B, 17, none⟩ (.bool true)).setCell ⟨B, 18, none⟩ (.int .u8 flags)).setCell ⟨B, 19, none⟩ (.int .u8 opts)).setCell ⟨B, 20, none⟩ (.int .u32 seq)).alloc (.cells #[.int .u16 mtu, .int .u8 opts, .int .u8 flags, .int .u32 seq, .slice Ap np cp] 28)).alloc (.map #[] 0)).drew :=
    ((((((((Frame.refl _ w).setB 17 _).setB 18 _).setB 19 _).setB 20 _).alloc _).alloc _).drew)
  have kA0 : AdjAt ((((((w.setCell ⟨B, 17, none⟩ (.bool true)).setCell ⟨B, 18, none⟩ (.int .u8 flags)).setCell ⟨B, 19, none⟩ (.int .u8 opts)).setCell ⟨B, 20, none⟩ (.int .u32 seq)).alloc (.cells #[.int .u16 mtu, .int .u8 opts, .int .u8 flags, .int .u32 seq, .slice Ap np cp] 28)).alloc (.map #[] 0)).drew B (a.took opts flags seq) :=
    (((((((HW.out.adj.set_ 17 _).set_ 18 _).set_ 19 _).set_ 20 _).alloc _).alloc _).drew)
  have kD0 : Blk ((((((w.setCell ⟨B, 17, none⟩ (.bool true)).setCell ⟨B, 18, none⟩ (.int .u8 flags)).setCell ⟨B, 19, none⟩ (.int .u8 opts)).setCell ⟨B, 20, none⟩ (.int .u32 seq)).alloc (.cells #[.int .u16 mtu, .int .u8 opts, .int .u8 flags, .int .u32 seq, .slice Ap np cp] 28)).alloc (.map #[] 0)).drew w.heap.size 28 #[.int .u16 mtu, .int .u8 opts, .int .u8 flags, .int .u32 seq, .slice Ap np cp] :=
    ((blk_new_at (by simp [World.setCell])).alloc _).drew
  have kM0 : MapIs hdval ((((((w.setCell ⟨B, 17, none⟩ (.bool true)).setCell ⟨B, 18, none⟩ (.int .u8 flags)).setCell ⟨B, 19, none⟩ (.int .u8 opts)).setCell ⟨B, 20, none⟩ (.int .u32 seq)).alloc (.cells #[.int .u16 mtu, .int .u8 opts, .int .u8 flags, .int .u32 seq, .slice Ap np cp] 28)).alloc (.map #[] 0)).drew (w.heap.size + 1) (haveOf (own.take 0)) := by
    have := (MapIs.made hdval ((((((w.setCell ⟨B, 17, none⟩ (.bool true)).setCell ⟨B, 18, none⟩ (.int .u8 flags)).setCell ⟨B, 19, none⟩ (.int .u8 opts)).setCell ⟨B, 20, none⟩ (.int .u32 seq)).alloc (.cells #[.int .u16 mtu, .int .u8 opts, .int .u8 flags, .int .u32 seq, .slice Ap np cp] 28)))).drew
    simp only [World.size_alloc, World.setCell, Array.size_modify] at this
    exact this
  go_loopw [31] (fun i wr => ∃ k : Nat, k ≤ no ∧ i = .int .i64 k ∧ Hid (AdjAt wr B (a.took opts flags seq)) ∧ Hid (MapIs hdval wr (w.heap.size + 1) (haveOf (own.take k))) ∧ Hid (Frame (fun j => j = B) w wr) ∧ Hid (Blk wr w.heap.size 28 #[.int .u16 mtu, .int .u8 opts, .int .u8 flags, .int .u32 seq, .slice Ap np cp]))
    (fun i _ => no - (intOf i).toNat)
  case atStart => exact ⟨0, Nat.zero_le _, rfl, Lib.hid kA0, Lib.hid kM0, Lib.hid kF0, Lib.hid kD0⟩
  case round =>
    clear kA0 kM0 kF0 kD0 c17 c18 c19 c20 f
    obtain ⟨k, hk, rfl, HA, HM, HF, HD⟩ := hrel
    by_cases hlt : k < no
    · obtain ⟨x, hx⟩ : ∃ x, own[k]? = some x := ⟨_, List.getElem?_eq_getElem (by have := Hleno.out; omega)⟩
      have hxo := Hoko.out x (List.mem_of_getElem? hx)
      obtain ⟨⟨A', n', c', e', -, -, hrw⟩, -⟩ := HOw.out.frame HF.out (NoHeads.blk HW.out.adj (by decide))
      injection e' with e1 e2 e3
      subst e1 e2 e3
      obtain ⟨bl, off, hAo, hbl, hcell⟩ := hrw.head hx
      subst hAo
      obtain ⟨g, o, t, i, v, s, mm, l⟩ := x
      have hky : KyOk ⟨t, i, v⟩ := hxo.ky
      have d0 : wr.cell? ⟨bl, off + k * 8, none⟩ = some (.int .u16 g) := hcell 0 _ rfl
      have d1 := hcell 1 _ rfl
      have d2 := hcell 2 _ rfl
      have d3 := hcell 3 _ rfl
      have d4 := hcell 4 _ rfl
      have d5 := hcell 5 _ rfl
      have d6 := hcell 6 _ rfl
      have d7 := hcell 7 _ rfl
      have Hx := Lib.hid hx
      have hkn : (k : Int) < (no : Int) := by omega
      have hmhlt := HM.out.lt
      clear hcell hrw hx hxo hmk
      go_wp2_with fail
      refine (key_any _ ⟨g, o, t, i, v, s, mm, l⟩).mono ?_
      rintro e w1 ⟨rfl, hb1⟩
      unfold kval keyOfHd
      have kM1 := (HM.out.alloc (.cells #[.int .u16 g, .int .u8 o, .int .u8 t, .int .u32 i, .int .u32 v, .int .i32 s, .int .u16 mm, .int .u16 l] 59)).below hb1 (by simp; omega)
      have hlk := kM1.look hky Try.underlying64 (zeroHead _) true
      have hs1 : wr.heap.size < w1.heap.size := by have := hb1.size; simp at this; omega
      have kh1 := (Blk.new wr 59 #[.int .u16 g, .int .u8 o, .int .u8 t, .int .u32 i, .int .u32 v, .int .i32 s, .int .u16 mm, .int .u16 l]).below hb1 (by simp)
      have kF1 : Frame (fun j => j = w.heap.size + 1) wr w1 := ((Frame.refl _ wr).alloc _).trans (Frame.of_below hb1)
      have hHB : Hid (B < w.heap.size + 1) := Lib.hid (by omega)
      have HMl := Lib.hid hmhlt
      rcases hHk : haveOf (own.take k) ⟨t, i, v⟩ with _ | ⟨g2, o2, t2, i2, v2, s2, m2, l2⟩
      · rw [hHk] at hlk
        simp only [kval, hdval, Option.elim, Option.isSome, if_true] at hlk
        have HM1 := Lib.hid kM1
        have HF1 := Lib.hid kF1
        have HK1 := Lib.hid kh1
        have z0 : w1.cell? ⟨wr.heap.size, 0, none⟩ = some (.int .u16 g) := kh1.cell 0
        have z1 : w1.cell? ⟨wr.heap.size, 1, none⟩ = some (.int .u8 o) := kh1.cell 1
        have z2 : w1.cell? ⟨wr.heap.size, 2, none⟩ = some (.int .u8 t) := kh1.cell 2
        have z3 : w1.cell? ⟨wr.heap.size, 3, none⟩ = some (.int .u32 i) := kh1.cell 3
        have z4 : w1.cell? ⟨wr.heap.size, 4, none⟩ = some (.int .u32 v) := kh1.cell 4
        have z5 : w1.cell? ⟨wr.heap.size, 5, none⟩ = some (.int .i32 s) := kh1.cell 5
        have z6 : w1.cell? ⟨wr.heap.size, 6, none⟩ = some (.int .u16 mm) := kh1.cell 6
        have z7 : w1.cell? ⟨wr.heap.size, 7, none⟩ = some (.int .u16 l) := kh1.cell 7
        have HH := Lib.hid hHk
        clear kM1 kF1 kh1 hb1 hHk d0 d1 d2 d3 d4 d5 d6 d7
        go_upto_region 8 with fail
        go_region_with (go_at_call 59; refine (key_any _ ⟨g, o, t, i, v, s, mm, l⟩).mono ?_; rintro e w3 ⟨rfl, hb3⟩; unfold kval keyOfHd; have kM3 := ((HM1.out.alloc _).drew).below hb3 (by simp; omega); have kk3 := ((HK1.out.alloc _).drew).below hb3 (by simp; omega); obtain ⟨w4, hrun4, hM4, hg4, hs4⟩ := kM3.put hky Try.underlying64 ⟨g, o, t, i, v, s, mm, l⟩; simp only [kval, hdval] at hrun4; have y0 : w3.cell? ⟨wr.heap.size, 0, none⟩ = some (.int .u16 g) := kk3.cell 0; have y1 : w3.cell? ⟨wr.heap.size, 1, none⟩ = some (.int .u8 o) := kk3.cell 1; have y2 : w3.cell? ⟨wr.heap.size, 2, none⟩ = some (.int .u8 t) := kk3.cell 2; have y3 : w3.cell? ⟨wr.heap.size, 3, none⟩ = some (.int .u32 i) := kk3.cell 3; have y4 : w3.cell? ⟨wr.heap.size, 4, none⟩ = some (.int .u32 v) := kk3.cell 4; have y5 : w3.cell? ⟨wr.heap.size, 5, none⟩ = some (.int .i32 s) := kk3.cell 5; have y6 : w3.cell? ⟨wr.heap.size, 6, none⟩ = some (.int .u16 mm) := kk3.cell 6; have y7 : w3.cell? ⟨wr.heap.size, 7, none⟩ = some (.int .u16 l) := kk3.cell 7; have HF3 := Lib.hid ((((HF1.out.alloc _).drew).trans (Frame.of_below hb3)).trans (Frame.of_grown (S := fun j => j = w.heap.size + 1) hg4 (fun k e _ => by cases e; rfl))); have HM4 := Lib.hid hM4; clear kM3 kk3 hb3 hg4 hM4 hs4)
        all_goals
          go_wp2_with fail
          go_roundw
          case rel => exact ⟨k + 1, by omega, by go_num, Lib.hid (HF3.out.blk HA.out (by have := hHB.out; omega)), Lib.hid (by rw [take_snoc Hx.out, haveOf_snoc_none HH.out]; exact HM4.out), Lib.hid (HF.out.trans' HF3.out (fun i hi e => by omega)), Lib.hid (HF3.out.blk HD.out (by omega))⟩
          case measure => simp [intOf]; omega
      · rw [hHk] at hlk
        simp only [kval, hdval, Option.elim, Option.isSome, if_true] at hlk
        have HF1 := Lib.hid kF1
        have HH := Lib.hid (haveOf_snoc_some (h := ⟨g, o, t, i, v, s, mm, l⟩) hHk)
        have HM1 := Lib.hid kM1
        clear kM1 kF1 kh1 hb1 hHk d0 d1 d2 d3 d4 d5 d6 d7
        go_wp2_with fail
        go_roundw
        case rel => exact ⟨k + 1, by omega, by go_num, Lib.hid ((HF1.out.blk HA.out (by have := hHB.out; omega)).alloc _), Lib.hid (by rw [take_snoc Hx.out, HH.out]; exact HM1.out.alloc _), Lib.hid (HF.out.trans' (HF1.out.alloc _) (fun i hi e => by omega)), Lib.hid ((HF1.out.blk HD.out (by omega)).alloc _)⟩
        case measure => simp [intOf]; omega
    · obtain rfl : k = no := by omega
      have htk : own.take k = own := List.take_of_length_le (by have := Hleno.out; omega)
      rw [htk] at HM
      clear htk hmk
      have dd4 : wr.cell? ⟨w.heap.size, 4, none⟩ = some (.slice Ap np cp) := HD.out.cell 4
      go_wp2_with fail
      have hB1 : Hid (B ≠ w.heap.size) := Lib.hid (by omega)
      go_loopw [52] (fun i wr2 => ∃ (k : Nat) (ov : Value), k ≤ np ∧ i = .int .i64 k ∧ Hid (Wants wr2 B m { a.took opts flags seq with order := ov } (O ++ (Lp.take k).map keyOfHd) (wantsM (Lp.take k) M)) ∧ Hid (MapIs hdval wr2 (w.heap.size + 1) (haveOf own)) ∧ Hid (Frame (Own B m a.order) w wr2) ∧
          Hid (Blk wr2 w.heap.size 28 #[.int .u16 mtu, .int .u8 opts, .int .u8 flags, .int .u32 seq, .slice Ap np cp]) ∧ Hid (ov.ownBlock = a.order.ownBlock ∨ ov.ownBlock = none ∨ ∃ g, ov.ownBlock = some g ∧ w.heap.size ≤ g))
        (fun i _ => np - (intOf i).toNat)
      case atStart =>
        refine ⟨0, a.order, Nat.zero_le _, rfl, Lib.hid ⟨HA.out, HW.out.want, HF.out.map HW.out.map (fun e => HW.out.map.blk_ne HW.out.adj e.symm), ?_⟩, HM, Lib.hid (HF.out.mono fun i e => Or.inl e), HD, Lib.hid (.inl rfl)⟩
        have := HF.out.own HW.out.order (fun g hg e => own_blk_ne HW.out.order HW.out.adj (by decide) (by rw [hg, e]))
        simpa using this
      case round =>
        clear HA HM HF HD dd4
        obtain ⟨k, ov, hk, rfl, HA, HM, HF, HD, HV⟩ := hrel
        by_cases hlt : k < np
        · obtain ⟨x, hx⟩ : ∃ x, Lp[k]? = some x := ⟨_, List.getElem?_eq_getElem (by have := Hlenp.out; omega)⟩
          have hxo := Hokp.out x (List.mem_of_getElem? hx)
          obtain ⟨hnH, hnM⟩ := Hnew.out k x hx
          obtain ⟨⟨A', n', c', e', -, -, hrw⟩, -⟩ := HP.out.frame HF.out (NoHeads.own HW.out)
          injection e' with e1 e2 e3
          subst e1 e2 e3
          obtain ⟨bl, off, hAp, hbl, hcell⟩ := hrw.head hx
          subst hAp
          obtain ⟨g, o, t, i, v, s, mm, l⟩ := x
          have hky : KyOk ⟨t, i, v⟩ := hxo.ky
          have d0 : wr.cell? ⟨bl, off + k * 8, none⟩ = some (.int .u16 g) := hcell 0 _ rfl
          have d1 := hcell 1 _ rfl
          have d2 := hcell 2 _ rfl
          have d3 := hcell 3 _ rfl
          have d4 := hcell 4 _ rfl
          have d5 := hcell 5 _ rfl
          have d6 := hcell 6 _ rfl
          have d7 := hcell 7 _ rfl
          have Hx := Lib.hid hx
          have HnH := Lib.hid hnH
          have HnM := Lib.hid hnM
          have hkn : (k : Int) < (np : Int) := by omega
          clear hcell hrw hx hxo hnH hnM
          go_wp2_with fail
          refine (want_new _ B m (w.heap.size + 1) { a.took opts flags seq with order := ov } (O ++ (Lp.take k).map keyOfHd) (wantsM (Lp.take k) M) (haveOf own) g o t i v s mm l (HA.out.alloc _) (HM.out.alloc _) hky (by have := HnO.out; have := Hlenp.out; simp; omega) HnH.out HnM.out).mono ?_
          rintro e w3 ⟨rfl, ov2, hW3, hv3, hF3⟩
          have hmh : ¬ Own B m ov (w.heap.size + 1) := by
            rintro (e1 | e1 | e1)
            · omega
            · omega
            · exact own_map_ne HA.out.order HM.out e1
          have hdh : ¬ Own B m ov w.heap.size := by
            rintro (e1 | e1 | e1)
            · omega
            · omega
            · exact own_blk_ne HA.out.order HD.out (by decide) e1
          have hsz := HF.out.size
          have HW3 := Lib.hid hW3
          have HM3 := Lib.hid (hF3.map (HM.out.alloc _) hmh)
          have HD3 := Lib.hid (hF3.blk (HD.out.alloc _) hdh)
          have HF3 : Hid (Frame (Own B m a.order) w w3) := Lib.hid ((HF.out.alloc _).trans' hF3 (fun j hj hT => by
            rcases hT with e1 | e1 | e1
            · exact .inl e1
            · exact .inr (.inl e1)
            · rcases HV.out with e2 | e2 | ⟨g2, e2, hg2⟩
              · exact .inr (.inr (e2 ▸ e1))
              · have e1' : ov.ownBlock = some j := e1
                rw [e2] at e1'; cases e1'
              · have e1' : ov.ownBlock = some j := e1
                rw [e2] at e1'; cases e1'; omega))
          have HV3 : Hid (ov2.ownBlock = a.order.ownBlock ∨ ov2.ownBlock = none ∨ ∃ g, ov2.ownBlock = some g ∧ w.heap.size ≤ g) := Lib.hid (by
            rcases hv3 with e1 | e1 | ⟨g2, e1, hg2⟩
            · have e1' : ov2.ownBlock = ov.ownBlock := e1
              rw [e1']; exact HV.out
            · exact .inr (.inl e1)
            · exact .inr (.inr ⟨g2, e1, by simp at hg2; omega⟩))
          clear hW3 hv3 hF3 hmh hdh hsz d0 d1 d2 d3 d4 d5 d6 d7
          go_wp2_with fail
          go_roundw
          case rel =>
            refine ⟨k + 1, ov2, by omega, by go_num, Lib.hid ?_, HM3, HF3, HD3, HV3⟩
            rw [take_snoc Hx.out, List.map_append, ← List.append_assoc, wantsM_snoc]
            exact HW3.out
          case measure => simp [intOf]; omega
        · obtain rfl : k = np := by omega
          have htk : Lp.take k = Lp := List.take_of_length_le (by have := Hlenp.out; omega)
          rw [htk] at HA
          clear htk
          have dd2 : wr.cell? ⟨w.heap.size, 2, none⟩ = some (.int .u8 flags) := HD.out.cell 2
          have dd3 : wr.cell? ⟨w.heap.size, 3, none⟩ = some (.int .u32 seq) := HD.out.cell 3
          have kA := HA.out.adj
          have f := kA.frozen
          have c8 : wr.cell? ⟨B, 8, none⟩ = some (.int .u8 a.state) := kA.cell 8
          have c9 : wr.cell? ⟨B, 9, none⟩ = some (.int .u32 a.seq) := kA.cell 9
          have c10 : wr.cell? ⟨B, 10, none⟩ = some (.bool true) := (kA.cell 10).trans (by rw [← HMs.out]; rfl)
          have c14 : wr.cell? ⟨B, 14, none⟩ = some (.int .u8 a.sflags) := kA.cell 14
          rcases hq1 : (bits .and .u8 a.sflags 2 != 0)
          · rcases hq2 : (bits .and .u8 flags 2 != 0)
            · have hno : (isM a.sflags || isM flags) = false := by rw [show isM a.sflags = false from hq1, show isM flags = false from hq2]; rfl
              have hOe := HOe.out hno
              obtain ⟨OA, Oc, hov⟩ := own_slice HA.out.order
              have c21 : wr.cell? ⟨B, 21, none⟩ = some (.slice OA 0 Oc) := (kA.cell 21).trans ((congrArg some hov).trans (by rw [hOe]; rfl))
              have Hno := Lib.hid hno
              clear hOe hov hno
              go_wp2_with fail
              go_ret
              have hF6 : Frame (fun j => j = B) wr (wr.setCell ⟨B, 8, none⟩ (.int .u8 3)) := (Frame.refl _ wr).setB 8 _
              refine ⟨_, rfl, ?_⟩
              rw [if_neg (by rw [Hno.out]; decide)]
              exact ⟨ov, Taken.of HA.out HF.out hF6 (kA.set_ 8 _) rfl rfl HV.out ((HL.out.frame HF.out (NoHeads.own HW.out)).frame hF6 (NoHeads.blk kA (by decide))) ((HS.out.frame HF.out (NoHeads.own HW.out)).frame hF6 (NoHeads.blk kA (by decide))), rfl⟩
            · have Hq := Lib.hid hq2
              clear kA
              have HA3 : Hid (AdjAt (wr.setCell ⟨B, 9, none⟩ (.int .u32 ((a.seq + 1) % 4294967296))) B { a.took opts flags seq with order := ov, seq := (a.seq + 1) % 4294967296 }) := Lib.hid (HA.out.adj.set_ 9 _)
              have HL3 : Hid (HeadsIn (wr.setCell ⟨B, 9, none⟩ (.int .u32 ((a.seq + 1) % 4294967296))) a.left L) := Lib.hid (HL.out.frame (HF.out.setCell (p := ⟨B, 9, none⟩) (fun _ => .inl rfl) _) (NoHeads.own HW.out))
              go_wp2_with fail
              have hdesc : Calls Try.prog 126 #[.pointer (some ⟨B, 0, none⟩)] (wr.setCell ⟨B, 9, none⟩ (.int .u32 ((a.seq + 1) % 4294967296))) fun e w' => ∃ hv lv sv, e = .returned (outval true a.mtu a.opts (dflags a.master L) ((a.seq + 1) % 4294967296) hv (.slice none 0 0)) ∧
                  AdjAt w' B (({ a.took opts flags seq with order := ov, seq := (a.seq + 1) % 4294967296 } : Adj).described (dflags a.master L) lv sv) ∧ HeadsIn w' lv (L.drop 16) ∧ HeadsIn w' sv (L.take 16) ∧ Frame (fun k => k = B) (wr.setCell ⟨B, 9, none⟩ (.int .u32 ((a.seq + 1) % 4294967296))) w' ∧ w'.ownsRow (wr.setCell ⟨B, 9, none⟩ (.int .u32 ((a.seq + 1) % 4294967296))).heap.size 59 8 hv (L.take 16).length ((L.take 16).flatMap hcells) ∧ SubBlk lv a.left ∧ SubBlk sv a.left :=
                describe_any _ B { a.took opts flags seq with order := ov, seq := (a.seq + 1) % 4294967296 } L HA3.out HL3.out HnL.out ⟨hx0, hx1⟩
              refine hdesc.mono ?_
              clear hdesc
              rintro e w4 ⟨hv, lv, sv, rfl, hA4, hl4, hs4, hF4, ho4, hsb1, hsb2⟩
              have hfr4 : Frame (fun j => j = B) wr w4 := ((Frame.refl _ wr).setB 9 _).trans hF4
              have hsz4 : w.heap.size ≤ w4.heap.size := Nat.le_trans HF.out.size hfr4.size
              obtain ⟨Ah, ch, rfl⟩ := own_slice ho4
              obtain ⟨nq, hnq⟩ : ∃ nq, (L.take 16).length = nq := ⟨_, rfl⟩
              obtain ⟨fl, hfl⟩ : ∃ fl, dflags a.master L = fl := ⟨_, rfl⟩
              rw [hfl] at hA4 ⊢
              rw [hnq] at ho4 ⊢
              have HFin : Hid (MasterPost w B m a (O ++ Lp.map keyOfHd) (wantsM Lp M) opts flags seq L S (.returned (.slice (some ⟨w4.heap.size, 0, none⟩) 1 1)) (w4.alloc (.cells #[.bool true, .int .u16 a.mtu, .int .u8 a.opts, .int .u8 fl, .int .u32 ((a.seq + 1) % 4294967296), .slice Ah nq ch, .slice none 0 0] 40))) := Lib.hid (by
                have hF5 : Frame (fun _ => False) w4 (w4.alloc (.cells #[.bool true, .int .u16 a.mtu, .int .u8 a.opts, .int .u8 fl, .int .u32 ((a.seq + 1) % 4294967296), .slice Ah nq ch, .slice none 0 0] 40)) := (Frame.refl _ w4).alloc _
                refine ⟨_, rfl, ?_⟩
                rw [if_pos (by rw [show isM flags = true from Hq.out]; simp)]
                refine ⟨ov, lv, sv, ⟨hsb1, hsb2⟩, Taken.of HA.out HF.out (hfr4.trans (hF5.mono fun _ e => e.elim)) (by rw [hfl]; exact hF5.blk hA4 (fun e => e)) rfl rfl HV.out (hl4.frame hF5 (noNo _)) (hs4.frame hF5 (noNo _)), .slice Ah nq ch, ?_, ?_⟩
                · rw [hfl]
                  exact World.ownsRow_lit (base := w.heap.size) (e := 40) (size := 7) w4 #[.bool true, .int .u16 a.mtu, .int .u8 a.opts, .int .u8 fl, .int .u32 ((a.seq + 1) % 4294967296), .slice Ah nq ch, .slice none 0 0] 1 hsz4 (by simp [maxLen]) rfl
                · rw [hnq]
                  exact own_base (hF5.own ho4 (fun _ _ e => e)) (by simp [World.setCell]; exact HF.out.size))
              clear hA4 hl4 hs4 hF4 ho4 hsb1 hsb2 hfr4 c9 c10 c14 f HA3 HL3
              unfold outval
              go_wp2_with fail
              go_ret
              exact HFin.out
          · have Hq := Lib.hid hq1
            clear kA
            have HA3 : Hid (AdjAt (wr.setCell ⟨B, 9, none⟩ (.int .u32 ((a.seq + 1) % 4294967296))) B { a.took opts flags seq with order := ov, seq := (a.seq + 1) % 4294967296 }) := Lib.hid (HA.out.adj.set_ 9 _)
            have HL3 : Hid (HeadsIn (wr.setCell ⟨B, 9, none⟩ (.int .u32 ((a.seq + 1) % 4294967296))) a.left L) := Lib.hid (HL.out.frame (HF.out.setCell (p := ⟨B, 9, none⟩) (fun _ => .inl rfl) _) (NoHeads.own HW.out))
            go_wp2_with fail
            have hdesc : Calls Try.prog 126 #[.pointer (some ⟨B, 0, none⟩)] (wr.setCell ⟨B, 9, none⟩ (.int .u32 ((a.seq + 1) % 4294967296))) fun e w' => ∃ hv lv sv, e = .returned (outval true a.mtu a.opts (dflags a.master L) ((a.seq + 1) % 4294967296) hv (.slice none 0 0)) ∧
                AdjAt w' B (({ a.took opts flags seq with order := ov, seq := (a.seq + 1) % 4294967296 } : Adj).described (dflags a.master L) lv sv) ∧ HeadsIn w' lv (L.drop 16) ∧ HeadsIn w' sv (L.take 16) ∧ Frame (fun k => k = B) (wr.setCell ⟨B, 9, none⟩ (.int .u32 ((a.seq + 1) % 4294967296))) w' ∧ w'.ownsRow (wr.setCell ⟨B, 9, none⟩ (.int .u32 ((a.seq + 1) % 4294967296))).heap.size 59 8 hv (L.take 16).length ((L.take 16).flatMap hcells) ∧ SubBlk lv a.left ∧ SubBlk sv a.left :=
              describe_any _ B { a.took opts flags seq with order := ov, seq := (a.seq + 1) % 4294967296 } L HA3.out HL3.out HnL.out ⟨hx0, hx1⟩
            refine hdesc.mono ?_
            clear hdesc
            rintro e w4 ⟨hv, lv, sv, rfl, hA4, hl4, hs4, hF4, ho4, hsb1, hsb2⟩
            have hfr4 : Frame (fun j => j = B) wr w4 := ((Frame.refl _ wr).setB 9 _).trans hF4
            have hsz4 : w.heap.size ≤ w4.heap.size := Nat.le_trans HF.out.size hfr4.size
            obtain ⟨Ah, ch, rfl⟩ := own_slice ho4
            obtain ⟨nq, hnq⟩ : ∃ nq, (L.take 16).length = nq := ⟨_, rfl⟩
            obtain ⟨fl, hfl⟩ : ∃ fl, dflags a.master L = fl := ⟨_, rfl⟩
            rw [hfl] at hA4 ⊢
            rw [hnq] at ho4 ⊢
            have HFin : Hid (MasterPost w B m a (O ++ Lp.map keyOfHd) (wantsM Lp M) opts flags seq L S (.returned (.slice (some ⟨w4.heap.size, 0, none⟩) 1 1)) (w4.alloc (.cells #[.bool true, .int .u16 a.mtu, .int .u8 a.opts, .int .u8 fl, .int .u32 ((a.seq + 1) % 4294967296), .slice Ah nq ch, .slice none 0 0] 40))) := Lib.hid (by
              have hF5 : Frame (fun _ => False) w4 (w4.alloc (.cells #[.bool true, .int .u16 a.mtu, .int .u8 a.opts, .int .u8 fl, .int .u32 ((a.seq + 1) % 4294967296), .slice Ah nq ch, .slice none 0 0] 40)) := (Frame.refl _ w4).alloc _
              refine ⟨_, rfl, ?_⟩
              rw [if_pos (by rw [show isM a.sflags = true from Hq.out]; rfl)]
              refine ⟨ov, lv, sv, ⟨hsb1, hsb2⟩, Taken.of HA.out HF.out (hfr4.trans (hF5.mono fun _ e => e.elim)) (by rw [hfl]; exact hF5.blk hA4 (fun e => e)) rfl rfl HV.out (hl4.frame hF5 (noNo _)) (hs4.frame hF5 (noNo _)), .slice Ah nq ch, ?_, ?_⟩
              · rw [hfl]
                exact World.ownsRow_lit (base := w.heap.size) (e := 40) (size := 7) w4 #[.bool true, .int .u16 a.mtu, .int .u8 a.opts, .int .u8 fl, .int .u32 ((a.seq + 1) % 4294967296), .slice Ah nq ch, .slice none 0 0] 1 hsz4 (by simp [maxLen]) rfl
              · rw [hnq]
                exact own_base (hF5.own ho4 (fun _ _ e => e)) (by simp [World.setCell]; exact HF.out.size))
            clear hA4 hl4 hs4 hF4 ho4 hsb1 hsb2 hfr4 c9 c10 c14 f HA3 HL3
            unfold outval
            go_wp2_with fail
            go_ret
            exact HFin.out
end Go.Proofs.Ytgbmhijgpdgdbaa
