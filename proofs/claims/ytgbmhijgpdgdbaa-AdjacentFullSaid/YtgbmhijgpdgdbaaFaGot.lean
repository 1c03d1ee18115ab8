/- The last head that was wanted has come. -/
import Derived.Test.YtgbmhijgpdgdbaaFaWant
import Derived.Deep.RegionWith
import Derived.Deep.RegionLaw
import Derived.Deep.DeepCutAuto
import Derived.Test.YtgbmhijgpdgdbaaFaLaterPlain
namespace Go.Proofs.Ytgbmhijgpdgdbaa
open Go.RowKit

theorem newer_self (h : Od.Hd) : Od.newer h h = 0 := by
  unfold Od.newer
  have e1 : Od.comp h.s h.s = 0 := (Od.comp_zero _ _).2 rfl
  have e2 : Od.comp h.m h.m = 0 := (Od.comp_zero _ _).2 rfl
  simp [e1, e2]

theorem run_append_zero {P : Program} (w : World) (t ty e : TypeId) (i : TypeInfo) (ht : P.underlying t = some (.slice e)) (hi : P.info? e = some i) (D : Addr) (cd : Nat) (A : Option Addr) (c : Nat) :
    (Builtin.append_ #[t, t] ty #[.slice (some D) 0 cd, .slice A 0 c]).run P w = .ok (.slice (some D) 0 cd) w := by
  cases A <;> simp [Builtin.append_, run_underlying ht, sizeOf, typeInfo, hi, Builtin.lenOf, Builtin.firstCells, storeCells, loadCells, loadCellsFrom]
theorem step_append_zero {P : Program} {ops : Array Oper} {o : Oper} {a : Act} {w : World} {K : Act → World → Prop} {Q : Exit → Act → World → Prop} {E : Prop} (hgd : o.guard = none) (s x : Operand) (t : TypeId)
    (ho : o.op = .call { callee := .builtin .append, args := #[s, x], argTypes := #[t, t] }) (e : TypeId) (i : TypeInfo) (ht : P.underlying t = some (.slice e)) (hi : P.info? e = some i) (D : Addr) (cd : Nat) (A : Option Addr) (c : Nat)
    (hs : a.eval s = .slice (some D) 0 cd) (hx : a.eval x = .slice A 0 c) (h : K (a.put o.dst (.slice (some D) 0 cd)) w) : if Region.wanted o (yielded ops a.tmps) = true then Oper.wp P o a w K Q else E := by
  have hw : Region.wanted o (yielded ops a.tmps) = true := by simp [Region.wanted, hgd]
  rw [if_pos hw]
  unfold Oper.wp execOp
  simp only [ho, resolve, invoke, builtin, Sem.run_bind, Sem.run_pure, Result.andThen_ok, List.map_toArray, List.map_cons, List.map_nil, hs, hx, run_append_zero w t o.type e i ht hi]
  exact h

theorem step_delete {P : Program} {ops : Array Oper} {o : Oper} {a : Act} {w w' : World} {K : Act → World → Prop} {Q : Exit → Act → World → Prop} {E : Prop} {mv kv v : Value} (hgd : o.guard = none) (x y : Operand) (t k : TypeId)
    (ho : o.op = .call { callee := .builtin .delete, args := #[x, y], argTypes := #[t, k] }) (hx : a.eval x = mv) (hy : a.eval y = kv) (hrun : (Builtin.delete_ #[t, k] o.type #[mv, kv]).run P w = .ok v w') (h : K (a.put o.dst v) w') :
    if Region.wanted o (yielded ops a.tmps) = true then Oper.wp P o a w K Q else E := by
  have hw : Region.wanted o (yielded ops a.tmps) = true := by simp [Region.wanted, hgd]
  rw [if_pos hw]
  unfold Oper.wp execOp
  simp only [ho, resolve, invoke, builtin, Sem.run_bind, Sem.run_pure, Result.andThen_ok, List.map_toArray, List.map_cons, List.map_nil, hx, hy, hrun]
  exact h

theorem set8 {w w0 : World} {b N : Nat} {t : TypeId} {z0 z1 z2 z3 z4 z5 z6 z7 v0 v1 v2 v3 v4 v5 v6 v7 : Value} (h : Blk w b t #[z0, z1, z2, z3, z4, z5, z6, z7]) (hb : Below N w0 w) (hN : N ≤ b) :
    Blk ((((((((w.setCell ⟨b, 0, none⟩ v0).setCell ⟨b, 1, none⟩ v1).setCell ⟨b, 2, none⟩ v2).setCell ⟨b, 3, none⟩ v3).setCell ⟨b, 4, none⟩ v4).setCell ⟨b, 5, none⟩ v5).setCell ⟨b, 6, none⟩ v6).setCell ⟨b, 7, none⟩ v7) b t #[v0, v1, v2, v3, v4, v5, v6, v7] ∧ Below N w0 ((((((((w.setCell ⟨b, 0, none⟩ v0).setCell ⟨b, 1, none⟩ v1).setCell ⟨b, 2, none⟩ v2).setCell ⟨b, 3, none⟩ v3).setCell ⟨b, 4, none⟩ v4).setCell ⟨b, 5, none⟩ v5).setCell ⟨b, 6, none⟩ v6).setCell ⟨b, 7, none⟩ v7) := by
  constructor
  · have k0 := h.set_ 0 v0
    have k1 := k0.set_ 1 v1
    have k2 := k1.set_ 2 v2
    have k3 := k2.set_ 3 v3
    have k4 := k3.set_ 4 v4
    have k5 := k4.set_ 5 v5
    have k6 := k5.set_ 6 v6
    have k7 := k6.set_ 7 v7
    simpa using k7
  · exact (((((((hb.setCell hN _).setCell hN _).setCell hN _).setCell hN _).setCell hN _).setCell hN _).setCell hN _).setCell hN _

set_option maxHeartbeats 2000000 in
set_option maxRecDepth 20000 in
theorem got_last (w : World) (B m : Nat) (a : Adj) (M : Od.Ky → Option Od.Hd) (g o t i v s mm l : Int) (h : Wants w B m a [⟨t, i, v⟩] M) (hk : KyOk ⟨t, i, v⟩) (hM : M ⟨t, i, v⟩ = some ⟨g, o, t, i, v, s, mm, l⟩)
    (hA : KeysOwn w 0 a.asks [⟨t, i, v⟩]) (hst : a.state = 2) (hmade : a.made = true) (hg0 : 0 ≤ g) (hg1 : g ≤ 65535) :
    Calls Try.prog 25 #[.pointer (some ⟨B, 0, none⟩), hdval ⟨g, o, t, i, v, s, mm, l⟩] w fun e w' =>
      e = .returned (.slice none 0 0) ∧ ∃ ov, AdjAt w' B { a with order := ov, state := 3 } ∧ Frame (fun k => k = B ∨ k = m) w w' := by
  have hBlt := h.adj.lt
  have hmlt := h.map.lt
  have HW := Lib.hid h
  have HA := Lib.hid hA
  have HMk := Lib.hid hM
  have Hm := Lib.hid hmade
  have Hst := Lib.hid hst
  clear h hA hM hst hmade
  unfold hdval
  go_enter Try.func25, Try.ntmps25
  go_upto_region 3 with (go_at_call 50; refine (none_yes _ B a (HW.out.adj.alloc _) Hm.out).mono ?_; rintro e w' ⟨rfl, rfl⟩)
  obtain ⟨W3, hW3⟩ : ∃ W3, W3 = w.alloc (.cells #[.int .u16 g, .int .u8 o, .int .u8 t, .int .u32 i, .int .u32 v, .int .i32 s, .int .u16 mm, .int .u16 l] 59) := ⟨_, rfl⟩
  have kh3 : Blk W3 w.heap.size 59 #[.int .u16 g, .int .u8 o, .int .u8 t, .int .u32 i, .int .u32 v, .int .i32 s, .int .u16 mm, .int .u16 l] := by rw [hW3]; exact Blk.new w _ _
  have kb3 : Below w.heap.size w W3 := by rw [hW3]; exact (Below.refl _ w).alloc (Nat.le_refl _) _
  rw [← hW3]
  have HH3 := Lib.hid kh3
  have HB3 := Lib.hid kb3
  have hwW3 : w.heap.size < W3.heap.size := kh3.lt
  have hBW3 : B < W3.heap.size := by omega
  have hmW3 : m < W3.heap.size := by omega
  have z0 : W3.cell? ⟨w.heap.size, 0, none⟩ = some (.int .u16 g) := kh3.cell 0
  have z1 : W3.cell? ⟨w.heap.size, 1, none⟩ = some (.int .u8 o) := kh3.cell 1
  have z2 : W3.cell? ⟨w.heap.size, 2, none⟩ = some (.int .u8 t) := kh3.cell 2
  have z3 : W3.cell? ⟨w.heap.size, 3, none⟩ = some (.int .u32 i) := kh3.cell 3
  have z4 : W3.cell? ⟨w.heap.size, 4, none⟩ = some (.int .u32 v) := kh3.cell 4
  have z5 : W3.cell? ⟨w.heap.size, 5, none⟩ = some (.int .i32 s) := kh3.cell 5
  have z6 : W3.cell? ⟨w.heap.size, 6, none⟩ = some (.int .u16 mm) := kh3.cell 6
  have z7 : W3.cell? ⟨w.heap.size, 7, none⟩ = some (.int .u16 l) := kh3.cell 7
  have c22 : W3.cell? ⟨B, 22, none⟩ = some (.map (some m)) := (kb3.cell hBlt).trans ((HW.out.adj.cell 22).trans (congrArg some HW.out.want))
  have HM3 := Lib.hid (HW.out.map.below kb3 hmlt)
  clear hW3 kh3 kb3
  go_cut [5, 6] (fun p is wx => is = .bool true ∧ ∃ b, p = .pointer (some ⟨b, 0, none⟩) ∧ Blk wx b 59 #[.int .u16 g, .int .u8 o, .int .u8 t, .int .u32 i, .int .u32 v, .int .i32 s, .int .u16 mm, .int .u16 l] ∧ Below W3.heap.size W3 wx)
  case first =>
    go_region_law (first
      | (go_simp; go_at_call 59; refine (key_any _ ⟨g, o, t, i, v, s, mm, l⟩).mono ?_; rintro e w4 ⟨rfl, hb4⟩; unfold kval keyOfHd; have hbW : Below W3.heap.size W3 w4 := (Below.refl W3.heap.size W3).drew.trans hb4; have hMW : MapIs hdval w4 m M := HM3.out.below hbW hmW3; have c22w : w4.cell? ⟨B, 22, none⟩ = some (.map (some m)) := (hbW.cell hBW3).trans c22; have hlk := hMW.look hk Try.underlying64 (zeroHead _) true; have hlk2 := fun ob => (hMW.alloc ob).look hk Try.underlying64 (zeroHead _) true; rw [HMk.out] at hlk hlk2; simp only [kval, hdval, Option.elim, Option.isSome, if_true] at hlk hlk2; have hs4 : W3.heap.size ≤ w4.heap.size := hbW.size; have hBw4 : B < w4.heap.size := Nat.lt_of_lt_of_le hBW3 hs4; have HB4 := Lib.hid hbW; clear hb4 hMW hbW)
      | (go_simp; go_at_call 59; refine (key_any _ ⟨g, o, t, i, v, s, mm, l⟩).mono ?_; rintro e w4 ⟨rfl, hb4⟩; unfold kval keyOfHd; have hbW : Below W3.heap.size W3 w4 := (((Below.refl W3.heap.size W3).alloc (Nat.le_refl _) _).drew).trans (hb4.mono (by simp)); have hMW : MapIs hdval w4 m M := HM3.out.below hbW hmW3; have c22w : w4.cell? ⟨B, 22, none⟩ = some (.map (some m)) := (hbW.cell hBW3).trans c22; have hlk := hMW.look hk Try.underlying64 (zeroHead _) true; have hlk2 := fun ob => (hMW.alloc ob).look hk Try.underlying64 (zeroHead _) true; rw [HMk.out] at hlk hlk2; simp only [kval, hdval, Option.elim, Option.isSome, if_true] at hlk hlk2; have kz := ((Blk.new W3 59 #[.int .u16 0, .int .u8 0, .int .u8 0, .int .u32 0, .int .u32 0, .int .i32 0, .int .u16 0, .int .u16 0]).drew).below hb4 (by simp); have y0 : w4.cell? ⟨W3.heap.size, 0, none⟩ = some (.int .u16 0) := kz.cell 0; have y1 : w4.cell? ⟨W3.heap.size, 1, none⟩ = some (.int .u8 0) := kz.cell 1; have y2 : w4.cell? ⟨W3.heap.size, 2, none⟩ = some (.int .u8 0) := kz.cell 2; have y3 : w4.cell? ⟨W3.heap.size, 3, none⟩ = some (.int .u32 0) := kz.cell 3; have y4 : w4.cell? ⟨W3.heap.size, 4, none⟩ = some (.int .u32 0) := kz.cell 4; have y5 : w4.cell? ⟨W3.heap.size, 5, none⟩ = some (.int .i32 0) := kz.cell 5; have y6 : w4.cell? ⟨W3.heap.size, 6, none⟩ = some (.int .u16 0) := kz.cell 6; have y7 : w4.cell? ⟨W3.heap.size, 7, none⟩ = some (.int .u16 0) := kz.cell 7; have fz := kz.frozen; have KZ := Lib.hid kz; clear kz; have hs4 : W3.heap.size ≤ w4.heap.size := hbW.size; have hBw4 : B < w4.heap.size := Nat.lt_of_lt_of_le hBW3 hs4; have HB4 := Lib.hid hbW; clear hb4 hMW hbW))
    all_goals clear c22 z0 z1 z2 z3 z4 z5 z6 z7 hlk hlk2 c22w
    all_goals try clear y0 y1 y2 y3 y4 y5 y6 y7 fz
    all_goals
      go_wp2_with fail
      go_meet
      case rel =>
        first
          | (refine ⟨rfl, _, rfl, ?_⟩; with_reducible exact set8 KZ.out HB4.out (Nat.le_refl _))
          | (refine ⟨rfl, _, rfl, ?_⟩; with_reducible exact ⟨Blk.new w4 _ _, HB4.out.alloc hs4 _⟩)
  case rest =>
    obtain ⟨rfl, b, rfl, hb, hbel⟩ := hcut
    have hbW : Below w.heap.size w wc := HB3.out.trans (hbel.mono HB3.out.size)
    have kx := HH3.out.below hbel hwW3
    have e0 : wc.cell? ⟨b, 0, none⟩ = some (.int .u16 g) := hb.cell 0
    have e1 : wc.cell? ⟨b, 1, none⟩ = some (.int .u8 o) := hb.cell 1
    have e2 : wc.cell? ⟨b, 2, none⟩ = some (.int .u8 t) := hb.cell 2
    have e3 : wc.cell? ⟨b, 3, none⟩ = some (.int .u32 i) := hb.cell 3
    have e4 : wc.cell? ⟨b, 4, none⟩ = some (.int .u32 v) := hb.cell 4
    have e5 : wc.cell? ⟨b, 5, none⟩ = some (.int .i32 s) := hb.cell 5
    have e6 : wc.cell? ⟨b, 6, none⟩ = some (.int .u16 mm) := hb.cell 6
    have e7 : wc.cell? ⟨b, 7, none⟩ = some (.int .u16 l) := hb.cell 7
    have x0 : wc.cell? ⟨w.heap.size, 0, none⟩ = some (.int .u16 g) := kx.cell 0
    have x1 : wc.cell? ⟨w.heap.size, 1, none⟩ = some (.int .u8 o) := kx.cell 1
    have x2 : wc.cell? ⟨w.heap.size, 2, none⟩ = some (.int .u8 t) := kx.cell 2
    have x3 : wc.cell? ⟨w.heap.size, 3, none⟩ = some (.int .u32 i) := kx.cell 3
    have x4 : wc.cell? ⟨w.heap.size, 4, none⟩ = some (.int .u32 v) := kx.cell 4
    have x5 : wc.cell? ⟨w.heap.size, 5, none⟩ = some (.int .i32 s) := kx.cell 5
    have x6 : wc.cell? ⟨w.heap.size, 6, none⟩ = some (.int .u16 mm) := kx.cell 6
    have x7 : wc.cell? ⟨w.heap.size, 7, none⟩ = some (.int .u16 l) := kx.cell 7
    have HKX := Lib.hid kx
    have HBW := Lib.hid hbW
    clear z0 z1 z2 z3 z4 z5 z6 z7 c22 hb hbel kx hbW
    go_wp2_with fail
    refine (newer_any g o t i v s mm l g o t i v s mm l _ hg0 hg1 hg0 hg1).mono ?_
    rw [newer_self]
    rintro e w5 ⟨rfl, hb5⟩
    have hb05 : Below w.heap.size w w5 := HBW.out.trans (hb5.mono HBW.out.size)
    have kx5 := HKX.out.below hb5 HKX.out.lt
    have c22 : w5.cell? ⟨B, 22, none⟩ = some (.map (some m)) := (hb05.cell hBlt).trans ((HW.out.adj.cell 22).trans (congrArg some HW.out.want))
    have x0 : w5.cell? ⟨w.heap.size, 0, none⟩ = some (.int .u16 g) := kx5.cell 0
    have x1 : w5.cell? ⟨w.heap.size, 1, none⟩ = some (.int .u8 o) := kx5.cell 1
    have x2 : w5.cell? ⟨w.heap.size, 2, none⟩ = some (.int .u8 t) := kx5.cell 2
    have x3 : w5.cell? ⟨w.heap.size, 3, none⟩ = some (.int .u32 i) := kx5.cell 3
    have x4 : w5.cell? ⟨w.heap.size, 4, none⟩ = some (.int .u32 v) := kx5.cell 4
    have x5 : w5.cell? ⟨w.heap.size, 5, none⟩ = some (.int .i32 s) := kx5.cell 5
    have x6 : w5.cell? ⟨w.heap.size, 6, none⟩ = some (.int .u16 mm) := kx5.cell 6
    have x7 : w5.cell? ⟨w.heap.size, 7, none⟩ = some (.int .u16 l) := kx5.cell 7
    have HKX5 := Lib.hid kx5
    have HB5 := Lib.hid hb05
    have hms5 : B < w5.heap.size := Nat.lt_of_lt_of_le hBlt hb05.size
    clear kx5 hb05 hb5 e0 e1 e2 e3 e4 e5 e6 e7
    go_upto_region 6 with fail
    go_cut [38] (fun _ wx => ∃ wy, Below w.heap.size w wy ∧ Frame (fun j => j = m) wy wx ∧ MapIs hdval wx m (upd M ⟨t, i, v⟩ none) ∧ Blk wx w.heap.size 59 #[.int .u16 g, .int .u8 o, .int .u8 t, .int .u32 i, .int .u32 v, .int .i32 s, .int .u16 mm, .int .u16 l])
    case first =>
      go_region_law (first
        | (go_simp; go_at_call 59; refine (key_any _ ⟨g, o, t, i, v, s, mm, l⟩).mono ?_; rintro e w6 ⟨rfl, hb6⟩; unfold kval keyOfHd; have hb06 : Below w.heap.size w w6 := (HB5.out.drew).trans (hb6.mono HB5.out.size); have c22x : w6.cell? ⟨B, 22, none⟩ = some (.map (some m)) := (hb06.cell hBlt).trans ((HW.out.adj.cell 22).trans (congrArg some HW.out.want)); obtain ⟨w7, hrun7, hM7, hg7, hs7⟩ := (HW.out.map.below hb06 hmlt).drop (ty := 0) hk Try.underlying64; simp only [kval] at hrun7; have HK6 := Lib.hid (HKX5.out.drew.below hb6 HKX5.out.lt); have HB6 := Lib.hid hb06; have HM7 := Lib.hid hM7; have HG7 := Lib.hid hg7; have HR7 := Lib.hid hrun7; clear hb6 hb06 hM7 hg7 hs7 hrun7)
        | (refine step_delete rfl (.tmp 36) (.tmp 38) 64 56 rfl rfl rfl HR7.out ?_))
      all_goals
        go_wp2_with fail
        go_meet
        case rel => exact ⟨w6, HB6.out, Frame.of_grown HG7.out (fun k e _ => by cases e; rfl), HM7.out, HK6.out.grown HG7.out (by simp; omega)⟩
    case rest =>
      obtain ⟨wy, hby, hfy, hM, hK⟩ := hcut
      have hfr : Frame (fun j => j = m) w wc := (Frame.of_below hby).trans hfy
      have hBm : B ≠ m := HW.out.map.blk_ne HW.out.adj
      have kA : AdjAt wc B a := hfr.blk HW.out.adj hBm
      have kO := hfr.own HW.out.order (fun g' hg e => own_map_ne HW.out.order HW.out.map (by rw [hg, e]))
      have kS := hfr.own HA.out (fun g' hg e => own_map_ne HA.out HW.out.map (by rw [hg, e]))
      obtain ⟨og, Oc, hov, -, hog⟩ := kO.form (by simp)
      obtain ⟨sg, Sc, hsv, -, hsg⟩ := kS.form (by simp)
      rw [hov] at kO
      rw [hsv] at kS
      have o0 : wc.cell? ⟨og, 0, none⟩ = some (.int .u8 t) := kO.cellAt 0 (by simp)
      have o1 : wc.cell? ⟨og, 1, none⟩ = some (.int .u32 i) := kO.cellAt 1 (by simp)
      have o2 : wc.cell? ⟨og, 2, none⟩ = some (.int .u32 v) := kO.cellAt 2 (by simp)
      have b21 : wc.cell? ⟨B, 21, none⟩ = some (.slice (some ⟨og, 0, none⟩) 1 Oc) := (kA.cell 21).trans (congrArg some hov)
      have HK := Lib.hid hK
      have HMx := Lib.hid hM
      have HFr := Lib.hid hfr
      have HKA := Lib.hid kA
      have HKO := Lib.hid kO
      have HKS := Lib.hid kS
      have Hsv := Lib.hid hsv
      clear hK hM hfr kA kO kS hby hfy x0 x1 x2 x3 x4 x5 x6 x7 c22 hov hsv
      go_wp2_with fail
      refine wp_loop_rounds 1 ?_
      rw [rounds_succ]
      go_upto_region 10 with fail
      have hwc : w.heap.size < wc.heap.size := HK.out.lt
      have q0 := later_cell (v := .int .u16 g) (B := wc.heap.size + 1) (w0 := (wc.alloc (.cells #[.int .u8 t, .int .u32 i, .int .u32 v] 56))) (p := ⟨w.heap.size, 0, none⟩) (by simp; omega) ((HK.out.alloc _).cell 0)
      have q1 := later_cell (v := .int .u8 o) (B := wc.heap.size + 1) (w0 := (wc.alloc (.cells #[.int .u8 t, .int .u32 i, .int .u32 v] 56))) (p := ⟨w.heap.size, 1, none⟩) (by simp; omega) ((HK.out.alloc _).cell 1)
      have q2 := later_cell (v := .int .u8 t) (B := wc.heap.size + 1) (w0 := (wc.alloc (.cells #[.int .u8 t, .int .u32 i, .int .u32 v] 56))) (p := ⟨w.heap.size, 2, none⟩) (by simp; omega) ((HK.out.alloc _).cell 2)
      have q3 := later_cell (v := .int .u32 i) (B := wc.heap.size + 1) (w0 := (wc.alloc (.cells #[.int .u8 t, .int .u32 i, .int .u32 v] 56))) (p := ⟨w.heap.size, 3, none⟩) (by simp; omega) ((HK.out.alloc _).cell 3)
      have q4 := later_cell (v := .int .u32 v) (B := wc.heap.size + 1) (w0 := (wc.alloc (.cells #[.int .u8 t, .int .u32 i, .int .u32 v] 56))) (p := ⟨w.heap.size, 4, none⟩) (by simp; omega) ((HK.out.alloc _).cell 4)
      have q5 := later_cell (v := .int .i32 s) (B := wc.heap.size + 1) (w0 := (wc.alloc (.cells #[.int .u8 t, .int .u32 i, .int .u32 v] 56))) (p := ⟨w.heap.size, 5, none⟩) (by simp; omega) ((HK.out.alloc _).cell 5)
      have q6 := later_cell (v := .int .u16 mm) (B := wc.heap.size + 1) (w0 := (wc.alloc (.cells #[.int .u8 t, .int .u32 i, .int .u32 v] 56))) (p := ⟨w.heap.size, 6, none⟩) (by simp; omega) ((HK.out.alloc _).cell 6)
      have q7 := later_cell (v := .int .u16 l) (B := wc.heap.size + 1) (w0 := (wc.alloc (.cells #[.int .u8 t, .int .u32 i, .int .u32 v] 56))) (p := ⟨w.heap.size, 7, none⟩) (by simp; omega) ((HK.out.alloc _).cell 7)
      have r0 := later_cell (v := .int .u8 t) (B := wc.heap.size + 1) (w0 := (wc.alloc (.cells #[.int .u8 t, .int .u32 i, .int .u32 v] 56))) (p := ⟨wc.heap.size, 0, none⟩) (by simp) ((Blk.new wc _ _).cell 0)
      have r1 := later_cell (v := .int .u32 i) (B := wc.heap.size + 1) (w0 := (wc.alloc (.cells #[.int .u8 t, .int .u32 i, .int .u32 v] 56))) (p := ⟨wc.heap.size, 1, none⟩) (by simp) ((Blk.new wc _ _).cell 1)
      have r2 := later_cell (v := .int .u32 v) (B := wc.heap.size + 1) (w0 := (wc.alloc (.cells #[.int .u8 t, .int .u32 i, .int .u32 v] 56))) (p := ⟨wc.heap.size, 2, none⟩) (by simp) ((Blk.new wc _ _).cell 2)
      have dk : Hid (∀ u : Later (wc.heap.size + 1) (wc.alloc (.cells #[.int .u8 t, .int .u32 i, .int .u32 v] 56)), Calls Try.prog 59 #[.agg #[.int .u16 g, .int .u8 o, .int .u8 t, .int .u32 i, .int .u32 v, .int .i32 s, .int .u16 mm, .int .u16 l]] u.to fun e w' => e = .returned (.agg #[.int .u8 t, .int .u32 i, .int .u32 v]) ∧ Below u.to.heap.size u.to w') := Lib.hid (fun u => key_any u.to ⟨g, o, t, i, v, s, mm, l⟩)
      refine wp_region_later (B := wc.heap.size + 1) (w0 := _) (by kernel_rfl) (by kernel_rfl) (Below.refl _ _) ?_
      repeat (go_big_quiet_step (first
        | (go_at_call 59; with_reducible exact later_call _ (by simp) (dk.out _))))
      refine wpQuiet_nil ?_
      rintro wx ⟨⟨wy, hwy⟩, hw⟩
      obtain rfl : wx = wy := hw
      have hbx : Below wc.heap.size wc wx := ((Below.refl _ wc).alloc (Nat.le_refl _) _).trans (hwy.mono (by omega))
      have kAx := HKA.out.below hbx HKA.out.lt
      have b21 : wx.cell? ⟨B, 21, none⟩ = some (.slice (some ⟨og, 0, none⟩) 1 Oc) := (hbx.cell (p := ⟨B, 21, none⟩) HKA.out.lt).trans b21
      have fx := kAx.frozen
      have HBx := Lib.hid hbx
      have HAx := Lib.hid kAx
      clear q0 q1 q2 q3 q4 q5 q6 q7 r0 r1 r2 dk hbx kAx hwy o0 o1 o2
      go_upto_region 11 with fail
      obtain ⟨i0, hi, hz0, hz1, hz2⟩ := info_parts key_info
      have hw1 : IntKind.i64.wrap 1 = 1 := by decide
      obtain ⟨A67, hA67⟩ : ∃ A67 : Option Addr, (if Oc = 1 then some (⟨og, 0, none⟩ : Addr) else some ⟨og, 3, none⟩) = A67 := ⟨_, rfl⟩
      go_region_law (refine step_append_zero rfl (.tmp 60) (.tmp 67) 38 rfl 56 i0 Try.underlying38 hi ⟨og, 0, none⟩ 0 _ (Oc - 1) rfl rfl ?_)
      all_goals
        obtain ⟨W8, hW8⟩ : ∃ W8, W8 = (wx.setCell ⟨B, 21, none⟩ (.slice (some ⟨og, 0, none⟩) 0 0)).drew := ⟨_, rfl⟩
        have kA8 : AdjAt W8 B { a with order := .slice (some ⟨og, 0, none⟩) 0 0 } := by rw [hW8]; exact (HAx.out.set_ 21 _).drew
        have kF8 : Frame (fun j => j = B ∨ j = m) w W8 := by
          rw [hW8]
          exact (((HFr.out.mono (T := fun j => j = B ∨ j = m) (fun _ e => .inr e)).trans (Frame.of_below HBx.out)).setCell (p := ⟨B, 21, none⟩) (fun _ => .inl rfl) _).drew
        have kM8 : MapIs hdval W8 m (upd M ⟨t, i, v⟩ none) := by
          rw [hW8]
          exact ((HMx.out.below HBx.out HMx.out.lt).setCell (fun e => hBm e.symm) _).drew
        have kS8 : W8.ownsRow 0 56 3 (.slice (some ⟨sg, 0, none⟩) [(⟨t, i, v⟩ : Od.Ky)].length Sc) [(⟨t, i, v⟩ : Od.Ky)].length ([(⟨t, i, v⟩ : Od.Ky)].flatMap kcells) := by
          rw [hW8]
          have h1 := (Frame.of_below (S := fun _ => False) HBx.out).own HKS.out (fun _ _ e => e)
          exact own_far h1 (q := ⟨B, 21, none⟩) (own_blk_ne h1 HAx.out (by decide)) _
        have u0 : W8.cell? ⟨sg, 0, none⟩ = some (.int .u8 t) := kS8.cellAt 0 (by simp)
        have u1 : W8.cell? ⟨sg, 1, none⟩ = some (.int .u32 i) := kS8.cellAt 1 (by simp)
        have u2 : W8.cell? ⟨sg, 2, none⟩ = some (.int .u32 v) := kS8.cellAt 2 (by simp)
        have b23 : W8.cell? ⟨B, 23, none⟩ = some (.slice (some ⟨sg, 0, none⟩) 1 Sc) := (kA8.cell 23).trans (congrArg some Hsv.out)
        have b22 : W8.cell? ⟨B, 22, none⟩ = some (.map (some m)) := (kA8.cell 22).trans (congrArg some HW.out.want)
        have b8 : W8.cell? ⟨B, 8, none⟩ = some (.int .u8 2) := (kA8.cell 8).trans (by rw [← Hst.out]; rfl)
        have b21' : W8.cell? ⟨B, 21, none⟩ = some (.slice (some ⟨og, 0, none⟩) 0 0) := kA8.cell 21
        have f8 := kA8.frozen
        have hBW8 : B < W8.heap.size := kA8.lt
        have hM9 := kM8.alloc (.cells #[.int .u8 t, .int .u32 i, .int .u32 v] 56)
        have hlk1 := (hM9.drew).look hk Try.underlying64 (zeroHead _) true
        have hlk2 := fun ob => ((hM9.alloc ob).drew).look hk Try.underlying64 (zeroHead _) true
        rw [upd_self] at hlk1 hlk2
        simp only [kval, hdval, Option.elim, Option.isSome, if_true] at hlk1 hlk2
        have KA8 := Lib.hid kA8
        have KF8 := Lib.hid kF8
        clear kA8 kF8 kM8 kS8 hM9 b21 fx
        rw [← hW8]
        clear hW8
        go_wp2_with fail
        refine wp_loop_rounds 2 ?_
        rw [rounds_succ]
        go_upto_region 18 with fail
        go_region
        go_wp2_with fail
        rw [rounds_succ]
        go_wp2_with fail
        go_ret
        refine ⟨rfl, .slice (some ⟨og, 0, none⟩) 0 0, ?_, ?_⟩
        · exact (((KA8.out.set_ 8 _).alloc _).alloc _).drew
        · exact (((KF8.out.setCell (p := ⟨B, 8, none⟩) (fun _ => .inl rfl) _).alloc _).alloc _).drew
end Go.Proofs.Ytgbmhijgpdgdbaa
