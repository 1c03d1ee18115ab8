/- The first of the heads that are wanted has come. -/
import Derived.Test.YtgbmhijgpdgdbaaFaGot
import Derived.Test.YtgbmhijgpdgdbaaFaNew
import Derived.Deep.RegionLawGrows
namespace Go.Proofs.Ytgbmhijgpdgdbaa
open Go.RowKit

theorem Reads.key {w : World} {B n : Nat} {A : Option Addr} {l : List Od.Ky} (h : Reads w B 3 A n (l.flatMap kcells)) {k : Nat} {x : Od.Ky} (hx : l[k]? = some x) :
    ∃ b off, A = some ⟨b, off, none⟩ ∧ b < B ∧ ∀ i u, (kcells x)[i]? = some u → w.cell? ⟨b, off + k * 3 + i, none⟩ = some u := by
  have hk : k < l.length := (List.getElem?_eq_some_iff.1 hx).1
  have hlen : (l.flatMap kcells).length = l.length * 3 := by
    clear h hx hk
    induction l with
    | nil => rfl
    | cons a t ih => simp only [List.flatMap_cons, List.length_append, ih, List.length_cons]; simp [kcells]; omega
  have hn : n = l.length := by have := h.1; omega
  obtain ⟨ad, rfl, hb, hc⟩ := h.2 (by omega)
  have hcell : ∀ (k : Nat) (x : Od.Ky), l[k]? = some x → ∀ i u, (kcells x)[i]? = some u → (l.flatMap kcells)[k * 3 + i]? = some u := by
    intro k x hx i u hu
    have hd : (l.flatMap kcells).drop (k * 3) = (l.drop k).flatMap kcells := (kflat_drop l k).symm
    have hi : i < 3 := by
      have := (List.getElem?_eq_some_iff.1 hu).1
      simpa [kcells] using this
    rw [← List.getElem?_drop, hd]
    have hk : k < l.length := (List.getElem?_eq_some_iff.1 hx).1
    rw [List.drop_eq_getElem_cons hk, List.flatMap_cons, List.getElem?_append_left (by simp [kcells]; omega)]
    rw [List.getElem?_eq_getElem hk] at hx
    cases hx
    exact hu
  have hs := World.cell?_spot (hc (0 * 3 + 0) _ (hcell 0 l[0] (List.getElem?_eq_getElem (by omega)) 0 _ rfl))
  obtain ⟨b, off, sp⟩ := ad
  have hsp : sp = none := by simpa [Addr.add] using hs
  subst hsp
  refine ⟨b, off, rfl, hb, fun i u hu => ?_⟩
  have := hc (k * 3 + i) u (hcell k x hx i u hu)
  unfold Addr.add at this
  split at this
  · rename_i h0
    rw [show off + k * 3 + i = off from by omega]; exact this
  · rw [show off + k * 3 + i = off + (k * 3 + i) from by omega]; exact this

theorem slice_l38 (w : World) (A : Option Addr) (n c k : Nat) (hk : k ≤ n) : (Instr.slice 38 (.slice A n c) (some (.int .i64 k)) none none).run Try.prog w = .ok (.slice (if c = k then A else A.map (·.add (k * 3))) (n - k) (c - k)) w := by
  rw [run_slice_l w 38 A n c elem38 _ _ (by omega) (by omega), key_size]
  simp only [Result.andThen, sliced, Int.toNat_natCast]

/-- Is one of the keys still wanted? -/
def stillB (M : Od.Ky → Option Od.Hd) (A : List Od.Ky) : Bool := A.any fun k => (M k).isSome
theorem still_f {M : Od.Ky → Option Od.Hd} {A : List Od.Ky} (h : ∀ (j : Nat) (x : Od.Ky), A[j]? = some x → M x = none) : stillB M A = false := by
  unfold stillB
  rw [List.any_eq_false]
  intro x hx
  obtain ⟨j, hj, e⟩ := List.getElem_of_mem hx
  rw [h j x (by rw [List.getElem?_eq_getElem hj, e])]
  decide
theorem still_t {M : Od.Ky → Option Od.Hd} {A : List Od.Ky} {x : Od.Ky} (hx : x ∈ A) (h : (M x).isSome = true) : stillB M A = true := List.any_eq_true.2 ⟨x, hx, h⟩

def GotPost (B m : Nat) (a : Adj) (O : List Od.Ky) (M : Od.Ky → Option Od.Hd) (A : List Od.Ky) (w : World) (e : Ending) (w' : World) : Prop :=
  Frame (fun k => k = B ∨ k = m) w w' ∧ ∃ ov,
    if O = [] then ov.ownBlock = a.order.ownBlock ∧ (stillB M A = false → e = .returned (.slice none 0 0) ∧ AdjAt w' B { a with order := ov, state := 3 })
    else (∃ g, ov.ownBlock = some g ∧ w.heap.size ≤ g) ∧
      if stillB M A then e = .returned (.slice none 0 0) ∧ Wants w' B m { a with order := ov } O M
      else ∃ v kv av, e = .returned v ∧ w'.ownsRow w.heap.size 40 7 v 1 (Raw.cells ⟨false, 0, 0, 0, 0, .slice none 0 0, kv⟩) ∧ KeysOwn w' w.heap.size kv (O.take 16) ∧ KeysOwn w' w.heap.size av (O.take 16) ∧ Wants w' B m (({ a with order := ov } : Adj).requested av) O M

set_option maxHeartbeats 2000000 in
set_option maxRecDepth 20000 in
theorem got_first (w : World) (B m : Nat) (a : Adj) (O A : List Od.Ky) (M : Od.Ky → Option Od.Hd) (g o t i v s mm l : Int) (h : Wants w B m a (⟨t, i, v⟩ :: O) M) (hk : KyOk ⟨t, i, v⟩) (hM : M ⟨t, i, v⟩ = some ⟨g, o, t, i, v, s, mm, l⟩)
    (hA : KeysOwn w 0 a.asks A) (hAne : A ≠ []) (hAok : ∀ x ∈ A, KyOk x) (hO16 : O.length ≤ 65535) (hA16 : A.length ≤ 65536) (hst : a.state = 2) (hmade : a.made = true) (hg0 : 0 ≤ g) (hg1 : g ≤ 65535) (hrx : 0 ≤ a.rxmt ∧ a.rxmt < 65536) :
    Calls Try.prog 25 #[.pointer (some ⟨B, 0, none⟩), hdval ⟨g, o, t, i, v, s, mm, l⟩] w fun e w' => GotPost B m a O (upd M ⟨t, i, v⟩ none) A w e w' := by
  have HAok := Lib.hid hAok
  have HAne := Lib.hid hAne
  have HRx := Lib.hid hrx
  have HA16 := Lib.hid hA16
  clear hAok hAne hrx
  have hBlt := h.adj.lt
  have hmlt := h.map.lt
  have HW := Lib.hid h
  have HA := Lib.hid hA
  have HMk := Lib.hid hM
  have Hm := Lib.hid hmade
  have Hst := Lib.hid hst
  clear h hA hM hst hmade
  unfold hdval
  go_enter Try.func25, Try.ntmps25
  go_upto_region 3 with (go_at_call 50; refine (none_yes _ B a (HW.out.adj.alloc _) Hm.out).mono ?_; rintro e w' ⟨rfl, rfl⟩)
  obtain ⟨W3, hW3⟩ : ∃ W3, W3 = w.alloc (.cells #[.int .u16 g, .int .u8 o, .int .u8 t, .int .u32 i, .int .u32 v, .int .i32 s, .int .u16 mm, .int .u16 l] 59) := ⟨_, rfl⟩
  have kh3 : Blk W3 w.heap.size 59 #[.int .u16 g, .int .u8 o, .int .u8 t, .int .u32 i, .int .u32 v, .int .i32 s, .int .u16 mm, .int .u16 l] := by rw [hW3]; exact Blk.new w _ _
  have kb3 : Below w.heap.size w W3 := by rw [hW3]; exact (Below.refl _ w).alloc (Nat.le_refl _) _
  rw [← hW3]
  have HH3 := Lib.hid kh3
  have HB3 := Lib.hid kb3
  have hwW3 : w.heap.size < W3.heap.size := kh3.lt
  have hBW3 : B < W3.heap.size := by omega
  have hmW3 : m < W3.heap.size := by omega
  have z0 : W3.cell? ⟨w.heap.size, 0, none⟩ = some (.int .u16 g) := kh3.cell 0
  have z1 : W3.cell? ⟨w.heap.size, 1, none⟩ = some (.int .u8 o) := kh3.cell 1
  have z2 : W3.cell? ⟨w.heap.size, 2, none⟩ = some (.int .u8 t) := kh3.cell 2
  have z3 : W3.cell? ⟨w.heap.size, 3, none⟩ = some (.int .u32 i) := kh3.cell 3
  have z4 : W3.cell? ⟨w.heap.size, 4, none⟩ = some (.int .u32 v) := kh3.cell 4
  have z5 : W3.cell? ⟨w.heap.size, 5, none⟩ = some (.int .i32 s) := kh3.cell 5
  have z6 : W3.cell? ⟨w.heap.size, 6, none⟩ = some (.int .u16 mm) := kh3.cell 6
  have z7 : W3.cell? ⟨w.heap.size, 7, none⟩ = some (.int .u16 l) := kh3.cell 7
  have c22 : W3.cell? ⟨B, 22, none⟩ = some (.map (some m)) := (kb3.cell hBlt).trans ((HW.out.adj.cell 22).trans (congrArg some HW.out.want))
  have HM3 := Lib.hid (HW.out.map.below kb3 hmlt)
  clear hW3 kh3 kb3
  go_cut [5, 6] (fun p is wx => is = .bool true ∧ ∃ b, p = .pointer (some ⟨b, 0, none⟩) ∧ Blk wx b 59 #[.int .u16 g, .int .u8 o, .int .u8 t, .int .u32 i, .int .u32 v, .int .i32 s, .int .u16 mm, .int .u16 l] ∧ Below W3.heap.size W3 wx)
  case first =>
    go_region_law (first
      | (go_simp; go_at_call 59; refine (key_any _ ⟨g, o, t, i, v, s, mm, l⟩).mono ?_; rintro e w4 ⟨rfl, hb4⟩; unfold kval keyOfHd; have hbW : Below W3.heap.size W3 w4 := (Below.refl W3.heap.size W3).drew.trans hb4; have hMW : MapIs hdval w4 m M := HM3.out.below hbW hmW3; have c22w : w4.cell? ⟨B, 22, none⟩ = some (.map (some m)) := (hbW.cell hBW3).trans c22; have hlk := hMW.look hk Try.underlying64 (zeroHead _) true; have hlk2 := fun ob => (hMW.alloc ob).look hk Try.underlying64 (zeroHead _) true; rw [HMk.out] at hlk hlk2; simp only [kval, hdval, Option.elim, Option.isSome, if_true] at hlk hlk2; have hs4 : W3.heap.size ≤ w4.heap.size := hbW.size; have hBw4 : B < w4.heap.size := Nat.lt_of_lt_of_le hBW3 hs4; have HB4 := Lib.hid hbW; clear hb4 hMW hbW)
      | (go_simp; go_at_call 59; refine (key_any _ ⟨g, o, t, i, v, s, mm, l⟩).mono ?_; rintro e w4 ⟨rfl, hb4⟩; unfold kval keyOfHd; have hbW : Below W3.heap.size W3 w4 := (((Below.refl W3.heap.size W3).alloc (Nat.le_refl _) _).drew).trans (hb4.mono (by simp)); have hMW : MapIs hdval w4 m M := HM3.out.below hbW hmW3; have c22w : w4.cell? ⟨B, 22, none⟩ = some (.map (some m)) := (hbW.cell hBW3).trans c22; have hlk := hMW.look hk Try.underlying64 (zeroHead _) true; have hlk2 := fun ob => (hMW.alloc ob).look hk Try.underlying64 (zeroHead _) true; rw [HMk.out] at hlk hlk2; simp only [kval, hdval, Option.elim, Option.isSome, if_true] at hlk hlk2; have kz := ((Blk.new W3 59 #[.int .u16 0, .int .u8 0, .int .u8 0, .int .u32 0, .int .u32 0, .int .i32 0, .int .u16 0, .int .u16 0]).drew).below hb4 (by simp); have y0 : w4.cell? ⟨W3.heap.size, 0, none⟩ = some (.int .u16 0) := kz.cell 0; have y1 : w4.cell? ⟨W3.heap.size, 1, none⟩ = some (.int .u8 0) := kz.cell 1; have y2 : w4.cell? ⟨W3.heap.size, 2, none⟩ = some (.int .u8 0) := kz.cell 2; have y3 : w4.cell? ⟨W3.heap.size, 3, none⟩ = some (.int .u32 0) := kz.cell 3; have y4 : w4.cell? ⟨W3.heap.size, 4, none⟩ = some (.int .u32 0) := kz.cell 4; have y5 : w4.cell? ⟨W3.heap.size, 5, none⟩ = some (.int .i32 0) := kz.cell 5; have y6 : w4.cell? ⟨W3.heap.size, 6, none⟩ = some (.int .u16 0) := kz.cell 6; have y7 : w4.cell? ⟨W3.heap.size, 7, none⟩ = some (.int .u16 0) := kz.cell 7; have fz := kz.frozen; have KZ := Lib.hid kz; clear kz; have hs4 : W3.heap.size ≤ w4.heap.size := hbW.size; have hBw4 : B < w4.heap.size := Nat.lt_of_lt_of_le hBW3 hs4; have HB4 := Lib.hid hbW; clear hb4 hMW hbW))
    all_goals clear c22 z0 z1 z2 z3 z4 z5 z6 z7 hlk hlk2 c22w
    all_goals try clear y0 y1 y2 y3 y4 y5 y6 y7 fz
    all_goals
      go_wp2_with fail
      go_meet
      case rel =>
        first
          | (refine ⟨rfl, _, rfl, ?_⟩; with_reducible exact set8 KZ.out HB4.out (Nat.le_refl _))
          | (refine ⟨rfl, _, rfl, ?_⟩; with_reducible exact ⟨Blk.new w4 _ _, HB4.out.alloc hs4 _⟩)
  case rest =>
    obtain ⟨rfl, b, rfl, hb, hbel⟩ := hcut
    have hbW : Below w.heap.size w wc := HB3.out.trans (hbel.mono HB3.out.size)
    have kx := HH3.out.below hbel hwW3
    have e0 : wc.cell? ⟨b, 0, none⟩ = some (.int .u16 g) := hb.cell 0
    have e1 : wc.cell? ⟨b, 1, none⟩ = some (.int .u8 o) := hb.cell 1
    have e2 : wc.cell? ⟨b, 2, none⟩ = some (.int .u8 t) := hb.cell 2
    have e3 : wc.cell? ⟨b, 3, none⟩ = some (.int .u32 i) := hb.cell 3
    have e4 : wc.cell? ⟨b, 4, none⟩ = some (.int .u32 v) := hb.cell 4
    have e5 : wc.cell? ⟨b, 5, none⟩ = some (.int .i32 s) := hb.cell 5
    have e6 : wc.cell? ⟨b, 6, none⟩ = some (.int .u16 mm) := hb.cell 6
    have e7 : wc.cell? ⟨b, 7, none⟩ = some (.int .u16 l) := hb.cell 7
    have x0 : wc.cell? ⟨w.heap.size, 0, none⟩ = some (.int .u16 g) := kx.cell 0
    have x1 : wc.cell? ⟨w.heap.size, 1, none⟩ = some (.int .u8 o) := kx.cell 1
    have x2 : wc.cell? ⟨w.heap.size, 2, none⟩ = some (.int .u8 t) := kx.cell 2
    have x3 : wc.cell? ⟨w.heap.size, 3, none⟩ = some (.int .u32 i) := kx.cell 3
    have x4 : wc.cell? ⟨w.heap.size, 4, none⟩ = some (.int .u32 v) := kx.cell 4
    have x5 : wc.cell? ⟨w.heap.size, 5, none⟩ = some (.int .i32 s) := kx.cell 5
    have x6 : wc.cell? ⟨w.heap.size, 6, none⟩ = some (.int .u16 mm) := kx.cell 6
    have x7 : wc.cell? ⟨w.heap.size, 7, none⟩ = some (.int .u16 l) := kx.cell 7
    have HKX := Lib.hid kx
    have HBW := Lib.hid hbW
    clear z0 z1 z2 z3 z4 z5 z6 z7 c22 hb hbel kx hbW
    go_wp2_with fail
    refine (newer_any g o t i v s mm l g o t i v s mm l _ hg0 hg1 hg0 hg1).mono ?_
    rw [newer_self]
    rintro e w5 ⟨rfl, hb5⟩
    have hb05 : Below w.heap.size w w5 := HBW.out.trans (hb5.mono HBW.out.size)
    have kx5 := HKX.out.below hb5 HKX.out.lt
    have c22 : w5.cell? ⟨B, 22, none⟩ = some (.map (some m)) := (hb05.cell hBlt).trans ((HW.out.adj.cell 22).trans (congrArg some HW.out.want))
    have x0 : w5.cell? ⟨w.heap.size, 0, none⟩ = some (.int .u16 g) := kx5.cell 0
    have x1 : w5.cell? ⟨w.heap.size, 1, none⟩ = some (.int .u8 o) := kx5.cell 1
    have x2 : w5.cell? ⟨w.heap.size, 2, none⟩ = some (.int .u8 t) := kx5.cell 2
    have x3 : w5.cell? ⟨w.heap.size, 3, none⟩ = some (.int .u32 i) := kx5.cell 3
    have x4 : w5.cell? ⟨w.heap.size, 4, none⟩ = some (.int .u32 v) := kx5.cell 4
    have x5 : w5.cell? ⟨w.heap.size, 5, none⟩ = some (.int .i32 s) := kx5.cell 5
    have x6 : w5.cell? ⟨w.heap.size, 6, none⟩ = some (.int .u16 mm) := kx5.cell 6
    have x7 : w5.cell? ⟨w.heap.size, 7, none⟩ = some (.int .u16 l) := kx5.cell 7
    have HKX5 := Lib.hid kx5
    have HB5 := Lib.hid hb05
    have hms5 : B < w5.heap.size := Nat.lt_of_lt_of_le hBlt hb05.size
    clear kx5 hb05 hb5 e0 e1 e2 e3 e4 e5 e6 e7
    go_upto_region 6 with fail
    go_cut [38] (fun _ wx => ∃ wy, Below w.heap.size w wy ∧ Frame (fun j => j = m) wy wx ∧ MapIs hdval wx m (upd M ⟨t, i, v⟩ none) ∧ Blk wx w.heap.size 59 #[.int .u16 g, .int .u8 o, .int .u8 t, .int .u32 i, .int .u32 v, .int .i32 s, .int .u16 mm, .int .u16 l])
    case first =>
      go_region_law (first
        | (go_simp; go_at_call 59; refine (key_any _ ⟨g, o, t, i, v, s, mm, l⟩).mono ?_; rintro e w6 ⟨rfl, hb6⟩; unfold kval keyOfHd; have hb06 : Below w.heap.size w w6 := (HB5.out.drew).trans (hb6.mono HB5.out.size); have c22x : w6.cell? ⟨B, 22, none⟩ = some (.map (some m)) := (hb06.cell hBlt).trans ((HW.out.adj.cell 22).trans (congrArg some HW.out.want)); obtain ⟨w7, hrun7, hM7, hg7, hs7⟩ := (HW.out.map.below hb06 hmlt).drop (ty := 0) hk Try.underlying64; simp only [kval] at hrun7; have HK6 := Lib.hid (HKX5.out.drew.below hb6 HKX5.out.lt); have HB6 := Lib.hid hb06; have HM7 := Lib.hid hM7; have HG7 := Lib.hid hg7; have HR7 := Lib.hid hrun7; clear hb6 hb06 hM7 hg7 hs7 hrun7)
        | (refine step_delete rfl (.tmp 36) (.tmp 38) 64 56 rfl rfl rfl HR7.out ?_))
      all_goals
        go_wp2_with fail
        go_meet
        case rel => exact ⟨w6, HB6.out, Frame.of_grown HG7.out (fun k e _ => by cases e; rfl), HM7.out, HK6.out.grown HG7.out (by simp; omega)⟩
    case rest =>
      obtain ⟨wy, hby, hfy, hM, hK⟩ := hcut
      have hfr : Frame (fun j => j = m) w wc := (Frame.of_below hby).trans hfy
      have hBm : B ≠ m := HW.out.map.blk_ne HW.out.adj
      have kA : AdjAt wc B a := hfr.blk HW.out.adj hBm
      have kO := hfr.own HW.out.order (fun g' hg e => own_map_ne HW.out.order HW.out.map (by rw [hg, e]))
      have kS := hfr.own HA.out (fun g' hg e => own_map_ne HA.out HW.out.map (by rw [hg, e]))
      obtain ⟨n1, hn1⟩ : ∃ n1 : Nat, n1 = O.length + 1 := ⟨_, rfl⟩
      obtain ⟨an, han⟩ : ∃ an : Nat, an = A.length := ⟨_, rfl⟩
      obtain ⟨og, Oc, hov, -, hog⟩ := kO.form (by simp)
      obtain ⟨sg, Sc, hsv, -, hsg⟩ := kS.form (by have := List.length_pos_iff.2 HAne.out; omega)
      have hOc : n1 ≤ Oc := by
        rcases kO.2 with ⟨_, e2⟩ | ⟨g', cap, cur, e1, e2, e3, e4, e5⟩
        · simp at e2
        · rw [hov] at e1
          injection e1 with _ _ e6
          simp at e4
          omega
      have hov : a.order = .slice (some ⟨og, 0, none⟩) n1 Oc := by rw [hov, hn1]; rfl
      have hsv : a.asks = .slice (some ⟨sg, 0, none⟩) an Sc := by rw [hsv, han]
      have kO : wc.ownsRow 0 56 3 (.slice (some ⟨og, 0, none⟩) n1 Oc) n1 ((⟨t, i, v⟩ :: O).flatMap kcells) := by have := kO; unfold KeysOwn at this; rw [hov] at this; rw [hn1] at this ⊢; exact this
      have kS : wc.ownsRow 0 56 3 (.slice (some ⟨sg, 0, none⟩) an Sc) an (A.flatMap kcells) := by have := kS; unfold KeysOwn at this; rw [hsv] at this; rw [han] at this ⊢; exact this
      have o0 : wc.cell? ⟨og, 0, none⟩ = some (.int .u8 t) := kO.cellAt 0 (by omega)
      have o1 : wc.cell? ⟨og, 1, none⟩ = some (.int .u32 i) := kO.cellAt 1 (by omega)
      have o2 : wc.cell? ⟨og, 2, none⟩ = some (.int .u32 v) := kO.cellAt 2 (by omega)
      have b21 : wc.cell? ⟨B, 21, none⟩ = some (.slice (some ⟨og, 0, none⟩) n1 Oc) := (kA.cell 21).trans (congrArg some hov)
      have HK := Lib.hid hK
      have HMx := Lib.hid hM
      have HFr := Lib.hid hfr
      have HKA := Lib.hid kA
      have HKO := Lib.hid kO
      have HKS := Lib.hid kS
      have Hsv := Lib.hid hsv
      have hn0 : (0 : Int) < n1 := by omega
      have Hov := Lib.hid hov
      have Hn1 := Lib.hid hn1
      have Han := Lib.hid han
      have HOc := Lib.hid hOc
      clear hn1 han hOc hK hM hfr kA kO kS hby hfy x0 x1 x2 x3 x4 x5 x6 x7 c22 hov hsv
      go_wp2_with fail
      refine wp_loop_rounds 1 ?_
      rw [rounds_succ]
      go_upto_region 10 with fail
      have hwc : w.heap.size < wc.heap.size := HK.out.lt
      have q0 := later_cell (v := .int .u16 g) (B := wc.heap.size + 1) (w0 := (wc.alloc (.cells #[.int .u8 t, .int .u32 i, .int .u32 v] 56))) (p := ⟨w.heap.size, 0, none⟩) (by simp; omega) ((HK.out.alloc _).cell 0)
      have q1 := later_cell (v := .int .u8 o) (B := wc.heap.size + 1) (w0 := (wc.alloc (.cells #[.int .u8 t, .int .u32 i, .int .u32 v] 56))) (p := ⟨w.heap.size, 1, none⟩) (by simp; omega) ((HK.out.alloc _).cell 1)
      have q2 := later_cell (v := .int .u8 t) (B := wc.heap.size + 1) (w0 := (wc.alloc (.cells #[.int .u8 t, .int .u32 i, .int .u32 v] 56))) (p := ⟨w.heap.size, 2, none⟩) (by simp; omega) ((HK.out.alloc _).cell 2)
      have q3 := later_cell (v := .int .u32 i) (B := wc.heap.size + 1) (w0 := (wc.alloc (.cells #[.int .u8 t, .int .u32 i, .int .u32 v] 56))) (p := ⟨w.heap.size, 3, none⟩) (by simp; omega) ((HK.out.alloc _).cell 3)
      have q4 := later_cell (v := .int .u32 v) (B := wc.heap.size + 1) (w0 := (wc.alloc (.cells #[.int .u8 t, .int .u32 i, .int .u32 v] 56))) (p := ⟨w.heap.size, 4, none⟩) (by simp; omega) ((HK.out.alloc _).cell 4)
      have q5 := later_cell (v := .int .i32 s) (B := wc.heap.size + 1) (w0 := (wc.alloc (.cells #[.int .u8 t, .int .u32 i, .int .u32 v] 56))) (p := ⟨w.heap.size, 5, none⟩) (by simp; omega) ((HK.out.alloc _).cell 5)
      have q6 := later_cell (v := .int .u16 mm) (B := wc.heap.size + 1) (w0 := (wc.alloc (.cells #[.int .u8 t, .int .u32 i, .int .u32 v] 56))) (p := ⟨w.heap.size, 6, none⟩) (by simp; omega) ((HK.out.alloc _).cell 6)
      have q7 := later_cell (v := .int .u16 l) (B := wc.heap.size + 1) (w0 := (wc.alloc (.cells #[.int .u8 t, .int .u32 i, .int .u32 v] 56))) (p := ⟨w.heap.size, 7, none⟩) (by simp; omega) ((HK.out.alloc _).cell 7)
      have r0 := later_cell (v := .int .u8 t) (B := wc.heap.size + 1) (w0 := (wc.alloc (.cells #[.int .u8 t, .int .u32 i, .int .u32 v] 56))) (p := ⟨wc.heap.size, 0, none⟩) (by simp) ((Blk.new wc _ _).cell 0)
      have r1 := later_cell (v := .int .u32 i) (B := wc.heap.size + 1) (w0 := (wc.alloc (.cells #[.int .u8 t, .int .u32 i, .int .u32 v] 56))) (p := ⟨wc.heap.size, 1, none⟩) (by simp) ((Blk.new wc _ _).cell 1)
      have r2 := later_cell (v := .int .u32 v) (B := wc.heap.size + 1) (w0 := (wc.alloc (.cells #[.int .u8 t, .int .u32 i, .int .u32 v] 56))) (p := ⟨wc.heap.size, 2, none⟩) (by simp) ((Blk.new wc _ _).cell 2)
      have dk : Hid (∀ u : Later (wc.heap.size + 1) (wc.alloc (.cells #[.int .u8 t, .int .u32 i, .int .u32 v] 56)), Calls Try.prog 59 #[.agg #[.int .u16 g, .int .u8 o, .int .u8 t, .int .u32 i, .int .u32 v, .int .i32 s, .int .u16 mm, .int .u16 l]] u.to fun e w' => e = .returned (.agg #[.int .u8 t, .int .u32 i, .int .u32 v]) ∧ Below u.to.heap.size u.to w') := Lib.hid (fun u => key_any u.to ⟨g, o, t, i, v, s, mm, l⟩)
      refine wp_region_later (B := wc.heap.size + 1) (w0 := _) (by kernel_rfl) (by kernel_rfl) (Below.refl _ _) ?_
      repeat (go_big_quiet_step (first
        | (go_at_call 59; with_reducible exact later_call _ (by simp) (dk.out _))))
      refine wpQuiet_nil ?_
      rintro wx ⟨⟨wy, hwy⟩, hw⟩
      obtain rfl : wx = wy := hw
      have hbx : Below wc.heap.size wc wx := ((Below.refl _ wc).alloc (Nat.le_refl _) _).trans (hwy.mono (by omega))
      have kAx := HKA.out.below hbx HKA.out.lt
      have b21 : wx.cell? ⟨B, 21, none⟩ = some (.slice (some ⟨og, 0, none⟩) n1 Oc) := (hbx.cell (p := ⟨B, 21, none⟩) HKA.out.lt).trans b21
      have fx := kAx.frozen
      have HBx := Lib.hid hbx
      have HAx := Lib.hid kAx
      clear q0 q1 q2 q3 q4 q5 q6 q7 r0 r1 r2 dk hbx kAx hwy o0 o1 o2
      go_upto_region 11 with fail
      obtain ⟨i0, hi, hz0, hz1, hz2⟩ := info_parts key_info
      have hw1 : IntKind.i64.wrap 1 = 1 := by decide
      have hOc1 : 1 ≤ Oc := by have := HOc.out; omega
      have hsz : wc.heap.size ≤ wx.heap.size := HBx.out.size
      have kOx : wx.ownsRow 0 56 3 (.slice (some ⟨og, 0, none⟩) n1 Oc) n1 ((⟨t, i, v⟩ :: O).flatMap kcells) := (Frame.of_below (S := fun _ => False) HBx.out).own HKO.out (fun _ _ e => e)
      have kSx : wx.ownsRow 0 56 3 (.slice (some ⟨sg, 0, none⟩) an Sc) an (A.flatMap kcells) := (Frame.of_below (S := fun _ => False) HBx.out).own HKS.out (fun _ _ e => e)
      have HOx := Lib.hid kOx
      have HSx := Lib.hid kSx
      clear kOx kSx
      go_cut [68] (fun _ wy => ∃ ov, AdjAt wy B { a with order := ov } ∧ (if O = [] then ov.ownBlock = a.order.ownBlock ∧ ∃ A0, ov = .slice A0 0 0 else KeysOwn wy 0 ov O ∧ ∃ g, ov.ownBlock = some g ∧ w.heap.size ≤ g) ∧ Frame (fun j => j = B) wx wy)
      case first =>
        by_cases hO : O = []
        · have hn2 : n1 = 1 := by have hOn := Hn1.out; rw [hO] at hOn; simpa using hOn
          subst hn2
          have HO := Lib.hid hO
          clear hO
          obtain ⟨A67, hA67⟩ : ∃ A67 : Option Addr, (if Oc = 1 then some (⟨og, 0, none⟩ : Addr) else some ⟨og, 3, none⟩) = A67 := ⟨_, rfl⟩
          go_region_law (refine step_append_zero rfl (.tmp 60) (.tmp 67) 38 rfl 56 i0 Try.underlying38 hi ⟨og, 0, none⟩ 0 _ (Oc - 1) rfl rfl ?_)
          all_goals
            go_wp2_with fail
            go_meet
            case rel =>
              refine ⟨.slice (some ⟨og, 0, none⟩) 0 0, (HAx.out.set_ 21 _).drew, ?_, ((Frame.refl _ wx).setB 21 _).drew⟩
              rw [if_pos HO.out]
              exact ⟨by rw [Hov.out]; rfl, _, rfl⟩
        · have hO1 : 1 ≤ O.length := List.length_pos_iff.2 hO
          have hOc3 : n1 ≤ Oc := HOc.out
          have hn2 : 1 ≤ n1 := by have := Hn1.out; omega
          have hOc2 : ¬ Oc = 1 := by have := Hn1.out; omega
          have hsl : ∀ W, (Instr.slice 38 (.slice (some ⟨og, 0, none⟩) n1 Oc) (some (.int .i64 1)) none none).run Try.prog W = .ok (.slice (some ⟨og, 3, none⟩) (n1 - 1) (Oc - 1)) W := fun W => by
            have h1 := slice_l38 W (some ⟨og, 0, none⟩) n1 Oc 1 hn2
            rw [if_neg hOc2] at h1
            exact h1
          have hrd : ∀ j u, (O.flatMap kcells)[j]? = some u → (wx.drew).cell? ((⟨og, 3, none⟩ : Addr).add j) = some u := by
            intro j u hu
            have hj : j < O.length * 3 := by rw [← kflat_length]; exact (List.getElem?_eq_some_iff.1 hu).1
            have h1 := HOx.out.cellAt (3 + j) (by have := Hn1.out; omega)
            rw [List.flatMap_cons, List.getElem?_append_right (by simp [kcells])] at h1
            rw [show 3 + j - (kcells ⟨t, i, v⟩).length = j from by simp [kcells], hu] at h1
            rw [show (⟨og, 3, none⟩ : Addr).add j = ⟨og, 3 + j, none⟩ from by unfold Addr.add; split <;> simp_all]
            exact h1
          go_region_law (refine step_append_grows rfl (.tmp 60) (.tmp 67) 38 rfl 56 i0 _ 3 12 Try.underlying38 hi hz0 hz1 hz2 rfl (by decide) (some ⟨og, 0, none⟩) 0 0 [] rfl (by intro h; cases h) rfl (by intro b hb j u hu; simp at hu) ⟨og, 3, none⟩ (n1 - 1) (Oc - 1) (O.flatMap kcells) rfl (by have := Hn1.out; rw [kflat_length]; omega) hrd kcells_one (by have := Hn1.out; omega) (by have := Hn1.out; unfold maxLen; omega) (by have := Hn1.out; omega) ?_; intro v6 w6 hown6 hg6; obtain ⟨gg, gc, hgv, hgg, -⟩ := hown6.form (by have := Hn1.out; omega); subst hgv; have kA6 := (HAx.out.drew).grown hg6 (by simp); have c21 : w6.cell? ⟨B, 21, none⟩ = some (.slice (some ⟨og, 0, none⟩) n1 Oc) := (kA6.cell 21).trans (congrArg some Hov.out); have f6 := kA6.frozen; have K6 := Lib.hid kA6; have O6 := Lib.hid hown6; have G6 := Lib.hid hg6; have GG := Lib.hid hgg; clear kA6 hown6 hg6 hgg)
          all_goals
            go_wp2_with fail
            go_meet
            case rel =>
              refine ⟨.slice (some ⟨gg, 0, none⟩) (n1 - 1) gc, K6.out.set_ 21 _, ?_, ((Frame.refl _ wx).drew.trans (Frame.of_grown G6.out (fun k e _ => by cases e))).setB 21 _⟩
              rw [if_neg hO]
              refine ⟨?_, gg, rfl, ?_⟩
              · have h1 := own_far O6.out (q := ⟨B, 21, none⟩) (own_blk_ne O6.out K6.out (by decide)) (.slice (some ⟨gg, 0, none⟩) (n1 - 1) gc)
                have e1 : 0 + (n1 - 1) = O.length := by have := Hn1.out; omega
                have e2 : n1 - 1 = O.length := by have := Hn1.out; omega
                rw [e1, List.nil_append] at h1
                rw [e2] at h1 ⊢
                exact own_base h1 (Nat.zero_le _)
              · have h1 := HFr.out.size
                have h2 := HBx.out.size
                have h3 : wx.heap.size ≤ gg := GG.out
                omega
      case rest =>
        obtain ⟨ov, hA8, hO8, hF8⟩ := hcut
        have kF8 : Frame (fun j => j = B ∨ j = m) w wc := ((HFr.out.mono (T := fun j => j = B ∨ j = m) (fun _ e => .inr e)).trans (Frame.of_below HBx.out)).trans (hF8.mono fun _ e => .inl e)
        have kM8 : MapIs hdval wc m (upd M ⟨t, i, v⟩ none) := hF8.map (HMx.out.below HBx.out HMx.out.lt) (fun e => hBm e.symm)
        have kS8 : wc.ownsRow 0 56 3 (.slice (some ⟨sg, 0, none⟩) an Sc) an (A.flatMap kcells) := hF8.own HSx.out (fun g hg e => own_blk_ne HSx.out HAx.out (by decide) (by rw [hg, e]))
        obtain ⟨OA, oc, hov8⟩ : ∃ A0 c0, ov = .slice A0 O.length c0 := by
          by_cases hO : O = []
          · rw [if_pos hO] at hO8
            obtain ⟨_, A0, e⟩ := hO8
            exact ⟨A0, 0, by rw [e, hO]; rfl⟩
          · rw [if_neg hO] at hO8
            obtain ⟨A0, c0, e⟩ := own_slice hO8.1
            exact ⟨A0, c0, e⟩
        have b8 : wc.cell? ⟨B, 8, none⟩ = some (.int .u8 2) := (hA8.cell 8).trans (by rw [← Hst.out]; rfl)
        have b23 : wc.cell? ⟨B, 23, none⟩ = some (.slice (some ⟨sg, 0, none⟩) an Sc) := (hA8.cell 23).trans (congrArg some Hsv.out)
        have KA8 := Lib.hid hA8
        have KO8 := Lib.hid hO8
        have KF8 := Lib.hid kF8
        have KM8 := Lib.hid kM8
        have KS8 := Lib.hid kS8
        have Hov8 := Lib.hid hov8
        have hfin1 : ∀ w', Below wc.heap.size wc w' → stillB (upd M ⟨t, i, v⟩ none) A = true → GotPost B m a O (upd M ⟨t, i, v⟩ none) A w (.returned (.slice none 0 0)) w' := by
          intro w' hb hs
          refine ⟨KF8.out.trans (Frame.of_below hb), ov, ?_⟩
          by_cases hO : O = []
          · have hO9 := KO8.out
            rw [if_pos hO] at hO9 ⊢
            refine ⟨hO9.1, fun h => ?_⟩
            rw [hs] at h
            cases h
          · have hO9 := KO8.out
            rw [if_neg hO] at hO9 ⊢
            rw [if_pos hs]
            exact ⟨hO9.2, rfl, KA8.out.below hb KA8.out.lt, HW.out.want, KM8.out.below hb KM8.out.lt, (Frame.of_below (S := fun _ => False) hb).own hO9.1 (fun _ _ e => e)⟩
        have Hfin1 := Lib.hid hfin1
        clear hA8 hO8 hF8 kF8 kM8 kS8 hov8 hfin1 HOx HSx hsz b21
        go_wp2_with fail
        go_loopw [82] (fun x wr => ∃ k : Nat, k ≤ an ∧ x = .int .i64 k ∧ Hid (Below wc.heap.size wc wr) ∧ Hid (∀ (j : Nat) (y : Od.Ky), j < k → A[j]? = some y → upd M ⟨t, i, v⟩ none y = none)) (fun x _ => an - (intOf x).toNat)
        case atStart => exact ⟨0, Nat.zero_le _, rfl, Lib.hid (Below.refl _ _), Lib.hid (fun j y hj _ => absurd hj (Nat.not_lt_zero _))⟩
        case round =>
          clear b8 b23
          obtain ⟨k, hk, rfl, HB, HN⟩ := hrel
          have hAn : an ≤ 65536 := by have := Han.out; omega
          have kM := KM8.out.below HB.out KM8.out.lt
          have kA := KA8.out.below HB.out KA8.out.lt
          have hBwr : B < wr.heap.size := kA.lt
          by_cases hlt : k < an
          · obtain ⟨⟨yt, yi, yv⟩, hy⟩ : ∃ y, A[k]? = some y := ⟨_, List.getElem?_eq_getElem (by have := Han.out; omega)⟩
            have hyk := HAok.out _ (List.mem_of_getElem? hy)
            have hrd := (Reads.of_own ((Frame.of_below (S := fun _ => False) HB.out).own KS8.out (fun _ _ e => e))).key hy
            obtain ⟨yb, yo, hyA, hyb, hyc⟩ := hrd
            injection hyA with hyA
            injection hyA with hy1 hy2
            subst hy1 hy2
            have u0 : wr.cell? ⟨sg, k * 3, none⟩ = some (.int .u8 yt) := by simpa using hyc 0 _ rfl
            have u1 : wr.cell? ⟨sg, k * 3 + 1, none⟩ = some (.int .u32 yi) := by simpa using hyc 1 _ rfl
            have u2 : wr.cell? ⟨sg, k * 3 + 2, none⟩ = some (.int .u32 yv) := by simpa using hyc 2 _ rfl
            have b22 : wr.cell? ⟨B, 22, none⟩ = some (.map (some m)) := (kA.cell 22).trans (congrArg some HW.out.want)
            have hM9 := kM.alloc (.cells #[.int .u8 yt, .int .u32 yi, .int .u32 yv] 56)
            have hlk1 := (hM9.drew).look hyk Try.underlying64 (zeroHead _) true
            have hlk2 := fun ob => ((hM9.alloc ob).drew).look hyk Try.underlying64 (zeroHead _) true
            have hkn : (k : Int) < (an : Int) := by omega
            have Hy := Lib.hid hy
            clear hyc hM9 kM kA hyk hy
            rcases hMy : upd M ⟨t, i, v⟩ none ⟨yt, yi, yv⟩ with _ | ⟨zg, zo, zt, zi, zv, zs, zm, zl⟩
            · have HMy := Lib.hid hMy
              rw [hMy] at hlk1 hlk2
              simp only [kval, hdval, Option.elim, Option.isSome, if_true] at hlk1 hlk2
              clear hMy
              go_upto_region 18 with fail
              go_region
              go_wp2_with fail
              go_roundw
              case rel =>
                refine ⟨k + 1, by omega, by go_num, Lib.hid (((HB.out.alloc HB.out.size _).alloc (by have := HB.out.size; simp; omega) _).drew), Lib.hid fun j y hj hy2 => ?_⟩
                by_cases hjk : j < k
                · exact HN.out j y hjk hy2
                · obtain rfl : j = k := by omega
                  have e := Hy.out.symm.trans hy2
                  injection e with e
                  rw [← e]
                  exact HMy.out
              case measure => simp [intOf]; omega
            · have HSt := Lib.hid (still_t (List.mem_of_getElem? Hy.out) (by rw [hMy]; rfl) : stillB (upd M ⟨t, i, v⟩ none) A = true)
              rw [hMy] at hlk1 hlk2
              simp only [kval, hdval, Option.elim, Option.isSome, if_true] at hlk1 hlk2
              clear hMy
              go_upto_region 18 with fail
              go_region
              go_wp2_with fail
              go_ret
              exact Hfin1.out _ (((HB.out.alloc HB.out.size _).alloc (by have := HB.out.size; simp; omega) _).drew) HSt.out
          · obtain rfl : k = an := by omega
            have hno : stillB (upd M ⟨t, i, v⟩ none) A = false := still_f (fun j x hj => HN.out j x (by have := (List.getElem?_eq_some_iff.1 hj).1; have := Han.out; omega) hj)
            have b8 : wr.cell? ⟨B, 8, none⟩ = some (.int .u8 2) := (kA.cell 8).trans (by rw [← Hst.out]; rfl)
            have b21 : wr.cell? ⟨B, 21, none⟩ = some (.slice OA O.length oc) := (kA.cell 21).trans (congrArg some Hov8.out)
            have f8 := kA.frozen
            obtain ⟨on, hon⟩ : ∃ on, O.length = on := ⟨_, rfl⟩
            rw [hon] at b21
            have Hon := Lib.hid hon
            have HNo := Lib.hid hno
            have HKA := Lib.hid kA
            have HKM := Lib.hid kM
            clear hno hon kA kM
            by_cases hz : on = 0
            · subst hz
              have HO : Hid (O = []) := Lib.hid (List.eq_nil_of_length_eq_zero Hon.out)
              go_wp2_with fail
              go_ret
              refine ⟨(KF8.out.trans (Frame.of_below HB.out)).setCell (p := ⟨B, 8, none⟩) (fun _ => .inl rfl) _, ov, ?_⟩
              have hO9 := KO8.out
              rw [if_pos HO.out] at hO9 ⊢
              exact ⟨hO9.1, fun _ => ⟨rfl, HKA.out.set_ 8 _⟩⟩
            · have hz1 : ((on : Int) == 0) = false := by simpa using hz
              have hO : ¬ O = [] := fun e => hz (by rw [← Hon.out, e]; rfl)
              have hO9 := KO8.out
              rw [if_neg hO] at hO9
              have HO9 := Lib.hid hO9
              have HnO := Lib.hid hO
              have kO9 : KeysOwn wr 0 ov O := (Frame.of_below (S := fun _ => False) HB.out).own hO9.1 (fun _ _ e => e)
              have hq : Calls Try.prog 54 #[.pointer (some ⟨B, 0, none⟩)] wr fun e w' => ∃ kv av, e = .returned (outval false 0 0 0 0 (.slice none 0 0) kv) ∧ AdjAt w' B (({ a with order := ov } : Adj).requested av) ∧ KeysOwn w' wr.heap.size av (O.take 16) ∧ KeysOwn w' wr.heap.size kv (O.take 16) ∧ (av.ownBlock = none ∨ av.ownBlock ≠ kv.ownBlock) ∧ Frame (fun k => k = B) wr w' := request_any _ B { a with order := ov } O HKA.out kO9 (by omega) HRx.out
              have HReq := Lib.hid hq
              have HkO9 := Lib.hid kO9
              clear hO hO9 kO9 hq
              go_wp2_with fail
              refine HReq.out.mono ?_
              rintro e w2 ⟨kv, av, rfl, hA2, hav, hkv, -, hf2⟩
              obtain ⟨Ak, ck, rfl⟩ := own_slice hkv
              obtain ⟨nk, hnk⟩ : ∃ nk, (O.take 16).length = nk := ⟨_, rfl⟩
              rw [hnk] at hkv
              have HA2 := Lib.hid hA2
              have Hav := Lib.hid hav
              have Hkv := Lib.hid hkv
              have Hf2 := Lib.hid hf2
              rw [hnk]
              clear hA2 hav hkv hf2 hnk b8 b21 f8
              unfold outval
              go_wp2_with fail
              go_ret
              have hF3 : Frame (fun _ => False) w2 (w2.alloc (.cells #[.bool false, .int .u16 0, .int .u8 0, .int .u8 0, .int .u32 0, .slice none 0 0, .slice Ak nk ck] 40)) := (Frame.refl _ w2).alloc _
              have hsz1 : w.heap.size ≤ wr.heap.size := Nat.le_trans KF8.out.size HB.out.size
              have hsz2 : w.heap.size ≤ w2.heap.size := Nat.le_trans hsz1 Hf2.out.size
              have hF4 : Frame (fun k => k = B) wr (w2.alloc (.cells #[.bool false, .int .u16 0, .int .u8 0, .int .u8 0, .int .u32 0, .slice none 0 0, .slice Ak nk ck] 40)) := Hf2.out.alloc _
              refine ⟨(KF8.out.trans (Frame.of_below HB.out)).trans (hF4.mono fun _ e => .inl e), ov, ?_⟩
              rw [if_neg HnO.out]
              refine ⟨HO9.out.2, ?_⟩
              rw [if_neg (by rw [HNo.out]; decide)]
              refine ⟨_, .slice Ak nk ck, av, rfl, World.ownsRow_lit (base := w.heap.size) (e := 40) (size := 7) w2 #[.bool false, .int .u16 0, .int .u8 0, .int .u8 0, .int .u32 0, .slice none 0 0, .slice Ak nk ck] 1 hsz2 (by simp [maxLen]) rfl, own_base (hF3.own Hkv.out (fun _ _ e => e)) hsz1, own_base (hF3.own Hav.out (fun _ _ e => e)) hsz1, HA2.out.alloc _, HW.out.want, hF4.map HKM.out (fun e => hBm e.symm), hF4.own HkO9.out (fun g hg e => own_blk_ne HkO9.out HKA.out (by decide) (e ▸ hg))⟩
end Go.Proofs.Ytgbmhijgpdgdbaa
