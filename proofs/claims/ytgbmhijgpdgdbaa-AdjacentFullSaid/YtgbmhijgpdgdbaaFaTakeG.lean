/- A description is taken, where own heads may hold a key. -/
import Derived.Test.YtgbmhijgpdgdbaaFaTake
import Derived.Test.YtgbmhijgpdgdbaaFaWantG
namespace Go.Proofs.Ytgbmhijgpdgdbaa
open Go.RowKit

/-- Is h wanted by one that holds own? -/
def wantB (own : List Od.Hd) (h : Od.Hd) : Bool :=
  match haveOf own (keyOfHd h) with
  | none => true
  | some o => decide (0 < Od.newer h o)
def wantF (own l : List Od.Hd) : List Od.Hd := l.filter (wantB own)
theorem wantF_length (own l : List Od.Hd) : (wantF own l).length ≤ l.length := List.length_filter_le _ _
theorem wantF_snoc_t {own l : List Od.Hd} {h : Od.Hd} (hw : wantB own h = true) : wantF own (l ++ [h]) = wantF own l ++ [h] := by simp [wantF, hw]
theorem wantF_snoc_f {own l : List Od.Hd} {h : Od.Hd} (hw : wantB own h = false) : wantF own (l ++ [h]) = wantF own l := by simp [wantF, hw]
theorem haveOf_mem {own : List Od.Hd} {k : Od.Ky} {o : Od.Hd} (h : haveOf own k = some o) : o ∈ own := List.mem_of_find?_eq_some h
theorem wantB_t {own : List Od.Hd} {h : Od.Hd} (hw : wantB own h = true) (hok : ∀ x ∈ own, HdOk x) : haveOf own (keyOfHd h) = none ∨ ∃ oh : Od.Hd, haveOf own (keyOfHd h) = some oh ∧ 0 < Od.newer h oh ∧ 0 ≤ oh.g ∧ oh.g ≤ 65535 := by
  unfold wantB at hw
  rcases hH : haveOf own (keyOfHd h) with _ | o
  · exact .inl rfl
  · rw [hH] at hw
    have ho := hok o (haveOf_mem hH)
    exact .inr ⟨o, rfl, by simpa using hw, ho.g0, by have := ho.g1; omega⟩
theorem wantB_f {own : List Od.Hd} {h : Od.Hd} (hw : wantB own h = false) (hok : ∀ x ∈ own, HdOk x) : ∃ oh : Od.Hd, haveOf own (keyOfHd h) = some oh ∧ Od.newer h oh ≤ 0 ∧ 0 ≤ oh.g ∧ oh.g ≤ 65535 := by
  unfold wantB at hw
  rcases hH : haveOf own (keyOfHd h) with _ | o
  · rw [hH] at hw
    cases hw
  · rw [hH] at hw
    have ho := hok o (haveOf_mem hH)
    refine ⟨o, rfl, ?_, ho.g0, by have := ho.g1; omega⟩
    have : ¬ 0 < Od.newer h o := by simpa using hw
    omega

set_option maxHeartbeats 4000000 in
set_option maxRecDepth 20000 in
theorem take_slave_g (w : World) (B m : Nat) (a : Adj) (O : List Od.Ky) (M : Od.Ky → Option Od.Hd) (mtu opts flags seq : Int) (hv ow : Value) (Lp own L : List Od.Hd)
    (h : Wants w B m a O M) (hL : HeadsIn w a.left L) (hp : HeadsIn w hv Lp) (how : HeadsIn w ow own) (hokp : ∀ x ∈ Lp, HdOk x) (hoko : ∀ x ∈ own, HdOk x)
    (hnL : L.length ≤ 65536) (hnO : O.length + Lp.length ≤ 65535) (hnown : own.length ≤ 65536) (hrx : 0 ≤ a.rxmt ∧ a.rxmt < 65536)
    (hms : a.master = false) (hnew : ∀ k x, Lp[k]? = some x → wantsM (wantF own (Lp.take k)) M (keyOfHd x) = none) :
    Calls Try.prog 89 #[.pointer (some ⟨B, 0, none⟩), ddval mtu opts flags seq hv, ow] w fun e w' => SlavePost w B m a (O ++ (wantF own Lp).map keyOfHd) (wantsM (wantF own Lp) M) opts flags seq L e w' := by
  obtain ⟨Ap, np, cp, ep, hncp, hlenp, hrp⟩ := hp.1
  obtain ⟨Ao, no, co, eo, hnco, hleno, hro⟩ := how.1
  subst ep eo
  have hBlt := h.adj.lt
  have hmlt := h.map.lt
  have f := h.adj.frozen
  have c17 : w.cell? ⟨B, 17, none⟩ = some (.bool a.taken) := h.adj.cell 17
  have c18 : w.cell? ⟨B, 18, none⟩ = some (.int .u8 a.lflags) := h.adj.cell 18
  have c19 : w.cell? ⟨B, 19, none⟩ = some (.int .u8 a.lopts) := h.adj.cell 19
  have c20 : w.cell? ⟨B, 20, none⟩ = some (.int .u32 a.lseq) := h.adj.cell 20
  have hmk := fun w1 : World => run_makeMap (P := Try.prog) 64 w1
  have HW := Lib.hid h
  have HL := Lib.hid hL
  have HP := Lib.hid hp
  have HOw := Lib.hid how
  have Hlenp := Lib.hid hlenp
  have Hleno := Lib.hid hleno
  have HRo := Lib.hid hro
  have HRp := Lib.hid hrp
  have Hokp := Lib.hid hokp
  have Hoko := Lib.hid hoko
  have Hnew := Lib.hid hnew
  have HnL := Lib.hid hnL
  have HMs := Lib.hid hms
  have HnO := Lib.hid hnO
  have hno : no ≤ 65536 := by omega
  have hnp : np ≤ 65535 := by omega
  obtain ⟨hx0, hx1⟩ := hrx
  clear h hL hp how hlenp hleno hro hrp hokp hoko hnew hms hnL hnO hnown
  unfold ddval
  go_enter Try.func89, Try.ntmps89
  go_wp2_with fail
  go_region
  go_wp2_with fail
  have kF0 : Frame (fun j => j = B) w ((((((w.setCell ⟨B, 17, none⟩ (.bool true)).setCell ⟨B, 18, none⟩ (.int .u8 flags)).setCell ⟨B, 19, none⟩ (.int .u8 opts)).setCell ⟨B, 20, none⟩ (.int .u32 seq)).alloc (.cells #[.int .u16 mtu, .int .u8 opts, .int .u8 flags, .int .u32 seq, .slice Ap np cp] 28)).alloc (.map #[] 0)).drew :=
    ((((((((Frame.refl _ w).setB 17 _).setB 18 _).setB 19 _).setB 20 _).alloc _).alloc _).drew)
  have kA0 : AdjAt ((((((w.setCell ⟨B, 17, none⟩ (.bool true)).setCell ⟨B, 18, none⟩ (.int .u8 flags)).setCell ⟨B, 19, none⟩ (.int .u8 opts)).setCell ⟨B, 20, none⟩ (.int .u32 seq)).alloc (.cells #[.int .u16 mtu, .int .u8 opts, .int .u8 flags, .int .u32 seq, .slice Ap np cp] 28)).alloc (.map #[] 0)).drew B (a.took opts flags seq) :=
    (((((((HW.out.adj.set_ 17 _).set_ 18 _).set_ 19 _).set_ 20 _).alloc _).alloc _).drew)
  have kD0 : Blk ((((((w.setCell ⟨B, 17, none⟩ (.bool true)).setCell ⟨B, 18, none⟩ (.int .u8 flags)).setCell ⟨B, 19, none⟩ (.int .u8 opts)).setCell ⟨B, 20, none⟩ (.int .u32 seq)).alloc (.cells #[.int .u16 mtu, .int .u8 opts, .int .u8 flags, .int .u32 seq, .slice Ap np cp] 28)).alloc (.map #[] 0)).drew w.heap.size 28 #[.int .u16 mtu, .int .u8 opts, .int .u8 flags, .int .u32 seq, .slice Ap np cp] :=
    ((blk_new_at (by simp [World.setCell])).alloc _).drew
  have kM0 : MapIs hdval ((((((w.setCell ⟨B, 17, none⟩ (.bool true)).setCell ⟨B, 18, none⟩ (.int .u8 flags)).setCell ⟨B, 19, none⟩ (.int .u8 opts)).setCell ⟨B, 20, none⟩ (.int .u32 seq)).alloc (.cells #[.int .u16 mtu, .int .u8 opts, .int .u8 flags, .int .u32 seq, .slice Ap np cp] 28)).alloc (.map #[] 0)).drew (w.heap.size + 1) (haveOf (own.take 0)) := by
    have := (MapIs.made hdval ((((((w.setCell ⟨B, 17, none⟩ (.bool true)).setCell ⟨B, 18, none⟩ (.int .u8 flags)).setCell ⟨B, 19, none⟩ (.int .u8 opts)).setCell ⟨B, 20, none⟩ (.int .u32 seq)).alloc (.cells #[.int .u16 mtu, .int .u8 opts, .int .u8 flags, .int .u32 seq, .slice Ap np cp] 28)))).drew
    simp only [World.size_alloc, World.setCell, Array.size_modify] at this
    exact this
  go_loopw [31] (fun i wr => ∃ k : Nat, k ≤ no ∧ i = .int .i64 k ∧ Hid (AdjAt wr B (a.took opts flags seq)) ∧ Hid (MapIs hdval wr (w.heap.size + 1) (haveOf (own.take k))) ∧ Hid (Frame (fun j => j = B) w wr) ∧ Hid (Blk wr w.heap.size 28 #[.int .u16 mtu, .int .u8 opts, .int .u8 flags, .int .u32 seq, .slice Ap np cp]))
    (fun i _ => no - (intOf i).toNat)
  case atStart => exact ⟨0, Nat.zero_le _, rfl, Lib.hid kA0, Lib.hid kM0, Lib.hid kF0, Lib.hid kD0⟩
  case round =>
    clear kA0 kM0 kF0 kD0 c17 c18 c19 c20 f
    obtain ⟨k, hk, rfl, HA, HM, HF, HD⟩ := hrel
    by_cases hlt : k < no
    · obtain ⟨x, hx⟩ : ∃ x, own[k]? = some x := ⟨_, List.getElem?_eq_getElem (by have := Hleno.out; omega)⟩
      have hxo := Hoko.out x (List.mem_of_getElem? hx)
      obtain ⟨⟨A', n', c', e', -, -, hrw⟩, -⟩ := HOw.out.frame HF.out (NoHeads.blk HW.out.adj (by decide))
      injection e' with e1 e2 e3
      subst e1 e2 e3
      obtain ⟨bl, off, hAo, hbl, hcell⟩ := hrw.head hx
      subst hAo
      obtain ⟨g, o, t, i, v, s, mm, l⟩ := x
      have hky : KyOk ⟨t, i, v⟩ := hxo.ky
      have d0 : wr.cell? ⟨bl, off + k * 8, none⟩ = some (.int .u16 g) := hcell 0 _ rfl
      have d1 := hcell 1 _ rfl
      have d2 := hcell 2 _ rfl
      have d3 := hcell 3 _ rfl
      have d4 := hcell 4 _ rfl
      have d5 := hcell 5 _ rfl
      have d6 := hcell 6 _ rfl
      have d7 := hcell 7 _ rfl
      have Hx := Lib.hid hx
      have hkn : (k : Int) < (no : Int) := by omega
      have hmhlt := HM.out.lt
      clear hcell hrw hx hxo hmk
      go_wp2_with fail
      refine (key_any _ ⟨g, o, t, i, v, s, mm, l⟩).mono ?_
      rintro e w1 ⟨rfl, hb1⟩
      unfold kval keyOfHd
      have kM1 := (HM.out.alloc (.cells #[.int .u16 g, .int .u8 o, .int .u8 t, .int .u32 i, .int .u32 v, .int .i32 s, .int .u16 mm, .int .u16 l] 59)).below hb1 (by simp; omega)
      have hlk := kM1.look hky Try.underlying64 (zeroHead _) true
      have hs1 : wr.heap.size < w1.heap.size := by have := hb1.size; simp at this; omega
      have kh1 := (Blk.new wr 59 #[.int .u16 g, .int .u8 o, .int .u8 t, .int .u32 i, .int .u32 v, .int .i32 s, .int .u16 mm, .int .u16 l]).below hb1 (by simp)
      have kF1 : Frame (fun j => j = w.heap.size + 1) wr w1 := ((Frame.refl _ wr).alloc _).trans (Frame.of_below hb1)
      have hHB : Hid (B < w.heap.size + 1) := Lib.hid (by omega)
      have HMl := Lib.hid hmhlt
      rcases hHk : haveOf (own.take k) ⟨t, i, v⟩ with _ | ⟨g2, o2, t2, i2, v2, s2, m2, l2⟩
      · rw [hHk] at hlk
        simp only [kval, hdval, Option.elim, Option.isSome, if_true] at hlk
        have HM1 := Lib.hid kM1
        have HF1 := Lib.hid kF1
        have HK1 := Lib.hid kh1
        have z0 : w1.cell? ⟨wr.heap.size, 0, none⟩ = some (.int .u16 g) := kh1.cell 0
        have z1 : w1.cell? ⟨wr.heap.size, 1, none⟩ = some (.int .u8 o) := kh1.cell 1
        have z2 : w1.cell? ⟨wr.heap.size, 2, none⟩ = some (.int .u8 t) := kh1.cell 2
        have z3 : w1.cell? ⟨wr.heap.size, 3, none⟩ = some (.int .u32 i) := kh1.cell 3
        have z4 : w1.cell? ⟨wr.heap.size, 4, none⟩ = some (.int .u32 v) := kh1.cell 4
        have z5 : w1.cell? ⟨wr.heap.size, 5, none⟩ = some (.int .i32 s) := kh1.cell 5
        have z6 : w1.cell? ⟨wr.heap.size, 6, none⟩ = some (.int .u16 mm) := kh1.cell 6
        have z7 : w1.cell? ⟨wr.heap.size, 7, none⟩ = some (.int .u16 l) := kh1.cell 7
        have HH := Lib.hid hHk
        clear kM1 kF1 kh1 hb1 hHk d0 d1 d2 d3 d4 d5 d6 d7
        go_upto_region 8 with fail
        go_region_with (go_at_call 59; refine (key_any _ ⟨g, o, t, i, v, s, mm, l⟩).mono ?_; rintro e w3 ⟨rfl, hb3⟩; unfold kval keyOfHd; have kM3 := ((HM1.out.alloc _).drew).below hb3 (by simp; omega); have kk3 := ((HK1.out.alloc _).drew).below hb3 (by simp; omega); obtain ⟨w4, hrun4, hM4, hg4, hs4⟩ := kM3.put hky Try.underlying64 ⟨g, o, t, i, v, s, mm, l⟩; simp only [kval, hdval] at hrun4; have y0 : w3.cell? ⟨wr.heap.size, 0, none⟩ = some (.int .u16 g) := kk3.cell 0; have y1 : w3.cell? ⟨wr.heap.size, 1, none⟩ = some (.int .u8 o) := kk3.cell 1; have y2 : w3.cell? ⟨wr.heap.size, 2, none⟩ = some (.int .u8 t) := kk3.cell 2; have y3 : w3.cell? ⟨wr.heap.size, 3, none⟩ = some (.int .u32 i) := kk3.cell 3; have y4 : w3.cell? ⟨wr.heap.size, 4, none⟩ = some (.int .u32 v) := kk3.cell 4; have y5 : w3.cell? ⟨wr.heap.size, 5, none⟩ = some (.int .i32 s) := kk3.cell 5; have y6 : w3.cell? ⟨wr.heap.size, 6, none⟩ = some (.int .u16 mm) := kk3.cell 6; have y7 : w3.cell? ⟨wr.heap.size, 7, none⟩ = some (.int .u16 l) := kk3.cell 7; have HF3 := Lib.hid ((((HF1.out.alloc _).drew).trans (Frame.of_below hb3)).trans (Frame.of_grown (S := fun j => j = w.heap.size + 1) hg4 (fun k e _ => by cases e; rfl))); have HM4 := Lib.hid hM4; clear kM3 kk3 hb3 hg4 hM4 hs4)
        all_goals
          go_wp2_with fail
          go_roundw
          case rel => exact ⟨k + 1, by omega, by go_num, Lib.hid (HF3.out.blk HA.out (by have := hHB.out; omega)), Lib.hid (by rw [take_snoc Hx.out, haveOf_snoc_none HH.out]; exact HM4.out), Lib.hid (HF.out.trans' HF3.out (fun i hi e => by omega)), Lib.hid (HF3.out.blk HD.out (by omega))⟩
          case measure => simp [intOf]; omega
      · rw [hHk] at hlk
        simp only [kval, hdval, Option.elim, Option.isSome, if_true] at hlk
        have HF1 := Lib.hid kF1
        have HH := Lib.hid (haveOf_snoc_some (h := ⟨g, o, t, i, v, s, mm, l⟩) hHk)
        have HM1 := Lib.hid kM1
        clear kM1 kF1 kh1 hb1 hHk d0 d1 d2 d3 d4 d5 d6 d7
        go_wp2_with fail
        go_roundw
        case rel => exact ⟨k + 1, by omega, by go_num, Lib.hid ((HF1.out.blk HA.out (by have := hHB.out; omega)).alloc _), Lib.hid (by rw [take_snoc Hx.out, HH.out]; exact HM1.out.alloc _), Lib.hid (HF.out.trans' (HF1.out.alloc _) (fun i hi e => by omega)), Lib.hid ((HF1.out.blk HD.out (by omega)).alloc _)⟩
        case measure => simp [intOf]; omega
    · obtain rfl : k = no := by omega
      have htk : own.take k = own := List.take_of_length_le (by have := Hleno.out; omega)
      rw [htk] at HM
      clear htk hmk
      have dd4 : wr.cell? ⟨w.heap.size, 4, none⟩ = some (.slice Ap np cp) := HD.out.cell 4
      go_wp2_with fail
      have hB1 : Hid (B ≠ w.heap.size) := Lib.hid (by omega)
      go_loopw [52] (fun i wr2 => ∃ (k : Nat) (ov : Value), k ≤ np ∧ i = .int .i64 k ∧ Hid (Wants wr2 B m { a.took opts flags seq with order := ov } (O ++ (wantF own (Lp.take k)).map keyOfHd) (wantsM (wantF own (Lp.take k)) M)) ∧ Hid (MapIs hdval wr2 (w.heap.size + 1) (haveOf own)) ∧ Hid (Frame (Own B m a.order) w wr2) ∧
          Hid (Blk wr2 w.heap.size 28 #[.int .u16 mtu, .int .u8 opts, .int .u8 flags, .int .u32 seq, .slice Ap np cp]) ∧ Hid (ov.ownBlock = a.order.ownBlock ∨ ov.ownBlock = none ∨ ∃ g, ov.ownBlock = some g ∧ w.heap.size ≤ g))
        (fun i _ => np - (intOf i).toNat)
      case atStart =>
        refine ⟨0, a.order, Nat.zero_le _, rfl, Lib.hid ⟨HA.out, HW.out.want, HF.out.map HW.out.map (fun e => HW.out.map.blk_ne HW.out.adj e.symm), ?_⟩, HM, Lib.hid (HF.out.mono fun i e => Or.inl e), HD, Lib.hid (.inl rfl)⟩
        have := HF.out.own HW.out.order (fun g hg e => own_blk_ne HW.out.order HW.out.adj (by decide) (by rw [hg, e]))
        simpa [wantF] using this
      case round =>
        clear HA HM HF HD dd4
        obtain ⟨k, ov, hk, rfl, HA, HM, HF, HD, HV⟩ := hrel
        by_cases hlt : k < np
        · obtain ⟨x, hx⟩ : ∃ x, Lp[k]? = some x := ⟨_, List.getElem?_eq_getElem (by have := Hlenp.out; omega)⟩
          have hxo := Hokp.out x (List.mem_of_getElem? hx)
          have hnM := Hnew.out k x hx
          obtain ⟨⟨A', n', c', e', -, -, hrw⟩, -⟩ := HP.out.frame HF.out (NoHeads.own HW.out)
          injection e' with e1 e2 e3
          subst e1 e2 e3
          obtain ⟨bl, off, hAp, hbl, hcell⟩ := hrw.head hx
          subst hAp
          obtain ⟨g, o, t, i, v, s, mm, l⟩ := x
          have hky : KyOk ⟨t, i, v⟩ := hxo.ky
          have d0 : wr.cell? ⟨bl, off + k * 8, none⟩ = some (.int .u16 g) := hcell 0 _ rfl
          have d1 := hcell 1 _ rfl
          have d2 := hcell 2 _ rfl
          have d3 := hcell 3 _ rfl
          have d4 := hcell 4 _ rfl
          have d5 := hcell 5 _ rfl
          have d6 := hcell 6 _ rfl
          have d7 := hcell 7 _ rfl
          have Hx := Lib.hid hx
          have HnM := Lib.hid hnM
          have hkn : (k : Int) < (np : Int) := by omega
          have hg0 := hxo.g0
          have hg1 : g ≤ 65535 := by have := hxo.g1; simp only at this; omega
          clear hcell hrw hx hxo hnM
          rcases hwb : wantB own ⟨g, o, t, i, v, s, mm, l⟩
          · have HWb := Lib.hid hwb
            clear hwb
            go_wp2_with fail
            obtain ⟨oh, hq1, hq2, hq3, hq4⟩ := wantB_f HWb.out Hoko.out
            refine (want_skip _ B m (w.heap.size + 1) { a.took opts flags seq with order := ov } (O ++ (wantF own (Lp.take k)).map keyOfHd) (wantsM (wantF own (Lp.take k)) M) (haveOf own) g o t i v s mm l (HA.out.alloc _) (HM.out.alloc _) hky hg0 hg1 oh hq1 hq2 hq3 hq4).mono ?_
            clear hq1 hq2 hq3 hq4
            rintro e w3 ⟨rfl, hb3⟩
            have hb03 : Below wr.heap.size wr w3 := ((Below.refl _ wr).alloc (Nat.le_refl _) _).trans (hb3.mono (by simp))
            have hfn : Frame (fun _ => False) wr w3 := Frame.of_below hb03
            have HW3 := Lib.hid (HA.out.frame hfn (fun _ e => e.elim))
            have HM3 := Lib.hid (HM.out.below hb03 HM.out.lt)
            have HD3 := Lib.hid (HD.out.below hb03 HD.out.lt)
            have HF3 : Hid (Frame (Own B m a.order) w w3) := Lib.hid (HF.out.trans (Frame.of_below hb03))
            clear hb3 hb03 hfn d0 d1 d2 d3 d4 d5 d6 d7
            go_wp2_with fail
            go_roundw
            case rel =>
              refine ⟨k + 1, ov, by omega, by go_num, Lib.hid ?_, HM3, HF3, HD3, HV⟩
              rw [take_snoc Hx.out, wantF_snoc_f HWb.out]
              exact HW3.out
            case measure => simp [intOf]; omega
          · have HWb := Lib.hid hwb
            clear hwb
            go_wp2_with fail
            refine (want_take _ B m (w.heap.size + 1) { a.took opts flags seq with order := ov } (O ++ (wantF own (Lp.take k)).map keyOfHd) (wantsM (wantF own (Lp.take k)) M) (haveOf own) g o t i v s mm l (HA.out.alloc _) (HM.out.alloc _) hky (by have h1 := HnO.out; have h2 := wantF_length own (Lp.take k); have h3 := Hlenp.out; simp only [List.length_append, List.length_map, List.length_take] at *; omega) hg0 hg1 (wantB_t HWb.out Hoko.out) HnM.out).mono ?_
            rintro e w3 ⟨rfl, ov2, hW3, hv3, hF3⟩
            have hmh : ¬ Own B m ov (w.heap.size + 1) := by
              rintro (e1 | e1 | e1)
              · omega
              · omega
              · exact own_map_ne HA.out.order HM.out e1
            have hdh : ¬ Own B m ov w.heap.size := by
              rintro (e1 | e1 | e1)
              · omega
              · omega
              · exact own_blk_ne HA.out.order HD.out (by decide) e1
            have hsz := HF.out.size
            have HW3 := Lib.hid hW3
            have HM3 := Lib.hid (hF3.map (HM.out.alloc _) hmh)
            have HD3 := Lib.hid (hF3.blk (HD.out.alloc _) hdh)
            have HF3 : Hid (Frame (Own B m a.order) w w3) := Lib.hid ((HF.out.alloc _).trans' hF3 (fun j hj hT => by
              rcases hT with e1 | e1 | e1
              · exact .inl e1
              · exact .inr (.inl e1)
              · rcases HV.out with e2 | e2 | ⟨g2, e2, hg2⟩
                · exact .inr (.inr (e2 ▸ e1))
                · have e1' : ov.ownBlock = some j := e1
                  rw [e2] at e1'; cases e1'
                · have e1' : ov.ownBlock = some j := e1
                  rw [e2] at e1'; cases e1'; omega))
            have HV3 : Hid (ov2.ownBlock = a.order.ownBlock ∨ ov2.ownBlock = none ∨ ∃ g, ov2.ownBlock = some g ∧ w.heap.size ≤ g) := Lib.hid (by
              rcases hv3 with e1 | e1 | ⟨g2, e1, hg2⟩
              · have e1' : ov2.ownBlock = ov.ownBlock := e1
                rw [e1']; exact HV.out
              · exact .inr (.inl e1)
              · exact .inr (.inr ⟨g2, e1, by simp at hg2; omega⟩))
            clear hW3 hv3 hF3 hmh hdh hsz d0 d1 d2 d3 d4 d5 d6 d7
            go_wp2_with fail
            go_roundw
            case rel =>
              refine ⟨k + 1, ov2, by omega, by go_num, Lib.hid ?_, HM3, HF3, HD3, HV3⟩
              rw [take_snoc Hx.out, wantF_snoc_t HWb.out, List.map_append, ← List.append_assoc, wantsM_snoc]
              exact HW3.out
            case measure => simp [intOf]; omega
        · obtain rfl : k = np := by omega
          have htk : Lp.take k = Lp := List.take_of_length_le (by have := Hlenp.out; omega)
          rw [htk] at HA
          clear htk
          have dd2 : wr.cell? ⟨w.heap.size, 2, none⟩ = some (.int .u8 flags) := HD.out.cell 2
          have dd3 : wr.cell? ⟨w.heap.size, 3, none⟩ = some (.int .u32 seq) := HD.out.cell 3
          have kA := HA.out.adj
          have f := kA.frozen
          have c9 : wr.cell? ⟨B, 9, none⟩ = some (.int .u32 a.seq) := kA.cell 9
          have c10 : wr.cell? ⟨B, 10, none⟩ = some (.bool false) := (kA.cell 10).trans (by rw [← HMs.out]; rfl)
          have kA3 := kA.set_ 9 (.int .u32 seq)
          have hl3 : HeadsIn (wr.setCell ⟨B, 9, none⟩ (.int .u32 seq)) a.left L := HL.out.frame (HF.out.setCell (p := ⟨B, 9, none⟩) (fun _ => .inl rfl) _) (NoHeads.own HW.out)
          have HA3 : Hid (AdjAt (wr.setCell ⟨B, 9, none⟩ (.int .u32 seq)) B { a.took opts flags seq with order := ov, seq := seq }) := Lib.hid kA3
          have HL3 := Lib.hid hl3
          clear kA kA3 hl3
          go_wp2_with fail
          have hdesc : Calls Try.prog 126 #[.pointer (some ⟨B, 0, none⟩)] (wr.setCell ⟨B, 9, none⟩ (.int .u32 seq)) fun e w' => ∃ hv lv sv, e = .returned (outval true a.mtu a.opts (dflags a.master L) seq hv (.slice none 0 0)) ∧
              AdjAt w' B (({ a.took opts flags seq with order := ov, seq := seq } : Adj).described (dflags a.master L) lv sv) ∧ HeadsIn w' lv (L.drop 16) ∧ HeadsIn w' sv (L.take 16) ∧ Frame (fun k => k = B) (wr.setCell ⟨B, 9, none⟩ (.int .u32 seq)) w' ∧ w'.ownsRow (wr.setCell ⟨B, 9, none⟩ (.int .u32 seq)).heap.size 59 8 hv (L.take 16).length ((L.take 16).flatMap hcells) ∧ SubBlk lv a.left ∧ SubBlk sv a.left :=
            describe_any _ B { a.took opts flags seq with order := ov, seq := seq } L HA3.out HL3.out HnL.out ⟨hx0, hx1⟩
          refine hdesc.mono ?_
          clear hdesc
          rintro e w4 ⟨hv, lv, sv, rfl, hA4, hl4, hs4, hF4, ho4, hsb1, hsb2⟩
          have HSb1 := Lib.hid hsb1
          have HSb2 := Lib.hid hsb2
          clear hsb1 hsb2
          have hfr4 : Frame (fun j => j = B) wr w4 := ((Frame.refl _ wr).setB 9 _).trans hF4
          have kD4 : Blk w4 w.heap.size 28 #[.int .u16 mtu, .int .u8 opts, .int .u8 flags, .int .u32 seq, .slice Ap k cp] := hfr4.blk HD.out (fun e => hB1.out e.symm)
          have hwr4 : wr.heap.size ≤ w4.heap.size := hfr4.size
          have hsz4 : w.heap.size ≤ w4.heap.size := Nat.le_trans HF.out.size hfr4.size
          obtain ⟨Ah, ch, rfl⟩ := own_slice ho4
          obtain ⟨nq, hnq⟩ : ∃ nq, (L.take 16).length = nq := ⟨_, rfl⟩
          obtain ⟨fl, hfl⟩ : ∃ fl, dflags a.master L = fl := ⟨_, rfl⟩
          obtain ⟨j0, hj, hy0, hy1, hy2⟩ := info_parts out_info
          rw [hfl] at hA4 ⊢
          rw [hnq] at ho4 ⊢
          have hlit := Reads.of_own (World.ownsRow_lit (base := 0) (e := 40) (size := 7) w4 #[.bool true, .int .u16 a.mtu, .int .u8 a.opts, .int .u8 fl, .int .u32 seq, .slice Ah nq ch, .slice none 0 0] 1 (Nat.zero_le _) (by simp [maxLen]) rfl)
          have HLit := Lib.hid hlit
          have HA4 := Lib.hid hA4
          have HL4 := Lib.hid hl4
          have HS4 := Lib.hid hs4
          have HO4 := Lib.hid ho4
          have HD4 := Lib.hid kD4
          have HFr4 := Lib.hid hfr4
          have Hfl := Lib.hid hfl
          have Hnq := Lib.hid hnq
          clear hA4 hl4 hs4 hF4 ho4 kD4 hfr4 hfl hnq hlit c9 c10 f HA3 HL3
          unfold outval
          go_upto_region 22 with (at_builtin; refine wpList_append_any _ rfl (.tmp 93) (.tmp 96) _ rfl w4.heap.size 40 j0 _ 7 64 Try.underlying30 hj hy0 hy1 hy2 rfl (by omega) (.slice none 0 0) 0 [] rfl (World.ownsRow_nil _ _ _ _) _ (some ⟨w4.heap.size, 0, none⟩) 1 1 [.bool true, .int .u16 a.mtu, .int .u8 a.opts, .int .u8 fl, .int .u32 seq, .slice Ah nq ch, .slice none 0 0] rfl HLit.out (by simp [Value.oneCell']) (by unfold maxLen; omega) (by omega) (by simp) ?_; intro v5 w5 hown5 hg5 hat5; rw [List.nil_append] at hown5; obtain ⟨A5, c5, hv5⟩ := own_slice hown5; subst hv5; have hF45 : Frame (fun _ => False) w4 w5 := ((Frame.refl _ w4).alloc _).trans (Frame.of_grown hg5 (by simp [Value.ownBlock])); have kA5 := hF45.blk HA4.out (fun e => e); have kD5 := hF45.blk HD4.out (fun e => e); have b14 : w5.cell? ⟨B, 14, none⟩ = some (.int .u8 fl) := kA5.cell 14; have p2 : w5.cell? ⟨w.heap.size, 2, none⟩ = some (.int .u8 flags) := kD5.cell 2; have HSz5 := Lib.hid hF45.size; have HF45 := Lib.hid hF45; have HA5 := Lib.hid kA5; have HOwn5 := Lib.hid hown5; clear hF45 kA5 kD5 hown5 hg5 hat5)
          have hfr5 : Frame (fun j => j = B) wr w5 := HFr4.out.trans (HF45.out.mono fun _ e => e.elim)
          have hO4 : HeadsIn w5 lv (L.drop 16) := HL4.out.frame HF45.out (noNo _)
          have hS4 : HeadsIn w5 sv (L.take 16) := HS4.out.frame HF45.out (noNo _)
          have hR4 : w5.ownsRow w.heap.size 59 8 (.slice Ah nq ch) nq ((L.take 16).flatMap hcells) := own_base (HF45.out.own HO4.out (fun _ _ e => e)) (by simp [World.setCell]; exact HF.out.size)
          have HR4 := Lib.hid hR4
          have HLL := Lib.hid hO4
          have HSS := Lib.hid hS4
          have HFr5 := Lib.hid hfr5
          have hdm := dflags_isM L HMs.out
          rw [Hfl.out] at hdm
          have Hdm := Lib.hid hdm
          clear hfr5 hO4 hS4 hR4 hdm HFr4 HF45 HL4 HS4 HO4 HLit dd2 dd3
          rcases hq1 : (bits .and .u8 fl 2 != 0)
          · rcases hq2 : (bits .and .u8 flags 2 != 0)
            · obtain ⟨OA, Oc, hov⟩ := own_slice HA.out.order
              have c21 : w5.cell? ⟨B, 21, none⟩ = some (.slice OA (O ++ (wantF own Lp).map keyOfHd).length Oc) := (HA5.out.cell 21).trans (congrArg some hov)
              have c8 : w5.cell? ⟨B, 8, none⟩ = some (.int .u8 a.state) := HA5.out.cell 8
              have f5 := HA5.out.frozen
              have Hmore : Hid ((decide (16 < L.length) || isM flags) = false) := Lib.hid (by rw [← Hdm.out, hq1]; exact hq2)
              have Hov := Lib.hid hov
              obtain ⟨On, hOn⟩ : ∃ On, (O ++ (wantF own Lp).map keyOfHd).length = On := ⟨_, rfl⟩
              rw [hOn] at c21
              have HOn := Lib.hid hOn
              clear hov hOn
              by_cases hz : On = 0
              · subst hz
                go_wp2_with fail
                go_ret
                have hF6 : Frame (fun j => j = B) w5 (w5.setCell ⟨B, 8, none⟩ (.int .u8 3)) := (Frame.refl _ w5).setB 8 _
                refine ⟨_, rfl, ov, lv, sv, ⟨HSb1.out, HSb2.out⟩, ?_⟩
                unfold SlaveB
                rw [show kindOf (decide (16 < L.length) || isM flags) (O ++ (wantF own Lp).map keyOfHd) = .full from by rw [Hmore.out]; simp only [kindOf, Bool.false_eq_true, if_false]; rw [if_pos (List.eq_nil_of_length_eq_zero HOn.out)]]
                refine ⟨Taken.of HA.out HF.out (HFr5.out.trans hF6) ?_ rfl rfl HV.out (HLL.out.frame hF6 (NoHeads.blk HA5.out (by decide))) (HSS.out.frame hF6 (NoHeads.blk HA5.out (by decide))), .slice Ah nq ch, ?_, ?_⟩
                · have := HA5.out.set_ 8 (.int .u8 3)
                  rw [← Hfl.out] at this; exact this
                · rw [Hfl.out]; refine own_base ?_ hsz4; exact hF6.own HOwn5.out (fun g hg e => own_blk_ne HOwn5.out HA5.out (by decide) (e ▸ hg))
                · rw [Hnq.out]; exact hF6.own HR4.out (fun g hg e => own_blk_ne HR4.out HA5.out (by decide) (e ▸ hg))
              · have hz1 : ((On : Int) == 0) = false := by simpa using hz
                have hF6 : Frame (fun j => j = B) w5 (w5.setCell ⟨B, 8, none⟩ (.int .u8 2)) := (Frame.refl _ w5).setB 8 _
                have kA6 : AdjAt (w5.setCell ⟨B, 8, none⟩ (.int .u8 2)) B { ({ a.took opts flags seq with order := ov, seq := seq } : Adj).described fl lv sv with state := 2 } := HA5.out.set_ 8 (.int .u8 2)
                have kO6 : KeysOwn (w5.setCell ⟨B, 8, none⟩ (.int .u8 2)) 0 ov (O ++ (wantF own Lp).map keyOfHd) := (HA.out.step (HFr5.out.trans hF6) kA6 rfl rfl).order
                have hreq := request_any _ B { ({ a.took opts flags seq with order := ov, seq := seq } : Adj).described fl lv sv with state := 2 } (O ++ (wantF own Lp).map keyOfHd) kA6 kO6 (by have h1 := HnO.out; have h2 := wantF_length own Lp; simp only [List.length_append, List.length_map]; omega) ⟨hx0, hx1⟩
                have HReq := Lib.hid hreq
                have HF6 := Lib.hid hF6
                have HOwn6 := Lib.hid (hF6.own HOwn5.out (fun g hg e => own_blk_ne HOwn5.out HA5.out (by decide) (e ▸ hg)))
                have HR6 := Lib.hid (hF6.own HR4.out (fun g hg e => own_blk_ne HR4.out HA5.out (by decide) (e ▸ hg)))
                clear hF6 kA6 kO6 hreq
                go_wp2_with fail
                refine HReq.out.mono ?_
                rintro e w7 ⟨kv, av, rfl, hA7, hav7, hkv7, hne7, hF7⟩
                have kA6 := HA5.out.set_ 8 (.int .u8 2)
                have kOwn7 := hF7.own HOwn6.out (fun g hg e => own_blk_ne HOwn6.out kA6 (by decide) (e ▸ hg))
                have kR7 := hF7.own HR6.out (fun g hg e => own_blk_ne HR6.out kA6 (by decide) (e ▸ hg))
                have hs7 : w4.heap.size ≤ w7.heap.size := by
                  have h1 := hF7.size
                  simp [World.setCell] at h1
                  have h2 := HSz5.out
                  omega
                obtain ⟨Ak, ck, rfl⟩ := own_slice hkv7
                obtain ⟨nk, hnk⟩ : ∃ nk, ((O ++ (wantF own Lp).map keyOfHd).take 16).length = nk := ⟨_, rfl⟩
                rw [hnk] at hkv7
                have hlit7 := Reads.of_own (World.ownsRow_lit (base := 0) (e := 40) (size := 7) w7 #[.bool false, .int .u16 0, .int .u8 0, .int .u8 0, .int .u32 0, .slice none 0 0, .slice Ak nk ck] 1 (Nat.zero_le _) (by simp [maxLen]) rfl)
                have kOwn7' := ((Frame.refl (fun _ => False) w7).alloc (.cells #[.bool false, .int .u16 0, .int .u8 0, .int .u8 0, .int .u32 0, .slice none 0 0, .slice Ak nk ck] 40)).own kOwn7 (fun _ _ e => e)
                have HLit7 := Lib.hid hlit7
                have HOwn7 := Lib.hid kOwn7'
                have HOwn77 := Lib.hid kOwn7
                have HA7 := Lib.hid hA7
                have Hav7 := Lib.hid hav7
                have Hkv7 := Lib.hid hkv7
                have HF7 := Lib.hid hF7
                have HR7 := Lib.hid kR7
                have Hnk := Lib.hid hnk
                rw [hnk]
                clear kA6 kOwn7 kOwn7' kR7 hlit7 hA7 hav7 hkv7 hF7 hne7 HOwn6 HR6 hnk
                unfold outval
                go_wp2_with (at_builtin; refine wpList_append_any _ rfl (.tmp 125) (.tmp 128) _ rfl w4.heap.size 40 j0 _ 7 64 Try.underlying30 hj hy0 hy1 hy2 rfl (by omega) (.slice A5 (0 + 1) c5) (0 + 1) _ rfl HOwn7.out _ (some ⟨w7.heap.size, 0, none⟩) 1 1 [.bool false, .int .u16 0, .int .u8 0, .int .u8 0, .int .u32 0, .slice none 0 0, .slice Ak nk ck] rfl HLit7.out (by simp [Value.oneCell']) (by unfold maxLen; omega) (by omega) (by simp; omega) ?_; intro v8 w8 hown8 hg8 hat8)
                go_ret
                have hF8 : Frame (fun j => (Value.slice A5 (0 + 1) c5).ownBlock = some j) w7 w8 := ((Frame.refl _ w7).alloc _).trans (Frame.of_grown hg8 (fun k e _ => e))
                have hB8 : (Value.slice A5 (0 + 1) c5).ownBlock ≠ some B := own_blk_ne HOwn77.out HA7.out (by decide)
                have hr7 : Frame (fun j => j = B) wr w7 := (HFr5.out.trans HF6.out).trans HF7.out
                have hr8 : Frame (fun j => j = B) wr w8 := hr7.trans' hF8 (fun j hj e => by have := (HOwn77.out.lt j e).1; omega)
                have hw6 : w.heap.size ≤ (w5.setCell ⟨B, 8, none⟩ (.int .u8 2)).heap.size := by have := HSz5.out; simp [World.setCell]; omega
                have hn7 : NoHeads w7 (fun j => (Value.slice A5 (0 + 1) c5).ownBlock = some j) := NoHeads.row HOwn77.out (by decide)
                have kA6 := HA5.out.set_ 8 (.int .u8 2)
                refine ⟨v8, rfl, ov, lv, sv, ⟨HSb1.out, HSb2.out⟩, ?_⟩
                unfold SlaveB
                rw [show kindOf (decide (16 < L.length) || isM flags) (O ++ (wantF own Lp).map keyOfHd) = .loading from by rw [Hmore.out]; simp only [kindOf, Bool.false_eq_true, if_false]; rw [if_neg (fun e => hz (by rw [← HOn.out, e]; rfl))]]
                rw [Hfl.out]
                refine ⟨av, .slice Ah nq ch, .slice Ak nk ck, Taken.of HA.out HF.out hr8 (hF8.blk HA7.out hB8) rfl rfl HV.out ?_ ?_, ?_, ?_, ?_, ?_⟩
                · exact ((HLL.out.frame HF6.out (NoHeads.blk HA5.out (by decide))).frame HF7.out (NoHeads.blk kA6 (by decide))).frame hF8 hn7
                · exact ((HSS.out.frame HF6.out (NoHeads.blk HA5.out (by decide))).frame HF7.out (NoHeads.blk kA6 (by decide))).frame hF8 hn7
                · exact own_base hown8 hsz4
                · rw [Hnq.out]
                  exact hF8.own HR7.out (fun g hg e => own_own_ne HR7.out HOwn77.out (by decide) g hg e)
                · exact own_base (hF8.own Hav7.out (fun g hg e => own_own_ne Hav7.out HOwn77.out (by decide) g hg e)) hw6
                · exact own_base (hF8.own Hkv7.out (fun g hg e => own_own_ne Hkv7.out HOwn77.out (by decide) g hg e)) hw6
            · have Hmore : Hid ((decide (16 < L.length) || isM flags) = true) := Lib.hid (by rw [show isM flags = true from hq2]; simp)
              go_wp2_with fail
              go_ret
              refine ⟨_, rfl, ov, lv, sv, ⟨HSb1.out, HSb2.out⟩, ?_⟩
              unfold SlaveB
              rw [show kindOf (decide (16 < L.length) || isM flags) (O ++ (wantF own Lp).map keyOfHd) = .more from by rw [Hmore.out]; rfl]
              refine ⟨Taken.of HA.out HF.out HFr5.out ?_ rfl rfl HV.out HLL.out HSS.out, .slice Ah nq ch, ?_, ?_⟩
              · rw [Hfl.out]; exact HA5.out
              · rw [Hfl.out]; exact own_base HOwn5.out hsz4
              · rw [Hnq.out]; exact HR4.out
          · have Hmore : Hid ((decide (16 < L.length) || isM flags) = true) := Lib.hid (by rw [← Hdm.out, hq1]; rfl)
            go_wp2_with fail
            go_ret
            refine ⟨_, rfl, ov, lv, sv, ⟨HSb1.out, HSb2.out⟩, ?_⟩
            unfold SlaveB
            rw [show kindOf (decide (16 < L.length) || isM flags) (O ++ (wantF own Lp).map keyOfHd) = .more from by rw [Hmore.out]; rfl]
            refine ⟨Taken.of HA.out HF.out HFr5.out ?_ rfl rfl HV.out HLL.out HSS.out, .slice Ah nq ch, ?_, ?_⟩
            · rw [Hfl.out]; exact HA5.out
            · rw [Hfl.out]; exact own_base HOwn5.out hsz4
            · rw [Hnq.out]; exact HR4.out
end Go.Proofs.Ytgbmhijgpdgdbaa
