/- deliver, a head that was asked for goes to the greater. -/
import Derived.Test.YtgbmhijgpdgdbaaFaExits
namespace Go.Proofs.Ytgbmhijgpdgdbaa
open Go.RowKit

set_option maxHeartbeats 4000000 in
set_option maxRecDepth 20000 in
theorem key_b {T : Tk} {P : Fu.Pa} {C : Cn} (hT : TkOk T) (hC : CnOk C) (hN : P.N = T.N) (hbb : P.b = T.WB.length) {f : Nat} (IH : Onward T P C f) {w0 w : World} {W0 : Nat → Prop} {S : Fu.Sy} {a b : Adj} {A0 A1 : Option Addr} {n0 n1 c0 c1 : Nat} {vg i len c : Nat}
    (hok : Fu.Ok P S) (hpre : S.p = 2 * P.N + 2 ∧ S.gb < P.b) (hrem : Fu.rem P S + 1 ≤ f + 1) (hn4 : S.n + Fu.rem P S + 1 < 4000) (hL : Fu.lostAt P S.n = false)
    {k m kc : Nat} {KA : Option Addr} (hk : k < m) (hm : (keysB T S).length = m) (hkin : KinB T P C w0 W0 S (.slice KA m kc) k a b (.slice A0 n0 c0) (.slice A1 n1 c1) w)
    (hn1 : (gained T.B (T.WB.take (S.gb + k))).length = n1) (hn0 : (gained T.A (T.WA.take S.ga)).length = n0)
    (K0 : Act → World → Prop) (x3 x4 x5 x9 x10 x12 x13 x15 x16 x17 x18 x19 x20 x21 x22 x23 x24 x25 x26 x27 x28 x29 x30 x31 x32 x33 x34 x35 x36 x37 x38 x39 x40 x41 x42 x43 x44 x45 x46 x47 x48 x49 x50 x51 x52 x53 x54 x55 x56 x57 x58 x59 x60 x61 x62 x63 x64 x65 x66 x67 x68 x69 x70 x71 x72 x73 x74 x75 x76 x77 x78 x79 x80 x81 x82 x83 x84 x85 x86 x87 x88 x89 x90 x91 x92 x93 x94 x95 x96 x97 x98 x99 x100 x101 x102 x103 x104 x105 x106 x107 x108 x109 x110 x111 x112 x113 x114 x115 x116 x117 x118 x119 x120 x121 x122 x123 x124 x125 x126 x127 x128 x129 x130 x131 x132 x133 x134 x135 x136 x137 x138 x139 x140 x141 x142 x143 x144 x145 x146 x147 x148 x149 x150 x151 x152 x153 x154 x155 x156 x157 x158 x159 x160 x161 x162 x163 x164 x165 x166 x167 x168 x169 x170 x171 x172 x173 x174 x175 x176 x177 x178 x179 x180 x181 x182 x183 x184 x185 x186 x187 x188 : Value)
    (hQ : ∀ (y15 y16 y136 y137 y138 y139 y140 y141 y142 y143 y144 y145 y146 y147 y148 y149 y150 y151 y152 y153 y154 y155 y156 y157 y158 y159 y160 y161 y162 y163 y164 y165 y166 y167 y168 y169 y170 y171 y172 y173 y174 y175 y176 y177 y178 y179 y180 y181 y182 y183 y184 y185 y186 y187 y188 : Value) (w' : World), (k + 1 < m ∧ ∃ b' v1', KinB T P C w0 W0 S (.slice KA m kc) (k + 1) a b' (.slice A0 n0 c0) v1' w') ∨ (k + 1 = m ∧ Went T P C w0 W0 (Fu.run P (f + 1) S .rB) w') → K0 { tmps := #[.pointer (some ⟨C.Wb, 0, none⟩), .int .i64 0, .slice (some ⟨vg, 0, none⟩) len c, x3, x4, x5, .int .i64 i, .pointer (some ⟨C.Ba, 0, none⟩), .pointer (some ⟨C.Bb, 0, none⟩), x9, x10, .slice KA m kc, x12, x13, .int .i64 k, y15, y16, x17, x18, x19, x20, x21, x22, x23, x24, x25, x26, x27, x28, x29, x30, x31, x32, x33, x34, x35, x36, x37, x38, x39, x40, x41, x42, x43, x44, x45, x46, x47, x48, x49, x50, x51, x52, x53, x54, x55, x56, x57, x58, x59, x60, x61, x62, x63, x64, x65, x66, x67, x68, x69, x70, x71, x72, x73, x74, x75, x76, x77, x78, x79, x80, x81, x82, x83, x84, x85, x86, x87, x88, x89, x90, x91, x92, x93, x94, x95, x96, x97, x98, x99, x100, x101, x102, x103, x104, x105, x106, x107, x108, x109, x110, x111, x112, x113, x114, x115, x116, x117, x118, x119, x120, x121, x122, x123, x124, x125, x126, x127, x128, x129, x130, x131, x132, x133, x134, x135, y136, y137, y138, y139, y140, y141, y142, y143, y144, y145, y146, y147, y148, y149, y150, y151, y152, y153, y154, y155, y156, y157, y158, y159, y160, y161, y162, y163, y164, y165, y166, y167, y168, y169, y170, y171, y172, y173, y174, y175, y176, y177, y178, y179, y180, y181, y182, y183, y184, y185, y186, y187, y188], defers := [] } w') :
    Code.wp Try.prog keyC (Exit.inBlock 3 (Exit.then K0 (bodyPost Try.prog Try.f18 fun _ _ => False))) { tmps := #[.pointer (some ⟨C.Wb, 0, none⟩), .int .i64 0, .slice (some ⟨vg, 0, none⟩) len c, x3, x4, x5, .int .i64 i, .pointer (some ⟨C.Ba, 0, none⟩), .pointer (some ⟨C.Bb, 0, none⟩), x9, x10, .slice KA m kc, x12, x13, .int .i64 k, x15, x16, x17, x18, x19, x20, x21, x22, x23, x24, x25, x26, x27, x28, x29, x30, x31, x32, x33, x34, x35, x36, x37, x38, x39, x40, x41, x42, x43, x44, x45, x46, x47, x48, x49, x50, x51, x52, x53, x54, x55, x56, x57, x58, x59, x60, x61, x62, x63, x64, x65, x66, x67, x68, x69, x70, x71, x72, x73, x74, x75, x76, x77, x78, x79, x80, x81, x82, x83, x84, x85, x86, x87, x88, x89, x90, x91, x92, x93, x94, x95, x96, x97, x98, x99, x100, x101, x102, x103, x104, x105, x106, x107, x108, x109, x110, x111, x112, x113, x114, x115, x116, x117, x118, x119, x120, x121, x122, x123, x124, x125, x126, x127, x128, x129, x130, x131, x132, x133, x134, x135, x136, x137, x138, x139, x140, x141, x142, x143, x144, x145, x146, x147, x148, x149, x150, x151, x152, x153, x154, x155, x156, x157, x158, x159, x160, x161, x162, x163, x164, x165, x166, x167, x168, x169, x170, x171, x172, x173, x174, x175, x176, x177, x178, x179, x180, x181, x182, x183, x184, x185, x186, x187, x188], defers := [] } w := by
  have hlen := keysB_len (T := T) (S := S)
  obtain ⟨x, hx, hkx⟩ := keysB_at (T := T) (S := S) (k := k) (by omega)
  have hxm : x ∈ T.WB := List.mem_of_getElem? hx
  have hxB := hT.okA x (wB_sub hxm)
  have hhave := wantB_has hT hxm S.ga
  have hks : w.ownsRow 0 56 3 (.slice KA m kc) m ((keysB T S).flatMap kcells) := by rw [← hm]; have := hkin.ks; unfold KeysOwn at this; rw [hm] at this ⊢; exact this
  obtain ⟨kb, off, hKA, hkb, hkc⟩ := (Reads.of_own hks).key hkx
  subst hKA
  obtain ⟨g, o, t, ii, v, s, mm, l⟩ := x
  have hw := hkin.mid.bs.wire
  have c2 : w.cell? ⟨C.Wb, 2, none⟩ = some (.slice A0 n0 c0) := hw.cell 2
  have c3 : w.cell? ⟨C.Wb, 3, none⟩ = some (.slice A1 n1 c1) := hw.cell 3
  have e0 : w.cell? ⟨kb, off + k * 3, none⟩ = some (.int .u8 t) := hkc 0 _ rfl
  have e1 : w.cell? ⟨kb, off + k * 3 + 1, none⟩ = some (.int .u32 ii) := hkc 1 _ rfl
  have e2 : w.cell? ⟨kb, off + k * 3 + 2, none⟩ = some (.int .u32 v) := hkc 2 _ rfl
  have HFd : Hid (Calls Try.prog 21 #[.slice A0 n0 c0, .agg #[.int .u8 t, .int .u32 ii, .int .u32 v]] w.drew fun e w' => ∃ i0 : Nat, e = .returned (.int .i64 i0) ∧ (gained T.A (T.WA.take S.ga))[i0]? = some ⟨g, o, t, ii, v, s, mm, l⟩ ∧ Below w.heap.size w w') := by
    refine Lib.hid ?_
    have hown : w.drew.ownsRow C.N0 59 8 (.slice A0 n0 c0) n0 ((gained T.A (T.WA.take S.ga)).flatMap hcells) := by have h1 : w.ownsRow C.N0 59 8 (.slice A0 n0 c0) (gained T.A (T.WA.take S.ga)).length ((gained T.A (T.WA.take S.ga)).flatMap hcells) := hkin.mid.bs.o0; rw [hn0] at h1; exact h1
    refine (find_is w.drew _ (gained T.A (T.WA.take S.ga)) t ii v (HeadsIn.own hown hn0) (by have := (ownA hT S.ga).n; omega)).mono ?_
    rintro e w' ⟨j, rfl, hj, hb⟩
    obtain ⟨i0, rfl, h0⟩ := find_have (ownA hT S.ga).u hhave hj
    exact ⟨i0, rfl, h0, (Below.refl w.heap.size w).drew.trans hb⟩
  have hkm : (k : Int) < (m : Int) := by omega
  have HT := Lib.hid hT
  have HC := Lib.hid hC
  have HN := Lib.hid hN
  have HA := Lib.hid hbb
  have HIH := Lib.hid IH
  have Hok := Lib.hid hok
  have Hpre := Lib.hid hpre
  have Hrem := Lib.hid hrem
  have Hn4 := Lib.hid hn4
  have HL := Lib.hid hL
  have Hm := Lib.hid hm
  have HK := Lib.hid hkin
  have Hn1 := Lib.hid hn1
  have Hn0 := Lib.hid hn0
  have HQ := Lib.hid hQ
  have Hx := Lib.hid hx
  have HxB := Lib.hid hxB
  have Hk := Lib.hid hk
  have hWlt := hw.lt
  clear hT hC hN hbb IH hok hpre hrem hn4 hL hm hkin hn1 hn0 hQ hx hxm hxB hhave hkx hkc hw hlen hks
  let Qb : Exit → Act → World → Prop := bodyPost Try.prog Try.f18 fun _ _ => False
  change Code.wp Try.prog keyC (Exit.inBlock 3 (Exit.then K0 Qb)) _ _
  unfold keyC restC
  simp only [Try.f18, codeAt, Option.getD]
  go_upto_region 17 with fail
  go_cut [15] (fun jv wx => ∃ i0 : Nat, jv = .int .i64 i0 ∧ Hid ((gained T.A (T.WA.take S.ga))[i0]? = some ⟨g, o, t, ii, v, s, mm, l⟩) ∧ Hid (Below w.heap.size w wx))
  case first =>
    go_region_law (go_simp; go_at_call 21; refine HFd.out.mono ?_; rintro e w5 ⟨i0, rfl, h0, hb5⟩; have H0 := Lib.hid h0; have HB5 := Lib.hid hb5; clear h0 hb5)
    all_goals
      go_wp2_with fail
      go_meet
      case rel => exact ⟨i0, rfl, H0, HB5⟩
  case rest =>
    obtain ⟨i0, rfl, H0, HB5⟩ := hcut
    obtain ⟨W5, hW5⟩ : ∃ W, W = wc := ⟨_, rfl⟩
    rw [← hW5] at HB5 ⊢
    clear hW5 c2 c3 e0 e1 e2
    have hmid := HK.out.mid.quiet HC.out HB5.out
    have hw5 := hmid.bs.wire
    have c2 : W5.cell? ⟨C.Wb, 2, none⟩ = some (.slice A0 n0 c0) := hw5.cell 2
    have c3 : W5.cell? ⟨C.Wb, 3, none⟩ = some (.slice A1 n1 c1) := hw5.cell 3
    have hown1 : W5.ownsRow C.N0 59 8 (.slice A0 n0 c0) n0 ((gained T.A (T.WA.take S.ga)).flatMap hcells) := by have h1 : W5.ownsRow C.N0 59 8 (.slice A0 n0 c0) (gained T.A (T.WA.take S.ga)).length ((gained T.A (T.WA.take S.ga)).flatMap hcells) := hmid.bs.o0; rw [Hn0.out] at h1; exact h1
    obtain ⟨bl, of1, hA1, hbl, hcell⟩ := (Reads.of_own hown1).head H0.out
    subst hA1
    have d0 : W5.cell? ⟨bl, of1 + i0 * 8, none⟩ = some (.int .u16 g) := hcell 0 _ rfl
    have d1 : W5.cell? ⟨bl, of1 + i0 * 8 + 1, none⟩ = some (.int .u8 o) := hcell 1 _ rfl
    have d2 : W5.cell? ⟨bl, of1 + i0 * 8 + 2, none⟩ = some (.int .u8 t) := hcell 2 _ rfl
    have d3 : W5.cell? ⟨bl, of1 + i0 * 8 + 3, none⟩ = some (.int .u32 ii) := hcell 3 _ rfl
    have d4 : W5.cell? ⟨bl, of1 + i0 * 8 + 4, none⟩ = some (.int .u32 v) := hcell 4 _ rfl
    have d5 : W5.cell? ⟨bl, of1 + i0 * 8 + 5, none⟩ = some (.int .i32 s) := hcell 5 _ rfl
    have d6 : W5.cell? ⟨bl, of1 + i0 * 8 + 6, none⟩ = some (.int .u16 mm) := hcell 6 _ rfl
    have d7 : W5.cell? ⟨bl, of1 + i0 * 8 + 7, none⟩ = some (.int .u16 l) := hcell 7 _ rfl
    have hi0 : (i0 : Int) < (n0 : Int) := by
      have := (List.getElem?_eq_some_iff.1 H0.out).1
      have := Hn0.out
      omega
    have hdec : decide ((i0 : Int) < 0) = false := by simp
    have HMid := Lib.hid hmid
    have hW5lt := hw5.lt
    clear hmid hw5 hown1 hcell hbl
    go_upto_region 20 with fail
    obtain ⟨hb, hhb⟩ : ∃ hb, hb = W5.heap.size := ⟨_, rfl⟩
    obtain ⟨W6, hW6⟩ : ∃ W, W = W5.alloc (.cells #[.int .u16 g, .int .u8 o, .int .u8 t, .int .u32 ii, .int .u32 v, .int .i32 s, .int .u16 mm, .int .u16 l] 59) := ⟨_, rfl⟩
    rw [← hhb, ← hW6]
    have hb56 : Below W5.heap.size W5 W6 := by rw [hW6]; exact (Below.refl _ _).alloc (Nat.le_refl _) _
    have hk6 : Blk W6 hb 59 #[.int .u16 g, .int .u8 o, .int .u8 t, .int .u32 ii, .int .u32 v, .int .i32 s, .int .u16 mm, .int .u16 l] := by rw [hW6, hhb]; exact Blk.new _ _ _
    have hmid := HMid.out.quiet HC.out hb56
    have hold := HMid.out.bs.olds
    clear d0 d1 d2 d3 d4 d5 d6 d7 c2 c3 hi0 hdec hW5lt hW6
    have hw6 := hmid.bs.wire
    have c3 : W6.cell? ⟨C.Wb, 3, none⟩ = some (.slice A1 n1 c1) := hw6.cell 3
    have h0 : W6.cell? ⟨hb, 0, none⟩ = some (.int .u16 g) := hk6.cell 0
    have h1 : W6.cell? ⟨hb, 1, none⟩ = some (.int .u8 o) := hk6.cell 1
    have h2 : W6.cell? ⟨hb, 2, none⟩ = some (.int .u8 t) := hk6.cell 2
    have h3 : W6.cell? ⟨hb, 3, none⟩ = some (.int .u32 ii) := hk6.cell 3
    have h4 : W6.cell? ⟨hb, 4, none⟩ = some (.int .u32 v) := hk6.cell 4
    have h5 : W6.cell? ⟨hb, 5, none⟩ = some (.int .i32 s) := hk6.cell 5
    have h6 : W6.cell? ⟨hb, 6, none⟩ = some (.int .u16 mm) := hk6.cell 6
    have h7 : W6.cell? ⟨hb, 7, none⟩ = some (.int .u16 l) := hk6.cell 7
    have HWv : Hid ((Value.slice A1 n1 c1).ownBlock ≠ some C.Wb) := Lib.hid fun e => (hmid.bs.lv _ (.inr e)).1 (.inl rfl)
    have Hhb : Hid ((∀ j, (Value.slice A1 n1 c1).ownBlock = some j → j ≠ hb) ∧ C.Wb ≠ hb ∧ hb < W6.heap.size) := Lib.hid ⟨fun j e => by have := hold.2 j (.inr e); omega, by have := HMid.out.bs.wire.lt; omega, hk6.lt⟩
    have HLn : Hid (Calls Try.prog 53 #[.slice A1 n1 c1, .agg #[.int .u16 g, .int .u8 o, .int .u8 t, .int .u32 ii, .int .u32 v, .int .i32 s, .int .u16 mm, .int .u16 l]] W6.drew fun e w' => ∃ A' n' c', e = .returned (.slice A' n' c') ∧ w'.ownsRow C.N0 59 8 (.slice A' n' c') (gained T.B (T.WB.take (S.gb + (k + 1)))).length ((gained T.B (T.WB.take (S.gb + (k + 1)))).flatMap hcells) ∧ Frame (fun j => (Value.slice A1 n1 c1).ownBlock = some j) W6 w' ∧ ((Value.slice A' n' c').ownBlock = (Value.slice A1 n1 c1).ownBlock ∨ ∃ g, (Value.slice A' n' c').ownBlock = some g ∧ W6.heap.size ≤ g)) := by
      refine Lib.hid ?_
      have hown : W6.drew.ownsRow C.N0 59 8 (.slice A1 n1 c1) (gained T.B (T.WB.take (S.gb + k))).length ((gained T.B (T.WB.take (S.gb + k))).flatMap hcells) := hmid.bs.o1
      have hO := ownB HT.out (S.gb + k)
      refine (learn_any W6.drew C.N0 (.slice A1 n1 c1) (gained T.B (T.WB.take (S.gb + k))) g o t ii v s mm l hown (fun x hx => (hO.ok x hx).2) HxB.out.2.2 (by have := hO.n; omega) (Nat.le_trans HC.out.n0 hmid.bs.sz)).mono ?_
      rintro e w' ⟨v', rfl, ho, hf, hv'⟩
      have hl' : learnL (gained T.B (T.WB.take (S.gb + k))) ⟨g, o, t, ii, v, s, mm, l⟩ = gained T.B (T.WB.take (S.gb + (k + 1))) := by
        rw [← gained_snoc]
        congr 1
        show _ = T.WB.take (S.gb + k + 1)
        obtain ⟨h1, h2⟩ := List.getElem?_eq_some_iff.1 Hx.out
        rw [List.take_add_one, Hx.out]
        rfl
      rw [hl'] at ho
      obtain ⟨A', c', rfl⟩ := own_slice ho
      exact ⟨A', _, c', rfl, ho, (Frame.of_below (Below.refl W6.heap.size W6).drew).trans hf, hv'⟩
    have HK6 := Lib.hid hk6
    have HMid6 := Lib.hid hmid
    have HB56 := Lib.hid hb56
    have hWlt6 := hw6.lt
    have hhblt := hk6.lt
    clear hmid hold hk6 hb56 hhb hw6
    have hwr0 : IntKind.i64.wrap 1 = 1 := by decide
    go_cut [] (fun wx => ∃ A' n' c' w7, wx = w7.setCell ⟨C.Wb, 3, none⟩ (.slice A' n' c') ∧ Hid (w7.ownsRow C.N0 59 8 (.slice A' n' c') (gained T.B (T.WB.take (S.gb + (k + 1)))).length ((gained T.B (T.WB.take (S.gb + (k + 1)))).flatMap hcells)) ∧ Hid (Frame (fun j => (Value.slice A1 n1 c1).ownBlock = some j) W6 w7) ∧ Hid ((Value.slice A' n' c').ownBlock = (Value.slice A1 n1 c1).ownBlock ∨ ∃ g, (Value.slice A' n' c').ownBlock = some g ∧ W6.heap.size ≤ g))
    case first =>
      go_region_law (go_simp; go_at_call 53; refine HLn.out.mono ?_; rintro e w7 ⟨A', n', c', rfl, ho, hf, hv'⟩; have c2x : w7.cell? ⟨C.Wb, 3, none⟩ = some (.slice A1 n1 c1) := (hf.blk HMid6.out.bs.wire HWv.out).cell 3; have HO7 := Lib.hid ho; have HF7 := Lib.hid hf; have HV7 := Lib.hid hv'; have hW7 : C.Wb < w7.heap.size := (hf.blk HMid6.out.bs.wire HWv.out).lt; have f7 := (hf.blk HMid6.out.bs.wire HWv.out).frozen; clear ho hf hv')
      all_goals
        go_wp2_with fail
        go_meet
        case rel => exact ⟨A', n', c', w7, rfl, HO7, HF7, HV7⟩
    case rest =>
      obtain ⟨A', n', c', w7, rfl, HO7, HF7, HV7⟩ := hcut
      clear c3 h0 h1 h2 h3 h4 h5 h6 h7 hwr0 hWlt6 hhblt
      obtain ⟨hmid8, hfr8, hwr8⟩ := HMid6.out.learn HC.out HO7.out HF7.out HV7.out
      obtain ⟨W8, hW8⟩ : ∃ W, W = w7.setCell ⟨C.Wb, 3, none⟩ (.slice A' n' c') := ⟨_, rfl⟩
      rw [← hW8] at hmid8 hfr8 ⊢
      have hk8 : Blk W8 hb 59 #[.int .u16 g, .int .u8 o, .int .u8 t, .int .u32 ii, .int .u32 v, .int .i32 s, .int .u16 mm, .int .u16 l] := by
        rw [hW8]
        exact Blk.far (HF7.out.blk HK6.out (fun e => Hhb.out.1 _ e rfl)) (p := ⟨C.Wb, 3, none⟩) (fun e => Hhb.out.2.1 e.symm) _
      have h0 : W8.cell? ⟨hb, 0, none⟩ = some (.int .u16 g) := hk8.cell 0
      have h1 : W8.cell? ⟨hb, 1, none⟩ = some (.int .u8 o) := hk8.cell 1
      have h2 : W8.cell? ⟨hb, 2, none⟩ = some (.int .u8 t) := hk8.cell 2
      have h3 : W8.cell? ⟨hb, 3, none⟩ = some (.int .u32 ii) := hk8.cell 3
      have h4 : W8.cell? ⟨hb, 4, none⟩ = some (.int .u32 v) := hk8.cell 4
      have h5 : W8.cell? ⟨hb, 5, none⟩ = some (.int .i32 s) := hk8.cell 5
      have h6 : W8.cell? ⟨hb, 6, none⟩ = some (.int .u16 mm) := hk8.cell 6
      have h7 : W8.cell? ⟨hb, 7, none⟩ = some (.int .u16 l) := hk8.cell 7
      have hhb8 := hk8.lt
      have HGot : Hid (Calls Try.prog 25 #[.pointer (some ⟨C.Bb, 0, none⟩), .agg #[.int .u16 g, .int .u8 o, .int .u8 t, .int .u32 ii, .int .u32 v, .int .i32 s, .int .u16 mm, .int .u16 l]] W8 fun e w' => GotStep C.Bb C.mb b (T.WB.drop (S.gb + (k + 1))) (keysB T S) W8 e w') := by
        refine Lib.hid ?_
        have hd : T.WB.drop (S.gb + k) = ⟨g, o, t, ii, v, s, mm, l⟩ :: T.WB.drop (S.gb + (k + 1)) := by
          obtain ⟨h1, h2⟩ := List.getElem?_eq_some_iff.1 Hx.out
          rw [List.drop_eq_getElem_cons h1, h2]
          rfl
        have hld := hmid8.ld
        have hld2 : LoadAt W8 C.Bb C.mb b (⟨g, o, t, ii, v, s, mm, l⟩ :: T.WB.drop (S.gb + (k + 1))) (keysB T S) := by rw [← hd]; exact hld
        have hu : Uniq (⟨g, o, t, ii, v, s, mm, l⟩ :: T.WB.drop (S.gb + (k + 1))) := by rw [← hd]; exact (wB_uniq HT.out).drop _
        have hle := keysB_len (T := T) (S := S)
        have hkp := Hk.out
        have hmm := Hm.out
        change Calls Try.prog 25 #[.pointer (some ⟨C.Bb, 0, none⟩), hdval ⟨g, o, t, ii, v, s, mm, l⟩] W8 _
        refine got_step (x := ⟨g, o, t, ii, v, s, mm, l⟩) hu hld2 HxB.out.1 (fun e => ?_) (fun y hy => ?_) (by rw [List.length_drop]; have := wB_len HT.out; omega) (by omega)
        · rw [e] at hmm; simp at hmm; omega
        · obtain ⟨z, hz, rfl⟩ := keysB_mem hy
          exact (HT.out.okA z (wB_sub hz)).1.ky
      have HMid8 := Lib.hid hmid8
      have HFr8 : Hid (Frame (Wr T C (T.N + 1) (T.N + 1) a b (.slice (some ⟨bl, of1, none⟩) n0 c0) (.slice A1 n1 c1)) W6 W8) := Lib.hid hfr8
      have HWr8 : Hid (∀ j, Wr T C (T.N + 1) (T.N + 1) a b (.slice (some ⟨bl, of1, none⟩) n0 c0) (.slice A' n' c') j → Wr T C (T.N + 1) (T.N + 1) a b (.slice (some ⟨bl, of1, none⟩) n0 c0) (.slice A1 n1 c1) j ∨ W6.heap.size ≤ j) := Lib.hid hwr8
      have HB06 : Hid (Below w.heap.size w W6) := Lib.hid (HB5.out.trans (HB56.out.mono HB5.out.size))
      clear hmid8 hk8 hW8 hfr8 hwr8
      go_wp2_with fail
      refine HGot.out.mono ?_
      rintro e w9 hgs
      obtain ⟨v9, rfl, hdl⟩ := HK.out.step HT.out HC.out HN.out HA.out HIH.out Hok.out Hpre.out Hrem.out Hn4.out HL.out (by rw [Hm.out]; exact Hk.out) HB06.out HFr8.out HWr8.out HMid8.out hgs
      rw [Hm.out] at hdl
      have HDl := Lib.hid hdl
      clear hdl hgs h0 h1 h2 h3 h4 h5 h6 h7
      go_wp2_with fail
      refine HDl.out.mono ?_
      rintro e w10 ⟨rfl, hres⟩
      have HRes := Lib.hid hres
      clear hres
      go_wp2_with fail
      exact HQ.out _ _ _ _ _ _ _ _ _ _ _ _ _ _ _ _ _ _ _ _ _ _ _ _ _ _ _ _ _ _ _ _ _ _ _ _ _ _ _ _ _ _ _ _ _ _ _ _ _ _ _ _ _ _ _ w10 HRes.out
end Go.Proofs.Ytgbmhijgpdgdbaa
