/- deliver, the rest of a round: a description to the lesser. -/
import Derived.Test.YtgbmhijgpdgdbaaFaExits
namespace Go.Proofs.Ytgbmhijgpdgdbaa
open Go.RowKit

set_option maxHeartbeats 4000000 in
set_option maxRecDepth 20000 in
theorem rest_a {T : Tk} {P : Fu.Pa} {C : Cn} (hT : TkOk T) (hC : CnOk C) {f : Nat} (IH : Onward T P C f) {w3 : World} {S : Fu.Sy} {a b : Adj} {A0 A1 : Option Addr} {n0 n1 c0 c1 : Nat} {vg i len c : Nat} {ml : Fu.Ml} {fl sq : Int} {hv : Value} (hlt : (i : Int) < (len : Int))
    (hn0 : (gained T.A (T.WA.take S.ga)).length = n0)
    (hnet : NetIs T P C w3 { S with n := S.n + 1 } a b (.slice A0 n0 c0) (.slice A1 n1 c1)) (hrow : RowAt w3 vg i ⟨true, 0, 2, fl, sq, hv, .slice none 0 0⟩) (hready : ReadyA T P C f S ml a b (.slice A0 n0 c0) (.slice A1 n1 c1) w3 fl sq hv)
    (K0 : Act → World → Prop) (x3 x4 x5 x7 x8 x9 x10 x11 x12 x13 x14 x15 x16 x17 x18 x19 x20 x21 x22 x23 x24 x25 x26 x27 x28 x29 x30 x31 x32 x33 x34 x35 x36 x37 x38 x39 x40 x41 x42 x43 x44 x45 x46 x47 x48 x49 x50 x51 x52 x53 x54 x55 x56 x57 x58 x59 x60 x61 x62 x63 x64 x65 x66 x67 x68 x69 x70 x71 x72 x73 x74 x75 x76 x77 x78 x79 x80 x81 x82 x83 x84 x85 x86 x87 x88 x89 x90 x91 x92 x93 x94 x95 x96 x97 x98 x99 x100 x101 x102 x103 x104 x105 x106 x107 x108 x109 x110 x111 x112 x113 x114 x115 x116 x117 x118 x119 x120 x121 x122 x123 x124 x125 x126 x127 x128 x129 x130 x131 x132 x133 x134 x135 x136 x137 x138 x139 x140 x141 x142 x143 x144 x145 x146 x147 x148 x149 x150 x151 x152 x153 x154 x155 x156 x157 x158 x159 x160 x161 x162 x163 x164 x165 x166 x167 x168 x169 x170 x171 x172 x173 x174 x175 x176 x177 x178 x179 x180 x181 x182 x183 x184 x185 x186 x187 x188 : Value)
    (hQ : ∀ (y7 y8 y9 y10 y11 y12 y13 y14 y15 y16 y17 y18 y19 y20 y21 y22 y23 y24 y25 y26 y27 y28 y29 y30 y31 y32 y33 y34 y35 y36 y37 y38 y39 y40 y41 y42 y43 y44 y45 y46 y47 y48 y49 y50 y51 y52 y53 y54 y55 y56 y57 y58 y59 y60 y61 y62 y63 y64 y65 y66 y67 y68 y69 y70 y71 y72 y73 y74 y75 y76 y77 y78 y79 y80 y81 y82 y83 y84 y85 y86 y87 y88 y89 y90 y91 y92 y93 y94 y95 y96 y97 y98 y99 y100 y101 y102 y103 y104 y105 y106 y107 y108 y109 y110 y111 y112 y113 y114 y115 y116 y117 y118 y119 y120 y121 y122 y123 y124 y125 y126 y127 y128 y129 y130 y131 y132 y133 y134 y135 y136 y137 y138 y139 y140 y141 y142 y143 y144 y145 y146 y147 y148 y149 y150 y151 y152 y153 y154 y155 y156 y157 y158 y159 y160 y161 y162 y163 y164 y165 y166 y167 y168 y169 y170 y171 y172 y173 y174 y175 y176 y177 y178 y179 y180 y181 y182 y183 y184 y185 y186 y187 y188 : Value) (w' : World), Went T P C w3 (WrS T C S a b (.slice A0 n0 c0) (.slice A1 n1 c1)) (Fu.run P (f + 1) S ml) w' → K0 { tmps := #[.pointer (some ⟨C.Wb, 0, none⟩), .int .i64 0, .slice (some ⟨vg, 0, none⟩) len c, x3, x4, x5, .int .i64 i, y7, y8, y9, y10, y11, y12, y13, y14, y15, y16, y17, y18, y19, y20, y21, y22, y23, y24, y25, y26, y27, y28, y29, y30, y31, y32, y33, y34, y35, y36, y37, y38, y39, y40, y41, y42, y43, y44, y45, y46, y47, y48, y49, y50, y51, y52, y53, y54, y55, y56, y57, y58, y59, y60, y61, y62, y63, y64, y65, y66, y67, y68, y69, y70, y71, y72, y73, y74, y75, y76, y77, y78, y79, y80, y81, y82, y83, y84, y85, y86, y87, y88, y89, y90, y91, y92, y93, y94, y95, y96, y97, y98, y99, y100, y101, y102, y103, y104, y105, y106, y107, y108, y109, y110, y111, y112, y113, y114, y115, y116, y117, y118, y119, y120, y121, y122, y123, y124, y125, y126, y127, y128, y129, y130, y131, y132, y133, y134, y135, y136, y137, y138, y139, y140, y141, y142, y143, y144, y145, y146, y147, y148, y149, y150, y151, y152, y153, y154, y155, y156, y157, y158, y159, y160, y161, y162, y163, y164, y165, y166, y167, y168, y169, y170, y171, y172, y173, y174, y175, y176, y177, y178, y179, y180, y181, y182, y183, y184, y185, y186, y187, y188], defers := [] } w') :
    Code.wp Try.prog restC (Exit.inBlock 1 (Exit.then K0 (bodyPost Try.prog Try.f18 fun _ _ => False))) { tmps := #[.pointer (some ⟨C.Wb, 0, none⟩), .int .i64 0, .slice (some ⟨vg, 0, none⟩) len c, x3, x4, x5, .int .i64 i, x7, x8, x9, x10, x11, x12, x13, x14, x15, x16, x17, x18, x19, x20, x21, x22, x23, x24, x25, x26, x27, x28, x29, x30, x31, x32, x33, x34, x35, x36, x37, x38, x39, x40, x41, x42, x43, x44, x45, x46, x47, x48, x49, x50, x51, x52, x53, x54, x55, x56, x57, x58, x59, x60, x61, x62, x63, x64, x65, x66, x67, x68, x69, x70, x71, x72, x73, x74, x75, x76, x77, x78, x79, x80, x81, x82, x83, x84, x85, x86, x87, x88, x89, x90, x91, x92, x93, x94, x95, x96, x97, x98, x99, x100, x101, x102, x103, x104, x105, x106, x107, x108, x109, x110, x111, x112, x113, x114, x115, x116, x117, x118, x119, x120, x121, x122, x123, x124, x125, x126, x127, x128, x129, x130, x131, x132, x133, x134, x135, x136, x137, x138, x139, x140, x141, x142, x143, x144, x145, x146, x147, x148, x149, x150, x151, x152, x153, x154, x155, x156, x157, x158, x159, x160, x161, x162, x163, x164, x165, x166, x167, x168, x169, x170, x171, x172, x173, x174, x175, x176, x177, x178, x179, x180, x181, x182, x183, x184, x185, x186, x187, x188], defers := [] } w3 := by
  have HT := Lib.hid hT
  have HC := Lib.hid hC
  have HIH := Lib.hid IH
  have HN3 := Lib.hid hnet
  have HR3 := Lib.hid hrow
  have HRd := Lib.hid hready
  have HQ := Lib.hid hQ
  have Hn0 := Lib.hid hn0
  have hw3 := hnet.bs.wire
  have c0' : w3.cell? ⟨C.Wb, 0, none⟩ = some (.pointer (some ⟨C.Ba, 0, none⟩)) := hw3.cell 0
  have c1' : w3.cell? ⟨C.Wb, 1, none⟩ = some (.pointer (some ⟨C.Bb, 0, none⟩)) := hw3.cell 1
  have hW3 := hw3.lt
  clear hT hC IH hnet hrow hready hQ hn0 hw3
  let Qb : Exit → Act → World → Prop := bodyPost Try.prog Try.f18 fun _ _ => False
  change Code.wp Try.prog restC (Exit.inBlock 1 (Exit.then K0 Qb)) _ _
  unfold restC
  simp only [Try.f18, codeAt, Option.getD]
  go_wp2_with fail
  go_quiet (fail)
  generalize hW4 : World.drewN _ _ = W4
  have hb4 : Below w3.heap.size w3 W4 := by rw [← hW4]; exact drewB' w3 _
  have hn4' := HN3.out.quiet HC.out hb4
  have hr4 : RowAt W4 vg i ⟨true, 0, 2, fl, sq, hv, .slice none 0 0⟩ := fun k u hk => (hb4.cell (cell_lt (HR3.out k u hk))).trans (HR3.out k u hk)
  clear c0' c1' hW3 hW4
  have hw4 := hn4'.bs.wire
  have c2' : W4.cell? ⟨C.Wb, 2, none⟩ = some (.slice A0 n0 c0) := hw4.cell 2
  obtain ⟨r0, r1, r2, r3, r4, r5, r6⟩ := hr4.cells
  have HN4 := Lib.hid hn4'
  have HR4 := Lib.hid hr4
  have HB4 := Lib.hid hb4
  have hW4 := hw4.lt
  have HCp : Hid (Calls Try.prog 15 #[.slice A0 n0 c0] W4.drew fun e w' => ∃ v', e = .returned v' ∧ HeadsIn w' v' (gained T.A (T.WA.take S.ga)) ∧ Below W4.heap.size W4 w') := Lib.hid (copy_own HN4.out.bs.o0 (ownA HT.out S.ga).n)
  clear hb4 hn4' hr4 hw4
  go_upto_region 10 with fail
  go_cut [9, 10] (fun lv e wx => ∃ cd w5, e = .int .i64 cd ∧ Hid (Below W4.heap.size W4 w5) ∧ Hid (Goes T P C f S ml 0 a b (.slice A0 n0 c0) (.slice A1 n1 c1) w5 wx lv))
  case first =>
    go_region_law (first
      | (go_simp; go_at_call 15; refine HCp.out.mono ?_; rintro e w5 ⟨cv, rfl, hco, hb45⟩; have HB45 := Lib.hid hb45; have HCo := Lib.hid hco; have hr5 : RowAt w5 vg i ⟨true, 0, 2, fl, sq, hv, .slice none 0 0⟩ := fun k u hk => (hb45.cell (cell_lt (HR4.out k u hk))).trans (HR4.out k u hk); obtain ⟨q0, q1, q2, q3, q4, q5, q6⟩ := hr5.cells; clear hco hr5 hb45)
      | (go_simp; go_at_call 14; refine (HRd.out w5 cv (HB4.out.trans (HB45.out.mono HB4.out.size)) HCo.out).mono ?_; rintro e w6 ⟨lv, cd, rfl, hgo⟩; have HGo := Lib.hid hgo; clear hgo))
    all_goals
      go_wp2_with fail
      go_meet
      case rel => exact ⟨_, w5, rfl, HB45, HGo⟩
  case rest =>
    obtain ⟨cd, w5, rfl, HB5, HGo⟩ := hcut
    have HOn := Lib.hid (HGo.out.on HIH.out)
    have HB35 : Hid (Below w3.heap.size w3 w5) := Lib.hid (HB4.out.trans (HB5.out.mono HB4.out.size))
    clear r0 r1 r2 r3 r4 r5 r6 c2' hW4
    go_wp2_with fail
    go_at_call 18
    refine HOn.out.mono ?_
    rintro e w7 ⟨rfl, hg⟩
    have HWent := Lib.hid (Went.trans (Frame.of_below HB35.out) (fun _ e => .inl e) hg)
    clear hg
    go_wp2_with fail
    exact HQ.out _ _ _ _ _ _ _ _ _ _ _ _ _ _ _ _ _ _ _ _ _ _ _ _ _ _ _ _ _ _ _ _ _ _ _ _ _ _ _ _ _ _ _ _ _ _ _ _ _ _ _ _ _ _ _ _ _ _ _ _ _ _ _ _ _ _ _ _ _ _ _ _ _ _ _ _ _ _ _ _ _ _ _ _ _ _ _ _ _ _ _ _ _ _ _ _ _ _ _ _ _ _ _ _ _ _ _ _ _ _ _ _ _ _ _ _ _ _ _ _ _ _ _ _ _ _ _ _ _ _ _ _ _ _ _ _ _ _ _ _ _ _ _ _ _ _ _ _ _ _ _ _ _ _ _ _ _ _ _ _ _ _ _ _ _ _ _ _ _ _ _ _ _ _ _ _ _ _ _ _ _ _ w7 HWent.out
end Go.Proofs.Ytgbmhijgpdgdbaa
