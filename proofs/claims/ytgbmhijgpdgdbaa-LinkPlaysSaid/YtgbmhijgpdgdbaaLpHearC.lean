/- The document's link: a Hello is heard; the word of a change. -/
import Derived.Test.YtgbmhijgpdgdbaaLpRefTick
set_option maxHeartbeats 8000000
set_option maxRecDepth 20000
namespace Go.Proofs.Ytgbmhijgpdgdbaa
open Go.RowKit Go.Shelf
def Pl.hearC (c : LC) (f : Int) (h : Pl.Hel) (sm : Bool) (x nk : Kn) (s1 : Pl.St) : Pl.St :=
  if s1.st = 2 then if Pl.two nk && ((h.bd == f) || ((h.dr == f) && (h.bd == 0))) then Pl.elect c s1 else s1
  else if 4 ≤ s1.st ∧ Pl.change f sm x nk = true then Pl.elect c s1 else s1
def Pl.hearO (c : LC) (f : Int) (h : Pl.Hel) (s2 : Pl.St) : List (Int × Pl.Hel) :=
  if c.ty = 1 ∧ c.pr = 0 ∧ 0 < h.pr ∧ f ≠ s2.dr ∧ f ≠ s2.bd then [(f, Pl.hel c s2)] else []
noncomputable def codeOn : Nat → Code → Code
  | 0, x => x
  | n + 1, .seq _ y => codeOn n y
  | _ + 1, x => x
noncomputable def hearRest (n : Nat) : Code := codeOn n (Try.f82.body.getD .skip)
section
variable {lo : Nat} {w0 w : World} {R OB S HB : Nat} {c : LC} {s1 : Pl.St} {v : Value}
theorem hear_d (hR : RAt lo w R c s1 v) (hF0 : RFr lo w0 w) (hl : s1.l.length ≤ 60000) (hn0 : 0 ≤ c.nb) (hn1 : c.nb ≤ 32) (hvi : c.ty = 4 → c.nb = 0) {f r : Int} {h : Pl.Hel} {na : Option Addr} {nn nc : Nat} {sm ch : Bool} {x nk : Kn}
    (hS : Blk w S 157 #[.int .u32 nk.ro, .int .u32 nk.ad, .int .u8 nk.st, .int .u8 nk.pr, .int .u32 nk.dr, .int .u32 nk.bd, .int .u8 nk.op, .int .u32 nk.lf, .bool nk.fu]) (hK : Blk w HB 90 #[.int .u32 h.ma, .int .u16 h.hi, .int .u8 h.op, .int .u8 h.pr, .int .u32 h.dd, .int .u32 h.dr, .int .u32 h.bd, .slice na nn nc]) (hkd : nk.dr = h.dr) (hkb : nk.bd = h.bd) (hch : Pl.change f sm x nk = ch)
    (x3 x4 x5 x6 x8 x9 x10 x11 x13 x15 x17 x18 x19 x20 x21 x22 x23 x24 x25 x26 x27 x28 x29 x30 x31 x32 x33 x34 x35 x36 x37 x38 x39 x40 x41 x42 x43 x44 x45 x46 x47 x48 x49 x50 x51 x52 x53 x54 x55 x56 x57 x58 x59 x60 x61 x62 x63 x64 x65 x66 x67 x68 x69 x70 x71 x72 x73 x74 x75 x76 x77 x78 x79 x80 x81 x82 x83 x84 x85 x86 x87 x88 x89 x90 x91 x92 x93 x94 x95 x96 x97 x98 x99 x100 x101 x102 x103 x104 x105 x106 x107 x108 x109 x110 x111 x112 x113 x114 x115 x116 x117 x118 x119 x120 x121 x122 x123 x124 x125 x126 x127 x128 x129 x130 x131 x132 x133 x134 x135 x136 x137 x138 x139 x140 x141 x142 x143 x144 x145 x146 x147 x148 x149 x150 x151 x152 x153 x154 x155 x156 x157 x158 x159 x160 x161 x162 x163 x164 x165 x166 x167 x168 x169 x170 x171 x172 x173 x174 x175 x176 x177 x178 x179 x180 x181 x182 x183 x184 x185 x186 x187 x188 x189 x190 x191 x192 x193 x194 x195 x196 x197 x198 x199 x200 x201 x202 x203 x204 x205 x206 x207 x208 x209 x210 x211 x212 x213 x214 x215 x216 x217 x218 x219 x220 x221 x222 x223 x224 x225 x226 x227 : Value) :
    Code.wp Try.prog (hearRest 14) (bodyPost Try.prog Try.f82 fun e w' => ∃ u v', e = .returned (.tuple #[u, .int .i64 0]) ∧ OutsAt w' u (Pl.hearO c f h (Pl.hearC c f h sm x nk s1)) ∧ RAt lo w' R c (Pl.hearC c f h sm x nk s1) v' ∧ RFr lo w0 w') { tmps := #[.pointer (some ⟨R, 0, none⟩), .int .u32 f, .int .u32 r, x3, x4, x5, x6, .pointer (some ⟨HB, 0, none⟩), x8, x9, x10, x11, .pointer (some ⟨OB, 0, none⟩), x13, .pointer (some ⟨S, 0, none⟩), x15, .bool ch, x17, x18, x19, x20, x21, x22, x23, x24, x25, x26, x27, x28, x29, x30, x31, x32, x33, x34, x35, x36, x37, x38, x39, x40, x41, x42, x43, x44, x45, x46, x47, x48, x49, x50, x51, x52, x53, x54, x55, x56, x57, x58, x59, x60, x61, x62, x63, x64, x65, x66, x67, x68, x69, x70, x71, x72, x73, x74, x75, x76, x77, x78, x79, x80, x81, x82, x83, x84, x85, x86, x87, x88, x89, x90, x91, x92, x93, x94, x95, x96, x97, x98, x99, x100, x101, x102, x103, x104, x105, x106, x107, x108, x109, x110, x111, x112, x113, x114, x115, x116, x117, x118, x119, x120, x121, x122, x123, x124, x125, x126, x127, x128, x129, x130, x131, x132, x133, x134, x135, x136, x137, x138, x139, x140, x141, x142, x143, x144, x145, x146, x147, x148, x149, x150, x151, x152, x153, x154, x155, x156, x157, x158, x159, x160, x161, x162, x163, x164, x165, x166, x167, x168, x169, x170, x171, x172, x173, x174, x175, x176, x177, x178, x179, x180, x181, x182, x183, x184, x185, x186, x187, x188, x189, x190, x191, x192, x193, x194, x195, x196, x197, x198, x199, x200, x201, x202, x203, x204, x205, x206, x207, x208, x209, x210, x211, x212, x213, x214, x215, x216, x217, x218, x219, x220, x221, x222, x223, x224, x225, x226, x227], defers := [] } w := by
  have HR := Lib.hid hR
  have HF0 := Lib.hid hF0
  have HK := Lib.hid hK
  have HHe : Hid (∀ {w'} {s2 : Pl.St}, RAt lo w' R c s2 v → s2.l.length ≤ 60000 → Calls Try.prog 122 #[.pointer (some ⟨R, 0, none⟩)] w' fun e w2 => RHel c s2 w' e w2) := Lib.hid (fun h1 h2 => rhello_any h1 h2 hn0 hn1 hvi)
  have Hl := Lib.hid hl
  have n2 : w.cell? ⟨S, 2, none⟩ = some (.int .u8 nk.st) := hS.cell 2
  have n4 : w.cell? ⟨S, 4, none⟩ = some (.int .u32 h.dr) := by rw [← hkd]; exact hS.cell 4
  have n5 : w.cell? ⟨S, 5, none⟩ = some (.int .u32 h.bd) := by rw [← hkb]; exact hS.cell 5
  have hSl := hS.lt
  obtain ⟨n3, hn3⟩ : ∃ b, (nk.st == 3) = b := ⟨_, rfl⟩
  have N3 := Lib.hid hn3
  have HCh := Lib.hid hch
  clear hR hF0 hl hn0 hn1 hvi hS hK hn3 hkd hkb hch
  let Qb : Exit → Act → World → Prop := bodyPost Try.prog Try.f82 fun e w' => ∃ u v', e = .returned (.tuple #[u, .int .i64 0]) ∧ OutsAt w' u (Pl.hearO c f h (Pl.hearC c f h sm x nk s1)) ∧ RAt lo w' R c (Pl.hearC c f h sm x nk s1) v' ∧ RFr lo w0 w'
  change Code.wp Try.prog (hearRest 14) Qb _ _
  unfold hearRest
  simp only [Try.f82, codeOn, Option.getD]
  have HEl : Hid (Calls Try.prog 117 #[.pointer (some ⟨R, 0, none⟩)] w fun e w' => e = .returned (.tuple #[]) ∧ RAt lo w' R c (Pl.elect c s1) v ∧ RFr lo w w') := Lib.hid (relect_l HR.out Hl.out)
  have c14 : w.cell? ⟨R, 14, none⟩ = some (.int .u8 s1.st) := HR.out.b.cell 14
  have hRl := HR.out.b.lt
  go_upto_if 152 with fail
  go_cut [] (fun wx => Hid (RAt lo wx R c (Pl.hearC c f h sm x nk s1) v) ∧ Hid (RFr lo w wx) ∧ Hid (Blk wx HB 90 #[.int .u32 h.ma, .int .u16 h.hi, .int .u8 h.op, .int .u8 h.pr, .int .u32 h.dd, .int .u32 h.dr, .int .u32 h.bd, .slice na nn nc]))
  case first =>
   rcases e2 : (s1.st == 2) with _ | _
   rotate_left
   · have e3 := N3.out
     skip
     rcases n3 with _ | _
     · have HE : Hid (Pl.hearC c f h sm x nk s1 = s1) := Lib.hid (by unfold Pl.hearC Pl.two; rw [if_pos (by simpa using e2), N3.out]; rfl)
       go_wp2_with fail
       go_meet
       case rel => exact ⟨by rw [HE.out]; exact HR, Lib.hid (RFr.refl _ _), HK⟩
     · rcases eb : (h.bd == f) with _ | _
       · rcases ed : (h.dr == f) with _ | _
         · have HE : Hid (Pl.hearC c f h sm x nk s1 = s1) := Lib.hid (by unfold Pl.hearC Pl.two; rw [if_pos (by simpa using e2), N3.out, eb, ed]; rfl)
           go_wp2_with fail
           go_meet
           case rel => exact ⟨by rw [HE.out]; exact HR, Lib.hid (RFr.refl _ _), HK⟩
         · rcases ez : (h.bd == 0) with _ | _
           · have HE : Hid (Pl.hearC c f h sm x nk s1 = s1) := Lib.hid (by unfold Pl.hearC Pl.two; rw [if_pos (by simpa using e2), N3.out, eb, ed, ez]; rfl)
             go_wp2_with fail
             go_meet
             case rel => exact ⟨by rw [HE.out]; exact HR, Lib.hid (RFr.refl _ _), HK⟩
           · have HE : Hid (Pl.hearC c f h sm x nk s1 = Pl.elect c s1) := Lib.hid (by unfold Pl.hearC Pl.two; rw [if_pos (by simpa using e2), N3.out, eb, ed, ez]; rfl)
             go_wp2_with fail
             refine HEl.out.mono ?_
             rintro e we ⟨rfl, hre, hfe⟩
             have HRe := Lib.hid hre
             have HFe := Lib.hid hfe
             have HKe := Lib.hid (hfe.blk HK.out (by decide) (by decide))
             clear hre hfe
             go_wp2_with fail
             go_meet
             case rel => exact ⟨by rw [HE.out]; exact HRe, HFe, HKe⟩
       · have HE : Hid (Pl.hearC c f h sm x nk s1 = Pl.elect c s1) := Lib.hid (by unfold Pl.hearC Pl.two; rw [if_pos (by simpa using e2), N3.out, eb]; rfl)
         go_wp2_with fail
         refine HEl.out.mono ?_
         rintro e we ⟨rfl, hre, hfe⟩
         have HRe := Lib.hid hre
         have HFe := Lib.hid hfe
         have HKe := Lib.hid (hfe.blk HK.out (by decide) (by decide))
         clear hre hfe
         go_wp2_with fail
         go_meet
         case rel => exact ⟨by rw [HE.out]; exact HRe, HFe, HKe⟩
   ·
    by_cases e4 : 4 ≤ s1.st
    · rcases ch with _ | _
      · have HE : Hid (Pl.hearC c f h sm x nk s1 = s1) := Lib.hid (by unfold Pl.hearC; rw [if_neg (by simpa using e2), if_neg (by rw [HCh.out]; simp)])
        go_wp2_with fail
        go_meet
        case rel => exact ⟨by rw [HE.out]; exact HR, Lib.hid (RFr.refl _ _), HK⟩
      · have HE : Hid (Pl.hearC c f h sm x nk s1 = Pl.elect c s1) := Lib.hid (by unfold Pl.hearC; rw [if_neg (by simpa using e2), if_pos ⟨e4, HCh.out⟩])
        go_wp2_with fail
        refine HEl.out.mono ?_
        rintro e we ⟨rfl, hre, hfe⟩
        have HRe := Lib.hid hre
        have HFe := Lib.hid hfe
        have HKe := Lib.hid (hfe.blk HK.out (by decide) (by decide))
        clear hre hfe
        go_wp2_with fail
        go_meet
        case rel => exact ⟨by rw [HE.out]; exact HRe, HFe, HKe⟩
    · have HE : Hid (Pl.hearC c f h sm x nk s1 = s1) := Lib.hid (by unfold Pl.hearC; rw [if_neg (by simpa using e2), if_neg (fun e => e4 e.1)])
      go_wp2_with fail
      go_meet
      case rel => exact ⟨by rw [HE.out]; exact HR, Lib.hid (RFr.refl _ _), HK⟩
  obtain ⟨HR2, HF2, HK2⟩ := hcut
  obtain ⟨w2, hw2⟩ : ∃ y, y = wc := ⟨_, rfl⟩
  rw [← hw2] at HR2 HF2 HK2 ⊢
  obtain ⟨s2, hs2⟩ : ∃ s2, Pl.hearC c f h sm x nk s1 = s2 := ⟨_, rfl⟩
  have HS2 := Lib.hid hs2
  have Hl2 : Hid (s2.l.length ≤ 60000) := Lib.hid (by
    rw [← hs2]
    have h0 := Hl.out
    have h1 : (Pl.elect c s1).l.length = s1.l.length := by unfold Pl.elect; dsimp only; split <;> simp
    unfold Pl.hearC
    repeat' split
    all_goals first | exact h0 | (rw [h1]; exact h0))
  rw [hs2] at HR2
  clear hw2 hs2 c14 hRl n2 n4 n5 hSl HEl HCh HR HK
  have c0 : w2.cell? ⟨R, 0, none⟩ = some (.int .u8 c.ty) := HR2.out.b.cell 0
  have c9 : w2.cell? ⟨R, 9, none⟩ = some (.int .u8 c.pr) := HR2.out.b.cell 9
  have c15 : w2.cell? ⟨R, 15, none⟩ = some (.int .u32 s2.dr) := HR2.out.b.cell 15
  have c16 : w2.cell? ⟨R, 16, none⟩ = some (.int .u32 s2.bd) := HR2.out.b.cell 16
  have k3 : w2.cell? ⟨HB, 3, none⟩ = some (.int .u8 h.pr) := HK2.out.cell 3
  have hRl := HR2.out.b.lt
  have hKl := HK2.out.lt
  by_cases h1 : c.ty = 1
  rotate_left
  · have e1 : (c.ty == 1) = false := by simpa using h1
    have HO0 : Hid (Pl.hearO c f h s2 = []) := Lib.hid (by unfold Pl.hearO; rw [if_neg (by exact fun e => h1 e.1)])
    go_wp2_with fail
    have hA : OutsAt w2 (.slice none 0 0) (Pl.hearO c f h (Pl.hearC c f h sm x nk s1)) := by rw [HS2.out, HO0.out]; exact OutsAt.nil _
    have hB : RAt lo w2 R c (Pl.hearC c f h sm x nk s1) v := by rw [HS2.out]; exact HR2.out
    have hG : RFr lo w0 w2 := HF0.out.trans HF2.out
    refine bodyPost_ret (v := .tuple #[.slice none 0 0, .int .i64 0]) (by simp [results, Try.results82, go_sem]) rfl ?_
    first | exact ⟨_, v, rfl, hA, hB, hG⟩ | exact ⟨_, rfl, hA, ⟨v, hB⟩, hG⟩
  by_cases h2 : c.pr = 0
  rotate_left
  · have e2 : (c.pr == 0) = false := by simpa using h2
    have HO0 : Hid (Pl.hearO c f h s2 = []) := Lib.hid (by unfold Pl.hearO; rw [if_neg (by exact fun e => h2 e.2.1)])
    go_wp2_with fail
    have hA : OutsAt w2 (.slice none 0 0) (Pl.hearO c f h (Pl.hearC c f h sm x nk s1)) := by rw [HS2.out, HO0.out]; exact OutsAt.nil _
    have hB : RAt lo w2 R c (Pl.hearC c f h sm x nk s1) v := by rw [HS2.out]; exact HR2.out
    have hG : RFr lo w0 w2 := HF0.out.trans HF2.out
    refine bodyPost_ret (v := .tuple #[.slice none 0 0, .int .i64 0]) (by simp [results, Try.results82, go_sem]) rfl ?_
    first | exact ⟨_, v, rfl, hA, hB, hG⟩ | exact ⟨_, rfl, hA, ⟨v, hB⟩, hG⟩
  by_cases h3 : 0 < h.pr
  rotate_left
  · have Hno : Hid (¬ 0 < h.pr) := Lib.hid h3
    have HO0 : Hid (Pl.hearO c f h s2 = []) := Lib.hid (by unfold Pl.hearO; rw [if_neg (by exact fun e => Hno.out e.2.2.1)])
    go_wp2_with fail
    have hA : OutsAt w2 (.slice none 0 0) (Pl.hearO c f h (Pl.hearC c f h sm x nk s1)) := by rw [HS2.out, HO0.out]; exact OutsAt.nil _
    have hB : RAt lo w2 R c (Pl.hearC c f h sm x nk s1) v := by rw [HS2.out]; exact HR2.out
    have hG : RFr lo w0 w2 := HF0.out.trans HF2.out
    refine bodyPost_ret (v := .tuple #[.slice none 0 0, .int .i64 0]) (by simp [results, Try.results82, go_sem]) rfl ?_
    first | exact ⟨_, v, rfl, hA, hB, hG⟩ | exact ⟨_, rfl, hA, ⟨v, hB⟩, hG⟩
  rcases e4 : (f != s2.dr) with _ | _
  · have h4 : f = s2.dr := by simpa using e4
    have Hno := Lib.hid h4
    clear h4
    have HO0 : Hid (Pl.hearO c f h s2 = []) := Lib.hid (by unfold Pl.hearO; rw [if_neg (by exact fun e => e.2.2.2.1 Hno.out)])
    go_wp2_with fail
    have hA : OutsAt w2 (.slice none 0 0) (Pl.hearO c f h (Pl.hearC c f h sm x nk s1)) := by rw [HS2.out, HO0.out]; exact OutsAt.nil _
    have hB : RAt lo w2 R c (Pl.hearC c f h sm x nk s1) v := by rw [HS2.out]; exact HR2.out
    have hG : RFr lo w0 w2 := HF0.out.trans HF2.out
    refine bodyPost_ret (v := .tuple #[.slice none 0 0, .int .i64 0]) (by simp [results, Try.results82, go_sem]) rfl ?_
    first | exact ⟨_, v, rfl, hA, hB, hG⟩ | exact ⟨_, rfl, hA, ⟨v, hB⟩, hG⟩
  rcases e5 : (f != s2.bd) with _ | _
  · have h5 : f = s2.bd := by simpa using e5
    have Hno := Lib.hid h5
    clear h5
    have HO0 : Hid (Pl.hearO c f h s2 = []) := Lib.hid (by unfold Pl.hearO; rw [if_neg (by exact fun e => e.2.2.2.2 Hno.out)])
    go_wp2_with fail
    have hA : OutsAt w2 (.slice none 0 0) (Pl.hearO c f h (Pl.hearC c f h sm x nk s1)) := by rw [HS2.out, HO0.out]; exact OutsAt.nil _
    have hB : RAt lo w2 R c (Pl.hearC c f h sm x nk s1) v := by rw [HS2.out]; exact HR2.out
    have hG : RFr lo w0 w2 := HF0.out.trans HF2.out
    refine bodyPost_ret (v := .tuple #[.slice none 0 0, .int .i64 0]) (by simp [results, Try.results82, go_sem]) rfl ?_
    first | exact ⟨_, v, rfl, hA, hB, hG⟩ | exact ⟨_, rfl, hA, ⟨v, hB⟩, hG⟩
  have HO1 : Hid (Pl.hearO c f h s2 = [(f, Pl.hel c s2)]) := Lib.hid (by unfold Pl.hearO; rw [if_pos ⟨h1, h2, h3, by simpa using e4, by simpa using e5⟩])
  have HC1 := Lib.hid (HHe.out HR2.out Hl2.out)
  have HL : Hid ((Pl.hel c s2).nb.length ≤ 65536) := Lib.hid (by
    have h6 : (Pl.hel c s2).nb.length ≤ s2.l.length := by
      show ((s2.l.filter Pl.heard).map (·.ro)).length ≤ _
      rw [List.length_map]
      exact List.length_filter_le _ _
    have := Hl2.out
    omega)
  rw [h1] at c0
  rw [h2] at c9
  clear h1 h2
  go_upto_region 25 with fail
  clear c0 c9 c15 c16 k3 e4 e5 h3
  obtain ⟨i0, hi, hz0', hz1, hz2⟩ := info_parts rsend_info
  go_wp2_with (skip; fail)
  refine HC1.out.mono ?_
  rintro e w3 ⟨nv, rfl, hown, hb3⟩
  obtain ⟨va, vc, rfl⟩ := own_slice hown
  obtain ⟨q, hq⟩ : ∃ q, (Pl.hel c s2).nb.length = q := ⟨_, rfl⟩
  have Hq := Lib.hid hq
  rw [hq] at hown ⊢
  clear hq
  unfold hval
  have HO3 := Lib.hid hown
  have HB3 := Lib.hid hb3
  have hbase : w3.heap.size ≤ (w3.alloc (.cells #[.int .u32 f, .int .u32 (Pl.hel c s2).ma, .int .u16 (Pl.hel c s2).hi, .int .u8 (Pl.hel c s2).op, .int .u8 (Pl.hel c s2).pr, .int .u32 (Pl.hel c s2).dd, .int .u32 (Pl.hel c s2).dr, .int .u32 (Pl.hel c s2).bd, .slice va q vc] 181)).heap.size := by simp
  clear hown hb3
  go_wp2_with (at_builtin; refine wpList_append_any _ rfl (.tmp 220) (.tmp 225) _ rfl w3.heap.size 181 i0 _ 9 56 Try.underlying150 hi hz0' hz1 hz2 rfl (by omega) (.slice none 0 0) 0 [] rfl (World.ownsRow_nil _ _ _ _) _ (some ⟨w3.heap.size, 0, none⟩) 1 1 _ rfl (Reads.of_own (World.ownsRow_lit (base := 0) (e := 181) (size := 9) w3 #[.int .u32 f, .int .u32 (Pl.hel c s2).ma, .int .u16 (Pl.hel c s2).hi, .int .u8 (Pl.hel c s2).op, .int .u8 (Pl.hel c s2).pr, .int .u32 (Pl.hel c s2).dd, .int .u32 (Pl.hel c s2).dr, .int .u32 (Pl.hel c s2).bd, .slice va q vc] 1 (Nat.zero_le _) (by simp [maxLen]) rfl)) (by simp [Value.oneCell']) (by simp [maxLen]) (by simp) hbase ?_; intro v1 w6 hown6 hg6 _; have hF : Frame (fun _ => False) w3 w6 := (Frame.of_below ((Below.refl _ w3).alloc (Nat.le_refl _) _)).trans (Frame.of_grown hg6 (fun j e _ => by simp [Value.ownBlock] at e)); have HOwn6 := Lib.hid hown6; have HF := Lib.hid hF; clear hown6 hg6 hF)
  have hA : OutsAt w6 v1 (Pl.hearO c f h (Pl.hearC c f h sm x nk s1)) := by
    rw [HS2.out, HO1.out]
    exact OutsAt.of_own (ws := (Pl.hel c s2).nb) HOwn6.out (by simp) (by rw [Hq.out]; exact HF.out.own HO3.out (fun _ _ e => e)) HL.out (fun y hy => by rw [List.mem_singleton.1 hy])
  have hB : RAt lo w6 R c (Pl.hearC c f h sm x nk s1) v := by
    rw [HS2.out]
    have hr3 := HR2.out.below HB3.out
    exact ⟨hr3.loR, HF.out.blk hr3.b (fun e => e), HF.out.own hr3.o (fun _ _ e => e)⟩
  have hG : RFr lo w0 w6 := HF0.out.trans (HF2.out.trans ((RFr.of_below HB3.out).trans (HF.out.mono (fun _ e => e.elim))))
  refine bodyPost_ret (v := .tuple #[v1, .int .i64 0]) (by simp [results, Try.results82, go_sem]) rfl ?_
  first | exact ⟨_, v, rfl, hA, hB, hG⟩ | exact ⟨_, rfl, hA, ⟨v, hB⟩, hG⟩
end
end Go.Proofs.Ytgbmhijgpdgdbaa
namespace Go.Proofs.Ytgbmhijgpdgdbaa
open Go.RowKit Go.Shelf
section
variable {lo : Nat} {w0 w : World} {R OB S HB : Nat} {c : LC} {s1 : Pl.St} {v : Value}
theorem hear_c (hR : RAt lo w R c s1 v) (hF0 : RFr lo w0 w) (hl : s1.l.length ≤ 60000) (hn0 : 0 ≤ c.nb) (hn1 : c.nb ≤ 32) (hvi : c.ty = 4 → c.nb = 0) {f r : Int} {h : Pl.Hel} {na : Option Addr} {nn nc : Nat} {sm : Bool} {x nk : Kn}
    (hO : Blk w OB 157 #[.int .u32 x.ro, .int .u32 x.ad, .int .u8 x.st, .int .u8 x.pr, .int .u32 x.dr, .int .u32 x.bd, .int .u8 x.op, .int .u32 x.lf, .bool x.fu]) (hS : Blk w S 157 #[.int .u32 nk.ro, .int .u32 nk.ad, .int .u8 nk.st, .int .u8 nk.pr, .int .u32 nk.dr, .int .u32 nk.bd, .int .u8 nk.op, .int .u32 nk.lf, .bool nk.fu]) (hK : Blk w HB 90 #[.int .u32 h.ma, .int .u16 h.hi, .int .u8 h.op, .int .u8 h.pr, .int .u32 h.dd, .int .u32 h.dr, .int .u32 h.bd, .slice na nn nc]) (hkp : nk.pr = h.pr) (hkd : nk.dr = h.dr) (hkb : nk.bd = h.bd)
    (x3 x4 x5 x6 x8 x9 x10 x11 x15 x16 x17 x18 x19 x20 x21 x22 x23 x24 x25 x26 x27 x28 x29 x30 x31 x32 x33 x34 x35 x36 x37 x38 x39 x40 x41 x42 x43 x44 x45 x46 x47 x48 x49 x50 x51 x52 x53 x54 x55 x56 x57 x58 x59 x60 x61 x62 x63 x64 x65 x66 x67 x68 x69 x70 x71 x72 x73 x74 x75 x76 x77 x78 x79 x80 x81 x82 x83 x84 x85 x86 x87 x88 x89 x90 x91 x92 x93 x94 x95 x96 x97 x98 x99 x100 x101 x102 x103 x104 x105 x106 x107 x108 x109 x110 x111 x112 x113 x114 x115 x116 x117 x118 x119 x120 x121 x122 x123 x124 x125 x126 x127 x128 x129 x130 x131 x132 x133 x134 x135 x136 x137 x138 x139 x140 x141 x142 x143 x144 x145 x146 x147 x148 x149 x150 x151 x152 x153 x154 x155 x156 x157 x158 x159 x160 x161 x162 x163 x164 x165 x166 x167 x168 x169 x170 x171 x172 x173 x174 x175 x176 x177 x178 x179 x180 x181 x182 x183 x184 x185 x186 x187 x188 x189 x190 x191 x192 x193 x194 x195 x196 x197 x198 x199 x200 x201 x202 x203 x204 x205 x206 x207 x208 x209 x210 x211 x212 x213 x214 x215 x216 x217 x218 x219 x220 x221 x222 x223 x224 x225 x226 x227 : Value) :
    Code.wp Try.prog (hearRest 11) (bodyPost Try.prog Try.f82 fun e w' => ∃ u v', e = .returned (.tuple #[u, .int .i64 0]) ∧ OutsAt w' u (Pl.hearO c f h (Pl.hearC c f h sm x nk s1)) ∧ RAt lo w' R c (Pl.hearC c f h sm x nk s1) v' ∧ RFr lo w0 w') { tmps := #[.pointer (some ⟨R, 0, none⟩), .int .u32 f, .int .u32 r, x3, x4, x5, x6, .pointer (some ⟨HB, 0, none⟩), x8, x9, x10, x11, .pointer (some ⟨OB, 0, none⟩), .bool sm, .pointer (some ⟨S, 0, none⟩), x15, x16, x17, x18, x19, x20, x21, x22, x23, x24, x25, x26, x27, x28, x29, x30, x31, x32, x33, x34, x35, x36, x37, x38, x39, x40, x41, x42, x43, x44, x45, x46, x47, x48, x49, x50, x51, x52, x53, x54, x55, x56, x57, x58, x59, x60, x61, x62, x63, x64, x65, x66, x67, x68, x69, x70, x71, x72, x73, x74, x75, x76, x77, x78, x79, x80, x81, x82, x83, x84, x85, x86, x87, x88, x89, x90, x91, x92, x93, x94, x95, x96, x97, x98, x99, x100, x101, x102, x103, x104, x105, x106, x107, x108, x109, x110, x111, x112, x113, x114, x115, x116, x117, x118, x119, x120, x121, x122, x123, x124, x125, x126, x127, x128, x129, x130, x131, x132, x133, x134, x135, x136, x137, x138, x139, x140, x141, x142, x143, x144, x145, x146, x147, x148, x149, x150, x151, x152, x153, x154, x155, x156, x157, x158, x159, x160, x161, x162, x163, x164, x165, x166, x167, x168, x169, x170, x171, x172, x173, x174, x175, x176, x177, x178, x179, x180, x181, x182, x183, x184, x185, x186, x187, x188, x189, x190, x191, x192, x193, x194, x195, x196, x197, x198, x199, x200, x201, x202, x203, x204, x205, x206, x207, x208, x209, x210, x211, x212, x213, x214, x215, x216, x217, x218, x219, x220, x221, x222, x223, x224, x225, x226, x227], defers := [] } w := by
  have HR := Lib.hid hR
  have HF0 := Lib.hid hF0
  have HK := Lib.hid hK
  have HD : Hid (∀ (ch : Bool), Pl.change f sm x nk = ch → ∀ (x3 x4 x5 x6 x8 x9 x10 x11 x13 x15 x17 x18 x19 x20 x21 x22 x23 x24 x25 x26 x27 x28 x29 x30 x31 x32 x33 x34 x35 x36 x37 x38 x39 x40 x41 x42 x43 x44 x45 x46 x47 x48 x49 x50 x51 x52 x53 x54 x55 x56 x57 x58 x59 x60 x61 x62 x63 x64 x65 x66 x67 x68 x69 x70 x71 x72 x73 x74 x75 x76 x77 x78 x79 x80 x81 x82 x83 x84 x85 x86 x87 x88 x89 x90 x91 x92 x93 x94 x95 x96 x97 x98 x99 x100 x101 x102 x103 x104 x105 x106 x107 x108 x109 x110 x111 x112 x113 x114 x115 x116 x117 x118 x119 x120 x121 x122 x123 x124 x125 x126 x127 x128 x129 x130 x131 x132 x133 x134 x135 x136 x137 x138 x139 x140 x141 x142 x143 x144 x145 x146 x147 x148 x149 x150 x151 x152 x153 x154 x155 x156 x157 x158 x159 x160 x161 x162 x163 x164 x165 x166 x167 x168 x169 x170 x171 x172 x173 x174 x175 x176 x177 x178 x179 x180 x181 x182 x183 x184 x185 x186 x187 x188 x189 x190 x191 x192 x193 x194 x195 x196 x197 x198 x199 x200 x201 x202 x203 x204 x205 x206 x207 x208 x209 x210 x211 x212 x213 x214 x215 x216 x217 x218 x219 x220 x221 x222 x223 x224 x225 x226 x227 : Value), Code.wp Try.prog (hearRest 14) (bodyPost Try.prog Try.f82 fun e w' => ∃ u v', e = .returned (.tuple #[u, .int .i64 0]) ∧ OutsAt w' u (Pl.hearO c f h (Pl.hearC c f h sm x nk s1)) ∧ RAt lo w' R c (Pl.hearC c f h sm x nk s1) v' ∧ RFr lo w0 w') { tmps := #[.pointer (some ⟨R, 0, none⟩), .int .u32 f, .int .u32 r, x3, x4, x5, x6, .pointer (some ⟨HB, 0, none⟩), x8, x9, x10, x11, .pointer (some ⟨OB, 0, none⟩), x13, .pointer (some ⟨S, 0, none⟩), x15, .bool ch, x17, x18, x19, x20, x21, x22, x23, x24, x25, x26, x27, x28, x29, x30, x31, x32, x33, x34, x35, x36, x37, x38, x39, x40, x41, x42, x43, x44, x45, x46, x47, x48, x49, x50, x51, x52, x53, x54, x55, x56, x57, x58, x59, x60, x61, x62, x63, x64, x65, x66, x67, x68, x69, x70, x71, x72, x73, x74, x75, x76, x77, x78, x79, x80, x81, x82, x83, x84, x85, x86, x87, x88, x89, x90, x91, x92, x93, x94, x95, x96, x97, x98, x99, x100, x101, x102, x103, x104, x105, x106, x107, x108, x109, x110, x111, x112, x113, x114, x115, x116, x117, x118, x119, x120, x121, x122, x123, x124, x125, x126, x127, x128, x129, x130, x131, x132, x133, x134, x135, x136, x137, x138, x139, x140, x141, x142, x143, x144, x145, x146, x147, x148, x149, x150, x151, x152, x153, x154, x155, x156, x157, x158, x159, x160, x161, x162, x163, x164, x165, x166, x167, x168, x169, x170, x171, x172, x173, x174, x175, x176, x177, x178, x179, x180, x181, x182, x183, x184, x185, x186, x187, x188, x189, x190, x191, x192, x193, x194, x195, x196, x197, x198, x199, x200, x201, x202, x203, x204, x205, x206, x207, x208, x209, x210, x211, x212, x213, x214, x215, x216, x217, x218, x219, x220, x221, x222, x223, x224, x225, x226, x227], defers := [] } w) := Lib.hid (fun ch hch => hear_d hR hF0 hl hn0 hn1 hvi hS hK hkd hkb hch)
  have Hl := Lib.hid hl
  have o2 : w.cell? ⟨OB, 2, none⟩ = some (.int .u8 x.st) := hO.cell 2
  have o3 : w.cell? ⟨OB, 3, none⟩ = some (.int .u8 x.pr) := hO.cell 3
  have o4 : w.cell? ⟨OB, 4, none⟩ = some (.int .u32 x.dr) := hO.cell 4
  have o5 : w.cell? ⟨OB, 5, none⟩ = some (.int .u32 x.bd) := hO.cell 5
  have n2 : w.cell? ⟨S, 2, none⟩ = some (.int .u8 nk.st) := hS.cell 2
  have n3' : w.cell? ⟨S, 3, none⟩ = some (.int .u8 h.pr) := by rw [← hkp]; exact hS.cell 3
  have n4 : w.cell? ⟨S, 4, none⟩ = some (.int .u32 h.dr) := by rw [← hkd]; exact hS.cell 4
  have n5 : w.cell? ⟨S, 5, none⟩ = some (.int .u32 h.bd) := by rw [← hkb]; exact hS.cell 5
  have hOl := hO.lt
  have hSl := hS.lt
  obtain ⟨t3, ht3⟩ : ∃ b, (x.st == 3) = b := ⟨_, rfl⟩
  have HT3 := Lib.hid ht3
  obtain ⟨n3, hn3⟩ : ∃ b, (nk.st == 3) = b := ⟨_, rfl⟩
  have N3 := Lib.hid hn3
  have HKp := Lib.hid (And.intro hkp (And.intro hkd hkb))
  clear hR hF0 hl hn0 hn1 hvi hO hS hK ht3 hn3 hkp hkd hkb
  let Qb : Exit → Act → World → Prop := bodyPost Try.prog Try.f82 fun e w' => ∃ u v', e = .returned (.tuple #[u, .int .i64 0]) ∧ OutsAt w' u (Pl.hearO c f h (Pl.hearC c f h sm x nk s1)) ∧ RAt lo w' R c (Pl.hearC c f h sm x nk s1) v' ∧ RFr lo w0 w'
  change Code.wp Try.prog (hearRest 11) Qb _ _
  unfold hearRest
  simp only [Try.f82, codeOn, Option.getD]
  go_upto_region 14 with fail
  go_cut [15] from 93 to 99 (fun p wx => p = .bool (t3 && sm) ∧ w = wx)
  case first =>
    rcases t3 with _ | _
    all_goals
      have e1 := HT3.out
      go_wp2_with fail
      go_meet
      case rel => exact ⟨rfl, rfl⟩
  obtain ⟨rfl, rfl⟩ := hcut
  go_upto_region 15 with fail
  go_cut [16] from 99 to 115 (fun p wx => p = .bool ((t3 != n3) || (n3 && !sm)) ∧ w = wx)
  case first =>
    rcases t3 with _ | _ <;> rcases n3 with _ | _
    all_goals
      have e1 := HT3.out
      have e2 := N3.out
      go_wp2_with fail
      go_meet
      case rel => exact ⟨rfl, rfl⟩
  obtain ⟨rfl, rfl⟩ := hcut
  go_upto_region 16 with fail
  obtain ⟨ts, hts⟩ : ∃ b, (t3 && sm) = b := ⟨_, rfl⟩
  rw [hts]
  have HTs := Lib.hid hts
  clear hts
  go_cut [120] from 115 to 120 (fun p wx => p = .bool (ts && n3) ∧ w = wx)
  case first =>
    rcases ts with _ | _
    all_goals
      have e2 := N3.out
      go_wp2_with fail
      go_meet
      case rel => exact ⟨rfl, rfl⟩
  obtain ⟨rfl, rfl⟩ := hcut
  obtain ⟨ch, hch⟩ : ∃ b, Pl.change f sm x nk = b := ⟨_, rfl⟩
  have HCh := Lib.hid hch
  have HCe : Hid (ch = if ts && n3 then (x.pr != h.pr) || (((x.dr == f) != (h.dr == f)) || ((x.bd == f) != (h.bd == f))) else (t3 != n3) || (n3 && !sm)) := Lib.hid (by
    rw [← hch]
    unfold Pl.change Pl.two
    rw [HT3.out, N3.out, HKp.out.1, HKp.out.2.1, HKp.out.2.2, ← HTs.out]
    cases t3 <;> cases n3 <;> cases sm <;> rfl)
  clear hch
  go_upto_if 120 with fail
  go_cut [16] from 120 to 148 (fun p wx => p = .bool ch ∧ w = wx)
  case first =>
    rcases hall : (ts && n3) with _ | _
    · have HV : Hid (((t3 != n3) || (n3 && !sm)) = ch) := Lib.hid (by rw [HCe.out, hall]; rfl)
      go_wp2_with fail
      go_meet
      case rel => exact ⟨by rw [HV.out], rfl⟩
    · have HV : Hid (ch = ((x.pr != h.pr) || (!((x.dr == f) == (h.dr == f)) || !((x.bd == f) == (h.bd == f))))) := Lib.hid (by rw [HCe.out, hall]; rfl)
      rcases e1 : (x.pr != h.pr) with _ | _
      · rcases e2 : ((x.dr == f) == (h.dr == f)) with _ | _
        all_goals
          have HV2 := HV.out
          rw [e1, e2] at HV2
          have HV3 := Lib.hid HV2
          clear HV2
          go_wp2_with fail
          go_meet
          case rel => exact ⟨by rw [HV3.out]; rfl, rfl⟩
      · have HV3 : Hid (ch = true) := Lib.hid (by rw [HV.out, e1]; rfl)
        go_wp2_with fail
        go_meet
        case rel => exact ⟨by rw [HV3.out], rfl⟩
  obtain ⟨rfl, rfl⟩ := hcut
  clear o2 o3 o4 o5 n3' hOl HCe
  rename_i K hK
  refine hK _ _ ?_
  clear hK
  change Code.wp Try.prog (hearRest 14) _ _ _
  refine HD.out ch HCh.out _ _ _ _ _ _ _ _ _ _ _ _ _ _ _ _ _ _ _ _ _ _ _ _ _ _ _ _ _ _ _ _ _ _ _ _ _ _ _ _ _ _ _ _ _ _ _ _ _ _ _ _ _ _ _ _ _ _ _ _ _ _ _ _ _ _ _ _ _ _ _ _ _ _ _ _ _ _ _ _ _ _ _ _ _ _ _ _ _ _ _ _ _ _ _ _ _ _ _ _ _ _ _ _ _ _ _ _ _ _ _ _ _ _ _ _ _ _ _ _ _ _ _ _ _ _ _ _ _ _ _ _ _ _ _ _ _ _ _ _ _ _ _ _ _ _ _ _ _ _ _ _ _ _ _ _ _ _ _ _ _ _ _ _ _ _ _ _ _ _ _ _ _ _ _ _ _ _ _ _ _ _ _ _ _ _ _ _ _ _ _ _ _ _ _ _ _ _ _ _ _ _ _ _ _ _ _ _ _ _ _ _ _ _ _ _ _ _ _ _ _ 
end
end Go.Proofs.Ytgbmhijgpdgdbaa
