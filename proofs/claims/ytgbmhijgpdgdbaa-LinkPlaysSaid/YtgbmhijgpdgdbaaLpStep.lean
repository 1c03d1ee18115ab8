/- A step of a script, in both links: they answer alike, and are at one state again. -/
import Derived.Test.YtgbmhijgpdgdbaaLpTwo
set_option maxHeartbeats 4000000
set_option maxRecDepth 20000
namespace Go.Proofs.Ytgbmhijgpdgdbaa
open Go.RowKit Go.Shelf
attribute [local go_sem] Oper.semAt_some
theorem copyw_own (w : World) (u : Value) (ws : List Int) (hu : WordsAt w u ws) : Calls Try.prog 81 #[u] w fun e w' => ∃ v, e = .returned v ∧ WordsOwn w' v ws ∧ Below w.heap.size w w' := by
  obtain ⟨A, n, c, rfl, h1, h2, h3⟩ := hu
  obtain ⟨i0, hi, hz0, hz1, hz2⟩ := info_parts word_info
  have HR := Lib.hid h3
  have Hl := Lib.hid h1
  have Hn := Lib.hid h2
  have h63 : 0 + n ≤ maxLen := by unfold maxLen; omega
  have hby : (0 + n) * 4 ≤ 140737488355328 := by omega
  clear h3 h1 h2
  go_enter Try.func81, Try.ntmps81
  go_wp2_with (at_builtin; refine wpList_append_any _ rfl (.tmp 4) (.tmp 5) _ rfl w.heap.size 25 i0 _ 1 4 Try.underlying88 hi hz0 hz1 hz2 rfl (by omega) (.slice none 0 0) 0 [] rfl (World.ownsRow_nil _ _ _ _) w.heap.size A n c (ws.map (Value.int .u32)) rfl HR.out (words_one ws) h63 hby (Nat.le_refl _) ?_; intro v1 w1 hown1 hg1 hat1; rw [List.nil_append, Nat.zero_add] at hown1)
  go_ret
  refine ⟨v1, rfl, ⟨by rw [Hl.out]; exact Hn.out, w.heap.size, by rw [Hl.out]; exact hown1⟩, ?_⟩
  exact (Below.refl _ w).grown hg1 (Nat.le_refl _) (fun k hk => by simp [Value.ownBlock] at hk)
def StepPost (lo B R : Nat) (c : LC) (v : Value) (L : List (Int × Int)) (w : World) (e : Ending) (w' : World) : Prop := e = .returned (.bool true) ∧ (∃ s', Two lo w' B R c v L s') ∧ Below lo w w'
section
variable {lo : Nat} {w : World} {B R : Nat} {c : LC} {s : Pl.St} {v : Value} {L : List (Int × Int)}
theorem step_up (h2 : Two lo w B R c v L s) (g : Pl.CfgOk c L) (hnet : bits .and .u32 c.na (maskN c.nb.toNat) = c.na) {dn n fr ro : Int} {h : Pl.Hel} {na : Option Addr} {nn nc : Nat} (hw : WordsLo lo w (.slice na nn nc) h.nb) (hd : dn = 0) :
    Calls Try.prog 44 #[.pointer (some ⟨B, 0, none⟩), .pointer (some ⟨R, 0, none⟩), .agg #[.int .i64 dn, .int .i64 n, .int .u32 fr, .int .u32 ro, .int .u32 h.ma, .int .u16 h.hi, .int .u8 h.op, .int .u8 h.pr, .int .u32 h.dd, .int .u32 h.dr, .int .u32 h.bd, .slice na nn nc]] w fun e w' => StepPost lo B R c v L w e w' := by
  have HT0 := Lib.hid h2
  have G := Lib.hid g
  have HW0 := Lib.hid hw
  have HNet := Lib.hid hnet
  have hlow := h2.low
  subst hd
  clear h2 g hw hnet
  go_enter Try.func44, Try.ntmps44
  go_upto_region 1 with fail
  obtain ⟨w1, hw1⟩ : ∃ w1, w1 = w.alloc (.cells #[.int .i64 0, .int .i64 n, .int .u32 fr, .int .u32 ro, .int .u32 h.ma, .int .u16 h.hi, .int .u8 h.op, .int .u8 h.pr, .int .u32 h.dd, .int .u32 h.dr, .int .u32 h.bd, .slice na nn nc] 96) := ⟨_, rfl⟩
  have hb1 : Below w.heap.size w w1 := by rw [hw1]; exact (Below.refl _ w).alloc (Nat.le_refl _) _
  have HX1 : Hid (Blk w1 w.heap.size 96 #[.int .i64 0, .int .i64 n, .int .u32 fr, .int .u32 ro, .int .u32 h.ma, .int .u16 h.hi, .int .u8 h.op, .int .u8 h.pr, .int .u32 h.dd, .int .u32 h.dr, .int .u32 h.bd, .slice na nn nc]) := Lib.hid (by rw [hw1]; exact Blk.new w _ _)
  have HT1 := Lib.hid (HT0.out.below hb1)
  have HB1 : Hid (Below lo w w1) := Lib.hid (hb1.mono hlow)
  have HW1 := Lib.hid (HW0.out.below HB1.out)
  rw [← hw1]
  obtain ⟨X, hX⟩ : ∃ X, X = w.heap.size := ⟨_, rfl⟩
  rw [← hX] at HX1 ⊢
  have k0 : w1.cell? ⟨X, 0, none⟩ = some (.int .i64 0) := HX1.out.cell 0
  have hXl := HX1.out.lt
  clear hw1 hb1 hX HT0 HW0
  obtain ⟨pA, pcap, pxs, hp⟩ := HT1.out.p
  obtain ⟨vR, hr⟩ := HT1.out.r
  have HPc := Lib.hid (pup_any hp HT1.out.pp (G.out.pe_ v) (by rw [Pl.upSt_pe]; exact (Pl.up_ok G.out HT1.out.ok).pe_ v))
  have hlo : lo ≤ w1.heap.size := HT1.out.low
  clear hp
  go_wp2_with fail
  refine HPc.out.mono ?_
  rintro e wp ⟨u, rfl, hou, hp2, hf2⟩
  simp only [Pl.upOut_pe] at hou
  simp only [Pl.upSt_pe] at hp2
  have hr2 := hr.lfr hf2
  have HRc := Lib.hid (rup_any hr2 (HT1.out.pr.lo_ (hf2.below hlo)) G.out)
  have HOu := Lib.hid hou
  have HP2 := Lib.hid hp2
  have HF2 := Lib.hid hf2
  clear hr hr2 hou hp2 hf2 HPc
  go_wp2_with fail
  refine HRc.out.mono ?_
  rintro e wq ⟨u2, vR2, rfl, hou2, hr3, hf3⟩
  have HSd := Lib.hid (sends_any wq u u2 _ (HOu.out.rfr hf3).at_ hou2)
  have hb23 : Below lo w1 wq := (HF2.out.below hlo).trans (hf3.below (Nat.le_trans hlo HF2.out.size))
  have HTq : Hid (Two lo wq B R c v L (Pl.upSt c L s)) := Lib.hid (HT1.out.next (by obtain ⟨a, b, x, h⟩ := HP2.out; exact ⟨a, b, x, h.rfr hf3⟩) ⟨_, hr3⟩ hb23 (Pl.up_ok G.out HT1.out.ok))
  have HBq := Lib.hid hb23
  have HXq : Hid (Blk wq X 96 #[.int .i64 0, .int .i64 n, .int .u32 fr, .int .u32 ro, .int .u32 h.ma, .int .u16 h.hi, .int .u8 h.op, .int .u8 h.pr, .int .u32 h.dd, .int .u32 h.dr, .int .u32 h.bd, .slice na nn nc]) := Lib.hid (Frame.blk hf3 (Frame.blk HF2.out HX1.out (lty_ne HX1.out (by decide) (by decide) (by decide))) (rty_ne (Frame.blk HF2.out HX1.out (lty_ne HX1.out (by decide) (by decide) (by decide))) (by decide) (by decide)))
  clear hou2 hr3 hf3 hb23 HRc HOu HP2 HF2
  go_wp2_with fail
  refine HSd.out.mono ?_
  rintro e wz ⟨rfl, hbz⟩
  have HTz := Lib.hid (HTq.out.below hbz)
  have HBz : Hid (Below lo w1 wz) := Lib.hid (HBq.out.trans (hbz.mono HTq.out.low))
  have HXz := Lib.hid (HXq.out.below hbz HXq.out.lt)
  clear hbz HSd HTq HBq HXq
  go_wp2_with fail
  go_ret
  exact ⟨rfl, ⟨_, HTz.out⟩, HB1.out.trans HBz.out⟩
theorem step_down (h2 : Two lo w B R c v L s) (g : Pl.CfgOk c L) (hnet : bits .and .u32 c.na (maskN c.nb.toNat) = c.na) {dn n fr ro : Int} {h : Pl.Hel} {na : Option Addr} {nn nc : Nat} (hw : WordsLo lo w (.slice na nn nc) h.nb) (hd : dn = 1) :
    Calls Try.prog 44 #[.pointer (some ⟨B, 0, none⟩), .pointer (some ⟨R, 0, none⟩), .agg #[.int .i64 dn, .int .i64 n, .int .u32 fr, .int .u32 ro, .int .u32 h.ma, .int .u16 h.hi, .int .u8 h.op, .int .u8 h.pr, .int .u32 h.dd, .int .u32 h.dr, .int .u32 h.bd, .slice na nn nc]] w fun e w' => StepPost lo B R c v L w e w' := by
  have HT0 := Lib.hid h2
  have G := Lib.hid g
  have HW0 := Lib.hid hw
  have HNet := Lib.hid hnet
  have hlow := h2.low
  subst hd
  clear h2 g hw hnet
  go_enter Try.func44, Try.ntmps44
  go_upto_region 1 with fail
  obtain ⟨w1, hw1⟩ : ∃ w1, w1 = w.alloc (.cells #[.int .i64 1, .int .i64 n, .int .u32 fr, .int .u32 ro, .int .u32 h.ma, .int .u16 h.hi, .int .u8 h.op, .int .u8 h.pr, .int .u32 h.dd, .int .u32 h.dr, .int .u32 h.bd, .slice na nn nc] 96) := ⟨_, rfl⟩
  have hb1 : Below w.heap.size w w1 := by rw [hw1]; exact (Below.refl _ w).alloc (Nat.le_refl _) _
  have HX1 : Hid (Blk w1 w.heap.size 96 #[.int .i64 1, .int .i64 n, .int .u32 fr, .int .u32 ro, .int .u32 h.ma, .int .u16 h.hi, .int .u8 h.op, .int .u8 h.pr, .int .u32 h.dd, .int .u32 h.dr, .int .u32 h.bd, .slice na nn nc]) := Lib.hid (by rw [hw1]; exact Blk.new w _ _)
  have HT1 := Lib.hid (HT0.out.below hb1)
  have HB1 : Hid (Below lo w w1) := Lib.hid (hb1.mono hlow)
  have HW1 := Lib.hid (HW0.out.below HB1.out)
  rw [← hw1]
  obtain ⟨X, hX⟩ : ∃ X, X = w.heap.size := ⟨_, rfl⟩
  rw [← hX] at HX1 ⊢
  have k0 : w1.cell? ⟨X, 0, none⟩ = some (.int .i64 1) := HX1.out.cell 0
  have hXl := HX1.out.lt
  clear hw1 hb1 hX HT0 HW0
  obtain ⟨pA, pcap, pxs, hp⟩ := HT1.out.p
  obtain ⟨vR, hr⟩ := HT1.out.r
  have HPc := Lib.hid (pdown_any hp HT1.out.pp.slice_)
  have hlo : lo ≤ w1.heap.size := HT1.out.low
  clear hp
  go_wp2_with fail
  refine HPc.out.mono ?_
  rintro e wp ⟨rfl, hp2, hf2⟩
  have hr2 := hr.lfr hf2
  have HRc := Lib.hid (rdown_any hr2 HT1.out.pr.slice_)
  have HP2 := Lib.hid hp2
  have HF2 := Lib.hid hf2
  clear hr hr2 hp2 hf2 HPc
  go_wp2_with fail
  refine HRc.out.mono ?_
  rintro e wq ⟨rfl, hr3, hf3⟩
  have hb23 : Below lo w1 wq := (HF2.out.below hlo).trans (hf3.below (Nat.le_trans hlo HF2.out.size))
  have HTq : Hid (Two lo wq B R c v L (Pl.downSt s)) := Lib.hid (HT1.out.next ⟨_, _, _, HP2.out.rfr hf3⟩ ⟨_, hr3⟩ hb23 (Pl.down_ok s))
  have HBq := Lib.hid hb23
  clear hr3 hf3 hb23 HRc HP2 HF2
  go_wp2_with fail
  go_ret
  exact ⟨rfl, ⟨_, HTq.out⟩, HB1.out.trans HBq.out⟩
theorem step_reach (h2 : Two lo w B R c v L s) (g : Pl.CfgOk c L) (hnet : bits .and .u32 c.na (maskN c.nb.toNat) = c.na) {dn n fr ro : Int} {h : Pl.Hel} {na : Option Addr} {nn nc : Nat} (hw : WordsLo lo w (.slice na nn nc) h.nb) (hd : dn = 4) :
    Calls Try.prog 44 #[.pointer (some ⟨B, 0, none⟩), .pointer (some ⟨R, 0, none⟩), .agg #[.int .i64 dn, .int .i64 n, .int .u32 fr, .int .u32 ro, .int .u32 h.ma, .int .u16 h.hi, .int .u8 h.op, .int .u8 h.pr, .int .u32 h.dd, .int .u32 h.dr, .int .u32 h.bd, .slice na nn nc]] w fun e w' => StepPost lo B R c v L w e w' := by
  have HT0 := Lib.hid h2
  have G := Lib.hid g
  have HW0 := Lib.hid hw
  have HNet := Lib.hid hnet
  have hlow := h2.low
  subst hd
  clear h2 g hw hnet
  go_enter Try.func44, Try.ntmps44
  go_upto_region 1 with fail
  obtain ⟨w1, hw1⟩ : ∃ w1, w1 = w.alloc (.cells #[.int .i64 4, .int .i64 n, .int .u32 fr, .int .u32 ro, .int .u32 h.ma, .int .u16 h.hi, .int .u8 h.op, .int .u8 h.pr, .int .u32 h.dd, .int .u32 h.dr, .int .u32 h.bd, .slice na nn nc] 96) := ⟨_, rfl⟩
  have hb1 : Below w.heap.size w w1 := by rw [hw1]; exact (Below.refl _ w).alloc (Nat.le_refl _) _
  have HX1 : Hid (Blk w1 w.heap.size 96 #[.int .i64 4, .int .i64 n, .int .u32 fr, .int .u32 ro, .int .u32 h.ma, .int .u16 h.hi, .int .u8 h.op, .int .u8 h.pr, .int .u32 h.dd, .int .u32 h.dr, .int .u32 h.bd, .slice na nn nc]) := Lib.hid (by rw [hw1]; exact Blk.new w _ _)
  have HT1 := Lib.hid (HT0.out.below hb1)
  have HB1 : Hid (Below lo w w1) := Lib.hid (hb1.mono hlow)
  have HW1 := Lib.hid (HW0.out.below HB1.out)
  rw [← hw1]
  obtain ⟨X, hX⟩ : ∃ X, X = w.heap.size := ⟨_, rfl⟩
  rw [← hX] at HX1 ⊢
  have k0 : w1.cell? ⟨X, 0, none⟩ = some (.int .i64 4) := HX1.out.cell 0
  have hXl := HX1.out.lt
  have k2 : w1.cell? ⟨X, 2, none⟩ = some (.int .u32 fr) := HX1.out.cell 2
  clear hw1 hb1 hX HT0 HW0
  obtain ⟨pA, pcap, pxs, hp⟩ := HT1.out.p
  obtain ⟨vR, hr⟩ := HT1.out.r
  have HPc := Lib.hid (preach_any hp fr)
  have hlo : lo ≤ w1.heap.size := HT1.out.low
  clear hp
  go_wp2_with fail
  refine HPc.out.mono ?_
  rintro e wp ⟨rfl, hp2, hf2⟩
  have HR2 := Lib.hid (hr.lfr hf2)
  have HP2 := Lib.hid hp2
  have HF2 := Lib.hid hf2
  have hx2 : Blk wp X 96 #[.int .i64 4, .int .i64 n, .int .u32 fr, .int .u32 ro, .int .u32 h.ma, .int .u16 h.hi, .int .u8 h.op, .int .u8 h.pr, .int .u32 h.dd, .int .u32 h.dr, .int .u32 h.bd, .slice na nn nc] := Frame.blk hf2 HX1.out (lty_ne HX1.out (by decide) (by decide) (by decide))
  have y2 : wp.cell? ⟨X, 2, none⟩ = some (.int .u32 fr) := hx2.cell 2
  have hXp := hx2.lt
  have c20 : wp.cell? ⟨R, 20, none⟩ = some (.int .u32 s.re) := HR2.out.b.cell 20
  have fR := HR2.out.b.frozen
  have hRl := HR2.out.b.lt
  clear hr hp2 hf2 HPc hx2
  go_upto_region 25 with fail
  obtain ⟨wq, hwq⟩ : ∃ wq, wq = wp.setCell ⟨R, 20, none⟩ (.int .u32 fr) := ⟨_, rfl⟩
  obtain ⟨h3, hf3⟩ := HR2.out.cell1 (s' := { s with re := fr }) (j := 20) (u := .int .u32 fr) rfl rfl
  rw [← hwq] at h3 hf3 ⊢
  have hf3' : RFr lo wp wq := RFr.one HR2.out.b HR2.out.loR (.inl rfl) hf3
  have hb23 : Below lo w1 wq := (HF2.out.below hlo).trans (hf3'.below (Nat.le_trans hlo HF2.out.size))
  have HTq : Hid (Two lo wq B R c v L { s with re := fr }) := Lib.hid (HT1.out.next ⟨_, _, _, HP2.out.rfr hf3'⟩ ⟨_, h3⟩ hb23 (Pl.reach_ok HT1.out.ok fr))
  have HBq := Lib.hid hb23
  clear hwq h3 hf3 hf3' hb23 y2 c20 fR hRl
  go_wp2_with fail
  go_ret
  exact ⟨rfl, ⟨_, HTq.out⟩, HB1.out.trans HBq.out⟩
theorem step_full (h2 : Two lo w B R c v L s) (g : Pl.CfgOk c L) (hnet : bits .and .u32 c.na (maskN c.nb.toNat) = c.na) {dn n fr ro : Int} {h : Pl.Hel} {na : Option Addr} {nn nc : Nat} (hw : WordsLo lo w (.slice na nn nc) h.nb) (hd : dn = 5) :
    Calls Try.prog 44 #[.pointer (some ⟨B, 0, none⟩), .pointer (some ⟨R, 0, none⟩), .agg #[.int .i64 dn, .int .i64 n, .int .u32 fr, .int .u32 ro, .int .u32 h.ma, .int .u16 h.hi, .int .u8 h.op, .int .u8 h.pr, .int .u32 h.dd, .int .u32 h.dr, .int .u32 h.bd, .slice na nn nc]] w fun e w' => StepPost lo B R c v L w e w' := by
  have HT0 := Lib.hid h2
  have G := Lib.hid g
  have HW0 := Lib.hid hw
  have HNet := Lib.hid hnet
  have hlow := h2.low
  subst hd
  clear h2 g hw hnet
  go_enter Try.func44, Try.ntmps44
  go_upto_region 1 with fail
  obtain ⟨w1, hw1⟩ : ∃ w1, w1 = w.alloc (.cells #[.int .i64 5, .int .i64 n, .int .u32 fr, .int .u32 ro, .int .u32 h.ma, .int .u16 h.hi, .int .u8 h.op, .int .u8 h.pr, .int .u32 h.dd, .int .u32 h.dr, .int .u32 h.bd, .slice na nn nc] 96) := ⟨_, rfl⟩
  have hb1 : Below w.heap.size w w1 := by rw [hw1]; exact (Below.refl _ w).alloc (Nat.le_refl _) _
  have HX1 : Hid (Blk w1 w.heap.size 96 #[.int .i64 5, .int .i64 n, .int .u32 fr, .int .u32 ro, .int .u32 h.ma, .int .u16 h.hi, .int .u8 h.op, .int .u8 h.pr, .int .u32 h.dd, .int .u32 h.dr, .int .u32 h.bd, .slice na nn nc]) := Lib.hid (by rw [hw1]; exact Blk.new w _ _)
  have HT1 := Lib.hid (HT0.out.below hb1)
  have HB1 : Hid (Below lo w w1) := Lib.hid (hb1.mono hlow)
  have HW1 := Lib.hid (HW0.out.below HB1.out)
  rw [← hw1]
  obtain ⟨X, hX⟩ : ∃ X, X = w.heap.size := ⟨_, rfl⟩
  rw [← hX] at HX1 ⊢
  have k0 : w1.cell? ⟨X, 0, none⟩ = some (.int .i64 5) := HX1.out.cell 0
  have hXl := HX1.out.lt
  have k1 : w1.cell? ⟨X, 1, none⟩ = some (.int .i64 n) := HX1.out.cell 1
  have k2 : w1.cell? ⟨X, 2, none⟩ = some (.int .u32 fr) := HX1.out.cell 2
  clear hw1 hb1 hX HT0 HW0
  obtain ⟨pA, pcap, pxs, hp⟩ := HT1.out.p
  obtain ⟨vR, hr⟩ := HT1.out.r
  obtain ⟨bb, hbb⟩ : ∃ b : Bool, (n != 0) = b := ⟨_, rfl⟩
  have HPc := Lib.hid (pfull_any hp (by have := hp.len; have := HT1.out.ok.ln; omega) fr bb)
  have hlo : lo ≤ w1.heap.size := HT1.out.low
  clear hp
  go_wp2_with fail
  try rw [hbb]
  refine HPc.out.mono ?_
  rintro e wp ⟨rfl, xs2, hp2, hf2⟩
  have HRc := Lib.hid (rmark_any (hr.lfr hf2) (by have := HT1.out.ok.ln; omega) fr bb)
  have HP2 := Lib.hid hp2
  have HF2 := Lib.hid hf2
  have hx2 : Blk wp X 96 #[.int .i64 5, .int .i64 n, .int .u32 fr, .int .u32 ro, .int .u32 h.ma, .int .u16 h.hi, .int .u8 h.op, .int .u8 h.pr, .int .u32 h.dd, .int .u32 h.dr, .int .u32 h.bd, .slice na nn nc] := Frame.blk hf2 HX1.out (lty_ne HX1.out (by decide) (by decide) (by decide))
  have y1 : wp.cell? ⟨X, 1, none⟩ = some (.int .i64 n) := hx2.cell 1
  have y2 : wp.cell? ⟨X, 2, none⟩ = some (.int .u32 fr) := hx2.cell 2
  have hXp := hx2.lt
  clear hr hp2 hf2 HPc hx2
  go_wp2_with fail
  try rw [hbb]
  refine HRc.out.mono ?_
  rintro e wq ⟨rfl, hr3, hf3⟩
  have hb23 : Below lo w1 wq := (HF2.out.below hlo).trans (hf3.below (Nat.le_trans hlo HF2.out.size))
  have HTq : Hid (Two lo wq B R c v L { s with l := Pl.markL fr bb s.l }) := Lib.hid (HT1.out.next ⟨_, _, _, HP2.out.rfr hf3⟩ ⟨_, hr3⟩ hb23 (Pl.mark_ok HT1.out.ok fr bb))
  have HBq := Lib.hid hb23
  clear hr3 hf3 hb23 HRc HP2 HF2 y1 y2
  go_wp2_with fail
  go_ret
  exact ⟨rfl, ⟨_, HTq.out⟩, HB1.out.trans HBq.out⟩
theorem step_else (h2 : Two lo w B R c v L s) (g : Pl.CfgOk c L) (hnet : bits .and .u32 c.na (maskN c.nb.toNat) = c.na) {dn n fr ro : Int} {h : Pl.Hel} {na : Option Addr} {nn nc : Nat} (hw : WordsLo lo w (.slice na nn nc) h.nb) (h0 : (dn == 0) = false) (h1 : (dn == 1) = false) (h3 : (dn == 2) = false) (h4 : (dn == 3) = false) (h5 : (dn == 4) = false) (h6 : (dn == 5) = false) :
    Calls Try.prog 44 #[.pointer (some ⟨B, 0, none⟩), .pointer (some ⟨R, 0, none⟩), .agg #[.int .i64 dn, .int .i64 n, .int .u32 fr, .int .u32 ro, .int .u32 h.ma, .int .u16 h.hi, .int .u8 h.op, .int .u8 h.pr, .int .u32 h.dd, .int .u32 h.dr, .int .u32 h.bd, .slice na nn nc]] w fun e w' => StepPost lo B R c v L w e w' := by
  have HT0 := Lib.hid h2
  have G := Lib.hid g
  have HW0 := Lib.hid hw
  have HNet := Lib.hid hnet
  have hlow := h2.low
  clear h2 g hw hnet
  go_enter Try.func44, Try.ntmps44
  go_upto_region 1 with fail
  obtain ⟨w1, hw1⟩ : ∃ w1, w1 = w.alloc (.cells #[.int .i64 dn, .int .i64 n, .int .u32 fr, .int .u32 ro, .int .u32 h.ma, .int .u16 h.hi, .int .u8 h.op, .int .u8 h.pr, .int .u32 h.dd, .int .u32 h.dr, .int .u32 h.bd, .slice na nn nc] 96) := ⟨_, rfl⟩
  have hb1 : Below w.heap.size w w1 := by rw [hw1]; exact (Below.refl _ w).alloc (Nat.le_refl _) _
  have HX1 : Hid (Blk w1 w.heap.size 96 #[.int .i64 dn, .int .i64 n, .int .u32 fr, .int .u32 ro, .int .u32 h.ma, .int .u16 h.hi, .int .u8 h.op, .int .u8 h.pr, .int .u32 h.dd, .int .u32 h.dr, .int .u32 h.bd, .slice na nn nc]) := Lib.hid (by rw [hw1]; exact Blk.new w _ _)
  have HT1 := Lib.hid (HT0.out.below hb1)
  have HB1 : Hid (Below lo w w1) := Lib.hid (hb1.mono hlow)
  have HW1 := Lib.hid (HW0.out.below HB1.out)
  rw [← hw1]
  obtain ⟨X, hX⟩ : ∃ X, X = w.heap.size := ⟨_, rfl⟩
  rw [← hX] at HX1 ⊢
  have k0 : w1.cell? ⟨X, 0, none⟩ = some (.int .i64 dn) := HX1.out.cell 0
  have hXl := HX1.out.lt
  clear hw1 hb1 hX HT0 HW0
  go_wp2_with fail
  go_ret
  exact ⟨rfl, ⟨_, HT1.out⟩, HB1.out⟩
theorem step_tick (h2 : Two lo w B R c v L s) (g : Pl.CfgOk c L) (hnet : bits .and .u32 c.na (maskN c.nb.toNat) = c.na) {dn n fr ro : Int} {h : Pl.Hel} {na : Option Addr} {nn nc : Nat} (hw : WordsLo lo w (.slice na nn nc) h.nb) (hd : dn = 2) :
    Calls Try.prog 44 #[.pointer (some ⟨B, 0, none⟩), .pointer (some ⟨R, 0, none⟩), .agg #[.int .i64 dn, .int .i64 n, .int .u32 fr, .int .u32 ro, .int .u32 h.ma, .int .u16 h.hi, .int .u8 h.op, .int .u8 h.pr, .int .u32 h.dd, .int .u32 h.dr, .int .u32 h.bd, .slice na nn nc]] w fun e w' => StepPost lo B R c v L w e w' := by
  have HT0 := Lib.hid h2
  have G := Lib.hid g
  have HW0 := Lib.hid hw
  have HNet := Lib.hid hnet
  have hlow := h2.low
  subst hd
  clear h2 g hw hnet
  go_enter Try.func44, Try.ntmps44
  go_upto_region 1 with fail
  obtain ⟨w1, hw1⟩ : ∃ w1, w1 = w.alloc (.cells #[.int .i64 2, .int .i64 n, .int .u32 fr, .int .u32 ro, .int .u32 h.ma, .int .u16 h.hi, .int .u8 h.op, .int .u8 h.pr, .int .u32 h.dd, .int .u32 h.dr, .int .u32 h.bd, .slice na nn nc] 96) := ⟨_, rfl⟩
  have hb1 : Below w.heap.size w w1 := by rw [hw1]; exact (Below.refl _ w).alloc (Nat.le_refl _) _
  have HX1 : Hid (Blk w1 w.heap.size 96 #[.int .i64 2, .int .i64 n, .int .u32 fr, .int .u32 ro, .int .u32 h.ma, .int .u16 h.hi, .int .u8 h.op, .int .u8 h.pr, .int .u32 h.dd, .int .u32 h.dr, .int .u32 h.bd, .slice na nn nc]) := Lib.hid (by rw [hw1]; exact Blk.new w _ _)
  have HT1 := Lib.hid (HT0.out.below hb1)
  have HB1 : Hid (Below lo w w1) := Lib.hid (hb1.mono hlow)
  have HW1 := Lib.hid (HW0.out.below HB1.out)
  rw [← hw1]
  obtain ⟨X, hX⟩ : ∃ X, X = w.heap.size := ⟨_, rfl⟩
  rw [← hX] at HX1 ⊢
  have k0 : w1.cell? ⟨X, 0, none⟩ = some (.int .i64 2) := HX1.out.cell 0
  have hXl := HX1.out.lt
  have k1 : w1.cell? ⟨X, 1, none⟩ = some (.int .i64 n) := HX1.out.cell 1
  clear hw1 hb1 hX HT0 HW0
  go_wp2_with fail
  clear k0 hXl k1
  go_loopw [7] (fun p wr => ∃ k : Nat, k ≤ 200 ∧ p = .int .i64 k ∧ Hid (∃ s', Two lo wr B R c v L s') ∧ Hid (Below lo w1 wr) ∧ Hid (Blk wr X 96 #[.int .i64 2, .int .i64 n, .int .u32 fr, .int .u32 ro, .int .u32 h.ma, .int .u16 h.hi, .int .u8 h.op, .int .u8 h.pr, .int .u32 h.dd, .int .u32 h.dr, .int .u32 h.bd, .slice na nn nc])) (fun p _ => 200 - (intOf p).toNat)
  case atStart => exact ⟨0, by omega, rfl, Lib.hid ⟨_, HT1.out⟩, Lib.hid (Below.refl _ _), HX1⟩
  case round =>
    obtain ⟨k, hk, rfl, HTs, HBr, HXr⟩ := hrel
    obtain ⟨s1, ht1⟩ := HTs.out
    have HTr := Lib.hid ht1
    have k1 : wr.cell? ⟨X, 1, none⟩ = some (.int .i64 n) := HXr.out.cell 1
    have hXl := HXr.out.lt
    clear ht1
    by_cases hkn : (k : Int) < n
    · by_cases hk2 : k < 200
      · have hki : (k : Int) < 200 := by omega
        obtain ⟨pA, pcap, pxs, hp⟩ := HTr.out.p
        obtain ⟨vR, hr⟩ := HTr.out.r
        have HPc := Lib.hid (ptick_any hp HTr.out.pp (G.out.pe_ v) (HTr.out.ok.pe_ v))
        have hlo : lo ≤ wr.heap.size := HTr.out.low
        clear hp
        go_wp2_with fail
        refine HPc.out.mono ?_
        rintro e wp ⟨u, rfl, hou, hp2, hf2⟩
        simp only [Pl.tickOut_pe] at hou
        simp only [Pl.tickSt_pe] at hp2
        have hr2 := hr.lfr hf2
        have HRc := Lib.hid (rtick_any hr2 (HTr.out.pr.lo_ (hf2.below hlo)) G.out HTr.out.ok)
        have HOu := Lib.hid hou
        have HP2 := Lib.hid hp2
        have HF2 := Lib.hid hf2
        clear hr hr2 hou hp2 hf2 HPc
        go_wp2_with fail
        refine HRc.out.mono ?_
        rintro e wq ⟨u2, vR2, rfl, hou2, hr3, hf3⟩
        have HSd := Lib.hid (sends_any wq u u2 _ (HOu.out.rfr hf3).at_ hou2)
        have hb23 : Below lo wr wq := (HF2.out.below hlo).trans (hf3.below (Nat.le_trans hlo HF2.out.size))
        have HTq : Hid (Two lo wq B R c v L (Pl.tickSt c L s1)) := Lib.hid (HTr.out.next (by obtain ⟨a, b, x, h⟩ := HP2.out; exact ⟨a, b, x, h.rfr hf3⟩) ⟨_, hr3⟩ hb23 (Pl.tick_ok G.out HTr.out.ok))
        have HBq := Lib.hid hb23
        have HXq : Hid (Blk wq X 96 #[.int .i64 2, .int .i64 n, .int .u32 fr, .int .u32 ro, .int .u32 h.ma, .int .u16 h.hi, .int .u8 h.op, .int .u8 h.pr, .int .u32 h.dd, .int .u32 h.dr, .int .u32 h.bd, .slice na nn nc]) := Lib.hid (Frame.blk hf3 (Frame.blk HF2.out HXr.out (lty_ne HXr.out (by decide) (by decide) (by decide))) (rty_ne (Frame.blk HF2.out HXr.out (lty_ne HXr.out (by decide) (by decide) (by decide))) (by decide) (by decide)))
        clear hou2 hr3 hf3 hb23 HRc HOu HP2 HF2
        go_wp2_with fail
        refine HSd.out.mono ?_
        rintro e wz ⟨rfl, hbz⟩
        have HTz := Lib.hid (HTq.out.below hbz)
        have HBz : Hid (Below lo wr wz) := Lib.hid (HBq.out.trans (hbz.mono HTq.out.low))
        have HXz := Lib.hid (HXq.out.below hbz HXq.out.lt)
        clear hbz HSd HTq HBq HXq
        obtain ⟨pA, pcap, pxs, hp⟩ := HTz.out.p
        obtain ⟨vR, hr⟩ := HTz.out.r
        have HAl := Lib.hid (alike_any hp hr (fun k => Pl.wanted_pe c v _ k) (by have := HTz.out.ok.ln; omega))
        clear hp hr k1
        go_wp2_with fail
        refine HAl.out.mono ?_
        rintro e wy ⟨rfl, hby⟩
        have HTy := Lib.hid (HTz.out.below hby)
        have HBy : Hid (Below lo w1 wy) := Lib.hid (HBr.out.trans (HBz.out.trans (hby.mono HTz.out.low)))
        have HXy := Lib.hid (HXz.out.below hby HXz.out.lt)
        clear hby HAl
        go_wp2_with fail
        go_roundw
        case rel => exact ⟨k + 1, by omega, by simp, Lib.hid ⟨_, HTy.out⟩, HBy, HXy⟩
        case measure => simp [intOf]; omega
      · have hki : ¬ (k : Int) < 200 := by omega
        go_wp2_with fail
        go_ret
        exact ⟨rfl, HTs.out, HB1.out.trans HBr.out⟩
    · go_wp2_with fail
      go_ret
      exact ⟨rfl, HTs.out, HB1.out.trans HBr.out⟩
theorem step_hear (h2 : Two lo w B R c v L s) (g : Pl.CfgOk c L) (hnet : bits .and .u32 c.na (maskN c.nb.toNat) = c.na) {dn n fr ro : Int} {h : Pl.Hel} {na : Option Addr} {nn nc : Nat} (hw : WordsLo lo w (.slice na nn nc) h.nb) (hd : dn = 3) :
    Calls Try.prog 44 #[.pointer (some ⟨B, 0, none⟩), .pointer (some ⟨R, 0, none⟩), .agg #[.int .i64 dn, .int .i64 n, .int .u32 fr, .int .u32 ro, .int .u32 h.ma, .int .u16 h.hi, .int .u8 h.op, .int .u8 h.pr, .int .u32 h.dd, .int .u32 h.dr, .int .u32 h.bd, .slice na nn nc]] w fun e w' => StepPost lo B R c v L w e w' := by
  have HT0 := Lib.hid h2
  have G := Lib.hid g
  have HW0 := Lib.hid hw
  have HNet := Lib.hid hnet
  have hlow := h2.low
  subst hd
  clear h2 g hw hnet
  go_enter Try.func44, Try.ntmps44
  go_upto_region 1 with fail
  obtain ⟨w1, hw1⟩ : ∃ w1, w1 = w.alloc (.cells #[.int .i64 3, .int .i64 n, .int .u32 fr, .int .u32 ro, .int .u32 h.ma, .int .u16 h.hi, .int .u8 h.op, .int .u8 h.pr, .int .u32 h.dd, .int .u32 h.dr, .int .u32 h.bd, .slice na nn nc] 96) := ⟨_, rfl⟩
  have hb1 : Below w.heap.size w w1 := by rw [hw1]; exact (Below.refl _ w).alloc (Nat.le_refl _) _
  have HX1 : Hid (Blk w1 w.heap.size 96 #[.int .i64 3, .int .i64 n, .int .u32 fr, .int .u32 ro, .int .u32 h.ma, .int .u16 h.hi, .int .u8 h.op, .int .u8 h.pr, .int .u32 h.dd, .int .u32 h.dr, .int .u32 h.bd, .slice na nn nc]) := Lib.hid (by rw [hw1]; exact Blk.new w _ _)
  have HT1 := Lib.hid (HT0.out.below hb1)
  have HB1 : Hid (Below lo w w1) := Lib.hid (hb1.mono hlow)
  have HW1 := Lib.hid (HW0.out.below HB1.out)
  rw [← hw1]
  obtain ⟨X, hX⟩ : ∃ X, X = w.heap.size := ⟨_, rfl⟩
  rw [← hX] at HX1 ⊢
  have k0 : w1.cell? ⟨X, 0, none⟩ = some (.int .i64 3) := HX1.out.cell 0
  have hXl := HX1.out.lt
  have k4 : w1.cell? ⟨X, 4, none⟩ = some (.int .u32 h.ma) := HX1.out.cell 4
  have k5 : w1.cell? ⟨X, 5, none⟩ = some (.int .u16 h.hi) := HX1.out.cell 5
  have k6 : w1.cell? ⟨X, 6, none⟩ = some (.int .u8 h.op) := HX1.out.cell 6
  have k7 : w1.cell? ⟨X, 7, none⟩ = some (.int .u8 h.pr) := HX1.out.cell 7
  have k8 : w1.cell? ⟨X, 8, none⟩ = some (.int .u32 h.dd) := HX1.out.cell 8
  have k9 : w1.cell? ⟨X, 9, none⟩ = some (.int .u32 h.dr) := HX1.out.cell 9
  have k10 : w1.cell? ⟨X, 10, none⟩ = some (.int .u32 h.bd) := HX1.out.cell 10
  have k11 : w1.cell? ⟨X, 11, none⟩ = some (.slice na nn nc) := HX1.out.cell 11
  clear hw1 hb1 hX HT0 HW0
  go_upto_region 15 with fail
  obtain ⟨w2, hw2⟩ : ∃ w2, w2 = w1.alloc (.cells #[.int .u32 h.ma, .int .u16 h.hi, .int .u8 h.op, .int .u8 h.pr, .int .u32 h.dd, .int .u32 h.dr, .int .u32 h.bd, .slice na nn nc] 90) := ⟨_, rfl⟩
  have hb2 : Below w1.heap.size w1 w2 := by rw [hw2]; exact (Below.refl _ w1).alloc (Nat.le_refl _) _
  have HY2 : Hid (Blk w2 w1.heap.size 90 #[.int .u32 h.ma, .int .u16 h.hi, .int .u8 h.op, .int .u8 h.pr, .int .u32 h.dd, .int .u32 h.dr, .int .u32 h.bd, .slice na nn nc]) := Lib.hid (by rw [hw2]; exact Blk.new w1 _ _)
  rw [← hw2]
  obtain ⟨Y, hY⟩ : ∃ Y, Y = w1.heap.size := ⟨_, rfl⟩
  have HLoY : Hid (lo ≤ Y) := Lib.hid (by rw [hY]; exact HT1.out.low)
  rw [← hY] at HY2 ⊢
  have hlo1 : lo ≤ w1.heap.size := HT1.out.low
  have HT2 := Lib.hid (HT1.out.below hb2)
  have HX2 := Lib.hid (HX1.out.below hb2 HX1.out.lt)
  have HB2 := Lib.hid (HB1.out.trans (hb2.mono hlo1))
  have HW2 := Lib.hid (HW1.out.below (hb2.mono hlo1))
  have hlo2 : lo ≤ w2.heap.size := HT2.out.low
  have HCp := Lib.hid (copyw_own w2 _ _ (HW2.out.at_ hlo2))
  have x11 : w2.cell? ⟨X, 11, none⟩ = some (.slice na nn nc) := HX2.out.cell 11
  have hXl2 := HX2.out.lt
  clear hw2 hb2 hY HT1 HX1 HB1 HW1 hXl k0 k4 k5 k6 k7 k8 k9 k10 k11
  go_wp2_with fail
  refine HCp.out.mono ?_
  rintro e w3 ⟨cv, rfl, hcv, hb3⟩
  obtain ⟨ca, cn, cc, rfl⟩ := Reads.wordsAt hcv.at_
  have HCv := Lib.hid hcv
  have HT3 := Lib.hid (HT2.out.below hb3)
  have HX3 := Lib.hid (HX2.out.below hb3 HX2.out.lt)
  have HY3 := Lib.hid (HY2.out.below hb3 HY2.out.lt)
  have HB3 := Lib.hid (HB2.out.trans (hb3.mono hlo2))
  have HW3 := Lib.hid (HW2.out.below (hb3.mono hlo2))
  have y7 : w3.cell? ⟨Y, 7, none⟩ = some (.slice na nn nc) := HY3.out.cell 7
  have fY := HY3.out.frozen
  have hYl := HY3.out.lt
  clear hcv hb3 HCp x11 hXl2
  go_upto_region 16 with fail
  obtain ⟨w4, hw4⟩ : ∃ w4, w4 = w3.setCell ⟨Y, 7, none⟩ (.slice ca cn cc) := ⟨_, rfl⟩
  have hF4 : Frame (fun j => j = Y) w3 w4 := by rw [hw4]; exact (Frame.refl _ w3).setB 7 _
  have HY4 : Hid (Blk w4 Y 90 #[.int .u32 h.ma, .int .u16 h.hi, .int .u8 h.op, .int .u8 h.pr, .int .u32 h.dd, .int .u32 h.dr, .int .u32 h.bd, .slice ca cn cc]) := Lib.hid (by rw [hw4]; exact HY3.out.set_ 7 _)
  have hYne : ∀ g t cs, Blk w3 g t cs → t ≠ 90 → g ≠ Y := fun g t cs hg ht => hg.ne_ HY3.out ht
  have hloY : lo ≤ Y := HLoY.out
  have hb4 : Below lo w3 w4 := ⟨hF4.os, hF4.tape, hF4.output, hF4.size, fun i hi => hF4.block i (by have := HT3.out.low; omega) (by omega)⟩
  rw [← hw4]
  obtain ⟨pA, pcap, pxs, hp⟩ := HT3.out.p
  obtain ⟨vR, hr⟩ := HT3.out.r
  have hp4 := hp.fr hF4 (hYne _ _ _ hp.b (by decide)) (fun L hL => by
    obtain ⟨cur, hc⟩ := hp.o.ty hL
    exact hYne _ _ _ hc (by decide)) (fun x hx => hYne _ _ _ (hp.k x hx).1 (by decide))
  have hr4 : RAt lo w4 R c s vR := ⟨hr.loR, hF4.blk hr.b (hYne _ _ _ hr.b (by decide)), hF4.own hr.o (fun g hg => by
    obtain ⟨_, cs, hc⟩ := own_cells hr.o g hg
    exact hYne g 157 cs hc (by decide))⟩
  have HT4 : Hid (Two lo w4 B R c v L s) := Lib.hid (HT3.out.next ⟨_, _, _, hp4⟩ ⟨_, hr4⟩ hb4 HT3.out.ok)
  have HX4 := Lib.hid (hF4.blk HX3.out (hYne _ _ _ HX3.out (by decide)))
  have HB4 := Lib.hid (HB3.out.trans hb4)
  have HW4 := Lib.hid (HW3.out.below hb4)
  have HCv4 : Hid (WordsOwn w4 (.slice ca cn cc) h.nb) := Lib.hid (HCv.out.fr hF4 (fun g hg => by
    obtain ⟨_, b, h4⟩ := HCv.out
    obtain ⟨_, cs, hc⟩ := own_cells h4 g hg
    exact hYne g 25 cs hc (by decide)))
  have hlo4 : lo ≤ w4.heap.size := HT4.out.low
  have HPc := Lib.hid (phear_any hp4 (G.out.pe_ v) (HT4.out.ok.pe_ v) HNet.out fr ro h (.slice ca cn cc) (fun w' hf => (HCv4.out.lfr hf).at_))
  unfold hval at HPc
  have y0 : w4.cell? ⟨Y, 0, none⟩ = some (.int .u32 h.ma) := HY4.out.cell 0
  have y1 : w4.cell? ⟨Y, 1, none⟩ = some (.int .u16 h.hi) := HY4.out.cell 1
  have y2 : w4.cell? ⟨Y, 2, none⟩ = some (.int .u8 h.op) := HY4.out.cell 2
  have y3 : w4.cell? ⟨Y, 3, none⟩ = some (.int .u8 h.pr) := HY4.out.cell 3
  have y4 : w4.cell? ⟨Y, 4, none⟩ = some (.int .u32 h.dd) := HY4.out.cell 4
  have y5 : w4.cell? ⟨Y, 5, none⟩ = some (.int .u32 h.dr) := HY4.out.cell 5
  have y6 : w4.cell? ⟨Y, 6, none⟩ = some (.int .u32 h.bd) := HY4.out.cell 6
  have y7n : w4.cell? ⟨Y, 7, none⟩ = some (.slice ca cn cc) := HY4.out.cell 7
  have x2 : w4.cell? ⟨X, 2, none⟩ = some (.int .u32 fr) := HX4.out.cell 2
  have x3 : w4.cell? ⟨X, 3, none⟩ = some (.int .u32 ro) := HX4.out.cell 3
  have hYl4 := HY4.out.lt
  have hXl4 := HX4.out.lt
  clear hw4 hF4 hYne hb4 hp hr hp4 y7 fY hYl HT3 HX3 HY3 HB3 HW3 HCv
  go_wp2_with fail
  refine HPc.out.mono ?_
  rintro e wp ⟨u, rfl, hou, hp2, hf2⟩
  simp only [Pl.hearOut_pe] at hou
  simp only [Pl.hearSt_pe] at hp2
  rw [Pl.mayE_pe]
  have hr2 := hr4.lfr hf2
  have hb2 := hf2.below hlo4
  have hlop : lo ≤ wp.heap.size := Nat.le_trans hlo4 hf2.size
  have HWp := Lib.hid (HW4.out.below hb2)
  have HRc := Lib.hid (rhear_any hr2 G.out HT4.out.ok fr ro h (.slice na nn nc) (fun w' hf => (HWp.out.below (hf.below hlop)).at_ (Nat.le_trans hlop hf.size)))
  unfold hval at HRc
  have HOu := Lib.hid hou
  have HP2 := Lib.hid hp2
  have HF2 := Lib.hid hf2
  have HXp := Lib.hid (Frame.blk hf2 HX4.out (lty_ne HX4.out (by decide) (by decide) (by decide)))
  have HYp := Lib.hid (Frame.blk hf2 HY4.out (lty_ne HY4.out (by decide) (by decide) (by decide)))
  have HCvp := Lib.hid (HCv4.out.lfr hf2)
  have z2 : wp.cell? ⟨X, 2, none⟩ = some (.int .u32 fr) := HXp.out.cell 2
  have z3 : wp.cell? ⟨X, 3, none⟩ = some (.int .u32 ro) := HXp.out.cell 3
  have x4 : wp.cell? ⟨X, 4, none⟩ = some (.int .u32 h.ma) := HXp.out.cell 4
  have x5 : wp.cell? ⟨X, 5, none⟩ = some (.int .u16 h.hi) := HXp.out.cell 5
  have x6 : wp.cell? ⟨X, 6, none⟩ = some (.int .u8 h.op) := HXp.out.cell 6
  have x7 : wp.cell? ⟨X, 7, none⟩ = some (.int .u8 h.pr) := HXp.out.cell 7
  have x8 : wp.cell? ⟨X, 8, none⟩ = some (.int .u32 h.dd) := HXp.out.cell 8
  have x9 : wp.cell? ⟨X, 9, none⟩ = some (.int .u32 h.dr) := HXp.out.cell 9
  have x10 : wp.cell? ⟨X, 10, none⟩ = some (.int .u32 h.bd) := HXp.out.cell 10
  have x11 : wp.cell? ⟨X, 11, none⟩ = some (.slice na nn nc) := HXp.out.cell 11
  have hXlp := HXp.out.lt
  clear hr4 hr2 hou hp2 hf2 HPc x2 x3 y0 y1 y2 y3 y4 y5 y6 y7n hYl4 hXl4 hb2
  obtain ⟨E, hE⟩ : ∃ E, Pl.mayE c s fr ro h = E := ⟨_, rfl⟩
  rw [hE] at HRc ⊢
  clear hE
  go_wp2_with fail
  refine HRc.out.mono ?_
  rintro e wq ⟨u2, vR2, rfl, hou2, hr3, hf3⟩
  have HSd := Lib.hid (sends_any wq u u2 _ (HOu.out.rfr hf3).at_ hou2)
  have hb23 : Below lo w4 wq := (HF2.out.below hlo4).trans (hf3.below hlop)
  have HTq : Hid (Two lo wq B R c v L (Pl.hearSt c s fr ro h)) := Lib.hid (HT4.out.next (by obtain ⟨a, b, x, h⟩ := HP2.out; exact ⟨a, b, x, h.rfr hf3⟩) ⟨_, hr3⟩ hb23 (Pl.hear_ok G.out HT4.out.ok fr ro h))
  have HBq := Lib.hid (HB4.out.trans hb23)
  have HXq := Lib.hid (Frame.blk hf3 HXp.out (rty_ne HXp.out (by decide) (by decide)))
  have HYq := Lib.hid (Frame.blk hf3 HYp.out (rty_ne HYp.out (by decide) (by decide)))
  have HCvq := Lib.hid (HCvp.out.rfr hf3)
  have HWq := Lib.hid (HW4.out.below hb23)
  clear hou2 hr3 hf3 hb23 HRc HOu HP2 HF2 z2 z3 x4 x5 x6 x7 x8 x9 x10 x11 hXlp
  go_wp2_with fail
  refine HSd.out.mono ?_
  rintro e wz ⟨rfl, hbz⟩
  have HTz := Lib.hid (HTq.out.below hbz)
  have hloq : lo ≤ wq.heap.size := HTq.out.low
  have HBz := Lib.hid (HBq.out.trans (hbz.mono hloq))
  have HXz := Lib.hid (HXq.out.below hbz HXq.out.lt)
  have HYz := Lib.hid (HYq.out.below hbz HYq.out.lt)
  have hloz : lo ≤ wz.heap.size := HTz.out.low
  have HEq := Lib.hid (eqh_any wz h (.slice ca cn cc) (.slice na nn nc) (HCvq.out.below hbz).at_ ((HWq.out.below (hbz.mono hloq)).at_ hloz))
  unfold hval at HEq
  have y0 : wz.cell? ⟨Y, 0, none⟩ = some (.int .u32 h.ma) := HYz.out.cell 0
  have y1 : wz.cell? ⟨Y, 1, none⟩ = some (.int .u16 h.hi) := HYz.out.cell 1
  have y2 : wz.cell? ⟨Y, 2, none⟩ = some (.int .u8 h.op) := HYz.out.cell 2
  have y3 : wz.cell? ⟨Y, 3, none⟩ = some (.int .u8 h.pr) := HYz.out.cell 3
  have y4 : wz.cell? ⟨Y, 4, none⟩ = some (.int .u32 h.dd) := HYz.out.cell 4
  have y5 : wz.cell? ⟨Y, 5, none⟩ = some (.int .u32 h.dr) := HYz.out.cell 5
  have y6 : wz.cell? ⟨Y, 6, none⟩ = some (.int .u32 h.bd) := HYz.out.cell 6
  have y7 : wz.cell? ⟨Y, 7, none⟩ = some (.slice ca cn cc) := HYz.out.cell 7
  have x4 : wz.cell? ⟨X, 4, none⟩ = some (.int .u32 h.ma) := HXz.out.cell 4
  have x5 : wz.cell? ⟨X, 5, none⟩ = some (.int .u16 h.hi) := HXz.out.cell 5
  have x6 : wz.cell? ⟨X, 6, none⟩ = some (.int .u8 h.op) := HXz.out.cell 6
  have x7 : wz.cell? ⟨X, 7, none⟩ = some (.int .u8 h.pr) := HXz.out.cell 7
  have x8 : wz.cell? ⟨X, 8, none⟩ = some (.int .u32 h.dd) := HXz.out.cell 8
  have x9 : wz.cell? ⟨X, 9, none⟩ = some (.int .u32 h.dr) := HXz.out.cell 9
  have x10 : wz.cell? ⟨X, 10, none⟩ = some (.int .u32 h.bd) := HXz.out.cell 10
  have x11 : wz.cell? ⟨X, 11, none⟩ = some (.slice na nn nc) := HXz.out.cell 11
  have hYlz := HYz.out.lt
  have hXlz := HXz.out.lt
  clear hbz HSd
  go_wp2_with fail
  refine HEq.out.mono ?_
  rintro e wy ⟨rfl, hby⟩
  have HTy := Lib.hid (HTz.out.below hby)
  have HBy := Lib.hid (HBz.out.trans (hby.mono hloz))
  clear hby y0 y1 y2 y3 y4 y5 y6 y7 x4 x5 x6 x7 x8 x9 x10 x11
  go_wp2_with fail
  go_ret
  exact ⟨rfl, ⟨_, HTy.out⟩, HBy.out⟩
theorem step_any (h2 : Two lo w B R c v L s) (g : Pl.CfgOk c L) (hnet : bits .and .u32 c.na (maskN c.nb.toNat) = c.na) {dn n fr ro : Int} {h : Pl.Hel} {na : Option Addr} {nn nc : Nat} (hw : WordsLo lo w (.slice na nn nc) h.nb) :
    Calls Try.prog 44 #[.pointer (some ⟨B, 0, none⟩), .pointer (some ⟨R, 0, none⟩), .agg #[.int .i64 dn, .int .i64 n, .int .u32 fr, .int .u32 ro, .int .u32 h.ma, .int .u16 h.hi, .int .u8 h.op, .int .u8 h.pr, .int .u32 h.dd, .int .u32 h.dr, .int .u32 h.bd, .slice na nn nc]] w fun e w' => StepPost lo B R c v L w e w' := by
  by_cases h0 : dn = 0
  · exact step_up h2 g hnet hw h0
  by_cases h1 : dn = 1
  · exact step_down h2 g hnet hw h1
  by_cases h3 : dn = 2
  · exact step_tick h2 g hnet hw h3
  by_cases h4 : dn = 3
  · exact step_hear h2 g hnet hw h4
  by_cases h5 : dn = 4
  · exact step_reach h2 g hnet hw h5
  by_cases h6 : dn = 5
  · exact step_full h2 g hnet hw h6
  exact step_else h2 g hnet hw (by simpa using h0) (by simpa using h1) (by simpa using h3) (by simpa using h4) (by simpa using h5) (by simpa using h6)
end
end Go.Proofs.Ytgbmhijgpdgdbaa
