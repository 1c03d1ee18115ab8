/- The statement LinkNone, walked, given that 'works' answers true. -/
import Derived.Test.YtgbmhijgpdgdbaaLinkNo
namespace Go.Proofs.Ytgbmhijgpdgdbaa
open Go.RowKit

theorem nlink (w : World) : NoLink w (.pointer none) := Or.inl rfl
def zlink : Array Value := #[.bool false, .int .u8 0, .int .u32 0, .int .u32 0, .int .u8 0, .int .u32 0, .int .u8 0, .int .u16 0, .int .u32 0, .int .u16 0, .int .u8 0, .bool false, .bool false, .slice none 0 0, .int .u32 0, .int .u8 0, .int .u32 0, .int .u32 0, .int .u32 0, .int .u32 0, .int .u32 0, .int .u32 0, .slice none 0 0]
theorem zlinkNo {w : World} {B : Nat} (h : Blk w B 119 zlink) : NoLink w (.pointer (some ⟨B, 0, none⟩)) := Or.inr ⟨B, zlink, rfl, h, rfl⟩

set_option maxHeartbeats 4000000 in
set_option maxRecDepth 20000 in
theorem lawLinkNone_of (hw : ∀ W : World, Calls Try.prog 30 #[] W fun e w' => e = .returned (.bool true) ∧ Below W.heap.size W w') (x y : Int) (w : World) :
    Calls Try.prog 10 #[.int .u32 x, .int .u32 y] w fun e w' => e = .returned (.bool true) ∧ Below w.heap.size w w' := by
  have HW := Lib.hid hw
  clear hw
  go_enter Try.func10, Try.ntmps10
  go_wp2_with fail
  have k1 : Blk (w.alloc (.cells zlink 119)) w.heap.size 119 zlink := Blk.new w _ _
  have b1 : Below w.heap.size w (w.alloc (.cells zlink 119)) := (Below.refl _ w).alloc (Nat.le_refl _) _
  refine (lhear_no _ _ _ _ _ (nlink _)).mono ?_
  rintro e w2 ⟨rfl, hb2⟩
  have k2 := k1.below hb2 k1.lt
  have b2 := b1.trans (hb2.mono b1.size)
  have K2 := Lib.hid k2
  have B2 := Lib.hid b2
  clear k1 b1 hb2 k2 b2
  go_wp2_with fail
  refine (lhear_no _ _ _ _ _ (zlinkNo K2.out)).mono ?_
  rintro e w3 ⟨rfl, hb3⟩
  have K3 := Lib.hid (K2.out.below hb3 K2.out.lt)
  have B3 := Lib.hid (B2.out.trans (hb3.mono B2.out.size))
  clear hb3
  go_wp2_with fail
  refine (ldown_no _ _ (nlink _)).mono ?_
  rintro e w' ⟨rfl, rfl⟩
  go_wp2_with fail
  refine (lreach_no _ _ _ (zlinkNo K3.out)).mono ?_
  rintro e w' ⟨rfl, rfl⟩
  go_wp2_with fail
  refine (lfull_no _ _ _ _ (zlinkNo K3.out)).mono ?_
  rintro e w4 ⟨rfl, hb4⟩
  have K4 := Lib.hid (K3.out.below hb4 K3.out.lt)
  have B4 := Lib.hid (B3.out.trans (hb4.mono B3.out.size))
  clear hb4
  go_wp2_with fail
  refine (lchiefs_no _ _ (zlinkNo K4.out)).mono ?_
  rintro e w' ⟨rfl, rfl⟩
  go_wp2_with fail
  refine (lchiefs_no _ _ (nlink _)).mono ?_
  rintro e w' ⟨rfl, rfl⟩
  go_wp2_with (first
    | (go_at_call 33; refine (lup_no _ _ (by first | exact nlink _ | exact zlinkNo K4.out)).mono ?_; rintro e w' ⟨rfl, rfl⟩)
    | (go_at_call 36; refine (ltick_no _ _ (by first | exact nlink _ | exact zlinkNo K4.out)).mono ?_; rintro e w' ⟨rfl, rfl⟩)
    | (go_at_call 39; refine (lstate_no _ _ (by first | exact nlink _ | exact zlinkNo K4.out)).mono ?_; rintro e w' ⟨rfl, rfl⟩)
    | (go_at_call 38; refine (lneighbours_no _ _ (by first | exact nlink _ | exact zlinkNo K4.out)).mono ?_; rintro e w' ⟨rfl, rfl⟩)
    | (go_at_call 30; refine (HW.out _).mono ?_; rintro e w5 ⟨rfl, hb5⟩))
  go_ret
  exact ⟨rfl, B4.out.trans (hb5.mono B4.out.size)⟩
end Go.Proofs.Ytgbmhijgpdgdbaa
