/- The program's link: what comes of a neighbour that is heard. -/
import Derived.Test.YtgbmhijgpdgdbaaLpPElect
import Derived.Test.YtgbmhijgpdgdbaaLpHearC
import Derived.Deep.CutBlock
set_option maxHeartbeats 8000000
set_option maxRecDepth 20000
namespace Go.Proofs.Ytgbmhijgpdgdbaa
open Go.RowKit Go.Shelf
section
variable {lo : Nat} {w : World} {B : Nat} {c : LC} {s1 : Pl.St} {A : Option Addr} {cap : Nat} {xs : List (Nat × Kn)}
theorem pheard (h : PAt lo w B c s1 A cap xs) (hlen : xs.length ≤ 60000) {K : Nat} {nk : Kn} (hm : (K, nk) ∈ xs) (x : Kn) (sm : Bool) {f : Int} {hl : Pl.Hel} (hf : nk.ad = f) (hd : nk.dr = hl.dr) (hb : nk.bd = hl.bd) :
    Calls Try.prog 73 #[.pointer (some ⟨B, 0, none⟩), .agg #[.int .u32 x.ro, .int .u32 x.ad, .int .u8 x.st, .int .u8 x.pr, .int .u32 x.dr, .int .u32 x.bd, .int .u8 x.op, .int .u32 x.lf, .bool x.wa, .bool x.fu], .pointer (some ⟨K, 0, none⟩), .bool sm] w fun e w' => e = .returned (.tuple #[]) ∧ ∃ xs', PAt lo w' B c (Pl.hearC c f hl sm x nk s1) A cap xs' ∧ LFr lo w w' := by
  have H := Lib.hid h
  have HLen := Lib.hid hlen
  have HK := Lib.hid (h.k _ hm).1
  have HDB := Lib.hid (And.intro hf (And.intro hd hb))
  clear h hlen hm hf hd hb
  go_enter Try.func73, Try.ntmps73
  go_upto_region 1 with fail
  obtain ⟨w1, hw1⟩ : ∃ w1, w1 = w.alloc (.cells #[.int .u32 x.ro, .int .u32 x.ad, .int .u8 x.st, .int .u8 x.pr, .int .u32 x.dr, .int .u32 x.bd, .int .u8 x.op, .int .u32 x.lf, .bool x.wa, .bool x.fu] 139) := ⟨_, rfl⟩
  have hb1 : Below w.heap.size w w1 := by rw [hw1]; exact (Below.refl _ w).alloc (Nat.le_refl _) _
  have hO : Blk w1 w.heap.size 139 #[.int .u32 x.ro, .int .u32 x.ad, .int .u8 x.st, .int .u8 x.pr, .int .u32 x.dr, .int .u32 x.bd, .int .u8 x.op, .int .u32 x.lf, .bool x.wa, .bool x.fu] := by rw [hw1]; exact Blk.new w _ _
  rw [← hw1]
  have HB1 := Lib.hid hb1
  have H1 := Lib.hid (H.out.below hb1)
  have hK1 : Blk w1 K 139 #[.int .u32 nk.ro, .int .u32 nk.ad, .int .u8 nk.st, .int .u8 nk.pr, .int .u32 nk.dr, .int .u32 nk.bd, .int .u8 nk.op, .int .u32 nk.lf, .bool nk.wa, .bool nk.fu] := HK.out.below hb1 HK.out.lt
  have o2 : w1.cell? ⟨w.heap.size, 2, none⟩ = some (.int .u8 x.st) := hO.cell 2
  have o3 : w1.cell? ⟨w.heap.size, 3, none⟩ = some (.int .u8 x.pr) := hO.cell 3
  have o4 : w1.cell? ⟨w.heap.size, 4, none⟩ = some (.int .u32 x.dr) := hO.cell 4
  have o5 : w1.cell? ⟨w.heap.size, 5, none⟩ = some (.int .u32 x.bd) := hO.cell 5
  have n1 : w1.cell? ⟨K, 1, none⟩ = some (.int .u32 nk.ad) := hK1.cell 1
  have n2 : w1.cell? ⟨K, 2, none⟩ = some (.int .u8 nk.st) := hK1.cell 2
  have n3' : w1.cell? ⟨K, 3, none⟩ = some (.int .u8 nk.pr) := hK1.cell 3
  have n4 : w1.cell? ⟨K, 4, none⟩ = some (.int .u32 nk.dr) := hK1.cell 4
  have n5 : w1.cell? ⟨K, 5, none⟩ = some (.int .u32 nk.bd) := hK1.cell 5
  have hOl := hO.lt
  have hKl := hK1.lt
  obtain ⟨OB, hOB⟩ : ∃ O, O = w.heap.size := ⟨_, rfl⟩
  rw [← hOB] at o2 o3 o4 o5 hOl ⊢
  have HO : Hid (Blk w1 OB 139 #[.int .u32 x.ro, .int .u32 x.ad, .int .u8 x.st, .int .u8 x.pr, .int .u32 x.dr, .int .u32 x.bd, .int .u8 x.op, .int .u32 x.lf, .bool x.wa, .bool x.fu]) := Lib.hid (by rw [hOB]; exact hO)
  have HKc := Lib.hid hK1
  clear hw1 hb1 hO hK1 hOB
  obtain ⟨t3, ht3⟩ : ∃ b, (x.st == 3) = b := ⟨_, rfl⟩
  have HT3 := Lib.hid ht3
  obtain ⟨n3, hn3⟩ : ∃ b, (nk.st == 3) = b := ⟨_, rfl⟩
  have N3 := Lib.hid hn3
  go_cut [8, 9] from 11 to 20 (fun p q wx => p = .bool t3 ∧ q = .bool n3 ∧ ∃ k, wx = w1.drewN k)
  case first =>
    go_quiet (fail)
    go_wp2_with fail
    go_meet
    case rel => exact ⟨by rw [← HT3.out], by rw [← N3.out], _, rfl⟩
  obtain ⟨rfl, rfl, k1, rfl⟩ := hcut
  obtain ⟨w2, hw2⟩ : ∃ y, y = w1.drewN k1 := ⟨_, rfl⟩
  rw [← hw2]
  have hbd : Below w1.heap.size w1 w2 := by rw [hw2]; exact drewQ w1 k1
  have H2 := Lib.hid (H1.out.below hbd)
  have HO2 := Lib.hid (HO.out.below hbd HO.out.lt)
  have HK2 := Lib.hid (HKc.out.below hbd HKc.out.lt)
  have HF2 : Hid (LFr lo w w2) := Lib.hid ((LFr.of_below HB1.out).trans (LFr.of_below hbd))
  clear hw2 hbd o2 o3 o4 o5 n1 n2 n3' n4 n5 hOl hKl HO HKc H1 HB1 ht3 hn3
  have o2 : w2.cell? ⟨OB, 2, none⟩ = some (.int .u8 x.st) := HO2.out.cell 2
  have o3 : w2.cell? ⟨OB, 3, none⟩ = some (.int .u8 x.pr) := HO2.out.cell 3
  have o4 : w2.cell? ⟨OB, 4, none⟩ = some (.int .u32 x.dr) := HO2.out.cell 4
  have o5 : w2.cell? ⟨OB, 5, none⟩ = some (.int .u32 x.bd) := HO2.out.cell 5
  have n1 : w2.cell? ⟨K, 1, none⟩ = some (.int .u32 nk.ad) := HK2.out.cell 1
  have n3' : w2.cell? ⟨K, 3, none⟩ = some (.int .u8 nk.pr) := HK2.out.cell 3
  have n4 : w2.cell? ⟨K, 4, none⟩ = some (.int .u32 nk.dr) := HK2.out.cell 4
  have n5 : w2.cell? ⟨K, 5, none⟩ = some (.int .u32 nk.bd) := HK2.out.cell 5
  have hOl := HO2.out.lt
  have hKl := HK2.out.lt
  go_upto_region 2 with fail
  go_cut [10] from 21 to 30 (fun p wx => p = .bool ((t3 != n3) || (n3 && !sm)) ∧ w2 = wx)
  case first =>
    rcases t3 with _ | _ <;> rcases n3 with _ | _
    all_goals
      go_wp2_with fail
      go_meet
      case rel => exact ⟨rfl, rfl⟩
  obtain ⟨rfl, rfl⟩ := hcut
  obtain ⟨ts, hts⟩ : ∃ b, (t3 && (n3 && sm)) = b := ⟨_, rfl⟩
  have HTs := Lib.hid hts
  clear hts
  go_upto_region 3 with fail
  go_cut [37] from 31 to 37 (fun p wx => p = .bool ts ∧ w2 = wx)
  case first =>
    rcases t3 with _ | _ <;> rcases n3 with _ | _
    all_goals
      go_wp2_with fail
      go_meet
      case rel => exact ⟨by rw [← HTs.out] <;> rfl, rfl⟩
  obtain ⟨rfl, rfl⟩ := hcut
  obtain ⟨ch, hch⟩ : ∃ b, Pl.change nk.ad sm x nk = b := ⟨_, rfl⟩
  have HCh := Lib.hid hch
  have HCe : Hid (ch = if ts then ((x.pr != nk.pr) || (!((x.dr == nk.ad) == (nk.dr == nk.ad)) || !((x.bd == nk.ad) == (nk.bd == nk.ad)))) else ((t3 != n3) || (n3 && !sm))) := Lib.hid (by
    rw [← hch]
    unfold Pl.change Pl.two
    rw [HT3.out, N3.out, ← HTs.out]
    cases t3 <;> cases n3 <;> cases sm <;> rfl)
  clear hch
  go_upto_if 37 with fail
  go_cut [10] from 37 to 92 (fun p wx => p = .bool ch ∧ ∃ k, wx = w2.drewN k)
  case first =>
    rcases ts with _ | _
    · have HV : Hid (((t3 != n3) || (n3 && !sm)) = ch) := Lib.hid (by rw [HCe.out]; rfl)
      go_wp2_with fail
      go_meet
      case rel => exact ⟨by rw [HV.out], 0, rfl⟩
    · have HV : Hid (ch = ((x.pr != nk.pr) || (!((x.dr == nk.ad) == (nk.dr == nk.ad)) || !((x.bd == nk.ad) == (nk.bd == nk.ad))))) := Lib.hid (by rw [HCe.out]; rfl)
      rcases e1 : (x.pr != nk.pr) with _ | _
      · rcases e2 : ((x.dr == nk.ad) == (nk.dr == nk.ad)) with _ | _
        all_goals
          have HE2 := Lib.hid e2
          have HV3 : Hid (ch = (!((x.dr == nk.ad) == (nk.dr == nk.ad)) || !((x.bd == nk.ad) == (nk.bd == nk.ad)))) := Lib.hid (by
            rw [HV.out, e1, Bool.false_or])
          go_upto_region 4 with fail
          go_quiet (fail)
          go_wp2_with fail
          go_meet
          case rel => exact ⟨by rw [HV3.out, HE2.out] <;> rfl, _, rfl⟩
      · have HV3 : Hid (ch = true) := Lib.hid (by rw [HV.out, e1]; rfl)
        go_upto_region 4 with fail
        go_quiet (fail)
        go_wp2_with fail
        go_meet
        case rel => exact ⟨by rw [HV3.out], _, rfl⟩
  obtain ⟨rfl, k2, rfl⟩ := hcut
  obtain ⟨w3, hw3⟩ : ∃ y, y = w2.drewN k2 := ⟨_, rfl⟩
  rw [← hw3]
  have hbd : Below w2.heap.size w2 w3 := by rw [hw3]; exact drewQ w2 k2
  have H3 := Lib.hid (H2.out.below hbd)
  have HK3 := Lib.hid (HK2.out.below hbd HK2.out.lt)
  have HF3 : Hid (LFr lo w w3) := Lib.hid (HF2.out.trans (LFr.of_below hbd))
  clear hw3 hbd o2 o3 o4 o5 n1 n3' n4 n5 hOl hKl HO2 HK2 H2 HF2 HCe HTs HT3
  have n1 : w3.cell? ⟨K, 1, none⟩ = some (.int .u32 nk.ad) := HK3.out.cell 1
  have n4 : w3.cell? ⟨K, 4, none⟩ = some (.int .u32 nk.dr) := HK3.out.cell 4
  have n5 : w3.cell? ⟨K, 5, none⟩ = some (.int .u32 nk.bd) := HK3.out.cell 5
  have c15 : w3.cell? ⟨B, 15, none⟩ = some (.int .u8 s1.st) := H3.out.b.cell 15
  have hKl := HK3.out.lt
  have hBl := H3.out.b.lt
  obtain ⟨fb, hfb⟩ : ∃ b, ((s1.st == 2) && (n3 && ((nk.bd == nk.ad) || ((nk.dr == nk.ad) && (nk.bd == 0))))) = b := ⟨_, rfl⟩
  have HFb := Lib.hid hfb
  clear hfb
  go_upto_region 5 with fail
  go_cut [93] from 94 to 135 (fun p wx => p = .bool fb ∧ ∃ k, wx = w3.drewN k)
  case first =>
    rcases e2 : (s1.st == 2) with _ | _
    · have HV : Hid (fb = false) := Lib.hid (by rw [← HFb.out, e2]; rfl)
      go_quiet (fail)
      go_wp2_with fail
      go_meet
      case rel => exact ⟨by rw [HV.out], _, rfl⟩
    · rcases n3 with _ | _
      · have HV : Hid (fb = false) := Lib.hid (by rw [← HFb.out, e2]; rfl)
        go_quiet (fail)
        go_wp2_with fail
        go_meet
        case rel => exact ⟨by rw [HV.out], _, rfl⟩
      · rcases eb : (nk.bd == nk.ad) with _ | _
        · rcases ed : (nk.dr == nk.ad) with _ | _
          · have HV : Hid (fb = false) := Lib.hid (by rw [← HFb.out, e2, eb, ed]; rfl)
            go_quiet (fail)
            go_wp2_with fail
            go_meet
            case rel => exact ⟨by rw [HV.out], _, rfl⟩
          · have HV : Hid (fb = (nk.bd == 0)) := Lib.hid (by rw [← HFb.out, e2, eb, ed]; cases (nk.bd == 0) <;> rfl)
            go_quiet (fail)
            go_wp2_with fail
            go_meet
            case rel => exact ⟨by rw [HV.out], _, rfl⟩
        · have HV : Hid (fb = true) := Lib.hid (by rw [← HFb.out, e2, eb]; rfl)
          go_quiet (fail)
          go_wp2_with fail
          go_meet
          case rel => exact ⟨by rw [HV.out], _, rfl⟩
  obtain ⟨rfl, k3, rfl⟩ := hcut
  obtain ⟨w4, hw4⟩ : ∃ y, y = w3.drewN k3 := ⟨_, rfl⟩
  rw [← hw4]
  have hbd : Below w3.heap.size w3 w4 := by rw [hw4]; exact drewQ w3 k3
  have H4 := Lib.hid (H3.out.below hbd)
  have HF4 : Hid (LFr lo w w4) := Lib.hid (HF3.out.trans (LFr.of_below hbd))
  clear hw4 hbd n1 n4 n5 c15 hKl hBl H3 HF3 HK3
  have c15 : w4.cell? ⟨B, 15, none⟩ = some (.int .u8 s1.st) := H4.out.b.cell 15
  have hBl := H4.out.b.lt
  have HC : Hid (Pl.hearC c f hl sm x nk s1 = if fb = true then Pl.elect c s1 else if 4 ≤ s1.st ∧ ch = true then Pl.elect c s1 else s1) := Lib.hid (by
    unfold Pl.hearC Pl.two
    rw [← HDB.out.1, ← HDB.out.2.1, ← HDB.out.2.2, N3.out, HCh.out, ← HFb.out]
    by_cases e : s1.st = 2
    · have h4 : ¬ (4 ≤ s1.st ∧ ch = true) := fun h4 => by have := h4.1; omega
      rw [if_pos e, show (s1.st == 2) = true from by simpa using e, Bool.true_and, if_neg h4]
    · rw [if_neg e, show (s1.st == 2) = false from by simpa using e, Bool.false_and, if_neg (show ¬ (false = true) from by decide)])
  have HEl : Hid (Calls Try.prog 76 #[.pointer (some ⟨B, 0, none⟩)] w4 fun e w' => e = .returned (.tuple #[]) ∧ ∃ xs', PAt lo w' B c (Pl.elect c s1) A cap xs' ∧ LFr lo w4 w') := Lib.hid (pelect H4.out HLen.out)
  clear HFb HCh N3 HDB
  rcases fb with _ | _
  rotate_left
  · have HV : Hid (Pl.hearC c f hl sm x nk s1 = Pl.elect c s1) := Lib.hid (by rw [HC.out, if_pos rfl])
    go_wp2_with fail
    refine HEl.out.mono ?_
    rintro e we ⟨rfl, xs', hre, hfe⟩
    have HRe := Lib.hid hre
    have HFe := Lib.hid hfe
    clear hre hfe
    go_wp2_with fail
    have hP : PAt lo we B c (Pl.hearC c f hl sm x nk s1) A cap xs' := by rw [HV.out]; exact HRe.out
    have hG : LFr lo w we := HF4.out.trans HFe.out
    refine bodyPost_end (v := .tuple #[]) (by simp [results, Try.results73, go_sem]) rfl ?_
    first | exact ⟨rfl, _, hP, hG⟩ | exact ⟨rfl, ⟨_, hP⟩, hG⟩
  by_cases h4 : 4 ≤ s1.st
  · rcases ch with _ | _
    · have HV : Hid (Pl.hearC c f hl sm x nk s1 = s1) := Lib.hid (by rw [HC.out, if_neg (by decide), if_neg (fun e => by cases e.2)])
      go_wp2_with fail
      have hP : PAt lo w4 B c (Pl.hearC c f hl sm x nk s1) A cap xs := by rw [HV.out]; exact H4.out
      refine bodyPost_end (v := .tuple #[]) (by simp [results, Try.results73, go_sem]) rfl ?_
      first | exact ⟨rfl, _, hP, HF4.out⟩ | exact ⟨rfl, ⟨_, hP⟩, HF4.out⟩
    · have HV : Hid (Pl.hearC c f hl sm x nk s1 = Pl.elect c s1) := Lib.hid (by rw [HC.out, if_neg (by decide), if_pos ⟨h4, rfl⟩])
      go_wp2_with fail
      refine HEl.out.mono ?_
      rintro e we ⟨rfl, xs', hre, hfe⟩
      have HRe := Lib.hid hre
      have HFe := Lib.hid hfe
      clear hre hfe
      go_wp2_with fail
      have hP : PAt lo we B c (Pl.hearC c f hl sm x nk s1) A cap xs' := by rw [HV.out]; exact HRe.out
      have hG : LFr lo w we := HF4.out.trans HFe.out
      refine bodyPost_end (v := .tuple #[]) (by simp [results, Try.results73, go_sem]) rfl ?_
      first | exact ⟨rfl, _, hP, hG⟩ | exact ⟨rfl, ⟨_, hP⟩, hG⟩
  · have HV : Hid (Pl.hearC c f hl sm x nk s1 = s1) := Lib.hid (by rw [HC.out, if_neg (by decide), if_neg (fun e => h4 e.1)])
    have h4' : s1.st < 4 := by omega
    clear h4
    go_wp2_with fail
    have hP : PAt lo w4 B c (Pl.hearC c f hl sm x nk s1) A cap xs := by rw [HV.out]; exact H4.out
    refine bodyPost_end (v := .tuple #[]) (by simp [results, Try.results73, go_sem]) rfl ?_
    first | exact ⟨rfl, _, hP, HF4.out⟩ | exact ⟨rfl, ⟨_, hP⟩, HF4.out⟩
end
end Go.Proofs.Ytgbmhijgpdgdbaa
