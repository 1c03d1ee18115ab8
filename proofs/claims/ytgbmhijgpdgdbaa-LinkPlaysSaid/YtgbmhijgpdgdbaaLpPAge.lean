/- The program's link: its neighbours, by a tick. -/
import Derived.Test.YtgbmhijgpdgdbaaLpPLose
import Derived.Test.YtgbmhijgpdgdbaaLpPRound
set_option maxHeartbeats 8000000
set_option maxRecDepth 20000
namespace Go.Proofs.Ytgbmhijgpdgdbaa
open Go.RowKit Go.Shelf
attribute [local go_sem] Oper.semAt_some
section
variable {lo : Nat} {w w' : World} {B : Nat} {c : LC} {s s' : Pl.St} {A : Option Addr} {cap : Nat} {xs : List (Nat × Kn)} {L : List (Int × Int)} {v : Value}
theorem PeersAt.lfr (h : PeersAt w lo v L) (hf : LFr lo w w') (hl : lo ≤ w.heap.size) : PeersAt w' lo v L := by
  obtain ⟨A, cp, rfl, h2⟩ := h
  exact ⟨A, cp, rfl, h2.below (hf.below hl)⟩
theorem PAt.kset (h : PAt lo w B c s A cap xs) {i : Nat} {x : Nat × Kn} (hx : xs[i]? = some x) (k' : Kn) (hf : Frame (fun j => j = x.1) w w') (hb : Blk w' x.1 139 k'.cells) (hsl : s'.l = s.l.set i k') (hse : (lks c s'.st s'.dr s'.bd s'.wt s'.nx s'.po s'.re) = (lks c s.st s.dr s.bd s.wt s.nx s.po s.re)) :
    PAt lo w' B c s' A cap (xs.set i (x.1, k')) ∧ LFr lo w w' := by
  have hm := List.mem_of_getElem? hx
  have hi : i < xs.length := (List.getElem?_eq_some_iff.1 hx).1
  have hk := (h.k x hm).1
  have hlx := (h.k x hm).2
  have he : (xs.map (·.1)).set i x.1 = xs.map (·.1) := by
    apply List.ext_getElem?
    intro j
    by_cases hji : i = j
    · subst hji
      rw [List.getElem?_set_self (by simpa using hi), List.getElem?_map, hx]
      rfl
    · rw [List.getElem?_set_ne hji]
  have hps : kptrs (xs.set i (x.1, k')) = kptrs xs := by
    have e1 : ∀ l : List (Nat × Kn), kptrs l = (l.map (·.1)).map fun p => Value.pointer (some ⟨p, 0, none⟩) := fun l => by unfold kptrs; rw [List.map_map]; rfl
    rw [e1, e1, List.map_set]
    show ((xs.map (·.1)).set i x.1).map _ = _
    rw [he]
  refine ⟨⟨h.loB, by rw [List.length_set, hse]; exact hf.blk h.b (h.b.ne_ hk (by decide)), ?_, fun y hy => ?_, ?_, by rw [hsl, ← h.l, List.map_set]⟩, LFr.one hk hlx (.inr (.inr rfl)) hf⟩
  · rw [List.length_set, hps]
    refine h.o.fr hf (fun L hL e => ?_)
    obtain ⟨cur, hc⟩ := h.o.ty hL
    exact hc.ne_ hk (by decide) e
  · obtain ⟨j, hj⟩ := List.getElem?_of_mem hy
    by_cases hji : i = j
    · subst hji
      rw [List.getElem?_set_self hi] at hj
      obtain rfl : (x.1, k') = y := Option.some.inj hj
      exact ⟨hb, hlx⟩
    · rw [List.getElem?_set_ne hji] at hj
      have hym := List.mem_of_getElem? hj
      have hne : y.1 ≠ x.1 := by
        intro e
        have h1 : (xs.map (·.1))[i]? = some x.1 := by rw [List.getElem?_map, hx]; rfl
        have h2 : (xs.map (·.1))[j]? = some x.1 := by rw [List.getElem?_map, hj, ← e]; rfl
        have hil : i < (xs.map (·.1)).length := by simpa using hi
        exact hji ((List.getElem?_inj hil h.nd).1 (h1.trans h2.symm))
      exact ⟨hf.blk (h.k y hym).1 hne, (h.k y hym).2⟩
  · rw [List.map_set]
    show ((xs.map (·.1)).set i x.1).Nodup
    rw [he]
    exact h.nd
theorem plose_any (h : PAt lo w B c s A cap xs) (hpe : PeersAt w lo c.pe L) (i : Nat) (hi : i < xs.length) (hn : xs.length ≤ 60000) (hL : c.peers = true → s.l.length = L.length) :
    Calls Try.prog 109 #[.pointer (some ⟨B, 0, none⟩), .int .i64 i] w fun e w' => e = .returned (.tuple #[]) ∧ ∃ A' cap' xs', PAt lo w' B c { s with l := dropL c L i s.l } A' cap' xs' ∧ LFr lo w w' := by
  unfold dropL
  rcases hp : c.peers with _ | _
  · refine (plose_n h hp i hi hn).mono ?_
    rintro e w' ⟨rfl, A', cap', h1, h2⟩
    exact ⟨rfl, A', cap', _, by rw [if_neg (by decide)]; exact h1, h2⟩
  · have hiL : i < L.length := by rw [← hL hp, ← h.len]; exact hi
    refine (plose_p h hpe hp i hi _ (List.getElem?_eq_getElem hiL)).mono ?_
    rintro e w' ⟨rfl, xs', h1, h2⟩
    exact ⟨rfl, A, cap, xs', by rw [if_pos rfl, List.getD_eq_getElem?_getD, List.getElem?_eq_getElem hiL]; exact h1, h2⟩
theorem page_any (h : PAt lo w B c s A cap xs) (hpe : PeersAt w lo c.pe L) (hs : Pl.Ok c L s) (h2 : 2 ≤ s.st) :
    Calls Try.prog 75 #[.pointer (some ⟨B, 0, none⟩)] w fun e w' => e = .returned (.bool (Pl.lost c s.l)) ∧ ∃ A' cap' xs', PAt lo w' B c { s with l := Pl.age c L s.l } A' cap' xs' ∧ LFr lo w w' := by
  have H := Lib.hid h
  have HPe := Lib.hid hpe
  have HS := Lib.hid hs
  have H2 := Lib.hid h2
  have HP : Hid (∀ W, Calls Try.prog 63 #[.agg #[.int .u8 c.ty, .int .u32 c.ro, .int .u32 c.na, .int .u8 c.nb, .int .u32 c.ad, .int .u8 c.op, .int .u16 c.hi, .int .u32 c.dd, .int .u16 c.po, .int .u8 c.pr, .bool c.dm, .bool c.ps, c.pe, .int .u32 c.rm]] W fun e w' => e = .returned (.bool c.peers) ∧ Below W.heap.size W w') := Lib.hid (fun W => peers_any c W)
  have hlow : lo ≤ w.heap.size := by have := h.loB; have := h.b.lt; omega
  obtain ⟨n, hn⟩ : ∃ n, s.l.length = n := ⟨_, rfl⟩
  have Hn := Lib.hid hn
  have hn64 : n ≤ 64 := by rw [← hn]; exact HS.out.ln
  clear h hpe hs h2 hn
  go_enter Try.func75, Try.ntmps75
  go_wp2_with fail
  go_loopg [3, 4] n (fun gk y x wr => ∃ (k i : Nat) (bl : Bool) (A' : Option Addr) (cap' : Nat) (xs' : List (Nat × Kn)), k + gk = n ∧ y = .bool bl ∧ x = .int .i64 i ∧ Hid (lostTo c s.l k = bl) ∧ Hid ((Pl.agedTo c L s.l k).length = i) ∧ Hid (PAt lo wr B c { s with l := curL c L s.l k } A' cap' xs') ∧ Hid (LFr lo w wr))
  case atStart => exact ⟨0, 0, false, A, cap, xs, by omega, rfl, rfl, Lib.hid rfl, Lib.hid rfl, Lib.hid (by rw [curL_zero]; exact H.out), Lib.hid (LFr.refl _ _)⟩
  case round =>
    obtain ⟨k, i, bl, A1, cp, xs1, hkg, rfl, rfl, HBl, HI, HR, HF⟩ := hrel
    obtain ⟨m, hm⟩ : ∃ m, xs1.length = m := ⟨_, rfl⟩
    have hmc : (curL c L s.l k).length = m := by rw [← hm]; exact HR.out.len.symm
    have hmi : m = i + (n - k) := by rw [← hmc, curL_len, HI.out, Hn.out]
    have hik : i ≤ k := by rw [← HI.out]; exact (Pl.aged_len c L s.l k).1
    have Hm := Lib.hid hm
    have Hmc := Lib.hid hmc
    have Hmi := Lib.hid hmi
    have hm64 : m ≤ 64 := by omega
    have c22 : wr.cell? ⟨B, 22, none⟩ = some (.slice A1 m cp) := by rw [← hm]; exact HR.out.b.cell 22
    have hBl := HR.out.b.lt
    clear hm hmc
    by_cases hk : k < n
    · have him : (i : Int) < (m : Int) := by omega
      have himn : i < m := by omega
      have Hkg := Lib.hid hkg
      clear hmi hkg
      obtain ⟨x, hx⟩ : ∃ x, s.l[k]? = some x := ⟨_, List.getElem?_eq_getElem (by rw [Hn.out]; exact hk)⟩
      have hcx : (curL c L s.l k)[i]? = some x := by rw [← HI.out]; exact curL_at hx
      obtain ⟨y, hy⟩ : ∃ y, xs1[i]? = some y := ⟨_, List.getElem?_eq_getElem (by rw [Hm.out]; exact himn)⟩
      have hyx : y.2 = x := by
        have h := HR.out.atL hy
        exact Option.some.inj (h.symm.trans hcx)
      obtain ⟨Kb, kx⟩ := y
      obtain rfl : kx = x := hyx
      obtain ⟨R, rfl, hRl, hRlo, ⟨cur, hRc⟩, hRx⟩ := HR.out.at_ hy
      have hym := List.mem_of_getElem? hy
      have hkb := (HR.out.k _ hym).1
      have k2 : wr.cell? ⟨Kb, 2, none⟩ = some (.int .u8 kx.st) := hkb.cell 2
      have k7 : wr.cell? ⟨Kb, 7, none⟩ = some (.int .u32 kx.lf) := hkb.cell 7
      have fzk := hkb.frozen
      have hKl := hkb.lt
      have HKb := Lib.hid hkb
      have Hy := Lib.hid hy
      have Hx := Lib.hid hx
      have hkn := HS.out.kn kx (List.mem_of_getElem? hx)
      have HKn := Lib.hid hkn
      have HSt : Hid (Calls Try.prog 106 #[.pointer (some ⟨B, 0, none⟩), .pointer (some ⟨Kb, 0, none⟩)] wr fun e w' => e = .returned (.bool (Pl.still c kx)) ∧ wr = w') := Lib.hid (pstill wr B Kb c _ kx HR.out.b rfl hkb)
      clear hx hcx hy hkn hRc hym hkb
      rcases h0 : (kx.st == 0) with _ | _
      · rcases hst : Pl.still c kx with _ | _
        · have HQ : Hid (Pl.quietK c kx = false) := Lib.hid (by unfold Pl.quietK; rw [h0, hst]; rfl)
          have hlf := HKn.out.lf (by simpa using h0)
          have hlf1 := hlf.1
          have hlf2 := hlf.2
          have HSt2 : Hid (Calls Try.prog 106 #[.pointer (some ⟨B, 0, none⟩), .pointer (some ⟨Kb, 0, none⟩)] wr fun e w' => e = .returned (.bool false) ∧ wr = w') := Lib.hid (by have h := HSt.out; rw [hst] at h; exact h)
          clear HSt hlf
          go_upto_region 8 with (go_at_call 106; refine HSt2.out.mono ?_; rintro e w' ⟨rfl, rfl⟩)
          obtain ⟨w6, hw6⟩ : ∃ w6, w6 = wr.setCell ⟨Kb, 7, none⟩ (.int .u32 (kx.lf - 1)) := ⟨_, rfl⟩
          have hf6 : Frame (fun j => j = Kb) wr w6 := by rw [hw6]; exact (Frame.refl (fun j => j = Kb) wr).setB 7 _
          have hb6 : Blk w6 Kb 139 { kx with lf := kx.lf - 1 : Kn }.cells := by rw [hw6]; exact HKb.out.set_ 7 _
          have h6 := HR.out.kset (s' := { s with l := (curL c L s.l k).set i { kx with lf := kx.lf - 1 } }) Hy.out { kx with lf := kx.lf - 1 } hf6 hb6 rfl rfl
          rw [← hw6]
          have H6 := Lib.hid h6
          have HF6 := Lib.hid (HF.out.trans h6.2)
          have x7 : w6.cell? ⟨Kb, 7, none⟩ = some (.int .u32 (kx.lf - 1)) := hb6.cell 7
          have x2 : w6.cell? ⟨Kb, 2, none⟩ = some (.int .u8 kx.st) := hb6.cell 2
          have hKl6 := hb6.lt
          have hBl6 := h6.1.b.lt
          clear hw6 h6 hf6 hb6 k2 k7 fzk hKl hBl c22 hRx hRl HR HF HKb HSt2
          by_cases hl1 : kx.lf = 1
          · have e1 : ¬ 0 < kx.lf - 1 := by omega
            have HD := Lib.hid (aged_drop (c := c) (L := L) (y := { kx with lf := kx.lf - 1 }) Hx.out HQ.out hl1)
            have HDr : Hid (Calls Try.prog 109 #[.pointer (some ⟨B, 0, none⟩), .int .i64 i] w6 fun e w' => e = .returned (.tuple #[]) ∧ ∃ A' cap' xs', PAt lo w' B c { s with l := curL c L s.l (k + 1) } A' cap' xs' ∧ LFr lo w6 w') := Lib.hid (by
              have hlen : (xs1.set i (Kb, { kx with lf := kx.lf - 1 })).length = m := by rw [List.length_set]; exact Hm.out
              have h := plose_any (L := L) H6.out.1 (HPe.out.lfr HF6.out hlow) i (by rw [hlen]; exact himn) (by rw [hlen]; omega) (fun hp => by
                show ((curL c L s.l k).set i _).length = _
                rw [List.length_set]
                have h1 := (Pl.aged_len c L s.l k).2 hp
                have h2 := HS.out.pe hp H2.out
                have h3 := Hmi.out
                have h4 := HI.out
                have h5 := Hn.out
                have h6 := Hmc.out
                omega)
              have e : dropL c L i ((curL c L s.l k).set i { kx with lf := kx.lf - 1 }) = curL c L s.l (k + 1) := by rw [← HI.out]; exact HD.out.1
              simp only [e] at h
              exact h)
            have HLo : Hid (lostTo c s.l (k + 1) = (bl || (kx.st == 3))) := Lib.hid (by rw [lost_next Hx.out, HBl.out, HQ.out, show (kx.lf == 1) = true from by rw [hl1]; rfl]; unfold Pl.two; simp)
            have Hl1 := Lib.hid hl1
            clear hl1 hlf1 hlf2
            go_upto_region 9 with fail
            go_cut [3] from 48 to 56 (fun p wx => p = .bool (bl || (kx.st == 3)) ∧ w6 = wx)
            case first =>
              rcases bl with _ | _
              all_goals
                go_wp2_with fail
                go_meet
                case rel => exact ⟨by simp, rfl⟩
            obtain ⟨rfl, rfl⟩ := hcut
            obtain ⟨b2, hb2⟩ : ∃ b2, (bl || (kx.st == 3)) = b2 := ⟨_, rfl⟩
            rw [hb2] at HLo ⊢
            clear hb2 x7 x2
            go_wp2_with fail
            refine HDr.out.mono ?_
            rintro e w7 ⟨rfl, A7, cp7, xs7, h7, hf7⟩
            have HR7 := Lib.hid h7
            have HF7 := Lib.hid (HF6.out.trans hf7)
            obtain ⟨e1, e2, e3, e4, e5, e6, e7, e8, e9, e10, e11, e12, e13, e14⟩ := lks_cs h7.b
            have hl0 : B < w7.heap.size := h7.b.lt
            have hag := HD.out.2
            rw [HI.out] at hag
            have Hag := Lib.hid hag
            have HPc : Hid (Calls Try.prog 63 #[.agg #[.int .u8 c.ty, .int .u32 c.ro, .int .u32 c.na, .int .u8 c.nb, .int .u32 c.ad, .int .u8 c.op, .int .u16 c.hi, .int .u32 c.dd, .int .u16 c.po, .int .u8 c.pr, .bool c.dm, .bool c.ps, c.pe, .int .u32 c.rm]] w7 fun e w' => e = .returned (.bool c.peers) ∧ Below w7.heap.size w7 w') := Lib.hid (HP.out w7)
            clear h7 hf7 hag hKl6 hBl6
            obtain ⟨pb, hpb⟩ : ∃ b, c.peers = b := ⟨_, rfl⟩
            rw [hpb] at HPc Hag
            clear hpb
            go_wp2_with fail
            refine HPc.out.mono ?_
            rintro e w8 ⟨rfl, hb8⟩
            have HR8 := Lib.hid (HR7.out.below hb8)
            have HF8 := Lib.hid (HF7.out.trans (LFr.of_below hb8))
            clear hb8 hl0 e1 e2 e3 e4 e5 e6 e7 e8 e9 e10 e11 e12 e13 e14
            rcases pb with _ | _
            · go_wp2_with fail
              go_roundg (n - (k + 1))
              case measure => have := Hkg.out; omega
              case rel => exact ⟨k + 1, i, b2, A7, cp7, xs7, by omega, rfl, by simp, HLo, Lib.hid (by have h := Hag.out; simpa using h), HR8, HF8⟩
            · go_wp2_with fail
              go_roundg (n - (k + 1))
              case measure => have := Hkg.out; omega
              case rel => exact ⟨k + 1, i + 1, b2, A7, cp7, xs7, by omega, rfl, by simp, HLo, Lib.hid (by have h := Hag.out; simpa using h), HR8, HF8⟩
          · have e1 : 0 < kx.lf - 1 := by omega
            have HD := Lib.hid (aged_older (c := c) (L := L) Hx.out HQ.out hl1)
            have HRn : Hid (PAt lo w6 B c { s with l := curL c L s.l (k + 1) } (some ⟨R, 0, none⟩) cp (xs1.set i (Kb, { kx with lf := kx.lf - 1 }))) := Lib.hid (by
              have h := H6.out.1
              have e := HD.out.1
              rw [HI.out] at e
              simp only [e] at h
              exact h)
            have Hl1 := Lib.hid hl1
            clear hl1
            go_wp2_with fail
            go_roundg (n - (k + 1))
            case measure => have := Hkg.out; omega
            case rel => exact ⟨k + 1, i + 1, bl, _, _, _, by omega, rfl, by simp, Lib.hid (by rw [lost_next Hx.out, HBl.out, show (kx.lf == 1) = false from by simpa using Hl1.out]; simp), Lib.hid (by rw [HD.out.2, HI.out]), HRn, HF6⟩
        · have HQ : Hid (Pl.quietK c kx = true) := Lib.hid (by unfold Pl.quietK; rw [hst]; simp)
          have HD := Lib.hid (aged_keep (c := c) (L := L) Hx.out HQ.out)
          have HSt2 : Hid (Calls Try.prog 106 #[.pointer (some ⟨B, 0, none⟩), .pointer (some ⟨Kb, 0, none⟩)] wr fun e w' => e = .returned (.bool true) ∧ wr = w') := Lib.hid (by have h := HSt.out; rw [hst] at h; exact h)
          clear HSt
          go_wp2_with (go_at_call 106; refine HSt2.out.mono ?_; rintro e w' ⟨rfl, rfl⟩)
          go_roundg (n - (k + 1))
          case measure => have := Hkg.out; omega
          case rel => exact ⟨k + 1, i + 1, bl, _, _, _, by omega, rfl, by simp, Lib.hid (by rw [lost_next Hx.out, HBl.out, HQ.out]; simp), Lib.hid (by rw [HD.out.2, HI.out]), Lib.hid (by rw [HD.out.1]; exact HR.out), HF⟩
      · have HQ : Hid (Pl.quietK c kx = true) := Lib.hid (by unfold Pl.quietK; rw [h0]; rfl)
        have HD := Lib.hid (aged_keep (c := c) (L := L) Hx.out HQ.out)
        go_wp2_with fail
        go_roundg (n - (k + 1))
        case measure => have := Hkg.out; omega
        case rel => exact ⟨k + 1, i + 1, bl, _, _, _, by omega, rfl, by simp, Lib.hid (by rw [lost_next Hx.out, HBl.out, HQ.out]; simp), Lib.hid (by rw [HD.out.2, HI.out]), Lib.hid (by rw [HD.out.1]; exact HR.out), HF⟩
    · obtain rfl : k = n := by omega
      obtain rfl : m = i := by omega
      have HLo : Hid (Pl.lost c s.l = bl) := Lib.hid (by rw [← lost_all, Hn.out]; exact HBl.out)
      have HRA : Hid (PAt lo wr B c { s with l := Pl.age c L s.l } A1 cp xs1) := Lib.hid (by
        have e : curL c L s.l k = Pl.age c L s.l := by rw [← curL_all, Hn.out]
        have h := HR.out
        simp only [e] at h
        exact h)
      clear hmi hkg hk hik Hmi Hm Hmc HI HBl
      go_wp2_with fail
      go_ret
      exact ⟨by rw [HLo.out] <;> rfl, _, _, _, HRA.out, HF.out⟩
end
end Go.Proofs.Ytgbmhijgpdgdbaa
