/- A tick of a link that is up, given what its neighbours come to by the tick. -/
import Derived.Test.YtgbmhijgpdgdbaaLoseOne
namespace Go.Proofs.Ytgbmhijgpdgdbaa
open Go.RowKit

/-- What is known of a neighbour written anew. -/
theorem LinkOn.kset {lo : Nat} {w w' : World} {B : Nat} {c : LC} {st dr bd wt nx po re : Int} {L cap : Nat} {xs : List (Nat × Kn)} (h : LinkOn lo w B c st dr bd wt nx po re L cap xs) {i : Nat} {x : Nat × Kn} (hx : xs[i]? = some x) (k' : Kn) (hf : Frame (fun j => j = x.1) w w')
    (hb : Blk w' x.1 139 k'.cells) : LinkOn lo w' B c st dr bd wt nx po re L cap (xs.set i (x.1, k')) ∧ LFr lo w w' := by
  obtain ⟨cur, hc0⟩ := h.lc
  have hm := List.mem_of_getElem? hx
  have hi : i < xs.length := (List.getElem?_eq_some_iff.1 hx).1
  have hk := (h.k x hm).1
  have hLx : L ≠ x.1 := hc0.ne_ hk (by decide)
  have hlx := (h.k x hm).2
  refine ⟨⟨h.loB, h.loL, by rw [List.length_set]; exact hf.blk h.b (h.b.ne_ hk (by decide)), ⟨cur, hf.blk hc0 hLx⟩, fun j y hj => ?_, fun y hy => ?_, ?_⟩, LFr.one hk hlx (.inr (.inr rfl)) hf⟩
  · have hcell : ∀ j, w'.cell? ⟨L, j, none⟩ = w.cell? ⟨L, j, none⟩ := fun j => World.cell?_of_block (a := ⟨L, j, none⟩) (hf.block L hc0.lt hLx)
    rw [hcell]
    by_cases hji : i = j
    · subst hji
      rw [List.getElem?_set_self hi] at hj
      obtain rfl : (x.1, k') = y := Option.some.inj hj
      exact h.r i x hx
    · rw [List.getElem?_set_ne hji] at hj
      exact h.r j y hj
  · obtain ⟨j, hj⟩ := List.getElem?_of_mem hy
    by_cases hji : i = j
    · subst hji
      rw [List.getElem?_set_self hi] at hj
      obtain rfl : (x.1, k') = y := Option.some.inj hj
      exact ⟨hb, hlx⟩
    · rw [List.getElem?_set_ne hji] at hj
      have hym := List.mem_of_getElem? hj
      have hne : y.1 ≠ x.1 := by
        intro e
        have h1 : (xs.map (·.1))[i]? = some x.1 := by rw [List.getElem?_map, hx]; rfl
        have h2 : (xs.map (·.1))[j]? = some x.1 := by rw [List.getElem?_map, hj, ← e]; rfl
        have hil : i < (xs.map (·.1)).length := by simpa using hi
        exact hji ((List.getElem?_inj hil h.nd).1 (h1.trans h2.symm))
      exact ⟨hf.blk (h.k y hym).1 hne, (h.k y hym).2⟩
  · rw [List.map_set]
    have he : (xs.map (·.1)).set i x.1 = xs.map (·.1) := by
      apply List.ext_getElem?
      intro j
      by_cases hji : i = j
      · subst hji
        rw [List.getElem?_set_self (by simpa using hi), List.getElem?_map, hx]
        rfl
      · rw [List.getElem?_set_ne hji]
    show ((xs.map (·.1)).set i x.1).Nodup
    rw [he]
    exact h.nd

theorem set_same {α : Type} {l : List α} {i : Nat} {x : α} (h : l[i]? = some x) : l.set i x = l := by
  apply List.ext_getElem?
  intro j
  by_cases hji : i = j
  · subst hji
    rw [List.getElem?_set_self (List.getElem?_eq_some_iff.1 h).1, h]
  · rw [List.getElem?_set_ne hji]

/-- One neighbour by a tick. -/
def AgeRel (Ps : List (Int × Int)) (j : Nat) (x x' : Nat × Kn) : Prop :=
  (x.2.st = 0 ∧ x' = x) ∨ (x.2.st ≠ 0 ∧ x.2.lf ≠ 1 ∧ x' = (x.1, { x.2 with lf := x.2.lf - 1 })) ∨ (x.2.st ≠ 0 ∧ x.2.lf = 1 ∧ ∃ K p, Ps[j]? = some p ∧ x' = (K, goneK p))

/-- What lives has time left. -/
def LeftOk (xs : List (Nat × Kn)) : Prop := ∀ x ∈ xs, x.2.st ≠ 0 → 1 ≤ x.2.lf ∧ x.2.lf < 4294967296

def AgePost (lo B : Nat) (c : LC) (st dr bd wt nx po re : Int) (L cap : Nat) (xs : List (Nat × Kn)) (Ps : List (Int × Int)) (w : World) (e : Ending) (w' : World) : Prop :=
  (∃ b : Bool, e = .returned (.bool b)) ∧ ∃ xs', LinkOn lo w' B c st dr bd wt nx po re L cap xs' ∧ LFr lo w w' ∧ xs'.length = xs.length ∧ ∀ (j : Nat) (x : Nat × Kn), xs[j]? = some x → ∃ x', xs'[j]? = some x' ∧ AgeRel Ps j x x'

theorem wrap_lf {n : Int} (h1 : 1 ≤ n) (h2 : n < 4294967296) : IntKind.u32.wrap (n - 1) = n - 1 := by
  have e : IntKind.u32.wrap (n - 1) = (n - 1) % 4294967296 := rfl
  rw [e]
  omega

set_option maxHeartbeats 4000000 in
set_option maxRecDepth 20000 in
theorem age_peers (lo : Nat) (w : World) (B : Nat) (c : LC) (st dr bd wt nx po re : Int) (L cap : Nat) (xs : List (Nat × Kn)) (Ps : List (Int × Int)) (hlen : xs.length ≤ 60000) (hp : c.peers = true) (hdm : c.dm = false) (h : LinkOn lo w B c st dr bd wt nx po re L cap xs) (hpo : PeersOwn w c Ps) (hpl : Ps.length = xs.length) (hok : LeftOk xs) :
    Calls Try.prog 75 #[.pointer (some ⟨B, 0, none⟩)] w fun e w' => AgePost lo B c st dr bd wt nx po re L cap xs Ps w e w' := by
  have hp2 : ∀ W, Calls Try.prog 63 #[.agg #[.int .u8 c.ty, .int .u32 c.ro, .int .u32 c.na, .int .u8 c.nb, .int .u32 c.ad, .int .u8 c.op, .int .u16 c.hi, .int .u32 c.dd, .int .u16 c.po, .int .u8 c.pr, .bool c.dm, .bool c.ps, c.pe, .int .u32 c.rm]] W fun e w' => e = .returned (.bool true) ∧ Below W.heap.size W w' := fun W => by have h := peers_any c W; rw [hp] at h; exact h
  have HP := Lib.hid hp2
  have HPt := Lib.hid hp
  have HDm := Lib.hid hdm
  have H := Lib.hid h
  have HPo := Lib.hid hpo
  have HOk := Lib.hid hok
  clear h hpo hok hp2 hp hdm
  go_enter Try.func75, Try.ntmps75
  go_wp2_with fail
  go_loopw [4, 3] (fun x y wr => ∃ (k : Nat) (b : Bool) (xs' : List (Nat × Kn)), k ≤ xs.length ∧ x = .int .i64 k ∧ y = .bool b ∧ LinkOn lo wr B c st dr bd wt nx po re L cap xs' ∧ LFr lo w wr ∧ xs'.length = xs.length ∧
    (∀ (j : Nat) (x : Nat × Kn), j < k → xs[j]? = some x → ∃ x', xs'[j]? = some x' ∧ AgeRel Ps j x x') ∧ (∀ (j : Nat), k ≤ j → xs'[j]? = xs[j]?)) (fun x _ _ => xs.length - (intOf x).toNat)
  case atStart => exact ⟨0, false, xs, Nat.zero_le _, rfl, rfl, H.out, LFr.refl _ _, rfl, fun j x hj => by omega, fun j _ => rfl⟩
  case round =>
    obtain ⟨k, b, xs', hk, rfl, rfl, hl, hf, hsl, ha, hb⟩ := hrel
    have HL := Lib.hid hl
    have HF := Lib.hid hf
    have HA := Lib.hid ha
    have HBb := Lib.hid hb
    have HSl := Lib.hid hsl
    have b22 : wr.cell? ⟨B, 22, none⟩ = some (.slice (some ⟨L, 0, none⟩) xs.length cap) := (hl.b.cell 22).trans (by rw [← hsl]; rfl)
    by_cases hlt : k < xs.length
    · obtain ⟨x, hx⟩ : ∃ x, xs[k]? = some x := ⟨_, List.getElem?_eq_getElem hlt⟩
      have hx' : xs'[k]? = some x := (hb k (Nat.le_refl _)).trans hx
      have kx := (hl.k x (List.mem_of_getElem? hx')).1
      have KX := Lib.hid kx
      have HX := Lib.hid hx
      have HX' := Lib.hid hx'
      have r1 : wr.cell? ⟨L, k, none⟩ = some (.pointer (some ⟨x.1, 0, none⟩)) := hl.r k x hx'
      have x2 : wr.cell? ⟨x.1, 2, none⟩ = some (.int .u8 x.2.st) := kx.cell 2
      have x7 : wr.cell? ⟨x.1, 7, none⟩ = some (.int .u32 x.2.lf) := kx.cell 7
      have fx := kx.frozen 7
      have hlx := kx.lt
      have hstep : ∀ (wn : World) (xn : List (Nat × Kn)) (x' : Nat × Kn), xn = xs'.set k x' → AgeRel Ps k x x' → LinkOn lo wn B c st dr bd wt nx po re L cap xn → LFr lo w wn → ∃ (xs'' : List (Nat × Kn)), LinkOn lo wn B c st dr bd wt nx po re L cap xs'' ∧ LFr lo w wn ∧ xs''.length = xs.length ∧
          (∀ (j : Nat) (x : Nat × Kn), j < k + 1 → xs[j]? = some x → ∃ x', xs''[j]? = some x' ∧ AgeRel Ps j x x') ∧ (∀ (j : Nat), k + 1 ≤ j → xs''[j]? = xs[j]?) := by
        rintro wn xn x' rfl hr hl2 hf2
        refine ⟨_, hl2, hf2, by rw [List.length_set]; exact hsl, fun j y hj hy => ?_, fun j hj => ?_⟩
        · by_cases hjk : k = j
          · subst hjk
            rw [hx] at hy
            obtain rfl : x = y := Option.some.inj hy
            exact ⟨x', List.getElem?_set_self (by omega), hr⟩
          · rw [List.getElem?_set_ne hjk]
            exact ha j y (by omega) hy
        · rw [List.getElem?_set_ne (by omega)]
          exact hb j (by omega)
      have HStep := Lib.hid hstep
      clear hstep kx hl hf ha hb hsl hx hx'
      by_cases hst : x.2.st = 0
      · have e_st : (x.2.st == 0) = true := by simpa using hst
        clear hst
        go_wp2_with fail
        go_roundw
        case rel =>
          obtain ⟨xs'', h1, h2, h3, h4, h5⟩ := HStep.out wr (xs'.set k x) x rfl (.inl ⟨by simpa using e_st, rfl⟩) (by rw [set_same HX'.out]; exact HL.out) HF.out
          exact ⟨k + 1, b, xs'', by omega, by simp, rfl, h1, h2, h3, h4, h5⟩
        case measure => simp [intOf]; omega
      · have e_st : (x.2.st == 0) = false := by simpa using hst
        obtain ⟨hl1, hl2⟩ := HOk.out x (List.mem_of_getElem? HX.out) hst
        have hwl := wrap_lf hl1 hl2
        have HSt := Lib.hid hst
        clear hst
        by_cases hlf : x.2.lf = 1
        · have n_gt : ¬ 0 < x.2.lf - 1 := by omega
          have HLf := Lib.hid hlf
          clear hlf hl1 hl2
          have hks := HL.out.kset HX'.out { x.2 with lf := x.2.lf - 1 } (w' := wr.setCell ⟨x.1, 7, none⟩ (.int .u32 (x.2.lf - 1))) ((Frame.refl (fun j => j = x.1) wr).setB 7 _) (KX.out.set_ 7 _)
          have HKs := Lib.hid hks
          clear hks
          obtain ⟨p, hpk⟩ : ∃ p, Ps[k]? = some p := ⟨_, List.getElem?_eq_getElem (by omega)⟩
          have HPk := Lib.hid hpk
          clear hpk
          go_wp2_with (go_at_call 106; refine (still_no _ B x.1 c st dr bd wt nx po re _ HDm.out HL.out.b).mono ?_; rintro e w' ⟨rfl, rfl⟩)
          all_goals
            refine (lose_peers lo _ B c st dr bd wt nx po re L cap _ Ps k p HPt.out HKs.out.1 (HPo.out.fr (HF.out.trans HKs.out.2)) (by rw [List.length_set, HSl.out]; exact hlt) HPk.out).mono ?_
            rintro e w5 ⟨rfl, K, hl5, hf5⟩
            rw [List.set_set] at hl5
            have HL5 := Lib.hid hl5
            have HF5 := Lib.hid (HF.out.trans (HKs.out.2.trans hf5))
            have e1 : w5.cell? ⟨B, 1, none⟩ = some (.int .u8 c.ty) := hl5.b.cell 1
            have e2 : w5.cell? ⟨B, 2, none⟩ = some (.int .u32 c.ro) := hl5.b.cell 2
            have e3 : w5.cell? ⟨B, 3, none⟩ = some (.int .u32 c.na) := hl5.b.cell 3
            have e4 : w5.cell? ⟨B, 4, none⟩ = some (.int .u8 c.nb) := hl5.b.cell 4
            have e5 : w5.cell? ⟨B, 5, none⟩ = some (.int .u32 c.ad) := hl5.b.cell 5
            have e6 : w5.cell? ⟨B, 6, none⟩ = some (.int .u8 c.op) := hl5.b.cell 6
            have e7 : w5.cell? ⟨B, 7, none⟩ = some (.int .u16 c.hi) := hl5.b.cell 7
            have e8 : w5.cell? ⟨B, 8, none⟩ = some (.int .u32 c.dd) := hl5.b.cell 8
            have e9 : w5.cell? ⟨B, 9, none⟩ = some (.int .u16 c.po) := hl5.b.cell 9
            have e10 : w5.cell? ⟨B, 10, none⟩ = some (.int .u8 c.pr) := hl5.b.cell 10
            have e11 : w5.cell? ⟨B, 11, none⟩ = some (.bool c.dm) := hl5.b.cell 11
            have e12 : w5.cell? ⟨B, 12, none⟩ = some (.bool c.ps) := hl5.b.cell 12
            have e13 : w5.cell? ⟨B, 13, none⟩ = some (c.pe) := hl5.b.cell 13
            have e14 : w5.cell? ⟨B, 14, none⟩ = some (.int .u32 c.rm) := hl5.b.cell 14
            have hl0 : B < w5.heap.size := hl5.b.lt
            clear hl5 hf5
            go_wp2_with fail
            refine (HP.out _).mono ?_
            rintro e w6 ⟨rfl, hb6⟩
            have HL6 := Lib.hid (HL5.out.below hb6)
            have HF6 := Lib.hid (HF5.out.trans (LFr.of_below hb6))
            clear hb6 e1 e2 e3 e4 e5 e6 e7 e8 e9 e10 e11 e12 e13 e14 hl0
            go_wp2_with fail
            go_roundw
            case rel =>
              obtain ⟨xs'', h1, h2, h3, h4, h5⟩ := HStep.out w6 _ (K, goneK p) rfl (.inr (.inr ⟨HSt.out, HLf.out, K, p, HPk.out, rfl⟩)) HL6.out HF6.out
              exact ⟨k + 1, _, xs'', by omega, by simp, rfl, h1, h2, h3, h4, h5⟩
            case measure => simp [intOf]; omega
        · have p_gt : 0 < x.2.lf - 1 := by omega
          have HLf := Lib.hid hlf
          clear hlf hl1 hl2
          have hks := HL.out.kset HX'.out { x.2 with lf := x.2.lf - 1 } (w' := wr.setCell ⟨x.1, 7, none⟩ (.int .u32 (x.2.lf - 1))) ((Frame.refl (fun j => j = x.1) wr).setB 7 _) (KX.out.set_ 7 _)
          have HKs := Lib.hid hks
          clear hks
          go_wp2_with (go_at_call 106; refine (still_no _ B x.1 c st dr bd wt nx po re _ HDm.out HL.out.b).mono ?_; rintro e w' ⟨rfl, rfl⟩)
          go_roundw
          case rel =>
            obtain ⟨xs'', h1, h2, h3, h4, h5⟩ := HStep.out _ _ (x.1, { x.2 with lf := x.2.lf - 1 }) rfl (.inr (.inl ⟨HSt.out, HLf.out, rfl⟩)) HKs.out.1 (HF.out.trans HKs.out.2)
            exact ⟨k + 1, b, xs'', by omega, by simp, rfl, h1, h2, h3, h4, h5⟩
          case measure => simp [intOf]; omega
    · obtain rfl : k = xs.length := by omega
      go_wp2_with fail
      go_ret
      refine ⟨⟨b, rfl⟩, xs', HL.out, HF.out, HSl.out, fun j x hj => HA.out j x (List.getElem?_eq_some_iff.1 hj).1 hj⟩
end Go.Proofs.Ytgbmhijgpdgdbaa

namespace Go.Proofs.Ytgbmhijgpdgdbaa
open Go.RowKit

def AgeOnePost (lo B : Nat) (c : LC) (st dr bd wt nx po re : Int) (L cap : Nat) (x : Nat × Kn) (w : World) (e : Ending) (w' : World) : Prop :=
  (∃ b : Bool, e = .returned (.bool b)) ∧ LFr lo w w' ∧ ((x.2.lf ≠ 1 ∧ LinkOn lo w' B c st dr bd wt nx po re L cap [(x.1, { x.2 with lf := x.2.lf - 1 })]) ∨ (x.2.lf = 1 ∧ LinkOn lo w' B c st dr bd wt nx po re L 0 []))

set_option maxHeartbeats 4000000 in
set_option maxRecDepth 20000 in
theorem age_one (lo : Nat) (w : World) (B : Nat) (c : LC) (st dr bd wt nx po re : Int) (L cap : Nat) (x : Nat × Kn) (hp : c.peers = false) (hdm : c.dm = false) (h : LinkOn lo w B c st dr bd wt nx po re L cap [x]) (hst : x.2.st ≠ 0) (hl1 : 1 ≤ x.2.lf) (hl2 : x.2.lf < 4294967296) :
    Calls Try.prog 75 #[.pointer (some ⟨B, 0, none⟩)] w fun e w' => AgeOnePost lo B c st dr bd wt nx po re L cap x w e w' := by
  have hp2 : ∀ W, Calls Try.prog 63 #[.agg #[.int .u8 c.ty, .int .u32 c.ro, .int .u32 c.na, .int .u8 c.nb, .int .u32 c.ad, .int .u8 c.op, .int .u16 c.hi, .int .u32 c.dd, .int .u16 c.po, .int .u8 c.pr, .bool c.dm, .bool c.ps, c.pe, .int .u32 c.rm]] W fun e w' => e = .returned (.bool false) ∧ Below W.heap.size W w' := fun W => by have h := peers_any c W; rw [hp] at h; exact h
  have HP := Lib.hid hp2
  have HPf := Lib.hid hp
  have HDm := Lib.hid hdm
  have HL := Lib.hid h
  have kx := (h.k x (by simp)).1
  have KX := Lib.hid kx
  have b22 : w.cell? ⟨B, 22, none⟩ = some (.slice (some ⟨L, 0, none⟩) 1 cap) := h.b.cell 22
  have r1 : w.cell? ⟨L, 0, none⟩ = some (.pointer (some ⟨x.1, 0, none⟩)) := h.r 0 x rfl
  have x2 : w.cell? ⟨x.1, 2, none⟩ = some (.int .u8 x.2.st) := kx.cell 2
  have x7 : w.cell? ⟨x.1, 7, none⟩ = some (.int .u32 x.2.lf) := kx.cell 7
  have fx := kx.frozen 7
  have hlx := kx.lt
  have e_st : (x.2.st == 0) = false := by simpa using hst
  have hwl := wrap_lf hl1 hl2
  have hks := h.kset (i := 0) rfl { x.2 with lf := x.2.lf - 1 } (w' := w.setCell ⟨x.1, 7, none⟩ (.int .u32 (x.2.lf - 1))) ((Frame.refl (fun j => j = x.1) w).setB 7 _) (kx.set_ 7 _)
  have HKs := Lib.hid hks
  clear hks h kx hp2 hp hdm hst
  by_cases hlf : x.2.lf = 1
  · have n_gt : ¬ 0 < x.2.lf - 1 := by omega
    have HLf := Lib.hid hlf
    clear hlf hl1 hl2
    go_enter Try.func75, Try.ntmps75
    go_wp2_with fail
    refine wp_loop_rounds 2 ?_
    rw [rounds_succ]
    go_wp2_with (go_at_call 106; refine (still_no _ B x.1 c st dr bd wt nx po re _ HDm.out HL.out.b).mono ?_; rintro e w' ⟨rfl, rfl⟩)
    all_goals
      refine (lose_one lo _ B c st dr bd wt nx po re L cap _ HPf.out HKs.out.1).mono ?_
      rintro e w5 ⟨rfl, hl5, hf5⟩
      have HL5 := Lib.hid hl5
      have HF5 := Lib.hid (HKs.out.2.trans hf5)
      have e1 : w5.cell? ⟨B, 1, none⟩ = some (.int .u8 c.ty) := hl5.b.cell 1
      have e2 : w5.cell? ⟨B, 2, none⟩ = some (.int .u32 c.ro) := hl5.b.cell 2
      have e3 : w5.cell? ⟨B, 3, none⟩ = some (.int .u32 c.na) := hl5.b.cell 3
      have e4 : w5.cell? ⟨B, 4, none⟩ = some (.int .u8 c.nb) := hl5.b.cell 4
      have e5 : w5.cell? ⟨B, 5, none⟩ = some (.int .u32 c.ad) := hl5.b.cell 5
      have e6 : w5.cell? ⟨B, 6, none⟩ = some (.int .u8 c.op) := hl5.b.cell 6
      have e7 : w5.cell? ⟨B, 7, none⟩ = some (.int .u16 c.hi) := hl5.b.cell 7
      have e8 : w5.cell? ⟨B, 8, none⟩ = some (.int .u32 c.dd) := hl5.b.cell 8
      have e9 : w5.cell? ⟨B, 9, none⟩ = some (.int .u16 c.po) := hl5.b.cell 9
      have e10 : w5.cell? ⟨B, 10, none⟩ = some (.int .u8 c.pr) := hl5.b.cell 10
      have e11 : w5.cell? ⟨B, 11, none⟩ = some (.bool c.dm) := hl5.b.cell 11
      have e12 : w5.cell? ⟨B, 12, none⟩ = some (.bool c.ps) := hl5.b.cell 12
      have e13 : w5.cell? ⟨B, 13, none⟩ = some (c.pe) := hl5.b.cell 13
      have e14 : w5.cell? ⟨B, 14, none⟩ = some (.int .u32 c.rm) := hl5.b.cell 14
      have hl0 : B < w5.heap.size := hl5.b.lt
      clear hl5 hf5
      go_wp2_with fail
      refine (HP.out _).mono ?_
      rintro e w6 ⟨rfl, hb6⟩
      have HL6 := Lib.hid (HL5.out.below hb6)
      have HF6 := Lib.hid (HF5.out.trans (LFr.of_below hb6))
      have b22 : w6.cell? ⟨B, 22, none⟩ = some (.slice (some ⟨L, 0, none⟩) 0 0) := HL6.out.b.cell 22
      clear hb6 e1 e2 e3 e4 e5 e6 e7 e8 e9 e10 e11 e12 e13 e14 hl0
      go_wp2_with fail
      rw [rounds_succ]
      go_wp2_with fail
      go_ret
      exact ⟨⟨_, rfl⟩, HF6.out, .inr ⟨HLf.out, HL6.out⟩⟩
  · have p_gt : 0 < x.2.lf - 1 := by omega
    have HLf := Lib.hid hlf
    clear hlf hl1 hl2
    go_enter Try.func75, Try.ntmps75
    go_wp2_with fail
    refine wp_loop_rounds 2 ?_
    rw [rounds_succ]
    go_wp2_with (go_at_call 106; refine (still_no _ B x.1 c st dr bd wt nx po re _ HDm.out HL.out.b).mono ?_; rintro e w' ⟨rfl, rfl⟩)
    obtain ⟨W5, hW5⟩ : ∃ W5, W5 = w.setCell ⟨x.1, 7, none⟩ (.int .u32 (x.2.lf - 1)) := ⟨_, rfl⟩
    rw [← hW5] at HKs
    rw [← hW5]
    clear hW5 b22
    have b22 : W5.cell? ⟨B, 22, none⟩ = some (.slice (some ⟨L, 0, none⟩) 1 cap) := HKs.out.1.b.cell 22
    rw [rounds_succ]
    go_wp2_with fail
    go_ret
    exact ⟨⟨_, rfl⟩, HKs.out.2, .inl ⟨HLf.out, HKs.out.1⟩⟩
end Go.Proofs.Ytgbmhijgpdgdbaa

namespace Go.Proofs.Ytgbmhijgpdgdbaa
open Go.RowKit

section
variable {lo : Nat} {w w' w'' : World} {B : Nat} {c : LC} {st dr bd wt nx po re : Int} {L cap : Nat} {xs : List (Nat × Kn)}

theorem round_on (h : LinkOn lo w B c st dr bd wt nx po re L cap xs) (hdm : c.dm = false) (hn0 : 0 ≤ c.nb) (hn1 : c.nb ≤ 32) (hlen : xs.length ≤ 60000) (pb : Bool) :
    Calls Try.prog 69 #[.pointer (some ⟨B, 0, none⟩), .bool pb] w fun e w' => RowPost w e w' := by
  cases hp : c.peers with
  | true => exact round_peers_on w B c st dr bd wt nx po re L cap xs hn0 hn1 hdm pb hp (by omega) h.b h.row
  | false =>
    by_cases h7 : c.ty = 4
    · cases pb with
      | true => exact rnp_e w B c st dr bd wt nx po re hdm L cap xs (by omega) h.row hp h7 h.b
      | false =>
        by_cases h8 : re = 0
        · exact rnp_c w B c st dr bd wt nx po re hdm L cap xs (by omega) h.row hp h7 h8 h.b
        · exact rnp_b w B c st dr bd wt nx po re hn0 hn1 hdm L cap xs (by omega) h.row hp h7 h8 h.b
    · cases pb with
      | true => exact rnp_d w B c st dr bd wt nx po re hdm L cap xs (by omega) h.row hp h7 h.b
      | false => exact rnp_a w B c st dr bd wt nx po re hn0 hn1 hdm L cap xs (by omega) h.row hp h7 h.b

theorem LFr.grown_new {row : Option Nat} (h : LFr lo w w') (hg : w'.grownBy w'' row) (hr : ∀ k, row = some k → w.heap.size ≤ k) : LFr lo w w'' :=
  Frame.trans' h (Frame.of_grown (S := fun k => row = some k) hg (fun k e _ => e)) (fun i hi e => by have := hr i e; omega)

theorem LinkOn.grown {row : Option Nat} {t : TypeId} (h : LinkOn lo w B c st dr bd wt nx po re L cap xs) (hg : w.grownBy w' row) (hr : ∀ k, row = some k → ∃ cs, Blk w k t cs) (h1 : t ≠ 119) (h2 : t ≠ 137) (h3 : t ≠ 139) : LinkOn lo w' B c st dr bd wt nx po re L cap xs := by
  have hblk : ∀ {g : Nat} {u : TypeId} {cs : Array Value}, Blk w g u cs → u ≠ t → Blk w' g u cs := fun {g u cs} hb hu => hb.grown hg (fun e => by
    obtain ⟨cs', hc⟩ := hr g e.symm
    exact absurd rfl (hb.ne_ hc hu))
  obtain ⟨cur, hc⟩ := h.lc
  have hc' := hblk hc (Ne.symm h2)
  exact ⟨h.loB, h.loL, hblk h.b (Ne.symm h1), ⟨cur, hc'⟩, fun j x hj => ((hc'.cell j).trans (hc.cell j).symm).trans (h.r j x hj), fun x hx => ⟨hblk (h.k x hx).1 (Ne.symm h3), (h.k x hx).2⟩, h.nd⟩

theorem mapK_id (xs : List (Nat × Kn)) : mapK (fun x => x.2) xs = xs := by simp [mapK]
theorem mapK_len (ks : Nat × Kn → Kn) (xs : List (Nat × Kn)) : (mapK ks xs).length = xs.length := List.length_map ..
end

/-- What a tick leaves. -/
def TickPost (lo B : Nat) (c : LC) (re : Int) (R : Nat → Nat → List (Nat × Kn) → Prop) (w : World) (e : Ending) (w' : World) : Prop :=
  (∃ a n k, e = .returned (.slice a n k)) ∧ LFr lo w w' ∧ ∃ st dr bd wt nx po L cap xs ks, R L cap xs ∧ ElKn c xs ks ∧ 2 ≤ (st : Int) ∧ LinkOn lo w' B c st dr bd wt nx po re L cap (mapK ks xs)

def TickSt (lo B : Nat) (c : LC) (nx po re : Int) (L cap : Nat) (xs : List (Nat × Kn)) (w w' : World) : Prop :=
  ∃ st dr bd wt ks, ElKn c xs ks ∧ 2 ≤ (st : Int) ∧ LinkOn lo w' B c st dr bd wt nx po re L cap (mapK ks xs) ∧ LFr lo w w'

theorem elState_two (c : LC) (o : Int × Int) : 2 ≤ elState c o := by
  unfold elState
  split
  · omega
  · split <;> omega

set_option maxHeartbeats 4000000 in
set_option maxRecDepth 20000 in
theorem tick_on (lo : Nat) (w : World) (B : Nat) (c : LC) (st dr bd wt nx po re : Int) (L0 cap0 : Nat) (xs0 : List (Nat × Kn)) (R : Nat → Nat → List (Nat × Kn) → Prop) (h2 : 2 ≤ st) (hdm : c.dm = false) (hn0 : 0 ≤ c.nb) (hn1 : c.nb ≤ 32)
    (h : LinkOn lo w B c st dr bd wt nx po re L0 cap0 xs0) (hR : ∀ L cap xs, R L cap xs → xs.length ≤ 60000)
    (hage : Calls Try.prog 75 #[.pointer (some ⟨B, 0, none⟩)] w fun e w' => (∃ b : Bool, e = .returned (.bool b)) ∧ LFr lo w w' ∧ ∃ L cap xs, R L cap xs ∧ LinkOn lo w' B c st dr bd wt nx po re L cap xs) :
    Calls Try.prog 36 #[.pointer (some ⟨B, 0, none⟩)] w fun e w' => TickPost lo B c re R w e w' := by
  obtain ⟨i0, hi, hz0, hz1, hz2⟩ := info_parts send_info
  have H := Lib.hid h
  have HR := Lib.hid hR
  have HAge := Lib.hid hage
  have HDm := Lib.hid hdm
  have H2 := Lib.hid h2
  have c15 : w.cell? ⟨B, 15, none⟩ = some (.int .u8 st) := h.b.cell 15
  have n_st : ¬ st ≤ 1 := by omega
  clear h hR hage hdm h2
  go_enter Try.func36, Try.ntmps36
  go_upto_region 3 with (go_at_call 67; refine (none_lk _ _ _ H.out.b rfl).mono ?_; rintro e w' ⟨rfl, rfl⟩)
  clear c15
  go_wp2_with fail
  refine HAge.out.mono ?_
  rintro e w1 ⟨⟨b, rfl⟩, hf1, L, cap, xs, hRx, hl1⟩
  have HF1 := Lib.hid hf1
  have HL1 := Lib.hid hl1
  have HRx := Lib.hid hRx
  have hxl : xs.length ≤ 60000 := HR.out _ _ _ hRx
  have d15 : w1.cell? ⟨B, 15, none⟩ = some (.int .u8 st) := hl1.b.cell 15
  have d18 : w1.cell? ⟨B, 18, none⟩ = some (.int .u32 wt) := hl1.b.cell 18
  have f18 := hl1.b.frozen 18
  have hlB : B < w1.heap.size := hl1.b.lt
  clear hf1 hl1 hRx
  go_upto_if 20 with fail
  go_cut [] (fun wx => TickSt lo B c nx po re L cap xs w wx)
  case first =>
    have hid : ElKn c xs (fun x => x.2) := fun x hx => .inl rfl
    rcases Bool.eq_false_or_eq_true (st == 2) with s2 | s2
    · have hst2 : st = 2 := by simpa using s2
      have HS2 := Lib.hid hst2
      clear hst2
      have htw := HL1.out.turn (w' := w1.setCell ⟨B, 18, none⟩ (.int .u32 ((wt - 1) % 4294967296))) (st' := st) (dr' := dr) (bd' := bd) (wt' := (wt - 1) % 4294967296) (nx' := nx) (po' := po) (re' := re) ((Frame.refl (fun j => j = B) w1).setB 18 _) (HL1.out.b.set_ 18 _)
      have HTW := Lib.hid htw
      clear htw
      rcases Bool.eq_false_or_eq_true ((wt - 1) % 4294967296 == 0) with s3 | s3
      · go_wp2_with fail
        refine (elect_on HTW.out.1 hxl).mono ?_
        rintro e w2 ⟨rfl, ks, hks, hl2, hf2⟩
        go_wp2_with fail
        go_meet
        exact ⟨_, _, _, _, ks, hks, elState_two _ _, hl2, HF1.out.trans (HTW.out.2.trans hf2)⟩
      · go_wp2_with fail
        go_meet
        exact ⟨st, dr, bd, _, fun x => x.2, hid, H2.out, by rw [mapK_id]; exact HTW.out.1, HF1.out.trans HTW.out.2⟩
    · cases b with
      | false =>
        go_wp2_with fail
        go_meet
        exact ⟨st, dr, bd, wt, fun x => x.2, hid, H2.out, by rw [mapK_id]; exact HL1.out, HF1.out⟩
      | true =>
        by_cases s4 : 4 ≤ st
        · go_wp2_with fail
          refine (elect_on HL1.out hxl).mono ?_
          rintro e w2 ⟨rfl, ks, hks, hl2, hf2⟩
          go_wp2_with fail
          go_meet
          exact ⟨_, _, _, _, ks, hks, elState_two _ _, hl2, HF1.out.trans hf2⟩
        · go_wp2_with fail
          go_meet
          exact ⟨st, dr, bd, wt, fun x => x.2, hid, H2.out, by rw [mapK_id]; exact HL1.out, HF1.out⟩
  obtain ⟨st1, dr1, bd1, wt1, ks, hks, hst1, hl2, hf2⟩ := hcut
  have HL2 := Lib.hid hl2
  have HF2 := Lib.hid hf2
  have HKs := Lib.hid hks
  have HSt1 := Lib.hid hst1
  have hml : (mapK ks xs).length ≤ 60000 := by rw [mapK_len]; exact hxl
  have d19 : wc.cell? ⟨B, 19, none⟩ = some (.int .u32 nx) := hl2.b.cell 19
  have f19 := hl2.b.frozen 19
  have hlc : B < wc.heap.size := hl2.b.lt
  clear hl2 hf2 hks hst1 d15 d18 f18 hlB
  go_upto_if 56 with fail
  have htw := HL2.out.turn (w' := wc.setCell ⟨B, 19, none⟩ (.int .u32 ((nx - 1) % 4294967296))) (st' := st1) (dr' := dr1) (bd' := bd1) (wt' := wt1) (nx' := (nx - 1) % 4294967296) (po' := po) (re' := re) ((Frame.refl (fun j => j = B) wc).setB 19 _) (HL2.out.b.set_ 19 _)
  obtain ⟨wd, hwd⟩ : ∃ wd, wd = wc.setCell ⟨B, 19, none⟩ (.int .u32 ((nx - 1) % 4294967296)) := ⟨_, rfl⟩
  rw [← hwd] at htw
  rw [← hwd]
  have HL3 := Lib.hid htw.1
  have HF3 := Lib.hid (HF2.out.trans htw.2)
  have d7 : wd.cell? ⟨B, 7, none⟩ = some (.int .u16 c.hi) := htw.1.b.cell 7
  have d19' : wd.cell? ⟨B, 19, none⟩ = some (.int .u32 ((nx - 1) % 4294967296)) := htw.1.b.cell 19
  have f19' := htw.1.b.frozen 19
  have hld : B < wd.heap.size := htw.1.b.lt
  clear hwd htw d19 f19 hlc
  go_cut [4] (fun p4 wx => ∃ nx2 a n k rows, p4 = .slice a n k ∧ wx.ownsRow wd.heap.size 105 9 (.slice a n k) n rows ∧ (∀ u ∈ rows, u.oneCell' = true) ∧ n ≤ 100000 ∧ LinkOn lo wx B c st1 dr1 bd1 wt1 nx2 po re L cap (mapK ks xs) ∧ LFr lo w wx ∧ wd.heap.size ≤ wx.heap.size)
  case first =>
    rcases Bool.eq_false_or_eq_true ((nx - 1) % 4294967296 == 0) with s3 | s3
    · go_upto_region 14 with fail
      have htw := HL3.out.turn (w' := wd.setCell ⟨B, 19, none⟩ (.int .u32 (c.hi % 4294967296))) (st' := st1) (dr' := dr1) (bd' := bd1) (wt' := wt1) (nx' := c.hi % 4294967296) (po' := po) (re' := re) ((Frame.refl (fun j => j = B) wd).setB 19 _) (HL3.out.b.set_ 19 _)
      obtain ⟨we, hwe⟩ : ∃ we, we = wd.setCell ⟨B, 19, none⟩ (.int .u32 (c.hi % 4294967296)) := ⟨_, rfl⟩
      have hsz : we.heap.size = wd.heap.size := by rw [hwe]; simp [World.setCell]
      rw [← hwe] at htw
      rw [← hwe]
      have HL4 := Lib.hid htw.1
      have HF4 := Lib.hid (HF3.out.trans htw.2)
      have HSZ := Lib.hid hsz
      clear hwe htw hsz d7 d19' f19' hld
      go_wp2_with fail
      refine (round_on HL4.out HDm.out hn0 hn1 hml false).mono ?_
      rintro e w5 ⟨a, n, k, rows, rfl, ho, hone, hn, hb5⟩
      have HO := Lib.hid ho
      have HOne := Lib.hid hone
      have HB5 := Lib.hid hb5
      clear ho hone hb5
      go_wp2_with fail
      go_meet
      case rel => exact ⟨_, a, n, k, rows, rfl, ownsRow_lower HO.out (by have := HSZ.out; omega), HOne.out, hn, HL4.out.below HB5.out, HF4.out.trans (LFr.of_below HB5.out), by have := HSZ.out; have := HB5.out.size; omega⟩
    · go_wp2_with fail
      go_meet
      case rel => exact ⟨_, none, 0, 0, [], rfl, World.ownsRow_nil _ _ _ _, by simp, by omega, HL3.out, HF3.out, Nat.le_refl _⟩
  obtain ⟨nx2, a, n, k, rows, rfl, ho, hone, hn, hl4, hf4, hsz⟩ := hcut
  have HO := Lib.hid ho
  have HOne := Lib.hid hone
  have HL4 := Lib.hid hl4
  have HF4 := Lib.hid hf4
  have g9 : wc.cell? ⟨B, 9, none⟩ = some (.int .u16 c.po) := hl4.b.cell 9
  have g20 : wc.cell? ⟨B, 20, none⟩ = some (.int .u32 po) := hl4.b.cell 20
  have fg := hl4.b.frozen 20
  have hlg : B < wc.heap.size := hl4.b.lt
  clear ho hone hl4 hf4 d7 d19' f19' hld
  have HSz := Lib.hid hsz
  clear hsz
  rcases Bool.eq_false_or_eq_true (po == 0) with s5 | s5
  · go_wp2_with fail
    go_ret
    exact ⟨⟨a, n, k, rfl⟩, HF4.out, st1, dr1, bd1, wt1, nx2, po, L, cap, xs, ks, HRx.out, HKs.out, HSt1.out, HL4.out⟩
  · have htw := HL4.out.turn (w' := wc.setCell ⟨B, 20, none⟩ (.int .u32 ((po - 1) % 4294967296))) (st' := st1) (dr' := dr1) (bd' := bd1) (wt' := wt1) (nx' := nx2) (po' := (po - 1) % 4294967296) (re' := re) ((Frame.refl (fun j => j = B) wc).setB 20 _) (HL4.out.b.set_ 20 _)
    have HTW := Lib.hid htw
    clear htw
    rcases Bool.eq_false_or_eq_true ((po - 1) % 4294967296 == 0) with s6 | s6
    · go_upto_region 19 with fail
      obtain ⟨we, hwe⟩ : ∃ we, we = wc.setCell ⟨B, 20, none⟩ (.int .u32 ((po - 1) % 4294967296)) := ⟨_, rfl⟩
      have hsz : we.heap.size = wc.heap.size := by rw [hwe]; simp [World.setCell]
      have hoe : we.ownsRow wd.heap.size 105 9 (.slice a n k) n rows := by
        rw [hwe]
        exact ((Frame.refl (fun j => j = B) wc).setB 20 _).own HO.out (fun g hg e => by
          obtain ⟨_, cs, h3⟩ := own_cells HO.out g hg
          exact absurd e (Ne.symm (HL4.out.b.ne_ (t' := 105) (cs' := cs) h3 (by decide))))
      rw [← hwe] at HTW
      rw [← hwe]
      have HSZ := Lib.hid hsz
      have HOE := Lib.hid hoe
      clear hwe hsz hoe g9 g20 fg hlg
      have g9 : we.cell? ⟨B, 9, none⟩ = some (.int .u16 c.po) := HTW.out.1.b.cell 9
      have g20 : we.cell? ⟨B, 20, none⟩ = some (.int .u32 ((po - 1) % 4294967296)) := HTW.out.1.b.cell 20
      have fg := HTW.out.1.b.frozen 20
      have hlg : B < we.heap.size := HTW.out.1.b.lt
      go_upto_region 20 with fail
      have htw2 := HTW.out.1.turn (w' := we.setCell ⟨B, 20, none⟩ (.int .u32 (c.po % 4294967296))) (st' := st1) (dr' := dr1) (bd' := bd1) (wt' := wt1) (nx' := nx2) (po' := c.po % 4294967296) (re' := re) ((Frame.refl (fun j => j = B) we).setB 20 _) (HTW.out.1.b.set_ 20 _)
      obtain ⟨wf, hwf⟩ : ∃ wf, wf = we.setCell ⟨B, 20, none⟩ (.int .u32 (c.po % 4294967296)) := ⟨_, rfl⟩
      have hsz : wf.heap.size = we.heap.size := by rw [hwf]; simp [World.setCell]
      have hof : wf.ownsRow wd.heap.size 105 9 (.slice a n k) n rows := by
        rw [hwf]
        exact ((Frame.refl (fun j => j = B) we).setB 20 _).own HOE.out (fun g hg e => by
          obtain ⟨_, cs, h3⟩ := own_cells HOE.out g hg
          exact absurd e (Ne.symm (HTW.out.1.b.ne_ (t' := 105) (cs' := cs) h3 (by decide))))
      rw [← hwf] at htw2
      rw [← hwf]
      have HL5 := Lib.hid htw2.1
      have HF5 := Lib.hid (HF4.out.trans (HTW.out.2.trans htw2.2))
      have HSZ2 := Lib.hid hsz
      have HOF := Lib.hid hof
      clear hwf htw2 hsz hof g9 g20 fg hlg
      go_wp2_with fail
      refine (round_on HL5.out HDm.out hn0 hn1 hml true).mono ?_
      rintro e w6 ⟨a2, n2, k2, rows2, rfl, ho2, hone2, hn2, hb6⟩
      have HL6 := Lib.hid (HL5.out.below hb6)
      have HF6 := Lib.hid (HF5.out.trans (LFr.of_below hb6))
      have HO6 := Lib.hid ((Frame.of_below (S := fun _ => False) hb6).own HOF.out (fun _ _ e => e))
      have HRd := Lib.hid (Reads.of_own ho2)
      have HOne2 := Lib.hid hone2
      have hw3 : w.heap.size ≤ wd.heap.size := HF3.out.size
      have hw6 : wd.heap.size ≤ w6.heap.size := by have := HSz.out; have := HSZ.out; have := HSZ2.out; have := hb6.size; omega
      clear hb6 ho2 hone2
      go_wp2_with (at_builtin; refine wpList_append_any _ rfl (.tmp 95) (.tmp 97) _ rfl wd.heap.size 105 i0 _ 9 56 Try.underlying85 hi hz0 hz1 hz2 rfl (by omega) (.slice a n k) n rows rfl HO6.out _ a2 n2 k2 rows2 rfl HRd.out HOne2.out (by unfold maxLen; omega) (by omega) (by omega) ?_; intro v7 w7 ho7 hg7 _; have HO7 := Lib.hid ho7; have HG7 := Lib.hid hg7; clear ho7 hg7; obtain ⟨va, vm, rfl⟩ := own_slice HO7.out)
      go_ret
      have HL7 := HL6.out.grown HG7.out (fun g e => by
        obtain ⟨_, cs, h3⟩ := own_cells HO6.out g e
        exact ⟨cs, h3⟩) (by decide) (by decide) (by decide)
      have HF7 := HF6.out.grown_new HG7.out (fun g e => by have := (own_cells HO6.out g e).1; omega)
      exact ⟨⟨_, _, _, rfl⟩, HF7, st1, dr1, bd1, wt1, nx2, _, L, cap, xs, ks, HRx.out, HKs.out, HSt1.out, HL7⟩
    · go_wp2_with fail
      go_ret
      exact ⟨⟨a, n, k, rfl⟩, HF4.out.trans HTW.out.2, st1, dr1, bd1, wt1, nx2, _, L, cap, xs, ks, HRx.out, HKs.out, HSt1.out, HTW.out.1⟩
end Go.Proofs.Ytgbmhijgpdgdbaa
