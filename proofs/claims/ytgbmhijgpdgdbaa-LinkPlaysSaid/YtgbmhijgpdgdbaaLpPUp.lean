/- The program's link: Up. -/
import Derived.Test.YtgbmhijgpdgdbaaLpPTick
import Derived.Test.YtgbmhijgpdgdbaaLpRefUp
set_option maxHeartbeats 8000000
set_option maxRecDepth 20000
namespace Go.Proofs.Ytgbmhijgpdgdbaa
open Go.RowKit Go.Shelf
attribute [local go_sem] Oper.semAt_some
section
variable {lo : Nat} {w w' : World} {B : Nat} {c : LC} {s s' : Pl.St} {A : Option Addr} {cap : Nat} {xs : List (Nat × Kn)} {L : List (Int × Int)} {v : Value}
theorem PAt.cell1 (h : PAt lo w B c s A cap xs) {s' : Pl.St} {j : Nat} {u : Value} (hk : (lks c s.st s.dr s.bd s.wt s.nx s.po s.re (.slice A xs.length cap)).setIfInBounds j u = lks c s'.st s'.dr s'.bd s'.wt s'.nx s'.po s'.re (.slice A xs.length cap)) (hl : s'.l = s.l) :
    PAt lo (w.setCell ⟨B, j, none⟩ u) B c s' A cap xs ∧ LFr lo w (w.setCell ⟨B, j, none⟩ u) := by
  have hf : Frame (fun i => i = B) w (w.setCell ⟨B, j, none⟩ u) := (Frame.refl _ w).setB j _
  have hb : Blk (w.setCell ⟨B, j, none⟩ u) B 119 (lks c s'.st s'.dr s'.bd s'.wt s'.nx s'.po s'.re (.slice A xs.length cap)) := by
    have := h.b.set_ j u
    rw [hk] at this
    exact this
  exact h.turn hf hb hl
theorem PAt.grownB {w3 w4 : World} (h : PAt lo w B c s A cap xs) {n : Nat} (hn : xs.length = n) (h3 : Below w.heap.size w w3) (hg : w3.grownBy w4 (Value.slice A n cap).ownBlock) : Blk w4 B 119 (lks c s.st s.dr s.bd s.wt s.nx s.po s.re (.slice A n cap)) := by
  subst hn
  refine (h.b.below h3 h.b.lt).grown hg (fun e => ?_)
  rcases h.o.2 with ⟨e1, _⟩ | ⟨g, cur, e1, _, hh, _⟩
  · rw [e1] at e
    simp [Value.ownBlock] at e
  · rw [e1] at e
    have hgj : g = B := by simpa [Value.ownBlock] using e.symm
    subst hgj
    exact hh.ne_ h.b (by decide) rfl
theorem PAt.append {w3 w4 : World} (h : PAt lo w B c s A cap xs) (h3 : Below w.heap.size w w3) {K : Nat} {k : Kn} (hK : w.heap.size ≤ K) (kb : Blk w3 K 139 k.cells) {A' : Option Addr} {cap' : Nat} (hrow : PRow w4 lo A' (xs.length + 1) cap' (kptrs xs ++ [.pointer (some ⟨K, 0, none⟩)]))
    (hg : w3.grownBy w4 (Value.slice A xs.length cap).ownBlock) (hsl : s'.l = s.l ++ [k]) (hse : (lks c s'.st s'.dr s'.bd s'.wt s'.nx s'.po s'.re) = (lks c s.st s.dr s.bd s.wt s.nx s.po s.re)) :
    PAt lo (w4.setCell ⟨B, 22, none⟩ (.slice A' (xs.length + 1) cap')) B c s' A' cap' (xs ++ [(K, k)]) ∧ LFr lo w (w4.setCell ⟨B, 22, none⟩ (.slice A' (xs.length + 1) cap')) := by
  have hA : ∀ j, (Value.slice A xs.length cap).ownBlock = some j → A = some ⟨j, 0, none⟩ ∧ lo ≤ j ∧ ∃ cur, Blk w j 137 cur := fun j e => by
    rcases h.o.2 with ⟨e1, _⟩ | ⟨g, cur, e1, hg, hh, _⟩
    · rw [e1] at e
      simp [Value.ownBlock] at e
    · rw [e1] at e
      have hgj : g = j := by simpa [Value.ownBlock] using e
      subst hgj
      exact ⟨e1, hg, cur, hh⟩
  have h1 := h.below h3
  have hf4 : Frame (fun j => (Value.slice A xs.length cap).ownBlock = some j) w3 w4 := Frame.of_grown hg (fun j e _ => e)
  have ht : ∀ j, (Value.slice A xs.length cap).ownBlock = some j → ∃ cur, Blk w3 j 137 cur := fun j e => by
    obtain ⟨_, _, cur, hc⟩ := hA j e
    exact ⟨cur, hc.below h3 hc.lt⟩
  have kB4 := hf4.blk h1.b (fun e => by obtain ⟨cur, hc⟩ := ht _ e; exact h1.b.ne_ hc (by decide) rfl)
  have kK4 := hf4.blk kb (fun e => by obtain ⟨cur, hc⟩ := ht _ e; exact kb.ne_ hc (by decide) rfl)
  have hf5 : Frame (fun j => j = B) w4 (w4.setCell ⟨B, 22, none⟩ (.slice A' (xs.length + 1) cap')) := (Frame.refl _ w4).setB 22 _
  have hsz := h3.size
  have hps : kptrs (xs ++ [(K, k)]) = kptrs xs ++ [.pointer (some ⟨K, 0, none⟩)] := by unfold kptrs; rw [List.map_append]; rfl
  refine ⟨⟨h.loB, ?_, ?_, fun x hx => ?_, ?_, by rw [hsl, ← h.l, List.map_append]; rfl⟩, ?_⟩
  · rw [List.length_append, hse]
    exact kB4.set_ 22 _
  · rw [List.length_append, hps]
    exact hrow.fr hf5 (fun L hL e => by
      obtain ⟨cur, hc⟩ := hrow.ty hL
      exact hc.ne_ kB4 (by decide) e)
  · rcases List.mem_append.1 hx with hx | hx
    · have k1 := (h1.k x hx).1
      have k4 := hf4.blk k1 (fun e => by obtain ⟨cur, hc⟩ := ht _ e; exact k1.ne_ hc (by decide) rfl)
      exact ⟨hf5.blk k4 (k4.ne_ kB4 (by decide)), (h.k x hx).2⟩
    · rw [List.mem_singleton.1 hx]
      exact ⟨hf5.blk kK4 (kK4.ne_ kB4 (by decide)), by have := h.loB; have := h.b.lt; show lo ≤ K; omega⟩
  · rw [List.map_append]
    refine List.nodup_append.2 ⟨h.nd, by simp, fun a ha b hb e => ?_⟩
    obtain ⟨x, hx, rfl⟩ := List.mem_map.1 ha
    have h1 := (h.k x hx).1.lt
    have h2 : b = K := by simpa using hb
    omega
  · refine (LFr.of_below h3).trans (LFr.trans (hf4.mono fun j e => ?_) (LFr.one kB4 h.loB (.inl rfl) hf5))
    obtain ⟨_, hj, cur, hc⟩ := hA j e
    exact ⟨hj, cur, _, hc.below h3 hc.lt, .inr (.inl rfl)⟩
theorem pup_any (h : PAt lo w B c s A cap xs) (hpe : PeersAt w lo c.pe L) (g : Pl.CfgOk c L) (hs1 : Pl.Ok c L (Pl.upSt c L s)) :
    Calls Try.prog 33 #[.pointer (some ⟨B, 0, none⟩)] w fun e w' => ∃ u, e = .returned u ∧ OutsP w' u (Pl.upOut c L s) ∧ (∃ A' cap' xs', PAt lo w' B c (Pl.upSt c L s) A' cap' xs') ∧ LFr lo w w' := by
  have H := Lib.hid h
  have HPe := Lib.hid hpe
  have G := Lib.hid g
  have HUp := Lib.hid hs1
  have hlow : lo ≤ w.heap.size := by have := h.loB; have := h.b.lt; omega
  have c15 : w.cell? ⟨B, 15, none⟩ = some (.int .u8 s.st) := h.b.cell 15
  have c12 : w.cell? ⟨B, 12, none⟩ = some (.bool c.ps) := h.b.cell 12
  have hlt := h.b.lt
  have fz := h.b.frozen
  clear h hpe g hs1
  by_cases h1 : s.st = 0
  rotate_left
  · have HO : Hid (Pl.upOut c L s = [] ∧ Pl.upSt c L s = s) := Lib.hid (by unfold Pl.upOut Pl.upSt; rw [if_pos (.inl h1), if_pos h1]; exact ⟨rfl, rfl⟩)
    have e1 : (s.st != 0) = true := by simpa using h1
    clear h1
    go_enter Try.func33, Try.ntmps33
    go_wp2_with (go_at_call 67; refine (none_lk _ _ _ H.out.b rfl).mono ?_; rintro e w' ⟨rfl, rfl⟩)
    go_ret
    exact ⟨_, rfl, by rw [HO.out.1]; exact OutsP.nil _, ⟨_, _, _, by rw [HO.out.2]; exact H.out⟩, LFr.refl _ _⟩
  have H1 := Lib.hid h1
  rw [h1] at c15
  clear h1
  rcases hps : c.ps with _ | _
  rotate_left
  · have HO : Hid (Pl.upOut c L s = [] ∧ Pl.upSt c L s = { s with st := 1 }) := Lib.hid (by unfold Pl.upOut Pl.upSt; rw [if_pos (.inr hps), if_neg (by rw [H1.out]; decide), if_pos hps]; exact ⟨rfl, rfl⟩)
    rw [hps] at c12
    clear hps
    go_enter Try.func33, Try.ntmps33
    go_wp2_with (go_at_call 67; refine (none_lk _ _ _ H.out.b rfl).mono ?_; rintro e w' ⟨rfl, rfl⟩)
    obtain ⟨h2, hf2⟩ := H.out.cell1 (s' := { s with st := 1 }) (j := 15) (u := .int .u8 1) rfl rfl
    go_ret
    exact ⟨_, rfl, by rw [HO.out.1]; exact OutsP.nil _, ⟨_, _, _, by rw [HO.out.2]; exact h2⟩, hf2⟩
  have HO : Hid (Pl.upOut c L s = Pl.round c (Pl.upSt c L s) false ∧ Pl.upSt c L s = { Pl.upS1 c s with nx := c.hi, po := c.po, l := L.map (Pl.fresh c) }) := Lib.hid (by
    unfold Pl.upOut Pl.upSt Pl.upS1
    rw [if_neg (by rw [H1.out, hps]; decide), if_neg (by rw [H1.out]; decide), if_neg (by rw [hps]; decide)]
    exact ⟨rfl, rfl⟩)
  rw [hps] at c12
  have HSh : Hid (∀ W, Calls Try.prog 68 #[.agg #[.int .u8 c.ty, .int .u32 c.ro, .int .u32 c.na, .int .u8 c.nb, .int .u32 c.ad, .int .u8 c.op, .int .u16 c.hi, .int .u32 c.dd, .int .u16 c.po, .int .u8 c.pr, .bool c.dm, .bool false, c.pe, .int .u32 c.rm]] W fun e w' => e = .returned (.bool c.shared) ∧ Below W.heap.size W w') := Lib.hid (fun W => by have h := shared_any c W; unfold LC.cells at h; rw [hps] at h; exact h)
  clear hps
  have c1 : w.cell? ⟨B, 1, none⟩ = some (.int .u8 c.ty) := H.out.b.cell 1
  have c2 : w.cell? ⟨B, 2, none⟩ = some (.int .u32 c.ro) := H.out.b.cell 2
  have c3 : w.cell? ⟨B, 3, none⟩ = some (.int .u32 c.na) := H.out.b.cell 3
  have c4 : w.cell? ⟨B, 4, none⟩ = some (.int .u8 c.nb) := H.out.b.cell 4
  have c5 : w.cell? ⟨B, 5, none⟩ = some (.int .u32 c.ad) := H.out.b.cell 5
  have c6 : w.cell? ⟨B, 6, none⟩ = some (.int .u8 c.op) := H.out.b.cell 6
  have c7 : w.cell? ⟨B, 7, none⟩ = some (.int .u16 c.hi) := H.out.b.cell 7
  have c8 : w.cell? ⟨B, 8, none⟩ = some (.int .u32 c.dd) := H.out.b.cell 8
  have c9 : w.cell? ⟨B, 9, none⟩ = some (.int .u16 c.po) := H.out.b.cell 9
  have c10 : w.cell? ⟨B, 10, none⟩ = some (.int .u8 c.pr) := H.out.b.cell 10
  have c11 : w.cell? ⟨B, 11, none⟩ = some (.bool c.dm) := H.out.b.cell 11
  have c13 : w.cell? ⟨B, 13, none⟩ = some (c.pe) := H.out.b.cell 13
  have c14 : w.cell? ⟨B, 14, none⟩ = some (.int .u32 c.rm) := H.out.b.cell 14
  go_enter Try.func33, Try.ntmps33
  go_upto_block 0 with (go_at_call 67; refine (none_lk _ _ _ H.out.b rfl).mono ?_; rintro e w' ⟨rfl, rfl⟩)
  go_cut [] from 15 to 54 (fun wx => Hid (PAt lo wx B c (Pl.upS1 c s) A cap xs) ∧ Hid (LFr lo w wx))
  case first =>
    go_wp2_with fail
    refine (HSh.out _).mono ?_
    rintro e w2 ⟨rfl, hb2⟩
    have HR2 := Lib.hid (H.out.below hb2)
    have HF2 : Hid (LFr lo w w2) := Lib.hid (LFr.of_below hb2)
    clear hb2 c1 c2 c3 c4 c5 c6 c7 c8 c9 c10 c11 c12 c13 c14 c15 hlt fz
    have d8 : w2.cell? ⟨B, 8, none⟩ = some (.int .u32 c.dd) := HR2.out.b.cell 8
    have d10 : w2.cell? ⟨B, 10, none⟩ = some (.int .u8 c.pr) := HR2.out.b.cell 10
    have d15 : w2.cell? ⟨B, 15, none⟩ = some (.int .u8 s.st) := HR2.out.b.cell 15
    have d18 : w2.cell? ⟨B, 18, none⟩ = some (.int .u32 s.wt) := HR2.out.b.cell 18
    have hlt := HR2.out.b.lt
    have fz := HR2.out.b.frozen
    rcases hsh : c.shared with _ | _
    · have HE : Hid (Pl.upS1 c s = { s with st := 3 }) := Lib.hid (by unfold Pl.upS1; rw [hsh]; rfl)
      clear hsh
      go_wp2_with fail
      go_meet
      case rel =>
        obtain ⟨h2, hf2⟩ := HR2.out.cell1 (s' := { s with st := 3 }) (j := 15) (u := .int .u8 3) rfl rfl
        exact ⟨Lib.hid (by rw [HE.out]; exact h2), Lib.hid (HF2.out.trans hf2)⟩
    · by_cases hp : c.pr = 0
      · have HE : Hid (Pl.upS1 c s = { s with st := 4 }) := Lib.hid (by unfold Pl.upS1; rw [hsh, if_neg (by decide), if_pos hp, if_neg (fun e => e.2 hp)])
        rw [hp] at d10
        clear hsh hp
        go_wp2_with fail
        go_meet
        case rel =>
          obtain ⟨h2, hf2⟩ := HR2.out.cell1 (s' := { s with st := 4 }) (j := 15) (u := .int .u8 4) rfl rfl
          exact ⟨Lib.hid (by rw [HE.out]; exact h2), Lib.hid (HF2.out.trans hf2)⟩
      · have HE : Hid (Pl.upS1 c s = { s with st := 2, wt := c.dd }) := Lib.hid (by unfold Pl.upS1; rw [hsh, if_neg (by decide), if_neg hp, if_pos ⟨rfl, hp⟩])
        have ep : (c.pr == 0) = false := by simpa using hp
        clear hsh hp
        go_wp2_with fail
        go_meet
        case rel =>
          obtain ⟨h2, hf2⟩ := HR2.out.cell1 (s' := { s with st := 2 }) (j := 15) (u := .int .u8 2) rfl rfl
          obtain ⟨h3, hf3⟩ := h2.cell1 (s' := { s with st := 2, wt := c.dd }) (j := 18) (u := .int .u32 c.dd) rfl rfl
          exact ⟨Lib.hid (by rw [HE.out]; exact h3), Lib.hid (HF2.out.trans (hf2.trans hf3))⟩
  obtain ⟨HR2, HF2⟩ := hcut
  obtain ⟨w2, hw2⟩ : ∃ y, y = wc := ⟨_, rfl⟩
  rw [← hw2] at HR2 HF2 ⊢
  clear hw2 c1 c2 c3 c4 c5 c6 c7 c8 c9 c10 c11 c12 c13 c14 c15 hlt fz
  obtain ⟨s1, hs1⟩ : ∃ s1, Pl.upS1 c s = s1 := ⟨_, rfl⟩
  rw [hs1] at HR2
  have HS1 := Lib.hid hs1
  clear hs1
  have d22 : w2.cell? ⟨B, 22, none⟩ = some (.slice A xs.length cap) := HR2.out.b.cell 22
  have hlt := HR2.out.b.lt
  have fz := HR2.out.b.frozen
  go_upto_region 12 with fail
  obtain ⟨w3, hw3⟩ : ∃ w3, w3 = w2.setCell ⟨B, 22, none⟩ (.slice none 0 0) := ⟨_, rfl⟩
  have hK3 : Blk w3 B 119 (lks c s1.st s1.dr s1.bd s1.wt s1.nx s1.po s1.re (.slice none 0 0)) := by rw [hw3]; exact HR2.out.b.set_ 22 _
  have hF3 : Frame (fun j => j = B) w2 w3 := by rw [hw3]; exact (Frame.refl _ w2).setB 22 _
  have HR3 : Hid (PAt lo w3 B c { s1 with l := (L.take 0).map (Pl.fresh c) } none 0 []) := Lib.hid ⟨HR2.out.loB, hK3, PRow.nil _ _, fun x hx => by simp at hx, by simp, rfl⟩
  have HF3 := Lib.hid (HF2.out.trans (LFr.one HR2.out.b HR2.out.loB (.inl rfl) hF3))
  rw [← hw3]
  clear hw3 hK3 hF3 d22 hlt fz
  obtain ⟨n, hn⟩ : ∃ n, L.length = n := ⟨_, rfl⟩
  have Hn := Lib.hid hn
  have hn64 : n ≤ 64 := by rw [← hn]; exact G.out.ln
  clear hn
  obtain ⟨PA0, pcap0, hpe0, hpr0⟩ := HPe.out.lfr HF3.out hlow
  have HPE0 := Lib.hid hpe0
  have HPR0 := Lib.hid hpr0
  have c13 : w3.cell? ⟨B, 13, none⟩ = some (.slice PA0 n pcap0) := by rw [← Hn.out]; exact (HR3.out.b.cell 13).trans (congrArg some hpe0)
  have hlt := HR3.out.b.lt
  clear hpe0 hpr0
  go_wp2_with fail
  clear c13 hlt
  go_loopw [64] (fun x wr => ∃ (k : Nat) (A' : Option Addr) (cap' : Nat) (xs' : List (Nat × Kn)), k ≤ n ∧ x = .int .i64 k ∧ Hid (PAt lo wr B c { s1 with l := (L.take k).map (Pl.fresh c) } A' cap' xs') ∧ Hid (LFr lo w wr)) (fun x _ => n - (intOf x).toNat)
  case atStart => exact ⟨0, _, _, _, Nat.zero_le _, rfl, HR3, HF3⟩
  case round =>
    obtain ⟨k, A1, cp, xs1, hk, rfl, HR, HF⟩ := hrel
    have hlk : xs1.length = k := by rw [HR.out.len]; show ((L.take k).map (Pl.fresh c)).length = k; rw [List.length_map, List.length_take, Hn.out]; omega
    have Hlk := Lib.hid hlk
    obtain ⟨PA, pcap, hpe1, hpe2⟩ := HPe.out.lfr HF.out hlow
    have hpp0 : Value.slice PA0 L.length pcap0 = .slice PA L.length pcap := HPE0.out.symm.trans hpe1
    injection hpp0 with e1 _ e2
    subst e1 e2
    have HPr := Lib.hid hpe2
    have hRl := HR.out.b.lt
    clear hpe1 hpe2 hlk
    by_cases hkn : k < n
    · obtain ⟨p, hpp⟩ : ∃ p, L[k]? = some p := ⟨_, List.getElem?_eq_getElem (by rw [Hn.out]; exact hkn)⟩
      obtain ⟨pb, po, hPA, hpb, hp0, hp1⟩ := HPr.out.peer hpp
      subst hPA
      have hpb1 : pb < wr.heap.size := by have := HF.out.size; omega
      have Hpp := Lib.hid hpp
      have hkI : (k : Int) < (n : Int) := by omega
      clear hpp
      go_upto_region 16 with fail
      obtain ⟨w4, hw4⟩ : ∃ w4, w4 = (wr.alloc (.cells #[.int .u32 p.1, .int .u8 p.2] 136)).alloc (.cells #[.int .u32 0, .int .u32 p.1, .int .u8 0, .int .u8 p.2, .int .u32 0, .int .u32 0, .int .u8 0, .int .u32 0, .bool false, .bool false] 139) := ⟨_, rfl⟩
      have HK4 : Hid (Blk w4 (wr.heap.size + 1) 139 (Pl.gone p).cells) := Lib.hid (by rw [hw4]; have := Blk.new (wr.alloc (.cells #[.int .u32 p.1, .int .u8 p.2] 136)) 139 #[.int .u32 0, .int .u32 p.1, .int .u8 0, .int .u8 p.2, .int .u32 0, .int .u32 0, .int .u8 0, .int .u32 0, .bool false, .bool false]; rw [World.size_alloc] at this; exact this)
      have HP4 : Hid (Blk w4 wr.heap.size 136 #[.int .u32 p.1, .int .u8 p.2]) := Lib.hid (by rw [hw4]; exact (Blk.new wr 136 _).alloc _)
      have HB4 : Hid (Below wr.heap.size wr w4) := Lib.hid (by rw [hw4]; exact ((Below.refl _ wr).alloc (Nat.le_refl _) _).alloc (by simp) _)
      have HS4 : Hid (w4.heap.size = wr.heap.size + 1 + 1) := Lib.hid (by rw [hw4]; simp)
      rw [← hw4]
      clear hw4 hp0 hp1 hRl hpb1
      have HR4 := Lib.hid (HR.out.below HB4.out)
      obtain ⟨K, hKe⟩ : ∃ K, K = wr.heap.size + 1 := ⟨_, rfl⟩
      rw [← hKe] at HK4 ⊢
      have HKe := Lib.hid hKe
      clear hKe
      have c1 : w4.cell? ⟨B, 1, none⟩ = some (.int .u8 c.ty) := HR4.out.b.cell 1
      have c10 : w4.cell? ⟨B, 10, none⟩ = some (.int .u8 c.pr) := HR4.out.b.cell 10
      have k3 : w4.cell? ⟨wr.heap.size, 1, none⟩ = some (.int .u8 p.2) := HP4.out.cell 1
      have hRl := HR4.out.b.lt
      have hPl := HP4.out.lt
      obtain ⟨fb, hfb⟩ : ∃ b : Bool, b = ((c.ty == 2) || (decide (0 < c.pr) && decide (0 < p.2))) := ⟨_, rfl⟩
      have HFb := Lib.hid hfb
      clear hfb
      go_cut [93] from 75 to 92 (fun q wx => q = .bool fb ∧ w4 = wx)
      case first =>
        by_cases t2 : c.ty = 2
        · have HV : Hid (fb = true) := Lib.hid (by rw [HFb.out, t2]; rfl)
          rw [t2] at c1
          clear t2
          go_wp2_with fail
          go_meet
          case rel => exact ⟨by rw [HV.out], rfl⟩
        · have e2 : (c.ty == 2) = false := by simpa using t2
          clear t2
          by_cases hp : 0 < c.pr
          · by_cases hq : 0 < p.2
            · have HV : Hid (fb = true) := Lib.hid (by rw [HFb.out, e2, decide_eq_true hp, decide_eq_true hq]; rfl)
              go_wp2_with fail
              go_meet
              case rel => exact ⟨by rw [HV.out], rfl⟩
            · have HV : Hid (fb = false) := Lib.hid (by rw [HFb.out, e2, decide_eq_true hp, decide_eq_false hq]; rfl)
              have hq2 : p.2 ≤ 0 := by omega
              clear hq
              go_wp2_with fail
              go_meet
              case rel => exact ⟨by first | (rw [HV.out]; done) | (rw [HV.out, decide_eq_false (by omega)]), rfl⟩
          · have HV : Hid (fb = false) := Lib.hid (by rw [HFb.out, e2, decide_eq_false hp]; rfl)
            have hp2 : c.pr ≤ 0 := by omega
            clear hp
            go_wp2_with fail
            go_meet
            case rel => exact ⟨by rw [HV.out], rfl⟩
      obtain ⟨rfl, rfl⟩ := hcut
      have c8 : w4.cell? ⟨B, 8, none⟩ = some (.int .u32 c.dd) := HR4.out.b.cell 8
      have k2 : w4.cell? ⟨K, 2, none⟩ = some (.int .u8 0) := HK4.out.cell 2
      have k7 : w4.cell? ⟨K, 7, none⟩ = some (.int .u32 0) := HK4.out.cell 7
      have fK := HK4.out.frozen
      have hKl := HK4.out.lt
      have hKR : K ≠ B := by have := HR.out.b.lt; have := HKe.out; omega
      clear c1 c10 k3
      go_upto_if 93 with fail
      go_cut [] from 93 to 106 (fun wx => Hid (Blk wx K 139 (Pl.fresh c p).cells) ∧ Hid (Below wr.heap.size wr wx))
      case first =>
        rcases fb with _ | _
        · have HV : Hid (Pl.fresh c p = Pl.gone p) := Lib.hid (by
            have h0 := HFb.out.symm
            unfold Pl.fresh
            rw [if_neg]
            intro h1
            rcases h1 with h1 | ⟨h1, h2⟩
            · rw [h1] at h0; cases h0
            · rw [decide_eq_true h1, decide_eq_true h2] at h0; simp at h0)
          go_wp2_with fail
          go_meet
          case rel => exact ⟨Lib.hid (by rw [HV.out]; exact HK4.out), HB4⟩
        · have HV : Hid (Pl.fresh c p = { Pl.gone p with st := 1, lf := c.dd }) := Lib.hid (by
            have h0 := HFb.out.symm
            unfold Pl.fresh
            rw [if_pos]
            simp only [Bool.or_eq_true, Bool.and_eq_true, decide_eq_true_eq, beq_iff_eq] at h0
            exact h0)
          have hwK : wr.heap.size ≤ K := by have := HKe.out; omega
          go_wp2_with fail
          go_meet
          case rel =>
            refine ⟨Lib.hid ?_, Lib.hid ?_⟩
            · rw [HV.out]
              exact (HK4.out.set_ 2 _).set_ 7 _
            · exact (HB4.out.setCell (p := ⟨K, 2, none⟩) hwK _).setCell (p := ⟨K, 7, none⟩) hwK _
      obtain ⟨HK5, HB5⟩ := hcut
      obtain ⟨w5, hw5⟩ : ∃ y, y = wc := ⟨_, rfl⟩
      rw [← hw5] at HK5 HB5 ⊢
      clear hw5 c8 k2 k7 fK hKR hRl hKl hPl HR4 HB4 HK4 HP4
      have HR5 := Lib.hid (HR.out.below HB5.out)
      have c22 : w5.cell? ⟨B, 22, none⟩ = some (.slice A1 k cp) := by rw [← Hlk.out]; exact HR5.out.b.cell 22
      have hRl := HR5.out.b.lt
      have hKl := HK5.out.lt
      have HRow : Hid (PRow (w5.alloc (.cells #[.pointer (some ⟨K, 0, none⟩)] 137)) lo A1 k cp (kptrs xs1)) := Lib.hid (by rw [← Hlk.out]; exact HR5.out.o.fr (Frame.of_below (S := fun _ => False) ((Below.refl _ w5).alloc (Nat.le_refl _) _)) (fun _ _ e => e))
      have HLit := Lib.hid (Reads.of_own (World.ownsRow_lit (base := 0) (e := 137) (size := 1) w5 #[.pointer (some ⟨K, 0, none⟩)] 1 (Nat.zero_le _) (by simp [maxLen]) rfl))
      have hlow5 : lo ≤ w5.heap.size := by have := HR5.out.loB; omega
      have hk64 : k ≤ 64 := by omega
      go_upto_region 19 with (at_builtin; refine wpList_append_prow rfl (.tmp 111) (.tmp 113) rfl lo A1 k cp (kptrs xs1) rfl HRow.out (by simp; omega) (kptrs_one xs1) _ (some ⟨w5.heap.size, 0, none⟩) 1 1 [.pointer (some ⟨K, 0, none⟩)] rfl HLit.out (by simp [Value.oneCell']) (by omega) ?_; intro A7 cp7 w7 hrow7 hg7; have HRow7 := Lib.hid hrow7; have HG7 := Lib.hid hg7; have kB7 := HR5.out.grownB (w3 := w5.alloc (.cells #[.pointer (some ⟨K, 0, none⟩)] 137)) (n := k) Hlk.out ((Below.refl _ w5).alloc (Nat.le_refl _) _) HG7.out; have d22 : w7.cell? ⟨B, 22, none⟩ = some (.slice A1 k cp) := kB7.cell 22; have fz7 := kB7.frozen; have hl7 := kB7.lt; clear hrow7 hg7 kB7)
      obtain ⟨w8, hw8⟩ : ∃ w8, w8 = w7.setCell ⟨B, 22, none⟩ (.slice A7 (k + 1) cp7) := ⟨_, rfl⟩
      rw [← hw8]
      have hlist : (L.take (k + 1)).map (Pl.fresh c) = (L.take k).map (Pl.fresh c) ++ [Pl.fresh c p] := by rw [List.take_add_one, Hpp.out, List.map_append]; rfl
      have h8 := HR.out.append (s' := { s1 with l := (L.take (k + 1)).map (Pl.fresh c) }) (HB5.out.alloc HB5.out.size _) (K := K) (k := Pl.fresh c p) (by have := HKe.out; omega) (HK5.out.alloc _) (A' := A7) (cap' := cp7) (by rw [Hlk.out]; exact HRow7.out) (by rw [Hlk.out]; exact HG7.out) hlist rfl
      rw [Hlk.out, ← hw8] at h8
      have HR8 := Lib.hid h8.1
      have HF8 := Lib.hid (HF.out.trans h8.2)
      clear hw8 hlist h8 d22 fz7 hl7
      go_wp2_with fail
      go_roundw
      case rel => exact ⟨k + 1, _, _, _, by omega, by simp, HR8, HF8⟩
      case measure => simp [intOf]; omega
    · obtain rfl : k = n := by omega
      have HR9 : Hid (PAt lo wr B c { s1 with l := L.map (Pl.fresh c) } A1 cp xs1) := Lib.hid (by
        have h := HR.out
        rw [← Hn.out, List.take_length] at h
        exact h)
      have b7 : wr.cell? ⟨B, 7, none⟩ = some (.int .u16 c.hi) := HR9.out.b.cell 7
      have b9 : wr.cell? ⟨B, 9, none⟩ = some (.int .u16 c.po) := HR9.out.b.cell 9
      have b19 : wr.cell? ⟨B, 19, none⟩ = some (.int .u32 s1.nx) := HR9.out.b.cell 19
      have b20 : wr.cell? ⟨B, 20, none⟩ = some (.int .u32 s1.po) := HR9.out.b.cell 20
      have fz := HR9.out.b.frozen
      have hi0 := G.out.hi0
      have hi1 := G.out.hi
      have po0 := G.out.po0
      have po1 := G.out.po
      go_upto_region 20 with fail
      go_cut [] from 118 to 135 (fun wx => Hid (PAt lo wx B c (Pl.upSt c L s) A1 cp xs1) ∧ Hid (LFr lo wr wx))
      case first =>
        go_region_held3 (fun w' => w'.cell? ⟨B, 7, none⟩ = some (.int .u16 c.hi) ∧ w'.cell? ⟨B, 9, none⟩ = some (.int .u16 c.po)) (first
          | assumption
          | exact ⟨HR9.out.b.drew.cell 7, HR9.out.b.drew.cell 9⟩
          | exact ⟨(HR9.out.b.set_ 19 _).drew.cell 7, (HR9.out.b.set_ 19 _).drew.cell 9⟩
          | exact ⟨((HR9.out.b.set_ 19 _).set_ 20 _).drew.cell 7, ((HR9.out.b.set_ 19 _).set_ 20 _).drew.cell 9⟩) (fail)
        all_goals
          go_wp2_with fail
          go_meet
          have h8 := HR9.out.turn (w' := ((wr.setCell ⟨B, 19, none⟩ (.int .u32 c.hi)).setCell ⟨B, 20, none⟩ (.int .u32 c.po)).drew) (s' := { s1 with nx := c.hi, po := c.po, l := L.map (Pl.fresh c) }) (((Frame.refl (fun j => j = B) wr).setB 19 _).setB 20 _).drew ((HR9.out.b.set_ 19 (.int .u32 _)).set_ 20 (.int .u32 _)).drew rfl
          have wh : IntKind.u32.wrap c.hi = c.hi := by show c.hi % 4294967296 = c.hi; have := G.out.hi0; have := G.out.hi; omega
          have wp : IntKind.u32.wrap c.po = c.po := by show c.po % 4294967296 = c.po; have := G.out.po0; have := G.out.po; omega
          try rw [wh, wp]
          exact ⟨Lib.hid (by rw [HO.out.2, HS1.out]; exact h8.1), Lib.hid h8.2⟩
      obtain ⟨H3, HF9⟩ := hcut
      obtain ⟨w9, hw9⟩ : ∃ y, y = wc := ⟨_, rfl⟩
      rw [← hw9] at H3 HF9 ⊢
      clear hw9 b7 b9 b19 b20 fz
      have HRd : Hid (Calls Try.prog 69 #[.pointer (some ⟨B, 0, none⟩), .bool false] w9 fun e w' => ∃ u, e = .returned u ∧ OutsOwn w9.heap.size 105 w' u (Pl.round c (Pl.upSt c L s) false) ∧ Below w9.heap.size w9 w') := Lib.hid (pround H3.out (by rw [Hlk.out]; omega) G.out.nb0 G.out.nb (fun e => by rw [H3.out.len]; exact HUp.out.one e) G.out.dm false)
      clear hi0 hi1 po0 po1 hRl
      go_wp2_with fail
      refine HRd.out.mono ?_
      rintro e w10 ⟨u, rfl, hou, hb⟩
      have HOu := Lib.hid hou
      have HB := Lib.hid hb
      clear hou hb
      go_wp2_with fail
      go_ret
      exact ⟨u, rfl, by rw [HO.out.1]; exact ⟨by have := round_len c (Pl.upSt c L s) false; have := HUp.out.ln; omega, _, HOu.out⟩, ⟨_, _, _, H3.out.below HB.out⟩, HF.out.trans (HF9.out.trans (LFr.of_below HB.out))⟩
end
end Go.Proofs.Ytgbmhijgpdgdbaa
