/- Rows of Hellos of one's own, one laid behind another; what a tick leaves, as far as it has come. -/
import Derived.Test.YtgbmhijgpdgdbaaLpRefAt
import Derived.Test.YtgbmhijgpdgdbaaLpRefElect
import Derived.Deep.LoopGhost
namespace Go.Proofs.Ytgbmhijgpdgdbaa
namespace Pl
theorem gone_ok (p : Int × Int) : KnOk (gone p) := ⟨Int.le_refl 0, fun h => absurd rfl h, rfl⟩
theorem zero_ok : KnOk zero := ⟨Int.le_refl 0, fun h => absurd rfl h, rfl⟩
theorem quiet_st {c : LC} {k : Kn} (h : quietK c k = false) : k.st ≠ 0 := by
  intro e
  unfold quietK at h
  rw [e] at h
  simp at h
theorem ageK_ok {c : LC} {p : Int × Int} {k : Kn} (h : KnOk k) : ∀ x ∈ ageK c p k, KnOk x := by
  intro x hx
  unfold ageK at hx
  split at hx
  · rw [List.mem_singleton.1 hx]; exact h
  · rename_i hq
    have hs := quiet_st (c := c) (k := k) (by simpa using hq)
    split at hx
    · split at hx
      · rw [List.mem_singleton.1 hx]; exact gone_ok p
      · cases hx
    · rename_i h1
      rw [List.mem_singleton.1 hx]
      refine ⟨h.st0, fun _ => ?_, h.wa⟩
      have := h.lf hs
      show 1 ≤ k.lf - 1 ∧ k.lf - 1 < 4294967296
      omega
theorem getD_mem {l : List Kn} {k : Nat} (h : k < l.length) (d : Kn) : l.getD k d ∈ l := by
  rw [List.getD_eq_getElem?_getD, List.getElem?_eq_getElem h]
  exact List.getElem_mem h
theorem aged_ok {c : LC} {L : List (Int × Int)} {l : List Kn} (h : ∀ x ∈ l, KnOk x) : ∀ k, k ≤ l.length → ∀ x ∈ agedTo c L l k, KnOk x
  | 0, _ => by intro x hx; cases hx
  | k + 1, hk => by
    intro x hx
    rcases List.mem_append.1 hx with hx | hx
    · exact aged_ok h k (by omega) x hx
    · exact ageK_ok (h _ (getD_mem (by omega) zero)) x hx
theorem ageK_len (c : LC) (p : Int × Int) (k : Kn) : (ageK c p k).length ≤ 1 ∧ (c.peers = true → (ageK c p k).length = 1) := by
  unfold ageK
  split
  · exact ⟨Nat.le_refl _, fun _ => rfl⟩
  · split
    · split
      · exact ⟨Nat.le_refl _, fun _ => rfl⟩
      · rename_i h
        exact ⟨Nat.zero_le _, fun e => absurd e h⟩
    · exact ⟨Nat.le_refl _, fun _ => rfl⟩
theorem aged_len (c : LC) (L : List (Int × Int)) (l : List Kn) : ∀ k, (agedTo c L l k).length ≤ k ∧ (c.peers = true → (agedTo c L l k).length = k)
  | 0 => ⟨Nat.le_refl _, fun _ => rfl⟩
  | k + 1 => by
    have h1 := aged_len c L l k
    have h2 := ageK_len c (L.getD k (0, 0)) (l.getD k zero)
    show (agedTo c L l k ++ _).length ≤ k + 1 ∧ (c.peers = true → (agedTo c L l k ++ _).length = k + 1)
    rw [List.length_append]
    exact ⟨by omega, fun hp => by rw [h1.2 hp, h2.2 hp]⟩
theorem elState_in (c : LC) (o : Int × Int) : 4 ≤ elState c o ∧ elState c o ≤ 6 := by unfold elState; split <;> (try split) <;> omega
theorem wake_ok {c : LC} {L : List (Int × Int)} (g : CfgOk c L) {k : Kn} (h : KnOk k) : KnOk (wake c k) := by
  unfold wake
  split
  · have h0 := g.dd0
    have h1 := g.dd
    exact ⟨by show (0 : Int) ≤ 1; omega, fun _ => ⟨h0, h1⟩, h.wa⟩
  · exact h
structure PreOk (c : LC) (L : List (Int × Int)) (s : St) : Prop where
  kn : ∀ k ∈ s.l, KnOk k
  nx : 1 ≤ s.nx ∧ s.nx < 4294967296
  po : 0 ≤ s.po ∧ s.po < 4294967296
  ln : s.l.length ≤ 64
  one : 3 ≤ c.ty → s.l.length ≤ 1
  pe : c.peers = true → s.l.length = L.length
theorem elect_ok {c : LC} {L : List (Int × Int)} (g : CfgOk c L) {s : St} (h : PreOk c L s) : Ok c L (elect c s) := by
  have he := elState_in c (chosen c s)
  have hl : (elect c s).l.length = s.l.length := by
    unfold elect
    dsimp only
    split
    · rw [List.length_map]
    · rfl
  refine ⟨by show 0 ≤ elState c (chosen c s); omega, by show elState c (chosen c s) ≤ 6; omega, ?_, fun e => ?_, fun _ => h.nx, h.po, by rw [hl]; exact h.ln, fun e => by rw [hl]; exact h.one e, fun e _ => by rw [hl]; exact h.pe e, fun e => ?_⟩
  · intro k hk
    unfold elect at hk
    dsimp only at hk
    split at hk
    · obtain ⟨x, hx, rfl⟩ := List.mem_map.1 hk
      exact wake_ok g (h.kn x hx)
    · exact h.kn k hk
  · have : elState c (chosen c s) = 2 := e
    omega
  · have : elState c (chosen c s) ≤ 1 := e
    omega
theorem up_ok {c : LC} {L : List (Int × Int)} (g : CfgOk c L) {s : St} (h : Ok c L s) : Ok c L (upSt c L s) := by
  unfold upSt
  split
  · exact h
  · rename_i h0
    have h0 : s.st = 0 := by simpa using h0
    have hn := h.dn (by omega)
    split
    · refine ⟨by show (0 : Int) ≤ 1; omega, by show (1 : Int) ≤ 6; omega, h.kn, fun e => ?_, fun e => ?_, h.po, h.ln, h.one, fun _ e => ?_, fun _ => hn⟩
      · have : (1 : Int) = 2 := e
        omega
      · have : (2 : Int) ≤ 1 := e
        omega
      · have : (2 : Int) ≤ 1 := e
        omega
    · have hd0 := g.dd0
      have hd := g.dd
      have hh0 := g.hi0
      have hh := g.hi
      have hp0 := g.po0
      have hp := g.po
      have ht : ∀ t : Int, t = (if c.shared = false then 3 else if c.pr = 0 then 4 else 2) → 2 ≤ t ∧ t ≤ 4 := by
        intro t ht
        split at ht
        · omega
        · split at ht <;> omega
      refine ⟨?_, ?_, ?_, fun e => ?_, fun _ => ⟨hh0, by show c.hi < _; omega⟩, ⟨hp0, by show c.po < _; omega⟩, ?_, fun e => ?_, fun _ _ => by show (L.map (fresh c)).length = _; rw [List.length_map], fun e => ?_⟩
      · have := ht _ rfl; dsimp only; omega
      · have := ht _ rfl; dsimp only; omega
      · intro k hk
        obtain ⟨p, _, rfl⟩ := List.mem_map.1 hk
        unfold fresh
        split
        · exact ⟨by show (0 : Int) ≤ 1; omega, fun _ => ⟨hd0, hd⟩, rfl⟩
        · exact gone_ok p
      · dsimp only at e ⊢
        have h1 : ¬ c.shared = false := by intro e1; rw [if_pos e1] at e; omega
        have h2 : ¬ c.pr = 0 := by intro e2; rw [if_neg h1, if_pos e2] at e; omega
        rw [if_pos ⟨by simpa using h1, h2⟩]
        exact ⟨hd0, hd⟩
      · show (L.map (fresh c)).length ≤ 64
        rw [List.length_map]
        exact g.ln
      · show (L.map (fresh c)).length ≤ 1
        have : c.peers = false := by
          unfold LC.peers
          simp
          omega
        rw [g.no this]
        exact Nat.zero_le _
      · have := ht _ rfl
        dsimp only at e
        omega
theorem down_ok {c : LC} {L : List (Int × Int)} (s : St) : Ok c L (downSt s) := by
  refine ⟨by show (0 : Int) ≤ 0; omega, by show (0 : Int) ≤ 6; omega, fun k hk => (by cases hk), fun e => ?_, fun e => ?_, ⟨by show (0 : Int) ≤ 0; omega, by show (0 : Int) < _; omega⟩, Nat.zero_le _, fun _ => Nat.zero_le _, fun _ e => ?_, fun _ => rfl⟩
  · have : (0 : Int) = 2 := e
    omega
  · have : (2 : Int) ≤ 0 := e
    omega
  · have : (2 : Int) ≤ 0 := e
    omega
theorem aged_pre {c : LC} {L : List (Int × Int)} {s : St} (h : Ok c L s) (h2 : 2 ≤ s.st) : PreOk c L { s with l := age c L s.l } := by
  have hl := aged_len c L s.l s.l.length
  refine ⟨fun k hk => aged_ok h.kn _ (Nat.le_refl _) k hk, h.nx h2, h.po, ?_, fun e => ?_, fun e => ?_⟩
  · have := h.ln
    show (agedTo c L s.l s.l.length).length ≤ 64
    omega
  · have := h.one e
    show (agedTo c L s.l s.l.length).length ≤ 1
    omega
  · show (agedTo c L s.l s.l.length).length = L.length
    rw [hl.2 e, h.pe e h2]
theorem PreOk.ok {c : LC} {L : List (Int × Int)} {s : St} (h : PreOk c L s) (h2 : 2 ≤ s.st) (h6 : s.st ≤ 6) (hw : s.st = 2 → 1 ≤ s.wt ∧ s.wt < 4294967296) : Ok c L s := ⟨by omega, h6, h.kn, hw, fun _ => h.nx, h.po, h.ln, h.one, fun e _ => h.pe e, fun e => by omega⟩
theorem tickA_ok {c : LC} {L : List (Int × Int)} (g : CfgOk c L) {s : St} (h : Ok c L s) (h2 : 2 ≤ s.st) : Ok c L (tickA c L s) ∧ 2 ≤ (tickA c L s).st ∧ (tickA c L s).nx = s.nx ∧ (tickA c L s).po = s.po ∧ (tickA c L s).re = s.re := by
  have hp := aged_pre h h2
  have h6 := h.st1
  have he : ∀ s', 2 ≤ (elect c s').st := fun s' => by have := (elState_in c (chosen c s')).1; show 2 ≤ elState c (chosen c s'); omega
  unfold tickA tickEl
  dsimp only
  split
  · rename_i hs
    have hw := h.wt hs
    split
    · exact ⟨elect_ok g ⟨hp.kn, hp.nx, hp.po, hp.ln, hp.one, hp.pe⟩, he _, rfl, rfl, rfl⟩
    · rename_i h1
      exact ⟨PreOk.ok (s := { s with l := age c L s.l, wt := s.wt - 1 }) ⟨hp.kn, hp.nx, hp.po, hp.ln, hp.one, hp.pe⟩ h2 h6 (fun _ => by show 1 ≤ s.wt - 1 ∧ s.wt - 1 < 4294967296; omega), h2, rfl, rfl, rfl⟩
  · rename_i hs
    split
    · exact ⟨elect_ok g hp, he _, rfl, rfl, rfl⟩
    · exact ⟨hp.ok h2 h6 (fun e => absurd e hs), h2, rfl, rfl, rfl⟩
theorem tick_ok {c : LC} {L : List (Int × Int)} (g : CfgOk c L) {s : St} (h : Ok c L s) : Ok c L (tickSt c L s) := by
  unfold tickSt
  split
  · exact h
  · rename_i h1
    have h2 : 2 ≤ s.st := by omega
    obtain ⟨ha, h3, hnx, hpo, _⟩ := tickA_ok g h h2
    have hh0 := g.hi0
    have hh := g.hi
    have hp0 := g.po0
    have hp := g.po
    have hx := ha.nx h3
    have hy := ha.po
    refine ⟨ha.st0, ha.st1, ha.kn, ha.wt, fun _ => ?_, ?_, ha.ln, ha.one, ha.pe, ha.dn⟩
    · show 1 ≤ (if (tickA c L s).nx = 1 then c.hi else (tickA c L s).nx - 1) ∧ (if (tickA c L s).nx = 1 then c.hi else (tickA c L s).nx - 1) < 4294967296
      split <;> omega
    · show 0 ≤ (if (tickA c L s).po = 0 then 0 else if (tickA c L s).po = 1 then c.po else (tickA c L s).po - 1) ∧ (if (tickA c L s).po = 0 then 0 else if (tickA c L s).po = 1 then c.po else (tickA c L s).po - 1) < 4294967296
      split
      · omega
      · split <;> omega
theorem mark_ok {c : LC} {L : List (Int × Int)} {s : St} (h : Ok c L s) (a : Int) (b : Bool) : Ok c L { s with l := markL a b s.l } := by
  have hl : (markL a b s.l).length = s.l.length := by unfold markL; rw [List.length_map]
  refine ⟨h.st0, h.st1, fun k hk => ?_, h.wt, h.nx, h.po, by rw [hl]; exact h.ln, fun e => by rw [hl]; exact h.one e, fun e e2 => by rw [hl]; exact h.pe e e2, fun e => by rw [h.dn e]; rfl⟩
  obtain ⟨x, hx, rfl⟩ := List.mem_map.1 hk
  have hk := h.kn x hx
  split
  · exact ⟨hk.st0, hk.lf, hk.wa⟩
  · exact hk
theorem reach_ok {c : LC} {L : List (Int × Int)} {s : St} (h : Ok c L s) (a : Int) : Ok c L { s with re := a } := ⟨h.st0, h.st1, h.kn, h.wt, h.nx, h.po, h.ln, h.one, h.pe, h.dn⟩
theorem findI_neg {c : LC} {f r : Int} {l : List Kn} : findI c f r l < 0 ↔ find c f r l = none := by
  unfold findI
  cases find c f r l with
  | none => simp
  | some i => simp
theorem find_lt {c : LC} {f r : Int} {l : List Kn} {i : Nat} (h : find c f r l = some i) : i < l.length := by
  unfold find at h
  rw [List.findIdx?_eq_some_iff_getElem] at h
  exact h.1
theorem may0 {c : LC} {s : St} {f r : Int} {h : Hel} (h0 : mayE c s f r h = 0) : 2 ≤ s.st ∧ (c.peers = true → find c f r s.l ≠ none) ∧ (c.ty = 0 → find c f r s.l = none → s.l.length < 64) ∧ (f ≠ 0) := by
  unfold mayE at h0
  split at h0
  · omega
  split at h0
  · omega
  split at h0
  · omega
  split at h0
  · omega
  split at h0
  · omega
  split at h0
  · omega
  split at h0
  · omega
  split at h0
  · omega
  split at h0
  · omega
  rename_i h1 h2 h3 h4 h5 h6 h7 h8 h9
  refine ⟨by omega, fun hp hn => h8 ⟨hp, findI_neg.2 hn⟩, fun ht hn => ?_, fun e => h5 (.inr (.inr (.inl e)))⟩
  by_cases hl : s.l.length < 64
  · exact hl
  · exact absurd ⟨ht, findI_neg.2 hn, by omega⟩ h9
theorem place_le (f : Int) : ∀ l : List Kn, place f l ≤ l.length
  | [] => Nat.le_refl _
  | k :: l => by
    unfold place
    have := place_le f l
    split
    · show place f l + 1 ≤ l.length + 1
      omega
    · exact Nat.zero_le _
theorem putL_len {c : LC} {f : Int} {l : List Kn} : (c.ty = 0 → (putL c f l).length = l.length + 1) ∧ (c.ty ≠ 0 → (putL c f l).length = 1) := by
  unfold putL
  refine ⟨fun h => ?_, fun h => by rw [if_neg h]; rfl⟩
  rw [if_pos h]
  have := place_le f l
  simp
  omega
theorem putL_at {c : LC} {f : Int} {l : List Kn} : (putL c f l)[putAt c f l]? = some zero := by
  unfold putL putAt
  split
  · have := place_le f l
    rw [List.getElem?_append_right (by simp; omega), List.length_take, Nat.min_eq_left this, Nat.sub_self]
    rfl
  · rfl
theorem putL_ok {c : LC} {f : Int} {l : List Kn} (h : ∀ x ∈ l, KnOk x) : ∀ x ∈ putL c f l, KnOk x := by
  intro x hx
  unfold putL at hx
  split at hx
  · rcases List.mem_append.1 hx with hx | hx
    · exact h x (List.mem_of_mem_take hx)
    · rcases List.mem_cons.1 hx with rfl | hx
      · exact zero_ok
      · exact h x (List.mem_of_mem_drop hx)
  · rw [List.mem_singleton.1 hx]; exact zero_ok
theorem new_ok {c : LC} {L : List (Int × Int)} (g : CfgOk c L) (f r : Int) (h : Hel) (old : Kn) : KnOk (newKn c f r h old) := by
  have h0 := g.dd0
  have h1 := g.dd
  refine ⟨?_, fun _ => ⟨h0, h1⟩, rfl⟩
  show 0 ≤ (if c.ro ∈ h.nb then (3 : Int) else 2)
  split <;> omega
theorem hear1_pre {c : LC} {L : List (Int × Int)} (g : CfgOk c L) {s : St} (hs : Ok c L s) {f r : Int} {h : Hel} (h0 : mayE c s f r h = 0) (old : Kn) : PreOk c L (hear1 c s f r h old) := by
  obtain ⟨h2, hp, hf, _⟩ := may0 h0
  have hlen : (hear1 c s f r h old).l.length = (withSpot c f r s.l).length := by unfold hear1; dsimp only; rw [List.length_set]
  have hw : ∀ x ∈ withSpot c f r s.l, KnOk x := by
    unfold withSpot
    split
    · exact hs.kn
    · exact putL_ok hs.kn
  refine ⟨fun k hk => ?_, hs.nx h2, hs.po, ?_, fun e => ?_, fun e => ?_⟩
  · rcases List.mem_or_eq_of_mem_set hk with hk | rfl
    · exact hw k hk
    · exact new_ok g f r h old
  · rw [hlen]
    unfold withSpot
    split
    · exact hs.ln
    · rename_i hn
      by_cases ht : c.ty = 0
      · rw [putL_len.1 ht]; have := hf ht hn; omega
      · rw [putL_len.2 ht]; omega
  · rw [hlen]
    unfold withSpot
    split
    · exact hs.one e
    · rw [putL_len.2 (by omega)]
      omega
  · rw [hlen]
    unfold withSpot
    split
    · exact hs.pe e h2
    · rename_i hn
      exact absurd hn (hp e)
theorem hear_ok {c : LC} {L : List (Int × Int)} (g : CfgOk c L) {s : St} (hs : Ok c L s) (f r : Int) (h : Hel) : Ok c L (hearSt c s f r h) := by
  unfold hearSt
  split
  · exact hs
  · rename_i h0
    have h0 : mayE c s f r h = 0 := by simpa using h0
    have h2 := (may0 h0).1
    have hp := hear1_pre g hs h0 (oldOf c s f r)
    have hx : Ok c L (hear1 c s f r h (oldOf c s f r)) := hp.ok h2 hs.st1 hs.wt
    unfold hear2
    split
    · split
      · exact elect_ok g hp
      · exact hx
    · split
      · exact elect_ok g hp
      · exact hx
theorem spot_lt {c : LC} {f r : Int} {l : List Kn} : spot c f r l < (withSpot c f r l).length := by
  unfold spot withSpot
  cases h : find c f r l with
  | none =>
    dsimp only
    exact (List.getElem?_eq_some_iff.1 (putL_at (c := c) (f := f) (l := l))).1
  | some i => exact find_lt h
end Pl
end Go.Proofs.Ytgbmhijgpdgdbaa
namespace Go.Proofs.Ytgbmhijgpdgdbaa
open Go.RowKit
def OutsOwn (base : Nat) (tE : TypeId) (w : World) (v : Value) (l : List (Int × Pl.Hel)) : Prop :=
  ∃ nvs : List Value, nvs.length = l.length ∧ w.ownsRow base tE 9 v l.length ((l.zip nvs).flatMap scl) ∧ ∀ (i : Nat) (x : Int × Pl.Hel) (nv : Value), l[i]? = some x → nvs[i]? = some nv → WordsOwn w nv x.2.nb
theorem OutsOwn.nil (base : Nat) (tE : TypeId) (w : World) : OutsOwn base tE w (.slice none 0 0) [] := ⟨[], rfl, World.ownsRow_nil _ _ _ _, fun i x nv hx => by simp at hx⟩
theorem OutsOwn.slice {base : Nat} {tE : TypeId} {w : World} {v : Value} {l : List (Int × Pl.Hel)} (h : OutsOwn base tE w v l) : ∃ A c, v = .slice A l.length c := own_slice h.choose_spec.2.1
theorem OutsOwn.below {base : Nat} {tE : TypeId} {w w' : World} {v : Value} {l : List (Int × Pl.Hel)} (h : OutsOwn base tE w v l) (hb : Below w.heap.size w w') : OutsOwn base tE w' v l := by
  obtain ⟨nvs, h1, h2, h3⟩ := h
  exact ⟨nvs, h1, (Frame.of_below (S := fun _ => False) hb).own h2 (fun _ _ e => e), fun i x nv hx hn => (h3 i x nv hx hn).below hb⟩
theorem OutsOwn.fr {S : Nat → Prop} {base : Nat} {tE : TypeId} {w w' : World} {v : Value} {l : List (Int × Pl.Hel)} (h : OutsOwn base tE w v l) (hf : Frame S w w') (hS : ∀ g cs t, Blk w g t cs → (t = tE ∨ t = 25) → ¬ S g) : OutsOwn base tE w' v l := by
  obtain ⟨nvs, h1, h2, h3⟩ := h
  refine ⟨nvs, h1, hf.own h2 (fun g hg => ?_), fun i x nv hx hn => (h3 i x nv hx hn).fr hf (fun g hg => ?_)⟩
  · obtain ⟨_, cs, hc⟩ := own_cells h2 g hg
    exact hS g cs tE hc (.inl rfl)
  · obtain ⟨_, b, h4⟩ := h3 i x nv hx hn
    obtain ⟨_, cs, hc⟩ := own_cells h4 g hg
    exact hS g cs _ hc (.inr rfl)
theorem OutsOwn.at_ {base : Nat} {tE : TypeId} {w : World} {v : Value} {l : List (Int × Pl.Hel)} (h : OutsOwn base tE w v l) (hl : l.length ≤ 65536) : OutsAt w v l := by
  obtain ⟨nvs, h1, h2, h3⟩ := h
  obtain ⟨A, c, rfl⟩ := own_slice h2
  exact ⟨A, _, c, nvs, rfl, rfl, h1, hl, Reads.of_own h2, h3⟩
theorem outs_one {w : World} {l : List (Int × Pl.Hel)} {nvs : List Value} (h : ∀ (i : Nat) (x : Int × Pl.Hel) (nv : Value), l[i]? = some x → nvs[i]? = some nv → WordsOwn w nv x.2.nb) : ∀ u ∈ (l.zip nvs).flatMap scl, u.oneCell' = true := by
  intro u hu
  obtain ⟨p, hp, hu⟩ := List.mem_flatMap.1 hu
  obtain ⟨i, hi, rfl⟩ := List.mem_iff_getElem.1 hp
  have hil : i < l.length ∧ i < nvs.length := by rw [List.length_zip] at hi; omega
  rw [List.getElem_zip] at hu
  obtain ⟨_, b, h4⟩ := h i _ _ (List.getElem?_eq_getElem hil.1) (List.getElem?_eq_getElem hil.2)
  obtain ⟨A, c, e⟩ := own_slice h4
  simp only [scl, hcl, List.mem_cons, List.not_mem_nil, or_false] at hu
  rcases hu with h | h | h | h | h | h | h | h | h <;> rw [h] <;> first | rfl | (rw [e]; rfl)
theorem outs_join {base : Nat} {tE : TypeId} {w w4 : World} {v v1 : Value} {l l' : List (Int × Pl.Hel)} {nvs nvs' : List Value} (hne : 25 ≠ tE) (hl : nvs.length = l.length) (hown : w.ownsRow base tE 9 v l.length ((l.zip nvs).flatMap scl))
    (hw : ∀ (i : Nat) (x : Int × Pl.Hel) (nv : Value), l[i]? = some x → nvs[i]? = some nv → WordsOwn w nv x.2.nb) (hl' : nvs'.length = l'.length) (hw' : ∀ (i : Nat) (x : Int × Pl.Hel) (nv : Value), l'[i]? = some x → nvs'[i]? = some nv → WordsOwn w nv x.2.nb)
    (hg : w.grownBy w4 v.ownBlock) (h1 : w4.ownsRow base tE 9 v1 (l.length + l'.length) ((l.zip nvs).flatMap scl ++ (l'.zip nvs').flatMap scl)) : OutsOwn base tE w4 v1 (l ++ l') := by
  have hf : Frame (fun k => v.ownBlock = some k) w w4 := Frame.of_grown hg (fun k e _ => e)
  have hk : ∀ (nv : Value) (ws : List Int), WordsOwn w nv ws → WordsOwn w4 nv ws := fun nv ws h => h.fr hf (fun g hg e => by
    obtain ⟨_, b, h4⟩ := h
    exact rows_apart h4 hown hne hg e)
  refine ⟨nvs ++ nvs', by rw [List.length_append, List.length_append, hl, hl'], by rw [List.length_append, List.zip_append hl.symm, List.flatMap_append]; exact h1, fun i x nv hx hn => ?_⟩
  by_cases hi : i < l.length
  · rw [List.getElem?_append_left hi] at hx
    rw [List.getElem?_append_left (by omega)] at hn
    exact hk nv _ (hw i x nv hx hn)
  · rw [List.getElem?_append_right (by omega)] at hx
    rw [List.getElem?_append_right (by omega), hl] at hn
    exact hk nv _ (hw' _ x nv hx hn)
theorem round_len (c : LC) (s : Pl.St) (pb : Bool) : (Pl.round c s pb).length ≤ s.l.length + 1 := by
  unfold Pl.round
  split
  · rw [List.length_map]
    have := List.length_filter_le (Pl.due c s pb) s.l
    omega
  · split
    · exact Nat.zero_le _
    · show 1 ≤ _
      omega
def curL (c : LC) (L : List (Int × Int)) (l : List Kn) (k : Nat) : List Kn := Pl.agedTo c L l k ++ l.drop k
theorem curL_zero (c : LC) (L : List (Int × Int)) (l : List Kn) : curL c L l 0 = l := rfl
theorem curL_all (c : LC) (L : List (Int × Int)) (l : List Kn) : curL c L l l.length = Pl.age c L l := by unfold curL Pl.age; simp
theorem curL_len (c : LC) (L : List (Int × Int)) (l : List Kn) (k : Nat) : (curL c L l k).length = (Pl.agedTo c L l k).length + (l.length - k) := by unfold curL; simp
theorem curL_cons {c : LC} {L : List (Int × Int)} {l : List Kn} {k : Nat} {x : Kn} (hx : l[k]? = some x) : curL c L l k = Pl.agedTo c L l k ++ x :: l.drop (k + 1) := by
  obtain ⟨hk, rfl⟩ := List.getElem?_eq_some_iff.1 hx
  unfold curL
  rw [List.drop_eq_getElem_cons hk]
theorem curL_at {c : LC} {L : List (Int × Int)} {l : List Kn} {k : Nat} {x : Kn} (hx : l[k]? = some x) : (curL c L l k)[(Pl.agedTo c L l k).length]? = some x := by
  rw [curL_cons hx, List.getElem?_append_right (Nat.le_refl _), Nat.sub_self]
  rfl
theorem aged_next {c : LC} {L : List (Int × Int)} {l : List Kn} {k : Nat} {x : Kn} (hx : l[k]? = some x) : Pl.agedTo c L l (k + 1) = Pl.agedTo c L l k ++ Pl.ageK c (L.getD k (0, 0)) x := by
  have e : l.getD k Pl.zero = x := by rw [List.getD_eq_getElem?_getD, hx]; rfl
  show Pl.agedTo c L l k ++ Pl.ageK c (L.getD k (0, 0)) (l.getD k Pl.zero) = _
  rw [e]
theorem aged_keep {c : LC} {L : List (Int × Int)} {l : List Kn} {k : Nat} {x : Kn} (hx : l[k]? = some x) (hq : Pl.quietK c x = true) : curL c L l (k + 1) = curL c L l k ∧ (Pl.agedTo c L l (k + 1)).length = (Pl.agedTo c L l k).length + 1 := by
  have e : Pl.ageK c (L.getD k (0, 0)) x = [x] := by unfold Pl.ageK; rw [if_pos hq]
  have h := aged_next (c := c) (L := L) hx
  rw [e] at h
  refine ⟨?_, by rw [h, List.length_append]; rfl⟩
  rw [curL_cons hx]
  unfold curL
  rw [h, List.append_assoc]
  rfl
theorem aged_older {c : LC} {L : List (Int × Int)} {l : List Kn} {k : Nat} {x : Kn} (hx : l[k]? = some x) (hq : Pl.quietK c x = false) (h1 : x.lf ≠ 1) : (curL c L l k).set (Pl.agedTo c L l k).length { x with lf := x.lf - 1 } = curL c L l (k + 1) ∧ (Pl.agedTo c L l (k + 1)).length = (Pl.agedTo c L l k).length + 1 := by
  have e : Pl.ageK c (L.getD k (0, 0)) x = [Pl.older x] := by unfold Pl.ageK; rw [if_neg (by rw [hq]; decide), if_neg h1]
  have h := aged_next (c := c) (L := L) hx
  rw [e] at h
  refine ⟨?_, by rw [h, List.length_append]; rfl⟩
  rw [curL_cons hx, List.set_append_right _ _ (Nat.le_refl _), Nat.sub_self, List.set_cons_zero]
  unfold curL
  rw [h, List.append_assoc]
  rfl
theorem aged_drop {c : LC} {L : List (Int × Int)} {l : List Kn} {k : Nat} {x y : Kn} (hx : l[k]? = some x) (hq : Pl.quietK c x = false) (h1 : x.lf = 1) : dropL c L (Pl.agedTo c L l k).length ((curL c L l k).set (Pl.agedTo c L l k).length y) = curL c L l (k + 1) ∧ (Pl.agedTo c L l (k + 1)).length = (Pl.agedTo c L l k).length + (if c.peers then 1 else 0) := by
  have h := aged_next (c := c) (L := L) hx
  unfold dropL
  rcases hp : c.peers with _ | _
  · have e : Pl.ageK c (L.getD k (0, 0)) x = [] := by unfold Pl.ageK; rw [if_neg (by rw [hq]; decide), if_pos h1, hp]; rfl
    rw [e, List.append_nil] at h
    refine ⟨?_, by rw [h]; rfl⟩
    rw [curL_cons hx, List.set_append_right _ _ (Nat.le_refl _), Nat.sub_self, List.set_cons_zero, if_neg (by decide), List.eraseIdx_append_of_length_le (Nat.le_refl _), Nat.sub_self]
    unfold curL
    rw [h]
    rfl
  · have e : Pl.ageK c (L.getD k (0, 0)) x = [Pl.gone (L.getD k (0, 0))] := by unfold Pl.ageK; rw [if_neg (by rw [hq]; decide), if_pos h1, hp]; rfl
    have hk := (Pl.aged_len c L l k).2 hp
    rw [e] at h
    refine ⟨?_, by rw [h, List.length_append]; rfl⟩
    rw [if_pos rfl, List.set_set, curL_cons hx, List.set_append_right _ _ (Nat.le_refl _), Nat.sub_self, List.set_cons_zero, hk]
    unfold curL
    rw [h, List.append_assoc]
    rfl
def lostTo (c : LC) (l : List Kn) (k : Nat) : Bool := (l.take k).any fun k => !Pl.quietK c k && ((k.lf == 1) && Pl.two k)
theorem lost_next {c : LC} {l : List Kn} {k : Nat} {x : Kn} (hx : l[k]? = some x) : lostTo c l (k + 1) = (lostTo c l k || (!Pl.quietK c x && ((x.lf == 1) && Pl.two x))) := by
  unfold lostTo
  rw [List.take_add_one, hx, List.any_append]
  simp
theorem lost_all (c : LC) (l : List Kn) : lostTo c l l.length = Pl.lost c l := by unfold lostTo Pl.lost; rw [List.take_length]
end Go.Proofs.Ytgbmhijgpdgdbaa
