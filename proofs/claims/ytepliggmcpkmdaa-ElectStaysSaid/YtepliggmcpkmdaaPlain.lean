/- Plain law of the election, no program in sight: what a list of voices designates ('once'), whom a router elects ('elect'), and what follows: someone is designated just if someone may be; a lone chief stays; the order of the others is no matter. -/
namespace Go.Proofs.Ytepliggmcpkmdaa
namespace El

/-- A voice: router, address, priority, the two addresses that it names. -/
structure V where
  r : Int
  a : Int
  p : Int
  d : Int
  b : Int
deriving DecidableEq

def V.zero : V := ⟨0, 0, 0, 0, 0⟩
def chief (v : V) : Bool := v.a != 0 && v.d == v.a
def backup (v : V) : Bool := v.a != 0 && v.b == v.a

/-- v is ahead of the one found so far. -/
def over (v b : V) : Bool := decide (v.p > b.p) || (v.p == b.p && decide (v.r > b.r))
def stepB (c : V → Bool) (acc : Option V) (v : V) : Option V :=
  if c v then (match acc with | none => some v | some b => if over v b then some v else some b) else acc
def best (c : V → Bool) (l : List V) : Option V := l.foldl (stepB c) none
def addr : Option V → Int | none => 0 | some v => v.a

def cC (v : V) : Bool := v.p != 0 && chief v
def cR (v : V) : Bool := v.p != 0 && !chief v
def cB (v : V) : Bool := v.p != 0 && (!chief v && backup v)

def second (l : List V) : Int := if (best cB l).isSome then addr (best cB l) else addr (best cR l)
def once (l : List V) : Int × Int := if (best cC l).isSome then (addr (best cC l), second l) else (second l, second l)

def now (self : V) (isC isB : Bool) : V := { self with d := if isC then self.a else 0, b := if isC then 0 else if isB then self.a else 0 }
def isC (self : V) (o : Int × Int) : Bool := self.a != 0 && o.1 == self.a
def isB (self : V) (o : Int × Int) : Bool := self.a != 0 && o.2 == self.a
def elect (self : V) (others : List V) : Int × Int :=
  let o := once (self :: others)
  if isC self o == chief self && isB self o == backup self then o else once (now self (isC self o) (isB self o) :: others)

theorem snoc_ind {P : List V → Prop} (h0 : P []) (h1 : ∀ l x, P l → P (l ++ [x])) (l : List V) : P l := by
  rw [← List.reverse_reverse l]
  induction l.reverse with
  | nil => exact h0
  | cons x l ih => rw [List.reverse_cons]; exact h1 _ _ ih

theorem best_snoc (c : V → Bool) (l : List V) (v : V) : best c (l ++ [v]) = stepB c (best c l) v := by simp [best]
theorem best_nil (c : V → Bool) : best c [] = none := rfl

/-- What is best: a member that counts; none just if none counts. -/
theorem best_mem (c : V → Bool) (l : List V) : ∀ v, best c l = some v → v ∈ l ∧ c v = true := by
  induction l using snoc_ind with
  | h0 => intro v h; simp [best] at h
  | h1 l x ih =>
    intro v h
    rw [best_snoc] at h
    unfold stepB at h
    by_cases hx : c x = true
    · rw [if_pos hx] at h
      cases hb : best c l with
      | none => rw [hb] at h; injection h with h; subst h; exact ⟨by simp, hx⟩
      | some b =>
        rw [hb] at h
        have := ih b hb
        dsimp only at h
        split at h
        · injection h with h; subst h; exact ⟨by simp, hx⟩
        · injection h with h; subst h; exact ⟨by simp [this.1], this.2⟩
    · rw [if_neg hx] at h
      have := ih v h
      exact ⟨by simp [this.1], this.2⟩

theorem best_none (c : V → Bool) (l : List V) : best c l = none ↔ ∀ v ∈ l, c v = false := by
  induction l using snoc_ind with
  | h0 => simp [best]
  | h1 l x ih =>
    rw [best_snoc]
    unfold stepB
    by_cases hx : c x = true
    · rw [if_pos hx]
      constructor
      · intro h
        cases hb : best c l with
        | none => rw [hb] at h; cases h
        | some b => rw [hb] at h; dsimp only at h; split at h <;> cases h
      · intro h; have := h x (by simp); rw [hx] at this; cases this
    · rw [if_neg hx, ih]
      constructor
      · intro h v hv
        rcases List.mem_append.1 hv with hv | hv
        · exact h v hv
        · rw [List.mem_singleton.1 hv]; simpa using hx
      · intro h v hv; exact h v (List.mem_append_left _ hv)

theorem best_isSome (c : V → Bool) (l : List V) : (best c l).isSome = l.any c := by
  rw [Bool.eq_iff_iff, List.any_eq_true]
  constructor
  · intro h
    obtain ⟨v, hv⟩ := Option.isSome_iff_exists.1 h
    exact ⟨v, best_mem c l v hv⟩
  · rintro ⟨v, hv, hc⟩
    cases hb : best c l with
    | none => have := (best_none c l).1 hb v hv; rw [hc] at this; cases this
    | some b => rfl

/-- Nobody that counts is ahead of the best. -/
theorem over_irrefl (v : V) : over v v = false := by simp [over]
theorem over_trans {u v w : V} (h : over u v = false) (h' : over v w = false) : over u w = false := by
  simp [over] at *; omega
theorem over_tot {u v : V} (h : over u v = true) : over v u = false := by
  simp [over] at *; omega
theorem best_top (c : V → Bool) (l : List V) : ∀ v, best c l = some v → ∀ u ∈ l, c u = true → over u v = false := by
  induction l using snoc_ind with
  | h0 => intro v h; simp [best] at h
  | h1 l x ih =>
    intro v h u hu hcu
    rw [best_snoc] at h
    unfold stepB at h
    by_cases hx : c x = true
    · rw [if_pos hx] at h
      cases hb : best c l with
      | none =>
        rw [hb] at h; injection h with h; subst h
        rcases List.mem_append.1 hu with hu | hu
        · have := (best_none c l).1 hb u hu; rw [hcu] at this; cases this
        · rw [List.mem_singleton.1 hu]; exact over_irrefl _
      | some b =>
        rw [hb] at h
        dsimp only at h
        by_cases ho : over x b = true
        · rw [if_pos ho] at h; injection h with h; subst h
          rcases List.mem_append.1 hu with hu | hu
          · exact over_trans (ih b hb u hu hcu) (over_tot ho)
          · rw [List.mem_singleton.1 hu]; exact over_irrefl _
        · rw [if_neg ho] at h; injection h with h; subst h
          rcases List.mem_append.1 hu with hu | hu
          · exact ih b hb u hu hcu
          · rw [List.mem_singleton.1 hu]; simpa using ho
    · rw [if_neg hx] at h
      rcases List.mem_append.1 hu with hu | hu
      · exact ih v h u hu hcu
      · rw [List.mem_singleton.1 hu] at hcu; exact absurd hcu hx

/-- Unlike routers: the best hangs on who is there, not on the order. -/
theorem best_perm (c : V → Bool) {l m : List V} (hl : ∀ u ∈ l, ∀ v ∈ l, u.r = v.r → u = v) (hm : ∀ v, v ∈ l ↔ v ∈ m) : best c l = best c m := by
  cases h1 : best c l with
  | none =>
    symm; rw [best_none]; intro v hv; exact (best_none c l).1 h1 v ((hm v).2 hv)
  | some v =>
    obtain ⟨a1, a2⟩ := best_mem c l v h1
    cases h2 : best c m with
    | none => have := (best_none c m).1 h2 v ((hm v).1 a1); rw [a2] at this; cases this
    | some u =>
      obtain ⟨b1, b2⟩ := best_mem c m u h2
      have t1 := best_top c l v h1 u ((hm u).2 b1) b2
      have t2 := best_top c m u h2 v ((hm v).1 a1) a2
      congr 1
      apply hl v a1 u ((hm u).2 b1)
      simp [over] at t1 t2; omega

theorem once_perm {l m : List V} (hl : ∀ u ∈ l, ∀ v ∈ l, u.r = v.r → u = v) (hm : ∀ v, v ∈ l ↔ v ∈ m) : once l = once m := by
  unfold once second
  rw [best_perm cC hl hm, best_perm cB hl hm, best_perm cR hl hm]

/-- ElectOrder. -/
theorem elect_perm {self : V} {l m : List V} (hs : ∀ u ∈ l, u.r ≠ self.r) (hl : ∀ u ∈ l, ∀ v ∈ l, u.r = v.r → u = v) (hm : ∀ v, v ∈ l ↔ v ∈ m) : elect self l = elect self m := by
  have key : ∀ s : V, s.r = self.r → once (s :: l) = once (s :: m) := by
    intro s hsr
    apply once_perm
    · intro u hu v hv huv
      rcases List.mem_cons.1 hu with hu' | hu' <;> rcases List.mem_cons.1 hv with hv' | hv'
      · rw [hu', hv']
      · subst hu'; exact absurd (huv.symm.trans hsr) (hs v hv')
      · subst hv'; exact absurd (huv.trans hsr) (hs u hu')
      · exact hl u hu' v hv' huv
    · intro v; simp [hm v]
  unfold elect
  simp only [key self rfl, key (now self _ _) rfl]

/-- ElectSome, of what all say at once. -/
theorem once_some {l : List V} (ha : ∀ v ∈ l, v.a ≠ 0) :
    ((once l).1 ≠ 0 ↔ ∃ v ∈ l, v.p ≠ 0) ∧ ((¬ ∃ v ∈ l, v.p ≠ 0) → (once l).2 = 0) := by
  have addr_ne : ∀ c, (best c l).isSome = true → addr (best c l) ≠ 0 := by
    intro c h
    obtain ⟨v, hv⟩ := Option.isSome_iff_exists.1 h
    rw [hv]; exact ha v (best_mem c l v hv).1
  by_cases he : ∃ v ∈ l, v.p ≠ 0
  · refine ⟨⟨fun _ => he, fun _ => ?_⟩, fun h => absurd he h⟩
    unfold once
    split
    · exact addr_ne _ (by assumption)
    · rename_i hC
      show second l ≠ 0
      unfold second
      split
      · exact addr_ne _ (by assumption)
      · apply addr_ne
        rw [best_isSome] at hC ⊢
        obtain ⟨v, hv, hp⟩ := he
        rw [List.any_eq_true]
        refine ⟨v, hv, ?_⟩
        have : ¬ cC v = true := fun h => hC (List.any_eq_true.2 ⟨v, hv, h⟩)
        simp [cC, cR, hp] at this ⊢
        exact this
  · have hz : ∀ v ∈ l, v.p = 0 := fun v hv => Classical.byContradiction fun h => he ⟨v, hv, h⟩
    have hb : ∀ c : V → Bool, (∀ v, v.p = 0 → c v = false) → best c l = none := fun c hc => (best_none c l).2 fun v hv => hc v (hz v hv)
    have b1 := hb cC (by intro v h; simp [cC, h])
    have b2 := hb cR (by intro v h; simp [cR, h])
    have b3 := hb cB (by intro v h; simp [cB, h])
    have : once l = (0, 0) := by simp [once, second, b1, b2, b3, addr]
    rw [this]
    exact ⟨⟨fun h => absurd rfl h, fun h => absurd h he⟩, fun _ => rfl⟩

theorem elect_some {self : V} {l : List V} (hs : self.a ≠ 0) (ha : ∀ v ∈ l, v.a ≠ 0) :
    ((elect self l).1 ≠ 0 ↔ (self.p ≠ 0 ∨ ∃ v ∈ l, v.p ≠ 0)) ∧ ((¬ (self.p ≠ 0 ∨ ∃ v ∈ l, v.p ≠ 0)) → (elect self l).2 = 0) := by
  have key : ∀ s : V, s.a = self.a → s.p = self.p →
      ((once (s :: l)).1 ≠ 0 ↔ (self.p ≠ 0 ∨ ∃ v ∈ l, v.p ≠ 0)) ∧ ((¬ (self.p ≠ 0 ∨ ∃ v ∈ l, v.p ≠ 0)) → (once (s :: l)).2 = 0) := by
    intro s h1 h2
    have := once_some (l := s :: l) (by intro v hv; rcases List.mem_cons.1 hv with rfl | hv; · rw [h1]; exact hs
                                        · exact ha v hv)
    simpa [h2] using this
  unfold elect
  dsimp only
  split
  · exact key self rfl rfl
  · exact key _ rfl rfl

/-- One lone chief among voices of unlike addresses: it is designated, and nobody else's address is its. -/
theorem once_lone {l : List V} {x : V} (hx : x ∈ l) (hc : cC x = true) (h1 : ∀ v ∈ l, cC v = true → v = x) (ha : x.a ≠ 0) (hd : ∀ v ∈ l, v.a = x.a → v = x) :
    (once l).1 = x.a ∧ (once l).2 ≠ x.a := by
  have hb : best cC l = some x := by
    cases h : best cC l with
    | none => have := (best_none cC l).1 h x hx; rw [hc] at this; cases this
    | some v => rw [h1 v (best_mem _ _ v h).1 (best_mem _ _ v h).2]
  have hne : ∀ c : V → Bool, (∀ v, c v = true → chief v = false) → addr (best c l) ≠ x.a := by
    intro c hcc
    cases h : best c l with
    | none => exact fun e => ha e.symm
    | some v =>
      obtain ⟨m1, m2⟩ := best_mem c l v h
      intro e
      have : v = x := hd v m1 e
      subst this
      have := hcc v m2
      simp [cC, this] at hc
  have hsec : second l ≠ x.a := by
    unfold second
    split
    · exact hne cB (by intro v h; simp [cB] at h; exact h.2.1)
    · exact hne cR (by intro v h; simp [cR] at h; exact h.2)
  unfold once
  rw [hb]
  exact ⟨rfl, hsec⟩

/-- ElectStays: whoever says so, and may be, stays. -/
theorem elect_stays {self : V} {l : List V} {x : V} (hx : x ∈ self :: l) (hc : cC x = true) (h1 : ∀ v ∈ self :: l, cC v = true → v = x) (ha : ∀ v ∈ self :: l, v.a ≠ 0)
    (hd : ∀ v ∈ l, v.a ≠ self.a) (hd2 : ∀ u ∈ l, ∀ v ∈ l, u.a = v.a → u = v) :
    (elect self l).1 = x.a ∧ (elect self l).2 ≠ x.a := by
  have hall : ∀ v ∈ self :: l, v.a = x.a → v = x := by
    intro v hv e
    rcases List.mem_cons.1 hv with hv' | hv' <;> rcases List.mem_cons.1 hx with hx' | hx'
    · rw [hv', hx']
    · subst hv'; exact absurd e.symm (hd x hx')
    · subst hx'; exact absurd e (hd v hv')
    · exact hd2 v hv' x hx' e
  have hone := once_lone hx hc h1 (ha x hx) hall
  unfold elect
  dsimp only
  split
  · exact hone
  · generalize hC : isC self (once (self :: l)) = C
    generalize hB : isB self (once (self :: l)) = B
    have hsa : self.a ≠ 0 := ha self (by simp)
    by_cases hxs : x = self
    · -- the router itself is the chief
      have e1 : C = true := by rw [← hC]; simp [isC, hsa, hone.1, hxs]
      subst e1
      have hch : chief self = true := by rw [← hxs]; simp [cC] at hc; exact hc.2
      have hda : self.d = self.a := by simp [chief, hsa] at hch; exact hch
      have ecc : cC (now self true B) = true := by
        rw [hxs] at hc
        simp [cC] at hc
        simp [cC, now, chief, hsa, hc.1]
      have := once_lone (l := now self true B :: l) (x := now self true B) (by simp) ecc ?_ hsa ?_
      · rw [hxs]; exact this
      · intro v hv hcv
        rcases List.mem_cons.1 hv with hv | hv
        · exact hv
        · have := h1 v (by simp [hv]) hcv
          exact absurd (by rw [this, hxs]) (hd v hv)
      · intro v hv e
        rcases List.mem_cons.1 hv with hv | hv
        · exact hv
        · exact absurd e (hd v hv)
    · -- another one is
      have hxl : x ∈ l := by rcases List.mem_cons.1 hx with h | h; · exact absurd h hxs
                             · exact h
      have e1 : C = false := by
        rw [← hC]; simp [isC, hone.1]; intro _ e; exact absurd e (hd x hxl)
      subst e1
      refine once_lone (l := now self false B :: l) (x := x) (by simp [hxl]) hc ?_ (ha x hx) ?_
      · intro v hv hcv
        rcases List.mem_cons.1 hv with hv | hv
        · subst hv
          simp [cC, now, chief] at hcv
          exact absurd hcv.2.2.symm hsa
        · exact h1 v (by simp [hv]) hcv
      · intro v hv e
        rcases List.mem_cons.1 hv with hv | hv
        · subst hv; exact absurd e.symm (hd x hxl)
        · exact hall v (by simp [hv]) e

end El
end Go.Proofs.Ytepliggmcpkmdaa
