/- What the two have in the end: the plain law of the lists. -/
import Derived.Test.YtgbmhijgpdgdbaaFaLearn
import Derived.Test.YtgbmhijgpdgdbaaFaTakeG
namespace Go.Proofs.Ytgbmhijgpdgdbaa
open Go.RowKit

def Uniq (l : List Od.Hd) : Prop := l.Pairwise (fun x y => keyOfHd x ≠ keyOfHd y)

theorem have_none {l : List Od.Hd} {k : Od.Ky} : haveOf l k = none ↔ ∀ x ∈ l, keyOfHd x ≠ k := by
  unfold haveOf
  rw [List.find?_eq_none]
  simp
theorem have_key {l : List Od.Hd} {k : Od.Ky} {h : Od.Hd} (e : haveOf l k = some h) : h ∈ l ∧ keyOfHd h = k := ⟨List.mem_of_find?_eq_some e, by have := List.find?_some e; simpa using this⟩
theorem have_cons (x : Od.Hd) (l : List Od.Hd) (k : Od.Ky) : haveOf (x :: l) k = if keyOfHd x = k then some x else haveOf l k := by
  unfold haveOf
  rw [List.find?_cons]
  by_cases e : keyOfHd x = k
  · simp [e]
  · simp [e]
theorem have_mem {l : List Od.Hd} (hu : Uniq l) {h : Od.Hd} (hm : h ∈ l) : haveOf l (keyOfHd h) = some h := by
  induction l with
  | nil => cases hm
  | cons x l ih =>
    rw [have_cons]
    obtain ⟨h1, h2⟩ := List.pairwise_cons.1 hu
    rcases List.mem_cons.1 hm with rfl | hm
    · rw [if_pos rfl]
    · rw [if_neg (h1 h hm)]
      exact ih h2 hm
theorem Uniq.filter {l : List Od.Hd} (hu : Uniq l) (q : Od.Hd → Bool) : Uniq (l.filter q) := List.Pairwise.filter q hu
theorem Uniq.take {l : List Od.Hd} (hu : Uniq l) (n : Nat) : Uniq (l.take n) := List.Pairwise.sublist (List.take_sublist n l) hu
theorem Uniq.drop {l : List Od.Hd} (hu : Uniq l) (n : Nat) : Uniq (l.drop n) := List.Pairwise.sublist (List.drop_sublist n l) hu

theorem wantsM_have {l : List Od.Hd} (hu : Uniq l) : wantsM l (fun _ => none) = haveOf l := by
  have : ∀ n, n ≤ l.length → wantsM (l.take n) (fun _ => none) = haveOf (l.take n) := by
    intro n
    induction n with
    | zero => intro _; rfl
    | succ n ih =>
      intro hn
      have hx : l[n]? = some l[n] := List.getElem?_eq_getElem (by omega)
      have hno : haveOf (l.take n) (keyOfHd l[n]) = none := have_none.2 fun x hx2 => by
        obtain ⟨j, hj, e⟩ := List.mem_take_iff_getElem.1 hx2
        have := List.pairwise_iff_getElem.1 hu j n (by omega) (by omega) (by omega)
        rw [← e]
        exact this
      rw [take_snoc hx, wantsM_snoc, ih (by omega), haveOf_snoc_none hno]
  have h := this l.length (Nat.le_refl _)
  rwa [List.take_of_length_le (Nat.le_refl _)] at h

theorem have_pop {x : Od.Hd} {l : List Od.Hd} (hu : Uniq (x :: l)) : upd (haveOf (x :: l)) (keyOfHd x) none = haveOf l := by
  funext k
  obtain ⟨h1, _⟩ := List.pairwise_cons.1 hu
  by_cases e : k = keyOfHd x
  · subst e
    rw [upd_self]
    exact (have_none.2 fun y hy e => h1 y hy e.symm).symm
  · rw [upd_ne e, have_cons, if_neg (fun e2 => e e2.symm)]

/-- What counts of a head and of what there was of its key. -/
def best (own : List Od.Hd) (h : Od.Hd) : Od.Hd :=
  match haveOf own (keyOfHd h) with
  | none => h
  | some o => if 0 < Od.newer h o then h else o

theorem findIdx_have {own : List Od.Hd} {k : Od.Ky} {i : Nat} (h : own.findIdx? (fun x => keyOfHd x = k) = some i) : ∃ x, own[i]? = some x ∧ keyOfHd x = k ∧ haveOf own k = some x := by
  rw [List.findIdx?_eq_some_iff_getElem] at h
  obtain ⟨hi, h1, h2⟩ := h
  have hx : own[i]? = some own[i] := List.getElem?_eq_getElem hi
  refine ⟨own[i], hx, by simpa using h1, ?_⟩
  unfold haveOf
  rw [List.find?_eq_some_iff_getElem]
  exact ⟨h1, i, hi, rfl, fun j hj => by have := h2 j hj; simpa using this⟩

theorem set_keys {own : List Od.Hd} {i : Nat} {x h : Od.Hd} (hx : own[i]? = some x) (hk : keyOfHd x = keyOfHd h) : (own.set i h).map keyOfHd = own.map keyOfHd := by
  obtain ⟨hi, e⟩ := List.getElem?_eq_some_iff.1 hx
  apply List.ext_getElem?
  intro j
  rw [List.getElem?_map, List.getElem?_map, List.getElem?_set]
  by_cases hj : i = j
  · subst hj
    rw [if_pos rfl, if_pos hi, hx]
    simp [hk]
  · rw [if_neg hj]

theorem uniq_keys {l : List Od.Hd} : Uniq l ↔ (l.map keyOfHd).Nodup := by
  unfold Uniq List.Nodup
  rw [List.pairwise_map]

theorem learn_keys (own : List Od.Hd) (h : Od.Hd) : (learnL own h).map keyOfHd = if (haveOf own (keyOfHd h)).isNone then own.map keyOfHd ++ [keyOfHd h] else own.map keyOfHd := by
  unfold learnL
  rcases hf : own.findIdx? (fun x => decide (keyOfHd x = keyOfHd h)) with _ | i
  · have hn : haveOf own (keyOfHd h) = none := have_none.2 fun x hx => by
      have := List.findIdx?_eq_none_iff.1 hf x hx
      simpa using this
    simp [hn]
  · obtain ⟨x, hx, hk, hh⟩ := findIdx_have hf
    simp only [hx, hh]
    split
    · rw [set_keys hx hk]
      rfl
    · rfl
theorem learn_uniq {own : List Od.Hd} (hu : Uniq own) (h : Od.Hd) : Uniq (learnL own h) := by
  rw [uniq_keys] at hu ⊢
  rw [learn_keys]
  split
  · rename_i hn
    have hn' : haveOf own (keyOfHd h) = none := by simpa using hn
    rw [List.nodup_append]
    refine ⟨hu, by simp, fun a ha b hb e => ?_⟩
    obtain ⟨x, hx, e2⟩ := List.mem_map.1 ha
    have : b = keyOfHd h := by simpa using hb
    exact have_none.1 hn' x hx (by rw [e2, e, this])
  · exact hu

theorem learn_have {own : List Od.Hd} (hu : Uniq own) (h : Od.Hd) (k : Od.Ky) : haveOf (learnL own h) k = if k = keyOfHd h then some (best own h) else haveOf own k := by
  have hu2 := learn_uniq hu h
  unfold best
  unfold learnL at hu2 ⊢
  rcases hf : own.findIdx? (fun x => decide (keyOfHd x = keyOfHd h)) with _ | i
  · have hn : haveOf own (keyOfHd h) = none := have_none.2 fun x hx => by
      have := List.findIdx?_eq_none_iff.1 hf x hx
      simpa using this
    simp only [hn]
    rw [haveOf_snoc_none hn]
    by_cases e : k = keyOfHd h
    · subst e
      rw [upd_self, if_pos rfl]
    · rw [upd_ne e, if_neg e]
  · obtain ⟨x, hx, hk, hh⟩ := findIdx_have hf
    rw [hf] at hu2
    simp only [hx, hh] at hu2 ⊢
    split
    · rename_i hp
      rw [if_pos hp] at hu2
      obtain ⟨hi, ex⟩ := List.getElem?_eq_some_iff.1 hx
      have hm : h ∈ own.set i h := List.mem_iff_getElem?.2 ⟨i, by rw [List.getElem?_set]; simp [hi]⟩
      by_cases e : k = keyOfHd h
      · subst e
        rw [if_pos rfl]
        exact have_mem hu2 hm
      · rw [if_neg e]
        rcases ho : haveOf own k with _ | y
        · refine have_none.2 fun z hz => ?_
          obtain ⟨j, hj, ez⟩ := List.getElem_of_mem hz
          rw [List.getElem_set] at ez
          split at ez
          · rw [← ez]; exact fun e2 => e e2.symm
          · rw [← ez]; exact have_none.1 ho _ (List.getElem_mem _)
        · obtain ⟨hy, hyk⟩ := have_key ho
          obtain ⟨j, hj, ey⟩ := List.getElem_of_mem hy
          have hne : i ≠ j := by
            rintro rfl
            rw [ex] at ey
            exact e (by rw [← hyk, ← ey, hk])
          have hy2 : y ∈ own.set i h := List.mem_iff_getElem?.2 ⟨j, by rw [List.getElem?_set_ne hne, List.getElem?_eq_getElem hj, ey]⟩
          rw [← hyk]
          exact have_mem hu2 hy2
    · by_cases e : k = keyOfHd h
      · subst e
        rw [if_pos rfl, hh]
      · rw [if_neg e]

/-- What one has behind the heads of W. -/
def gained (own W : List Od.Hd) : List Od.Hd := W.foldl learnL own
theorem gained_snoc (own W : List Od.Hd) (h : Od.Hd) : gained own (W ++ [h]) = learnL (gained own W) h := by simp [gained]
theorem gained_uniq {own : List Od.Hd} (hu : Uniq own) (W : List Od.Hd) : Uniq (gained own W) := by
  induction W generalizing own with
  | nil => exact hu
  | cons x W ih => exact ih (learn_uniq hu x)
theorem gained_have {own : List Od.Hd} (hu : Uniq own) : ∀ {W : List Od.Hd}, Uniq W → ∀ k, haveOf (gained own W) k = match haveOf W k with | none => haveOf own k | some h => some (best own h) := by
  intro W
  induction W generalizing own with
  | nil => intro _ k; rfl
  | cons x W ih =>
    intro hw k
    obtain ⟨h1, h2⟩ := List.pairwise_cons.1 hw
    show haveOf (gained (learnL own x) W) k = _
    rw [ih (learn_uniq hu x) h2 k, have_cons]
    by_cases e : keyOfHd x = k
    · subst e
      have hn : haveOf W (keyOfHd x) = none := have_none.2 fun y hy e => h1 y hy e.symm
      rw [if_pos rfl, hn]
      simp only
      rw [learn_have hu, if_pos rfl]
    · rw [if_neg e]
      rcases hw2 : haveOf W k with _ | y
      · simp only
        rw [learn_have hu, if_neg (fun e2 => e e2.symm)]
      · simp only
        have hyk := (have_key hw2).2
        unfold best
        rw [learn_have hu, if_neg (fun e2 => e (by rw [← e2, hyk]))]

theorem wantF_have {own l : List Od.Hd} (hu : Uniq l) (k : Od.Ky) : haveOf (wantF own l) k = match haveOf l k with | none => none | some h => if wantB own h = true then some h else none := by
  rcases hl : haveOf l k with _ | h
  · exact have_none.2 fun x hx => have_none.1 hl x (List.mem_filter.1 hx).1
  · obtain ⟨hm, hk⟩ := have_key hl
    simp only
    split
    · rename_i hw
      rw [← hk]
      exact have_mem (hu.filter _) (List.mem_filter.2 ⟨hm, hw⟩)
    · rename_i hw
      refine have_none.2 fun x hx e => ?_
      obtain ⟨hx1, hx2⟩ := List.mem_filter.1 hx
      have h1 := have_mem hu hx1
      rw [e, hl] at h1
      injection h1 with h1
      subst h1
      exact hw hx2

/-- What one wants of the other, the other does not want of it. -/
theorem wants_apart {A B : List Od.Hd} {h : Od.Hd} (hA : Uniq A) (hB : Uniq B) (hm : h ∈ wantF A B) : haveOf (wantF B A) (keyOfHd h) = none := by
  obtain ⟨h1, h2⟩ := List.mem_filter.1 hm
  rw [wantF_have hA]
  rcases hk : haveOf A (keyOfHd h) with _ | o
  · rfl
  · simp only
    split
    · rename_i hw
      unfold wantB at h2 hw
      rw [hk] at h2
      have hko := (have_key hk).2
      rw [hko, have_mem hB h1] at hw
      have e1 : 0 < Od.newer h o := by simpa using h2
      have e2 : 0 < Od.newer o h := by simpa using hw
      have := Od.newer_neg h o
      omega
    · rfl

theorem gained_end {A B : List Od.Hd} (hA : Uniq A) (hB : Uniq B) (k : Od.Ky) :
    (haveOf (gained A (wantF A B)) k = none ∧ haveOf (gained B (wantF B A)) k = none) ∨ ∃ x y, haveOf (gained A (wantF A B)) k = some x ∧ haveOf (gained B (wantF B A)) k = some y ∧ Od.newer x y = 0 := by
  have u1 : Uniq (wantF A B) := hB.filter _
  have u2 : Uniq (wantF B A) := hA.filter _
  rw [gained_have hA u1, gained_have hB u2, wantF_have (own := A) hB k, wantF_have (own := B) hA k]
  rcases ha : haveOf A k with _ | a <;> rcases hb : haveOf B k with _ | b
  · exact .inl ⟨rfl, rfl⟩
  · have hbk := (have_key hb).2
    have hw : wantB A b = true := by unfold wantB; rw [hbk, ha]
    have hbest : best A b = b := by unfold best; rw [hbk, ha]
    simp only [hw, if_true, hbest]
    exact .inr ⟨b, b, rfl, rfl, Od.newer_self b⟩
  · have hak := (have_key ha).2
    have hw : wantB B a = true := by unfold wantB; rw [hak, hb]
    have hbest : best B a = a := by unfold best; rw [hak, hb]
    simp only [hw, if_true, hbest]
    exact .inr ⟨a, a, rfl, rfl, Od.newer_self a⟩
  · have hak := (have_key ha).2
    have hbk := (have_key hb).2
    have w1 : wantB A b = decide (0 < Od.newer b a) := by unfold wantB; rw [hbk, ha]
    have w2 : wantB B a = decide (0 < Od.newer a b) := by unfold wantB; rw [hak, hb]
    have b1 : best A b = if 0 < Od.newer b a then b else a := by unfold best; rw [hbk, ha]
    have b2 : best B a = if 0 < Od.newer a b then a else b := by unfold best; rw [hak, hb]
    have hneg := Od.newer_neg a b
    simp only [w1, w2, decide_eq_true_eq]
    by_cases h1 : 0 < Od.newer b a
    · have h2 : ¬ 0 < Od.newer a b := by omega
      rw [if_pos h1] at b1
      simp only [h1, h2, if_true, if_false, b1]
      exact .inr ⟨b, b, rfl, rfl, Od.newer_self b⟩
    · by_cases h2 : 0 < Od.newer a b
      · rw [if_pos h2] at b2
        simp only [h1, h2, if_true, if_false, b2]
        exact .inr ⟨a, a, rfl, rfl, Od.newer_self a⟩
      · simp only [h1, h2, if_false]
        exact .inr ⟨a, b, rfl, rfl, by omega⟩

theorem nodup_le {α : Type} [DecidableEq α] : ∀ {l l' : List α}, l.Nodup → (∀ x ∈ l, x ∈ l') → l.length ≤ l'.length := by
  intro l
  induction l with
  | nil => intro _ _ _; exact Nat.zero_le _
  | cons x l ih =>
    intro l' hn hs
    obtain ⟨h1, h2⟩ := List.nodup_cons.1 hn
    have hx : x ∈ l' := hs x (by simp)
    have := ih (l' := l'.erase x) h2 fun y hy => by
      have hne : y ≠ x := by rintro rfl; exact h1 hy
      exact (List.mem_erase_of_ne hne).2 (hs y (by simp [hy]))
    rw [List.length_erase_of_mem hx] at this
    have hpos : 0 < l'.length := List.length_pos_of_mem hx
    simp only [List.length_cons]
    omega

theorem gained_length {A B : List Od.Hd} (hA : Uniq A) (hB : Uniq B) : (gained A (wantF A B)).length = (gained B (wantF B A)).length := by
  have key : ∀ {X Y : List Od.Hd}, Uniq X → (∀ k, haveOf Y k = none → haveOf X k = none) → X.length ≤ Y.length := by
    intro X Y hX h
    have h1 := nodup_le (l := X.map keyOfHd) (l' := Y.map keyOfHd) (uniq_keys.1 hX) fun k hk => by
      obtain ⟨x, hx, e⟩ := List.mem_map.1 hk
      refine Decidable.byContradiction fun hno => ?_
      have : haveOf Y k = none := have_none.2 fun y hy e2 => hno (List.mem_map.2 ⟨y, hy, e2⟩)
      exact have_none.1 (h k this) x hx e
    simpa using h1
  have hga := gained_uniq hA (wantF A B)
  have hgb := gained_uniq hB (wantF B A)
  refine Nat.le_antisymm (key hga fun k hk => ?_) (key hgb fun k hk => ?_)
  · rcases gained_end hA hB k with ⟨h1, _⟩ | ⟨x, y, h1, h2, _⟩
    · exact h1
    · rw [h2] at hk
      cases hk
  · rcases gained_end hA hB k with ⟨_, h2⟩ | ⟨x, y, h1, h2, _⟩
    · exact h2
    · rw [h1] at hk
      cases hk
end Go.Proofs.Ytgbmhijgpdgdbaa
