/- The steps of LinkLost: a first Hello, a tick, the last tick, one more Hello, the question. -/
import Derived.Test.YtgbmhijgpdgdbaaLostInv
import Derived.Test.YtgbmhijgpdgdbaaUpPeers
import Derived.Test.YtgbmhijgpdgdbaaTickL
namespace Go.Proofs.Ytgbmhijgpdgdbaa
open Go.RowKit

structure SInvAt (lo B : Nat) (c : LC) (As : List Int) (i : Nat) (f r : Int) (Ls : List (Int × Int)) (m : Int) (w : World) (st dr bd wt nx po : Int) (L cap : Nat) (xs : List (Nat × Kn)) : Prop where
  on : LinkOn lo w B c st dr bd wt nx po 0 L cap xs
  st2 : 2 ≤ st
  row : Row1 c As i f r m xs
  po : c.peers = true → PeersOwn w c Ls

def SInv (lo B : Nat) (c : LC) (As : List Int) (i : Nat) (f r : Int) (Ls : List (Int × Int)) (m : Int) (w : World) : Prop :=
  ∃ st dr bd wt nx po L cap xs, SInvAt lo B c As i f r Ls m w st dr bd wt nx po L cap xs

/-- Nobody is heard. -/
def GInv (lo B : Nat) (c : LC) (w : World) : Prop := ∃ st dr bd wt nx po L cap xs, LinkOn lo w B c st dr bd wt nx po 0 L cap xs ∧ xs.length ≤ 60000 ∧ ∀ x ∈ xs, x.2.ro = 0

def TickSPost (lo B : Nat) (c : LC) (As : List Int) (i : Nat) (f r : Int) (Ls : List (Int × Int)) (m : Int) (w : World) (e : Ending) (w' : World) : Prop := (∃ a n k, e = .returned (.slice a n k)) ∧ LFr lo w w' ∧ SInv lo B c As i f r Ls (m - 1) w'
def TickGPost (lo B : Nat) (c : LC) (w : World) (e : Ending) (w' : World) : Prop := (∃ a n k, e = .returned (.slice a n k)) ∧ LFr lo w w' ∧ GInv lo B c w'

section
variable {lo B : Nat} {c : LC} {As : List Int} {i : Nat} {f r m : Int} {Ls : List (Int × Int)} {w : World}

theorem SInv.below {w' : World} (h : SInv lo B c As i f r Ls m w) (hb : Below w.heap.size w w') : SInv lo B c As i f r Ls m w' := by
  obtain ⟨st, dr, bd, wt, nx, po, L, cap, xs, h⟩ := h
  exact ⟨st, dr, bd, wt, nx, po, L, cap, xs, h.on.below hb, h.st2, h.row, fun hp => (h.po hp).fr (LFr.of_below (lo := lo) hb)⟩

theorem one_row {xs : List (Nat × Kn)} (hs : Stat c As i f r Ls) (hp : c.peers = false) (h : Row1 c As i f r m xs) : ∃ K, xs = [(K, { newK c f r with lf := m })] := by
  obtain ⟨K, hK⟩ := h.x
  have hl : xs.length = 1 := by rw [h.len, hs.one hp]
  obtain ⟨x, rfl⟩ := List.length_eq_one_iff.1 hl
  have hi : i < 1 := (List.getElem?_eq_some_iff.1 hK).1
  obtain rfl : i = 0 := by omega
  obtain rfl : x = (K, { newK c f r with lf := m }) := by simpa using hK
  exact ⟨K, rfl⟩

theorem tick_step (hs : Stat c As i f r Ls) (hm1 : m ≠ 1) (h : SInv lo B c As i f r Ls m w) :
    Calls Try.prog 36 #[.pointer (some ⟨B, 0, none⟩)] w fun e w' => TickSPost lo B c As i f r Ls m w e w' := by
  obtain ⟨st, dr, bd, wt, nx, po, L, cap, xs, h⟩ := h
  have hlen : xs.length ≤ 60000 := by rw [h.row.len]; have := hs.len; omega
  have hage : Calls Try.prog 75 #[.pointer (some ⟨B, 0, none⟩)] w fun e w' => (∃ b : Bool, e = .returned (.bool b)) ∧ LFr lo w w' ∧ ∃ L cap xs, Row1 c As i f r (m - 1) xs ∧ LinkOn lo w' B c st dr bd wt nx po 0 L cap xs := by
    cases hp : c.peers with
    | true =>
      have hA := hs.pe hp
      have hll : Ls.length = xs.length := by rw [h.row.len, hA, List.length_map]
      refine (age_peers lo w B c st dr bd wt nx po 0 L cap xs Ls hlen hp hs.dm h.on (h.po hp) hll h.row.l).mono ?_
      rintro e w' ⟨he, xs', hl, hf, hsl, hr⟩
      have hrow := h.row
      subst hA
      exact ⟨he, hf, L, cap, xs', hrow.age hm1 hsl hr, hl⟩
    | false =>
      obtain ⟨K, rfl⟩ := one_row hs hp h.row
      have hlf := h.row.l (K, { newK c f r with lf := m }) (by simp) (by show (3 : Int) ≠ 0; decide)
      refine (age_one lo w B c st dr bd wt nx po 0 L cap (K, { newK c f r with lf := m }) hp hs.dm h.on (by show (3 : Int) ≠ 0; decide) hlf.1 hlf.2).mono ?_
      rintro e w' ⟨he, hf, ⟨_, hl⟩ | ⟨h1, _⟩⟩
      · refine ⟨he, hf, L, cap, [(K, { newK c f r with lf := m - 1 })], ⟨h.row.a, ?_, fun j y hj hy => ?_, fun y hy _ => ?_⟩, hl⟩
        · obtain ⟨K', hK'⟩ := h.row.x
          have hi : i < 1 := (List.getElem?_eq_some_iff.1 hK').1
          obtain rfl : i = 0 := by omega
          exact ⟨K, rfl⟩
        · have hj1 : j < 1 := (List.getElem?_eq_some_iff.1 hy).1
          obtain ⟨K', hK'⟩ := h.row.x
          have hi : i < 1 := (List.getElem?_eq_some_iff.1 hK').1
          omega
        · obtain rfl : y = (K, { newK c f r with lf := m - 1 }) := by simpa using hy
          have h1 := hlf.1
          have h2 := hlf.2
          show 1 ≤ m - 1 ∧ m - 1 < 4294967296
          have h1' : 1 ≤ m := h1
          have h2' : m < 4294967296 := h2
          omega
      · exact absurd h1 hm1
  refine (tick_on lo w B c st dr bd wt nx po 0 L cap xs (fun _ _ ys => Row1 c As i f r (m - 1) ys) h.st2 hs.dm hs.n0 hs.n1 h.on (fun _ _ ys hy => by rw [hy.len]; have := hs.len; omega) hage).mono ?_
  rintro e w' ⟨he, hf, st', dr', bd', wt', nx', po', L', cap', ys, ks, hy, hks, h2, hl⟩
  exact ⟨he, hf, st', dr', bd', wt', nx', po', L', cap', _, hl, h2, hy.mapK hs hks, fun hp => (h.po hp).fr hf⟩

theorem tick_last (hs : Stat c As i f r Ls) (h : SInv lo B c As i f r Ls 1 w) :
    Calls Try.prog 36 #[.pointer (some ⟨B, 0, none⟩)] w fun e w' => TickGPost lo B c w e w' := by
  obtain ⟨st, dr, bd, wt, nx, po, L, cap, xs, h⟩ := h
  have hlen : xs.length ≤ 60000 := by rw [h.row.len]; have := hs.len; omega
  have hage : Calls Try.prog 75 #[.pointer (some ⟨B, 0, none⟩)] w fun e w' => (∃ b : Bool, e = .returned (.bool b)) ∧ LFr lo w w' ∧ ∃ L cap xs, (xs.length ≤ 60000 ∧ ∀ x ∈ xs, x.2.ro = 0) ∧ LinkOn lo w' B c st dr bd wt nx po 0 L cap xs := by
    cases hp : c.peers with
    | true =>
      have hA := hs.pe hp
      have hll : Ls.length = xs.length := by rw [h.row.len, hA, List.length_map]
      refine (age_peers lo w B c st dr bd wt nx po 0 L cap xs Ls hlen hp hs.dm h.on (h.po hp) hll h.row.l).mono ?_
      rintro e w' ⟨he, xs', hl, hf, hsl, hr⟩
      have hrow := h.row
      subst hA
      exact ⟨he, hf, L, cap, xs', ⟨by omega, hrow.age_end hsl hr⟩, hl⟩
    | false =>
      obtain ⟨K, rfl⟩ := one_row hs hp h.row
      refine (age_one lo w B c st dr bd wt nx po 0 L cap (K, { newK c f r with lf := 1 }) hp hs.dm h.on (by show (3 : Int) ≠ 0; decide) (by show (1 : Int) ≤ 1; decide) (by show (1 : Int) < 4294967296; decide)).mono ?_
      rintro e w' ⟨he, hf, ⟨h1, _⟩ | ⟨_, hl⟩⟩
      · exact absurd rfl h1
      · exact ⟨he, hf, L, 0, [], ⟨by simp, fun x hx => by simp at hx⟩, hl⟩
  refine (tick_on lo w B c st dr bd wt nx po 0 L cap xs (fun _ _ ys => ys.length ≤ 60000 ∧ ∀ x ∈ ys, x.2.ro = 0) h.st2 hs.dm hs.n0 hs.n1 h.on (fun _ _ ys hy => hy.1) hage).mono ?_
  rintro e w' ⟨he, hf, st', dr', bd', wt', nx', po', L', cap', ys, ks, hy, hks, h2, hl⟩
  refine ⟨he, hf, st', dr', bd', wt', nx', po', L', cap', _, hl, by rw [mapK_len]; exact hy.1, fun y hm => ?_⟩
  obtain ⟨x, hx, rfl⟩ := List.mem_map.1 hm
  rcases hks x hx with e | ⟨_, _, e⟩
  · show (ks x).ro = 0
    rw [e]
    exact hy.2 x hx
  · show (ks x).ro = 0
    rw [e]
    exact hy.2 x hx

theorem heard_step (hs : Stat c As i f r Ls) (h : SInv lo B c As i f r Ls m w) :
    Calls Try.prog 37 #[.pointer (some ⟨B, 0, none⟩), .int .u32 r] w fun e w' => e = .returned (.bool true) ∧ Below w.heap.size w w' := by
  obtain ⟨st, dr, bd, wt, nx, po, L, cap, xs, h⟩ := h
  have hlen : xs.length ≤ 60000 := by rw [h.row.len]; have := hs.len; omega
  refine (was_heard w B c st dr bd r xs hlen (neigh_row w B c st dr bd wt nx po 0 L cap xs hlen h.on.b h.on.row)).mono ?_
  rintro e w' ⟨he, hb⟩
  rw [h.row.heard] at he
  exact ⟨he, hb⟩

theorem heard_last (hr : r ≠ 0) (h : GInv lo B c w) :
    Calls Try.prog 37 #[.pointer (some ⟨B, 0, none⟩), .int .u32 r] w fun e w' => e = .returned (.bool false) ∧ Below w.heap.size w w' := by
  obtain ⟨st, dr, bd, wt, nx, po, L, cap, xs, h, hlen, h0⟩ := h
  refine (was_heard w B c st dr bd r xs hlen (neigh_row w B c st dr bd wt nx po 0 L cap xs hlen h.b h.row)).mono ?_
  rintro e w' ⟨he, hb⟩
  rw [none_heard hr h0] at he
  exact ⟨he, hb⟩

def HearSPost (lo B : Nat) (c : LC) (As : List Int) (i : Nat) (f r : Int) (Ls : List (Int × Int)) (w : World) (e : Ending) (w' : World) : Prop :=
  (∃ a n k, e = .returned (.tuple #[.slice a n k, .int .i64 0])) ∧ LFr lo w w' ∧ SInv lo B c As i f r Ls c.dd w'

theorem hear_step (hs : Stat c As i f r Ls) (hat : As[i]? = some f) (h : SInv lo B c As i f r Ls m w) (G gc : Nat) (g : Blk w G 25 #[.int .u32 c.ro]) :
    Calls Try.prog 35 #[.pointer (some ⟨B, 0, none⟩), .int .u32 f, .int .u32 r, helloA c G gc] w fun e w' => HearSPost lo B c As i f r Ls w e w' := by
  obtain ⟨st, dr, bd, wt, nx, po, L, cap, xs, h⟩ := h
  have hlen : xs.length ≤ 60000 := by rw [h.row.len]; have := hs.len; omega
  obtain ⟨⟨x, hx, hk⟩, hmin⟩ := h.row.isK hs
  obtain ⟨K, hK⟩ := h.row.x
  rw [hx] at hK
  obtain rfl := Option.some.inj hK
  refine (hear_find1 lo w B c st dr bd wt nx po 0 f r G gc L cap xs i _ h.on hx hlen h.st2 hs.dm hs.n0 hs.n1 hs.net hs.f0 g (fun W hW => ?_) hs.ok rfl rfl rfl rfl rfl rfl).mono ?_
  · have hl := h.on.below hW
    exact (find_row W B L cap c st dr bd wt nx po 0 f r xs (by omega) hl.b hl.row).mono fun e w' hh => find_det hx hk hmin hh
  · rintro e w' ⟨he, hf, K', st', dr', bd', ks, hks, h2, hl⟩
    exact ⟨he, hf, st', dr', bd', wt, nx, po, L, cap, _, hl, h2, (Row1.set h.row.a h.row.o h.row.l hat hs.d1 hs.d2 K').mapK hs hks, fun hp => (h.po hp).fr hf⟩

/-- A first Hello: refused, or heard. -/
def LostFirst (lo B : Nat) (c : LC) (f r : Int) (Ls : List (Int × Int)) (w : World) (e : Ending) (w' : World) : Prop :=
  LFr lo w w' ∧ ((∃ code : Int, code ≠ 0 ∧ e = .returned (.tuple #[.slice none 0 0, .int .i64 code])) ∨
    ((∃ a n k, e = .returned (.tuple #[.slice a n k, .int .i64 0])) ∧ ∃ As i, Stat c As i f r Ls ∧ As[i]? = some f ∧ SInv lo B c As i f r Ls c.dd w'))

theorem first_none (st wt nx po : Int) (hlo : lo ≤ B) (k : Blk w B 119 (lks c st 0 0 wt nx po 0 (.slice none 0 0))) (h2 : 2 ≤ st) (hdm : c.dm = false) (hn0 : 0 ≤ c.nb) (hn1 : c.nb ≤ 32) (hnet : bits .and .u32 c.na (maskN c.nb.toNat) = c.na) (hd1 : 1 ≤ c.dd) (hd2 : c.dd < 4294967296) (hp : c.peers = false) (G gc : Nat) (g : Blk w G 25 #[.int .u32 c.ro]) (f r : Int) :
    Calls Try.prog 35 #[.pointer (some ⟨B, 0, none⟩), .int .u32 f, .int .u32 r, helloA c G gc] w fun e w' => LostFirst lo B c f r Ls w e w' := by
  cases hok : (mB4 c f r || mB5 c f || mB6 c r) with
  | true =>
    refine (hear_refused w B c st 0 0 wt nx po 0 f r G gc none 0 0 (-1) k (by omega) (fun W hW => (findl_nil W B c st 0 0 wt nx po 0 f r (k.below hW k.lt)).mono fun e w' hh => ?_) hn0 hn1 hnet (by rw [hok]; simp)).mono ?_
    · rcases hh with ⟨h1, ⟨h2, _⟩ | ⟨k, x, _, h3, _⟩⟩
      · exact ⟨h2, h1⟩
      · simp at h3
    · rintro e w' ⟨hc, hb⟩
      exact ⟨LFr.of_below hb, .inl hc⟩
  | false =>
    have hr0 : r ≠ 0 := fun e => by simp [mB4, e] at hok
    have hf0 : f ≠ 0 := fun e => by simp [mB4, e] at hok
    have hs : Stat c [f] 0 f r Ls := ⟨hdm, hn0, hn1, hnet, hok, hd1, hd2, by simp, fun j hj => by omega, fun _ => rfl, fun h => by rw [hp] at h; cases h⟩
    refine (hear_put lo w B c st 0 0 wt nx po 0 f r G gc hlo k h2 hdm hn0 hn1 hnet hf0 g hr0 hp hok).mono ?_
    rintro e w' ⟨he, hf, L, cap, K, st', dr', bd', ks, hks, h2', hl⟩
    refine ⟨hf, .inr ⟨he, [f], 0, hs, rfl, st', dr', bd', wt, nx, po, L, cap, _, hl, h2', ?_, fun h => by rw [hp] at h; cases h⟩⟩
    have hrow : Row1 c [f] 0 f r c.dd [(K, newK c f r)] := ⟨rfl, ⟨K, rfl⟩, fun j y hj hy => by
      have : j < 1 := (List.getElem?_eq_some_iff.1 hy).1
      omega, fun y hy _ => by
      obtain rfl : y = (K, newK c f r) := by simpa using hy
      exact ⟨hd1, hd2⟩⟩
    exact hrow.mapK hs hks

theorem first_idx {xs : List (Nat × Kn)} (q : Nat × Kn → Bool) : (∀ x ∈ xs, q x = false) ∨ ∃ (k : Nat) (x : Nat × Kn), xs[k]? = some x ∧ q x = true ∧ ∀ (j : Nat) (y : Nat × Kn), j < k → xs[j]? = some y → q y = false := by
  induction xs with
  | nil => exact .inl fun x hx => by simp at hx
  | cons a xs ih =>
    cases ha : q a with
    | true => exact .inr ⟨0, a, rfl, ha, fun j y hj => by omega⟩
    | false =>
      rcases ih with h | ⟨k, x, hx, hq, hm⟩
      · refine .inl fun x hx => ?_
        rcases List.mem_cons.1 hx with rfl | hx
        · exact ha
        · exact h x hx
      · refine .inr ⟨k + 1, x, by simpa using hx, hq, fun j y hj hy => ?_⟩
        cases j with
        | zero =>
          obtain rfl : a = y := by simpa using hy
          exact ha
        | succ j => exact hm j y (by omega) (by simpa using hy)

theorem first_peers (st wt nx po : Int) (xs : List (Nat × Kn)) (h : LinkAt lo w B c st 0 0 wt nx po 0 xs) (hxs : xs.map (·.2) = Ls.map (upKn c)) (h2 : 2 ≤ st) (hdm : c.dm = false) (hn0 : 0 ≤ c.nb) (hn1 : c.nb ≤ 32) (hnet : bits .and .u32 c.na (maskN c.nb.toNat) = c.na) (hd1 : 1 ≤ c.dd) (hd2 : c.dd < 4294967296) (hp : c.peers = true) (hll : Ls.length ≤ 200) (hpo : Ls ≠ [] → PeersOwn w c Ls) (G gc : Nat) (g : Blk w G 25 #[.int .u32 c.ro]) (f r : Int) :
    Calls Try.prog 35 #[.pointer (some ⟨B, 0, none⟩), .int .u32 f, .int .u32 r, helloA c G gc] w fun e w' => LostFirst lo B c f r Ls w e w' := by
  have hlx : xs.length = Ls.length := by
    have := congrArg List.length hxs
    simpa using this
  have hget : ∀ (j : Nat) (x : Nat × Kn), xs[j]? = some x → ∃ p, Ls[j]? = some p ∧ x.2 = upKn c p := by
    intro j x hj
    have h1 : (xs.map (·.2))[j]? = (Ls.map (upKn c))[j]? := by rw [hxs]
    rw [List.getElem?_map, List.getElem?_map, hj] at h1
    cases hp : Ls[j]? with
    | none => rw [hp] at h1; simp at h1
    | some p =>
      rw [hp] at h1
      exact ⟨p, rfl, by simpa using h1⟩
  obtain ⟨la, ln, lc, hsl, hk⟩ : ∃ la ln lc, ln = xs.length ∧ Blk w B 119 (lks c st 0 0 wt nx po 0 (.slice la ln lc)) := by
    rcases h.row with ⟨hk, rfl⟩ | ⟨L, cap, cur, _, hk, _⟩
    · exact ⟨_, _, _, rfl, hk⟩
    · exact ⟨_, _, _, rfl, hk⟩
  have hty : c.ty < 3 := by
    have := hp
    simp [LC.peers] at this
    omega
  rcases first_idx (xs := xs) (isK c f r) with hno | ⟨i, x, hx, hq, hmin⟩
  · refine (hear_refused w B c st 0 0 wt nx po 0 f r G gc la ln lc (-1) hk (by omega) (fun W hW => (find_at (h.below hW) (by omega) f r).mono fun e w' hh => ?_) hn0 hn1 hnet (by simp [mB7, hp])).mono ?_
    · rcases hh with ⟨h1, ⟨h2, _⟩ | ⟨k, x, _, h3, h4, _⟩⟩
      · exact ⟨h2, h1⟩
      · rw [hno x (List.mem_of_getElem? h3)] at h4
        cases h4
    · rintro e w' ⟨hc, hb⟩
      exact ⟨LFr.of_below hb, .inl hc⟩
  · have hfind : ∀ W, Below w.heap.size w W → Calls Try.prog 71 #[.pointer (some ⟨B, 0, none⟩), .int .u32 f, .int .u32 r] W fun e w' => e = .returned (.int .i64 (i : Int)) ∧ w' = W := fun W hW => (find_at (h.below hW) (by omega) f r).mono fun e w' hh => find_det hx hq hmin hh
    cases hok : (mB4 c f r || mB5 c f || mB6 c r) with
    | true =>
      refine (hear_refused w B c st 0 0 wt nx po 0 f r G gc la ln lc i hk (by omega) hfind hn0 hn1 hnet (by rw [hok]; simp)).mono ?_
      rintro e w' ⟨hc, hb⟩
      exact ⟨LFr.of_below hb, .inl hc⟩
    | false =>
      have hr0 : r ≠ 0 := fun e => by simp [mB4, e] at hok
      have hf0 : f ≠ 0 := fun e => by simp [mB4, e] at hok
      have hil := (List.getElem?_eq_some_iff.1 hx).1
      obtain ⟨p, hpi, hxp⟩ := hget i x hx
      rcases h.row with ⟨_, rfl⟩ | ⟨L, cap, cur, hLo, hkL, hLb, hrow, _⟩
      · simp at hil
      have hon : LinkOn lo w B c st 0 0 wt nx po 0 L cap xs := ⟨h.loB, hLo, hkL, ⟨cur, hLb⟩, hrow.r, h.k, h.nd⟩
      have hne : Ls ≠ [] := fun e => by rw [e] at hpi; simp at hpi
      have had : x.2.ad = f := by
        have : isK c f r x = (x.2.ad == f) := by
          have h3 : ¬ 3 ≤ c.ty := by omega
          simp [isK, h3, hty]
        rw [this] at hq
        simpa using hq
      have has : xs.map (fun x => x.2.ad) = Ls.map (·.1) := by
        have : xs.map (fun x => x.2.ad) = (xs.map (·.2)).map Kn.ad := by rw [List.map_map]; rfl
        rw [this, hxs, List.map_map]
        rfl
      have hat : (Ls.map (·.1))[i]? = some f := by
        rw [← has, List.getElem?_map, hx, ← had]
        rfl
      have hfst : ∀ j, j < i → (Ls.map (·.1))[j]? ≠ some f := fun j hj e => by
        rw [← has, List.getElem?_map] at e
        obtain ⟨y, hy, e⟩ := Option.map_eq_some_iff.1 e
        have := hmin j y hj hy
        simp [isK, hty, e] at this
      have hs : Stat c (Ls.map (·.1)) i f r Ls := ⟨hdm, hn0, hn1, hnet, hok, hd1, hd2, by rw [List.length_map]; exact hll, hfst, fun h => (by rw [hp] at h; cases h), fun _ => rfl⟩
      have hro : x.2.ro = 0 := by rw [hxp]; rfl
      have hfu : x.2.fu = false := by rw [hxp]; rfl
      have hst : x.2.st ≠ 3 := by
        rw [hxp]
        show (if upIs c p then (1 : Int) else 0) ≠ 3
        split <;> decide
      refine (hear_find0 lo w B c st 0 0 wt nx po 0 f r G gc L cap xs i x hon hx (by omega) h2 hdm hn0 hn1 hnet hf0 g hfind hok hfu (by rw [hro]; exact fun e => hr0 e.symm) hst).mono ?_
      rintro e w' ⟨he, hf, K, st', dr', bd', ks, hks, h2', hl⟩
      refine ⟨hf, .inr ⟨he, _, i, hs, hat, st', dr', bd', wt, nx, po, L, cap, _, hl, h2', (Row1.set has (fun j y _ hy => ?_) (fun y hy h0 => ?_) hat hd1 hd2 K).mapK hs hks, fun _ => (hpo hne).fr hf⟩⟩
      · obtain ⟨q, _, hq⟩ := hget j y hy
        rw [hq]
        rfl
      · obtain ⟨j, hj⟩ := List.getElem?_of_mem hy
        obtain ⟨q, _, hq⟩ := hget j y hj
        rw [hq] at h0 ⊢
        have h0' : (if upIs c q then (1 : Int) else 0) ≠ 0 := h0
        show 1 ≤ (if upIs c q then c.dd else 0) ∧ (if upIs c q then c.dd else 0) < 4294967296
        by_cases hu : upIs c q = true
        · rw [if_pos hu]
          exact ⟨hd1, hd2⟩
        · rw [if_neg hu] at h0'
          exact absurd rfl h0'
end
end Go.Proofs.Ytgbmhijgpdgdbaa
