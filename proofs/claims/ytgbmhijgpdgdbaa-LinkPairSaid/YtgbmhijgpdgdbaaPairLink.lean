/- Two links side by side: what a Hello and a tick of the one do to both. -/
import Derived.Test.YtgbmhijgpdgdbaaPairHear
import Derived.Test.YtgbmhijgpdgdbaaPairTick
import Derived.Test.YtgbmhijgpdgdbaaPairUp
namespace Go.Proofs.Ytgbmhijgpdgdbaa
open Go.RowKit

/-- What all that is said of the pair asks of a config. -/
structure PCfg (c : LC) : Prop where
  ty : c.ty = 0
  dm : c.dm = false
  n0 : 0 ≤ c.nb
  n1 : c.nb ≤ 32
  net : bits .and .u32 c.na (maskN c.nb.toNat) = c.na
  hi : c.hi % 4294967296 = c.hi

theorem PCfg.peers {c : LC} (h : PCfg c) : c.peers = false := by simp [LC.peers, h.ty]

/-- A link in the world, with the blocks that are its own. -/
def PL (w : World) (B : Nat) (c : LC) (s : Pr.PS) (L K : Nat) : Prop :=
  match s.nb with
  | none => Blk w B 119 (lks c s.st s.dr s.bd s.wt s.nx 0 0 (.slice none 0 0)) ∧ L = B ∧ K = B
  | some n => ∃ cap, LinkOn 0 w B c s.st s.dr s.bd s.wt s.nx 0 0 L cap [(K, n)]

theorem PL.nil {w : World} {B : Nat} {c : LC} {s : Pr.PS} {L K : Nat} (h : PL w B c s L K) (hn : s.nb = none) : Blk w B 119 (lks c s.st s.dr s.bd s.wt s.nx 0 0 (.slice none 0 0)) ∧ L = B ∧ K = B := by
  unfold PL at h
  rw [hn] at h
  exact h
theorem PL.one {w : World} {B : Nat} {c : LC} {s : Pr.PS} {L K : Nat} {n : Kn} (h : PL w B c s L K) (hn : s.nb = some n) : ∃ cap, LinkOn 0 w B c s.st s.dr s.bd s.wt s.nx 0 0 L cap [(K, n)] := by
  unfold PL at h
  rw [hn] at h
  exact h
theorem PL.mk1 {w : World} {B : Nat} {c : LC} {s : Pr.PS} {L K cap : Nat} {n : Kn} (hn : s.nb = some n) (h : LinkOn 0 w B c s.st s.dr s.bd s.wt s.nx 0 0 L cap [(K, n)]) : PL w B c s L K := by
  unfold PL
  rw [hn]
  exact ⟨cap, h⟩

theorem PL.ty {w : World} {B : Nat} {c : LC} {s : Pr.PS} {L K : Nat} (h : PL w B c s L K) : ∀ j, Ow B L K j → LinkTy w j := by
  intro j hj
  cases hn : s.nb with
  | none =>
    obtain ⟨hb, hL, hK⟩ := h.nil hn
    have : j = B := by rcases hj with e | e | e <;> omega
    exact ⟨_, _, this ▸ hb, .inl rfl⟩
  | some n =>
    obtain ⟨cap, h1⟩ := h.one hn
    rcases hj with rfl | rfl | rfl
    · exact ⟨_, _, h1.b, .inl rfl⟩
    · obtain ⟨cur, hc⟩ := h1.lc
      exact ⟨_, _, hc, .inr (.inl rfl)⟩
    · exact ⟨_, _, (h1.k (j, n) (by simp)).1, .inr (.inr rfl)⟩
theorem LinkTy.lt {w : World} {j : Nat} (h : LinkTy w j) : j < w.heap.size := by
  obtain ⟨cs, t, hb, _⟩ := h
  exact hb.lt

theorem PL.frame {S : Nat → Prop} {w w' : World} {B : Nat} {c : LC} {s : Pr.PS} {L K : Nat} (h : PL w B c s L K) (hf : Frame S w w') (hd : ∀ j, Ow B L K j → ¬ S j) : PL w' B c s L K := by
  have dB := hd B (.inl rfl)
  have dL := hd L (.inr (.inl rfl))
  have dK := hd K (.inr (.inr rfl))
  unfold PL at h ⊢
  split
  · rename_i hn
    rw [hn] at h
    exact ⟨hf.blk h.1 dB, h.2⟩
  · rename_i n hn
    rw [hn] at h
    obtain ⟨cap, h⟩ := h
    obtain ⟨cur, hc⟩ := h.lc
    refine ⟨cap, h.loB, h.loL, hf.blk h.b dB, ⟨cur, hf.blk hc dL⟩, fun j x hj => (World.cell?_of_block (a := ⟨L, j, none⟩) (hf.block L hc.lt dL)).trans (h.r j x hj), fun x hx => ?_, h.nd⟩
    obtain rfl : x = (K, n) := by simpa using hx
    exact ⟨hf.blk (h.k _ (by simp)).1 dK, Nat.zero_le _⟩

/-- The Hello that a side says, as a value. -/
def helloL (c : LC) (h : Pr.HL) (lv : Value) : Value := .agg #[.int .u32 (maskN c.nb.toNat), .int .u16 c.hi, .int .u8 c.op, .int .u8 h.pr, .int .u32 c.dd, .int .u32 h.dr, .int .u32 h.bd, lv]

def HearPL (B : Nat) (c : LC) (s' : Pr.PS) (L K : Nat) (w : World) (e : Ending) (w' : World) : Prop :=
  (∃ a n k, e = .returned (.tuple #[.slice a n k, .int .i64 0])) ∧ Frame (Ow B L K) w w' ∧ ∃ L' K', (∀ j, Ow B L' K' j → Ow B L K j ∨ w.heap.size ≤ j) ∧ PL w' B c s' L' K'

theorem heardKn_hK (c : LC) (f r : Int) (h : Pr.HL) : Pr.heardKn c f r h = Pr.hK c f r h (if h.has then 3 else 2) := rfl

theorem find_pl (w : World) (B L cap : Nat) (c : LC) (st dr bd wt nx : Int) (f r : Int) (x : Nat × Kn) (hty : c.ty = 0) (had : x.2.ad = f) (hl : LinkOn 0 w B c st dr bd wt nx 0 0 L cap [x]) :
    ∀ W, Below w.heap.size w W → Calls Try.prog 71 #[.pointer (some ⟨B, 0, none⟩), .int .u32 f, .int .u32 r] W fun e w' => e = .returned (.int .i64 ((0 : Nat) : Int)) ∧ w' = W := fun W hW => by
  have h := hl.below hW
  refine (find_row W B L cap c st dr bd wt nx 0 0 f r [x] (by simp) h.b h.row).mono ?_
  have hk : isK c f r x = true := by simp [isK, hty, had]
  rintro e w' ⟨rfl, ⟨_, h2⟩ | ⟨k, y, rfl, h3, _, _⟩⟩
  · have := h2 x (by simp)
    rw [hk] at this
    cases this
  · have : k = 0 := by
      have := (List.getElem?_eq_some_iff.1 h3).1
      simp at this
      omega
    subst this
    exact ⟨rfl, rfl⟩

theorem hear_pl (w : World) (B : Nat) (c : LC) (s : Pr.PS) (L K : Nat) (f r : Int) (h : Pr.HL) (lv : Value) (hc : PCfg c) (hl : PL w B c s L K) (ok : Pr.HearOk f r h s) (hlv : LstAt w c.ro lv h.has) (hr0 : r ≠ 0) (hok : (mB4 c f r || mB5 c f || mB6 c r) = false) :
    Calls Try.prog 35 #[.pointer (some ⟨B, 0, none⟩), .int .u32 f, .int .u32 r, helloL c h lv] w fun e w' => HearPL B c (s.hear c f r h) L K w e w' := by
  have h2 : 2 ≤ s.st := by
    rcases ok.st with h | h <;> omega
  cases hn : s.nb with
  | none =>
    obtain ⟨hb, -, -⟩ := hl.nil hn
    have hh := ok.no hn
    rw [hh] at hlv
    obtain rfl : lv = .slice none 0 0 := hlv
    refine (phear0 w B c s.st s.dr s.bd s.wt s.nx f r h hb h2 hc.ty hc.n0 hc.n1 hc.net hr0 hc.peers hok).mono ?_
    rintro e w' ⟨he, hf, L', cap, K', hL, hK, hl'⟩
    refine ⟨he, hf.mono (fun _ e => .inl e), L', K', fun j hj => ?_, ?_⟩
    · rcases hj with e | e | e
      · exact .inl (.inl e)
      · exact .inr (by omega)
      · exact .inr (by omega)
    · have hs : s.hear c f r h = { s with nb := some (Pr.hK c f r h 2) } := by
        unfold Pr.PS.hear
        rw [hn, heardKn_hK, hh]
        rfl
      rw [hs]
      exact ⟨cap, hl'⟩
  | some n =>
    obtain ⟨cap, hl1⟩ := hl.one hn
    obtain ⟨hh, hro, had, hpr, hst, hfu⟩ := ok.so n hn
    rw [hh] at hlv
    obtain ⟨G, gk, gcs, rfl, hg, hg0⟩ := hlv
    refine (phear1 w B c s.st s.dr s.bd s.wt s.nx f r h G gk L cap (K, n) hl1 h2 hc.ty hc.n0 hc.n1 hc.net gcs hg hg0 (find_pl w B L cap c _ _ _ _ _ f r (K, n) hc.ty had hl1) hok hfu hro hst hpr (ok.st.imp (fun h => ⟨h.1, h.2⟩) id)).mono ?_
    rintro e w' ⟨he, hf, K', hK, hl'⟩
    refine ⟨he, hf.mono (fun j e => e.imp id .inl), L, K', fun j hj => ?_, ?_⟩
    · rcases hj with e | e | e
      · exact .inl (.inl e)
      · exact .inl (.inr (.inl e))
      · exact .inr (by omega)
    · rw [elOut_one] at hl'
      have hs : s.hear c f r h = { s with nb := some (Pr.hK c f r h 3), st := if (s.st != 2) && Pr.chK n (Pr.hK c f r h 3) then elState c (Pr.elK c s.dr s.bd (some (Pr.hK c f r h 3))) else s.st, dr := if (s.st != 2) && Pr.chK n (Pr.hK c f r h 3) then (Pr.elK c s.dr s.bd (some (Pr.hK c f r h 3))).1 else s.dr, bd := if (s.st != 2) && Pr.chK n (Pr.hK c f r h 3) then (Pr.elK c s.dr s.bd (some (Pr.hK c f r h 3))).2 else s.bd } := by
        unfold Pr.PS.hear
        rw [hn, heardKn_hK, hh, if_pos rfl]
        rcases Bool.eq_false_or_eq_true (s.st == 2) with e | e
        · simp [e, bne]
        · rcases Bool.eq_false_or_eq_true (Pr.chK n (Pr.hK c f r h 3)) with e2 | e2
          · simp [e, e2, bne, Pr.PS.elected]
          · simp [e, e2, bne]
      rw [hs]
      exact ⟨cap, hl'⟩

def TickPL (B : Nat) (c : LC) (ro : Int) (s : Pr.PS) (L K : Nat) (w : World) (e : Ending) (w' : World) : Prop :=
  ∃ v, e = .returned v ∧ SayAt w' c ro v (s.says c) ∧ Frame (Ow B L K) w w' ∧ PL w' B c (s.tick c) L K

theorem tick_pl (w : World) (B : Nat) (c : LC) (s : Pr.PS) (L K : Nat) (ro : Int) (hc : PCfg c) (hl : PL w B c s L K) (ok : Pr.TickOk s) (hro : ∃ n, s.nb = some n ∧ n.ro = ro) :
    Calls Try.prog 36 #[.pointer (some ⟨B, 0, none⟩)] w fun e w' => TickPL B c ro s L K w e w' := by
  obtain ⟨n, hn, rfl⟩ := hro
  obtain ⟨cap, hl1⟩ := hl.one hn
  refine (tick_pair w B c s L cap K n hn ok hc.ty hc.dm hc.n0 hc.n1 hc.peers hc.hi hl1).mono ?_
  rintro e w' ⟨v, rfl, hsay, hf, hl'⟩
  refine ⟨v, rfl, hsay, hf.mono (fun j e => e.imp id .inr), PL.mk1 ?_ hl'⟩
  show (Pr.PS.waited c s.aged).nb = some (agedK n)
  have : s.aged.nb = some (agedK n) := by simp [Pr.PS.aged, hn, agedK]
  unfold Pr.PS.waited
  split
  · split
    · exact this
    · exact this
  · exact this

/-- Two links, apart, and beyond N. -/
def Two (N : Nat) (w : World) (B : Nat) (c : LC) (s : Pr.PS) (B' : Nat) (c' : LC) (s' : Pr.PS) : Prop :=
  ∃ L K L' K', PL w B c s L K ∧ PL w B' c' s' L' K' ∧ (∀ j, Ow B L K j → ¬ Ow B' L' K' j) ∧ ∀ j, Ow B L K j ∨ Ow B' L' K' j → N ≤ j

section
variable {N : Nat} {w w' : World} {B B' : Nat} {c c' : LC} {s s' : Pr.PS}
theorem Two.symm (h : Two N w B c s B' c' s') : Two N w B' c' s' B c s := by
  obtain ⟨L, K, L', K', h1, h2, h3, h4⟩ := h
  exact ⟨L', K', L, K, h2, h1, fun j a b => h3 j b a, fun j a => h4 j a.symm⟩

theorem Two.below (h : Two N w B c s B' c' s') (hb : Below w.heap.size w w') : Two N w' B c s B' c' s' := by
  obtain ⟨L, K, L', K', h1, h2, h3, h4⟩ := h
  exact ⟨L, K, L', K', h1.frame (Frame.of_below (S := fun _ => False) hb) (fun _ _ e => e), h2.frame (Frame.of_below (S := fun _ => False) hb) (fun _ _ e => e), h3, h4⟩

/-- A block of another type written. -/
theorem Two.far {g : Nat} {t : TypeId} {cs : Array Value} (h : Two N w B c s B' c' s') (hg : Blk w g t cs) (h1 : t ≠ 119) (h2 : t ≠ 137) (h3 : t ≠ 139) (hf : Frame (fun j => j = g) w w') : Two N w' B c s B' c' s' := by
  obtain ⟨L, K, L', K', k1, k2, k3, k4⟩ := h
  have hno : ∀ j, LinkTy w j → j ≠ g := by
    rintro j ⟨cs', t', hb', ht⟩ rfl
    have e : some (Obj.cells cs t (0, 0)) = some (Obj.cells cs' t' (0, 0)) := hg.symm.trans hb'
    injection e with e
    injection e with e1 e2
    subst e2
    rcases ht with ht | ht | ht
    · exact h1 ht
    · exact h2 ht
    · exact h3 ht
  exact ⟨L, K, L', K', k1.frame hf (fun j hj => hno j (k1.ty j hj)), k2.frame hf (fun j hj => hno j (k2.ty j hj)), k3, k4⟩

theorem Two.hear (h : Two N w B c s B' c' s') (hN : N ≤ w.heap.size) {f r : Int} {hl : Pr.HL} {lv : Value} (hc : PCfg c) (ok : Pr.HearOk f r hl s) (hlv : LstAt w c.ro lv hl.has) (hr0 : r ≠ 0) (hok : (mB4 c f r || mB5 c f || mB6 c r) = false) :
    Calls Try.prog 35 #[.pointer (some ⟨B, 0, none⟩), .int .u32 f, .int .u32 r, helloL c hl lv] w fun e w' => (∃ a n k, e = .returned (.tuple #[.slice a n k, .int .i64 0])) ∧ LFr N w w' ∧ Two N w' B c (s.hear c f r hl) B' c' s' := by
  obtain ⟨L, K, L', K', h1, h2, h3, h4⟩ := h
  refine (hear_pl w B c s L K f r hl lv hc h1 ok hlv hr0 hok).mono ?_
  rintro e w' ⟨he, hf, L1, K1, hsub, h1'⟩
  refine ⟨he, hf.mono (fun j hj => ⟨h4 j (.inl hj), h1.ty j hj⟩), L1, K1, L', K', h1', h2.frame hf (fun j hj hj' => h3 j hj' hj), fun j hj hj' => ?_, fun j hj => ?_⟩
  · rcases hsub j hj with h | h
    · exact h3 j h hj'
    · have := (h2.ty j hj').lt
      omega
  · rcases hj with hj | hj
    · rcases hsub j hj with h | h
      · exact h4 j (.inl h)
      · omega
    · exact h4 j (.inr hj)

theorem Two.tick (h : Two N w B c s B' c' s') {ro : Int} (hc : PCfg c) (ok : Pr.TickOk s) (hro : ∃ n, s.nb = some n ∧ n.ro = ro) :
    Calls Try.prog 36 #[.pointer (some ⟨B, 0, none⟩)] w fun e w' => ∃ v, e = .returned v ∧ SayAt w' c ro v (s.says c) ∧ LFr N w w' ∧ Two N w' B c (s.tick c) B' c' s' := by
  obtain ⟨L, K, L', K', h1, h2, h3, h4⟩ := h
  refine (tick_pl w B c s L K ro hc h1 ok hro).mono ?_
  rintro e w' ⟨v, rfl, hsay, hf, h1'⟩
  exact ⟨v, rfl, hsay, hf.mono (fun j hj => ⟨h4 j (.inl hj), h1.ty j hj⟩), L, K, L', K', h1', h2.frame hf (fun j hj hj' => h3 j hj' hj), h3, h4⟩
end

theorem LstAt.keep {w w' : World} {ro : Int} {lv : Value} {b : Bool} (h : LstAt w ro lv b) (hk : ∀ g cs, Blk w g 25 cs → Blk w' g 25 cs) : LstAt w' ro lv b := by
  cases b with
  | false => exact h
  | true =>
    obtain ⟨G, k, cs, rfl, hb, h0⟩ := h
    exact ⟨G, k, cs, rfl, hk _ _ hb, h0⟩
theorem SayAt.keep {w w' : World} {c : LC} {ro : Int} {v : Value} {o : Option Pr.HL} (h : SayAt w c ro v o) (hk : ∀ g t cs, t = 25 ∨ t = 105 → Blk w g t cs → Blk w' g t cs) : SayAt w' c ro v o := by
  cases o with
  | none => exact h
  | some h0 =>
    obtain ⟨S, lv, rfl, hb, hl⟩ := h
    exact ⟨S, lv, rfl, hk _ _ _ (.inr rfl) hb, hl.keep fun g cs hg => hk _ _ _ (.inl rfl) hg⟩
theorem SayAt.lfr {N : Nat} {w w' : World} {c : LC} {ro : Int} {v : Value} {o : Option Pr.HL} (h : SayAt w c ro v o) (hf : LFr N w w') : SayAt w' c ro v o :=
  h.keep fun g t cs ht hb => by
    rcases ht with rfl | rfl
    · exact hf.blk hb (by decide) (by decide) (by decide)
    · exact hf.blk hb (by decide) (by decide) (by decide)
/-- A block of another type written. -/
theorem SayAt.far {w w' : World} {g : Nat} {t : TypeId} {cs : Array Value} {c : LC} {ro : Int} {v : Value} {o : Option Pr.HL} (h : SayAt w c ro v o) (hg : Blk w g t cs) (h1 : t ≠ 25) (h2 : t ≠ 105) (hf : Frame (fun j => j = g) w w') : SayAt w' c ro v o :=
  h.keep fun g' t' cs' ht hb => hf.blk hb (by
    rintro rfl
    have e : some (Obj.cells cs t (0, 0)) = some (Obj.cells cs' t' (0, 0)) := hg.symm.trans hb
    injection e with e
    injection e with e1 e2
    subst e2
    rcases ht with ht | ht
    · exact h1 ht
    · exact h2 ht)

set_option maxHeartbeats 400000 in
theorem chiefs_any (w : World) (B : Nat) (c : LC) (st dr bd wt nx po re : Int) (l : Value) (k : Blk w B 119 (lks c st dr bd wt nx po re l)) :
    Calls Try.prog 42 #[.pointer (some ⟨B, 0, none⟩)] w fun e w' => e = .returned (.tuple #[.int .u32 dr, .int .u32 bd]) ∧ Below w.heap.size w w' := by
  have c16 : w.cell? ⟨B, 16, none⟩ = some (.int .u32 dr) := k.cell 16
  have c17 : w.cell? ⟨B, 17, none⟩ = some (.int .u32 bd) := k.cell 17
  have K := Lib.hid k
  clear k
  go_enter Try.func42, Try.ntmps42
  go_wp2_with (go_at_call 67; refine (none_lk _ _ _ K.out rfl).mono ?_; rintro e w' ⟨rfl, rfl⟩)
  go_quiet (fail)
  go_wp2_with fail
  exact bodyPost_ret (v := .tuple #[.int .u32 dr, .int .u32 bd]) (by simp [results, Try.results42, go_sem]) rfl ⟨rfl, drewB w _⟩
end Go.Proofs.Ytgbmhijgpdgdbaa
