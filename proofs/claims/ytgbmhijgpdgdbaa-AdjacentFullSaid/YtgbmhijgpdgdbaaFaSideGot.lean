/- Heads that come, requests, ticks: either side. -/
import Derived.Test.YtgbmhijgpdgdbaaFaFullList
import Derived.Test.YtgbmhijgpdgdbaaFaBeginG
import Derived.Test.YtgbmhijgpdgdbaaFaDup
import Derived.Test.YtgbmhijgpdgdbaaFaGotG
import Derived.Test.YtgbmhijgpdgdbaaFaAsked
import Derived.Test.YtgbmhijgpdgdbaaFaTick
namespace Go.Proofs.Ytgbmhijgpdgdbaa
open Go.RowKit

def seqAt (s : Int) (j : Nat) : Int := (s + j) % 4294967296
def flB (B0 : List Od.Hd) : Nat → Int
  | 0 => 7
  | j + 1 => dflags true (B0.drop (16 * j))
def chB (B0 : List Od.Hd) : Nat → List Od.Hd
  | 0 => []
  | j + 1 => (B0.drop (16 * j)).take 16

theorem isM_dfl (m : Bool) (L : List Od.Hd) : isM (dflags m L) = decide (16 < L.length) := by
  unfold isM dflags
  by_cases hg : 16 < L.length <;> cases m <;> simp only [hg, if_true, if_false, decide_true, decide_false, Bool.false_eq_true] <;> decide

/-- The talk's data: the heads of the two, the numbers with which they begin, the last message's number. -/
structure Tk where
  A : List Od.Hd
  B : List Od.Hd
  s0 : Int
  s1 : Int
  N : Nat

structure TkOk (T : Tk) : Prop where
  uA : Uniq T.A
  uB : Uniq T.B
  okA : ∀ x ∈ T.A, HdOk x ∧ Od.old x.g = false ∧ HdFull x
  okB : ∀ x ∈ T.B, HdOk x ∧ Od.old x.g = false ∧ HdFull x
  nA : T.A.length ≤ 60
  nB : T.B.length ≤ 60
  z0 : 0 ≤ T.s1
  z1 : T.s1 < 4294967296
  more : ∀ k, (k = 0 ∨ 16 * (k + 1) < T.A.length ∨ 16 * k < T.B.length) ↔ k < T.N

def Tk.WA (T : Tk) : List Od.Hd := wantF T.A T.B
def Tk.WB (T : Tk) : List Od.Hd := wantF T.B T.A
def none0 : Od.Ky → Option Od.Hd := fun _ => none

/-- The blocks that an adjacency reads only. -/
def HeldB (a : Adj) (j : Nat) : Prop := a.left.ownBlock = some j ∨ a.sheads.ownBlock = some j ∨ a.asks.ownBlock = some j

structure AdjC (a : Adj) (me you : Int) : Prop where
  made : a.made = true
  sf : a.self = me
  ot : a.other = you
  mtu : a.mtu = 0
  opts : a.opts = 2
  rx : a.rxmt = 2
  types : a.types = 65535

structure SlaveAt (T : Tk) (w : World) (B m : Nat) (a : Adj) (k g t : Nat) : Prop extends AdjC a 1 2 where
  adj : AdjAt w B a
  ms : a.master = false
  zero : k = 0 → a.state = 0 ∧ a.smtu = 0 ∧ a.sopts = 2 ∧ a.sflags = 7 ∧ a.sseq = T.s0 ∧ HeadsIn w a.sheads [] ∧ Wants w B m a [] none0
  some_ : 1 ≤ k → a.smtu = 0 ∧ a.sopts = 2 ∧ a.sflags = dflags false (T.A.drop (16 * (k - 1))) ∧ a.sseq = seqAt T.s1 (k - 1) ∧ a.seq = seqAt T.s1 (k - 1) ∧ a.taken = true ∧ a.lopts = 2 ∧ a.lflags = flB T.B (k - 1) ∧ a.lseq = seqAt T.s1 (k - 1) ∧
    HeadsIn w a.sheads ((T.A.drop (16 * (k - 1))).take 16) ∧ HeadsIn w a.left (T.A.drop (16 * k))
  mid : 1 ≤ k → k ≤ T.N → a.state = 1 ∧ Wants w B m a ((wantF T.A (T.B.take (16 * (k - 1)))).map keyOfHd) (wantsM (wantF T.A (T.B.take (16 * (k - 1)))) none0)
  fin : k = T.N + 1 → (g < T.WA.length → a.state = 2 ∧ Wants w B m a ((T.WA.drop g).map keyOfHd) (wantsM (T.WA.drop g) none0) ∧ KeysOwn w 0 a.asks (((T.WA.drop g).map keyOfHd).take 16)) ∧ (T.WA.length ≤ g → a.state = 3)
  tim : k = 0 ∨ (k = T.N + 1 ∧ g < T.WA.length) → a.timer = t

/-- What a method did to the blocks. -/
structure Took (w : World) (B m : Nat) (a a' : Adj) (w' : World) : Prop where
  fr : Frame (Own B m a.order) w w'
  ord : ∀ j, a'.order.ownBlock = some j → a.order.ownBlock = some j ∨ (w.heap.size ≤ j ∧ j < w'.heap.size)
  held : ∀ j, HeldB a' j → HeldB a j ∨ (w.heap.size ≤ j ∧ j < w'.heap.size)
theorem Took.from {w w1 w' : World} {B m : Nat} {a a' : Adj} (hb : Below w.heap.size w w1) (h : Took w1 B m a a' w') : Took w B m a a' w' :=
  ⟨(Frame.of_below hb).trans h.fr, fun j hj => (h.ord j hj).imp id (fun e => ⟨Nat.le_trans hb.size e.1, e.2⟩), fun j hj => (h.held j hj).imp id (fun e => ⟨Nat.le_trans hb.size e.1, e.2⟩)⟩

theorem HeadsIn.lt {w : World} {v : Value} {l : List Od.Hd} (h : HeadsIn w v l) {j : Nat} (hj : v.ownBlock = some j) : j < w.heap.size := by
  obtain ⟨cs, fr, e⟩ := h.2 j hj
  exact (Array.getElem?_eq_some_iff.1 e).1

def Desc1 (base : Nat) (w : World) (v : Value) (fl sq : Int) (l : List Od.Hd) : Prop :=
  ∃ hv, w.ownsRow base 40 7 v 1 (Raw.cells ⟨true, 0, 2, fl, sq, hv, .slice none 0 0⟩) ∧ w.ownsRow base 59 8 hv l.length (l.flatMap hcells)
def Req1 (base : Nat) (w : World) (v : Value) (ks : List Od.Ky) : Prop :=
  ∃ kv, w.ownsRow base 40 7 v 1 (Raw.cells (oneReq kv)) ∧ KeysOwn w base kv ks
def Desc2 (base : Nat) (w : World) (v : Value) (fl sq : Int) (l : List Od.Hd) (ks : List Od.Ky) : Prop :=
  ∃ hv kv, w.ownsRow base 40 7 v 2 (Raw.cells ⟨true, 0, 2, fl, sq, hv, .slice none 0 0⟩ ++ Raw.cells (oneReq kv)) ∧ w.ownsRow base 59 8 hv l.length (l.flatMap hcells) ∧ KeysOwn w base kv ks
theorem Desc1.base {base base' : Nat} {w : World} {v : Value} {fl sq : Int} {l : List Od.Hd} (h : Desc1 base w v fl sq l) (hb : base' ≤ base) : Desc1 base' w v fl sq l := by
  obtain ⟨hv, h1, h2⟩ := h
  exact ⟨hv, own_base h1 hb, own_base h2 hb⟩
theorem Req1.base {base base' : Nat} {w : World} {v : Value} {ks : List Od.Ky} (h : Req1 base w v ks) (hb : base' ≤ base) : Req1 base' w v ks := by
  obtain ⟨kv, h1, h2⟩ := h
  exact ⟨kv, own_base h1 hb, own_base h2 hb⟩
theorem Desc2.base {base base' : Nat} {w : World} {v : Value} {fl sq : Int} {l : List Od.Hd} {ks : List Od.Ky} (h : Desc2 base w v fl sq l ks) (hb : base' ≤ base) : Desc2 base' w v fl sq l ks := by
  obtain ⟨hv, kv, h1, h2, h3⟩ := h
  exact ⟨hv, kv, own_base h1 hb, own_base h2 hb, own_base h3 hb⟩

/-- What the lesser says to message k. -/
def SaysA (T : Tk) (k : Nat) (base : Nat) (w : World) (v : Value) : Prop :=
  if k < T.N ∨ T.WA = [] then Desc1 base w v (dflags false (T.A.drop (16 * k))) (seqAt T.s1 k) ((T.A.drop (16 * k)).take 16)
  else Desc2 base w v (dflags false (T.A.drop (16 * k))) (seqAt T.s1 k) ((T.A.drop (16 * k)).take 16) ((T.WA.map keyOfHd).take 16)

theorem more_iff {T : Tk} (hT : TkOk T) (k : Nat) : (decide (16 < (T.A.drop (16 * k)).length) || isM (flB T.B k)) = decide (k < T.N) := by
  have h := hT.more k
  cases k with
  | zero =>
    have : 0 < T.N := h.1 (.inl rfl)
    have e : isM 7 = true := by decide
    simp [flB, e, this]
  | succ k =>
    rw [flB, isM_dfl, List.length_drop, List.length_drop]
    rw [← Bool.decide_or, decide_eq_decide, ← h]
    omega

theorem all_taken {T : Tk} (hT : TkOk T) : T.B.take (16 * T.N) = T.B := by
  refine List.take_of_length_le ?_
  have h := hT.more T.N
  have : ¬ T.N < T.N := Nat.lt_irrefl _
  rw [← h] at this
  omega
theorem allA_taken {T : Tk} (hT : TkOk T) : T.A.take (16 * (T.N + 1)) = T.A := by
  refine List.take_of_length_le ?_
  have h := hT.more T.N
  have : ¬ T.N < T.N := Nat.lt_irrefl _
  rw [← h] at this
  omega

/-- Behind a description that the lesser takes. -/
theorem slave_of {T : Tk} (hT : TkOk T) {w w' : World} {B m k : Nat} {a0 a1 : Adj} {v ov lv sv : Value} (hk : k ≤ T.N) (hb : AdjC a1 1 2) (hms : a1.master = false) (hst : a1.state = 1) (hask : ∀ j, a1.asks.ownBlock = some j → HeldB a0 j) (hor : a1.order = a0.order)
    (hlv : ∀ j, lv.ownBlock = some j → HeldB a0 j ∨ w.heap.size ≤ j) (hsv : ∀ j, sv.ownBlock = some j → HeldB a0 j ∨ w.heap.size ≤ j)
    (h : SlaveB w B m a1 ((wantF T.A (T.B.take (16 * k))).map keyOfHd) (wantsM (wantF T.A (T.B.take (16 * k))) none0) 2 (flB T.B k) (seqAt T.s1 k) (T.A.drop (16 * k)) v w' ov lv sv) :
    ∃ a', SlaveAt T w' B m a' (k + 1) 0 2 ∧ Took w B m a0 a' w' ∧ SaysA T k w.heap.size w' v := by
  have hd : (T.A.drop (16 * k)).drop 16 = T.A.drop (16 * (k + 1)) := by rw [List.drop_drop, show 16 * k + 16 = 16 * (k + 1) from by omega]
  have hlen : T.WA.length = ((wantF T.A T.B).map keyOfHd).length := by rw [List.length_map]; rfl
  unfold SlaveB at h
  rw [more_iff hT k] at h
  have hord : ∀ {a' : Adj} {O : List Od.Ky} {M : Od.Ky → Option Od.Hd} {L S : List Od.Hd}, Taken w B m a1 a' O M L S w' → ∀ j, a'.order.ownBlock = some j → a0.order.ownBlock = some j ∨ (w.heap.size ≤ j ∧ j < w'.heap.size) := by
    intro a' O M L S ht j hj
    have hlt := (ht.wants.order.lt j hj).2
    rcases ht.ord with e | e | ⟨g, e, hg⟩
    · left; rw [← hor, ← e]; exact hj
    · rw [e] at hj; cases hj
    · right; rw [e] at hj; cases hj; exact ⟨hg, hlt⟩
  have hfr : ∀ {a' : Adj} {O : List Od.Ky} {M : Od.Ky → Option Od.Hd} {L S : List Od.Hd}, Taken w B m a1 a' O M L S w' → Frame (Own B m a0.order) w w' := by
    intro a' O M L S ht
    have := ht.frame
    rwa [hor] at this
  by_cases hkN : k < T.N
  · rw [decide_eq_true hkN] at h
    obtain ⟨ht, hv, h1, h2⟩ := h
    rw [hd] at ht
    rw [hb.mtu, hb.opts, hms] at h1
    rw [hms] at ht
    refine ⟨_, ⟨?_, ht.wants.adj, hms, fun e => by omega, fun _ => ⟨hb.mtu, hb.opts, rfl, rfl, rfl, rfl, rfl, rfl, rfl, ht.sent, ht.left⟩, fun _ _ => ⟨hst, ht.wants⟩, fun e => by omega, fun e => by omega⟩, ⟨hfr ht, hord ht, fun j hj => ?_⟩, ?_⟩
    · exact ⟨hb.made, hb.sf, hb.ot, hb.mtu, hb.opts, hb.rx, hb.types⟩
    · rcases hj with hj | hj | hj
      · exact (hlv j hj).imp id (fun e => ⟨e, ht.left.lt hj⟩)
      · exact (hsv j hj).imp id (fun e => ⟨e, ht.sent.lt hj⟩)
      · exact .inl (hask j hj)
    · unfold SaysA
      rw [if_pos (.inl hkN)]
      exact ⟨hv, h1, h2⟩
  · obtain rfl : k = T.N := by omega
    rw [decide_eq_false hkN, all_taken hT] at h
    by_cases hW : T.WA = []
    · have hW' : (wantF T.A T.B).map keyOfHd = [] := by
        have : wantF T.A T.B = [] := hW
        rw [this]; rfl
      rw [show kindOf false ((wantF T.A T.B).map keyOfHd) = .full from by simp only [kindOf, Bool.false_eq_true, if_false]; rw [if_pos hW']] at h
      obtain ⟨ht, hv, h1, h2⟩ := h
      rw [hd] at ht
      rw [hb.mtu, hb.opts, hms] at h1
      rw [hms] at ht
      have hWl : T.WA.length = 0 := by rw [hW]; rfl
      refine ⟨_, ⟨?_, ht.wants.adj, hms, fun e => by omega, fun _ => ⟨hb.mtu, hb.opts, rfl, rfl, rfl, rfl, rfl, rfl, rfl, ht.sent, ht.left⟩, fun _ e => by omega, fun _ => ⟨fun e => by omega, fun _ => rfl⟩, fun e => by omega⟩, ⟨hfr ht, hord ht, fun j hj => ?_⟩, ?_⟩
      · exact ⟨hb.made, hb.sf, hb.ot, hb.mtu, hb.opts, hb.rx, hb.types⟩
      · rcases hj with hj | hj | hj
        · exact (hlv j hj).imp id (fun e => ⟨e, ht.left.lt hj⟩)
        · exact (hsv j hj).imp id (fun e => ⟨e, ht.sent.lt hj⟩)
        · exact .inl (hask j hj)
      · unfold SaysA
        rw [if_pos (.inr hW)]
        exact ⟨hv, h1, h2⟩
    · have hW' : ¬ (wantF T.A T.B).map keyOfHd = [] := by
        intro e
        exact hW (List.map_eq_nil_iff.1 e)
      rw [show kindOf false ((wantF T.A T.B).map keyOfHd) = .loading from by simp only [kindOf, Bool.false_eq_true, if_false]; rw [if_neg hW']] at h
      obtain ⟨av, hv, kv, ht, h1, h2, h3, h4⟩ := h
      rw [hd] at ht
      rw [hb.mtu, hb.opts, hms] at h1
      rw [hms] at ht
      have hWl : 0 < T.WA.length := List.length_pos_iff.2 hW
      refine ⟨_, ⟨?_, ht.wants.adj, hms, fun e => by omega, fun _ => ⟨hb.mtu, hb.opts, rfl, rfl, rfl, rfl, rfl, rfl, rfl, ht.sent, ht.left⟩, fun _ e => by omega, fun _ => ⟨fun _ => ⟨rfl, ht.wants, own_base h3 (Nat.zero_le _)⟩, fun e => by omega⟩, fun _ => hb.rx⟩, ⟨hfr ht, hord ht, fun j hj => ?_⟩, ?_⟩
      · exact ⟨hb.made, hb.sf, hb.ot, hb.mtu, hb.opts, hb.rx, hb.types⟩
      · rcases hj with hj | hj | hj
        · exact (hlv j hj).imp id (fun e => ⟨e, ht.left.lt hj⟩)
        · exact (hsv j hj).imp id (fun e => ⟨e, ht.sent.lt hj⟩)
        · exact .inr (h3.lt j hj)
      · unfold SaysA
        rw [if_neg (fun e => by rcases e with e | e; · omega
                                · exact hW e)]
        exact ⟨hv, kv, h1, h2, h4⟩

theorem wantsM_app (X Y : List Od.Hd) (M : Od.Ky → Option Od.Hd) : wantsM (X ++ Y) M = wantsM Y (wantsM X M) := by simp [wantsM]
theorem wantF_app (own X Y : List Od.Hd) : wantF own (X ++ Y) = wantF own X ++ wantF own Y := by simp [wantF]
theorem wantF_uniq {own l : List Od.Hd} (h : Uniq l) : Uniq (wantF own l) := h.filter _

/-- The key of a head of a chunk is new to what was wanted before. -/
theorem new_key {own l : List Od.Hd} (hu : Uniq l) {m i : Nat} {x : Od.Hd} (hx : ((l.drop m).take 16)[i]? = some x) :
    wantsM (wantF own (((l.drop m).take 16).take i)) (wantsM (wantF own (l.take m)) none0) (keyOfHd x) = none := by
  have hi : i < 16 := by
    have := (List.getElem?_eq_some_iff.1 hx).1
    rw [List.length_take] at this
    omega
  have hx2 : l[m + i]? = some x := by
    rw [List.getElem?_take_of_lt hi, List.getElem?_drop] at hx
    exact hx
  have e : l.take m ++ ((l.drop m).take 16).take i = l.take (m + i) := by
    rw [List.take_take, Nat.min_eq_left (Nat.le_of_lt hi), List.take_add]
  rw [← wantsM_app, ← wantF_app, e]
  have hw : wantsM (wantF own (l.take (m + i))) none0 = _ := wantsM_have (wantF_uniq (hu.take (m + i)))
  rw [hw]
  refine have_none.2 fun y hy => ?_
  obtain ⟨hy1, _⟩ := List.mem_filter.1 hy
  obtain ⟨j, hj, ey⟩ := List.mem_take_iff_getElem.1 hy1
  obtain ⟨hmi, ex⟩ := List.getElem?_eq_some_iff.1 hx2
  have := List.pairwise_iff_getElem.1 hu j (m + i) (by omega) hmi (by omega)
  rw [ey, ex] at this
  exact this

theorem seqAt0 {s : Int} (h0 : 0 ≤ s) (h1 : s < 4294967296) : seqAt s 0 = s := by unfold seqAt; simp; omega
theorem seqAt_next (s : Int) (j : Nat) : (seqAt s j + 1) % 4294967296 = seqAt s (j + 1) := by unfold seqAt; push_cast; omega
theorem seqAt_ne (s : Int) (j : Nat) : (seqAt s j == seqAt s (j + 1)) = false := by
  simp only [beq_eq_false_iff_ne]
  unfold seqAt
  push_cast
  omega
theorem seqAt_rng (s : Int) (j : Nat) : 0 ≤ seqAt s j ∧ seqAt s j < 4294967296 := by unfold seqAt; omega

section
variable {T : Tk} {w : World} {B m k g t : Nat} {a : Adj}

def AfterA (T : Tk) (B m : Nat) (a : Adj) (k : Nat) (w : World) (e : Ending) (w' : World) : Prop :=
  ∃ v, e = .returned (.tuple #[v, .int .i64 0]) ∧ ∃ a', SlaveAt T w' B m a' (k + 1) 0 2 ∧ Took w B m a a' w' ∧ SaysA T k w.heap.size w' v

theorem Wants.later {w w' : World} {B m : Nat} {a : Adj} {O : List Od.Ky} {M : Od.Ky → Option Od.Hd} (h : Wants w B m a O M) (hb : Below w.heap.size w w') : Wants w' B m a O M := h.frame (Frame.of_below (S := fun _ => False) hb) (fun _ e => e.elim)

theorem a_first (hT : TkOk T) (h : SlaveAt T w B m a 0 g t) {hv ow : Value} (hh : HeadsIn w hv []) (how : HeadsIn w ow T.A) :
    Calls Try.prog 14 #[.pointer (some ⟨B, 0, none⟩), ddval 0 2 (flB T.B 0) (seqAt T.s1 0) hv, ow] w fun e w' => AfterA T B m a 0 w e w' := by
  have hz := h.zero rfl
  obtain ⟨A, n, c, hvv, _⟩ := hh.1
  refine (Describe_start w B a 0 2 (flB T.B 0) (seqAt T.s1 0) hv ow (fun v w' => ∃ a', SlaveAt T w' B m a' (0 + 1) 0 2 ∧ Took w B m a a' w' ∧ SaysA T 0 w.heap.size w' v) h.adj (.inr ⟨A, n, c, hvv⟩) h.made h.mtu hz.1 ?_).mono fun e w' he => he
  intro w1 hb1
  refine (begin_slave_g w1 B m a none0 0 2 (flB T.B 0) (seqAt T.s1 0) hv ow T.A (hz.2.2.2.2.2.2.later hb1) (hh.below hb1) (how.below hb1) (fun x hx => (hT.okA x hx).1) (fun x hx => (hT.okA x hx).2.1) (by have := hT.nA; omega) ⟨by rw [h.rx]; decide, by rw [h.rx]; decide⟩ (by rw [h.sf, h.ot]; decide) h.types (show ((7 : Int) == 7) = true by decide) (show (bits .and .u8 7 5 == 0) = false by decide)).mono ?_
  rintro e w' ⟨v, rfl, ov, lv, sv, ⟨y1, y2⟩, hS⟩
  obtain ⟨a', h1, h2, h3⟩ := slave_of hT (k := 0) (a0 := a) (a1 := { a with master := false, state := 1 }) (Nat.zero_le _) ⟨h.made, h.sf, h.ot, h.mtu, h.opts, h.rx, h.types⟩ rfl rfl (fun j hj => .inr (.inr hj)) rfl (fun j hj => .inr (y1 j hj)) (fun j hj => .inr (y2 j hj)) hS
  refine ⟨v, rfl, a', h1, h2.from hb1, ?_⟩
  unfold SaysA at h3 ⊢
  split
  · rename_i hc
    rw [if_pos hc] at h3
    exact h3.base hb1.size
  · rename_i hc
    rw [if_neg hc] at h3
    exact h3.base hb1.size

theorem SaysA.base {base base' : Nat} {v : Value} (h : SaysA T k base w v) (hb : base' ≤ base) : SaysA T k base' w v := by
  unfold SaysA at h ⊢
  split
  · rename_i hc
    rw [if_pos hc] at h
    exact h.base hb
  · rename_i hc
    rw [if_neg hc] at h
    exact h.base hb

theorem chunk_snoc (l : List Od.Hd) (j : Nat) : l.take (16 * j) ++ (l.drop (16 * j)).take 16 = l.take (16 * (j + 1)) := by
  rw [show 16 * (j + 1) = 16 * j + 16 from by omega, List.take_add]

theorem dfl_true (L : List Od.Hd) : bits .and .u8 (dflags true L) 4 = 0 ∧ (bits .and .u8 (dflags true L) 1 == 0) = false := by
  unfold dflags
  by_cases hg : 16 < L.length <;> simp only [hg, if_true, if_false] <;> decide
theorem dfl_false (L : List Od.Hd) : bits .and .u8 (dflags false L) 4 = 0 ∧ (bits .and .u8 (dflags false L) 1 == 0) = true := by
  unfold dflags
  by_cases hg : 16 < L.length <;> simp only [hg, if_true, if_false, Bool.false_eq_true] <;> decide

/-- The lesser takes the next description. -/
theorem a_next (hT : TkOk T) {j : Nat} (h : SlaveAt T w B m a (j + 1) g t) (hj : j + 1 ≤ T.N) {hv ow : Value} (hh : HeadsIn w hv (chB T.B (j + 1))) (how : HeadsIn w ow T.A) :
    Calls Try.prog 14 #[.pointer (some ⟨B, 0, none⟩), ddval 0 2 (flB T.B (j + 1)) (seqAt T.s1 (j + 1)) hv, ow] w fun e w' => AfterA T B m a (j + 1) w e w' := by
  obtain ⟨hst, hw⟩ := h.mid (by omega) hj
  obtain ⟨_, _, _, _, hsq, htk, hlo, _, hls, _, hleft⟩ := h.some_ (by omega)
  obtain ⟨A, n, c, hvv, _⟩ := hh.1
  have hokp : ∀ x ∈ chB T.B (j + 1), HdOk x := fun x hx => (hT.okB x (List.mem_of_mem_drop (List.mem_of_mem_take hx))).1
  have hlen : (chB T.B (j + 1)).length ≤ 16 := by
    show ((T.B.drop (16 * j)).take 16).length ≤ 16
    rw [List.length_take]
    omega
  have hrng := seqAt_rng T.s1 j
  simp only [Nat.add_sub_cancel] at hsq hls hw
  have hfit : Fits a 2 (flB T.B (j + 1)) (seqAt T.s1 (j + 1)) := by
    refine ⟨(dfl_true _).1, by rw [h.ms]; exact (dfl_true _).2, hlo.symm, ?_, by rw [hsq]; exact hrng.1, by rw [hsq]; exact hrng.2⟩
    unfold nextSeq
    rw [h.ms, hsq]
    exact (seqAt_next _ _).symm
  refine (Describe_again w B a 0 2 (flB T.B (j + 1)) (seqAt T.s1 (j + 1)) hv ow (fun v w' => ∃ a', SlaveAt T w' B m a' (j + 1 + 1) 0 2 ∧ Took w B m a a' w' ∧ SaysA T (j + 1) w.heap.size w' v) h.adj (.inr ⟨A, n, c, hvv⟩) h.made h.mtu (by rw [hst]; rfl) ?_).mono fun e w' he => he
  intro w1 hb1
  refine (again_any w1 B a 0 2 (flB T.B (j + 1)) (seqAt T.s1 (j + 1)) hv ow (chB T.B (j + 1)) (fun v w' => ∃ a', SlaveAt T w' B m a' (j + 1 + 1) 0 2 ∧ Took w B m a a' w' ∧ SaysA T (j + 1) w.heap.size w' v) (h.adj.below hb1 h.adj.lt) (hh.below hb1) hokp (by omega) h.types hfit htk (by rw [hls]; exact seqAt_ne _ _) hst ?_).mono fun e w' he => he
  intro w2 hb2
  have hb02 : Below w.heap.size w w2 := hb1.trans (hb2.mono hb1.size)
  have hnA := hT.nA
  have hnB := hT.nB
  have hwl : (wantF T.A (T.B.take (16 * j))).length ≤ 60 := by
    have h1 := wantF_length T.A (T.B.take (16 * j))
    rw [List.length_take] at h1
    omega
  refine (take_slave_g w2 B m a _ _ 0 2 (flB T.B (j + 1)) (seqAt T.s1 (j + 1)) hv ow (chB T.B (j + 1)) T.A (T.A.drop (16 * (j + 1))) (hw.later hb02) (hleft.below hb02) (hh.below hb02) (how.below hb02) hokp (fun x hx => (hT.okA x hx).1) (by rw [List.length_drop]; omega) (by rw [List.length_map]; omega) (by omega) ⟨by rw [h.rx]; decide, by rw [h.rx]; decide⟩ h.ms (fun i x hx => new_key hT.uB hx)).mono ?_
  rintro e w' ⟨v, rfl, ov, lv, sv, ⟨s1, s2⟩, hS⟩
  have eO : (wantF T.A (T.B.take (16 * j))).map keyOfHd ++ (wantF T.A (chB T.B (j + 1))).map keyOfHd = (wantF T.A (T.B.take (16 * (j + 1)))).map keyOfHd := by
    rw [← List.map_append, ← wantF_app]
    show (wantF T.A (T.B.take (16 * j) ++ (T.B.drop (16 * j)).take 16)).map keyOfHd = _
    rw [chunk_snoc]
  have eM : wantsM (wantF T.A (chB T.B (j + 1))) (wantsM (wantF T.A (T.B.take (16 * j))) none0) = wantsM (wantF T.A (T.B.take (16 * (j + 1)))) none0 := by
    rw [← wantsM_app, ← wantF_app]
    show wantsM (wantF T.A (T.B.take (16 * j) ++ (T.B.drop (16 * j)).take 16)) none0 = _
    rw [chunk_snoc]
  rw [eO, eM] at hS
  obtain ⟨a', h1, h2, h3⟩ := slave_of hT (k := j + 1) (a0 := a) (a1 := a) hj ⟨h.made, h.sf, h.ot, h.mtu, h.opts, h.rx, h.types⟩ h.ms hst (fun i hi => .inr (.inr hi)) rfl (fun i hi => .inl (.inl (s1 i hi))) (fun i hi => .inl (.inl (s2 i hi))) hS
  exact ⟨v, rfl, a', h1, h2.from hb02, h3.base hb02.size⟩

/-- A description that came before: the answer to it, again. -/
theorem a_dup {j : Nat} (h : SlaveAt T w B m a (j + 1) g t) (hj : j ≤ T.N) {hv ow : Value} (hh : ∃ A n c, hv = .slice A n c) :
    Calls Try.prog 14 #[.pointer (some ⟨B, 0, none⟩), ddval 0 2 (flB T.B j) (seqAt T.s1 j) hv, ow] w fun e w' =>
      ∃ v, e = .returned (.tuple #[v, .int .i64 0]) ∧ Below w.heap.size w w' ∧ Desc1 w.heap.size w' v (dflags false (T.A.drop (16 * j))) (seqAt T.s1 j) ((T.A.drop (16 * j)).take 16) := by
  obtain ⟨hm1, ho1, hf1, hs1, _, htk, hlo, hlf, hls, hsent, _⟩ := h.some_ (by omega)
  simp only [Nat.add_sub_cancel] at hf1 hs1 hlf hls hsent
  have hst : (a.state == 0) = false := by
    by_cases hk : j + 1 ≤ T.N
    · rw [(h.mid (by omega) hk).1]; rfl
    · obtain ⟨f1, f2⟩ := h.fin (by omega)
      by_cases hg : g < T.WA.length
      · rw [(f1 hg).1]; rfl
      · rw [f2 (by omega)]; rfl
  refine (Describe_again w B a 0 2 (flB T.B j) (seqAt T.s1 j) hv ow (fun v w' => Below w.heap.size w w' ∧ Desc1 w.heap.size w' v (dflags false (T.A.drop (16 * j))) (seqAt T.s1 j) ((T.A.drop (16 * j)).take 16)) h.adj (.inr hh) h.made h.mtu hst ?_).mono fun e w' he => he
  intro w1 hb1
  refine (again_dup w1 B a 0 2 (flB T.B j) (seqAt T.s1 j) hv ow ((T.A.drop (16 * j)).take 16) (h.adj.below hb1 h.adj.lt) hh htk hlf hlo hls h.ms (hsent.below hb1) (by rw [List.length_take]; omega)).mono ?_
  rintro e w' ⟨v, hv', rfl, h1, h2, hb2⟩
  rw [hm1, ho1, hf1, hs1] at h1
  exact ⟨v, rfl, hb1.trans (hb2.mono hb1.size), hv', own_base h1 hb1.size, own_base h2 hb1.size⟩
end
end Go.Proofs.Ytgbmhijgpdgdbaa

namespace Go.Proofs.Ytgbmhijgpdgdbaa
open Go.RowKit

/-- The greater one, which took k answers. -/
structure MasterAt (T : Tk) (w : World) (B m : Nat) (a : Adj) (k g t : Nat) : Prop extends AdjC a 2 1 where
  adj : AdjAt w B a
  zero : k = 0 → a.state = 0 ∧ a.seq = seqAt T.s1 0 ∧ Wants w B m a [] none0
  mid : 1 ≤ k → k ≤ T.N → a.state = 1 ∧ Wants w B m a ((wantF T.B (T.A.take (16 * k))).map keyOfHd) (wantsM (wantF T.B (T.A.take (16 * k))) none0) ∧ HeadsIn w a.left (T.B.drop (16 * k)) ∧ a.seq = seqAt T.s1 k
  sent : k ≤ T.N → a.smtu = 0 ∧ a.sopts = 2 ∧ a.sflags = flB T.B k ∧ a.sseq = seqAt T.s1 k ∧ HeadsIn w a.sheads (chB T.B k)
  some_ : 1 ≤ k → a.master = true ∧ a.taken = true ∧ a.lopts = 2 ∧ a.lseq = seqAt T.s1 (k - 1)
  fin : k = T.N + 1 → (g < T.WB.length → a.state = 2 ∧ Wants w B m a ((T.WB.drop g).map keyOfHd) (wantsM (T.WB.drop g) none0) ∧ KeysOwn w 0 a.asks (((T.WB.drop g).map keyOfHd).take 16)) ∧ (T.WB.length ≤ g → a.state = 3)
  tim : k ≤ T.N ∨ (k = T.N + 1 ∧ g < T.WB.length) → a.timer = t

/-- What the greater says to the answer k. -/
def SaysB (T : Tk) (k : Nat) (base : Nat) (w : World) (v : Value) : Prop :=
  if k < T.N then Desc1 base w v (flB T.B (k + 1)) (seqAt T.s1 (k + 1)) (chB T.B (k + 1))
  else if T.WB = [] then v = .slice none 0 0
  else Req1 base w v ((T.WB.map keyOfHd).take 16)
theorem SaysB.base {T : Tk} {k : Nat} {w : World} {base base' : Nat} {v : Value} (h : SaysB T k base w v) (hb : base' ≤ base) : SaysB T k base' w v := by
  unfold SaysB at h ⊢
  split
  · rename_i hc
    rw [if_pos hc] at h
    exact h.base hb
  · rename_i hc
    rw [if_neg hc] at h
    split
    · rename_i hd
      rw [if_pos hd] at h
      exact h
    · rename_i hd
      rw [if_neg hd] at h
      exact h.base hb

def AfterB (T : Tk) (B m : Nat) (a : Adj) (k : Nat) (w : World) (e : Ending) (w' : World) : Prop :=
  ∃ v, e = .returned (.tuple #[v, .int .i64 0]) ∧ ∃ a' t', (k < T.N ∨ T.WB ≠ [] → t' = 2) ∧ MasterAt T w' B m a' (k + 1) 0 t' ∧ Took w B m a a' w' ∧ SaysB T k w.heap.size w' v

section
variable {T : Tk} {w : World} {B m k g t : Nat} {a : Adj}

/-- The lesser's first one is no answer. -/
theorem b_no (h : MasterAt T w B m a 0 g t) {hv ow : Value} {s : Int} (hh : ∃ A c, hv = .slice A 0 c) :
    Calls Try.prog 14 #[.pointer (some ⟨B, 0, none⟩), ddval 0 2 7 s hv, ow] w fun e w' => e = .returned (.tuple #[.slice none 0 0, .int .i64 48]) ∧ Below w.heap.size w w' := by
  obtain ⟨A, c, rfl⟩ := hh
  have hz := h.zero rfl
  refine (Describe_start_e w B a 0 2 7 s (.slice A 0 c) ow 48 (fun v w' => v = .slice none 0 0 ∧ Below w.heap.size w w') h.adj (.inr ⟨A, 0, c, rfl⟩) h.made h.mtu hz.1 ?_).mono ?_
  · intro w1 hb1
    refine (begin_no w1 B a 0 2 7 s (.slice A 0 c) ow (h.adj.below hb1 h.adj.lt) ⟨A, c, rfl⟩ (by rw [h.sf, h.ot]; decide) (by decide) (by decide)).mono ?_
    rintro e w' ⟨rfl, hb2⟩
    exact ⟨_, rfl, rfl, hb1.trans (hb2.mono hb1.size)⟩
  · rintro e w' ⟨v, rfl, rfl, hb⟩
    exact ⟨rfl, hb⟩

theorem flB_succ (T : Tk) (k : Nat) : dflags true (T.B.drop (16 * k)) = flB T.B (k + 1) := rfl

/-- The greater takes the first answer. -/
theorem b_first (hT : TkOk T) (h : MasterAt T w B m a 0 g t) {hv ow : Value} (hh : HeadsIn w hv ((T.A.drop (16 * 0)).take 16)) (how : HeadsIn w ow T.B) :
    Calls Try.prog 14 #[.pointer (some ⟨B, 0, none⟩), ddval 0 2 (dflags false (T.A.drop (16 * 0))) (seqAt T.s1 0) hv, ow] w fun e w' => AfterB T B m a 0 w e w' := by
  obtain ⟨hst, hsq, hw⟩ := h.zero rfl
  obtain ⟨hm1, ho1, hf1, hs1, hsent⟩ := h.sent (Nat.zero_le _)
  obtain ⟨A, n, c, hvv, _⟩ := hh.1
  have hN : 0 < T.N := (hT.more 0).1 (.inl rfl)
  have hokp : ∀ x ∈ (T.A.drop (16 * 0)).take 16, HdOk x := fun x hx => (hT.okA x (List.mem_of_mem_drop (List.mem_of_mem_take hx))).1
  have hlen : ((T.A.drop (16 * 0)).take 16).length ≤ 16 := by rw [List.length_take]; omega
  have hnB := hT.nB
  have h7 : (dflags false (T.A.drop (16 * 0)) == 7) = false := by
    unfold dflags
    by_cases hg : 16 < (T.A.drop (16 * 0)).length <;> simp only [hg, if_true, if_false, Bool.false_eq_true] <;> decide
  have h5 : (bits .and .u8 (dflags false (T.A.drop (16 * 0))) 5 == 0) = true := by
    unfold dflags
    by_cases hg : 16 < (T.A.drop (16 * 0)).length <;> simp only [hg, if_true, if_false, Bool.false_eq_true] <;> decide
  refine (Describe_start w B a 0 2 (dflags false (T.A.drop (16 * 0))) (seqAt T.s1 0) hv ow (fun v w' => ∃ a' t', (0 < T.N ∨ T.WB ≠ [] → t' = 2) ∧ MasterAt T w' B m a' (0 + 1) 0 t' ∧ Took w B m a a' w' ∧ SaysB T 0 w.heap.size w' v) h.adj (.inr ⟨A, n, c, hvv⟩) h.made h.mtu hst ?_).mono fun e w' he => he
  intro w1 hb1
  refine (begin_master_g w1 B m a none0 0 2 (dflags false (T.A.drop (16 * 0))) (seqAt T.s1 0) hv ow ((T.A.drop (16 * 0)).take 16) T.B (hw.later hb1) (hh.below hb1) hokp (by omega) (fun i x hx => new_key (own := T.B) hT.uA (m := 16 * 0) hx) (how.below hb1) (fun x hx => (hT.okB x hx).1) (fun x hx => (hT.okB x hx).2.1) (by omega) ⟨by rw [h.rx]; decide, by rw [h.rx]; decide⟩ (by rw [h.sf, h.ot]; decide) h.types h7 h5 hsq.symm (by rw [hf1]; show isM 7 = true; decide) (hsent.below hb1)).mono ?_
  rintro e w' ⟨v, rfl, ov, lv, sv, ⟨y1, y2⟩, ht, hv', o1, o2⟩
  have eO : (wantF T.B ((T.A.drop (16 * 0)).take 16)).map keyOfHd = (wantF T.B (T.A.take (16 * 1))).map keyOfHd := rfl
  have hsq2 : (a.seq + 1) % 4294967296 = seqAt T.s1 (0 + 1) := by rw [hsq]; exact seqAt_next _ _
  refine ⟨v, rfl, _, 2, fun _ => rfl, ⟨?_, ht.wants.adj, fun e => by omega, fun _ _ => ⟨rfl, ht.wants, ht.left, hsq2⟩, fun _ => ⟨h.mtu, h.opts, rfl, hsq2, ht.sent⟩, fun _ => ⟨rfl, rfl, rfl, rfl⟩, fun e => by omega, fun _ => h.rx⟩, Took.from hb1 ⟨ht.frame, fun i hi => ?_, fun i hi => ?_⟩, ?_⟩
  · exact ⟨h.made, h.sf, h.ot, h.mtu, h.opts, h.rx, h.types⟩
  · have hlt := (ht.wants.order.lt i hi).2
    rcases ht.ord with e | e | ⟨g, e, hg⟩
    · left; rw [← e]; exact hi
    · rw [e] at hi; cases hi
    · right; rw [e] at hi; cases hi; exact ⟨hg, hlt⟩
  · rcases hi with hi | hi | hi
    · exact .inr ⟨y1 i hi, ht.left.lt hi⟩
    · exact .inr ⟨y2 i hi, ht.sent.lt hi⟩
    · exact .inl (.inr (.inr hi))
  · unfold SaysB
    rw [if_pos hN]
    have e1 : ({ a with master := true, state := 1 } : Adj).mtu = 0 := h.mtu
    have e2 : ({ a with master := true, state := 1 } : Adj).opts = 2 := h.opts
    rw [e1, e2] at o1
    have o1' : w'.ownsRow w1.heap.size 40 7 v 1 (Raw.cells ⟨true, 0, 2, flB T.B 1, (a.seq + 1) % 4294967296, hv', .slice none 0 0⟩) := o1
    rw [hsq2] at o1'
    exact ⟨hv', own_base o1' hb1.size, own_base o2 hb1.size⟩

/-- The greater takes the next answer. -/
theorem b_next (hT : TkOk T) {j : Nat} (h : MasterAt T w B m a (j + 1) g t) (hj : j + 1 ≤ T.N) {hv ow : Value} (hh : HeadsIn w hv ((T.A.drop (16 * (j + 1))).take 16)) (how : HeadsIn w ow T.B) :
    Calls Try.prog 14 #[.pointer (some ⟨B, 0, none⟩), ddval 0 2 (dflags false (T.A.drop (16 * (j + 1)))) (seqAt T.s1 (j + 1)) hv, ow] w fun e w' => AfterB T B m a (j + 1) w e w' := by
  obtain ⟨hst, hw, hleft, hsq⟩ := h.mid (by omega) hj
  obtain ⟨hm1, ho1, hf1, hs1, hsent⟩ := h.sent hj
  obtain ⟨hms, htk, hlo, hls⟩ := h.some_ (by omega)
  obtain ⟨A, n, c, hvv, _⟩ := hh.1
  simp only [Nat.add_sub_cancel] at hls
  have hokp : ∀ x ∈ (T.A.drop (16 * (j + 1))).take 16, HdOk x := fun x hx => (hT.okA x (List.mem_of_mem_drop (List.mem_of_mem_take hx))).1
  have hlen : ((T.A.drop (16 * (j + 1))).take 16).length ≤ 16 := by rw [List.length_take]; omega
  have hnA := hT.nA
  have hnB := hT.nB
  have hrng := seqAt_rng T.s1 (j + 1)
  have hfit : Fits a 2 (dflags false (T.A.drop (16 * (j + 1)))) (seqAt T.s1 (j + 1)) := by
    refine ⟨(dfl_false _).1, by rw [hms]; exact (dfl_false _).2, hlo.symm, ?_, by rw [hsq]; exact hrng.1, by rw [hsq]; exact hrng.2⟩
    unfold nextSeq
    rw [hms, hsq]
    rfl
  have hwl : (wantF T.B (T.A.take (16 * (j + 1)))).length ≤ 60 := by
    have h1 := wantF_length T.B (T.A.take (16 * (j + 1)))
    rw [List.length_take] at h1
    omega
  refine (Describe_again w B a 0 2 (dflags false (T.A.drop (16 * (j + 1)))) (seqAt T.s1 (j + 1)) hv ow (fun v w' => ∃ a' t', (j + 1 < T.N ∨ T.WB ≠ [] → t' = 2) ∧ MasterAt T w' B m a' (j + 1 + 1) 0 t' ∧ Took w B m a a' w' ∧ SaysB T (j + 1) w.heap.size w' v) h.adj (.inr ⟨A, n, c, hvv⟩) h.made h.mtu (by rw [hst]; rfl) ?_).mono fun e w' he => he
  intro w1 hb1
  refine (again_any w1 B a 0 2 (dflags false (T.A.drop (16 * (j + 1)))) (seqAt T.s1 (j + 1)) hv ow ((T.A.drop (16 * (j + 1))).take 16) (fun v w' => ∃ a' t', (j + 1 < T.N ∨ T.WB ≠ [] → t' = 2) ∧ MasterAt T w' B m a' (j + 1 + 1) 0 t' ∧ Took w B m a a' w' ∧ SaysB T (j + 1) w.heap.size w' v) (h.adj.below hb1 h.adj.lt) (hh.below hb1) hokp (by omega) h.types hfit htk (by rw [hls]; exact seqAt_ne _ _) hst ?_).mono fun e w' he => he
  intro w2 hb2
  have hb02 : Below w.heap.size w w2 := hb1.trans (hb2.mono hb1.size)
  refine (take_master_g w2 B m a _ _ 0 2 (dflags false (T.A.drop (16 * (j + 1)))) (seqAt T.s1 (j + 1)) hv ow ((T.A.drop (16 * (j + 1))).take 16) T.B (T.B.drop (16 * (j + 1))) (chB T.B (j + 1)) (hw.later hb02) (hleft.below hb02) (hsent.below hb02) (hh.below hb02) (how.below hb02) hokp (fun x hx => (hT.okB x hx).1) (by rw [List.length_drop]; omega) (by rw [List.length_map]; omega) (by omega) ⟨by rw [h.rx]; decide, by rw [h.rx]; decide⟩ hms (fun i x hx => new_key hT.uA hx)).mono ?_
  rintro e w' ⟨v, rfl, hS⟩
  have eO : (wantF T.B (T.A.take (16 * (j + 1)))).map keyOfHd ++ (wantF T.B ((T.A.drop (16 * (j + 1))).take 16)).map keyOfHd = (wantF T.B (T.A.take (16 * (j + 1 + 1)))).map keyOfHd := by
    rw [← List.map_append, ← wantF_app, chunk_snoc]
  have eM : wantsM (wantF T.B ((T.A.drop (16 * (j + 1))).take 16)) (wantsM (wantF T.B (T.A.take (16 * (j + 1)))) none0) = wantsM (wantF T.B (T.A.take (16 * (j + 1 + 1)))) none0 := by
    rw [← wantsM_app, ← wantF_app, chunk_snoc]
  rw [eO, eM] at hS
  have hmore : (isM a.sflags || isM (dflags false (T.A.drop (16 * (j + 1))))) = decide (j + 1 < T.N) := by
    rw [hf1, isM_dfl, Bool.or_comm]
    exact more_iff hT (j + 1)
  rw [hmore] at hS
  have hsq2 : (a.seq + 1) % 4294967296 = seqAt T.s1 (j + 1 + 1) := by rw [hsq]; exact seqAt_next _ _
  have hd : (T.B.drop (16 * (j + 1))).drop 16 = T.B.drop (16 * (j + 1 + 1)) := by rw [List.drop_drop, show 16 * (j + 1) + 16 = 16 * (j + 1 + 1) from by omega]
  have hC : AdjC a 2 1 := ⟨h.made, h.sf, h.ot, h.mtu, h.opts, h.rx, h.types⟩
  have hord : ∀ {a' : Adj} {O : List Od.Ky} {M : Od.Ky → Option Od.Hd} {L S : List Od.Hd}, Taken w2 B m a a' O M L S w' → ∀ i, a'.order.ownBlock = some i → a.order.ownBlock = some i ∨ (w2.heap.size ≤ i ∧ i < w'.heap.size) := by
    intro a' O M L S ht i hi
    have hlt := (ht.wants.order.lt i hi).2
    rcases ht.ord with e | e | ⟨g, e, hg⟩
    · left; rw [← e]; exact hi
    · rw [e] at hi; cases hi
    · right; rw [e] at hi; cases hi; exact ⟨hg, hlt⟩
  by_cases hkN : j + 1 < T.N
  · rw [decide_eq_true hkN] at hS
    obtain ⟨ov, lv, sv, ⟨s1, s2⟩, ht, hv', o1, o2⟩ := hS
    rw [hd] at ht
    rw [h.mtu, h.opts, hms] at o1
    refine ⟨v, rfl, _, 2, fun _ => rfl, ⟨?_, ht.wants.adj, fun e => by omega, fun _ _ => ⟨hst, ht.wants, ht.left, hsq2⟩, fun _ => ⟨h.mtu, h.opts, by show dflags a.master _ = _; rw [hms]; rfl, hsq2, ht.sent⟩, fun _ => ⟨hms, rfl, rfl, rfl⟩, fun e => by omega, fun _ => h.rx⟩, Took.from hb02 ⟨ht.frame, hord ht, fun i hi => ?_⟩, ?_⟩
    · exact ⟨hC.made, hC.sf, hC.ot, hC.mtu, hC.opts, hC.rx, hC.types⟩
    · rcases hi with hi | hi | hi
      · exact .inl (.inl (s1 i hi))
      · exact .inl (.inl (s2 i hi))
      · exact .inl (.inr (.inr hi))
    · unfold SaysB
      rw [if_pos hkN]
      have o1' : w'.ownsRow w2.heap.size 40 7 v 1 (Raw.cells ⟨true, 0, 2, flB T.B (j + 1 + 1), (a.seq + 1) % 4294967296, hv', .slice none 0 0⟩) := o1
      rw [hsq2] at o1'
      exact ⟨hv', own_base o1' hb02.size, own_base o2 hb02.size⟩
  · have hjN : j + 1 = T.N := by omega
    rw [decide_eq_false hkN] at hS
    have hall : T.A.take (16 * (j + 1 + 1)) = T.A := by rw [hjN]; exact allA_taken hT
    rw [hall] at hS
    by_cases hW : T.WB = []
    · have hW' : (wantF T.B T.A).map keyOfHd = [] := by
        have : wantF T.B T.A = [] := hW
        rw [this]; rfl
      rw [show kindOf false ((wantF T.B T.A).map keyOfHd) = .full from by simp only [kindOf, Bool.false_eq_true, if_false]; rw [if_pos hW']] at hS
      obtain ⟨ov, ht, hvn⟩ := hS
      have hWl : T.WB.length = 0 := by rw [hW]; rfl
      refine ⟨v, rfl, _, a.timer.toNat, fun e => ?_, ⟨?_, ht.wants.adj, fun e => by omega, fun _ e => by omega, fun e => by omega, fun _ => ⟨hms, rfl, rfl, rfl⟩, fun _ => ⟨fun e => by omega, fun _ => rfl⟩, fun e => by omega⟩, Took.from hb02 ⟨ht.frame, hord ht, fun i hi => ?_⟩, ?_⟩
      · rcases e with e | e
        · omega
        · exact absurd hW e
      · exact ⟨hC.made, hC.sf, hC.ot, hC.mtu, hC.opts, hC.rx, hC.types⟩
      · exact .inl hi
      · unfold SaysB
        rw [if_neg hkN, if_pos hW]
        exact hvn
    · have hW' : ¬ (wantF T.B T.A).map keyOfHd = [] := fun e => hW (List.map_eq_nil_iff.1 e)
      rw [show kindOf false ((wantF T.B T.A).map keyOfHd) = .loading from by simp only [kindOf, Bool.false_eq_true, if_false]; rw [if_neg hW']] at hS
      obtain ⟨ov, av, kv, ht, o1, o2, o3⟩ := hS
      have hWl : 0 < T.WB.length := List.length_pos_iff.2 hW
      refine ⟨v, rfl, _, 2, fun _ => rfl, ⟨?_, ht.wants.adj, fun e => by omega, fun _ e => by omega, fun e => by omega, fun _ => ⟨hms, rfl, rfl, rfl⟩, fun _ => ⟨fun _ => ⟨rfl, ht.wants, own_base o2 (Nat.zero_le _)⟩, fun e => by omega⟩, fun _ => h.rx⟩, Took.from hb02 ⟨ht.frame, hord ht, fun i hi => ?_⟩, ?_⟩
      · exact ⟨hC.made, hC.sf, hC.ot, hC.mtu, hC.opts, hC.rx, hC.types⟩
      · rcases hi with hi | hi | hi
        · exact .inl (.inl hi)
        · exact .inl (.inr (.inl hi))
        · exact .inr (o2.lt i hi)
      · unfold SaysB
        rw [if_neg hkN, if_neg hW]
        exact ⟨kv, own_base o1 hb02.size, own_base o3 hb02.size⟩
end
end Go.Proofs.Ytgbmhijgpdgdbaa

namespace Go.Proofs.Ytgbmhijgpdgdbaa
open Go.RowKit

/-- All but the order, the state, the asks, the timer. -/
structure Keeps (a a' : Adj) : Prop where
  made : a'.made = a.made
  sf : a'.self = a.self
  ot : a'.other = a.other
  mtu : a'.mtu = a.mtu
  opts : a'.opts = a.opts
  rx : a'.rxmt = a.rxmt
  types : a'.types = a.types
  master : a'.master = a.master
  left : a'.left = a.left
  smtu : a'.smtu = a.smtu
  sopts : a'.sopts = a.sopts
  sflags : a'.sflags = a.sflags
  sseq : a'.sseq = a.sseq
  sheads : a'.sheads = a.sheads
  taken : a'.taken = a.taken
  lflags : a'.lflags = a.lflags
  lopts : a'.lopts = a.lopts
  lseq : a'.lseq = a.lseq
  seq : a'.seq = a.seq
theorem Keeps.refl (a : Adj) : Keeps a a := ⟨rfl, rfl, rfl, rfl, rfl, rfl, rfl, rfl, rfl, rfl, rfl, rfl, rfl, rfl, rfl, rfl, rfl, rfl, rfl⟩
theorem Keeps.trans {a b c : Adj} (h : Keeps a b) (k : Keeps b c) : Keeps a c :=
  ⟨k.made.trans h.made, k.sf.trans h.sf, k.ot.trans h.ot, k.mtu.trans h.mtu, k.opts.trans h.opts, k.rx.trans h.rx, k.types.trans h.types, k.master.trans h.master, k.left.trans h.left, k.smtu.trans h.smtu, k.sopts.trans h.sopts, k.sflags.trans h.sflags, k.sseq.trans h.sseq, k.sheads.trans h.sheads, k.taken.trans h.taken, k.lflags.trans h.lflags, k.lopts.trans h.lopts, k.lseq.trans h.lseq, k.seq.trans h.seq⟩
theorem Keeps.con {a a' : Adj} {me you : Int} (h : Keeps a a') (c : AdjC a me you) : AdjC a' me you :=
  ⟨h.made.trans c.made, h.sf.trans c.sf, h.ot.trans c.ot, h.mtu.trans c.mtu, h.opts.trans c.opts, h.rx.trans c.rx, h.types.trans c.types⟩

/-- Is one of the keys G among the heads X? -/
def stillL (X : List Od.Hd) (G : List Od.Ky) : Bool := G.any fun k => (haveOf X k).isSome

/-- An adjacency that loads. -/
structure LoadAt (w : World) (B m : Nat) (a : Adj) (W : List Od.Hd) (G : List Od.Ky) : Prop where
  made : a.made = true
  rx : a.rxmt = 2
  st : a.state = 2
  wa : Wants w B m a (W.map keyOfHd) (wantsM W none0)
  ga : KeysOwn w 0 a.asks G

def GotStep (B m : Nat) (a : Adj) (X : List Od.Hd) (G : List Od.Ky) (w : World) (e : Ending) (w' : World) : Prop :=
  Frame (fun j => j = B ∨ j = m) w w' ∧ ∃ a', Keeps a a' ∧ (∀ j, a'.order.ownBlock = some j → a.order.ownBlock = some j ∨ (w.heap.size ≤ j ∧ j < w'.heap.size)) ∧ (a'.asks = a.asks ∨ ∀ j, a'.asks.ownBlock = some j → w.heap.size ≤ j ∧ j < w'.heap.size) ∧
    if X = [] then stillL X G = false → e = .returned (.slice none 0 0) ∧ AdjAt w' B a' ∧ a'.state = 3
    else if stillL X G then e = .returned (.slice none 0 0) ∧ LoadAt w' B m a' X G ∧ a'.timer = a.timer
    else ∃ v, e = .returned v ∧ Req1 w.heap.size w' v ((X.map keyOfHd).take 16) ∧ LoadAt w' B m a' X ((X.map keyOfHd).take 16) ∧ a'.timer = 2

theorem got_step {w : World} {B m : Nat} {a : Adj} {x : Od.Hd} {X : List Od.Hd} {G : List Od.Ky} (hu : Uniq (x :: X)) (h : LoadAt w B m a (x :: X) G) (hx : HdOk x) (hG : G ≠ []) (hok : ∀ k ∈ G, KyOk k) (hX : X.length ≤ 60) (hGl : G.length ≤ 16) :
    Calls Try.prog 25 #[.pointer (some ⟨B, 0, none⟩), hdval x] w fun e w' => GotStep B m a X G w e w' := by
  obtain ⟨g, o, t, i, v, s, mm, l⟩ := x
  have hM : wantsM (⟨g, o, t, i, v, s, mm, l⟩ :: X) none0 ⟨t, i, v⟩ = some ⟨g, o, t, i, v, s, mm, l⟩ := by
    have e : wantsM (⟨g, o, t, i, v, s, mm, l⟩ :: X) none0 = _ := wantsM_have hu
    rw [e, have_cons]
    exact if_pos rfl
  have hpop : upd (wantsM (⟨g, o, t, i, v, s, mm, l⟩ :: X) none0) ⟨t, i, v⟩ none = haveOf X := by
    have e : wantsM (⟨g, o, t, i, v, s, mm, l⟩ :: X) none0 = _ := wantsM_have hu
    rw [e]
    exact have_pop hu
  have hwX : wantsM X none0 = haveOf X := wantsM_have (List.pairwise_cons.1 hu).2
  have hg0 := hx.g0
  have hg1 : g ≤ 65535 := by have := hx.g1; simp only at this; omega
  refine (got_first w B m a (X.map keyOfHd) G _ g o t i v s mm l h.wa hx.ky hM h.ga hG hok (by rw [List.length_map]; omega) (by omega) h.st h.made hg0 hg1 ⟨by rw [h.rx]; decide, by rw [h.rx]; decide⟩).mono ?_
  rintro e w' ⟨hf, ov, hp⟩
  refine ⟨hf, ?_⟩
  rw [hpop] at hp
  have hst : stillB (haveOf X) G = stillL X G := rfl
  rw [hst] at hp
  by_cases hX0 : X = []
  · rw [if_pos (by rw [hX0]; rfl)] at hp
    refine ⟨{ a with order := ov, state := 3 }, ⟨rfl, rfl, rfl, rfl, rfl, rfl, rfl, rfl, rfl, rfl, rfl, rfl, rfl, rfl, rfl, rfl, rfl, rfl, rfl⟩, fun j hj => .inl (by rw [← hp.1]; exact hj), .inl rfl, ?_⟩
    rw [if_pos hX0]
    exact fun hs => ⟨(hp.2 hs).1, (hp.2 hs).2, rfl⟩
  · rw [if_neg (fun e => hX0 (List.map_eq_nil_iff.1 e))] at hp
    obtain ⟨⟨gg, hgg, hgs⟩, hp⟩ := hp
    by_cases hs : stillL X G = true
    · rw [if_pos hs] at hp
      obtain ⟨he, hw⟩ := hp
      refine ⟨{ a with order := ov }, ⟨rfl, rfl, rfl, rfl, rfl, rfl, rfl, rfl, rfl, rfl, rfl, rfl, rfl, rfl, rfl, rfl, rfl, rfl, rfl⟩, fun j hj => .inr ?_, .inl rfl, ?_⟩
      · have hj' : ov.ownBlock = some j := hj
        have hlt := (hw.order.lt j hj').2
        rw [hgg] at hj'
        cases hj'
        exact ⟨hgs, hlt⟩
      · rw [if_neg hX0, if_pos hs]
        have hbm : B ≠ m := h.wa.map.blk_ne h.wa.adj
        refine ⟨he, ⟨h.made, h.rx, h.st, by rw [hwX]; exact hw, ?_⟩, rfl⟩
        exact hf.own h.ga (fun j hj e => by
          rcases e with e | e
          · exact own_blk_ne h.ga h.wa.adj (by decide) (e ▸ hj)
          · exact own_map_ne h.ga h.wa.map (e ▸ hj))
    · rw [if_neg hs] at hp
      obtain ⟨rv, kv, av, he, ho, hk1, hk2, hw⟩ := hp
      refine ⟨({ a with order := ov } : Adj).requested av, ⟨rfl, rfl, rfl, rfl, rfl, rfl, rfl, rfl, rfl, rfl, rfl, rfl, rfl, rfl, rfl, rfl, rfl, rfl, rfl⟩, fun j hj => .inr ?_, .inr fun j hj => hk2.lt j hj, ?_⟩
      · have hj' : ov.ownBlock = some j := hj
        have hlt := (hw.order.lt j hj').2
        rw [hgg] at hj'
        cases hj'
        exact ⟨hgs, hlt⟩
      · rw [if_neg hX0, if_neg hs]
        exact ⟨rv, he, ⟨kv, ho, hk1⟩, ⟨h.made, h.rx, h.st, by rw [hwX]; exact hw, own_base hk2 (Nat.zero_le _)⟩, h.rx⟩

/-- What is still wanted of the first sixteen. -/
theorem still_first {W : List Od.Hd} (hu : Uniq W) {i : Nat} : stillL (W.drop (i + 1)) ((W.map keyOfHd).take 16) = decide (i + 1 < 16 ∧ i + 1 < W.length) := by
  by_cases h : i + 1 < 16 ∧ i + 1 < W.length
  · rw [decide_eq_true h]
    refine List.any_eq_true.2 ⟨keyOfHd W[i + 1], ?_, ?_⟩
    · rw [List.mem_take_iff_getElem]
      refine ⟨i + 1, by rw [List.length_map]; omega, by simp⟩
    · have hm : W[i + 1] ∈ W.drop (i + 1) := by
        rw [List.mem_iff_getElem?]
        exact ⟨0, by rw [List.getElem?_drop]; simp [h.2]⟩
      rw [have_mem (hu.drop _) hm]
      rfl
  · rw [decide_eq_false h]
    unfold stillL
    rw [List.any_eq_false]
    intro k hk
    have : haveOf (W.drop (i + 1)) k = none := have_none.2 fun x hx e => by
      obtain ⟨j, hj, ek⟩ := List.mem_take_iff_getElem.1 hk
      obtain ⟨n, hn, ex⟩ := List.getElem_of_mem hx
      rw [List.getElem_drop] at ex
      rw [List.length_drop] at hn
      rw [List.length_map] at hj
      rw [List.getElem_map] at ek
      have hne : j ≠ i + 1 + n := by omega
      have huk := List.pairwise_iff_getElem.1 hu
      rcases Nat.lt_or_gt_of_ne hne with hlt | hgt
      · have := huk j (i + 1 + n) (by omega) (by omega) hlt
        exact this (by rw [ek, ex, e])
      · have := huk (i + 1 + n) j (by omega) (by omega) hgt
        exact this (by rw [ek, ex, e])
    rw [this]
    decide
end Go.Proofs.Ytgbmhijgpdgdbaa
