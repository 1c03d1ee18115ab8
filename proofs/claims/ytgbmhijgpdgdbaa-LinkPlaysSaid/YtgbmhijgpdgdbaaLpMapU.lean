/- Maps keyed by a uint32: what a look-up, a store do to the block. -/
import Derived.Below
import Derived.Laws.OwnMore
import Derived.Deep.AppendLies
import Derived.Deep.Draws
import Derived.Laws.Rows
import Derived.Test.YtgbmhijgpdgdbaaRows
import Derived.WalkKit
import Derived.WalkSpells
import Derived.WalkLawsBesides
import Derived.Lib.Hide
import Derived.Laws.BitsAllLaws
import Derived.Deep.RegionHeld3
import Derived.Deep.DeepCutAuto
import Derived.Deep.QuietTactic
import Derived.BigQuiet
import Derived.DeepKeys4
import Derived.Maps.Keyed
import Derived.Deep.Quiet
import Derived.RangeFuncNested
import Derived.RangeFuncBound
import Derived.RangeFuncCalls
import Derived.RangeFuncLeaves
import Derived.RangeFuncFrom
import Derived.RangeFuncOne
import Derived.Shelf.Abstract
import Derived.Maps.AppendAt
import Derived.RegionTactic
import Derived.OwnWalk
set_option maxHeartbeats 1000000
set_option maxRecDepth 20000
namespace Go.Proofs.Ytgbmhijgpdgdbaa
namespace Od
def years (age : Int) : Int := min (age % 32768) 3600
def old (age : Int) : Bool := years age == 3600
def next (s : Int) : Int × Bool := if s = 2147483647 then (0, false) else (s + 1, true)
def age (g : Int) (passed : Int) : Int := if 32768 ≤ g ∨ passed < 1 then g else min (years g + min passed 3600) 3600
structure Hd where
  g : Int
  o : Int
  t : Int
  i : Int
  v : Int
  s : Int
  m : Int
  l : Int
deriving DecidableEq
structure Ky where
  t : Int
  i : Int
  v : Int
deriving DecidableEq
end Od
end Go.Proofs.Ytgbmhijgpdgdbaa
namespace Go.Proofs.Ytgbmhijgpdgdbaa
open Go.RowKit
theorem block_of_add (a : Addr) (n : Nat) : (a.add n).block = a.block := by unfold Addr.add; split <;> rfl
def Reads (w : World) (B size : Nat) (A : Option Addr) (n : Nat) (xs : List Value) : Prop :=
  xs.length = n * size ∧ (0 < n → ∃ ad, A = some ad ∧ ad.block < B ∧ ∀ j u, xs[j]? = some u → w.cell? (ad.add j) = some u)
section
variable {w w' : World} {B B' size n : Nat} {A : Option Addr} {xs : List Value}
theorem Reads.none_ : Reads w B size A 0 [] := ⟨by simp, fun h => absurd h (by omega)⟩
theorem Reads.keep (h : Reads w B size A n xs) (hk : ∀ p : Addr, p.block < B → w'.cell? p = w.cell? p) : Reads w' B size A n xs :=
  ⟨h.1, fun hn => by
    obtain ⟨ad, e, hb, hc⟩ := h.2 hn
    exact ⟨ad, e, hb, fun j u hu => (hk _ (by rw [block_of_add]; exact hb)).trans (hc j u hu)⟩⟩
theorem Reads.more (h : Reads w B size A n xs) (hB : B ≤ B') : Reads w B' size A n xs :=
  ⟨h.1, fun hn => by
    obtain ⟨ad, e, hb, hc⟩ := h.2 hn
    exact ⟨ad, e, by omega, hc⟩⟩
theorem Reads.below (h : Reads w B size A n xs) (hb : Below B w w') : Reads w' B size A n xs := h.keep fun _ hp => hb.cell hp
theorem Reads.drewN (h : Reads w B size A n xs) (k : Nat) : Reads (w.drewN k) B size A n xs := h
theorem Reads.alloc (h : Reads w B size A n xs) (hB : B ≤ w.heap.size) (o : Obj) : Reads (w.alloc o) B size A n xs := h.keep fun p hp => World.cell?_alloc_lt w o p (by omega)
theorem Reads.of_own {base : Nat} {e : TypeId} {c : Nat} (h : w.ownsRow base e size (.slice A n c) n xs) : Reads w w.heap.size size A n xs := by
  refine ⟨h.1, fun hn => ?_⟩
  obtain ⟨g, cap, hv, _, hlt⟩ := h.form hn
  have hA : A = some ⟨g, 0, none⟩ := by injection hv
  subst hA
  exact ⟨_, rfl, hlt, h.cells (g := g) rfl⟩
end
def Blk (w : World) (g : Nat) (t : TypeId) (cs : Array Value) : Prop := w.heap[g]? = some (.cells cs t (0, 0))
section
variable {w w' : World} {g : Nat} {t : TypeId} {cs : Array Value}
theorem Blk.lt (h : Blk w g t cs) : g < w.heap.size := by
  rcases Nat.lt_or_ge g w.heap.size with hlt | hge
  · exact hlt
  · unfold Blk at h; rw [Array.getElem?_eq_none hge] at h; cases h
theorem Blk.cell (h : Blk w g t cs) (i : Nat) : w.cell? ⟨g, i, none⟩ = cs[i]? := cell_of_row w g i cs t (0, 0) h
theorem Blk.frozen (h : Blk w g t cs) (i : Nat) : w.frozen? ⟨g, i, none⟩ = false := by
  unfold Blk at h
  simp [World.frozen?, h]
theorem Blk.new (w : World) (t : TypeId) (cs : Array Value) : Blk (w.alloc (.cells cs t)) w.heap.size t cs := heap_alloc_new w _
theorem Blk.drew (h : Blk w g t cs) : Blk w.drew g t cs := h
theorem Blk.drewN (h : Blk w g t cs) (n : Nat) : Blk (w.drewN n) g t cs := h
theorem Blk.alloc (h : Blk w g t cs) (o : Obj) : Blk (w.alloc o) g t cs := (Below.heap_alloc w o g h.lt).trans h
theorem Blk.set_ (h : Blk w g t cs) (i : Nat) (u : Value) : Blk (w.setCell ⟨g, i, none⟩ u) g t (cs.setIfInBounds i u) := by
  unfold Blk at h ⊢
  simp [World.setCell, Array.getElem?_modify, h]
theorem Blk.far (h : Blk w g t cs) {p : Addr} (hp : g ≠ p.block) (u : Value) : Blk (w.setCell p u) g t cs := (Below.heap_setCell w p u g hp).trans h
theorem Blk.below {B : Nat} (h : Blk w g t cs) (hb : Below B w w') (hg : g < B) : Blk w' g t cs := (hb.block g hg).trans h
theorem Blk.grown {row : Option Nat} (h : Blk w g t cs) (hb : w.grownBy w' row) (hg : some g ≠ row) : Blk w' g t cs := (hb.block g h.lt hg).trans h
theorem Blk.ne_ {g' : Nat} {t' : TypeId} {cs' : Array Value} (h : Blk w g t cs) (h' : Blk w g' t' cs') (hne : t ≠ t') : g ≠ g' := by
  rintro rfl
  unfold Blk at h h'
  rw [h] at h'
  injection h' with h'
  injection h' with _ ht
  exact hne ht
theorem own_blk_ne {base : Nat} {e : TypeId} {size n : Nat} {v : Value} {xs : List Value} (h : w.ownsRow base e size v n xs) (hg : Blk w g t cs) (hne : e ≠ t) : v.ownBlock ≠ some g := by
  rcases h.2 with ⟨rfl, _⟩ | ⟨g', cap, cur, rfl, _, hh, _⟩
  · simp [Value.ownBlock]
  · intro he
    have : g' = g := by simpa [Value.ownBlock] using he
    subst this
    exact Blk.ne_ (t := e) hh hg hne rfl
end
end Go.Proofs.Ytgbmhijgpdgdbaa
namespace Go.Proofs.Ytgbmhijgpdgdbaa
open Go.RowKit
def hcells (h : Od.Hd) : List Value := [.int .u16 h.g, .int .u8 h.o, .int .u8 h.t, .int .u32 h.i, .int .u32 h.v, .int .i32 h.s, .int .u16 h.m, .int .u16 h.l]
end Go.Proofs.Ytgbmhijgpdgdbaa
namespace Go.Proofs.Ytgbmhijgpdgdbaa
open Go.RowKit
theorem keyRow : (56 : TypeId) < Try.prog.types.size := of_decide_eq_true (by kernel_rfl)
theorem keySize : ∃ m, Try.prog.types.size = m + 1 := ⟨Try.prog.types.size - 1, by have : (56 : Nat) < Try.prog.types.size := keyRow; omega⟩
variable {α : Type}
section
variable {f : α → Value} {w w' : World} {b : Nat} {M : Od.Ky → Option α}
def upd (M : Od.Ky → Option α) (k : Od.Ky) (o : Option α) : Od.Ky → Option α := fun x => if x = k then o else M x
open Go.ChangeMaps (setBlock heap_setBlock_same heap_setBlock_other modify_eq_set)
end
end Go.Proofs.Ytgbmhijgpdgdbaa
namespace Go.Proofs.Ytgbmhijgpdgdbaa
open Go.RowKit
structure Adj where
  made : Bool
  self : Int
  other : Int
  mtu : Int
  opts : Int
  rxmt : Int
  seq0 : Int
  types : Int
  state : Int
  seq : Int
  master : Bool
  left : Value
  smtu : Int
  sopts : Int
  sflags : Int
  sseq : Int
  sheads : Value
  taken : Bool
  lflags : Int
  lopts : Int
  lseq : Int
  order : Value
  wants : Value
  asks : Value
  timer : Int
def Adj.cells (a : Adj) : Array Value := #[.bool a.made, .int .u32 a.self, .int .u32 a.other, .int .u16 a.mtu, .int .u8 a.opts, .int .u16 a.rxmt, .int .u32 a.seq0, .int .u16 a.types,
  .int .u8 a.state, .int .u32 a.seq, .bool a.master, a.left, .int .u16 a.smtu, .int .u8 a.sopts, .int .u8 a.sflags, .int .u32 a.sseq, a.sheads, .bool a.taken,
  .int .u8 a.lflags, .int .u8 a.lopts, .int .u32 a.lseq, a.order, a.wants, a.asks, .int .u32 a.timer]
end Go.Proofs.Ytgbmhijgpdgdbaa
namespace Go.Proofs.Ytgbmhijgpdgdbaa
open Go.RowKit
structure Later (B : Nat) (w : World) where
  «to» : World
  ok : Below B w «to»
instance laterNonempty (B : Nat) (w : World) : Nonempty (Later B w) := ⟨⟨w, Below.refl _ _⟩⟩
theorem wp_region_later {P : Program} {B : Nat} {w0 : World} {id : Nat} {Q : Exit → Act → World → Prop} {a : Act} {w : World} {l : List Oper} (hm : P.follows .mixedOrders = true) (hB : Region.lexB .any l.toArray = true) (h0 : Below B w0 w)
    (h : wpQuiet P l.toArray (fun w' => ∃ u : Later B w0, w' = u.to) (fun a' => ∀ w', (∃ u : Later B w0, w' = u.to) → Q .normal a' w') l a) : (Code.region id l.toArray true).wp P Q a w :=
  wp_region_quiet (C := fun w' => ∃ u : Later B w0, w' = u.to) hm hB ⟨⟨w.drew, h0.drew⟩, rfl⟩ (by simpa using h)
theorem later_call {P : Program} {B : Nat} {w0 : World} {f : FuncId} {args : Array Value} {v : Value} (u : Later B w0) (hB : B ≤ w0.heap.size)
    (h : Calls P f args u.to fun e w' => e = .returned v ∧ Below u.to.heap.size u.to w') : Calls P f args u.to fun e w'' => e = .returned v ∧ ∃ u' : Later B w0, w'' = u'.to :=
  h.mono fun _ w'' ⟨he, hb⟩ => ⟨he, ⟨w'', u.ok.trans (hb.mono (Nat.le_trans hB u.ok.size))⟩, rfl⟩
theorem later_cell {B : Nat} {w0 : World} {p : Addr} {v : Value} (hp : p.block < B) (h : w0.cell? p = some v) : ∀ u : Later B w0, u.to.cell? p = some v := fun u => (u.ok.cell hp).trans h
end Go.Proofs.Ytgbmhijgpdgdbaa
namespace Go.Proofs.Ytgbmhijgpdgdbaa
open Go.RowKit
theorem wpOps_of_quiet {P : Program} {ops : Array Oper} {C : World → Prop} {Q' : Act → Prop} {Q : Exit → Act → World → Prop} (hQ : ∀ a w, C w → Q' a → Q .normal a w) :
    ∀ (l : List Oper) (k : Nat) (_ : ∀ j, l[j]? = ops[k + j]?) (a : Act) (w : World), C w → wpQuiet P ops C Q' l a → wpOps P ops Q (List.range' k l.length) a w
  | [], _, _, a, w, hw, h => hQ a w hw h
  | o :: l, k, hl, a, w, hw, h => by
    have h0 : ops[k]? = some o := by simpa using (hl 0).symm
    have ih := wpOps_of_quiet (P := P) (ops := ops) hQ l (k + 1) (fun j => by have := hl (j + 1); simpa [Nat.add_assoc, Nat.add_comm 1 j] using this)
    rw [List.length_cons, List.range'_succ]
    unfold wpOps
    simp only [h0]
    unfold wpQuiet at h
    split
    · rename_i hwant
      rw [if_pos hwant] at h
      exact .inl (Oper.wp_of_quiet hw (fun a' w' hw' hk => ih a' w' hw' hk) h)
    · rename_i hwant
      rw [if_neg hwant] at h
      exact ih _ _ hw h
theorem wp_region_later_plain {P : Program} {B : Nat} {w0 : World} {id : Nat} {Q : Exit → Act → World → Prop} {a : Act} {w : World} {l : List Oper} (h0 : Below B w0 w)
    (h : wpQuiet P l.toArray (fun w' => ∃ u : Later B w0, w' = u.to) (fun a' => ∀ w', (∃ u : Later B w0, w' = u.to) → Q .normal a' w') l a) : (Code.region id l.toArray false).wp P Q a w := by
  refine wp_region ?_
  have := wpOps_of_quiet (P := P) (ops := l.toArray) (C := fun w' => ∃ u : Later B w0, w' = u.to) (Q := Q) (Q' := fun a' => ∀ w', (∃ u : Later B w0, w' = u.to) → Q .normal a' w') (fun a' w' hw' hh => hh w' hw') l 0 (fun j => by simp) a w ⟨⟨w, h0⟩, rfl⟩ h
  rw [List.range_eq_range']
  simpa using this
end Go.Proofs.Ytgbmhijgpdgdbaa
namespace Go.Proofs.Ytgbmhijgpdgdbaa
open Go.RowKit
theorem all_made (w : World) (v f : Value) (hv : ∃ B, v = .pointer (some ⟨B, 0, none⟩)) (hf : ∃ fn a c, f = .func fn a c) :
    Calls Try.prog 86 #[v, f] w fun e w' => e = .returned (.func (.func 124) #[] #[.pointer (some ⟨w.heap.size, 0, none⟩), .pointer (some ⟨w.heap.size + 1, 0, none⟩)]) ∧ Below w.heap.size w w' ∧ w'.cell? ⟨w.heap.size, 0, none⟩ = some v ∧ w'.cell? ⟨w.heap.size + 1, 0, none⟩ = some f := by
  obtain ⟨B, rfl⟩ := hv
  obtain ⟨fn, a, c, rfl⟩ := hf
  have hmf : ∀ (fn : Fn) (first cap : Array Value) (w : World), (Instr.makeFunc fn first cap).run Try.prog w = .ok (.func fn first cap) w := fun _ _ _ _ => rfl
  go_enter Try.func86, Try.ntmps86
  go_wp2_with fail
  go_ret
  refine ⟨rfl, ?_, ?_, ?_⟩
  · exact ((Below.refl _ _).alloc (Nat.le_refl _) _).alloc (by simp) _
  · simp
  · simp
end Go.Proofs.Ytgbmhijgpdgdbaa
namespace Go.Proofs.Ytgbmhijgpdgdbaa
open Go.RowKit
theorem wp_rangeFunc_none {P : Program} {g : Operand} {ps : Array Tmp} {assign body : Code} {Q : Exit → Act → World → Prop} {ts : Array Value} {ds : List Deferred} {w : World} {gf : Nat} {lb : Array Value}
    (hg : ({ tmps := ts, defers := ds } : Act).eval g = .func (.func gf) #[] lb) (eg : ∀ args w, (callFunc gf args).run P w = .ok (.enter gf args) w)
    (hc : ∀ l W, Below w.heap.size w W → Calls P gf (#[.func (.yield l) #[] #[]] ++ lb) W fun e W' => (∃ v, e = .returned v) ∧ W = W')
    (hdone : ∀ D W, w.heap.size ≤ D → Below w.heap.size w W → W.heap[D]? = some (.deferred (some [])) → Q .normal { tmps := ts, defers := { target := .collected D, args := #[] } :: ds } W) :
    (Code.rangeFunc g ps assign body).wp P Q { tmps := ts, defers := ds } w := by
  rw [← wpIn_wide (n := 3)]
  refine wpIn_rangeFunc_ownF (α := Empty) (F := Fence.wide) (n := 3) rfl (by omega) hg trivial eg (encs := nofun) (Kp := Below w.heap.size) (S := fun _ => True) (Sp := fun _ => False) (N := 0) (w0 := w)
    (fun l J Jx W hW hJ hJx hY h0 => callsIn_wide.2 ((hc l W hW).mono fun e W' h => ⟨h.1, Or.inl ⟨[], trivial, h.2 ▸ h0⟩⟩))
    belowK_t (fun W l o o' hl h h1 h2 => belowK_b (Nat.le_refl _) W l o o' hl h h1 h2) (Below.refl _ _) nofun (fun _ W => Below w.heap.size w W) (fun _ _ _ => False)
    (ownFrom_below (Nat.le_refl _) (Nat.le_refl _)) (fun _ _ _ _ _ hs _ _ => hs) (Below.refl _ _) nofun nofun (fun _ _ x => nomatch x) ?_ (fun _ _ _ _ _ h _ _ => h.elim)
  exact fun D xs W hD _ hB hK => hdone D W hD hB hK
theorem lt_of_cell {w : World} {p : Addr} {v : Value} (h : w.cell? p = some v) : p.block < w.heap.size := by
  rcases Nat.lt_or_ge p.block w.heap.size with hlt | hge
  · exact hlt
  · have hn : w.heap[p.block]? = none := Array.getElem?_eq_none hge
    simp [World.cell?, hn] at h
theorem all_nil (W : World) (Bl Bi B l : Nat) (h1 : W.cell? ⟨Bl, 0, none⟩ = some (.pointer (some ⟨B, 0, none⟩))) (h2 : W.cell? ⟨B, 22, none⟩ = some (.slice none 0 0)) :
    Calls Try.prog 124 #[.func (.yield l) #[] #[], .pointer (some ⟨Bl, 0, none⟩), .pointer (some ⟨Bi, 0, none⟩)] W fun e W' => (∃ v, e = .returned v) ∧ W = W' := by
  go_enter Try.func124, Try.ntmps124
  go_wp2_with fail
  refine wp_loop_rounds 1 ?_
  rw [rounds_succ]
  go_wp2_with fail
  refine bodyPost_end (v := .tuple #[]) (by simp [results, Try.results124, go_sem]) rfl ⟨⟨_, rfl⟩, rfl⟩
theorem enters_all1 : ∀ args w, (callFunc 124 args).run Try.prog w = .ok (.enter 124 args) w := enters_of Try.func124 (by kernel_rfl) rfl
end Go.Proofs.Ytgbmhijgpdgdbaa
namespace Go.Proofs.Ytgbmhijgpdgdbaa
open Go.RowKit
def lcfg : Value := .agg #[.int .u8 0, .int .u32 1, .int .u32 167772160, .int .u8 24, .int .u32 167772161, .int .u8 2, .int .u16 10, .int .u32 40, .int .u16 0, .int .u8 1, .bool false, .bool false, .slice none 0 0, .int .u32 0]
theorem plain13 (w : World) : Calls Try.prog 41 #[.int .u8 0] w fun e w' => e = .returned lcfg ∧ Below w.heap.size w w' := by
  go_enter Try.func41, Try.ntmps41
  go_wp2_with fail
  refine bodyPost_ret (v := lcfg) (by simp [results, Try.results41, go_sem, lcfg]) rfl ⟨rfl, ?_⟩
  exact ((Below.refl _ _).alloc (Nat.le_refl _) _).alloc (by simp) _
theorem given13 (w : World) : Calls Try.prog 32 #[lcfg] w fun e w' => e = .returned lcfg ∧ Below w.heap.size w w' := by
  unfold lcfg
  go_enter Try.func32, Try.ntmps32
  go_wp2_with fail
  refine wp_loop_rounds 1 ?_
  rw [rounds_succ]
  go_wp2_with fail
  refine bodyPost_ret (v := lcfg) (by simp [results, Try.results32, go_sem, lcfg]) rfl ⟨rfl, ?_⟩
  exact (((Below.refl _ _).alloc (Nat.le_refl _) _).alloc (by simp) _).alloc (by simp; omega) _
theorem peers13 (w : World) : Calls Try.prog 63 #[lcfg] w fun e w' => e = .returned (.bool false) ∧ Below w.heap.size w w' := by
  unfold lcfg
  go_enter Try.func63, Try.ntmps63
  go_wp2_with fail
  go_ret
  exact ⟨rfl, (Below.refl _ _).alloc (Nat.le_refl _) _⟩
theorem peersMay13 (w : World) : Calls Try.prog 64 #[lcfg] w fun e w' => e = .returned (.bool true) ∧ Below w.heap.size w w' := by
  have hp := fun W => peers13 W
  unfold lcfg at hp ⊢
  have HP := Lib.hid hp
  clear hp
  go_enter Try.func64, Try.ntmps64
  go_wp2_with fail
  have k1 := Blk.new w 83 #[.int .u8 0, .int .u32 1, .int .u32 167772160, .int .u8 24, .int .u32 167772161, .int .u8 2, .int .u16 10, .int .u32 40, .int .u16 0, .int .u8 1, .bool false, .bool false, .slice none 0 0, .int .u32 0]
  refine (HP.out _).mono ?_
  rintro e w1 ⟨rfl, hb1⟩
  have c12 : w1.cell? ⟨w.heap.size, 12, none⟩ = some (.slice none 0 0) := (k1.below hb1 k1.lt).cell 12
  go_wp2_with fail
  go_ret
  exact ⟨rfl, ((Below.refl _ w).alloc (Nat.le_refl _) _).trans (hb1.mono (by simp))⟩
end Go.Proofs.Ytgbmhijgpdgdbaa
namespace Go.Proofs.Ytgbmhijgpdgdbaa
open Go.RowKit
theorem shl24 : bits .and .u32 167772160 4294967040 = 167772160 := by decide +kernel
theorem and1 : bits .and .u32 167772161 4294967040 = 167772160 := by decide +kernel
theorem and2 : bits .and .u32 167772162 4294967040 = 167772160 := by decide +kernel
theorem mask24 (w : World) : Calls Try.prog 102 #[.int .u8 24] w fun e w' => e = .returned (.int .u32 4294967040) ∧ w = w' := by
  go_enter Try.func102, Try.ntmps102
  go_wp2_with fail
  go_ret
  exact ⟨rfl, rfl⟩
theorem make24 (w : World) : Calls Try.prog 101 #[.int .u32 167772160, .int .u8 24] w fun e w' => e = .returned (.tuple #[.agg #[.int .u32 167772160, .int .u8 24], .int .i64 0]) ∧ Below w.heap.size w w' := by
  have h := shl24
  go_enter Try.func101, Try.ntmps101
  go_wp2_with (go_at_call 102; refine (mask24 _).mono ?_; rintro e w' ⟨rfl, rfl⟩)
  refine bodyPost_ret (v := .tuple #[.agg #[.int .u32 167772160, .int .u8 24], .int .i64 0]) (by simp [results, Try.results101, go_sem]) rfl ⟨rfl, ?_⟩
  exact (Below.refl _ _).alloc (Nat.le_refl _) _
theorem check24 (w : World) : Calls Try.prog 65 #[.agg #[.int .u32 167772160, .int .u8 24]] w fun e w' => e = .returned (.int .i64 0) ∧ Below w.heap.size w w' := by
  have k1 := Blk.new w 73 #[.int .u32 167772160, .int .u8 24]
  have hb0 : Below w.heap.size w (w.alloc (.cells #[.int .u32 167772160, .int .u8 24] 73)) := (Below.refl _ _).alloc (Nat.le_refl _) _
  have HB0 := Lib.hid hb0
  have K1 := Lib.hid k1
  clear hb0 k1
  go_enter Try.func65, Try.ntmps65
  go_wp2_with fail
  refine (make24 _).mono ?_
  rintro e w1 ⟨rfl, hb1⟩
  have k2 := K1.out.below hb1 K1.out.lt
  have c0 : w1.cell? ⟨w.heap.size, 0, none⟩ = some (.int .u32 167772160) := k2.cell 0
  have c1 : w1.cell? ⟨w.heap.size, 1, none⟩ = some (.int .u8 24) := k2.cell 1
  have hbl : w.heap.size < w1.heap.size := k2.lt
  have HB1 := Lib.hid (HB0.out.trans (hb1.mono (by simp)))
  clear k2 hb1
  go_wp2_with fail
  go_ret
  exact ⟨rfl, HB1.out.alloc HB1.out.size _⟩
theorem has24 (x : Int) (w : World) (hx : bits .and .u32 x 4294967040 = 167772160) : Calls Try.prog 66 #[.agg #[.int .u32 167772160, .int .u8 24], .int .u32 x] w fun e w' => e = .returned (.bool true) ∧ Below w.heap.size w w' := by
  have k1 := Blk.new w 73 #[.int .u32 167772160, .int .u8 24]
  have hb0 : Below w.heap.size w (w.alloc (.cells #[.int .u32 167772160, .int .u8 24] 73)) := (Below.refl _ _).alloc (Nat.le_refl _) _
  have HB0 := Lib.hid hb0
  have K1 := Lib.hid k1
  clear hb0 k1
  go_enter Try.func66, Try.ntmps66
  go_wp2_with fail
  have q0 := later_cell (v := .int .u32 167772160) (B := w.heap.size + 1) (w0 := (w.alloc (.cells #[.int .u32 167772160, .int .u8 24] 73))) (p := ⟨w.heap.size, 0, none⟩) (by simp) (K1.out.cell 0)
  have q1 := later_cell (v := .int .u8 24) (B := w.heap.size + 1) (w0 := (w.alloc (.cells #[.int .u32 167772160, .int .u8 24] 73))) (p := ⟨w.heap.size, 1, none⟩) (by simp) (K1.out.cell 1)
  have d1 : Hid (∀ u : Later (w.heap.size + 1) (w.alloc (.cells #[.int .u32 167772160, .int .u8 24] 73)), Calls Try.prog 65 #[.agg #[.int .u32 167772160, .int .u8 24]] u.to fun e w' => e = .returned (.int .i64 0) ∧ Below u.to.heap.size u.to w') := Lib.hid (fun u => check24 u.to)
  have d2 : Hid (∀ u : Later (w.heap.size + 1) (w.alloc (.cells #[.int .u32 167772160, .int .u8 24] 73)), Calls Try.prog 102 #[.int .u8 24] u.to fun e w' => e = .returned (.int .u32 4294967040) ∧ Below u.to.heap.size u.to w') := Lib.hid (fun u => (mask24 u.to).mono fun _ _ h => ⟨h.1, h.2 ▸ Below.refl _ _⟩)
  refine wp_region_later (B := w.heap.size + 1) (w0 := (w.alloc (.cells #[.int .u32 167772160, .int .u8 24] 73))) (by kernel_rfl) (by kernel_rfl) (Below.refl _ _) ?_
  repeat (go_big_quiet_step (first
    | (go_at_call 65; with_reducible exact later_call _ (by simp) (d1.out _))
    | (go_at_call 102; with_reducible exact later_call _ (by simp) (d2.out _))))
  refine wpQuiet_nil ?_
  rintro wx ⟨⟨wy, hwy⟩, hwe⟩
  obtain rfl : wx = wy := hwe
  go_wp2_with fail
  go_ret
  exact ⟨rfl, HB0.out.trans (hwy.mono (by omega))⟩
end Go.Proofs.Ytgbmhijgpdgdbaa
namespace Go.Proofs.Ytgbmhijgpdgdbaa
open Go.RowKit
section
variable {P : Program} (w : World)
theorem run_append_of_nil (base : Nat) (t ty e : TypeId) (i : TypeInfo) (size : Nat) (ht : P.underlying t = some (.slice e)) (hi : P.info? e = some i)
    (v : Value) (n : Nat) (xs : List Value) (hown : w.ownsRow base e size v n xs) (c : Nat) : (Builtin.append_ #[t, t] ty #[v, .slice none 0 c]).run P w = .ok v w := by
  rcases hown.2 with ⟨rfl, rfl⟩ | ⟨g, cap, cur, rfl, _, _, hnc, _⟩
  · simp [Builtin.append_, run_underlying ht, sizeOf, typeInfo, hi, Builtin.lenOf, Builtin.firstCells]
  · simp [Builtin.append_, run_underlying ht, sizeOf, typeInfo, hi, Builtin.lenOf, Builtin.firstCells, hnc, storeCells]
theorem run_append_any (base : Nat) (t ty e : TypeId) (i : TypeInfo) (z : Value) (size bytes : Nat) (ht : P.underlying t = some (.slice e)) (hi : P.info? e = some i) (hz : i.zero = some z)
    (hsize : i.size = size) (hby : i.bytes = bytes) (hzs : z.cells.size = size) (hsz : 0 < size)
    (v : Value) (n : Nat) (xs : List Value) (hown : w.ownsRow base e size v n xs)
    (B : Nat) (A : Option Addr) (m c : Nat) (news : List Value) (hr : Reads w B size A m news) (h1 : ∀ u ∈ news, u.oneCell' = true)
    (h63 : n + m ≤ maxLen) (hbytes : (n + m) * bytes ≤ 140737488355328) (hbase : base ≤ w.heap.size) :
    ∃ v' w', (Builtin.append_ #[t, t] ty #[v, .slice A m c]).run P w = .ok v' w' ∧ w'.ownsRow base e size v' (n + m) (xs ++ news) ∧ w.grownBy w' v.ownBlock ∧
      (v'.ownBlock = v.ownBlock ∨ v'.ownBlock = some w.heap.size) := by
  rcases A with _ | ad
  · have hm : m = 0 := by
      rcases Nat.eq_zero_or_pos m with h0 | h0
      · exact h0
      · obtain ⟨ad, h, _⟩ := hr.2 h0
        cases h
    subst hm
    have hn : news = [] := List.eq_nil_of_length_eq_zero (by simpa using hr.1)
    subst hn
    exact ⟨v, w, run_append_of_nil w base t ty e i size ht hi v n xs hown c, by simpa using hown, World.grownBy.refl w _, .inl rfl⟩
  · have hcells : ∀ j u, news[j]? = some u → w.cell? (ad.add j) = some u := by
      intro j u hu
      rcases Nat.eq_zero_or_pos m with h0 | h0
      · subst h0
        have hn : news = [] := List.eq_nil_of_length_eq_zero (by simpa using hr.1)
        subst hn
        simp at hu
      · obtain ⟨ad', h, _, hc⟩ := hr.2 h0
        injection h with h
        subst h
        exact hc j u hu
    obtain ⟨v', w', hrun, h2, h3, _, h5⟩ := run_append_own_at (P := P) w base t ty e i z size bytes ht hi hz hsize hby hzs hsz v n xs hown ad m c news hr.1 hcells h1 h63 hbytes hbase
    exact ⟨v', w', hrun, h2, h3, h5⟩
theorem wp_append_any {o : Oper} {a : Act} {K : Act → World → Prop} {Q : Exit → Act → World → Prop} (s x : Operand) (t : TypeId)
    (ho : o.op = .call { callee := .builtin .append, args := #[s, x], argTypes := #[t, t] })
    (base : Nat) (e : TypeId) (i : TypeInfo) (z : Value) (size bytes : Nat) (ht : P.underlying t = some (.slice e)) (hi : P.info? e = some i) (hz : i.zero = some z)
    (hsize : i.size = size) (hby : i.bytes = bytes) (hzs : z.cells.size = size) (hsz : 0 < size)
    (v : Value) (n : Nat) (xs : List Value) (hs : a.eval s = v) (hown : w.ownsRow base e size v n xs)
    (B : Nat) (A : Option Addr) (m c : Nat) (news : List Value) (hx : a.eval x = .slice A m c) (hr : Reads w B size A m news) (h1 : ∀ u ∈ news, u.oneCell' = true)
    (h63 : n + m ≤ maxLen) (hbytes : (n + m) * bytes ≤ 140737488355328) (hbase : base ≤ w.heap.size)
    (h : ∀ v' w', w'.ownsRow base e size v' (n + m) (xs ++ news) → w.grownBy w' v.ownBlock → (v'.ownBlock = v.ownBlock ∨ v'.ownBlock = some w.heap.size) → K (a.put o.dst v') w') : o.wp P a w K Q := by
  obtain ⟨v', w', hrun, h2, h3, h4⟩ := run_append_any (P := P) w base t o.type e i z size bytes ht hi hz hsize hby hzs hsz v n xs hown B A m c news hr h1 h63 hbytes hbase
  unfold Oper.wp execOp
  simp only [ho, resolve, invoke, builtin, Sem.run_bind, Sem.run_pure, Result.andThen_ok, List.map_toArray, List.map_cons, List.map_nil, hs, hx, hrun]
  exact h v' w' h2 h3 h4
theorem wpList_append_any {ops : Array Oper} {rest : List Oper} {o : Oper} {a : Act} {Q : Exit → Act → World → Prop} (hgd : o.guard = none) (s x : Operand) (t : TypeId)
    (ho : o.op = .call { callee := .builtin .append, args := #[s, x], argTypes := #[t, t] })
    (base : Nat) (e : TypeId) (i : TypeInfo) (z : Value) (size bytes : Nat) (ht : P.underlying t = some (.slice e)) (hi : P.info? e = some i) (hz : i.zero = some z)
    (hsize : i.size = size) (hby : i.bytes = bytes) (hzs : z.cells.size = size) (hsz : 0 < size)
    (v : Value) (n : Nat) (xs : List Value) (hs : a.eval s = v) (hown : w.ownsRow base e size v n xs)
    (B : Nat) (A : Option Addr) (m c : Nat) (news : List Value) (hx : a.eval x = .slice A m c) (hr : Reads w B size A m news) (h1 : ∀ u ∈ news, u.oneCell' = true)
    (h63 : n + m ≤ maxLen) (hbytes : (n + m) * bytes ≤ 140737488355328) (hbase : base ≤ w.heap.size)
    (h : ∀ v' w', w'.ownsRow base e size v' (n + m) (xs ++ news) → w.grownBy w' v.ownBlock → (v'.ownBlock = v.ownBlock ∨ v'.ownBlock = some w.heap.size) → wpList P ops Q rest (a.put o.dst v') w') : wpList P ops Q (o :: rest) a w :=
  wpList_plain hgd fun _ hK => wp_append_any w s x t ho base e i z size bytes ht hi hz hsize hby hzs hsz v n xs hs hown B A m c news hx hr h1 h63 hbytes hbase fun v' w' h2 h3 h4 => hK _ _ (h v' w' h2 h3 h4)
theorem step_append_any {ops : Array Oper} {o : Oper} {a : Act} {K : Act → World → Prop} {Q : Exit → Act → World → Prop} {E : Prop} (hgd : o.guard = none) (s x : Operand) (t : TypeId)
    (ho : o.op = .call { callee := .builtin .append, args := #[s, x], argTypes := #[t, t] })
    (base : Nat) (e : TypeId) (i : TypeInfo) (z : Value) (size bytes : Nat) (ht : P.underlying t = some (.slice e)) (hi : P.info? e = some i) (hz : i.zero = some z)
    (hsize : i.size = size) (hby : i.bytes = bytes) (hzs : z.cells.size = size) (hsz : 0 < size)
    (v : Value) (n : Nat) (xs : List Value) (hs : a.eval s = v) (hown : w.ownsRow base e size v n xs)
    (B : Nat) (A : Option Addr) (m c : Nat) (news : List Value) (hx : a.eval x = .slice A m c) (hr : Reads w B size A m news) (h1 : ∀ u ∈ news, u.oneCell' = true)
    (h63 : n + m ≤ maxLen) (hbytes : (n + m) * bytes ≤ 140737488355328) (hbase : base ≤ w.heap.size)
    (h : ∀ v' w', w'.ownsRow base e size v' (n + m) (xs ++ news) → w.grownBy w' v.ownBlock → (v'.ownBlock = v.ownBlock ∨ v'.ownBlock = some w.heap.size) → K (a.put o.dst v') w') :
    if Region.wanted o (yielded ops a.tmps) = true then Oper.wp P o a w K Q else E := by
  have hw : Region.wanted o (yielded ops a.tmps) = true := by simp [Region.wanted, hgd]
  rw [if_pos hw]
  exact wp_append_any w s x t ho base e i z size bytes ht hi hz hsize hby hzs hsz v n xs hs hown B A m c news hx hr h1 h63 hbytes hbase h
end
end Go.Proofs.Ytgbmhijgpdgdbaa
namespace Go.Proofs.Ytgbmhijgpdgdbaa
open Go.RowKit
theorem own_slice {w : World} {base : Nat} {e : TypeId} {size : Nat} {v : Value} {n : Nat} {xs : List Value} (h : w.ownsRow base e size v n xs) : ∃ A c, v = .slice A n c := by
  rcases h.2 with ⟨rfl, rfl⟩ | ⟨g, cap, cur, rfl, _⟩
  · exact ⟨_, _, rfl⟩
  · exact ⟨_, _, rfl⟩
theorem grownBy_setCell (w : World) (q : Addr) (u : Value) : w.grownBy (w.setCell q u) (some q.block) :=
  ⟨rfl, rfl, rfl, by simp [World.setCell], fun k _ hk => Below.heap_setCell w q u k (fun e => hk (by rw [e]))⟩
theorem own_far {w : World} {base : Nat} {e : TypeId} {size : Nat} {v : Value} {n : Nat} {xs : List Value} (h : w.ownsRow base e size v n xs) {q : Addr} (hq : v.ownBlock ≠ some q.block) (u : Value) : (w.setCell q u).ownsRow base e size v n xs :=
  h.kept (grownBy_setCell w q u) (.inr hq)
end Go.Proofs.Ytgbmhijgpdgdbaa
namespace Go.Proofs.Ytgbmhijgpdgdbaa
open Go.RowKit
theorem wordKeyed : Maps.Keyed Try.prog 25 := Maps.int_keyed Try.underlying25
def wval (k : Int) : Value := .int .u32 k
structure WdOk (k : Int) : Prop where
  v0 : 0 ≤ k
  v1 : k < 4294967296
theorem keyOf_wval {k : Int} (h : WdOk k) : ∃ l, keyOf Try.prog 25 (wval k) = some l := by
  obtain ⟨m, hm⟩ := keySize
  have e0 : IntKind.u32.min = 0 := by decide
  have e1 : IntKind.u32.max = 4294967295 := by decide
  have wv : (Lit.int .u32 k).wf = true := by
    have := h.v0; have := h.v1
    simp only [Lit.wf, Bool.and_eq_true, decide_eq_true_eq]; omega
  unfold keyOf
  rw [Try.underlying25]
  simp [wval, mapKey, Try.underlying25, wv]
theorem wval_inj {a b : Int} (h : wval a = wval b) : a = b := by
  simpa [wval] using h
variable {α : Type}
def MapU (f : α → Value) (w : World) (b : Nat) (M : Int → Option α) : Prop :=
  ∃ es clock, w.heap[b]? = some (.map es clock) ∧ es.toList.Pairwise (fun x y => x.key ≠ y.key) ∧
    (∀ e ∈ es.toList, ∃ k a, WdOk k ∧ e.key = wval k ∧ e.val = f a ∧ M k = some a) ∧ (∀ k a, WdOk k → M k = some a → ∃ e ∈ es.toList, e.key = wval k)
section
variable {f : α → Value} {w w' : World} {b : Nat} {M : Int → Option α}
theorem MapU.lt (h : MapU f w b M) : b < w.heap.size := by
  obtain ⟨es, clock, hb, _⟩ := h
  exact (Array.getElem?_eq_some_iff.1 hb).1
theorem MapU.keep (h : MapU f w b M) (hk : w'.heap[b]? = w.heap[b]?) : MapU f w' b M := by
  obtain ⟨es, clock, hb, r⟩ := h
  exact ⟨es, clock, hk.trans hb, r⟩
theorem MapU.alloc (h : MapU f w b M) (o : Obj) : MapU f (w.alloc o) b M := h.keep (Below.heap_alloc w o b h.lt)
theorem MapU.drew (h : MapU f w b M) : MapU f w.drew b M := h
theorem MapU.made (f : α → Value) (w : World) : MapU f (w.alloc (.map #[] 0)) w.heap.size (fun _ => none) :=
  ⟨#[], 0, (MapKept.heap_alloc w _).1, by simp, by simp, by simp⟩
theorem MapU.found (h : MapU f w b M) {k : Int} (hk : WdOk k) :
    ∃ es clock, w.heap[b]? = some (.map es clock) ∧
      (((Instr.findKey 25 (wval k) es.toList).run Try.prog w = .ok none w ∧ M k = none ∧ ∀ e ∈ es.toList, e.key ≠ wval k) ∨
        ∃ j e a, (Instr.findKey 25 (wval k) es.toList).run Try.prog w = .ok (some (j, f a)) w ∧ es.toList[j]? = some e ∧ e.key = wval k ∧ e.val = f a ∧ M k = some a) := by
  obtain ⟨es, clock, hb, hd, h1, h2⟩ := h
  obtain ⟨l, hl⟩ := keyOf_wval hk
  refine ⟨es, clock, hb, ?_⟩
  rcases wordKeyed.find w hl es.toList (fun e he => by
    obtain ⟨k', a, ok, ek, _⟩ := h1 e he
    rw [ek]; exact keyOf_wval ok) with ⟨hr, hn⟩ | ⟨j, e, hr, hj, he⟩
  · left
    refine ⟨hr, ?_, hn⟩
    rcases hM : M k with _ | a
    · rfl
    · obtain ⟨e, he, ek⟩ := h2 k a hk hM
      exact absurd ek (hn e he)
  · right
    obtain ⟨k', a, ok, ek, ev, hM⟩ := h1 e (List.mem_of_getElem? hj)
    have : k' = k := wval_inj (ek.symm.trans he)
    subst this
    exact ⟨j, e, a, by rw [hr, ev], hj, he, ev, hM⟩
theorem MapU.look (h : MapU f w b M) {k : Int} (hk : WdOk k) {t e : TypeId} (ht : Try.prog.underlying t = some (.map 25 e)) {z : Value} (hz : (zeroValue e).run Try.prog w = .ok z w) (ok : Bool) :
    (Instr.lookup t (.map (some b)) (wval k) ok).run Try.prog w = .ok (if ok then .tuple #[(M k).elim z f, .bool (M k).isSome] else (M k).elim z f) w := by
  obtain ⟨l, hl⟩ := keyOf_wval hk
  obtain ⟨es, clock, hb, ⟨hr, hM, _⟩ | ⟨j, e0, a, hr, _, _, _, hM⟩⟩ := h.found hk
  · simp [Instr.lookup, run_underlying ht, MapKept.run_getObj_map hb, wordKeyed.check w _ hl, hr, hz, hM, Result.andThen]
  · simp [Instr.lookup, run_underlying ht, MapKept.run_getObj_map hb, wordKeyed.check w _ hl, hr, hM, Result.andThen]
def updW (M : Int → Option α) (k : Int) (o : Option α) : Int → Option α := fun x => if x = k then o else M x
theorem updW_self (k : Int) (o : Option α) : updW M k o k = o := if_pos rfl
theorem updW_ne {k x : Int} (h : x ≠ k) (o : Option α) : updW M k o x = M x := if_neg h
open Go.ChangeMaps (setBlock heap_setBlock_same heap_setBlock_other modify_eq_set)
theorem MapU.put (h : MapU f w b M) {k : Int} (hk : WdOk k) {t e : TypeId} (ht : Try.prog.underlying t = some (.map 25 e)) (a : α) :
    ∃ w', (Instr.mapUpdate t (.map (some b)) (wval k) (f a)).run Try.prog w = .ok () w' ∧ MapU f w' b (updW M k (some a)) ∧ w.grownBy w' (some b) ∧ w'.heap.size = w.heap.size := by
  obtain ⟨l, hl⟩ := keyOf_wval hk
  have h0 := h
  obtain ⟨es, clock, hb, hd, h1, h2⟩ := h
  obtain ⟨es', clock', hb', hf⟩ := h0.found hk
  rw [hb] at hb'
  cases hb'
  have hg : ∀ o, w.grownBy (setBlock w b o) (some b) := fun o => ⟨rfl, rfl, rfl, by simp [setBlock], fun i _ hi => heap_setBlock_other hb _ (fun e => hi (by rw [e]))⟩
  rcases hf with ⟨hr, hM, hn⟩ | ⟨j, e0, a0, hr, hj, he, hv, hM⟩
  · refine ⟨setBlock w b (.map (es.push ⟨wval k, f a, clock⟩) (clock + 1)), ?_, ⟨_, _, heap_setBlock_same hb _, ?_, ?_, ?_⟩, hg _, by simp [setBlock]⟩
    · simp [Instr.mapUpdate, run_underlying ht, MapKept.run_getObj_map hb, wordKeyed.check w false hl, hr, MapKept.run_setObj_map _ hb, Result.andThen, setBlock]
    · rw [Array.toList_push, List.pairwise_append]
      exact ⟨hd, by simp, fun x hx y hy => by rw [List.mem_singleton.1 hy]; exact hn x hx⟩
    · intro e' he'
      rw [Array.toList_push, List.mem_append] at he'
      rcases he' with he' | he'
      · obtain ⟨k', a', ok, ek, ev, eM⟩ := h1 e' he'
        refine ⟨k', a', ok, ek, ev, ?_⟩
        rw [updW_ne (fun e => hn e' he' (by rw [ek, e]))]; exact eM
      · rw [List.mem_singleton.1 he']
        exact ⟨k, a, hk, rfl, rfl, updW_self _ _⟩
    · intro k' a' ok hM'
      by_cases e : k' = k
      · subst e
        exact ⟨_, by rw [Array.toList_push]; exact List.mem_append_right _ (List.mem_singleton.2 rfl), rfl⟩
      · rw [updW_ne e] at hM'
        obtain ⟨e', he', ek⟩ := h2 k' a' ok hM'
        exact ⟨e', by rw [Array.toList_push]; exact List.mem_append_left _ he', ek⟩
  · have hlist : (es.modify j (fun e' => { e' with key := wval k, val := f a })).toList = es.toList.set j { e0 with key := wval k, val := f a } := by rw [Array.toList_modify, modify_eq_set _ _ _ _ hj]
    have hjl : j < es.toList.length := (List.getElem?_eq_some_iff.1 hj).1
    have hj' : es[j]? = some e0 := by simpa using hj
    have other : ∀ (i : Nat) (x : MapEntry), es.toList[i]? = some x → i ≠ j → x.key ≠ wval k := by
      intro i x hi hne
      rw [← he]
      obtain ⟨hil, ei⟩ := List.getElem?_eq_some_iff.1 hi
      obtain ⟨_, ej⟩ := List.getElem?_eq_some_iff.1 hj
      rcases Nat.lt_or_gt_of_ne hne with hlt | hgt
      · have := List.pairwise_iff_getElem.1 hd i j hil hjl hlt
        rw [ei, ej] at this; exact this
      · have := List.pairwise_iff_getElem.1 hd j i hjl hil hgt
        rw [ei, ej] at this; exact this.symm
    have who : ∀ x ∈ es.toList.set j { e0 with key := wval k, val := f a }, x = { e0 with key := wval k, val := f a } ∨ (x ∈ es.toList ∧ x.key ≠ wval k) := by
      intro x hx
      obtain ⟨i, hi, ex⟩ := List.getElem_of_mem hx
      rw [List.getElem_set] at ex
      split at ex
      · exact Or.inl ex.symm
      · rename_i hne
        have hi' : i < es.toList.length := by simpa using hi
        exact Or.inr ⟨ex ▸ List.getElem_mem hi', other i x (by rw [List.getElem?_eq_getElem hi', ex]) (fun e => hne e.symm)⟩
    refine ⟨setBlock w b (.map (es.modify j (fun e' => { e' with key := wval k, val := f a })) clock), ?_, ⟨_, _, heap_setBlock_same hb _, ?_, ?_, ?_⟩, hg _, by simp [setBlock]⟩
    · simp [Instr.mapUpdate, run_underlying ht, MapKept.run_getObj_map hb, wordKeyed.check w false hl, hr, hj', he, wordKeyed.stays w hl, MapKept.run_setObj_map _ hb, Result.andThen, setBlock]
    · rw [hlist, List.pairwise_iff_getElem]
      intro p q hp hq hpq
      have hp' : p < es.toList.length := by simpa using hp
      have hq' : q < es.toList.length := by simpa using hq
      have hd' := List.pairwise_iff_getElem.1 hd p q hp' hq' hpq
      rw [List.getElem_set, List.getElem_set]
      by_cases ep : j = p
      · have eq : ¬ j = q := by omega
        rw [if_pos ep, if_neg eq]
        exact (other q _ (List.getElem?_eq_getElem hq') (fun e => eq e.symm)).symm
      · rw [if_neg ep]
        by_cases eq : j = q
        · rw [if_pos eq]
          exact other p _ (List.getElem?_eq_getElem hp') (fun e => ep e.symm)
        · rw [if_neg eq]; exact hd'
    · intro e' he'
      rw [hlist] at he'
      rcases who e' he' with rfl | ⟨hm, hne⟩
      · exact ⟨k, a, hk, rfl, rfl, updW_self _ _⟩
      · obtain ⟨k', a', ok, ek, ev, eM⟩ := h1 e' hm
        refine ⟨k', a', ok, ek, ev, ?_⟩
        rw [updW_ne (fun e => hne (by rw [ek, e]))]; exact eM
    · intro k' a' ok hM'
      rw [hlist]
      by_cases e : k' = k
      · subst e
        exact ⟨_, List.mem_iff_getElem?.2 ⟨j, by rw [List.getElem?_set_self hjl]⟩, rfl⟩
      · rw [updW_ne e] at hM'
        obtain ⟨e', he', ek⟩ := h2 k' a' ok hM'
        obtain ⟨i, hi⟩ := List.mem_iff_getElem?.1 he'
        have hne : i ≠ j := by
          rintro rfl
          rw [hj] at hi
          cases hi
          exact e (wval_inj (ek.symm.trans he))
        exact ⟨e', List.mem_iff_getElem?.2 ⟨i, by rw [List.getElem?_set_ne (fun e => hne e.symm)]; exact hi⟩, ek⟩
end
end Go.Proofs.Ytgbmhijgpdgdbaa
