/- A link whose row of neighbours was once written: what its methods do to it. -/
import Derived.Test.YtgbmhijgpdgdbaaLinkAt
import Derived.Test.YtgbmhijgpdgdbaaHelloAny
import Derived.Test.YtgbmhijgpdgdbaaAllNone
import Derived.Test.YtgbmhijgpdgdbaaElectN
namespace Go.Proofs.Ytgbmhijgpdgdbaa
open Go.RowKit

/-- Is it this neighbour? -/
def isK (c : LC) (f r : Int) (x : Nat × Kn) : Bool := (decide (3 ≤ c.ty) && x.2.ro == r) || (decide (c.ty < 3) && x.2.ad == f)

def FindPost (c : LC) (f r : Int) (xs : List (Nat × Kn)) (w : World) (e : Ending) (w' : World) : Prop :=
  w' = w ∧ ((e = .returned (.int .i64 (-1)) ∧ ∀ x ∈ xs, isK c f r x = false) ∨ ∃ (k : Nat) (x : Nat × Kn), e = .returned (.int .i64 k) ∧ xs[k]? = some x ∧ isK c f r x = true ∧ ∀ (j : Nat) (y : Nat × Kn), j < k → xs[j]? = some y → isK c f r y = false)

set_option maxHeartbeats 2000000 in
theorem find_row (w : World) (B L cap : Nat) (c : LC) (st dr bd wt nx po re f r : Int) (xs : List (Nat × Kn)) (hlen : xs.length ≤ 100000) (k : Blk w B 119 (lks c st dr bd wt nx po re (.slice (some ⟨L, 0, none⟩) xs.length cap))) (hrow : RowAt w L xs) :
    Calls Try.prog 71 #[.pointer (some ⟨B, 0, none⟩), .int .u32 f, .int .u32 r] w fun e w' => FindPost c f r xs w e w' := by
  have c1 : w.cell? ⟨B, 1, none⟩ = some (.int .u8 c.ty) := k.cell 1
  have c22 : w.cell? ⟨B, 22, none⟩ = some (.slice (some ⟨L, 0, none⟩) xs.length cap) := k.cell 22
  have HRow := Lib.hid hrow
  clear k hrow
  go_enter Try.func71, Try.ntmps71
  go_wp2_with fail
  go_loopw [14] (fun x wr => ∃ i : Nat, i ≤ xs.length ∧ x = .int .i64 i ∧ wr = w ∧ ∀ (j : Nat) (y : Nat × Kn), j < i → xs[j]? = some y → isK c f r y = false) (fun x _ => xs.length - (intOf x).toNat)
  case atStart => exact ⟨0, Nat.zero_le _, rfl, rfl, fun j y hj => by omega⟩
  case round =>
    obtain ⟨i, hin, rfl, rfl, hno⟩ := hrel
    have HNo := Lib.hid hno
    clear hno
    by_cases hlt : i < xs.length
    · obtain ⟨x, hx⟩ : ∃ x, xs[i]? = some x := ⟨_, List.getElem?_eq_getElem hlt⟩
      have HX := Lib.hid hx
      have b1 : wr.cell? ⟨L, i, none⟩ = some (.pointer (some ⟨x.1, 0, none⟩)) := HRow.out.r i x hx
      have kx := HRow.out.k x (List.mem_of_getElem? hx)
      have k0 : wr.cell? ⟨x.1, 0, none⟩ = some (.int .u32 x.2.ro) := kx.cell 0
      have k1 : wr.cell? ⟨x.1, 1, none⟩ = some (.int .u32 x.2.ad) := kx.cell 1
      have hno2 : isK c f r x = false → ∀ (j : Nat) (y : Nat × Kn), j < i + 1 → xs[j]? = some y → isK c f r y = false := by
        intro h j y hj hy
        by_cases hji : j = i
        · subst hji
          rw [HX.out] at hy
          obtain rfl : x = y := Option.some.inj hy
          exact h
        · exact HNo.out j y (by omega) hy
      have HNo2 := Lib.hid hno2
      clear kx hx hno2
      by_cases t3 : 3 ≤ c.ty
      · rcases Bool.eq_false_or_eq_true (x.2.ro == r) with s4 | s4
        · have hk : isK c f r x = true := by simp [isK, t3, s4]
          go_wp2_with fail
          go_ret
          refine ⟨rfl, .inr ⟨i, x, rfl, HX.out, hk, HNo.out⟩⟩
        · have hk : isK c f r x = false := by simp [isK, s4]; omega
          go_wp2_with fail
          go_roundw
          case rel => exact ⟨i + 1, by omega, by simp, trivial, HNo2.out hk⟩
          case measure => simp [intOf]; omega
      · rcases Bool.eq_false_or_eq_true (x.2.ad == f) with s4 | s4
        · have hk : isK c f r x = true := by simp [isK, s4]; omega
          go_wp2_with fail
          go_ret
          refine ⟨rfl, .inr ⟨i, x, rfl, HX.out, hk, HNo.out⟩⟩
        · have hk : isK c f r x = false := by simp [isK, t3, s4]
          go_wp2_with fail
          go_roundw
          case rel => exact ⟨i + 1, by omega, by simp, trivial, HNo2.out hk⟩
          case measure => simp [intOf]; omega
    · obtain rfl : i = xs.length := by omega
      go_wp2_with fail
      go_ret
      refine ⟨rfl, .inl ⟨rfl, fun x hx => ?_⟩⟩
      obtain ⟨j, hj⟩ := List.getElem?_of_mem hx
      exact HNo.out j x (List.getElem?_eq_some_iff.1 hj).1 hj

set_option maxHeartbeats 1000000 in
theorem findl_nil (w : World) (B : Nat) (c : LC) (st dr bd wt nx po re f r : Int) (k : Blk w B 119 (lks c st dr bd wt nx po re (.slice none 0 0))) :
    Calls Try.prog 71 #[.pointer (some ⟨B, 0, none⟩), .int .u32 f, .int .u32 r] w fun e w' => FindPost c f r [] w e w' := by
  have c22 : w.cell? ⟨B, 22, none⟩ = some (.slice none 0 0) := k.cell 22
  clear k
  go_enter Try.func71, Try.ntmps71
  go_wp2_with fail
  refine wp_loop_rounds 1 ?_
  rw [rounds_succ]
  go_wp2_with fail
  go_ret
  exact ⟨rfl, .inl ⟨rfl, by simp⟩⟩

theorem find_at {lo : Nat} {w : World} {B : Nat} {c : LC} {st dr bd wt nx po re : Int} {xs : List (Nat × Kn)} (h : LinkAt lo w B c st dr bd wt nx po re xs) (hlen : xs.length ≤ 100000) (f r : Int) :
    Calls Try.prog 71 #[.pointer (some ⟨B, 0, none⟩), .int .u32 f, .int .u32 r] w fun e w' => FindPost c f r xs w e w' := by
  rcases h.row with ⟨hk, rfl⟩ | ⟨L, cap, cur, _, hk, _, hr, _⟩
  · exact findl_nil w B c st dr bd wt nx po re f r hk
  · exact find_row w B L cap c st dr bd wt nx po re f r xs hlen hk hr

set_option maxHeartbeats 400000 in
/-- A link that is not on demand: nobody is still. -/
theorem still_no (w : World) (B K : Nat) (c : LC) (st dr bd wt nx po re : Int) (l : Value) (hdm : c.dm = false) (k : Blk w B 119 (lks c st dr bd wt nx po re l)) :
    Calls Try.prog 106 #[.pointer (some ⟨B, 0, none⟩), .pointer (some ⟨K, 0, none⟩)] w fun e w' => e = .returned (.bool false) ∧ w = w' := by
  have c11 : w.cell? ⟨B, 11, none⟩ = some (.bool false) := (k.cell 11).trans (by rw [← hdm]; rfl)
  clear k hdm
  go_enter Try.func106, Try.ntmps106
  go_wp2_with fail
  go_ret
  exact ⟨rfl, rfl⟩
end Go.Proofs.Ytgbmhijgpdgdbaa

namespace Go.Proofs.Ytgbmhijgpdgdbaa
open Go.RowKit Go.Shelf

attribute [local go_sem] Oper.semAt_some

theorem word_info : (Try.prog.info? 25).map (fun i => (i.zero, i.size, i.bytes)) = some (some (.int .u32 0), 1, 4) := by kernel_rfl
def heardK (x : Nat × Kn) : Bool := decide (2 ≤ x.2.st)
def roV (x : Nat × Kn) : Value := .int .u32 x.2.ro

def roRows {xs : List (Nat × Kn)} (pre : List { x // x ∈ xs }) : List Value := pre.map fun x => roV x.1

/-- What hello leans on. -/
structure GH (w0 : World) (B : Nat) (c : LC) (st dr bd wt nx po re : Int) (L cap : Nat) (xs : List (Nat × Kn)) (Bl Bi X : Nat) (hv : List Value) (W : World) : Prop where
  b : Blk W B 119 (lks c st dr bd wt nx po re (.slice (some ⟨L, 0, none⟩) xs.length cap))
  row : RowAt W L xs
  p0 : W.cell? ⟨Bl, 0, none⟩ = some (.pointer (some ⟨B, 0, none⟩))
  p1 : W.cell? ⟨Bi, 0, none⟩ = some (.func (.func 108) #[] #[])
  xb : ∃ a n k, Blk W X 90 (hv ++ [Value.slice a n k]).toArray
  lt : X < w0.heap.size ∧ B < w0.heap.size ∧ Bl < w0.heap.size ∧ Bi < w0.heap.size ∧ (xs ≠ [] → L < w0.heap.size) ∧ ∀ x ∈ xs, x.1 < w0.heap.size

section
variable {w0 : World} {B : Nat} {c : LC} {st dr bd wt nx po re : Int} {L cap : Nat} {xs : List (Nat × Kn)} {Bl Bi X : Nat} {hv : List Value} {W W' : World}

theorem GH.keep (hz : ∀ v ∈ hv, ∃ k n, v = .int k n) (g : GH w0 B c st dr bd wt nx po re L cap xs Bl Bi X hv W) (hx : ∃ a n k, Blk W' X 90 (hv ++ [Value.slice a n k]).toArray)
    (hk : ∀ k, k < w0.heap.size → k ≠ X → W'.heap[k]? = W.heap[k]?) : GH w0 B c st dr bd wt nx po re L cap xs Bl Bi X hv W' := by
  obtain ⟨a, n, m, xv⟩ := g.xb
  have key : ∀ (b i : Nat) (u : Value), b < w0.heap.size → W.cell? ⟨b, i, none⟩ = some u → (∀ k n, u ≠ .int k n) → (∀ a n k, u ≠ .slice a n k) → W'.cell? ⟨b, i, none⟩ = some u := by
    intro b i u hb h hs hs2
    have hne : b ≠ X := by
      rintro rfl
      rw [xv.cell i, List.getElem?_toArray] at h
      rcases List.mem_append.1 (List.mem_of_getElem? h) with hm | hm
      · obtain ⟨k, n, rfl⟩ := hz u hm
        exact hs _ _ rfl
      · obtain rfl : u = .slice a n m := by simpa using hm
        exact hs2 _ _ _ rfl
    exact (World.cell?_of_block (a := ⟨b, i, none⟩) (hk b hb hne)).trans h
  have hB : B ≠ X := g.b.ne_ xv (by decide)
  refine ⟨(hk B g.lt.2.1 hB).trans g.b, ⟨fun j x hj => ?_, fun x hxm => ?_⟩, ?_, ?_, hx, g.lt⟩
  · exact key _ _ _ (g.lt.2.2.2.2.1 (by rintro rfl; simp at hj)) (g.row.r j x hj) (by intro k n e; cases e) (by intro a n k e; cases e)
  · have hne : x.1 ≠ X := (g.row.k x hxm).ne_ xv (by decide)
    exact (hk x.1 (g.lt.2.2.2.2.2 x hxm) hne).trans (g.row.k x hxm)
  · exact key _ _ _ g.lt.2.2.1 g.p0 (by intro k n e; cases e) (by intro a n k e; cases e)
  · exact key _ _ _ g.lt.2.2.2.1 g.p1 (by intro k n e; cases e) (by intro a n k e; cases e)

theorem GH.good : Good (α := { x // x ∈ xs }) (GH w0 B c st dr bd wt nx po re L cap xs Bl Bi X hv) (fun x => x.1.1) B Bl Bi L (.func (.func 108) #[] #[]) xs.attach cap where
  d := fun W q g => ⟨g.b, ⟨g.row.r, g.row.k⟩, g.p0, g.p1, g.xb, g.lt⟩
  h1 := fun W g => g.p0
  h2 := fun W g => by rw [List.length_attach]; exact g.b.cell 22
  hi := fun W g => g.p1
  hr := fun W g j x hj => g.row.r j x.1 (by
    have := congrArg (Option.map Subtype.val) hj
    rwa [← List.getElem?_map, List.attach_map_subtype_val] at this)

/-- What the rounds have laid by. -/
structure IH (w : World) (w0 : World) (B : Nat) (c : LC) (st dr bd wt nx po re : Int) (L cap : Nat) (xs : List (Nat × Kn)) (Bl Bi X : Nat) (hv : List Value) (Y : Nat) (rows : List Value) (W : World) : Prop where
  g : GH w0 B c st dr bd wt nx po re L cap xs Bl Bi X hv W
  o : ∃ v, Blk W X 90 (hv ++ [v]).toArray ∧ W.ownsRow w0.heap.size 25 1 v rows.length rows
  y : Blk W Y 90 #[.int .u32 0, .int .u16 0, .int .u8 0, .int .u8 0, .int .u32 0, .int .u32 0, .int .u32 0, .slice none 0 0]
  s : w0.heap.size ≤ W.heap.size
  b : Below w.heap.size w W

theorem IH.own {w : World} {Y : Nat} (hz : ∀ v ∈ hv, ∃ k n, v = .int k n) (hw : w.heap.size ≤ w0.heap.size) (hY : Y < w0.heap.size) {β : Type} (f : β → List Value) : OwnFrom w0.heap.size (fun (s : β) W => IH w w0 B c st dr bd wt nx po re L cap xs Bl Bi X hv Y (f s) W) := by
  rintro s W W' row ⟨g, ⟨v, hx, ho⟩, y, hs, hb⟩ hg hr
  have hk : ∀ k, k < w0.heap.size → W'.heap[k]? = W.heap[k]? := fun k hk => hg.block k (by omega) (fun e => by have := (hr k e.symm).1; omega)
  obtain ⟨a, m, rfl⟩ := own_slice ho
  have hx' := (hk X g.lt.1).trans hx
  refine ⟨g.keep hz ⟨_, _, _, hx'⟩ (fun k h _ => hk k h), ⟨_, hx', ?_⟩, (hk Y hY).trans y, Nat.le_trans hs hg.size, hb.grown hg (by omega) (fun k e => by have := (hr k e).1; omega)⟩
  refine (Frame.of_grown (S := fun k => row = some k) hg (fun k e _ => e)).own ho ?_
  intro g' hg' e
  obtain ⟨_, o, h1, h2⟩ := hr g' e
  obtain ⟨_, cs, h3⟩ := own_cells ho g' hg'
  rw [h3] at h1
  cases h1
  cases h2
end

/-- A Hello with its neighbours. -/
def helloW (c : LC) (dr bd : Int) (l : Value) : Value := .agg #[.int .u32 (lmaskV c), .int .u16 c.hi, .int .u8 (optV c), .int .u8 c.pr, .int .u32 c.dd, .int .u32 dr, .int .u32 bd, l]
def HelloPost (c : LC) (dr bd : Int) (xs : List (Nat × Kn)) (w : World) (e : Ending) (w' : World) : Prop :=
  ∃ A n k, e = .returned (helloW c dr bd (.slice A n k)) ∧ w'.ownsRow w.heap.size 25 1 (.slice A n k) n ((xs.filter heardK).map roV) ∧ Below w.heap.size w w'

set_option maxHeartbeats 2000000 in
set_option maxRecDepth 20000 in
theorem hello_gen_f (w : World) (B : Nat) (c : LC) (st dr bd wt nx po re : Int) (hn0 : 0 ≤ c.nb) (hn1 : c.nb ≤ 32) (hdm : c.dm = false) (L cap : Nat) (xs : List (Nat × Kn)) (hlen : xs.length ≤ 100000) (hrow : RowAt w L xs) (k : Blk w B 119 (lks c st dr bd wt nx po re (.slice (some ⟨L, 0, none⟩) xs.length cap))) :
    Calls Try.prog 74 #[.pointer (some ⟨B, 0, none⟩)] w fun e w' => HelloPost c dr bd xs w e w' := by
  have K := Lib.hid k
  have H_dm := Lib.hid hdm
  have HRow := Lib.hid hrow
  clear hrow
  have c1 : w.cell? ⟨B, 1, none⟩ = some (.int .u8 c.ty) := k.cell 1
  have c4 : w.cell? ⟨B, 4, none⟩ = some (.int .u8 c.nb) := k.cell 4
  have c6 : w.cell? ⟨B, 6, none⟩ = some (.int .u8 c.op) := k.cell 6
  have c7 : w.cell? ⟨B, 7, none⟩ = some (.int .u16 c.hi) := k.cell 7
  have c8 : w.cell? ⟨B, 8, none⟩ = some (.int .u32 c.dd) := k.cell 8
  have c10 : w.cell? ⟨B, 10, none⟩ = some (.int .u8 c.pr) := k.cell 10
  have c11 : w.cell? ⟨B, 11, none⟩ = some (.bool false) := (k.cell 11).trans (by rw [← hdm]; rfl)
  have c16 : w.cell? ⟨B, 16, none⟩ = some (.int .u32 dr) := k.cell 16
  have c17 : w.cell? ⟨B, 17, none⟩ = some (.int .u32 bd) := k.cell 17
  have hlt : B < w.heap.size := k.lt
  clear k hdm
  refine (callsIn_wide (n := 3)).1 ?_
  refine callsIn_of_wp_marks Try.func74 rfl trivial ?_ rfl
  rw [wpIn_wide]
  simp only [Try.ntmps74, List.size_toArray, List.length_cons, List.length_nil, Nat.reduceAdd, Nat.reduceSub, Array.replicate_succ, Array.replicate_zero, List.push_toArray, List.append_toArray, List.nil_append, List.cons_append]
  go_wp2_with fail
  go_cut [3] from 5 to 35 (fun p3 wx => ∃ H : Nat, p3 = .pointer (some ⟨H, 0, none⟩) ∧ Blk wx H 90 #[.int .u32 (lmaskV c), .int .u16 c.hi, .int .u8 c.op, .int .u8 c.pr, .int .u32 c.dd, .int .u32 dr, .int .u32 bd, .slice none 0 0] ∧ w.heap.size < H ∧ Below (w.heap.size + 1) (w.alloc (.cells #[.int .u32 0, .int .u16 0, .int .u8 0, .int .u8 0, .int .u32 0, .int .u32 0, .int .u32 0, .slice none 0 0] 90)) wx)
  case first =>
    go_region_held3 (fun w' => w'.cell? ⟨B, 1, none⟩ = some (.int .u8 c.ty) ∧ w'.cell? ⟨B, 4, none⟩ = some (.int .u8 c.nb) ∧ w'.cell? ⟨B, 6, none⟩ = some (.int .u8 c.op) ∧ w'.cell? ⟨B, 7, none⟩ = some (.int .u16 c.hi) ∧ w'.cell? ⟨B, 8, none⟩ = some (.int .u32 c.dd) ∧ w'.cell? ⟨B, 10, none⟩ = some (.int .u8 c.pr) ∧ w'.cell? ⟨B, 16, none⟩ = some (.int .u32 dr) ∧ w'.cell? ⟨B, 17, none⟩ = some (.int .u32 bd))
      (go_keep)
      ((go_at_call 107; refine (mask_lks' _ _ c (lks c st dr bd wt nx po re (.slice (some ⟨L, 0, none⟩) xs.length cap)) (by first | with_reducible exact (K.out.alloc _).drew | with_reducible exact ((K.out.alloc _).alloc _).drew) rfl rfl hn0 hn1).mono ?_; rintro e w' ⟨rfl, rfl⟩))
    all_goals clear c1 c4 c6 c7 c8 c10 c16 c17
    all_goals
      go_wp2_with fail
      go_meet
      case rel =>
        refine ⟨_, rfl, ?_, by omega, ?_⟩
        · have := (Blk.new (w.alloc (.cells #[.int .u32 0, .int .u16 0, .int .u8 0, .int .u8 0, .int .u32 0, .int .u32 0, .int .u32 0, .slice none 0 0] 90)) 90 #[.int .u32 (lmaskV c), .int .u16 c.hi, .int .u8 c.op, .int .u8 c.pr, .int .u32 c.dd, .int .u32 dr, .int .u32 bd, .slice none 0 0]).drew
          rw [World.size_alloc] at this
          exact this
        · exact ((Below.refl _ _).alloc (by simp) _).drew
  obtain ⟨H, rfl, hH, hHl, hb⟩ := hcut
  have hbw : Below w.heap.size w wc := ((Below.refl _ w).alloc (Nat.le_refl _) _).trans (hb.mono (by omega))
  have kL := K.out.below hbw hlt
  have d11 : wc.cell? ⟨B, 11, none⟩ = some (.bool false) := (kL.cell 11).trans (by rw [← H_dm.out]; rfl)
  have HbW := Lib.hid hbw
  have KR := Lib.hid ((Blk.new w 90 #[.int .u32 0, .int .u16 0, .int .u8 0, .int .u8 0, .int .u32 0, .int .u32 0, .int .u32 0, .slice none 0 0]).below hb (by omega))
  have KL := Lib.hid kL
  have KH := Lib.hid hH
  have hsz : w.heap.size ≤ wc.heap.size := hbw.size
  clear c1 c4 c6 c7 c8 c10 c11 c16 c17 hbw kL hH
  obtain ⟨wd, hwd⟩ : ∃ wd, wd = wc := ⟨_, rfl⟩
  have KL2 : Hid (Blk wd B 119 (lks c st dr bd wt nx po re (.slice (some ⟨L, 0, none⟩) xs.length cap))) := Lib.hid (by rw [hwd]; exact KL.out)
  have KR2 : Hid (Blk wd w.heap.size 90 #[.int .u32 0, .int .u16 0, .int .u8 0, .int .u8 0, .int .u32 0, .int .u32 0, .int .u32 0, .slice none 0 0]) := Lib.hid (by rw [hwd]; exact KR.out)
  have KH2 : Hid (Blk wd H 90 #[.int .u32 (lmaskV c), .int .u16 c.hi, .int .u8 c.op, .int .u8 c.pr, .int .u32 c.dd, .int .u32 dr, .int .u32 bd, .slice none 0 0]) := Lib.hid (by rw [hwd]; exact KH.out)
  have HbW2 : Hid (Below w.heap.size w wd) := Lib.hid (by rw [hwd]; exact HbW.out)
  have hsz2 : w.heap.size ≤ wd.heap.size := HbW2.out.size
  have d11' : wd.cell? ⟨B, 11, none⟩ = some (.bool false) := by rw [hwd]; exact d11
  rw [← hwd]
  clear hwd d11
  go_wp2_with fail
  refine (all_made _ _ _ ⟨_, rfl⟩ ⟨_, _, _, rfl⟩).mono ?_
  rintro e w2 ⟨rfl, hb2, g1, g2⟩
  have h2l : wd.heap.size + 1 < w2.heap.size := lt_of_cell g2
  have K2 := Lib.hid (KL2.out.below hb2 KL2.out.lt)
  have H2 := Lib.hid (KH2.out.below hb2 KH2.out.lt)
  have R2 := Lib.hid (KR2.out.below hb2 KR2.out.lt)
  have HB2 := Lib.hid (HbW2.out.trans (hb2.mono hsz2))
  have hHc : H < wd.heap.size := KH2.out.lt
  clear hb2
  go_wp2_with fail
  have hlB : B < w2.heap.size := K2.out.lt
  have hlH : H < w2.heap.size := H2.out.lt
  have R3 : Hid (RowAt w2 L xs) := Lib.hid ⟨fun j x hj => (HB2.out.cell (p := ⟨L, j, none⟩) (lt_of_cell (HRow.out.r j x hj))).trans (HRow.out.r j x hj), fun x hx => (HRow.out.k x hx).below HB2.out (HRow.out.k x hx).lt⟩
  have hltL : xs ≠ [] → L < w.heap.size := fun h => by
    obtain ⟨x, r, rfl⟩ := List.exists_cons_of_ne_nil h
    exact lt_of_cell (HRow.out.r 0 x rfl)
  have hwx : ∀ x ∈ xs, x.1 < w.heap.size := fun x hx => (HRow.out.k x hx).lt
  have hsw2 : w.heap.size ≤ w2.heap.size := HB2.out.size
  obtain ⟨hv, hhv⟩ : ∃ hv : List Value, hv = [.int .u32 (lmaskV c), .int .u16 c.hi, .int .u8 (c.op), .int .u8 c.pr, .int .u32 c.dd, .int .u32 dr, .int .u32 bd] := ⟨_, rfl⟩
  have G2 : Hid (GH w2 B c st dr bd wt nx po re L cap xs wd.heap.size (wd.heap.size + 1) H hv w2) := Lib.hid
    ⟨K2.out, R3.out, g1, g2, ⟨_, _, _, by rw [hhv]; exact H2.out⟩, by omega, by omega, by omega, by omega, fun h => by have := hltL h; omega, fun x hx => by have := hwx x hx; omega⟩
  have H20 : Blk w2 H 90 (hv ++ [Value.slice none 0 0]).toArray := by rw [hhv]; exact H2.out
  have h7 : hv.length = 7 := by rw [hhv]; rfl
  have hz0 : ∀ v ∈ hv, ∃ k n, v = Value.int k n := by rw [hhv]; intro v hv; simp at hv; rcases hv with h | h | h | h | h | h | h <;> exact ⟨_, _, h⟩
  obtain ⟨i0, hi, hz0', hz1, hz2⟩ := info_parts word_info
  have hgs : ∀ W, Below w2.heap.size w2 W → GH w2 B c st dr bd wt nx po re L cap xs wd.heap.size (wd.heap.size + 1) H hv W := fun W h => G2.out.keep hz0 ⟨_, _, _, H20.below h hlH⟩ (fun k hk _ => h.block k hk)
  have HHV := Lib.hid hhv
  clear hhv
  obtain ⟨G, hG⟩ : ∃ G, G = GH w2 B c st dr bd wt nx po re L cap xs wd.heap.size (wd.heap.size + 1) H hv := ⟨_, rfl⟩
  have hkb : ∀ (W : World) (l : Nat) (o o' : Obj), w2.heap.size ≤ l → W.heap[l]? = some o → o.isCells = false → o.isWalk = false → (G W → G (W.putObj l o')) := by
    intro W l o o' hl _ _ _ g
    rw [hG] at g ⊢
    obtain ⟨a, n, k, hx⟩ := g.xb
    have hk : ∀ k, k < w2.heap.size → (W.putObj l o').heap[k]? = W.heap[k]? := fun k hk => World.putObj_heap_other (by omega)
    exact g.keep hz0 ⟨_, _, _, (hk _ hlH).trans hx⟩ (fun k h _ => hk k h)
  have hseq := all_stops_hello 2 (by omega) w2 G (fun x : { x // x ∈ xs } => x.1.1) (fun x => heardK x.1) B wd.heap.size (wd.heap.size + 1) L cap xs.attach (by rw [List.length_attach]; exact hlen) (by rw [hG]; exact GH.good) (by rw [hG]; exact hgs)
      (fun W x g _ => by rw [hG] at g; exact (hello1_any W x.1.1 _ ((g.row.k x.1 x.2).cell 2)).mono (fun e w' h => ⟨h.1, 0, h.2.symm⟩))
  obtain ⟨I, hI⟩ : ∃ I : List { x // x ∈ xs } → World → Prop, I = fun pre W => IH w w2 B c st dr bd wt nx po re L cap xs wd.heap.size (wd.heap.size + 1) H hv w.heap.size (roRows pre) W := ⟨_, rfl⟩
  have hIo : OwnFrom w2.heap.size I := by rw [hI]; exact IH.own (w := w) (w0 := w2) (B := B) (c := c) (st := st) (dr := dr) (bd := bd) (wt := wt) (nx := nx) (po := po) (re := re) (L := L) (cap := cap) (xs := xs) (Bl := wd.heap.size) (Bi := wd.heap.size + 1) (X := H) (Y := w.heap.size) hz0 hsw2 (by omega) (fun pre : List { x // x ∈ xs } => roRows pre)
  have hI0 : I [] w2 := by rw [hI]; exact ⟨G2.out, ⟨.slice none 0 0, H20, World.ownsRow_nil _ _ _ _⟩, R2.out, Nat.le_refl _, HB2.out⟩
  rw [← wpIn_wide (n := 3)]
  refine wpIn_rangeFunc_ownF (F := Fence.wide) (n := 3) rfl (by omega) rfl trivial enters_all1 hseq (fun h k g => k (h g)) (fun W l o o' => hkb W l o o') (Below.refl _ _) (fun _ => rfl) I (fun _ _ _ => False) hIo (fun _ _ _ _ _ hs _ _ => hs) hI0 ?a₁ ?assign ?body ?done (fun _ _ _ _ _ _ h _ => h.elim)
  case assign =>
    intro l x W K hK
    gi_wp2
    exact hK
  case body =>
    intro l pre x W hIx hlen2
    rw [hI] at hIx
    obtain ⟨g, ⟨v, hx, hown⟩, hy, hsz, hb⟩ := hIx
    obtain ⟨va, vm, rfl⟩ := own_slice hown
    rw [show (roRows pre).length = pre.length from List.length_map ..] at hx hown
    have HG := Lib.hid g
    have HX := Lib.hid hx
    have HOwn := Lib.hid hown
    have HY := Lib.hid hy
    have HB := Lib.hid hb
    have kx := g.row.k x.1 x.2
    have x0 : W.cell? ⟨x.1.1, 0, none⟩ = some (.int .u32 x.1.2.ro) := kx.cell 0
    have xo : W.cell? ⟨H, 7, none⟩ = some (.slice va pre.length vm) := by rw [hx.cell 7, List.getElem?_toArray, List.getElem?_append_right (by omega), h7]; rfl
    have hHW : H < W.heap.size := by omega
    clear kx hx hown hy hb g
    gi_wp2_with fail
    refine wpIn_region_late1 (C := fun w' => ∃ u : Later W.heap.size W, w' = u.to) (.pointer (some ⟨H, 7, none⟩)) (.slice va pre.length vm) 7 8 (by kernel_rfl) (by kernel_rfl) (by kernel_rfl) (fun ⟨_, _, h⟩ => h) (fun _ _ _ h => h) (fun _ _ _ h => h) (.inl ⟨rfl, fun w' => ?_⟩) ⟨rfl, ?_⟩ ⟨⟨W.drew, (Below.refl _ W).drew⟩, rfl⟩ ?_
    · simp [go_sem]
    · rintro w' ⟨u, rfl⟩
      have hu := (u.ok.cell (p := ⟨H, 7, none⟩) hHW).trans xo
      simp [go_sem, Act.put, hu]
    simp only [List.take_succ_cons, List.take_zero, List.drop_succ_cons, List.drop_zero, Nat.reduceSub]
    have hxu := later_cell (show (⟨x.1.1, 0, none⟩ : Addr).block < W.heap.size from lt_of_cell x0) x0
    simp only [Act.put, List.setIfInBounds_toArray, List.set_cons_succ, List.set_cons_zero]
    repeat (go_big_quiet_step (fail))
    refine wpQuiet_nil ?_
    rintro wx ⟨⟨wy, hwy⟩, hwe⟩
    obtain rfl : wx = wy := hwe
    refine wpListK_step rfl rfl ?_
    simp [Oper.wp, Oper.upon, go_sem]
    refine ⟨⟨⟨_, hwy.alloc hwy.size _⟩, rfl⟩, ?_⟩
    refine wpListK_of_list _ 8 _ _ (Nat.le_refl _) (fun j => match j with
      | 0 => rfl
      | 1 => rfl
      | 2 => rfl
      | j + 3 => by simp; omega) ?_
    obtain ⟨wz, hwz⟩ : ∃ wz, wz = wx.alloc (.cells #[.int .u32 x.1.2.ro] 25) := ⟨_, rfl⟩
    have HLit := Lib.hid (Reads.of_own (World.ownsRow_lit (base := 0) (e := 25) (size := 1) wx #[.int .u32 x.1.2.ro] 1 (Nat.zero_le _) (by simp [maxLen]) rfl))
    rw [← hwz] at HLit
    rw [← hwz]
    have hwW : Below W.heap.size W wz := by rw [hwz]; exact hwy.alloc hwy.size _
    have hownz : wz.ownsRow w2.heap.size 25 1 (.slice va pre.length vm) pre.length (roRows pre) := (Frame.of_below (S := fun _ => False) hwW).own HOwn.out (fun _ _ e => e)
    have hlp : pre.length < 100000 := by rw [List.length_attach] at hlen2; omega
    have hsW : W.heap.size ≤ wz.heap.size := hwW.size
    refine wpList_append_any _ rfl (.tmp 49) (.tmp 55) _ rfl w2.heap.size 25 i0 _ 1 4 Try.underlying88 hi hz0' hz1 hz2 rfl (by omega) (.slice va pre.length vm) pre.length _ rfl hownz _ (some ⟨wx.heap.size, 0, none⟩) 1 1 _ rfl HLit.out (by simp [Value.oneCell']) (by unfold maxLen; omega) (by omega) (by omega) ?_
    intro v1 w4 hown1 hg1 _
    have hb4 : ∀ k, k < W.heap.size → some k ≠ (Value.slice va pre.length vm).ownBlock → w4.heap[k]? = W.heap[k]? := fun k hk hne => (hg1.block k (by omega) hne).trans (hwW.block k hk)
    have hne : ∀ k, k < w2.heap.size → some k ≠ (Value.slice va pre.length vm).ownBlock := fun k hk e => by
      have := (own_cells hownz k e.symm).1
      omega
    have hX4 : Blk w4 H 90 (hv ++ [Value.slice va pre.length vm]).toArray := (hb4 _ hHW (hne _ hlH)).trans HX.out
    have hX40 : w4.cell? ⟨H, 7, none⟩ = some (.slice va pre.length vm) := by rw [hX4.cell 7, List.getElem?_toArray, List.getElem?_append_right (by omega), h7]; rfl
    have hfz4 := hX4.frozen 7
    have hlt4 := hX4.lt
    obtain ⟨vb, vn, rfl⟩ := own_slice hown1
    have HOwn1 := Lib.hid hown1
    have HG1 := Lib.hid hg1
    have HB4 := Lib.hid hb4
    have HNe := Lib.hid hne
    have HWW := Lib.hid hwW
    have HOz := Lib.hid hownz
    clear hown1 hg1 hb4 hne hwW hownz xo x0 hxu hwy hwz
    go_wp2_with fail
    have hX5 : Blk (w4.setCell ⟨H, 7, none⟩ (.slice vb (pre.length + 1) vn)) H 90 (hv ++ [Value.slice vb (pre.length + 1) vn]).toArray := by
      have := hX4.set_ 7 (.slice vb (pre.length + 1) vn)
      rwa [show (hv ++ [Value.slice va pre.length vm]).toArray.setIfInBounds 7 (.slice vb (pre.length + 1) vn) = (hv ++ [Value.slice vb (pre.length + 1) vn]).toArray from by
        rw [List.setIfInBounds_toArray, List.set_append_right _ _ (by omega), h7]; rfl] at this
    have hk5 : ∀ k, k < w2.heap.size → k ≠ H → (w4.setCell ⟨H, 7, none⟩ (.slice vb (pre.length + 1) vn)).heap[k]? = W.heap[k]? := fun k hk hx =>
      (Below.heap_setCell w4 _ _ k hx).trans (HB4.out k (by omega) (HNe.out k hk))
    have hs4 : wz.heap.size ≤ w4.heap.size := HG1.out.size
    have hs5 : (w4.setCell ⟨H, 7, none⟩ (.slice vb (pre.length + 1) vn)).heap.size = w4.heap.size := by simp [World.setCell]
    have hb4 : Below w.heap.size w w4 := (HB.out.trans (HWW.out.mono HB.out.size)).grown HG1.out (by have := HB.out.size; omega) (fun k e => by have := (own_cells HOz.out k e).1; omega)
    have ho5 : ∃ v, Blk (w4.setCell ⟨H, 7, none⟩ (.slice vb (pre.length + 1) vn)) H 90 (hv ++ [v]).toArray ∧ (w4.setCell ⟨H, 7, none⟩ (.slice vb (pre.length + 1) vn)).ownsRow w2.heap.size 25 1 v (roRows (pre ++ [x])).length (roRows (pre ++ [x])) := by
      rw [roRows, List.length_map, List.length_append, List.map_append]
      exact ⟨_, hX5, ((Frame.refl (fun k => k = H) w4).setCell (p := ⟨H, 7, none⟩) (fun _ => rfl) _).own HOwn1.out (fun g hg e => by have := (own_cells HOwn1.out g hg).1; omega)⟩
    refine ⟨?_, fun g => g.keep hz0 ⟨_, _, _, hX5⟩ hk5, HG.out.keep hz0 ⟨_, _, _, hX5⟩ hk5, ho5, (hk5 _ (by omega) (by omega)).trans HY.out, by omega, hb4.setCell (p := ⟨H, 7, none⟩) (by show w.heap.size ≤ H; omega) _⟩
    refine (below_others HWW.out).trans ((KeepsOthers.of_grownBy HG1.out ?_).trans (KeepsOthers.setCell _ _ _))
    intro j o e hj
    obtain ⟨_, cs, hc⟩ := own_cells HOz.out j e
    rw [hc] at hj
    cases hj
    rfl
  case done =>
    intro D ys W hD hys hIx hK
    rw [hI] at hIx
    obtain ⟨g, ⟨v, hx, hown⟩, hy, hsz, hb⟩ := hIx
    have hrows : roRows ys = (xs.filter heardK).map roV := by rw [hys]; exact attach_filter_map xs heardK roV
    rw [hrows] at hown
    obtain ⟨va, vm, rfl⟩ := own_slice hown
    obtain ⟨q, hq⟩ : ∃ q, q = ((xs.filter heardK).map roV).length := ⟨_, rfl⟩
    rw [← hq] at hx hown
    have HD : Hid (Blk W H 90 #[.int .u32 (lmaskV c), .int .u16 c.hi, .int .u8 (c.op), .int .u8 c.pr, .int .u32 c.dd, .int .u32 dr, .int .u32 bd, .slice va q vm]) := Lib.hid (by rw [HHV.out] at hx; exact hx)
    have RD := Lib.hid hy
    have HBD := Lib.hid hb
    have HOwn := Lib.hid hown
    have HK := Lib.hid hK
    have y0 : W.cell? ⟨H, 0, none⟩ = some (.int .u32 (lmaskV c)) := HD.out.cell 0
    have y1 : W.cell? ⟨H, 1, none⟩ = some (.int .u16 c.hi) := HD.out.cell 1
    have y2 : W.cell? ⟨H, 2, none⟩ = some (.int .u8 (c.op)) := HD.out.cell 2
    have y3 : W.cell? ⟨H, 3, none⟩ = some (.int .u8 c.pr) := HD.out.cell 3
    have y4 : W.cell? ⟨H, 4, none⟩ = some (.int .u32 c.dd) := HD.out.cell 4
    have y5 : W.cell? ⟨H, 5, none⟩ = some (.int .u32 dr) := HD.out.cell 5
    have y6 : W.cell? ⟨H, 6, none⟩ = some (.int .u32 bd) := HD.out.cell 6
    have y7 : W.cell? ⟨H, 7, none⟩ = some (.slice va q vm) := HD.out.cell 7
    have z0 : W.cell? ⟨w.heap.size, 0, none⟩ = some (.int .u32 0) := RD.out.cell 0
    have z1 : W.cell? ⟨w.heap.size, 1, none⟩ = some (.int .u16 0) := RD.out.cell 1
    have z2 : W.cell? ⟨w.heap.size, 2, none⟩ = some (.int .u8 0) := RD.out.cell 2
    have z3 : W.cell? ⟨w.heap.size, 3, none⟩ = some (.int .u8 0) := RD.out.cell 3
    have z4 : W.cell? ⟨w.heap.size, 4, none⟩ = some (.int .u32 0) := RD.out.cell 4
    have z5 : W.cell? ⟨w.heap.size, 5, none⟩ = some (.int .u32 0) := RD.out.cell 5
    have z6 : W.cell? ⟨w.heap.size, 6, none⟩ = some (.int .u32 0) := RD.out.cell 6
    have z7 : W.cell? ⟨w.heap.size, 7, none⟩ = some (.slice none 0 0) := RD.out.cell 7
    have fz := RD.out.frozen
    have hws : w.heap.size < W.heap.size := by omega
    clear hrows hq hx hy hb hown g hys hK
    dsimp only
    go_wp2_with fail
    obtain ⟨W2, hW2⟩ : ∃ W2, W2 = (((((((W.setCell ⟨w.heap.size, 0, none⟩ (.int .u32 (lmaskV c))).setCell ⟨w.heap.size, 1, none⟩ (.int .u16 c.hi)).setCell ⟨w.heap.size, 2, none⟩ (.int .u8 (c.op))).setCell ⟨w.heap.size, 3, none⟩ (.int .u8 c.pr)).setCell ⟨w.heap.size, 4, none⟩ (.int .u32 c.dd)).setCell ⟨w.heap.size, 5, none⟩ (.int .u32 dr)).setCell ⟨w.heap.size, 6, none⟩ (.int .u32 bd)).setCell ⟨w.heap.size, 7, none⟩ (.slice va q vm) := ⟨_, rfl⟩
    rw [← hW2]
    obtain ⟨k8, b8⟩ := set8r (N := w.heap.size) (v0 := .int .u32 (lmaskV c)) (v1 := .int .u16 c.hi) (v2 := .int .u8 (c.op)) (v3 := .int .u8 c.pr) (v4 := .int .u32 c.dd) (v5 := .int .u32 dr) (v6 := .int .u32 bd) (v7 := .slice va q vm) RD.out HBD.out (Nat.le_refl _)
    rw [← hW2] at k8 b8
    have hDw : w.heap.size < D := by omega
    have hK2 : W2.heap[D]? = some (.deferred (some [])) := by
      rw [hW2]
      rw [heap_far _ _ hDw, heap_far _ _ hDw, heap_far _ _ hDw, heap_far _ _ hDw, heap_far _ _ hDw, heap_far _ _ hDw, heap_far _ _ hDw, heap_far _ _ hDw]
      exact HK.out
    have hf8 : Frame (fun j => j = w.heap.size) W W2 := by
      rw [hW2]
      exact ((((((((Frame.refl _ W).setB 0 _).setB 1 _).setB 2 _).setB 3 _).setB 4 _).setB 5 _).setB 6 _).setB 7 _
    have ho8 := hf8.own HOwn.out (fun g hg e => by have := (own_cells HOwn.out g hg).1; omega)
    have ho9 := (Frame.of_grown (S := fun k => k = D) (grownBy_putObj' W2 D (.deferred none)) (fun k e _ => (Option.some.inj e).symm)).own ho8 (fun g hg e => by
      obtain ⟨_, cs, h3⟩ := own_cells ho8 g hg
      rw [e, hK2] at h3
      cases h3)
    refine ⟨by simp, .inl ⟨_, _, rfl, run_takeDeferred hK2, ?_⟩⟩
    have k9 := k8.grown (grownBy_putObj' W2 D (.deferred none)) (by simp; omega)
    have u0 := (k9.cell 0).trans rfl
    have u1 := (k9.cell 1).trans rfl
    have u2 := (k9.cell 2).trans rfl
    have u3 := (k9.cell 3).trans rfl
    have u4 := (k9.cell 4).trans rfl
    have u5 := (k9.cell 5).trans rfl
    have u6 := (k9.cell 6).trans rfl
    have u7 := (k9.cell 7).trans rfl
    refine ⟨helloW c dr bd (.slice va q vm), ?_, ⟨va, q, vm, rfl, ownsRow_lower ho9 hsw2, b8.trans (below_put hK2 (by omega))⟩⟩
    simp [results, Try.f74, go_sem, helloW, optV, H_dm.out, u0, u1, u2, u3, u4, u5, u6, u7]

end Go.Proofs.Ytgbmhijgpdgdbaa

namespace Go.Proofs.Ytgbmhijgpdgdbaa
open Go.RowKit

/-- A link whose row of neighbours lies at L; what is its own lies at or beyond lo. -/
structure LinkOn (lo : Nat) (w : World) (B : Nat) (c : LC) (st dr bd wt nx po re : Int) (L cap : Nat) (xs : List (Nat × Kn)) : Prop where
  loB : lo ≤ B
  loL : lo ≤ L
  b : Blk w B 119 (lks c st dr bd wt nx po re (.slice (some ⟨L, 0, none⟩) xs.length cap))
  lc : ∃ cur, Blk w L 137 cur
  r : ∀ (j : Nat) (x : Nat × Kn), xs[j]? = some x → w.cell? ⟨L, j, none⟩ = some (.pointer (some ⟨x.1, 0, none⟩))
  k : ∀ x ∈ xs, Blk w x.1 139 x.2.cells ∧ lo ≤ x.1
  nd : (xs.map (·.1)).Nodup

section
variable {lo : Nat} {w w' w'' : World} {B : Nat} {c : LC} {st dr bd wt nx po re : Int} {L cap : Nat} {xs : List (Nat × Kn)}
theorem LinkOn.row (h : LinkOn lo w B c st dr bd wt nx po re L cap xs) : RowAt w L xs := ⟨h.r, fun x hx => (h.k x hx).1⟩
theorem LinkOn.below (h : LinkOn lo w B c st dr bd wt nx po re L cap xs) (hb : Below w.heap.size w w') : LinkOn lo w' B c st dr bd wt nx po re L cap xs := by
  obtain ⟨cur, hc⟩ := h.lc
  exact ⟨h.loB, h.loL, h.b.below hb h.b.lt, ⟨cur, hc.below hb hc.lt⟩, fun j x hj => (hb.cell (p := ⟨L, j, none⟩) hc.lt).trans (h.r j x hj), fun x hx => ⟨(h.k x hx).1.below hb (h.k x hx).1.lt, (h.k x hx).2⟩, h.nd⟩
/-- The link's own block written. -/
theorem LinkOn.turn (h : LinkOn lo w B c st dr bd wt nx po re L cap xs) {st' dr' bd' wt' nx' po' re' : Int} (hf : Frame (fun j => j = B) w w') (hb : Blk w' B 119 (lks c st' dr' bd' wt' nx' po' re' (.slice (some ⟨L, 0, none⟩) xs.length cap))) :
    LinkOn lo w' B c st' dr' bd' wt' nx' po' re' L cap xs ∧ LFr lo w w' := by
  obtain ⟨cur, hc⟩ := h.lc
  have hLB : L ≠ B := hc.ne_ h.b (by decide)
  refine ⟨⟨h.loB, h.loL, hb, ⟨cur, hf.blk hc hLB⟩, fun j x hj => (World.cell?_of_block (a := ⟨L, j, none⟩) (hf.block L hc.lt hLB)).trans (h.r j x hj), fun x hx => ⟨hf.blk (h.k x hx).1 ((h.k x hx).1.ne_ h.b (by decide)), (h.k x hx).2⟩, h.nd⟩, LFr.one h.b h.loB (.inl rfl) hf⟩
theorem LinkOn.inj (h : LinkOn lo w B c st dr bd wt nx po re L cap xs) : ∀ x ∈ xs, ∀ y ∈ xs, x.1 = y.1 → x = y := by
  intro x hx y hy e
  have h1 := (h.k x hx).1
  have h2 := (h.k y hy).1
  rw [← e] at h2
  have h3 : some (Obj.cells x.2.cells 139 (0, 0)) = some (Obj.cells y.2.cells 139 (0, 0)) := h1.symm.trans h2
  obtain ⟨x1, x2⟩ := x
  obtain ⟨y1, y2⟩ := y
  obtain rfl : x1 = y1 := e
  cases x2
  cases y2
  simp [Kn.cells] at h3
  simp [h3]

/-- What an election does to the neighbours. -/
def ElKn (c : LC) (xs : List (Nat × Kn)) (ks : Nat × Kn → Kn) : Prop := ∀ x ∈ xs, ks x = x.2 ∨ (c.ty = 1 ∧ x.2.st = 0 ∧ ks x = updK c x.2)
def mapK (ks : Nat × Kn → Kn) (xs : List (Nat × Kn)) : List (Nat × Kn) := xs.map fun x => (x.1, ks x)

theorem elect_on (h : LinkOn lo w B c st dr bd wt nx po re L cap xs) (hlen : xs.length ≤ 60000) :
    Calls Try.prog 76 #[.pointer (some ⟨B, 0, none⟩)] w fun e w' => e = .returned (.tuple #[]) ∧ ∃ ks, ElKn c xs ks ∧
      LinkOn lo w' B c (elState c (elOut c dr bd xs)) (elOut c dr bd xs).1 (elOut c dr bd xs).2 wt nx po re L cap (mapK ks xs) ∧ LFr lo w w' := by
  rcases Bool.eq_false_or_eq_true (c.ty == 1) with ht | ht
  · obtain ⟨cur, hc⟩ := h.lc
    refine (elect_nbma w B c st dr bd wt nx po re L cap xs hlen ht h.inj cur hc h.b h.row).mono ?_
    rintro e w' ⟨he, hb, ks, hks, hf⟩
    have hLB : L ≠ B := hc.ne_ h.b (by decide)
    have hLx : ∀ x ∈ xs, x.1 ≠ L := fun x hx => (h.k x hx).1.ne_ hc (by decide)
    have hLS : ¬ (L = B ∨ ∃ x ∈ xs, x.1 = L) := by
      rintro (e | ⟨x, hx, e⟩)
      · exact hLB e
      · exact hLx x hx e
    refine ⟨he, ks, fun x hx => (hks x hx).2.imp id (fun h => ⟨by simpa using ht, h⟩), ⟨h.loB, h.loL, by rw [mapK, List.length_map]; exact hb, ⟨cur, Frame.blk hf hc hLS⟩, fun j y hj => ?_, fun y hy => ?_, by rw [mapK, List.map_map]; exact h.nd⟩, hf.mono fun j e => ?_⟩
    · rw [mapK, List.getElem?_map] at hj
      obtain ⟨x, hx, rfl⟩ := Option.map_eq_some_iff.1 hj
      exact (World.cell?_of_block (a := ⟨L, j, none⟩) (hf.block L hc.lt hLS)).trans (h.r j x hx)
    · obtain ⟨x, hx, rfl⟩ := List.mem_map.1 hy
      exact ⟨(hks x hx).1, (h.k x hx).2⟩
    · rcases e with rfl | ⟨x, hx, rfl⟩
      · exact ⟨h.loB, _, _, h.b, .inl rfl⟩
      · exact ⟨(h.k x hx).2, _, _, (h.k x hx).1, .inr (.inr rfl)⟩
  · refine (elect_row w B c st dr bd wt nx po re L cap xs hlen ht h.b h.row).mono ?_
    rintro e w' ⟨he, hb, hf⟩
    have hid : mapK (fun x => x.2) xs = xs := by simp [mapK]
    refine ⟨he, fun x => x.2, fun x hx => .inl rfl, ?_⟩
    rw [hid]
    exact h.turn hf hb
end
end Go.Proofs.Ytgbmhijgpdgdbaa
