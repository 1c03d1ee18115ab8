/- What an adjacency is asked for: keys that its router has. -/
import Derived.Test.YtgbmhijgpdgdbaaFaGotG
import Derived.Test.YtgbmhijgpdgdbaaFaTake
import Derived.Carry
import Derived.Deep.RegionWith
namespace Go.Proofs.Ytgbmhijgpdgdbaa
open Go.RowKit

/-- The keys of a row of heads, as a map has them. -/
def setOf (l : List Od.Hd) : Od.Ky → Option Bool := fun k => if l.any (fun h => keyOfHd h == k) then some true else none
theorem setOf_nil : setOf [] = fun _ => none := rfl
theorem setOf_snoc (l : List Od.Hd) (h : Od.Hd) : setOf (l ++ [h]) = upd (setOf l) (keyOfHd h) (some true) := by
  funext k
  unfold setOf
  by_cases e : k = keyOfHd h
  · subst e
    rw [upd_self]
    simp
  · rw [upd_ne e]
    have : (keyOfHd h == k) = false := by simpa using fun e2 => e e2.symm
    simp [this]
theorem setOf_some {l : List Od.Hd} {k : Od.Ky} (h : ∃ x ∈ l, keyOfHd x = k) : setOf l k = some true := by
  obtain ⟨x, hx, e⟩ := h
  unfold setOf
  rw [if_pos (List.any_eq_true.2 ⟨x, hx, by simpa using e⟩)]

def bval (b : Bool) : Value := .bool b
theorem zeroBool (w : World) : (zeroValue 4).run Try.prog w = .ok (.bool false) w := by
  have hi : (Try.prog.info? 4).map (fun i => (i.zero, i.size, i.bytes)) = some (some (.bool false), 1, 1) := by kernel_rfl
  obtain ⟨i0, hi, hz0, hz1, hz2⟩ := info_parts hi
  simp [zeroValue, typeInfo, hi, hz0]

theorem wpList_upd {P : Program} {ops : Array Oper} {rest : List Oper} {o : Oper} {a : Act} {w w' : World} {Q : Exit → Act → World → Prop} {mv kv xv : Value} (hgd : o.guard = none) (m k x : Operand) (t : TypeId)
    (ho : o.op = .mapUpdate t m k x) (hm : a.eval m = mv) (hk : a.eval k = kv) (hx : a.eval x = xv) (hrun : (Instr.mapUpdate t mv kv xv).run P w = .ok () w') (h : wpList P ops Q rest (a.put o.dst undef) w') : wpList P ops Q (o :: rest) a w :=
  wpList_plain hgd fun _ hK => by
    unfold Oper.wp execOp
    simp only [ho, hm, hk, hx, Sem.run_bind, Sem.run_pure, Result.andThen_ok, hrun]
    exact hK _ _ h

def AskPost (A : List Od.Ky) (w : World) (e : Ending) (w' : World) : Prop :=
  ∃ kv, e = .returned (.tuple #[kv, .slice none 0 0, .int .i64 0]) ∧ KeysOwn w' w.heap.size kv A ∧ Below w.heap.size w w'

set_option maxHeartbeats 4000000 in
set_option maxRecDepth 20000 in
theorem asked_all (w : World) (B : Nat) (a : Adj) (A : List Od.Ky) (own : List Od.Hd) (Ak : Option Addr) (nk ck : Nat) (ow : Value) (h : AdjAt w B a) (hm : a.made = true) (hst : (a.state == 0) = false)
    (hk : Reads w w.heap.size 3 Ak nk (A.flatMap kcells)) (hkl : A.length = nk) (how : HeadsIn w ow own) (hokA : ∀ x ∈ A, KyOk x) (hoko : ∀ x ∈ own, HdOk x) (hnk : nk ≤ 65535) (hno : own.length ≤ 65536) (hall : ∀ x ∈ A, ∃ y ∈ own, keyOfHd y = x) :
    Calls Try.prog 24 #[.pointer (some ⟨B, 0, none⟩), .slice Ak nk ck, ow] w fun e w' => AskPost A w e w' := by
  obtain ⟨Ao, no, co, eo, hnco, hleno, hro⟩ := how.1
  subst eo
  obtain ⟨i0, hi, hz0, hz1, hz2⟩ := info_parts key_info
  have c8 : w.cell? ⟨B, 8, none⟩ = some (.int .u8 a.state) := h.cell 8
  have hmk := fun w1 : World => run_makeMap (P := Try.prog) 129 w1
  have HH := Lib.hid h
  have Hm := Lib.hid hm
  have HK := Lib.hid hk
  have HKl := Lib.hid hkl
  have HRo := Lib.hid hro
  have Hleno := Lib.hid hleno
  have HokA := Lib.hid hokA
  have Hoko := Lib.hid hoko
  have Hall := Lib.hid hall
  have hno2 : no ≤ 65536 := by omega
  clear h hm hk hkl how hleno hro hokA hoko hall hno
  go_enter Try.func24, Try.ntmps24
  go_wp2_with (go_at_call 50; refine (none_yes _ B a HH.out Hm.out).mono ?_; rintro e w' ⟨rfl, rfl⟩)
  have kM0 : MapIs bval (w.alloc (.map #[] 0)) w.heap.size (setOf (own.take 0)) := MapIs.made bval w
  have kB0 : Below w.heap.size w (w.alloc (.map #[] 0)) := (Below.refl _ w).alloc (Nat.le_refl _) _
  have HM0 := Lib.hid kM0
  have HB0 := Lib.hid kB0
  clear kM0 kB0 c8 hmk
  go_loopw [26] (fun i wr => ∃ k : Nat, k ≤ no ∧ i = .int .i64 k ∧ Hid (MapIs bval wr w.heap.size (setOf (own.take k))) ∧ Hid (Below w.heap.size w wr)) (fun i _ => no - (intOf i).toNat)
  case atStart => exact ⟨0, Nat.zero_le _, rfl, HM0, HB0⟩
  case round =>
    clear HM0 HB0
    obtain ⟨k, hk, rfl, HM, HB⟩ := hrel
    by_cases hlt : k < no
    · obtain ⟨x, hx⟩ : ∃ x, own[k]? = some x := ⟨_, List.getElem?_eq_getElem (by have := Hleno.out; omega)⟩
      have hxo := Hoko.out x (List.mem_of_getElem? hx)
      obtain ⟨bl, off, hAo, hbl, hcell⟩ := (HRo.out.below HB.out).head hx
      subst hAo
      obtain ⟨g, o, t, i, v, s, mm, l⟩ := x
      have hky : KyOk ⟨t, i, v⟩ := hxo.ky
      have d0 : wr.cell? ⟨bl, off + k * 8, none⟩ = some (.int .u16 g) := hcell 0 _ rfl
      have d1 := hcell 1 _ rfl
      have d2 := hcell 2 _ rfl
      have d3 := hcell 3 _ rfl
      have d4 := hcell 4 _ rfl
      have d5 := hcell 5 _ rfl
      have d6 := hcell 6 _ rfl
      have d7 := hcell 7 _ rfl
      have Hx := Lib.hid hx
      have hkn : (k : Int) < (no : Int) := by omega
      have hmlt := HM.out.lt
      clear hcell hx hxo
      go_wp2_with fail
      refine (key_any _ ⟨g, o, t, i, v, s, mm, l⟩).mono ?_
      rintro e w1 ⟨rfl, hb1⟩
      unfold kval keyOfHd
      have hb01 : Below wr.heap.size wr w1 := ((Below.refl _ wr).alloc (Nat.le_refl _) _).trans (hb1.mono (by simp))
      obtain ⟨w2, hrun2, hM2, hg2, hs2⟩ := (HM.out.below hb01 hmlt).put hky Try.underlying129 true
      simp only [kval, bval] at hrun2
      have HR2 := Lib.hid hrun2
      have HM2 := Lib.hid hM2
      have HB2 : Hid (Below w.heap.size w w2) := Lib.hid ((HB.out.trans (hb01.mono HB.out.size)).trans ⟨hg2.os, hg2.tape, hg2.output, Nat.le_of_eq hs2.symm, fun j hj => hg2.block j (by have := HB.out.size; have := hb01.size; omega) (fun e => by cases e; omega)⟩)
      clear hb1 hb01 hrun2 hM2 hg2 hs2 d0 d1 d2 d3 d4 d5 d6 d7
      go_wp2_with (refine wpList_upd rfl (.tmp 30) (.tmp 32) (.const (.bool true)) 129 rfl rfl rfl rfl HR2.out ?_)
      go_roundw
      case rel => exact ⟨k + 1, by omega, by go_num, Lib.hid (by rw [take_snoc Hx.out, setOf_snoc]; exact HM2.out), HB2⟩
      case measure => simp [intOf]; omega
    · obtain rfl : k = no := by omega
      have htk : own.take k = own := List.take_of_length_le (by have := Hleno.out; omega)
      rw [htk] at HM
      clear htk
      go_wp2_with fail
      go_loopw [36] (fun i w2 => ∃ k : Nat, k ≤ nk ∧ i = .int .i64 k ∧ Hid (Below wr.heap.size wr w2)) (fun i _ => nk - (intOf i).toNat)
      case atStart => exact ⟨0, Nat.zero_le _, rfl, Lib.hid (Below.refl _ _)⟩
      case round =>
        obtain ⟨k2, hk2, rfl, HB2⟩ := hrel
        have HM2 := Lib.hid (HM.out.below HB2.out HM.out.lt)
        have HBw := Lib.hid (HB.out.trans (HB2.out.mono HB.out.size))
        by_cases hlt2 : k2 < nk
        · obtain ⟨⟨yt, yi, yv⟩, hy⟩ : ∃ y, A[k2]? = some y := ⟨_, List.getElem?_eq_getElem (by have := HKl.out; omega)⟩
          have hyk := HokA.out _ (List.mem_of_getElem? hy)
          obtain ⟨yb, yo, hyA, hyb, hyc⟩ := (HK.out.below HBw.out).key hy
          subst hyA
          have u0 : wr.cell? ⟨yb, yo + k2 * 3, none⟩ = some (.int .u8 yt) := hyc 0 _ rfl
          have u1 : wr.cell? ⟨yb, yo + k2 * 3 + 1, none⟩ = some (.int .u32 yi) := hyc 1 _ rfl
          have u2 : wr.cell? ⟨yb, yo + k2 * 3 + 2, none⟩ = some (.int .u32 yv) := hyc 2 _ rfl
          have hlk := (HM2.out.alloc (.cells #[.int .u8 yt, .int .u32 yi, .int .u32 yv] 56)).look hyk Try.underlying129 (zeroBool _) false
          rw [setOf_some (Hall.out _ (List.mem_of_getElem? hy))] at hlk
          simp only [kval, bval, Option.elim, if_false, Bool.false_eq_true] at hlk
          have hkn : (k2 : Int) < (nk : Int) := by omega
          clear hyc hyk hy
          go_wp2_with fail
          go_roundw
          case rel => exact ⟨k2 + 1, by omega, by go_num, Lib.hid (HB2.out.alloc HB2.out.size _)⟩
          case measure => simp [intOf]; omega
        · obtain rfl : k2 = nk := by omega
          have hRk := HK.out.below HBw.out
          have HRk := Lib.hid hRk
          have h63 : 0 + k2 ≤ maxLen := by unfold maxLen; omega
          have hbytes : (0 + k2) * 12 ≤ 140737488355328 := by omega
          have hbw : w.heap.size ≤ wr.heap.size := HBw.out.size
          clear hRk
          go_wp2_with (at_builtin; refine wpList_append_any _ rfl (.const (.slice none 0 0)) (.tmp 47) _ rfl w.heap.size 56 i0 _ 3 12 Try.underlying38 hi hz0 hz1 hz2 rfl (by omega) (.slice none 0 0) 0 [] rfl (World.ownsRow_nil _ _ _ _) _ Ak k2 ck (A.flatMap kcells) rfl HRk.out kcells_one h63 hbytes hbw ?_; intro v8 w8 hown8 hg8 hat8)
          rw [List.nil_append, Nat.zero_add] at hown8
          obtain ⟨A8, c8, rfl⟩ := own_slice hown8
          have hF8 : Frame (fun _ => False) wr w8 := Frame.of_grown hg8 (by simp [Value.ownBlock])
          have hb8 : Below wr.heap.size wr w8 := ⟨hF8.os, hF8.tape, hF8.output, hF8.size, fun j hj => hF8.block j hj (fun e => e)⟩
          refine bodyPost_ret (v := .tuple #[.slice A8 k2 c8, .slice none 0 0, .int .i64 0]) (by simp [results, Try.results24, go_sem]) rfl ⟨.slice A8 k2 c8, rfl, ?_, HBw.out.trans (hb8.mono HBw.out.size)⟩
          show World.ownsRow _ _ _ _ _ _ _
          rw [HKl.out]
          exact hown8
end Go.Proofs.Ytgbmhijgpdgdbaa
