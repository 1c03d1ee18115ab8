/- The peers of a config that may be, by the program: with peers. -/
import Derived.Test.YtgbmhijgpdgdbaaMapU
import Derived.Deep.RegionLaw
import Derived.Deep.RegionWith
import Derived.Deep.DeepCutAuto
import Derived.Maps.OwnSet
namespace Go.Proofs.Ytgbmhijgpdgdbaa
open Go.RowKit

theorem step_insert {P : Program} {ops : Array Oper} {o : Oper} {a : Act} {w w' : World} {K : Act → World → Prop} {Q : Exit → Act → World → Prop} {E : Prop} {mv kv xv : Value} (hgd : o.guard = none) (m k x : Operand) (t : TypeId)
    (ho : o.op = .insert t m k x) (hm : a.eval m = mv) (hk : a.eval k = kv) (hx : a.eval x = xv) (hrun : (Instr.mapUpdate t mv kv xv).run P w = .ok () w') (h : K (a.put o.dst undef) w') :
    if Region.wanted o (yielded ops a.tmps) = true then Oper.wp P o a w K Q else E := by
  have hw : Region.wanted o (yielded ops a.tmps) = true := by simp [Region.wanted, hgd]
  rw [if_pos hw]
  unfold Oper.wp execOp
  simp only [ho, hm, hk, hx, Sem.run_bind, Sem.run_pure, Result.andThen_ok, hrun]
  exact h

theorem wpList_update {P : Program} {ops : Array Oper} {rest : List Oper} {o : Oper} {a : Act} {w w' : World} {Q : Exit → Act → World → Prop} {mv kv xv : Value} (hgd : o.guard = none) (m k x : Operand) (t : TypeId)
    (ho : o.op = .mapUpdate t m k x) (hm : a.eval m = mv) (hk : a.eval k = kv) (hx : a.eval x = xv) (hrun : (Instr.mapUpdate t mv kv xv).run P w = .ok () w') (h : wpList P ops Q rest (a.put o.dst undef) w') : wpList P ops Q (o :: rest) a w :=
  wpList_plain hgd fun _ hK => by
    unfold Oper.wp execOp
    simp only [ho, hm, hk, hx, Sem.run_bind, Sem.run_pure, Result.andThen_ok, hrun]
    exact hK _ _ h

def seen0 (ad : Int) : Int → Option Bool := updW (updW (fun _ => none) 0 (some true)) ad (some true)
theorem seen0_comm (ad : Int) : updW (updW (fun _ => none) ad (some true)) 0 (some true) = seen0 ad := by
  funext x
  unfold seen0 updW
  by_cases h1 : x = 0 <;> by_cases h2 : x = ad <;> simp [h1, h2]

set_option maxHeartbeats 4000000 in
set_option maxRecDepth 20000 in
theorem peersMay_some (w : World) (c : LC) (L : List (Int × Int)) (hp : c.peers = true) (hL : PeersAt w w.heap.size c.pe L) (hlen : L.length ≤ 64) (had : WdOk c.ad) (hwd : ∀ p ∈ L, WdOk p.1)
    (hall : ∀ (i : Nat) (p : Int × Int), L[i]? = some p → p.1 ≠ 0 ∧ p.1 ≠ c.ad ∧ ∀ (k : Nat) (q : Int × Int), k < i → L[k]? = some q → q.1 ≠ p.1) :
    Calls Try.prog 64 #[.agg c.cells] w fun e w' => e = .returned (.bool true) ∧ Below w.heap.size w w' := by
  have hp2 : ∀ W, Calls Try.prog 63 #[.agg c.cells] W fun e w' => e = .returned (.bool true) ∧ Below W.heap.size W w' := fun W => by have h := peers_any c W; rw [hp] at h; exact h
  have HP := Lib.hid hp2
  obtain ⟨A, cap, hpe, hr⟩ := hL
  have HPE := Lib.hid hpe
  have HR := Lib.hid hr
  have HAll := Lib.hid hall
  have HWd := Lib.hid hwd
  have HAd := Lib.hid had
  clear hp2 hpe hr hall hwd had
  have hmk := fun w1 : World => run_makeMap (P := Try.prog) 169 w1
  unfold LC.cells at HP ⊢
  go_enter Try.func64, Try.ntmps64
  go_upto_region 1 with fail
  obtain ⟨W0, hW0⟩ : ∃ W0, W0 = w.alloc (.cells c.cells 83) := ⟨_, rfl⟩
  have K0 : Hid (Blk W0 w.heap.size 83 c.cells) := Lib.hid (by rw [hW0]; exact Blk.new w _ _)
  have B0 : Hid (Below w.heap.size w W0) := Lib.hid (by rw [hW0]; exact (Below.refl _ w).alloc (Nat.le_refl _) _)
  unfold LC.cells at hW0
  rw [← hW0]
  clear hW0
  have z0 : W0.cell? ⟨w.heap.size, 0, none⟩ = some (.int .u8 c.ty) := K0.out.cell 0
  have z1 : W0.cell? ⟨w.heap.size, 1, none⟩ = some (.int .u32 c.ro) := K0.out.cell 1
  have z2 : W0.cell? ⟨w.heap.size, 2, none⟩ = some (.int .u32 c.na) := K0.out.cell 2
  have z3 : W0.cell? ⟨w.heap.size, 3, none⟩ = some (.int .u8 c.nb) := K0.out.cell 3
  have z4 : W0.cell? ⟨w.heap.size, 4, none⟩ = some (.int .u32 c.ad) := K0.out.cell 4
  have z5 : W0.cell? ⟨w.heap.size, 5, none⟩ = some (.int .u8 c.op) := K0.out.cell 5
  have z6 : W0.cell? ⟨w.heap.size, 6, none⟩ = some (.int .u16 c.hi) := K0.out.cell 6
  have z7 : W0.cell? ⟨w.heap.size, 7, none⟩ = some (.int .u32 c.dd) := K0.out.cell 7
  have z8 : W0.cell? ⟨w.heap.size, 8, none⟩ = some (.int .u16 c.po) := K0.out.cell 8
  have z9 : W0.cell? ⟨w.heap.size, 9, none⟩ = some (.int .u8 c.pr) := K0.out.cell 9
  have z10 : W0.cell? ⟨w.heap.size, 10, none⟩ = some (.bool c.dm) := K0.out.cell 10
  have z11 : W0.cell? ⟨w.heap.size, 11, none⟩ = some (.bool c.ps) := K0.out.cell 11
  have z12 : W0.cell? ⟨w.heap.size, 12, none⟩ = some (c.pe) := K0.out.cell 12
  have z13 : W0.cell? ⟨w.heap.size, 13, none⟩ = some (.int .u32 c.rm) := K0.out.cell 13
  go_upto_region 1 with fail
  go_upto_region 3 with (go_at_call 63; refine (HP.out _).mono ?_; rintro e w1 ⟨rfl, hb1⟩; have K1 := Lib.hid (K0.out.below hb1 K0.out.lt); have B1 := Lib.hid (B0.out.trans (hb1.mono B0.out.size)); clear z0 z1 z2 z3 z4 z5 z6 z7 z8 z9 z10 z11 z12 z13 hb1)
  have z4 : w1.cell? ⟨w.heap.size, 4, none⟩ = some (.int .u32 c.ad) := K1.out.cell 4
  have hz1 : w.heap.size < w1.heap.size := K1.out.lt
  go_cut [3] (fun p3 wx => ∃ b, p3 = .map (some b) ∧ MapU Value.bool wx b (seen0 c.ad) ∧ Blk wx w.heap.size 83 c.cells ∧ Below w.heap.size w wx ∧ w.heap.size < b)
  case first =>
    have h0 : WdOk 0 := ⟨by decide, by decide⟩
    obtain ⟨V1, hv1, hm1, hg1, hs1⟩ := (MapU.made Value.bool w1).drew.put h0 Try.underlying169 true
    obtain ⟨V2, hv2, hm2, hg2, hs2⟩ := hm1.put HAd.out Try.underlying169 true
    obtain ⟨U1, hu1, hn1, hk1, ht1⟩ := (MapU.made Value.bool w1).drew.put HAd.out Try.underlying169 true
    obtain ⟨U2, hu2, hn2, hk2, ht2⟩ := hn1.put h0 Try.underlying169 true
    have kV1 : Blk V1 w.heap.size 83 c.cells := (K1.out.alloc _).drew.grown hg1 (by simp; omega)
    have kV2 : Blk V2 w.heap.size 83 c.cells := kV1.grown hg2 (by simp; omega)
    have kU1 : Blk U1 w.heap.size 83 c.cells := (K1.out.alloc _).drew.grown hk1 (by simp; omega)
    have kU2 : Blk U2 w.heap.size 83 c.cells := kU1.grown hk2 (by simp; omega)
    have bV1 : Below w.heap.size w V1 := (B1.out.alloc B1.out.size _).drew.grown hg1 (by have := B1.out.size; simp; omega) (fun k hk => by cases hk; omega)
    have bV2 : Below w.heap.size w V2 := bV1.grown hg2 (by have := bV1.size; omega) (fun k hk => by cases hk; omega)
    have bU1 : Below w.heap.size w U1 := (B1.out.alloc B1.out.size _).drew.grown hk1 (by have := B1.out.size; simp; omega) (fun k hk => by cases hk; omega)
    have bU2 : Below w.heap.size w U2 := bU1.grown hk2 (by have := bU1.size; omega) (fun k hk => by cases hk; omega)
    have v4 : V1.cell? ⟨w.heap.size, 4, none⟩ = some (.int .u32 c.ad) := kV1.cell 4
    rw [seen0_comm] at hn2
    unfold wval at hv1 hv2 hu1 hu2
    have Hm2 := Lib.hid hm2
    have Hn2 := Lib.hid hn2
    have KV2 := Lib.hid kV2
    have KU2 := Lib.hid kU2
    have BV2 := Lib.hid bV2
    have BU2 := Lib.hid bU2
    clear hm1 hm2 hn1 hn2 hg1 hg2 hk1 hk2 hs1 hs2 ht1 ht2 kV1 kV2 kU1 kU2 bV1 bV2 bU1 bU2
    go_region_law (fail)
    all_goals
      go_wp2_with fail
      go_meet
      case rel =>
        first
          | exact ⟨_, rfl, Hm2.out, KV2.out, BV2.out, by omega⟩
          | exact ⟨_, rfl, Hn2.out, KU2.out, BU2.out, by omega⟩
  obtain ⟨b, rfl, hM, hK, hB, hwb⟩ := hcut
  have KC := Lib.hid hK
  have BC := Lib.hid hB
  have MC := Lib.hid hM
  have y12 : wc.cell? ⟨w.heap.size, 12, none⟩ = some (.slice A L.length cap) := (hK.cell 12).trans (congrArg some HPE.out)
  have hzc : w.heap.size < wc.heap.size := hK.lt
  clear hK hB hM z4
  go_wp2_with fail
  go_loopw [20] (fun x wr => ∃ (i : Nat) (M : Int → Option Bool), i ≤ L.length ∧ x = .int .i64 i ∧ MapU Value.bool wr b M ∧ (∀ k, M k ≠ none → k = 0 ∨ k = c.ad ∨ ∃ j q, j < i ∧ L[j]? = some q ∧ q.1 = k) ∧ Blk wr w.heap.size 83 c.cells ∧ Below w.heap.size w wr) (fun x _ => L.length - (intOf x).toNat)
  case atStart =>
    refine ⟨0, _, Nat.zero_le _, rfl, MC.out, fun k hk => ?_, KC.out, BC.out⟩
    unfold seen0 updW at hk
    by_cases h1 : k = c.ad
    · exact .inr (.inl h1)
    · by_cases h2 : k = 0
      · exact .inl h2
      · simp [h1, h2] at hk
  case round =>
    obtain ⟨i, M, hi, rfl, hM, hsub, hK, hB⟩ := hrel
    have HM := Lib.hid hM
    have HS := Lib.hid hsub
    have HK := Lib.hid hK
    have HB := Lib.hid hB
    have hbl : b < wr.heap.size := hM.lt
    have hzl : w.heap.size < wr.heap.size := hK.lt
    have x12 : wr.cell? ⟨w.heap.size, 12, none⟩ = some (.slice A L.length cap) := (hK.cell 12).trans (congrArg some HPE.out)
    clear hM hsub hK hB y12
    by_cases hlt : i < L.length
    · obtain ⟨p, hp⟩ : ∃ p, L[i]? = some p := ⟨_, List.getElem?_eq_getElem hlt⟩
      obtain ⟨g, off, hA, hgB, ew1, ew2⟩ := HR.out.peer hp
      subst hA
      have e1 : wr.cell? ⟨g, off + i * 2, none⟩ = some (.int .u32 p.1) := (HB.out.cell hgB).trans ew1
      have e2 : wr.cell? ⟨g, off + i * 2 + 1, none⟩ = some (.int .u8 p.2) := (HB.out.cell hgB).trans ew2
      have hgl : g < wr.heap.size := by omega
      have hok : WdOk p.1 := HWd.out p (List.mem_of_getElem? hp)
      obtain ⟨a1, a2, a3⟩ := HAll.out i p hp
      have hnone : M p.1 = none := by
        rcases hm : M p.1 with _ | v
        · rfl
        · rcases HS.out p.1 (by rw [hm]; simp) with h | h | ⟨j, q, hj, hq, he⟩
          · exact absurd h a1
          · exact absurd h a2
          · exact absurd he (a3 j q hj hq)
      have hlk := (HM.out.alloc (.cells #[.int .u32 p.1, .int .u8 p.2] 136)).look hok Try.underlying169 (Try.zeroValue4 _) false
      rw [hnone] at hlk
      unfold wval at hlk
      simp only [Option.elim] at hlk
      obtain ⟨W2, hr2, hM2, hg2, hs2⟩ := (HM.out.alloc (.cells #[.int .u32 p.1, .int .u8 p.2] 136)).put hok Try.underlying169 true
      unfold wval at hr2
      have HR2 := Lib.hid hr2
      have HM2 := Lib.hid hM2
      have HG2 := Lib.hid hg2
      clear hr2 hM2 hg2 hs2 ew1 ew2
      go_wp2_with (refine wpList_update rfl (.tmp 28) (.tmp 30) (.const (.bool true)) 169 rfl rfl rfl rfl HR2.out ?_)
      go_roundw
      case rel =>
        refine ⟨i + 1, _, by omega, by simp, HM2.out, fun k hk => ?_, (HK.out.alloc _).grown HG2.out (by simp; omega), ((HB.out.alloc HB.out.size _).grown HG2.out (by have := HB.out.size; simp; omega) (fun k hk => by cases hk; omega))⟩
        by_cases hkp : k = p.1
        · exact .inr (.inr ⟨i, p, by omega, hp, hkp.symm⟩)
        · rw [updW_ne hkp] at hk
          rcases HS.out k hk with h | h | ⟨j, q, hj, hq, he⟩
          · exact .inl h
          · exact .inr (.inl h)
          · exact .inr (.inr ⟨j, q, by omega, hq, he⟩)
      case measure => simp [intOf]; omega
    · obtain rfl : i = L.length := by omega
      go_wp2_with fail
      go_ret
      exact ⟨by simp; omega, HB.out⟩
end Go.Proofs.Ytgbmhijgpdgdbaa
