/- The next request of an adjacency. -/
import Derived.Test.YtgbmhijgpdgdbaaFaDescSl
import Derived.Test.YtgbmhijgpdgdbaaFaDescSb
import Derived.Test.YtgbmhijgpdgdbaaFaDescMl
import Derived.Test.YtgbmhijgpdgdbaaFaDescMb
import Derived.Deep.RegionHeld3
import Derived.Deep.AppendLies
import Derived.StillTactics


namespace Go.Proofs.Ytgbmhijgpdgdbaa
open Go.RowKit

def kcells (k : Od.Ky) : List Value := [.int .u8 k.t, .int .u32 k.i, .int .u32 k.v]
theorem kcells_one {l : List Od.Ky} : ∀ u ∈ l.flatMap kcells, u.oneCell' = true := by
  intro u hu
  obtain ⟨v, _, hv⟩ := List.mem_flatMap.1 hu
  simp [kcells] at hv
  rcases hv with h | h | h <;> subst h <;> rfl
theorem key_info : (Try.prog.info? 56).map (fun i => (i.zero, i.size, i.bytes)) = some (some (kval ⟨0, 0, 0⟩), 3, 12) := by kernel_rfl
theorem key_size (w : World) : (sizeOf (Try.prog.elem 38)).run Try.prog w = .ok 3 w := by
  obtain ⟨i0, hi, hz0, hz1, hz2⟩ := info_parts key_info
  have : Try.prog.elem 38 = 56 := by kernel_rfl
  rw [this]
  simp [sizeOf, typeInfo, hi, hz1]
theorem elem38 : Try.prog.underlying 38 = some (.slice (Try.prog.elem 38)) := by
  have : Try.prog.elem 38 = 56 := by kernel_rfl
  rw [this]; exact Try.underlying38
theorem slice_h38 (w : World) (A : Option Addr) (n c k : Nat) (hk : k ≤ c) : (Instr.slice 38 (.slice A n c) none (some (.int .i64 k)) none).run Try.prog w = .ok (.slice A k c) w := by
  rw [run_slice_h w 38 A n c elem38 _ _ (by omega) (by omega), key_size]
  simp only [Result.andThen, sliced, Int.toNat_natCast, Nat.sub_zero]
  congr 2
  split
  · rfl
  · exact map_add_zero A 3

theorem kflat_length (l : List Od.Ky) : (l.flatMap kcells).length = l.length * 3 := by
  induction l with
  | nil => rfl
  | cons a t ih => simp only [List.flatMap_cons, List.length_append, ih, List.length_cons]; simp [kcells]; omega
theorem kflat_take (l : List Od.Ky) (k : Nat) : (l.take k).flatMap kcells = (l.flatMap kcells).take (k * 3) := by
  induction l generalizing k with
  | nil => simp
  | cons h t ih =>
    cases k with
    | zero => simp
    | succ k =>
      simp only [List.take_succ_cons, List.flatMap_cons, ih]
      rw [show (k + 1) * 3 = (kcells h).length + k * 3 from by simp [kcells]; omega, List.take_length_add_append]
theorem kflat_drop (l : List Od.Ky) (k : Nat) : (l.drop k).flatMap kcells = (l.flatMap kcells).drop (k * 3) := by
  induction l generalizing k with
  | nil => simp
  | cons h t ih =>
    cases k with
    | zero => simp
    | succ k =>
      simp only [List.drop_succ_cons, List.flatMap_cons, ih]
      rw [show (k + 1) * 3 = (kcells h).length + k * 3 from by simp [kcells]; omega, List.drop_length_add_append]

/-- The keys that are wanted, in a row of their own (or none). -/
abbrev KeysOwn (w : World) (base : Nat) (v : Value) (O : List Od.Ky) : Prop := w.ownsRow base 56 3 v O.length (O.flatMap kcells)

def Adj.requested (a : Adj) (av : Value) : Adj := { a with asks := av, timer := a.rxmt }

def ReqPost (B : Nat) (a : Adj) (O : List Od.Ky) (w : World) (e : Ending) (w' : World) : Prop :=
  ∃ kv av, e = .returned (outval false 0 0 0 0 (.slice none 0 0) kv) ∧ AdjAt w' B (a.requested av) ∧ KeysOwn w' w.heap.size av (O.take 16) ∧ KeysOwn w' w.heap.size kv (O.take 16) ∧ (av.ownBlock = none ∨ av.ownBlock ≠ kv.ownBlock) ∧ Frame (fun k => k = B) w w'

set_option maxHeartbeats 2000000 in
set_option maxRecDepth 20000 in
theorem request_any (w : World) (B : Nat) (a : Adj) (O : List Od.Ky) (h : AdjAt w B a) (ho : KeysOwn w 0 a.order O) (hn : O.length ≤ 65536) (hrx : 0 ≤ a.rxmt ∧ a.rxmt < 65536) :
    Calls Try.prog 54 #[.pointer (some ⟨B, 0, none⟩)] w fun e w' => ReqPost B a O w e w' := by
  obtain ⟨i0, hi, hz0, hz1, hz2⟩ := info_parts key_info
  obtain ⟨A, c, ev⟩ := own_slice ho
  have hr := Reads.of_own (ev ▸ ho)
  have hnc : O.length ≤ c := by
    rcases ho.2 with ⟨e1, e2⟩ | ⟨g, cap, cur, e1, e2, e3, e4, e5⟩
    · omega
    · rw [ev] at e1; injection e1 with _ _ e6; omega
  obtain ⟨k, hk⟩ : ∃ k, min O.length 16 = k := ⟨_, rfl⟩
  have hmin : (if (16 : Int) < (O.length : Int) then (16 : Int) else (O.length : Int)) = (k : Int) := by split <;> omega
  have hBlt := h.lt
  have f := h.frozen
  have c5 : w.cell? ⟨B, 5, none⟩ = some (.int .u16 a.rxmt) := h.cell 5
  have c21 : w.cell? ⟨B, 21, none⟩ = some (.slice A O.length c) := (h.cell 21).trans (congrArg some ev)
  have c23 : w.cell? ⟨B, 23, none⟩ = some a.asks := h.cell 23
  have c24 : w.cell? ⟨B, 24, none⟩ = some (.int .u32 a.timer) := h.cell 24
  have hrk : Reads w w.heap.size 3 A k ((O.take k).flatMap kcells) := by
    rw [kflat_take]
    refine ⟨by rw [List.length_take, hr.1]; exact Nat.min_eq_left (Nat.mul_le_mul_right _ (by omega)), fun hk0 => ?_⟩
    obtain ⟨ad, ea, hb, hc⟩ := hr.2 (by omega)
    exact ⟨ad, ea, hb, fun j u hu => hc j u (by rw [List.getElem?_take] at hu; split at hu; exact hu; cases hu)⟩
  have hsl := fun w => slice_h38 w A O.length c k (by omega)
  have hbel : Below w.heap.size w (w.alloc (.cells ozero 40)).drew := ((Below.refl _ w).alloc (Nat.le_refl _) _).drew
  have HRK := Lib.hid ((hrk.alloc (Nat.le_refl _) (.cells ozero 40)).drew)
  have HB0 := Lib.hid ((h.alloc (.cells ozero 40)).drew)
  have HO0 := Lib.hid ((Blk.new w 40 ozero).drew)
  have HF0 : Hid (Frame (fun k => k = B) w (w.alloc (.cells ozero 40)).drew) := Lib.hid (((Frame.refl _ w).alloc (.cells ozero 40)).drew)
  unfold ozero at HRK HB0 HO0 HF0
  have Hk := Lib.hid hk
  have hkk : k ≤ 16 := by omega
  have hbytes : (0 + k) * 12 ≤ 140737488355328 := by omega
  have h63 : 0 + k ≤ maxLen := by unfold maxLen; omega
  obtain ⟨n, hnn⟩ : ∃ n, O.length = n := ⟨_, rfl⟩
  rw [hnn] at c21 hsl hmin
  have HEV : Hid (a.cells[21]? = some (.slice A n c)) := Lib.hid ((congrArg some ev).trans (by rw [hnn]))
  obtain ⟨hx0, hx1⟩ := hrx
  clear hk h ho hr hrk ev hbel hnc hn
  go_enter Try.func54, Try.ntmps54
  go_wp2_with fail
  go_region_held3 (fun w' => w'.cell? ⟨B, 21, none⟩ = some (.slice A n c)) (first | assumption | go_keep | (refine (World.cell?_setCell_other _ _ _ _ (by simp)).trans ?_; assumption)) ((refine step_append_any _ rfl (.const (.slice none 0 0)) (.tmp 14) _ rfl w.heap.size 56 i0 _ 3 12 Try.underlying38 hi hz0 hz1 hz2 rfl (by omega) (.slice none 0 0) 0 [] rfl (World.ownsRow_nil _ _ _ _) w.heap.size A k c ((O.take k).flatMap kcells) rfl HRK.out kcells_one h63 hbytes (by simp) ?_; intro v1 w1 hown1 hg1 hat1; rw [List.nil_append, Nat.zero_add] at hown1; obtain ⟨A1, cc, hv1⟩ := own_slice hown1; subst hv1; have kB := HB0.out.grown hg1 (by simp [Value.ownBlock]); have kO := HO0.out.grown hg1 (by simp [Value.ownBlock]); have b5 : w1.cell? ⟨B, 5, none⟩ = some (.int .u16 a.rxmt) := kB.cell 5; have b23 : w1.cell? ⟨B, 23, none⟩ = some a.asks := kB.cell 23; have b24 : w1.cell? ⟨B, 24, none⟩ = some (.int .u32 a.timer) := kB.cell 24; have b21 : w1.cell? ⟨B, 21, none⟩ = some (.slice A n c) := (kB.cell 21).trans HEV.out; have fB := kB.frozen; have HB1 := Lib.hid kB; have HO1 := Lib.hid kO; have HF1 := Lib.hid (HF0.out.trans' (Frame.of_grown (S := fun _ => False) hg1 (by simp [Value.ownBlock])) (fun _ _ e => e.elim)); have HOwn := Lib.hid hown1; clear kB kO hg1 hat1 hown1))
  have hs1w := HF1.out.size
  have hBne : ∀ v : Value, (∀ g, v.ownBlock = some g → w.heap.size ≤ g) → v.ownBlock ≠ some B := fun v hv e => by have := hv B e; omega
  have hav : (Value.slice A1 k cc).ownBlock ≠ some B := hBne _ (fun g hg => (HOwn.out.lt g hg).1)
  have hA2 := (HB1.out.set_ 23 (.slice A1 k cc)).set_ 24 (.int .u32 a.rxmt)
  have hOwn2 : ((w1.setCell ⟨B, 23, none⟩ (.slice A1 k cc)).setCell ⟨B, 24, none⟩ (.int .u32 a.rxmt)).ownsRow w.heap.size 56 3 (.slice A1 k cc) k ((O.take k).flatMap kcells) := own_far (own_far HOwn.out (q := ⟨B, 23, none⟩) hav _) (q := ⟨B, 24, none⟩) hav _
  have hF2 := (HF1.out.setB 23 (.slice A1 k cc)).setB 24 (.int .u32 a.rxmt)
  have hO2 := (HO1.out.far (p := ⟨B, 23, none⟩) (by simp; omega) (.slice A1 k cc)).far (p := ⟨B, 24, none⟩) (by simp; omega) (.int .u32 a.rxmt)
  have HA2 := Lib.hid hA2
  have HOwn2 := Lib.hid hOwn2
  have HF2 := Lib.hid hF2
  have HO2 := Lib.hid hO2
  have hbase2 : w.heap.size ≤ ((w1.setCell ⟨B, 23, none⟩ (.slice A1 k cc)).setCell ⟨B, 24, none⟩ (.int .u32 a.rxmt)).heap.size := hF2.size
  clear hA2 hOwn2 hF2 hO2 hs1w hBne hav HB1 HO1 HF1 HRK HB0 HO0 HF0 c5 c21 c23 c24
  go_wp2_with (at_builtin; refine wpList_append_any _ rfl (.const (.slice none 0 0)) (.tmp 30) _ rfl w.heap.size 56 i0 _ 3 12 Try.underlying38 hi hz0 hz1 hz2 rfl (by omega) (.slice none 0 0) 0 [] rfl (World.ownsRow_nil _ _ _ _) _ A1 k cc ((O.take k).flatMap kcells) rfl (Reads.of_own HOwn2.out) kcells_one h63 hbytes hbase2 ?_; intro v2 w3 hown3 hg3 hat3; rw [List.nil_append, Nat.zero_add] at hown3; obtain ⟨A3, cc3, hv3⟩ := own_slice hown3; subst hv3; have kO3 := HO2.out.grown hg3 (by simp [Value.ownBlock]); have f3 := kO3.frozen; have g0 : w3.cell? ⟨w.heap.size, 0, none⟩ = some (.bool false) := kO3.cell 0; have g1 : w3.cell? ⟨w.heap.size, 1, none⟩ = some (.int .u16 0) := kO3.cell 1; have g2 : w3.cell? ⟨w.heap.size, 2, none⟩ = some (.int .u8 0) := kO3.cell 2; have g3 : w3.cell? ⟨w.heap.size, 3, none⟩ = some (.int .u8 0) := kO3.cell 3; have g4 : w3.cell? ⟨w.heap.size, 4, none⟩ = some (.int .u32 0) := kO3.cell 4; have g5 : w3.cell? ⟨w.heap.size, 5, none⟩ = some (.slice none 0 0) := kO3.cell 5; have g6 : w3.cell? ⟨w.heap.size, 6, none⟩ = some (.slice none 0 0) := kO3.cell 6; have HO3 := Lib.hid kO3; have HG3 := Lib.hid hg3; have HAT3 := Lib.hid hat3; have HOwn3 := Lib.hid hown3; clear kO3 hg3 hat3 hown3)
  refine bodyPost_ret (v := outval false 0 0 0 0 (.slice none 0 0) (.slice A3 k cc3)) (by simp [results, Try.results54, go_sem, g0, g1, g2, g3, g4, g5, g6, outval]) rfl ?_
  have hF3 : Frame (fun j => j = w.heap.size) w3 (((((((w3.setCell ⟨w.heap.size, 0, none⟩ (.bool false)).setCell ⟨w.heap.size, 1, none⟩ (.int .u16 0)).setCell ⟨w.heap.size, 2, none⟩ (.int .u8 0)).setCell ⟨w.heap.size, 3, none⟩ (.int .u8 0)).setCell ⟨w.heap.size, 4, none⟩ (.int .u32 0)).setCell ⟨w.heap.size, 5, none⟩ (.slice none 0 0)).setCell ⟨w.heap.size, 6, none⟩ (.slice A3 k cc3)) :=
    ((((((((Frame.refl _ w3).setB 0 _).setB 1 _).setB 2 _).setB 3 _).setB 4 _).setB 5 _).setB 6 _)
  have hT : O.take k = O.take 16 := by
    rw [← Hk.out]
    rcases Nat.le_total O.length 16 with h | h
    · rw [Nat.min_eq_left h, List.take_of_length_le (Nat.le_refl _), List.take_of_length_le h]
    · rw [Nat.min_eq_right h]
  have hL : (O.take 16).length = k := by rw [List.length_take, Nat.min_comm]; exact Hk.out
  have o1 := hF3.own (HOwn2.out.kept HG3.out (by cases hb : (Value.slice A1 k cc).ownBlock <;> simp [Value.ownBlock])) (fun g hg e => own_blk_ne (HOwn2.out.kept HG3.out (by cases hb : (Value.slice A1 k cc).ownBlock <;> simp [Value.ownBlock])) HO3.out (by decide) (by rw [hg, e]))
  have o3 := hF3.own HOwn3.out (fun g hg e => own_blk_ne HOwn3.out HO3.out (by decide) (by rw [hg, e]))
  refine ⟨.slice A3 k cc3, .slice A1 k cc, rfl, hF3.blk (HA2.out.grown HG3.out (by simp [Value.ownBlock])) (by omega), ?_, ?_, ?_, ?_⟩
  · show World.ownsRow _ _ _ _ _ _ _
    rw [hL, ← hT]; exact o1
  · show World.ownsRow _ _ _ _ _ _ _
    rw [hL, ← hT]; exact o3
  · rcases HAT3.out with e | e
    · cases hb : (Value.slice A1 k cc).ownBlock
      · exact .inl rfl
      · right; rw [e]; simp [Value.ownBlock]
    · right
      intro e2
      have := (HOwn2.out.lt _ (e2.trans e)).2
      omega
  · exact (HF2.out.trans (Frame.of_grown HG3.out (by simp [Value.ownBlock]))).trans' hF3 (fun i hi e => by omega)
end Go.Proofs.Ytgbmhijgpdgdbaa
