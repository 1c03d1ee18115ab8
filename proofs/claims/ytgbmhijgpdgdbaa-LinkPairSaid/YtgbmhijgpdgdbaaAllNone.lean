/- The iterator over neighbours none of whom is heard, asked for those that are: it gives nothing. -/
import Derived.Test.YtgbmhijgpdgdbaaQuiet13
import Derived.RangeFuncBox
import Derived.RangeFuncLeaves
import Derived.RangeFuncFrom
import Derived.RangeFuncNested
import Derived.RangeFuncBound
import Derived.RangeFuncCalls
import Derived.Shelf.Abstract
import Derived.Shelf.RegionOpen
import Derived.WalkKit
import Derived.OwnWalkIn
import Derived.TacticsInMore
import Derived.LoopNIn
import Derived.LoopIn
import Derived.Test.YtgbmhijgpdgdbaaPrefix13
namespace Go.Proofs.Ytgbmhijgpdgdbaa
open Go.RowKit

/-- Is a peer sent to? -/
def dueV (c : LC) (st dr bd : Int) (pb : Bool) (ks ka kp : Int) : Bool :=
  if pb != (ks == 0) then false else if c.ty == 2 then true else if pb then decide (0 < c.pr) && decide (0 < kp) else if c.pr == 0 then ka == dr || ka == bd else decide (0 < kp) || decide (5 ≤ st)

set_option maxHeartbeats 4000000 in
set_option maxRecDepth 20000 in
theorem due_any (w : World) (B K : Nat) (c : LC) (st dr bd wt nx po re : Int) (l : Value) (pb : Bool) (ks ka kp : Int) (k : Blk w B 119 (lks c st dr bd wt nx po re l)) (k1 : w.cell? ⟨K, 1, none⟩ = some (.int .u32 ka)) (k2 : w.cell? ⟨K, 2, none⟩ = some (.int .u8 ks)) (k3 : w.cell? ⟨K, 3, none⟩ = some (.int .u8 kp)) :
    Calls Try.prog 104 #[.pointer (some ⟨B, 0, none⟩), .pointer (some ⟨K, 0, none⟩), .bool pb] w fun e w' => e = .returned (.bool (dueV c st dr bd pb ks ka kp)) ∧ ∃ q, w' = w.drewN q := by
  have c1 : w.cell? ⟨B, 1, none⟩ = some (.int .u8 c.ty) := k.cell 1
  have c10 : w.cell? ⟨B, 10, none⟩ = some (.int .u8 c.pr) := k.cell 10
  have c15 : w.cell? ⟨B, 15, none⟩ = some (.int .u8 st) := k.cell 15
  have c16 : w.cell? ⟨B, 16, none⟩ = some (.int .u32 dr) := k.cell 16
  have c17 : w.cell? ⟨B, 17, none⟩ = some (.int .u32 bd) := k.cell 17
  clear k
  rcases Bool.eq_false_or_eq_true (ks == 0) with s1 | s1 <;> rcases Bool.eq_false_or_eq_true pb with rfl | rfl
  all_goals (try (
    go_enter Try.func104, Try.ntmps104
    go_wp2_with fail
    go_ret
    refine ⟨?_, 0, rfl⟩
    simp [dueV, s1]
    done))
  all_goals (rcases Bool.eq_false_or_eq_true (c.ty == 2) with s2 | s2)
  all_goals (try (
    go_enter Try.func104, Try.ntmps104
    go_wp2_with fail
    go_ret
    refine ⟨?_, 0, rfl⟩
    simp [dueV, s1, s2]
    done))
  · by_cases s3 : 0 < c.pr
    · go_enter Try.func104, Try.ntmps104
      go_wp2_with fail
      go_ret
      refine ⟨?_, 0, rfl⟩
      simp [dueV, s1, s2]
      try omega
    · go_enter Try.func104, Try.ntmps104
      go_wp2_with fail
      go_ret
      refine ⟨?_, 0, rfl⟩
      simp [dueV, s1, s2]
      omega
  · rcases Bool.eq_false_or_eq_true (c.pr == 0) with s3 | s3
    · rcases Bool.eq_false_or_eq_true (ka == dr) with s4 | s4
      all_goals
        go_enter Try.func104, Try.ntmps104
        go_wp2_with fail
        go_quiet (fail)
        go_wp2_with fail
        go_ret
        refine ⟨?_, _, rfl⟩
        simp [dueV, s1, s2, s3, s4]
    · by_cases s4 : 0 < kp
      · go_enter Try.func104, Try.ntmps104
        go_wp2_with fail
        go_ret
        refine ⟨?_, 0, rfl⟩
        simp [dueV, s1, s2, s3, s4]
      · go_enter Try.func104, Try.ntmps104
        go_wp2_with fail
        go_ret
        refine ⟨?_, 0, rfl⟩
        simp [dueV, s1, s2, s3]
        omega

set_option maxHeartbeats 400000 in
/-- The question of a round. -/
theorem round1_any (w : World) (B K Bl Bp : Nat) (c : LC) (st dr bd wt nx po re : Int) (l : Value) (pb : Bool) (ks ka kp : Int) (k : Blk w B 119 (lks c st dr bd wt nx po re l)) (k1 : w.cell? ⟨K, 1, none⟩ = some (.int .u32 ka)) (k2 : w.cell? ⟨K, 2, none⟩ = some (.int .u8 ks)) (k3 : w.cell? ⟨K, 3, none⟩ = some (.int .u8 kp))
    (h1 : w.cell? ⟨Bl, 0, none⟩ = some (.pointer (some ⟨B, 0, none⟩))) (h2 : w.cell? ⟨Bp, 0, none⟩ = some (.bool pb)) :
    Calls Try.prog 103 #[.pointer (some ⟨K, 0, none⟩), .pointer (some ⟨Bl, 0, none⟩), .pointer (some ⟨Bp, 0, none⟩)] w fun e w' => e = .returned (.bool (dueV c st dr bd pb ks ka kp)) ∧ ∃ q, w' = w.drewN q := by
  have KB := Lib.hid k
  clear k
  go_enter Try.func103, Try.ntmps103
  go_wp2_with fail
  refine (due_any _ B K c st dr bd wt nx po re l pb ks ka kp KB.out k1 k2 k3).mono ?_
  rintro e w' ⟨rfl, q, rfl⟩
  go_wp2_with fail
  go_ret
  refine ⟨?_, q, rfl⟩
  cases dueV c st dr bd pb ks ka kp <;> simp
end Go.Proofs.Ytgbmhijgpdgdbaa

namespace Go.Proofs.Ytgbmhijgpdgdbaa
open Go.RowKit Go.Shelf

attribute [local go_sem] Oper.semAt_some

theorem grownBy_drewN (w : World) (q : Nat) : w.grownBy (w.drewN q) none := ⟨rfl, rfl, rfl, Nat.le_refl _, fun _ _ _ => rfl⟩

/-- A good world: what the iterator and its question lean on. -/
structure Good {α : Type} (G : World → Prop) (enc : α → Nat) (B Bl Bi L : Nat) (f : Value) (row : List α) (cap : Nat) : Prop where
  d : ∀ W q, G W → G (W.drewN q)
  h1 : ∀ W, G W → W.cell? ⟨Bl, 0, none⟩ = some (.pointer (some ⟨B, 0, none⟩))
  h2 : ∀ W, G W → W.cell? ⟨B, 22, none⟩ = some (.slice (some ⟨L, 0, none⟩) row.length cap)
  hi : ∀ W, G W → W.cell? ⟨Bi, 0, none⟩ = some f
  hr : ∀ W, G W → ∀ j x, row[j]? = some x → W.cell? ⟨L, j, none⟩ = some (.pointer (some ⟨enc x, 0, none⟩))

set_option maxRecDepth 100000 in
set_option maxHeartbeats 2000000 in
theorem all_in_round {α : Type} (n : Nat) (hn : 1 ≤ n) (G : World → Prop) (enc : α → Nat) (is : α → Bool) (l B Bl Bi L cap : Nat) (C0 C1 : Nat) (row : List α) (hlen : row.length ≤ 100000)
    (g : Good G enc B Bl Bi L (.func (.func 103) #[] #[.pointer (some ⟨C0, 0, none⟩), .pointer (some ⟨C1, 0, none⟩)]) row cap)
    (hq : ∀ W x, G W → x ∈ row → Calls Try.prog 103 #[.pointer (some ⟨enc x, 0, none⟩), .pointer (some ⟨C0, 0, none⟩), .pointer (some ⟨C1, 0, none⟩)] W fun e w' => e = .returned (.bool (is x)) ∧ ∃ q, w' = W.drewN q)
    (J Jx : List α → World → Prop) (W : World) (hG : G W) (hJa : AbidesFrom W.heap.size J)
    (hY : ∀ pre x W1, J pre W1 → pre.length < row.length → YieldAt Fence.wide (n - 1) Try.prog l #[.pointer (some ⟨enc x, 0, none⟩)] W1 fun e W' =>
      (e = .returned (.bool true) ∧ J (pre ++ [x]) W' ∧ (G W1 → G W')) ∨ (e = .returned (.bool false) ∧ Jx (pre ++ [x]) W'))
    (h0 : J [] W) :
    CallsIn Fence.wide n Try.prog 124 #[.func (.yield l) #[] #[], .pointer (some ⟨Bl, 0, none⟩), .pointer (some ⟨Bi, 0, none⟩)] W fun e W' => (∃ v, e = .returned v) ∧ (J (row.filter is) W' ∨ (∃ pre, pre <+: row.filter is ∧ Jx pre W')) := by
  have HQ := Lib.hid hq
  have HY := Lib.hid hY
  have HJa := Lib.hid hJa
  have HG := Lib.hid g
  have a1 : W.cell? ⟨Bl, 0, none⟩ = some (.pointer (some ⟨B, 0, none⟩)) := g.h1 W hG
  have c22 : W.cell? ⟨B, 22, none⟩ = some (.slice (some ⟨L, 0, none⟩) row.length cap) := g.h2 W hG
  clear g hq hY hJa
  refine callsIn_of_wp Try.func124 rfl trivial ?_ rfl
  simp only [Try.ntmps124, List.size_toArray, List.length_cons, List.length_nil, Nat.reduceAdd, Nat.reduceSub, Array.replicate_succ, Array.replicate_zero, List.push_toArray, List.append_toArray, List.nil_append, List.cons_append]
  gi_wp2
  gi_loopw [11] (fun i wr => ∃ k : Nat, k ≤ row.length ∧ i = .int .i64 k ∧ J ((row.take k).filter is) wr ∧ G wr)
    (fun i _ => row.length - (intOf i).toNat)
  case atStart => exact ⟨0, Nat.zero_le _, rfl, by simpa using h0, hG⟩
  case round =>
    obtain ⟨k, hk, rfl, hJs, hGr⟩ := hrel
    have HJs := Lib.hid hJs
    clear hJs
    have b1 : wr.cell? ⟨Bi, 0, none⟩ = some (.func (.func 103) #[] #[.pointer (some ⟨C0, 0, none⟩), .pointer (some ⟨C1, 0, none⟩)]) := HG.out.hi wr hGr
    by_cases hlt : k < row.length
    · obtain ⟨x, hx⟩ : ∃ x, row[k]? = some x := ⟨_, List.getElem?_eq_getElem hlt⟩
      have htk : row.take (k + 1) = row.take k ++ [x] := by rw [List.take_add_one, hx]; rfl
      have hlk : ((row.take k).filter is).length ≤ k := Nat.le_trans (List.length_filter_le _ _) (by simp; omega)
      have b2 : wr.cell? ⟨L, k, none⟩ = some (.pointer (some ⟨enc x, 0, none⟩)) := HG.out.hr wr hGr k x hx
      have HR1 := Lib.hid (HQ.out wr x hGr (List.mem_of_getElem? hx))
      have HTK := Lib.hid htk
      clear htk
      gi_wp2_with fail
      refine ⟨trivial, (callsIn_wide.2 HR1.out).mono ?_⟩
      rintro e w' ⟨rfl, q, rfl⟩
      have hJq : J ((row.take k).filter is) (wr.drewN q) := HJa.out _ wr _ none HJs.out (grownBy_drewN wr q) (fun r e => by cases e)
      obtain ⟨fn, tmps, assign, body, hy, hR⟩ := HY.out _ x (wr.drewN q) hJq (by omega)
      have HIS : ∃ b, b = is x := ⟨_, rfl⟩
      obtain ⟨b, hb⟩ := HIS
      rw [← hb]
      have HB := Lib.hid hb
      clear hb
      cases b with
      | false =>
        gi_wp2_with fail
        refine ⟨fun _ h => (by cases h), ?_⟩
        gi_wp2_with fail
        go_roundw
        case rel => exact ⟨k + 1, by omega, by simp, by rw [HTK.out, List.filter_append, List.filter_cons_of_neg (by simp [← HB.out]), List.filter_nil, List.append_nil]; exact hJq, HG.out.d _ _ hGr⟩
        case measure => simp [intOf]; omega
      | true =>
        have hfe : (row.take (k + 1)).filter is = (row.take k).filter is ++ [x] := by rw [HTK.out, List.filter_append, List.filter_cons_of_pos (by simp [← HB.out]), List.filter_nil]
        have HFE := Lib.hid hfe
        clear hfe
        gi_wp2_with fail
        refine hR.mono ?_
        rintro e W3 (⟨rfl, hJ3, hk3⟩ | ⟨rfl, hJx3⟩)
        · gi_wp2_with fail
          go_roundw
          case rel => exact ⟨k + 1, by omega, by simp, by rw [HFE.out]; exact hJ3, hk3 (HG.out.d _ _ hGr)⟩
          case measure => simp [intOf]; omega
        · gi_wp2_with fail
          refine bodyPost_ret (results_none rfl _ _ _) rfl ?_
          exact ⟨⟨_, rfl⟩, .inr ⟨_, HFE.out ▸ ((List.take_prefix (k + 1) row).filter is), hJx3⟩⟩
    · obtain rfl : k = row.length := by omega
      gi_wp2_with fail
      go_end0
      exact ⟨⟨_, rfl⟩, .inl (by have := HJs.out; rwa [List.take_length] at this)⟩

theorem all_stops_round {α : Type} (n : Nat) (hn : 1 ≤ n) (w0 : World) (G : World → Prop) (enc : α → Nat) (is : α → Bool) (B Bl Bi L cap : Nat) (C0 C1 : Nat) (row : List α) (hlen : row.length ≤ 100000)
    (g : Good G enc B Bl Bi L (.func (.func 103) #[] #[.pointer (some ⟨C0, 0, none⟩), .pointer (some ⟨C1, 0, none⟩)]) row cap) (hG : ∀ W, Below w0.heap.size w0 W → G W)
    (hq : ∀ W x, G W → x ∈ row → Calls Try.prog 103 #[.pointer (some ⟨enc x, 0, none⟩), .pointer (some ⟨C0, 0, none⟩), .pointer (some ⟨C1, 0, none⟩)] W fun e w' => e = .returned (.bool (is x)) ∧ ∃ q, w' = W.drewN q) :
    SeqStopsK Fence.wide n Try.prog 124 #[.pointer (some ⟨Bl, 0, none⟩), .pointer (some ⟨Bi, 0, none⟩)] (fun x : α => #[.pointer (some ⟨enc x, 0, none⟩)]) (fun A B => G A → G B) (fun ys => ys = row.filter is) (fun pre => pre <+: row.filter is) row.length w0 := by
  intro l J Jx W hW hJ _ hY h0
  refine (all_in_round n hn G enc is l B Bl Bi L cap C0 C1 row hlen g hq J Jx W (hG W hW) hJ hY h0).mono ?_
  rintro e W' ⟨hv, h | ⟨pre, hp, h⟩⟩
  · exact ⟨hv, .inl ⟨_, rfl, h⟩⟩
  · exact ⟨hv, .inr ⟨pre, hp, h⟩⟩
end Go.Proofs.Ytgbmhijgpdgdbaa

namespace Go.Proofs.Ytgbmhijgpdgdbaa
open Go.RowKit Go.Shelf

attribute [local go_sem] Oper.semAt_some

theorem attach_filter_map {α β : Type} (xs : List α) (p : α → Bool) (f : α → β) : (xs.attach.filter (fun x => p x.1)).map (fun x => f x.1) = (xs.filter p).map f := by
  have h : (xs.attach.map Subtype.val) = xs := List.attach_map_subtype_val xs
  conv => rhs; rw [← h]
  rw [List.filter_map, List.map_map]
  rfl

set_option maxRecDepth 100000 in
set_option maxHeartbeats 2000000 in
theorem all_in_hello {α : Type} (n : Nat) (hn : 1 ≤ n) (G : World → Prop) (enc : α → Nat) (is : α → Bool) (l B Bl Bi L cap : Nat) (row : List α) (hlen : row.length ≤ 100000)
    (g : Good G enc B Bl Bi L (.func (.func 108) #[] #[]) row cap)
    (hq : ∀ W x, G W → x ∈ row → Calls Try.prog 108 #[.pointer (some ⟨enc x, 0, none⟩)] W fun e w' => e = .returned (.bool (is x)) ∧ ∃ q, w' = W.drewN q)
    (J Jx : List α → World → Prop) (W : World) (hG : G W) (hJa : AbidesFrom W.heap.size J)
    (hY : ∀ pre x W1, J pre W1 → pre.length < row.length → YieldAt Fence.wide (n - 1) Try.prog l #[.pointer (some ⟨enc x, 0, none⟩)] W1 fun e W' =>
      (e = .returned (.bool true) ∧ J (pre ++ [x]) W' ∧ (G W1 → G W')) ∨ (e = .returned (.bool false) ∧ Jx (pre ++ [x]) W'))
    (h0 : J [] W) :
    CallsIn Fence.wide n Try.prog 124 #[.func (.yield l) #[] #[], .pointer (some ⟨Bl, 0, none⟩), .pointer (some ⟨Bi, 0, none⟩)] W fun e W' => (∃ v, e = .returned v) ∧ (J (row.filter is) W' ∨ (∃ pre, pre <+: row.filter is ∧ Jx pre W')) := by
  have HQ := Lib.hid hq
  have HY := Lib.hid hY
  have HJa := Lib.hid hJa
  have HG := Lib.hid g
  have a1 : W.cell? ⟨Bl, 0, none⟩ = some (.pointer (some ⟨B, 0, none⟩)) := g.h1 W hG
  have c22 : W.cell? ⟨B, 22, none⟩ = some (.slice (some ⟨L, 0, none⟩) row.length cap) := g.h2 W hG
  clear g hq hY hJa
  refine callsIn_of_wp Try.func124 rfl trivial ?_ rfl
  simp only [Try.ntmps124, List.size_toArray, List.length_cons, List.length_nil, Nat.reduceAdd, Nat.reduceSub, Array.replicate_succ, Array.replicate_zero, List.push_toArray, List.append_toArray, List.nil_append, List.cons_append]
  gi_wp2
  gi_loopw [11] (fun i wr => ∃ k : Nat, k ≤ row.length ∧ i = .int .i64 k ∧ J ((row.take k).filter is) wr ∧ G wr)
    (fun i _ => row.length - (intOf i).toNat)
  case atStart => exact ⟨0, Nat.zero_le _, rfl, by simpa using h0, hG⟩
  case round =>
    obtain ⟨k, hk, rfl, hJs, hGr⟩ := hrel
    have HJs := Lib.hid hJs
    clear hJs
    have b1 : wr.cell? ⟨Bi, 0, none⟩ = some (.func (.func 108) #[] #[]) := HG.out.hi wr hGr
    by_cases hlt : k < row.length
    · obtain ⟨x, hx⟩ : ∃ x, row[k]? = some x := ⟨_, List.getElem?_eq_getElem hlt⟩
      have htk : row.take (k + 1) = row.take k ++ [x] := by rw [List.take_add_one, hx]; rfl
      have hlk : ((row.take k).filter is).length ≤ k := Nat.le_trans (List.length_filter_le _ _) (by simp; omega)
      have b2 : wr.cell? ⟨L, k, none⟩ = some (.pointer (some ⟨enc x, 0, none⟩)) := HG.out.hr wr hGr k x hx
      have HR1 := Lib.hid (HQ.out wr x hGr (List.mem_of_getElem? hx))
      have HTK := Lib.hid htk
      clear htk
      gi_wp2_with fail
      refine ⟨trivial, (callsIn_wide.2 HR1.out).mono ?_⟩
      rintro e w' ⟨rfl, q, rfl⟩
      have hJq : J ((row.take k).filter is) (wr.drewN q) := HJa.out _ wr _ none HJs.out (grownBy_drewN wr q) (fun r e => by cases e)
      obtain ⟨fn, tmps, assign, body, hy, hR⟩ := HY.out _ x (wr.drewN q) hJq (by omega)
      have HIS : ∃ b, b = is x := ⟨_, rfl⟩
      obtain ⟨b, hb⟩ := HIS
      rw [← hb]
      have HB := Lib.hid hb
      clear hb
      cases b with
      | false =>
        gi_wp2_with fail
        refine ⟨fun _ h => (by cases h), ?_⟩
        gi_wp2_with fail
        go_roundw
        case rel => exact ⟨k + 1, by omega, by simp, by rw [HTK.out, List.filter_append, List.filter_cons_of_neg (by simp [← HB.out]), List.filter_nil, List.append_nil]; exact hJq, HG.out.d _ _ hGr⟩
        case measure => simp [intOf]; omega
      | true =>
        have hfe : (row.take (k + 1)).filter is = (row.take k).filter is ++ [x] := by rw [HTK.out, List.filter_append, List.filter_cons_of_pos (by simp [← HB.out]), List.filter_nil]
        have HFE := Lib.hid hfe
        clear hfe
        gi_wp2_with fail
        refine hR.mono ?_
        rintro e W3 (⟨rfl, hJ3, hk3⟩ | ⟨rfl, hJx3⟩)
        · gi_wp2_with fail
          go_roundw
          case rel => exact ⟨k + 1, by omega, by simp, by rw [HFE.out]; exact hJ3, hk3 (HG.out.d _ _ hGr)⟩
          case measure => simp [intOf]; omega
        · gi_wp2_with fail
          refine bodyPost_ret (results_none rfl _ _ _) rfl ?_
          exact ⟨⟨_, rfl⟩, .inr ⟨_, HFE.out ▸ ((List.take_prefix (k + 1) row).filter is), hJx3⟩⟩
    · obtain rfl : k = row.length := by omega
      gi_wp2_with fail
      go_end0
      exact ⟨⟨_, rfl⟩, .inl (by have := HJs.out; rwa [List.take_length] at this)⟩

theorem all_stops_hello {α : Type} (n : Nat) (hn : 1 ≤ n) (w0 : World) (G : World → Prop) (enc : α → Nat) (is : α → Bool) (B Bl Bi L cap : Nat) (row : List α) (hlen : row.length ≤ 100000)
    (g : Good G enc B Bl Bi L (.func (.func 108) #[] #[]) row cap) (hG : ∀ W, Below w0.heap.size w0 W → G W)
    (hq : ∀ W x, G W → x ∈ row → Calls Try.prog 108 #[.pointer (some ⟨enc x, 0, none⟩)] W fun e w' => e = .returned (.bool (is x)) ∧ ∃ q, w' = W.drewN q) :
    SeqStopsK Fence.wide n Try.prog 124 #[.pointer (some ⟨Bl, 0, none⟩), .pointer (some ⟨Bi, 0, none⟩)] (fun x : α => #[.pointer (some ⟨enc x, 0, none⟩)]) (fun A B => G A → G B) (fun ys => ys = row.filter is) (fun pre => pre <+: row.filter is) row.length w0 := by
  intro l J Jx W hW hJ _ hY h0
  refine (all_in_hello n hn G enc is l B Bl Bi L cap row hlen g hq J Jx W (hG W hW) hJ hY h0).mono ?_
  rintro e W' ⟨hv, h | ⟨pre, hp, h⟩⟩
  · exact ⟨hv, .inl ⟨_, rfl, h⟩⟩
  · exact ⟨hv, .inr ⟨pre, hp, h⟩⟩

set_option maxRecDepth 100000 in
set_option maxHeartbeats 2000000 in
theorem all_in_elect1 {α : Type} (n : Nat) (hn : 1 ≤ n) (G : World → Prop) (enc : α → Nat) (is : α → Bool) (l B Bl Bi L cap : Nat) (row : List α) (hlen : row.length ≤ 100000)
    (g : Good G enc B Bl Bi L (.func (.func 110) #[] #[]) row cap)
    (hq : ∀ W x, G W → x ∈ row → Calls Try.prog 110 #[.pointer (some ⟨enc x, 0, none⟩)] W fun e w' => e = .returned (.bool (is x)) ∧ ∃ q, w' = W.drewN q)
    (J Jx : List α → World → Prop) (W : World) (hG : G W) (hJa : AbidesFrom W.heap.size J)
    (hY : ∀ pre x W1, J pre W1 → pre.length < row.length → YieldAt Fence.wide (n - 1) Try.prog l #[.pointer (some ⟨enc x, 0, none⟩)] W1 fun e W' =>
      (e = .returned (.bool true) ∧ J (pre ++ [x]) W' ∧ (G W1 → G W')) ∨ (e = .returned (.bool false) ∧ Jx (pre ++ [x]) W'))
    (h0 : J [] W) :
    CallsIn Fence.wide n Try.prog 124 #[.func (.yield l) #[] #[], .pointer (some ⟨Bl, 0, none⟩), .pointer (some ⟨Bi, 0, none⟩)] W fun e W' => (∃ v, e = .returned v) ∧ (J (row.filter is) W' ∨ (∃ pre, pre <+: row.filter is ∧ Jx pre W')) := by
  have HQ := Lib.hid hq
  have HY := Lib.hid hY
  have HJa := Lib.hid hJa
  have HG := Lib.hid g
  have a1 : W.cell? ⟨Bl, 0, none⟩ = some (.pointer (some ⟨B, 0, none⟩)) := g.h1 W hG
  have c22 : W.cell? ⟨B, 22, none⟩ = some (.slice (some ⟨L, 0, none⟩) row.length cap) := g.h2 W hG
  clear g hq hY hJa
  refine callsIn_of_wp Try.func124 rfl trivial ?_ rfl
  simp only [Try.ntmps124, List.size_toArray, List.length_cons, List.length_nil, Nat.reduceAdd, Nat.reduceSub, Array.replicate_succ, Array.replicate_zero, List.push_toArray, List.append_toArray, List.nil_append, List.cons_append]
  gi_wp2
  gi_loopw [11] (fun i wr => ∃ k : Nat, k ≤ row.length ∧ i = .int .i64 k ∧ J ((row.take k).filter is) wr ∧ G wr)
    (fun i _ => row.length - (intOf i).toNat)
  case atStart => exact ⟨0, Nat.zero_le _, rfl, by simpa using h0, hG⟩
  case round =>
    obtain ⟨k, hk, rfl, hJs, hGr⟩ := hrel
    have HJs := Lib.hid hJs
    clear hJs
    have b1 : wr.cell? ⟨Bi, 0, none⟩ = some (.func (.func 110) #[] #[]) := HG.out.hi wr hGr
    by_cases hlt : k < row.length
    · obtain ⟨x, hx⟩ : ∃ x, row[k]? = some x := ⟨_, List.getElem?_eq_getElem hlt⟩
      have htk : row.take (k + 1) = row.take k ++ [x] := by rw [List.take_add_one, hx]; rfl
      have hlk : ((row.take k).filter is).length ≤ k := Nat.le_trans (List.length_filter_le _ _) (by simp; omega)
      have b2 : wr.cell? ⟨L, k, none⟩ = some (.pointer (some ⟨enc x, 0, none⟩)) := HG.out.hr wr hGr k x hx
      have HR1 := Lib.hid (HQ.out wr x hGr (List.mem_of_getElem? hx))
      have HTK := Lib.hid htk
      clear htk
      gi_wp2_with fail
      refine ⟨trivial, (callsIn_wide.2 HR1.out).mono ?_⟩
      rintro e w' ⟨rfl, q, rfl⟩
      have hJq : J ((row.take k).filter is) (wr.drewN q) := HJa.out _ wr _ none HJs.out (grownBy_drewN wr q) (fun r e => by cases e)
      obtain ⟨fn, tmps, assign, body, hy, hR⟩ := HY.out _ x (wr.drewN q) hJq (by omega)
      have HIS : ∃ b, b = is x := ⟨_, rfl⟩
      obtain ⟨b, hb⟩ := HIS
      rw [← hb]
      have HB := Lib.hid hb
      clear hb
      cases b with
      | false =>
        gi_wp2_with fail
        refine ⟨fun _ h => (by cases h), ?_⟩
        gi_wp2_with fail
        go_roundw
        case rel => exact ⟨k + 1, by omega, by simp, by rw [HTK.out, List.filter_append, List.filter_cons_of_neg (by simp [← HB.out]), List.filter_nil, List.append_nil]; exact hJq, HG.out.d _ _ hGr⟩
        case measure => simp [intOf]; omega
      | true =>
        have hfe : (row.take (k + 1)).filter is = (row.take k).filter is ++ [x] := by rw [HTK.out, List.filter_append, List.filter_cons_of_pos (by simp [← HB.out]), List.filter_nil]
        have HFE := Lib.hid hfe
        clear hfe
        gi_wp2_with fail
        refine hR.mono ?_
        rintro e W3 (⟨rfl, hJ3, hk3⟩ | ⟨rfl, hJx3⟩)
        · gi_wp2_with fail
          go_roundw
          case rel => exact ⟨k + 1, by omega, by simp, by rw [HFE.out]; exact hJ3, hk3 (HG.out.d _ _ hGr)⟩
          case measure => simp [intOf]; omega
        · gi_wp2_with fail
          refine bodyPost_ret (results_none rfl _ _ _) rfl ?_
          exact ⟨⟨_, rfl⟩, .inr ⟨_, HFE.out ▸ ((List.take_prefix (k + 1) row).filter is), hJx3⟩⟩
    · obtain rfl : k = row.length := by omega
      gi_wp2_with fail
      go_end0
      exact ⟨⟨_, rfl⟩, .inl (by have := HJs.out; rwa [List.take_length] at this)⟩

theorem all_stops_elect1 {α : Type} (n : Nat) (hn : 1 ≤ n) (w0 : World) (G : World → Prop) (enc : α → Nat) (is : α → Bool) (B Bl Bi L cap : Nat) (row : List α) (hlen : row.length ≤ 100000)
    (g : Good G enc B Bl Bi L (.func (.func 110) #[] #[]) row cap) (hG : ∀ W, Below w0.heap.size w0 W → G W)
    (hq : ∀ W x, G W → x ∈ row → Calls Try.prog 110 #[.pointer (some ⟨enc x, 0, none⟩)] W fun e w' => e = .returned (.bool (is x)) ∧ ∃ q, w' = W.drewN q) :
    SeqStopsK Fence.wide n Try.prog 124 #[.pointer (some ⟨Bl, 0, none⟩), .pointer (some ⟨Bi, 0, none⟩)] (fun x : α => #[.pointer (some ⟨enc x, 0, none⟩)]) (fun A B => G A → G B) (fun ys => ys = row.filter is) (fun pre => pre <+: row.filter is) row.length w0 := by
  intro l J Jx W hW hJ _ hY h0
  refine (all_in_elect1 n hn G enc is l B Bl Bi L cap row hlen g hq J Jx W (hG W hW) hJ hY h0).mono ?_
  rintro e W' ⟨hv, h | ⟨pre, hp, h⟩⟩
  · exact ⟨hv, .inl ⟨_, rfl, h⟩⟩
  · exact ⟨hv, .inr ⟨pre, hp, h⟩⟩

set_option maxRecDepth 100000 in
set_option maxHeartbeats 2000000 in
theorem all_in_elect2 {α : Type} (n : Nat) (hn : 1 ≤ n) (G : World → Prop) (enc : α → Nat) (is : α → Bool) (l B Bl Bi L cap : Nat) (row : List α) (hlen : row.length ≤ 100000)
    (g : Good G enc B Bl Bi L (.func (.func 112) #[] #[]) row cap)
    (hq : ∀ W x, G W → x ∈ row → Calls Try.prog 112 #[.pointer (some ⟨enc x, 0, none⟩)] W fun e w' => e = .returned (.bool (is x)) ∧ ∃ q, w' = W.drewN q)
    (J Jx : List α → World → Prop) (W : World) (hG : G W) (hJa : AbidesFrom W.heap.size J)
    (hY : ∀ pre x W1, J pre W1 → pre.length < row.length → YieldAt Fence.wide (n - 1) Try.prog l #[.pointer (some ⟨enc x, 0, none⟩)] W1 fun e W' =>
      (e = .returned (.bool true) ∧ J (pre ++ [x]) W' ∧ (G W1 → G W')) ∨ (e = .returned (.bool false) ∧ Jx (pre ++ [x]) W'))
    (h0 : J [] W) :
    CallsIn Fence.wide n Try.prog 124 #[.func (.yield l) #[] #[], .pointer (some ⟨Bl, 0, none⟩), .pointer (some ⟨Bi, 0, none⟩)] W fun e W' => (∃ v, e = .returned v) ∧ (J (row.filter is) W' ∨ (∃ pre, pre <+: row.filter is ∧ Jx pre W')) := by
  have HQ := Lib.hid hq
  have HY := Lib.hid hY
  have HJa := Lib.hid hJa
  have HG := Lib.hid g
  have a1 : W.cell? ⟨Bl, 0, none⟩ = some (.pointer (some ⟨B, 0, none⟩)) := g.h1 W hG
  have c22 : W.cell? ⟨B, 22, none⟩ = some (.slice (some ⟨L, 0, none⟩) row.length cap) := g.h2 W hG
  clear g hq hY hJa
  refine callsIn_of_wp Try.func124 rfl trivial ?_ rfl
  simp only [Try.ntmps124, List.size_toArray, List.length_cons, List.length_nil, Nat.reduceAdd, Nat.reduceSub, Array.replicate_succ, Array.replicate_zero, List.push_toArray, List.append_toArray, List.nil_append, List.cons_append]
  gi_wp2
  gi_loopw [11] (fun i wr => ∃ k : Nat, k ≤ row.length ∧ i = .int .i64 k ∧ J ((row.take k).filter is) wr ∧ G wr)
    (fun i _ => row.length - (intOf i).toNat)
  case atStart => exact ⟨0, Nat.zero_le _, rfl, by simpa using h0, hG⟩
  case round =>
    obtain ⟨k, hk, rfl, hJs, hGr⟩ := hrel
    have HJs := Lib.hid hJs
    clear hJs
    have b1 : wr.cell? ⟨Bi, 0, none⟩ = some (.func (.func 112) #[] #[]) := HG.out.hi wr hGr
    by_cases hlt : k < row.length
    · obtain ⟨x, hx⟩ : ∃ x, row[k]? = some x := ⟨_, List.getElem?_eq_getElem hlt⟩
      have htk : row.take (k + 1) = row.take k ++ [x] := by rw [List.take_add_one, hx]; rfl
      have hlk : ((row.take k).filter is).length ≤ k := Nat.le_trans (List.length_filter_le _ _) (by simp; omega)
      have b2 : wr.cell? ⟨L, k, none⟩ = some (.pointer (some ⟨enc x, 0, none⟩)) := HG.out.hr wr hGr k x hx
      have HR1 := Lib.hid (HQ.out wr x hGr (List.mem_of_getElem? hx))
      have HTK := Lib.hid htk
      clear htk
      gi_wp2_with fail
      refine ⟨trivial, (callsIn_wide.2 HR1.out).mono ?_⟩
      rintro e w' ⟨rfl, q, rfl⟩
      have hJq : J ((row.take k).filter is) (wr.drewN q) := HJa.out _ wr _ none HJs.out (grownBy_drewN wr q) (fun r e => by cases e)
      obtain ⟨fn, tmps, assign, body, hy, hR⟩ := HY.out _ x (wr.drewN q) hJq (by omega)
      have HIS : ∃ b, b = is x := ⟨_, rfl⟩
      obtain ⟨b, hb⟩ := HIS
      rw [← hb]
      have HB := Lib.hid hb
      clear hb
      cases b with
      | false =>
        gi_wp2_with fail
        refine ⟨fun _ h => (by cases h), ?_⟩
        gi_wp2_with fail
        go_roundw
        case rel => exact ⟨k + 1, by omega, by simp, by rw [HTK.out, List.filter_append, List.filter_cons_of_neg (by simp [← HB.out]), List.filter_nil, List.append_nil]; exact hJq, HG.out.d _ _ hGr⟩
        case measure => simp [intOf]; omega
      | true =>
        have hfe : (row.take (k + 1)).filter is = (row.take k).filter is ++ [x] := by rw [HTK.out, List.filter_append, List.filter_cons_of_pos (by simp [← HB.out]), List.filter_nil]
        have HFE := Lib.hid hfe
        clear hfe
        gi_wp2_with fail
        refine hR.mono ?_
        rintro e W3 (⟨rfl, hJ3, hk3⟩ | ⟨rfl, hJx3⟩)
        · gi_wp2_with fail
          go_roundw
          case rel => exact ⟨k + 1, by omega, by simp, by rw [HFE.out]; exact hJ3, hk3 (HG.out.d _ _ hGr)⟩
          case measure => simp [intOf]; omega
        · gi_wp2_with fail
          refine bodyPost_ret (results_none rfl _ _ _) rfl ?_
          exact ⟨⟨_, rfl⟩, .inr ⟨_, HFE.out ▸ ((List.take_prefix (k + 1) row).filter is), hJx3⟩⟩
    · obtain rfl : k = row.length := by omega
      gi_wp2_with fail
      go_end0
      exact ⟨⟨_, rfl⟩, .inl (by have := HJs.out; rwa [List.take_length] at this)⟩

theorem all_stops_elect2 {α : Type} (n : Nat) (hn : 1 ≤ n) (w0 : World) (G : World → Prop) (enc : α → Nat) (is : α → Bool) (B Bl Bi L cap : Nat) (row : List α) (hlen : row.length ≤ 100000)
    (g : Good G enc B Bl Bi L (.func (.func 112) #[] #[]) row cap) (hG : ∀ W, Below w0.heap.size w0 W → G W)
    (hq : ∀ W x, G W → x ∈ row → Calls Try.prog 112 #[.pointer (some ⟨enc x, 0, none⟩)] W fun e w' => e = .returned (.bool (is x)) ∧ ∃ q, w' = W.drewN q) :
    SeqStopsK Fence.wide n Try.prog 124 #[.pointer (some ⟨Bl, 0, none⟩), .pointer (some ⟨Bi, 0, none⟩)] (fun x : α => #[.pointer (some ⟨enc x, 0, none⟩)]) (fun A B => G A → G B) (fun ys => ys = row.filter is) (fun pre => pre <+: row.filter is) row.length w0 := by
  intro l J Jx W hW hJ _ hY h0
  refine (all_in_elect2 n hn G enc is l B Bl Bi L cap row hlen g hq J Jx W (hG W hW) hJ hY h0).mono ?_
  rintro e W' ⟨hv, h | ⟨pre, hp, h⟩⟩
  · exact ⟨hv, .inl ⟨_, rfl, h⟩⟩
  · exact ⟨hv, .inr ⟨pre, hp, h⟩⟩

set_option maxRecDepth 100000 in
set_option maxHeartbeats 2000000 in
theorem all_in_round2 {α : Type} (n : Nat) (hn : 1 ≤ n) (G : World → Prop) (enc : α → Nat) (is : α → Bool) (l B Bl Bi L cap : Nat) (C0 : Nat) (row : List α) (hlen : row.length ≤ 100000)
    (g : Good G enc B Bl Bi L (.func (.func 105) #[] #[.pointer (some ⟨C0, 0, none⟩)]) row cap)
    (hq : ∀ W x, G W → x ∈ row → Calls Try.prog 105 #[.pointer (some ⟨enc x, 0, none⟩), .pointer (some ⟨C0, 0, none⟩)] W fun e w' => e = .returned (.bool (is x)) ∧ ∃ q, w' = W.drewN q)
    (J Jx : List α → World → Prop) (W : World) (hG : G W) (hJa : AbidesFrom W.heap.size J)
    (hY : ∀ pre x W1, J pre W1 → pre.length < row.length → YieldAt Fence.wide (n - 1) Try.prog l #[.pointer (some ⟨enc x, 0, none⟩)] W1 fun e W' =>
      (e = .returned (.bool true) ∧ J (pre ++ [x]) W' ∧ (G W1 → G W')) ∨ (e = .returned (.bool false) ∧ Jx (pre ++ [x]) W'))
    (h0 : J [] W) :
    CallsIn Fence.wide n Try.prog 124 #[.func (.yield l) #[] #[], .pointer (some ⟨Bl, 0, none⟩), .pointer (some ⟨Bi, 0, none⟩)] W fun e W' => (∃ v, e = .returned v) ∧ (J (row.filter is) W' ∨ (∃ pre, pre <+: row.filter is ∧ Jx pre W')) := by
  have HQ := Lib.hid hq
  have HY := Lib.hid hY
  have HJa := Lib.hid hJa
  have HG := Lib.hid g
  have a1 : W.cell? ⟨Bl, 0, none⟩ = some (.pointer (some ⟨B, 0, none⟩)) := g.h1 W hG
  have c22 : W.cell? ⟨B, 22, none⟩ = some (.slice (some ⟨L, 0, none⟩) row.length cap) := g.h2 W hG
  clear g hq hY hJa
  refine callsIn_of_wp Try.func124 rfl trivial ?_ rfl
  simp only [Try.ntmps124, List.size_toArray, List.length_cons, List.length_nil, Nat.reduceAdd, Nat.reduceSub, Array.replicate_succ, Array.replicate_zero, List.push_toArray, List.append_toArray, List.nil_append, List.cons_append]
  gi_wp2
  gi_loopw [11] (fun i wr => ∃ k : Nat, k ≤ row.length ∧ i = .int .i64 k ∧ J ((row.take k).filter is) wr ∧ G wr)
    (fun i _ => row.length - (intOf i).toNat)
  case atStart => exact ⟨0, Nat.zero_le _, rfl, by simpa using h0, hG⟩
  case round =>
    obtain ⟨k, hk, rfl, hJs, hGr⟩ := hrel
    have HJs := Lib.hid hJs
    clear hJs
    have b1 : wr.cell? ⟨Bi, 0, none⟩ = some (.func (.func 105) #[] #[.pointer (some ⟨C0, 0, none⟩)]) := HG.out.hi wr hGr
    by_cases hlt : k < row.length
    · obtain ⟨x, hx⟩ : ∃ x, row[k]? = some x := ⟨_, List.getElem?_eq_getElem hlt⟩
      have htk : row.take (k + 1) = row.take k ++ [x] := by rw [List.take_add_one, hx]; rfl
      have hlk : ((row.take k).filter is).length ≤ k := Nat.le_trans (List.length_filter_le _ _) (by simp; omega)
      have b2 : wr.cell? ⟨L, k, none⟩ = some (.pointer (some ⟨enc x, 0, none⟩)) := HG.out.hr wr hGr k x hx
      have HR1 := Lib.hid (HQ.out wr x hGr (List.mem_of_getElem? hx))
      have HTK := Lib.hid htk
      clear htk
      gi_wp2_with fail
      refine ⟨trivial, (callsIn_wide.2 HR1.out).mono ?_⟩
      rintro e w' ⟨rfl, q, rfl⟩
      have hJq : J ((row.take k).filter is) (wr.drewN q) := HJa.out _ wr _ none HJs.out (grownBy_drewN wr q) (fun r e => by cases e)
      obtain ⟨fn, tmps, assign, body, hy, hR⟩ := HY.out _ x (wr.drewN q) hJq (by omega)
      have HIS : ∃ b, b = is x := ⟨_, rfl⟩
      obtain ⟨b, hb⟩ := HIS
      rw [← hb]
      have HB := Lib.hid hb
      clear hb
      cases b with
      | false =>
        gi_wp2_with fail
        refine ⟨fun _ h => (by cases h), ?_⟩
        gi_wp2_with fail
        go_roundw
        case rel => exact ⟨k + 1, by omega, by simp, by rw [HTK.out, List.filter_append, List.filter_cons_of_neg (by simp [← HB.out]), List.filter_nil, List.append_nil]; exact hJq, HG.out.d _ _ hGr⟩
        case measure => simp [intOf]; omega
      | true =>
        have hfe : (row.take (k + 1)).filter is = (row.take k).filter is ++ [x] := by rw [HTK.out, List.filter_append, List.filter_cons_of_pos (by simp [← HB.out]), List.filter_nil]
        have HFE := Lib.hid hfe
        clear hfe
        gi_wp2_with fail
        refine hR.mono ?_
        rintro e W3 (⟨rfl, hJ3, hk3⟩ | ⟨rfl, hJx3⟩)
        · gi_wp2_with fail
          go_roundw
          case rel => exact ⟨k + 1, by omega, by simp, by rw [HFE.out]; exact hJ3, hk3 (HG.out.d _ _ hGr)⟩
          case measure => simp [intOf]; omega
        · gi_wp2_with fail
          refine bodyPost_ret (results_none rfl _ _ _) rfl ?_
          exact ⟨⟨_, rfl⟩, .inr ⟨_, HFE.out ▸ ((List.take_prefix (k + 1) row).filter is), hJx3⟩⟩
    · obtain rfl : k = row.length := by omega
      gi_wp2_with fail
      go_end0
      exact ⟨⟨_, rfl⟩, .inl (by have := HJs.out; rwa [List.take_length] at this)⟩

theorem all_stops_round2 {α : Type} (n : Nat) (hn : 1 ≤ n) (w0 : World) (G : World → Prop) (enc : α → Nat) (is : α → Bool) (B Bl Bi L cap : Nat) (C0 : Nat) (row : List α) (hlen : row.length ≤ 100000)
    (g : Good G enc B Bl Bi L (.func (.func 105) #[] #[.pointer (some ⟨C0, 0, none⟩)]) row cap) (hG : ∀ W, Below w0.heap.size w0 W → G W)
    (hq : ∀ W x, G W → x ∈ row → Calls Try.prog 105 #[.pointer (some ⟨enc x, 0, none⟩), .pointer (some ⟨C0, 0, none⟩)] W fun e w' => e = .returned (.bool (is x)) ∧ ∃ q, w' = W.drewN q) :
    SeqStopsK Fence.wide n Try.prog 124 #[.pointer (some ⟨Bl, 0, none⟩), .pointer (some ⟨Bi, 0, none⟩)] (fun x : α => #[.pointer (some ⟨enc x, 0, none⟩)]) (fun A B => G A → G B) (fun ys => ys = row.filter is) (fun pre => pre <+: row.filter is) row.length w0 := by
  intro l J Jx W hW hJ _ hY h0
  refine (all_in_round2 n hn G enc is l B Bl Bi L cap C0 row hlen g hq J Jx W (hG W hW) hJ hY h0).mono ?_
  rintro e W' ⟨hv, h | ⟨pre, hp, h⟩⟩
  · exact ⟨hv, .inl ⟨_, rfl, h⟩⟩
  · exact ⟨hv, .inr ⟨pre, hp, h⟩⟩
end Go.Proofs.Ytgbmhijgpdgdbaa

namespace Go.Proofs.Ytgbmhijgpdgdbaa
open Go.RowKit

set_option maxHeartbeats 400000 in
theorem hello1_any (w : World) (K : Nat) (st : Int) (h : w.cell? ⟨K, 2, none⟩ = some (.int .u8 st)) :
    Calls Try.prog 108 #[.pointer (some ⟨K, 0, none⟩)] w fun e w' => e = .returned (.bool (decide (2 ≤ st))) ∧ w = w' := by
  go_enter Try.func108, Try.ntmps108
  go_wp2_with fail
  go_ret
  exact ⟨by simp, rfl⟩

set_option maxHeartbeats 1000000 in
theorem all_none (W : World) (Bl Bi B L l n cap : Nat) (h1 : W.cell? ⟨Bl, 0, none⟩ = some (.pointer (some ⟨B, 0, none⟩))) (hi : W.cell? ⟨Bi, 0, none⟩ = some (.func (.func 108) #[] #[])) (h2 : W.cell? ⟨B, 22, none⟩ = some (.slice (some ⟨L, 0, none⟩) n cap)) (hn : n ≤ 100000)
    (hrow : ∀ i, i < n → ∃ K st, W.cell? ⟨L, i, none⟩ = some (.pointer (some ⟨K, 0, none⟩)) ∧ W.cell? ⟨K, 2, none⟩ = some (.int .u8 st) ∧ st < 2) :
    Calls Try.prog 124 #[.func (.yield l) #[] #[], .pointer (some ⟨Bl, 0, none⟩), .pointer (some ⟨Bi, 0, none⟩)] W fun e W' => (∃ v, e = .returned v) ∧ W = W' := by
  have HRow := Lib.hid hrow
  clear hrow
  go_enter Try.func124, Try.ntmps124
  go_wp2_with fail
  go_loopw [11] (fun x wr => ∃ i : Nat, i ≤ n ∧ x = .int .i64 i ∧ wr = W) (fun x _ => n - (intOf x).toNat)
  case atStart => exact ⟨0, Nat.zero_le _, rfl, rfl⟩
  case round =>
    obtain ⟨i, hin, rfl, rfl⟩ := hrel
    by_cases hlt : i < n
    · obtain ⟨K, st, k1, k2, hst⟩ := HRow.out i hlt
      have hdec : decide (2 ≤ st) = false := decide_eq_false (by omega)
      go_wp2_with (go_at_call 108; refine (hello1_any _ K st k2).mono ?_; rintro e w' ⟨rfl, rfl⟩; rw [hdec])
      go_roundw
      case rel => exact ⟨i + 1, by omega, by simp, trivial⟩
      case measure => simp [intOf]; omega
    · obtain rfl : i = n := by omega
      go_wp2_with fail
      refine bodyPost_end (v := .tuple #[]) (by simp [results, Try.results124, go_sem]) rfl ⟨⟨_, rfl⟩, rfl⟩
end Go.Proofs.Ytgbmhijgpdgdbaa
