/- The iterator over a row of neighbours, with each question: it gives just those of whom the answer is yes. -/
import Derived.Test.YtgbmhijgpdgdbaaLpSeqI
set_option maxHeartbeats 2000000
set_option maxRecDepth 100000
namespace Go.Proofs.Ytgbmhijgpdgdbaa
open Go.RowKit Go.Shelf
attribute [local go_sem] Oper.semAt_some
structure Leans {α : Type} (I : List α → World → Prop) (enc : α → Nat) (is : α → Bool) (B Bl Bi : Nat) (fn : FuncId) (caps : Array Value) (row : List α) (A : Option Addr) (cap : Nat) : Prop where
  len : row.length ≤ 100000
  h1 : ∀ pre W, I pre W → W.cell? ⟨Bl, 0, none⟩ = some (.pointer (some ⟨B, 0, none⟩))
  h2 : ∀ pre W, I pre W → W.cell? ⟨B, 22, none⟩ = some (.slice A row.length cap)
  hi : ∀ pre W, I pre W → W.cell? ⟨Bi, 0, none⟩ = some (.func (.func fn) #[] caps)
  hr : ∀ pre W, I pre W → ∀ j x, row[j]? = some x → ∃ L, A = some ⟨L, 0, none⟩ ∧ W.cell? ⟨L, j, none⟩ = some (.pointer (some ⟨enc x, 0, none⟩))
  hq : ∀ k x W, row[k]? = some x → I ((row.take k).filter is) W → Calls Try.prog fn (#[.pointer (some ⟨enc x, 0, none⟩)] ++ caps) W fun e w' => e = .returned (.bool (is x)) ∧ ∃ q, w' = W.drewN q
def Comes {α : Type} (is : α → Bool) (row : List α) (pre : List α) (x : α) : Prop := ∃ k, row[k]? = some x ∧ is x = true ∧ pre = (row.take k).filter is ∧ (row.take (k + 1)).filter is = pre ++ [x]
theorem seq_hello {α : Type} (n : Nat) (hn : 1 ≤ n) (w0 : World) (I : List α → World → Prop) (enc : α → Nat) (is : α → Bool) (B Bl Bi : Nat) (row : List α) (A : Option Addr) (cap : Nat)
    (g : Leans I enc is B Bl Bi 108 #[] row A cap) :
    SeqI n Try.prog 124 #[.pointer (some ⟨Bl, 0, none⟩), .pointer (some ⟨Bi, 0, none⟩)] (fun x : α => #[.pointer (some ⟨enc x, 0, none⟩)]) I (Comes is row) (fun ys => ys = row.filter is) (fun pre => ∃ k x, row[k]? = some x ∧ is x = true ∧ pre = (row.take (k + 1)).filter is) w0 := by
  intro l J Jx W hW hJI hJa _ hY h0
  have hlen := g.len
  have HG := Lib.hid g
  have HY := Lib.hid hY
  have HJa := Lib.hid hJa
  have HJI := Lib.hid hJI
  have a1 : W.cell? ⟨Bl, 0, none⟩ = some (.pointer (some ⟨B, 0, none⟩)) := g.h1 _ W (hJI _ _ h0)
  have c22 : W.cell? ⟨B, 22, none⟩ = some (.slice A row.length cap) := g.h2 _ W (hJI _ _ h0)
  clear g hY hJa hJI hW
  refine callsIn_of_wp Try.func124 rfl trivial ?_ rfl
  simp only [Try.ntmps124, List.size_toArray, List.length_cons, List.length_nil, Nat.reduceAdd, Nat.reduceSub, Array.replicate_succ, Array.replicate_zero, List.push_toArray, List.append_toArray, List.nil_append, List.cons_append]
  gi_wp2
  gi_loopw [11] (fun i wr => ∃ k : Nat, k ≤ row.length ∧ i = .int .i64 k ∧ J ((row.take k).filter is) wr)
    (fun i _ => row.length - (intOf i).toNat)
  case atStart => exact ⟨0, Nat.zero_le _, rfl, by simpa using h0⟩
  case round =>
    obtain ⟨k, hk, rfl, hJs⟩ := hrel
    have HJs := Lib.hid hJs
    clear hJs
    have b1 : wr.cell? ⟨Bi, 0, none⟩ = some (.func (.func 108) #[] #[]) := HG.out.hi _ wr (HJI.out _ _ HJs.out)
    by_cases hlt : k < row.length
    · obtain ⟨x, hx⟩ : ∃ x, row[k]? = some x := ⟨_, List.getElem?_eq_getElem hlt⟩
      have htk : row.take (k + 1) = row.take k ++ [x] := by rw [List.take_add_one, hx]; rfl
      obtain ⟨L, hL, b2⟩ := HG.out.hr _ wr (HJI.out _ _ HJs.out) k x hx
      subst hL
      have HR1 : Hid (Calls Try.prog 108 #[.pointer (some ⟨enc x, 0, none⟩)] wr fun e w' => e = .returned (.bool (is x)) ∧ ∃ q, w' = wr.drewN q) := Lib.hid (HG.out.hq k x wr hx (HJI.out _ _ HJs.out))
      have HTK := Lib.hid htk
      have Hx := Lib.hid hx
      clear htk hx
      gi_wp2_with fail
      refine ⟨trivial, (callsIn_wide.2 HR1.out).mono ?_⟩
      rintro e w' ⟨rfl, q, rfl⟩
      have hJq : J ((row.take k).filter is) (wr.drewN q) := HJa.out _ wr _ none HJs.out (grownBy_drewN wr q) (fun r e => by cases e)
      obtain ⟨b, hb⟩ : ∃ b, b = is x := ⟨_, rfl⟩
      rw [← hb]
      have HB := Lib.hid hb
      clear hb
      cases b with
      | false =>
        gi_wp2_with fail
        refine ⟨fun _ h => (by cases h), ?_⟩
        gi_wp2_with fail
        go_roundw
        case rel => exact ⟨k + 1, by omega, by simp, by rw [HTK.out, List.filter_append, List.filter_cons_of_neg (by simp [← HB.out]), List.filter_nil, List.append_nil]; exact hJq⟩
        case measure => simp [intOf]; omega
      | true =>
        have hfe : (row.take (k + 1)).filter is = (row.take k).filter is ++ [x] := by rw [HTK.out, List.filter_append, List.filter_cons_of_pos (by simp [← HB.out]), List.filter_nil]
        have HFE := Lib.hid hfe
        clear hfe
        obtain ⟨fn, tmps, assign, body, hy, hR⟩ := HY.out _ x (wr.drewN q) hJq ⟨k, Hx.out, HB.out.symm, rfl, HFE.out⟩
        gi_wp2_with fail
        refine hR.mono ?_
        rintro e W3 (⟨rfl, hJ3⟩ | ⟨rfl, hJx3⟩)
        · gi_wp2_with fail
          go_roundw
          case rel => exact ⟨k + 1, by omega, by simp, by rw [HFE.out]; exact hJ3⟩
          case measure => simp [intOf]; omega
        · gi_wp2_with fail
          refine bodyPost_ret (results_none rfl _ _ _) rfl ?_
          exact ⟨⟨_, rfl⟩, .inr ⟨_, ⟨k, x, Hx.out, HB.out.symm, rfl⟩, by rw [HFE.out]; exact hJx3⟩⟩
    · obtain rfl : k = row.length := by omega
      gi_wp2_with fail
      go_end0
      exact ⟨⟨_, rfl⟩, .inl ⟨_, rfl, by have := HJs.out; rwa [List.take_length] at this⟩⟩
theorem seq_round {α : Type} (n : Nat) (hn : 1 ≤ n) (w0 : World) (I : List α → World → Prop) (enc : α → Nat) (is : α → Bool) (B Bl Bi : Nat) (C0 C1 : Nat) (row : List α) (A : Option Addr) (cap : Nat)
    (g : Leans I enc is B Bl Bi 103 #[.pointer (some ⟨C0, 0, none⟩), .pointer (some ⟨C1, 0, none⟩)] row A cap) :
    SeqI n Try.prog 124 #[.pointer (some ⟨Bl, 0, none⟩), .pointer (some ⟨Bi, 0, none⟩)] (fun x : α => #[.pointer (some ⟨enc x, 0, none⟩)]) I (Comes is row) (fun ys => ys = row.filter is) (fun pre => ∃ k x, row[k]? = some x ∧ is x = true ∧ pre = (row.take (k + 1)).filter is) w0 := by
  intro l J Jx W hW hJI hJa _ hY h0
  have hlen := g.len
  have HG := Lib.hid g
  have HY := Lib.hid hY
  have HJa := Lib.hid hJa
  have HJI := Lib.hid hJI
  have a1 : W.cell? ⟨Bl, 0, none⟩ = some (.pointer (some ⟨B, 0, none⟩)) := g.h1 _ W (hJI _ _ h0)
  have c22 : W.cell? ⟨B, 22, none⟩ = some (.slice A row.length cap) := g.h2 _ W (hJI _ _ h0)
  clear g hY hJa hJI hW
  refine callsIn_of_wp Try.func124 rfl trivial ?_ rfl
  simp only [Try.ntmps124, List.size_toArray, List.length_cons, List.length_nil, Nat.reduceAdd, Nat.reduceSub, Array.replicate_succ, Array.replicate_zero, List.push_toArray, List.append_toArray, List.nil_append, List.cons_append]
  gi_wp2
  gi_loopw [11] (fun i wr => ∃ k : Nat, k ≤ row.length ∧ i = .int .i64 k ∧ J ((row.take k).filter is) wr)
    (fun i _ => row.length - (intOf i).toNat)
  case atStart => exact ⟨0, Nat.zero_le _, rfl, by simpa using h0⟩
  case round =>
    obtain ⟨k, hk, rfl, hJs⟩ := hrel
    have HJs := Lib.hid hJs
    clear hJs
    have b1 : wr.cell? ⟨Bi, 0, none⟩ = some (.func (.func 103) #[] #[.pointer (some ⟨C0, 0, none⟩), .pointer (some ⟨C1, 0, none⟩)]) := HG.out.hi _ wr (HJI.out _ _ HJs.out)
    by_cases hlt : k < row.length
    · obtain ⟨x, hx⟩ : ∃ x, row[k]? = some x := ⟨_, List.getElem?_eq_getElem hlt⟩
      have htk : row.take (k + 1) = row.take k ++ [x] := by rw [List.take_add_one, hx]; rfl
      obtain ⟨L, hL, b2⟩ := HG.out.hr _ wr (HJI.out _ _ HJs.out) k x hx
      subst hL
      have HR1 : Hid (Calls Try.prog 103 #[.pointer (some ⟨enc x, 0, none⟩), .pointer (some ⟨C0, 0, none⟩), .pointer (some ⟨C1, 0, none⟩)] wr fun e w' => e = .returned (.bool (is x)) ∧ ∃ q, w' = wr.drewN q) := Lib.hid (HG.out.hq k x wr hx (HJI.out _ _ HJs.out))
      have HTK := Lib.hid htk
      have Hx := Lib.hid hx
      clear htk hx
      gi_wp2_with fail
      refine ⟨trivial, (callsIn_wide.2 HR1.out).mono ?_⟩
      rintro e w' ⟨rfl, q, rfl⟩
      have hJq : J ((row.take k).filter is) (wr.drewN q) := HJa.out _ wr _ none HJs.out (grownBy_drewN wr q) (fun r e => by cases e)
      obtain ⟨b, hb⟩ : ∃ b, b = is x := ⟨_, rfl⟩
      rw [← hb]
      have HB := Lib.hid hb
      clear hb
      cases b with
      | false =>
        gi_wp2_with fail
        refine ⟨fun _ h => (by cases h), ?_⟩
        gi_wp2_with fail
        go_roundw
        case rel => exact ⟨k + 1, by omega, by simp, by rw [HTK.out, List.filter_append, List.filter_cons_of_neg (by simp [← HB.out]), List.filter_nil, List.append_nil]; exact hJq⟩
        case measure => simp [intOf]; omega
      | true =>
        have hfe : (row.take (k + 1)).filter is = (row.take k).filter is ++ [x] := by rw [HTK.out, List.filter_append, List.filter_cons_of_pos (by simp [← HB.out]), List.filter_nil]
        have HFE := Lib.hid hfe
        clear hfe
        obtain ⟨fn, tmps, assign, body, hy, hR⟩ := HY.out _ x (wr.drewN q) hJq ⟨k, Hx.out, HB.out.symm, rfl, HFE.out⟩
        gi_wp2_with fail
        refine hR.mono ?_
        rintro e W3 (⟨rfl, hJ3⟩ | ⟨rfl, hJx3⟩)
        · gi_wp2_with fail
          go_roundw
          case rel => exact ⟨k + 1, by omega, by simp, by rw [HFE.out]; exact hJ3⟩
          case measure => simp [intOf]; omega
        · gi_wp2_with fail
          refine bodyPost_ret (results_none rfl _ _ _) rfl ?_
          exact ⟨⟨_, rfl⟩, .inr ⟨_, ⟨k, x, Hx.out, HB.out.symm, rfl⟩, by rw [HFE.out]; exact hJx3⟩⟩
    · obtain rfl : k = row.length := by omega
      gi_wp2_with fail
      go_end0
      exact ⟨⟨_, rfl⟩, .inl ⟨_, rfl, by have := HJs.out; rwa [List.take_length] at this⟩⟩
theorem seq_round2 {α : Type} (n : Nat) (hn : 1 ≤ n) (w0 : World) (I : List α → World → Prop) (enc : α → Nat) (is : α → Bool) (B Bl Bi : Nat) (C0 : Nat) (row : List α) (A : Option Addr) (cap : Nat)
    (g : Leans I enc is B Bl Bi 105 #[.pointer (some ⟨C0, 0, none⟩)] row A cap) :
    SeqI n Try.prog 124 #[.pointer (some ⟨Bl, 0, none⟩), .pointer (some ⟨Bi, 0, none⟩)] (fun x : α => #[.pointer (some ⟨enc x, 0, none⟩)]) I (Comes is row) (fun ys => ys = row.filter is) (fun pre => ∃ k x, row[k]? = some x ∧ is x = true ∧ pre = (row.take (k + 1)).filter is) w0 := by
  intro l J Jx W hW hJI hJa _ hY h0
  have hlen := g.len
  have HG := Lib.hid g
  have HY := Lib.hid hY
  have HJa := Lib.hid hJa
  have HJI := Lib.hid hJI
  have a1 : W.cell? ⟨Bl, 0, none⟩ = some (.pointer (some ⟨B, 0, none⟩)) := g.h1 _ W (hJI _ _ h0)
  have c22 : W.cell? ⟨B, 22, none⟩ = some (.slice A row.length cap) := g.h2 _ W (hJI _ _ h0)
  clear g hY hJa hJI hW
  refine callsIn_of_wp Try.func124 rfl trivial ?_ rfl
  simp only [Try.ntmps124, List.size_toArray, List.length_cons, List.length_nil, Nat.reduceAdd, Nat.reduceSub, Array.replicate_succ, Array.replicate_zero, List.push_toArray, List.append_toArray, List.nil_append, List.cons_append]
  gi_wp2
  gi_loopw [11] (fun i wr => ∃ k : Nat, k ≤ row.length ∧ i = .int .i64 k ∧ J ((row.take k).filter is) wr)
    (fun i _ => row.length - (intOf i).toNat)
  case atStart => exact ⟨0, Nat.zero_le _, rfl, by simpa using h0⟩
  case round =>
    obtain ⟨k, hk, rfl, hJs⟩ := hrel
    have HJs := Lib.hid hJs
    clear hJs
    have b1 : wr.cell? ⟨Bi, 0, none⟩ = some (.func (.func 105) #[] #[.pointer (some ⟨C0, 0, none⟩)]) := HG.out.hi _ wr (HJI.out _ _ HJs.out)
    by_cases hlt : k < row.length
    · obtain ⟨x, hx⟩ : ∃ x, row[k]? = some x := ⟨_, List.getElem?_eq_getElem hlt⟩
      have htk : row.take (k + 1) = row.take k ++ [x] := by rw [List.take_add_one, hx]; rfl
      obtain ⟨L, hL, b2⟩ := HG.out.hr _ wr (HJI.out _ _ HJs.out) k x hx
      subst hL
      have HR1 : Hid (Calls Try.prog 105 #[.pointer (some ⟨enc x, 0, none⟩), .pointer (some ⟨C0, 0, none⟩)] wr fun e w' => e = .returned (.bool (is x)) ∧ ∃ q, w' = wr.drewN q) := Lib.hid (HG.out.hq k x wr hx (HJI.out _ _ HJs.out))
      have HTK := Lib.hid htk
      have Hx := Lib.hid hx
      clear htk hx
      gi_wp2_with fail
      refine ⟨trivial, (callsIn_wide.2 HR1.out).mono ?_⟩
      rintro e w' ⟨rfl, q, rfl⟩
      have hJq : J ((row.take k).filter is) (wr.drewN q) := HJa.out _ wr _ none HJs.out (grownBy_drewN wr q) (fun r e => by cases e)
      obtain ⟨b, hb⟩ : ∃ b, b = is x := ⟨_, rfl⟩
      rw [← hb]
      have HB := Lib.hid hb
      clear hb
      cases b with
      | false =>
        gi_wp2_with fail
        refine ⟨fun _ h => (by cases h), ?_⟩
        gi_wp2_with fail
        go_roundw
        case rel => exact ⟨k + 1, by omega, by simp, by rw [HTK.out, List.filter_append, List.filter_cons_of_neg (by simp [← HB.out]), List.filter_nil, List.append_nil]; exact hJq⟩
        case measure => simp [intOf]; omega
      | true =>
        have hfe : (row.take (k + 1)).filter is = (row.take k).filter is ++ [x] := by rw [HTK.out, List.filter_append, List.filter_cons_of_pos (by simp [← HB.out]), List.filter_nil]
        have HFE := Lib.hid hfe
        clear hfe
        obtain ⟨fn, tmps, assign, body, hy, hR⟩ := HY.out _ x (wr.drewN q) hJq ⟨k, Hx.out, HB.out.symm, rfl, HFE.out⟩
        gi_wp2_with fail
        refine hR.mono ?_
        rintro e W3 (⟨rfl, hJ3⟩ | ⟨rfl, hJx3⟩)
        · gi_wp2_with fail
          go_roundw
          case rel => exact ⟨k + 1, by omega, by simp, by rw [HFE.out]; exact hJ3⟩
          case measure => simp [intOf]; omega
        · gi_wp2_with fail
          refine bodyPost_ret (results_none rfl _ _ _) rfl ?_
          exact ⟨⟨_, rfl⟩, .inr ⟨_, ⟨k, x, Hx.out, HB.out.symm, rfl⟩, by rw [HFE.out]; exact hJx3⟩⟩
    · obtain rfl : k = row.length := by omega
      gi_wp2_with fail
      go_end0
      exact ⟨⟨_, rfl⟩, .inl ⟨_, rfl, by have := HJs.out; rwa [List.take_length] at this⟩⟩
theorem seq_elect1 {α : Type} (n : Nat) (hn : 1 ≤ n) (w0 : World) (I : List α → World → Prop) (enc : α → Nat) (is : α → Bool) (B Bl Bi : Nat) (row : List α) (A : Option Addr) (cap : Nat)
    (g : Leans I enc is B Bl Bi 110 #[] row A cap) :
    SeqI n Try.prog 124 #[.pointer (some ⟨Bl, 0, none⟩), .pointer (some ⟨Bi, 0, none⟩)] (fun x : α => #[.pointer (some ⟨enc x, 0, none⟩)]) I (Comes is row) (fun ys => ys = row.filter is) (fun pre => ∃ k x, row[k]? = some x ∧ is x = true ∧ pre = (row.take (k + 1)).filter is) w0 := by
  intro l J Jx W hW hJI hJa _ hY h0
  have hlen := g.len
  have HG := Lib.hid g
  have HY := Lib.hid hY
  have HJa := Lib.hid hJa
  have HJI := Lib.hid hJI
  have a1 : W.cell? ⟨Bl, 0, none⟩ = some (.pointer (some ⟨B, 0, none⟩)) := g.h1 _ W (hJI _ _ h0)
  have c22 : W.cell? ⟨B, 22, none⟩ = some (.slice A row.length cap) := g.h2 _ W (hJI _ _ h0)
  clear g hY hJa hJI hW
  refine callsIn_of_wp Try.func124 rfl trivial ?_ rfl
  simp only [Try.ntmps124, List.size_toArray, List.length_cons, List.length_nil, Nat.reduceAdd, Nat.reduceSub, Array.replicate_succ, Array.replicate_zero, List.push_toArray, List.append_toArray, List.nil_append, List.cons_append]
  gi_wp2
  gi_loopw [11] (fun i wr => ∃ k : Nat, k ≤ row.length ∧ i = .int .i64 k ∧ J ((row.take k).filter is) wr)
    (fun i _ => row.length - (intOf i).toNat)
  case atStart => exact ⟨0, Nat.zero_le _, rfl, by simpa using h0⟩
  case round =>
    obtain ⟨k, hk, rfl, hJs⟩ := hrel
    have HJs := Lib.hid hJs
    clear hJs
    have b1 : wr.cell? ⟨Bi, 0, none⟩ = some (.func (.func 110) #[] #[]) := HG.out.hi _ wr (HJI.out _ _ HJs.out)
    by_cases hlt : k < row.length
    · obtain ⟨x, hx⟩ : ∃ x, row[k]? = some x := ⟨_, List.getElem?_eq_getElem hlt⟩
      have htk : row.take (k + 1) = row.take k ++ [x] := by rw [List.take_add_one, hx]; rfl
      obtain ⟨L, hL, b2⟩ := HG.out.hr _ wr (HJI.out _ _ HJs.out) k x hx
      subst hL
      have HR1 : Hid (Calls Try.prog 110 #[.pointer (some ⟨enc x, 0, none⟩)] wr fun e w' => e = .returned (.bool (is x)) ∧ ∃ q, w' = wr.drewN q) := Lib.hid (HG.out.hq k x wr hx (HJI.out _ _ HJs.out))
      have HTK := Lib.hid htk
      have Hx := Lib.hid hx
      clear htk hx
      gi_wp2_with fail
      refine ⟨trivial, (callsIn_wide.2 HR1.out).mono ?_⟩
      rintro e w' ⟨rfl, q, rfl⟩
      have hJq : J ((row.take k).filter is) (wr.drewN q) := HJa.out _ wr _ none HJs.out (grownBy_drewN wr q) (fun r e => by cases e)
      obtain ⟨b, hb⟩ : ∃ b, b = is x := ⟨_, rfl⟩
      rw [← hb]
      have HB := Lib.hid hb
      clear hb
      cases b with
      | false =>
        gi_wp2_with fail
        refine ⟨fun _ h => (by cases h), ?_⟩
        gi_wp2_with fail
        go_roundw
        case rel => exact ⟨k + 1, by omega, by simp, by rw [HTK.out, List.filter_append, List.filter_cons_of_neg (by simp [← HB.out]), List.filter_nil, List.append_nil]; exact hJq⟩
        case measure => simp [intOf]; omega
      | true =>
        have hfe : (row.take (k + 1)).filter is = (row.take k).filter is ++ [x] := by rw [HTK.out, List.filter_append, List.filter_cons_of_pos (by simp [← HB.out]), List.filter_nil]
        have HFE := Lib.hid hfe
        clear hfe
        obtain ⟨fn, tmps, assign, body, hy, hR⟩ := HY.out _ x (wr.drewN q) hJq ⟨k, Hx.out, HB.out.symm, rfl, HFE.out⟩
        gi_wp2_with fail
        refine hR.mono ?_
        rintro e W3 (⟨rfl, hJ3⟩ | ⟨rfl, hJx3⟩)
        · gi_wp2_with fail
          go_roundw
          case rel => exact ⟨k + 1, by omega, by simp, by rw [HFE.out]; exact hJ3⟩
          case measure => simp [intOf]; omega
        · gi_wp2_with fail
          refine bodyPost_ret (results_none rfl _ _ _) rfl ?_
          exact ⟨⟨_, rfl⟩, .inr ⟨_, ⟨k, x, Hx.out, HB.out.symm, rfl⟩, by rw [HFE.out]; exact hJx3⟩⟩
    · obtain rfl : k = row.length := by omega
      gi_wp2_with fail
      go_end0
      exact ⟨⟨_, rfl⟩, .inl ⟨_, rfl, by have := HJs.out; rwa [List.take_length] at this⟩⟩
theorem seq_elect2 {α : Type} (n : Nat) (hn : 1 ≤ n) (w0 : World) (I : List α → World → Prop) (enc : α → Nat) (is : α → Bool) (B Bl Bi : Nat) (row : List α) (A : Option Addr) (cap : Nat)
    (g : Leans I enc is B Bl Bi 112 #[] row A cap) :
    SeqI n Try.prog 124 #[.pointer (some ⟨Bl, 0, none⟩), .pointer (some ⟨Bi, 0, none⟩)] (fun x : α => #[.pointer (some ⟨enc x, 0, none⟩)]) I (Comes is row) (fun ys => ys = row.filter is) (fun pre => ∃ k x, row[k]? = some x ∧ is x = true ∧ pre = (row.take (k + 1)).filter is) w0 := by
  intro l J Jx W hW hJI hJa _ hY h0
  have hlen := g.len
  have HG := Lib.hid g
  have HY := Lib.hid hY
  have HJa := Lib.hid hJa
  have HJI := Lib.hid hJI
  have a1 : W.cell? ⟨Bl, 0, none⟩ = some (.pointer (some ⟨B, 0, none⟩)) := g.h1 _ W (hJI _ _ h0)
  have c22 : W.cell? ⟨B, 22, none⟩ = some (.slice A row.length cap) := g.h2 _ W (hJI _ _ h0)
  clear g hY hJa hJI hW
  refine callsIn_of_wp Try.func124 rfl trivial ?_ rfl
  simp only [Try.ntmps124, List.size_toArray, List.length_cons, List.length_nil, Nat.reduceAdd, Nat.reduceSub, Array.replicate_succ, Array.replicate_zero, List.push_toArray, List.append_toArray, List.nil_append, List.cons_append]
  gi_wp2
  gi_loopw [11] (fun i wr => ∃ k : Nat, k ≤ row.length ∧ i = .int .i64 k ∧ J ((row.take k).filter is) wr)
    (fun i _ => row.length - (intOf i).toNat)
  case atStart => exact ⟨0, Nat.zero_le _, rfl, by simpa using h0⟩
  case round =>
    obtain ⟨k, hk, rfl, hJs⟩ := hrel
    have HJs := Lib.hid hJs
    clear hJs
    have b1 : wr.cell? ⟨Bi, 0, none⟩ = some (.func (.func 112) #[] #[]) := HG.out.hi _ wr (HJI.out _ _ HJs.out)
    by_cases hlt : k < row.length
    · obtain ⟨x, hx⟩ : ∃ x, row[k]? = some x := ⟨_, List.getElem?_eq_getElem hlt⟩
      have htk : row.take (k + 1) = row.take k ++ [x] := by rw [List.take_add_one, hx]; rfl
      obtain ⟨L, hL, b2⟩ := HG.out.hr _ wr (HJI.out _ _ HJs.out) k x hx
      subst hL
      have HR1 : Hid (Calls Try.prog 112 #[.pointer (some ⟨enc x, 0, none⟩)] wr fun e w' => e = .returned (.bool (is x)) ∧ ∃ q, w' = wr.drewN q) := Lib.hid (HG.out.hq k x wr hx (HJI.out _ _ HJs.out))
      have HTK := Lib.hid htk
      have Hx := Lib.hid hx
      clear htk hx
      gi_wp2_with fail
      refine ⟨trivial, (callsIn_wide.2 HR1.out).mono ?_⟩
      rintro e w' ⟨rfl, q, rfl⟩
      have hJq : J ((row.take k).filter is) (wr.drewN q) := HJa.out _ wr _ none HJs.out (grownBy_drewN wr q) (fun r e => by cases e)
      obtain ⟨b, hb⟩ : ∃ b, b = is x := ⟨_, rfl⟩
      rw [← hb]
      have HB := Lib.hid hb
      clear hb
      cases b with
      | false =>
        gi_wp2_with fail
        refine ⟨fun _ h => (by cases h), ?_⟩
        gi_wp2_with fail
        go_roundw
        case rel => exact ⟨k + 1, by omega, by simp, by rw [HTK.out, List.filter_append, List.filter_cons_of_neg (by simp [← HB.out]), List.filter_nil, List.append_nil]; exact hJq⟩
        case measure => simp [intOf]; omega
      | true =>
        have hfe : (row.take (k + 1)).filter is = (row.take k).filter is ++ [x] := by rw [HTK.out, List.filter_append, List.filter_cons_of_pos (by simp [← HB.out]), List.filter_nil]
        have HFE := Lib.hid hfe
        clear hfe
        obtain ⟨fn, tmps, assign, body, hy, hR⟩ := HY.out _ x (wr.drewN q) hJq ⟨k, Hx.out, HB.out.symm, rfl, HFE.out⟩
        gi_wp2_with fail
        refine hR.mono ?_
        rintro e W3 (⟨rfl, hJ3⟩ | ⟨rfl, hJx3⟩)
        · gi_wp2_with fail
          go_roundw
          case rel => exact ⟨k + 1, by omega, by simp, by rw [HFE.out]; exact hJ3⟩
          case measure => simp [intOf]; omega
        · gi_wp2_with fail
          refine bodyPost_ret (results_none rfl _ _ _) rfl ?_
          exact ⟨⟨_, rfl⟩, .inr ⟨_, ⟨k, x, Hx.out, HB.out.symm, rfl⟩, by rw [HFE.out]; exact hJx3⟩⟩
    · obtain rfl : k = row.length := by omega
      gi_wp2_with fail
      go_end0
      exact ⟨⟨_, rfl⟩, .inl ⟨_, rfl, by have := HJs.out; rwa [List.take_length] at this⟩⟩
theorem seq_full {α : Type} (n : Nat) (hn : 1 ≤ n) (w0 : World) (I : List α → World → Prop) (enc : α → Nat) (is : α → Bool) (B Bl Bi : Nat) (C0 : Nat) (row : List α) (A : Option Addr) (cap : Nat)
    (g : Leans I enc is B Bl Bi 87 #[.pointer (some ⟨C0, 0, none⟩)] row A cap) :
    SeqI n Try.prog 124 #[.pointer (some ⟨Bl, 0, none⟩), .pointer (some ⟨Bi, 0, none⟩)] (fun x : α => #[.pointer (some ⟨enc x, 0, none⟩)]) I (Comes is row) (fun ys => ys = row.filter is) (fun pre => ∃ k x, row[k]? = some x ∧ is x = true ∧ pre = (row.take (k + 1)).filter is) w0 := by
  intro l J Jx W hW hJI hJa _ hY h0
  have hlen := g.len
  have HG := Lib.hid g
  have HY := Lib.hid hY
  have HJa := Lib.hid hJa
  have HJI := Lib.hid hJI
  have a1 : W.cell? ⟨Bl, 0, none⟩ = some (.pointer (some ⟨B, 0, none⟩)) := g.h1 _ W (hJI _ _ h0)
  have c22 : W.cell? ⟨B, 22, none⟩ = some (.slice A row.length cap) := g.h2 _ W (hJI _ _ h0)
  clear g hY hJa hJI hW
  refine callsIn_of_wp Try.func124 rfl trivial ?_ rfl
  simp only [Try.ntmps124, List.size_toArray, List.length_cons, List.length_nil, Nat.reduceAdd, Nat.reduceSub, Array.replicate_succ, Array.replicate_zero, List.push_toArray, List.append_toArray, List.nil_append, List.cons_append]
  gi_wp2
  gi_loopw [11] (fun i wr => ∃ k : Nat, k ≤ row.length ∧ i = .int .i64 k ∧ J ((row.take k).filter is) wr)
    (fun i _ => row.length - (intOf i).toNat)
  case atStart => exact ⟨0, Nat.zero_le _, rfl, by simpa using h0⟩
  case round =>
    obtain ⟨k, hk, rfl, hJs⟩ := hrel
    have HJs := Lib.hid hJs
    clear hJs
    have b1 : wr.cell? ⟨Bi, 0, none⟩ = some (.func (.func 87) #[] #[.pointer (some ⟨C0, 0, none⟩)]) := HG.out.hi _ wr (HJI.out _ _ HJs.out)
    by_cases hlt : k < row.length
    · obtain ⟨x, hx⟩ : ∃ x, row[k]? = some x := ⟨_, List.getElem?_eq_getElem hlt⟩
      have htk : row.take (k + 1) = row.take k ++ [x] := by rw [List.take_add_one, hx]; rfl
      obtain ⟨L, hL, b2⟩ := HG.out.hr _ wr (HJI.out _ _ HJs.out) k x hx
      subst hL
      have HR1 : Hid (Calls Try.prog 87 #[.pointer (some ⟨enc x, 0, none⟩), .pointer (some ⟨C0, 0, none⟩)] wr fun e w' => e = .returned (.bool (is x)) ∧ ∃ q, w' = wr.drewN q) := Lib.hid (HG.out.hq k x wr hx (HJI.out _ _ HJs.out))
      have HTK := Lib.hid htk
      have Hx := Lib.hid hx
      clear htk hx
      gi_wp2_with fail
      refine ⟨trivial, (callsIn_wide.2 HR1.out).mono ?_⟩
      rintro e w' ⟨rfl, q, rfl⟩
      have hJq : J ((row.take k).filter is) (wr.drewN q) := HJa.out _ wr _ none HJs.out (grownBy_drewN wr q) (fun r e => by cases e)
      obtain ⟨b, hb⟩ : ∃ b, b = is x := ⟨_, rfl⟩
      rw [← hb]
      have HB := Lib.hid hb
      clear hb
      cases b with
      | false =>
        gi_wp2_with fail
        refine ⟨fun _ h => (by cases h), ?_⟩
        gi_wp2_with fail
        go_roundw
        case rel => exact ⟨k + 1, by omega, by simp, by rw [HTK.out, List.filter_append, List.filter_cons_of_neg (by simp [← HB.out]), List.filter_nil, List.append_nil]; exact hJq⟩
        case measure => simp [intOf]; omega
      | true =>
        have hfe : (row.take (k + 1)).filter is = (row.take k).filter is ++ [x] := by rw [HTK.out, List.filter_append, List.filter_cons_of_pos (by simp [← HB.out]), List.filter_nil]
        have HFE := Lib.hid hfe
        clear hfe
        obtain ⟨fn, tmps, assign, body, hy, hR⟩ := HY.out _ x (wr.drewN q) hJq ⟨k, Hx.out, HB.out.symm, rfl, HFE.out⟩
        gi_wp2_with fail
        refine hR.mono ?_
        rintro e W3 (⟨rfl, hJ3⟩ | ⟨rfl, hJx3⟩)
        · gi_wp2_with fail
          go_roundw
          case rel => exact ⟨k + 1, by omega, by simp, by rw [HFE.out]; exact hJ3⟩
          case measure => simp [intOf]; omega
        · gi_wp2_with fail
          refine bodyPost_ret (results_none rfl _ _ _) rfl ?_
          exact ⟨⟨_, rfl⟩, .inr ⟨_, ⟨k, x, Hx.out, HB.out.symm, rfl⟩, by rw [HFE.out]; exact hJx3⟩⟩
    · obtain rfl : k = row.length := by omega
      gi_wp2_with fail
      go_end0
      exact ⟨⟨_, rfl⟩, .inl ⟨_, rfl, by have := HJs.out; rwa [List.take_length] at this⟩⟩
end Go.Proofs.Ytgbmhijgpdgdbaa
