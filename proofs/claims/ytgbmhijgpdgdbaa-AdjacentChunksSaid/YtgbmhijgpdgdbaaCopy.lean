/- Heads copied, compared, found; a key. -/
import Derived.Test.YtgbmhijgpdgdbaaTypes
import Derived.Test.YtgbmhijgpdgdbaaNew
import Derived.Test.YtgbmhijgpdgdbaaLaterPlain
import Derived.BigQuiet
namespace Go.Proofs.Ytgbmhijgpdgdbaa
open Go.RowKit

set_option maxHeartbeats 1000000 in
theorem copyHeads_any (w : World) (v : Value) (l : List Od.Hd) (hv : HeadsIn w v l) (hn : l.length ≤ 65536) :
    Calls Try.prog 15 #[v] w fun e w' => ∃ v', e = .returned v' ∧ w'.ownsRow w.heap.size 59 8 v' l.length (l.flatMap hcells) ∧ Below w.heap.size w w' := by
  obtain ⟨i0, hi, hz0, hz1, hz2⟩ := info_parts head_info
  obtain ⟨⟨A, n, c, rfl, hnc, hlen, hr⟩, -⟩ := hv
  have HR := Lib.hid hr
  have Hl := Lib.hid hlen
  have h63 : 0 + n ≤ maxLen := by unfold maxLen; omega
  have hby : (0 + n) * 20 ≤ 140737488355328 := by omega
  clear hr hlen hn
  go_enter Try.func15, Try.ntmps15
  go_wp2_with (at_builtin; refine wpList_append_any _ rfl (.tmp 4) (.tmp 5) _ rfl w.heap.size 59 i0 _ 8 20 Try.underlying22 hi hz0 hz1 hz2 rfl (by omega) (.slice none 0 0) 0 [] rfl (World.ownsRow_nil _ _ _ _) w.heap.size A n c (l.flatMap hcells) rfl HR.out hcells_one h63 hby (Nat.le_refl _) ?_; intro v1 w1 hown1 hg1 hat1; rw [List.nil_append, Nat.zero_add] at hown1)
  go_ret
  refine ⟨v1, rfl, by rw [Hl.out]; exact hown1, ?_⟩
  exact (Below.refl _ w).grown hg1 (Nat.le_refl _) (fun k hk => by simp [Value.ownBlock] at hk)

set_option maxHeartbeats 1000000 in
theorem rkey_any (w : World) (h : Od.Hd) : Calls Try.prog 22 #[hdval h] w fun e w' => e = .returned (kval (keyOfHd h)) ∧ Below w.heap.size w w' := by
  unfold hdval
  go_enter Try.func22, Try.ntmps22
  go_wp2
  refine bodyPost_ret (v := kval (keyOfHd h)) (by simp [results, Try.results22, go_sem, kval, keyOfHd]) rfl ⟨rfl, ((Below.refl _ _).alloc (Nat.le_refl _) _).alloc (by simp) _⟩

set_option maxHeartbeats 2000000 in
set_option maxRecDepth 20000 in
theorem eqHeads_same (w : World) (u v : Value) (l : List Od.Hd) (hu : HeadsIn w u l) (hv : HeadsIn w v l) (hn : l.length ≤ 65536) :
    Calls Try.prog 17 #[u, v] w fun e w' => e = .returned (.bool true) ∧ Below w.heap.size w w' := by
  obtain ⟨⟨A, n, c, rfl, hnc, hlen, hr⟩, -⟩ := hu
  obtain ⟨⟨A2, n2, c2, rfl, hnc2, hlen2, hr2⟩, -⟩ := hv
  obtain rfl : n = n2 := by omega
  have Hlen := Lib.hid hlen
  have hn0 : n ≤ 65536 := by omega
  clear hlen hlen2 hn
  go_enter Try.func17, Try.ntmps17
  go_wp2_with fail
  go_loopw [5] (fun i wr => ∃ (k q : Nat), k ≤ n ∧ i = .int .i64 k ∧ wr = w.drewN q) (fun i _ => n - (intOf i).toNat)
  case atStart => exact ⟨0, 0, Nat.zero_le _, rfl, rfl⟩
  case round =>
    obtain ⟨k, q, hk, rfl, rfl⟩ := hrel
    by_cases hlt : k < n
    · obtain ⟨x, hx⟩ : ∃ x, l[k]? = some x := ⟨_, List.getElem?_eq_getElem (by have := Hlen.out; omega)⟩
      obtain ⟨bl, off, hA, -, hcell⟩ := hr.head hx
      obtain ⟨bl2, off2, hA2, -, hcell2⟩ := hr2.head hx
      subst hA hA2
      obtain ⟨g, o, t, i, v, s, mm, ll⟩ := x
      have d0 : w.cell? ⟨bl, off + k * 8, none⟩ = some (.int .u16 g) := hcell 0 _ rfl
      have d1 := hcell 1 _ rfl
      have d2 := hcell 2 _ rfl
      have d3 := hcell 3 _ rfl
      have d4 := hcell 4 _ rfl
      have d5 := hcell 5 _ rfl
      have d6 := hcell 6 _ rfl
      have d7 := hcell 7 _ rfl
      have e0 : w.cell? ⟨bl2, off2 + k * 8, none⟩ = some (.int .u16 g) := hcell2 0 _ rfl
      have e1 := hcell2 1 _ rfl
      have e2 := hcell2 2 _ rfl
      have e3 := hcell2 3 _ rfl
      have e4 := hcell2 4 _ rfl
      have e5 := hcell2 5 _ rfl
      have e6 := hcell2 6 _ rfl
      have e7 := hcell2 7 _ rfl
      have hkn : (k : Int) < (n : Int) := by omega
      clear hcell hcell2 hr hr2 hx
      go_wp2_with fail
      go_quiet (fail)
      go_wp2_with fail
      go_roundw
      case rel => exact ⟨k + 1, _, by omega, by go_num, rfl⟩
      case measure => simp [intOf]; omega
    · obtain rfl : k = n := by omega
      go_wp2_with fail
      go_ret
      exact ⟨rfl, below_drewN (Below.refl _ _) _⟩
end Go.Proofs.Ytgbmhijgpdgdbaa
