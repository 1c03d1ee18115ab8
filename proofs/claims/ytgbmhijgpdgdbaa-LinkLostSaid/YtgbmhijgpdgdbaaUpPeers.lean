/- Up of a link of whatever config with peers, that is not passive. -/
import Derived.Test.YtgbmhijgpdgdbaaLate
import Derived.Test.YtgbmhijgpdgdbaaLinkAt
import Derived.Test.YtgbmhijgpdgdbaaRMayX
namespace Go.Proofs.Ytgbmhijgpdgdbaa
open Go.RowKit

/-- A peer that is sent to from the start. -/
def upIs (c : LC) (p : Int × Int) : Bool := c.ty == 2 || (decide (0 < c.pr) && decide (0 < p.2))
/-- What is known of a peer when the link comes up. -/
def upKn (c : LC) (p : Int × Int) : Kn := { ro := 0, ad := p.1, st := if upIs c p then 1 else 0, pr := p.2, dr := 0, bd := 0, op := 0, lf := if upIs c p then c.dd else 0, wa := false, fu := false }

/-- The peers in the link's row: so many of them. -/
structure UpInv (w1 : World) (B : Nat) (c : LC) (st wt : Int) (L : List (Int × Int)) (k : Nat) (W : World) : Prop where
  f : Frame (fun j => j = B) w1 W
  o : ∃ (v : Value) (xs : List (Nat × Kn)), Blk W B 119 (lks c st 0 0 wt 0 0 0 v) ∧ W.ownsRow w1.heap.size 137 1 v k (xs.map fun x : Nat × Kn => .pointer (some ⟨x.1, 0, none⟩)) ∧ xs.map (·.2) = (L.take k).map (upKn c) ∧ (xs.map (·.1)).Nodup ∧ ∀ x ∈ xs, Blk W x.1 139 x.2.cells ∧ w1.heap.size ≤ x.1

theorem frame_below {B N : Nat} {w w' : World} (h : Frame (fun j => j = B) w w') (hN : N ≤ B) (hB : B < w.heap.size) : Below N w w' := ⟨h.os, h.tape, h.output, h.size, fun k hk => h.block k (by omega) (by omega)⟩

theorem UpInv.step {W2 wr W3 w4 : World} {B : Nat} {c : LC} {st wt : Int} {L : List (Int × Int)} {k vm : Nat} {va : Option Addr} {v1 : Value} {xs : List (Nat × Kn)} {p : Int × Int} (hB : B < W2.heap.size)
    (hf : Frame (fun j => j = B) W2 wr) (kb : Blk wr B 119 (lks c st 0 0 wt 0 0 0 (.slice va k vm))) (hown : wr.ownsRow W2.heap.size 137 1 (.slice va k vm) k (xs.map fun x : Nat × Kn => .pointer (some ⟨x.1, 0, none⟩)))
    (hxs : xs.map (·.2) = (L.take k).map (upKn c)) (hnd : (xs.map (·.1)).Nodup) (hall : ∀ x ∈ xs, Blk wr x.1 139 x.2.cells ∧ W2.heap.size ≤ x.1) (hpk : L[k]? = some p)
    (kn : Blk W3 (wr.heap.size + 1) 139 (upKn c p).cells) (hb3 : Below wr.heap.size wr W3) (hs3 : W3.heap.size = wr.heap.size + 1 + 1)
    (hg : (W3.alloc (.cells #[.pointer (some ⟨wr.heap.size + 1, 0, none⟩)] 137)).grownBy w4 (Value.slice va k vm).ownBlock)
    (hown4 : w4.ownsRow W2.heap.size 137 1 v1 (k + 1) ((xs.map fun x : Nat × Kn => .pointer (some ⟨x.1, 0, none⟩)) ++ [.pointer (some ⟨wr.heap.size + 1, 0, none⟩)])) :
    UpInv W2 B c st wt L (k + 1) (w4.setCell ⟨B, 22, none⟩ v1) := by
  have hsr := hf.size
  have hown3 : (W3.alloc (.cells #[.pointer (some ⟨wr.heap.size + 1, 0, none⟩)] 137)).ownsRow W2.heap.size 137 1 (.slice va k vm) k (xs.map fun x : Nat × Kn => .pointer (some ⟨x.1, 0, none⟩)) :=
    (Frame.of_below (S := fun _ => False) (hb3.alloc (by omega) _)).own hown (fun _ _ e => e)
  have hblk : ∀ {g : Nat} {t : TypeId} {cs : Array Value}, Blk (W3.alloc (.cells #[.pointer (some ⟨wr.heap.size + 1, 0, none⟩)] 137)) g t cs → t ≠ 137 → Blk w4 g t cs := fun {g t cs} h ht =>
    h.grown hg (fun e => by
      obtain ⟨_, cur, hc⟩ := own_cells hown3 g e.symm
      exact absurd rfl (h.ne_ (t' := 137) (cs' := cur) hc ht))
  have kb4 : Blk w4 B 119 (lks c st 0 0 wt 0 0 0 (.slice va k vm)) := hblk ((kb.below hb3 kb.lt).alloc _) (by decide)
  refine ⟨?_, v1, xs ++ [(wr.heap.size + 1, upKn c p)], kb4.set_ 22 _, ?_, ?_, ?_, ?_⟩
  · have h3 : Frame (fun j => j = B) W2 (W3.alloc (.cells #[.pointer (some ⟨wr.heap.size + 1, 0, none⟩)] 137)) := (hf.trans (Frame.of_below hb3)).alloc _
    have h4 : Frame (fun j => j = B) W2 w4 := h3.trans' (Frame.of_grown (S := fun j => (Value.slice va k vm).ownBlock = some j) hg (fun j e _ => e)) (fun i hi e => by have := (own_cells hown3 i e).1; omega)
    exact h4.setCell (p := ⟨B, 22, none⟩) (fun _ => rfl) _
  · rw [List.map_append]
    exact ((Frame.refl (fun j => j = B) w4).setCell (p := ⟨B, 22, none⟩) (fun _ => rfl) _).own hown4 (fun g hg e => by have := (own_cells hown4 g hg).1; omega)
  · rw [List.map_append, hxs, List.take_add_one, hpk, List.map_append]
    rfl
  · rw [List.map_append]
    refine List.nodup_append.2 ⟨hnd, by simp, fun a ha b hb e => ?_⟩
    obtain ⟨x, hx, rfl⟩ := List.mem_map.1 ha
    have h1 := (hall x hx).1.lt
    have h2 : b = wr.heap.size + 1 := by simpa using hb
    omega
  · have hfar : ∀ {g : Nat} {cs : Array Value}, Blk w4 g 139 cs → Blk (w4.setCell ⟨B, 22, none⟩ v1) g 139 cs := fun {g cs} h => h.far (h.ne_ kb4 (by decide)) _
    intro x hx
    rcases List.mem_append.1 hx with hx | hx
    · obtain ⟨h1, h2⟩ := hall x hx
      exact ⟨hfar (hblk ((h1.below hb3 h1.lt).alloc _) (by decide)), h2⟩
    · obtain rfl : x = (wr.heap.size + 1, upKn c p) := by simpa using hx
      exact ⟨hfar (hblk (kn.alloc _) (by decide)), by show W2.heap.size ≤ wr.heap.size + 1; omega⟩

theorem round_up (w : World) (B b : Nat) (c : LC) (st dr bd wt nx po re : Int) (va : Option Addr) (vm : Nat) (L : List (Int × Int)) (xs : List (Nat × Kn)) (hn0 : 0 ≤ c.nb) (hn1 : c.nb ≤ 32) (hp : c.peers = true) (hlen : L.length ≤ 100000)
    (k : Blk w B 119 (lks c st dr bd wt nx po re (.slice va L.length vm))) (hown : w.ownsRow b 137 1 (.slice va L.length vm) L.length (xs.map fun x : Nat × Kn => .pointer (some ⟨x.1, 0, none⟩)))
    (hxs : xs.map (·.2) = (L.take L.length).map (upKn c)) (hxl : xs.length = L.length) (hall : ∀ x ∈ xs, Blk w x.1 139 x.2.cells) :
    Calls Try.prog 69 #[.pointer (some ⟨B, 0, none⟩), .bool false] w fun e w' => (∃ a n k, e = .returned (.slice a n k)) ∧ Below w.heap.size w w' := by
  have hst : ∀ x ∈ xs, x.2.st < 2 := by
    intro x hx
    have : x.2 ∈ xs.map (·.2) := List.mem_map.2 ⟨x, hx, rfl⟩
    rw [hxs] at this
    obtain ⟨p, _, hp⟩ := List.mem_map.1 this
    rw [← hp]
    show (if upIs c p then (1 : Int) else 0) < 2
    split <;> omega
  rcases hown.2 with ⟨h0, _⟩ | ⟨g, cap, cur, h1, _⟩
  · have hn : L.length = 0 := by injection h0
    rw [h0] at k
    exact round_peers_nil w B c st dr bd wt nx po re hp k
  · have hva : va = some ⟨g, 0, none⟩ := by injection h1
    subst hva
    rw [← hxl] at k hown
    refine round_peers w B c st dr bd wt nx po re g vm xs hn0 hn1 hp (by omega) k ⟨fun j x hj => ?_, hall⟩ hst
    have hjl : j < xs.length := (List.getElem?_eq_some_iff.1 hj).1
    rw [hown.cellAt j (by omega), List.getElem?_map, hj]
    rfl

def UpPeersPost (B : Nat) (c : LC) (L : List (Int × Int)) (w : World) (e : Ending) (w' : World) : Prop := ∃ v st wt nx po xs, e = .returned v ∧ 2 ≤ (st : Int) ∧ xs.map (·.2) = L.map (upKn c) ∧ LinkAt B w' B c st 0 0 wt nx po 0 xs ∧ Frame (fun j => j = B) w w'

set_option maxHeartbeats 4000000 in
set_option maxRecDepth 20000 in
theorem upp_two (w : World) (B : Nat) (c : LC) (L : List (Int × Int)) (hn0 : 0 ≤ c.nb) (hn1 : c.nb ≤ 32) (hp : c.peers = true) (hps : c.ps = false) (hL : PeersAt w w.heap.size c.pe L) (hne : ∀ ad n k, c.pe = .slice (some ad) n k → ad.block ≠ B) (hlen : L.length ≤ 100000) (hsh : c.shared = false) (hty : (c.ty == 2) = true) (k : Blk w B 119 (lks c 0 0 0 0 0 0 0 (.slice none 0 0))) :
    Calls Try.prog 33 #[.pointer (some ⟨B, 0, none⟩)] w fun e w' => UpPeersPost B c L w e w' := by
  obtain ⟨i0, hi, hz0, hz1, hz2⟩ := info_parts known_info
  obtain ⟨A, cap, hpe, hr⟩ := hL
  have HPE := Lib.hid hpe
  have HR := Lib.hid hr
  have HNe := Lib.hid hne
  have hp2 : ∀ W, Calls Try.prog 68 #[.agg #[.int .u8 c.ty, .int .u32 c.ro, .int .u32 c.na, .int .u8 c.nb, .int .u32 c.ad, .int .u8 c.op, .int .u16 c.hi, .int .u32 c.dd, .int .u16 c.po, .int .u8 c.pr, .bool c.dm, .bool c.ps, c.pe, .int .u32 c.rm]] W fun e w' => e = .returned (.bool false) ∧ Below W.heap.size W w' := fun W => by have h := shared_any c W; rw [hsh] at h; exact h
  have HP := Lib.hid hp2
  have HPeers := Lib.hid hp
  have K := Lib.hid k
  have hlt : B < w.heap.size := k.lt
  have c1 : w.cell? ⟨B, 1, none⟩ = some (.int .u8 c.ty) := k.cell 1
  have c2 : w.cell? ⟨B, 2, none⟩ = some (.int .u32 c.ro) := k.cell 2
  have c3 : w.cell? ⟨B, 3, none⟩ = some (.int .u32 c.na) := k.cell 3
  have c4 : w.cell? ⟨B, 4, none⟩ = some (.int .u8 c.nb) := k.cell 4
  have c5 : w.cell? ⟨B, 5, none⟩ = some (.int .u32 c.ad) := k.cell 5
  have c6 : w.cell? ⟨B, 6, none⟩ = some (.int .u8 c.op) := k.cell 6
  have c7 : w.cell? ⟨B, 7, none⟩ = some (.int .u16 c.hi) := k.cell 7
  have c8 : w.cell? ⟨B, 8, none⟩ = some (.int .u32 c.dd) := k.cell 8
  have c9 : w.cell? ⟨B, 9, none⟩ = some (.int .u16 c.po) := k.cell 9
  have c10 : w.cell? ⟨B, 10, none⟩ = some (.int .u8 c.pr) := k.cell 10
  have c11 : w.cell? ⟨B, 11, none⟩ = some (.bool c.dm) := k.cell 11
  have c12 : w.cell? ⟨B, 12, none⟩ = some (.bool c.ps) := k.cell 12
  have c13 : w.cell? ⟨B, 13, none⟩ = some (c.pe) := k.cell 13
  have c14 : w.cell? ⟨B, 14, none⟩ = some (.int .u32 c.rm) := k.cell 14
  have c15 : w.cell? ⟨B, 15, none⟩ = some (.int .u8 0) := k.cell 15
  have c12' : w.cell? ⟨B, 12, none⟩ = some (.bool false) := c12.trans (by rw [hps])
  clear c12
  have H_hty := Lib.hid hty
  clear hty
  clear k hp2 hps hpe hsh hr hne hp
  go_enter Try.func33, Try.ntmps33
  go_upto_region 7 with (go_at_call 67; refine (none_lk _ _ _ K.out rfl).mono ?_; rintro e w' ⟨rfl, rfl⟩)
  have c12 : w.cell? ⟨B, 12, none⟩ = some (.bool c.ps) := K.out.cell 12
  clear c12'
  go_wp2_with fail
  refine (HP.out _).mono ?_
  rintro e w1 ⟨rfl, hb1⟩
  have K1 := Lib.hid (K.out.below hb1 K.out.lt)
  have HB1 := Lib.hid hb1
  clear c1 c2 c3 c4 c5 c6 c7 c8 c9 c10 c11 c12 c13 c14 c15 hb1
  have hty := H_hty.out
  have d8 : w1.cell? ⟨B, 8, none⟩ = some (.int .u32 c.dd) := K1.out.cell 8
  have d10 : w1.cell? ⟨B, 10, none⟩ = some (.int .u8 c.pr) := K1.out.cell 10
  have d13 : w1.cell? ⟨B, 13, none⟩ = some (.slice A L.length cap) := (K1.out.cell 13).trans (congrArg some HPE.out)
  have d15 : w1.cell? ⟨B, 15, none⟩ = some (.int .u8 0) := K1.out.cell 15
  have d18 : w1.cell? ⟨B, 18, none⟩ = some (.int .u32 0) := K1.out.cell 18
  have d22 : w1.cell? ⟨B, 22, none⟩ = some (.slice none 0 0) := K1.out.cell 22
  have fz := K1.out.frozen
  have hl1 : B < w1.heap.size := K1.out.lt
  go_wp2_with fail
  obtain ⟨W2, hW2⟩ : ∃ W2, W2 = (w1.setCell ⟨B, 15, none⟩ (.int .u8 3)).setCell ⟨B, 22, none⟩ (.slice none 0 0) := ⟨_, rfl⟩
  have K2 : Hid (Blk W2 B 119 (lks c 3 0 0 (0) 0 0 0 (.slice none 0 0))) := Lib.hid (by rw [hW2]; exact ((K1.out.set_ 15 (.int .u8 3)).set_ 22 (.slice none 0 0)))
  have F2 : Hid (Frame (fun j => j = B) w W2) := Lib.hid (by rw [hW2]; exact (((Frame.of_below HB1.out).setB 15 _).setB 22 _))
  rw [← hW2]
  clear hW2 d8 d10 d13 d15 d18 d22 fz hl1 hty
  have hwW : w.heap.size ≤ W2.heap.size := F2.out.size
  have hBW2 : B < W2.heap.size := by omega
  go_loopw [64] (fun x wr => ∃ k : Nat, k ≤ L.length ∧ x = .int .i64 k ∧ UpInv W2 B c 3 (0) L k wr) (fun x _ => L.length - (intOf x).toNat)
  case atStart => exact ⟨0, Nat.zero_le _, rfl, Frame.refl _ _, .slice none 0 0, [], K2.out, World.ownsRow_nil _ _ _ _, by simp, by simp, by simp⟩
  case round =>
    obtain ⟨k, hk, rfl, hf, v, xs, kb, hown, hxs, hnd, hall⟩ := hrel
    obtain ⟨va, vm, rfl⟩ := own_slice hown
    have HF := Lib.hid hf
    have KB := Lib.hid kb
    have HOwn := Lib.hid hown
    have HXs := Lib.hid hxs
    have HAll := Lib.hid hall
    have HNd := Lib.hid hnd
    have b1 : wr.cell? ⟨B, 1, none⟩ = some (.int .u8 c.ty) := kb.cell 1
    have b6 : wr.cell? ⟨B, 6, none⟩ = some (.int .u8 c.op) := kb.cell 6
    have b7 : wr.cell? ⟨B, 7, none⟩ = some (.int .u16 c.hi) := kb.cell 7
    have b8 : wr.cell? ⟨B, 8, none⟩ = some (.int .u32 c.dd) := kb.cell 8
    have b9 : wr.cell? ⟨B, 9, none⟩ = some (.int .u16 c.po) := kb.cell 9
    have b10 : wr.cell? ⟨B, 10, none⟩ = some (.int .u8 c.pr) := kb.cell 10
    have b22 : wr.cell? ⟨B, 22, none⟩ = some (.slice va k vm) := kb.cell 22
    have hlr : B < wr.heap.size := kb.lt
    have hsr : W2.heap.size ≤ wr.heap.size := hf.size
    clear hf kb hown hxs hnd hall
    by_cases hlt2 : k < L.length
    · obtain ⟨p, hpk⟩ : ∃ p, L[k]? = some p := ⟨_, List.getElem?_eq_getElem hlt2⟩
      have HPk := Lib.hid hpk
      have hrr : Reads wr w.heap.size 2 A L.length (L.flatMap pcells) := HF.out.reads (F2.out.reads HR.out (Nat.le_refl _) (fun ad e => HNe.out ad _ _ (by rw [HPE.out, e]))) (by omega) (fun ad e => HNe.out ad _ _ (by rw [HPE.out, e]))
      obtain ⟨pb, off, rfl, hpb, q0, q1⟩ := hrr.peer hpk
      clear hrr hpk
      have e_ty := H_hty.out
      go_upto_region 18 with fail
      have hkn : (upKn c p).cells = #[.int .u32 0, .int .u32 p.1, .int .u8 1, .int .u8 p.2, .int .u32 0, .int .u32 0, .int .u8 0, .int .u32 (c.dd), .bool false, .bool false] := by simp [Kn.cells, upKn, upIs, e_ty]
      obtain ⟨W3, hW3⟩ : ∃ W3, W3 = ((wr.alloc (.cells #[.int .u32 p.1, .int .u8 p.2] 136)).alloc (.cells #[.int .u32 0, .int .u32 p.1, .int .u8 1, .int .u8 p.2, .int .u32 0, .int .u32 0, .int .u8 0, .int .u32 (c.dd), .bool false, .bool false] 139)) := ⟨_, rfl⟩
      have KN3 : Hid (Blk W3 (wr.heap.size + 1) 139 (upKn c p).cells) := Lib.hid (by rw [hW3, hkn]; have := Blk.new (wr.alloc (.cells #[.int .u32 p.1, .int .u8 p.2] 136)) 139 #[.int .u32 0, .int .u32 p.1, .int .u8 1, .int .u8 p.2, .int .u32 0, .int .u32 0, .int .u8 0, .int .u32 (c.dd), .bool false, .bool false]; rw [World.size_alloc] at this; exact this)
      have HB3 : Hid (Below wr.heap.size wr W3) := Lib.hid (by rw [hW3]; exact ((Below.refl _ wr).alloc (Nat.le_refl _) _).alloc (by simp) _)
      have HS3 : Hid (W3.heap.size = wr.heap.size + 1 + 1) := Lib.hid (by rw [hW3]; simp)
      have hsz3 : W2.heap.size ≤ W3.heap.size := by have := HS3.out; omega
      rw [← hW3]
      clear hW3 hkn b1 b6 b7 b8 b9 b10 b22 q0 q1
      have KB3 := Lib.hid (KB.out.below HB3.out hlr)
      have d22 : W3.cell? ⟨B, 22, none⟩ = some (.slice va k vm) := KB3.out.cell 22
      have HOwn3 : Hid ((W3.alloc (.cells #[.pointer (some ⟨wr.heap.size + 1, 0, none⟩)] 137)).ownsRow W2.heap.size 137 1 (.slice va k vm) k (xs.map fun x : Nat × Kn => .pointer (some ⟨x.1, 0, none⟩))) := Lib.hid ((Frame.of_below (S := fun _ => False) (HB3.out.alloc HB3.out.size _)).own HOwn.out (fun _ _ e => e))
      have KB4 : Hid (Blk (W3.alloc (.cells #[.pointer (some ⟨wr.heap.size + 1, 0, none⟩)] 137)) B 119 (lks c 3 0 0 (0) 0 0 0 (.slice va k vm))) := Lib.hid (KB3.out.alloc _)
      have HLit := Lib.hid (Reads.of_own (World.ownsRow_lit (base := 0) (e := 137) (size := 1) W3 #[.pointer (some ⟨wr.heap.size + 1, 0, none⟩)] 1 (Nat.zero_le _) (by simp [maxLen]) rfl))
      go_upto_region 19 with (at_builtin; refine wpList_append_any _ rfl (.tmp 111) (.tmp 113) _ rfl W2.heap.size 137 i0 _ 1 8 Try.underlying117 hi hz0 hz1 hz2 rfl (by omega) (.slice va k vm) k _ rfl HOwn3.out _ (some ⟨W3.heap.size, 0, none⟩) 1 1 [.pointer (some ⟨wr.heap.size + 1, 0, none⟩)] rfl HLit.out (by simp [Value.oneCell']) (by unfold maxLen; omega) (by omega) (by simp; omega) ?_; intro v1 w4 hown5 hg5 _; have HOwn5 := Lib.hid hown5; have HG5 := Lib.hid hg5; have kB4 := KB4.out.grown hg5 (fun e => by obtain ⟨_, cur, hc⟩ := own_cells HOwn3.out B e.symm; exact absurd rfl (KB4.out.ne_ (t' := 137) (cs' := cur) hc (by decide))); have d22 : w4.cell? ⟨B, 22, none⟩ = some (.slice va k vm) := kB4.cell 22; have fz4 := kB4.frozen 22; have hl4 := kB4.lt; clear hown5 hg5 kB4; obtain ⟨vb, vn, rfl⟩ := own_slice HOwn5.out)
      have HStep := Lib.hid (UpInv.step (p := p) hBW2 HF.out KB.out HOwn.out HXs.out HNd.out HAll.out HPk.out KN3.out HB3.out HS3.out HG5.out HOwn5.out)
      clear d22 fz4 hl4
      go_wp2_with fail
      go_roundw
      case rel => exact ⟨k + 1, by omega, by simp, HStep.out⟩
      case measure => simp [intOf]; omega

    · obtain rfl : k = L.length := by omega
      have b19 : wr.cell? ⟨B, 19, none⟩ = some (.int .u32 0) := KB.out.cell 19
      have b20 : wr.cell? ⟨B, 20, none⟩ = some (.int .u32 0) := KB.out.cell 20
      have fz := KB.out.frozen
      clear hlt2 b1 b6 b8 b10 b22
      go_wp2_with fail
      go_cut [] from 118 to 135 (fun wx => ∃ nx po, Blk wx B 119 (lks c 3 0 0 (0) nx po 0 (.slice va L.length vm)) ∧ Frame (fun j => j = B) wr wx)
      case first =>
        go_region_held3 (fun w' => w'.cell? ⟨B, 7, none⟩ = some (.int .u16 c.hi) ∧ w'.cell? ⟨B, 9, none⟩ = some (.int .u16 c.po)) (first
          | assumption
          | exact ⟨KB.out.drew.cell 7, KB.out.drew.cell 9⟩
          | exact ⟨(KB.out.set_ 19 _).drew.cell 7, (KB.out.set_ 19 _).drew.cell 9⟩
          | exact ⟨((KB.out.set_ 19 _).set_ 20 _).drew.cell 7, ((KB.out.set_ 19 _).set_ 20 _).drew.cell 9⟩) (fail)
        all_goals
          go_wp2_with fail
          go_meet
          exact ⟨_, _, ((KB.out.set_ 19 (.int .u32 _)).set_ 20 (.int .u32 _)).drew, (((Frame.refl (fun j => j = B) wr).setB 19 _).setB 20 _).drew⟩
      obtain ⟨nx, po, kc, hfc⟩ := hcut
      have KC := Lib.hid kc
      have FC := Lib.hid hfc
      have hlc := kc.lt
      have hBc : Hid (Frame (fun j => j = B) w wc) := Lib.hid ((F2.out.trans HF.out).trans FC.out)
      have HAllC : Hid (∀ x ∈ xs, Blk wc x.1 139 x.2.cells ∧ w.heap.size ≤ x.1) := Lib.hid fun x hx => ⟨FC.out.blk (HAll.out x hx).1 ((HAll.out x hx).1.ne_ KB.out (by decide)), Nat.le_trans hwW (HAll.out x hx).2⟩
      have hsc := FC.out.size
      have HOwnC : Hid (wc.ownsRow W2.heap.size 137 1 (.slice va L.length vm) L.length (xs.map fun x : Nat × Kn => .pointer (some ⟨x.1, 0, none⟩))) := Lib.hid (FC.out.own HOwn.out (fun g hg e => by obtain ⟨h1, _⟩ := own_cells HOwn.out g hg; omega))
      have hxl : xs.length = L.length := by have := congrArg List.length HXs.out; simpa using this
      have hround : Hid (Calls Try.prog 69 #[.pointer (some ⟨B, 0, none⟩), .bool false] wc fun e w' => (∃ a n k, e = .returned (.slice a n k)) ∧ Below wc.heap.size wc w') := Lib.hid (round_up wc B W2.heap.size c 3 0 0 (0) nx po 0 va vm L xs hn0 hn1 HPeers.out hlen KC.out HOwnC.out HXs.out hxl (fun x hx => (HAllC.out x hx).1))
      clear kc hfc b7 b9 b19 b20 fz
      go_wp2_with fail
      refine hround.out.mono ?_
      rintro e w3 ⟨⟨a, n, m, rfl⟩, hb3⟩
      have HB3 := Lib.hid hb3
      clear hb3
      go_wp2_with fail
      go_ret
      refine ⟨_, 3, _, nx, po, xs, rfl, by decide, ?_, ⟨Nat.le_refl _, ⟨_, KC.out.below HB3.out hlc, ?_⟩, fun x hx => ⟨((HAllC.out x hx).1.below HB3.out (HAllC.out x hx).1.lt), by have := (HAllC.out x hx).2; omega⟩, HNd.out⟩, hBc.out.trans (Frame.of_below HB3.out)⟩
      · have := HXs.out
        rwa [List.take_length] at this
      · rw [hxl]
        exact ownsRow_lower ((Frame.of_below (S := fun _ => False) HB3.out).own HOwnC.out (fun _ _ e => e)) (by omega)

set_option maxHeartbeats 4000000 in
set_option maxRecDepth 20000 in
theorem upp_other (w : World) (B : Nat) (c : LC) (L : List (Int × Int)) (hn0 : 0 ≤ c.nb) (hn1 : c.nb ≤ 32) (hp : c.peers = true) (hps : c.ps = false) (hL : PeersAt w w.heap.size c.pe L) (hne : ∀ ad n k, c.pe = .slice (some ad) n k → ad.block ≠ B) (hlen : L.length ≤ 100000) (hsh : c.shared = true) (hty : (c.ty == 2) = false) (h8 : c.pr = 0) (k : Blk w B 119 (lks c 0 0 0 0 0 0 0 (.slice none 0 0))) :
    Calls Try.prog 33 #[.pointer (some ⟨B, 0, none⟩)] w fun e w' => UpPeersPost B c L w e w' := by
  obtain ⟨i0, hi, hz0, hz1, hz2⟩ := info_parts known_info
  obtain ⟨A, cap, hpe, hr⟩ := hL
  have HPE := Lib.hid hpe
  have HR := Lib.hid hr
  have HNe := Lib.hid hne
  have hp2 : ∀ W, Calls Try.prog 68 #[.agg #[.int .u8 c.ty, .int .u32 c.ro, .int .u32 c.na, .int .u8 c.nb, .int .u32 c.ad, .int .u8 c.op, .int .u16 c.hi, .int .u32 c.dd, .int .u16 c.po, .int .u8 c.pr, .bool c.dm, .bool c.ps, c.pe, .int .u32 c.rm]] W fun e w' => e = .returned (.bool true) ∧ Below W.heap.size W w' := fun W => by have h := shared_any c W; rw [hsh] at h; exact h
  have HP := Lib.hid hp2
  have HPeers := Lib.hid hp
  have K := Lib.hid k
  have hlt : B < w.heap.size := k.lt
  have c1 : w.cell? ⟨B, 1, none⟩ = some (.int .u8 c.ty) := k.cell 1
  have c2 : w.cell? ⟨B, 2, none⟩ = some (.int .u32 c.ro) := k.cell 2
  have c3 : w.cell? ⟨B, 3, none⟩ = some (.int .u32 c.na) := k.cell 3
  have c4 : w.cell? ⟨B, 4, none⟩ = some (.int .u8 c.nb) := k.cell 4
  have c5 : w.cell? ⟨B, 5, none⟩ = some (.int .u32 c.ad) := k.cell 5
  have c6 : w.cell? ⟨B, 6, none⟩ = some (.int .u8 c.op) := k.cell 6
  have c7 : w.cell? ⟨B, 7, none⟩ = some (.int .u16 c.hi) := k.cell 7
  have c8 : w.cell? ⟨B, 8, none⟩ = some (.int .u32 c.dd) := k.cell 8
  have c9 : w.cell? ⟨B, 9, none⟩ = some (.int .u16 c.po) := k.cell 9
  have c10 : w.cell? ⟨B, 10, none⟩ = some (.int .u8 c.pr) := k.cell 10
  have c11 : w.cell? ⟨B, 11, none⟩ = some (.bool c.dm) := k.cell 11
  have c12 : w.cell? ⟨B, 12, none⟩ = some (.bool c.ps) := k.cell 12
  have c13 : w.cell? ⟨B, 13, none⟩ = some (c.pe) := k.cell 13
  have c14 : w.cell? ⟨B, 14, none⟩ = some (.int .u32 c.rm) := k.cell 14
  have c15 : w.cell? ⟨B, 15, none⟩ = some (.int .u8 0) := k.cell 15
  have c12' : w.cell? ⟨B, 12, none⟩ = some (.bool false) := c12.trans (by rw [hps])
  clear c12
  have H_hty := Lib.hid hty
  have H_h8 := Lib.hid h8
  clear hty h8
  clear k hp2 hps hpe hsh hr hne hp
  go_enter Try.func33, Try.ntmps33
  go_upto_region 7 with (go_at_call 67; refine (none_lk _ _ _ K.out rfl).mono ?_; rintro e w' ⟨rfl, rfl⟩)
  have c12 : w.cell? ⟨B, 12, none⟩ = some (.bool c.ps) := K.out.cell 12
  clear c12'
  go_wp2_with fail
  refine (HP.out _).mono ?_
  rintro e w1 ⟨rfl, hb1⟩
  have K1 := Lib.hid (K.out.below hb1 K.out.lt)
  have HB1 := Lib.hid hb1
  clear c1 c2 c3 c4 c5 c6 c7 c8 c9 c10 c11 c12 c13 c14 c15 hb1
  have hty := H_hty.out
  have h8 := H_h8.out
  have d8 : w1.cell? ⟨B, 8, none⟩ = some (.int .u32 c.dd) := K1.out.cell 8
  have d10 : w1.cell? ⟨B, 10, none⟩ = some (.int .u8 c.pr) := K1.out.cell 10
  have d13 : w1.cell? ⟨B, 13, none⟩ = some (.slice A L.length cap) := (K1.out.cell 13).trans (congrArg some HPE.out)
  have d15 : w1.cell? ⟨B, 15, none⟩ = some (.int .u8 0) := K1.out.cell 15
  have d18 : w1.cell? ⟨B, 18, none⟩ = some (.int .u32 0) := K1.out.cell 18
  have d22 : w1.cell? ⟨B, 22, none⟩ = some (.slice none 0 0) := K1.out.cell 22
  have fz := K1.out.frozen
  have hl1 : B < w1.heap.size := K1.out.lt
  go_wp2_with fail
  obtain ⟨W2, hW2⟩ : ∃ W2, W2 = (w1.setCell ⟨B, 15, none⟩ (.int .u8 4)).setCell ⟨B, 22, none⟩ (.slice none 0 0) := ⟨_, rfl⟩
  have K2 : Hid (Blk W2 B 119 (lks c 4 0 0 (0) 0 0 0 (.slice none 0 0))) := Lib.hid (by rw [hW2]; exact ((K1.out.set_ 15 (.int .u8 4)).set_ 22 (.slice none 0 0)))
  have F2 : Hid (Frame (fun j => j = B) w W2) := Lib.hid (by rw [hW2]; exact (((Frame.of_below HB1.out).setB 15 _).setB 22 _))
  rw [← hW2]
  clear hW2 d8 d10 d13 d15 d18 d22 fz hl1 hty h8
  have hwW : w.heap.size ≤ W2.heap.size := F2.out.size
  have hBW2 : B < W2.heap.size := by omega
  go_loopw [64] (fun x wr => ∃ k : Nat, k ≤ L.length ∧ x = .int .i64 k ∧ UpInv W2 B c 4 (0) L k wr) (fun x _ => L.length - (intOf x).toNat)
  case atStart => exact ⟨0, Nat.zero_le _, rfl, Frame.refl _ _, .slice none 0 0, [], K2.out, World.ownsRow_nil _ _ _ _, by simp, by simp, by simp⟩
  case round =>
    obtain ⟨k, hk, rfl, hf, v, xs, kb, hown, hxs, hnd, hall⟩ := hrel
    obtain ⟨va, vm, rfl⟩ := own_slice hown
    have HF := Lib.hid hf
    have KB := Lib.hid kb
    have HOwn := Lib.hid hown
    have HXs := Lib.hid hxs
    have HAll := Lib.hid hall
    have HNd := Lib.hid hnd
    have b1 : wr.cell? ⟨B, 1, none⟩ = some (.int .u8 c.ty) := kb.cell 1
    have b6 : wr.cell? ⟨B, 6, none⟩ = some (.int .u8 c.op) := kb.cell 6
    have b7 : wr.cell? ⟨B, 7, none⟩ = some (.int .u16 c.hi) := kb.cell 7
    have b8 : wr.cell? ⟨B, 8, none⟩ = some (.int .u32 c.dd) := kb.cell 8
    have b9 : wr.cell? ⟨B, 9, none⟩ = some (.int .u16 c.po) := kb.cell 9
    have b10 : wr.cell? ⟨B, 10, none⟩ = some (.int .u8 c.pr) := kb.cell 10
    have b22 : wr.cell? ⟨B, 22, none⟩ = some (.slice va k vm) := kb.cell 22
    have hlr : B < wr.heap.size := kb.lt
    have hsr : W2.heap.size ≤ wr.heap.size := hf.size
    clear hf kb hown hxs hnd hall
    by_cases hlt2 : k < L.length
    · obtain ⟨p, hpk⟩ : ∃ p, L[k]? = some p := ⟨_, List.getElem?_eq_getElem hlt2⟩
      have HPk := Lib.hid hpk
      have hrr : Reads wr w.heap.size 2 A L.length (L.flatMap pcells) := HF.out.reads (F2.out.reads HR.out (Nat.le_refl _) (fun ad e => HNe.out ad _ _ (by rw [HPE.out, e]))) (by omega) (fun ad e => HNe.out ad _ _ (by rw [HPE.out, e]))
      obtain ⟨pb, off, rfl, hpb, q0, q1⟩ := hrr.peer hpk
      clear hrr hpk
      have e_ty := H_hty.out
      have n_pr : ¬ 0 < c.pr := by rw [H_h8.out]; decide
      go_upto_region 18 with fail
      have hkn : (upKn c p).cells = #[.int .u32 0, .int .u32 p.1, .int .u8 0, .int .u8 p.2, .int .u32 0, .int .u32 0, .int .u8 0, .int .u32 (0), .bool false, .bool false] := by simp [Kn.cells, upKn, upIs, e_ty, n_pr]
      obtain ⟨W3, hW3⟩ : ∃ W3, W3 = ((wr.alloc (.cells #[.int .u32 p.1, .int .u8 p.2] 136)).alloc (.cells #[.int .u32 0, .int .u32 p.1, .int .u8 0, .int .u8 p.2, .int .u32 0, .int .u32 0, .int .u8 0, .int .u32 (0), .bool false, .bool false] 139)) := ⟨_, rfl⟩
      have KN3 : Hid (Blk W3 (wr.heap.size + 1) 139 (upKn c p).cells) := Lib.hid (by rw [hW3, hkn]; have := Blk.new (wr.alloc (.cells #[.int .u32 p.1, .int .u8 p.2] 136)) 139 #[.int .u32 0, .int .u32 p.1, .int .u8 0, .int .u8 p.2, .int .u32 0, .int .u32 0, .int .u8 0, .int .u32 (0), .bool false, .bool false]; rw [World.size_alloc] at this; exact this)
      have HB3 : Hid (Below wr.heap.size wr W3) := Lib.hid (by rw [hW3]; exact ((Below.refl _ wr).alloc (Nat.le_refl _) _).alloc (by simp) _)
      have HS3 : Hid (W3.heap.size = wr.heap.size + 1 + 1) := Lib.hid (by rw [hW3]; simp)
      have hsz3 : W2.heap.size ≤ W3.heap.size := by have := HS3.out; omega
      rw [← hW3]
      clear hW3 hkn b1 b6 b7 b8 b9 b10 b22 q0 q1
      have KB3 := Lib.hid (KB.out.below HB3.out hlr)
      have d22 : W3.cell? ⟨B, 22, none⟩ = some (.slice va k vm) := KB3.out.cell 22
      have HOwn3 : Hid ((W3.alloc (.cells #[.pointer (some ⟨wr.heap.size + 1, 0, none⟩)] 137)).ownsRow W2.heap.size 137 1 (.slice va k vm) k (xs.map fun x : Nat × Kn => .pointer (some ⟨x.1, 0, none⟩))) := Lib.hid ((Frame.of_below (S := fun _ => False) (HB3.out.alloc HB3.out.size _)).own HOwn.out (fun _ _ e => e))
      have KB4 : Hid (Blk (W3.alloc (.cells #[.pointer (some ⟨wr.heap.size + 1, 0, none⟩)] 137)) B 119 (lks c 4 0 0 (0) 0 0 0 (.slice va k vm))) := Lib.hid (KB3.out.alloc _)
      have HLit := Lib.hid (Reads.of_own (World.ownsRow_lit (base := 0) (e := 137) (size := 1) W3 #[.pointer (some ⟨wr.heap.size + 1, 0, none⟩)] 1 (Nat.zero_le _) (by simp [maxLen]) rfl))
      go_upto_region 19 with (at_builtin; refine wpList_append_any _ rfl (.tmp 111) (.tmp 113) _ rfl W2.heap.size 137 i0 _ 1 8 Try.underlying117 hi hz0 hz1 hz2 rfl (by omega) (.slice va k vm) k _ rfl HOwn3.out _ (some ⟨W3.heap.size, 0, none⟩) 1 1 [.pointer (some ⟨wr.heap.size + 1, 0, none⟩)] rfl HLit.out (by simp [Value.oneCell']) (by unfold maxLen; omega) (by omega) (by simp; omega) ?_; intro v1 w4 hown5 hg5 _; have HOwn5 := Lib.hid hown5; have HG5 := Lib.hid hg5; have kB4 := KB4.out.grown hg5 (fun e => by obtain ⟨_, cur, hc⟩ := own_cells HOwn3.out B e.symm; exact absurd rfl (KB4.out.ne_ (t' := 137) (cs' := cur) hc (by decide))); have d22 : w4.cell? ⟨B, 22, none⟩ = some (.slice va k vm) := kB4.cell 22; have fz4 := kB4.frozen 22; have hl4 := kB4.lt; clear hown5 hg5 kB4; obtain ⟨vb, vn, rfl⟩ := own_slice HOwn5.out)
      have HStep := Lib.hid (UpInv.step (p := p) hBW2 HF.out KB.out HOwn.out HXs.out HNd.out HAll.out HPk.out KN3.out HB3.out HS3.out HG5.out HOwn5.out)
      clear d22 fz4 hl4
      go_wp2_with fail
      go_roundw
      case rel => exact ⟨k + 1, by omega, by simp, HStep.out⟩
      case measure => simp [intOf]; omega

    · obtain rfl : k = L.length := by omega
      have b19 : wr.cell? ⟨B, 19, none⟩ = some (.int .u32 0) := KB.out.cell 19
      have b20 : wr.cell? ⟨B, 20, none⟩ = some (.int .u32 0) := KB.out.cell 20
      have fz := KB.out.frozen
      clear hlt2 b1 b6 b8 b10 b22
      go_wp2_with fail
      go_cut [] from 118 to 135 (fun wx => ∃ nx po, Blk wx B 119 (lks c 4 0 0 (0) nx po 0 (.slice va L.length vm)) ∧ Frame (fun j => j = B) wr wx)
      case first =>
        go_region_held3 (fun w' => w'.cell? ⟨B, 7, none⟩ = some (.int .u16 c.hi) ∧ w'.cell? ⟨B, 9, none⟩ = some (.int .u16 c.po)) (first
          | assumption
          | exact ⟨KB.out.drew.cell 7, KB.out.drew.cell 9⟩
          | exact ⟨(KB.out.set_ 19 _).drew.cell 7, (KB.out.set_ 19 _).drew.cell 9⟩
          | exact ⟨((KB.out.set_ 19 _).set_ 20 _).drew.cell 7, ((KB.out.set_ 19 _).set_ 20 _).drew.cell 9⟩) (fail)
        all_goals
          go_wp2_with fail
          go_meet
          exact ⟨_, _, ((KB.out.set_ 19 (.int .u32 _)).set_ 20 (.int .u32 _)).drew, (((Frame.refl (fun j => j = B) wr).setB 19 _).setB 20 _).drew⟩
      obtain ⟨nx, po, kc, hfc⟩ := hcut
      have KC := Lib.hid kc
      have FC := Lib.hid hfc
      have hlc := kc.lt
      have hBc : Hid (Frame (fun j => j = B) w wc) := Lib.hid ((F2.out.trans HF.out).trans FC.out)
      have HAllC : Hid (∀ x ∈ xs, Blk wc x.1 139 x.2.cells ∧ w.heap.size ≤ x.1) := Lib.hid fun x hx => ⟨FC.out.blk (HAll.out x hx).1 ((HAll.out x hx).1.ne_ KB.out (by decide)), Nat.le_trans hwW (HAll.out x hx).2⟩
      have hsc := FC.out.size
      have HOwnC : Hid (wc.ownsRow W2.heap.size 137 1 (.slice va L.length vm) L.length (xs.map fun x : Nat × Kn => .pointer (some ⟨x.1, 0, none⟩))) := Lib.hid (FC.out.own HOwn.out (fun g hg e => by obtain ⟨h1, _⟩ := own_cells HOwn.out g hg; omega))
      have hxl : xs.length = L.length := by have := congrArg List.length HXs.out; simpa using this
      have hround : Hid (Calls Try.prog 69 #[.pointer (some ⟨B, 0, none⟩), .bool false] wc fun e w' => (∃ a n k, e = .returned (.slice a n k)) ∧ Below wc.heap.size wc w') := Lib.hid (round_up wc B W2.heap.size c 4 0 0 (0) nx po 0 va vm L xs hn0 hn1 HPeers.out hlen KC.out HOwnC.out HXs.out hxl (fun x hx => (HAllC.out x hx).1))
      clear kc hfc b7 b9 b19 b20 fz
      go_wp2_with fail
      refine hround.out.mono ?_
      rintro e w3 ⟨⟨a, n, m, rfl⟩, hb3⟩
      have HB3 := Lib.hid hb3
      clear hb3
      go_wp2_with fail
      go_ret
      refine ⟨_, 4, _, nx, po, xs, rfl, by decide, ?_, ⟨Nat.le_refl _, ⟨_, KC.out.below HB3.out hlc, ?_⟩, fun x hx => ⟨((HAllC.out x hx).1.below HB3.out (HAllC.out x hx).1.lt), by have := (HAllC.out x hx).2; omega⟩, HNd.out⟩, hBc.out.trans (Frame.of_below HB3.out)⟩
      · have := HXs.out
        rwa [List.take_length] at this
      · rw [hxl]
        exact ownsRow_lower ((Frame.of_below (S := fun _ => False) HB3.out).own HOwnC.out (fun _ _ e => e)) (by omega)

set_option maxHeartbeats 4000000 in
set_option maxRecDepth 20000 in
theorem upp_wait (w : World) (B : Nat) (c : LC) (L : List (Int × Int)) (hn0 : 0 ≤ c.nb) (hn1 : c.nb ≤ 32) (hp : c.peers = true) (hps : c.ps = false) (hL : PeersAt w w.heap.size c.pe L) (hne : ∀ ad n k, c.pe = .slice (some ad) n k → ad.block ≠ B) (hlen : L.length ≤ 100000) (hsh : c.shared = true) (hty : (c.ty == 2) = false) (h8 : c.pr ≠ 0) (k : Blk w B 119 (lks c 0 0 0 0 0 0 0 (.slice none 0 0))) :
    Calls Try.prog 33 #[.pointer (some ⟨B, 0, none⟩)] w fun e w' => UpPeersPost B c L w e w' := by
  obtain ⟨i0, hi, hz0, hz1, hz2⟩ := info_parts known_info
  obtain ⟨A, cap, hpe, hr⟩ := hL
  have HPE := Lib.hid hpe
  have HR := Lib.hid hr
  have HNe := Lib.hid hne
  have hp2 : ∀ W, Calls Try.prog 68 #[.agg #[.int .u8 c.ty, .int .u32 c.ro, .int .u32 c.na, .int .u8 c.nb, .int .u32 c.ad, .int .u8 c.op, .int .u16 c.hi, .int .u32 c.dd, .int .u16 c.po, .int .u8 c.pr, .bool c.dm, .bool c.ps, c.pe, .int .u32 c.rm]] W fun e w' => e = .returned (.bool true) ∧ Below W.heap.size W w' := fun W => by have h := shared_any c W; rw [hsh] at h; exact h
  have HP := Lib.hid hp2
  have HPeers := Lib.hid hp
  have K := Lib.hid k
  have hlt : B < w.heap.size := k.lt
  have c1 : w.cell? ⟨B, 1, none⟩ = some (.int .u8 c.ty) := k.cell 1
  have c2 : w.cell? ⟨B, 2, none⟩ = some (.int .u32 c.ro) := k.cell 2
  have c3 : w.cell? ⟨B, 3, none⟩ = some (.int .u32 c.na) := k.cell 3
  have c4 : w.cell? ⟨B, 4, none⟩ = some (.int .u8 c.nb) := k.cell 4
  have c5 : w.cell? ⟨B, 5, none⟩ = some (.int .u32 c.ad) := k.cell 5
  have c6 : w.cell? ⟨B, 6, none⟩ = some (.int .u8 c.op) := k.cell 6
  have c7 : w.cell? ⟨B, 7, none⟩ = some (.int .u16 c.hi) := k.cell 7
  have c8 : w.cell? ⟨B, 8, none⟩ = some (.int .u32 c.dd) := k.cell 8
  have c9 : w.cell? ⟨B, 9, none⟩ = some (.int .u16 c.po) := k.cell 9
  have c10 : w.cell? ⟨B, 10, none⟩ = some (.int .u8 c.pr) := k.cell 10
  have c11 : w.cell? ⟨B, 11, none⟩ = some (.bool c.dm) := k.cell 11
  have c12 : w.cell? ⟨B, 12, none⟩ = some (.bool c.ps) := k.cell 12
  have c13 : w.cell? ⟨B, 13, none⟩ = some (c.pe) := k.cell 13
  have c14 : w.cell? ⟨B, 14, none⟩ = some (.int .u32 c.rm) := k.cell 14
  have c15 : w.cell? ⟨B, 15, none⟩ = some (.int .u8 0) := k.cell 15
  have c12' : w.cell? ⟨B, 12, none⟩ = some (.bool false) := c12.trans (by rw [hps])
  clear c12
  have H_hty := Lib.hid hty
  have H_h8 := Lib.hid h8
  clear hty h8
  clear k hp2 hps hpe hsh hr hne hp
  go_enter Try.func33, Try.ntmps33
  go_upto_region 7 with (go_at_call 67; refine (none_lk _ _ _ K.out rfl).mono ?_; rintro e w' ⟨rfl, rfl⟩)
  have c12 : w.cell? ⟨B, 12, none⟩ = some (.bool c.ps) := K.out.cell 12
  clear c12'
  go_wp2_with fail
  refine (HP.out _).mono ?_
  rintro e w1 ⟨rfl, hb1⟩
  have K1 := Lib.hid (K.out.below hb1 K.out.lt)
  have HB1 := Lib.hid hb1
  clear c1 c2 c3 c4 c5 c6 c7 c8 c9 c10 c11 c12 c13 c14 c15 hb1
  have hty := H_hty.out
  have h8 := H_h8.out
  have e_h8 : (c.pr == 0) = false := by simpa using h8
  have d8 : w1.cell? ⟨B, 8, none⟩ = some (.int .u32 c.dd) := K1.out.cell 8
  have d10 : w1.cell? ⟨B, 10, none⟩ = some (.int .u8 c.pr) := K1.out.cell 10
  have d13 : w1.cell? ⟨B, 13, none⟩ = some (.slice A L.length cap) := (K1.out.cell 13).trans (congrArg some HPE.out)
  have d15 : w1.cell? ⟨B, 15, none⟩ = some (.int .u8 0) := K1.out.cell 15
  have d18 : w1.cell? ⟨B, 18, none⟩ = some (.int .u32 0) := K1.out.cell 18
  have d22 : w1.cell? ⟨B, 22, none⟩ = some (.slice none 0 0) := K1.out.cell 22
  have fz := K1.out.frozen
  have hl1 : B < w1.heap.size := K1.out.lt
  go_wp2_with fail
  obtain ⟨W2, hW2⟩ : ∃ W2, W2 = ((w1.setCell ⟨B, 15, none⟩ (.int .u8 2)).setCell ⟨B, 18, none⟩ (.int .u32 c.dd)).setCell ⟨B, 22, none⟩ (.slice none 0 0) := ⟨_, rfl⟩
  have K2 : Hid (Blk W2 B 119 (lks c 2 0 0 (c.dd) 0 0 0 (.slice none 0 0))) := Lib.hid (by rw [hW2]; exact (((K1.out.set_ 15 (.int .u8 2)).set_ 18 (.int .u32 c.dd)).set_ 22 (.slice none 0 0)))
  have F2 : Hid (Frame (fun j => j = B) w W2) := Lib.hid (by rw [hW2]; exact ((((Frame.of_below HB1.out).setB 15 _).setB 18 _).setB 22 _))
  rw [← hW2]
  clear hW2 d8 d10 d13 d15 d18 d22 fz hl1 hty h8
  have hwW : w.heap.size ≤ W2.heap.size := F2.out.size
  have hBW2 : B < W2.heap.size := by omega
  go_loopw [64] (fun x wr => ∃ k : Nat, k ≤ L.length ∧ x = .int .i64 k ∧ UpInv W2 B c 2 (c.dd) L k wr) (fun x _ => L.length - (intOf x).toNat)
  case atStart => exact ⟨0, Nat.zero_le _, rfl, Frame.refl _ _, .slice none 0 0, [], K2.out, World.ownsRow_nil _ _ _ _, by simp, by simp, by simp⟩
  case round =>
    obtain ⟨k, hk, rfl, hf, v, xs, kb, hown, hxs, hnd, hall⟩ := hrel
    obtain ⟨va, vm, rfl⟩ := own_slice hown
    have HF := Lib.hid hf
    have KB := Lib.hid kb
    have HOwn := Lib.hid hown
    have HXs := Lib.hid hxs
    have HAll := Lib.hid hall
    have HNd := Lib.hid hnd
    have b1 : wr.cell? ⟨B, 1, none⟩ = some (.int .u8 c.ty) := kb.cell 1
    have b6 : wr.cell? ⟨B, 6, none⟩ = some (.int .u8 c.op) := kb.cell 6
    have b7 : wr.cell? ⟨B, 7, none⟩ = some (.int .u16 c.hi) := kb.cell 7
    have b8 : wr.cell? ⟨B, 8, none⟩ = some (.int .u32 c.dd) := kb.cell 8
    have b9 : wr.cell? ⟨B, 9, none⟩ = some (.int .u16 c.po) := kb.cell 9
    have b10 : wr.cell? ⟨B, 10, none⟩ = some (.int .u8 c.pr) := kb.cell 10
    have b22 : wr.cell? ⟨B, 22, none⟩ = some (.slice va k vm) := kb.cell 22
    have hlr : B < wr.heap.size := kb.lt
    have hsr : W2.heap.size ≤ wr.heap.size := hf.size
    clear hf kb hown hxs hnd hall
    by_cases hlt2 : k < L.length
    · obtain ⟨p, hpk⟩ : ∃ p, L[k]? = some p := ⟨_, List.getElem?_eq_getElem hlt2⟩
      have HPk := Lib.hid hpk
      have hrr : Reads wr w.heap.size 2 A L.length (L.flatMap pcells) := HF.out.reads (F2.out.reads HR.out (Nat.le_refl _) (fun ad e => HNe.out ad _ _ (by rw [HPE.out, e]))) (by omega) (fun ad e => HNe.out ad _ _ (by rw [HPE.out, e]))
      obtain ⟨pb, off, rfl, hpb, q0, q1⟩ := hrr.peer hpk
      clear hrr hpk
      have e_ty := H_hty.out
      by_cases n_pr : 0 < c.pr
      · by_cases n_p2 : 0 < p.2
        · go_upto_region 18 with fail
          have hkn : (upKn c p).cells = #[.int .u32 0, .int .u32 p.1, .int .u8 1, .int .u8 p.2, .int .u32 0, .int .u32 0, .int .u8 0, .int .u32 (c.dd), .bool false, .bool false] := by simp [Kn.cells, upKn, upIs, e_ty, n_pr, n_p2]
          obtain ⟨W3, hW3⟩ : ∃ W3, W3 = ((wr.alloc (.cells #[.int .u32 p.1, .int .u8 p.2] 136)).alloc (.cells #[.int .u32 0, .int .u32 p.1, .int .u8 1, .int .u8 p.2, .int .u32 0, .int .u32 0, .int .u8 0, .int .u32 (c.dd), .bool false, .bool false] 139)) := ⟨_, rfl⟩
          have KN3 : Hid (Blk W3 (wr.heap.size + 1) 139 (upKn c p).cells) := Lib.hid (by rw [hW3, hkn]; have := Blk.new (wr.alloc (.cells #[.int .u32 p.1, .int .u8 p.2] 136)) 139 #[.int .u32 0, .int .u32 p.1, .int .u8 1, .int .u8 p.2, .int .u32 0, .int .u32 0, .int .u8 0, .int .u32 (c.dd), .bool false, .bool false]; rw [World.size_alloc] at this; exact this)
          have HB3 : Hid (Below wr.heap.size wr W3) := Lib.hid (by rw [hW3]; exact ((Below.refl _ wr).alloc (Nat.le_refl _) _).alloc (by simp) _)
          have HS3 : Hid (W3.heap.size = wr.heap.size + 1 + 1) := Lib.hid (by rw [hW3]; simp)
          have hsz3 : W2.heap.size ≤ W3.heap.size := by have := HS3.out; omega
          rw [← hW3]
          clear hW3 hkn b1 b6 b7 b8 b9 b10 b22 q0 q1
          have KB3 := Lib.hid (KB.out.below HB3.out hlr)
          have d22 : W3.cell? ⟨B, 22, none⟩ = some (.slice va k vm) := KB3.out.cell 22
          have HOwn3 : Hid ((W3.alloc (.cells #[.pointer (some ⟨wr.heap.size + 1, 0, none⟩)] 137)).ownsRow W2.heap.size 137 1 (.slice va k vm) k (xs.map fun x : Nat × Kn => .pointer (some ⟨x.1, 0, none⟩))) := Lib.hid ((Frame.of_below (S := fun _ => False) (HB3.out.alloc HB3.out.size _)).own HOwn.out (fun _ _ e => e))
          have KB4 : Hid (Blk (W3.alloc (.cells #[.pointer (some ⟨wr.heap.size + 1, 0, none⟩)] 137)) B 119 (lks c 2 0 0 (c.dd) 0 0 0 (.slice va k vm))) := Lib.hid (KB3.out.alloc _)
          have HLit := Lib.hid (Reads.of_own (World.ownsRow_lit (base := 0) (e := 137) (size := 1) W3 #[.pointer (some ⟨wr.heap.size + 1, 0, none⟩)] 1 (Nat.zero_le _) (by simp [maxLen]) rfl))
          go_upto_region 19 with (at_builtin; refine wpList_append_any _ rfl (.tmp 111) (.tmp 113) _ rfl W2.heap.size 137 i0 _ 1 8 Try.underlying117 hi hz0 hz1 hz2 rfl (by omega) (.slice va k vm) k _ rfl HOwn3.out _ (some ⟨W3.heap.size, 0, none⟩) 1 1 [.pointer (some ⟨wr.heap.size + 1, 0, none⟩)] rfl HLit.out (by simp [Value.oneCell']) (by unfold maxLen; omega) (by omega) (by simp; omega) ?_; intro v1 w4 hown5 hg5 _; have HOwn5 := Lib.hid hown5; have HG5 := Lib.hid hg5; have kB4 := KB4.out.grown hg5 (fun e => by obtain ⟨_, cur, hc⟩ := own_cells HOwn3.out B e.symm; exact absurd rfl (KB4.out.ne_ (t' := 137) (cs' := cur) hc (by decide))); have d22 : w4.cell? ⟨B, 22, none⟩ = some (.slice va k vm) := kB4.cell 22; have fz4 := kB4.frozen 22; have hl4 := kB4.lt; clear hown5 hg5 kB4; obtain ⟨vb, vn, rfl⟩ := own_slice HOwn5.out)
          have HStep := Lib.hid (UpInv.step (p := p) hBW2 HF.out KB.out HOwn.out HXs.out HNd.out HAll.out HPk.out KN3.out HB3.out HS3.out HG5.out HOwn5.out)
          clear d22 fz4 hl4
          go_wp2_with fail
          go_roundw
          case rel => exact ⟨k + 1, by omega, by simp, HStep.out⟩
          case measure => simp [intOf]; omega
        · go_upto_region 18 with fail
          have hkn : (upKn c p).cells = #[.int .u32 0, .int .u32 p.1, .int .u8 0, .int .u8 p.2, .int .u32 0, .int .u32 0, .int .u8 0, .int .u32 (0), .bool false, .bool false] := by simp [Kn.cells, upKn, upIs, e_ty, n_pr, n_p2]
          obtain ⟨W3, hW3⟩ : ∃ W3, W3 = ((wr.alloc (.cells #[.int .u32 p.1, .int .u8 p.2] 136)).alloc (.cells #[.int .u32 0, .int .u32 p.1, .int .u8 0, .int .u8 p.2, .int .u32 0, .int .u32 0, .int .u8 0, .int .u32 (0), .bool false, .bool false] 139)) := ⟨_, rfl⟩
          have KN3 : Hid (Blk W3 (wr.heap.size + 1) 139 (upKn c p).cells) := Lib.hid (by rw [hW3, hkn]; have := Blk.new (wr.alloc (.cells #[.int .u32 p.1, .int .u8 p.2] 136)) 139 #[.int .u32 0, .int .u32 p.1, .int .u8 0, .int .u8 p.2, .int .u32 0, .int .u32 0, .int .u8 0, .int .u32 (0), .bool false, .bool false]; rw [World.size_alloc] at this; exact this)
          have HB3 : Hid (Below wr.heap.size wr W3) := Lib.hid (by rw [hW3]; exact ((Below.refl _ wr).alloc (Nat.le_refl _) _).alloc (by simp) _)
          have HS3 : Hid (W3.heap.size = wr.heap.size + 1 + 1) := Lib.hid (by rw [hW3]; simp)
          have hsz3 : W2.heap.size ≤ W3.heap.size := by have := HS3.out; omega
          rw [← hW3]
          clear hW3 hkn b1 b6 b7 b8 b9 b10 b22 q0 q1
          have KB3 := Lib.hid (KB.out.below HB3.out hlr)
          have d22 : W3.cell? ⟨B, 22, none⟩ = some (.slice va k vm) := KB3.out.cell 22
          have HOwn3 : Hid ((W3.alloc (.cells #[.pointer (some ⟨wr.heap.size + 1, 0, none⟩)] 137)).ownsRow W2.heap.size 137 1 (.slice va k vm) k (xs.map fun x : Nat × Kn => .pointer (some ⟨x.1, 0, none⟩))) := Lib.hid ((Frame.of_below (S := fun _ => False) (HB3.out.alloc HB3.out.size _)).own HOwn.out (fun _ _ e => e))
          have KB4 : Hid (Blk (W3.alloc (.cells #[.pointer (some ⟨wr.heap.size + 1, 0, none⟩)] 137)) B 119 (lks c 2 0 0 (c.dd) 0 0 0 (.slice va k vm))) := Lib.hid (KB3.out.alloc _)
          have HLit := Lib.hid (Reads.of_own (World.ownsRow_lit (base := 0) (e := 137) (size := 1) W3 #[.pointer (some ⟨wr.heap.size + 1, 0, none⟩)] 1 (Nat.zero_le _) (by simp [maxLen]) rfl))
          go_upto_region 19 with (at_builtin; refine wpList_append_any _ rfl (.tmp 111) (.tmp 113) _ rfl W2.heap.size 137 i0 _ 1 8 Try.underlying117 hi hz0 hz1 hz2 rfl (by omega) (.slice va k vm) k _ rfl HOwn3.out _ (some ⟨W3.heap.size, 0, none⟩) 1 1 [.pointer (some ⟨wr.heap.size + 1, 0, none⟩)] rfl HLit.out (by simp [Value.oneCell']) (by unfold maxLen; omega) (by omega) (by simp; omega) ?_; intro v1 w4 hown5 hg5 _; have HOwn5 := Lib.hid hown5; have HG5 := Lib.hid hg5; have kB4 := KB4.out.grown hg5 (fun e => by obtain ⟨_, cur, hc⟩ := own_cells HOwn3.out B e.symm; exact absurd rfl (KB4.out.ne_ (t' := 137) (cs' := cur) hc (by decide))); have d22 : w4.cell? ⟨B, 22, none⟩ = some (.slice va k vm) := kB4.cell 22; have fz4 := kB4.frozen 22; have hl4 := kB4.lt; clear hown5 hg5 kB4; obtain ⟨vb, vn, rfl⟩ := own_slice HOwn5.out)
          have HStep := Lib.hid (UpInv.step (p := p) hBW2 HF.out KB.out HOwn.out HXs.out HNd.out HAll.out HPk.out KN3.out HB3.out HS3.out HG5.out HOwn5.out)
          clear d22 fz4 hl4
          go_wp2_with fail
          go_roundw
          case rel => exact ⟨k + 1, by omega, by simp, HStep.out⟩
          case measure => simp [intOf]; omega
      · go_upto_region 18 with fail
        have hkn : (upKn c p).cells = #[.int .u32 0, .int .u32 p.1, .int .u8 0, .int .u8 p.2, .int .u32 0, .int .u32 0, .int .u8 0, .int .u32 (0), .bool false, .bool false] := by simp [Kn.cells, upKn, upIs, e_ty, n_pr]
        obtain ⟨W3, hW3⟩ : ∃ W3, W3 = ((wr.alloc (.cells #[.int .u32 p.1, .int .u8 p.2] 136)).alloc (.cells #[.int .u32 0, .int .u32 p.1, .int .u8 0, .int .u8 p.2, .int .u32 0, .int .u32 0, .int .u8 0, .int .u32 (0), .bool false, .bool false] 139)) := ⟨_, rfl⟩
        have KN3 : Hid (Blk W3 (wr.heap.size + 1) 139 (upKn c p).cells) := Lib.hid (by rw [hW3, hkn]; have := Blk.new (wr.alloc (.cells #[.int .u32 p.1, .int .u8 p.2] 136)) 139 #[.int .u32 0, .int .u32 p.1, .int .u8 0, .int .u8 p.2, .int .u32 0, .int .u32 0, .int .u8 0, .int .u32 (0), .bool false, .bool false]; rw [World.size_alloc] at this; exact this)
        have HB3 : Hid (Below wr.heap.size wr W3) := Lib.hid (by rw [hW3]; exact ((Below.refl _ wr).alloc (Nat.le_refl _) _).alloc (by simp) _)
        have HS3 : Hid (W3.heap.size = wr.heap.size + 1 + 1) := Lib.hid (by rw [hW3]; simp)
        have hsz3 : W2.heap.size ≤ W3.heap.size := by have := HS3.out; omega
        rw [← hW3]
        clear hW3 hkn b1 b6 b7 b8 b9 b10 b22 q0 q1
        have KB3 := Lib.hid (KB.out.below HB3.out hlr)
        have d22 : W3.cell? ⟨B, 22, none⟩ = some (.slice va k vm) := KB3.out.cell 22
        have HOwn3 : Hid ((W3.alloc (.cells #[.pointer (some ⟨wr.heap.size + 1, 0, none⟩)] 137)).ownsRow W2.heap.size 137 1 (.slice va k vm) k (xs.map fun x : Nat × Kn => .pointer (some ⟨x.1, 0, none⟩))) := Lib.hid ((Frame.of_below (S := fun _ => False) (HB3.out.alloc HB3.out.size _)).own HOwn.out (fun _ _ e => e))
        have KB4 : Hid (Blk (W3.alloc (.cells #[.pointer (some ⟨wr.heap.size + 1, 0, none⟩)] 137)) B 119 (lks c 2 0 0 (c.dd) 0 0 0 (.slice va k vm))) := Lib.hid (KB3.out.alloc _)
        have HLit := Lib.hid (Reads.of_own (World.ownsRow_lit (base := 0) (e := 137) (size := 1) W3 #[.pointer (some ⟨wr.heap.size + 1, 0, none⟩)] 1 (Nat.zero_le _) (by simp [maxLen]) rfl))
        go_upto_region 19 with (at_builtin; refine wpList_append_any _ rfl (.tmp 111) (.tmp 113) _ rfl W2.heap.size 137 i0 _ 1 8 Try.underlying117 hi hz0 hz1 hz2 rfl (by omega) (.slice va k vm) k _ rfl HOwn3.out _ (some ⟨W3.heap.size, 0, none⟩) 1 1 [.pointer (some ⟨wr.heap.size + 1, 0, none⟩)] rfl HLit.out (by simp [Value.oneCell']) (by unfold maxLen; omega) (by omega) (by simp; omega) ?_; intro v1 w4 hown5 hg5 _; have HOwn5 := Lib.hid hown5; have HG5 := Lib.hid hg5; have kB4 := KB4.out.grown hg5 (fun e => by obtain ⟨_, cur, hc⟩ := own_cells HOwn3.out B e.symm; exact absurd rfl (KB4.out.ne_ (t' := 137) (cs' := cur) hc (by decide))); have d22 : w4.cell? ⟨B, 22, none⟩ = some (.slice va k vm) := kB4.cell 22; have fz4 := kB4.frozen 22; have hl4 := kB4.lt; clear hown5 hg5 kB4; obtain ⟨vb, vn, rfl⟩ := own_slice HOwn5.out)
        have HStep := Lib.hid (UpInv.step (p := p) hBW2 HF.out KB.out HOwn.out HXs.out HNd.out HAll.out HPk.out KN3.out HB3.out HS3.out HG5.out HOwn5.out)
        clear d22 fz4 hl4
        go_wp2_with fail
        go_roundw
        case rel => exact ⟨k + 1, by omega, by simp, HStep.out⟩
        case measure => simp [intOf]; omega

    · obtain rfl : k = L.length := by omega
      have b19 : wr.cell? ⟨B, 19, none⟩ = some (.int .u32 0) := KB.out.cell 19
      have b20 : wr.cell? ⟨B, 20, none⟩ = some (.int .u32 0) := KB.out.cell 20
      have fz := KB.out.frozen
      clear hlt2 b1 b6 b8 b10 b22
      go_wp2_with fail
      go_cut [] from 118 to 135 (fun wx => ∃ nx po, Blk wx B 119 (lks c 2 0 0 (c.dd) nx po 0 (.slice va L.length vm)) ∧ Frame (fun j => j = B) wr wx)
      case first =>
        go_region_held3 (fun w' => w'.cell? ⟨B, 7, none⟩ = some (.int .u16 c.hi) ∧ w'.cell? ⟨B, 9, none⟩ = some (.int .u16 c.po)) (first
          | assumption
          | exact ⟨KB.out.drew.cell 7, KB.out.drew.cell 9⟩
          | exact ⟨(KB.out.set_ 19 _).drew.cell 7, (KB.out.set_ 19 _).drew.cell 9⟩
          | exact ⟨((KB.out.set_ 19 _).set_ 20 _).drew.cell 7, ((KB.out.set_ 19 _).set_ 20 _).drew.cell 9⟩) (fail)
        all_goals
          go_wp2_with fail
          go_meet
          exact ⟨_, _, ((KB.out.set_ 19 (.int .u32 _)).set_ 20 (.int .u32 _)).drew, (((Frame.refl (fun j => j = B) wr).setB 19 _).setB 20 _).drew⟩
      obtain ⟨nx, po, kc, hfc⟩ := hcut
      have KC := Lib.hid kc
      have FC := Lib.hid hfc
      have hlc := kc.lt
      have hBc : Hid (Frame (fun j => j = B) w wc) := Lib.hid ((F2.out.trans HF.out).trans FC.out)
      have HAllC : Hid (∀ x ∈ xs, Blk wc x.1 139 x.2.cells ∧ w.heap.size ≤ x.1) := Lib.hid fun x hx => ⟨FC.out.blk (HAll.out x hx).1 ((HAll.out x hx).1.ne_ KB.out (by decide)), Nat.le_trans hwW (HAll.out x hx).2⟩
      have hsc := FC.out.size
      have HOwnC : Hid (wc.ownsRow W2.heap.size 137 1 (.slice va L.length vm) L.length (xs.map fun x : Nat × Kn => .pointer (some ⟨x.1, 0, none⟩))) := Lib.hid (FC.out.own HOwn.out (fun g hg e => by obtain ⟨h1, _⟩ := own_cells HOwn.out g hg; omega))
      have hxl : xs.length = L.length := by have := congrArg List.length HXs.out; simpa using this
      have hround : Hid (Calls Try.prog 69 #[.pointer (some ⟨B, 0, none⟩), .bool false] wc fun e w' => (∃ a n k, e = .returned (.slice a n k)) ∧ Below wc.heap.size wc w') := Lib.hid (round_up wc B W2.heap.size c 2 0 0 (c.dd) nx po 0 va vm L xs hn0 hn1 HPeers.out hlen KC.out HOwnC.out HXs.out hxl (fun x hx => (HAllC.out x hx).1))
      clear kc hfc b7 b9 b19 b20 fz
      go_wp2_with fail
      refine hround.out.mono ?_
      rintro e w3 ⟨⟨a, n, m, rfl⟩, hb3⟩
      have HB3 := Lib.hid hb3
      clear hb3
      go_wp2_with fail
      go_ret
      refine ⟨_, 2, _, nx, po, xs, rfl, by decide, ?_, ⟨Nat.le_refl _, ⟨_, KC.out.below HB3.out hlc, ?_⟩, fun x hx => ⟨((HAllC.out x hx).1.below HB3.out (HAllC.out x hx).1.lt), by have := (HAllC.out x hx).2; omega⟩, HNd.out⟩, hBc.out.trans (Frame.of_below HB3.out)⟩
      · have := HXs.out
        rwa [List.take_length] at this
      · rw [hxl]
        exact ownsRow_lower ((Frame.of_below (S := fun _ => False) HB3.out).own HOwnC.out (fun _ _ e => e)) (by omega)
theorem up_peers (w : World) (B : Nat) (c : LC) (L : List (Int × Int)) (hn0 : 0 ≤ c.nb) (hn1 : c.nb ≤ 32) (hp : c.peers = true) (hps : c.ps = false) (hL : PeersAt w w.heap.size c.pe L) (hne : ∀ ad n k, c.pe = .slice (some ad) n k → ad.block ≠ B) (hlen : L.length ≤ 100000) (k : Blk w B 119 (lks c 0 0 0 0 0 0 0 (.slice none 0 0))) :
    Calls Try.prog 33 #[.pointer (some ⟨B, 0, none⟩)] w fun e w' => UpPeersPost B c L w e w' := by
  rcases Bool.eq_false_or_eq_true (c.ty == 2) with hty | hty
  · have hsh : c.shared = false := by
      have : c.ty = 2 := by simpa using hty
      simp [LC.shared, this]
    exact upp_two w B c L hn0 hn1 hp hps hL hne hlen hsh hty k
  · have hsh : c.shared = true := by
      simp [LC.peers] at hp
      have : c.ty ≠ 2 := by simpa using hty
      have h1 : c.ty = 1 := by omega
      simp [LC.shared, h1]
    by_cases h8 : c.pr = 0
    · exact upp_other w B c L hn0 hn1 hp hps hL hne hlen hsh hty h8 k
    · exact upp_wait w B c L hn0 hn1 hp hps hL hne hlen hsh hty h8 k
end Go.Proofs.Ytgbmhijgpdgdbaa
