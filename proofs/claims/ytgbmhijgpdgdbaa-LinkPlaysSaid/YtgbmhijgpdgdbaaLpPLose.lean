/- The program's link: a neighbour is lost. -/
import Derived.Test.YtgbmhijgpdgdbaaLpPAt
import Derived.Test.YtgbmhijgpdgdbaaLpRefDrop
set_option maxHeartbeats 4000000
set_option maxRecDepth 20000
namespace Go.Proofs.Ytgbmhijgpdgdbaa
open Go.RowKit
theorem ptr_info : (Try.prog.info? 137).map (fun i => (i.zero, i.size, i.bytes)) = some (some (.pointer none), 1, 8) := by kernel_rfl
theorem run_append_none0 (w : World) (t ty e : TypeId) (i : TypeInfo) (ht : Try.prog.underlying t = some (.slice e)) (hi : Try.prog.info? e = some i) (D : Addr) (n cd : Nat) (hn : n ≤ cd) (A : Option Addr) (c : Nat) :
    (Builtin.append_ #[t, t] ty #[.slice (some D) n cd, .slice A 0 c]).run Try.prog w = .ok (.slice (some D) n cd) w := by
  cases A <;> simp [Builtin.append_, run_underlying ht, sizeOf, typeInfo, hi, Builtin.lenOf, Builtin.firstCells, storeCells, loadCells, loadCellsFrom, hn]
theorem run_append_prow (w : World) (lo : Nat) (A : Option Addr) (n cap : Nat) (ps : List Value) (h : PRow w lo A n cap ps) (hlo : lo ≤ w.heap.size) (hps : ∀ u ∈ ps, u.oneCell' = true) (B : Nat) (A2 : Option Addr) (m c2 : Nat) (news : List Value) (hr : Reads w B 1 A2 m news) (h1 : ∀ u ∈ news, u.oneCell' = true) (hb : n + m ≤ 60000) (ty : TypeId) :
    ∃ A' cap' w', (Builtin.append_ #[117, 117] ty #[.slice A n cap, .slice A2 m c2]).run Try.prog w = .ok (.slice A' (n + m) cap') w' ∧ PRow w' lo A' (n + m) cap' (ps ++ news) ∧ w.grownBy w' (Value.slice A n cap).ownBlock := by
  obtain ⟨i, hi, hz, hs, hby⟩ := info_parts ptr_info
  have anyw : ∀ (hown : w.ownsRow lo 137 1 (.slice A n cap) n ps), ∃ A' cap' w', (Builtin.append_ #[117, 117] ty #[.slice A n cap, .slice A2 m c2]).run Try.prog w = .ok (.slice A' (n + m) cap') w' ∧ PRow w' lo A' (n + m) cap' (ps ++ news) ∧ w.grownBy w' (Value.slice A n cap).ownBlock := by
    intro hown
    obtain ⟨v', w', hrun, ho, hg, _⟩ := run_append_any (P := Try.prog) w lo 117 ty 137 i (.pointer none) 1 8 Try.underlying117 hi hz hs hby rfl (by omega) (.slice A n cap) n ps hown B A2 m c2 news hr h1 (by unfold maxLen; omega) (by omega) hlo
    obtain ⟨A', c', rfl⟩ := own_slice ho
    exact ⟨A', c', w', hrun, PRow.of_own ho, hg⟩
  rcases h.2 with ⟨rfl, rfl, rfl⟩ | ⟨g, cur, rfl, hg, hh, h2, h3, h4, h5, h6⟩
  · have hp : ps = [] := List.eq_nil_of_length_eq_zero h.1
    subst hp
    exact anyw (World.ownsRow_nil _ _ _ _)
  · by_cases hc : cap = cur.size
    · refine anyw (h.own (fun g' cur' e hh' => ?_))
      obtain rfl : g = g' := congrArg Addr.block e
      have e2 : some (Obj.cells cur 137 (0, 0)) = some (Obj.cells cur' 137 (0, 0)) := (show w.heap[g]? = _ from hh).symm.trans hh'
      injection e2 with e2
      injection e2 with e2
      rw [← e2]
      exact hc
    · have hnc : n = cap := h5.resolve_right hc
      rcases Nat.eq_zero_or_pos m with h0 | h0
      · subst h0
        have hn : news = [] := List.eq_nil_of_length_eq_zero (by simpa using hr.1)
        subst hn
        refine ⟨_, cap, w, run_append_none0 w 117 ty 137 i Try.underlying117 hi ⟨g, 0, none⟩ n cap h2 A2 c2, by simpa using h, World.grownBy.refl w _⟩
      · obtain ⟨ad, hA2, _, hcells⟩ := hr.2 h0
        subst hA2
        have hgc : n + m ≤ grownCap w (n + m) cap 137 := grownCap_ge w (n + m) cap 137
        have hm1 : news.length = m := by have := hr.1; omega
        have hp1 := h.1
        have hrun := run_append_grow (P := Try.prog) (w := w) 117 ty 137 i (.pointer none) Try.underlying117 hi hz ⟨g, 0, none⟩ n cap ps (by rw [hs]; omega) (fun j u hu => by
          rw [Addr.add_mid, Nat.zero_add, hh.cell j, ← Array.getElem?_toList]
          have hj : j < n := by have := (List.getElem?_eq_some_iff.1 hu).1; omega
          rw [← h6, List.getElem?_take, if_pos hj] at hu
          exact hu) ad m c2 news (by rw [hs]; omega) hcells (by omega) (by omega) (by rw [hby]; exact growslice_fits (by omega) (by omega))
        refine ⟨_, _, _, hrun, ⟨by rw [List.length_append]; omega, .inr ⟨w.heap.size, _, rfl, hlo, Blk.new w.drew 137 _, hgc, ?_, grownCap_le_maxLen w _ _ _ (by unfold maxLen; omega), .inr ?_, ?_⟩⟩, ?_⟩
        · rw [Array.size_append, Array.size_append, size_zeroCells]
          simp
          have e1 : (Value.pointer none).cells.size = 1 := rfl
          rw [e1]
          omega
        · rw [Array.size_append, Array.size_append, size_zeroCells]
          have e1 : (Value.pointer none).cells.size = 1 := rfl
          simp only [List.size_toArray, e1]
          omega
        · simp only [Array.toList_append]
          rw [List.take_append_of_le_length (by simp; omega), List.take_of_length_le (by simp; omega)]
        · have hb : Below w.heap.size w.drew (w.drew.alloc (.cells (ps.toArray ++ news.toArray ++ Builtin.zeroCells (Value.pointer none).cells (grownCap w (n + m) cap 137 - (n + m))) 137)) := (Below.refl _ w.drew).alloc (Nat.le_refl _) _
          exact ⟨hb.os, hb.tape, hb.output, hb.size, fun k hk _ => hb.block k hk⟩
theorem wp_append_prow {o : Oper} {a : Act} {w : World} {K : Act → World → Prop} {Q : Exit → Act → World → Prop} (sx x : Operand)
    (ho : o.op = .call { callee := .builtin .append, args := #[sx, x], argTypes := #[117, 117] })
    (lo : Nat) (A : Option Addr) (n cap : Nat) (ps : List Value) (hs : a.eval sx = .slice A n cap) (h : PRow w lo A n cap ps) (hlo : lo ≤ w.heap.size) (hps : ∀ u ∈ ps, u.oneCell' = true)
    (B : Nat) (A2 : Option Addr) (m c2 : Nat) (news : List Value) (hx : a.eval x = .slice A2 m c2) (hr : Reads w B 1 A2 m news) (h1 : ∀ u ∈ news, u.oneCell' = true) (hb : n + m ≤ 60000)
    (hk : ∀ A' cap' w', PRow w' lo A' (n + m) cap' (ps ++ news) → w.grownBy w' (Value.slice A n cap).ownBlock → K (a.put o.dst (.slice A' (n + m) cap')) w') : o.wp Try.prog a w K Q := by
  obtain ⟨A', cap', w', hrun, h2, h3⟩ := run_append_prow w lo A n cap ps h hlo hps B A2 m c2 news hr h1 hb o.type
  unfold Oper.wp execOp
  simp only [ho, resolve, invoke, builtin, Sem.run_bind, Sem.run_pure, Result.andThen_ok, List.map_toArray, List.map_cons, List.map_nil, hs, hx, hrun]
  exact hk A' cap' w' h2 h3
theorem wpList_append_prow {ops : Array Oper} {rest : List Oper} {o : Oper} {a : Act} {w : World} {Q : Exit → Act → World → Prop} (hgd : o.guard = none) (sx x : Operand)
    (ho : o.op = .call { callee := .builtin .append, args := #[sx, x], argTypes := #[117, 117] })
    (lo : Nat) (A : Option Addr) (n cap : Nat) (ps : List Value) (hs : a.eval sx = .slice A n cap) (h : PRow w lo A n cap ps) (hlo : lo ≤ w.heap.size) (hps : ∀ u ∈ ps, u.oneCell' = true)
    (B : Nat) (A2 : Option Addr) (m c2 : Nat) (news : List Value) (hx : a.eval x = .slice A2 m c2) (hr : Reads w B 1 A2 m news) (h1 : ∀ u ∈ news, u.oneCell' = true) (hb : n + m ≤ 60000)
    (hk : ∀ A' cap' w', PRow w' lo A' (n + m) cap' (ps ++ news) → w.grownBy w' (Value.slice A n cap).ownBlock → wpList Try.prog ops Q rest (a.put o.dst (.slice A' (n + m) cap')) w') : wpList Try.prog ops Q (o :: rest) a w := by
  obtain ⟨A', cap', w', hrun, h2, h3⟩ := run_append_prow w lo A n cap ps h hlo hps B A2 m c2 news hr h1 hb o.type
  refine wpList_plain hgd fun K hK => ?_
  unfold Oper.wp execOp
  simp only [ho, resolve, invoke, builtin, Sem.run_bind, Sem.run_pure, Result.andThen_ok, List.map_toArray, List.map_cons, List.map_nil, hs, hx, hrun]
  exact hK _ _ (hk A' cap' w' h2 h3)
theorem kptrs_one (xs : List (Nat × Kn)) : ∀ u ∈ kptrs xs, u.oneCell' = true := by
  intro u hu
  obtain ⟨x, _, rfl⟩ := List.mem_map.1 hu
  rfl
theorem PRow.drop {w : World} {lo L n cap : Nat} {ps : List Value} (h : PRow w lo (some ⟨L, 0, none⟩) n cap ps) {j : Nat} (hj : j ≤ n) : Reads w w.heap.size 1 (some (if cap = j then ⟨L, 0, none⟩ else ⟨L, j, none⟩)) (n - j) (ps.drop j) := by
  refine ⟨by rw [List.length_drop, h.1]; omega, fun h0 => ?_⟩
  rcases h.2 with ⟨e, _⟩ | ⟨g, cur, e, hg, hh, h1, h2, h3, h4, h5⟩
  · cases e
  · injection e with e
    obtain rfl : L = g := congrArg Addr.block e
    rw [if_neg (by omega)]
    refine ⟨_, rfl, hh.lt, fun k u hu => ?_⟩
    rw [Addr.add_mid, hh.cell (j + k), ← Array.getElem?_toList]
    rw [List.getElem?_drop, ← h5, List.getElem?_take] at hu
    split at hu
    · exact hu
    · cases hu
theorem PRow.head {w : World} {lo L n cap : Nat} {ps : List Value} (h : PRow w lo (some ⟨L, 0, none⟩) n cap ps) {j : Nat} (hj : j ≤ n) : PRow w lo (some ⟨L, 0, none⟩) j j (ps.take j) := by
  refine ⟨by rw [List.length_take, h.1]; omega, ?_⟩
  rcases h.2 with ⟨e, _⟩ | ⟨g, cur, e, hg, hh, h1, h2, h3, h4, h5⟩
  · cases e
  · exact .inr ⟨g, cur, e, hg, hh, Nat.le_refl _, by omega, by unfold maxLen at h3 ⊢; omega, .inl rfl, by rw [← h5, List.take_take, Nat.min_eq_left hj]⟩
end Go.Proofs.Ytgbmhijgpdgdbaa
namespace Go.Proofs.Ytgbmhijgpdgdbaa
open Go.RowKit Go.Shelf
attribute [local go_sem] Oper.semAt_some
theorem nodup_set' {l : List Nat} {K : Nat} : ∀ (i : Nat), l.Nodup → K ∉ l → (l.set i K).Nodup := by
  induction l with
  | nil => intro i h _; simp
  | cons a l ih =>
    intro i h hK
    rw [List.nodup_cons] at h
    simp only [List.mem_cons, not_or] at hK
    cases i with
    | zero =>
      rw [List.set_cons_zero, List.nodup_cons]
      exact ⟨hK.2, h.2⟩
    | succ i =>
      rw [List.set_cons_succ, List.nodup_cons]
      refine ⟨fun hm => ?_, ih i h.2 hK.2⟩
      rcases List.mem_or_eq_of_mem_set hm with hm | e
      · exact h.1 hm
      · exact hK.1 e.symm
section
variable {lo : Nat} {w w' : World} {B : Nat} {c : LC} {s s' : Pl.St} {A : Option Addr} {cap : Nat} {xs : List (Nat × Kn)} {L : List (Int × Int)}
theorem PAt.setRow {R : Nat} (h : PAt lo w B c s (some ⟨R, 0, none⟩) cap xs) {cur : Array Value} (hc : Blk w R 137 cur) {i K : Nat} {k : Kn} (hi : i < xs.length) (hK : w.heap.size ≤ K) (kb : Blk w' K 139 k.cells) (hl : Blk w' R 137 (cur.setIfInBounds i (.pointer (some ⟨K, 0, none⟩)))) (hf : Frame (fun j => j = R) w w') (hsl : s'.l = s.l.set i k) (hse : (lks c s'.st s'.dr s'.bd s'.wt s'.nx s'.po s'.re) = (lks c s.st s.dr s.bd s.wt s.nx s.po s.re)) :
    PAt lo w' B c s' (some ⟨R, 0, none⟩) cap (xs.set i (K, k)) ∧ LFr lo w w' := by
  have hRB : B ≠ R := h.b.ne_ hc (by decide)
  have hlo : lo ≤ R ∧ R < w.heap.size := by
    obtain ⟨L', e, h1, h2, _⟩ := h.at_ (List.getElem?_eq_getElem hi)
    injection e with e
    have e := congrArg Addr.block e
    dsimp only at e
    omega
  refine ⟨⟨h.loB, by rw [List.length_set, hse]; exact hf.blk h.b hRB, ?_, fun x hx => ?_, ?_, by rw [hsl, ← h.l, List.map_set]⟩, LFr.one hc hlo.1 (.inr (.inl rfl)) hf⟩
  · rw [List.length_set]
    have hps : kptrs (xs.set i (K, k)) = (kptrs xs).set i (.pointer (some ⟨K, 0, none⟩)) := by unfold kptrs; rw [List.map_set]
    refine ⟨by rw [hps, List.length_set]; exact h.o.1, ?_⟩
    rcases h.o.2 with ⟨e, _⟩ | ⟨g, cur', e, hg, hh, h1, h2, h3, h4, h5⟩
    · cases e
    · injection e with e
      obtain rfl : R = g := congrArg Addr.block e
      have ec : some (Obj.cells cur 137 (0, 0)) = some (Obj.cells cur' 137 (0, 0)) := (show w.heap[R]? = _ from hc).symm.trans hh
      injection ec with ec
      injection ec with ec
      subst ec
      exact .inr ⟨R, _, rfl, hg, hl, h1, by simpa using h2, h3, by simpa using h4, by rw [Array.toList_setIfInBounds, List.take_set, h5, hps]⟩
  · rcases List.mem_or_eq_of_mem_set hx with hx | rfl
    · exact ⟨hf.blk (h.k x hx).1 ((h.k x hx).1.ne_ hc (by decide)), (h.k x hx).2⟩
    · exact ⟨kb, by show lo ≤ K; omega⟩
  · rw [List.map_set]
    refine nodup_set' i h.nd (fun hm => ?_)
    obtain ⟨x, hx, e⟩ := List.mem_map.1 hm
    have h1 := (h.k x hx).1.lt
    have e : x.1 = K := e
    omega
theorem plose_p (h : PAt lo w B c s A cap xs) (hpe : PeersAt w lo c.pe L) (hp : c.peers = true) (i : Nat) (hi : i < xs.length) (p : Int × Int) (hpi : L[i]? = some p) :
    Calls Try.prog 109 #[.pointer (some ⟨B, 0, none⟩), .int .i64 i] w fun e w' => e = .returned (.tuple #[]) ∧ ∃ xs', PAt lo w' B c { s with l := s.l.set i (Pl.gone p) } A cap xs' ∧ LFr lo w w' := by
  obtain ⟨x, hx⟩ : ∃ x, xs[i]? = some x := ⟨_, List.getElem?_eq_getElem hi⟩
  obtain ⟨R, rfl, hRl, hRlo, ⟨cur, hRc⟩, hRx⟩ := h.at_ hx
  obtain ⟨PA, pcap, hpe1, hpe2⟩ := hpe
  have H := Lib.hid h
  have HP : Hid (Calls Try.prog 63 #[.agg #[.int .u8 c.ty, .int .u32 c.ro, .int .u32 c.na, .int .u8 c.nb, .int .u32 c.ad, .int .u8 c.op, .int .u16 c.hi, .int .u32 c.dd, .int .u16 c.po, .int .u8 c.pr, .bool c.dm, .bool c.ps, c.pe, .int .u32 c.rm]] w fun e w' => e = .returned (.bool true) ∧ Below w.heap.size w w') := Lib.hid (by have h := peers_any c w; rw [hp] at h; exact h)
  have hiL : i < L.length := (List.getElem?_eq_some_iff.1 hpi).1
  obtain ⟨pb, po, hPA, hpb, hp0, hp1⟩ := hpe2.peer hpi
  subst hPA
  have HPe := Lib.hid hpe1
  have HRc := Lib.hid hRc
  obtain ⟨e1, e2, e3, e4, e5, e6, e7, e8, e9, e10, e11, e12, e13, e14⟩ := lks_cs h.b
  have hl0 : B < w.heap.size := h.b.lt
  have Hi := Lib.hid hi
  clear h hp hpe1 hpe2 hpi hx hRc
  go_enter Try.func109, Try.ntmps109
  go_wp2_with fail
  refine HP.out.mono ?_
  rintro e w1 ⟨rfl, hb1⟩
  have H1 := Lib.hid (H.out.below hb1)
  have LC1 := Lib.hid (HRc.out.below hb1 HRc.out.lt)
  have HB1 := Lib.hid hb1
  have hpbw : pb < w.heap.size := by omega
  have d13 : w1.cell? ⟨B, 13, none⟩ = some (.slice (some ⟨pb, po, none⟩) L.length pcap) := (H1.out.b.cell 13).trans (congrArg some HPe.out)
  have d22 : w1.cell? ⟨B, 22, none⟩ = some (.slice (some ⟨R, 0, none⟩) xs.length cap) := H1.out.b.cell 22
  have d0 : w1.cell? ⟨pb, po + i * 2, none⟩ = some (.int .u32 p.1) := (hb1.cell (p := ⟨pb, po + i * 2, none⟩) hpbw).trans hp0
  have d1 : w1.cell? ⟨pb, po + i * 2 + 1, none⟩ = some (.int .u8 p.2) := (hb1.cell (p := ⟨pb, po + i * 2 + 1, none⟩) hpbw).trans hp1
  have l1 : w1.cell? ⟨R, i, none⟩ = some (.pointer (some ⟨x.1, 0, none⟩)) := (hb1.cell (p := ⟨R, i, none⟩) hRl).trans hRx
  have fL := LC1.out.frozen i
  have hlL := LC1.out.lt
  have hlB : B < w1.heap.size := H1.out.b.lt
  have hlP : pb < w1.heap.size := Nat.lt_of_lt_of_le hpbw hb1.size
  have hBL : B ≠ R := H1.out.b.ne_ LC1.out (by decide)
  have hPL : pb ≠ R := by omega
  have HS : Hid (∀ W', Frame (fun j => j = R) w1 W' → W'.cell? ⟨B, 13, none⟩ = some (.slice (some ⟨pb, po, none⟩) L.length pcap) ∧ W'.cell? ⟨B, 22, none⟩ = some (.slice (some ⟨R, 0, none⟩) xs.length cap) ∧ W'.cell? ⟨pb, po + i * 2, none⟩ = some (.int .u32 p.1) ∧ W'.cell? ⟨pb, po + i * 2 + 1, none⟩ = some (.int .u8 p.2)) :=
    Lib.hid (fun W' hf => ⟨fcell hf d13 hBL, fcell hf d22 hBL, fcell hf d0 hPL, fcell hf d1 hPL⟩)
  have hiz : (i : Int) < (xs.length : Int) := by have := Hi.out; omega
  have hizL : (i : Int) < (L.length : Int) := by omega
  obtain ⟨n, hn⟩ : ∃ n, xs.length = n := ⟨_, rfl⟩
  have Hn := Lib.hid hn
  rw [hn] at d22 HS hiz
  clear e1 e2 e3 e4 e5 e6 e7 e8 e9 e10 e11 e12 e13 e14 hl0 hb1 hp0 hp1 hRx hn hi
  go_wp2_with fail
  go_cut [] from 9 to 35 (fun wx => ∃ K, w1.heap.size ≤ K ∧ Blk wx K 139 (Pl.gone p).cells ∧ Blk wx R 137 (cur.setIfInBounds i (.pointer (some ⟨K, 0, none⟩))) ∧ Frame (fun j => j = R) w1 wx)
  case first =>
    go_region_held3 (fun w' => w'.cell? ⟨B, 13, none⟩ = some (.slice (some ⟨pb, po, none⟩) L.length pcap) ∧ w'.cell? ⟨B, 22, none⟩ = some (.slice (some ⟨R, 0, none⟩) n cap) ∧ w'.cell? ⟨pb, po + i * 2, none⟩ = some (.int .u32 p.1) ∧ w'.cell? ⟨pb, po + i * 2 + 1, none⟩ = some (.int .u8 p.2)) (first
      | assumption
      | exact HS.out _ ((((Frame.refl (fun j => j = R) w1).setB i _).alloc _).drew)
      | go_keep) (fail)
    all_goals
      go_wp2_with fail
      go_meet
      have hsz : (w1.setCell ⟨R, i, none⟩ (.pointer (some ⟨w1.heap.size, 0, none⟩))).heap.size = w1.heap.size := by simp [World.setCell]
      have hnb := Blk.new (w1.setCell ⟨R, i, none⟩ (.pointer (some ⟨w1.heap.size, 0, none⟩))) 139 (Pl.gone p).cells
      rw [hsz] at hnb
      exact ⟨w1.heap.size, Nat.le_refl _, hnb.drew, ((LC1.out.set_ i _).alloc _).drew, (((Frame.refl (fun j => j = R) w1).setB i _).alloc _).drew⟩
  obtain ⟨K, hK, kb, lb, hf⟩ := hcut
  have hstep := H1.out.setRow (s' := { s with l := s.l.set i (Pl.gone p) }) LC1.out Hi.out hK kb lb hf rfl rfl
  have hres := Lib.hid hstep
  clear hstep hf lb kb d0 d1 d13 d22 l1
  go_wp2_with fail
  refine bodyPost_ret (results_none rfl _ _ _) rfl ?_
  exact ⟨rfl, _, hres.out.1, (LFr.of_below HB1.out).trans hres.out.2⟩
theorem wrap_i64 {x : Int} (h0 : 0 ≤ x) (h1 : x < 9223372036854775808) : IntKind.i64.wrap x = x := by
  simp [IntKind.wrap, IntKind.signed, IntKind.bits]
  omega
theorem erase_eq {α : Type} (l : List α) (i : Nat) : l.eraseIdx i = l.take i ++ l.drop (i + 1) := List.eraseIdx_eq_take_drop_succ l i
theorem plose_n (h : PAt lo w B c s A cap xs) (hp : c.peers = false) (i : Nat) (hi : i < xs.length) (hn : xs.length ≤ 60000) :
    Calls Try.prog 109 #[.pointer (some ⟨B, 0, none⟩), .int .i64 i] w fun e w' => e = .returned (.tuple #[]) ∧ ∃ A' cap', PAt lo w' B c { s with l := s.l.eraseIdx i } A' cap' (xs.eraseIdx i) ∧ LFr lo w w' := by
  obtain ⟨x, hx⟩ : ∃ x, xs[i]? = some x := ⟨_, List.getElem?_eq_getElem hi⟩
  obtain ⟨R, rfl, hRl, hRlo, ⟨cur, hRc⟩, hRx⟩ := h.at_ hx
  have H := Lib.hid h
  have HP : Hid (Calls Try.prog 63 #[.agg #[.int .u8 c.ty, .int .u32 c.ro, .int .u32 c.na, .int .u8 c.nb, .int .u32 c.ad, .int .u8 c.op, .int .u16 c.hi, .int .u32 c.dd, .int .u16 c.po, .int .u8 c.pr, .bool c.dm, .bool c.ps, c.pe, .int .u32 c.rm]] w fun e w' => e = .returned (.bool false) ∧ Below w.heap.size w w') := Lib.hid (by have h := peers_any c w; rw [hp] at h; exact h)
  have HRc := Lib.hid hRc
  obtain ⟨e1, e2, e3, e4, e5, e6, e7, e8, e9, e10, e11, e12, e13, e14⟩ := lks_cs h.b
  have hl0 : B < w.heap.size := h.b.lt
  have Hi := Lib.hid hi
  have hlow : lo ≤ w.heap.size := by have := h.loB; omega
  obtain ⟨n, hnn⟩ : ∃ n, xs.length = n := ⟨_, rfl⟩
  have Hn := Lib.hid hnn
  have hoR := h.o
  rw [hnn] at hoR hn hi
  have hncap : n ≤ cap := by
    rcases hoR.2 with ⟨e, _⟩ | ⟨_, _, _, _, _, h1, _⟩
    · cases e
    · exact h1
  clear h hp hx hRx hRc hnn hoR
  go_enter Try.func109, Try.ntmps109
  go_wp2_with fail
  refine HP.out.mono ?_
  rintro e w1 ⟨rfl, hb1⟩
  have H1 : Hid (PAt lo w1 B c s (some ⟨R, 0, none⟩) cap xs) := Lib.hid (H.out.below hb1)
  have HB1 := Lib.hid hb1
  have LC1 := Lib.hid (HRc.out.below hb1 HRc.out.lt)
  have d22 : w1.cell? ⟨B, 22, none⟩ = some (.slice (some ⟨R, 0, none⟩) n cap) := by rw [← Hn.out]; exact H1.out.b.cell 22
  obtain ⟨A2, hA2⟩ : ∃ A2 : Addr, (if cap = i + 1 then (⟨R, 0, none⟩ : Addr) else ⟨R, i + 1, none⟩) = A2 := ⟨_, rfl⟩
  have HA2 := Lib.hid hA2
  clear hA2
  have hRow : PRow w1 lo (some ⟨R, 0, none⟩) n cap (kptrs xs) := by rw [← Hn.out]; exact H1.out.o
  have HRow := Lib.hid hRow
  have hBR : B ≠ R := H1.out.b.ne_ LC1.out (by decide)
  have f22 := H1.out.b.frozen 22
  have hlB : B < w1.heap.size := H1.out.b.lt
  have hiz : (i : Int) ≤ (cap : Int) := by omega
  have hiz2 : (i : Int) + 1 ≤ (n : Int) := by omega
  have hlow1 : lo ≤ w1.heap.size := Nat.le_trans hlow hb1.size
  clear e1 e2 e3 e4 e5 e6 e7 e8 e9 e10 e11 e12 e13 e14 hl0 hb1 hRow
  go_wp2_with fail
  refine wp_region_lexN (C := fun w' => w'.cell? ⟨B, 22, none⟩ = some (.slice (some ⟨R, 0, none⟩) n cap)) 16 [true, true, true, true, true, true, true, true, true, true, true, true, true, true, true] (by kernel_rfl) (by kernel_rfl) d22 ?_
  refine ⟨.pointer (some ⟨B, 0, none⟩), ⟨rfl, fun w' _ => by simp [go_sem]⟩, ?_⟩
  refine ⟨.pointer (some ⟨B, 0, none⟩), ⟨rfl, fun w' _ => by simp [go_sem, Act.put]⟩, ?_⟩
  refine ⟨.pointer (some ⟨B, 0, none⟩), ⟨rfl, fun w' _ => by simp [go_sem, Act.put]⟩, ?_⟩
  refine ⟨.pointer (some ⟨B, 22, none⟩), ⟨rfl, fun w' _ => by simp [go_sem, Act.put]⟩, ?_⟩
  refine ⟨.slice (some ⟨R, 0, none⟩) n cap, ⟨rfl, fun w' h => by simp [go_sem, Act.put, h]⟩, ?_⟩
  simp only [Act.put, List.setIfInBounds_toArray, List.set_cons_succ, List.set_cons_zero]
  refine ⟨.int .i64 (i : Int), ⟨rfl, fun w' _ => by simp [go_sem]⟩, ?_⟩
  refine ⟨.int .i64 (i : Int), ⟨rfl, fun w' _ => by simp [go_sem, Act.put]⟩, ?_⟩
  refine ⟨.slice (some ⟨R, 0, none⟩) i i, ⟨rfl, fun w' _ => by simp [go_sem, Act.put, hiz]⟩, ?_⟩
  refine ⟨.pointer (some ⟨B, 0, none⟩), ⟨rfl, fun w' _ => by simp [go_sem, Act.put]⟩, ?_⟩
  refine ⟨.pointer (some ⟨B, 0, none⟩), ⟨rfl, fun w' _ => by simp [go_sem, Act.put]⟩, ?_⟩
  simp only [Act.put, List.setIfInBounds_toArray, List.set_cons_succ, List.set_cons_zero]
  refine ⟨.pointer (some ⟨B, 22, none⟩), ⟨rfl, fun w' _ => by simp [go_sem]⟩, ?_⟩
  refine ⟨.slice (some ⟨R, 0, none⟩) n cap, ⟨rfl, fun w' h => by simp [go_sem, Act.put, h]⟩, ?_⟩
  refine ⟨.int .i64 (i : Int), ⟨rfl, fun w' _ => by simp [go_sem, Act.put]⟩, ?_⟩
  refine ⟨.int .i64 ((i + 1 : Nat) : Int), ⟨rfl, fun w' _ => by simp [go_sem, Act.put]; exact wrap_i64 (by omega) (by omega)⟩, ?_⟩
  refine ⟨.slice (some A2) (n - (i + 1)) (cap - (i + 1)), ⟨rfl, fun w' _ => by rw [← HA2.out]; by_cases hc : cap = i + 1 <;> simp [go_sem, Act.put, hc] <;> omega⟩, ?_⟩
  simp only [Act.put, List.setIfInBounds_toArray, List.set_cons_succ, List.set_cons_zero]
  refine wpListK_step rfl rfl ?_
  have HD : Hid (w1.drew.cell? ⟨B, 22, none⟩ = some (.slice (some ⟨R, 0, none⟩) n cap)) := Lib.hid d22
  refine wp_append_prow (.tmp 43) (.tmp 50) rfl lo (some ⟨R, 0, none⟩) i i ((kptrs xs).take i) rfl (show PRow w1.drew lo _ i i _ from HRow.out.head (by omega)) hlow1 (fun u hu => kptrs_one xs u (List.mem_of_mem_take hu)) w1.heap.size _ (n - (i + 1)) (cap - (i + 1)) ((kptrs xs).drop (i + 1)) rfl (by rw [← HA2.out]; exact HRow.out.drop (by omega)) (fun u hu => kptrs_one xs u (List.mem_of_mem_drop hu)) (by omega) ?_
  intro A' cap' w4 hrow4 hg4
  have hg4' : Frame (fun j => j = R) w1 w4 := by
    have h1 := Frame.of_grown (S := fun j => j = R) hg4 (fun k e _ => by
      have h2 : R = k := by simpa [Value.ownBlock] using e
      exact h2.symm)
    exact ⟨h1.os, h1.tape, h1.output, h1.size, h1.block⟩
  have h22 : w4.cell? ⟨B, 22, none⟩ = some (.slice (some ⟨R, 0, none⟩) n cap) := fcell hg4' d22 hBR
  have K4 := Lib.hid (hg4'.blk H1.out.b hBR)
  have HF4 := Lib.hid hg4'
  have HRow4 := Lib.hid hrow4
  have fz4 := K4.out.frozen
  have hlt4 := K4.out.lt
  refine ⟨h22, ?_⟩
  clear hrow4 hg4 hg4' d22 f22
  refine wpListK_of_list _ 16 _ _ (Nat.le_refl _) (fun j => match j with
    | 0 => rfl
    | 1 => rfl
    | 2 => rfl
    | j + 3 => by simp; omega) ?_
  go_wp2_with fail
  dsimp only [NormQ]
  try go_wp2_with fail
  go_end0
  have hps : kptrs (xs.eraseIdx i) = (kptrs xs).take i ++ (kptrs xs).drop (i + 1) := by unfold kptrs; rw [erase_eq, List.map_append, List.map_take, List.map_drop]
  have hlen : (xs.eraseIdx i).length = i + (n - (i + 1)) := by rw [erase_eq, List.length_append, List.length_take, List.length_drop, Hn.out]; omega
  have hsub : (xs.eraseIdx i).Sublist xs := List.eraseIdx_sublist xs i
  have hF5 : Frame (fun j => j = B) w4 (w4.setCell ⟨B, 22, none⟩ (.slice A' (i + (n - (i + 1))) cap')) := (Frame.refl _ w4).setB 22 _
  have hF : Frame (fun j => j = R ∨ j = B) w1 (w4.setCell ⟨B, 22, none⟩ (.slice A' (i + (n - (i + 1))) cap')) := (HF4.out.mono (fun j e => .inl e)).trans (hF5.mono (fun j e => .inr e))
  refine ⟨rfl, A', cap', ⟨H.out.loB, by rw [hlen]; exact K4.out.set_ 22 _, ?_, fun y hy => ?_, ?_, ?_⟩, (LFr.of_below HB1.out).trans (hF.mono fun j e => ?_)⟩
  · rw [hlen, hps]
    refine HRow4.out.fr hF5 (fun L hL e => ?_)
    obtain ⟨cur4, hc4⟩ := HRow4.out.ty hL
    exact hc4.ne_ K4.out (by decide) e
  · have hyx := hsub.subset hy
    refine ⟨hF.blk (H1.out.k y hyx).1 ?_, (H1.out.k y hyx).2⟩
    rintro (e | e)
    · exact (H1.out.k y hyx).1.ne_ LC1.out (by decide) e
    · exact (H1.out.k y hyx).1.ne_ H1.out.b (by decide) e
  · exact H.out.nd.sublist (hsub.map _)
  · show (xs.eraseIdx i).map (·.2) = s.l.eraseIdx i
    rw [← H.out.l, erase_eq, erase_eq, List.map_append, List.map_take, List.map_drop]
  · rcases e with rfl | rfl
    · exact ⟨hRlo, _, _, LC1.out, .inr (.inl rfl)⟩
    · exact ⟨H.out.loB, _, _, H1.out.b, .inl rfl⟩
end
end Go.Proofs.Ytgbmhijgpdgdbaa
