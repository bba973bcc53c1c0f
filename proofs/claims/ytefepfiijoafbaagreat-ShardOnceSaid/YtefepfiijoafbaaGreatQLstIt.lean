/- Staged: what is staged, in order, in memory of its own. Lists: all lists, in order, in memory of their own. -/
import Derived.Test.YtefepfiijoafbaaGreatQSeqP
import Derived.Test.YtefepfiijoafbaaGreatQSCopyC
namespace Go.Proofs.YtefepfiijoafbaaGreat
open Go.RowKit Go.Shelf Go.Maps
attribute [local go_sem] Oper.semAt_some
attribute [local irreducible] wpQuiet
set_option linter.unusedVariables false
set_option linter.unusedSimpArgs false

/-- A staged transaction as it is handed out. -/
structure StEl where
  x : Int
  v : Value
  b : Nat
  ws : List Wr
def StEl.encs (e : StEl) : Array Value := #[.int .u64 e.x, e.v]
def StEl.ok (Z : Nat → Prop) (e : StEl) (W : World) : Prop := Wrs W e.b e.v e.ws ∧ (0 < e.ws.length → Z e.b)
theorem StEl.ok_same {Z : Nat → Prop} {e : StEl} {A B : World} (h : e.ok Z A) (hs : SameOn Z A B) : e.ok Z B :=
  ⟨rowsK_frT (enc := Wr.enc) (n := 8) (fun _ => rfl) h.1 (T := fun k => ¬ Z k) (SameOn.mono hs fun k hk _ => Classical.not_not.1 hk) fun h0 hn => hn (h.2 h0), h.2⟩
/-- What came so far; all. -/
def StHist (s : SS) (pre : List StEl) : Prop := RisesBy id (pre.map (·.x)) ∧ ∀ e ∈ pre, s.staged e.x = some e.ws
def StFin (s : SS) (pre : List StEl) : Prop := StHist s pre ∧ ∀ x, s.staged x ≠ none → x ∈ pre.map (·.x)
theorem IsState.same {W W' : World} {R : Nat → Prop} {p : Nat} {s : SS} {N : Nat} (h : IsState W R p s N) (hs : SameOn R W W') : IsState W' R p s N :=
  h.fr (T := fun k => ¬ R k) (SameOn.mono hs fun k hk _ => Classical.not_not.1 hk) fun k hk hn => hn hk

/-- The keys as a list of elements. -/
def stEls (f : Int → Option (List Wr)) (sv : Int → Value) (sb : Int → Nat) (ks : List Int) : List StEl := ks.map fun x => ⟨x, sv x, sb x, (f x).getD []⟩
theorem stEls_x (f : Int → Option (List Wr)) (sv : Int → Value) (sb : Int → Nat) (ks : List Int) : (stEls f sv sb ks).map (·.x) = ks := by
  induction ks with
  | nil => rfl
  | cons x l ih => unfold stEls at ih ⊢; simp only [List.map_cons, List.map_map]; rw [List.map_map] at ih; rw [ih]

theorem ints_row {w : World} {n : Nat} {v : Value} {xs : List Int} (h : w.ownsRow n 33 1 v xs.length (xs.map (Value.int .u64))) (hw : ∀ x ∈ xs, (Lit.int .u64 x).wf = true) : ∃ b, n ≤ b ∧ Ints .u64 w b v xs := by
  rcases h.2 with ⟨hv, hn⟩ | ⟨g, cap, cur, hv, hb, hg, hnc, hcm, hcs, htake⟩
  · have hz : xs = [] := List.eq_nil_of_length_eq_zero hn
    rw [hv, hz]
    exact ⟨n, Nat.le_refl _, Ints.nil _ _ _⟩
  · rw [hv] at h ⊢
    refine ⟨g, hb, ⟨some ⟨g, 0, none⟩, 0, cap, rfl, hnc, by unfold maxLen at hcm; omega, fun _ => rfl, by simp, fun i hi => ?_, hw⟩⟩
    have := h.cellAt i (by omega)
    simp [hi] at this
    simpa using this

set_option maxRecDepth 100000 in
set_option maxHeartbeats 2000000 in
theorem staged1_seq (w : World) (Bs : Nat) (R : Nat → Prop) (p : Nat) (s : SS) (N : Nat) (h : IsState w R p s N) (hRl : ∀ k, R k → k < w.heap.size) (hF : s.Fine N) (hN : N ≤ 100000) (hB : w.heap[Bs]? = some (.cells #[.pointer (some ⟨p, 0, none⟩)] 27 (0, 0))) :
    SeqP Tryz.prog 60 #[.pointer (some ⟨Bs, 0, none⟩)] StEl.encs StEl.ok (StHist s) (StFin s) (fun k => R k ∨ k = Bs) w := by
  intro l J Jx S W hW hS hJ hJx hY h0
  have hBW := (hW.block Bs (.inr rfl) (lt_of_block hB)).trans hB
  have hst : IsState W R p s N := h.same (SameOn.mono hW fun k hk _ => .inl hk)
  have hBl := lt_of_block hB
  clear h hB
  have hcopy := sCopy_any W R p s N hst hF hN
  have c0 := cell_of_one hBW
  have HC := Lib.hid hcopy; have HY := Lib.hid hY; have HS := Lib.hid hS; have H0 := Lib.hid h0; have HF := Lib.hid hF
  clear hcopy hY hS h0 hBW hst hF
  have f1 : Fence.wide.fn 16 := trivial
  have f2 : Fence.wide.fn 62 := trivial
  have f3 : Fence.wide.fn 61 := trivial
  refine (callsIn_wide (n := 8)).1 ?_
  refine callsIn_of_wp Tryz.func60 rfl trivial ?_ rfl
  simp only [Tryz.ntmps60, List.size_toArray, List.length_cons, List.length_nil, Nat.reduceAdd, Nat.reduceSub, Array.replicate_succ, Array.replicate_zero, List.push_toArray, List.append_toArray, List.nil_append, List.cons_append]
  gi_wp2_with (gi_at_call 16; refine (callsIn_wide.2 HC.out).mono ?_; rintro e w1 ⟨pc, rfl, hc1, hf1⟩; obtain ⟨⟨pp, mL, mS, mF⟩, m, hpt, hst⟩ := hc1.bound; obtain rfl : pp = pc := hpt; have cS := (box_cells hst.cells).1 2; simp only [List.getElem?_toArray, List.getElem?_cons_succ, List.getElem?_cons_zero] at cS; have HST := Lib.hid hst; have HF1 := Lib.hid hf1; clear hc1 hst hf1)
  refine (callsIn_wide.2 (keysW_any w1 mS)).mono ?_
  rintro e w2 ⟨rfl, hw2⟩
  have hf2 : Fr N0 w1 w2 := by rw [hw2]; exact (Fr.refl _ _).alloc _
  have hBm : w2.heap[w1.heap.size]? = some (.cells #[.map (some mS)] 120 (0, 0)) := by rw [hw2]; exact World.alloc_heap_new _ _
  have hso := sortedW_any w2 w1.heap.size mS N (viewS s.staged m.sv) (HST.out.mapS.fr hf2 id) hBm (by omega)
  have HSO := Lib.hid hso; have HF2 := Lib.hid hf2
  clear hso hBm hf2 hw2
  gi_wp2_with fail
  refine (callsIn_wide.2 HSO.out).mono ?_
  rintro e w3 ⟨v, ks, rfl, hrise, hmem, hkwf, hrow, hf3⟩
  obtain ⟨bk, hbk, hints⟩ := ints_row hrow hkwf
  obtain ⟨ka, koff, kcap, rfl, hk1, hk2, hk3, -, hkc, -⟩ := hints
  obtain ⟨n, hn⟩ : ∃ n, ks.length = n := ⟨_, rfl⟩
  have hfW : Fr N0 W w3 := (HF1.out.then0 HF2.out).then0 hf3
  have hst3 := HST.out.fr (HF2.out.then0 hf3) fun _ _ => id
  have hz1 := HF1.out.size; have hz2 := HF2.out.size; have hz3 := hf3.size
  obtain ⟨Z, hZ⟩ : ∃ Z : Nat → Prop, Z = fun k => W.heap.size ≤ k ∧ k < w3.heap.size := ⟨_, rfl⟩
  have hJ0 := H0.out Z w3 hfW (fun k hk => by rw [hZ] at hk; exact hk)
  have hZS : ∀ k, Z k → ¬ S k := fun k hk hs => by rw [hZ] at hk; have := (HS.out k hs).2; omega
  have hkl : ∀ i (h : i < ks.length), bk < w3.heap.size := fun i h => lt_of_cell (hkc i h)
  have cS3 : w3.cell? ⟨pp, 2, none⟩ = some (.map (some mS)) := by have := (box_cells hst3.cells).1 2; simpa using this
  have HKC := Lib.hid hkc; have HKWF := Lib.hid hkwf; have HRISE := Lib.hid hrise; have HMEM := Lib.hid hmem; have HFW := Lib.hid hfW; have HST3 := Lib.hid hst3; have HZ := Lib.hid hZ; have HZS := Lib.hid hZS; have HN := Lib.hid hn; have HKL := Lib.hid hkl; have HCS := Lib.hid cS3
  rw [hn] at hk1 hk3 ⊢
  clear hkc hkwf hrise hmem hfW hst3 hZ hZS hn hkl hrow hf3 cS c0 HST HSO HF1 HF2 H0 HC
  have hfinZ : ∀ (W' : World) (S2 : Nat → Prop), Fr S w3 W' → Grows S S2 w3 W' → (∀ j, Z j → W.heap.size ≤ j ∧ j < W'.heap.size ∧ ¬ S2 j) ∧ Grows S S2 W W' ∧ Fr S W W' := fun W' S2 g1 g2 => by
    have hz := HFW.out.size
    refine ⟨fun j hj => ?_, fun j hj => ⟨?_, (g2 j hj).2⟩, (HFW.out.mono (T' := S) fun _ h => h.elim).trans g1 fun _ h => .inl h⟩
    · have hj2 := hj
      rw [HZ.out] at hj2
      refine ⟨hj2.1, by have := g1.size; omega, fun h1 => ?_⟩
      rcases (g2 j h1).1 with h2 | h2
      · exact HZS.out j hj h2
      · omega
    · rcases (g2 j hj).1 with h | h
      · exact .inl h
      · exact .inr (by omega)
  have HFZ := Lib.hid hfinZ
  clear hfinZ
  gi_wp2
  gi_loopw [17] (fun iv wr => ∃ (k : Nat) (S1 : Nat → Prop), k ≤ n ∧ iv = .int .i64 k ∧ Hid (J Z S1 (stEls s.staged m.sv m.sb (ks.take k)) wr) ∧ Fr S w3 wr ∧ Hid (Grows S S1 w3 wr)) (fun iv _ => n - (intOf iv).toNat)
  case atStart => exact ⟨0, S, Nat.zero_le _, rfl, hJ0, Fr.refl _ _, Grows.refl fun k hk => by have := (HS.out k hk).2; have := HFW.out.size; omega⟩
  case round =>
    obtain ⟨k, S1, hk, rfl, hj, hfr, hgr⟩ := hrel
    have hnb : ∀ j, S1 j → ¬ (R j ∨ j = Bs) ∧ j < wr.heap.size := fun j hj => ⟨by
      rcases (hgr.out j hj).1 with h1 | h1
      · exact (HS.out j h1).1
      · intro h2
        have h3 := hW.size
        have h4 := HFW.out.size
        rcases h2 with h2 | h2
        · have := hRl j h2; omega
        · omega, (hgr.out j hj).2⟩
    by_cases hlt : k < n
    · have hkk : k < ks.length := by rw [HN.out]; exact hlt
      obtain rfl := hk3 (by omega)
      have hxm : ks[k] ∈ ks := List.getElem_mem hkk
      have hsome := (HMEM.out _).1 hxm
      have hwx := HKWF.out _ hxm
      have hts := List.take_succ_eq_append_getElem hkk
      have hrk : RisesBy id (ks.take (k + 1)) := HRISE.out.sublist (List.take_sublist _ _)
      have hZb : ¬ S bk := HZS.out bk (by rw [HZ.out]; exact ⟨by omega, HKL.out k hkk⟩)
      have ck := hfr.cell hZb (HKC.out k hkk)
      have hinp : W.heap.size ≤ pp ∧ pp < w1.heap.size := HST3.out.inR.1
      have hinS : W.heap.size ≤ mS ∧ mS < w1.heap.size := HST3.out.inR.2.2.1
      have cS : wr.cell? ⟨pp, 2, none⟩ = some (.map (some mS)) := hfr.cell (HZS.out pp (by rw [HZ.out]; exact ⟨hinp.1, by have := hinp.2; omega⟩)) HCS.out
      obtain ⟨x, hx⟩ : ∃ x, ks[k] = x := ⟨_, rfl⟩
      rw [hx] at hsome hwx hts ck
      rw [viewS_at] at hsome
      obtain ⟨ws, hws⟩ : ∃ ws, s.staged x = some ws := by
        cases h : s.staged x with
        | none => rw [h] at hsome; cases hsome
        | some ws => exact ⟨ws, rfl⟩
      have hmapr := HST3.out.mapS.fr hfr (HZS.out mS (by rw [HZ.out]; exact ⟨hinS.1, by have := hinS.2; omega⟩))
      have hlk := (hmapr.look lawU Tryz.underlying120 (zeroWsR _) (keyOf_int_mk (P := Tryz.prog) Tryz.underlying33 hwx)).1
      rw [show (Lit.int .u64 x) = litU x from rfl, viewS_at, hws] at hlk
      simp only [Option.map_some, Option.getD_some] at hlk
      obtain ⟨hrow, hin'⟩ := HST3.out.staged x ws hws
      have hin : 0 < ws.length → W.heap.size ≤ m.sb x ∧ m.sb x < w1.heap.size := fun h0 => (hin' h0).1
      clear hin'
      have hels : stEls s.staged m.sv m.sb (ks.take (k + 1)) = stEls s.staged m.sv m.sb (ks.take k) ++ [⟨x, m.sv x, m.sb x, ws⟩] := by rw [hts]; simp [stEls, hws]
      have hhist : StHist s (stEls s.staged m.sv m.sb (ks.take k) ++ [⟨x, m.sv x, m.sb x, ws⟩]) := by
        rw [← hels]
        refine ⟨by rw [stEls_x]; exact hrk, fun e he => ?_⟩
        obtain ⟨y, hy, rfl⟩ := List.mem_map.1 he
        have hs := (HMEM.out y).1 (List.mem_of_mem_take hy)
        rw [viewS_at] at hs
        cases h : s.staged y with
        | none => rw [h] at hs; cases hs
        | some us => simp [h]
      have hz13 : w1.heap.size ≤ w3.heap.size := by omega
      have hok : StEl.ok Z ⟨x, m.sv x, m.sb x, ws⟩ wr := ⟨rowsK_frT (enc := Wr.enc) (n := 8) (fun _ => rfl) hrow hfr fun h0 => HZS.out _ (by rw [HZ.out]; exact ⟨(hin h0).1, Nat.lt_of_lt_of_le (hin h0).2 hz13⟩), fun h0 => by rw [HZ.out]; exact ⟨(hin h0).1, Nat.lt_of_lt_of_le (hin h0).2 hz13⟩⟩
      have hY1 := HY.out Z S1 (stEls s.staged m.sv m.sb (ks.take k)) ⟨x, m.sv x, m.sb x, ws⟩ wr (HFZ.out wr S1 hfr hgr.out).1 hj.out hhist hok (HFW.out.same (S := fun k => R k ∨ k = Bs) (fun _ _ h => h) |>.trans (hfr.same fun k hk hs => (HS.out k hs).1 hk)) hnb
      obtain ⟨fn, tmps, assign, body, hy, hR⟩ := hY1
      have HELS := Lib.hid hels; have HGR := Lib.hid hgr.out
      clear hhist hok hels hrow hin hmapr hws hsome hwx hts hrk hZb hxm hx hj hnb hinp hinS
      simp only [StEl.encs] at hy
      have hki : (k : Int) < (n : Int) := by omega
      gi_wp2
      refine hR.mono ?_
      rintro e W3 (⟨rfl, S2, hj3, hf3, hg3⟩ | ⟨rfl, S2, hj3, hf3, hg3⟩)
      · rw [← HELS.out] at hj3
        have hf4 : Fr S w3 W3 := hfr.trans hf3 fun j hj => (HGR.out j hj).1
        have hg4 : Grows S S2 w3 W3 := HGR.out.trans hg3 hfr.size
        clear hy hR hlk
        gi_wp2
        go_roundw
        case rel => exact ⟨k + 1, S2, by omega, by go_num, hj3, hf4, hg4⟩
        case measure => simp [intOf]; omega
      · have hf4 : Fr S w3 W3 := hfr.trans hf3 fun j hj => (HGR.out j hj).1
        have hg4 : Grows S S2 w3 W3 := HGR.out.trans hg3 hfr.size
        clear hy hR hlk
        gi_wp2
        refine bodyPost_ret (results_none rfl _ _ _) rfl ?_
        obtain ⟨z1, z2, z3⟩ := HFZ.out W3 S2 hf4 hg4
        exact ⟨⟨_, rfl⟩, Z, S2, z1, .inr ⟨_, hj3⟩, z3, z2⟩
    · have hkn : k = ks.length := by have := HN.out; omega
      have hjf := hj.out
      rw [hkn, List.take_length] at hjf
      clear hj
      gi_wp2
      go_end0
      obtain ⟨z1, z2, z3⟩ := HFZ.out wr S1 hfr hgr.out
      refine ⟨⟨_, rfl⟩, Z, S1, z1, .inl ⟨_, ⟨⟨by rw [stEls_x]; exact HRISE.out, fun e he => ?_⟩, fun x hx => ?_⟩, hjf⟩, z3, z2⟩
      · obtain ⟨y, hy, rfl⟩ := List.mem_map.1 he
        have hs := (HMEM.out y).1 hy
        rw [viewS_at] at hs
        cases h : s.staged y with
        | none => rw [h] at hs; cases hs
        | some us => simp [h]
      · rw [stEls_x]
        refine (HMEM.out x).2 ?_
        rw [viewS_at]
        obtain ⟨us, hus⟩ := Option.ne_none_iff_exists'.1 hx
        rw [hus]; rfl
end Go.Proofs.YtefepfiijoafbaaGreat
namespace Go.Proofs.YtefepfiijoafbaaGreat
open Go.RowKit Go.Shelf Go.Maps Go.Sort
attribute [local go_sem] Oper.semAt_some
attribute [local irreducible] wpQuiet
set_option linter.unusedVariables false
set_option linter.unusedSimpArgs false

/-- A posting list as it is handed out. -/
structure LsEl where
  p : ByteArray
  pt : Nat
  l : PL
  R : Nat → Prop
def LsEl.encs (e : LsEl) : Array Value := #[.string e.p, .pointer (some ⟨e.pt, 0, none⟩)]
def LsEl.ok (Z : Nat → Prop) (e : LsEl) (W : World) : Prop := IsPL W e.R e.pt e.l ∧ ∀ k, e.R k → Z k
theorem LsEl.ok_same {Z : Nat → Prop} {e : LsEl} {A B : World} (h : e.ok Z A) (hs : SameOn Z A B) : e.ok Z B :=
  ⟨h.1.fr (T := fun k => ¬ Z k) (SameOn.mono hs fun k hk _ => Classical.not_not.1 hk) fun k hk hn => hn (h.2 k hk), h.2⟩
def LsHist (s : SS) (pre : List LsEl) : Prop := (pre.map (·.p.data.toList)).Pairwise (· < ·) ∧ ∀ e ∈ pre, s.lists e.p = some e.l
def LsFin (s : SS) (pre : List LsEl) : Prop := LsHist s pre ∧ ∀ p, s.lists p ≠ none → p ∈ pre.map (·.p)
def lsEls (f : ByteArray → Option PL) (pt : ByteArray → Nat) (RL : ByteArray → Nat → Prop) (ks : List (List UInt8)) : List LsEl := ks.map fun x => ⟨mkS x, pt (mkS x), (f (mkS x)).getD { s := Sch.zero }, RL (mkS x)⟩
theorem lsEls_p (f : ByteArray → Option PL) (pt : ByteArray → Nat) (RL : ByteArray → Nat → Prop) (ks : List (List UInt8)) : (lsEls f pt RL ks).map (·.p.data.toList) = ks := by
  unfold lsEls
  rw [List.map_map]
  have : ((fun e : LsEl => e.p.data.toList) ∘ fun x => (⟨mkS x, pt (mkS x), (f (mkS x)).getD { s := Sch.zero }, RL (mkS x)⟩ : LsEl)) = id := by funext x; simp [mkS]
  rw [this, List.map_id]
theorem lsEls_q (f : ByteArray → Option PL) (pt : ByteArray → Nat) (RL : ByteArray → Nat → Prop) (ks : List (List UInt8)) : (lsEls f pt RL ks).map (·.p) = ks.map mkS := by
  unfold lsEls; rw [List.map_map]; rfl
theorem strs_row {w : World} {n : Nat} {v : Value} {xs : List (List UInt8)} (h : w.ownsRow n 9 1 v xs.length (xs.map encStr)) : ∃ b, n ≤ b ∧ Strs w b v (xs.map mkS) := by
  rcases h.2 with ⟨hv, hn⟩ | ⟨g, cap, cur, hv, hb, hg, hnc, hcm, hcs, htake⟩
  · have hz : xs = [] := List.eq_nil_of_length_eq_zero hn
    rw [hv, hz]
    exact ⟨n, Nat.le_refl _, Strs.nil _ _⟩
  · rw [hv] at h ⊢
    refine ⟨g, hb, ⟨some ⟨g, 0, none⟩, 0, cap, by simp, by simpa using hnc, by unfold maxLen at hcm; omega, fun _ => rfl, by simp, fun i hi => ?_⟩⟩
    have hi' : i < xs.length := by simpa using hi
    have := h.cellAt i (by omega)
    simp [hi'] at this
    simpa [mkS] using this

set_option maxRecDepth 100000 in
set_option maxHeartbeats 2000000 in
theorem lists1_seq (w : World) (Bs : Nat) (R : Nat → Prop) (p : Nat) (s : SS) (N : Nat) (h : IsState w R p s N) (hRl : ∀ k, R k → k < w.heap.size) (hF : s.Fine N) (hN : N ≤ 100000) (hB : w.heap[Bs]? = some (.cells #[.pointer (some ⟨p, 0, none⟩)] 27 (0, 0))) :
    SeqP Tryz.prog 66 #[.pointer (some ⟨Bs, 0, none⟩)] LsEl.encs LsEl.ok (LsHist s) (LsFin s) (fun k => R k ∨ k = Bs) w := by
  intro l J Jx S W hW hS hJ hJx hY h0
  have hBW := (hW.block Bs (.inr rfl) (lt_of_block hB)).trans hB
  have hst : IsState W R p s N := h.same (SameOn.mono hW fun k hk _ => .inl hk)
  have hBl := lt_of_block hB
  clear h hB
  have hcopy := sCopy_any W R p s N hst hF hN
  have c0 := cell_of_one hBW
  have HC := Lib.hid hcopy; have HY := Lib.hid hY; have HS := Lib.hid hS; have H0 := Lib.hid h0; have HF := Lib.hid hF
  clear hcopy hY hS h0 hBW hst hF
  have f1 : Fence.wide.fn 16 := trivial
  have f2 : Fence.wide.fn 68 := trivial
  have f3 : Fence.wide.fn 67 := trivial
  refine (callsIn_wide (n := 8)).1 ?_
  refine callsIn_of_wp Tryz.func66 rfl trivial ?_ rfl
  simp only [Tryz.ntmps66, List.size_toArray, List.length_cons, List.length_nil, Nat.reduceAdd, Nat.reduceSub, Array.replicate_succ, Array.replicate_zero, List.push_toArray, List.append_toArray, List.nil_append, List.cons_append]
  gi_wp2_with (gi_at_call 16; refine (callsIn_wide.2 HC.out).mono ?_; rintro e w1 ⟨pc, rfl, hc1, hf1⟩; obtain ⟨⟨pp, mL, mS, mF⟩, m, hpt, hst⟩ := hc1.bound; obtain rfl : pp = pc := hpt; have cS := (box_cells hst.cells).1 1; simp only [List.getElem?_toArray, List.getElem?_cons_succ, List.getElem?_cons_zero] at cS; have HST := Lib.hid hst; have HF1 := Lib.hid hf1; clear hc1 hst hf1)
  refine (callsIn_wide.2 (keysL_any w1 mL)).mono ?_
  rintro e w2 ⟨rfl, hw2⟩
  have hf2 : Fr N0 w1 w2 := by rw [hw2]; exact (Fr.refl _ _).alloc _
  have hBm : w2.heap[w1.heap.size]? = some (.cells #[.map (some mL)] 119 (0, 0)) := by rw [hw2]; exact World.alloc_heap_new _ _
  have hso := sortedL_any w2 w1.heap.size mL N (viewL s.lists m.pt) (HST.out.mapL.fr hf2 id) hBm (by omega)
  have HSO := Lib.hid hso; have HF2 := Lib.hid hf2
  clear hso hBm hf2 hw2
  gi_wp2_with fail
  refine (callsIn_wide.2 HSO.out).mono ?_
  rintro e w3 ⟨v, ks, rfl, ⟨hrise, hmem⟩, hkwf, hrow, hf3⟩
  obtain ⟨bk, hbk, hints⟩ := strs_row hrow
  obtain ⟨ka, koff, kcap, rfl, hk1, hk2, hk3, -, hkc⟩ := hints
  rw [List.length_map] at hk1 hk3
  obtain ⟨n, hn⟩ : ∃ n, ks.length = n := ⟨_, rfl⟩
  have hfW : Fr N0 W w3 := (HF1.out.then0 HF2.out).then0 hf3
  have hst3 := HST.out.fr (HF2.out.then0 hf3) fun _ _ => id
  have hz1 := HF1.out.size; have hz2 := HF2.out.size; have hz3 := hf3.size
  obtain ⟨Z, hZ⟩ : ∃ Z : Nat → Prop, Z = fun k => W.heap.size ≤ k ∧ k < w3.heap.size := ⟨_, rfl⟩
  have hJ0 := H0.out Z w3 hfW (fun k hk => by rw [hZ] at hk; exact hk)
  have hZS : ∀ k, Z k → ¬ S k := fun k hk hs => by rw [hZ] at hk; have := (HS.out k hs).2; omega
  have hkl : ∀ i (h : i < ks.length), bk < w3.heap.size := fun i h => lt_of_cell (hkc i (by simpa using h))
  rw [List.length_map]
  have cS3 : w3.cell? ⟨pp, 1, none⟩ = some (.map (some mL)) := by have := (box_cells hst3.cells).1 1; simpa using this
  have HKC := Lib.hid hkc; have HKWF := Lib.hid hkwf; have HRISE := Lib.hid hrise; have HMEM := Lib.hid hmem; have HFW := Lib.hid hfW; have HST3 := Lib.hid hst3; have HZ := Lib.hid hZ; have HZS := Lib.hid hZS; have HN := Lib.hid hn; have HKL := Lib.hid hkl; have HCS := Lib.hid cS3
  rw [hn] at hk1 hk3 ⊢
  clear hkc hkwf hrise hmem hfW hst3 hZ hZS hn hkl hrow hf3 cS c0 HST HSO HF1 HF2 H0 HC
  have hfinZ : ∀ (W' : World) (S2 : Nat → Prop), Fr S w3 W' → Grows S S2 w3 W' → (∀ j, Z j → W.heap.size ≤ j ∧ j < W'.heap.size ∧ ¬ S2 j) ∧ Grows S S2 W W' ∧ Fr S W W' := fun W' S2 g1 g2 => by
    have hz := HFW.out.size
    refine ⟨fun j hj => ?_, fun j hj => ⟨?_, (g2 j hj).2⟩, (HFW.out.mono (T' := S) fun _ h => h.elim).trans g1 fun _ h => .inl h⟩
    · have hj2 := hj
      rw [HZ.out] at hj2
      refine ⟨hj2.1, by have := g1.size; omega, fun h1 => ?_⟩
      rcases (g2 j h1).1 with h2 | h2
      · exact HZS.out j hj h2
      · omega
    · rcases (g2 j hj).1 with h | h
      · exact .inl h
      · exact .inr (by omega)
  have HFZ := Lib.hid hfinZ
  clear hfinZ
  gi_wp2
  gi_loopw [17] (fun iv wr => ∃ (k : Nat) (S1 : Nat → Prop), k ≤ n ∧ iv = .int .i64 k ∧ Hid (J Z S1 (lsEls s.lists m.pt m.RL (ks.take k)) wr) ∧ Fr S w3 wr ∧ Hid (Grows S S1 w3 wr)) (fun iv _ => n - (intOf iv).toNat)
  case atStart => exact ⟨0, S, Nat.zero_le _, rfl, hJ0, Fr.refl _ _, Grows.refl fun k hk => by have := (HS.out k hk).2; have := HFW.out.size; omega⟩
  case round =>
    obtain ⟨k, S1, hk, rfl, hj, hfr, hgr⟩ := hrel
    have hnb : ∀ j, S1 j → ¬ (R j ∨ j = Bs) ∧ j < wr.heap.size := fun j hj => ⟨by
      rcases (hgr.out j hj).1 with h1 | h1
      · exact (HS.out j h1).1
      · intro h2
        have h3 := hW.size
        have h4 := HFW.out.size
        rcases h2 with h2 | h2
        · have := hRl j h2; omega
        · omega, (hgr.out j hj).2⟩
    by_cases hlt : k < n
    · have hkk : k < ks.length := by rw [HN.out]; exact hlt
      obtain rfl := hk3 (by omega)
      have hxm : ks[k] ∈ ks := List.getElem_mem hkk
      have hsome := (HMEM.out _).1 hxm
      have hwx := HKWF.out _ hxm
      have hts := List.take_succ_eq_append_getElem hkk
      have hrk : (ks.take (k + 1)).Pairwise (· < ·) := HRISE.out.sublist (List.take_sublist _ _)
      have hZb : ¬ S bk := HZS.out bk (by rw [HZ.out]; exact ⟨by omega, HKL.out k hkk⟩)
      have ck := hfr.cell hZb (HKC.out k (by simpa using hkk))
      rw [List.getElem_map] at ck
      have hinp : W.heap.size ≤ pp ∧ pp < w1.heap.size := HST3.out.inR.1
      have hinS : W.heap.size ≤ mL ∧ mL < w1.heap.size := HST3.out.inR.2.1
      have cS : wr.cell? ⟨pp, 1, none⟩ = some (.map (some mL)) := hfr.cell (HZS.out pp (by rw [HZ.out]; exact ⟨hinp.1, by have := hinp.2; omega⟩)) HCS.out
      obtain ⟨x, hx⟩ : ∃ x, ks[k] = x := ⟨_, rfl⟩
      rw [hx] at hsome hwx hts ck
      have hlx : Lit.string x = litS (mkS x) := by simp [litS, mkS]
      rw [hlx, viewL_at] at hsome
      obtain ⟨l0, hl0⟩ : ∃ l0, s.lists (mkS x) = some l0 := by
        cases h : s.lists (mkS x) with
        | none => rw [h] at hsome; cases hsome
        | some ws => exact ⟨ws, rfl⟩
      have hmapr := HST3.out.mapL.fr hfr (HZS.out mL (by rw [HZ.out]; exact ⟨hinS.1, by have := hinS.2; omega⟩))
      have hsz : (mkS x).size ≤ maxLen := by show x.toArray.size ≤ maxLen; simpa using hwx
      have hlk := (hmapr.look lawSt Tryz.underlying119 (zeroPLR _) (Go.WideMaps.keyOf_string_mk Tryz.underlying9 hsz)).1
      rw [show (Lit.string (mkS x).data.toList) = litS (mkS x) from rfl, viewL_at, hl0] at hlk
      simp only [Option.map_some, Option.getD_some] at hlk
      have hpl := HST3.out.lists.1 (mkS x) l0 hl0
      have hin : ∀ j, m.RL (mkS x) j → W.heap.size ≤ j ∧ j < w1.heap.size := fun j hj => (HST3.out.lists.2.1 (mkS x) j hj).1
      have hels : lsEls s.lists m.pt m.RL (ks.take (k + 1)) = lsEls s.lists m.pt m.RL (ks.take k) ++ [⟨mkS x, m.pt (mkS x), l0, m.RL (mkS x)⟩] := by rw [hts]; simp [lsEls, hl0]
      have hhist : LsHist s (lsEls s.lists m.pt m.RL (ks.take k) ++ [⟨mkS x, m.pt (mkS x), l0, m.RL (mkS x)⟩]) := by
        rw [← hels]
        refine ⟨by rw [lsEls_p]; exact hrk, fun e he => ?_⟩
        obtain ⟨y, hy, rfl⟩ := List.mem_map.1 he
        have hs := (HMEM.out y).1 (List.mem_of_mem_take hy)
        rw [show Lit.string y = litS (mkS y) by simp [litS, mkS], viewL_at] at hs
        cases h : s.lists (mkS y) with
        | none => rw [h] at hs; cases hs
        | some us => simp [h]
      have hz13 : w1.heap.size ≤ w3.heap.size := by omega
      have hRZ : ∀ j, m.RL (mkS x) j → Z j := fun j hj => by rw [HZ.out]; exact ⟨(hin j hj).1, Nat.lt_of_lt_of_le (hin j hj).2 hz13⟩
      have hok : LsEl.ok Z ⟨mkS x, m.pt (mkS x), l0, m.RL (mkS x)⟩ wr := ⟨hpl.fr hfr fun j hj => HZS.out j (hRZ j hj), hRZ⟩
      have hY1 := HY.out Z S1 (lsEls s.lists m.pt m.RL (ks.take k)) ⟨mkS x, m.pt (mkS x), l0, m.RL (mkS x)⟩ wr (HFZ.out wr S1 hfr hgr.out).1 hj.out hhist hok (HFW.out.same (S := fun k => R k ∨ k = Bs) (fun _ _ h => h) |>.trans (hfr.same fun k hk hs => (HS.out k hs).1 hk)) hnb
      obtain ⟨fn, tmps, assign, body, hy, hR⟩ := hY1
      have HELS := Lib.hid hels; have HGR := Lib.hid hgr.out
      clear hhist hok hels hpl hin hmapr hl0 hsome hwx hts hrk hZb hxm hx hj hnb hinp hinS hRZ hlx hsz
      simp only [LsEl.encs] at hy
      have hki : (k : Int) < (n : Int) := by omega
      gi_wp2
      refine hR.mono ?_
      rintro e W3 (⟨rfl, S2, hj3, hf3, hg3⟩ | ⟨rfl, S2, hj3, hf3, hg3⟩)
      · rw [← HELS.out] at hj3
        have hf4 : Fr S w3 W3 := hfr.trans hf3 fun j hj => (HGR.out j hj).1
        have hg4 : Grows S S2 w3 W3 := HGR.out.trans hg3 hfr.size
        clear hy hR hlk
        gi_wp2
        go_roundw
        case rel => exact ⟨k + 1, S2, by omega, by go_num, hj3, hf4, hg4⟩
        case measure => simp [intOf]; omega
      · have hf4 : Fr S w3 W3 := hfr.trans hf3 fun j hj => (HGR.out j hj).1
        have hg4 : Grows S S2 w3 W3 := HGR.out.trans hg3 hfr.size
        clear hy hR hlk
        gi_wp2
        refine bodyPost_ret (results_none rfl _ _ _) rfl ?_
        obtain ⟨z1, z2, z3⟩ := HFZ.out W3 S2 hf4 hg4
        exact ⟨⟨_, rfl⟩, Z, S2, z1, .inr ⟨_, hj3⟩, z3, z2⟩
    · have hkn : k = ks.length := by have := HN.out; omega
      have hjf := hj.out
      rw [hkn, List.take_length] at hjf
      clear hj
      gi_wp2
      go_end0
      obtain ⟨z1, z2, z3⟩ := HFZ.out wr S1 hfr hgr.out
      refine ⟨⟨_, rfl⟩, Z, S1, z1, .inl ⟨_, ⟨⟨by rw [lsEls_p]; exact HRISE.out, fun e he => ?_⟩, fun q hq => ?_⟩, hjf⟩, z3, z2⟩
      · obtain ⟨y, hy, rfl⟩ := List.mem_map.1 he
        have hs := (HMEM.out y).1 hy
        rw [show Lit.string y = litS (mkS y) by simp [litS, mkS], viewL_at] at hs
        cases h : s.lists (mkS y) with
        | none => rw [h] at hs; cases hs
        | some us => simp [h]
      · rw [lsEls_q]
        refine List.mem_map.2 ⟨q.data.toList, (HMEM.out _).2 ?_, mkS_data q⟩
        rw [show Lit.string q.data.toList = litS q from rfl, viewL_at]
        obtain ⟨us, hus⟩ := Option.ne_none_iff_exists'.1 hq
        rw [hus]; rfl
theorem sLists_any (W : World) (p : Nat) : Calls Tryz.prog 17 #[.pointer (some ⟨p, 0, none⟩)] W fun e w' => e = .returned (.func (.func 66) #[] #[.pointer (some ⟨W.heap.size, 0, none⟩)]) ∧ w' = W.alloc (.cells #[.pointer (some ⟨p, 0, none⟩)] 27) := by
  go_enter Tryz.func17, Tryz.ntmps17
  go_wp2
  go_ret
  exact ⟨rfl, rfl⟩
theorem sStaged_any (W : World) (p : Nat) : Calls Tryz.prog 15 #[.pointer (some ⟨p, 0, none⟩)] W fun e w' => e = .returned (.func (.func 60) #[] #[.pointer (some ⟨W.heap.size, 0, none⟩)]) ∧ w' = W.alloc (.cells #[.pointer (some ⟨p, 0, none⟩)] 27) := by
  go_enter Tryz.func15, Tryz.ntmps15
  go_wp2
  go_ret
  exact ⟨rfl, rfl⟩
end Go.Proofs.YtefepfiijoafbaaGreat
