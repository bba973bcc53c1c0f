/- What a group is sent: the program's finaled, staged. -/
import Derived.Test.YthidminepegnoaaGreatDoorQRGroups
import Derived.Test.YthidminepegnoaaGreatDoorQRMay
namespace Go.Proofs.YthidminepegnoaaGreatDoor
open Go.RowKit Go.Shelf Go.Maps Go.Sort
attribute [local go_sem] Oper.semAt_some
attribute [local irreducible] wpQuiet
set_option linter.unusedVariables false
set_option linter.unusedSimpArgs false

theorem setRow_fr {T : Nat → Prop} {A W : World} {g : Nat} (hf : Fr T A W) (hg : T g ∨ A.heap.size ≤ g) (cs : Array Value) : Fr T A (W.setRow g cs) :=
  hf.trans (T' := fun k => k = g) ⟨rfl, rfl, rfl, by simp, fun k hk _ => setRow_other _ _ _ _ hk⟩ (fun k hk => by rw [hk]; exact hg)
theorem sizeOut : (Tryz.prog.info? 89).map (·.size) = some 26 := by kernel_rfl

set_option maxRecDepth 100000 in
set_option maxHeartbeats 1000000 in
theorem xfinaled_any (w : World) (v : Value) (t : Txn) (h : IsTxn w v t) (g : Int) :
    Calls Tryz.prog 54 #[v, .int .u32 g] w fun e w' => e = .returned (.agg (OutV.enc ⟨g, 0, 0, 0, .slice none 0 0, .slice none 0 0, 3, t.start, t.commit, .slice none 0 0⟩).toArray) ∧ Fr N0 w w' := by
  obtain ⟨vw, vk, vn, vg, vl, rfl, h⟩ := h
  clear h
  obtain ⟨ph, st, cm, ws, ks, ns, gs, ls, fl⟩ := t
  simp only
  unfold OutV.enc
  go_enter Tryz.func54, Tryz.ntmps54
  go_wp2_with (go_loud (refine wpList_store_row rfl 89 _ _ rfl (w.heap.size + 1) _ rfl rfl 89 _ (heap_alloc2_new _ _ _) sizeOut rfl (by simp [Value.oneCell']) ?_))
  (try simp only [Exit.inBlock, Exit.then])
  refine bodyPost_ret_by (results_cell_row rfl _ _ (w.heap.size + 1) 89 _ (0, 0) _ rfl (setRow_heap _ _ _ _ _ _ (heap_alloc2_new _ _ _)) Tryz.underlying89 rfl sizeOut) rfl ?_
  exact ⟨rfl, setRow_fr (((Fr.refl _ _).alloc _).alloc _) (.inr (by omega)) _⟩
/-- What texts were set to, one behind the other: numbers. -/
def byNum (l : List (ByteArray × Int)) : DataW Unit := l.foldl (fun D p => D.put (litS p.1) (.lit (.int .u32 p.2))) (.map [])
theorem byNum_snoc (l : List (ByteArray × Int)) (p : ByteArray × Int) : byNum (l ++ [p]) = (byNum l).put (litS p.1) (.lit (.int .u32 p.2)) := by
  simp [byNum, List.foldl_append]
theorem byNum_isMap : ∀ l : List (ByteArray × Int), IsMap (byNum l) := by
  intro l
  induction l using snocInd with
  | h0 => exact isMap_empty
  | h1 l p ih => rw [byNum_snoc]; exact ih.put _ _
theorem byNum_at {l : List (ByteArray × Int)} {s : ByteArray} {v : Int} (h : ∀ q ∈ l, q.1 = s → q.2 = v) (he : ∃ q ∈ l, q.1 = s) (z : DataW Unit) : (byNum l).atKey (litS s) z = .lit (.int .u32 v) := by
  induction l using snocInd with
  | h0 => obtain ⟨q, hq, _⟩ := he; cases hq
  | h1 l p ih =>
    rw [byNum_snoc]
    by_cases hp : p.1 = s
    · rw [hp, atKey_put_same (byNum_isMap l) (litS_key s), h p (by simp) hp]
    · rw [atKey_put_other (fun e => hp (litS_inj e).symm)]
      refine ih (fun q hq => h q (List.mem_append_left _ hq)) ?_
      obtain ⟨q, hq, e⟩ := he
      rcases List.mem_append.1 hq with h | h
      · exact ⟨q, h, e⟩
      · simp at h; subst h; exact absurd e hp
theorem zeroU3R : ∀ w, (zeroValue 41).run Tryz.prog w = .ok (.int .u32 0) w := fun w => by kernel_rfl

set_option maxRecDepth 100000 in
set_option maxHeartbeats 2000000 in
theorem xstaged1_any (w : World) (x : Wr) (D : DataW Unit) (Bh Bg b n : Nat) (g h : Int) (hx : x.pred.size ≤ maxLen) (hc1 : w.cell? ⟨Bh, 0, none⟩ = some (.map (some b))) (hc2 : w.cell? ⟨Bg, 0, none⟩ = some (.int .u32 g))
    (hown : w.ownsMap Tryz.prog 9 (plainElem Tryz.prog 41) b n D) (hat : D.atKey (litS x.pred) (.lit (.int .u32 0)) = .lit (.int .u32 h)) :
    Calls Tryz.prog 89 #[.agg x.enc.toArray, .pointer (some ⟨Bh, 0, none⟩), .pointer (some ⟨Bg, 0, none⟩)] w fun e w' => e = .returned (.bool (h != g)) ∧ Fr N0 w w' := by
  obtain ⟨xd, xu, xp, vk, vb, vn, vs, vu⟩ := x
  unfold Wr.enc
  simp only at hx hat ⊢
  have hlk := Go.WideMaps.keyOf_string_mk Tryz.underlying9 hx
  have HLK := Lib.hid hlk; have HAT := Lib.hid hat
  have ha1 := fun o => ((Fr.refl N0 w).alloc o).cell id hc1
  have ha2 := fun o => ((Fr.refl N0 w).alloc o).cell id hc2
  have HOWN := Lib.hid hown
  clear hlk hat hc1 hc2 hown
  go_enter Tryz.func89, Tryz.ntmps89
  go_wp2_with (at_lookup; go_loud (refine wpList_lookup_own_int _ rfl _ _ 141 rfl 9 41 .u32 lawS Tryz.underlying141 Tryz.underlying41 (zeroU3R _) b n D rfl (HOWN.out.alloc _) _ _ rfl HLK.out ?_); intro c hcat hcw; have hcat := HAT.out.symm.trans hcat; injection hcat with hcat; injection hcat with _ hcat; subst hcat)
  go_ret
  exact ⟨rfl, (by repeat (first | exact Fr.refl _ _ | assumption | refine Fr.alloc ?_ _ | refine Fr.drew ?_ | refine Fr.drewN ?_ _ | refine Fr.setCell ?_ (.inr (by simp; try omega)) _))⟩

/-! ### staged -/

theorem box_cells2 {W : World} {B : Nat} {cs : Array Value} {t : TypeId} (h : W.heap[B]? = some (.cells cs t (0, 0))) : (∀ i, W.cell? ⟨B, i, none⟩ = cs[i]?) ∧ (∀ i, W.frozen? ⟨B, i, none⟩ = false) ∧ B < W.heap.size := by
  refine ⟨fun i => ?_, fun i => by simp [World.frozen?, h], lt_of_block h⟩
  show (match W.heap[B]? with
    | some (.cells c _ _) => if (none : Option _).isSome then none else c[i]?
    | _ => none) = _
  rw [h]; rfl
theorem own_form2 {w : World} {base : Nat} {e : TypeId} {size : Nat} {v : Value} {n : Nat} {xs : List Value} (h : w.ownsRow base e size v n xs) : ∃ a c, v = .slice a n c := by
  rcases h.2 with ⟨hv, h0⟩ | ⟨g, cap, cur, hv, _⟩
  · exact ⟨none, 0, by rw [hv, h0]⟩
  · exact ⟨_, cap, hv⟩
theorem hfw_size {w wr : World} (h : Fr N0 w wr) : w.heap.size ≤ wr.heap.size := h.size
theorem rowsK_on {α : Type} {enc : α → List Value} {n : Nat} (hn : ∀ x, (enc x).length = n) {T : Nat → Prop} {w w' : World} {b : Nat} {v : Value} {xs : List α} (h : RowsK enc n w b v xs) (hf : Fr T w w') (hb : ¬ T b) : RowsK enc n w' b v xs := by
  obtain ⟨a, off, cap, h1, h2, h3, h4, h5, h6⟩ := h
  refine ⟨a, off, cap, h1, h2, h3, h4, h5, fun i hi c hc => ?_⟩
  have hc' : c < (enc xs[i]).length := by rw [hn]; exact hc
  have := h6 i hi c hc
  rw [List.getElem?_eq_getElem hc'] at this ⊢
  exact hf.cell (p := ⟨b, off + i * n + c, none⟩) hb this
theorem plain_u32 {x : Int} (h : 0 ≤ x ∧ x < 4294967296) : plainElem Tryz.prog 41 (.int .u32 x) = some ((.lit (.int .u32 x) : DataW Unit), []) := by
  have hw := wf_u32 h
  simp [plainElem, Tryz.underlying41, hw]


theorem normS_mem {l : List ByteArray} {s : ByteArray} : s ∈ normS l ↔ s ∈ l := by
  unfold normS
  rw [List.mem_map]
  constructor
  · rintro ⟨x, hx, rfl⟩
    obtain ⟨s, hs, e⟩ := ((normL_rises l).2 x).1 hx
    rw [← e, mkS_data]; exact hs
  · intro hs
    exact ⟨s.data.toList, ((normL_rises l).2 _).2 ⟨s, hs, rfl⟩, mkS_data s⟩
theorem normS_inj {l : List ByteArray} {i j : Nat} (hi : i < (normS l).length) (hj : j < (normS l).length) (e : (normS l)[i] = (normS l)[j]) : i = j := by
  unfold normS at hi hj e
  rw [List.length_map] at hi hj
  rw [List.getElem_map, List.getElem_map] at e
  have e' : (normL l)[i] = (normL l)[j] := by
    have := congrArg (fun s : ByteArray => s.data.toList) e
    simpa [mkS] using this
  have hp := List.pairwise_iff_getElem.1 (normL_rises l).1
  rcases Nat.lt_trichotomy i j with h | h | h
  · have := hp i j hi hj h; rw [e'] at this; exact absurd this (List.lt_irrefl _)
  · exact h
  · have := hp j i hj hi h; rw [e'] at this; exact absurd this (List.lt_irrefl _)
/-- Routes' predicates are each there once. -/
theorem RoutesOk.one {t : Txn} (h : RoutesOk t) {r s : Rt} (hr : r ∈ t.needs) (hs : s ∈ t.needs) (e : r.pred = s.pred) : r = s := by
  obtain ⟨i, hi, rfl⟩ := List.getElem_of_mem hr
  obtain ⟨j, hj, rfl⟩ := List.getElem_of_mem hs
  have hl : t.needs.length = (predsOf t.writes).length := by rw [← h.same, List.length_map]
  have hget : ∀ k (hk : k < t.needs.length), (predsOf t.writes)[k]'(by omega) = t.needs[k].pred := fun k hk => by
    have : (t.needs.map (·.pred))[k]? = (predsOf t.writes)[k]? := by rw [h.same]
    rw [List.getElem?_map, List.getElem?_eq_getElem hk, List.getElem?_eq_getElem (by omega)] at this
    exact (Option.some.inj this).symm
  have hij : i = j := normS_inj (l := t.writes.map (·.pred)) (by unfold predsOf at hl; omega) (by unfold predsOf at hl; omega) (by
    have h1 := hget i hi; have h2 := hget j hj
    unfold predsOf at h1 h2
    rw [h1, h2, e])
  subst hij; rfl
theorem RoutesOk.there {t : Txn} (h : RoutesOk t) {x : Wr} (hx : x ∈ t.writes) : ∃ r ∈ t.needs, r.pred = x.pred := by
  have h1 : x.pred ∈ t.needs.map (·.pred) := by
    rw [h.same]; exact normS_mem.2 (List.mem_map.2 ⟨x, hx, rfl⟩)
  obtain ⟨r, hr, e⟩ := List.mem_map.1 h1
  exact ⟨r, hr, e⟩
theorem own_test {t : Txn} (h : RoutesOk t) {x : Wr} {r : Rt} (hr : r ∈ t.needs) (e : r.pred = x.pred) (g : Int) : (t.needs.any fun s => decide (s.pred = x.pred) && decide (s.group = g)) = !(r.group != g) := by
  rw [Bool.eq_iff_iff, List.any_eq_true]
  constructor
  · rintro ⟨s, hs, hd⟩
    simp only [Bool.and_eq_true, decide_eq_true_eq] at hd
    obtain rfl := h.one hs hr (hd.1.trans e.symm)
    simp [hd.2]
  · intro hq
    exact ⟨r, hr, by simp only [Bool.and_eq_true, decide_eq_true_eq]; exact ⟨e, by simpa using hq⟩⟩

theorem ownsMap_on {H : Type} {T : Nat → Prop} {w w' : World} {k : TypeId} {R : Value → Option (DataW H × List MemPlace)} {b n : Nat} {D : DataW H} (h : w.ownsMap Tryz.prog k R b n D) (hf : Fr T w w') (hb : ¬ T b) : w'.ownsMap Tryz.prog k R b n D := by
  have hbl := h.lt
  obtain ⟨es, clock, hb', Ft, hs, hD⟩ := h
  exact ⟨es, clock, (hf.at hb hbl).trans hb', Ft, hs, hD⟩

set_option maxRecDepth 100000 in
set_option maxHeartbeats 4000000 in
theorem xstaged_any (w : World) (v : Value) (t : Txn) (h : IsTxn w v t) (hv : Inv t) (hr : RoutesOk t) (g : Int) :
    Calls Tryz.prog 52 #[v, .int .u32 g] w fun e w' => ∃ vw, e = .returned (.agg (OutV.enc ⟨g, 0, 0, 0, .slice none 0 0, .slice none 0 0, 2, t.start, 0, vw⟩).toArray) ∧ (∃ b, w.heap.size ≤ b ∧ Wrs w' b vw (ownOf t g)) ∧ Fr N0 w w' := by
  have hfew := hv.few
  have hnf := hr.few
  have hpl : ∀ x ∈ t.writes, x.pred.size ≤ maxLen := fun x hx => by have := predOk_size (trMay_zero (hv.may x hx)).1; unfold maxLen; omega
  have hpn : ∀ r ∈ t.needs, r.pred.size ≤ maxLen ∧ (0 ≤ r.group ∧ r.group < 4294967296) := fun r hrr => by
    have h1 : r.pred ∈ predsOf t.writes := by rw [← hr.same]; exact List.mem_map.2 ⟨r, hrr, rfl⟩
    obtain ⟨x, hx, e⟩ := List.mem_map.1 (normS_mem.1 h1)
    exact ⟨by rw [← e]; exact hpl x hx, (hv.rts r hrr).1⟩
  obtain ⟨vw, vk, vn, vg, vl, rfl, h⟩ := h
  obtain ⟨bw, hw⟩ := h.ws
  obtain ⟨bn, hn⟩ := h.ns
  have hcl := fun W (hf : Fr N0 w W) => cloneW_any W bw vw t.writes (hw.fr0 hf) (by omega)
  have hat : ∀ x ∈ t.writes, ∃ q : Int, (byNum (t.needs.map fun r => (r.pred, r.group))).atKey (litS x.pred) (.lit (.int .u32 0)) = .lit (.int .u32 q) ∧ (t.needs.any fun s => decide (s.pred = x.pred) && decide (s.group = g)) = !(q != g) := fun x hx => by
    obtain ⟨r, hrr, e⟩ := hr.there hx
    refine ⟨r.group, byNum_at (fun q hq he => ?_) ⟨(r.pred, r.group), List.mem_map.2 ⟨r, hrr, rfl⟩, e⟩ _, own_test hr hrr e g⟩
    obtain ⟨s, hs, rfl⟩ := List.mem_map.1 hq
    rw [hr.one hs hrr (he.trans e.symm)]
  obtain ⟨ph, st, cm, ws, ks, ns, gs, ls, fl⟩ := t
  simp only at hfew hnf hpl hpn hcl hat hw hn ⊢
  obtain ⟨an, offn, capn, rfl, n1, n2, n3, -, n5⟩ := hn
  have HC := Lib.hid n5; have HPN := Lib.hid hpn; have HPL := Lib.hid hpl; have HCL := Lib.hid hcl; have HAT := Lib.hid hat
  have hmm := @run_makeMap Tryz.prog
  clear n5 hpn hpl hcl hat hw h hv hr
  go_enter Tryz.func52, Tryz.ntmps52
  go_wp2
  obtain ⟨W0, hW0⟩ : ∃ W, (((((w.alloc (.cells #[.int .u8 ph, .int .u64 st, .int .u64 cm, vw, vk, .slice an ns.length capn, vg, vl, .bool fl] 32)).alloc (.cells #[.int .u32 g] 41)).alloc (.cells zeroOutV.cells 89)).alloc (.map #[] 0)).alloc (.cells #[.map (some (w.heap.size + 1 + 1 + 1))] 141)) = W := ⟨_, rfl⟩
  have hb0 : W0.heap[w.heap.size]? = some (.cells #[.int .u8 ph, .int .u64 st, .int .u64 cm, vw, vk, .slice an ns.length capn, vg, vl, .bool fl] 32 (0, 0)) := by
    rw [← hW0]
    exact (Below.heap_alloc _ _ _ (by first | (simp; done) | (simp; omega))).trans ((Below.heap_alloc _ _ _ (by first | (simp; done) | (simp; omega))).trans ((Below.heap_alloc _ _ _ (by first | (simp; done) | (simp; omega))).trans ((Below.heap_alloc _ _ _ (by first | (simp; done) | (simp; omega))).trans (World.alloc_heap_new _ _))))
  have hb1 : W0.heap[w.heap.size + 1]? = some (.cells #[.int .u32 g] 41 (0, 0)) := by
    rw [← hW0]
    exact (Below.heap_alloc _ _ _ (by first | (simp; done) | (simp; omega))).trans ((Below.heap_alloc _ _ _ (by first | (simp; done) | (simp; omega))).trans ((Below.heap_alloc _ _ _ (by first | (simp; done) | (simp; omega))).trans (by have := World.alloc_heap_new (w.alloc (.cells #[.int .u8 ph, .int .u64 st, .int .u64 cm, vw, vk, .slice an ns.length capn, vg, vl, .bool fl] 32)) (.cells #[.int .u32 g] 41); rwa [World.size_alloc] at this)))
  have hb2 : W0.heap[w.heap.size + 1 + 1]? = some (.cells zeroOutV.cells 89 (0, 0)) := by
    rw [← hW0]
    exact (Below.heap_alloc _ _ _ (by first | (simp; done) | (simp; omega))).trans ((Below.heap_alloc _ _ _ (by first | (simp; done) | (simp; omega))).trans (by have := World.alloc_heap_new ((w.alloc (.cells #[.int .u8 ph, .int .u64 st, .int .u64 cm, vw, vk, .slice an ns.length capn, vg, vl, .bool fl] 32)).alloc (.cells #[.int .u32 g] 41)) (.cells zeroOutV.cells 89); rwa [World.size_alloc, World.size_alloc] at this))
  have hown0 : W0.ownsMap Tryz.prog 9 (plainElem Tryz.prog 41) (w.heap.size + 1 + 1 + 1) 0 (byNum []) := by
    rw [← hW0]
    have := World.ownsMap_made (H := Unit) (((w.alloc (.cells #[.int .u8 ph, .int .u64 st, .int .u64 cm, vw, vk, .slice an ns.length capn, vg, vl, .bool fl] 32)).alloc (.cells #[.int .u32 g] 41)).alloc (.cells zeroOutV.cells 89)) Tryz.prog 9 (plainElem Tryz.prog 41)
    rw [World.size_alloc, World.size_alloc, World.size_alloc] at this
    exact this.alloc _
  have hb4 : W0.heap[w.heap.size + 1 + 1 + 1 + 1]? = some (.cells #[.map (some (w.heap.size + 1 + 1 + 1))] 141 (0, 0)) := by
    rw [← hW0]
    have := World.alloc_heap_new ((((w.alloc (.cells #[.int .u8 ph, .int .u64 st, .int .u64 cm, vw, vk, .slice an ns.length capn, vg, vl, .bool fl] 32)).alloc (.cells #[.int .u32 g] 41)).alloc (.cells zeroOutV.cells 89)).alloc (.map #[] 0)) (.cells #[.map (some (w.heap.size + 1 + 1 + 1))] 141)
    rwa [World.size_alloc, World.size_alloc, World.size_alloc, World.size_alloc] at this
  have hf0 : Fr N0 w W0 := by rw [← hW0]; exact (((((Fr.refl _ _).alloc _).alloc _).alloc _).alloc _).alloc _
  change Code.wp _ _ _ _ (((((w.alloc (.cells #[.int .u8 ph, .int .u64 st, .int .u64 cm, vw, vk, .slice an ns.length capn, vg, vl, .bool fl] 32)).alloc (.cells #[.int .u32 g] 41)).alloc (.cells zeroOutV.cells 89)).alloc (.map #[] 0)).alloc (.cells #[.map (some (w.heap.size + 1 + 1 + 1))] 141))
  rw [hW0]
  have HB0 := Lib.hid hb0; have HB1 := Lib.hid hb1; have HB2 := Lib.hid hb2; have HB4 := Lib.hid hb4; have HO0 := Lib.hid hown0; have HF0 := Lib.hid hf0
  have hz0 := lt_of_block hb4
  clear hW0 hb0 hb1 hb2 hown0 hb4 hf0 hmm
  go_loopw [13] (fun iv wr => ∃ k : Nat, k ≤ ns.length ∧ iv = .int .i64 k ∧ wr.ownsMap Tryz.prog 9 (plainElem Tryz.prog 41) (w.heap.size + 1 + 1 + 1) k (byNum ((ns.take k).map fun r => (r.pred, r.group))) ∧ Fr (fun b => b = w.heap.size + 1 + 1 + 1) W0 wr) (fun iv _ => ns.length - (intOf iv).toNat)
  case atStart => exact ⟨0, Nat.zero_le _, rfl, HO0.out, Fr.refl _ _⟩
  case round =>
    obtain ⟨k, hk, rfl, hown, hfr⟩ := hrel
    have hsz := hfr.size
    obtain ⟨m4, -, hl4⟩ := box_cells2 ((hfr.at (by show ¬ w.heap.size + 1 + 1 + 1 + 1 = _; omega) (lt_of_block HB4.out)).trans HB4.out)
    by_cases hlt : k < ns.length
    · obtain rfl := n3 (by omega)
      have hts := congrArg byNum (congrArg (List.map fun r : Rt => (r.pred, r.group)) (List.take_succ_eq_append_getElem hlt))
      rw [List.map_append, List.map_cons, List.map_nil, byNum_snoc] at hts
      have hc := HC.out k hlt
      have hpn := HPN.out ns[k] (List.getElem_mem hlt)
      have hbn : bn < w.heap.size := lt_of_cell (p := ⟨bn, offn + k * 3 + 0, none⟩) (hc 0 (by omega))
      obtain ⟨x, hx⟩ : ∃ x, ns[k] = x := ⟨_, rfl⟩
      simp only [hx] at hts hc hpn
      obtain ⟨c0, c1, c2⟩ := rt_cells (W := w) hc
      have hcc : ∀ (i : Nat) (u : Value), w.cell? ⟨bn, i, none⟩ = some u → wr.cell? ⟨bn, i, none⟩ = some u := fun i u hu => hfr.cell (p := ⟨bn, i, none⟩) (by show ¬ bn = _; omega) (HF0.out.cell id hu)
      replace c0 := hcc _ _ c0; replace c1 := hcc _ _ c1; replace c2 := hcc _ _ c2
      obtain ⟨xp, xg, xt⟩ := x
      simp only at hts hpn c0 c1 c2
      have hki : (k : Int) < (ns.length : Int) := by omega
      have hkey := Go.WideMaps.keyOf_string_mk Tryz.underlying9 hpn.1
      have hpe : plainElem Tryz.prog 41 (.int .u32 xg) = some ((.lit (.int .u32 xg) : DataW Unit), []) := plain_u32 hpn.2
      have HTS := Lib.hid hts; have HOW := Lib.hid hown; have HF := Lib.hid hfr; have HK := Lib.hid hkey; have HPE := Lib.hid hpe
      clear hts hown hfr hc hx hkey hpn hcc hpe
      go_wp2_with (at_mapUpdate; go_loud (refine wpList_mapUpdate_own _ rfl _ _ _ 141 rfl 9 41 lawS Tryz.underlying141 _ (w.heap.size + 1 + 1 + 1) k _ rfl (HOW.out.alloc _) (by unfold maxLen; omega) _ _ _ rfl rfl HK.out _ [] HPE.out ?_); intro w1 hown1 hgrow1)
      go_roundw
      case rel => exact ⟨k + 1, by omega, by go_num, by rw [HTS.out]; exact hown1, (HF.out.alloc _).grown hgrow1 fun q e => .inl (by cases e; rfl)⟩
      case measure => simp [intOf]; omega
    · obtain rfl : k = ns.length := by omega
      rw [List.take_length] at hown
      have hfw : Fr N0 w wr := HF0.out.trans hfr (fun k hk => .inr (by omega))
      have hb0 := (hfr.at (k := w.heap.size) (by show ¬ w.heap.size = _; omega) (lt_of_block HB0.out)).trans HB0.out
      have hb1 := (hfr.at (k := w.heap.size + 1) (by show ¬ w.heap.size + 1 = _; omega) (lt_of_block HB1.out)).trans HB1.out
      have hb2 := (hfr.at (k := w.heap.size + 1 + 1) (by show ¬ w.heap.size + 1 + 1 = _; omega) (lt_of_block HB2.out)).trans HB2.out
      have hb4 := (hfr.at (k := w.heap.size + 1 + 1 + 1 + 1) (by show ¬ w.heap.size + 1 + 1 + 1 + 1 = _; omega) (lt_of_block HB4.out)).trans HB4.out
      obtain ⟨m0, -, -⟩ := box_cells2 hb0
      have hdel : ∀ (w1 : World) (vw1 : Value), Fr N0 wr w1 → w1.ownsRow wr.heap.size 65 8 vw1 ws.length (ws.flatMap Wr.enc) →
          Calls Tryz.prog 55 #[vw1, .func (.func 89) #[] #[.pointer (some ⟨w.heap.size + 1 + 1 + 1 + 1, 0, none⟩), .pointer (some ⟨w.heap.size + 1, 0, none⟩)]] w1 fun e w' => ∃ a c, e = .returned (.slice a (ownOf { phase := ph, start := st, commit := cm, writes := ws, keys := ks, needs := ns, groups := gs, left := ls, failed := fl } g).length c) ∧
            w'.ownsRow wr.heap.size 65 8 (.slice a (ownOf { phase := ph, start := st, commit := cm, writes := ws, keys := ks, needs := ns, groups := gs, left := ls, failed := fl } g).length c) (ownOf { phase := ph, start := st, commit := cm, writes := ws, keys := ks, needs := ns, groups := gs, left := ls, failed := fl } g).length ((ownOf { phase := ph, start := st, commit := cm, writes := ws, keys := ks, needs := ns, groups := gs, left := ls, failed := fl } g).flatMap Wr.enc) ∧ Fr (fun k => wr.heap.size ≤ k) w1 w' := fun w1 vw1 hf1 hrow => by
        have hob : ∀ k, vw1.ownBlock = some k → wr.heap.size ≤ k := fun k hk => (hrow.lt k hk).1
        have hd := delFW_any w1 wr.heap.size vw1 ws hrow (by omega) 89 #[.pointer (some ⟨w.heap.size + 1 + 1 + 1 + 1, 0, none⟩), .pointer (some ⟨w.heap.size + 1, 0, none⟩)] (fun x => !(ns.any fun s => decide (s.pred = x.pred) && decide (s.group = g))) (fun x hx W hf => by
          obtain ⟨q, hat, hany⟩ := HAT.out x hx
          have hnn : ∀ k, k < wr.heap.size → ¬ vw1.ownBlock = some k := fun k hk h => by have := hob k h; omega
          have h4 : W.heap[w.heap.size + 1 + 1 + 1 + 1]? = _ := ((hf.at (hnn _ hl4) (Nat.lt_of_lt_of_le hl4 hf1.size)).trans (hf1.at id hl4)).trans hb4
          have hl1 := lt_of_block hb1
          have h1 : W.heap[w.heap.size + 1]? = _ := ((hf.at (hnn _ hl1) (Nat.lt_of_lt_of_le hl1 hf1.size)).trans (hf1.at id hl1)).trans hb1
          have hown1 := ownsMap_on (ownsMap_on hown hf1 id) hf (hnn _ hown.lt)
          have hc := xstaged1_any W x _ (w.heap.size + 1 + 1 + 1 + 1) (w.heap.size + 1) (w.heap.size + 1 + 1 + 1) ns.length g q (HPL.out x hx) ((box_cells2 h4).1 0) ((box_cells2 h1).1 0) hown1 hat
          rw [hany, Bool.not_not]
          exact hc) (enters_of Tryz.func89 (by kernel_rfl) rfl)
        refine hd.mono ?_
        rintro e w' ⟨v', rfl, hr', hf'⟩
        have hfl : (ws.filter fun x => !!(ns.any fun s => decide (s.pred = x.pred) && decide (s.group = g))) = ownOf { phase := ph, start := st, commit := cm, writes := ws, keys := ks, needs := ns, groups := gs, left := ls, failed := fl } g := by simp only [Bool.not_not]; rfl
        rw [hfl] at hr'
        obtain ⟨a, c, rfl⟩ := own_form2 hr'
        exact ⟨a, c, rfl, hr', hf'.mono fun k hk => .inl (hob k hk)⟩
      obtain ⟨OW, hOW⟩ : ∃ O, ownOf { phase := ph, start := st, commit := cm, writes := ws, keys := ks, needs := ns, groups := gs, left := ls, failed := fl } g = O := ⟨_, rfl⟩
      rw [hOW] at hdel
      have HOW := Lib.hid hOW
      have hbl0 := lt_of_block hb0; have hbl2 := lt_of_block hb2; have hbl1 := lt_of_block hb1; have HBB1 := Lib.hid hb1
      have HDEL := Lib.hid hdel; have HFW := Lib.hid hfw; have HBB0 := Lib.hid hb0; have HBB2 := Lib.hid hb2
      clear hdel hown hb0 hb1 hb2 hb4 m4 hfr HAT HPL HPN HC HB0 HB1 HB2 HB4 HO0 HF0 hOW
      go_wp2_with (first
        | (go_at_call 56; go_loud (refine (HCL.out _ HFW.out).mono ?_); rintro e w1 ⟨vw1, rfl, hr1, -, hf1⟩; obtain ⟨aw1, cw1, rfl⟩ := own_form2 hr1)
        | (go_at_call 55; go_loud (refine (HDEL.out _ _ hf1 hr1).mono ?_); rintro e w2 ⟨aw2, cw2, rfl, hr2, hf2⟩; have hb0 := (hf2.at (by show ¬ wr.heap.size ≤ w.heap.size; omega) (Nat.lt_of_lt_of_le hbl0 hf1.size)).trans ((hf1.at id hbl0).trans HBB0.out); have hb2 := (hf2.at (by show ¬ wr.heap.size ≤ w.heap.size + 1 + 1; omega) (Nat.lt_of_lt_of_le hbl2 hf1.size)).trans ((hf1.at id hbl2).trans HBB2.out); have hb1 := (hf2.at (by show ¬ wr.heap.size ≤ w.heap.size + 1; omega) (Nat.lt_of_lt_of_le hbl1 hf1.size)).trans ((hf1.at id hbl1).trans HBB1.out); obtain ⟨m6, -, -⟩ := box_cells2 hb1; clear hb1; obtain ⟨m5, -, -⟩ := box_cells2 hb0; have HB2F := Lib.hid hb2; clear hb2 hb0)
        | (go_loud (refine wpList_store_row rfl 89 _ _ rfl (w.heap.size + 1 + 1) _ rfl rfl 89 _ HB2F.out sizeOut rfl (by simp [Value.oneCell']) ?_)))
      (try simp only [Exit.inBlock, Exit.then])
      refine bodyPost_ret_by (results_cell_row rfl _ _ (w.heap.size + 1 + 1) 89 _ (0, 0) _ rfl (setRow_heap _ _ _ _ _ _ HB2F.out) Tryz.underlying89 rfl sizeOut) rfl ?_
      have hff : Fr N0 w w2 := (HFW.out.then0 hf1).trans hf2 (fun k hk => .inr (by have := hfw_size HFW.out; omega))
      obtain ⟨bb, hbb, hrows⟩ := rowsK_of_row (enc := Wr.enc) (n := 8) (fun _ => rfl) (by decide) hr2
      refine ⟨_, rfl, ⟨bb, by have := hfw_size HFW.out; omega, ?_⟩, setRow_fr hff (.inr (by omega)) _⟩
      rw [HOW.out]
      exact rowsK_on (enc := Wr.enc) (n := 8) (fun _ => rfl) hrows (setRow_fr (Fr.refl (fun k => k = w.heap.size + 1 + 1) w2) (.inl rfl) _) (by show ¬ bb = _; omega)

end Go.Proofs.YthidminepegnoaaGreatDoor
