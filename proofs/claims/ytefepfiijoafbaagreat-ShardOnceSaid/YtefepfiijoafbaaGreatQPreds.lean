/- Values that may be: bounds. (The seat of layer 21 has no value.Bytes: what layer 22's text of this name says besides is not here.) triple.sorted: the keys of a set of texts, rising. triple.Preds, and the document's. -/
import Derived.Maps.RangeWalk
import Derived.Maps.OwnSet
import Derived.Sort.KeysCollected
import Derived.Sort.OwnSorted
import Derived.StringKeys
import Derived.Test.YtefepfiijoafbaaGreatQTrip
import Derived.Test.YtefepfiijoafbaaGreatQShelf
namespace Go.Proofs.YtefepfiijoafbaaGreat
open Go.RowKit Go.Shelf
set_option linter.unusedVariables false
set_option linter.unusedSimpArgs false
def Val.ok (v : Val) : Prop := (0 ≤ v.k ∧ v.k < 256) ∧ (-9223372036854775808 ≤ v.n ∧ v.n ≤ 9223372036854775807) ∧ 0 ≤ v.u ∧ v.u < 18446744073709551616
def Wr.ok (x : Wr) : Prop := (0 ≤ x.uid ∧ x.uid < 18446744073709551616) ∧ x.val.ok
theorem Wr.ok.wf {x : Wr} (h : x.ok) : x.wf := ⟨h.1.1, h.2.2.2.1, h.2.1.1⟩
end Go.Proofs.YtefepfiijoafbaaGreat
namespace Go.Proofs.YtefepfiijoafbaaGreat
open Go.RowKit Go.Shelf Go.Maps Go.Sort
attribute [local go_sem] Oper.semAt_some
set_option linter.unusedVariables false
set_option linter.unusedSimpArgs false

/-- A slice of texts. -/
def Strs (w : World) (b : Nat) (v : Value) (xs : List ByteArray) : Prop :=
  ∃ a off cap, v = .slice a xs.length cap ∧ xs.length ≤ cap ∧ cap ≤ 9223372036854775807 ∧ (0 < xs.length → a = some ⟨b, off, none⟩) ∧ (a = none → cap = 0) ∧ ∀ i (h : i < xs.length), w.cell? ⟨b, off + i, none⟩ = some (.string xs[i])
theorem Strs.fr0 {w w' : World} {b : Nat} {v : Value} {xs : List ByteArray} (h : Strs w b v xs) (hf : Fr N0 w w') : Strs w' b v xs := by
  obtain ⟨a, off, cap, h1, h2, h3, h4, h5, h6⟩ := h
  exact ⟨a, off, cap, h1, h2, h3, h4, h5, fun i hi => hf.cell id (h6 i hi)⟩
theorem Strs.nil (w : World) (b : Nat) : Strs w b (.slice none 0 0) [] := ⟨none, 0, 0, rfl, Nat.le_refl _, by omega, by simp, by simp, by simp⟩

def mkS (l : List UInt8) : ByteArray := ⟨l.toArray⟩
/-- Texts, rising, each once. -/
def RisesTo (L : List (List UInt8)) (P : List UInt8 → Prop) : Prop := L.Pairwise (· < ·) ∧ ∀ x, x ∈ L ↔ P x
theorem lt_irreflL (x : List UInt8) : ¬ x < x := List.lt_irrefl x
theorem RisesTo.unique : ∀ {a b : List (List UInt8)} {P : List UInt8 → Prop}, RisesTo a P → RisesTo b P → a = b
  | [], [], _, _, _ => rfl
  | [], y :: b, P, ha, hb => by have := (ha.2 y).2 ((hb.2 y).1 (List.mem_cons_self ..)); simp at this
  | x :: a, [], P, ha, hb => by have := (hb.2 x).2 ((ha.2 x).1 (List.mem_cons_self ..)); simp at this
  | x :: a, y :: b, P, ha, hb => by
    have ha1 := List.pairwise_cons.1 ha.1; have hb1 := List.pairwise_cons.1 hb.1
    have hxy : x = y := by
      have h1 := (hb.2 x).2 ((ha.2 x).1 (List.mem_cons_self ..))
      have h2 := (ha.2 y).2 ((hb.2 y).1 (List.mem_cons_self ..))
      simp only [List.mem_cons] at h1 h2
      rcases h1 with h1 | h1
      · exact h1
      · rcases h2 with h2 | h2
        · exact h2.symm
        · exact absurd (List.lt_trans (ha1.1 _ h2) (hb1.1 _ h1)) (lt_irreflL _)
    subst hxy
    have : a = b := by
      refine RisesTo.unique (P := fun z => P z ∧ z ≠ x) ⟨ha1.2, fun z => ?_⟩ ⟨hb1.2, fun z => ?_⟩
      · constructor
        · intro hz
          exact ⟨(ha.2 z).1 (List.mem_cons_of_mem _ hz), fun e => by subst e; exact lt_irreflL _ (ha1.1 _ hz)⟩
        · rintro ⟨h1, h2⟩
          have := (ha.2 z).2 h1
          simp only [List.mem_cons] at this
          exact this.resolve_left h2
      · constructor
        · intro hz
          exact ⟨(hb.2 z).1 (List.mem_cons_of_mem _ hz), fun e => by subst e; exact lt_irreflL _ (hb1.1 _ hz)⟩
        · rintro ⟨h1, h2⟩
          have := (hb.2 z).2 h1
          simp only [List.mem_cons] at this
          exact this.resolve_left h2
    rw [this]
theorem rises_sort {ss : List (List UInt8)} (hn : ss.Nodup) {P : List UInt8 → Prop} (hm : ∀ x, x ∈ ss ↔ P x) : RisesTo (ss.mergeSort leB) P := by
  have tr : ∀ a b c : List UInt8, leB a b = true → leB b c = true → leB a c = true := fun a b c h1 h2 => by simp only [leB, decide_eq_true_eq] at *; exact List.le_trans h1 h2
  have tot : ∀ a b : List UInt8, (leB a b || leB b a) = true := fun a b => by simp only [leB, Bool.or_eq_true, decide_eq_true_eq]; exact List.le_total a b
  refine ⟨?_, fun x => by rw [List.mem_mergeSort]; exact hm x⟩
  have h1 := List.pairwise_mergeSort tr tot ss
  have h2 : (ss.mergeSort leB).Nodup := (List.mergeSort_perm ss leB).nodup_iff.2 hn
  refine (h1.and h2).imp fun {a b} h => ?_
  have h3 : a ≤ b := by simpa [leB] using h.1
  by_cases hlt : a < b
  · exact hlt
  · exact absurd (List.le_antisymm h3 (List.not_lt.1 hlt)) h.2
def once : List (List UInt8) → List (List UInt8)
  | [] => []
  | x :: l => if x ∈ l then once l else x :: once l
theorem once_mem : ∀ {l : List (List UInt8)} {x : List UInt8}, x ∈ once l ↔ x ∈ l
  | [], x => by simp [once]
  | y :: l, x => by
    have ih := once_mem (l := l) (x := x)
    simp only [once]
    split
    · rename_i h
      rw [ih, List.mem_cons]
      exact ⟨.inr, fun h' => h'.elim (fun e => e ▸ h) id⟩
    · rw [List.mem_cons, List.mem_cons, ih]
theorem once_nodup : ∀ l : List (List UInt8), (once l).Nodup
  | [] => List.nodup_nil
  | y :: l => by
    simp only [once]
    split
    · exact once_nodup l
    · rename_i h
      exact List.nodup_cons.2 ⟨fun h' => h (once_mem.1 h'), once_nodup l⟩
/-- Some texts, rising, each once. -/
def normL (xs : List ByteArray) : List (List UInt8) := (once (xs.map (·.data.toList))).mergeSort leB
theorem normL_rises (xs : List ByteArray) : RisesTo (normL xs) fun x => ∃ s ∈ xs, s.data.toList = x :=
  rises_sort (once_nodup _) fun x => by rw [once_mem, List.mem_map]
def normS (xs : List ByteArray) : List ByteArray := (normL xs).map mkS

theorem lawS : Keyed Tryz.prog 9 := string_keyed Tryz.underlying9
theorem infoStr : (Tryz.prog.info? 9).map (fun i => (i.zero, i.size, i.bytes)) = some (some (.string ⟨#[]⟩), 1, 16) := by kernel_rfl

theorem ownsMap_fr {w w' : World} {R : Value → Option (DataW Unit × List MemPlace)} {b n : Nat} {D : DataW Unit} (h : w.ownsMap Tryz.prog 9 R b n D) (hf : Fr N0 w w') : w'.ownsMap Tryz.prog 9 R b n D :=
  h.kept (row := none) ⟨hf.os, hf.tape, hf.output, hf.size, fun k hk _ => hf.at id hk⟩ (by simp)
theorem fr_of_grown {w w' : World} (hg : w.grownBy w' none) : Fr N0 w w' := (Fr.refl _ _).grown hg (fun k e => by cases e)

set_option maxRecDepth 100000 in
set_option maxHeartbeats 2000000 in
theorem sorted_any (w : World) (b n : Nat) (D0 : DataW Unit) (hown : w.ownsMap Tryz.prog 9 unitElem b n D0) (hmax : Maps.size D0 ≤ 1000000) :
    Calls Tryz.prog 226 #[.map (some b)] w fun e w' => ∃ v bb L, e = .returned v ∧ Strs w' bb v (L.map mkS) ∧ RisesTo L (fun x => Maps.has D0 (.string x) = true) ∧ w.heap.size ≤ bb ∧ Fr N0 w w' := by
  obtain ⟨i0, hi, hz0, hz1, hz2⟩ := info_parts infoStr
  have hbl := hown.lt
  go_enter Tryz.func226, Tryz.ntmps226
  go_wp2_with (at_range; go_loud (refine wpList_range_own _ rfl _ 279 rfl 9 280 lawS Tryz.underlying279 _ b n _ rfl hown ?_); intro w0 hrg0 hg0 hs0)
  go_frame
  go_loopw [3] (fun v wr => ∃ (left : Lit → Bool) (cnt : Nat) (ss : List (List UInt8)), wr.ranges Tryz.prog 9 unitElem b w.heap.size n D0 left cnt ∧ ss.length + cnt ≤ Maps.size D0 ∧
      wr.ownsRow w.heap.size 9 1 v ss.length (ss.map encStr) ∧ Collected D0 left ss ∧ Fr N0 w wr) (fun _ wr => wr.rangeLeft b w.heap.size)
  case atStart => exact ⟨_, _, [], hrg0, by simp, World.ownsRow_nil _ _ _ _, Collected.start D0, fr_of_grown hg0⟩
  case round =>
    obtain ⟨left, cnt, ss, hrg, hcs, hrow, hC, hfr⟩ := hrel
    have hwsz := hfr.size
    go_wp2_with (at_next; go_loud (refine wpList_next_ranges _ rfl _ rfl 9 lawS unitElem encStr (fun _ : Unit => Value.agg #[]) (fun key kl hk => by obtain ⟨x, hx, _⟩ := Maps.keyOf_str Tryz.underlying9 hk; exact ⟨x, hx⟩) (fun v y hv => ⟨(), (unitElem_inv hv).1⟩) b w.heap.size n _ _ _ rfl hrg ?_ ?_))
    · intro hc0 hl0
      have hri := rises_sort hC.1 (P := fun x => Maps.has D0 (.string x) = true) fun x => by rw [hC.2 x]; simp [hl0]
      have hln : ss.length ≤ 1000000 := by omega
      rcases hrow.2 with ⟨rfl, hn0⟩ | ⟨g, cap, cur, rfl, hbase, hb, h1, h2, h3, h4⟩
      · have hss : ss = [] := List.eq_nil_of_length_eq_zero hn0
        subst hss
        have HF := Lib.hid hfr; have HR := Lib.hid hri
        clear hC hrow hfr hri
        go_wp2_with (first
          | (go_at_call 129; go_loud (refine (Tryz.slices_Sort_string_none _ _ _).mono ?_); rintro e w' ⟨rfl, rfl⟩)
          | go_in)
        go_ret
        exact ⟨_, w.heap.size, _, rfl, (Strs.nil _ _ : Strs _ w.heap.size _ (([] : List (List UInt8)).map mkS)), by simpa using HR.out, Nat.le_refl _, HF.out⟩
      · have hH : Holds encStr wr g 0 ss.toArray := holds_of_block hb (by simpa using h4)
        have hgl : g < wr.heap.size := (Array.getElem?_eq_some_iff.1 hb).1
        have hc := Tryz.slices_Sort_string g 0 cap ss wr hH hgl (by omega)
        have hlm : (ss.mergeSort fun x y => decide (x ≤ y)).length = ss.length := by simp
        have hri' : RisesTo (ss.mergeSort fun x y => decide (x ≤ y)) (fun x => Maps.has D0 (.string x) = true) := hri
        have hpost : ∀ nn os, (grow (putRow encStr (Sort.ahead wr nn) g 0 (ss.mergeSort fun x y => decide (x ≤ y)).toArray) os).ownsRow w.heap.size 9 1 (.slice (some ⟨g, 0, none⟩) ss.length cap) ss.length ((ss.mergeSort fun x y => decide (x ≤ y)).map encStr) ∧
            Fr N0 w (grow (putRow encStr (Sort.ahead wr nn) g 0 (ss.mergeSort fun x y => decide (x ≤ y)).toArray) os) := fun nn os =>
          ⟨ownsRow_sorted hlm hbase hb h1 h2 h3, hfr.grown (grownBy_sorted _) fun k e => .inr (by cases e; exact hbase)⟩
        obtain ⟨MS, hMS⟩ : ∃ M, (ss.mergeSort fun x y => decide (x ≤ y)) = M := ⟨_, rfl⟩
        rw [hMS] at hri' hlm
        simp only [hMS] at hc hpost
        obtain ⟨m, hm⟩ : ∃ m, ss.length = m := ⟨_, rfl⟩
        simp only [hm] at hc hpost hlm h1 hln
        rw [hm]
        have HP := Lib.hid hpost; have HSK := Lib.hid hri'; have HLM := Lib.hid hlm
        have hcm : cap ≤ 9223372036854775807 := by unfold maxLen at h2; omega
        clear hpost hri hri' hlm hrow hfr hC hMS hH hm
        have HC2 := Lib.hid hc
        clear hc
        go_wp2_with (first
          | (go_at_call 129; go_loud (refine HC2.out.mono ?_); rintro e w' ⟨rfl, nn, os, hw'⟩; have hro := (HP.out nn os).1; have hfo := (HP.out nn os).2; rw [← hw'] at hro hfo; have HRO := Lib.hid hro; have HFO := Lib.hid hfo; clear hro hfo hw')
          | go_in)
        go_ret
        refine ⟨_, g, MS, rfl, ?_, HSK.out, hbase, HFO.out⟩
        refine ⟨some ⟨g, 0, none⟩, 0, m, by rw [List.length_map, HLM.out]; rfl, by rw [List.length_map, HLM.out]; exact Nat.le_refl _, by omega, fun _ => rfl, by simp, fun i hi => ?_⟩
        have hi' : i < MS.length := by simpa using hi
        rw [Nat.zero_add, HRO.out.cellAt i (by have := HLM.out; omega), List.getElem?_map, List.getElem?_eq_getElem hi']
        simp [encStr, mkS]
    · intro x kl yd yp w2 cnt2 hkey hlk hv hat hrg2 hlt hg2 hs2 hen
      obtain ⟨x', ex, rfl, _⟩ := Maps.keyOf_str Tryz.underlying9 hkey
      obtain rfl : x = x' := encStr_inj ex
      have hrow2 := hrow.kept hg2 (Or.inr (row_ne_iter hrow hrg).symm)
      have hf2 : Fr N0 w w2 := hfr.grown hg2 fun k e => .inr (by cases e; exact Nat.le_refl _)
      have hwsz2 := hf2.size
      obtain ⟨m, hm⟩ : ∃ m, ss.length = m := ⟨_, rfl⟩
      rw [hm] at hrow2 hcs
      have HROW := Lib.hid hrow2; have HF2 := Lib.hid hf2; have HM := Lib.hid hm; have HRG := Lib.hid hrg; have HRG2 := Lib.hid hrg2; have HC := Lib.hid hC; have HAT := Lib.hid hat; have HLK := Lib.hid hlk
      clear hs2 hrow2 hrow hfr hf2 hm hrg hrg2 hC hat hlk hg2 hkey
      go_wp2_with (at_builtin; go_loud (refine wpList_append_lies _ rfl _ _ 92 rfl w.heap.size 9 i0 (.string ⟨#[]⟩) 1 16 Tryz.underlying92 hi hz0 hz1 hz2 rfl (by decide) (u3) (m) _ rfl (HROW.out.alloc _) ⟨w2.heap.size, 0, none⟩ 1 1 [encStr x] rfl rfl (World.news_of_block (cs := #[encStr x]) (t := 9) (fr := (0, 0)) (heap_alloc_new w2 _)) (by simp [Value.oneCell']) (by omega) (by unfold maxLen; omega) (by omega) (by simp; omega) (w2.heap.size + 1) (by simp) ?_); intro g gc w3 hown' hg3 hfresh3 hlt3)
      have hrg3 := (HRG2.out.alloc (.cells #[encStr x] 9)).kept hg3 (row_ne_low HROW.out hbl) (row_ne_iter HROW.out HRG2.out)
      go_roundw
      case rel =>
        refine ⟨_, cnt2, ss ++ [x], hrg3, by simp; have := HM.out; omega, ?_, HC.out.step HLK.out HAT.out, (HF2.out.alloc _).grown hg3 fun k e => .inr (HROW.out.lt k e).1⟩
        have := HM.out
        simpa [this] using hown'
      case measure => rw [hrg3.left_eq, HRG.out.left_eq]; exact hlt

end Go.Proofs.YtefepfiijoafbaaGreat
namespace Go.Proofs.YtefepfiijoafbaaGreat
open Go.RowKit Go.Shelf Go.Maps Go.Sort
attribute [local go_sem] Oper.semAt_some
set_option linter.unusedVariables false
set_option linter.unusedSimpArgs false

/-- A slice of structs. -/
def RowsK {α : Type} (enc : α → List Value) (n : Nat) (w : World) (b : Nat) (v : Value) (xs : List α) : Prop :=
  ∃ a off cap, v = .slice a xs.length cap ∧ xs.length ≤ cap ∧ cap ≤ 9223372036854775807 ∧ (0 < xs.length → a = some ⟨b, off, none⟩) ∧ (a = none → cap = 0) ∧
    ∀ i (h : i < xs.length) c, c < n → w.cell? ⟨b, off + i * n + c, none⟩ = (enc xs[i])[c]?
theorem RowsK.fr0 {α : Type} {enc : α → List Value} {n : Nat} (hn : ∀ x, (enc x).length = n) {w w' : World} {b : Nat} {v : Value} {xs : List α} (h : RowsK enc n w b v xs) (hf : Fr N0 w w') : RowsK enc n w' b v xs := by
  obtain ⟨a, off, cap, h1, h2, h3, h4, h5, h6⟩ := h
  refine ⟨a, off, cap, h1, h2, h3, h4, h5, fun i hi c hc => ?_⟩
  have hc' : c < (enc xs[i]).length := by rw [hn]; exact hc
  have := h6 i hi c hc
  rw [List.getElem?_eq_getElem hc'] at this ⊢
  exact hf.cell (p := ⟨b, off + i * n + c, none⟩) id this
abbrev Wrs (w : World) (b : Nat) (v : Value) (xs : List Wr) : Prop := RowsK Wr.enc 8 w b v xs
theorem Wrs.fr0 {w w' : World} {b : Nat} {v : Value} {xs : List Wr} (h : Wrs w b v xs) (hf : Fr N0 w w') : Wrs w' b v xs := RowsK.fr0 (enc := Wr.enc) (n := 8) (fun _ => rfl) h hf

/-- The eight cells of a write. -/
theorem wr_cells {W : World} {b p : Nat} {x : Wr} (h : ∀ c, c < 8 → W.cell? ⟨b, p + c, none⟩ = x.enc[c]?) :
    W.cell? ⟨b, p, none⟩ = some (.bool x.del) ∧ W.cell? ⟨b, p + 1, none⟩ = some (.int .u64 x.uid) ∧ W.cell? ⟨b, p + 2, none⟩ = some (.string x.pred) ∧ W.cell? ⟨b, p + 3, none⟩ = some (.int .u8 x.val.k) ∧
    W.cell? ⟨b, p + 4, none⟩ = some (.bool x.val.b) ∧ W.cell? ⟨b, p + 5, none⟩ = some (.int .i64 x.val.n) ∧ W.cell? ⟨b, p + 6, none⟩ = some (.string x.val.s) ∧ W.cell? ⟨b, p + 7, none⟩ = some (.int .u64 x.val.u) :=
  ⟨h 0 (by omega), h 1 (by omega), h 2 (by omega), h 3 (by omega), h 4 (by omega), h 5 (by omega), h 6 (by omega), h 7 (by omega)⟩

abbrev unitD : DataW Unit := .agg []
def litS (s : ByteArray) : Lit := .string s.data.toList
/-- The set of some texts. -/
def setS (l : List ByteArray) : DataW Unit := setOf unitD (l.map litS)
theorem has_setS (l : List ByteArray) (x : List UInt8) : Maps.has (setS l) (.string x) = true ↔ ∃ s ∈ l, s.data.toList = x := by
  rw [setS, has_setOf _ _ _ (by
    intro y hy
    obtain ⟨s, _, rfl⟩ := List.mem_map.1 hy
    trivial), List.any_eq_true]
  constructor
  · rintro ⟨y, hy, hk⟩
    obtain ⟨s, hs, rfl⟩ := List.mem_map.1 hy
    refine ⟨s, hs, ?_⟩
    by_cases hne : litS s = .string x
    · simpa [litS] using hne
    · rw [sameKey_ne hne] at hk; cases hk
  · rintro ⟨s, hs, rfl⟩
    exact ⟨litS s, List.mem_map_of_mem hs, by simp [litS, Lit.sameKey]⟩
theorem norm_of_has {L : List (List UInt8)} {l : List ByteArray} (h : RisesTo L (fun x => Maps.has (setS l) (.string x) = true)) : L = normL l :=
  RisesTo.unique ⟨h.1, fun x => (h.2 x).trans (has_setS l x)⟩ (normL_rises l)
theorem setS_snoc (l : List ByteArray) (s : ByteArray) : setS (l ++ [s]) = (setS l).put (litS s) unitD := by rw [setS, List.map_append]; exact setOf_snoc _ _ _

set_option maxRecDepth 100000 in
set_option maxHeartbeats 2000000 in
theorem preds_any (w : World) (b : Nat) (v : Value) (xs : List Wr) (h : Wrs w b v xs) (hl : xs.length ≤ 1000000) (hp : ∀ x ∈ xs, x.pred.size ≤ maxLen) :
    Calls Tryz.prog 185 #[v] w fun e w' => ∃ v' bb, e = .returned v' ∧ Strs w' bb v' (normS (xs.map (·.pred))) ∧ Fr N0 w w' := by
  obtain ⟨a, off, cap, rfl, h1, h2, h3, h4, h5⟩ := h
  have hmm := @run_makeMap Tryz.prog
  have HC := Lib.hid h5; have HP := Lib.hid hp
  clear h4 h5 hp
  go_enter Tryz.func185, Tryz.ntmps185
  go_wp2
  have hown0 := World.ownsMap_made (H := Unit) w Tryz.prog 9 unitElem
  have hf0 : Fr N0 w (w.alloc (.map #[] 0)) := (Fr.refl _ _).alloc _
  obtain ⟨W0, hW0⟩ : ∃ W0, w.alloc (.map #[] 0) = W0 := ⟨_, rfl⟩
  rw [hW0] at hown0 hf0 ⊢
  have HO0 := Lib.hid hown0; have HF0 := Lib.hid hf0
  clear hW0 hown0 hf0 hmm
  go_loopw [9] (fun iv wr => ∃ k : Nat, k ≤ xs.length ∧ iv = .int .i64 k ∧ wr.ownsMap Tryz.prog 9 unitElem w.heap.size k (setS ((xs.take k).map (·.pred))) ∧ Fr N0 w wr) (fun iv _ => xs.length - (intOf iv).toNat)
  case atStart => exact ⟨0, Nat.zero_le _, rfl, HO0.out, HF0.out⟩
  case round =>
    obtain ⟨k, hk, rfl, hown, hfr⟩ := hrel
    by_cases hlt : k < xs.length
    · obtain rfl := h3 (by omega)
      have hts := congrArg setS (congrArg (List.map (·.pred)) (List.take_succ_eq_append_getElem hlt))
      rw [List.map_append, List.map_cons, List.map_nil, setS_snoc] at hts
      have hc8 := HC.out k hlt
      have hpl := HP.out xs[k] (List.getElem_mem hlt)
      obtain ⟨x, hx⟩ : ∃ x, xs[k] = x := ⟨_, rfl⟩
      simp only [hx] at hts hc8 hpl
      obtain ⟨c0, c1, c2, c3, c4, c5, c6, c7⟩ := wr_cells (W := w) hc8
      replace c0 := hfr.cell id c0; replace c1 := hfr.cell id c1; replace c2 := hfr.cell id c2; replace c3 := hfr.cell id c3
      replace c4 := hfr.cell id c4; replace c5 := hfr.cell id c5; replace c6 := hfr.cell id c6; replace c7 := hfr.cell id c7
      obtain ⟨xd, xu, xp, vk, vb, vn, vs, vu⟩ := x
      simp only at hts hpl c0 c1 c2 c3 c4 c5 c6 c7
      have hlt' : (k : Int) < (xs.length : Int) := by omega
      have hkey := Go.WideMaps.keyOf_string_mk Tryz.underlying9 hpl
      have HTS := Lib.hid hts; have HOW := Lib.hid hown; have HF := Lib.hid hfr; have HK := Lib.hid hkey
      clear hts hown hfr hc8 hx hkey
      go_wp2_with (at_mapUpdate; go_loud (refine wpList_mapUpdate_own _ rfl _ _ _ 279 rfl 9 280 lawS Tryz.underlying279 _ w.heap.size k _ rfl (HOW.out.alloc _) (by unfold maxLen; omega) _ _ _ rfl rfl HK.out _ [] unitElem_mk ?_); intro w1 hown1 hgrow1)
      go_roundw
      case rel => exact ⟨k + 1, by omega, by go_num, by rw [HTS.out]; exact hown1, (HF.out.alloc _).grown hgrow1 fun q e => .inr (by cases e; exact Nat.le_refl _)⟩
      case measure => simp [intOf]; omega
    · obtain rfl : k = xs.length := by omega
      rw [List.take_length] at hown
      have hcall := sorted_any wr w.heap.size _ _ hown (by have := hown.size_le; omega)
      have HCALL := Lib.hid hcall; have HF := Lib.hid hfr
      clear hcall hown hfr
      go_wp2_with (go_at_call 226; go_loud (refine HCALL.out.mono ?_); rintro e w1 ⟨v1, bb, L, rfl, hs1, hri, _, hf1⟩; have HS := Lib.hid hs1; have HRI := Lib.hid hri; clear hs1 hri)
      go_ret
      have hL := norm_of_has HRI.out
      exact ⟨_, bb, rfl, by rw [normS, ← hL]; exact HS.out, HF.out.then0 hf1⟩

end Go.Proofs.YtefepfiijoafbaaGreat
