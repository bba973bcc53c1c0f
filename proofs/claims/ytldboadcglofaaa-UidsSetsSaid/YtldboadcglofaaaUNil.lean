/- The walk of UidsNil. -/
import Derived.Test.YtldboadcglofaaaAlive
import Derived.Test.YtldboadcglofaaaAndOr
import Derived.Test.YtldboadcglofaaaNot
import Derived.Test.YtldboadcglofaaaPage
import Derived.Test.YtldboadcglofaaaBytes
import Derived.Test.YtldboadcglofaaaRefOf
import Derived.Test.YtldboadcglofaaaSame
import Derived.Test.YtldboadcglofaaaUBytes
namespace Go.Proofs.Ytldboadcglofaaa
open Go.RowKit Go.Shelf
attribute [local go_sem] Oper.semAt_some
set_option linter.unusedVariables false
set_option linter.unusedSimpArgs false

theorem norm_self {N : List Int} (hs : N.Pairwise (· < ·)) (hp : ∀ x ∈ N, 0 < x) : norm N = N :=
  (norm_unique hs fun x => ⟨fun h => ⟨h, by have := hp x h; omega⟩, fun h => h.1⟩).symm

/-- Two lists, as a call hands them over. -/
theorem lists_two (W : World) (p q : Option Addr) (A B : List Int) (hA : IsL W W.heap.size p A) (hB : IsL W W.heap.size q B) :
    ListsAt (W.alloc (.cells #[.pointer p, .pointer q] 25)) (W.heap.size + 1) W.heap.size (.slice (some ⟨W.heap.size, 0, none⟩) 2 2) [p, q] [A, B] := by
  have hc := World.alloc_heap_new W (.cells #[.pointer p, .pointer q] 25)
  have hb : Below W.heap.size W (W.alloc (.cells #[.pointer p, .pointer q] 25)) := ((Fr.refl N0 W).alloc _).below0
  refine ⟨⟨some ⟨W.heap.size, 0, none⟩, 0, 2, rfl, by simp, by omega, fun _ => rfl, fun i hi => ?_⟩, fun _ => by omega, by simp, rfl, fun i h1 h2 => ?_⟩
  · match i, hi with
    | 0, _ => simp only [World.cell?, Nat.zero_add, hc]; rfl
    | 1, _ => simp only [World.cell?, Nat.zero_add, hc]; rfl
  · match i, h1 with
    | 0, _ => exact hA.below hb (by omega)
    | 1, _ => exact hB.below hb (by omega)

theorem isL_none (w : World) (n : Nat) : IsL w n none [] := ⟨[], .inl ⟨rfl, rfl⟩, rfl, List.Pairwise.nil, by simp, by simp⟩
theorem seek_nil (u : Int) : seekOf [] u = (0, false) := rfl

theorem seq_nil' (x y : Value) (W : World) : (binOp .eql 37 (.func (.func 59) #[] #[x, y]) .nilFunc).run Try.prog W = .ok (.bool false) W := by
  kernel_rfl
theorem results_box {P : Program} {w : World} {fn : Func} {p : Tmp} {t : TypeId} (h : fn.results = #[.cell p t]) (tmps : Array Value) {a : Addr} {u : Value} (hp : tmps.getD p undef = .pointer (some a))
    (h1 : (loadVar t a).run P w = .ok u w) : (results fn tmps).run P w = .ok u w := by
  simp only [results, h]
  simp only [Array.getD_eq_getD_getElem?] at hp
  simp [Sem.run_bind, Result.andThen, hp, asAddr, Sem.run_pure, h1]

theorem ints_one (W : World) (u : Int) (hu : (Lit.int .u64 u).wf = true) : Ints .u64 (W.alloc (.cells #[.int .u64 u] 23)) W.heap.size (.slice (some ⟨W.heap.size, 0, none⟩) 1 1) [u] := by
  refine ⟨some ⟨W.heap.size, 0, none⟩, 0, 1, rfl, by simp, by omega, fun _ => rfl, by simp, fun i hi => ?_, by simpa using hu⟩
  obtain rfl : i = 0 := by simp at hi; omega
  exact cell_of_one (World.alloc_heap_new W _)

set_option maxRecDepth 100000 in
set_option maxHeartbeats 1000000 in
theorem unil_any (w : World) (u n : Int) (hu : (Lit.int .u64 u).wf = true) (hn : -9223372036854775808 ≤ n ∧ n ≤ 9223372036854775807) :
    Calls Try.prog 7 #[.int .u64 u, .int .i64 n] w fun e w' => e = .returned (.bool true) ∧ Fr N0 w w' := by
  have hsk := fun W => seek_any W W.heap.size none [] u (isL_none _ _) (Nat.le_refl _) (by simp)
  simp only [seek_nil] at hsk
  have HSK := Lib.hid hsk
  have hsn := seq_nil'
  clear hsk
  refine (callsIn_wide (n := 8)).1 ?_
  refine callsIn_of_wp_marks Try.func7 rfl trivial ?_ rfl
  simp only [Try.ntmps7, List.size_toArray, List.length_cons, List.length_nil, Nat.reduceAdd, Nat.reduceSub, Array.replicate_succ, Array.replicate_zero, List.push_toArray, List.append_toArray, List.nil_append, List.cons_append]
  gi_wp2_with (first
    | (refine ⟨trivial, ?_⟩; gi_at_call 11; go_loud (refine (callsIn_wide.2 (HSK.out _)).mono ?_); rintro e w1 ⟨rfl, hf1⟩)
    | (refine ⟨trivial, ?_⟩; gi_at_call 18; refine (callsIn_wide.2 (all_any _ _)).mono ?_; rintro e w2 ⟨rfl, rfl⟩))
  obtain ⟨w3, hw3⟩ : ∃ W, (w1.alloc (Obj.cells #[Value.pointer none] 25)).alloc (Obj.cells #[Value.int IntKind.i64 0] 3) = W := ⟨_, rfl⟩
  have hz3 : w3.heap.size = w1.heap.size + 1 + 1 := by rw [← hw3]; simp
  have hseq := all_seq w3 0 none [] (isL_none _ _) (Nat.zero_le _)
  rw [hz3] at hseq
  have hf3 : Fr N0 (w.alloc (Obj.cells #[Value.bool false] 4)) w3 := by rw [← hw3]; exact (hf1.alloc _).alloc _
  obtain ⟨w4, hw4⟩ : ∃ W, (w3.alloc (Obj.cells #[Value.pointer none] 25)).alloc (Obj.cells #[Value.int IntKind.i64 0] 3) = W := ⟨_, rfl⟩
  have hz4 : w4.heap.size = w3.heap.size + 2 := by rw [← hw4]; simp
  have hf4s : w.heap.size + 5 ≤ w4.heap.size := by have := hf1.size; simp at this; omega
  have hf4 : Fr N0 (w.alloc (Obj.cells #[Value.bool false] 4)) w4 := by rw [← hw4]; exact (hf3.alloc _).alloc _
  rw [hw4] at hseq
  rw [hw3, hw4]
  have HSEQ := Lib.hid hseq
  clear hseq hw3 hw4 hf1 hf3
  refine (wpIn_wide (n := 8)).2 (wp_range (encs := enc1) rfl enters_from1 HSEQ.out (SameOn.refl _ _) (fun _ => rfl)
    (fun _ => False) (fun k hk => hk.elim) (fun k hk => by omega) (fun _ _ _ => True) (fun _ _ _ _ => False) (fun _ _ _ _ _ _ => trivial) (fun _ _ _ _ _ h _ => h) trivial ?a1 ?assign ?body ?done ?stop)
  case assign =>
    intro l2 x X K hK
    gi_wp2
    exact hK
  case body =>
    rintro l2 S1 pre x X _ hpx
    exact absurd hpx (by simp)
  case stop => exact fun _ _ _ _ _ _ h => h.elim
  case done =>
    rintro D S1 X _ hfr hgr hD hDl _
    have hfX : Fr N0 (w.alloc (Obj.cells #[Value.bool false] 4)) X := hf4.then0 (hfr.mono fun _ h => h.elim)
    clear HSEQ hfr hgr hf4 HSK hsn
    have hof := fun W => ofTop_any sort_any _ _ _ [u] (ints_one W u hu) (by simp)
    obtain ⟨N, hN⟩ : ∃ N, norm [u] = N := ⟨_, rfl⟩
    have hNl : N.length ≤ 1 := by rw [← hN]; exact norm_length [u]
    have hNs : N.Pairwise (· < ·) := by rw [← hN]; exact norm_sorted _
    have hNp : ∀ x ∈ N, 0 < x ∧ x < 18446744073709551616 := by rw [← hN]; exact norm_pos (by simpa using hu)
    have hall : allOf [N, []] = N := by
      unfold allOf; simp only [List.flatten_cons, List.flatten_nil, List.append_nil]; exact norm_self hNs fun x hx => (hNp x hx).1
    have hand : ((allOf [N, []]).filter fun x => decide (cnt0 [N, []] x = ([N, []] : List (List Int)).length)) = [] := by
      rw [List.filter_eq_nil_iff]
      intro x _
      simp [cnt0, List.countP_cons]
      split <;> omega
    have hnot : (N.filter fun x => !decide (x ∈ ([] : List Int))) = N := by rw [List.filter_eq_self]; simp
    simp only [hN] at hof
    have hor := fun W B0 (h : IsL W W.heap.size (some ⟨B0, 0, none⟩) N) => or_any _ _ _ _ _ _ (lists_two W (some ⟨B0, 0, none⟩) none N [] h (isL_none _ _)) (by simp) (by simp; omega)
    have han := fun W B0 (h : IsL W W.heap.size (some ⟨B0, 0, none⟩) N) => and_any _ _ _ _ _ _ (lists_two W (some ⟨B0, 0, none⟩) none N [] h (isL_none _ _)) (by simp) (by simp; omega)
    have hno := fun W B0 (h : IsL W W.heap.size (some ⟨B0, 0, none⟩) N) => not_any W W.heap.size (some ⟨B0, 0, none⟩) none N [] h (isL_none _ _) (Nat.le_refl _) (by omega) (by simp)
    simp only [hall] at hor
    simp only [hand] at han
    simp only [hnot] at hno
    have hby : strOfNums (bytesOf []) = ⟨#[0]⟩ := by simp [bytesOf, preOf, num, nb_zero, be, strOfNums]
    have hpg := fun W => page_any W W.heap.size none [] (isL_none _ _) (Nat.le_refl _) (by simp) n n u hn hn
    have hcut : cutOf (([] : List Int).filter fun x => !decide (x ≤ u)) n n = [] := by simp [cutOf]
    simp only [hcut] at hpg
    have hbx : ∀ W, Fr N0 (w.alloc (.cells #[.bool false] 4)) W → W.heap[w.heap.size]? = some (.cells #[.bool false] 4 (0, 0)) := fun W hW => (hW.at id (by simp)).trans (World.alloc_heap_new _ _)
    have HOF := Lib.hid hof; have HOR := Lib.hid hor; have HAN := Lib.hid han; have HNO := Lib.hid hno; have HBY := Lib.hid hby; have HPG := Lib.hid hpg; have HBX := Lib.hid hbx; have HFX := Lib.hid hfX; have HD := Lib.hid hD
    have hDw : D ≠ w.heap.size := by have := hf4s; omega
    clear hof hor han hno hby hpg hbx hall hand hnot hN hNs hNp hcut hfX hD
    gi_wp2_with (first
      | (refine ⟨trivial, ?_⟩; gi_at_call 9; have hq := hnt; go_loud (refine (callsIn_wide.2 (ofTop_any sort_any _ 0 _ [] (Ints.nil _ _ _) (by simp))).mono ?_); rintro e x9 ⟨B9, rfl, hl9, hf9⟩; rw [norm_nil] at hl9; have hof2 := hl9; have hk := hk.then0 hf9)
      | (refine ⟨trivial, ?_⟩; gi_at_call 9; go_loud (refine (callsIn_wide.2 (HOF.out X)).mono ?_); rintro e w5 ⟨B, rfl, hl5, hf5⟩; have hk := Fr.refl N0 w5)
      | (refine ⟨trivial, ?_⟩; gi_at_call 14; have hq := hand2; go_loud (refine (callsIn_wide.2 (len_any _ _ _ [] hand2)).mono ?_); rintro e x5 ⟨rfl, rfl⟩)
      | (refine ⟨trivial, ?_⟩; gi_at_call 14; have hq := hpage; go_loud (refine (callsIn_wide.2 (len_any _ _ _ [] hpage)).mono ?_); rintro e x5 ⟨rfl, rfl⟩)
      | (refine ⟨trivial, ?_⟩; gi_at_call 14; go_loud (refine (callsIn_wide.2 (len_any _ 0 none [] (isL_none _ _))).mono ?_); rintro e x1 ⟨rfl, rfl⟩)
      | (refine ⟨trivial, ?_⟩; gi_at_call 15; go_loud (refine (callsIn_wide.2 (slicec_at (isL_none _ _) (by simp) _ (Fr.refl _ _))).mono ?_); rintro e x2 ⟨v2, rfl, ⟨b2, hi2⟩, hf6⟩; obtain ⟨a2, c2, rfl⟩ := ints_slice' hi2; have hk := hk.then0 hf6)
      | (refine ⟨trivial, ?_⟩; gi_at_call 16; go_loud (refine (callsIn_wide.2 (has_any _ 0 none [] u (isL_none _ _) (Nat.zero_le _) (by simp))).mono ?_); rintro e x3 ⟨rfl, hf7⟩; have hk := hk.then0 hf7)
      | (refine ⟨trivial, ?_⟩; gi_at_call 19; go_loud (refine (callsIn_wide.2 (HPG.out _)).mono ?_); rintro e x4 ⟨B4, rfl, hpage, hf8⟩; have hk := hk.then0 hf8)
      | (refine ⟨trivial, ?_⟩; gi_at_call 26; go_loud (refine (callsIn_wide.2 (HAN.out _ B (hl5.below hk.below0 hk.size))).mono ?_); rintro e x6 ⟨B6, rfl, hand2, hf8⟩; have hk := (hk.alloc _).then0 hf8)
      | (refine ⟨trivial, ?_⟩; gi_at_call 28; go_loud (refine (callsIn_wide.2 (HOR.out _ B (hl5.below hk.below0 hk.size))).mono ?_); rintro e x7 ⟨B7, rfl, hor2, hf8⟩; have hk := (hk.alloc _).then0 hf8)
      | (refine ⟨trivial, ?_⟩; gi_at_call 30; go_loud (refine (callsIn_wide.2 (HNO.out _ B (hl5.below hk.below0 hk.size))).mono ?_); rintro e x8 ⟨B8, rfl, hnt, hf8⟩; have hk := hk.then0 hf8)
      | (refine ⟨trivial, ?_⟩; gi_at_call 25; have hq := hof2; go_loud (refine (callsIn_wide.2 (usame_true (n := 0) hof2 (isL_none _ _) (Fr.refl _ _) (by simp))).mono ?_); rintro e y3 ⟨rfl, hf8⟩; have hk := hk.then0 hf8)
      | (refine ⟨trivial, ?_⟩; gi_at_call 25; have hq := hnt; go_loud (refine (callsIn_wide.2 (usame_true (n := 0) hl5 hnt hk (by omega))).mono ?_); rintro e y2 ⟨rfl, hf8⟩; have hk := hk.then0 hf8)
      | (refine ⟨trivial, ?_⟩; gi_at_call 25; go_loud (refine (callsIn_wide.2 (usame_true (n := 0) hl5 hor2 hk (by omega))).mono ?_); rintro e y1 ⟨rfl, hf8⟩; have hk := hk.then0 hf8)
      | (refine ⟨trivial, ?_⟩; gi_at_call 23; go_loud (refine (callsIn_wide.2 (ubytes_at (isL_none _ _) (by simp) HBY.out _ (Fr.refl _ _))).mono ?_); rintro e y4 ⟨rfl, hf8⟩; have hk := hk.then0 hf8)
      | (refine ⟨trivial, ?_⟩; gi_at_call 8; go_loud (refine (callsIn_wide.2 (alive_any _)).mono ?_); rintro e y5 ⟨rfl, hf8⟩; have hk := hk.then0 hf8; have hfin := ((HFX.out.alloc _).then0 hf5).then0 hk; have m1 := cell_of_one (HBX.out _ hfin); have m2 := free_of_one (HBX.out _ hfin)))
    have hr6 := one_setCell (u := .bool true) (HBX.out _ hfin)
    have hDX := lt_of_block HD.out
    have hD6 := ((((Fr.refl N0 X).alloc _).then0 hf5).then0 hk).at (k := D) id hDX |>.trans HD.out
    refine ⟨by simp, .inl ⟨_, _, rfl, run_takeDeferred ((Below.heap_setCell _ _ _ _ hDw).trans hD6), ?_⟩⟩
    refine ⟨_, results_box (a := ⟨w.heap.size, 0, none⟩) (u := .bool true) rfl _ rfl (run_loadVar_cell (isAggBool _) (cell_of_one (t := 4) ((World.putObj_heap_other (fun e => hDw e.symm)).trans hr6))), rfl, ?_⟩
    exact ((((Fr.refl N0 w).alloc _).then0 hfin).setCell (.inr (Nat.le_refl _)) _).putObj (.inr (by omega)) _

end Go.Proofs.Ytldboadcglofaaa
