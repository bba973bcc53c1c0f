/- The walk of UidsSets. -/
import Derived.Test.YtldboadcglofaaaRSet
namespace Go.Proofs.Ytldboadcglofaaa
open Go.RowKit Go.Shelf
attribute [local go_sem] Oper.semAt_some
set_option linter.unusedVariables false
set_option linter.unusedSimpArgs false

/-! ### The plain laws -/
theorem rAnd_is {Ns : List (List Int)} (h : ∀ N ∈ Ns, Rising N) : ((allOf Ns).filter fun x => decide (cnt0 Ns x = Ns.length)) = rAnd Ns := by
  cases Ns with
  | nil =>
    have : allOf [] = [] := by simp [allOf, norm_nil]
    simp [this, rAnd]
  | cons X R =>
    have hX := h X (by simp)
    refine sorted_ext ((allOf_sorted _).sublist List.filter_sublist) (hX.1.sublist List.filter_sublist) fun x => ?_
    rw [List.mem_filter, allOf_mem fun L hL x hx => ((h L hL).2 x hx).1, rAnd, List.mem_filter]
    have hc : cnt0 (X :: R) x = (X :: R).length ↔ ∀ L ∈ X :: R, x ∈ L := by
      unfold cnt0
      rw [List.countP_eq_length]; simp
    rw [decide_eq_true_iff, hc]
    constructor
    · rintro ⟨_, h2⟩
      exact ⟨h2 X (by simp), by simpa using fun Y hY => h2 Y (by simp [hY])⟩
    · rintro ⟨h1, h2⟩
      have h3 : ∀ L ∈ X :: R, x ∈ L := fun L hL => by
        rcases List.mem_cons.1 hL with rfl | hL
        · exact h1
        · have := List.all_eq_true.1 h2 L hL; simpa using this
      exact ⟨by rw [hc.2 h3]; simp, h3⟩

theorem flatten_bound {m : Nat} : ∀ {Ns : List (List Int)}, (∀ N ∈ Ns, N.length ≤ m) → Ns.flatten.length ≤ m * Ns.length
  | [], _ => by simp
  | N :: R, h => by
    have h1 := h N (by simp)
    have h2 := flatten_bound (Ns := R) fun M hM => h M (by simp [hM])
    simp only [List.flatten_cons, List.length_append, List.length_cons, Nat.mul_add]; omega
theorem rAnd_length {m : Nat} {Ns : List (List Int)} (h : ∀ N ∈ Ns, N.length ≤ m) : (rAnd Ns).length ≤ m := by
  cases Ns with
  | nil => simp [rAnd]
  | cons X R => exact Nat.le_trans (List.length_filter_le _ _) (h X (by simp))

/-! ### The two rows that are built -/
/-- Blocks that two rows do not own. -/
def Zof (av bv : Value) : Nat → Prop := fun k => av.ownBlock ≠ some k ∧ bv.ownBlock ≠ some k
theorem Zof.symm {av bv : Value} {k : Nat} (h : Zof av bv k) : Zof bv av k := ⟨h.2, h.1⟩

structure ListsOn (Z : Nat → Prop) (w : World) (ps : List (Option Addr)) (Ns : List (List Int)) : Prop where
  len : ps.length = Ns.length
  at_ : ∀ i (h : i < ps.length) (h' : i < Ns.length), ListOn Z w ps[i] Ns[i]
structure RowsOn (Z : Nat → Prop) (w : World) (vs : List Value) (Ns : List (List Int)) : Prop where
  len : vs.length = Ns.length
  at_ : ∀ i (h : i < vs.length) (h' : i < Ns.length), ∃ b, Ints .u64 w b vs[i] Ns[i] ∧ (0 < Ns[i].length → Z b)

section
variable {Z Z' : Nat → Prop} {w w' : World}
theorem ListsOn.then_ {ps : List (Option Addr)} {Ns : List (List Int)} (h : ListsOn Z w ps Ns) (hs : SameOn Z w w') (hz : ∀ k, Z k → k < w.heap.size → Z' k) : ListsOn Z' w' ps Ns :=
  ⟨h.len, fun i h1 h2 => (h.at_ i h1 h2).then_ hs hz⟩
theorem RowsOn.then_ {vs : List Value} {Ns : List (List Int)} (h : RowsOn Z w vs Ns) (hs : SameOn Z w w') (hz : ∀ k, Z k → k < w.heap.size → Z' k) : RowsOn Z' w' vs Ns :=
  ⟨h.len, fun i h1 h2 => by
    obtain ⟨b, hI, hZ⟩ := h.at_ i h1 h2
    exact ⟨b, hI.on hs hZ, fun h0 => hz b (hZ h0) (hI.lt h0)⟩⟩
theorem ListsOn.push {ps : List (Option Addr)} {Ns : List (List Int)} {p : Option Addr} {N : List Int} (h : ListsOn Z w ps Ns) (hp : ListOn Z w p N) : ListsOn Z w (ps ++ [p]) (Ns ++ [N]) := by
  refine ⟨by simp [h.len], fun i h1 h2 => ?_⟩
  rcases Nat.lt_or_ge i ps.length with hlt | hge
  · rw [List.getElem_append_left hlt, List.getElem_append_left (by rw [← h.len]; exact hlt)]; exact h.at_ i hlt _
  · have : i = ps.length := by simp at h1; omega
    subst this
    rw [List.getElem_append_right (Nat.le_refl _), List.getElem_append_right (by rw [h.len]; exact Nat.le_refl _)]
    simpa [h.len] using hp
theorem RowsOn.push {vs : List Value} {Ns : List (List Int)} {v : Value} {N : List Int} (h : RowsOn Z w vs Ns) {b : Nat} (hv : Ints .u64 w b v N) (hZ : 0 < N.length → Z b) : RowsOn Z w (vs ++ [v]) (Ns ++ [N]) := by
  refine ⟨by simp [h.len], fun i h1 h2 => ?_⟩
  rcases Nat.lt_or_ge i vs.length with hlt | hge
  · rw [List.getElem_append_left hlt, List.getElem_append_left (by rw [← h.len]; exact hlt)]; exact h.at_ i hlt _
  · have : i = vs.length := by simp at h1; omega
    subst this
    rw [List.getElem_append_right (Nat.le_refl _), List.getElem_append_right (by rw [h.len]; exact Nat.le_refl _)]
    simpa [h.len] using ⟨b, hv, hZ⟩

/-- One of the two rows has grown. -/
theorem half_step {e e' : TypeId} {n m base : Nat} {av av' bv : Value} {xs ys : List Value} (hav : w.ownsRow base e 1 av n xs) (hbv : w.ownsRow base e' 1 bv m ys) (hap : av.ownBlock = none ∨ av.ownBlock ≠ bv.ownBlock)
    (hg : w.grownBy w' av.ownBlock) (g : Nat) (hg1 : av'.ownBlock = some g) (hg2 : av.ownBlock = some g ∨ g = w.heap.size) :
    SameOn (Zof av bv) w w' ∧ (∀ k, Zof av bv k → k < w.heap.size → Zof av' bv k) ∧ w'.ownsRow base e' 1 bv m ys ∧ (av'.ownBlock = none ∨ av'.ownBlock ≠ bv.ownBlock) := by
  refine ⟨⟨hg.os, hg.tape, hg.output, hg.size, fun k hk hl => hg.block k hl fun e => hk.1 e.symm⟩, fun k hk hl => ⟨fun e => ?_, hk.2⟩, ?_, .inr fun e => ?_⟩
  · rw [hg1] at e; cases e
    rcases hg2 with h | h
    · exact hk.1 h
    · omega
  · exact ownsRow_same hbv fun q hq => hg.block q (hbv.lt q hq).2 fun e => by
      rcases hap with h | h
      · rw [h] at e; cases e
      · exact h (e.symm.trans hq.symm)
  · rw [hg1] at e
    rcases hg2 with h | h
    · rcases hap with h' | h'
      · rw [h] at h'; cases h'
      · exact h' (h.trans e)
    · have := (hbv.lt g e.symm).2; omega
/-- What is made above the two rows does not lie in them. -/
theorem half_new {e e' : TypeId} {n m base s : Nat} {av av' bv : Value} {xs ys : List Value} {w0 : World} (hav : w0.ownsRow base e 1 av n xs) (hbv : w0.ownsRow base e' 1 bv m ys) (hs : w0.heap.size ≤ s)
    (hg : w.grownBy w' av.ownBlock) (g : Nat) (hg1 : av'.ownBlock = some g) (hg2 : av.ownBlock = some g ∨ g = w.heap.size) :
    SameOn (fun k => s ≤ k) w w' ∧ (∀ k, s ≤ k → k < w.heap.size → Zof av' bv k) := by
  refine ⟨⟨hg.os, hg.tape, hg.output, hg.size, fun k hk hl => hg.block k hl fun e => ?_⟩, fun k hk hl => ⟨fun e => ?_, fun e => ?_⟩⟩
  · have := (hav.lt k e.symm).2; omega
  · rw [hg1] at e; cases e
    rcases hg2 with h | h
    · have := (hav.lt _ h).2; omega
    · omega
  · have := (hbv.lt k e).2; omega

theorem row_ints_own {base : Nat} {v : Value} {xs : List Int} (h : Row w base v xs) (hw : ∀ x ∈ xs, (Lit.int .u64 x).wf = true) : ∃ b, Ints .u64 w b v xs ∧ (0 < xs.length → base ≤ b) := by
  obtain ⟨b, hI⟩ := row_ints h hw
  refine ⟨b, hI, fun h0 => ?_⟩
  obtain ⟨a, off, cap, rfl, h1, h2, h3, _⟩ := hI
  obtain rfl := h3 h0
  exact (h.lt b rfl).1
end

theorem ptrs_of_row {w : World} {base : Nat} {e : TypeId} {v : Value} {ps : List (Option Addr)} (h : w.ownsRow base e 1 v ps.length (ps.map Value.pointer)) : ∃ b, PtrsAt w b v ps ∧ (0 < ps.length → b < w.heap.size) := by
  have h' := h
  rcases h.2 with ⟨rfl, hn⟩ | ⟨g, cap, cur, rfl, hb, hgg, hnc, hcm, hcs, htake⟩
  · exact ⟨0, ⟨none, 0, 0, by rw [hn], by omega, by omega, fun h0 => by omega, fun i hi => by omega⟩, fun h0 => by omega⟩
  · refine ⟨g, ⟨_, 0, cap, rfl, hnc, by unfold maxLen at hcm; omega, fun _ => rfl, fun i hi => ?_⟩, fun _ => lt_of_block hgg⟩
    have := h'.cells (g := g) rfl i (.pointer ps[i]) (by simp [hi])
    rwa [Go.WideShapes.add_plain] at this

theorem rows_of_row {Z : Nat → Prop} {w : World} {base : Nat} {e : TypeId} {v : Value} {vs : List Value} {Ns : List (List Int)} (h : w.ownsRow base e 1 v vs.length vs) (hr : RowsOn Z w vs Ns) : ∃ b, RowsAt w b v Ns := by
  have h' := h
  have hl := hr.len
  rcases h.2 with ⟨rfl, hn⟩ | ⟨g, cap, cur, rfl, hb, hgg, hnc, hcm, hcs, htake⟩
  · have hN : Ns = [] := List.eq_nil_of_length_eq_zero (by omega)
    subst hN
    exact ⟨0, none, 0, 0, rfl, by simp, by omega, fun h0 => by simp at h0, fun i hi => by simp at hi⟩
  · refine ⟨g, _, 0, cap, by rw [hl], by omega, by unfold maxLen at hcm; omega, fun _ => rfl, fun i hi => ?_⟩
    have := h'.cells (g := g) rfl i vs[i] (by simp [hl, hi])
    rw [Go.WideShapes.add_plain] at this
    obtain ⟨b, hI, _⟩ := hr.at_ i (by omega) hi
    obtain ⟨a, off, c, e1, _⟩ := id hI
    rw [e1] at this hI
    exact ⟨a, c, b, this, hI⟩

/-- The two rows, and what they lead to. -/
structure SetInv (base : Nat) (w : World) (av bv : Value) (ps : List (Option Addr)) (vs : List Value) (Ns Ms : List (List Int)) : Prop where
  rowA : w.ownsRow base 25 1 av ps.length (ps.map Value.pointer)
  rowB : w.ownsRow base 22 1 bv vs.length vs
  apart : av.ownBlock = none ∨ av.ownBlock ≠ bv.ownBlock
  lists : ListsOn (Zof av bv) w ps Ns
  rows : RowsOn (Zof av bv) w vs Ms

theorem fr0_on {Z : Nat → Prop} {w w' : World} (h : Fr N0 w w') : SameOn Z w w' := h.same fun _ _ h => h
theorem row_frN {w w' : World} {base n : Nat} {e : TypeId} {v : Value} {xs : List Value} (h : w.ownsRow base e 1 v n xs) (hf : Fr N0 w w') : w'.ownsRow base e 1 v n xs :=
  ownsRow_same h fun q hq => hf.at id (lt_of_block (ownsRow_elem h hq).choose_spec)

theorem SetInv.fr0 {base : Nat} {w w' : World} {av bv : Value} {ps : List (Option Addr)} {vs : List Value} {Ns Ms : List (List Int)} (h : SetInv base w av bv ps vs Ns Ms) (hf : Fr N0 w w') : SetInv base w' av bv ps vs Ns Ms :=
  ⟨row_frN h.rowA hf, row_frN h.rowB hf, h.apart, h.lists.then_ (fr0_on hf) fun _ h _ => h, h.rows.then_ (fr0_on hf) fun _ h _ => h⟩

theorem SetInv.pushA {base : Nat} {w wA wB : World} {av bv av' : Value} {ps : List (Option Addr)} {vs : List Value} {Ns Ms : List (List Int)} (h : SetInv base w av bv ps vs Ns Ms) {p : Option Addr} {N : List Int} {o : Obj} {g : Nat}
    (hf : Fr N0 w wA) (hp : ListOn (fun k => w.heap.size ≤ k) wA p N) (hg : (wA.alloc o).grownBy wB av.ownBlock) (hr : wB.ownsRow base 25 1 av' (ps.length + 1) (ps.map Value.pointer ++ [.pointer p])) (hg1 : av'.ownBlock = some g)
    (hg2 : av.ownBlock = some g ∨ g = wA.heap.size + 1) : SetInv base wB av' bv (ps ++ [p]) vs (Ns ++ [N]) Ms := by
  have h1 := h.fr0 (hf.alloc o)
  have hg2' : av.ownBlock = some g ∨ g = (wA.alloc o).heap.size := by simpa using hg2
  obtain ⟨s1, s2, s3, s4⟩ := half_step h1.rowA h1.rowB h1.apart hg g hg1 hg2'
  obtain ⟨t1, t2⟩ := half_new h.rowA h.rowB (Nat.le_refl _) hg g hg1 hg2'
  refine ⟨by simpa using hr, s3, s4, (h1.lists.then_ s1 s2).push ?_, h1.rows.then_ s1 s2⟩
  exact (hp.then_ (fr0_on ((Fr.refl _ _).alloc o)) fun _ h _ => h).then_ t1 t2

theorem SetInv.pushB {base : Nat} {w wA wB : World} {av bv bv' : Value} {ps : List (Option Addr)} {vs : List Value} {Ns Ms : List (List Int)} (h : SetInv base w av bv ps vs Ns Ms) {v : Value} {N : List Int} {o : Obj} {g : Nat}
    (hf : Fr N0 w wA) (hp : Row wA w.heap.size v N) (hw : ∀ x ∈ N, (Lit.int .u64 x).wf = true) (hg : (wA.alloc o).grownBy wB bv.ownBlock) (hr : wB.ownsRow base 22 1 bv' (vs.length + 1) (vs ++ [v])) (hg1 : bv'.ownBlock = some g)
    (hg2 : bv.ownBlock = some g ∨ g = wA.heap.size + 1) : SetInv base wB av bv' ps (vs ++ [v]) Ns (Ms ++ [N]) := by
  have h1 := h.fr0 (hf.alloc o)
  have hg2' : bv.ownBlock = some g ∨ g = (wA.alloc o).heap.size := by simpa using hg2
  have hap : bv.ownBlock = none ∨ bv.ownBlock ≠ av.ownBlock := by
    rcases h.apart with h2 | h2
    · cases hb : bv.ownBlock with
      | none => exact .inl rfl
      | some q => right; rw [h2]; simp
    · exact .inr fun e => h2 e.symm
  obtain ⟨s1, s2, s3, s4⟩ := half_step h1.rowB h1.rowA hap hg g hg1 hg2'
  obtain ⟨t1, t2⟩ := half_new h.rowB h.rowA (Nat.le_refl _) hg g hg1 hg2'
  have s1' : SameOn (Zof av bv) (wA.alloc o) wB := s1.mono fun k hk _ => hk.symm
  have s2' : ∀ k, Zof av bv k → k < (wA.alloc o).heap.size → Zof av bv' k := fun k hk hl => (s2 k hk.symm hl).symm
  obtain ⟨bi, hI, hlo⟩ := row_ints_own hp hw
  have hI1 := hI.fr0 ((Fr.refl N0 _).alloc o)
  refine ⟨s3, by simpa using hr, ?_, h1.lists.then_ s1' s2', (h1.rows.then_ s1' s2').push (b := bi) (hI1.on t1 hlo) fun h0 => (t2 bi (hlo h0) (hI1.lt h0)).symm⟩
  rcases s4 with h2 | h2
  · rw [hg1] at h2; cases h2
  · exact .inr fun e => h2 e.symm

theorem SetInv.out {base : Nat} {w : World} {av bv : Value} {ps : List (Option Addr)} {vs : List Value} {Ns Ms : List (List Int)} (h : SetInv base w av bv ps vs Ns Ms) : ∃ lb gb, ListsAt w w.heap.size lb av ps Ns ∧ RowsAt w gb bv Ms := by
  obtain ⟨lb, h1, h2⟩ := ptrs_of_row h.rowA
  obtain ⟨gb, h3⟩ := rows_of_row h.rowB h.rows
  exact ⟨lb, gb, ⟨h1, h2, Nat.le_refl _, h.lists.len, fun i h4 h5 => (h.lists.at_ i h4 h5).isL⟩, h3⟩

/-- What the second loop's region reads. -/
abbrev SetS (W : World) (a1 a2 a3 a4 : Addr) (v1 v2 v3 v4 : Value) (W' : World) : Prop := W'.cell? a1 = some v1 ∧ W'.cell? a2 = some v2 ∧ W'.cell? a3 = some v3 ∧ W'.cell? a4 = some v4 ∧ Fr N0 W W'
theorem setS_keep {W : World} {a1 a2 a3 a4 : Addr} {v1 v2 v3 v4 : Value} {W' W'' : World} (hf : Fr N0 W' W'') (h : SetS W a1 a2 a3 a4 v1 v2 v3 v4 W') : SetS W a1 a2 a3 a4 v1 v2 v3 v4 W'' :=
  ⟨hf.cell id h.1, hf.cell id h.2.1, hf.cell id h.2.2.1, hf.cell id h.2.2.2.1, h.2.2.2.2.then0 hf⟩

theorem infoPL : (Try.prog.info? 25).map (fun i => (i.zero, i.size, i.bytes)) = some (some (.pointer none), 1, 8) := by kernel_rfl
theorem infoU64s : (Try.prog.info? 22).map (fun i => (i.zero, i.size, i.bytes)) = some (some (.slice none 0 0), 1, 24) := by kernel_rfl

set_option maxRecDepth 100000 in
set_option maxHeartbeats 4000000 in
theorem usets_any (w : World) (b : Nat) (v : Value) (Xs : List (List Int)) (h : RowsAt w b v Xs) :
    Calls Try.prog 5 #[v] w fun e w' => e = .returned (.bool true) ∧ Fr N0 w w' := by
  obtain ⟨iP, hiP, hzP0, hzP1, hzP2⟩ := info_parts infoPL
  obtain ⟨iU, hiU, hzU0, hzU1, hzU2⟩ := info_parts infoU64s
  obtain ⟨a, off, cap, rfl, h1, h2, h3, h4⟩ := h
  by_cases hbig : (6 : Int) < (Xs.length : Int)
  · clear h4
    go_enter Try.func5, Try.ntmps5
    go_wp2_with (go_at_call 8; refine (alive_any _).mono ?_; rintro e w1 ⟨rfl, hf1⟩)
    go_ret
    exact ⟨rfl, hf1⟩
  · have HC := Lib.hid h4
    clear h4
    go_enter Try.func5, Try.ntmps5
    go_wp2
    go_loopw [3, 4, 5] (fun av bv iv wr => ∃ (k : Nat) (ps : List (Option Addr)) (vs : List Value), k ≤ Xs.length ∧ iv = .int .i64 k ∧ Hid (∀ X ∈ Xs.take k, X.length ≤ 200) ∧ SetInv w.heap.size wr av bv ps vs ((Xs.take k).map norm) ((Xs.take k).map norm) ∧ Fr N0 w wr) (fun _ _ iv _ => Xs.length - (intOf iv).toNat)
    case atStart =>
      refine ⟨0, [], [], Nat.zero_le _, by go_num, by simp [Hid], ⟨World.ownsRow_nil _ _ _ _, World.ownsRow_nil _ _ _ _, .inl rfl, ⟨rfl, fun i h => by simp at h⟩, ⟨rfl, fun i h => by simp at h⟩⟩, Fr.refl _ _⟩
    case round =>
      obtain ⟨k, ps, vs, hk, rfl, hsm, hinv, hfr⟩ := hrel
      have hwsz := hfr.size
      by_cases hlt : k < Xs.length
      · obtain rfl := h3 (by omega)
        obtain ⟨A, C, bi, hck0, hin⟩ := HC.out k hlt
        have hck := hfr.cell id hck0
        have hts := congrArg (List.map norm) (take_succ Xs hlt)
        rw [List.map_append] at hts
        have hts0 := take_succ Xs hlt
        obtain ⟨X, hX⟩ : ∃ x, Xs[k] = x := ⟨_, rfl⟩
        rw [hX] at hck hck0 hts hin hts0
        by_cases hxl : (200 : Int) < (X.length : Int)
        · clear hts hin hinv hck0
          go_wp2_with (go_at_call 8; refine (alive_any _).mono ?_; rintro e w1 ⟨rfl, hf1⟩)
          go_ret
          exact ⟨rfl, hfr.then0 hf1⟩
        · have hsm' : ∀ Y ∈ Xs.take (k + 1), Y.length ≤ 200 := fun Y hY => by
            rw [hts0, List.mem_append] at hY
            rcases hY with hY | hY
            · exact hsm.out Y hY
            · simp at hY; subst hY; omega
          have hof := ofTop_anyF sort_any wr bi _ X (hin.fr0 hfr) (by omega)
          have hrof := fun W (hW : Fr N0 w W) => rof_any W bi _ X (hin.fr0 hW) (by omega)
          have hwN := norm_wf hin.wf
          have hpl : ps.length = k := by have := hinv.lists.len; simp at this; omega
          have hvl : vs.length = k := by have := hinv.rows.len; simp at this; omega
          obtain ⟨Ns, hNs⟩ : ∃ Ns, (Xs.take k).map norm = Ns := ⟨_, rfl⟩
          rw [hNs] at hinv hts
          have hra := hinv.rowA; have hrb := hinv.rowB
          rw [hpl] at hra; rw [hvl] at hrb
          have HRA := Lib.hid hra; have HRB0 := Lib.hid hrb
          have HTS := Lib.hid hts; have HSM := Lib.hid hsm'; have HINV := Lib.hid hinv; have HOF := Lib.hid hof; have HROF := Lib.hid hrof; have HF := Lib.hid hfr; have HWN := Lib.hid hwN; have HCK := Lib.hid hck0
          clear hts hsm' hinv hof hrof hfr hts0 hsm hX hNs hin hwN hra hrb hck0
          go_wp2_with (first
            | (go_at_call 9; go_loud (refine HOF.out.mono ?_); rintro e wA ⟨P0, rfl, hlA, hfA⟩; have hckA := hfA.cell id hck; have hzA := hfA.size)
            | (go_at_call 10; go_loud (refine (HROF.out _ hfB).mono ?_); rintro e wC ⟨v1, rfl, hrC, hfC⟩; have hzC := hfC.size; obtain ⟨aC, cC, rfl⟩ := row_form hrC)
            | (at_builtin; have hq := hzC; go_loud (refine wpList_append_lies _ rfl _ _ 51 rfl w.heap.size 22 iU (.slice none 0 0) 1 24 Try.underlying51 hiU hzU0 hzU1 hzU2 rfl (by decide) u4 k _ rfl ((row_frN (by have := HRB.out; rwa [hvl] at this) hfC).alloc _) ⟨wC.heap.size, 0, none⟩ 1 1 [.slice aC (norm X).length cC] rfl rfl (World.news_of_block (cs := #[.slice aC (norm X).length cC]) (t := 22) (fr := (0, 0)) (heap_alloc_new wC _)) (by simp [Value.oneCell']) (by omega) (by unfold maxLen; omega) (by omega) (by simp; omega) (wC.heap.size + 1) (by simp) ?_); intro g2 gc2 wD hownD hgrowD hfreshD hltD; have hinvD := Lib.hid (hinvB.out.pushB hfC hrC HWN.out hgrowD (by rw [hvl]; exact hownD) rfl hfreshD); have hfD := ((hfB.then0 hfC).alloc (.cells #[.slice aC (norm X).length cC] 22)).grown hgrowD (fun q e => .inr (HRB.out.lt q e).1))
            | (at_builtin; go_loud (refine wpList_append_lies _ rfl _ _ 52 rfl w.heap.size 25 iP (.pointer none) 1 8 Try.underlying52 hiP hzP0 hzP1 hzP2 rfl (by decide) u3 k _ rfl ((row_frN HRA.out hfA).alloc _) ⟨wA.heap.size, 0, none⟩ 1 1 [.pointer (some ⟨P0, 0, none⟩)] rfl rfl (World.news_of_block (cs := #[.pointer (some ⟨P0, 0, none⟩)]) (t := 25) (fr := (0, 0)) (heap_alloc_new wA _)) (by simp [Value.oneCell']) (by omega) (by unfold maxLen; omega) (by omega) (by simp; omega) (wA.heap.size + 1) (by simp) ?_); intro g1 gc1 wB hownB hgrowB hfreshB hltB; have hinvB := Lib.hid (HINV.out.pushA hfA hlA hgrowB (by rw [hpl]; exact hownB) rfl hfreshB); have hfB := ((HF.out.then0 hfA).alloc (.cells #[.pointer (some ⟨P0, 0, none⟩)] 25)).grown hgrowB (fun q e => .inr (HRA.out.lt q e).1); have hckB := hfB.cell id HCK.out; have HRB := Lib.hid hinvB.out.rowB; have hzB := hfB.size))
          go_roundw
          case rel => exact ⟨k + 1, _, _, by omega, by go_num, HSM.out, by rw [HTS.out]; exact hinvD.out, hfD⟩
          case measure => simp [intOf]; omega
      · obtain rfl : k = Xs.length := by omega
        rw [List.take_length] at hsm hinv
        obtain ⟨lb, gb, hls, hrs⟩ := hinv.out
        have hr0 : ∀ N ∈ Xs.map norm, Rising N := fun N hN => by
          obtain ⟨X, hX, rfl⟩ := List.mem_map.1 hN
          obtain ⟨i, hi, rfl⟩ := List.getElem_of_mem hX
          obtain ⟨_, _, _, _, hI⟩ := HC.out i hi
          exact ⟨norm_sorted _, norm_pos hI.wf⟩
        have hl0 : ∀ N ∈ Xs.map norm, N.length ≤ 200 := fun N hN => by
          obtain ⟨X, hX, rfl⟩ := List.mem_map.1 hN
          exact Nat.le_trans (norm_length X) (hsm.out X hX)
        have hn6 : (Xs.map norm).length ≤ 6 := by simp; omega
        obtain ⟨Ns, hNs⟩ : ∃ Ns, Xs.map norm = Ns := ⟨_, rfl⟩
        rw [hNs] at hls hrs hr0 hl0 hn6
        have hxn : Xs.length = Ns.length := by rw [← hNs]; simp
        have hfb := flatten_bound hl0
        have hal := rAnd_length hl0
        have hol := allOf_length Ns
        have hand := fun W (hW : Fr N0 wr W) => and_any W wr.heap.size lb u3 ps Ns (hls.below hW.below0) (by omega) (by omega)
        have hor := fun W (hW : Fr N0 wr W) => or_any W wr.heap.size lb u3 ps Ns (hls.below hW.below0) (by omega) (by omega)
        have hrand := fun W (hW : Fr N0 wr W) => rand_any W gb u4 Ns (hrs.fr0 hW) (by omega)
        have hror := fun W (hW : Fr N0 wr W) => ror_any W gb u4 Ns (hrs.fr0 hW) (by omega)
        simp only [rAnd_is hr0] at hand
        obtain ⟨aa, offa, capa, rfl, p1, p2, p3, p4⟩ := id hls.ptrs
        obtain ⟨ab, offb, capb, rfl, r1, r2, r3, r4⟩ := id hrs
        have hpn : ps.length = Ns.length := hls.len
        obtain ⟨n, hn⟩ : ∃ n, Ns.length = n := ⟨_, rfl⟩
        obtain ⟨LA, hLA⟩ : ∃ L, rAnd Ns = L := ⟨_, rfl⟩
        obtain ⟨LO, hLO⟩ : ∃ L, allOf Ns = L := ⟨_, rfl⟩
        rw [hn] at hpn hn6 hfb hxn
        rw [hLA] at hal
        rw [hLO] at hol
        simp only [hLA, hpn] at hand hor
        simp only [hLA, hn] at hrand hror
        simp only [hLO] at hor hror
        rw [hpn, hn]
        have HAND := Lib.hid hand; have HOR := Lib.hid hor; have HRAND := Lib.hid hrand; have HROR := Lib.hid hror
        have HLS := Lib.hid hls.lists; have HR0 := Lib.hid hr0; have HL0 := Lib.hid hl0; have HP3 := Lib.hid p3; have HP4 := Lib.hid p4; have HR3 := Lib.hid r3; have HR4 := Lib.hid r4; have HFR := Lib.hid hfr
        have HN := Lib.hid hn; have HPN := Lib.hid hpn; have HHN := Lib.hid hls.hn
        clear hand hor hrand hror hls hrs hr0 hl0 p3 p4 r3 r4 hfr hinv hsm hNs hLA hLO HC h3 hn hpn
        have hk := Fr.refl N0 wr
        go_wp2_with (first
          | (go_at_call 26; go_loud (refine (HAND.out _ hk).mono ?_); rintro e w1 ⟨B1, rfl, hL1, hf1⟩; have hk := hk.then0 hf1)
          | (go_at_call 28; go_loud (refine (HOR.out _ hk).mono ?_); rintro e w2 ⟨B2, rfl, hL2, hf2⟩; have hk := hk.then0 hf2)
          | (go_at_call_of 15 (Value.pointer (some ⟨B2, 0, none⟩)); go_loud (refine (slicec_at hL2 (by omega) _ (Fr.refl _ _)).mono ?_); rintro e w3 ⟨v3, rfl, ⟨b3, hI3⟩, hf3⟩; have hk := hk.then0 hf3; have hq3 := hf3)
          | (go_at_call_of 15 (Value.pointer (some ⟨B1, 0, none⟩)); go_loud (refine (slicec_at hL1 (by omega) _ (Fr.refl _ _)).mono ?_); rintro e w4 ⟨v4, rfl, ⟨b4, hI4⟩, hf4⟩; have hk := hk.then0 hf4)
          | (go_at_call 27; go_loud (refine (HRAND.out _ hk).mono ?_); rintro e w5 ⟨v5, b5, rfl, hI5, hf5⟩; have hk := hk.then0 hf5; have hI4 := hI4.fr0 hf5)
          | (go_at_call 29; go_loud (refine (HROR.out _ hk).mono ?_); rintro e w6 ⟨v6, b6, rfl, hI6, hf6⟩; have hk := hk.then0 hf6; have hI3 := hI3.fr0 hf6)
          | (go_at_call 13; have hq := hq3; go_loud (refine (same_true hI3 hI6).mono ?_); rintro e w7 ⟨rfl, hf7⟩; have hk := hk.then0 hf7)
          | (go_at_call 13; go_loud (refine (same_true hI4 hI5).mono ?_); rintro e w8 ⟨rfl, hf8⟩; have hk := hk.then0 hf8))
        have HK := Lib.hid hk
        clear hk hI3 hI4 hI5 hI6 hL1 hL2 hf1 hf2 hf3 hf4 hf5 hf6 hf7 hf8 hq3 HAND HOR HRAND HROR
        go_loopw [6] (fun iv W => ∃ j : Nat, j ≤ n ∧ iv = .int .i64 j ∧ Fr N0 wr W) (fun iv _ => n - (intOf iv).toNat)
        case atStart => exact ⟨0, Nat.zero_le _, by go_num, HK.out⟩
        case round =>
          rename World => W
          obtain ⟨j, hj, rfl, hfj⟩ := hrel
          have hw1 : IntKind.i64.wrap ((j : Int) + 1) = (j : Int) + 1 := IntWalk.i64_in _ (by omega)
          by_cases hlt : j + 1 < n
          · have hjp : j + 1 < ps.length := by rw [HPN.out]; exact hlt
            have hjn : j + 1 < Ns.length := by rw [HN.out]; exact hlt
            have ea := HP3.out (by omega)
            have eb := HR3.out (by omega)
            subst ea; subst eb
            have c1 := hfj.cell id (HP4.out j (by omega))
            have c2 := hfj.cell id (HP4.out (j + 1) hjp)
            obtain ⟨A1, C1, d1, c3o, hJ1⟩ := HR4.out j (by omega)
            obtain ⟨A2, C2, d2, c4o, hJ2⟩ := HR4.out (j + 1) hjn
            have c3 := hfj.cell id c3o
            have c4 := hfj.cell id c4o
            clear c3o c4o
            have hM1 := HLS.out j (by omega) (by omega)
            have hM2 := HLS.out (j + 1) hjp hjn
            have hR1 := HR0.out Ns[j] (List.getElem_mem _)
            have hl1 := HL0.out Ns[j] (List.getElem_mem _)
            have hl2 := HL0.out Ns[j + 1] (List.getElem_mem _)
            obtain ⟨N1, hN1⟩ : ∃ N, Ns[j] = N := ⟨_, rfl⟩
            obtain ⟨N2, hN2⟩ : ∃ N, Ns[j + 1] = N := ⟨_, rfl⟩
            obtain ⟨P1, hP1⟩ : ∃ N, ps[j] = N := ⟨_, rfl⟩
            obtain ⟨P2, hP2⟩ : ∃ N, ps[j + 1] = N := ⟨_, rfl⟩
            simp only [hN1, hN2, hP1, hP2] at c1 c2 c3 c4 hJ1 hJ2 hM1 hM2 hR1 hl1 hl2
            have hj1 : (j : Int) + 1 < (n : Int) := by omega
            have hj2 : (j : Int) < (n : Int) := by omega
            have hj3 : (0 : Int) ≤ (j : Int) + 1 := by omega
            have hS0 : SetS W ⟨lb, offa + j, none⟩ ⟨lb, offa + (j + 1), none⟩ ⟨gb, offb + j, none⟩ ⟨gb, offb + (j + 1), none⟩ (.pointer P1) (.pointer P2) (.slice A1 N1.length C1) (.slice A2 N2.length C2) W := ⟨c1, c2, c3, c4, Fr.refl _ _⟩
            have hnot := fun W' (hW : Fr N0 W W') => not_any W' wr.heap.size P1 P2 N1 N2 (hM1.below (hfj.then0 hW).below0 (Nat.le_refl _)) (hM2.below (hfj.then0 hW).below0 (Nat.le_refl _)) (hfj.then0 hW).size (by omega) (by omega)
            have hrnot := fun W' (hW : Fr N0 W W') => rnot_any W' d1 d2 _ _ N1 N2 (hJ1.fr0 (hfj.then0 hW)) (hJ2.fr0 (hfj.then0 hW)) (by omega)
            have hus := fun W' (hW : Fr N0 W W') => usame_any W' wr.heap.size wr.heap.size P1 P2 N1 N2 (hM1.below (hfj.then0 hW).below0 (Nat.le_refl _)) (hM2.below (hfj.then0 hW).below0 (Nat.le_refl _)) (hfj.then0 hW).size (hfj.then0 hW).size (by omega) (by omega)
            have hsm := fun W' (hW : Fr N0 W W') => same_any W' d1 d2 _ _ N1 N2 (hJ1.fr0 (hfj.then0 hW)) (hJ2.fr0 (hfj.then0 hW))
            have hsl := fun W' (hW : Fr N0 W W') => slicec_at hM1 (by omega) W' (hfj.then0 hW)
            have hs3 := fun W' (hW : Fr N0 W W') v bb (hv : Ints .u64 W' bb v N1) => same_true hv (hJ1.fr0 (hfj.then0 hW))
            have hwN : ∀ x ∈ notOf N1 N2, (Lit.int .u64 x).wf = true := fun x hx => WalkArith.wf_u64 (by have := hR1.2 x (List.mem_filter.1 hx).1; omega)
            have hnl := notOf_length N1 N2
            obtain ⟨NN, hNN⟩ : ∃ N, notOf N1 N2 = N := ⟨_, rfl⟩
            obtain ⟨dd, hdd⟩ : ∃ d, decide (N1 = N2) = d := ⟨_, rfl⟩
            have hbne : (dd != dd) = false := by simp
            change ∀ W', Fr N0 W W' → Calls Try.prog 30 #[.pointer P1, .pointer P2] W' fun e w' => ∃ B', e = .returned (.pointer (some ⟨B', 0, none⟩)) ∧ IsL w' w'.heap.size (some ⟨B', 0, none⟩) (notOf N1 N2) ∧ Fr N0 W' w' at hnot
            simp only [hNN] at hnot hrnot hwN hnl
            simp only [hdd] at hus hsm
            have HNOT := Lib.hid hnot; have HRNOT := Lib.hid hrnot; have HUS := Lib.hid hus; have HSM := Lib.hid hsm; have HSL := Lib.hid hsl; have HS3 := Lib.hid hs3; have HWN := Lib.hid hwN; have HFJ := Lib.hid hfj
            have HS0 := Lib.hid (setS_keep (Fr.refl _ _).drew hS0); have HS00 := Lib.hid hS0
            clear hN1 hN2 hP1 hP2 hnot hrnot hus hsm hsl hs3 hwN hfj hJ1 hJ2 hM1 hM2 hR1 hNN hdd hS0
            clear hjp hjn
            go_wp2
            go_region_held3 (fun W' => W'.cell? ⟨lb, offa + j, none⟩ = some (.pointer P1) ∧ W'.cell? ⟨lb, offa + (j + 1), none⟩ = some (.pointer P2) ∧ W'.cell? ⟨gb, offb + j, none⟩ = some (.slice A1 N1.length C1) ∧ W'.cell? ⟨gb, offb + (j + 1), none⟩ = some (.slice A2 N2.length C2) ∧ Fr N0 W W')
              (first | exact HS00.out | exact HS0.out | exact setS_keep hf6 (by assumption) | assumption) (first
              | (go_at_call 30; go_loud (refine (HNOT.out _ (by go_split_ands; assumption)).mono ?_); rintro e x1 ⟨B1, rfl, hlN, hf6⟩)
              | (go_at_call 31; go_loud (refine (HRNOT.out _ (by go_split_ands; assumption)).mono ?_); rintro e x2 ⟨v2, rfl, hr2, hf6⟩; obtain ⟨bN, hIN⟩ := row_ints hr2 HWN.out; replace hIS := hIS.fr0 hf6)
              | (go_at_call 15; have hq := hIS; go_loud (refine (HSL.out _ (by go_split_ands; assumption)).mono ?_); rintro e x5 ⟨v5, rfl, ⟨b5, hI5⟩, hf6⟩)
              | (go_at_call 15; go_loud (refine (slicec_at hlN (by omega) _ (Fr.refl _ _)).mono ?_); rintro e x3 ⟨v3, rfl, ⟨b3, hIS⟩, hf6⟩)
              | (go_at_call 25; go_loud (refine (HUS.out _ (by go_split_ands; assumption)).mono ?_); rintro e x6 ⟨rfl, hf6⟩; have hqs := hf6)
              | (go_at_call 13; have hq := hI5; go_loud (refine (HS3.out _ (by go_split_ands; assumption) _ _ hI5).mono ?_); rintro e x7 ⟨rfl, hf6⟩)
              | (go_at_call 13; have hq := hqs; go_loud (refine (HSM.out _ (by go_split_ands; assumption)).mono ?_); rintro e x8 ⟨rfl, hf6⟩)
              | (go_at_call 13; go_loud (refine (same_true hIS hIN).mono ?_); rintro e x9 ⟨rfl, hf6⟩))
            all_goals go_wp2
            all_goals
              go_roundw
              case rel => exact ⟨j + 1, by omega, by go_num, HFJ.out.then0 (by go_split_ands; assumption)⟩
              case measure => simp [intOf]; omega
          · have hj1 : ¬ (j : Int) + 1 < (n : Int) := by omega
            clear HP4 HR4 HLS HR0 HL0 HP3 HR3
            go_wp2_with (go_at_call 8; refine (alive_any _).mono ?_; rintro e w1 ⟨rfl, hf1⟩)
            go_ret
            exact ⟨rfl, (HFR.out.then0 hfj).then0 hf1⟩

end Go.Proofs.Ytldboadcglofaaa
