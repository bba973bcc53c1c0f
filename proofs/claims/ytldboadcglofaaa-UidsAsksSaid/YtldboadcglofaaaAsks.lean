/- The walk of UidsAsks. -/
import Derived.Test.YtldboadcglofaaaAlive
import Derived.Test.YtldboadcglofaaaRefPage
namespace Go.Proofs.Ytldboadcglofaaa
open Go.RowKit Go.Shelf
attribute [local go_sem] Oper.semAt_some
set_option linter.unusedVariables false
set_option linter.unusedSimpArgs false

theorem results_one {P : Program} {w : World} {fn : Func} {p : Tmp} {t : TypeId} (h : fn.results = #[.cell p t]) (tmps : Array Value) {a : Addr} {u : Value} (hp : tmps.getD p undef = .pointer (some a))
    (h1 : (loadVar t a).run P w = .ok u w) : (results fn tmps).run P w = .ok u w := by
  simp only [results, h]
  simp only [Array.getD_eq_getD_getElem?] at hp
  simp [Sem.run_bind, Result.andThen, hp, asAddr, Sem.run_pure, h1]

def resOf (A : Addr) (W : World) : Bool := match W.cell? A with
  | some (.bool b) => b
  | _ => false
/-- What the last region reads and writes: two boxes, and the result's. -/
abbrev AskS (A1 A2 A3 : Addr) (n : Int) (v : Value) (W : World) : Prop := W.cell? A1 = some (.int .i64 n) ∧ W.cell? A2 = some v ∧ W.cell? A3 = some (.bool (resOf A3 W)) ∧ W.frozen? A3 = false
theorem resOf_is {A : Addr} {W : World} {b : Bool} (h : W.cell? A = some (.bool b)) : W.cell? A = some (.bool (resOf A W)) := by
  simp [resOf, h]
theorem askS_keep {A1 A2 A3 : Addr} {n : Int} {v : Value} {W W' : World} (hf : Fr N0 W W') (h : AskS A1 A2 A3 n v W) : AskS A1 A2 A3 n v W' :=
  ⟨hf.cell id h.1, hf.cell id h.2.1, resOf_is (hf.cell id h.2.2.1), (frozen_same (hf.at id (lt_of_cell h.2.2.1))).trans h.2.2.2⟩
theorem askS_store {A1 A2 A3 : Addr} {n : Int} {v : Value} {W : World} {b : Bool} (h : AskS A1 A2 A3 n v W) (h1 : A1.block ≠ A3.block) (h2 : A2.block ≠ A3.block) (hb : (W.setCell A3 (.bool b)).cell? A3 = some (.bool b)) :
    AskS A1 A2 A3 n v (W.setCell A3 (.bool b)) :=
  ⟨(cell_same (Below.heap_setCell _ _ _ _ h1)).trans h.1, (cell_same (Below.heap_setCell _ _ _ _ h2)).trans h.2.1, resOf_is hb, by simpa using h.2.2.2⟩

theorem rowC_form {w : World} {base : Nat} {v : Value} {xs : List Int} (h : RowC w base v xs) : ∃ a c g cap, v = .slice a xs.length c ∧ xs.length ≤ c ∧
    (0 < xs.length → a = some ⟨g, 0, none⟩ ∧ base ≤ g ∧ w.ownsRow base 23 1 (.slice (some ⟨g, 0, none⟩) xs.length cap) xs.length (xs.map (Value.int .u64))) := by
  rcases h with ⟨rfl, rfl⟩ | ⟨g, c, cap, rfl, h1, h2, h3⟩
  · exact ⟨none, 0, 0, 0, rfl, Nat.le_refl _, fun h => absurd h (by simp)⟩
  · exact ⟨_, c, g, cap, rfl, h1, fun _ => ⟨rfl, (h3.lt _ rfl).1, h3⟩⟩

theorem seq_nil (x y : Value) (W : World) : (binOp .eql 37 (.func (.func 59) #[] #[x, y]) .nilFunc).run Try.prog W = .ok (.bool false) W := by
  kernel_rfl

theorem ints_slice {k : IntKind} {w : World} {b : Nat} {v : Value} {xs : List Int} (h : Ints k w b v xs) : ∃ a cap, v = .slice a xs.length cap ∧ xs.length ≤ cap := by
  obtain ⟨a, off, cap, h1, h2, _⟩ := h
  exact ⟨a, cap, h1, h2⟩

set_option maxHeartbeats 1000000 in
set_option maxRecDepth 100000 in
theorem asks_any (w : World) (b : Nat) (v : Value) (X : List Int) (h : Ints .u64 w b v X) (u first offset after : Int) (hf : -9223372036854775808 ≤ first ∧ first ≤ 9223372036854775807) (ho : -9223372036854775808 ≤ offset ∧ offset ≤ 9223372036854775807) :
    Calls Try.prog 3 #[v, .int .u64 u, .int .i64 first, .int .i64 offset, .int .u64 after] w fun e w' => e = .returned (.bool true) ∧ Fr N0 w w' := by
  obtain ⟨i0, hi, hz0, hz1, hz2⟩ := info_parts infoU64
  by_cases hbig : 300 < X.length
  · obtain ⟨a, off, cap, rfl, h1, h2, h3, h4, h5, h6⟩ := h
    have hb : (300 : Int) < (X.length : Int) := by omega
    clear h1 h2 h3 h4 h5 h6
    have hbx : ∀ W, Fr N0 (w.alloc (.cells #[.bool false] 4)) W → W.heap[w.heap.size]? = some (.cells #[.bool false] 4 (0, 0)) := fun W hW => (hW.at id (by simp)).trans (World.alloc_heap_new _ _)
    have HBX := Lib.hid hbx
    clear hbx
    refine (callsIn_wide (n := 8)).1 ?_
    refine callsIn_of_wp_marks Try.func3 rfl trivial ?_ rfl
    simp only [Try.ntmps3, List.size_toArray, List.length_cons, List.length_nil, Nat.reduceAdd, Nat.reduceSub, Array.replicate_succ, Array.replicate_zero, List.push_toArray, List.append_toArray, List.nil_append, List.cons_append]
    gi_wp2_with (first
      | (refine ⟨trivial, ?_⟩; gi_at_call 8; refine (callsIn_wide.2 (alive_any _)).mono ?_; rintro e w1 ⟨rfl, hf1⟩; have m1 := cell_of_one (HBX.out w1 hf1); have m2 := free_of_one (HBX.out w1 hf1))
      | (refine ⟨trivial, ?_⟩))
    refine ⟨_, results_one (a := ⟨w.heap.size, 0, none⟩) (u := .bool true) rfl _ rfl (run_loadVar_cell (isAggBool _) (cell_of_one (one_setCell (HBX.out w1 hf1)))), rfl, ?_⟩
    exact (((Fr.refl _ _).alloc _).then0 hf1).setCell (.inr (Nat.le_refl _)) _
  · have hl : X.length ≤ 300 := by omega
    have hnews := fun a n c (e : v = .slice (some a) n c) => ints_news (by rw [← e]; exact h)
    have hI := h
    obtain ⟨a, off, cap, rfl, h1, h2, h3, h4, h5, h6⟩ := h
    have hb : ¬ (300 : Int) < (X.length : Int) := by omega
    have hbx : ∀ W, Fr N0 (w.alloc (.cells #[.bool false] 4)) W → W.heap[w.heap.size]? = some (.cells #[.bool false] 4 (0, 0)) := fun W hW => (hW.at id (by simp)).trans (World.alloc_heap_new _ _)
    have HBX := Lib.hid hbx; have HI := Lib.hid hI; have HNEWS := Lib.hid hnews
    clear hbx hI hnews h5 h6
    have hnil : a = none → X = [] := fun e => by have := h4 e; exact List.eq_nil_of_length_eq_zero (by omega)
    refine (callsIn_wide (n := 8)).1 ?_
    refine callsIn_of_wp_marks Try.func3 rfl trivial ?_ rfl
    simp only [Try.ntmps3, List.size_toArray, List.length_cons, List.length_nil, Nat.reduceAdd, Nat.reduceSub, Array.replicate_succ, Array.replicate_zero, List.push_toArray, List.append_toArray, List.nil_append, List.cons_append]
    cases a
    case' none =>
      obtain rfl := hnil rfl
      obtain rfl := h4 rfl
      gi_wp2_with (refine ⟨trivial, ?_⟩; gi_at_call 8; refine (callsIn_wide.2 (alive_any _)).mono ?_; rintro e w1 ⟨rfl, hf1⟩; have m1 := cell_of_one (HBX.out w1 hf1); have m2 := free_of_one (HBX.out w1 hf1))
      obtain ⟨X, hX⟩ : ∃ X : List Int, [] = X := ⟨_, rfl⟩
      have hL : Ints .u64 w b (.slice none 0 0) [] := HI.out
      rw [hX] at hL
      have hK : Row w1 w.heap.size (.slice none 0 0) X := by rw [← hX]; exact World.ownsRow_nil _ _ _ _
      have hX3 : X.length ≤ 300 := by rw [← hX]; simp
      have hf2 := hf1
      rename World => w2
      have HL := Lib.hid hL; have HK := Lib.hid hK
      clear hL hK hX HI HNEWS m1 m2 hf1
    case' some a =>
      gi_wp2_with (first
        | (refine ⟨trivial, ?_⟩; gi_at_call 8; refine (callsIn_wide.2 (alive_any _)).mono ?_; rintro e w1 ⟨rfl, hf1⟩; have m1 := cell_of_one (HBX.out w1 hf1); have m2 := free_of_one (HBX.out w1 hf1))
        | (gi_at_builtin; go_loud (refine wpListIn_append_own _ rfl _ _ 22 rfl w.heap.size 23 i0 (.int .u64 0) 1 8 Try.underlying22 hi hz0 hz1 hz2 rfl (by decide) _ _ _ rfl (World.ownsRow_nil _ _ _ _) a X.length cap (X.map (Value.int .u64)) rfl (by simp) (fun j u hu => ((((Fr.refl N0 w).alloc _).then0 hf1).cell id (HNEWS.out a _ _ rfl j u hu))) (by simp [Value.oneCell']) (by unfold maxLen; omega) (by omega) (by have := hf1.size; simp at this; omega) ?_); intro v' w2 hown' hgrow _))
      have hK : Row w2 w.heap.size v' X := by simpa [Row] using hown'
      have hgr : w1.grownBy w2 none := hgrow
      have hf2 := hf1.grown hgr (fun k e => by cases e)
      have HL := HI; have HK := Lib.hid hK
      have hX3 : X.length ≤ 300 := hl
      clear hK HI HNEWS m1 m2 hf1 hown' hgrow hgr
    all_goals
      have hIL : Ints .u64 w b _ X := HL.out
      have hwfX := hIL.wf
      obtain ⟨bk, hik⟩ := row_ints HK.out hwfX
      have hof := ofTop_any sort_any w2 bk _ X hik (by omega)
      have hILw := fun W (hW : Fr N0 w W) => hIL.fr0 hW
      have hrof := fun W (hW : Fr N0 w W) => rof_any W b _ X (hILw W hW) (by omega)
      obtain ⟨N, hN⟩ : ∃ N, norm X = N := ⟨_, rfl⟩
      have hnl : N.length ≤ 300 := by rw [← hN]; exact Nat.le_trans (norm_length X) hX3
      have hwx := norm_wf (xs := X) hwfX
      rw [hN] at hof hwx
      simp only [hN] at hrof
      obtain ⟨sk, hsk⟩ : ∃ sk, seekOf N u = sk := ⟨_, rfl⟩
      obtain ⟨sx, sb⟩ := sk
      have hsk1 := fun W B (h : IsL W W.heap.size (some ⟨B, 0, none⟩) N) => seek_any W _ _ _ u h (Nat.le_refl _) (by omega)
      have hrsk := fun W v5 bb (h : Ints .u64 W bb v5 N) => rseek_any W bb v5 N u h
      simp only [hsk] at hsk1 hrsk
      have hf2w : Fr N0 w w2 := ((Fr.refl _ _).alloc _).then0 hf2
      have HOF := Lib.hid hof; have HROF := Lib.hid hrof; have HSK := Lib.hid hsk1; have HRSK := Lib.hid hrsk; have HWX := Lib.hid hwx; have HN := Lib.hid hN; have HIL := Lib.hid hIL
      clear hof hrof hsk1 hrsk hik hsk hwx hN hIL
      gi_wp2_with (first
        | (refine ⟨trivial, ?_⟩; gi_at_call 9; refine (callsIn_wide.2 HOF.out).mono ?_; rintro e w3 ⟨B, rfl, hl3, hf3⟩)
        | (refine ⟨trivial, ?_⟩; gi_at_call 10; refine (callsIn_wide.2 (HROF.out w3 (hf2w.then0 hf3))).mono ?_; rintro e w4 ⟨v4, rfl, hr4, hf4⟩; obtain ⟨b4, hi4⟩ := row_ints hr4 HWX.out; obtain ⟨a4, c4, rfl, hc4⟩ := ints_slice hi4)
        | (refine ⟨trivial, ?_⟩; gi_at_call 11; go_loud (refine (callsIn_wide.2 (HSK.out _ B (hl3.below (hf4.alloc _).below0 (hf4.alloc _).size))).mono ?_); rintro e w5 ⟨rfl, hf5⟩; have hb5 := (hf5.at (k := w4.heap.size) id (by simp)).trans (World.alloc_heap_new w4 _); have hc5 := cell_of_one hb5; have hf45 := ((Fr.refl N0 w4).alloc _).then0 hf5)
        | (refine ⟨trivial, ?_⟩; gi_at_call 12; go_loud (refine (callsIn_wide.2 (HRSK.out _ _ b4 (hi4.fr0 hf45))).mono ?_); rintro e w6 ⟨rfl, rfl⟩))
      rename World => w5
      have hil5 : Ints .u64 w5 b _ X := hILw w5 (((hf2w.then0 hf3).then0 hf4).then0 hf45)
      obtain ⟨bk5, hik5⟩ := row_ints HK.out hwfX
      replace hik5 := hik5.fr0 (((Fr.refl N0 w2).then0 hf3).then0 (hf4.then0 hf45))
      have hl5 := hl3.below (hf4.then0 hf45).below0 (hf4.then0 hf45).size
      have hi5 := hi4.fr0 hf45
      have hs1 := fun W (hW : Fr N0 w5 W) => same_any W _ _ _ _ _ _ (hik5.fr0 hW) (hil5.fr0 hW)
      have hln := fun W (hW : Fr N0 w5 W) => len_any W _ _ _ (hl5.below hW.below0 (Nat.le_refl _))
      have hsl := fun W (hW : Fr N0 w5 W) => slicec_any W _ _ _ (hl5.below hW.below0 hW.size) (Nat.le_refl _) (by omega)
      have hs2 := fun W (hW : Fr N0 w5 W) v bb (hv : Ints .u64 W bb v N) => same_any W _ _ _ _ _ _ hv (hi5.fr0 hW)
      have hha := fun W (hW : Fr N0 w5 W) => has_any W _ _ _ u (hl5.below hW.below0 hW.size) (Nat.le_refl _) (by omega)
      have hrh := fun W (hW : Fr N0 w5 W) => rhas_any W _ _ _ u (hi5.fr0 hW)
      obtain ⟨m0, hm0⟩ : ∃ m, decide (u ∈ N) = m := ⟨_, rfl⟩
      simp only [decide_true] at hs1 hs2
      simp only [hm0] at hha hrh
      have HS1 := Lib.hid hs1; have HLN := Lib.hid hln; have HSL := Lib.hid hsl; have HS2 := Lib.hid hs2; have HHA := Lib.hid hha; have HRH := Lib.hid hrh
      have HL5 := Lib.hid hl5; have HI5 := Lib.hid hi5; have HF := Lib.hid (hf2w.then0 (hf3.then0 (hf4.then0 hf45)))
      have HB5 := Lib.hid hb5; have HFB := Lib.hid ((hf2.then0 hf3).then0 (hf4.then0 hf45))
      have hz4 : w.heap.size < w4.heap.size := by have := hf2.size; have := hf3.size; have := hf4.size; simp at *; omega
      clear hs1 hln hsl hs2 hha hrh hm0 hil5 hik5 hl5 hi5 HOF HROF HSK HRSK
      clear HK HL HIL hnil h1 h2 h3 h4 hl hbig hb hX3 hwfX hf2 hILw hf3 hf4 hl3 hr4 hi4 hf5 hf45 hf2w
      have hsn := seq_nil
      refine (wpIn_wide (n := 8)).2 ?_
      go_region_held3 (fun W => W.cell? ⟨w4.heap.size, 0, none⟩ = some (.slice a4 N.length c4) ∧ Fr N0 w5 W) (first | exact ⟨hc5, (Fr.refl _ _).drew⟩ | exact ⟨hf6.cell id (by go_split_ands; assumption), Fr.then0 (by go_split_ands; assumption) hf6⟩ | (go_split_ands; exact ⟨by assumption, by assumption⟩) | (go_split_ands; exact ⟨Fr.cell (T := N0) (((Fr.refl _ _).alloc _).alloc _) id (by assumption), Fr.alloc (Fr.alloc (by assumption) _) _⟩)) (first
        | (go_at_call 13; have hi7 := hi6; go_loud (refine (HS2.out _ (by go_split_ands; assumption) _ _ hi6).mono ?_); rintro e w7 ⟨rfl, hf6⟩)
        | (go_at_call 13; go_loud (refine (HS1.out _ (by go_split_ands; assumption)).mono ?_); rintro e w6 ⟨rfl, hf6⟩)
        | (go_at_call 14; go_loud (refine (HLN.out _ (by go_split_ands; assumption)).mono ?_); rintro e w6 ⟨rfl, rfl⟩)
        | (go_at_call 15; go_loud (refine (HSL.out _ (by go_split_ands; assumption)).mono ?_); rintro e w6 ⟨v6, rfl, hrc6, hf6⟩; obtain ⟨b6, hi6⟩ := hrc6.ints HWX.out)
        | (go_at_call 16; go_loud (refine (HHA.out _ (by go_split_ands; assumption)).mono ?_); rintro e w8 ⟨rfl, hf6⟩)
        | (go_at_call 17; go_loud (refine (HRH.out _ (by go_split_ands; assumption)).mono ?_); rintro e w9 ⟨rfl, rfl⟩)
        | (go_at_call 18; go_loud (refine (all_any _ _).mono ?_); rintro e w10 ⟨rfl, rfl⟩))
      have hf9 : Fr N0 w5 ((w8.alloc (.cells #[.pointer (some ⟨B, 0, none⟩)] 25)).alloc (.cells #[.int .i64 0] 3)) := by go_split_ands; assumption
      generalize (w8.alloc (.cells #[.pointer (some ⟨B, 0, none⟩)] 25)).alloc (.cells #[.int .i64 0] 3) = w9 at hf9 ⊢
      clear HS1 HLN HSL HS2 HHA HRH hsn hi6 hi7 hrc6 hc5 hb5
      gi_wp2_with (refine ⟨trivial, ?_⟩; gi_at_call 18; refine (callsIn_wide.2 (all_any _ _)).mono ?_; rintro e w10 ⟨rfl, rfl⟩)
      obtain ⟨w12, hw12⟩ : ∃ W, (((w9.alloc (Obj.cells #[Value.int IntKind.i64 0] 3)).alloc (Obj.cells #[Value.pointer (some ⟨B, 0, none⟩)] 25)).alloc (Obj.cells #[Value.int IntKind.i64 0] 3)) = W := ⟨_, rfl⟩
      have hf12 : Fr N0 w5 w12 := by rw [← hw12]; exact (((hf9.alloc _).alloc _).alloc _)
      have hz12 : w12.heap.size = w9.heap.size + 3 := by rw [← hw12]; simp
      have hz9 := hf9.size
      have hn12 : w12.heap[w9.heap.size]? = some (.cells #[.int .i64 0] 3 (0, 0)) := by
        rw [← hw12, Below.heap_alloc _ _ _ (by simp; omega), Below.heap_alloc _ _ _ (by simp)]; exact World.alloc_heap_new _ _
      have hb12 := (hf12.at (k := w4.heap.size) id (lt_of_block HB5.out)).trans HB5.out
      have hlb := lt_of_block HB5.out
      have hseq := all_seq (w9.alloc (Obj.cells #[Value.int IntKind.i64 0] 3)) w5.heap.size _ N (HL5.out.below (hf9.alloc _).below0 (Nat.le_refl _)) (by simp; omega)
      rw [World.size_alloc, hw12] at hseq
      rw [hw12]
      have hcells : ∃ off, (0 < N.length → a4 = some ⟨b4, off, none⟩) ∧ ∀ W, Fr N0 w5 W → ∀ i (h : i < N.length), W.cell? ⟨b4, off + i, none⟩ = some (.int .u64 N[i]) := by
        obtain ⟨a', off, cap, e1, h2, h3, h4, h5, h6, h7⟩ := HI5.out
        injection e1 with e1 e2 e3
        exact ⟨off, fun h => e1.trans (h4 h), fun W hW i hi => hW.cell id (h6 i hi)⟩
      obtain ⟨off4, ha4, hcells⟩ := hcells
      have HSEQ := Lib.hid hseq; have HCS := Lib.hid hcells; have HA4 := Lib.hid ha4
      clear hw12 hseq hcells ha4
      refine (wpIn_wide (n := 8)).2 (wp_range1 92 19 rfl rfl enters_from1 HSEQ.out (SameOn.refl _ _)
        (fun k => k = w9.heap.size) (fun k hk => ⟨by omega, by omega⟩) (fun k hk => by omega)
        (fun S pre W => S w9.heap.size ∧ W.heap[w9.heap.size]? = some (.cells #[.int .i64 (pre.length : Int)] 3 (0, 0)))
        (fun c S pre W => False)
        ?stable ?stablex ?start ?assign ?body ?done ?stop)
      case stable =>
        rintro S pre A C ⟨h0, h1⟩ hs
        exact ⟨h0, (hs.block _ h0 (lt_of_block h1)).trans h1⟩
      case stablex =>
        rintro c S pre A C h hs
        exact h.elim
      case start => exact ⟨rfl, hn12⟩
      case assign =>
        intro l x W K hK
        simp only [List.setIfInBounds_toArray, List.set_cons_zero, List.set_cons_succ] at hK ⊢
        gi_wp2
        exact hK
      case body =>
        rintro l S pre x W ⟨hs0, hc0⟩ hpx hRW hbd
        have hlen : pre.length < N.length := by
          obtain ⟨t, ht⟩ := hpx; rw [← ht]; simp
        have hx : N[pre.length] = x := by
          obtain ⟨t, ht⟩ := hpx; simp [← ht]
        obtain rfl := HA4.out (by omega)
        have hcx := HCS.out w12 hf12 _ hlen
        rw [hx] at hcx
        have hcx' : W.cell? ⟨b4, off4 + pre.length, none⟩ = some (.int .u64 x) := (cell_same (hRW.block _ (.inl (HI5.out.lt (by omega))) (lt_of_cell hcx))).trans hcx
        have hbW := (hRW.block _ (.inl hlb) (lt_of_block hb12)).trans hb12
        have k0 := cell_of_one hc0; have f0 := free_of_one hc0; have kb := cell_of_one hbW
        have i1 : (0 : Int) ≤ (pre.length : Int) := by omega
        have i2 : (pre.length : Int) < (N.length : Int) := by omega
        have i3 : ¬ (N.length : Int) ≤ (pre.length : Int) := by omega
        have i4 : IntKind.i64.wrap ((pre.length : Int) + 1) = (pre.length : Int) + 1 := IntWalk.i64_in _ (by omega)
        simp only [List.setIfInBounds_toArray, List.set_cons_zero, List.set_cons_succ]
        clear hcx hx hlen hRW
        gi_wp2
        have e1 : ((pre ++ [x]).length : Int) = (pre.length : Int) + 1 := by simp
        exact ⟨S, ⟨hs0, by rw [e1]; exact one_setCell hc0⟩, (Fr.refl S W).setCell (.inl hs0) _, fun k hk => ⟨.inl hk, by simpa [World.setCell] using (hbd k hk).2⟩⟩
      case stop => rintro D c S pre W hpx h; exact h.elim
      case done =>
        rintro D S W ⟨hs0, hc0⟩ hfr hgr hD hDl hDS
        have hfW : Fr N0 w5 W := hf12.trans hfr (fun k hk => .inr (by rw [hk]; exact hz9))
        have hzW := hfr.size
        have hbW := (hfW.at (k := w4.heap.size) id hlb).trans HB5.out
        have hsl := slicec_any W w5.heap.size _ _ (HL5.out.below hfW.below0 (Nat.le_refl _)) hfW.size (by omega)
        have HSL := Lib.hid hsl; have HBW := Lib.hid hbW; have HC0 := Lib.hid hc0; have HD := Lib.hid hD
        clear hfr hgr hsl hbW hc0 hD hn12 hb12 HSEQ
        gi_wp2_with (refine ⟨trivial, ?_⟩; gi_at_call 15; refine (callsIn_wide.2 HSL.out).mono ?_; rintro e w13 ⟨v13, rfl, hrc, hf13⟩; obtain ⟨a13, c13, g, cap13, rfl, hc13, hr13⟩ := rowC_form hrc)
        have HRC := Lib.hid hr13
        clear hrc hr13 HSL
        gi_loopw [21] (fun iv wr => ∃ (k : Nat) (ys : List Int), k ≤ N.length ∧ iv = .int .i64 k ∧ ys.length = N.length ∧ (0 < N.length → wr.ownsRow W.heap.size 23 1 (.slice (some ⟨g, 0, none⟩) N.length cap13) N.length (ys.map (Value.int .u64))) ∧ Fr N0 W wr) (fun iv _ => N.length - (intOf iv).toNat)
        case atStart => exact ⟨0, N, Nat.zero_le _, rfl, rfl, fun h => (HRC.out h).2.2, hf13⟩
        case round =>
          obtain ⟨k, ys, hk, rfl, hys, hrow, hfr⟩ := hrel
          by_cases hlt : k < N.length
          · obtain ⟨rfl, hgb, _⟩ := HRC.out (by omega)
            replace hrow := hrow (by omega)
            have e2 : ∃ v2, wr.cell? ⟨g, k, none⟩ = some v2 := ⟨_, by rw [hrow.cellAt _ (by omega)]; exact List.getElem?_eq_getElem (by simp; omega)⟩
            obtain ⟨v2, e2⟩ := e2
            have f2 := hrow.frozenAt k
            have i1 : (0 : Int) ≤ (k : Int) := by omega
            have i2 : (k : Int) < (N.length : Int) := by omega
            have i4 : IntKind.i64.wrap ((k : Int) + 1) = (k : Int) + 1 := IntWalk.i64_in _ (by omega)
            have HRW := Lib.hid hrow
            clear hrow
            gi_wp2
            go_roundw
            case rel =>
              refine ⟨k + 1, ys.set k 0, by omega, by go_num, by simp [hys], fun _ => ?_, hfr.setCell (.inr hgb) _⟩
              have := (HRW.out.stored k (.int .u64 0)).1
              simpa [List.map_set] using this
            case measure => simp [intOf]; omega
          · obtain rfl : k = N.length := by omega
            gi_wp2
            have hf5r := hfW.then0 hfr
            obtain ⟨CU, hCU⟩ : ∃ CU, cutOf (N.filter fun x => !decide (x ≤ after)) first offset = CU := ⟨_, rfl⟩
            have hcul : CU.length ≤ 300 := by
              rw [← hCU]; exact Nat.le_trans (cutOf_length _ _ _) (Nat.le_trans (List.length_filter_le _ _) hnl)
            have hcuw : ∀ x ∈ CU, (Lit.int .u64 x).wf = true := by
              rw [← hCU]; exact fun x hx => HWX.out x (List.mem_filter.1 (cutOf_sub x hx)).1
            have hpg := fun W' (hW : Fr N0 wr W') => page_any W' w5.heap.size _ N (HL5.out.below (hf5r.then0 hW).below0 (Nat.le_refl _)) (hf5r.then0 hW).size (by omega) first offset after hf ho
            have hps := fun W' B' (h : IsL W' W'.heap.size (some ⟨B', 0, none⟩) CU) => slicec_any W' _ _ _ h (Nat.le_refl _) (by omega)
            have hrp := fun W' (hW : Fr N0 wr W') => rpage_any W' b4 _ N (HI5.out.fr0 (hf5r.then0 hW)) (by omega) first offset after hf ho
            have hsm := fun W' v z bb cc (h : Ints .u64 W' bb v CU) (h' : Ints .u64 W' cc z CU) => same_any W' _ _ _ _ _ _ h h'
            have hsl := fun W' (hW : Fr N0 wr W') => slicec_any W' w5.heap.size _ N (HL5.out.below (hf5r.then0 hW).below0 (Nat.le_refl _)) (hf5r.then0 hW).size (by omega)
            have hsn := fun W' (hW : Fr N0 wr W') v bb (h : Ints .u64 W' bb v N) => same_any W' _ _ _ _ _ _ h (HI5.out.fr0 (hf5r.then0 hW))
            simp only [hCU] at hpg hrp
            simp only [decide_true] at hsm hsn
            have hcn := cell_of_one ((hfr.at (k := w9.heap.size) id (lt_of_block HC0.out)).trans HC0.out)
            have hcb := cell_of_one ((hfr.at (k := w4.heap.size) id (lt_of_block HBW.out)).trans HBW.out)
            have HPG := Lib.hid hpg; have HPS := Lib.hid hps; have HRP := Lib.hid hrp; have HSM := Lib.hid hsm; have HSL2 := Lib.hid hsl; have HSN := Lib.hid hsn; have HCW := Lib.hid hcuw
            have HDr := Lib.hid ((hfr.at id (lt_of_block HD.out)).trans HD.out)
            have HFR := Lib.hid (HF.out.then0 hf5r); have HFBR := Lib.hid (HFB.out.then0 hf5r)
            clear hpg hps hrp hsm hsl hsn hcuw hCU hf5r hfr hfW hrow hys hf13 hk hlt hf9 hf12 hf ho HRC HC0 HBW HD HF HFB HI5 HL5 HB5 HN
            have hres := HBX.out wr HFBR.out
            have hS0 : AskS ⟨w9.heap.size, 0, none⟩ ⟨w4.heap.size, 0, none⟩ ⟨w.heap.size, 0, none⟩ N.length (.slice a4 N.length c4) wr := ⟨hcn, hcb, resOf_is (cell_of_one hres), free_of_one hres⟩
            have hne1 : w9.heap.size ≠ w.heap.size := by omega
            have hne2 : w4.heap.size ≠ w.heap.size := by omega
            have HS0 := Lib.hid (askS_keep (Fr.refl _ _).drew hS0)
            clear hcn hcb hS0 hres
            refine (wpIn_wide (n := 8)).2 ?_
            go_region_held3 (fun W' => W'.cell? ⟨w9.heap.size, 0, none⟩ = some (.int .i64 N.length) ∧ W'.cell? ⟨w4.heap.size, 0, none⟩ = some (.slice a4 N.length c4) ∧ W'.cell? ⟨w.heap.size, 0, none⟩ = some (.bool (resOf ⟨w.heap.size, 0, none⟩ W')) ∧ W'.frozen? ⟨w.heap.size, 0, none⟩ = false)
              (first | exact HS0.out | exact askS_keep hf6 (by assumption) | assumption | exact askS_store (by assumption) hne1 hne2 (cell_of_one (one_setCell (HBX.out _ (HFBR.out.then0 hg6))))) (first
              | (go_at_call 19; go_loud (refine (HPG.out _ (Fr.refl _ _).drew).mono ?_); rintro e x1 ⟨B1, rfl, hlp, hf6⟩; have hg1 := (Fr.refl N0 wr).drew.then0 hf6)
              | (go_at_call 15; have hq := hg4; go_loud (refine (HSL2.out _ hg4).mono ?_); rintro e x5 ⟨v5, rfl, hrc5, hf6⟩; obtain ⟨d5, hi3⟩ := hrc5.ints HWX.out; have hg5 := hg4.then0 hf6)
              | (go_at_call 15; go_loud (refine (HPS.out _ _ hlp).mono ?_); rintro e x2 ⟨v2, rfl, hrc2, hf6⟩; obtain ⟨d2, hi1⟩ := hrc2.ints HCW.out; have hg2 := hg1.then0 hf6)
              | (go_at_call 20; go_loud (refine (HRP.out _ hg2).mono ?_); rintro e x3 ⟨v3, rfl, ⟨d3, hi2⟩, hf6⟩; replace hi1 := hi1.fr0 hf6; have hg3 := hg2.then0 hf6)
              | (go_at_call 13; have hq := hi3; go_loud (refine (HSN.out _ hg5 _ _ hi3).mono ?_); rintro e x6 ⟨rfl, hf6⟩; have hg6 := hg5.then0 hf6)
              | (go_at_call 13; go_loud (refine (HSM.out _ _ _ _ _ hi1 hi2).mono ?_); rintro e x4 ⟨rfl, hf6⟩; have hg4 := hg3.then0 hf6))
            have hr6 := one_setCell (u := .bool true) (HBX.out _ (HFBR.out.then0 hg6))
            have hD6 := (hg6.at (k := D) id (lt_of_block HDr.out)).trans HDr.out
            have hDw : D ≠ w.heap.size := by omega
            have hDl2 : w.heap.size ≤ D := by omega
            have HR6 := Lib.hid hr6; have HD6 := Lib.hid hD6
            have HFF := Lib.hid (HFR.out.then0 hg6)
            clear hr6 hD6 hi1 hi2 hi3 hrc2 hrc5 hlp hq
            gi_wp2
            refine ⟨by simp, .inl ⟨_, _, rfl, run_takeDeferred ((Below.heap_setCell _ _ _ _ hDw).trans HD6.out), ?_⟩⟩
            refine ⟨_, results_one (a := ⟨w.heap.size, 0, none⟩) (u := .bool true) rfl _ rfl (run_loadVar_cell (isAggBool _) (cell_of_one (t := 4) ((World.putObj_heap_other (fun e => hDw e.symm)).trans HR6.out))), rfl, ?_⟩
            exact (HFF.out.setCell (.inr (Nat.le_refl _)) _).putObj (.inr hDl2) _

end Go.Proofs.Ytldboadcglofaaa
