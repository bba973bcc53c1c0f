/- Groups of routes: the program's (a map's keys, sorted), the document's (put one behind the other). Two lists that are the same. -/
import Derived.Test.YthidminepegnoaaGreatDoorQLoops
import Derived.Test.YthidminepegnoaaGreatDoorQIter
namespace Go.Proofs.YthidminepegnoaaGreatDoor
open Go.RowKit Go.Shelf Go.Maps Go.Sort
attribute [local go_sem] Oper.semAt_some
set_option linter.unusedVariables false
set_option linter.unusedSimpArgs false

theorem sorts3 (m : Nat) : V32.SortsIn Fence.wide m :=
  ⟨fun blk off cap ss W hH hblk hsz => callsIn_wide.2 (V.slices_Sort_int blk off cap ss W hH hblk hsz), fun p cap W => callsIn_wide.2 (V.Sort_int_nil p cap W)⟩

/-- A map of numbers, each to true. -/
def setI (l : List Int) : DataW Value := l.foldl (fun D x => D.put (.int .u32 x) (.held (.bool true))) (.map [])
theorem setI_snoc (l : List Int) (x : Int) : setI (l ++ [x]) = (setI l).put (.int .u32 x) (.held (.bool true)) := by simp [setI, List.foldl_append]
theorem setI_isMap : ∀ l : List Int, IsMap (setI l) := by
  intro l
  induction l using snocInd with
  | h0 => exact isMap_empty
  | h1 l p ih => rw [setI_snoc]; exact ih.put _ _
theorem setI_has (l : List Int) (s : Int) : Maps.has (setI l) (.int .u32 s) = true ↔ s ∈ l := by
  induction l using snocInd with
  | h0 => simp [setI, Maps.has]
  | h1 l p ih =>
    rw [setI_snoc]
    by_cases hp : p = s
    · subst hp; rw [has_put_same (setI_isMap l) (show WideAt.IsKeyLit (Lit.int .u32 p) from trivial)]; simp
    · rw [has_put_other (fun e => hp (by injection e with _ e; exact e.symm)), ih]; exact ⟨fun h => List.mem_append_left _ h, fun h => (List.mem_append.1 h).elim id fun h => absurd (List.mem_singleton.1 h).symm hp⟩

/-- The cells of a route. -/
theorem rt_cells {W : World} {b p : Nat} {x : Rt} (h : ∀ c, c < 3 → W.cell? ⟨b, p + c, none⟩ = x.enc[c]?) :
    W.cell? ⟨b, p, none⟩ = some (.string x.pred) ∧ W.cell? ⟨b, p + 1, none⟩ = some (.int .u32 x.group) ∧ W.cell? ⟨b, p + 2, none⟩ = some (.int .u64 x.turn) :=
  ⟨h 0 (by omega), h 1 (by omega), h 2 (by omega)⟩
theorem keyed3 : Keyed Tryz.prog 41 := int_keyed Tryz.underlying41
theorem wf_u32 {x : Int} (h : 0 ≤ x ∧ x < 4294967296) : (Lit.int .u32 x).wf = true := by
  have h1 : (IntKind.u32.min : Int) = 0 := by decide
  have h2 : (IntKind.u32.max : Int) = 4294967295 := by decide
  simp only [Lit.wf, h1, h2, Bool.and_eq_true, decide_eq_true_eq]
  omega
theorem u3Keys_spec {H : Type} {D0 : DataW H} {P : Program} {k : TypeId} {R : Value → Option (DataW H × List MemPlace)} {w : World} {b n : Nat} (hown : w.ownsMap P k R b n D0) (K : Keyed P k) (hk : P.underlying k = some (.int .u32)) :
    (u3Keys D0).Nodup ∧ ∀ x, x ∈ u3Keys D0 ↔ Maps.has D0 (.int .u32 x) = true := by
  obtain ⟨es, hD, hpw, _⟩ := hown.entries K
  obtain ⟨es', hD', hko⟩ := hown.keysOf
  obtain rfl : es = es' := by rw [hD] at hD'; simpa using hD'
  subst hD
  have hk' : ∀ p ∈ es, ∃ x, p.1 = Lit.int .u32 x := fun p hp => by obtain ⟨v, hv⟩ := hko p hp; obtain ⟨x, _, hx, _⟩ := keyOf_u32 hk hv; exact ⟨x, hx⟩
  refine ⟨?_, fun x => ?_⟩
  · show (es.map fun p => u3Of p.1).Nodup
    refine List.pairwise_map.2 (hpw.imp_of_mem fun {p q} hp' hq' hne e => hne ?_)
    obtain ⟨a, ha⟩ := hk' p hp'
    obtain ⟨b, hb⟩ := hk' q hq'
    rw [ha, hb] at e ⊢
    exact congrArg _ e
  · rw [has_eq, List.any_eq_true]
    show x ∈ es.map (fun p => u3Of p.1) ↔ _
    rw [List.mem_map]
    constructor
    · rintro ⟨p, hp', rfl⟩
      obtain ⟨a, ha⟩ := hk' p hp'
      exact ⟨p, hp', by rw [ha]; simp [Lit.sameKey, u3Of]⟩
    · rintro ⟨p, hp', hs⟩
      obtain ⟨a, ha⟩ := hk' p hp'
      rw [ha] at hs
      exact ⟨p, hp', by rw [ha]; simpa [Lit.sameKey, u3Of] using hs⟩
theorem sorted_groups {ss : List Int} {D0 : DataW Value} {l : List Int} (hp : ss.Perm (u3Keys D0)) (hs : (u3Keys D0).Nodup ∧ ∀ x, x ∈ u3Keys D0 ↔ Maps.has D0 (.int .u32 x) = true) (hh : ∀ x, Maps.has D0 (.int .u32 x) = true ↔ x ∈ l) :
    (ss.mergeSort fun x y => decide (x ≤ y)) = normI l := by
  have hmem : ∀ x, x ∈ (ss.mergeSort fun x y => decide (x ≤ y)) ↔ x ∈ l := fun x => by rw [(List.mergeSort_perm ss _).mem_iff, hp.mem_iff, hs.2, hh]
  have tr : ∀ a b c : Int, decide (a ≤ b) = true → decide (b ≤ c) = true → decide (a ≤ c) = true := fun a b c h1 h2 => by simp only [decide_eq_true_eq] at *; exact Int.le_trans h1 h2
  have tot : ∀ a b : Int, (decide (a ≤ b) || decide (b ≤ a)) = true := fun a b => by simp only [Bool.or_eq_true, decide_eq_true_eq]; exact Int.le_total a b
  have hpw := List.pairwise_mergeSort tr tot ss
  have hnd : (ss.mergeSort fun x y => decide (x ≤ y)).Nodup := (List.mergeSort_perm ss _).nodup_iff.2 (hp.nodup_iff.2 hs.1)
  refine RisesI.unique (P := (· ∈ l)) ⟨?_, hmem⟩ (normI_rises l)
  refine (hpw.and hnd).imp fun {a b} h => ?_
  have h1 := of_decide_eq_true h.1
  have h2 : a ≠ b := h.2
  omega
theorem ints_of_own {w : World} {base : Nat} {k : IntKind} {e : TypeId} {v : Value} {xs : List Int} (h : w.ownsRow base e 1 v xs.length (xs.map (Value.int k))) (hw : ∀ x ∈ xs, (Lit.int k x).wf = true) : ∃ b, base ≤ b ∧ Ints k w b v xs := by
  have h' := h
  rcases h.2 with ⟨hv, h0⟩ | ⟨g, cap, cur, hv, hgb, hgg, hnc, hcm, _⟩
  · have : xs = [] := List.eq_nil_of_length_eq_zero h0
    subst this; rw [hv]; exact ⟨base, Nat.le_refl _, Ints.nil _ _ _⟩
  · refine ⟨g, hgb, some ⟨g, 0, none⟩, 0, cap, hv, hnc, by unfold maxLen at hcm; omega, fun _ => rfl, by simp, fun i hi => ?_, hw⟩
    rw [hv] at h'
    rw [Nat.zero_add, h'.cellAt i (by omega), List.getElem?_map, List.getElem?_eq_getElem hi]
    rfl
theorem fr0_below {w w' : World} (h : Below w.heap.size w w') : Fr N0 w w' := fr0_of_below h

set_option maxRecDepth 100000 in
set_option maxHeartbeats 2000000 in
theorem xgroups_any (w : World) (b : Nat) (v : Value) (xs : List Rt) (h : Rts w b v xs) (hl : xs.length ≤ 1000000) (hg : ∀ r ∈ xs, 0 ≤ r.group ∧ r.group < 4294967296) :
    Calls Tryz.prog 69 #[v] w fun e w' => ∃ v' bb, e = .returned v' ∧ Ints .u32 w' bb v' (groupsOf xs) ∧ Fr N0 w w' := by
  obtain ⟨a, off, cap, rfl, h1, h2, h3, h4, h5⟩ := h
  have hmm := @run_makeMap Tryz.prog
  have HC := Lib.hid h5; have HG := Lib.hid hg
  clear h4 h5 hg
  go_enter Tryz.func69, Tryz.ntmps69
  go_wp2
  have hown0 := World.ownsMap_made (H := Value) w Tryz.prog 41 heldElem
  have hf0 : Fr N0 w (w.alloc (.map #[] 0)) := (Fr.refl _ _).alloc _
  have hml : w.heap.size < (w.alloc (.map #[] 0)).heap.size := by simp
  obtain ⟨W0, hW0⟩ : ∃ W0, w.alloc (.map #[] 0) = W0 := ⟨_, rfl⟩
  rw [hW0] at hown0 hf0 hml ⊢
  have HO0 := Lib.hid hown0; have HF0 := Lib.hid hf0
  clear hW0 hown0 hf0 hmm
  go_loopw [9] (fun iv wr => ∃ k : Nat, k ≤ xs.length ∧ iv = .int .i64 k ∧ wr.ownsMap Tryz.prog 41 heldElem w.heap.size k (setI ((xs.take k).map (·.group))) ∧ Fr N0 w wr) (fun iv _ => xs.length - (intOf iv).toNat)
  case atStart => exact ⟨0, Nat.zero_le _, rfl, HO0.out, HF0.out⟩
  case round =>
    obtain ⟨k, hk, rfl, hown, hfr⟩ := hrel
    by_cases hlt : k < xs.length
    · obtain rfl := h3 (by omega)
      have hts := congrArg setI (congrArg (List.map (·.group)) (List.take_succ_eq_append_getElem hlt))
      rw [List.map_append, List.map_cons, List.map_nil, setI_snoc] at hts
      have hc := HC.out k hlt
      have hpl := HG.out xs[k] (List.getElem_mem hlt)
      obtain ⟨x, hx⟩ : ∃ x, xs[k] = x := ⟨_, rfl⟩
      simp only [hx] at hts hc hpl
      obtain ⟨c0, c1, c2⟩ := rt_cells (W := w) hc
      replace c0 := hfr.cell id c0; replace c1 := hfr.cell id c1; replace c2 := hfr.cell id c2
      obtain ⟨xp, xg, xt⟩ := x
      simp only at hts hpl c0 c1 c2
      have hlt' : (k : Int) < (xs.length : Int) := by omega
      have hkey := keyOf_int_mk Tryz.underlying41 (wf_u32 hpl)
      have HTS := Lib.hid hts; have HOW := Lib.hid hown; have HF := Lib.hid hfr; have HK := Lib.hid hkey
      clear hts hown hfr hc hx hkey hpl
      go_wp2_with (at_mapUpdate; go_loud (refine wpList_mapUpdate_own _ rfl _ _ _ 159 rfl 41 4 keyed3 Tryz.underlying159 _ w.heap.size k _ rfl (HOW.out.alloc _) (by unfold maxLen; omega) _ _ _ rfl rfl HK.out _ [] rfl ?_); intro w1 hown1 hgrow1)
      go_roundw
      case rel => exact ⟨k + 1, by omega, by go_num, by rw [HTS.out]; exact hown1, (HF.out.alloc _).grown hgrow1 fun q e => .inr (by cases e; exact Nat.le_refl _)⟩
      case measure => simp [intOf]; omega
    · obtain rfl : k = xs.length := by omega
      rw [List.take_length] at hown
      have hsz := hown.size_le
      have hbl := hown.lt
      have hown1 : (wr.alloc (.cells #[.map (some w.heap.size)] 159)).ownsMap Tryz.prog 41 heldElem w.heap.size xs.length (setI (xs.map (·.group))) := hown.alloc _
      have hseq := V32.keys_gives Fence.wide 2 trivial rfl (by omega) wr.heap.size w.heap.size xs.length _ (wr.alloc (.cells #[.map (some w.heap.size)] 159)) (by simp) (by simp) hown1
      have cK : ∀ mb W, Calls Tryz.prog 101 #[.map mb] W fun e w' => e = .returned (.func (.func 120) #[] #[.pointer (some ⟨W.heap.size, 0, none⟩)]) ∧ w' = W.alloc (.cells #[.map mb] 159) := fun mb W => (callsIn_wide (n := 5)).1 (V32.keys_in Fence.wide 5 trivial rfl mb W)
      have cS := (callsIn_wide (n := 5)).1 (V32.sorted_in Fence.wide 5 trivial trivial trivial trivial rfl (by omega) (sorts3 _) (enters_of Tryz.func119 (by kernel_rfl) rfl) 120 #[.pointer (some ⟨wr.heap.size, 0, none⟩)] trivial (enters_of Tryz.func120 (by kernel_rfl) rfl) _ _ (by unfold maxLen; omega) (by omega) _ hseq)
      have hks := u3Keys_spec hown1 keyed3 Tryz.underlying41
      have hsh := setI_has (xs.map (·.group))
      have CK := Lib.hid cK; have CS := Lib.hid cS; have HF := Lib.hid hfr; have HKS := Lib.hid hks; have HSH := Lib.hid hsh
      clear cK cS hfr hks hsh hseq hown hown1
      go_wp2_with (first
        | (go_at_call 101; go_loud (refine (CK.out _ _).mono ?_); rintro e w1 ⟨rfl, rfl⟩)
        | (go_at_call 100; go_loud (refine CS.out.mono ?_); rintro e w2 ⟨v2, ss, rfl, hS, hrow, hnil, hb⟩))
      go_ret
      have hgr := sorted_groups hS HKS.out HSH.out
      have hlen : ss.length = (normI (xs.map (·.group))).length := by rw [← hgr]; simp
      rw [hgr, hlen] at hrow
      have hwf : ∀ x ∈ normI (xs.map (·.group)), (Lit.int .u32 x).wf = true := fun x hx => by
        obtain ⟨r, hr, rfl⟩ := List.mem_map.1 (((normI_rises _).2 x).1 hx)
        exact wf_u32 (HG.out r hr)
      obtain ⟨bb, _, hI⟩ := ints_of_own hrow hwf
      exact ⟨_, bb, rfl, hI, (HF.out.alloc _).then0 (fr0_below hb)⟩

/-! ### The document's -/

theorem wf_u64 {x : Int} (h : 0 ≤ x ∧ x < 18446744073709551616) : (Lit.int .u64 x).wf = true := by
  have h1 : (IntKind.u64.min : Int) = 0 := by decide
  have h2 : (IntKind.u64.max : Int) = 18446744073709551615 := by decide
  simp only [Lit.wf, h1, h2, Bool.and_eq_true, decide_eq_true_eq]
  omega
theorem infoU64 : (Tryz.prog.info? 26).map (fun i => (i.zero, i.size, i.bytes)) = some (some (.int .u64 0), 1, 8) := by kernel_rfl

/-- What rise has made of the first numbers. -/
def riseTo (l : List Int) (t : Int) : List Int × Bool := l.foldl (fun s x => if !s.2 && decide (t < x) then (s.1 ++ [t] ++ [x], true) else (s.1 ++ [x], s.2)) ([], false)
def riseOf (l : List Int) (t : Int) : List Int := if (riseTo l t).2 then (riseTo l t).1 else (riseTo l t).1 ++ [t]
theorem riseTo_snoc (l : List Int) (x t : Int) : riseTo (l ++ [x]) t = if !(riseTo l t).2 && decide (t < x) then ((riseTo l t).1 ++ [t] ++ [x], true) else ((riseTo l t).1 ++ [x], (riseTo l t).2) := by simp [riseTo, List.foldl_append]
theorem riseTo_length (l : List Int) (t : Int) : (riseTo l t).1.length = l.length + (if (riseTo l t).2 then 1 else 0) := by
  induction l using snocInd with
  | h0 => rfl
  | h1 l x ih =>
    rw [riseTo_snoc]
    cases h2 : (riseTo l t).2 <;> cases h3 : decide (t < x) <;> simp [h2] at ih ⊢ <;> omega
theorem riseTo_spec (t : Int) (l : List Int) (h : l.Pairwise (· < ·)) (hn : t ∉ l) :
    ((riseTo l t).2 = false → (riseTo l t).1 = l ∧ ∀ x ∈ l, x < t) ∧ ((riseTo l t).2 = true → (riseTo l t).1 = putI t l ∧ ∃ x ∈ l, t < x) := by
  induction l using snocInd with
  | h0 => exact ⟨fun _ => ⟨rfl, by simp⟩, fun h => by cases h⟩
  | h1 l x ih =>
    have hp := List.pairwise_append.1 h
    have hnl : t ∉ l := fun h' => hn (List.mem_append_left _ h')
    have hnx : t ≠ x := fun h' => hn (by simp [h'])
    obtain ⟨i1, i2⟩ := ih hp.1 hnl
    have hput : ∀ m : List Int, (∀ y ∈ m, y < t) → t < x → putI t (m ++ [x]) = m ++ [t] ++ [x] := by
      intro m hm hx
      induction m with
      | nil => simp [putI, hx]
      | cons y m ihm =>
        have hy : y < t := hm y (by simp)
        simp only [List.cons_append, putI]
        rw [if_neg (by omega), if_neg (by omega), ihm fun z hz => hm z (by simp [hz])]
        try simp
    have hput2 : ∀ m : List Int, (∃ y ∈ m, t < y) → m.Pairwise (· < ·) → putI t (m ++ [x]) = putI t m ++ [x] := by
      intro m ⟨z, hz, htz⟩ hpm
      induction m with
      | nil => cases hz
      | cons y m ihm =>
        simp only [List.cons_append, putI]
        split
        · rfl
        · split
          · rfl
          · rcases List.mem_cons.1 hz with h1 | h1
            · subst h1; omega
            · rw [ihm h1 (List.pairwise_cons.1 hpm).2, List.cons_append]
    rw [riseTo_snoc]
    cases h2 : (riseTo l t).2
    · obtain ⟨e1, e2⟩ := i1 h2
      by_cases h3 : t < x
      · simp only [h3, decide_true, Bool.not_false, Bool.and_self, if_true]
        exact ⟨(fun h => by cases h), fun _ => ⟨by rw [e1, hput l e2 h3], x, by simp, h3⟩⟩
      · simp only [h3, decide_false, Bool.and_false, Bool.false_eq_true, if_false]
        refine ⟨fun _ => ⟨by rw [e1], fun y hy => ?_⟩, fun h => by cases h⟩
        rcases List.mem_append.1 hy with h | h
        · exact e2 y h
        · simp at h; subst h; omega
    · obtain ⟨e1, y, hy, hty⟩ := i2 h2
      simp only [Bool.not_true, Bool.false_and, Bool.false_eq_true, if_false]
      exact ⟨(fun h => by cases h), fun _ => ⟨by rw [e1, hput2 l ⟨y, hy, hty⟩ hp.1], y, List.mem_append_left _ hy, hty⟩⟩
theorem riseOf_is (t : Int) (l : List Int) (h : l.Pairwise (· < ·)) (hn : t ∉ l) : riseOf l t = putI t l := by
  obtain ⟨h1, h2⟩ := riseTo_spec t l h hn
  unfold riseOf
  cases hq : (riseTo l t).2
  · obtain ⟨e1, e2⟩ := h1 hq
    simp only [Bool.false_eq_true, if_false]
    rw [e1]
    clear h1 h2 hq e1 hn h
    induction l with
    | nil => rfl
    | cons y l ih => have := e2 y (by simp); simp only [List.cons_append, putI]; rw [if_neg (by omega), if_neg (by omega), ih fun z hz => e2 z (by simp [hz])]
  · simp only [if_true]; exact (h2 hq).1
theorem putI_in (t : Int) (l : List Int) (h : l.Pairwise (· < ·)) (hn : t ∈ l) : putI t l = l := by
  induction l with
  | nil => cases hn
  | cons y l ih =>
    have hp := List.pairwise_cons.1 h
    unfold putI
    rcases List.mem_cons.1 hn with h1 | h1
    · subst h1; rw [if_neg (by omega), if_pos rfl]
    · have := hp.1 t h1; rw [if_neg (by omega), if_neg (by omega), ih hp.2 h1]

set_option maxRecDepth 100000 in
set_option maxHeartbeats 2000000 in
theorem rise_any (w : World) (b : Nat) (v : Value) (xs : List Int) (h : Ints .u64 w b v xs) (t : Int) (hl : xs.length ≤ 1000000) (ht : 0 ≤ t ∧ t < 18446744073709551616) :
    Calls Tryz.prog 125 #[v, .int .u64 t] w fun e w' => ∃ v' bb, e = .returned v' ∧ Ints .u64 w' bb v' (riseOf xs t) ∧ Fr N0 w w' := by
  obtain ⟨i0, hi, hz0, hz1, hz2⟩ := info_parts infoU64
  obtain ⟨a, off, cap, rfl, h1, h2, h3, h4, h5, h6⟩ := h
  have HC := Lib.hid h5; have HW := Lib.hid h6
  clear h4 h5 h6
  go_enter Tryz.func125, Tryz.ntmps125
  go_wp2
  go_loopw [5, 6, 7] (fun o p iv wr => ∃ (k n : Nat) (q : Bool), k ≤ xs.length ∧ iv = .int .i64 k ∧ p = .bool q ∧ Hid ((riseTo (xs.take k) t).2 = q) ∧ Hid ((riseTo (xs.take k) t).1.length = n) ∧ n = k + q.toNat ∧ wr.ownsRow w.heap.size 26 1 o n ((riseTo (xs.take k) t).1.map (Value.int .u64)) ∧ Fr N0 w wr) (fun _ _ iv _ => xs.length - (intOf iv).toNat)
  case atStart => exact ⟨0, 0, false, Nat.zero_le _, by go_num, rfl, rfl, rfl, rfl, World.ownsRow_nil _ _ _ _, Fr.refl _ _⟩
  case round =>
    obtain ⟨k, n, q, hk, rfl, rfl, hq, hn, hnk, hrow, hfr⟩ := hrel
    by_cases hlt : k < xs.length
    · obtain rfl := h3 (by omega)
      have c0 := hfr.cell id (HC.out k hlt : _ = some (.int .u64 xs[k]))
      have hc0 : w.cell? ⟨b, off + k, none⟩ = some (.int .u64 xs[k]) := HC.out k hlt
      have hts : riseTo (xs.take (k + 1)) t = _ := (congrArg (fun l => riseTo l t) (List.take_succ_eq_append_getElem hlt)).trans (riseTo_snoc _ _ _)
      obtain ⟨x, hx⟩ : ∃ x, xs[k] = x := ⟨_, rfl⟩
      rw [hx] at c0 hts hc0
      have C0 := Lib.hid hc0
      clear hc0
      rw [hq.out] at hts
      have hlt' : (k : Int) < (xs.length : Int) := by omega
      obtain ⟨L, hL⟩ : ∃ L, (riseTo (xs.take k) t).1 = L := ⟨_, rfl⟩
      rw [hL] at hts hn hrow
      have HTS := Lib.hid hts; have HN := Lib.hid hn.out; have HROW := Lib.hid hrow; have HF := Lib.hid hfr
      have hwsz := hfr.size
      clear hts hn hrow hfr hx hL hq
      have hnk1 : n ≤ k + 1 := by rw [hnk]; cases q <;> simp
      have HNK := Lib.hid hnk
      clear hnk
      cases q with
      | true =>
        go_wp2_with (at_builtin; go_loud (refine wpList_append_lies _ rfl _ _ 84 rfl w.heap.size 26 i0 (.int .u64 0) 1 8 Tryz.underlying84 hi hz0 hz1 hz2 rfl (by decide) (u5) (n) _ rfl (HROW.out.alloc _) ⟨wr.heap.size, 0, none⟩ 1 1 [.int .u64 x] rfl rfl (World.news_of_block (cs := #[.int .u64 x]) (t := 26) (fr := (0, 0)) (heap_alloc_new wr _)) (by simp [Value.oneCell']) (by omega) (by unfold maxLen; omega) (by omega) (by simp; omega) (wr.heap.size + 1) (by simp) ?_); intro g gc w1 hown hgrow hfresh hlt1)
        go_roundw
        case rel =>
          refine ⟨k + 1, n + 1, true, by omega, by go_num, rfl, by rw [HTS.out]; rfl, ?_, by have := HNK.out; simp only [Bool.toNat_true, Bool.toNat_false] at this ⊢; omega, ?_, (HF.out.alloc _).grown hgrow fun q e => .inr (HROW.out.lt q e).1⟩
          · rw [HTS.out]; simp [HN.out, Hid]
          · rw [HTS.out]; simpa using hown
        case measure => simp [intOf]; omega
      | false =>
        have hnk2 : n ≤ k := Nat.le_of_eq HNK.out
        by_cases hlt2 : t < x
        · have hd : decide (t < x) = true := decide_eq_true hlt2
          go_wp2_with (first
            | (at_builtin; go_loud (refine wpList_append_lies _ rfl _ _ 84 rfl w.heap.size 26 i0 (.int .u64 0) 1 8 Tryz.underlying84 hi hz0 hz1 hz2 rfl (by decide) (u5) (n) _ rfl (HROW.out.alloc _) ⟨wr.heap.size, 0, none⟩ 1 1 [.int .u64 t] rfl rfl (World.news_of_block (cs := #[.int .u64 t]) (t := 26) (fr := (0, 0)) (heap_alloc_new wr _)) (by simp [Value.oneCell']) (by omega) (by unfold maxLen; omega) (by omega) (by simp; omega) (wr.heap.size + 1) (by simp) ?_); intro g gc w1 hown hgrow hfresh hlt1; have hsz1 := hgrow.size; simp only [World.size_alloc] at hsz1; have c0b := (((HF.out.alloc _).grown hgrow fun q e => .inr (HROW.out.lt q e).1) : Fr N0 w w1).cell id C0.out)
            | (at_builtin; go_loud (refine wpList_append_lies _ rfl _ _ 84 rfl w.heap.size 26 i0 (.int .u64 0) 1 8 Tryz.underlying84 hi hz0 hz1 hz2 rfl (by decide) (.slice (some ⟨g, 0, none⟩) (n + 1) gc) (n + 1) _ rfl (hown.alloc _) ⟨w1.heap.size, 0, none⟩ 1 1 [.int .u64 x] rfl rfl (World.news_of_block (cs := #[.int .u64 x]) (t := 26) (fr := (0, 0)) (heap_alloc_new w1 _)) (by simp [Value.oneCell']) (by omega) (by unfold maxLen; omega) (by omega) (by simp; omega) (w1.heap.size + 1) (by simp) ?_); intro g2 gc2 w2 hown2 hgrow2 hfresh2 hlt12))
          go_roundw
          case rel =>
            refine ⟨k + 1, n + 1 + 1, true, by omega, by go_num, rfl, by rw [HTS.out, hd]; rfl, ?_, by have := HNK.out; simp only [Bool.toNat_true, Bool.toNat_false] at this ⊢; omega, ?_, (((HF.out.alloc _).grown hgrow fun q e => .inr (HROW.out.lt q e).1).alloc _).grown hgrow2 fun q e => .inr (hown.lt q e).1⟩
            · rw [HTS.out, hd]; simp [HN.out, Hid]
            · rw [HTS.out, hd]; simpa using hown2
          case measure => simp [intOf]; omega
        · have hd : decide (t < x) = false := decide_eq_false hlt2
          go_wp2_with (at_builtin; go_loud (refine wpList_append_lies _ rfl _ _ 84 rfl w.heap.size 26 i0 (.int .u64 0) 1 8 Tryz.underlying84 hi hz0 hz1 hz2 rfl (by decide) (u5) (n) _ rfl (HROW.out.alloc _) ⟨wr.heap.size, 0, none⟩ 1 1 [.int .u64 x] rfl rfl (World.news_of_block (cs := #[.int .u64 x]) (t := 26) (fr := (0, 0)) (heap_alloc_new wr _)) (by simp [Value.oneCell']) (by omega) (by unfold maxLen; omega) (by omega) (by simp; omega) (wr.heap.size + 1) (by simp) ?_); intro g gc w1 hown hgrow hfresh hlt1)
          go_roundw
          case rel =>
            refine ⟨k + 1, n + 1, false, by omega, by go_num, rfl, by rw [HTS.out, hd]; rfl, ?_, by have := HNK.out; simp only [Bool.toNat_true, Bool.toNat_false] at this ⊢; omega, ?_, (HF.out.alloc _).grown hgrow fun q e => .inr (HROW.out.lt q e).1⟩
            · rw [HTS.out, hd]; simp [HN.out, Hid]
            · rw [HTS.out, hd]; simpa using hown
          case measure => simp [intOf]; omega
    · obtain rfl : k = xs.length := by omega
      rw [List.take_length] at hrow hq hn
      have hwf : ∀ x ∈ riseOf xs t, (Lit.int .u64 x).wf = true := fun x hx => by
        have hm : ∀ l : List Int, ∀ y ∈ (riseTo l t).1, y = t ∨ y ∈ l := by
          intro l
          induction l using snocInd with
          | h0 => intro y hy; cases hy
          | h1 l z ih =>
            intro y hy
            rw [riseTo_snoc] at hy
            split at hy
            · simp only [List.append_assoc, List.mem_append, List.mem_singleton] at hy ⊢
              rcases hy with h | h | h
              · rcases ih y h with h | h
                · exact .inl h
                · exact .inr (.inl h)
              · exact .inl h
              · exact .inr (.inr h)
            · simp only [List.mem_append, List.mem_singleton] at hy ⊢
              rcases hy with h | h
              · rcases ih y h with h | h
                · exact .inl h
                · exact .inr (.inl h)
              · exact .inr (.inr h)
        have hx' : x = t ∨ x ∈ xs := by
          unfold riseOf at hx
          split at hx
          · exact hm xs x hx
          · rcases List.mem_append.1 hx with h | h
            · exact hm xs x h
            · exact .inl (List.mem_singleton.1 h)
        rcases hx' with rfl | h
        · exact wf_u64 ht
        · exact HW.out x h
      have HWF := Lib.hid hwf; have HROW := Lib.hid hrow; have HF := Lib.hid hfr; have HN := Lib.hid hn.out
      have hwsz := hfr.size
      have hnk1 : n ≤ xs.length + 1 := by rw [hnk]; cases q <;> simp
      clear hwf hrow hfr hn hnk
      cases q with
      | true =>
        have hro : riseOf xs t = (riseTo xs t).1 := by rw [riseOf, hq.out, if_pos rfl]
        have HRO := Lib.hid hro
        clear hro hq
        go_wp2
        go_ret
        have hr := HROW.out
        rw [← HN.out, ← HRO.out] at hr
        obtain ⟨bb, _, hI⟩ := ints_of_own hr HWF.out
        exact ⟨_, bb, rfl, hI, HF.out⟩
      | false =>
        have hro : riseOf xs t = (riseTo xs t).1 ++ [t] := by rw [riseOf, hq.out, if_neg (by decide)]
        have HRO := Lib.hid hro
        clear hro hq
        go_wp2_with (at_builtin; go_loud (refine wpList_append_lies _ rfl _ _ 84 rfl w.heap.size 26 i0 (.int .u64 0) 1 8 Tryz.underlying84 hi hz0 hz1 hz2 rfl (by decide) (u5) (n) _ rfl (HROW.out.alloc _) ⟨wr.heap.size, 0, none⟩ 1 1 [.int .u64 t] rfl rfl (World.news_of_block (cs := #[.int .u64 t]) (t := 26) (fr := (0, 0)) (heap_alloc_new wr _)) (by simp [Value.oneCell']) (by omega) (by unfold maxLen; omega) (by omega) (by simp; omega) (wr.heap.size + 1) (by simp) ?_); intro g gc w1 hown hgrow hfresh hlt1)
        go_ret
        have hown' : w1.ownsRow w.heap.size 26 1 (.slice (some ⟨g, 0, none⟩) (n + 1) gc) (riseOf xs t).length ((riseOf xs t).map (Value.int .u64)) := by
          have hln : (riseOf xs t).length = n + 1 := by rw [HRO.out, List.length_append, HN.out]; rfl
          rw [hln, HRO.out]; simpa using hown
        obtain ⟨bb, _, hI⟩ := ints_of_own hown' HWF.out
        exact ⟨_, bb, rfl, hI, (HF.out.alloc _).grown hgrow fun q e => .inr (HROW.out.lt q e).1⟩

set_option maxRecDepth 100000 in
set_option maxHeartbeats 1000000 in
theorem r18Rise_any (w : World) (b : Nat) (v : Value) (xs : List Int) (h : Ints .u64 w b v xs) (t : Int) (hp : xs.Pairwise (· < ·)) (hl : xs.length ≤ 1000000) (ht : 0 ≤ t ∧ t < 18446744073709551616) :
    Calls Tryz.prog 108 #[v, .int .u64 t] w fun e w' => ∃ v' bb, e = .returned v' ∧ Ints .u64 w' bb v' (putI t xs) ∧ Fr N0 w w' := by
  have hh := has_any w b v xs h t hl
  have hrs := fun w1 (hf : Fr N0 w w1) => rise_any w1 b v xs (h.fr0 hf) t hl ht
  have HH := Lib.hid hh; have HR := Lib.hid hrs; have HI := Lib.hid h
  clear hh hrs h
  go_enter Tryz.func108, Tryz.ntmps108
  by_cases hm : t ∈ xs
  · have hd : decide (t ∈ xs) = true := decide_eq_true hm
    have he := putI_in t xs hp hm
    have HE := Lib.hid he
    clear he hm
    go_wp2_with (go_at_call 124; go_loud (refine HH.out.mono ?_); rintro e w1 ⟨rfl, hf1⟩)
    go_ret
    exact ⟨_, b, rfl, by rw [HE.out]; exact HI.out.fr0 hf1, hf1⟩
  · have hd : decide (t ∈ xs) = false := decide_eq_false hm
    have he := riseOf_is t xs hp hm
    have HE := Lib.hid he
    clear he hm
    go_wp2_with (first
      | (go_at_call 124; go_loud (refine HH.out.mono ?_); rintro e w1 ⟨rfl, hf1⟩)
      | (go_at_call 125; go_loud (refine (HR.out _ hf1).mono ?_); rintro e w2 ⟨v2, bb, rfl, hI2, hf2⟩))
    go_ret
    exact ⟨_, bb, rfl, by rw [← HE.out]; exact hI2, hf1.then0 hf2⟩

end Go.Proofs.YthidminepegnoaaGreatDoor
namespace Go.Proofs.YthidminepegnoaaGreatDoor
open Go.RowKit Go.Shelf Go.Maps Go.Sort
attribute [local go_sem] Oper.semAt_some
set_option linter.unusedVariables false
set_option linter.unusedSimpArgs false

set_option maxRecDepth 100000 in
set_option maxHeartbeats 2000000 in
theorem rsameG_any (w : World) (b c : Nat) (v z : Value) (xs : List Int) (h : Ints .u32 w b v xs) (h' : Ints .u32 w c z xs) (hl : xs.length ≤ 1000000) :
    Calls Tryz.prog 31 #[v, z] w fun e w' => e = .returned (.bool true) ∧ Fr N0 w w' := by
  obtain ⟨a, off, cap, rfl, h1, h2, h3, h4, h5, h6⟩ := h
  obtain ⟨a', off', cap', rfl, h1', h2', h3', h4', h5', h6'⟩ := h'
  have HC := Lib.hid h5; have HC' := Lib.hid h5'
  clear h5 h6 h4 h5' h6' h4'
  go_enter Tryz.func31, Tryz.ntmps31
  go_wp2
  go_loopw [5] (fun i wr => ∃ k : Nat, k ≤ xs.length ∧ i = .int .i64 k ∧ Fr N0 w wr) (fun i _ => xs.length - (intOf i).toNat)
  case atStart => exact ⟨0, Nat.zero_le _, rfl, Fr.refl _ _⟩
  case round =>
    obtain ⟨k, hk, rfl, hfr⟩ := hrel
    by_cases hlt : k < xs.length
    · obtain rfl := h3 (by omega)
      obtain rfl := h3' (by omega)
      have e1 := hfr.cell id (HC.out k hlt)
      have e2 := hfr.cell id (HC'.out k hlt)
      obtain ⟨x, hx⟩ : ∃ x, xs[k] = x := ⟨_, rfl⟩
      rw [hx] at e1 e2
      have hki : (k : Int) < (xs.length : Int) := by omega
      clear hx
      go_wp2
      all_goals try (go_quiet (fail); go_wp2)
      go_roundw
      case rel => exact ⟨k + 1, by omega, by go_num, by first | exact hfr | exact hfr.drewN _⟩
      case measure => simp [intOf]; omega
    · go_wp2
      go_ret
      exact ⟨rfl, hfr⟩

set_option maxRecDepth 100000 in
set_option maxHeartbeats 2000000 in
theorem eq3_any (w : World) (b c : Nat) (v z : Value) (xs : List Int) (h : Ints .u32 w b v xs) (h' : Ints .u32 w c z xs) (hl : xs.length ≤ 1000000) :
    Calls Tryz.prog 61 #[v, z] w fun e w' => e = .returned (.bool true) ∧ Fr N0 w w' := by
  obtain ⟨a, off, cap, rfl, h1, h2, h3, h4, h5, h6⟩ := h
  obtain ⟨a', off', cap', rfl, h1', h2', h3', h4', h5', h6'⟩ := h'
  have HC := Lib.hid h5; have HC' := Lib.hid h5'
  clear h5 h6 h4 h5' h6' h4'
  go_enter Tryz.func61, Tryz.ntmps61
  go_wp2
  go_loopw [13] (fun i wr => ∃ k : Nat, k ≤ xs.length ∧ i = .int .i64 k ∧ Fr N0 w wr) (fun i _ => xs.length - (intOf i).toNat)
  case atStart => exact ⟨0, Nat.zero_le _, rfl, Fr.refl _ _⟩
  case round =>
    obtain ⟨k, hk, rfl, hfr⟩ := hrel
    by_cases hlt : k < xs.length
    · obtain rfl := h3 (by omega)
      obtain rfl := h3' (by omega)
      have e1 := hfr.cell id (HC.out k hlt)
      have e2 := hfr.cell id (HC'.out k hlt)
      obtain ⟨x, hx⟩ : ∃ x, xs[k] = x := ⟨_, rfl⟩
      rw [hx] at e1 e2
      have hki : (k : Int) < (xs.length : Int) := by omega
      clear hx
      go_wp2
      all_goals try (go_quiet (fail); go_wp2)
      go_roundw
      case rel => exact ⟨k + 1, by omega, by go_num, by first | exact hfr | exact hfr.drewN _⟩
      case measure => simp [intOf]; omega
    · go_wp2
      go_ret
      exact ⟨rfl, hfr⟩

set_option maxRecDepth 100000 in
set_option maxHeartbeats 2000000 in
theorem sameW_any (w : World) (b c : Nat) (v z : Value) (xs : List Wr) (h : Wrs w b v xs) (h' : Wrs w c z xs) (hl : xs.length ≤ 1000000) :
    Calls Tryz.prog 19 #[v, z] w fun e w' => e = .returned (.bool true) ∧ Fr N0 w w' := by
  obtain ⟨a, off, cap, rfl, h1, h2, h3, h4, h5⟩ := h
  obtain ⟨a', off', cap', rfl, h1', h2', h3', h4', h5'⟩ := h'
  have HC := Lib.hid h5; have HC' := Lib.hid h5'
  clear h5 h4 h5' h4'
  go_enter Tryz.func19, Tryz.ntmps19
  go_wp2
  go_loopw [5] (fun i wr => ∃ k : Nat, k ≤ xs.length ∧ i = .int .i64 k ∧ Fr N0 w wr) (fun i _ => xs.length - (intOf i).toNat)
  case atStart => exact ⟨0, Nat.zero_le _, rfl, Fr.refl _ _⟩
  case round =>
    obtain ⟨k, hk, rfl, hfr⟩ := hrel
    by_cases hlt : k < xs.length
    · obtain rfl := h3 (by omega)
      obtain rfl := h3' (by omega)
      obtain ⟨f0, f1, f2, f3, f4, f5, f6, f7⟩ := wr_cells (W := w) (HC.out k hlt)
      obtain ⟨g0, g1, g2, g3, g4, g5, g6, g7⟩ := wr_cells (W := w) (HC'.out k hlt)
      replace f0 := hfr.cell id f0; replace g0 := hfr.cell id g0; replace f1 := hfr.cell id f1; replace g1 := hfr.cell id g1; replace f2 := hfr.cell id f2; replace g2 := hfr.cell id g2; replace f3 := hfr.cell id f3; replace g3 := hfr.cell id g3; replace f4 := hfr.cell id f4; replace g4 := hfr.cell id g4; replace f5 := hfr.cell id f5; replace g5 := hfr.cell id g5; replace f6 := hfr.cell id f6; replace g6 := hfr.cell id g6; replace f7 := hfr.cell id f7; replace g7 := hfr.cell id g7
      obtain ⟨x, hx⟩ : ∃ x, xs[k] = x := ⟨_, rfl⟩
      simp only [hx] at f0 f1 f2 f3 f4 f5 f6 f7 g0 g1 g2 g3 g4 g5 g6 g7
      have hki : (k : Int) < (xs.length : Int) := by omega
      clear hx
      go_wp2
      all_goals try (go_quiet (fail); go_wp2)
      go_roundw
      case rel => exact ⟨k + 1, by omega, by go_num, by first | exact hfr | exact hfr.drewN _⟩
      case measure => simp [intOf]; omega
    · go_wp2
      go_ret
      exact ⟨rfl, hfr⟩

set_option maxRecDepth 100000 in
set_option maxHeartbeats 1000000 in
theorem sameN_nil (w : World) : Calls Tryz.prog 73 #[.slice none 0 0, .slice none 0 0] w fun e w' => e = .returned (.bool true) ∧ Fr N0 w w' := by
  go_enter Tryz.func73, Tryz.ntmps73
  go_wp2
  go_loopw [5] (fun i wr => i = .int .i64 0 ∧ Fr N0 w wr) (fun i _ => 0)
  case atStart => exact ⟨rfl, Fr.refl _ _⟩
  case round =>
    obtain ⟨rfl, hfr⟩ := hrel
    go_wp2
    go_ret
    exact ⟨rfl, hfr⟩

set_option maxRecDepth 100000 in
set_option maxHeartbeats 1000000 in
theorem sameC_nil (w : World) : Calls Tryz.prog 74 #[.slice none 0 0, .slice none 0 0] w fun e w' => e = .returned (.bool true) ∧ Fr N0 w w' := by
  go_enter Tryz.func74, Tryz.ntmps74
  go_wp2
  go_loopw [5] (fun i wr => i = .int .i64 0 ∧ Fr N0 w wr) (fun i _ => 0)
  case atStart => exact ⟨rfl, Fr.refl _ _⟩
  case round =>
    obtain ⟨rfl, hfr⟩ := hrel
    go_wp2
    go_ret
    exact ⟨rfl, hfr⟩

end Go.Proofs.YthidminepegnoaaGreatDoor
