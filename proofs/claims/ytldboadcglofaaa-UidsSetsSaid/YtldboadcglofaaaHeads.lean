/- The heap's methods: Len, Less, Swap, Push, Pop of the heads, and how an interface finds them. Conditions: at most 2^40 heads. -/
import Derived.Test.YtldboadcglofaaaSeqs
import Derived.Test.YtldboadcglofaaaAdd
import Derived.Deep.RegionWith
import Derived.Laws.EntriesVeiled
import Derived.Deep.RegionLaw
namespace Go.Proofs.Ytldboadcglofaaa
open Go.RowKit Go.Shelf
attribute [local go_sem] Oper.semAt_some
set_option linter.unusedVariables false
set_option linter.unusedSimpArgs false

theorem meth_value (name : String) (f : Nat) (hb : Nat) (W : World) (v : Value) (h : W.cell? ⟨hb, 0, none⟩ = some v)
    (hm : (Array.find? (fun x => x.name == name) Try.t110.methods).map (fun m => (m.path, m.func)) = some (#[], some (f, false))) :
    (method 245 110 (.pointer (some ⟨hb, 0, none⟩)) name).run Try.prog W = .ok (f, v) W := by
  obtain ⟨m, hm, e⟩ := Option.map_eq_some_iff.1 hm
  simp only [Prod.mk.injEq] at e
  obtain ⟨e1, e2⟩ := e
  unfold method
  go_simp
  have hl : (loadVar 107 ⟨hb, 0, none⟩).run Try.prog W = .ok v W := by
    unfold loadVar
    have ha : (isAgg 107).run Try.prog W = .ok false W := by kernel_rfl
    rw [Sem.run_bind, ha]
    simp [Result.andThen, load, Sem.run, h]
  have hf : (follow [] 110 (Place.val (Value.pointer (some ⟨hb, 0, none⟩)))).run Try.prog W = .ok (110, Place.val (Value.pointer (some ⟨hb, 0, none⟩))) W := rfl
  have hr : ∀ s, (receiverAt 110 (Place.val (Value.pointer (some ⟨hb, 0, none⟩))) false (some s)).run Try.prog W = .ok v W := fun s => by
    unfold receiverAt
    go_simp
    have g1 : (Place.get 110 (Place.val (Value.pointer (some ⟨hb, 0, none⟩)))).run Try.prog W = .ok (.pointer (some ⟨hb, 0, none⟩)) W := rfl
    have g2 : (Builtin.ssaWrapNilChk_ #[110] 110 #[.pointer (some ⟨hb, 0, none⟩), strVal "", strVal s]).run Try.prog W = .ok (.pointer (some ⟨hb, 0, none⟩)) W := rfl
    rw [g1]
    simp only [Result.andThen, g2, Sem.run_pure, h]
  rw [hf]
  simp only [Result.andThen, hr]

theorem meth_len (hb : Nat) (W : World) (v : Value) (h : W.cell? ⟨hb, 0, none⟩ = some v) : (method 245 110 (.pointer (some ⟨hb, 0, none⟩)) "Len").run Try.prog W = .ok (108, v) W :=
  meth_value _ _ _ _ _ h (by kernel_rfl)
theorem meth_less (hb : Nat) (W : World) (v : Value) (h : W.cell? ⟨hb, 0, none⟩ = some v) : (method 245 110 (.pointer (some ⟨hb, 0, none⟩)) "Less").run Try.prog W = .ok (109, v) W :=
  meth_value _ _ _ _ _ h (by kernel_rfl)
theorem meth_swap (hb : Nat) (W : World) (v : Value) (h : W.cell? ⟨hb, 0, none⟩ = some v) : (method 245 110 (.pointer (some ⟨hb, 0, none⟩)) "Swap").run Try.prog W = .ok (110, v) W :=
  meth_value _ _ _ _ _ h (by kernel_rfl)
theorem meth_push (hb : Nat) (W : World) : (method 245 110 (.pointer (some ⟨hb, 0, none⟩)) "Push").run Try.prog W = .ok (112, .pointer (some ⟨hb, 0, none⟩)) W := by
  kernel_rfl
theorem meth_pop (hb : Nat) (W : World) : (method 245 110 (.pointer (some ⟨hb, 0, none⟩)) "Pop").run Try.prog W = .ok (111, .pointer (some ⟨hb, 0, none⟩)) W := by
  kernel_rfl

/-- The closure that hands out the rest of a list: its box. -/
abbrev nextFn (b : Nat) : Value := .func (.func 78) #[] #[.pointer (some ⟨b, 0, none⟩)]
/-- The cells of a row of heads. -/
def hcells : List (Int × Nat) → List Value
  | [] => []
  | p :: H => .int .u64 p.1 :: nextFn p.2 :: hcells H

theorem hcells_length : ∀ H, (hcells H).length = 2 * H.length
  | [] => rfl
  | p :: H => by simp only [hcells, List.length_cons, hcells_length H]; omega
theorem hcells_get0 : ∀ (H : List (Int × Nat)) (i : Nat) (h : i < H.length), (hcells H)[i * 2]? = some (.int .u64 H[i].1)
  | p :: H, 0, _ => rfl
  | p :: H, i + 1, h => by
    rw [show (i + 1) * 2 = i * 2 + 1 + 1 by omega]
    simp only [hcells, List.getElem?_cons_succ, List.getElem_cons_succ]
    exact hcells_get0 H i (by simp at h; omega)
theorem hcells_get1 : ∀ (H : List (Int × Nat)) (i : Nat) (h : i < H.length), (hcells H)[i * 2 + 1]? = some (nextFn H[i].2)
  | p :: H, 0, _ => rfl
  | p :: H, i + 1, h => by
    rw [show (i + 1) * 2 + 1 = i * 2 + 1 + 1 + 1 by omega]
    simp only [hcells, List.getElem?_cons_succ, List.getElem_cons_succ]
    exact hcells_get1 H i (by simp at h; omega)
theorem hcells_set0 : ∀ (H : List (Int × Nat)) (i : Nat) (u : Int) (h : i < H.length), (hcells H).set (i * 2) (.int .u64 u) = hcells (H.set i (u, H[i].2))
  | p :: H, 0, u, _ => rfl
  | p :: H, i + 1, u, h => by
    rw [show (i + 1) * 2 = i * 2 + 1 + 1 by omega]
    simp only [hcells, List.set_cons_succ, List.getElem_cons_succ]
    rw [hcells_set0 H i u (by simp at h; omega)]
theorem hcells_set1 : ∀ (H : List (Int × Nat)) (i : Nat) (b : Nat) (h : i < H.length), (hcells H).set (i * 2 + 1) (nextFn b) = hcells (H.set i (H[i].1, b))
  | p :: H, 0, u, _ => rfl
  | p :: H, i + 1, u, h => by
    rw [show (i + 1) * 2 + 1 = i * 2 + 1 + 1 + 1 by omega]
    simp only [hcells, List.set_cons_succ, List.getElem_cons_succ]
    rw [hcells_set1 H i u (by simp at h; omega)]
theorem hcells_append : ∀ (H H' : List (Int × Nat)), hcells (H ++ H') = hcells H ++ hcells H'
  | [], _ => rfl
  | p :: H, H' => by simp only [List.cons_append, hcells, hcells_append H H']
theorem hcells_take : ∀ (H : List (Int × Nat)) (k : Nat), (hcells H).take (k * 2) = hcells (H.take k)
  | [], k => by simp [hcells]
  | p :: H, 0 => by simp [hcells]
  | p :: H, k + 1 => by
    rw [show (k + 1) * 2 = k * 2 + 1 + 1 by omega]
    simp only [hcells, List.take_succ_cons, hcells_take H k]

/-- A row of heads that is owned. -/
def HRow (W : World) (base : Nat) (v : Value) (H : List (Int × Nat)) : Prop := W.ownsRow base 112 2 v H.length (hcells H)

theorem HRow.fr {w w' : World} {base : Nat} {v : Value} {H : List (Int × Nat)} {T : Nat → Prop} (h : HRow w base v H) (hf : Fr T w w') (ht : ∀ k, v.ownBlock = some k → ¬ T k) : HRow w' base v H :=
  ownsRow_same h fun g hg => hf.at (ht g hg) (lt_of_block (ownsRow_elem h hg).choose_spec)
theorem HRow.form {W : World} {base : Nat} {v : Value} {H : List (Int × Nat)} (h : HRow W base v H) (h0 : 0 < H.length) : ∃ g cap, v = .slice (some ⟨g, 0, none⟩) H.length cap := by
  rcases h.2 with ⟨_, e⟩ | ⟨g, cap, cur, e, _⟩
  · omega
  · exact ⟨g, cap, e⟩
theorem HRow.cells {W : World} {base g n cap : Nat} {H : List (Int × Nat)} (h : HRow W base (.slice (some ⟨g, 0, none⟩) n cap) H) (hn : n = H.length) (i : Nat) (hi : i < H.length) :
    W.cell? ⟨g, i * 2, none⟩ = some (.int .u64 H[i].1) ∧ W.cell? ⟨g, i * 2 + 1, none⟩ = some (nextFn H[i].2) := by
  subst hn
  exact ⟨by rw [h.cellAt _ (by omega), hcells_get0 H i hi], by rw [h.cellAt _ (by omega), hcells_get1 H i hi]⟩

set_option maxHeartbeats 1000000 in
theorem hlen_any (a : Option Addr) (n cap : Nat) (w : World) : Calls Try.prog 108 #[.slice a n cap] w fun e w' => e = .returned (.int .i64 n) ∧ w = w' := by
  go_enter Try.func108, Try.ntmps108
  go_wp2
  go_ret
  exact ⟨rfl, rfl⟩

set_option maxRecDepth 100000 in
set_option maxHeartbeats 1000000 in
theorem hless_any (w : World) (base : Nat) (v : Value) (H : List (Int × Nat)) (h : HRow w base v H) (i k : Nat) (hi : i < H.length) (hk : k < H.length) :
    Calls Try.prog 109 #[v, .int .i64 i, .int .i64 k] w fun e w' => e = .returned (.bool (decide (H[i].1 < H[k].1))) ∧ Fr N0 w w' := by
  obtain ⟨g, cap, rfl⟩ := h.form (by omega)
  obtain ⟨c1, _⟩ := h.cells rfl i hi
  obtain ⟨c2, _⟩ := h.cells rfl k hk
  obtain ⟨n, hn⟩ : ∃ n, H.length = n := ⟨_, rfl⟩
  obtain ⟨x, hx⟩ : ∃ x, H[i].1 = x := ⟨_, rfl⟩
  obtain ⟨y, hy⟩ : ∃ x, H[k].1 = x := ⟨_, rfl⟩
  rw [hx] at c1; rw [hy] at c2; rw [hn] at hi hk
  rw [hx, hy, hn]
  have i1 : (0 : Int) ≤ (i : Int) := by omega
  have i2 : (i : Int) < (n : Int) := by omega
  have i3 : (0 : Int) ≤ (k : Int) := by omega
  have i4 : (k : Int) < (n : Int) := by omega
  clear h hx hy hn hi hk
  go_enter Try.func109, Try.ntmps109
  go_wp2
  go_quiet (fail)
  go_wp2
  go_ret
  exact ⟨by simp, (Fr.refl _ _).drewN _⟩

theorem HRow.set {W : World} {base g n cap : Nat} {H : List (Int × Nat)} (h : HRow W base (.slice (some ⟨g, 0, none⟩) n cap) H) (hn : n = H.length) (i : Nat) (hi : i < H.length) (q : Int × Nat) :
    HRow ((W.setCell ⟨g, i * 2, none⟩ (.int .u64 q.1)).setCell ⟨g, i * 2 + 1, none⟩ (nextFn q.2)) base (.slice (some ⟨g, 0, none⟩) n cap) (H.set i q) := by
  subst hn
  have h1 := (World.ownsRow.stored h (i * 2) (.int .u64 q.1)).1
  rw [hcells_set0 H i q.1 hi] at h1
  have h2 := (World.ownsRow.stored h1 (i * 2 + 1) (nextFn q.2)).1
  have hl : i < (H.set i (q.1, H[i].2)).length := by simpa using hi
  rw [hcells_set1 _ i q.2 hl] at h2
  simp only [List.getElem_set_self, List.set_set] at h2
  unfold HRow
  rw [List.length_set]
  exact h2
theorem HRow.set1 {W : World} {base g n cap : Nat} {H : List (Int × Nat)} (h : HRow W base (.slice (some ⟨g, 0, none⟩) n cap) H) (hn : n = H.length) (i : Nat) (hi : i < H.length) (u : Int) :
    HRow (W.setCell ⟨g, i * 2, none⟩ (.int .u64 u)) base (.slice (some ⟨g, 0, none⟩) n cap) (H.set i (u, H[i].2)) := by
  subst hn
  have h1 := (World.ownsRow.stored h (i * 2) (.int .u64 u)).1
  rw [hcells_set0 H i u hi] at h1
  unfold HRow
  rw [List.length_set]
  exact h1

theorem fr_set2 {T : Nat → Prop} {A B : World} (h : Fr T A B) (g i : Nat) (q : Int × Nat) (ht : T g) : Fr T A ((B.setCell ⟨g, i * 2, none⟩ (.int .u64 q.1)).setCell ⟨g, i * 2 + 1, none⟩ (nextFn q.2)) :=
  (h.setCell (p := ⟨g, i * 2, none⟩) (.inl ht) _).setCell (p := ⟨g, i * 2 + 1, none⟩) (.inl ht) _

def swapH (H : List (Int × Nat)) (i k : Nat) : List (Int × Nat) := match H[i]?, H[k]? with
  | some p, some q => (H.set i q).set k p
  | _, _ => H

set_option maxRecDepth 100000 in
set_option maxHeartbeats 1000000 in
theorem hswap_any (w : World) (base : Nat) (v : Value) (H : List (Int × Nat)) (h : HRow w base v H) (i k : Nat) (hi : i < H.length) (hk : k < H.length) :
    Calls Try.prog 110 #[v, .int .i64 i, .int .i64 k] w fun e w' => (∃ u, e = .returned u) ∧ HRow w' base v (swapH H i k) ∧ Fr (fun q => v.ownBlock = some q) w w' := by
  obtain ⟨g, cap, rfl⟩ := h.form (by omega)
  obtain ⟨c1, d1⟩ := h.cells rfl i hi
  obtain ⟨c2, d2⟩ := h.cells rfl k hk
  have f1 := h.frozenAt (i * 2)
  have f2 := h.frozenAt (i * 2 + 1)
  have f3 := h.frozenAt (k * 2)
  have f4 := h.frozenAt (k * 2 + 1)
  obtain ⟨n, hn⟩ : ∃ n, H.length = n := ⟨_, rfl⟩
  obtain ⟨x, hx⟩ : ∃ x, H[i] = x := ⟨_, rfl⟩
  obtain ⟨y, hy⟩ : ∃ x, H[k] = x := ⟨_, rfl⟩
  rw [hx] at c1 d1; rw [hy] at c2 d2; rw [hn] at hi hk
  have i1 : (0 : Int) ≤ (i : Int) := by omega
  have i2 : (i : Int) < (n : Int) := by omega
  have i3 : (0 : Int) ≤ (k : Int) := by omega
  have i4 : (k : Int) < (n : Int) := by omega
  rw [hn]
  have hsw : swapH H i k = (H.set i y).set k x := by
    unfold swapH
    rw [List.getElem?_eq_getElem (by omega), List.getElem?_eq_getElem (by omega), hx, hy]
  rw [hn] at h
  have hres := (h.set hn.symm i (by omega) y).set (by simp [hn]) k (by simp; omega) x
  rw [← hsw] at hres
  have hfr : Fr (fun q => (Value.slice (some ⟨g, 0, none⟩) n cap).ownBlock = some q) w _ := fr_set2 (fr_set2 (Fr.refl (fun q => (Value.slice (some ⟨g, 0, none⟩) n cap).ownBlock = some q) w) g i y rfl) g k x rfl
  have HR := Lib.hid hres; have HFR := Lib.hid hfr
  clear hsw hres hfr
  by_cases hik : i = k
  · subst hik
    obtain rfl : x = y := hx.symm.trans hy
    clear h hx hy hn hi hk
    go_enter Try.func110, Try.ntmps110
    go_wp2
    go_region_with (fail)
    all_goals go_wp2
    all_goals go_end0
    all_goals exact ⟨⟨_, rfl⟩, World.ownsRow.drew HR.out, Fr.drew HFR.out⟩
  · have n1 : ¬ i * 2 = k * 2 := by omega
    have n2 : ¬ i * 2 = k * 2 + 1 := by omega
    have n3 : ¬ i * 2 + 1 = k * 2 := by omega
    have n4 : ¬ i * 2 + 1 = k * 2 + 1 := by omega
    have m1 : ¬ k * 2 = i * 2 := by omega
    have m2 : ¬ k * 2 + 1 = i * 2 := by omega
    have m3 : ¬ k * 2 = i * 2 + 1 := by omega
    have m4 : ¬ k * 2 + 1 = i * 2 + 1 := by omega
    clear h hx hy hn hi hk
    go_enter Try.func110, Try.ntmps110
    go_wp2
    go_region_with (fail)
    all_goals go_wp2
    all_goals go_end0
    all_goals exact ⟨⟨_, rfl⟩, World.ownsRow.drew HR.out, Fr.drew HFR.out⟩

theorem assert_head (v : Value) (W : World) : (Instr.typeAssert (.iface 112 v) 20 112 false).run Try.prog W = .ok v W := by
  kernel_rfl
theorem infoHead : (Try.prog.info? 112).map (fun i => (i.zero, i.size, i.bytes)) = some (some (.agg #[.int .u64 0, .nilFunc]), 2, 16) := by kernel_rfl

set_option maxRecDepth 100000 in
set_option maxHeartbeats 1000000 in
theorem hpush_any (w : World) (base hb : Nat) (v : Value) (H : List (Int × Nat)) (h : HRow w base v H) (hbx : w.heap[hb]? = some (.cells #[v] 107 (0, 0))) (hbase : base ≤ w.heap.size) (hl : H.length ≤ 1099511627776) (p : Int × Nat) :
    Calls Try.prog 112 #[.pointer (some ⟨hb, 0, none⟩), .iface 112 (.agg #[.int .u64 p.1, nextFn p.2])] w fun e w' => (∃ u, e = .returned u) ∧ ∃ v', HRow w' base v' (H ++ [p]) ∧ w'.heap[hb]? = some (.cells #[v'] 107 (0, 0)) ∧
      (∀ q, v'.ownBlock = some q → v.ownBlock = some q ∨ w.heap.size ≤ q) ∧ Fr (fun q => q = hb ∨ v.ownBlock = some q) w w' := by
  have k1 := cell_of_one hbx
  have f1 := free_of_one hbx
  have k1a : (w.alloc (.cells #[.int .u64 p.1, nextFn p.2] 112)).cell? ⟨hb, 0, none⟩ = some v := ((Fr.refl N0 w).alloc _).cell id k1
  obtain ⟨i0, hi, hz0, hz1, hz2⟩ := info_parts infoHead
  have hne : v.ownBlock ≠ some hb := fun e => by obtain ⟨c, hc⟩ := ownsRow_elem h e; rw [hbx] at hc; simp at hc
  have hkp : ∀ o w1, ((w.alloc o).drew).grownBy w1 v.ownBlock → w1.heap[hb]? = some (.cells #[v] 107 (0, 0)) := fun o w1 hg =>
    (((hg.block hb (by show hb < (w.alloc o).heap.size; have := lt_of_block hbx; simp; omega) (fun e => hne e.symm)).trans (Below.heap_alloc _ _ _ (lt_of_block hbx))).trans hbx)
  have HKP := Lib.hid hkp; have HH := Lib.hid h
  have hown0 : ∀ q, v.ownBlock = some q → q ≠ hb := fun q hq e => hne (by rw [hq, e])
  have HO := Lib.hid hown0
  clear hkp hne hbx h hown0
  have hta := assert_head (.agg #[.int .u64 p.1, nextFn p.2])
  go_enter Try.func112, Try.ntmps112
  go_wp2
  go_region_law (first
    | (go_loud (refine step_append_lies _ rfl _ _ 107 rfl base 112 i0 (.agg #[.int .u64 0, .nilFunc]) 2 16 Try.underlying107 hi hz0 hz1 hz2 rfl (by decide) v H.length (hcells H) rfl (World.ownsRow.drew (World.ownsRow.alloc HH.out _)) ⟨w.heap.size, 0, none⟩ 1 1 [.int .u64 p.1, nextFn p.2] rfl rfl (World.news_of_block (cs := #[.int .u64 p.1, nextFn p.2]) (t := 112) (fr := (0, 0)) (heap_alloc_new w _)) (by simp [Value.oneCell']) (by omega) (by unfold maxLen; omega) (by omega) (by simp [World.drew]; omega) (w.heap.size + 1) (by simp [World.drew]) ?_); intro g gc w1 hown hgrow hfresh hlt; have b1 := cell_of_one (HKP.out _ w1 hgrow); have b2 := free_of_one (HKP.out _ w1 hgrow)))
  all_goals go_wp2
  all_goals go_end0
  all_goals
    have hlb := lt_of_cell k1
    have hgb : g ≠ hb := fun e => by
      rcases hfresh with h1 | h1
      · exact HO.out g h1 e
      · simp only at hlb; omega
    refine ⟨⟨_, rfl⟩, _, ?_, one_setCell (HKP.out _ w1 hgrow), ?_, ?_⟩
    · unfold HRow
      rw [hcells_append, List.length_append]
      exact ownsRow_same hown fun q hq => by
        simp [Value.ownBlock] at hq; subst hq; exact Below.heap_setCell _ _ _ _ hgb
    · intro q hq
      simp [Value.ownBlock] at hq; subst hq
      rcases hfresh with h1 | h1
      · exact .inl h1
      · right; omega
    · exact ((((Fr.refl _ w).alloc _).drew).grown hgrow fun k e => .inl (.inr e)).setCell (p := ⟨hb, 0, none⟩) (.inl (.inl rfl)) _

end Go.Proofs.Ytldboadcglofaaa
