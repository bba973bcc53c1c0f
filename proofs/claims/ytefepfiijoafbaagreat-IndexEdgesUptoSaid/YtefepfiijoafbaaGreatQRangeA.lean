/- A region that draws its order, in the body of a range over a function: by the plain walk of the held worlds. A range over a function whose loop variable lies in memory: the assignment lays a block. -/
import Derived.Deep.RegionHeld3
import Derived.OrdersIn
import Derived.Test.YtefepfiijoafbaaGreatQBase
namespace Go.Proofs.YtefepfiijoafbaaGreat
open Go.RowKit Go.Shelf
set_option linter.unusedVariables false
set_option linter.unusedSimpArgs false

/-- No operation defers. -/
def noDefer (ops : Array Oper) : Bool := ops.all fun o => match o.op with | .defer _ => false | _ => true
theorem noDefer_at {ops : Array Oper} (h : noDefer ops = true) {i : Nat} {o : Oper} (hi : ops[i]? = some o) : ∀ c, o.op ≠ .defer c := fun c e => by
  obtain ⟨hl, he⟩ := Array.getElem?_eq_some_iff.1 hi
  have := Array.all_eq_true.1 h i hl
  rw [he, e] at this
  cases this
theorem uponIn_of_upon {l n : Nat} {P : Program} {o : Oper} {a : Act} {next : Act → World → Prop} {Q : Exit → Act → World → Prop} {r : Result Next} (h : o.upon P a next Q r) : o.uponIn (Fence.wide.inRound l) n P a next Q r := by
  have hd : (Fence.wide.inRound l).depth.isSome = true → 1 ≤ n := fun h => absurd h (by simp [Fence.wide])
  cases r with
  | ok x w' =>
    cases x with
    | value v => exact h
    | skip => exact h
    | defer d => exact h
    | enter f args => exact ⟨hd, CallsIn.inRound l (callsIn_wide.2 h)⟩
    | row row args => exact ⟨hd, fun c cs _ => let ⟨v, w', r, s⟩ := h c cs; ⟨v, w', r, stepsIn_wide.2 s⟩⟩
    | _ => exact (h : False).elim
  | halt x w' =>
    cases x with
    | panic v => exact h
    | _ => exact h.elim
theorem wpOpIn_of_wpOp {l n : Nat} {P : Program} {ops : Array Oper} {Q : Exit → Act → World → Prop} (hQ : ¬ LetsOut Q) (hd : noDefer ops = true) {i : Nat} {K : Act → World → Prop} {a : Act} {w : World} (h : wpOp P ops Q i K a w) : wpOpIn (Fence.wide.inRound l) n P ops Q i K a w := by
  unfold wpOp at h
  unfold wpOpIn
  split
  · rename_i hi; rw [hi] at h; exact h
  · rename_i o hi
    rw [hi] at h
    simp only at h
    split
    · rename_i hw
      rw [if_pos hw] at h
      rcases h with h | h
      · refine ⟨fun _ _ => trivial, ?_⟩
        have := uponIn_of_upon (l := l) (n := n) h
        rwa [show (o.semAt (Fence.wide.inRound l).round a.eval) = execOp a.eval o from Oper.semAt_some l _ _ (noDefer_at hd hi)]
      · exact absurd h.2 hQ
    · rename_i hw
      rw [if_neg hw] at h
      exact ⟨fun _ _ => trivial, h⟩
theorem wpAnyIn_of_wpAny {l n : Nat} {P : Program} {md : Region.Mode} {ops : Array Oper} {Q : Exit → Act → World → Prop} (hQ : ¬ LetsOut Q) (hd : noDefer ops = true) : ∀ (fuel : Nat) (listed : Array Bool) (a : Act) (w : World), wpAny P md ops Q fuel listed a w → wpAnyIn (Fence.wide.inRound l) n P md ops Q fuel listed a w
  | 0, _, _, _, h => h
  | fuel + 1, listed, a, w, h => ⟨h.1, fun i hi => wpOpIn_mono (fun a' w' h' => wpAnyIn_of_wpAny hQ hd fuel _ _ _ h') (wpOpIn_of_wpOp hQ hd (h.2 i hi))⟩
/-- In a round. -/
theorem wpIn_region_held_round {l n id : Nat} {P : Program} {ops : Array Oper} {Q : Exit → Act → World → Prop} {a : Act} {w : World} {S : World → Prop} (hm : P.follows .mixedOrders = true) (hQ : ¬ LetsOut Q) (hd : noDefer ops = true) (hS : S w.drew)
    (h : S w.drew → wpAnyH P .any ops Q S ops.size (Array.replicate ops.size false) a w.drew) : (Code.region id ops true).wpIn (Fence.wide.inRound l) n P Q a w :=
  wpIn_region_any hm (wpAnyIn_of_wpAny hQ hd _ _ _ _ (wpAny_of_held _ _ _ _ (h hS)))
end Go.Proofs.YtefepfiijoafbaaGreat
namespace Go.Proofs.YtefepfiijoafbaaGreat
open Go.RowKit Go.Shelf
set_option linter.unusedVariables false
set_option linter.unusedSimpArgs false

theorem wp_rangeA {α : Type} {P : Program} {g : Operand} {ps : Array Tmp} {assign body : Code} {Q : Exit → Act → World → Prop} {a : Act} {w : World} {gf : Nat} {lb : Array Value}
    {encs : α → Array Value} {R : Nat → Prop} {xs : List α} {w0 : World}
    (hg : a.eval g = .func (.func gf) #[] lb) (eg : ∀ args w, (callFunc gf args).run P w = .ok (.enter gf args) w)
    (hseq : SeqOf P gf lb encs R xs w0) (hb0 : SameOn R w0 w) (hps : ∀ x, (encs x).size = ps.size)
    (S0 : Nat → Prop) (hS0 : ∀ k, S0 k → ¬ R k ∧ k < w.heap.size) (hR : ∀ k, R k → k < w.heap.size)
    (I : (Nat → Prop) → List α → World → Prop) (Ix : Code → (Nat → Prop) → List α → World → Prop) (hI : Stable I) (hIx : ∀ c, Stable (Ix c)) (h0 : I S0 [] w) (a₁ : α → Nat → Act) (o : α → Obj)
    (hassign : ∀ (l : Nat) (x : α) (W : World) (K : Act → World → Prop), K (a₁ x W.heap.size) (W.alloc (o x)) →
      assign.wpIn (Fence.wide.inRound l) 7 P (Exit.then K (fun _ _ _ => False)) { tmps := (ps.zip (encs x)).foldl (fun t (p, v) => t.setIfInBounds p v) a.tmps, defers := [] } W)
    (hbody : ∀ (l B : Nat) (S : Nat → Prop) (pre : List α) (x : α) (W : World), W.heap[B]? = some (o x) → ¬ S B → I S pre W → (pre ++ [x]) <+: xs → SameOn R w W → (∀ k, S k → ¬ R k ∧ k < W.heap.size) →
      body.wpIn (Fence.wide.inRound l) 7 P (fpPost I Ix S (pre ++ [x]) W) (a₁ x B) W)
    (hdone : ∀ (D : Nat) (S : Nat → Prop) (W : World), I S xs W → Fr S0 w W → Grows S0 S w W → W.heap[D]? = some (.deferred (some [])) → w.heap.size ≤ D → ¬ S D →
      Q .normal { a with defers := { target := .collected D, args := #[] } :: a.defers } W)
    (hstop : ∀ (D : Nat) (c : Code) (S : Nat → Prop) (pre : List α) (W : World), pre <+: xs → Ix c S pre W → Fr S0 w W → Grows S0 S w W → W.heap[D]? = some (.deferred (some [])) → w.heap.size ≤ D → ¬ S D →
      c.wp P Q { a with defers := { target := .collected D, args := #[] } :: a.defers } W) :
    (Code.rangeFunc g ps assign body).wp P Q a w := by
  refine (wpIn_wide (n := 0)).1 (wpIn_rangeFunc ?_)
  intro fn hfn
  rw [show Fence.wide.round = none from rfl]
  obtain ⟨rec, hrec⟩ : ∃ rec : LoopState → Option Code → Loop, rec = fun st pe => { state := st, pending := pe, fn, tmps := a.tmps, params := ps, assign, body, defers := w.heap.size } := ⟨_, rfl⟩
  obtain ⟨L, hL⟩ : ∃ L, L = w.heap.size := ⟨_, rfl⟩
  obtain ⟨W1, hW1⟩ : ∃ W1, (w.alloc (.deferred (some []))).alloc (.loop (rec .ready none)) = W1 := ⟨_, rfl⟩
  have hz1 : W1.heap.size = L + 2 := by rw [← hW1, hL]; simp
  have hL1 : W1.heap[L + 1]? = some (.loop (rec .ready none)) := by
    rw [← hW1, hL]; have := World.alloc_heap_new (w.alloc (.deferred (some []))) (.loop (rec .ready none)); rwa [World.size_alloc] at this
  have hK1 : W1.heap[L]? = some (.deferred (some [])) := by
    rw [← hW1, hL]; exact (Below.heap_alloc _ _ _ (by simp)).trans (World.alloc_heap_new w _)
  have hf1 : Fr N0 w W1 := by rw [← hW1]; exact ((Fr.refl _ _).alloc _).alloc _
  have hI1 : I S0 [] W1 := hI _ _ _ _ h0 (hf1.same fun _ _ h => h)
  have hS0L : ∀ k, S0 k → k ≠ L ∧ k ≠ L + 1 := fun k hk => by have := (hS0 k hk).2; omega
  refine ⟨w.heap.size + 1, [{ target := .collected w.heap.size, args := #[] }], W1, { target := .fn (.func gf) lb, args := #[.func (.yield (w.heap.size + 1)) #[] #[]] }, W1, gf,
    #[.func (.yield (w.heap.size + 1)) #[] #[]] ++ lb, W1, ?_, ?_, ?_, ?_, fun h => absurd h (by simp [Fence.wide]), ?_⟩
  · rw [← hW1, hrec]; exact run_enterLoop_outer _ _ _ _ _
  · simp only [resolve, hg]
    simp [go_sem]
  · intro f' _; trivial
  · simp [invoke, go_sem, eg]
  · rw [← hL]
    refine callsIn_wide.2 ?_
    refine (hseq (L + 1)
      (fun S pre W => I (fun k => S k ∧ k ≠ L ∧ k ≠ L + 1) pre W ∧ S L ∧ S (L + 1) ∧ W.heap[L + 1]? = some (.loop (rec .ready none)) ∧ W.heap[L]? = some (.deferred (some [])))
      (fun S pre W => ∃ c, Ix c (fun k => S k ∧ k ≠ L ∧ k ≠ L + 1) pre W ∧ S L ∧ S (L + 1) ∧ W.heap[L + 1]? = some (.loop (rec .done (some c))) ∧ W.heap[L]? = some (.deferred (some [])))
      (fun k => S0 k ∨ k = L ∨ k = L + 1) W1
      (hb0.fr hf1 (fun _ _ h => h))
      (fun k hk => by
        rcases hk with hk | hk | hk
        · exact ⟨(hS0 k hk).1, by have := (hS0 k hk).2; omega⟩
        · exact ⟨fun hr => by have := hR k hr; omega, by omega⟩
        · exact ⟨fun hr => by have := hR k hr; omega, by omega⟩)
      (fun S pre A B hj hs => by
        obtain ⟨hi, hl, hl1, hr, hk⟩ := hj
        exact ⟨hI _ _ _ _ hi (hs.mono fun k hk _ => hk.1), hl, hl1, (hs.block _ hl1 (lt_of_block hr)).trans hr, (hs.block _ hl (lt_of_block hk)).trans hk⟩)
      (fun S pre A B hj hs => by
        obtain ⟨c, hi, hl, hl1, hr, hk⟩ := hj
        exact ⟨c, hIx c _ _ _ _ hi (hs.mono fun k hk _ => hk.1), hl, hl1, (hs.block _ hl1 (lt_of_block hr)).trans hr, (hs.block _ hl (lt_of_block hk)).trans hk⟩)
      ?_ ⟨by rw [minus_plus hS0L]; exact hI1, .inr (.inl rfl), .inr (.inr rfl), hL1, hK1⟩).mono ?_
    · rintro S1 pre x W ⟨hi, hs, hs1, hr, hk⟩ hpre hRW hbd
      have hlt : L + 1 < W.heap.size := lt_of_block hr
      have hy := run_yield (P := P) (args := encs x) hr (by rw [hrec]; exact hps x)
      rw [hrec] at hy
      have hrA : (W.alloc (o x)).heap[L + 1]? = some (.loop (rec .ready none)) := (Below.heap_alloc _ _ _ hlt).trans hr
      have hkA : (W.alloc (o x)).heap[L]? = some (.deferred (some [])) := (Below.heap_alloc _ _ _ (by omega)).trans hk
      have hltA : L + 1 < (W.alloc (o x)).heap.size := lt_of_block hrA
      refine ⟨fn, _, assign, body, hy, roundIn_of_wpIn hfn (hassign _ x W _ ⟨_, run_beginRound hrA (by rw [hrec]), ?_⟩)⟩
      obtain ⟨Wb, hWb⟩ : ∃ Wb, (W.alloc (o x)).putObj (L + 1) (.loop { rec .ready none with state := .busy }) = Wb := ⟨_, rfl⟩
      rw [hWb]
      have hl2 : Wb.heap[L + 1]? = some (.loop { rec .ready none with state := .busy }) := by rw [← hWb]; exact World.putObj_heap_same hltA
      have hk2 : Wb.heap[L]? = some (.deferred (some [])) := by rw [← hWb]; exact (World.putObj_heap_other (by omega)).trans hkA
      have hzb : Wb.heap.size = W.heap.size + 1 := by rw [← hWb]; simp
      have hBb : Wb.heap[W.heap.size]? = some (o x) := by rw [← hWb]; exact (World.putObj_heap_other (by omega)).trans (World.alloc_heap_new W _)
      have hfb : Fr S1 W Wb := by rw [← hWb]; exact ((Fr.refl _ _).alloc _).putObj (.inl hs1) _
      have hib : I (fun k => S1 k ∧ k ≠ L ∧ k ≠ L + 1) pre Wb := hI _ _ _ _ hi (by rw [← hWb]; exact SameOn.putObj (((Fr.refl N0 W).alloc (o x)).same fun _ _ h => h) (by simp) _)
      have hRb : SameOn R w Wb := (hf1.same (fun _ _ h => h)).trans (hRW.trans (hfb.same fun k hk hs => (hbd k hs).1 hk))
      refine wpIn_mono (hbody _ W.heap.size _ pre x _ hBb (fun h => by have := (hbd _ h.1).2; omega) hib hpre hRb (fun k hk => ⟨(hbd k hk.1).1, by have := (hbd k hk.1).2; omega⟩)) ?_
      have fin : ∀ (jump : Option Code) (S' : Nat → Prop) (W3 : World), Fr (fun k => S1 k ∧ k ≠ L ∧ k ≠ L + 1) Wb W3 → Grows (fun k => S1 k ∧ k ≠ L ∧ k ≠ L + 1) S' Wb W3 →
          (Instr.endRound (L + 1) jump).run P W3 = .ok (.bool jump.isNone) (W3.putObj (L + 1) (.loop (rec (if jump.isNone then .ready else .done) jump))) ∧
          (W3.putObj (L + 1) (.loop (rec (if jump.isNone then .ready else .done) jump))).heap[L + 1]? = some (.loop (rec (if jump.isNone then .ready else .done) jump)) ∧
          (W3.putObj (L + 1) (.loop (rec (if jump.isNone then .ready else .done) jump))).heap[L]? = some (.deferred (some [])) ∧
          (∀ k, S' k → k ≠ L ∧ k ≠ L + 1) ∧
          SameOn S' W3 (W3.putObj (L + 1) (.loop (rec (if jump.isNone then .ready else .done) jump))) ∧
          Fr S1 W (W3.putObj (L + 1) (.loop (rec (if jump.isNone then .ready else .done) jump))) ∧
          Grows S1 (fun k => S' k ∨ k = L ∨ k = L + 1) W (W3.putObj (L + 1) (.loop (rec (if jump.isNone then .ready else .done) jump))) := fun jump S' W3 hf3 hg3 => by
        have hl3 := (hf3.at (k := L + 1) (by simp) (by omega)).trans hl2
        have hk3 := (hf3.at (k := L) (by simp) (by omega)).trans hk2
        have := run_endRound (P := P) jump hl3
        rw [hrec] at this ⊢
        have hne : ∀ k, S' k → k ≠ L ∧ k ≠ L + 1 := fun k hk => by
          rcases (hg3 k hk).1 with h1 | h1
          · exact h1.2
          · omega
        refine ⟨this, World.putObj_heap_same (lt_of_block hl3), (World.putObj_heap_other (by omega)).trans hk3, hne, (SameOn.refl _ _).putObj (fun h => (hne _ h).2 rfl) _, ?_, ?_⟩
        · exact (hfb.trans hf3 (fun k hk => .inl hk.1)).putObj (.inl hs1) _
        · intro k hk
          have hz3 := hf3.size
          rcases hk with hk | hk | hk
          · refine ⟨?_, by simpa using (hg3 k hk).2⟩
            rcases (hg3 k hk).1 with h1 | h1
            · exact .inl h1.1
            · exact .inr (by omega)
          · exact ⟨.inl (by rw [hk]; exact hs), by simp; omega⟩
          · exact ⟨.inl (by rw [hk]; exact hs1), by simp; omega⟩
      rintro e a3 W3 hp
      cases e with
      | normal =>
        obtain ⟨S', hi3, hf3, hg3⟩ := hp
        obtain ⟨hr', hl4, hk4, hne, hso, hfr, hgr⟩ := fin none S' W3 hf3 hg3
        exact ⟨_, _, hr', .inl ⟨rfl, _, ⟨by rw [minus_plus hne]; exact hI _ _ _ _ hi3 hso, .inr (.inl rfl), .inr (.inr rfl), hl4, hk4⟩, hfr, hgr⟩⟩
      | ret =>
        obtain ⟨S', hi3, hf3, hg3⟩ := hp
        obtain ⟨hr', hl4, hk4, hne, hso, hfr, hgr⟩ := fin (some .ret) S' W3 hf3 hg3
        exact ⟨_, _, hr', .inr ⟨rfl, _, ⟨.ret, by rw [minus_plus hne]; exact hIx _ _ _ _ _ hi3 hso, .inr (.inl rfl), .inr (.inr rfl), hl4, hk4⟩, hfr, hgr⟩⟩
      | exit id =>
        obtain ⟨S', hi3, hf3, hg3⟩ := hp
        obtain ⟨hr', hl4, hk4, hne, hso, hfr, hgr⟩ := fin (some (.exit id)) S' W3 hf3 hg3
        exact ⟨_, _, hr', .inr ⟨rfl, _, ⟨.exit id, by rw [minus_plus hne]; exact hIx _ _ _ _ _ hi3 hso, .inr (.inl rfl), .inr (.inr rfl), hl4, hk4⟩, hfr, hgr⟩⟩
      | goto t =>
        obtain ⟨S', hi3, hf3, hg3⟩ := hp
        obtain ⟨hr', hl4, hk4, hne, hso, hfr, hgr⟩ := fin (some (.goto t)) S' W3 hf3 hg3
        exact ⟨_, _, hr', .inr ⟨rfl, _, ⟨.goto t, by rw [minus_plus hne]; exact hIx _ _ _ _ _ hi3 hso, .inr (.inl rfl), .inr (.inr rfl), hl4, hk4⟩, hfr, hgr⟩⟩
      | panic ch => exact hp.elim
      | outgrown => exact hp.elim
    · rintro e W2 ⟨⟨v, rfl⟩, S2, hj, hfr2, hgr2⟩
      have hfw : Fr S0 w W2 := (hf1.mono (T' := S0) fun _ h => h.elim).trans hfr2 (fun k hk => by
        rcases hk with hk | hk | hk
        · exact .inl hk
        · exact .inr (by omega)
        · exact .inr (by omega))
      have hgw : ∀ o, Grows S0 (fun k => S2 k ∧ k ≠ L ∧ k ≠ L + 1) w (W2.putObj (L + 1) o) := fun o k hk => by
        refine ⟨?_, by simpa using (hgr2 k hk.1).2⟩
        rcases (hgr2 k hk.1).1 with (h1 | h1 | h1) | h1
        · exact .inl h1
        · exact absurd h1 hk.2.1
        · exact absurd h1 hk.2.2
        · exact .inr (by omega)
      rcases hj with ⟨hi, hl, hl1, hr, hk⟩ | ⟨pre, hpre, c, hi, hl, hl1, hr, hk⟩
      · exact ⟨none, _, by have := run_endLoop (P := P) hr (by rw [hrec]; simp); rw [hrec] at this; exact this,
          hdone L _ _ (hI _ _ _ _ hi ((SameOn.refl _ _).putObj (by simp) _)) (hfw.putObj (.inr (by omega)) _) (hgw _) ((World.putObj_heap_other (by omega)).trans hk) (by omega) (by simp)⟩
      · exact ⟨some c, _, by have := run_endLoop (P := P) hr (by rw [hrec]; simp); rw [hrec] at this; exact this,
          wpIn_wide.2 (hstop L c _ pre _ hpre (hIx c _ _ _ _ hi ((SameOn.refl _ _).putObj (by simp) _)) (hfw.putObj (.inr (by omega)) _) (hgw _) ((World.putObj_heap_other (by omega)).trans hk) (by omega) (by simp))⟩

end Go.Proofs.YtefepfiijoafbaaGreat
