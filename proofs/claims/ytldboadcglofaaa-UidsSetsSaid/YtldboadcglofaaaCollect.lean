/- slices.Collect, AppendSeq, Clip and the uids of a list as a slice.
   Condition: at most 2^44 numbers. -/
import Derived.Test.YtldboadcglofaaaOf
namespace Go.Proofs.Ytldboadcglofaaa
open Go.RowKit Go.Shelf
attribute [local go_sem] Oper.semAt_some
set_option linter.unusedVariables false

/-- v holds the numbers xs in a row that was made from n on and that may be written. -/
def Own1 (w : World) (n : Nat) (v : Value) (xs : List Int) : Prop :=
  ∃ b, n ≤ b ∧ Ints .u64 w b v xs ∧ (0 < xs.length → ∃ c, w.heap[b]? = some (.cells c 23 (0, 0)))

theorem own1_of_row {w : World} {n : Nat} {v : Value} {xs : List Int} (h : w.ownsRow n 23 1 v xs.length (xs.map (Value.int .u64))) (hw : ∀ x ∈ xs, (Lit.int .u64 x).wf = true) : Own1 w n v xs := by
  rcases h.2 with ⟨hv, hn⟩ | ⟨g, cap, cur, hv, hb, hg, hnc, hcm, hcs, htake⟩
  · have hz : xs = [] := List.eq_nil_of_length_eq_zero hn
    rw [hv, hz]
    exact ⟨n, Nat.le_refl _, Ints.nil _ _ _, by simp⟩
  · rw [hv] at h ⊢
    refine ⟨g, hb, ⟨some ⟨g, 0, none⟩, 0, cap, rfl, hnc, by unfold maxLen at hcm; omega, fun _ => rfl, by simp, fun i hi => ?_, hw⟩, fun _ => ⟨cur, hg⟩⟩
    have := h.cellAt i (by omega)
    simp [hi] at this
    simpa using this

theorem Own1.same {w w' : World} {n : Nat} {v : Value} {xs : List Int} (h : Own1 w n v xs) (hs : ∀ b, n ≤ b → b < w.heap.size → w'.heap[b]? = w.heap[b]?) : Own1 w' n v xs := by
  obtain ⟨b, h1, h2, h3⟩ := h
  have h4 : 0 < xs.length → w'.heap[b]? = w.heap[b]? := fun h0 => hs b h1 (h2.lt h0)
  exact ⟨b, h1, h2.same h4, fun h0 => by rw [h4 h0]; exact h3 h0⟩
theorem Own1.fr0 {w w' : World} {n : Nat} {v : Value} {xs : List Int} (h : Own1 w n v xs) (hs : Fr N0 w w') : Own1 w' n v xs := h.same fun b _ hl => hs.at (fun h => h) hl
theorem Own1.mono {w : World} {n n' : Nat} {v : Value} {xs : List Int} (h : Own1 w n v xs) (hn : n' ≤ n) : Own1 w n' v xs := by
  obtain ⟨b, h1, h2⟩ := h; exact ⟨b, by omega, h2⟩

set_option maxRecDepth 100000 in
set_option maxHeartbeats 1000000 in
theorem clip_any (a : Option Addr) (n cap : Nat) (w : World) (h : n ≤ cap) (hc : cap ≤ 9223372036854775807) :
    Calls Try.prog 42 #[.slice a n cap] w fun e w' => e = .returned (.slice a n n) ∧ w = w' := by
  go_enter Try.func42, Try.ntmps42
  cases a <;> (go_wp2; go_ret; exact ⟨by simp, rfl⟩)

set_option maxRecDepth 100000 in
set_option maxHeartbeats 1000000 in
theorem appseq_any (w w0 : World) (gf : FuncId) (lb : Array Value) (R : Nat → Prop) (xs : List Int) (hseq : SeqOf Try.prog gf lb enc1 R xs w0) (eg : ∀ args w, (callFunc gf args).run Try.prog w = .ok (.enter gf args) w)
    (hw0 : SameOn R w0 w) (hR : ∀ k, R k → k < w.heap.size) (hxl : xs.length ≤ 17592186044416) :
    Calls Try.prog 60 #[.slice none 0 0, .func (.func gf) #[] lb] w fun e w' => ∃ v, e = .returned v ∧ w'.ownsRow w.heap.size 23 1 v xs.length (xs.map (Value.int .u64)) ∧ Fr N0 w w' := by
  obtain ⟨i0, hi, hz0, hz1, hz2⟩ := info_parts infoU64
  refine (callsIn_wide (n := 8)).1 ?_
  refine callsIn_of_wp_marks Try.func60 rfl trivial ?_ rfl
  simp only [Try.ntmps60, List.size_toArray, List.length_cons, List.length_nil, Nat.reduceAdd, Nat.reduceSub, Array.replicate_succ, Array.replicate_zero, List.push_toArray, List.append_toArray, List.nil_append, List.cons_append]
  gi_wp2
  obtain ⟨W0, hW0⟩ : ∃ W0, w.alloc (Obj.cells #[Value.slice none 0 0] 22) = W0 := ⟨_, rfl⟩
  rw [hW0]
  have hz0' : W0.heap.size = w.heap.size + 1 := by rw [← hW0]; simp
  have hf0 : Fr N0 w W0 := by rw [← hW0]; exact (Fr.refl _ _).alloc _
  have hb0 : W0.heap[w.heap.size]? = some (.cells #[.slice none 0 0] 22 (0, 0)) := by rw [← hW0]; exact World.alloc_heap_new _ _
  clear hW0
  refine (wpIn_wide (n := 8)).2 (wp_range (encs := enc1) rfl eg hseq (hw0.fr hf0 fun _ _ h => h) (fun _ => rfl)
    (fun k => k = w.heap.size) (fun k hk => ⟨fun hr => by have := hR k hr; omega, by omega⟩) (fun k hk => by have := hR k hk; omega)
    (fun S pre W => ∃ v, S w.heap.size ∧ W.heap[w.heap.size]? = some (.cells #[v] 22 (0, 0)) ∧ W.ownsRow w.heap.size 23 1 v pre.length (pre.map (Value.int .u64)) ∧ (∀ g, v.ownBlock = some g → S g))
    (fun _ _ _ _ => False) ?stable (fun _ _ _ _ _ h _ => h) ?start
    (fun x => { tmps := #[Value.slice none 0 0, Value.func (Fn.func gf) #[] lb, Value.pointer (some { block := w.heap.size, off := 0 }),
          undef, Value.slice none 0 0, .int .u64 x, Value.func (Fn.func gf) #[] lb, .int .u64 x, undef, undef, undef, undef, undef], defers := [] }) ?assign ?body ?done ?stop)
  case stable =>
    rintro S pre A B ⟨v, h1, h2, h3, h4⟩ hs
    exact ⟨v, h1, (hs.block _ h1 (lt_of_block h2)).trans h2, ownsRow_same h3 fun g hg => by obtain ⟨c, hc⟩ := ownsRow_elem h3 hg; exact hs.block _ (h4 g hg) (lt_of_block hc), h4⟩
  case start => exact ⟨.slice none 0 0, rfl, hb0, World.ownsRow_nil _ _ _ _, by simp [Value.ownBlock]⟩
  case assign =>
    intro l x W K hK
    gi_wp2
    exact hK
  case body =>
    rintro l S pre x W ⟨v, hs1, hc1, hrow, hsg⟩ hpx hRW hbd
    have hlen : pre.length < 17592186044416 := by have := hpx.length_le; simp at this; omega
    have k1 := cell_of_one hc1
    have hBlt := lt_of_block hc1
    have hne : v.ownBlock ≠ some w.heap.size := fun e => by obtain ⟨c, hc⟩ := ownsRow_elem hrow e; rw [hc1] at hc; simp at hc
    have hkp : ∀ w1, (W.alloc (.cells #[.int .u64 x] 23)).grownBy w1 v.ownBlock → w1.heap[w.heap.size]? = some (.cells #[v] 22 (0, 0)) := fun w1 hg =>
      ((hg.block _ (by simp; omega) (fun e => hne e.symm)).trans (Below.heap_alloc _ _ _ hBlt)).trans hc1
    have HKP := Lib.hid hkp; clear hkp
    gi_wp2_with (gi_at_builtin; refine wpListIn_append_lies _ rfl _ _ 22 rfl w.heap.size 23 i0 (.int .u64 0) 1 8 Try.underlying22 hi hz0 hz1 hz2 rfl (by decide) v pre.length _ rfl (hrow.alloc _) ⟨W.heap.size, 0, none⟩ 1 1 [.int .u64 x] rfl rfl (World.news_of_block (cs := #[.int .u64 x]) (t := 23) (fr := (0, 0)) (heap_alloc_new W _)) (by simp [Value.oneCell']) (by omega) (by unfold maxLen; omega) (by omega) (by simp; omega) (W.heap.size + 1) (by simp) ?_; intro g gc w1 hown hgrow hfresh hlt; have m2 := cell_of_one (HKP.out w1 hgrow); have m3 := free_of_one (HKP.out w1 hgrow))
    have n1 := HKP.out w1 hgrow
    have hgne : g ≠ w.heap.size := fun e => by obtain ⟨c, hc⟩ := ownsRow_elem hown (g := g) rfl; rw [e, n1] at hc; simp at hc
    have hf1 : Fr S W w1 := ((Fr.refl _ _).alloc _).grown hgrow fun j e => .inl (hsg j e)
    refine ⟨fun k => S k ∨ k = g, ⟨_, .inl hs1, one_setCell n1, ?_, fun j hj => .inr (by simpa [Value.ownBlock] using hj.symm)⟩, hf1.setCell (.inl hs1) _, ?_⟩
    · have := ownsRow_same (w' := w1.setCell ⟨w.heap.size, 0, none⟩ (.slice (some ⟨g, 0, none⟩) (pre.length + 1) gc)) hown fun j hj => by
        simp [Value.ownBlock] at hj; subst hj; exact Below.heap_setCell _ _ _ _ hgne
      simpa using this
    · intro k hk
      have hz := hf1.size
      rcases hk with hk | hk
      · exact ⟨.inl hk, by simp [World.setCell]; have := (hbd k hk).2; omega⟩
      · subst hk
        refine ⟨?_, by simpa [World.setCell] using hlt⟩
        rcases hfresh with h1 | h1
        · exact .inl (hsg _ h1)
        · exact .inr (by omega)
  case done =>
    rintro D S W ⟨v, hs1, hc1, hrow, hsg⟩ hfr hgr hD hDl hDS
    have k1 := cell_of_one hc1
    gi_wp2
    refine ⟨by simp, .inl ⟨_, _, rfl, run_takeDeferred hD, ?_⟩⟩
    refine ⟨_, results_tmp rfl _ _ _, v, rfl, ownsRow_same hrow fun g hg => World.putObj_heap_other (fun e => hDS (by rw [← e]; exact hsg g hg)), ?_⟩
    exact (hf0.trans (hfr.mono (T' := fun k => w.heap.size ≤ k) fun k hk => by omega) fun k hk => .inr hk).putObj (.inr (by omega)) _
  case stop => exact fun _ _ _ _ _ _ h => h.elim

theorem collect_any (w w0 : World) (gf : FuncId) (lb : Array Value) (R : Nat → Prop) (xs : List Int) (hseq : SeqOf Try.prog gf lb enc1 R xs w0) (eg : ∀ args w, (callFunc gf args).run Try.prog w = .ok (.enter gf args) w)
    (hw0 : SameOn R w0 w) (hR : ∀ k, R k → k < w.heap.size) (hxl : xs.length ≤ 17592186044416) :
    Calls Try.prog 43 #[.func (.func gf) #[] lb] w fun e w' => ∃ v, e = .returned v ∧ w'.ownsRow w.heap.size 23 1 v xs.length (xs.map (Value.int .u64)) ∧ Fr N0 w w' := by
  have h := appseq_any w w0 gf lb R xs hseq eg hw0 hR hxl
  go_enter Try.func43, Try.ntmps43
  go_wp2_with (go_at_call 60; refine h.mono ?_; rintro e w1 ⟨v, rfl, h1, h2⟩)
  go_ret
  exact ⟨v, rfl, h1, h2⟩

theorem enters_from1 (args : Array Value) (w : World) : (callFunc 59 args).run Try.prog w = .ok (.enter 59 args) w := enters_of Try.func59 (by kernel_rfl) rfl args w
theorem enters_Val1 (args : Array Value) (w : World) : (callFunc 58 args).run Try.prog w = .ok (.enter 58 args) w := enters_of Try.func58 (by kernel_rfl) rfl args w

/-- All: the iterator over the whole list, where it lies. -/
theorem all_seq (w : World) (n : Nat) (p : Option Addr) (l : List Int) (h : IsL w n p l) (hn : n ≤ w.heap.size) :
    SeqOf Try.prog 59 #[.pointer (some ⟨w.heap.size, 0, none⟩), .pointer (some ⟨w.heap.size + 1, 0, none⟩)] enc1 (fun k => k < n ∨ k = w.heap.size ∨ k = w.heap.size + 1) l ((w.alloc (.cells #[.pointer p] 25)).alloc (.cells #[.int .i64 0] 3)) := by
  obtain ⟨bl, h1, rfl, h3, h4, h5⟩ := h
  have hb : Below n w ((w.alloc (.cells #[.pointer p] 25)).alloc (.cells #[.int .i64 0] 3)) := (((Fr.refl N0 w).alloc _).alloc _).below (fun _ h => h.elim) hn
  have hbx := World.alloc_heap_new w (.cells #[.pointer p] 25)
  have hby := World.alloc_heap_new (w.alloc (.cells #[.pointer p] 25)) (.cells #[.int .i64 0] 3)
  rw [World.size_alloc] at hby
  have := from1_seq _ n w.heap.size (w.heap.size + 1) p bl 0 (h1.below hb (Nat.le_refl _)) (Nat.zero_le _) (by simp; omega) (fun x hx => by have := h4 x hx; omega)
    ((Below.heap_alloc _ _ _ (by simp)).trans hbx) (by simpa using hby)
  simpa using this

theorem slice_any (w : World) (n : Nat) (p : Option Addr) (l : List Int) (h : IsL w n p l) (hn : n ≤ w.heap.size) (hl : l.length ≤ 17592186044416) :
    Calls Try.prog 15 #[.pointer p] w fun e w' => ∃ v, e = .returned v ∧ Own1 w' w.heap.size v l ∧ Fr N0 w w' := by
  have hwf : ∀ x ∈ l, (Lit.int .u64 x).wf = true := fun x hx => by
    obtain ⟨_, _, _, _, h4, _⟩ := h; have := h4 x hx; exact WalkArith.wf_u64 (by omega)
  have hseq := all_seq w n p l h hn
  have h2 := fun wx hx => collect_any wx _ _ _ _ _ hseq enters_from1 hx
  have HS := Lib.hid h2; clear h2 hseq h
  go_enter Try.func15, Try.ntmps15
  go_wp2_with (first | (go_at_call 18; refine (all_any _ _).mono ?_; rintro e w1 ⟨rfl, rfl⟩) | (go_at_call 43; refine (HS.out _ (SameOn.refl _ _) (by intro k hk; simp; omega) hl).mono ?_; rintro e w1 ⟨v, rfl, h1, h2⟩))
  have ho := (own1_of_row h1 hwf).mono (n' := w.heap.size) (by simp; omega)
  have hf : Fr N0 w w1 := (((Fr.refl _ _).alloc _).alloc _).then0 h2
  clear HS h1 h2
  obtain ⟨b, hb, ⟨a, off, cap, rfl, hlc, hcm, ha, ha0, hc, hwf'⟩, hbk⟩ := ho
  refine (clip_any a l.length cap w1 hlc hcm).mono ?_
  rintro e w2 ⟨rfl, rfl⟩
  go_wp2
  go_ret
  exact ⟨_, rfl, ⟨b, hb, ⟨a, off, l.length, rfl, Nat.le_refl _, by omega, ha, fun h => by have := ha0 h; omega, hc, hwf⟩, hbk⟩, hf⟩

end Go.Proofs.Ytldboadcglofaaa
