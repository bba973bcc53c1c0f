/- uids.of: the list of the numbers that an iterator hands out.
   Conditions: the numbers rise, are above 0, and are at most 2^44. -/
import Derived.Test.YtldboadcglofaaaAdd
namespace Go.Proofs.Ytldboadcglofaaa
open Go.RowKit Go.Shelf
attribute [local go_sem] Oper.semAt_some
set_option linter.unusedVariables false

abbrev enc1 : Int → Array Value := fun x => #[Value.int .u64 x]

/-- The body's invariant in of: the list made so far, its box, the last uid's box. -/
def OfInv (w : World) : (Nat → Prop) → List Int → World → Prop := fun S pre W =>
  ∃ vb bl last, OwnL W (fun k => S k ∧ k ≠ w.heap.size + 1 ∧ k ≠ w.heap.size + 1 + 1) w.heap.size vb bl ∧ uidsOf bl = pre ∧ S (w.heap.size + 1) ∧ S (w.heap.size + 1 + 1) ∧
    W.heap[w.heap.size + 1]? = some (.cells #[.pointer (some ⟨w.heap.size, 0, none⟩)] 25 (0, 0)) ∧ W.heap[w.heap.size + 1 + 1]? = some (.cells #[.int .u64 last] 23 (0, 0)) ∧
    (∀ x, pre.getLast? = some x → x = last) ∧ (pre = [] → last = 0)

theorem OfInv.stable (w : World) : Stable (OfInv w) := by
  rintro S pre A B ⟨vb, bl, last, h1, h2, h3, h4, h5, h6, h7⟩ hs
  exact ⟨vb, bl, last, h1.same (hs.mono fun k hk _ => hk.1), h2, h3, h4, (hs.block _ h3 (lt_of_block h5)).trans h5, (hs.block _ h4 (lt_of_block h6)).trans h6, h7⟩

set_option maxRecDepth 100000 in
set_option maxHeartbeats 1000000 in
theorem of_anyF (w w0 : World) (gf : FuncId) (lb : Array Value) (R : Nat → Prop) (xs : List Int) (hseq : SeqOf Try.prog gf lb enc1 R xs w0) (eg : ∀ args w, (callFunc gf args).run Try.prog w = .ok (.enter gf args) w)
    (hw0 : SameOn R w0 w) (hR : ∀ k, R k → k < w.heap.size) (hxl : xs.length ≤ 17592186044416) (hxs : xs.Pairwise (· < ·)) (hxr : ∀ x ∈ xs, 0 < x ∧ x < 18446744073709551616) :
    Calls Try.prog 36 #[.func (.func gf) #[] lb] w fun e w' => e = .returned (.pointer (some ⟨w.heap.size, 0, none⟩)) ∧ ListOn (fun k => w.heap.size ≤ k) w' (some ⟨w.heap.size, 0, none⟩) xs ∧ Fr N0 w w' := by
  refine (callsIn_wide (n := 8)).1 ?_
  refine callsIn_of_wp_marks Try.func36 rfl trivial ?_ rfl
  simp only [Try.ntmps36, List.size_toArray, List.length_cons, List.length_nil, Nat.reduceAdd, Nat.reduceSub, Array.replicate_succ, Array.replicate_zero, List.push_toArray, List.append_toArray, List.nil_append, List.cons_append]
  gi_wp2
  obtain ⟨W0, hW0⟩ : ∃ W0, ((w.alloc (Obj.cells #[Value.slice none 0 0, Value.int IntKind.i64 0] 70)).alloc (Obj.cells #[Value.pointer (some { block := w.heap.size, off := 0 })] 25)).alloc (Obj.cells #[Value.int IntKind.u64 0] 23) = W0 := ⟨_, rfl⟩
  rw [hW0]
  have hz0 : W0.heap.size = w.heap.size + 3 := by rw [← hW0]; simp
  have hf0 : Fr N0 w W0 := by rw [← hW0]; exact (((Fr.refl _ _).alloc _).alloc _).alloc _
  have hb0 : W0.heap[w.heap.size]? = some (.cells #[.slice none 0 0, .int .i64 0] 70 (0, 0)) := by
    rw [← hW0, Below.heap_alloc _ _ _ (by simp; omega), Below.heap_alloc _ _ _ (by simp)]; exact World.alloc_heap_new _ _
  have hb1 : W0.heap[w.heap.size + 1]? = some (.cells #[.pointer (some ⟨w.heap.size, 0, none⟩)] 25 (0, 0)) := by
    rw [← hW0, Below.heap_alloc _ _ _ (by simp)]
    have := World.alloc_heap_new (w.alloc (Obj.cells #[Value.slice none 0 0, Value.int IntKind.i64 0] 70)) (Obj.cells #[Value.pointer (some { block := w.heap.size, off := 0 })] 25)
    rwa [World.size_alloc] at this
  have hb2 : W0.heap[w.heap.size + 1 + 1]? = some (.cells #[.int .u64 0] 23 (0, 0)) := by
    rw [← hW0]
    have := World.alloc_heap_new ((w.alloc (Obj.cells #[Value.slice none 0 0, Value.int IntKind.i64 0] 70)).alloc (Obj.cells #[Value.pointer (some { block := w.heap.size, off := 0 })] 25)) (Obj.cells #[Value.int IntKind.u64 0] 23)
    rwa [World.size_alloc, World.size_alloc] at this
  clear hW0
  refine (wpIn_wide (n := 8)).2 (wp_range (encs := enc1) rfl eg hseq (hw0.fr hf0 fun _ _ h => h) (fun _ => rfl)
    (fun k => k = w.heap.size ∨ k = w.heap.size + 1 ∨ k = w.heap.size + 1 + 1) (fun k hk => ⟨fun hr => by have := hR k hr; omega, by omega⟩) (fun k hk => by have := hR k hk; omega)
    (OfInv w) (fun _ _ _ _ => False) (OfInv.stable w) (fun _ _ _ _ _ h _ => h) ?start
    (fun x => { tmps := #[Value.func (Fn.func gf) #[] lb, undef, Value.pointer none, Value.pointer (some { block := w.heap.size + 1, off := 0 }), Value.pointer (some { block := w.heap.size + 1 + 1, off := 0 }), .int .u64 x,
          Value.agg #[Value.slice none 0 0, Value.int IntKind.i64 0], Value.pointer (some { block := w.heap.size, off := 0 }), Value.func (Fn.func gf) #[] lb, .int .u64 x, undef, undef, undef, undef, undef, undef], defers := [] }) ?assign ?body ?done ?stop)
  case start =>
    refine ⟨.slice none 0 0, [], 0, ⟨⟨.inl rfl, by omega, by omega⟩, hb0, World.ownsRow_nil _ _ _ _, by simp [Value.ownBlock], by simp, by simp, by simp⟩, rfl, .inr (.inl rfl), .inr (.inr rfl), hb1, hb2, by simp, fun _ => rfl⟩
  case assign =>
    intro l x W K hK
    gi_wp2
    exact hK
  case body =>
    rintro l S pre x W ⟨vb, bl, last, hown, hpre, hs1, hs2, hc1, hc2, hlast, hl0⟩ hpx hRW hbd
    have hx := hxr x (hpx.subset (by simp))
    have hlen : (uidsOf bl).length < 17592186044416 := by have := hpx.length_le; simp at this; rw [hpre]; omega
    have hlx : 0 ≤ last ∧ last ≤ x := by
      rcases List.eq_nil_or_concat pre with rfl | ⟨p0, y, rfl⟩
      · rw [hl0 rfl]; omega
      · rw [List.concat_eq_append] at hlast hpx
        have := hlast y (by simp); subst this
        have h2 := hxr y (hpx.subset (by simp))
        have h3 : (p0 ++ [y] ++ [x]).Pairwise (· < ·) := hxs.sublist hpx.sublist
        have h4 := (List.pairwise_append.1 h3).2.2 y (by simp) x (by simp)
        omega
    have k1 := cell_of_one hc1; have k2 := cell_of_one hc2; have k3 := free_of_one hc2
    have hadd := add_any W _ _ _ _ x last hown (fun k hk => (hbd k hk.1).2) hlen (by rw [hpre]; exact hlast) hlx.1 hlx.2 (by omega)
    have hp1 : w.heap.size + 1 < W.heap.size := lt_of_block hc1
    have hp2 : w.heap.size + 1 + 1 < W.heap.size := lt_of_block hc2
    have hkp : ∀ W1, Fr (fun k => S k ∧ k ≠ w.heap.size + 1 ∧ k ≠ w.heap.size + 1 + 1) W W1 → W1.heap[w.heap.size + 1]? = some (.cells #[.pointer (some ⟨w.heap.size, 0, none⟩)] 25 (0, 0)) ∧ W1.heap[w.heap.size + 1 + 1]? = some (.cells #[.int .u64 last] 23 (0, 0)) := fun W1 hf =>
      ⟨(hf.at (by simp) hp1).trans hc1, (hf.at (by simp) hp2).trans hc2⟩
    have HKP := Lib.hid hkp; clear hkp
    have HX := Lib.hid hx; clear hx
    gi_wp2_with (refine ⟨trivial, ?_⟩; gi_at_call 46; refine (CallsIn.inRound l (callsIn_wide.2 hadd)).mono ?_; rintro e W1 ⟨rfl, S', vb', bl', ho', hu', hf', hg'⟩; have m2 := cell_of_one (HKP.out W1 hf').2; have m3 := free_of_one (HKP.out W1 hf').2)
    obtain ⟨n1, n2⟩ := HKP.out W1 hf'
    have hS' : ∀ k, S' k → k ≠ w.heap.size + 1 ∧ k ≠ w.heap.size + 1 + 1 ∧ (S k ∨ W.heap.size ≤ k) := fun k hk => by
      rcases (hg' k hk).1 with h1 | h1
      · exact ⟨h1.2.1, h1.2.2, .inl h1.1⟩
      · exact ⟨by omega, by omega, .inr h1⟩
    refine ⟨fun k => S' k ∨ k = w.heap.size + 1 ∨ k = w.heap.size + 1 + 1, ⟨vb', bl', x, ?_, by rw [hu', hpre], .inr (.inl rfl), .inr (.inr rfl), ?_, ?_, by simp, by simp⟩, ?_, ?_⟩
    · rw [minus_plus fun k hk => ⟨(hS' k hk).1, (hS' k hk).2.1⟩]
      exact ho'.same ((SameOn.refl _ _).setCell (fun h => (hS' _ h).2.1 rfl) _)
    · rw [Below.heap_setCell _ _ _ _ (by simp)]; exact n1
    · exact one_setCell n2
    · exact (hf'.mono fun k hk => .inl hk.1).setCell (.inl hs2) _
    · intro k hk
      have hz := hf'.size
      rcases hk with hk | hk | hk
      · exact ⟨(hS' k hk).2.2, by simpa [World.setCell] using (hg' k hk).2⟩
      · exact ⟨.inl (by rw [hk]; exact hs1), by simp [World.setCell]; omega⟩
      · exact ⟨.inl (by rw [hk]; exact hs2), by simp [World.setCell]; omega⟩
  case done =>
    rintro D S W ⟨vb, bl, last, hown, hpre, hs1, hs2, hc1, hc2, hlast, hl0⟩ hfr hgr hD hDl hDS
    have k1 := cell_of_one hc1
    gi_wp2
    refine ⟨by simp, .inl ⟨_, _, rfl, run_takeDeferred hD, ?_⟩⟩
    have ho2 := hown.same (w' := W.putObj D (.deferred none)) ((SameOn.refl _ _).putObj (fun h => hDS h.1) _)
    refine ⟨_, results_tmp rfl _ _ _, rfl, ?_, ?_⟩
    · intro w'' hs''
      have ho3 := ho2.same (hs''.mono fun k hk _ => by rcases (hgr k hk.1).1 with h1 | h1 <;> omega)
      rw [← hpre]; exact ho3.isLb (by rw [hpre]; exact hxl) (by rw [hpre]; exact hxs) (by rw [hpre]; exact hxr)
    · exact (hf0.trans (hfr.mono (T' := fun k => w.heap.size ≤ k) fun k hk => by omega) fun k hk => .inr hk).putObj (.inr (by omega)) _
  case stop => exact fun _ _ _ _ _ _ h => h.elim

theorem of_any (w w0 : World) (gf : FuncId) (lb : Array Value) (R : Nat → Prop) (xs : List Int) (hseq : SeqOf Try.prog gf lb enc1 R xs w0) (eg : ∀ args w, (callFunc gf args).run Try.prog w = .ok (.enter gf args) w)
    (hw0 : SameOn R w0 w) (hR : ∀ k, R k → k < w.heap.size) (hxl : xs.length ≤ 17592186044416) (hxs : xs.Pairwise (· < ·)) (hxr : ∀ x ∈ xs, 0 < x ∧ x < 18446744073709551616) :
    Calls Try.prog 36 #[.func (.func gf) #[] lb] w fun e w' => e = .returned (.pointer (some ⟨w.heap.size, 0, none⟩)) ∧ IsL w' w'.heap.size (some ⟨w.heap.size, 0, none⟩) xs ∧ Fr N0 w w' :=
  (of_anyF w w0 gf lb R xs hseq eg hw0 hR hxl hxs hxr).mono fun e w' h => ⟨h.1, h.2.1.isL, h.2.2⟩

end Go.Proofs.Ytldboadcglofaaa
