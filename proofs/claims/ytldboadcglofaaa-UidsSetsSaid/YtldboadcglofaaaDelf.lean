/- Slices of lists, clipped, and DeleteFunc on them. Condition: at most 2^44 numbers. -/
import Derived.Test.YtldboadcglofaaaSlices
namespace Go.Proofs.Ytldboadcglofaaa
open Go.RowKit Go.Shelf
attribute [local go_sem] Oper.semAt_some
set_option linter.unusedVariables false
set_option linter.unusedSimpArgs false

/-- An owned row whose capacity was clipped. -/
def RowC (w : World) (base : Nat) (v : Value) (xs : List Int) : Prop :=
  (v = .slice none 0 0 ∧ xs = []) ∨ ∃ g c cap, v = .slice (some ⟨g, 0, none⟩) xs.length c ∧ xs.length ≤ c ∧ c ≤ cap ∧ w.ownsRow base 23 1 (.slice (some ⟨g, 0, none⟩) xs.length cap) xs.length (xs.map (Value.int .u64))

theorem RowC.ints {w : World} {base : Nat} {v : Value} {xs : List Int} (h : RowC w base v xs) (hw : ∀ x ∈ xs, (Lit.int .u64 x).wf = true) : ∃ b, Ints .u64 w b v xs := by
  rcases h with ⟨rfl, rfl⟩ | ⟨g, c, cap, rfl, h1, h2, h3⟩
  · exact ⟨0, Ints.nil _ _ _⟩
  · obtain ⟨b, a, off, cap', hv, g1, g2, g3, g4, g5, g6⟩ := row_ints (v := .slice (some ⟨g, 0, none⟩) xs.length cap) h3 hw
    simp only [Value.slice.injEq, true_and] at hv
    obtain ⟨rfl, rfl⟩ := hv
    exact ⟨b, some ⟨g, 0, none⟩, off, c, rfl, h1, by omega, g3, by simp, g5, g6⟩

theorem RowC.fr {w w' : World} {base : Nat} {v : Value} {xs : List Int} {T : Nat → Prop} (h : RowC w base v xs) (hf : Fr T w w') (ht : ∀ k, v.ownBlock = some k → ¬ T k) : RowC w' base v xs := by
  rcases h with ⟨rfl, rfl⟩ | ⟨g, c, cap, rfl, h1, h2, h3⟩
  · exact .inl ⟨rfl, rfl⟩
  · refine .inr ⟨g, c, cap, rfl, h1, h2, ownsRow_same h3 fun q hq => hf.at ?_ (lt_of_block (ownsRow_elem h3 hq).choose_spec)⟩
    simp [Value.ownBlock] at hq
    subst hq
    exact ht _ rfl

theorem RowC.lt {w : World} {base : Nat} {v : Value} {xs : List Int} (h : RowC w base v xs) : ∀ k, v.ownBlock = some k → base ≤ k ∧ k < w.heap.size := by
  rcases h with ⟨rfl, rfl⟩ | ⟨g, c, cap, rfl, h1, h2, h3⟩
  · intro k hk; simp [Value.ownBlock] at hk
  · intro k hk; simp [Value.ownBlock] at hk; subst hk; exact h3.lt _ rfl

set_option maxRecDepth 100000 in
set_option maxHeartbeats 400000 in
theorem slicec_any (w : World) (n : Nat) (p : Option Addr) (l : List Int) (h : IsL w n p l) (hn : n ≤ w.heap.size) (hl : l.length ≤ 17592186044416) :
    Calls Try.prog 15 #[.pointer p] w fun e w' => ∃ v, e = .returned v ∧ RowC w' w.heap.size v l ∧ Fr N0 w w' := by
  have hseq := all_seq w n p l h hn
  have h2 := fun wx hx => collect_any wx _ _ _ _ _ hseq enters_from1 hx
  have HS := Lib.hid h2; clear h2 hseq h
  go_enter Try.func15, Try.ntmps15
  go_wp2_with (first | (go_at_call 18; refine (all_any _ _).mono ?_; rintro e w1 ⟨rfl, rfl⟩) | (go_at_call 43; refine (HS.out _ (SameOn.refl _ _) (by intro k hk; simp; omega) hl).mono ?_; rintro e w1 ⟨v, rfl, h1, h2⟩))
  have hf : Fr N0 w w1 := (((Fr.refl _ _).alloc _).alloc _).then0 h2
  have ho : w1.ownsRow w.heap.size 23 1 v l.length (l.map (Value.int .u64)) := by
    refine ⟨h1.1, ?_⟩
    rcases h1.2 with h | ⟨g, cap, cur, e1, e2, e3⟩
    · exact .inl h
    · exact .inr ⟨g, cap, cur, e1, by simp at e2; omega, e3⟩
  have ho' : ∃ a cap, v = .slice a l.length cap ∧ l.length ≤ cap ∧ cap ≤ 9223372036854775807 ∧ RowC w1 w.heap.size (.slice a l.length l.length) l := by
    rcases ho.2 with ⟨rfl, h0⟩ | ⟨g, cap, cur, rfl, hb, hg, hnc, hcm, hcs, htake⟩
    · exact ⟨none, 0, by rw [h0], by omega, by omega, .inl ⟨by rw [h0], List.eq_nil_of_length_eq_zero h0⟩⟩
    · exact ⟨_, cap, rfl, hnc, by unfold maxLen at hcm; omega, .inr ⟨g, l.length, cap, rfl, Nat.le_refl _, hnc, ho⟩⟩
  obtain ⟨a, cap, rfl, hc1, hc2, hrc⟩ := ho'
  have HRC := Lib.hid hrc
  clear HS h1 h2 ho hrc
  refine (clip_any a l.length cap w1 hc1 hc2).mono ?_
  rintro e w2 ⟨rfl, rfl⟩
  go_wp2
  go_ret
  exact ⟨_, rfl, HRC.out, hf⟩

set_option maxRecDepth 100000 in
set_option maxHeartbeats 1000000 in
/-- DeleteFunc at a clipped owned row: what p takes is struck. -/
theorem delfc_any (w : World) (base : Nat) (v : Value) (xs : List Int) (h : RowC w base v xs) (hwf : ∀ x ∈ xs, (Lit.int .u64 x).wf = true) (hl : xs.length ≤ 17592186044416)
    (gf : FuncId) (lb : Array Value) (Good : World → Prop) (p : Int → Bool) (hp : Pred gf lb Good xs p) (hg : ∀ W, Fr (fun k => v.ownBlock = some k) w W → Good W)
    (eg : ∀ args w, (callFunc gf args).run Try.prog w = .ok (.enter gf args) w) :
    Calls Try.prog 32 #[v, .func (.func gf) #[] lb] w fun e w' => ∃ v', e = .returned v' ∧ RowC w' base v' (xs.filter fun x => !p x) ∧ (v' = .slice none 0 0 ∨ v'.ownBlock = v.ownBlock) ∧ Fr (fun k => v.ownBlock = some k) w w' := by
  obtain ⟨b, hI⟩ := h.ints hwf
  have hidx := idxf_any w b v xs hI gf lb Good p hp (hg w (Fr.refl _ _)) eg
  by_cases hex : ∃ x ∈ xs, p x = true
  · -- something is struck
    have hlen : xs.findIdx p < xs.length := by rw [List.findIdx_lt_length]; exact hex
    rw [idxOr, if_pos hex] at hidx
    obtain ⟨i0, hi0⟩ : ∃ i, xs.findIdx p = i := ⟨_, rfl⟩
    rw [hi0] at hidx hlen
    have hpi0 : p xs[i0] = true := by have := List.findIdx_getElem (p := p) (xs := xs) (w := by omega); simpa [hi0] using this
    have hnone : ∀ x ∈ xs.take i0, p x = false := fun x hx => by
      rw [List.mem_take_iff_getElem] at hx
      obtain ⟨j, hj, rfl⟩ := hx
      have := List.not_of_lt_findIdx (p := p) (xs := xs) (i := j) (by omega)
      simpa using this
    obtain ⟨n, hn⟩ : ∃ n, xs.length = n := ⟨_, rfl⟩
    obtain ⟨g, c, cap, rfl, hnc, hcc, h'⟩ : ∃ g c cap, v = .slice (some ⟨g, 0, none⟩) n c ∧ n ≤ c ∧ c ≤ cap ∧ w.ownsRow base 23 1 (.slice (some ⟨g, 0, none⟩) n cap) n (xs.map (Value.int .u64)) := by
      rcases h with ⟨_, h0⟩ | ⟨g, c, cap, h0, h1, h2, h3⟩
      · rw [h0] at hn hlen; simp at hlen
      · rw [hn] at h0 h1 h3; exact ⟨g, c, cap, h0, h1, h2, h3⟩
    have hkept0 : (xs.take (i0 + 1)).filter (fun x => !p x) = xs.take i0 := by
      rw [take_succ xs (by omega), List.filter_append, List.filter_eq_self.2 (fun x hx => by simp [hnone x hx])]
      simp [hpi0]
    have HI := Lib.hid hidx; have HP := Lib.hid hp; have HGd := Lib.hid hg; have HR := Lib.hid h'; have HN := Lib.hid hn; have HK := Lib.hid hkept0
    have hcap : n ≤ cap ∧ cap ≤ 9223372036854775807 := by
      rcases h'.2 with ⟨h0, _⟩ | ⟨g', cap', cur, h0, hb, hg, hnc, hcm, hcs, htake⟩
      · simp at h0
      · simp at h0; obtain ⟨rfl, rfl⟩ := h0; exact ⟨hnc, by unfold maxLen at hcm; omega⟩
    obtain ⟨hc1, hc2⟩ := hcap
    rw [hn] at hl hlen
    clear hidx hp hg h h' hn hI hpi0 hnone hi0 hkept0 hex
    have hi1 : ((i0 : Int) == -1) = false := by rw [beq_eq_false_iff_ne]; omega
    go_enter Try.func32, Try.ntmps32
    go_wp2_with (go_at_call 55; refine (HI.out).mono ?_; rintro e w1 ⟨rfl, rfl⟩)
    go_loopw [5, 6] (fun si sj wr => ∃ (i j : Nat) (ys : List Int), i < j ∧ j ≤ n ∧ si = .int .i64 i ∧ sj = .int .i64 j ∧ Hid (ys.length = n ∧ ys.take i = (xs.take j).filter (fun x => !p x) ∧ ys.drop j = xs.drop j) ∧
        wr.ownsRow base 23 1 (.slice (some ⟨g, 0, none⟩) n cap) n (ys.map (Value.int .u64)) ∧ Fr (fun k => (Value.slice (some ⟨g, 0, none⟩) n c).ownBlock = some k) w wr) (fun _ sj _ => n - (intOf sj).toNat)
    case atStart => exact ⟨i0, i0 + 1, xs, by omega, by omega, rfl, by go_num, ⟨HN.out, HK.out.symm, rfl⟩, HR.out, Fr.refl _ _⟩
    case round =>
      obtain ⟨i, j, ys, hij, hjn, rfl, rfl, hy, hrow, hfr⟩ := hrel
      by_cases hlt : j < n
      · have hxl : j < xs.length := by rw [HN.out]; exact hlt
        have hcj : wr.cell? ⟨g, j, none⟩ = some (.int .u64 xs[j]) := by
          rw [hrow.cellAt j (by omega)]
          have h1 := congrArg (fun l => l[0]?) hy.out.2.2
          simp only [List.getElem?_drop, Nat.add_zero] at h1
          rw [List.getElem?_map, h1, List.getElem?_eq_getElem hxl]; rfl
        have hci : ∃ u, wr.cell? ⟨g, i, none⟩ = some u := by
          rw [hrow.cellAt i (by omega)]
          exact ⟨_, List.getElem?_eq_getElem (by simp; have := hy.out.1; omega)⟩
        obtain ⟨u, hci⟩ := hci
        have hfi := hrow.frozenAt i
        have hcall := HP.out xs[j] (List.getElem_mem hxl) wr (HGd.out wr hfr)
        obtain ⟨xj, hxj⟩ : ∃ x, xs[j] = x := ⟨_, rfl⟩
        have htk : (xs.take (j + 1)).filter (fun x => !p x) = (xs.take j).filter (fun x => !p x) ++ (if p xj = true then [] else [xj]) := by
          rw [take_succ xs hxl, List.filter_append, hxj]
          cases hpx : p xj <;> simp [hpx]
        have hdr : xs.drop (j + 1) = ys.drop (j + 1) := by
          have := congrArg (fun l => l.drop 1) hy.out.2.2
          simpa [List.drop_drop, Nat.add_comm] using this.symm
        rw [hxj] at hcj hcall
        have HCALL := Lib.hid hcall; have HRW := Lib.hid hrow; have HTK := Lib.hid htk; have HDR := Lib.hid hdr; have HFR := Lib.hid hfr
        clear hcall hrow htk hdr hxj hfr
        cases hpx : p xj with
        | true =>
          rw [hpx] at HCALL HTK
          clear hfi hci
          go_wp2_with (refine (HCALL.out).mono ?_; rintro e w' ⟨rfl, rfl⟩)
          go_roundw
          case rel => exact ⟨i, j + 1, ys, by omega, by omega, rfl, by go_num, ⟨hy.out.1, by rw [HTK.out, hy.out.2.1]; simp, HDR.out.symm⟩, HRW.out, HFR.out⟩
          case measure => simp [intOf]; omega
        | false =>
          rw [hpx] at HCALL HTK
          go_wp2_with (refine (HCALL.out).mono ?_; rintro e w' ⟨rfl, rfl⟩)
          go_roundw
          case rel =>
            obtain ⟨hs1, hs2⟩ := HRW.out.stored i (.int .u64 xj)
            refine ⟨i + 1, j + 1, ys.set i xj, by omega, by omega, by go_num, by go_num, ⟨by simpa using hy.out.1, ?_, ?_⟩, by simpa [List.map_set] using hs1, HFR.out.setCell (p := ⟨g, i, none⟩) (.inl rfl) _⟩
            · rw [HTK.out, ← hy.out.2.1]
              have : i < ys.length := by have := hy.out.1; omega
              have hts : (ys.set i xj).take i = ys.take i := by
                apply List.ext_getElem?
                intro t
                simp only [List.getElem?_take]
                split
                · rw [List.getElem?_set_ne (by omega)]
                · rfl
              rw [take_succ _ (by simpa using this), hts]
              simp
            · rw [HDR.out, List.drop_set]; rw [if_pos (by omega)]
          case measure => simp [intOf]; omega
      · obtain rfl : j = n := by omega
        have hcl : ∀ ty, (Builtin.clear_ #[22] ty #[.slice (some ⟨g, i, none⟩) (j - i) (c - i)]).run Try.prog wr = .ok (.tuple #[]) (wr.setCells g i (List.replicate (j - i) (.int .u64 0))) := fun ty =>
          Lib.run_clear_slice wr 22 23 ty (.int .u64 0) Try.underlying22 zeroU64 rfl rfl g i _ _ (by omega) (fun t ht => by rw [hrow.cellAt _ (by omega), List.getElem?_eq_getElem (by simp; have := hy.out.1; omega)]; rfl) (fun t ht => hrow.frozenAt _)
        have HRW := Lib.hid hrow; have HFR := Lib.hid hfr
        clear hrow hfr
        have hne : ¬ c = i := by omega
        go_wp2
        go_ret
        have hfin : ys.take i = xs.filter fun x => !p x := by
          rw [hy.out.2.1, List.take_of_length_le (by rw [HN.out]; exact Nat.le_refl _)]
        have hrc := row_clear (m := i) (List.replicate (j - i) (.int .u64 0)) HRW.out (by omega)
        rw [hfin] at hrc
        have hml : (xs.filter fun x => !p x).length = i := by rw [← hfin, List.length_take]; have := hy.out.1; omega
        refine ⟨_, rfl, .inr ⟨g, c, cap, by rw [hml]; rfl, by omega, hcc, by rw [hml]; rw [Row, hml] at hrc; exact hrc⟩, .inr rfl, ?_⟩
        obtain ⟨cur, hcur⟩ := ownsRow_elem HRW.out (g := g) rfl
        obtain ⟨_, _, _, _, h5⟩ := setCells_spec g _ _ (List.replicate (j - i) (.int .u64 0)) wr i cur hcur
        exact HFR.out.trans h5 fun k hk => .inl (by rw [hk]; rfl)
  · -- nothing is struck
    rw [idxOr, if_neg hex] at hidx
    have hfil : xs.filter (fun x => !p x) = xs := List.filter_eq_self.2 fun x hx => by
      cases hpx : p x
      · rfl
      · exact absurd ⟨x, hx, hpx⟩ hex
    have HR := Lib.hid h
    clear h hex hp hg hI
    go_enter Try.func32, Try.ntmps32
    go_wp2_with (go_at_call 55; refine hidx.mono ?_; rintro e w1 ⟨rfl, rfl⟩)
    go_ret
    exact ⟨v, rfl, by rw [hfil]; exact HR.out, .inr rfl, Fr.refl _ _⟩

end Go.Proofs.Ytldboadcglofaaa
