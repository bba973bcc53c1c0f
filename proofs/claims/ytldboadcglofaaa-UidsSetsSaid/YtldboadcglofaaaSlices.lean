/- slices.Clone, IndexFunc, DeleteFunc, Compact at uint64, over rows that the caller owns.
   Condition: at most 2^44 numbers. -/
import Derived.Test.YtldboadcglofaaaCollect
namespace Go.Proofs.Ytldboadcglofaaa
open Go.RowKit Go.Shelf
attribute [local go_sem] Oper.semAt_some
set_option linter.unusedVariables false
set_option linter.unusedSimpArgs false

/-- A row of numbers that the caller owns from base on. -/
abbrev Row (w : World) (base : Nat) (v : Value) (xs : List Int) : Prop := w.ownsRow base 23 1 v xs.length (xs.map (Value.int .u64))

theorem ints_news {w : World} {b : Nat} {a : Addr} {n cap : Nat} {xs : List Int} (h : Ints .u64 w b (.slice (some a) n cap) xs) : ∀ j u, (xs.map (Value.int .u64))[j]? = some u → w.cell? (a.add j) = some u := by
  intro j u hu
  obtain ⟨a', off, cap', hv, h1, h2, h3, h4, h5, h6⟩ := h
  simp only [Value.slice.injEq] at hv
  obtain ⟨rfl, rfl, rfl⟩ := hv
  have hj : j < xs.length := by
    rcases Nat.lt_or_ge j xs.length with hlt | hge
    · exact hlt
    · rw [List.getElem?_eq_none (by simpa using hge)] at hu; cases hu
  have := h3 (by omega)
  simp only [Option.some.injEq] at this
  subst this
  have hadd : (⟨b, off, none⟩ : Addr).add j = ⟨b, off + j, none⟩ := by unfold Addr.add; split <;> simp_all
  rw [hadd, h5 j hj]
  simpa [hj] using hu

set_option maxRecDepth 100000 in
set_option maxHeartbeats 1000000 in
theorem clone_any (w : World) (b : Nat) (v : Value) (xs : List Int) (h : Ints .u64 w b v xs) (hl : xs.length ≤ 17592186044416) :
    Calls Try.prog 33 #[v] w fun e w' => ∃ v', e = .returned v' ∧ Row w' w.heap.size v' xs ∧ Fr N0 w w' := by
  obtain ⟨i0, hi, hz0, hz1, hz2⟩ := info_parts infoU64
  have h' := h
  have hq := fun (w : World) a n c => Lib.run_eql_slice_nil (P := Try.prog) w 22 23 a n c 0 0 Try.underlying22
  obtain ⟨a, off, cap, rfl, h1, h2, h3, h4, h5, h6⟩ := h
  cases a with
  | none =>
    have hc := h4 rfl
    subst hc
    obtain rfl : xs = [] := List.eq_nil_of_length_eq_zero (by omega)
    go_enter Try.func33, Try.ntmps33
    go_wp2
    go_ret
    exact ⟨_, rfl, World.ownsRow_nil _ _ _ _, Fr.refl _ _⟩
  | some a =>
    have hnews := ints_news h'
    clear h' h3 h4 h5 h6
    have hnews' : ∀ (j : Nat) (u : Value), (xs.map (Value.int .u64))[j]? = some u → (w.alloc (.cells #[] 23)).cell? (a.add j) = some u := fun j u hu =>
      ((Fr.refl N0 w).alloc _).cell (fun h => h) (hnews j u hu)
    have hown := World.ownsRow_lit (base := w.heap.size) (e := 23) (size := 1) w #[] 0 (Nat.le_refl _) (by simp [maxLen]) rfl
    have HN := Lib.hid hnews'; have HO := Lib.hid hown
    clear hnews hnews' hown
    go_enter Try.func33, Try.ntmps33
    go_wp2_with (at_builtin; go_loud (refine wpList_append_own _ rfl _ _ 22 rfl w.heap.size 23 i0 (.int .u64 0) 1 8 Try.underlying22 hi hz0 hz1 hz2 rfl (by decide) _ _ _ rfl HO.out a xs.length cap (xs.map (Value.int .u64)) rfl (by simp) HN.out (by simp [Value.oneCell']) (by unfold maxLen; omega) (by omega) (by simp) ?_); intro v' w1 hown' hgrow _)
    go_ret
    refine ⟨v', rfl, by simpa using hown', ((Fr.refl _ _).alloc _).grown hgrow (fun k e => .inr ?_)⟩
    have e' : some w.heap.size = some k := e
    cases e'; exact Nat.le_refl _

/-- A function value that answers p at each number of xs wherever Good holds, and leaves memory alone. -/
def Pred (gf : FuncId) (lb : Array Value) (Good : World → Prop) (xs : List Int) (p : Int → Bool) : Prop :=
  ∀ x ∈ xs, ∀ W, Good W → Calls Try.prog gf (#[.int .u64 x] ++ lb) W fun e w' => e = .returned (.bool (p x)) ∧ W = w'

theorem findIdx_spec (xs : List Int) (p : Int → Bool) (k : Nat) (h : k < xs.length) (hb : ∀ x ∈ xs.take k, p x = false) (hp : p xs[k] = true) : xs.findIdx p = k := by
  rw [List.findIdx_eq h]
  refine ⟨hp, fun j hj => ?_⟩
  have := hb xs[j] (by rw [List.mem_take_iff_getElem]; exact ⟨j, by omega, rfl⟩)
  simpa using this

/-- The first place of a number that p takes, or -1. -/
def idxOr (xs : List Int) (p : Int → Bool) : Int := if ∃ x ∈ xs, p x = true then (xs.findIdx p : Int) else -1

set_option maxRecDepth 100000 in
set_option maxHeartbeats 1000000 in
theorem idxf_any (w : World) (b : Nat) (v : Value) (xs : List Int) (h : Ints .u64 w b v xs) (gf : FuncId) (lb : Array Value) (Good : World → Prop) (p : Int → Bool) (hp : Pred gf lb Good xs p) (hg : Good w)
    (eg : ∀ args w, (callFunc gf args).run Try.prog w = .ok (.enter gf args) w) :
    Calls Try.prog 55 #[v, .func (.func gf) #[] lb] w fun e w' => e = .returned (.int .i64 (idxOr xs p)) ∧ w = w' := by
  obtain ⟨a, off, cap, rfl, h1, h2, h3, h4, h5, h6⟩ := h
  have HC := Lib.hid h5; have HP := Lib.hid hp; clear h5 h6 hp h4
  go_enter Try.func55, Try.ntmps55
  go_wp2
  go_loop [8] (fun i => ∃ k : Nat, k ≤ xs.length ∧ i = .int .i64 k ∧ Hid (∀ x ∈ xs.take k, p x = false)) (fun i => xs.length - (intOf i).toNat)
  case atStart => exact ⟨0, Nat.zero_le _, rfl, by simp [Hid]⟩
  case round =>
    obtain ⟨k, hk, rfl, hn⟩ := hrel
    by_cases hlt : k < xs.length
    · obtain rfl := h3 (by omega)
      have hck := HC.out k hlt
      have hcall := HP.out xs[k] (List.getElem_mem hlt) w hg
      have HCALL := Lib.hid hcall; clear hcall
      cases hpx : p xs[k] with
      | true =>
        rw [hpx] at HCALL
        go_wp2_with (refine (HCALL.out).mono ?_; rintro e w' ⟨rfl, rfl⟩)
        go_ret
        refine ⟨ret_int ?_, rfl⟩
        rw [idxOr, if_pos ⟨xs[k], List.getElem_mem hlt, hpx⟩, findIdx_spec xs p k hlt hn.out hpx]
      | false =>
        rw [hpx] at HCALL
        go_wp2_with (refine (HCALL.out).mono ?_; rintro e w' ⟨rfl, rfl⟩)
        go_round
        case rel => exact ⟨k + 1, by omega, by go_num, fun x hx => by
          rw [take_succ xs hlt] at hx
          rcases List.mem_append.1 hx with hx | hx
          · exact hn.out x hx
          · simp at hx; rw [hx]; exact hpx⟩
        case measure => simp [intOf]; omega
    · obtain rfl : k = xs.length := by omega
      go_wp2
      go_ret
      refine ⟨ret_int ?_, rfl⟩
      rw [idxOr, if_neg]
      rintro ⟨x, hx, hpx⟩
      have := hn.out x (by simpa using hx)
      rw [this] at hpx; cases hpx

theorem setCells_spec (g : Nat) (e : TypeId) (fr : Nat × Nat) : ∀ (vs : List Value) (w : World) (o : Nat) (cur : Array Value), w.heap[g]? = some (.cells cur e fr) →
    ∃ cur', (w.setCells g o vs).heap[g]? = some (.cells cur' e fr) ∧ cur'.size = cur.size ∧ (∀ j, j < o → cur'[j]? = cur[j]?) ∧ Fr (fun k => k = g) w (w.setCells g o vs)
  | [], w, o, cur, h => ⟨cur, h, rfl, fun _ _ => rfl, Fr.refl _ _⟩
  | v :: vs, w, o, cur, h => by
    have h1 : (w.setCell ⟨g, o, none⟩ v).heap[g]? = some (.cells (cur.setIfInBounds o v) e fr) := by
      have hl := lt_of_block h
      simp only [World.setCell, Array.getElem?_modify]
      simp [h]
    obtain ⟨cur', h2, h3, h4, h5⟩ := setCells_spec g e fr vs (w.setCell ⟨g, o, none⟩ v) (o + 1) _ h1
    exact ⟨cur', h2, by simpa using h3, fun j hj => by rw [h4 j (by omega)]; simp [Array.getElem?_setIfInBounds]; omega, ((Fr.refl (fun k => k = g) w).setCell (p := ⟨g, o, none⟩) (.inl rfl) _).trans h5 fun k hk => .inl hk⟩

/-- The head of an owned row. -/
theorem row_take {w : World} {base g n cap : Nat} {ys : List Int} {m : Nat} (h : w.ownsRow base 23 1 (.slice (some ⟨g, 0, none⟩) n cap) n (ys.map (Value.int .u64))) (hm : m ≤ n) :
    Row w base (.slice (some ⟨g, 0, none⟩) m cap) (ys.take m) := by
  have hl := h.1
  simp at hl
  rcases h.2 with ⟨h', _⟩ | ⟨g', cap', cur, h', hb, hg, hnc, hcm, hcs, htake⟩
  · simp at h'
  · simp only [Value.slice.injEq, Option.some.injEq, Addr.mk.injEq, and_true, true_and] at h'
    obtain ⟨rfl, rfl⟩ := h'
    have hmy : (ys.take m).length = m := by simp; omega
    refine ⟨by simp, .inr ⟨g, cap, cur, by rw [hmy], hb, hg, by omega, hcm, hcs, ?_⟩⟩
    rw [hmy]
    have : cur.toList.take (m * 1) = (cur.toList.take (n * 1)).take m := by rw [List.take_take]; congr 1; omega
    rw [this, htake, List.map_take]

/-- Behind a clear of the rest. -/
theorem row_clear {w : World} {base g n cap : Nat} {ys : List Int} {m : Nat} (vs : List Value) (h : w.ownsRow base 23 1 (.slice (some ⟨g, 0, none⟩) n cap) n (ys.map (Value.int .u64))) (hm : m ≤ n) :
    Row (w.setCells g m vs) base (.slice (some ⟨g, 0, none⟩) m cap) (ys.take m) := by
  have ht := row_take h hm
  have hl := h.1
  simp at hl
  have hmy : (ys.take m).length = m := by simp; omega
  refine ⟨ht.1, ?_⟩
  rcases ht.2 with ⟨h', _⟩ | ⟨g', cap', cur, h', hb, hg, hnc, hcm, hcs, htake⟩
  · simp at h'
  · simp only [Value.slice.injEq, Option.some.injEq, Addr.mk.injEq, and_true, true_and] at h'
    obtain ⟨rfl, hm2, rfl⟩ := h'
    obtain ⟨cur', h2, h3, h4, h5⟩ := setCells_spec g _ _ vs w m cur hg
    refine .inr ⟨g, cap, cur', by rw [hmy], hb, h2, hnc, hcm, by omega, ?_⟩
    rw [← htake, hmy]
    apply List.ext_getElem?
    intro j
    simp only [List.getElem?_take]
    split
    · rename_i hj; have := h4 j (by omega); simpa using this
    · rfl

theorem zeroU64 : ∀ w, (zeroValue 23).run Try.prog w = .ok (.int .u64 0) w := fun w => by kernel_rfl

theorem row_ints {w : World} {base : Nat} {v : Value} {xs : List Int} (h : Row w base v xs) (hw : ∀ x ∈ xs, (Lit.int .u64 x).wf = true) : ∃ b, Ints .u64 w b v xs := by
  obtain ⟨b, _, h, _⟩ := own1_of_row h hw; exact ⟨b, h⟩

set_option maxRecDepth 100000 in
set_option maxHeartbeats 1000000 in
/-- DeleteFunc at an owned row: what p takes is struck. -/
theorem delf_any (w : World) (base : Nat) (v : Value) (xs : List Int) (h : Row w base v xs) (hwf : ∀ x ∈ xs, (Lit.int .u64 x).wf = true) (hl : xs.length ≤ 17592186044416)
    (gf : FuncId) (lb : Array Value) (Good : World → Prop) (p : Int → Bool) (hp : Pred gf lb Good xs p) (hg : ∀ W, Fr (fun k => v.ownBlock = some k) w W → Good W)
    (eg : ∀ args w, (callFunc gf args).run Try.prog w = .ok (.enter gf args) w) :
    Calls Try.prog 32 #[v, .func (.func gf) #[] lb] w fun e w' => ∃ v', e = .returned v' ∧ Row w' base v' (xs.filter fun x => !p x) ∧ (v' = .slice none 0 0 ∨ v'.ownBlock = v.ownBlock) ∧ Fr (fun k => v.ownBlock = some k) w w' := by
  obtain ⟨b, hI⟩ := row_ints h hwf
  have hidx := idxf_any w b v xs hI gf lb Good p hp (hg w (Fr.refl _ _)) eg
  by_cases hex : ∃ x ∈ xs, p x = true
  · -- something is struck
    have hlen : xs.findIdx p < xs.length := by rw [List.findIdx_lt_length]; exact hex
    rw [idxOr, if_pos hex] at hidx
    obtain ⟨i0, hi0⟩ : ∃ i, xs.findIdx p = i := ⟨_, rfl⟩
    rw [hi0] at hidx hlen
    have hpi0 : p xs[i0] = true := by have := List.findIdx_getElem (p := p) (xs := xs) (w := by omega); simpa [hi0] using this
    have hnone : ∀ x ∈ xs.take i0, p x = false := fun x hx => by
      rw [List.mem_take_iff_getElem] at hx
      obtain ⟨j, hj, rfl⟩ := hx
      have := List.not_of_lt_findIdx (p := p) (xs := xs) (i := j) (by omega)
      simpa using this
    obtain ⟨n, hn⟩ : ∃ n, xs.length = n := ⟨_, rfl⟩
    obtain ⟨g, cap, rfl⟩ : ∃ g cap, v = .slice (some ⟨g, 0, none⟩) n cap := by
      rcases h.2 with ⟨_, h0⟩ | ⟨g, cap, _, hv, _⟩
      · omega
      · exact ⟨g, cap, by rw [hv, hn]⟩
    have h' : w.ownsRow base 23 1 (.slice (some ⟨g, 0, none⟩) n cap) n (xs.map (Value.int .u64)) := by rw [← hn]; rw [← hn] at h; exact h
    have hkept0 : (xs.take (i0 + 1)).filter (fun x => !p x) = xs.take i0 := by
      rw [take_succ xs (by omega), List.filter_append, List.filter_eq_self.2 (fun x hx => by simp [hnone x hx])]
      simp [hpi0]
    have HI := Lib.hid hidx; have HP := Lib.hid hp; have HGd := Lib.hid hg; have HR := Lib.hid h'; have HN := Lib.hid hn; have HK := Lib.hid hkept0
    have hcap : n ≤ cap ∧ cap ≤ 9223372036854775807 := by
      rcases h'.2 with ⟨h0, _⟩ | ⟨g', cap', cur, h0, hb, hg, hnc, hcm, hcs, htake⟩
      · simp at h0
      · simp at h0; obtain ⟨rfl, rfl⟩ := h0; exact ⟨hnc, by unfold maxLen at hcm; omega⟩
    obtain ⟨hc1, hc2⟩ := hcap
    rw [hn] at hl hlen
    clear hidx hp hg h h' hn hI hpi0 hnone hi0 hkept0 hex
    have hi1 : ((i0 : Int) == -1) = false := by rw [beq_eq_false_iff_ne]; omega
    go_enter Try.func32, Try.ntmps32
    go_wp2_with (go_at_call 55; refine (HI.out).mono ?_; rintro e w1 ⟨rfl, rfl⟩)
    go_loopw [5, 6] (fun si sj wr => ∃ (i j : Nat) (ys : List Int), i < j ∧ j ≤ n ∧ si = .int .i64 i ∧ sj = .int .i64 j ∧ Hid (ys.length = n ∧ ys.take i = (xs.take j).filter (fun x => !p x) ∧ ys.drop j = xs.drop j) ∧
        wr.ownsRow base 23 1 (.slice (some ⟨g, 0, none⟩) n cap) n (ys.map (Value.int .u64)) ∧ Fr (fun k => (Value.slice (some ⟨g, 0, none⟩) n cap).ownBlock = some k) w wr) (fun _ sj _ => n - (intOf sj).toNat)
    case atStart => exact ⟨i0, i0 + 1, xs, by omega, by omega, rfl, by go_num, ⟨HN.out, HK.out.symm, rfl⟩, HR.out, Fr.refl _ _⟩
    case round =>
      obtain ⟨i, j, ys, hij, hjn, rfl, rfl, hy, hrow, hfr⟩ := hrel
      by_cases hlt : j < n
      · have hxl : j < xs.length := by rw [HN.out]; exact hlt
        have hcj : wr.cell? ⟨g, j, none⟩ = some (.int .u64 xs[j]) := by
          rw [hrow.cellAt j (by omega)]
          have h1 := congrArg (fun l => l[0]?) hy.out.2.2
          simp only [List.getElem?_drop, Nat.add_zero] at h1
          rw [List.getElem?_map, h1, List.getElem?_eq_getElem hxl]; rfl
        have hci : ∃ u, wr.cell? ⟨g, i, none⟩ = some u := by
          rw [hrow.cellAt i (by omega)]
          exact ⟨_, List.getElem?_eq_getElem (by simp; have := hy.out.1; omega)⟩
        obtain ⟨u, hci⟩ := hci
        have hfi := hrow.frozenAt i
        have hcall := HP.out xs[j] (List.getElem_mem hxl) wr (HGd.out wr hfr)
        obtain ⟨xj, hxj⟩ : ∃ x, xs[j] = x := ⟨_, rfl⟩
        have htk : (xs.take (j + 1)).filter (fun x => !p x) = (xs.take j).filter (fun x => !p x) ++ (if p xj = true then [] else [xj]) := by
          rw [take_succ xs hxl, List.filter_append, hxj]
          cases hpx : p xj <;> simp [hpx]
        have hdr : xs.drop (j + 1) = ys.drop (j + 1) := by
          have := congrArg (fun l => l.drop 1) hy.out.2.2
          simpa [List.drop_drop, Nat.add_comm] using this.symm
        rw [hxj] at hcj hcall
        have HCALL := Lib.hid hcall; have HRW := Lib.hid hrow; have HTK := Lib.hid htk; have HDR := Lib.hid hdr; have HFR := Lib.hid hfr
        clear hcall hrow htk hdr hxj hfr
        cases hpx : p xj with
        | true =>
          rw [hpx] at HCALL HTK
          clear hfi hci
          go_wp2_with (refine (HCALL.out).mono ?_; rintro e w' ⟨rfl, rfl⟩)
          go_roundw
          case rel => exact ⟨i, j + 1, ys, by omega, by omega, rfl, by go_num, ⟨hy.out.1, by rw [HTK.out, hy.out.2.1]; simp, HDR.out.symm⟩, HRW.out, HFR.out⟩
          case measure => simp [intOf]; omega
        | false =>
          rw [hpx] at HCALL HTK
          go_wp2_with (refine (HCALL.out).mono ?_; rintro e w' ⟨rfl, rfl⟩)
          go_roundw
          case rel =>
            obtain ⟨hs1, hs2⟩ := HRW.out.stored i (.int .u64 xj)
            refine ⟨i + 1, j + 1, ys.set i xj, by omega, by omega, by go_num, by go_num, ⟨by simpa using hy.out.1, ?_, ?_⟩, by simpa [List.map_set] using hs1, HFR.out.setCell (p := ⟨g, i, none⟩) (.inl rfl) _⟩
            · rw [HTK.out, ← hy.out.2.1]
              have : i < ys.length := by have := hy.out.1; omega
              have hts : (ys.set i xj).take i = ys.take i := by
                apply List.ext_getElem?
                intro t
                simp only [List.getElem?_take]
                split
                · rw [List.getElem?_set_ne (by omega)]
                · rfl
              rw [take_succ _ (by simpa using this), hts]
              simp
            · rw [HDR.out, List.drop_set]; rw [if_pos (by omega)]
          case measure => simp [intOf]; omega
      · obtain rfl : j = n := by omega
        have hcl : ∀ ty, (Builtin.clear_ #[22] ty #[.slice (some ⟨g, i, none⟩) (j - i) (cap - i)]).run Try.prog wr = .ok (.tuple #[]) (wr.setCells g i (List.replicate (j - i) (.int .u64 0))) := fun ty =>
          Lib.run_clear_slice wr 22 23 ty (.int .u64 0) Try.underlying22 zeroU64 rfl rfl g i _ _ (by omega) (fun t ht => by rw [hrow.cellAt _ (by omega), List.getElem?_eq_getElem (by simp; have := hy.out.1; omega)]; rfl) (fun t ht => hrow.frozenAt _)
        have HRW := Lib.hid hrow; have HFR := Lib.hid hfr
        clear hrow hfr
        have hne : ¬ cap = i := by omega
        go_wp2
        go_ret
        have hfin : ys.take i = xs.filter fun x => !p x := by
          rw [hy.out.2.1, List.take_of_length_le (by rw [HN.out]; exact Nat.le_refl _)]
        have hrc := row_clear (m := i) (List.replicate (j - i) (.int .u64 0)) HRW.out (by omega)
        rw [hfin] at hrc
        refine ⟨_, rfl, hrc, .inr rfl, ?_⟩
        obtain ⟨cur, hcur⟩ := ownsRow_elem HRW.out (g := g) rfl
        obtain ⟨_, _, _, _, h5⟩ := setCells_spec g _ _ (List.replicate (j - i) (.int .u64 0)) wr i cur hcur
        exact HFR.out.trans h5 fun k hk => .inl (by rw [hk]; rfl)
  · -- nothing is struck
    rw [idxOr, if_neg hex] at hidx
    have hfil : xs.filter (fun x => !p x) = xs := List.filter_eq_self.2 fun x hx => by
      cases hpx : p x
      · rfl
      · exact absurd ⟨x, hx, hpx⟩ hex
    have HR := Lib.hid h
    clear h hex hp hg hI
    go_enter Try.func32, Try.ntmps32
    go_wp2_with (go_at_call 55; refine hidx.mono ?_; rintro e w1 ⟨rfl, rfl⟩)
    go_ret
    exact ⟨v, rfl, by rw [hfil]; exact HR.out, .inr rfl, Fr.refl _ _⟩

end Go.Proofs.Ytldboadcglofaaa
