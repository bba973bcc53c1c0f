/- Rows of structs. slices.IndexFunc, ContainsFunc at writes; txn.writes, ended. Rows of structs: owned, read, cloned. slices.DeleteFunc at writes, over a row that the caller owns. -/
import Derived.Maps.RangeWalk
import Derived.Maps.OwnSet
import Derived.Sort.OwnSorted
import Derived.StringKeys
import Derived.Deep.QuietTactic
import Derived.Deep.RegionHeld3
import Derived.Test.YtefepfiijoafbaaGreatQBS
import Derived.Test.YtefepfiijoafbaaGreatQInsC
namespace Go.Proofs.YtefepfiijoafbaaGreat
open Go.RowKit Go.Shelf Go.Maps
set_option linter.unusedVariables false
set_option linter.unusedSimpArgs false

def litS (s : ByteArray) : Lit := .string s.data.toList
def mkS (l : List UInt8) : ByteArray := ⟨l.toArray⟩
/-- A slice of structs. -/
def RowsK {α : Type} (enc : α → List Value) (n : Nat) (w : World) (b : Nat) (v : Value) (xs : List α) : Prop :=
  ∃ a off cap, v = .slice a xs.length cap ∧ xs.length ≤ cap ∧ cap ≤ 9223372036854775807 ∧ (0 < xs.length → a = some ⟨b, off, none⟩) ∧ (a = none → cap = 0) ∧
    ∀ i (h : i < xs.length) c, c < n → w.cell? ⟨b, off + i * n + c, none⟩ = (enc xs[i])[c]?
theorem RowsK.fr0 {α : Type} {enc : α → List Value} {n : Nat} (hn : ∀ x, (enc x).length = n) {w w' : World} {b : Nat} {v : Value} {xs : List α} (h : RowsK enc n w b v xs) (hf : Fr N0 w w') : RowsK enc n w' b v xs := by
  obtain ⟨a, off, cap, h1, h2, h3, h4, h5, h6⟩ := h
  refine ⟨a, off, cap, h1, h2, h3, h4, h5, fun i hi c hc => ?_⟩
  have hc' : c < (enc xs[i]).length := by rw [hn]; exact hc
  have := h6 i hi c hc
  rw [List.getElem?_eq_getElem hc'] at this ⊢
  exact hf.cell (p := ⟨b, off + i * n + c, none⟩) id this
abbrev Wrs (w : World) (b : Nat) (v : Value) (xs : List Wr) : Prop := RowsK Wr.enc 8 w b v xs
theorem Wrs.fr0 {w w' : World} {b : Nat} {v : Value} {xs : List Wr} (h : Wrs w b v xs) (hf : Fr N0 w w') : Wrs w' b v xs := RowsK.fr0 (enc := Wr.enc) (n := 8) (fun _ => rfl) h hf

/-- The eight cells of a write. -/
theorem wr_cells {W : World} {b p : Nat} {x : Wr} (h : ∀ c, c < 8 → W.cell? ⟨b, p + c, none⟩ = x.enc[c]?) :
    W.cell? ⟨b, p, none⟩ = some (.bool x.del) ∧ W.cell? ⟨b, p + 1, none⟩ = some (.int .u64 x.uid) ∧ W.cell? ⟨b, p + 2, none⟩ = some (.string x.pred) ∧ W.cell? ⟨b, p + 3, none⟩ = some (.int .u8 x.val.k) ∧
    W.cell? ⟨b, p + 4, none⟩ = some (.bool x.val.b) ∧ W.cell? ⟨b, p + 5, none⟩ = some (.int .i64 x.val.n) ∧ W.cell? ⟨b, p + 6, none⟩ = some (.string x.val.s) ∧ W.cell? ⟨b, p + 7, none⟩ = some (.int .u64 x.val.u) :=
  ⟨h 0 (by omega), h 1 (by omega), h 2 (by omega), h 3 (by omega), h 4 (by omega), h 5 (by omega), h 6 (by omega), h 7 (by omega)⟩

end Go.Proofs.YtefepfiijoafbaaGreat
namespace Go.Proofs.YtefepfiijoafbaaGreat
open Go.RowKit Go.Shelf Go.Maps Go.Sort
attribute [local go_sem] Oper.semAt_some
attribute [local irreducible] wpQuiet
set_option linter.unusedVariables false
set_option linter.unusedSimpArgs false

/-- The first place of which p is so; -1: none. -/
def idxW {α : Type} (xs : List α) (p : α → Bool) : Int := if xs.findIdx p < xs.length then xs.findIdx p else -1
theorem idxW_at {α : Type} {xs : List α} {p : α → Bool} {k : Nat} (h : k < xs.length) (hn : ∀ j (h : j < xs.length), j < k → p xs[j] = false) (hk : p xs[k] = true) : idxW xs p = k := by
  have := (List.findIdx_eq (p := p) h).2 ⟨hk, fun j hj => by simpa using hn j (by omega) hj⟩
  rw [idxW, this, if_pos h]
theorem idxW_none {α : Type} {xs : List α} {p : α → Bool} (hn : ∀ j (h : j < xs.length), j < xs.length → p xs[j] = false) : idxW xs p = -1 := by
  have : xs.findIdx p = xs.length := by
    rw [List.findIdx_eq_length]
    intro s hs
    obtain ⟨j, hj, rfl⟩ := List.getElem_of_mem hs
    exact hn j hj hj
  rw [idxW, this, if_neg (by omega)]
theorem idxW_ge {α : Type} {xs : List α} {p : α → Bool} : decide (0 ≤ idxW xs p) = xs.any p := by
  by_cases h : xs.findIdx p < xs.length
  · rw [idxW, if_pos h]
    have h2 := List.findIdx_getElem (w := h)
    have : xs.any p = true := List.any_eq_true.2 ⟨_, List.getElem_mem h, h2⟩
    rw [this]; simp
  · rw [idxW, if_neg h]
    have : xs.any p = false := by
      rw [Bool.eq_false_iff]; intro h2
      obtain ⟨x, hx, hp⟩ := List.any_eq_true.1 h2
      exact h (List.findIdx_lt_length_of_exists ⟨x, hx, hp⟩)
    rw [this]; decide

/-- A function value that answers p at each of some writes, from a world on, and changes nothing that lay. -/
def PredW (w : World) (gf : FuncId) (lb : Array Value) (xs : List Wr) (p : Wr → Bool) : Prop :=
  ∀ x ∈ xs, ∀ W, Fr N0 w W → Calls Tryz.prog gf (#[.agg x.enc.toArray] ++ lb) W fun e w' => e = .returned (.bool (p x)) ∧ Fr N0 W w'

set_option maxRecDepth 100000 in
set_option maxHeartbeats 2000000 in
theorem idxFW_any (w : World) (b : Nat) (v : Value) (xs : List Wr) (h : Wrs w b v xs) (hl : xs.length ≤ 1000000) (gf : FuncId) (lb : Array Value) (p : Wr → Bool) (hp : PredW w gf lb xs p)
    (eg : ∀ args w, (callFunc gf args).run Tryz.prog w = .ok (.enter gf args) w) :
    Calls Tryz.prog 181 #[v, .func (.func gf) #[] lb] w fun e w' => e = .returned (.int .i64 (idxW xs p)) ∧ Fr N0 w w' := by
  obtain ⟨a, off, cap, rfl, h1, h2, h3, h4, h5⟩ := h
  have HC := Lib.hid h5; have HP := Lib.hid hp; clear h5 hp h4
  go_enter Tryz.func181, Tryz.ntmps181
  go_wp2
  go_loopw [8] (fun i wr => ∃ k : Nat, k ≤ xs.length ∧ i = .int .i64 k ∧ Hid (∀ j (h : j < xs.length), j < k → p xs[j] = false) ∧ Fr N0 w wr) (fun i _ => xs.length - (intOf i).toNat)
  case atStart => exact ⟨0, Nat.zero_le _, rfl, fun j h hj => by omega, Fr.refl _ _⟩
  case round =>
    obtain ⟨k, hk, rfl, hn, hfr⟩ := hrel
    by_cases hlt : k < xs.length
    · obtain rfl := h3 (by omega)
      obtain ⟨c0, c1, c2, c3, c4, c5, c6, c7⟩ := wr_cells (W := w) (HC.out k hlt)
      replace c0 := hfr.cell id c0; replace c1 := hfr.cell id c1; replace c2 := hfr.cell id c2; replace c3 := hfr.cell id c3
      replace c4 := hfr.cell id c4; replace c5 := hfr.cell id c5; replace c6 := hfr.cell id c6; replace c7 := hfr.cell id c7
      have hcall := HP.out xs[k] (List.getElem_mem hlt)
      have hnx : p xs[k] = false → ∀ j (h : j < xs.length), j < k + 1 → p xs[j] = false := fun he j h hj => by
        rcases Nat.lt_or_ge j k with h' | h'
        · exact hn.out j h h'
        · have : j = k := by omega
          subst this; exact he
      have hfd : p xs[k] = true → idxW xs p = k := fun he => idxW_at hlt hn.out he
      obtain ⟨x, hx⟩ : ∃ x, xs[k] = x := ⟨_, rfl⟩
      simp only [hx] at c0 c1 c2 c3 c4 c5 c6 c7 hcall hnx hfd
      obtain ⟨q, hq⟩ : ∃ q, p x = q := ⟨_, rfl⟩
      rw [hq] at hcall hnx hfd
      obtain ⟨xd, xu, xp, vk, vb, vn, vs, vu⟩ := x
      unfold Wr.enc at hcall
      simp only at c0 c1 c2 c3 c4 c5 c6 c7 hcall
      have hki : (k : Int) < (xs.length : Int) := by omega
      have HX := Lib.hid hcall; have HNX := Lib.hid hnx; have HFD := Lib.hid hfd
      clear hcall hx hq hnx hfd hn
      cases q with
      | true =>
        have hF := Lib.hid (HFD.out rfl)
        clear HFD HNX
        go_wp2_with (refine (HX.out _ hfr).mono ?_; rintro e w1 ⟨rfl, hf1⟩)
        go_ret
        exact ⟨ret_int hF.out.symm, hfr.then0 hf1⟩
      | false =>
        have hF := Lib.hid (HNX.out rfl)
        clear HFD HNX
        go_wp2_with (refine (HX.out _ hfr).mono ?_; rintro e w1 ⟨rfl, hf1⟩)
        go_roundw
        case rel => exact ⟨k + 1, by omega, by go_num, hF.out, hfr.then0 hf1⟩
        case measure => simp [intOf]; omega
    · obtain rfl : k = xs.length := by omega
      have hF := Lib.hid (idxW_none hn.out)
      clear hn
      go_wp2
      go_ret
      exact ⟨ret_int hF.out.symm, hfr⟩

set_option maxRecDepth 100000 in
set_option maxHeartbeats 1000000 in
theorem contFW_any (w : World) (b : Nat) (v : Value) (xs : List Wr) (h : Wrs w b v xs) (hl : xs.length ≤ 1000000) (gf : FuncId) (lb : Array Value) (p : Wr → Bool) (hp : PredW w gf lb xs p)
    (eg : ∀ args w, (callFunc gf args).run Tryz.prog w = .ok (.enter gf args) w) :
    Calls Tryz.prog 113 #[v, .func (.func gf) #[] lb] w fun e w' => e = .returned (.bool (xs.any p)) ∧ Fr N0 w w' := by
  have hc := idxFW_any w b v xs h hl gf lb p hp eg
  have HC := Lib.hid hc
  clear hc hp h
  go_enter Tryz.func113, Tryz.ntmps113
  go_wp2_with (go_at_call 181; go_loud (refine HC.out.mono ?_); rintro e w1 ⟨rfl, hf1⟩)
  go_ret
  exact ⟨ret_bool idxW_ge, hf1⟩
end Go.Proofs.YtefepfiijoafbaaGreat
namespace Go.Proofs.YtefepfiijoafbaaGreat
open Go.RowKit Go.Shelf Go.Maps Go.Sort
attribute [local go_sem] Oper.semAt_some
set_option linter.unusedVariables false
set_option linter.unusedSimpArgs false

theorem RowsK.nil {α : Type} (enc : α → List Value) (n : Nat) (w : World) (b : Nat) : RowsK enc n w b (.slice none 0 0) [] := ⟨none, 0, 0, rfl, Nat.le_refl _, by omega, by simp, by simp, by simp⟩
theorem ownsRow_fr {w w' : World} {T : Nat → Prop} {base : Nat} {e : TypeId} {size : Nat} {v : Value} {n : Nat} {xs : List Value} (h : w.ownsRow base e size v n xs) (hf : Fr T w w') (ht : ∀ k, v.ownBlock = some k → ¬ T k) : w'.ownsRow base e size v n xs := by
  refine ⟨h.1, ?_⟩
  rcases h.2 with hn | ⟨g, cap, cur, rfl, hb, hg, rest⟩
  · exact .inl hn
  · exact .inr ⟨g, cap, cur, rfl, hb, (hf.at (k := g) (ht g rfl) (lt_of_block hg)).trans hg, rest⟩
theorem _root_.Go.World.ownsRow.fr0 {w w' : World} {base : Nat} {e : TypeId} {size : Nat} {v : Value} {n : Nat} {xs : List Value} (h : w.ownsRow base e size v n xs) (hf : Fr N0 w w') : w'.ownsRow base e size v n xs := ownsRow_fr h hf fun _ _ => id
theorem ownsRow_lt {w : World} {base : Nat} {e : TypeId} {size : Nat} {v : Value} {n : Nat} {xs : List Value} (h : w.ownsRow base e size v n xs) : ∀ k, v.ownBlock = some k → base ≤ k ∧ k < w.heap.size := fun k hk => by
  rcases h.2 with ⟨rfl, _⟩ | ⟨g, cap, cur, rfl, hb, hg, _⟩
  · cases hk
  · simp only [Value.ownBlock, Option.some.injEq] at hk
    subst hk
    exact ⟨hb, lt_of_block hg⟩
theorem flat_length {α : Type} {enc : α → List Value} {n : Nat} (hn : ∀ x, (enc x).length = n) : ∀ xs : List α, (xs.flatMap enc).length = xs.length * n
  | [] => by simp
  | x :: xs => by rw [List.flatMap_cons, List.length_append, hn, flat_length hn xs, List.length_cons, Nat.succ_mul, Nat.add_comm]
theorem flat_get {α : Type} {enc : α → List Value} {n : Nat} (hn : ∀ x, (enc x).length = n) : ∀ (xs : List α) (i : Nat) (h : i < xs.length) (c : Nat), c < n → (xs.flatMap enc)[i * n + c]? = (enc xs[i])[c]?
  | [], i, h, c, hc => by simp at h
  | x :: xs, 0, h, c, hc => by
    rw [List.flatMap_cons, Nat.zero_mul, Nat.zero_add, List.getElem?_append_left (by rw [hn]; exact hc)]; rfl
  | x :: xs, i + 1, h, c, hc => by
    rw [List.flatMap_cons, List.getElem?_append_right (by rw [hn, Nat.succ_mul]; omega), hn, show (i + 1) * n + c - n = i * n + c by rw [Nat.succ_mul]; omega]
    exact flat_get hn xs i (by simpa using h) c hc
theorem flat_snoc {α : Type} (enc : α → List Value) (xs : List α) (x : α) : (xs ++ [x]).flatMap enc = xs.flatMap enc ++ enc x := by simp
theorem rowsK_of_row {α : Type} {enc : α → List Value} {n : Nat} (hn : ∀ x, (enc x).length = n) (h0 : 0 < n) {w : World} {base : Nat} {e : TypeId} {v : Value} {xs : List α} (h : w.ownsRow base e n v xs.length (xs.flatMap enc)) :
    ∃ b, base ≤ b ∧ RowsK enc n w b v xs := by
  rcases h.2 with ⟨hv, h1⟩ | ⟨g, cap, cur, hv, hgb, hgg, hnc, hcm, hcs, htk⟩
  · have : xs = [] := List.eq_nil_of_length_eq_zero h1
    subst this; rw [hv]; exact ⟨base, Nat.le_refl _, RowsK.nil _ _ _ _⟩
  · refine ⟨g, hgb, some ⟨g, 0, none⟩, 0, cap, hv, hnc, by unfold maxLen at hcm; omega, fun _ => rfl, by simp, fun i hi c hc => ?_⟩
    have hlt : i * n + c < xs.length * n := by
      have : (i + 1) * n ≤ xs.length * n := Nat.mul_le_mul_right _ hi
      rw [Nat.succ_mul] at this; omega
    have h2 : (cur.toList.take (xs.length * n))[i * n + c]? = (xs.flatMap enc)[i * n + c]? := by rw [htk]
    rw [List.getElem?_take_of_lt hlt, flat_get hn xs i hi c hc] at h2
    rw [Nat.zero_add]
    simp only [World.cell?, hgg]
    simp only [Option.isSome_none, Bool.false_eq_true, if_false]
    rw [← Array.getElem?_toList, h2]
theorem addr_add (b o j : Nat) : (⟨b, o, none⟩ : Addr).add j = ⟨b, o + j, none⟩ := by unfold Addr.add; split <;> simp_all
theorem rows_news {α : Type} {enc : α → List Value} {n : Nat} (hn : ∀ x, (enc x).length = n) (h0 : 0 < n) {w : World} {b : Nat} {a : Addr} {len cap : Nat} {xs : List α} (h : RowsK enc n w b (.slice (some a) len cap) xs) : ∀ j u, (xs.flatMap enc)[j]? = some u → w.cell? (a.add j) = some u := by
  intro j u hu
  obtain ⟨a', off, cap', hv, h1, h2, h3, h4, h5⟩ := h
  simp only [Value.slice.injEq] at hv
  obtain ⟨rfl, rfl, rfl⟩ := hv
  have hj : j < xs.length * n := by
    rcases Nat.lt_or_ge j (xs.length * n) with hlt | hge
    · exact hlt
    · rw [List.getElem?_eq_none (by rw [flat_length hn]; exact hge)] at hu; cases hu
  have hpos : 0 < xs.length := by
    rcases Nat.eq_zero_or_pos xs.length with h | h
    · rw [h] at hj; simp at hj
    · exact h
  have := h3 hpos
  simp only [Option.some.injEq] at this
  subst this
  have hi : j / n < xs.length := Nat.div_lt_of_lt_mul (by rw [Nat.mul_comm]; exact hj)
  have hc : j % n < n := Nat.mod_lt _ h0
  have hjj : j / n * n + j % n = j := by rw [Nat.mul_comm]; exact Nat.div_add_mod j n
  have h6 := h5 (j / n) hi (j % n) hc
  have h7 := flat_get hn xs (j / n) hi (j % n) hc
  rw [hjj] at h7
  rw [addr_add, show off + j = off + j / n * n + j % n by omega, h6, ← h7, hu]
theorem one_cells {α : Type} {enc : α → List Value} (h : ∀ x, ∀ u ∈ enc x, u.oneCell' = true) (xs : List α) : ∀ u ∈ xs.flatMap enc, u.oneCell' = true := by
  intro u hu
  obtain ⟨x, _, hx⟩ := List.mem_flatMap.1 hu
  exact h x u hx

abbrev zeroWrV : Value := .agg #[.bool false, .int .u64 0, .string ⟨#[]⟩, .int .u8 0, .bool false, .int .i64 0, .string ⟨#[]⟩, .int .u64 0]
theorem infoWr : (Tryz.prog.info? 61).map (fun i => (i.zero, i.size, i.bytes)) = some (some zeroWrV, 8, 72) := by kernel_rfl
theorem wr_one : ∀ (x : Wr), ∀ u ∈ x.enc, u.oneCell' = true := by intro x u hu; simp [Wr.enc] at hu; rcases hu with h | h | h | h | h | h | h | h <;> subst h <;> rfl

set_option maxRecDepth 100000 in
set_option maxHeartbeats 1000000 in
theorem cloneW_any (w : World) (b : Nat) (v : Value) (xs : List Wr) (h : Wrs w b v xs) (hl : xs.length ≤ 1000000) :
    Calls Tryz.prog 64 #[v] w fun e w' => ∃ v', e = .returned v' ∧ w'.ownsRow w.heap.size 61 8 v' xs.length (xs.flatMap Wr.enc) ∧ (v = .slice none 0 0 → v' = .slice none 0 0) ∧ Fr N0 w w' := by
  obtain ⟨i0, hi, hz0, hz1, hz2⟩ := info_parts infoWr
  have h' := h
  have hq := fun (w : World) a n c => Lib.run_eql_slice_nil (P := Tryz.prog) w 34 61 a n c 0 0 Tryz.underlying34
  obtain ⟨a, off, cap, rfl, h1, h2, h3, h4, h5⟩ := h
  cases a with
  | none =>
    have hc := h4 rfl
    subst hc
    obtain rfl : xs = [] := List.eq_nil_of_length_eq_zero (by omega)
    go_enter Tryz.func64, Tryz.ntmps64
    go_wp2
    go_ret
    exact ⟨_, rfl, World.ownsRow_nil _ _ _ _, by simp, Fr.refl _ _⟩
  | some a =>
    have hnews := rows_news (enc := Wr.enc) (n := 8) (fun _ => rfl) (by decide) h'
    clear h' h3 h4 h5
    have hnews' : ∀ (j : Nat) (u : Value), (xs.flatMap Wr.enc)[j]? = some u → (w.alloc (.cells #[] 61)).cell? (a.add j) = some u := fun j u hu =>
      ((Fr.refl N0 w).alloc _).cell (fun h => h) (hnews j u hu)
    have hown := World.ownsRow_lit (base := w.heap.size) (e := 61) (size := 8) w #[] 0 (Nat.le_refl _) (by simp [maxLen]) rfl
    have hlen : (xs.flatMap Wr.enc).length = xs.length * 8 := flat_length (enc := Wr.enc) (n := 8) (fun _ => rfl) xs
    have HN := Lib.hid hnews'; have HO := Lib.hid hown; have HL := Lib.hid hlen
    clear hnews hnews' hown hlen
    go_enter Tryz.func64, Tryz.ntmps64
    go_wp2_with (at_builtin; go_loud (refine wpList_append_own _ rfl _ _ 34 rfl w.heap.size 61 i0 zeroWrV 8 72 Tryz.underlying34 hi hz0 hz1 hz2 rfl (by decide) _ _ _ rfl HO.out a xs.length cap (xs.flatMap Wr.enc) rfl HL.out HN.out (one_cells wr_one xs) (by unfold maxLen; omega) (by omega) (by simp) ?_); intro v' w1 hown' hgrow _)
    go_ret
    refine ⟨v', rfl, by simpa using hown', ((Fr.refl _ _).alloc _).grown hgrow (fun k e => .inr ?_)⟩
    have e' : some w.heap.size = some k := e
    cases e'; exact Nat.le_refl _
end Go.Proofs.YtefepfiijoafbaaGreat
namespace Go.Proofs.YtefepfiijoafbaaGreat
open Go.RowKit Go.Shelf Go.Maps Go.Sort
attribute [local go_sem] Oper.semAt_some
attribute [local irreducible] wpQuiet
set_option linter.unusedVariables false
set_option linter.unusedSimpArgs false

theorem setCells_specW (g : Nat) (e : TypeId) (fr : Nat × Nat) : ∀ (vs : List Value) (w : World) (o : Nat) (cur : Array Value), w.heap[g]? = some (.cells cur e fr) →
    ∃ cur', (w.setCells g o vs).heap[g]? = some (.cells cur' e fr) ∧ cur'.size = cur.size ∧ (∀ j, j < o → cur'[j]? = cur[j]?) ∧ Fr (fun k => k = g) w (w.setCells g o vs)
  | [], w, o, cur, h => ⟨cur, h, rfl, fun _ _ => rfl, Fr.refl _ _⟩
  | v :: vs, w, o, cur, h => by
    have h1 : (w.setCell ⟨g, o, none⟩ v).heap[g]? = some (.cells (cur.setIfInBounds o v) e fr) := by
      have hl := lt_of_block h
      simp only [World.setCell, Array.getElem?_modify]
      simp [h]
    obtain ⟨cur', h2, h3, h4, h5⟩ := setCells_specW g e fr vs (w.setCell ⟨g, o, none⟩ v) (o + 1) _ h1
    exact ⟨cur', h2, by simpa using h3, fun j hj => by rw [h4 j (by omega)]; simp [Array.getElem?_setIfInBounds]; omega, ((Fr.refl (fun k => k = g) w).setCell (p := ⟨g, o, none⟩) (.inl rfl) _).trans h5 fun k hk => .inl hk⟩

/-- An owned row of k-cell elements, its rest cleared. -/
theorem row_clearK {α : Type} {enc : α → List Value} {k : Nat} (hk : ∀ x, (enc x).length = k) {w : World} {base g n cap : Nat} {e : TypeId} {ys : List α} {m : Nat} (vs : List Value)
    (h : w.ownsRow base e k (.slice (some ⟨g, 0, none⟩) n cap) n (ys.flatMap enc)) (hn : ys.length = n) (hm : m ≤ n) :
    (w.setCells g (m * k) vs).ownsRow base e k (.slice (some ⟨g, 0, none⟩) m cap) m ((ys.take m).flatMap enc) := by
  have hmy : (ys.take m).length = m := by simp; omega
  rcases h.2 with ⟨h', _⟩ | ⟨g', cap', cur, h', hb, hg, hnc, hcm, hcs, htake⟩
  · simp at h'
  · simp only [Value.slice.injEq, Option.some.injEq, Addr.mk.injEq, and_true, true_and] at h'
    obtain ⟨rfl, rfl⟩ := h'
    obtain ⟨cur', h2, h3, h4, h5⟩ := setCells_specW g _ _ vs w (m * k) cur hg
    have hmk : m * k ≤ n * k := Nat.mul_le_mul_right _ hm
    have hflat : (ys.take m).flatMap enc = (ys.flatMap enc).take (m * k) := by
      have h6 : ys.flatMap enc = (ys.take m).flatMap enc ++ (ys.drop m).flatMap enc := by rw [← List.flatMap_append, List.take_append_drop]
      rw [h6, List.take_left' (by rw [flat_length hk, hmy])]
    refine ⟨by rw [flat_length hk, hmy], .inr ⟨g, cap, cur', rfl, hb, h2, by omega, hcm, by omega, ?_⟩⟩
    rw [hflat, ← htake, List.take_take, Nat.min_eq_left hmk]
    apply List.ext_getElem?
    intro j
    simp only [List.getElem?_take]
    split
    · rename_i hj; have := h4 j (by omega); simpa using this
    · rfl

/-- One element of a row of writes stored anew. -/
theorem row_storedW {w : World} {base g n cap : Nat} {ys : List Wr} {i : Nat} (x : Wr) (h : w.ownsRow base 61 8 (.slice (some ⟨g, 0, none⟩) n cap) n (ys.flatMap Wr.enc)) (hi : i < ys.length) :
    ((((((((w.setCell ⟨g, i * 8, none⟩ (.bool x.del)).setCell ⟨g, i * 8 + 1, none⟩ (.int .u64 x.uid)).setCell ⟨g, i * 8 + 2, none⟩ (.string x.pred)).setCell ⟨g, i * 8 + 3, none⟩ (.int .u8 x.val.k)).setCell ⟨g, i * 8 + 4, none⟩ (.bool x.val.b)).setCell ⟨g, i * 8 + 5, none⟩ (.int .i64 x.val.n)).setCell ⟨g, i * 8 + 6, none⟩ (.string x.val.s)).setCell ⟨g, i * 8 + 7, none⟩ (.int .u64 x.val.u)).ownsRow base 61 8 (.slice (some ⟨g, 0, none⟩) n cap) n ((ys.set i x).flatMap Wr.enc) := by
  have h8 := ((((((((h.stored (i * 8) (.bool x.del)).1.stored (i * 8 + 1) (.int .u64 x.uid)).1.stored (i * 8 + 2) (.string x.pred)).1.stored (i * 8 + 3) (.int .u8 x.val.k)).1.stored (i * 8 + 4) (.bool x.val.b)).1.stored (i * 8 + 5) (.int .i64 x.val.n)).1.stored (i * 8 + 6) (.string x.val.s)).1.stored (i * 8 + 7) (.int .u64 x.val.u)).1
  have hl : ((ys.take i).flatMap Wr.enc).length = i * 8 := by rw [flat_length (enc := Wr.enc) (n := 8) (fun _ => rfl), List.length_take]; congr 1; omega
  have h1 : ys.flatMap Wr.enc = (ys.take i).flatMap Wr.enc ++ (ys[i].enc ++ (ys.drop (i + 1)).flatMap Wr.enc) := by
    conv => lhs; rw [← List.take_append_drop i ys, List.flatMap_append, List.drop_eq_getElem_cons hi, List.flatMap_cons]
  have h2 : (ys.set i x).flatMap Wr.enc = (ys.take i).flatMap Wr.enc ++ (x.enc ++ (ys.drop (i + 1)).flatMap Wr.enc) := by
    rw [List.set_eq_take_append_cons_drop, if_pos hi, List.flatMap_append, List.flatMap_cons]
  rw [h2]
  rw [h1] at h8
  obtain ⟨A, hA⟩ : ∃ A, (ys.take i).flatMap Wr.enc = A := ⟨_, rfl⟩
  obtain ⟨B, hB⟩ : ∃ B, (ys.drop (i + 1)).flatMap Wr.enc = B := ⟨_, rfl⟩
  rw [hA, hB] at h8
  rw [hA, hB]
  rw [hA] at hl
  have hset : ∀ (L : List Value) (c : Nat) (v : Value), (A ++ L).set (i * 8 + c) v = A ++ L.set c v := fun L c v => by
    rw [List.set_append_right _ _ (by omega), hl, Nat.add_sub_cancel_left]
  have hset0 : ∀ (L : List Value) (v : Value), (A ++ L).set (i * 8) v = A ++ L.set 0 v := fun L v => hset L 0 v
  rw [hset0, hset, hset, hset, hset, hset, hset, hset] at h8
  simpa [Wr.enc] using h8

/-- 'clear(s)' of n > 0 elements of several cells each. -/
theorem run_clear_cells {P : Program} (w : World) (t e ty : TypeId) (z : Value) (ht : P.underlying t = some (.slice e)) (hv : ∀ w, (zeroValue e).run P w = .ok z w) (b o n c : Nat) (hn : 0 < n) (h1 : ∀ u ∈ z.cells.toList, u.oneCell' = true)
    (hc : ∀ j, j < n * z.cells.size → (w.cell? ⟨b, o + j, none⟩).isSome = true) (hf : ∀ j, j < n * z.cells.size → w.frozen? ⟨b, o + j, none⟩ = false) :
    (Builtin.clear_ #[t] ty #[.slice (some ⟨b, o, none⟩) n c]).run P w = .ok (.tuple #[]) (w.setCells b o (Builtin.zeroCells z.cells n).toList) := by
  have hsz : (Builtin.zeroCells z.cells n).toList.length = n * z.cells.size := by simp [Builtin.zeroCells]
  have hone : ∀ v ∈ (Builtin.zeroCells z.cells n).toList, v.oneCell' = true := by
    intro v hv'
    simp only [Builtin.zeroCells, Array.toList_map, List.mem_map] at hv'
    obtain ⟨i, hi, rfl⟩ := hv'
    have hi' : i < n * z.cells.size := by simpa using hi
    have hpos : 0 < z.cells.size := by
      rcases Nat.eq_zero_or_pos z.cells.size with h | h
      · rw [h] at hi'; simp at hi'
      · exact h
    have hm : i % z.cells.size < z.cells.size := Nat.mod_lt _ hpos
    rw [getElem!_pos z.cells _ hm]
    exact h1 _ (Array.getElem_mem_toList hm)
  have hst := run_storeCells_cells (P := P) b o (Builtin.zeroCells z.cells n).toList 0 w (by rw [hsz]; simpa using hc) (by rw [hsz]; simpa using hf) hone
  simp only [Nat.add_zero] at hst
  obtain ⟨m, rfl⟩ : ∃ m, n = m + 1 := ⟨n - 1, by omega⟩
  simp [Builtin.clear_, run_underlying ht, hv, hst]

theorem zeroWrR : ∀ w, (zeroValue 61).run Tryz.prog w = .ok zeroWrV w := fun w => by kernel_rfl

set_option maxRecDepth 100000 in
set_option maxHeartbeats 4000000 in
/-- DeleteFunc at an owned row of writes: what p takes is struck. -/
theorem delFW_any (w : World) (base : Nat) (v : Value) (xs : List Wr) (h : w.ownsRow base 61 8 v xs.length (xs.flatMap Wr.enc)) (hl : xs.length ≤ 1000000)
    (gf : FuncId) (lb : Array Value) (p : Wr → Bool) (hp : ∀ x ∈ xs, ∀ W, Fr (fun k => v.ownBlock = some k) w W → Calls Tryz.prog gf (#[.agg x.enc.toArray] ++ lb) W fun e w' => e = .returned (.bool (p x)) ∧ Fr N0 W w')
    (eg : ∀ args w, (callFunc gf args).run Tryz.prog w = .ok (.enter gf args) w) :
    Calls Tryz.prog 186 #[v, .func (.func gf) #[] lb] w fun e w' => ∃ v', e = .returned v' ∧ w'.ownsRow base 61 8 v' (xs.filter fun x => !p x).length ((xs.filter fun x => !p x).flatMap Wr.enc) ∧ Fr (fun k => v.ownBlock = some k) w w' := by
  obtain ⟨b, hbb, hI⟩ := rowsK_of_row (enc := Wr.enc) (n := 8) (fun _ => rfl) (by decide) h
  have hidx := idxFW_any w b v xs hI hl gf lb p (fun x hx W hf => hp x hx W (hf.mono fun k h => h.elim)) eg
  by_cases hex : ∃ x ∈ xs, p x = true
  · have hlen : xs.findIdx p < xs.length := by rw [List.findIdx_lt_length]; exact hex
    rw [idxW, if_pos hlen] at hidx
    obtain ⟨i0, hi0⟩ : ∃ i, xs.findIdx p = i := ⟨_, rfl⟩
    rw [hi0] at hidx hlen
    have hpi0 : p xs[i0] = true := by have := List.findIdx_getElem (p := p) (xs := xs) (w := by omega); simpa [hi0] using this
    have hnone : ∀ x ∈ xs.take i0, p x = false := fun x hx => by
      rw [List.mem_take_iff_getElem] at hx
      obtain ⟨j, hj, rfl⟩ := hx
      have := List.not_of_lt_findIdx (p := p) (xs := xs) (i := j) (by omega)
      simpa using this
    obtain ⟨n, hn⟩ : ∃ n, xs.length = n := ⟨_, rfl⟩
    obtain ⟨g, cap, rfl⟩ : ∃ g cap, v = .slice (some ⟨g, 0, none⟩) n cap := by
      rcases h.2 with ⟨_, h0⟩ | ⟨g, cap, _, hv, _⟩
      · omega
      · exact ⟨g, cap, by rw [hv, hn]⟩
    have h' : w.ownsRow base 61 8 (.slice (some ⟨g, 0, none⟩) n cap) n (xs.flatMap Wr.enc) := by rw [← hn]; rw [← hn] at h; exact h
    have hkept0 : (xs.take (i0 + 1)).filter (fun x => !p x) = xs.take i0 := by
      rw [List.take_succ_eq_append_getElem (by omega), List.filter_append, List.filter_eq_self.2 (fun x hx => by simp [hnone x hx])]
      simp [hpi0]
    have HI := Lib.hid hidx; have HP := Lib.hid hp; have HR := Lib.hid h'; have HN := Lib.hid hn; have HK := Lib.hid hkept0
    have hcap : n ≤ cap ∧ cap ≤ 9223372036854775807 := by
      rcases h'.2 with ⟨h0, _⟩ | ⟨g', cap', cur, h0, hb, hg, hnc, hcm, hcs, htake⟩
      · simp at h0
      · simp at h0; obtain ⟨rfl, rfl⟩ := h0; exact ⟨hnc, by unfold maxLen at hcm; omega⟩
    obtain ⟨hc1, hc2⟩ := hcap
    rw [hn] at hl hlen
    clear hidx hp h h' hn hI hpi0 hnone hi0 hkept0 hex
    have hi1 : ((i0 : Int) == -1) = false := by rw [beq_eq_false_iff_ne]; omega
    go_enter Tryz.func186, Tryz.ntmps186
    go_wp2_with (go_at_call 181; go_loud (refine (HI.out).mono ?_); rintro e w1 ⟨rfl, hf1⟩)
    go_loopw [5, 6] (fun si sj wr => ∃ (i j : Nat) (ys : List Wr), i < j ∧ j ≤ n ∧ si = .int .i64 i ∧ sj = .int .i64 j ∧ Hid (ys.length = n ∧ ys.take i = (xs.take j).filter (fun x => !p x) ∧ ys.drop j = xs.drop j) ∧
        wr.ownsRow base 61 8 (.slice (some ⟨g, 0, none⟩) n cap) n (ys.flatMap Wr.enc) ∧ Fr (fun k => (Value.slice (some ⟨g, 0, none⟩) n cap).ownBlock = some k) w wr) (fun _ sj _ => n - (intOf sj).toNat)
    case atStart => exact ⟨i0, i0 + 1, xs, by omega, by omega, rfl, by go_num, ⟨HN.out, HK.out.symm, rfl⟩, HR.out.fr0 hf1, hf1.mono fun k h => h.elim⟩
    case round =>
      obtain ⟨i, j, ys, hij, hjn, rfl, rfl, hy, hrow, hfr⟩ := hrel
      by_cases hlt : j < n
      · have hxl : j < xs.length := by rw [HN.out]; exact hlt
        have hyl : j < ys.length := by rw [hy.out.1]; exact hlt
        have hyj : ys[j] = xs[j] := by
          have h1 := congrArg (fun l => l[0]?) hy.out.2.2
          simp only [List.getElem?_drop, Nat.add_zero, List.getElem?_eq_getElem hyl, List.getElem?_eq_getElem hxl] at h1
          exact Option.some.inj h1
        have hcell : ∀ (t : Nat) (ht : t < ys.length) c, c < 8 → wr.cell? ⟨g, t * 8 + c, none⟩ = (ys[t].enc)[c]? := fun t ht c hc => by
          rw [hrow.cellAt (t * 8 + c) (by have := hy.out.1; have : (t + 1) * 8 ≤ n * 8 := Nat.mul_le_mul_right _ (by omega); omega)]
          exact flat_get (enc := Wr.enc) (n := 8) (fun _ => rfl) ys t ht c hc
        obtain ⟨c0, c1, c2, c3, c4, c5, c6, c7⟩ := wr_cells (W := wr) (hcell j hyl)
        obtain ⟨e0, e1, e2, e3, e4, e5, e6, e7⟩ := wr_cells (W := wr) (hcell i (by omega))
        have hfi := fun c => hrow.frozenAt (i * 8 + c)
        have hcall := HP.out xs[j] (List.getElem_mem hxl)
        rw [← hyj] at hcall
        obtain ⟨xj, hxj⟩ : ∃ x, ys[j] = x := ⟨_, rfl⟩
        obtain ⟨xi, hxi⟩ : ∃ x, ys[i]'(by omega) = x := ⟨_, rfl⟩
        have htk : (xs.take (j + 1)).filter (fun x => !p x) = (xs.take j).filter (fun x => !p x) ++ (if p xj = true then [] else [xj]) := by
          rw [List.take_succ_eq_append_getElem hxl, List.filter_append, ← hyj, hxj]
          cases hpx : p xj <;> simp [hpx]
        have hdr : xs.drop (j + 1) = ys.drop (j + 1) := by
          have := congrArg (fun l => l.drop 1) hy.out.2.2
          simpa [List.drop_drop, Nat.add_comm] using this.symm
        simp only [hxj] at hcall c0 c1 c2 c3 c4 c5 c6 c7
        simp only [hxi] at e0 e1 e2 e3 e4 e5 e6 e7
        obtain ⟨q, hq⟩ : ∃ q, p xj = q := ⟨_, rfl⟩
        rw [hq] at hcall htk
        have hst := fun (wq : World) (hq : wq.ownsRow base 61 8 (.slice (some ⟨g, 0, none⟩) n cap) n (ys.flatMap Wr.enc)) => row_storedW xj hq (by omega : i < ys.length)
        have HCALL := Lib.hid hcall; have HRW := Lib.hid hrow; have HTK := Lib.hid htk; have HDR := Lib.hid hdr; have HFR := Lib.hid hfr; have HST := Lib.hid hst
        clear hcall hrow htk hdr hxj hfr hst hyj hcell hxi hq
        obtain ⟨xd, xu, xp, vk, vb, vn, vs, vu⟩ := xj
        unfold Wr.enc at HCALL
        simp only at HCALL c0 c1 c2 c3 c4 c5 c6 c7 HST
        have hji : (j : Int) < (n : Int) := by omega
        cases q with
        | true =>
          clear hfi e0 e1 e2 e3 e4 e5 e6 e7 HST
          go_wp2_with (refine (HCALL.out _ (HFR.out.alloc _)).mono ?_; rintro e w' ⟨rfl, hf3⟩; have hf2 := (boxS_keep hf3 (boxS_new wr _ _)).2.2)
          go_roundw
          case rel => exact ⟨i, j + 1, ys, by omega, by omega, rfl, by go_num, ⟨hy.out.1, by rw [HTK.out, hy.out.2.1]; simp, HDR.out.symm⟩, HRW.out.fr0 hf2, HFR.out.then0 hf2⟩
          case measure => simp [intOf]; omega
        | false =>
          have E0 := Lib.hid e0; have E1 := Lib.hid e1; have E2 := Lib.hid e2; have E3 := Lib.hid e3; have E4 := Lib.hid e4; have E5 := Lib.hid e5; have E6 := Lib.hid e6; have E7 := Lib.hid e7
          clear e0 e1 e2 e3 e4 e5 e6 e7 hfi
          go_wp2_with (refine (HCALL.out _ (HFR.out.alloc _)).mono ?_; rintro e w' ⟨rfl, hf3⟩; have hB := boxS_keep hf3 (boxS_new wr _ _); have hf2 := hB.2.2; have m1 := hB.1; clear hB; have hro := HRW.out.fr0 hf2; have z0 := hf2.cell id E0.out; have z1 := hf2.cell id E1.out; have z2 := hf2.cell id E2.out; have z3 := hf2.cell id E3.out; have z4 := hf2.cell id E4.out; have z5 := hf2.cell id E5.out; have z6 := hf2.cell id E6.out; have z7 := hf2.cell id E7.out; have hfz := fun c => hro.frozenAt (i * 8 + c); have hfz0 := hro.frozenAt (i * 8); have HRO := Lib.hid hro; clear hro)
          go_roundw
          case rel =>
            refine ⟨i + 1, j + 1, ys.set i ⟨xd, xu, xp, ⟨vk, vb, vn, vs, vu⟩⟩, by omega, by omega, by go_num, by go_num, ⟨by simpa using hy.out.1, ?_, ?_⟩, HST.out _ HRO.out, ?_⟩
            · rw [HTK.out, ← hy.out.2.1]
              have : i < ys.length := by have := hy.out.1; omega
              have hts : (ys.set i ⟨xd, xu, xp, ⟨vk, vb, vn, vs, vu⟩⟩).take i = ys.take i := by
                apply List.ext_getElem?
                intro t
                simp only [List.getElem?_take]
                split
                · rw [List.getElem?_set_ne (by omega)]
                · rfl
              rw [List.take_succ_eq_append_getElem (by simpa using this), hts]
              simp
            · rw [HDR.out, List.drop_set]; rw [if_pos (by omega)]
            · exact ((((((((HFR.out.then0 hf2).setCell (p := ⟨g, i * 8, none⟩) (.inl rfl) _).setCell (p := ⟨g, i * 8 + 1, none⟩) (.inl rfl) _).setCell (p := ⟨g, i * 8 + 2, none⟩) (.inl rfl) _).setCell (p := ⟨g, i * 8 + 3, none⟩) (.inl rfl) _).setCell (p := ⟨g, i * 8 + 4, none⟩) (.inl rfl) _).setCell (p := ⟨g, i * 8 + 5, none⟩) (.inl rfl) _).setCell (p := ⟨g, i * 8 + 6, none⟩) (.inl rfl) _).setCell (p := ⟨g, i * 8 + 7, none⟩) (.inl rfl) _
          case measure => simp [intOf]; omega
      · obtain rfl : j = n := by omega
        have hlen8 : (ys.flatMap Wr.enc).length = j * 8 := by rw [flat_length (enc := Wr.enc) (n := 8) (fun _ => rfl), hy.out.1]
        have hi8 : i * 8 + (j - i) * 8 = j * 8 := by rw [← Nat.add_mul]; congr 1; omega
        have hcl : ∀ ty, (Builtin.clear_ #[34] ty #[.slice (some ⟨g, i * 8, none⟩) (j - i) (cap - i)]).run Tryz.prog wr = .ok (.tuple #[]) (wr.setCells g (i * 8) (Builtin.zeroCells zeroWrV.cells (j - i)).toList) := fun ty =>
          run_clear_cells wr 34 61 ty zeroWrV Tryz.underlying34 zeroWrR g (i * 8) _ _ (by omega) (by intro u hu; simp [Value.cells] at hu; rcases hu with h | h | h | h | h | h | h | h <;> subst h <;> rfl)
            (fun t ht => by have ht' : t < (j - i) * 8 := ht; rw [hrow.cellAt _ (by omega), List.getElem?_eq_getElem (by omega)]; rfl) (fun t ht => hrow.frozenAt _)
        have HRW := Lib.hid hrow; have HFR := Lib.hid hfr
        clear hrow hfr
        have hne : ¬ cap = i := by omega
        go_wp2
        go_ret
        have hfin : ys.take i = xs.filter fun x => !p x := by
          rw [hy.out.2.1, List.take_of_length_le (by rw [HN.out]; exact Nat.le_refl _)]
        have hrc := row_clearK (enc := Wr.enc) (k := 8) (fun _ => rfl) (m := i) (Builtin.zeroCells zeroWrV.cells (j - i)).toList HRW.out hy.out.1 (by omega)
        have hil : i = (xs.filter fun x => !p x).length := by rw [← hfin, List.length_take]; have := hy.out.1; omega
        rw [hfin] at hrc
        rcases HRW.out.2 with ⟨h', _⟩ | ⟨g', cap', cur, h', hb, hcur, _⟩
        · simp at h'
        · simp only [Value.slice.injEq, Option.some.injEq, Addr.mk.injEq, and_true, true_and] at h'
          obtain ⟨rfl, rfl⟩ := h'
          obtain ⟨_, _, _, _, h5⟩ := setCells_specW g _ _ (Builtin.zeroCells zeroWrV.cells (j - i)).toList wr (i * 8) cur hcur
          exact ⟨_, rfl, by rw [← hil]; exact hrc, HFR.out.trans h5 fun k hk => .inl (by rw [hk]; rfl)⟩
  · have hge : ¬ xs.findIdx p < xs.length := by rw [List.findIdx_lt_length]; exact hex
    rw [idxW, if_neg hge] at hidx
    have hfil : xs.filter (fun x => !p x) = xs := List.filter_eq_self.2 fun x hx => by
      cases hpx : p x
      · rfl
      · exact absurd ⟨x, hx, hpx⟩ hex
    have HR := Lib.hid h; have HI := Lib.hid hidx
    clear h hex hp hI hidx hge
    go_enter Tryz.func186, Tryz.ntmps186
    go_wp2_with (go_at_call 181; refine HI.out.mono ?_; rintro e w1 ⟨rfl, hf1⟩)
    go_ret
    exact ⟨v, rfl, by rw [hfil]; exact HR.out.fr0 hf1, hf1.mono fun k h => h.elim⟩

end Go.Proofs.YtefepfiijoafbaaGreat
