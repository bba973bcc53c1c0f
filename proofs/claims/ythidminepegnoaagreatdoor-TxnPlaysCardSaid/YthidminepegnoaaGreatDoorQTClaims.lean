/- triple.Claims. -/
import Derived.Test.YthidminepegnoaaGreatDoorQRClaims
namespace Go.Proofs.YthidminepegnoaaGreatDoor
open Go.RowKit Go.Shelf Go.Maps Go.Sort
attribute [local go_sem] Oper.semAt_some
attribute [local irreducible] wpQuiet
set_option linter.unusedVariables false
set_option linter.unusedSimpArgs false

theorem snocInd {α : Type} {P : List α → Prop} (h0 : P []) (h1 : ∀ l x, P l → P (l ++ [x])) (l : List α) : P l := by
  rw [← List.reverse_reverse l]
  induction l.reverse with
  | nil => exact h0
  | cons x r ih => rw [List.reverse_cons]; exact h1 _ _ ih
/-- Any value, as it is. -/
def heldElem (v : Value) : Option (DataW Value × List MemPlace) := some (.held v, [])
theorem heldElem_inv {v : Value} {d : DataW Value} {ps : List MemPlace} (h : heldElem v = some (d, ps)) : d = .held v ∧ ps = [] := by
  simp only [heldElem, Option.some.injEq, Prod.mk.injEq] at h; exact ⟨h.1.symm, h.2.symm⟩
/-- What texts were set to, one behind the other. -/
def byMap (l : List (ByteArray × Value)) : DataW Value := l.foldl (fun D p => D.put (litS p.1) (.held p.2)) (.map [])
theorem byMap_snoc (l : List (ByteArray × Value)) (p : ByteArray × Value) : byMap (l ++ [p]) = (byMap l).put (litS p.1) (.held p.2) := by
  simp [byMap, List.foldl_append]
theorem byMap_isMap : ∀ l : List (ByteArray × Value), IsMap (byMap l) := by
  intro l
  induction l using snocInd with
  | h0 => exact isMap_empty
  | h1 l p ih => rw [byMap_snoc]; exact ih.put _ _
theorem litS_key (s : ByteArray) : WideAt.IsKeyLit (litS s) := trivial
theorem litS_inj {s t : ByteArray} (h : litS s = litS t) : s = t := by
  simp only [litS, Lit.string.injEq] at h
  rw [← mkS_data s, ← mkS_data t, h]
theorem byMap_has (l : List (ByteArray × Value)) (s : ByteArray) : Maps.has (byMap l) (litS s) = true ↔ ∃ q ∈ l, q.1 = s := by
  induction l using snocInd with
  | h0 => simp [byMap, Maps.has]
  | h1 l p ih =>
    rw [byMap_snoc]
    by_cases hp : p.1 = s
    · rw [hp, has_put_same (byMap_isMap l) (litS_key s)]
      exact ⟨fun _ => ⟨p, by simp, hp⟩, fun _ => rfl⟩
    · rw [has_put_other (fun e => hp (litS_inj e).symm), ih]
      constructor
      · rintro ⟨q, hq, e⟩; exact ⟨q, List.mem_append_left _ hq, e⟩
      · rintro ⟨q, hq, e⟩
        rcases List.mem_append.1 hq with h | h
        · exact ⟨q, h, e⟩
        · simp at h; subst h; exact absurd e hp
theorem byMap_at {l : List (ByteArray × Value)} {s : ByteArray} {v : Value} (h : ∀ q ∈ l, q.1 = s → q.2 = v) (he : ∃ q ∈ l, q.1 = s) (z : DataW Value) : (byMap l).atKey (litS s) z = .held v := by
  induction l using snocInd with
  | h0 => obtain ⟨q, hq, _⟩ := he; cases hq
  | h1 l p ih =>
    rw [byMap_snoc]
    by_cases hp : p.1 = s
    · rw [hp, atKey_put_same (byMap_isMap l) (litS_key s), h p (by simp) hp]
    · rw [atKey_put_other (fun e => hp (litS_inj e).symm)]
      refine ih (fun q hq => h q (List.mem_append_left _ hq)) ?_
      obtain ⟨q, hq, e⟩ := he
      rcases List.mem_append.1 hq with h | h
      · exact ⟨q, h, e⟩
      · simp at h; subst h; exact absurd e hp

theorem ownsMapH_fr {H : Type} {w w' : World} {k : TypeId} {R : Value → Option (DataW H × List MemPlace)} {b n : Nat} {D : DataW H} (h : w.ownsMap Tryz.prog k R b n D) (hf : Fr N0 w w') : w'.ownsMap Tryz.prog k R b n D :=
  h.kept (row := none) ⟨hf.os, hf.tape, hf.output, hf.size, fun k hk _ => hf.at id hk⟩ (by simp)
/-- A look-up, with ok, in a map of held values. -/
theorem wpList_lookup_held {P : Program} (w : World) {ops : Array Oper} {rest : List Oper} {o : Oper} {a : Act} {Q : Exit → Act → World → Prop} (hg : o.guard = none) (m x : Operand) (t : TypeId) (hop : o.op = Op.lookup t m x true)
    (k e : TypeId) (K : Keyed P k) (ht : P.underlying t = some (.map k e)) {z : Value} (hz : (zeroValue e).run P w = .ok z w) (b n : Nat) (D : DataW Value)
    (hm : a.eval m = .map (some b)) (hown : w.ownsMap P k heldElem b n D) (key : Value) (kl : Lit) (hx : a.eval x = key) (hkey : keyOf P k key = some kl) {v : Value} {q : Bool} (hat : D.atKey kl (.held z) = .held v) (hh : Maps.has D kl = q)
    (hK : wpList P ops Q rest (a.put o.dst (.tuple #[v, .bool q])) w) : wpList P ops Q (o :: rest) a w :=
  wpList_lookup_own_ok w hg m x t hop k e K ht heldElem hz (.held z) [] rfl b n D hm hown key kl hx hkey (fun v' ps hv => by
    have h1 := (heldElem_inv hv).1
    rw [hat] at h1
    injection h1 with h1
    rw [← h1, hh]; exact hK)
theorem zeroSch (w : World) : (zeroValue 72).run Tryz.prog w = .ok (.agg #[.string ⟨#[]⟩, .int .u8 0, .bool false, .bool false, .bool false, .bool false, .bool false, .bool false]) w := by kernel_rfl

theorem bytes_ext {a b : ByteArray} (h : a.toList = b.toList) : a = b := by
  rw [← mkS_data a, ← mkS_data b, ← toListD, ← toListD, h]
/-- Schemas that are in order: each predicate has one; each may be. -/
theorem order_up {l : List Sch} (h : ∀ j, j < l.length → stopAt l j = false) : ∀ (j i : Nat) (hj : j < l.length) (hi : i < j), l[i].pred.toList < l[j].pred.toList
  | 0, i, hj, hi => by omega
  | j + 1, i, hj, hi => by
    have h1 := h (j + 1) hj
    have h2 : l[j].pred.toList < l[j + 1].pred.toList := by
      simp only [stopAt, badAt, List.getElem?_eq_getElem hj, Bool.or_eq_false_iff] at h1
      have h3 := h1.2.2
      have hp : decide (0 < j + 1) = true := by simp
      rw [hp, Bool.true_and, show j + 1 - 1 = j by omega, List.getElem?_eq_getElem (by omega)] at h3
      simp only [Bool.not_eq_false'] at h3
      rw [bytesLess_eq] at h3
      exact of_decide_eq_true h3
    rcases Nat.lt_or_ge i j with h3 | h3
    · exact List.lt_trans (order_up h j i (by omega) h3) h2
    · obtain rfl : i = j := by omega
      exact h2
theorem order_one {l : List Sch} (h : ∀ j, j < l.length → stopAt l j = false) {s t : Sch} (hs : s ∈ l) (ht : t ∈ l) (e : s.pred = t.pred) : s = t := by
  obtain ⟨i, hi, rfl⟩ := List.getElem_of_mem hs
  obtain ⟨j, hj, rfl⟩ := List.getElem_of_mem ht
  rcases Nat.lt_trichotomy i j with h1 | h1 | h1
  · have := order_up h j i hj h1; rw [e] at this; exact absurd this (List.lt_irrefl _)
  · subst h1; rfl
  · have := order_up h i j hi h1; rw [e] at this; exact absurd this (List.lt_irrefl _)
theorem order_may {l : List Sch} (h : ∀ j, j < l.length → stopAt l j = false) {s : Sch} (hs : s ∈ l) : schMay s = 0 := by
  obtain ⟨i, hi, rfl⟩ := List.getElem_of_mem hs
  have h1 := h i hi
  simp only [stopAt, badAt, List.getElem?_eq_getElem hi, Bool.or_eq_false_iff] at h1
  simpa using h1.2.1
theorem schOf_some {l : List Sch} {p : ByteArray} {s : Sch} (h : schOf l p = some s) : s ∈ l ∧ s.pred = p := by
  unfold schOf at h
  split at h
  · cases h
  · rename_i h0
    unfold findS at h h0
    split at h
    · rename_i h1
      have h2 := List.findIdx_getElem (w := h1)
      rw [Int.toNat_natCast, List.getElem?_eq_getElem h1] at h
      injection h with h
      rw [h] at h2
      exact ⟨h ▸ List.getElem_mem h1, bytes_ext (by simpa using h2)⟩
    · rename_i h1; rw [if_neg h1] at h0; exact absurd (by decide : (-1 : Int) < 0) h0
theorem schOf_none {l : List Sch} {p : ByteArray} (h : schOf l p = none) : ∀ s ∈ l, s.pred ≠ p := by
  intro s hs e
  have hlt : l.findIdx (fun s => s.pred.toList == p.toList) < l.length := List.findIdx_lt_length_of_exists ⟨s, hs, by simp [e]⟩
  unfold schOf findS at h
  rw [if_pos hlt, if_neg (by omega), Int.toNat_natCast, List.getElem?_eq_getElem hlt] at h
  cases h
/-- A box of some cells. -/
abbrev BoxC (B : Nat) (cs : Array Value) (W : World) : Prop := ∀ i, W.cell? ⟨B, i, none⟩ = cs[i]?
theorem kept_map {H : Type} {S : World → Prop} {W : World} {k : TypeId} {R : Value → Option (DataW H × List MemPlace)} {b n : Nat} {D : DataW H} (c : W.ownsMap Tryz.prog k R b n D) (K : Kept S W) : Kept (fun W' => W'.ownsMap Tryz.prog k R b n D ∧ S W') W :=
  kept_add (T := fun W => W.ownsMap Tryz.prog k R b n D) K c fun _ _ hf h => ownsMapH_fr h hf
/-- What both Claims hand back. -/
def KeysPost (w : World) (ce : Int) (ck : List ByteArray) (e : Ending) (w' : World) : Prop := ∃ v' at_ bb, e = .returned (.tuple #[v', .int .i64 at_, .int .i64 ce]) ∧ Strs w' bb v' ck ∧ w.heap.size ≤ bb ∧ Fr N0 w w'

set_option maxRecDepth 100000 in
set_option maxHeartbeats 4000000 in
theorem tClaims_any (w : World) (bl : Nat) (vl : Value) (l : List Sch) (hsch : Schs w bl vl l) (b : Nat) (v : Value) (xs : List Wr) (h : Wrs w b v xs) (hl : l.length ≤ 1000000) (hx : xs.length ≤ 1000000) (hok : ∀ x ∈ xs, x.ok) (hp : ∀ x ∈ xs, x.pred.size ≤ maxLen) (hM : MaxAt w) :
    Calls Tryz.prog 63 #[vl, v] w fun e w' => KeysPost w (claimsErr l xs) (claimsKeys l xs) e w' := by
  obtain ⟨i0, hi, hz0, hz1, hz2⟩ := info_parts infoStr
  have hmm := @run_makeMap Tryz.prog
  have hce : claimsErr l xs = if 0 ≤ wrongS l then 43 else if 256 < xs.length then 4 else firstNZ (xs.map (wrErr l)) := rfl
  have hck : claimsKeys l xs = if claimsErr l xs = 0 then normS (xs.map (claimOf l)) else [] := rfl
  obtain ⟨ce, hce0⟩ : ∃ ce, claimsErr l xs = ce := ⟨_, rfl⟩
  obtain ⟨ck, hck0⟩ : ∃ ck, claimsKeys l xs = ck := ⟨_, rfl⟩
  simp only [hce0, hck0] at hce hck ⊢
  have h43 : 0 ≤ wrongS l → ce = 43 ∧ ck = [] := fun h => by
    rw [if_pos h] at hce
    exact ⟨hce, by rw [hck, if_neg (by rw [hce]; decide)]⟩
  have H43 := Lib.hid h43; have HCE := Lib.hid hce; have HCK := Lib.hid hck
  clear hce0 hck0 h43 hce hck
  obtain ⟨al, offl, capl, rfl, g1, g2, g3, g4, g5⟩ := hsch
  obtain ⟨a, off, cap, rfl, h1, h2, h3, h4, h5⟩ := h
  have HC := Lib.hid h5; have HCL := Lib.hid g5; have HOK := Lib.hid hok; have HP := Lib.hid hp
  clear h4 h5 g4 g5 hok hp
  go_enter Tryz.func63, Tryz.ntmps63
  go_wp2
  have hown0 := World.ownsMap_made (H := Value) w Tryz.prog 9 heldElem
  have hf0 : Fr N0 w (w.alloc (.map #[] 0)) := (Fr.refl _ _).alloc _
  have hml : w.heap.size < (w.alloc (.map #[] 0)).heap.size := by simp
  obtain ⟨W0, hW0⟩ : ∃ W0, w.alloc (.map #[] 0) = W0 := ⟨_, rfl⟩
  rw [hW0] at hown0 hf0 hml ⊢
  have HO0 := Lib.hid hown0; have HF0 := Lib.hid hf0
  clear hW0 hown0 hf0
  go_loopw [8, 23] (fun lv iv wr => ∃ k : Nat, k ≤ l.length ∧ iv = .int .i64 k ∧ (∃ ls : ByteArray, lv = .string ls ∧ ∀ h : k - 1 < l.length, 0 < k → ls = l[k - 1].pred) ∧ Hid (∀ j, j < k → stopAt l j = false) ∧
      wr.ownsMap Tryz.prog 9 heldElem w.heap.size k (byMap ((l.take k).map fun s => (s.pred, .agg s.enc.toArray))) ∧ Fr N0 w wr) (fun _ iv _ => l.length - (intOf iv).toNat)
  case atStart => exact ⟨0, Nat.zero_le _, by go_num, ⟨_, rfl, fun _ h => by omega⟩, fun j hj => by omega, HO0.out, HF0.out⟩
  case round =>
    obtain ⟨k, hk, rfl, ⟨ls, rfl, hls⟩, hn, hown, hfr⟩ := hrel
    by_cases hlt : k < l.length
    · obtain rfl := g3 (by omega)
      have hlt' : (k : Int) < (l.length : Int) := by omega
      have hnx : stopAt l k = false → ∀ j, j < k + 1 → stopAt l j = false := fun h j hj => by
        rcases Nat.lt_or_ge j k with h' | h'
        · exact hn.out j h'
        · have : j = k := by omega
          subst this; exact h
      have hat := fun h : stopAt l k = true => H43.out (by rw [wrongS_at hlt h hn.out]; omega)
      have hst : stopAt l k = (k == 256 || ((schMay l[k] != 0) || (decide (0 < k) && (match l[k - 1]? with | some t => !Op.bytesLess t.pred.toList l[k].pred.toList | none => false)))) := by
        simp only [stopAt, badAt, List.getElem?_eq_getElem hlt]; rfl
      have hsc := fun W => tSchema_any l[k] W
      have hts : byMap ((l.take (k + 1)).map fun s => (s.pred, .agg s.enc.toArray)) = (byMap ((l.take k).map fun s => (s.pred, .agg s.enc.toArray))).put (litS l[k].pred) (.held (.agg l[k].enc.toArray)) := by
        rw [List.take_succ_eq_append_getElem hlt, List.map_append, List.map_cons, List.map_nil, byMap_snoc]
      have hcs := sch_cells (W := w) (HCL.out k hlt)
      have hlsn : ∀ h : k + 1 - 1 < l.length, 0 < k + 1 → l[k].pred = l[k + 1 - 1].pred := fun _ _ => by simp
      obtain ⟨x, hx0⟩ : ∃ x, l[k] = x := ⟨_, rfl⟩
      simp only [hx0] at hsc hts hcs hst hlsn
      have hmay : schMay x = 0 → x.pred.size ≤ 64 := fun h => by
        unfold schMay at h
        cases hp : predOk x.pred
        · rw [hp] at h; simp at h
        · exact predOk_size hp
      obtain ⟨e0, he0⟩ : ∃ e, schMay x = e := ⟨_, rfl⟩
      simp only [he0] at hsc hst hmay
      clear hx0 he0
      obtain ⟨sp, st, sl, se, sm, so, sr, sc⟩ := x
      unfold Sch.enc at hsc
      simp only at hcs hst hsc hts hlsn hmay
      obtain ⟨c0, c1, c2, c3, c4, c5, c6, c7⟩ := hcs
      replace c0 := hfr.cell id c0; replace c1 := hfr.cell id c1; replace c2 := hfr.cell id c2; replace c3 := hfr.cell id c3; replace c4 := hfr.cell id c4; replace c5 := hfr.cell id c5; replace c6 := hfr.cell id c6; replace c7 := hfr.cell id c7
      have HSC := Lib.hid hsc; have HNX := Lib.hid hnx; have HAT := Lib.hid hat; have HF := Lib.hid hfr; have HTS := Lib.hid hts; have HOWN := Lib.hid hown; have HLN := Lib.hid hlsn
      clear hsc hnx hat hn hts hown hlsn
      by_cases hk2 : k = 256
      · have hst' : stopAt l k = true := by rw [hst]; simp [hk2]
        obtain ⟨q1, q2⟩ := HAT.out hst'
        have Q1 := Lib.hid q1; have Q2 := Lib.hid q2
        have hk2' : ((k : Int) == 256) = true := by simp; omega
        clear hst hst' q1 q2 hk2
        go_wp2
        go_ret3
        exact ⟨_, _, w.heap.size, by rw [Q1.out]; rfl, by rw [Q2.out]; exact Strs.nil _ _, Nat.le_refl _, (HF.out.alloc _)⟩
      have hk2' : ((k : Int) == 256) = false := by simp; omega
      by_cases hz : e0 = 0
      case neg =>
        have hst' : stopAt l k = true := by rw [hst]; simp [hz]
        obtain ⟨q1, q2⟩ := HAT.out hst'
        have Q1 := Lib.hid q1; have Q2 := Lib.hid q2
        have hz' : (e0 != 0) = true := by simpa using hz
        clear hst hst' q1 q2 hk2
        go_wp2_with (go_at_call 92; refine (HSC.out _).mono ?_; rintro e w1 ⟨rfl, hf1⟩; have hB1 := boxS_keep hf1 (boxS_new wr _ _); have m1 := hB1.1; have HB := Lib.hid hB1.2.2; clear hB1)
        go_ret3
        exact ⟨_, _, w.heap.size, by rw [Q1.out]; rfl, by rw [Q2.out]; exact Strs.nil _ _, Nat.le_refl _, HF.out.then0 HB.out⟩
      case pos =>
        subst hz
        have hsz := hmay rfl
        have hk0 : (k == 256) = false := by simp; omega
        have hstop : ∀ (r : Bool), r = (decide (0 < k) && (match l[k - 1]? with | some t => !Op.bytesLess t.pred.toList sp.toList | none => false)) → stopAt l k = r := fun r hr => by rw [hst, hk0, hr]; simp
        clear hst hmay hk0 hk2
        have hkey := Go.WideMaps.keyOf_string_mk Tryz.underlying9 (s := sp) (by unfold maxLen; omega)
        have HK := Lib.hid hkey
        clear hkey
        rcases Nat.eq_zero_or_pos k with hkz | hkp
        case' inl =>
          have hst' : stopAt l k = false := hstop _ (by simp [hkz])
          have hN := HNX.out hst'
          have HN := Lib.hid hN
          have hkz' : ¬ (0 : Int) < (k : Int) := by omega
          clear hstop hst' hN hkz hls
        case' inr =>
          have hkp' : (0 : Int) < (k : Int) := by omega
          have hk1 : k - 1 < l.length := by omega
          have hle : ∀ a b : ByteArray, (Op.bytesLess a.toList b.toList || a.toList == b.toList) = !Op.bytesLess b.toList a.toList := fun a b => by
            rw [bytesLess_eq, bytesLess_eq, Bool.eq_iff_iff]
            simp only [Bool.or_eq_true, decide_eq_true_eq, beq_iff_eq, Bool.not_eq_true', decide_eq_false_iff_not]
            constructor
            · rintro (h | h) h2
              · exact absurd (List.lt_trans h h2) (List.lt_irrefl _)
              · rw [h] at h2; exact List.lt_irrefl _ h2
            · intro h
              by_cases h' : a.toList < b.toList
              · exact .inl h'
              · exact .inr (List.le_antisymm (List.not_lt.1 h) (List.not_lt.1 h'))
          have hl0 := hls hk1 hkp
          rw [List.getElem?_eq_getElem hk1] at hstop
          simp only [← hl0] at hstop
          have hcmp := hle sp ls
          clear hl0 hle hls
          cases hdd : Op.bytesLess ls.toList sp.toList
          case' false =>
            have hst' : stopAt l k = true := hstop _ (by simp [hkp, hdd])
            obtain ⟨q1, q2⟩ := HAT.out hst'
            have Q1 := Lib.hid q1; have Q2 := Lib.hid q2
            rw [hdd] at hcmp
            clear hst' q1 q2 hstop
            go_wp2_with (go_at_call 92; refine (HSC.out _).mono ?_; rintro e w1 ⟨rfl, hf1⟩; have hB1 := boxS_keep hf1 (boxS_new wr _ _); have m1 := hB1.1; have HB := Lib.hid hB1.2.2; clear hB1)
            go_ret3
            exact ⟨_, _, w.heap.size, by rw [Q1.out]; rfl, by rw [Q2.out]; exact Strs.nil _ _, Nat.le_refl _, HF.out.then0 HB.out⟩
          case' true =>
            have hst' : stopAt l k = false := hstop _ (by simp [hkp, hdd])
            have hN := HNX.out hst'
            have HN := Lib.hid hN
            rw [hdd] at hcmp
            clear hst' hN hstop hdd
        all_goals
          go_wp2_with (go_at_call 92; go_loud (refine (HSC.out _).mono ?_); rintro e w1 ⟨rfl, hf1⟩; have hB1 := boxS_keep hf1 (boxS_new wr _ _); have m1 := hB1.1; have HB := Lib.hid hB1.2.2; have HO1 := Lib.hid (ownsMapH_fr HOWN.out ((hB1.2.2).drew)))
          obtain ⟨w2, hrun, hown2, hgrow2⟩ := HO1.out.update (t := 145) lawS Tryz.underlying145 (by unfold maxLen; omega) (val := .agg #[Value.string sp, Value.int .u8 st, Value.bool sl, Value.bool se, Value.bool sm, Value.bool so, Value.bool sr, Value.bool sc]) HK.out rfl
          have hC1 : BoxC wr.heap.size #[Value.string sp, Value.int .u8 st, Value.bool sl, Value.bool se, Value.bool sm, Value.bool so, Value.bool sr, Value.bool sc] w1.drew := m1
          have hC2 : BoxC wr.heap.size #[Value.string sp, Value.int .u8 st, Value.bool sl, Value.bool se, Value.bool sm, Value.bool so, Value.bool sr, Value.bool sc] w2 := fun i => (cell_same (A := w1.drew) (p := ⟨wr.heap.size, i, none⟩) (hgrow2.block _ hB1.2.1 (by intro e; have := HOWN.out.lt; simp only [Option.some.injEq] at e; omega))).trans (m1 i)
          have HO2 := Lib.hid hown2; have HG2 := Lib.hid hgrow2
          clear hown2 hgrow2
          go_region_held3 (BoxC wr.heap.size #[Value.string sp, Value.int .u8 st, Value.bool sl, Value.bool se, Value.bool sm, Value.bool so, Value.bool sr, Value.bool sc])
            (first | exact hC1 | exact hC2 | assumption) (fail)
          go_wp2
          go_roundw
          case rel => exact ⟨k + 1, by omega, by go_num, ⟨_, rfl, HLN.out⟩, HN.out, by rw [HTS.out]; exact HO2.out, (HF.out.then0 HB.out.drew).grown HG2.out fun q e => .inr (by cases e; exact Nat.le_refl _)⟩
          case measure => simp [intOf]; omega
    · obtain rfl : k = l.length := by omega
      have hwn := wrongS_none hn.out
      rw [List.take_length] at hown
      have hce : ce = if 256 < xs.length then 4 else firstNZ (xs.map (wrErr l)) := by
        have := HCE.out
        rw [hwn] at this
        exact this
      have HF := Lib.hid hfr; have HOWN := Lib.hid hown; have HN := Lib.hid hn.out
      clear hls hwn hfr hown hn HCE H43 HO0 HF0
      by_cases h256 : 256 < xs.length
      · obtain rfl : ce = 4 := by rw [hce, if_pos h256]
        have hnil : ck = [] := by rw [HCK.out]; rfl
        have HN := Lib.hid hnil
        have h256' : (256 : Int) < (xs.length : Int) := by omega
        clear hce hnil HCK
        go_wp2
        go_ret3
        exact ⟨_, _, w.heap.size, rfl, by rw [HN.out]; exact Strs.nil _ _, Nat.le_refl _, HF.out⟩
      rw [if_neg h256] at hce
      have HCE := Lib.hid hce
      have h256' : ¬ (256 : Int) < (xs.length : Int) := by omega
      clear hce h256
      go_wp2
      have hown0 := World.ownsMap_made (H := Unit) wr Tryz.prog 9 unitElem
      have hf0 : Fr N0 wr (wr.alloc (.map #[] 0)) := (Fr.refl _ _).alloc _
      have hml2 : wr.heap.size < (wr.alloc (.map #[] 0)).heap.size := by simp
      obtain ⟨W0, hW0⟩ : ∃ W0, wr.alloc (.map #[] 0) = W0 := ⟨_, rfl⟩
      rw [hW0] at hown0 hf0 hml2 ⊢
      have hbyl := (HOWN.out).lt
      have HO0 := Lib.hid hown0; have HB0 := Lib.hid (ownsMapH_fr HOWN.out hf0); have HF0 := Lib.hid (HF.out.then0 hf0)
      clear hW0 hown0 hf0 HOWN HF
      go_loopw [59] (fun iv w2 => ∃ k : Nat, k ≤ xs.length ∧ iv = .int .i64 k ∧ Hid (∀ j (h : j < xs.length), j < k → wrErr l xs[j] = 0) ∧ w2.ownsMap Tryz.prog 9 unitElem wr.heap.size k (setS ((xs.take k).map (claimOf l))) ∧
          w2.ownsMap Tryz.prog 9 heldElem w.heap.size l.length (byMap (l.map fun s => (s.pred, .agg s.enc.toArray))) ∧ Fr N0 w w2) (fun iv _ => xs.length - (intOf iv).toNat)
      case atStart => exact ⟨0, Nat.zero_le _, by go_num, fun j h hj => by omega, HO0.out, HB0.out, HF0.out⟩
      case round =>
        rename World => w2
        obtain ⟨k, hk, rfl, hn, hset, hby, hfr⟩ := hrel
        by_cases hlt : k < xs.length
        · obtain rfl := h3 (by omega)
          have hlt' : (k : Int) < (xs.length : Int) := by omega
          have hc8 := HC.out k hlt
          have hxok := HOK.out xs[k] (List.getElem_mem hlt)
          have hxp := HP.out xs[k] (List.getElem_mem hlt)
          have hts := congrArg setS (congrArg (List.map (claimOf l)) (List.take_succ_eq_append_getElem hlt))
          rw [List.map_append, List.map_cons, List.map_nil, setS_snoc] at hts
          have hbad : wrErr l xs[k] ≠ 0 → ce = wrErr l xs[k] := fun hne => by
            rw [HCE.out, firstNZ_at (k := k) (by simpa using hlt) (fun j hj hjk => by simpa using hn.out j (by simpa using hj) hjk) (by simpa using hne)]
            simp
          have hgood : wrErr l xs[k] = 0 → ∀ j (h : j < xs.length), j < k + 1 → wrErr l xs[j] = 0 := fun he j hj hjk => by
            rcases Nat.lt_or_ge j k with h' | h'
            · exact hn.out j hj h'
            · have : j = k := by omega
              subst this; exact he
          obtain ⟨x, hx0⟩ : ∃ x, xs[k] = x := ⟨_, rfl⟩
          simp only [hx0] at hc8 hxok hxp hts hbad hgood
          clear hx0
          obtain ⟨c0, c1, c2, c3, c4, c5, c6, c7⟩ := wr_cells (W := w) hc8
          replace c0 := hfr.cell id c0; replace c1 := hfr.cell id c1; replace c2 := hfr.cell id c2; replace c3 := hfr.cell id c3
          replace c4 := hfr.cell id c4; replace c5 := hfr.cell id c5; replace c6 := hfr.cell id c6; replace c7 := hfr.cell id c7
          have hlook : ∃ (s : Sch) (q : Bool), (byMap (l.map fun s => (s.pred, .agg s.enc.toArray))).atKey (litS x.pred) (.held (.agg #[.string ⟨#[]⟩, .int .u8 0, .bool false, .bool false, .bool false, .bool false, .bool false, .bool false])) = .held (.agg s.enc.toArray) ∧
              Maps.has (byMap (l.map fun s => (s.pred, .agg s.enc.toArray))) (litS x.pred) = q ∧ (q = true → schOf l x.pred = some s ∧ s.pred = x.pred ∧ schMay s = 0) ∧ (q = false → schOf l x.pred = none) := by
            cases hso : schOf l x.pred with
            | some s =>
              obtain ⟨hsm, hsp⟩ := schOf_some hso
              refine ⟨s, true, byMap_at ?_ ⟨(s.pred, .agg s.enc.toArray), List.mem_map.2 ⟨s, hsm, rfl⟩, hsp⟩ _, (byMap_has _ _).2 ⟨(s.pred, .agg s.enc.toArray), List.mem_map.2 ⟨s, hsm, rfl⟩, hsp⟩, fun _ => ⟨rfl, hsp, order_may HN.out hsm⟩, (fun h => by cases h)⟩
              intro q hq he
              obtain ⟨t, ht, rfl⟩ := List.mem_map.1 hq
              have : t = s := order_one HN.out ht hsm (he.trans hsp.symm)
              rw [this]
            | none =>
              have hno := schOf_none hso
              have hh : Maps.has (byMap (l.map fun s => (s.pred, Value.agg s.enc.toArray))) (litS x.pred) = false := by
                rw [Bool.eq_false_iff]
                intro h
                obtain ⟨q, hq, e⟩ := (byMap_has _ _).1 h
                obtain ⟨t, ht, rfl⟩ := List.mem_map.1 hq
                exact hno t ht e
              exact ⟨⟨⟨#[]⟩, 0, false, false, false, false, false, false⟩, false, (atKey_of_not_has hh _), hh, (fun h => by cases h), fun _ => rfl⟩
          obtain ⟨s, q, hat, hhas, hq1, hq0⟩ := hlook
          have hmay := fun W => tMay_any x hxok.wf W
          have hfit := fun W => tFits_any s x hxok.wf W
          have hfitv : q = true → trMay x = 0 → tFits s x = if x.val.k ≠ s.ty then 42 else 0 := fun hq h0 => by
            obtain ⟨_, hp, hm⟩ := hq1 hq
            have : firstNZ [schMay s, trMay x] = 0 := by rw [hm, h0]; rfl
            rw [tFits, this, if_neg (by simp), if_neg (by rw [hp]; simp)]
          have hsz := fun h : trMay x = 0 => predOk_size (trMay_zero h).1
          have hvm := fun h : trMay x = 0 => (trMay_zero h).2
          have hkey := fun (h : x.pred.size ≤ 1000000) W hM => cKey_any x.pred h W hM
          have hun : ((x.uid.toNat : Nat) : Int) = x.uid := by have := hxok.1.1; omega
          have hnum := fun W => num_any x.uid.toNat (by have := hxok.1; omega) W
          rw [hun] at hnum
          have hvb := fun (h : valMay x.val = true) W hM => vBytes_any x.val hxok.2 h W hM
          have hvs := fun (h : valMay x.val = true) => valB_size hxok.2 h
          have hks := keyB_size x.pred
          have hns : (strOfNums (num x.uid.toNat)).size ≤ 9 := by
            rw [strOfNums_size, num, List.length_cons, be_length]; have := nb_le 8 x.uid.toNat (by have := hxok.1; omega); omega
          have hwe : wrErr l x = if trMay x ≠ 0 then trMay x else match schOf l x.pred with
            | none => 5
            | some s => if x.val.k ≠ s.ty then 42 else 0 := rfl
          have hko : claimOf l x = match schOf l x.pred with
            | none => default
            | some s => if s.list then (keyB x.pred ++ strOfNums (num x.uid.toNat)) ++ valB x.val else keyB x.pred ++ strOfNums (num x.uid.toNat) := rfl
          obtain ⟨we, hwe0⟩ : ∃ e, wrErr l x = e := ⟨_, rfl⟩
          obtain ⟨ko, hko0⟩ : ∃ e, claimOf l x = e := ⟨_, rfl⟩
          simp only [hwe0] at hwe hbad hgood
          simp only [hko0] at hko hts
          obtain ⟨e0, he0⟩ : ∃ e, trMay x = e := ⟨_, rfl⟩
          obtain ⟨e1, he1⟩ : ∃ e, tFits s x = e := ⟨_, rfl⟩
          obtain ⟨so, hso⟩ : ∃ o, schOf l x.pred = o := ⟨_, rfl⟩
          simp only [he0] at hmay hsz hwe hvm hfitv
          simp only [he1] at hfit hfitv
          simp only [hso] at hwe hko hq1 hq0
          clear hwe0 hko0 he0 he1 hxok hun hso
          obtain ⟨BY, hBY⟩ : ∃ B, byMap (l.map fun s => (s.pred, .agg s.enc.toArray)) = B := ⟨_, rfl⟩
          rw [hBY] at hby hat hhas
          obtain ⟨xd, xu, xp, vk, vb, vn, vs, vu⟩ := x
          obtain ⟨sp, st, sl, se, sm, so', sr, sc⟩ := s
          unfold Wr.tenc at hmay
          unfold Val.enc at hvb
          unfold Sch.enc Wr.enc at hfit
          unfold Sch.enc at hat
          simp only at hmay hfit hat hhas hkey hnum hvb hsz hwe hko c0 c1 c2 c3 c4 c5 c6 c7 hc8 hks hns hvs hvm hts hfitv hq1 hq0
          have hlk := Go.WideMaps.keyOf_string_mk Tryz.underlying9 hxp
          have HK := Lib.hid hlk; have HMAY := Lib.hid hmay; have HFIT := Lib.hid hfit; have HAT := Lib.hid hat; have HH := Lib.hid hhas; have HTS := Lib.hid hts; have HBAD := Lib.hid hbad; have HGOOD := Lib.hid hgood; have HN := Lib.hid hn.out; have HSET := Lib.hid hset; have HBY := Lib.hid hby; have HF := Lib.hid hfr
          have HKO := Lib.hid hko; have HKEY := Lib.hid hkey; have HNUM := Lib.hid hnum; have HVB := Lib.hid hvb; have HVS := Lib.hid hvs
          have hbl2 := hfr.size
          have HBYE := Lib.hid hBY
          clear hlk hmay hfit hat hhas hts hbad hgood hn hset hby hfr hko hkey hnum hvb hvs hc8 hxp hBY
          by_cases hz : e0 = 0
          case neg =>
            have hce : ce = e0 := by
              rw [if_pos hz] at hwe
              rw [← hwe]; exact HBAD.out (by rw [hwe]; exact hz)
            have hnil : ck = [] := by rw [HCK.out, if_neg (by rw [hce]; exact hz)]
            have HN := Lib.hid hnil; have HCE2 := Lib.hid hce
            have hz' : (e0 == 0) = false := by simpa using hz
            have hz2 : (e0 != 0) = true := by simpa using hz
            clear hce hnil hwe hz hq1 hq0 hfitv hvm hsz
            go_wp2_with (first
              | (at_lookup; go_loud (refine wpList_lookup_held _ rfl _ _ 145 rfl 9 72 lawS Tryz.underlying145 (zeroSch _) w.heap.size _ _ rfl (ownsMapH_fr HBY.out ((Fr.refl _ _).alloc _)) _ _ rfl HK.out HAT.out HH.out ?_))
              | (go_at_call 85; go_loud (refine (HMAY.out _).mono ?_); rintro e w3 ⟨rfl, hf3⟩; have hB3 := boxS2_keep hf3 (boxS2_new w2 _ _ _ _); have m1 := hB3.1; have m2 := hB3.2.1; have HF3 := Lib.hid hB3.2.2.2.2))
            go_ret3
            exact ⟨_, _, w.heap.size, by rw [HCE2.out]; rfl, by rw [HN.out]; exact Strs.nil _ _, Nat.le_refl _, HF.out.then0 HF3.out⟩
          case pos =>
            subst hz
            rw [if_neg (fun h => h rfl)] at hwe
            cases q with
            | false =>
              have hso := hq0 rfl
              have hce : ce = 5 := by
                rw [hso] at hwe
                simp only at hwe
                rw [← hwe]; exact HBAD.out (by rw [hwe]; decide)
              have hnil : ck = [] := by rw [HCK.out, if_neg (by rw [hce]; decide)]
              have HN := Lib.hid hnil; have HCE2 := Lib.hid hce
              clear hce hnil hwe hq1 hq0 hfitv hvm hsz hso
              go_wp2_with (first
                | (at_lookup; go_loud (refine wpList_lookup_held _ rfl _ _ 145 rfl 9 72 lawS Tryz.underlying145 (zeroSch _) w.heap.size _ _ rfl (ownsMapH_fr HBY.out ((Fr.refl _ _).alloc _)) _ _ rfl HK.out HAT.out HH.out ?_))
                | (go_at_call 85; go_loud (refine (HMAY.out _).mono ?_); rintro e w3 ⟨rfl, hf3⟩; have hB3 := boxS2_keep hf3 (boxS2_new w2 _ _ _ _); have m1 := hB3.1; have m2 := hB3.2.1; have HF3 := Lib.hid hB3.2.2.2.2))
              go_ret3
              exact ⟨_, _, w.heap.size, by rw [HCE2.out]; rfl, by rw [HN.out]; exact Strs.nil _ _, Nat.le_refl _, HF.out.then0 HF3.out⟩
            | true =>
              obtain ⟨hso, hsp, hsm⟩ := hq1 rfl
              have he1 := hfitv rfl rfl
              have hps := hsz rfl
              have hvm' := hvm rfl
              have hko := HKO.out
              rw [hso] at hwe hko
              simp only at hwe hko
              rw [← he1] at hwe
              subst hwe
              clear hq1 hq0 hfitv hvm hsz hso hsp hsm he1 HKO
              by_cases hz1 : we = 0
              case neg =>
                have hce : ce = we := HBAD.out hz1
                have hnil : ck = [] := by rw [HCK.out, if_neg (by rw [hce]; exact hz1)]
                have HN := Lib.hid hnil; have HCE2 := Lib.hid hce
                have hz2 : (we != 0) = true := by simpa using hz1
                clear hce hnil hz1
                go_wp2_with (first
                  | (at_lookup; go_loud (refine wpList_lookup_held _ rfl _ _ 145 rfl 9 72 lawS Tryz.underlying145 (zeroSch _) w.heap.size _ _ rfl (ownsMapH_fr HBY.out ((Fr.refl _ _).alloc _)) _ _ rfl HK.out HAT.out HH.out ?_))
                  | (go_at_call 85; go_loud (refine (HMAY.out _).mono ?_); rintro e w3 ⟨rfl, hf3⟩; have hB3 := boxS2_keep hf3 (boxS2_new w2 _ _ _ _); have m1 := hB3.1; have m2 := hB3.2.1; have HF3 := Lib.hid hB3.2.2.2.2)
                  | (go_at_call 93; go_loud (refine (HFIT.out _).mono ?_); rintro e w4 ⟨rfl, hf4⟩; have hB4 := boxS2_keep (hf3.then0 hf4) (boxS2_new w2 _ _ _ _)))
                go_ret3
                exact ⟨_, _, w.heap.size, by rw [HCE2.out]; rfl, by rw [HN.out]; exact Strs.nil _ _, Nat.le_refl _, HF.out.then0 hB4.2.2.2.2⟩
              case pos =>
                subst hz1
                have hgood := HGOOD.out rfl
                have HGOOD2 := Lib.hid hgood
                obtain ⟨K, hK⟩ : ∃ K, keyB xp = K := ⟨_, rfl⟩
                obtain ⟨N, hN⟩ : ∃ N, strOfNums (num xu.toNat) = N := ⟨_, rfl⟩
                have hkey := HKEY.out (by omega)
                have hnum := HNUM.out
                simp only [hK] at hkey hks hko
                simp only [hN] at hnum hns hko
                have hcat := cat_run K N (by omega)
                have hcsz : (K ++ N).size ≤ 1000 := by rw [ByteArray.size_append]; omega
                obtain ⟨KN, hKN⟩ : ∃ q, K ++ N = q := ⟨_, rfl⟩
                simp only [hKN] at hcat hko hcsz
                have HK2 := Lib.hid hkey; have HN2 := Lib.hid hnum
                clear hkey hnum hgood hK hN hKN hks hns
                go_wp2_with (first
                  | (at_lookup; go_loud (refine wpList_lookup_held _ rfl _ _ 145 rfl 9 72 lawS Tryz.underlying145 (zeroSch _) w.heap.size _ _ rfl (ownsMapH_fr HBY.out ((Fr.refl _ _).alloc _)) _ _ rfl HK.out HAT.out HH.out ?_))
                  | (go_at_call 85; go_loud (refine (HMAY.out _).mono ?_); rintro e w3 ⟨rfl, hf3⟩; have hB3 := boxS2_keep hf3 (boxS2_new w2 _ _ _ _); have m1 := hB3.1; have m2 := hB3.2.1; have HF3 := Lib.hid hB3.2.2.2.2)
                  | (go_at_call 93; go_loud (refine (HFIT.out _).mono ?_); rintro e w4 ⟨rfl, hf4⟩; have hB4 := boxS2_keep (hf3.then0 hf4) (boxS2_new w2 _ _ _ _)))
                have hset4 := ownsMap_fr HSET.out hB4.2.2.2.2
                have hby4 := ownsMapH_fr HBY.out hB4.2.2.2.2
                have hfr := HF.out.then0 hB4.2.2.2.2
                have d1 : w4.cell? ⟨w2.heap.size, 1, none⟩ = some (.int .u64 xu) := hB4.1 1
                have d2 : w4.cell? ⟨w2.heap.size, 2, none⟩ = some (.string xp) := hB4.1 2
                have d3 : w4.cell? ⟨w2.heap.size, 3, none⟩ = some (.int .u8 vk) := hB4.1 3
                have d4 : w4.cell? ⟨w2.heap.size, 4, none⟩ = some (.bool vb) := hB4.1 4
                have d5 : w4.cell? ⟨w2.heap.size, 5, none⟩ = some (.int .i64 vn) := hB4.1 5
                have d6 : w4.cell? ⟨w2.heap.size, 6, none⟩ = some (.string vs) := hB4.1 6
                have d7 : w4.cell? ⟨w2.heap.size, 7, none⟩ = some (.int .u64 vu) := hB4.1 7
                have s2 : w4.cell? ⟨w2.heap.size + 1, 2, none⟩ = some (.bool sl) := hB4.2.1 2
                clear hB3 hB4 hf3 hf4 m1 m2 HF3 HSET HBY HF c0 c1 c2 c3 c4 c5 c6 c7
                obtain ⟨S, hK, hx, hSS⟩ := kept_open (kept_cons d1 (kept_cons d2 (kept_cons d3 (kept_cons d4 (kept_cons d5 (kept_cons d6 (kept_cons d7 (kept_cons s2 (kept_map hset4 (kept_map hby4 (kept_start hfr)))))))))))
                have HSS := Lib.hid hSS
                simp only [forall_and] at hx
                obtain ⟨f_d1, f_d2, f_d3, f_d4, f_d5, f_d6, f_d7, f_s2, f_hset4, f_hby4, f_F⟩ := hx
                clear hSS
                refine wp_region_kept hK (by kernel_rfl) (by kernel_rfl) ?_
                intro hne
                repeat (quiet_step (first | (go_at_call 94; refine calls_kept hK (HK2.out _ (hM.fr0 (f_F _)))) | (go_at_call 95; refine calls_kept hK (HN2.out _))))
                refine wpQuiet_nil ?_
                rintro wq ⟨⟨_, hq⟩, rfl⟩
                replace hq := HSS.out _ hq
                clear f_d1 f_d2 f_d3 f_d4 f_d5 f_d6 f_d7 f_s2 f_hset4 f_hby4 f_F hK hne HSS d1 d2 d3 d4 d5 d6 d7 s2 hset4 hby4 hfr S
                obtain ⟨d1, d2, d3, d4, d5, d6, d7, s2, hset4, hby4, hfr⟩ := hq
                have hbl3 : w.heap.size ≤ wr.heap.size := Nat.le_of_lt hbyl
                have SET := Lib.hid hset4; have BYQ := Lib.hid hby4
                clear hset4 hby4
                cases sl with
                | false =>
                  simp only [Bool.false_eq_true, if_false] at hko
                  have hkk := Go.WideMaps.keyOf_string_mk Tryz.underlying9 (s := KN) (by unfold maxLen; omega)
                  have HKK := Lib.hid hkk; have HKO2 := Lib.hid hko
                  clear hkk hko HK
                  go_wp2_with (at_mapUpdate; go_loud (refine wpList_mapUpdate_own _ rfl _ _ _ 147 rfl 9 154 lawS Tryz.underlying147 _ wr.heap.size k _ rfl SET.out (by unfold maxLen; omega) _ _ _ rfl rfl HKK.out _ [] unitElem_mk ?_); intro w6 hown6 hgrow6)
                  go_roundw
                  case rel => exact ⟨k + 1, by omega, by go_num, HGOOD2.out, by rw [HTS.out, HKO2.out]; exact hown6, by rw [HBYE.out]; exact BYQ.out.kept hgrow6 (by intro e; simp only [Option.some.injEq] at e; omega), hfr.grown hgrow6 fun q e => .inr (by cases e; exact hbl3)⟩
                  case measure => simp [intOf]; omega
                | true =>
                  simp only [if_true] at hko
                  have hvb := HVB.out hvm'
                  have hvs := HVS.out hvm'
                  obtain ⟨VB, hVB⟩ : ∃ q, valB { k := vk, b := vb, n := vn, s := vs, u := vu } = q := ⟨_, rfl⟩
                  simp only [hVB] at hvb hvs hko
                  have hcat2 := cat_run KN VB (by omega)
                  have hcsz2 : (KN ++ VB).size ≤ 1000000 := by rw [ByteArray.size_append]; omega
                  obtain ⟨KV, hKV⟩ : ∃ q, KN ++ VB = q := ⟨_, rfl⟩
                  simp only [hKV] at hcat2 hko hcsz2
                  have hkk := Go.WideMaps.keyOf_string_mk Tryz.underlying9 (s := KV) (by unfold maxLen; omega)
                  have HKK := Lib.hid hkk; have HKO2 := Lib.hid hko; have HVB2 := Lib.hid hvb
                  clear hkk hko HK hvb hvs hVB hKV
                  go_wp2_with (first
                    | (go_at_call 96; go_loud (refine (HVB2.out _ (hM.fr0 hfr)).mono ?_); rintro e w5 ⟨rfl, hf5⟩; have hset5 := ownsMap_fr SET.out hf5; have hby5 := ownsMapH_fr BYQ.out hf5; have hfr5 := hfr.then0 hf5; have SET5 := Lib.hid hset5; have BY5 := Lib.hid hby5; have HF5 := Lib.hid hfr5; clear hset5 hby5 hfr5)
                    | (at_mapUpdate; go_loud (refine wpList_mapUpdate_own _ rfl _ _ _ 147 rfl 9 154 lawS Tryz.underlying147 _ wr.heap.size k _ rfl SET5.out (by unfold maxLen; omega) _ _ _ rfl rfl HKK.out _ [] unitElem_mk ?_); intro w6 hown6 hgrow6))
                  go_roundw
                  case rel => exact ⟨k + 1, by omega, by go_num, HGOOD2.out, by rw [HTS.out, HKO2.out]; exact hown6, by rw [HBYE.out]; exact BY5.out.kept hgrow6 (by intro e; simp only [Option.some.injEq] at e; omega), HF5.out.grown hgrow6 fun q e => .inr (by cases e; exact hbl3)⟩
                  case measure => simp [intOf]; omega
        · obtain rfl : k = xs.length := by omega
          rw [List.take_length] at hset
          have hce : ce = 0 := by
            rw [HCE.out]
            refine firstNZ_none fun y hy => ?_
            obtain ⟨x, hx, rfl⟩ := List.mem_map.1 hy
            obtain ⟨j, hj, rfl⟩ := List.getElem_of_mem hx
            exact hn.out j hj hj
          have hcc : ck = normS (xs.map (claimOf l)) := by rw [HCK.out, if_pos hce]
          have hcall := sorted_any w2 wr.heap.size _ _ hset (by have := hset.size_le; omega)
          have HCALL := Lib.hid hcall; have HCC := Lib.hid hcc; have HCE0 := Lib.hid hce; have HF := Lib.hid hfr
          clear hcall hset hby hfr hcc hce hn
          go_wp2_with (go_at_call 97; go_loud (refine HCALL.out.mono ?_); rintro e w3 ⟨v1, bb, L, rfl, hs1, hri, hb1, hf1⟩; have HS := Lib.hid hs1; have HRI := Lib.hid hri; clear hs1 hri)
          go_ret3
          have hL := norm_of_has HRI.out
          exact ⟨_, _, bb, by rw [HCE0.out]; rfl, by rw [HCC.out, normS, ← hL]; exact HS.out, Nat.le_trans HF.out.size hb1, HF.out.then0 hf1⟩

end Go.Proofs.YthidminepegnoaaGreatDoor
