/- slices.IndexFunc at tablets; the program's Commit$1. A predicate's tablet: plain laws. Commit's answer, predicate by predicate: plain laws. A step by its number, and what it sends: plain functions. -/
import Derived.Test.YthidminepegnoaaGreatDoorQWrites
import Derived.Test.YthidminepegnoaaGreatDoorQLoops
import Derived.Test.YthidminepegnoaaGreatDoorQLivesL
namespace Go.Proofs.YthidminepegnoaaGreatDoor
open Go.RowKit Go.Shelf Go.Maps Go.Sort
attribute [local go_sem] Oper.semAt_some
attribute [local irreducible] wpQuiet
set_option linter.unusedVariables false
set_option linter.unusedSimpArgs false

theorem beq_toList (a b : ByteArray) : (a.toList == b.toList) = decide (a = b) := by
  rw [Bool.eq_iff_iff, beq_iff_eq, decide_eq_true_eq, ByteArray.toList_eq, ByteArray.toList_eq]
  constructor
  · intro h
    cases a; cases b
    simpa using h
  · rintro rfl; rfl
theorem tb_cells {W : World} {b o k : Nat} {x : Tb} (hc : ∀ c, c < 5 → W.cell? ⟨b, o + k * 5 + c, none⟩ = (x.enc)[c]?) :
    W.cell? ⟨b, o + k * 5, none⟩ = some (.string x.pred) ∧ W.cell? ⟨b, o + k * 5 + 1, none⟩ = some (.int .u32 x.group) ∧ W.cell? ⟨b, o + k * 5 + 2, none⟩ = some (.int .u32 x.tto) ∧ W.cell? ⟨b, o + k * 5 + 3, none⟩ = some (.int .u64 x.at_) ∧ W.cell? ⟨b, o + k * 5 + 4, none⟩ = some (.int .u64 x.turn) :=
  ⟨hc 0 (by omega), hc 1 (by omega), hc 2 (by omega), hc 3 (by omega), hc 4 (by omega)⟩

/-- A function value that answers p at each of some writes, from a world on, and changes nothing that lay. -/
def PredT (w : World) (gf : FuncId) (lb : Array Value) (xs : List Tb) (p : Tb → Bool) : Prop :=
  ∀ x ∈ xs, ∀ W, Fr N0 w W → Calls Tryz.prog gf (#[.agg x.enc.toArray] ++ lb) W fun e w' => e = .returned (.bool (p x)) ∧ Fr N0 W w'

set_option maxRecDepth 100000 in
set_option maxHeartbeats 2000000 in
theorem idxFT_any (w : World) (b : Nat) (v : Value) (xs : List Tb) (h : Tbs w b v xs) (hl : xs.length ≤ 1000000) (gf : FuncId) (lb : Array Value) (p : Tb → Bool) (hp : PredT w gf lb xs p)
    (eg : ∀ args w, (callFunc gf args).run Tryz.prog w = .ok (.enter gf args) w) :
    Calls Tryz.prog 67 #[v, .func (.func gf) #[] lb] w fun e w' => e = .returned (.int .i64 (idxW xs p)) ∧ Fr N0 w w' := by
  obtain ⟨a, off, cap, rfl, h1, h2, h3, h4, h5⟩ := h
  have HC := Lib.hid h5; have HP := Lib.hid hp; clear h5 hp h4
  go_enter Tryz.func67, Tryz.ntmps67
  go_wp2
  go_loopw [8] (fun i wr => ∃ k : Nat, k ≤ xs.length ∧ i = .int .i64 k ∧ Hid (∀ j (h : j < xs.length), j < k → p xs[j] = false) ∧ Fr N0 w wr) (fun i _ => xs.length - (intOf i).toNat)
  case atStart => exact ⟨0, Nat.zero_le _, rfl, fun j h hj => by omega, Fr.refl _ _⟩
  case round =>
    obtain ⟨k, hk, rfl, hn, hfr⟩ := hrel
    by_cases hlt : k < xs.length
    · obtain rfl := h3 (by omega)
      obtain ⟨c0, c1, c2, c3, c4⟩ := tb_cells (W := w) (HC.out k hlt)
      replace c0 := hfr.cell id c0; replace c1 := hfr.cell id c1; replace c2 := hfr.cell id c2; replace c3 := hfr.cell id c3
      replace c4 := hfr.cell id c4
      have hcall := HP.out xs[k] (List.getElem_mem hlt)
      have hnx : p xs[k] = false → ∀ j (h : j < xs.length), j < k + 1 → p xs[j] = false := fun he j h hj => by
        rcases Nat.lt_or_ge j k with h' | h'
        · exact hn.out j h h'
        · have : j = k := by omega
          subst this; exact he
      have hfd : p xs[k] = true → idxW xs p = k := fun he => idxW_at hlt hn.out he
      obtain ⟨x, hx⟩ : ∃ x, xs[k] = x := ⟨_, rfl⟩
      simp only [hx] at c0 c1 c2 c3 c4 hcall hnx hfd
      obtain ⟨q, hq⟩ : ∃ q, p x = q := ⟨_, rfl⟩
      rw [hq] at hcall hnx hfd
      obtain ⟨xp, xg, xo, xa, xt⟩ := x
      unfold Tb.enc at hcall
      simp only at c0 c1 c2 c3 c4 hcall
      have hki : (k : Int) < (xs.length : Int) := by omega
      have HX := Lib.hid hcall; have HNX := Lib.hid hnx; have HFD := Lib.hid hfd
      clear hcall hx hq hnx hfd hn
      cases q with
      | true =>
        have hF := Lib.hid (HFD.out rfl)
        clear HFD HNX
        go_wp2_with (refine (HX.out _ hfr).mono ?_; rintro e w1 ⟨rfl, hf1⟩)
        go_ret
        exact ⟨ret_int hF.out.symm, hfr.then0 hf1⟩
      | false =>
        have hF := Lib.hid (HNX.out rfl)
        clear HFD HNX
        go_wp2_with (refine (HX.out _ hfr).mono ?_; rintro e w1 ⟨rfl, hf1⟩)
        go_roundw
        case rel => exact ⟨k + 1, by omega, by go_num, hF.out, hfr.then0 hf1⟩
        case measure => simp [intOf]; omega
    · obtain rfl : k = xs.length := by omega
      have hF := Lib.hid (idxW_none hn.out)
      clear hn
      go_wp2
      go_ret
      exact ⟨ret_int hF.out.symm, hfr⟩


set_option maxRecDepth 100000 in
set_option maxHeartbeats 1000000 in
theorem xCommit1_any (w : World) (x : Tb) (B : Nat) (p : ByteArray) (hB : w.cell? ⟨B, 0, none⟩ = some (.string p)) :
    Calls Tryz.prog 68 #[.agg x.enc.toArray, .pointer (some ⟨B, 0, none⟩)] w fun e w' => e = .returned (.bool (decide (x.pred = p))) ∧ Fr N0 w w' := by
  obtain ⟨xp, xg, xo, xa, xt⟩ := x
  unfold Tb.enc
  have hB' := (Fr.refl N0 w |>.alloc (.cells #[.string xp, .int .u32 xg, .int .u32 xo, .int .u64 xa, .int .u64 xt] 43)).cell id hB
  clear hB
  go_enter Tryz.func68, Tryz.ntmps68
  go_wp2
  go_ret
  exact ⟨ret_bool (beq_toList _ _), (Fr.refl _ _).alloc _⟩

end Go.Proofs.YthidminepegnoaaGreatDoor
namespace Go.Proofs.YthidminepegnoaaGreatDoor
open Go.RowKit Go.Shelf
set_option linter.unusedVariables false
set_option linter.unusedSimpArgs false

theorem tab_none {tbs : List Tb} {p : ByteArray} (h : ∀ j (h : j < tbs.length), tbs[j].pred ≠ p) : tabErr tbs p = 5 := by
  have : tbs.find? (fun b => decide (b.pred = p)) = none := by
    rw [List.find?_eq_none]
    intro x hx
    obtain ⟨j, hj, rfl⟩ := List.getElem_of_mem hx
    simpa using h j hj
  rw [tabErr, this]
theorem tab_at {tbs : List Tb} {p : ByteArray} {k : Nat} (hk : k < tbs.length) (hn : ∀ j (h : j < tbs.length), j < k → tbs[j].pred ≠ p) (he : tbs[k].pred = p) :
    tabErr tbs p = (if tbs[k].group = 0 ∨ tbs[k].turn = 0 then 5 else if tbs[k].tto ≠ 0 then 7 else 0) ∧ tabRt tbs p = ⟨p, tbs[k].group, tbs[k].turn⟩ := by
  have : tbs.find? (fun b => decide (b.pred = p)) = some tbs[k] := by
    rw [List.find?_eq_some_iff_getElem]
    exact ⟨by simpa using he, k, hk, rfl, fun j hj => by simpa using hn j (by omega) hj⟩
  exact ⟨by rw [tabErr, this], by rw [tabRt, this]⟩
/-- .. by its place. -/
theorem tab_idx {tbs : List Tb} {p : ByteArray} : (idxW tbs (fun b => decide (b.pred = p)) = -1 ∧ tabErr tbs p = 5) ∨ ∃ (k : Nat) (hk : k < tbs.length), idxW tbs (fun b => decide (b.pred = p)) = k ∧
    tabErr tbs p = (if tbs[k].group = 0 ∨ tbs[k].turn = 0 then 5 else if tbs[k].tto ≠ 0 then 7 else 0) ∧ tabRt tbs p = ⟨p, tbs[k].group, tbs[k].turn⟩ := by
  by_cases h : tbs.findIdx (fun b => decide (b.pred = p)) < tbs.length
  · right
    have h2 := List.findIdx_getElem (w := h)
    obtain ⟨h3, h4⟩ := tab_at h (p := p) (fun j hj hlt => by have := List.not_of_lt_findIdx hlt; simpa using this) (by simpa using h2)
    exact ⟨_, h, by rw [idxW, if_pos h], h3, h4⟩
  · left
    refine ⟨by rw [idxW, if_neg h], tab_none fun j hj e => h ?_⟩
    exact List.findIdx_lt_length_of_exists ⟨tbs[j], List.getElem_mem hj, by simpa using e⟩
theorem firstNZ_all {l : List Int} (h : ∀ j (hj : j < l.length), l[j] = 0) : firstNZ l = 0 := by
  induction l with
  | nil => rfl
  | cons x l ih =>
    have h0 := h 0 (by simp)
    simp only [List.getElem_cons_zero] at h0
    rw [firstNZ, if_pos h0]
    exact ih fun j hj => by have := h (j + 1) (by simp; omega); simpa using this
end Go.Proofs.YthidminepegnoaaGreatDoor
namespace Go.Proofs.YthidminepegnoaaGreatDoor
open Go.RowKit Go.Shelf
set_option linter.unusedVariables false
set_option linter.unusedSimpArgs false

/-- The first predicate whose tablet is no good. -/
theorem commit_err {t : Txn} {tbs : List Tb} {i : Nat} (hp : t.phase = 2) (hw : t.writes ≠ []) (hi : i < (predsOf t.writes).length) (hn : ∀ j (h : j < (predsOf t.writes).length), j < i → tabErr tbs (predsOf t.writes)[j] = 0) (he : tabErr tbs (predsOf t.writes)[i] ≠ 0) :
    sCommit t tbs = ({}, tabErr tbs (predsOf t.writes)[i]) := by
  have h1 : firstNZ ((predsOf t.writes).map (tabErr tbs)) = tabErr tbs (predsOf t.writes)[i] := by
    have := firstNZ_at (l := (predsOf t.writes).map (tabErr tbs)) (k := i) (by simpa using hi) (fun j h hj => by simpa using hn j (by simpa using h) hj) (by simpa using he)
    simpa using this
  rw [sCommit, if_neg (by omega), if_neg hw, h1, if_pos he]
theorem commit_ok {t : Txn} {tbs : List Tb} (hp : t.phase = 2) (hw : t.writes ≠ []) (hn : ∀ j (h : j < (predsOf t.writes).length), tabErr tbs (predsOf t.writes)[j] = 0) :
    sCommit t tbs = ({ t with phase := 3, needs := (predsOf t.writes).map (tabRt tbs), groups := groupsOf ((predsOf t.writes).map (tabRt tbs)), left := groupsOf ((predsOf t.writes).map (tabRt tbs)) }, 0) := by
  have h1 : firstNZ ((predsOf t.writes).map (tabErr tbs)) = 0 := firstNZ_none fun x hx => by
    obtain ⟨p, hp, rfl⟩ := List.mem_map.1 hx
    obtain ⟨j, hj, rfl⟩ := List.getElem_of_mem hp
    exact hn j hj
  rw [sCommit, if_neg (by omega), if_neg hw, if_neg (by simp [h1])]
theorem preds_few (ws : List Wr) : (predsOf ws).length ≤ ws.length := by
  have := normS_length (ws.map (·.pred)); simpa [predsOf] using this
theorem tab_take {tbs : List Tb} {P : List ByteArray} {i : Nat} (hi : i < P.length) : ((P.take (i + 1)).map (tabRt tbs)).flatMap Rt.enc = ((P.take i).map (tabRt tbs)).flatMap Rt.enc ++ (tabRt tbs P[i]).enc := by
  rw [List.take_succ_eq_append_getElem hi, List.map_append, List.map_cons, List.map_nil, List.flatMap_append]
  simp
/-- Which it is. -/
theorem tab_cases {tbs : List Tb} {p : ByteArray} {m : Nat} (hn : ∀ j (h : j < tbs.length), j < m → tbs[j].pred ≠ p) (hm : m ≤ tbs.length) (hs : ∀ h : m < tbs.length, tbs[m].pred = p) :
    (m = tbs.length ∧ tabErr tbs p = 5) ∨ ∃ h : m < tbs.length, ((tbs[m].group = 0 ∨ tbs[m].turn = 0) ∧ tabErr tbs p = 5) ∨ (tbs[m].group ≠ 0 ∧ tbs[m].turn ≠ 0 ∧ tbs[m].tto ≠ 0 ∧ tabErr tbs p = 7) ∨ (tbs[m].group ≠ 0 ∧ tbs[m].turn ≠ 0 ∧ tbs[m].tto = 0 ∧ tabErr tbs p = 0 ∧ tabRt tbs p = ⟨p, tbs[m].group, tbs[m].turn⟩) := by
  rcases Nat.lt_or_ge m tbs.length with h | h
  · refine .inr ⟨h, ?_⟩
    obtain ⟨e1, e2⟩ := tab_at h (fun j hj hlt => hn j hj hlt) (hs h)
    by_cases h1 : tbs[m].group = 0 ∨ tbs[m].turn = 0
    · exact .inl ⟨h1, by rw [e1, if_pos h1]⟩
    · have h2 : tbs[m].group ≠ 0 := fun e => h1 (.inl e)
      have h3 : tbs[m].turn ≠ 0 := fun e => h1 (.inr e)
      by_cases h4 : tbs[m].tto = 0
      · exact .inr (.inr ⟨h2, h3, h4, by rw [e1, if_neg h1, if_neg (by simpa using h4)], e2⟩)
      · exact .inr (.inl ⟨h2, h3, h4, by rw [e1, if_neg h1, if_pos h4]⟩)
  · have e : m = tbs.length := by omega
    exact .inl ⟨e, tab_none fun j hj => hn j hj (by omega)⟩
end Go.Proofs.YthidminepegnoaaGreatDoor
namespace Go.Proofs.YthidminepegnoaaGreatDoor
open Go.RowKit Go.Shelf
set_option linter.unusedVariables false
set_option linter.unusedSimpArgs false

noncomputable def stepOf (k : Nat) (t : Txn) (a : Ak) : Txn × Int :=
  if k = 0 then sStarted t a.an else if k = 1 then sWrite t a.l a.ws else if k = 2 then sCommit t a.tbs else if k = 3 then sStaged t a.group a.code
  else if k = 4 then sDecided t a.an else if k = 5 then sFinaled t a.group a.code else sGive t
noncomputable def outsOf (k : Nat) (t : Txn) (a : Ak) : List Out :=
  if k = 0 then [] else if k = 1 then [] else if k = 2 then (if (sCommit t a.tbs).2 = 0 then again (sCommit t a.tbs).1 else [])
  else if k = 3 then (if (sStaged t a.group a.code).2 = 0 ∧ (sStaged t a.group a.code).1.phase = 4 then again (sStaged t a.group a.code).1 else [])
  else if k = 4 then (if (sDecided t a.an).2 = 0 then again (sDecided t a.an).1 else [])
  else if k = 5 then (if (sFinaled t a.group a.code).2 = 0 ∧ a.code ≠ 0 then [{ group := a.group, skind := 3, sstart := t.start, scommit := t.commit }] else [])
  else (if (sGive t).2 = 0 then again (sGive t).1 else [])
/-- Each step's transaction may be. -/
theorem inv_step {k : Nat} {t : Txn} {a : Ak} {w : World} {r : AkV} (hv : Inv t) (ha : r.Is w a) (h : (stepOf k t a).2 = 0) : Inv (stepOf k t a).1 := by
  unfold stepOf at h ⊢
  split at h
  · rw [if_pos (by assumption)]; exact inv_started ha.anOk.1 h
  · split at h
    · rw [if_neg (by assumption), if_pos (by assumption)]; exact inv_write hv (fun x hx => (ha.wsOk x hx).1) h
    · split at h
      · rw [if_neg (by assumption), if_neg (by assumption), if_pos (by assumption)]; exact inv_commit hv ha.tbsOk h
      · split at h
        · rw [if_neg (by assumption), if_neg (by assumption), if_neg (by assumption), if_pos (by assumption)]; exact inv_staged hv h
        · split at h
          · rw [if_neg (by assumption), if_neg (by assumption), if_neg (by assumption), if_neg (by assumption), if_pos (by assumption)]; exact inv_decided hv ha.anOk.2 h
          · split at h
            · rw [if_neg (by assumption), if_neg (by assumption), if_neg (by assumption), if_neg (by assumption), if_neg (by assumption), if_pos (by assumption)]; exact inv_finaled hv h
            · rw [if_neg (by assumption), if_neg (by assumption), if_neg (by assumption), if_neg (by assumption), if_neg (by assumption), if_neg (by assumption)]; exact inv_give hv h
/-- A transaction that may be has short lists. -/
theorem inv_short {t : Txn} (hv : Inv t) : t.writes.length ≤ 1000 ∧ t.keys.length ≤ 1000 ∧ t.needs.length ≤ 1000 ∧ t.groups.length ≤ 1000 ∧ t.left.length ≤ 1000 := by
  have h1 := hv.few; have h2 := hv.fewKeys; have h3 := hv.fewLeft
  have h4 : t.needs.length ≤ 256 ∧ t.groups.length ≤ 256 := by
    by_cases hp : t.phase = 3 ∨ t.phase = 4 ∨ t.phase = 5
    · have hm := hv.moving hp
      have := groupsOf_few t.needs
      have h5 := hm.few
      rw [hm.groups]; omega
    · have := hv.still (fun h => hp (.inl h)) (fun h => hp (.inr (.inl h))) (fun h => hp (.inr (.inr h)))
      rw [this.1, this.2]; simp
  omega
/-- .. and what it sends is short. -/
theorem again_short {t : Txn} (hv : Inv t) : (again t).length ≤ 1000 ∧ ∀ o ∈ again t, o.okeys.length ≤ 1000000 ∧ o.oneeds.length ≤ 1000000 ∧ o.swrites.length ≤ 1000000 := by
  obtain ⟨h1, h2, h3, h4, h5⟩ := inv_short hv
  have ho : ∀ g, (ownOf t g).length ≤ 1000 := fun g => Nat.le_trans (List.length_filter_le _ _) h1
  unfold again
  split
  · simp
  · split
    · refine ⟨by simpa using h5, fun o ho' => ?_⟩
      obtain ⟨g, hg, rfl⟩ := List.mem_map.1 ho'
      have := ho g
      exact ⟨by simp, by simp, by show (ownOf t g).length ≤ _; omega⟩
    · split
      · refine ⟨by simp, fun o ho' => ?_⟩
        simp only [List.mem_singleton] at ho'
        subst ho'
        split
        · simp
        · exact ⟨by show t.keys.length ≤ _; omega, by show (t.needs.map _).length ≤ _; rw [List.length_map]; omega, by simp⟩
      · split
        · refine ⟨by simpa using h5, fun o ho' => ?_⟩
          obtain ⟨g, hg, rfl⟩ := List.mem_map.1 ho'
          simp
        · simp
theorem outs_short {k : Nat} {t : Txn} {a : Ak} {w : World} {r : AkV} (hv : Inv t) (ha : r.Is w a) : (outsOf k t a).length ≤ 1000 ∧ ∀ o ∈ outsOf k t a, o.okeys.length ≤ 1000000 ∧ o.oneeds.length ≤ 1000000 ∧ o.swrites.length ≤ 1000000 := by
  unfold outsOf
  have h0 : ([] : List Out).length ≤ 1000 ∧ ∀ o ∈ ([] : List Out), o.okeys.length ≤ 1000000 ∧ o.oneeds.length ≤ 1000000 ∧ o.swrites.length ≤ 1000000 := by simp
  split
  · exact h0
  · split
    · exact h0
    · split
      · split
        · exact again_short (inv_commit hv ha.tbsOk (by assumption))
        · exact h0
      · split
        · split
          · rename_i h; exact again_short (inv_staged hv h.1)
          · exact h0
        · split
          · split
            · exact again_short (inv_decided hv ha.anOk.2 (by assumption))
            · exact h0
          · split
            · split
              · simp
              · exact h0
            · split
              · exact again_short (inv_give hv (by assumption))
              · exact h0
end Go.Proofs.YthidminepegnoaaGreatDoor
