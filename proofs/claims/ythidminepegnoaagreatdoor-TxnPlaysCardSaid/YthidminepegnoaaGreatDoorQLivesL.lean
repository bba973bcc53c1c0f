/- Each step keeps what a transaction may be: plain laws. The chapter's example: what its steps make: plain facts. -/
import Derived.Test.YthidminepegnoaaGreatDoorQLoops
import Derived.Test.YthidminepegnoaaGreatDoorQWrites
import Derived.Test.YthidminepegnoaaGreatDoorQStaged
namespace Go.Proofs.YthidminepegnoaaGreatDoor
open Go.RowKit Go.Shelf
set_option linter.unusedVariables false
set_option linter.unusedSimpArgs false

theorem groupsOf_ne {l : List Rt} (h : 0 < l.length) : groupsOf l ≠ [] := by
  cases l with
  | nil => simp at h
  | cons r l =>
    have : r.group ∈ groupsOf (r :: l) := ((normI_rises _).2 _).2 (by simp)
    intro e
    rw [e] at this
    cases this
theorem groupsOf_rises (l : List Rt) : (groupsOf l).Pairwise (· < ·) := (normI_rises _).1
theorem groupsOf_few (l : List Rt) : (groupsOf l).length ≤ l.length := by
  have := normI_length (l.map (·.group)); simpa [groupsOf] using this

theorem inv_decided {t : Txn} {a : An} (hv : Inv t) (hr : 0 ≤ a.commit ∧ a.commit < 18446744073709551616) (h : (sDecided t a).2 = 0) : Inv (sDecided t a).1 := by
  unfold sDecided at h ⊢
  split at h
  · simp at h
  · split at h
    · simp at h
    · rename_i h1 h2
      rw [if_neg h1, if_neg h2]
      have h1 : t.phase = 4 := by omega
      have hm := hv.moving (.inr (.inl h1))
      have hg := hm.groups
      have hgf := groupsOf_few t.needs
      have hm4 := hm.few
      have hc : a.commit = 0 ∨ t.start < a.commit := by omega
      show Inv { t with phase := 5, commit := a.commit, failed := false, left := t.groups }
      exact { hv with phase := (by simp), start := ⟨fun e => absurd (hv.start.1 e) (by omega), fun e => (by simp at e)⟩, moving := fun _ => ⟨hm.some_, hm.same, hm.good, hm.groups, hm.few⟩, still := fun _ _ h => absurd rfl h, left := fun _ => by rw [hg]; exact groupsOf_ne hm.some_, none_ := fun _ h => absurd rfl h, among := fun g h => h, rises := (by show t.groups.Pairwise _; rw [hg]; exact groupsOf_rises _), failed := fun _ _ => rfl, new := (fun h => by simp at h), read := (fun h => by simp at h), ended := fun _ => hc, open_ := (fun h => by simp at h), nums := ⟨hv.nums.1, hr⟩, fewLeft := (by show t.groups.length ≤ 256; rw [hg]; omega) }

theorem mem_erase {l : List Int} {g x : Int} (h : x ∈ l.erase g) : x ∈ l := List.mem_of_mem_erase h
theorem erase_rises {l : List Int} (g : Int) (h : l.Pairwise (· < ·)) : (l.erase g).Pairwise (· < ·) := h.sublist (List.erase_sublist)
theorem inv_staged {t : Txn} {g code : Int} (hv : Inv t) (h : (sStaged t g code).2 = 0) : Inv (sStaged t g code).1 := by
  unfold sStaged at h ⊢
  split at h
  · simp at h
  · split at h
    · simp at h
    · rename_i h1 h2
      rw [if_neg h1, if_neg h2]
      have h1 : t.phase = 3 := by omega
      have hm := hv.moving (.inl h1)
      have hs : t.start ≠ 0 := fun e => absurd (hv.start.1 e) (by omega)
      have hl := hv.fewLeft
      have hle := List.length_erase_le (a := g) (l := t.left)
      show Inv { t with left := t.left.erase g, failed := t.failed || decide (code ≠ 0), phase := if t.left.erase g = [] then 4 else 3 }
      by_cases he : t.left.erase g = []
      · simp only [if_pos he]
        rw [he]
        exact { hv with phase := (by simp), start := ⟨fun e => absurd e hs, fun e => (by simp at e)⟩, moving := fun _ => ⟨hm.some_, hm.same, hm.good, hm.groups, hm.few⟩, still := fun _ h _ => absurd rfl h, left := (fun h => by simp at h), none_ := fun _ _ => rfl, among := (fun g h => by cases h), rises := List.Pairwise.nil, failed := fun _ h => absurd rfl h, new := (fun h => by simp at h), read := (fun h => by simp at h), ended := (fun h => by simp at h), open_ := fun _ => hv.open_ (.inr (.inl h1)), fewLeft := (by simp) }
      · simp only [if_neg he]
        exact { hv with phase := (by simp), start := ⟨fun e => absurd e hs, fun e => (by simp at e)⟩, moving := fun _ => ⟨hm.some_, hm.same, hm.good, hm.groups, hm.few⟩, still := fun h _ _ => absurd rfl h, left := fun _ => he, none_ := fun h _ => absurd rfl h, among := fun x hx => hv.among x (mem_erase hx), rises := erase_rises g hv.rises, failed := fun h _ => absurd rfl h, new := (fun h => by simp at h), read := (fun h => by simp at h), ended := (fun h => by simp at h), open_ := fun _ => hv.open_ (.inr (.inl h1)), fewLeft := by show (t.left.erase g).length ≤ 256; omega }
theorem inv_finaled {t : Txn} {g code : Int} (hv : Inv t) (h : (sFinaled t g code).2 = 0) : Inv (sFinaled t g code).1 := by
  unfold sFinaled at h ⊢
  split at h
  · simp at h
  · split at h
    · simp at h
    · rename_i h1 h2
      rw [if_neg h1, if_neg h2]
      have h1 : t.phase = 5 := by omega
      have hm := hv.moving (.inr (.inr h1))
      have hs : t.start ≠ 0 := fun e => absurd (hv.start.1 e) (by omega)
      have hl := hv.fewLeft
      have hle := List.length_erase_le (a := g) (l := t.left)
      have hend := hv.ended (.inl h1)
      by_cases hc : code = 0
      · rw [if_neg (by simpa using hc)]
        by_cases he : t.left.erase g = []
        · rw [if_pos he]
          show Inv { phase := 6, start := t.start, commit := t.commit, writes := t.writes, keys := t.keys }
          exact { phase := (by simp), start := ⟨fun e => absurd e hs, fun e => (by simp at e)⟩, few := hv.few, keyed := hv.keyed, keys := hv.keys, may := hv.may, moving := (fun h => by simp at h), still := fun _ _ _ => ⟨rfl, rfl⟩, left := (fun h => by simp at h), none_ := fun _ _ => rfl, among := (fun g h => by cases h), rises := List.Pairwise.nil, failed := fun _ _ => rfl, new := (fun h => by simp at h),
                  read := (fun _ hw => by
                    exfalso
                    have h3 := hm.same
                    rw [show t.writes = [] from hw] at h3
                    have h4 : t.needs = [] := by simpa [predsOf, normS, normL, once] using h3
                    have h5 := hm.some_
                    rw [h4] at h5
                    simp at h5), ended := fun _ => hend, open_ := (fun h => by simp at h), ok := hv.ok, nums := hv.nums, fewKeys := hv.fewKeys, fewLeft := (by simp), rts := (fun r h => by cases h) }
        · rw [if_neg he]
          show Inv { t with left := t.left.erase g }
          exact { hv with moving := fun _ => ⟨hm.some_, hm.same, hm.good, hm.groups, hm.few⟩, left := fun _ => he, none_ := fun _ h => absurd h1 h, among := fun x hx => hv.among x (mem_erase hx), rises := erase_rises g hv.rises, fewLeft := by show (t.left.erase g).length ≤ 256; omega }
      · rw [if_pos hc]
        exact hv
/-- A text list made rising. -/
theorem normS_rises (l : List ByteArray) : RisesS (normS l) := by
  intro i hi h0
  have hi' : i < (normL l).length := by unfold normS at hi; simpa using hi
  have hp := List.pairwise_iff_getElem.1 (normL_rises l).1 (i - 1) i (by omega) hi' (by omega)
  have e : ∀ k (hk : k < (normS l).length) (hk' : k < (normL l).length), (normS l)[k].toList = (normL l)[k] := fun k hk hk' => by
    rw [toListD]
    simp [normS, mkS]
  rw [e, e] <;> first | exact hp | omega
theorem firstNZ_zero : ∀ {l : List Int}, firstNZ l = 0 → ∀ x ∈ l, x = 0
  | [], _, x, hx => by cases hx
  | y :: l, h, x, hx => by
    rw [firstNZ] at h
    split at h
    · rename_i hy
      rcases List.mem_cons.1 hx with rfl | hx
      · exact hy
      · exact firstNZ_zero h x hx
    · rename_i hy; exact absurd h hy
theorem once_length : ∀ l : List (List UInt8), (once l).length ≤ l.length
  | [] => Nat.le_refl _
  | x :: l => by
    have := once_length l
    simp only [once]
    split <;> simp <;> omega
theorem normS_length (l : List ByteArray) : (normS l).length ≤ l.length := by
  have := once_length (l.map (·.data.toList))
  simp [normS, normL] at this ⊢
  exact this
theorem normS_nil {l : List ByteArray} : normS l = [] ↔ l = [] := by
  constructor
  · intro h
    cases l with
    | nil => rfl
    | cons x l =>
      have : x ∈ normS (x :: l) := normS_mem.2 (by simp)
      rw [h] at this
      cases this
  · rintro rfl; simp [normS, normL, once]
theorem wrErr_zero {l : List Sch} {x : Wr} (h : wrErr l x = 0) : trMay x = 0 := by
  unfold wrErr at h
  by_cases h0 : trMay x = 0
  · exact h0
  · rw [if_pos h0] at h; exact absurd h h0
theorem claims_may {l : List Sch} {ws : List Wr} (h : claimsErr l ws = 0) : ws.length ≤ 256 ∧ ∀ x ∈ ws, trMay x = 0 := by
  unfold claimsErr at h
  split at h
  · simp at h
  · split at h
    · simp at h
    · exact ⟨by omega, fun x hx => wrErr_zero (firstNZ_zero h _ (List.mem_map.2 ⟨x, hx, rfl⟩))⟩
theorem inv_write {t : Txn} {l : List Sch} {ws : List Wr} (hv : Inv t) (hok : ∀ x ∈ ws, x.ok) (h : (sWrite t l ws).2 = 0) : Inv (sWrite t l ws).1 := by
  unfold sWrite at h ⊢
  split at h
  · simp at h
  · split at h
    · simp at h
    · split at h
      · rename_i h1 h2 h3; exact absurd h h3
      · split at h
        · rename_i h1 h2 h3 h4; exact absurd h h4
        · rename_i h1 h2 h3 h4
          rw [if_neg h1, if_neg h2, if_neg h3, if_neg h4]
          have h1 : t.phase = 2 := by omega
          have h4 : claimsErr l (t.writes ++ ws) = 0 := by simpa using h4
          have hm := claims_may h4
          have hs : t.start ≠ 0 := fun e => absurd (hv.start.1 e) (by omega)
          have hk : claimsKeys l (t.writes ++ ws) = normS ((t.writes ++ ws).map (claimOf l)) := by unfold claimsKeys; rw [if_pos h4]
          have hkl := normS_length ((t.writes ++ ws).map (claimOf l))
          rw [List.length_map] at hkl
          have hm1 := hm.1
          show Inv { phase := 2, start := t.start, writes := t.writes ++ ws, keys := claimsKeys l (t.writes ++ ws) }
          rw [hk]
          exact { phase := (by simp), start := ⟨fun e => absurd e hs, fun e => (by simp at e)⟩, few := hm.1, keyed := (by show normS _ = [] ↔ _; rw [normS_nil, List.map_eq_nil_iff]), keys := normS_rises _, may := hm.2, moving := (fun h => by simp at h), still := fun _ _ _ => ⟨rfl, rfl⟩, left := (fun h => by simp at h), none_ := fun _ _ => rfl, among := (fun g h => by cases h), rises := List.Pairwise.nil, failed := fun _ _ => rfl, new := (fun h => by simp at h), read := (fun h => by simp at h), ended := (fun h => by simp at h), open_ := fun _ => rfl,
                  ok := (fun x hx => (List.mem_append.1 hx).elim (hv.ok x) (hok x)), nums := ⟨hv.nums.1, (by simp)⟩, fewKeys := (by show (normS _).length ≤ 256; omega), fewLeft := (by simp), rts := (fun r h => by cases h) }
theorem tabErr_zero {tbs : List Tb} {p : ByteArray} (h : tabErr tbs p = 0) : ∃ b ∈ tbs, tabRt tbs p = ⟨p, b.group, b.turn⟩ ∧ b.group ≠ 0 ∧ b.turn ≠ 0 := by
  unfold tabErr at h
  unfold tabRt
  cases hf : tbs.find? fun b => decide (b.pred = p) with
  | none => rw [hf] at h; simp at h
  | some b =>
    rw [hf] at h
    simp only at h ⊢
    split at h
    · simp at h
    · rename_i hb
      exact ⟨b, List.mem_of_find?_eq_some hf, rfl, fun e => hb (.inl e), fun e => hb (.inr e)⟩
theorem tabRt_pred (tbs : List Tb) (p : ByteArray) : (tabRt tbs p).pred = p := by
  unfold tabRt
  split <;> rfl
theorem inv_commit {t : Txn} {tbs : List Tb} (hv : Inv t) (hb : ∀ b ∈ tbs, (0 ≤ b.group ∧ b.group < 4294967296) ∧ 0 ≤ b.turn ∧ b.turn < 18446744073709551616) (h : (sCommit t tbs).2 = 0) : Inv (sCommit t tbs).1 := by
  unfold sCommit at h ⊢
  split at h
  · simp at h
  · rename_i h1
    rw [if_neg h1]
    have h1 : t.phase = 2 := by omega
    have hs : t.start ≠ 0 := fun e => absurd (hv.start.1 e) (by omega)
    have hst := hv.still (by omega) (by omega) (by omega)
    by_cases hw : t.writes = []
    · rw [if_pos hw]
      show Inv { t with phase := 6, commit := t.start }
      exact { hv with phase := (by simp), start := ⟨fun e => absurd e hs, fun e => (by simp at e)⟩, moving := (fun h => by simp at h), still := fun _ _ _ => hst, left := (fun h => by simp at h), none_ := fun _ _ => hv.none_ (by omega) (by omega), failed := fun _ _ => hv.failed (by omega) (by omega), new := (fun h => by simp at h), read := fun _ _ => .inr rfl, ended := (fun h => by simp [hw] at h), open_ := (fun h => by simp at h), nums := ⟨hv.nums.1, hv.nums.1⟩ }
    · rw [if_neg hw] at h ⊢
      split at h
      · rename_i h3; exact absurd h h3
      · rename_i h3
        rw [if_neg h3]
        have h3 : firstNZ ((predsOf t.writes).map (tabErr tbs)) = 0 := by simpa using h3
        have hz := fun p hp => tabErr_zero (firstNZ_zero h3 _ (List.mem_map.2 ⟨p, hp, rfl⟩))
        have hpl : (predsOf t.writes).length ≤ 256 := by
          have := normS_length (t.writes.map (·.pred)); have := hv.few
          unfold predsOf; simp at *; omega
        have hne : predsOf t.writes ≠ [] := fun e => hw (by simpa using normS_nil.1 e)
        have hnl : 0 < ((predsOf t.writes).map (tabRt tbs)).length := by
          rw [List.length_map]; exact List.length_pos_iff.2 hne
        have hgf := groupsOf_few ((predsOf t.writes).map (tabRt tbs))
        rw [List.length_map] at hgf
        show Inv { t with phase := 3, needs := (predsOf t.writes).map (tabRt tbs), groups := groupsOf ((predsOf t.writes).map (tabRt tbs)), left := groupsOf ((predsOf t.writes).map (tabRt tbs)) }
        have hr : RoutesOk { t with phase := 3, needs := (predsOf t.writes).map (tabRt tbs), groups := groupsOf ((predsOf t.writes).map (tabRt tbs)), left := groupsOf ((predsOf t.writes).map (tabRt tbs)) } :=
          { some_ := hnl, same := (by show ((predsOf t.writes).map (tabRt tbs)).map (·.pred) = predsOf t.writes; rw [List.map_map]; conv => rhs; rw [← List.map_id (predsOf t.writes)]
                                      exact List.map_congr_left fun p _ => tabRt_pred tbs p),
            good := (fun r hr => by
              obtain ⟨p, hp, rfl⟩ := List.mem_map.1 hr
              obtain ⟨b, _, e, h1, h2⟩ := hz p hp
              rw [e]; exact ⟨h1, h2⟩), groups := rfl, few := (by show ((predsOf t.writes).map (tabRt tbs)).length ≤ 256; rw [List.length_map]; exact hpl) }
        have hrt : ∀ r ∈ (predsOf t.writes).map (tabRt tbs), (0 ≤ r.group ∧ r.group < 4294967296) ∧ 0 ≤ r.turn ∧ r.turn < 18446744073709551616 := fun r hr => by
          obtain ⟨p, hp, rfl⟩ := List.mem_map.1 hr
          obtain ⟨b, hbm, e, h1, h2⟩ := hz p hp
          rw [e]; exact hb b hbm
        exact { hv with phase := (by simp), start := ⟨fun e => absurd e hs, fun e => (by simp at e)⟩, moving := fun _ => hr, still := fun h _ _ => absurd rfl h, left := fun _ => groupsOf_ne hnl, none_ := fun h _ => absurd rfl h, among := fun g h => h, rises := groupsOf_rises _, failed := fun h _ => absurd rfl h, new := (fun h => by simp at h), read := (fun h => by simp at h), ended := (fun h => by simp at h), open_ := fun _ => hv.open_ (.inl h1), fewLeft := (by show (groupsOf _).length ≤ 256; omega), rts := hrt }

end Go.Proofs.YthidminepegnoaaGreatDoor
namespace Go.Proofs.YthidminepegnoaaGreatDoor
open Go.RowKit Go.Shelf
set_option linter.unusedVariables false
set_option linter.unusedSimpArgs false

def bAge : ByteArray := ⟨#[97, 103, 101]⟩
def bName : ByteArray := ⟨#[110, 97, 109, 101]⟩
def lSch : List Sch := [⟨bAge, 2, false, false, false, false, false, false⟩, ⟨bName, 3, false, false, false, false, false, false⟩]
def lW1 : Wr := ⟨false, 1, bName, ⟨3, false, 0, ⟨#[97]⟩, 0⟩⟩
def lW2 : Wr := ⟨false, 1, bAge, ⟨2, false, 5, ⟨#[]⟩, 0⟩⟩
def lTbs : List Tb := [⟨bName, 1, 0, 0, 1⟩, ⟨bAge, 2, 0, 0, 1⟩]
theorem ok_age : predOk bAge = true := predOk_true ⟨by decide, by decide, by decide, by decide, fun j h => by
  have h : j < 3 := h
  obtain rfl | rfl | rfl : j = 0 ∨ j = 1 ∨ j = 2 := by omega
  all_goals rfl⟩
theorem ok_name : predOk bName = true := predOk_true ⟨by decide, by decide, by decide, by decide, fun j h => by
  have h : j < 4 := h
  obtain rfl | rfl | rfl | rfl : j = 0 ∨ j = 1 ∨ j = 2 ∨ j = 3 := by omega
  all_goals rfl⟩
theorem l_wrong : wrongS lSch = -1 := wrongS_none fun j h => by
  have h : j < 2 := h
  have e1 : schMay ⟨bAge, 2, false, false, false, false, false, false⟩ = 0 := by simp [schMay, ok_age]; rfl
  have e2 : schMay ⟨bName, 3, false, false, false, false, false, false⟩ = 0 := by simp [schMay, ok_name]; rfl
  obtain rfl | rfl : j = 0 ∨ j = 1 := by omega
  · simp [stopAt, badAt, lSch, e1]
  · have hb : Op.bytesLess bAge.toList bName.toList = true := by rw [ByteArray.toList_eq, ByteArray.toList_eq]; decide
    simp [stopAt, badAt, lSch, e2, hb]
theorem find_age : findS lSch bAge = 0 := by
  simp [findS, lSch, ByteArray.toList_eq, List.findIdx_cons]
theorem find_name : findS lSch bName = 1 := by
  simp [findS, lSch, ByteArray.toList_eq, List.findIdx_cons, bAge, bName]
theorem l_err1 : wrErr lSch lW1 = 0 := by
  have h : trMay lW1 = 0 := by simp [trMay, lW1, ok_name, valMay]; decide
  rw [wrErr, if_neg (by simp [h]), schOf, show lW1.pred = bName from rfl, find_name]
  simp [lSch, lW1]
theorem l_err2 : wrErr lSch lW2 = 0 := by
  have h : trMay lW2 = 0 := by simp [trMay, lW2, ok_age, valMay]; rfl
  rw [wrErr, if_neg (by simp [h]), schOf, show lW2.pred = bAge from rfl, find_age]
  simp [lSch, lW2]
theorem l_claims : claimsErr lSch [lW1, lW2] = 0 := by
  rw [claimsErr, l_wrong]
  simp [firstNZ, l_err1, l_err2]
theorem l_keys : (claimsKeys lSch [lW1, lW2]).length = 2 := by
  have h1 : (claimOf lSch lW1).size = 8 := by
    rw [claimOf, schOf, show lW1.pred = bName from rfl, find_name]
    have hn : nb 1 = 1 := by rw [nb]; simp; rw [nb]; simp
    have hk : (keyB bName).size = 6 := by decide
    simp [lSch, lW1, ByteArray.size_append, strOfNums_size, num, be_length, hn, hk]
  have h2 : (claimOf lSch lW2).size = 7 := by
    rw [claimOf, schOf, show lW2.pred = bAge from rfl, find_age]
    have hn : nb 1 = 1 := by rw [nb]; simp; rw [nb]; simp
    have hk : (keyB bAge).size = 5 := by decide
    simp [lSch, lW2, ByteArray.size_append, strOfNums_size, num, be_length, hn, hk]
  have hne : (claimOf lSch lW1).data.toList ≠ (claimOf lSch lW2).data.toList := fun e => by
    have h3 := congrArg List.length e
    have e1 : (claimOf lSch lW1).data.toList.length = (claimOf lSch lW1).size := rfl
    have e2 : (claimOf lSch lW2).data.toList.length = (claimOf lSch lW2).size := rfl
    omega
  rw [claimsKeys, if_pos l_claims]
  simp [normS, normL, once, hne]
theorem l_preds : predsOf [lW1, lW2] = [bAge, bName] := by
  have h : normL [bName, bAge] = [[97, 103, 101], [110, 97, 109, 101]] :=
    (normL_rises [bName, bAge]).unique ⟨by decide, fun x => by simp [bName, bAge]; constructor <;> (rintro (h | h) <;> simp [h])⟩
  show normS [bName, bAge] = _
  rw [normS, h]
  rfl
noncomputable def lT2 : Txn := { phase := 2, start := 3 }
noncomputable def lT3 : Txn := { phase := 2, start := 3, writes := [lW1, lW2], keys := claimsKeys lSch [lW1, lW2] }
noncomputable def lT4 (left : List Int) (ph cm : Int) : Txn := { phase := ph, start := 3, commit := cm, writes := [lW1, lW2], keys := claimsKeys lSch [lW1, lW2], needs := [⟨bAge, 2, 1⟩, ⟨bName, 1, 1⟩], groups := [1, 2], left := left }
noncomputable def lT9 : Txn := { phase := 6, start := 3, commit := 4, writes := [lW1, lW2], keys := claimsKeys lSch [lW1, lW2] }
theorem l_started (tb : Tb) : sStarted { phase := 1 } ⟨0, 3, 0, tb⟩ = (lT2, 0) := rfl
theorem l_write : sWrite lT2 lSch [lW1, lW2] = (lT3, 0) := by
  rw [sWrite, if_neg (by simp [lT2]), if_neg (by simp [lT2]), if_neg (by simp [l_claims]), if_neg (by simp [lT2, l_claims])]
  rfl
theorem l_commit : sCommit lT3 lTbs = (lT4 [1, 2] 3 0, 0) := by
  have h1 : tabErr lTbs bAge = 0 := by decide
  have h2 : tabErr lTbs bName = 0 := by decide
  have h3 : tabRt lTbs bAge = ⟨bAge, 2, 1⟩ := by rfl
  have h4 : tabRt lTbs bName = ⟨bName, 1, 1⟩ := by rfl
  rw [sCommit, if_neg (by simp [lT3]), if_neg (by simp [lT3]), show predsOf lT3.writes = [bAge, bName] from l_preds, if_neg (by simp [h1, h2, firstNZ])]
  simp only [List.map_cons, List.map_nil, h3, h4]
  rfl
theorem l_staged1 : sStaged (lT4 [1, 2] 3 0) 1 0 = (lT4 [2] 3 0, 0) := rfl
theorem l_staged2 : sStaged (lT4 [2] 3 0) 2 0 = (lT4 [] 4 0, 0) := rfl
theorem l_decided (tb : Tb) : sDecided (lT4 [] 4 0) ⟨0, 0, 4, tb⟩ = (lT4 [1, 2] 5 4, 0) := rfl
theorem l_finaled1 : sFinaled (lT4 [1, 2] 5 4) 2 0 = (lT4 [1] 5 4, 0) := rfl
theorem l_finaled2 : sFinaled (lT4 [1] 5 4) 1 7 = (lT4 [1] 5 4, 0) := rfl
theorem l_finaled3 : sFinaled (lT4 [1] 5 4) 1 0 = (lT9, 0) := rfl
theorem l_inv2 : Inv lT2 := by have := inv_started (t := { phase := 1 }) (a := ⟨0, 3, 0, ⟨bAge, 0, 0, 0, 0⟩⟩) (by decide) (by rw [l_started]); rw [l_started] at this; exact this
theorem l_inv3 : Inv lT3 := by
  have := inv_write (l := lSch) (ws := [lW1, lW2]) l_inv2 (fun x hx => by
    simp at hx
    rcases hx with rfl | rfl
    · exact ⟨by decide, by unfold Val.ok; decide⟩
    · exact ⟨by decide, by unfold Val.ok; decide⟩) (by rw [l_write])
  rw [l_write] at this; exact this
theorem l_inv4 : Inv (lT4 [1, 2] 3 0) := by have := inv_commit (tbs := lTbs) l_inv3 (by decide) (by rw [l_commit]); rw [l_commit] at this; exact this
theorem l_inv5 : Inv (lT4 [2] 3 0) := by have := inv_staged (g := 1) (code := 0) l_inv4 (by rw [l_staged1]); rw [l_staged1] at this; exact this
theorem l_inv6 : Inv (lT4 [] 4 0) := by have := inv_staged (g := 2) (code := 0) l_inv5 (by rw [l_staged2]); rw [l_staged2] at this; exact this
theorem l_inv7 : Inv (lT4 [1, 2] 5 4) := by have := inv_decided (a := ⟨0, 0, 4, ⟨bAge, 0, 0, 0, 0⟩⟩) l_inv6 (by decide) (by rw [l_decided]); rw [l_decided] at this; exact this
theorem l_inv8 : Inv (lT4 [1] 5 4) := by have := inv_finaled (g := 2) (code := 0) l_inv7 (by rw [l_finaled1]); rw [l_finaled1] at this; exact this
end Go.Proofs.YthidminepegnoaaGreatDoor
