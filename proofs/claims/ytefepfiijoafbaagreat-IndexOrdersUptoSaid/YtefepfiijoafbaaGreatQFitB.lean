/- index.Fits, plainly; what is refused. index.Fits at kinds 2, 11. (Printed by mkfits.py.) index.Fits at kinds 4, 5. (Printed by mkfits.py.) -/
import Derived.Deep.RegionLaw
import Derived.Test.YtefepfiijoafbaaGreatQIMay2
import Derived.Test.YtefepfiijoafbaaGreatQBS
import Derived.Test.YtefepfiijoafbaaGreatQValR
namespace Go.Proofs.YtefepfiijoafbaaGreat
open Go.RowKit Go.Shelf Go.Maps Go.Sort
attribute [local go_sem] Oper.semAt_some
attribute [local irreducible] wpQuiet
set_option linter.unusedVariables false
set_option linter.unusedSimpArgs false

/-- Whether a function's kind is one that a list has places for. -/
def fitOk (s : Sch) (f : Fn) : Bool :=
  if f.kind = 3 then s.ty == ((f.vals[0]?.map (·.k)).getD 0)
  else if f.kind = 4 ∨ f.kind = 5 then s.ty == 3
  else if f.kind = 6 ∨ f.kind = 7 ∨ f.kind = 8 ∨ f.kind = 9 ∨ f.kind = 10 then s.ty == 2
  else true
def fitIx (s : Sch) (f : Fn) : Bool :=
  if f.kind = 3 then s.exact_
  else if f.kind = 4 ∨ f.kind = 5 then s.term
  else if f.kind = 6 ∨ f.kind = 7 ∨ f.kind = 8 ∨ f.kind = 9 ∨ f.kind = 10 then s.order
  else if f.kind = 11 then s.count
  else true
def fitR (ok ix back n4 rev : Bool) : Int := if !ok then 42 else if !ix || (back && (n4 || !rev)) then 191 else 0
noncomputable def fnFits (s : Sch) (f : Fn) : Int :=
  if fnMay f ≠ 0 then fnMay f else if schMay s ≠ 0 then schMay s else if s.pred ≠ f.pred then 2
  else fitR (fitOk s f) (fitIx s f) f.back (s.ty != 4) s.rev
/-- What Fits asks ahead. -/
structure FitPre (w : World) (s : Sch) (f : Fn) (vv uv sv : Value) : Prop where
  may : ∀ w', Fr N0 w w' → Calls Tryz.prog 38 #[.agg (f.enc vv uv sv)] w' fun e w2 => e = .returned (.int .i64 (fnMay f)) ∧ Fr N0 w' w2
  sch : ∀ w', Fr N0 w w' → Calls Tryz.prog 91 #[.agg s.enc.toArray] w' fun e w2 => e = .returned (.int .i64 (schMay s)) ∧ Fr N0 w' w2
theorem fit_pre {w : World} {s : Sch} {f : Fn} {vv uv sv : Value} {b : Nat} (h : FnAt w b f vv uv sv) : FitPre w s f vv uv sv :=
  ⟨fun w' hf => imay_any w' b f vv uv sv (h.fr hf), fun w' hf => tSchema_any s w'⟩
theorem two_boxes {w w1 : World} {cs ds : Array Value} {t t' : TypeId} (hf : Fr N0 ((w.alloc (.cells cs t)).alloc (.cells ds t')) w1) : w1.heap[w.heap.size]? = some (.cells cs t (0, 0)) ∧ w1.heap[w.heap.size + 1]? = some (.cells ds t' (0, 0)) := by
  have h1 := World.alloc_heap_new w (.cells cs t)
  have h2 := World.alloc_heap_new (w.alloc (.cells cs t)) (.cells ds t')
  rw [World.size_alloc] at h2
  have h3 := (Below.heap_alloc (w.alloc (.cells cs t)) (.cells ds t') _ (lt_of_block h1)).trans h1
  exact ⟨(hf.at id (lt_of_block h3)).trans h3, (hf.at id (lt_of_block h2)).trans h2⟩
set_option maxRecDepth 100000 in
set_option maxHeartbeats 4000000 in
theorem ifits_no (w : World) (s : Sch) (f : Fn) (vv uv sv : Value) (h : FitPre w s f vv uv sv) (hno : fnMay f ≠ 0 ∨ schMay s ≠ 0 ∨ s.pred ≠ f.pred) :
    Calls Tryz.prog 39 #[.agg s.enc.toArray, .agg (f.enc vv uv sv)] w fun e w' => e = .returned (.int .i64 (fnFits s f)) ∧ Fr N0 w w' := by
  unfold fnFits
  obtain ⟨m1, m2⟩ := h
  obtain ⟨M, hM⟩ : ∃ M, fnMay f = M := ⟨_, rfl⟩
  obtain ⟨S, hS⟩ : ∃ S, schMay s = S := ⟨_, rfl⟩
  simp only [hM, hS] at m1 m2 hno ⊢
  clear hM hS
  have HM := Lib.hid m1; have HS := Lib.hid m2
  clear m1 m2
  by_cases c1 : M = 0
  · subst c1
    by_cases c2 : S = 0
    · subst c2
      have c3 : s.pred ≠ f.pred := by simpa using hno
      rw [if_neg (by simp), if_neg (by simp), if_pos c3]
      obtain ⟨sp, st, sl, se, sm, so, sr, sc⟩ := s
      obtain ⟨kd, pred, back, vals, nu, ns⟩ := f
      simp only [Fn.enc, Sch.enc] at *
      have hb : (sp.toList != pred.toList) = true := by
        rw [bne_iff_ne]; intro e; exact c3 (by rw [ByteArray.toList_eq, ByteArray.toList_eq] at e; exact ByteArray.ext (Array.toList_inj.1 e))
      have hb2 : (sp.toList == pred.toList) = false := by simpa using hb
      have hb3 : ¬ sp.toList = pred.toList := by simpa using hb
      clear c3 hno
      go_enter Tryz.func39, Tryz.ntmps39
      go_wp2_with (first
        | (go_at_call 38; refine (HM.out _ (((Fr.refl _ _).alloc _).alloc _)).mono ?_; rintro e w1 ⟨rfl, hf1⟩; obtain ⟨b1, b2⟩ := two_boxes hf1; obtain ⟨m1, n1, l1⟩ := box_cells b1; obtain ⟨m2, n2, l2⟩ := box_cells b2; have hg1 := (((Fr.refl N0 w).alloc _).alloc _).then0 hf1)
        | (go_at_call 91; refine (HS.out _ hg1).mono ?_; rintro e w2 ⟨rfl, hf2⟩; obtain ⟨b3, b4⟩ := two_boxes (hf1.then0 hf2); obtain ⟨m3, n3, l3⟩ := box_cells b3; obtain ⟨m4, n4, l4⟩ := box_cells b4))
      go_ret
      exact ⟨rfl, hg1.then0 hf2⟩
    · have hS1 : (S != 0) = true := by simpa using c2
      rw [if_neg (by simp), if_pos c2]
      obtain ⟨sp, st, sl, se, sm, so, sr, sc⟩ := s
      obtain ⟨kd, pred, back, vals, nu, ns⟩ := f
      simp only [Fn.enc, Sch.enc] at *
      clear c2 hno
      go_enter Tryz.func39, Tryz.ntmps39
      go_wp2_with (first
        | (go_at_call 38; refine (HM.out _ (((Fr.refl _ _).alloc _).alloc _)).mono ?_; rintro e w1 ⟨rfl, hf1⟩; obtain ⟨b1, b2⟩ := two_boxes hf1; obtain ⟨m1, n1, l1⟩ := box_cells b1; obtain ⟨m2, n2, l2⟩ := box_cells b2; have hg1 := (((Fr.refl N0 w).alloc _).alloc _).then0 hf1)
        | (go_at_call 91; refine (HS.out _ hg1).mono ?_; rintro e w2 ⟨rfl, hf2⟩; obtain ⟨b3, b4⟩ := two_boxes (hf1.then0 hf2); obtain ⟨m3, n3, l3⟩ := box_cells b3; obtain ⟨m4, n4, l4⟩ := box_cells b4))
      go_ret
      exact ⟨rfl, hg1.then0 hf2⟩
  · have hM1 : (M != 0) = true := by simpa using c1
    rw [if_pos c1]
    obtain ⟨sp, st, sl, se, sm, so, sr, sc⟩ := s
    obtain ⟨kd, pred, back, vals, nu, ns⟩ := f
    simp only [Fn.enc, Sch.enc] at *
    clear c1 hno
    go_enter Tryz.func39, Tryz.ntmps39
    go_wp2_with (go_at_call 38; refine (HM.out _ (((Fr.refl _ _).alloc _).alloc _)).mono ?_; rintro e w1 ⟨rfl, hf1⟩; obtain ⟨b1, b2⟩ := two_boxes hf1; obtain ⟨m1, n1, l1⟩ := box_cells b1; obtain ⟨m2, n2, l2⟩ := box_cells b2; have hg1 := (((Fr.refl N0 w).alloc _).alloc _).then0 hf1)
    go_ret
    exact ⟨rfl, hg1⟩
end Go.Proofs.YtefepfiijoafbaaGreat
namespace Go.Proofs.YtefepfiijoafbaaGreat
open Go.RowKit Go.Shelf Go.Maps Go.Sort
attribute [local go_sem] Oper.semAt_some
attribute [local irreducible] wpQuiet
set_option linter.unusedVariables false
set_option linter.unusedSimpArgs false

set_option maxRecDepth 100000 in
set_option maxHeartbeats 4000000 in
theorem ifits_2 (w : World) (s : Sch) (back : Bool) (uv sv : Value) (vv : Value)
    (HM : Hid (∀ w', Fr N0 w w' → Calls Tryz.prog 38 #[.agg #[.int .u8 2, .string s.pred, .bool back, vv, uv, sv]] w' fun e w2 => e = .returned (.int .i64 0) ∧ Fr N0 w' w2))
    (HS : Hid (∀ w', Fr N0 w w' → Calls Tryz.prog 91 #[.agg s.enc.toArray] w' fun e w2 => e = .returned (.int .i64 0) ∧ Fr N0 w' w2)) :
    Calls Tryz.prog 39 #[.agg s.enc.toArray, .agg #[.int .u8 2, .string s.pred, .bool back, vv, uv, sv]] w fun e w' => e = .returned (.int .i64 (fitR true true back (s.ty != 4) s.rev)) ∧ Fr N0 w w' := by
  obtain ⟨sp, st, sl, se, sm, so, sr, sc⟩ := s
  simp only [Sch.enc] at *
  obtain ⟨n4, hn4⟩ : ∃ x, (st != 4) = x := ⟨_, rfl⟩
  rw [hn4]
  cases back
  · clear hn4
    go_enter Tryz.func39, Tryz.ntmps39
    go_wp2_with (first
        | (go_at_call 38; refine (HM.out _ (((Fr.refl _ _).alloc _).alloc _)).mono ?_; rintro e w1 ⟨rfl, hf1⟩; obtain ⟨b1, b2⟩ := two_boxes hf1; obtain ⟨m1, n1, l1⟩ := box_cells b1; obtain ⟨m2, n2, l2⟩ := box_cells b2; have hg1 := (((Fr.refl N0 w).alloc _).alloc _).then0 hf1)
        | (go_at_call 91; refine (HS.out _ hg1).mono ?_; rintro e w2 ⟨rfl, hf2⟩; obtain ⟨b3, b4⟩ := two_boxes (hf1.then0 hf2); obtain ⟨m3, n3, l3⟩ := box_cells b3; obtain ⟨m4, n4, l4⟩ := box_cells b4))
    go_ret
    exact ⟨by simp [fitR], by first | exact hg1.then0 hf2 | exact (hg1.then0 hf2).drewN _⟩
  cases n4
  · cases sr
    all_goals
      go_enter Tryz.func39, Tryz.ntmps39
      go_wp2_with (first
          | (go_at_call 38; refine (HM.out _ (((Fr.refl _ _).alloc _).alloc _)).mono ?_; rintro e w1 ⟨rfl, hf1⟩; obtain ⟨b1, b2⟩ := two_boxes hf1; obtain ⟨m1, n1, l1⟩ := box_cells b1; obtain ⟨m2, n2, l2⟩ := box_cells b2; have hg1 := (((Fr.refl N0 w).alloc _).alloc _).then0 hf1)
          | (go_at_call 91; refine (HS.out _ hg1).mono ?_; rintro e w2 ⟨rfl, hf2⟩; obtain ⟨b3, b4⟩ := two_boxes (hf1.then0 hf2); obtain ⟨m3, n3, l3⟩ := box_cells b3; obtain ⟨m4, n4, l4⟩ := box_cells b4))
      go_ret
      exact ⟨by simp [fitR], by first | exact hg1.then0 hf2 | exact (hg1.then0 hf2).drewN _⟩
  · skip
    go_enter Tryz.func39, Tryz.ntmps39
    go_wp2_with (first
        | (go_at_call 38; refine (HM.out _ (((Fr.refl _ _).alloc _).alloc _)).mono ?_; rintro e w1 ⟨rfl, hf1⟩; obtain ⟨b1, b2⟩ := two_boxes hf1; obtain ⟨m1, n1, l1⟩ := box_cells b1; obtain ⟨m2, n2, l2⟩ := box_cells b2; have hg1 := (((Fr.refl N0 w).alloc _).alloc _).then0 hf1)
        | (go_at_call 91; refine (HS.out _ hg1).mono ?_; rintro e w2 ⟨rfl, hf2⟩; obtain ⟨b3, b4⟩ := two_boxes (hf1.then0 hf2); obtain ⟨m3, n3, l3⟩ := box_cells b3; obtain ⟨m4, n4, l4⟩ := box_cells b4))
    go_ret
    exact ⟨by simp [fitR], by first | exact hg1.then0 hf2 | exact (hg1.then0 hf2).drewN _⟩
set_option maxRecDepth 100000 in
set_option maxHeartbeats 4000000 in
theorem ifits_11 (w : World) (s : Sch) (back : Bool) (uv sv : Value) (vv : Value)
    (HM : Hid (∀ w', Fr N0 w w' → Calls Tryz.prog 38 #[.agg #[.int .u8 11, .string s.pred, .bool back, vv, uv, sv]] w' fun e w2 => e = .returned (.int .i64 0) ∧ Fr N0 w' w2))
    (HS : Hid (∀ w', Fr N0 w w' → Calls Tryz.prog 91 #[.agg s.enc.toArray] w' fun e w2 => e = .returned (.int .i64 0) ∧ Fr N0 w' w2)) :
    Calls Tryz.prog 39 #[.agg s.enc.toArray, .agg #[.int .u8 11, .string s.pred, .bool back, vv, uv, sv]] w fun e w' => e = .returned (.int .i64 (fitR true s.count back (s.ty != 4) s.rev)) ∧ Fr N0 w w' := by
  obtain ⟨sp, st, sl, se, sm, so, sr, sc⟩ := s
  simp only [Sch.enc] at *
  obtain ⟨n4, hn4⟩ : ∃ x, (st != 4) = x := ⟨_, rfl⟩
  rw [hn4]
  cases sc
  · clear hn4
    go_enter Tryz.func39, Tryz.ntmps39
    go_wp2_with (first
        | (go_at_call 38; refine (HM.out _ (((Fr.refl _ _).alloc _).alloc _)).mono ?_; rintro e w1 ⟨rfl, hf1⟩; obtain ⟨b1, b2⟩ := two_boxes hf1; obtain ⟨m1, n1, l1⟩ := box_cells b1; obtain ⟨m2, n2, l2⟩ := box_cells b2; have hg1 := (((Fr.refl N0 w).alloc _).alloc _).then0 hf1)
        | (go_at_call 91; refine (HS.out _ hg1).mono ?_; rintro e w2 ⟨rfl, hf2⟩; obtain ⟨b3, b4⟩ := two_boxes (hf1.then0 hf2); obtain ⟨m3, n3, l3⟩ := box_cells b3; obtain ⟨m4, n4, l4⟩ := box_cells b4))
    go_ret
    exact ⟨by simp [fitR], by first | exact hg1.then0 hf2 | exact (hg1.then0 hf2).drewN _⟩
  cases back
  · clear hn4
    go_enter Tryz.func39, Tryz.ntmps39
    go_wp2_with (first
        | (go_at_call 38; refine (HM.out _ (((Fr.refl _ _).alloc _).alloc _)).mono ?_; rintro e w1 ⟨rfl, hf1⟩; obtain ⟨b1, b2⟩ := two_boxes hf1; obtain ⟨m1, n1, l1⟩ := box_cells b1; obtain ⟨m2, n2, l2⟩ := box_cells b2; have hg1 := (((Fr.refl N0 w).alloc _).alloc _).then0 hf1)
        | (go_at_call 91; refine (HS.out _ hg1).mono ?_; rintro e w2 ⟨rfl, hf2⟩; obtain ⟨b3, b4⟩ := two_boxes (hf1.then0 hf2); obtain ⟨m3, n3, l3⟩ := box_cells b3; obtain ⟨m4, n4, l4⟩ := box_cells b4))
    go_ret
    exact ⟨by simp [fitR], by first | exact hg1.then0 hf2 | exact (hg1.then0 hf2).drewN _⟩
  cases n4
  · cases sr
    all_goals
      go_enter Tryz.func39, Tryz.ntmps39
      go_wp2_with (first
          | (go_at_call 38; refine (HM.out _ (((Fr.refl _ _).alloc _).alloc _)).mono ?_; rintro e w1 ⟨rfl, hf1⟩; obtain ⟨b1, b2⟩ := two_boxes hf1; obtain ⟨m1, n1, l1⟩ := box_cells b1; obtain ⟨m2, n2, l2⟩ := box_cells b2; have hg1 := (((Fr.refl N0 w).alloc _).alloc _).then0 hf1)
          | (go_at_call 91; refine (HS.out _ hg1).mono ?_; rintro e w2 ⟨rfl, hf2⟩; obtain ⟨b3, b4⟩ := two_boxes (hf1.then0 hf2); obtain ⟨m3, n3, l3⟩ := box_cells b3; obtain ⟨m4, n4, l4⟩ := box_cells b4))
      go_ret
      exact ⟨by simp [fitR], by first | exact hg1.then0 hf2 | exact (hg1.then0 hf2).drewN _⟩
  · skip
    go_enter Tryz.func39, Tryz.ntmps39
    go_wp2_with (first
        | (go_at_call 38; refine (HM.out _ (((Fr.refl _ _).alloc _).alloc _)).mono ?_; rintro e w1 ⟨rfl, hf1⟩; obtain ⟨b1, b2⟩ := two_boxes hf1; obtain ⟨m1, n1, l1⟩ := box_cells b1; obtain ⟨m2, n2, l2⟩ := box_cells b2; have hg1 := (((Fr.refl N0 w).alloc _).alloc _).then0 hf1)
        | (go_at_call 91; refine (HS.out _ hg1).mono ?_; rintro e w2 ⟨rfl, hf2⟩; obtain ⟨b3, b4⟩ := two_boxes (hf1.then0 hf2); obtain ⟨m3, n3, l3⟩ := box_cells b3; obtain ⟨m4, n4, l4⟩ := box_cells b4))
    go_ret
    exact ⟨by simp [fitR], by first | exact hg1.then0 hf2 | exact (hg1.then0 hf2).drewN _⟩
end Go.Proofs.YtefepfiijoafbaaGreat
namespace Go.Proofs.YtefepfiijoafbaaGreat
open Go.RowKit Go.Shelf Go.Maps Go.Sort
attribute [local go_sem] Oper.semAt_some
attribute [local irreducible] wpQuiet
set_option linter.unusedVariables false
set_option linter.unusedSimpArgs false

set_option maxRecDepth 100000 in
set_option maxHeartbeats 4000000 in
theorem ifits_4 (w : World) (s : Sch) (back : Bool) (uv sv : Value) (vv : Value)
    (HM : Hid (∀ w', Fr N0 w w' → Calls Tryz.prog 38 #[.agg #[.int .u8 4, .string s.pred, .bool back, vv, uv, sv]] w' fun e w2 => e = .returned (.int .i64 0) ∧ Fr N0 w' w2))
    (HS : Hid (∀ w', Fr N0 w w' → Calls Tryz.prog 91 #[.agg s.enc.toArray] w' fun e w2 => e = .returned (.int .i64 0) ∧ Fr N0 w' w2)) :
    Calls Tryz.prog 39 #[.agg s.enc.toArray, .agg #[.int .u8 4, .string s.pred, .bool back, vv, uv, sv]] w fun e w' => e = .returned (.int .i64 (fitR (s.ty == 3) s.term back (s.ty != 4) s.rev)) ∧ Fr N0 w w' := by
  obtain ⟨sp, st, sl, se, sm, so, sr, sc⟩ := s
  simp only [Sch.enc] at *
  obtain ⟨n4, hn4⟩ : ∃ x, (st != 4) = x := ⟨_, rfl⟩
  rw [hn4]
  obtain ⟨q, hq⟩ : ∃ x, (st == 3) = x := ⟨_, rfl⟩
  rw [hq]
  cases q
  · clear hn4
    go_enter Tryz.func39, Tryz.ntmps39
    go_wp2_with (first
        | (go_at_call 38; refine (HM.out _ (((Fr.refl _ _).alloc _).alloc _)).mono ?_; rintro e w1 ⟨rfl, hf1⟩; obtain ⟨b1, b2⟩ := two_boxes hf1; obtain ⟨m1, n1, l1⟩ := box_cells b1; obtain ⟨m2, n2, l2⟩ := box_cells b2; have hg1 := (((Fr.refl N0 w).alloc _).alloc _).then0 hf1)
        | (go_at_call 91; refine (HS.out _ hg1).mono ?_; rintro e w2 ⟨rfl, hf2⟩; obtain ⟨b3, b4⟩ := two_boxes (hf1.then0 hf2); obtain ⟨m3, n3, l3⟩ := box_cells b3; obtain ⟨m4, n4, l4⟩ := box_cells b4))
    go_quiet (fail)
    go_wp2
    go_ret
    exact ⟨by simp [fitR], by first | exact hg1.then0 hf2 | exact (hg1.then0 hf2).drewN _⟩
  cases sm
  · clear hn4
    go_enter Tryz.func39, Tryz.ntmps39
    go_wp2_with (first
        | (go_at_call 38; refine (HM.out _ (((Fr.refl _ _).alloc _).alloc _)).mono ?_; rintro e w1 ⟨rfl, hf1⟩; obtain ⟨b1, b2⟩ := two_boxes hf1; obtain ⟨m1, n1, l1⟩ := box_cells b1; obtain ⟨m2, n2, l2⟩ := box_cells b2; have hg1 := (((Fr.refl N0 w).alloc _).alloc _).then0 hf1)
        | (go_at_call 91; refine (HS.out _ hg1).mono ?_; rintro e w2 ⟨rfl, hf2⟩; obtain ⟨b3, b4⟩ := two_boxes (hf1.then0 hf2); obtain ⟨m3, n3, l3⟩ := box_cells b3; obtain ⟨m4, n4, l4⟩ := box_cells b4))
    go_quiet (fail)
    go_wp2
    go_ret
    exact ⟨by simp [fitR], by first | exact hg1.then0 hf2 | exact (hg1.then0 hf2).drewN _⟩
  cases back
  · clear hn4
    go_enter Tryz.func39, Tryz.ntmps39
    go_wp2_with (first
        | (go_at_call 38; refine (HM.out _ (((Fr.refl _ _).alloc _).alloc _)).mono ?_; rintro e w1 ⟨rfl, hf1⟩; obtain ⟨b1, b2⟩ := two_boxes hf1; obtain ⟨m1, n1, l1⟩ := box_cells b1; obtain ⟨m2, n2, l2⟩ := box_cells b2; have hg1 := (((Fr.refl N0 w).alloc _).alloc _).then0 hf1)
        | (go_at_call 91; refine (HS.out _ hg1).mono ?_; rintro e w2 ⟨rfl, hf2⟩; obtain ⟨b3, b4⟩ := two_boxes (hf1.then0 hf2); obtain ⟨m3, n3, l3⟩ := box_cells b3; obtain ⟨m4, n4, l4⟩ := box_cells b4))
    go_quiet (fail)
    go_wp2
    go_ret
    exact ⟨by simp [fitR], by first | exact hg1.then0 hf2 | exact (hg1.then0 hf2).drewN _⟩
  cases n4
  · cases sr
    all_goals
      go_enter Tryz.func39, Tryz.ntmps39
      go_wp2_with (first
          | (go_at_call 38; refine (HM.out _ (((Fr.refl _ _).alloc _).alloc _)).mono ?_; rintro e w1 ⟨rfl, hf1⟩; obtain ⟨b1, b2⟩ := two_boxes hf1; obtain ⟨m1, n1, l1⟩ := box_cells b1; obtain ⟨m2, n2, l2⟩ := box_cells b2; have hg1 := (((Fr.refl N0 w).alloc _).alloc _).then0 hf1)
          | (go_at_call 91; refine (HS.out _ hg1).mono ?_; rintro e w2 ⟨rfl, hf2⟩; obtain ⟨b3, b4⟩ := two_boxes (hf1.then0 hf2); obtain ⟨m3, n3, l3⟩ := box_cells b3; obtain ⟨m4, n4, l4⟩ := box_cells b4))
      go_quiet (fail)
      go_wp2
      go_ret
      exact ⟨by simp [fitR], by first | exact hg1.then0 hf2 | exact (hg1.then0 hf2).drewN _⟩
  · skip
    go_enter Tryz.func39, Tryz.ntmps39
    go_wp2_with (first
        | (go_at_call 38; refine (HM.out _ (((Fr.refl _ _).alloc _).alloc _)).mono ?_; rintro e w1 ⟨rfl, hf1⟩; obtain ⟨b1, b2⟩ := two_boxes hf1; obtain ⟨m1, n1, l1⟩ := box_cells b1; obtain ⟨m2, n2, l2⟩ := box_cells b2; have hg1 := (((Fr.refl N0 w).alloc _).alloc _).then0 hf1)
        | (go_at_call 91; refine (HS.out _ hg1).mono ?_; rintro e w2 ⟨rfl, hf2⟩; obtain ⟨b3, b4⟩ := two_boxes (hf1.then0 hf2); obtain ⟨m3, n3, l3⟩ := box_cells b3; obtain ⟨m4, n4, l4⟩ := box_cells b4))
    go_quiet (fail)
    go_wp2
    go_ret
    exact ⟨by simp [fitR], by first | exact hg1.then0 hf2 | exact (hg1.then0 hf2).drewN _⟩
set_option maxRecDepth 100000 in
set_option maxHeartbeats 4000000 in
theorem ifits_5 (w : World) (s : Sch) (back : Bool) (uv sv : Value) (vv : Value)
    (HM : Hid (∀ w', Fr N0 w w' → Calls Tryz.prog 38 #[.agg #[.int .u8 5, .string s.pred, .bool back, vv, uv, sv]] w' fun e w2 => e = .returned (.int .i64 0) ∧ Fr N0 w' w2))
    (HS : Hid (∀ w', Fr N0 w w' → Calls Tryz.prog 91 #[.agg s.enc.toArray] w' fun e w2 => e = .returned (.int .i64 0) ∧ Fr N0 w' w2)) :
    Calls Tryz.prog 39 #[.agg s.enc.toArray, .agg #[.int .u8 5, .string s.pred, .bool back, vv, uv, sv]] w fun e w' => e = .returned (.int .i64 (fitR (s.ty == 3) s.term back (s.ty != 4) s.rev)) ∧ Fr N0 w w' := by
  obtain ⟨sp, st, sl, se, sm, so, sr, sc⟩ := s
  simp only [Sch.enc] at *
  obtain ⟨n4, hn4⟩ : ∃ x, (st != 4) = x := ⟨_, rfl⟩
  rw [hn4]
  obtain ⟨q, hq⟩ : ∃ x, (st == 3) = x := ⟨_, rfl⟩
  rw [hq]
  cases q
  · clear hn4
    go_enter Tryz.func39, Tryz.ntmps39
    go_wp2_with (first
        | (go_at_call 38; refine (HM.out _ (((Fr.refl _ _).alloc _).alloc _)).mono ?_; rintro e w1 ⟨rfl, hf1⟩; obtain ⟨b1, b2⟩ := two_boxes hf1; obtain ⟨m1, n1, l1⟩ := box_cells b1; obtain ⟨m2, n2, l2⟩ := box_cells b2; have hg1 := (((Fr.refl N0 w).alloc _).alloc _).then0 hf1)
        | (go_at_call 91; refine (HS.out _ hg1).mono ?_; rintro e w2 ⟨rfl, hf2⟩; obtain ⟨b3, b4⟩ := two_boxes (hf1.then0 hf2); obtain ⟨m3, n3, l3⟩ := box_cells b3; obtain ⟨m4, n4, l4⟩ := box_cells b4))
    go_quiet (fail)
    go_wp2
    go_ret
    exact ⟨by simp [fitR], by first | exact hg1.then0 hf2 | exact (hg1.then0 hf2).drewN _⟩
  cases sm
  · clear hn4
    go_enter Tryz.func39, Tryz.ntmps39
    go_wp2_with (first
        | (go_at_call 38; refine (HM.out _ (((Fr.refl _ _).alloc _).alloc _)).mono ?_; rintro e w1 ⟨rfl, hf1⟩; obtain ⟨b1, b2⟩ := two_boxes hf1; obtain ⟨m1, n1, l1⟩ := box_cells b1; obtain ⟨m2, n2, l2⟩ := box_cells b2; have hg1 := (((Fr.refl N0 w).alloc _).alloc _).then0 hf1)
        | (go_at_call 91; refine (HS.out _ hg1).mono ?_; rintro e w2 ⟨rfl, hf2⟩; obtain ⟨b3, b4⟩ := two_boxes (hf1.then0 hf2); obtain ⟨m3, n3, l3⟩ := box_cells b3; obtain ⟨m4, n4, l4⟩ := box_cells b4))
    go_quiet (fail)
    go_wp2
    go_ret
    exact ⟨by simp [fitR], by first | exact hg1.then0 hf2 | exact (hg1.then0 hf2).drewN _⟩
  cases back
  · clear hn4
    go_enter Tryz.func39, Tryz.ntmps39
    go_wp2_with (first
        | (go_at_call 38; refine (HM.out _ (((Fr.refl _ _).alloc _).alloc _)).mono ?_; rintro e w1 ⟨rfl, hf1⟩; obtain ⟨b1, b2⟩ := two_boxes hf1; obtain ⟨m1, n1, l1⟩ := box_cells b1; obtain ⟨m2, n2, l2⟩ := box_cells b2; have hg1 := (((Fr.refl N0 w).alloc _).alloc _).then0 hf1)
        | (go_at_call 91; refine (HS.out _ hg1).mono ?_; rintro e w2 ⟨rfl, hf2⟩; obtain ⟨b3, b4⟩ := two_boxes (hf1.then0 hf2); obtain ⟨m3, n3, l3⟩ := box_cells b3; obtain ⟨m4, n4, l4⟩ := box_cells b4))
    go_quiet (fail)
    go_wp2
    go_ret
    exact ⟨by simp [fitR], by first | exact hg1.then0 hf2 | exact (hg1.then0 hf2).drewN _⟩
  cases n4
  · cases sr
    all_goals
      go_enter Tryz.func39, Tryz.ntmps39
      go_wp2_with (first
          | (go_at_call 38; refine (HM.out _ (((Fr.refl _ _).alloc _).alloc _)).mono ?_; rintro e w1 ⟨rfl, hf1⟩; obtain ⟨b1, b2⟩ := two_boxes hf1; obtain ⟨m1, n1, l1⟩ := box_cells b1; obtain ⟨m2, n2, l2⟩ := box_cells b2; have hg1 := (((Fr.refl N0 w).alloc _).alloc _).then0 hf1)
          | (go_at_call 91; refine (HS.out _ hg1).mono ?_; rintro e w2 ⟨rfl, hf2⟩; obtain ⟨b3, b4⟩ := two_boxes (hf1.then0 hf2); obtain ⟨m3, n3, l3⟩ := box_cells b3; obtain ⟨m4, n4, l4⟩ := box_cells b4))
      go_quiet (fail)
      go_wp2
      go_ret
      exact ⟨by simp [fitR], by first | exact hg1.then0 hf2 | exact (hg1.then0 hf2).drewN _⟩
  · skip
    go_enter Tryz.func39, Tryz.ntmps39
    go_wp2_with (first
        | (go_at_call 38; refine (HM.out _ (((Fr.refl _ _).alloc _).alloc _)).mono ?_; rintro e w1 ⟨rfl, hf1⟩; obtain ⟨b1, b2⟩ := two_boxes hf1; obtain ⟨m1, n1, l1⟩ := box_cells b1; obtain ⟨m2, n2, l2⟩ := box_cells b2; have hg1 := (((Fr.refl N0 w).alloc _).alloc _).then0 hf1)
        | (go_at_call 91; refine (HS.out _ hg1).mono ?_; rintro e w2 ⟨rfl, hf2⟩; obtain ⟨b3, b4⟩ := two_boxes (hf1.then0 hf2); obtain ⟨m3, n3, l3⟩ := box_cells b3; obtain ⟨m4, n4, l4⟩ := box_cells b4))
    go_quiet (fail)
    go_wp2
    go_ret
    exact ⟨by simp [fitR], by first | exact hg1.then0 hf2 | exact (hg1.then0 hf2).drewN _⟩
end Go.Proofs.YtefepfiijoafbaaGreat
