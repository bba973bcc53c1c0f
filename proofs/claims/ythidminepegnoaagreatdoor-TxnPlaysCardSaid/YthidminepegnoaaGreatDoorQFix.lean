/- Triples: triple.May, Schema, Fits, and the document's. Numbers as bytes: code.Num. Condition: the number is one of 64 bits. The document's Fixed and Num; code.eight, Int and the document's Int. -/
import Derived.Deep.RegionHeld3
import Derived.Laws.BytesArg
import Derived.Deep.RegionWith
import Derived.Test.YthidminepegnoaaGreatDoorQPred
namespace Go.Proofs.YthidminepegnoaaGreatDoor
open Go.RowKit Go.Shelf
attribute [local go_sem] Oper.semAt_some
set_option linter.unusedVariables false
set_option linter.unusedSimpArgs false

structure Wr where
  del : Bool
  uid : Int
  pred : ByteArray
  val : Val
def Wr.tenc (x : Wr) : List Value := [.int .u64 x.uid, .string x.pred, .int .u8 x.val.k, .bool x.val.b, .int .i64 x.val.n, .string x.val.s, .int .u64 x.val.u]
def Wr.enc (x : Wr) : List Value := [.bool x.del, .int .u64 x.uid, .string x.pred, .int .u8 x.val.k, .bool x.val.b, .int .i64 x.val.n, .string x.val.s, .int .u64 x.val.u]
/-- What the kinds of a write's fields bear. -/
def Wr.wf (x : Wr) : Prop := 0 ≤ x.uid ∧ 0 ≤ x.val.u ∧ 0 ≤ x.val.k

noncomputable def trMay (x : Wr) : Int := if x.uid = 0 then 41 else if predOk x.pred = false then 40 else if valMay x.val = false then 30 else 0

/-- The first that is not 0. -/
def firstNZ : List Int → Int
  | [] => 0
  | x :: r => if x = 0 then firstNZ r else x

set_option maxRecDepth 100000 in
set_option maxHeartbeats 1000000 in
theorem cmpOr_any (w : World) (b : Nat) (v : Value) (xs : List Int) (h : Ints .i64 w b v xs) : Calls Tryz.prog 126 #[v] w fun e w' => e = .returned (.int .i64 (firstNZ xs)) ∧ w' = w := by
  obtain ⟨a, off, cap, rfl, h1, h2, h3, h4, h5, h6⟩ := h
  have HC := Lib.hid h5; clear h5 h6 h4
  go_enter Tryz.func126, Tryz.ntmps126
  go_wp2
  go_loop [8] (fun i => ∃ k : Nat, k ≤ xs.length ∧ i = .int .i64 k ∧ Hid (firstNZ xs = firstNZ (xs.drop k))) (fun i => xs.length - (intOf i).toNat)
  case atStart => exact ⟨0, Nat.zero_le _, rfl, rfl⟩
  case round =>
    obtain ⟨k, hk, rfl, hn⟩ := hrel
    by_cases hlt : k < xs.length
    · obtain rfl := h3 (by omega)
      have hck := HC.out k hlt
      have hd : firstNZ (xs.drop k) = if xs[k] = 0 then firstNZ (xs.drop (k + 1)) else xs[k] := by
        rw [List.drop_eq_getElem_cons hlt, firstNZ]
      obtain ⟨x, hx⟩ : ∃ x, xs[k] = x := ⟨_, rfl⟩
      rw [hx] at hck hd
      have hlt' : (k : Int) < (xs.length : Int) := by omega
      have hn' := hn.out.trans hd
      clear hn hd hx
      by_cases hx0 : x = 0
      · subst hx0
        rw [if_pos rfl] at hn'
        have HN := Lib.hid hn'
        clear hn'
        go_wp2
        go_round
        case rel => exact ⟨k + 1, by omega, by go_num, HN.out⟩
        case measure => simp [intOf]; omega
      · rw [if_neg hx0] at hn'
        have HN := Lib.hid hn'
        have hx1 : (x != 0) = true := by simpa using hx0
        clear hn'
        go_wp2
        go_ret
        exact ⟨ret_int HN.out.symm, rfl⟩
    · obtain rfl : k = xs.length := by omega
      have hn' := hn.out
      rw [List.drop_of_length_le (Nat.le_refl _)] at hn'
      have HN := Lib.hid hn'
      clear hn hn'
      go_wp2
      go_ret
      exact ⟨ret_int HN.out.symm, rfl⟩

set_option maxRecDepth 100000 in
set_option maxHeartbeats 1000000 in
theorem first_any (w : World) (b : Nat) (v : Value) (xs : List Int) (h : Ints .i64 w b v xs) : Calls Tryz.prog 109 #[v] w fun e w' => e = .returned (.int .i64 (firstNZ xs)) ∧ w' = w := by
  have hc := cmpOr_any w b v xs h
  obtain ⟨a, off, cap, rfl, _⟩ := h
  go_enter Tryz.func109, Tryz.ntmps109
  go_wp2_with (go_at_call 126; refine hc.mono ?_; rintro e w1 ⟨rfl, rfl⟩)
  go_ret
  exact ⟨rfl, rfl⟩

theorem ints_two (w : World) (x y : Int) (hx : (Lit.int .i64 x).wf = true) (hy : (Lit.int .i64 y).wf = true) : Ints .i64 (w.alloc (.cells #[.int .i64 x, .int .i64 y] 40)) w.heap.size (.slice (some ⟨w.heap.size, 0, none⟩) 2 2) [x, y] := by
  have hc := World.alloc_heap_new w (.cells #[.int .i64 x, .int .i64 y] 40)
  refine ⟨some ⟨w.heap.size, 0, none⟩, 0, 2, rfl, by simp, by omega, fun _ => rfl, by simp, fun i hi => ?_, by simp [hx, hy]⟩
  match i, hi with
  | 0, _ => simp only [World.cell?, Nat.zero_add, hc]; rfl
  | 1, _ => simp only [World.cell?, Nat.zero_add, hc]; rfl

set_option maxRecDepth 100000 in
set_option maxHeartbeats 2000000 in
theorem r4May_any (x : Wr) (w : World) : Calls Tryz.prog 48 #[.agg x.tenc.toArray] w fun e w' => e = .returned (.int .i64 (trMay x)) ∧ Fr N0 w w' := by
  have h1 := fun W => r4Pred_any x.pred W
  have h2 := fun W => r3May_any x.val W
  unfold Wr.tenc
  unfold Val.enc at h2
  unfold trMay
  by_cases h0 : x.uid = 0
  · simp only [h0, if_true]
    go_enter Tryz.func48, Tryz.ntmps48
    go_wp2
    go_ret
    exact ⟨rfl, (by repeat (first | exact Fr.refl _ _ | assumption | refine Fr.alloc ?_ _ | refine Fr.drew ?_ | refine Fr.drewN ?_ _ | refine Fr.setCell ?_ (.inr (by simp; try omega)) _))⟩
  simp only [h0, if_false]
  have h0' : (x.uid == 0) = false := by simpa using h0
  obtain ⟨pb, hpb⟩ : ∃ b, predOk x.pred = b := ⟨_, rfl⟩
  obtain ⟨vb, hvb⟩ : ∃ b, valMay x.val = b := ⟨_, rfl⟩
  simp only [hpb] at h1 ⊢
  simp only [hvb] at h2 ⊢
  have H1 := Lib.hid h1; have H2 := Lib.hid h2
  clear h1 h2 hpb hvb
  cases pb
  · go_enter Tryz.func48, Tryz.ntmps48
    go_wp2_with (go_at_call 87; refine (H1.out _).mono ?_; rintro e w1 ⟨rfl, rfl⟩)
    go_ret
    exact ⟨rfl, (by repeat (first | exact Fr.refl _ _ | assumption | refine Fr.alloc ?_ _ | refine Fr.drew ?_ | refine Fr.drewN ?_ _ | refine Fr.setCell ?_ (.inr (by simp; try omega)) _))⟩
  · cases vb
    all_goals
      go_enter Tryz.func48, Tryz.ntmps48
      go_wp2_with (first
        | (go_at_call 87; refine (H1.out _).mono ?_; rintro e w1 ⟨rfl, rfl⟩)
        | (go_at_call 88; refine (H2.out _).mono ?_; rintro e w2 ⟨rfl, hf2⟩))
      go_ret
      exact ⟨rfl, ((Fr.refl _ _).alloc _).then0 (by assumption)⟩

set_option maxRecDepth 100000 in
set_option maxHeartbeats 2000000 in
theorem tMay_any (x : Wr) (hx : x.wf) (w : World) : Calls Tryz.prog 85 #[.agg x.tenc.toArray] w fun e w' => e = .returned (.int .i64 (trMay x)) ∧ Fr N0 w w' := by
  have h1 := fun W => tPred_any x.pred W
  have h2 := fun W => vMay_any x.val hx.2.1 W
  unfold Wr.tenc
  unfold Val.enc at h2
  unfold trMay
  by_cases h0 : x.uid = 0
  · simp only [h0, if_true]
    go_enter Tryz.func85, Tryz.ntmps85
    go_wp2
    go_ret
    exact ⟨rfl, (by repeat (first | exact Fr.refl _ _ | assumption | refine Fr.alloc ?_ _ | refine Fr.drew ?_ | refine Fr.drewN ?_ _ | refine Fr.setCell ?_ (.inr (by simp; try omega)) _))⟩
  simp only [h0, if_false]
  have h0' : (x.uid == 0) = false := by simpa using h0
  obtain ⟨e1, he1⟩ : ∃ e : Int, (if predOk x.pred = true then 0 else 40) = e := ⟨_, rfl⟩
  obtain ⟨e2, he2⟩ : ∃ e : Int, (if valMay x.val = true then 0 else 30) = e := ⟨_, rfl⟩
  have hw1 : (Lit.int .i64 e1).wf = true := by rw [← he1]; split <;> decide
  have hw2 : (Lit.int .i64 e2).wf = true := by rw [← he2]; split <;> decide
  have hres : firstNZ [e1, e2] = if predOk x.pred = false then 40 else if valMay x.val = false then 30 else 0 := by
    rw [← he1, ← he2]
    cases predOk x.pred <;> cases valMay x.val <;> simp [firstNZ]
  rw [← hres]
  simp only [he1] at h1
  simp only [he2] at h2
  have H1 := Lib.hid h1; have H2 := Lib.hid h2
  clear h1 h2 he1 he2 hres
  go_enter Tryz.func85, Tryz.ntmps85
  go_wp2
  obtain ⟨cs, hcs⟩ : ∃ cs, cs = #[Value.int IntKind.u64 x.uid, Value.string x.pred, Value.int IntKind.u8 x.val.k, Value.bool x.val.b, Value.int IntKind.i64 x.val.n, Value.string x.val.s, Value.int IntKind.u64 x.val.u] := ⟨_, rfl⟩
  have hS := boxS_new w cs 63
  rw [← hcs]
  obtain ⟨W1, hW1⟩ : ∃ W, w.alloc (.cells cs 63) = W := ⟨_, rfl⟩
  rw [hW1] at hS ⊢
  rw [hcs] at hS
  clear hW1 hcs
  go_region_held3 (BoxS w w.heap.size #[Value.int IntKind.u64 x.uid, Value.string x.pred, Value.int IntKind.u8 x.val.k, Value.bool x.val.b, Value.int IntKind.i64 x.val.n, Value.string x.val.s, Value.int IntKind.u64 x.val.u])
    (first | exact hS | exact boxS_keep ((Fr.refl _ _).drew) hS | exact boxS_keep hf6 (by assumption) | exact boxS_keep ((Fr.refl _ _).alloc _) (by assumption) | assumption) (first
      | (go_at_call 110; go_loud (refine (H1.out _).mono ?_); rintro e w1 ⟨rfl, hf6⟩)
      | (go_at_call 111; go_loud (refine (H2.out _).mono ?_); rintro e w2 ⟨rfl, hf6⟩)
      | (go_at_call 109; go_loud (refine (first_any _ _ _ _ (ints_two _ _ _ hw1 hw2)).mono ?_); rintro e w3 ⟨rfl, rfl⟩))
  go_wp2
  go_ret
  exact ⟨rfl, by go_split_ands; assumption⟩

structure Sch where
  pred : ByteArray
  ty : Int
  list : Bool
  exact_ : Bool
  term : Bool
  order : Bool
  rev : Bool
  count : Bool
def Sch.enc (s : Sch) : List Value := [.string s.pred, .int .u8 s.ty, .bool s.list, .bool s.exact_, .bool s.term, .bool s.order, .bool s.rev, .bool s.count]
def schBad (s : Sch) : Bool := decide (s.ty < 1) || decide (4 < s.ty) || (s.term && s.ty != 3) || (s.order && s.ty != 2) || (s.rev && s.ty != 4)
noncomputable def schMay (s : Sch) : Int := if predOk s.pred = false then 40 else if schBad s then 43 else 0

set_option maxRecDepth 100000 in
set_option maxHeartbeats 2000000 in
theorem r4Schema_any (x : Sch) (w : World) : Calls Tryz.prog 121 #[.agg x.enc.toArray] w fun e w' => e = .returned (.int .i64 (schMay x)) ∧ Fr N0 w w' := by
  have h1 := fun W => r4Pred_any x.pred W
  unfold Sch.enc
  unfold schMay
  obtain ⟨pb, hpb⟩ : ∃ b, predOk x.pred = b := ⟨_, rfl⟩
  simp only [hpb] at h1 ⊢
  have H1 := Lib.hid h1
  clear h1 hpb
  cases pb
  · go_enter Tryz.func121, Tryz.ntmps121
    go_wp2_with (go_at_call 87; refine (H1.out _).mono ?_; rintro e w1 ⟨rfl, rfl⟩)
    go_ret
    exact ⟨rfl, (by repeat (first | exact Fr.refl _ _ | assumption | refine Fr.alloc ?_ _ | refine Fr.drew ?_ | refine Fr.drewN ?_ _ | refine Fr.setCell ?_ (.inr (by simp; try omega)) _))⟩
  · obtain ⟨sp, st, sl, se, sm, so, sr, sc⟩ := x
    simp only [schBad]
    go_enter Tryz.func121, Tryz.ntmps121
    go_wp2_with (go_at_call 87; refine (H1.out _).mono ?_; rintro e w1 ⟨rfl, rfl⟩)
    all_goals
      go_ret
      refine ⟨ret_int ?_, (by repeat (first | exact Fr.refl _ _ | assumption | refine Fr.alloc ?_ _ | refine Fr.drew ?_ | refine Fr.drewN ?_ _ | refine Fr.setCell ?_ (.inr (by simp; try omega)) _))⟩
      simp_all <;> omega

set_option maxRecDepth 100000 in
set_option maxHeartbeats 2000000 in
theorem tSchema_any (x : Sch) (w : World) : Calls Tryz.prog 92 #[.agg x.enc.toArray] w fun e w' => e = .returned (.int .i64 (schMay x)) ∧ Fr N0 w w' := by
  have h1 := fun W => tPred_any x.pred W
  unfold Sch.enc
  unfold schMay
  obtain ⟨pb, hpb⟩ : ∃ b, predOk x.pred = b := ⟨_, rfl⟩
  simp only [hpb] at h1 ⊢
  have H1 := Lib.hid h1
  clear h1 hpb
  obtain ⟨sp, st, sl, se, sm, so, sr, sc⟩ := x
  simp only [schBad]
  cases pb
  all_goals
    go_enter Tryz.func92, Tryz.ntmps92
    go_wp2_with (go_at_call 110; refine (H1.out _).mono ?_; rintro e w1 ⟨rfl, hf1⟩; have hB1 := boxS_keep hf1 (boxS_new w _ _); have m1 := hB1.1; have HB := Lib.hid hB1.2.2; clear hB1)
    all_goals
      go_ret
      refine ⟨ret_int ?_, HB.out⟩
      simp_all <;> omega

noncomputable def tFits (s : Sch) (x : Wr) : Int :=
  if firstNZ [schMay s, trMay x] ≠ 0 then firstNZ [schMay s, trMay x] else if x.pred.toList ≠ s.pred.toList then 2 else if x.val.k ≠ s.ty then 42 else 0

theorem schMay_wf (s : Sch) : (Lit.int .i64 (schMay s)).wf = true := by
  unfold schMay; repeat' split
  all_goals decide
theorem trMay_wf (x : Wr) : (Lit.int .i64 (trMay x)).wf = true := by
  unfold trMay; repeat' split
  all_goals decide

/-- Two boxes that lie since a world. -/
abbrev BoxS2 (W0 : World) (B : Nat) (cs : Array Value) (C : Nat) (ds : Array Value) (W : World) : Prop := (∀ i, W.cell? ⟨B, i, none⟩ = cs[i]?) ∧ (∀ i, W.cell? ⟨C, i, none⟩ = ds[i]?) ∧ B < W.heap.size ∧ C < W.heap.size ∧ Fr N0 W0 W
theorem boxS2_keep {W0 : World} {B C : Nat} {cs ds : Array Value} {W W' : World} (hf : Fr N0 W W') (h : BoxS2 W0 B cs C ds W) : BoxS2 W0 B cs C ds W' :=
  ⟨fun i => (cell_same (p := ⟨B, i, none⟩) (hf.at id h.2.2.1)).trans (h.1 i), fun i => (cell_same (p := ⟨C, i, none⟩) (hf.at id h.2.2.2.1)).trans (h.2.1 i), Nat.lt_of_lt_of_le h.2.2.1 hf.size, Nat.lt_of_lt_of_le h.2.2.2.1 hf.size, h.2.2.2.2.then0 hf⟩
theorem boxS2_new (w : World) (cs ds : Array Value) (t u : TypeId) : BoxS2 w w.heap.size cs (w.heap.size + 1) ds ((w.alloc (.cells cs t)).alloc (.cells ds u)) := by
  have h1 := boxS_keep ((Fr.refl _ _).alloc (.cells ds u)) (boxS_new w cs t)
  have h2 := boxS_new (w.alloc (.cells cs t)) ds u
  rw [World.size_alloc] at h2
  exact ⟨h1.1, h2.1, h1.2.1, h2.2.1, h1.2.2⟩

set_option maxRecDepth 100000 in
set_option maxHeartbeats 2000000 in
theorem tFits_any (s : Sch) (x : Wr) (hx : x.wf) (w : World) : Calls Tryz.prog 93 #[.agg s.enc.toArray, .agg x.enc.toArray] w fun e w' => e = .returned (.int .i64 (tFits s x)) ∧ Fr N0 w w' := by
  have h1 := fun W => tSchema_any s W
  have h2 := fun W => tMay_any x hx W
  have hw1 := schMay_wf s; have hw2 := trMay_wf x
  unfold tFits
  obtain ⟨e1, he1⟩ : ∃ e, schMay s = e := ⟨_, rfl⟩
  obtain ⟨e2, he2⟩ : ∃ e, trMay x = e := ⟨_, rfl⟩
  simp only [he1] at h1 hw1 ⊢
  simp only [he2] at h2 hw2 ⊢
  have hcall := fun W => first_any _ _ _ _ (ints_two W e1 e2 hw1 hw2)
  obtain ⟨e3, he3⟩ : ∃ e, firstNZ [e1, e2] = e := ⟨_, rfl⟩
  simp only [he3] at hcall ⊢
  unfold Sch.enc Wr.enc
  unfold Sch.enc at h1
  unfold Wr.tenc at h2
  have H1 := Lib.hid h1; have H2 := Lib.hid h2; have HC := Lib.hid hcall
  clear h1 h2 he1 he2 he3 hcall hw1 hw2 hx
  obtain ⟨res, hres⟩ : ∃ r : Int, (if e3 ≠ 0 then e3 else if x.pred.toList ≠ s.pred.toList then 2 else if x.val.k ≠ s.ty then 42 else 0) = r := ⟨_, rfl⟩
  rw [hres]
  have HR := Lib.hid hres
  clear hres
  obtain ⟨sp, st, sl, se, sm, so, sr, sc⟩ := s
  obtain ⟨xd, xu, xp, vk, vb, vn, vs, vu⟩ := x
  go_enter Tryz.func93, Tryz.ntmps93
  go_wp2
  have hS := boxS2_new w #[Value.string sp, Value.int .u8 st, Value.bool sl, Value.bool se, Value.bool sm, Value.bool so, Value.bool sr, Value.bool sc] #[Value.bool xd, Value.int .u64 xu, Value.string xp, Value.int .u8 vk, Value.bool vb, Value.int .i64 vn, Value.string vs, Value.int .u64 vu] 72 65
  obtain ⟨W1, hW1⟩ : ∃ W, (w.alloc (.cells #[Value.string sp, Value.int .u8 st, Value.bool sl, Value.bool se, Value.bool sm, Value.bool so, Value.bool sr, Value.bool sc] 72)).alloc (.cells #[Value.bool xd, Value.int .u64 xu, Value.string xp, Value.int .u8 vk, Value.bool vb, Value.int .i64 vn, Value.string vs, Value.int .u64 vu] 65) = W := ⟨_, rfl⟩
  rw [hW1] at hS ⊢
  clear hW1
  go_region_held3 (BoxS2 w w.heap.size #[Value.string sp, Value.int .u8 st, Value.bool sl, Value.bool se, Value.bool sm, Value.bool so, Value.bool sr, Value.bool sc] (w.heap.size + 1) #[Value.bool xd, Value.int .u64 xu, Value.string xp, Value.int .u8 vk, Value.bool vb, Value.int .i64 vn, Value.string vs, Value.int .u64 vu])
    (first | exact hS | exact boxS2_keep ((Fr.refl _ _).drew) hS | exact boxS2_keep hf6 (by assumption) | exact boxS2_keep ((Fr.refl _ _).alloc _) (by assumption) | assumption) (first
      | (go_at_call 92; go_loud (refine (H1.out _).mono ?_); rintro e w1 ⟨rfl, hf6⟩)
      | (go_at_call 85; go_loud (refine (H2.out _).mono ?_); rintro e w2 ⟨rfl, hf6⟩)
      | (go_at_call 109; go_loud (refine (HC.out _).mono ?_); rintro e w3 ⟨rfl, rfl⟩))
  go_wp2
  all_goals
    go_ret
    refine ⟨ret_int ?_, by go_split_ands; assumption⟩
    have hres := HR.out
    simp_all

end Go.Proofs.YthidminepegnoaaGreatDoor
namespace Go.Proofs.YthidminepegnoaaGreatDoor
open Go.RowKit Go.Shelf
attribute [local go_sem] Oper.semAt_some
set_option linter.unusedVariables false
set_option linter.unusedSimpArgs false

/-- The last m bytes of x, the highest first. -/
def be : Nat → Nat → List Int
  | 0, _ => []
  | m + 1, x => ((x / 256 ^ m % 256 : Nat) : Int) :: be m x
/-- How many bytes x has. -/
def nb (x : Nat) : Nat := if h : x = 0 then 0 else nb (x / 256) + 1
termination_by x
decreasing_by omega
/-- A number's bytes: how many, and they. -/
def num (x : Nat) : List Int := (nb x : Int) :: be (nb x) x

theorem be_length : ∀ (m x : Nat), (be m x).length = m
  | 0, _ => rfl
  | m + 1, x => by simp [be, be_length m x]
theorem nb_zero : nb 0 = 0 := by unfold nb; simp
theorem nb_step {x : Nat} (h : x ≠ 0) : nb x = nb (x / 256) + 1 := by conv => lhs; unfold nb; simp [h]
theorem nb_le : ∀ (k x : Nat), x < 256 ^ k → nb x ≤ k
  | 0, x, h => by have : x = 0 := by simpa using h
                  rw [this, nb_zero]; exact Nat.le_refl _
  | k + 1, x, h => by
    by_cases hx : x = 0
    · rw [hx, nb_zero]; omega
    · rw [nb_step hx]
      have := nb_le k (x / 256) (by rw [Nat.pow_succ] at h; omega)
      omega

theorem set_rep (R : List Int) (v : Int) : ∀ m : Nat, (List.replicate (m + 1) 0 ++ R).set m v = List.replicate m 0 ++ v :: R
  | 0 => rfl
  | m + 1 => by
    have := set_rep R v m
    simp only [List.replicate_succ, List.cons_append, List.set_cons_succ] at this ⊢
    rw [this]

/-- The array's cells while the bytes are written, from place i + 1 on. -/
def numCells (x n i : Nat) : List Int := (n : Int) :: (List.replicate i 0 ++ (be (n - i) x ++ List.replicate (8 - n) 0))

theorem numCells_step (x n i : Nat) (hi : i + 1 ≤ n) : (numCells x n (i + 1)).set (i + 1) ((x / 256 ^ (n - (i + 1)) % 256 : Nat) : Int) = numCells x n i := by
  unfold numCells
  rw [List.set_cons_succ, set_rep]
  have : n - i = n - (i + 1) + 1 := by omega
  rw [this, be, List.cons_append]
theorem numCells_length (x n i : Nat) (hi : i ≤ n) (hn : n ≤ 8) : (numCells x n i).length = 9 := by
  simp [numCells, be_length]; omega
theorem numCells_start (x n : Nat) (hn : n ≤ 8) : ((List.replicate 9 (0 : Int)).set 0 (n : Int)) = numCells x n n := by
  unfold numCells
  simp only [Nat.sub_self, be, List.nil_append, List.replicate_append_replicate]
  rw [show n + (8 - n) = 8 by omega]; rfl

theorem u8a9_slice (W : World) (a : Addr) (n : Nat) (hn : n ≤ 8) : (Instr.sliceAt 175 (.pointer (some a)) none (some (.int .i64 ((n : Int) + 1))) none).run Tryz.prog W = .ok (.slice (some a) (n + 1) 9) W := by
  have hlen : Tryz.prog.arrayLen 175 = 9 := by kernel_rfl
  have hsz : ∀ W, (sizeOf (Tryz.prog.elem 175)).run Tryz.prog W = .ok 1 W := fun W => by kernel_rfl
  rw [run_sliceAt_array_h W 175 a (by kernel_rfl) .i64 _ (by omega) (by rw [hlen]; omega), hsz, hlen]
  simp only [Result.andThen_ok, slicedAt]
  have : ((n : Int) + 1).toNat = n + 1 := by omega
  rw [this]
  simp [Addr.add]

set_option maxHeartbeats 1000000 in
theorem num_any (x : Nat) (hx : x < 18446744073709551616) (w : World) :
    Calls Tryz.prog 95 #[.int .u64 (x : Int)] w fun e w' => e = .returned (.string (strOfNums (num x))) ∧ Fr N0 w w' := by
  have hn8 : nb x ≤ 8 := nb_le 8 x (by simpa using hx)
  go_enter Tryz.func95, Tryz.ntmps95
  go_wp2
  go_loop [4, 5] (fun kv yv => ∃ k y : Nat, kv = .int .i64 k ∧ yv = .int .u64 y ∧ Hid (k + nb y = nb x) ∧ y < 18446744073709551616) (fun _ yv => (intOf yv).toNat)
  case atStart => exact ⟨0, x, by go_num, rfl, by simp [Hid], hx⟩
  case round =>
    obtain ⟨k, y, rfl, rfl, hk, hy⟩ := hrel
    by_cases hy0 : y = 0
    · subst hy0
      have hkn : k = nb x := by have := hk.out; rw [nb_zero] at this; omega
      subst hkn
      obtain ⟨n, hn⟩ : ∃ n, nb x = n := ⟨_, rfl⟩
      have hnum : num x = (n : Int) :: be n x := by rw [num, hn]
      rw [hn] at hn8 ⊢
      obtain ⟨W0, hW0⟩ : ∃ W0, w.alloc (.cells #[.int .u8 0, .int .u8 0, .int .u8 0, .int .u8 0, .int .u8 0, .int .u8 0, .int .u8 0, .int .u8 0, .int .u8 0] 175) = W0 := ⟨_, rfl⟩
      have hf0 : Fr N0 w W0 := by rw [← hW0]; exact (Fr.refl _ _).alloc _
      have hr0 : W0.ownsRow w.heap.size 175 1 (.slice (some ⟨w.heap.size, 0, none⟩) 9 9) 9 ((List.replicate 9 (0 : Int)).map (Value.int .u8)) := by
        rw [← hW0]
        exact ⟨by simp, .inr ⟨w.heap.size, 9, _, rfl, Nat.le_refl _, World.alloc_heap_new _ _, Nat.le_refl _, by simp [maxLen], rfl, rfl⟩⟩
      rw [hW0]
      have e0 : W0.cell? ⟨w.heap.size, 0, none⟩ = some (.int .u8 0) := by rw [hr0.cellAt _ (by omega)]; rfl
      have f0 := hr0.frozenAt 0
      have hr1 := (hr0.stored 0 (.int .u8 (n : Int))).1
      have hr1' : (W0.setCell ⟨w.heap.size, 0, none⟩ (.int .u8 (n : Int))).ownsRow w.heap.size 175 1 (.slice (some ⟨w.heap.size, 0, none⟩) 9 9) 9 ((numCells x n n).map (Value.int .u8)) := by
        rw [← numCells_start x n hn8, List.map_set]; exact hr1
      have hf1 := hf0.setCell (p := ⟨w.heap.size, 0, none⟩) (.inr (Nat.le_refl _)) (.int .u8 (n : Int))
      have HR1 := Lib.hid hr1'; have HF1 := Lib.hid hf1; have HNUM := Lib.hid hnum
      clear hr0 hr1 hr1' hf0 hf1 hnum hW0 hk hn
      have hnw : IntKind.u8.wrap (n : Int) = (n : Int) := IntWalk.u8_in _ (by omega)
      go_wp2
      clear e0 f0
      go_loopw [0, 6] (fun xv iv wr => ∃ i z : Nat, xv = .int .u64 z ∧ iv = .int .i64 i ∧ i ≤ n ∧ z < 18446744073709551616 ∧ Hid (z = x / 256 ^ (n - i)) ∧
          wr.ownsRow w.heap.size 175 1 (.slice (some ⟨w.heap.size, 0, none⟩) 9 9) 9 ((numCells x n i).map (Value.int .u8)) ∧ Fr N0 w wr) (fun _ iv _ => (intOf iv).toNat)
      case atStart => exact ⟨n, x, rfl, rfl, Nat.le_refl _, hx, by simp [Hid], HR1.out, HF1.out⟩
      case round =>
        obtain ⟨i, z, rfl, rfl, hi, hz, hzx, hrow, hfr⟩ := hrel
        clear hnw
        by_cases hi0 : i = 0
        · subst hi0
          have hcv : ∀ dst, Tryz.prog.underlying dst = some .string → (convert 22 dst (.slice (some ⟨w.heap.size, 0, none⟩) (n + 1) 9)).run Tryz.prog wr = .ok (.string (strOfNums (num x))) wr := by
            refine run_convert_bytes_arg wr 22 5 Tryz.underlying22 (by kernel_rfl) w.heap.size 0 (n + 1) 9 (num x) (by rw [HNUM.out]; simp [be_length]) fun i hi => ?_
            have hlt : i < (num x).length := by rw [HNUM.out]; simp [be_length]; omega
            rw [Nat.zero_add, hrow.cellAt i (by omega), List.getElem?_map]
            have : (numCells x n 0)[i]? = (num x)[i]? := by
              have e : numCells x n 0 = num x ++ List.replicate (8 - n) 0 := by rw [HNUM.out]; simp [numCells]
              rw [e, List.getElem?_append_left hlt]
            rw [this, List.getElem?_eq_getElem hlt, List.getD, List.getElem?_eq_getElem hlt]
            rfl
          have hcv' := hcv 9 (by kernel_rfl)
          have HFR := Lib.hid hfr
          clear hcv hrow hfr
          have hsl := u8a9_slice wr ⟨w.heap.size, 0, none⟩ n hn8
          go_wp2
          go_ret
          exact ⟨rfl, HFR.out⟩
        · obtain ⟨j, rfl⟩ : ∃ j, i = j + 1 := ⟨i - 1, by omega⟩
          have ec : wr.cell? ⟨w.heap.size, j + 1, none⟩ = some (.int .u8 0) := by
            have h1 := hrow.cellAt (j + 1) (by omega)
            rw [h1, List.getElem?_map]
            have : (numCells x n (j + 1))[j + 1]? = some 0 := by
              simp only [numCells, List.getElem?_cons_succ]
              rw [List.getElem?_append_left (by simp), List.getElem?_replicate, if_pos (by omega)]
            rw [this]; rfl
          have fc := hrow.frozenAt (j + 1)
          have hstp := numCells_step x n j hi
          have hz2 : z / 256 = x / 256 ^ (n - j) := by
            rw [hzx.out, Nat.div_div_eq_div_mul, ← Nat.pow_succ]
            congr 2; omega
          have hbw : IntKind.u8.wrap (z : Int) = ((z % 256 : Nat) : Int) := by rw [IntKind.wrap_u8]; omega
          have HST := Lib.hid hstp; have HZ2 := Lib.hid hz2; have HRW := Lib.hid hrow; have HFR := Lib.hid hfr
          clear hstp hz2 hrow hfr
          have hj9 : (j : Int) + 1 < 9 := by omega
          obtain ⟨bt, hbt⟩ : ∃ bt, ((z % 256 : Nat) : Int) = bt := ⟨_, rfl⟩
          have HBT := Lib.hid hbt
          rw [hbt] at hbw
          clear hbt
          go_wp2
          go_roundw
          case rel =>
            refine ⟨j, z / 256, by go_num, by go_num, by omega, by omega, HZ2.out, ?_, HFR.out.setCell (p := ⟨w.heap.size, j + 1, none⟩) (.inr (Nat.le_refl _)) _⟩
            rw [← HST.out, ← hzx.out, HBT.out, List.map_set]
            exact (HRW.out.stored (j + 1) (.int .u8 bt)).1
          case measure => simp [intOf]
    · have hst := nb_step hy0
      have hk' := hk.out
      have hk8 : k < 8 := by omega
      have hne : ((y : Int) != 0) = true := by simp; omega
      go_wp2
      go_round
      case rel => exact ⟨k + 1, y / 256, by go_num, by go_num, by show k + 1 + nb (y / 256) = nb x; omega, by omega⟩
      case measure => simp [intOf]; omega

end Go.Proofs.YthidminepegnoaaGreatDoor
namespace Go.Proofs.YthidminepegnoaaGreatDoor
open Go.RowKit Go.Shelf
attribute [local go_sem] Oper.semAt_some
set_option linter.unusedVariables false
set_option linter.unusedSimpArgs false

theorem infoU8 : (Tryz.prog.info? 5).map (fun i => (i.zero, i.size, i.bytes)) = some (some (.int .u8 0), 1, 1) := by kernel_rfl

theorem pow256 (i : Nat) : (2 : Int) ^ (8 * i) = ((256 ^ i : Nat) : Int) := by
  rw [Int.pow_mul]; simp

set_option maxRecDepth 100000 in
set_option maxHeartbeats 1000000 in
theorem rfixed_any (x n : Nat) (hx : x < 18446744073709551616) (hn : n ≤ 8) (w : World) :
    Calls Tryz.prog 122 #[.int .u64 (x : Int), .int .i64 (n : Int)] w fun e w' => e = .returned (.string (strOfNums (be n x))) ∧ Fr N0 w w' := by
  obtain ⟨i0, hi, hz0, hz1, hz2⟩ := info_parts infoU8
  go_enter Tryz.func122, Tryz.ntmps122
  go_wp2_with (at_make; go_loud (refine wpList_make_full _ rfl _ _ 22 rfl w.heap.size 5 i0 (.int .u8 0) 1 Tryz.underlying22 hi hz0 hz1 .i64 .i64 _ _ n rfl rfl rfl rfl (by rw [hz2]; omega) (by unfold maxLen; omega) (Nat.le_refl _) ?_); intro w1 hown hgrow)
  have hf1 : Fr N0 w w1 := (Fr.refl _ _).grown hgrow (fun k e => by cases e)
  have hr1 : w1.ownsRow w.heap.size 5 1 (.slice (some ⟨w.heap.size, 0, none⟩) n n) n ((List.replicate n (0 : Int) ++ be 0 x).map (Value.int .u8)) := by
    have e : (Value.int IntKind.u8 0).cells = #[.int .u8 0] := rfl
    rw [e, toList_madeCells_one] at hown
    simpa [be] using hown
  have HR1 := Lib.hid hr1; have HF1 := Lib.hid hf1
  clear hown hgrow hr1 hf1
  go_loopw [6] (fun iv wr => ∃ i : Nat, i ≤ n ∧ iv = .int .i64 i ∧ wr.ownsRow w.heap.size 5 1 (.slice (some ⟨w.heap.size, 0, none⟩) n n) n ((List.replicate (n - i) (0 : Int) ++ be i x).map (Value.int .u8)) ∧ Fr N0 w wr) (fun iv _ => n - (intOf iv).toNat)
  case atStart => exact ⟨0, Nat.zero_le _, rfl, HR1.out, HF1.out⟩
  case round =>
    obtain ⟨i, hin, rfl, hrow, hfr⟩ := hrel
    by_cases hlt : i < n
    · obtain ⟨j, hj⟩ : ∃ j, n = i + j + 1 := ⟨n - i - 1, by omega⟩
      have ec : wr.cell? ⟨w.heap.size, j, none⟩ = some (.int .u8 0) := by
        rw [hrow.cellAt j (by omega), List.getElem?_map, List.getElem?_append_left (by simp; omega), List.getElem?_replicate, if_pos (by omega)]; rfl
      have fc := hrow.frozenAt j
      have hst : (List.replicate (n - i) (0 : Int) ++ be i x).set j ((x / 256 ^ i % 256 : Nat) : Int) = List.replicate (n - (i + 1)) 0 ++ be (i + 1) x := by
        rw [show n - i = j + 1 by omega, set_rep, show n - (i + 1) = j by omega, be]
      have hpw : (2 : Int) ^ (8 * i) = ((256 ^ i : Nat) : Int) := pow256 i
      have hbt : ((x / 256 ^ i % 256 : Nat) : Int) = (x : Int) / 256 ^ i % 256 := by simp
      rw [hbt] at hst
      clear hbt
      have HST := Lib.hid hst; have HRW := Lib.hid hrow; have HFR := Lib.hid hfr
      clear hst hrow hfr
      go_wp2
      go_roundw
      case rel =>
        refine ⟨i + 1, by omega, by go_num, ?_, HFR.out.setCell (.inr (Nat.le_refl _)) _⟩
        rw [← HST.out, List.map_set]
        exact (HRW.out.stored j (.int .u8 ((x : Int) / 256 ^ i % 256))).1
      case measure => simp [intOf]; omega
    · obtain rfl : i = n := by omega
      have hcv : ∀ dst, Tryz.prog.underlying dst = some .string → (convert 22 dst (.slice (some ⟨w.heap.size, 0, none⟩) i i)).run Tryz.prog wr = .ok (.string (strOfNums (be i x))) wr := by
        refine run_convert_bytes_arg wr 22 5 Tryz.underlying22 (by kernel_rfl) w.heap.size 0 i i (be i x) (be_length _ _) fun k hk => ?_
        have hlt' : k < (be i x).length := by rw [be_length]; omega
        rw [Nat.zero_add, hrow.cellAt k (by omega)]
        simp only [Nat.sub_self, List.replicate_zero, List.nil_append, List.getElem?_map]
        rw [List.getElem?_eq_getElem hlt', List.getD, List.getElem?_eq_getElem hlt']
        rfl
      have hcv' := hcv 9 (by kernel_rfl)
      have HFR := Lib.hid hfr
      clear hcv hrow hfr
      go_wp2
      go_ret
      exact ⟨rfl, HFR.out⟩

theorem nb_pow : ∀ (k x : Nat), x / 256 ^ k = 0 ↔ nb x ≤ k
  | 0, x => by
    simp only [Nat.pow_zero, Nat.div_one]
    constructor
    · rintro rfl; rw [nb_zero]; exact Nat.le_refl _
    · intro h
      by_cases hx : x = 0
      · exact hx
      · rw [nb_step hx] at h; omega
  | k + 1, x => by
    by_cases hx : x = 0
    · subst hx; simp [nb_zero]
    · have := nb_pow k (x / 256)
      rw [nb_step hx, Nat.pow_succ, Nat.mul_comm, ← Nat.div_div_eq_div_mul, this]
      omega

theorem strOfNums_append (a b : List Int) : strOfNums a ++ strOfNums b = strOfNums (a ++ b) := by
  apply ByteArray.ext
  simp [strOfNums, ByteArray.data_append]

theorem alloc_keeps {W W1 : World} {v : Value} {t : TypeId} (hf : Fr N0 (W.alloc (.cells #[v] t)).drew W1) : W1.cell? ⟨W.heap.size, 0, none⟩ = some v :=
  cell_of_one ((((Fr.refl N0 (W.alloc (.cells #[v] t))).drew.then0 hf).at id (by simp)).trans (World.alloc_heap_new W _))

theorem one_byte (n : Nat) (W : World) (B : Nat) (hc : W.cell? ⟨B, 0, none⟩ = some (.int .u8 (n : Int))) :
    (convert 22 9 (.slice (some ⟨B, 0, none⟩) 1 1)).run Tryz.prog W = .ok (.string (strOfNums [(n : Int)])) W := by
  refine run_convert_bytes_arg W 22 5 Tryz.underlying22 (by kernel_rfl) B 0 1 1 [(n : Int)] rfl (fun k hk => ?_) 9 (by kernel_rfl)
  obtain rfl : k = 0 := by omega
  exact hc

set_option maxRecDepth 100000 in
set_option maxHeartbeats 1000000 in
theorem rnum_any (x : Nat) (hx : x < 18446744073709551616) (w : World) :
    Calls Tryz.prog 105 #[.int .u64 (x : Int)] w fun e w' => e = .returned (.string (strOfNums (num x))) ∧ Fr N0 w w' := by
  have hn8 : nb x ≤ 8 := nb_le 8 x (by simpa using hx)
  go_enter Tryz.func105, Tryz.ntmps105
  go_wp2
  go_loop [3] (fun kv => ∃ k : Nat, kv = .int .i64 k ∧ k ≤ nb x) (fun kv => 8 - (intOf kv).toNat)
  case atStart => exact ⟨0, by go_num, Nat.zero_le _⟩
  case round =>
    obtain ⟨k, rfl, hk⟩ := hrel
    have hpw : (2 : Int) ^ (8 * k) = ((256 ^ k : Nat) : Int) := pow256 k
    have hnp := nb_pow k x
    by_cases hkn : k = nb x
    · have h0 : (x : Int) / 256 ^ k = 0 := by
        have := hnp.2 (by omega)
        have e : ((x / 256 ^ k : Nat) : Int) = (x : Int) / 256 ^ k := by simp
        rw [← e, this]; rfl
      subst hkn
      obtain ⟨n, hn⟩ : ∃ n, nb x = n := ⟨_, rfl⟩
      have hnum : num x = (n : Int) :: be n x := by rw [num, hn]
      rw [hn] at hn8 h0 hpw ⊢
      have hfx := fun W => rfixed_any x n hx hn8 W
      have HNUM := Lib.hid hnum; have HFX := Lib.hid hfx
      clear hnum hn hnp hfx hk
      have hnw : IntKind.u8.wrap (n : Int) = (n : Int) := IntWalk.u8_in _ (by omega)
      have hob := one_byte n
      have hsum : ∀ W, (Op.stringOp .add (strOfNums [(n : Int)]) (strOfNums (be n x))).run Tryz.prog W = .ok (.string (strOfNums (num x))) W := fun W => by
        refine (run_string_add_sum W (strOfNums [(n : Int)]) (strOfNums (be n x)) (by simp only [strOfNums_size, be_length, List.length_cons, List.length_nil]; omega)).trans ?_
        rw [strOfNums_append, HNUM.out]; rfl
      by_cases h8 : (n : Int) < 8
      all_goals
        go_wp2
        go_region_with (first
          | (go_at_call 122; go_loud (refine (HFX.out _).mono ?_); rintro e w1 ⟨rfl, hf6⟩; (try have hcc : w1.cell? ⟨w.heap.size, 0, none⟩ = some (.int .u8 (n : Int)) := alloc_keeps hf6)))
        all_goals go_wp2
        all_goals go_ret
        all_goals first
          | exact ⟨rfl, ((Fr.refl _ _).drew).then0 hf6⟩
          | exact ⟨rfl, (((Fr.refl _ _).drew).then0 hf6).alloc _⟩
          | exact ⟨rfl, (((Fr.refl _ _).alloc _).drew).then0 hf6⟩
    · have h0 : ((x : Int) / 256 ^ k != 0) = true := by
        have h1 : x / 256 ^ k ≠ 0 := fun e => hkn (by have := hnp.1 e; omega)
        have e : ((x / 256 ^ k : Nat) : Int) = (x : Int) / 256 ^ k := by simp
        rw [← e]; simp only [bne_iff_ne, ne_eq]; omega
      have hk8 : (k : Int) < 8 := by omega
      clear hnp
      go_wp2
      go_round
      case rel => exact ⟨k + 1, by go_num, by omega⟩
      case measure => simp [intOf]; omega

theorem be_get : ∀ (m x i : Nat) (h : i < m), (be m x)[i]? = some ((x / 256 ^ (m - 1 - i) % 256 : Nat) : Int)
  | m + 1, x, 0, _ => by simp [be]
  | m + 1, x, i + 1, h => by
    simp only [be, List.getElem?_cons_succ]
    rw [be_get m x i (by omega), show m + 1 - 1 - (i + 1) = m - 1 - i by omega]
theorem set_fill {L : List Int} {n i : Nat} {v : Int} (hL : L.length = n) (hi : i < n) (hv : L[i]? = some v) : (L.take i ++ List.replicate (n - i) 0).set i v = L.take (i + 1) ++ List.replicate (n - (i + 1)) 0 := by
  have hl : (L.take i).length = i := by simp; omega
  rw [List.set_append_right _ _ (by omega), hl, Nat.sub_self, show n - i = (n - (i + 1)) + 1 by omega, List.replicate_succ, List.set_cons_zero]
  have : L.take (i + 1) = L.take i ++ [v] := by
    rw [List.take_add_one, hv]; rfl
  rw [this, List.append_assoc]; rfl

def eightCells (x i : Nat) : List Int := (be 8 x).take i ++ List.replicate (8 - i) 0

set_option maxRecDepth 100000 in
set_option maxHeartbeats 1000000 in
theorem eight_any (x : Nat) (hx : x < 18446744073709551616) (w : World) :
    Calls Tryz.prog 128 #[.int .u64 (x : Int)] w fun e w' => e = .returned (.string (strOfNums (be 8 x))) ∧ Fr N0 w w' := by
  go_enter Tryz.func128, Tryz.ntmps128
  go_wp2
  obtain ⟨W0, hW0⟩ : ∃ W0, w.alloc (.cells #[.int .u8 0, .int .u8 0, .int .u8 0, .int .u8 0, .int .u8 0, .int .u8 0, .int .u8 0, .int .u8 0] 203) = W0 := ⟨_, rfl⟩
  have hf0 : Fr N0 w W0 := by rw [← hW0]; exact (Fr.refl _ _).alloc _
  have hr0 : W0.ownsRow w.heap.size 203 1 (.slice (some ⟨w.heap.size, 0, none⟩) 8 8) 8 ((eightCells x 0).map (Value.int .u8)) := by
    rw [← hW0]
    exact ⟨by simp [eightCells], .inr ⟨w.heap.size, 8, _, rfl, Nat.le_refl _, World.alloc_heap_new _ _, Nat.le_refl _, by simp [maxLen], rfl, rfl⟩⟩
  rw [hW0]
  have HR0 := Lib.hid hr0; have HF0 := Lib.hid hf0
  clear hr0 hf0 hW0
  go_loopw [4, 5] (fun _ iv wr => ∃ i : Nat, i ≤ 8 ∧ iv = .int .i64 i ∧ wr.ownsRow w.heap.size 203 1 (.slice (some ⟨w.heap.size, 0, none⟩) 8 8) 8 ((eightCells x i).map (Value.int .u8)) ∧ Fr N0 w wr) (fun _ iv _ => 8 - (intOf iv).toNat)
  case atStart => exact ⟨0, Nat.zero_le _, rfl, HR0.out, HF0.out⟩
  case round =>
    obtain ⟨i, hi, rfl, hrow, hfr⟩ := hrel
    by_cases hlt : (i : Int) < 8
    · obtain ⟨j, hj⟩ : ∃ j, i + j = 7 := ⟨7 - i, by omega⟩
      have ec : wr.cell? ⟨w.heap.size, i, none⟩ = some (.int .u8 0) := by
        have hl : ((be 8 x).take i).length = i := by simp [be_length]; omega
        rw [hrow.cellAt i (by omega), List.getElem?_map, eightCells, List.getElem?_append_right (by omega), hl, Nat.sub_self, List.getElem?_replicate, if_pos (by omega)]; rfl
      have fc := hrow.frozenAt i
      have HRW := Lib.hid hrow; have HFR := Lib.hid hfr
      clear hrow hfr
      have w1 : IntKind.i64.wrap (8 * (i : Int)) = 8 * (i : Int) := IntWalk.i64_in _ (by omega)
      have w2 : IntKind.i64.wrap (56 - 8 * (i : Int)) = 56 - 8 * (i : Int) := IntWalk.i64_in _ (by omega)
      have hval : (x : Int) / 2 ^ (56 - 8 * i) % 256 = ((x / 256 ^ j % 256 : Nat) : Int) := by
        have e : (2 : Int) ^ (56 - 8 * i) = ((256 ^ j : Nat) : Int) := by
          rw [show 56 - 8 * i = 8 * j by omega]; exact pow256 j
        rw [e]; simp
      have hst : (eightCells x i).set i ((x : Int) / 2 ^ (56 - 8 * i) % 256) = eightCells x (i + 1) := by
        rw [hval]
        exact set_fill (be_length 8 x) (by omega) (by rw [be_get 8 x i (by omega), show 8 - 1 - i = j by omega])
      have HST := Lib.hid hst
      clear hval hst
      go_wp2
      go_roundw
      case rel =>
        refine ⟨i + 1, by omega, by go_num, ?_, HFR.out.setCell (.inr (Nat.le_refl _)) _⟩
        rw [← HST.out, List.map_set]
        exact (HRW.out.stored i (.int .u8 _)).1
      case measure => simp [intOf]; omega
    · obtain rfl : i = 8 := by omega
      have hcells : eightCells x 8 = be 8 x := by rw [eightCells, List.take_of_length_le (by rw [be_length]; exact Nat.le_refl _)]; simp
      have hcv : ∀ dst, Tryz.prog.underlying dst = some .string → (convert 22 dst (.slice (some ⟨w.heap.size, 0, none⟩) 8 8)).run Tryz.prog wr = .ok (.string (strOfNums (be 8 x))) wr := by
        refine run_convert_bytes_arg wr 22 5 Tryz.underlying22 (by kernel_rfl) w.heap.size 0 8 8 (be 8 x) (be_length _ _) fun k hk => ?_
        have hlt' : k < (be 8 x).length := by rw [be_length]; omega
        rw [Nat.zero_add, hrow.cellAt k (by omega), hcells, List.getElem?_map, List.getElem?_eq_getElem hlt', List.getD, List.getElem?_eq_getElem hlt']
        rfl
      have hcv' := hcv 9 (by kernel_rfl)
      have HFR := Lib.hid hfr
      clear hcv hrow hfr
      go_wp2
      go_ret
      exact ⟨rfl, HFR.out⟩

theorem xor63 (y : Nat) (h : y < 18446744073709551616) : y ^^^ 9223372036854775808 = (y + 9223372036854775808) % 18446744073709551616 := by
  have h1 : (y ^^^ 2 ^ 63) % 2 ^ 63 = y % 2 ^ 63 := by rw [Nat.xor_mod_two_pow]; simp
  have h2 : (y ^^^ 2 ^ 63) / 2 ^ 63 = (y / 2 ^ 63) ^^^ 1 := by rw [Nat.xor_div_two_pow]
  have h3 : y / 2 ^ 63 = 0 ∨ y / 2 ^ 63 = 1 := by omega
  have h4 : (y ^^^ 2 ^ 63) = (y / 2 ^ 63 ^^^ 1) * 2 ^ 63 + y % 2 ^ 63 := by
    rw [← h1, ← h2]; omega
  show y ^^^ 2 ^ 63 = _
  rw [h4]
  rcases h3 with h | h
  · rw [h]; simp; omega
  · rw [h]; simp; omega

/-- The eight bytes of a number with a sign, in the order of the numbers. -/
def ioff (x : Int) : Nat := (x + 9223372036854775808).toNat

theorem ioff_lt {x : Int} (h1 : -9223372036854775808 ≤ x) (h2 : x ≤ 9223372036854775807) : ioff x < 18446744073709551616 := by unfold ioff; omega
theorem ioff_add {x : Int} (h1 : -9223372036854775808 ≤ x) (h2 : x ≤ 9223372036854775807) : IntKind.u64.wrap (IntKind.u64.wrap x + 9223372036854775808) = (ioff x : Int) := by
  rw [IntKind.wrap_u64, IntKind.wrap_u64]; unfold ioff; omega
theorem ioff_xor {x : Int} (h1 : -9223372036854775808 ≤ x) (h2 : x ≤ 9223372036854775807) : bits BinOp.xor IntKind.u64 (IntKind.u64.wrap x) 9223372036854775808 = (ioff x : Int) := by
  obtain ⟨y, hy⟩ : ∃ y : Nat, IntKind.u64.wrap x = (y : Int) := ⟨(IntKind.u64.wrap x).toNat, by rw [IntKind.wrap_u64]; omega⟩
  have hlt : y < 18446744073709551616 := by have := hy; rw [IntKind.wrap_u64] at this; omega
  have hv : (BitVec.ofInt 64 (y : Int) ^^^ BitVec.ofInt 64 9223372036854775808).toNat = (y + 9223372036854775808) % 18446744073709551616 := by
    rw [BitVec.toNat_xor, BitVec.toNat_ofInt, ← xor63 y hlt]
    have e1 : ((y : Int) % ((2 ^ 64 : Nat) : Int)).toNat = y := by omega
    have e2 : (BitVec.ofInt 64 9223372036854775808).toNat = 9223372036854775808 := by decide
    rw [e1, e2]
  rw [hy]
  show IntKind.u64.wrap ((BitVec.ofInt 64 (y : Int) ^^^ BitVec.ofInt 64 9223372036854775808).toNat : Nat) = _
  rw [hv, IntKind.wrap_u64]
  rw [IntKind.wrap_u64] at hy
  unfold ioff; omega

set_option maxRecDepth 100000 in
set_option maxHeartbeats 1000000 in
theorem cInt_any (x : Int) (h1 : -9223372036854775808 ≤ x) (h2 : x ≤ 9223372036854775807) (w : World) :
    Calls Tryz.prog 115 #[.int .i64 x] w fun e w' => e = .returned (.string (strOfNums (be 8 (ioff x)))) ∧ Fr N0 w w' := by
  have hc := fun W => eight_any (ioff x) (ioff_lt h1 h2) W
  have HC := Lib.hid hc
  have hx := ioff_xor h1 h2
  clear hc
  go_enter Tryz.func115, Tryz.ntmps115
  go_wp2_with (go_at_call 128; go_loud (refine (HC.out _).mono ?_); rintro e w1 ⟨rfl, hf1⟩)
  go_ret
  exact ⟨rfl, hf1⟩

set_option maxRecDepth 100000 in
set_option maxHeartbeats 1000000 in
theorem r2Int_any (x : Int) (h1 : -9223372036854775808 ≤ x) (h2 : x ≤ 9223372036854775807) (w : World) :
    Calls Tryz.prog 123 #[.int .i64 x] w fun e w' => e = .returned (.string (strOfNums (be 8 (ioff x)))) ∧ Fr N0 w w' := by
  have hc := fun W => rfixed_any (ioff x) 8 (ioff_lt h1 h2) (by omega) W
  have HC := Lib.hid hc
  have hx := ioff_add h1 h2
  clear hc
  go_enter Tryz.func123, Tryz.ntmps123
  go_wp2_with (go_at_call 122; go_loud (refine (HC.out _).mono ?_); rintro e w1 ⟨rfl, hf1⟩)
  go_ret
  exact ⟨rfl, hf1⟩

end Go.Proofs.YthidminepegnoaaGreatDoor
