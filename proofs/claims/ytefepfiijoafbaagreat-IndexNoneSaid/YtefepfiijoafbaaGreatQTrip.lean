/- Triples: triple.May, Schema, Fits, and the document's. -/
import Derived.Deep.RegionHeld3
import Derived.Test.YtefepfiijoafbaaGreatQPred
namespace Go.Proofs.YtefepfiijoafbaaGreat
open Go.RowKit Go.Shelf
attribute [local go_sem] Oper.semAt_some
set_option linter.unusedVariables false
set_option linter.unusedSimpArgs false

structure Wr where
  del : Bool
  uid : Int
  pred : ByteArray
  val : Val
def Wr.tenc (x : Wr) : List Value := [.int .u64 x.uid, .string x.pred, .int .u8 x.val.k, .bool x.val.b, .int .i64 x.val.n, .string x.val.s, .int .u64 x.val.u]
def Wr.enc (x : Wr) : List Value := [.bool x.del, .int .u64 x.uid, .string x.pred, .int .u8 x.val.k, .bool x.val.b, .int .i64 x.val.n, .string x.val.s, .int .u64 x.val.u]
/-- What the kinds of a write's fields bear. -/
def Wr.wf (x : Wr) : Prop := 0 ≤ x.uid ∧ 0 ≤ x.val.u ∧ 0 ≤ x.val.k

noncomputable def trMay (x : Wr) : Int := if x.uid = 0 then 41 else if predOk x.pred = false then 40 else if valMay x.val = false then 30 else 0

/-- The first that is not 0. -/
def firstNZ : List Int → Int
  | [] => 0
  | x :: r => if x = 0 then firstNZ r else x

set_option maxRecDepth 100000 in
set_option maxHeartbeats 1000000 in
theorem cmpOr_any (w : World) (b : Nat) (v : Value) (xs : List Int) (h : Ints .i64 w b v xs) : Calls Tryz.prog 225 #[v] w fun e w' => e = .returned (.int .i64 (firstNZ xs)) ∧ w' = w := by
  obtain ⟨a, off, cap, rfl, h1, h2, h3, h4, h5, h6⟩ := h
  have HC := Lib.hid h5; clear h5 h6 h4
  go_enter Tryz.func225, Tryz.ntmps225
  go_wp2
  go_loop [8] (fun i => ∃ k : Nat, k ≤ xs.length ∧ i = .int .i64 k ∧ Hid (firstNZ xs = firstNZ (xs.drop k))) (fun i => xs.length - (intOf i).toNat)
  case atStart => exact ⟨0, Nat.zero_le _, rfl, rfl⟩
  case round =>
    obtain ⟨k, hk, rfl, hn⟩ := hrel
    by_cases hlt : k < xs.length
    · obtain rfl := h3 (by omega)
      have hck := HC.out k hlt
      have hd : firstNZ (xs.drop k) = if xs[k] = 0 then firstNZ (xs.drop (k + 1)) else xs[k] := by
        rw [List.drop_eq_getElem_cons hlt, firstNZ]
      obtain ⟨x, hx⟩ : ∃ x, xs[k] = x := ⟨_, rfl⟩
      rw [hx] at hck hd
      have hlt' : (k : Int) < (xs.length : Int) := by omega
      have hn' := hn.out.trans hd
      clear hn hd hx
      by_cases hx0 : x = 0
      · subst hx0
        rw [if_pos rfl] at hn'
        have HN := Lib.hid hn'
        clear hn'
        go_wp2
        go_round
        case rel => exact ⟨k + 1, by omega, by go_num, HN.out⟩
        case measure => simp [intOf]; omega
      · rw [if_neg hx0] at hn'
        have HN := Lib.hid hn'
        have hx1 : (x != 0) = true := by simpa using hx0
        clear hn'
        go_wp2
        go_ret
        exact ⟨ret_int HN.out.symm, rfl⟩
    · obtain rfl : k = xs.length := by omega
      have hn' := hn.out
      rw [List.drop_of_length_le (Nat.le_refl _)] at hn'
      have HN := Lib.hid hn'
      clear hn hn'
      go_wp2
      go_ret
      exact ⟨ret_int HN.out.symm, rfl⟩

set_option maxRecDepth 100000 in
set_option maxHeartbeats 1000000 in
theorem first_any (w : World) (b : Nat) (v : Value) (xs : List Int) (h : Ints .i64 w b v xs) : Calls Tryz.prog 182 #[v] w fun e w' => e = .returned (.int .i64 (firstNZ xs)) ∧ w' = w := by
  have hc := cmpOr_any w b v xs h
  obtain ⟨a, off, cap, rfl, _⟩ := h
  go_enter Tryz.func182, Tryz.ntmps182
  go_wp2_with (go_at_call 225; refine hc.mono ?_; rintro e w1 ⟨rfl, rfl⟩)
  go_ret
  exact ⟨rfl, rfl⟩

theorem ints_two (w : World) (x y : Int) (hx : (Lit.int .i64 x).wf = true) (hy : (Lit.int .i64 y).wf = true) : Ints .i64 (w.alloc (.cells #[.int .i64 x, .int .i64 y] 39)) w.heap.size (.slice (some ⟨w.heap.size, 0, none⟩) 2 2) [x, y] := by
  have hc := World.alloc_heap_new w (.cells #[.int .i64 x, .int .i64 y] 39)
  refine ⟨some ⟨w.heap.size, 0, none⟩, 0, 2, rfl, by simp, by omega, fun _ => rfl, by simp, fun i hi => ?_, by simp [hx, hy]⟩
  match i, hi with
  | 0, _ => simp only [World.cell?, Nat.zero_add, hc]; rfl
  | 1, _ => simp only [World.cell?, Nat.zero_add, hc]; rfl

set_option maxRecDepth 100000 in
set_option maxHeartbeats 2000000 in
theorem r4May_any (x : Wr) (w : World) : Calls Tryz.prog 236 #[.agg x.tenc.toArray] w fun e w' => e = .returned (.int .i64 (trMay x)) ∧ Fr N0 w w' := by
  have h1 := fun W => r4Pred_any x.pred W
  have h2 := fun W => r3May_any x.val W
  unfold Wr.tenc
  unfold Val.enc at h2
  unfold trMay
  by_cases h0 : x.uid = 0
  · simp only [h0, if_true]
    go_enter Tryz.func236, Tryz.ntmps236
    go_wp2
    go_ret
    exact ⟨rfl, (by repeat (first | exact Fr.refl _ _ | assumption | refine Fr.alloc ?_ _ | refine Fr.drew ?_ | refine Fr.drewN ?_ _ | refine Fr.setCell ?_ (.inr (by simp; try omega)) _))⟩
  simp only [h0, if_false]
  have h0' : (x.uid == 0) = false := by simpa using h0
  obtain ⟨pb, hpb⟩ : ∃ b, predOk x.pred = b := ⟨_, rfl⟩
  obtain ⟨vb, hvb⟩ : ∃ b, valMay x.val = b := ⟨_, rfl⟩
  simp only [hpb] at h1 ⊢
  simp only [hvb] at h2 ⊢
  have H1 := Lib.hid h1; have H2 := Lib.hid h2
  clear h1 h2 hpb hvb
  cases pb
  · go_enter Tryz.func236, Tryz.ntmps236
    go_wp2_with (go_at_call 103; refine (H1.out _).mono ?_; rintro e w1 ⟨rfl, rfl⟩)
    go_ret
    exact ⟨rfl, (by repeat (first | exact Fr.refl _ _ | assumption | refine Fr.alloc ?_ _ | refine Fr.drew ?_ | refine Fr.drewN ?_ _ | refine Fr.setCell ?_ (.inr (by simp; try omega)) _))⟩
  · cases vb
    all_goals
      go_enter Tryz.func236, Tryz.ntmps236
      go_wp2_with (first
        | (go_at_call 103; refine (H1.out _).mono ?_; rintro e w1 ⟨rfl, rfl⟩)
        | (go_at_call 155; refine (H2.out _).mono ?_; rintro e w2 ⟨rfl, hf2⟩))
      go_ret
      exact ⟨rfl, ((Fr.refl _ _).alloc _).then0 (by assumption)⟩

set_option maxRecDepth 100000 in
set_option maxHeartbeats 2000000 in
theorem tMay_any (x : Wr) (hx : x.wf) (w : World) : Calls Tryz.prog 115 #[.agg x.tenc.toArray] w fun e w' => e = .returned (.int .i64 (trMay x)) ∧ Fr N0 w w' := by
  have h1 := fun W => tPred_any x.pred W
  have h2 := fun W => vMay_any x.val hx.2.1 W
  unfold Wr.tenc
  unfold Val.enc at h2
  unfold trMay
  by_cases h0 : x.uid = 0
  · simp only [h0, if_true]
    go_enter Tryz.func115, Tryz.ntmps115
    go_wp2
    go_ret
    exact ⟨rfl, (by repeat (first | exact Fr.refl _ _ | assumption | refine Fr.alloc ?_ _ | refine Fr.drew ?_ | refine Fr.drewN ?_ _ | refine Fr.setCell ?_ (.inr (by simp; try omega)) _))⟩
  simp only [h0, if_false]
  have h0' : (x.uid == 0) = false := by simpa using h0
  obtain ⟨e1, he1⟩ : ∃ e : Int, (if predOk x.pred = true then 0 else 40) = e := ⟨_, rfl⟩
  obtain ⟨e2, he2⟩ : ∃ e : Int, (if valMay x.val = true then 0 else 30) = e := ⟨_, rfl⟩
  have hw1 : (Lit.int .i64 e1).wf = true := by rw [← he1]; split <;> decide
  have hw2 : (Lit.int .i64 e2).wf = true := by rw [← he2]; split <;> decide
  have hres : firstNZ [e1, e2] = if predOk x.pred = false then 40 else if valMay x.val = false then 30 else 0 := by
    rw [← he1, ← he2]
    cases predOk x.pred <;> cases valMay x.val <;> simp [firstNZ]
  rw [← hres]
  simp only [he1] at h1
  simp only [he2] at h2
  have H1 := Lib.hid h1; have H2 := Lib.hid h2
  clear h1 h2 he1 he2 hres
  go_enter Tryz.func115, Tryz.ntmps115
  go_wp2
  obtain ⟨cs, hcs⟩ : ∃ cs, cs = #[Value.int IntKind.u64 x.uid, Value.string x.pred, Value.int IntKind.u8 x.val.k, Value.bool x.val.b, Value.int IntKind.i64 x.val.n, Value.string x.val.s, Value.int IntKind.u64 x.val.u] := ⟨_, rfl⟩
  have hS := boxS_new w cs 59
  rw [← hcs]
  obtain ⟨W1, hW1⟩ : ∃ W, w.alloc (.cells cs 59) = W := ⟨_, rfl⟩
  rw [hW1] at hS ⊢
  rw [hcs] at hS
  clear hW1 hcs
  go_region_held3 (BoxS w w.heap.size #[Value.int IntKind.u64 x.uid, Value.string x.pred, Value.int IntKind.u8 x.val.k, Value.bool x.val.b, Value.int IntKind.i64 x.val.n, Value.string x.val.s, Value.int IntKind.u64 x.val.u])
    (first | exact hS | exact boxS_keep ((Fr.refl _ _).drew) hS | exact boxS_keep hf6 (by assumption) | exact boxS_keep ((Fr.refl _ _).alloc _) (by assumption) | assumption) (first
      | (go_at_call 105; go_loud (refine (H1.out _).mono ?_); rintro e w1 ⟨rfl, hf6⟩)
      | (go_at_call 183; go_loud (refine (H2.out _).mono ?_); rintro e w2 ⟨rfl, hf6⟩)
      | (go_at_call 182; go_loud (refine (first_any _ _ _ _ (ints_two _ _ _ hw1 hw2)).mono ?_); rintro e w3 ⟨rfl, rfl⟩))
  go_wp2
  go_ret
  exact ⟨rfl, by go_split_ands; assumption⟩

structure Sch where
  pred : ByteArray
  ty : Int
  list : Bool
  exact_ : Bool
  term : Bool
  order : Bool
  rev : Bool
  count : Bool
def Sch.enc (s : Sch) : List Value := [.string s.pred, .int .u8 s.ty, .bool s.list, .bool s.exact_, .bool s.term, .bool s.order, .bool s.rev, .bool s.count]
def schBad (s : Sch) : Bool := decide (s.ty < 1) || decide (4 < s.ty) || (s.term && s.ty != 3) || (s.order && s.ty != 2) || (s.rev && s.ty != 4)
noncomputable def schMay (s : Sch) : Int := if predOk s.pred = false then 40 else if schBad s then 43 else 0

set_option maxRecDepth 100000 in
set_option maxHeartbeats 2000000 in
theorem r4Schema_any (x : Sch) (w : World) : Calls Tryz.prog 107 #[.agg x.enc.toArray] w fun e w' => e = .returned (.int .i64 (schMay x)) ∧ Fr N0 w w' := by
  have h1 := fun W => r4Pred_any x.pred W
  unfold Sch.enc
  unfold schMay
  obtain ⟨pb, hpb⟩ : ∃ b, predOk x.pred = b := ⟨_, rfl⟩
  simp only [hpb] at h1 ⊢
  have H1 := Lib.hid h1
  clear h1 hpb
  cases pb
  · go_enter Tryz.func107, Tryz.ntmps107
    go_wp2_with (go_at_call 103; refine (H1.out _).mono ?_; rintro e w1 ⟨rfl, rfl⟩)
    go_ret
    exact ⟨rfl, (by repeat (first | exact Fr.refl _ _ | assumption | refine Fr.alloc ?_ _ | refine Fr.drew ?_ | refine Fr.drewN ?_ _ | refine Fr.setCell ?_ (.inr (by simp; try omega)) _))⟩
  · obtain ⟨sp, st, sl, se, sm, so, sr, sc⟩ := x
    simp only [schBad]
    go_enter Tryz.func107, Tryz.ntmps107
    go_wp2_with (go_at_call 103; refine (H1.out _).mono ?_; rintro e w1 ⟨rfl, rfl⟩)
    all_goals
      go_ret
      refine ⟨ret_int ?_, (by repeat (first | exact Fr.refl _ _ | assumption | refine Fr.alloc ?_ _ | refine Fr.drew ?_ | refine Fr.drewN ?_ _ | refine Fr.setCell ?_ (.inr (by simp; try omega)) _))⟩
      simp_all <;> omega

set_option maxRecDepth 100000 in
set_option maxHeartbeats 2000000 in
theorem tSchema_any (x : Sch) (w : World) : Calls Tryz.prog 91 #[.agg x.enc.toArray] w fun e w' => e = .returned (.int .i64 (schMay x)) ∧ Fr N0 w w' := by
  have h1 := fun W => tPred_any x.pred W
  unfold Sch.enc
  unfold schMay
  obtain ⟨pb, hpb⟩ : ∃ b, predOk x.pred = b := ⟨_, rfl⟩
  simp only [hpb] at h1 ⊢
  have H1 := Lib.hid h1
  clear h1 hpb
  obtain ⟨sp, st, sl, se, sm, so, sr, sc⟩ := x
  simp only [schBad]
  cases pb
  all_goals
    go_enter Tryz.func91, Tryz.ntmps91
    go_wp2_with (go_at_call 105; refine (H1.out _).mono ?_; rintro e w1 ⟨rfl, hf1⟩; have hB1 := boxS_keep hf1 (boxS_new w _ _); have m1 := hB1.1; have HB := Lib.hid hB1.2.2; clear hB1)
    all_goals
      go_ret
      refine ⟨ret_int ?_, HB.out⟩
      simp_all <;> omega

noncomputable def tFits (s : Sch) (x : Wr) : Int :=
  if firstNZ [schMay s, trMay x] ≠ 0 then firstNZ [schMay s, trMay x] else if x.pred.toList ≠ s.pred.toList then 2 else if x.val.k ≠ s.ty then 42 else 0

theorem schMay_wf (s : Sch) : (Lit.int .i64 (schMay s)).wf = true := by
  unfold schMay; repeat' split
  all_goals decide
theorem trMay_wf (x : Wr) : (Lit.int .i64 (trMay x)).wf = true := by
  unfold trMay; repeat' split
  all_goals decide

/-- Two boxes that lie since a world. -/
abbrev BoxS2 (W0 : World) (B : Nat) (cs : Array Value) (C : Nat) (ds : Array Value) (W : World) : Prop := (∀ i, W.cell? ⟨B, i, none⟩ = cs[i]?) ∧ (∀ i, W.cell? ⟨C, i, none⟩ = ds[i]?) ∧ B < W.heap.size ∧ C < W.heap.size ∧ Fr N0 W0 W
theorem boxS2_keep {W0 : World} {B C : Nat} {cs ds : Array Value} {W W' : World} (hf : Fr N0 W W') (h : BoxS2 W0 B cs C ds W) : BoxS2 W0 B cs C ds W' :=
  ⟨fun i => (cell_same (p := ⟨B, i, none⟩) (hf.at id h.2.2.1)).trans (h.1 i), fun i => (cell_same (p := ⟨C, i, none⟩) (hf.at id h.2.2.2.1)).trans (h.2.1 i), Nat.lt_of_lt_of_le h.2.2.1 hf.size, Nat.lt_of_lt_of_le h.2.2.2.1 hf.size, h.2.2.2.2.then0 hf⟩
theorem boxS2_new (w : World) (cs ds : Array Value) (t u : TypeId) : BoxS2 w w.heap.size cs (w.heap.size + 1) ds ((w.alloc (.cells cs t)).alloc (.cells ds u)) := by
  have h1 := boxS_keep ((Fr.refl _ _).alloc (.cells ds u)) (boxS_new w cs t)
  have h2 := boxS_new (w.alloc (.cells cs t)) ds u
  rw [World.size_alloc] at h2
  exact ⟨h1.1, h2.1, h1.2.1, h2.2.1, h1.2.2⟩

set_option maxRecDepth 100000 in
set_option maxHeartbeats 2000000 in
theorem tFits_any (s : Sch) (x : Wr) (hx : x.wf) (w : World) : Calls Tryz.prog 145 #[.agg s.enc.toArray, .agg x.enc.toArray] w fun e w' => e = .returned (.int .i64 (tFits s x)) ∧ Fr N0 w w' := by
  have h1 := fun W => tSchema_any s W
  have h2 := fun W => tMay_any x hx W
  have hw1 := schMay_wf s; have hw2 := trMay_wf x
  unfold tFits
  obtain ⟨e1, he1⟩ : ∃ e, schMay s = e := ⟨_, rfl⟩
  obtain ⟨e2, he2⟩ : ∃ e, trMay x = e := ⟨_, rfl⟩
  simp only [he1] at h1 hw1 ⊢
  simp only [he2] at h2 hw2 ⊢
  have hcall := fun W => first_any _ _ _ _ (ints_two W e1 e2 hw1 hw2)
  obtain ⟨e3, he3⟩ : ∃ e, firstNZ [e1, e2] = e := ⟨_, rfl⟩
  simp only [he3] at hcall ⊢
  unfold Sch.enc Wr.enc
  unfold Sch.enc at h1
  unfold Wr.tenc at h2
  have H1 := Lib.hid h1; have H2 := Lib.hid h2; have HC := Lib.hid hcall
  clear h1 h2 he1 he2 he3 hcall hw1 hw2 hx
  obtain ⟨res, hres⟩ : ∃ r : Int, (if e3 ≠ 0 then e3 else if x.pred.toList ≠ s.pred.toList then 2 else if x.val.k ≠ s.ty then 42 else 0) = r := ⟨_, rfl⟩
  rw [hres]
  have HR := Lib.hid hres
  clear hres
  obtain ⟨sp, st, sl, se, sm, so, sr, sc⟩ := s
  obtain ⟨xd, xu, xp, vk, vb, vn, vs, vu⟩ := x
  go_enter Tryz.func145, Tryz.ntmps145
  go_wp2
  have hS := boxS2_new w #[Value.string sp, Value.int .u8 st, Value.bool sl, Value.bool se, Value.bool sm, Value.bool so, Value.bool sr, Value.bool sc] #[Value.bool xd, Value.int .u64 xu, Value.string xp, Value.int .u8 vk, Value.bool vb, Value.int .i64 vn, Value.string vs, Value.int .u64 vu] 32 61
  obtain ⟨W1, hW1⟩ : ∃ W, (w.alloc (.cells #[Value.string sp, Value.int .u8 st, Value.bool sl, Value.bool se, Value.bool sm, Value.bool so, Value.bool sr, Value.bool sc] 32)).alloc (.cells #[Value.bool xd, Value.int .u64 xu, Value.string xp, Value.int .u8 vk, Value.bool vb, Value.int .i64 vn, Value.string vs, Value.int .u64 vu] 61) = W := ⟨_, rfl⟩
  rw [hW1] at hS ⊢
  clear hW1
  go_region_held3 (BoxS2 w w.heap.size #[Value.string sp, Value.int .u8 st, Value.bool sl, Value.bool se, Value.bool sm, Value.bool so, Value.bool sr, Value.bool sc] (w.heap.size + 1) #[Value.bool xd, Value.int .u64 xu, Value.string xp, Value.int .u8 vk, Value.bool vb, Value.int .i64 vn, Value.string vs, Value.int .u64 vu])
    (first | exact hS | exact boxS2_keep ((Fr.refl _ _).drew) hS | exact boxS2_keep hf6 (by assumption) | exact boxS2_keep ((Fr.refl _ _).alloc _) (by assumption) | assumption) (first
      | (go_at_call 91; go_loud (refine (H1.out _).mono ?_); rintro e w1 ⟨rfl, hf6⟩)
      | (go_at_call 115; go_loud (refine (H2.out _).mono ?_); rintro e w2 ⟨rfl, hf6⟩)
      | (go_at_call 182; go_loud (refine (HC.out _).mono ?_); rintro e w3 ⟨rfl, rfl⟩))
  go_wp2
  all_goals
    go_ret
    refine ⟨ret_int ?_, by go_split_ands; assumption⟩
    have hres := HR.out
    simp_all

end Go.Proofs.YtefepfiijoafbaaGreat
