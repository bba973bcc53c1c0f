/- A shard's state as it lies. A shard's commands, as plain functions; ShardOrder's plain law. -/
import Derived.Test.YtefepfiijoafbaaGreatQCopy
import Derived.Test.YtefepfiijoafbaaGreatQFitE
namespace Go.Proofs.YtefepfiijoafbaaGreat
open Go.RowKit Go.Shelf Go.Maps
set_option linter.unusedVariables false
set_option linter.unusedSimpArgs false

theorem mkS_data (s : ByteArray) : mkS s.data.toList = s := by apply ByteArray.ext; simp [mkS]
theorem mkS_inj {a b : List UInt8} (h : mkS a = mkS b) : a = b := by
  have := congrArg ByteArray.data h
  simpa [mkS] using this
abbrev litU (x : Int) : Lit := .int .u64 x
/-- What the three maps say. -/
def viewL (f : ByteArray → Option PL) (pt : ByteArray → Nat) : Lit → Option Value
  | .string l => (f (mkS l)).map fun _ => .pointer (some ⟨pt (mkS l), 0, none⟩)
  | _ => none
def viewS (f : Int → Option (List Wr)) (sv : Int → Value) : Lit → Option Value
  | .int .u64 x => (f x).map fun _ => sv x
  | _ => none
def viewF (f : Int → Option Int) : Lit → Option Value
  | .int .u64 x => (f x).map fun c => .int .u64 c
  | _ => none
theorem viewL_at (f : ByteArray → Option PL) (pt : ByteArray → Nat) (p : ByteArray) : viewL f pt (litS p) = (f p).map fun _ => .pointer (some ⟨pt p, 0, none⟩) := by
  unfold litS; simp only [viewL, mkS_data]
theorem viewL_put {f : ByteArray → Option PL} {pt : ByteArray → Nat} {p : ByteArray} {l : PL} {q : Nat} : putF (viewL f pt) (litS p) (some (.pointer (some ⟨q, 0, none⟩))) = viewL (updB f p (some l)) (fun x => if x = p then q else pt x) := by
  funext kl
  by_cases h : kl = litS p
  · subst h; rw [putF_same, viewL_at, updB_same]; simp
  · rw [putF_other h]
    cases kl <;> try rfl
    rename_i s
    have hne : mkS s ≠ p := fun e => h (by rw [← e]; simp [litS, mkS])
    simp [viewL, updB, hne]
theorem viewL_del {f : ByteArray → Option PL} {pt : ByteArray → Nat} {p : ByteArray} : putF (viewL f pt) (litS p) none = viewL (updB f p none) pt := by
  funext kl
  by_cases h : kl = litS p
  · subst h; rw [putF_same, viewL_at, updB_same]; simp
  · rw [putF_other h]
    cases kl <;> try rfl
    rename_i s
    have hne : mkS s ≠ p := fun e => h (by rw [← e]; simp [litS, mkS])
    simp [viewL, updB, hne]
theorem viewS_at (f : Int → Option (List Wr)) (sv : Int → Value) (x : Int) : viewS f sv (litU x) = (f x).map fun _ => sv x := rfl
theorem viewS_put {f : Int → Option (List Wr)} {sv : Int → Value} {x : Int} {ws : List Wr} {v : Value} : putF (viewS f sv) (litU x) (some v) = viewS (updI f x (some ws)) (fun y => if y = x then v else sv y) := by
  funext kl
  by_cases h : kl = litU x
  · subst h; rw [putF_same, viewS_at, updI_same]; simp
  · rw [putF_other h]
    cases kl <;> try rfl
    rename_i k y
    cases k <;> try rfl
    have hne : y ≠ x := fun e => h (by rw [e])
    simp [viewS, updI_other hne, hne]
theorem viewS_del {f : Int → Option (List Wr)} {sv : Int → Value} {x : Int} : putF (viewS f sv) (litU x) none = viewS (updI f x none) sv := by
  funext kl
  by_cases h : kl = litU x
  · subst h; rw [putF_same, viewS_at, updI_same]; simp
  · rw [putF_other h]
    cases kl <;> try rfl
    rename_i k y
    cases k <;> try rfl
    have hne : y ≠ x := fun e => h (by rw [e])
    simp [viewS, updI_other hne]
theorem viewF_at (f : Int → Option Int) (x : Int) : viewF f (litU x) = (f x).map fun c => .int .u64 c := rfl
theorem viewF_put {f : Int → Option Int} {x c : Int} : putF (viewF f) (litU x) (some (.int .u64 c)) = viewF (updI f x (some c)) := by
  funext kl
  by_cases h : kl = litU x
  · subst h; rw [putF_same, viewF_at, updI_same]; rfl
  · rw [putF_other h]
    cases kl <;> try rfl
    rename_i k y
    cases k <;> try rfl
    have hne : y ≠ x := fun e => h (by rw [e])
    simp [viewF, updI_other hne]

/-- What a list, a state must be for the walks. -/
structure PL.Fine (l : PL) (p : ByteArray) (N : Nat) : Prop where
  ok : l.Ok
  pred : l.s.pred = p
  may : schMay l.s = 0
  twf : ∀ t ∈ l.times, (Lit.int .u64 t).wf = true
  times : l.times.length ≤ N
  commits : l.commits.length ≤ N
  writes : ∀ c ∈ l.commits, c.writes.length ≤ 256 ∧ ∀ x ∈ c.writes, x.wf
structure SS.Fine (s : SS) (N : Nat) : Prop where
  lists : ∀ p l, s.lists p = some l → l.Fine p N
  staged : ∀ x ws, s.staged x = some ws → (Lit.int .u64 x).wf = true ∧ ws.length ≤ 256 ∧ ∀ y ∈ ws, y.wf ∧ trMay y = 0
  finals : ∀ x c, s.finals x = some c → (Lit.int .u64 x).wf = true ∧ (Lit.int .u64 c).wf = true

/-- The blocks of a state. -/
structure StB where
  p : Nat
  mL : Nat
  mS : Nat
  mF : Nat
def StB.Not (t : StB) (k : Nat) : Prop := k ≠ t.p ∧ k ≠ t.mL ∧ k ≠ t.mS ∧ k ≠ t.mF
def StB.Cells (W : World) (t : StB) : Prop := W.heap[t.p]? = some (.cells #[.bool true, .map (some t.mL), .map (some t.mS), .map (some t.mF)] 122 (0, 0))
/-- Where its lists and its staged rows lie. -/
structure StM where
  RL : ByteArray → Nat → Prop
  pt : ByteArray → Nat
  sv : Int → Value
  sb : Int → Nat
def LiesL (W : World) (R : Nat → Prop) (t : StB) (m : StM) (f : ByteArray → Option PL) : Prop :=
  (∀ p l, f p = some l → IsPL W (m.RL p) (m.pt p) l) ∧ (∀ p k, m.RL p k → R k ∧ t.Not k) ∧ ∀ p q k, m.RL p k → m.RL q k → p = q
def LiesS (W : World) (R : Nat → Prop) (t : StB) (m : StM) (f : Int → Option (List Wr)) : Prop :=
  ∀ x ws, f x = some ws → Wrs W (m.sb x) (m.sv x) ws ∧ (0 < ws.length → R (m.sb x) ∧ t.Not (m.sb x) ∧ ∀ p, ¬ m.RL p (m.sb x))
structure StAt (W : World) (R : Nat → Prop) (t : StB) (m : StM) (s : SS) (N : Nat) : Prop where
  cells : t.Cells W
  inR : R t.p ∧ R t.mL ∧ R t.mS ∧ R t.mF
  apart : t.p ≠ t.mL ∧ t.p ≠ t.mS ∧ t.p ≠ t.mF ∧ t.mL ≠ t.mS ∧ t.mL ≠ t.mF ∧ t.mS ≠ t.mF
  mapL : MapF Tryz.prog 9 W t.mL N (viewL s.lists m.pt)
  mapS : MapF Tryz.prog 33 W t.mS N (viewS s.staged m.sv)
  mapF : MapF Tryz.prog 33 W t.mF N (viewF s.finals)
  lists : LiesL W R t m s.lists
  staged : LiesS W R t m s.staged
/-- A state that lies at p, all of it in blocks of R. -/
def IsState (W : World) (R : Nat → Prop) (p : Nat) (s : SS) (N : Nat) : Prop := ∃ t m, t.p = p ∧ StAt W R t m s N

theorem StAt.lt {W : World} {R : Nat → Prop} {t : StB} {m : StM} {s : SS} {N : Nat} (h : StAt W R t m s N) : t.p < W.heap.size ∧ t.mL < W.heap.size ∧ t.mS < W.heap.size ∧ t.mF < W.heap.size :=
  ⟨lt_of_block h.cells, h.mapL.lt, h.mapS.lt, h.mapF.lt⟩
theorem StAt.fr {W W' : World} {R T : Nat → Prop} {t : StB} {m : StM} {s : SS} {N : Nat} (h : StAt W R t m s N) (hf : Fr T W W') (hT : ∀ k, R k → ¬ T k) : StAt W' R t m s N where
  cells := (hf.at (k := t.p) (hT _ h.inR.1) (lt_of_block h.cells)).trans h.cells
  inR := h.inR
  apart := h.apart
  mapL := h.mapL.fr hf (hT _ h.inR.2.1)
  mapS := h.mapS.fr hf (hT _ h.inR.2.2.1)
  mapF := h.mapF.fr hf (hT _ h.inR.2.2.2)
  lists := ⟨fun p l hp => (h.lists.1 p l hp).fr hf fun k hk => hT k (h.lists.2.1 p k hk).1, h.lists.2⟩
  staged := fun x ws hx => ⟨rowsK_frT (enc := Wr.enc) (n := 8) (fun _ => rfl) (h.staged x ws hx).1 hf fun h0 => hT _ ((h.staged x ws hx).2 h0).1, (h.staged x ws hx).2⟩
theorem StAt.mono {W : World} {R R' : Nat → Prop} {t : StB} {m : StM} {s : SS} {N M : Nat} (h : StAt W R t m s N) (hR : ∀ k, R k → R' k) (hN : N ≤ M) : StAt W R' t m s M where
  cells := h.cells
  inR := ⟨hR _ h.inR.1, hR _ h.inR.2.1, hR _ h.inR.2.2.1, hR _ h.inR.2.2.2⟩
  apart := h.apart
  mapL := h.mapL.mono hN
  mapS := h.mapS.mono hN
  mapF := h.mapF.mono hN
  lists := ⟨h.lists.1, fun p k hk => ⟨hR _ (h.lists.2.1 p k hk).1, (h.lists.2.1 p k hk).2⟩, h.lists.2.2⟩
  staged := fun x ws hx => ⟨(h.staged x ws hx).1, fun h0 => ⟨hR _ ((h.staged x ws hx).2 h0).1, ((h.staged x ws hx).2 h0).2⟩⟩
theorem IsState.fr {W W' : World} {R T : Nat → Prop} {p : Nat} {s : SS} {N : Nat} (h : IsState W R p s N) (hf : Fr T W W') (hT : ∀ k, R k → ¬ T k) : IsState W' R p s N := by
  obtain ⟨t, m, e, h⟩ := h; exact ⟨t, m, e, h.fr hf hT⟩
theorem IsState.mono {W : World} {R R' : Nat → Prop} {p : Nat} {s : SS} {N M : Nat} (h : IsState W R p s N) (hR : ∀ k, R k → R' k) (hN : N ≤ M) : IsState W R' p s M := by
  obtain ⟨t, m, e, h⟩ := h; exact ⟨t, m, e, h.mono hR hN⟩
theorem PL.Fine.mono {l : PL} {p : ByteArray} {N M : Nat} (h : l.Fine p N) (hN : N ≤ M) : l.Fine p M := ⟨h.ok, h.pred, h.may, h.twf, Nat.le_trans h.times hN, Nat.le_trans h.commits hN, h.writes⟩
theorem SS.Fine.mono {s : SS} {N M : Nat} (h : s.Fine N) (hN : N ≤ M) : s.Fine M := ⟨fun p l e => (h.lists p l e).mono hN, h.staged, h.finals⟩
theorem predOk_size {p : ByteArray} (h : predOk p = true) : 0 < p.size ∧ p.size ≤ 64 := by
  have : predOkP p := by simpa [predOk] using h
  obtain ⟨h0, h1, -⟩ := this
  exact ⟨h0, h1⟩
theorem schMay_pred {s : Sch} (h : schMay s = 0) : predOk s.pred = true := by
  unfold schMay at h
  split at h
  · simp at h
  · simp_all
theorem trMay_pred {x : Wr} (h : trMay x = 0) : predOk x.pred = true := by
  unfold trMay at h
  split at h
  · simp at h
  · split at h
    · simp at h
    · simp_all
theorem PL.Fine.size' {l : PL} {p : ByteArray} {N : Nat} (h : l.Fine p N) : 0 < l.s.pred.size := (predOk_size (schMay_pred h.may)).1
theorem PL.Fine.size {l : PL} {p : ByteArray} {N : Nat} (h : l.Fine p N) : 0 < p.size ∧ p.size ≤ 64 := h.pred ▸ predOk_size (schMay_pred h.may)
end Go.Proofs.YtefepfiijoafbaaGreat
namespace Go.Proofs.YtefepfiijoafbaaGreat
set_option linter.unusedVariables false
set_option linter.unusedSimpArgs false

structure Op where
  kind : Int
  start : Int
  commit : Int
  ws : List Wr
  sch : Sch
  pred : ByteArray
  at_ : Int
  nt : Nat
  np : Nat
def Sch.zero : Sch := ⟨⟨#[]⟩, 0, false, false, false, false, false, false⟩
/-- May it be? (Of the first three kinds.) -/
def Op.ok (o : Op) : Prop :=
  o.pred.size = 0 ∧ o.at_ = 0 ∧ o.nt = 0 ∧ o.np = 0 ∧
  ((o.kind = 1 ∧ schMay o.sch = 0 ∧ o.start = 0 ∧ o.commit = 0 ∧ o.ws = []) ∨
   (o.kind = 2 ∧ 0 < o.start ∧ o.ws ≠ [] ∧ o.ws.length ≤ 256 ∧ (∀ y ∈ o.ws, trMay y = 0) ∧ o.commit = 0 ∧ o.sch = Sch.zero) ∨
   (o.kind = 3 ∧ 0 < o.start ∧ (o.commit = 0 ∨ o.start < o.commit) ∧ o.ws = [] ∧ o.sch = Sch.zero))
/-- What the kinds of its fields bear. -/
structure Op.wf (o : Op) : Prop where
  kind : (Lit.int .u8 o.kind).wf = true
  start : (Lit.int .u64 o.start).wf = true
  commit : (Lit.int .u64 o.commit).wf = true
  at_ : (Lit.int .u64 o.at_).wf = true
  ws : ∀ y ∈ o.ws, y.wf

open Classical in
noncomputable def sHold (s : SS) (c : Sch) : SS × Int :=
  match s.lists c.pred with
  | some l => (s, if l.s = c then 0 else 202)
  | none => ({ s with lists := updB s.lists c.pred (some { s := c }) }, 0)
noncomputable def stOne (s : SS) (y : Wr) : Int :=
  match s.lists y.pred with
  | none => 5
  | some l => tFits l.s y
open Classical in
noncomputable def sStage (s : SS) (start : Int) (ws : List Wr) : SS × Int :=
  match s.finals start with
  | some _ => (s, 210)
  | none =>
    match s.staged start with
    | some w => (s, if w = ws then 0 else 211)
    | none => if firstNZ (ws.map (stOne s)) = 0 then ({ s with staged := updI s.staged start (some ws) }, 0) else (s, firstNZ (ws.map (stOne s)))
def predsOf (ws : List Wr) : List ByteArray := normS (ws.map (·.pred))
open Classical in
/-- Apply, of the first three kinds. -/
noncomputable def sApply (s : SS) (o : Op) : SS × Int :=
  if ¬ o.ok then (s, 200)
  else if o.kind = 1 then sHold s o.sch
  else if o.kind = 2 then sStage s o.start o.ws
  else sFin predsOf s o.start o.commit

/-! ### They keep what must be -/
theorem sHold_ok {s : SS} {c : Sch} (h : s.Ok) : (sHold s c).1.Ok := by
  unfold sHold
  split
  · exact h
  · refine ⟨fun p l hl => ?_⟩
    simp only [updB] at hl
    split at hl
    · obtain rfl := Option.some.inj hl
      exact ⟨List.Pairwise.nil, List.Pairwise.nil, fun c hc => by cases hc⟩
    · exact h.lists p l hl
theorem sStage_ok {s : SS} {x : Int} {ws : List Wr} (h : s.Ok) : (sStage s x ws).1.Ok := by
  unfold sStage
  split
  · exact h
  · split
    · exact h
    · split
      · exact ⟨h.lists⟩
      · exact h
theorem sApply_ok {s : SS} {o : Op} (h : s.Ok) : (sApply s o).1.Ok := by
  unfold sApply
  split
  · exact h
  · split
    · exact sHold_ok h
    · split
      · exact sStage_ok h
      · exact sFin_ok _ h
theorem SS.Fine.toOk {s : SS} {N : Nat} (h : s.Fine N) : s.Ok := ⟨fun p l e => (h.lists p l e).ok⟩
theorem sHold_fine {s : SS} {c : Sch} {N : Nat} (h : s.Fine N) (hc : schMay c = 0) : (sHold s c).1.Fine N := by
  unfold sHold
  split
  · exact h
  · refine ⟨fun p l hl => ?_, h.staged, h.finals⟩
    simp only [updB] at hl
    split at hl
    · obtain rfl := Option.some.inj hl
      rename_i e
      exact ⟨⟨List.Pairwise.nil, List.Pairwise.nil, fun c hc => by cases hc⟩, e.symm, hc, (fun t ht => by cases ht), Nat.zero_le _, Nat.zero_le _, (fun c hc => by cases hc)⟩
    · exact h.lists p l hl
theorem sStage_fine {s : SS} {x : Int} {ws : List Wr} {N : Nat} (h : s.Fine N) (hx : (Lit.int .u64 x).wf = true) (hl : ws.length ≤ 256) (hw : ∀ y ∈ ws, y.wf ∧ trMay y = 0) : (sStage s x ws).1.Fine N := by
  unfold sStage
  split
  · exact h
  · split
    · exact h
    · split
      · refine ⟨h.lists, fun y us hy => ?_, h.finals⟩
        simp only [updI] at hy
        split at hy
        · obtain rfl := Option.some.inj hy
          rename_i e
          exact ⟨e ▸ hx, hl, hw⟩
        · exact h.staged y us hy
      · exact h
theorem insBy_length {α : Type} (key : α → Int) (a : α) : ∀ l : List α, (insBy key a l).length = l.length + 1
  | [] => rfl
  | x :: l => by
    unfold insBy
    split
    · simp
    · simp [insBy_length key a l]
theorem addIn_fine {l : PL} {p : ByteArray} {N : Nat} {c : Cm} (h : l.Fine p N) (hc : addErr l c = 0) (ht : (Lit.int .u64 c.time).wf = true) (hl : c.writes.length ≤ 256) (hw : ∀ y ∈ c.writes, y.wf) : (addIn l c).Fine p (N + 1) where
  ok := addIn_ok h.ok (addErr_new hc)
  pred := h.pred
  may := h.may
  twf := fun t ht' => (insBy_mem.1 ht').elim (fun e => e ▸ ht) (h.twf t)
  times := by show (insBy id c.time l.times).length ≤ _; rw [insBy_length]; have := h.times; omega
  commits := by show (insBy Cm.time c l.commits).length ≤ _; rw [insBy_length]; have := h.commits; omega
  writes := fun d hd => (insBy_mem.1 hd).elim (fun e => e ▸ ⟨hl, hw⟩) (h.writes d)
theorem sFin_fine {s : SS} {x c : Int} {N : Nat} (h : s.Fine N) (hx : (Lit.int .u64 x).wf = true) (hc : (Lit.int .u64 c).wf = true) : (sFin predsOf s x c).1.Fine (N + 1) := by
  have hN : N ≤ N + 1 := Nat.le_succ N
  have hst : ∀ y us, updI s.staged x none y = some us → (Lit.int .u64 y).wf = true ∧ us.length ≤ 256 ∧ ∀ z ∈ us, z.wf ∧ trMay z = 0 := fun y us hy => by
    unfold updI at hy
    split at hy
    · cases hy
    · exact h.staged y us hy
  have hfi : ∀ d, (Lit.int .u64 d).wf = true → ∀ y e, updI s.finals x (some d) y = some e → (Lit.int .u64 y).wf = true ∧ (Lit.int .u64 e).wf = true := fun d hd y e hy => by
    unfold updI at hy
    split at hy
    · rename_i e'; obtain rfl := Option.some.inj hy; exact ⟨e' ▸ hx, hd⟩
    · exact h.finals y e hy
  unfold sFin
  split
  · exact h.mono hN
  · split
    · exact ⟨fun p l hp => (h.lists p l hp).mono hN, hst, hfi 0 (by decide)⟩
    · split
      · exact h.mono hN
      · rename_i w hw
        split
        · rename_i he
          refine ⟨fun p l hl => ?_, hst, hfi c hc⟩
          unfold finIn at hl
          simp only at hl
          split at hl
          · rename_i hp
            obtain ⟨l0, h1, h2⟩ := finErr_mem predsOf he hp
            rw [h1] at hl
            obtain rfl := Option.some.inj hl
            obtain ⟨g1, g2, g3⟩ := h.staged x w hw
            exact addIn_fine (h.lists p l0 h1) h2 hc (Nat.le_trans (List.length_filter_le _ _) g2) fun y hy => (g3 y (List.mem_filter.1 hy).1).1
          · exact (h.lists p l hl).mono hN
        · exact h.mono hN
theorem sApply_fine {s : SS} {o : Op} {N : Nat} (h : s.Fine N) (ho : o.wf) : (sApply s o).1.Fine (N + 1) := by
  have hN : N ≤ N + 1 := Nat.le_succ N
  unfold sApply
  split
  · exact h.mono hN
  · rename_i hok
    obtain ⟨-, -, -, -, hk⟩ := Classical.not_not.1 hok
    split
    · rename_i hk1
      rcases hk with hk | hk | hk
      · exact (sHold_fine h hk.2.1).mono hN
      · omega
      · omega
    · split
      · rcases hk with hk | hk | hk
        · omega
        · exact (sStage_fine h ho.start hk.2.2.2.1 fun y hy => ⟨ho.ws y hy, hk.2.2.2.2.1 y hy⟩).mono hN
        · omega
      · exact sFin_fine h ho.start ho.commit

/-! ### Finals in whatever order -/
/-- Two finals of one run do not meet. -/
def ApartO (f g : Op) : Prop := f.kind = 3 ∧ g.kind = 3 ∧ (f.start ≠ 0 → g.start ≠ 0 → f.start ≠ g.start) ∧ (f.commit ≠ 0 → g.commit ≠ 0 → f.commit ≠ g.commit)
theorem ApartO.symm {f g : Op} (h : ApartO f g) : ApartO g f := ⟨h.2.1, h.1, fun a b e => h.2.2.1 b a e.symm, fun a b e => h.2.2.2 b a e.symm⟩
noncomputable def stepO (s : SS) (o : Op) : SS := (sApply s o).1
theorem stepO_comm {s : SS} {f g : Op} (hs : s.Ok) (h : ApartO f g) : stepO (stepO s f) g = stepO (stepO s g) f := by
  unfold stepO sApply
  by_cases hf : f.ok
  · by_cases hg : g.ok
    · have e1 : ¬ f.kind = 1 := by rw [h.1]; decide
      have e2 : ¬ f.kind = 2 := by rw [h.1]; decide
      have e3 : ¬ g.kind = 1 := by rw [h.2.1]; decide
      have e4 : ¬ g.kind = 2 := by rw [h.2.1]; decide
      have z1 : f.start ≠ 0 := by
        rcases hf.2.2.2.2 with h' | h' | h'
        · exact absurd h'.1 e1
        · exact absurd h'.1 e2
        · omega
      have z2 : g.start ≠ 0 := by
        rcases hg.2.2.2.2 with h' | h' | h'
        · exact absurd h'.1 e3
        · exact absurd h'.1 e4
        · omega
      simp only [hf, hg, not_true_eq_false, if_false, e1, e2, e3, e4]
      exact sFin_comm predsOf (f := (f.start, f.commit)) (g := (g.start, g.commit)) hs ⟨h.2.2.1 z1 z2, h.2.2.2⟩
    · simp only [hg, not_false_eq_true, if_true]
  · simp only [hf, not_false_eq_true, if_true]
theorem fold_any {s : SS} (hs : s.Ok) {l m : List Op} (p : l.Perm m) (h : l.Pairwise ApartO) : l.foldl stepO s = m.foldl stepO s :=
  foldl_perm (f := stepO) (I := SS.Ok) (R := ApartO) (fun _ _ hb => sApply_ok hb) (fun _ _ _ hb hr => stepO_comm hb hr) (fun _ _ => ApartO.symm) p h s hs
/-- Which finals are run. -/
def updT (f : Int → Bool) (x : Int) (b : Bool) : Int → Bool := fun y => if y = x then b else f y
def keepsO (u : Int → Bool) (o : Op) : Bool := decide (o.kind = 3) && !u o.start && !u o.commit
def usedO (u : Int → Bool) (o : Op) : Int → Bool := if keepsO u o then updT (updT u o.start true) o.commit (decide (o.commit ≠ 0)) else u
def keepO (u : Int → Bool) : List Op → List Op
  | [] => []
  | o :: l => if keepsO u o then o :: keepO (usedO u o) l else keepO (usedO u o) l
theorem usedO_up {u : Int → Bool} {o : Op} {k : Int} (hk : k ≠ 0) (h : u k = true) : usedO u o k = true := by
  unfold usedO
  split
  · unfold updT
    split
    · rename_i e; simp; rw [← e]; exact hk
    · split <;> simp_all
  · exact h
theorem keepO_mem : ∀ {l : List Op} {u : Int → Bool} {o : Op}, o ∈ keepO u l → o.kind = 3 ∧ (o.start ≠ 0 → u o.start = false) ∧ (o.commit ≠ 0 → u o.commit = false)
  | [], u, o, h => by cases h
  | x :: l, u, o, h => by
    have tail : o ∈ keepO (usedO u x) l → o.kind = 3 ∧ (o.start ≠ 0 → u o.start = false) ∧ (o.commit ≠ 0 → u o.commit = false) := fun h => by
      obtain ⟨h1, h2, h3⟩ := keepO_mem h
      refine ⟨h1, fun h0 => ?_, fun h0 => ?_⟩
      · cases hu : u o.start with
        | false => rfl
        | true => have := h2 h0; rw [usedO_up h0 hu] at this; cases this
      · cases hu : u o.commit with
        | false => rfl
        | true => have := h3 h0; rw [usedO_up h0 hu] at this; cases this
    unfold keepO at h
    split at h
    · rename_i hk
      rcases List.mem_cons.1 h with rfl | h
      · unfold keepsO at hk
        simp only [Bool.and_eq_true, decide_eq_true_eq, Bool.not_eq_true'] at hk
        exact ⟨hk.1.1, fun _ => hk.1.2, fun _ => hk.2⟩
      · exact tail h
    · exact tail h
theorem keepO_apart : ∀ (l : List Op) (u : Int → Bool), (keepO u l).Pairwise ApartO
  | [], _ => List.Pairwise.nil
  | x :: l, u => by
    unfold keepO
    split
    · rename_i hk
      refine List.pairwise_cons.2 ⟨fun y hy => ?_, keepO_apart l _⟩
      obtain ⟨h1, h2, h3⟩ := keepO_mem hy
      have hu : usedO u x = updT (updT u x.start true) x.commit (decide (x.commit ≠ 0)) := by unfold usedO; rw [if_pos hk]
      rw [hu] at h2 h3
      unfold keepsO at hk
      simp only [Bool.and_eq_true, decide_eq_true_eq, Bool.not_eq_true'] at hk
      refine ⟨hk.1.1, h1, fun a b e => ?_, fun a b e => ?_⟩
      · have := h2 b
        rw [← e] at this
        unfold updT at this
        by_cases hc : x.start = x.commit
        · rw [if_pos hc] at this; simp at this; omega
        · rw [if_neg hc, if_pos rfl] at this; cases this
      · have := h3 b
        rw [← e] at this
        unfold updT at this
        rw [if_pos rfl] at this
        simp at this; omega
    · exact keepO_apart l _
theorem keepO_append : ∀ (l m : List Op) (u : Int → Bool), keepO u (l ++ m) = keepO u l ++ keepO (l.foldl usedO u) m
  | [], m, u => rfl
  | x :: l, m, u => by
    rw [List.cons_append, keepO, List.foldl_cons, keepO_append l m]
    conv => rhs; rw [keepO]
    split <;> simp
end Go.Proofs.YtefepfiijoafbaaGreat
