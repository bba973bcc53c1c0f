/- A shard's state as it lies. Add keeps a list fine. Values within their kinds' bounds. -/
import Derived.Test.YtefepfiijoafbaaGreatQCopy
import Derived.Test.YtefepfiijoafbaaGreatQFitE
import Derived.Test.YtefepfiijoafbaaGreatQBS
namespace Go.Proofs.YtefepfiijoafbaaGreat
open Go.RowKit Go.Shelf Go.Maps
set_option linter.unusedVariables false
set_option linter.unusedSimpArgs false

theorem mkS_data (s : ByteArray) : mkS s.data.toList = s := by apply ByteArray.ext; simp [mkS]
theorem mkS_inj {a b : List UInt8} (h : mkS a = mkS b) : a = b := by
  have := congrArg ByteArray.data h
  simpa [mkS] using this
abbrev litU (x : Int) : Lit := .int .u64 x
/-- What the three maps say. -/
def viewL (f : ByteArray → Option PL) (pt : ByteArray → Nat) : Lit → Option Value
  | .string l => (f (mkS l)).map fun _ => .pointer (some ⟨pt (mkS l), 0, none⟩)
  | _ => none
def viewS (f : Int → Option (List Wr)) (sv : Int → Value) : Lit → Option Value
  | .int .u64 x => (f x).map fun _ => sv x
  | _ => none
def viewF (f : Int → Option Int) : Lit → Option Value
  | .int .u64 x => (f x).map fun c => .int .u64 c
  | _ => none
theorem viewL_at (f : ByteArray → Option PL) (pt : ByteArray → Nat) (p : ByteArray) : viewL f pt (litS p) = (f p).map fun _ => .pointer (some ⟨pt p, 0, none⟩) := by
  unfold litS; simp only [viewL, mkS_data]
theorem viewL_put {f : ByteArray → Option PL} {pt : ByteArray → Nat} {p : ByteArray} {l : PL} {q : Nat} : putF (viewL f pt) (litS p) (some (.pointer (some ⟨q, 0, none⟩))) = viewL (updB f p (some l)) (fun x => if x = p then q else pt x) := by
  funext kl
  by_cases h : kl = litS p
  · subst h; rw [putF_same, viewL_at, updB_same]; simp
  · rw [putF_other h]
    cases kl <;> try rfl
    rename_i s
    have hne : mkS s ≠ p := fun e => h (by rw [← e]; simp [litS, mkS])
    simp [viewL, updB, hne]
theorem viewL_del {f : ByteArray → Option PL} {pt : ByteArray → Nat} {p : ByteArray} : putF (viewL f pt) (litS p) none = viewL (updB f p none) pt := by
  funext kl
  by_cases h : kl = litS p
  · subst h; rw [putF_same, viewL_at, updB_same]; simp
  · rw [putF_other h]
    cases kl <;> try rfl
    rename_i s
    have hne : mkS s ≠ p := fun e => h (by rw [← e]; simp [litS, mkS])
    simp [viewL, updB, hne]
theorem viewS_at (f : Int → Option (List Wr)) (sv : Int → Value) (x : Int) : viewS f sv (litU x) = (f x).map fun _ => sv x := rfl
theorem viewS_put {f : Int → Option (List Wr)} {sv : Int → Value} {x : Int} {ws : List Wr} {v : Value} : putF (viewS f sv) (litU x) (some v) = viewS (updI f x (some ws)) (fun y => if y = x then v else sv y) := by
  funext kl
  by_cases h : kl = litU x
  · subst h; rw [putF_same, viewS_at, updI_same]; simp
  · rw [putF_other h]
    cases kl <;> try rfl
    rename_i k y
    cases k <;> try rfl
    have hne : y ≠ x := fun e => h (by rw [e])
    simp [viewS, updI_other hne, hne]
theorem viewS_del {f : Int → Option (List Wr)} {sv : Int → Value} {x : Int} : putF (viewS f sv) (litU x) none = viewS (updI f x none) sv := by
  funext kl
  by_cases h : kl = litU x
  · subst h; rw [putF_same, viewS_at, updI_same]; simp
  · rw [putF_other h]
    cases kl <;> try rfl
    rename_i k y
    cases k <;> try rfl
    have hne : y ≠ x := fun e => h (by rw [e])
    simp [viewS, updI_other hne]
theorem viewF_at (f : Int → Option Int) (x : Int) : viewF f (litU x) = (f x).map fun c => .int .u64 c := rfl
theorem viewF_put {f : Int → Option Int} {x c : Int} : putF (viewF f) (litU x) (some (.int .u64 c)) = viewF (updI f x (some c)) := by
  funext kl
  by_cases h : kl = litU x
  · subst h; rw [putF_same, viewF_at, updI_same]; rfl
  · rw [putF_other h]
    cases kl <;> try rfl
    rename_i k y
    cases k <;> try rfl
    have hne : y ≠ x := fun e => h (by rw [e])
    simp [viewF, updI_other hne]

/-- What a list, a state must be for the walks. -/
structure PL.Fine (l : PL) (p : ByteArray) (N : Nat) : Prop where
  ok : l.Ok
  pred : l.s.pred = p
  may : schMay l.s = 0
  twf : ∀ t ∈ l.times, (Lit.int .u64 t).wf = true
  times : l.times.length ≤ N
  commits : l.commits.length ≤ N
  writes : ∀ c ∈ l.commits, c.writes.length ≤ 256 ∧ ∀ x ∈ c.writes, x.wf
structure SS.Fine (s : SS) (N : Nat) : Prop where
  lists : ∀ p l, s.lists p = some l → l.Fine p N
  staged : ∀ x ws, s.staged x = some ws → (Lit.int .u64 x).wf = true ∧ ws.length ≤ 256 ∧ ∀ y ∈ ws, y.wf ∧ trMay y = 0
  finals : ∀ x c, s.finals x = some c → (Lit.int .u64 x).wf = true ∧ (Lit.int .u64 c).wf = true

/-- The blocks of a state. -/
structure StB where
  p : Nat
  mL : Nat
  mS : Nat
  mF : Nat
def StB.Not (t : StB) (k : Nat) : Prop := k ≠ t.p ∧ k ≠ t.mL ∧ k ≠ t.mS ∧ k ≠ t.mF
def StB.Cells (W : World) (t : StB) : Prop := W.heap[t.p]? = some (.cells #[.bool true, .map (some t.mL), .map (some t.mS), .map (some t.mF)] 122 (0, 0))
/-- Where its lists and its staged rows lie. -/
structure StM where
  RL : ByteArray → Nat → Prop
  pt : ByteArray → Nat
  sv : Int → Value
  sb : Int → Nat
def LiesL (W : World) (R : Nat → Prop) (t : StB) (m : StM) (f : ByteArray → Option PL) : Prop :=
  (∀ p l, f p = some l → IsPL W (m.RL p) (m.pt p) l) ∧ (∀ p k, m.RL p k → R k ∧ t.Not k) ∧ ∀ p q k, m.RL p k → m.RL q k → p = q
def LiesS (W : World) (R : Nat → Prop) (t : StB) (m : StM) (f : Int → Option (List Wr)) : Prop :=
  ∀ x ws, f x = some ws → Wrs W (m.sb x) (m.sv x) ws ∧ (0 < ws.length → R (m.sb x) ∧ t.Not (m.sb x) ∧ ∀ p, ¬ m.RL p (m.sb x))
structure StAt (W : World) (R : Nat → Prop) (t : StB) (m : StM) (s : SS) (N : Nat) : Prop where
  cells : t.Cells W
  inR : R t.p ∧ R t.mL ∧ R t.mS ∧ R t.mF
  apart : t.p ≠ t.mL ∧ t.p ≠ t.mS ∧ t.p ≠ t.mF ∧ t.mL ≠ t.mS ∧ t.mL ≠ t.mF ∧ t.mS ≠ t.mF
  mapL : MapF Tryz.prog 9 W t.mL N (viewL s.lists m.pt)
  mapS : MapF Tryz.prog 33 W t.mS N (viewS s.staged m.sv)
  mapF : MapF Tryz.prog 33 W t.mF N (viewF s.finals)
  lists : LiesL W R t m s.lists
  staged : LiesS W R t m s.staged
/-- A state that lies at p, all of it in blocks of R. -/
def IsState (W : World) (R : Nat → Prop) (p : Nat) (s : SS) (N : Nat) : Prop := ∃ t m, t.p = p ∧ StAt W R t m s N

theorem StAt.lt {W : World} {R : Nat → Prop} {t : StB} {m : StM} {s : SS} {N : Nat} (h : StAt W R t m s N) : t.p < W.heap.size ∧ t.mL < W.heap.size ∧ t.mS < W.heap.size ∧ t.mF < W.heap.size :=
  ⟨lt_of_block h.cells, h.mapL.lt, h.mapS.lt, h.mapF.lt⟩
theorem StAt.fr {W W' : World} {R T : Nat → Prop} {t : StB} {m : StM} {s : SS} {N : Nat} (h : StAt W R t m s N) (hf : Fr T W W') (hT : ∀ k, R k → ¬ T k) : StAt W' R t m s N where
  cells := (hf.at (k := t.p) (hT _ h.inR.1) (lt_of_block h.cells)).trans h.cells
  inR := h.inR
  apart := h.apart
  mapL := h.mapL.fr hf (hT _ h.inR.2.1)
  mapS := h.mapS.fr hf (hT _ h.inR.2.2.1)
  mapF := h.mapF.fr hf (hT _ h.inR.2.2.2)
  lists := ⟨fun p l hp => (h.lists.1 p l hp).fr hf fun k hk => hT k (h.lists.2.1 p k hk).1, h.lists.2⟩
  staged := fun x ws hx => ⟨rowsK_frT (enc := Wr.enc) (n := 8) (fun _ => rfl) (h.staged x ws hx).1 hf fun h0 => hT _ ((h.staged x ws hx).2 h0).1, (h.staged x ws hx).2⟩
theorem StAt.mono {W : World} {R R' : Nat → Prop} {t : StB} {m : StM} {s : SS} {N M : Nat} (h : StAt W R t m s N) (hR : ∀ k, R k → R' k) (hN : N ≤ M) : StAt W R' t m s M where
  cells := h.cells
  inR := ⟨hR _ h.inR.1, hR _ h.inR.2.1, hR _ h.inR.2.2.1, hR _ h.inR.2.2.2⟩
  apart := h.apart
  mapL := h.mapL.mono hN
  mapS := h.mapS.mono hN
  mapF := h.mapF.mono hN
  lists := ⟨h.lists.1, fun p k hk => ⟨hR _ (h.lists.2.1 p k hk).1, (h.lists.2.1 p k hk).2⟩, h.lists.2.2⟩
  staged := fun x ws hx => ⟨(h.staged x ws hx).1, fun h0 => ⟨hR _ ((h.staged x ws hx).2 h0).1, ((h.staged x ws hx).2 h0).2⟩⟩
theorem IsState.fr {W W' : World} {R T : Nat → Prop} {p : Nat} {s : SS} {N : Nat} (h : IsState W R p s N) (hf : Fr T W W') (hT : ∀ k, R k → ¬ T k) : IsState W' R p s N := by
  obtain ⟨t, m, e, h⟩ := h; exact ⟨t, m, e, h.fr hf hT⟩
theorem IsState.mono {W : World} {R R' : Nat → Prop} {p : Nat} {s : SS} {N M : Nat} (h : IsState W R p s N) (hR : ∀ k, R k → R' k) (hN : N ≤ M) : IsState W R' p s M := by
  obtain ⟨t, m, e, h⟩ := h; exact ⟨t, m, e, h.mono hR hN⟩
theorem PL.Fine.mono {l : PL} {p : ByteArray} {N M : Nat} (h : l.Fine p N) (hN : N ≤ M) : l.Fine p M := ⟨h.ok, h.pred, h.may, h.twf, Nat.le_trans h.times hN, Nat.le_trans h.commits hN, h.writes⟩
theorem SS.Fine.mono {s : SS} {N M : Nat} (h : s.Fine N) (hN : N ≤ M) : s.Fine M := ⟨fun p l e => (h.lists p l e).mono hN, h.staged, h.finals⟩
theorem predOk_size {p : ByteArray} (h : predOk p = true) : 0 < p.size ∧ p.size ≤ 64 := by
  have : predOkP p := by simpa [predOk] using h
  obtain ⟨h0, h1, -⟩ := this
  exact ⟨h0, h1⟩
theorem schMay_pred {s : Sch} (h : schMay s = 0) : predOk s.pred = true := by
  unfold schMay at h
  split at h
  · simp at h
  · simp_all
theorem trMay_pred {x : Wr} (h : trMay x = 0) : predOk x.pred = true := by
  unfold trMay at h
  split at h
  · simp at h
  · split at h
    · simp at h
    · simp_all
theorem PL.Fine.size' {l : PL} {p : ByteArray} {N : Nat} (h : l.Fine p N) : 0 < l.s.pred.size := (predOk_size (schMay_pred h.may)).1
theorem PL.Fine.size {l : PL} {p : ByteArray} {N : Nat} (h : l.Fine p N) : 0 < p.size ∧ p.size ≤ 64 := h.pred ▸ predOk_size (schMay_pred h.may)
end Go.Proofs.YtefepfiijoafbaaGreat
namespace Go.Proofs.YtefepfiijoafbaaGreat
set_option linter.unusedVariables false
set_option linter.unusedSimpArgs false

theorem insBy_length {α : Type} (key : α → Int) (a : α) : ∀ l : List α, (insBy key a l).length = l.length + 1
  | [] => rfl
  | x :: l => by
    unfold insBy
    split
    · simp
    · simp [insBy_length key a l]
theorem addIn_fine {l : PL} {p : ByteArray} {N : Nat} {c : Cm} (h : l.Fine p N) (hc : addErr l c = 0) (ht : (Lit.int .u64 c.time).wf = true) (hl : c.writes.length ≤ 256) (hw : ∀ y ∈ c.writes, y.wf) : (addIn l c).Fine p (N + 1) where
  ok := addIn_ok h.ok (addErr_new hc)
  pred := h.pred
  may := h.may
  twf := fun t ht' => (insBy_mem.1 ht').elim (fun e => e ▸ ht) (h.twf t)
  times := by show (insBy id c.time l.times).length ≤ _; rw [insBy_length]; have := h.times; omega
  commits := by show (insBy Cm.time c l.commits).length ≤ _; rw [insBy_length]; have := h.commits; omega
  writes := fun d hd => (insBy_mem.1 hd).elim (fun e => e ▸ ⟨hl, hw⟩) (h.writes d)
end Go.Proofs.YtefepfiijoafbaaGreat
namespace Go.Proofs.YtefepfiijoafbaaGreat
open Go.RowKit Go.Shelf
set_option linter.unusedVariables false
set_option linter.unusedSimpArgs false
def Val.ok (v : Val) : Prop := (0 ≤ v.k ∧ v.k < 256) ∧ (-9223372036854775808 ≤ v.n ∧ v.n ≤ 9223372036854775807) ∧ 0 ≤ v.u ∧ v.u < 18446744073709551616
def Wr.ok (x : Wr) : Prop := (0 ≤ x.uid ∧ x.uid < 18446744073709551616) ∧ x.val.ok
theorem Wr.ok.wf {x : Wr} (h : x.ok) : x.wf := ⟨h.1.1, h.2.2.2.1, h.2.1.1⟩
end Go.Proofs.YtefepfiijoafbaaGreat
