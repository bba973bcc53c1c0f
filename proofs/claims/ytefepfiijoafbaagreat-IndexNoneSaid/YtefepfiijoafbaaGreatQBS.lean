/- A shard's state and its commands, as plain functions; finals in whatever order. slices.BinarySearch at uint64. -/
import Derived.Test.YtefepfiijoafbaaGreatQTrip
namespace Go.Proofs.YtefepfiijoafbaaGreat
set_option linter.unusedVariables false
set_option linter.unusedSimpArgs false

/-- A commit, a posting list. -/
structure Cm where
  time : Int
  writes : List Wr
structure PL where
  s : Sch
  marked : Int := 0
  times : List Int := []
  commits : List Cm := []

noncomputable def fitE (s : Sch) (x : Wr) : Int :=
  if schMay s ≠ 0 then schMay s else if trMay x ≠ 0 then trMay x else if x.pred ≠ s.pred then 2 else if x.val.k ≠ s.ty then 42 else 0
/-- Put in, rising. -/
def insBy {α : Type} (key : α → Int) (a : α) : List α → List α
  | [] => [a]
  | x :: l => if key a ≤ key x then a :: x :: l else x :: insBy key a l
def RisesBy {α : Type} (key : α → Int) (l : List α) : Prop := l.Pairwise fun x y => key x < key y
theorem insBy_mem {α : Type} {key : α → Int} {a x : α} : ∀ {l : List α}, x ∈ insBy key a l ↔ x = a ∨ x ∈ l
  | [] => by simp [insBy]
  | y :: l => by
    unfold insBy
    split
    · simp
    · rw [List.mem_cons, insBy_mem, List.mem_cons]
      constructor
      · rintro (h | h | h) <;> simp [h]
      · rintro (h | h | h) <;> simp [h]
theorem insBy_rises {α : Type} {key : α → Int} {a : α} : ∀ {l : List α}, RisesBy key l → (∀ x ∈ l, key x ≠ key a) → RisesBy key (insBy key a l)
  | [], _, _ => by simp [insBy, RisesBy]
  | y :: l, h, hn => by
    obtain ⟨h1, h2⟩ := List.pairwise_cons.1 h
    have hy := hn y (by simp)
    unfold insBy
    split
    · refine List.pairwise_cons.2 ⟨fun z hz => ?_, h⟩
      rcases List.mem_cons.1 hz with rfl | hz
      · omega
      · have := h1 z hz; omega
    · refine List.pairwise_cons.2 ⟨fun z hz => ?_, insBy_rises h2 fun x hx => hn x (by simp [hx])⟩
      rcases insBy_mem.1 hz with rfl | hz
      · omega
      · exact h1 z hz
theorem rises_unique {α : Type} {key : α → Int} : ∀ {l m : List α}, RisesBy key l → RisesBy key m → (∀ x, x ∈ l ↔ x ∈ m) → l = m
  | [], [], _, _, _ => rfl
  | [], y :: m, _, _, h => by have := (h y).2 (by simp); cases this
  | x :: l, [], _, _, h => by have := (h x).1 (by simp); cases this
  | x :: l, y :: m, hl, hm, h => by
    obtain ⟨l1, l2⟩ := List.pairwise_cons.1 hl
    obtain ⟨m1, m2⟩ := List.pairwise_cons.1 hm
    have e : x = y := by
      rcases List.mem_cons.1 ((h x).1 (by simp)) with e | hx
      · exact e
      · rcases List.mem_cons.1 ((h y).2 (by simp)) with e | hy
        · exact e.symm
        · have := l1 y hy; have := m1 x hx; omega
    subst e
    congr 1
    refine rises_unique l2 m2 fun z => ⟨fun hz => ?_, fun hz => ?_⟩
    · rcases List.mem_cons.1 ((h z).1 (by simp [hz])) with rfl | h'
      · have := l1 z hz; omega
      · exact h'
    · rcases List.mem_cons.1 ((h z).2 (by simp [hz])) with rfl | h'
      · have := m1 z hz; omega
      · exact h'
theorem insBy_comm {α : Type} {key : α → Int} {a b : α} {l : List α} (h : RisesBy key l) (ha : ∀ x ∈ l, key x ≠ key a) (hb : ∀ x ∈ l, key x ≠ key b) (hab : key a ≠ key b) : insBy key a (insBy key b l) = insBy key b (insBy key a l) :=
  rises_unique (insBy_rises (insBy_rises h hb) fun x hx => (insBy_mem.1 hx).elim (fun e => e ▸ fun e' => hab e'.symm) (ha x)) (insBy_rises (insBy_rises h ha) fun x hx => (insBy_mem.1 hx).elim (fun e => e ▸ hab) (hb x)) fun x => by
    rw [insBy_mem, insBy_mem, insBy_mem, insBy_mem]
    constructor
    · rintro (h | h | h) <;> simp [h]
    · rintro (h | h | h) <;> simp [h]

/-- A list that calls made. -/
structure PL.Ok (l : PL) : Prop where
  times : RisesBy id l.times
  commits : RisesBy Cm.time l.commits
  among : ∀ c ∈ l.commits, c.time ∈ l.times
/-- What a commit may not be. -/
noncomputable def addErr (l : PL) (c : Cm) : Int :=
  if c.time = 0 ∨ c.writes = [] ∨ 256 < c.writes.length then 180
  else if firstNZ (c.writes.map (fitE l.s)) ≠ 0 then firstNZ (c.writes.map (fitE l.s))
  else if c.time ≤ l.marked then 181 else if c.time ∈ l.times then 202 else 0
def addIn (l : PL) (c : Cm) : PL := { l with times := insBy id c.time l.times, commits := insBy Cm.time c l.commits }
noncomputable def addPL (l : PL) (c : Cm) : PL × Int := if addErr l c = 0 then (addIn l c, 0) else (l, addErr l c)
theorem addErr_new {l : PL} {c : Cm} (h : addErr l c = 0) : c.time ∉ l.times := by
  unfold addErr at h
  split at h
  · simp at h
  · split at h
    · rename_i h1 h2; exact absurd h h2
    · split at h
      · simp at h
      · split at h
        · simp at h
        · assumption
theorem addIn_ok {l : PL} {c : Cm} (h : l.Ok) (hc : c.time ∉ l.times) : (addIn l c).Ok where
  times := insBy_rises h.times fun x hx e => hc (by rw [show x = c.time from e] at hx; exact hx)
  commits := insBy_rises h.commits fun x hx e => hc (e ▸ h.among x hx)
  among := fun x hx => insBy_mem.2 ((insBy_mem.1 hx).elim (fun e => .inl (e ▸ rfl)) fun hx => .inr (h.among x hx))
theorem addIn_comm {l : PL} {c d : Cm} (h : l.Ok) (hc : c.time ∉ l.times) (hd : d.time ∉ l.times) (hcd : c.time ≠ d.time) : addIn (addIn l c) d = addIn (addIn l d) c := by
  unfold addIn
  simp only [PL.mk.injEq, true_and]
  exact ⟨insBy_comm h.times (fun x hx e => hd (by rw [show x = d.time from e] at hx; exact hx)) (fun x hx e => hc (by rw [show x = c.time from e] at hx; exact hx)) (fun e => hcd e.symm),
    insBy_comm h.commits (fun x hx e => hd (e ▸ h.among x hx)) (fun x hx e => hc (e ▸ h.among x hx)) (fun e => hcd e.symm)⟩
theorem addErr_in {l : PL} {c d : Cm} (hcd : c.time ≠ d.time) : addErr (addIn l d) c = addErr l c := by
  unfold addErr addIn
  simp only [insBy_mem]
  have : (c.time = d.time ∨ c.time ∈ l.times) = (c.time ∈ l.times) := by simp [hcd]
  simp only [this]

/-- A shard's state: at each predicate, at each start. -/
structure SS where
  lists : ByteArray → Option PL
  staged : Int → Option (List Wr)
  finals : Int → Option Int
structure SS.Ok (s : SS) : Prop where
  lists : ∀ p l, s.lists p = some l → l.Ok

section
variable (preds : List Wr → List ByteArray)
def ownW (w : List Wr) (p : ByteArray) : List Wr := w.filter fun x => decide (x.pred = p)
open Classical in
noncomputable def updB {α : Type} (f : ByteArray → Option α) (p : ByteArray) (v : Option α) : ByteArray → Option α := fun q => if q = p then v else f q
def updI {α : Type} (f : Int → Option α) (p : Int) (v : Option α) : Int → Option α := fun q => if q = p then v else f q
/-- Why a transaction cannot be committed in these lists. -/
noncomputable def finErr (s : SS) (w : List Wr) (c : Int) : Int :=
  if ∃ p ∈ preds w, s.lists p = none then 5 else firstNZ ((preds w).map fun p => ((s.lists p).map fun l => addErr l ⟨c, ownW w p⟩).getD 0)
open Classical in
noncomputable def finIn (s : SS) (start c : Int) (w : List Wr) : SS :=
  { lists := fun p => if p ∈ preds w then (s.lists p).map fun l => addIn l ⟨c, ownW w p⟩ else s.lists p, staged := updI s.staged start none, finals := updI s.finals start (some c) }
/-- final: the command, when it may be. -/
noncomputable def sFin (s : SS) (start c : Int) : SS × Int :=
  match s.finals start with
  | some d => (s, if d = c then 0 else 210)
  | none =>
    if c = 0 then ({ s with staged := updI s.staged start none, finals := updI s.finals start (some 0) }, 0)
    else match s.staged start with
      | none => (s, 211)
      | some w => if finErr preds s w c = 0 then (finIn preds s start c w, 0) else (s, finErr preds s w c)
/-- Two finals do not meet. -/
def Apart (f g : Int × Int) : Prop := f.1 ≠ g.1 ∧ (f.2 ≠ 0 → g.2 ≠ 0 → f.2 ≠ g.2)
theorem updB_same {α : Type} (f : ByteArray → Option α) (p : ByteArray) (v : Option α) : updB f p v p = v := if_pos rfl
theorem updI_same {α : Type} (f : Int → Option α) (p : Int) (v : Option α) : updI f p v p = v := if_pos rfl
theorem updI_other {α : Type} {f : Int → Option α} {p q : Int} {v : Option α} (h : q ≠ p) : updI f p v q = f q := if_neg h
theorem updI_comm {α : Type} {f : Int → Option α} {p q : Int} {u v : Option α} (h : p ≠ q) : updI (updI f p u) q v = updI (updI f q v) p u := by
  funext x
  unfold updI
  by_cases h1 : x = p
  · subst h1; simp [h]
  · by_cases h2 : x = q
    · subst h2; simp [h1]
    · simp [h1, h2]
theorem firstNZ_nil {l : List Int} (h : firstNZ l = 0) : ∀ x ∈ l, x = 0 := by
  induction l with
  | nil => simp
  | cons y l ih =>
    rw [firstNZ] at h
    split at h
    · rename_i hy
      intro x hx
      rcases List.mem_cons.1 hx with rfl | hx
      · exact hy
      · exact ih h x hx
    · rename_i hy; exact absurd h hy
theorem finErr_mem {s : SS} {w : List Wr} {c : Int} (h : finErr preds s w c = 0) {p : ByteArray} (hp : p ∈ preds w) : ∃ l, s.lists p = some l ∧ addErr l ⟨c, ownW w p⟩ = 0 := by
  unfold finErr at h
  split at h
  · simp at h
  · rename_i h1
    cases hl : s.lists p with
    | none => exact absurd ⟨p, hp, hl⟩ h1
    | some l =>
      refine ⟨l, rfl, ?_⟩
      have := firstNZ_nil h _ (List.mem_map.2 ⟨p, hp, rfl⟩)
      simpa [hl] using this
theorem finIn_ok {s : SS} {start c : Int} {w : List Wr} (hs : s.Ok) (h : finErr preds s w c = 0) : (finIn preds s start c w).Ok where
  lists := fun p l hl => by
    unfold finIn at hl
    simp only at hl
    split at hl
    · rename_i hp
      obtain ⟨l0, h1, h2⟩ := finErr_mem preds h hp
      rw [h1] at hl
      obtain rfl := Option.some.inj hl
      exact addIn_ok (hs.lists p l0 h1) (addErr_new h2)
    · exact hs.lists p l hl
theorem sFin_ok {s : SS} {start c : Int} (hs : s.Ok) : (sFin preds s start c).1.Ok := by
  unfold sFin
  split
  · exact hs
  · split
    · exact ⟨hs.lists⟩
    · split
      · exact hs
      · split
        · exact finIn_ok preds hs (by assumption)
        · exact hs
/-- Another final changes nothing in whether this one can be committed. -/
theorem finErr_in {s : SS} {st c d : Int} {w v : List Wr} (hcd : c ≠ d) : finErr preds (finIn preds s st d v) w c = finErr preds s w c := by
  have h1 : ∀ p, (finIn preds s st d v).lists p = none ↔ s.lists p = none := fun p => by
    unfold finIn
    simp only
    split <;> simp
  have h2 : ∀ p, (((finIn preds s st d v).lists p).map fun l => addErr l ⟨c, ownW w p⟩).getD 0 = ((s.lists p).map fun l => addErr l ⟨c, ownW w p⟩).getD 0 := fun p => by
    unfold finIn
    simp only
    split
    · cases hl : s.lists p with
      | none => simp
      | some l => simp only [Option.map_some, Option.getD_some]; exact addErr_in (c := ⟨c, ownW w p⟩) (d := ⟨d, ownW v p⟩) hcd
    · rfl
  unfold finErr
  simp only [h1, h2]
theorem finErr_st {s : SS} {w : List Wr} {c : Int} {a : Int → Option (List Wr)} {b : Int → Option Int} : finErr preds { s with staged := a, finals := b } w c = finErr preds s w c := rfl

/-- What a final does: nothing, it gives up, it commits. -/
inductive Kd where
  | nop
  | abort
  | commit (w : List Wr)
def Kd.Is (s : SS) (x e : Int) : Kd → Prop
  | .nop => s.finals x ≠ none ∨ (e ≠ 0 ∧ (s.staged x = none ∨ ∃ w, s.staged x = some w ∧ finErr preds s w e ≠ 0))
  | .abort => s.finals x = none ∧ e = 0
  | .commit w => s.finals x = none ∧ e ≠ 0 ∧ s.staged x = some w ∧ finErr preds s w e = 0
noncomputable def Kd.eff (s : SS) (x e : Int) : Kd → SS
  | .nop => s
  | .abort => { s with staged := updI s.staged x none, finals := updI s.finals x (some 0) }
  | .commit w => finIn preds s x e w
theorem kd_ex (s : SS) (x e : Int) : ∃ k : Kd, k.Is preds s x e ∧ (sFin preds s x e).1 = k.eff preds s x e := by
  unfold sFin
  cases hf : s.finals x with
  | some y => exact ⟨.nop, .inl (by simp [hf]), rfl⟩
  | none =>
    by_cases he : e = 0
    · exact ⟨.abort, ⟨hf, he⟩, by simp [he, Kd.eff]⟩
    · cases hw : s.staged x with
      | none => exact ⟨.nop, .inr ⟨he, .inl hw⟩, by simp [he, Kd.eff]⟩
      | some w =>
        by_cases hE : finErr preds s w e = 0
        · exact ⟨.commit w, ⟨hf, he, hw, hE⟩, by simp [he, hE, Kd.eff]⟩
        · exact ⟨.nop, .inr ⟨he, .inr ⟨w, hw, hE⟩⟩, by simp [he, hE, Kd.eff]⟩
theorem kd_eff {s : SS} {x e : Int} {k : Kd} (h : k.Is preds s x e) : (sFin preds s x e).1 = k.eff preds s x e := by
  unfold sFin
  cases k with
  | nop =>
    rcases h with h | ⟨h1, h2 | ⟨w, h2, h3⟩⟩
    · cases hf : s.finals x with
      | none => exact absurd hf h
      | some y => rfl
    · cases hf : s.finals x with
      | none => simp [h1, h2, Kd.eff]
      | some y => rfl
    · cases hf : s.finals x with
      | none => simp [h1, h2, h3, Kd.eff]
      | some y => rfl
  | abort =>
    obtain ⟨h1, h2⟩ := h
    simp [h1, h2, Kd.eff]
  | commit w =>
    obtain ⟨h1, h2, h3, h4⟩ := h
    simp [h1, h2, h3, h4, Kd.eff]
/-- Both look alike to a final. -/
def Alike (s t : SS) (x e : Int) : Prop := t.finals x = s.finals x ∧ t.staged x = s.staged x ∧ ∀ w, e ≠ 0 → finErr preds t w e = finErr preds s w e
theorem Kd.Is.alike {s t : SS} {x e : Int} {k : Kd} (ha : Alike preds s t x e) (h : k.Is preds s x e) : k.Is preds t x e := by
  obtain ⟨h1, h2, h3⟩ := ha
  cases k with
  | nop =>
    rcases h with h | ⟨h4, h5 | ⟨w, h5, h6⟩⟩
    · exact .inl (h1 ▸ h)
    · exact .inr ⟨h4, .inl (h2.trans h5)⟩
    · exact .inr ⟨h4, .inr ⟨w, h2.trans h5, by rw [h3 w h4]; exact h6⟩⟩
  | abort => exact ⟨h1.trans h.1, h.2⟩
  | commit w => exact ⟨h1.trans h.1, h.2.1, h2.trans h.2.2.1, by rw [h3 w h.2.1]; exact h.2.2.2⟩
theorem alike_eff {s : SS} {x e y d : Int} {k : Kd} (h : k.Is preds s x e) (hxy : x ≠ y) (hed : e ≠ 0 → d ≠ 0 → e ≠ d) : Alike preds s (k.eff preds s x e) y d := by
  have hyx : y ≠ x := fun e => hxy e.symm
  cases k with
  | nop => exact ⟨rfl, rfl, fun _ _ => rfl⟩
  | abort => exact ⟨updI_other hyx, updI_other hyx, fun _ _ => rfl⟩
  | commit w => exact ⟨updI_other hyx, updI_other hyx, fun v hd => finErr_in preds (fun e' => hed h.2.1 hd e'.symm)⟩
theorem ss_ext {s t : SS} (h1 : s.lists = t.lists) (h2 : s.staged = t.staged) (h3 : s.finals = t.finals) : s = t := by
  cases s; cases t; simp_all
theorem finIn_comm {s : SS} {a b c d : Int} {w v : List Wr} (hs : s.Ok) (hab : a ≠ b) (hcd : c ≠ d) (h1 : finErr preds s w c = 0) (h2 : finErr preds s v d = 0) :
    finIn preds (finIn preds s a c w) b d v = finIn preds (finIn preds s b d v) a c w := by
  refine ss_ext ?_ (updI_comm hab) (updI_comm hab)
  funext p
  unfold finIn
  simp only
  by_cases hw : p ∈ preds w
  · by_cases hv : p ∈ preds v
    · obtain ⟨l, e1, e2⟩ := finErr_mem preds h1 hw
      obtain ⟨l', e3, e4⟩ := finErr_mem preds h2 hv
      rw [e1] at e3
      obtain rfl := Option.some.inj e3
      simp only [if_pos hw, if_pos hv, e1, Option.map_some]
      rw [addIn_comm (hs.lists p l e1) (addErr_new e2) (addErr_new e4) hcd]
    · simp only [if_pos hw, if_neg hv]
  · by_cases hv : p ∈ preds v
    · simp only [if_neg hw, if_pos hv]
    · simp only [if_neg hw, if_neg hv]
theorem eff_comm {s : SS} {a b c d : Int} {k l : Kd} (hs : s.Ok) (hab : a ≠ b) (hcd : c ≠ 0 → d ≠ 0 → c ≠ d) (h1 : k.Is preds s a c) (h2 : l.Is preds s b d) :
    l.eff preds (k.eff preds s a c) b d = k.eff preds (l.eff preds s b d) a c := by
  cases k with
  | nop => rfl
  | abort =>
    cases l with
    | nop => rfl
    | abort => exact ss_ext rfl (updI_comm hab) (updI_comm hab)
    | commit v => exact ss_ext rfl (updI_comm hab) (updI_comm hab)
  | commit w =>
    cases l with
    | nop => rfl
    | abort => exact ss_ext rfl (updI_comm hab) (updI_comm hab)
    | commit v => exact finIn_comm preds hs hab (hcd h1.2.1 h2.2.1) h1.2.2.2 h2.2.2.2
theorem sFin_comm {s : SS} {f g : Int × Int} (hs : s.Ok) (h : Apart f g) : (sFin preds (sFin preds s f.1 f.2).1 g.1 g.2).1 = (sFin preds (sFin preds s g.1 g.2).1 f.1 f.2).1 := by
  obtain ⟨k, k1, k2⟩ := kd_ex preds s f.1 f.2
  obtain ⟨l, l1, l2⟩ := kd_ex preds s g.1 g.2
  have hgf : g.1 ≠ f.1 := fun e => h.1 e.symm
  rw [k2, l2, kd_eff preds (l1.alike preds (alike_eff preds k1 h.1 h.2)), kd_eff preds (k1.alike preds (alike_eff preds l1 hgf fun x y e => h.2 y x e.symm))]
  exact eff_comm preds hs h.1 h.2 k1 l1
end
/-- In whatever order. -/
theorem foldl_perm {α β : Type} {f : β → α → β} {I : β → Prop} {R : α → α → Prop} (hI : ∀ b a, I b → I (f b a)) (hc : ∀ b x y, I b → R x y → f (f b x) y = f (f b y) x) (hs : ∀ x y, R x y → R y x) {l m : List α} (p : l.Perm m) : l.Pairwise R → ∀ b, I b → l.foldl f b = m.foldl f b := by
  induction p with
  | nil => intro _ b _; rfl
  | cons x _ ih => intro h b hb; exact ih (List.pairwise_cons.1 h).2 _ (hI b x hb)
  | swap x y l =>
    intro h b hb
    obtain ⟨h1, -⟩ := List.pairwise_cons.1 h
    simp only [List.foldl_cons]
    rw [hc b y x hb (h1 x (by simp))]
  | trans p1 p2 ih1 ih2 =>
    intro h b hb
    rw [ih1 h b hb]
    exact ih2 ((p1.pairwise_iff (fun h => hs _ _ h)).1 h) b hb
end Go.Proofs.YtefepfiijoafbaaGreat
namespace Go.Proofs.YtefepfiijoafbaaGreat
open Go.RowKit Go.Shelf
attribute [local go_sem] Oper.semAt_some
set_option linter.unusedVariables false
set_option linter.unusedSimpArgs false

/-- How many at the front are below. -/
def posI {α : Type} (key : α → Int) (t : Int) (l : List α) : Nat := (l.takeWhile fun x => decide (key x < t)).length
theorem posI_le {α : Type} (key : α → Int) (t : Int) (l : List α) : posI key t l ≤ l.length := by
  unfold posI
  induction l with
  | nil => simp
  | cons x l ih => rw [List.takeWhile_cons]; split <;> simp <;> omega
theorem posI_at {α : Type} {key : α → Int} {t : Int} : ∀ {l : List α} {i : Nat}, i ≤ l.length → (∀ k (h : k < l.length), k < i → key l[k] < t) → (∀ k (h : k < l.length), i ≤ k → t ≤ key l[k]) → posI key t l = i
  | [], i, hi, _, _ => by simp at hi; subst hi; rfl
  | x :: l, 0, _, _, h2 => by
    have := h2 0 (by simp) (by omega)
    simp only [List.getElem_cons_zero] at this
    unfold posI
    rw [List.takeWhile_cons, if_neg (by simp; omega)]; rfl
  | x :: l, i + 1, hi, h1, h2 => by
    have h0 := h1 0 (by simp) (by omega)
    simp only [List.getElem_cons_zero] at h0
    have ih := posI_at (key := key) (t := t) (l := l) (i := i) (by simp at hi; omega) (fun k hk hki => by have := h1 (k + 1) (by simp; omega) (by omega); simpa using this) (fun k hk hki => by have := h2 (k + 1) (by simp; omega) (by omega); simpa using this)
    unfold posI at ih ⊢
    rw [List.takeWhile_cons, if_pos (by simpa using h0), List.length_cons, ih]
/-- Putting in is putting at that place. -/
theorem insBy_at {α : Type} (key : α → Int) (a : α) : ∀ l : List α, insBy key a l = l.take (posI key (key a) l) ++ a :: l.drop (posI key (key a) l)
  | [] => rfl
  | x :: l => by
    unfold insBy
    by_cases h : key a ≤ key x
    · rw [if_pos h]
      have : posI key (key a) (x :: l) = 0 := by unfold posI; rw [List.takeWhile_cons, if_neg (by simp; omega)]; rfl
      rw [this]; rfl
    · rw [if_neg h, insBy_at key a l]
      have : posI key (key a) (x :: l) = posI key (key a) l + 1 := by unfold posI; rw [List.takeWhile_cons, if_pos (by simp; omega), List.length_cons]
      rw [this]; simp
theorem pos_found {α : Type} {key : α → Int} {t : Int} {l : List α} {i : Nat} (hi : i < l.length) (h1 : ∀ k (h : k < l.length), k < i → key l[k] < t) (h2 : ∀ k (h : k < l.length), i ≤ k → t ≤ key l[k]) (hs : l.Pairwise fun x y => key x ≤ key y) : (∃ x ∈ l, key x = t) ↔ key l[i] = t := by
  constructor
  · rintro ⟨x, hx, hk⟩
    obtain ⟨j, hj, rfl⟩ := List.mem_iff_getElem.1 hx
    have h3 := h2 i hi (Nat.le_refl _)
    by_cases hji : j < i
    · have := h1 j hj hji; omega
    · by_cases e : j = i
      · subst e; exact hk
      · have := List.pairwise_iff_getElem.1 hs i j hi hj (by omega)
        omega
  · intro h; exact ⟨_, List.getElem_mem hi, h⟩

theorem isNaN4_any (x : Int) (w : World) : Calls Tryz.prog 192 #[.int .u64 x] w fun e w' => e = .returned (.bool false) ∧ w' = w := by
  go_enter Tryz.func192, Tryz.ntmps192
  go_wp2
  go_ret
  exact ⟨rfl, rfl⟩
theorem sNaN4_any (x : Int) (w : World) : Calls Tryz.prog 132 #[.int .u64 x] w fun e w' => e = .returned (.bool false) ∧ w' = w := by
  go_enter Tryz.func132, Tryz.ntmps132
  go_wp2
  go_ret
  exact ⟨rfl, rfl⟩
theorem less4_any (x y : Int) (w : World) : Calls Tryz.prog 131 #[.int .u64 x, .int .u64 y] w fun e w' => e = .returned (.bool (decide (x < y))) ∧ w' = w := by
  go_enter Tryz.func131, Tryz.ntmps131
  go_wp2_with (go_at_call 192; refine (isNaN4_any _ _).mono ?_; rintro e w' ⟨rfl, rfl⟩)
  go_ret
  exact ⟨by simp, rfl⟩

set_option maxRecDepth 100000 in
set_option maxHeartbeats 1000000 in
theorem bs_any (w : World) (b : Nat) (v : Value) (xs : List Int) (h : Ints .u64 w b v xs) (t : Int) (hs : xs.Pairwise (· ≤ ·)) (hl : xs.length ≤ 17592186044416) :
    Calls Tryz.prog 73 #[v, .int .u64 t] w fun e w' => e = .returned (.tuple #[.int .i64 (posI id t xs), .bool (decide (t ∈ xs))]) ∧ Fr N0 w w' := by
  obtain ⟨a, off, cap, rfl, h1, h2, h3, -, h5, -⟩ := h
  have HC := Lib.hid h5
  have HS := Lib.hid hs
  obtain ⟨P, hP⟩ : ∃ P : Nat × Bool, (posI id t xs, decide (t ∈ xs)) = P := ⟨_, rfl⟩
  have hPe : ∀ i, i ≤ xs.length → (∀ k (h : k < xs.length), k < i → xs[k] < t) → (∀ k (h : k < xs.length), i ≤ k → t ≤ xs[k]) → P.1 = i ∧ (∀ hi : i < xs.length, P.2 = decide (xs[i] = t)) ∧ (¬ i < xs.length → P.2 = false) := fun i hi g1 g2 => by
    have hp := posI_at (key := id) hi g1 g2
    have e1 := (congrArg Prod.fst hP).symm
    have e2 := (congrArg Prod.snd hP).symm
    simp only at e1 e2
    refine ⟨e1.trans hp, fun hi' => ?_, fun hn => ?_⟩
    · rw [e2]
      have := pos_found (key := id) (t := t) hi' g1 g2 hs
      simp only [id] at this
      rw [Bool.eq_iff_iff, decide_eq_true_eq, decide_eq_true_eq, ← this]
      exact ⟨fun h => ⟨t, h, rfl⟩, fun ⟨x, hx, e⟩ => e ▸ hx⟩
    · rw [e2, decide_eq_false_iff_not]
      intro hm
      obtain ⟨j, hj, rfl⟩ := List.mem_iff_getElem.1 hm
      have := g1 j hj (by omega)
      omega
  have HP := Lib.hid hPe
  show Calls _ _ _ _ fun e w' => e = .returned (.tuple #[.int .i64 ((posI id t xs, decide (t ∈ xs)).1 : Nat), .bool (posI id t xs, decide (t ∈ xs)).2]) ∧ Fr N0 w w'
  rw [hP]
  obtain ⟨p1, p2⟩ := P
  simp only at HP ⊢
  clear h5 hs hP hPe
  go_enter Tryz.func73, Tryz.ntmps73
  go_wp2
  go_loopw [7, 8] (fun si sj wr => ∃ (i j : Nat), i ≤ j ∧ j ≤ xs.length ∧ si = .int .i64 i ∧ sj = .int .i64 j ∧ (∀ k (h : k < xs.length), k < i → xs[k] < t) ∧ (∀ k (h : k < xs.length), j ≤ k → t ≤ xs[k]) ∧ Fr N0 w wr) (fun si sj _ => (intOf sj).toNat - (intOf si).toNat)
  case atStart => exact ⟨0, xs.length, Nat.zero_le _, Nat.le_refl _, by go_num, rfl, fun _ _ h => absurd h (by omega), fun _ h h' => absurd h (by omega), Fr.refl _ _⟩
  case round =>
    obtain ⟨i, j, hij, hjn, rfl, rfl, hlo, hhi, hfr⟩ := hrel
    by_cases hlt : i < j
    · obtain rfl := h3 (by omega)
      have hh1 : (i + j) / 2 < xs.length := by omega
      have e0 := hfr.cell (fun h => h) (HC.out _ hh1)
      obtain ⟨f, hf⟩ : ∃ f, xs[(i + j) / 2] = f := ⟨_, rfl⟩
      rw [hf] at e0
      have hlo' : f < t → ∀ k (h : k < xs.length), k < (i + j) / 2 + 1 → xs[k] < t := fun hft k hk hki => by
        by_cases e : k = (i + j) / 2
        · subst e; rw [hf]; exact hft
        · have := List.pairwise_iff_getElem.1 HS.out k ((i + j) / 2) hk hh1 (by omega); rw [hf] at this; omega
      have hhi' : ¬ f < t → ∀ k (h : k < xs.length), (i + j) / 2 ≤ k → t ≤ xs[k] := fun hft k hk hki => by
        by_cases e : k = (i + j) / 2
        · subst e; rw [hf]; omega
        · have := List.pairwise_iff_getElem.1 HS.out ((i + j) / 2) k hh1 hk (by omega); rw [hf] at this; omega
      have HLO := Lib.hid hlo; have HHI := Lib.hid hhi; have HLO' := Lib.hid hlo'; have HHI' := Lib.hid hhi'; have HFR := Lib.hid hfr
      clear hlo hhi hlo' hhi' hf hfr
      have i1 : (0 : Int) ≤ ((i : Int) + (j : Int)) / 2 := by omega
      have i2 : ((i : Int) + (j : Int)) / 2 < (xs.length : Int) := by omega
      have i3 : ((i : Int) + (j : Int)) / 2 < (j : Int) := by omega
      by_cases hft : f < t
      · go_wp2_with (go_at_call 131; refine (less4_any _ _ _).mono ?_; rintro e w1 ⟨rfl, rfl⟩)
        go_roundw
        case rel => exact ⟨(i + j) / 2 + 1, j, by omega, hjn, by go_num, rfl, HLO'.out hft, HHI.out, HFR.out⟩
        case measure => simp [intOf]; omega
      · go_wp2_with (go_at_call 131; refine (less4_any _ _ _).mono ?_; rintro e w1 ⟨rfl, rfl⟩)
        go_roundw
        case rel => exact ⟨i, (i + j) / 2, by omega, by omega, rfl, by go_num, HLO.out, HHI'.out hft, HFR.out⟩
        case measure => simp [intOf]; omega
    · obtain rfl : i = j := by omega
      obtain ⟨he, hp2, hp2'⟩ := HP.out i hjn hlo hhi
      subst he
      have HFR := Lib.hid hfr
      clear hlo hhi HP
      by_cases hin : p1 < xs.length
      · obtain rfl := h3 (by omega)
        have e0 := hfr.cell (fun h => h) (HC.out _ hin)
        have hp := hp2 hin
        obtain ⟨f, hf⟩ : ∃ f, xs[p1] = f := ⟨_, rfl⟩
        rw [hf] at e0 hp
        subst hp
        have i2 : (p1 : Int) < (xs.length : Int) := by omega
        clear hf hp2 hp2' hfr
        by_cases hft : f = t
        · subst hft
          go_wp2_with (go_at_call 132; refine (sNaN4_any _ _).mono ?_; rintro e w1 ⟨rfl, rfl⟩)
          go_ret2
          exact ⟨by simp, HFR.out⟩
        · go_wp2_with (go_at_call 132; refine (sNaN4_any _ _).mono ?_; rintro e w1 ⟨rfl, rfl⟩)
          go_ret2
          exact ⟨by simp [hft], HFR.out⟩
      · have hp := hp2' hin
        subst hp
        have i2 : ¬ (p1 : Int) < (xs.length : Int) := by omega
        clear hp2 hp2' hfr
        go_wp2
        go_ret2
        exact ⟨rfl, HFR.out⟩
end Go.Proofs.YtefepfiijoafbaaGreat
