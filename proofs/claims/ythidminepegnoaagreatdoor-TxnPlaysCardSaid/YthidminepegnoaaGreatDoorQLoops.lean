/- Transactions, routes, needs, what is sent: in Lean, and as they lie in memory. The document's answers as plain functions. Rows of structs: owned, read, cloned. append of a slice's elements, however it lies, to an owned row. What each step makes of a transaction: plain functions; a step's answer as it lies in memory. The law's arguments opened: a list of asks. Lists that rise; places in lists of numbers; two lists that are the same. -/
import Derived.Laws.AppendOwnNone
import Derived.Deep.Slices
import Derived.Test.YthidminepegnoaaGreatDoorQTClaims
namespace Go.Proofs.YthidminepegnoaaGreatDoor
open Go.RowKit Go.Shelf
set_option linter.unusedVariables false
set_option linter.unusedSimpArgs false

structure Rt where
  pred : ByteArray
  group : Int
  turn : Int
def Rt.enc (r : Rt) : List Value := [.string r.pred, .int .u32 r.group, .int .u64 r.turn]
abbrev Rts (w : World) (b : Nat) (v : Value) (xs : List Rt) : Prop := RowsK Rt.enc 3 w b v xs
theorem Rts.fr0 {w w' : World} {b : Nat} {v : Value} {xs : List Rt} (h : Rts w b v xs) (hf : Fr N0 w w') : Rts w' b v xs := RowsK.fr0 (enc := Rt.enc) (n := 3) (fun _ => rfl) h hf

structure Nd where
  pred : ByteArray
  turn : Int
def Nd.enc (r : Nd) : List Value := [.string r.pred, .int .u64 r.turn]
abbrev Nds (w : World) (b : Nat) (v : Value) (xs : List Nd) : Prop := RowsK Nd.enc 2 w b v xs
theorem Nds.fr0 {w w' : World} {b : Nat} {v : Value} {xs : List Nd} (h : Nds w b v xs) (hf : Fr N0 w w') : Nds w' b v xs := RowsK.fr0 (enc := Nd.enc) (n := 2) (fun _ => rfl) h hf

structure Tb where
  pred : ByteArray
  group : Int
  tto : Int
  at_ : Int
  turn : Int
def Tb.enc (r : Tb) : List Value := [.string r.pred, .int .u32 r.group, .int .u32 r.tto, .int .u64 r.at_, .int .u64 r.turn]
abbrev Tbs (w : World) (b : Nat) (v : Value) (xs : List Tb) : Prop := RowsK Tb.enc 5 w b v xs
theorem Tbs.fr0 {w w' : World} {b : Nat} {v : Value} {xs : List Tb} (h : Tbs w b v xs) (hf : Fr N0 w w') : Tbs w' b v xs := RowsK.fr0 (enc := Tb.enc) (n := 5) (fun _ => rfl) h hf

theorem RowsK.nil {α : Type} (enc : α → List Value) (n : Nat) (w : World) (b : Nat) : RowsK enc n w b (.slice none 0 0) [] := ⟨none, 0, 0, rfl, Nat.le_refl _, by omega, by simp, by simp, by simp⟩

structure Txn where
  phase : Int := 0
  start : Int := 0
  commit : Int := 0
  writes : List Wr := []
  keys : List ByteArray := []
  needs : List Rt := []
  groups : List Int := []
  left : List Int := []
  failed : Bool := false

/-- The five slices of a transaction, as they lie. -/
structure TxnIn (w : World) (vw vk vn vg vl : Value) (t : Txn) : Prop where
  ws : ∃ b, Wrs w b vw t.writes
  ks : ∃ b, Strs w b vk t.keys
  ns : ∃ b, Rts w b vn t.needs
  gs : ∃ b, Ints .u32 w b vg t.groups
  ls : ∃ b, Ints .u32 w b vl t.left
  n0 : t.needs = [] → vn = .slice none 0 0
def IsTxn (w : World) (v : Value) (t : Txn) : Prop :=
  ∃ vw vk vn vg vl, v = .agg #[.int .u8 t.phase, .int .u64 t.start, .int .u64 t.commit, vw, vk, vn, vg, vl, .bool t.failed] ∧ TxnIn w vw vk vn vg vl t
theorem TxnIn.fr0 {w w' : World} {vw vk vn vg vl : Value} {t : Txn} (h : TxnIn w vw vk vn vg vl t) (hf : Fr N0 w w') : TxnIn w' vw vk vn vg vl t :=
  ⟨h.ws.imp fun _ h => h.fr0 hf, h.ks.imp fun _ h => h.fr0 hf, h.ns.imp fun _ h => h.fr0 hf, h.gs.imp fun _ h => h.fr0 hf, h.ls.imp fun _ h => h.fr0 hf, h.n0⟩
theorem IsTxn.fr0 {w w' : World} {v : Value} {t : Txn} (h : IsTxn w v t) (hf : Fr N0 w w') : IsTxn w' v t := by
  obtain ⟨vw, vk, vn, vg, vl, rfl, h⟩ := h
  exact ⟨vw, vk, vn, vg, vl, rfl, h.fr0 hf⟩
theorem isTxn_zero (w : World) : IsTxn w (.agg #[.int .u8 0, .int .u64 0, .int .u64 0, .slice none 0 0, .slice none 0 0, .slice none 0 0, .slice none 0 0, .slice none 0 0, .bool false]) {} :=
  ⟨_, _, _, _, _, rfl, ⟨0, RowsK.nil _ _ _ _⟩, ⟨0, Strs.nil _ _⟩, ⟨0, RowsK.nil _ _ _ _⟩, ⟨0, Ints.nil _ _ _⟩, ⟨0, Ints.nil _ _ _⟩, fun _ => rfl⟩

/-! ### Groups: rising, each once -/

def RisesI (L : List Int) (P : Int → Prop) : Prop := L.Pairwise (· < ·) ∧ ∀ x, x ∈ L ↔ P x
theorem RisesI.unique : ∀ {a b : List Int} {P : Int → Prop}, RisesI a P → RisesI b P → a = b
  | [], [], _, _, _ => rfl
  | [], y :: b, P, ha, hb => absurd ((ha.2 y).2 ((hb.2 y).1 (by simp))) (by simp)
  | x :: a, [], P, ha, hb => absurd ((hb.2 x).2 ((ha.2 x).1 (by simp))) (by simp)
  | x :: a, y :: b, P, ha, hb => by
    have hxa := List.pairwise_cons.1 ha.1
    have hyb := List.pairwise_cons.1 hb.1
    have hxy : x = y := by
      have h1 : x ∈ y :: b := (hb.2 x).2 ((ha.2 x).1 (by simp))
      have h2 : y ∈ x :: a := (ha.2 y).2 ((hb.2 y).1 (by simp))
      rcases List.mem_cons.1 h1 with h1 | h1
      · exact h1
      · rcases List.mem_cons.1 h2 with h2 | h2
        · exact h2.symm
        · have := hyb.1 x h1; have := hxa.1 y h2; omega
    subst hxy
    have : a = b := RisesI.unique (P := fun z => P z ∧ z ≠ x) ⟨hxa.2, fun z => ⟨fun hz => ⟨(ha.2 z).1 (List.mem_cons_of_mem _ hz), fun e => by have := hxa.1 z hz; omega⟩, fun hz => by
        rcases List.mem_cons.1 ((ha.2 z).2 hz.1) with h | h
        · exact absurd h hz.2
        · exact h⟩⟩ ⟨hyb.2, fun z => ⟨fun hz => ⟨(hb.2 z).1 (List.mem_cons_of_mem _ hz), fun e => by have := hyb.1 z hz; omega⟩, fun hz => by
        rcases List.mem_cons.1 ((hb.2 z).2 hz.1) with h | h
        · exact absurd h hz.2
        · exact h⟩⟩
    rw [this]
/-- A number among others, rising, each once. -/
def putI : Int → List Int → List Int
  | x, [] => [x]
  | x, y :: l => if x < y then x :: y :: l else if x = y then y :: l else y :: putI x l
theorem putI_mem : ∀ (x : Int) (l : List Int) (z : Int), z ∈ putI x l ↔ z = x ∨ z ∈ l
  | x, [], z => by simp [putI]
  | x, y :: l, z => by
    unfold putI
    split
    · simp
    · split
      · rename_i h1 h2; subst h2; simp
      · rw [List.mem_cons, putI_mem x l z, List.mem_cons]; constructor
        · rintro (h | h | h) <;> simp [h]
        · rintro (h | h | h) <;> simp [h]
theorem putI_rises : ∀ (x : Int) {l : List Int}, l.Pairwise (· < ·) → (putI x l).Pairwise (· < ·)
  | x, [], _ => by simp [putI]
  | x, y :: l, h => by
    have h' := List.pairwise_cons.1 h
    unfold putI
    split
    · rename_i hx
      refine List.pairwise_cons.2 ⟨fun z hz => ?_, h⟩
      rcases List.mem_cons.1 hz with h1 | h1
      · omega
      · have := h'.1 z h1; omega
    · split
      · exact h
      · refine List.pairwise_cons.2 ⟨fun z hz => ?_, putI_rises x h'.2⟩
        rcases (putI_mem x l z).1 hz with h1 | h1
        · omega
        · exact h'.1 z h1
def normI (l : List Int) : List Int := l.foldl (fun a x => putI x a) []
theorem normI_snoc (l : List Int) (x : Int) : normI (l ++ [x]) = putI x (normI l) := by simp [normI, List.foldl_append]
theorem normI_rises (l : List Int) : RisesI (normI l) (· ∈ l) := by
  induction l using snocInd with
  | h0 => exact ⟨by simp [normI], by simp [normI]⟩
  | h1 l x ih =>
    rw [normI_snoc]
    refine ⟨putI_rises x ih.1, fun z => ?_⟩
    show z ∈ putI x (normI l) ↔ z ∈ l ++ [x]
    rw [putI_mem, ih.2 z, List.mem_append, List.mem_singleton]
    exact ⟨fun h => h.symm, fun h => h.symm⟩
theorem putI_length (x : Int) (l : List Int) : (putI x l).length ≤ l.length + 1 := by
  induction l with
  | nil => simp [putI]
  | cons y l ih =>
    unfold putI
    split
    · simp
    · split
      · simp
      · simp; omega
theorem normI_length (l : List Int) : (normI l).length ≤ l.length := by
  induction l using snocInd with
  | h0 => simp [normI]
  | h1 l x ih => rw [normI_snoc, List.length_append]; have := putI_length x (normI l); simp; omega

/-! ### Which transactions may be -/

def groupsOf (l : List Rt) : List Int := normI (l.map (·.group))
def predsOf (l : List Wr) : List ByteArray := normS (l.map (·.pred))
structure RoutesOk (t : Txn) : Prop where
  some_ : 0 < t.needs.length
  same : t.needs.map (·.pred) = predsOf t.writes
  good : ∀ r ∈ t.needs, r.group ≠ 0 ∧ r.turn ≠ 0
  groups : t.groups = groupsOf t.needs
  few : t.needs.length ≤ 256
def RisesS (l : List ByteArray) : Prop := ∀ i (h : i < l.length), 0 < i → l[i - 1].toList < l[i].toList

/-- P22.1, of transactions that a coordinator has (their texts short, their lists no longer than MaxWrites). -/
structure Inv (t : Txn) : Prop where
  phase : 1 ≤ t.phase ∧ t.phase ≤ 6
  start : t.start = 0 ↔ t.phase = 1
  few : t.writes.length ≤ 256
  keyed : t.keys = [] ↔ t.writes = []
  keys : RisesS t.keys
  may : ∀ x ∈ t.writes, trMay x = 0
  moving : t.phase = 3 ∨ t.phase = 4 ∨ t.phase = 5 → RoutesOk t
  still : t.phase ≠ 3 → t.phase ≠ 4 → t.phase ≠ 5 → t.needs = [] ∧ t.groups = []
  left : t.phase = 3 ∨ t.phase = 5 → t.left ≠ []
  none_ : t.phase ≠ 3 → t.phase ≠ 5 → t.left = []
  among : ∀ g ∈ t.left, g ∈ t.groups
  rises : t.left.Pairwise (· < ·)
  failed : t.phase ≠ 3 → t.phase ≠ 4 → t.failed = false
  new : t.phase = 1 → t.writes = [] ∧ t.commit = 0
  read : t.phase = 6 → t.writes = [] → t.commit = 0 ∨ t.commit = t.start
  ended : t.phase = 5 ∨ t.phase = 6 ∧ t.writes ≠ [] → t.commit = 0 ∨ t.start < t.commit
  open_ : t.phase = 2 ∨ t.phase = 3 ∨ t.phase = 4 → t.commit = 0
  ok : ∀ x ∈ t.writes, x.ok
  nums : (0 ≤ t.start ∧ t.start < 18446744073709551616) ∧ 0 ≤ t.commit ∧ t.commit < 18446744073709551616
  fewKeys : t.keys.length ≤ 256
  fewLeft : t.left.length ≤ 256
  rts : ∀ r ∈ t.needs, (0 ≤ r.group ∧ r.group < 4294967296) ∧ 0 ≤ r.turn ∧ r.turn < 18446744073709551616

/-! ### What is sent -/

structure Out where
  group : Int := 0
  okind : Int := 0
  n : Int := 0
  ostart : Int := 0
  okeys : List ByteArray := []
  oneeds : List Nd := []
  skind : Int := 0
  sstart : Int := 0
  scommit : Int := 0
  swrites : List Wr := []
/-- The same, its lists as values. -/
structure OutV where
  group : Int
  okind : Int
  n : Int
  ostart : Int
  vk : Value
  vn : Value
  skind : Int
  sstart : Int
  scommit : Int
  vw : Value
def OutV.enc (r : OutV) : List Value :=
  [.int .u32 r.group, .int .u8 r.okind, .int .u32 r.n, .int .u64 r.ostart, r.vk, r.vn, .string ⟨#[]⟩, .int .u32 0, .int .u32 0, .int .u64 0,
   .int .u8 r.skind, .int .u64 r.sstart, .int .u64 r.scommit, r.vw, .string ⟨#[]⟩, .int .u8 0, .bool false, .bool false, .bool false, .bool false, .bool false, .bool false, .string ⟨#[]⟩, .int .u64 0, .slice none 0 0, .slice none 0 0]
structure OutV.Is (w : World) (r : OutV) (o : Out) : Prop where
  nums : r.group = o.group ∧ r.okind = o.okind ∧ r.n = o.n ∧ r.ostart = o.ostart ∧ r.skind = o.skind ∧ r.sstart = o.sstart ∧ r.scommit = o.scommit
  ks : ∃ b, Strs w b r.vk o.okeys
  ns : ∃ b, Nds w b r.vn o.oneeds
  ws : ∃ b, Wrs w b r.vw o.swrites
theorem OutV.Is.fr0 {w w' : World} {r : OutV} {o : Out} (h : r.Is w o) (hf : Fr N0 w w') : r.Is w' o :=
  ⟨h.nums, h.ks.imp fun _ h => h.fr0 hf, h.ns.imp fun _ h => h.fr0 hf, h.ws.imp fun _ h => h.fr0 hf⟩
def Outs (w : World) (v : Value) (l : List Out) : Prop :=
  ∃ b rs, RowsK OutV.enc 26 w b v rs ∧ rs.length = l.length ∧ ∀ i (h : i < rs.length) (h' : i < l.length), rs[i].Is w l[i]
theorem Outs.fr0 {w w' : World} {v : Value} {l : List Out} (h : Outs w v l) (hf : Fr N0 w w') : Outs w' v l := by
  obtain ⟨b, rs, h1, h2, h3⟩ := h
  exact ⟨b, rs, RowsK.fr0 (enc := OutV.enc) (n := 26) (fun _ => rfl) h1 hf, h2, fun i h h' => (h3 i h h').fr0 hf⟩
theorem outs_nil (w : World) : Outs w (.slice none 0 0) [] := ⟨0, [], RowsK.nil _ _ _ _, rfl, fun i h => by simp at h⟩

/-- The writes of a group's predicates. -/
def ownOf (t : Txn) (g : Int) : List Wr := t.writes.filter fun x => t.needs.any fun r => decide (r.pred = x.pred) && decide (r.group = g)
def again (t : Txn) : List Out :=
  if t.phase = 1 then [{ okind := 1, n := 1 }]
  else if t.phase = 3 then t.left.map fun g => { group := g, skind := 2, sstart := t.start, swrites := ownOf t g }
  else if t.phase = 4 then [if t.failed then { okind := 4, ostart := t.start } else { okind := 3, ostart := t.start, okeys := t.keys, oneeds := t.needs.map fun r => ⟨r.pred, r.turn⟩ }]
  else if t.phase = 5 then t.left.map fun g => { group := g, skind := 3, sstart := t.start, scommit := t.commit }
  else []

end Go.Proofs.YthidminepegnoaaGreatDoor
namespace Go.Proofs.YthidminepegnoaaGreatDoor
open Go.RowKit Go.Shelf Go.Maps Go.Sort
attribute [local go_sem] Oper.semAt_some
set_option linter.unusedVariables false
set_option linter.unusedSimpArgs false

theorem flat_length {α : Type} {enc : α → List Value} {n : Nat} (hn : ∀ x, (enc x).length = n) : ∀ xs : List α, (xs.flatMap enc).length = xs.length * n
  | [] => by simp
  | x :: xs => by rw [List.flatMap_cons, List.length_append, hn, flat_length hn xs, List.length_cons, Nat.succ_mul, Nat.add_comm]
theorem flat_get {α : Type} {enc : α → List Value} {n : Nat} (hn : ∀ x, (enc x).length = n) : ∀ (xs : List α) (i : Nat) (h : i < xs.length) (c : Nat), c < n → (xs.flatMap enc)[i * n + c]? = (enc xs[i])[c]?
  | [], i, h, c, hc => by simp at h
  | x :: xs, 0, h, c, hc => by
    rw [List.flatMap_cons, Nat.zero_mul, Nat.zero_add, List.getElem?_append_left (by rw [hn]; exact hc)]; rfl
  | x :: xs, i + 1, h, c, hc => by
    rw [List.flatMap_cons, List.getElem?_append_right (by rw [hn, Nat.succ_mul]; omega), hn, show (i + 1) * n + c - n = i * n + c by rw [Nat.succ_mul]; omega]
    exact flat_get hn xs i (by simpa using h) c hc
theorem flat_snoc {α : Type} (enc : α → List Value) (xs : List α) (x : α) : (xs ++ [x]).flatMap enc = xs.flatMap enc ++ enc x := by simp
theorem rowsK_of_row {α : Type} {enc : α → List Value} {n : Nat} (hn : ∀ x, (enc x).length = n) (h0 : 0 < n) {w : World} {base : Nat} {e : TypeId} {v : Value} {xs : List α} (h : w.ownsRow base e n v xs.length (xs.flatMap enc)) :
    ∃ b, base ≤ b ∧ RowsK enc n w b v xs := by
  rcases h.2 with ⟨hv, h1⟩ | ⟨g, cap, cur, hv, hgb, hgg, hnc, hcm, hcs, htk⟩
  · have : xs = [] := List.eq_nil_of_length_eq_zero h1
    subst this; rw [hv]; exact ⟨base, Nat.le_refl _, RowsK.nil _ _ _ _⟩
  · refine ⟨g, hgb, some ⟨g, 0, none⟩, 0, cap, hv, hnc, by unfold maxLen at hcm; omega, fun _ => rfl, by simp, fun i hi c hc => ?_⟩
    have hlt : i * n + c < xs.length * n := by
      have : (i + 1) * n ≤ xs.length * n := Nat.mul_le_mul_right _ hi
      rw [Nat.succ_mul] at this; omega
    have h2 : (cur.toList.take (xs.length * n))[i * n + c]? = (xs.flatMap enc)[i * n + c]? := by rw [htk]
    rw [List.getElem?_take_of_lt hlt, flat_get hn xs i hi c hc] at h2
    rw [Nat.zero_add]
    simp only [World.cell?, hgg]
    simp only [Option.isSome_none, Bool.false_eq_true, if_false]
    rw [← Array.getElem?_toList, h2]
theorem addr_add (b o j : Nat) : (⟨b, o, none⟩ : Addr).add j = ⟨b, o + j, none⟩ := by unfold Addr.add; split <;> simp_all
theorem rows_news {α : Type} {enc : α → List Value} {n : Nat} (hn : ∀ x, (enc x).length = n) (h0 : 0 < n) {w : World} {b : Nat} {a : Addr} {len cap : Nat} {xs : List α} (h : RowsK enc n w b (.slice (some a) len cap) xs) : ∀ j u, (xs.flatMap enc)[j]? = some u → w.cell? (a.add j) = some u := by
  intro j u hu
  obtain ⟨a', off, cap', hv, h1, h2, h3, h4, h5⟩ := h
  simp only [Value.slice.injEq] at hv
  obtain ⟨rfl, rfl, rfl⟩ := hv
  have hj : j < xs.length * n := by
    rcases Nat.lt_or_ge j (xs.length * n) with hlt | hge
    · exact hlt
    · rw [List.getElem?_eq_none (by rw [flat_length hn]; exact hge)] at hu; cases hu
  have hpos : 0 < xs.length := by
    rcases Nat.eq_zero_or_pos xs.length with h | h
    · rw [h] at hj; simp at hj
    · exact h
  have := h3 hpos
  simp only [Option.some.injEq] at this
  subst this
  have hi : j / n < xs.length := Nat.div_lt_of_lt_mul (by rw [Nat.mul_comm]; exact hj)
  have hc : j % n < n := Nat.mod_lt _ h0
  have hjj : j / n * n + j % n = j := by rw [Nat.mul_comm]; exact Nat.div_add_mod j n
  have h6 := h5 (j / n) hi (j % n) hc
  have h7 := flat_get hn xs (j / n) hi (j % n) hc
  rw [hjj] at h7
  rw [addr_add, show off + j = off + j / n * n + j % n by omega, h6, ← h7, hu]
theorem one_cells {α : Type} {enc : α → List Value} (h : ∀ x, ∀ u ∈ enc x, u.oneCell' = true) (xs : List α) : ∀ u ∈ xs.flatMap enc, u.oneCell' = true := by
  intro u hu
  obtain ⟨x, _, hx⟩ := List.mem_flatMap.1 hu
  exact h x u hx

abbrev zeroWrV : Value := .agg #[.bool false, .int .u64 0, .string ⟨#[]⟩, .int .u8 0, .bool false, .int .i64 0, .string ⟨#[]⟩, .int .u64 0]
abbrev zeroRtV : Value := .agg #[.string ⟨#[]⟩, .int .u32 0, .int .u64 0]
theorem infoWr : (Tryz.prog.info? 65).map (fun i => (i.zero, i.size, i.bytes)) = some (some zeroWrV, 8, 72) := by kernel_rfl
theorem infoRt : (Tryz.prog.info? 92).map (fun i => (i.zero, i.size, i.bytes)) = some (some zeroRtV, 3, 32) := by kernel_rfl
theorem infoNd : (Tryz.prog.info? 97).map (fun i => (i.zero, i.size, i.bytes)) = some (some (.agg #[.string ⟨#[]⟩, .int .u64 0]), 2, 24) := by kernel_rfl
abbrev zeroOutV : Value := .agg #[.int .u32 0, .int .u8 0, .int .u32 0, .int .u64 0, .slice none 0 0, .slice none 0 0, .string ⟨#[]⟩, .int .u32 0, .int .u32 0, .int .u64 0,
   .int .u8 0, .int .u64 0, .int .u64 0, .slice none 0 0, .string ⟨#[]⟩, .int .u8 0, .bool false, .bool false, .bool false, .bool false, .bool false, .bool false, .string ⟨#[]⟩, .int .u64 0, .slice none 0 0, .slice none 0 0]
theorem infoOut : (Tryz.prog.info? 89).map (fun i => (i.zero, i.size, i.bytes)) = some (some zeroOutV, 26, 248) := by kernel_rfl
theorem wr_one : ∀ (x : Wr), ∀ u ∈ x.enc, u.oneCell' = true := by intro x u hu; simp [Wr.enc] at hu; rcases hu with h | h | h | h | h | h | h | h <;> subst h <;> rfl
theorem rt_one : ∀ (x : Rt), ∀ u ∈ x.enc, u.oneCell' = true := by intro x u hu; simp [Rt.enc] at hu; rcases hu with h | h | h <;> subst h <;> rfl

set_option maxRecDepth 100000 in
set_option maxHeartbeats 1000000 in
theorem cloneW_any (w : World) (b : Nat) (v : Value) (xs : List Wr) (h : Wrs w b v xs) (hl : xs.length ≤ 1000000) :
    Calls Tryz.prog 56 #[v] w fun e w' => ∃ v', e = .returned v' ∧ w'.ownsRow w.heap.size 65 8 v' xs.length (xs.flatMap Wr.enc) ∧ (v = .slice none 0 0 → v' = .slice none 0 0) ∧ Fr N0 w w' := by
  obtain ⟨i0, hi, hz0, hz1, hz2⟩ := info_parts infoWr
  have h' := h
  have hq := fun (w : World) a n c => Lib.run_eql_slice_nil (P := Tryz.prog) w 27 65 a n c 0 0 Tryz.underlying27
  obtain ⟨a, off, cap, rfl, h1, h2, h3, h4, h5⟩ := h
  cases a with
  | none =>
    have hc := h4 rfl
    subst hc
    obtain rfl : xs = [] := List.eq_nil_of_length_eq_zero (by omega)
    go_enter Tryz.func56, Tryz.ntmps56
    go_wp2
    go_ret
    exact ⟨_, rfl, World.ownsRow_nil _ _ _ _, by simp, Fr.refl _ _⟩
  | some a =>
    have hnews := rows_news (enc := Wr.enc) (n := 8) (fun _ => rfl) (by decide) h'
    clear h' h3 h4 h5
    have hnews' : ∀ (j : Nat) (u : Value), (xs.flatMap Wr.enc)[j]? = some u → (w.alloc (.cells #[] 65)).cell? (a.add j) = some u := fun j u hu =>
      ((Fr.refl N0 w).alloc _).cell (fun h => h) (hnews j u hu)
    have hown := World.ownsRow_lit (base := w.heap.size) (e := 65) (size := 8) w #[] 0 (Nat.le_refl _) (by simp [maxLen]) rfl
    have hlen : (xs.flatMap Wr.enc).length = xs.length * 8 := flat_length (enc := Wr.enc) (n := 8) (fun _ => rfl) xs
    have HN := Lib.hid hnews'; have HO := Lib.hid hown; have HL := Lib.hid hlen
    clear hnews hnews' hown hlen
    go_enter Tryz.func56, Tryz.ntmps56
    go_wp2_with (at_builtin; go_loud (refine wpList_append_own _ rfl _ _ 27 rfl w.heap.size 65 i0 zeroWrV 8 72 Tryz.underlying27 hi hz0 hz1 hz2 rfl (by decide) _ _ _ rfl HO.out a xs.length cap (xs.flatMap Wr.enc) rfl HL.out HN.out (one_cells wr_one xs) (by unfold maxLen; omega) (by omega) (by simp) ?_); intro v' w1 hown' hgrow _)
    go_ret
    refine ⟨v', rfl, by simpa using hown', ((Fr.refl _ _).alloc _).grown hgrow (fun k e => .inr ?_)⟩
    have e' : some w.heap.size = some k := e
    cases e'; exact Nat.le_refl _

set_option maxRecDepth 100000 in
set_option maxHeartbeats 1000000 in
theorem cloneR_any (w : World) (b : Nat) (v : Value) (xs : List Rt) (h : Rts w b v xs) (hl : xs.length ≤ 1000000) :
    Calls Tryz.prog 99 #[v] w fun e w' => ∃ v', e = .returned v' ∧ w'.ownsRow w.heap.size 92 3 v' xs.length (xs.flatMap Rt.enc) ∧ (v = .slice none 0 0 → v' = .slice none 0 0) ∧ Fr N0 w w' := by
  obtain ⟨i0, hi, hz0, hz1, hz2⟩ := info_parts infoRt
  have h' := h
  have hq := fun (w : World) a n c => Lib.run_eql_slice_nil (P := Tryz.prog) w 29 92 a n c 0 0 Tryz.underlying29
  obtain ⟨a, off, cap, rfl, h1, h2, h3, h4, h5⟩ := h
  cases a with
  | none =>
    have hc := h4 rfl
    subst hc
    obtain rfl : xs = [] := List.eq_nil_of_length_eq_zero (by omega)
    go_enter Tryz.func99, Tryz.ntmps99
    go_wp2
    go_ret
    exact ⟨_, rfl, World.ownsRow_nil _ _ _ _, by simp, Fr.refl _ _⟩
  | some a =>
    have hnews := rows_news (enc := Rt.enc) (n := 3) (fun _ => rfl) (by decide) h'
    clear h' h3 h4 h5
    have hnews' : ∀ (j : Nat) (u : Value), (xs.flatMap Rt.enc)[j]? = some u → (w.alloc (.cells #[] 92)).cell? (a.add j) = some u := fun j u hu =>
      ((Fr.refl N0 w).alloc _).cell (fun h => h) (hnews j u hu)
    have hown := World.ownsRow_lit (base := w.heap.size) (e := 92) (size := 3) w #[] 0 (Nat.le_refl _) (by simp [maxLen]) rfl
    have hlen : (xs.flatMap Rt.enc).length = xs.length * 3 := flat_length (enc := Rt.enc) (n := 3) (fun _ => rfl) xs
    have HN := Lib.hid hnews'; have HO := Lib.hid hown; have HL := Lib.hid hlen
    clear hnews hnews' hown hlen
    go_enter Tryz.func99, Tryz.ntmps99
    go_wp2_with (at_builtin; go_loud (refine wpList_append_own _ rfl _ _ 29 rfl w.heap.size 92 i0 zeroRtV 3 32 Tryz.underlying29 hi hz0 hz1 hz2 rfl (by decide) _ _ _ rfl HO.out a xs.length cap (xs.flatMap Rt.enc) rfl HL.out HN.out (one_cells rt_one xs) (by unfold maxLen; omega) (by omega) (by simp) ?_); intro v' w1 hown' hgrow _)
    go_ret
    refine ⟨v', rfl, by simpa using hown', ((Fr.refl _ _).alloc _).grown hgrow (fun k e => .inr ?_)⟩
    have e' : some w.heap.size = some k := e
    cases e'; exact Nat.le_refl _

end Go.Proofs.YthidminepegnoaaGreatDoor
namespace Go.Proofs.YthidminepegnoaaGreatDoor
open Go.RowKit Go.Shelf Go.Maps Go.Sort
set_option linter.unusedVariables false
set_option linter.unusedSimpArgs false

theorem news_of_rows {α : Type} {enc : α → List Value} {k : Nat} (hn : ∀ x, (enc x).length = k) (hk : 0 < k) {w : World} {b o : Nat} {ys : List α} (h : ∀ i (h : i < ys.length), ∀ c, c < k → w.cell? ⟨b, o + i * k + c, none⟩ = (enc ys[i])[c]?) :
    ∀ j u, (ys.flatMap enc)[j]? = some u → w.cell? ((⟨b, o, none⟩ : Addr).add j) = some u := fun j u hu => by
  have hadd : (⟨b, o, none⟩ : Addr).add j = ⟨b, o + j, none⟩ := by unfold Addr.add; split <;> simp_all
  have hj : j < (ys.flatMap enc).length := (List.getElem?_eq_some_iff.1 hu).1
  rw [flat_length hn] at hj
  have hi : j / k < ys.length := (Nat.div_lt_iff_lt_mul hk).2 hj
  have hc : j % k < k := Nat.mod_lt _ hk
  have hje : j / k * k + j % k = j := by rw [Nat.mul_comm]; exact Nat.div_add_mod j k
  have h2 := flat_get hn ys (j / k) hi (j % k) hc
  rw [hje] at h2
  rw [hadd, ← hu, h2, ← h (j / k) hi (j % k) hc, Nat.add_assoc, hje]
theorem run_append_rows {w : World} (t ty : TypeId) (base : Nat) (e : TypeId) (i : TypeInfo) (z : Value) (size bytes : Nat) (ht : Tryz.prog.underlying t = some (.slice e)) (hi : Tryz.prog.info? e = some i) (hz : i.zero = some z)
    (hsize : i.size = size) (hby : i.bytes = bytes) (hzs : z.cells.size = size) (hsz : 0 < size)
    (v : Value) (n : Nat) (xs : List Value) (hown : w.ownsRow base e size v n xs) {α : Type} {enc : α → List Value} (hn : ∀ x, (enc x).length = size) (h1 : ∀ y, ∀ u ∈ enc y, u.oneCell' = true)
    (b : Nat) (vs : Value) (ys : List α) (hys : RowsK enc size w b vs ys) (h63 : n + ys.length ≤ maxLen) (hbytes : (n + ys.length) * bytes ≤ 140737488355328) (hbase : base ≤ w.heap.size) :
    ∃ v' w', (Builtin.append_ #[t, t] ty #[v, vs]).run Tryz.prog w = .ok v' w' ∧ w'.ownsRow base e size v' (n + ys.length) (xs ++ ys.flatMap enc) ∧ w.grownBy w' v.ownBlock := by
  obtain ⟨a, off, cap, rfl, g1, g2, g3, g4, g5⟩ := hys
  cases a with
  | none =>
    have hc := g4 rfl
    subst hc
    obtain rfl : ys = [] := List.eq_nil_of_length_eq_zero (by omega)
    have hrun := run_append_owned_none (P := Tryz.prog) (w := w) base t ty e i size ht hi v n xs hown
    exact ⟨v, w, hrun, by simpa using hown, World.grownBy.refl _ _⟩
  | some a =>
    have hnews : ∀ j u, (ys.flatMap enc)[j]? = some u → w.cell? (a.add j) = some u := by
      by_cases h0 : 0 < ys.length
      · have := g3 h0
        simp only [Option.some.injEq] at this
        subst this
        exact news_of_rows hn hsz g5
      · obtain rfl : ys = [] := List.eq_nil_of_length_eq_zero (by omega)
        intro j u hu; simp at hu
    obtain ⟨v', w', hr, h2, h3, _, _⟩ := run_append_own_at (P := Tryz.prog) w base t ty e i z size bytes ht hi hz hsize hby hzs hsz v n xs hown a ys.length cap (ys.flatMap enc) (flat_length hn _) hnews (fun u hu => by
      obtain ⟨y, _, hy⟩ := List.mem_flatMap.1 hu
      exact h1 y u hy) h63 hbytes hbase
    exact ⟨v', w', hr, h2, h3⟩
theorem wp_append_rows {w : World} {o : Oper} {a : Act} {K : Act → World → Prop} {Q : Exit → Act → World → Prop} (s x : Operand) (t : TypeId) (ho : o.op = .call { callee := .builtin .append, args := #[s, x], argTypes := #[t, t] })
    (base : Nat) (e : TypeId) (i : TypeInfo) (z : Value) (size bytes : Nat) (ht : Tryz.prog.underlying t = some (.slice e)) (hi : Tryz.prog.info? e = some i) (hz : i.zero = some z)
    (hsize : i.size = size) (hby : i.bytes = bytes) (hzs : z.cells.size = size) (hsz : 0 < size)
    (v : Value) (n : Nat) (xs : List Value) (hs : a.eval s = v) (hown : w.ownsRow base e size v n xs) {α : Type} {enc : α → List Value} (hn : ∀ x, (enc x).length = size) (h1 : ∀ y, ∀ u ∈ enc y, u.oneCell' = true)
    (b : Nat) (vs : Value) (ys : List α) (hx : a.eval x = vs) (hys : RowsK enc size w b vs ys) (h63 : n + ys.length ≤ maxLen) (hbytes : (n + ys.length) * bytes ≤ 140737488355328) (hbase : base ≤ w.heap.size)
    (h : ∀ v' w', w'.ownsRow base e size v' (n + ys.length) (xs ++ ys.flatMap enc) → w.grownBy w' v.ownBlock → K (a.put o.dst v') w') : o.wp Tryz.prog a w K Q := by
  obtain ⟨v', w', hr, h2, h3⟩ := run_append_rows (w := w) t o.type base e i z size bytes ht hi hz hsize hby hzs hsz v n xs hown hn h1 b vs ys hys h63 hbytes hbase
  unfold Oper.wp execOp
  simp only [ho, resolve, invoke, builtin, Sem.run_bind, Sem.run_pure, Result.andThen_ok, List.map_toArray, List.map_cons, List.map_nil, hs, hx, hr]
  exact h v' w' h2 h3
theorem wpList_append_rows {w : World} {ops : Array Oper} {rest : List Oper} {o : Oper} {a : Act} {Q : Exit → Act → World → Prop} (hgd : o.guard = none) (s x : Operand) (t : TypeId) (ho : o.op = .call { callee := .builtin .append, args := #[s, x], argTypes := #[t, t] })
    (base : Nat) (e : TypeId) (i : TypeInfo) (z : Value) (size bytes : Nat) (ht : Tryz.prog.underlying t = some (.slice e)) (hi : Tryz.prog.info? e = some i) (hz : i.zero = some z)
    (hsize : i.size = size) (hby : i.bytes = bytes) (hzs : z.cells.size = size) (hsz : 0 < size)
    (v : Value) (n : Nat) (xs : List Value) (hs : a.eval s = v) (hown : w.ownsRow base e size v n xs) {α : Type} {enc : α → List Value} (hn : ∀ x, (enc x).length = size) (h1 : ∀ y, ∀ u ∈ enc y, u.oneCell' = true)
    (b : Nat) (vs : Value) (ys : List α) (hx : a.eval x = vs) (hys : RowsK enc size w b vs ys) (h63 : n + ys.length ≤ maxLen) (hbytes : (n + ys.length) * bytes ≤ 140737488355328) (hbase : base ≤ w.heap.size)
    (h : ∀ v' w', w'.ownsRow base e size v' (n + ys.length) (xs ++ ys.flatMap enc) → w.grownBy w' v.ownBlock → wpList Tryz.prog ops Q rest (a.put o.dst v') w') : wpList Tryz.prog ops Q (o :: rest) a w :=
  wpList_plain hgd fun _ hK => wp_append_rows s x t ho base e i z size bytes ht hi hz hsize hby hzs hsz v n xs hs hown hn h1 b vs ys hx hys h63 hbytes hbase fun v' w' h2 h3 => hK _ _ (h v' w' h2 h3)
theorem step_append_rows {w : World} {ops : Array Oper} {o : Oper} {a : Act} {K : Act → World → Prop} {Q : Exit → Act → World → Prop} {E : Prop} (hgd : o.guard = none) (s x : Operand) (t : TypeId) (ho : o.op = .call { callee := .builtin .append, args := #[s, x], argTypes := #[t, t] })
    (base : Nat) (e : TypeId) (i : TypeInfo) (z : Value) (size bytes : Nat) (ht : Tryz.prog.underlying t = some (.slice e)) (hi : Tryz.prog.info? e = some i) (hz : i.zero = some z)
    (hsize : i.size = size) (hby : i.bytes = bytes) (hzs : z.cells.size = size) (hsz : 0 < size)
    (v : Value) (n : Nat) (xs : List Value) (hs : a.eval s = v) (hown : w.ownsRow base e size v n xs) {α : Type} {enc : α → List Value} (hn : ∀ x, (enc x).length = size) (h1 : ∀ y, ∀ u ∈ enc y, u.oneCell' = true)
    (b : Nat) (vs : Value) (ys : List α) (hx : a.eval x = vs) (hys : RowsK enc size w b vs ys) (h63 : n + ys.length ≤ maxLen) (hbytes : (n + ys.length) * bytes ≤ 140737488355328) (hbase : base ≤ w.heap.size)
    (h : ∀ v' w', w'.ownsRow base e size v' (n + ys.length) (xs ++ ys.flatMap enc) → w.grownBy w' v.ownBlock → K (a.put o.dst v') w') :
    if Region.wanted o (yielded ops a.tmps) = true then Oper.wp Tryz.prog o a w K Q else E := by
  have hw : Region.wanted o (yielded ops a.tmps) = true := by simp [Region.wanted, hgd]
  rw [if_pos hw]
  exact wp_append_rows s x t ho base e i z size bytes ht hi hz hsize hby hzs hsz v n xs hs hown hn h1 b vs ys hx hys h63 hbytes hbase h
theorem sch_one : ∀ (y : Sch), ∀ u ∈ y.enc, u.oneCell' = true := fun y u hu => by
  unfold Sch.enc at hu
  simp only [List.mem_cons, List.not_mem_nil, or_false] at hu
  rcases hu with rfl | rfl | rfl | rfl | rfl | rfl | rfl | rfl <;> rfl

end Go.Proofs.YthidminepegnoaaGreatDoor
namespace Go.Proofs.YthidminepegnoaaGreatDoor
open Go.RowKit Go.Shelf
set_option linter.unusedVariables false
set_option linter.unusedSimpArgs false

/-- The oracle's answer. -/
structure An where
  code : Int
  first : Int
  commit : Int
  tab : Tb
def An.enc (a : An) : List Value := [.int .i64 a.code, .int .u64 a.first, .int .u64 a.commit, .string a.tab.pred, .int .u32 a.tab.group, .int .u32 a.tab.tto, .int .u64 a.tab.at_, .int .u64 a.tab.turn]

def sStarted (t : Txn) (a : An) : Txn × Int :=
  if t.phase ≠ 1 then ({}, 3) else if a.code ≠ 0 ∨ a.first = 0 then ({}, 2) else ({ phase := 2, start := a.first }, 0)
noncomputable def sWrite (t : Txn) (l : List Sch) (ws : List Wr) : Txn × Int :=
  if t.phase ≠ 2 then ({}, 3) else if 256 < t.writes.length + ws.length then ({}, 4) else if claimsErr l ws ≠ 0 then ({}, claimsErr l ws)
  else if claimsErr l (t.writes ++ ws) ≠ 0 then ({}, claimsErr l (t.writes ++ ws)) else ({ phase := 2, start := t.start, writes := t.writes ++ ws, keys := claimsKeys l (t.writes ++ ws) }, 0)
/-- A predicate's tablet, or why it cannot be written to now. -/
def tabErr (tbs : List Tb) (p : ByteArray) : Int :=
  match tbs.find? fun b => decide (b.pred = p) with
  | none => 5
  | some b => if b.group = 0 ∨ b.turn = 0 then 5 else if b.tto ≠ 0 then 7 else 0
def tabRt (tbs : List Tb) (p : ByteArray) : Rt :=
  match tbs.find? fun b => decide (b.pred = p) with
  | none => ⟨p, 0, 0⟩
  | some b => ⟨p, b.group, b.turn⟩
def sCommit (t : Txn) (tbs : List Tb) : Txn × Int :=
  if t.phase ≠ 2 then ({}, 3) else if t.writes = [] then ({ t with phase := 6, commit := t.start }, 0)
  else if firstNZ ((predsOf t.writes).map (tabErr tbs)) ≠ 0 then ({}, firstNZ ((predsOf t.writes).map (tabErr tbs)))
  else ({ t with phase := 3, needs := (predsOf t.writes).map (tabRt tbs), groups := groupsOf ((predsOf t.writes).map (tabRt tbs)), left := groupsOf ((predsOf t.writes).map (tabRt tbs)) }, 0)
def sStaged (t : Txn) (g code : Int) : Txn × Int :=
  if t.phase ≠ 3 then ({}, 3) else if g ∉ t.left then ({}, 5)
  else ({ t with left := t.left.erase g, failed := t.failed || decide (code ≠ 0), phase := if t.left.erase g = [] then 4 else 3 }, 0)
def sDecided (t : Txn) (a : An) : Txn × Int :=
  if t.phase ≠ 4 then ({}, 3) else if a.code ≠ 0 ∨ a.commit ≠ 0 ∧ a.commit ≤ t.start then ({}, 2)
  else ({ t with phase := 5, commit := a.commit, failed := false, left := t.groups }, 0)
def sFinaled (t : Txn) (g code : Int) : Txn × Int :=
  if t.phase ≠ 5 then ({}, 3) else if g ∉ t.left then ({}, 5) else if code ≠ 0 then (t, 0)
  else if t.left.erase g = [] then ({ phase := 6, start := t.start, commit := t.commit, writes := t.writes, keys := t.keys }, 0) else ({ t with left := t.left.erase g }, 0)
def sGive (t : Txn) : Txn × Int :=
  if t.phase = 2 then ({ t with phase := 6 }, 0) else if t.phase = 3 then ({ t with phase := 4, failed := true, left := [] }, 0) else ({}, 3)

/-- A step's answer. -/
def StepPost (w : World) (t : Txn) (outs : List Out) (err : Int) (e : Ending) (w' : World) : Prop :=
  ∃ v vo, e = .returned (.tuple #[v, vo, .int .i64 err]) ∧ IsTxn w' v t ∧ Outs w' vo outs ∧ Fr N0 w w'
/-- .. where nothing is sent, or nothing is told of it. -/
def StepPost2 (w : World) (t : Txn) (err : Int) (e : Ending) (w' : World) : Prop :=
  ∃ v, e = .returned (.tuple #[v, .int .i64 err]) ∧ IsTxn w' v t ∧ Fr N0 w w'

/-! ### Each step's transaction may be -/

theorem inv_begin : Inv { phase := 1 } where
  phase := by decide
  start := by decide
  few := by decide
  keyed := by decide
  keys := fun i h => by simp at h
  may := fun x h => by cases h
  moving := fun h => by simp at h
  still := fun _ _ _ => ⟨rfl, rfl⟩
  left := fun h => by simp at h
  none_ := fun _ _ => rfl
  among := fun g h => by cases h
  rises := List.Pairwise.nil
  failed := fun _ _ => rfl
  new := fun _ => ⟨rfl, rfl⟩
  read := fun h => by simp at h
  ended := fun h => by simp at h
  open_ := fun h => by simp at h
  ok := fun x h => by cases h
  nums := by decide
  fewKeys := by decide
  fewLeft := by decide
  rts := fun r h => by cases h
theorem inv_started {t : Txn} {a : An} (hr : 0 ≤ a.first ∧ a.first < 18446744073709551616) (h : (sStarted t a).2 = 0) : Inv (sStarted t a).1 := by
  unfold sStarted at h ⊢
  split at h
  · simp at h
  · split at h
    · simp at h
    · rename_i h1 h2
      rw [if_neg h1, if_neg h2]
      have h0 : a.first ≠ 0 := fun e => h2 (.inr e)
      show Inv { phase := 2, start := a.first }
      exact { phase := (by simp), start := ⟨fun e => absurd e h0, fun e => (by simp at e)⟩, few := (by simp), keyed := (by simp), keys := (fun i h => by simp at h), may := (fun x h => by cases h), moving := (fun h => by simp at h), still := fun _ _ _ => ⟨rfl, rfl⟩,
              left := (fun h => by simp at h), none_ := fun _ _ => rfl, among := (fun g h => by cases h), rises := List.Pairwise.nil, failed := fun _ _ => rfl, new := (fun h => by simp at h), read := (fun h => by simp at h), ended := (fun h => by simp at h), open_ := fun _ => rfl,
              ok := (fun x h => by cases h), nums := ⟨hr, (by simp)⟩, fewKeys := (by simp), fewLeft := (by simp), rts := (fun r h => by cases h) }
theorem inv_give {t : Txn} (hv : Inv t) (h : (sGive t).2 = 0) : Inv (sGive t).1 := by
  unfold sGive at h ⊢
  split at h
  · rename_i h2
    rw [if_pos h2]
    have hs := hv.still (by omega) (by omega) (by omega)
    have h0 := hv.open_ (.inl h2)
    show Inv { t with phase := 6 }
    exact { hv with phase := (by simp), start := ⟨fun e => absurd (hv.start.1 e) (by omega), fun e => (by simp at e)⟩, moving := (fun h => by simp at h), still := fun _ _ _ => hs, left := (fun h => by simp at h), none_ := fun _ _ => hv.none_ (by omega) (by omega), failed := fun _ _ => hv.failed (by omega) (by omega), new := (fun h => by simp at h), read := fun _ _ => .inl h0, ended := fun _ => .inl h0, open_ := (fun h => by simp at h) }
  · split at h
    · rename_i h2 h3
      rw [if_neg h2, if_pos h3]
      have hr := hv.moving (.inl h3)
      show Inv { t with phase := 4, failed := true, left := [] }
      exact { hv with phase := (by simp), start := ⟨fun e => absurd (hv.start.1 e) (by omega), fun e => (by simp at e)⟩, moving := fun _ => ⟨hr.some_, hr.same, hr.good, hr.groups, hr.few⟩, still := fun _ h _ => absurd rfl h, left := (fun h => by simp at h), none_ := fun _ _ => rfl, among := (fun g h => by cases h), rises := List.Pairwise.nil, failed := fun _ h => absurd rfl h, new := (fun h => by simp at h), read := (fun h => by simp at h), ended := (fun h => by simp at h), open_ := fun _ => hv.open_ (.inr (.inl h3)), fewLeft := (by simp) }
    · simp at h

end Go.Proofs.YthidminepegnoaaGreatDoor
namespace Go.Proofs.YthidminepegnoaaGreatDoor
open Go.RowKit Go.Shelf Go.Deep
set_option linter.unusedVariables false
set_option linter.unusedSimpArgs false
set_option maxRecDepth 100000

/-- What a step is done with. -/
structure Ak where
  an : An
  l : List Sch
  ws : List Wr
  tbs : List Tb
  group : Int
  code : Int
  pred : ByteArray
/-- .. as it lies: its three slices as values. -/
structure AkV where
  an : An
  vl : Value
  vw : Value
  vt : Value
  group : Int
  code : Int
  pred : ByteArray
instance : Inhabited AkV := ⟨⟨⟨0, 0, 0, ⟨⟨#[]⟩, 0, 0, 0, 0⟩⟩, .slice none 0 0, .slice none 0 0, .slice none 0 0, 0, 0, ⟨#[]⟩⟩⟩
def AkV.enc (a : AkV) : List Value := a.an.enc ++ [a.vl, a.vw, a.vt, .int .u32 a.group, .int .i64 a.code, .string a.pred]
def Tb.ok (b : Tb) : Prop := (0 ≤ b.group ∧ b.group < 4294967296) ∧ 0 ≤ b.turn ∧ b.turn < 18446744073709551616
def An.ok (a : An) : Prop := (0 ≤ a.first ∧ a.first < 18446744073709551616) ∧ 0 ≤ a.commit ∧ a.commit < 18446744073709551616
def Wr.fine (x : Wr) : Prop := x.ok ∧ x.pred.size ≤ maxLen
structure AkV.Is (w : World) (r : AkV) (a : Ak) : Prop where
  an : r.an = a.an ∧ r.group = a.group ∧ r.code = a.code ∧ r.pred = a.pred
  l : ∃ b, Schs w b r.vl a.l
  ws : ∃ b, Wrs w b r.vw a.ws
  tbs : ∃ b, Tbs w b r.vt a.tbs
  anOk : a.an.ok
  wsOk : ∀ x ∈ a.ws, x.fine
  tbsOk : ∀ x ∈ a.tbs, x.ok
  group : 0 ≤ a.group ∧ a.group < 4294967296
theorem AkV.Is.fr0 {w w' : World} {r : AkV} {a : Ak} (h : r.Is w a) (hf : Fr N0 w w') : r.Is w' a :=
  { an := h.an, l := h.l.imp fun _ h => h.fr0 hf, ws := h.ws.imp fun _ h => h.fr0 hf, tbs := h.tbs.imp fun _ h => h.fr0 hf, anOk := h.anOk, wsOk := h.wsOk, tbsOk := h.tbsOk, group := h.group }

theorem cell_spot {w : World} {a : Addr} {v : Value} (h : w.cell? a = some v) : a.spot = none := by
  unfold World.cell? at h
  split at h
  · split at h
    · cases h
    · rename_i h2; simpa using h2
  · cases h

section
variable {H : Type} {enc : TypeId × Value → H} {w : World} {base : Nat} {sp : Nat → Bool} {held : Bool}

theorem addr_add0 {b o k : Nat} : (⟨b, o, none⟩ : Addr).add k = ⟨b, o + k, none⟩ := by
  unfold Addr.add
  split
  · rename_i h; subst h; rfl
  · rfl
/-- A slice of whatever elements that bear a form of their own. -/
theorem open_rowsK {α : Type} [Inhabited α] {ec : α → List Value} {n : Nat} (hn : 0 < n) (hlen : ∀ x, (ec x).length = n) (Good : α → Prop) {t e : TypeId} (ht : Tryz.prog.underlying t = some (.slice e)) (hc : Tryz.prog.cellsOf e = n)
    (hel : ∀ fuel cs (x : DataW H × List MemPlace), DataW.trod enc Tryz.prog w base sp held fuel e cs = some x → ∃ a : α, cs = ec a ∧ Good a)
    {fuel : Nat} {cs : List Value} {x : DataW H × List MemPlace} (h : DataW.trod enc Tryz.prog w base sp held fuel t cs = some x) :
    ∃ b v xs, cs = [v] ∧ RowsK ec n w b v xs ∧ ∀ x ∈ xs, Good x := by
  rcases open_slice ht h with ⟨rfl, _⟩ | ⟨a, len, cap, m, k, D, Pl, rfl, hb, hl, hm, hmm, -, hx⟩
  · exact ⟨0, _, [], rfl, RowsK.nil _ _ _ _, by simp⟩
  · have hle : len ≤ m := by rw [hmm]; split <;> omega
    obtain ⟨A, hA⟩ := choose_lt (n := len) (p := fun i (a' : α) => w.cells? base (a.add (i * n)) n = some (ec a') ∧ Good a') (fun i hi => by
      obtain ⟨cs', h1, h2⟩ := hx i (by omega)
      obtain ⟨a', rfl, hg⟩ := hel _ _ _ h2
      rw [hc] at h1
      exact ⟨a', h1, hg⟩)
    have hsp : 0 < len → a.spot = none := fun h0 => by
      have h1 := (World.cells?_some (hA 0 h0).1).2.2 0 hn
      have h2 : 0 < (ec (A 0)).length := by rw [hlen]; exact hn
      rw [List.getElem?_eq_getElem h2] at h1
      have := cell_spot h1
      rw [Nat.zero_mul] at this
      simpa [Addr.add] using this
    refine ⟨a.block, _, (List.range len).map A, rfl, ⟨some a, a.off, cap, by simp, by simpa using hl, by unfold maxLen at hm; omega, fun h0 => ?_, by simp, fun i hi c hcn => ?_⟩, fun x hx' => ?_⟩
    · have := hsp (by simpa using h0)
      obtain ⟨b, o, s⟩ := a
      simp only at this
      rw [this]
    · have hi' : i < len := by simpa using hi
      have h1 := (World.cells?_some (hA i hi').1).2.2 c hcn
      have h2 := hsp (by omega)
      obtain ⟨b, o, s⟩ := a
      simp only at h2
      subst h2
      rw [addr_add0, addr_add0] at h1
      simpa using h1
    · obtain ⟨i, hi, rfl⟩ := List.mem_map.1 hx'
      exact (hA i (List.mem_range.1 hi)).2

/-- A struct's field. -/
theorem fld {fs : Array Field} {xs : List (DataW H × List MemPlace)} {cs : List Value} {n : Nat} (hlen : xs.length = fs.size)
    (hf : ∀ (i : Nat) (f : Field), fs[i]? = some f → DataW.trod enc Tryz.prog w base sp held n f.type ((cs.drop f.offset).take (Tryz.prog.cellsOf f.type)) = xs[i]?)
    {t : TypeId} {off c : Nat} (i : Nat) (hi : (fs[i]?).map (fun f => (f.type, f.offset)) = some (t, off)) (hc : Tryz.prog.cellsOf t = c) : ∃ y, DataW.trod enc Tryz.prog w base sp held n t ((cs.drop off).take c) = some y := by
  obtain ⟨f, h1, h2⟩ := Option.map_eq_some_iff.1 hi
  have h3 := hf i f h1
  have hlt : i < xs.length := by
    rw [hlen]
    exact (Array.getElem?_eq_some_iff.1 h1).1
  rw [List.getElem?_eq_getElem hlt] at h3
  obtain ⟨rfl, rfl⟩ := Prod.mk.inj h2
  subst hc
  exact ⟨_, h3⟩
theorem wf_kind {k : IntKind} {x a b : Int} (h : (Lit.int k x).wf = true) (ha : k.min = a) (hb : k.max = b) : a ≤ x ∧ x ≤ b := by
  have h' : (decide (k.min ≤ x) && decide (x ≤ k.max)) = true := h
  rw [Bool.and_eq_true, decide_eq_true_eq, decide_eq_true_eq, ha, hb] at h'
  exact h'
theorem wf_nat {x : Int} (h : (Lit.int .u64 x).wf = true) : 0 ≤ x ∧ x < 18446744073709551616 := by
  have := wf_kind (a := 0) (b := 18446744073709551615) h (by decide) (by decide); omega
theorem wf_u32' {x : Int} (h : (Lit.int .u32 x).wf = true) : 0 ≤ x ∧ x < 4294967296 := by
  have := wf_kind (a := 0) (b := 4294967295) h (by decide) (by decide); omega
theorem wf_u8' {x : Int} (h : (Lit.int .u8 x).wf = true) : 0 ≤ x ∧ x < 256 := by
  have := wf_kind (a := 0) (b := 255) h (by decide) (by decide); omega
theorem wf_i64' {x : Int} (h : (Lit.int .i64 x).wf = true) : -9223372036854775808 ≤ x ∧ x ≤ 9223372036854775807 := wf_kind h (by decide) (by decide)

theorem cells_str : Tryz.prog.cellsOf 9 = 1 := by kernel_rfl
theorem cells_bool : Tryz.prog.cellsOf 4 = 1 := by kernel_rfl
theorem cells_u64 : Tryz.prog.cellsOf 26 = 1 := by kernel_rfl
theorem cells_u32 : Tryz.prog.cellsOf 41 = 1 := by kernel_rfl
theorem cells_i64 : Tryz.prog.cellsOf 2 = 1 := by kernel_rfl
theorem cells_vkind : Tryz.prog.cellsOf 59 = 1 := by kernel_rfl
theorem cells_errno : Tryz.prog.cellsOf 40 = 1 := by kernel_rfl
theorem cells_Schema : Tryz.prog.cellsOf 72 = 8 := by kernel_rfl
theorem cells_Write : Tryz.prog.cellsOf 65 = 8 := by kernel_rfl
theorem cells_Triple : Tryz.prog.cellsOf 63 = 7 := by kernel_rfl
theorem cells_Value : Tryz.prog.cellsOf 61 = 5 := by kernel_rfl
theorem cells_Tablet : Tryz.prog.cellsOf 43 = 5 := by kernel_rfl
theorem cells_Answer : Tryz.prog.cellsOf 45 = 8 := by kernel_rfl
theorem cells_Ask : Tryz.prog.cellsOf 49 = 14 := by kernel_rfl
theorem cells_schemas : Tryz.prog.cellsOf 46 = 1 := by kernel_rfl
theorem cells_writes : Tryz.prog.cellsOf 27 = 1 := by kernel_rfl
theorem cells_tablets : Tryz.prog.cellsOf 47 = 1 := by kernel_rfl

theorem open_sch {fuel : Nat} {cs : List Value} {x : DataW H × List MemPlace} (h : DataW.trod enc Tryz.prog w base sp held fuel 72 cs = some x) : ∃ s : Sch, cs = s.enc ∧ True := by
  obtain ⟨xs, n, -, -, hl, hlen, hf⟩ := DataW.trod_struct Tryz.underlying72 h
  rw [cells_Schema] at hl
  match cs, hl with
  | [c0, c1, c2, c3, c4, c5, c6, c7], _ =>
    obtain ⟨_, g0⟩ := fld hlen hf 0 rfl cells_str
    obtain ⟨_, g1⟩ := fld hlen hf 1 rfl cells_vkind
    obtain ⟨_, g2⟩ := fld hlen hf 2 rfl cells_bool
    obtain ⟨_, g3⟩ := fld hlen hf 3 rfl cells_bool
    obtain ⟨_, g4⟩ := fld hlen hf 4 rfl cells_bool
    obtain ⟨_, g5⟩ := fld hlen hf 5 rfl cells_bool
    obtain ⟨_, g6⟩ := fld hlen hf 6 rfl cells_bool
    obtain ⟨_, g7⟩ := fld hlen hf 7 rfl cells_bool
    obtain ⟨s0, e0, -⟩ := DataW.trod_string Tryz.underlying9 g0
    obtain ⟨s1, e1, -⟩ := DataW.trod_int Tryz.underlying59 g1
    obtain ⟨s2, e2, -⟩ := DataW.trod_bool Tryz.underlying4 g2
    obtain ⟨s3, e3, -⟩ := DataW.trod_bool Tryz.underlying4 g3
    obtain ⟨s4, e4, -⟩ := DataW.trod_bool Tryz.underlying4 g4
    obtain ⟨s5, e5, -⟩ := DataW.trod_bool Tryz.underlying4 g5
    obtain ⟨s6, e6, -⟩ := DataW.trod_bool Tryz.underlying4 g6
    obtain ⟨s7, e7, -⟩ := DataW.trod_bool Tryz.underlying4 g7
    simp at e0 e1 e2 e3 e4 e5 e6 e7
    subst e0 e1 e2 e3 e4 e5 e6 e7
    exact ⟨⟨s0, s1, s2, s3, s4, s5, s6, s7⟩, rfl, trivial⟩
theorem open_wr {fuel : Nat} {cs : List Value} {x : DataW H × List MemPlace} (h : DataW.trod enc Tryz.prog w base sp held fuel 65 cs = some x) : ∃ s : Wr, cs = s.enc ∧ s.fine := by
  obtain ⟨xs, n, -, -, hl, hlen, hf⟩ := DataW.trod_struct Tryz.underlying65 h
  rw [cells_Write] at hl
  match cs, hl with
  | [c0, c1, c2, c3, c4, c5, c6, c7], _ =>
    obtain ⟨_, g0⟩ := fld hlen hf 0 rfl cells_bool
    obtain ⟨_, g1⟩ := fld hlen hf 1 rfl cells_Triple
    obtain ⟨xs2, n2, -, -, hl2, hlen2, hf2⟩ := DataW.trod_struct Tryz.underlying63 g1
    obtain ⟨_, t0⟩ := fld hlen2 hf2 0 rfl cells_u64
    obtain ⟨_, t1⟩ := fld hlen2 hf2 1 rfl cells_str
    obtain ⟨_, t2⟩ := fld hlen2 hf2 2 rfl cells_Value
    obtain ⟨xs3, n3, -, -, hl3, hlen3, hf3⟩ := DataW.trod_struct Tryz.underlying61 t2
    obtain ⟨_, v0⟩ := fld hlen3 hf3 0 rfl cells_vkind
    obtain ⟨_, v1⟩ := fld hlen3 hf3 1 rfl cells_bool
    obtain ⟨_, v2⟩ := fld hlen3 hf3 2 rfl cells_i64
    obtain ⟨_, v3⟩ := fld hlen3 hf3 3 rfl cells_str
    obtain ⟨_, v4⟩ := fld hlen3 hf3 4 rfl cells_u64
    obtain ⟨s0, e0, -⟩ := DataW.trod_bool Tryz.underlying4 g0
    obtain ⟨s1, e1, -, w1⟩ := DataW.trod_int Tryz.underlying26 t0
    obtain ⟨s2, e2, -, w2⟩ := DataW.trod_string Tryz.underlying9 t1
    obtain ⟨s3, e3, -, w3⟩ := DataW.trod_int Tryz.underlying59 v0
    obtain ⟨s4, e4, -⟩ := DataW.trod_bool Tryz.underlying4 v1
    obtain ⟨s5, e5, -, w5⟩ := DataW.trod_int Tryz.underlying2 v2
    obtain ⟨s6, e6, -⟩ := DataW.trod_string Tryz.underlying9 v3
    obtain ⟨s7, e7, -, w7⟩ := DataW.trod_int Tryz.underlying26 v4
    simp at e0 e1 e2 e3 e4 e5 e6 e7
    subst e0 e1 e2 e3 e4 e5 e6 e7
    exact ⟨⟨s0, s1, s2, ⟨s3, s4, s5, s6, s7⟩⟩, rfl, ⟨wf_nat w1, wf_u8' w3, wf_i64' w5, wf_nat w7⟩, w2⟩
theorem open_tb {fuel : Nat} {cs : List Value} {x : DataW H × List MemPlace} (h : DataW.trod enc Tryz.prog w base sp held fuel 43 cs = some x) : ∃ s : Tb, cs = s.enc ∧ s.ok := by
  obtain ⟨xs, n, -, -, hl, hlen, hf⟩ := DataW.trod_struct Tryz.underlying43 h
  rw [cells_Tablet] at hl
  match cs, hl with
  | [c0, c1, c2, c3, c4], _ =>
    obtain ⟨_, g0⟩ := fld hlen hf 0 rfl cells_str
    obtain ⟨_, g1⟩ := fld hlen hf 1 rfl cells_u32
    obtain ⟨_, g2⟩ := fld hlen hf 2 rfl cells_u32
    obtain ⟨_, g3⟩ := fld hlen hf 3 rfl cells_u64
    obtain ⟨_, g4⟩ := fld hlen hf 4 rfl cells_u64
    obtain ⟨s0, e0, -⟩ := DataW.trod_string Tryz.underlying9 g0
    obtain ⟨s1, e1, -, w1⟩ := DataW.trod_int Tryz.underlying41 g1
    obtain ⟨s2, e2, -, w2⟩ := DataW.trod_int Tryz.underlying41 g2
    obtain ⟨s3, e3, -, w3⟩ := DataW.trod_int Tryz.underlying26 g3
    obtain ⟨s4, e4, -, w4⟩ := DataW.trod_int Tryz.underlying26 g4
    simp at e0 e1 e2 e3 e4
    subst e0 e1 e2 e3 e4
    exact ⟨⟨s0, s1, s2, s3, s4⟩, rfl, wf_u32' w1, wf_nat w4⟩
theorem open_an {fuel : Nat} {cs : List Value} {x : DataW H × List MemPlace} (h : DataW.trod enc Tryz.prog w base sp held fuel 45 cs = some x) : ∃ s : An, cs = s.enc ∧ s.ok := by
  obtain ⟨xs, n, -, -, hl, hlen, hf⟩ := DataW.trod_struct Tryz.underlying45 h
  rw [cells_Answer] at hl
  match cs, hl with
  | [c0, c1, c2, c3, c4, c5, c6, c7], _ =>
    obtain ⟨_, g0⟩ := fld hlen hf 0 rfl cells_errno
    obtain ⟨_, g1⟩ := fld hlen hf 1 rfl cells_u64
    obtain ⟨_, g2⟩ := fld hlen hf 2 rfl cells_u64
    obtain ⟨_, g3⟩ := fld hlen hf 3 rfl cells_Tablet
    obtain ⟨s0, e0, -⟩ := DataW.trod_int Tryz.underlying40 g0
    obtain ⟨s1, e1, -, w1⟩ := DataW.trod_int Tryz.underlying26 g1
    obtain ⟨s2, e2, -, w2⟩ := DataW.trod_int Tryz.underlying26 g2
    obtain ⟨s3, e3, -⟩ := open_tb g3
    simp [Tb.enc] at e0 e1 e2 e3
    obtain ⟨e30, e31, e32, e33, e34⟩ := e3
    subst e0 e1 e2 e30 e31 e32 e33 e34
    exact ⟨⟨s0, s1, s2, s3⟩, rfl, wf_nat w1, wf_nat w2⟩
instance : Inhabited Sch := ⟨⟨⟨#[]⟩, 0, false, false, false, false, false, false⟩⟩
instance : Inhabited Wr := ⟨⟨false, 0, ⟨#[]⟩, ⟨0, false, 0, ⟨#[]⟩, 0⟩⟩⟩
instance : Inhabited Tb := ⟨⟨⟨#[]⟩, 0, 0, 0, 0⟩⟩
theorem open_ask {fuel : Nat} {cs : List Value} {x : DataW H × List MemPlace} (h : DataW.trod enc Tryz.prog w base sp held fuel 49 cs = some x) : ∃ r : AkV, cs = r.enc ∧ ∃ a : Ak, r.Is w a := by
  obtain ⟨xs, n, -, -, hl, hlen, hf⟩ := DataW.trod_struct Tryz.underlying49 h
  rw [cells_Ask] at hl
  match cs, hl with
  | [c0, c1, c2, c3, c4, c5, c6, c7, c8, c9, c10, c11, c12, c13], _ =>
    obtain ⟨_, g0⟩ := fld hlen hf 0 rfl cells_Answer
    obtain ⟨_, g1⟩ := fld hlen hf 1 rfl cells_schemas
    obtain ⟨_, g2⟩ := fld hlen hf 2 rfl cells_writes
    obtain ⟨_, g3⟩ := fld hlen hf 3 rfl cells_tablets
    obtain ⟨_, g4⟩ := fld hlen hf 4 rfl cells_u32
    obtain ⟨_, g5⟩ := fld hlen hf 5 rfl cells_errno
    obtain ⟨_, g6⟩ := fld hlen hf 6 rfl cells_str
    obtain ⟨an, e0, hok⟩ := open_an g0
    obtain ⟨b1, v1, l1, e1, r1, -⟩ := open_rowsK (n := 8) (by decide) (fun _ => rfl) (fun _ => True) Tryz.underlying46 cells_Schema (fun _ _ _ h => open_sch h) g1
    obtain ⟨b2, v2, l2, e2, r2, o2⟩ := open_rowsK (n := 8) (by decide) (fun _ => rfl) Wr.fine Tryz.underlying27 cells_Write (fun _ _ _ h => open_wr h) g2
    obtain ⟨b3, v3, l3, e3, r3, o3⟩ := open_rowsK (n := 5) (by decide) (fun _ => rfl) Tb.ok Tryz.underlying47 cells_Tablet (fun _ _ _ h => open_tb h) g3
    obtain ⟨s4, e4, -, w4⟩ := DataW.trod_int Tryz.underlying41 g4
    obtain ⟨s5, e5, -⟩ := DataW.trod_int Tryz.underlying40 g5
    obtain ⟨s6, e6, -⟩ := DataW.trod_string Tryz.underlying9 g6
    simp [An.enc] at e0 e1 e2 e3 e4 e5 e6
    obtain ⟨e00, e01, e02, e03, e04, e05, e06, e07⟩ := e0
    subst e00 e01 e02 e03 e04 e05 e06 e07 e1 e2 e3 e4 e5 e6
    exact ⟨⟨an, _, _, _, s4, s5, s6⟩, rfl, ⟨an, l1, l2, l3, s4, s5, s6⟩, ⟨rfl, rfl, rfl, rfl⟩, ⟨b1, r1⟩, ⟨b2, r2⟩, ⟨b3, r3⟩, hok, o2, o3, wf_u32' w4⟩
end
end Go.Proofs.YthidminepegnoaaGreatDoor
namespace Go.Proofs.YthidminepegnoaaGreatDoor
open Go.RowKit Go.Shelf Go.Maps Go.Sort
attribute [local go_sem] Oper.semAt_some
set_option linter.unusedVariables false
set_option linter.unusedSimpArgs false

/-- The place of a number in a list; -1: it is not there. -/
def placeI (xs : List Int) (g : Int) : Int := if xs.findIdx (· == g) < xs.length then xs.findIdx (· == g) else -1
theorem place_at {xs : List Int} {g : Int} {k : Nat} (h : k < xs.length) (hn : ∀ j (h : j < xs.length), j < k → xs[j] ≠ g) (hk : xs[k] = g) : placeI xs g = k := by
  have := (List.findIdx_eq (p := fun x : Int => x == g) h).2 ⟨by simpa using hk, fun j hj => by have := hn j (by omega) hj; simpa using this⟩
  rw [placeI, this, if_pos h]
theorem place_none {xs : List Int} {g : Int} (hn : ∀ j (h : j < xs.length), j < xs.length → xs[j] ≠ g) : placeI xs g = -1 := by
  have : xs.findIdx (fun x : Int => x == g) = xs.length := by
    rw [List.findIdx_eq_length]
    intro s hs
    obtain ⟨j, hj, rfl⟩ := List.getElem_of_mem hs
    simpa using hn j hj hj
  rw [placeI, this, if_neg (by omega)]
theorem place_ge {xs : List Int} {g : Int} : decide (0 ≤ placeI xs g) = decide (g ∈ xs) := by
  by_cases h : g ∈ xs
  · have hlt : xs.findIdx (fun x : Int => x == g) < xs.length := List.findIdx_lt_length_of_exists ⟨g, h, by simp⟩
    rw [placeI, if_pos hlt]; simp [h]
  · rw [place_none (fun j hj _ e => h (by rw [← e]; exact List.getElem_mem hj))]; simp [h]

set_option maxRecDepth 100000 in
set_option maxHeartbeats 2000000 in
theorem xrises3_any (w : World) (b : Nat) (v : Value) (xs : List Int) (h : Ints .u32 w b v xs) (hr : xs.Pairwise (· < ·)) (hl : xs.length ≤ 1000000) :
    Calls Tryz.prog 82 #[v] w fun e w' => e = .returned (.bool true) ∧ Fr N0 w w' := by
  obtain ⟨a, off, cap, rfl, h1, h2, h3, h4, h5, h6⟩ := h
  have HC := Lib.hid h5
  clear h4 h5
  go_enter Tryz.func82, Tryz.ntmps82
  go_wp2
  go_loopw [3] (fun i wr => ∃ k : Nat, 1 ≤ k ∧ (k ≤ xs.length ∨ k = 1) ∧ i = .int .i64 k ∧ Fr N0 w wr) (fun i _ => xs.length - (intOf i).toNat)
  case atStart => exact ⟨1, by omega, .inr rfl, rfl, Fr.refl _ _⟩
  case round =>
    obtain ⟨k, hk0, hk, rfl, hfr⟩ := hrel
    by_cases hlt : k < xs.length
    · obtain rfl := h3 (by omega)
      obtain ⟨j, hj⟩ : ∃ j, k = j + 1 := ⟨k - 1, by omega⟩
      have hjl : j < xs.length := by omega
      have hkj : IntKind.i64.wrap ((k : Int) - 1) = (j : Int) := by rw [IntWalk.i64_in _ (by omega)]; omega
      have c0 := hfr.cell id (HC.out j hjl : _ = some (.int .u32 xs[j]))
      have c1 := hfr.cell id (HC.out k hlt : _ = some (.int .u32 xs[k]))
      have hlt2 : xs[j] < xs[k] := List.pairwise_iff_getElem.1 hr j k hjl hlt (by omega)
      obtain ⟨x, hx⟩ : ∃ x, xs[j] = x := ⟨_, rfl⟩
      obtain ⟨y, hy⟩ : ∃ x, xs[k] = x := ⟨_, rfl⟩
      rw [hx] at c0 hlt2; rw [hy] at c1 hlt2
      have hlt' : (k : Int) < (xs.length : Int) := by omega
      have hjlt : (j : Int) < (xs.length : Int) := by omega
      skip
      clear hj hx hy
      go_wp2
      go_quiet (fail)
      go_wp2
      go_roundw
      case rel => exact ⟨k + 1, by omega, .inl (by omega), by go_num, hfr.drewN _⟩
      case measure => simp [intOf]; omega
    · go_wp2
      go_ret
      exact ⟨rfl, hfr⟩

set_option maxRecDepth 100000 in
set_option maxHeartbeats 2000000 in
theorem xrisesS_any (w : World) (b : Nat) (v : Value) (xs : List ByteArray) (h : Strs w b v xs) (hr : RisesS xs) (hl : xs.length ≤ 1000000) :
    Calls Tryz.prog 86 #[v] w fun e w' => e = .returned (.bool true) ∧ Fr N0 w w' := by
  obtain ⟨a, off, cap, rfl, h1, h2, h3, h4, h5⟩ := h
  have HC := Lib.hid h5
  clear h4 h5
  go_enter Tryz.func86, Tryz.ntmps86
  go_wp2
  go_loopw [3] (fun i wr => ∃ k : Nat, 1 ≤ k ∧ (k ≤ xs.length ∨ k = 1) ∧ i = .int .i64 k ∧ Fr N0 w wr) (fun i _ => xs.length - (intOf i).toNat)
  case atStart => exact ⟨1, by omega, .inr rfl, rfl, Fr.refl _ _⟩
  case round =>
    obtain ⟨k, hk0, hk, rfl, hfr⟩ := hrel
    by_cases hlt : k < xs.length
    · obtain rfl := h3 (by omega)
      obtain ⟨j, hj⟩ : ∃ j, k = j + 1 := ⟨k - 1, by omega⟩
      have hjl : j < xs.length := by omega
      have hkj : IntKind.i64.wrap ((k : Int) - 1) = (j : Int) := by rw [IntWalk.i64_in _ (by omega)]; omega
      have c0 := hfr.cell id (HC.out j hjl : _ = some (.string xs[j]))
      have c1 := hfr.cell id (HC.out k hlt : _ = some (.string xs[k]))
      have hlt2 : xs[j].toList < xs[k].toList := by have := hr k hlt (by omega); simpa [show k - 1 = j by omega] using this
      obtain ⟨x, hx⟩ : ∃ x, xs[j] = x := ⟨_, rfl⟩
      obtain ⟨y, hy⟩ : ∃ x, xs[k] = x := ⟨_, rfl⟩
      rw [hx] at c0 hlt2; rw [hy] at c1 hlt2
      have hlt' : (k : Int) < (xs.length : Int) := by omega
      have hjlt : (j : Int) < (xs.length : Int) := by omega
      have hb1 : Op.bytesLess x.toList y.toList = true := by rw [bytesLess_eq]; exact decide_eq_true hlt2
      have hb2 : Op.bytesLess y.toList x.toList = false := by rw [bytesLess_eq]; exact decide_eq_false (List.lt_asymm hlt2)
      have hb3 : (x.toList == y.toList) = false := by rw [beq_eq_false_iff_ne]; intro e; rw [e] at hlt2; exact List.lt_irrefl _ hlt2
      have hb4 : (y.toList == x.toList) = false := by rw [beq_eq_false_iff_ne]; intro e; rw [e] at hlt2; exact List.lt_irrefl _ hlt2
      clear hj hx hy
      go_wp2
      go_quiet (fail)
      go_wp2
      go_roundw
      case rel => exact ⟨k + 1, by omega, .inl (by omega), by go_num, hfr.drewN _⟩
      case measure => simp [intOf]; omega
    · go_wp2
      go_ret
      exact ⟨rfl, hfr⟩

set_option maxRecDepth 100000 in
set_option maxHeartbeats 2000000 in
theorem rrising_any (w : World) (b : Nat) (v : Value) (xs : List ByteArray) (h : Strs w b v xs) (hr : RisesS xs) (hl : xs.length ≤ 1000000) :
    Calls Tryz.prog 47 #[v] w fun e w' => e = .returned (.bool true) ∧ Fr N0 w w' := by
  obtain ⟨a, off, cap, rfl, h1, h2, h3, h4, h5⟩ := h
  have HC := Lib.hid h5
  clear h4 h5
  go_enter Tryz.func47, Tryz.ntmps47
  go_wp2
  go_loopw [3] (fun i wr => ∃ k : Nat, 1 ≤ k ∧ (k ≤ xs.length ∨ k = 1) ∧ i = .int .i64 k ∧ Fr N0 w wr) (fun i _ => xs.length - (intOf i).toNat)
  case atStart => exact ⟨1, by omega, .inr rfl, rfl, Fr.refl _ _⟩
  case round =>
    obtain ⟨k, hk0, hk, rfl, hfr⟩ := hrel
    by_cases hlt : k < xs.length
    · obtain rfl := h3 (by omega)
      obtain ⟨j, hj⟩ : ∃ j, k = j + 1 := ⟨k - 1, by omega⟩
      have hjl : j < xs.length := by omega
      have hkj : IntKind.i64.wrap ((k : Int) - 1) = (j : Int) := by rw [IntWalk.i64_in _ (by omega)]; omega
      have c0 := hfr.cell id (HC.out j hjl : _ = some (.string xs[j]))
      have c1 := hfr.cell id (HC.out k hlt : _ = some (.string xs[k]))
      have hlt2 : xs[j].toList < xs[k].toList := by have := hr k hlt (by omega); simpa [show k - 1 = j by omega] using this
      obtain ⟨x, hx⟩ : ∃ x, xs[j] = x := ⟨_, rfl⟩
      obtain ⟨y, hy⟩ : ∃ x, xs[k] = x := ⟨_, rfl⟩
      rw [hx] at c0 hlt2; rw [hy] at c1 hlt2
      have hlt' : (k : Int) < (xs.length : Int) := by omega
      have hjlt : (j : Int) < (xs.length : Int) := by omega
      have hb1 : Op.bytesLess x.toList y.toList = true := by rw [bytesLess_eq]; exact decide_eq_true hlt2
      have hb2 : Op.bytesLess y.toList x.toList = false := by rw [bytesLess_eq]; exact decide_eq_false (List.lt_asymm hlt2)
      have hb3 : (x.toList == y.toList) = false := by rw [beq_eq_false_iff_ne]; intro e; rw [e] at hlt2; exact List.lt_irrefl _ hlt2
      have hb4 : (y.toList == x.toList) = false := by rw [beq_eq_false_iff_ne]; intro e; rw [e] at hlt2; exact List.lt_irrefl _ hlt2
      clear hj hx hy
      go_wp2
      go_quiet (fail)
      go_wp2
      go_roundw
      case rel => exact ⟨k + 1, by omega, .inl (by omega), by go_num, hfr.drewN _⟩
      case measure => simp [intOf]; omega
    · go_wp2
      go_ret
      exact ⟨rfl, hfr⟩

set_option maxRecDepth 100000 in
set_option maxHeartbeats 2000000 in
theorem ramong_any (w : World) (b : Nat) (v : Value) (xs : List Int) (h : Ints .u32 w b v xs) (g : Int) (hl : xs.length ≤ 1000000) :
    Calls Tryz.prog 79 #[v, .int .u32 g] w fun e w' => e = .returned (.int .i64 (placeI xs g)) ∧ Fr N0 w w' := by
  obtain ⟨a, off, cap, rfl, h1, h2, h3, h4, h5, h6⟩ := h
  have HC := Lib.hid h5
  clear h4 h5 h6
  go_enter Tryz.func79, Tryz.ntmps79
  go_wp2
  go_loopw [5] (fun i wr => ∃ k : Nat, k ≤ xs.length ∧ i = .int .i64 k ∧ Hid (∀ j (h : j < xs.length), j < k → xs[j] ≠ g) ∧ Fr N0 w wr) (fun i _ => xs.length - (intOf i).toNat)
  case atStart => exact ⟨0, Nat.zero_le _, rfl, fun j h hj => by omega, Fr.refl _ _⟩
  case round =>
    obtain ⟨k, hk, rfl, hn, hfr⟩ := hrel
    by_cases hlt : k < xs.length
    · obtain rfl := h3 (by omega)
      have c0 := hfr.cell id (HC.out k hlt : _ = some (.int .u32 xs[k]))
      have hnx : xs[k] ≠ g → ∀ j (h : j < xs.length), j < k + 1 → xs[j] ≠ g := fun he j h hj => by
        rcases Nat.lt_or_ge j k with h' | h'
        · exact hn.out j h h'
        · have : j = k := by omega
          subst this; exact he
      have hfd : xs[k] = g → placeI xs g = k := fun he => place_at hlt hn.out he
      obtain ⟨x, hx⟩ : ∃ x, xs[k] = x := ⟨_, rfl⟩
      rw [hx] at c0 hnx hfd
      have hlt' : (k : Int) < (xs.length : Int) := by omega
      have HNX := Lib.hid hnx; have HFD := Lib.hid hfd
      clear hnx hfd hx hn
      by_cases he : x = g
      · have hF := Lib.hid (HFD.out he)
        have hb1 : (x == g) = true := by simpa using he
        have hb2 : (g == x) = true := by simpa using he.symm
        clear HFD HNX he
        go_wp2
        all_goals try (go_quiet (fail); go_wp2)
        go_ret
        exact ⟨ret_int hF.out.symm, by first | exact hfr | exact hfr.drewN _⟩
      · have hF := Lib.hid (HNX.out he)
        have hb1 : (x == g) = false := by simpa using he
        have hb2 : (g == x) = false := by simpa using fun h => he h.symm
        clear HFD HNX he
        go_wp2
        all_goals try (go_quiet (fail); go_wp2)
        go_roundw
        case rel => exact ⟨k + 1, by omega, by go_num, hF.out, by first | exact hfr | exact hfr.drewN _⟩
        case measure => simp [intOf]; omega
    · obtain rfl : k = xs.length := by omega
      have hF : Hid (placeI xs g = -1) := place_none hn.out
      clear hn
      go_wp2
      go_ret
      exact ⟨ret_int hF.out.symm, hfr⟩

set_option maxRecDepth 100000 in
set_option maxHeartbeats 2000000 in
theorem idx3_any (w : World) (b : Nat) (v : Value) (xs : List Int) (h : Ints .u32 w b v xs) (g : Int) (hl : xs.length ≤ 1000000) :
    Calls Tryz.prog 70 #[v, .int .u32 g] w fun e w' => e = .returned (.int .i64 (placeI xs g)) ∧ Fr N0 w w' := by
  obtain ⟨a, off, cap, rfl, h1, h2, h3, h4, h5, h6⟩ := h
  have HC := Lib.hid h5
  clear h4 h5 h6
  go_enter Tryz.func70, Tryz.ntmps70
  go_wp2
  go_loopw [8] (fun i wr => ∃ k : Nat, k ≤ xs.length ∧ i = .int .i64 k ∧ Hid (∀ j (h : j < xs.length), j < k → xs[j] ≠ g) ∧ Fr N0 w wr) (fun i _ => xs.length - (intOf i).toNat)
  case atStart => exact ⟨0, Nat.zero_le _, rfl, fun j h hj => by omega, Fr.refl _ _⟩
  case round =>
    obtain ⟨k, hk, rfl, hn, hfr⟩ := hrel
    by_cases hlt : k < xs.length
    · obtain rfl := h3 (by omega)
      have c0 := hfr.cell id (HC.out k hlt : _ = some (.int .u32 xs[k]))
      have hnx : xs[k] ≠ g → ∀ j (h : j < xs.length), j < k + 1 → xs[j] ≠ g := fun he j h hj => by
        rcases Nat.lt_or_ge j k with h' | h'
        · exact hn.out j h h'
        · have : j = k := by omega
          subst this; exact he
      have hfd : xs[k] = g → placeI xs g = k := fun he => place_at hlt hn.out he
      obtain ⟨x, hx⟩ : ∃ x, xs[k] = x := ⟨_, rfl⟩
      rw [hx] at c0 hnx hfd
      have hlt' : (k : Int) < (xs.length : Int) := by omega
      have HNX := Lib.hid hnx; have HFD := Lib.hid hfd
      clear hnx hfd hx hn
      by_cases he : x = g
      · have hF := Lib.hid (HFD.out he)
        have hb1 : (x == g) = true := by simpa using he
        have hb2 : (g == x) = true := by simpa using he.symm
        clear HFD HNX he
        go_wp2
        all_goals try (go_quiet (fail); go_wp2)
        go_ret
        exact ⟨ret_int hF.out.symm, by first | exact hfr | exact hfr.drewN _⟩
      · have hF := Lib.hid (HNX.out he)
        have hb1 : (x == g) = false := by simpa using he
        have hb2 : (g == x) = false := by simpa using fun h => he h.symm
        clear HFD HNX he
        go_wp2
        all_goals try (go_quiet (fail); go_wp2)
        go_roundw
        case rel => exact ⟨k + 1, by omega, by go_num, hF.out, by first | exact hfr | exact hfr.drewN _⟩
        case measure => simp [intOf]; omega
    · obtain rfl : k = xs.length := by omega
      have hF : Hid (placeI xs g = -1) := place_none hn.out
      clear hn
      go_wp2
      go_ret
      exact ⟨ret_int hF.out.symm, hfr⟩

set_option maxRecDepth 100000 in
set_option maxHeartbeats 2000000 in
theorem idxP_any (w : World) (b : Nat) (v : Value) (xs : List Int) (h : Ints .u8 w b v xs) (g : Int) (hl : xs.length ≤ 1000000) :
    Calls Tryz.prog 112 #[v, .int .u8 g] w fun e w' => e = .returned (.int .i64 (placeI xs g)) ∧ Fr N0 w w' := by
  obtain ⟨a, off, cap, rfl, h1, h2, h3, h4, h5, h6⟩ := h
  have HC := Lib.hid h5
  clear h4 h5 h6
  go_enter Tryz.func112, Tryz.ntmps112
  go_wp2
  go_loopw [8] (fun i wr => ∃ k : Nat, k ≤ xs.length ∧ i = .int .i64 k ∧ Hid (∀ j (h : j < xs.length), j < k → xs[j] ≠ g) ∧ Fr N0 w wr) (fun i _ => xs.length - (intOf i).toNat)
  case atStart => exact ⟨0, Nat.zero_le _, rfl, fun j h hj => by omega, Fr.refl _ _⟩
  case round =>
    obtain ⟨k, hk, rfl, hn, hfr⟩ := hrel
    by_cases hlt : k < xs.length
    · obtain rfl := h3 (by omega)
      have c0 := hfr.cell id (HC.out k hlt : _ = some (.int .u8 xs[k]))
      have hnx : xs[k] ≠ g → ∀ j (h : j < xs.length), j < k + 1 → xs[j] ≠ g := fun he j h hj => by
        rcases Nat.lt_or_ge j k with h' | h'
        · exact hn.out j h h'
        · have : j = k := by omega
          subst this; exact he
      have hfd : xs[k] = g → placeI xs g = k := fun he => place_at hlt hn.out he
      obtain ⟨x, hx⟩ : ∃ x, xs[k] = x := ⟨_, rfl⟩
      rw [hx] at c0 hnx hfd
      have hlt' : (k : Int) < (xs.length : Int) := by omega
      have HNX := Lib.hid hnx; have HFD := Lib.hid hfd
      clear hnx hfd hx hn
      by_cases he : x = g
      · have hF := Lib.hid (HFD.out he)
        have hb1 : (x == g) = true := by simpa using he
        have hb2 : (g == x) = true := by simpa using he.symm
        clear HFD HNX he
        go_wp2
        all_goals try (go_quiet (fail); go_wp2)
        go_ret
        exact ⟨ret_int hF.out.symm, by first | exact hfr | exact hfr.drewN _⟩
      · have hF := Lib.hid (HNX.out he)
        have hb1 : (x == g) = false := by simpa using he
        have hb2 : (g == x) = false := by simpa using fun h => he h.symm
        clear HFD HNX he
        go_wp2
        all_goals try (go_quiet (fail); go_wp2)
        go_roundw
        case rel => exact ⟨k + 1, by omega, by go_num, hF.out, by first | exact hfr | exact hfr.drewN _⟩
        case measure => simp [intOf]; omega
    · obtain rfl : k = xs.length := by omega
      have hF : Hid (placeI xs g = -1) := place_none hn.out
      clear hn
      go_wp2
      go_ret
      exact ⟨ret_int hF.out.symm, hfr⟩

set_option maxRecDepth 100000 in
set_option maxHeartbeats 2000000 in
theorem has_any (w : World) (b : Nat) (v : Value) (xs : List Int) (h : Ints .u64 w b v xs) (g : Int) (hl : xs.length ≤ 1000000) :
    Calls Tryz.prog 124 #[v, .int .u64 g] w fun e w' => e = .returned (.bool (decide (g ∈ xs))) ∧ Fr N0 w w' := by
  obtain ⟨a, off, cap, rfl, h1, h2, h3, h4, h5, h6⟩ := h
  have HC := Lib.hid h5
  clear h4 h5 h6
  go_enter Tryz.func124, Tryz.ntmps124
  go_wp2
  go_loopw [5] (fun i wr => ∃ k : Nat, k ≤ xs.length ∧ i = .int .i64 k ∧ Hid (∀ j (h : j < xs.length), j < k → xs[j] ≠ g) ∧ Fr N0 w wr) (fun i _ => xs.length - (intOf i).toNat)
  case atStart => exact ⟨0, Nat.zero_le _, rfl, fun j h hj => by omega, Fr.refl _ _⟩
  case round =>
    obtain ⟨k, hk, rfl, hn, hfr⟩ := hrel
    by_cases hlt : k < xs.length
    · obtain rfl := h3 (by omega)
      have c0 := hfr.cell id (HC.out k hlt : _ = some (.int .u64 xs[k]))
      have hnx : xs[k] ≠ g → ∀ j (h : j < xs.length), j < k + 1 → xs[j] ≠ g := fun he j h hj => by
        rcases Nat.lt_or_ge j k with h' | h'
        · exact hn.out j h h'
        · have : j = k := by omega
          subst this; exact he
      have hfd : xs[k] = g → decide (g ∈ xs) = true := fun he => by simp only [decide_eq_true_eq]; rw [← he]; exact List.getElem_mem hlt
      obtain ⟨x, hx⟩ : ∃ x, xs[k] = x := ⟨_, rfl⟩
      rw [hx] at c0 hnx hfd
      have hlt' : (k : Int) < (xs.length : Int) := by omega
      have HNX := Lib.hid hnx; have HFD := Lib.hid hfd
      clear hnx hfd hx hn
      by_cases he : x = g
      · have hF := Lib.hid (HFD.out he)
        have hb1 : (x == g) = true := by simpa using he
        have hb2 : (g == x) = true := by simpa using he.symm
        clear HFD HNX he
        go_wp2
        all_goals try (go_quiet (fail); go_wp2)
        go_ret
        exact ⟨ret_bool hF.out.symm, by first | exact hfr | exact hfr.drewN _⟩
      · have hF := Lib.hid (HNX.out he)
        have hb1 : (x == g) = false := by simpa using he
        have hb2 : (g == x) = false := by simpa using fun h => he h.symm
        clear HFD HNX he
        go_wp2
        all_goals try (go_quiet (fail); go_wp2)
        go_roundw
        case rel => exact ⟨k + 1, by omega, by go_num, hF.out, by first | exact hfr | exact hfr.drewN _⟩
        case measure => simp [intOf]; omega
    · obtain rfl : k = xs.length := by omega
      have hF : Hid (decide (g ∈ xs) = false) := by simp only [decide_eq_false_iff_not]; intro hm; obtain ⟨j, hj, e⟩ := List.getElem_of_mem hm; exact hn.out j hj hj e
      clear hn
      go_wp2
      go_ret
      exact ⟨ret_bool hF.out.symm, hfr⟩

set_option maxRecDepth 100000 in
set_option maxHeartbeats 1000000 in
theorem cont3_any (w : World) (b : Nat) (v : Value) (xs : List Int) (h : Ints .u32 w b v xs) (g : Int) (hl : xs.length ≤ 1000000) :
    Calls Tryz.prog 81 #[v, .int .u32 g] w fun e w' => e = .returned (.bool (decide (g ∈ xs))) ∧ Fr N0 w w' := by
  have hc := idx3_any w b v xs h g hl
  have HC := Lib.hid hc
  clear hc h
  go_enter Tryz.func81, Tryz.ntmps81
  go_wp2_with (go_at_call 70; go_loud (refine HC.out.mono ?_); rintro e w1 ⟨rfl, hf1⟩)
  go_ret
  exact ⟨ret_bool place_ge, hf1⟩

set_option maxRecDepth 100000 in
set_option maxHeartbeats 1000000 in
theorem contP_any (w : World) (b : Nat) (v : Value) (xs : List Int) (h : Ints .u8 w b v xs) (g : Int) (hl : xs.length ≤ 1000000) :
    Calls Tryz.prog 91 #[v, .int .u8 g] w fun e w' => e = .returned (.bool (decide (g ∈ xs))) ∧ Fr N0 w w' := by
  have hc := idxP_any w b v xs h g hl
  have HC := Lib.hid hc
  clear hc h
  go_enter Tryz.func91, Tryz.ntmps91
  go_wp2_with (go_at_call 112; go_loud (refine HC.out.mono ?_); rintro e w1 ⟨rfl, hf1⟩)
  go_ret
  exact ⟨ret_bool place_ge, hf1⟩

end Go.Proofs.YthidminepegnoaaGreatDoor
