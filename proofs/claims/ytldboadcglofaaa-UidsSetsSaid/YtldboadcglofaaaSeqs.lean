/- The lists of this seat as they lie in memory, and the iterators over them: what each hands to its loop.
   No condition. -/
import Derived.Test.YtldboadcglofaaaBase
import Derived.Test.YtldboadcglofaaaRows
import Derived.Outline
import Derived.Deep.QuietTactic
import Derived.BigQuiet
namespace Go.Proofs.Ytldboadcglofaaa
open Go.RowKit Go.Shelf
attribute [local go_sem] Oper.semAt_some
set_option linter.unusedVariables false

theorem take_succ {α : Type} (xs : List α) {k : Nat} (h : k < xs.length) : xs.take (k + 1) = xs.take k ++ [xs[k]] := by
  rw [List.take_succ_eq_append_getElem h]

set_option maxRecDepth 100000 in
set_option maxHeartbeats 1000000 in
/-- slices.Values: the iterator hands out the slice's numbers. -/
theorem values1 (w : World) (Bs b : Nat) (v : Value) (xs : List Int) (hB : w.heap[Bs]? = some (.cells #[v] 22 (0, 0))) (hI : Ints .u64 w b v xs) :
    SeqOf Try.prog 58 #[.pointer (some ⟨Bs, 0, none⟩)] (fun x : Int => #[Value.int .u64 x]) (fun k => k = Bs ∨ (0 < xs.length ∧ k = b)) xs w := by
  intro l J Jx S W hW hS hJ hJx hY h0
  have hBW := (hW.block Bs (.inl rfl) (lt_of_block hB)).trans hB
  have hIW := hI.on hW (fun h => .inr ⟨h, rfl⟩)
  clear hI hB
  obtain ⟨a, off, cap, rfl, hlc, hcm, ha, _, hc, hwf⟩ := hIW
  have hcB := cell_of_one hBW
  refine (callsIn_wide (n := 8)).1 ?_
  refine callsIn_of_wp Try.func58 rfl trivial ?_ rfl
  simp only [Try.ntmps58, List.size_toArray, List.length_cons, List.length_nil, Nat.reduceAdd, Nat.reduceSub, Array.replicate_succ, Array.replicate_zero, List.push_toArray, List.append_toArray, List.nil_append, List.cons_append]
  gi_wp2
  have HC := Lib.hid hc; have HB := Lib.hid hBW; have HY := Lib.hid hY; clear hc hBW hY hcB
  gi_loopw [7] (fun i wr => ∃ (k : Nat) (S1 : Nat → Prop), k ≤ xs.length ∧ i = .int .i64 k ∧ J S1 (xs.take k) wr ∧ Fr S W wr ∧ Grows S S1 W wr)
    (fun i _ => xs.length - (intOf i).toNat)
  case atStart => exact ⟨0, S, Nat.zero_le _, rfl, h0, Fr.refl _ _, Grows.refl fun k hk => (hS k hk).2⟩
  case round =>
    obtain ⟨k, S1, hk, rfl, hj, hfr, hgr⟩ := hrel
    by_cases hlt : k < xs.length
    · have hbl : b < W.heap.size := lt_of_cell (HC.out k hlt)
      have hBl : Bs < W.heap.size := lt_of_block HB.out
      have hnb : ∀ j, S1 j → ¬(j = Bs ∨ (0 < xs.length ∧ j = b)) ∧ j < wr.heap.size := fun k hk => ⟨by
        rcases (hgr k hk).1 with h1 | h1
        · exact (hS k h1).1
        · rintro (h2 | h2) <;> omega, (hgr k hk).2⟩
      obtain rfl := ha (by omega)
      have hck : wr.cell? ⟨b, off + k, none⟩ = some (.int .u64 xs[k]) := hfr.cell (fun h => (hS _ h).1 (.inr ⟨by omega, rfl⟩)) (HC.out k hlt)
      obtain ⟨fn, tmps, assign, body, hy, hR⟩ := HY.out S1 _ xs[k] wr hj (by rw [← take_succ xs hlt]; exact List.take_prefix _ _) (hfr.same fun k hk hs => (hS k hs).1 hk) hnb
      have hgrow : ∀ {S2 : Nat → Prop} {W3 : World}, Fr S1 wr W3 → Grows S1 S2 wr W3 → Fr S W W3 ∧ Grows S S2 W W3 := fun h1 h2 => ⟨hfr.trans h1 fun k hk => (hgr k hk).1, hgr.trans h2 hfr.size⟩
      gi_wp2
      refine hR.mono ?_
      rintro e W3 (⟨rfl, S2, hj3, hf3, hg3⟩ | ⟨rfl, S2, hj3, hf3, hg3⟩)
      · obtain ⟨hf, hg⟩ := hgrow hf3 hg3
        gi_wp2
        go_roundw
        case rel => exact ⟨k + 1, S2, by omega, by go_num, by rw [take_succ xs hlt]; exact hj3, hf, hg⟩
        case measure => simp [intOf]; omega
      · obtain ⟨hf, hg⟩ := hgrow hf3 hg3
        gi_wp2
        refine bodyPost_ret (results_none rfl _ _ _) rfl ?_
        exact ⟨⟨_, rfl⟩, S2, .inr ⟨_, by rw [← take_succ xs hlt]; exact List.take_prefix _ _, hj3⟩, hf, hg⟩
    · obtain rfl : k = xs.length := by omega
      gi_wp2
      go_end0
      exact ⟨⟨_, rfl⟩, S1, .inl (by rw [List.take_length] at hj; exact hj), hfr, hgr⟩

/-! ### A list of uids in memory -/

structure Blk where
  c : List Int
  v : Value
  b : Nat

/-- How much each is above the one ahead. -/
def diffs : List Int → List Int
  | a :: b :: r => (b - a) :: diffs (b :: r)
  | _ => []

theorem diffs_length : ∀ (c : List Int), (diffs c).length = c.length - 1
  | [] => rfl
  | [_] => rfl
  | _ :: b :: r => by simp [diffs, diffs_length (b :: r)]

theorem diffs_get : ∀ (c : List Int) (j : Nat) (h : j + 1 < c.length) (h' : j < (diffs c).length), (diffs c)[j] = c[j + 1] - c[j]
  | a :: b :: r, 0, _, _ => rfl
  | a :: b :: r, j + 1, h, h' => diffs_get (b :: r) j (by simpa using h) (by simpa [diffs] using h')

/-- The block i of a list: its two cells and its row. -/
structure BlkAt (w : World) (n G : Nat) (i : Nat) (k : Blk) : Prop where
  c0 : w.cell? ⟨G, i * 2, none⟩ = some (.int .u64 (k.c.headD 0))
  c1 : w.cell? ⟨G, i * 2 + 1, none⟩ = some k.v
  row : Ints .u64 w k.b k.v (diffs k.c)
  lt : k.b < n
  ne : k.c ≠ []
  le : k.c.length ≤ 32

def uidsOf (bl : List Blk) : List Int := (bl.map (·.c)).flatten

/-- p leads to the list l, packed in the blocks bl; all that belongs to it lies below n. -/
def IsLb (w : World) (n : Nat) (p : Option Addr) (bl : List Blk) : Prop :=
  (p = none ∧ bl = []) ∨
  ∃ B G ga gcap, p = some ⟨B, 0, none⟩ ∧ B < n ∧ G < n ∧ w.heap[B]? = some (.cells #[.slice ga bl.length gcap, .int .i64 (uidsOf bl).length] 70 (0, 0)) ∧
    (ga = some ⟨G, 0, none⟩ ∨ (ga = none ∧ gcap = 0)) ∧ bl.length ≤ gcap ∧ gcap ≤ 9223372036854775807 ∧ (∀ i (h : i < bl.length), BlkAt w n G i bl[i])

/-- p leads to the list l. -/
def IsL (w : World) (n : Nat) (p : Option Addr) (l : List Int) : Prop :=
  ∃ bl, IsLb w n p bl ∧ l = uidsOf bl ∧ l.Pairwise (· < ·) ∧ (∀ x ∈ l, 0 < x ∧ x < 18446744073709551616) ∧ (∀ i (h : i < bl.length), i + 1 < bl.length → bl[i].c.length = 32)

/-- The list at p hangs on the blocks of Z alone. -/
def ListOn (Z : Nat → Prop) (w : World) (p : Option Addr) (l : List Int) : Prop := ∀ w', SameOn Z w w' → IsL w' w'.heap.size p l
theorem ListOn.isL {Z : Nat → Prop} {w : World} {p : Option Addr} {l : List Int} (h : ListOn Z w p l) : IsL w w.heap.size p l := h w (SameOn.refl _ _)
theorem ListOn.then_ {Z Z' : Nat → Prop} {w w' : World} {p : Option Addr} {l : List Int} (h : ListOn Z w p l) (hs : SameOn Z w w') (hz : ∀ k, Z k → k < w.heap.size → Z' k) : ListOn Z' w' p l := fun w'' h'' =>
  h w'' ⟨h''.os.trans hs.os, h''.tape.trans hs.tape, h''.output.trans hs.output, Nat.le_trans hs.size h''.size, fun k hk hl => (h''.block k (hz k hk hl) (Nat.lt_of_lt_of_le hl hs.size)).trans (hs.block k hk hl)⟩

theorem BlkAt.below {w w' : World} {n n' G i : Nat} {k : Blk} (h : BlkAt w n G i k) (hb : Below n w w') (hG : G < n) (hn : n ≤ n') : BlkAt w' n' G i k :=
  ⟨(hb.cell (p := ⟨G, i * 2, none⟩) hG).trans h.c0, (hb.cell (p := ⟨G, i * 2 + 1, none⟩) hG).trans h.c1, h.row.same fun _ => hb.block _ h.lt, Nat.lt_of_lt_of_le h.lt hn, h.ne, h.le⟩

theorem IsLb.below {w w' : World} {n n' : Nat} {p : Option Addr} {bl : List Blk} (h : IsLb w n p bl) (hb : Below n w w') (hn : n ≤ n') : IsLb w' n' p bl := by
  rcases h with h | ⟨B, G, ga, gcap, h1, h2, h3, h4, h5, h6, h7, h8⟩
  · exact .inl h
  · exact .inr ⟨B, G, ga, gcap, h1, by omega, by omega, (hb.block B h2).trans h4, h5, h6, h7, fun i hi => (h8 i hi).below hb h3 hn⟩

theorem IsL.below {w w' : World} {n n' : Nat} {p : Option Addr} {l : List Int} (h : IsL w n p l) (hb : Below n w w') (hn : n ≤ n') : IsL w' n' p l := by
  obtain ⟨bl, h1, h2⟩ := h; exact ⟨bl, h1.below hb hn, h2⟩

set_option maxRecDepth 100000 in
set_option maxHeartbeats 1000000 in
/-- from: the list and the number are boxed. -/
theorem from_any (p : Option Addr) (k : Int) (w : World) :
    Calls Try.prog 41 #[.pointer p, .int .i64 k] w fun e w' => e = .returned (.func (.func 59) #[] #[.pointer (some ⟨w.heap.size, 0, none⟩), .pointer (some ⟨w.heap.size + 1, 0, none⟩)]) ∧
      (w.alloc (.cells #[.pointer p] 25)).alloc (.cells #[.int .i64 k] 3) = w' := by
  go_enter Try.func41, Try.ntmps41
  go_wp2
  go_ret
  exact ⟨rfl, rfl⟩

theorem all_any (p : Option Addr) (w : World) :
    Calls Try.prog 18 #[.pointer p] w fun e w' => e = .returned (.func (.func 59) #[] #[.pointer (some ⟨w.heap.size, 0, none⟩), .pointer (some ⟨w.heap.size + 1, 0, none⟩)]) ∧
      (w.alloc (.cells #[.pointer p] 25)).alloc (.cells #[.int .i64 0] 3) = w' := by
  go_enter Try.func18, Try.ntmps18
  go_wp2_with (go_at_call 41; refine (from_any _ _ _).mono ?_; rintro e w' ⟨rfl, rfl⟩)
  go_ret
  exact ⟨rfl, rfl⟩

theorem uidsOf_append (a b : List Blk) : uidsOf (a ++ b) = uidsOf a ++ uidsOf b := by simp [uidsOf]
theorem uidsOf_cons (a : Blk) (b : List Blk) : uidsOf (a :: b) = a.c ++ uidsOf b := by simp [uidsOf]
theorem uidsOf_split {bl : List Blk} {i : Nat} (h : i < bl.length) {kb : Blk} (hk : bl[i] = kb) : uidsOf (bl.take i) ++ kb.c ++ uidsOf (bl.drop (i + 1)) = uidsOf bl := by
  have : bl = bl.take i ++ kb :: bl.drop (i + 1) := by rw [← hk]; simp
  conv => rhs; rw [this]
  rw [uidsOf_append, uidsOf_cons, List.append_assoc]
theorem uidsOf_pre {bl : List Blk} {k q : Nat} (h : k + q < bl.length) {kb : Blk} (hk : bl[k + q] = kb) (t : Nat) : uidsOf ((bl.drop k).take q) ++ kb.c.take t <+: uidsOf (bl.drop k) := by
  have h' : q < (bl.drop k).length := by simp; omega
  rw [← uidsOf_split h' (kb := kb) (by rw [List.getElem_drop]; exact hk), List.append_assoc]
  exact (List.prefix_append_right_inj _).2 ((List.take_prefix _ _).trans (List.prefix_append _ _))
theorem uidsOf_next {bl : List Blk} {k q : Nat} (h : k + q < bl.length) {kb : Blk} (hk : bl[k + q] = kb) : uidsOf ((bl.drop k).take (q + 1)) = uidsOf ((bl.drop k).take q) ++ kb.c := by
  have h' : q < (bl.drop k).length := by simp; omega
  rw [take_succ _ h', uidsOf_append, List.getElem_drop, hk]
  simp [uidsOf]

set_option maxRecDepth 100000 in
set_option maxHeartbeats 1000000 in
theorem from1_seq (w : World) (n Bl Bk : Nat) (p : Option Addr) (bl : List Blk) (k : Nat) (hl : IsLb w n p bl) (hk : k ≤ bl.length) (hn : n ≤ w.heap.size)
    (hbd : ∀ x ∈ uidsOf bl, 0 ≤ x ∧ x ≤ 18446744073709551615)
    (hBl : w.heap[Bl]? = some (.cells #[.pointer p] 25 (0, 0))) (hBk : w.heap[Bk]? = some (.cells #[.int .i64 k] 3 (0, 0))) :
    SeqOf Try.prog 59 #[.pointer (some ⟨Bl, 0, none⟩), .pointer (some ⟨Bk, 0, none⟩)] (fun x : Int => #[Value.int .u64 x]) (fun k => k < n ∨ k = Bl ∨ k = Bk) (uidsOf (bl.drop k)) w := by
  intro l J Jx S W hW hS hJ hJx hY h0
  have hb : Below n w W := hW.below (fun _ h => .inl h) hn
  have hl1 : Bl < W.heap.size := Nat.lt_of_lt_of_le (lt_of_block hBl) hW.size
  have hl2 : Bk < W.heap.size := Nat.lt_of_lt_of_le (lt_of_block hBk) hW.size
  replace hl := hl.below hb (Nat.le_refl _)
  have c1 := cell_of_one ((hW.block _ (.inr (.inl rfl)) (lt_of_block hBl)).trans hBl)
  have c2 := cell_of_one ((hW.block _ (.inr (.inr rfl)) (lt_of_block hBk)).trans hBk)
  clear hBl hBk
  refine (callsIn_wide (n := 8)).1 ?_
  refine callsIn_of_wp Try.func59 rfl trivial ?_ rfl
  simp only [Try.ntmps59, List.size_toArray, List.length_cons, List.length_nil, Nat.reduceAdd, Nat.reduceSub, Array.replicate_succ, Array.replicate_zero, List.push_toArray, List.append_toArray, List.nil_append, List.cons_append]
  rcases hl with ⟨rfl, rfl⟩ | ⟨B, G, ga, gcap, rfl, hB, hG, hBo, hga, hbc, hgc, hbs⟩
  · gi_wp2
    refine bodyPost_ret (results_none rfl _ _ _) rfl ?_
    refine ⟨⟨_, rfl⟩, S, .inl (by simpa [uidsOf] using h0), Fr.refl _ _, Grows.refl fun k hk => (hS k hk).2⟩
  · have c3 : W.cell? ⟨B, 0, none⟩ = some (.slice ga bl.length gcap) := by simp [World.cell?, hBo]
    have HBo := Lib.hid hBo; have HBs := Lib.hid hbs; have HY := Lib.hid hY; clear hBo hbs hY
    obtain ⟨m, hm⟩ : ∃ m, bl.length - k = m := ⟨_, rfl⟩
    have hmb : m = 0 → uidsOf (bl.drop k) = [] := fun e => by rw [List.drop_eq_nil_of_le (by omega)]; rfl
    have hfin : ∀ S1 wr, J S1 (uidsOf ((bl.drop k).take m)) wr → Fr S W wr → Grows S S1 W wr → (∃ v, Ending.returned (.tuple #[]) = .returned v) ∧ ∃ S2, (J S2 (uidsOf (bl.drop k)) wr ∨ ∃ pre, pre <+: uidsOf (bl.drop k) ∧ Jx S2 pre wr) ∧ Fr S W wr ∧ Grows S S2 W wr :=
      fun S1 wr h1 h2 h3 => ⟨⟨_, rfl⟩, S1, .inl (by rwa [List.take_of_length_le (by simp; omega)] at h1), h2, h3⟩
    have HF := Lib.hid hfin; have HM := Lib.hid hm; have HMB := Lib.hid hmb; clear hfin hmb hm
    rcases hga with rfl | ⟨rfl, rfl⟩
    · gi_wp2
      refine (wpIn_wide (n := 8)).2 ?_
      go_quiet (fail)
      obtain ⟨sa, hsa⟩ : ∃ sa, (if gcap = k then some ⟨G, 0, none⟩ else some ⟨G, k * 2, none⟩ : Option Addr) = sa := ⟨_, rfl⟩
      have hsa' : 0 < m → sa = some ⟨G, k * 2, none⟩ := fun h => by have := HM.out; rw [← hsa, if_neg (by omega)]
      obtain ⟨gc, hgc'⟩ : ∃ gc, gcap - k = gc := ⟨_, rfl⟩
      rw [hsa, show bl.length - k = m from HM.out, hgc']
      clear hsa hgc'
      gi_wp2
      gi_loopw [18] (fun i wr => ∃ (q : Nat) (S1 : Nat → Prop), q ≤ m ∧ i = .int .i64 q ∧ J S1 (uidsOf ((bl.drop k).take q)) wr ∧ Fr S W wr ∧ Grows S S1 W wr) (fun i _ => m - (intOf i).toNat)
      case atStart => exact ⟨0, S, Nat.zero_le _, rfl, hJ _ _ _ _ h0 (((Fr.refl N0 W).drewN nq).same fun _ _ h => h), (Fr.refl _ _).drewN nq, Grows.refl fun k hk => (hS k hk).2⟩
      case round =>
        obtain ⟨q, S1, hq, rfl, hj, hfr, hgr⟩ := hrel
        by_cases hlt : q < m
        · obtain rfl := hsa' (by omega)
          have hm := HM.out
          have hib : k + q < bl.length := by omega
          obtain ⟨kb, hkb⟩ : ∃ kb, bl[k + q] = kb := ⟨_, rfl⟩
          have hbk := HBs.out (k + q) hib
          rw [hkb] at hbk
          obtain ⟨e0, e1, er, elt, ene, ele⟩ := hbk
          rw [show (k + q) * 2 = k * 2 + q * 2 by omega] at e0 e1
          have hns : ∀ j, j < n → ¬ S j := fun j hj hs => (hS j hs).1 (.inl hj)
          replace e0 := hfr.cell (hns _ hG) e0
          replace e1 := hfr.cell (hns _ hG) e1
          replace er := er.fr hfr (hns _ elt)
          obtain ⟨x0, ct, hcc⟩ := List.exists_cons_of_ne_nil ene
          have hin : kb.c <:+: uidsOf bl := ⟨uidsOf (bl.take (k + q)), uidsOf (bl.drop (k + q + 1)), uidsOf_split hib hkb⟩
          have hpre : ∀ t, uidsOf ((bl.drop k).take q) ++ (x0 :: ct).take t <+: uidsOf (bl.drop k) := fun t => by rw [← hcc]; exact uidsOf_pre hib hkb t
          have hnext : uidsOf ((bl.drop k).take (q + 1)) = uidsOf ((bl.drop k).take q) ++ (x0 :: ct) := by rw [← hcc]; exact uidsOf_next hib hkb
          have hrng : ∀ x ∈ x0 :: ct, 0 ≤ x ∧ x ≤ 18446744073709551615 := fun x hx => hbd x (hin.subset (by rw [hcc]; exact hx))
          rw [hcc] at e0 er ele
          have hdl : (diffs (x0 :: ct)).length = ct.length := by rw [diffs_length]; rfl
          have hdg := diffs_get (x0 :: ct)
          obtain ⟨ds, hds, hdl, hdg⟩ : ∃ ds, diffs (x0 :: ct) = ds ∧ ds.length = ct.length ∧ ∀ (j : Nat) (h : j + 1 < (x0 :: ct).length) (h' : j < ds.length), ds[j] = (x0 :: ct)[j + 1] - (x0 :: ct)[j] :=
            ⟨_, rfl, hdl, hdg⟩
          rw [hds] at er
          obtain ⟨ra, roff, rcap, hv, hr1, hr2, hr3, hr4, hr5, hr6⟩ := er
          rw [hv] at e1
          simp only [List.headD_cons] at e0
          obtain ⟨kbb, hkbb⟩ : ∃ kbb, kb.b = kbb := ⟨_, rfl⟩
          rw [hkbb] at hr3 hr5 elt
          clear hin hcc hv hkb hds ene hkbb
          have hcl : ct.length ≤ 31 := by simpa using ele
          obtain ⟨w2, hw2⟩ : ∃ w2, wr.alloc (.cells #[.int .u64 x0, .slice ra ds.length rcap] 68) = w2 := ⟨_, rfl⟩
          have hfr2 : Fr S W w2 := by rw [← hw2]; exact hfr.alloc _
          have hz2 : w2.heap.size = wr.heap.size + 1 := by rw [← hw2]; simp
          have hgr2 : Grows S S1 W w2 := fun j hj => ⟨(hgr j hj).1, by have := (hgr j hj).2; omega⟩
          have hj2 : J S1 (uidsOf ((bl.drop k).take q)) w2 := hJ _ _ _ _ hj (by rw [← hw2]; exact ((Fr.refl N0 wr).alloc _).same fun _ _ h => h)
          have hnb2 : ∀ S2 wx, Grows S S2 W wx → ∀ j, S2 j → ¬ (j < n ∨ j = Bl ∨ j = Bk) ∧ j < wx.heap.size := fun S2 wx hg j hj => ⟨by
            rcases (hg j hj).1 with h1 | h1
            · exact (hS j h1).1
            · have := hb.size; omega, (hg j hj).2⟩
          obtain ⟨fn, tmps, assign, body, hy, hR⟩ := HY.out S1 _ x0 w2 hj2 (by simpa using hpre 1) (hfr2.same fun j hk hs => (hS j hs).1 hk) (hnb2 _ _ hgr2)
          have c5 : w2.cell? ⟨wr.heap.size, 1, none⟩ = some (.slice ra ds.length rcap) := by rw [← hw2]; simp
          have hns5 : ¬ S1 wr.heap.size := fun h => by have := (hgr _ h).2; omega
          have HG := Lib.hid hgr2; have HP := Lib.hid hpre; have HN := Lib.hid hnext; have HR := Lib.hid hrng; have HDG := Lib.hid hdg; have HDL := Lib.hid hdl
          have HR5 := Lib.hid hr5
          clear hgr2 hpre hnext hrng hdg hdl hr5
          subst hw2
          gi_wp2
          refine hR.mono ?_
          rintro e W3 (⟨rfl, S2, hj3, hf3, hg3⟩ | ⟨rfl, S2, hj3, hf3, hg3⟩)
          · have c6 : W3.cell? ⟨wr.heap.size, 1, none⟩ = some (.slice ra ds.length rcap) := hf3.cell hns5 c5
            have hfrW : Fr S W W3 := hfr2.trans hf3 (fun j hj => (HG.out j hj).1)
            have hgrW : Grows S S2 W W3 := HG.out.trans hg3 hfr2.size
            have hrow : ∀ (i : Nat) (h : i < ds.length) (wx : World), Fr S W wx → wx.cell? ⟨kbb, roff + i, none⟩ = some (.int .u64 ds[i]) := fun i h wx hx => by
              have h1 := HR5.out i h
              have h2 : kbb < W.heap.size := by have := hb.size; omega
              rw [← h1, cell_same (A := W) (hx.at (hns _ elt) h2), cell_same (A := W) (hfr.at (hns _ elt) h2)]
            have HROW := Lib.hid hrow
            clear hy hR c5 hf3 hg3 hfr2 hj2 hnb2 HR5 hrow hfr hgr hj e0 e1 hns5
            gi_wp2
            clear c6
            gi_loopw [6, 31] (fun u i wx => ∃ (j : Nat) (S3 : Nat → Prop) (hj : j < (x0 :: ct).length), i = .int .i64 j ∧ u = .int .u64 (x0 :: ct)[j] ∧ J S3 (uidsOf ((bl.drop k).take q) ++ (x0 :: ct).take (j + 1)) wx ∧ Fr S W wx ∧ Grows S S3 W wx)
              (fun _ i _ => ds.length - (intOf i).toNat)
            case atStart => exact ⟨0, S2, by simp, rfl, rfl, by simpa using hj3, hfrW, hgrW⟩
            case round =>
              obtain ⟨j, S3, hjl, rfl, rfl, hj4, hfr4, hgr4⟩ := hrel
              have hdl := HDL.out
              by_cases hjt : j < ds.length
              · obtain rfl := hr3 (by omega)
                have hc7 := HROW.out j hjt wr hfr4
                have hjt1 : j + 1 < (x0 :: ct).length := by simp; omega
                have hsum := HDG.out j hjt1 hjt
                obtain ⟨hx1, hx2⟩ := HR.out _ (List.getElem_mem hjt1)
                have hpre1 : uidsOf ((bl.drop k).take q) ++ (x0 :: ct).take (j + 1) ++ [(x0 :: ct)[j + 1]] <+: uidsOf (bl.drop k) := by
                  rw [List.append_assoc, ← take_succ _ hjt1]; exact HP.out (j + 2)
                have hnb4 : ∀ j, S3 j → ¬ (j < n ∨ j = Bl ∨ j = Bk) ∧ j < wr.heap.size := fun j hj => ⟨by
                  rcases (hgr4 j hj).1 with h1 | h1
                  · exact (hS j h1).1
                  · have := hb.size; omega, (hgr4 j hj).2⟩
                obtain ⟨fn, tmps, assign, body, hy, hR⟩ := HY.out S3 _ (x0 :: ct)[j + 1] wr hj4 hpre1 (hfr4.same fun j hk hs => (hS j hs).1 hk) hnb4
                have htk : uidsOf ((bl.drop k).take q) ++ (x0 :: ct).take (j + 1 + 1) = uidsOf ((bl.drop k).take q) ++ (x0 :: ct).take (j + 1) ++ [(x0 :: ct)[j + 1]] := by
                  rw [take_succ _ hjt1, List.append_assoc]
                have HTK := Lib.hid htk; have HP1 := Lib.hid hpre1
                clear htk hpre1 hnb4 hj4
                obtain ⟨cj, hcj⟩ : ∃ c, (x0 :: ct)[j] = c := ⟨_, rfl⟩
                obtain ⟨cj1, hcj1⟩ : ∃ c, (x0 :: ct)[j + 1] = c := ⟨_, rfl⟩
                obtain ⟨dj, hdj⟩ : ∃ c, ds[j] = c := ⟨_, rfl⟩
                rw [hcj1] at hy hR hsum hx1 hx2 HTK HP1
                rw [hcj] at hsum ⊢
                rw [hdj] at hsum hc7
                have hs2 : cj1 = cj + dj := by omega
                subst hs2
                have HCJ1 := Lib.hid hcj1
                clear hsum hcj hdj hcj1 hdl
                gi_wp2
                refine hR.mono ?_
                rintro e W5 (⟨rfl, S5, hj5, hf5, hg5⟩ | ⟨rfl, S5, hj5, hf5, hg5⟩)
                · have hf6 := hfr4.trans hf5 (fun j hj => (hgr4 j hj).1)
                  have hg6 := hgr4.trans hg5 hfr4.size
                  clear hy hR
                  gi_wp2
                  go_roundw
                  case rel => exact ⟨j + 1, S5, hjt1, by go_num, by rw [HCJ1.out], by rw [HTK.out]; exact hj5, hf6, hg6⟩
                  case measure => simp [intOf]; omega
                · clear hy hR
                  gi_wp2
                  refine bodyPost_ret (results_none rfl _ _ _) rfl ?_
                  exact ⟨⟨_, rfl⟩, S5, .inr ⟨_, HP1.out, hj5⟩, hfr4.trans hf5 (fun j hj => (hgr4 j hj).1), hgr4.trans hg5 hfr4.size⟩
              · obtain rfl : j = ds.length := by simp at hjl; omega
                have hjn : J S3 (uidsOf ((bl.drop k).take (q + 1))) wr := by
                  rw [HN.out]
                  rwa [List.take_of_length_le (l := x0 :: ct) (by simp; omega)] at hj4
                clear hj4 hdl
                gi_wp2
                go_roundw
                case rel => exact ⟨q + 1, S3, by omega, by go_num, hjn, hfr4, hgr4⟩
                case measure => simp [intOf]; omega
          · gi_wp2
            refine bodyPost_ret (results_none rfl _ _ _) rfl ?_
            exact ⟨⟨_, rfl⟩, S2, .inr ⟨_, by simpa using HP.out 1, hj3⟩, hfr2.trans hf3 (fun j hj => (HG.out j hj).1), HG.out.trans hg3 hfr2.size⟩
        · obtain rfl : q = m := by omega
          gi_wp2
          go_end0
          exact HF.out _ _ hj hfr hgr
    · obtain rfl : bl = [] := List.eq_nil_of_length_eq_zero (by omega)
      obtain rfl : k = 0 := by simpa using hk
      gi_wp2
      refine (wpIn_wide (n := 8)).2 ?_
      go_quiet (fail)
      gi_wp2
      gi_loopw [18] (fun i wr => i = .int .i64 0 ∧ wr = W.drewN nq) (fun _ _ => 0)
      case atStart => exact ⟨rfl, rfl⟩
      case round =>
        obtain ⟨rfl, rfl⟩ := hrel
        gi_wp2
        go_end0
        exact ⟨⟨_, rfl⟩, S, .inl (hJ _ _ _ _ h0 (((Fr.refl N0 W).drewN nq).same fun _ _ h => h)), (Fr.refl _ _).drewN nq, Grows.refl fun k hk => (hS k hk).2⟩

end Go.Proofs.Ytldboadcglofaaa
