/- The walk of UidsAlgebra. -/
import Derived.Test.YtldboadcglofaaaUNil
namespace Go.Proofs.Ytldboadcglofaaa
open Go.RowKit Go.Shelf
attribute [local go_sem] Oper.semAt_some
set_option linter.unusedVariables false
set_option linter.unusedSimpArgs false

/-! ### The plain laws -/
def andOf (A B : List Int) : List Int := (allOf [A, B]).filter fun x => decide (cnt0 [A, B] x = 2)
def orOf (A B : List Int) : List Int := allOf [A, B]
def notOf (A B : List Int) : List Int := A.filter fun x => !decide (x ∈ B)
/-- A rising list of uids. -/
def Rising (A : List Int) : Prop := A.Pairwise (· < ·) ∧ ∀ x ∈ A, 0 < x ∧ x < 18446744073709551616

theorem orOf_mem {A B : List Int} (hA : Rising A) (hB : Rising B) (x : Int) : x ∈ orOf A B ↔ x ∈ A ∨ x ∈ B := by
  unfold orOf allOf
  rw [norm_mem]
  simp only [List.flatten_cons, List.flatten_nil, List.append_nil, List.mem_append]
  refine ⟨fun h => h.1, fun h => ⟨h, fun e => ?_⟩⟩
  rcases h with h | h
  · have := (hA.2 x h).1; omega
  · have := (hB.2 x h).1; omega
theorem andOf_mem {A B : List Int} (hA : Rising A) (hB : Rising B) (x : Int) : x ∈ andOf A B ↔ x ∈ A ∧ x ∈ B := by
  unfold andOf
  rw [List.mem_filter]
  have := orOf_mem hA hB x
  unfold orOf at this
  rw [this]
  by_cases h1 : x ∈ A <;> by_cases h2 : x ∈ B <;> simp [cnt0, List.countP_cons, h1, h2]
theorem notOf_mem {A B : List Int} (x : Int) : x ∈ notOf A B ↔ x ∈ A ∧ x ∉ B := by
  unfold notOf; simp
theorem orOf_rising {A B : List Int} (hA : Rising A) (hB : Rising B) : Rising (orOf A B) :=
  ⟨allOf_sorted _, fun x hx => ((orOf_mem hA hB x).1 hx).elim (hA.2 x) (hB.2 x)⟩
theorem andOf_rising {A B : List Int} (hA : Rising A) (hB : Rising B) : Rising (andOf A B) :=
  ⟨(allOf_sorted _).sublist List.filter_sublist, fun x hx => hA.2 x ((andOf_mem hA hB x).1 hx).1⟩
theorem notOf_rising {A B : List Int} (hA : Rising A) : Rising (notOf A B) :=
  ⟨hA.1.sublist List.filter_sublist, fun x hx => hA.2 x (notOf_mem x |>.1 hx).1⟩
theorem rising_ext {A B : List Int} (hA : Rising A) (hB : Rising B) (h : ∀ x, x ∈ A ↔ x ∈ B) : A = B := sorted_ext hA.1 hB.1 h

theorem alg1 {A B C : List Int} (hA : Rising A) (hB : Rising B) (hC : Rising C) : andOf A (orOf B C) = orOf (andOf A B) (andOf A C) :=
  rising_ext (andOf_rising hA (orOf_rising hB hC)) (orOf_rising (andOf_rising hA hB) (andOf_rising hA hC)) fun x => by
    rw [andOf_mem hA (orOf_rising hB hC), orOf_mem hB hC, orOf_mem (andOf_rising hA hB) (andOf_rising hA hC), andOf_mem hA hB, andOf_mem hA hC]
    constructor
    · rintro ⟨h1, h2 | h2⟩
      · exact .inl ⟨h1, h2⟩
      · exact .inr ⟨h1, h2⟩
    · rintro (⟨h1, h2⟩ | ⟨h1, h2⟩)
      · exact ⟨h1, .inl h2⟩
      · exact ⟨h1, .inr h2⟩
theorem alg2 {A B C : List Int} (hA : Rising A) (hB : Rising B) (hC : Rising C) : notOf A (orOf B C) = andOf (notOf A B) (notOf A C) :=
  rising_ext (notOf_rising hA) (andOf_rising (notOf_rising hA) (notOf_rising hA)) fun x => by
    rw [andOf_mem (notOf_rising hA) (notOf_rising hA), notOf_mem, notOf_mem, notOf_mem, orOf_mem hB hC]
    constructor
    · rintro ⟨h1, h2⟩
      exact ⟨⟨h1, fun h => h2 (.inl h)⟩, ⟨h1, fun h => h2 (.inr h)⟩⟩
    · rintro ⟨⟨h1, h2⟩, _, h3⟩
      exact ⟨h1, fun h => h.elim h2 h3⟩

theorem orOf_length (A B : List Int) : (orOf A B).length ≤ A.length + B.length := by
  have := allOf_length [A, B]
  simp at this; exact this
theorem andOf_length (A B : List Int) : (andOf A B).length ≤ A.length + B.length := Nat.le_trans (List.length_filter_le _ _) (orOf_length A B)
theorem notOf_length (A B : List Int) : (notOf A B).length ≤ A.length := List.length_filter_le _ _

theorem isL_rising {w : World} {n : Nat} {p : Option Addr} {A : List Int} (h : IsL w n p A) : Rising A := by
  obtain ⟨_, _, _, h3, h4, _⟩ := h; exact ⟨h3, h4⟩

theorem i64_and15 (n : Int) : bits .and .i64 n 15 = n % 16 := by
  have h15 : (BitVec.ofInt 64 15).toNat = 2 ^ 4 - 1 := by decide
  have key : (BitVec.ofInt 64 n &&& BitVec.ofInt 64 15).toNat = (n % ((2 ^ 64 : Nat) : Int)).toNat % 2 ^ 4 := by
    rw [BitVec.toNat_and, BitVec.toNat_ofInt, h15, Nat.and_two_pow_sub_one_eq_mod]
  show IntKind.i64.wrap ((BitVec.ofInt 64 n &&& BitVec.ofInt 64 15).toNat : Nat) = n % 16
  rw [key, IntKind.wrap_i64]
  omega

/-- A page of so many, from a place on, of all. -/
theorem cutOf_page (A : List Int) (hp : ∀ x ∈ A, 0 < x) (na i : Nat) (h : 1 ≤ na) : cutOf (A.filter fun x => !decide (x ≤ 0)) (na : Int) (i : Int) = (A.drop i).take na := by
  have hf : A.filter (fun x => !decide (x ≤ 0)) = A := by
    rw [List.filter_eq_self]; intro x hx; have := hp x hx; simp; omega
  rw [hf]
  unfold cutOf
  have h1 : (min (max (i : Int) 0) (A.length : Int)).toNat = min i A.length := by omega
  simp only [h1]
  rw [if_pos (by omega)]
  have h2 : A.drop (min i A.length) = A.drop i := by
    by_cases e : i ≤ A.length
    · rw [Nat.min_eq_left e]
    · rw [Nat.min_eq_right (by omega), List.drop_of_length_le (Nat.le_refl _), List.drop_of_length_le (by omega)]
  rw [h2]
  have h3 : (min (na : Int) ((A.drop i).length : Int)).toNat = min na (A.drop i).length := by omega
  rw [h3, List.take_eq_take_iff]
  omega

theorem app_nil (g : Option Addr) (n cap : Nat) (ty : TypeId) (w : World) (h : n ≤ cap) (hm : cap ≤ 9223372036854775807) (hg : g = none → n = 0 ∧ cap = 0) : (Builtin.append_ #[22, 22] ty #[.slice g n cap, .slice none 0 0]).run Try.prog w = .ok (.slice g n cap) w := by
  cases g with
  | none =>
    obtain ⟨rfl, rfl⟩ := hg rfl
    go_simp
  | some a => go_simp

/-- append of numbers that are read to a row that is owned. -/
theorem wpList_append_ints (w : World) {ops : Array Oper} {rest : List Oper} {o : Oper} {a : Act} {Q : Exit → Act → World → Prop} (hg : o.guard = none) (s x : Operand)
    (hop : o.op = Op.call { callee := Callee.builtin Builtin.append, args := #[s, x], argTypes := #[22, 22] }) (base : Nat) (v : Value) (xs : List Int) (hs : a.eval s = v) (hown : w.ownsRow base 23 1 v xs.length (xs.map (Value.int .u64)))
    (b : Nat) (x' : Value) (ys : List Int) (hx : a.eval x = x') (hi : Ints .u64 w b x' ys) (hlen : xs.length + ys.length ≤ 1000000) (hbase : base ≤ w.heap.size)
    (hK : ∀ v' w', w'.ownsRow base 23 1 v' (xs ++ ys).length ((xs ++ ys).map (Value.int .u64)) → w.grownBy w' v.ownBlock → wpList Try.prog ops Q rest (a.put o.dst v') w') : wpList Try.prog ops Q (o :: rest) a w := by
  obtain ⟨i0, hii, hz0, hz1, hz2⟩ := info_parts infoU64
  refine wpList_plain hg fun K hK' => ?_
  have hrun : ∃ v' w', (Builtin.append_ #[22, 22] o.type #[v, x']).run Try.prog w = .ok v' w' ∧ w'.ownsRow base 23 1 v' (xs ++ ys).length ((xs ++ ys).map (Value.int .u64)) ∧ w.grownBy w' v.ownBlock := by
    have hi2 := hi
    obtain ⟨sa, off, cap, rfl, h1, h2, h3, h4, h5, h6⟩ := hi
    cases sa with
    | none =>
      have hys : ys = [] := by
        cases ys with
        | nil => rfl
        | cons y t => have := h3 (by simp); cases this
      have hcap := h4 rfl
      subst hys
      have hv : ∃ g n c, v = .slice g n c ∧ n ≤ c ∧ c ≤ 9223372036854775807 ∧ (g = none → n = 0 ∧ c = 0) := by
        rcases hown.2 with ⟨rfl, h0⟩ | ⟨g, cap', cur, rfl, _, _, hnc, hcm, _⟩
        · exact ⟨none, 0, 0, rfl, by omega, by omega, fun _ => ⟨rfl, rfl⟩⟩
        · exact ⟨_, _, _, rfl, hnc, by unfold maxLen at hcm; omega, fun h => by cases h⟩
      obtain ⟨g, n, c, rfl, e1, e2, e3⟩ := hv
      refine ⟨.slice g n c, w, ?_, by simpa using hown, World.grownBy.refl _ _⟩
      rw [show ([] : List Int).length = 0 from rfl, hcap]
      exact app_nil g n c _ w e1 e2 e3
    | some ad =>
      obtain ⟨v', w', hr, r1, r2, _⟩ := run_append_own (P := Try.prog) w base 22 o.type 23 i0 (.int .u64 0) 1 8 Try.underlying22 hii hz0 hz1 hz2 rfl (by decide) v xs.length _ hown ad ys.length cap (ys.map (Value.int .u64)) (by simp) (ints_news hi2) (by simp [Value.oneCell']) (by unfold maxLen; omega) (by omega) hbase
      exact ⟨v', w', hr, by simpa using r1, r2⟩
  obtain ⟨v', w', hr, r1, r2⟩ := hrun
  unfold Oper.wp
  simp [execOp, hop, resolve, invoke, builtin, hs, hx, hr, Result.andThen]
  exact hK' _ _ (hK v' w' r1 r2)

/-! ### The contracts at two lists -/
theorem or2 {W : World} {p q : Option Addr} {A B : List Int} (hA : IsL W W.heap.size p A) (hB : IsL W W.heap.size q B) (h1 : A.length ≤ 100000) (h2 : B.length ≤ 100000) :
    Calls Try.prog 28 #[.slice (some ⟨W.heap.size, 0, none⟩) 2 2] (W.alloc (.cells #[.pointer p, .pointer q] 25)) fun e w' => ∃ B', e = .returned (.pointer (some ⟨B', 0, none⟩)) ∧ IsL w' w'.heap.size (some ⟨B', 0, none⟩) (orOf A B) ∧ Fr N0 W w' :=
  (or_any _ _ _ _ _ _ (lists_two W p q A B hA hB) (by simp) (by simp; omega)).mono fun e w' ⟨B', h1, h2, h3⟩ => ⟨B', h1, h2, ((Fr.refl _ _).alloc _).then0 h3⟩
theorem and2 {W : World} {p q : Option Addr} {A B : List Int} (hA : IsL W W.heap.size p A) (hB : IsL W W.heap.size q B) (h1 : A.length ≤ 100000) (h2 : B.length ≤ 100000) :
    Calls Try.prog 26 #[.slice (some ⟨W.heap.size, 0, none⟩) 2 2] (W.alloc (.cells #[.pointer p, .pointer q] 25)) fun e w' => ∃ B', e = .returned (.pointer (some ⟨B', 0, none⟩)) ∧ IsL w' w'.heap.size (some ⟨B', 0, none⟩) (andOf A B) ∧ Fr N0 W w' :=
  (and_any _ _ _ _ _ _ (lists_two W p q A B hA hB) (by simp) (by simp; omega)).mono fun e w' ⟨B', h1, h2, h3⟩ => ⟨B', h1, h2, ((Fr.refl _ _).alloc _).then0 h3⟩
theorem not2 {W : World} {p q : Option Addr} {A B : List Int} (hA : IsL W W.heap.size p A) (hB : IsL W W.heap.size q B) (h1 : A.length ≤ 100000) (h2 : B.length ≤ 100000) :
    Calls Try.prog 30 #[.pointer p, .pointer q] W fun e w' => ∃ B', e = .returned (.pointer (some ⟨B', 0, none⟩)) ∧ IsL w' w'.heap.size (some ⟨B', 0, none⟩) (notOf A B) ∧ Fr N0 W w' :=
  not_any W W.heap.size p q A B hA hB (Nat.le_refl _) (by omega) (by omega)
theorem has2 {w1 W : World} {p : Option Addr} {A : List Int} {u : Int} {c : Bool} (hA : IsL w1 w1.heap.size p A) (hf : Fr N0 w1 W) (h1 : A.length ≤ 100000) (hc : decide (u ∈ A) = c) :
    Calls Try.prog 16 #[.pointer p, .int .u64 u] W fun e w' => e = .returned (.bool c) ∧ Fr N0 W w' := by
  rw [← hc]; exact has_any W w1.heap.size p A u (hA.below hf.below0 (Nat.le_refl _)) hf.size (by omega)

theorem ints_slice0 {k : IntKind} {w : World} {b : Nat} {v : Value} {xs : List Int} (h : Ints k w b v xs) : ∃ a cap, v = .slice a xs.length cap ∧ True := by
  obtain ⟨a, off, cap, h1, _⟩ := h
  exact ⟨a, cap, h1, trivial⟩

theorem small_lengths {A B : List Int} (hA : A.length ≤ 100) (hB : B.length ≤ 100) : (orOf A B).length ≤ 200 ∧ (andOf A B).length ≤ 200 ∧ (notOf A B).length ≤ 100 := by
  have h1 := orOf_length A B; have h2 := andOf_length A B; have h3 := notOf_length A B
  omega

set_option maxRecDepth 100000 in
set_option maxHeartbeats 4000000 in
theorem ualg_any (w : World) (b0 b1 b2 : Nat) (v0 v1 v2 : Value) (X0 X1 X2 : List Int) (h0 : Ints .u64 w b0 v0 X0) (h1 : Ints .u64 w b1 v1 X1) (h2 : Ints .u64 w b2 v2 X2) (u n : Int) (hn : -9223372036854775808 ≤ n ∧ n ≤ 9223372036854775807) :
    Calls Try.prog 6 #[v0, v1, v2, .int .u64 u, .int .i64 n] w fun e w' => e = .returned (.bool true) ∧ Fr N0 w w' := by
  obtain ⟨a0, c0, rfl, _⟩ := ints_slice0 h0
  obtain ⟨a1, c1, rfl, _⟩ := ints_slice0 h1
  obtain ⟨a2, c2, rfl, _⟩ := ints_slice0 h2
  by_cases hbig : 100 < X0.length ∨ 100 < X1.length ∨ 100 < X2.length
  · clear h0 h1 h2
    by_cases g0 : (100 : Int) < (X0.length : Int)
    · go_enter Try.func6, Try.ntmps6
      go_wp2_with (go_at_call 8; refine (alive_any _).mono ?_; rintro e w1 ⟨rfl, hf1⟩)
      go_ret
      exact ⟨rfl, hf1⟩
    · by_cases g1 : (100 : Int) < (X1.length : Int)
      · go_enter Try.func6, Try.ntmps6
        go_wp2_with (go_at_call 8; refine (alive_any _).mono ?_; rintro e w1 ⟨rfl, hf1⟩)
        go_ret
        exact ⟨rfl, hf1⟩
      · have g2 : (100 : Int) < (X2.length : Int) := by omega
        go_enter Try.func6, Try.ntmps6
        go_wp2_with (go_at_call 8; refine (alive_any _).mono ?_; rintro e w1 ⟨rfl, hf1⟩)
        go_ret
        exact ⟨rfl, hf1⟩
  · have g0 : ¬ (100 : Int) < (X0.length : Int) := by omega
    have g1 : ¬ (100 : Int) < (X1.length : Int) := by omega
    have g2 : ¬ (100 : Int) < (X2.length : Int) := by omega
    have ho1 := ofTop_any sort_any w b0 _ X0 h0 (by omega)
    have ho2 := fun W (hW : Fr N0 w W) => ofTop_any sort_any W b1 _ X1 (h1.fr0 hW) (by omega)
    have ho3 := fun W (hW : Fr N0 w W) => ofTop_any sort_any W b2 _ X2 (h2.fr0 hW) (by omega)
    have hrA : Rising (norm X0) := ⟨norm_sorted _, norm_pos h0.wf⟩
    have hrB : Rising (norm X1) := ⟨norm_sorted _, norm_pos h1.wf⟩
    have hrC : Rising (norm X2) := ⟨norm_sorted _, norm_pos h2.wf⟩
    have lA : (norm X0).length ≤ 100 := Nat.le_trans (norm_length X0) (by omega)
    have lB : (norm X1).length ≤ 100 := Nat.le_trans (norm_length X1) (by omega)
    have lC : (norm X2).length ≤ 100 := Nat.le_trans (norm_length X2) (by omega)
    obtain ⟨A, hA⟩ : ∃ A, norm X0 = A := ⟨_, rfl⟩
    obtain ⟨B, hB⟩ : ∃ A, norm X1 = A := ⟨_, rfl⟩
    obtain ⟨C, hC⟩ : ∃ A, norm X2 = A := ⟨_, rfl⟩
    rw [hA] at ho1 hrA lA
    simp only [hB] at ho2 hrB lB
    simp only [hC] at ho3 hrC lC
    obtain ⟨q1, q2, q3⟩ := small_lengths lA lB
    obtain ⟨q4, q5, q6⟩ := small_lengths lA lC
    obtain ⟨q7, q8, q9⟩ := small_lengths lB lC
    have q10 := andOf_length A (orOf B C); have q11 := orOf_length (andOf A B) (andOf A C)
    have q12 := notOf_length A (orOf B C); have q13 := andOf_length (notOf A B) (notOf A C)
    have he1 := alg1 hrA hrB hrC; have he2 := alg2 hrA hrB hrC
    obtain ⟨ca, hca⟩ : ∃ c, decide (u ∈ A) = c := ⟨_, rfl⟩
    obtain ⟨cb, hcb⟩ : ∃ c, decide (u ∈ B) = c := ⟨_, rfl⟩
    have hc1 : decide (u ∈ andOf A B) = (ca && cb) := by rw [← hca, ← hcb]; simp [andOf_mem hrA hrB]
    have hc2 : decide (u ∈ orOf A B) = (ca || cb) := by rw [← hca, ← hcb]; simp [orOf_mem hrA hrB]
    have hc3 : decide (u ∈ notOf A B) = (ca && !cb) := by rw [← hca, ← hcb]; simp [notOf_mem]
    have HO1 := Lib.hid ho1; have HO2 := Lib.hid ho2; have HO3 := Lib.hid ho3; have HCA := Lib.hid hca; have HCB := Lib.hid hcb; have HE1 := Lib.hid he1; have HE2 := Lib.hid he2; have HRA := Lib.hid hrA
    clear ho1 ho2 ho3 hca hcb he1 he2 hrA hrB hrC hA hB hC h0 h1 h2 hbig
    obtain ⟨na, hna, hna1, hna2⟩ : ∃ na : Nat, wrap64 (1 + bits BinOp.and IntKind.i64 n 15) = (na : Int) ∧ 1 ≤ na ∧ na ≤ 16 := by
      refine ⟨(1 + n % 16).toNat, ?_, ?_, ?_⟩
      · rw [i64_and15]; unfold wrap64; omega
      · omega
      · omega
    cases ca <;> cases cb
    all_goals
      simp only [Bool.and_true, Bool.true_and, Bool.and_false, Bool.false_and, Bool.or_true, Bool.true_or, Bool.or_false, Bool.false_or, Bool.not_true, Bool.not_false] at hc1 hc2 hc3
      have HC1 := Lib.hid hc1; have HC2 := Lib.hid hc2; have HC3 := Lib.hid hc3
      clear hc1 hc2 hc3
      go_enter Try.func6, Try.ntmps6
      go_wp2_with (first
        | (go_at_call 9; have hq := tB; go_loud (refine (HO3.out _ (hfa.then0 hfb)).mono ?_); rintro e wc ⟨C0, rfl, hc0, hfc⟩; have ha := ha0.below (hfb.then0 hfc).below0 (hfb.then0 hfc).size; have hb := hb0.below hfc.below0 hfc.size; have hk := Fr.refl N0 wc)
        | (go_at_call 9; have hq := tA; go_loud (refine (HO2.out _ hfa).mono ?_); rintro e wb ⟨B0, rfl, hb0, hfb⟩; have tB := hfb)
        | (go_at_call 9; go_loud (refine HO1.out.mono ?_); rintro e wa ⟨A0, rfl, ha0, hfa⟩; have tA := hfa)
        | (go_at_call 26; have hq := tN4; go_loud (refine (and2 (hN3.below hfN4.below0 hfN4.size) hN4 (by omega) (by omega)).mono ?_); rintro e wA5 ⟨A5, rfl, hA5, hfA5⟩; have hk := hk.then0 hfA5; have tA5 := hfA5)
        | (go_at_call 26; have hq := tA3; go_loud (refine (and2 (ha.below hk.below0 hk.size) (hc0.below hk.below0 hk.size) (by omega) (by omega)).mono ?_); rintro e wA4 ⟨A4, rfl, hA4, hfA4⟩; have hk := hk.then0 hfA4; have tA4 := hfA4)
        | (go_at_call 26; have hq := tA2; go_loud (refine (and2 (ha.below hk.below0 hk.size) (hb.below hk.below0 hk.size) (by omega) (by omega)).mono ?_); rintro e wA3 ⟨A3, rfl, hA3, hfA3⟩; have hk := hk.then0 hfA3; have tA3 := hfA3)
        | (go_at_call 26; have hq := tO2; go_loud (refine (and2 (ha.below hk.below0 hk.size) hO2 (by omega) (by omega)).mono ?_); rintro e wA2 ⟨A2, rfl, hA2, hfA2⟩; have hk := hk.then0 hfA2; have tA2 := hfA2)
        | (go_at_call 26; go_loud (refine (and2 (ha.below hk.below0 hk.size) (hb.below hk.below0 hk.size) (by omega) (by omega)).mono ?_); rintro e wA1 ⟨A1, rfl, hA1, hfA1⟩; have hk := hk.then0 hfA1; have tA1 := hfA1)
        | (go_at_call 28; have hq := tS1; go_loud (refine (or2 (hb.below hk.below0 hk.size) (hc0.below hk.below0 hk.size) (by omega) (by omega)).mono ?_); rintro e wO4 ⟨O4, rfl, hO4, hfO4⟩; have hk := hk.then0 hfO4; have tO4 := hfO4)
        | (go_at_call 28; have hq := tA4; go_loud (refine (or2 (hA3.below hfA4.below0 hfA4.size) hA4 (by omega) (by omega)).mono ?_); rintro e wO3 ⟨O3, rfl, hO3, hfO3⟩; have hk := hk.then0 hfO3; have tO3 := hfO3)
        | (go_at_call 28; have hq := tN1; go_loud (refine (or2 (hb.below hk.below0 hk.size) (hc0.below hk.below0 hk.size) (by omega) (by omega)).mono ?_); rintro e wO2 ⟨O2, rfl, hO2, hfO2⟩; have hk := hk.then0 hfO2; have tO2 := hfO2)
        | (go_at_call 28; go_loud (refine (or2 (ha.below hk.below0 hk.size) (hb.below hk.below0 hk.size) (by omega) (by omega)).mono ?_); rintro e wO1 ⟨O1, rfl, hO1, hfO1⟩; have hk := hk.then0 hfO1; have tO1 := hfO1)
        | (go_at_call 30; have hq := tN3; go_loud (refine (not2 (ha.below hk.below0 hk.size) (hc0.below hk.below0 hk.size) (by omega) (by omega)).mono ?_); rintro e wN4 ⟨N4, rfl, hN4, hfN4⟩; have hk := hk.then0 hfN4; have tN4 := hfN4)
        | (go_at_call 30; have hq := tN2; go_loud (refine (not2 (ha.below hk.below0 hk.size) (hb.below hk.below0 hk.size) (by omega) (by omega)).mono ?_); rintro e wN3 ⟨N3, rfl, hN3, hfN3⟩; have hk := hk.then0 hfN3; have tN3 := hfN3)
        | (go_at_call 30; have hq := tO4; go_loud (refine (not2 (ha.below hk.below0 hk.size) hO4 (by omega) (by omega)).mono ?_); rintro e wN2 ⟨N2, rfl, hN2, hfN2⟩; have hk := hk.then0 hfN2; have tN2 := hfN2)
        | (go_at_call 30; go_loud (refine (not2 (ha.below hk.below0 hk.size) (hb.below hk.below0 hk.size) (by omega) (by omega)).mono ?_); rintro e wN1 ⟨N1, rfl, hN1, hfN1⟩; have hk := hk.then0 hfN1; have tN1 := hfN1)
        | (go_at_call_of 16 (Value.pointer (some ⟨N1, 0, none⟩)); go_loud (refine (has2 hN1 (Fr.refl _ _) (by omega) HC3.out).mono ?_); rintro e y5 ⟨rfl, hf5⟩; have hk := hk.then0 hf5)
        | (go_at_call_of 16 (Value.pointer (some ⟨O1, 0, none⟩)); go_loud (refine (has2 hO1 (Fr.refl _ _) (by omega) HC2.out).mono ?_); rintro e y4 ⟨rfl, hf4⟩; have hk := hk.then0 hf4)
        | (go_at_call_of 16 (Value.pointer (some ⟨A1, 0, none⟩)); go_loud (refine (has2 hA1 (Fr.refl _ _) (by omega) HC1.out).mono ?_); rintro e y3 ⟨rfl, hf3⟩; have hk := hk.then0 hf3)
        | (go_at_call_of 16 (Value.pointer (some ⟨A0, 0, none⟩)); go_loud (refine (has2 ha hk (by omega) HCA.out).mono ?_); rintro e y1 ⟨rfl, hf1⟩; have hk := hk.then0 hf1)
        | (go_at_call_of 16 (Value.pointer (some ⟨B0, 0, none⟩)); go_loud (refine (has2 hb hk (by omega) HCB.out).mono ?_); rintro e y2 ⟨rfl, hf2⟩; have hk := hk.then0 hf2)
        | (go_at_call 25; have hq := tA5; go_loud (refine (usame_true (n := 0) hA5 (HE2.out ▸ hN2.below ((hfN3.then0 hfN4).then0 hfA5).below0 ((hfN3.then0 hfN4).then0 hfA5).size) (Fr.refl _ _) (by omega)).mono ?_); rintro e ws2 ⟨rfl, hfS2⟩; have hk := hk.then0 hfS2; have tS2 := hfS2)
        | (go_at_call 25; go_loud (refine (usame_true (n := 0) hO3 (HE1.out ▸ hA2.below ((hfA3.then0 hfA4).then0 hfO3).below0 ((hfA3.then0 hfA4).then0 hfO3).size) (Fr.refl _ _) (by omega)).mono ?_); rintro e ws1 ⟨rfl, hfS1⟩; have hk := hk.then0 hfS1; have tS1 := hfS1))
      have hpg := fun W (hW : Fr N0 wc W) (i : Nat) (hi : i ≤ 116) => page_any W wc.heap.size _ A (ha.below hW.below0 (Nat.le_refl _)) hW.size (by omega) (na : Int) (i : Int) 0 (by omega) (by omega)
      have hcp := fun i : Nat => cutOf_page A (fun x hx => (HRA.out.2 x hx).1) na i hna1
      simp only [hcp] at hpg
      have HPG := Lib.hid hpg; have HA := Lib.hid ha; have HK := Lib.hid hk; have HFA := Lib.hid (hfa.then0 (hfb.then0 hfc))
      clear hpg hcp HO1 HO2 HO3 HCA HCB HE1 HE2 HC1 HC2 HC3
      rw [hna]
      clear hna
      obtain ⟨i0, hi, hz0, hz1, hz2⟩ := info_parts infoU64
      go_loopw [14, 15] (fun av iv wr => ∃ i : Nat, i ≤ 116 ∧ iv = .int .i64 (i : Int) ∧ wr.ownsRow ws2.heap.size 23 1 av (A.take i).length ((A.take i).map (Value.int .u64)) ∧ Fr N0 ws2 wr) (fun _ iv _ => 200 - (intOf iv).toNat)
      case atStart => exact ⟨0, Nat.zero_le _, rfl, World.ownsRow_nil _ _ _ _, Fr.refl _ _⟩
      case round =>
        obtain ⟨i, hi1, rfl, hrow, hfr⟩ := hrel
        by_cases hlt : (i : Int) < 100
        · have hcall := HPG.out wr (HK.out.then0 hfr) i hi1
          obtain ⟨T, hT⟩ : ∃ T, (A.drop i).take na = T := ⟨_, rfl⟩
          rw [hT] at hcall
          have hTl : T.length ≤ 100 := by rw [← hT]; simp; omega
          have hcat : A.take (i + na) = A.take i ++ T := by rw [← hT, List.take_add]
          have hnl : (A.take i).length ≤ 100 := by simp; omega
          have hwi : IntKind.i64.wrap ((i : Int) + (na : Int)) = ((i + na : Nat) : Int) := by rw [IntWalk.i64_in _ (by omega)]; omega
          obtain ⟨Y, hY⟩ : ∃ Y, A.take i = Y := ⟨_, rfl⟩
          rw [hY] at hrow hnl hcat
          have HRW := Lib.hid hrow; have HCAT := Lib.hid hcat; have HFR := Lib.hid hfr; have HCALL := Lib.hid hcall
          clear hrow hcat hfr hcall hT hY
          go_wp2_with (first
            | (go_at_call 19; go_loud (refine HCALL.out.mono ?_); rintro e p1 ⟨P, rfl, hp1, hfp1⟩)
            | (go_at_call 15; go_loud (refine (slicec_at hp1 (by omega) _ (Fr.refl _ _)).mono ?_); rintro e p2 ⟨sv, rfl, ⟨bs, his⟩, hfp2⟩; obtain ⟨sa, sc, rfl⟩ := ints_slice' his; have hrow2 := Lib.hid (row_fr0 HRW.out (hfp1.then0 hfp2)); have hsz2 := (hfp1.then0 hfp2).size; have hsz1 := HFR.out.size)
            | (at_builtin; go_loud (refine wpList_append_ints _ rfl _ _ rfl ws2.heap.size _ Y rfl hrow2.out bs _ T rfl his (by omega) (by omega) ?_); intro v' w5 hown hgrow))
          go_roundw
          case rel =>
            have hf5 : Fr N0 ws2 w5 := (HFR.out.then0 (hfp1.then0 hfp2)).grown hgrow fun q hq => .inr (HRW.out.lt q hq).1
            exact ⟨i + na, by omega, by first | rfl | rw [hwi], by rw [HCAT.out]; exact hown, hf5⟩
          case measure => simp [intOf]; omega
        · have hAi : A.take i = A := List.take_of_length_le (by omega)
          rw [hAi] at hrow
          obtain ⟨br, hir⟩ := row_ints hrow (fun x hx => WalkArith.wf_u64 (by have := HRA.out.2 x hx; omega))
          have hAl : ¬ (100 : Int) < (A.length : Int) := by omega
          have hkw := HK.out.then0 hfr
          have haw := HA.out.below hkw.below0 hkw.size
          have HIR := Lib.hid hir; have HFR := Lib.hid hfr
          clear hrow hir hfr
          go_wp2_with (first
            | (go_at_call 14; go_loud (refine (len_any _ _ _ A haw).mono ?_); rintro e p1 ⟨rfl, rfl⟩)
            | (go_at_call 15; go_loud (refine (slicec_at haw (by omega) _ (Fr.refl _ _)).mono ?_); rintro e p2 ⟨sv, rfl, ⟨bs, his⟩, hfp2⟩)
            | (go_at_call 13; go_loud (refine (same_true (HIR.out.fr0 hfp2) his).mono ?_); rintro e p3 ⟨rfl, hfp3⟩)
            | (go_at_call 8; refine (alive_any _).mono ?_; rintro e p4 ⟨rfl, hfp4⟩))
          go_ret
          exact ⟨rfl, (((HFA.out.then0 (HK.out.then0 HFR.out)).then0 hfp2).then0 hfp3).then0 hfp4⟩

end Go.Proofs.Ytldboadcglofaaa
