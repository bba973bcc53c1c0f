/- What index's finders answer: Has, Count. What index's finders answer: Eq, Between. -/
import Derived.Test.YtefepfiijoafbaaGreatQMany
import Derived.Test.YtefepfiijoafbaaGreatQIMay2
import Derived.Test.YtefepfiijoafbaaGreatQWhere
namespace Go.Proofs.YtefepfiijoafbaaGreat
open Go.RowKit Go.Shelf Go.Maps Go.Sort
attribute [local go_sem] Oper.semAt_some
attribute [local irreducible] wpQuiet
set_option linter.unusedVariables false
set_option linter.unusedSimpArgs false

theorem NewInts.from {W W' : World} {P : Int → Prop} {e : Ending} {w' : World} (h : NewInts W' P e w') (hf : Fr N0 W W') : NewInts W P e w' := by
  obtain ⟨v, xs, h1, h2, h3, h4, h5⟩ := h
  exact ⟨v, xs, h1, ownsRow_base h2 hf.size, h3, h4, hf.then0 h5⟩
/-- The nodes that have (are the value of) something; that have so many. -/
def hasP (H : Int → List Val) (B : Int → List Int) (back : Bool) (n : Int) (u : Int) : Prop := if back = true then B u ≠ [] ∧ manyIs n (B u).length = true else H u ≠ [] ∧ manyIs n (H u).length = true
set_option maxRecDepth 100000 in
set_option maxHeartbeats 2000000 in
theorem fHas_any (W : World) (lo px bn bb N : Nat) (H : Int → List Val) (B : Int → List Int) (h : LookAt W lo px bn bb N H B) (hN : N ≤ 900000) (f : Fn) (vv uv sv : Value) :
    Calls Tryz.prog 161 #[.pointer (some ⟨px, 0, none⟩), .agg (f.enc vv uv sv)] W (NewInts W (hasP H B f.back (-1))) := by
  obtain ⟨kd, pred, back, vals, nu, ns⟩ := f
  simp only [Fn.enc]
  have hm := fun w1 (hf : Fr N0 W w1) => (many_any w1 lo px bn bb N H B (h.fr hf) hN back (-1)).mono fun e w2 hh => NewInts.from hh hf
  obtain ⟨Q, hQ⟩ : ∃ Q, NewInts W (hasP H B back (-1)) = Q := ⟨_, rfl⟩
  have hm2 : ∀ w1, Fr N0 W w1 → Calls Tryz.prog 162 #[.pointer (some ⟨px, 0, none⟩), .bool back, .int .i64 (-1)] w1 fun e w2 => Q e w2 ∧ ∃ v, e = .returned v := fun w1 hf => (hm w1 hf).mono fun e w2 hh => ⟨by rw [← hQ]; exact hh, by obtain ⟨v, xs, h1, -⟩ := hh; exact ⟨v, h1⟩⟩
  rw [hQ]
  have HM := Lib.hid hm2
  clear hm hm2 h hQ
  go_enter Tryz.func161, Tryz.ntmps161
  go_wp2_with (go_at_call 162; refine (HM.out _ ((Fr.refl _ _).alloc _)).mono ?_; rintro e w1 ⟨hq, v, rfl⟩)
  (try go_ret)
  exact hq
set_option maxRecDepth 100000 in
set_option maxHeartbeats 2000000 in
theorem fCnt_any (W : World) (lo px bn bb N : Nat) (H : Int → List Val) (B : Int → List Int) (h : LookAt W lo px bn bb N H B) (hN : N ≤ 900000) (f : Fn) (vv uv sv : Value) (b : Nat) (hf : FnAt W b f vv uv sv) (v0 : Val) (hv : f.vals[0]? = some v0) :
    Calls Tryz.prog 163 #[.pointer (some ⟨px, 0, none⟩), .agg (f.enc vv uv sv)] W (NewInts W fun u => 1 ≤ v0.n ∧ hasP H B f.back v0.n u) := by
  obtain ⟨a, off, cap, hvv, -, -, k3, -, k5⟩ := hf.vals
  have h0 : 0 < f.vals.length := by
    rcases Nat.eq_zero_or_pos f.vals.length with e | e
    · rw [List.eq_nil_of_length_eq_zero e] at hv; cases hv
    · exact e
  obtain rfl := k3 h0
  have hc := k5 0 h0 2 (by decide)
  have e0 : f.vals[0] = v0 := by rw [List.getElem?_eq_getElem h0] at hv; exact Option.some.inj hv
  rw [e0] at hc
  have hc2 : W.cell? ⟨b, off + 2, none⟩ = some (.int .i64 v0.n) := by simpa [Val.enc] using hc
  subst hvv
  obtain ⟨kd, pred, back, vals, nu, ns⟩ := f
  simp only [Fn.enc] at *
  obtain ⟨n, hn⟩ : ∃ n, v0.n = n := ⟨_, rfl⟩
  obtain ⟨m, hm0⟩ : ∃ m, vals.length = m := ⟨_, rfl⟩
  rw [hn] at hc2 ⊢
  rw [hm0] at h0 ⊢
  have hmi : (0 : Int) < (m : Int) := by omega
  by_cases h1 : 1 ≤ n
  · have hm := fun w1 (hf : Fr N0 W w1) => (many_any w1 lo px bn bb N H B (h.fr hf) hN back n).mono fun e w2 hh => NewInts.from hh hf
    obtain ⟨Q, hQ⟩ : ∃ Q, NewInts W (fun u => 1 ≤ n ∧ hasP H B back n u) = Q := ⟨_, rfl⟩
    have hPQ : (fun u => 1 ≤ n ∧ hasP H B back n u) = hasP H B back n := by funext u; simp [h1]
    have hm2 : ∀ w1, Fr N0 W w1 → Calls Tryz.prog 162 #[.pointer (some ⟨px, 0, none⟩), .bool back, .int .i64 n] w1 fun e w2 => Q e w2 ∧ ∃ v, e = .returned v := fun w1 hf => (hm w1 hf).mono fun e w2 hh => ⟨by rw [← hQ, hPQ]; exact hh, by obtain ⟨v, xs, h1, -⟩ := hh; exact ⟨v, h1⟩⟩
    rw [hQ]
    have HM := Lib.hid hm2
    have hc3 := ((Fr.refl N0 W).alloc (.cells #[.int .u8 kd, .string pred, .bool back, .slice (some ⟨b, off, none⟩) m cap, uv, sv] 94)).cell id hc2
    have h1' : n ≥ 1 := h1
    clear hm hm2 h hQ hPQ k3 k5 hc hv hf hn hm0 e0
    go_enter Tryz.func163, Tryz.ntmps163
    go_wp2_with (go_at_call 162; refine (HM.out _ ((Fr.refl _ _).alloc _)).mono ?_; rintro e w1 ⟨hq, v, rfl⟩)
    (try go_ret)
    exact hq
  · have hno : NewInts W (fun u => 1 ≤ n ∧ hasP H B back n u) (.returned (.slice none 0 0)) = NewInts W (fun _ => False) (.returned (.slice none 0 0)) := by
      congr 1; funext u; simp [h1]
    have hnil : ∀ w', Fr N0 W w' → NewInts W (fun u => 1 ≤ n ∧ hasP H B back n u) (.returned (.slice none 0 0)) w' := fun w' hf => ⟨.slice none 0 0, [], rfl, World.ownsRow_nil _ _ _ _, List.Pairwise.nil, fun u => by simp [h1], hf⟩
    have HN := Lib.hid hnil
    have h1' : ¬ n ≥ 1 := h1
    have hc3 := ((Fr.refl N0 W).alloc (.cells #[.int .u8 kd, .string pred, .bool back, .slice (some ⟨b, off, none⟩) m cap, uv, sv] 94)).cell id hc2
    clear hno hnil h k3 k5 hc hv hf hn hm0 e0
    go_enter Tryz.func163, Tryz.ntmps163
    go_wp2
    (try go_ret)
    exact HN.out _ ((Fr.refl _ _).alloc _)
end Go.Proofs.YtefepfiijoafbaaGreat
namespace Go.Proofs.YtefepfiijoafbaaGreat
open Go.RowKit Go.Shelf Go.Maps Go.Sort
attribute [local go_sem] Oper.semAt_some
attribute [local irreducible] wpQuiet
set_option linter.unusedVariables false
set_option linter.unusedSimpArgs false

set_option maxRecDepth 100000 in
set_option maxHeartbeats 1000000 in
theorem contV_any (w : World) (b : Nat) (v : Value) (xs : List Val) (h : RowsK Val.enc 5 w b v xs) (hl : xs.length ≤ 1000000) (y : Val) :
    Calls Tryz.prog 153 #[v, .agg y.enc.toArray] w fun e w' => e = .returned (.bool (xs.any (eqVal y))) ∧ Fr N0 w w' := by
  have hc := fun w' (hf : Fr N0 w w') => idxV_any w' b v xs (rowsK_frT (enc := Val.enc) (n := 5) val_len h hf fun _ => id) hl y
  obtain ⟨p, hp⟩ : ∃ p, eqVal y = p := ⟨_, rfl⟩
  simp only [hp] at hc ⊢
  clear hp
  obtain ⟨zk, zb, zn, zs, zu⟩ := y
  simp only [Val.enc] at hc ⊢
  have HC := Lib.hid hc
  clear hc h
  go_enter Tryz.func153, Tryz.ntmps153
  go_wp2_with (go_at_call 212; refine (HC.out _ ((Fr.refl _ _).alloc _)).mono ?_; rintro e w1 ⟨rfl, hf1⟩)
  go_ret
  exact ⟨ret_bool idxW_ge, ((Fr.refl _ _).alloc _).then0 hf1⟩
theorem enters_fEq1 : ∀ args w, (callFunc 165 args).run Tryz.prog w = .ok (.enter 165 args) w := enters_of Tryz.func165 (by kernel_rfl) rfl
theorem enters_fBtw1 : ∀ args w, (callFunc 176 args).run Tryz.prog w = .ok (.enter 176 args) w := enters_of Tryz.func176 (by kernel_rfl) rfl
set_option maxRecDepth 100000 in
set_option maxHeartbeats 2000000 in
theorem fEq1_any (W : World) (bf b : Nat) (f : Fn) (vv uv sv : Value) (x : Val) (hf : FnAt W b f vv uv sv) (hb : W.heap[bf]? = some (.cells (f.enc vv uv sv) 94 (0, 0))) :
    Calls Tryz.prog 165 #[.agg x.enc.toArray, .pointer (some ⟨bf, 0, none⟩)] W fun e w' => e = .returned (.bool (f.vals.any (eqVal x))) ∧ Fr N0 W w' := by
  have hc := fun w' (hw : Fr N0 W w') => contV_any w' b vv f.vals (hf.fr hw).vals hf.len x
  obtain ⟨A, hA⟩ : ∃ A, f.vals.any (eqVal x) = A := ⟨_, rfl⟩
  simp only [hA] at hc ⊢
  obtain ⟨kd, pred, back, vals, nu, ns⟩ := f
  obtain ⟨zk, zb, zn, zs, zu⟩ := x
  simp only [Val.enc, Fn.enc] at hc hb ⊢
  have HC := Lib.hid hc
  have hb1 := ((Fr.refl N0 W).alloc (.cells #[.int .u8 zk, .bool zb, .int .i64 zn, .string zs, .int .u64 zu] 57)).at (k := bf) id (lt_of_block hb)
  have hb2 := hb1.trans hb
  obtain ⟨m1, n1, l1⟩ := box_cells hb2
  clear hc hA hf hb hb1 hb2
  go_enter Tryz.func165, Tryz.ntmps165
  go_wp2_with (go_at_call 153; refine (HC.out _ ((Fr.refl _ _).alloc _)).mono ?_; rintro e w1 ⟨rfl, hf1⟩)
  (try go_ret)
  exact ⟨rfl, ((Fr.refl _ _).alloc _).then0 hf1⟩
/-- The nodes of whose values some is so. -/
def anyP (H : Int → List Val) (p : Val → Bool) (u : Int) : Prop := (H u).any p = true
set_option maxRecDepth 100000 in
set_option maxHeartbeats 2000000 in
theorem fEq_any (W : World) (lo px bn bb N : Nat) (H : Int → List Val) (B : Int → List Int) (h : LookAt W lo px bn bb N H B) (hH : HOk H N) (hN : N ≤ 900000) (f : Fn) (vv uv sv : Value) (b : Nat) (hf : FnAt W b f vv uv sv) :
    Calls Tryz.prog 164 #[.pointer (some ⟨px, 0, none⟩), .agg (f.enc vv uv sv)] W (NewInts W (anyP H fun x => f.vals.any (eqVal x))) := by
  have hm := fun W1 (hW : Fr N0 W W1) bf (hb : W1.heap[bf]? = some (.cells (f.enc vv uv sv) 94 (0, 0))) => (where_any W1 lo px bn bb N H B (h.fr hW) hH hN 165 #[.pointer (some ⟨bf, 0, none⟩)] (fun x => f.vals.any (eqVal x))
    (fun u x hx W2 hW2 => fEq1_any W2 bf b f vv uv sv x (hf.fr (hW.then0 hW2)) ((hW2.at id (lt_of_block hb)).trans hb)) enters_fEq1).mono fun e w2 hh => NewInts.from hh hW
  obtain ⟨Q, hQ⟩ : ∃ Q, NewInts W (anyP H fun x => f.vals.any (eqVal x)) = Q := ⟨_, rfl⟩
  have hm2 : ∀ W1, Fr N0 W W1 → ∀ bf, W1.heap[bf]? = some (.cells (f.enc vv uv sv) 94 (0, 0)) → Calls Tryz.prog 159 #[.pointer (some ⟨px, 0, none⟩), .func (.func 165) #[] #[.pointer (some ⟨bf, 0, none⟩)]] W1 fun e w2 => Q e w2 ∧ ∃ v, e = .returned v := fun W1 hW bf hb => (hm W1 hW bf hb).mono fun e w2 hh => ⟨by rw [← hQ]; exact hh, by obtain ⟨v, xs, h1, -⟩ := hh; exact ⟨v, h1⟩⟩
  rw [hQ]
  obtain ⟨kd, pred, back, vals, nu, ns⟩ := f
  simp only [Fn.enc] at hm2 ⊢
  have HM := Lib.hid hm2
  clear hm hm2 h hQ hf
  go_enter Tryz.func164, Tryz.ntmps164
  go_wp2_with (go_at_call 159; refine (HM.out _ ((Fr.refl _ _).alloc _) _ (World.alloc_heap_new W _)).mono ?_; rintro e w1 ⟨hq, v, rfl⟩)
  (try go_ret)
  exact hq
end Go.Proofs.YtefepfiijoafbaaGreat
