/- What index's finders answer: Between. What index's finders answer: the comparisons of numbers. What index's finders answer: the comparing finders; the finders' map. -/
import Derived.BigQuiet
import Derived.Test.YtefepfiijoafbaaGreatQFndB
namespace Go.Proofs.YtefepfiijoafbaaGreat
open Go.RowKit Go.Shelf Go.Maps Go.Sort
attribute [local go_sem] Oper.semAt_some
attribute [local irreducible] wpQuiet
set_option linter.unusedVariables false
set_option linter.unusedSimpArgs false

theorem vals_at {W : World} {b : Nat} {vv : Value} {l : List Val} (h : RowsK Val.enc 5 W b vv l) (i : Nat) {x : Val} (hi : l[i]? = some x) : ∃ off cap, vv = .slice (some ⟨b, off, none⟩) l.length cap ∧ W.cell? ⟨b, off + i * 5 + 2, none⟩ = some (.int .i64 x.n) := by
  obtain ⟨a, off, cap, rfl, -, -, k3, -, k5⟩ := h
  have h0 : i < l.length := by
    rcases Nat.lt_or_ge i l.length with e | e
    · exact e
    · rw [List.getElem?_eq_none e] at hi; cases hi
  obtain rfl := k3 (by omega)
  have e0 : l[i] = x := by rw [List.getElem?_eq_getElem h0] at hi; exact Option.some.inj hi
  have := k5 i h0 2 (by decide)
  rw [e0] at this
  exact ⟨off, cap, rfl, by simpa [Val.enc] using this⟩
end Go.Proofs.YtefepfiijoafbaaGreat
namespace Go.Proofs.YtefepfiijoafbaaGreat
open Go.RowKit Go.Shelf Go.Maps Go.Sort
attribute [local go_sem] Oper.semAt_some
attribute [local irreducible] wpQuiet
set_option linter.unusedVariables false
set_option linter.unusedSimpArgs false

theorem enters_fCmp2 : ∀ args w, (callFunc 160 args).run Tryz.prog w = .ok (.enter 160 args) w := enters_of Tryz.func160 (by kernel_rfl) rfl
set_option maxRecDepth 100000 in
set_option maxHeartbeats 2000000 in
theorem fCmp2_any (W : World) (bc bf b : Nat) (f : Fn) (vv uv sv : Value) (x v0 : Val) (gf : FuncId) (c : Int → Int → Bool) (hg : ∀ a b W, Calls Tryz.prog gf #[.int .i64 a, .int .i64 b] W fun e w' => e = .returned (.bool (c a b)) ∧ w' = W)
    (eg : ∀ args w, (callFunc gf args).run Tryz.prog w = .ok (.enter gf args) w) (hf : FnAt W b f vv uv sv) (hv0 : f.vals[0]? = some v0) (hb : W.heap[bf]? = some (.cells (f.enc vv uv sv) 94 (0, 0))) (hbc : W.heap[bc]? = some (.cells #[.func (.func gf) #[] #[]] 234 (0, 0))) :
    Calls Tryz.prog 160 #[.agg x.enc.toArray, .pointer (some ⟨bc, 0, none⟩), .pointer (some ⟨bf, 0, none⟩)] W fun e w' => e = .returned (.bool (c x.n v0.n)) ∧ Fr N0 W w' := by
  obtain ⟨off, cap, rfl, c0⟩ := vals_at hf.vals 0 hv0
  have hl2 : 0 < f.vals.length := by
    rcases Nat.lt_or_ge 0 f.vals.length with e | e
    · exact e
    · rw [List.getElem?_eq_none e] at hv0; cases hv0
  obtain ⟨a0, h0⟩ : ∃ n, v0.n = n := ⟨_, rfl⟩
  rw [h0] at c0 ⊢
  obtain ⟨kd, pred, back, vals, nu, ns⟩ := f
  obtain ⟨zk, zb, zn, zs, zu⟩ := x
  simp only [Val.enc, Fn.enc] at hb ⊢
  obtain ⟨m, hm⟩ : ∃ m, vals.length = m := ⟨_, rfl⟩
  simp only [hm] at hb hl2 ⊢
  have hm0 : (0 : Int) < (m : Int) := by omega
  have hfa := (Fr.refl N0 W).alloc (.cells #[.int .u8 zk, .bool zb, .int .i64 zn, .string zs, .int .u64 zu] 57)
  have hb2 := (hfa.at (k := bf) id (lt_of_block hb)).trans hb
  have hc2 := cell_of_one ((hfa.at (k := bc) id (lt_of_block hbc)).trans hbc)
  obtain ⟨m1, n1, l1⟩ := box_cells hb2
  simp only [Nat.zero_mul, Nat.add_zero] at c0
  replace c0 := hfa.cell id c0
  have HG := Lib.hid hg
  clear hf hb hb2 hfa hv0 hm h0 hg hbc
  go_enter Tryz.func160, Tryz.ntmps160
  go_wp2
  go_quiet (exact Calls.quiet_of_same (HG.out _ _ _))
  go_wp2
  (try go_ret)
  exact ⟨rfl, ((Fr.refl _ _).alloc _).drewN _⟩
end Go.Proofs.YtefepfiijoafbaaGreat
namespace Go.Proofs.YtefepfiijoafbaaGreat
open Go.RowKit Go.Shelf Go.Maps Go.Sort
attribute [local go_sem] Oper.semAt_some
attribute [local irreducible] wpQuiet
set_option linter.unusedVariables false
set_option linter.unusedSimpArgs false

def cmpP (c : Int → Int → Bool) (v0 : Val) (x : Val) : Bool := c x.n v0.n
set_option maxRecDepth 100000 in
set_option maxHeartbeats 2000000 in
theorem fCmp1_any (W : World) (lo px bn bb N bc : Nat) (H : Int → List Val) (B : Int → List Int) (h : LookAt W lo px bn bb N H B) (hH : HOk H N) (hN : N ≤ 9000000000) (f : Fn) (vv uv sv : Value) (b : Nat) (hf : FnAt W b f vv uv sv) (v0 : Val) (hv0 : f.vals[0]? = some v0)
    (gf : FuncId) (c : Int → Int → Bool) (hg : ∀ a b W, Calls Tryz.prog gf #[.int .i64 a, .int .i64 b] W fun e w' => e = .returned (.bool (c a b)) ∧ w' = W)
    (eg : ∀ args w, (callFunc gf args).run Tryz.prog w = .ok (.enter gf args) w) (hbc : W.heap[bc]? = some (.cells #[.func (.func gf) #[] #[]] 234 (0, 0))) :
    Calls Tryz.prog 158 #[.pointer (some ⟨px, 0, none⟩), .agg (f.enc vv uv sv), .pointer (some ⟨bc, 0, none⟩)] W (NewInts W (anyP H (cmpP c v0))) := by
  have hm := fun W1 (hW : Fr N0 W W1) bf (hb : W1.heap[bf]? = some (.cells (f.enc vv uv sv) 94 (0, 0))) => (where_any W1 lo px bn bb N H B (h.fr hW) hH hN 160 #[.pointer (some ⟨bc, 0, none⟩), .pointer (some ⟨bf, 0, none⟩)] (cmpP c v0)
    (fun u x hx W2 hW2 => fCmp2_any W2 bc bf b f vv uv sv x v0 gf c hg eg (hf.fr (hW.then0 hW2)) hv0 ((hW2.at id (lt_of_block hb)).trans hb) (((hW.then0 hW2).at id (lt_of_block hbc)).trans hbc)) enters_fCmp2).mono fun e w2 hh => NewInts.from hh hW
  obtain ⟨Q, hQ⟩ : ∃ Q, NewInts W (anyP H (cmpP c v0)) = Q := ⟨_, rfl⟩
  have hm2 : ∀ W1, Fr N0 W W1 → ∀ bf, W1.heap[bf]? = some (.cells (f.enc vv uv sv) 94 (0, 0)) → Calls Tryz.prog 159 #[.pointer (some ⟨px, 0, none⟩), .func (.func 160) #[] #[.pointer (some ⟨bc, 0, none⟩), .pointer (some ⟨bf, 0, none⟩)]] W1 fun e w2 => Q e w2 ∧ ∃ v, e = .returned v := fun W1 hW bf hb => (hm W1 hW bf hb).mono fun e w2 hh => ⟨by rw [← hQ]; exact hh, by obtain ⟨v, xs, h1, -⟩ := hh; exact ⟨v, h1⟩⟩
  rw [hQ]
  obtain ⟨kd, pred, back, vals, nu, ns⟩ := f
  simp only [Fn.enc] at hm2 ⊢
  have HM := Lib.hid hm2
  clear hm hm2 h hQ hf hg hbc eg
  go_enter Tryz.func158, Tryz.ntmps158
  go_wp2_with (go_at_call 159; refine (HM.out _ ((Fr.refl _ _).alloc _) _ (World.alloc_heap_new W _)).mono ?_; rintro e w1 ⟨hq, v, rfl⟩)
  (try go_ret)
  exact hq
theorem enters_fCmp : ∀ args w, (callFunc 157 args).run Tryz.prog w = .ok (.enter 157 args) w := enters_of Tryz.func157 (by kernel_rfl) rfl
theorem fCmp_any (g : Value) (hg : g.oneCell' = true) (hc : g.cells = #[g]) (W : World) : Calls Tryz.prog 157 #[g] W fun e w' => e = .returned (.func (.func 158) #[] #[.pointer (some ⟨W.heap.size, 0, none⟩)]) ∧ w' = W.alloc (.cells #[g] 234) := by
  go_enter Tryz.func157, Tryz.ntmps157
  go_wp2
  go_ret
  exact ⟨rfl, rfl⟩
end Go.Proofs.YtefepfiijoafbaaGreat
