/- IndexNone: its regions. -/
import Derived.Deep.DrawnRows
import Derived.Deep.RegionHeld3
import Derived.Test.YtefepfiijoafbaaGreatQIs
import Derived.Test.YtefepfiijoafbaaGreatQVOrd3
import Derived.Test.YtefepfiijoafbaaGreatQValR
namespace Go.Proofs.YtefepfiijoafbaaGreat
open Go.RowKit Go.Shelf Go.Maps
attribute [local go_sem] Oper.semAt_some
attribute [local go_sem ↓] Go.wp_at_zero Go.wp_at_succ
attribute [local irreducible] wpQuiet
set_option linter.unusedVariables false
set_option linter.unusedSimpArgs false

def lxSnd : Code → Code
  | .seq _ b => b
  | c => c
def lxLoop : Code → Code
  | .loop c => c
  | c => c
def lxIn : Code → Code
  | .block _ c => c
  | c => c
noncomputable def rnB (n : Nat) : Code := lvSuf n ((Tryz.f8.body).getD .skip)
/-- A round's text. -/
noncomputable def rnI (n : Nat) : Code := lvSuf n (lxIn (lvFst (lxSnd (lxLoop (lxIn (lxSnd (lvFst (rnB 5))))))))
abbrev Box2N (A : Nat) (cs : Array Value) (B : Nat) (ds : Array Value) (W : World) : Prop := BoxB A cs W ∧ BoxB B ds W
theorem box2N_keep {T : Nat → Prop} {A B : Nat} {cs ds : Array Value} {W W' : World} (hf : Fr T W W') (hA : ¬ T A) (hB : ¬ T B) (h : Box2N A cs B ds W) : Box2N A cs B ds W' := ⟨boxB_keep hf hA h.1, boxB_keep hf hB h.2⟩
/-- The slots that no round turns, and the round's number. -/
def kpL : List Nat := [0, 1, 2, 3, 4, 5, 6, 7, 8, 9, 20, 21, 22, 23, 24, 25, 26, 27, 28]
theorem keep_mkN {f f' : Nat → Value} (h : kpL.map f' = kpL.map f) : ∀ i ∈ kpL, f' i = f i := List.map_inj_left.1 h
structure RnF (f : Nat → Value) (A B : Nat) (k t u : Int) : Prop where
  h1 : f 1 = .int .u64 t
  h2 : f 2 = .int .u64 u
  h3 : f 3 = .pointer (some ⟨B, 0, none⟩)
  h8 : f 8 = .pointer (some ⟨A, 0, none⟩)
  h9 : f 9 = .int .i64 k
def Rn1 (f : Nat → Value) : Prop := f 10 = .slice none 0 0 ∧ f 11 = .int .i64 1
def Rn2 (f : Nat → Value) : Prop := Rn1 f ∧ f 12 = .bool false ∧ f 13 = .int .i64 1
def Rn3 (f : Nat → Value) : Prop := Rn2 f ∧ f 14 = .slice none 0 0 ∧ f 15 = .int .i64 1
def Rn4 (f : Nat → Value) : Prop := Rn3 f ∧ f 16 = .int .i64 0 ∧ f 17 = .int .i64 1
def Rn5 (f : Nat → Value) : Prop := Rn4 f ∧ f 18 = .slice none 0 0 ∧ f 19 = .int .i64 1
/-- What lies while IndexNone runs. -/
structure RnW (A B p : Nat) (fn : Fn) (vv uv sv : Value) (W : World) : Prop where
  boxA : BoxB A #[.pointer none, .pointer (some ⟨p, 0, none⟩)] W
  boxB : BoxB B (fn.enc vv uv sv) W
  none_ : W.cell? ⟨p, 0, none⟩ = some (.string ⟨#[]⟩)
section
variable {A B p : Nat} {fn : Fn} {vv uv sv : Value} {W W' : World}
theorem RnW.fr (h : RnW A B p fn vv uv sv W) (hf : Fr N0 W W') : RnW A B p fn vv uv sv W' := ⟨boxB_keep hf id h.boxA, boxB_keep hf id h.boxB, hf.cell id h.none_⟩
def elemN (p : Nat) (k : Int) : Value := if k = 0 then .pointer none else .pointer (some ⟨p, 0, none⟩)
theorem RnW.pnone (h : RnW A B p fn vv uv sv W) (k : Int) : PNone W (elemN p k) := by
  unfold elemN
  split
  · exact .inl rfl
  · exact .inr ⟨p, rfl, h.none_⟩
end

set_option maxRecDepth 100000 in
set_option maxHeartbeats 4000000 in
theorem rn10 {K : Act → World → Prop} {Q : Exit → Act → World → Prop} (W : World) (f : Nat → Value) (A B p : Nat) (k t u : Int) (hk : k = 0 ∨ k = 1) (fn : Fn) (vv uv sv : Value) (hf : RnF f A B k t u) (hw : RnW A B p fn vv uv sv W)
    (hK : ∀ f' W', (∀ i ∈ kpL, f' i = f i) → RnF f' A B k t u → Rn1 f' → Fr N0 W W' → K (frA 120 f') W') :
    Code.wp Tryz.prog (lvFst (rnI 0)) (Exit.then K Q) (frA 120 f) W := by
  have hc := fun W' (hx : Fr N0 W W') => find_none W' (elemN p k) ((hw.fr hx).pnone k) fn vv uv sv t
  obtain ⟨kd, pred, back, vals, nu, ns⟩ := fn
  have hA := hw.boxA; have hB := hw.boxB
  simp only [Fn.enc] at hc hB
  have HC := Lib.hid hc; have HK := Lib.hid hK
  have hb : Box2N A #[.pointer none, .pointer (some ⟨p, 0, none⟩)] B #[.int .u8 kd, .string pred, .bool back, vv, uv, sv] W := ⟨hA, hB⟩
  have HBD := Lib.hid (box2N_keep (Fr.refl N0 W).drew id id hb)
  obtain ⟨mA, lA⟩ := hA
  obtain ⟨mB, lB⟩ := hB
  clear hb hc hK hw
  obtain ⟨h1, h2, h3, h8, h9⟩ := hf
  have HKP : Hid (kpL.map f = [f 0, .int .u64 t, .int .u64 u, .pointer (some ⟨B, 0, none⟩), f 4, f 5, f 6, f 7, .pointer (some ⟨A, 0, none⟩), .int .i64 k, f 20, f 21, f 22, f 23, f 24, f 25, f 26, f 27, f 28]) := by
    show [f 0, f 1, f 2, f 3, f 4, f 5, f 6, f 7, f 8, f 9, f 20, f 21, f 22, f 23, f 24, f 25, f 26, f 27, f 28] = _
    rw [h1, h2, h3, h8, h9]
  show Code.wp _ _ _ { tmps := #[f 0, f 1, f 2, f 3, f 4, f 5, f 6, f 7, f 8, f 9, f 10, f 11, f 12, f 13, f 14, f 15, f 16, f 17, f 18, f 19, f 20, f 21, f 22, f 23, f 24, f 25, f 26, f 27, f 28, f 29, f 30, f 31, f 32, f 33, f 34, f 35, f 36, f 37, f 38, f 39, f 40, f 41, f 42, f 43, f 44, f 45, f 46, f 47, f 48, f 49, f 50, f 51, f 52, f 53, f 54, f 55, f 56, f 57, f 58, f 59, f 60, f 61, f 62, f 63, f 64, f 65, f 66, f 67, f 68, f 69, f 70, f 71, f 72, f 73, f 74, f 75, f 76, f 77, f 78, f 79, f 80, f 81, f 82, f 83, f 84, f 85, f 86, f 87, f 88, f 89, f 90, f 91, f 92, f 93, f 94, f 95, f 96, f 97, f 98, f 99, f 100, f 101, f 102, f 103, f 104, f 105, f 106, f 107, f 108, f 109, f 110, f 111, f 112, f 113, f 114, f 115, f 116, f 117, f 118, f 119], defers := [] } _
  rw [h1, h2, h3, h8, h9]
  clear h1 h2 h3 h8 h9
  rcases hk with rfl | rfl
  all_goals
    rw [elemN] at HC
    first | rw [if_pos rfl] at HC | rw [if_neg (by decide)] at HC
    conv => arg 2; whnf
    go_region_held3 (Box2N A #[.pointer none, .pointer (some ⟨p, 0, none⟩)] B #[.int .u8 kd, .string pred, .bool back, vv, uv, sv]) (first
      | (with_reducible assumption)
      | (with_reducible exact HBD.out)
      | (with_reducible exact hb3)
      | fail) (first
      | (go_simp; go_at_call 41; refine (HC.out _ (Fr.refl N0 W).drew).mono ?_; rintro e w3 ⟨rfl, hf3⟩; have hfw3 : Fr N0 W w3 := (Fr.refl N0 W).drew.then0 hf3; have hb3 := box2N_keep hf3 id id HBD.out)
      | fail)
    all_goals
      refine cut_use (n := 120) (K := K) _ rfl ?_
      exact HK.out _ _ (keep_mkN (Eq.trans rfl HKP.out.symm)) ⟨rfl, rfl, rfl, rfl, rfl⟩ ⟨rfl, rfl⟩ hfw3

set_option maxRecDepth 100000 in
set_option maxHeartbeats 4000000 in
theorem rn11 {K : Act → World → Prop} {Q : Exit → Act → World → Prop} (W : World) (f : Nat → Value) (A B p : Nat) (k t u : Int) (hk : k = 0 ∨ k = 1) (fn : Fn) (vv uv sv : Value) (hf : RnF f A B k t u) (hr : Rn1 f) (hw : RnW A B p fn vv uv sv W)
    (hK : ∀ f' W', (∀ i ∈ kpL, f' i = f i) → RnF f' A B k t u → Rn2 f' → Fr N0 W W' → K (frA 120 f') W') :
    Code.wp Tryz.prog (lvFst (rnI 1)) (Exit.then K Q) (frA 120 f) W := by
  have hc := fun W' (hx : Fr N0 W W') => is_none W' (elemN p k) ((hw.fr hx).pnone k) fn vv uv sv t u
  obtain ⟨kd, pred, back, vals, nu, ns⟩ := fn
  have hA := hw.boxA; have hB := hw.boxB
  simp only [Fn.enc] at hc hB
  have HC := Lib.hid hc; have HK := Lib.hid hK
  have hb : Box2N A #[.pointer none, .pointer (some ⟨p, 0, none⟩)] B #[.int .u8 kd, .string pred, .bool back, vv, uv, sv] W := ⟨hA, hB⟩
  have HBD := Lib.hid (box2N_keep (Fr.refl N0 W).drew id id hb)
  obtain ⟨mA, lA⟩ := hA
  obtain ⟨mB, lB⟩ := hB
  clear hb hc hK hw
  obtain ⟨h1, h2, h3, h8, h9⟩ := hf
  obtain ⟨g0, g1⟩ := hr
  have HKP : Hid (kpL.map f = [f 0, .int .u64 t, .int .u64 u, .pointer (some ⟨B, 0, none⟩), f 4, f 5, f 6, f 7, .pointer (some ⟨A, 0, none⟩), .int .i64 k, f 20, f 21, f 22, f 23, f 24, f 25, f 26, f 27, f 28]) := by
    show [f 0, f 1, f 2, f 3, f 4, f 5, f 6, f 7, f 8, f 9, f 20, f 21, f 22, f 23, f 24, f 25, f 26, f 27, f 28] = _
    rw [h1, h2, h3, h8, h9]
  show Code.wp _ _ _ { tmps := #[f 0, f 1, f 2, f 3, f 4, f 5, f 6, f 7, f 8, f 9, f 10, f 11, f 12, f 13, f 14, f 15, f 16, f 17, f 18, f 19, f 20, f 21, f 22, f 23, f 24, f 25, f 26, f 27, f 28, f 29, f 30, f 31, f 32, f 33, f 34, f 35, f 36, f 37, f 38, f 39, f 40, f 41, f 42, f 43, f 44, f 45, f 46, f 47, f 48, f 49, f 50, f 51, f 52, f 53, f 54, f 55, f 56, f 57, f 58, f 59, f 60, f 61, f 62, f 63, f 64, f 65, f 66, f 67, f 68, f 69, f 70, f 71, f 72, f 73, f 74, f 75, f 76, f 77, f 78, f 79, f 80, f 81, f 82, f 83, f 84, f 85, f 86, f 87, f 88, f 89, f 90, f 91, f 92, f 93, f 94, f 95, f 96, f 97, f 98, f 99, f 100, f 101, f 102, f 103, f 104, f 105, f 106, f 107, f 108, f 109, f 110, f 111, f 112, f 113, f 114, f 115, f 116, f 117, f 118, f 119], defers := [] } _
  rw [h1, h2, h3, h8, h9, g0, g1]
  clear h1 h2 h3 h8 h9 g0 g1
  rcases hk with rfl | rfl
  all_goals
    rw [elemN] at HC
    first | rw [if_pos rfl] at HC | rw [if_neg (by decide)] at HC
    conv => arg 2; whnf
    go_region_held3 (Box2N A #[.pointer none, .pointer (some ⟨p, 0, none⟩)] B #[.int .u8 kd, .string pred, .bool back, vv, uv, sv]) (first
      | (with_reducible assumption)
      | (with_reducible exact HBD.out)
      | (with_reducible exact hb3)
      | fail) (first
      | (go_simp; go_at_call 43; refine (HC.out _ (Fr.refl N0 W).drew).mono ?_; rintro e w3 ⟨rfl, hf3⟩; have hfw3 : Fr N0 W w3 := (Fr.refl N0 W).drew.then0 hf3; have hb3 := box2N_keep hf3 id id HBD.out)
      | fail)
    all_goals
      refine cut_use (n := 120) (K := K) _ rfl ?_
      exact HK.out _ _ (keep_mkN (Eq.trans rfl HKP.out.symm)) ⟨rfl, rfl, rfl, rfl, rfl⟩ ⟨⟨rfl, rfl⟩, rfl, rfl⟩ hfw3

set_option maxRecDepth 100000 in
set_option maxHeartbeats 4000000 in
theorem rn12 {K : Act → World → Prop} {Q : Exit → Act → World → Prop} (W : World) (f : Nat → Value) (A B p : Nat) (k t u : Int) (hk : k = 0 ∨ k = 1) (fn : Fn) (vv uv sv : Value) (hf : RnF f A B k t u) (hr : Rn2 f) (hw : RnW A B p fn vv uv sv W)
    (hK : ∀ f' W', (∀ i ∈ kpL, f' i = f i) → RnF f' A B k t u → Rn3 f' → Fr N0 W W' → K (frA 120 f') W') :
    Code.wp Tryz.prog (lvFst (rnI 2)) (Exit.then K Q) (frA 120 f) W := by
  have hc := fun W' (hx : Fr N0 W W') => fun us => order_none W' (elemN p k) ((hw.fr hx).pnone k) t true us
  have HC := Lib.hid hc; have HK := Lib.hid hK
  obtain ⟨mA, lA⟩ := hw.boxA
  clear hc hK hw
  obtain ⟨h1, h2, h3, h8, h9⟩ := hf
  obtain ⟨⟨g0, g1⟩, g2, g3⟩ := hr
  have HKP : Hid (kpL.map f = [f 0, .int .u64 t, .int .u64 u, .pointer (some ⟨B, 0, none⟩), f 4, f 5, f 6, f 7, .pointer (some ⟨A, 0, none⟩), .int .i64 k, f 20, f 21, f 22, f 23, f 24, f 25, f 26, f 27, f 28]) := by
    show [f 0, f 1, f 2, f 3, f 4, f 5, f 6, f 7, f 8, f 9, f 20, f 21, f 22, f 23, f 24, f 25, f 26, f 27, f 28] = _
    rw [h1, h2, h3, h8, h9]
  show Code.wp _ _ _ { tmps := #[f 0, f 1, f 2, f 3, f 4, f 5, f 6, f 7, f 8, f 9, f 10, f 11, f 12, f 13, f 14, f 15, f 16, f 17, f 18, f 19, f 20, f 21, f 22, f 23, f 24, f 25, f 26, f 27, f 28, f 29, f 30, f 31, f 32, f 33, f 34, f 35, f 36, f 37, f 38, f 39, f 40, f 41, f 42, f 43, f 44, f 45, f 46, f 47, f 48, f 49, f 50, f 51, f 52, f 53, f 54, f 55, f 56, f 57, f 58, f 59, f 60, f 61, f 62, f 63, f 64, f 65, f 66, f 67, f 68, f 69, f 70, f 71, f 72, f 73, f 74, f 75, f 76, f 77, f 78, f 79, f 80, f 81, f 82, f 83, f 84, f 85, f 86, f 87, f 88, f 89, f 90, f 91, f 92, f 93, f 94, f 95, f 96, f 97, f 98, f 99, f 100, f 101, f 102, f 103, f 104, f 105, f 106, f 107, f 108, f 109, f 110, f 111, f 112, f 113, f 114, f 115, f 116, f 117, f 118, f 119], defers := [] } _
  rw [h1, h2, h3, h8, h9, g0, g1, g2, g3]
  clear h1 h2 h3 h8 h9 g0 g1 g2 g3
  rcases hk with rfl | rfl
  all_goals
    rw [elemN] at HC
    first | rw [if_pos rfl] at HC | rw [if_neg (by decide)] at HC
    conv => arg 2; whnf
    go_wp2_with fail
    refine (HC.out _ ((Fr.refl N0 W).alloc _) _).mono ?_
    rintro e w3 ⟨rfl, hf3⟩
    have HF := Lib.hid (((Fr.refl N0 W).alloc _).then0 hf3)
    clear hf3
    go_wp2_with fail
    refine cut_use (n := 120) (K := K) _ rfl ?_
    exact HK.out _ _ (keep_mkN (Eq.trans rfl HKP.out.symm)) ⟨rfl, rfl, rfl, rfl, rfl⟩ ⟨⟨⟨rfl, rfl⟩, rfl, rfl⟩, rfl, rfl⟩ HF.out

set_option maxRecDepth 100000 in
set_option maxHeartbeats 4000000 in
theorem rn13 {K : Act → World → Prop} {Q : Exit → Act → World → Prop} (W : World) (f : Nat → Value) (A B p : Nat) (k t u : Int) (hk : k = 0 ∨ k = 1) (fn : Fn) (vv uv sv : Value) (hf : RnF f A B k t u) (hr : Rn3 f) (hw : RnW A B p fn vv uv sv W)
    (hK : ∀ f' W', (∀ i ∈ kpL, f' i = f i) → RnF f' A B k t u → Rn4 f' → Fr N0 W W' → K (frA 120 f') W') :
    Code.wp Tryz.prog (lvFst (rnI 3)) (Exit.then K Q) (frA 120 f) W := by
  have hc := fun W' (hx : Fr N0 W W') => count_none W' (elemN p k) ((hw.fr hx).pnone k) t u false
  have HC := Lib.hid hc; have HK := Lib.hid hK
  obtain ⟨mA, lA⟩ := hw.boxA
  clear hc hK hw
  obtain ⟨h1, h2, h3, h8, h9⟩ := hf
  obtain ⟨⟨⟨g0, g1⟩, g2, g3⟩, g4, g5⟩ := hr
  have HKP : Hid (kpL.map f = [f 0, .int .u64 t, .int .u64 u, .pointer (some ⟨B, 0, none⟩), f 4, f 5, f 6, f 7, .pointer (some ⟨A, 0, none⟩), .int .i64 k, f 20, f 21, f 22, f 23, f 24, f 25, f 26, f 27, f 28]) := by
    show [f 0, f 1, f 2, f 3, f 4, f 5, f 6, f 7, f 8, f 9, f 20, f 21, f 22, f 23, f 24, f 25, f 26, f 27, f 28] = _
    rw [h1, h2, h3, h8, h9]
  show Code.wp _ _ _ { tmps := #[f 0, f 1, f 2, f 3, f 4, f 5, f 6, f 7, f 8, f 9, f 10, f 11, f 12, f 13, f 14, f 15, f 16, f 17, f 18, f 19, f 20, f 21, f 22, f 23, f 24, f 25, f 26, f 27, f 28, f 29, f 30, f 31, f 32, f 33, f 34, f 35, f 36, f 37, f 38, f 39, f 40, f 41, f 42, f 43, f 44, f 45, f 46, f 47, f 48, f 49, f 50, f 51, f 52, f 53, f 54, f 55, f 56, f 57, f 58, f 59, f 60, f 61, f 62, f 63, f 64, f 65, f 66, f 67, f 68, f 69, f 70, f 71, f 72, f 73, f 74, f 75, f 76, f 77, f 78, f 79, f 80, f 81, f 82, f 83, f 84, f 85, f 86, f 87, f 88, f 89, f 90, f 91, f 92, f 93, f 94, f 95, f 96, f 97, f 98, f 99, f 100, f 101, f 102, f 103, f 104, f 105, f 106, f 107, f 108, f 109, f 110, f 111, f 112, f 113, f 114, f 115, f 116, f 117, f 118, f 119], defers := [] } _
  rw [h1, h2, h3, h8, h9, g0, g1, g2, g3, g4, g5]
  clear h1 h2 h3 h8 h9 g0 g1 g2 g3 g4 g5
  rcases hk with rfl | rfl
  all_goals
    rw [elemN] at HC
    first | rw [if_pos rfl] at HC | rw [if_neg (by decide)] at HC
    conv => arg 2; whnf
    go_wp2_with fail
    refine (HC.out _ (Fr.refl N0 W)).mono ?_
    rintro e w3 ⟨rfl, hf3⟩
    have HF := Lib.hid ((Fr.refl N0 W).then0 hf3)
    clear hf3
    go_wp2_with fail
    refine cut_use (n := 120) (K := K) _ rfl ?_
    exact HK.out _ _ (keep_mkN (Eq.trans rfl HKP.out.symm)) ⟨rfl, rfl, rfl, rfl, rfl⟩ ⟨⟨⟨⟨rfl, rfl⟩, rfl, rfl⟩, rfl, rfl⟩, rfl, rfl⟩ HF.out

set_option maxRecDepth 100000 in
set_option maxHeartbeats 4000000 in
theorem rn14 {K : Act → World → Prop} {Q : Exit → Act → World → Prop} (W : World) (f : Nat → Value) (A B p : Nat) (k t u : Int) (hk : k = 0 ∨ k = 1) (fn : Fn) (vv uv sv : Value) (hf : RnF f A B k t u) (hr : Rn4 f) (hw : RnW A B p fn vv uv sv W)
    (hK : ∀ f' W', (∀ i ∈ kpL, f' i = f i) → RnF f' A B k t u → Rn5 f' → Fr N0 W W' → K (frA 120 f') W') :
    Code.wp Tryz.prog (lvFst (rnI 4)) (Exit.then K Q) (frA 120 f) W := by
  have hc := fun W' (hx : Fr N0 W W') => edges_none W' (elemN p k) ((hw.fr hx).pnone k) t u false
  have HC := Lib.hid hc; have HK := Lib.hid hK
  obtain ⟨mA, lA⟩ := hw.boxA
  clear hc hK hw
  obtain ⟨h1, h2, h3, h8, h9⟩ := hf
  obtain ⟨⟨⟨⟨g0, g1⟩, g2, g3⟩, g4, g5⟩, g6, g7⟩ := hr
  have HKP : Hid (kpL.map f = [f 0, .int .u64 t, .int .u64 u, .pointer (some ⟨B, 0, none⟩), f 4, f 5, f 6, f 7, .pointer (some ⟨A, 0, none⟩), .int .i64 k, f 20, f 21, f 22, f 23, f 24, f 25, f 26, f 27, f 28]) := by
    show [f 0, f 1, f 2, f 3, f 4, f 5, f 6, f 7, f 8, f 9, f 20, f 21, f 22, f 23, f 24, f 25, f 26, f 27, f 28] = _
    rw [h1, h2, h3, h8, h9]
  show Code.wp _ _ _ { tmps := #[f 0, f 1, f 2, f 3, f 4, f 5, f 6, f 7, f 8, f 9, f 10, f 11, f 12, f 13, f 14, f 15, f 16, f 17, f 18, f 19, f 20, f 21, f 22, f 23, f 24, f 25, f 26, f 27, f 28, f 29, f 30, f 31, f 32, f 33, f 34, f 35, f 36, f 37, f 38, f 39, f 40, f 41, f 42, f 43, f 44, f 45, f 46, f 47, f 48, f 49, f 50, f 51, f 52, f 53, f 54, f 55, f 56, f 57, f 58, f 59, f 60, f 61, f 62, f 63, f 64, f 65, f 66, f 67, f 68, f 69, f 70, f 71, f 72, f 73, f 74, f 75, f 76, f 77, f 78, f 79, f 80, f 81, f 82, f 83, f 84, f 85, f 86, f 87, f 88, f 89, f 90, f 91, f 92, f 93, f 94, f 95, f 96, f 97, f 98, f 99, f 100, f 101, f 102, f 103, f 104, f 105, f 106, f 107, f 108, f 109, f 110, f 111, f 112, f 113, f 114, f 115, f 116, f 117, f 118, f 119], defers := [] } _
  rw [h1, h2, h3, h8, h9, g0, g1, g2, g3, g4, g5, g6, g7]
  clear h1 h2 h3 h8 h9 g0 g1 g2 g3 g4 g5 g6 g7
  rcases hk with rfl | rfl
  all_goals
    rw [elemN] at HC
    first | rw [if_pos rfl] at HC | rw [if_neg (by decide)] at HC
    conv => arg 2; whnf
    go_wp2_with fail
    refine (HC.out _ (Fr.refl N0 W)).mono ?_
    rintro e w3 ⟨rfl, hf3⟩
    have HF := Lib.hid ((Fr.refl N0 W).then0 hf3)
    clear hf3
    go_wp2_with fail
    refine cut_use (n := 120) (K := K) _ rfl ?_
    exact HK.out _ _ (keep_mkN (Eq.trans rfl HKP.out.symm)) ⟨rfl, rfl, rfl, rfl, rfl⟩ ⟨⟨⟨⟨⟨rfl, rfl⟩, rfl, rfl⟩, rfl, rfl⟩, rfl, rfl⟩, rfl, rfl⟩ HF.out
end Go.Proofs.YtefepfiijoafbaaGreat
