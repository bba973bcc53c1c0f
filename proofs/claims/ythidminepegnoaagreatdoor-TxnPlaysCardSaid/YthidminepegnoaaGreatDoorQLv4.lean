/- The chapter's example: the steps behind line 41, each region a theorem (printed by mklives.py). The chapter's example: asking to be committed, and staged (printed by mklives.py). The chapter's example: decided, and final (printed by mklives.py). The chapter's example: its two tests (printed by mklives.py). The chapter's example: line 41, its writes. -/
import Derived.Test.YthidminepegnoaaGreatDoorQLoops
import Derived.Test.YthidminepegnoaaGreatDoorQLivesL
import Derived.Test.YthidminepegnoaaGreatDoorQBegin
import Derived.Test.YthidminepegnoaaGreatDoorQLaw2
namespace Go.Proofs.YthidminepegnoaaGreatDoor
open Go.RowKit Go.Shelf Go.Maps Go.Sort
attribute [local go_sem] Oper.semAt_some
attribute [local irreducible] wpQuiet
set_option linter.unusedVariables false
set_option linter.unusedSimpArgs false

/-- A row that fills a block. -/
theorem rowsK_of_block {α : Type} {enc : α → List Value} {n : Nat} (hn : ∀ x, (enc x).length = n) {W : World} {S : Nat} {cs : Array Value} {t : TypeId} (xs : List α) (h : W.heap[S]? = some (.cells cs t (0, 0))) (hcs : cs.toList = xs.flatMap enc) (hl : xs.length ≤ 1000) :
    RowsK enc n W S (.slice (some ⟨S, 0, none⟩) xs.length xs.length) xs :=
  ⟨some ⟨S, 0, none⟩, 0, xs.length, rfl, Nat.le_refl _, by omega, fun _ => rfl, by simp, fun i hi c hc => by
    have h1 := flat_get hn xs i hi c hc
    rw [(box_cells h).1, ← h1, ← hcs, Nat.zero_add]
    simp⟩
theorem list_tear {α : Type} (d : α) : ∀ l : List α, (List.range l.length).map (fun i => l.getD i d) = l := fun l => by
  apply List.ext_getElem (by simp)
  intro i h1 h2
  simp at h1
  simp [h1]
theorem cut_mk {n : Nat} {ds : List Deferred} (tm : Array Value) (hs : tm.size = n) : ({ tmps := tm, defers := ds } : Act) = { tmps := ((List.range n).map fun i => tm.getD i (.bool false)).toArray, defers := ds } := by
  subst hs
  have h := list_tear (Value.bool false) tm.toList
  have : ((List.range tm.size).map fun i => tm.getD i (.bool false)) = tm.toList := by
    rw [← h]
    simp [Array.getD_eq_getD_getElem?]
  rw [this]
/-- The frame by a function. -/
def frA (n : Nat) (f : Nat → Value) : Act := { tmps := ((List.range n).map f).toArray, defers := [] }
theorem cut_use {n : Nat} {K : Act → World → Prop} {W : World} (tm : Array Value) (hs : tm.size = n) (h : K (frA n fun i => tm.getD i (.bool false)) W) : K { tmps := tm, defers := [] } W := by
  rw [cut_mk tm hs]; exact h
theorem cut_useQ {n : Nat} {Q : Exit → Act → World → Prop} {e : Exit} {W : World} (tm : Array Value) (hs : tm.size = n) (h : Q e (frA n fun i => tm.getD i (.bool false)) W) : Q e { tmps := tm, defers := [] } W := by
  rw [cut_mk tm hs]; exact h
theorem wp_frA {n : Nat} {P : Program} {c : Code} {Q : Exit → Act → World → Prop} {W : World} (tm : Array Value) (hs : tm.size = n) (h : Code.wp P c Q (frA n fun i => tm.getD i (.bool false)) W) : Code.wp P c Q { tmps := tm, defers := [] } W := by
  rw [cut_mk tm hs]; exact h
/-- The pieces of the function's text. -/
def lvSuf : Nat → Code → Code
  | 0, c => c
  | n + 1, .seq _ b => lvSuf n b
  | _ + 1, c => c
def lvFst : Code → Code
  | .seq a _ => a
  | c => c
noncomputable def lvCode (n : Nat) : Code := lvFst (lvSuf n ((Tryz.f5.body).getD .skip))
/-- The transaction stands in its box. -/
def Lv (w W : World) (B : Nat) (T : Txn) : Prop := ∃ aw cw ak ck an cn ag cg al cl, W.heap[B]? = some (.cells #[.int .u8 T.phase, .int .u64 T.start, .int .u64 T.commit, .slice aw T.writes.length cw, .slice ak T.keys.length ck, .slice an T.needs.length cn, .slice ag T.groups.length cg, .slice al T.left.length cl, .bool T.failed] 32 (0, 0)) ∧ IsTxn W (.agg #[.int .u8 T.phase, .int .u64 T.start, .int .u64 T.commit, .slice aw T.writes.length cw, .slice ak T.keys.length ck, .slice an T.needs.length cn, .slice ag T.groups.length cg, .slice al T.left.length cl, .bool T.failed]) T ∧ Fr N0 w W
def Sent (W : World) (v : Value) (l : List Out) : Prop := Outs W v l
theorem Lv.fr0 {w W W' : World} {B : Nat} {T : Txn} (h : Lv w W B T) (hf : Fr N0 W W') : Lv w W' B T := by
  obtain ⟨aw, cw, ak, ck, an, cn, ag, cg, al, cl, hb, hT, hF⟩ := h
  exact ⟨aw, cw, ak, ck, an, cn, ag, cg, al, cl, hf.held B hb, hT.fr0 hf, hF.then0 hf⟩
theorem Sent.shape {W : World} {v : Value} {l : List Out} (h : Sent W v l) : ∃ a c, v = .slice a l.length c := by
  obtain ⟨b, rs, ⟨a, o, c, rfl, -⟩, hl, -⟩ := h
  exact ⟨a, c, by rw [hl]⟩
end Go.Proofs.YthidminepegnoaaGreatDoor
namespace Go.Proofs.YthidminepegnoaaGreatDoor
open Go.RowKit Go.Shelf Go.Maps Go.Sort
attribute [local go_sem] Oper.semAt_some
attribute [local irreducible] wpQuiet
set_option linter.unusedVariables false
set_option linter.unusedSimpArgs false

set_option maxRecDepth 100000 in
set_option maxHeartbeats 4000000 in
theorem lv5 {K : Act → World → Prop} {Q : Exit → Act → World → Prop} (w W : World) (B : Nat) (T T' : Txn) (O : List Out) (hB : w.heap.size ≤ B) (f : Nat → Value) (h1 : f 1 = .pointer (some ⟨B, 0, none⟩)) (h : Lv w W B T)
    (hX : ∀ W v bt vt, IsTxn W v T → Tbs W bt vt lTbs → Calls Tryz.prog 27 #[v, vt] W fun e w' => StepPost W T' O 0 e w')
    (hK : ∀ f' W', f' 1 = .pointer (some ⟨B, 0, none⟩) → Sent W' (f' 7) O → f' 8 = .int .i64 0 → f' 2 = f 2 → f' 4 = f 4 → f' 6 = f 6 → Lv w W' B T' → K (frA 181 f') W') :
    Code.wp Tryz.prog (lvCode 5) (Exit.then K Q) (frA 181 f) W := by
  obtain ⟨aw, cw, ak, ck, an, cn, ag, cg, al, cl, hb, hT, hF⟩ := h
  obtain ⟨mb, nb, lb⟩ := box_cells hb
  have HBB := Lib.hid hb; have HT := Lib.hid hT; have HF := Lib.hid hF; have HX := Lib.hid hX; have HK := Lib.hid hK
  clear hb hT hF hX hK
  show Code.wp _ _ _ { tmps := #[f 0, f 1, f 2, f 3, f 4, f 5, f 6, f 7, f 8, f 9, f 10, f 11, f 12, f 13, f 14, f 15, f 16, f 17, f 18, f 19, f 20, f 21, f 22, f 23, f 24, f 25, f 26, f 27, f 28, f 29, f 30, f 31, f 32, f 33, f 34, f 35, f 36, f 37, f 38, f 39, f 40, f 41, f 42, f 43, f 44, f 45, f 46, f 47, f 48, f 49, f 50, f 51, f 52, f 53, f 54, f 55, f 56, f 57, f 58, f 59, f 60, f 61, f 62, f 63, f 64, f 65, f 66, f 67, f 68, f 69, f 70, f 71, f 72, f 73, f 74, f 75, f 76, f 77, f 78, f 79, f 80, f 81, f 82, f 83, f 84, f 85, f 86, f 87, f 88, f 89, f 90, f 91, f 92, f 93, f 94, f 95, f 96, f 97, f 98, f 99, f 100, f 101, f 102, f 103, f 104, f 105, f 106, f 107, f 108, f 109, f 110, f 111, f 112, f 113, f 114, f 115, f 116, f 117, f 118, f 119, f 120, f 121, f 122, f 123, f 124, f 125, f 126, f 127, f 128, f 129, f 130, f 131, f 132, f 133, f 134, f 135, f 136, f 137, f 138, f 139, f 140, f 141, f 142, f 143, f 144, f 145, f 146, f 147, f 148, f 149, f 150, f 151, f 152, f 153, f 154, f 155, f 156, f 157, f 158, f 159, f 160, f 161, f 162, f 163, f 164, f 165, f 166, f 167, f 168, f 169, f 170, f 171, f 172, f 173, f 174, f 175, f 176, f 177, f 178, f 179, f 180], defers := [] } _
  rw [h1]
  clear h1
  conv => arg 2; whnf
  go_wp2_with fail
  refine (HX.out _ _ _ _ (IsTxn.fr0 HT.out ((Fr.refl _ _).alloc _)) (rowsK_of_block (enc := Tb.enc) (n := 5) (fun _ => rfl) lTbs (blkN rfl) rfl (by decide))).mono ?_
  rintro e w2 ⟨v2, vo2, rfl, ⟨vw2, vk2, vn2, vg2, vl2, rfl, hT2⟩, hO2, hf2⟩
  obtain ⟨⟨aw2, cw2, rfl⟩, ⟨ak2, ck2, rfl⟩, ⟨an2, cn2, rfl⟩, ⟨ag2, cg2, rfl⟩, ⟨al2, cl2, rfl⟩⟩ := hT2.shapes
  have hf3 : Fr N0 W w2 := Fr.then0 ((Fr.refl _ _).alloc _) hf2
  have hz := hf3.held B HBB.out
  obtain ⟨mz, nz, lz⟩ := box_cells hz
  have HZ := Lib.hid hz; have HT2 := Lib.hid hT2; have HO2 := Lib.hid hO2; have HF2 := Lib.hid (HF.out.then0 hf3)
  clear hz hT2 hO2 hf2 hf3 mb nb lb HX HT HBB HF
  go_wp2
  have hTold := told_store (w := w) (R := B) hB HZ.out (dull_txn _ _ _ _ _ _ _ _ _ _ _ _ _ _ _ _ _ _ _) ⟨_, _, _, _, _, rfl, HT2.out⟩ HO2.out HF2.out
  exact cut_use (n := 181) (K := K) _ rfl (HK.out _ _ rfl hTold.2.2.1 rfl rfl rfl rfl ⟨_, _, _, _, _, _, _, _, _, _, hTold.1, hTold.2.1, hTold.2.2.2⟩)

set_option maxRecDepth 100000 in
set_option maxHeartbeats 4000000 in
theorem lv6 {K : Act → World → Prop} {Q : Exit → Act → World → Prop} (w W : World) (B : Nat) (T T' : Txn) (O : List Out) (hB : w.heap.size ≤ B) (f : Nat → Value) (h1 : f 1 = .pointer (some ⟨B, 0, none⟩)) (h : Lv w W B T)
    (hX : ∀ W v, IsTxn W v T → Calls Tryz.prog 28 #[v, .int .u32 1, .int .i64 0] W fun e w' => StepPost W T' O 0 e w')
    (hK : ∀ f' W', f' 1 = .pointer (some ⟨B, 0, none⟩) → Sent W' (f' 9) O → f' 10 = .int .i64 0 → f' 2 = f 2 → f' 4 = f 4 → f' 6 = f 6 → f' 7 = f 7 → f' 8 = f 8 → Lv w W' B T' → K (frA 181 f') W') :
    Code.wp Tryz.prog (lvCode 6) (Exit.then K Q) (frA 181 f) W := by
  obtain ⟨aw, cw, ak, ck, an, cn, ag, cg, al, cl, hb, hT, hF⟩ := h
  obtain ⟨mb, nb, lb⟩ := box_cells hb
  have HBB := Lib.hid hb; have HT := Lib.hid hT; have HF := Lib.hid hF; have HX := Lib.hid hX; have HK := Lib.hid hK
  clear hb hT hF hX hK
  show Code.wp _ _ _ { tmps := #[f 0, f 1, f 2, f 3, f 4, f 5, f 6, f 7, f 8, f 9, f 10, f 11, f 12, f 13, f 14, f 15, f 16, f 17, f 18, f 19, f 20, f 21, f 22, f 23, f 24, f 25, f 26, f 27, f 28, f 29, f 30, f 31, f 32, f 33, f 34, f 35, f 36, f 37, f 38, f 39, f 40, f 41, f 42, f 43, f 44, f 45, f 46, f 47, f 48, f 49, f 50, f 51, f 52, f 53, f 54, f 55, f 56, f 57, f 58, f 59, f 60, f 61, f 62, f 63, f 64, f 65, f 66, f 67, f 68, f 69, f 70, f 71, f 72, f 73, f 74, f 75, f 76, f 77, f 78, f 79, f 80, f 81, f 82, f 83, f 84, f 85, f 86, f 87, f 88, f 89, f 90, f 91, f 92, f 93, f 94, f 95, f 96, f 97, f 98, f 99, f 100, f 101, f 102, f 103, f 104, f 105, f 106, f 107, f 108, f 109, f 110, f 111, f 112, f 113, f 114, f 115, f 116, f 117, f 118, f 119, f 120, f 121, f 122, f 123, f 124, f 125, f 126, f 127, f 128, f 129, f 130, f 131, f 132, f 133, f 134, f 135, f 136, f 137, f 138, f 139, f 140, f 141, f 142, f 143, f 144, f 145, f 146, f 147, f 148, f 149, f 150, f 151, f 152, f 153, f 154, f 155, f 156, f 157, f 158, f 159, f 160, f 161, f 162, f 163, f 164, f 165, f 166, f 167, f 168, f 169, f 170, f 171, f 172, f 173, f 174, f 175, f 176, f 177, f 178, f 179, f 180], defers := [] } _
  rw [h1]
  clear h1
  conv => arg 2; whnf
  go_wp2_with fail
  refine (HX.out _ _ HT.out).mono ?_
  rintro e w2 ⟨v2, vo2, rfl, ⟨vw2, vk2, vn2, vg2, vl2, rfl, hT2⟩, hO2, hf2⟩
  obtain ⟨⟨aw2, cw2, rfl⟩, ⟨ak2, ck2, rfl⟩, ⟨an2, cn2, rfl⟩, ⟨ag2, cg2, rfl⟩, ⟨al2, cl2, rfl⟩⟩ := hT2.shapes
  have hf3 : Fr N0 W w2 := hf2
  have hz := hf3.held B HBB.out
  obtain ⟨mz, nz, lz⟩ := box_cells hz
  have HZ := Lib.hid hz; have HT2 := Lib.hid hT2; have HO2 := Lib.hid hO2; have HF2 := Lib.hid (HF.out.then0 hf3)
  clear hz hT2 hO2 hf2 hf3 mb nb lb HX HT HBB HF
  go_wp2
  have hTold := told_store (w := w) (R := B) hB HZ.out (dull_txn _ _ _ _ _ _ _ _ _ _ _ _ _ _ _ _ _ _ _) ⟨_, _, _, _, _, rfl, HT2.out⟩ HO2.out HF2.out
  exact cut_use (n := 181) (K := K) _ rfl (HK.out _ _ rfl hTold.2.2.1 rfl rfl rfl rfl rfl rfl ⟨_, _, _, _, _, _, _, _, _, _, hTold.1, hTold.2.1, hTold.2.2.2⟩)

set_option maxRecDepth 100000 in
set_option maxHeartbeats 4000000 in
theorem lv7 {K : Act → World → Prop} {Q : Exit → Act → World → Prop} (w W : World) (B : Nat) (T T' : Txn) (O : List Out) (hB : w.heap.size ≤ B) (f : Nat → Value) (h1 : f 1 = .pointer (some ⟨B, 0, none⟩)) (h : Lv w W B T)
    (hX : ∀ W v, IsTxn W v T → Calls Tryz.prog 28 #[v, .int .u32 2, .int .i64 0] W fun e w' => StepPost W T' O 0 e w')
    (hK : ∀ f' W', f' 1 = .pointer (some ⟨B, 0, none⟩) → Sent W' (f' 11) O → f' 12 = .int .i64 0 → f' 2 = f 2 → f' 4 = f 4 → f' 6 = f 6 → f' 7 = f 7 → f' 8 = f 8 → f' 9 = f 9 → f' 10 = f 10 → Lv w W' B T' → K (frA 181 f') W') :
    Code.wp Tryz.prog (lvCode 7) (Exit.then K Q) (frA 181 f) W := by
  obtain ⟨aw, cw, ak, ck, an, cn, ag, cg, al, cl, hb, hT, hF⟩ := h
  obtain ⟨mb, nb, lb⟩ := box_cells hb
  have HBB := Lib.hid hb; have HT := Lib.hid hT; have HF := Lib.hid hF; have HX := Lib.hid hX; have HK := Lib.hid hK
  clear hb hT hF hX hK
  show Code.wp _ _ _ { tmps := #[f 0, f 1, f 2, f 3, f 4, f 5, f 6, f 7, f 8, f 9, f 10, f 11, f 12, f 13, f 14, f 15, f 16, f 17, f 18, f 19, f 20, f 21, f 22, f 23, f 24, f 25, f 26, f 27, f 28, f 29, f 30, f 31, f 32, f 33, f 34, f 35, f 36, f 37, f 38, f 39, f 40, f 41, f 42, f 43, f 44, f 45, f 46, f 47, f 48, f 49, f 50, f 51, f 52, f 53, f 54, f 55, f 56, f 57, f 58, f 59, f 60, f 61, f 62, f 63, f 64, f 65, f 66, f 67, f 68, f 69, f 70, f 71, f 72, f 73, f 74, f 75, f 76, f 77, f 78, f 79, f 80, f 81, f 82, f 83, f 84, f 85, f 86, f 87, f 88, f 89, f 90, f 91, f 92, f 93, f 94, f 95, f 96, f 97, f 98, f 99, f 100, f 101, f 102, f 103, f 104, f 105, f 106, f 107, f 108, f 109, f 110, f 111, f 112, f 113, f 114, f 115, f 116, f 117, f 118, f 119, f 120, f 121, f 122, f 123, f 124, f 125, f 126, f 127, f 128, f 129, f 130, f 131, f 132, f 133, f 134, f 135, f 136, f 137, f 138, f 139, f 140, f 141, f 142, f 143, f 144, f 145, f 146, f 147, f 148, f 149, f 150, f 151, f 152, f 153, f 154, f 155, f 156, f 157, f 158, f 159, f 160, f 161, f 162, f 163, f 164, f 165, f 166, f 167, f 168, f 169, f 170, f 171, f 172, f 173, f 174, f 175, f 176, f 177, f 178, f 179, f 180], defers := [] } _
  rw [h1]
  clear h1
  conv => arg 2; whnf
  go_wp2_with fail
  refine (HX.out _ _ HT.out).mono ?_
  rintro e w2 ⟨v2, vo2, rfl, ⟨vw2, vk2, vn2, vg2, vl2, rfl, hT2⟩, hO2, hf2⟩
  obtain ⟨⟨aw2, cw2, rfl⟩, ⟨ak2, ck2, rfl⟩, ⟨an2, cn2, rfl⟩, ⟨ag2, cg2, rfl⟩, ⟨al2, cl2, rfl⟩⟩ := hT2.shapes
  have hf3 : Fr N0 W w2 := hf2
  have hz := hf3.held B HBB.out
  obtain ⟨mz, nz, lz⟩ := box_cells hz
  have HZ := Lib.hid hz; have HT2 := Lib.hid hT2; have HO2 := Lib.hid hO2; have HF2 := Lib.hid (HF.out.then0 hf3)
  clear hz hT2 hO2 hf2 hf3 mb nb lb HX HT HBB HF
  go_wp2
  have hTold := told_store (w := w) (R := B) hB HZ.out (dull_txn _ _ _ _ _ _ _ _ _ _ _ _ _ _ _ _ _ _ _) ⟨_, _, _, _, _, rfl, HT2.out⟩ HO2.out HF2.out
  exact cut_use (n := 181) (K := K) _ rfl (HK.out _ _ rfl hTold.2.2.1 rfl rfl rfl rfl rfl rfl rfl rfl ⟨_, _, _, _, _, _, _, _, _, _, hTold.1, hTold.2.1, hTold.2.2.2⟩)
end Go.Proofs.YthidminepegnoaaGreatDoor
namespace Go.Proofs.YthidminepegnoaaGreatDoor
open Go.RowKit Go.Shelf Go.Maps Go.Sort
attribute [local go_sem] Oper.semAt_some
attribute [local irreducible] wpQuiet
set_option linter.unusedVariables false
set_option linter.unusedSimpArgs false

set_option maxRecDepth 100000 in
set_option maxHeartbeats 4000000 in
theorem lv9 {K : Act → World → Prop} {Q : Exit → Act → World → Prop} (w W : World) (B : Nat) (T T' : Txn) (O : List Out) (hB : w.heap.size ≤ B) (f : Nat → Value) (h1 : f 1 = .pointer (some ⟨B, 0, none⟩)) (h : Lv w W B T)
    (hX : ∀ W v, IsTxn W v T → Calls Tryz.prog 29 #[v, .agg (An.enc ⟨0, 0, 4, ⟨⟨#[]⟩, 0, 0, 0, 0⟩⟩).toArray] W fun e w' => StepPost W T' O 0 e w')
    (hK : ∀ f' W', f' 1 = .pointer (some ⟨B, 0, none⟩) → Sent W' (f' 13) O → f' 14 = .int .i64 0 → Lv w W' B T' → K (frA 181 f') W') :
    Code.wp Tryz.prog (lvCode 9) (Exit.then K Q) (frA 181 f) W := by
  obtain ⟨aw, cw, ak, ck, an, cn, ag, cg, al, cl, hb, hT, hF⟩ := h
  obtain ⟨mb, nb, lb⟩ := box_cells hb
  have HBB := Lib.hid hb; have HT := Lib.hid hT; have HF := Lib.hid hF; have HX := Lib.hid hX; have HK := Lib.hid hK
  clear hb hT hF hX hK
  show Code.wp _ _ _ { tmps := #[f 0, f 1, f 2, f 3, f 4, f 5, f 6, f 7, f 8, f 9, f 10, f 11, f 12, f 13, f 14, f 15, f 16, f 17, f 18, f 19, f 20, f 21, f 22, f 23, f 24, f 25, f 26, f 27, f 28, f 29, f 30, f 31, f 32, f 33, f 34, f 35, f 36, f 37, f 38, f 39, f 40, f 41, f 42, f 43, f 44, f 45, f 46, f 47, f 48, f 49, f 50, f 51, f 52, f 53, f 54, f 55, f 56, f 57, f 58, f 59, f 60, f 61, f 62, f 63, f 64, f 65, f 66, f 67, f 68, f 69, f 70, f 71, f 72, f 73, f 74, f 75, f 76, f 77, f 78, f 79, f 80, f 81, f 82, f 83, f 84, f 85, f 86, f 87, f 88, f 89, f 90, f 91, f 92, f 93, f 94, f 95, f 96, f 97, f 98, f 99, f 100, f 101, f 102, f 103, f 104, f 105, f 106, f 107, f 108, f 109, f 110, f 111, f 112, f 113, f 114, f 115, f 116, f 117, f 118, f 119, f 120, f 121, f 122, f 123, f 124, f 125, f 126, f 127, f 128, f 129, f 130, f 131, f 132, f 133, f 134, f 135, f 136, f 137, f 138, f 139, f 140, f 141, f 142, f 143, f 144, f 145, f 146, f 147, f 148, f 149, f 150, f 151, f 152, f 153, f 154, f 155, f 156, f 157, f 158, f 159, f 160, f 161, f 162, f 163, f 164, f 165, f 166, f 167, f 168, f 169, f 170, f 171, f 172, f 173, f 174, f 175, f 176, f 177, f 178, f 179, f 180], defers := [] } _
  rw [h1]
  clear h1
  conv => arg 2; whnf
  go_wp2_with fail
  refine (HX.out _ _ HT.out).mono ?_
  rintro e w2 ⟨v2, vo2, rfl, ⟨vw2, vk2, vn2, vg2, vl2, rfl, hT2⟩, hO2, hf2⟩
  obtain ⟨⟨aw2, cw2, rfl⟩, ⟨ak2, ck2, rfl⟩, ⟨an2, cn2, rfl⟩, ⟨ag2, cg2, rfl⟩, ⟨al2, cl2, rfl⟩⟩ := hT2.shapes
  have hf3 : Fr N0 W w2 := hf2
  have hz := hf3.held B HBB.out
  obtain ⟨mz, nz, lz⟩ := box_cells hz
  have HZ := Lib.hid hz; have HT2 := Lib.hid hT2; have HO2 := Lib.hid hO2; have HF2 := Lib.hid (HF.out.then0 hf3)
  clear hz hT2 hO2 hf2 hf3 mb nb lb HX HT HBB HF
  go_wp2
  have hTold := told_store (w := w) (R := B) hB HZ.out (dull_txn _ _ _ _ _ _ _ _ _ _ _ _ _ _ _ _ _ _ _) ⟨_, _, _, _, _, rfl, HT2.out⟩ HO2.out HF2.out
  exact cut_use (n := 181) (K := K) _ rfl (HK.out _ _ rfl hTold.2.2.1 rfl ⟨_, _, _, _, _, _, _, _, _, _, hTold.1, hTold.2.1, hTold.2.2.2⟩)

set_option maxRecDepth 100000 in
set_option maxHeartbeats 4000000 in
theorem lv10 {K : Act → World → Prop} {Q : Exit → Act → World → Prop} (w W : World) (B : Nat) (T T' : Txn) (O : List Out) (hB : w.heap.size ≤ B) (f : Nat → Value) (h1 : f 1 = .pointer (some ⟨B, 0, none⟩)) (h : Lv w W B T)
    (hX : ∀ W v, IsTxn W v T → Calls Tryz.prog 30 #[v, .int .u32 2, .int .i64 0] W fun e w' => StepPost W T' O 0 e w')
    (hK : ∀ f' W', f' 1 = .pointer (some ⟨B, 0, none⟩) → f' 16 = .int .i64 0 → f' 13 = f 13 → f' 14 = f 14 → Lv w W' B T' → K (frA 181 f') W') :
    Code.wp Tryz.prog (lvCode 10) (Exit.then K Q) (frA 181 f) W := by
  obtain ⟨aw, cw, ak, ck, an, cn, ag, cg, al, cl, hb, hT, hF⟩ := h
  obtain ⟨mb, nb, lb⟩ := box_cells hb
  have HBB := Lib.hid hb; have HT := Lib.hid hT; have HF := Lib.hid hF; have HX := Lib.hid hX; have HK := Lib.hid hK
  clear hb hT hF hX hK
  show Code.wp _ _ _ { tmps := #[f 0, f 1, f 2, f 3, f 4, f 5, f 6, f 7, f 8, f 9, f 10, f 11, f 12, f 13, f 14, f 15, f 16, f 17, f 18, f 19, f 20, f 21, f 22, f 23, f 24, f 25, f 26, f 27, f 28, f 29, f 30, f 31, f 32, f 33, f 34, f 35, f 36, f 37, f 38, f 39, f 40, f 41, f 42, f 43, f 44, f 45, f 46, f 47, f 48, f 49, f 50, f 51, f 52, f 53, f 54, f 55, f 56, f 57, f 58, f 59, f 60, f 61, f 62, f 63, f 64, f 65, f 66, f 67, f 68, f 69, f 70, f 71, f 72, f 73, f 74, f 75, f 76, f 77, f 78, f 79, f 80, f 81, f 82, f 83, f 84, f 85, f 86, f 87, f 88, f 89, f 90, f 91, f 92, f 93, f 94, f 95, f 96, f 97, f 98, f 99, f 100, f 101, f 102, f 103, f 104, f 105, f 106, f 107, f 108, f 109, f 110, f 111, f 112, f 113, f 114, f 115, f 116, f 117, f 118, f 119, f 120, f 121, f 122, f 123, f 124, f 125, f 126, f 127, f 128, f 129, f 130, f 131, f 132, f 133, f 134, f 135, f 136, f 137, f 138, f 139, f 140, f 141, f 142, f 143, f 144, f 145, f 146, f 147, f 148, f 149, f 150, f 151, f 152, f 153, f 154, f 155, f 156, f 157, f 158, f 159, f 160, f 161, f 162, f 163, f 164, f 165, f 166, f 167, f 168, f 169, f 170, f 171, f 172, f 173, f 174, f 175, f 176, f 177, f 178, f 179, f 180], defers := [] } _
  rw [h1]
  clear h1
  conv => arg 2; whnf
  go_wp2_with fail
  refine (HX.out _ _ HT.out).mono ?_
  rintro e w2 ⟨v2, vo2, rfl, ⟨vw2, vk2, vn2, vg2, vl2, rfl, hT2⟩, hO2, hf2⟩
  obtain ⟨⟨aw2, cw2, rfl⟩, ⟨ak2, ck2, rfl⟩, ⟨an2, cn2, rfl⟩, ⟨ag2, cg2, rfl⟩, ⟨al2, cl2, rfl⟩⟩ := hT2.shapes
  have hf3 : Fr N0 W w2 := hf2
  have hz := hf3.held B HBB.out
  obtain ⟨mz, nz, lz⟩ := box_cells hz
  have HZ := Lib.hid hz; have HT2 := Lib.hid hT2; have HO2 := Lib.hid hO2; have HF2 := Lib.hid (HF.out.then0 hf3)
  clear hz hT2 hO2 hf2 hf3 mb nb lb HX HT HBB HF
  go_wp2
  have hTold := told_store (w := w) (R := B) hB HZ.out (dull_txn _ _ _ _ _ _ _ _ _ _ _ _ _ _ _ _ _ _ _) ⟨_, _, _, _, _, rfl, HT2.out⟩ HO2.out HF2.out
  exact cut_use (n := 181) (K := K) _ rfl (HK.out _ _ rfl rfl rfl rfl ⟨_, _, _, _, _, _, _, _, _, _, hTold.1, hTold.2.1, hTold.2.2.2⟩)

set_option maxRecDepth 100000 in
set_option maxHeartbeats 4000000 in
theorem lv11 {K : Act → World → Prop} {Q : Exit → Act → World → Prop} (w W : World) (B : Nat) (T T' : Txn) (O : List Out) (hB : w.heap.size ≤ B) (f : Nat → Value) (h1 : f 1 = .pointer (some ⟨B, 0, none⟩)) (h : Lv w W B T)
    (hX : ∀ W v, IsTxn W v T → Calls Tryz.prog 30 #[v, .int .u32 1, .int .i64 7] W fun e w' => StepPost W T' O 0 e w')
    (hK : ∀ f' W', f' 1 = .pointer (some ⟨B, 0, none⟩) → Sent W' (f' 17) O → f' 18 = .int .i64 0 → f' 13 = f 13 → f' 14 = f 14 → f' 16 = f 16 → Lv w W' B T' → K (frA 181 f') W') :
    Code.wp Tryz.prog (lvCode 11) (Exit.then K Q) (frA 181 f) W := by
  obtain ⟨aw, cw, ak, ck, an, cn, ag, cg, al, cl, hb, hT, hF⟩ := h
  obtain ⟨mb, nb, lb⟩ := box_cells hb
  have HBB := Lib.hid hb; have HT := Lib.hid hT; have HF := Lib.hid hF; have HX := Lib.hid hX; have HK := Lib.hid hK
  clear hb hT hF hX hK
  show Code.wp _ _ _ { tmps := #[f 0, f 1, f 2, f 3, f 4, f 5, f 6, f 7, f 8, f 9, f 10, f 11, f 12, f 13, f 14, f 15, f 16, f 17, f 18, f 19, f 20, f 21, f 22, f 23, f 24, f 25, f 26, f 27, f 28, f 29, f 30, f 31, f 32, f 33, f 34, f 35, f 36, f 37, f 38, f 39, f 40, f 41, f 42, f 43, f 44, f 45, f 46, f 47, f 48, f 49, f 50, f 51, f 52, f 53, f 54, f 55, f 56, f 57, f 58, f 59, f 60, f 61, f 62, f 63, f 64, f 65, f 66, f 67, f 68, f 69, f 70, f 71, f 72, f 73, f 74, f 75, f 76, f 77, f 78, f 79, f 80, f 81, f 82, f 83, f 84, f 85, f 86, f 87, f 88, f 89, f 90, f 91, f 92, f 93, f 94, f 95, f 96, f 97, f 98, f 99, f 100, f 101, f 102, f 103, f 104, f 105, f 106, f 107, f 108, f 109, f 110, f 111, f 112, f 113, f 114, f 115, f 116, f 117, f 118, f 119, f 120, f 121, f 122, f 123, f 124, f 125, f 126, f 127, f 128, f 129, f 130, f 131, f 132, f 133, f 134, f 135, f 136, f 137, f 138, f 139, f 140, f 141, f 142, f 143, f 144, f 145, f 146, f 147, f 148, f 149, f 150, f 151, f 152, f 153, f 154, f 155, f 156, f 157, f 158, f 159, f 160, f 161, f 162, f 163, f 164, f 165, f 166, f 167, f 168, f 169, f 170, f 171, f 172, f 173, f 174, f 175, f 176, f 177, f 178, f 179, f 180], defers := [] } _
  rw [h1]
  clear h1
  conv => arg 2; whnf
  go_wp2_with fail
  refine (HX.out _ _ HT.out).mono ?_
  rintro e w2 ⟨v2, vo2, rfl, ⟨vw2, vk2, vn2, vg2, vl2, rfl, hT2⟩, hO2, hf2⟩
  obtain ⟨⟨aw2, cw2, rfl⟩, ⟨ak2, ck2, rfl⟩, ⟨an2, cn2, rfl⟩, ⟨ag2, cg2, rfl⟩, ⟨al2, cl2, rfl⟩⟩ := hT2.shapes
  have hf3 : Fr N0 W w2 := hf2
  have hz := hf3.held B HBB.out
  obtain ⟨mz, nz, lz⟩ := box_cells hz
  have HZ := Lib.hid hz; have HT2 := Lib.hid hT2; have HO2 := Lib.hid hO2; have HF2 := Lib.hid (HF.out.then0 hf3)
  clear hz hT2 hO2 hf2 hf3 mb nb lb HX HT HBB HF
  go_wp2
  have hTold := told_store (w := w) (R := B) hB HZ.out (dull_txn _ _ _ _ _ _ _ _ _ _ _ _ _ _ _ _ _ _ _) ⟨_, _, _, _, _, rfl, HT2.out⟩ HO2.out HF2.out
  exact cut_use (n := 181) (K := K) _ rfl (HK.out _ _ rfl hTold.2.2.1 rfl rfl rfl rfl ⟨_, _, _, _, _, _, _, _, _, _, hTold.1, hTold.2.1, hTold.2.2.2⟩)

set_option maxRecDepth 100000 in
set_option maxHeartbeats 4000000 in
theorem lv12 {K : Act → World → Prop} {Q : Exit → Act → World → Prop} (w W : World) (B : Nat) (T T' : Txn) (O : List Out) (hB : w.heap.size ≤ B) (f : Nat → Value) (h1 : f 1 = .pointer (some ⟨B, 0, none⟩)) (h : Lv w W B T)
    (hX : ∀ W v, IsTxn W v T → Calls Tryz.prog 30 #[v, .int .u32 1, .int .i64 0] W fun e w' => StepPost W T' O 0 e w')
    (hK : ∀ f' W', f' 1 = .pointer (some ⟨B, 0, none⟩) → f' 20 = .int .i64 0 → f' 13 = f 13 → f' 14 = f 14 → f' 16 = f 16 → f' 17 = f 17 → f' 18 = f 18 → Lv w W' B T' → K (frA 181 f') W') :
    Code.wp Tryz.prog (lvCode 12) (Exit.then K Q) (frA 181 f) W := by
  obtain ⟨aw, cw, ak, ck, an, cn, ag, cg, al, cl, hb, hT, hF⟩ := h
  obtain ⟨mb, nb, lb⟩ := box_cells hb
  have HBB := Lib.hid hb; have HT := Lib.hid hT; have HF := Lib.hid hF; have HX := Lib.hid hX; have HK := Lib.hid hK
  clear hb hT hF hX hK
  show Code.wp _ _ _ { tmps := #[f 0, f 1, f 2, f 3, f 4, f 5, f 6, f 7, f 8, f 9, f 10, f 11, f 12, f 13, f 14, f 15, f 16, f 17, f 18, f 19, f 20, f 21, f 22, f 23, f 24, f 25, f 26, f 27, f 28, f 29, f 30, f 31, f 32, f 33, f 34, f 35, f 36, f 37, f 38, f 39, f 40, f 41, f 42, f 43, f 44, f 45, f 46, f 47, f 48, f 49, f 50, f 51, f 52, f 53, f 54, f 55, f 56, f 57, f 58, f 59, f 60, f 61, f 62, f 63, f 64, f 65, f 66, f 67, f 68, f 69, f 70, f 71, f 72, f 73, f 74, f 75, f 76, f 77, f 78, f 79, f 80, f 81, f 82, f 83, f 84, f 85, f 86, f 87, f 88, f 89, f 90, f 91, f 92, f 93, f 94, f 95, f 96, f 97, f 98, f 99, f 100, f 101, f 102, f 103, f 104, f 105, f 106, f 107, f 108, f 109, f 110, f 111, f 112, f 113, f 114, f 115, f 116, f 117, f 118, f 119, f 120, f 121, f 122, f 123, f 124, f 125, f 126, f 127, f 128, f 129, f 130, f 131, f 132, f 133, f 134, f 135, f 136, f 137, f 138, f 139, f 140, f 141, f 142, f 143, f 144, f 145, f 146, f 147, f 148, f 149, f 150, f 151, f 152, f 153, f 154, f 155, f 156, f 157, f 158, f 159, f 160, f 161, f 162, f 163, f 164, f 165, f 166, f 167, f 168, f 169, f 170, f 171, f 172, f 173, f 174, f 175, f 176, f 177, f 178, f 179, f 180], defers := [] } _
  rw [h1]
  clear h1
  conv => arg 2; whnf
  go_wp2_with fail
  refine (HX.out _ _ HT.out).mono ?_
  rintro e w2 ⟨v2, vo2, rfl, ⟨vw2, vk2, vn2, vg2, vl2, rfl, hT2⟩, hO2, hf2⟩
  obtain ⟨⟨aw2, cw2, rfl⟩, ⟨ak2, ck2, rfl⟩, ⟨an2, cn2, rfl⟩, ⟨ag2, cg2, rfl⟩, ⟨al2, cl2, rfl⟩⟩ := hT2.shapes
  have hf3 : Fr N0 W w2 := hf2
  have hz := hf3.held B HBB.out
  obtain ⟨mz, nz, lz⟩ := box_cells hz
  have HZ := Lib.hid hz; have HT2 := Lib.hid hT2; have HO2 := Lib.hid hO2; have HF2 := Lib.hid (HF.out.then0 hf3)
  clear hz hT2 hO2 hf2 hf3 mb nb lb HX HT HBB HF
  go_wp2
  have hTold := told_store (w := w) (R := B) hB HZ.out (dull_txn _ _ _ _ _ _ _ _ _ _ _ _ _ _ _ _ _ _ _) ⟨_, _, _, _, _, rfl, HT2.out⟩ HO2.out HF2.out
  exact cut_use (n := 181) (K := K) _ rfl (HK.out _ _ rfl rfl rfl rfl rfl rfl rfl ⟨_, _, _, _, _, _, _, _, _, _, hTold.1, hTold.2.1, hTold.2.2.2⟩)
end Go.Proofs.YthidminepegnoaaGreatDoor
namespace Go.Proofs.YthidminepegnoaaGreatDoor
open Go.RowKit Go.Shelf Go.Maps Go.Sort
attribute [local go_sem] Oper.semAt_some
attribute [local irreducible] wpQuiet
set_option linter.unusedVariables false
set_option linter.unusedSimpArgs false

set_option maxRecDepth 100000 in
set_option maxHeartbeats 4000000 in
theorem lv8 {K : Act → World → Prop} {Q : Exit → Act → World → Prop} (w W : World) (B : Nat) (T : Txn) (f : Nat → Value) (h1 : f 1 = .pointer (some ⟨B, 0, none⟩)) (h : Lv w W B T) (a2 c2 a7 c7 a9 c9 bo oo c11 ak ck)
    (h2 : f 2 = .slice a2 1 c2) (h4 : f 4 = .int .i64 0) (h6 : f 6 = .int .i64 0) (h7 : f 7 = .slice a7 2 c7) (h8 : f 8 = .int .i64 0) (h9 : f 9 = .slice a9 0 c9) (h10 : f 10 = .int .i64 0) (h11 : f 11 = .slice (some ⟨bo, oo, none⟩) 1 c11) (h12 : f 12 = .int .i64 0)
    (hk : W.cell? ⟨bo, oo + 1, none⟩ = some (.int .u8 3)) (hks : W.cell? ⟨bo, oo + 4, none⟩ = some (.slice ak 2 ck))
    (hK : ∀ f' W', f' 1 = .pointer (some ⟨B, 0, none⟩) → Lv w W' B T → K (frA 181 f') W') :
    Code.wp Tryz.prog (lvCode 8) (Exit.then K Q) (frA 181 f) W := by
  have HL := Lib.hid h; have HK := Lib.hid hK
  clear h hK
  show Code.wp _ _ _ { tmps := #[f 0, f 1, f 2, f 3, f 4, f 5, f 6, f 7, f 8, f 9, f 10, f 11, f 12, f 13, f 14, f 15, f 16, f 17, f 18, f 19, f 20, f 21, f 22, f 23, f 24, f 25, f 26, f 27, f 28, f 29, f 30, f 31, f 32, f 33, f 34, f 35, f 36, f 37, f 38, f 39, f 40, f 41, f 42, f 43, f 44, f 45, f 46, f 47, f 48, f 49, f 50, f 51, f 52, f 53, f 54, f 55, f 56, f 57, f 58, f 59, f 60, f 61, f 62, f 63, f 64, f 65, f 66, f 67, f 68, f 69, f 70, f 71, f 72, f 73, f 74, f 75, f 76, f 77, f 78, f 79, f 80, f 81, f 82, f 83, f 84, f 85, f 86, f 87, f 88, f 89, f 90, f 91, f 92, f 93, f 94, f 95, f 96, f 97, f 98, f 99, f 100, f 101, f 102, f 103, f 104, f 105, f 106, f 107, f 108, f 109, f 110, f 111, f 112, f 113, f 114, f 115, f 116, f 117, f 118, f 119, f 120, f 121, f 122, f 123, f 124, f 125, f 126, f 127, f 128, f 129, f 130, f 131, f 132, f 133, f 134, f 135, f 136, f 137, f 138, f 139, f 140, f 141, f 142, f 143, f 144, f 145, f 146, f 147, f 148, f 149, f 150, f 151, f 152, f 153, f 154, f 155, f 156, f 157, f 158, f 159, f 160, f 161, f 162, f 163, f 164, f 165, f 166, f 167, f 168, f 169, f 170, f 171, f 172, f 173, f 174, f 175, f 176, f 177, f 178, f 179, f 180], defers := [] } _
  rw [h1, h2, h4, h6, h7, h8, h9, h10, h11, h12]
  clear h1 h2 h4 h6 h7 h8 h9 h10 h11 h12
  conv => arg 2; whnf
  go_wp2
  exact cut_use (n := 181) (K := K) _ rfl (HK.out _ _ rfl HL.out)

set_option maxRecDepth 100000 in
set_option maxHeartbeats 4000000 in
theorem lv13 {K : Act → World → Prop} {Q : Exit → Act → World → Prop} (w W : World) (B : Nat) (T : Txn) (f : Nat → Value) (h1 : f 1 = .pointer (some ⟨B, 0, none⟩)) (h : Lv w W B T) (hp : T.phase = 6) (hc : T.commit = 4) (a13 c13 a17 c17)
    (h13 : f 13 = .slice a13 2 c13) (h14 : f 14 = .int .i64 0) (h16 : f 16 = .int .i64 0) (h17 : f 17 = .slice a17 1 c17) (h18 : f 18 = .int .i64 0) (h20 : f 20 = .int .i64 0)
    (hK : ∀ f' W', f' 0 = .bool true → Fr N0 w W' → K (frA 181 f') W') :
    Code.wp Tryz.prog (lvCode 13) (Exit.then K Q) (frA 181 f) W := by
  have HK := Lib.hid hK
  obtain ⟨aw, cw, ak, ck, an, cn, ag, cg, al, cl, hb, hT, hF⟩ := h
  obtain ⟨mb, nb, lb⟩ := box_cells hb
  have m0 := mb 0
  have m2 := mb 2
  simp only [hp, hc] at m0 m2
  have HF := Lib.hid hF
  clear hb hT hF hK mb nb hp hc
  show Code.wp _ _ _ { tmps := #[f 0, f 1, f 2, f 3, f 4, f 5, f 6, f 7, f 8, f 9, f 10, f 11, f 12, f 13, f 14, f 15, f 16, f 17, f 18, f 19, f 20, f 21, f 22, f 23, f 24, f 25, f 26, f 27, f 28, f 29, f 30, f 31, f 32, f 33, f 34, f 35, f 36, f 37, f 38, f 39, f 40, f 41, f 42, f 43, f 44, f 45, f 46, f 47, f 48, f 49, f 50, f 51, f 52, f 53, f 54, f 55, f 56, f 57, f 58, f 59, f 60, f 61, f 62, f 63, f 64, f 65, f 66, f 67, f 68, f 69, f 70, f 71, f 72, f 73, f 74, f 75, f 76, f 77, f 78, f 79, f 80, f 81, f 82, f 83, f 84, f 85, f 86, f 87, f 88, f 89, f 90, f 91, f 92, f 93, f 94, f 95, f 96, f 97, f 98, f 99, f 100, f 101, f 102, f 103, f 104, f 105, f 106, f 107, f 108, f 109, f 110, f 111, f 112, f 113, f 114, f 115, f 116, f 117, f 118, f 119, f 120, f 121, f 122, f 123, f 124, f 125, f 126, f 127, f 128, f 129, f 130, f 131, f 132, f 133, f 134, f 135, f 136, f 137, f 138, f 139, f 140, f 141, f 142, f 143, f 144, f 145, f 146, f 147, f 148, f 149, f 150, f 151, f 152, f 153, f 154, f 155, f 156, f 157, f 158, f 159, f 160, f 161, f 162, f 163, f 164, f 165, f 166, f 167, f 168, f 169, f 170, f 171, f 172, f 173, f 174, f 175, f 176, f 177, f 178, f 179, f 180], defers := [] } _
  rw [h1, h13, h14, h16, h17, h18, h20]
  clear h1 h13 h14 h16 h17 h18 h20
  conv => arg 2; whnf
  go_wp2
  exact cut_use (n := 181) (K := K) _ rfl (HK.out _ _ rfl HF.out)
end Go.Proofs.YthidminepegnoaaGreatDoor
namespace Go.Proofs.YthidminepegnoaaGreatDoor
open Go.RowKit Go.Shelf Go.Maps Go.Sort
attribute [local go_sem] Oper.semAt_some
attribute [local irreducible] wpQuiet
set_option linter.unusedVariables false
set_option linter.unusedSimpArgs false

set_option maxRecDepth 100000 in
set_option maxHeartbeats 16000000 in
theorem lv4 {K : Act → World → Prop} {Q : Exit → Act → World → Prop} (w W3 : World) (B Sb : Nat) (T2 T3 : Txn) (hB : w.heap.size ≤ B) (f : Nat → Value) (h1 : f 1 = .pointer (some ⟨B, 0, none⟩)) (h5 : f 5 = .slice (some ⟨Sb, 0, none⟩) 2 2) (h : Lv w W3 B T2) (hl : Schs W3 Sb (.slice (some ⟨Sb, 0, none⟩) 2 2) lSch) (hM : MaxAt W3)
    (hX : ∀ W v bl bw vl vws, IsTxn W v T2 → Schs W bl vl lSch → Wrs W bw vws [lW1, lW2] → MaxAt W → Calls Tryz.prog 24 #[v, vl, vws] W fun e w' => StepPost2 W T3 0 e w')
    (hK : ∀ f' W', f' 1 = .pointer (some ⟨B, 0, none⟩) → f' 2 = f 2 → f' 4 = f 4 → f' 6 = .int .i64 0 → Lv w W' B T3 → K (frA 181 f') W') :
    Code.wp Tryz.prog (lvCode 4) (Exit.then K Q) (frA 181 f) W3 := by
  obtain ⟨aw2, cw2, ak2, ck2, an2, cn2, ag2, cg2, al2, cl2, hb3, hT3, hf3⟩ := h
  obtain ⟨mb, nb, lb⟩ := box_cells hb3
  have HBB := Lib.hid hb3; have HT3 := Lib.hid hT3; have HF3 := Lib.hid hf3; have HW := Lib.hid hX; have HK := Lib.hid hK; have HL := Lib.hid hl; have HM3 := Lib.hid hM
  clear hb3 hT3 hf3 hX hK hl hM
  show Code.wp _ _ _ { tmps := #[f 0, f 1, f 2, f 3, f 4, f 5, f 6, f 7, f 8, f 9, f 10, f 11, f 12, f 13, f 14, f 15, f 16, f 17, f 18, f 19, f 20, f 21, f 22, f 23, f 24, f 25, f 26, f 27, f 28, f 29, f 30, f 31, f 32, f 33, f 34, f 35, f 36, f 37, f 38, f 39, f 40, f 41, f 42, f 43, f 44, f 45, f 46, f 47, f 48, f 49, f 50, f 51, f 52, f 53, f 54, f 55, f 56, f 57, f 58, f 59, f 60, f 61, f 62, f 63, f 64, f 65, f 66, f 67, f 68, f 69, f 70, f 71, f 72, f 73, f 74, f 75, f 76, f 77, f 78, f 79, f 80, f 81, f 82, f 83, f 84, f 85, f 86, f 87, f 88, f 89, f 90, f 91, f 92, f 93, f 94, f 95, f 96, f 97, f 98, f 99, f 100, f 101, f 102, f 103, f 104, f 105, f 106, f 107, f 108, f 109, f 110, f 111, f 112, f 113, f 114, f 115, f 116, f 117, f 118, f 119, f 120, f 121, f 122, f 123, f 124, f 125, f 126, f 127, f 128, f 129, f 130, f 131, f 132, f 133, f 134, f 135, f 136, f 137, f 138, f 139, f 140, f 141, f 142, f 143, f 144, f 145, f 146, f 147, f 148, f 149, f 150, f 151, f 152, f 153, f 154, f 155, f 156, f 157, f 158, f 159, f 160, f 161, f 162, f 163, f 164, f 165, f 166, f 167, f 168, f 169, f 170, f 171, f 172, f 173, f 174, f 175, f 176, f 177, f 178, f 179, f 180], defers := [] } _
  rw [h1, h5]
  clear h1 h5
  conv => arg 2; whnf
  refine Code.wp_mono (Q := Exit.then (fun a' W' => K a' W') (fun _ _ _ => False)) ?_ ?_
  case refine_1 =>
    intro e a' W' h
    cases e
    case' normal => exact h
    all_goals exact (h : False).elim
  go_region_law (first
    | (go_simp; go_at_call 26; refine (lText_any _ _).mono ?_; rintro e wt ⟨rfl, hft⟩; have hfc : Fr N0 W3 wt := Fr.then0 (by repeat (first | exact Fr.refl _ _ | assumption | refine Fr.alloc ?_ _ | refine Fr.drew ?_ | refine Fr.drewN ?_ _ | refine Fr.setCell ?_ (.inr (by simp; try omega)) _)) hft; obtain ⟨mt, nt, lt⟩ := box_cells (hfc.held B HBB.out))
    | (go_simp; go_at_call 25; refine (lPut_any _ _ _ _ _ _ _ _).mono ?_; rintro e wt ⟨rfl, hft⟩; have hfc : Fr N0 W3 wt := Fr.then0 (by repeat (first | exact Fr.refl _ _ | assumption | refine Fr.alloc ?_ _ | refine Fr.drew ?_ | refine Fr.drewN ?_ _ | refine Fr.setCell ?_ (.inr (by simp; try omega)) _)) hft; obtain ⟨mt, nt, lt⟩ := box_cells (hfc.held B HBB.out))
    | (go_simp; go_at_call 24; refine (HW.out _ _ _ _ _ _ (IsTxn.fr0 HT3.out (hfc.alloc _)) (Schs.fr0 HL.out (hfc.alloc _)) (rowsK_of_block (enc := Wr.enc) (n := 8) (fun _ => rfl) [lW1, lW2] (blkN rfl) rfl (by decide)) (HM3.out.fr0 (hfc.alloc _))).mono ?_; rintro e wv ⟨v3, rfl, ⟨vw3, vk3, vn3, vg3, vl3, rfl, hT4⟩, hfv⟩; have hfd : Fr N0 W3 wv := (hfc.alloc _).then0 hfv; obtain ⟨⟨aw3, cw3, rfl⟩, ⟨ak3, ck3, rfl⟩, ⟨an3, cn3, rfl⟩, ⟨ag3, cg3, rfl⟩, ⟨al3, cl3, rfl⟩⟩ := hT4.shapes; have HT4 := Lib.hid hT4; have hz := hfd.held B HBB.out; obtain ⟨mz, nz, lz⟩ := box_cells hz; have HZ4 := Lib.hid hz; clear hz hT4)
    | fail)
  all_goals exact cut_use (n := 181) (K := K) _ rfl (HK.out _ _ rfl rfl rfl rfl ⟨aw3, cw3, ak3, ck3, an3, cn3, ag3, cg3, al3, cl3, (told_store (w := w) hB HZ4.out (dull_txn _ _ _ _ _ _ _ _ _ _ _ _ _ _ _ _ _ _ _) ⟨_, _, _, _, _, rfl, HT4.out⟩ (outs_nil _) (HF3.out.then0 hfd)).1, (told_store (w := w) hB HZ4.out (dull_txn _ _ _ _ _ _ _ _ _ _ _ _ _ _ _ _ _ _ _) ⟨_, _, _, _, _, rfl, HT4.out⟩ (outs_nil _) (HF3.out.then0 hfd)).2.1, (told_store (w := w) hB HZ4.out (dull_txn _ _ _ _ _ _ _ _ _ _ _ _ _ _ _ _ _ _ _) ⟨_, _, _, _, _, rfl, HT4.out⟩ (outs_nil _) (HF3.out.then0 hfd)).2.2.2⟩)
end Go.Proofs.YthidminepegnoaaGreatDoor
