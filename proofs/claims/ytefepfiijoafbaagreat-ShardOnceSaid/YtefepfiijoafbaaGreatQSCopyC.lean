/- Copy of a state: its lists. Copy of a state: what is staged. Copy of a state, whole. -/
import Derived.Test.YtefepfiijoafbaaGreatQSStageN
namespace Go.Proofs.YtefepfiijoafbaaGreat
open Go.RowKit Go.Shelf Go.Maps
attribute [local go_sem] Oper.semAt_some
attribute [local go_sem ↓] Go.wp_at_zero Go.wp_at_succ
attribute [local irreducible] wpQuiet
set_option linter.unusedVariables false
set_option linter.unusedSimpArgs false

noncomputable def cpB (n : Nat) : Code := lvSuf n ((Tryz.f16.body).getD .skip)
theorem viewL_inv {f : ByteArray → Option PL} {pt : ByteArray → Nat} {x : ByteArray} {kl : Lit} {c : Nat} (hk : keyOf Tryz.prog 9 (.string x) = some kl) (h : viewL f pt kl = some (.pointer (some ⟨c, 0, none⟩))) : kl = litS x ∧ ∃ l, f x = some l ∧ c = pt x := by
  obtain ⟨s, h1, h2, -⟩ := Go.WideMaps.string_of_keyOf Tryz.underlying9 hk
  injection h1 with h1
  subst h1
  refine ⟨h2, ?_⟩
  rw [h2, show Lit.string x.data.toList = litS x from rfl, viewL_at] at h
  cases hf : f x with
  | none => rw [hf] at h; cases h
  | some l => rw [hf] at h; simp at h; exact ⟨l, rfl, h.symm⟩
theorem viewL_shape (f : ByteArray → Option PL) (pt : ByteArray → Nat) (kl : Lit) (v : Value) (h : viewL f pt kl = some v) : ∃ c : Nat, v = .pointer (some ⟨c, 0, none⟩) := by
  unfold viewL at h
  split at h
  · rename_i l
    cases hf : f (mkS l) with
    | none => rw [hf] at h; cases h
    | some l => rw [hf] at h; simp at h; exact ⟨_, h.symm⟩
  · cases h
/-- One more is copied. -/
theorem viewL_step {f : ByteArray → Option PL} {pt : ByteArray → Nat} {left : Lit → Bool} {x : ByteArray} {l : PL} {p' : Nat} (hf : f x = some l) :
    putF (outOf (viewL f pt) left) (litS x) (some (.pointer (some ⟨p', 0, none⟩))) = outOf (viewL f fun y => if y = x then p' else pt y) fun z => left z && !z.sameKey (litS x) := by
  have hk : WideAt.IsKeyLit (litS x) := trivial
  funext z
  by_cases e : z = litS x
  · subst e
    rw [putF_same]
    simp only [outOf, WideAt.sameKey_self hk, Bool.not_true, Bool.and_false, Bool.false_eq_true, if_false]
    rw [viewL_at, hf]; simp
  · rw [putF_other e]
    simp only [outOf, sameKey_ne e, Bool.not_false, Bool.and_true]
    have : viewL f (fun y => if y = x then p' else pt y) z = viewL f pt z := by
      unfold viewL
      split
      · rename_i l'
        have : mkS l' ≠ x := fun e' => e (by rw [← e']; simp [litS, mkS])
        simp [this]
      · rfl
    rw [this]

set_option maxRecDepth 100000 in
set_option maxHeartbeats 4000000 in
theorem cp3 {K : Act → World → Prop} {Q : Exit → Act → World → Prop} (W : World) (f : Nat → Value) (R : Nat → Prop) (t t' : StB) (m : StM) (s : SS) (N : Nat) (h : StAt W R t m s N) (hF : s.Fine N) (hN : N ≤ 100000) (hc : t'.Cells W) (hm : MapF Tryz.prog 9 W t'.mL 0 fun _ => none)
    (hne : t'.mL ≠ t.mL) (hnp : t'.mL ≠ t'.p) (hR : ∀ k, R k → k ≠ t'.mL) (h0 : f 0 = .pointer (some ⟨t.p, 0, none⟩)) (h3 : f 3 = .pointer (some ⟨t'.p, 0, none⟩))
    (hK : ∀ (f' : Nat → Value) (W' : World) (RL' : ByteArray → Nat → Prop) (pt' : ByteArray → Nat), f' 0 = f 0 → f' 3 = f 3 → MapF Tryz.prog 9 W' t'.mL N (viewL s.lists pt') → (∀ q l, s.lists q = some l → IsPL W' (RL' q) (pt' q) l) → (∀ q k, RL' q k → W.heap.size ≤ k ∧ k < W'.heap.size) → (∀ q q' k, RL' q k → RL' q' k → q = q') → Fr (fun j => j = t'.mL) W W' → K (frA 55 f') W') :
    Code.wp Tryz.prog (lvFst (cpB 3)) (Exit.then K Q) (frA 55 f) W := by
  obtain ⟨m1, n1, l1⟩ := box_cells h.cells
  obtain ⟨m2, n2, l2⟩ := box_cells hc
  have hmap := h.mapL
  have hcopy : ∀ x l, s.lists x = some l → ∀ W', Fr (fun j => j = t'.mL) W W' → Calls Tryz.prog 63 #[.pointer (some ⟨m.pt x, 0, none⟩)] W' fun e w' => ∃ p', e = .returned (.pointer (some ⟨p', 0, none⟩)) ∧ IsPL w' (fun k => W'.heap.size ≤ k ∧ k < w'.heap.size) p' l ∧ Fr N0 W' w' := fun x l hx W' hf => by
    have hl := hF.lists _ _ hx
    have := hl.commits; have := hl.times
    refine (copy_any W' (m.RL x) (m.pt x) l ((h.lists.1 _ _ hx).fr hf fun k hk e => hR k (h.lists.2.1 x k hk).1 e) hl.size' (by omega) (by omega) (fun c hc => by have := (hl.writes c hc).1; omega)).mono ?_
    rintro e w' ⟨p', g1, g2, g3⟩
    exact ⟨p', g1, g2.bound, g3⟩
  have hnm := h.mapL.lt
  have hnm' := hm.lt
  obtain ⟨p, mL, mS, mF⟩ := t
  obtain ⟨p', mL', mS', mF'⟩ := t'
  have hcell := hc
  unfold StB.Cells at hcell
  simp only at *
  have HK := Lib.hid hK; have HC := Lib.hid hcopy; have HCELL := Lib.hid hcell
  clear hK hcopy h hF hR hc hcell
  have H0 := Lib.hid h0; have H3 := Lib.hid h3
  show Code.wp _ _ _ { tmps := #[f 0, f 1, f 2, f 3, f 4, f 5, f 6, f 7, f 8, f 9, f 10, f 11, f 12, f 13, f 14, f 15, f 16, f 17, f 18, f 19, f 20, f 21, f 22, f 23, f 24, f 25, f 26, f 27, f 28, f 29, f 30, f 31, f 32, f 33, f 34, f 35, f 36, f 37, f 38, f 39, f 40, f 41, f 42, f 43, f 44, f 45, f 46, f 47, f 48, f 49, f 50, f 51, f 52, f 53, f 54], defers := [] } _
  rw [h0, h3]
  clear h0 h3
  conv => arg 2; whnf
  go_wp2_with (at_range; go_loud (refine wpList_rangeF2 _ rfl _ 119 rfl 9 51 lawSt Tryz.underlying119 mL N _ rfl hmap ?_); intro w0 cnt0 hc0 hrg0 hf0 hs0)
  go_frame
  go_loopw [] (fun wr => ∃ (left : Lit → Bool) (cnt k : Nat) (RL' : ByteArray → Nat → Prop) (pt' : ByteArray → Nat), MapR Tryz.prog 9 wr mL W.heap.size N (viewL s.lists m.pt) left cnt ∧ MapF Tryz.prog 9 wr mL' k (outOf (viewL s.lists pt') left) ∧ k + cnt ≤ N ∧
      Hid (∀ kl, left kl = true → (viewL s.lists m.pt kl).isSome = true) ∧ Hid ((∀ q l, s.lists q = some l → left (litS q) = false → IsPL wr (RL' q) (pt' q) l) ∧ (∀ q k, RL' q k → W.heap.size < k ∧ k < wr.heap.size) ∧ ∀ q q' k, RL' q k → RL' q' k → q = q') ∧ Fr (fun j => j = mL') W wr) (fun wr => wr.rangeLeft mL W.heap.size)
  case atStart =>
    refine ⟨_, cnt0, 0, fun _ _ => False, fun _ => 0, hrg0, ?_, by omega, fun kl h => h, ⟨?_, (fun _ _ h => False.elim h), (fun _ _ _ h => False.elim h)⟩, hf0.mono fun _ h => h.elim⟩
    · have : outOf (viewL s.lists fun _ => 0) (fun kl => (viewL s.lists m.pt kl).isSome) = fun _ => none := by
        funext kl
        unfold outOf
        split
        · rfl
        · rename_i hk
          unfold viewL at hk ⊢
          split
          · rename_i l
            cases hx : s.lists (mkS l) with
            | none => rfl
            | some l => exfalso; apply hk; simp [hx]
          · rfl
      rw [this]
      exact hm.fr hf0 id
    · intro q l hq hlf
      rw [viewL_at, hq] at hlf
      simp at hlf
  case round =>
    obtain ⟨left, cnt, k, RL', pt', hrg, hout, hkc, hl, hpl, hfr⟩ := hrel
    have hzr := hfr.size
    go_wp2_with (at_next; go_loud (refine wpList_nextF _ rfl _ rfl 9 lawSt (fun x : ByteArray => Value.string x) (fun c : Nat => Value.pointer (some ⟨c, 0, none⟩)) (fun _ _ => invSt) mL W.heap.size N _ left cnt (viewL_shape _ _) hl.out rfl hrg ?_ ?_))
    · intro _ hl0
      have ho : outOf (viewL s.lists pt') left = viewL s.lists pt' := outOf_end hl0
      rw [ho] at hout
      have HO := Lib.hid (hout.mono (by omega : k ≤ N))
      have HPL := Lib.hid hpl.out
      have HL0 := Lib.hid hl0
      clear ho hout hl hl0 hrg hpl
      go_wp2
      refine cut_use (n := 55) (K := K) _ rfl ?_
      exact HK.out _ _ RL' pt' H0.out.symm H3.out.symm HO.out (fun q l hq => HPL.out.1 q l hq (HL0.out _)) (fun q k hk => by have := HPL.out.2.1 q k hk; omega) HPL.out.2.2 hfr
    · intro x v kl w' cnt' hkey hlk hF hrg' hlt hfr' hsz hen
      obtain ⟨rfl, l, hx, rfl⟩ := viewL_inv hkey hF
      have hfw : Fr (fun j => j = mL') W w' := hfr.trans hfr' fun k e => .inr (by omega)
      have hcl := HC.out x l hx w'.drew hfw.drew
      have hcw := (hfw.at (k := p') (fun e => hnp e.symm) l2).trans HCELL.out
      obtain ⟨m3, n3, l3⟩ := box_cells hcw
      have hmw := hout.fr hfr' (fun e => by omega)
      have HM := Lib.hid hmw; have HCL := Lib.hid hcl; have HX := Lib.hid hx; have HK2 := Lib.hid hkey; have HRG := Lib.hid hrg'; have HCW := Lib.hid hcw; have HPL := Lib.hid hpl.out; have HLF := Lib.hid hl.out
      have hsl := hrg.left_eq
      have HSL := Lib.hid hsl
      clear hmw hcl hx hkey hlk hF hrg' hcw hpl hl hout hrg hsl
      go_wp2_with fail
      refine wp_plainN ?_
      go_region_law (first
        | (go_simp; go_at_call 63; refine HCL.out.mono ?_; rintro e w5 ⟨p2, rfl, hip, hf5⟩; have hcw5 := (hf5.at (k := p') id l3).trans HCW.out; obtain ⟨m5, n5, l5⟩ := box_cells hcw5; obtain ⟨w6, hrun, hm6, hf6⟩ := (HM.out.fr ((Fr.refl N0 w').drew.then0 hf5) id).store lawSt Tryz.underlying119 (by unfold maxLen; omega) HK2.out (.pointer (some ⟨p2, 0, none⟩)))
        | fail)
      all_goals
        rw [viewL_step HX.out] at hm6
        have hz5 := hf5.size
        have hz6 := hf6.size
        have hrz : w'.drew.heap.size = w'.heap.size := rfl
        have hrl := HRG.out.lt
        have hf56 : Fr (fun j => j = mL') w' w6 := ((Fr.refl _ w').drew.then0 hf5).trans hf6 fun k e => .inl e
        have hr6 := HRG.out.fr hf56 (fun e => hne e.symm) (fun e => by omega)
        have hpl6 : Hid ((∀ q l', s.lists q = some l' → (left (litS q) && !(litS q).sameKey (litS x)) = false → IsPL w6 ((fun y k => (y = x ∧ w'.heap.size ≤ k ∧ k < w5.heap.size) ∨ (y ≠ x ∧ RL' y k)) q) (if q = x then p2 else pt' q) l') ∧ (∀ q k, (fun y k => (y = x ∧ w'.heap.size ≤ k ∧ k < w5.heap.size) ∨ (y ≠ x ∧ RL' y k)) q k → W.heap.size < k ∧ k < w6.heap.size) ∧ ∀ q q' k, (fun y k => (y = x ∧ w'.heap.size ≤ k ∧ k < w5.heap.size) ∨ (y ≠ x ∧ RL' y k)) q k → (fun y k => (y = x ∧ w'.heap.size ≤ k ∧ k < w5.heap.size) ∨ (y ≠ x ∧ RL' y k)) q' k → q = q') := by
          obtain ⟨g1, g2, g3⟩ := HPL.out
          refine ⟨fun q l' hq hlf => ?_, fun q k hk => ?_, fun q q' k hk hk' => ?_⟩
          · by_cases e : q = x
            · subst e
              have := HX.out.symm.trans hq
              obtain rfl := Option.some.inj this
              simp only [if_true]
              exact (hip.fr hf6 fun k hk e => by have := hk.1; omega).mono fun k hk => .inl ⟨by trivial, hk⟩
            · simp only [if_neg e]
              have hne2 : litS q ≠ litS x := fun e' => e (by have := congrArg (fun z => match z with | Lit.string b => mkS b | _ => mkS []) e'; simpa [litS, mkS_data] using this)
              rw [sameKey_ne hne2] at hlf
              simp only [Bool.not_false, Bool.and_true] at hlf
              refine (((g1 q l' hq hlf).fr hfr' fun k hk e => by have := g2 q k hk; omega).fr hf56 fun k hk e => by have := g2 q k hk; omega).mono fun k hk => .inr ⟨e, hk⟩
          · rcases hk with ⟨-, hk⟩ | ⟨-, hk⟩
            · omega
            · have := g2 q k hk; omega
          · rcases hk with ⟨e, hk⟩ | ⟨e, hk⟩ <;> rcases hk' with ⟨e', hk'⟩ | ⟨e', hk'⟩
            · rw [e, e']
            · have := g2 q' k hk'; omega
            · have := g2 q k hk; omega
            · exact g3 q q' k hk hk'
        clear hip hrun hcw5
        go_roundw
        case rel =>
          (repeat apply Exists.intro)
          exact ⟨⟨_, cnt', k + 1, fun y k => (y = x ∧ w'.heap.size ≤ k ∧ k < w5.heap.size) ∨ (y ≠ x ∧ RL' y k), fun y => if y = x then p2 else pt' y, hr6, hm6, by omega, left_next HLF.out, hpl6, hfw.trans hf56 fun _ e => .inl e⟩, rfl⟩
        case measure => rw [hr6.left_eq, HSL.out]; omega
end Go.Proofs.YtefepfiijoafbaaGreat
namespace Go.Proofs.YtefepfiijoafbaaGreat
open Go.RowKit Go.Shelf Go.Maps
attribute [local go_sem] Oper.semAt_some
attribute [local go_sem ↓] Go.wp_at_zero Go.wp_at_succ
attribute [local irreducible] wpQuiet
set_option linter.unusedVariables false
set_option linter.unusedSimpArgs false

theorem viewS_inv {f : Int → Option (List Wr)} {sv : Int → Value} {x : Int} {kl : Lit} {v : Value} (hk : keyOf Tryz.prog 33 (.int .u64 x) = some kl) (h : viewS f sv kl = some v) : kl = litU x ∧ ∃ l, f x = some l ∧ v = sv x := by
  obtain ⟨y, h1, h2, -⟩ := Maps.keyOf_int_inv Tryz.underlying33 hk
  injection h1 with _ h1
  subst h1
  refine ⟨h2, ?_⟩
  rw [h2, show Lit.int .u64 x = litU x from rfl, viewS_at] at h
  cases hf : f x with
  | none => rw [hf] at h; cases h
  | some l => rw [hf] at h; simp at h; exact ⟨l, rfl, h.symm⟩
/-- One more is copied. -/
theorem viewS_step {f : Int → Option (List Wr)} {sv : Int → Value} {left : Lit → Bool} {x : Int} {l : List Wr} {v' : Value} (hf : f x = some l) :
    putF (outOf (viewS f sv) left) (litU x) (some v') = outOf (viewS f fun y => if y = x then v' else sv y) fun z => left z && !z.sameKey (litU x) := by
  have hk : WideAt.IsKeyLit (litU x) := trivial
  funext z
  by_cases e : z = litU x
  · subst e
    rw [putF_same]
    simp only [outOf, WideAt.sameKey_self hk, Bool.not_true, Bool.and_false, Bool.false_eq_true, if_false]
    rw [viewS_at, hf]; simp
  · rw [putF_other e]
    simp only [outOf, sameKey_ne e, Bool.not_false, Bool.and_true]
    have : viewS f (fun y => if y = x then v' else sv y) z = viewS f sv z := by
      unfold viewS
      split
      · rename_i y
        have : y ≠ x := fun e' => e (by rw [e'])
        simp [this]
      · rfl
    rw [this]

set_option maxRecDepth 100000 in
set_option maxHeartbeats 4000000 in
theorem cp4 {K : Act → World → Prop} {Q : Exit → Act → World → Prop} (W : World) (f : Nat → Value) (R : Nat → Prop) (t t' : StB) (m : StM) (s : SS) (N : Nat) (h : StAt W R t m s N) (hF : s.Fine N) (hN : N ≤ 100000) (hc : t'.Cells W) (hm : MapF Tryz.prog 33 W t'.mS 0 fun _ => none)
    (hne : t'.mS ≠ t.mS) (hnp : t'.mS ≠ t'.p) (hR : ∀ k, R k → k ≠ t'.mS) (h0 : f 0 = .pointer (some ⟨t.p, 0, none⟩)) (h3 : f 3 = .pointer (some ⟨t'.p, 0, none⟩))
    (hK : ∀ (f' : Nat → Value) (W' : World) (sv' : Int → Value) (sb' : Int → Nat), f' 0 = f 0 → f' 3 = f 3 → MapF Tryz.prog 33 W' t'.mS N (viewS s.staged sv') → (∀ x ws, s.staged x = some ws → Wrs W' (sb' x) (sv' x) ws ∧ (0 < ws.length → W.heap.size ≤ sb' x)) → Fr (fun j => j = t'.mS) W W' → K (frA 55 f') W') :
    Code.wp Tryz.prog (lvFst (cpB 4)) (Exit.then K Q) (frA 55 f) W := by
  obtain ⟨m1, n1, l1⟩ := box_cells h.cells
  obtain ⟨m2, n2, l2⟩ := box_cells hc
  have hmap := h.mapS
  have hcopy : ∀ x ws, s.staged x = some ws → ∀ W', Fr (fun j => j = t'.mS) W W' → Calls Tryz.prog 64 #[m.sv x] W' fun e w' => ∃ v' : Value, e = .returned v' ∧ w'.ownsRow W'.heap.size 61 8 v' ws.length (ws.flatMap Wr.enc) ∧ Fr N0 W' w' := fun x ws hx W' hf => by
    obtain ⟨g1, g2⟩ := h.staged x ws hx
    have := (hF.staged x ws hx).2.1
    refine (cloneW_any W' (m.sb x) (m.sv x) ws (rowsK_frT (enc := Wr.enc) (n := 8) (fun _ => rfl) g1 hf fun h0 e => hR _ (g2 h0).1 e) (by omega)).mono ?_
    rintro e w' ⟨v', g1, g2, -, g3⟩
    exact ⟨v', g1, g2, g3⟩
  have hnm := h.mapS.lt
  have hnm' := hm.lt
  obtain ⟨p, mL, mS, mF⟩ := t
  obtain ⟨p', mL', mS', mF'⟩ := t'
  have hcell := hc
  unfold StB.Cells at hcell
  simp only at *
  have HK := Lib.hid hK; have HC := Lib.hid hcopy; have HCELL := Lib.hid hcell
  clear hK hcopy h hF hR hc hcell
  have H0 := Lib.hid h0; have H3 := Lib.hid h3
  show Code.wp _ _ _ { tmps := #[f 0, f 1, f 2, f 3, f 4, f 5, f 6, f 7, f 8, f 9, f 10, f 11, f 12, f 13, f 14, f 15, f 16, f 17, f 18, f 19, f 20, f 21, f 22, f 23, f 24, f 25, f 26, f 27, f 28, f 29, f 30, f 31, f 32, f 33, f 34, f 35, f 36, f 37, f 38, f 39, f 40, f 41, f 42, f 43, f 44, f 45, f 46, f 47, f 48, f 49, f 50, f 51, f 52, f 53, f 54], defers := [] } _
  rw [h0, h3]
  clear h0 h3
  conv => arg 2; whnf
  go_wp2_with (at_range; go_loud (refine wpList_rangeF2 _ rfl _ 120 rfl 33 34 lawU Tryz.underlying120 mS N _ rfl hmap ?_); intro w0 cnt0 hc0 hrg0 hf0 hs0)
  go_frame
  go_loopw [] (fun wr => ∃ (left : Lit → Bool) (cnt k : Nat) (sv' : Int → Value) (sb' : Int → Nat), MapR Tryz.prog 33 wr mS W.heap.size N (viewS s.staged m.sv) left cnt ∧ MapF Tryz.prog 33 wr mS' k (outOf (viewS s.staged sv') left) ∧ k + cnt ≤ N ∧
      Hid (∀ kl, left kl = true → (viewS s.staged m.sv kl).isSome = true) ∧ Hid (∀ x ws, s.staged x = some ws → left (litU x) = false → Wrs wr (sb' x) (sv' x) ws ∧ (0 < ws.length → W.heap.size < sb' x)) ∧ Fr (fun j => j = mS') W wr) (fun wr => wr.rangeLeft mS W.heap.size)
  case atStart =>
    refine ⟨_, cnt0, 0, fun _ => .slice none 0 0, fun _ => 0, hrg0, ?_, by omega, fun kl h => h, ?_, hf0.mono fun _ h => h.elim⟩
    · have : outOf (viewS s.staged fun _ => .slice none 0 0) (fun kl => (viewS s.staged m.sv kl).isSome) = fun _ => none := by
        funext kl
        unfold outOf
        split
        · rfl
        · rename_i hk
          unfold viewS at hk ⊢
          split
          · rename_i y
            cases hx : s.staged y with
            | none => rfl
            | some l => exfalso; apply hk; simp [hx]
          · rfl
      rw [this]
      exact hm.fr hf0 id
    · intro x ws hq hlf
      rw [viewS_at, hq] at hlf
      simp at hlf
  case round =>
    obtain ⟨left, cnt, k, sv', sb', hrg, hout, hkc, hl, hpl, hfr⟩ := hrel
    have hzr := hfr.size
    go_wp2_with (at_next; go_loud (refine wpList_nextF _ rfl _ rfl 33 lawU (fun x : Int => Value.int .u64 x) (fun v : Value => v) (fun _ _ => invU) mS W.heap.size N _ left cnt (fun _ v _ => ⟨v, rfl⟩) hl.out rfl hrg ?_ ?_))
    · intro _ hl0
      have ho : outOf (viewS s.staged sv') left = viewS s.staged sv' := outOf_end hl0
      rw [ho] at hout
      have HO := Lib.hid (hout.mono (by omega : k ≤ N))
      have HPL := Lib.hid hpl.out
      have HL0 := Lib.hid hl0
      clear ho hout hl hl0 hrg hpl
      go_wp2
      refine cut_use (n := 55) (K := K) _ rfl ?_
      exact HK.out _ _ sv' sb' H0.out.symm H3.out.symm HO.out (fun x ws hq => ⟨(HPL.out x ws hq (HL0.out _)).1, fun h0 => Nat.le_of_lt ((HPL.out x ws hq (HL0.out _)).2 h0)⟩) hfr
    · intro x v kl w' cnt' hkey hlk hF hrg' hlt hfr' hsz hen
      obtain ⟨rfl, l, hx, rfl⟩ := viewS_inv hkey hF
      have hfw : Fr (fun j => j = mS') W w' := hfr.trans hfr' fun k e => .inr (by omega)
      have hcl := HC.out x l hx w'.drew hfw.drew
      have hcw := (hfw.at (k := p') (fun e => hnp e.symm) l2).trans HCELL.out
      obtain ⟨m3, n3, l3⟩ := box_cells hcw
      have hmw := hout.fr hfr' (fun e => by omega)
      obtain ⟨svx, hsvx⟩ : ∃ y, m.sv x = y := ⟨_, rfl⟩
      simp only [hsvx] at hcl hen ⊢
      have HM := Lib.hid hmw; have HCL := Lib.hid hcl; have HX := Lib.hid hx; have HK2 := Lib.hid hkey; have HRG := Lib.hid hrg'; have HCW := Lib.hid hcw; have HPL := Lib.hid hpl.out; have HLF := Lib.hid hl.out
      have hsl := hrg.left_eq
      have HSL := Lib.hid hsl
      clear hmw hcl hx hkey hlk hF hrg' hcw hpl hl hout hrg hsl hsvx
      go_wp2_with fail
      refine wp_plainN ?_
      go_region_law (first
        | (go_simp; go_at_call 64; refine HCL.out.mono ?_; rintro e w5 ⟨v5, rfl, hip, hf5⟩; obtain ⟨ra, rc, rfl⟩ := slice_of_row hip; have hcw5 := (hf5.at (k := p') id l3).trans HCW.out; obtain ⟨m5, n5, l5⟩ := box_cells hcw5; obtain ⟨w6, hrun, hm6, hf6⟩ := (HM.out.fr ((Fr.refl N0 w').drew.then0 hf5) id).store lawU Tryz.underlying120 (by unfold maxLen; omega) HK2.out (.slice ra l.length rc))
        | fail)
      all_goals
        rw [viewS_step HX.out] at hm6
        have hz5 := hf5.size
        have hz6 := hf6.size
        have hrz : w'.drew.heap.size = w'.heap.size := rfl
        have hrl := HRG.out.lt
        have hf56 : Fr (fun j => j = mS') w' w6 := ((Fr.refl _ w').drew.then0 hf5).trans hf6 fun k e => .inl e
        have hr6 := HRG.out.fr hf56 (fun e => hne e.symm) (fun e => by omega)
        obtain ⟨bb, -, hbk⟩ := rowsK_of_row (enc := Wr.enc) (n := 8) (fun _ => rfl) (by decide) hip
        have hbl := ownsRow_lt hip
        have hbb : 0 < l.length → w'.heap.size ≤ bb := fun hpos => by
          obtain ⟨a, off', cap', he', -, -, g3, -⟩ := hbk
          have ho : (Value.slice ra l.length rc).ownBlock = some bb := by rw [he', g3 hpos]; rfl
          have := (hbl bb ho).1
          omega
        have hpl6 : Hid (∀ y ws, s.staged y = some ws → (left (litU y) && !(litU y).sameKey (litU x)) = false → Wrs w6 (if y = x then bb else sb' y) (if y = x then .slice ra l.length rc else sv' y) ws ∧ (0 < ws.length → W.heap.size < (if y = x then bb else sb' y))) := by
          intro y ws hq hlf
          by_cases e : y = x
          · subst e
            have := HX.out.symm.trans hq
            obtain rfl := Option.some.inj this
            simp only [if_true]
            exact ⟨rowsK_frT (enc := Wr.enc) (n := 8) (fun _ => rfl) hbk hf6 fun h0 e => by have := hbb h0; omega, fun h0 => by have := hbb h0; omega⟩
          · simp only [if_neg e]
            have hne2 : litU y ≠ litU x := fun e' => e (by injection e')
            rw [sameKey_ne hne2] at hlf
            simp only [Bool.not_false, Bool.and_true] at hlf
            obtain ⟨g1, g2⟩ := HPL.out y ws hq hlf
            exact ⟨rowsK_frT (enc := Wr.enc) (n := 8) (fun _ => rfl) (rowsK_frT (enc := Wr.enc) (n := 8) (fun _ => rfl) g1 hfr' fun h0 e => by have := g2 h0; omega) hf56 fun h0 e => by have := g2 h0; omega, g2⟩
        clear hip hrun hcw5 hbk
        go_roundw
        case rel =>
          (repeat apply Exists.intro)
          exact ⟨⟨_, cnt', k + 1, fun y => if y = x then .slice ra l.length rc else sv' y, fun y => if y = x then bb else sb' y, hr6, hm6, by omega, left_next HLF.out, hpl6, hfw.trans hf56 fun _ e => .inl e⟩, rfl⟩
        case measure => rw [hr6.left_eq, HSL.out]; omega

set_option maxRecDepth 100000 in
set_option maxHeartbeats 4000000 in
theorem cp5 {K : Act → World → Prop} {Q : Exit → Act → World → Prop} (W : World) (f : Nat → Value) (R : Nat → Prop) (t t' : StB) (m : StM) (s : SS) (N : Nat) (h : StAt W R t m s N) (hN : N ≤ 100000) (hc : t'.Cells W) (hm : MapF Tryz.prog 33 W t'.mF 0 fun _ => none)
    (hne : t'.mF ≠ t.mF) (h0 : f 0 = .pointer (some ⟨t.p, 0, none⟩)) (h3 : f 3 = .pointer (some ⟨t'.p, 0, none⟩))
    (hK : ∀ (f' : Nat → Value) (W' : World), f' 0 = f 0 → f' 3 = f 3 → MapF Tryz.prog 33 W' t'.mF N (viewF s.finals) → Fr (fun j => j = t'.mF) W W' → K (frA 55 f') W') :
    Code.wp Tryz.prog (lvFst (cpB 5)) (Exit.then K Q) (frA 55 f) W := by
  obtain ⟨m1, n1, l1⟩ := box_cells h.cells
  obtain ⟨m2, n2, l2⟩ := box_cells hc
  have hcopy := mCopy4_any W.drew t.mF t'.mF N 0 N (viewF s.finals) (fun _ => none) (h.mapF.fr (Fr.refl N0 W).drew id) (hm.fr (Fr.refl N0 W).drew id) (fun e => hne e.symm) (fun kl v hv => by
    unfold viewF at hv
    split at hv
    · rename_i y
      cases hx : s.finals y with
      | none => rw [hx] at hv; cases hv
      | some l => rw [hx] at hv; simp at hv; exact ⟨l, hv.symm⟩
    · cases hv) (by omega) (by omega)
  obtain ⟨p, mL, mS, mF⟩ := t
  obtain ⟨p', mL', mS', mF'⟩ := t'
  simp only at *
  have HK := Lib.hid hK; have HC := Lib.hid hcopy
  clear hK hcopy h hc hm
  have H0 := Lib.hid h0; have H3 := Lib.hid h3
  show Code.wp _ _ _ { tmps := #[f 0, f 1, f 2, f 3, f 4, f 5, f 6, f 7, f 8, f 9, f 10, f 11, f 12, f 13, f 14, f 15, f 16, f 17, f 18, f 19, f 20, f 21, f 22, f 23, f 24, f 25, f 26, f 27, f 28, f 29, f 30, f 31, f 32, f 33, f 34, f 35, f 36, f 37, f 38, f 39, f 40, f 41, f 42, f 43, f 44, f 45, f 46, f 47, f 48, f 49, f 50, f 51, f 52, f 53, f 54], defers := [] } _
  rw [h0, h3]
  clear h0 h3
  conv => arg 2; whnf
  refine wp_plainQ ?_
  go_region_law (first
    | (go_simp; go_at_call 65; refine HC.out.mono ?_; rintro e w5 ⟨rfl, hm5, hf5⟩)
    | fail)
  all_goals
    refine cut_use (n := 55) (K := K) _ rfl ?_
    exact HK.out _ _ H0.out.symm H3.out.symm hm5 ((Fr.refl _ W).drew.trans hf5 fun k e => .inl e)
end Go.Proofs.YtefepfiijoafbaaGreat
namespace Go.Proofs.YtefepfiijoafbaaGreat
open Go.RowKit Go.Shelf Go.Maps
attribute [local go_sem] Oper.semAt_some
attribute [local irreducible] wpQuiet
set_option linter.unusedVariables false
set_option linter.unusedSimpArgs false

set_option maxRecDepth 100000 in
set_option maxHeartbeats 1000000 in
theorem cp0 {K : Act → World → Prop} {Q : Exit → Act → World → Prop} (W : World) (f : Nat → Value) (p : Nat) (h0 : f 0 = .pointer (some ⟨p, 0, none⟩)) (hK : ∀ f', f' 0 = f 0 → K (frA 55 f') W) :
    Code.wp Tryz.prog (lvFst (cpB 0)) (Exit.then K Q) (frA 55 f) W := by
  have HK := Lib.hid hK; have H0 := Lib.hid h0
  clear hK
  show Code.wp _ _ _ { tmps := #[f 0, f 1, f 2, f 3, f 4, f 5, f 6, f 7, f 8, f 9, f 10, f 11, f 12, f 13, f 14, f 15, f 16, f 17, f 18, f 19, f 20, f 21, f 22, f 23, f 24, f 25, f 26, f 27, f 28, f 29, f 30, f 31, f 32, f 33, f 34, f 35, f 36, f 37, f 38, f 39, f 40, f 41, f 42, f 43, f 44, f 45, f 46, f 47, f 48, f 49, f 50, f 51, f 52, f 53, f 54], defers := [] } _
  rw [h0]
  clear h0
  conv => arg 2; whnf
  go_wp2
  refine cut_use (n := 55) (K := K) _ rfl ?_
  exact HK.out _ H0.out.symm
set_option maxRecDepth 100000 in
set_option maxHeartbeats 1000000 in
theorem cp1 {K : Act → World → Prop} {Q : Exit → Act → World → Prop} (W : World) (f : Nat → Value) (p : Nat) (hc : W.cell? ⟨p, 0, none⟩ = some (.bool true)) (h0 : f 0 = .pointer (some ⟨p, 0, none⟩)) (hK : ∀ f' W', f' 0 = f 0 → Fr N0 W W' → K (frA 55 f') W') :
    Code.wp Tryz.prog (lvFst (cpB 1)) (Exit.then K Q) (frA 55 f) W := by
  have hN := sNone_any W p hc
  have HK := Lib.hid hK; have H0 := Lib.hid h0; have HN := Lib.hid hN
  clear hK hN hc
  show Code.wp _ _ _ { tmps := #[f 0, f 1, f 2, f 3, f 4, f 5, f 6, f 7, f 8, f 9, f 10, f 11, f 12, f 13, f 14, f 15, f 16, f 17, f 18, f 19, f 20, f 21, f 22, f 23, f 24, f 25, f 26, f 27, f 28, f 29, f 30, f 31, f 32, f 33, f 34, f 35, f 36, f 37, f 38, f 39, f 40, f 41, f 42, f 43, f 44, f 45, f 46, f 47, f 48, f 49, f 50, f 51, f 52, f 53, f 54], defers := [] } _
  rw [h0]
  clear h0
  conv => arg 2; whnf
  go_wp2_with (go_at_call 52; refine HN.out.mono ?_; rintro e w1 ⟨rfl, hf1⟩)
  refine cut_use (n := 55) (K := K) _ rfl ?_
  exact HK.out _ _ H0.out.symm hf1
set_option maxRecDepth 100000 in
set_option maxHeartbeats 1000000 in
theorem cp2 {K : Act → World → Prop} {Q : Exit → Act → World → Prop} (W : World) (f : Nat → Value) (hK : ∀ f' W' (t : StB), f' 0 = f 0 → f' 3 = .pointer (some ⟨t.p, 0, none⟩) → NewAt W W' t → Fr N0 W W' → K (frA 55 f') W') :
    Code.wp Tryz.prog (lvFst (cpB 2)) (Exit.then K Q) (frA 55 f) W := by
  have HK := Lib.hid hK
  clear hK
  show Code.wp _ _ _ { tmps := #[f 0, f 1, f 2, f 3, f 4, f 5, f 6, f 7, f 8, f 9, f 10, f 11, f 12, f 13, f 14, f 15, f 16, f 17, f 18, f 19, f 20, f 21, f 22, f 23, f 24, f 25, f 26, f 27, f 28, f 29, f 30, f 31, f 32, f 33, f 34, f 35, f 36, f 37, f 38, f 39, f 40, f 41, f 42, f 43, f 44, f 45, f 46, f 47, f 48, f 49, f 50, f 51, f 52, f 53, f 54], defers := [] } _
  conv => arg 2; whnf
  go_wp2_with (go_at_call 12; refine (sNew_any _).mono ?_; rintro e w1 ⟨t, rfl, hn, hf1⟩)
  refine cut_use (n := 55) (K := K) _ rfl ?_
  exact HK.out _ _ t rfl rfl hn hf1
set_option maxRecDepth 100000 in
set_option maxHeartbeats 1000000 in
theorem cp6 {Q : Exit → Act → World → Prop} (W : World) (f : Nat → Value) (v : Value) (h3 : f 3 = v) (hQ : ∀ f', f' 2 = v → Q .ret (frA 55 f') W) : Code.wp Tryz.prog (cpB 6) Q (frA 55 f) W := by
  have HQ := Lib.hid hQ
  clear hQ
  show Code.wp _ _ _ { tmps := #[f 0, f 1, f 2, f 3, f 4, f 5, f 6, f 7, f 8, f 9, f 10, f 11, f 12, f 13, f 14, f 15, f 16, f 17, f 18, f 19, f 20, f 21, f 22, f 23, f 24, f 25, f 26, f 27, f 28, f 29, f 30, f 31, f 32, f 33, f 34, f 35, f 36, f 37, f 38, f 39, f 40, f 41, f 42, f 43, f 44, f 45, f 46, f 47, f 48, f 49, f 50, f 51, f 52, f 53, f 54], defers := [] } _
  rw [h3]
  clear h3
  conv => arg 2; whnf
  go_wp2
  refine cut_useQ (n := 55) (Q := Q) (e := .ret) _ rfl ?_
  exact HQ.out _ rfl
theorem cpB_eq : cpB 0 = .seq (lvFst (cpB 0)) (.seq (lvFst (cpB 1)) (.seq (lvFst (cpB 2)) (.seq (lvFst (cpB 3)) (.seq (lvFst (cpB 4)) (.seq (lvFst (cpB 5)) (cpB 6)))))) := by kernel_rfl

set_option maxRecDepth 100000 in
set_option maxHeartbeats 1000000 in
theorem sCopy_any (W : World) (R : Nat → Prop) (p : Nat) (s : SS) (N : Nat) (h : IsState W R p s N) (hF : s.Fine N) (hN : N ≤ 100000) :
    Calls Tryz.prog 16 #[.pointer (some ⟨p, 0, none⟩)] W fun e w' => ∃ p', e = .returned (.pointer (some ⟨p', 0, none⟩)) ∧ IsState w' (fun k => W.heap.size ≤ k) p' s N ∧ Fr N0 W w' := by
  obtain ⟨t, m, rfl, h'⟩ := h.bound
  clear h
  have h := h'
  have hc0 := (box_cells h.cells).1 0
  go_enter Tryz.func16, Tryz.ntmps16
  refine wp_frA (n := 55) _ rfl ?_
  show Code.wp Tryz.prog (cpB 0) _ _ _
  rw [cpB_eq]
  refine wp_seq (cp0 W _ t.p rfl fun f0 a0 => ?_)
  refine wp_seq (cp1 W f0 t.p hc0 a0 fun f1 W1 b0 hf1 => ?_)
  refine wp_seq (cp2 W1 f1 fun f2 W2 t' c0 c3 hnew hf2 => ?_)
  have hz1 := hf1.size; have hz2 := hf2.size
  have hfr2 := hf1.then0 hf2
  have hS2 := h.fr hfr2 fun _ _ => id
  obtain ⟨n1, n2, n3, n4⟩ := hnew.new
  obtain ⟨p1, p2, p3, p4, p5, p6⟩ := hnew.apart
  obtain ⟨z1, z2, z3, z4⟩ := h.lt
  have y1 := lt_of_block hnew.cells
  have y2 := hnew.mapL.lt; have y3 := hnew.mapS.lt; have y4 := hnew.mapF.lt
  refine wp_seq (cp3 W2 f2 _ t t' m s N hS2 hF hN hnew.cells hnew.mapL (by omega) (fun e => p1 e.symm) (fun k hk => by have := hk.2; omega) (by rw [c0, b0, a0]; rfl) c3 fun f3 W3 RL' pt' d0 d3 hm3 hl3 hb3 hd3 hf3 => ?_)
  have hz3 := hf3.size
  have hS3 := hS2.fr hf3 fun k hk e => by have := hk.2; omega
  have hc3 : t'.Cells W3 := (hf3.at (k := t'.p) p1 y1).trans hnew.cells
  refine wp_seq (cp4 W3 f3 _ t t' m s N hS3 hF hN hc3 (hnew.mapS.fr hf3 fun e => p4 e.symm) (by omega) (fun e => p2 e.symm) (fun k hk => by have := hk.2; omega) (by rw [d0, c0, b0, a0]; rfl) (d3.trans c3) fun f4 W4 sv' sb' e0 e3 hm4 hs4 hf4 => ?_)
  have hz4 := hf4.size
  have hS4 := hS3.fr hf4 fun k hk e => by have := hk.2; omega
  have hc4 : t'.Cells W4 := (hf4.at (k := t'.p) p2 (by omega)).trans hc3
  refine wp_seq (cp5 W4 f4 _ t t' m s N hS4 hN hc4 ((hnew.mapF.fr hf3 fun e => p5 e.symm).fr hf4 fun e => p6 e.symm) (by omega) (by rw [e0, d0, c0, b0, a0]; rfl) (e3.trans (d3.trans c3)) fun f5 W5 g0 g3 hm5 hf5 => ?_)
  have hz5 := hf5.size
  refine cp6 W5 f5 _ (g3.trans (e3.trans (d3.trans c3))) fun f6 hr => ?_
  have hfin : StAt W5 (fun k => W.heap.size ≤ k) t' ⟨RL', pt', sv', sb'⟩ s N := by
    refine ⟨(hf5.at (k := t'.p) p3 (by omega)).trans hc4, ⟨by omega, by omega, by omega, by omega⟩, hnew.apart, (hm3.fr hf4 p4).fr hf5 p5, hm4.fr hf5 p6, hm5, ⟨fun q l hq => ?_, fun q k hk => ?_, hd3⟩, fun x ws hx => ?_⟩
    · exact ((hl3 q l hq).fr hf4 fun k hk e => by have := hb3 q k hk; omega).fr hf5 fun k hk e => by have := hb3 q k hk; omega
    · have := hb3 q k hk
      exact ⟨by omega, by omega, by omega, by omega, by omega⟩
    · obtain ⟨q1, q2⟩ := hs4 x ws hx
      refine ⟨rowsK_frT (enc := Wr.enc) (n := 8) (fun _ => rfl) q1 hf5 fun h0 e => by have h1 : W3.heap.size ≤ sb' x := q2 h0; have e' : sb' x = t'.mF := e; omega, fun h0 => ?_⟩
      have := q2 h0
      refine ⟨?_, ⟨?_, ?_, ?_, ?_⟩, fun q hq => ?_⟩
      · show W.heap.size ≤ sb' x; omega
      · show sb' x ≠ t'.p; omega
      · show sb' x ≠ t'.mL; omega
      · show sb' x ≠ t'.mS; omega
      · show sb' x ≠ t'.mF; omega
      · have := hb3 q (sb' x) hq; omega
  have hfrT : Fr N0 W W5 := ((hfr2.trans hf3 fun k e => .inr (by omega)).trans hf4 fun k e => .inr (by omega)).trans hf5 fun k e => .inr (by omega)
  exact bodyPost_ret (v := .pointer (some ⟨t'.p, 0, none⟩)) (by simp [results, frA, Tryz.results16, go_sem, hr]) rfl ⟨t'.p, rfl, ⟨t', _, rfl, hfin⟩, hfrT⟩
end Go.Proofs.YtefepfiijoafbaaGreat
