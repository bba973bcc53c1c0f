/- ShardOnce: what it calls besides: SameWrites, SameCommits (equal ones), Has, List, Final. ShardOnce, plainly. -/
import Derived.Deep.RegionHeld3
import Derived.Deep.DrawnRows
import Derived.Test.YtefepfiijoafbaaGreatQCopy
import Derived.Test.YtefepfiijoafbaaGreatQSMay
import Derived.Test.YtefepfiijoafbaaGreatQLoD
import Derived.Test.YtefepfiijoafbaaGreatQShP
import Derived.Test.YtefepfiijoafbaaGreatQSFinC
namespace Go.Proofs.YtefepfiijoafbaaGreat
open Go.RowKit Go.Shelf Go.Maps
attribute [local go_sem] Oper.semAt_some
attribute [local go_sem ↓] Go.wp_at_zero Go.wp_at_succ
attribute [local irreducible] wpQuiet
set_option linter.unusedVariables false
set_option linter.unusedSimpArgs false

set_option maxRecDepth 100000 in
set_option maxHeartbeats 2000000 in
theorem sameWs_any (w : World) (b c : Nat) (v z : Value) (xs : List Wr) (h : Wrs w b v xs) (h' : Wrs w c z xs) (hl : xs.length ≤ 1000000) :
    Calls Tryz.prog 70 #[v, z] w fun e w' => e = .returned (.bool true) ∧ Fr N0 w w' := by
  obtain ⟨a, off, cap, rfl, h1, h2, h3, h4, h5⟩ := h
  obtain ⟨a', off', cap', rfl, h1', h2', h3', h4', h5'⟩ := h'
  have HC := Lib.hid h5; have HC' := Lib.hid h5'
  clear h5 h4 h5' h4'
  go_enter Tryz.func70, Tryz.ntmps70
  go_wp2
  go_loopw [5] (fun i wr => ∃ k : Nat, k ≤ xs.length ∧ i = .int .i64 k ∧ Fr N0 w wr) (fun i _ => xs.length - (intOf i).toNat)
  case atStart => exact ⟨0, Nat.zero_le _, rfl, Fr.refl _ _⟩
  case round =>
    obtain ⟨k, hk, rfl, hfr⟩ := hrel
    by_cases hlt : k < xs.length
    · obtain rfl := h3 (by omega)
      obtain rfl := h3' (by omega)
      obtain ⟨f0, f1, f2, f3, f4, f5, f6, f7⟩ := wr_cells (W := w) (HC.out k hlt)
      obtain ⟨g0, g1, g2, g3, g4, g5, g6, g7⟩ := wr_cells (W := w) (HC'.out k hlt)
      replace f0 := hfr.cell id f0; replace g0 := hfr.cell id g0; replace f1 := hfr.cell id f1; replace g1 := hfr.cell id g1; replace f2 := hfr.cell id f2; replace g2 := hfr.cell id g2; replace f3 := hfr.cell id f3; replace g3 := hfr.cell id g3; replace f4 := hfr.cell id f4; replace g4 := hfr.cell id g4; replace f5 := hfr.cell id f5; replace g5 := hfr.cell id g5; replace f6 := hfr.cell id f6; replace g6 := hfr.cell id g6; replace f7 := hfr.cell id f7; replace g7 := hfr.cell id g7
      obtain ⟨x, hx⟩ : ∃ x, xs[k] = x := ⟨_, rfl⟩
      simp only [hx] at f0 f1 f2 f3 f4 f5 f6 f7 g0 g1 g2 g3 g4 g5 g6 g7
      have hki : (k : Int) < (xs.length : Int) := by omega
      clear hx
      go_wp2
      all_goals try (go_quiet (fail); go_wp2)
      go_roundw
      case rel => exact ⟨k + 1, by omega, by go_num, by first | exact hfr | exact hfr.drewN _⟩
      case measure => simp [intOf]; omega
    · go_wp2
      go_ret
      exact ⟨rfl, hfr⟩



set_option maxRecDepth 100000 in
set_option maxHeartbeats 2000000 in
theorem sameCms_any (w : World) (b b' : Nat) (v z : Value) (cs ds : List CmV) (h : RowsK CmV.enc 2 w b v cs) (h' : RowsK CmV.enc 2 w b' z ds) (hl : cs.length = ds.length) (hn : cs.length ≤ 1000000) (htm : ∀ i (h : i < cs.length) (h' : i < ds.length), cs[i].time = ds[i].time)
    (hE : ∀ i (h : i < cs.length) (h' : i < ds.length) W, Fr N0 w W → Calls Tryz.prog 70 #[.slice cs[i].a cs[i].n cs[i].c, .slice ds[i].a ds[i].n ds[i].c] W fun e w' => e = .returned (.bool true) ∧ Fr N0 W w') :
    Calls Tryz.prog 19 #[v, z] w fun e w' => e = .returned (.bool true) ∧ Fr N0 w w' := by
  obtain ⟨a, off, cap, rfl, h1, h2, h3, h4, h5⟩ := h
  obtain ⟨a', off', cap', rfl, h1', h2', h3', h4', h5'⟩ := h'
  have HC := Lib.hid h5; have HC' := Lib.hid h5'; have HE := Lib.hid hE; have HTM := Lib.hid htm
  obtain ⟨n, hn1⟩ : ∃ n, cs.length = n := ⟨_, rfl⟩
  have hn2 : ds.length = n := by omega
  have HL := Lib.hid hn1; have HL' := Lib.hid hn2
  rw [hn1] at h1 h3 hn ⊢
  rw [hn2] at h1' h3' ⊢
  clear h5 h4 h5' h4' hE hl hn1 hn2 htm
  go_enter Tryz.func19, Tryz.ntmps19
  go_wp2
  go_loopw [5] (fun i wr => ∃ k : Nat, k ≤ n ∧ i = .int .i64 k ∧ Hid (Fr N0 w wr)) (fun i _ => n - (intOf i).toNat)
  case atStart => exact ⟨0, Nat.zero_le _, rfl, Fr.refl _ _⟩
  case round =>
    obtain ⟨k, hk, rfl, HFR⟩ := hrel
    by_cases hlt : k < n
    · obtain rfl := h3 (by omega)
      obtain rfl := h3' (by omega)
      have hc : k < cs.length := by rw [HL.out]; exact hlt
      have hd : k < ds.length := by rw [HL'.out]; exact hlt
      have e0 := HFR.out.cell (fun h => h) (HC.out _ hc 0 (by decide))
      have e1 := HFR.out.cell (fun h => h) (HC.out _ hc 1 (by decide))
      have g0 := HFR.out.cell (fun h => h) (HC'.out _ hd 0 (by decide))
      have g1 := HFR.out.cell (fun h => h) (HC'.out _ hd 1 (by decide))
      have hcall := HE.out k hc hd
      have htk := HTM.out k hc hd
      obtain ⟨x, hx⟩ : ∃ x, cs[k] = x := ⟨_, rfl⟩
      obtain ⟨y, hy⟩ : ∃ x, ds[k] = x := ⟨_, rfl⟩
      simp only [hx, hy] at e0 e1 g0 g1 hcall htk
      clear hx hy hc hd
      obtain ⟨t, xa, xn, xc⟩ := x
      obtain ⟨u, ya, yn, yc⟩ := y
      simp only [CmV.enc, List.getElem?_cons_zero, List.getElem?_cons_succ, Nat.add_zero] at e0 e1 g0 g1 hcall htk
      subst htk
      have hki : (k : Int) < (n : Int) := by omega
      have hb : Cell4 w ⟨b, off + k * 2, none⟩ ⟨b, off + k * 2 + 1, none⟩ ⟨b', off' + k * 2, none⟩ ⟨b', off' + k * 2 + 1, none⟩ (.int .u64 t) (.slice xa xn xc) (.int .u64 t) (.slice ya yn yc) wr := ⟨e0, e1, g0, g1, HFR.out⟩
      have HB := Lib.hid hb; have HCA := Lib.hid hcall
      clear hb hcall e0 e1 g0 g1
      go_wp2_with fail
      go_region_held3 (Cell4 w ⟨b, off + k * 2, none⟩ ⟨b, off + k * 2 + 1, none⟩ ⟨b', off' + k * 2, none⟩ ⟨b', off' + k * 2 + 1, none⟩ (.int .u64 t) (.slice xa xn xc) (.int .u64 t) (.slice ya yn yc)) (first
        | (with_reducible assumption)
        | (with_reducible exact cell4_keep (Fr.refl _ _).drew HB.out)
        | (with_reducible exact cell4_keep hf2 (cell4_keep (Fr.refl _ _).drew HB.out))
        | fail) (first
        | (go_simp; go_at_call 70; refine (HCA.out _ ((HFR.out).drew)).mono ?_; rintro e w2 ⟨rfl, hf2⟩)
        | fail)
      rename_i hHeld
      have HF2 := Lib.hid hHeld.2.2.2.2
      clear hHeld
      go_wp2_with fail
      go_roundw
      case rel => exact ⟨k + 1, by omega, by go_num, HF2⟩
      case measure => simp [intOf]; omega
    · have HF2 := HFR
      go_wp2
      go_ret
      exact ⟨rfl, HF2.out⟩
set_option maxRecDepth 100000 in
set_option maxHeartbeats 2000000 in
theorem sHas_any (W : World) (R : Nat → Prop) (p : Nat) (s : SS) (N : Nat) (h : IsState W R p s N) (q : ByteArray) (hq : q.size ≤ 1000000) (l : PL) (hl : s.lists q = some l) :
    Calls Tryz.prog 69 #[.pointer (some ⟨p, 0, none⟩), .string q] W fun e w' => e = .returned (.bool true) ∧ Fr N0 W w' := by
  obtain ⟨t, m, rfl, h⟩ := h
  obtain ⟨m1, n1, l1⟩ := box_cells h.cells
  have hn := sNone_any W t.p (m1 0)
  have hkey : keyOf Tryz.prog 9 (.string q) = some (litS q) := Go.WideMaps.keyOf_string_mk Tryz.underlying9 (by unfold maxLen; omega)
  have hlk := fun W' (hf : Fr N0 W W') => ((h.mapL.fr hf id)).look_some (t := 119) lawSt Tryz.underlying119 (zeroPLR _) hkey (by rw [viewL_at, hl]; rfl)
  have HN := Lib.hid hn; have HLK := Lib.hid hlk; have HC := Lib.hid h.cells
  clear hn hlk hkey h hl m1 n1 l1
  obtain ⟨p, mL, mS, mF⟩ := t
  simp only at *
  go_enter Tryz.func69, Tryz.ntmps69
  go_wp2_with fail
  refine HN.out.mono ?_
  rintro e w1 ⟨rfl, hf1⟩
  have hlk := HLK.out w1 hf1
  have c1 := (box_cells ((hf1.at id (lt_of_block HC.out)).trans HC.out)).1 1
  simp only [List.getElem?_toArray, List.getElem?_cons_succ, List.getElem?_cons_zero] at c1
  have HF1 := Lib.hid hf1
  clear hf1
  go_wp2
  go_ret
  exact ⟨rfl, HF1.out⟩
set_option maxRecDepth 100000 in
set_option maxHeartbeats 2000000 in
theorem sList_any (W : World) (R : Nat → Prop) (p : Nat) (s : SS) (N : Nat) (h : IsState W R p s N) (hF : s.Fine N) (hN : N ≤ 100000) (q : ByteArray) (hq : q.size ≤ 1000000) (l : PL) (hl : s.lists q = some l) :
    Calls Tryz.prog 18 #[.pointer (some ⟨p, 0, none⟩), .string q] W fun e w' => ∃ p', e = .returned (.pointer (some ⟨p', 0, none⟩)) ∧ IsPL w' (fun k => W.heap.size ≤ k) p' l ∧ Fr N0 W w' := by
  have hhas := sHas_any W R p s N h q hq l hl
  obtain ⟨t, m, rfl, h⟩ := h
  have hkey : keyOf Tryz.prog 9 (.string q) = some (litS q) := Go.WideMaps.keyOf_string_mk Tryz.underlying9 (by unfold maxLen; omega)
  have hlk := fun W' (hf : Fr N0 W W') => ((h.mapL.fr hf id).look (t := 119) lawSt Tryz.underlying119 (zeroPLR _) hkey).1
  rw [viewL_at, hl] at hlk
  simp only [Option.map_some, Option.getD_some] at hlk
  have hfi := hF.lists q l hl
  have hcopy := fun W' (hf : Fr N0 W W') => copy_any W' (m.RL q) (m.pt q) l ((h.lists.1 q l hl).fr hf fun _ _ => id) hfi.size' (by have := hfi.commits; omega) (by have := hfi.times; omega) (fun c hc => by have := (hfi.writes c hc).1; omega)
  have HH := Lib.hid hhas; have HLK := Lib.hid hlk; have HC := Lib.hid h.cells; have HCP := Lib.hid hcopy
  clear hhas hlk hkey h hl hcopy hfi hF
  obtain ⟨pt, hpt⟩ : ∃ x, m.pt q = x := ⟨_, rfl⟩
  rw [hpt] at HLK HCP
  obtain ⟨p, mL, mS, mF⟩ := t
  simp only at *
  go_enter Tryz.func18, Tryz.ntmps18
  go_wp2_with fail
  refine HH.out.mono ?_
  rintro e w1 ⟨rfl, hf1⟩
  have hlk := HLK.out w1 hf1
  have c1 := (box_cells ((hf1.at id (lt_of_block HC.out)).trans HC.out)).1 1
  simp only [List.getElem?_toArray, List.getElem?_cons_succ, List.getElem?_cons_zero] at c1
  have HF1 := Lib.hid hf1
  clear hf1
  go_wp2_with fail
  refine (HCP.out w1 HF1.out).mono ?_
  rintro e w2 ⟨p', rfl, hpl, hf2⟩
  have HPL := Lib.hid hpl; have HF2 := Lib.hid hf2
  clear hpl hf2 hlk c1
  go_wp2
  go_ret
  exact ⟨p', rfl, HPL.out.mono fun k hk => Nat.le_trans HF1.out.size hk, HF1.out.then0 HF2.out⟩
set_option maxRecDepth 100000 in
set_option maxHeartbeats 2000000 in
theorem sFinalQ_any (W : World) (R : Nat → Prop) (p : Nat) (s : SS) (N : Nat) (h : IsState W R p s N) (x c : Int) (hx : (Lit.int .u64 x).wf = true) (hl : s.finals x = some c) :
    Calls Tryz.prog 23 #[.pointer (some ⟨p, 0, none⟩), .int .u64 x] W fun e w' => e = .returned (.tuple #[.int .u64 c, .bool true]) ∧ Fr N0 W w' := by
  obtain ⟨t, m, rfl, h⟩ := h
  obtain ⟨m1, n1, l1⟩ := box_cells h.cells
  have hn := sNone_any W t.p (m1 0)
  have hlk := fun W' (hf : Fr N0 W W') => ((h.mapF.fr hf id)).look_some (t := 44) lawU Tryz.underlying44 (zeroU64R _) (keyOf_int_mk (P := Tryz.prog) Tryz.underlying33 hx) (by rw [show (Lit.int .u64 x) = litU x from rfl, viewF_at, hl]; rfl)
  have HN := Lib.hid hn; have HLK := Lib.hid hlk; have HC := Lib.hid h.cells
  clear hn hlk h hl m1 n1 l1
  obtain ⟨p, mL, mS, mF⟩ := t
  simp only at *
  go_enter Tryz.func23, Tryz.ntmps23
  go_wp2_with fail
  refine HN.out.mono ?_
  rintro e w1 ⟨rfl, hf1⟩
  have hlk := HLK.out w1 hf1
  have c3 := (box_cells ((hf1.at id (lt_of_block HC.out)).trans HC.out)).1 3
  simp only [List.getElem?_toArray, List.getElem?_cons_succ, List.getElem?_cons_zero] at c3
  have HF1 := Lib.hid hf1
  clear hf1
  go_wp2
  go_ret2
  exact ⟨rfl, HF1.out⟩
end Go.Proofs.YtefepfiijoafbaaGreat
namespace Go.Proofs.YtefepfiijoafbaaGreat
set_option linter.unusedVariables false
set_option linter.unusedSimpArgs false

/-- What is staged is of predicates that are there. -/
def OnceInv (s : SS) : Prop := ∀ x ws, s.staged x = some ws → ∀ y ∈ ws, s.lists y.pred ≠ none
theorem onceInv_empty : OnceInv SS.empty := fun x ws h => by cases h
theorem ok_kind {s : SS} {o : Op} (h : (sApply s o).2 = 0) : o.ok := by
  unfold sApply at h
  split at h
  · simp at h
  · rename_i h1; exact Classical.not_not.1 h1
theorem sApply_one {s : SS} {o : Op} (ho : o.ok) (hk : o.kind = 1) : sApply s o = sHold s o.sch := by
  unfold sApply; simp [ho, hk]
theorem sApply_two {s : SS} {o : Op} (ho : o.ok) (hk : o.kind = 2) : sApply s o = sStage s o.start o.ws := by
  unfold sApply; simp [ho, hk]
theorem sApply_three {s : SS} {o : Op} (ho : o.ok) (hk : o.kind = 3) : sApply s o = sFin predsOf s o.start o.commit := by
  unfold sApply; simp [ho, hk]
theorem ok_123 {o : Op} (ho : o.ok) : o.kind = 1 ∨ o.kind = 2 ∨ o.kind = 3 := by
  rcases ho.2.2.2.2 with h | h | h
  · exact .inl h.1
  · exact .inr (.inl h.1)
  · exact .inr (.inr h.1)

theorem sHold_err {s : SS} {c : Sch} (h : (sHold s c).2 ≠ 0) : (sHold s c).1 = s := by
  unfold sHold at h ⊢
  split <;> simp_all
theorem sStage_err {s : SS} {x : Int} {ws : List Wr} (h : (sStage s x ws).2 ≠ 0) : (sStage s x ws).1 = s := by
  unfold sStage at h ⊢
  split
  · rfl
  · split
    · rfl
    · split
      · simp_all
      · rfl
theorem sFin_err {s : SS} {x c : Int} (h : (sFin predsOf s x c).2 ≠ 0) : (sFin predsOf s x c).1 = s := by
  unfold sFin at h ⊢
  split
  · rfl
  · split
    · simp_all
    · split
      · rfl
      · split
        · simp_all
        · rfl
theorem sApply_err {s : SS} {o : Op} (h : (sApply s o).2 ≠ 0) : (sApply s o).1 = s := by
  by_cases ho : o.ok
  · rcases ok_123 ho with hk | hk | hk
    · rw [sApply_one ho hk] at h ⊢; exact sHold_err h
    · rw [sApply_two ho hk] at h ⊢; exact sStage_err h
    · rw [sApply_three ho hk] at h ⊢; exact sFin_err h
  · unfold sApply; simp [ho]
theorem updB_at {α : Type} {f : ByteArray → Option α} {p : ByteArray} {v : Option α} : updB f p v p = v := updB_same f p v
open Classical in
theorem sHold_twice {s : SS} {c : Sch} (h : (sHold s c).2 = 0) : sHold (sHold s c).1 c = ((sHold s c).1, 0) := by
  cases hl : s.lists c.pred with
  | some l =>
    have e : sHold s c = (s, if l.s = c then 0 else 202) := by unfold sHold; rw [hl]
    rw [e] at h ⊢
    rw [e]
    simp only at h ⊢
    rw [h]
  | none =>
    have e : sHold s c = ({ s with lists := updB s.lists c.pred (some { s := c }) }, 0) := by unfold sHold; rw [hl]
    rw [e]
    unfold sHold
    simp [updB_same]
open Classical in
theorem sStage_twice {s : SS} {x : Int} {ws : List Wr} (h : (sStage s x ws).2 = 0) : sStage (sStage s x ws).1 x ws = ((sStage s x ws).1, 0) := by
  cases hf : s.finals x with
  | some c => unfold sStage at h; rw [hf] at h; simp at h
  | none =>
    cases hs : s.staged x with
    | some w =>
      have e : sStage s x ws = (s, if w = ws then 0 else 211) := by unfold sStage; rw [hf, hs]
      rw [e] at h ⊢
      rw [e]
      simp only at h ⊢
      rw [h]
    | none =>
      by_cases hz : firstNZ (ws.map (stOne s)) = 0
      · have e : sStage s x ws = ({ s with staged := updI s.staged x (some ws) }, 0) := by unfold sStage; rw [hf, hs]; simp [hz]
        rw [e]
        unfold sStage
        simp [hf, updI_same]
      · have e : sStage s x ws = (s, firstNZ (ws.map (stOne s))) := by unfold sStage; rw [hf, hs]; simp [hz]
        rw [e] at h
        exact absurd h hz
/-- What a final that is taken leaves. -/
theorem sFin_finals {s : SS} {x c : Int} (h : (sFin predsOf s x c).2 = 0) : (sFin predsOf s x c).1.finals = updI s.finals x (some c) ∧ (∀ d, s.finals x = some d → d = c ∧ (sFin predsOf s x c).1 = s) := by
  cases hf : s.finals x with
  | some d =>
    have e : sFin predsOf s x c = (s, if d = c then 0 else 210) := by unfold sFin; rw [hf]
    rw [e] at h ⊢
    have hd : d = c := by
      by_cases hd : d = c
      · exact hd
      · simp [hd] at h
    subst hd
    refine ⟨?_, fun d' hd' => ⟨(Option.some.inj hd').symm, rfl⟩⟩
    funext y
    by_cases hy : y = x
    · subst hy; rw [updI_same, hf]
    · rw [updI_other hy]
  | none =>
    refine ⟨?_, fun d hd => by cases hd⟩
    by_cases h0 : c = 0
    · have e : sFin predsOf s x c = ({ s with staged := updI s.staged x none, finals := updI s.finals x (some 0) }, 0) := by unfold sFin; rw [hf]; simp [h0]
      rw [e, h0]
    · cases hs : s.staged x with
      | none =>
        have e : sFin predsOf s x c = (s, 211) := by unfold sFin; rw [hf, hs]; simp [h0]
        rw [e] at h; simp at h
      | some w =>
        by_cases he : finErr predsOf s w c = 0
        · have e : sFin predsOf s x c = (finIn predsOf s x c w, 0) := by unfold sFin; rw [hf, hs]; simp [h0, he]
          rw [e]; rfl
        · have e : sFin predsOf s x c = (s, finErr predsOf s w c) := by unfold sFin; rw [hf, hs]; simp [h0, he]
          rw [e] at h
          exact absurd h he
theorem sFin_twice {s : SS} {x c : Int} (h : (sFin predsOf s x c).2 = 0) : sFin predsOf (sFin predsOf s x c).1 x c = ((sFin predsOf s x c).1, 0) := by
  have h1 := (sFin_finals h).1
  have h2 : (sFin predsOf s x c).1.finals x = some c := by rw [h1, updI_same]
  generalize (sFin predsOf s x c).1 = s' at h2
  unfold sFin
  rw [h2]
  simp
theorem sApply_twice {s : SS} {o : Op} (h : (sApply s o).2 = 0) : sApply (sApply s o).1 o = ((sApply s o).1, 0) := by
  have ho := ok_kind h
  rcases ok_123 ho with hk | hk | hk
  · rw [sApply_one ho hk] at h ⊢; rw [sApply_one ho hk]; exact sHold_twice h
  · rw [sApply_two ho hk] at h ⊢; rw [sApply_two ho hk]; exact sStage_twice h
  · rw [sApply_three ho hk] at h ⊢; rw [sApply_three ho hk]; exact sFin_twice h
theorem sHold_lists {s : SS} {c : Sch} {p : ByteArray} {l : PL} (h : s.lists p = some l) : (sHold s c).1.lists p = some l := by
  unfold sHold
  split
  · exact h
  · rename_i hn
    simp only
    unfold updB
    split
    · rename_i e; rw [e, hn] at h; cases h
    · exact h
theorem sStage_lists {s : SS} {x : Int} {ws : List Wr} : (sStage s x ws).1.lists = s.lists := by
  unfold sStage
  split
  · rfl
  · split
    · rfl
    · split <;> rfl
theorem sApply_lists {s : SS} {o : Op} (hk3 : o.kind ≠ 3) {p : ByteArray} {l : PL} (h : s.lists p = some l) : (sApply s o).1.lists p = some l := by
  by_cases ho : o.ok
  · rcases ok_123 ho with hk | hk | hk
    · rw [sApply_one ho hk]; exact sHold_lists h
    · rw [sApply_two ho hk, sStage_lists]; exact h
    · exact absurd hk hk3
  · unfold sApply; simp [ho]; exact h
theorem sHold_finals {s : SS} {c : Sch} : (sHold s c).1.finals = s.finals := by unfold sHold; split <;> rfl
theorem sStage_finals {s : SS} {x : Int} {ws : List Wr} : (sStage s x ws).1.finals = s.finals := by
  unfold sStage
  split
  · rfl
  · split
    · rfl
    · split <;> rfl
theorem sApply_finals {s : SS} {o : Op} (hk3 : o.kind ≠ 3) : (sApply s o).1.finals = s.finals := by
  by_cases ho : o.ok
  · rcases ok_123 ho with hk | hk | hk
    · rw [sApply_one ho hk]; exact sHold_finals
    · rw [sApply_two ho hk]; exact sStage_finals
    · exact absurd hk hk3
  · unfold sApply; simp [ho]
theorem stOne_there {s : SS} {y : Wr} (h : stOne s y = 0) : s.lists y.pred ≠ none := fun e => by
  unfold stOne at h; rw [e] at h; simp at h
theorem onceInv_hold {s : SS} {c : Sch} (h : OnceInv s) : OnceInv (sHold s c).1 := fun x ws hx y hy hn => by
  have h1 : (sHold s c).1.staged = s.staged := by unfold sHold; split <;> rfl
  rw [h1] at hx
  obtain ⟨l, hl⟩ := Option.ne_none_iff_exists'.1 (h x ws hx y hy)
  rw [sHold_lists hl] at hn; cases hn
theorem onceInv_stage {s : SS} {x : Int} {ws : List Wr} (h : OnceInv s) : OnceInv (sStage s x ws).1 := by
  unfold sStage
  split
  · exact h
  · split
    · exact h
    · split
      · rename_i hz
        intro y us hy z hz' hn
        simp only [updI] at hy
        simp only at hn
        split at hy
        · obtain rfl := Option.some.inj hy
          exact stOne_there (firstNZ_nil hz _ (List.mem_map.2 ⟨z, hz', rfl⟩)) hn
        · exact h y us hy z hz' hn
      · exact h
theorem sFin_there {s : SS} {x c : Int} {p : ByteArray} (h : s.lists p ≠ none) : (sFin predsOf s x c).1.lists p ≠ none := by
  unfold sFin
  split
  · exact h
  · split
    · exact h
    · split
      · exact h
      · split
        · show (finIn predsOf s x c _).lists p ≠ none
          unfold finIn
          simp only
          split
          · simpa using h
          · exact h
        · exact h
theorem sFin_staged {s : SS} {x c y : Int} {ws : List Wr} (h : (sFin predsOf s x c).1.staged y = some ws) : s.staged y = some ws := by
  have hu : ∀ {us}, updI s.staged x none y = some us → s.staged y = some us := fun {us} hy => by
    unfold updI at hy
    split at hy
    · cases hy
    · exact hy
  unfold sFin at h
  split at h
  · exact h
  · split at h
    · exact hu h
    · split at h
      · exact h
      · split at h
        · exact hu h
        · exact h
theorem onceInv_apply {s : SS} {o : Op} (h : OnceInv s) : OnceInv (sApply s o).1 := by
  by_cases ho : o.ok
  · rcases ok_123 ho with hk | hk | hk
    · rw [sApply_one ho hk]; exact onceInv_hold h
    · rw [sApply_two ho hk]; exact onceInv_stage h
    · rw [sApply_three ho hk]; exact fun y us hy z hz => sFin_there (h y us (sFin_staged hy) z hz)
  · unfold sApply; simp [ho]; exact h
theorem below_lt {L : List Int} (h : RisesBy id L) (t : Int) : posI id t L = (L.filter fun x => decide (x < t)).length := by
  unfold posI
  induction L with
  | nil => rfl
  | cons x l ih =>
    obtain ⟨h1, h2⟩ := List.pairwise_cons.1 h
    by_cases hx : x < t
    · have ih' := ih h2
      simp only [id] at ih'
      simp [List.takeWhile_cons, List.filter_cons, hx, ih']
    · have : (l.filter fun x => decide (x < t)) = [] := List.filter_eq_nil_iff.2 fun y hy => by
        have : x < y := h1 y hy
        simp; omega
      simp [List.takeWhile_cons, List.filter_cons, hx, this]
theorem below_next {L : List Int} (h : RisesBy id L) (c : Int) : (L.filter fun x => decide (x < c)).length = (L.filter fun x => decide (x < c - 1)).length + if c - 1 ∈ L then 1 else 0 := by
  induction L with
  | nil => rfl
  | cons x l ih =>
    obtain ⟨h1, h2⟩ := List.pairwise_cons.1 h
    have ih' := ih h2
    by_cases hx : x < c - 1
    · have h3 : x < c := by omega
      have h4 : ¬ c - 1 = x := by omega
      simp [List.filter_cons, hx, h3, h4]
      rw [ih']
      omega
    · by_cases he : x = c - 1
      · subst he
        have hn : c - 1 ∉ l := fun hm => by have : c - 1 < c - 1 := h1 _ hm; omega
        rw [if_neg hn] at ih'
        have h3 : c - 1 < c := by omega
        simp [List.filter_cons, h3, ih']
      · have h3 : ¬ x < c := by omega
        have h4 : ¬ c - 1 = x := fun e => he e.symm
        simp [List.filter_cons, hx, h3, h4]
        exact ih'
theorem seen_next {l : PL} (h : RisesBy id l.times) {c : Int} (hc : c ∈ l.times) : seenPL l c = seenPL l (c - 1) + 1 := by
  unfold seenPL
  rw [if_pos hc, below_lt h, below_lt h, below_next h]
  split <;> omega
theorem sApply_seen {s : SS} {o : Op} (hs : s.Ok) (h : (sApply s o).2 = 0) (hk : o.kind = 3) (hn : s.finals o.start = none) {w : List Wr} (hw : s.staged o.start = some w) (hc : o.commit ≠ 0) {y : Wr} (hy : y ∈ w) :
    ∃ l, (sApply s o).1.lists y.pred = some l ∧ seenPL l o.commit = seenPL l (o.commit - 1) + 1 := by
  have ho := ok_kind h
  rw [sApply_three ho hk] at h ⊢
  have hok := sFin_ok predsOf (start := o.start) (c := o.commit) hs
  by_cases he : finErr predsOf s w o.commit = 0
  · have e : sFin predsOf s o.start o.commit = (finIn predsOf s o.start o.commit w, 0) := by unfold sFin; rw [hn, hw]; simp [hc, he]
    rw [e] at hok ⊢
    have hp : y.pred ∈ predsOf w := normS_mem.2 (List.mem_map.2 ⟨y, hy, rfl⟩)
    obtain ⟨l, h1, h2⟩ := finErr_mem predsOf he hp
    have h3 : (finIn predsOf s o.start o.commit w).lists y.pred = some (addIn l ⟨o.commit, ownW w y.pred⟩) := by unfold finIn; simp [hp, h1]
    exact ⟨_, h3, seen_next (hok.lists _ _ h3).times (insBy_mem.2 (.inl rfl))⟩
  · have e : sFin predsOf s o.start o.commit = (s, finErr predsOf s w o.commit) := by unfold sFin; rw [hn, hw]; simp [hc, he]
    rw [e] at h
    exact absurd h he
theorem sApply_zero {s : SS} {o : Op} (h : (sApply s o).2 = 0) (hk : o.kind = 3) (hc : o.commit = 0) : (sApply s o).1.lists = s.lists := by
  have ho := ok_kind h
  rw [sApply_three ho hk]
  unfold sFin
  split
  · rfl
  · simp [hc]
theorem sApply_had {s : SS} {o : Op} (h : (sApply s o).2 = 0) (hk : o.kind = 3) : (sApply s o).1.finals = updI s.finals o.start (some o.commit) ∧ ∀ d, s.finals o.start = some d → d = o.commit := by
  have ho := ok_kind h
  rw [sApply_three ho hk] at h ⊢
  exact ⟨(sFin_finals h).1, fun d hd => ((sFin_finals h).2 d hd).1⟩
end Go.Proofs.YtefepfiijoafbaaGreat
