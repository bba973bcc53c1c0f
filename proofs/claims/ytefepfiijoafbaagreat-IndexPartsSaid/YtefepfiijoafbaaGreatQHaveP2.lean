/- slices.BinarySearchFunc over values by order. What nodes have, plainly: a write. What nodes have, plainly: a value put in, a value taken out. -/
import Derived.Test.YtefepfiijoafbaaGreatQVOrd3
namespace Go.Proofs.YtefepfiijoafbaaGreat
open Go.RowKit Go.Shelf Go.Maps
attribute [local go_sem] Oper.semAt_some
set_option linter.unusedVariables false
set_option linter.unusedSimpArgs false

abbrev Cell5 (b p : Nat) (v0 v1 v2 v3 v4 : Value) (W : World) : Prop := W.cell? ⟨b, p, none⟩ = some v0 ∧ W.cell? ⟨b, p + 1, none⟩ = some v1 ∧ W.cell? ⟨b, p + 2, none⟩ = some v2 ∧ W.cell? ⟨b, p + 3, none⟩ = some v3 ∧ W.cell? ⟨b, p + 4, none⟩ = some v4
theorem cell5_fr {b p : Nat} {v0 v1 v2 v3 v4 : Value} {W W' : World} (h : Cell5 b p v0 v1 v2 v3 v4 W) (hf : Fr N0 W W') : Cell5 b p v0 v1 v2 v3 v4 W' := ⟨hf.cell id h.1, hf.cell id h.2.1, hf.cell id h.2.2.1, hf.cell id h.2.2.2.1, hf.cell id h.2.2.2.2⟩
abbrev Two5 (b p c : Nat) (v0 v1 v2 v3 v4 u0 u1 u2 u3 u4 : Value) (W : World) : Prop := Cell5 b p v0 v1 v2 v3 v4 W ∧ Cell5 c 0 u0 u1 u2 u3 u4 W
theorem two5_fr {b p c : Nat} {v0 v1 v2 v3 v4 u0 u1 u2 u3 u4 : Value} {W W' : World} (h : Two5 b p c v0 v1 v2 v3 v4 u0 u1 u2 u3 u4 W) (hf : Fr N0 W W') : Two5 b p c v0 v1 v2 v3 v4 u0 u1 u2 u3 u4 W' := ⟨cell5_fr h.1 hf, cell5_fr h.2 hf⟩
/-- Whether at a place there is one that is not other. -/
noncomputable def thereV (xs : List Val) (x : Val) (P : Nat) : Bool := by
  classical exact decide (∃ h : P < xs.length, (vCmpR xs[P] x).1 = 0)
theorem thereV_at {xs : List Val} {x : Val} {P : Nat} (h : P < xs.length) : thereV xs x P = ((vCmpR xs[P] x).1 == 0) := by
  unfold thereV
  by_cases h0 : (vCmpR xs[P] x).1 = 0
  · simp [h, h0]
  · simp [h, h0]
theorem thereV_end {xs : List Val} {x : Val} {P : Nat} (h : ¬ P < xs.length) : thereV xs x P = false := by
  unfold thereV; simp [h]
set_option maxRecDepth 100000 in
set_option maxHeartbeats 4000000 in
theorem bsv_any (w : World) (b : Nat) (v : Value) (xs : List Val) (h : RowsK Val.enc 5 w b v xs) (x : Val) (hx : 0 ≤ x.u) (hxs : ∀ y ∈ xs, 0 ≤ y.u) (P : Nat) (hP : P ≤ xs.length) (hlo : ∀ k (h : k < xs.length), k < P → (vCmpR xs[k] x).1 < 0) (hhi : ∀ k (h : k < xs.length), P ≤ k → 0 ≤ (vCmpR xs[k] x).1) (hl : xs.length ≤ 17592186044416) :
    Calls Tryz.prog 208 #[v, .agg x.enc.toArray, .func (.func 209) #[] #[]] w fun e w' => e = .returned (.tuple #[.int .i64 P, .bool (thereV xs x P)]) ∧ Fr N0 w w' := by
  obtain ⟨a, off, cap, rfl, h1, h2, h3, -, h6⟩ := h
  have hc : ∀ k (hk : k < xs.length) W, Calls Tryz.prog 209 #[.agg xs[k].enc.toArray, .agg x.enc.toArray] W fun e w' => e = .returned (.int .i64 (vCmpR xs[k] x).1) ∧ Fr N0 W w' := fun k hk W => pOrd_any _ _ (hxs _ (List.getElem_mem hk)) hx W
  have HC := Lib.hid h6; have HCC := Lib.hid hc; have HLO := Lib.hid hlo; have HHI := Lib.hid hhi
  have ht1 := fun h => thereV_at (xs := xs) (x := x) (P := P) h
  have ht2 := fun h => thereV_end (xs := xs) (x := x) (P := P) h
  obtain ⟨R, hR⟩ : ∃ R, thereV xs x P = R := ⟨_, rfl⟩
  simp only [hR] at ht1 ht2 ⊢
  have HT1 := Lib.hid ht1; have HT2 := Lib.hid ht2
  clear h6 hc hlo hhi hx hxs ht1 ht2 hR
  obtain ⟨xk, xb, xn, xs', xu⟩ := x
  unfold Val.enc at HC HCC ⊢
  simp only at HC HCC ⊢
  have hnew := boxB_new (World.alloc_heap_new w (.cells #[.int .u8 xk, .bool xb, .int .i64 xn, .string xs', .int .u64 xu] 57))
  have HN := Lib.hid hnew
  clear hnew
  go_enter Tryz.func208, Tryz.ntmps208
  go_wp2
  go_loopw [9, 10] (fun si sj wr => ∃ (i j : Nat), i ≤ P ∧ P ≤ j ∧ j ≤ xs.length ∧ si = .int .i64 i ∧ sj = .int .i64 j ∧ Fr N0 (w.alloc (.cells #[.int .u8 xk, .bool xb, .int .i64 xn, .string xs', .int .u64 xu] 57)) wr) (fun si sj _ => (intOf sj).toNat - (intOf si).toNat)
  case atStart => exact ⟨0, xs.length, Nat.zero_le _, hP, Nat.le_refl _, by go_num, rfl, Fr.refl _ _⟩
  case round =>
    obtain ⟨i, j, hiP, hPj, hjn, rfl, rfl, hfr⟩ := hrel
    have hbx := boxB_keep hfr id HN.out
    have b0 := hbx.1 0; have b1 := hbx.1 1; have b2 := hbx.1 2; have b3 := hbx.1 3; have b4 := hbx.1 4
    simp only [List.getElem?_toArray, List.getElem?_cons_zero, List.getElem?_cons_succ] at b0 b1 b2 b3 b4
    have hfw : Fr N0 w _ := ((Fr.refl N0 w).alloc _).then0 hfr
    by_cases hlt : i < j
    · obtain rfl := h3 (by omega)
      obtain ⟨m, hm⟩ : ∃ m, (i + j) / 2 = m := ⟨_, rfl⟩
      have hh1 : (i + j) / 2 < xs.length := by omega
      have e0 := hfw.cell (fun h => h) (HC.out _ hh1 0 (by decide))
      have e1 := hfw.cell (fun h => h) (HC.out _ hh1 1 (by decide))
      have e2 := hfw.cell (fun h => h) (HC.out _ hh1 2 (by decide))
      have e3 := hfw.cell (fun h => h) (HC.out _ hh1 3 (by decide))
      have e4 := hfw.cell (fun h => h) (HC.out _ hh1 4 (by decide))
      have hcall := fun W => HCC.out _ hh1 W
      have hlt' : (i + j) / 2 < P → (vCmpR xs[(i + j) / 2] ⟨xk, xb, xn, xs', xu⟩).1 < 0 := HLO.out _ hh1
      have hge' : P ≤ (i + j) / 2 → ¬ (vCmpR xs[(i + j) / 2] ⟨xk, xb, xn, xs', xu⟩).1 < 0 := fun h => by have := HHI.out _ hh1 h; omega
      simp only [List.getElem?_cons_zero, List.getElem?_cons_succ, Nat.add_zero] at e0 e1 e2 e3 e4
      obtain ⟨c, hc⟩ : ∃ c, (vCmpR xs[(i + j) / 2] ⟨xk, xb, xn, xs', xu⟩).1 = c := ⟨_, rfl⟩
      rw [hc] at hcall hlt' hge'
      clear hc
      obtain ⟨y, hy⟩ : ∃ y, xs[(i + j) / 2] = y := ⟨_, rfl⟩
      rw [hy] at e0 e1 e2 e3 e4 hcall
      obtain ⟨yk, yb, yn, ys, yu⟩ := y
      simp only at e0 e1 e2 e3 e4 hcall
      have HCALL := Lib.hid hcall; have HLT := Lib.hid hlt'; have HGE := Lib.hid hge'; have HFR := Lib.hid hfr
      have hwn : (i + j) / 2 = (((i : Int) + (j : Int)) / 2).toNat := by omega
      rw [hwn] at e0 e1 e2 e3 e4
      clear hwn
      have H5 : Hid (Two5 b (off + (((i : Int) + (j : Int)) / 2).toNat * 5) w.heap.size (.int .u8 yk) (.bool yb) (.int .i64 yn) (.string ys) (.int .u64 yu) (.int .u8 xk) (.bool xb) (.int .i64 xn) (.string xs') (.int .u64 xu) _) := Lib.hid ⟨⟨e0, e1, e2, e3, e4⟩, b0, b1, b2, b3, b4⟩
      clear b0 b1 b2 b3 b4 e0 e1 e2 e3 e4
      clear hy hcall hlt' hge' hfr hfw hbx hm
      have i1 : (0 : Int) ≤ ((i : Int) + (j : Int)) / 2 := by omega
      have i2 : ((i : Int) + (j : Int)) / 2 < (xs.length : Int) := by omega
      have i3 : ((i : Int) + (j : Int)) / 2 < (j : Int) := by omega
      by_cases hm : (i + j) / 2 < P
      · have hc0 : c < 0 := HLT.out hm
        go_wp2_with fail
        go_region_held3 (Two5 b (off + (((i : Int) + (j : Int)) / 2).toNat * 5) w.heap.size (.int .u8 yk) (.bool yb) (.int .i64 yn) (.string ys) (.int .u64 yu) (.int .u8 xk) (.bool xb) (.int .i64 xn) (.string xs') (.int .u64 xu)) (first
          | (with_reducible assumption)
          | (with_reducible exact two5_fr H5.out (Fr.refl _ _).drew)
          | (with_reducible exact two5_fr (two5_fr H5.out (Fr.refl _ _).drew) hf1)
          | fail) (first
          | (go_simp; go_at_call 209; refine (HCALL.out _).mono ?_; rintro e w1 ⟨rfl, hf1⟩)
          | fail)
        rename_i Kx hKx hS
        refine hKx _ _ ?_
        clear hS
        go_wp2
        go_roundw
        case rel => exact ⟨(i + j) / 2 + 1, j, by omega, hPj, hjn, by go_num, rfl, HFR.out.then0 ((Fr.refl N0 wr).drew.then0 hf1)⟩
        case measure => simp [intOf]; omega
      · have hc0 : ¬ c < 0 := HGE.out (by omega)
        go_wp2_with fail
        go_region_held3 (Two5 b (off + (((i : Int) + (j : Int)) / 2).toNat * 5) w.heap.size (.int .u8 yk) (.bool yb) (.int .i64 yn) (.string ys) (.int .u64 yu) (.int .u8 xk) (.bool xb) (.int .i64 xn) (.string xs') (.int .u64 xu)) (first
          | (with_reducible assumption)
          | (with_reducible exact two5_fr H5.out (Fr.refl _ _).drew)
          | (with_reducible exact two5_fr (two5_fr H5.out (Fr.refl _ _).drew) hf1)
          | fail) (first
          | (go_simp; go_at_call 209; refine (HCALL.out _).mono ?_; rintro e w1 ⟨rfl, hf1⟩)
          | fail)
        rename_i Kx hKx hS
        refine hKx _ _ ?_
        clear hS
        go_wp2
        go_roundw
        case rel => exact ⟨i, (i + j) / 2, hiP, by omega, by omega, rfl, by go_num, HFR.out.then0 ((Fr.refl N0 wr).drew.then0 hf1)⟩
        case measure => simp [intOf]; omega
    · obtain rfl : i = P := by omega
      obtain rfl : j = i := by omega
      have HFR := Lib.hid hfr
      clear hfr hbx
      by_cases hend : j < xs.length
      · obtain rfl := h3 (by omega)
        have e0 := hfw.cell (fun h => h) (HC.out _ hend 0 (by decide))
        have e1 := hfw.cell (fun h => h) (HC.out _ hend 1 (by decide))
        have e2 := hfw.cell (fun h => h) (HC.out _ hend 2 (by decide))
        have e3 := hfw.cell (fun h => h) (HC.out _ hend 3 (by decide))
        have e4 := hfw.cell (fun h => h) (HC.out _ hend 4 (by decide))
        have hcall := fun W => HCC.out _ hend W
        have hR := HT1.out hend
        simp only [List.getElem?_cons_zero, List.getElem?_cons_succ, Nat.add_zero] at e0 e1 e2 e3 e4
        obtain ⟨c, hc⟩ : ∃ c, (vCmpR xs[j] ⟨xk, xb, xn, xs', xu⟩).1 = c := ⟨_, rfl⟩
        rw [hc] at hcall hR
        clear hc
        obtain ⟨y, hy⟩ : ∃ y, xs[j] = y := ⟨_, rfl⟩
        rw [hy] at e0 e1 e2 e3 e4 hcall
        obtain ⟨yk, yb, yn, ys, yu⟩ := y
        simp only at e0 e1 e2 e3 e4 hcall
        have HCALL := Lib.hid hcall; have HRR := Lib.hid hR
        have H5 : Hid (Two5 b (off + j * 5) w.heap.size (.int .u8 yk) (.bool yb) (.int .i64 yn) (.string ys) (.int .u64 yu) (.int .u8 xk) (.bool xb) (.int .i64 xn) (.string xs') (.int .u64 xu) _) := Lib.hid ⟨⟨e0, e1, e2, e3, e4⟩, b0, b1, b2, b3, b4⟩
        clear b0 b1 b2 b3 b4 e0 e1 e2 e3 e4
        clear hy hcall hR hfw
        have hki : (j : Int) < (xs.length : Int) := by omega
        go_wp2_with fail
        go_region_held3 (Two5 b (off + j * 5) w.heap.size (.int .u8 yk) (.bool yb) (.int .i64 yn) (.string ys) (.int .u64 yu) (.int .u8 xk) (.bool xb) (.int .i64 xn) (.string xs') (.int .u64 xu)) (first
          | (with_reducible assumption)
          | (with_reducible exact two5_fr H5.out (Fr.refl _ _).drew)
          | (with_reducible exact two5_fr (two5_fr H5.out (Fr.refl _ _).drew) hf1)
          | fail) (first
          | (go_simp; go_at_call 209; refine (HCALL.out _).mono ?_; rintro e w1 ⟨rfl, hf1⟩)
          | fail)
        rename_i Kx hKx hS
        refine hKx _ _ ?_
        clear hS
        go_wp2
        go_ret2
        exact ⟨by rw [HRR.out]; rfl, ((Fr.refl N0 w).alloc _).then0 (HFR.out.then0 ((Fr.refl N0 _).drew.then0 hf1))⟩
      · have hR := HT2.out hend
        have HRR := Lib.hid hR
        have hki : ¬ (j : Int) < (xs.length : Int) := by omega
        clear hR hfw b0 b1 b2 b3 b4
        clear HCC HC HN HLO HHI HT1 HT2
        go_wp2_with fail
        go_quiet (fail)
        rename_i Kx hKx
        refine hKx _ _ ?_
        go_wp2
        go_ret2
        exact ⟨by rw [HRR.out]; rfl, (((Fr.refl N0 w).alloc _).then0 HFR.out).drewN _⟩
end Go.Proofs.YtefepfiijoafbaaGreat
namespace Go.Proofs.YtefepfiijoafbaaGreat
set_option linter.unusedVariables false
set_option linter.unusedSimpArgs false

def RisesV (l : List Val) : Prop := l.Pairwise fun a b => vcmp a b < 0
def posV (x : Val) (l : List Val) : Nat := (l.takeWhile fun y => decide (vcmp y x < 0)).length
theorem posV_le (x : Val) (l : List Val) : posV x l ≤ l.length := by
  unfold posV; exact (List.takeWhile_sublist _).length_le
theorem posV_lt {x : Val} : ∀ {l : List Val} (k : Nat) (h : k < l.length), k < posV x l → vcmp l[k] x < 0
  | y :: l, k, h, hk => by
    unfold posV at hk
    by_cases hy : vcmp y x < 0
    · simp only [List.takeWhile_cons, hy, decide_true, if_true, List.length_cons] at hk
      cases k with
      | zero => exact hy
      | succ k => exact posV_lt (l := l) k (by simpa using h) (by unfold posV; omega)
    · simp [List.takeWhile_cons, hy] at hk
theorem posV_ge {x : Val} : ∀ {l : List Val} (hr : RisesV l) (k : Nat) (h : k < l.length), posV x l ≤ k → 0 ≤ vcmp l[k] x
  | y :: l, hr, k, h, hk => by
    obtain ⟨h1, h2⟩ := List.pairwise_cons.1 hr
    unfold posV at hk
    by_cases hy : vcmp y x < 0
    · simp only [List.takeWhile_cons, hy, decide_true, if_true, List.length_cons] at hk
      cases k with
      | zero => omega
      | succ k => exact posV_ge (l := l) h2 k (by simpa using h) (by unfold posV; omega)
    · cases k with
      | zero => show 0 ≤ vcmp y x; omega
      | succ k =>
        have hkl : k < l.length := by simpa using h
        have hm : vcmp y l[k] < 0 := h1 _ (List.getElem_mem _)
        show 0 ≤ vcmp l[k] x
        by_cases hc : vcmp l[k] x < 0
        · exact absurd (vcmp_trans hm hc) hy
        · omega
end Go.Proofs.YtefepfiijoafbaaGreat
namespace Go.Proofs.YtefepfiijoafbaaGreat
set_option linter.unusedVariables false
set_option linter.unusedSimpArgs false

theorem risesV_ins {x : Val} : ∀ {l : List Val}, RisesV l → x ∉ l → RisesV (l.take (posV x l) ++ x :: l.drop (posV x l))
  | [], _, _ => by simp [posV, RisesV]
  | y :: l, h, hn => by
    obtain ⟨h1, h2⟩ := List.pairwise_cons.1 h
    have hne : y ≠ x := fun e => hn (by simp [e])
    by_cases hy : vcmp y x < 0
    · have e : posV x (y :: l) = posV x l + 1 := by simp [posV, List.takeWhile_cons, hy]
      rw [e]
      show RisesV (y :: (l.take (posV x l) ++ x :: l.drop (posV x l)))
      refine List.pairwise_cons.2 ⟨fun z hz => ?_, risesV_ins h2 fun hm => hn (by simp [hm])⟩
      rcases List.mem_append.1 hz with hz | hz
      · exact h1 z (List.mem_of_mem_take hz)
      · rcases List.mem_cons.1 hz with rfl | hz
        · exact hy
        · exact h1 z (List.mem_of_mem_drop hz)
    · have e : posV x (y :: l) = 0 := by simp [posV, List.takeWhile_cons, hy]
      rw [e]
      have h0 : vcmp y x ≠ 0 := fun e => hne (vcmp_zero.1 e)
      have hxy : vcmp x y < 0 := by rw [vcmp_swap]; omega
      refine List.pairwise_cons.2 ⟨fun z hz => ?_, h⟩
      rcases List.mem_cons.1 hz with rfl | hz
      · exact hxy
      · exact vcmp_trans hxy (h1 z hz)
theorem risesV_del {l : List Val} (h : RisesV l) (k : Nat) : RisesV (l.eraseIdx k) := List.Pairwise.sublist (List.eraseIdx_sublist l k) h
theorem there_iff {x : Val} {l : List Val} (h : RisesV l) : x ∈ l ↔ ∃ hk : posV x l < l.length, l[posV x l] = x := by
  constructor
  · intro hx
    obtain ⟨i, hi, he⟩ := List.getElem_of_mem hx
    have h0 : vcmp l[i] x = 0 := by rw [he]; exact vcmp_zero.2 rfl
    have h1 : posV x l ≤ i := by
      by_cases hlt : i < posV x l
      · have := posV_lt i hi hlt; omega
      · omega
    have h2 : posV x l < l.length := by omega
    refine ⟨h2, ?_⟩
    by_cases e : posV x l = i
    · simp only [e]; exact he
    · have h3 := List.pairwise_iff_getElem.1 h (posV x l) i h2 hi (by omega)
      rw [he] at h3
      have := posV_ge h (posV x l) h2 (Nat.le_refl _)
      omega
  · rintro ⟨hk, he⟩
    rw [← he]; exact List.getElem_mem hk
theorem thereV_iff {x : Val} {l : List Val} (h : RisesV l) (hm : ∀ y ∈ l, valMay y = true) (hx : valMay x = true) : thereV l x (posV x l) = true ↔ x ∈ l := by
  rw [there_iff h]
  by_cases hk : posV x l < l.length
  · rw [thereV_at hk]
    unfold vCmpR
    rw [if_pos ⟨hm _ (List.getElem_mem hk), hx⟩]
    simp only [beq_iff_eq, vcmp_zero]
    exact ⟨fun e => ⟨hk, e⟩, fun e => e.2⟩
  · rw [thereV_end hk]
    simp [hk]
end Go.Proofs.YtefepfiijoafbaaGreat
