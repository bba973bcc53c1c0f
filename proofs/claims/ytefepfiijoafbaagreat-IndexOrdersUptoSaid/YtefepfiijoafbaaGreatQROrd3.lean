/- index.Order: what it refuses. tesseraref19.Ahead; the document's order, plainly. tesseraref19.Order: its regions. tesseraref19.Order: its loops. tesseraref19.Order, whole. -/
import Derived.Deep.RegionHeld3
import Derived.Deep.QuietTactic
import Derived.Test.YtefepfiijoafbaaGreatQValO
import Derived.Test.YtefepfiijoafbaaGreatQEq4
import Derived.Test.YtefepfiijoafbaaGreatQOrdP
import Derived.Test.YtefepfiijoafbaaGreatQLxO
import Derived.Test.YtefepfiijoafbaaGreatQR3SortT
import Derived.Test.YtefepfiijoafbaaGreatQXBack2
import Derived.Test.YtefepfiijoafbaaGreatQXMark2
import Derived.Test.YtefepfiijoafbaaGreatQPtE
import Derived.Test.YtefepfiijoafbaaGreatQQuiet
import Derived.Test.YtefepfiijoafbaaGreatQR3Sort
namespace Go.Proofs.YtefepfiijoafbaaGreat
open Go.RowKit Go.Shelf Go.Maps
attribute [local go_sem] Oper.semAt_some
attribute [local irreducible] wpQuiet
set_option linter.unusedVariables false
set_option linter.unusedSimpArgs false

def ordR (ord list lt : Bool) : Int := if !ord || list then 191 else if lt then 181 else 0
set_option maxRecDepth 100000 in
set_option maxHeartbeats 4000000 in
theorem iorder_no (W : World) (R : Nat → Prop) (p : Nat) (l : PL) (h : IsPL W R p l) (hs : 0 < l.s.pred.size) (t : Int) (down : Bool) (v : Value) (hno : ordR l.s.order l.s.list (decide (t < l.marked)) ≠ 0) :
    Calls Tryz.prog 27 #[.pointer (some ⟨p, 0, none⟩), .int .u64 t, .bool down, v] W fun e w' => e = .returned (.tuple #[.slice none 0 0, .int .i64 (ordR l.s.order l.s.list (decide (t < l.marked)))]) ∧ Fr N0 W w' := by
  have hsc := schema_any W R p l h hs
  have hmk := fun w1 (hf : Fr N0 W w1) => marked_any w1 R p l (h.fr hf fun _ _ => id) hs
  have HSC := Lib.hid hsc; have HMK := Lib.hid hmk
  clear hsc hmk h
  obtain ⟨⟨sp, st, sl, se, sm, so, sr, sc⟩, mk, ts, cms⟩ := l
  simp only [Sch.enc] at *
  have h1 : ¬ sp.toList = [] := by
    intro h
    have : sp.toList.length = 0 := by rw [h]; rfl
    rw [ByteArray.toList_eq, Array.length_toList] at this
    have e : sp.data.size = sp.size := rfl
    omega
  have h2 : (!sp.toList.isEmpty) = true := by simpa using h1
  have h3 : sp.toList.isEmpty = false := by simpa using h1
  clear hs
  have HNO := Lib.hid hno
  clear hno
  by_cases hlt : t < mk
  · cases so <;> cases sl
    all_goals
      go_enter Tryz.func27, Tryz.ntmps27
      go_wp2_with (first
        | (go_at_call 81; refine HSC.out.mono ?_; rintro e w1 ⟨rfl, hf1⟩)
        | (go_at_call 82; refine (HMK.out _ (hf1.alloc _)).mono ?_; rintro e w2 ⟨rfl, hf2⟩; have hft2 := (hf1.alloc _).then0 hf2))
      first
        | exact bodyPost_ret (v := .tuple #[.slice none 0 0, .int .i64 191]) (by simp [results, Tryz.results27, go_sem]) rfl ⟨by simp [ordR, hlt], hf1.alloc _⟩
        | exact bodyPost_ret (v := .tuple #[.slice none 0 0, .int .i64 181]) (by simp [results, Tryz.results27, go_sem]) rfl ⟨by simp [ordR, hlt], hft2⟩
  · have hd : decide (t < mk) = false := by simpa using hlt
    cases so
    · cases sl
      all_goals
        go_enter Tryz.func27, Tryz.ntmps27
        go_wp2_with (go_at_call 81; refine HSC.out.mono ?_; rintro e w1 ⟨rfl, hf1⟩)
        exact bodyPost_ret (v := .tuple #[.slice none 0 0, .int .i64 191]) (by simp [results, Tryz.results27, go_sem]) rfl ⟨by simp [ordR], hf1.alloc _⟩
    · cases sl
      · exact absurd (by simp [ordR, hd]) HNO.out
      · go_enter Tryz.func27, Tryz.ntmps27
        go_wp2_with (go_at_call 81; refine HSC.out.mono ?_; rintro e w1 ⟨rfl, hf1⟩)
        exact bodyPost_ret (v := .tuple #[.slice none 0 0, .int .i64 191]) (by simp [results, Tryz.results27, go_sem]) rfl ⟨by simp [ordR], hf1.alloc _⟩
end Go.Proofs.YtefepfiijoafbaaGreat
namespace Go.Proofs.YtefepfiijoafbaaGreat
open Go.RowKit Go.Shelf Go.Maps
attribute [local go_sem] Oper.semAt_some
attribute [local irreducible] wpQuiet
set_option linter.unusedVariables false
set_option linter.unusedSimpArgs false

theorem rowsK_hd {W : World} {g : Nat} {v : Value} {y : Val} {l : List Val} (h : RowsK Val.enc 5 W g v (y :: l)) : ∃ off cap, v = .slice (some ⟨g, off, none⟩) (l.length + 1) cap ∧ l.length + 1 ≤ cap ∧ cap ≤ maxLen ∧ W.cell? ⟨g, off + 2, none⟩ = some (.int .i64 y.n) := by
  obtain ⟨a, off, cap, rfl, h1, h2, h3, -, h5⟩ := h
  obtain rfl := h3 (by simp)
  refine ⟨off, cap, rfl, h1, h2, ?_⟩
  have := h5 0 (by simp) 2 (by decide)
  simpa [Val.enc] using this
theorem rowsK_none {W : World} {g : Nat} {v : Value} (h : RowsK Val.enc 5 W g v []) : ∃ a cap, v = .slice a 0 cap := by
  obtain ⟨a, off, cap, rfl, -⟩ := h
  exact ⟨a, cap, rfl⟩
/-- Does a node come ahead of another one? -/
def aheadR (down : Bool) (u y : Int) (a b : List Val) : Bool := match a, b with
  | v :: _, z :: _ => if v.n ≠ z.n then (decide (v.n < z.n) != down) else decide (u < y)
  | _ :: _, [] => true
  | [], _ :: _ => false
  | [], [] => decide (u < y)
set_option maxRecDepth 100000 in
set_option maxHeartbeats 2000000 in
theorem r19Ahead_any (W : World) (u y : Int) (ga gb : Nat) (va vb : Value) (a b : List Val) (ha : RowsK Val.enc 5 W ga va a) (hb : RowsK Val.enc 5 W gb vb b) (down : Bool) :
    Calls Tryz.prog 89 #[.int .u64 u, .int .u64 y, va, vb, .bool down] W fun e w' => e = .returned (.bool (aheadR down u y a b)) ∧ Fr N0 W w' := by
  cases a with
  | nil =>
    obtain ⟨xa, xc, rfl⟩ := rowsK_none ha
    cases b with
    | nil =>
      obtain ⟨ya, yc, rfl⟩ := rowsK_none hb
      clear ha hb
      go_enter Tryz.func89, Tryz.ntmps89
      go_wp2_with fail
      go_quiet (fail)
      go_wp2_with fail
      go_ret
      exact ⟨rfl, (Fr.refl _ _).drewN _⟩
    | cons z l =>
      obtain ⟨yo, yc, rfl, c1, c2, hc⟩ := rowsK_hd hb
      clear ha hb
      obtain ⟨n, hn⟩ : ∃ n, l.length + 1 = n := ⟨_, rfl⟩
      rw [hn] at c1 ⊢
      have hn0 : (0 : Int) < (n : Int) := by omega
      have hn1 : 0 < n := by omega
      go_enter Tryz.func89, Tryz.ntmps89
      go_wp2_with fail
      go_quiet (fail)
      go_wp2_with fail
      go_ret
      exact ⟨rfl, (Fr.refl _ _).drewN _⟩
  | cons v m =>
    obtain ⟨xo, xc, rfl, d1, d2, hd⟩ := rowsK_hd ha
    obtain ⟨k, hk⟩ : ∃ k, m.length + 1 = k := ⟨_, rfl⟩
    have hk0 : (0 : Int) < (k : Int) := by omega
    have hk1 : 0 < k := by omega
    cases b with
    | nil =>
      obtain ⟨ya, yc, rfl⟩ := rowsK_none hb
      clear ha hb
      rw [hk] at d1 ⊢
      go_enter Tryz.func89, Tryz.ntmps89
      go_wp2_with fail
      go_quiet (fail)
      go_wp2_with fail
      go_ret
      exact ⟨rfl, (Fr.refl _ _).drewN _⟩
    | cons z l =>
      obtain ⟨yo, yc, rfl, c1, c2, hc⟩ := rowsK_hd hb
      obtain ⟨n, hn⟩ : ∃ n, l.length + 1 = n := ⟨_, rfl⟩
      have hn0 : (0 : Int) < (n : Int) := by omega
      rw [hk] at d1 ⊢
      rw [hn] at c1 ⊢
      have hn1 : 0 < n := by omega
      unfold aheadR
      obtain ⟨vn, hvn⟩ : ∃ vn, v.n = vn := ⟨_, rfl⟩
      obtain ⟨zn, hzn⟩ : ∃ zn, z.n = zn := ⟨_, rfl⟩
      simp only [hvn] at hd ⊢
      simp only [hzn] at hc ⊢
      clear ha hb hk hn hvn hzn
      by_cases e : vn = zn
      · subst e
        rw [if_neg (by simp)]
        go_enter Tryz.func89, Tryz.ntmps89
        go_wp2_with fail
        go_quiet (fail)
        go_wp2_with fail
        go_ret
        exact ⟨rfl, (Fr.refl _ _).drewN _⟩
      · have e' : (vn != zn) = true := by simpa using e
        rw [if_pos e]
        go_enter Tryz.func89, Tryz.ntmps89
        go_wp2_with fail
        go_quiet (fail)
        go_wp2_with fail
        go_quiet (fail)
        go_wp2_with fail
        go_ret
        exact ⟨rfl, ((Fr.refl _ _).drewN _).drewN _⟩

/-- A node is put where it belongs. -/
def ordIns (K : Int → Int) (u : Int) : List Int → List Int
  | [] => [u]
  | y :: l => if K u < K y then u :: y :: l else y :: ordIns K u l
/-- One more node is looked at: has the new one been put; what is there so far. -/
def ordStep (K : Int → Int) (u : Int) (s : Bool × List Int) (y : Int) : Bool × List Int := if s.1 = false ∧ K u < K y then (true, s.2 ++ [u, y]) else (s.1, s.2 ++ [y])
theorem ordStep_true (K : Int → Int) (u : Int) (l : List Int) : ∀ acc, l.foldl (ordStep K u) (true, acc) = (true, acc ++ l) := by
  induction l with
  | nil => simp
  | cons y l ih => intro acc; rw [List.foldl_cons]; simp only [ordStep]; rw [if_neg (by simp), ih]; simp
theorem ordStep_ins (K : Int → Int) (u : Int) (l : List Int) : ∀ acc, (if (l.foldl (ordStep K u) (false, acc)).1 = false then (l.foldl (ordStep K u) (false, acc)).2 ++ [u] else (l.foldl (ordStep K u) (false, acc)).2) = acc ++ ordIns K u l := by
  induction l with
  | nil => intro acc; simp [ordIns]
  | cons y l ih =>
    intro acc
    rw [List.foldl_cons]
    unfold ordIns
    by_cases h : K u < K y
    · have : ordStep K u (false, acc) y = (true, acc ++ [u, y]) := by unfold ordStep; rw [if_pos ⟨rfl, h⟩]
      rw [this, ordStep_true, if_pos h]; simp
    · have : ordStep K u (false, acc) y = (false, acc ++ [y]) := by unfold ordStep; rw [if_neg (fun e => h e.2)]
      rw [this, ih, if_neg h]; simp
open Classical in
noncomputable def ordTake (K : Int → Int) (out : List Int) (u : Int) : List Int := if u ∈ out then out else ordIns K u out
/-- All nodes, one by one. -/
noncomputable def ordL (K : Int → Int) (us : List Int) : List Int := us.foldl (ordTake K) []
theorem ordIns_mem (K : Int → Int) (u x : Int) (l : List Int) : x ∈ ordIns K u l ↔ x = u ∨ x ∈ l := by
  induction l with
  | nil => simp [ordIns]
  | cons y l ih =>
    unfold ordIns
    split
    · simp
    · rw [List.mem_cons, ih, List.mem_cons]
      constructor
      · rintro (h | h | h)
        · exact .inr (.inl h)
        · exact .inl h
        · exact .inr (.inr h)
      · rintro (h | h | h)
        · exact .inr (.inl h)
        · exact .inl h
        · exact .inr (.inr h)
theorem ordIns_rises {K : Int → Int} {u : Int} : ∀ {l : List Int}, RisesBy K l → (∀ x ∈ l, K x ≠ K u) → RisesBy K (ordIns K u l)
  | [], _, _ => List.pairwise_singleton _ _
  | y :: l, h, hn => by
    obtain ⟨h1, h2⟩ := List.pairwise_cons.1 h
    unfold ordIns
    split
    · rename_i hlt
      refine List.pairwise_cons.2 ⟨fun x hx => ?_, h⟩
      rcases List.mem_cons.1 hx with rfl | hx
      · exact hlt
      · have := h1 x hx; omega
    · rename_i hlt
      refine List.pairwise_cons.2 ⟨fun x hx => ?_, ordIns_rises h2 fun x hx => hn x (by simp [hx])⟩
      rcases (ordIns_mem K u x l).1 hx with rfl | hx
      · have := hn y (by simp); omega
      · exact h1 x hx
theorem ordL_snoc (K : Int → Int) (us : List Int) (u : Int) : ordL K (us ++ [u]) = ordTake K (ordL K us) u := by unfold ordL; rw [List.foldl_append]; rfl
theorem ordL_law {K : Int → Int} : ∀ (us : List Int), (∀ x ∈ us, ∀ y ∈ us, K x = K y → x = y) → RisesBy K (ordL K us) ∧ ∀ x, x ∈ ordL K us ↔ x ∈ us := by
  refine list_snoc (C := fun us => (∀ x ∈ us, ∀ y ∈ us, K x = K y → x = y) → RisesBy K (ordL K us) ∧ ∀ x, x ∈ ordL K us ↔ x ∈ us) (fun _ => ⟨List.Pairwise.nil, by simp [ordL]⟩) (fun us u ih hK => ?_)
  obtain ⟨h1, h2⟩ := ih fun x hx y hy => hK x (by simp [hx]) y (by simp [hy])
  rw [ordL_snoc]
  unfold ordTake
  split
  · rename_i hu
    refine ⟨h1, fun x => ?_⟩
    rw [h2, List.mem_append, List.mem_singleton]
    exact ⟨.inl, fun h => h.elim id fun e => e ▸ (h2 u).1 hu⟩
  · rename_i hu
    refine ⟨ordIns_rises h1 fun x hx e => hu ?_, fun x => ?_⟩
    · rw [← hK x (by simp [(h2 x).1 hx]) u (by simp) e]; exact hx
    · rw [ordIns_mem, h2, List.mem_append, List.mem_singleton]
      exact ⟨fun h => h.elim .inr .inl, fun h => h.elim .inr .inl⟩
theorem ordL_len (K : Int → Int) : ∀ us : List Int, (ordL K us).length ≤ us.length := by
  have hi : ∀ (u : Int) (l : List Int), (ordIns K u l).length = l.length + 1 := fun u l => by
    induction l with
    | nil => rfl
    | cons y l ih => unfold ordIns; split <;> simp [ih]
  refine list_snoc (C := fun us => (ordL K us).length ≤ us.length) (by simp [ordL]) (fun us u ih => ?_)
  rw [ordL_snoc, List.length_append]
  unfold ordTake
  split
  · simp; omega
  · rw [hi]; simp; omega
/-- The key of a node. -/
noncomputable def nodeKey (down : Bool) (H : Int → List Val) (u : Int) : Int := rkKey down (rkOf H u)
theorem aheadR_key (down : Bool) (H : Int → List Val) (u y : Int) (hu : (rkOf H u).Ok) (hy : (rkOf H y).Ok) : aheadR down u y (H u) (H y) = decide (nodeKey down H u < nodeKey down H y) := by
  unfold nodeKey
  rw [← rkLess_key down hu hy]
  unfold aheadR rkLess rkOf
  cases H u <;> cases H y <;> simp
theorem nodeKey_inj {down : Bool} {H : Int → List Val} {u y : Int} (hu : (rkOf H u).Ok) (hy : (rkOf H y).Ok) (h : nodeKey down H u = nodeKey down H y) : u = y := by
  obtain ⟨⟨a1, a2⟩, a3, a4⟩ := hu
  obtain ⟨⟨b1, b2⟩, b3, b4⟩ := hy
  have e1 := rkOf_uid H u
  have e2 := rkOf_uid H y
  unfold nodeKey rkKey at h
  obtain ⟨ra, hra⟩ : ∃ ra, rkOf H u = ra := ⟨_, rfl⟩
  obtain ⟨rb, hrb⟩ : ∃ rb, rkOf H y = rb := ⟨_, rfl⟩
  rw [hra] at h e1 a1 a2 a3 a4
  rw [hrb] at h e2 b1 b2 b3 b4
  clear hra hrb
  obtain ⟨au, an, sa⟩ := ra
  obtain ⟨bu, bn, sb⟩ := rb
  simp only at h e1 e2 a1 a2 a3 a4 b1 b2 b3 b4
  subst e1 e2
  cases sa <;> cases sb <;> cases down <;> simp only [Bool.false_eq_true, if_true, if_false] at h <;> omega
/-- What program and document tell is the same. -/
theorem ordered_is {down : Bool} {H : Int → List Val} {us xs : List Int} (hok : ∀ u ∈ us, (rkOf H u).Ok) (h : Ordered down H (normU us) xs) : xs = ordL (nodeKey down H) us := by
  obtain ⟨rs, rfl, hp, hs⟩ := h.out
  obtain ⟨g1, g2⟩ := ordL_law (K := nodeKey down H) us fun x hx y hy e => nodeKey_inj (hok x hx) (hok y hy) e
  have hmem : ∀ r ∈ rs, ∃ u ∈ us, r = rkOf H u := fun r hr => by
    obtain ⟨u, hu, e⟩ := List.mem_map.1 (hp.mem_iff.1 hr)
    exact ⟨u, (normU_mem us u).1 hu, e.symm⟩
  have hkey : ∀ r ∈ rs, nodeKey down H r.uid = rkKey down r := fun r hr => by
    obtain ⟨u, hu, rfl⟩ := hmem r hr
    unfold nodeKey; rw [rkOf_uid]
  have hnd : (rs.map (·.uid)).Nodup := by
    have h1 : (rs.map (·.uid)).Perm (normU us) := by
      have := hp.map (·.uid)
      rw [List.map_map] at this
      refine this.trans ?_
      have e : ((fun r : Rk => r.uid) ∘ rkOf H) = id := funext fun u => rkOf_uid H u
      rw [e, List.map_id]
    refine h1.nodup_iff.2 ?_
    exact (normU_rises us).imp fun {a b} (h : a < b) => by intro e; omega
  refine rises_unique (key := nodeKey down H) ?_ g1 fun x => ?_
  · have h1 : (rs.map (·.uid)).Pairwise fun a b => nodeKey down H a ≤ nodeKey down H b := by
      rw [List.pairwise_map]
      exact hs.imp_of_mem fun {a b} ha hb h => by rw [hkey a ha, hkey b hb]; exact h
    refine (h1.and hnd).imp_of_mem fun {a b} ha hb h => ?_
    obtain ⟨h2, h3⟩ := h
    refine (Int.lt_iff_le_and_ne.2 ⟨h2, fun e => h3 ?_⟩ : _ < _)
    obtain ⟨ra, ha2, rfl⟩ := List.mem_map.1 ha
    obtain ⟨rb, hb2, rfl⟩ := List.mem_map.1 hb
    obtain ⟨ua, hua, rfl⟩ := hmem ra ha2
    obtain ⟨ub, hub, rfl⟩ := hmem rb hb2
    rw [rkOf_uid, rkOf_uid] at e ⊢
    exact nodeKey_inj (hok ua hua) (hok ub hub) e
  · rw [g2, List.mem_map]
    constructor
    · rintro ⟨r, hr, rfl⟩
      obtain ⟨u, hu, rfl⟩ := hmem r hr
      rw [rkOf_uid]; exact hu
    · intro hx
      exact ⟨rkOf H x, hp.mem_iff.2 (List.mem_map.2 ⟨x, (normU_mem us x).2 hx, rfl⟩), rkOf_uid H x⟩
end Go.Proofs.YtefepfiijoafbaaGreat
namespace Go.Proofs.YtefepfiijoafbaaGreat
open Go.RowKit Go.Shelf Go.Maps
attribute [local go_sem] Oper.semAt_some
attribute [local go_sem ↓] Go.wp_at_zero Go.wp_at_succ
attribute [local irreducible] wpQuiet
set_option linter.unusedVariables false
set_option linter.unusedSimpArgs false

theorem frA_104 (f : Nat → Value) : frA 104 f = { tmps := #[f 0, f 1, f 2, f 3, f 4, f 5, f 6, f 7, f 8, f 9, f 10, f 11, f 12, f 13, f 14, f 15, f 16, f 17, f 18, f 19, f 20, f 21, f 22, f 23, f 24, f 25, f 26, f 27, f 28, f 29, f 30, f 31, f 32, f 33, f 34, f 35, f 36, f 37, f 38, f 39, f 40, f 41, f 42, f 43, f 44, f 45, f 46, f 47, f 48, f 49, f 50, f 51, f 52, f 53, f 54, f 55, f 56, f 57, f 58, f 59, f 60, f 61, f 62, f 63, f 64, f 65, f 66, f 67, f 68, f 69, f 70, f 71, f 72, f 73, f 74, f 75, f 76, f 77, f 78, f 79, f 80, f 81, f 82, f 83, f 84, f 85, f 86, f 87, f 88, f 89, f 90, f 91, f 92, f 93, f 94, f 95, f 96, f 97, f 98, f 99, f 100, f 101, f 102, f 103], defers := [] } := rfl
noncomputable def roB (n : Nat) : Code := lvSuf n ((Tryz.f28.body).getD .skip)
noncomputable def roL1 : Code := srLoop (srIn (srSnd (lvFst (roB 4))))
noncomputable def roX (n : Nat) : Code := lvSuf n (srIn (lvFst (srSnd roL1)))
noncomputable def roL2 : Code := srLoop (srIn (srSnd (lvFst (roX 4))))
noncomputable def roY (n : Nat) : Code := lvSuf n (srIn (lvFst (srSnd roL2)))
theorem roB0_eq : roB 0 = .seq (lvFst (roB 0)) (.seq (lvFst (roB 1)) (.seq (lvFst (roB 2)) (.seq (lvFst (roB 3)) (.seq (lvFst (roB 4)) (roB 5))))) := by kernel_rfl
theorem roB4_eq : lvFst (roB 4) = .seq (lvFst (lvFst (roB 4))) (.block 0 (.loop roL1)) := by kernel_rfl
theorem roL1_eq : roL1 = .seq (lvFst roL1) (.seq (.block 1 (roX 0)) (srSnd (srSnd roL1))) := by kernel_rfl
theorem roX0_eq : roX 0 = .seq (lvFst (roX 0)) (.seq (lvFst (roX 1)) (.seq (lvFst (roX 2)) (.seq (lvFst (roX 3)) (.seq (lvFst (roX 4)) (.seq (lvFst (roX 5)) (roX 6)))))) := by kernel_rfl
theorem roX4_eq : lvFst (roX 4) = .seq (lvFst (lvFst (roX 4))) (.block 2 (.loop roL2)) := by kernel_rfl
theorem roL2_eq : roL2 = .seq (lvFst roL2) (.seq (.block 3 (roY 0)) (srSnd (srSnd roL2))) := by kernel_rfl
theorem roY0_eq : roY 0 = .seq (lvFst (roY 0)) (.seq (.seq (lvFst (lvFst (roY 1))) (srSnd (lvFst (roY 1)))) (roY 2)) := by kernel_rfl
/-- Slots that the outer loop's rounds keep; that the inner one's keep. -/
def kO : List Nat := [0, 1, 2, 3, 8, 9]
def kI : List Nat := [0, 1, 2, 3, 8, 9, 10, 11, 12]
/-- One place, and nothing that lay has turned. -/
abbrev OneC (W0 : World) (g k : Nat) (y : Int) (W : World) : Prop := W.cell? ⟨g, k, none⟩ = some (.int .u64 y) ∧ Fr N0 W0 W
theorem oneC_keep {W0 W W' : World} {g k : Nat} {y : Int} (h : OneC W0 g k y W) (hf : Fr N0 W W') : OneC W0 g k y W' := ⟨hf.cell id h.1, h.2.then0 hf⟩
section
variable {K : Act → World → Prop} {Q : Exit → Act → World → Prop} (W : World) (f : Nat → Value)
set_option maxRecDepth 100000 in
set_option maxHeartbeats 4000000 in
theorem roR0 
    (hK : ∀ f', Kp [0, 1, 2, 3] f f' → f' 8 = .slice none 0 0 → f' 9 = .int .i64 0 →  K (frA 104 f') W) :
    Code.wp Tryz.prog (lvFst (roB 0)) (Exit.then K Q) (frA 104 f) W := by
  have HK := Lib.hid hK
  clear hK
  rw [frA_104]
  conv => arg 2; whnf
  go_wp2_with fail
  refine cut_use (n := 104) (K := K) _ rfl ?_
  exact HK.out _ (kp_mk (by simp only [kO, kI, List.map_cons, List.map_nil]; rfl)) rfl rfl
set_option maxRecDepth 100000 in
set_option maxHeartbeats 4000000 in
theorem roR5 
    (hK : ∀ f', Kp kO f f' → f' 10 = .slice none 0 0 →  K (frA 104 f') W) :
    Code.wp Tryz.prog (lvFst (roB 3)) (Exit.then K Q) (frA 104 f) W := by
  have HK := Lib.hid hK
  clear hK
  rw [frA_104]
  conv => arg 2; whnf
  go_wp2_with fail
  refine cut_use (n := 104) (K := K) _ rfl ?_
  exact HK.out _ (kp_mk (by simp only [kO, kI, List.map_cons, List.map_nil]; rfl)) rfl
set_option maxRecDepth 100000 in
set_option maxHeartbeats 4000000 in
theorem roR6 
    (hK : ∀ f', Kp (10 :: kO) f f' → f' 11 = .int .i64 (0 : Nat) →  K (frA 104 f') W) :
    Code.wp Tryz.prog (lvFst (lvFst (roB 4))) (Exit.then K Q) (frA 104 f) W := by
  have HK := Lib.hid hK
  clear hK
  rw [frA_104]
  conv => arg 2; whnf
  go_wp2_with fail
  refine cut_use (n := 104) (K := K) _ rfl ?_
  exact HK.out _ (kp_mk (by simp only [kO, kI, List.map_cons, List.map_nil]; rfl)) rfl
set_option maxRecDepth 100000 in
set_option maxHeartbeats 4000000 in
theorem roR10 
    (hK : ∀ f', Kp (10 :: 11 :: 12 :: kO) f f' → f' 13 = .bool false →  K (frA 104 f') W) :
    Code.wp Tryz.prog (lvFst (roX 1)) (Exit.then K Q) (frA 104 f) W := by
  have HK := Lib.hid hK
  clear hK
  rw [frA_104]
  conv => arg 2; whnf
  go_wp2_with fail
  refine cut_use (n := 104) (K := K) _ rfl ?_
  exact HK.out _ (kp_mk (by simp only [kO, kI, List.map_cons, List.map_nil]; rfl)) rfl
set_option maxRecDepth 100000 in
set_option maxHeartbeats 4000000 in
theorem roR11 
    (hK : ∀ f', Kp (13 :: kI) f f' → f' 14 = .slice none 0 0 →  K (frA 104 f') W) :
    Code.wp Tryz.prog (lvFst (roX 2)) (Exit.then K Q) (frA 104 f) W := by
  have HK := Lib.hid hK
  clear hK
  rw [frA_104]
  conv => arg 2; whnf
  go_wp2_with fail
  refine cut_use (n := 104) (K := K) _ rfl ?_
  exact HK.out _ (kp_mk (by simp only [kO, kI, List.map_cons, List.map_nil]; rfl)) rfl
set_option maxRecDepth 100000 in
set_option maxHeartbeats 4000000 in
theorem roR12 
    (hK : ∀ f', Kp (13 :: 14 :: kI) f f' → f' 15 = .bool false →  K (frA 104 f') W) :
    Code.wp Tryz.prog (lvFst (roX 3)) (Exit.then K Q) (frA 104 f) W := by
  have HK := Lib.hid hK
  clear hK
  rw [frA_104]
  conv => arg 2; whnf
  go_wp2_with fail
  refine cut_use (n := 104) (K := K) _ rfl ?_
  exact HK.out _ (kp_mk (by simp only [kO, kI, List.map_cons, List.map_nil]; rfl)) rfl
set_option maxRecDepth 100000 in
set_option maxHeartbeats 4000000 in
theorem roR13 
    (hK : ∀ f', Kp (13 :: 14 :: 15 :: kI) f f' → f' 16 = .int .i64 (0 : Nat) →  K (frA 104 f') W) :
    Code.wp Tryz.prog (lvFst (lvFst (roX 4))) (Exit.then K Q) (frA 104 f) W := by
  have HK := Lib.hid hK
  clear hK
  rw [frA_104]
  conv => arg 2; whnf
  go_wp2_with fail
  refine cut_use (n := 104) (K := K) _ rfl ?_
  exact HK.out _ (kp_mk (by simp only [kO, kI, List.map_cons, List.map_nil]; rfl)) rfl
set_option maxRecDepth 100000 in
set_option maxHeartbeats 4000000 in
theorem roR8 (k : Nat) (hk : k ≤ 10000000000) (h11 : f 11 = .int .i64 k)
    (hK : ∀ f', Kp (10 :: kO) f f' → f' 11 = .int .i64 ((k + 1 : Nat) : Int) →  K (frA 104 f') W) :
    Code.wp Tryz.prog (srSnd (srSnd roL1)) (Exit.then K Q) (frA 104 f) W := by
  have HK := Lib.hid hK
  clear hK
  have Hh11 := Lib.hid h11
  rw [frA_104]
  rw [h11]
  clear h11
  conv => arg 2; whnf
  go_wp2_with fail
  refine cut_use (n := 104) (K := K) _ rfl ?_
  exact HK.out _ (kp_mk (by simp only [kO, kI, List.map_cons, List.map_nil, Hh11.out]; rfl)) (by show Value.int .i64 ((k : Int) + 1) = _; go_num)
set_option maxRecDepth 100000 in
set_option maxHeartbeats 4000000 in
theorem roR15 (k : Nat) (hk : k ≤ 10000000000) (h16 : f 16 = .int .i64 k)
    (hK : ∀ f', Kp (13 :: 14 :: 15 :: kI) f f' → f' 16 = .int .i64 ((k + 1 : Nat) : Int) →  K (frA 104 f') W) :
    Code.wp Tryz.prog (srSnd (srSnd roL2)) (Exit.then K Q) (frA 104 f) W := by
  have HK := Lib.hid hK
  clear hK
  have Hh16 := Lib.hid h16
  rw [frA_104]
  rw [h16]
  clear h16
  conv => arg 2; whnf
  go_wp2_with fail
  refine cut_use (n := 104) (K := K) _ rfl ?_
  exact HK.out _ (kp_mk (by simp only [kO, kI, List.map_cons, List.map_nil, Hh16.out]; rfl)) (by show Value.int .i64 ((k : Int) + 1) = _; go_num)
set_option maxRecDepth 100000 in
set_option maxHeartbeats 4000000 in
theorem roR7 (k n c : Nat) (a : Option Addr) (h0 : f 3 = .slice a n c) (h1 : f 11 = .int .i64 k)
    (hK : k < n → ∀ f', Kp (10 :: 11 :: kO) f f' → K (frA 104 f') W) (hQ : ¬ k < n → ∀ f', Kp (10 :: 11 :: kO) f f' → Q (.exit 0) (frA 104 f') W) :
    Code.wp Tryz.prog (lvFst roL1) (Exit.then K Q) (frA 104 f) W := by
  have HK := Lib.hid hK; have HQ := Lib.hid hQ; have H0 := Lib.hid h0; have H1 := Lib.hid h1
  clear hK hQ
  rw [frA_104]
  rw [h0, h1]
  clear h0 h1
  conv => arg 2; whnf
  by_cases hlt : k < n
  · have hki : (k : Int) < (n : Int) := by omega
    go_wp2_with fail
    refine cut_use (n := 104) (K := K) _ rfl ?_
    exact HK.out hlt _ (kp_mk (by simp only [kO, kI, List.map_cons, List.map_nil, H0.out, H1.out]; rfl))
  · have hki : ¬ (k : Int) < (n : Int) := by omega
    go_wp2_with fail
    refine cut_useQ (n := 104) (Q := Q) (e := .exit 0) _ rfl ?_
    exact HQ.out hlt _ (kp_mk (by simp only [kO, kI, List.map_cons, List.map_nil, H0.out, H1.out]; rfl))
set_option maxRecDepth 100000 in
set_option maxHeartbeats 4000000 in
theorem roR14 (k n c : Nat) (a : Option Addr) (h0 : f 10 = .slice a n c) (h1 : f 16 = .int .i64 k)
    (hK : k < n → ∀ f', Kp (13 :: 14 :: 15 :: 16 :: kI) f f' → K (frA 104 f') W) (hQ : ¬ k < n → ∀ f', Kp (13 :: 14 :: 15 :: 16 :: kI) f f' → Q (.exit 2) (frA 104 f') W) :
    Code.wp Tryz.prog (lvFst roL2) (Exit.then K Q) (frA 104 f) W := by
  have HK := Lib.hid hK; have HQ := Lib.hid hQ; have H0 := Lib.hid h0; have H1 := Lib.hid h1
  clear hK hQ
  rw [frA_104]
  rw [h0, h1]
  clear h0 h1
  conv => arg 2; whnf
  by_cases hlt : k < n
  · have hki : (k : Int) < (n : Int) := by omega
    go_wp2_with fail
    refine cut_use (n := 104) (K := K) _ rfl ?_
    exact HK.out hlt _ (kp_mk (by simp only [kO, kI, List.map_cons, List.map_nil, H0.out, H1.out]; rfl))
  · have hki : ¬ (k : Int) < (n : Int) := by omega
    go_wp2_with fail
    refine cut_useQ (n := 104) (Q := Q) (e := .exit 2) _ rfl ?_
    exact HQ.out hlt _ (kp_mk (by simp only [kO, kI, List.map_cons, List.map_nil, H0.out, H1.out]; rfl))
set_option maxRecDepth 100000 in
set_option maxHeartbeats 4000000 in
theorem roR9 (b off k n c : Nat) (u : Int) (hk : k < n) (hc : W.cell? ⟨b, off + k, none⟩ = some (.int .u64 u)) (h3 : f 3 = .slice (some ⟨b, off, none⟩) n c) (h11 : f 11 = .int .i64 k)
    (hK : ∀ f', Kp (10 :: 11 :: kO) f f' → f' 12 = .int .u64 u →  K (frA 104 f') W) :
    Code.wp Tryz.prog (lvFst (roX 0)) (Exit.then K Q) (frA 104 f) W := by
  have HK := Lib.hid hK
  clear hK
  have Hh3 := Lib.hid h3
  have Hh11 := Lib.hid h11
  have hki : (k : Int) < (n : Int) := by omega
  rw [frA_104]
  rw [h3, h11]
  clear h3 h11
  conv => arg 2; whnf
  go_wp2_with fail
  refine cut_use (n := 104) (K := K) _ rfl ?_
  exact HK.out _ (kp_mk (by simp only [kO, kI, List.map_cons, List.map_nil, Hh3.out, Hh11.out]; rfl)) rfl
set_option maxRecDepth 100000 in
set_option maxHeartbeats 4000000 in
theorem roR16 (g k n c : Nat) (y u : Int) (mb : Bool) (hk : k < n) (hc : W.cell? ⟨g, k, none⟩ = some (.int .u64 y)) (h10 : f 10 = .slice (some ⟨g, 0, none⟩) n c) (h12 : f 12 = .int .u64 u) (h13 : f 13 = .bool mb) (h16 : f 16 = .int .i64 k)
    (hK : ∀ f', Kp (14 :: 15 :: 16 :: kI) f f' → f' 13 = .bool (mb || decide (y = u)) → K (frA 104 f') W) :
    Code.wp Tryz.prog (lvFst (roY 0)) (Exit.then K Q) (frA 104 f) W := by
  have HK := Lib.hid hK; have H10 := Lib.hid h10; have H12 := Lib.hid h12; have H16 := Lib.hid h16
  have hki : (k : Int) < (n : Int) := by omega
  clear hK
  rw [frA_104]
  rw [h10, h12, h13, h16]
  clear h10 h12 h13 h16
  conv => arg 2; whnf
  cases mb
  · by_cases e : y = u
    · have e' : (y == u) = true := by simpa using e
      go_wp2_with fail
      refine cut_use (n := 104) (K := K) _ rfl ?_
      exact HK.out _ (kp_mk (by simp only [kI, List.map_cons, List.map_nil, H10.out, H12.out, H16.out]; rfl)) (by simp [e]; try rfl)
    · have e' : (y == u) = false := by simpa using e
      go_wp2_with fail
      refine cut_use (n := 104) (K := K) _ rfl ?_
      exact HK.out _ (kp_mk (by simp only [kI, List.map_cons, List.map_nil, H10.out, H12.out, H16.out]; rfl)) (by simp [e]; try rfl)
  · go_wp2_with fail
    refine cut_use (n := 104) (K := K) _ rfl ?_
    exact HK.out _ (kp_mk (by simp only [kI, List.map_cons, List.map_nil, H10.out, H12.out, H16.out]; rfl)) (by simp; try rfl)
set_option maxRecDepth 100000 in
set_option maxHeartbeats 4000000 in
theorem roR17t (h15 : f 15 = .bool true)
    (hK : ∀ f' W', Kp (13 :: 14 :: 15 :: 16 :: kI) f f' → f' 82 = .bool false → Fr N0 W W' → K (frA 104 f') W') :
    Code.wp Tryz.prog (lvFst (lvFst (roY 1))) (Exit.then K Q) (frA 104 f) W := by
  have HK := Lib.hid hK; have H15 := Lib.hid h15
  clear hK
  rw [frA_104]
  rw [h15]
  clear h15
  conv => arg 2; whnf
  obtain ⟨S, hK2, hxS, hSS⟩ := kept_open (kept_start (Fr.refl N0 W))
  have HSS := Lib.hid hSS
  clear hxS hSS
  refine wp_region_kept hK2 (by kernel_rfl) (by kernel_rfl) ?_
  intro hne
  repeat (quiet_step (fail))
  refine wpQuiet_nil ?_
  rintro wr ⟨⟨_, hr⟩, rfl⟩
  replace hr := Lib.hid (HSS.out _ hr)
  clear hK2 hne HSS S
  refine cut_use (n := 104) (K := K) _ rfl ?_
  exact HK.out _ _ (kp_mk (by simp only [kI, List.map_cons, List.map_nil, H15.out]; rfl)) rfl hr.out
set_option maxRecDepth 100000 in
set_option maxHeartbeats 4000000 in
theorem roR17f (p g k n c : Nat) (y u t : Int) (down : Bool) (H : Int → List Val) (hk : k < n) (hc : W.cell? ⟨g, k, none⟩ = some (.int .u64 y)) (h0 : f 0 = .pointer (some ⟨p, 0, none⟩)) (h1 : f 1 = .int .u64 t) (h2 : f 2 = .bool down) (h10 : f 10 = .slice (some ⟨g, 0, none⟩) n c) (h12 : f 12 = .int .u64 u) (h15 : f 15 = .bool false) (h16 : f 16 = .int .i64 k)
    (hA : ∀ W' x, Fr N0 W W' → Calls Tryz.prog 90 #[.pointer (some ⟨p, 0, none⟩), .int .u64 x, .int .u64 t] W' fun e w' => ∃ v, e = .returned v ∧ VRow w' W'.heap.size v (H x) ∧ Fr N0 W' w')
    (hK : ∀ f' W', Kp (13 :: 14 :: 15 :: 16 :: kI) f f' → f' 82 = .bool (aheadR down u y (H u) (H y)) → Fr N0 W W' → K (frA 104 f') W') :
    Code.wp Tryz.prog (lvFst (lvFst (roY 1))) (Exit.then K Q) (frA 104 f) W := by
  have hb : ∀ W' x, Fr N0 W W' → Calls Tryz.prog 90 #[.pointer (some ⟨p, 0, none⟩), .int .u64 x, .int .u64 t] W' fun e w' => ∃ v gv, e = .returned v ∧ RowsK Val.enc 5 w' gv v (H x) ∧ Fr N0 W' w' := fun W' x hf => (hA W' x hf).mono fun e w' hh => by
    obtain ⟨v, he, hr, hf2⟩ := hh
    obtain ⟨gv, -, hr2⟩ := rowsK_of_row (enc := Val.enc) (n := 5) (fun _ => rfl) (by decide) hr
    exact ⟨v, gv, he, hr2, hf2⟩
  have HA := Lib.hid hb; have HK := Lib.hid hK; have H0 := Lib.hid h0; have H1 := Lib.hid h1; have H2 := Lib.hid h2; have H10 := Lib.hid h10; have H12 := Lib.hid h12; have H15 := Lib.hid h15; have H16 := Lib.hid h16
  have hki : (k : Int) < (n : Int) := by omega
  have hgD : OneC W g k y W.drew := ⟨(Fr.refl N0 W).drew.cell id hc, (Fr.refl N0 W).drew⟩
  have cD := hgD.1
  clear hK hA hb
  rw [frA_104]
  rw [h0, h1, h2, h10, h12, h15, h16]
  clear h0 h1 h2 h10 h12 h15 h16
  conv => arg 2; whnf
  go_region_held3 (OneC W g k y) (first
    | (with_reducible assumption)
    | fail) (first
    | (go_simp; go_at_call 90; first
        | (refine (HA.out _ y hg3.2).mono ?_; rintro e w4 ⟨v4, gv4, rfl, hr4, hf4⟩; have hg4 := oneC_keep hg3 hf4; have c4 := hg4.1; have hr34 := RowsK.fr0 (enc := Val.enc) (n := 5) (fun _ => rfl) hr3 hf4)
        | (refine (HA.out _ u hgD.2).mono ?_; rintro e w3 ⟨v3, gv3, rfl, hr3, hf3⟩; have hg3 := oneC_keep hgD hf3; have c3 := hg3.1)
        | fail)
    | (go_simp; go_at_call 89; refine (r19Ahead_any _ u y gv3 gv4 v3 v4 (H u) (H y) hr34 hr4 down).mono ?_; rintro e w5 ⟨rfl, hf5⟩; have hg5 := oneC_keep hg4 hf5)
    | fail)
  all_goals
    refine cut_use (n := 104) (K := K) _ rfl ?_
    exact HK.out _ _ (kp_mk (by simp only [kI, List.map_cons, List.map_nil, H0.out, H1.out, H2.out, H10.out, H12.out, H15.out, H16.out]; rfl)) rfl hg5.2
set_option maxRecDepth 100000 in
set_option maxHeartbeats 4000000 in
theorem roR18 (base n : Nat) (a : Option Addr) (c : Nat) (u : Int) (cells : List Value) (hl : n ≤ 10000000000) (hr : W.ownsRow base 33 1 (.slice a n c) n cells) (hb : base ≤ W.heap.size) (h14 : f 14 = .slice a n c) (h12 : f 12 = .int .u64 u)
    (hK : ∀ f' W' v', Kp (13 :: 16 :: kI) f f' → f' 14 = v' → f' 15 = .bool true → W'.ownsRow base 33 1 v' (n + 1) (cells ++ [.int .u64 u]) → Fr (fun q => base ≤ q) W W' → K (frA 104 f') W') :
    Code.wp Tryz.prog (srThen (srSnd (lvFst (roY 1)))) (Exit.then K Q) (frA 104 f) W := by
  obtain ⟨i0, hi, hz0, hz1, hz2⟩ := info_parts ins4_info
  have HK := Lib.hid hK; have H14 := Lib.hid h14; have HR := Lib.hid hr
  have H12 := Lib.hid h12
  clear hK
  rw [frA_104]
  rw [h14, h12]
  clear h14 h12
  conv => arg 2; whnf
  go_wp2_with (at_builtin; go_loud (refine wpList_append_lies _ rfl _ _ 35 rfl (base) 33 i0 (.int .u64 0) 1 8 Tryz.underlying35 hi hz0 hz1 hz2 rfl (by decide) (.slice a n c) (n) _ rfl (hr.alloc _) ⟨W.heap.size, 0, none⟩ 1 1 [.int .u64 u] rfl rfl (World.news_of_block (cs := #[.int .u64 u]) (t := 33) (fr := (0, 0)) (heap_alloc_new W _)) (by simp [Value.oneCell']) (by omega) (by unfold maxLen; omega) (by omega) (by simp; omega) (W.heap.size + 1) (by simp) ?_); intro g1 cap1 w3 hown3 hgrow3 hfresh3 hlt3)
  all_goals
    refine cut_use (n := 104) (K := K) _ rfl ?_
    exact HK.out _ _ _ (kp_mk (by simp only [kI, List.map_cons, List.map_nil, H12.out]; rfl)) rfl rfl hown3 ((((Fr.refl N0 W).alloc _).mono fun _ h => h.elim).trans ((Fr.refl (fun q => (Value.slice a n c).ownBlock = some q) _).grown hgrow3 fun q e => .inl e) fun q hq => .inl (ownsRow_lt HR.out q hq).1)
set_option maxRecDepth 100000 in
set_option maxHeartbeats 4000000 in
theorem roR20 (base n : Nat) (a : Option Addr) (c : Nat) (u : Int) (cells : List Value) (hl : n ≤ 10000000000) (hr : W.ownsRow base 33 1 (.slice a n c) n cells) (hb : base ≤ W.heap.size) (h14 : f 14 = .slice a n c) (g m k oc : Nat) (hk : k < m) (hc : W.cell? ⟨g, k, none⟩ = some (.int .u64 u)) (h10 : f 10 = .slice (some ⟨g, 0, none⟩) m oc) (h16 : f 16 = .int .i64 k)
    (hK : ∀ f' W' v', Kp (13 :: 15 :: 16 :: kI) f f' → f' 14 = v' → W'.ownsRow base 33 1 v' (n + 1) (cells ++ [.int .u64 u]) → Fr (fun q => base ≤ q) W W' → K (frA 104 f') W') :
    Code.wp Tryz.prog (roY 2) (Exit.then K Q) (frA 104 f) W := by
  obtain ⟨i0, hi, hz0, hz1, hz2⟩ := info_parts ins4_info
  have HK := Lib.hid hK; have H14 := Lib.hid h14; have HR := Lib.hid hr
  have H10 := Lib.hid h10; have H16 := Lib.hid h16
  have hki : (k : Int) < (m : Int) := by omega
  clear hK
  rw [frA_104]
  rw [h14, h10, h16]
  clear h14 h10 h16
  conv => arg 2; whnf
  go_wp2_with (at_builtin; go_loud (refine wpList_append_lies _ rfl _ _ 35 rfl (base) 33 i0 (.int .u64 0) 1 8 Tryz.underlying35 hi hz0 hz1 hz2 rfl (by decide) (.slice a n c) (n) _ rfl (hr.alloc _) ⟨W.heap.size, 0, none⟩ 1 1 [.int .u64 u] rfl rfl (World.news_of_block (cs := #[.int .u64 u]) (t := 33) (fr := (0, 0)) (heap_alloc_new W _)) (by simp [Value.oneCell']) (by omega) (by unfold maxLen; omega) (by omega) (by simp; omega) (W.heap.size + 1) (by simp) ?_); intro g1 cap1 w3 hown3 hgrow3 hfresh3 hlt3)
  all_goals
    refine cut_use (n := 104) (K := K) _ rfl ?_
    exact HK.out _ _ _ (kp_mk (by simp only [kI, List.map_cons, List.map_nil, H10.out, H16.out]; rfl)) rfl hown3 ((((Fr.refl N0 W).alloc _).mono fun _ h => h.elim).trans ((Fr.refl (fun q => (Value.slice a n c).ownBlock = some q) _).grown hgrow3 fun q e => .inl e) fun q hq => .inl (ownsRow_lt HR.out q hq).1)
set_option maxRecDepth 100000 in
set_option maxHeartbeats 4000000 in
theorem roR22 (base n : Nat) (a : Option Addr) (c : Nat) (u : Int) (cells : List Value) (hl : n ≤ 10000000000) (hr : W.ownsRow base 33 1 (.slice a n c) n cells) (hb : base ≤ W.heap.size) (h14 : f 14 = .slice a n c) (h12 : f 12 = .int .u64 u)
    (hK : ∀ f' W' v', Kp (13 :: 15 :: kI) f f' → f' 14 = v' → W'.ownsRow base 33 1 v' (n + 1) (cells ++ [.int .u64 u]) → Fr (fun q => base ≤ q) W W' → K (frA 104 f') W') :
    Code.wp Tryz.prog (srThen (srSnd (lvFst (roX 5)))) (Exit.then K Q) (frA 104 f) W := by
  obtain ⟨i0, hi, hz0, hz1, hz2⟩ := info_parts ins4_info
  have HK := Lib.hid hK; have H14 := Lib.hid h14; have HR := Lib.hid hr
  have H12 := Lib.hid h12
  clear hK
  rw [frA_104]
  rw [h14, h12]
  clear h14 h12
  conv => arg 2; whnf
  go_wp2_with (at_builtin; go_loud (refine wpList_append_lies _ rfl _ _ 35 rfl (base) 33 i0 (.int .u64 0) 1 8 Tryz.underlying35 hi hz0 hz1 hz2 rfl (by decide) (.slice a n c) (n) _ rfl (hr.alloc _) ⟨W.heap.size, 0, none⟩ 1 1 [.int .u64 u] rfl rfl (World.news_of_block (cs := #[.int .u64 u]) (t := 33) (fr := (0, 0)) (heap_alloc_new W _)) (by simp [Value.oneCell']) (by omega) (by unfold maxLen; omega) (by omega) (by simp; omega) (W.heap.size + 1) (by simp) ?_); intro g1 cap1 w3 hown3 hgrow3 hfresh3 hlt3)
  all_goals
    refine cut_use (n := 104) (K := K) _ rfl ?_
    exact HK.out _ _ _ (kp_mk (by simp only [kI, List.map_cons, List.map_nil, H12.out]; rfl)) rfl hown3 ((((Fr.refl N0 W).alloc _).mono fun _ h => h.elim).trans ((Fr.refl (fun q => (Value.slice a n c).ownBlock = some q) _).grown hgrow3 fun q e => .inl e) fun q hq => .inl (ownsRow_lt HR.out q hq).1)
set_option maxRecDepth 100000 in
set_option maxHeartbeats 4000000 in
theorem roR21 (pb : Bool) (h15 : f 15 = .bool pb)
    (hK : ∀ f', Kp (13 :: 14 :: 15 :: kI) f f' → f' 95 = .bool (!pb) →  K (frA 104 f') W) :
    Code.wp Tryz.prog (lvFst (lvFst (roX 5))) (Exit.then K Q) (frA 104 f) W := by
  have HK := Lib.hid hK
  clear hK
  have Hh15 := Lib.hid h15
  rw [frA_104]
  rw [h15]
  clear h15
  conv => arg 2; whnf
  go_wp2_with fail
  refine cut_use (n := 104) (K := K) _ rfl ?_
  exact HK.out _ (kp_mk (by simp only [kO, kI, List.map_cons, List.map_nil, Hh15.out]; rfl)) (by rfl)
set_option maxRecDepth 100000 in
set_option maxHeartbeats 4000000 in
theorem roR23 (mb : Bool) (h13 : f 13 = .bool mb)
    (hK : ∀ f', Kp (13 :: 14 :: 15 :: kI) f f' → f' 101 = .bool (!mb) →  K (frA 104 f') W) :
    Code.wp Tryz.prog (lvFst (roX 6)) (Exit.then K Q) (frA 104 f) W := by
  have HK := Lib.hid hK
  clear hK
  have Hh13 := Lib.hid h13
  rw [frA_104]
  rw [h13]
  clear h13
  conv => arg 2; whnf
  go_wp2_with fail
  refine cut_use (n := 104) (K := K) _ rfl ?_
  exact HK.out _ (kp_mk (by simp only [kO, kI, List.map_cons, List.map_nil, Hh13.out]; rfl)) (by rfl)
set_option maxRecDepth 100000 in
set_option maxHeartbeats 4000000 in
theorem roR24 (v : Value) (h14 : f 14 = v)
    (hK : ∀ f', Kp (11 :: kO) f f' → f' 10 = v →  K (frA 104 f') W) :
    Code.wp Tryz.prog (srThen (srSnd (roX 6))) (Exit.then K Q) (frA 104 f) W := by
  have HK := Lib.hid hK
  clear hK
  have Hh14 := Lib.hid h14
  rw [frA_104]
  rw [h14]
  clear h14
  conv => arg 2; whnf
  go_wp2_with fail
  refine cut_use (n := 104) (K := K) _ rfl ?_
  exact HK.out _ (kp_mk (by simp only [kO, kI, List.map_cons, List.map_nil, Hh14.out]; rfl)) (by rfl)
end
end Go.Proofs.YtefepfiijoafbaaGreat
namespace Go.Proofs.YtefepfiijoafbaaGreat
open Go.RowKit Go.Shelf Go.Maps
set_option linter.unusedVariables false
set_option linter.unusedSimpArgs false

theorem roY1_eq : srSnd (lvFst (roY 1)) = .cond (.tmp 82) (srThen (srSnd (lvFst (roY 1)))) .skip := by kernel_rfl
theorem roX5_eq : lvFst (roX 5) = .seq (lvFst (lvFst (roX 5))) (.cond (.tmp 95) (srThen (srSnd (lvFst (roX 5)))) .skip) := by kernel_rfl
theorem roX6_eq : roX 6 = .seq (lvFst (roX 6)) (.cond (.tmp 101) (srThen (srSnd (roX 6))) .skip) := by kernel_rfl
theorem wp_cond_fr {P : Program} {n i : Nat} {x y : Code} {K : Exit → Act → World → Prop} {f : Nat → Value} {W : World} (b : Bool) (hi : i < n) (h : f i = .bool b) (h1 : b = true → x.wp P K (frA n f) W) (h2 : b = false → y.wp P K (frA n f) W) : (Code.cond (.tmp i) x y).wp P K (frA n f) W :=
  wp_cond_split (t := b) ((frA_get n f i hi undef).trans h) h1 h2
theorem kp_of {l m : List Nat} {f f' : Nat → Value} (h : Kp l f f') (hm : ∀ i ∈ m, i ∈ l) : Kp m f f' := fun i hi => h i (hm i hi)
/-- What is known between the inner loop's rounds. -/
def RoI (K : Int → Int) (W1 : World) (m : Nat) (u : Int) (out : List Int) (f : Nat → Value) (a : Act) (W : World) : Prop :=
  ∃ (f' : Nat → Value) (k : Nat) (s : Bool × List Int) (v : Value), a = frA 104 f' ∧ Kp kI f f' ∧ f' 13 = .bool (decide (u ∈ out.take k)) ∧ f' 14 = v ∧ f' 15 = .bool s.1 ∧ f' 16 = .int .i64 k ∧ k ≤ m ∧ s = (out.take k).foldl (ordStep K u) (false, []) ∧ W.ownsRow W1.heap.size 33 1 v s.2.length (s.2.map (Value.int .u64)) ∧ Fr N0 W1 W
def RoM (m : Nat) (a : Act) (_ : World) : Nat := m - (intOf (a.tmps.getD 16 (.bool false))).toNat
theorem ordStep_len (K : Int → Int) (u : Int) (l : List Int) : (l.foldl (ordStep K u) (false, [])).2.length ≤ l.length + 1 := by
  have h1 := ordStep_ins K u l []
  have hi : ∀ l : List Int, (ordIns K u l).length = l.length + 1 := fun l => by
    induction l with
    | nil => rfl
    | cons y l ih => unfold ordIns; split <;> simp [ih]
  have h2 := congrArg List.length h1
  rw [List.nil_append, hi] at h2
  split at h2
  · rw [List.length_append] at h2; simp at h2; omega
  · omega
theorem row_cell {W : World} {base n c : Nat} {a : Option Addr} {xs : List Int} (h : W.ownsRow base 33 1 (.slice a n c) n (xs.map (Value.int .u64))) (hn : xs.length = n) {k : Nat} (hk : k < n) : ∃ g, a = some ⟨g, 0, none⟩ ∧ W.cell? ⟨g, k, none⟩ = some (.int .u64 (xs[k]'(by omega))) := by
  rcases h.2 with ⟨e, h0⟩ | ⟨g, cap, cur, e, -⟩
  · omega
  · simp only [Value.slice.injEq] at e
    obtain ⟨rfl, -⟩ := e
    refine ⟨g, rfl, ?_⟩
    rw [h.cellAt _ (by omega), List.getElem?_map, List.getElem?_eq_getElem (by omega)]; rfl
theorem foldl_take_succ {β : Type} (F : β → Int → β) (s : β) (out : List Int) {k : Nat} (h : k < out.length) : (out.take (k + 1)).foldl F s = F ((out.take k).foldl F s) out[k] := by
  rw [List.take_succ_eq_append_getElem h, List.foldl_append]; rfl
theorem mem_take_succ {out : List Int} {u : Int} {k : Nat} (h : k < out.length) : decide (u ∈ out.take (k + 1)) = (decide (u ∈ out.take k) || decide (out[k] = u)) := by
  rw [List.take_succ_eq_append_getElem h]
  simp only [List.mem_append, List.mem_singleton]
  by_cases h1 : u ∈ out.take k <;> by_cases h2 : out[k] = u <;> simp [h1, h2]
  all_goals (intro e; exact h2 e.symm)
theorem roInner {K : Act → World → Prop} {Q : Exit → Act → World → Prop} (W1 : World) (f : Nat → Value) (base p m oc : Nat) (oa : Option Addr) (t u : Int) (down : Bool) (H : Int → List Val) (out : List Int)
    (hm : out.length = m) (hml : m ≤ 4000000000) (hr : W1.ownsRow base 33 1 (.slice oa m oc) m (out.map (Value.int .u64))) (hou : (rkOf H u).Ok) (hok : ∀ y ∈ out, (rkOf H y).Ok)
    (hA : ∀ W' x, Fr N0 W1 W' → Calls Tryz.prog 90 #[.pointer (some ⟨p, 0, none⟩), .int .u64 x, .int .u64 t] W' fun e w' => ∃ v, e = .returned v ∧ VRow w' W'.heap.size v (H x) ∧ Fr N0 W' w')
    (h0 : f 0 = .pointer (some ⟨p, 0, none⟩)) (h1 : f 1 = .int .u64 t) (h2 : f 2 = .bool down) (h10 : f 10 = .slice oa m oc) (h12 : f 12 = .int .u64 u) (h13 : f 13 = .bool false) (h14 : f 14 = .slice none 0 0) (h15 : f 15 = .bool false)
    (hK : ∀ f' W' v' (s : Bool × List Int), Kp kI f f' → f' 13 = .bool (decide (u ∈ out)) → f' 14 = v' → f' 15 = .bool s.1 → s = out.foldl (ordStep (nodeKey down H) u) (false, []) → W'.ownsRow W1.heap.size 33 1 v' s.2.length (s.2.map (Value.int .u64)) → Fr N0 W1 W' → K (frA 104 f') W') :
    Code.wp Tryz.prog (lvFst (roX 4)) (Exit.then K Q) (frA 104 f) W1 := by
  rw [roX4_eq]
  refine wp_seq (roR13 W1 f fun f1 k1 e16 => wp_block ?_)
  refine wp_loop (RoI (nodeKey down H) W1 m u out f) (RoM m) ⟨f1, 0, (false, []), .slice none 0 0, rfl, kp_of k1 (by decide), (k1.at 13 (by decide)).trans h13, (k1.at 14 (by decide)).trans h14, (k1.at 15 (by decide)).trans h15, e16, Nat.zero_le _, rfl, World.ownsRow_nil _ _ _ _, Fr.refl _ _⟩ ?_
  rintro a' Wx ⟨f2, k, s, v, rfl, k2, e13, e14, e15, e16, hk, hs, hrow, hfr⟩
  have hmm : RoM m (frA 104 f2) Wx = m - k := by unfold RoM; rw [frA_get _ _ _ (by decide), e16]; simp [intOf]
  rw [hmm, roL2_eq]
  have d10 : f2 10 = .slice oa m oc := (k2.at 10 (by decide)).trans h10
  refine wp_seq (roR14 Wx f2 k m oc oa d10 e16 (fun hlt f3 k3 => ?_) fun hlt f3 k3 => ?_)
  · have hkl : k < out.length := by omega
    obtain ⟨g, rfl, hc1⟩ := row_cell hr hm hlt
    have hgl : g < W1.heap.size := lt_of_cell hc1
    obtain ⟨y, hy⟩ : ∃ y, out[k] = y := ⟨_, rfl⟩
    rw [hy] at hc1
    have hyo := hok y (hy ▸ List.getElem_mem hkl)
    have hcx := hfr.cell id hc1
    have hsl : s.2.length ≤ 10000000000 := by
      have h3 := ordStep_len (nodeKey down H) u (out.take k)
      rw [← hs, List.length_take] at h3; omega
    have hnext : (out.take (k + 1)).foldl (ordStep (nodeKey down H) u) (false, []) = ordStep (nodeKey down H) u s y := by rw [foldl_take_succ _ _ _ hkl, ← hs, hy]
    have hmem : decide (u ∈ out.take (k + 1)) = (decide (u ∈ out.take k) || decide (y = u)) := by rw [mem_take_succ hkl, hy]
    obtain ⟨va, vc, rfl⟩ := row_form hrow
    have hfz := hfr.size
    refine wp_seq (wp_block ?_)
    rw [roY0_eq]
    have q10 : f3 10 = .slice (some ⟨g, 0, none⟩) m oc := (k3.at 10 (by decide)).trans d10
    have q12 : f3 12 = .int .u64 u := (k3.at 12 (by decide)).trans ((k2.at 12 (by decide)).trans h12)
    have q13 := (k3.at 13 (by decide)).trans e13
    have q14 := (k3.at 14 (by decide)).trans e14
    have q15 := (k3.at 15 (by decide)).trans e15
    have q16 := (k3.at 16 (by decide)).trans e16
    refine wp_inBP (wp_seq (roR16 Wx f3 g k m oc y u _ hlt hcx q10 q12 q13 q16 fun f4 k4 e4 => wp_seq ?_))
    rw [← hmem] at e4
    have k24 : Kp kI f f4 := (k2.trans (kp_of k3 (by decide)) fun _ h => h).trans (kp_of k4 (by decide)) fun _ h => h
    -- the last part: what is behind the test
    have fin : ∀ (f6 : Nat → Value) (W6 : World) (s' : Bool × List Int) (v6 : Value), Kp kI f f6 → f6 13 = .bool (decide (u ∈ out.take (k + 1))) → f6 14 = v6 → f6 15 = .bool s'.1 → f6 16 = .int .i64 k → s'.2.length ≤ 10000000000 → (s'.1, s'.2 ++ [y]) = ordStep (nodeKey down H) u s y → W6.ownsRow W1.heap.size 33 1 v6 s'.2.length (s'.2.map (Value.int .u64)) → Fr N0 W1 W6 →
        ∀ QQ, Code.wp Tryz.prog (roY 2) (Exit.then (Code.wp Tryz.prog (srSnd (srSnd roL2)) (Exit.then (fun a' w' => RoI (nodeKey down H) W1 m u out f a' w' ∧ RoM m a' w' < m - k) (Exit.inBlock 2 (Exit.then K Q)))) QQ) (frA 104 f6) W6 := by
      intro f6 W6 s' v6 k6 g13 g14 g15 g16 hl6 hs6 hr6 hf6 QQ
      obtain ⟨va6, vc6, rfl⟩ := row_form hr6
      refine (roR20 W6 f6 W1.heap.size s'.2.length va6 vc6 y _ hl6 hr6 hf6.size g14 g m k oc hlt (hf6.cell id hc1) ((k6.at 10 (by decide)).trans h10) g16 fun f7 W7 v7 k7 e7 hr7 hf7 => ?_)
      refine roR15 W7 f7 k (by omega) ((k7.at 16 (by decide)).trans g16) fun f8 k8 e8 => ⟨⟨f8, k + 1, (s'.1, s'.2 ++ [y]), v7, rfl, (k6.trans (kp_of k7 (by decide)) fun _ h => h).trans (kp_of k8 (by decide)) fun _ h => h, (k8.at 13 (by decide)).trans ((k7.at 13 (by decide)).trans g13), (k8.at 14 (by decide)).trans e7, (k8.at 15 (by decide)).trans ((k7.at 15 (by decide)).trans g15), e8, hlt, hs6.trans hnext.symm, ?_, hf6.trans hf7 fun q hq => .inr hq⟩, ?_⟩
      · simp only [List.length_append, List.length_cons, List.length_nil, List.map_append, List.map_cons, List.map_nil]
        exact hr7
      · unfold RoM
        rw [frA_get _ _ _ (by decide), e8]
        exact Nat.sub_lt_sub_left hlt (Nat.lt_succ_self k)
    have p12 : f4 12 = .int .u64 u := (k4.at 12 (by decide)).trans q12
    have p14 := (k4.at 14 (by decide)).trans q14
    have p15 := (k4.at 15 (by decide)).trans q15
    have p16 := (k4.at 16 (by decide)).trans q16
    rw [roY1_eq]
    cases hput : s.1 with
    | true =>
      rw [hput] at p15
      refine wp_seq (roR17t Wx f4 p15 fun f5 W5 k5 e5 hf5 => wp_cond_fr false (by decide) e5 (fun h => by cases h) fun _ => wp_skip ?_)
      refine fin f5 W5 s _ (k24.trans (kp_of k5 (by decide)) fun _ h => h) ((k5.at 13 (by decide)).trans e4) ((k5.at 14 (by decide)).trans p14) ((k5.at 15 (by decide)).trans (by rw [p15, hput])) ((k5.at 16 (by decide)).trans p16) hsl ?_ (hrow.fr0 hf5) (hfr.then0 hf5) _
      unfold ordStep
      rw [if_neg (by simp [hput])]
    | false =>
      rw [hput] at p15
      have hah := aheadR_key down H u y hou hyo
      refine wp_seq (roR17f Wx f4 p g k m oc y u t down H hlt hcx ((k24.at 0 (by decide)).trans h0) ((k24.at 1 (by decide)).trans h1) ((k24.at 2 (by decide)).trans h2) ((k4.at 10 (by decide)).trans q10) p12 p15 p16 (fun W' x hf => hA W' x (hfr.then0 hf)) fun f5 W5 k5 e5 hf5 => ?_)
      rw [hah] at e5
      have k25 := k24.trans (kp_of k5 (by decide)) fun _ h => h
      have hrow5 := hrow.fr0 hf5
      have hfr5 := hfr.then0 hf5
      refine wp_cond_fr _ (by decide) e5 (fun hb => ?_) fun hb => wp_skip ?_
      · have hlt2 : nodeKey down H u < nodeKey down H y := by simpa using hb
        refine roR18 W5 f5 W1.heap.size s.2.length va vc u _ hsl hrow5 hfr5.size ((k5.at 14 (by decide)).trans p14) ((k5.at 12 (by decide)).trans p12) fun f6 W6 v6 k6 e6 e6' hr6 hf6 => ?_
        refine fin f6 W6 (true, s.2 ++ [u]) v6 (k25.trans (kp_of k6 (by decide)) fun _ h => h) ((k6.at 13 (by decide)).trans ((k5.at 13 (by decide)).trans e4)) e6 e6' ((k6.at 16 (by decide)).trans ((k5.at 16 (by decide)).trans p16)) (by
          have h3 := ordStep_len (nodeKey down H) u (out.take k)
          rw [← hs, List.length_take] at h3
          rw [List.length_append]; simp; omega) ?_ ?_ (hfr5.trans hf6 fun q hq => .inr hq) _
        · unfold ordStep
          rw [if_pos ⟨hput, hlt2⟩]; simp
        · simp only [List.length_append, List.length_cons, List.length_nil, List.map_append, List.map_cons, List.map_nil]
          exact hr6
      · have hlt2 : ¬ nodeKey down H u < nodeKey down H y := by simpa using hb
        refine fin f5 W5 s _ k25 ((k5.at 13 (by decide)).trans e4) ((k5.at 14 (by decide)).trans p14) ((k5.at 15 (by decide)).trans (by rw [p15, hput])) ((k5.at 16 (by decide)).trans p16) hsl ?_ hrow5 hfr5 _
        unfold ordStep
        rw [if_neg (fun h => hlt2 h.2)]
  · obtain rfl : k = m := by omega
    have hfull : out.take k = out := by rw [← hm, List.take_length]
    rw [hfull] at hs e13
    exact hK f3 Wx v s (k2.trans (kp_of k3 (by decide)) fun _ h => h) ((k3.at 13 (by decide)).trans e13) ((k3.at 14 (by decide)).trans e14) ((k3.at 15 (by decide)).trans e15) hs hrow hfr
end Go.Proofs.YtefepfiijoafbaaGreat
namespace Go.Proofs.YtefepfiijoafbaaGreat
open Go.RowKit Go.Shelf Go.Maps
attribute [local go_sem] Oper.semAt_some
attribute [local irreducible] wpQuiet
set_option linter.unusedVariables false
set_option linter.unusedSimpArgs false

/-- What is known between the outer loop's rounds. -/
def RoO (K : Int → Int) (W0 : World) (L : Nat) (us : List Int) (f : Nat → Value) (a : Act) (W : World) : Prop :=
  ∃ (f' : Nat → Value) (i : Nat) (v : Value), a = frA 104 f' ∧ Kp kO f f' ∧ f' 10 = v ∧ f' 11 = .int .i64 i ∧ i ≤ L ∧ W.ownsRow W0.heap.size 33 1 v (ordL K (us.take i)).length ((ordL K (us.take i)).map (Value.int .u64)) ∧ Fr N0 W0 W
def RoOM (L : Nat) (a : Act) (_ : World) : Nat := L - (intOf (a.tmps.getD 11 (.bool false))).toNat
theorem ordL_take_succ (K : Int → Int) (us : List Int) {k : Nat} (h : k < us.length) : ordL K (us.take (k + 1)) = ordTake K (ordL K (us.take k)) us[k] := by
  rw [List.take_succ_eq_append_getElem h, ordL_snoc]
theorem roOuter {K : Act → World → Prop} {Q : Exit → Act → World → Prop} (W0 : World) (f : Nat → Value) (p b : Nat) (v3 : Value) (t : Int) (down : Bool) (H : Int → List Val) (us : List Int)
    (hus : Ints .u64 W0 b v3 us) (hl : us.length ≤ 4000000000) (hok : ∀ u ∈ us, (rkOf H u).Ok)
    (hA : ∀ W' x, Fr N0 W0 W' → Calls Tryz.prog 90 #[.pointer (some ⟨p, 0, none⟩), .int .u64 x, .int .u64 t] W' fun e w' => ∃ v, e = .returned v ∧ VRow w' W'.heap.size v (H x) ∧ Fr N0 W' w')
    (h0 : f 0 = .pointer (some ⟨p, 0, none⟩)) (h1 : f 1 = .int .u64 t) (h2 : f 2 = .bool down) (h3 : f 3 = v3) (h10 : f 10 = .slice none 0 0)
    (hK : ∀ f' W' v', Kp kO f f' → f' 10 = v' → W'.ownsRow W0.heap.size 33 1 v' (ordL (nodeKey down H) us).length ((ordL (nodeKey down H) us).map (Value.int .u64)) → Fr N0 W0 W' → K (frA 104 f') W') :
    Code.wp Tryz.prog (lvFst (roB 4)) (Exit.then K Q) (frA 104 f) W0 := by
  obtain ⟨a3, off, cap, rfl, i1, i2, i3, i4, i5, i6⟩ := hus
  obtain ⟨L, hL⟩ : ∃ L, us.length = L := ⟨_, rfl⟩
  rw [hL] at h3 i1 i3 hl
  obtain ⟨KK, hKK⟩ : ∃ KK, nodeKey down H = KK := ⟨_, rfl⟩
  rw [hKK] at hK
  rw [roB4_eq]
  refine wp_seq (roR6 W0 f fun f1 k1 e11 => wp_block ?_)
  refine wp_loop (RoO KK W0 L us f) (RoOM L) ⟨f1, 0, .slice none 0 0, rfl, kp_of k1 (by decide), (k1.at 10 (by decide)).trans h10, e11, Nat.zero_le _, World.ownsRow_nil _ _ _ _, Fr.refl _ _⟩ ?_
  rintro a' Wx ⟨f2, k, v, rfl, k2, e10, e11, hk, hrow, hfr⟩
  have hmm : RoOM L (frA 104 f2) Wx = L - k := by unfold RoOM; rw [frA_get _ _ _ (by decide), e11]; simp [intOf]
  rw [hmm, roL1_eq]
  have d3 : f2 3 = .slice a3 L cap := (k2.at 3 (by decide)).trans h3
  refine wp_seq (roR7 Wx f2 k L cap a3 d3 e11 (fun hlt f3 k3 => ?_) fun hlt f3 k3 => ?_)
  · have hkl : k < us.length := by omega
    obtain rfl := i3 (by omega)
    have hcx := hfr.cell id (i5 k hkl)
    obtain ⟨u, hu⟩ : ∃ u, us[k] = u := ⟨_, rfl⟩
    rw [hu] at hcx
    have hmu : u ∈ us := hu ▸ List.getElem_mem hkl
    obtain ⟨out, hout⟩ : ∃ out, ordL KK (us.take k) = out := ⟨_, rfl⟩
    have hnext : ordL KK (us.take (k + 1)) = ordTake KK out u := by rw [ordL_take_succ KK us hkl, hout, hu]
    rw [hout] at hrow
    have hol : out.length ≤ k := by
      have h := ordL_len KK (us.take k)
      rw [hout, List.length_take] at h; omega
    have hoo : ∀ y ∈ out, (rkOf H y).Ok := fun y hy => by
      have := ((ordL_law (K := KK) (us.take k) fun x hx z hz e => by
        rw [← hKK] at e
        exact nodeKey_inj (hok x (List.mem_of_mem_take hx)) (hok z (List.mem_of_mem_take hz)) e).2 y).1 (hout ▸ hy)
      exact hok y (List.mem_of_mem_take this)
    obtain ⟨oa, oc, rfl⟩ := row_form hrow
    obtain ⟨m, hm⟩ : ∃ m, out.length = m := ⟨_, rfl⟩
    rw [hm] at hrow e10 hol
    have hfz := hfr.size
    refine wp_seq (wp_block ?_)
    rw [roX0_eq]
    refine wp_inBP (wp_seq (roR9 Wx f3 b off k L cap u hlt hcx ((k3.at 3 (by decide)).trans d3) ((k3.at 11 (by decide)).trans e11) fun f4 k4 e4 => ?_))
    refine wp_seq (roR10 Wx f4 fun f5 k5 e5 => ?_)
    refine wp_seq (roR11 Wx f5 fun f6 k6 e6 => ?_)
    refine wp_seq (roR12 Wx f6 fun f7 k7 e7 => ?_)
    have k24 : Kp kO f f4 := (k2.trans (kp_of k3 (by decide)) fun _ h => h).trans (kp_of k4 (by decide)) fun _ h => h
    have k47 : Kp kI f4 f7 := ((kp_of k5 (by decide) : Kp kI f4 f5).trans (kp_of k6 (by decide)) fun _ h => h).trans (kp_of k7 (by decide)) fun _ h => h
    have k27 : Kp kO f f7 := k24.trans (kp_of k47 (by decide)) fun _ h => h
    have g10 : f4 10 = .slice oa m oc := (k4.at 10 (by decide)).trans ((k3.at 10 (by decide)).trans e10)
    have g11 : f4 11 = .int .i64 k := (k4.at 11 (by decide)).trans ((k3.at 11 (by decide)).trans e11)
    refine wp_seq (roInner Wx f7 W0.heap.size p m oc oa t u down H out hm (by omega) hrow (hok u hmu) hoo (fun W' x hf => hA W' x (hfr.then0 hf)) ((k27.at 0 (by decide)).trans h0) ((k27.at 1 (by decide)).trans h1) ((k27.at 2 (by decide)).trans h2) ((k47.at 10 (by decide)).trans g10) ((k47.at 12 (by decide)).trans e4)
      ((k7.at 13 (by decide)).trans ((k6.at 13 (by decide)).trans e5)) ((k7.at 14 (by decide)).trans e6) e7 fun f8 W8 v8 s k8 e13 e14 e15 hs hr8 hf8 => ?_)
    rw [hKK] at hs
    have hins : (if s.1 = false then s.2 ++ [u] else s.2) = ordIns KK u out := by have := ordStep_ins KK u out []; rw [← hs] at this; simpa using this
    have hsl : s.2.length ≤ 10000000000 := by have h3 := ordStep_len KK u out; rw [← hs] at h3; omega
    have k48 : Kp kI f4 f8 := k47.trans k8 fun _ h => h
    -- the end of a round
    have fin : ∀ (f9 : Nat → Value) (W9 : World) (v9 : Value), Kp kI f4 f9 → f9 13 = .bool (decide (u ∈ out)) → f9 14 = v9 → W9.ownsRow Wx.heap.size 33 1 v9 (ordIns KK u out).length ((ordIns KK u out).map (Value.int .u64)) → Fr N0 Wx W9 →
        ∀ QQ, Code.wp Tryz.prog (roX 6) (Exit.then (Code.wp Tryz.prog (srSnd (srSnd roL1)) (Exit.then (fun a' w' => RoO KK W0 L us f a' w' ∧ RoOM L a' w' < L - k) (Exit.inBlock 0 (Exit.then K Q)))) QQ) (frA 104 f9) W9 := by
      intro f9 W9 v9 k9 g13 g14 hr9 hf9 QQ
      rw [roX6_eq]
      refine wp_seq (roR23 W9 f9 _ g13 fun fa ka ea => ?_)
      have k4a : Kp kI f4 fa := k9.trans (kp_of ka (by decide)) fun _ h => h
      refine wp_cond_fr _ (by decide) ea (fun hb => ?_) fun hb => wp_skip ?_
      · have hnu : u ∉ out := by simpa using hb
        refine roR24 W9 fa v9 ((ka.at 14 (by decide)).trans g14) fun fb kb eb => ?_
        refine roR8 W9 fb k (by omega) ((kb.at 11 (by decide)).trans ((k4a.at 11 (by decide)).trans g11)) fun fc kc ec => ⟨⟨fc, k + 1, v9, rfl, (k24.trans (kp_of k4a (by decide) : Kp kO f4 fa) fun _ h => h).trans ((kp_of kb (by decide) : Kp kO fa fb).trans (kp_of kc (by decide)) fun _ h => h) fun _ h => h, (kc.at 10 (by decide)).trans eb, ec, hlt, ?_, hfr.then0 hf9⟩, ?_⟩
        · rw [hnext]; unfold ordTake; rw [if_neg hnu]
          exact ownsRow_base hr9 hfz
        · unfold RoOM
          rw [frA_get _ _ _ (by decide), ec]
          exact Nat.sub_lt_sub_left hlt (Nat.lt_succ_self k)
      · have hnu : u ∈ out := by simpa using hb
        refine roR8 W9 fa k (by omega) ((k4a.at 11 (by decide)).trans g11) fun fc kc ec => ⟨⟨fc, k + 1, .slice oa m oc, rfl, (k24.trans (kp_of k4a (by decide) : Kp kO f4 fa) fun _ h => h).trans (kp_of kc (by decide)) fun _ h => h, (kc.at 10 (by decide)).trans ((k4a.at 10 (by decide)).trans g10), ec, hlt, ?_, hfr.then0 hf9⟩, ?_⟩
        · rw [hnext]; unfold ordTake; rw [if_pos hnu, hm]
          exact hrow.fr0 hf9
        · unfold RoOM
          rw [frA_get _ _ _ (by decide), ec]
          exact Nat.sub_lt_sub_left hlt (Nat.lt_succ_self k)
    rw [roX5_eq]
    refine wp_seq (wp_seq (roR21 W8 f8 _ e15 fun f9 k9 e9 => ?_))
    have k49 : Kp kI f4 f9 := k48.trans (kp_of k9 (by decide)) fun _ h => h
    obtain ⟨va, vc, rfl⟩ := row_form hr8
    refine wp_cond_fr _ (by decide) e9 (fun hb => ?_) fun hb => wp_skip ?_
    · have hput : s.1 = false := by simpa using hb
      rw [if_pos hput] at hins
      refine roR22 W8 f9 Wx.heap.size s.2.length va vc u _ hsl hr8 hf8.size ((k9.at 14 (by decide)).trans e14) ((k49.at 12 (by decide)).trans e4) fun fa Wa va' ka ea hra hfa => ?_
      refine fin fa Wa va' (k49.trans (kp_of ka (by decide)) fun _ h => h) ((ka.at 13 (by decide)).trans ((k9.at 13 (by decide)).trans e13)) ea ?_ (hf8.trans hfa fun q hq => .inr hq) _
      rw [← hins]
      simp only [List.length_append, List.length_cons, List.length_nil, List.map_append, List.map_cons, List.map_nil]
      exact hra
    · have hput : s.1 = true := by simpa using hb
      rw [if_neg (by simp [hput])] at hins
      refine fin f9 W8 _ k49 ((k9.at 13 (by decide)).trans e13) ((k9.at 14 (by decide)).trans e14) ?_ hf8 _
      rw [← hins]; exact hr8
  · obtain rfl : k = L := by omega
    have hfull : us.take k = us := by rw [← hL, List.take_length]
    rw [hfull] at hrow
    exact hK f3 Wx v (k2.trans (kp_of k3 (by decide)) fun _ h => h) ((k3.at 10 (by decide)).trans e10) hrow hfr
set_option maxRecDepth 100000 in
set_option maxHeartbeats 4000000 in
theorem roR1 {K : Act → World → Prop} {Q : Exit → Act → World → Prop} (W : World) (f : Nat → Value) (p : Nat) (h0 : f 0 = .pointer (some ⟨p, 0, none⟩)) (c5 : W.cell? ⟨p, 5, none⟩ = some (.bool true)) (c2 : W.cell? ⟨p, 2, none⟩ = some (.bool false))
    (hK : ∀ f', Kp kO f f' → K (frA 104 f') W) : Code.wp Tryz.prog (lvFst (roB 1)) (Exit.then K Q) (frA 104 f) W := by
  have HK := Lib.hid hK; have H0 := Lib.hid h0
  clear hK
  rw [frA_104]
  rw [h0]
  clear h0
  conv => arg 2; whnf
  go_wp2_with fail
  refine cut_use (n := 104) (K := K) _ rfl ?_
  exact HK.out _ (kp_mk (by simp only [kO, List.map_cons, List.map_nil, H0.out]; rfl))
set_option maxRecDepth 100000 in
set_option maxHeartbeats 4000000 in
theorem roR3 {K : Act → World → Prop} {Q : Exit → Act → World → Prop} (W : World) (f : Nat → Value) (p : Nat) (t mk : Int) (h0 : f 0 = .pointer (some ⟨p, 0, none⟩)) (h1 : f 1 = .int .u64 t) (c8 : W.cell? ⟨p, 8, none⟩ = some (.int .u64 mk)) (ht : ¬ t < mk)
    (hK : ∀ f', Kp kO f f' → K (frA 104 f') W) : Code.wp Tryz.prog (lvFst (roB 2)) (Exit.then K Q) (frA 104 f) W := by
  have HK := Lib.hid hK; have H0 := Lib.hid h0; have H1 := Lib.hid h1
  clear hK
  rw [frA_104]
  rw [h0, h1]
  clear h0 h1
  conv => arg 2; whnf
  go_wp2_with fail
  refine cut_use (n := 104) (K := K) _ rfl ?_
  exact HK.out _ (kp_mk (by simp only [kO, List.map_cons, List.map_nil, H0.out, H1.out]; rfl))
set_option maxRecDepth 100000 in
set_option maxHeartbeats 4000000 in
theorem roEnd (W : World) (f : Nat → Value) (v : Value) (Pst : Ending → World → Prop) (h10 : f 10 = v) (h : Pst (.returned (.tuple #[v, .int .i64 0])) W) : Code.wp Tryz.prog (roB 5) (bodyPost Tryz.prog Tryz.f28 Pst) (frA 104 f) W := by
  have HP := Lib.hid h
  clear h
  rw [frA_104]
  rw [h10]
  clear h10
  conv => arg 2; whnf
  go_wp2_with fail
  exact HP.out
theorem r19Order_body : Tryz.f28.body = some (roB 0) := by kernel_rfl
/-- What Order tells. -/
def OrdRow (W : World) (xs : List Int) (E : Int) (e : Ending) (w' : World) : Prop := ∃ v, e = .returned (.tuple #[v, .int .i64 E]) ∧ w'.ownsRow W.heap.size 33 1 v xs.length (xs.map (Value.int .u64)) ∧ Fr N0 W w'
section
variable (W : World) (p : Nat) (l : PL) (a : Option Addr) (bc off cap N : Nat) (h : XRead W p l a bc off cap) (hl : l.AtOk N) (hN : N ≤ 900000000) (hrs : RisesBy Cm.time l.commits) (t : Int) (down : Bool) (b : Nat) (v : Value) (us : List Int)
include h
set_option maxRecDepth 100000 in
set_option maxHeartbeats 4000000 in
theorem r19Order_no (hno : ordR l.s.order l.s.list (decide (t < l.marked)) ≠ 0) :
    Calls Tryz.prog 28 #[.pointer (some ⟨p, 0, none⟩), .int .u64 t, .bool down, v] W (OrdRow W [] (ordR l.s.order l.s.list (decide (t < l.marked)))) := by
  have c5 := h.order; have c2 := h.list; have c8 := h.marked
  obtain ⟨o, ho⟩ : ∃ o, l.s.order = o := ⟨_, rfl⟩
  obtain ⟨li, hli⟩ : ∃ li, l.s.list = li := ⟨_, rfl⟩
  obtain ⟨mk, hmk⟩ : ∃ mk, l.marked = mk := ⟨_, rfl⟩
  rw [ho] at c5 hno ⊢
  rw [hli] at c2 hno ⊢
  rw [hmk] at c8 hno ⊢
  obtain ⟨E, hE⟩ : ∃ E, ordR o li (decide (t < mk)) = E := ⟨_, rfl⟩
  rw [hE] at hno ⊢
  have HE := Lib.hid hE; have HNO := Lib.hid hno
  have hp : ∀ E', E = E' → OrdRow W [] E (.returned (.tuple #[.slice none 0 0, .int .i64 E'])) W := fun E' e => by subst e; exact ⟨_, rfl, World.ownsRow_nil _ _ _ _, Fr.refl _ _⟩
  have HP := Lib.hid hp
  obtain ⟨Pst, hPst⟩ : ∃ Pst, OrdRow W [] E = Pst := ⟨_, rfl⟩
  rw [hPst] at HP ⊢
  clear hPst hp hE hno h ho hli hmk
  by_cases hb : (!o || li) = true
  · have e : E = 191 := by rw [← HE.out]; revert hb; cases o <;> cases li <;> simp [ordR]
    cases o <;> cases li
    any_goals (exfalso; simp at hb; done)
    all_goals
      go_enter Tryz.func28, Tryz.ntmps28
      go_wp2_with fail
      exact HP.out _ e
  · obtain ⟨rfl, rfl⟩ : o = true ∧ li = false := by revert hb; cases o <;> cases li <;> simp
    by_cases hm : t < mk
    · have e : E = 181 := by rw [← HE.out]; simp [ordR, hm]
      go_enter Tryz.func28, Tryz.ntmps28
      go_wp2_with fail
      exact HP.out _ e
    · exact absurd (by rw [← HE.out]; simp [ordR, hm]) HNO.out
include hl hN hrs
set_option maxRecDepth 100000 in
theorem r19Order_any (hus : Ints .u64 W b v us) (hlu : us.length ≤ 4000000000) (hok : ∀ u ∈ us, (rkOf (haveAt l t) u).Ok) (hso : l.s.order = true) (hsl : l.s.list = false) (ht : ¬ t < l.marked) :
    Calls Tryz.prog 28 #[.pointer (some ⟨p, 0, none⟩), .int .u64 t, .bool down, v] W (OrdRow W (ordL (nodeKey down (haveAt l t)) us) 0) := by
  have hva := fun W' (x : Int) (hf : Fr N0 W W') => xValues_any W' p l a bc off cap N (h.fr hf) hl hN hrs x t
  refine calls_of_wp Tryz.func28 r19Order_body ?_
  simp only [Tryz.ntmps28, List.size_toArray, List.length_cons, List.length_nil, Nat.reduceAdd, Nat.reduceSub, Array.replicate_succ, Array.replicate_zero, List.push_toArray, List.append_toArray, List.nil_append, List.cons_append]
  refine wp_frA (n := 104) _ rfl ?_
  refine (show ∀ f0 : Nat → Value, f0 0 = .pointer (some ⟨p, 0, none⟩) → f0 1 = .int .u64 t → f0 2 = .bool down → f0 3 = v → Code.wp Tryz.prog (roB 0) _ (frA 104 f0) W from fun f0 a0 a1 a2 a3 => ?_) _ rfl rfl rfl rfl
  rw [roB0_eq]
  refine wp_seq (roR0 W f0 fun f1 k1 _ _ => ?_)
  have c5 := h.order; have c2 := h.list; have c8 := h.marked
  rw [hso] at c5
  rw [hsl] at c2
  refine wp_seq (roR1 W f1 p ((k1.at 0 (by decide)).trans a0) c5 c2 fun f2 k2 => ?_)
  have k02 : Kp [0, 1, 2, 3] f0 f2 := k1.trans (kp_of k2 (by decide)) fun _ h => h
  refine wp_seq (roR3 W f2 p t l.marked ((k02.at 0 (by decide)).trans a0) ((k02.at 1 (by decide)).trans a1) c8 ht fun f3 k3 => ?_)
  refine wp_seq (roR5 W f3 fun f4 k4 e10 => ?_)
  have k04 : Kp [0, 1, 2, 3] f0 f4 := k02.trans ((kp_of k3 (by decide) : Kp [0, 1, 2, 3] f2 f3).trans (kp_of k4 (by decide)) fun _ h => h) fun _ h => h
  refine wp_seq (roOuter W f4 p b v t down (haveAt l t) us hus hlu hok hva ((k04.at 0 (by decide)).trans a0) ((k04.at 1 (by decide)).trans a1) ((k04.at 2 (by decide)).trans a2) ((k04.at 3 (by decide)).trans a3) e10 fun f5 W5 v5 k5 e5 hr5 hf5 => ?_)
  exact roEnd W5 f5 v5 _ e5 ⟨v5, rfl, hr5, hf5⟩
end
end Go.Proofs.YtefepfiijoafbaaGreat
