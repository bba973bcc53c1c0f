/- A region that draws its order and only reads, in the body of a range over a function. IndexParts: a round over the edges. IndexParts: the range over the edges. -/
import Derived.BigQuiet
import Derived.Test.YtefepfiijoafbaaGreatQRangeA
import Derived.Test.YtefepfiijoafbaaGreatQPtH
import Derived.Test.YtefepfiijoafbaaGreatQIEdges
import Derived.Test.YtefepfiijoafbaaGreatQIAt2
namespace Go.Proofs.YtefepfiijoafbaaGreat
open Go.RowKit Go.Shelf
set_option linter.unusedVariables false
set_option linter.unusedSimpArgs false

theorem wpIn_region_quiet_round {l n id : Nat} {P : Program} {Q : Exit → Act → World → Prop} {a : Act} {w : World} {os : List Oper} (hm : P.follows .mixedOrders = true) (hQ : ¬ LetsOut Q) (hd : noDefer os.toArray = true) (hB : Region.lexB .any os.toArray = true)
    (h : wpQuiet P os.toArray (fun w' => ∃ n, w' = w.drewN n) (fun a' => ∀ w', (∃ n, w' = w.drewN n) → Q .normal a' w') os a) : (Code.region id os.toArray true).wpIn (Fence.wide.inRound l) n P Q a w := by
  simp only [Region.lexB, Bool.and_eq_true] at hB
  have h1 := wpAnyQ_lex (C := fun w' => ∃ n, w' = w.drewN n) (md := .any) hB.1 os 0 (Array.replicate os.toArray.size false) a (by simp) (by simpa using hB.2) h
  refine wpIn_region_any hm (wpAnyIn_of_wpAny hQ hd _ _ _ _ (wpAny_of_quiet (C := fun w' => ∃ n, w' = w.drewN n) (Q := fun a' => ∀ w', (∃ n, w' = w.drewN n) → Q .normal a' w') (fun _ w' hw' h => h w' hw') _ _ _ _ ⟨1, rfl⟩ ?_))
  simpa using h1
end Go.Proofs.YtefepfiijoafbaaGreat
namespace Go.Proofs.YtefepfiijoafbaaGreat
open Go.RowKit Go.Shelf Go.Maps
attribute [local go_sem] Oper.semAt_some
attribute [local irreducible] wpQuiet
set_option linter.unusedVariables false
set_option linter.unusedSimpArgs false

noncomputable def ptRng : Code := lxIn (lxSnd (lvFst (ptB 15)))
def lxBody : Code → Code
  | .rangeFunc _ _ _ b => b
  | c => c
noncomputable def ptRound : Code := lxBody ptRng
/-- What is known between rounds: the boxes. -/
def PtR (BR B5 B11 p2 : Nat) (t : Int) (S : Nat → Prop) (pre : List (Int × Val)) (W : World) : Prop :=
  (S BR ∧ S B5 ∧ S B11) ∧ W.heap[BR]? = some (.cells #[.bool false] 4 (0, 0)) ∧ W.heap[B5]? = some (.cells #[.int .u64 t] 33 (0, 0)) ∧ W.heap[B11]? = some (.cells #[vP p2] 51 (0, 0))
theorem ptR_stable (BR B5 B11 p2 : Nat) (t : Int) : Stable (PtR BR B5 B11 p2 t) := fun S pre A B ⟨⟨s1, s2, s3⟩, h1, h2, h3⟩ hs =>
  ⟨⟨s1, s2, s3⟩, (hs.block BR s1 (lt_of_block h1)).trans h1, (hs.block B5 s2 (lt_of_block h2)).trans h2, (hs.block B11 s3 (lt_of_block h3)).trans h3⟩
/-- What Edges answers of the two ends. -/
def EdgP (W : World) (p2 : Nat) (t : Int) (back : Bool) (u : Int) (xs : List Int) : Prop := ∀ W', Fr N0 W W' → Calls Tryz.prog 35 #[vP p2, .int .u64 t, .bool back, .int .u64 u] W' fun e w' => ∃ v b, e = .returned (.tuple #[v, .int .i64 0]) ∧ Ints .u64 w' b v xs ∧ Fr N0 W' w'

theorem take_any_succ {xs : List Int} {k : Nat} {y : Int} (h : k < xs.length) : (xs.take (k + 1)).any (fun z => z == y) = ((xs.take k).any (fun z => z == y) || xs[k] == y) := by
  rw [List.take_succ_eq_append_getElem h, List.any_append]; simp
set_option maxRecDepth 100000 in
set_option maxHeartbeats 8000000 in
theorem pt_round (l : Nat) (BR B5 B11 B p2 : Nat) (t : Int) (q : ByteArray) (S : Nat → Prop) (pre : List (Int × Val)) (x : Int × Val) (W : World) (f : Nat → Value) (hI : PtR BR B5 B11 p2 t S pre W) (hSW : ∀ k, S k → k < W.heap.size) (hB : W.heap[B]? = some (.cells #[.int .u64 x.1, .string q, .int .u8 x.2.k, .bool x.2.b, .int .i64 x.2.n, .string x.2.s, .int .u64 x.2.u] 59 (0, 0)))
    (xs1 xs2 : List Int) (h1 : x.2.u ∈ xs1) (h2 : x.1 ∈ xs2) (hE1 : EdgP W p2 t false x.1 xs1) (hE2 : EdgP W p2 t true x.2.u xs2)
    (h5 : f 5 = vP B5) (h8 : f 8 = vP BR) (h11 : f 11 = vP B11) (h23 : f 23 = vP B) :
    ptRound.wpIn (Fence.wide.inRound l) 7 Tryz.prog (fpPost (PtR BR B5 B11 p2 t) (fun _ _ _ _ => False) S (pre ++ [x]) W) (frA 226 f) W := by
  obtain ⟨⟨s1, s2, s3⟩, b1, b2, b3⟩ := hI
  obtain ⟨xu, vk, vb, vn, vs, vu⟩ := x
  simp only at hB h1 h2 hE1 hE2
  have hfin : ∀ W', Fr N0 W W' → ∀ a, fpPost (PtR BR B5 B11 p2 t) (fun _ _ _ _ => False) S (pre ++ [(xu, ⟨vk, vb, vn, vs, vu⟩)]) W .normal a W' := fun W' hf a =>
    ⟨S, ⟨⟨s1, s2, s3⟩, (hf.at id (lt_of_block b1)).trans b1, (hf.at id (lt_of_block b2)).trans b2, (hf.at id (lt_of_block b3)).trans b3⟩, hf.mono fun _ h => h.elim, Grows.refl fun k hk => Nat.lt_of_lt_of_le (hSW k hk) hf.size⟩
  obtain ⟨n1, hn1⟩ : ∃ n, xs1.length = n := ⟨_, rfl⟩
  obtain ⟨n2, hn2⟩ : ∃ n, xs2.length = n := ⟨_, rfl⟩
  have t1 : (xs1.any fun z => z == vu) = true := List.any_eq_true.2 ⟨vu, h1, by simp⟩
  have t2 : (xs2.any fun z => z == xu) = true := List.any_eq_true.2 ⟨xu, h2, by simp⟩
  have HFIN := Lib.hid hfin; have HE1 := Lib.hid hE1; have HE2 := Lib.hid hE2; have HB := Lib.hid hB
  have T1 := Lib.hid t1; have T2 := Lib.hid t2; have HN1 := Lib.hid hn1; have HN2 := Lib.hid hn2
  have c5 := cell_of_one b2; have c11 := cell_of_one b3
  obtain ⟨mB, nB, lB⟩ := box_cells hB
  have c0 := mB 0; have c6 := mB 6
  simp at c0 c6
  have C5 := Lib.hid c5; have C11 := Lib.hid c11; have C0 := Lib.hid c0; have C6 := Lib.hid c6
  clear hfin hE1 hE2 hB t1 t2 hn1 hn2 b1 b2 b3 s1 s2 s3 hSW h1 h2 mB nB
  show Code.wpIn _ _ _ _ _ { tmps := #[f 0, f 1, f 2, f 3, f 4, f 5, f 6, f 7, f 8, f 9, f 10, f 11, f 12, f 13, f 14, f 15, f 16, f 17, f 18, f 19, f 20, f 21, f 22, f 23, f 24, f 25, f 26, f 27, f 28, f 29, f 30, f 31, f 32, f 33, f 34, f 35, f 36, f 37, f 38, f 39, f 40, f 41, f 42, f 43, f 44, f 45, f 46, f 47, f 48, f 49, f 50, f 51, f 52, f 53, f 54, f 55, f 56, f 57, f 58, f 59, f 60, f 61, f 62, f 63, f 64, f 65, f 66, f 67, f 68, f 69, f 70, f 71, f 72, f 73, f 74, f 75, f 76, f 77, f 78, f 79, f 80, f 81, f 82, f 83, f 84, f 85, f 86, f 87, f 88, f 89, f 90, f 91, f 92, f 93, f 94, f 95, f 96, f 97, f 98, f 99, f 100, f 101, f 102, f 103, f 104, f 105, f 106, f 107, f 108, f 109, f 110, f 111, f 112, f 113, f 114, f 115, f 116, f 117, f 118, f 119, f 120, f 121, f 122, f 123, f 124, f 125, f 126, f 127, f 128, f 129, f 130, f 131, f 132, f 133, f 134, f 135, f 136, f 137, f 138, f 139, f 140, f 141, f 142, f 143, f 144, f 145, f 146, f 147, f 148, f 149, f 150, f 151, f 152, f 153, f 154, f 155, f 156, f 157, f 158, f 159, f 160, f 161, f 162, f 163, f 164, f 165, f 166, f 167, f 168, f 169, f 170, f 171, f 172, f 173, f 174, f 175, f 176, f 177, f 178, f 179, f 180, f 181, f 182, f 183, f 184, f 185, f 186, f 187, f 188, f 189, f 190, f 191, f 192, f 193, f 194, f 195, f 196, f 197, f 198, f 199, f 200, f 201, f 202, f 203, f 204, f 205, f 206, f 207, f 208, f 209, f 210, f 211, f 212, f 213, f 214, f 215, f 216, f 217, f 218, f 219, f 220, f 221, f 222, f 223, f 224, f 225], defers := [] } _
  rw [h5, h8, h11, h23]
  clear h5 h8 h11 h23
  conv => arg 4; whnf
  gi_wp2_with fail
  refine ⟨trivial, ?_⟩
  refine (CallsIn.inRound l (callsIn_wide.2 (HE1.out _ (Fr.refl _ _)))).mono ?_
  rintro e w1 ⟨v1, g1, rfl, ⟨a1, o1, k1, rfl, q1, q2, q3, -, q5, -⟩, hf1⟩
  have d5 := hf1.cell id C5.out; have d11 := hf1.cell id C11.out; have d0 := hf1.cell id C0.out; have d6 := hf1.cell id C6.out
  have HF1 := Lib.hid hf1; have Q5 := Lib.hid q5
  rw [HN1.out] at q1 q3
  simp only [HN1.out]
  clear hf1 q5 c5 c11 c0 c6
  gi_wp2_with fail
  refine ⟨trivial, ?_⟩
  refine (CallsIn.inRound l (callsIn_wide.2 (HE2.out _ HF1.out))).mono ?_
  rintro e w2 ⟨v2, g2, rfl, ⟨a2, o2, k2, rfl, p1, p2', p3, -, p5, -⟩, hf2⟩
  have Q5' : Hid (∀ (i : Nat) (h : i < xs1.length) (wr : World), Fr N0 W wr → Fr N0 w2 wr → wr.cell? ⟨g1, o1 + i, none⟩ = some (.int .u64 xs1[i])) := Lib.hid fun i h wr _ hx => hx.cell id (hf2.cell id (Q5.out i h))
  have P5' : Hid (∀ (i : Nat) (h : i < xs2.length) (wr : World), Fr N0 W wr → Fr N0 w2 wr → wr.cell? ⟨g2, o2 + i, none⟩ = some (.int .u64 xs2[i])) := Lib.hid fun i h wr _ hx => hx.cell id (p5 i h)
  have HF2 := Lib.hid (HF1.out.then0 hf2)
  rw [HN2.out] at p1 p3
  simp only [HN2.out]
  clear hf2 p5 d5 d11 d0 d6 Q5 HE1 HE2 HB
  gi_wp2_with fail
  gi_loopw [28, 30] (fun tv iv wr => ∃ k : Nat, k ≤ n1 ∧ iv = .int .i64 k ∧ tv = .bool ((xs1.take k).any fun z => z == vu) ∧ Hid (Fr N0 W wr) ∧ Hid (Fr N0 w2 wr)) (fun _ iv _ => n1 - (intOf iv).toNat)
  case atStart => exact ⟨0, Nat.zero_le _, rfl, by simp, HF2, Fr.refl _ _⟩
  case round =>
    obtain ⟨k, hk, rfl, rfl, hfr, hfr2⟩ := hrel
    by_cases hlt : k < n1
    · have hkl : k < xs1.length := by rw [HN1.out]; exact hlt
      obtain rfl := q3 (by omega)
      have ce := Q5'.out k hkl wr hfr.out hfr2.out
      have cy := hfr.out.cell id C6.out
      have hsuc := take_any_succ (y := vu) hkl
      have hki : (k : Int) < (n1 : Int) := by omega
      obtain ⟨z, hz⟩ : ∃ z, xs1[k] = z := ⟨_, rfl⟩
      obtain ⟨b, hb⟩ : ∃ b, ((xs1.take k).any fun z => z == vu) = b := ⟨_, rfl⟩
      rw [hz] at ce hsuc
      rw [hb] at hsuc ⊢
      have HSUC := Lib.hid hsuc; have HFR := Lib.hid hfr.out; have HFR2 := Lib.hid hfr2.out
      clear hsuc hz hb hfr hfr2
      cases b with
      | true =>
        gi_wp2_with fail
        refine wpIn_region_quiet_round (by kernel_rfl) (fun ⟨_, _, h⟩ => h) (by kernel_rfl) (by kernel_rfl) ?_
        repeat (go_big_quiet_step (fail))
        refine wpQuiet_nil ?_
        intro _ hw'
        obtain ⟨nq, hw''⟩ := hw'
        subst hw''
        gi_wp2
        go_roundw
        case rel => exact ⟨k + 1, by omega, by go_num, by rw [HSUC.out]; rfl, HFR.out.drewN _, HFR2.out.drewN _⟩
        case measure => simp [intOf]; omega
      | false =>
        gi_wp2_with fail
        refine wpIn_region_quiet_round (by kernel_rfl) (fun ⟨_, _, h⟩ => h) (by kernel_rfl) (by kernel_rfl) ?_
        repeat (go_big_quiet_step (fail))
        refine wpQuiet_nil ?_
        intro _ hw'
        obtain ⟨nq, hw''⟩ := hw'
        subst hw''
        gi_wp2
        go_roundw
        case rel => exact ⟨k + 1, by omega, by go_num, by rw [HSUC.out]; rfl, HFR.out.drewN _, HFR2.out.drewN _⟩
        case measure => simp [intOf]; omega
    · obtain rfl : k = n1 := by omega
      have hfull : (xs1.take k).any (fun z => z == vu) = true := by rw [← HN1.out, List.take_length]; exact T1.out
      have hki : ¬ (k : Int) < (k : Int) := by omega
      have HF3 := Lib.hid hfr.out; have HF32 := Lib.hid hfr2.out
      rw [hfull]
      clear hfr hfr2 hfull
      gi_wp2_with fail
      gi_loopw [29, 31] (fun tv iv wr => ∃ k : Nat, k ≤ n2 ∧ iv = .int .i64 k ∧ tv = .bool ((xs2.take k).any fun z => z == xu) ∧ Hid (Fr N0 W wr) ∧ Hid (Fr N0 w2 wr)) (fun _ iv _ => n2 - (intOf iv).toNat)
      case atStart => exact ⟨0, Nat.zero_le _, rfl, by simp, HF3, HF32⟩
      case round =>
        obtain ⟨k, hk, rfl, rfl, hfr, hfr2⟩ := hrel
        by_cases hlt : k < n2
        · have hkl : k < xs2.length := by rw [HN2.out]; exact hlt
          obtain rfl := p3 (by omega)
          have ce := P5'.out k hkl wr hfr.out hfr2.out
          have cy := hfr.out.cell id C0.out
          have hsuc := take_any_succ (y := xu) hkl
          have hki : (k : Int) < (n2 : Int) := by omega
          obtain ⟨z, hz⟩ : ∃ z, xs2[k] = z := ⟨_, rfl⟩
          obtain ⟨b, hb⟩ : ∃ b, ((xs2.take k).any fun z => z == xu) = b := ⟨_, rfl⟩
          rw [hz] at ce hsuc
          rw [hb] at hsuc ⊢
          have HSUC := Lib.hid hsuc; have HFR := Lib.hid hfr.out; have HFR2 := Lib.hid hfr2.out
          clear hsuc hz hb hfr hfr2
          cases b with
          | true =>
            gi_wp2_with fail
            refine wpIn_region_quiet_round (by kernel_rfl) (fun ⟨_, _, h⟩ => h) (by kernel_rfl) (by kernel_rfl) ?_
            repeat (go_big_quiet_step (fail))
            refine wpQuiet_nil ?_
            intro _ hw'
            obtain ⟨nq, hw''⟩ := hw'
            subst hw''
            gi_wp2
            go_roundw
            case rel => exact ⟨k + 1, by omega, by go_num, by rw [HSUC.out]; rfl, HFR.out.drewN _, HFR2.out.drewN _⟩
            case measure => simp [intOf]; omega
          | false =>
            gi_wp2_with fail
            refine wpIn_region_quiet_round (by kernel_rfl) (fun ⟨_, _, h⟩ => h) (by kernel_rfl) (by kernel_rfl) ?_
            repeat (go_big_quiet_step (fail))
            refine wpQuiet_nil ?_
            intro _ hw'
            obtain ⟨nq, hw''⟩ := hw'
            subst hw''
            gi_wp2
            go_roundw
            case rel => exact ⟨k + 1, by omega, by go_num, by rw [HSUC.out]; rfl, HFR.out.drewN _, HFR2.out.drewN _⟩
            case measure => simp [intOf]; omega
        · obtain rfl : k = n2 := by omega
          have hfull : (xs2.take k).any (fun z => z == xu) = true := by rw [← HN2.out, List.take_length]; exact T2.out
          have hki : ¬ (k : Int) < (k : Int) := by omega
          have HF4 := Lib.hid hfr.out
          rw [hfull]
          clear hfr hfr2 hfull
          gi_wp2
          exact HFIN.out _ HF4.out _
end Go.Proofs.YtefepfiijoafbaaGreat
namespace Go.Proofs.YtefepfiijoafbaaGreat
open Go.RowKit Go.Shelf Go.Maps
attribute [local go_sem] Oper.semAt_some
attribute [local irreducible] wpQuiet
set_option linter.unusedVariables false
set_option linter.unusedSimpArgs false

/-! ### What Edges answers of the two ends of an edge -/
theorem edged_fr2 {m : PL} {N : Nat} (hb : Built cFr2 m N) (t : Int) (ht : 0 ≤ t) (back : Bool) : edgedR true back (m.s.ty != 4) m.s.rev (decide (t < m.marked)) = 0 := by
  rw [hb.sch, hb.marked]
  have : ¬ t < 0 := by omega
  cases back <;> simp [edgedR, cFr2, this]
section
variable {W : World} {R : Nat → Prop} {p : Nat} {m : PL} {N : Nat} (h : IsPL W R p m) (hb : Built cFr2 m N) (hN : N ≤ 1000) (t : Int) (ht : 0 ≤ t)
include h hb hN ht
theorem edg_to (u : Int) (hu : (Lit.int .u64 u).wf = true) : EdgP W p t false u ((haveAt m t u).map (·.u)) := fun W' hf => by
  have hok := haveAt_ok hb.at t
  refine (iedges_to W' R p m (256 * N) (h.fr hf fun _ _ => id) hb.at (by omega) t u hu (edged_fr2 hb t ht false)).mono fun e w' hh => ?_
  obtain ⟨v, he, hr, hf2⟩ := hh
  have hr' : w'.ownsRow W'.heap.size 33 1 v ((haveAt m t u).map (·.u)).length (((haveAt m t u).map (·.u)).map (Value.int .u64)) := by
    rw [List.length_map, List.map_map]; exact hr
  obtain ⟨b, -, hI⟩ := ints_rowH hr' fun x hx => by
    obtain ⟨y, hy, rfl⟩ := List.mem_map.1 hx
    exact ((hok.ok u).may y hy).2
  exact ⟨v, b, he, hI, hf2⟩
theorem edg_from (y : Int) : ∃ xs, (∀ u, u ∈ xs ↔ ((haveAt m t u).any (eqVal (nodeV y))) = true) ∧ EdgP W p t true y xs := by
  have hok := haveAt_ok hb.at t
  obtain ⟨ks, hk⟩ := exists_nodes m t
  obtain ⟨xs, hr, hm⟩ := exists_rises (fun u => (haveAt m t u).any (eqVal (nodeV y)) = true) ks fun u hu => (hk.mem u).2 fun e => by rw [e] at hu; simp at hu
  refine ⟨xs, hm, fun W' hf => ?_⟩
  refine (iedges_back W' R p m (256 * N) (h.fr hf fun _ _ => id) hb.at (by omega) t y (edged_fr2 hb t ht true)).mono fun e w' hh => ?_
  obtain ⟨v, he, v', ys, e2, h1, h2, h3, h4⟩ := hh
  injection e2 with e2
  subst e2
  obtain rfl : ys = xs := rises_unique h2 hr fun u => by rw [h3, hm]
  obtain ⟨b, -, hI⟩ := ints_rowH h1 fun x hx => hok.key x fun e => by
    have h5 : (haveAt m t x).any (eqVal (nodeV y)) = true := (h3 x).1 hx
    rw [e] at h5; simp at h5
  exact ⟨v, b, he, hI, h4⟩
theorem edg_both {ks : List Int} (hk : NodesOf (haveAt m t) ks) {x : Int × Val} (hx : x ∈ trsOf (haveAt m t) ks) :
    ∃ xs1 xs2, x.2.u ∈ xs1 ∧ x.1 ∈ xs2 ∧ EdgP W p t false x.1 xs1 ∧ EdgP W p t true x.2.u xs2 := by
  have hok := haveAt_ok hb.at t
  unfold trsOf at hx
  obtain ⟨u, hu, hx⟩ := List.mem_flatMap.1 hx
  obtain ⟨v, hv, rfl⟩ := List.mem_map.1 hx
  have hwu := hok.key u ((hk.mem u).1 hu)
  obtain ⟨h1, h2⟩ := hb.val t hv
  have hn : v = nodeV v.u := val_node h1 h2
  obtain ⟨xs, hm, hE⟩ := edg_from h hb hN t ht v.u
  exact ⟨_, xs, List.mem_map_of_mem hv, (hm u).2 (List.any_eq_true.2 ⟨v, hv, by unfold eqVal; rw [← hn]; simp⟩), edg_to h hb hN t ht u hwu, hE⟩
end
theorem ptB15_eq : lvFst (ptB 15) = .seq (lvFst (lvFst (ptB 15))) (.block 2 ptRng) := by kernel_rfl
set_option maxRecDepth 100000 in
set_option maxHeartbeats 4000000 in
theorem ptR25 {K : Act → World → Prop} {Q : Exit → Act → World → Prop} (W : World) (f : Nat → Value) (p2 B5 B11 : Nat) (t : Int) (h5 : f 5 = vP B5) (h11 : f 11 = vP B11) (hb5 : W.heap[B5]? = some (.cells #[.int .u64 t] 33 (0, 0))) (hb11 : W.heap[B11]? = some (.cells #[vP p2] 51 (0, 0)))
    (hK : ∀ f' W5, Kp [5, 8, 11] f f' → f' 162 = .func (.func 97) #[] #[vP W.heap.size, vP (W.heap.size + 1)] → (W.alloc (.cells #[vP p2] 51)).alloc (.cells #[.int .u64 t] 33) = W5 → K (frA 226 f') W5) :
    Code.wp Tryz.prog (lvFst (lvFst (ptB 15))) (Exit.then K Q) (frA 226 f) W := by
  have HK := Lib.hid hK; have H5 := Lib.hid h5; have H11 := Lib.hid h11
  have c5 := cell_of_one hb5; have c11 := cell_of_one hb11
  clear hK hb5 hb11
  show Code.wp _ _ _ { tmps := #[f 0, f 1, f 2, f 3, f 4, f 5, f 6, f 7, f 8, f 9, f 10, f 11, f 12, f 13, f 14, f 15, f 16, f 17, f 18, f 19, f 20, f 21, f 22, f 23, f 24, f 25, f 26, f 27, f 28, f 29, f 30, f 31, f 32, f 33, f 34, f 35, f 36, f 37, f 38, f 39, f 40, f 41, f 42, f 43, f 44, f 45, f 46, f 47, f 48, f 49, f 50, f 51, f 52, f 53, f 54, f 55, f 56, f 57, f 58, f 59, f 60, f 61, f 62, f 63, f 64, f 65, f 66, f 67, f 68, f 69, f 70, f 71, f 72, f 73, f 74, f 75, f 76, f 77, f 78, f 79, f 80, f 81, f 82, f 83, f 84, f 85, f 86, f 87, f 88, f 89, f 90, f 91, f 92, f 93, f 94, f 95, f 96, f 97, f 98, f 99, f 100, f 101, f 102, f 103, f 104, f 105, f 106, f 107, f 108, f 109, f 110, f 111, f 112, f 113, f 114, f 115, f 116, f 117, f 118, f 119, f 120, f 121, f 122, f 123, f 124, f 125, f 126, f 127, f 128, f 129, f 130, f 131, f 132, f 133, f 134, f 135, f 136, f 137, f 138, f 139, f 140, f 141, f 142, f 143, f 144, f 145, f 146, f 147, f 148, f 149, f 150, f 151, f 152, f 153, f 154, f 155, f 156, f 157, f 158, f 159, f 160, f 161, f 162, f 163, f 164, f 165, f 166, f 167, f 168, f 169, f 170, f 171, f 172, f 173, f 174, f 175, f 176, f 177, f 178, f 179, f 180, f 181, f 182, f 183, f 184, f 185, f 186, f 187, f 188, f 189, f 190, f 191, f 192, f 193, f 194, f 195, f 196, f 197, f 198, f 199, f 200, f 201, f 202, f 203, f 204, f 205, f 206, f 207, f 208, f 209, f 210, f 211, f 212, f 213, f 214, f 215, f 216, f 217, f 218, f 219, f 220, f 221, f 222, f 223, f 224, f 225], defers := [] } _
  rw [h5, h11]
  clear h5 h11
  conv => arg 2; whnf
  go_wp2_with fail
  refine (trips_any _ _ _).mono ?_
  rintro e w1 ⟨rfl, hw1⟩
  have HW := Lib.hid hw1
  clear hw1
  go_wp2_with fail
  refine cut_use (n := 226) (K := K) _ rfl ?_
  exact HK.out _ w1 (kp_mk (by simp only [List.map_cons, List.map_nil, H5.out, H11.out]; rfl)) rfl HW.out
set_option maxRecDepth 100000 in
set_option maxHeartbeats 4000000 in
theorem pt_range {Q : Exit → Act → World → Prop} (W5 : World) (BR B5 B11 p2 Bl Bt N : Nat) (q : ByteArray) (t : Int) (ht : 0 ≤ t) (R2 S0 : Nat → Prop) (m : PL) (ks : List Int) (hk : NodesOf (haveAt m t) ks) (f : Nat → Value)
    (hpl : IsPL W5 R2 p2 m) (hb : Built cFr2 m N) (hN : N ≤ 1000)
    (hseq : SeqOf Tryz.prog 97 #[.pointer (some ⟨Bl, 0, none⟩), .pointer (some ⟨Bt, 0, none⟩)] (encT q) (fun k => R2 k ∨ k = Bl ∨ k = Bt) (trsOf (haveAt m t) ks) W5)
    (hS0 : ∀ k, S0 k → ¬ (R2 k ∨ k = Bl ∨ k = Bt) ∧ k < W5.heap.size) (hRl : ∀ k, (R2 k ∨ k = Bl ∨ k = Bt) → k < W5.heap.size) (h0 : PtR BR B5 B11 p2 t S0 [] W5)
    (h5 : f 5 = vP B5) (h8 : f 8 = vP BR) (h11 : f 11 = vP B11) (h162 : f 162 = .func (.func 97) #[] #[.pointer (some ⟨Bl, 0, none⟩), .pointer (some ⟨Bt, 0, none⟩)])
    (hK : ∀ (D : Nat) (S : Nat → Prop) (W : World), PtR BR B5 B11 p2 t S (trsOf (haveAt m t) ks) W → Fr S0 W5 W → W.heap[D]? = some (.deferred (some [])) → W5.heap.size ≤ D → ¬ S D → Q .normal { (frA 226 f) with defers := [{ target := .collected D, args := #[] }] } W) :
    Code.wp Tryz.prog ptRng Q (frA 226 f) W5 := by
  obtain ⟨xs, hxs⟩ : ∃ xs, trsOf (haveAt m t) ks = xs := ⟨_, rfl⟩
  have hed := fun (W : World) (hs : IsPL W R2 p2 m) x (hx : x ∈ xs) => edg_both hs hb hN t ht hk (x := x) (by rw [hxs]; exact hx)
  rw [hxs] at hseq hK
  have HSEQ := Lib.hid hseq; have HS0 := Lib.hid hS0; have HRL := Lib.hid hRl; have H0 := Lib.hid h0; have HK := Lib.hid hK; have HPL := Lib.hid hpl; have HED := Lib.hid hed
  clear hseq hS0 hRl h0 hK hpl hed hk hxs
  show Code.wp _ _ _ { tmps := #[f 0, f 1, f 2, f 3, f 4, f 5, f 6, f 7, f 8, f 9, f 10, f 11, f 12, f 13, f 14, f 15, f 16, f 17, f 18, f 19, f 20, f 21, f 22, f 23, f 24, f 25, f 26, f 27, f 28, f 29, f 30, f 31, f 32, f 33, f 34, f 35, f 36, f 37, f 38, f 39, f 40, f 41, f 42, f 43, f 44, f 45, f 46, f 47, f 48, f 49, f 50, f 51, f 52, f 53, f 54, f 55, f 56, f 57, f 58, f 59, f 60, f 61, f 62, f 63, f 64, f 65, f 66, f 67, f 68, f 69, f 70, f 71, f 72, f 73, f 74, f 75, f 76, f 77, f 78, f 79, f 80, f 81, f 82, f 83, f 84, f 85, f 86, f 87, f 88, f 89, f 90, f 91, f 92, f 93, f 94, f 95, f 96, f 97, f 98, f 99, f 100, f 101, f 102, f 103, f 104, f 105, f 106, f 107, f 108, f 109, f 110, f 111, f 112, f 113, f 114, f 115, f 116, f 117, f 118, f 119, f 120, f 121, f 122, f 123, f 124, f 125, f 126, f 127, f 128, f 129, f 130, f 131, f 132, f 133, f 134, f 135, f 136, f 137, f 138, f 139, f 140, f 141, f 142, f 143, f 144, f 145, f 146, f 147, f 148, f 149, f 150, f 151, f 152, f 153, f 154, f 155, f 156, f 157, f 158, f 159, f 160, f 161, f 162, f 163, f 164, f 165, f 166, f 167, f 168, f 169, f 170, f 171, f 172, f 173, f 174, f 175, f 176, f 177, f 178, f 179, f 180, f 181, f 182, f 183, f 184, f 185, f 186, f 187, f 188, f 189, f 190, f 191, f 192, f 193, f 194, f 195, f 196, f 197, f 198, f 199, f 200, f 201, f 202, f 203, f 204, f 205, f 206, f 207, f 208, f 209, f 210, f 211, f 212, f 213, f 214, f 215, f 216, f 217, f 218, f 219, f 220, f 221, f 222, f 223, f 224, f 225], defers := [] } _
  refine wp_rangeA (g := .tmp 162) (ps := #[163]) (a := { tmps := #[f 0, f 1, f 2, f 3, f 4, f 5, f 6, f 7, f 8, f 9, f 10, f 11, f 12, f 13, f 14, f 15, f 16, f 17, f 18, f 19, f 20, f 21, f 22, f 23, f 24, f 25, f 26, f 27, f 28, f 29, f 30, f 31, f 32, f 33, f 34, f 35, f 36, f 37, f 38, f 39, f 40, f 41, f 42, f 43, f 44, f 45, f 46, f 47, f 48, f 49, f 50, f 51, f 52, f 53, f 54, f 55, f 56, f 57, f 58, f 59, f 60, f 61, f 62, f 63, f 64, f 65, f 66, f 67, f 68, f 69, f 70, f 71, f 72, f 73, f 74, f 75, f 76, f 77, f 78, f 79, f 80, f 81, f 82, f 83, f 84, f 85, f 86, f 87, f 88, f 89, f 90, f 91, f 92, f 93, f 94, f 95, f 96, f 97, f 98, f 99, f 100, f 101, f 102, f 103, f 104, f 105, f 106, f 107, f 108, f 109, f 110, f 111, f 112, f 113, f 114, f 115, f 116, f 117, f 118, f 119, f 120, f 121, f 122, f 123, f 124, f 125, f 126, f 127, f 128, f 129, f 130, f 131, f 132, f 133, f 134, f 135, f 136, f 137, f 138, f 139, f 140, f 141, f 142, f 143, f 144, f 145, f 146, f 147, f 148, f 149, f 150, f 151, f 152, f 153, f 154, f 155, f 156, f 157, f 158, f 159, f 160, f 161, f 162, f 163, f 164, f 165, f 166, f 167, f 168, f 169, f 170, f 171, f 172, f 173, f 174, f 175, f 176, f 177, f 178, f 179, f 180, f 181, f 182, f 183, f 184, f 185, f 186, f 187, f 188, f 189, f 190, f 191, f 192, f 193, f 194, f 195, f 196, f 197, f 198, f 199, f 200, f 201, f 202, f 203, f 204, f 205, f 206, f 207, f 208, f 209, f 210, f 211, f 212, f 213, f 214, f 215, f 216, f 217, f 218, f 219, f 220, f 221, f 222, f 223, f 224, f 225], defers := [] }) (encs := encT q) (by rw [← h162]; rfl) enters_trip1 HSEQ.out (SameOn.refl _ _) (fun _ => rfl) S0 HS0.out HRL.out (PtR BR B5 B11 p2 t) (fun _ _ _ _ => False) (ptR_stable _ _ _ _ _) (fun _ _ _ _ _ h _ => h) H0.out
    (fun x B => { tmps := #[f 0, f 1, f 2, f 3, f 4, f 5, f 6, f 7, f 8, f 9, f 10, f 11, f 12, f 13, f 14, f 15, f 16, f 17, f 18, f 19, f 20, f 21, f 22, .pointer (some ⟨B, 0, none⟩), f 24, f 25, f 26, f 27, f 28, f 29, f 30, f 31, f 32, f 33, f 34, f 35, f 36, f 37, f 38, f 39, f 40, f 41, f 42, f 43, f 44, f 45, f 46, f 47, f 48, f 49, f 50, f 51, f 52, f 53, f 54, f 55, f 56, f 57, f 58, f 59, f 60, f 61, f 62, f 63, f 64, f 65, f 66, f 67, f 68, f 69, f 70, f 71, f 72, f 73, f 74, f 75, f 76, f 77, f 78, f 79, f 80, f 81, f 82, f 83, f 84, f 85, f 86, f 87, f 88, f 89, f 90, f 91, f 92, f 93, f 94, f 95, f 96, f 97, f 98, f 99, f 100, f 101, f 102, f 103, f 104, f 105, f 106, f 107, f 108, f 109, f 110, f 111, f 112, f 113, f 114, f 115, f 116, f 117, f 118, f 119, f 120, f 121, f 122, f 123, f 124, f 125, f 126, f 127, f 128, f 129, f 130, f 131, f 132, f 133, f 134, f 135, f 136, f 137, f 138, f 139, f 140, f 141, f 142, f 143, f 144, f 145, f 146, f 147, f 148, f 149, f 150, f 151, f 152, f 153, f 154, f 155, f 156, f 157, f 158, f 159, f 160, f 161, f 162, .agg #[.int .u64 x.1, .string q, .int .u8 x.2.k, .bool x.2.b, .int .i64 x.2.n, .string x.2.s, .int .u64 x.2.u], f 164, f 165, f 166, f 167, f 168, f 169, f 170, f 171, f 172, f 173, f 174, f 175, f 176, f 177, f 178, f 179, f 180, f 181, f 182, f 183, f 184, f 185, f 186, f 187, f 188, f 189, f 190, f 191, f 192, f 193, f 194, f 195, f 196, f 197, f 198, f 199, f 200, f 201, f 202, f 203, f 204, f 205, f 206, f 207, f 208, f 209, f 210, f 211, f 212, f 213, f 214, f 215, f 216, f 217, f 218, f 219, f 220, f 221, f 222, f 223, f 224, f 225], defers := [] })
    (fun x => .cells #[.int .u64 x.1, .string q, .int .u8 x.2.k, .bool x.2.b, .int .i64 x.2.n, .string x.2.s, .int .u64 x.2.u] 59) ?assign ?body ?done ?stop
  case assign =>
    clear h5 h8 h11 h162
    intro l x W K hK
    simp only [encT]
    have HK2 := Lib.hid hK
    clear hK
    gi_wp2
    exact HK2.out
  case body =>
    intro l B S pre x W hB hBS hI hpre hRW hbd
    have hxm : x ∈ xs := hpre.subset (by simp)
    have hst : IsPL W R2 p2 m := HPL.out.fr (T := fun k => ¬ R2 k) (SameOn.mono hRW fun k hk _ => .inl (Classical.not_not.1 hk)) fun k hk hn => hn hk
    obtain ⟨xs1, xs2, e1, e2, e3, e4⟩ := HED.out W hst x hxm
    rw [cut_mk (n := 226) _ rfl]
    exact pt_round l BR B5 B11 B p2 t q S pre x W _ hI (fun k hk => (hbd k hk).2) hB xs1 xs2 e1 e2 e3 e4 h5 h8 h11 rfl
  case done =>
    intro D S W hI hf hg hD hwD hSD
    exact HK.out D S W hI hf hD hwD hSD
  case stop =>
    intro D c S pre W hpre h
    exact h.elim
set_option maxRecDepth 100000 in
set_option maxHeartbeats 4000000 in
theorem pt_tail {Q : Exit → Act → World → Prop} (W : World) (BR D : Nat) (f : Nat → Value) (h8 : f 8 = vP BR) (hres : W.heap[BR]? = some (.cells #[.bool false] 4 (0, 0)))
    (hQ : ∀ f' : Nat → Value, f' 8 = vP BR → Q .ret { (frA 226 f') with defers := [{ target := .collected D, args := #[] }] } (W.setCell ⟨BR, 0, none⟩ (.bool true))) :
    Code.wp Tryz.prog (ptB 16) Q { (frA 226 f) with defers := [{ target := .collected D, args := #[] }] } W := by
  have cr := cell_of_one hres
  have fr := free_of_one hres
  have HQ := Lib.hid hQ
  clear hQ hres
  show Code.wp _ _ _ { tmps := #[f 0, f 1, f 2, f 3, f 4, f 5, f 6, f 7, f 8, f 9, f 10, f 11, f 12, f 13, f 14, f 15, f 16, f 17, f 18, f 19, f 20, f 21, f 22, f 23, f 24, f 25, f 26, f 27, f 28, f 29, f 30, f 31, f 32, f 33, f 34, f 35, f 36, f 37, f 38, f 39, f 40, f 41, f 42, f 43, f 44, f 45, f 46, f 47, f 48, f 49, f 50, f 51, f 52, f 53, f 54, f 55, f 56, f 57, f 58, f 59, f 60, f 61, f 62, f 63, f 64, f 65, f 66, f 67, f 68, f 69, f 70, f 71, f 72, f 73, f 74, f 75, f 76, f 77, f 78, f 79, f 80, f 81, f 82, f 83, f 84, f 85, f 86, f 87, f 88, f 89, f 90, f 91, f 92, f 93, f 94, f 95, f 96, f 97, f 98, f 99, f 100, f 101, f 102, f 103, f 104, f 105, f 106, f 107, f 108, f 109, f 110, f 111, f 112, f 113, f 114, f 115, f 116, f 117, f 118, f 119, f 120, f 121, f 122, f 123, f 124, f 125, f 126, f 127, f 128, f 129, f 130, f 131, f 132, f 133, f 134, f 135, f 136, f 137, f 138, f 139, f 140, f 141, f 142, f 143, f 144, f 145, f 146, f 147, f 148, f 149, f 150, f 151, f 152, f 153, f 154, f 155, f 156, f 157, f 158, f 159, f 160, f 161, f 162, f 163, f 164, f 165, f 166, f 167, f 168, f 169, f 170, f 171, f 172, f 173, f 174, f 175, f 176, f 177, f 178, f 179, f 180, f 181, f 182, f 183, f 184, f 185, f 186, f 187, f 188, f 189, f 190, f 191, f 192, f 193, f 194, f 195, f 196, f 197, f 198, f 199, f 200, f 201, f 202, f 203, f 204, f 205, f 206, f 207, f 208, f 209, f 210, f 211, f 212, f 213, f 214, f 215, f 216, f 217, f 218, f 219, f 220, f 221, f 222, f 223, f 224, f 225], defers := [{ target := .collected D, args := #[] }] } _
  rw [h8]
  clear h8
  conv => arg 2; whnf
  go_wp2_with fail
  rw [cut_mk (n := 226) _ rfl]
  exact HQ.out _ rfl
end Go.Proofs.YtefepfiijoafbaaGreat
