/- ShardOrder, whole. ShardOrder, proved: the walk is lsOrder_any (LoJ). Conditions: none but the row's own. -/
import Derived.Test.YtefepfiijoafbaaGreatRows
import Derived.WalkKit
import Derived.ProofKit
import Derived.OpenShut
import Derived.ShutString
import Derived.ChangeOld
import Derived.Below
import Derived.Test.YtefepfiijoafbaaGreatQLoE
import Derived.Test.YtefepfiijoafbaaGreatQLoG
import Derived.Test.YtefepfiijoafbaaGreatQSSame
namespace Go.Proofs.YtefepfiijoafbaaGreat
open Go.RowKit Go.Shelf Go.Maps
attribute [local go_sem] Oper.semAt_some
attribute [local irreducible] wpQuiet
set_option linter.unusedVariables false
set_option linter.unusedSimpArgs false

theorem Live.base {w w2 W : World} {R : Nat → Prop} {p N : Nat} {s : SS} (h : Live w2 W R p s N) (hf : Fr N0 w w2) : Live w W R p s N :=
  ⟨h.1, h.2.1, fun k hk => ⟨Nat.le_trans hf.size (h.2.2.1 k hk).1, (h.2.2.1 k hk).2⟩, hf.then0 h.2.2.2⟩
theorem pair_new {w w3 w4 : World} {Ra Rb : Nat → Prop} {pa pb : Nat} (ha : Live w w3 Ra pa SS.empty 0) (hb : Live w3 w4 Rb pb SS.empty 0) : Pair w w4 Ra Rb pa pb SS.empty SS.empty 0 0 :=
  ⟨ha.fr hb.2.2.2, hb.base ha.2.2.2, fun k h1 h2 => by
    have := (ha.2.2.1 k h1).2; have := (hb.2.2.1 k h2).1; omega⟩
/-- Both orders come to one state. -/
theorem order_same (s0 : SS) (hs : s0.Ok) (xs zs : List (Op × OpS)) (h : zs.Perm (keepX (fun _ => false) xs)) : (zs.map (·.1)).foldl stepO s0 = ((keepX (fun _ => false) xs).map (·.1)).foldl stepO s0 :=
  fold_any hs (h.map _) (by
    have hk := keepO_apart (xs.map (·.1)) (fun _ => false)
    rw [← keepX_map] at hk
    exact ((h.map (·.1)).pairwise_iff (fun h => h.symm)).2 hk)
theorem keepX_kind {u : Int → Bool} {l : List (Op × OpS)} {x : Op × OpS} (h : x ∈ keepX u l) : x.1.kind = 3 := by
  have : x.1 ∈ keepO u (l.map (·.1)) := by rw [← keepX_map]; exact List.mem_map.2 ⟨x, h, rfl⟩
  exact (keepO_mem this).1

theorem holds_ok (cs : List Sch) : (holds SS.empty cs).Ok := by
  have : ∀ (l : List Op) (s : SS), s.Ok → (l.foldl (fun s o => (sApply s o).1) s).Ok := fun l => by
    induction l with
    | nil => intro s h; exact h
    | cons x l ih => intro s h; exact ih _ (sApply_ok h)
  exact this _ _ SS.empty_fine.toOk
theorem stages_ok {s : SS} (h : s.Ok) (l : List (Op × OpS)) : (stagesX s l).Ok := by
  unfold stagesX
  induction l generalizing s with
  | nil => exact h
  | cons x l ih =>
    refine ih ?_
    show (if x.1.kind = 2 then (sApply s x.1).1 else s).Ok
    split
    · exact sApply_ok h
    · exact h
theorem FinRow.rows {w W : World} {S : Nat → Prop} {bu : Nat} {v : Value} {fs : List (Op × OpS)} (h : FinRow w W S bu v fs) : ∃ a cap bq, v = .slice a fs.length cap ∧ RowsK opE 16 W bq v fs ∧ (0 < fs.length → S bq) := by
  obtain ⟨b, -, hr⟩ := rowsK_of_row (enc := opE) (n := 16) opE_len (by decide) h.1
  obtain ⟨a, off, cap, he, h1, h2, h3, h4, h5⟩ := id hr
  refine ⟨a, cap, b, he, hr, fun h0 => (h.2 b ?_).1⟩
  rw [he, h3 h0]; rfl
theorem lo2_start {w W5 : World} {Ra Rb : Nat → Prop} {pa pb N : Nat} {s : SS} (h : Pair w W5 Ra Rb pa pb s s N N) (xs : List (Op × OpS)) : Lo2 w (W5.alloc (.map #[] 0)) pa pb W5.heap.size N s xs 0 (.slice none 0 0) Ra Rb (fun k => k = W5.heap.size) N := by
  refine ⟨⟨h.fr ((Fr.refl N0 W5).alloc _), fun k hk => ?_, fun k hk => ⟨?_, ?_⟩⟩, Nat.le_refl _, ⟨World.ownsRow_nil _ _ _ _, fun j hj => by cases hj⟩, UsedAt.made W5, rfl⟩
  · subst hk; exact ⟨live_out h.1 (Nat.le_refl _), live_out h.2.1 (Nat.le_refl _)⟩
  · subst hk; exact h.1.2.2.2.size
  · subst hk; simp
theorem lo4_start {w W : World} {Ra Rb S : Nat → Prop} {pa pb Na N bq n cap : Nat} {sa s2 : SS} {fs : List (Op × OpS)} {a : Option Addr} (hT : Trio w W Ra Rb S pa pb sa s2 Na N) (hr : RowsK opE 16 W bq (.slice a n cap) fs) (hin : 0 < fs.length → S bq) : Lo4 w W Ra pa pb sa s2 Na N fs 0 [] fs bq (.slice a n cap) Rb S :=
  ⟨hT, by simp, hr, hin⟩

set_option maxRecDepth 100000 in
set_option maxHeartbeats 4000000 in
theorem lsOrder_any (w : World) (bs : Nat) (vs : Value) (cs : List Sch) (hs : RowsK Sch.enc 8 w bs vs cs) (bl : Nat) (vl : Value) (xs : List (Op × OpS)) (hl : Ops w bl vl xs) (hwf : ∀ x ∈ xs, x.1.wf) (bt : Nat) (vt : Value) (ts : List Int) (ht : Ints .u8 w bt vt ts) :
    Calls Tryz.prog 3 #[vs, vl, vt] w fun e w' => e = .returned (.bool true) ∧ Fr N0 w w' := by
  have hs' := hs; have hl' := hl.1; have ht' := ht
  obtain ⟨sa, so, sc, rfl, -⟩ := hs'
  obtain ⟨la, lo, lc, rfl, -⟩ := hl'
  obtain ⟨ta, to, tc, rfl, -⟩ := ht'
  have hlives := fun W => lsLives_any W
  have hsmall := fun W (hf : Fr N0 w W) => lsSmall_any W bl _ xs ⟨hl.1.fr0 opE_len hf, fun x hx => ?_⟩
  · obtain ⟨nc, hnc⟩ : ∃ n, cs.length = n := ⟨_, rfl⟩
    obtain ⟨nx, hnx⟩ : ∃ n, xs.length = n := ⟨_, rfl⟩
    obtain ⟨nt, hnt⟩ : ∃ n, ts.length = n := ⟨_, rfl⟩
    simp only [hnc, hnx, hnt] at hsmall ⊢
    have HS := Lib.hid hs; have HL := Lib.hid hl; have HT := Lib.hid ht; have HWF := Lib.hid hwf; have HNC := Lib.hid hnc; have HNX := Lib.hid hnx; have HNT := Lib.hid hnt
    have HLV := Lib.hid hlives; have HSM := Lib.hid hsmall
    have HNEW := Lib.hid live_new
    clear hs hl ht hwf hnc hnx hnt hlives hsmall
    by_cases h8 : nc ≤ 8
    · by_cases h200 : nt ≤ 200
      · have h8' : (nc : Int) ≤ 8 := by omega
        have h200' : (nt : Int) ≤ 200 := by omega
        go_enter Tryz.func3, Tryz.ntmps3
        go_wp2_with fail
        refine (HLV.out _).mono ?_
        rintro e w1 ⟨rfl, hf1⟩
        have HF1 := Lib.hid hf1
        clear hf1
        go_wp2_with fail
        refine (HSM.out _ HF1.out).mono ?_
        rintro e w2 ⟨⟨r, rfl, hr⟩, hf2⟩
        have HF2 := Lib.hid (HF1.out.then0 hf2)
        clear hf2
        cases r with
        | false =>
          clear hr
          go_wp2
          go_ret
          exact ⟨rfl, HF2.out⟩
        | true =>
          have hx60 := hr rfl
          clear hr
          go_wp2_with fail
          refine (HNEW.out _).mono ?_
          rintro e w3 ⟨pa, Ra, rfl, hLa⟩
          have HLa := Lib.hid (hLa.base HF2.out)
          clear hLa
          go_wp2_with fail
          refine (HNEW.out _).mono ?_
          rintro e w4 ⟨pb, Rb, rfl, hLb⟩
          have HP := Lib.hid (pair_new HLa.out hLb)
          clear hLb
          go_wp2_with fail
          refine wp_frA _ rfl ?_
          refine lo1 w w4 Ra Rb pa pb cs bs sa sc HS.out (by rw [HNC.out]; exact h8) HP.out _ (by rw [HNC.out]; rfl) (by rfl) (by rfl) (by rfl) (fun f W5 Ra1 Rb1 e1 e2 e7 e8 hP => ?_)
          rename_i Kx hKx
          refine hKx _ _ ?_
          have d1 : f 1 = .slice la nx lc := e1
          have d2 : f 2 = .slice ta nt tc := e2
          have d7 : f 7 = .pointer (some ⟨pa, 0, none⟩) := e7
          have d8 : f 8 = .pointer (some ⟨pb, 0, none⟩) := e8
          clear e1 e2 e7 e8 hKx Kx HP HLa
          have HP := Lib.hid hP
          clear hP
          show Code.wp _ _ _ { tmps := #[f 0, f 1, f 2, f 3, f 4, f 5, f 6, f 7, f 8, f 9, f 10, f 11, f 12, f 13, f 14, f 15, f 16, f 17, f 18, f 19, f 20, f 21, f 22, f 23, f 24, f 25, f 26, f 27, f 28, f 29, f 30, f 31, f 32, f 33, f 34, f 35, f 36, f 37, f 38, f 39, f 40, f 41, f 42, f 43, f 44, f 45, f 46, f 47, f 48, f 49, f 50, f 51, f 52, f 53, f 54, f 55, f 56, f 57, f 58, f 59, f 60, f 61, f 62, f 63, f 64, f 65, f 66, f 67, f 68, f 69, f 70, f 71, f 72, f 73, f 74, f 75, f 76, f 77, f 78, f 79, f 80, f 81, f 82, f 83, f 84, f 85, f 86, f 87, f 88, f 89, f 90, f 91, f 92, f 93, f 94, f 95, f 96, f 97, f 98, f 99, f 100, f 101, f 102, f 103, f 104, f 105, f 106, f 107, f 108, f 109, f 110, f 111, f 112, f 113, f 114, f 115, f 116, f 117, f 118, f 119, f 120, f 121, f 122, f 123, f 124, f 125, f 126, f 127, f 128, f 129, f 130, f 131, f 132, f 133, f 134, f 135, f 136, f 137, f 138, f 139, f 140, f 141, f 142, f 143, f 144, f 145, f 146, f 147, f 148, f 149, f 150, f 151, f 152, f 153, f 154, f 155, f 156, f 157, f 158, f 159, f 160, f 161, f 162, f 163, f 164, f 165, f 166, f 167, f 168, f 169, f 170, f 171, f 172, f 173], defers := [] } _
          rw [d1, d2, d7, d8]
          clear d1 d2 d7 d8
          have hmm := @run_makeMap Tryz.prog
          go_wp2_with fail
          have hL0 := lo2_start HP.out xs
          refine wp_frA _ rfl ?_
          refine lo2 w _ Ra1 Rb1 pa pb W5.heap.size cs.length (holds SS.empty cs) xs bl la lc HL.out.1 (fun x hx => ⟨HL.out.2 x hx, HWF.out x hx⟩) (by rw [HNX.out]; exact hx60) (by rw [HNC.out]; exact h8) hL0 _ (by rw [HNX.out]; rfl) (by rfl) (by rfl) (by rfl) (by rfl) (by rfl) (fun f W6 Ra2 Rb2 S2 N2 e2 e7 e8 hL2 => ?_)
          rename_i Kx hKx
          refine hKx _ _ ?_
          have d2 : f 2 = .slice ta nt tc := e2
          have d7 : f 7 = .pointer (some ⟨pa, 0, none⟩) := e7
          have d8 : f 8 = .pointer (some ⟨pb, 0, none⟩) := e8
          clear e2 e7 e8 hKx Kx HP hL0 hmm
          have hN2 : N2 ≤ 100 := by have := hL2.n; have := HNC.out; have := HNX.out; omega
          have hT2 := hL2.trio
          rw [List.take_length] at hT2
          have hR2 := hL2.row
          rw [List.take_length] at hR2
          have hfs := keepX_length (fun _ => false) xs
          have hgf : ∀ x ∈ keepX (fun _ => false) xs, OpIs w x.1 x.2 ∧ x.1.wf ∧ x.1.kind = 3 := fun x hx => ⟨HL.out.2 x (keepX_mem hx), HWF.out x (keepX_mem hx), keepX_kind hx⟩
          obtain ⟨nf, hnf⟩ : ∃ n, (keepX (fun _ => false) xs).length = n := ⟨_, rfl⟩
          obtain ⟨a2, c2, bq, d11, hrow, hin⟩ := hR2.rows
          rw [d11] at hrow
          rw [hnf] at hrow d11
          have HT2 := Lib.hid hT2; have HROW := Lib.hid hrow; have HIN := Lib.hid hin; have HGF := Lib.hid hgf; have HNF := Lib.hid hnf
          have hnf60 : nf ≤ 60 := by have := HNX.out; omega
          clear hL2 hT2 hR2 hfs hgf hrow hin hnf
          show Code.wp _ _ _ { tmps := #[f 0, f 1, f 2, f 3, f 4, f 5, f 6, f 7, f 8, f 9, f 10, f 11, f 12, f 13, f 14, f 15, f 16, f 17, f 18, f 19, f 20, f 21, f 22, f 23, f 24, f 25, f 26, f 27, f 28, f 29, f 30, f 31, f 32, f 33, f 34, f 35, f 36, f 37, f 38, f 39, f 40, f 41, f 42, f 43, f 44, f 45, f 46, f 47, f 48, f 49, f 50, f 51, f 52, f 53, f 54, f 55, f 56, f 57, f 58, f 59, f 60, f 61, f 62, f 63, f 64, f 65, f 66, f 67, f 68, f 69, f 70, f 71, f 72, f 73, f 74, f 75, f 76, f 77, f 78, f 79, f 80, f 81, f 82, f 83, f 84, f 85, f 86, f 87, f 88, f 89, f 90, f 91, f 92, f 93, f 94, f 95, f 96, f 97, f 98, f 99, f 100, f 101, f 102, f 103, f 104, f 105, f 106, f 107, f 108, f 109, f 110, f 111, f 112, f 113, f 114, f 115, f 116, f 117, f 118, f 119, f 120, f 121, f 122, f 123, f 124, f 125, f 126, f 127, f 128, f 129, f 130, f 131, f 132, f 133, f 134, f 135, f 136, f 137, f 138, f 139, f 140, f 141, f 142, f 143, f 144, f 145, f 146, f 147, f 148, f 149, f 150, f 151, f 152, f 153, f 154, f 155, f 156, f 157, f 158, f 159, f 160, f 161, f 162, f 163, f 164, f 165, f 166, f 167, f 168, f 169, f 170, f 171, f 172, f 173], defers := [] } _
          rw [d2, d7, d8, d11]
          clear d2 d7 d8 d11
          go_wp2_with fail
          refine wp_frA _ rfl ?_
          refine lo3 w _ Ra2 Rb2 S2 pa pb _ N2 (keepX (fun _ => false) xs) bq nf a2 c2 HROW.out HIN.out HGF.out hnf60 HT2.out (by omega) _ (by rfl) (by rfl) (by rfl) (fun f W7 Ra3 e2 e7 e8 e11 hT3 hr3 => ?_)
          rename_i Kx hKx
          refine hKx _ _ ?_
          have d2 : f 2 = .slice ta nt tc := e2
          have d7 : f 7 = .pointer (some ⟨pa, 0, none⟩) := e7
          have d8 : f 8 = .pointer (some ⟨pb, 0, none⟩) := e8
          have d11 : f 11 = .slice a2 nf c2 := e11
          clear e2 e7 e8 e11 hKx Kx HT2 HROW
          have HX := Lib.hid (lo4_start hT3 hr3 (HNF.out ▸ HIN.out))
          clear hT3 hr3
          show Code.wp _ _ _ { tmps := #[f 0, f 1, f 2, f 3, f 4, f 5, f 6, f 7, f 8, f 9, f 10, f 11, f 12, f 13, f 14, f 15, f 16, f 17, f 18, f 19, f 20, f 21, f 22, f 23, f 24, f 25, f 26, f 27, f 28, f 29, f 30, f 31, f 32, f 33, f 34, f 35, f 36, f 37, f 38, f 39, f 40, f 41, f 42, f 43, f 44, f 45, f 46, f 47, f 48, f 49, f 50, f 51, f 52, f 53, f 54, f 55, f 56, f 57, f 58, f 59, f 60, f 61, f 62, f 63, f 64, f 65, f 66, f 67, f 68, f 69, f 70, f 71, f 72, f 73, f 74, f 75, f 76, f 77, f 78, f 79, f 80, f 81, f 82, f 83, f 84, f 85, f 86, f 87, f 88, f 89, f 90, f 91, f 92, f 93, f 94, f 95, f 96, f 97, f 98, f 99, f 100, f 101, f 102, f 103, f 104, f 105, f 106, f 107, f 108, f 109, f 110, f 111, f 112, f 113, f 114, f 115, f 116, f 117, f 118, f 119, f 120, f 121, f 122, f 123, f 124, f 125, f 126, f 127, f 128, f 129, f 130, f 131, f 132, f 133, f 134, f 135, f 136, f 137, f 138, f 139, f 140, f 141, f 142, f 143, f 144, f 145, f 146, f 147, f 148, f 149, f 150, f 151, f 152, f 153, f 154, f 155, f 156, f 157, f 158, f 159, f 160, f 161, f 162, f 163, f 164, f 165, f 166, f 167, f 168, f 169, f 170, f 171, f 172, f 173], defers := [] } _
          rw [d2, d7, d8, d11]
          clear d2 d7 d8 d11
          go_wp2_with fail
          refine wp_frA _ rfl ?_
          refine lo4 w _ Ra3 Rb2 S2 pa pb _ _ _ N2 (keepX (fun _ => false) xs) bq nf a2 c2 HX.out HNF.out.symm HGF.out hnf60 (by omega) ts bt ta nt tc (by have := HT.out; rw [HNT.out] at this; exact this) _ (by rfl) (by rfl) (by rfl) (by rfl) (fun f W8 Rb4 S4 zs e7 e8 hT4 hperm => ?_)
          rename_i Kx hKx
          refine hKx _ _ ?_
          have d7 : f 7 = .pointer (some ⟨pa, 0, none⟩) := e7
          have d8 : f 8 = .pointer (some ⟨pb, 0, none⟩) := e8
          clear e7 e8 hKx Kx HX
          have hok : (stagesX (holds SS.empty cs) xs).Ok := stages_ok (holds_ok cs) xs
          rw [order_same _ hok xs zs hperm] at hT4
          have hsame := sSame_any W8 Ra3 Rb4 pa pb _ _ _ _ hT4.pair.1.1 hT4.pair.2.1.1 hT4.pair.1.2.1 (by omega)
          have HSA := Lib.hid hsame; have HF8 := Lib.hid hT4.pair.1.2.2.2
          clear hsame hT4 hperm hok
          show Code.wp _ _ _ { tmps := #[f 0, f 1, f 2, f 3, f 4, f 5, f 6, f 7, f 8, f 9, f 10, f 11, f 12, f 13, f 14, f 15, f 16, f 17, f 18, f 19, f 20, f 21, f 22, f 23, f 24, f 25, f 26, f 27, f 28, f 29, f 30, f 31, f 32, f 33, f 34, f 35, f 36, f 37, f 38, f 39, f 40, f 41, f 42, f 43, f 44, f 45, f 46, f 47, f 48, f 49, f 50, f 51, f 52, f 53, f 54, f 55, f 56, f 57, f 58, f 59, f 60, f 61, f 62, f 63, f 64, f 65, f 66, f 67, f 68, f 69, f 70, f 71, f 72, f 73, f 74, f 75, f 76, f 77, f 78, f 79, f 80, f 81, f 82, f 83, f 84, f 85, f 86, f 87, f 88, f 89, f 90, f 91, f 92, f 93, f 94, f 95, f 96, f 97, f 98, f 99, f 100, f 101, f 102, f 103, f 104, f 105, f 106, f 107, f 108, f 109, f 110, f 111, f 112, f 113, f 114, f 115, f 116, f 117, f 118, f 119, f 120, f 121, f 122, f 123, f 124, f 125, f 126, f 127, f 128, f 129, f 130, f 131, f 132, f 133, f 134, f 135, f 136, f 137, f 138, f 139, f 140, f 141, f 142, f 143, f 144, f 145, f 146, f 147, f 148, f 149, f 150, f 151, f 152, f 153, f 154, f 155, f 156, f 157, f 158, f 159, f 160, f 161, f 162, f 163, f 164, f 165, f 166, f 167, f 168, f 169, f 170, f 171, f 172, f 173], defers := [] } _
          rw [d7, d8]
          clear d7 d8
          go_wp2_with fail
          refine HSA.out.mono ?_
          rintro e w9 ⟨rfl, hf9⟩
          have HF9 := Lib.hid (HF8.out.then0 hf9)
          clear hf9
          go_wp2
          go_ret
          exact ⟨rfl, HF9.out⟩
      · have h8' : (nc : Int) ≤ 8 := by omega
        have h200' : ¬ (nt : Int) ≤ 200 := by omega
        go_enter Tryz.func3, Tryz.ntmps3
        go_wp2_with fail
        refine (HLV.out _).mono ?_
        rintro e w1 ⟨rfl, hf1⟩
        have HF1 := Lib.hid hf1
        clear hf1
        go_wp2_with fail
        refine (HSM.out _ HF1.out).mono ?_
        rintro e w2 ⟨⟨r, rfl, hr⟩, hf2⟩
        have HF2 := Lib.hid (HF1.out.then0 hf2)
        clear hf2 hr
        cases r with
        | false =>
          go_wp2
          go_ret
          exact ⟨rfl, HF2.out⟩
        | true =>
          go_wp2
          go_ret
          exact ⟨rfl, HF2.out⟩
    · have h8' : ¬ (nc : Int) ≤ 8 := by omega
      go_enter Tryz.func3, Tryz.ntmps3
      go_wp2_with fail
      refine (HLV.out _).mono ?_
      rintro e w1 ⟨rfl, hf1⟩
      have HF1 := Lib.hid hf1
      clear hf1
      go_wp2_with fail
      refine (HSM.out _ HF1.out).mono ?_
      rintro e w2 ⟨⟨r, rfl, hr⟩, hf2⟩
      have HF2 := Lib.hid (HF1.out.then0 hf2)
      clear hf2 hr
      cases r with
      | false =>
        go_wp2
        go_ret
        exact ⟨rfl, HF2.out⟩
      | true =>
        go_wp2
        go_ret
        exact ⟨rfl, HF2.out⟩
  · obtain ⟨g1, g2⟩ := hl.2 x hx
    refine ⟨g1.imp fun _ h => Wrs.fr0 h hf, ?_⟩
    obtain ⟨b, cms, h1, h2⟩ := g2
    exact ⟨b, cms, RowsK.fr0 (enc := CmV.enc) (n := 2) (fun _ => rfl) h1 hf, fun c hc => by
      obtain ⟨b', ys, h3⟩ := h2 c hc
      exact ⟨b', ys, Wrs.fr0 h3 hf⟩⟩
end Go.Proofs.YtefepfiijoafbaaGreat
namespace Go.Proofs.YtefepfiijoafbaaGreat.shardOrder
open Go.ChangeShapes Go.WideShapes Go.ChangeAt Go.RowKit
open Go.ChangeMaps (open_string shut_string)
set_option linter.unusedVariables false

theorem own : ownKnob Tryz.prog.godebug = none := by kernel_rfl
theorem laidOut : laidOutB Tryz.prog = true := by kernel_rfl
theorem cells_u8 : Tryz.prog.cellsOf 5 = 1 := by kernel_rfl

set_option maxRecDepth 100000 in
theorem lifted (os : Os) (started : os.Started) (H : Type) (enc : TypeId × Value → H) :
    ReturnsInHanded {} Tryz.checked os 3 .any (Rows.shardOrderSpec.pre6 enc Tryz.prog Tryz.f3 Rows.shardOrderRow.domain false) (Rows.shardOrderSpec.post enc Tryz.prog Tryz.f3 false true false false) := by
  refine returnsInHanded_of_change (C := Tryz.checked) own started (by kernel_rfl) Tryz.func3
    (ChangeSpec.witness6 (enc := enc) (C := Tryz.checked) false ⟨#[], #[.slice none 0 0, .slice none 0 0, .slice none 0 0], []⟩ 8 (by kernel_rfl) (by kernel_rfl) (by kernel_rfl) (by kernel_rfl)) ?_
  intro W base args ds gs before hval0 hW hcnd _
  have hval : ∀ (j : Nat) t v, Tryz.f3.params[j]? = some t → args[j]? = some v → Value.okWide Tryz.prog W .any base t v := hval0
  have hW' := hW
  obtain ⟨p, q, hA0, hV, rfl, hfz, hnd⟩ := hW
  have hA : DataW.TrodAll enc Tryz.prog W 0 (fun _ => true) true Tryz.f3.params.toList args.toList ds p := hA0
  rw [Tryz.params3] at hA hval
  obtain ⟨v0, vs0, d0, ds0, p0, q0, hargs, rfl, rfl, h0, r0⟩ := trodAll_cons hA
  obtain ⟨v1, vs1, d1, ds1, p1, q1, rfl, rfl, rfl, h1, r1⟩ := trodAll_cons r0
  obtain ⟨v2, vs2, d2, ds2, p2, q2, rfl, rfl, rfl, h2, r2⟩ := trodAll_cons r1
  obtain ⟨rfl, rfl, rfl⟩ := trodAll_nil r2
  obtain rfl : args = #[v0, v1, v2] := by cases args; simp_all
  obtain ⟨rfl, rfl⟩ := trodVars_none hV
  obtain ⟨a0, len0, cap0, rfl⟩ := okWide_slice Tryz.underlying22 (hval 0 22 v0 rfl rfl)
  have k0 := h0
  have lt0 : ∀ x ∈ p0, x.block < W.heap.size := by obtain ⟨m, hm⟩ := k0; exact DataW.trod_lt m _ _ _ hm
  obtain ⟨bS, cs, w0⟩ : ∃ b cs, RowsK Sch.enc 8 W b (.slice a0 len0 cap0) cs := by
    obtain ⟨fuel, hf⟩ := h0
    obtain ⟨b, v, xs, hcs, hR, -⟩ := open_rowsK (ec := Sch.enc) (n := 8) (by decide) (fun _ => rfl) (fun _ => True) Tryz.underlying22 cells_Schema (fun _ _ _ h => open_sch h) hf
    simp [Value.cells] at hcs
    subst hcs
    exact ⟨b, xs, hR⟩
  obtain ⟨a1, len1, cap1, rfl⟩ := okWide_slice Tryz.underlying23 (hval 1 23 v1 rfl rfl)
  have k1 := h1
  have lt1 : ∀ x ∈ p1, x.block < W.heap.size := by obtain ⟨m, hm⟩ := k1; exact DataW.trod_lt m _ _ _ hm
  obtain ⟨bL, xs, w1, w1g⟩ : ∃ b xs, RowsK opE 16 W b (.slice a1 len1 cap1) xs ∧ ∀ x ∈ xs, OpGood W x := by
    obtain ⟨fuel, hf⟩ := h1
    obtain ⟨b, v, xs, hcs, hR, hG⟩ := open_rowsK (ec := opE) (n := 16) (by decide) opE_len (OpGood W) Tryz.underlying23 cells_Op (fun _ _ _ h => open_op h) hf
    simp [Value.cells] at hcs
    subst hcs
    exact ⟨b, xs, hR, hG⟩
  obtain ⟨a2, len2, cap2, rfl⟩ := okWide_slice Tryz.underlying24 (hval 2 24 v2 rfl rfl)
  have k2 := h2
  have lt2 : ∀ x ∈ p2, x.block < W.heap.size := by obtain ⟨m, hm⟩ := k2; exact DataW.trod_lt m _ _ _ hm
  obtain ⟨bT, ts, w2⟩ : ∃ b ts, Ints .u8 W b (.slice a2 len2 cap2) ts := by
    obtain ⟨fuel, hf⟩ := h2
    obtain ⟨b, v, xs, hcs, hR, hG⟩ := open_rowsK (ec := fun x : Int => [.int .u8 x]) (n := 1) (by decide) (fun _ => rfl) (fun x => (Lit.int .u8 x).wf = true) Tryz.underlying24 cells_u8 (fun _ _ _ h => by
      obtain ⟨x, e, -, hw⟩ := DataW.trod_int Tryz.underlying5 h
      exact ⟨x, e, hw⟩) hf
    simp [Value.cells] at hcs
    subst hcs
    obtain ⟨a, off, cap, h1, h2, h3, h4, h5, h6⟩ := hR
    exact ⟨b, xs, a, off, cap, h1, h2, h3, h4, h5, fun i hi => by simpa using h6 i hi 0 (by decide), hG⟩
  clear hA0 hval0
  refine (lsOrder_any W bS _ cs w0 bL _ xs ⟨w1, fun x hx => (w1g x hx).1⟩ (fun x hx => (w1g x hx).2.1) bT _ ts w2).mono fun e W' ⟨he, hfr⟩ => ?_
  have bel := hfr.below0
  subst he
  exact ⟨_, rfl, _, _, _, [], _, [], hW', trodAll_mk1 (shut_bool Tryz.underlying4 _), (trodAll_cons_mk (Below.trod laidOut (by kernel_rfl) (of_decide_eq_true (by kernel_rfl)) k0 bel lt0) (trodAll_cons_mk (Below.trod laidOut (by kernel_rfl) (of_decide_eq_true (by kernel_rfl)) k1 bel lt1) (trodAll_cons_mk (Below.trod laidOut (by kernel_rfl) (of_decide_eq_true (by kernel_rfl)) k2 bel lt2) trodAll_mk0))), rfl, bel.frame _, fun h => by cases h⟩

theorem over : Rows.shardOrderRow.holds Tryz.pinned (OpenSpec.ofChange Rows.shardOrderSpec) :=
  OpenClaim.holds_of_wide 3 Tryz.f3 rfl rfl rfl rfl rfl rfl rfl ⟨rfl, rfl, rfl, rfl, rfl⟩ rfl rfl rfl rfl rfl (by kernel_rfl) Tryz.func3 (by kernel_rfl)
    (of_decide_eq_true (by kernel_rfl)) (by unfold Func.isWrapper; first | (rw [if_pos (by decide +kernel)]; kernel_rfl) | (rw [if_neg (by decide +kernel)]; exact ⟨rfl, rfl⟩))
    (fun os started H enc _ => lifted os started H enc)

/-- THE STATEMENT -/
theorem proved : Rows.ShardOrderSaid := over
#print axioms proved
end Go.Proofs.YtefepfiijoafbaaGreat.shardOrder
