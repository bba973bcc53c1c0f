/- ShardOrder, its first loop: the predicates are held by both states. -/
import Derived.Test.YtefepfiijoafbaaGreatQLoA
import Derived.Test.YtefepfiijoafbaaGreatQSFinC
namespace Go.Proofs.YtefepfiijoafbaaGreat
open Go.RowKit Go.Shelf Go.Maps
attribute [local go_sem] Oper.semAt_some
attribute [local go_sem ↓] Go.wp_at_zero Go.wp_at_succ
attribute [local irreducible] wpQuiet
set_option linter.unusedVariables false
set_option linter.unusedSimpArgs false

noncomputable def loB (n : Nat) : Code := lvSuf n ((Tryz.f3.body).getD .skip)
/-- The command that holds a predicate. -/
def opSch (c : Sch) : Op := { opH with sch := c }
theorem opSch_wf (c : Sch) : (opSch c).wf := ⟨wfH.kind, wfH.start, wfH.commit, wfH.at_, wfH.ws⟩
abbrev OpHC (c : Sch) : Array Value := #[.int .u8 1, .int .u64 0, .int .u64 0, .slice none 0 0, .string c.pred, .int .u8 c.ty, .bool c.list, .bool c.exact_, .bool c.term, .bool c.order, .bool c.rev, .bool c.count, .string ⟨#[]⟩, .int .u64 0, .slice none 0 0, .slice none 0 0]
theorem pair_hold {w W : World} {Ra Rb : Nat → Prop} {pa pb Na Nb : Nat} {sa sb : SS} (h : Pair w W Ra Rb pa pb sa sb Na Nb) (hN : Na ≤ 100000) (c : Sch) :
    Calls Tryz.prog 13 #[.pointer (some ⟨pa, 0, none⟩), .agg (OpHC c)] W (PairPost w W Ra Rb pa pb (sApply sa (opSch c)) sb (Na + 1) Nb) :=
  pair_apply h hN (opSch c) (opSch_wf c) ⟨none, 0, none, 0, none, 0⟩ 0 (RowsK.nil _ _ _ _) ⟨by show opH.kind ≠ 4; decide, by show opH.kind ≠ 5; decide, by show opH.kind ≠ 6; decide⟩
theorem Pair.box {w W : World} {Ra Rb : Nat → Prop} {pa pb Na Nb C : Nat} {sa sb : SS} (h : Pair w W Ra Rb pa pb sa sb Na Nb) (hC : W.heap.size ≤ C) : ¬ Ra C ∧ ¬ Rb C := ⟨live_out h.1 hC, live_out h.2.1 hC⟩
noncomputable def holds (s : SS) (cs : List Sch) : SS := (cs.map opSch).foldl (fun s o => (sApply s o).1) s
theorem holds_snoc (s : SS) (cs : List Sch) (c : Sch) : holds s (cs ++ [c]) = (sApply (holds s cs) (opSch c)).1 := by simp [holds, List.foldl_append]

set_option maxRecDepth 100000 in
set_option maxHeartbeats 4000000 in
theorem lo1 {K : Act → World → Prop} {Q : Exit → Act → World → Prop} (w W : World) (Ra Rb : Nat → Prop) (pa pb : Nat) (cs : List Sch) (b : Nat) (a : Option Addr) (cap : Nat) (hr : RowsK Sch.enc 8 w b (.slice a cs.length cap) cs) (hn : cs.length ≤ 8) (hP : Pair w W Ra Rb pa pb SS.empty SS.empty 0 0) (f : Nat → Value)
    (h0 : f 0 = .slice a cs.length cap) (h7 : f 7 = .pointer (some ⟨pa, 0, none⟩)) (h8 : f 8 = .pointer (some ⟨pb, 0, none⟩)) (h9 : f 9 = .int .i64 0)
    (hK : ∀ f' W' Ra' Rb', f' 1 = f 1 → f' 2 = f 2 → f' 7 = f 7 → f' 8 = f 8 → Pair w W' Ra' Rb' pa pb (holds SS.empty cs) (holds SS.empty cs) cs.length cs.length → K (frA 174 f') W') :
    Code.wp Tryz.prog (lvIn (lvSnd (lvFst (loB 4)))) (Exit.inBlock 0 (Exit.then K Q)) (frA 174 f) W := by
  obtain ⟨a', off, cap', he, r1, r2, r3, r4, r5⟩ := hr
  injection he with e1 e2 e3
  subst e1 e3
  obtain ⟨n, hn1⟩ : ∃ n, cs.length = n := ⟨_, rfl⟩
  have HR := Lib.hid r5; have HK := Lib.hid hK; have HL := Lib.hid hn1
  rw [hn1] at r1 r3 hn h0
  have hP0 := Lib.hid hP
  clear r5 hK r4 hP hn1
  show Code.wp _ _ _ { tmps := #[f 0, f 1, f 2, f 3, f 4, f 5, f 6, f 7, f 8, f 9, f 10, f 11, f 12, f 13, f 14, f 15, f 16, f 17, f 18, f 19, f 20, f 21, f 22, f 23, f 24, f 25, f 26, f 27, f 28, f 29, f 30, f 31, f 32, f 33, f 34, f 35, f 36, f 37, f 38, f 39, f 40, f 41, f 42, f 43, f 44, f 45, f 46, f 47, f 48, f 49, f 50, f 51, f 52, f 53, f 54, f 55, f 56, f 57, f 58, f 59, f 60, f 61, f 62, f 63, f 64, f 65, f 66, f 67, f 68, f 69, f 70, f 71, f 72, f 73, f 74, f 75, f 76, f 77, f 78, f 79, f 80, f 81, f 82, f 83, f 84, f 85, f 86, f 87, f 88, f 89, f 90, f 91, f 92, f 93, f 94, f 95, f 96, f 97, f 98, f 99, f 100, f 101, f 102, f 103, f 104, f 105, f 106, f 107, f 108, f 109, f 110, f 111, f 112, f 113, f 114, f 115, f 116, f 117, f 118, f 119, f 120, f 121, f 122, f 123, f 124, f 125, f 126, f 127, f 128, f 129, f 130, f 131, f 132, f 133, f 134, f 135, f 136, f 137, f 138, f 139, f 140, f 141, f 142, f 143, f 144, f 145, f 146, f 147, f 148, f 149, f 150, f 151, f 152, f 153, f 154, f 155, f 156, f 157, f 158, f 159, f 160, f 161, f 162, f 163, f 164, f 165, f 166, f 167, f 168, f 169, f 170, f 171, f 172, f 173], defers := [] } _
  rw [h0, h7, h8, h9]
  have H7 := Lib.hid h7; have H8 := Lib.hid h8
  clear h0 h7 h8 h9
  conv => arg 2; whnf
  go_frame
  go_loopw [9, 10] (fun iv tv wr => ∃ (k : Nat) (Ra Rb : Nat → Prop), k ≤ n ∧ iv = .int .i64 k ∧ Hid (Pair w wr Ra Rb pa pb (holds SS.empty (cs.take k)) (holds SS.empty (cs.take k)) k k)) (fun iv _ _ => n - (intOf iv).toNat)
  case atStart => exact ⟨0, Ra, Rb, Nat.zero_le _, rfl, hP0⟩
  case round =>
    obtain ⟨k, Ra1, Rb1, hk, rfl, HP⟩ := hrel
    by_cases hlt : k < n
    · obtain rfl := r3 (by omega)
      have hc : k < cs.length := by rw [HL.out]; exact hlt
      have c := fun i (hi : i < 8) v (hv : (Sch.enc cs[k])[i]? = some v) => HP.out.1.2.2.2.cell (fun h => h) ((HR.out _ hc i hi).trans hv)
      have hs : cs.take (k + 1) = cs.take k ++ [cs[k]] := List.take_succ_eq_append_getElem hc
      have HS := Lib.hid hs
      have c0 := c 0 (by decide) _ rfl; have c1 := c 1 (by decide) _ rfl; have c2 := c 2 (by decide) _ rfl; have c3 := c 3 (by decide) _ rfl; have c4 := c 4 (by decide) _ rfl; have c5 := c 5 (by decide) _ rfl; have c6 := c 6 (by decide) _ rfl; have c7 := c 7 (by decide) _ rfl
      clear c hs
      obtain ⟨x, hx⟩ : ∃ x, cs[k] = x := ⟨_, rfl⟩
      rw [hx] at HS
      simp only [hx] at c0 c1 c2 c3 c4 c5 c6 c7
      clear hx hc
      obtain ⟨sp, st, sl, se, sm, so, sr, sc⟩ := x
      simp only [Sch.enc, List.getElem?_cons_zero, List.getElem?_cons_succ, Nat.add_zero] at c0 c1 c2 c3 c4 c5 c6 c7
      have hki : (k : Int) < (n : Int) := by omega
      have hk5 : k ≤ 100000 := by omega
      have g1 : (wr.alloc (.cells (OpHC ⟨sp, st, sl, se, sm, so, sr, sc⟩) 38)).heap[wr.heap.size]? = some (.cells (OpHC ⟨sp, st, sl, se, sm, so, sr, sc⟩) 38 (0, 0)) := World.alloc_heap_new _ _
      have HP1 := Lib.hid (HP.out.fr ((Fr.refl N0 wr).alloc (.cells (OpHC ⟨sp, st, sl, se, sm, so, sr, sc⟩) 38)))
      have HB := Lib.hid (HP.out.box (Nat.le_refl _))
      have l0 := lt_of_block g1
      have G1 := Lib.hid g1
      clear g1
      go_wp2_with fail
      refine (pair_hold HP1.out hk5 ⟨sp, st, sl, se, sm, so, sr, sc⟩).mono ?_
      rintro e w2 ⟨rfl, ⟨Ra2, hp2, -⟩, hf2⟩
      have hb2 := (hf2.at HB.out.1 l0).trans G1.out
      obtain ⟨m1, n1, l1⟩ := box_cells hb2
      have HP2 := Lib.hid hp2
      clear hp2 hf2 hb2
      go_wp2_with fail
      refine (pair_hold HP2.out.swap hk5 ⟨sp, st, sl, se, sm, so, sr, sc⟩).mono ?_
      rintro e w3 ⟨rfl, ⟨Rb2, hp3, -⟩, hf3⟩
      have HP3 := Lib.hid hp3
      clear hp3 hf3
      go_wp2_with fail
      go_roundw
      case rel => exact ⟨k + 1, Ra2, Rb2, by omega, by go_num, Lib.hid (by rw [HS.out, holds_snoc]; exact HP3.out.swap)⟩
      case measure => simp [intOf]; omega
    · have hkn : k = cs.length := by have := HL.out; omega
      go_wp2
      refine cut_use (n := 174) (K := K) _ rfl ?_
      have hp := HP.out
      rw [hkn, List.take_length] at hp
      exact HK.out _ _ Ra1 Rb1 rfl rfl H7.out.symm H8.out.symm hp
end Go.Proofs.YtefepfiijoafbaaGreat
