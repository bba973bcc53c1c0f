/- ShardOrder, its second loop: the walk. -/
import Derived.Deep.RegionLaw
import Derived.Test.YtefepfiijoafbaaGreatQLoD
namespace Go.Proofs.YtefepfiijoafbaaGreat
open Go.RowKit Go.Shelf Go.Maps
attribute [local go_sem] Oper.semAt_some
attribute [local go_sem ↓] Go.wp_at_zero Go.wp_at_succ
attribute [local irreducible] wpQuiet
set_option linter.unusedVariables false
set_option linter.unusedSimpArgs false

theorem infoOp : (Tryz.prog.info? 38).map (fun i => (i.zero, i.size, i.bytes)) = some (some (.agg #[.int .u8 0, .int .u64 0, .int .u64 0, .slice none 0 0, .string ⟨#[]⟩, .int .u8 0, .bool false, .bool false, .bool false, .bool false, .bool false, .bool false, .string ⟨#[]⟩, .int .u64 0, .slice none 0 0, .slice none 0 0]), 16, 144) := by kernel_rfl
set_option maxRecDepth 100000 in
set_option maxHeartbeats 4000000 in
theorem lo2 {K : Act → World → Prop} {Q : Exit → Act → World → Prop} (w W : World) (Ra Rb : Nat → Prop) (pa pb bu n0 : Nat) (s0 : SS) (xs : List (Op × OpS)) (b : Nat) (a : Option Addr) (cap : Nat) (hr : RowsK opE 16 w b (.slice a xs.length cap) xs) (hgood : ∀ x ∈ xs, OpIs w x.1 x.2 ∧ x.1.wf) (hn : xs.length ≤ 60) (hn0 : n0 ≤ 8) (hL : Lo2 w W pa pb bu n0 s0 xs 0 (.slice none 0 0) Ra Rb (fun k => k = bu) n0) (f : Nat → Value)
    (h1 : f 1 = .slice a xs.length cap) (h7 : f 7 = .pointer (some ⟨pa, 0, none⟩)) (h8 : f 8 = .pointer (some ⟨pb, 0, none⟩)) (h11 : f 11 = .slice none 0 0) (h12 : f 12 = .map (some bu)) (h13 : f 13 = .int .i64 0)
    (hK : ∀ f' W' Ra' Rb' S' N', f' 2 = f 2 → f' 7 = f 7 → f' 8 = f 8 → Lo2 w W' pa pb bu n0 s0 xs xs.length (f' 11) Ra' Rb' S' N' → K (frA 174 f') W') :
    Code.wp Tryz.prog (lvIn (lvSnd (lvFst (loB 7)))) (Exit.inBlock 2 (Exit.then K Q)) (frA 174 f) W := by
  obtain ⟨a', off, cap', he, r1, r2, r3, r4, r5⟩ := hr
  injection he with e1 e2 e3
  subst e1 e3
  obtain ⟨n, hn1⟩ : ∃ n, xs.length = n := ⟨_, rfl⟩
  obtain ⟨i0, hi, hz0, hz1, hz2⟩ := info_parts infoOp
  have HR := Lib.hid r5; have HK := Lib.hid hK; have HL := Lib.hid hn1; have HG := Lib.hid hgood
  rw [hn1] at r1 r3 hn h1
  have HI := Lib.hid hL
  clear r5 hK r4 hL hn1 hgood
  show Code.wp _ _ _ { tmps := #[f 0, f 1, f 2, f 3, f 4, f 5, f 6, f 7, f 8, f 9, f 10, f 11, f 12, f 13, f 14, f 15, f 16, f 17, f 18, f 19, f 20, f 21, f 22, f 23, f 24, f 25, f 26, f 27, f 28, f 29, f 30, f 31, f 32, f 33, f 34, f 35, f 36, f 37, f 38, f 39, f 40, f 41, f 42, f 43, f 44, f 45, f 46, f 47, f 48, f 49, f 50, f 51, f 52, f 53, f 54, f 55, f 56, f 57, f 58, f 59, f 60, f 61, f 62, f 63, f 64, f 65, f 66, f 67, f 68, f 69, f 70, f 71, f 72, f 73, f 74, f 75, f 76, f 77, f 78, f 79, f 80, f 81, f 82, f 83, f 84, f 85, f 86, f 87, f 88, f 89, f 90, f 91, f 92, f 93, f 94, f 95, f 96, f 97, f 98, f 99, f 100, f 101, f 102, f 103, f 104, f 105, f 106, f 107, f 108, f 109, f 110, f 111, f 112, f 113, f 114, f 115, f 116, f 117, f 118, f 119, f 120, f 121, f 122, f 123, f 124, f 125, f 126, f 127, f 128, f 129, f 130, f 131, f 132, f 133, f 134, f 135, f 136, f 137, f 138, f 139, f 140, f 141, f 142, f 143, f 144, f 145, f 146, f 147, f 148, f 149, f 150, f 151, f 152, f 153, f 154, f 155, f 156, f 157, f 158, f 159, f 160, f 161, f 162, f 163, f 164, f 165, f 166, f 167, f 168, f 169, f 170, f 171, f 172, f 173], defers := [] } _
  rw [h1, h7, h8, h11, h12, h13]
  have H7 := Lib.hid h7; have H8 := Lib.hid h8
  clear h1 h7 h8 h11 h12 h13
  conv => arg 2; whnf
  go_frame
  go_loopw [11, 13] (fun fv iv wr => ∃ (k : Nat) (Ra Rb S : Nat → Prop) (N : Nat), k ≤ n ∧ iv = .int .i64 k ∧ Hid (Lo2 w wr pa pb bu n0 s0 xs k fv Ra Rb S N)) (fun _ iv _ => n - (intOf iv).toNat)
  case atStart => exact ⟨0, Ra, Rb, _, _, Nat.zero_le _, rfl, HI⟩
  case round =>
    obtain ⟨k, Ra1, Rb1, S1, N1, hk, rfl, HX⟩ := hrel
    by_cases hlt : k < n
    · obtain rfl := r3 (by omega)
      have hc : k < xs.length := by rw [HL.out]; exact hlt
      have hat := fun W' (hf : Fr N0 w W') => op_at (row_at hf HR.out k hc)
      obtain ⟨hop, hwf⟩ := HG.out xs[k] (List.getElem_mem hc)
      have hnone := HX.out.none hc
      have hstage := fun W Ra' Rb' => HX.out.stage (W := W) (Ra' := Ra') (Rb' := Rb') hc
      have hkeep := fun W1 W2 W3 g c => HX.out.keep (W1 := W1) (W2 := W2) (W3 := W3) (g := g) (c := c) hc
      obtain ⟨x, hx⟩ : ∃ x, xs[k] = x := ⟨_, rfl⟩
      have hap := fun (W' : World) (Ra Rb : Nat → Prop) (pa pb : Nat) (sa sb : SS) (Na Nb : Nat) (hT : Trio w W' Ra Rb S1 pa pb sa sb Na Nb) (hN : Na ≤ 100000) (hk3 : x.1.kind = 1 ∨ x.1.kind = 2 ∨ x.1.kind = 3) => trio_cells hT hN x.1 (hx ▸ hwf) x.2 (hx ▸ hop) hk3 _ rfl
      have hw1 := hwf.start; have hw2 := hwf.commit
      simp only [hx] at hat hnone hstage hkeep hw1 hw2
      have HF0 := Lib.hid HX.out.frame
      obtain ⟨uk, huk⟩ : ∃ u, usedX (fun _ => false) (xs.take k) = u := ⟨_, rfl⟩
      obtain ⟨fk, hfk⟩ : ∃ u, keepX (fun _ => false) (xs.take k) = u := ⟨_, rfl⟩
      have HUK := Lib.hid huk; have HFK := Lib.hid hfk
      simp only [huk, hfk] at hnone hstage hkeep
      obtain ⟨⟨kd, st, cm, ws, ⟨sp, sy, sl, se, sm, so, sr, sc⟩, pr, at_, nt, np⟩, ⟨wa, wc, ta, tc, pa', pc⟩⟩ := x
      simp only at hat hnone hstage hkeep hap hw1 hw2
      obtain ⟨nw, hnw⟩ : ∃ n, ws.length = n := ⟨_, rfl⟩
      simp only [hnw] at hat hap
      have HNW := Lib.hid hnw
      have hki : (k : Int) < (n : Int) := by omega
      have HAT := Lib.hid hat; have HAP := Lib.hid hap; have HNO := Lib.hid hnone; have HST := Lib.hid hstage; have HKE := Lib.hid hkeep; have HW1 := Lib.hid hw1; have HW2 := Lib.hid hw2
      have hN1 := HX.out.n
      have hN5 : N1 ≤ 100000 := by omega
      have HN1 := Lib.hid hN1
      clear hat hap hnone hstage hkeep hw1 hw2 hx hop hwf hnw huk hfk hN1 hc
      obtain ⟨c0, c1, c2, c3, c4, c5, c6, c7, c8, c9, c10, c11, c12, c13, c14, c15⟩ := HAT.out wr HF0.out
      by_cases hk2 : kd = 2
      · subst hk2
        go_wp2_with fail
        refine (HAP.out wr _ _ _ _ _ _ _ _ HX.out.trio hN5 (by simp)).mono ?_
        rintro e w2 ⟨rfl, ⟨Ra2, hT2⟩, hf2⟩
        have hkp2 := HX.out.kept hf2 fun j hj => (HX.out.trio.apart j hj).1
        clear c0 c1 c2 c3 c4 c5 c6 c7 c8 c9 c10 c11 c12 c13 c14 c15
        obtain ⟨c0, c1, c2, c3, c4, c5, c6, c7, c8, c9, c10, c11, c12, c13, c14, c15⟩ := HAT.out w2 hT2.pair.1.2.2.2
        have HT2 := Lib.hid hT2; have HKP2 := Lib.hid hkp2
        clear hT2 hf2 hkp2
        go_wp2_with fail
        refine (HAP.out w2 _ _ _ _ _ _ _ _ HT2.out.swap hN5 (by simp)).mono ?_
        rintro e w3 ⟨rfl, ⟨Rb2, hT3⟩, hf3⟩
        have hkp3 : FinRow w w3 S1 bu u11 fk ∧ UsedAt w3 bu (2 * k) uk := by
          obtain ⟨q1, q2⟩ := HKP2.out
          rw [HFK.out] at q1; rw [HUK.out] at q2
          exact ⟨q1.fr hf3 fun j hj => (HT2.out.apart j hj).2, q2.fr hf3 (HT2.out.apart bu HX.out.bu).2⟩
        clear c0 c1 c2 c3 c4 c5 c6 c7 c8 c9 c10 c11 c12 c13 c14 c15
        obtain ⟨c0, -⟩ := HAT.out w3 hT3.pair.1.2.2.2
        have HT3 := Lib.hid hT3; have HKP3 := Lib.hid hkp3
        clear hT3 hf3 hkp3
        go_wp2_with fail
        go_roundw
        case rel => exact ⟨k + 1, _, _, _, _, by omega, by go_num, Lib.hid (HST.out w3 _ _ (by simp) HT3.out.swap HKP3.out)⟩
        case measure => simp [intOf]; omega
      · have hb2 : ((kd : Int) == 2) = false := by simpa using hk2
        have HK2 := Lib.hid hk2
        clear hk2
        have hus : UsedAt wr bu (2 * k) uk := HUK.out ▸ HX.out.used
        have l1 := hus.look st HW1.out; have l2 := hus.look cm HW2.out
        have HUS := Lib.hid hus
        clear hus
        by_cases hk3 : kd = 3
        · subst hk3
          cases hus : uk st with
          | true =>
            have HNN := Lib.hid (HNO.out HK2.out (by unfold keepsO; simp [hus]))
            rw [hus] at l1
            clear hus
            go_wp2_with fail
            go_roundw
            case rel => exact ⟨k + 1, _, _, _, _, by omega, by go_num, HNN⟩
            case measure => simp [intOf]; omega
          | false =>
            cases huc : uk cm with
            | true =>
              have HNN := Lib.hid (HNO.out HK2.out (by unfold keepsO; simp [huc]))
              rw [hus] at l1
              rw [huc] at l2
              clear hus huc
              go_wp2_with fail
              go_roundw
              case rel => exact ⟨k + 1, _, _, _, _, by omega, by go_num, HNN⟩
              case measure => simp [intOf]; omega
            | false =>
              have hkk : keepsO uk ⟨3, st, cm, ws, ⟨sp, sy, sl, se, sm, so, sr, sc⟩, pr, at_, nt, np⟩ = true := by unfold keepsO; simp [hus, huc]
              rw [hus] at l1
              rw [huc] at l2
              have HKK := Lib.hid hkk
              have HROW : Hid (wr.ownsRow w.heap.size 38 16 u11 fk.length (fk.flatMap opE)) := HFK.out ▸ HX.out.row.1
              have hkl : fk.length ≤ 60 := by
                have := keepX_length (fun _ => false) (xs.take k)
                rw [HFK.out] at this
                have h2 : (xs.take k).length ≤ k := List.length_take_le _ _
                omega
              have hzw := HF0.out.size
              clear hus huc hkk
              go_wp2_with ((at_builtin; go_loud (refine wpList_append_lies _ rfl _ _ 23 rfl (w.heap.size) 38 i0 (.agg #[.int .u8 0, .int .u64 0, .int .u64 0, .slice none 0 0, .string ⟨#[]⟩, .int .u8 0, .bool false, .bool false, .bool false, .bool false, .bool false, .bool false, .string ⟨#[]⟩, .int .u64 0, .slice none 0 0, .slice none 0 0]) 16 144 Tryz.underlying23 hi hz0 hz1 hz2 rfl (by decide) (u11) (fk.length) _ rfl (HROW.out.alloc _) ⟨wr.heap.size, 0, none⟩ 1 1 ([.int .u8 3, .int .u64 st, .int .u64 cm, .slice wa nw wc, .string sp, .int .u8 sy, .bool sl, .bool se, .bool sm, .bool so, .bool sr, .bool sc, .string pr, .int .u64 at_, .slice ta nt tc, .slice pa' np pc]) rfl rfl (World.news_of_block (cs := ([.int .u8 3, .int .u64 st, .int .u64 cm, .slice wa nw wc, .string sp, .int .u8 sy, .bool sl, .bool se, .bool sm, .bool so, .bool sr, .bool sc, .string pr, .int .u64 at_, .slice ta nt tc, .slice pa' np pc]).toArray) (t := 38) (fr := (0, 0)) (heap_alloc_new wr _)) (by simp [Value.oneCell']) (by omega) (by unfold maxLen; omega) (by omega) (by simp; omega) (wr.heap.size + 1) (by simp) ?_); intro g c w5 hown hgrow hfresh hlt1); have hf5 : Fr (fun q => u11.ownBlock = some q) wr w5 := ((Fr.refl (fun q => u11.ownBlock = some q) wr).alloc _).grown hgrow fun q e => .inl e; have hF5 : Fr N0 w w5 := HF0.out.trans hf5 fun q e => .inr (HX.out.trio.new q (HX.out.row.2 q e).1).1; clear c0 c1 c2 c3 c4 c5 c6 c7 c8 c9 c10 c11 c12 c13 c14 c15 l1 l2; obtain ⟨-, c1, c2, -⟩ := HAT.out w5 hF5; obtain ⟨w6, hr6, hu6, hf6⟩ := (HUS.out.fr hf5 fun e => (HX.out.row.2 bu e).2 rfl).store (by omega) st HW1.out true; have HOWN := Lib.hid hown; have HF5 := Lib.hid hf5; have HFF5 := Lib.hid hF5; have HU6 := Lib.hid hu6; have HF6 := Lib.hid hf6; clear hown hgrow hf5 hF5 hu6 hf6)
              have hd6 : Fr (fun j => j = bu) w6 w6.drew := (Fr.refl _ w6).drew
              have hF6 : Fr N0 w w6.drew := (HFF5.out.trans HF6.out fun q e => .inr (e ▸ (HX.out.trio.new bu HX.out.bu).1)).drew
              obtain ⟨-, -, c2', -⟩ := HAT.out w6.drew hF6
              obtain ⟨w7, hr7, hu7, hf7⟩ := (HU6.out.fr (Fr.refl N0 w6).drew id).store (by omega) cm HW2.out (cm != 0)
              have HF7 := Lib.hid (hd6.trans hf7 fun _ e => .inl e); have HU7 := Lib.hid hu7
              clear hd6 hF6 hu7 hf7 hr6 c1 c2
              refine wp_plainN ?_
              go_region_law (fail)
              all_goals
                go_wp2_with fail
                go_roundw
                case rel => exact ⟨k + 1, _, _, _, _, by omega, by go_num, Lib.hid (HKE.out w5 w6 w7 g c HKK.out HF5.out (by simp only [opE, opEnc, HNW.out]; exact HOWN.out) hfresh hlt1 HF6.out HF7.out (by rw [show decide (cm ≠ 0) = (cm != 0) by by_cases h : cm = 0 <;> simp [h]]; exact HU7.out))⟩
                case measure => simp [intOf]; omega
        · have hb3 : ((kd : Int) == 3) = false := by simpa using hk3
          have HNN := Lib.hid (HNO.out HK2.out (by unfold keepsO; simp [hk3]))
          clear hk3
          go_wp2_with fail
          go_roundw
          case rel => exact ⟨k + 1, _, _, _, _, by omega, by go_num, HNN⟩
          case measure => simp [intOf]; omega
    · have hkn : k = xs.length := by have := HL.out; omega
      go_wp2
      refine cut_use (n := 174) (K := K) _ rfl ?_
      have hp := HX.out
      rw [hkn] at hp
      exact HK.out _ _ Ra1 Rb1 S1 N1 rfl H7.out.symm H8.out.symm hp
end Go.Proofs.YtefepfiijoafbaaGreat
