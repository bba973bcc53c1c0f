/- The document's Same of two transactions. TxnPlays' round: reading the ask, its size, its number. -/
import Derived.Test.YthidminepegnoaaGreatDoorQBegin
import Derived.Test.YthidminepegnoaaGreatDoorQRMay
import Derived.Test.YthidminepegnoaaGreatDoorQLv4
import Derived.Test.YthidminepegnoaaGreatDoorQLaw2
import Derived.Test.YthidminepegnoaaGreatDoorQWantedC
namespace Go.Proofs.YthidminepegnoaaGreatDoor
open Go.RowKit Go.Shelf Go.Maps Go.Sort
attribute [local go_sem] Oper.semAt_some
attribute [local irreducible] wpQuiet
set_option linter.unusedVariables false
set_option linter.unusedSimpArgs false

set_option maxRecDepth 100000 in
set_option maxHeartbeats 4000000 in
theorem rSame_any (w : World) (v v' : Value) (t : Txn) (h : IsTxn w v t) (h' : IsTxn w v' t) (l1 : t.writes.length ≤ 1000000) (l2 : t.keys.length ≤ 1000000) (l3 : t.needs.length ≤ 1000000) (l4 : t.groups.length ≤ 1000000) (l5 : t.left.length ≤ 1000000) :
    Calls Tryz.prog 8 #[v, v'] w fun e w' => e = .returned (.bool true) ∧ Fr N0 w w' := by
  obtain ⟨vw, vk, vn, vg, vl, rfl, h⟩ := h
  obtain ⟨⟨aw, cw, rfl⟩, ⟨ak, ck, rfl⟩, ⟨an, cn, rfl⟩, ⟨ag, cg, rfl⟩, ⟨al, cl, rfl⟩⟩ := h.shapes
  obtain ⟨vw', vk', vn', vg', vl', rfl, h'⟩ := h'
  obtain ⟨⟨aw', cw', rfl⟩, ⟨ak', ck', rfl⟩, ⟨an', cn', rfl⟩, ⟨ag', cg', rfl⟩, ⟨al', cl', rfl⟩⟩ := h'.shapes
  obtain ⟨b1, hw⟩ := h.ws; obtain ⟨b1', hw'⟩ := h'.ws
  obtain ⟨b4, hg⟩ := h.gs; obtain ⟨b4', hg'⟩ := h'.gs
  obtain ⟨b5, hl⟩ := h.ls; obtain ⟨b5', hl'⟩ := h'.ls
  have hW := fun W (hf : Fr N0 w W) => sameW_any W b1 b1' _ _ t.writes (hw.fr0 hf) (hw'.fr0 hf) l1
  have hG := fun W (hf : Fr N0 w W) => rsameG_any W b4 b4' _ _ t.groups (hg.fr0 hf) (hg'.fr0 hf) l4
  have hL := fun W (hf : Fr N0 w W) => rsameG_any W b5 b5' _ _ t.left (hl.fr0 hf) (hl'.fr0 hf) l5
  obtain ⟨bk, xk, ok, dk, ek, p1, p2, p3, -, p5⟩ := h.ks
  obtain ⟨bk', xk', ok', dk', ek', q1, q2, q3, -, q5⟩ := h'.ks
  obtain ⟨bn, xn, on, dn, en, r1, r2, r3, -, r5⟩ := h.ns
  obtain ⟨bn', xn', on', dn', en', s1, s2, s3, -, s5⟩ := h'.ns
  simp only [Value.slice.injEq] at ek ek' en en'
  obtain ⟨rfl, -, rfl⟩ := ek; obtain ⟨rfl, -, rfl⟩ := ek'; obtain ⟨rfl, -, rfl⟩ := en; obtain ⟨rfl, -, rfl⟩ := en'
  obtain ⟨ph, st, cm, ws, ks, ns, gs, ls, fl⟩ := t
  simp only at *
  have P := Lib.hid p5; have Q := Lib.hid q5; have R := Lib.hid r5; have S := Lib.hid s5; have HW := Lib.hid hW; have HG := Lib.hid hG; have HL := Lib.hid hL
  clear p5 q5 r5 s5 h h' hw hw' hg hg' hl hl' hW hG hL
  go_enter Tryz.func8, Tryz.ntmps8
  go_wp2_with (first
    | (go_at_call 19; go_loud (refine (HW.out _ (by repeat (first | exact Fr.refl _ _ | assumption | refine Fr.alloc ?_ _ | refine Fr.drew ?_ | refine Fr.drewN ?_ _ | refine Fr.setCell ?_ (.inr (by simp; try omega)) _))).mono ?_); rintro e w1 ⟨rfl, hf1⟩; have hb0 := hf1.held w.heap.size (blk0 (blkN (by simp))); obtain ⟨m0, n0, k0⟩ := box_cells hb0; have hb1 := hf1.held (w.heap.size + 1) (blkN (by simp)); obtain ⟨m1, n1, k1⟩ := box_cells hb1; have HB0 := Lib.hid hb0; have HB1 := Lib.hid hb1; clear hb0 hb1)
    | (go_at_call 31; have hf2' := hf2; go_loud (refine (HL.out _ (Fr.then0 (Fr.then0 (by repeat (first | exact Fr.refl _ _ | assumption | refine Fr.alloc ?_ _ | refine Fr.drew ?_ | refine Fr.drewN ?_ _ | refine Fr.setCell ?_ (.inr (by simp; try omega)) _)) hf1) hf2)).mono ?_); rintro e w3 ⟨rfl, hf3⟩; have hb0 := hf3.held w.heap.size HB2.out; obtain ⟨m0'', n0'', k0''⟩ := box_cells hb0; have hb1 := hf3.held (w.heap.size + 1) HB3.out; obtain ⟨m1'', n1'', k1''⟩ := box_cells hb1; have HB4 := Lib.hid hb0; have HB5 := Lib.hid hb1; clear hb0 hb1)
    | (go_at_call 31; go_loud (refine (HG.out _ (Fr.then0 (by repeat (first | exact Fr.refl _ _ | assumption | refine Fr.alloc ?_ _ | refine Fr.drew ?_ | refine Fr.drewN ?_ _ | refine Fr.setCell ?_ (.inr (by simp; try omega)) _)) hf1)).mono ?_); rintro e w2 ⟨rfl, hf2⟩; have hb0 := hf2.held w.heap.size HB0.out; obtain ⟨m0', n0', k0'⟩ := box_cells hb0; have hb1 := hf2.held (w.heap.size + 1) HB1.out; obtain ⟨m1', n1', k1'⟩ := box_cells hb1; have HB2 := Lib.hid hb0; have HB3 := Lib.hid hb1; clear hb0 hb1))
  have hF := (((Fr.refl N0 w).alloc _ |>.alloc _).then0 hf1).then0 hf2 |>.then0 hf3
  have HA0 := Lib.hid (show BoxS w w.heap.size _ w3 from ⟨m0'', k0'', hF⟩)
  have HA1 := Lib.hid (show BoxS w (w.heap.size + 1) _ w3 from ⟨m1'', k1'', hF⟩)
  clear HB0 HB1 HB2 HB3 HB4 HB5 m0 n0 k0 m1 n1 k1 m0' n0' k0' m1' n1' k1' m0'' n0'' k0'' m1'' n1'' k1'' HW HG HL hf1 hf2 hf3 hF
  go_loopw [5] (fun i wr => ∃ k : Nat, k ≤ ks.length ∧ i = .int .i64 k ∧ Fr N0 w3 wr) (fun i _ => ks.length - (intOf i).toNat)
  case atStart => exact ⟨0, Nat.zero_le _, rfl, Fr.refl _ _⟩
  case round =>
    obtain ⟨k, hk, rfl, hfr⟩ := hrel
    have hA := boxS_keep hfr HA0.out; have hB := boxS_keep hfr HA1.out
    have m0 := hA.1; have m1 := hB.1; have hfw := hA.2.2
    clear hA hB
    by_cases hlt : k < ks.length
    · obtain rfl := p3 (by omega)
      obtain rfl := q3 (by omega)
      have d0 := hfw.cell id (P.out k hlt); have d1 := hfw.cell id (Q.out k hlt)
      obtain ⟨x, hx⟩ : ∃ x, ks[k] = x := ⟨_, rfl⟩
      rw [hx] at d0 d1
      have hki : (k : Int) < (ks.length : Int) := by omega
      have hxx : (x.toList == x.toList) = true := beq_self_eq_true _
      clear hx
      go_wp2
      all_goals try (go_quiet (fail); go_wp2)
      go_roundw
      case rel => exact ⟨k + 1, by omega, by go_num, by first | exact hfr | exact hfr.drewN _⟩
      case measure => simp [intOf]; omega
    · obtain rfl : k = ks.length := by omega
      have HF0 := Lib.hid hfr
      obtain ⟨W1, hW1⟩ : ∃ W1, wr = W1 := ⟨_, rfl⟩
      rw [hW1] at m0 m1 HF0 hfw ⊢
      clear hW1 hfr
      have HFW := Lib.hid hfw
      clear hfw
      go_wp2
      clear m0 m1
      go_loopw [6] (fun i wr => ∃ k : Nat, k ≤ ns.length ∧ i = .int .i64 k ∧ Fr N0 w3 wr) (fun i _ => ns.length - (intOf i).toNat)
      case atStart => exact ⟨0, Nat.zero_le _, rfl, HF0.out⟩
      case round =>
        obtain ⟨k, hk, rfl, hfr⟩ := hrel
        have hA := boxS_keep hfr HA0.out; have hB := boxS_keep hfr HA1.out
        have m0 := hA.1; have m1 := hB.1; have hfw := hA.2.2
        clear hA hB
        by_cases hlt : k < ns.length
        · obtain rfl := r3 (by omega)
          obtain rfl := s3 (by omega)
          obtain ⟨f0, f1, f2⟩ := rt_cells (W := w) (R.out k hlt)
          obtain ⟨g0, g1, g2⟩ := rt_cells (W := w) (S.out k hlt)
          replace f0 := hfw.cell id f0; replace f1 := hfw.cell id f1; replace g0 := hfw.cell id g0; replace g1 := hfw.cell id g1; replace f2 := hfw.cell id f2; replace g2 := hfw.cell id g2
          obtain ⟨x, hx⟩ : ∃ x, ns[k] = x := ⟨_, rfl⟩
          simp only [hx] at f0 f1 f2 g0 g1 g2
          have hki : (k : Int) < (ns.length : Int) := by omega
          clear hx
          go_wp2
          all_goals try (go_quiet (fail); go_wp2)
          go_roundw
          case rel => exact ⟨k + 1, by omega, by go_num, by first | exact hfr | exact hfr.drewN _⟩
          case measure => simp [intOf]; omega
        · go_wp2
          go_ret
          exact ⟨rfl, hfw⟩
end Go.Proofs.YthidminepegnoaaGreatDoor
namespace Go.Proofs.YthidminepegnoaaGreatDoor
open Go.RowKit Go.Shelf Go.Maps Go.Sort
attribute [local go_sem] Oper.semAt_some
attribute [local irreducible] wpQuiet
set_option linter.unusedVariables false
set_option linter.unusedSimpArgs false

def tpLoopOf : Code → Code
  | .seq _ (.block _ (.loop c)) => c
  | c => c
def tpBodyOf : Code → Code
  | .seq _ (.seq (.block _ c) _) => c
  | c => c
def tpStepOf : Code → Code
  | .seq _ (.seq _ c) => c
  | c => c
/-- The loop's round, and what a 'continue' leaves. -/
noncomputable def tpL : Code := tpLoopOf (lvFst (lvSuf 6 ((Tryz.f3.body).getD .skip)))
noncomputable def tpB : Code := tpBodyOf tpL
noncomputable def tpCode (n : Nat) : Code := lvFst (lvSuf n tpB)
noncomputable def tpLast : Code := lvSuf 8 tpB
theorem tpB_eq : tpB = .seq (tpCode 0) (.seq (tpCode 1) (.seq (tpCode 2) (.seq (tpCode 3) (.seq (tpCode 4) (.seq (tpCode 5) (.seq (tpCode 6) (.seq (tpCode 7) tpLast))))))) := by kernel_rfl
theorem tpL_eq : tpL = .seq (lvFst tpL) (.seq (.block 1 tpB) (tpStepOf tpL)) := by kernel_rfl

theorem ask_cells {W : World} {b o k : Nat} {x : AkV} (hc : ∀ c, c < 14 → W.cell? ⟨b, o + k * 14 + c, none⟩ = (x.enc)[c]?) :
    W.cell? ⟨b, o + k * 14, none⟩ = some (.int .i64 x.an.code) ∧ W.cell? ⟨b, o + k * 14 + 1, none⟩ = some (.int .u64 x.an.first) ∧ W.cell? ⟨b, o + k * 14 + 2, none⟩ = some (.int .u64 x.an.commit) ∧ W.cell? ⟨b, o + k * 14 + 3, none⟩ = some (.string x.an.tab.pred) ∧ W.cell? ⟨b, o + k * 14 + 4, none⟩ = some (.int .u32 x.an.tab.group) ∧ W.cell? ⟨b, o + k * 14 + 5, none⟩ = some (.int .u32 x.an.tab.tto) ∧ W.cell? ⟨b, o + k * 14 + 6, none⟩ = some (.int .u64 x.an.tab.at_) ∧ W.cell? ⟨b, o + k * 14 + 7, none⟩ = some (.int .u64 x.an.tab.turn) ∧ W.cell? ⟨b, o + k * 14 + 8, none⟩ = some x.vl ∧ W.cell? ⟨b, o + k * 14 + 9, none⟩ = some x.vw ∧ W.cell? ⟨b, o + k * 14 + 10, none⟩ = some x.vt ∧ W.cell? ⟨b, o + k * 14 + 11, none⟩ = some (.int .u32 x.group) ∧ W.cell? ⟨b, o + k * 14 + 12, none⟩ = some (.int .i64 x.code) ∧ W.cell? ⟨b, o + k * 14 + 13, none⟩ = some (.string x.pred) :=
  ⟨hc 0 (by omega), hc 1 (by omega), hc 2 (by omega), hc 3 (by omega), hc 4 (by omega), hc 5 (by omega), hc 6 (by omega), hc 7 (by omega), hc 8 (by omega), hc 9 (by omega), hc 10 (by omega), hc 11 (by omega), hc 12 (by omega), hc 13 (by omega)⟩

/-- Its three slices are slices. -/
def AkV.Sl (r : AkV) : Prop := (∃ a n c, r.vl = .slice a n c) ∧ (∃ a n c, r.vw = .slice a n c) ∧ ∃ a n c, r.vt = .slice a n c
theorem AkV.Is.sl {w : World} {r : AkV} {a : Ak} (h : r.Is w a) : r.Sl := by
  obtain ⟨_, a1, _, c1, h1, -⟩ := h.l
  obtain ⟨_, a2, _, c2, h2, -⟩ := h.ws
  obtain ⟨_, a3, _, c3, h3, -⟩ := h.tbs
  exact ⟨⟨_, _, _, h1⟩, ⟨_, _, _, h2⟩, ⟨_, _, _, h3⟩⟩
set_option maxRecDepth 100000 in
set_option maxHeartbeats 4000000 in
/-- a := asks[i] -/
theorem tp0 {K : Act → World → Prop} {Q : Exit → Act → World → Prop} (W : World) (f : Nat → Value) (k nA cA bA oA : Nat) (r : AkV) (hs : r.Sl) (h1 : f 1 = .slice (some ⟨bA, oA, none⟩) nA cA) (h8 : f 8 = .int .i64 k) (hk : k < nA) (hn : nA ≤ 60)
    (hc : ∀ c, c < 14 → W.cell? ⟨bA, oA + k * 14 + c, none⟩ = (r.enc)[c]?)
    (hK : ∀ f' W' B, f' 0 = f 0 → f' 1 = f 1 → f' 5 = f 5 → f' 7 = f 7 → f' 8 = f 8 → f' 9 = .pointer (some ⟨B, 0, none⟩) → W'.heap[B]? = some (.cells r.enc.toArray 49 (0, 0)) → Fr N0 W W' → K (frA 119 f') W') :
    Code.wp Tryz.prog (tpCode 0) (Exit.then K Q) (frA 119 f) W := by
  obtain ⟨c0, c1, c2, c3, c4, c5, c6, c7, c8, c9, c10, c11, c12, c13⟩ := ask_cells hc
  have HK := Lib.hid hK
  clear hK hc
  have hk' : (k : Int) < (nA : Int) := by omega
  obtain ⟨⟨ac, af, am, tp, tg, tt, ta, tu⟩, rl, rw_, rt, rg, rc, rp⟩ := r
  obtain ⟨⟨la, ln, lc, h⟩, ⟨wa, wn, wc, h'⟩, ⟨ta_, tn_, tc_, h''⟩⟩ := hs
  simp only at h h' h''
  subst h h' h''
  simp only at c0 c1 c2 c3 c4 c5 c6 c7 c8 c9 c10 c11 c12 c13
  have H1 := Lib.hid h1; have H8 := Lib.hid h8
  show Code.wp _ _ _ { tmps := #[f 0, f 1, f 2, f 3, f 4, f 5, f 6, f 7, f 8, f 9, f 10, f 11, f 12, f 13, f 14, f 15, f 16, f 17, f 18, f 19, f 20, f 21, f 22, f 23, f 24, f 25, f 26, f 27, f 28, f 29, f 30, f 31, f 32, f 33, f 34, f 35, f 36, f 37, f 38, f 39, f 40, f 41, f 42, f 43, f 44, f 45, f 46, f 47, f 48, f 49, f 50, f 51, f 52, f 53, f 54, f 55, f 56, f 57, f 58, f 59, f 60, f 61, f 62, f 63, f 64, f 65, f 66, f 67, f 68, f 69, f 70, f 71, f 72, f 73, f 74, f 75, f 76, f 77, f 78, f 79, f 80, f 81, f 82, f 83, f 84, f 85, f 86, f 87, f 88, f 89, f 90, f 91, f 92, f 93, f 94, f 95, f 96, f 97, f 98, f 99, f 100, f 101, f 102, f 103, f 104, f 105, f 106, f 107, f 108, f 109, f 110, f 111, f 112, f 113, f 114, f 115, f 116, f 117, f 118], defers := [] } _
  rw [h1, h8]
  clear h1 h8
  conv => arg 2; whnf
  go_wp2
  (refine cut_use (n := 119) (K := K) _ rfl ?_; exact HK.out _ _ W.heap.size rfl H1.out.symm rfl rfl H8.out.symm rfl (blkN rfl) ((Fr.refl _ _).alloc _))

set_option maxRecDepth 100000 in
set_option maxHeartbeats 4000000 in
/-- is it small? -/
theorem tp1 {K : Act → World → Prop} {Q : Exit → Act → World → Prop} (W : World) (f : Nat → Value) (B : Nat) (r : AkV) (a : Ak) (ha : r.Is W a) (h9 : f 9 = .pointer (some ⟨B, 0, none⟩)) (hb : W.heap[B]? = some (.cells r.enc.toArray 49 (0, 0)))
    (hQ : ∀ f' W', f' 4 = .bool true → Fr N0 W W' → Q .ret (frA 119 f') W')
    (hK : ∀ f' W', f' 0 = f 0 → f' 1 = f 1 → f' 5 = f 5 → f' 7 = f 7 → f' 8 = f 8 → f' 9 = f 9 → Fr N0 W W' → a.l.length ≤ 300 → a.ws.length ≤ 300 → a.tbs.length ≤ 300 → K (frA 119 f') W') :
    Code.wp Tryz.prog (tpCode 1) (Exit.then K Q) (frA 119 f) W := by
  obtain ⟨-, ⟨bl, hl⟩, ⟨bw, hw⟩, ⟨bt, ht⟩, -, -, -, -⟩ := ha
  have hS := lSmall_any
  obtain ⟨⟨ac, af, am, tp, tg, tt, ta, tu⟩, rl, rw_, rt, rg, rc, rp⟩ := r
  obtain ⟨al, ol, cl, rfl, l1, l2, -, -, -⟩ := hl
  obtain ⟨at_, ot, ct, rfl, t1, t2, -, -, -⟩ := ht
  simp only at hw
  have hw' := hw
  obtain ⟨aw_, ow, cw, rfl, -⟩ := hw'
  have hb' : W.heap[B]? = some (.cells #[.int .i64 ac, .int .u64 af, .int .u64 am, .string tp, .int .u32 tg, .int .u32 tt, .int .u64 ta, .int .u64 tu, .slice al a.l.length cl, .slice aw_ a.ws.length cw, .slice at_ a.tbs.length ct, .int .u32 rg, .int .i64 rc, .string rp] 49 (0, 0)) := hb
  replace hb := hb'
  clear hb'
  obtain ⟨nl, hnl⟩ : ∃ n, a.l.length = n := ⟨_, rfl⟩
  obtain ⟨nw, hnw⟩ : ∃ n, a.ws.length = n := ⟨_, rfl⟩
  obtain ⟨nt, hnt⟩ : ∃ n, a.tbs.length = n := ⟨_, rfl⟩
  simp only [hnl, hnw, hnt] at hb
  obtain ⟨m0, n0, l0⟩ := box_cells hb
  have HB := Lib.hid hb; have HQ := Lib.hid hQ; have HK := Lib.hid hK; have HW := Lib.hid hw; have HS := Lib.hid hS
  clear hb hQ hK hw hS
  have hS2 := fun W h => HS.out W bw (.slice aw_ a.ws.length cw) a.ws h
  rw [hnw] at hS2
  have HS2 := Lib.hid hS2
  clear hS2
  rw [hnl, hnw, hnt] at HK
  rw [hnl] at l1
  rw [hnt] at t1
  rw [hnw] at HW
  clear HS hnl hnw hnt
  have H9 := Lib.hid h9
  have hnl' : (nl : Int) ≤ 9223372036854775807 := by omega
  have hnt' : (nt : Int) ≤ 9223372036854775807 := by omega
  show Code.wp _ _ _ { tmps := #[f 0, f 1, f 2, f 3, f 4, f 5, f 6, f 7, f 8, f 9, f 10, f 11, f 12, f 13, f 14, f 15, f 16, f 17, f 18, f 19, f 20, f 21, f 22, f 23, f 24, f 25, f 26, f 27, f 28, f 29, f 30, f 31, f 32, f 33, f 34, f 35, f 36, f 37, f 38, f 39, f 40, f 41, f 42, f 43, f 44, f 45, f 46, f 47, f 48, f 49, f 50, f 51, f 52, f 53, f 54, f 55, f 56, f 57, f 58, f 59, f 60, f 61, f 62, f 63, f 64, f 65, f 66, f 67, f 68, f 69, f 70, f 71, f 72, f 73, f 74, f 75, f 76, f 77, f 78, f 79, f 80, f 81, f 82, f 83, f 84, f 85, f 86, f 87, f 88, f 89, f 90, f 91, f 92, f 93, f 94, f 95, f 96, f 97, f 98, f 99, f 100, f 101, f 102, f 103, f 104, f 105, f 106, f 107, f 108, f 109, f 110, f 111, f 112, f 113, f 114, f 115, f 116, f 117, f 118], defers := [] } _
  rw [h9]
  clear h9
  conv => arg 2; whnf
  by_cases h3 : 300 < (nl : Int)
  all_goals by_cases h4 : 300 < (nt : Int)
  all_goals
    go_wp2_with fail
    refine (HS2.out _ (Wrs.fr0 HW.out (by repeat (first | exact Fr.refl _ _ | assumption | refine Fr.alloc ?_ _ | refine Fr.drew ?_ | refine Fr.drewN ?_ _ | refine Fr.setCell ?_ (.inr (by simp; try omega)) _)))).mono ?_
    rintro e W2 ⟨q, rfl, hq, hf⟩
    have hz := hf.held B HB.out
    obtain ⟨mz, nz, lz⟩ := box_cells hz
    have HQ2 := Lib.hid hq; have HF := Lib.hid hf
    clear hz hq hf m0 n0 l0 HB
    cases q
    all_goals go_wp2
  all_goals first
    | (refine cut_useQ (n := 119) (Q := Q) _ rfl ?_; exact HQ.out _ _ rfl HF.out)
    | (refine cut_use (n := 119) (K := K) _ rfl ?_; exact HK.out _ _ rfl rfl rfl rfl rfl H9.out.symm HF.out (by omega) (HQ2.out trivial) (by omega))

set_option maxRecDepth 100000 in
set_option maxHeartbeats 4000000 in
/-- k := int(kinds[i]) % 7 -/
theorem tp2 {K : Act → World → Prop} {Q : Exit → Act → World → Prop} (W : World) (f : Nat → Value) (k nK cK bK oK x : Nat) (h0 : f 0 = .slice (some ⟨bK, oK, none⟩) nK cK) (h8 : f 8 = .int .i64 k) (hk : k < nK) (hn : nK ≤ 60)
    (hx : x < 256) (hc : W.cell? ⟨bK, oK + k, none⟩ = some (.int .u8 x))
    (hK : ∀ f' W', f' 0 = f 0 → f' 1 = f 1 → f' 5 = f 5 → f' 7 = f 7 → f' 8 = f 8 → f' 9 = f 9 → f' 10 = .int .i64 ((x % 7 : Nat) : Int) → Fr N0 W W' → K (frA 119 f') W') :
    Code.wp Tryz.prog (tpCode 2) (Exit.then K Q) (frA 119 f) W := by
  have HK := Lib.hid hK
  clear hK
  have hk' : (k : Int) < (nK : Int) := by omega
  have hx' : (x : Int) < 256 := by omega
  have H0 := Lib.hid h0; have H8 := Lib.hid h8
  show Code.wp _ _ _ { tmps := #[f 0, f 1, f 2, f 3, f 4, f 5, f 6, f 7, f 8, f 9, f 10, f 11, f 12, f 13, f 14, f 15, f 16, f 17, f 18, f 19, f 20, f 21, f 22, f 23, f 24, f 25, f 26, f 27, f 28, f 29, f 30, f 31, f 32, f 33, f 34, f 35, f 36, f 37, f 38, f 39, f 40, f 41, f 42, f 43, f 44, f 45, f 46, f 47, f 48, f 49, f 50, f 51, f 52, f 53, f 54, f 55, f 56, f 57, f 58, f 59, f 60, f 61, f 62, f 63, f 64, f 65, f 66, f 67, f 68, f 69, f 70, f 71, f 72, f 73, f 74, f 75, f 76, f 77, f 78, f 79, f 80, f 81, f 82, f 83, f 84, f 85, f 86, f 87, f 88, f 89, f 90, f 91, f 92, f 93, f 94, f 95, f 96, f 97, f 98, f 99, f 100, f 101, f 102, f 103, f 104, f 105, f 106, f 107, f 108, f 109, f 110, f 111, f 112, f 113, f 114, f 115, f 116, f 117, f 118], defers := [] } _
  rw [h0, h8]
  clear h0 h8
  conv => arg 2; whnf
  go_wp2
  (refine cut_use (n := 119) (K := K) _ rfl ?_; exact HK.out _ _ H0.out.symm rfl rfl rfl H8.out.symm rfl (by simp) (Fr.refl _ _))
end Go.Proofs.YthidminepegnoaaGreatDoor
