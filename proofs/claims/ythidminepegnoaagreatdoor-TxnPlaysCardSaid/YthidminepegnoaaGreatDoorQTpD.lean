/- The chapter's example, walked. TxnPlays, walked. -/
import Derived.Test.YthidminepegnoaaGreatDoorQLv4
import Derived.Test.YthidminepegnoaaGreatDoorQStep2
import Derived.Test.YthidminepegnoaaGreatDoorQTpC
namespace Go.Proofs.YthidminepegnoaaGreatDoor
open Go.RowKit Go.Shelf Go.Maps Go.Sort
attribute [local go_sem] Oper.semAt_some
attribute [local irreducible] wpQuiet
set_option linter.unusedVariables false
set_option linter.unusedSimpArgs false

theorem l_fine : ∀ x ∈ [lW1, lW2], x.ok ∧ x.pred.size ≤ maxLen := fun x hx => by
  simp at hx
  rcases hx with rfl | rfl
  · exact ⟨⟨by decide, by unfold Val.ok; decide⟩, by decide⟩
  · exact ⟨⟨by decide, by unfold Val.ok; decide⟩, by decide⟩
theorem lx4 (W : World) (v : Value) (bl bw : Nat) (vl vws : Value) (h : IsTxn W v lT2) (hl : Schs W bl vl lSch) (hw : Wrs W bw vws [lW1, lW2]) (hM : MaxAt W) : Calls Tryz.prog 24 #[v, vl, vws] W fun e w' => StepPost2 W lT3 0 e w' := by
  have := xWrite_any W v lT2 h l_inv2 bl bw vl vws lSch [lW1, lW2] hl hw (fun x hx => (l_fine x hx).1) (fun x hx => (l_fine x hx).2) hM (by decide) (by decide)
  rw [l_write] at this
  exact this
theorem lx5 (W : World) (v : Value) (bt : Nat) (vt : Value) (h : IsTxn W v lT3) (ht : Tbs W bt vt lTbs) : Calls Tryz.prog 27 #[v, vt] W fun e w' => StepPost W (lT4 [1, 2] 3 0) (again (lT4 [1, 2] 3 0)) 0 e w' := by
  have := xCommit_any W v lT3 h l_inv3 bt vt lTbs ht (fun x hx => by
    simp [lTbs] at hx
    rcases hx with rfl | rfl
    · exact ⟨⟨by decide, by decide⟩, by decide, by decide⟩
    · exact ⟨⟨by decide, by decide⟩, by decide, by decide⟩) (by decide)
  rw [l_commit, if_pos rfl] at this
  exact this
theorem lx6 (W : World) (v : Value) (h : IsTxn W v (lT4 [1, 2] 3 0)) : Calls Tryz.prog 28 #[v, .int .u32 1, .int .i64 0] W fun e w' => StepPost W (lT4 [2] 3 0) [] 0 e w' := by
  have := xStaged_any W v _ h l_inv4 1 0
  rw [l_staged1, if_neg (by simp [lT4])] at this
  exact this
theorem lx7 (W : World) (v : Value) (h : IsTxn W v (lT4 [2] 3 0)) : Calls Tryz.prog 28 #[v, .int .u32 2, .int .i64 0] W fun e w' => StepPost W (lT4 [] 4 0) (again (lT4 [] 4 0)) 0 e w' := by
  have := xStaged_any W v _ h l_inv5 2 0
  rw [l_staged2, if_pos ⟨rfl, rfl⟩] at this
  exact this
theorem lx9 (W : World) (v : Value) (h : IsTxn W v (lT4 [] 4 0)) : Calls Tryz.prog 29 #[v, .agg (An.enc ⟨0, 0, 4, ⟨⟨#[]⟩, 0, 0, 0, 0⟩⟩).toArray] W fun e w' => StepPost W (lT4 [1, 2] 5 4) (again (lT4 [1, 2] 5 4)) 0 e w' := by
  have := xDecided_any W v _ h l_inv6 ⟨0, 0, 4, ⟨⟨#[]⟩, 0, 0, 0, 0⟩⟩ (by decide)
  rw [l_decided, if_pos rfl] at this
  exact this
theorem lx10 (W : World) (v : Value) (h : IsTxn W v (lT4 [1, 2] 5 4)) : Calls Tryz.prog 30 #[v, .int .u32 2, .int .i64 0] W fun e w' => StepPost W (lT4 [1] 5 4) [] 0 e w' := by
  have := xFinaled_any W v _ h l_inv7 2 0
  rw [l_finaled1, if_neg (by simp)] at this
  exact this
theorem lx11 (W : World) (v : Value) (h : IsTxn W v (lT4 [1] 5 4)) : Calls Tryz.prog 30 #[v, .int .u32 1, .int .i64 7] W fun e w' => StepPost W (lT4 [1] 5 4) [{ group := 1, skind := 3, sstart := 3, scommit := 4 }] 0 e w' := by
  have := xFinaled_any W v _ h l_inv8 1 7
  rw [l_finaled2, if_pos ⟨rfl, by decide⟩] at this
  exact this
theorem lx12 (W : World) (v : Value) (h : IsTxn W v (lT4 [1] 5 4)) : Calls Tryz.prog 30 #[v, .int .u32 1, .int .i64 0] W fun e w' => StepPost W lT9 [] 0 e w' := by
  have := xFinaled_any W v _ h l_inv8 1 0
  rw [l_finaled3, if_neg (by simp)] at this
  exact this
theorem sent_first {W : World} {v : Value} {o : Out} (h : Sent W v [o]) : ∃ bo oo c ak ck, v = .slice (some ⟨bo, oo, none⟩) 1 c ∧ W.cell? ⟨bo, oo + 1, none⟩ = some (.int .u8 o.okind) ∧ W.cell? ⟨bo, oo + 4, none⟩ = some (.slice ak o.okeys.length ck) := by
  obtain ⟨b, rs, ⟨a, off, cap, rfl, h1, h2, h3, h4, h5⟩, hl, hi⟩ := h
  simp only [List.length_singleton] at hl
  obtain rfl := h3 (by omega)
  have hr := hi 0 (by omega) (by simp)
  obtain ⟨bk, ak, ok, ck, hk, -⟩ := hr.ks
  refine ⟨b, off, cap, ak, ck, by rw [hl], ?_, ?_⟩
  · have := h5 0 (by omega) 1 (by decide)
    rw [Nat.zero_mul] at this
    exact this.trans (by simp [OutV.enc, hr.nums.2.1])
  · have := h5 0 (by omega) 4 (by decide)
    rw [Nat.zero_mul] at this
    exact this.trans (by simp [OutV.enc, hk])

set_option maxRecDepth 100000 in
set_option maxHeartbeats 4000000 in
theorem lLives_any (w : World) (hM : MaxAt w) : Calls Tryz.prog 5 #[] w fun e w' => e = .returned (.bool true) ∧ Fr N0 w w' := by
  have hB := fun W => xBegin_any W
  obtain ⟨T2, hT2e⟩ : ∃ T, lT2 = T := ⟨_, rfl⟩
  have hS := fun W v (h : IsTxn W v { phase := 1 }) => by
    have := xStarted_any W v _ h inv_begin ⟨0, 3, 0, ⟨⟨#[]⟩, 0, 0, 0, 0⟩⟩
    rw [l_started] at this
    simp only [hT2e] at this
    exact this
  have HB := Lib.hid hB; have HS := Lib.hid hS
  clear hB hS
  go_enter Tryz.func5, Tryz.ntmps5
  go_wp2_with (go_at_call 6; go_loud (refine (HB.out _).mono ?_); rintro e w1 ⟨v1, vo1, rfl, ⟨vw1, vk1, vn1, vg1, vl1, rfl, hT1⟩, hO1, hf1⟩; obtain ⟨⟨aw1, cw1, rfl⟩, ⟨ak1, ck1, rfl⟩, ⟨an1, cn1, rfl⟩, ⟨ag1, cg1, rfl⟩, ⟨al1, cl1, rfl⟩⟩ := hT1.shapes; have HT1 := Lib.hid hT1; have HO1 := Lib.hid hO1; clear hT1 hO1)
  have hf : Fr N0 w (w1.alloc (.cells #[.int .u8 1, .int .u64 0, .int .u64 0, .slice aw1 0 cw1, .slice ak1 0 ck1, .slice an1 0 cn1, .slice ag1 0 cg1, .slice al1 0 cl1, .bool false] 32)) := hf1.alloc _
  have hb : (w1.alloc (.cells #[.int .u8 1, .int .u64 0, .int .u64 0, .slice aw1 0 cw1, .slice ak1 0 ck1, .slice an1 0 cn1, .slice ag1 0 cg1, .slice al1 0 cl1, .bool false] 32)).heap[w1.heap.size]? = _ := blkN rfl
  have hT : IsTxn (w1.alloc (.cells #[.int .u8 1, .int .u64 0, .int .u64 0, .slice aw1 0 cw1, .slice ak1 0 ck1, .slice an1 0 cn1, .slice ag1 0 cg1, .slice al1 0 cl1, .bool false] 32)) (.agg #[.int .u8 1, .int .u64 0, .int .u64 0, .slice aw1 0 cw1, .slice ak1 0 ck1, .slice an1 0 cn1, .slice ag1 0 cg1, .slice al1 0 cl1, .bool false]) { phase := 1 } := IsTxn.fr0 (w := w1) ⟨_, _, _, _, _, rfl, HT1.out⟩ ((Fr.refl _ _).alloc _)
  have hB := hf1.size
  obtain ⟨B, hBe⟩ : ∃ B, w1.heap.size = B := ⟨_, rfl⟩
  obtain ⟨W1, hW1⟩ : ∃ W, w1.alloc (.cells #[.int .u8 1, .int .u64 0, .int .u64 0, .slice aw1 0 cw1, .slice ak1 0 ck1, .slice an1 0 cn1, .slice ag1 0 cg1, .slice al1 0 cl1, .bool false] 32) = W := ⟨_, rfl⟩
  rw [hW1] at hf hb hT ⊢
  rw [hBe] at hb hB ⊢
  clear hW1 hBe hf1 HT1
  refine (HS.out _ _ hT).mono ?_
  rintro e w2 ⟨v2, vo2, rfl, ⟨vw2, vk2, vn2, vg2, vl2, rfl, hT2⟩, hO2, hf2⟩
  obtain ⟨⟨aw2, cw2, rfl⟩, ⟨ak2, ck2, rfl⟩, ⟨an2, cn2, rfl⟩, ⟨ag2, cg2, rfl⟩, ⟨al2, cl2, rfl⟩⟩ := hT2.shapes
  have hz := hf2.held B hb
  obtain ⟨mb, nb, lb⟩ := box_cells hz
  have HZ := Lib.hid hz; have HT2 := Lib.hid hT2; have HO2 := Lib.hid hO2; have HF2 := Lib.hid (hf.then0 hf2)
  clear hz hT2 hO2 hf hf2 hb hT
  clear W1
  go_wp2
  have hTold := (told_store (w := w) (R := B) hB HZ.out (dull_txn _ _ _ _ _ _ _ _ _ _ _ _ _ _ _ _ _ _ _) ⟨_, _, _, _, _, rfl, HT2.out⟩ HO2.out HF2.out).alloc (.cells #[.string ⟨#[97, 103, 101]⟩, .int .u8 2, .bool false, .bool false, .bool false, .bool false, .bool false, .bool false, .string ⟨#[110, 97, 109, 101]⟩, .int .u8 3, .bool false, .bool false, .bool false, .bool false, .bool false, .bool false] 72)
  have hsch : ((((((((((((w2.setCell ⟨B, 0, none⟩ (.int .u8 T2.phase)).setCell ⟨B, 1, none⟩ (.int .u64 T2.start)).setCell ⟨B, 2, none⟩ (.int .u64 T2.commit)).setCell ⟨B, 3, none⟩ (.slice aw2 T2.writes.length cw2)).setCell ⟨B, 4, none⟩ (.slice ak2 T2.keys.length ck2)).setCell ⟨B, 5, none⟩ (.slice an2 T2.needs.length cn2)).setCell ⟨B, 6, none⟩ (.slice ag2 T2.groups.length cg2)).setCell ⟨B, 7, none⟩ (.slice al2 T2.left.length cl2)).setCell ⟨B, 8, none⟩ (.bool T2.failed))).alloc (.cells #[.string ⟨#[97, 103, 101]⟩, .int .u8 2, .bool false, .bool false, .bool false, .bool false, .bool false, .bool false, .string ⟨#[110, 97, 109, 101]⟩, .int .u8 3, .bool false, .bool false, .bool false, .bool false, .bool false, .bool false] 72))).heap[w2.heap.size]? = _ := blkN (by simp [World.setCell])
  obtain ⟨Sb, hSb⟩ : ∃ S, w2.heap.size = S := ⟨_, rfl⟩
  obtain ⟨W3, hW3⟩ : ∃ W, (((((((((((w2.setCell ⟨B, 0, none⟩ (.int .u8 T2.phase)).setCell ⟨B, 1, none⟩ (.int .u64 T2.start)).setCell ⟨B, 2, none⟩ (.int .u64 T2.commit)).setCell ⟨B, 3, none⟩ (.slice aw2 T2.writes.length cw2)).setCell ⟨B, 4, none⟩ (.slice ak2 T2.keys.length ck2)).setCell ⟨B, 5, none⟩ (.slice an2 T2.needs.length cn2)).setCell ⟨B, 6, none⟩ (.slice ag2 T2.groups.length cg2)).setCell ⟨B, 7, none⟩ (.slice al2 T2.left.length cl2)).setCell ⟨B, 8, none⟩ (.bool T2.failed))).alloc (.cells #[.string ⟨#[97, 103, 101]⟩, .int .u8 2, .bool false, .bool false, .bool false, .bool false, .bool false, .bool false, .string ⟨#[110, 97, 109, 101]⟩, .int .u8 3, .bool false, .bool false, .bool false, .bool false, .bool false, .bool false] 72)) = W := ⟨_, rfl⟩
  rw [hW3] at hTold hsch ⊢
  rw [hSb] at hsch ⊢
  clear hW3 hSb HZ HT2 HO2 HF2 mb nb lb
  clear w2
  obtain ⟨hb3, hT3, hO3, hf3⟩ := hTold
  have hL3 : Lv w W3 B lT2 := hT2e ▸ ⟨_, _, _, _, _, _, _, _, _, _, hb3, hT3, hf3⟩
  have hl : Schs W3 Sb (.slice (some ⟨Sb, 0, none⟩) 2 2) lSch := rowsK_of_block (enc := Sch.enc) (n := 8) (fun _ => rfl) lSch hsch rfl (by decide)
  obtain ⟨a2, c2, rfl⟩ : ∃ a c, vo1 = .slice a 1 c := Sent.shape (W := w1) (l := again { phase := 1 }) HO1.out
  have hM3 := hM.fr0 hf3
  clear hsch hb3 hT3 hO3 hf3
  rename_i Kx hKx
  refine wp_frA _ rfl ?_
  refine lv4 w W3 B Sb lT2 lT3 hB _ (by rfl) (by rfl) hL3 hl hM3 lx4 fun f4 W4 p1 p2 p4 p6 hL4 => ?_
  refine hKx _ _ ?_
  refine wp_seq (lv5 w W4 B _ _ _ hB f4 p1 hL4 lx5 fun f5 W5 q1 q7 q8 q2 q4 q6 hL5 => ?_)
  refine wp_seq (lv6 w W5 B _ _ _ hB f5 q1 hL5 lx6 fun f6 W6 r1 r9 r10 r2 r4 r6 r7 r8 hL6 => ?_)
  refine wp_seq (lv7 w W6 B _ _ _ hB f6 r1 hL6 lx7 fun f7 W7 s1 s11 s12 s2 s4 s6 s7 s8 s9 s10 hL7 => ?_)
  have hag : again (lT4 [] 4 0) = [{ okind := 3, ostart := 3, okeys := claimsKeys lSch [lW1, lW2], oneeds := [⟨bAge, 1⟩, ⟨bName, 1⟩] }] := by simp [again, lT4]
  rw [hag] at s11
  obtain ⟨bo, oo, c11, ak, ck, e11, ek, eks⟩ := sent_first s11
  obtain ⟨a7, c7, e7⟩ := Sent.shape q7
  obtain ⟨a9, c9, e9⟩ := Sent.shape r9
  replace eks : W7.cell? ⟨bo, oo + 4, none⟩ = some (.slice ak 2 ck) := l_keys ▸ eks
  have g2 : f7 2 = .slice a2 1 c2 := s2.trans (r2.trans (q2.trans p2))
  refine wp_seq (lv8 w W7 B _ f7 s1 hL7 a2 c2 a7 c7 a9 c9 bo oo c11 ak ck g2 (s4.trans (r4.trans (q4.trans p4))) (by rw [s6, r6, q6, p6]) (by rw [s7, r7]; exact e7) (by rw [s8, r8, q8]) (by rw [s9]; exact e9) (by rw [s10, r10]) e11 s12 ek eks fun f8 W8 t1 hL8 => ?_)
  refine wp_seq (lv9 w W8 B _ _ _ hB f8 t1 hL8 lx9 fun f9 W9 u1 u13 u14 hL9 => ?_)
  refine wp_seq (lv10 w W9 B _ _ [] hB f9 u1 hL9 lx10 fun f10 W10 v1 v16 v13 v14 hL10 => ?_)
  refine wp_seq (lv11 w W10 B _ _ _ hB f10 v1 hL10 lx11 fun f11 W11 x1 x17 x18 x13 x14 x16 hL11 => ?_)
  refine wp_seq (lv12 w W11 B _ _ [] hB f11 x1 hL11 lx12 fun f12 W12 y1 y20 y13 y14 y16 y17 y18 hL12 => ?_)
  obtain ⟨a13, c13, e13⟩ := Sent.shape u13
  obtain ⟨a17, c17, e17⟩ := Sent.shape x17
  refine wp_seq (lv13 w W12 B _ f12 y1 hL12 rfl rfl a13 c13 a17 c17 (by rw [y13, x13, v13]; exact e13) (by rw [y14, x14, v14, u14]) (by rw [y16, x16, v16]) (by rw [y17]; exact e17) (by rw [y18, x18]) y20 fun f13 W13 z0 hF13 => ?_)
  refine wp_ret ?_
  exact bodyPost_ret (v := .bool true) (by simp [results, frA, Tryz.results5, go_sem, z0]) rfl ⟨rfl, hF13⟩
end Go.Proofs.YthidminepegnoaaGreatDoor
namespace Go.Proofs.YthidminepegnoaaGreatDoor
open Go.RowKit Go.Shelf Go.Maps Go.Sort
attribute [local go_sem] Oper.semAt_some
attribute [local irreducible] wpQuiet
set_option linter.unusedVariables false
set_option linter.unusedSimpArgs false

/-- Its loop. -/
theorem tpLoop {Q : Exit → Act → World → Prop} (w W : World) (A B : Nat) (v0 v1 : Value) (f : Nat → Value) (hM : MaxAt w) (bK bA : Nat) (ks : List Int) (hks : Ints .u8 w bK v0 ks) (rs : List AkV) (hrs : RowsK AkV.enc 14 w bA v1 rs) (has : ∀ r ∈ rs, ∃ a, r.Is w a) (hk60 : ks.length ≤ 60) (ha60 : rs.length ≤ 60)
    (hwA : w.heap.size ≤ A) (hwB : w.heap.size ≤ B) (hAB : A ≠ B) (hI : TpS w A B v0 v1 0 f W)
    (hx : ∀ f W', Fr N0 w W' → Q (.exit 0) (frA 119 f) W') (hr : ∀ f W', f 4 = .bool true → Fr N0 w W' → Q .ret (frA 119 f) W') :
    Code.wp Tryz.prog (.loop tpL) Q (frA 119 f) W := by
  refine wp_loop (fun a W => ∃ f k, a = frA 119 f ∧ TpS w A B v0 v1 k f W) (fun a _ => 60 - (intOf (a.tmps.getD 8 undef)).toNat) ⟨f, 0, rfl, hI⟩ ?_
  rintro _ W1 ⟨f1, k, rfl, hI1⟩
  refine Code.wp_mono ?_ (tpR (Q0 := Q) w W1 A B k v0 v1 f1 hM bK bA ks hks rs hrs has hk60 ha60 hwA hwB hAB hI1 hx hr)
  intro e a' W' h
  cases e with
  | normal =>
    obtain ⟨hk, f', rfl, hI'⟩ := h
    refine ⟨⟨f', k + 1, rfl, hI'⟩, ?_⟩
    have e1 : (frA 119 f').tmps.getD 8 undef = f' 8 := rfl
    have e2 : (frA 119 f1).tmps.getD 8 undef = f1 8 := rfl
    rw [e1, e2, hI'.2.2.2.2.1, hI1.2.2.2.2.1]
    simp [intOf]
    omega
  | exit id => exact h
  | goto l => exact h
  | ret => exact h
  | panic ch => exact h
  | outgrown => exact h

set_option maxRecDepth 100000 in
set_option maxHeartbeats 8000000 in
theorem lPlays_any (w : World) (v0 v1 : Value) (hM : MaxAt w) (bK bA : Nat) (ks : List Int) (hks : Ints .u8 w bK v0 ks) (rs : List AkV) (hrs : RowsK AkV.enc 14 w bA v1 rs) (has : ∀ r ∈ rs, ∃ a, r.Is w a) :
    Calls Tryz.prog 3 #[v0, v1] w fun e w' => e = .returned (.bool true) ∧ Fr N0 w w' := by
  have hE := lLives_any w hM
  have hB := fun W => xBegin_any W
  have hR := fun W => rBegin_any W
  have hS := fun W v v' h h' => rSame_any W v v' { phase := 1 } h h' (by simp) (by simp) (by simp) (by simp) (by simp)
  have hG := fun W v (h : IsTxn W v { phase := 1 }) => rAgain_any W v _ h inv_begin
  have hO := fun W v v' h h' => lSameOuts_any W v v' (again { phase := 1 }) h h' (by simp [again]) (by simp [again])
  have hks' := hks; have hrs' := hrs
  obtain ⟨aK, oK, cK, hv0, k1, k2, -, -, -, -⟩ := hks'
  obtain ⟨aA, oA, cA, hv1, a1, a2, -, -, -⟩ := hrs'
  subst hv0 hv1
  have HE := Lib.hid hE; have HB := Lib.hid hB; have HR := Lib.hid hR; have HS := Lib.hid hS; have HG := Lib.hid hG; have HO := Lib.hid hO; have HK := Lib.hid hks; have HA := Lib.hid hrs; have HH := Lib.hid has
  clear hE hB hR hS hG hO hks hrs has
  obtain ⟨nK, hnK⟩ : ∃ n, ks.length = n := ⟨_, rfl⟩
  obtain ⟨nA, hnA⟩ : ∃ n, rs.length = n := ⟨_, rfl⟩
  have HNK := Lib.hid hnK; have HNA := Lib.hid hnA
  rw [hnK] at k1 HK ⊢
  rw [hnA] at a1 HA ⊢
  clear hnK hnA
  go_enter Tryz.func3, Tryz.ntmps3
  by_cases h3 : 60 < (nK : Int)
  · go_wp2_with fail
    refine HE.out.mono ?_
    rintro e w1 ⟨rfl, hf1⟩
    have HF1 := Lib.hid hf1
    clear hf1
    go_wp2
    go_ret
    exact ⟨rfl, HF1.out⟩
  by_cases h4 : 60 < (nA : Int)
  · go_wp2_with fail
    refine HE.out.mono ?_
    rintro e w1 ⟨rfl, hf1⟩
    have HF1 := Lib.hid hf1
    clear hf1
    go_wp2
    go_ret
    exact ⟨rfl, HF1.out⟩
  go_wp2_with fail
  refine HE.out.mono ?_
  rintro e w1 ⟨rfl, hf1⟩
  have HF1 := Lib.hid hf1
  clear hf1
  go_wp2_with fail
  refine (HB.out _).mono ?_
  rintro e w2 ⟨v1, vo1, rfl, ⟨vw1, vk1, vn1, vg1, vl1, rfl, hT1⟩, hO1, hf2⟩
  obtain ⟨⟨aw1, cw1, rfl⟩, ⟨ak1, ck1, rfl⟩, ⟨an1, cn1, rfl⟩, ⟨ag1, cg1, rfl⟩, ⟨al1, cl1, rfl⟩⟩ := hT1.shapes
  have HT1 := Lib.hid hT1; have HO1 := Lib.hid hO1; have HF2 := Lib.hid hf2
  clear hT1 hO1 hf2
  go_wp2_with fail
  have hbA : (w2.alloc (.cells #[.int .u8 1, .int .u64 0, .int .u64 0, .slice aw1 0 cw1, .slice ak1 0 ck1, .slice an1 0 cn1, .slice ag1 0 cg1, .slice al1 0 cl1, .bool false] 32)).heap[w2.heap.size]? = _ := blkN rfl
  have hTA : IsTxn (w2.alloc (.cells #[.int .u8 1, .int .u64 0, .int .u64 0, .slice aw1 0 cw1, .slice ak1 0 ck1, .slice an1 0 cn1, .slice ag1 0 cg1, .slice al1 0 cl1, .bool false] 32)) (.agg #[.int .u8 1, .int .u64 0, .int .u64 0, .slice aw1 0 cw1, .slice ak1 0 ck1, .slice an1 0 cn1, .slice ag1 0 cg1, .slice al1 0 cl1, .bool false]) { phase := 1 } := IsTxn.fr0 (w := w2) ⟨_, _, _, _, _, rfl, HT1.out⟩ ((Fr.refl _ _).alloc _)
  have hOA := HO1.out.fr0 ((Fr.refl N0 w2).alloc (.cells #[.int .u8 1, .int .u64 0, .int .u64 0, .slice aw1 0 cw1, .slice ak1 0 ck1, .slice an1 0 cn1, .slice ag1 0 cg1, .slice al1 0 cl1, .bool false] 32))
  have hFA : Fr N0 w (w2.alloc (.cells #[.int .u8 1, .int .u64 0, .int .u64 0, .slice aw1 0 cw1, .slice ak1 0 ck1, .slice an1 0 cn1, .slice ag1 0 cg1, .slice al1 0 cl1, .bool false] 32)) := (HF1.out.then0 HF2.out).alloc _
  have hA := (HF1.out.then0 HF2.out).size
  have hlA : w2.heap.size < (w2.alloc (.cells #[.int .u8 1, .int .u64 0, .int .u64 0, .slice aw1 0 cw1, .slice ak1 0 ck1, .slice an1 0 cn1, .slice ag1 0 cg1, .slice al1 0 cl1, .bool false] 32)).heap.size := lt_of_block hbA
  obtain ⟨A, hAe⟩ : ∃ A, w2.heap.size = A := ⟨_, rfl⟩
  obtain ⟨W1, hW1⟩ : ∃ W, w2.alloc (.cells #[.int .u8 1, .int .u64 0, .int .u64 0, .slice aw1 0 cw1, .slice ak1 0 ck1, .slice an1 0 cn1, .slice ag1 0 cg1, .slice al1 0 cl1, .bool false] 32) = W := ⟨_, rfl⟩
  rw [hW1] at hbA hTA hOA hFA hlA ⊢
  rw [hAe] at hbA hlA hA ⊢
  have HbA := Lib.hid hbA; have HTA := Lib.hid hTA; have HOA := Lib.hid hOA; have HFA := Lib.hid hFA
  clear hbA hTA hOA hFA hW1 hAe HT1 HO1 HF1 HF2
  refine (HR.out _).mono ?_
  rintro e w3 ⟨v3, rfl, ⟨vw3, vk3, vn3, vg3, vl3, rfl, hT3⟩, hf3⟩
  obtain ⟨⟨aw3, cw3, rfl⟩, ⟨ak3, ck3, rfl⟩, ⟨an3, cn3, rfl⟩, ⟨ag3, cg3, rfl⟩, ⟨al3, cl3, rfl⟩⟩ := hT3.shapes
  have hAB := Nat.lt_of_lt_of_le hlA hf3.size
  have HT3 := Lib.hid hT3; have HF3 := Lib.hid hf3
  obtain ⟨ma, na, la⟩ := box_cells (((Fr.refl N0 w3).alloc (.cells #[.int .u8 1, .int .u64 0, .int .u64 0, .slice aw3 0 cw3, .slice ak3 0 ck3, .slice an3 0 cn3, .slice ag3 0 cg3, .slice al3 0 cl3, .bool false] 32)).held A (hf3.held A HbA.out))
  clear hT3 hf3
  go_wp2_with fail
  have hbB : (w3.alloc (.cells #[.int .u8 1, .int .u64 0, .int .u64 0, .slice aw3 0 cw3, .slice ak3 0 ck3, .slice an3 0 cn3, .slice ag3 0 cg3, .slice al3 0 cl3, .bool false] 32)).heap[w3.heap.size]? = _ := blkN rfl
  have hTB : IsTxn (w3.alloc (.cells #[.int .u8 1, .int .u64 0, .int .u64 0, .slice aw3 0 cw3, .slice ak3 0 ck3, .slice an3 0 cn3, .slice ag3 0 cg3, .slice al3 0 cl3, .bool false] 32)) (.agg #[.int .u8 1, .int .u64 0, .int .u64 0, .slice aw3 0 cw3, .slice ak3 0 ck3, .slice an3 0 cn3, .slice ag3 0 cg3, .slice al3 0 cl3, .bool false]) { phase := 1 } := IsTxn.fr0 (w := w3) ⟨_, _, _, _, _, rfl, HT3.out⟩ ((Fr.refl _ _).alloc _)
  have hFB : Fr N0 W1 (w3.alloc (.cells #[.int .u8 1, .int .u64 0, .int .u64 0, .slice aw3 0 cw3, .slice ak3 0 ck3, .slice an3 0 cn3, .slice ag3 0 cg3, .slice al3 0 cl3, .bool false] 32)) := HF3.out.alloc _
  obtain ⟨B, hBe⟩ : ∃ B, w3.heap.size = B := ⟨_, rfl⟩
  obtain ⟨W4, hW4⟩ : ∃ W, w3.alloc (.cells #[.int .u8 1, .int .u64 0, .int .u64 0, .slice aw3 0 cw3, .slice ak3 0 ck3, .slice an3 0 cn3, .slice ag3 0 cg3, .slice al3 0 cl3, .bool false] 32) = W := ⟨_, rfl⟩
  rw [hW4] at hbB hTB hFB ma na la ⊢
  rw [hBe] at hbB hAB ⊢
  have HbB := Lib.hid hbB; have HTB := Lib.hid hTB; have HFB := Lib.hid hFB
  clear hbB hTB hFB hW4 hBe HT3 HF3
  refine (HS.out _ _ _ (IsTxn.fr0 HTA.out HFB.out) HTB.out).mono ?_
  rintro e w5 ⟨rfl, hf5⟩
  obtain ⟨mb, nb, lb⟩ := box_cells (hf5.held B HbB.out)
  have HF5 := Lib.hid hf5
  clear hf5 ma na la
  go_wp2_with fail
  refine (HG.out _ _ (IsTxn.fr0 HTB.out HF5.out)).mono ?_
  rintro e w6 ⟨vo6, rfl, hO6, hf6⟩
  obtain ⟨a6, c6, rfl⟩ := Sent.shape hO6
  have HO6 := Lib.hid hO6; have HF6 := Lib.hid hf6
  clear hO6 hf6 mb nb lb
  go_wp2_with fail
  refine (HO.out _ _ _ (HOA.out.fr0 (HFB.out.then0 (HF5.out.then0 HF6.out))) HO6.out).mono ?_
  rintro e w7 ⟨rfl, hf7⟩
  have HF7 := Lib.hid hf7
  clear hf7
  go_wp2_with fail
  rename_i Kx hKx
  have hF47 : Fr N0 W4 w7 := HF5.out.then0 (HF6.out.then0 HF7.out)
  have hLA : Lv w w7 A { phase := 1 } := Lv.fr0 (W := W4) ⟨_, _, _, _, _, _, _, _, _, _, HFB.out.held A HbA.out, IsTxn.fr0 HTA.out HFB.out, HFA.out.then0 HFB.out⟩ hF47
  have hLB : Lv w w7 B { phase := 1 } := Lv.fr0 (W := W4) ⟨_, _, _, _, _, _, _, _, _, _, HbB.out, HTB.out, HFA.out.then0 HFB.out⟩ hF47
  have hk60 : ks.length ≤ 60 := by have := HNK.out; omega
  have ha60 : rs.length ≤ 60 := by have := HNA.out; omega
  have hwB : w.heap.size ≤ B := by omega
  have hAB' : A ≠ B := by omega
  refine wp_frA _ rfl ?_
  refine tpLoop w w7 A B _ _ _ hM bK bA ks HK.out rs HA.out HH.out hk60 ha60 hA hwB hAB' ⟨by rfl, by rfl, by rfl, by rfl, by rfl, by decide, _, inv_begin, hLA, hLB⟩ (fun f W' hf => ?_) (fun f W' h4 hf => ?_)
  · show Exit.inBlock 0 _ (.exit 0) _ _
    rw [Exit.inBlock, if_pos rfl]
    refine hKx _ _ ?_
    have HF := Lib.hid hf
    clear hf hKx HE HB HR HS HG HO HK HA HH
    show Code.wp _ _ _ { tmps := #[f 0, f 1, f 2, f 3, f 4, f 5, f 6, f 7, f 8, f 9, f 10, f 11, f 12, f 13, f 14, f 15, f 16, f 17, f 18, f 19, f 20, f 21, f 22, f 23, f 24, f 25, f 26, f 27, f 28, f 29, f 30, f 31, f 32, f 33, f 34, f 35, f 36, f 37, f 38, f 39, f 40, f 41, f 42, f 43, f 44, f 45, f 46, f 47, f 48, f 49, f 50, f 51, f 52, f 53, f 54, f 55, f 56, f 57, f 58, f 59, f 60, f 61, f 62, f 63, f 64, f 65, f 66, f 67, f 68, f 69, f 70, f 71, f 72, f 73, f 74, f 75, f 76, f 77, f 78, f 79, f 80, f 81, f 82, f 83, f 84, f 85, f 86, f 87, f 88, f 89, f 90, f 91, f 92, f 93, f 94, f 95, f 96, f 97, f 98, f 99, f 100, f 101, f 102, f 103, f 104, f 105, f 106, f 107, f 108, f 109, f 110, f 111, f 112, f 113, f 114, f 115, f 116, f 117, f 118], defers := [] } _
    go_wp2
    go_ret
    exact ⟨rfl, HF.out⟩
  · show bodyPost Tryz.prog Tryz.f3 (fun e w' => e = .returned (.bool true) ∧ Fr N0 w w') .ret (frA 119 f) W'
    exact bodyPost_ret (v := .bool true) (by simp [results, frA, Tryz.results3, go_sem, h4]) rfl ⟨rfl, hf⟩
end Go.Proofs.YthidminepegnoaaGreatDoor
