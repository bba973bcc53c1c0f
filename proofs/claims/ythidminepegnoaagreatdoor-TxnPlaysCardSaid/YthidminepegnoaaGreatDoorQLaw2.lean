/- Two commands that are the same: the document's SameOp of layers 20 and 21. The law's small functions: text, put, small, sameOuts. Two lists of what is sent: the law's sameOuts. -/
import Derived.Test.YthidminepegnoaaGreatDoorQSame
import Derived.Test.YthidminepegnoaaGreatDoorQLoops
import Derived.Test.YthidminepegnoaaGreatDoorQBegin
namespace Go.Proofs.YthidminepegnoaaGreatDoor
open Go.RowKit Go.Shelf Go.Maps Go.Sort
attribute [local go_sem] Oper.semAt_some
attribute [local irreducible] wpQuiet
set_option linter.unusedVariables false
set_option linter.unusedSimpArgs false

theorem nd_cells {W : World} {b o k : Nat} {x : Nd} (hc : ∀ c, c < 2 → W.cell? ⟨b, o + k * 2 + c, none⟩ = (x.enc)[c]?) :
    W.cell? ⟨b, o + k * 2, none⟩ = some (.string x.pred) ∧ W.cell? ⟨b, o + k * 2 + 1, none⟩ = some (.int .u64 x.turn) :=
  ⟨hc 0 (by omega), hc 1 (by omega)⟩

set_option maxRecDepth 100000 in
set_option maxHeartbeats 4000000 in
theorem r20Same_any (w : World) (kd n st : Int) (vk vn vk' vn' : Value) (ks : List ByteArray) (ns : List Nd) (b b' c c' : Nat) (hk : Strs w b vk ks) (hk' : Strs w b' vk' ks) (hn : Nds w c vn ns) (hn' : Nds w c' vn' ns) (hl : ks.length ≤ 1000000) (hl' : ns.length ≤ 1000000) :
    Calls Tryz.prog 32 #[.agg #[.int .u8 kd, .int .u32 n, .int .u64 st, vk, vn, .string ⟨#[]⟩, .int .u32 0, .int .u32 0, .int .u64 0], .agg #[.int .u8 kd, .int .u32 n, .int .u64 st, vk', vn', .string ⟨#[]⟩, .int .u32 0, .int .u32 0, .int .u64 0]] w fun e w' => e = .returned (.bool true) ∧ Fr N0 w w' := by
  obtain ⟨a1, o1, c1, rfl, p1, p2, p3, -, p5⟩ := hk
  obtain ⟨a2, o2, c2, rfl, q1, q2, q3, -, q5⟩ := hk'
  obtain ⟨a3, o3, c3, rfl, r1, r2, r3, -, r5⟩ := hn
  obtain ⟨a4, o4, c4, rfl, s1, s2, s3, -, s5⟩ := hn'
  have P := Lib.hid p5; have Q := Lib.hid q5; have R := Lib.hid r5; have S := Lib.hid s5
  clear p5 q5 r5 s5
  go_enter Tryz.func32, Tryz.ntmps32
  go_wp2
  have hB0 := boxS_keep ((Fr.refl _ _).alloc (.cells #[.int .u8 kd, .int .u32 n, .int .u64 st, .slice a2 ks.length c2, .slice a4 ns.length c4, .string ⟨#[]⟩, .int .u32 0, .int .u32 0, .int .u64 0] 82)) (boxS_new w #[.int .u8 kd, .int .u32 n, .int .u64 st, .slice a1 ks.length c1, .slice a3 ns.length c3, .string ⟨#[]⟩, .int .u32 0, .int .u32 0, .int .u64 0] 82)
  have hB1 := boxS_new (w.alloc (.cells #[.int .u8 kd, .int .u32 n, .int .u64 st, .slice a1 ks.length c1, .slice a3 ns.length c3, .string ⟨#[]⟩, .int .u32 0, .int .u32 0, .int .u64 0] 82)) #[.int .u8 kd, .int .u32 n, .int .u64 st, .slice a2 ks.length c2, .slice a4 ns.length c4, .string ⟨#[]⟩, .int .u32 0, .int .u32 0, .int .u64 0] 82
  rw [World.size_alloc] at hB1
  have HB0 := Lib.hid hB0; have HB1 := Lib.hid hB1
  obtain ⟨W0, hW0⟩ : ∃ W, ((w.alloc (.cells #[.int .u8 kd, .int .u32 n, .int .u64 st, .slice a1 ks.length c1, .slice a3 ns.length c3, .string ⟨#[]⟩, .int .u32 0, .int .u32 0, .int .u64 0] 82)).alloc (.cells #[.int .u8 kd, .int .u32 n, .int .u64 st, .slice a2 ks.length c2, .slice a4 ns.length c4, .string ⟨#[]⟩, .int .u32 0, .int .u32 0, .int .u64 0] 82)) = W := ⟨_, rfl⟩
  simp only [hW0] at HB0 HB1 ⊢
  clear hB0 hB1 hW0
  go_loopw [5] (fun i wr => ∃ k : Nat, k ≤ ks.length ∧ i = .int .i64 k ∧ Fr N0 W0 wr) (fun i _ => ks.length - (intOf i).toNat)
  case atStart => exact ⟨0, Nat.zero_le _, rfl, Fr.refl _ _⟩
  case round =>
    obtain ⟨k, hk, rfl, hfr⟩ := hrel
    have hA := boxS_keep hfr HB0.out; have hB := boxS_keep hfr HB1.out
    have m0 := hA.1; have m1 := hB.1; have hfw := hA.2.2
    clear hA hB
    by_cases hlt : k < ks.length
    · obtain rfl := p3 (by omega)
      obtain rfl := q3 (by omega)
      have d0 := hfw.cell id (P.out k hlt); have d1 := hfw.cell id (Q.out k hlt)
      obtain ⟨x, hx⟩ : ∃ x, ks[k] = x := ⟨_, rfl⟩
      rw [hx] at d0 d1
      have hki : (k : Int) < (ks.length : Int) := by omega
      have hxx : (x.toList == x.toList) = true := beq_self_eq_true _
      clear hx
      go_wp2
      all_goals try (go_quiet (fail); go_wp2)
      go_roundw
      case rel => exact ⟨k + 1, by omega, by go_num, by first | exact hfr | exact hfr.drewN _⟩
      case measure => simp [intOf]; omega
    · obtain rfl : k = ks.length := by omega
      have HF0 := Lib.hid hfr
      obtain ⟨W1, hW1⟩ : ∃ W1, wr = W1 := ⟨_, rfl⟩
      rw [hW1] at m0 m1 HF0 hfw ⊢
      clear hW1 hfr
      have HFW := Lib.hid hfw
      clear hfw
      go_wp2
      clear m0 m1
      go_loopw [6] (fun i wr => ∃ k : Nat, k ≤ ns.length ∧ i = .int .i64 k ∧ Fr N0 W0 wr) (fun i _ => ns.length - (intOf i).toNat)
      case atStart => exact ⟨0, Nat.zero_le _, rfl, HF0.out⟩
      case round =>
        obtain ⟨k, hk, rfl, hfr⟩ := hrel
        have hA := boxS_keep hfr HB0.out; have hB := boxS_keep hfr HB1.out
        have m0 := hA.1; have m1 := hB.1; have hfw := hA.2.2
        clear hA hB
        by_cases hlt : k < ns.length
        · obtain rfl := r3 (by omega)
          obtain rfl := s3 (by omega)
          obtain ⟨f0, f1⟩ := nd_cells (W := w) (R.out k hlt)
          obtain ⟨g0, g1⟩ := nd_cells (W := w) (S.out k hlt)
          replace f0 := hfw.cell id f0; replace f1 := hfw.cell id f1; replace g0 := hfw.cell id g0; replace g1 := hfw.cell id g1
          obtain ⟨x, hx⟩ : ∃ x, ns[k] = x := ⟨_, rfl⟩
          simp only [hx] at f0 f1 g0 g1
          have hki : (k : Int) < (ns.length : Int) := by omega
          clear hx
          go_wp2
          all_goals try (go_quiet (fail); go_wp2)
          go_roundw
          case rel => exact ⟨k + 1, by omega, by go_num, by first | exact hfr | exact hfr.drewN _⟩
          case measure => simp [intOf]; omega
        · go_wp2
          go_ret
          exact ⟨rfl, hfw⟩

set_option maxRecDepth 100000 in
set_option maxHeartbeats 4000000 in
theorem r21Same_any (w : World) (kd st cm : Int) (vw vw' : Value) (ws : List Wr) (b b' : Nat) (h : Wrs w b vw ws) (h' : Wrs w b' vw' ws) (hl : ws.length ≤ 1000000) :
    Calls Tryz.prog 33 #[.agg #[.int .u8 kd, .int .u64 st, .int .u64 cm, vw, .string ⟨#[]⟩, .int .u8 0, .bool false, .bool false, .bool false, .bool false, .bool false, .bool false, .string ⟨#[]⟩, .int .u64 0, .slice none 0 0, .slice none 0 0],
      .agg #[.int .u8 kd, .int .u64 st, .int .u64 cm, vw', .string ⟨#[]⟩, .int .u8 0, .bool false, .bool false, .bool false, .bool false, .bool false, .bool false, .string ⟨#[]⟩, .int .u64 0, .slice none 0 0, .slice none 0 0]] w fun e w' => e = .returned (.bool true) ∧ Fr N0 w w' := by
  have hW := fun W (hf : Fr N0 w W) => sameW_any W b b' vw vw' ws (h.fr0 hf) (h'.fr0 hf) hl
  have HW := Lib.hid hW
  clear hW h h'
  go_enter Tryz.func33, Tryz.ntmps33
  go_wp2_with (first
    | (go_at_call 19; go_loud (refine (HW.out _ (by repeat (first | exact Fr.refl _ _ | assumption | refine Fr.alloc ?_ _ | refine Fr.drew ?_ | refine Fr.drewN ?_ _ | refine Fr.setCell ?_ (.inr (by simp; try omega)) _))).mono ?_); rintro e w1 ⟨rfl, hf1⟩; have hb0 := hf1.held w.heap.size (blk0 (blkN (by simp))); obtain ⟨m0, n0, l0⟩ := box_cells hb0; have hb1 := hf1.held (w.heap.size + 1) (blkN (by simp)); obtain ⟨m1, n1, l1⟩ := box_cells hb1; have HB0 := Lib.hid hb0; have HB1 := Lib.hid hb1; clear hb0 hb1)
    | (go_at_call 73; go_loud (refine (sameN_nil _).mono ?_); rintro e w2 ⟨rfl, hf2⟩; obtain ⟨m0', n0', l0'⟩ := box_cells (hf2.held w.heap.size HB0.out); obtain ⟨m1', n1', l1'⟩ := box_cells (hf2.held (w.heap.size + 1) HB1.out))
    | (go_at_call 74; go_loud (refine (sameC_nil _).mono ?_); rintro e w3 ⟨rfl, hf3⟩))
  go_ret
  exact ⟨rfl, ((((Fr.refl N0 w).alloc _ |>.alloc _).then0 hf1).then0 hf2).then0 hf3⟩
end Go.Proofs.YthidminepegnoaaGreatDoor
namespace Go.Proofs.YthidminepegnoaaGreatDoor
open Go.RowKit Go.Shelf Go.Maps Go.Sort
attribute [local go_sem] Oper.semAt_some
attribute [local irreducible] wpQuiet
set_option linter.unusedVariables false
set_option linter.unusedSimpArgs false

set_option maxRecDepth 100000 in
set_option maxHeartbeats 1000000 in
theorem lText_any (w : World) (s : ByteArray) : Calls Tryz.prog 26 #[.string s] w fun e w' => e = .returned (.agg #[.int .u8 3, .bool false, .int .i64 0, .string s, .int .u64 0]) ∧ Fr N0 w w' := by
  go_enter Tryz.func26, Tryz.ntmps26
  go_wp2
  (try simp only [Exit.inBlock, Exit.then])
  refine bodyPost_ret_by (results_cell_row rfl _ _ w.heap.size 61 _ (0, 0) _ rfl (World.alloc_heap_new _ _) Tryz.underlying61 rfl (by kernel_rfl)) rfl ?_
  exact ⟨rfl, (Fr.refl _ _).alloc _⟩

set_option maxRecDepth 100000 in
set_option maxHeartbeats 1000000 in
theorem lPut_any (w : World) (u : Int) (p s : ByteArray) (k n vu : Int) (b : Bool) : Calls Tryz.prog 25 #[.int .u64 u, .string p, .agg #[.int .u8 k, .bool b, .int .i64 n, .string s, .int .u64 vu]] w fun e w' => e = .returned (.agg #[.bool false, .int .u64 u, .string p, .int .u8 k, .bool b, .int .i64 n, .string s, .int .u64 vu]) ∧ Fr N0 w w' := by
  go_enter Tryz.func25, Tryz.ntmps25
  go_wp2
  (try simp only [Exit.inBlock, Exit.then])
  refine bodyPost_ret_by (results_cell_row rfl _ _ (w.heap.size + 1) 65 _ (0, 0) _ rfl (blkN (by simp)) Tryz.underlying65 rfl (by kernel_rfl)) rfl ?_
  exact ⟨rfl, ((Fr.refl _ _).alloc _).alloc _⟩

def SmallPost (w : World) (n : Nat) (e : Ending) (w' : World) : Prop := ∃ q, e = .returned (.bool q) ∧ (q = true → n ≤ 300) ∧ Fr N0 w w'
theorem small_ret {w W : World} {n : Nat} {q : Bool} {v : Value} (hv : v = .bool q) (h : q = true → n ≤ 300) (hf : Fr N0 w W) : SmallPost w n (.returned v) W := ⟨q, by rw [hv], h, hf⟩

set_option maxRecDepth 100000 in
set_option maxHeartbeats 2000000 in
theorem lSmall_any (w : World) (b : Nat) (v : Value) (xs : List Wr) (h : Wrs w b v xs) :
    Calls Tryz.prog 11 #[v] w (SmallPost w xs.length) := by
  obtain ⟨a, off, cap, rfl, h1, h2, h3, h4, h5⟩ := h
  have HC := Lib.hid h5
  clear h4 h5
  go_enter Tryz.func11, Tryz.ntmps11
  go_wp2
  go_loopw [3, 4] (fun nv iv wr => ∃ (k : Nat) (m : Int), k ≤ xs.length ∧ nv = .int .i64 m ∧ iv = .int .i64 k ∧ Fr N0 w wr) (fun _ iv _ => xs.length - (intOf iv).toNat)
  case atStart => exact ⟨0, 0, Nat.zero_le _, rfl, rfl, Fr.refl _ _⟩
  case round =>
    obtain ⟨k, m, hk, rfl, rfl, hfr⟩ := hrel
    by_cases hlt : k < xs.length ∧ k < 600
    · obtain rfl := h3 (by omega)
      have hlt1 := hlt.1
      have hki : (k : Int) < (xs.length : Int) := by omega
      have hk6 : (k : Int) < 600 := by omega
      obtain ⟨c0, c1, c2, c3, c4, c5, c6, c7⟩ := wr_cells (W := w) (HC.out k hlt1)
      replace c2 := hfr.cell id c2; replace c6 := hfr.cell id c6
      go_wp2
      all_goals try (go_quiet (fail); go_wp2)
      go_roundw
      case rel => exact ⟨k + 1, _, by omega, rfl, by go_num, by first | exact hfr | exact hfr.drew | exact hfr.drewN _⟩
      case measure => simp [intOf]; omega
    · have hend : (¬ (k : Int) < (xs.length : Int)) ∨ ((k : Int) < (xs.length : Int) ∧ ¬ (k : Int) < 600) := by omega
      rcases hend with he | ⟨he, he2⟩
      all_goals
        by_cases h300 : (xs.length : Int) ≤ 300
        · go_wp2
          all_goals
            go_ret
            exact small_ret rfl (fun _ => by omega) (by first | exact hfr | exact hfr.drewN _)
        · go_wp2
          all_goals
            go_ret
            exact small_ret rfl (fun e => by simp at e) (by first | exact hfr | exact hfr.drewN _)

end Go.Proofs.YthidminepegnoaaGreatDoor
namespace Go.Proofs.YthidminepegnoaaGreatDoor
open Go.RowKit Go.Shelf Go.Maps Go.Sort
attribute [local go_sem] Oper.semAt_some
attribute [local irreducible] wpQuiet
set_option linter.unusedVariables false
set_option linter.unusedSimpArgs false

theorem out_cells {W W' : World} {b o k : Nat} {x : OutV} (hf : Fr N0 W W') (hc : ∀ c, c < 26 → W.cell? ⟨b, o + k * 26 + c, none⟩ = (x.enc)[c]?) :
    W'.cell? ⟨b, o + k * 26, none⟩ = some (.int .u32 x.group) ∧ W'.cell? ⟨b, o + k * 26 + 1, none⟩ = some (.int .u8 x.okind) ∧ W'.cell? ⟨b, o + k * 26 + 2, none⟩ = some (.int .u32 x.n) ∧ W'.cell? ⟨b, o + k * 26 + 3, none⟩ = some (.int .u64 x.ostart) ∧ W'.cell? ⟨b, o + k * 26 + 4, none⟩ = some x.vk ∧ W'.cell? ⟨b, o + k * 26 + 5, none⟩ = some x.vn ∧ W'.cell? ⟨b, o + k * 26 + 6, none⟩ = some (.string ⟨#[]⟩) ∧ W'.cell? ⟨b, o + k * 26 + 7, none⟩ = some (.int .u32 0) ∧ W'.cell? ⟨b, o + k * 26 + 8, none⟩ = some (.int .u32 0) ∧ W'.cell? ⟨b, o + k * 26 + 9, none⟩ = some (.int .u64 0) ∧ W'.cell? ⟨b, o + k * 26 + 10, none⟩ = some (.int .u8 x.skind) ∧ W'.cell? ⟨b, o + k * 26 + 11, none⟩ = some (.int .u64 x.sstart) ∧ W'.cell? ⟨b, o + k * 26 + 12, none⟩ = some (.int .u64 x.scommit) ∧ W'.cell? ⟨b, o + k * 26 + 13, none⟩ = some x.vw ∧ W'.cell? ⟨b, o + k * 26 + 14, none⟩ = some (.string ⟨#[]⟩) ∧ W'.cell? ⟨b, o + k * 26 + 15, none⟩ = some (.int .u8 0) ∧ W'.cell? ⟨b, o + k * 26 + 16, none⟩ = some (.bool false) ∧ W'.cell? ⟨b, o + k * 26 + 17, none⟩ = some (.bool false) ∧ W'.cell? ⟨b, o + k * 26 + 18, none⟩ = some (.bool false) ∧ W'.cell? ⟨b, o + k * 26 + 19, none⟩ = some (.bool false) ∧ W'.cell? ⟨b, o + k * 26 + 20, none⟩ = some (.bool false) ∧ W'.cell? ⟨b, o + k * 26 + 21, none⟩ = some (.bool false) ∧ W'.cell? ⟨b, o + k * 26 + 22, none⟩ = some (.string ⟨#[]⟩) ∧ W'.cell? ⟨b, o + k * 26 + 23, none⟩ = some (.int .u64 0) ∧ W'.cell? ⟨b, o + k * 26 + 24, none⟩ = some (.slice none 0 0) ∧ W'.cell? ⟨b, o + k * 26 + 25, none⟩ = some (.slice none 0 0) :=
  ⟨hf.cell id (hc 0 (by omega)), hf.cell id (hc 1 (by omega)), hf.cell id (hc 2 (by omega)), hf.cell id (hc 3 (by omega)), hf.cell id (hc 4 (by omega)), hf.cell id (hc 5 (by omega)), hf.cell id (hc 6 (by omega)), hf.cell id (hc 7 (by omega)), hf.cell id (hc 8 (by omega)), hf.cell id (hc 9 (by omega)), hf.cell id (hc 10 (by omega)), hf.cell id (hc 11 (by omega)), hf.cell id (hc 12 (by omega)), hf.cell id (hc 13 (by omega)), hf.cell id (hc 14 (by omega)), hf.cell id (hc 15 (by omega)), hf.cell id (hc 16 (by omega)), hf.cell id (hc 17 (by omega)), hf.cell id (hc 18 (by omega)), hf.cell id (hc 19 (by omega)), hf.cell id (hc 20 (by omega)), hf.cell id (hc 21 (by omega)), hf.cell id (hc 22 (by omega)), hf.cell id (hc 23 (by omega)), hf.cell id (hc 24 (by omega)), hf.cell id (hc 25 (by omega))⟩

set_option maxRecDepth 100000 in
set_option maxHeartbeats 4000000 in
theorem lSameOuts_any (w : World) (v v' : Value) (l : List Out) (h : Outs w v l) (h' : Outs w v' l) (hl : l.length ≤ 1000000) (hs : ∀ o ∈ l, o.okeys.length ≤ 1000000 ∧ o.oneeds.length ≤ 1000000 ∧ o.swrites.length ≤ 1000000) :
    Calls Tryz.prog 9 #[v, v'] w fun e w' => e = .returned (.bool true) ∧ Fr N0 w w' := by
  obtain ⟨b, rs, ⟨a1, o1, c1, rfl, p1, p2, p3, -, p5⟩, hlen, hi⟩ := h
  obtain ⟨b', rs', ⟨a2, o2, c2, rfl, q1, q2, q3, -, q5⟩, hlen', hi'⟩ := h'
  simp only [hlen] at p1 p2 p3 ⊢
  simp only [hlen'] at q1 q2 q3 ⊢
  have P := Lib.hid p5; have Q := Lib.hid q5; have HI := Lib.hid hi; have HI' := Lib.hid hi'; have HS := Lib.hid hs; have HL := Lib.hid hlen; have HL' := Lib.hid hlen'
  clear p5 q5 hi hi' hs hlen hlen'
  go_enter Tryz.func9, Tryz.ntmps9
  go_wp2
  go_loopw [5] (fun i wr => ∃ k : Nat, k ≤ l.length ∧ i = .int .i64 k ∧ Fr N0 w wr) (fun i _ => l.length - (intOf i).toNat)
  case atStart => exact ⟨0, Nat.zero_le _, rfl, Fr.refl _ _⟩
  case round =>
    obtain ⟨k, hk, rfl, hfr⟩ := hrel
    by_cases hlt : k < l.length
    · obtain rfl := p3 (by omega)
      obtain rfl := q3 (by omega)
      obtain ⟨c0, c1, c2, c3, c4, c5, c6, c7, c8, c9, c10, c11, c12, c13, c14, c15, c16, c17, c18, c19, c20, c21, c22, c23, c24, c25⟩ := out_cells hfr (P.out k (by have := HL.out; omega))
      obtain ⟨d0, d1, d2, d3, d4, d5, d6, d7, d8, d9, d10, d11, d12, d13, d14, d15, d16, d17, d18, d19, d20, d21, d22, d23, d24, d25⟩ := out_cells hfr (Q.out k (by have := HL'.out; omega))
      have his := HI.out k (by have := HL.out; omega) hlt
      have his' := HI'.out k (by have := HL'.out; omega) hlt
      have hsz := HS.out _ (List.getElem_mem hlt)
      obtain ⟨x, hx⟩ : ∃ x, rs[k]'(by have := HL.out; omega) = x := ⟨_, rfl⟩
      obtain ⟨y, hy⟩ : ∃ y, rs'[k]'(by have := HL'.out; omega) = y := ⟨_, rfl⟩
      obtain ⟨z, hz⟩ : ∃ z, l[k] = z := ⟨_, rfl⟩
      simp only [hx, hz] at c0 c1 c2 c3 c4 c5 c10 c11 c12 c13 his
      simp only [hy, hz] at d0 d1 d2 d3 d4 d5 d10 d11 d12 d13 his'
      rw [hz] at hsz
      clear hx hy hz
      obtain ⟨xg, xo, xn, xs, xk, xd, xa, xb, xc, xw⟩ := x
      obtain ⟨yg, yo, yn, ys, yk, yd, ya, yb, yc, yw⟩ := y
      obtain ⟨⟨e1, e2, e3, e4, e5, e6, e7⟩, ⟨bk, hk1⟩, ⟨bn, hn1⟩, ⟨bw, hw1⟩⟩ := his
      obtain ⟨⟨f1, f2, f3, f4, f5, f6, f7⟩, ⟨bk', hk2⟩, ⟨bn', hn2⟩, ⟨bw', hw2⟩⟩ := his'
      simp only at e1 e2 e3 e4 e5 e6 e7 f1 f2 f3 f4 f5 f6 f7 hk1 hn1 hw1 hk2 hn2 hw2 c0 c1 c2 c3 c4 c5 c10 c11 c12 c13 d0 d1 d2 d3 d4 d5 d10 d11 d12 d13
      subst e1 e2 e3 e4 e5 e6 e7
      rw [f1] at d0; rw [f2] at d1; rw [f3] at d2; rw [f4] at d3; rw [f5] at d10; rw [f6] at d11; rw [f7] at d12
      have h20 := fun (W : World) (hf : Fr N0 w W) => r20Same_any W z.okind z.n z.ostart xk xd yk yd z.okeys z.oneeds bk bk' bn bn' (hk1.fr0 hf) (hk2.fr0 hf) (hn1.fr0 hf) (hn2.fr0 hf) hsz.1 hsz.2.1
      have h21 := fun (W : World) (hf : Fr N0 w W) => r21Same_any W z.skind z.sstart z.scommit xw yw z.swrites bw bw' (hw1.fr0 hf) (hw2.fr0 hf) hsz.2.2
      have H20 := Lib.hid h20; have H21 := Lib.hid h21
      have hki : (k : Int) < (l.length : Int) := by omega
      clear h20 h21 hsz hk1 hk2 hn1 hn2 hw1 hw2 f1 f2 f3 f4 f5 f6 f7
      go_wp2
      obtain ⟨S, hK, hx, hSS⟩ := kept_open (kept_cons c0 (kept_cons c1 (kept_cons c2 (kept_cons c3 (kept_cons c4 (kept_cons c5 (kept_cons c6 (kept_cons c7 (kept_cons c8 (kept_cons c9 (kept_cons c10 (kept_cons c11 (kept_cons c12 (kept_cons c13 (kept_cons c14 (kept_cons c15 (kept_cons c16 (kept_cons c17 (kept_cons c18 (kept_cons c19 (kept_cons c20 (kept_cons c21 (kept_cons c22 (kept_cons c23 (kept_cons c24 (kept_cons c25 (kept_cons d0 (kept_cons d1 (kept_cons d2 (kept_cons d3 (kept_cons d4 (kept_cons d5 (kept_cons d6 (kept_cons d7 (kept_cons d8 (kept_cons d9 (kept_cons d10 (kept_cons d11 (kept_cons d12 (kept_cons d13 (kept_cons d14 (kept_cons d15 (kept_cons d16 (kept_cons d17 (kept_cons d18 (kept_cons d19 (kept_cons d20 (kept_cons d21 (kept_cons d22 (kept_cons d23 (kept_cons d24 (kept_cons d25 (kept_start hfr)))))))))))))))))))))))))))))))))))))))))))))))))))))
      have HSS := Lib.hid hSS
      simp only [forall_and] at hx
      obtain ⟨f_c0, f_c1, f_c2, f_c3, f_c4, f_c5, f_c6, f_c7, f_c8, f_c9, f_c10, f_c11, f_c12, f_c13, f_c14, f_c15, f_c16, f_c17, f_c18, f_c19, f_c20, f_c21, f_c22, f_c23, f_c24, f_c25, f_d0, f_d1, f_d2, f_d3, f_d4, f_d5, f_d6, f_d7, f_d8, f_d9, f_d10, f_d11, f_d12, f_d13, f_d14, f_d15, f_d16, f_d17, f_d18, f_d19, f_d20, f_d21, f_d22, f_d23, f_d24, f_d25, f_F⟩ := hx
      clear hSS
      refine wp_region_kept hK (by kernel_rfl) (by kernel_rfl) ?_
      intro hne
      repeat (quiet_step (first | (go_at_call 32; refine calls_kept hK (H20.out _ (f_F _))) | (go_at_call 33; refine calls_kept hK (H21.out _ (f_F _)))))
      refine wpQuiet_nil ?_
      rintro wq ⟨⟨_, hq⟩, rfl⟩
      replace hq := HSS.out _ hq
      clear f_c0 f_c1 f_c2 f_c3 f_c4 f_c5 f_c6 f_c7 f_c8 f_c9 f_c10 f_c11 f_c12 f_c13 f_c14 f_c15 f_c16 f_c17 f_c18 f_c19 f_c20 f_c21 f_c22 f_c23 f_c24 f_c25 f_d0 f_d1 f_d2 f_d3 f_d4 f_d5 f_d6 f_d7 f_d8 f_d9 f_d10 f_d11 f_d12 f_d13 f_d14 f_d15 f_d16 f_d17 f_d18 f_d19 f_d20 f_d21 f_d22 f_d23 f_d24 f_d25 f_F hK hne HSS c0 c1 c2 c3 c4 c5 c6 c7 c8 c9 c10 c11 c12 c13 c14 c15 c16 c17 c18 c19 c20 c21 c22 c23 c24 c25 d0 d1 d2 d3 d4 d5 d6 d7 d8 d9 d10 d11 d12 d13 d14 d15 d16 d17 d18 d19 d20 d21 d22 d23 d24 d25 hfr S
      obtain ⟨c0, c1, c2, c3, c4, c5, c6, c7, c8, c9, c10, c11, c12, c13, c14, c15, c16, c17, c18, c19, c20, c21, c22, c23, c24, c25, d0, d1, d2, d3, d4, d5, d6, d7, d8, d9, d10, d11, d12, d13, d14, d15, d16, d17, d18, d19, d20, d21, d22, d23, d24, d25, hfr⟩ := hq
      go_wp2
      go_roundw
      case rel => exact ⟨k + 1, by omega, by go_num, hfr⟩
      case measure => simp [intOf]; omega
    · obtain rfl : k = l.length := by omega
      go_wp2
      go_ret
      exact ⟨rfl, hfr⟩
end Go.Proofs.YthidminepegnoaaGreatDoor
