/- uids.counted: each uid of some lists, rising, once, with how many lists have it. Conditions: fewer than 2^40 lists, each of at most 2^44 uids. -/
import Derived.Test.YtldboadcglofaaaCnt2
import Derived.Test.YtldboadcglofaaaCollect
namespace Go.Proofs.Ytldboadcglofaaa
open Go.RowKit Go.Shelf
attribute [local go_sem] Oper.semAt_some
set_option linter.unusedVariables false
set_option linter.unusedSimpArgs false

/-- The slice v reads as the pointers ps, which lie in block b. -/
def PtrsAt (w : World) (b : Nat) (v : Value) (ps : List (Option Addr)) : Prop :=
  ∃ a off cap, v = .slice a ps.length cap ∧ ps.length ≤ cap ∧ cap ≤ 9223372036854775807 ∧ (0 < ps.length → a = some ⟨b, off, none⟩) ∧ ∀ i (h : i < ps.length), w.cell? ⟨b, off + i, none⟩ = some (.pointer ps[i])

def cnt0 (Ls : List (List Int)) (x : Int) : Nat := Ls.countP fun L => decide (x ∈ L)
/-- All numbers of some lists, rising, each once. -/
def allOf (Ls : List (List Int)) : List Int := norm Ls.flatten
def pairsOf (Ls : List (List Int)) : List (Int × Nat) := (allOf Ls).map fun x => (x, cnt0 Ls x)
abbrev encP : Int × Nat → Array Value := fun p => #[.int .u64 p.1, .int .i64 (p.2 : Int)]

theorem cnt0_pos {Ls : List (List Int)} {x : Int} : 0 < cnt0 Ls x ↔ x ∈ Ls.flatten := by
  unfold cnt0
  rw [List.countP_pos_iff, List.mem_flatten]
  simp
theorem allOf_mem {Ls : List (List Int)} (hp : ∀ L ∈ Ls, ∀ x ∈ L, 0 < x) (x : Int) : x ∈ allOf Ls ↔ 0 < cnt0 Ls x := by
  unfold allOf
  rw [norm_mem, cnt0_pos]
  refine ⟨fun h => h.1, fun h => ⟨h, fun e => ?_⟩⟩
  obtain ⟨L, hL, hx⟩ := List.mem_flatten.1 h
  have := hp L hL x hx
  omega
theorem allOf_sorted (Ls : List (List Int)) : (allOf Ls).Pairwise (· < ·) := norm_sorted _

/-- The numbers that are still to come are those of the heap. -/
def Left (D : List Int) (Ls : List (List Int)) (k : Nat) (H : List (Int × Nat)) (M : Nat → List Int) : Prop := ∀ y, cnt H M y = if y ∈ D.drop k then cnt0 Ls y else 0

theorem left_nil {D : List Int} {Ls : List (List Int)} {k : Nat} {M : Nat → List Int} (hD : ∀ x, x ∈ D ↔ 0 < cnt0 Ls x) (h : Left D Ls k [] M) : D.drop k = [] := by
  cases hd : D.drop k with
  | nil => rfl
  | cons x t =>
    have := h x
    rw [hd, if_pos (by simp)] at this
    have h1 := (hD x).1 (List.mem_of_mem_drop (by rw [hd]; simp : x ∈ D.drop k))
    simp [cnt] at this
    omega

theorem left_head {D : List Int} {Ls : List (List Int)} {k : Nat} {H : List (Int × Nat)} {M : Nat → List Int} {u : Int} (hs : D.Pairwise (· < ·)) (hD : ∀ x, x ∈ D ↔ 0 < cnt0 Ls x) (h : Left D Ls k H M) (h1 : 0 < cnt H M u) (h2 : ∀ y, 0 < cnt H M y → u ≤ y) :
    ∃ hk : k < D.length, D[k] = u ∧ cnt H M u = cnt0 Ls u := by
  have hu : u ∈ D.drop k := by
    have := h u
    by_cases e : u ∈ D.drop k
    · exact e
    · rw [if_neg e] at this; omega
  have hk : k < D.length := by
    rcases Nat.lt_or_ge k D.length with h' | h'
    · exact h'
    · rw [List.drop_of_length_le h'] at hu; cases hu
  have hd := List.drop_eq_getElem_cons hk
  have hm : D[k] ∈ D.drop k := by rw [hd]; exact List.mem_cons_self
  have h3 : u ≤ D[k] := h2 _ (by rw [h, if_pos hm]; exact (hD _).1 (List.getElem_mem hk))
  have h4 : D[k] ≤ u := by
    rw [hd] at hu
    rcases List.mem_cons.1 hu with e | e
    · omega
    · have hp := (hs.sublist (List.drop_sublist k D))
      rw [hd] at hp
      have := (List.pairwise_cons.1 hp).1 u e
      omega
  refine ⟨hk, by omega, ?_⟩
  have := h u
  rwa [if_pos hu] at this

theorem left_next {D : List Int} {Ls : List (List Int)} {k : Nat} {H H' : List (Int × Nat)} {M M' : Nat → List Int} {u : Int} {c : Nat} (hs : D.Pairwise (· < ·)) (h : Left D Ls k H M) (hk : k < D.length) (hu : D[k] = u)
    (hc : ∀ y, cnt H' M' y + (if y = u then c else 0) = cnt H M y) (hz : cnt H' M' u = 0) : Left D Ls (k + 1) H' M' := fun y => by
  have hd := List.drop_eq_getElem_cons hk
  have hp := hs.sublist (List.drop_sublist k D)
  rw [hd, hu] at hp
  have hnu : u ∉ D.drop (k + 1) := fun e => by have := (List.pairwise_cons.1 hp).1 u e; omega
  by_cases e : y = u
  · subst e
    rw [hz, if_neg hnu]
  · have h1 := hc y
    rw [if_neg e, h y, hd, hu] at h1
    simp only [Nat.add_zero] at h1
    rw [h1]
    simp [e]

theorem cnt0_take {Ls : List (List Int)} {i : Nat} (h : i < Ls.length) (x : Int) : cnt0 (Ls.take (i + 1)) x = cnt0 (Ls.take i) x + if x ∈ Ls[i] then 1 else 0 := by
  unfold cnt0
  rw [take_succ Ls h, List.countP_append]
  simp

set_option maxRecDepth 100000 in
set_option maxHeartbeats 1000000 in
theorem counted1_seq (w : World) (n Bl lb : Nat) (vl : Value) (ps : List (Option Addr)) (Ls : List (List Int)) (hB : w.heap[Bl]? = some (.cells #[vl] 52 (0, 0))) (hP : PtrsAt w lb vl ps) (hlb : 0 < ps.length → lb < n) (hn : n ≤ w.heap.size)
    (hlen : ps.length = Ls.length) (hL : ∀ i (h : i < ps.length) (h' : i < Ls.length), IsL w n ps[i] Ls[i]) (hsz : Ls.length < 1099511627776) (hLl : ∀ L ∈ Ls, L.length ≤ 17592186044416) (hpos : ∀ L ∈ Ls, ∀ x ∈ L, 0 < x)
    (R : Nat → Prop) (hR : ∀ k, k < n ∨ k = Bl → R k) (hRw : ∀ k, R k → k < w.heap.size) :
    SeqOf Try.prog 77 #[.pointer (some ⟨Bl, 0, none⟩)] encP R (pairsOf Ls) w := by
  intro l J Jx S W hW hS hJ hJx hY h0
  have hb : Below n w W := hW.below (fun _ h => hR _ (.inl h)) hn
  have hBlW : Bl < W.heap.size := Nat.lt_of_lt_of_le (lt_of_block hB) hW.size
  have hcB := cell_of_one ((hW.block _ (hR _ (.inr rfl)) (lt_of_block hB)).trans hB)
  have hSl : ∀ k, S k → k < W.heap.size := fun k hk => (hS k hk).2
  have hLW : ∀ wr, Fr N0 W wr → ∀ i (h : i < ps.length) (h' : i < Ls.length), IsL wr n ps[i] Ls[i] := fun wr hf i h h' => ((hL i h h').below hb (Nat.le_refl _)).below (hf.below (fun _ h => h.elim) (Nat.le_trans hn hb.size)) (Nat.le_refl _)
  have hnW : n ≤ W.heap.size := Nat.le_trans hn hb.size
  obtain ⟨a, off, cap, rfl, hp1, hp2, hp3, hp4⟩ := hP
  have hcells : ∀ wr, Fr N0 W wr → ∀ i (h : i < ps.length), wr.cell? ⟨lb, off + i, none⟩ = some (.pointer ps[i]) := fun wr hf i h => hf.cell id ((hb.cell (p := ⟨lb, off + i, none⟩) (hlb (by omega))).trans (hp4 i h))
  have hpl : ps.length ≤ 1099511627776 := by omega
  have HLEN := Lib.hid hlen; have HRW := Lib.hid (fun k h => Nat.lt_of_lt_of_le (hRw k h) hW.size)
  have hDs := allOf_sorted Ls; have hDm := allOf_mem hpos
  have hpk : ∀ k (h : k < (allOf Ls).length), (pairsOf Ls).take k ++ [((allOf Ls)[k], cnt0 Ls (allOf Ls)[k])] = (pairsOf Ls).take (k + 1) := fun k h => by
    have h' : k < (pairsOf Ls).length := by simpa [pairsOf] using h
    rw [take_succ _ h']; simp [pairsOf]
  have hpe : (pairsOf Ls).take (allOf Ls).length = pairsOf Ls := List.take_of_length_le (by simp [pairsOf])
  have HDS := Lib.hid hDs; have HDM := Lib.hid hDm; have HPK := Lib.hid hpk; have HPE := Lib.hid hpe
  clear hDs hDm hpk hpe hpos hRw
  have HLW := Lib.hid hLW; have HCS := Lib.hid hcells; have HY := Lib.hid hY; have HJ := Lib.hid hJ; have HA := Lib.hid hp3; have HLl := Lib.hid hLl; have HSl := Lib.hid hSl; have HS := Lib.hid hS; have H0 := Lib.hid h0
  clear hLW hcells hY hL hB hW hp4 hp3 hLl hSl hS h0 hJ hlen hsz
  have hbx : (W.alloc (.cells #[.slice none 0 0] 107)).heap[W.heap.size]? = some (.cells #[.slice none 0 0] 107 (0, 0)) := World.alloc_heap_new _ _
  have hcn0 : Cn (W.alloc (.cells #[.slice none 0 0] 107)) W.heap.size S W.heap.size (.slice none 0 0) [] (fun _ => []) :=
    ⟨⟨World.ownsRow_nil _ _ _ _, hbx, fun i h0 h1 => absurd h1 (by simp)⟩, ⟨Nat.le_refl _, fun h => absurd (HSl.out _ h) (by omega)⟩, by simp [Value.ownBlock], by simp, by simp, by simp, by simp⟩
  have HC0 := Lib.hid hcn0
  have hcB' := ((Fr.refl N0 W).alloc (.cells #[.slice none 0 0] 107)).cell id hcB
  clear hbx hcn0 hcB
  refine (callsIn_wide (n := 8)).1 ?_
  refine callsIn_of_wp Try.func77 rfl trivial ?_ rfl
  simp only [Try.ntmps77, List.size_toArray, List.length_cons, List.length_nil, Nat.reduceAdd, Nat.reduceSub, Array.replicate_succ, Array.replicate_zero, List.push_toArray, List.append_toArray, List.nil_append, List.cons_append]
  gi_wp2
  gi_loopw [16] (fun iv wr => ∃ (i : Nat) (v : Value) (H : List (Int × Nat)) (M : Nat → List Int), i ≤ ps.length ∧ iv = .int .i64 i ∧ Cn wr W.heap.size S W.heap.size v H M ∧ Hid (∀ y, cnt H M y = cnt0 (Ls.take i) y) ∧ H.length ≤ i ∧ Hid (∀ p ∈ H, (M p.2).length ≤ 17592186044416) ∧ Fr N0 W wr) (fun iv _ => ps.length - (intOf iv).toNat)
  case atStart => exact ⟨0, _, [], _, Nat.zero_le _, rfl, HC0.out, by simp [Hid, cnt, cnt0], Nat.le_refl _, by simp [Hid], (Fr.refl _ _).alloc _⟩
  case round =>
    obtain ⟨i, v, H, M, hi, rfl, hcn, hct, hHl, hMl, hfr⟩ := hrel
    by_cases hlt : i < ps.length
    · obtain rfl := HA.out (by omega)
      have hiL : i < Ls.length := by have := HLEN.out; omega
      have hci := HCS.out wr hfr i hlt
      have hil := HLW.out wr hfr i hlt hiL
      have i1 : (0 : Int) ≤ (i : Int) := by omega
      have i2 : (i : Int) < (ps.length : Int) := by omega
      obtain ⟨p, hp⟩ : ∃ p, ps[i] = p := ⟨_, rfl⟩
      obtain ⟨L, hLi⟩ : ∃ L, Ls[i] = L := ⟨_, rfl⟩
      have hct1 := cnt0_take hiL
      rw [hp] at hci hil
      rw [hLi] at hil hct1
      have hLlen : L.length ≤ 17592186044416 := HLl.out L (by rw [← hLi]; exact List.getElem_mem hiL)
      have hseq := all_seq wr n p L hil (Nat.le_trans hnW hfr.size)
      have hcol := collect_any _ _ _ _ _ _ hseq enters_from1 (SameOn.refl _ _) (by intro k hk; simp; have := hfr.size; omega) hLlen
      have hLp : L.Pairwise (· < ·) ∧ ∀ x ∈ L, 0 < x ∧ x < 18446744073709551616 := by obtain ⟨_, _, _, h3, h4, _⟩ := hil; exact ⟨h3, h4⟩
      have HCOL := Lib.hid hcol; have HCN := Lib.hid hcn; have HF := Lib.hid hfr; have HLP := Lib.hid hLp; have HCT1 := Lib.hid hct1
      clear hseq hcol hcn hfr hil hp hLi hLp hct1
      have hbase : W.heap.size ≤ wr.heap.size := HF.out.size
      have hcnd : ∀ w4, Fr N0 wr w4 → Cn w4 W.heap.size S W.heap.size v H M := fun w4 h4 => HCN.out.fr (h4.mono fun _ h => h.elim) fun k hk => .inl hk
      have hnewb : ∀ q ∈ H, ∀ b, wr.heap.size ≤ b → q.2 ≠ b := fun q hq b hb e => by
        obtain ⟨_, _, va, bl, h1, _⟩ := HCN.out.box q hq
        have := lt_of_block h1; omega
      have HND := Lib.hid hcnd; have HNB := Lib.hid hnewb
      clear hcnd hnewb
      cases L with
      | nil =>
        gi_wp2_with (first
          | (refine ⟨trivial, ?_⟩; gi_at_call 18; refine (callsIn_wide.2 (all_any _ _)).mono ?_; rintro e w1 ⟨rfl, rfl⟩)
          | (refine ⟨trivial, ?_⟩; gi_at_call 43; refine (callsIn_wide.2 HCOL.out).mono ?_; rintro e w2 ⟨va, rfl, hrow, hf2⟩; obtain ⟨bq, hbq1, hi1, _⟩ := own1_of_row hrow (fun x hx => WalkArith.wf_u64 (by have := HLP.out.2 x hx; omega)); obtain ⟨aq, cq, rfl⟩ := ints_slice' hi1)
          | (refine ⟨trivial, ?_⟩; gi_at_call 78; go_loud (refine (callsIn_wide.2 (next_nil _ _ bq _ (World.alloc_heap_new w2 _) (hi1.fr0 ((Fr.refl _ _).alloc _)))).mono ?_); rintro e w3 ⟨rfl, hf3⟩))
        have hf4 : Fr N0 wr w3 := ((((Fr.refl _ _).alloc _).alloc _).then0 hf2).alloc _ |>.then0 hf3
        go_roundw
        case rel => exact ⟨i + 1, v, H, M, by omega, by go_num, HND.out w3 hf4, fun y => by rw [hct.out y, HCT1.out y]; simp, by omega, hMl, HF.out.then0 hf4⟩
        case measure => simp [intOf]; omega
      | cons u r =>
        gi_wp2_with (first
          | (refine ⟨trivial, ?_⟩; gi_at_call 18; refine (callsIn_wide.2 (all_any _ _)).mono ?_; rintro e w1 ⟨rfl, rfl⟩)
          | (refine ⟨trivial, ?_⟩; gi_at_call 43; refine (callsIn_wide.2 HCOL.out).mono ?_; rintro e w2 ⟨va, rfl, hrow, hf2⟩; obtain ⟨bq, hbq1, hi1, _⟩ := own1_of_row hrow (fun x hx => WalkArith.wf_u64 (by have := HLP.out.2 x hx; omega)); obtain ⟨aq, cq, rfl⟩ := ints_slice' hi1; have hbq2 := hi1.lt (by simp); have hsz2 := hf2.size)
          | (refine ⟨trivial, ?_⟩; gi_at_call 78; go_loud (refine (callsIn_wide.2 (next_cons _ _ bq _ u r (World.alloc_heap_new w2 _) (hi1.fr0 ((Fr.refl _ _).alloc _)) (by omega) (by simp at hLlen; omega))).mono ?_); rintro e w3 ⟨rfl, va3, hb3, hi3, hf3⟩; have hf4 : Fr N0 wr w3 := (((((Fr.refl _ _).alloc _).alloc _).then0 hf2).alloc _).trans hf3 (fun k hk => .inr (by simp at hsz2; omega)); have hcn3 := HND.out w3 hf4)
          | (refine ⟨trivial, ?_⟩; gi_at_call 79; go_loud (refine (callsIn_wide.2 (heapPush_any w3 _ _ v H hcn3.heap (Nat.le_trans hbase hf4.size) (by omega) (u, w2.heap.size))).mono ?_); rintro e w5 ⟨⟨u5, rfl⟩, v5, H5, hh5, hp5, hv5, hf5⟩))
        have hsz2' : wr.heap.size + 2 ≤ w2.heap.size := by simp at hsz2; omega
        have hbq1' : wr.heap.size + 2 ≤ bq := by simp at hbq1; omega
        have hnw : ∀ q ∈ H, q.2 ≠ w2.heap.size := fun q hq => HNB.out q hq _ (by omega)
        have hcn5 := hcn3.push hb3 hi3 (by omega) (fun hs => by have := HSl.out _ hs; omega) (fun _ => ⟨by omega, fun hs => by have := HSl.out _ hs; omega, fun e => by have := (HCN.out.heap.row.lt _ e).2; omega⟩) hnw HLP.out.1 HLP.out.2 hh5 hp5.out hv5 hf5 (fun k hk => by have := HSl.out k hk; have := hf4.size; omega)
        have hlen5 := hp5.out.length_eq
        simp only [List.length_append, List.length_singleton] at hlen5
        have hM5 : ∀ q ∈ H5, (upd M w2.heap.size r q.2).length ≤ 17592186044416 := fun q hq => by
          rcases List.mem_append.1 (hp5.out.mem_iff.1 hq) with h1 | h1
          · rw [upd_ne (hnw q h1)]; exact hMl.out q h1
          · simp only [List.mem_singleton] at h1
            subst h1; rw [upd_at]; simp at hLlen; omega
        have hct5 : ∀ y, cnt H5 (upd M w2.heap.size r) y = cnt0 (Ls.take (i + 1)) y := fun y => by rw [cnt_push hnw hp5.out, hct.out y, HCT1.out y]
        have hfr5 : Fr N0 W w5 := (HF.out.then0 hf4).trans hf5 fun k hk => .inr (by
          rcases hk with h1 | h1
          · omega
          · exact (HCN.out.heap.row.lt k h1).1)
        go_roundw
        case rel => exact ⟨i + 1, v5, H5, upd M w2.heap.size r, by omega, by go_num, hcn5, hct5, by omega, hM5, hfr5⟩
        case measure => simp [intOf]; omega
    · obtain rfl : i = ps.length := by omega
      have hct' : Left (allOf Ls) Ls 0 H M := fun y => by
        rw [hct.out y, List.take_of_length_le (by rw [HLEN.out]; exact Nat.le_refl _), List.drop_zero]
        by_cases e : y ∈ allOf Ls
        · rw [if_pos e]
        · rw [if_neg e]
          rcases Nat.eq_zero_or_pos (cnt0 Ls y) with h1 | h1
          · exact h1
          · exact absurd ((HDM.out y).2 h1) e
      have hj0 : J S [] wr := HJ.out _ _ _ _ H0.out (hfr.same fun _ _ h => h)
      have HCN := Lib.hid hcn; have HJ0 := Lib.hid hj0; have HF0 := Lib.hid hfr; have HCT := Lib.hid hct'
      clear hcn hj0 hfr hct' hct
      gi_wp2
      gi_loopw [10] (fun _ wr => ∃ (k : Nat) (S1 : Nat → Prop) (v : Value) (H : List (Int × Nat)) (M : Nat → List Int), k ≤ (allOf Ls).length ∧ J S1 ((pairsOf Ls).take k) wr ∧ Cn wr W.heap.size S1 W.heap.size v H M ∧ Hid (Left (allOf Ls) Ls k H M) ∧ Hid (∀ p ∈ H, (M p.2).length ≤ 17592186044416) ∧ H.length ≤ ps.length ∧ Fr S W wr ∧ Grows S S1 W wr) (fun _ wr => mmAt wr W.heap.size)
      case atStart => exact ⟨0, S, v, H, M, Nat.zero_le _, HJ0.out, HCN.out, HCT.out, hMl, hHl, HF0.out.mono fun _ h => h.elim, Grows.refl fun k hk => by have := HSl.out k hk; have := HF0.out.size; omega⟩
      case round =>
        clear HCN HJ0 HCT HF0 hMl hHl H M v
        rename World => wo
        obtain ⟨k, S1, v, H, M, hk, hj, hcn, hlf, hMl, hHl, hfr, hgr⟩ := hrel
        cases H with
        | nil =>
          have hcc := cell_of_one hcn.heap.box
          obtain ⟨av, cv, rfl⟩ := HpAt.vform (hb := W.heap.size) hcn.heap.row
          have hdn := left_nil HDM.out hlf.out
          have hkn : k = (allOf Ls).length := by
            have := congrArg List.length hdn
            simp at this; omega
          rw [hkn, HPE.out] at hj
          simp only [List.length_nil] at hcc
          have HJN := Lib.hid hj; have HF := Lib.hid hfr; have HG := Lib.hid hgr
          clear hj hcn hfr hgr
          gi_wp2
          go_end0
          exact ⟨⟨_, rfl⟩, S1, .inl HJN.out, HF.out, HG.out⟩
        | cons q T =>
          obtain ⟨u, b⟩ := q
          obtain ⟨g, nn, cap2, rfl, hnn, hlk⟩ := hcn.look
          have hlist := left_head HDS.out HDM.out hlf.out hcn.has hcn.least
          have hleast := hcn.least
          have hcl : ∀ y, cnt ((u, b) :: T) M y ≤ ((u, b) :: T).length := fun y => List.countP_le_length
          obtain ⟨l1, l2, l3, l4⟩ := hlk
          have n0 : (0 : Int) < (nn : Int) := by rw [hnn]; simp
          have n0n : 0 < nn := by omega
          have n0d : decide (0 < nn) = true := by simpa using n0n
          have htot := mm_eq hcn
          have hS1 : ∀ j, S1 j → ¬ R j ∧ j < wo.heap.size := fun j hj' => ⟨by
            rcases (hgr j hj').1 with h1 | h1
            · exact (HS.out j h1).1
            · exact fun h2 => by have := HRW.out j h2; have := hb.size; omega, (hgr j hj').2⟩
          have hhb := hcn.hbb
          have HCN := Lib.hid hcn; have HJO := Lib.hid hj; have HFO := Lib.hid hfr; have HGO := Lib.hid hgr; have HLI := Lib.hid hlist; have HLE := Lib.hid hleast; have HCL := Lib.hid hcl; have HNN := Lib.hid hnn; have HTO := Lib.hid htot; have HS1 := Lib.hid hS1
          have hhas := hcn.has
          have hex : ∀ (wx : World) (v' : Value) (H' : List (Int × Nat)) (M' : Nat → List Int) (c : Nat), Cn wx W.heap.size S1 W.heap.size v' H' M' → (∀ y, cnt H' M' y + (if y = u then c else 0) = cnt ((u, b) :: T) M y) → tot H' M' + c = tot ((u, b) :: T) M →
              cnt H' M' u = 0 → (∀ p ∈ H', (M' p.2).length ≤ 17592186044416) → H'.length ≤ ps.length → SameOn S1 wo wx → Fr S W wx → wo.heap.size ≤ wx.heap.size →
              YieldAt Fence.wide 7 Try.prog l (encP (u, c)) wx fun e W' =>
                (e = .returned (.bool true) ∧ (∃ (k : Nat) (S1 : Nat → Prop) (v : Value) (H : List (Int × Nat)) (M : Nat → List Int), k ≤ (allOf Ls).length ∧ J S1 ((pairsOf Ls).take k) W' ∧ Cn W' W.heap.size S1 W.heap.size v H M ∧ Hid (Left (allOf Ls) Ls k H M) ∧ Hid (∀ p ∈ H, (M p.2).length ≤ 17592186044416) ∧ H.length ≤ ps.length ∧ Fr S W W' ∧ Grows S S1 W W') ∧ mmAt W' W.heap.size < mmAt wo W.heap.size) ∨
                (e = .returned (.bool false) ∧ ∃ S2, (J S2 (pairsOf Ls) W' ∨ ∃ pre, pre <+: pairsOf Ls ∧ Jx S2 pre W') ∧ Fr S W W' ∧ Grows S S2 W W') := by
            intro wx v' H' M' c h1 h2 h3 h4 h5 h6 h7 h8 h9
            obtain ⟨hkD, hDu, hcu⟩ := hlist
            have hcc : c = cnt0 Ls u := by have := h2 u; rw [if_pos rfl, h4] at this; omega
            have hpp := HPK.out k hkD
            rw [hDu, ← hcc] at hpp
            refine (HY.out S1 _ (u, c) wx (HJ.out _ _ _ _ hj h7) (by rw [hpp]; exact List.take_prefix _ _) (h8.same fun q hq hs => (HS.out q hs).1 hq) (fun q hq => ⟨(hS1 q hq).1, by have := (hS1 q hq).2; omega⟩)).mono ?_
            rintro e W' (⟨rfl, S2, hj3, hf3, hg3⟩ | ⟨rfl, S2, hj3, hf3, hg3⟩)
            · have hcn' := h1.fr hf3 (S' := S2) fun q hq => (hg3 q hq).1
              refine .inl ⟨rfl, ⟨k + 1, S2, v', H', M', hkD, by rw [← hpp]; exact hj3, hcn', left_next HDS.out hlf.out hkD hDu h2 h4, h5, h6, h8.trans hf3 fun q hq => (hgr q hq).1, ?_⟩, ?_⟩
              · exact Grows.trans (B := wx) (fun q hq => ⟨(hgr q hq).1, by have := (hgr q hq).2; omega⟩) hg3 h8.size
              · rw [mm_eq hcn', htot]; omega
            · refine .inr ⟨rfl, S2, .inr ⟨_, ?_, hj3⟩, h8.trans hf3 fun q hq => (hgr q hq).1, ?_⟩
              · rw [hpp]; exact List.take_prefix _ _
              · exact Grows.trans (B := wx) (fun q hq => ⟨(hgr q hq).1, by have := (hgr q hq).2; omega⟩) hg3 h8.size
          have HEX := Lib.hid hex
          clear hcn hj hfr hgr hlist hleast hcl hnn htot hS1 hhb hex hhas
          gi_wp2
          gi_loopw [11] (fun nv wx => ∃ (c : Nat) (v' : Value) (H' : List (Int × Nat)) (M' : Nat → List Int), nv = .int .i64 (c : Int) ∧ Cn wx W.heap.size S1 W.heap.size v' H' M' ∧ Hid (∀ y, cnt H' M' y + (if y = u then c else 0) = cnt ((u, b) :: T) M y) ∧ Hid (tot H' M' + c = tot ((u, b) :: T) M) ∧
              c ≤ 1099511627776 ∧ Hid (∀ p ∈ H', (M' p.2).length ≤ 17592186044416) ∧ H'.length ≤ ps.length ∧ SameOn S1 wo wx ∧ Fr S W wx ∧ wo.heap.size ≤ wx.heap.size) (fun _ wx => mmAt wx W.heap.size)
          case atStart => exact ⟨0, _, _, M, rfl, HCN.out, by simp [Hid], by simp [Hid], Nat.zero_le _, hMl, hHl, SameOn.refl _ _, HFO.out, Nat.le_refl _⟩
          case round =>
            rename World => wi
            obtain ⟨c, v', H', M', rfl, hcn, hct, hto, hc, hMl', hHl', hso, hfr, hsz⟩ := hrel
            clear l1 l2 l3 l4 n0
            have hmm := mm_eq hcn
            cases H' with
            | nil =>
              have hcc := cell_of_one hcn.heap.box
              obtain ⟨av, cv, rfl⟩ := HpAt.vform (hb := W.heap.size) hcn.heap.row
              simp only [List.length_nil] at hcc
              obtain ⟨fn, tmps, assign, body, hy, hR⟩ := HEX.out wi _ _ _ c hcn hct.out hto.out rfl hMl'.out hHl' hso hfr hsz
              have HR := Lib.hid hR
              clear hcn hso hfr hR
              gi_wp2
              refine HR.out.mono ?_
              rintro e W3 (⟨rfl, hO, hm⟩ | ⟨rfl, hX⟩)
              · have HO := Lib.hid hO; have HM := Lib.hid hm
                clear hy HR hO hm
                gi_wp2
                go_roundw
                case rel => exact HO.out
                case measure => exact HM.out
              · have HX := Lib.hid hX
                clear hy HR hX
                gi_wp2
                refine bodyPost_ret (results_none rfl _ _ _) rfl ?_
                exact ⟨⟨_, rfl⟩, HX.out⟩
            | cons q' T' =>
              obtain ⟨u', b'⟩ := q'
              obtain ⟨g', n', cap', rfl, hnn', hlk'⟩ := hcn.look
              have hlk2 := hlk'
              obtain ⟨l1, l2, l3, l4⟩ := hlk2
              have n0 : (0 : Int) < (n' : Int) := by rw [hnn']; simp
              have HNN' := Lib.hid hnn'
              clear hnn'
              by_cases hu : u' = u
              · subst hu
                have hcb : c + 1 ≤ 1099511627776 := by
                  have h1 := hct.out u'
                  have h2 := hcn.has
                  have h3 := HCL.out u'
                  rw [if_pos rfl] at h1
                  omega
                have hcw : IntKind.i64.wrap ((c : Int) + 1) = (c : Int) + 1 := IntWalk.i64_in _ (by omega)
                have hSw : ∀ q, S1 q → q < wi.heap.size := fun q hq => by have := (HS1.out q hq).2; omega
                obtain ⟨hbb0, hbS, _⟩ := hcn.box (u', b') (by simp)
                have hown : ∀ q, (Value.slice (some ⟨g', 0, none⟩) n' cap').ownBlock = some q → W.heap.size ≤ q := fun q hq => (hcn.heap.row.lt q hq).1
                have hrb := hcn.rowb
                have hhb := hcn.hbb
                have HCN2 := Lib.hid hcn; have HSO := Lib.hid hso; have HFR := Lib.hid hfr; have HOW := Lib.hid hown; have HRB := Lib.hid hrb; have HHB := Lib.hid hhb; have HSW := Lib.hid hSw; have HLK := Lib.hid hlk'; have HBB := Lib.hid (And.intro hbb0 hbS)
                clear hcn hso hfr hown hrb hhb hSw hlk' hbb0 hbS
                cases hm : M' b' with
                | nil =>
                  have HM0 := Lib.hid hm
                  clear hm
                  gi_wp2_with (first
                    | (refine ⟨trivial, ?_⟩; gi_at_call 78; go_loud (refine (callsIn_wide.2 (HCN2.out.call_nil HM0.out)).mono ?_); rintro e w1 ⟨rfl, hf1⟩; have hcn1 := HCN2.out.fr (S' := S1) (hf1.mono fun _ h => h.elim) (fun k hk => .inl hk))
                    | (refine ⟨trivial, ?_⟩; gi_at_call 81; go_loud (refine (callsIn_wide.2 (heapPop_any w1 _ _ _ _ hcn1.heap (by simp) (by omega))).mono ?_); rintro e w3 ⟨⟨uu, rfl⟩, v3, H3, hh3, hp3, ho3, hf3⟩))
                  have hcn3 := HCN2.out.pop hf1 hh3 hp3.out ho3 hf3 HSW.out
                  have hct3 := cnt_pop HCN2.out HM0.out hp3.out
                  have hto3 := tot_pop (M := M') HM0.out hp3.out
                  have hmem : ∀ q ∈ H3, q ∈ (u', b') :: T' := fun q hq => hp3.out.mem_iff.1 (List.mem_append_left _ hq)
                  have hl3 : H3.length ≤ ps.length := by have := hp3.out.length_eq; simp at this hHl'; omega
                  have hfT : Fr (fun q => q = W.heap.size ∨ (Value.slice (some ⟨g', 0, none⟩) n' cap').ownBlock = some q) wi w3 := (hf1.mono fun _ h => h.elim).trans hf3 fun k hk => .inl hk
                  go_roundw
                  case rel =>
                    refine ⟨c + 1, v3, H3, M', by go_num, hcn3, fun y => ?_, ?_, hcb, fun q hq => hMl'.out q (hmem q hq), hl3, HSO.out.fr hfT fun q hq hT => ?_, HFR.out.trans hfT fun k hk => .inr ?_, by have := hfT.size; omega⟩
                    · have h1 := hct3 y; have h2 := hct.out y
                      by_cases hyu : y = u'
                      · rw [if_pos hyu] at h1 h2 ⊢; omega
                      · rw [if_neg hyu] at h1 h2 ⊢; omega
                    · have := hto.out
                      unfold Hid
                      omega
                    · rcases hT with rfl | hT
                      · exact HHB.out.2 hq
                      · exact HRB.out q hT hq
                    · rcases hk with rfl | hk
                      · exact HHB.out.1
                      · exact HOW.out k hk
                  case measure => rw [mm_eq hcn3, hmm]; omega
                | cons x r =>
                  have hrl : r.length ≤ 17592186044416 := by have := hMl'.out (u', b') (by simp); simp only [hm, List.length_cons] at this; omega
                  have HM0 := Lib.hid hm
                  clear hm
                  gi_wp2_with (first
                    | (refine ⟨trivial, ?_⟩; gi_at_call 78; go_loud (refine (callsIn_wide.2 (HCN2.out.call_cons HM0.out hrl)).mono ?_); rintro e w1 ⟨rfl, hg1⟩; obtain ⟨m1, m2, m3, m4⟩ := hg1.look HCN2.out rfl HLK.out; obtain ⟨s1, s2, s3⟩ := HCN2.out.stored hg1 rfl HNN'.out x)
                    | (refine ⟨trivial, ?_⟩; gi_at_call 80; go_loud (refine (callsIn_wide.2 (heapFix_any _ _ _ _ _ s1 s2 (by simp) (by simp at hHl' ⊢; omega) (down_of_head HCN2.out.heap.ord))).mono ?_); rintro e w3 ⟨⟨uu, rfl⟩, H3, hh3, hp3, hf3⟩))
                  have hcn3 := HCN2.out.next HM0.out hg1 rfl HNN'.out hh3 hp3.out hf3 HSW.out
                  have hct3 := cnt_next HCN2.out HM0.out hp3.out
                  have hto3 := tot_next HCN2.out HM0.out hp3.out
                  have hl3 : H3.length ≤ ps.length := by have := hp3.out.length_eq; simp at this hHl'; omega
                  have hfT : Fr (fun q => q = W.heap.size ∨ (Value.slice (some ⟨g', 0, none⟩) n' cap').ownBlock = some q ∨ q = b') wi w3 := s3.trans hf3 fun k hk => .inl (.inr (.inl hk))
                  have hM3 : ∀ q ∈ H3, (upd M' b' r q.2).length ≤ 17592186044416 := fun q hq => by
                    by_cases e : q.2 = b'
                    · rw [e, upd_at]; exact hrl
                    · rw [upd_ne e]
                      rcases List.mem_cons.1 (hp3.out.mem_iff.1 hq) with h1 | h1
                      · rw [h1] at e; exact absurd rfl e
                      · exact hMl'.out q (List.mem_cons_of_mem _ h1)
                  go_roundw
                  case rel =>
                    refine ⟨c + 1, _, H3, upd M' b' r, by go_num, hcn3, fun y => ?_, ?_, hcb, hM3, hl3, HSO.out.fr hfT fun q hq hT => ?_, HFR.out.trans hfT fun k hk => .inr ?_, by have := hfT.size; omega⟩
                    · have h1 := hct3 y; have h2 := hct.out y
                      by_cases hyu : y = u'
                      · rw [if_pos hyu] at h1 h2 ⊢; omega
                      · rw [if_neg hyu] at h1 h2 ⊢; omega
                    · have := hto.out
                      unfold Hid
                      omega
                    · rcases hT with rfl | hT | rfl
                      · exact HHB.out.2 hq
                      · exact HRB.out q hT hq
                      · exact HBB.out.2 hq
                    · rcases hk with rfl | hk | rfl
                      · exact HHB.out.1
                      · exact HOW.out k hk
                      · exact HBB.out.1
                  case measure => rw [mm_eq hcn3, hmm]; omega
              · have hub : (u' == u) = false := by simpa using hu
                have hz : cnt ((u', b') :: T') M' u = 0 := by
                  rcases Nat.eq_zero_or_pos (cnt ((u', b') :: T') M' u) with h1 | h1
                  · exact h1
                  · have h2 := hcn.least u h1
                    have h3 := hct.out u'
                    rw [if_neg hu] at h3
                    have h4 := hcn.has
                    have h5 := HLE.out u' (by omega)
                    omega
                obtain ⟨fn, tmps, assign, body, hy, hR⟩ := HEX.out wi _ _ _ c hcn hct.out hto.out hz hMl'.out hHl' hso hfr hsz
                have HR := Lib.hid hR
                clear hcn hso hfr hR
                gi_wp2
                refine HR.out.mono ?_
                rintro e W3 (⟨rfl, hO, hm⟩ | ⟨rfl, hX⟩)
                · have HO := Lib.hid hO; have HM := Lib.hid hm
                  clear hy HR hO hm
                  gi_wp2
                  go_roundw
                  case rel => exact HO.out
                  case measure => exact HM.out
                · have HX := Lib.hid hX
                  clear hy HR hX
                  gi_wp2
                  refine bodyPost_ret (results_none rfl _ _ _) rfl ?_
                  exact ⟨⟨_, rfl⟩, HX.out⟩

end Go.Proofs.Ytldboadcglofaaa
