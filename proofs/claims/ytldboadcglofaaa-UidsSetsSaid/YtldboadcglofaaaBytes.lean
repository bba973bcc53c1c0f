/- The bytes of a list: uids.Bytes. Condition: at most 2^40 numbers. -/
import Derived.Test.YtldboadcglofaaaRead
import Derived.Test.YtldboadcglofaaaMark
import Derived.Test.YtldboadcglofaaaSeek
namespace Go.Proofs.Ytldboadcglofaaa
open Go.RowKit Go.Shelf Go.Lib
attribute [local go_sem] Oper.semAt_some
set_option linter.unusedVariables false
set_option linter.unusedSimpArgs false

/-- What stands for the number i of a list. -/
def stepOf (l : List Int) (i : Nat) : Nat := (if i % 32 = 0 then l.getD i 0 else l.getD i 0 - l.getD (i - 1) 0).toNat
/-- The bytes for the first m numbers, behind how many there are. -/
def preOf (l : List Int) (m : Nat) : List Int := num l.length ++ (List.range m).flatMap fun i => num (stepOf l i)
def bytesOf (l : List Int) : List Int := preOf l l.length

theorem preOf_succ (l : List Int) (m : Nat) : preOf l (m + 1) = preOf l m ++ num (stepOf l m) := by
  simp [preOf, List.range_succ]

theorem num_length (x : Nat) (h : x < 18446744073709551616) : (num x).length ≤ 9 := by
  have := nb_le 8 x (by simpa using h)
  simp [num, be_length]; omega

theorem num_byte (x : Nat) (h : x < 18446744073709551616) : ∀ b ∈ num x, 0 ≤ b ∧ b < 256 := by
  have h8 := nb_le 8 x (by simpa using h)
  have hbe : ∀ m, ∀ b ∈ be m x, 0 ≤ b ∧ b < 256 := by
    intro m
    induction m with
    | zero => simp [be]
    | succ m ih =>
      intro b hb
      simp only [be, List.mem_cons] at hb
      rcases hb with rfl | hb
      · omega
      · exact ih b hb
  intro b hb
  simp only [num, List.mem_cons] at hb
  rcases hb with rfl | hb
  · omega
  · exact hbe _ b hb

theorem strCells_nums {xs : List Int} (h : ∀ b ∈ xs, 0 ≤ b ∧ b < 256) : strCells (strOfNums xs) = xs.map (Value.int .u8) := by
  simp only [strCells, strOfNums_data, List.map_map]
  apply List.map_congr_left
  intro b hb
  have := h b hb
  simp
  omega

theorem ownsM_of_string (w : World) (s : ByteArray) (cap : Nat) (h : s.size ≤ cap) (hm : cap ≤ maxLen) (W : World) (hW : W = w.drew.alloc (.cells (bytesRow s cap) 5 ((bytesRow s cap).size, (bytesRow s cap).size + 1))) :
    OwnsM W w.heap.size 5 1 (.slice (some ⟨w.heap.size, 0, none⟩) s.size cap) s.size (strCells s) := by
  subst hW
  have hsz : (bytesRow s cap).size = cap := by simp [bytesRow]; have : s.data.size = s.size := rfl; omega
  refine ⟨by simp [strCells_length], .inr ⟨w.heap.size, cap, bytesRow s cap, _, rfl, Nat.le_refl _, World.alloc_heap_new w.drew _, .inr (by rw [hsz]; omega), h, hm, by rw [hsz, Nat.mul_one], ?_⟩⟩
  rw [Nat.mul_one, bytesRow, Array.toList_append, List.take_append_of_le_length (by simp), List.take_of_length_le (by simp)]
  simp [strCells]

theorem ownsM_back {W : World} {base n : Nat} {v : Value} {xs : List Int} (h : OwnsM W base 5 1 v n (xs.map (Value.int .u8))) : (convert 79 9 v).run Try.prog W = .ok (.string (strOfNums xs)) W := by
  have hxl : xs.length = n := by have := h.1; simpa using this
  rcases h.2 with ⟨rfl, rfl⟩ | ⟨g, cap, cur, fz, rfl, hb, hg, hfz, hnc, hcm, hcs, htake⟩
  · obtain rfl : xs = [] := List.eq_nil_of_length_eq_zero hxl
    exact run_convert_bytes_nil W 79 5 Try.underlying79 (by kernel_rfl) 0 0 9 (by kernel_rfl)
  · refine run_convert_bytes_arg W 79 5 Try.underlying79 (by kernel_rfl) g 0 n cap xs hxl (fun i hi => ?_) 9 (by kernel_rfl)
    have hc := h.cells (g := g) rfl i (.int .u8 (xs.getD i 0)) (by rw [List.getElem?_map, List.getD, List.getElem?_eq_getElem (by omega)]; rfl)
    have hadd : (⟨g, 0, none⟩ : Addr).add i = ⟨g, 0 + i, none⟩ := by unfold Addr.add; split <;> simp_all
    rwa [hadd] at hc

theorem ownsM_same {w w' : World} {base n : Nat} {v : Value} {xs : List Value} (h : OwnsM w base 5 1 v n xs) (hs : ∀ g, v.ownBlock = some g → w'.heap[g]? = w.heap[g]?) : OwnsM w' base 5 1 v n xs := by
  refine ⟨h.1, ?_⟩
  rcases h.2 with h0 | ⟨g, cap, cur, fz, rfl, hb, hg, r⟩
  · exact .inl h0
  · exact .inr ⟨g, cap, cur, fz, rfl, hb, (hs g rfl).trans hg, r⟩

theorem infoU8 : (Try.prog.info? 5).map (fun i => (i.zero, i.size, i.bytes)) = some (some (.int .u8 0), 1, 1) := by kernel_rfl

theorem ownsM_step {W : World} {base : Nat} {v : Value} {a p : List Int} {y : Nat} (hy : y < 18446744073709551616) (hp : p = a ++ num y)
    (h : OwnsM W base 5 1 v (a.length + (strOfNums (num y)).size) (a.map (Value.int .u8) ++ strCells (strOfNums (num y)))) : OwnsM W base 5 1 v p.length (p.map (Value.int .u8)) := by
  rw [hp, List.length_append, List.map_append, ← strOfNums_size (num y), ← strCells_nums (num_byte y hy)]
  exact h

theorem full_length {bl : List Blk} (h : ∀ i (h : i < bl.length), i + 1 < bl.length → bl[i].c.length = 32) : ∀ q, q < bl.length → (uidsOf (bl.take q)).length = 32 * q
  | 0, _ => by simp [uidsOf]
  | q + 1, hq => by
    have ih := full_length h q (by omega)
    rw [take_succ bl (k := q) (by omega), uidsOf_append, List.length_append, ih]
    have := h q (by omega) hq
    simp [uidsOf, this]; omega

theorem preOf_length (l : List Int) (m : Nat) (h : ∀ i, stepOf l i < 18446744073709551616) (hl : l.length < 18446744073709551616) : (preOf l m).length ≤ 9 * (m + 1) := by
  induction m with
  | zero => simpa [preOf] using num_length l.length hl
  | succ m ih =>
    rw [preOf_succ, List.length_append]
    have := num_length (stepOf l m) (h m)
    omega

theorem stepOf_lt {l : List Int} (h : ∀ x ∈ l, 0 < x ∧ x < 18446744073709551616) : ∀ i, stepOf l i < 18446744073709551616 := by
  intro i
  have hg : ∀ j, 0 ≤ l.getD j 0 ∧ l.getD j 0 < 18446744073709551616 := fun j => by
    rw [List.getD]
    cases hj : l[j]? with
    | none => simp
    | some x => have := h x (List.mem_of_getElem? hj); simp; omega
  have h1 := hg i; have h2 := hg (i - 1)
  unfold stepOf
  split <;> omega

/-- The steps within a block. -/
theorem steps_of {A R : List Int} {x0 : Int} {ct : List Int} (hA : A.length % 32 = 0) (hc : ct.length ≤ 31) :
    stepOf (A ++ (x0 :: ct) ++ R) A.length = x0.toNat ∧ ∀ t (h : t < ct.length), stepOf (A ++ (x0 :: ct) ++ R) (A.length + 1 + t) = ((x0 :: ct)[t + 1]'(by simp; omega) - (x0 :: ct)[t]'(by simp; omega)).toNat := by
  have hg : ∀ j (h : j < (x0 :: ct).length), (A ++ (x0 :: ct) ++ R).getD (A.length + j) 0 = (x0 :: ct)[j] := fun j h => by
    rw [List.getD, List.append_assoc, List.getElem?_append_right (by omega), List.getElem?_append_left (by rw [Nat.add_sub_cancel_left]; exact h), Nat.add_sub_cancel_left, List.getElem?_eq_getElem h]; rfl
  refine ⟨?_, fun t h => ?_⟩
  · have := hg 0 (by simp)
    unfold stepOf
    rw [if_pos hA]
    simp only [Nat.add_zero, List.getElem_cons_zero] at this
    rw [this]
  · have h1 := hg (t + 1) (by simpa using h)
    have h2 := hg t (by simp; omega)
    unfold stepOf
    rw [if_neg (by omega), show A.length + 1 + t - 1 = A.length + t by omega, show A.length + 1 + t = A.length + (t + 1) by omega, h1, h2]

set_option maxHeartbeats 2000000 in
set_option maxRecDepth 100000 in
theorem bytes_any (w : World) (n : Nat) (p : Option Addr) (l : List Int) (h : IsL w n p l) (hn : n ≤ w.heap.size) (hl : l.length ≤ 1099511627776) :
    Calls Try.prog 23 #[.pointer p] w fun e w' => e = .returned (.string (strOfNums (bytesOf l))) ∧ Fr N0 w w' := by
  have hlen := len_any w n p l h
  have hnum := num_any l.length (by omega) w
  have hcv := fun W => run_bytes_of_string W 9 79 5 (strOfNums (num l.length)) (by kernel_rfl) Try.underlying79 (by kernel_rfl)
  have hns : (strOfNums (num l.length)).size = (num l.length).length := strOfNums_size _
  have hstart : ∀ W, Fr N0 w W → OwnsM (W.drew.alloc (.cells (bytesRow (strOfNums (num l.length)) (grownCap W (strOfNums (num l.length)).size 0 5)) 5 ((bytesRow (strOfNums (num l.length)) (grownCap W (strOfNums (num l.length)).size 0 5)).size, (bytesRow (strOfNums (num l.length)) (grownCap W (strOfNums (num l.length)).size 0 5)).size + 1)))
      w.heap.size 5 1 (.slice (some ⟨W.heap.size, 0, none⟩) (strOfNums (num l.length)).size (grownCap W (strOfNums (num l.length)).size 0 5)) (preOf l 0).length ((preOf l 0).map (Value.int .u8)) := by
    intro W hW
    have h9 := num_length l.length (by omega)
    have hp : preOf l 0 = num l.length := by simp [preOf]
    have := ownsM_of_string W (strOfNums (num l.length)) (grownCap W (strOfNums (num l.length)).size 0 5) (grownCap_ge W _ _ _) (grownCap_le_maxLen W _ _ _ (by rw [hns]; unfold maxLen; omega)) _ rfl
    rw [strCells_nums (num_byte _ (by omega))] at this
    rw [hp]
    rw [hns] at this ⊢
    refine ⟨this.1, ?_⟩
    rcases this.2 with h0 | ⟨g, cap, cur, fz, e1, e2, e3⟩
    · exact .inl h0
    · exact .inr ⟨g, cap, cur, fz, e1, by have := hW.size; omega, e3⟩
  have hcvx : ∀ W, Fr N0 w W → ∃ v W1, (convert 9 79 (.string (strOfNums (num l.length)))).run Try.prog W = .ok v W1 ∧ OwnsM W1 w.heap.size 5 1 v (preOf l 0).length ((preOf l 0).map (Value.int .u8)) ∧ Fr N0 w W1 :=
    fun W hW => ⟨_, _, hcv W, hstart W hW, hW.drew.alloc _⟩
  have HCV := Lib.hid hcvx
  clear hstart hns hcv hcvx
  obtain ⟨bl, h1, h2, hsrt, hrng, hfull⟩ := h
  rcases h1 with ⟨rfl, rfl⟩ | ⟨B, G, ga, gcap, rfl, hB, hG, hBo, hga, hbc, hgc, hbs⟩
  · have hl0 : l = [] := h2
    have hb : bytesOf l = preOf l 0 := by rw [bytesOf, hl0]; rfl
    have HB := Lib.hid hb
    clear h2 hl0 hb
    go_enter Try.func23, Try.ntmps23
    go_wp2_with (first
      | (go_at_call 14; refine hlen.mono ?_; rintro e w' ⟨rfl, rfl⟩)
      | (go_at_call 48; refine hnum.mono ?_; rintro e w' ⟨rfl, hfr⟩; obtain ⟨v1, W1, hcv1, ho1, hf1⟩ := HCV.out w' hfr; have hbk := ownsM_back ho1))
    go_ret
    exact ⟨by rw [HB.out]; rfl, hf1⟩
  · have c3 : ∀ W, Fr N0 w W → W.cell? ⟨B, 0, none⟩ = some (.slice ga bl.length gcap) := fun W hW => hW.cell id (by simp [World.cell?, hBo])
    have HC3 := Lib.hid c3; have HBs := Lib.hid hbs; have H2 := Lib.hid h2; have HS := Lib.hid hsrt; have HR := Lib.hid hrng; have HFU := Lib.hid hfull
    clear hBo hbs c3 h2 hsrt hrng hfull
    go_enter Try.func23, Try.ntmps23
    go_wp2_with (first
      | (go_at_call 14; refine hlen.mono ?_; rintro e w' ⟨rfl, rfl⟩)
      | (go_at_call 48; refine hnum.mono ?_; rintro e w' ⟨rfl, hfr⟩; obtain ⟨v1, W1, hcv1, ho1, hf1⟩ := HCV.out w' hfr; have hc3 := HC3.out W1 hf1))
    clear hc3 hcv1 hlen hnum
    go_loopw [3, 22] (fun v iv W => ∃ q m : Nat, q ≤ bl.length ∧ iv = .int .i64 q ∧ Hid (m = (uidsOf (bl.take q)).length) ∧ OwnsM W w.heap.size 5 1 v (preOf l m).length ((preOf l m).map (Value.int .u8)) ∧ Fr N0 w W) (fun _ iv _ => bl.length - (intOf iv).toNat)
    case atStart => exact ⟨0, 0, Nat.zero_le _, rfl, by simp [Hid, uidsOf], ho1, hf1⟩
    case round =>
      rename World => W2
      obtain ⟨q, m, hq, rfl, hm, hown, hfr⟩ := hrel
      by_cases hlt : q < bl.length
      · obtain rfl : ga = some ⟨G, 0, none⟩ := by
          rcases hga with h | ⟨_, h⟩
          · exact h
          · omega
        have hmq : m = 32 * q := by rw [hm.out]; exact full_length HFU.out q hlt
        obtain ⟨kb, hkb⟩ : ∃ kb, bl[q] = kb := ⟨_, rfl⟩
        have hbk := HBs.out q hlt
        rw [hkb] at hbk
        obtain ⟨e0, e1, er, elt, ene, ele⟩ := hbk
        replace e0 := hfr.cell id e0
        replace e1 := hfr.cell id e1
        obtain ⟨x0, ct, hcc⟩ := List.exists_cons_of_ne_nil ene
        rw [hcc] at e0 er ele
        have hsplit := uidsOf_split hlt hkb
        rw [hcc, ← H2.out] at hsplit
        have hcl : ct.length ≤ 31 := by simpa using ele
        have hst := steps_of (A := uidsOf (bl.take q)) (R := uidsOf (bl.drop (q + 1))) (x0 := x0) (ct := ct) (by rw [← hm.out, hmq]; omega) hcl
        rw [hsplit, ← hm.out] at hst
        have hnext : (uidsOf (bl.take (q + 1))).length = m + 1 + ct.length := by
          rw [take_succ bl hlt, uidsOf_append, List.length_append, ← hm.out, hkb]
          simp [uidsOf, hcc]; omega
        have hin : ∀ x ∈ x0 :: ct, 0 < x ∧ x < 18446744073709551616 := fun x hx => HR.out x (by rw [← hsplit]; simp only [List.mem_append]; exact .inl (.inr hx))
        have hsr : (x0 :: ct).Pairwise (· < ·) := by
          have := HS.out
          rw [← hsplit] at this
          exact (List.pairwise_append.1 (List.pairwise_append.1 this).1).2.1
        obtain ⟨y0, rfl⟩ : ∃ y : Nat, x0 = y := ⟨x0.toNat, by have := hin x0 (by simp); omega⟩
        have hy0 := hin (y0 : Int) (by simp)
        simp only [List.headD_cons] at e0
        obtain ⟨ra, roff, rcap, hv, hr1, hr2, hr3, hr4, hr5, hr6⟩ := er
        rw [hv] at e1
        obtain ⟨ds, hds⟩ : ∃ ds, diffs ((y0 : Int) :: ct) = ds := ⟨_, rfl⟩
        have hdl : ds.length = ct.length := by rw [← hds, diffs_length]; rfl
        have hdg : ∀ (j : Nat) (h : j < ds.length), ds[j] = ((stepOf l (m + 1 + j) : Nat) : Int) ∧ stepOf l (m + 1 + j) < 18446744073709551616 := by
          intro j h
          have h1 := diffs_get ((y0 : Int) :: ct) j (by simp; omega) (by rw [hds]; exact h)
          have h2 := hst.2 j (by omega)
          have h3 : ((y0 : Int) :: ct)[j]'(by simp; omega) < ((y0 : Int) :: ct)[j + 1]'(by simp; omega) := (List.pairwise_iff_getElem.1 hsr) j (j + 1) _ _ (by omega)
          subst hds
          refine ⟨?_, stepOf_lt HR.out _⟩
          rw [h1, h2]; omega
        rw [hds] at hr1 hr3 hr5 e1 hv
        have hnum0 := fun W => num_any y0 (by omega) W
        have hpl := fun m => preOf_length l m (stepOf_lt HR.out) (by omega)
        have hst0 : stepOf l m = y0 := by rw [hst.1]; simp
        have hps := preOf_succ l m
        rw [hst0] at hps
        have hpm := hpl m
        have hml : m + 1 + ct.length ≤ 1099511627776 := by
          have := congrArg List.length hsplit
          simp only [List.length_append, ← hm.out] at this
          simp at this; omega
        have hn9 := num_length y0 (by omega)
        have hsc := strCells_nums (num_byte y0 (by omega))
        have hsz := strOfNums_size (num y0)
        have hown2 : ∀ W, Fr N0 W2 W → OwnsM W w.heap.size 5 1 u3 (preOf l m).length ((preOf l m).map (Value.int .u8)) := fun W hW => ownsM_same hown fun g hg => hW.at id (hown.lt g hg).2
        have HPS := Lib.hid hps; have HPL := Lib.hid hpl; have HSC := Lib.hid hsc; have HSZ := Lib.hid hsz; have HOW := Lib.hid hown; have HO2 := Lib.hid hown2; have HF := Lib.hid hfr; have HDG := Lib.hid hdg; have HR5 := Lib.hid hr5; have HNX := Lib.hid hnext; have HDL := Lib.hid hdl
        have hcb : ∀ W, Fr (fun k => u3.ownBlock = some k) (W2.alloc (.cells #[.int .u64 (y0 : Int), .slice ra ds.length rcap] 68)) W → W.cell? ⟨W2.heap.size, 1, none⟩ = some (.slice ra ds.length rcap) := fun W hW =>
          hW.cell (fun e => by have := (hown.lt _ e).2; simp at this) (by simp)
        have HCB := Lib.hid hcb
        clear hps hpl hsc hsz hown hown2 hfr hdg hr5 hnext hdl hcb hst hsr hin hsplit hv hcc hkb hds hst0 ene ele hr4 hr6 hn9 hpm
        have hfin : ∀ (v' : Value) (W : World) (a b : Nat), OwnsM W w.heap.size 5 1 v' a ((preOf l b).map (Value.int .u8)) → a = (preOf l b).length := fun v' W a b h => by have := h.1; simpa using this.symm
        obtain ⟨i8, hi8, hz8, hs8, hb8⟩ := info_parts infoU8
        go_wp2_with (first
          | (go_at_call 48; refine (hnum0 _).mono ?_; rintro e W3 ⟨rfl, hf3⟩)
          | (at_builtin; go_loud (refine wpList_append_own_stringM _ rfl _ _ 79 9 rfl w.heap.size 5 i8 Try.underlying79 (by kernel_rfl) hi8 hz8 hs8 hb8 u3 _ _ rfl (HO2.out _ (((Fr.refl _ _).alloc _).then0 hf3)) _ rfl (by have := HSZ.out; have := HPL.out m; have := num_length y0 (by omega); unfold maxLen; omega) (by have := HSZ.out; have := HPL.out m; have := num_length y0 (by omega); omega) (by have := HF.out.size; have := hf3.size; simp at this; omega) ?_); intro v4 W4 ho4 hg4 hn4; have hc4 := HCB.out W4 ((hf3.mono fun _ h => h.elim).grown hg4 fun k hk => .inl hk)))
        have hf4 : Fr N0 w W4 := ((HF.out.alloc _).then0 hf3).grown hg4 fun k hk => .inr (HOW.out.lt k hk).1
        have ho5 := ownsM_step (by omega) HPS.out ho4
        have HO5 := Lib.hid ho5; have HF4 := Lib.hid hf4
        clear ho4 hg4 hn4 hc4 hf3 ho5 hf4 hnum0 e0 e1
        go_loopw [3, 34] (fun v iv W => ∃ t : Nat, t ≤ ds.length ∧ iv = .int .i64 t ∧ OwnsM W w.heap.size 5 1 v (preOf l (m + 1 + t)).length ((preOf l (m + 1 + t)).map (Value.int .u8)) ∧ Fr N0 w W) (fun _ iv _ => ds.length - (intOf iv).toNat)
        case atStart => exact ⟨0, Nat.zero_le _, rfl, HO5.out, HF4.out⟩
        case round =>
          rename World => W5
          obtain ⟨t, ht, rfl, hown, hfr⟩ := hrel
          by_cases htl : t < ds.length
          · obtain rfl := hr3 (by omega)
            obtain ⟨hd1, hd2⟩ := HDG.out t htl
            have hcd := hfr.cell id (HR5.out t htl)
            rw [hd1] at hcd
            have hpt := preOf_succ l (m + 1 + t)
            obtain ⟨y, hy⟩ : ∃ y, stepOf l (m + 1 + t) = y := ⟨_, rfl⟩
            rw [hy] at hcd hpt hd2
            have hnumt := fun W => num_any y hd2 W
            have hown2 : ∀ W, Fr N0 W5 W → OwnsM W w.heap.size 5 1 u3 (preOf l (m + 1 + t)).length ((preOf l (m + 1 + t)).map (Value.int .u8)) := fun W hW => ownsM_same hown fun g hg => hW.at id (hown.lt g hg).2
            have HPT := Lib.hid hpt; have HO6 := Lib.hid hown2; have HOW6 := Lib.hid hown; have HF6 := Lib.hid hfr; have HD2 := Lib.hid hd2
            clear hpt hown2 hown hfr hd1 hd2 hy
            go_wp2_with (first
              | (go_at_call 48; refine (hnumt _).mono ?_; rintro e W6 ⟨rfl, hf6⟩)
              | (at_builtin; go_loud (refine wpList_append_own_stringM _ rfl _ _ 79 9 rfl w.heap.size 5 i8 Try.underlying79 (by kernel_rfl) hi8 hz8 hs8 hb8 u3 _ _ rfl (HO6.out _ hf6) _ rfl (by have := HDL.out; have := strOfNums_size (num y); have := HPL.out (m + 1 + t); have := num_length y HD2.out; unfold maxLen; omega) (by have := HDL.out; have := strOfNums_size (num y); have := HPL.out (m + 1 + t); have := num_length y HD2.out; omega) (by have := HF6.out.size; have := hf6.size; omega) ?_); intro v7 W7 ho7 hg7 hn7))
            go_roundw
            case rel =>
              refine ⟨t + 1, by omega, by go_num, ?_, (HF6.out.then0 hf6).grown hg7 fun k hk => .inr (HOW6.out.lt k hk).1⟩
              exact ownsM_step HD2.out HPT.out ho7
            case measure => simp [intOf]; omega
          · have hte : t = ds.length := by omega
            have hend : m + 1 + t = (uidsOf (bl.take (q + 1))).length := by rw [HNX.out, hte, HDL.out]
            have HEND := Lib.hid hend; have HO6 := Lib.hid hown; have HF6 := Lib.hid hfr
            clear hte hend hown hfr
            go_wp2
            go_roundw
            case rel => exact ⟨q + 1, m + 1 + t, by omega, by go_num, HEND.out, HO6.out, HF6.out⟩
            case measure => simp [intOf]; omega
      · have hqe : q = bl.length := by omega
        have hb : bytesOf l = preOf l m := by rw [bytesOf, hm.out, hqe, List.take_length, ← H2.out]
        have hbk := ownsM_back hown
        rw [← hb] at hbk
        clear hown hb
        go_wp2
        go_ret
        exact ⟨rfl, hfr⟩

end Go.Proofs.Ytldboadcglofaaa
