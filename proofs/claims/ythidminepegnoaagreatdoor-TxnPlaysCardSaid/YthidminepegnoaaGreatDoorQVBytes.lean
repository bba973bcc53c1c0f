/- Texts as keys: code.Key and the document's Key. A value's bytes. -/
import Derived.Deep.AppendLies
import Derived.Test.YthidminepegnoaaGreatDoorQFix
import Derived.Test.YthidminepegnoaaGreatDoorQShelf
namespace Go.Proofs.YthidminepegnoaaGreatDoor
open Go.RowKit Go.Shelf
attribute [local go_sem] Oper.semAt_some
set_option linter.unusedVariables false
set_option linter.unusedSimpArgs false

/-- A text with FF behind each 00. -/
def esc : List UInt8 → List UInt8
  | [] => []
  | b :: l => if b = 0 then 0 :: 255 :: esc l else b :: esc l
theorem esc_append : ∀ a b : List UInt8, esc (a ++ b) = esc a ++ esc b
  | [], _ => rfl
  | x :: a, b => by
    simp only [List.cons_append, esc, esc_append a b]
    split <;> rfl
theorem esc_length : ∀ l : List UInt8, (esc l).length ≤ 2 * l.length
  | [] => by simp [esc]
  | x :: l => by
    have := esc_length l
    simp only [esc]
    split <;> simp only [List.length_cons] <;> omega
def keyB (s : ByteArray) : ByteArray := ⟨(esc s.data.toList ++ [0, 1]).toArray⟩

theorem replaceK_esc : ∀ l : List UInt8, Lib.replaceK [0] [0, 255] (Lib.count l [0]) l = esc l
  | [] => by
    have : Lib.count [] [0] = 0 := Lib.count_miss rfl
    rw [this]; rfl
  | b :: l => by
    have ih := replaceK_esc l
    by_cases hb : b = 0
    · subst hb
      have hi : Lib.index (0 :: l) [0] = (0 : Nat) := by simp [Lib.index]
      rw [Lib.count_hit (by simp) hi, Nat.add_comm, Lib.replaceK_hit _ _ _ _ 0 hi]
      simp only [List.take_zero, List.nil_append, List.length_cons, List.length_nil, Nat.zero_add, List.drop_succ_cons, List.drop_zero]
      rw [ih]; simp [esc]
    · have hne : ([0] : List UInt8).isPrefixOf (b :: l) = false := by simp [List.isPrefixOf, Ne.symm hb]
      by_cases hm : Lib.index l [0] = -1
      · have hi : Lib.index (b :: l) [0] = -1 := by rw [Lib.index, hne, hm]; simp
        rw [Lib.count_miss hm] at ih
        rw [Lib.count_miss hi]
        simp only [Lib.replaceK] at ih ⊢
        simp [esc, hb] at ih ⊢
        exact ih
      · obtain ⟨i, hil⟩ : ∃ i : Nat, Lib.index l [0] = i := ⟨(Lib.index l [0]).toNat, by have := Lib.index_ge l [0]; omega⟩
        have hi : Lib.index (b :: l) [0] = ((i + 1 : Nat) : Int) := by
          rw [Lib.index, hne, hil]
          have : ¬ ((i : Int) == -1) = true := by simp
          simp [this]
        rw [Lib.count_hit (by simp) hil, Nat.add_comm, Lib.replaceK_hit _ _ _ _ i hil] at ih
        rw [Lib.count_hit (by simp) hi, Nat.add_comm, Lib.replaceK_hit _ _ _ _ (i + 1) hi]
        simp only [List.take_succ_cons, List.length_cons, List.length_nil, Nat.zero_add, List.drop_succ_cons] at ih ⊢
        rw [List.cons_append, List.cons_append, ih]
        simp [esc, hb]

theorem replaceAll_esc (l : List UInt8) : Lib.replaceAll l [0] [0, 255] = esc l := by
  have h : ¬ (([0] : List UInt8) == [0, 255]) = true := by decide
  rw [Lib.replaceAll, Lib.replace, if_neg h, Lib.replaceNum, if_pos (.inl (by decide))]
  exact replaceK_esc l

/-- The program's own constant lies where it lay. -/
def MaxAt (w : World) : Prop := ∃ m, w.cell? ⟨0, 0, none⟩ = some (.int .i64 m)
theorem MaxAt.fr0 {w w' : World} (h : MaxAt w) (hf : Fr N0 w w') : MaxAt w' := by
  obtain ⟨m, h⟩ := h; exact ⟨m, hf.cell id h⟩

set_option maxRecDepth 100000 in
set_option maxHeartbeats 1000000 in
theorem cKey_any (s : ByteArray) (hs : s.size ≤ 1000000) (w : World) (hM : MaxAt w) :
    Calls Tryz.prog 94 #[.string s] w fun e w' => e = .returned (.string (keyB s)) ∧ Fr N0 w w' := by
  obtain ⟨m, hm⟩ := hM
  have hcb := Lib.countB_le ⟨#[0]⟩ (by decide) s.size s (Nat.le_refl _)
  have hc := Tryz.strings_ReplaceAll s ⟨#[0]⟩ ⟨#[0, 255]⟩ m w (by omega) hm (by decide) (by
    have : (⟨#[0, 255]⟩ : ByteArray).size = 2 := rfl
    rw [this]; omega)
  have e : Lib.replaceAll s.data.toList (⟨#[0]⟩ : ByteArray).data.toList (⟨#[0, 255]⟩ : ByteArray).data.toList = esc s.data.toList := replaceAll_esc _
  rw [e] at hc
  have hsum : (⟨(esc s.data.toList).toArray⟩ : ByteArray) ++ ⟨#[0, 1]⟩ = keyB s := by
    apply ByteArray.ext; simp [keyB, ByteArray.data_append]
  have hsz : (⟨(esc s.data.toList).toArray⟩ : ByteArray).size ≤ 2 * s.size := by
    have := esc_length s.data.toList
    rw [show s.data.toList.length = s.size from Array.length_toList] at this
    show (esc s.data.toList).toArray.size ≤ _
    rw [List.size_toArray]; exact this
  have HS := Lib.hid hsum; have HZ := Lib.hid hsz
  obtain ⟨K, hK⟩ : ∃ K, (⟨(esc s.data.toList).toArray⟩ : ByteArray) = K := ⟨_, rfl⟩
  rw [hK] at hc HS HZ
  have hadd : ∀ W, (Op.stringOp .add K ⟨#[0, 1]⟩).run Tryz.prog W = .ok (.string (keyB s)) W := fun W => by
    refine (run_string_add_sum W K ⟨#[0, 1]⟩ (by have := HZ.out; have e : (⟨#[0, 1]⟩ : ByteArray).size = 2 := rfl; rw [e]; omega)).trans ?_
    rw [HS.out]
  have HC := Lib.hid hc
  clear hc hsum hsz hK e hcb
  go_enter Tryz.func94, Tryz.ntmps94
  go_wp2_with (go_at_call 113; go_loud (refine HC.out.mono ?_); rintro e w1 ⟨rfl, hb1⟩; have hf1 := fr0_of_below hb1)
  go_ret
  exact ⟨rfl, hf1⟩

def u8s (l : List UInt8) : List Int := l.map fun b => (b.toNat : Int)
theorem strOfNums_u8s (l : List UInt8) : strOfNums (u8s l) = ⟨l.toArray⟩ := by
  apply ByteArray.ext
  simp only [strOfNums, u8s, List.map_map]
  congr 1
  rw [List.map_congr_left (g := id)]
  · simp
  · intro b _
    simp
theorem u8s_append (a b : List UInt8) : u8s (a ++ b) = u8s a ++ u8s b := by simp [u8s]
theorem u8s_length (a : List UInt8) : (u8s a).length = a.length := by simp [u8s]

theorem row_bytes {w : World} {base n cap : Nat} {g : Nat} {l : List UInt8} (h : w.ownsRow base 5 1 (.slice (some ⟨g, 0, none⟩) n cap) n ((u8s l).map (Value.int .u8))) :
    (convert 22 9 (.slice (some ⟨g, 0, none⟩) n cap)).run Tryz.prog w = .ok (.string ⟨l.toArray⟩) w := by
  have hn : l.length = n := by have := h.1; simpa [u8s] using this
  have hcv : ∀ dst, Tryz.prog.underlying dst = some .string → (convert 22 dst (.slice (some ⟨g, 0, none⟩) n cap)).run Tryz.prog w = .ok (.string (strOfNums (u8s l))) w := by
    refine run_convert_bytes_arg w 22 5 Tryz.underlying22 (by kernel_rfl) g 0 n cap (u8s l) (by rw [u8s_length]; exact hn) fun k hk => ?_
    have hlt : k < (u8s l).length := by rw [u8s_length]; omega
    rw [Nat.zero_add, h.cellAt k (by omega), List.getElem?_map, List.getElem?_eq_getElem hlt, List.getD, List.getElem?_eq_getElem hlt]
    rfl
  rw [hcv 9 (by kernel_rfl), strOfNums_u8s]

theorem row_base {w : World} {base n k : Nat} {e : TypeId} {v : Value} {vs : List Value} (h : w.ownsRow base e 1 v n vs) (hk : v.ownBlock = some k) : base ≤ k := (h.lt k hk).1

set_option maxRecDepth 100000 in
set_option maxHeartbeats 2000000 in
theorem r2Key_any (s : ByteArray) (hs : s.size ≤ 1000000) (w : World) :
    Calls Tryz.prog 104 #[.string s] w fun e w' => e = .returned (.string (keyB s)) ∧ Fr N0 w w' := by
  obtain ⟨i0, hi, hz0, hz1, hz2⟩ := info_parts infoU8
  go_enter Tryz.func104, Tryz.ntmps104
  go_wp2
  go_loopw [3, 4] (fun o i wr => ∃ k : Nat, k ≤ s.size ∧ i = .int .i64 k ∧ wr.ownsRow w.heap.size 5 1 o (esc (s.data.toList.take k)).length ((u8s (esc (s.data.toList.take k))).map (Value.int .u8)) ∧ Fr N0 w wr) (fun _ i _ => s.size - (intOf i).toNat)
  case atStart => exact ⟨0, Nat.zero_le _, by go_num, World.ownsRow_nil _ _ _ _, Fr.refl _ _⟩
  case round =>
    obtain ⟨k, hk, rfl, hrow, hfr⟩ := hrel
    have hwsz := hfr.size
    have hel := esc_length (s.data.toList.take k)
    have hel2 : (s.data.toList.take k).length ≤ k := by rw [List.length_take]; omega
    by_cases hlt : k < s.size
    · have hkl : k < s.data.toList.length := by rw [show s.data.toList.length = s.size from Array.length_toList]; exact hlt
      have hts : esc (s.data.toList.take (k + 1)) = esc (s.data.toList.take k) ++ esc [s.data.toList[k]] := by
        rw [List.take_succ_eq_append_getElem hkl, esc_append]
      have hb : s[k] = s.data.toList[k] := by simp only [Array.getElem_toList]; rfl
      obtain ⟨x, hx⟩ : ∃ x, s.data.toList[k] = x := ⟨_, rfl⟩
      rw [hx] at hts hb
      obtain ⟨n0, hn0⟩ : ∃ n0, (esc (s.data.toList.take k)).length = n0 := ⟨_, rfl⟩
      rw [hn0] at hrow hel
      obtain ⟨O, hO⟩ : ∃ O, esc (s.data.toList.take k) = O := ⟨_, rfl⟩
      rw [hO] at hrow hts hn0
      have hlt' : (k : Int) < (s.size : Int) := by omega
      have hbn : s[k].toNat = x.toNat := by rw [hb]
      have HTS := Lib.hid hts; have HR := Lib.hid hrow; have HF := Lib.hid hfr; have HN := Lib.hid hn0
      clear hts hrow hfr hO hx hb hn0
      cases hz : (decide (x = 0)) with
      | true =>
        obtain rfl : x = 0 := of_decide_eq_true hz
        have hx0 : (0 : UInt8).toNat = 0 := rfl
        rw [hx0] at hbn
        clear hz
        go_wp2_with (first
          | (at_builtin; have hq := HO1; go_loud (refine wpList_append_lies _ rfl _ _ 22 rfl w.heap.size 5 i0 (.int .u8 0) 1 1 Tryz.underlying22 hi hz0 hz1 hz2 rfl (by decide) (.slice (some ⟨g, 0, none⟩) (n0 + 1) gc) (n0 + 1) _ rfl (HO1.out.alloc _) ⟨w1.heap.size, 0, none⟩ 1 1 [.int .u8 255] rfl rfl (World.news_of_block (cs := #[.int .u8 255]) (t := 5) (fr := (0, 0)) (heap_alloc_new w1 _)) (by simp [Value.oneCell']) (by omega) (by unfold maxLen; omega) (by omega) (by simp; omega) (w1.heap.size + 1) (by simp) ?_); intro g2 gc2 w2 hown2 hgrow2 hfresh2 hlt2)
          | (at_builtin; go_loud (refine wpList_append_lies _ rfl _ _ 22 rfl w.heap.size 5 i0 (.int .u8 0) 1 1 Tryz.underlying22 hi hz0 hz1 hz2 rfl (by decide) (u3) (n0) _ rfl (HR.out.alloc _) ⟨wr.heap.size, 0, none⟩ 1 1 [.int .u8 (0 : Int)] rfl rfl (World.news_of_block (cs := #[.int .u8 (0 : Int)]) (t := 5) (fr := (0, 0)) (heap_alloc_new wr _)) (by simp [Value.oneCell']) (by omega) (by unfold maxLen; omega) (by omega) (by simp; omega) (wr.heap.size + 1) (by simp) ?_); intro g gc w1 hown hgrow hfresh hlt1; have hsz1 := hgrow.size; simp at hsz1; have HO1 := Lib.hid hown; clear hown))
        go_roundw
        case rel =>
          refine ⟨k + 1, by omega, by go_num, ?_, (((HF.out.alloc _).grown hgrow fun q e => .inr (row_base HR.out e)).alloc _).grown hgrow2 fun q e => .inr (row_base HO1.out e)⟩
          rw [HTS.out]
          have := HN.out
          simpa [esc, u8s, this] using hown2
        case measure => simp [intOf]; omega
      | false =>
        have hx0 : x ≠ 0 := of_decide_eq_false hz
        have hxn : ¬ ((x.toNat : Int) == 0) = true := by
          intro h
          apply hx0
          have : x.toNat = 0 := by simpa using h
          exact UInt8.toNat_inj.1 this
        have hxf : ((x.toNat : Int) == 0) = false := by simpa using hxn
        clear hz hxn
        go_wp2_with (at_builtin; go_loud (refine wpList_append_lies _ rfl _ _ 22 rfl w.heap.size 5 i0 (.int .u8 0) 1 1 Tryz.underlying22 hi hz0 hz1 hz2 rfl (by decide) (u3) (n0) _ rfl (HR.out.alloc _) ⟨wr.heap.size, 0, none⟩ 1 1 [.int .u8 (x.toNat : Int)] rfl rfl (World.news_of_block (cs := #[.int .u8 (x.toNat : Int)]) (t := 5) (fr := (0, 0)) (heap_alloc_new wr _)) (by simp [Value.oneCell']) (by omega) (by unfold maxLen; omega) (by omega) (by simp; omega) (wr.heap.size + 1) (by simp) ?_); intro g gc w1 hown hgrow hfresh hlt1)
        go_roundw
        case rel =>
          refine ⟨k + 1, by omega, by go_num, ?_, ((HF.out.alloc _).grown hgrow fun q e => .inr (row_base HR.out e))⟩
          rw [HTS.out]
          have := HN.out
          simpa [esc, u8s, this, hx0] using hown
        case measure => simp [intOf]; omega
    · obtain rfl : k = s.size := by omega
      have hta : s.data.toList.take s.size = s.data.toList := List.take_of_length_le (by rw [show s.data.toList.length = s.size from Array.length_toList]; exact Nat.le_refl _)
      rw [hta] at hrow hel
      have hll : s.data.toList.length = s.size := Array.length_toList
      rw [hll] at hel
      obtain ⟨n0, hn0⟩ : ∃ n0, (esc s.data.toList).length = n0 := ⟨_, rfl⟩
      rw [hn0] at hrow hel
      have HR := Lib.hid hrow; have HF := Lib.hid hfr; have HN := Lib.hid hn0
      clear hrow hfr hn0 hta hll
      go_wp2_with (first
          | (at_builtin; have hq := HO1; go_loud (refine wpList_append_lies _ rfl _ _ 22 rfl w.heap.size 5 i0 (.int .u8 0) 1 1 Tryz.underlying22 hi hz0 hz1 hz2 rfl (by decide) (.slice (some ⟨g, 0, none⟩) (n0 + 1) gc) (n0 + 1) _ rfl (HO1.out.alloc _) ⟨w1.heap.size, 0, none⟩ 1 1 [.int .u8 1] rfl rfl (World.news_of_block (cs := #[.int .u8 1]) (t := 5) (fr := (0, 0)) (heap_alloc_new w1 _)) (by simp [Value.oneCell']) (by omega) (by unfold maxLen; omega) (by omega) (by simp; omega) (w1.heap.size + 1) (by simp) ?_); intro g2 gc2 w2 hown2 hgrow2 hfresh2 hlt2; have hcv := row_bytes (l := esc s.data.toList ++ [0, 1]) (by simpa [u8s] using hown2))
          | (at_builtin; go_loud (refine wpList_append_lies _ rfl _ _ 22 rfl w.heap.size 5 i0 (.int .u8 0) 1 1 Tryz.underlying22 hi hz0 hz1 hz2 rfl (by decide) (u3) (n0) _ rfl (HR.out.alloc _) ⟨wr.heap.size, 0, none⟩ 1 1 [.int .u8 0] rfl rfl (World.news_of_block (cs := #[.int .u8 0]) (t := 5) (fr := (0, 0)) (heap_alloc_new wr _)) (by simp [Value.oneCell']) (by omega) (by unfold maxLen; omega) (by omega) (by simp; omega) (wr.heap.size + 1) (by simp) ?_); intro g gc w1 hown hgrow hfresh hlt1; have hsz1 := hgrow.size; simp at hsz1; have HO1 := Lib.hid hown; clear hown))
      go_ret
      exact ⟨rfl, (((HF.out.alloc _).grown hgrow fun q e => .inr (row_base HR.out e)).alloc _).grown hgrow2 fun q e => .inr (row_base HO1.out e)⟩

end Go.Proofs.YthidminepegnoaaGreatDoor
namespace Go.Proofs.YthidminepegnoaaGreatDoor
open Go.RowKit Go.Shelf
attribute [local go_sem] Oper.semAt_some
set_option linter.unusedVariables false
set_option linter.unusedSimpArgs false

theorem boxS_facts {W0 : World} {B : Nat} {cs : Array Value} {W : World} (h : BoxS W0 B cs W) : (∀ i, W.cell? ⟨B, i, none⟩ = cs[i]?) ∧ (∀ o i, (W.alloc o).cell? ⟨B, i, none⟩ = cs[i]?) ∧ (∀ o o' i, ((W.alloc o).alloc o').cell? ⟨B, i, none⟩ = cs[i]?) :=
  ⟨h.1, fun o => (boxS_keep ((Fr.refl _ _).alloc o) h).1, fun o o' => (boxS_keep (((Fr.refl _ _).alloc o).alloc o') h).1⟩

def Val.ok (v : Val) : Prop := (0 ≤ v.k ∧ v.k < 256) ∧ (-9223372036854775808 ≤ v.n ∧ v.n ≤ 9223372036854775807) ∧ 0 ≤ v.u ∧ v.u < 18446744073709551616
def Wr.ok (x : Wr) : Prop := (0 ≤ x.uid ∧ x.uid < 18446744073709551616) ∧ x.val.ok
theorem Wr.ok.wf {x : Wr} (h : x.ok) : x.wf := ⟨h.1.1, h.2.2.2.1, h.2.1.1⟩

def valB (v : Val) : ByteArray := strOfNums [v.k] ++ (if v.k = 1 then strOfNums [if v.b then 1 else 0] else if v.k = 2 then strOfNums (be 8 (ioff v.n)) else if v.k = 3 then keyB v.s else strOfNums (num v.u.toNat))

theorem valMay_kind {v : Val} (h : valMay v = true) : v.k = 1 ∨ v.k = 2 ∨ (v.k = 3 ∧ v.s.size ≤ 4096) ∨ v.k = 4 := by
  unfold valMay at h
  by_cases h1 : v.k = 1
  · exact .inl h1
  by_cases h2 : v.k = 2
  · exact .inr (.inl h2)
  by_cases h3 : v.k = 3
  · simp [h3] at h; exact .inr (.inr (.inl ⟨h3, by omega⟩))
  by_cases h4 : v.k = 4
  · exact .inr (.inr (.inr h4))
  simp [h1, h2, h3, h4] at h

theorem keyB_size (s : ByteArray) : (keyB s).size ≤ 2 * s.size + 2 := by
  have := esc_length s.data.toList
  rw [show s.data.toList.length = s.size from Array.length_toList] at this
  show (esc s.data.toList ++ [0, 1]).toArray.size ≤ _
  rw [List.size_toArray, List.length_append]; simp; omega

theorem cat_run (a b : ByteArray) (h : a.size + b.size ≤ 9223372036854775807) (W : World) : (Op.stringOp .add a b).run Tryz.prog W = .ok (.string (a ++ b)) W :=
  (run_string_add_sum W a b (by omega)).trans rfl

theorem one_byteI (n : Int) (W : World) (B : Nat) (hc : W.cell? ⟨B, 0, none⟩ = some (.int .u8 n)) :
    (convert 22 9 (.slice (some ⟨B, 0, none⟩) 1 1)).run Tryz.prog W = .ok (.string (strOfNums [n])) W := by
  refine run_convert_bytes_arg W 22 5 Tryz.underlying22 (by kernel_rfl) B 0 1 1 [n] rfl (fun k hk => ?_) 9 (by kernel_rfl)
  obtain rfl : k = 0 := by omega
  exact hc

set_option maxRecDepth 100000 in
set_option maxHeartbeats 2000000 in
theorem r3Bytes_any (v : Val) (hok : v.ok) (hm : valMay v = true) (w : World) :
    Calls Tryz.prog 106 #[.agg v.enc.toArray] w fun e w' => e = .returned (.string (valB v)) ∧ Fr N0 w w' := by
  have hk := valMay_kind hm
  have hc2 := fun W => r2Int_any v.n hok.2.1.1 hok.2.1.2 W
  have hu : ((v.u.toNat : Nat) : Int) = v.u := by have := hok.2.2.1; omega
  have hc4 := fun W => rnum_any v.u.toNat (by have := hok.2.2; omega) W
  rw [hu] at hc4
  have hnb : v.u.toNat < 256 ^ 8 := by have := hok.2.2; omega
  unfold Val.enc
  obtain ⟨vk, vb, vn, vs, vu⟩ := v
  simp only at hk hc2 hc4 hu hnb
  unfold valB
  simp only
  have H2 := Lib.hid hc2; have H4 := Lib.hid hc4
  clear hc2 hc4 hm hok
  have hadd : ∀ (n : Int) (X : ByteArray) (h : X.size ≤ 1000000) W, (Op.stringOp .add (strOfNums [n]) X).run Tryz.prog W = .ok (.string (strOfNums [n] ++ X)) W := fun n X h W => cat_run _ _ (by simp only [strOfNums_size, List.length_cons, List.length_nil]; omega) W
  rcases hk with rfl | rfl | ⟨rfl, hs⟩ | rfl
  · have hb1 := one_byteI 1
    have hw1 : IntKind.u8.wrap 1 = 1 := IntWalk.u8_in _ (by omega)
    clear hadd
    simp only [if_true]
    have e0 : strOfNums [0] = ⟨#[0]⟩ := rfl
    have e1 : strOfNums [1] = ⟨#[1]⟩ := rfl
    cases vb
    all_goals
      go_enter Tryz.func106, Tryz.ntmps106
      go_wp2
      go_ret
      exact ⟨rfl, (by repeat (first | exact Fr.refl _ _ | assumption | refine Fr.alloc ?_ _ | refine Fr.drew ?_ | refine Fr.drewN ?_ _ | refine Fr.setCell ?_ (.inr (by simp; try omega)) _))⟩
  · have hb1 := one_byteI 2
    have hw1 : IntKind.u8.wrap 2 = 2 := IntWalk.u8_in _ (by omega)
    have ha := hadd 2 (strOfNums (be 8 (ioff vn))) (by rw [strOfNums_size, be_length]; omega)
    obtain ⟨X, hX⟩ : ∃ X, strOfNums (be 8 (ioff vn)) = X := ⟨_, rfl⟩
    have h2 := H2.out
    have n1 : ¬ (2 : Int) = 1 := by omega
    simp only [n1, if_true, if_false]
    simp only [hX] at h2 ha ⊢
    have H2 := Lib.hid h2
    obtain ⟨K, hK⟩ : ∃ K, strOfNums [2] = K := ⟨_, rfl⟩
    simp only [hK] at hb1 ha ⊢
    clear hadd h2 hX hK n1
    go_enter Tryz.func106, Tryz.ntmps106
    go_wp2_with (go_at_call 123; go_loud (refine (H2.out _).mono ?_); rintro e w1 ⟨rfl, hf1⟩)
    go_ret
    exact ⟨rfl, Fr.then0 (by repeat (first | exact Fr.refl _ _ | assumption | refine Fr.alloc ?_ _ | refine Fr.drew ?_ | refine Fr.drewN ?_ _ | refine Fr.setCell ?_ (.inr (by simp; try omega)) _)) hf1⟩
  · have hb1 := one_byteI 3
    have hw1 : IntKind.u8.wrap 3 = 3 := IntWalk.u8_in _ (by omega)
    have ha := hadd 3 (keyB vs) (by have := keyB_size vs; omega)
    have h3 := fun W => r2Key_any vs (by omega) W
    obtain ⟨X, hX⟩ : ∃ X, keyB vs = X := ⟨_, rfl⟩
    have n1 : ¬ (3 : Int) = 1 := by omega
    have n2 : ¬ (3 : Int) = 2 := by omega
    simp only [n1, n2, if_true, if_false]
    simp only [hX] at h3 ha ⊢
    have H3 := Lib.hid h3
    obtain ⟨K, hK⟩ : ∃ K, strOfNums [3] = K := ⟨_, rfl⟩
    simp only [hK] at hb1 ha ⊢
    clear hadd h3 hX hK n1 n2
    go_enter Tryz.func106, Tryz.ntmps106
    go_wp2_with (go_at_call 104; go_loud (refine (H3.out _).mono ?_); rintro e w1 ⟨rfl, hf1⟩)
    go_ret
    exact ⟨rfl, Fr.then0 (by repeat (first | exact Fr.refl _ _ | assumption | refine Fr.alloc ?_ _ | refine Fr.drew ?_ | refine Fr.drewN ?_ _ | refine Fr.setCell ?_ (.inr (by simp; try omega)) _)) hf1⟩
  · have hb1 := one_byteI 4
    have hw1 : IntKind.u8.wrap 4 = 4 := IntWalk.u8_in _ (by omega)
    have ha := hadd 4 (strOfNums (num vu.toNat)) (by rw [strOfNums_size, num, List.length_cons, be_length]; have := nb_le 8 vu.toNat hnb; omega)
    have h4 := H4.out
    obtain ⟨X, hX⟩ : ∃ X, strOfNums (num vu.toNat) = X := ⟨_, rfl⟩
    have n1 : ¬ (4 : Int) = 1 := by omega
    have n2 : ¬ (4 : Int) = 2 := by omega
    have n3 : ¬ (4 : Int) = 3 := by omega
    simp only [n1, n2, n3, if_false]
    simp only [hX] at h4 ha ⊢
    have H4 := Lib.hid h4
    obtain ⟨K, hK⟩ : ∃ K, strOfNums [4] = K := ⟨_, rfl⟩
    simp only [hK] at hb1 ha ⊢
    clear hadd h4 hX hK n1 n2 n3
    go_enter Tryz.func106, Tryz.ntmps106
    go_wp2_with (go_at_call 105; go_loud (refine (H4.out _).mono ?_); rintro e w1 ⟨rfl, hf1⟩)
    go_ret
    exact ⟨rfl, Fr.then0 (by repeat (first | exact Fr.refl _ _ | assumption | refine Fr.alloc ?_ _ | refine Fr.drew ?_ | refine Fr.drewN ?_ _ | refine Fr.setCell ?_ (.inr (by simp; try omega)) _)) hf1⟩

set_option maxRecDepth 100000 in
set_option maxHeartbeats 1000000 in
theorem truth_any (b : Bool) (w : World) : Calls Tryz.prog 114 #[.bool b] w fun e w' => e = .returned (.int .i64 (if b then 1 else 0)) ∧ w' = w := by
  cases b
  all_goals
    go_enter Tryz.func114, Tryz.ntmps114
    go_wp2
    go_ret
    exact ⟨rfl, rfl⟩

set_option maxRecDepth 100000 in
set_option maxHeartbeats 2000000 in
theorem vBytes_any (v : Val) (hok : v.ok) (hm : valMay v = true) (w : World) (hM : MaxAt w) :
    Calls Tryz.prog 96 #[.agg v.enc.toArray] w fun e w' => e = .returned (.tuple #[.string (valB v), .int .i64 0]) ∧ Fr N0 w w' := by
  have hk := valMay_kind hm
  have hmay := fun W => vMay_any v hok.2.2.1 W
  simp only [hm, if_true] at hmay
  have hc2 := fun W => cInt_any v.n hok.2.1.1 hok.2.1.2 W
  have hu : ((v.u.toNat : Nat) : Int) = v.u := by have := hok.2.2.1; omega
  have hc4 := fun W => num_any v.u.toNat (by have := hok.2.2; omega) W
  rw [hu] at hc4
  have hnb : v.u.toNat < 256 ^ 8 := by have := hok.2.2; omega
  unfold Val.enc at hmay ⊢
  obtain ⟨vk, vb, vn, vs, vu⟩ := v
  simp only at hk hc2 hc4 hu hnb hmay
  unfold valB
  simp only
  have H2 := Lib.hid hc2; have H4 := Lib.hid hc4; have HM := Lib.hid hmay
  clear hc2 hc4 hm hok hmay
  have hadd : ∀ (n : Int) (X : ByteArray) (h : X.size ≤ 1000000) W, (Op.stringOp .add (strOfNums [n]) X).run Tryz.prog W = .ok (.string (strOfNums [n] ++ X)) W := fun n X h W => cat_run _ _ (by simp only [strOfNums_size, List.length_cons, List.length_nil]; omega) W
  rcases hk with rfl | rfl | ⟨rfl, hs⟩ | rfl
  · have hb1 := one_byteI 1; have hb0 := one_byteI 0
    have hw1 : IntKind.u8.wrap 1 = 1 := IntWalk.u8_in _ (by omega)
    have hw0 : IntKind.u8.wrap 0 = 0 := IntWalk.u8_in _ (by omega)
    clear hadd
    simp only [if_true]
    have e0 : strOfNums [0] = ⟨#[0]⟩ := rfl
    have e1 : strOfNums [1] = ⟨#[1]⟩ := rfl
    cases vb
    all_goals
      go_enter Tryz.func96, Tryz.ntmps96
      go_wp2_with (first
        | (go_at_call 111; go_loud (refine (HM.out _).mono ?_); rintro e w1 ⟨rfl, hf1⟩; have hB1 := boxS_keep hf1 (boxS_new w _ _); obtain ⟨m1, m1a, m1b⟩ := boxS_facts hB1; have HB := Lib.hid hB1.2.2; clear hB1)
        | (go_at_call 114; go_loud (refine (truth_any _ _).mono ?_); rintro e w2 ⟨rfl, rfl⟩))
      go_ret2
      exact ⟨rfl, HB.out.then0 (by repeat (first | exact Fr.refl _ _ | assumption | refine Fr.alloc ?_ _ | refine Fr.drew ?_ | refine Fr.drewN ?_ _ | refine Fr.setCell ?_ (.inr (by simp; try omega)) _))⟩
  · have hb1 := one_byteI 2
    have hw1 : IntKind.u8.wrap 2 = 2 := IntWalk.u8_in _ (by omega)
    have ha := hadd 2 (strOfNums (be 8 (ioff vn))) (by rw [strOfNums_size, be_length]; omega)
    obtain ⟨X, hX⟩ : ∃ X, strOfNums (be 8 (ioff vn)) = X := ⟨_, rfl⟩
    have h2 := H2.out
    have n1 : ¬ (2 : Int) = 1 := by omega
    simp only [n1, if_true, if_false]
    simp only [hX] at h2 ha ⊢
    have H2 := Lib.hid h2
    obtain ⟨K, hK⟩ : ∃ K, strOfNums [2] = K := ⟨_, rfl⟩
    simp only [hK] at hb1 ha ⊢
    clear hadd h2 hX hK n1
    go_enter Tryz.func96, Tryz.ntmps96
    go_wp2_with (first
        | (go_at_call 111; go_loud (refine (HM.out _).mono ?_); rintro e w1 ⟨rfl, hf1⟩; have hB1 := boxS_keep hf1 (boxS_new w _ _); obtain ⟨m1, m1a, m1b⟩ := boxS_facts hB1; have HB := Lib.hid hB1.2.2; clear hB1)
        | (go_at_call 115; go_loud (refine (H2.out _).mono ?_); rintro e w2 ⟨rfl, hf2⟩))
    go_ret2
    exact ⟨rfl, HB.out.then0 (Fr.then0 (by repeat (first | exact Fr.refl _ _ | assumption | refine Fr.alloc ?_ _ | refine Fr.drew ?_ | refine Fr.drewN ?_ _ | refine Fr.setCell ?_ (.inr (by simp; try omega)) _)) hf2)⟩
  · have hb1 := one_byteI 3
    have hw1 : IntKind.u8.wrap 3 = 3 := IntWalk.u8_in _ (by omega)
    have ha := hadd 3 (keyB vs) (by have := keyB_size vs; omega)
    have h3 := fun W hW => cKey_any vs (by omega) W (hM.fr0 hW)
    obtain ⟨X, hX⟩ : ∃ X, keyB vs = X := ⟨_, rfl⟩
    have n1 : ¬ (3 : Int) = 1 := by omega
    have n2 : ¬ (3 : Int) = 2 := by omega
    simp only [n1, n2, if_true, if_false]
    simp only [hX] at h3 ha ⊢
    have H3 := Lib.hid h3
    obtain ⟨K, hK⟩ : ∃ K, strOfNums [3] = K := ⟨_, rfl⟩
    simp only [hK] at hb1 ha ⊢
    clear hadd h3 hX hK n1 n2
    go_enter Tryz.func96, Tryz.ntmps96
    go_wp2_with (first
        | (go_at_call 111; go_loud (refine (HM.out _).mono ?_); rintro e w1 ⟨rfl, hf1⟩; have hB1 := boxS_keep hf1 (boxS_new w _ _); obtain ⟨m1, m1a, m1b⟩ := boxS_facts hB1; have HB := Lib.hid hB1.2.2; clear hB1)
        | (go_at_call 94; go_loud (refine (H3.out _ (HB.out.then0 (by repeat (first | exact Fr.refl _ _ | assumption | refine Fr.alloc ?_ _ | refine Fr.drew ?_ | refine Fr.drewN ?_ _ | refine Fr.setCell ?_ (.inr (by simp; try omega)) _)))).mono ?_); rintro e w2 ⟨rfl, hf2⟩))
    go_ret2
    exact ⟨rfl, HB.out.then0 (Fr.then0 (by repeat (first | exact Fr.refl _ _ | assumption | refine Fr.alloc ?_ _ | refine Fr.drew ?_ | refine Fr.drewN ?_ _ | refine Fr.setCell ?_ (.inr (by simp; try omega)) _)) hf2)⟩
  · have hb1 := one_byteI 4
    have hw1 : IntKind.u8.wrap 4 = 4 := IntWalk.u8_in _ (by omega)
    have ha := hadd 4 (strOfNums (num vu.toNat)) (by rw [strOfNums_size, num, List.length_cons, be_length]; have := nb_le 8 vu.toNat hnb; omega)
    have h4 := H4.out
    obtain ⟨X, hX⟩ : ∃ X, strOfNums (num vu.toNat) = X := ⟨_, rfl⟩
    have n1 : ¬ (4 : Int) = 1 := by omega
    have n2 : ¬ (4 : Int) = 2 := by omega
    have n3 : ¬ (4 : Int) = 3 := by omega
    simp only [n1, n2, n3, if_false]
    simp only [hX] at h4 ha ⊢
    have H4 := Lib.hid h4
    obtain ⟨K, hK⟩ : ∃ K, strOfNums [4] = K := ⟨_, rfl⟩
    simp only [hK] at hb1 ha ⊢
    clear hadd h4 hX hK n1 n2 n3
    go_enter Tryz.func96, Tryz.ntmps96
    go_wp2_with (first
        | (go_at_call 111; go_loud (refine (HM.out _).mono ?_); rintro e w1 ⟨rfl, hf1⟩; have hB1 := boxS_keep hf1 (boxS_new w _ _); obtain ⟨m1, m1a, m1b⟩ := boxS_facts hB1; have HB := Lib.hid hB1.2.2; clear hB1)
        | (go_at_call 95; go_loud (refine (H4.out _).mono ?_); rintro e w2 ⟨rfl, hf2⟩))
    go_ret2
    exact ⟨rfl, HB.out.then0 (Fr.then0 (by repeat (first | exact Fr.refl _ _ | assumption | refine Fr.alloc ?_ _ | refine Fr.drew ?_ | refine Fr.drewN ?_ _ | refine Fr.setCell ?_ (.inr (by simp; try omega)) _)) hf2)⟩

end Go.Proofs.YthidminepegnoaaGreatDoor
