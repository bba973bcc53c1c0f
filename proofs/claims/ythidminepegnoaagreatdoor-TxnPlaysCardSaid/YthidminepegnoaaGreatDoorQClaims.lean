/- The document's Rising: texts, rising, each once. The document's Preds, Wrong, Find, Claims. -/
import Derived.Sort.Walk0
import Derived.Laws.Cover1
import Derived.Test.YthidminepegnoaaGreatDoorQPreds
import Derived.Test.YthidminepegnoaaGreatDoorQPred
namespace Go.Proofs.YthidminepegnoaaGreatDoor
open Go.RowKit Go.Shelf Go.Maps Go.Sort
attribute [local go_sem] Oper.semAt_some
set_option linter.unusedVariables false
set_option linter.unusedSimpArgs false

theorem encStr_eq (l : List UInt8) : encStr l = .string (mkS l) := rfl
theorem mkS_toList (l : List UInt8) : (mkS l).toList = l := ByteArray.toList_mk l
theorem mkS_data (s : ByteArray) : mkS s.data.toList = s := by apply ByteArray.ext; simp [mkS]
theorem toListD (s : ByteArray) : s.toList = s.data.toList := ByteArray.toList_eq s

theorem normL_skip {xs : List ByteArray} {s : ByteArray} (h : s.data.toList ∈ normL xs) : normL (xs ++ [s]) = normL xs := by
  refine RisesTo.unique (normL_rises _) ⟨(normL_rises xs).1, fun x => ?_⟩
  rw [(normL_rises xs).2]
  constructor
  · rintro ⟨t, ht, rfl⟩; exact ⟨t, List.mem_append_left _ ht, rfl⟩
  · rintro ⟨t, ht, rfl⟩
    rcases List.mem_append.1 ht with ht | ht
    · exact ⟨t, ht, rfl⟩
    · simp at ht; subst ht
      exact ((normL_rises xs).2 _).1 h
theorem normL_put {xs : List ByteArray} {s : ByteArray} (j : Nat) (hA : ∀ x ∈ (normL xs).take j, x < s.data.toList) (hB : ∀ x ∈ (normL xs).drop j, s.data.toList < x) :
    (normL xs).take j ++ s.data.toList :: (normL xs).drop j = normL (xs ++ [s]) := by
  have hs := (normL_rises xs).1
  rw [← List.take_append_drop j (normL xs), List.pairwise_append] at hs
  refine RisesTo.unique (P := fun x => ∃ t ∈ xs ++ [s], t.data.toList = x) ⟨?_, fun x => ?_⟩ (normL_rises _)
  · rw [List.pairwise_append]
    refine ⟨hs.1, ?_, fun a ha b hb => ?_⟩
    · rw [List.pairwise_cons]; exact ⟨hB, hs.2.1⟩
    · rcases List.mem_cons.1 hb with rfl | hb
      · exact hA a ha
      · exact hs.2.2 a ha b hb
  · have hm : x ∈ normL xs ↔ x ∈ (normL xs).take j ∨ x ∈ (normL xs).drop j := by rw [← List.mem_append, List.take_append_drop]
    rw [(normL_rises xs).2] at hm
    rw [List.mem_append, List.mem_cons]
    constructor
    · rintro (h | h | h)
      · obtain ⟨t, ht, e⟩ := hm.2 (.inl h); exact ⟨t, List.mem_append_left _ ht, e⟩
      · exact ⟨s, by simp, h.symm⟩
      · obtain ⟨t, ht, e⟩ := hm.2 (.inr h); exact ⟨t, List.mem_append_left _ ht, e⟩
    · rintro ⟨t, ht, e⟩
      rcases List.mem_append.1 ht with ht | ht
      · rcases hm.1 ⟨t, ht, e⟩ with h | h
        · exact .inl h
        · exact .inr (.inr h)
      · simp at ht; subst ht; exact .inr (.inl e.symm)

theorem ownsRow_same {w w' : World} {base : Nat} {e : TypeId} {size : Nat} {v : Value} {n : Nat} {xs : List Value} (h : w.ownsRow base e size v n xs)
    (hs : ∀ g, v.ownBlock = some g → w'.heap[g]? = w.heap[g]?) : w'.ownsRow base e size v n xs := by
  refine ⟨h.1, ?_⟩
  rcases h.2 with hn | ⟨g, cap, cur, rfl, hb, hgg, rest⟩
  · exact .inl hn
  · exact .inr ⟨g, cap, cur, rfl, hb, (hs g rfl).trans hgg, rest⟩

set_option maxRecDepth 100000 in
set_option maxHeartbeats 4000000 in
theorem rising_any (w : World) (b : Nat) (v : Value) (xs : List ByteArray) (h : Strs w b v xs) (hl : xs.length ≤ 1000000) :
    Calls Tryz.prog 107 #[v] w fun e w' => ∃ v' bb, e = .returned v' ∧ Strs w' bb v' (normS xs) ∧ w.heap.size ≤ bb ∧ Fr N0 w w' := by
  obtain ⟨i0, hi, hz0, hz1, hz2⟩ := info_parts infoStr
  obtain ⟨a, off, cap, rfl, h1, h2, h3, h4, h5⟩ := h
  have HC := Lib.hid h5
  have hnil : normL [] = [] := by simp [normL, once]
  have hnil0 : Hid ((normL (xs.take 0)).length = 0) := by rw [List.take_zero, hnil]; exact rfl
  clear h4 h5
  go_enter Tryz.func107, Tryz.ntmps107
  go_wp2
  go_loopw [3, 4] (fun o iv wr => ∃ (i n : Nat), i ≤ xs.length ∧ iv = .int .i64 i ∧ Hid ((normL (xs.take i)).length = n) ∧ n ≤ i ∧ wr.ownsRow w.heap.size 9 1 o n ((normL (xs.take i)).map encStr) ∧ Fr N0 w wr) (fun _ iv _ => xs.length - (intOf iv).toNat)
  case atStart => exact ⟨0, 0, Nat.zero_le _, by go_num, hnil0, Nat.le_refl _, by rw [List.take_zero, hnil]; exact World.ownsRow_nil _ _ _ _, Fr.refl _ _⟩
  case round =>
    obtain ⟨i, n, hi1, rfl, hn, hni, hrow, hfr⟩ := hrel
    by_cases hlt : i < xs.length
    · obtain rfl := h3 (by omega)
      have hck := hfr.cell id (HC.out i hlt)
      obtain ⟨s, hs⟩ : ∃ s, xs[i] = s := ⟨_, rfl⟩
      rw [hs] at hck
      have hts : xs.take (i + 1) = xs.take i ++ [s] := by rw [List.take_succ_eq_append_getElem hlt, hs]
      have hlt' : (i : Int) < (xs.length : Int) := by omega
      have hskip := normL_skip (xs := xs.take i) (s := s)
      have hput := fun j => normL_put (xs := xs.take i) (s := s) j
      have hsrt := (normL_rises (xs.take i)).1
      rw [← hts] at hskip
      simp only [← hts] at hput
      obtain ⟨O, hO⟩ : ∃ O, normL (xs.take i) = O := ⟨_, rfl⟩
      rw [hO] at hrow hn hskip hsrt
      simp only [hO] at hput
      have HSK := Lib.hid hskip; have HPUT := Lib.hid hput; have HSR := Lib.hid hsrt; have HROW := Lib.hid hrow; have HF := Lib.hid hfr
      have hlo : ∀ (ty : TypeId) (W : World), (Builtin.len_ #[28] ty #[u3]).run Tryz.prog W = .ok (.int .i64 (n : Int)) W := fun ty W => by
        rcases hrow.2 with ⟨rfl, h0⟩ | ⟨g, cap', cur, rfl, _⟩
        · rw [h0]; rfl
        · rfl
      have hs0 := hs
      clear hskip hput hsrt hrow hfr hts hO hs
      have hdrop : ∀ y ∈ O.drop n, s.data.toList < y := by
        rw [List.drop_of_length_le (by rw [hn.out]; exact Nat.le_refl _)]; simp
      have HDR := Lib.hid hdrop
      clear hdrop
      go_wp2
      go_loopw [5] (fun kv W => ∃ m : Nat, m ≤ n ∧ kv = .int .i64 m ∧ Hid (∀ y ∈ O.drop m, s.data.toList < y) ∧ W.ownsRow w.heap.size 9 1 u3 n (O.map encStr) ∧ Fr N0 wr W) (fun kv _ => (intOf kv).toNat)
      case atStart => exact ⟨n, Nat.le_refl _, rfl, HDR.out, HROW.out, Fr.refl _ _⟩
      case round =>
        rename World => W
        obtain ⟨m, hm, rfl, hdm, hrw, hfw⟩ := hrel
        have hckw := hfw.cell id hck
        have hck0 := hckw
        clear hck
        have hwszW := (HF.out.then0 hfw).size
        have HRW := Lib.hid hrw; have HFW := Lib.hid hfw
        clear hrw hfw hckw
        by_cases hm0 : 0 < m
        case' neg =>
          have hA : ∀ y ∈ O.take m, y < s.data.toList := by
            rw [show m = 0 by omega]; simp
          have HA := Lib.hid hA
          clear hA
          go_wp2
          go_quiet (fail)
          have HRW := Lib.hid (ownsRow_same (w' := W.drewN nq) HRW.out (fun _ _ => rfl)); have HFW := Lib.hid (HFW.out.drewN nq)
          have hck0 := ((Fr.refl N0 W).drewN nq).cell id hck0
          obtain ⟨W1, hW1⟩ : ∃ Wz, W.drewN nq = Wz := ⟨_, rfl⟩
          rw [hW1] at HRW HFW hck0 ⊢
          clear hW1
          go_wp2
          go_quiet (fail)
          have HRW := Lib.hid (ownsRow_same (w' := W1.drewN nq) HRW.out (fun _ _ => rfl)); have HFW := Lib.hid (HFW.out.drewN nq)
          have hck0 := ((Fr.refl N0 W1).drewN nq).cell id hck0
          obtain ⟨W2, hW1⟩ : ∃ Wz, W1.drewN nq = Wz := ⟨_, rfl⟩
          rw [hW1] at HRW HFW hck0 ⊢
          clear hW1
          have hsz2 := (HF.out.then0 HFW.out).size
          go_wp2_with (at_builtin; go_loud (refine wpList_append_lies _ rfl _ _ 28 rfl w.heap.size 9 i0 (.string ⟨#[]⟩) 1 16 Tryz.underlying28 hi hz0 hz1 hz2 rfl (by decide) (u3) (n) _ rfl (HRW.out.alloc _) ⟨W2.heap.size, 0, none⟩ 1 1 [.string ⟨#[]⟩] rfl rfl (World.news_of_block (cs := #[.string ⟨#[]⟩]) (t := 9) (fr := (0, 0)) (heap_alloc_new W2 _)) (by simp [Value.oneCell']) (by omega) (by unfold maxLen; omega) (by omega) (by simp; omega) (W2.heap.size + 1) (by simp) ?_); intro g gc W3 hown3 hg3 hfresh3 hlt3; have HO3 := Lib.hid hown3; have HF3 := Lib.hid (((HF.out.then0 HFW.out).alloc _).grown hg3 fun k e => .inr (HRW.out.lt k e).1); clear hown3 hg3)
        case' pos =>
          obtain ⟨p, rfl⟩ : ∃ p, m = p + 1 := ⟨m - 1, by omega⟩
          obtain ⟨gg, cc, cur, hu3, hgb, hgg, hnc, hcm, _⟩ := (HRW.out.2.resolve_left fun h => by omega)
          subst hu3
          have hpO : p < O.length := by rw [hn.out]; omega
          have hdrop : O.drop p = O[p] :: O.drop (p + 1) := List.drop_eq_getElem_cons hpO
          have hsrt := HSR.out
          obtain ⟨A, hAA⟩ : ∃ A, mkS O[p] = A := ⟨_, rfl⟩
          have hAl : A.toList = O[p] := by rw [← hAA, mkS_toList]
          have hpn : (p : Int) < (n : Int) := by omega
          have hw1 : IntKind.i64.wrap ((p : Int) + 1 - 1) = (p : Int) := by rw [IntWalk.i64_in _ (by omega)]; omega
          have hsl : s.toList = s.data.toList := toListD s
          have hgt : (Op.bytesLess A.toList s.toList || A.toList == s.toList) = decide (O[p] ≤ s.data.toList) := by
            rw [bytesLess_eq, hAl, hsl]
            rw [Bool.eq_iff_iff]
            simp only [Bool.or_eq_true, decide_eq_true_eq, beq_iff_eq]
            constructor
            · rintro (h | h)
              · exact List.le_of_lt h
              · rw [h]; exact List.le_refl _
            · intro h
              by_cases h' : O[p] < s.data.toList
              · exact .inl h'
              · exact .inr (List.le_antisymm h (List.not_lt.1 h'))
          clear hgg hgb
          have e1 : W.cell? ⟨gg, p, none⟩ = some (.string A) := by
            rw [HRW.out.cellAt p (by omega), List.getElem?_map, List.getElem?_eq_getElem hpO, Option.map_some, encStr_eq, hAA]
          cases hle : decide (O[p] ≤ s.data.toList)
          case' false =>
            have hlt3 : s.data.toList < O[p] := by
              have := of_decide_eq_false hle
              exact List.not_le.1 this
            rw [hle] at hgt
            clear hle hAl hsl hlo
            go_wp2
            go_quiet (fail)
            go_wp2
            go_roundw
            case rel =>
              refine ⟨p, by omega, by go_num, ?_, ownsRow_same HRW.out (fun _ _ => rfl), HFW.out.drewN _⟩
              intro y hy
              rw [hdrop] at hy
              rcases List.mem_cons.1 hy with h | h
              · rw [h]; exact hlt3
              · exact hdm.out y h
            case measure => simp [intOf]
          case' true =>
            have hle' : O[p] ≤ s.data.toList := of_decide_eq_true hle
            rw [hle] at hgt
            have hlow : ∀ y ∈ O.take (p + 1), y = O[p] ∨ y < O[p] := fun y hy => by
              obtain ⟨q, hq, rfl⟩ := List.mem_take_iff_getElem.1 hy
              rcases Nat.lt_or_ge q p with h1 | h1
              · exact .inr ((List.pairwise_iff_getElem.1 hsrt) q p (by omega) hpO h1)
              · have : q = p := by omega
                subst this; exact .inl rfl
            have heq : (A.toList == s.toList) = decide (O[p] = s.data.toList) := by
              rw [hAl, hsl, Bool.eq_iff_iff]; simp
            have hmem : O[p] ∈ O := List.getElem_mem hpO
            clear hle
            cases he : decide (O[p] = s.data.toList)
            case' true =>
              have hin : s.data.toList ∈ O := by rw [← of_decide_eq_true he]; exact hmem
              have hsk := HSK.out hin
              have HSK2 := Lib.hid hsk
              rw [he] at heq
              have hbl : Op.bytesLess A.toList s.toList = false := by
                rw [bytesLess_eq, hAl, hsl, of_decide_eq_true he]; exact decide_eq_false (List.lt_irrefl _)
              clear hgt
              clear he hin hsk hlow hmem hle' hAl hsl hlo hdrop hsrt
              go_wp2
              go_quiet (fail)
              have HRW := Lib.hid (ownsRow_same (w' := W.drewN nq) HRW.out (fun _ _ => rfl)); have HFW := Lib.hid (HFW.out.drewN nq)
              have hck0 := ((Fr.refl N0 W).drewN nq).cell id hck0
              obtain ⟨W1, hW1⟩ : ∃ Wz, W.drewN nq = Wz := ⟨_, rfl⟩
              rw [hW1] at HRW HFW hck0 ⊢
              clear hW1
              have e1 : W1.cell? ⟨gg, p, none⟩ = some (.string A) := by
                rw [HRW.out.cellAt p (by omega), List.getElem?_map, List.getElem?_eq_getElem hpO, Option.map_some, encStr_eq, hAA]
              go_wp2
              go_quiet (fail)
              have HRW := Lib.hid (ownsRow_same (w' := W1.drewN nq) HRW.out (fun _ _ => rfl)); have HFW := Lib.hid (HFW.out.drewN nq)
              have hck0 := ((Fr.refl N0 W1).drewN nq).cell id hck0
              obtain ⟨W2, hW1⟩ : ∃ Wz, W1.drewN nq = Wz := ⟨_, rfl⟩
              rw [hW1] at HRW HFW hck0 ⊢
              clear hW1
              go_wp2
              go_roundw
              case rel => exact ⟨i + 1, n, by omega, by go_num, by rw [HSK2.out]; exact hn, by omega, by rw [HSK2.out]; exact HRW.out, HF.out.then0 HFW.out⟩
              case measure => simp [intOf]; omega
            case' false =>
              have hne : O[p] ≠ s.data.toList := of_decide_eq_false he
              have hltA : O[p] < s.data.toList := by
                by_cases h' : O[p] < s.data.toList
                · exact h'
                · exact absurd (List.le_antisymm hle' (List.not_lt.1 h')) hne
              have hA : ∀ y ∈ O.take (p + 1), y < s.data.toList := fun y hy => by
                rcases hlow y hy with h | h
                · rw [h]; exact hltA
                · exact List.lt_trans h hltA
              have HA := Lib.hid hA
              rw [he] at heq
              have hbl : Op.bytesLess A.toList s.toList = true := by
                rw [bytesLess_eq, hAl, hsl]; exact decide_eq_true hltA
              clear hgt
              clear he hne hltA hA hlow hmem hle' hAl hsl hdrop hsrt
              go_wp2
              go_quiet (fail)
              have HRW := Lib.hid (ownsRow_same (w' := W.drewN nq) HRW.out (fun _ _ => rfl)); have HFW := Lib.hid (HFW.out.drewN nq)
              have hck0 := ((Fr.refl N0 W).drewN nq).cell id hck0
              obtain ⟨W1, hW1⟩ : ∃ Wz, W.drewN nq = Wz := ⟨_, rfl⟩
              rw [hW1] at HRW HFW hck0 ⊢
              clear hW1
              have e1 : W1.cell? ⟨gg, p, none⟩ = some (.string A) := by
                rw [HRW.out.cellAt p (by omega), List.getElem?_map, List.getElem?_eq_getElem hpO, Option.map_some, encStr_eq, hAA]
              go_wp2
              go_quiet (fail)
              have HRW := Lib.hid (ownsRow_same (w' := W1.drewN nq) HRW.out (fun _ _ => rfl)); have HFW := Lib.hid (HFW.out.drewN nq)
              have hck0 := ((Fr.refl N0 W1).drewN nq).cell id hck0
              obtain ⟨W2, hW1⟩ : ∃ Wz, W1.drewN nq = Wz := ⟨_, rfl⟩
              rw [hW1] at HRW HFW hck0 ⊢
              clear hW1
              have hsz2 := (HF.out.then0 HFW.out).size
              clear e1
              go_wp2_with (at_builtin; go_loud (refine wpList_append_lies _ rfl _ _ 28 rfl w.heap.size 9 i0 (.string ⟨#[]⟩) 1 16 Tryz.underlying28 hi hz0 hz1 hz2 rfl (by decide) (.slice (some ⟨gg, 0, none⟩) n cc) (n) _ rfl (HRW.out.alloc _) ⟨W2.heap.size, 0, none⟩ 1 1 [.string ⟨#[]⟩] rfl rfl (World.news_of_block (cs := #[.string ⟨#[]⟩]) (t := 9) (fr := (0, 0)) (heap_alloc_new W2 _)) (by simp [Value.oneCell']) (by omega) (by unfold maxLen; omega) (by omega) (by simp; omega) (W2.heap.size + 1) (by simp) ?_); intro g gc W3 hown3 hg3 hfresh3 hlt3; have HO3 := Lib.hid hown3; have HF3 := Lib.hid (((HF.out.then0 HFW.out).alloc _).grown hg3 fun k e => .inr (HRW.out.lt k e).1); clear hown3 hg3)
              obtain ⟨m, hmm⟩ : ∃ m : Nat, (p : Int) + 1 = (m : Int) := ⟨p + 1, by omega⟩
              have hpm : p + 1 = m := by omega
              rw [hpm] at HA hdm hm
              simp only [hmm]
              clear hmm hpm hw1 hpn heq hbl
        all_goals
          have hnO := hn.out
          have hgb : w.heap.size ≤ g := (HO3.out.lt g rfl).1
          have hr3 : W3.ownsRow w.heap.size 9 1 (.slice (some ⟨g, 0, none⟩) (n + 1) gc) (n + 1) ((O ++ [[]]).map encStr) := by
            have := HO3.out
            simpa [encStr] using this
          have HR3 := Lib.hid hr3
          have hck3 : ∀ W', Fr N0 w W' → W'.cell? ⟨b, off + i, none⟩ = some (.string s) := fun W' hW' => by
            have := HC.out i hlt
            rw [hs0] at this
            exact hW'.cell id this
          have HCK3 := Lib.hid hck3
          have hres := HPUT.out m HA.out hdm.out
          have HRES := Lib.hid hres
          clear hr3 hck3 hck0 HO3 hres HPUT HSK HSR
          go_loopw [6] (fun jv W => ∃ (j : Nat) (ys : List (List UInt8)), m ≤ j ∧ j ≤ n ∧ jv = .int .i64 j ∧ Hid (ys.length = n + 1 ∧ ys.take j = O.take j ∧ ys.drop (j + 1) = O.drop j) ∧
              W.ownsRow w.heap.size 9 1 (.slice (some ⟨g, 0, none⟩) (n + 1) gc) (n + 1) (ys.map encStr) ∧ Fr N0 w W) (fun jv _ => (intOf jv).toNat)
          case atStart =>
            refine ⟨n, O ++ [[]], hm, Nat.le_refl _, rfl, ⟨by simp [hnO], ?_, ?_⟩, HR3.out, HF3.out⟩
            · rw [List.take_append_of_le_length (by omega)]
            · rw [List.drop_of_length_le (by simp; omega), List.drop_of_length_le (by omega)]
          case round =>
            rename World => Wj
            obtain ⟨j, ys, hmj, hjn, rfl, hy, hrj, hfj⟩ := hrel
            by_cases hjm : (m : Int) < (j : Int)
            · obtain ⟨q, rfl⟩ : ∃ q, j = q + 1 := ⟨j - 1, by omega⟩
              have hqO : q < O.length := by omega
              have hqy : q < ys.length := by have := hy.out.1; omega
              have hyq : ys[q] = O[q] := by
                have := congrArg (fun l => l[q]?) hy.out.2.1
                simpa [List.getElem?_take, hqO, hqy] using this
              have hdq : O.drop q = O[q] :: O.drop (q + 1) := List.drop_eq_getElem_cons hqO
              obtain ⟨y, hyy⟩ : ∃ y, O[q] = y := ⟨_, rfl⟩
              rw [hyy] at hyq hdq
              have e1 : Wj.cell? ⟨g, q, none⟩ = some (.string (mkS y)) := by
                rw [hrj.cellAt q (by omega), List.getElem?_map, List.getElem?_eq_getElem hqy, Option.map_some, hyq]; rfl
              have e2 : ∃ v2, Wj.cell? ⟨g, q + 1, none⟩ = some v2 := ⟨_, by rw [hrj.cellAt (q + 1) (by omega)]; exact List.getElem?_eq_getElem (by simp; have := hy.out.1; omega)⟩
              obtain ⟨v2, e2⟩ := e2
              have f2 := hrj.frozenAt (q + 1)
              have hst := (hrj.stored (q + 1) (.string (mkS y))).1
              have hwq : IntKind.i64.wrap ((q : Int) + 1 - 1) = (q : Int) := by rw [IntWalk.i64_in _ (by omega)]; omega
              have hqn : (q : Int) + 1 < (n : Int) + 1 := by omega
              have hqn2 : (q : Int) < (n : Int) + 1 := by omega
              have HST := Lib.hid hst; have HFJ := Lib.hid hfj; have HDQ := Lib.hid hdq; have HYQ := Lib.hid hyq
              clear hst hfj hdq hyq hyy hrj hqO
              go_wp2
              go_roundw
              case rel =>
                refine ⟨q, ys.set (q + 1) y, by omega, by omega, by go_num, ⟨by simpa using hy.out.1, ?_, ?_⟩, by simpa [List.map_set, encStr, mkS] using HST.out, HFJ.out.setCell (p := ⟨g, q + 1, none⟩) (.inr hgb) _⟩
                · rw [List.take_set_of_le (by omega)]
                  have := congrArg (fun l => l.take q) hy.out.2.1
                  simpa [List.take_take] using this
                · rw [HDQ.out, ← hy.out.2.2, List.drop_eq_getElem_cons (by simp; have := hy.out.1; omega), List.getElem_set_self, List.drop_set_of_lt (by omega)]
              case measure => simp [intOf]
            · obtain rfl : j = m := by omega
              have e0 := HCK3.out Wj hfj
              have e2 : ∃ v2, Wj.cell? ⟨g, j, none⟩ = some v2 := ⟨_, by rw [hrj.cellAt j (by omega)]; exact List.getElem?_eq_getElem (by simp; have := hy.out.1; omega)⟩
              obtain ⟨v2, e2⟩ := e2
              have f2 := hrj.frozenAt j
              have hst := (hrj.stored j (.string s)).1
              have hset : ys.set j s.data.toList = normL (xs.take (i + 1)) := by
                rw [← HRES.out, List.set_eq_take_append_cons_drop, if_pos (by have := hy.out.1; omega), hy.out.2.1, hy.out.2.2]
              have hjn1 : (j : Int) < (n : Int) + 1 := by omega
              have HST := Lib.hid hst; have HFJ := Lib.hid hfj; have HSET := Lib.hid hset
              clear hst hfj hset hrj
              go_wp2
              go_roundw
              case rel =>
                refine ⟨i + 1, n + 1, by omega, by go_num, ?_, by omega, ?_, HFJ.out.setCell (p := ⟨g, j, none⟩) (.inr hgb) _⟩
                · show (normL (xs.take (i + 1))).length = n + 1
                  rw [← HSET.out, List.length_set]; exact hy.out.1
                · rw [← HSET.out, List.map_set, encStr_eq, mkS_data]; exact HST.out
              case measure => simp [intOf]; omega
    · obtain rfl : i = xs.length := by omega
      rw [List.take_length] at hrow hn
      have HROW := Lib.hid hrow; have HF := Lib.hid hfr
      clear hrow hfr
      go_wp2
      go_ret
      rcases HROW.out.2 with ⟨hv, h0⟩ | ⟨g, cap', cur, hv, hgb, hgg, hnc, hcm, _⟩
      · have : normL xs = [] := List.eq_nil_of_length_eq_zero (by rw [hn.out]; exact h0)
        refine ⟨_, w.heap.size, rfl, ?_, Nat.le_refl _, HF.out⟩
        rw [normS, this]
        show Strs wr w.heap.size u3 []
        rw [hv]; exact Strs.nil _ _
      · refine ⟨_, g, rfl, ?_, hgb, HF.out⟩
        show Strs wr g u3 (normS xs)
        have hnl : (normS xs).length = n := by rw [normS, List.length_map]; exact hn.out
        refine ⟨some ⟨g, 0, none⟩, 0, cap', by rw [hnl]; exact hv, by omega, by unfold maxLen at hcm; omega, fun _ => rfl, by simp, fun k hk => ?_⟩
        have hk' : k < (normL xs).length := by rw [hn.out, ← hnl]; exact hk
        have hrw := HROW.out
        rw [hv] at hrw
        rw [Nat.zero_add, hrw.cellAt k (by omega), List.getElem?_map, List.getElem?_eq_getElem hk']
        simp [normS, encStr, mkS]

end Go.Proofs.YthidminepegnoaaGreatDoor
namespace Go.Proofs.YthidminepegnoaaGreatDoor
open Go.RowKit Go.Shelf Go.Maps Go.Sort
attribute [local go_sem] Oper.semAt_some
attribute [local irreducible] wpQuiet
set_option linter.unusedVariables false
set_option linter.unusedSimpArgs false

theorem strs_of_row {w : World} {base : Nat} {v : Value} {xs : List ByteArray} (h : w.ownsRow base 9 1 v xs.length (xs.map Value.string)) : ∃ b, Strs w b v xs := by
  have h' := h
  rcases h.2 with ⟨hv, h0⟩ | ⟨g, cap, cur, hv, hgb, hgg, hnc, hcm, _⟩
  · have : xs = [] := List.eq_nil_of_length_eq_zero h0
    subst this; rw [hv]; exact ⟨0, Strs.nil _ _⟩
  · refine ⟨g, some ⟨g, 0, none⟩, 0, cap, hv, hnc, by unfold maxLen at hcm; omega, fun _ => rfl, by simp, fun k hk => ?_⟩
    rw [hv] at h'
    rw [Nat.zero_add, h'.cellAt k (by omega), List.getElem?_map, List.getElem?_eq_getElem hk]
    rfl

set_option maxRecDepth 100000 in
set_option maxHeartbeats 2000000 in
theorem r4Preds_any (w : World) (b : Nat) (v : Value) (xs : List Wr) (h : Wrs w b v xs) (hl : xs.length ≤ 1000000) :
    Calls Tryz.prog 77 #[v] w fun e w' => ∃ v' bb, e = .returned v' ∧ Strs w' bb v' (normS (xs.map (·.pred))) ∧ Fr N0 w w' := by
  obtain ⟨i0, hi, hz0, hz1, hz2⟩ := info_parts infoStr
  obtain ⟨a, off, cap, rfl, h1, h2, h3, h4, h5⟩ := h
  have HC := Lib.hid h5
  clear h4 h5
  go_enter Tryz.func77, Tryz.ntmps77
  go_wp2
  go_loopw [3, 4] (fun o iv wr => ∃ k : Nat, k ≤ xs.length ∧ iv = .int .i64 k ∧ wr.ownsRow w.heap.size 9 1 o k (((xs.take k).map (·.pred)).map Value.string) ∧ Fr N0 w wr) (fun _ iv _ => xs.length - (intOf iv).toNat)
  case atStart => exact ⟨0, Nat.zero_le _, by go_num, World.ownsRow_nil _ _ _ _, Fr.refl _ _⟩
  case round =>
    obtain ⟨k, hk, rfl, hrow, hfr⟩ := hrel
    have hwsz := hfr.size
    by_cases hlt : k < xs.length
    · obtain rfl := h3 (by omega)
      have hc2 := hfr.cell id (HC.out k hlt 2 (by omega) : _ = some (.string xs[k].pred))
      have hts : ((xs.take (k + 1)).map (·.pred)).map Value.string = ((xs.take k).map (·.pred)).map Value.string ++ [.string xs[k].pred] := by
        rw [List.take_succ_eq_append_getElem hlt]; simp only [List.map_append, List.map_cons, List.map_nil]
      obtain ⟨s, hs⟩ : ∃ s, xs[k].pred = s := ⟨_, rfl⟩
      rw [hs] at hc2 hts
      have hlt' : (k : Int) < (xs.length : Int) := by omega
      have HTS := Lib.hid hts; have HR := Lib.hid hrow; have HF := Lib.hid hfr
      clear hts hrow hfr hs
      go_wp2_with (at_builtin; go_loud (refine wpList_append_lies _ rfl _ _ 28 rfl w.heap.size 9 i0 (.string ⟨#[]⟩) 1 16 Tryz.underlying28 hi hz0 hz1 hz2 rfl (by decide) (u3) (k) _ rfl (HR.out.alloc _) ⟨wr.heap.size, 0, none⟩ 1 1 [.string s] rfl rfl (World.news_of_block (cs := #[.string s]) (t := 9) (fr := (0, 0)) (heap_alloc_new wr _)) (by simp [Value.oneCell']) (by omega) (by unfold maxLen; omega) (by omega) (by simp; omega) (wr.heap.size + 1) (by simp) ?_); intro g gc w1 hown hgrow hfresh hlt1)
      go_roundw
      case rel => exact ⟨k + 1, by omega, by go_num, by rw [HTS.out]; exact hown, (HF.out.alloc _).grown hgrow fun q e => .inr (HR.out.lt q e).1⟩
      case measure => simp [intOf]; omega
    · obtain rfl : k = xs.length := by omega
      rw [List.take_length] at hrow
      obtain ⟨bb, hst⟩ := strs_of_row (xs := xs.map (·.pred)) (by simpa using hrow)
      have hcall := rising_any wr bb _ _ hst (by simpa using hl)
      have HCALL := Lib.hid hcall; have HF := Lib.hid hfr
      clear hcall hrow hfr hst
      go_wp2_with (go_at_call 107; go_loud (refine HCALL.out.mono ?_); rintro e w1 ⟨v1, b1, rfl, hs1, hb1, hf1⟩)
      go_ret
      exact ⟨_, b1, rfl, hs1, HF.out.then0 hf1⟩

abbrev Schs (w : World) (b : Nat) (v : Value) (xs : List Sch) : Prop := RowsK Sch.enc 8 w b v xs
theorem Schs.fr0 {w w' : World} {b : Nat} {v : Value} {xs : List Sch} (h : Schs w b v xs) (hf : Fr N0 w w') : Schs w' b v xs := RowsK.fr0 (enc := Sch.enc) (n := 8) (fun _ => rfl) h hf

/-- The place of a predicate's schema. -/
def findS (l : List Sch) (p : ByteArray) : Int := if l.findIdx (fun s => s.pred.toList == p.toList) < l.length then l.findIdx (fun s => s.pred.toList == p.toList) else -1

set_option maxRecDepth 100000 in
set_option maxHeartbeats 2000000 in
theorem find_any (w : World) (b : Nat) (v : Value) (xs : List Sch) (h : Schs w b v xs) (p : ByteArray) (hl : xs.length ≤ 1000000) :
    Calls Tryz.prog 103 #[v, .string p] w fun e w' => e = .returned (.int .i64 (findS xs p)) ∧ Fr N0 w w' := by
  obtain ⟨a, off, cap, rfl, h1, h2, h3, h4, h5⟩ := h
  have HC := Lib.hid h5
  clear h4 h5
  go_enter Tryz.func103, Tryz.ntmps103
  go_wp2
  go_loop [5] (fun i => ∃ k : Nat, k ≤ xs.length ∧ i = .int .i64 k ∧ Hid (∀ j (h : j < xs.length), j < k → (xs[j].pred.toList == p.toList) = false)) (fun i => xs.length - (intOf i).toNat)
  case atStart => exact ⟨0, Nat.zero_le _, rfl, fun j h hj => by omega⟩
  case round =>
    obtain ⟨k, hk, rfl, hn⟩ := hrel
    by_cases hlt : k < xs.length
    · obtain rfl := h3 (by omega)
      have hc0 : w.cell? ⟨b, off + k * 8, none⟩ = some (.string xs[k].pred) := HC.out k hlt 0 (by omega)
      have hnx : ∀ j (h : j < xs.length), j < k + 1 → (xs[k].pred.toList == p.toList) = false → (xs[j].pred.toList == p.toList) = false := fun j h hj he => by
        rcases Nat.lt_or_ge j k with h' | h'
        · exact hn.out j h h'
        · have : j = k := by omega
          subst this; exact he
      have hfd : (xs[k].pred.toList == p.toList) = true → findS xs p = k := fun he => by
        have := (List.findIdx_eq (p := fun s : Sch => s.pred.toList == p.toList) hlt).2 ⟨he, fun j hj => by have := hn.out j (by omega) hj; simpa using this⟩
        rw [findS, this, if_pos hlt]
      obtain ⟨s, hs⟩ : ∃ s, xs[k].pred = s := ⟨_, rfl⟩
      rw [hs] at hc0 hfd
      simp only [hs] at hnx
      have hlt' : (k : Int) < (xs.length : Int) := by omega
      have HNX := Lib.hid hnx; have HFD := Lib.hid hfd
      clear hnx hfd hs hn
      cases he : (s.toList == p.toList)
      · rw [he] at HNX
        go_wp2
        go_round
        case rel => exact ⟨k + 1, by omega, by go_num, fun j h hj => HNX.out j h hj rfl⟩
        case measure => simp [intOf]; omega
      · have hfd := HFD.out he
        have HF := Lib.hid hfd
        clear hfd
        go_wp2
        go_ret
        exact ⟨ret_int HF.out.symm, Fr.refl _ _⟩
    · obtain rfl : k = xs.length := by omega
      have hfd : findS xs p = -1 := by
        have : xs.findIdx (fun s : Sch => s.pred.toList == p.toList) = xs.length := by
          rw [List.findIdx_eq_length]
          intro s hs
          obtain ⟨j, hj, rfl⟩ := List.getElem_of_mem hs
          exact hn.out j hj hj
        rw [findS, this, if_neg (by omega)]
      have HF := Lib.hid hfd
      clear hfd hn
      go_wp2
      go_ret
      exact ⟨ret_int HF.out.symm, Fr.refl _ _⟩

theorem sch_cells {W : World} {b p : Nat} {x : Sch} (h : ∀ c, c < 8 → W.cell? ⟨b, p + c, none⟩ = x.enc[c]?) :
    W.cell? ⟨b, p, none⟩ = some (.string x.pred) ∧ W.cell? ⟨b, p + 1, none⟩ = some (.int .u8 x.ty) ∧ W.cell? ⟨b, p + 2, none⟩ = some (.bool x.list) ∧ W.cell? ⟨b, p + 3, none⟩ = some (.bool x.exact_) ∧
    W.cell? ⟨b, p + 4, none⟩ = some (.bool x.term) ∧ W.cell? ⟨b, p + 5, none⟩ = some (.bool x.order) ∧ W.cell? ⟨b, p + 6, none⟩ = some (.bool x.rev) ∧ W.cell? ⟨b, p + 7, none⟩ = some (.bool x.count) :=
  ⟨h 0 (by omega), h 1 (by omega), h 2 (by omega), h 3 (by omega), h 4 (by omega), h 5 (by omega), h 6 (by omega), h 7 (by omega)⟩

/-- What a region reads of a schema, and of one text. -/
abbrev SchS (W0 : World) (b p q : Nat) (sp : ByteArray) (st : Int) (sl se sm so sr sc : Bool) (tp : ByteArray) (W : World) : Prop :=
  (W).cell? ⟨b, p, none⟩ = some (.string sp) ∧ (W).cell? ⟨b, p + 1, none⟩ = some (.int .u8 st) ∧ (W).cell? ⟨b, p + 2, none⟩ = some (.bool sl) ∧ (W).cell? ⟨b, p + 3, none⟩ = some (.bool se) ∧ (W).cell? ⟨b, p + 4, none⟩ = some (.bool sm) ∧ (W).cell? ⟨b, p + 5, none⟩ = some (.bool so) ∧ (W).cell? ⟨b, p + 6, none⟩ = some (.bool sr) ∧ (W).cell? ⟨b, p + 7, none⟩ = some (.bool sc) ∧ W.cell? ⟨b, q, none⟩ = some (.string tp) ∧ Fr N0 W0 W
theorem schS_keep {W0 : World} {b p q : Nat} {sp : ByteArray} {st : Int} {sl se sm so sr sc : Bool} {tp : ByteArray} {W W' : World} (hf : Fr N0 W W') (h : SchS W0 b p q sp st sl se sm so sr sc tp W) : SchS W0 b p q sp st sl se sm so sr sc tp W' := by
  obtain ⟨h0, h1, h2, h3, h4, h5, h6, h7, h8, h9⟩ := h
  exact ⟨hf.cell id h0, hf.cell id h1, hf.cell id h2, hf.cell id h3, hf.cell id h4, hf.cell id h5, hf.cell id h6, hf.cell id h7, hf.cell id h8, h9.then0 hf⟩

theorem schS_facts {W0 : World} {b p q : Nat} {sp : ByteArray} {st : Int} {sl se sm so sr sc : Bool} {tp : ByteArray} {S : World → Prop} (hS : ∀ W, S W → SchS W0 b p q sp st sl se sm so sr sc tp W) :
    (∀ x : InS S, x.w.cell? ⟨b, p, none⟩ = some (.string sp)) ∧ (∀ x : InS S, x.w.cell? ⟨b, p + 1, none⟩ = some (.int .u8 st)) ∧ (∀ x : InS S, x.w.cell? ⟨b, p + 2, none⟩ = some (.bool sl)) ∧ (∀ x : InS S, x.w.cell? ⟨b, p + 3, none⟩ = some (.bool se)) ∧
    (∀ x : InS S, x.w.cell? ⟨b, p + 4, none⟩ = some (.bool sm)) ∧ (∀ x : InS S, x.w.cell? ⟨b, p + 5, none⟩ = some (.bool so)) ∧ (∀ x : InS S, x.w.cell? ⟨b, p + 6, none⟩ = some (.bool sr)) ∧ (∀ x : InS S, x.w.cell? ⟨b, p + 7, none⟩ = some (.bool sc)) ∧
    (∀ x : InS S, x.w.cell? ⟨b, q, none⟩ = some (.string tp)) :=
  ⟨fun x => (hS _ x.h).1, fun x => (hS _ x.h).2.1, fun x => (hS _ x.h).2.2.1, fun x => (hS _ x.h).2.2.2.1, fun x => (hS _ x.h).2.2.2.2.1, fun x => (hS _ x.h).2.2.2.2.2.1, fun x => (hS _ x.h).2.2.2.2.2.2.1, fun x => (hS _ x.h).2.2.2.2.2.2.2.1, fun x => (hS _ x.h).2.2.2.2.2.2.2.2.1⟩

/-- Is the schema at that place not as it must be? -/
noncomputable def badAt (l : List Sch) (i : Nat) : Bool :=
  match l[i]? with
  | some s => (schMay s != 0) || (decide (0 < i) && (match l[i - 1]? with | some t => !Op.bytesLess t.pred.toList s.pred.toList | none => false))
  | none => false
noncomputable def stopAt (l : List Sch) (i : Nat) : Bool := i == 256 || badAt l i
/-- The first place at which schemas are not in order; -1: they are. -/
noncomputable def wrongS (l : List Sch) : Int := if (List.range l.length).findIdx (stopAt l) < l.length then (List.range l.length).findIdx (stopAt l) else -1
theorem wrongS_at {l : List Sch} {k : Nat} (h : k < l.length) (hk : stopAt l k = true) (hn : ∀ j, j < k → stopAt l j = false) : wrongS l = k := by
  have : (List.range l.length).findIdx (stopAt l) = k := (List.findIdx_eq (by simpa using h)).2 ⟨by simpa using hk, fun j hj => by simpa using hn j hj⟩
  rw [wrongS, this, if_pos h]
theorem wrongS_none {l : List Sch} (hn : ∀ j, j < l.length → stopAt l j = false) : wrongS l = -1 := by
  have : (List.range l.length).findIdx (stopAt l) = l.length := by
    have h := (List.findIdx_eq_length (p := stopAt l) (xs := List.range l.length)).2 fun x hx => hn x (List.mem_range.1 hx)
    simpa using h
  rw [wrongS, this, if_neg (by omega)]

set_option maxRecDepth 100000 in
set_option maxHeartbeats 4000000 in
theorem wrong_any (w : World) (b : Nat) (v : Value) (xs : List Sch) (h : Schs w b v xs) (hl : xs.length ≤ 1000000) :
    Calls Tryz.prog 102 #[v] w fun e w' => e = .returned (.int .i64 (wrongS xs)) ∧ Fr N0 w w' := by
  obtain ⟨a, off, cap, rfl, h1, h2, h3, h4, h5⟩ := h
  have HC := Lib.hid h5
  clear h4 h5
  go_enter Tryz.func102, Tryz.ntmps102
  go_wp2
  go_loopw [3] (fun iv wr => ∃ k : Nat, k ≤ xs.length ∧ iv = .int .i64 k ∧ Hid (∀ j, j < k → stopAt xs j = false) ∧ Fr N0 w wr) (fun iv _ => xs.length - (intOf iv).toNat)
  case atStart => exact ⟨0, Nat.zero_le _, rfl, fun j hj => by omega, Fr.refl _ _⟩
  case round =>
    obtain ⟨k, hk, rfl, hn, hfr⟩ := hrel
    by_cases hlt : k < xs.length
    · obtain rfl := h3 (by omega)
      have hlt' : (k : Int) < (xs.length : Int) := by omega
      by_cases h256 : 256 ≤ k
      · have hk2 : k = 256 := by
          rcases Nat.lt_or_ge 256 k with h | h
          · have := hn.out 256 h; simp [stopAt] at this
          · omega
        have hres := wrongS_at hlt (by simp [stopAt, hk2]) hn.out
        have HRES := Lib.hid hres; have HF := Lib.hid hfr
        have h256' : (256 : Int) ≤ (k : Int) := by omega
        clear hres hn hfr
        subst hk2
        go_wp2
        go_ret
        exact ⟨ret_int HRES.out.symm, HF.out⟩
      · have h256' : ¬ (256 : Int) ≤ (k : Int) := by omega
        have hsc := fun W => r4Schema_any xs[k] W
        have hcs := sch_cells (W := w) (HC.out k hlt)
        have hnx : stopAt xs k = false → ∀ j, j < k + 1 → stopAt xs j = false := fun h j hj => by
          rcases Nat.lt_or_ge j k with h' | h'
          · exact hn.out j h'
          · have : j = k := by omega
            subst this; exact h
        have hat := fun h : stopAt xs k = true => wrongS_at hlt h hn.out
        have hst : stopAt xs k = ((schMay xs[k] != 0) || (decide (0 < k) && (match xs[k - 1]? with | some t => !Op.bytesLess t.pred.toList xs[k].pred.toList | none => false))) := by
          have : (k == 256) = false := by simp; omega
          simp only [stopAt, badAt, List.getElem?_eq_getElem hlt, this, Bool.false_or]
        obtain ⟨e0, he0⟩ : ∃ e, schMay xs[k] = e := ⟨_, rfl⟩
        simp only [he0] at hsc
        rw [he0] at hst
        obtain ⟨x, hx⟩ : ∃ x, xs[k] = x := ⟨_, rfl⟩
        rw [hx] at hcs hst he0
        simp only [hx] at hsc
        unfold Sch.enc at hsc
        obtain ⟨sp, st, sl, se, sm, so, sr, sc⟩ := x
        simp only at hcs hst hsc
        obtain ⟨c0, c1, c2, c3, c4, c5, c6, c7⟩ := hcs
        have HSC := Lib.hid hsc; have HNX := Lib.hid hnx; have HAT := Lib.hid hat; have HF := Lib.hid hfr
        clear hsc hnx hat hn he0 hx
        by_cases hz : e0 = 0
        · subst hz
          rcases Nat.eq_zero_or_pos k with hk0 | hkp
          · have hkn : ¬ 0 < k := by omega
            have hst' : stopAt xs k = false := by rw [hst]; simp [hkn]
            have hN := HNX.out hst'
            have HN := Lib.hid hN
            replace c0 := hfr.cell id c0; replace c1 := hfr.cell id c1; replace c2 := hfr.cell id c2; replace c3 := hfr.cell id c3; replace c4 := hfr.cell id c4; replace c5 := hfr.cell id c5; replace c6 := hfr.cell id c6; replace c7 := hfr.cell id c7
            have hkz : ¬ (0 : Int) < (k : Int) := by omega
            clear hst hst' hN hfr hk0
            go_wp2
            have hS : SchS wr b (off + k * 8) (off + k * 8) sp st sl se sm so sr sc sp wr := ⟨c0, c1, c2, c3, c4, c5, c6, c7, c0, Fr.refl _ _⟩
            refine wp_region_inS (SchS wr b (off + k * 8) (off + k * 8) sp st sl se sm so sr sc sp) (by kernel_rfl) (by kernel_rfl) (schS_keep ((Fr.refl _ _).drew) hS) ?_
            intro hne
            obtain ⟨f0, f1, f2, f3, f4, f5, f6, f7, f8⟩ := schS_facts (S := (SchS wr b (off + k * 8) (off + k * 8) sp st sl se sm so sr sc sp)) (fun W h => h)
            repeat (quiet_step (first | (go_at_call 121; refine calls_inS schS_keep (HSC.out _))))
            refine wpQuiet_nil ?_
            rintro _ ⟨⟨wq, hq⟩, rfl⟩
            clear f0 f1 f2 f3 f4 f5 f6 f7 f8
            have hfq := hq.2.2.2.2.2.2.2.2.2
            clear hq hS
            go_wp2
            all_goals
              go_roundw
              case rel => exact ⟨k + 1, by omega, by go_num, HN.out, HF.out.then0 hfq⟩
              case measure => simp [intOf]; omega
          · obtain ⟨j, hj⟩ : ∃ j, k = j + 1 := ⟨k - 1, by omega⟩
            have hjl : j < xs.length := by omega
            have hkj : IntKind.i64.wrap ((k : Int) - 1) = (j : Int) := by rw [IntWalk.i64_in _ (by omega)]; omega
            have d0 : w.cell? ⟨b, off + j * 8, none⟩ = some (.string xs[j].pred) := HC.out j hjl 0 (by omega)
            have hk1 : k - 1 = j := by omega
            rw [hk1, List.getElem?_eq_getElem hjl] at hst
            obtain ⟨tp, htp⟩ : ∃ t, xs[j].pred = t := ⟨_, rfl⟩
            simp only [htp] at hst d0
            have hjlt : (j : Int) < (xs.length : Int) := by omega
            have hS : SchS wr b (off + k * 8) (off + j * 8) sp st sl se sm so sr sc tp wr := ⟨hfr.cell id c0, hfr.cell id c1, hfr.cell id c2, hfr.cell id c3, hfr.cell id c4, hfr.cell id c5, hfr.cell id c6, hfr.cell id c7, hfr.cell id d0, Fr.refl _ _⟩
            clear c0 c1 c2 c3 c4 c5 c6 c7 hfr d0 htp hj hk1
            cases hdd : Op.bytesLess tp.toList sp.toList
            · have hst' : stopAt xs k = true := by rw [hst]; simp [hkp, hdd]
              have hres := HAT.out hst'
              have HRES := Lib.hid hres
              clear hst hst' hres
              go_wp2
              refine wp_region_inS (SchS wr b (off + k * 8) (off + j * 8) sp st sl se sm so sr sc tp) (by kernel_rfl) (by kernel_rfl) (schS_keep ((Fr.refl _ _).drew) hS) ?_
              intro hne
              obtain ⟨f0, f1, f2, f3, f4, f5, f6, f7, f8⟩ := schS_facts (S := (SchS wr b (off + k * 8) (off + j * 8) sp st sl se sm so sr sc tp)) (fun W h => h)
              repeat (quiet_step (first | (go_at_call 121; refine calls_inS schS_keep (HSC.out _))))
              refine wpQuiet_nil ?_
              rintro _ ⟨⟨wq, hq⟩, rfl⟩
              clear f0 f1 f2 f3 f4 f5 f6 f7 f8
              have hfq := hq.2.2.2.2.2.2.2.2.2
              clear hq hS
              go_wp2
              all_goals
                go_ret
                exact ⟨ret_int HRES.out.symm, HF.out.then0 hfq⟩
            · have hst' : stopAt xs k = false := by rw [hst]; simp [hkp, hdd]
              have hN := HNX.out hst'
              have HN := Lib.hid hN
              clear hst hst' hN
              go_wp2
              refine wp_region_inS (SchS wr b (off + k * 8) (off + j * 8) sp st sl se sm so sr sc tp) (by kernel_rfl) (by kernel_rfl) (schS_keep ((Fr.refl _ _).drew) hS) ?_
              intro hne
              obtain ⟨f0, f1, f2, f3, f4, f5, f6, f7, f8⟩ := schS_facts (S := (SchS wr b (off + k * 8) (off + j * 8) sp st sl se sm so sr sc tp)) (fun W h => h)
              repeat (quiet_step (first | (go_at_call 121; refine calls_inS schS_keep (HSC.out _))))
              refine wpQuiet_nil ?_
              rintro _ ⟨⟨wq, hq⟩, rfl⟩
              clear f0 f1 f2 f3 f4 f5 f6 f7 f8
              have hfq := hq.2.2.2.2.2.2.2.2.2
              clear hq hS
              go_wp2
              all_goals
                go_roundw
                case rel => exact ⟨k + 1, by omega, by go_num, HN.out, HF.out.then0 hfq⟩
                case measure => simp [intOf]; omega
        · have hst' : stopAt xs k = true := by rw [hst]; simp [hz]
          have hres := HAT.out hst'
          have HRES := Lib.hid hres
          have hz' : (e0 != 0) = true := by simpa using hz
          replace c0 := hfr.cell id c0; replace c1 := hfr.cell id c1; replace c2 := hfr.cell id c2; replace c3 := hfr.cell id c3; replace c4 := hfr.cell id c4; replace c5 := hfr.cell id c5; replace c6 := hfr.cell id c6; replace c7 := hfr.cell id c7
          clear hst hst' hres hfr
          go_wp2
          have hS : SchS wr b (off + k * 8) (off + k * 8) sp st sl se sm so sr sc sp wr := ⟨c0, c1, c2, c3, c4, c5, c6, c7, c0, Fr.refl _ _⟩
          refine wp_region_inS (SchS wr b (off + k * 8) (off + k * 8) sp st sl se sm so sr sc sp) (by kernel_rfl) (by kernel_rfl) (schS_keep ((Fr.refl _ _).drew) hS) ?_
          intro hne
          obtain ⟨f0, f1, f2, f3, f4, f5, f6, f7, f8⟩ := schS_facts (S := (SchS wr b (off + k * 8) (off + k * 8) sp st sl se sm so sr sc sp)) (fun W h => h)
          repeat (quiet_step (first | (go_at_call 121; refine calls_inS schS_keep (HSC.out _))))
          refine wpQuiet_nil ?_
          rintro _ ⟨⟨wq, hq⟩, rfl⟩
          clear f0 f1 f2 f3 f4 f5 f6 f7 f8
          have hfq := hq.2.2.2.2.2.2.2.2.2
          clear hq hS
          go_wp2
          all_goals
            go_ret
            exact ⟨ret_int HRES.out.symm, HF.out.then0 hfq⟩
    · obtain rfl : k = xs.length := by omega
      have hres := wrongS_none hn.out
      have HRES := Lib.hid hres; have HF := Lib.hid hfr
      clear hres hn hfr
      go_wp2
      go_ret
      exact ⟨ret_int HRES.out.symm, HF.out⟩

end Go.Proofs.YthidminepegnoaaGreatDoor
