/- A box of some cells that is read while calls go on. Values: value.May, and the document's. Names of predicates: triple.Pred, and the document's. -/
import Derived.Test.YtefepfiijoafbaaGreatChecked
import Derived.Deep.QuietTactic
import Derived.Laws.RangeAny
import Derived.Test.YtefepfiijoafbaaGreatQBase
namespace Go.Proofs.YtefepfiijoafbaaGreat
open Go.RowKit Go.Shelf
set_option linter.unusedVariables false

/-- A box of some cells that lies since a world. -/
abbrev BoxS (W0 : World) (B : Nat) (cs : Array Value) (W : World) : Prop := (∀ i, W.cell? ⟨B, i, none⟩ = cs[i]?) ∧ B < W.heap.size ∧ Fr N0 W0 W
theorem boxS_new (w : World) (cs : Array Value) (t : TypeId) : BoxS w w.heap.size cs (w.alloc (.cells cs t)) := by
  refine ⟨fun i => ?_, by simp, (Fr.refl _ _).alloc _⟩
  have h := World.alloc_heap_new w (.cells cs t)
  show (match (w.alloc (.cells cs t)).heap[w.heap.size]? with
    | some (.cells c _ _) => if (none : Option _).isSome then none else c[i]?
    | _ => none) = _
  rw [h]
  rfl
theorem boxS_keep {W0 : World} {B : Nat} {cs : Array Value} {W W' : World} (hf : Fr N0 W W') (h : BoxS W0 B cs W) : BoxS W0 B cs W' :=
  ⟨fun i => (cell_same (p := ⟨B, i, none⟩) (hf.at id h.2.1)).trans (h.1 i), Nat.lt_of_lt_of_le h.2.1 hf.size, h.2.2.then0 hf⟩

end Go.Proofs.YtefepfiijoafbaaGreat
namespace Go.Proofs.YtefepfiijoafbaaGreat
open Go.RowKit Go.Shelf
attribute [local go_sem] Oper.semAt_some
set_option linter.unusedVariables false
set_option linter.unusedSimpArgs false

structure Val where
  k : Int
  b : Bool
  n : Int
  s : ByteArray
  u : Int

def Val.enc (v : Val) : List Value := [.int .u8 v.k, .bool v.b, .int .i64 v.n, .string v.s, .int .u64 v.u]

theorem toList_eq_data : ∀ (s : ByteArray), s.toList = s.data.toList := ByteArray.toList_eq
theorem toList_nil (s : ByteArray) : s.toList = [] ↔ s.size = 0 := by
  rw [toList_eq_data, show s.size = s.data.toList.length from Array.length_toList.symm]; exact List.length_eq_zero_iff.symm

def valMay (v : Val) : Bool :=
  if v.k == 1 then decide (v.n = 0) && decide (v.s.size = 0) && decide (v.u = 0)
  else if v.k == 2 then !v.b && decide (v.s.size = 0) && decide (v.u = 0)
  else if v.k == 3 then !v.b && decide (v.n = 0) && decide (v.u = 0) && decide ((v.s.size : Int) ≤ 4096)
  else if v.k == 4 then !v.b && decide (v.n = 0) && decide (v.s.size = 0) && decide (0 < v.u)
  else false

set_option maxRecDepth 100000 in
set_option maxHeartbeats 1000000 in
theorem r3May_any (v : Val) (w : World) : Calls Tryz.prog 155 #[.agg v.enc.toArray] w fun e w' => e = .returned (.bool (valMay v)) ∧ Fr N0 w w' := by
  unfold Val.enc
  go_enter Tryz.func155, Tryz.ntmps155
  go_wp2
  all_goals
    go_ret
    refine ⟨ret_bool ?_, (by repeat (first | exact Fr.refl _ _ | assumption | refine Fr.alloc ?_ _ | refine Fr.drew ?_ | refine Fr.drewN ?_ _ | refine Fr.setCell ?_ (.inr (by simp; try omega)) _))⟩
    simp_all [valMay, toList_nil] <;> rfl

set_option maxRecDepth 100000 in
set_option maxHeartbeats 1000000 in
theorem vMay_any (v : Val) (hu : 0 ≤ v.u) (w : World) : Calls Tryz.prog 183 #[.agg v.enc.toArray] w fun e w' => e = .returned (.int .i64 (if valMay v then 0 else 30)) ∧ Fr N0 w w' := by
  unfold Val.enc
  go_enter Tryz.func183, Tryz.ntmps183
  go_wp2
  all_goals
    go_ret
    refine ⟨ret_int ?_, (by repeat (first | exact Fr.refl _ _ | assumption | refine Fr.alloc ?_ _ | refine Fr.drew ?_ | refine Fr.drewN ?_ _ | refine Fr.setCell ?_ (.inr (by simp; try omega)) _))⟩
    simp_all [valMay, toList_nil] <;> omega

end Go.Proofs.YtefepfiijoafbaaGreat
namespace Go.Proofs.YtefepfiijoafbaaGreat
open Go.RowKit Go.Shelf
attribute [local go_sem] Oper.semAt_some
set_option linter.unusedVariables false
set_option linter.unusedSimpArgs false

/-- May a byte stand in a predicate's name? -/
def okc (c : Nat) : Bool := (decide (97 ≤ c) && decide (c ≤ 122)) || (decide (48 ≤ c) && decide (c ≤ 57)) || c == 95 || c == 46
def okAll (s : ByteArray) : Prop := ∀ j (h : j < s.size), okc s[j].toNat = true
def predOkP (s : ByteArray) : Prop := ∃ h : 0 < s.size, s.size ≤ 64 ∧ 97 ≤ s[0].toNat ∧ s[0].toNat ≤ 122 ∧ okAll s
open Classical in
noncomputable def predOk (s : ByteArray) : Bool := decide (predOkP s)

theorem predOk_true {s : ByteArray} (h : predOkP s) : predOk s = true := by simp [predOk, h]
theorem predOk_false {s : ByteArray} (h : ¬ predOkP s) : predOk s = false := by simp [predOk, h]

theorem okc_not {c : Nat} (h : okc c = false) : ((((c : Int) < 97) ∨ (122 : Int) < c) ∧ (((c : Int) < 48) ∨ (57 : Int) < c) ∧ ((c : Int) != 95) = true ∧ ((c : Int) != 46) = true) := by
  simp [okc] at h; simp only [bne_iff_ne]; omega
theorem okc_is {c : Nat} (h : okc c = true) : ((97 : Int) ≤ c ∧ (c : Int) ≤ 122) ∨ ((48 : Int) ≤ c ∧ (c : Int) ≤ 57) ∨ (c : Int) = 95 ∨ (c : Int) = 46 := by
  simp [okc] at h; omega
theorem okc_high {c : Nat} (h : 128 ≤ c) : okc c = false := by
  simp [okc]; omega

set_option maxRecDepth 100000 in
set_option maxHeartbeats 2000000 in
theorem r4Pred_any (s : ByteArray) (w : World) : Calls Tryz.prog 103 #[.string s] w fun e w' => e = .returned (.bool (predOk s)) ∧ w' = w := by
  by_cases h0 : 0 < s.size
  case neg =>
    have hn := predOk_false (s := s) fun h => h0 h.choose
    have e0 : (s.size : Int) < 1 := by omega
    simp only [hn]
    go_enter Tryz.func103, Tryz.ntmps103
    go_wp2
    go_ret
    exact ⟨rfl, rfl⟩
  by_cases h1 : 64 < (s.size : Int)
  · have hn := predOk_false (s := s) fun h => by have := h.choose_spec.1; omega
    have e0 : ¬ (s.size : Int) < 1 := by omega
    go_enter Tryz.func103, Tryz.ntmps103
    go_wp2
    go_ret
    exact ⟨rfl, rfl⟩
  have e0 : ¬ (s.size : Int) < 1 := by omega
  obtain ⟨c0, hc0⟩ : ∃ c, s[0].toNat = c := ⟨_, rfl⟩
  by_cases h2 : (c0 : Int) < 97
  · have hn := predOk_false (s := s) fun h => by have := h.choose_spec.2.1; omega
    go_enter Tryz.func103, Tryz.ntmps103
    go_wp2
    go_ret
    exact ⟨rfl, rfl⟩
  by_cases h3 : 122 < (c0 : Int)
  · have hn := predOk_false (s := s) fun h => by have := h.choose_spec.2.2.1; omega
    go_enter Tryz.func103, Tryz.ntmps103
    go_wp2
    go_ret
    exact ⟨rfl, rfl⟩
  have hp : predOkP s ↔ okAll s := ⟨fun h => h.choose_spec.2.2.2, fun h => ⟨h0, by omega, by omega, by omega, h⟩⟩
  have HP := Lib.hid hp
  clear hp
  go_enter Tryz.func103, Tryz.ntmps103
  go_wp2
  go_loop [3] (fun i => ∃ k : Nat, k ≤ s.size ∧ i = .int .i64 k ∧ Hid (∀ j (h : j < s.size), j < k → okc s[j].toNat = true)) (fun i => s.size - (intOf i).toNat)
  case atStart => exact ⟨0, Nat.zero_le _, rfl, fun j h hj => by omega⟩
  case round =>
    obtain ⟨k, hk, rfl, hn⟩ := hrel
    by_cases hlt : k < s.size
    · obtain ⟨c, hc⟩ : ∃ c, s[k].toNat = c := ⟨_, rfl⟩
      have hlt' : (k : Int) < (s.size : Int) := by omega
      cases hok : okc c with
      | true =>
        have hk1 : ∀ j (h : j < s.size), j < k + 1 → okc s[j].toNat = true := fun j h hj => by
          rcases Nat.lt_or_ge j k with h1 | h1
          · exact hn.out j h h1
          · have : j = k := by omega
            subst this; rw [hc]; exact hok
        have HK := Lib.hid hk1
        clear hk1 hn
        rcases okc_is hok with h4 | h4 | h4 | h4
        all_goals
          clear hok
          go_wp2
          go_round
          case rel => exact ⟨k + 1, by omega, by go_num, HK.out⟩
          case measure => simp [intOf]; omega
      | false =>
        have hne : ¬ okAll s := fun h => by have := h k hlt; rw [hc, hok] at this; cases this
        have hpn := predOk_false fun h => hne (HP.out.1 h)
        obtain ⟨n1, n2, n3, n4⟩ := okc_not hok
        clear hn hok hne
        rcases n1 with n1 | n1
        all_goals
          rcases n2 with n2 | n2
        all_goals go_wp2
        all_goals
          go_ret
          exact ⟨rfl, rfl⟩
    · obtain rfl : k = s.size := by omega
      have hpt := predOk_true (HP.out.2 fun j h => hn.out j h h)
      go_wp2
      go_ret
      exact ⟨rfl, rfl⟩

theorem width_pos (s : ByteArray) (pos : Nat) (h : pos < s.size) : 1 ≤ (Utf8.decode s pos).2 := by
  by_cases ha : (s[pos]'h).toNat < 128
  · rw [decode_ascii s pos h ha]
    exact Nat.le_refl _
  · exact (decode_high s pos h (by omega)).2

set_option maxRecDepth 100000 in
set_option maxHeartbeats 2000000 in
theorem tPred_any (s : ByteArray) (w : World) : Calls Tryz.prog 105 #[.string s] w fun e w' => e = .returned (.int .i64 (if predOk s then 0 else 40)) ∧ Fr N0 w w' := by
  by_cases h0 : 0 < s.size
  case neg =>
    have hn := predOk_false (s := s) fun h => h0 h.choose
    have e0 : (s.size : Int) < 1 := by omega
    simp only [hn]
    go_enter Tryz.func105, Tryz.ntmps105
    go_wp2
    go_ret
    exact ⟨rfl, Fr.refl _ _⟩
  by_cases h1 : 64 < (s.size : Int)
  · have hn := predOk_false (s := s) fun h => by have := h.choose_spec.1; omega
    have e0 : ¬ (s.size : Int) < 1 := by omega
    go_enter Tryz.func105, Tryz.ntmps105
    go_wp2
    go_ret
    exact ⟨rfl, Fr.refl _ _⟩
  have e0 : ¬ (s.size : Int) < 1 := by omega
  obtain ⟨c0, hc0⟩ : ∃ c, s[0].toNat = c := ⟨_, rfl⟩
  by_cases h2 : (c0 : Int) < 97
  · have hn := predOk_false (s := s) fun h => by have := h.choose_spec.2.1; omega
    go_enter Tryz.func105, Tryz.ntmps105
    go_wp2
    go_ret
    exact ⟨rfl, Fr.refl _ _⟩
  by_cases h3 : 122 < (c0 : Int)
  · have hn := predOk_false (s := s) fun h => by have := h.choose_spec.2.2.1; omega
    go_enter Tryz.func105, Tryz.ntmps105
    go_wp2
    go_ret
    exact ⟨rfl, Fr.refl _ _⟩
  have hp : predOkP s ↔ okAll s := ⟨fun h => h.choose_spec.2.2.2, fun h => ⟨h0, by omega, by omega, by omega, h⟩⟩
  have HP := Lib.hid hp
  clear hp
  go_enter Tryz.func105, Tryz.ntmps105
  go_wp2
  go_loopw [4] (fun _ w' => ∃ pos : Nat, w' = w.iter s pos ∧ Hid (∀ j (h : j < s.size), j < pos → okc s[j].toNat = true)) (fun _ w' => s.size - w'.iterPos w.heap.size)
  case atStart => exact ⟨0, rfl, fun j h hj => by omega⟩
  case round =>
    obtain ⟨k, rfl, hn⟩ := hrel
    by_cases hlt : k < s.size
    · obtain ⟨c, hc⟩ : ∃ c, s[k].toNat = c := ⟨_, rfl⟩
      have hnx : ∀ ty, (Instr.next (.pointer (some ⟨w.heap.size, 0, none⟩)) true ty).run Tryz.prog (w.iter s k) = _ := fun ty => run_next_any w s k ty hlt
      cases hok : okc c with
      | true =>
        have hk1 : ∀ j (h : j < s.size), j < k + 1 → okc s[j].toNat = true := fun j h hj => by
          rcases Nat.lt_or_ge j k with h1 | h1
          · exact hn.out j h h1
          · have : j = k := by omega
            subst this; rw [hc]; exact hok
        have h128 : c < 128 := by
          rcases Nat.lt_or_ge c 128 with h | h
          · exact h
          · rw [okc_high h] at hok; cases hok
        have hdec := decode_ascii s k hlt (by rw [hc]; exact h128)
        rw [hc] at hdec
        rw [hdec] at hnx
        have HK := Lib.hid hk1
        clear hk1 hn hdec hc
        rcases okc_is hok with h4 | h4 | h4 | h4
        all_goals
          clear hok
          go_wp2
          go_roundw
          case rel => exact ⟨k + 1, rfl, HK.out⟩
          case measure => simp; omega
      | false =>
        have hne : ¬ okAll s := fun h => by have := h k hlt; rw [hc, hok] at this; cases this
        have hpn := predOk_false fun h => hne (HP.out.1 h)
        have hr : okc (Utf8.decode s k).1 = false := by
          by_cases h128 : c < 128
          · rw [decode_ascii s k hlt (by rw [hc]; exact h128), hc]; exact hok
          · exact okc_high (decode_high s k hlt (by rw [hc]; omega)).1
        obtain ⟨r, hrr⟩ : ∃ r, (Utf8.decode s k).1 = r := ⟨_, rfl⟩
        obtain ⟨d, hdd⟩ : ∃ r, (Utf8.decode s k).2 = r := ⟨_, rfl⟩
        rw [hrr] at hr hnx
        rw [hdd] at hnx
        obtain ⟨n1, n2, n3, n4⟩ := okc_not hr
        clear hn hok hne hr hrr hdd hc
        rcases n1 with n1 | n1
        all_goals
          rcases n2 with n2 | n2
        all_goals go_wp2
        all_goals
          go_ret
          exact ⟨rfl, (Fr.refl _ _).alloc _⟩
    · have hnx : ∀ ty, (Instr.next (.pointer (some ⟨w.heap.size, 0, none⟩)) true ty).run Tryz.prog (w.iter s k) = _ := fun ty => run_next_end w s k ty hlt
      have hpt := predOk_true (HP.out.2 fun j h => hn.out j h (by omega))
      go_wp2
      go_ret
      exact ⟨rfl, (Fr.refl _ _).alloc _⟩

end Go.Proofs.YtefepfiijoafbaaGreat
