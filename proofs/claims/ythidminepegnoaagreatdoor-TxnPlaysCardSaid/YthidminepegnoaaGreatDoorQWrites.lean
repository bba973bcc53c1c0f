/- The document's some, without; the program's left. slices.IndexFunc, ContainsFunc at writes; txn.writes, ended. -/
import Derived.Test.YthidminepegnoaaGreatDoorQSame
import Derived.Test.YthidminepegnoaaGreatDoorQPred
namespace Go.Proofs.YthidminepegnoaaGreatDoor
open Go.RowKit Go.Shelf Go.Maps Go.Sort
attribute [local go_sem] Oper.semAt_some
attribute [local irreducible] wpQuiet
set_option linter.unusedVariables false
set_option linter.unusedSimpArgs false

theorem placeI_ge {xs : List Int} {g : Int} (h : g ∈ xs) : 0 ≤ placeI xs g := by
  have := place_ge (xs := xs) (g := g)
  rw [decide_eq_true h] at this
  exact of_decide_eq_true this
theorem placeI_lt {xs : List Int} {g : Int} (h : g ∈ xs) : placeI xs g < xs.length := by
  unfold placeI; split
  · omega
  · have := List.length_pos_of_mem h; omega

set_option maxRecDepth 100000 in
set_option maxHeartbeats 4000000 in
theorem rsome_any (w : World) (b c : Nat) (v z : Value) (xs ys : List Int) (h : Ints .u32 w b v xs) (h' : Ints .u32 w c z ys) (hl : xs.length ≤ 1000000) (hl' : ys.length ≤ 1000000) (hm : ∀ g ∈ xs, g ∈ ys) (hp : xs.Pairwise (· < ·)) :
    Calls Tryz.prog 50 #[v, z] w fun e w' => e = .returned (.bool true) ∧ Fr N0 w w' := by
  have ham := fun g W (hf : Fr N0 w W) => ramong_any W c z ys (h'.fr0 hf) g hl'
  obtain ⟨a, off, cap, rfl, h1, h2, h3, h4, h5, h6⟩ := h
  have HC := Lib.hid h5; have HA := Lib.hid ham; have HM := Lib.hid hm
  clear h5 h6 h4 ham hm h'
  go_enter Tryz.func50, Tryz.ntmps50
  go_wp2
  go_loopw [5] (fun i wr => ∃ k : Nat, k ≤ xs.length ∧ i = .int .i64 k ∧ Fr N0 w wr) (fun i _ => xs.length - (intOf i).toNat)
  case atStart => exact ⟨0, Nat.zero_le _, rfl, Fr.refl _ _⟩
  case round =>
    obtain ⟨k, hk, rfl, hfr⟩ := hrel
    by_cases hlt : k < xs.length
    · obtain rfl := h3 (by omega)
      have c0 := hfr.cell id (HC.out k hlt : _ = some (.int .u32 xs[k]))
      have hin := HM.out xs[k] (List.getElem_mem hlt)
      have hpz := placeI_ge hin
      have hki : (k : Int) < (xs.length : Int) := by omega
      rcases Nat.eq_zero_or_pos k with hk0 | hk0
      · obtain ⟨x, hx⟩ : ∃ x, xs[k] = x := ⟨_, rfl⟩
        rw [hx] at c0 hpz hin
        have hax := HA.out x
        obtain ⟨pz, hz⟩ : ∃ p, placeI ys x = p := ⟨_, rfl⟩
        rw [hz] at hpz hax
        have hpz' : ¬ pz < 0 := by omega
        have hk1 : ¬ (0 : Int) < (k : Int) := by omega
        have hk2 : decide (0 < k) = false := decide_eq_false (by omega)
        have hpd : decide (pz < 0) = false := decide_eq_false hpz'
        have HX := Lib.hid hax
        clear hax hz hx hin hk0 hpz
        go_wp2
        obtain ⟨S, hK, hx, hSS⟩ := kept_open (kept_cons c0 (kept_start hfr))
        have HSS := Lib.hid hSS
        simp only [forall_and] at hx
        obtain ⟨f_c0, f_F⟩ := hx
        clear hSS
        refine wp_region_kept hK (by kernel_rfl) (by kernel_rfl) ?_
        intro hne
        repeat (quiet_step (first | (go_at_call 79; refine calls_kept hK (HX.out _ (f_F _)))))
        refine wpQuiet_nil ?_
        rintro wq ⟨⟨_, hq⟩, rfl⟩
        replace hq := HSS.out _ hq
        clear f_c0 f_F hK hne HSS c0 hfr S
        obtain ⟨c0, hfr⟩ := hq
        go_wp2
        all_goals
          go_roundw
          case rel => exact ⟨k + 1, by omega, by go_num, hfr⟩
          case measure => simp [intOf]; omega
      · obtain ⟨j, hj⟩ : ∃ j, k = j + 1 := ⟨k - 1, by omega⟩
        have hjl : j < xs.length := by omega
        have hkj : IntKind.i64.wrap ((k : Int) - 1) = (j : Int) := by rw [IntWalk.i64_in _ (by omega)]; omega
        have hjlt : (j : Int) < (xs.length : Int) := by omega
        have c1 := hfr.cell id (HC.out j hjl : _ = some (.int .u32 xs[j]))
        have hlt2 : xs[j] < xs[k] := List.pairwise_iff_getElem.1 hp j k hjl hlt (by omega)
        obtain ⟨x, hx⟩ : ∃ x, xs[k] = x := ⟨_, rfl⟩
        obtain ⟨y, hy⟩ : ∃ x, xs[j] = x := ⟨_, rfl⟩
        rw [hx] at c0 hpz hin hlt2; rw [hy] at c1 hlt2
        have hax := HA.out x
        obtain ⟨pz, hz⟩ : ∃ p, placeI ys x = p := ⟨_, rfl⟩
        rw [hz] at hpz hax
        have hpz' : ¬ pz < 0 := by omega
        have hle : ¬ x ≤ y := by omega
        have hk1 : (0 : Int) < (k : Int) := by omega
        have hk2 : decide (0 < k) = true := decide_eq_true (by omega)
        have hpd : decide (pz < 0) = false := decide_eq_false hpz'
        have hld : decide (x ≤ y) = false := decide_eq_false hle
        have HX := Lib.hid hax
        clear hax hz hx hy hj hin hk0 hpz
        go_wp2
        obtain ⟨S, hK, hx, hSS⟩ := kept_open (kept_cons c0 (kept_cons c1 (kept_start hfr)))
        have HSS := Lib.hid hSS
        simp only [forall_and] at hx
        obtain ⟨f_c0, f_c1, f_F⟩ := hx
        clear hSS
        refine wp_region_kept hK (by kernel_rfl) (by kernel_rfl) ?_
        intro hne
        repeat (quiet_step (first | (go_at_call 79; refine calls_kept hK (HX.out _ (f_F _)))))
        refine wpQuiet_nil ?_
        rintro wq ⟨⟨_, hq⟩, rfl⟩
        replace hq := HSS.out _ hq
        clear f_c0 f_c1 f_F hK hne HSS c0 c1 hfr S
        obtain ⟨c0, c1, hfr⟩ := hq
        go_wp2
        all_goals
          go_roundw
          case rel => exact ⟨k + 1, by omega, by go_num, hfr⟩
          case measure => simp [intOf]; omega
    · go_wp2
      go_ret
      exact ⟨rfl, hfr⟩

theorem erase_step {xs : List Int} {i k : Nat} (h : i < xs.length) : (xs.take (i + 1)).eraseIdx k = if i = k then (xs.take i).eraseIdx k else (xs.take i).eraseIdx k ++ [xs[i]] := by
  have hl : (xs.take i).length = i := by rw [List.length_take]; omega
  rw [List.take_succ_eq_append_getElem h]
  split
  · rename_i e; subst e
    rw [List.eraseIdx_append_of_length_le (by omega), hl, Nat.sub_self, List.eraseIdx_of_length_le (l := xs.take i) (by omega)]
    simp
  · rename_i e
    rcases Nat.lt_or_ge k i with h1 | h1
    · rw [List.eraseIdx_append_of_lt_length (by omega)]
    · rw [List.eraseIdx_of_length_le (l := xs.take i) (by omega), List.eraseIdx_of_length_le (by simp; omega)]

set_option maxRecDepth 100000 in
set_option maxHeartbeats 4000000 in
theorem rwithout_any (w : World) (b : Nat) (v : Value) (xs : List Int) (h : Ints .u32 w b v xs) (kk : Nat) (hl : xs.length ≤ 1000000) :
    Calls Tryz.prog 80 #[v, .int .i64 kk] w fun e w' => ∃ v' bb, e = .returned v' ∧ Ints .u32 w' bb v' (xs.eraseIdx kk) ∧ Fr N0 w w' := by
  obtain ⟨i0, hi, hz0, hz1, hz2⟩ := info_parts infoU32
  obtain ⟨a, off, cap, rfl, h1, h2, h3, h4, h5, h6⟩ := h
  have HC := Lib.hid h5; have HW := Lib.hid h6
  clear h4 h5 h6
  go_enter Tryz.func80, Tryz.ntmps80
  go_wp2
  go_loopw [5, 6] (fun o iv wr => ∃ (k n : Nat), k ≤ xs.length ∧ iv = .int .i64 k ∧ Hid (((xs.take k).eraseIdx kk).length = n) ∧ n ≤ k ∧ wr.ownsRow w.heap.size 41 1 o n (((xs.take k).eraseIdx kk).map (Value.int .u32)) ∧ Fr N0 w wr) (fun _ iv _ => xs.length - (intOf iv).toNat)
  case atStart => exact ⟨0, 0, Nat.zero_le _, by go_num, by simp [Hid], Nat.le_refl _, World.ownsRow_nil _ _ _ _, Fr.refl _ _⟩
  case round =>
    obtain ⟨k, n, hk, rfl, hn, hnk, hrow, hfr⟩ := hrel
    have hwsz := hfr.size
    by_cases hlt : k < xs.length
    · obtain rfl := h3 (by omega)
      have c0 := hfr.cell id (HC.out k hlt : _ = some (.int .u32 xs[k]))
      have hts := erase_step (k := kk) hlt
      obtain ⟨x, hx⟩ : ∃ x, xs[k] = x := ⟨_, rfl⟩
      rw [hx] at c0 hts
      have hlt' : (k : Int) < (xs.length : Int) := by omega
      obtain ⟨L, hL⟩ : ∃ L, (xs.take k).eraseIdx kk = L := ⟨_, rfl⟩
      rw [hL] at hts hn hrow
      have HN := Lib.hid hn.out; have HROW := Lib.hid hrow; have HF := Lib.hid hfr
      by_cases he : k = kk
      · rw [if_pos he] at hts
        have HTS := Lib.hid hts
        have hne : ((k : Int) != (kk : Int)) = false := by simp [he]
        clear hts hrow hfr hx hL hn he
        go_wp2
        go_roundw
        case rel => exact ⟨k + 1, n, by omega, by go_num, by rw [HTS.out]; exact HN.out, by omega, by rw [HTS.out]; exact HROW.out, HF.out⟩
        case measure => simp [intOf]; omega
      · rw [if_neg he] at hts
        have HTS := Lib.hid hts
        have hne : ((k : Int) != (kk : Int)) = true := by simpa using fun h => he (by omega)
        clear hts hrow hfr hx hL hn he
        go_wp2_with (at_builtin; go_loud (refine wpList_append_lies _ rfl _ _ 30 rfl w.heap.size 41 i0 (.int .u32 0) 1 4 Tryz.underlying30 hi hz0 hz1 hz2 rfl (by decide) (u5) (n) _ rfl (HROW.out.alloc _) ⟨wr.heap.size, 0, none⟩ 1 1 [.int .u32 x] rfl rfl (World.news_of_block (cs := #[.int .u32 x]) (t := 41) (fr := (0, 0)) (heap_alloc_new wr _)) (by simp [Value.oneCell']) (by omega) (by unfold maxLen; omega) (by omega) (by simp; omega) (wr.heap.size + 1) (by simp) ?_); intro g gc w1 hown hgrow hfresh hlt1)
        go_roundw
        case rel => exact ⟨k + 1, n + 1, by omega, by go_num, by rw [HTS.out]; simp [HN.out, Hid], by omega, by rw [HTS.out]; simpa using hown, (HF.out.alloc _).grown hgrow fun q e => .inr (HROW.out.lt q e).1⟩
        case measure => simp [intOf]; omega
    · obtain rfl : k = xs.length := by omega
      rw [List.take_length] at hrow hn
      have hwf : ∀ x ∈ xs.eraseIdx kk, (Lit.int .u32 x).wf = true := fun x hx => HW.out x (List.mem_of_mem_eraseIdx hx)
      rw [← hn.out] at hrow
      obtain ⟨bb, _, hI⟩ := ints_of_own hrow hwf
      have HI := Lib.hid hI; have HF := Lib.hid hfr
      clear hwf hrow hfr hn hI
      go_wp2
      go_ret
      exact ⟨_, bb, rfl, HI.out, HF.out⟩

set_option maxRecDepth 100000 in
set_option maxHeartbeats 4000000 in
theorem xleft_any (w : World) (v : Value) (t : Txn) (h : IsTxn w v t) (q : Bool) (hq : q = decide (0 < t.left.length)) (hl : t.left.length ≤ 1000000) (hl' : t.groups.length ≤ 1000000) (hm : ∀ g ∈ t.left, g ∈ t.groups) (hp : t.left.Pairwise (· < ·)) :
    Calls Tryz.prog 44 #[v, .bool q] w fun e w' => e = .returned (.bool true) ∧ Fr N0 w w' := by
  obtain ⟨vw, vk, vn, vg, vl, rfl, h⟩ := h
  obtain ⟨ph, st, cm, ws, ks, ns, gs, ls, fl⟩ := t
  simp only at hq hl hl' hm hp ⊢
  obtain ⟨bg, hgs⟩ := h.gs
  obtain ⟨bl, hls⟩ := h.ls
  simp only at hgs hls
  have hct := fun g W (hf : Fr N0 w W) => cont3_any W bg vg gs (hgs.fr0 hf) g hl'
  have hrs := fun W (hf : Fr N0 w W) => xrises3_any W bl vl ls (hls.fr0 hf) hp hl
  obtain ⟨a, off, cap, rfl, h1, h2, h3, h4, h5, h6⟩ := hls
  have HC := Lib.hid h5; have HA := Lib.hid hct; have HM := Lib.hid hm; have HR := Lib.hid hrs; have HQ := Lib.hid hq
  clear h5 h6 h4 hct hm hgs h hrs hq
  go_enter Tryz.func44, Tryz.ntmps44
  go_wp2
  go_loopw [10] (fun i wr => ∃ k : Nat, k ≤ ls.length ∧ i = .int .i64 k ∧ BoxS w w.heap.size #[.int .u8 ph, .int .u64 st, .int .u64 cm, vw, vk, vn, vg, .slice a ls.length cap, .bool fl] wr) (fun i _ => ls.length - (intOf i).toNat)
  case atStart => exact ⟨0, Nat.zero_le _, rfl, boxS_new w _ _⟩
  case round =>
    obtain ⟨k, hk, rfl, hB⟩ := hrel
    have hfr := hB.2.2
    have m1 := hB.1
    by_cases hlt : k < ls.length
    · obtain rfl := h3 (by omega)
      have c0 := hfr.cell id (HC.out k hlt : _ = some (.int .u32 ls[k]))
      have hin := HM.out ls[k] (List.getElem_mem hlt)
      have hki : (k : Int) < (ls.length : Int) := by omega
      obtain ⟨x, hx⟩ : ∃ x, ls[k] = x := ⟨_, rfl⟩
      rw [hx] at c0 hin
      have hax := HA.out x
      simp only [decide_eq_true hin] at hax
      have HX := Lib.hid hax
      have HB := Lib.hid hB
      clear hax hx hin hB
      go_wp2_with (go_at_call 81; go_loud (refine (HX.out _ hfr).mono ?_); rintro e w1 ⟨rfl, hf1⟩)
      go_roundw
      case rel => exact ⟨k + 1, by omega, by go_num, boxS_keep hf1 HB.out⟩
      case measure => simp [intOf]; omega
    · have HB := Lib.hid hB
      clear hB
      cases q with
      | true =>
        have hpos : 0 < ls.length := of_decide_eq_true HQ.out.symm
        have hpd : decide (0 < ls.length) = true := HQ.out.symm
        obtain rfl := h3 hpos
        clear h3
        clear HQ
        go_wp2_with (go_at_call 82; go_loud (refine (HR.out _ hfr).mono ?_); rintro e w1 ⟨rfl, hf1⟩; have m2 := (boxS_keep hf1 HB.out).1)
        go_ret
        exact ⟨rfl, hfr.then0 hf1⟩
      | false =>
        have hpos : ¬ 0 < ls.length := of_decide_eq_false HQ.out.symm
        have hpd : decide (0 < ls.length) = false := HQ.out.symm
        clear h3
        clear HQ
        go_wp2_with (go_at_call 82; go_loud (refine (HR.out _ hfr).mono ?_); rintro e w1 ⟨rfl, hf1⟩; have m2 := (boxS_keep hf1 HB.out).1)
        go_ret
        exact ⟨rfl, hfr.then0 hf1⟩

end Go.Proofs.YthidminepegnoaaGreatDoor
namespace Go.Proofs.YthidminepegnoaaGreatDoor
open Go.RowKit Go.Shelf Go.Maps Go.Sort
attribute [local go_sem] Oper.semAt_some
attribute [local irreducible] wpQuiet
set_option linter.unusedVariables false
set_option linter.unusedSimpArgs false

/-- The first place of which p is so; -1: none. -/
def idxW {α : Type} (xs : List α) (p : α → Bool) : Int := if xs.findIdx p < xs.length then xs.findIdx p else -1
theorem idxW_at {α : Type} {xs : List α} {p : α → Bool} {k : Nat} (h : k < xs.length) (hn : ∀ j (h : j < xs.length), j < k → p xs[j] = false) (hk : p xs[k] = true) : idxW xs p = k := by
  have := (List.findIdx_eq (p := p) h).2 ⟨hk, fun j hj => by simpa using hn j (by omega) hj⟩
  rw [idxW, this, if_pos h]
theorem idxW_none {α : Type} {xs : List α} {p : α → Bool} (hn : ∀ j (h : j < xs.length), j < xs.length → p xs[j] = false) : idxW xs p = -1 := by
  have : xs.findIdx p = xs.length := by
    rw [List.findIdx_eq_length]
    intro s hs
    obtain ⟨j, hj, rfl⟩ := List.getElem_of_mem hs
    exact hn j hj hj
  rw [idxW, this, if_neg (by omega)]
theorem idxW_ge {α : Type} {xs : List α} {p : α → Bool} : decide (0 ≤ idxW xs p) = xs.any p := by
  by_cases h : xs.findIdx p < xs.length
  · rw [idxW, if_pos h]
    have h2 := List.findIdx_getElem (w := h)
    have : xs.any p = true := List.any_eq_true.2 ⟨_, List.getElem_mem h, h2⟩
    rw [this]; simp
  · rw [idxW, if_neg h]
    have : xs.any p = false := by
      rw [Bool.eq_false_iff]; intro h2
      obtain ⟨x, hx, hp⟩ := List.any_eq_true.1 h2
      exact h (List.findIdx_lt_length_of_exists ⟨x, hx, hp⟩)
    rw [this]; decide

/-- A function value that answers p at each of some writes, from a world on, and changes nothing that lay. -/
def PredW (w : World) (gf : FuncId) (lb : Array Value) (xs : List Wr) (p : Wr → Bool) : Prop :=
  ∀ x ∈ xs, ∀ W, Fr N0 w W → Calls Tryz.prog gf (#[.agg x.enc.toArray] ++ lb) W fun e w' => e = .returned (.bool (p x)) ∧ Fr N0 W w'

set_option maxRecDepth 100000 in
set_option maxHeartbeats 2000000 in
theorem idxFW_any (w : World) (b : Nat) (v : Value) (xs : List Wr) (h : Wrs w b v xs) (hl : xs.length ≤ 1000000) (gf : FuncId) (lb : Array Value) (p : Wr → Bool) (hp : PredW w gf lb xs p)
    (eg : ∀ args w, (callFunc gf args).run Tryz.prog w = .ok (.enter gf args) w) :
    Calls Tryz.prog 90 #[v, .func (.func gf) #[] lb] w fun e w' => e = .returned (.int .i64 (idxW xs p)) ∧ Fr N0 w w' := by
  obtain ⟨a, off, cap, rfl, h1, h2, h3, h4, h5⟩ := h
  have HC := Lib.hid h5; have HP := Lib.hid hp; clear h5 hp h4
  go_enter Tryz.func90, Tryz.ntmps90
  go_wp2
  go_loopw [8] (fun i wr => ∃ k : Nat, k ≤ xs.length ∧ i = .int .i64 k ∧ Hid (∀ j (h : j < xs.length), j < k → p xs[j] = false) ∧ Fr N0 w wr) (fun i _ => xs.length - (intOf i).toNat)
  case atStart => exact ⟨0, Nat.zero_le _, rfl, fun j h hj => by omega, Fr.refl _ _⟩
  case round =>
    obtain ⟨k, hk, rfl, hn, hfr⟩ := hrel
    by_cases hlt : k < xs.length
    · obtain rfl := h3 (by omega)
      obtain ⟨c0, c1, c2, c3, c4, c5, c6, c7⟩ := wr_cells (W := w) (HC.out k hlt)
      replace c0 := hfr.cell id c0; replace c1 := hfr.cell id c1; replace c2 := hfr.cell id c2; replace c3 := hfr.cell id c3
      replace c4 := hfr.cell id c4; replace c5 := hfr.cell id c5; replace c6 := hfr.cell id c6; replace c7 := hfr.cell id c7
      have hcall := HP.out xs[k] (List.getElem_mem hlt)
      have hnx : p xs[k] = false → ∀ j (h : j < xs.length), j < k + 1 → p xs[j] = false := fun he j h hj => by
        rcases Nat.lt_or_ge j k with h' | h'
        · exact hn.out j h h'
        · have : j = k := by omega
          subst this; exact he
      have hfd : p xs[k] = true → idxW xs p = k := fun he => idxW_at hlt hn.out he
      obtain ⟨x, hx⟩ : ∃ x, xs[k] = x := ⟨_, rfl⟩
      simp only [hx] at c0 c1 c2 c3 c4 c5 c6 c7 hcall hnx hfd
      obtain ⟨q, hq⟩ : ∃ q, p x = q := ⟨_, rfl⟩
      rw [hq] at hcall hnx hfd
      obtain ⟨xd, xu, xp, vk, vb, vn, vs, vu⟩ := x
      unfold Wr.enc at hcall
      simp only at c0 c1 c2 c3 c4 c5 c6 c7 hcall
      have hki : (k : Int) < (xs.length : Int) := by omega
      have HX := Lib.hid hcall; have HNX := Lib.hid hnx; have HFD := Lib.hid hfd
      clear hcall hx hq hnx hfd hn
      cases q with
      | true =>
        have hF := Lib.hid (HFD.out rfl)
        clear HFD HNX
        go_wp2_with (refine (HX.out _ hfr).mono ?_; rintro e w1 ⟨rfl, hf1⟩)
        go_ret
        exact ⟨ret_int hF.out.symm, hfr.then0 hf1⟩
      | false =>
        have hF := Lib.hid (HNX.out rfl)
        clear HFD HNX
        go_wp2_with (refine (HX.out _ hfr).mono ?_; rintro e w1 ⟨rfl, hf1⟩)
        go_roundw
        case rel => exact ⟨k + 1, by omega, by go_num, hF.out, hfr.then0 hf1⟩
        case measure => simp [intOf]; omega
    · obtain rfl : k = xs.length := by omega
      have hF := Lib.hid (idxW_none hn.out)
      clear hn
      go_wp2
      go_ret
      exact ⟨ret_int hF.out.symm, hfr⟩

set_option maxRecDepth 100000 in
set_option maxHeartbeats 1000000 in
theorem contFW_any (w : World) (b : Nat) (v : Value) (xs : List Wr) (h : Wrs w b v xs) (hl : xs.length ≤ 1000000) (gf : FuncId) (lb : Array Value) (p : Wr → Bool) (hp : PredW w gf lb xs p)
    (eg : ∀ args w, (callFunc gf args).run Tryz.prog w = .ok (.enter gf args) w) :
    Calls Tryz.prog 83 #[v, .func (.func gf) #[] lb] w fun e w' => e = .returned (.bool (xs.any p)) ∧ Fr N0 w w' := by
  have hc := idxFW_any w b v xs h hl gf lb p hp eg
  have HC := Lib.hid hc
  clear hc hp h
  go_enter Tryz.func83, Tryz.ntmps83
  go_wp2_with (go_at_call 90; go_loud (refine HC.out.mono ?_); rintro e w1 ⟨rfl, hf1⟩)
  go_ret
  exact ⟨ret_bool idxW_ge, hf1⟩

set_option maxRecDepth 100000 in
set_option maxHeartbeats 1000000 in
theorem xwrites1_any (x : Wr) (hx : x.wf) (hm : trMay x = 0) (w : World) : Calls Tryz.prog 84 #[.agg x.enc.toArray] w fun e w' => e = .returned (.bool false) ∧ Fr N0 w w' := by
  have hc := fun W => tMay_any x hx W
  rw [hm] at hc
  obtain ⟨xd, xu, xp, vk, vb, vn, vs, vu⟩ := x
  unfold Wr.tenc at hc
  unfold Wr.enc
  simp only at hc ⊢
  have HC := Lib.hid hc
  clear hc
  go_enter Tryz.func84, Tryz.ntmps84
  go_wp2_with (go_at_call 85; go_loud (refine (HC.out _).mono ?_); rintro e w1 ⟨rfl, hf1⟩)
  go_ret
  exact ⟨rfl, (by first | exact hf1 | exact ((Fr.refl _ _).alloc _).then0 hf1)⟩

set_option maxRecDepth 100000 in
set_option maxHeartbeats 2000000 in
theorem xwrites_any (w : World) (v : Value) (t : Txn) (h : IsTxn w v t) (hv : Inv t) : Calls Tryz.prog 46 #[v] w fun e w' => e = .returned (.bool true) ∧ Fr N0 w w' := by
  have hfew := hv.few
  have hfk := hv.fewKeys
  obtain ⟨vw, vk, vn, vg, vl, rfl, h⟩ := h
  obtain ⟨bw, hw⟩ := h.ws
  obtain ⟨bk, hk⟩ := h.ks
  have hany : t.writes.any (fun _ => false) = false := by simp
  have hcf := fun W (hf : Fr N0 w W) => contFW_any W bw vw t.writes (hw.fr0 hf) (by omega) 84 #[] (fun _ => false) (fun x hx W _ => xwrites1_any x (hv.ok x hx).wf (hv.may x hx) W) (enters_of Tryz.func84 (by kernel_rfl) rfl)
  rw [hany] at hcf
  have hrs := fun W (hf : Fr N0 w W) => xrisesS_any W bk vk t.keys (hk.fr0 hf) hv.keys (by omega)
  have hkw : decide (0 < t.keys.length) = decide (0 < t.writes.length) := by
    have h1 := hv.keyed
    cases hk : t.keys <;> cases hw : t.writes <;> simp_all
  obtain ⟨ph, st, cm, ws, ks, ns, gs, ls, fl⟩ := t
  simp only at hcf hrs hkw hw hk hfew hfk ⊢
  obtain ⟨a, off, cap, rfl, h1, h2, -⟩ := hw
  obtain ⟨a', off', cap', rfl, h1', h2', -⟩ := hk
  obtain ⟨q, hq⟩ : ∃ q, decide (0 < ws.length) = q := ⟨_, rfl⟩
  have hq2 := hkw.trans hq
  have HCF := Lib.hid hcf; have HRS := Lib.hid hrs
  have hle : ¬ (256 : Int) < (ws.length : Int) := by omega
  have hle2 : (ws.length : Int) ≤ 256 := by omega
  clear hcf hrs hkw h hv hany
  cases q
  all_goals
    go_enter Tryz.func46, Tryz.ntmps46
    go_wp2_with (first
      | (go_at_call 83; go_loud (refine (HCF.out _ ((Fr.refl _ _).alloc _)).mono ?_); rintro e w1 ⟨rfl, hf1⟩; have hB1 := boxS_keep hf1 (boxS_new w _ _); have m1 := hB1.1; have HB := Lib.hid hB1; clear hB1)
      | (go_at_call 86; go_loud (refine (HRS.out _ HB.out.2.2).mono ?_); rintro e w2 ⟨rfl, hf2⟩; have hB2 := boxS_keep hf2 HB.out; have m2 := hB2.1; have HB2 := Lib.hid hB2; clear hB2))
    go_ret
    exact ⟨rfl, HB2.out.2.2⟩

end Go.Proofs.YthidminepegnoaaGreatDoor
