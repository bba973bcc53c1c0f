/- container/heap at the heads: Push, Fix (of the first), Pop. Conditions: at most 2^40 heads. -/
import Derived.Test.YtldboadcglofaaaHeap
namespace Go.Proofs.Ytldboadcglofaaa
open Go.RowKit Go.Shelf
attribute [local go_sem] Oper.semAt_some
set_option linter.unusedVariables false
set_option linter.unusedSimpArgs false

/-- The heap as it lies: the box, the row, the order. -/
structure HpAt (W : World) (base hb : Nat) (v : Value) (H : List (Int × Nat)) : Prop where
  row : HRow W base v H
  box : W.heap[hb]? = some (.cells #[v] 107 (0, 0))
  ord : IsHp (keyOf H) H.length

theorem HpAt.apart {W : World} {base hb : Nat} {v : Value} {H : List (Int × Nat)} (h : HpAt W base hb v H) : v.ownBlock ≠ some hb := fun e => by
  obtain ⟨c, hc⟩ := ownsRow_elem h.row e; rw [h.box] at hc; simp at hc
theorem HpAt.vform {W : World} {base hb : Nat} {v : Value} {H : List (Int × Nat)} (h : HRow W base v H) : ∃ a cap, v = .slice a H.length cap := by
  rcases h.2 with ⟨e, h0⟩ | ⟨g, cap, cur, e, _⟩
  · exact ⟨none, 0, by rw [e, h0]⟩
  · exact ⟨_, cap, e⟩
theorem hlen_at {W : World} {base : Nat} {v : Value} {H : List (Int × Nat)} (h : HRow W base v H) (w : World) : Calls Try.prog 108 #[v] w fun e w' => e = .returned (.int .i64 H.length) ∧ w = w' := by
  obtain ⟨a, cap, rfl⟩ := HpAt.vform (hb := 0) h
  exact hlen_any a H.length cap w

theorem up_of_append {H : List (Int × Nat)} {p : Int × Nat} (h : IsHp (keyOf H) H.length) : UpF (keyOf (H ++ [p])) (H ++ [p]).length H.length := by
  have hk : ∀ x, x < H.length → keyOf (H ++ [p]) x = keyOf H x := fun x hx => by unfold keyOf; rw [List.getElem?_append_left hx]
  rw [List.length_append, List.length_singleton]
  refine ⟨fun i h0 hi hne => ?_, fun h0 i hi0 hi hp => by omega⟩
  rw [hk _ (by omega), hk _ (by omega)]
  exact h i h0 (by omega)

set_option maxRecDepth 100000 in
set_option maxHeartbeats 1000000 in
theorem heapPush_any (w : World) (base hb : Nat) (v : Value) (H : List (Int × Nat)) (h : HpAt w base hb v H) (hbase : base ≤ w.heap.size) (hl : H.length < 1099511627776) (p : Int × Nat) :
    Calls Try.prog 79 #[.iface 110 (.pointer (some ⟨hb, 0, none⟩)), .iface 112 (.agg #[.int .u64 p.1, nextFn p.2])] w fun e w' => (∃ u, e = .returned u) ∧ ∃ v' H', HpAt w' base hb v' H' ∧ Hid (H'.Perm (H ++ [p])) ∧
      (∀ q, v'.ownBlock = some q → v.ownBlock = some q ∨ w.heap.size ≤ q) ∧ Fr (fun q => q = hb ∨ v.ownBlock = some q) w w' := by
  have hpu := hpush_any w base hb v H h.row h.box hbase (by omega) p
  have hmp := meth_push hb w
  have hup := fun W v' (hr : HRow W base v' (H ++ [p])) (hbx : W.heap[hb]? = some (.cells #[v'] 107 (0, 0))) => up_any W base hb v' (H ++ [p]) hr hbx (by simp; omega) H.length (by simp) (up_of_append h.ord)
  have HP := Lib.hid hpu; have HU := Lib.hid hup
  clear hpu hup h
  go_enter Try.func79, Try.ntmps79
  go_wp2_with (first
    | (go_at_call 112; refine HP.out.mono ?_; rintro e w1 ⟨⟨u, rfl⟩, v', hr1, hb1, hn1, hf1⟩; have hml := meth_len hb w1 v' (cell_of_one hb1))
    | (go_at_call 108; refine (hlen_at hr1 _).mono ?_; rintro e w2 ⟨rfl, rfl⟩; have hs : IntKind.i64.wrap (((H ++ [p]).length : Int) - 1) = (H.length : Int) := by (rw [IntWalk.i64_in _ (by simp; omega)]; simp))
    | (go_at_call 88; refine (HU.out w1 v' hr1 hb1).mono ?_; rintro e w3 ⟨⟨u3, rfl⟩, H3, hr3, hp3, ho3, hf3⟩))
  go_end0
  refine ⟨⟨_, rfl⟩, v', H3, ⟨hr3, box_fr hb1 hr1 hf3, ho3⟩, hp3, hn1, hf1.trans hf3 fun k hk => ?_⟩
  rcases hn1 k hk with h1 | h1
  · exact .inl (.inr h1)
  · exact .inr h1

theorem up_of_hp {K : Nat → Int} {n : Nat} (h : IsHp K n) : UpF K n 0 := ⟨fun i h0 hi _ => h i h0 hi, fun h0 => absurd h0 (by omega)⟩

set_option maxRecDepth 100000 in
set_option maxHeartbeats 1000000 in
theorem heapFix_any (w : World) (base hb : Nat) (v : Value) (H : List (Int × Nat)) (h : HRow w base v H) (hbx : w.heap[hb]? = some (.cells #[v] 107 (0, 0))) (h0 : 0 < H.length) (hl : H.length ≤ 1099511627776) (hd : DownF (keyOf H) H.length 0) :
    Calls Try.prog 80 #[.iface 110 (.pointer (some ⟨hb, 0, none⟩)), .int .i64 0] w fun e w' => (∃ u, e = .returned u) ∧ ∃ H', HpAt w' base hb v H' ∧ Hid (H'.Perm H) ∧ Fr (fun q => v.ownBlock = some q) w w' := by
  have hml := meth_len hb w v (cell_of_one hbx)
  have hdn := down_any w base hb v H h hbx hl H.length (Nat.le_refl _) hd
  have hup := fun W H' (hr : HRow W base v H') (hb' : W.heap[hb]? = some (.cells #[v] 107 (0, 0))) (hlen : H'.length = H.length) (ho : IsHp (keyOf H') H'.length) => up_any W base hb v H' hr hb' (by omega) 0 (by omega) (up_of_hp ho)
  have e0 : ((0 : Nat) : Int) = 0 := rfl
  simp only [e0] at hup
  have hln := hlen_at h w
  have hbf := fun W (hW : Fr (fun q => v.ownBlock = some q) w W) => box_fr hbx h hW
  have HD := Lib.hid hdn; have HU := Lib.hid hup; have HLN := Lib.hid hln; have HBF := Lib.hid hbf
  clear hdn hup h hbx hd hln hbf
  go_enter Try.func80, Try.ntmps80
  go_wp2_with (first
    | (go_at_call 108; refine HLN.out.mono ?_; rintro e w2 ⟨rfl, rfl⟩)
    | (go_at_call 89; refine HD.out.mono ?_; rintro e w1 ⟨⟨b, rfl⟩, H1, hr1, hp1, ho1, _, hf1⟩; have hl1 := hp1.length_eq; have ho1' : IsHp (keyOf H1) H1.length := by rw [hl1]; exact ho1)
    | (go_at_call 88; refine (HU.out w1 H1 hr1 (HBF.out w1 hf1) hl1 ho1').mono ?_; rintro e w3 ⟨⟨u3, rfl⟩, H3, hr3, hp3, ho3, hf3⟩))
  · go_end0
    refine ⟨⟨_, rfl⟩, H3, ⟨hr3, box_fr (HBF.out w1 hf1) hr1 hf3, ho3⟩, hp3.trans hp1, hf1.trans hf3 fun k hk => .inl hk⟩
  · go_end0
    exact ⟨⟨_, rfl⟩, H1, ⟨hr1, HBF.out w1 hf1, ho1'⟩, hp1, hf1⟩

theorem down_of_hp {H : List (Int × Nat)} {n : Nat} (h : IsHp (keyOf H) H.length) (hn : n + 1 = H.length) : DownF (keyOf (swapH H 0 n)) n 0 := by
  rw [swapH_key (by omega) (by omega)]
  refine ⟨fun c h0 hc hp => ?_, fun h0 => absurd h0 (by omega)⟩
  unfold swp
  rw [if_neg hp, if_neg (by omega), if_neg (by omega), if_neg (by omega)]
  exact h c h0 (by omega)

theorem keyOf_take {H : List (Int × Nat)} {n x : Nat} (h : x < n) : keyOf (H.take n) x = keyOf H x := by
  unfold keyOf; rw [List.getElem?_take, if_pos h]

set_option maxRecDepth 100000 in
set_option maxHeartbeats 1000000 in
theorem heapPop_any (w : World) (base hb : Nat) (v : Value) (H : List (Int × Nat)) (h : HpAt w base hb v H) (h0 : 0 < H.length) (hl : H.length ≤ 1099511627776) :
    Calls Try.prog 81 #[.iface 110 (.pointer (some ⟨hb, 0, none⟩))] w fun e w' => (∃ u, e = .returned u) ∧ ∃ v' H', HpAt w' base hb v' H' ∧ Hid ((H' ++ [H[0]]).Perm H) ∧ v'.ownBlock = v.ownBlock ∧ Fr (fun q => q = hb ∨ v.ownBlock = some q) w w' := by
  obtain ⟨n, hn⟩ : ∃ n, n + 1 = H.length := ⟨H.length - 1, by omega⟩
  have hml := meth_len hb w v (cell_of_one h.box)
  have hln := hlen_at h.row w
  have hsw := hswap_any w base v H h.row 0 n h0 (by omega)
  have hsl := swapH_length (H := H) (i := 0) (k := n) h0 (by omega)
  have hsp := swapH_perm (H := H) (i := 0) (k := n) h0 (by omega)
  have hlast : (swapH H 0 n)[n]? = some H[0] := by
    rw [swapH_get h0 (by omega)]
    by_cases e : n = 0
    · subst e; rw [if_pos rfl, List.getElem?_eq_getElem]
    · rw [if_neg e, if_pos rfl, List.getElem?_eq_getElem]
  have hdn := fun W (hr : HRow W base v (swapH H 0 n)) (hb' : W.heap[hb]? = some (.cells #[v] 107 (0, 0))) => down_any W base hb v (swapH H 0 n) hr hb' (by omega) n (by omega) (down_of_hp h.ord hn)
  have hpo := fun W H' (hr : HRow W base v H') (hb' : W.heap[hb]? = some (.cells #[v] 107 (0, 0))) (hlen : H'.length = H.length) => hpop_any W base hb v H' hr hb' (by omega) (by omega)
  have hbf := fun W (hW : Fr (fun q => v.ownBlock = some q) w W) => box_fr h.box h.row hW
  have e0 : ((0 : Nat) : Int) = 0 := rfl
  rw [e0] at hsw
  rw [← hn] at hln
  have hs : IntKind.i64.wrap (((n + 1 : Nat) : Int) - 1) = (n : Int) := by rw [IntWalk.i64_in _ (by omega)]; omega
  have hs2 : IntKind.i64.wrap (n : Int) = (n : Int) := IntWalk.i64_in _ (by omega)
  have HLN := Lib.hid hln; have HSW := Lib.hid hsw; have HD := Lib.hid hdn; have HPO := Lib.hid hpo; have HBF := Lib.hid hbf; have HSP := Lib.hid hsp; have HLA := Lib.hid hlast; have HSL := Lib.hid hsl
  have HN := Lib.hid hn
  clear hln hsw hdn hpo hbf h hsp hlast hsl hn
  go_enter Try.func81, Try.ntmps81
  go_wp2_with (first
    | (go_at_call 108; refine HLN.out.mono ?_; rintro e w2 ⟨rfl, rfl⟩; have hms := meth_swap hb w v (cell_of_one (HBF.out w (Fr.refl _ _))))
    | (go_at_call 110; refine HSW.out.mono ?_; rintro e w1 ⟨⟨u1, rfl⟩, hr1, hf1⟩)
    | (go_at_call 89; refine (HD.out w1 hr1 (HBF.out w1 hf1)).mono ?_; rintro e w3 ⟨⟨b3, rfl⟩, H3, hr3, hp3, ho3, hx3, hf3⟩; have hf13 := hf1.trans hf3 (fun k hk => .inl hk); have hmp := meth_pop hb w3)
    | (go_at_call 111; refine (HPO.out w3 H3 hr3 (HBF.out w3 hf13) (by rw [hp3.length_eq]; exact HSL.out)).mono ?_; rintro e w4 ⟨⟨u4, rfl⟩, v4, hr4, hb4, ho4, hf4⟩))
  go_ret
  have hlen3 : H3.length = H.length := hp3.length_eq.trans HSL.out
  have hn := HN.out
  have e3 : H3.length - 1 = n := by omega
  rw [e3] at hr4
  have hx : H3[n]? = some H[0] := by rw [hx3 n (Nat.le_refl _)]; exact HLA.out
  have hcat : H3.take n ++ [H[0]] = H3 := by
    have h1 : n < H3.length := by omega
    have h2 : H3[n] = H[0] := by rw [List.getElem?_eq_getElem h1] at hx; simpa using hx
    have h3 : H3.drop n = [H[0]] := by
      rw [List.drop_eq_getElem_cons h1, h2, List.drop_of_length_le (by omega)]
    rw [← h3, List.take_append_drop]
  have hlt : (H3.take n).length = n := by simp; omega
  refine ⟨⟨_, rfl⟩, v4, H3.take n, ⟨hr4, hb4, ?_⟩, ?_, ho4, ?_⟩
  · rw [hlt]
    intro i h0 hi
    rw [keyOf_take hi, keyOf_take (by omega)]
    exact ho3 i h0 hi
  · show (H3.take n ++ [H[0]]).Perm H
    rw [hcat]; exact hp3.trans HSP.out
  · exact (hf13.mono fun k hk => .inl (.inr hk)).trans hf4 fun k hk => .inl (.inl hk)

end Go.Proofs.Ytldboadcglofaaa
