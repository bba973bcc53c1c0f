/- container/heap at the heads: up, down, Push, Fix (of the first), Pop. Conditions: at most 2^40 heads. -/
import Derived.Test.YtldboadcglofaaaHpLaw
import Derived.Test.YtldboadcglofaaaHPop
namespace Go.Proofs.Ytldboadcglofaaa
open Go.RowKit Go.Shelf
attribute [local go_sem] Oper.semAt_some
set_option linter.unusedVariables false
set_option linter.unusedSimpArgs false

theorem box_fr {w W : World} {hb base : Nat} {v : Value} {H : List (Int × Nat)} (hbx : w.heap[hb]? = some (.cells #[v] 107 (0, 0))) (h : HRow w base v H) (hf : Fr (fun q => v.ownBlock = some q) w W) :
    W.heap[hb]? = some (.cells #[v] 107 (0, 0)) :=
  (hf.at (fun e => by obtain ⟨c, hc⟩ := ownsRow_elem h e; rw [hbx] at hc; simp at hc) (lt_of_block hbx)).trans hbx

/-- A truth value is returned. -/
def BoolEnd (e : Ending) : Prop := ∃ b, e = .returned (.bool b)

theorem less_at {w : World} {base : Nat} {v : Value} {H : List (Int × Nat)} (h : HRow w base v H) (i k : Nat) (hi : i < H.length) (hk : k < H.length) (c : Bool) (hc : decide (keyOf H i < keyOf H k) = c) :
    Calls Try.prog 109 #[v, .int .i64 i, .int .i64 k] w fun e w' => e = .returned (.bool c) ∧ Fr N0 w w' := by
  rw [← hc, keyOf_get hi, keyOf_get hk]; exact hless_any w base v H h i k hi hk
theorem fr0_own {w w' : World} {T : Nat → Prop} (h : Fr N0 w w') : Fr T w w' := h.mono fun _ h => h.elim

set_option maxRecDepth 100000 in
set_option maxHeartbeats 1000000 in
theorem up_any (w : World) (base hb : Nat) (v : Value) (H : List (Int × Nat)) (h : HRow w base v H) (hbx : w.heap[hb]? = some (.cells #[v] 107 (0, 0))) (hl : H.length ≤ 1099511627776) (j : Nat) (hj : j < H.length) (hu : UpF (keyOf H) H.length j) :
    Calls Try.prog 88 #[.iface 110 (.pointer (some ⟨hb, 0, none⟩)), .int .i64 j] w fun e w' => (∃ u, e = .returned u) ∧ ∃ H', HRow w' base v H' ∧ H'.Perm H ∧ IsHp (keyOf H') H'.length ∧ Fr (fun q => v.ownBlock = some q) w w' := by
  have hbW := fun W (hW : Fr (fun q => v.ownBlock = some q) w W) => box_fr hbx h hW
  have HBW := Lib.hid hbW; have H0 := Lib.hid h; have HU := Lib.hid hu
  clear hbW h hbx hu
  go_enter Try.func88, Try.ntmps88
  go_wp2
  go_loopw [1] (fun jv wr => ∃ (j : Nat) (H' : List (Int × Nat)), jv = .int .i64 j ∧ j < H'.length ∧ H'.length = H.length ∧ HRow wr base v H' ∧ Hid (H'.Perm H) ∧ Hid (UpF (keyOf H') H'.length j) ∧ Fr (fun q => v.ownBlock = some q) w wr) (fun jv _ => (intOf jv).toNat)
  case atStart => exact ⟨j, H, rfl, hj, rfl, H0.out, List.Perm.refl _, HU.out, Fr.refl _ _⟩
  case round =>
    obtain ⟨i, H', rfl, hi, hlen, hrow, hp, hup, hfr⟩ := hrel
    have hbr := cell_of_one (HBW.out wr hfr)
    have hml := meth_less hb wr v hbr
    by_cases hi0 : i = 0
    · subst hi0
      have hq : IntKind.i64.wrap (-1) = -1 := IntWalk.i64_in _ (by omega)
      have hend := up_done hup.out (.inl rfl)
      have HE := Lib.hid hend; have HR := Lib.hid hrow; have HF := Lib.hid hfr
      clear hend hrow hfr
      go_wp2
      go_end0
      exact ⟨⟨_, rfl⟩, H', HR.out, hp.out, HE.out, HF.out⟩
    · obtain ⟨m, rfl⟩ : ∃ m, i = m + 1 := ⟨i - 1, by omega⟩
      have i1 : IntKind.i64.wrap ((m : Int) + 1 - 1) = (m : Int) := by rw [IntWalk.i64_in _ (by omega)]; omega
      have i2 : IntKind.i64.wrap (m : Int) = (m : Int) := IntWalk.i64_in _ (by omega)
      obtain ⟨i, hi2⟩ : ∃ i, m / 2 = i := ⟨_, rfl⟩
      have hdiv : (m : Int) / 2 = (i : Int) := by omega
      have hne : ¬ (i : Int) = (m : Int) + 1 := by omega
      have hil : i < H'.length := by omega
      have hpar : (m + 1 - 1) / 2 = i := by omega
      have hcast : ((m + 1 : Nat) : Int) = (m : Int) + 1 := by omega
      by_cases hlt : keyOf H' (m + 1) < keyOf H' i
      · have hle := less_at hrow (m + 1) i hi hil true (by simpa using hlt)
        have hsw := fun W (hW : Fr N0 wr W) => hswap_any W base v H' (hrow.fr hW fun _ _ => id) i (m + 1) hil hi
        have hst := up_step hup.out (by omega) hi (by rw [hpar]; exact hlt)
        rw [hpar] at hst
        have hkey := swapH_key hil hi
        have hlen2 := swapH_length hil hi
        have hper := swapH_perm hil hi
        rw [hcast] at hle
        simp only [hcast] at hsw
        rw [← hkey, ← hlen2] at hst
        have HLE := Lib.hid hle; have HSW := Lib.hid hsw; have HST := Lib.hid hst; have HPE := Lib.hid (hper.trans hp.out); have HF := Lib.hid hfr; have HL2 := Lib.hid hlen2
        clear hle hsw hst hkey hper hrow hup hlt hp hfr hlen2
        go_wp2_with (first
          | (go_at_call 109; refine HLE.out.mono ?_; rintro e w1 ⟨rfl, hf1⟩; have hms := meth_swap hb w1 v (hf1.cell id hbr))
          | (go_at_call 110; refine (HSW.out _ hf1).mono ?_; rintro e w2 ⟨⟨u, rfl⟩, hr2, hf2⟩))
        go_roundw
        case rel => exact ⟨i, swapH H' i (m + 1), rfl, by have := HL2.out; omega, by have := HL2.out; omega, hr2, HPE.out, HST.out, (HF.out.trans hf1 fun _ h => h.elim).trans hf2 fun _ h => .inl h⟩
        case measure => simp [intOf]; omega
      · have hle := less_at hrow (m + 1) i hi hil false (by simpa using hlt)
        have hend := up_done hup.out (.inr (by rw [hpar]; exact hlt))
        rw [hcast] at hle
        have HLE := Lib.hid hle; have HE := Lib.hid hend; have HR := Lib.hid hrow; have HF := Lib.hid hfr
        clear hle hend hrow hfr hup hlt
        go_wp2_with (go_at_call 109; refine HLE.out.mono ?_; rintro e w1 ⟨rfl, hf1⟩)
        go_end0
        exact ⟨⟨_, rfl⟩, H', HR.out.fr hf1 (fun _ _ => id), hp.out, HE.out, HF.out.trans hf1 fun _ h => h.elim⟩

set_option maxRecDepth 100000 in
set_option maxHeartbeats 2000000 in
theorem down_any (w : World) (base hb : Nat) (v : Value) (H : List (Int × Nat)) (h : HRow w base v H) (hbx : w.heap[hb]? = some (.cells #[v] 107 (0, 0))) (hl : H.length ≤ 1099511627776) (n : Nat) (hn : n ≤ H.length) (hd : DownF (keyOf H) n 0) :
    Calls Try.prog 89 #[.iface 110 (.pointer (some ⟨hb, 0, none⟩)), .int .i64 0, .int .i64 n] w fun e w' => BoolEnd e ∧ ∃ H', HRow w' base v H' ∧ H'.Perm H ∧ IsHp (keyOf H') n ∧ (∀ x, n ≤ x → H'[x]? = H[x]?) ∧ Fr (fun q => v.ownBlock = some q) w w' := by
  have hbW := fun W (hW : Fr (fun q => v.ownBlock = some q) w W) => box_fr hbx h hW
  have HBW := Lib.hid hbW; have H0 := Lib.hid h; have HD := Lib.hid hd
  clear hbW h hbx hd
  go_enter Try.func89, Try.ntmps89
  go_wp2
  go_loopw [7] (fun iv wr => ∃ (i : Nat) (H' : List (Int × Nat)), iv = .int .i64 i ∧ (i = 0 ∨ i < n) ∧ H'.length = H.length ∧ HRow wr base v H' ∧ Hid (H'.Perm H) ∧ Hid (DownF (keyOf H') n i) ∧ Hid (∀ x, n ≤ x → H'[x]? = H[x]?) ∧ Fr (fun q => v.ownBlock = some q) w wr) (fun iv _ => n - (intOf iv).toNat)
  case atStart => exact ⟨0, H, rfl, .inl rfl, rfl, H0.out, List.Perm.refl _, HD.out, fun _ _ => rfl, Fr.refl _ _⟩
  case round =>
    obtain ⟨i, H', rfl, hi, hlen, hrow, hp, hdn, hrest, hfr⟩ := hrel
    have hbr := cell_of_one (HBW.out wr hfr)
    have hml := meth_less hb wr v hbr
    have i1 : IntKind.i64.wrap (2 * (i : Int)) = 2 * (i : Int) := IntWalk.i64_in _ (by omega)
    have i2 : IntKind.i64.wrap (2 * (i : Int) + 1) = 2 * (i : Int) + 1 := IntWalk.i64_in _ (by omega)
    have i3 : IntKind.i64.wrap (2 * (i : Int) + 1 + 1) = 2 * (i : Int) + 1 + 1 := IntWalk.i64_in _ (by omega)
    have i4 : ¬ (2 * (i : Int) + 1 < 0) := by omega
    by_cases hc1 : 2 * i + 1 < n
    · have g1 : ¬ (n : Int) ≤ 2 * (i : Int) + 1 := by omega
      have hil : i < H'.length := by omega
      have less1 := fun c (hc : decide (keyOf H' (2 * i + 2) < keyOf H' (2 * i + 1)) = c) (h2 : 2 * i + 2 < n) => less_at hrow (2 * i + 2) (2 * i + 1) (by omega) (by omega) c hc
      rw [show ((2 * i + 2 : Nat) : Int) = 2 * (i : Int) + 1 + 1 by omega, show ((2 * i + 1 : Nat) : Int) = 2 * (i : Int) + 1 by omega] at less1
      by_cases h2 : 2 * i + 2 < n
      · have g2 : 2 * (i : Int) + 1 + 1 < (n : Int) := by omega
        by_cases h12 : keyOf H' (2 * i + 2) < keyOf H' (2 * i + 1)
        · have hmin : ∀ c, c < n → (c = 2 * i + 1 ∨ c = 2 * i + 2) → keyOf H' (2 * i + 2) ≤ keyOf H' c := fun c h1 h2 => by
            rcases h2 with rfl | rfl <;> omega
          have hjn : 2 * i + 2 < n := by omega
          have hjl : 2 * i + 2 < H'.length := by omega
          by_cases hlt : keyOf H' (2 * i + 2) < keyOf H' i
          · have hle := fun W (hW : Fr N0 wr W) => less_at (hrow.fr hW fun _ _ => id) (2 * i + 2) i hjl hil true (by simpa using hlt)
            have hsw := fun W (hW : Fr N0 wr W) => hswap_any W base v H' (hrow.fr hW fun _ _ => id) i (2 * i + 2) hil hjl
            have hst := down_step hdn.out (j := 2 * i + 2) (by omega) hjn hmin hlt
            rw [← swapH_key hil hjl] at hst
            have hlen2 := swapH_length hil hjl
            have hper := (swapH_perm hil hjl).trans hp.out
            have hres : ∀ x, n ≤ x → (swapH H' i (2 * i + 2))[x]? = H[x]? := fun x hx => by
              rw [swapH_get hil hjl, if_neg (by omega), if_neg (by omega)]; exact hrest.out x hx
            rw [show ((2 * i + 2 : Nat) : Int) = 2 * (i : Int) + 1 + 1 by omega] at hle hsw
            have HLE := Lib.hid hle; have HSW := Lib.hid hsw; have HST := Lib.hid hst; have HPE := Lib.hid hper; have HF := Lib.hid hfr; have HL2 := Lib.hid hlen2; have HRS := Lib.hid hres
            have HL1 := Lib.hid (less1 true (by simpa using h12) h2)
            clear hle hsw hst hper hrow hdn hlt hp hfr hlen2 hres hmin less1
            go_wp2_with (first
              | (go_at_call 109; have hq := hfirst; refine (HLE.out _ hf0).mono ?_; rintro e w1 ⟨rfl, hf1⟩; have hms := meth_swap hb w1 v (hf1.cell id hbr0))
              | (go_at_call 109; refine HL1.out.mono ?_; rintro e w0 ⟨rfl, hf0⟩; have hfirst := hf0; have hbr0 := hf0.cell id hbr; have hml0 := meth_less hb w0 v hbr0)
              | (go_at_call 110; refine (HSW.out _ (hf0.then0 hf1)).mono ?_; rintro e w2 ⟨⟨u, rfl⟩, hr2, hf2⟩))
            go_roundw
            case rel => exact ⟨2 * i + 2, swapH H' i (2 * i + 2), by go_num, .inr hjn, by have := HL2.out; omega, hr2, HPE.out, HST.out, HRS.out, (HF.out.trans (hf0.then0 hf1) fun _ h => h.elim).trans hf2 fun _ h => .inl h⟩
            case measure => simp [intOf]; omega
          · have hle := fun W (hW : Fr N0 wr W) => less_at (hrow.fr hW fun _ _ => id) (2 * i + 2) i hjl hil false (by simpa using hlt)
            have hend := down_done hdn.out (fun c h1 h2 => by have := hmin c h1 h2; omega)
            rw [show ((2 * i + 2 : Nat) : Int) = 2 * (i : Int) + 1 + 1 by omega] at hle
            have HLE := Lib.hid hle; have HE := Lib.hid hend; have HR := Lib.hid hrow; have HF := Lib.hid hfr
            have HL1 := Lib.hid (less1 true (by simpa using h12) h2)
            clear hle hend hrow hfr hdn hlt hmin less1
            go_wp2_with (first
              | (go_at_call 109; have hq := hfirst; refine (HLE.out _ hf0).mono ?_; rintro e w1 ⟨rfl, hf1⟩; have hms := meth_swap hb w1 v (hf1.cell id hbr0))
              | (go_at_call 109; refine HL1.out.mono ?_; rintro e w0 ⟨rfl, hf0⟩; have hfirst := hf0; have hbr0 := hf0.cell id hbr; have hml0 := meth_less hb w0 v hbr0))
            go_ret
            exact ⟨⟨_, rfl⟩, H', HR.out.fr (hf0.then0 hf1) (fun _ _ => id), hp.out, HE.out, hrest.out, HF.out.trans (hf0.then0 hf1) fun _ h => h.elim⟩
        · have hmin : ∀ c, c < n → (c = 2 * i + 1 ∨ c = 2 * i + 2) → keyOf H' (2 * i + 1) ≤ keyOf H' c := fun c h1 h2 => by
            rcases h2 with rfl | rfl <;> omega
          have hjn : 2 * i + 1 < n := by omega
          have hjl : 2 * i + 1 < H'.length := by omega
          by_cases hlt : keyOf H' (2 * i + 1) < keyOf H' i
          · have hle := fun W (hW : Fr N0 wr W) => less_at (hrow.fr hW fun _ _ => id) (2 * i + 1) i hjl hil true (by simpa using hlt)
            have hsw := fun W (hW : Fr N0 wr W) => hswap_any W base v H' (hrow.fr hW fun _ _ => id) i (2 * i + 1) hil hjl
            have hst := down_step hdn.out (j := 2 * i + 1) (by omega) hjn hmin hlt
            rw [← swapH_key hil hjl] at hst
            have hlen2 := swapH_length hil hjl
            have hper := (swapH_perm hil hjl).trans hp.out
            have hres : ∀ x, n ≤ x → (swapH H' i (2 * i + 1))[x]? = H[x]? := fun x hx => by
              rw [swapH_get hil hjl, if_neg (by omega), if_neg (by omega)]; exact hrest.out x hx
            rw [show ((2 * i + 1 : Nat) : Int) = 2 * (i : Int) + 1 by omega] at hle hsw
            have HLE := Lib.hid hle; have HSW := Lib.hid hsw; have HST := Lib.hid hst; have HPE := Lib.hid hper; have HF := Lib.hid hfr; have HL2 := Lib.hid hlen2; have HRS := Lib.hid hres
            have HL1 := Lib.hid (less1 false (by simpa using h12) h2)
            clear hle hsw hst hper hrow hdn hlt hp hfr hlen2 hres hmin less1
            go_wp2_with (first
              | (go_at_call 109; have hq := hfirst; refine (HLE.out _ hf0).mono ?_; rintro e w1 ⟨rfl, hf1⟩; have hms := meth_swap hb w1 v (hf1.cell id hbr0))
              | (go_at_call 109; refine HL1.out.mono ?_; rintro e w0 ⟨rfl, hf0⟩; have hfirst := hf0; have hbr0 := hf0.cell id hbr; have hml0 := meth_less hb w0 v hbr0)
              | (go_at_call 110; refine (HSW.out _ (hf0.then0 hf1)).mono ?_; rintro e w2 ⟨⟨u, rfl⟩, hr2, hf2⟩))
            go_roundw
            case rel => exact ⟨2 * i + 1, swapH H' i (2 * i + 1), by go_num, .inr hjn, by have := HL2.out; omega, hr2, HPE.out, HST.out, HRS.out, (HF.out.trans (hf0.then0 hf1) fun _ h => h.elim).trans hf2 fun _ h => .inl h⟩
            case measure => simp [intOf]; omega
          · have hle := fun W (hW : Fr N0 wr W) => less_at (hrow.fr hW fun _ _ => id) (2 * i + 1) i hjl hil false (by simpa using hlt)
            have hend := down_done hdn.out (fun c h1 h2 => by have := hmin c h1 h2; omega)
            rw [show ((2 * i + 1 : Nat) : Int) = 2 * (i : Int) + 1 by omega] at hle
            have HLE := Lib.hid hle; have HE := Lib.hid hend; have HR := Lib.hid hrow; have HF := Lib.hid hfr
            have HL1 := Lib.hid (less1 false (by simpa using h12) h2)
            clear hle hend hrow hfr hdn hlt hmin less1
            go_wp2_with (first
              | (go_at_call 109; have hq := hfirst; refine (HLE.out _ hf0).mono ?_; rintro e w1 ⟨rfl, hf1⟩; have hms := meth_swap hb w1 v (hf1.cell id hbr0))
              | (go_at_call 109; refine HL1.out.mono ?_; rintro e w0 ⟨rfl, hf0⟩; have hfirst := hf0; have hbr0 := hf0.cell id hbr; have hml0 := meth_less hb w0 v hbr0))
            go_ret
            exact ⟨⟨_, rfl⟩, H', HR.out.fr (hf0.then0 hf1) (fun _ _ => id), hp.out, HE.out, hrest.out, HF.out.trans (hf0.then0 hf1) fun _ h => h.elim⟩
      · have g2 : ¬ 2 * (i : Int) + 1 + 1 < (n : Int) := by omega
        have hmin : ∀ c, c < n → (c = 2 * i + 1 ∨ c = 2 * i + 2) → keyOf H' (2 * i + 1) ≤ keyOf H' c := fun c h1 h2 => by
          rcases h2 with rfl | rfl <;> omega
        have hjn : 2 * i + 1 < n := by omega
        have hjl : 2 * i + 1 < H'.length := by omega
        by_cases hlt : keyOf H' (2 * i + 1) < keyOf H' i
        · have hle := fun W (hW : Fr N0 wr W) => less_at (hrow.fr hW fun _ _ => id) (2 * i + 1) i hjl hil true (by simpa using hlt)
          have hsw := fun W (hW : Fr N0 wr W) => hswap_any W base v H' (hrow.fr hW fun _ _ => id) i (2 * i + 1) hil hjl
          have hst := down_step hdn.out (j := 2 * i + 1) (by omega) hjn hmin hlt
          rw [← swapH_key hil hjl] at hst
          have hlen2 := swapH_length hil hjl
          have hper := (swapH_perm hil hjl).trans hp.out
          have hres : ∀ x, n ≤ x → (swapH H' i (2 * i + 1))[x]? = H[x]? := fun x hx => by
            rw [swapH_get hil hjl, if_neg (by omega), if_neg (by omega)]; exact hrest.out x hx
          rw [show ((2 * i + 1 : Nat) : Int) = 2 * (i : Int) + 1 by omega] at hle hsw
          have HLE := Lib.hid hle; have HSW := Lib.hid hsw; have HST := Lib.hid hst; have HPE := Lib.hid hper; have HF := Lib.hid hfr; have HL2 := Lib.hid hlen2; have HRS := Lib.hid hres
          clear hle hsw hst hper hrow hdn hlt hp hfr hlen2 hres hmin less1
          go_wp2_with (first
            | (go_at_call 109; refine (HLE.out _ (Fr.refl N0 wr)).mono ?_; rintro e w1 ⟨rfl, hf1⟩; have hms := meth_swap hb w1 v (hf1.cell id hbr))
            | (go_at_call 110; refine (HSW.out _ hf1).mono ?_; rintro e w2 ⟨⟨u, rfl⟩, hr2, hf2⟩))
          go_roundw
          case rel => exact ⟨2 * i + 1, swapH H' i (2 * i + 1), by go_num, .inr hjn, by have := HL2.out; omega, hr2, HPE.out, HST.out, HRS.out, (HF.out.trans hf1 fun _ h => h.elim).trans hf2 fun _ h => .inl h⟩
          case measure => simp [intOf]; omega
        · have hle := fun W (hW : Fr N0 wr W) => less_at (hrow.fr hW fun _ _ => id) (2 * i + 1) i hjl hil false (by simpa using hlt)
          have hend := down_done hdn.out (fun c h1 h2 => by have := hmin c h1 h2; omega)
          rw [show ((2 * i + 1 : Nat) : Int) = 2 * (i : Int) + 1 by omega] at hle
          have HLE := Lib.hid hle; have HE := Lib.hid hend; have HR := Lib.hid hrow; have HF := Lib.hid hfr
          clear hle hend hrow hfr hdn hlt hmin less1
          go_wp2_with (first
            | (go_at_call 109; refine (HLE.out _ (Fr.refl N0 wr)).mono ?_; rintro e w1 ⟨rfl, hf1⟩; have hms := meth_swap hb w1 v (hf1.cell id hbr)))
          go_ret
          exact ⟨⟨_, rfl⟩, H', HR.out.fr hf1 (fun _ _ => id), hp.out, HE.out, hrest.out, HF.out.trans hf1 fun _ h => h.elim⟩
    · have g1 : (n : Int) ≤ 2 * (i : Int) + 1 := by omega
      have hend := down_done hdn.out (fun c h1 h2 => absurd h1 (by omega))
      have HE := Lib.hid hend; have HR := Lib.hid hrow; have HF := Lib.hid hfr
      clear hend hrow hfr hdn
      go_wp2
      go_ret
      exact ⟨⟨_, rfl⟩, H', HR.out, hp.out, HE.out, hrest.out, HF.out⟩

end Go.Proofs.Ytldboadcglofaaa
