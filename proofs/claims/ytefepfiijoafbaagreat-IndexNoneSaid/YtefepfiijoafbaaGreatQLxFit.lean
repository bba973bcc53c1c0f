/- tesseralaw19.fits: some truth. -/
import Derived.BigQuiet
import Derived.Test.YtefepfiijoafbaaGreatQIMay2
namespace Go.Proofs.YtefepfiijoafbaaGreat
open Go.RowKit Go.Shelf Go.Maps Go.Sort
attribute [local go_sem] Oper.semAt_some
attribute [local irreducible] wpQuiet
set_option linter.unusedVariables false
set_option linter.unusedSimpArgs false

def SomeBool (W : World) (e : Ending) (w' : World) : Prop := (∃ q : Bool, e = .returned (.bool q)) ∧ Fr N0 W w'
set_option maxRecDepth 100000 in
set_option maxHeartbeats 2000000 in
theorem lxFits_any (W : World) (b : Nat) (f : Fn) (vv uv sv : Value) (hv : RowsK Val.enc 5 W b vv f.vals) (hu : ∃ a c, uv = .slice a f.uids c) (hs : ∃ a c, sv = .slice a f.vars c) :
    Calls Tryz.prog 36 #[.agg (f.enc vv uv sv)] W (SomeBool W) := by
  obtain ⟨ua, uc, rfl⟩ := hu
  obtain ⟨sa, sc, rfl⟩ := hs
  obtain ⟨va, voff, vc, rfl, -, -, k3, -, k5⟩ := hv
  obtain ⟨kd, pred, back, vals, nu, ns⟩ := f
  simp only [Fn.enc] at *
  obtain ⟨n, hn⟩ : ∃ n, vals.length = n := ⟨_, rfl⟩
  have HN := Lib.hid hn; have HC := Lib.hid k5
  rw [hn] at k3
  simp only [hn]
  clear k5 hn
  obtain ⟨w0, hw0⟩ : ∃ w0, W.alloc (.cells #[.int .u8 kd, .string pred, .bool back, .slice va n vc, .slice ua nu uc, .slice sa ns sc] 94) = w0 := ⟨_, rfl⟩
  have hb0 : w0.heap[W.heap.size]? = some (.cells #[.int .u8 kd, .string pred, .bool back, .slice va n vc, .slice ua nu uc, .slice sa ns sc] 94 (0, 0)) := by rw [← hw0]; exact World.alloc_heap_new W _
  have hf0 : Fr N0 W w0 := by rw [← hw0]; exact (Fr.refl _ _).alloc _
  have hl0 := lt_of_block hb0
  have HB := Lib.hid hb0; have HF := Lib.hid hf0
  clear hb0 hf0
  obtain ⟨mm, nn, ll⟩ := box_cells HB.out
  go_enter Tryz.func36, Tryz.ntmps36
  go_wp2
  try rw [hw0]
  clear mm nn ll
  go_loopw [3, 4] (fun nv iv wr => ∃ (k : Nat) (m : Int), k ≤ 100 ∧ k ≤ n ∧ iv = .int .i64 k ∧ nv = .int .i64 m ∧ Fr N0 w0 wr) (fun _ iv _ => 100 - (intOf iv).toNat)
  case atStart => exact ⟨0, _, by omega, by omega, rfl, rfl, Fr.refl _ _⟩
  case round =>
    obtain ⟨k, m, hk, hkl, rfl, rfl, hfr⟩ := hrel
    have hbr := (hfr.at (k := W.heap.size) id hl0).trans HB.out
    obtain ⟨m0, n0, l0⟩ := box_cells hbr
    clear hbr
    by_cases hlt : k < n
    · by_cases hl3 : k < 100
      · obtain rfl := k3 (by omega)
        have hx : k < vals.length := by rw [HN.out]; exact hlt
        have c3 := HC.out k hx 3 (by decide)
        have c3' : W.cell? ⟨b, voff + k * 5 + 3, none⟩ = some (.string vals[k].s) := by simpa [Val.enc] using c3
        replace c3' := (HF.out.then0 hfr).cell id c3'
        obtain ⟨xv, hxv⟩ : ∃ x, vals[k].s = x := ⟨_, rfl⟩
        rw [hxv] at c3'
        have hki : (k : Int) < (n : Int) := by omega
        have hk3 : (k : Int) < 100 := by omega
        have HFR := Lib.hid hfr
        clear hxv c3 hfr
        go_wp2
        go_roundw
        case rel => exact ⟨k + 1, _, by omega, by omega, by go_num, rfl, HFR.out⟩
        case measure => simp [intOf]; omega
      · have hk3 : ¬ (k : Int) < 100 := by omega
        have hki : (k : Int) < (n : Int) := by omega
        go_wp2
        go_ret
        exact ⟨⟨_, rfl⟩, HF.out.then0 hfr⟩
    · have hki : ¬ (k : Int) < (n : Int) := by omega
      go_wp2
      go_ret
      exact ⟨⟨_, rfl⟩, HF.out.then0 hfr⟩
end Go.Proofs.YtefepfiijoafbaaGreat
