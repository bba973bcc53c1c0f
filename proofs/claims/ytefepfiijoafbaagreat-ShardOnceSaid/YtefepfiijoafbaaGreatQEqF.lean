/- slices.Equal at writes, both answers. -/
import Derived.Test.YtefepfiijoafbaaGreatQCopy
namespace Go.Proofs.YtefepfiijoafbaaGreat
open Go.RowKit Go.Shelf
attribute [local go_sem] Oper.semAt_some
set_option linter.unusedVariables false
set_option linter.unusedSimpArgs false

theorem wr_ext {x y : Wr} : x = y ↔ x.del = y.del ∧ x.uid = y.uid ∧ x.pred = y.pred ∧ x.val.k = y.val.k ∧ x.val.b = y.val.b ∧ x.val.n = y.val.n ∧ x.val.s = y.val.s ∧ x.val.u = y.val.u := by
  obtain ⟨xd, xu, xp, ⟨vk, vb, vn, vs, vu⟩⟩ := x
  obtain ⟨yd, yu, yp, ⟨zk, zb, zn, zs, zu⟩⟩ := y
  simp
open Classical in
set_option maxRecDepth 100000 in
set_option maxHeartbeats 2000000 in
theorem eqWF_any (w : World) (b c : Nat) (v z : Value) (xs ys : List Wr) (h : Wrs w b v xs) (h' : Wrs w c z ys) (hl : xs.length ≤ 1000000) :
    Calls Tryz.prog 58 #[v, z] w fun e w' => e = .returned (.bool (decide (xs = ys))) ∧ Fr N0 w w' := by
  obtain ⟨a, off, cap, rfl, h1, h2, h3, h4, h5⟩ := h
  obtain ⟨a', off', cap', rfl, h1', h2', h3', h4', h5'⟩ := h'
  have HC := Lib.hid h5; have HC' := Lib.hid h5'; clear h5 h4 h5' h4'
  by_cases hlen : xs.length = ys.length
  · have hln : ((xs.length : Int) != (ys.length : Int)) = false := by simp [hlen]
    obtain ⟨n, hn⟩ : ∃ n, xs.length = n := ⟨_, rfl⟩
    have hn' : ys.length = n := by omega
    have HX := Lib.hid hn; have HY := Lib.hid hn'
    rw [hn, hn'] at hln
    rw [hn, hn']
    rw [hn] at h1 h3 hl; rw [hn'] at h1' h3'
    clear hlen hn hn'
    go_enter Tryz.func58, Tryz.ntmps58
    go_wp2
    go_loopw [13] (fun i wr => ∃ k : Nat, k ≤ n ∧ i = .int .i64 k ∧ Hid (xs.take k = ys.take k) ∧ Fr N0 w wr) (fun i _ => n - (intOf i).toNat)
    case atStart => exact ⟨0, Nat.zero_le _, rfl, by simp [Hid], Fr.refl _ _⟩
    case round =>
      obtain ⟨k, hk, rfl, hn, hfr⟩ := hrel
      by_cases hlt : k < n
      · obtain rfl := h3 (by omega)
        obtain rfl := h3' (by omega)
        have hxl : k < xs.length := by rw [HX.out]; exact hlt
        have hyl : k < ys.length := by rw [HY.out]; exact hlt
        have t1 := List.take_succ_eq_append_getElem hxl
        have t2 := List.take_succ_eq_append_getElem hyl
        have hne : xs[k] ≠ ys[k] → xs ≠ ys := fun h e => h (by subst e; rfl)
        obtain ⟨f0, f1, f2, f3, f4, f5, f6, f7⟩ := wr_cells (W := w) (HC.out k hxl)
        obtain ⟨g0, g1, g2, g3, g4, g5, g6, g7⟩ := wr_cells (W := w) (HC'.out k hyl)
        replace f0 := hfr.cell id f0; replace g0 := hfr.cell id g0; replace f1 := hfr.cell id f1; replace g1 := hfr.cell id g1; replace f2 := hfr.cell id f2; replace g2 := hfr.cell id g2; replace f3 := hfr.cell id f3; replace g3 := hfr.cell id g3; replace f4 := hfr.cell id f4; replace g4 := hfr.cell id g4; replace f5 := hfr.cell id f5; replace g5 := hfr.cell id g5; replace f6 := hfr.cell id f6; replace g6 := hfr.cell id g6; replace f7 := hfr.cell id f7; replace g7 := hfr.cell id g7
        obtain ⟨x, hx⟩ : ∃ x, xs[k] = x := ⟨_, rfl⟩
        obtain ⟨y, hy⟩ : ∃ x, ys[k] = x := ⟨_, rfl⟩
        rw [hx] at t1 hne; rw [hy] at t2 hne
        simp only [hx] at f0 f1 f2 f3 f4 f5 f6 f7
        simp only [hy] at g0 g1 g2 g3 g4 g5 g6 g7
        have hki : (k : Int) < (n : Int) := by omega
        have hext := @wr_ext x y
        obtain ⟨xd, xu, xp, ⟨vk, vb, vn, vs, vu⟩⟩ := x
        obtain ⟨yd, yu, yp, ⟨zk, zb, zn, zs, zu⟩⟩ := y
        simp only at f0 f1 f2 f3 f4 f5 f6 f7 g0 g1 g2 g3 g4 g5 g6 g7 hext
        have HT := Lib.hid t1; have HT' := Lib.hid t2; have HNE := Lib.hid hne; have HEXT := Lib.hid hext
        clear t1 t2 hne hx hy hxl hyl hext
        cases hb0 : (xd == yd) with
        | false =>
          have hN := HNE.out (by rw [ne_eq, HEXT.out]; rintro ⟨q0, q1, q2, q3, q4, q5, q6, q7⟩; simp [q0] at hb0)
          have HN := Lib.hid hN
          clear hN
          go_wp2
          go_quiet (fail)
          go_wp2
          go_ret
          exact ⟨ret_bool (by simp [HN.out]), hfr.drewN _⟩
        | true =>
          obtain rfl : xd = yd := by simpa using hb0
          clear hb0
          cases hb1 : (xu == yu) with
          | false =>
            have hN := HNE.out (by rw [ne_eq, HEXT.out]; rintro ⟨q0, q1, q2, q3, q4, q5, q6, q7⟩; simp [q1] at hb1)
            have HN := Lib.hid hN
            clear hN
            go_wp2
            go_quiet (fail)
            go_wp2
            go_ret
            exact ⟨ret_bool (by simp [HN.out]), hfr.drewN _⟩
          | true =>
            obtain rfl : xu = yu := by simpa using hb1
            clear hb1
            cases hb2 : (xp.toList == yp.toList) with
            | false =>
              have hN := HNE.out (by rw [ne_eq, HEXT.out]; rintro ⟨q0, q1, q2, q3, q4, q5, q6, q7⟩; simp [q2] at hb2)
              have HN := Lib.hid hN
              clear hN
              go_wp2
              go_quiet (fail)
              go_wp2
              go_ret
              exact ⟨ret_bool (by simp [HN.out]), hfr.drewN _⟩
            | true =>
              obtain rfl : xp = yp := by rw [beq_iff_eq, toList_eq_data, toList_eq_data] at hb2; exact ByteArray.ext (Array.toList_inj.1 hb2)
              clear hb2
              cases hb3 : (vk == zk) with
              | false =>
                have hN := HNE.out (by rw [ne_eq, HEXT.out]; rintro ⟨q0, q1, q2, q3, q4, q5, q6, q7⟩; simp [q3] at hb3)
                have HN := Lib.hid hN
                clear hN
                go_wp2
                go_quiet (fail)
                go_wp2
                go_ret
                exact ⟨ret_bool (by simp [HN.out]), hfr.drewN _⟩
              | true =>
                obtain rfl : vk = zk := by simpa using hb3
                clear hb3
                cases hb4 : (vb == zb) with
                | false =>
                  have hN := HNE.out (by rw [ne_eq, HEXT.out]; rintro ⟨q0, q1, q2, q3, q4, q5, q6, q7⟩; simp [q4] at hb4)
                  have HN := Lib.hid hN
                  clear hN
                  go_wp2
                  go_quiet (fail)
                  go_wp2
                  go_ret
                  exact ⟨ret_bool (by simp [HN.out]), hfr.drewN _⟩
                | true =>
                  obtain rfl : vb = zb := by simpa using hb4
                  clear hb4
                  cases hb5 : (vn == zn) with
                  | false =>
                    have hN := HNE.out (by rw [ne_eq, HEXT.out]; rintro ⟨q0, q1, q2, q3, q4, q5, q6, q7⟩; simp [q5] at hb5)
                    have HN := Lib.hid hN
                    clear hN
                    go_wp2
                    go_quiet (fail)
                    go_wp2
                    go_ret
                    exact ⟨ret_bool (by simp [HN.out]), hfr.drewN _⟩
                  | true =>
                    obtain rfl : vn = zn := by simpa using hb5
                    clear hb5
                    cases hb6 : (vs.toList == zs.toList) with
                    | false =>
                      have hN := HNE.out (by rw [ne_eq, HEXT.out]; rintro ⟨q0, q1, q2, q3, q4, q5, q6, q7⟩; simp [q6] at hb6)
                      have HN := Lib.hid hN
                      clear hN
                      go_wp2
                      go_quiet (fail)
                      go_wp2
                      go_ret
                      exact ⟨ret_bool (by simp [HN.out]), hfr.drewN _⟩
                    | true =>
                      obtain rfl : vs = zs := by rw [beq_iff_eq, toList_eq_data, toList_eq_data] at hb6; exact ByteArray.ext (Array.toList_inj.1 hb6)
                      clear hb6
                      cases hb7 : (vu == zu) with
                      | false =>
                        have hN := HNE.out (by rw [ne_eq, HEXT.out]; rintro ⟨q0, q1, q2, q3, q4, q5, q6, q7⟩; simp [q7] at hb7)
                        have HN := Lib.hid hN
                        clear hN
                        go_wp2
                        go_quiet (fail)
                        go_wp2
                        go_ret
                        exact ⟨ret_bool (by simp [HN.out]), hfr.drewN _⟩
                      | true =>
                        obtain rfl : vu = zu := by simpa using hb7
                        clear hb7
                        go_wp2
                        go_quiet (fail)
                        go_wp2
                        go_roundw
                        case rel => exact ⟨k + 1, by omega, by go_num, by show xs.take (k + 1) = ys.take (k + 1); rw [HT.out, HT'.out, hn.out], hfr.drewN _⟩
                        case measure => simp [intOf]; omega
      · obtain rfl : k = n := by omega
        go_wp2
        go_ret
        have : xs = ys := by
          have := hn.out
          rwa [List.take_of_length_le (by rw [HX.out]; omega), List.take_of_length_le (by rw [HY.out]; omega)] at this
        exact ⟨ret_bool (by simp [this]), hfr⟩
  · have hln : ((xs.length : Int) != (ys.length : Int)) = true := by simp; omega
    have hne : xs ≠ ys := fun e => hlen (by rw [e])
    have HNE := Lib.hid hne
    clear hne hlen
    go_enter Tryz.func58, Tryz.ntmps58
    go_wp2
    go_ret
    exact ⟨ret_bool (by simp [HNE.out]), Fr.refl _ _⟩
end Go.Proofs.YtefepfiijoafbaaGreat
