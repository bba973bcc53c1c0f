/- The walk of UidsBytes. -/
import Derived.Test.YtldboadcglofaaaAlive
import Derived.Test.YtldboadcglofaaaCodeLaw
import Derived.Test.YtldboadcglofaaaRRead
import Derived.Test.YtldboadcglofaaaRBytes
import Derived.Test.YtldboadcglofaaaRefOf
import Derived.Test.YtldboadcglofaaaSame
namespace Go.Proofs.Ytldboadcglofaaa
open Go.RowKit Go.Shelf
attribute [local go_sem] Oper.semAt_some
set_option linter.unusedVariables false
set_option linter.unusedSimpArgs false

theorem tailN_le (l : List Int) : ∀ k i, k ≤ (tailN l k i).length
  | 0, _ => Nat.zero_le _
  | k + 1, i => by
    have := tailN_le l k (i + 1)
    simp only [tailN, numN, List.length_append, List.length_cons]; omega

theorem rdList_length {s : ByteArray} {l : List Int} (h : rdList s = some l) : l.length ≤ s.size := by
  unfold rdList at h
  split at h
  · cases h
  · rename_i n t hrd
    split at h
    · cases h
    · rename_i r t' hm
      split at h
      · simp only [Option.some.injEq] at h
        subst h
        obtain ⟨h1, h2, _, _⟩ := rdMore_back n [] t r t' hm (by simp)
        have hs := rd_size hrd
        have h3 := tailN_le r n 0
        have h4 := bts_length t
        rw [h1, List.length_append, List.length_nil] at h4
        simp only [List.length_nil] at h2
        omega
      · cases h

theorem norm_pos {X : List Int} (h : ∀ x ∈ X, (Lit.int .u64 x).wf = true) : ∀ x ∈ norm X, 0 < x ∧ x < 18446744073709551616 := fun x hx => by
  obtain ⟨h1, h2⟩ := (norm_mem X x).1 hx
  have := bounds_u64 (h x h1)
  omega

theorem ubytes_at {w1 : World} {p : Option Addr} {N : List Int} {BS : ByteArray} (h : IsL w1 w1.heap.size p N) (hl : N.length ≤ 16384) (hb : strOfNums (bytesOf N) = BS) :
    ∀ W, Fr N0 w1 W → Calls Try.prog 23 #[.pointer p] W fun e w' => e = .returned (.string BS) ∧ Fr N0 W w' := fun W hW => by
  rw [← hb]; exact bytes_any W w1.heap.size p N (h.below hW.below0 (Nat.le_refl _)) hW.size (by omega)
theorem rbytes_at {w1 : World} {b : Nat} {v : Value} {N : List Int} {BS : ByteArray} (h : Ints .u64 w1 b v N) (hl : N.length ≤ 16384) (hs : N.Pairwise (· < ·)) (hp : ∀ x ∈ N, 0 < x ∧ x < 18446744073709551616) (hb : strOfNums (bytesOf N) = BS) :
    ∀ W, Fr N0 w1 W → Calls Try.prog 24 #[v] W fun e w' => e = .returned (.string BS) ∧ Fr N0 W w' := fun W hW => by
  rw [← hb]; exact rbytes_any W b v N (h.fr0 hW) (by omega) hs hp
theorem slicec_at {w1 : World} {p : Option Addr} {N : List Int} (h : IsL w1 w1.heap.size p N) (hl : N.length ≤ 16384) :
    ∀ W, Fr N0 w1 W → Calls Try.prog 15 #[.pointer p] W fun e w' => ∃ v, e = .returned v ∧ (∃ b, Ints .u64 w' b v N) ∧ Fr N0 W w' := fun W hW => by
  have hw : ∀ x ∈ N, (Lit.int .u64 x).wf = true := fun x hx => by
    obtain ⟨_, _, _, _, h4, _⟩ := h; have := h4 x hx; exact WalkArith.wf_u64 (by omega)
  exact (slicec_any W w1.heap.size p N (h.below hW.below0 (Nat.le_refl _)) hW.size (by omega)).mono fun e w' ⟨v, h1, h2, h3⟩ => ⟨v, h1, h2.ints hw, h3⟩
theorem isL_nil (w : World) (n : Nat) : IsL w n none [] := ⟨[], .inl ⟨rfl, rfl⟩, rfl, List.Pairwise.nil, by simp, by simp⟩
theorem same_true {w : World} {b c : Nat} {v z : Value} {xs : List Int} (h : Ints .u64 w b v xs) (h' : Ints .u64 w c z xs) :
    Calls Try.prog 13 #[v, z] w fun e w' => e = .returned (.bool true) ∧ Fr N0 w w' := by
  have := same_any w b c v z xs xs h h'
  simpa using this
theorem usame_true {w w1 : World} {n : Nat} {p q : Option Addr} {l : List Int} (h : IsL w1 w1.heap.size q l) (h' : IsL w w.heap.size p l) (hf : Fr N0 w1 w) (hl : l.length ≤ 16384) :
    Calls Try.prog 25 #[.pointer p, .pointer q] w fun e w' => e = .returned (.bool true) ∧ Fr N0 w w' := by
  have := usame_any w w.heap.size w1.heap.size p q l l h' (h.below hf.below0 (Nat.le_refl _)) (Nat.le_refl _) hf.size (by omega) (by omega)
  simpa using this

set_option maxHeartbeats 1000000 in
set_option maxRecDepth 100000 in
theorem ubytes_any (w : World) (b : Nat) (v : Value) (X : List Int) (h : Ints .u64 w b v X) (s : ByteArray) (hss : s.size ≤ 9223372036854775807) :
    Calls Try.prog 4 #[v, .string s] w fun e w' => e = .returned (.bool true) ∧ Fr N0 w w' := by
  have hI := h
  obtain ⟨a, off, cap, rfl, h1, h2, h3, h4, h5, h6⟩ := h
  clear h1 h2 h3 h4 h5 h6
  by_cases hbig : 300 < X.length ∨ 16384 < s.size
  · clear hI
    by_cases hb1 : (300 : Int) < (X.length : Int)
    · go_enter Try.func4, Try.ntmps4
      go_wp2_with (go_at_call 8; refine (alive_any _).mono ?_; rintro e w1 ⟨rfl, hf1⟩)
      go_ret
      exact ⟨rfl, hf1⟩
    · have hb2 : (16384 : Int) < (s.size : Int) := by omega
      go_enter Try.func4, Try.ntmps4
      go_wp2_with (go_at_call 8; refine (alive_any _).mono ?_; rintro e w1 ⟨rfl, hf1⟩)
      go_ret
      exact ⟨rfl, hf1⟩
  · have hb1 : ¬ (300 : Int) < (X.length : Int) := by omega
    have hb2 : ¬ (16384 : Int) < (s.size : Int) := by omega
    have hX : X.length ≤ 300 := by omega
    have hs : s.size ≤ 16384 := by omega
    have hwfX := hI.wf
    have hof := ofTop_any sort_any w b _ X hI (by omega)
    have hrof := fun W (hW : Fr N0 w W) => rof_any W b _ X (hI.fr0 hW) (by omega)
    obtain ⟨N, hN⟩ : ∃ N, norm X = N := ⟨_, rfl⟩
    have hnl : N.length ≤ 300 := by rw [← hN]; exact Nat.le_trans (norm_length X) hX
    have hwx := norm_wf (xs := X) hwfX
    have hpx := norm_pos hwfX
    rw [hN] at hof hwx hpx
    simp only [hN] at hrof
    obtain ⟨BS, hBS⟩ : ∃ BS, strOfNums (bytesOf N) = BS := ⟨_, rfl⟩
    have hns : N.Pairwise (· < ·) := by rw [← hN]; exact norm_sorted X
    have hrb := rdList_bytes hns hpx (by omega)
    rw [hBS] at hrb
    have hbsz : BS.size ≤ 1099511627776 := by
      have := preOf_length N N.length (stepOf_lt hpx) (by omega)
      rw [← hBS, strOfNums_size, bytesOf]; omega
    have hread2 := fun W => read_any BS hbsz W
    simp only [hrb, readPost] at hread2
    have HBS := Lib.hid hBS; have HNS := Lib.hid hns; have HRD2 := Lib.hid hread2
    have HOF := Lib.hid hof; have HROF := Lib.hid hrof; have HWX := Lib.hid hwx; have HPX := Lib.hid hpx
    have hread := fun W => read_any s (by omega) W
    have hrread := fun W => rread_any s (by omega) W
    clear hof hrof hwx hpx hN hwfX hI hbig hss hBS hns hrb hbsz hread2
    cases hz : rdList s with
    | none =>
      simp only [hz, readPost, rreadPost] at hread hrread
      have HRD := Lib.hid hread; have HRR := Lib.hid hrread
      clear hread hrread hz
      go_enter Try.func4, Try.ntmps4
      go_wp2_with (first
        | (go_at_call 9; refine HOF.out.mono ?_; rintro e w1 ⟨B, rfl, hl1, hf1⟩; have HBY := Lib.hid (ubytes_at hl1 (by omega) HBS.out); have HL1 := Lib.hid hl1; have hk := Fr.refl N0 w1)
        | (go_at_call 10; refine (HROF.out _ hf1).mono ?_; rintro e w2 ⟨v2, rfl, hr2, hf2⟩; obtain ⟨b2, hi2⟩ := row_ints hr2 HWX.out; have HRBY := Lib.hid (rbytes_at hi2 (by omega) HNS.out HPX.out HBS.out); have hk := hf2; have hm := Fr.refl N0 w2)
        | (go_at_call 21; have hq := hrbd; refine (HRD2.out _).mono ?_; rintro e w10 ⟨⟨B2, rfl, hl10⟩, hf10⟩; have hk := hk.then0 hf10; have hm := hm.then0 hf10)
        | (go_at_call 21; refine (HRD.out _).mono ?_; rintro e w3 ⟨rfl, hf3⟩; have HSX := Lib.hid (slicec_at (isL_nil w3 _) (Nat.zero_le _)); have hk := hk.then0 hf3; have hm := hm.then0 hf3; have hn := Fr.refl N0 w3)
        | (go_at_call 22; refine (HRR.out _).mono ?_; rintro e w4 ⟨rfl, hf4⟩; have hi4 := Ints.nil .u64 w4 0; have hk := hk.then0 hf4; have hm := hm.then0 hf4; have hn := hn.then0 hf4; have ho := Fr.refl N0 w4)
        | (go_at_call 23; go_loud (refine (HBY.out _ hk).mono ?_); rintro e w5 ⟨rfl, hf5⟩; have hk := hk.then0 hf5; have hm := hm.then0 hf5; have hn := hn.then0 hf5; have ho := ho.then0 hf5)
        | (go_at_call 24; go_loud (refine (HRBY.out _ hm).mono ?_); rintro e w6 ⟨rfl, hf6⟩; have hk := hk.then0 hf6; have hm := hm.then0 hf6; have hn := hn.then0 hf6; have ho := ho.then0 hf6; have hrbd := hf6)
        | (go_at_call 15; go_loud (refine (HSX.out _ hn).mono ?_); rintro e w7 ⟨v7, rfl, ⟨b7, hi7⟩, hf7⟩; have hk := hk.then0 hf7; have hm := hm.then0 hf7; have hn := hn.then0 hf7; have ho := ho.then0 hf7)
        | (go_at_call 13; go_loud (refine (same_true hi7 (hi4.fr0 ho)).mono ?_); rintro e w8 ⟨rfl, hf8⟩; have hk := hk.then0 hf8; have hm := hm.then0 hf8; have hn := hn.then0 hf8; have ho := ho.then0 hf8)
        | (go_at_call 25; go_loud (refine (usame_true (n := 0) HL1.out hl10 hk (by omega)).mono ?_); rintro e w11 ⟨rfl, hf11⟩; have hk := hk.then0 hf11; have hn := (hn.then0 hf10).then0 hf11; have hsame := hf11)
        | (go_at_call 8; go_loud (refine (alive_any _).mono ?_); rintro e w13 ⟨rfl, hf13⟩; have hk := hk.then0 hf13))
      go_ret
      exact ⟨rfl, hf1.then0 hk⟩
    | some z =>
      have hzl : z.length ≤ 16384 := Nat.le_trans (rdList_length hz) hs
      have hzs := bytes_rdList hz
      simp only [hz, readPost, rreadPost] at hread hrread
      have HRD := Lib.hid hread; have HRR := Lib.hid hrread; have HZS := Lib.hid hzs
      clear hread hrread hz hzs
      go_enter Try.func4, Try.ntmps4
      go_wp2_with (first
        | (go_at_call 9; refine HOF.out.mono ?_; rintro e w1 ⟨B, rfl, hl1, hf1⟩; have HBY := Lib.hid (ubytes_at hl1 (by omega) HBS.out); have HL1 := Lib.hid hl1; have hk := Fr.refl N0 w1)
        | (go_at_call 10; refine (HROF.out _ hf1).mono ?_; rintro e w2 ⟨v2, rfl, hr2, hf2⟩; obtain ⟨b2, hi2⟩ := row_ints hr2 HWX.out; have HRBY := Lib.hid (rbytes_at hi2 (by omega) HNS.out HPX.out HBS.out); have hk := hf2; have hm := Fr.refl N0 w2)
        | (go_at_call 21; have hq := hrbd; refine (HRD2.out _).mono ?_; rintro e w10 ⟨⟨B2, rfl, hl10⟩, hf10⟩; have hk := hk.then0 hf10; have hm := hm.then0 hf10)
        | (go_at_call 21; refine (HRD.out _).mono ?_; rintro e w3 ⟨⟨B3, rfl, hl3⟩, hf3⟩; have HSX := Lib.hid (slicec_at hl3 hzl); have HBX := Lib.hid (ubytes_at hl3 hzl HZS.out); have hk := hk.then0 hf3; have hm := hm.then0 hf3; have hn := Fr.refl N0 w3)
        | (go_at_call 22; refine (HRR.out _).mono ?_; rintro e w4 ⟨⟨v4, rfl, ⟨b4, hi4⟩⟩, hf4⟩; have hk := hk.then0 hf4; have hm := hm.then0 hf4; have hn := hn.then0 hf4; have ho := Fr.refl N0 w4)
        | (go_at_call 23; have hq := hsame; go_loud (refine (HBX.out _ hn).mono ?_); rintro e w12 ⟨rfl, hf12⟩; have hk := hk.then0 hf12)
        | (go_at_call 23; go_loud (refine (HBY.out _ hk).mono ?_); rintro e w5 ⟨rfl, hf5⟩; have hk := hk.then0 hf5; have hm := hm.then0 hf5; have hn := hn.then0 hf5; have ho := ho.then0 hf5)
        | (go_at_call 24; go_loud (refine (HRBY.out _ hm).mono ?_); rintro e w6 ⟨rfl, hf6⟩; have hk := hk.then0 hf6; have hm := hm.then0 hf6; have hn := hn.then0 hf6; have ho := ho.then0 hf6; have hrbd := hf6)
        | (go_at_call 15; go_loud (refine (HSX.out _ hn).mono ?_); rintro e w7 ⟨v7, rfl, ⟨b7, hi7⟩, hf7⟩; have hk := hk.then0 hf7; have hm := hm.then0 hf7; have hn := hn.then0 hf7; have ho := ho.then0 hf7)
        | (go_at_call 13; go_loud (refine (same_true hi7 (hi4.fr0 ho)).mono ?_); rintro e w8 ⟨rfl, hf8⟩; have hk := hk.then0 hf8; have hm := hm.then0 hf8; have hn := hn.then0 hf8; have ho := ho.then0 hf8)
        | (go_at_call 25; go_loud (refine (usame_true (n := 0) HL1.out hl10 hk (by omega)).mono ?_); rintro e w11 ⟨rfl, hf11⟩; have hk := hk.then0 hf11; have hn := (hn.then0 hf10).then0 hf11; have hsame := hf11)
        | (go_at_call 8; go_loud (refine (alive_any _).mono ?_); rintro e w13 ⟨rfl, hf13⟩; have hk := hk.then0 hf13))
      go_ret
      exact ⟨rfl, hf1.then0 hk⟩

end Go.Proofs.Ytldboadcglofaaa
