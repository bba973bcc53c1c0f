/- A list out of bytes: uids.Read. Condition: at most 2^40 bytes. -/
import Derived.Test.YtldboadcglofaaaBig
import Derived.Test.YtldboadcglofaaaAdd
namespace Go.Proofs.Ytldboadcglofaaa
open Go.RowKit Go.Shelf
attribute [local go_sem] Oper.semAt_some
set_option linter.unusedVariables false
set_option linter.unusedSimpArgs false

def lastOf (l : List Int) : Int := l.getLast?.getD 0
/-- The next number of a list, x having been read. -/
def nextOf (l : List Int) (x : Nat) : Int := if l.length % 32 = 0 then (x : Int) else ((x : Int) + lastOf l) % 18446744073709551616
/-- So many numbers more, behind l. -/
def rdMore : Nat → List Int → ByteArray → Option (List Int × ByteArray)
  | 0, l, s => some (l, s)
  | k + 1, l, s => match rd s with
    | none => none
    | some (x, t) => if nextOf l x ≤ lastOf l then none else rdMore k (l ++ [nextOf l x]) t
/-- The list that bytes say. -/
def rdList (s : ByteArray) : Option (List Int) :=
  match rd s with
  | none => none
  | some (n, t) => match rdMore n [] t with
    | none => none
    | some (l, t') => if t'.size = 0 then some l else none

theorem rd_size {s t : ByteArray} {x : Nat} (h : rd s = some (x, t)) : t.size < s.size := by
  unfold rd at h
  have hl := bts_length s
  split at h
  · cases h
  · rename_i b l hb
    split at h
    · cases h
    · rename_i hc
      simp only [Option.some.injEq, Prod.mk.injEq] at h
      rw [← h.2, size_extract _ _ _ (Nat.le_refl _)]
      rw [hb] at hl
      simp at hl
      omega

theorem rd_lt {s t : ByteArray} {x : Nat} (h : rd s = some (x, t)) : x < 18446744073709551616 := by
  unfold rd at h
  split at h
  · cases h
  · rename_i b l hb
    split at h
    · cases h
    · rename_i hc
      simp only [Option.some.injEq, Prod.mk.injEq] at h
      rw [← h.1]
      have h1 := bigOf_lt (l := l.take b) fun c hc => bts_lt s c (by rw [hb]; exact List.mem_cons_of_mem _ (List.mem_of_mem_take hc))
      have h2 : (l.take b).length ≤ 8 := by rw [List.length_take]; omega
      have h3 : 256 ^ (l.take b).length ≤ 256 ^ 8 := Nat.pow_le_pow_right (by omega) h2
      have e : (256 : Nat) ^ 8 = 18446744073709551616 := by decide
      omega

theorem last_bounds {l : List Int} (h : ∀ x ∈ l, 0 < x ∧ x < 18446744073709551616) : 0 ≤ lastOf l ∧ lastOf l < 18446744073709551616 := by
  unfold lastOf
  cases hg : l.getLast? with
  | none => simp
  | some x => have := h x (List.mem_of_getLast? hg); simp; omega

theorem sorted_snoc {l : List Int} {u la : Int} (h : l.Pairwise (· < ·)) (hl : ∀ x, l.getLast? = some x → x = la) (hu : ¬ u ≤ la) : (l ++ [u]).Pairwise (· < ·) := by
  rw [List.pairwise_append]
  refine ⟨h, List.pairwise_singleton _ _, fun a ha b hb => ?_⟩
  simp at hb
  subst hb
  rcases List.eq_nil_or_concat l with rfl | ⟨p, y, rfl⟩
  · simp at ha
  · rw [List.concat_eq_append] at ha h hl
    have h1 := hl y (by simp)
    rcases List.mem_append.1 ha with h2 | h2
    · have := (List.pairwise_append.1 h).2.2 a h2 y (by simp); omega
    · simp at h2; omega

def readPost (w : World) (r : Option (List Int)) (e : Ending) (w' : World) : Prop :=
  match r with
  | some l => ∃ B, e = .returned (.tuple #[.pointer (some ⟨B, 0, none⟩), .int .i64 0]) ∧ IsL w' w'.heap.size (some ⟨B, 0, none⟩) l
  | none => e = .returned (.tuple #[.pointer none, .int .i64 160])

set_option maxHeartbeats 2000000 in
set_option maxRecDepth 100000 in
theorem read_any (s : ByteArray) (hs : s.size ≤ 1099511627776) (w : World) :
    Calls Try.prog 21 #[.string s] w fun e w' => readPost w (rdList s) e w' ∧ Fr N0 w w' := by
  have hc := readNum_any s w
  cases hrd : rd s with
  | none =>
    rw [hrd] at hc
    have hnone : rdList s = none := by unfold rdList; rw [hrd]
    have HN := Lib.hid hnone
    clear hnone hrd
    go_enter Try.func21, Try.ntmps21
    go_wp2_with (go_at_call 45; refine hc.mono ?_; rintro e w' ⟨⟨er, her, rfl⟩, m, rfl⟩)
    have her' : (er == 0) = false := by simpa using her
    have hf0 : Fr N0 w ((w.drewN m).alloc (.cells #[.slice none 0 0, .int .i64 0] 70)) := ((Fr.refl _ _).drewN _).alloc _
    go_loopw [0, 5, 7, 8] (fun sv ev lv iv W => sv = .string ByteArray.empty ∧ ev = .int .i64 er ∧ lv = .int .u64 0 ∧ iv = .int .u64 0 ∧ Fr N0 w W) (fun _ _ _ _ _ => 0)
    case atStart => exact ⟨rfl, rfl, rfl, rfl, hf0⟩
    case round =>
      obtain ⟨rfl, rfl, rfl, rfl, hf⟩ := hrel
      have HF := Lib.hid hf
      clear hf0 hf
      go_wp2
      go_ret2
      exact ⟨by rw [HN.out]; rfl, HF.out⟩
  | some p =>
    obtain ⟨n, t⟩ := p
    rw [hrd] at hc
    go_enter Try.func21, Try.ntmps21
    go_wp2_with (go_at_call 45; refine hc.mono ?_; rintro e w' ⟨h1, m, rfl⟩; obtain rfl := (show e = _ from h1))
    obtain ⟨W0, hW0⟩ : ∃ W0, (w.drewN m).alloc (.cells #[.slice none 0 0, .int .i64 0] 70) = W0 := ⟨_, rfl⟩
    rw [hW0]
    have hf0 : Fr N0 w W0 := by rw [← hW0]; exact ((Fr.refl _ _).drewN _).alloc _
    have hz0 : W0.heap.size = w.heap.size + 1 := by rw [← hW0]; simp [World.drewN]
    have hb0 : W0.heap[w.heap.size]? = some (.cells #[.slice none 0 0, .int .i64 0] 70 (0, 0)) := by rw [← hW0]; exact World.alloc_heap_new (w.drewN m) _
    clear hW0 hc
    have ht := rd_size hrd
    have hn := rd_lt hrd
    go_loopw [0, 5, 7, 8] (fun sv ev lv iv W => ∃ (k : Nat) (l : List Int) (r : ByteArray) (S : Nat → Prop) (vb : Value) (bl : List Blk), sv = .string r ∧ ev = .int .i64 0 ∧ lv = .int .u64 (lastOf l) ∧ iv = .int .u64 (k : Int) ∧
        k ≤ n ∧ l.length = k ∧ k + r.size ≤ 1099511627776 ∧ Hid (rdMore (n - k) l r = rdMore n [] t) ∧ Hid (uidsOf bl = l) ∧ l.Pairwise (· < ·) ∧ (∀ x ∈ l, 0 < x ∧ x < 18446744073709551616) ∧
        OwnL W S w.heap.size vb bl ∧ (∀ q, S q → w.heap.size ≤ q ∧ q < W.heap.size) ∧ Fr N0 w W) (fun _ _ _ iv _ => n - (intOf iv).toNat)
    case atStart =>
      refine ⟨0, [], t, fun q => q = w.heap.size, .slice none 0 0, [], rfl, rfl, rfl, rfl, Nat.zero_le _, rfl, by omega, rfl, rfl, List.Pairwise.nil, by simp, ?_, fun q hq => by omega, hf0⟩
      exact ⟨rfl, hb0, World.ownsRow_nil _ _ _ _, by simp [Value.ownBlock], by simp, by simp, by simp⟩
    case round =>
      rename World => W1
      obtain ⟨k, l, r, S, vb, bl, rfl, rfl, rfl, rfl, hk, hlk, hsz, hrm, hul, hls, hlp, hown, hS, hfr⟩ := hrel
      have hla0 : 0 ≤ lastOf l ∧ lastOf l < 18446744073709551616 := last_bounds hlp
      have hlast : ∀ x, l.getLast? = some x → x = lastOf l := fun x hx => by simp [lastOf, hx]
      by_cases hkn : k < n
      · obtain ⟨j, hj⟩ : ∃ j, n - k = j + 1 := ⟨n - k - 1, by omega⟩
        rw [hj] at hrm
        have hrm' := hrm.out
        rw [rdMore] at hrm'
        have hki : (k : Int) < (n : Int) := by omega
        have hcall := readNum_any r W1
        obtain ⟨la, hla⟩ : ∃ la, lastOf l = la := ⟨_, rfl⟩
        cases hr : rd r with
        | none =>
          rw [hr] at hrm' hcall
          have hnone : rdList s = none := by unfold rdList; rw [hrd]; simp only [← hrm']
          rw [hla] at hla0 ⊢
          obtain ⟨hl0, hl1⟩ := hla0
          have HN := Lib.hid hnone; have HF := Lib.hid hfr
          clear hrm hrm' hnone hlast hown hls hlp hul hS hfr hrd
          cases h32 : ((k : Int) % 32 != 0) with
          | true =>
            go_wp2_with (go_at_call 45; refine hcall.mono ?_; rintro e w' ⟨⟨er, her, rfl⟩, m2, rfl⟩)
            go_ret2
            exact ⟨by rw [HN.out]; rfl, HF.out.drewN _⟩
          | false =>
            go_wp2_with (go_at_call 45; refine hcall.mono ?_; rintro e w' ⟨⟨er, her, rfl⟩, m2, rfl⟩)
            go_ret2
            exact ⟨by rw [HN.out]; rfl, HF.out.drewN _⟩
        | some q =>
          obtain ⟨x, r'⟩ := q
          rw [hr] at hrm' hcall
          have hx := rd_lt hr
          have hr' := rd_size hr
          obtain ⟨u, hu⟩ : ∃ u, nextOf l x = u := ⟨_, rfl⟩
          have hub : 0 ≤ u ∧ u < 18446744073709551616 := by rw [← hu]; unfold nextOf; split <;> omega
          simp only [hu] at hrm'
          rw [hla] at hla0 hlast hrm' ⊢
          have hun : nextOf l x = if l.length % 32 = 0 then (x : Int) else ((x : Int) + la) % 18446744073709551616 := by unfold nextOf; rw [hla]
          rw [hu, hlk] at hun
          have hx1 : (x : Int) ≤ 18446744073709551615 := by omega
          have hstep : (u ≤ la → rdList s = none) := by
            intro hle
            rw [if_pos hle] at hrm'
            unfold rdList; rw [hrd]; simp only [← hrm']
          have hadd := fun W' (hs : SameOn S W1 W') (hz : W1.heap.size ≤ W'.heap.size) (hlt : ¬ u ≤ la) => add_any W' S w.heap.size vb bl u la (hown.same hs) (fun q hq => by have := (hS q hq).2; omega)
            (by rw [hul.out]; omega) (by rw [hul.out]; exact hlast) hla0.1 (by omega) (by omega)
          have hgo : ¬ u ≤ la → rdMore j (l ++ [u]) r' = rdMore n [] t := fun hlt => by rw [if_neg hlt] at hrm'; exact hrm'
          have HGO := Lib.hid hgo; have HADD := Lib.hid hadd; have HST := Lib.hid hstep; have HF := Lib.hid hfr; have HLS := Lib.hid hls; have HLP := Lib.hid hlp; have HL := Lib.hid hlast; have HSS := Lib.hid hS
          have hlen1 : (uidsOf bl).length = k := by rw [hul.out]; exact hlk
          obtain ⟨hl0, hl1⟩ := hla0
          obtain ⟨hu0, hu1⟩ := hub
          clear hrm hrm' hown hfr hls hlp hlast hS hgo hadd hstep hrd hr hu hf0 hz0 hb0
          cases h32 : ((k : Int) % 32 != 0) with
          | true =>
            have huw : IntKind.u64.wrap ((x : Int) + la) = u := by
              rw [IntKind.wrap_u64, hun, if_neg]
              simp at h32; omega
            clear hun
            by_cases hle : u ≤ la
            · have HN := Lib.hid (HST.out hle)
              go_wp2_with (go_at_call 45; refine hcall.mono ?_; rintro e w' ⟨h1, m2, rfl⟩; obtain rfl := (show e = _ from h1))
              go_ret2
              exact ⟨by rw [HN.out]; rfl, HF.out.drewN _⟩
            · go_wp2_with (first
                | (go_at_call 45; refine hcall.mono ?_; rintro e w' ⟨h1, m2, rfl⟩; obtain rfl := (show e = _ from h1))
                | (go_at_call 46; refine (HADD.out (W1.drewN m2) ⟨rfl, rfl, rfl, Nat.le_refl _, fun _ _ _ => rfl⟩ (Nat.le_refl _) hle).mono ?_; rintro e w2 ⟨rfl, S', vb', bl', ho', hu', hf', hg'⟩))
              go_roundw
              case rel =>
                have hsz2 := hf'.size
                refine ⟨k + 1, l ++ [u], r', S', vb', bl', rfl, rfl, by simp [lastOf], by go_num, by omega, by simp [hlk], by omega, ?_, by rw [Hid, hu', hul.out], ?_, ?_, ho', ?_, ?_⟩
                · show rdMore (n - (k + 1)) (l ++ [u]) r' = rdMore n [] t
                  rw [show n - (k + 1) = j by omega]; exact HGO.out hle
                · exact sorted_snoc HLS.out HL.out (by omega)
                · intro y hy
                  rcases List.mem_append.1 hy with h | h
                  · exact HLP.out y h
                  · simp at h; omega
                · intro q hq
                  have := hg' q hq
                  refine ⟨?_, this.2⟩
                  rcases this.1 with h | h
                  · exact (HSS.out q h).1
                  · have := HF.out.size; simp [World.drewN] at h; omega
                · exact (HF.out.drewN _).trans hf' fun q hq => .inr (HSS.out q hq).1
              case measure => simp [intOf]; omega
          | false =>
            have huw : (x : Int) = u := by
              rw [hun, if_pos]
              simp at h32; omega
            clear hun
            subst huw
            have HX1 := Lib.hid hx1
            clear hx hx1 hu0 hu1
            by_cases hle : (x : Int) ≤ la
            · have HN := Lib.hid (HST.out hle)
              go_wp2_with (go_at_call 45; refine hcall.mono ?_; rintro e w' ⟨h1, m2, rfl⟩; obtain rfl := (show e = _ from h1))
              go_ret2
              exact ⟨by rw [HN.out]; rfl, HF.out.drewN _⟩
            · go_wp2_with (first
                | (go_at_call 45; refine hcall.mono ?_; rintro e w' ⟨h1, m2, rfl⟩; obtain rfl := (show e = _ from h1))
                | (go_at_call 46; refine (HADD.out (W1.drewN m2) ⟨rfl, rfl, rfl, Nat.le_refl _, fun _ _ _ => rfl⟩ (Nat.le_refl _) hle).mono ?_; rintro e w2 ⟨rfl, S', vb', bl', ho', hu', hf', hg'⟩))
              go_roundw
              case rel =>
                have hsz2 := hf'.size
                refine ⟨k + 1, l ++ [(x : Int)], r', S', vb', bl', rfl, rfl, by simp [lastOf], by go_num, by omega, by simp [hlk], by omega, ?_, by rw [Hid, hu', hul.out], ?_, ?_, ho', ?_, ?_⟩
                · show rdMore (n - (k + 1)) (l ++ [(x : Int)]) r' = rdMore n [] t
                  rw [show n - (k + 1) = j by omega]; exact HGO.out hle
                · exact sorted_snoc HLS.out HL.out (by omega)
                · intro y hy
                  rcases List.mem_append.1 hy with h | h
                  · exact HLP.out y h
                  · simp at h; have := HX1.out; omega
                · intro q hq
                  have := hg' q hq
                  refine ⟨?_, this.2⟩
                  rcases this.1 with h | h
                  · exact (HSS.out q h).1
                  · have := HF.out.size; simp [World.drewN] at h; omega
                · exact (HF.out.drewN _).trans hf' fun q hq => .inr (HSS.out q hq).1
              case measure => simp [intOf]; omega
      · obtain rfl : k = n := by omega
        have hrm' := hrm.out
        rw [Nat.sub_self, rdMore] at hrm'
        cases hemp : r.toList.isEmpty with
        | true =>
          have hz : r.size = 0 := by rw [empty_of] at hemp; simpa using hemp
          have hl : rdList s = some l := by unfold rdList; rw [hrd]; simp only [← hrm', hz, if_true]
          have HL := Lib.hid hl
          have hlist := hown.isLb (by rw [hul.out]; omega) (by rw [hul.out]; exact hls) (by rw [hul.out]; exact hlp)
          rw [hul.out] at hlist
          have HI := Lib.hid hlist; have HF := Lib.hid hfr
          clear hl hlist hrm hrm' hown hfr hls hlp hlast hrd hS
          go_wp2
          go_ret2
          exact ⟨by rw [HL.out]; exact ⟨_, rfl, HI.out⟩, HF.out⟩
        | false =>
          have hz : ¬ r.size = 0 := by rw [empty_of] at hemp; simpa using hemp
          have hl : rdList s = none := by unfold rdList; rw [hrd]; simp only [← hrm', hz, if_false]
          have HL := Lib.hid hl; have HF := Lib.hid hfr
          clear hl hrm hrm' hown hfr hls hlp hlast hrd hS hz
          go_wp2
          go_ret2
          exact ⟨by rw [HL.out]; rfl, HF.out⟩

end Go.Proofs.Ytldboadcglofaaa
