/- uids.those, And, Or, Not. Conditions: fewer than 2^40 lists, each of at most 2^44 uids. -/
import Derived.Test.YtldboadcglofaaaCounted
import Derived.Test.YtldboadcglofaaaSeek
namespace Go.Proofs.Ytldboadcglofaaa
open Go.RowKit Go.Shelf
attribute [local go_sem] Oper.semAt_some
set_option linter.unusedVariables false
set_option linter.unusedSimpArgs false

theorem yield_in {P : Program} {l : Nat} {args : Array Value} {W : World} {R : Ending → World → Prop} (l' m : Nat) (h : YieldAt Fence.wide 7 P l args W R) : YieldAt (Fence.wide.inRound l') m P l args W R := by
  obtain ⟨fn, tmps, assign, body, hy, h1, h2⟩ := h
  exact ⟨fn, tmps, assign, body, hy, h1, fun c cs _ => h2 c cs (room_wide _)⟩

set_option maxRecDepth 100000 in
set_option maxHeartbeats 1000000 in
theorem counted_any (v : Value) (w : World) (a : Option Addr) (n cap : Nat) (hv : v = .slice a n cap) :
    Calls Try.prog 65 #[v] w fun e w' => e = .returned (.func (.func 77) #[] #[.pointer (some ⟨w.heap.size, 0, none⟩)]) ∧ w.alloc (.cells #[v] 52) = w' := by
  subst hv
  go_enter Try.func65, Try.ntmps65
  go_wp2
  go_ret
  exact ⟨rfl, rfl⟩

/-- What a want closure says. -/
def WantSaid (fw : Value) (want : Nat → Bool) (Rw : Nat → Prop) (w : World) : Prop :=
  ∃ gw lbw, fw = .func (.func gw) #[] lbw ∧ (∀ args w, (callFunc gw args).run Try.prog w = .ok (.enter gw args) w) ∧ ∀ W, SameOn Rw w W → ∀ c : Nat, c < 1099511627776 → Calls Try.prog gw (#[.int .i64 (c : Int)] ++ lbw) W fun e w' => e = .returned (.bool (want c)) ∧ W = w'

theorem cnt0_le (Ls : List (List Int)) (x : Int) : cnt0 Ls x ≤ Ls.length := List.countP_le_length

/-- The uids that so many of the lists have. -/
def thoseOf (Ls : List (List Int)) (want : Nat → Bool) : List Int := ((pairsOf Ls).filter fun p => want p.2).map (·.1)

set_option maxRecDepth 100000 in
set_option maxHeartbeats 1000000 in
theorem those1_seq (w : World) (n Bl Bw lb : Nat) (vl fw : Value) (ps : List (Option Addr)) (Ls : List (List Int)) (want : Nat → Bool) (Rw : Nat → Prop) (hB : w.heap[Bl]? = some (.cells #[vl] 52 (0, 0))) (hBw : w.heap[Bw]? = some (.cells #[fw] 82 (0, 0)))
    (hW : WantSaid fw want Rw w) (hRw : ∀ k, Rw k → k < w.heap.size) (hP : PtrsAt w lb vl ps) (hlb : 0 < ps.length → lb < n) (hn : n ≤ w.heap.size)
    (hlen : ps.length = Ls.length) (hL : ∀ i (h : i < ps.length) (h' : i < Ls.length), IsL w n ps[i] Ls[i]) (hsz : Ls.length < 1099511627776) (hLl : ∀ L ∈ Ls, L.length ≤ 17592186044416) (hpos : ∀ L ∈ Ls, ∀ x ∈ L, 0 < x) :
    SeqOf Try.prog 64 #[.pointer (some ⟨Bl, 0, none⟩), .pointer (some ⟨Bw, 0, none⟩)] enc1 (fun k => k < n ∨ k = Bl ∨ k = Bw ∨ Rw k) (thoseOf Ls want) w := by
  intro l J Jx S W hWW hS hJ hJx hY h0
  obtain ⟨gw, lbw, rfl, heg, hwant⟩ := hW
  have hb : Below n w W := hWW.below (fun _ h => .inl h) hn
  have hBl1 := lt_of_block hB; have hBw1 := lt_of_block hBw
  have hBW := (hWW.block _ (.inr (.inl rfl)) hBl1).trans hB
  have hBwW := (hWW.block _ (.inr (.inr (.inl rfl))) hBw1).trans hBw
  obtain ⟨a, off, cap, rfl, p1, p2, p3, p4⟩ := hP
  obtain ⟨W1, hW1⟩ : ∃ W1, W.alloc (.cells #[.func (.yield l) #[] #[]] 34) = W1 := ⟨_, rfl⟩
  obtain ⟨W2, hW2⟩ : ∃ W2, W1.alloc (.cells #[.slice a ps.length cap] 52) = W2 := ⟨_, rfl⟩
  have hz1 : W1.heap.size = W.heap.size + 1 := by rw [← hW1]; simp
  have hz2 : W2.heap.size = W.heap.size + 2 := by rw [← hW2]; simp [hz1]
  have hf1 : Fr N0 W W1 := by rw [← hW1]; exact (Fr.refl _ _).alloc _
  have hf2 : Fr N0 W W2 := by rw [← hW2]; exact hf1.alloc _
  have hy2 : W2.heap[W.heap.size]? = some (.cells #[.func (.yield l) #[] #[]] 34 (0, 0)) := by
    rw [← hW2, Below.heap_alloc _ _ _ (by omega), ← hW1]; exact World.alloc_heap_new _ _
  have hn2 : W2.heap[W.heap.size + 1]? = some (.cells #[.slice a ps.length cap] 52 (0, 0)) := by
    rw [← hW2, ← hz1]; exact World.alloc_heap_new _ _
  have hcl1 := hf1.cell id (cell_of_one hBW)
  have hb2 : Below n w W2 := ⟨hf2.os.trans hb.os, hf2.tape.trans hb.tape, hf2.output.trans hb.output, Nat.le_trans hb.size hf2.size, fun k hk => (hf2.at id (by have := hb.size; omega)).trans (hb.block k hk)⟩
  have hseq := counted1_seq W2 n (W.heap.size + 1) lb _ ps Ls hn2 ⟨a, off, cap, rfl, p1, p2, p3, fun i h => (hb2.cell (p := ⟨lb, off + i, none⟩) (hlb (by omega))).trans (p4 i h)⟩ hlb (by have := hb.size; omega) hlen
    (fun i h h' => (hL i h h').below hb2 (Nat.le_refl _)) hsz hLl hpos (fun k => (k < n ∨ k = Bl ∨ k = Bw ∨ Rw k) ∨ k = W.heap.size ∨ k = W.heap.size + 1) (fun k hk => hk.elim (fun h => .inl (.inl h)) fun h => .inr (.inr h))
    (fun k hk => by
      have := hb.size
      rcases hk with (h | h | h | h) | h | h
      · omega
      · omega
      · omega
      · have := hRw k h; omega
      · omega
      · omega)
  have hcle : ∀ p ∈ pairsOf Ls, p.2 < 1099511627776 := fun p hp => by
    obtain ⟨x, _, rfl⟩ := List.mem_map.1 hp
    have := cnt0_le Ls x; simp only; omega
  have HSEQ := Lib.hid hseq; have HY := Lib.hid hY; have HJ := Lib.hid hJ; have HJx := Lib.hid hJx; have HS := Lib.hid hS; have H0 := Lib.hid h0; have HW := Lib.hid hwant; have HWW := Lib.hid hWW; have HRW := Lib.hid hRw; have HCL := Lib.hid hcle; have HN := Lib.hid hn
  clear hseq hY hJ hJx hS h0 hwant hWW hRw hcle hL hLl hpos p4 p3 hb2 hB hBw hBW hb hn2 hlb hn hlen hsz
  refine (callsIn_wide (n := 8)).1 ?_
  refine callsIn_of_wp_marks Try.func64 rfl trivial ?_ rfl
  simp only [Try.ntmps64, List.size_toArray, List.length_cons, List.length_nil, Nat.reduceAdd, Nat.reduceSub, Array.replicate_succ, Array.replicate_zero, List.push_toArray, List.append_toArray, List.nil_append, List.cons_append]
  subst hW1
  gi_wp2_with (refine ⟨trivial, ?_⟩; gi_at_call 65; refine (callsIn_wide.2 (counted_any _ _ _ _ _ rfl)).mono ?_; rintro e w1 ⟨rfl, rfl⟩)
  clear hW2 hcl1
  refine (wpIn_wide (n := 8)).2 (wp_range (encs := encP) rfl (fun _ _ => rfl) HSEQ.out (SameOn.refl _ _) (fun _ => rfl)
    S (fun k hk => ⟨fun hr => by
        rcases hr with h | h | h
        · exact (HS.out k hk).1 h
        · have := (HS.out k hk).2; omega
        · have := (HS.out k hk).2; omega, by have := (HS.out k hk).2; omega⟩) ?hR
    (fun S1 pre X => J S1 ((pre.filter fun p => want p.2).map (·.1)) X) (fun c S1 pre X => c = .ret ∧ Jx S1 ((pre.filter fun p => want p.2).map (·.1)) X)
    (by intro S1 pre A B h hs; exact HJ.out _ _ _ _ h hs) (by intro c S1 pre A B h hs; exact ⟨h.1, HJx.out _ _ _ _ h.2 hs⟩) (HJ.out _ _ _ _ H0.out (hf2.same fun _ _ h => h))
    (fun p => { tmps := #[.func (.yield l) #[] #[], .pointer (some ⟨Bl, 0, none⟩), .pointer (some ⟨Bw, 0, none⟩), .pointer (some ⟨W.heap.size, 0, none⟩), .int .u64 p.1, .int .i64 (p.2 : Int), .slice a ps.length cap,
      .func (.func 77) #[] #[.pointer (some ⟨W.heap.size + 1, 0, none⟩)], .int .u64 p.1, .int .i64 (p.2 : Int), undef, undef, undef, undef, undef, undef, undef, undef, undef], defers := [] }) ?assign ?body ?done ?stop)
  case hR =>
    intro k hk
    have := HWW.out.size
    rcases hk with (h | h | h | h) | h | h
    · have := HN.out; omega
    · omega
    · omega
    · have := HRW.out k h; omega
    · omega
    · omega
  case assign =>
    intro l2 x X K hK
    simp only [List.setIfInBounds_toArray, List.set_cons_zero, List.set_cons_succ]
    gi_wp2
    exact hK
  case body =>
    rintro l2 S1 pre p X hj hpx hRX hbd
    have hR2 : SameOn (fun k => k < n ∨ k = Bl ∨ k = Bw ∨ Rw k) W X := (hf2.same (S := fun k => k < n ∨ k = Bl ∨ k = Bw ∨ Rw k) fun _ _ h => h).trans (hRX.mono fun k hk _ => .inl hk)
    have hwX := HW.out X ((HWW.out.trans hR2).mono fun k hk _ => .inr (.inr (.inr hk))) p.2 (HCL.out p (hpx.subset (by simp)))
    have hkw := cell_of_one ((hR2.block _ (.inr (.inr (.inl rfl))) (lt_of_block hBwW)).trans hBwW)
    have hky := cell_of_one ((hRX.block _ (.inr (.inl rfl)) (lt_of_block hy2)).trans hy2)
    have HWX := Lib.hid hwX
    clear hwX
    cases hw : want p.2 with
    | false =>
      have hfl : ((pre ++ [p]).filter fun p => want p.2).map (·.1) = (pre.filter fun p => want p.2).map (·.1) := by simp [List.filter_append, hw]
      rw [hw] at HWX
      have HFL := Lib.hid hfl
      clear hfl hw
      gi_wp2_with (refine ⟨trivial, ?_⟩; refine (CallsIn.inRound l2 (callsIn_wide.2 HWX.out)).mono ?_; rintro e w3 ⟨rfl, rfl⟩)
      refine ⟨fun _ h => (by cases h), ?_⟩
      gi_wp2
      refine ⟨S1, by show J S1 _ _; rw [HFL.out]; exact hj, Fr.refl _ _, fun k hk => ⟨.inl hk, (hbd k hk).2⟩⟩
    | true =>
      have hfl : ((pre ++ [p]).filter fun p => want p.2).map (·.1) = (pre.filter fun p => want p.2).map (·.1) ++ [p.1] := by simp [List.filter_append, hw]
      have hpre : (pre.filter fun p => want p.2).map (·.1) ++ [p.1] <+: thoseOf Ls want := by rw [← hfl]; exact (hpx.filter _).map _
      obtain ⟨fn, tmps, assign, body, hy, hR⟩ := yield_in l2 6 (HY.out S1 _ p.1 X hj hpre hR2 (fun k hk => ⟨fun h => (hbd k hk).1 (.inl h), (hbd k hk).2⟩))
      rw [hw] at HWX
      have HFL := Lib.hid hfl; have HR := Lib.hid hR
      clear hfl hw hR hpre
      gi_wp2_with (refine ⟨trivial, ?_⟩; refine (CallsIn.inRound l2 (callsIn_wide.2 HWX.out)).mono ?_; rintro e w3 ⟨rfl, rfl⟩)
      refine HR.out.mono ?_
      rintro e W3 (⟨rfl, S2, hj3, hf3, hg3⟩ | ⟨rfl, S2, hj3, hf3, hg3⟩)
      · gi_wp2
        exact ⟨S2, by show J S2 _ _; rw [HFL.out]; exact hj3, hf3, hg3⟩
      · gi_wp2
        exact ⟨S2, ⟨rfl, by show Jx S2 _ _; rw [HFL.out]; exact hj3⟩, hf3, hg3⟩
  case done =>
    rintro D S1 X hj hfr hgr hD hDl hDS
    gi_wp2
    refine ⟨by simp, .inl ⟨_, _, rfl, run_takeDeferred hD, ?_⟩⟩
    refine ⟨_, results_none rfl _ _ _, ⟨_, rfl⟩, S1, .inl (HJ.out _ _ _ _ hj ((SameOn.refl _ _).putObj hDS _)), ?_, ?_⟩
    · exact ((hf2.mono fun _ h => h.elim).trans hfr fun k hk => .inl hk).putObj (.inr (by omega)) _
    · exact fun k hk => ⟨(hgr k hk).1.elim .inl fun h => .inr (by omega), by simpa using (hgr k hk).2⟩
  case stop =>
    rintro D c S1 pre X hpx ⟨rfl, hj⟩ hfr hgr hD hDl hDS
    refine (wpIn_wide (n := 8)).1 ?_
    gi_wp2
    refine ⟨by simp, .inl ⟨_, _, rfl, run_takeDeferred hD, ?_⟩⟩
    refine ⟨_, results_none rfl _ _ _, ⟨_, rfl⟩, S1, .inr ⟨_, (hpx.filter _).map _, HJx.out _ _ _ _ hj ((SameOn.refl _ _).putObj hDS _)⟩, ?_, ?_⟩
    · exact ((hf2.mono fun _ h => h.elim).trans hfr fun k hk => .inl hk).putObj (.inr (by omega)) _
    · exact fun k hk => ⟨(hgr k hk).1.elim .inl fun h => .inr (by omega), by simpa using (hgr k hk).2⟩

end Go.Proofs.Ytldboadcglofaaa
