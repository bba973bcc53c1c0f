/- New, none, does. Seen; Ready. May: may a command be? (Of the first three kinds.) -/
import Derived.Test.YtefepfiijoafbaaGreatQShP
import Derived.Test.YtefepfiijoafbaaGreatQCut
namespace Go.Proofs.YtefepfiijoafbaaGreat
open Go.RowKit Go.Shelf Go.Maps
attribute [local go_sem] Oper.semAt_some
set_option linter.unusedVariables false
set_option linter.unusedSimpArgs false

theorem sNone_any (W : World) (p : Nat) (hc : W.cell? ⟨p, 0, none⟩ = some (.bool true)) : Calls Tryz.prog 52 #[.pointer (some ⟨p, 0, none⟩)] W fun e w' => e = .returned (.bool false) ∧ Fr N0 W w' := by
  go_enter Tryz.func52, Tryz.ntmps52
  go_wp2
  go_ret
  exact ⟨rfl, Fr.refl _ _⟩

def SS.empty : SS := ⟨fun _ => none, fun _ => none, fun _ => none⟩
theorem SS.empty_fine : SS.empty.Fine 0 := ⟨(fun _ _ h => nomatch h), (fun _ _ h => nomatch h), (fun _ _ h => nomatch h)⟩
/-- A state made anew. -/
structure NewAt (W w' : World) (t : StB) : Prop where
  cells : t.Cells w'
  new : W.heap.size ≤ t.p ∧ W.heap.size ≤ t.mL ∧ W.heap.size ≤ t.mS ∧ W.heap.size ≤ t.mF
  apart : t.p ≠ t.mL ∧ t.p ≠ t.mS ∧ t.p ≠ t.mF ∧ t.mL ≠ t.mS ∧ t.mL ≠ t.mF ∧ t.mS ≠ t.mF
  mapL : MapF Tryz.prog 9 w' t.mL 0 fun _ => none
  mapS : MapF Tryz.prog 33 w' t.mS 0 fun _ => none
  mapF : MapF Tryz.prog 33 w' t.mF 0 fun _ => none
theorem viewL_empty (pt : ByteArray → Nat) : viewL (fun _ => none) pt = fun _ => none := by funext kl; unfold viewL; split <;> rfl
theorem viewS_empty (sv : Int → Value) : viewS (fun _ => none) sv = fun _ => none := by funext kl; unfold viewS; split <;> rfl
theorem viewF_empty : viewF (fun _ => none) = fun _ => none := by funext kl; unfold viewF; split <;> rfl
theorem NewAt.state {W w' : World} {t : StB} (h : NewAt W w' t) : IsState w' (fun k => W.heap.size ≤ k) t.p SS.empty 0 :=
  ⟨t, ⟨fun _ _ => False, fun _ => 0, fun _ => .slice none 0 0, fun _ => 0⟩, rfl, h.cells, h.new, h.apart, by rw [show SS.empty.lists = fun _ => none from rfl, viewL_empty]; exact h.mapL, by rw [show SS.empty.staged = fun _ => none from rfl, viewS_empty]; exact h.mapS, by rw [show SS.empty.finals = fun _ => none from rfl, viewF_empty]; exact h.mapF,
    ⟨(fun _ _ h => nomatch h), (fun _ _ h => False.elim h), (fun _ _ _ h => False.elim h)⟩, (fun _ _ h => nomatch h)⟩

set_option maxRecDepth 100000 in
set_option maxHeartbeats 1000000 in
theorem sNew_any (W : World) : Calls Tryz.prog 12 #[] W fun e w' => ∃ t : StB, e = .returned (.pointer (some ⟨t.p, 0, none⟩)) ∧ NewAt W w' t ∧ Fr N0 W w' := by
  have hmm := @run_makeMap Tryz.prog
  go_enter Tryz.func12, Tryz.ntmps12
  go_wp2
  go_ret
  have n1 : W.heap.size < (W.alloc (Obj.map #[] 0)).heap.size := by simp
  have n2 : W.heap.size + 1 < ((W.alloc (Obj.map #[] 0)).alloc (Obj.map #[] 0)).heap.size := by simp
  have n3 : W.heap.size + 1 + 1 < (((W.alloc (Obj.map #[] 0)).alloc (Obj.map #[] 0)).alloc (Obj.map #[] 0)).heap.size := by simp
  have f1 := (Fr.refl N0 W).alloc (Obj.map #[] 0)
  have f2 := (Fr.refl N0 (W.alloc (Obj.map #[] 0))).alloc (Obj.map #[] 0)
  have f3 := (Fr.refl N0 ((W.alloc (Obj.map #[] 0)).alloc (Obj.map #[] 0))).alloc (Obj.map #[] 0)
  have f4 := fun o => (Fr.refl N0 (((W.alloc (Obj.map #[] 0)).alloc (Obj.map #[] 0)).alloc (Obj.map #[] 0))).alloc o
  have m1 := MapF.made W Tryz.prog 9
  have m2 := MapF.made (W.alloc (Obj.map #[] 0)) Tryz.prog 33
  have m3 := MapF.made ((W.alloc (Obj.map #[] 0)).alloc (Obj.map #[] 0)) Tryz.prog 33
  simp only [World.size_alloc] at m2 m3
  have hc := World.alloc_heap_new (((W.alloc (Obj.map #[] 0)).alloc (Obj.map #[] 0)).alloc (Obj.map #[] 0)) (Obj.cells #[Value.bool true, Value.map (some W.heap.size), Value.map (some (W.heap.size + 1)), Value.map (some (W.heap.size + 1 + 1))] 122)
  simp only [World.size_alloc] at hc
  refine ⟨⟨W.heap.size + 1 + 1 + 1, W.heap.size, W.heap.size + 1, W.heap.size + 1 + 1⟩, rfl, ⟨hc, ⟨by simp only; omega, by simp only; omega, by simp only; omega, by simp only; omega⟩, ⟨by simp only; omega, by simp only; omega, by simp only; omega, by simp only; omega, by simp only; omega, by simp only; omega⟩, ?_, ?_, ?_⟩, ?_⟩
  · exact ((m1.fr f2 id).fr f3 id).fr (f4 _) id
  · exact (m2.fr f3 id).fr (f4 _) id
  · exact m3.fr (f4 _) id
  · exact ((f1.then0 f2).then0 f3).then0 (f4 _)

theorem does_size : (Tryz.prog.info? 124).map (·.size) = some 7 := by kernel_rfl
set_option maxRecDepth 100000 in
set_option maxHeartbeats 1000000 in
theorem sDoes_any (W : World) : Calls Tryz.prog 54 #[] W fun e w' => e = .returned (.agg #[.nilFunc, .func (.func 117) #[] #[], .func (.func 118) #[] #[], .func (.func 119) #[] #[], .func (.func 120) #[] #[], .func (.func 121) #[] #[], .func (.func 122) #[] #[]]) ∧ Fr N0 W w' := by
  go_enter Tryz.func54, Tryz.ntmps54
  go_wp2_with (go_loud (refine wpList_store_row rfl 124 _ _ rfl W.heap.size _ rfl rfl 124 _ (World.alloc_heap_new _ _) does_size rfl (by simp [Value.oneCell']) ?_))
  refine bodyPost_ret_by (results_cell_row rfl _ _ W.heap.size 124 _ (0, 0) _ rfl (setRow_heap _ _ _ _ _ _ (World.alloc_heap_new _ _)) Tryz.underlying124 rfl does_size) rfl ?_
  exact ⟨rfl, ((Fr.refl N0 W).alloc _).trans (fr_setRow _ _ _) fun k hk => .inr (by rw [hk]; exact Nat.le_refl _)⟩
end Go.Proofs.YtefepfiijoafbaaGreat
namespace Go.Proofs.YtefepfiijoafbaaGreat
open Go.RowKit Go.Shelf Go.Maps
attribute [local go_sem] Oper.semAt_some
set_option linter.unusedVariables false
set_option linter.unusedSimpArgs false

/-- How many are at most t. -/
def seenPL (l : PL) (t : Int) : Nat := if t ∈ l.times then posI id t l.times + 1 else posI id t l.times
set_option maxRecDepth 100000 in
set_option maxHeartbeats 1000000 in
theorem seen_any (W : World) (R : Nat → Prop) (p : Nat) (q : ByteArray) (l : PL) (N : Nat) (h : IsPL W R p l) (hl : l.Fine q N) (hN : N ≤ 100000) (t : Int) :
    Calls Tryz.prog 21 #[.pointer (some ⟨p, 0, none⟩), .int .u64 t] W fun e w' => e = .returned (.int .i64 (seenPL l t)) ∧ Fr N0 W w' := by
  obtain ⟨vt, vc, cs, h1, -, ⟨h3, -⟩, -⟩ := h
  obtain ⟨m, n, lt⟩ := box_cells h1
  have hn := pNone_any W p l.s.pred (m 0) hl.size'
  obtain ⟨b, -, hrow⟩ := rowsK_of_row (enc := enc4) (n := 1) ins4_len (by decide) h3
  have hI : Ints .u64 W b vt l.times := by
    obtain ⟨a, off, cap, g1, g2, g3, g4, g5, g6⟩ := hrow
    exact ⟨a, off, cap, g1, g2, g3, g4, g5, fun i hi => by simpa [enc4] using g6 i hi 0 (by decide), hl.twf⟩
  have hbs := fun w' (hf : Fr N0 W w') => bs_any w' b vt l.times (hI.fr0 hf) t (hl.ok.times.imp fun h => Int.le_of_lt h) (by have := hl.times; omega)
  have hpn : posI id t l.times ≤ 100000 := Nat.le_trans (posI_le _ _ _) (by have := hl.times; omega)
  unfold seenPL
  by_cases hin : t ∈ l.times
  · simp only [hin, decide_true, if_true] at hbs ⊢
    obtain ⟨k, hk⟩ : ∃ k, posI id t l.times = k := ⟨_, rfl⟩
    simp only [hk] at hbs hpn ⊢
    have HN := Lib.hid hn; have HB := Lib.hid hbs; have H1 := Lib.hid h1
    clear hn hbs h3 hrow hI hk h1 m n hin
    go_enter Tryz.func21, Tryz.ntmps21
    go_wp2_with (first
      | (go_at_call 71; refine HN.out.mono ?_; rintro e w1 ⟨rfl, hf1⟩; have hb := (hf1.at id lt).trans H1.out; obtain ⟨m, -, -⟩ := box_cells hb)
      | (go_at_call 73; refine (HB.out _ hf1).mono ?_; rintro e w2 ⟨rfl, hf2⟩))
    go_ret
    exact ⟨ret_int (by push_cast; omega), hf1.then0 hf2⟩
  · simp only [hin, decide_false, if_false] at hbs ⊢
    obtain ⟨k, hk⟩ : ∃ k, posI id t l.times = k := ⟨_, rfl⟩
    simp only [hk] at hbs hpn ⊢
    have HN := Lib.hid hn; have HB := Lib.hid hbs; have H1 := Lib.hid h1
    clear hn hbs h3 hrow hI hk h1 m n hin
    go_enter Tryz.func21, Tryz.ntmps21
    go_wp2_with (first
      | (go_at_call 71; refine HN.out.mono ?_; rintro e w1 ⟨rfl, hf1⟩; have hb := (hf1.at id lt).trans H1.out; obtain ⟨m, -, -⟩ := box_cells hb)
      | (go_at_call 73; refine (HB.out _ hf1).mono ?_; rintro e w2 ⟨rfl, hf2⟩))
    go_ret
    exact ⟨rfl, hf1.then0 hf2⟩

/-- Why a predicate cannot be read. -/
noncomputable def sReady (s : SS) (q : ByteArray) (t : Int) (seen : Int) : Int :=
  match s.lists q with
  | none => 5
  | some l => if t < l.marked then 181 else if (seenPL l t : Int) < seen then 7 else 0
set_option maxRecDepth 100000 in
set_option maxHeartbeats 1000000 in
theorem sReady_any (W : World) (R : Nat → Prop) (p : Nat) (s : SS) (N : Nat) (h : IsState W R p s N) (hF : s.Fine N) (hN : N ≤ 100000) (q : ByteArray) (hq : q.size ≤ maxLen) (t seen : Int) :
    Calls Tryz.prog 49 #[.pointer (some ⟨p, 0, none⟩), .string q, .int .u64 t, .int .i64 seen] W fun e w' => e = .returned (.int .i64 (sReady s q t seen)) ∧ Fr N0 W w' := by
  obtain ⟨tb, m, rfl, h⟩ := h
  obtain ⟨m1, n1, l1⟩ := box_cells h.cells
  have hn := sNone_any W tb.p (m1 0)
  have hk := Go.WideMaps.keyOf_string_mk Tryz.underlying9 hq
  have hc := h.cells
  unfold StB.Cells at hc
  cases hl : s.lists q with
  | none =>
    have hlk : ∀ w', Fr N0 W w' → (Instr.lookup 119 (.map (some tb.mL)) (.string q) true).run Tryz.prog w' = .ok (.tuple #[.pointer none, .bool false]) w' := fun w' hf => (h.mapL.fr hf id).look_none lawSt Tryz.underlying119 (zeroPLR _) hk (by rw [show Lit.string q.data.toList = litS q from rfl, viewL_at, hl]; rfl)
    rw [show sReady s q t seen = 5 by unfold sReady; rw [hl]]
    obtain ⟨p, mL, mS, mF⟩ := tb
    simp only at *
    have HN := Lib.hid hn; have HC := Lib.hid hc; have HLK := Lib.hid hlk
    clear hn hc hlk h m1 n1 hF hk hl
    go_enter Tryz.func49, Tryz.ntmps49
    go_wp2_with (go_at_call 52; refine HN.out.mono ?_; rintro e w1 ⟨rfl, hf1⟩; have hb := (hf1.at id l1).trans HC.out; obtain ⟨m, -, -⟩ := box_cells hb; have hlk := HLK.out w1 hf1)
    go_ret
    exact ⟨rfl, hf1⟩
  | some l =>
    have hfine := hF.lists _ _ hl
    have hIP := h.lists.1 _ _ hl
    have hlk : ∀ w', Fr N0 W w' → (Instr.lookup 119 (.map (some tb.mL)) (.string q) true).run Tryz.prog w' = .ok (.tuple #[.pointer (some ⟨m.pt q, 0, none⟩), .bool true]) w' := fun w' hf => (h.mapL.fr hf id).look_some lawSt Tryz.underlying119 (zeroPLR _) hk (by rw [show Lit.string q.data.toList = litS q from rfl, viewL_at, hl]; rfl)
    have hmk := fun w' (hf : Fr N0 W w') => marked_any w' (m.RL q) (m.pt q) l (hIP.fr hf fun _ _ => id) hfine.size'
    have hsn := fun w' (hf : Fr N0 W w') => seen_any w' (m.RL q) (m.pt q) q l N (hIP.fr hf fun _ _ => id) hfine hN t
    rw [show sReady s q t seen = if t < l.marked then 181 else if (seenPL l t : Int) < seen then 7 else 0 by unfold sReady; rw [hl]]
    obtain ⟨p, mL, mS, mF⟩ := tb
    obtain ⟨pt, hpt⟩ : ∃ x, m.pt q = x := ⟨_, rfl⟩
    obtain ⟨sn, hsn'⟩ : ∃ x, seenPL l t = x := ⟨_, rfl⟩
    obtain ⟨mk, hmk'⟩ : ∃ x, l.marked = x := ⟨_, rfl⟩
    simp only [hpt, hsn', hmk'] at *
    have HN := Lib.hid hn; have HC := Lib.hid hc; have HLK := Lib.hid hlk; have HMK := Lib.hid hmk; have HSN := Lib.hid hsn
    clear hn hc hlk h m1 n1 hF hk hl hmk hsn hpt hsn' hmk' hfine hIP
    by_cases c1 : t < mk
    · rw [if_pos c1]
      go_enter Tryz.func49, Tryz.ntmps49
      go_wp2_with (first
        | (go_at_call 52; refine HN.out.mono ?_; rintro e w1 ⟨rfl, hf1⟩; have hb := (hf1.at id l1).trans HC.out; obtain ⟨m, -, -⟩ := box_cells hb; have hlk := HLK.out w1 hf1)
        | (go_at_call 82; refine (HMK.out _ hf1).mono ?_; rintro e w2 ⟨rfl, hf2⟩))
      go_ret
      exact ⟨rfl, hf1.then0 hf2⟩
    · rw [if_neg c1]
      by_cases c2 : (sn : Int) < seen
      · rw [if_pos c2]
        go_enter Tryz.func49, Tryz.ntmps49
        go_wp2_with (first
          | (go_at_call 52; refine HN.out.mono ?_; rintro e w1 ⟨rfl, hf1⟩; have hb := (hf1.at id l1).trans HC.out; obtain ⟨m, -, -⟩ := box_cells hb; have hlk := HLK.out w1 hf1)
          | (go_at_call 82; refine (HMK.out _ hf1).mono ?_; rintro e w2 ⟨rfl, hf2⟩)
          | (go_at_call 21; refine (HSN.out _ (hf1.then0 hf2)).mono ?_; rintro e w3 ⟨rfl, hf3⟩))
        go_ret
        exact ⟨rfl, (hf1.then0 hf2).then0 hf3⟩
      · rw [if_neg c2]
        go_enter Tryz.func49, Tryz.ntmps49
        go_wp2_with (first
          | (go_at_call 52; refine HN.out.mono ?_; rintro e w1 ⟨rfl, hf1⟩; have hb := (hf1.at id l1).trans HC.out; obtain ⟨m, -, -⟩ := box_cells hb; have hlk := HLK.out w1 hf1)
          | (go_at_call 82; refine (HMK.out _ hf1).mono ?_; rintro e w2 ⟨rfl, hf2⟩)
          | (go_at_call 21; refine (HSN.out _ (hf1.then0 hf2)).mono ?_; rintro e w3 ⟨rfl, hf3⟩))
        go_ret
        exact ⟨rfl, (hf1.then0 hf2).then0 hf3⟩
end Go.Proofs.YtefepfiijoafbaaGreat
namespace Go.Proofs.YtefepfiijoafbaaGreat
open Go.RowKit Go.Shelf
attribute [local go_sem] Oper.semAt_some
set_option linter.unusedVariables false
set_option linter.unusedSimpArgs false

/-- A command as it is handed in: its three slices. -/
structure OpS where
  wa : Option Addr
  wc : Nat
  ta : Option Addr
  tc : Nat
  pa : Option Addr
  pc : Nat
def opEnc (o : Op) (V : OpS) : List Value := [.int .u8 o.kind, .int .u64 o.start, .int .u64 o.commit, .slice V.wa o.ws.length V.wc, .string o.sch.pred, .int .u8 o.sch.ty, .bool o.sch.list, .bool o.sch.exact_, .bool o.sch.term, .bool o.sch.order, .bool o.sch.rev, .bool o.sch.count, .string o.pred, .int .u64 o.at_, .slice V.ta o.nt V.tc, .slice V.pa o.np V.pc]

theorem opC_size : (Tryz.prog.info? 38).map (·.size) = some 16 := by kernel_rfl
/-- Two boxes, the second one filled anew. -/
theorem two_rows (W : World) (A : Obj) (old cs : Array Value) (t : TypeId) (V : World) (h : ((W.alloc A).alloc (.cells old t)).setRow (W.heap.size + 1) cs = V) : V.heap[W.heap.size]? = some A ∧ V.heap[W.heap.size + 1]? = some (.cells cs t (0, 0)) ∧ Fr N0 W V ∧ V.heap.size = W.heap.size + 2 := by
  subst h
  have h2 := setRow_heap _ _ _ cs _ _ (heap_alloc2_new W A (.cells old t))
  have hf := fr_setRow ((W.alloc A).alloc (.cells old t)) (W.heap.size + 1) cs
  refine ⟨(hf.at (k := W.heap.size) (by show ¬ W.heap.size = _; omega) (by simp; omega)).trans ((Below.heap_alloc _ _ _ (by simp)).trans (World.alloc_heap_new W _)), h2, (((Fr.refl N0 W).alloc _).alloc _).trans hf fun k e => .inr (by rw [e]; omega), by simp [World.setRow]⟩
theorem sMay1_any (x : Wr) (hx : x.wf) (w : World) : Calls Tryz.prog 114 #[.agg x.enc.toArray] w fun e w' => e = .returned (.bool (trMay x != 0)) ∧ Fr N0 w w' := by
  have hM := fun W => tMay_any x hx W
  obtain ⟨xd, xu, xp, vk, vb, vn, vs, vu⟩ := x
  obtain ⟨E, hE⟩ : ∃ E, trMay ⟨xd, xu, xp, vk, vb, vn, vs, vu⟩ = E := ⟨_, rfl⟩
  rw [hE] at hM ⊢
  simp only [Wr.tenc, Wr.enc] at hM ⊢
  have HM := Lib.hid hM
  clear hM hE
  go_enter Tryz.func114, Tryz.ntmps114
  go_wp2_with (go_at_call 115; refine (HM.out _).mono ?_; rintro e w1 ⟨rfl, hf1⟩)
  go_ret
  exact ⟨rfl, ((Fr.refl N0 w).alloc _).then0 hf1⟩

theorem ws_nil {l : List Wr} : l = [] ↔ l.length = 0 := ⟨fun h => by rw [h]; rfl, List.eq_nil_of_length_eq_zero⟩
theorem sch_zero (s : Sch) : s = Sch.zero ↔ s.pred.size = 0 ∧ s.ty = 0 ∧ s.list = false ∧ s.exact_ = false ∧ s.term = false ∧ s.order = false ∧ s.rev = false ∧ s.count = false := by
  obtain ⟨sp, st, sl, se, sm, so, sr, sc⟩ := s
  unfold Sch.zero
  have : sp.size = 0 ↔ sp = ⟨#[]⟩ := ⟨fun h => by apply ByteArray.ext; exact Array.eq_empty_of_size_eq_zero h, fun h => by rw [h]; rfl⟩
  simp [this]

theorem one_row (W : World) (old cs : Array Value) (t : TypeId) (V : World) (h : (W.alloc (.cells old t)).setRow W.heap.size cs = V) : V.heap[W.heap.size]? = some (.cells cs t (0, 0)) ∧ Fr N0 W V := by
  subst h
  exact ⟨setRow_heap _ _ _ cs _ _ (World.alloc_heap_new _ _), ((Fr.refl N0 W).alloc _).trans (fr_setRow (W.alloc _) W.heap.size cs) fun k e => .inr (by rw [e]; exact Nat.le_refl _)⟩
noncomputable def mayB (n : Nat) : Code := lvSuf n ((Tryz.f53.body).getD .skip)
abbrev OpCells (kd st cm : Int) (wa : Option Addr) (nw wc : Nat) (sp : ByteArray) (sy : Int) (sl se sm so sr sc : Bool) (pr : ByteArray) (at_ : Int) (ta : Option Addr) (nt tc : Nat) (pa : Option Addr) (np pc : Nat) : Array Value :=
  #[.int .u8 kd, .int .u64 st, .int .u64 cm, .slice wa nw wc, .string sp, .int .u8 sy, .bool sl, .bool se, .bool sm, .bool so, .bool sr, .bool sc, .string pr, .int .u64 at_, .slice ta nt tc, .slice pa np pc]

set_option maxRecDepth 100000 in
set_option maxHeartbeats 4000000 in
/-- left, ok := o, false -/
theorem may1 {K : Act → World → Prop} {Q : Exit → Act → World → Prop} (W : World) (f : Nat → Value) (B : Nat) (cs : Array Value) (kd st cm : Int) (wa : Option Addr) (nw wc : Nat) (sp : ByteArray) (sy : Int) (sl se sm so sr sc : Bool) (pr : ByteArray) (at_ : Int) (ta : Option Addr) (nt tc : Nat) (pa : Option Addr) (np pc : Nat)
    (h1 : f 1 = .pointer (some ⟨B, 0, none⟩)) (hB : W.heap[B]? = some (.cells (OpCells kd st cm wa nw wc sp sy sl se sm so sr sc pr at_ ta nt tc pa np pc) 38 (0, 0)))
    (hK : ∀ f' W', f' 1 = f 1 → f' 3 = .pointer (some ⟨W.heap.size, 0, none⟩) → f' 4 = .bool false → W'.heap[B]? = some (.cells (OpCells kd st cm wa nw wc sp sy sl se sm so sr sc pr at_ ta nt tc pa np pc) 38 (0, 0)) →
      W'.heap[W.heap.size]? = some (.cells (OpCells kd st cm wa nw wc sp sy sl se sm so sr sc pr at_ ta nt tc pa np pc) 38 (0, 0)) → Fr N0 W W' → K (frA 149 f') W') :
    Code.wp Tryz.prog (lvFst (mayB 1)) (Exit.then K Q) (frA 149 f) W := by
  obtain ⟨m, n, l⟩ := box_cells hB
  have HK := Lib.hid hK; have HB := Lib.hid hB
  clear hK hB
  have H1 := Lib.hid h1
  show Code.wp _ _ _ { tmps := #[f 0, f 1, f 2, f 3, f 4, f 5, f 6, f 7, f 8, f 9, f 10, f 11, f 12, f 13, f 14, f 15, f 16, f 17, f 18, f 19, f 20, f 21, f 22, f 23, f 24, f 25, f 26, f 27, f 28, f 29, f 30, f 31, f 32, f 33, f 34, f 35, f 36, f 37, f 38, f 39, f 40, f 41, f 42, f 43, f 44, f 45, f 46, f 47, f 48, f 49, f 50, f 51, f 52, f 53, f 54, f 55, f 56, f 57, f 58, f 59, f 60, f 61, f 62, f 63, f 64, f 65, f 66, f 67, f 68, f 69, f 70, f 71, f 72, f 73, f 74, f 75, f 76, f 77, f 78, f 79, f 80, f 81, f 82, f 83, f 84, f 85, f 86, f 87, f 88, f 89, f 90, f 91, f 92, f 93, f 94, f 95, f 96, f 97, f 98, f 99, f 100, f 101, f 102, f 103, f 104, f 105, f 106, f 107, f 108, f 109, f 110, f 111, f 112, f 113, f 114, f 115, f 116, f 117, f 118, f 119, f 120, f 121, f 122, f 123, f 124, f 125, f 126, f 127, f 128, f 129, f 130, f 131, f 132, f 133, f 134, f 135, f 136, f 137, f 138, f 139, f 140, f 141, f 142, f 143, f 144, f 145, f 146, f 147, f 148], defers := [] } _
  rw [h1]
  clear h1
  conv => arg 2; whnf
  go_wp2_with (go_loud (refine wpList_store_row rfl 38 _ _ rfl W.heap.size _ rfl rfl 38 _ (World.alloc_heap_new _ _) opC_size rfl (by simp [Value.oneCell']) ?_); generalize hV : World.setRow _ _ _ = V)
  obtain ⟨g1, g2⟩ := one_row _ _ _ _ _ hV
  refine cut_use (n := 149) (K := K) _ rfl ?_
  exact HK.out _ _ H1.out.symm rfl rfl ((g2.at (k := B) id l).trans HB.out) g1 g2
end Go.Proofs.YtefepfiijoafbaaGreat
