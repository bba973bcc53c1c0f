/- The law's small: true for at most 60 commands. ShardOrder, its second loop: what is staged by both, which finals are kept. ShardOrder, its second loop, walked. -/
import Derived.Deep.RegionHeld3
import Derived.Test.YtefepfiijoafbaaGreatQLsL
import Derived.Test.YtefepfiijoafbaaGreatQSMay
import Derived.Test.YtefepfiijoafbaaGreatQLoB
namespace Go.Proofs.YtefepfiijoafbaaGreat
open Go.RowKit Go.Shelf
attribute [local go_sem] Oper.semAt_some
attribute [local irreducible] wpQuiet
set_option linter.unusedVariables false
set_option linter.unusedSimpArgs false

/-- What a command that is handed in hangs on. -/
structure OpIs (W : World) (o : Op) (V : OpS) : Prop where
  ws : ∃ b, Wrs W b (.slice V.wa o.ws.length V.wc) o.ws
  past : ∃ b cms, RowsK CmV.enc 2 W b (.slice V.pa o.np V.pc) cms ∧ ∀ c ∈ cms, ∃ b' xs, Wrs W b' (.slice c.a c.n c.c) xs
def opE (x : Op × OpS) : List Value := opEnc x.1 x.2
theorem opE_len (x : Op × OpS) : (opE x).length = 16 := rfl
def Ops (W : World) (b : Nat) (v : Value) (xs : List (Op × OpS)) : Prop := RowsK opE 16 W b v xs ∧ ∀ x ∈ xs, OpIs W x.1 x.2
def SmallPost (n : Nat) (W : World) (e : Ending) (w' : World) : Prop := (∃ r : Bool, e = .returned (.bool r) ∧ (r = true → n ≤ 60)) ∧ Fr N0 W w'
abbrev Cell4 (W0 : World) (a1 a2 a3 a4 : Addr) (v1 v2 v3 v4 : Value) (W : World) : Prop := W.cell? a1 = some v1 ∧ W.cell? a2 = some v2 ∧ W.cell? a3 = some v3 ∧ W.cell? a4 = some v4 ∧ Fr N0 W0 W
theorem cell4_keep {W0 : World} {a1 a2 a3 a4 : Addr} {v1 v2 v3 v4 : Value} {W W' : World} (hf : Fr N0 W W') (h : Cell4 W0 a1 a2 a3 a4 v1 v2 v3 v4 W) : Cell4 W0 a1 a2 a3 a4 v1 v2 v3 v4 W' :=
  ⟨hf.cell id h.1, hf.cell id h.2.1, hf.cell id h.2.2.1, hf.cell id h.2.2.2.1, h.2.2.2.2.then0 hf⟩

set_option maxRecDepth 100000 in
set_option maxHeartbeats 4000000 in
theorem lsSmall_any (W : World) (b : Nat) (v : Value) (xs : List (Op × OpS)) (h : Ops W b v xs) : Calls Tryz.prog 11 #[v] W (SmallPost xs.length W) := by
  obtain ⟨⟨a, off, cap, rfl, h1, h2, h3, h4, h5⟩, hI⟩ := h
  have HC := Lib.hid h5; have HI := Lib.hid hI
  clear h5 h4 hI
  go_enter Tryz.func11, Tryz.ntmps11
  go_wp2
  go_loopw [3, 4] (fun nv iv wr => ∃ (k : Nat) (n : Int), k ≤ 200 ∧ k ≤ xs.length ∧ iv = .int .i64 k ∧ nv = .int .i64 n ∧ Fr N0 W wr) (fun _ iv _ => 200 - (intOf iv).toNat)
  case atStart => exact ⟨0, _, by omega, by omega, rfl, rfl, Fr.refl _ _⟩
  case round =>
    obtain ⟨k, n, hk, hkl, rfl, rfl, hfr⟩ := hrel
    by_cases hlt : k < xs.length ∧ k < 200
    · obtain ⟨hl, hl3⟩ := hlt
      obtain rfl := h3 (by omega)
      have cc := HC.out k hl
      have c3 := hfr.cell id (cc 3 (by decide)); have c4 := hfr.cell id (cc 4 (by decide)); have c12 := hfr.cell id (cc 12 (by decide)); have c14 := hfr.cell id (cc 14 (by decide)); have c15 := hfr.cell id (cc 15 (by decide))
      obtain ⟨⟨bw, hw⟩, bp, cms, hp, hcm⟩ := HI.out xs[k] (List.getElem_mem hl)
      obtain ⟨⟨o, V⟩, hx⟩ : ∃ x, xs[k] = x := ⟨_, rfl⟩
      simp only [hx, opE, opEnc, List.getElem?_cons_succ, List.getElem?_cons_zero] at c3 c4 c12 c14 c15 hw hp
      clear hx cc
      obtain ⟨pa, poff, pcap, he, p1, p2, p3, -, p5⟩ := hp
      injection he with q1 q2 q3
      rw [q1, q2, q3] at c15
      obtain ⟨sp, hsp⟩ : ∃ x, o.sch.pred = x := ⟨_, rfl⟩
      obtain ⟨pr, hpr⟩ : ∃ x, o.pred = x := ⟨_, rfl⟩
      obtain ⟨nt, hnt⟩ : ∃ x, o.nt = x := ⟨_, rfl⟩
      obtain ⟨ta, hta⟩ : ∃ x, V.ta = x := ⟨_, rfl⟩
      obtain ⟨tc, htc⟩ : ∃ x, V.tc = x := ⟨_, rfl⟩
      obtain ⟨vw, hvw⟩ : ∃ x, (V.wa, o.ws.length, V.wc) = x := ⟨_, rfl⟩
      have hww := fun W' (hf : Fr N0 W W') => lsWrites_any W' bw _ o.ws (hw.fr0 hf)
      obtain ⟨wa, nw, wc⟩ := vw
      obtain ⟨rfl, hvw2⟩ := Prod.mk.inj hvw
      obtain ⟨hnw, rfl⟩ := Prod.mk.inj hvw2
      rw [hsp] at c4
      rw [hpr] at c12
      rw [hnt, hta, htc] at c14
      rw [hnw] at c3 hww
      have hki : (k : Int) < (xs.length : Int) := by omega
      have hk3 : (k : Int) < 200 := by omega
      have HW := Lib.hid hww; have HP := Lib.hid p5; have HCM := Lib.hid hcm; have HFR := Lib.hid hfr
      have HS : Hid (Cell4 wr ⟨b, off + k * 16 + 3, none⟩ ⟨b, off + k * 16 + 4, none⟩ ⟨b, off + k * 16 + 12, none⟩ ⟨b, off + k * 16 + 14, none⟩ (.slice V.wa nw V.wc) (.string sp) (.string pr) (.slice ta nt tc) wr) := ⟨c3, c4, c12, c14, Fr.refl _ _⟩
      have H15 := Lib.hid c15
      clear hww p5 hcm hfr c3 c4 c12 c14 c15 hsp hpr hnt hta htc hvw hvw2 hnw hw q1 q2 q3
      go_wp2_with fail
      go_region_held3 (Cell4 wr ⟨b, off + k * 16 + 3, none⟩ ⟨b, off + k * 16 + 4, none⟩ ⟨b, off + k * 16 + 12, none⟩ ⟨b, off + k * 16 + 14, none⟩ (.slice V.wa nw V.wc) (.string sp) (.string pr) (.slice ta nt tc)) (first
        | (with_reducible assumption)
        | (with_reducible exact cell4_keep (Fr.refl _ _).drew HS.out)
        | (with_reducible exact cell4_keep hfw HS.out)
        | fail) (first
        | (go_simp; go_at_call 51; refine (HW.out _ (HFR.out.drew)).mono ?_; rintro e w2 ⟨⟨n2, rfl⟩, hf2⟩; have hfw : Fr N0 wr w2 := (Fr.refl _ _).drew.then0 hf2)
        | fail)
      rename_i hHeld
      have HF2 := Lib.hid (hHeld : Cell4 wr ⟨b, off + k * 16 + 3, none⟩ ⟨b, off + k * 16 + 4, none⟩ ⟨b, off + k * 16 + 12, none⟩ ⟨b, off + k * 16 + 14, none⟩ (.slice V.wa nw V.wc) (.string sp) (.string pr) (.slice ta nt tc) _).2.2.2.2
      clear hHeld HS HW hf2 hfw
      generalize IntKind.i64.wrap (IntKind.i64.wrap (IntKind.i64.wrap (IntKind.i64.wrap (n + IntKind.i64.wrap (↑pr.size / 16)) + IntKind.i64.wrap (↑sp.size / 16)) + n2) + ↑nt) = n3
      go_wp2
      go_loopw [3, 5] (fun nv jv wq => ∃ (j : Nat) (m : Int), j ≤ 100 ∧ j ≤ cms.length ∧ jv = .int .i64 j ∧ nv = .int .i64 m ∧ Fr N0 wr wq) (fun _ jv _ => 100 - (intOf jv).toNat)
      case atStart => exact ⟨0, _, by omega, by omega, rfl, rfl, HF2.out⟩
      case round =>
        obtain ⟨j, m, hj, hjl, rfl, rfl, hfq⟩ := hrel
        have c15 := hfq.cell id H15.out
        by_cases hjt : j < cms.length ∧ j < 100
        · obtain ⟨hj1, hj2⟩ := hjt
          obtain rfl := p3 (by omega)
          have g1 := (HFR.out.then0 hfq).cell id (HP.out j hj1 1 (by decide))
          obtain ⟨bb, ys, hys⟩ := HCM.out cms[j] (List.getElem_mem hj1)
          obtain ⟨c, hcj⟩ : ∃ c, cms[j] = c := ⟨_, rfl⟩
          simp only [hcj, CmV.enc, List.getElem?_cons_zero, List.getElem?_cons_succ] at g1 hys
          obtain ⟨ct, ca, cn, cc⟩ := c
          simp only at g1 hys
          have hwy := fun W' (hf : Fr N0 W W') => lsWrites_any W' bb _ ys (hys.fr0 hf)
          have hj1' : (j : Int) < (cms.length : Int) := by omega
          have hj2' : (j : Int) < 100 := by omega
          have HWY := Lib.hid hwy; have HFQ := Lib.hid hfq
          clear hcj hys hwy hfq
          go_wp2_with (go_at_call 51; refine (HWY.out _ (HFR.out.then0 HFQ.out)).mono ?_; rintro e w3 ⟨⟨n4, rfl⟩, hf3⟩)
          go_roundw
          case rel => exact ⟨j + 1, _, by omega, by omega, by go_num, rfl, HFQ.out.then0 hf3⟩
          case measure => simp [intOf]; omega
        · have HFQ := Lib.hid (HFR.out.then0 hfq)
          clear hfq
          by_cases h60 : 60 < cms.length
          · have h60' : (60 : Int) < (cms.length : Int) := by omega
            by_cases hjc : j < cms.length
            · have hj1' : (j : Int) < (cms.length : Int) := by omega
              have hj2' : ¬ (j : Int) < 100 := by omega
              go_wp2
              go_ret
              exact ⟨⟨false, rfl, fun h => by cases h⟩, HFQ.out⟩
            · have hj1' : ¬ (j : Int) < (cms.length : Int) := by omega
              go_wp2
              go_ret
              exact ⟨⟨false, rfl, fun h => by cases h⟩, HFQ.out⟩
          · have h60' : ¬ (60 : Int) < (cms.length : Int) := by omega
            by_cases hjc : j < cms.length
            · omega
            · have hj1' : ¬ (j : Int) < (cms.length : Int) := by omega
              go_wp2
              go_roundw
              case rel => exact ⟨k + 1, _, by omega, by omega, by go_num, rfl, HFQ.out⟩
              case measure => simp [intOf]; omega
    · by_cases h60 : xs.length ≤ 60
      · have h60' : (xs.length : Int) ≤ 60 := by omega
        have hkx : ¬ (k : Int) < (xs.length : Int) := by omega
        have HFR := Lib.hid hfr
        clear hfr
        go_wp2
        go_ret
        exact ⟨⟨_, rfl, fun _ => h60⟩, HFR.out⟩
      · have h60' : ¬ (xs.length : Int) ≤ 60 := by omega
        have HFR := Lib.hid hfr
        clear hfr
        by_cases hkx : k < xs.length
        · have hk1 : (k : Int) < (xs.length : Int) := by omega
          have hk2 : ¬ (k : Int) < 200 := by omega
          go_wp2
          go_ret
          exact ⟨⟨false, rfl, fun h => by cases h⟩, HFR.out⟩
        · have hk1 : ¬ (k : Int) < (xs.length : Int) := by omega
          go_wp2
          go_ret
          exact ⟨⟨false, rfl, fun h => by cases h⟩, HFR.out⟩
end Go.Proofs.YtefepfiijoafbaaGreat
namespace Go.Proofs.YtefepfiijoafbaaGreat
open Go.RowKit Go.Shelf Go.Maps
attribute [local go_sem] Oper.semAt_some
set_option linter.unusedVariables false
set_option linter.unusedSimpArgs false

/-- A map of truths. -/
def UsedAt (W : World) (b n : Nat) (u : Int → Bool) : Prop := ∃ F, MapF Tryz.prog 33 W b n F ∧ ∀ x, F (litU x) = some (.bool (u x)) ∨ (F (litU x) = none ∧ u x = false)
theorem UsedAt.fr {W W' : World} {T : Nat → Prop} {b n : Nat} {u : Int → Bool} (h : UsedAt W b n u) (hf : Fr T W W') (hb : ¬ T b) : UsedAt W' b n u := by
  obtain ⟨F, h, hu⟩ := h; exact ⟨F, h.fr hf hb, hu⟩
theorem UsedAt.lt {W : World} {b n : Nat} {u : Int → Bool} (h : UsedAt W b n u) : b < W.heap.size := by
  obtain ⟨F, h, -⟩ := h; exact h.lt
theorem UsedAt.made (W : World) : UsedAt (W.alloc (.map #[] 0)) W.heap.size 0 fun _ => false := ⟨_, MapF.made W Tryz.prog 33, fun x => .inr ⟨rfl, rfl⟩⟩
theorem zeroBoolR (w : World) : (zeroValue 4).run Tryz.prog w = .ok (.bool false) w := by kernel_rfl
theorem UsedAt.look {W : World} {b n : Nat} {u : Int → Bool} (h : UsedAt W b n u) (x : Int) (hx : (Lit.int .u64 x).wf = true) : (Instr.lookup 41 (.map (some b)) (.int .u64 x) false).run Tryz.prog W = .ok (.bool (u x)) W := by
  obtain ⟨F, h, hu⟩ := h
  have hk := keyOf_int_mk (P := Tryz.prog) Tryz.underlying33 hx
  have h1 := (h.look lawU Tryz.underlying41 (zeroBoolR _) hk).1
  rw [h1]
  rcases hu x with h2 | ⟨h2, h3⟩
  · have h2' : F (Lit.int .u64 x) = some (.bool (u x)) := h2
    rw [h2']; rfl
  · have h2' : F (Lit.int .u64 x) = none := h2
    rw [h2', h3]; rfl
theorem UsedAt.store {W : World} {b n : Nat} {u : Int → Bool} (h : UsedAt W b n u) (hn : n ≤ 100000) (x : Int) (hx : (Lit.int .u64 x).wf = true) (v : Bool) :
    ∃ w', (Instr.mapUpdate 41 (.map (some b)) (.int .u64 x) (.bool v)).run Tryz.prog W = .ok () w' ∧ UsedAt w' b (n + 1) (updT u x v) ∧ Fr (fun j => j = b) W w' := by
  obtain ⟨F, h, hu⟩ := h
  obtain ⟨w', hr, hm, hf⟩ := h.store lawU Tryz.underlying41 (by unfold maxLen; omega) (keyOf_int_mk (P := Tryz.prog) Tryz.underlying33 hx) (.bool v)
  refine ⟨w', hr, ⟨_, hm, fun y => ?_⟩, hf⟩
  by_cases e : y = x
  · subst e; left
    rw [show (litU y) = Lit.int .u64 y from rfl, putF_same]
    simp [updT]
  · have hne : litU y ≠ Lit.int .u64 x := fun h' => e (by injection h')
    rw [putF_other hne]
    unfold updT
    rw [if_neg e]
    exact hu y
/-- Which finals are kept, of commands as they lie. -/
def keepX (u : Int → Bool) : List (Op × OpS) → List (Op × OpS)
  | [] => []
  | x :: l => if keepsO u x.1 then x :: keepX (usedO u x.1) l else keepX (usedO u x.1) l
theorem keepX_map : ∀ (u : Int → Bool) (l : List (Op × OpS)), (keepX u l).map (·.1) = keepO u (l.map (·.1))
  | _, [] => rfl
  | u, x :: l => by
    unfold keepX
    rw [List.map_cons, keepO]
    split <;> simp [keepX_map]
def usedX (u : Int → Bool) (l : List (Op × OpS)) : Int → Bool := l.foldl (fun u x => usedO u x.1) u
theorem keepX_snoc : ∀ (u : Int → Bool) (l : List (Op × OpS)) (x : Op × OpS), keepX u (l ++ [x]) = keepX u l ++ if keepsO (usedX u l) x.1 then [x] else []
  | u, [], x => by
    show (if keepsO u x.1 then x :: keepX (usedO u x.1) [] else keepX (usedO u x.1) []) = _
    cases h : keepsO u x.1 <;> simp [keepX, usedX, h]
  | u, y :: l, x => by
    rw [List.cons_append, keepX, keepX, keepX_snoc]
    have : usedX u (y :: l) = usedX (usedO u y.1) l := rfl
    rw [this]
    split <;> simp
theorem usedX_snoc (u : Int → Bool) (l : List (Op × OpS)) (x : Op × OpS) : usedX u (l ++ [x]) = usedO (usedX u l) x.1 := by simp [usedX, List.foldl_append]
theorem keepX_mem : ∀ {u : Int → Bool} {l : List (Op × OpS)} {x : Op × OpS}, x ∈ keepX u l → x ∈ l
  | _, [], _, h => by cases h
  | u, y :: l, x, h => by
    unfold keepX at h
    split at h
    · rcases List.mem_cons.1 h with rfl | h
      · simp
      · simp [keepX_mem h]
    · simp [keepX_mem h]
theorem keepX_length : ∀ (u : Int → Bool) (l : List (Op × OpS)), (keepX u l).length ≤ l.length
  | _, [] => Nat.le_refl _
  | u, y :: l => by
    unfold keepX
    have := keepX_length (usedO u y.1) l
    split <;> simp <;> omega
/-- What is staged. -/
noncomputable def stagesX (s : SS) (l : List (Op × OpS)) : SS := l.foldl (fun s x => if x.1.kind = 2 then (sApply s x.1).1 else s) s
theorem stagesX_snoc (s : SS) (l : List (Op × OpS)) (x : Op × OpS) : stagesX s (l ++ [x]) = if x.1.kind = 2 then (sApply (stagesX s l) x.1).1 else stagesX s l := by simp [stagesX, List.foldl_append]
theorem opE_one : ∀ x : Op × OpS, ∀ u ∈ opE x, u.oneCell' = true := by
  intro x u hu
  simp only [opE, opEnc, List.mem_cons, List.not_mem_nil, or_false] at hu
  rcases hu with h | h | h | h | h | h | h | h | h | h | h | h | h | h | h | h <;> subst h <;> rfl
/-- The finals' row, in blocks of the caller's own. -/
def FinRow (w W : World) (S : Nat → Prop) (bu : Nat) (v : Value) (fs : List (Op × OpS)) : Prop := W.ownsRow w.heap.size 38 16 v fs.length (fs.flatMap opE) ∧ ∀ j, v.ownBlock = some j → S j ∧ j ≠ bu
end Go.Proofs.YtefepfiijoafbaaGreat
namespace Go.Proofs.YtefepfiijoafbaaGreat
open Go.RowKit Go.Shelf Go.Maps
attribute [local go_sem] Oper.semAt_some
attribute [local go_sem ↓] Go.wp_at_zero Go.wp_at_succ
attribute [local irreducible] wpQuiet
set_option linter.unusedVariables false
set_option linter.unusedSimpArgs false

theorem trio_cells {w W : World} {Ra Rb S : Nat → Prop} {pa pb Na Nb : Nat} {sa sb : SS} (h : Trio w W Ra Rb S pa pb sa sb Na Nb) (hN : Na ≤ 100000) (o : Op) (ho : o.wf) (V : OpS) (hI : OpIs w o V) (hk : o.kind = 1 ∨ o.kind = 2 ∨ o.kind = 3) (nw : Nat) (hnw : o.ws.length = nw) :
    Calls Tryz.prog 13 #[.pointer (some ⟨pa, 0, none⟩), .agg (OpCells o.kind o.start o.commit V.wa nw V.wc o.sch.pred o.sch.ty o.sch.list o.sch.exact_ o.sch.term o.sch.order o.sch.rev o.sch.count o.pred o.at_ V.ta o.nt V.tc V.pa o.np V.pc)] W (TrioPost w W Ra Rb S pa pb (sApply sa o) sb (Na + 1) Nb) := by
  subst hnw
  obtain ⟨b, hw⟩ := hI.ws
  have := trio_apply h hN o ho V b hw (by omega)
  rw [opCells_eq] at this
  exact this
/-- A command's sixteen cells. -/
abbrev OpAt (W : World) (b p : Nat) (kd st cm : Int) (wa : Option Addr) (nw wc : Nat) (sp : ByteArray) (sy : Int) (sl se sm so sr sc : Bool) (pr : ByteArray) (at_ : Int) (ta : Option Addr) (nt tc : Nat) (pa : Option Addr) (np pc : Nat) : Prop :=
  W.cell? ⟨b, p, none⟩ = some (.int .u8 kd) ∧ W.cell? ⟨b, p + 1, none⟩ = some (.int .u64 st) ∧ W.cell? ⟨b, p + 2, none⟩ = some (.int .u64 cm) ∧ W.cell? ⟨b, p + 3, none⟩ = some (.slice wa nw wc) ∧ W.cell? ⟨b, p + 4, none⟩ = some (.string sp) ∧ W.cell? ⟨b, p + 5, none⟩ = some (.int .u8 sy) ∧ W.cell? ⟨b, p + 6, none⟩ = some (.bool sl) ∧ W.cell? ⟨b, p + 7, none⟩ = some (.bool se) ∧ W.cell? ⟨b, p + 8, none⟩ = some (.bool sm) ∧ W.cell? ⟨b, p + 9, none⟩ = some (.bool so) ∧ W.cell? ⟨b, p + 10, none⟩ = some (.bool sr) ∧ W.cell? ⟨b, p + 11, none⟩ = some (.bool sc) ∧ W.cell? ⟨b, p + 12, none⟩ = some (.string pr) ∧ W.cell? ⟨b, p + 13, none⟩ = some (.int .u64 at_) ∧ W.cell? ⟨b, p + 14, none⟩ = some (.slice ta nt tc) ∧ W.cell? ⟨b, p + 15, none⟩ = some (.slice pa np pc)
theorem op_at {W : World} {b p : Nat} {x : Op × OpS} (h : ∀ i, i < 16 → W.cell? ⟨b, p + i, none⟩ = (opE x)[i]?) :
    OpAt W b p x.1.kind x.1.start x.1.commit x.2.wa x.1.ws.length x.2.wc x.1.sch.pred x.1.sch.ty x.1.sch.list x.1.sch.exact_ x.1.sch.term x.1.sch.order x.1.sch.rev x.1.sch.count x.1.pred x.1.at_ x.2.ta x.1.nt x.2.tc x.2.pa x.1.np x.2.pc :=
  ⟨h 0 (by decide), h 1 (by decide), h 2 (by decide), h 3 (by decide), h 4 (by decide), h 5 (by decide), h 6 (by decide), h 7 (by decide), h 8 (by decide), h 9 (by decide), h 10 (by decide), h 11 (by decide), h 12 (by decide), h 13 (by decide), h 14 (by decide), h 15 (by decide)⟩
theorem row_at {w W : World} (hf : Fr N0 w W) {b off : Nat} {xs : List (Op × OpS)} (h : ∀ i (h : i < xs.length) c, c < 16 → w.cell? ⟨b, off + i * 16 + c, none⟩ = (opE xs[i])[c]?) (k : Nat) (hk : k < xs.length) : ∀ i, i < 16 → W.cell? ⟨b, off + k * 16 + i, none⟩ = (opE xs[k])[i]? := fun i hi => by
  have := h k hk i hi
  have hl : i < (opE xs[k]).length := by rw [opE_len]; exact hi
  rw [List.getElem?_eq_getElem hl] at this ⊢
  exact hf.cell id this
theorem FinRow.fr {w W W' : World} {S T : Nat → Prop} {bu : Nat} {v : Value} {fs : List (Op × OpS)} (h : FinRow w W S bu v fs) (hf : Fr T W W') (hT : ∀ k, S k → ¬ T k) : FinRow w W' S bu v fs :=
  ⟨ownsRow_fr h.1 hf fun k hk => hT k (h.2 k hk).1, h.2⟩

/-- What the second loop's round keeps. -/
structure Lo2 (w wr : World) (pa pb bu n0 : Nat) (s0 : SS) (xs : List (Op × OpS)) (k : Nat) (fv : Value) (Ra Rb S : Nat → Prop) (N : Nat) : Prop where
  trio : Trio w wr Ra Rb S pa pb (stagesX s0 (xs.take k)) (stagesX s0 (xs.take k)) N N
  n : N ≤ n0 + k
  row : FinRow w wr S bu fv (keepX (fun _ => false) (xs.take k))
  used : UsedAt wr bu (2 * k) (usedX (fun _ => false) (xs.take k))
  bu : S bu
theorem Lo2.frame {w wr : World} {pa pb bu n0 : Nat} {s0 : SS} {xs : List (Op × OpS)} {k : Nat} {fv : Value} {Ra Rb S : Nat → Prop} {N : Nat} (h : Lo2 w wr pa pb bu n0 s0 xs k fv Ra Rb S N) : Fr N0 w wr := h.trio.pair.1.2.2.2
/-- What the caller owns lies as it lay behind a command. -/
theorem Lo2.kept {w wr W : World} {pa pb bu n0 : Nat} {s0 : SS} {xs : List (Op × OpS)} {k : Nat} {fv : Value} {Ra Rb S : Nat → Prop} {N : Nat} (h : Lo2 w wr pa pb bu n0 s0 xs k fv Ra Rb S N) {T : Nat → Prop} (hf : Fr T wr W) (hT : ∀ k, S k → ¬ T k) :
    FinRow w W S bu fv (keepX (fun _ => false) (xs.take k)) ∧ UsedAt W bu (2 * k) (usedX (fun _ => false) (xs.take k)) := ⟨h.row.fr hf hT, h.used.fr hf (hT bu h.bu)⟩
theorem Lo2.none {w wr : World} {pa pb bu n0 : Nat} {s0 : SS} {xs : List (Op × OpS)} {k : Nat} {fv : Value} {Ra Rb S : Nat → Prop} {N : Nat} (h : Lo2 w wr pa pb bu n0 s0 xs k fv Ra Rb S N) (hk : k < xs.length) (h2 : xs[k].1.kind ≠ 2) (h3 : keepsO (usedX (fun _ => false) (xs.take k)) xs[k].1 = false) : Lo2 w wr pa pb bu n0 s0 xs (k + 1) fv Ra Rb S N := by
  have hts := List.take_succ_eq_append_getElem hk
  refine ⟨?_, by have := h.n; omega, ?_, ?_, h.bu⟩
  · rw [hts, stagesX_snoc, if_neg h2]; exact h.trio
  · rw [hts, keepX_snoc, h3]; simpa using h.row
  · rw [hts, usedX_snoc]
    have hu : usedO (usedX (fun _ => false) (xs.take k)) xs[k].1 = usedX (fun _ => false) (xs.take k) := by unfold usedO; rw [h3]; rfl
    rw [hu]
    obtain ⟨F, hF, hv⟩ := h.used
    exact ⟨F, hF.mono (by omega), hv⟩
theorem Lo2.stage {w wr W : World} {pa pb bu n0 : Nat} {s0 : SS} {xs : List (Op × OpS)} {k : Nat} {fv : Value} {Ra Rb S Ra' Rb' : Nat → Prop} {N : Nat} (h : Lo2 w wr pa pb bu n0 s0 xs k fv Ra Rb S N) (hk : k < xs.length) (h2 : xs[k].1.kind = 2)
    (hT : Trio w W Ra' Rb' S pa pb (sApply (stagesX s0 (xs.take k)) xs[k].1).1 (sApply (stagesX s0 (xs.take k)) xs[k].1).1 (N + 1) (N + 1)) (hr : FinRow w W S bu fv (keepX (fun _ => false) (xs.take k)) ∧ UsedAt W bu (2 * k) (usedX (fun _ => false) (xs.take k))) : Lo2 w W pa pb bu n0 s0 xs (k + 1) fv Ra' Rb' S (N + 1) := by
  have hts := List.take_succ_eq_append_getElem hk
  have h3 : keepsO (usedX (fun _ => false) (xs.take k)) xs[k].1 = false := by unfold keepsO; rw [h2]; rfl
  refine ⟨?_, by have := h.n; omega, ?_, ?_, h.bu⟩
  · rw [hts, stagesX_snoc, if_pos h2]; exact hT
  · rw [hts, keepX_snoc, h3]; simpa using hr.1
  · rw [hts, usedX_snoc]
    have hu : usedO (usedX (fun _ => false) (xs.take k)) xs[k].1 = usedX (fun _ => false) (xs.take k) := by unfold usedO; rw [h3]; rfl
    rw [hu]
    obtain ⟨F, hF, hv⟩ := hr.2
    exact ⟨F, hF.mono (by omega), hv⟩
/-- One final more is kept. -/
theorem Lo2.keep {w wr W1 W2 W3 : World} {pa pb bu n0 : Nat} {s0 : SS} {xs : List (Op × OpS)} {k : Nat} {fv : Value} {Ra Rb S : Nat → Prop} {N g c : Nat} (h : Lo2 w wr pa pb bu n0 s0 xs k fv Ra Rb S N) (hk : k < xs.length) (h3 : keepsO (usedX (fun _ => false) (xs.take k)) xs[k].1 = true)
    (hf1 : Fr (fun q => fv.ownBlock = some q) wr W1) (hrow : W1.ownsRow w.heap.size 38 16 (.slice (some ⟨g, 0, Option.none⟩) ((keepX (fun _ => false) (xs.take k)).length + 1) c) ((keepX (fun _ => false) (xs.take k)).length + 1) ((keepX (fun _ => false) (xs.take k)).flatMap opE ++ opE xs[k])) (hg : fv.ownBlock = some g ∨ g = wr.heap.size + 1) (hgl : g < W1.heap.size)
    (hf2 : Fr (fun j => j = bu) W1 W2) (hf3 : Fr (fun j => j = bu) W2 W3) (hu : UsedAt W3 bu (2 * k + 1 + 1) (updT (updT (usedX (fun _ => false) (xs.take k)) xs[k].1.start true) xs[k].1.commit (decide (xs[k].1.commit ≠ 0)))) :
    Lo2 w W3 pa pb bu n0 s0 xs (k + 1) (.slice (some ⟨g, 0, Option.none⟩) ((keepX (fun _ => false) (xs.take k)).length + 1) c) Ra Rb (fun j => (S j ∨ wr.heap.size ≤ j) ∧ j < W3.heap.size) N := by
  have hts := List.take_succ_eq_append_getElem hk
  have hk2 : xs[k].1.kind ≠ 2 := by
    unfold keepsO at h3
    simp only [Bool.and_eq_true, decide_eq_true_eq] at h3
    omega
  have hz1 := hf1.size; have hz2 := hf2.size; have hz3 := hf3.size
  have hgS : S g ∨ wr.heap.size ≤ g := hg.elim (fun h' => .inl (h.row.2 g h').1) fun h' => .inr (by omega)
  have hgb : g ≠ bu := hg.elim (fun h' => (h.row.2 g h').2) fun h' e => by have := (h.trio.new bu h.bu).2; omega
  have hf23 : Fr (fun j => j = bu) W1 W3 := hf2.trans hf3 fun _ e => .inl e
  have hfall : Fr (fun j => fv.ownBlock = some j ∨ j = bu) wr W3 := (hf1.mono fun _ e => .inl (.inl e)).trans hf23 fun _ e => .inl (.inr e)
  refine ⟨?_, by have := h.n; omega, ?_, ?_, ⟨.inl h.bu, ?_⟩⟩
  · rw [hts, stagesX_snoc, if_neg hk2]
    exact h.trio.own hfall (fun j hj => hj.elim (fun e => .inl (h.row.2 j e).1) fun e => .inl (e ▸ h.bu)) fun j hj => hj
  · rw [hts, keepX_snoc, h3]
    simp only [if_true]
    refine ⟨?_, fun j hj => ?_⟩
    · rw [flat_snoc, List.length_append, List.length_singleton]
      exact ownsRow_fr hrow hf23 fun j hj e => by
        have : j = g := by simpa [Value.ownBlock] using hj.symm
        exact hgb (this ▸ e)
    · have : j = g := by simpa [Value.ownBlock] using hj.symm
      subst this
      exact ⟨⟨hgS, by omega⟩, hgb⟩
  · rw [hts, usedX_snoc]
    have hu' : usedO (usedX (fun _ => false) (xs.take k)) xs[k].1 = updT (updT (usedX (fun _ => false) (xs.take k)) xs[k].1.start true) xs[k].1.commit (decide (xs[k].1.commit ≠ 0)) := by unfold usedO; rw [if_pos h3]
    rw [hu']
    exact hu
  · have := (h.trio.new bu h.bu).2; omega
end Go.Proofs.YtefepfiijoafbaaGreat
