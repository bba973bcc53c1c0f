/- The steps of uids.counted: the next number of the head's list, and a head that has none. -/
import Derived.Test.YtldboadcglofaaaCnt
import Derived.Test.YtldboadcglofaaaTop
namespace Go.Proofs.Ytldboadcglofaaa
open Go.RowKit Go.Shelf
set_option linter.unusedVariables false
set_option linter.unusedSimpArgs false

/-- M, but m at b. -/
def upd (M : Nat → List Int) (b : Nat) (m : List Int) : Nat → List Int := fun q => if q = b then m else M q
theorem upd_at (M : Nat → List Int) (b : Nat) (m : List Int) : upd M b m b = m := by simp [upd]
theorem upd_ne {M : Nat → List Int} {b q : Nat} {m : List Int} (h : q ≠ b) : upd M b m q = M q := by simp [upd, h]

/-- Behind a call of next that gave a number. -/
def Given (W W1 : World) (base : Nat) (S : Nat → Prop) (v : Value) (b : Nat) (r : List Int) : Prop :=
  ∃ va' bl, W1.heap[b]? = some (.cells #[va'] 22 (0, 0)) ∧ Ints .u64 W1 bl va' r ∧ Fr (fun q => q = b) W W1 ∧ base ≤ bl ∧ ¬ S bl ∧ v.ownBlock ≠ some bl

section
variable {W W1 : World} {base hb : Nat} {S : Nat → Prop} {v : Value} {u x : Int} {b : Nat} {T : List (Int × Nat)} {M : Nat → List Int} {r : List Int}

theorem Cn.call_nil (h : Cn W base S hb v ((u, b) :: T) M) (hm : M b = []) :
    Calls Try.prog 78 #[.pointer (some ⟨b, 0, none⟩)] W fun e w' => e = .returned (.tuple #[.int .u64 0, .bool false]) ∧ Fr N0 W w' := by
  obtain ⟨_, _, va, bl, h1, h2, _⟩ := h.box (u, b) (by simp)
  simp only [hm] at h2
  exact next_nil W b bl va h1 h2

theorem Cn.call_cons (h : Cn W base S hb v ((u, b) :: T) M) (hm : M b = x :: r) (hl : r.length ≤ 17592186044416) :
    Calls Try.prog 78 #[.pointer (some ⟨b, 0, none⟩)] W fun e w' => e = .returned (.tuple #[.int .u64 x, .bool true]) ∧ Given W w' base S v b r := by
  obtain ⟨_, _, va, bl, h1, h2, h3⟩ := h.box (u, b) (by simp)
  simp only [hm] at h2 h3
  obtain ⟨h4, h5, h6⟩ := h3 (by simp)
  obtain ⟨a, c, hva⟩ := ints_slice' h2
  have hne : bl ≠ b := by rw [hva] at h1; exact ints_ne_box h2 (by simp) h1
  refine (next_cons W b bl va x r h1 h2 hne hl).mono fun e w' ⟨e1, va', e2, e3, e4⟩ => ⟨e1, va', bl, e2, e3, e4, h4, h5, h6⟩

theorem Cn.bne (h : Cn W base S hb v ((u, b) :: T) M) : b ≠ hb ∧ v.ownBlock ≠ some b ∧ b < W.heap.size := by
  obtain ⟨_, _, va, bl, h1, _⟩ := h.box (u, b) (by simp)
  refine ⟨fun e => ?_, fun e => ?_, lt_of_block h1⟩
  · have := h.heap.box; rw [← e] at this; simp only at h1; rw [h1] at this; simp at this
  · obtain ⟨c, hc⟩ := ownsRow_elem h.heap.row e; simp only at h1; rw [hc] at h1; simp at h1

theorem down_of_head {H : List (Int × Nat)} {p q : Int × Nat} (h : IsHp (keyOf (p :: H)) (p :: H).length) : DownF (keyOf (q :: H)) (q :: H).length 0 := by
  have hk : ∀ i, 0 < i → keyOf (q :: H) i = keyOf (p :: H) i := fun i hi => by
    obtain ⟨j, rfl⟩ : ∃ j, i = j + 1 := ⟨i - 1, by omega⟩
    rfl
  refine ⟨fun c h0 hc hp => ?_, fun h0 => absurd h0 (by omega)⟩
  rw [hk c h0, hk _ (by omega)]
  exact h c h0 hc

/-- The row behind next and the store of its number. -/
theorem Cn.stored (h : Cn W base S hb v ((u, b) :: T) M) (hg : Given W W1 base S v b r) {g n cap : Nat} (hv : v = .slice (some ⟨g, 0, none⟩) n cap) (hn : n = ((u, b) :: T).length) (x : Int) :
    HRow (W1.setCell ⟨g, 0, none⟩ (.int .u64 x)) base v ((x, b) :: T) ∧ (W1.setCell ⟨g, 0, none⟩ (.int .u64 x)).heap[hb]? = some (.cells #[v] 107 (0, 0)) ∧ Fr (fun q => q = hb ∨ v.ownBlock = some q ∨ q = b) W (W1.setCell ⟨g, 0, none⟩ (.int .u64 x)) := by
  obtain ⟨va', bl, h1, h2, h3, h4, h5, h6⟩ := hg
  obtain ⟨n1, n2, n3⟩ := h.bne
  have hrow1 : HRow W1 base v ((u, b) :: T) := h.heap.row.fr h3 fun k hk e => by subst e; exact n2 hk
  have hgh : g ≠ hb := fun e => h.heap.apart (by rw [hv, e]; rfl)
  refine ⟨?_, ?_, (h3.mono fun k hk => .inl (.inr (.inr hk))).setCell (p := ⟨g, 0, none⟩) (.inl (.inr (.inl (by rw [hv]; rfl)))) _⟩
  · rw [hv] at hrow1 ⊢
    have := hrow1.set1 hn 0 (by simp) x
    simpa using this
  · rw [Below.heap_setCell _ _ _ _ (fun e => hgh e.symm)]
    exact (h3.at (fun e => n1 e.symm) (lt_of_block h.heap.box)).trans h.heap.box

theorem Cn.next (h : Cn W base S hb v ((u, b) :: T) M) (hm : M b = x :: r) (hg : Given W W1 base S v b r) {g n cap : Nat} (hv : v = .slice (some ⟨g, 0, none⟩) n cap) (hn : n = ((u, b) :: T).length) {W3 : World} {H3 : List (Int × Nat)}
    (hh : HpAt W3 base hb v H3) (hp : H3.Perm ((x, b) :: T)) (hf3 : Fr (fun q => v.ownBlock = some q) (W1.setCell ⟨g, 0, none⟩ (.int .u64 x)) W3) (hS : ∀ k, S k → k < W.heap.size) : Cn W3 base S hb v H3 (upd M b r) := by
  obtain ⟨s1, s2, s3⟩ := h.stored hg hv hn x
  obtain ⟨n1, n2, n3⟩ := h.bne
  obtain ⟨_, _, va, bl0, b1, i1, _⟩ := h.box (u, b) (by simp)
  obtain ⟨a, c, hva⟩ := ints_slice' i1
  obtain ⟨va', bl, h1, h2, h3, h4, h5, h6⟩ := hg
  have hnd := h.apart
  simp only [List.map_cons, List.nodup_cons] at hnd
  have hfW3 : Fr (fun q => v.ownBlock = some q) W1 W3 := ((Fr.refl (fun q => v.ownBlock = some q) W1).setCell (p := ⟨g, 0, none⟩) (.inl (by rw [hv]; rfl)) _).trans hf3 fun k hk => .inl hk
  have hr := h.rises (u, b) (by simp)
  have hw := h.wf (u, b) (by simp)
  simp only [hm] at hr hw
  refine h.step b hh (fun q hq => .inl hq) (s3.trans hf3 fun k hk => .inl (.inr (.inl hk))) (fun p hpm hne => ?_) (fun q hq => upd_ne hq) ⟨a, _, c, hva⟩ b1 (fun p hpm e => ?_) ?_ hS
  · rcases List.mem_cons.1 (hp.mem_iff.1 hpm) with e | e
    · rw [e] at hne; exact absurd rfl hne
    · exact List.mem_cons_of_mem _ e
  · have hpx : p = (x, b) := by
      rcases List.mem_cons.1 (hp.mem_iff.1 hpm) with e' | e'
      · exact e'
      · exact absurd (List.mem_map.2 ⟨p, e', e⟩) hnd.1
    subst hpx
    obtain ⟨hb1, hb2, _⟩ := h.box (u, b) (by simp)
    rw [upd_at]
    exact ⟨hb1, hb2, ⟨va', bl, (hfW3.at n2 (lt_of_block h1)).trans h1, h2.fr hfW3 h6, fun _ => ⟨h4, h5, h6⟩⟩, (List.pairwise_cons.1 hr).2, fun y hy => hw y (List.mem_cons_of_mem _ hy)⟩
  · have := (hp.map (·.2)).nodup_iff.2 (by simp only [List.map_cons, List.nodup_cons]; exact hnd)
    exact this

theorem Cn.pop (h : Cn W base S hb v ((u, b) :: T) M) {W1 W3 : World} {v' : Value} {H3 : List (Int × Nat)} (hf1 : Fr N0 W W1)
    (hh : HpAt W3 base hb v' H3) (hp : (H3 ++ [(u, b)]).Perm ((u, b) :: T)) (ho : v'.ownBlock = v.ownBlock) (hf3 : Fr (fun q => q = hb ∨ v.ownBlock = some q) W1 W3) (hS : ∀ k, S k → k < W.heap.size) : Cn W3 base S hb v' H3 M := by
  have hp' : H3.Perm T := by
    have h1 : ((u, b) :: H3).Perm (H3 ++ [(u, b)]) := (List.perm_append_singleton (u, b) H3).symm
    exact (h1.trans hp).cons_inv
  obtain ⟨_, _, va, bl0, b1, i1, _⟩ := h.box (u, b) (by simp)
  obtain ⟨a, c, hva⟩ := ints_slice' i1
  have hnd := h.apart
  simp only [List.map_cons, List.nodup_cons] at hnd
  have hnb : ∀ p ∈ H3, p.2 ≠ b := fun p hpm e => hnd.1 (List.mem_map.2 ⟨p, hp'.mem_iff.1 hpm, e⟩)
  refine h.step b hh (fun q hq => .inl (by rw [← ho]; exact hq)) ((hf1.mono fun k hk => hk.elim).trans hf3 fun k hk => .inl (hk.elim (fun h1 => .inl h1) fun h1 => .inr (.inl h1))) (fun p hpm hne => List.mem_cons_of_mem _ (hp'.mem_iff.1 hpm)) (fun q hq => rfl) ⟨a, _, c, hva⟩ b1 (fun p hpm e => absurd e (hnb p hpm)) ?_ hS
  exact (hp'.map (·.2)).nodup_iff.2 hnd.2

theorem cnt_next (h : Cn W base S hb v ((u, b) :: T) M) (hm : M b = x :: r) {H3 : List (Int × Nat)} (hp : H3.Perm ((x, b) :: T)) (y : Int) : cnt H3 (upd M b r) y + (if y = u then 1 else 0) = cnt ((u, b) :: T) M y := by
  have hnd := h.apart
  simp only [List.map_cons, List.nodup_cons] at hnd
  have hr := h.rises (u, b) (by simp)
  simp only [hm] at hr
  have hu : u ∉ x :: r := fun hu => by have := (List.pairwise_cons.1 hr).1 u hu; omega
  rw [cnt_perm hp, cnt_cons, cnt_cons, cnt_congr (M := M) (M' := upd M b r) (fun p hpm => upd_ne fun e => hnd.1 (List.mem_map.2 ⟨p, hpm, e⟩))]
  simp only [upd_at, hm]
  have e1 : (y = x ∨ y ∈ r) ↔ y ∈ x :: r := List.mem_cons.symm
  simp only [e1]
  by_cases e : y = u
  · subst e
    rw [if_neg hu, if_pos rfl, if_pos (.inl rfl)]
  · by_cases e2 : y ∈ x :: r
    · rw [if_pos e2, if_neg e, if_pos (.inr e2)]
    · rw [if_neg e2, if_neg e, if_neg (by rintro (h | h); exact e h; exact e2 h)]

theorem cnt_pop (h : Cn W base S hb v ((u, b) :: T) M) (hm : M b = []) {H3 : List (Int × Nat)} (hp : (H3 ++ [(u, b)]).Perm ((u, b) :: T)) (y : Int) : cnt H3 M y + (if y = u then 1 else 0) = cnt ((u, b) :: T) M y := by
  have h1 : ((u, b) :: H3).Perm ((u, b) :: T) := (List.perm_append_singleton (u, b) H3).symm.trans hp
  rw [← cnt_perm h1, cnt_cons]
  simp [hm]

theorem tot_next (h : Cn W base S hb v ((u, b) :: T) M) (hm : M b = x :: r) {H3 : List (Int × Nat)} (hp : H3.Perm ((x, b) :: T)) : tot H3 (upd M b r) + 1 = tot ((u, b) :: T) M := by
  have hnd := h.apart
  simp only [List.map_cons, List.nodup_cons] at hnd
  rw [tot_perm hp, tot_cons, tot_cons, tot_congr (M := M) (M' := upd M b r) (fun p hpm => upd_ne fun e => hnd.1 (List.mem_map.2 ⟨p, hpm, e⟩))]
  simp only [upd_at, hm, List.length_cons]
  omega
theorem tot_pop (hm : M b = []) {H3 : List (Int × Nat)} (hp : (H3 ++ [(u, b)]).Perm ((u, b) :: T)) : tot H3 M + 1 = tot ((u, b) :: T) M := by
  have h1 : ((u, b) :: H3).Perm ((u, b) :: T) := (List.perm_append_singleton (u, b) H3).symm.trans hp
  rw [← tot_perm h1, tot_cons]
  simp [hm]; omega

theorem Cn.push {W' : World} {H H' : List (Int × Nat)} {v' va : Value} {bl : Nat} (h : Cn W base S hb v H M) (hbx : W.heap[b]? = some (.cells #[va] 22 (0, 0))) (hi : Ints .u64 W bl va r) (hb0 : base ≤ b) (hbS : ¬ S b)
    (hbl : 0 < r.length → base ≤ bl ∧ ¬ S bl ∧ v.ownBlock ≠ some bl) (hnew : ∀ p ∈ H, p.2 ≠ b) (hr : (u :: r).Pairwise (· < ·)) (hw : ∀ y ∈ u :: r, 0 < y ∧ y < 18446744073709551616)
    (hh : HpAt W' base hb v' H') (hp : H'.Perm (H ++ [(u, b)])) (hv : ∀ q, v'.ownBlock = some q → v.ownBlock = some q ∨ W.heap.size ≤ q) (hf : Fr (fun q => q = hb ∨ v.ownBlock = some q) W W') (hS : ∀ k, S k → k < W.heap.size) :
    Cn W' base S hb v' H' (upd M b r) := by
  have hmem : ∀ p, p ∈ H' ↔ p ∈ H ∨ p = (u, b) := fun p => by rw [hp.mem_iff]; simp
  obtain ⟨a, c, hva⟩ := ints_slice' hi
  have n1 : b ≠ hb := fun e => by have := h.heap.box; rw [← e, hbx] at this; simp at this
  have n2 : v.ownBlock ≠ some b := fun e => by obtain ⟨c, hc⟩ := ownsRow_elem h.heap.row e; rw [hc] at hbx; simp at hbx
  refine h.step b hh hv (hf.mono fun k hk => .inl (hk.elim (fun h1 => .inl h1) fun h1 => .inr (.inl h1))) (fun p hpm hne => ?_) (fun q hq => upd_ne hq) ⟨a, _, c, hva⟩ hbx (fun p hpm e => ?_) ?_ hS
  · rcases (hmem p).1 hpm with h1 | h1
    · exact h1
    · rw [h1] at hne; exact absurd rfl hne
  · rcases (hmem p).1 hpm with h1 | h1
    · exact absurd e (hnew p h1)
    · subst h1
      rw [upd_at]
      refine ⟨hb0, hbS, ?_, hr, hw⟩
      have hbx' : BoxAt W b r (fun bl => base ≤ bl ∧ ¬ S bl ∧ v.ownBlock ≠ some bl) := ⟨va, bl, hbx, hi, hbl⟩
      refine hbx'.fr hf (by rintro (h4 | h4); exact n1 h4; exact n2 h4) fun bl2 va2 hi2 h0 ⟨h5, h6, h7⟩ => ⟨?_, h5, h6, fun e' => ?_⟩
      · obtain ⟨a3, cap3, hvf⟩ := HpAt.vform (hb := hb) h.heap.row
        rintro (h8 | h8)
        · have hbq := h.heap.box; rw [hvf] at hbq
          exact ints_ne_box hi2 h0 hbq h8
        · exact h7 h8
      · rcases hv bl2 e' with h8 | h8
        · exact h7 h8
        · have := hi2.lt h0; omega
  · have h1 : ((H ++ [(u, b)]).map (·.2)).Nodup := by
      rw [List.map_append, List.nodup_append]
      refine ⟨h.apart, by simp, fun x hx y hy e => ?_⟩
      obtain ⟨p, hp1, rfl⟩ := List.mem_map.1 hx
      simp at hy
      exact hnew p hp1 (by rw [e, hy])
    exact (hp.map (·.2)).nodup_iff.2 h1
theorem cnt_push {H H' : List (Int × Nat)} (hnew : ∀ p ∈ H, p.2 ≠ b) (hp : H'.Perm (H ++ [(u, b)])) (y : Int) : cnt H' (upd M b r) y = cnt H M y + if y ∈ u :: r then 1 else 0 := by
  have h1 : H'.Perm ((u, b) :: H) := hp.trans (List.perm_append_singleton (u, b) H)
  rw [cnt_perm h1, cnt_cons, cnt_congr (M := M) (M' := upd M b r) (fun p hpm => upd_ne (hnew p hpm))]
  simp only [upd_at, List.mem_cons]

/-- What lies at the head. -/
def Looks (W : World) (hb g n cap : Nat) (u : Int) (b : Nat) : Prop := W.cell? ⟨hb, 0, none⟩ = some (.slice (some ⟨g, 0, none⟩) n cap) ∧ W.cell? ⟨g, 0, none⟩ = some (.int .u64 u) ∧ W.cell? ⟨g, 1, none⟩ = some (nextFn b) ∧ W.frozen? ⟨g, 0, none⟩ = false
theorem Cn.look (h : Cn W base S hb v ((u, b) :: T) M) : ∃ g n cap, v = .slice (some ⟨g, 0, none⟩) n cap ∧ n = ((u, b) :: T).length ∧ Looks W hb g n cap u b := by
  obtain ⟨g, cap, rfl⟩ := h.heap.row.form (by simp)
  obtain ⟨c1, c2⟩ := h.heap.row.cells rfl 0 (by simp)
  exact ⟨g, _, cap, rfl, rfl, cell_of_one h.heap.box, by simpa using c1, by simpa using c2, h.heap.row.frozenAt 0⟩
theorem Given.look (h : Cn W base S hb v ((u, b) :: T) M) (hg : Given W W1 base S v b r) {g n cap : Nat} (hv : v = .slice (some ⟨g, 0, none⟩) n cap) (hl : Looks W hb g n cap u b) : Looks W1 hb g n cap u b := by
  obtain ⟨va', bl, h1, h2, h3, h4, h5, h6⟩ := hg
  obtain ⟨n1, n2, n3⟩ := h.bne
  have hgb : g ≠ b := fun e => n2 (by rw [hv, e]; rfl)
  obtain ⟨l1, l2, l3, l4⟩ := hl
  exact ⟨h3.cell (fun e => n1 e.symm) l1, h3.cell hgb l2, h3.cell hgb l3, (frozen_same (h3.at hgb (lt_of_cell l2))).trans l4⟩

/-- The head is the least. -/
theorem Cn.least (h : Cn W base S hb v ((u, b) :: T) M) : ∀ y, 0 < cnt ((u, b) :: T) M y → u ≤ y := fun y hy => by
  obtain ⟨p, hp, hpy⟩ := List.countP_pos_iff.1 hy
  have hpy : y = p.1 ∨ y ∈ M p.2 := by simpa using hpy
  obtain ⟨i, hi, rfl⟩ := List.getElem_of_mem hp
  have h1 := hp_min h.heap.ord i hi
  rw [keyOf_get hi] at h1
  have h0 : keyOf ((u, b) :: T) 0 = u := rfl
  rw [h0] at h1
  rcases hpy with rfl | hpy
  · exact h1
  · have := (List.pairwise_cons.1 (h.rises _ hp)).1 y hpy
    omega
theorem Cn.has (h : Cn W base S hb v ((u, b) :: T) M) : 0 < cnt ((u, b) :: T) M u := by
  rw [cnt_cons]; simp
end

end Go.Proofs.Ytldboadcglofaaa
