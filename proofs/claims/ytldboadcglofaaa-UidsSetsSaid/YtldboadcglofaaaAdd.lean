/- A list of uids while it is made: what it owns in memory; adding a uid above all.
   Conditions: at most 2^44 uids. -/
import Derived.Test.YtldboadcglofaaaSeqs
namespace Go.Proofs.Ytldboadcglofaaa
open Go.RowKit Go.Shelf
attribute [local go_sem] Oper.semAt_some
set_option linter.unusedVariables false

theorem infoBlock : (Try.prog.info? 68).map (fun i => (i.zero, i.size, i.bytes)) = some (some (.agg #[.int .u64 0, .slice none 0 0]), 2, 32) := by kernel_rfl
theorem infoU64 : (Try.prog.info? 23).map (fun i => (i.zero, i.size, i.bytes)) = some (some (.int .u64 0), 1, 8) := by kernel_rfl

def blkCells (bl : List Blk) : List Value := bl.flatMap fun k => [.int .u64 (k.c.headD 0), k.v]

theorem ownsRow_same {w w' : World} {base : Nat} {e : TypeId} {size : Nat} {v : Value} {n : Nat} {xs : List Value} (h : w.ownsRow base e size v n xs)
    (hs : ∀ g, v.ownBlock = some g → w'.heap[g]? = w.heap[g]?) : w'.ownsRow base e size v n xs := by
  refine ⟨h.1, ?_⟩
  rcases h.2 with hn | ⟨g, cap, cur, rfl, hb, hgg, rest⟩
  · exact .inl hn
  · exact .inr ⟨g, cap, cur, rfl, hb, (hs g rfl).trans hgg, rest⟩

theorem ownsRow_elem {w : World} {base : Nat} {e : TypeId} {size : Nat} {v : Value} {n : Nat} {xs : List Value} (h : w.ownsRow base e size v n xs) {g : Nat} (hg : v.ownBlock = some g) :
    ∃ cur, w.heap[g]? = some (.cells cur e (0, 0)) := by
  rcases h.2 with ⟨rfl, _⟩ | ⟨g', cap, cur, rfl, hb, hgg, rest⟩
  · simp [Value.ownBlock] at hg
  · simp [Value.ownBlock] at hg; subst hg; exact ⟨cur, hgg⟩

/-- The list at B owns the blocks S (all that it uses lies there) and holds bl. -/
structure OwnL (w : World) (S : Nat → Prop) (B : Nat) (vb : Value) (bl : List Blk) : Prop where
  sB : S B
  at_ : w.heap[B]? = some (.cells #[vb, .int .i64 (uidsOf bl).length] 70 (0, 0))
  row : w.ownsRow 0 68 2 vb bl.length (blkCells bl)
  sG : ∀ g, vb.ownBlock = some g → S g
  more : ∀ k ∈ bl, w.ownsRow 0 23 1 k.v (diffs k.c).length ((diffs k.c).map (Value.int .u64)) ∧ (∀ g, k.v.ownBlock = some g → S g) ∧ k.c ≠ [] ∧ k.c.length ≤ 32
  apart : bl.Pairwise fun a b => a.v.ownBlock = none ∨ a.v.ownBlock ≠ b.v.ownBlock
  full : ∀ i (h : i < bl.length), i + 1 < bl.length → bl[i].c.length = 32

theorem OwnL.same {w w' : World} {S : Nat → Prop} {B : Nat} {vb : Value} {bl : List Blk} (h : OwnL w S B vb bl) (hs : SameOn S w w') : OwnL w' S B vb bl where
  sB := h.sB
  at_ := (hs.block _ h.sB (lt_of_block h.at_)).trans h.at_
  row := ownsRow_same h.row fun g hg => by obtain ⟨c, hc⟩ := ownsRow_elem h.row hg; exact hs.block _ (h.sG g hg) (lt_of_block hc)
  sG := h.sG
  more := fun k hk => by
    obtain ⟨h1, h2, h3⟩ := h.more k hk
    exact ⟨ownsRow_same h1 fun g hg => by obtain ⟨c, hc⟩ := ownsRow_elem h1 hg; exact hs.block _ (h2 g hg) (lt_of_block hc), h2, h3⟩
  apart := h.apart
  full := h.full

theorem heap_setCell_two {w : World} {B : Nat} {a b u : Value} {t : TypeId} (h : w.heap[B]? = some (.cells #[a, b] t (0, 0))) :
    (w.setCell ⟨B, 0, none⟩ u).heap[B]? = some (.cells #[u, b] t (0, 0)) ∧ (w.setCell ⟨B, 1, none⟩ u).heap[B]? = some (.cells #[a, u] t (0, 0)) :=
  ⟨by rw [heap_setCell_same w B 0 _ t u h]; rfl, by rw [heap_setCell_same w B 1 _ t u h]; rfl⟩

theorem uidsOf_len (bl : List Blk) (hf : ∀ i (h : i < bl.length), i + 1 < bl.length → bl[i].c.length = 32) (hne : ∀ k ∈ bl, k.c ≠ [] ∧ k.c.length ≤ 32) :
    (bl = [] ∧ (uidsOf bl).length = 0) ∨ ∃ b0 k, bl = b0 ++ [k] ∧ (uidsOf bl).length = 32 * b0.length + k.c.length := by
  rcases List.eq_nil_or_concat bl with rfl | ⟨b0, k, rfl⟩
  · exact .inl ⟨rfl, rfl⟩
  · rw [List.concat_eq_append] at hf hne ⊢
    refine .inr ⟨b0, k, rfl, ?_⟩
    rw [uidsOf_append, List.length_append]
    have h1 : (uidsOf [k]).length = k.c.length := by simp [uidsOf]
    have h2 : ∀ (b : List Blk), (∀ x ∈ b, x.c.length = 32) → (uidsOf b).length = 32 * b.length := by
      intro b
      induction b with
      | nil => intro _; rfl
      | cons x b ih =>
        intro hx
        rw [uidsOf_cons, List.length_append, hx x (by simp), ih (fun y hy => hx y (by simp [hy]))]
        simp; omega
    rw [h1, h2 b0]
    intro x hx
    obtain ⟨i, hi, rfl⟩ := List.getElem_of_mem hx
    have := hf i (by simp; omega) (by simp; omega)
    rwa [List.getElem_append_left hi] at this

/-- A block more. -/
theorem OwnL.push {w w1 : World} {S : Nat → Prop} {B : Nat} {vb v' : Value} {bl : List Blk} {tmp : Obj} {u : Int} (h : OwnL w S B vb bl)
    (hg : (w.alloc tmp).grownBy w1 vb.ownBlock) (hown : w1.ownsRow 0 68 2 v' (bl.length + 1) (blkCells bl ++ [.int .u64 u, .slice none 0 0]))
    (hv : ∀ g, v'.ownBlock = some g → vb.ownBlock = some g ∨ w.heap.size ≤ g) (hf : ∀ k ∈ bl, k.c.length = 32) {W : World}
    (hW : (w1.setCell ⟨B, 0, none⟩ v').setCell ⟨B, 1, none⟩ (.int .i64 ((uidsOf bl).length + 1)) = W) :
    ∃ S', OwnL W S' B v' (bl ++ [⟨[u], .slice none 0 0, 0⟩]) ∧ Fr S w W ∧ ((∀ k, S k → k < w.heap.size) → Grows S S' w W) := by
  have hBlt := lt_of_block h.at_
  have hone : ∀ k, v'.ownBlock = some k → ∃ c, w1.heap[k]? = some (.cells c 68 (0, 0)) := fun k hk => ownsRow_elem hown hk
  have hnB : vb.ownBlock ≠ some B := fun e => by
    obtain ⟨c, hc⟩ := ownsRow_elem h.row e
    rw [h.at_] at hc; simp at hc
  have hB1 : w1.heap[B]? = some (.cells #[vb, .int .i64 (uidsOf bl).length] 70 (0, 0)) := by
    rw [hg.block B (by simp; omega) (fun e => hnB e.symm)]
    exact (Below.heap_alloc _ _ _ hBlt).trans h.at_
  have hWB : W.heap[B]? = some (.cells #[v', .int .i64 ((uidsOf bl).length + 1)] 70 (0, 0)) := by
    rw [← hW]; exact (heap_setCell_two (heap_setCell_two hB1).1).2
  have hWo : ∀ k, k ≠ B → W.heap[k]? = w1.heap[k]? := fun k hk => by
    rw [← hW]; exact (Below.heap_setCell _ _ _ _ hk).trans (Below.heap_setCell _ _ _ _ hk)
  have hfr1 : Fr S w w1 := ((Fr.refl _ _).alloc tmp).grown hg fun k e => .inl (h.sG k e)
  have hfrW : Fr S w W := by rw [← hW]; exact (hfr1.setCell (.inl h.sB) _).setCell (.inl h.sB) _
  have hzW : W.heap.size = w1.heap.size := by rw [← hW]; simp [World.setCell]
  have hv'B : v'.ownBlock ≠ some B := fun e => by
    obtain ⟨c, hc⟩ := ownsRow_elem hown e
    rw [hB1] at hc; simp at hc
  refine ⟨fun k => S k ∨ v'.ownBlock = some k, ⟨.inl h.sB, ?_, ?_, fun g hg => .inr hg, ?_, ?_, ?_⟩, hfrW, ?_⟩
  · rw [hWB]; simp [uidsOf]
  · have := ownsRow_same (w' := W) hown (fun g hg => hWo g (fun e => hv'B (by rw [hg, e])))
    simpa [blkCells] using this
  · intro k hk
    rcases List.mem_append.1 hk with hk | hk
    · obtain ⟨h1, h2, h3⟩ := h.more k hk
      refine ⟨ownsRow_same h1 fun g hg' => ?_, fun g hg' => .inl (h2 g hg'), h3⟩
      obtain ⟨c, hc⟩ := ownsRow_elem h1 hg'
      have hgB : g ≠ B := fun e => by rw [e, h.at_] at hc; simp at hc
      rw [hWo g hgB, hg.block g (by have := lt_of_block hc; simp; omega) (fun e => by
        obtain ⟨c', hc'⟩ := ownsRow_elem h.row e.symm
        rw [hc] at hc'; simp at hc')]
      exact Below.heap_alloc _ _ _ (lt_of_block hc)
    · simp at hk; subst hk
      exact ⟨World.ownsRow_nil _ _ _ _, by simp [Value.ownBlock], by simp, by simp⟩
  · rw [List.pairwise_append]
    refine ⟨h.apart, by simp, fun a ha b hb => ?_⟩
    simp at hb; subst hb
    cases hx : a.v.ownBlock with
    | none => exact .inl rfl
    | some g => exact .inr (by simp [Value.ownBlock])
  · intro i hi hi1
    have hi2 : i < bl.length := by simp at hi1; omega
    rw [List.getElem_append_left hi2]
    exact hf _ (List.getElem_mem hi2)
  · intro hSl k hk
    have hz := hfrW.size
    rcases hk with hk | hk
    · exact ⟨.inl hk, by have := hSl k hk; omega⟩
    · obtain ⟨c, hc⟩ := ownsRow_elem hown hk
      refine ⟨?_, by have := lt_of_block hc; omega⟩
      rcases hv k hk with h1 | h1
      · exact .inl (h.sG k h1)
      · exact .inr h1

theorem blkCells_append (a b : List Blk) : blkCells (a ++ b) = blkCells a ++ blkCells b := by simp [blkCells]
theorem blkCells_length (a : List Blk) : (blkCells a).length = 2 * a.length := by
  induction a with
  | nil => rfl
  | cons x a ih => simp [blkCells] at ih ⊢; omega

/-- The last block has one uid more. -/
theorem OwnL.extend {w w1 : World} {S : Nat → Prop} {B G gcap : Nat} {vb v' : Value} {b0 : List Blk} {k : Blk} {tmp : Obj} {u d : Int} (h : OwnL w S B vb (b0 ++ [k]))
    (hvb : vb = .slice (some ⟨G, 0, none⟩) (b0.length + 1) gcap)
    (hg : (w.alloc tmp).grownBy w1 k.v.ownBlock) (hown : w1.ownsRow 0 23 1 v' ((diffs k.c).length + 1) ((diffs k.c).map (Value.int .u64) ++ [.int .u64 d]))
    (hv : ∀ g, v'.ownBlock = some g → k.v.ownBlock = some g ∨ w.heap.size ≤ g) (hd : diffs (k.c ++ [u]) = diffs k.c ++ [d]) (hk32 : k.c.length < 32) {W : World}
    (hW : (w1.setCell ⟨G, b0.length * 2 + 1, none⟩ v').setCell ⟨B, 1, none⟩ (.int .i64 ((uidsOf (b0 ++ [k])).length + 1)) = W) :
    ∃ S', OwnL W S' B vb (b0 ++ [⟨k.c ++ [u], v', 0⟩]) ∧ Fr S w W ∧ ((∀ k, S k → k < w.heap.size) → Grows S S' w W) := by
  obtain ⟨hk1, hk2, hk3, hk4⟩ := h.more k (by simp)
  have hSG : S G := h.sG G (by rw [hvb]; rfl)
  obtain ⟨curG, hcG⟩ := ownsRow_elem h.row (g := G) (by rw [hvb]; rfl)
  have hone : ∀ j, v'.ownBlock = some j → ∃ c, w1.heap[j]? = some (.cells c 23 (0, 0)) := fun j hj => ownsRow_elem hown hj
  have hke : ∀ j, k.v.ownBlock = some j → ∃ c, w.heap[j]? = some (.cells c 23 (0, 0)) := fun j hj => ownsRow_elem hk1 hj
  have keep : ∀ j, j < w.heap.size → k.v.ownBlock ≠ some j → w1.heap[j]? = w.heap[j]? := fun j hj hne =>
    (hg.block j (by simp; omega) (fun e => hne e.symm)).trans (Below.heap_alloc _ _ _ hj)
  have hBlt := lt_of_block h.at_
  have hGlt := lt_of_block hcG
  have hB1 : w1.heap[B]? = some (.cells #[vb, .int .i64 (uidsOf (b0 ++ [k])).length] 70 (0, 0)) := by
    rw [keep B hBlt (fun e => by obtain ⟨c, hc⟩ := hke B e; rw [h.at_] at hc; simp at hc)]; exact h.at_
  have hG1 : w1.heap[G]? = w.heap[G]? := keep G hGlt (fun e => by obtain ⟨c, hc⟩ := hke G e; rw [hcG] at hc; simp at hc)
  have hBG : B ≠ G := fun e => by have h9 := h.at_; rw [e, hcG] at h9; simp at h9
  have hrow1 : w1.ownsRow 0 68 2 vb (b0 ++ [k]).length (blkCells (b0 ++ [k])) := ownsRow_same h.row fun g hg' => by
    rw [hvb] at hg'; simp [Value.ownBlock] at hg'; rw [← hg']; exact hG1
  rw [hvb, show (b0 ++ [k]).length = b0.length + 1 by simp] at hrow1
  obtain ⟨hst, hstg⟩ := hrow1.stored (b0.length * 2 + 1) v'
  have hfr1 : Fr S w w1 := ((Fr.refl _ _).alloc tmp).grown hg fun j e => .inl (hk2 j e)
  have hfrW : Fr S w W := by rw [← hW]; exact (hfr1.setCell (.inl hSG) _).setCell (.inl h.sB) _
  have hzW : W.heap.size = w1.heap.size := by rw [← hW]; simp [World.setCell]
  have hWo : ∀ j, j ≠ B → j ≠ G → W.heap[j]? = w1.heap[j]? := fun j h1 h2 => by
    rw [← hW]; exact (Below.heap_setCell _ _ _ _ h1).trans (Below.heap_setCell _ _ _ _ h2)
  have hWB : W.heap[B]? = some (.cells #[vb, .int .i64 ((uidsOf (b0 ++ [k])).length + 1)] 70 (0, 0)) := by
    rw [← hW]; exact (heap_setCell_two ((Below.heap_setCell _ _ _ _ hBG).trans hB1)).2
  have hWG : W.heap[G]? = (w1.setCell ⟨G, b0.length * 2 + 1, none⟩ v').heap[G]? := by
    rw [← hW]; exact Below.heap_setCell _ _ _ _ (fun e => hBG e.symm)
  refine ⟨fun j => S j ∨ v'.ownBlock = some j, ⟨.inl h.sB, ?_, ?_, fun g hg => .inl (h.sG g hg), ?_, ?_, ?_⟩, hfrW, ?_⟩
  · rw [hWB]; simp [uidsOf]; omega
  · have hr := ownsRow_same (w' := W) hst fun g hg' => by
      simp [Value.ownBlock] at hg'; rw [← hg']; exact hWG
    rw [hvb]
    have he : (blkCells (b0 ++ [k])).set (b0.length * 2 + 1) v' = blkCells (b0 ++ [⟨k.c ++ [u], v', 0⟩]) := by
      rw [blkCells_append, blkCells_append, List.set_append_right _ _ (by rw [blkCells_length]; omega), blkCells_length, show b0.length * 2 + 1 - 2 * b0.length = 1 by omega]
      obtain ⟨x, c, hc⟩ := List.exists_cons_of_ne_nil hk3
      simp [blkCells, hc]
    rw [he] at hr
    simpa using hr
  · intro a ha
    rcases List.mem_append.1 ha with ha | ha
    · obtain ⟨h1, h2, h3⟩ := h.more a (by simp [ha])
      refine ⟨ownsRow_same h1 fun g hg' => ?_, fun g hg' => .inl (h2 g hg'), h3⟩
      obtain ⟨c, hc⟩ := ownsRow_elem h1 hg'
      have hgB : g ≠ B := fun e => by rw [e, h.at_] at hc; simp at hc
      have hgG : g ≠ G := fun e => by rw [e, hcG] at hc; simp at hc
      have hgk : k.v.ownBlock ≠ some g := fun e => by
        have := (List.pairwise_append.1 h.apart).2.2 a ha k (by simp)
        rcases this with h1 | h1
        · rw [hg'] at h1; cases h1
        · exact h1 (by rw [hg', e])
      rw [hWo g hgB hgG, keep g (lt_of_block hc) hgk]
    · simp at ha; subst ha
      refine ⟨?_, fun g hg => .inr hg, by simp, by simp; omega⟩
      simp only
      rw [hd]
      have := ownsRow_same (w' := W) hown fun g hg' => by
        obtain ⟨c, hc⟩ := hone g hg'
        exact hWo g (fun e => by rw [e, hB1] at hc; simp at hc) (fun e => by rw [e, hG1, hcG] at hc; simp at hc)
      simpa using this
  · rw [List.pairwise_append]
    refine ⟨(List.pairwise_append.1 h.apart).1, by simp, fun a ha b hb => ?_⟩
    simp at hb; subst hb
    cases hx : a.v.ownBlock with
    | none => exact .inl rfl
    | some g =>
      refine .inr fun e => ?_
      obtain ⟨h1, h2, h3⟩ := h.more a (by simp [ha])
      obtain ⟨c, hc⟩ := ownsRow_elem h1 hx
      rcases hv g e.symm with h4 | h4
      · have := (List.pairwise_append.1 h.apart).2.2 a ha k (by simp)
        rcases this with h5 | h5
        · rw [hx] at h5; cases h5
        · exact h5 (by rw [hx, h4])
      · have := lt_of_block hc; omega
  · intro i hi hi1
    have hi2 : i < b0.length := by simp at hi1; omega
    have := h.full i (by simp; omega) (by simp; omega)
    rw [List.getElem_append_left hi2] at this ⊢
    exact this
  · intro hSl j hj
    have hz := hfrW.size
    rcases hj with hj | hj
    · exact ⟨.inl hj, by have := hSl j hj; omega⟩
    · obtain ⟨c, hc⟩ := hone j hj
      refine ⟨?_, by have := lt_of_block hc; omega⟩
      rcases hv j hj with h1 | h1
      · exact .inl (hk2 j h1)
      · exact .inr h1

theorem diffs_snoc : ∀ (c : List Int) (x u : Int), c.getLast? = some x → diffs (c ++ [u]) = diffs c ++ [u - x]
  | [], _, _, h => by simp at h
  | [a], x, u, h => by simp at h; subst h; rfl
  | a :: b :: r, x, u, h => by
    have := diffs_snoc (b :: r) x u (by simpa [List.getLast?_cons_cons] using h)
    simp only [List.cons_append] at this ⊢
    simp [diffs, this]

set_option maxRecDepth 100000 in
set_option maxHeartbeats 1000000 in
theorem add_push (w : World) (S : Nat → Prop) (B : Nat) (vb : Value) (bl : List Blk) (u last : Int) (h : OwnL w S B vb bl) (hS : ∀ k, S k → k < w.heap.size)
    (hl : (uidsOf bl).length < 17592186044416) (hmod : (uidsOf bl).length % 32 = 0) (hbl : bl.length * 32 ≤ (uidsOf bl).length) (hf : ∀ k ∈ bl, k.c.length = 32) :
    Calls Try.prog 46 #[.pointer (some ⟨B, 0, none⟩), .int .u64 u, .int .u64 last] w fun e w' => e = .returned (.tuple #[]) ∧
      ∃ S' vb' bl', OwnL w' S' B vb' bl' ∧ uidsOf bl' = uidsOf bl ++ [u] ∧ Fr S w w' ∧ Grows S S' w w' := by
  obtain ⟨i0, hi, hz0, hz1, hz2⟩ := info_parts infoBlock
  have c0 : w.cell? ⟨B, 0, none⟩ = some vb := by simp [World.cell?, h.at_]
  have c1 : w.cell? ⟨B, 1, none⟩ = some (.int .i64 (uidsOf bl).length) := by simp [World.cell?, h.at_]
  have hBlt := lt_of_block h.at_
  obtain ⟨n, hn⟩ : ∃ n, (uidsOf bl).length = n := ⟨_, rfl⟩
  rw [hn] at c1 hl hmod hbl
  have HN := Lib.hid hn; clear hn
  have hm1 : ((n : Int) % 32 == 0) = true := by rw [beq_iff_eq]; omega
  have hrow := h.row
  have hnB : vb.ownBlock ≠ some B := fun e => by
    obtain ⟨c, hc⟩ := ownsRow_elem hrow e
    rw [h.at_] at hc; simp at hc
  have hcb : ∀ w1, (w.alloc (.cells #[.int .u64 u, .slice none 0 0] 68)).grownBy w1 vb.ownBlock → w1.cell? ⟨B, 0, none⟩ = some vb ∧ w1.cell? ⟨B, 1, none⟩ = some (.int .i64 n) ∧ w1.frozen? ⟨B, 0, none⟩ = false ∧ w1.frozen? ⟨B, 1, none⟩ = false := fun w1 hg => by
    have hb : w1.heap[B]? = w.heap[B]? := (hg.block B (by simp; omega) (fun e => hnB e.symm)).trans (Below.heap_alloc _ _ _ hBlt)
    have h1 := h.at_
    rw [← hb] at h1
    exact ⟨by simp [World.cell?, h1], by rw [← HN.out]; simp [World.cell?, h1], by simp [World.frozen?, h1], by simp [World.frozen?, h1]⟩
  have HCB := Lib.hid hcb
  have HH := Lib.hid h
  clear h hcb
  go_enter Try.func46, Try.ntmps46
  go_wp2_with (at_builtin; refine wpList_append_lies _ rfl _ _ 66 rfl 0 68 i0 (.agg #[.int .u64 0, .slice none 0 0]) 2 32 Try.underlying66 hi hz0 hz1 hz2 rfl (by decide) vb bl.length (blkCells bl) rfl (hrow.alloc _) ⟨w.heap.size, 0, none⟩ 1 1 [.int .u64 u, .slice none 0 0] rfl rfl (World.news_of_block (cs := #[.int .u64 u, .slice none 0 0]) (t := 68) (fr := (0, 0)) (heap_alloc_new w _)) (by simp [Value.oneCell']) (by omega) (by unfold maxLen; omega) (by omega) (by omega) (w.heap.size + 1) (by simp) ?_; intro g gc w1 hown hgrow hfresh hlt; obtain ⟨b1, b2, b3, b4⟩ := HCB.out w1 hgrow)
  go_end0
  have h := HH.out
  obtain ⟨S', h1, h2, h3⟩ := h.push hgrow hown (fun j hj => by
    simp [Value.ownBlock] at hj; subst hj
    rcases hfresh with h1 | h1
    · exact .inl h1
    · exact .inr (by omega)) hf (by rw [HN.out])
  exact ⟨rfl, S', _, _, h1, by simp [uidsOf], h2, h3 hS⟩

set_option maxRecDepth 100000 in
set_option maxHeartbeats 1000000 in
theorem add_ext (w : World) (S : Nat → Prop) (B : Nat) (vb : Value) (b0 : List Blk) (k : Blk) (u last : Int) (h : OwnL w S B vb (b0 ++ [k])) (hS : ∀ k, S k → k < w.heap.size)
    (hl : (uidsOf (b0 ++ [k])).length < 17592186044416) (hmod : (uidsOf (b0 ++ [k])).length % 32 ≠ 0) (hbl : b0.length * 32 ≤ (uidsOf (b0 ++ [k])).length) (hk : k.c.length < 32)
    (hlast : k.c.getLast? = some last) (h0 : 0 ≤ last) (h1 : last ≤ u) (h2 : u ≤ 18446744073709551615) :
    Calls Try.prog 46 #[.pointer (some ⟨B, 0, none⟩), .int .u64 u, .int .u64 last] w fun e w' => e = .returned (.tuple #[]) ∧
      ∃ S' vb' bl', OwnL w' S' B vb' bl' ∧ uidsOf bl' = uidsOf (b0 ++ [k]) ++ [u] ∧ Fr S w w' ∧ Grows S S' w w' := by
  obtain ⟨i0, hi, hz0, hz1, hz2⟩ := info_parts infoU64
  obtain ⟨hk1, hk2, hk3, hk4⟩ := h.more k (by simp)
  have hrow := h.row
  rw [show (b0 ++ [k]).length = b0.length + 1 by simp] at hrow
  obtain ⟨G, gc, rfl⟩ := ownsRow_succ hrow
  have c0 : w.cell? ⟨B, 0, none⟩ = some (.slice (some ⟨G, 0, none⟩) (b0.length + 1) gc) := by simp [World.cell?, h.at_]
  have c1 : w.cell? ⟨B, 1, none⟩ = some (.int .i64 (uidsOf (b0 ++ [k])).length) := by simp [World.cell?, h.at_]
  have hBlt := lt_of_block h.at_
  obtain ⟨n, hn⟩ : ∃ n, (uidsOf (b0 ++ [k])).length = n := ⟨_, rfl⟩
  rw [hn] at c1 hl hmod hbl
  have HN := Lib.hid hn; clear hn
  have hm1 : ((n : Int) % 32 == 0) = false := by rw [beq_eq_false_iff_ne]; omega
  have c2 : w.cell? ⟨G, b0.length * 2 + 1, none⟩ = some k.v := by
    rw [hrow.cellAt _ (by omega), blkCells_append, List.getElem?_append_right (by rw [blkCells_length]; omega), blkCells_length, show b0.length * 2 + 1 - 2 * b0.length = 1 by omega]
    rfl
  obtain ⟨cG, hcG⟩ := ownsRow_elem hrow (g := G) rfl
  have hGlt := lt_of_block hcG
  have hkB : k.v.ownBlock ≠ some B := fun e => by obtain ⟨c, hc⟩ := ownsRow_elem hk1 e; rw [h.at_] at hc; simp at hc
  have hkG : k.v.ownBlock ≠ some G := fun e => by obtain ⟨c, hc⟩ := ownsRow_elem hk1 e; rw [hcG] at hc; simp at hc
  have hBG : B ≠ G := fun e => by have h9 := h.at_; rw [e, hcG] at h9; simp at h9
  have hcb : ∀ nq w1, ((w.drewN nq).alloc (.cells #[.int .u64 (u - last)] 23)).grownBy w1 k.v.ownBlock → w1.cell? ⟨G, b0.length * 2 + 1, none⟩ = some k.v ∧ w1.cell? ⟨B, 1, none⟩ = some (.int .i64 n) ∧
      w1.frozen? ⟨G, b0.length * 2 + 1, none⟩ = false ∧ w1.frozen? ⟨B, 1, none⟩ = false := fun nq w1 hg => by
    have hb : w1.heap[B]? = w.heap[B]? := (hg.block B (by simp [World.drewN]; omega) (fun e => hkB e.symm)).trans (Below.heap_alloc _ _ _ hBlt)
    have hb2 : w1.heap[G]? = w.heap[G]? := (hg.block G (by simp [World.drewN]; omega) (fun e => hkG e.symm)).trans (Below.heap_alloc _ _ _ hGlt)
    have h1 := h.at_
    rw [← hb] at h1
    refine ⟨(cell_same (A := w) hb2).trans c2, by rw [← HN.out]; simp [World.cell?, h1], ?_, by simp [World.frozen?, h1]⟩
    rw [frozen_same (A := w) hb2]; simp [World.frozen?, hcG]
  have HCB := Lib.hid hcb
  have HH := Lib.hid h
  have hdl : (diffs k.c).length ≤ 31 := by rw [diffs_length]; omega
  have hsub : (0 : Int) ≤ u - last ∧ u - last ≤ 18446744073709551615 := by omega
  obtain ⟨hs1, hs2⟩ := hsub
  have hwr : IntKind.i64.wrap (b0.length : Int) = (b0.length : Int) := IntWalk.i64_in _ (by omega)
  have hx1 : (b0.length : Int) < (b0.length : Int) + 1 := by omega
  clear h hcb hbl hmod
  go_enter Try.func46, Try.ntmps46
  go_wp2
  go_quiet (fail)
  clear hwr hx1
  go_wp2_with (at_builtin; go_loud (refine wpList_append_lies _ rfl _ _ 22 rfl 0 23 i0 (.int .u64 0) 1 8 Try.underlying22 hi hz0 hz1 hz2 rfl (by decide) k.v (diffs k.c).length _ rfl (hk1.alloc _) ⟨w.heap.size, 0, none⟩ 1 1 [.int .u64 (u - last)] rfl rfl (World.news_of_block (cs := #[.int .u64 (u - last)]) (t := 23) (fr := (0, 0)) (heap_alloc_new w _)) (by simp [Value.oneCell']) (by omega) (by unfold maxLen; omega) (by omega) (by omega) (w.heap.size + 1) (by simp) ?_); intro g gc w1 hown hgrow hfresh hlt; obtain ⟨b1, b2, b3, b4⟩ := HCB.out _ w1 hgrow)
  go_end0
  have h := (HH.out).same (((Fr.refl N0 w).drewN nq).same fun _ _ h => h)
  obtain ⟨S', h1, h2, h3⟩ := h.extend rfl hgrow hown (fun j hj => by
    simp [Value.ownBlock] at hj; subst hj
    rcases hfresh with h1 | h1
    · exact .inl h1
    · exact .inr (by simp [World.drewN]; omega)) (diffs_snoc _ _ _ hlast) hk (by rw [HN.out])
  exact ⟨rfl, S', _, _, h1, by simp [uidsOf], ((Fr.refl S w).drewN nq).trans h2 (fun _ h => .inl h), h3 hS⟩

/-- add: a uid above all. -/
theorem add_any (w : World) (S : Nat → Prop) (B : Nat) (vb : Value) (bl : List Blk) (u last : Int) (h : OwnL w S B vb bl) (hS : ∀ k, S k → k < w.heap.size)
    (hl : (uidsOf bl).length < 17592186044416) (hlast : ∀ x, (uidsOf bl).getLast? = some x → x = last) (h0 : 0 ≤ last) (h1 : last ≤ u) (h2 : u ≤ 18446744073709551615) :
    Calls Try.prog 46 #[.pointer (some ⟨B, 0, none⟩), .int .u64 u, .int .u64 last] w fun e w' => e = .returned (.tuple #[]) ∧
      ∃ S' vb' bl', OwnL w' S' B vb' bl' ∧ uidsOf bl' = uidsOf bl ++ [u] ∧ Fr S w w' ∧ Grows S S' w w' := by
  rcases uidsOf_len bl h.full (fun k hk => ⟨(h.more k hk).2.2.1, (h.more k hk).2.2.2⟩) with ⟨rfl, hlen⟩ | ⟨b0, k, rfl, hlen⟩
  · exact add_push w S B vb [] u last h hS hl (by rw [hlen]) (by simp) (by simp)
  · have hk := h.more k (by simp)
    have hk0 : 0 < k.c.length := List.length_pos_iff.2 hk.2.2.1
    by_cases h32 : k.c.length = 32
    · refine add_push w S B vb _ u last h hS hl (by omega) (by simp; omega) ?_
      intro a ha
      rcases List.mem_append.1 ha with ha | ha
      · obtain ⟨i, hi, rfl⟩ := List.getElem_of_mem ha
        have := h.full i (by simp; omega) (by simp; omega)
        rwa [List.getElem_append_left hi] at this
      · simp at ha; subst ha; exact h32
    · have := hk.2.2.2
      refine add_ext w S B vb b0 k u last h hS hl (by omega) (by omega) (by omega) ?_ h0 h1 h2
      obtain ⟨x, hx⟩ : ∃ x, k.c.getLast? = some x := ⟨k.c.getLast hk.2.2.1, List.getLast?_eq_some_getLast hk.2.2.1⟩
      rw [hx]
      congr 1
      exact hlast x (by rw [uidsOf_append]; simp [uidsOf, hx])

/-- From a list that is made to a list that is read. -/
theorem OwnL.isLb {w : World} {S : Nat → Prop} {B : Nat} {vb : Value} {bl : List Blk} (h : OwnL w S B vb bl) (hl : (uidsOf bl).length ≤ 17592186044416)
    (hs : (uidsOf bl).Pairwise (· < ·)) (hr : ∀ x ∈ uidsOf bl, 0 < x ∧ x < 18446744073709551616) : IsL w w.heap.size (some ⟨B, 0, none⟩) (uidsOf bl) := by
  have hbl : bl.length ≤ (uidsOf bl).length := by
    have : ∀ (b : List Blk), (∀ k ∈ b, k.c ≠ []) → b.length ≤ (uidsOf b).length := by
      intro b
      induction b with
      | nil => intro _; simp
      | cons x b ih =>
        intro hx
        have h1 := List.length_pos_iff.2 (hx x (by simp))
        have h2 := ih fun k hk => hx k (by simp [hk])
        rw [uidsOf_cons, List.length_append]; simp; omega
    exact this bl fun k hk => (h.more k hk).2.2.1
  have hBlt := lt_of_block h.at_
  have hints : ∀ k ∈ bl, (k.v.ownBlock).getD 0 < w.heap.size ∧ Ints .u64 w ((k.v.ownBlock).getD 0) k.v (diffs k.c) := fun k hk => by
    obtain ⟨h1, h2, h3, h4⟩ := h.more k hk
    have hdl := diffs_length k.c
    have hwf : ∀ x ∈ diffs k.c, (Lit.int .u64 x).wf = true := fun x hx => by
      obtain ⟨j, hj, rfl⟩ := List.getElem_of_mem hx
      have hj1 : j + 1 < k.c.length := by omega
      rw [diffs_get k.c j hj1 hj]
      have hsub : k.c <:+: uidsOf bl := by
        obtain ⟨i, hi, rfl⟩ := List.getElem_of_mem hk
        exact ⟨_, _, uidsOf_split hi rfl⟩
      have hp : k.c.Pairwise (· < ·) := hs.sublist hsub.sublist
      have h5 := List.pairwise_iff_getElem.1 hp j (j + 1) (by omega) hj1 (by omega)
      have h6 := hr _ (hsub.subset (List.getElem_mem hj1))
      have h7 := hr _ (hsub.subset (List.getElem_mem (show j < k.c.length by omega)))
      exact WalkArith.wf_u64 (by omega)
    rcases h1.2 with ⟨hv, hn⟩ | ⟨g, cap, cur, hv, hb, hg, hnc, hcm, hcs, htake⟩
    · have hz : diffs k.c = [] := List.eq_nil_of_length_eq_zero hn
      rw [hv, hz]
      exact ⟨by simp [Value.ownBlock]; omega, Ints.nil _ _ _⟩
    · rw [hv] at h1
      rw [hv]
      refine ⟨by simpa [Value.ownBlock] using lt_of_block hg, some ⟨g, 0, none⟩, 0, cap, rfl, hnc, by unfold maxLen at hcm; omega, fun _ => by simp [Value.ownBlock], by simp, fun i hi => ?_, hwf⟩
      have := h1.cellAt i (by omega)
      simp [hi] at this
      simpa [Value.ownBlock] using this
  have huid : uidsOf (bl.map fun k => (⟨k.c, k.v, (k.v.ownBlock).getD 0⟩ : Blk)) = uidsOf bl := by simp [uidsOf, Function.comp_def]
  refine ⟨bl.map fun k => ⟨k.c, k.v, (k.v.ownBlock).getD 0⟩, ?_, huid.symm, hs, hr, fun i hi hi1 => by simpa using h.full i (by simpa using hi) (by simpa using hi1)⟩
  refine .inr ?_
  rw [huid]
  rcases h.row.2 with ⟨hv, hn⟩ | ⟨g, cap, cur, hv, hb, hg, hnc, hcm, hcs, htake⟩
  · have hz : bl = [] := List.eq_nil_of_length_eq_zero hn
    subst hz
    exact ⟨B, 0, none, 0, rfl, hBlt, by omega, by rw [h.at_, hv]; rfl, .inr ⟨rfl, rfl⟩, by simp, by omega, fun i hi => absurd hi (by simp)⟩
  · refine ⟨B, g, some ⟨g, 0, none⟩, cap, rfl, hBlt, lt_of_block hg, by rw [h.at_, hv]; simp, .inl rfl, by simpa using hnc, by unfold maxLen at hcm; omega, fun i hi => ?_⟩
    have hi' : i < bl.length := by simpa using hi
    have hrow := h.row
    rw [hv] at hrow
    have hcell : ∀ j, j < 2 → (blkCells bl)[i * 2 + j]? = ([.int .u64 (bl[i].c.headD 0), bl[i].v] : List Value)[j]? := fun j hj => by
      have : bl = bl.take i ++ bl[i] :: bl.drop (i + 1) := by simp
      conv => lhs; rw [this]
      have hc2 : blkCells (bl[i] :: bl.drop (i + 1)) = [.int .u64 (bl[i].c.headD 0), bl[i].v] ++ blkCells (bl.drop (i + 1)) := rfl
      rw [blkCells_append, hc2, List.getElem?_append_right (by rw [blkCells_length]; simp; omega), blkCells_length, List.length_take, show i * 2 + j - 2 * min i bl.length = j by omega, List.getElem?_append_left (by simpa using hj)]
    have hm := h.more bl[i] (List.getElem_mem hi')
    have hin := hints bl[i] (List.getElem_mem hi')
    simp only [List.getElem_map]
    refine ⟨?_, ?_, hin.2, hin.1, hm.2.2.1, hm.2.2.2⟩
    · rw [hrow.cellAt _ (by omega)]; simpa using hcell 0 (by omega)
    · rw [hrow.cellAt _ (by omega)]; simpa using hcell 1 (by omega)

end Go.Proofs.Ytldboadcglofaaa
