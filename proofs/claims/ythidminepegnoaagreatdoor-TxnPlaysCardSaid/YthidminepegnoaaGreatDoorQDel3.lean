/- slices.Delete at []uint32: one element; turned from the kit's walk of the same function at int. -/
import Derived.Shelf.RegionOpenPlain
import Derived.Deep.RegionLaw
import Derived.Sort.WalkB12
import Derived.Lib.SliceRun
import Derived.Lib.SlicesDelete
import Derived.Test.YthidminepegnoaaGreatDoorQWF
import Derived.Test.YthidminepegnoaaGreatDoorQSame
namespace Go.Proofs.YthidminepegnoaaGreatDoor
open Go.RowKit Go.Shelf Go.Maps Go.Sort Go.Lib
attribute [local go_sem] Oper.semAt_some
attribute [local irreducible] wpQuiet
set_option linter.unusedVariables false
set_option linter.unusedSimpArgs false

set_option maxHeartbeats 4000000 in
set_option maxRecDepth 1000000 in
theorem del3_arr (blk off cap i j : Nat) (d : Array Int) (w : World) (hH : Holds encU3 w blk off d) (hcap : d.size ≤ cap) (hm : cap ≤ 9223372036854775807) (hij : i < j) (hj : j ≤ d.size) :
    Calls Tryz.prog 71 #[.slice (some ⟨blk, off, none⟩) d.size cap, .int .i64 i, .int .i64 j] w fun e w' => e = .returned (.slice (some ⟨blk, off, none⟩) (d.size - (j - i)) cap) ∧ ∃ q, w' = putRow encU3 (Sort.ahead w q) blk off (d.toList.take i ++ d.toList.drop j ++ List.replicate (j - i) 0).toArray := by
  obtain ⟨i0, hi0, hz0, hz1, hz2⟩ := info_parts infoU32
  have hlt : i < j := hij
  obtain ⟨news, hnews⟩ : ∃ news, news = (d.toList.drop j).map encU3 := ⟨_, rfl⟩
  have hlen : news.length = d.size - j := by rw [hnews]; simp
  have hget : ∀ t, t < d.size - j → news[t]? = some (encU3 d[j + t]!) := by
    intro t ht
    rw [hnews, List.getElem?_map, List.getElem?_drop, Array.getElem?_toList, getElem!_pos d (j + t) (by omega), Array.getElem?_eq_getElem (by omega)]
    rfl
  obtain ⟨A, hA, hsrc⟩ : ∃ A : Addr, (if cap = j then some (⟨blk, off, none⟩ : Addr) else some ⟨blk, off + j, none⟩) = some A ∧ Hid (∀ t u, news[t]? = some u → w.drew.cell? (A.add t) = some u) := by
    by_cases h : cap = j
    · refine ⟨⟨blk, off, none⟩, by simp [h], fun t u hu => ?_⟩
      have h0 : news.length = 0 := by rw [hlen]; omega
      rw [List.length_eq_zero_iff.1 h0] at hu
      simp at hu
    · refine ⟨⟨blk, off + j, none⟩, by simp [h], fun t u hu => ?_⟩
      have ht : t < d.size - j := by
        have := (List.getElem?_eq_some_iff.1 hu).1
        rwa [hlen] at this
      rw [hget t ht] at hu
      rw [Addr.add_lit, show off + j + t = off + (j + t) by omega]
      exact (hH (j + t) (by omega)).1.trans hu
  have s1 : Hid (news.length = (d.size - j) * 1) := by rw [Nat.mul_one]; exact hlen
  have s2 : Hid (∀ u ∈ news, u.oneCell' = true) := by
    intro u hu
    rw [hnews] at hu
    obtain ⟨x, _, rfl⟩ := List.mem_map.1 hu
    rfl
  have s3 : Hid (∀ t, t < news.length → (w.drew.cell? ⟨blk, off + i * 1 + t, none⟩).isSome = true ∧ w.drew.frozen? ⟨blk, off + i * 1 + t, none⟩ = false) := by
    intro t ht
    rw [hlen] at ht
    rw [Nat.mul_one, Nat.add_assoc]
    exact ⟨by show (w.cell? _).isSome = true; rw [(hH (i + t) (by omega)).1]; rfl, (hH (i + t) (by omega)).2⟩
  obtain ⟨W1, hW1⟩ : ∃ W1, W1 = w.drew.setCells blk (off + i * 1) news := ⟨_, rfl⟩
  have hW1' : W1 = putRow encU3 (Sort.ahead w 1) blk off (lay d i (d.toList.drop j)) := by
    rw [hW1, hnews, Nat.mul_one, ← putRow_setCells encU3 (Sort.ahead w 1) blk off _ d i (by simp; omega), putRow_self encU3 (Sort.ahead w 1) blk off d (holds_ahead encU3 w 1 blk off d hH)]
    rfl
  have hH1 : Holds encU3 W1 blk off (lay d i (d.toList.drop j)) := by rw [hW1']; exact holds_putRow encU3 _ blk off d _ (holds_ahead encU3 w 1 blk off d hH) (lay_size _ _ _)
  have hcl : ∀ ty, (Builtin.clear_ #[30] ty #[.slice (some ⟨blk, off + (i + (d.size - j)), none⟩) (d.size - (i + (d.size - j))) (cap - (i + (d.size - j)))]).run Tryz.prog W1 = .ok (.tuple #[]) (W1.setCells blk (off + (i + (d.size - j))) (List.replicate (d.size - (i + (d.size - j))) (encU3 0))) :=
    fun ty => Lib.run_clear_slice W1 _ _ ty _ Tryz.underlying30 (fun w => by kernel_rfl) rfl rfl blk (off + (i + (d.size - j))) _ _ (by omega) (fun t ht => by rw [show off + (i + (d.size - j)) + t = off + (i + (d.size - j) + t) by omega, (hH1 _ (by rw [lay_size]; omega)).1]; rfl) (fun t ht => by rw [show off + (i + (d.size - j)) + t = off + (i + (d.size - j) + t) by omega]; exact (hH1 _ (by rw [lay_size]; omega)).2)
  have X : Aside (W1 = putRow encU3 (Sort.ahead w 1) blk off (lay d i (d.toList.drop j))) := hW1'
  have hW : Hid (W1 = w.drew.setCells blk (off + i * 1) news) := hW1
  have hic : i ≤ cap := by omega
  have hjc : j ≤ cap := by omega
  clear hW1 hW1' hH1 hH hget hnews hlen
  go_enter Tryz.func71, Tryz.ntmps71
  go_wp2_with fail
  go_region_law (refine step_append_room rfl (.tmp 22) (.tmp 25) 30 rfl 41 i0 1 Tryz.underlying30 hi0 hz1 blk off i cap (by simp [Act.eval, Act.put]) A (d.size - j) (cap - j) news (by simp [Act.eval, Act.put]) s1.out hsrc.out s2.out (by omega) s3.out ?_; rw [← hW.out])
  go_wp2
  go_ret
  refine ⟨by rw [show d.size - (j - i) = i + (d.size - j) by omega]; rfl, 1, ?_⟩
  rw [← delete_arr d i j 0 (by omega) hj, ← putRow_setCells encU3 _ blk off _ _ (i + (d.size - j)) (by rw [lay_size]; simp; omega), ← X.out, List.map_replicate, show d.size - (i + (d.size - j)) = j - i by omega]
theorem fr_putRow3 (w : World) (q g : Nat) (d : Array Int) : Fr (fun k => k = g) w (putRow encU3 (Sort.ahead w q) g 0 d) := by
  refine ⟨rfl, rfl, rfl, by simp [putRow, mapBlock, Sort.ahead], fun k hk hl => ?_⟩
  have : g ≠ k := fun e => hk e.symm
  simp [putRow, mapBlock, Sort.ahead, Array.getElem?_modify, this]
theorem erase_is (xs : List Int) (k : Nat) (hk : k < xs.length) : xs.take k ++ xs.drop (k + 1) = xs.eraseIdx k := by
  rw [List.eraseIdx_eq_take_drop_succ]
/-- Delete of one number out of an owned row. -/
theorem del3_any (w : World) (base : Nat) (v : Value) (xs : List Int) (h : w.ownsRow base 41 1 v xs.length (xs.map (Value.int .u32))) (hwf : ∀ x ∈ xs, (Lit.int .u32 x).wf = true) (k : Nat) (hk : k < xs.length) :
    Calls Tryz.prog 71 #[v, .int .i64 k, .int .i64 (k + 1)] w fun e w' => ∃ a c, e = .returned (.slice a (xs.length - 1) c) ∧ (∃ b, Ints .u32 w' b (.slice a (xs.length - 1) c) (xs.eraseIdx k)) ∧ Fr (fun j => v.ownBlock = some j) w w' := by
  have hh := h
  rcases h.2 with ⟨hv, h0⟩ | ⟨g, cap, cur, hv, hgb, hgg, hnc, hcm, hsz, htk⟩
  · omega
  · have hH : Holds encU3 w g 0 xs.toArray := by
      intro j hj
      have hj' : j < xs.length := by simpa using hj
      refine ⟨?_, by simp [World.frozen?, hgg]⟩
      rw [Nat.mul_one] at htk
      have h1 : (cur.toList.take xs.length)[j]? = (xs.map encU3)[j]? := by rw [htk]
      rw [List.getElem?_take_of_lt hj'] at h1
      simp only [World.cell?, hgg, Nat.zero_add]
      simp only [Option.isSome_none, Bool.false_eq_true, if_false]
      rw [← Array.getElem?_toList, h1]
      simp [hj']
    have hc := del3_arr g 0 cap k (k + 1) xs.toArray w hH (by simpa using hnc) (by unfold maxLen at hcm; omega) (by omega) (by simp; omega)
    rw [hv]
    have e1 : ((k + 1 : Nat) : Int) = (k : Int) + 1 := by omega
    rw [e1] at hc
    simp only [List.size_toArray, Nat.add_sub_cancel_left] at hc
    refine hc.mono ?_
    rintro e w' ⟨rfl, q, rfl⟩
    have hfr := fr_putRow3 w q g (xs.take k ++ xs.drop (k + 1) ++ List.replicate 1 0).toArray
    have hlen : (xs.eraseIdx k).length = xs.length - 1 := by rw [List.length_eraseIdx, if_pos hk]
    have hHn := holds_putRow encU3 (Sort.ahead w q) g 0 xs.toArray (xs.take k ++ xs.drop (k + 1) ++ List.replicate 1 0).toArray (holds_ahead _ _ _ _ _ _ hH) (by simp; omega)
    refine ⟨some ⟨g, 0, none⟩, cap, rfl, ⟨g, some ⟨g, 0, none⟩, 0, cap, by rw [hlen], by omega, by unfold maxLen at hcm; omega, fun _ => rfl, by simp, fun i hi => ?_, fun x hx => hwf x (List.mem_of_mem_eraseIdx hx)⟩, hfr.mono fun j hj => .inl (by simp [Value.ownBlock]; exact hj.symm)⟩
    have h2 := (hHn i (by simp; omega)).1
    refine h2.trans ?_
    have : (xs.take k ++ xs.drop (k + 1) ++ List.replicate 1 0).toArray[i]! = (xs.eraseIdx k)[i] := by
      rw [erase_is xs k hk, getElem!_pos _ i (by simp; omega)]
      simp [hi]
    rw [this]

end Go.Proofs.YthidminepegnoaaGreatDoor
