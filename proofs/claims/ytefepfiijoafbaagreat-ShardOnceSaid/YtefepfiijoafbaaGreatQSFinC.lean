/- final: a commit's two loops. -/
import Derived.Test.YtefepfiijoafbaaGreatQSFinA
import Derived.Test.YtefepfiijoafbaaGreatQAddY
namespace Go.Proofs.YtefepfiijoafbaaGreat
open Go.RowKit Go.Shelf Go.Maps
attribute [local go_sem] Oper.semAt_some
attribute [local go_sem ↓] Go.wp_at_zero Go.wp_at_succ
attribute [local irreducible] wpQuiet
set_option linter.unusedVariables false
set_option linter.unusedSimpArgs false

def lvSnd : Code → Code
  | .seq _ b => b
  | c => c
def lvThen : Code → Code
  | .cond _ a _ => a
  | c => c
def lvIn : Code → Code
  | .block _ c => c
  | c => c
noncomputable def finX (n : Nat) : Code := lvSuf n (lvThen (lvSnd (lvFst (finB 3))))
noncomputable def finL1 : Code := lvIn (lvSnd (lvFst (finX 2)))
noncomputable def finL2 : Code := lvIn (lvSnd (lvFst (finX 4)))

theorem normS_nodup (xs : List ByteArray) : (normS xs).Nodup := by
  unfold normS
  have h := (normL_rises xs).1
  refine List.pairwise_map.2 (h.imp fun {a b} hlt e => ?_)
  have := mkS_inj e
  subst this
  exact List.lt_irrefl _ hlt
theorem normS_mem {xs : List ByteArray} {q : ByteArray} : q ∈ normS xs ↔ q ∈ xs := by
  unfold normS
  rw [List.mem_map]
  constructor
  · rintro ⟨x, hx, rfl⟩
    obtain ⟨s, hs, e⟩ := ((normL_rises xs).2 x).1 hx
    rw [← e, mkS_data]; exact hs
  · intro hs
    exact ⟨q.data.toList, ((normL_rises xs).2 _).2 ⟨q, hs, rfl⟩, mkS_data q⟩

set_option maxRecDepth 100000 in
set_option maxHeartbeats 4000000 in
/-- Has it all the predicates? -/
theorem finLoop1 {K : Act → World → Prop} {Q : Exit → Act → World → Prop} (W : World) (f : Nat → Value) (R : Nat → Prop) (t : StB) (m : StM) (s : SS) (N : Nat) (h : StAt W R t m s N) (P : List ByteArray) (bb : Nat) (a : Option Addr) (cap : Nat) (hP : Strs W bb (.slice a P.length cap) P) (hsz : ∀ q ∈ P, q.size ≤ 64) (hn : P.length ≤ 1000)
    (h0 : f 0 = .pointer (some ⟨t.p, 0, none⟩)) (h52 : f 52 = .slice a P.length cap) (h53 : f 53 = .int .i64 P.length) (h54 : f 54 = .int .i64 0)
    (hQ : ∀ f', f' 4 = .int .i64 5 → (∃ q ∈ P, s.lists q = none) → Q .ret (frA 117 f') W)
    (hK : ∀ f', f' 0 = f 0 → f' 3 = f 3 → f' 7 = f 7 → f' 9 = f 9 → (∀ q ∈ P, s.lists q ≠ none) → K (frA 117 f') W) :
    Code.wp Tryz.prog finL1 (Exit.inBlock 0 (Exit.then K Q)) (frA 117 f) W := by
  obtain ⟨a', off, cap', he, p1, p2, p3, -, p5⟩ := hP
  injection he with e1 e2 e3
  subst e1 e3
  obtain ⟨m1, n1, l1⟩ := box_cells h.cells
  have hlook : ∀ q ∈ P, (s.lists q = none ∧ (Instr.lookup 119 (.map (some t.mL)) (.string q) true).run Tryz.prog W = .ok (.tuple #[.pointer none, .bool false]) W) ∨ (s.lists q ≠ none ∧ ∃ pl, (Instr.lookup 119 (.map (some t.mL)) (.string q) true).run Tryz.prog W = .ok (.tuple #[.pointer (some ⟨pl, 0, none⟩), .bool true]) W) := fun q hq => by
    have hk : keyOf Tryz.prog 9 (.string q) = some (litS q) := Go.WideMaps.keyOf_string_mk Tryz.underlying9 (by have := hsz q hq; unfold maxLen; omega)
    cases hl : s.lists q with
    | none => exact .inl ⟨rfl, h.mapL.look_none lawSt Tryz.underlying119 (zeroPLR _) hk (by rw [viewL_at, hl]; rfl)⟩
    | some l => exact .inr ⟨by simp, m.pt q, h.mapL.look_some lawSt Tryz.underlying119 (zeroPLR _) hk (by rw [viewL_at, hl]; rfl)⟩
  obtain ⟨p, mL, mS, mF⟩ := t
  simp only at *
  have HL := Lib.hid hlook; have HP := Lib.hid p5; have HQ := Lib.hid hQ; have HK := Lib.hid hK
  have H0 := Lib.hid h0
  clear hlook p5 hQ hK h hsz
  show Code.wp _ _ _ { tmps := #[f 0, f 1, f 2, f 3, f 4, f 5, f 6, f 7, f 8, f 9, f 10, f 11, f 12, f 13, f 14, f 15, f 16, f 17, f 18, f 19, f 20, f 21, f 22, f 23, f 24, f 25, f 26, f 27, f 28, f 29, f 30, f 31, f 32, f 33, f 34, f 35, f 36, f 37, f 38, f 39, f 40, f 41, f 42, f 43, f 44, f 45, f 46, f 47, f 48, f 49, f 50, f 51, f 52, f 53, f 54, f 55, f 56, f 57, f 58, f 59, f 60, f 61, f 62, f 63, f 64, f 65, f 66, f 67, f 68, f 69, f 70, f 71, f 72, f 73, f 74, f 75, f 76, f 77, f 78, f 79, f 80, f 81, f 82, f 83, f 84, f 85, f 86, f 87, f 88, f 89, f 90, f 91, f 92, f 93, f 94, f 95, f 96, f 97, f 98, f 99, f 100, f 101, f 102, f 103, f 104, f 105, f 106, f 107, f 108, f 109, f 110, f 111, f 112, f 113, f 114, f 115, f 116], defers := [] } _
  rw [h0, h52, h53, h54]
  clear h0 h52 h53 h54
  conv => arg 2; whnf
  go_frame
  go_loopw [54] (fun iv wr => ∃ k : Nat, k ≤ P.length ∧ iv = .int .i64 k ∧ Hid (∀ j (h : j < P.length), j < k → s.lists P[j] ≠ none) ∧ wr = W) (fun iv _ => P.length - (intOf iv).toNat)
  case atStart => exact ⟨0, Nat.zero_le _, rfl, fun j h hj => by omega, rfl⟩
  case round =>
    obtain ⟨k, hk, rfl, hz, rfl⟩ := hrel
    by_cases hlt : k < P.length
    · obtain rfl := p3 (by omega)
      have c0 := HP.out k hlt
      have hli := HL.out P[k] (List.getElem_mem hlt)
      have hmem := List.getElem_mem hlt
      have hnx : s.lists P[k] ≠ none → ∀ j (h : j < P.length), j < k + 1 → s.lists P[j] ≠ none := fun he j h hj => by
        rcases Nat.lt_or_ge j k with h' | h'
        · exact hz.out j h h'
        · have : j = k := by omega
          subst this; exact he
      obtain ⟨x, hx⟩ : ∃ x, P[k] = x := ⟨_, rfl⟩
      simp only [hx] at c0 hli hmem hnx
      clear hx
      have hki : (k : Int) < (P.length : Int) := by omega
      have HNX := Lib.hid hnx
      clear hnx hz
      rcases hli with ⟨hq, hlk⟩ | ⟨hq, pl, hlk⟩
      · have HN : Hid (∃ q ∈ P, s.lists q = none) := ⟨x, hmem, hq⟩
        clear hq hmem
        go_wp2
        refine cut_useQ (n := 117) (Q := Q) (e := .ret) _ rfl ?_
        exact HQ.out _ rfl HN.out
      · have HNQ := Lib.hid hq
        clear hq hmem
        go_wp2
        go_roundw
        case rel => exact ⟨k + 1, by omega, by go_num, HNX.out HNQ.out, by first | rfl | trivial⟩
        case measure => simp [intOf]; omega
    · obtain rfl : k = P.length := by omega
      have hall : ∀ q ∈ P, s.lists q ≠ none := fun q hq => by
        obtain ⟨j, hj, rfl⟩ := List.mem_iff_getElem.1 hq
        exact hz.out j hj hj
      have HA := Lib.hid hall
      clear hall hz
      go_wp2
      refine cut_use (n := 117) (K := K) _ rfl ?_
      exact HK.out _ H0.out.symm rfl rfl rfl HA.out

set_option maxRecDepth 100000 in
set_option maxHeartbeats 1000000 in
theorem final1_any (x : Wr) (w : World) (A : Nat) (q : ByteArray) (hA : w.cell? ⟨A, 0, none⟩ = some (.string q)) : Calls Tryz.prog 187 #[.agg x.enc.toArray, .pointer (some ⟨A, 0, none⟩)] w fun e w' => e = .returned (.bool (x.pred.toList != q.toList)) ∧ Fr N0 w w' := by
  have ha := fun o => ((Fr.refl N0 w).alloc o).cell id hA
  obtain ⟨xd, xu, xp, vk, vb, vn, vs, vu⟩ := x
  simp only [Wr.enc]
  clear hA
  go_enter Tryz.func187, Tryz.ntmps187
  go_wp2
  (try go_quiet (fail))
  (try go_wp2)
  go_ret
  exact ⟨rfl, by first | exact (Fr.refl N0 w).alloc _ | exact ((Fr.refl N0 w).alloc _).drewN _⟩
end Go.Proofs.YtefepfiijoafbaaGreat
