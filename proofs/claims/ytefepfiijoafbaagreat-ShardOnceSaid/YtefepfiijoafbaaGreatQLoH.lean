/- The laws' arguments opened: commands. ShardOrder, its fourth loop: the drawn region that takes a final out. -/
import Derived.Deep.Slices
import Derived.Deep.RegionLaw
import Derived.Test.YtefepfiijoafbaaGreatQLoD
import Derived.Test.YtefepfiijoafbaaGreatQLoR
namespace Go.Proofs.YtefepfiijoafbaaGreat
open Go.RowKit Go.Shelf Go.Deep
set_option linter.unusedVariables false
set_option linter.unusedSimpArgs false
set_option maxRecDepth 100000

theorem cell_spot {w : World} {a : Addr} {v : Value} (h : w.cell? a = some v) : a.spot = none := by
  unfold World.cell? at h
  split at h
  · split at h
    · cases h
    · rename_i h2; simpa using h2
  · cases h

section
variable {H : Type} {enc : TypeId × Value → H} {w : World} {base : Nat} {sp : Nat → Bool} {held : Bool}

/-- A slice of whatever elements that bear a form of their own. -/
theorem open_rowsK {α : Type} [Inhabited α] {ec : α → List Value} {n : Nat} (hn : 0 < n) (hlen : ∀ x, (ec x).length = n) (Good : α → Prop) {t e : TypeId} (ht : Tryz.prog.underlying t = some (.slice e)) (hc : Tryz.prog.cellsOf e = n)
    (hel : ∀ fuel cs (x : DataW H × List MemPlace), DataW.trod enc Tryz.prog w base sp held fuel e cs = some x → ∃ a : α, cs = ec a ∧ Good a)
    {fuel : Nat} {cs : List Value} {x : DataW H × List MemPlace} (h : DataW.trod enc Tryz.prog w base sp held fuel t cs = some x) :
    ∃ b v xs, cs = [v] ∧ RowsK ec n w b v xs ∧ ∀ x ∈ xs, Good x := by
  rcases open_slice ht h with ⟨rfl, _⟩ | ⟨a, len, cap, m, k, D, Pl, rfl, hb, hl, hm, hmm, -, hx⟩
  · exact ⟨0, _, [], rfl, RowsK.nil _ _ _ _, by simp⟩
  · have hle : len ≤ m := by rw [hmm]; split <;> omega
    obtain ⟨A, hA⟩ := choose_lt (n := len) (p := fun i (a' : α) => w.cells? base (a.add (i * n)) n = some (ec a') ∧ Good a') (fun i hi => by
      obtain ⟨cs', h1, h2⟩ := hx i (by omega)
      obtain ⟨a', rfl, hg⟩ := hel _ _ _ h2
      rw [hc] at h1
      exact ⟨a', h1, hg⟩)
    have hsp : 0 < len → a.spot = none := fun h0 => by
      have h1 := (World.cells?_some (hA 0 h0).1).2.2 0 hn
      have h2 : 0 < (ec (A 0)).length := by rw [hlen]; exact hn
      rw [List.getElem?_eq_getElem h2] at h1
      have := cell_spot h1
      rw [Nat.zero_mul] at this
      simpa [Addr.add] using this
    refine ⟨a.block, _, (List.range len).map A, rfl, ⟨some a, a.off, cap, by simp, by simpa using hl, by unfold maxLen at hm; omega, fun h0 => ?_, by simp, fun i hi c hcn => ?_⟩, fun x hx' => ?_⟩
    · have := hsp (by simpa using h0)
      obtain ⟨b, o, s⟩ := a
      simp only at this
      rw [this]
    · have hi' : i < len := by simpa using hi
      have h1 := (World.cells?_some (hA i hi').1).2.2 c hcn
      have h2 := hsp (by omega)
      obtain ⟨b, o, s⟩ := a
      simp only at h2
      subst h2
      rw [addr_add0, addr_add0] at h1
      simpa using h1
    · obtain ⟨i, hi, rfl⟩ := List.mem_map.1 hx'
      exact (hA i (List.mem_range.1 hi)).2

/-- A struct's field. -/
theorem fld {fs : Array Field} {xs : List (DataW H × List MemPlace)} {cs : List Value} {n : Nat} (hlen : xs.length = fs.size)
    (hf : ∀ (i : Nat) (f : Field), fs[i]? = some f → DataW.trod enc Tryz.prog w base sp held n f.type ((cs.drop f.offset).take (Tryz.prog.cellsOf f.type)) = xs[i]?)
    {t : TypeId} {off c : Nat} (i : Nat) (hi : (fs[i]?).map (fun f => (f.type, f.offset)) = some (t, off)) (hc : Tryz.prog.cellsOf t = c) : ∃ y, DataW.trod enc Tryz.prog w base sp held n t ((cs.drop off).take c) = some y := by
  obtain ⟨f, h1, h2⟩ := Option.map_eq_some_iff.1 hi
  have h3 := hf i f h1
  have hlt : i < xs.length := by
    rw [hlen]
    exact (Array.getElem?_eq_some_iff.1 h1).1
  rw [List.getElem?_eq_getElem hlt] at h3
  obtain ⟨rfl, rfl⟩ := Prod.mk.inj h2
  subst hc
  exact ⟨_, h3⟩
theorem wf_kind {k : IntKind} {x a b : Int} (h : (Lit.int k x).wf = true) (ha : k.min = a) (hb : k.max = b) : a ≤ x ∧ x ≤ b := by
  have h' : (decide (k.min ≤ x) && decide (x ≤ k.max)) = true := h
  rw [Bool.and_eq_true, decide_eq_true_eq, decide_eq_true_eq, ha, hb] at h'
  exact h'
theorem wf_nat {x : Int} (h : (Lit.int .u64 x).wf = true) : 0 ≤ x ∧ x < 18446744073709551616 := by
  have := wf_kind (a := 0) (b := 18446744073709551615) h (by decide) (by decide); omega
theorem wf_u32' {x : Int} (h : (Lit.int .u32 x).wf = true) : 0 ≤ x ∧ x < 4294967296 := by
  have := wf_kind (a := 0) (b := 4294967295) h (by decide) (by decide); omega
theorem wf_u8' {x : Int} (h : (Lit.int .u8 x).wf = true) : 0 ≤ x ∧ x < 256 := by
  have := wf_kind (a := 0) (b := 255) h (by decide) (by decide); omega
theorem wf_i64' {x : Int} (h : (Lit.int .i64 x).wf = true) : -9223372036854775808 ≤ x ∧ x ≤ 9223372036854775807 := wf_kind h (by decide) (by decide)

theorem cells_str : Tryz.prog.cellsOf 9 = 1 := by kernel_rfl
theorem cells_bool : Tryz.prog.cellsOf 4 = 1 := by kernel_rfl
theorem cells_u64 : Tryz.prog.cellsOf 33 = 1 := by kernel_rfl
theorem cells_i64 : Tryz.prog.cellsOf 2 = 1 := by kernel_rfl
theorem cells_vkind : Tryz.prog.cellsOf 30 = 1 := by kernel_rfl
theorem cells_Schema : Tryz.prog.cellsOf 32 = 8 := by kernel_rfl
theorem cells_Write : Tryz.prog.cellsOf 61 = 8 := by kernel_rfl
theorem cells_Triple : Tryz.prog.cellsOf 59 = 7 := by kernel_rfl
theorem cells_Value : Tryz.prog.cellsOf 57 = 5 := by kernel_rfl
theorem cells_Commit : Tryz.prog.cellsOf 80 = 2 := by kernel_rfl
theorem cells_Op : Tryz.prog.cellsOf 38 = 16 := by kernel_rfl
theorem cells_SKind : Tryz.prog.cellsOf 29 = 1 := by kernel_rfl
theorem cells_writes : Tryz.prog.cellsOf 34 = 1 := by kernel_rfl
theorem cells_u64s : Tryz.prog.cellsOf 35 = 1 := by kernel_rfl
theorem cells_commits : Tryz.prog.cellsOf 36 = 1 := by kernel_rfl

theorem open_sch {fuel : Nat} {cs : List Value} {x : DataW H × List MemPlace} (h : DataW.trod enc Tryz.prog w base sp held fuel 32 cs = some x) : ∃ s : Sch, cs = s.enc ∧ True := by
  obtain ⟨xs, n, -, -, hl, hlen, hf⟩ := DataW.trod_struct Tryz.underlying32 h
  rw [cells_Schema] at hl
  match cs, hl with
  | [c0, c1, c2, c3, c4, c5, c6, c7], _ =>
    obtain ⟨_, g0⟩ := fld hlen hf 0 rfl cells_str
    obtain ⟨_, g1⟩ := fld hlen hf 1 rfl cells_vkind
    obtain ⟨_, g2⟩ := fld hlen hf 2 rfl cells_bool
    obtain ⟨_, g3⟩ := fld hlen hf 3 rfl cells_bool
    obtain ⟨_, g4⟩ := fld hlen hf 4 rfl cells_bool
    obtain ⟨_, g5⟩ := fld hlen hf 5 rfl cells_bool
    obtain ⟨_, g6⟩ := fld hlen hf 6 rfl cells_bool
    obtain ⟨_, g7⟩ := fld hlen hf 7 rfl cells_bool
    obtain ⟨s0, e0, -⟩ := DataW.trod_string Tryz.underlying9 g0
    obtain ⟨s1, e1, -⟩ := DataW.trod_int Tryz.underlying30 g1
    obtain ⟨s2, e2, -⟩ := DataW.trod_bool Tryz.underlying4 g2
    obtain ⟨s3, e3, -⟩ := DataW.trod_bool Tryz.underlying4 g3
    obtain ⟨s4, e4, -⟩ := DataW.trod_bool Tryz.underlying4 g4
    obtain ⟨s5, e5, -⟩ := DataW.trod_bool Tryz.underlying4 g5
    obtain ⟨s6, e6, -⟩ := DataW.trod_bool Tryz.underlying4 g6
    obtain ⟨s7, e7, -⟩ := DataW.trod_bool Tryz.underlying4 g7
    simp at e0 e1 e2 e3 e4 e5 e6 e7
    subst e0 e1 e2 e3 e4 e5 e6 e7
    exact ⟨⟨s0, s1, s2, s3, s4, s5, s6, s7⟩, rfl, trivial⟩
theorem open_wr {fuel : Nat} {cs : List Value} {x : DataW H × List MemPlace} (h : DataW.trod enc Tryz.prog w base sp held fuel 61 cs = some x) : ∃ s : Wr, cs = s.enc ∧ (s.ok ∧ s.pred.size ≤ maxLen) := by
  obtain ⟨xs, n, -, -, hl, hlen, hf⟩ := DataW.trod_struct Tryz.underlying61 h
  rw [cells_Write] at hl
  match cs, hl with
  | [c0, c1, c2, c3, c4, c5, c6, c7], _ =>
    obtain ⟨_, g0⟩ := fld hlen hf 0 rfl cells_bool
    obtain ⟨_, g1⟩ := fld hlen hf 1 rfl cells_Triple
    obtain ⟨xs2, n2, -, -, hl2, hlen2, hf2⟩ := DataW.trod_struct Tryz.underlying59 g1
    obtain ⟨_, t0⟩ := fld hlen2 hf2 0 rfl cells_u64
    obtain ⟨_, t1⟩ := fld hlen2 hf2 1 rfl cells_str
    obtain ⟨_, t2⟩ := fld hlen2 hf2 2 rfl cells_Value
    obtain ⟨xs3, n3, -, -, hl3, hlen3, hf3⟩ := DataW.trod_struct Tryz.underlying57 t2
    obtain ⟨_, v0⟩ := fld hlen3 hf3 0 rfl cells_vkind
    obtain ⟨_, v1⟩ := fld hlen3 hf3 1 rfl cells_bool
    obtain ⟨_, v2⟩ := fld hlen3 hf3 2 rfl cells_i64
    obtain ⟨_, v3⟩ := fld hlen3 hf3 3 rfl cells_str
    obtain ⟨_, v4⟩ := fld hlen3 hf3 4 rfl cells_u64
    obtain ⟨s0, e0, -⟩ := DataW.trod_bool Tryz.underlying4 g0
    obtain ⟨s1, e1, -, w1⟩ := DataW.trod_int Tryz.underlying33 t0
    obtain ⟨s2, e2, -, w2⟩ := DataW.trod_string Tryz.underlying9 t1
    obtain ⟨s3, e3, -, w3⟩ := DataW.trod_int Tryz.underlying30 v0
    obtain ⟨s4, e4, -⟩ := DataW.trod_bool Tryz.underlying4 v1
    obtain ⟨s5, e5, -, w5⟩ := DataW.trod_int Tryz.underlying2 v2
    obtain ⟨s6, e6, -⟩ := DataW.trod_string Tryz.underlying9 v3
    obtain ⟨s7, e7, -, w7⟩ := DataW.trod_int Tryz.underlying33 v4
    simp at e0 e1 e2 e3 e4 e5 e6 e7
    subst e0 e1 e2 e3 e4 e5 e6 e7
    exact ⟨⟨s0, s1, s2, ⟨s3, s4, s5, s6, s7⟩⟩, rfl, ⟨wf_nat w1, wf_u8' w3, wf_i64' w5, wf_nat w7⟩, w2⟩
instance : Inhabited Sch := ⟨⟨⟨#[]⟩, 0, false, false, false, false, false, false⟩⟩
instance : Inhabited Wr := ⟨⟨false, 0, ⟨#[]⟩, ⟨0, false, 0, ⟨#[]⟩, 0⟩⟩⟩
instance : Inhabited CmV := ⟨⟨0, none, 0, 0⟩⟩
instance : Inhabited (Op × OpS) := ⟨⟨⟨0, 0, 0, [], default, ⟨#[]⟩, 0, 0, 0⟩, ⟨none, 0, none, 0, none, 0⟩⟩⟩
theorem open_cm {fuel : Nat} {cs : List Value} {x : DataW H × List MemPlace} (h : DataW.trod enc Tryz.prog w base sp held fuel 80 cs = some x) : ∃ s : CmV, cs = s.enc ∧ ∃ b' ys, Wrs w b' (.slice s.a s.n s.c) ys := by
  obtain ⟨xs, n, -, -, hl, hlen, hf⟩ := DataW.trod_struct Tryz.underlying80 h
  rw [cells_Commit] at hl
  match cs, hl with
  | [c0, c1], _ =>
    obtain ⟨_, g0⟩ := fld hlen hf 0 rfl cells_u64
    obtain ⟨_, g1⟩ := fld hlen hf 1 rfl cells_writes
    obtain ⟨s0, e0, -⟩ := DataW.trod_int Tryz.underlying33 g0
    obtain ⟨b1, v1, l1, e1, r1, -⟩ := open_rowsK (n := 8) (by decide) (fun _ => rfl) (fun s : Wr => s.ok ∧ s.pred.size ≤ maxLen) Tryz.underlying34 cells_Write (fun _ _ _ h => open_wr h) g1
    simp at e0 e1
    have r2 := r1
    obtain ⟨a, o, c, rfl, -⟩ := r2
    subst e0 e1
    exact ⟨⟨s0, a, l1.length, c⟩, rfl, b1, l1, r1⟩
/-- What is known of a command that was handed in. -/
def OpGood (w : World) (x : Op × OpS) : Prop := OpIs w x.1 x.2 ∧ x.1.wf ∧ x.1.pred.size ≤ maxLen
theorem open_op {fuel : Nat} {cs : List Value} {x : DataW H × List MemPlace} (h : DataW.trod enc Tryz.prog w base sp held fuel 38 cs = some x) : ∃ r : Op × OpS, cs = opE r ∧ OpGood w r := by
  obtain ⟨xs, n, -, -, hl, hlen, hf⟩ := DataW.trod_struct Tryz.underlying38 h
  rw [cells_Op] at hl
  match cs, hl with
  | [c0, c1, c2, c3, c4, c5, c6, c7, c8, c9, c10, c11, c12, c13, c14, c15], _ =>
    obtain ⟨_, g0⟩ := fld hlen hf 0 rfl cells_SKind
    obtain ⟨_, g1⟩ := fld hlen hf 1 rfl cells_u64
    obtain ⟨_, g2⟩ := fld hlen hf 2 rfl cells_u64
    obtain ⟨_, g3⟩ := fld hlen hf 3 rfl cells_writes
    obtain ⟨_, g4⟩ := fld hlen hf 4 rfl cells_Schema
    obtain ⟨_, g5⟩ := fld hlen hf 5 rfl cells_str
    obtain ⟨_, g6⟩ := fld hlen hf 6 rfl cells_u64
    obtain ⟨_, g7⟩ := fld hlen hf 7 rfl cells_u64s
    obtain ⟨_, g8⟩ := fld hlen hf 8 rfl cells_commits
    obtain ⟨s0, e0, -, w0⟩ := DataW.trod_int Tryz.underlying29 g0
    obtain ⟨s1, e1, -, w1⟩ := DataW.trod_int Tryz.underlying33 g1
    obtain ⟨s2, e2, -, w2⟩ := DataW.trod_int Tryz.underlying33 g2
    obtain ⟨b3, v3, l3, e3, r3, o3⟩ := open_rowsK (n := 8) (by decide) (fun _ => rfl) (fun s : Wr => s.ok ∧ s.pred.size ≤ maxLen) Tryz.underlying34 cells_Write (fun _ _ _ h => open_wr h) g3
    obtain ⟨s4, e4, -⟩ := open_sch g4
    obtain ⟨s5, e5, -, w5⟩ := DataW.trod_string Tryz.underlying9 g5
    obtain ⟨s6, e6, -, w6⟩ := DataW.trod_int Tryz.underlying33 g6
    obtain ⟨b7, v7, l7, e7, r7, -⟩ := open_rowsK (ec := fun x : Int => [.int .u64 x]) (n := 1) (by decide) (fun _ => rfl) (fun x => True) Tryz.underlying35 cells_u64 (fun _ _ _ h => by
      obtain ⟨x, e, -⟩ := DataW.trod_int Tryz.underlying33 h
      exact ⟨x, e, trivial⟩) g7
    obtain ⟨b8, v8, l8, e8, r8, o8⟩ := open_rowsK (ec := CmV.enc) (n := 2) (by decide) (fun _ => rfl) (fun c => ∃ b' ys, Wrs w b' (.slice c.a c.n c.c) ys) Tryz.underlying36 cells_Commit (fun _ _ _ h => open_cm h) g8
    simp [Sch.enc] at e0 e1 e2 e3 e4 e5 e6 e7 e8
    obtain ⟨a3, o3', k3, rfl, -⟩ := id r3
    obtain ⟨a7, o7', k7, rfl, -⟩ := id r7
    obtain ⟨a8, o8', k8, rfl, -⟩ := id r8
    obtain ⟨e40, e41, e42, e43, e44, e45, e46, e47⟩ := e4
    subst e0 e1 e2 e3 e40 e41 e42 e43 e44 e45 e46 e47 e5 e6 e7 e8
    exact ⟨⟨⟨s0, s1, s2, l3, s4, s5, s6, l7.length, l8.length⟩, ⟨a3, k3, a7, k7, a8, k8⟩⟩, rfl, ⟨⟨b3, r3⟩, ⟨b8, l8, r8, o8⟩⟩, ⟨w0, w1, w2, w6, fun y hy => (o3 y hy).1.wf⟩, w5⟩
end
end Go.Proofs.YtefepfiijoafbaaGreat
namespace Go.Proofs.YtefepfiijoafbaaGreat
open Go.RowKit Go.Shelf Go.Maps
attribute [local go_sem] Oper.semAt_some
attribute [local go_sem ↓] Go.wp_at_zero Go.wp_at_succ
attribute [local irreducible] wpQuiet
set_option linter.unusedVariables false
set_option linter.unusedSimpArgs false

theorem infoOpX : ∃ i z, Tryz.prog.info? 38 = some i ∧ i.zero = some z ∧ i.size = 16 ∧ i.bytes ≤ 1000000 := by
  have h : (Tryz.prog.info? 38).map (fun i => (i.zero.isSome, i.size, i.bytes)) = some (true, 16, 144) := by kernel_rfl
  cases hi : Tryz.prog.info? 38 with
  | none => rw [hi] at h; cases h
  | some i =>
    rw [hi] at h
    simp only [Option.map_some, Option.some.injEq, Prod.mk.injEq] at h
    obtain ⟨z, hz⟩ := Option.isSome_iff_exists.1 h.1
    exact ⟨i, z, rfl, hz, h.2.1, by omega⟩
def lvLoop : Code → Code
  | .loop c => c
  | c => c
/-- The fourth loop's inner block. -/
noncomputable def lo4B : Code := lvIn (lvFst (lvSnd (lvLoop (lvIn (lvSnd (lvFst (loB 9)))))))
set_option maxRecDepth 100000 in
set_option maxHeartbeats 2000000 in
theorem lo4r {K : Act → World → Prop} (W w3 : World) (bq off m cap kk cp : Nat) (a3 : Addr) (f : Nat → Value) (hk : kk < m) (hm : m ≤ cap) (hm60 : m ≤ 60) (h11 : f 11 = .slice (some ⟨bq, off, none⟩) m cap) (h16 : f 16 = .int .i64 kk)
    (hrun : (Builtin.append_ #[23, 23] 23 #[.slice (some ⟨bq, off, none⟩) kk kk, .slice (some (if kk + 1 = cap then ⟨bq, off, none⟩ else ⟨bq, off + (kk + 1) * 16, none⟩)) (m - (kk + 1)) (cap - (kk + 1))]).run Tryz.prog W.drew = .ok (.slice (some a3) (m - 1) cp) w3)
    (hK : ∀ f', f' 1 = f 1 → f' 2 = f 2 → f' 7 = f 7 → f' 8 = f 8 → f' 15 = f 15 → f' 11 = .slice (some a3) (m - 1) cp → K (frA 174 f') w3) :
    Code.wp Tryz.prog (lvSnd (lvSnd (lvSnd lo4B))) (Exit.then K (fun _ _ _ => False)) (frA 174 f) W := by
  have HK := Lib.hid hK
  clear hK
  have hki : (kk : Int) < (m : Int) := by omega
  have hkc : (kk : Int) ≤ (cap : Int) := by omega
  have hkc1 : (kk : Int) + 1 ≤ (cap : Int) := by omega
  have hkm1 : (kk : Int) + 1 ≤ (m : Int) := by omega
  have hmc : (m : Int) ≤ (cap : Int) := by omega
  have hk0 : (0 : Int) ≤ (kk : Int) := by omega
  have hk100 : (kk : Int) ≤ 100 := by omega
  show Code.wp _ _ _ { tmps := #[f 0, f 1, f 2, f 3, f 4, f 5, f 6, f 7, f 8, f 9, f 10, f 11, f 12, f 13, f 14, f 15, f 16, f 17, f 18, f 19, f 20, f 21, f 22, f 23, f 24, f 25, f 26, f 27, f 28, f 29, f 30, f 31, f 32, f 33, f 34, f 35, f 36, f 37, f 38, f 39, f 40, f 41, f 42, f 43, f 44, f 45, f 46, f 47, f 48, f 49, f 50, f 51, f 52, f 53, f 54, f 55, f 56, f 57, f 58, f 59, f 60, f 61, f 62, f 63, f 64, f 65, f 66, f 67, f 68, f 69, f 70, f 71, f 72, f 73, f 74, f 75, f 76, f 77, f 78, f 79, f 80, f 81, f 82, f 83, f 84, f 85, f 86, f 87, f 88, f 89, f 90, f 91, f 92, f 93, f 94, f 95, f 96, f 97, f 98, f 99, f 100, f 101, f 102, f 103, f 104, f 105, f 106, f 107, f 108, f 109, f 110, f 111, f 112, f 113, f 114, f 115, f 116, f 117, f 118, f 119, f 120, f 121, f 122, f 123, f 124, f 125, f 126, f 127, f 128, f 129, f 130, f 131, f 132, f 133, f 134, f 135, f 136, f 137, f 138, f 139, f 140, f 141, f 142, f 143, f 144, f 145, f 146, f 147, f 148, f 149, f 150, f 151, f 152, f 153, f 154, f 155, f 156, f 157, f 158, f 159, f 160, f 161, f 162, f 163, f 164, f 165, f 166, f 167, f 168, f 169, f 170, f 171, f 172, f 173], defers := [] } _
  rw [h11, h16]
  clear h11 h16
  conv => arg 2; whnf
  have hw2 : ((kk : Int) + 1).toNat = kk + 1 := by omega
  have hw3 : (0 : Int) ≤ (kk : Int) + 1 := by omega
  have hw1 : IntKind.i64.wrap ((kk : Int) + 1) = (kk : Int) + 1 := IntWalk.i64_in _ (by omega)
  obtain ⟨io, zo, hio, hzo, hso, hbo⟩ := infoOpX
  by_cases hcap : kk + 1 = cap
  · rw [if_pos hcap] at hrun
    have hm1 : m - (kk + 1) = 0 := by omega
    rw [hm1, run_append_none0 W.drew 23 23 38 io Tryz.underlying23 hio] at hrun
    injection hrun with e1 e2
    have E1 := Lib.hid e1; have E2 := Lib.hid e2
    clear e1 e2 hm1 hio hzo hso hbo
    go_region_law (fail)
    all_goals
      rw [E2.out]
      show K _ _
      refine cut_use (n := 174) (K := K) _ rfl ?_
      exact HK.out _ rfl rfl rfl rfl rfl E1.out
  · rw [if_neg hcap] at hrun
    have hcap' : ¬ cap = kk + 1 := fun e => hcap e.symm
    clear hio hzo hso hbo
    go_region_law (refine step_append_run (by rfl) _ _ 23 23 (by rfl) _ _ (by go_simp) (by go_simp) hrun ?_)
    all_goals
      show K _ _
      refine cut_use (n := 174) (K := K) _ rfl ?_
      exact HK.out _ rfl rfl rfl rfl rfl rfl
end Go.Proofs.YtefepfiijoafbaaGreat
