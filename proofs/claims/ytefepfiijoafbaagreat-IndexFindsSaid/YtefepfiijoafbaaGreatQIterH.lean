/- IterU Keys4 IterH -/
import Derived.Shelf.SlIterI.Sorted
import Derived.Maps.RangeWalk
import Derived.Maps.OwnSet
import Derived.Sort.KeysCollected
import Derived.Sort.OwnSorted
import Derived.Test.YtefepfiijoafbaaGreatQSoH
import Derived.Test.YtefepfiijoafbaaGreatQValR
import Derived.Test.YtefepfiijoafbaaGreatQValO
set_option linter.unusedVariables false
set_option linter.unusedSimpArgs false
set_option maxRecDepth 100000
set_option maxHeartbeats 2000000
namespace Go.Proofs.YtefepfiijoafbaaGreat
section
open Go.RowKit Go.Maps Go.Sort Go.Shelf
abbrev encU6:Int→Value:=Value.int .u64
theorem infoU64:(Tryz.prog.info? 33).map (fun i=>(i.zero,i.size,i.bytes))=some (some (.int .u64 0),1,8):=by kernel_rfl
def u6Of:Lit→Int
 | .int _ a=>a
 | _=>0
def u6Keys{H:Type}:DataW H→List Int
 | .map es=>es.map fun p=>u6Of p.1
 | _=>[]
theorem encU6_inj{x y:Int}(h:encU6 x=encU6 y):x=y:=by simpa [encU6] using h
theorem keyOf_u64{P:Program}{k:TypeId}(hk:P.underlying k=some (.int .u64)){key:Value}{kl:Lit}(h:keyOf P k key=some kl):∃ x:Int,key=encU6 x∧kl = .int .u64 x∧(Lit.int .u64 x).wf=true:=by
 cases key <;> simp [keyOf,hk,mapKey] at h
 rename_i q a
 obtain⟨⟨rfl,hw⟩,rfl⟩:=h
 exact⟨a,rfl,rfl,hw⟩
theorem perm_u6Keys{H:Type}{es:List (Lit × DataW H)}(hp:es.Pairwise (fun p q=>p.1≠q.1))(hk:∀ p ∈ es,∃ x,p.1 = .int .u64 x){ss:List Int}(hnd:ss.Nodup)(hm:∀ x,x ∈ ss↔has (.map es) (.int .u64 x)=true) :
  ss.Perm (u6Keys (.map es)):=by
 refine(List.perm_ext_iff_of_nodup hnd ?_).2 fun x=>?_
 ·show(es.map fun p=>u6Of p.1).Nodup
  refine List.pairwise_map.2 (hp.imp_of_mem fun {p q} hp' hq' hne e=>hne ?_)
  obtain⟨a,ha⟩:=hk p hp'
  obtain⟨b,hb⟩:=hk q hq'
  rw[ha,hb] at e ⊢
  exact congrArg _ e
 ·rw[hm x,has_eq,List.any_eq_true]
  show _↔x ∈ es.map fun p=>u6Of p.1
  rw[List.mem_map]
  constructor
  ·rintro⟨p,hp',hs⟩
   obtain⟨a,ha⟩:=hk p hp'
   rw[ha] at hs
   exact⟨p,hp',by rw[ha];simpa [Lit.sameKey,u6Of] using hs⟩
  ·rintro⟨p,hp',rfl⟩
   obtain⟨a,ha⟩:=hk p hp'
   exact⟨p,hp',by rw[ha];simp [Lit.sameKey,u6Of]⟩
def CollectedU6{H:Type}(D0:DataW H)(left:Lit→Bool)(ss:List Int):Prop:=ss.Nodup∧∀ x,x ∈ ss↔(has D0 (.int .u64 x)=true∧left (.int .u64 x)=false)
section
variable {H:Type} {D0:DataW H} {left:Lit→Bool} {ss:List Int}
theorem CollectedU6.start(D0:DataW H):CollectedU6 D0 (has D0) []:=⟨List.nodup_nil,fun x=>by cases has D0 (.int .u64 x) <;> simp⟩
theorem CollectedU6.step(h:CollectedU6 D0 left ss){x:Int}{y:DataW H}(hlk:left (.int .u64 x)=true)(hat:∀ zd,D0.atKey (.int .u64 x) zd=y):CollectedU6 D0 (fun z=>left z && !z.sameKey (.int .u64 x)) (ss ++ [x]):=by
 have hhas:has D0 (.int .u64 x)=true:=has_true_of_atKey hat
 have hnew:x ∉ ss:=fun hx=>by have:=((h.2 x).1 hx).2;rw[hlk] at this;cases this
 refine⟨List.nodup_append.2 ⟨h.1,by simp,fun a ha b hb=>by simp at hb;subst hb;exact fun e=>hnew (e ▸ ha)⟩,fun y=>?_⟩
 by_cases hy:y=x
 ·subst hy;simp [hhas,Lit.sameKey]
 ·simp [h.2 y,hy,Lit.sameKey]
variable {P:Program} {k:TypeId} {R:Value→Option (DataW H × List MemPlace)} {w:World} {b n:Nat}
theorem CollectedU6.perm(h:CollectedU6 D0 left ss)(hown:w.ownsMap P k R b n D0)(K:Keyed P k)(hk:P.underlying k=some (.int .u64))(hl:∀ kl,left kl=false):ss.Perm (u6Keys D0):=by
 obtain⟨es,hD,hpw,_⟩:=hown.entries K
 obtain⟨es',hD',hko⟩:=hown.keysOf
 obtain rfl:es=es':=by rw[hD] at hD';simpa using hD'
 subst hD
 exact perm_u6Keys hpw (fun p hp=>by obtain⟨v,hv⟩:=hko p hp;obtain⟨x,_,hx,_⟩:=keyOf_u64 hk hv;exact⟨x,hx⟩) h.1 (fun x=>by rw[h.2 x,hl];simp)
theorem u6Keys_wf(hown:w.ownsMap P k R b n D0)(hk:P.underlying k=some (.int .u64)):∀ x ∈ u6Keys D0,(Lit.int .u64 x).wf=true:=by
 obtain⟨es,rfl,hko⟩:=hown.keysOf
 intro x hx
 obtain⟨p,hp,rfl⟩:=List.mem_map.1 hx
 obtain⟨v,hv⟩:=hko p hp
 obtain⟨y,_,hy,hl⟩:=keyOf_u64 hk hv
 rw[hy];exact hl
end
theorem holds_of_block_u6{w:World}{g:Nat}{cur:Array Value}{e:TypeId}{ss:List Int}(hb:w.heap[g]?=some (.cells cur e (0,0)))(ht:cur.toList.take ss.length=ss.map encU6):Holds encU6 w g 0 ss.toArray:=by
 intro j hj
 have hj':j < ss.length:=by simpa using hj
 refine⟨?_,by simp [World.frozen?,hb]⟩
 have h1:(cur.toList.take ss.length)[j]?=(ss.map encU6)[j]?:=by rw[ht]
 rw[List.getElem?_take_of_lt hj'] at h1
 simp only [World.cell?,hb,Nat.zero_add]
 simp only [Option.isSome_none,Bool.false_eq_true,if_false]
 rw[← Array.getElem?_toList,h1]
 simp [hj']
theorem heap_sorted_u6{w:World}{g n:Nat}{os:Array Obj}{cur:Array Value}{e:TypeId}{fr:Nat × Nat}(d:Array Int)(hb:w.heap[g]?=some (.cells cur e fr)) :
  (grow (putRow encU6 (Sort.ahead w n) g 0 d) os).heap[g]?=some (.cells (putCells encU6 0 d cur) e fr):=by
 have hg:g < w.heap.size:=(Array.getElem?_eq_some_iff.1 hb).1
 rw[heap_grow_old _ _ (by simpa using hg)]
 simp [putRow,mapBlock,Sort.ahead,Array.getElem?_modify,hb,onCells]
theorem grownBy_sorted_u6{w:World}{g n:Nat}{os:Array Obj}(d:Array Int):w.grownBy (grow (putRow encU6 (Sort.ahead w n) g 0 d) os) (some g):=by
 refine⟨rfl,rfl,rfl,by simp,fun k hk hne=>?_⟩
 rw[heap_grow_old _ _ (by simpa using hk)]
 have:g≠k:=fun e=>hne (by rw[e])
 simp [putRow,mapBlock,Sort.ahead,Array.getElem?_modify,this]
theorem take_putCells_u6(cur:Array Value)(ts:List Int)(h:ts.length≤cur.size):(putCells encU6 0 ts.toArray cur).toList.take ts.length=ts.map encU6:=by
 apply List.ext_getElem?
 intro j
 by_cases hj:j < ts.length
 ·rw[List.getElem?_take_of_lt hj,Array.getElem?_toList]
  simp [putCells,hj,show j < cur.size by omega]
 ·rw[List.getElem?_take_eq_none (by omega),List.getElem?_eq_none (by simp;omega)]
theorem ownsRow_sorted_u6{w:World}{base g cap n:Nat}{e:TypeId}{os:Array Obj}{cur:Array Value}{ss ts:List Int}(hl:ts.length=ss.length)(hbase:base≤g)(hb:w.heap[g]?=some (.cells cur e (0,0)))
  (h1:ss.length≤cap) (h2:cap≤maxLen) (h3:cur.size=cap * 1) :
  (grow (putRow encU6 (Sort.ahead w n) g 0 ts.toArray) os).ownsRow base e 1 (.slice (some ⟨g,0,none⟩) ss.length cap) ss.length (ts.map encU6):=
 ⟨by simp [hl],.inr ⟨g,cap,_,rfl,hbase,heap_sorted_u6 _ hb,h1,h2,by simp [putCells,h3],by rw[Nat.mul_one,← hl];exact take_putCells_u6 cur ts (by omega)⟩⟩
def V64.apAssign : Code := (Code.region 2 #[{ dst := some 5, op := Op.assign (Operand.tmp 7), type := 33, pos := "iter.go:51", after := #[], guard := none }] false)
def V64.apBody : Code := (Code.block 1 (Code.region 3 #[{ dst := some 8, op := Op.load 35 (Operand.tmp 2), type := 35, pos := "iter.go:52", after := #[], guard := none }, { dst := some 9, op := Op.move (Operand.tmp 5), type := 33, pos := "iter.go:52", after := #[], guard := none }, { dst := some 10, op := Op.buildSlice 35 1 #[(0, Operand.tmp 9)], type := 35, pos := "iter.go:52", after := #[{ on := 1, ground := Ground.data }], guard := none }, { dst := some 11, op := Op.call { callee := Callee.builtin Builtin.append, args := #[Operand.tmp 8, Operand.tmp 10], argTypes := #[35, 35] }, type := 35, pos := "iter.go:52", after := #[{ on := 0, ground := Ground.data }, { on := 2, ground := Ground.data }], guard := none }, { dst := none, op := Op.store 35 (Operand.tmp 2) (Operand.tmp 11), type := 0, pos := "iter.go:52", after := #[{ on := 3, ground := Ground.data }, { on := 3, ground := Ground.chain }, { on := 0, ground := Ground.phase }, { on := 1, ground := Ground.phase }, { on := 2, ground := Ground.phase }, { on := 3, ground := Ground.phase }], guard := none }] false))
def V64.apRec(fn:FuncId)(sv:Value)(Bs D:Nat)(st:LoopState)(pend:Option Code):Loop:=
 { state:=st,pending:=pend,fn,tmps:=#[.slice none 0 0,sv,.pointer (some ⟨Bs,0,none⟩),undef,.slice none 0 0,undef,sv,undef,undef,undef,undef,undef,undef],params:=#[7],assign:=V64.apAssign,body:=V64.apBody,defers:=D }
structure V64.ApAt(w0:World)(fn:FuncId)(sv:Value)(Bs l D:Nat)(ss:List Int)(W:World):Prop where
 box:∃ v,W.heap[Bs]?=some (.cells #[v] 35 (0,0))∧W.ownsRow w0.heap.size 33 1 v ss.length (ss.map encU6)∧(v = .slice none 0 0↔ss = [])
 L:W.heap[l]?=some (.loop (V64.apRec fn sv Bs D .ready none))
 K:W.heap[D]?=some (.deferred (some []))
 below:Below w0.heap.size w0 W
theorem V64.ap_abides(w0:World)(fn:FuncId)(sv:Value)(Bs l D B:Nat)(hB:w0.heap.size≤B):AbidesFrom B (V64.ApAt w0 fn sv Bs l D):=fun s W W' row h hg hrow=>by
 have hrow':∀ r,row=some r→∃ o:Obj,W.heap[r]?=some o∧o.isWalk=true:=fun r e=>(hrow r e).2
 obtain⟨v,hv,hr,hn⟩:=h.box
 exact⟨⟨v,(grownBy_keeps hg hrow' hv rfl).trans hv,ownsRow_abides_a hr hg hrow',hn⟩,(grownBy_keeps hg hrow' h.L rfl).trans h.L,(grownBy_keeps hg hrow' h.K rfl).trans h.K,
  h.below.grown hg h.below.size (fun k e=>Nat.le_trans hB (hrow k e).1)⟩
theorem V64.apYield (F : Fence) (m : Nat) (w0 : World) (fn : FuncId) (hfn : F.fn fn) (sv : Value) (Bs l D : Nat) (hBl : Bs ≠ l) (hDl : D ≠ l) (hDB : D ≠ Bs) (h0B : w0.heap.size ≤ Bs) (h0l : w0.heap.size ≤ l)
    (N : Nat) (hN : N ≤ maxLen) (hNb : N * 8 ≤ 140737488355328) (ss : List Int) (x : Int) (W : World) (h : V64.ApAt w0 fn sv Bs l D ss W) (hlen : ss.length < N) :
    YieldAt F m Tryz.prog l #[encU6 x] W fun e W' => e = .returned (.bool true) ∧ V64.ApAt w0 fn sv Bs l D (ss ++ [x]) W' ∧ KeepsWalks W W' := by
  have hne : (35 : TypeId) ≠ 33 := by decide
  obtain ⟨i0, hi, hz0, hz1, hz2⟩ := info_parts infoU64
  obtain ⟨v, hv, hrow, _⟩ := h.box
  refine ⟨fn, #[.slice none 0 0, sv, .pointer (some ⟨Bs, 0, none⟩), undef, .slice none 0 0, undef, sv, encU6 x, undef, undef, undef, undef, undef], V64.apAssign, V64.apBody, by simpa [V64.apRec] using run_yield (P := Tryz.prog) (args := #[encU6 x]) h.L rfl, roundIn_of_wpIn hfn ?_⟩
  have hl : l < W.heap.size := (Array.getElem?_eq_some_iff.1 h.L).1
  have hbr := run_beginRound (P := Tryz.prog) h.L rfl
  obtain ⟨W2, hW2⟩ : ∃ W2, W.putObj l (.loop { V64.apRec fn sv Bs D .ready none with state := .busy }) = W2 := ⟨_, rfl⟩
  rw [hW2] at hbr
  have hg2 : W.grownBy W2 (some l) := by rw [← hW2]; exact grownBy_putObj_a _ _ _
  have hk2 : KeepsWalks W W2 := by rw [← hW2]; exact KeepsWalks.putObj _ h.L rfl
  have hv2 : W2.heap[Bs]? = some (.cells #[v] 35 (0, 0)) := by rw [← hW2]; exact (World.putObj_heap_other hBl).trans hv
  have hK2 : W2.heap[D]? = some (.deferred (some [])) := by rw [← hW2]; exact (World.putObj_heap_other hDl).trans h.K
  have hL2 : W2.heap[l]? = some (.loop { V64.apRec fn sv Bs D .ready none with state := .busy }) := by rw [← hW2]; exact World.putObj_heap_same hl
  have hrow2 : W2.ownsRow w0.heap.size 33 1 v ss.length (ss.map encU6) := hrow.kept hg2 (ownsRow_ne_a hrow h.L (fun cur e => by first | cases e | exact hne (Obj.cells.inj e).2.1))
  have hb2 : Below w0.heap.size w0 W2 := h.below.grown hg2 h.below.size (fun k e => by cases e; exact h0l)
  obtain ⟨hc2, hf2⟩ := cell_of_box_a hv2
  have hBlt : Bs < W2.heap.size := (Array.getElem?_eq_some_iff.1 hv2).1
  have hl2 : l < W2.heap.size := (Array.getElem?_eq_some_iff.1 hL2).1
  have hDlt : D < W2.heap.size := (Array.getElem?_eq_some_iff.1 hK2).1
  have ne_of : ∀ {j : Nat} {o : Obj}, W2.heap[j]? = some o → (∀ cur, o ≠ .cells cur 33 (0, 0)) → some j ≠ v.ownBlock := fun hj hno => by
    rcases ownsRow_ne_a hrow2 hj hno with e | e
    · rw [e]; simp
    · exact fun e' => e e'.symm
  clear hW2
  unfold V64.apAssign
  gi_wp2_with gi_round_op_a
  unfold V64.apBody
  gi_wp2_with (first
    | (gi_at_builtin; refine wpListIn_append_own _ rfl _ _ 35 rfl w0.heap.size 33 i0 (.int .u64 0) 1 8 Tryz.underlying35 hi hz0 hz1 hz2 rfl (by decide) _ _ _ rfl (hrow2.alloc _) ⟨W2.heap.size, 0, none⟩ 1 1 [encU6 x] rfl rfl (cell_one_new _ _ _) (by simp [Value.oneCell', encU6]) (by omega) (by omega) (by have := hb2.size; simp; omega) ?_; intro v' w3 hown' hg3 hnil3
       have hv3 : w3.heap[Bs]? = some (.cells #[v] 35 (0, 0)) := (hg3.block Bs (by simp; omega) (ne_of hv2 (fun cur e => by first | cases e | exact hne (Obj.cells.inj e).2.1))).trans ((Below.heap_alloc _ _ Bs hBlt).trans hv2)
       obtain ⟨hc3, hf3⟩ := cell_of_box_a hv3
       obtain ⟨g', cap', cur', rfl, hbase', hgb', hr1, hr2, hr3, hr4⟩ : ∃ g' cap' cur', v' = .slice (some ⟨g', 0, none⟩) (ss.length + 1) cap' ∧ w0.heap.size ≤ g' ∧ w3.heap[g']? = some (.cells cur' 33 (0, 0)) ∧ ss.length + 1 ≤ cap' ∧ cap' ≤ maxLen ∧ cur'.size = cap' * 1 ∧ cur'.toList.take ((ss.length + 1) * 1) = ss.map encU6 ++ [encU6 x] := by
         rcases hown'.2 with ⟨_, h0⟩ | h'
         · exact absurd h0 (by omega)
         · exact h'
       go_frame)
    | gi_round_op_a)
  have hg3' : (W2.alloc (.cells #[encU6 x] 33)).grownBy w3 v.ownBlock := hg3
  have hL3 : w3.heap[l]? = some (.loop { V64.apRec fn sv Bs D .ready none with state := .busy }) := (hg3'.block l (by simp; omega) (ne_of hL2 (fun cur e => by first | cases e | exact hne (Obj.cells.inj e).2.1))).trans ((Below.heap_alloc _ _ l hl2).trans hL2)
  have hK3 : w3.heap[D]? = some (.deferred (some [])) := (hg3'.block D (by simp; omega) (ne_of hK2 (fun cur e => by first | cases e | exact hne (Obj.cells.inj e).2.1))).trans ((Below.heap_alloc _ _ D hDlt).trans hK2)
  obtain ⟨w4, hw4⟩ : ∃ w4, w3.setCell ⟨Bs, 0, none⟩ (.slice (some ⟨g', 0, none⟩) (ss.length + 1) cap') = w4 := ⟨_, rfl⟩
  rw [hw4]
  have hg4 : w3.grownBy w4 (some Bs) := by rw [← hw4]; exact grownBy_setCell0_a _ _ _
  have hv4 : w4.heap[Bs]? = some (.cells #[.slice (some ⟨g', 0, none⟩) (ss.length + 1) cap'] 35 (0, 0)) := by rw [← hw4]; exact heap_setCell_box_a _ hv3
  have hL4 : w4.heap[l]? = some (.loop { V64.apRec fn sv Bs D .ready none with state := .busy }) := (hg4.block l (Array.getElem?_eq_some_iff.1 hL3).1 (fun e => hBl (by cases e; rfl))).trans hL3
  have hK4 : w4.heap[D]? = some (.deferred (some [])) := (hg4.block D (Array.getElem?_eq_some_iff.1 hK3).1 (fun e => hDB (by cases e; rfl))).trans hK3
  have hrow4 := hown'.kept hg4 (ownsRow_ne_a hown' hv3 (fun cur e => by first | cases e | exact hne (Obj.cells.inj e).2.1))
  have hl4 : l < w4.heap.size := (Array.getElem?_eq_some_iff.1 hL4).1
  have hb3 : Below w0.heap.size w0 w3 := (hb2.alloc hb2.size _).grown hg3' (by have := hb2.size; simp; omega) (fun k e => (hrow2.lt k e).1)
  have hb4 : Below w0.heap.size w0 w4 := hb3.grown hg4 hb3.size (fun k e => by cases e; exact h0B)
  have hk4 : KeepsWalks W w4 := ((hk2.trans (KeepsWalks.alloc _ _)).trans (KeepsWalks.of_grownBy hg3' (ownsRow_not_walk_a (hrow2.alloc _)))).trans (by rw [← hw4]; exact KeepsWalks.setCell _ _ _)
  clear hw4
  refine ⟨_, _, run_endRound none hL4, rfl, ⟨⟨_, (World.putObj_heap_other hBl).trans hv4, ?_, by simp⟩, World.putObj_heap_same hl4, (World.putObj_heap_other hDl).trans hK4, hb4.grown (grownBy_putObj_a _ _ _) hb4.size (fun k e => by cases e; exact h0l)⟩, hk4.trans (KeepsWalks.putObj _ hL4 rfl)⟩
  have := hrow4.kept (grownBy_putObj_a w4 l (.loop { { V64.apRec fn sv Bs D .ready none with state := .busy } with state := if (none : Option Code).isNone then .ready else .done, pending := none })) (ownsRow_ne_a hrow4 hL4 (fun cur e => by first | cases e | exact hne (Obj.cells.inj e).2.1))
  simpa using this
theorem V64.appendSeq_in (F : Fence) (n : Nat) (h11 : F.fn 189) (hro : F.round = none) (hn : 2 ≤ n) (g : Nat) (lb : Array Value) (hFg : F.fn g) (eg : ∀ args w, (callFunc g args).run Tryz.prog w = .ok (.enter g args) w)
    (S : List Int → Prop) (N : Nat) (hN : N ≤ maxLen) (hNb : N * 8 ≤ 140737488355328) (w : World) (hseq : SeqGives F (n - 1) Tryz.prog g lb encU6 S N w) :
    CallsIn F n Tryz.prog 189 #[.slice none 0 0, .func (.func g) #[] lb] w fun e w' => ∃ (v : Value) (ss : List Int), e = .returned v ∧ S ss ∧ w'.ownsRow w.heap.size 33 1 v ss.length (ss.map encU6) ∧ (v = .slice none 0 0 ↔ ss = []) ∧ Below w.heap.size w w' := by
  have h1 : 1 ≤ n := by omega
  have hne : (35 : TypeId) ≠ 33 := by decide
  refine callsIn_of_wp_marks Tryz.func189 rfl h11 ?_ hro
  simp only [Tryz.ntmps189, List.size_toArray, List.length_cons, List.length_nil, Nat.reduceAdd, Nat.reduceSub, Array.replicate_succ, Array.replicate_zero, List.push_toArray, List.append_toArray, List.nil_append, List.cons_append]
  gi_wp2
  refine wpIn_rangeFunc ?_
  intro fn hfn
  rw [hro]
  obtain ⟨W0, hW0⟩ : ∃ W0, w.alloc (.cells #[.slice none 0 0] 35) = W0 := ⟨_, rfl⟩
  have hs0 : W0.heap.size = w.heap.size + 1 := by rw [← hW0]; simp
  have hv0 : W0.heap[w.heap.size]? = some (.cells #[.slice none 0 0] 35 (0, 0)) := by rw [← hW0]; exact World.alloc_heap_new w _
  have hb0 : Below w.heap.size w W0 := by rw [← hW0]; exact (Below.refl _ w).alloc (Nat.le_refl _) _
  rw [hW0]
  obtain ⟨W1, hW1⟩ : ∃ W1, (W0.alloc (.deferred (some []))).alloc (.loop (V64.apRec fn (.func (.func g) #[] lb) w.heap.size W0.heap.size .ready none)) = W1 := ⟨_, rfl⟩
  have hold : ∀ k, k < W0.heap.size → W1.heap[k]? = W0.heap[k]? := fun k hk => by
    rw [← hW1]; exact (Below.heap_alloc _ _ k (by simp; omega)).trans (Below.heap_alloc _ _ k hk)
  have hb1 : Below w.heap.size w W1 := by rw [← hW1]; exact (hb0.alloc hb0.size _).alloc (by have := hb0.size; simp; omega) _
  have hs1 : W1.heap.size = W0.heap.size + 2 := by rw [← hW1]; simp
  have hM : V64.ApAt w fn (.func (.func g) #[] lb) w.heap.size (W0.heap.size + 1) W0.heap.size [] W1 :=
    ⟨⟨_, (hold w.heap.size (by omega)).trans hv0, ⟨rfl, .inl ⟨rfl, rfl⟩⟩, by simp⟩,
     by rw [← hW1]; have := World.alloc_heap_new (W0.alloc (.deferred (some []))) (.loop (V64.apRec fn (.func (.func g) #[] lb) w.heap.size W0.heap.size .ready none)); rwa [World.size_alloc] at this,
     by rw [← hW1]; exact (Below.heap_alloc _ _ _ (by simp)).trans (World.alloc_heap_new W0 _), hb1⟩
  refine ⟨W0.heap.size + 1, [{ target := .collected W0.heap.size, args := #[] }], W1, { target := .fn (.func g) lb, args := #[.func (.yield (W0.heap.size + 1)) #[] #[]] }, W1, g,
    #[.func (.yield (W0.heap.size + 1)) #[] #[]] ++ lb, W1, ?_, ?_, ?_, ?_, fun _ => h1, ?_⟩
  · rw [← hW1]; exact run_enterLoop_outer _ _ _ _ _
  · simp [resolve, go_sem]
  · intro f' hf'; simp [Target.leads] at hf'; subst hf'; exact hFg
  · simp [invoke, go_sem, eg]
  · refine (hseq (W0.heap.size + 1) (V64.ApAt w fn (.func (.func g) #[] lb) w.heap.size (W0.heap.size + 1) W0.heap.size) W1 hb1 (V64.ap_abides _ _ _ _ _ _ _ hb1.size)
      (fun pre x W hJ hl => V64.apYield F (n - 1 - 1) w fn hfn _ w.heap.size (W0.heap.size + 1) W0.heap.size (by omega) (by omega) (by omega) (Nat.le_refl _) (by omega) N hN hNb pre x W hJ hl) hM).mono ?_
    rintro e W2 ⟨⟨v0, rfl⟩, ss, hS, h2⟩
    obtain ⟨v, hv, hrow, hnil⟩ := h2.box
    have hend := run_endLoop (P := Tryz.prog) h2.L (by simp [V64.apRec])
    obtain ⟨W3, hW3⟩ : ∃ W3, W2.putObj (W0.heap.size + 1) (.loop { V64.apRec fn (.func (.func g) #[] lb) w.heap.size W0.heap.size .ready none with state := .exhausted }) = W3 := ⟨_, rfl⟩
    rw [hW3] at hend
    have hg3 : W2.grownBy W3 (some (W0.heap.size + 1)) := by rw [← hW3]; exact grownBy_putObj_a _ _ _
    have hv3 : W3.heap[w.heap.size]? = some (.cells #[v] 35 (0, 0)) := by rw [← hW3]; exact (World.putObj_heap_other (by omega)).trans hv
    have hK3 : W3.heap[W0.heap.size]? = some (.deferred (some [])) := by rw [← hW3]; exact (World.putObj_heap_other (by omega)).trans h2.K
    have hrow3 := hrow.kept hg3 (ownsRow_ne_a hrow h2.L (fun cur e => by first | cases e | exact hne (Obj.cells.inj e).2.1))
    have hb3 : Below w.heap.size w W3 := h2.below.grown hg3 h2.below.size (fun k e => by cases e; omega)
    obtain ⟨hc3, hf3⟩ := cell_of_box_a hv3
    clear hW3
    refine ⟨none, W3, hend, ?_⟩
    gi_wp2
    rw [← hs0]
    refine ⟨by simp, .inl ⟨_, _, rfl, run_takeDeferred hK3, ?_⟩⟩
    exact ⟨_, results_tmp rfl _ _ _, v, ss, rfl, hS, hrow3.kept (grownBy_putObj_a _ _ _) (ownsRow_ne_a hrow3 hK3 (fun cur e => by first | cases e | exact hne (Obj.cells.inj e).2.1)), hnil, hb3.grown (grownBy_putObj_a _ _ _) hb3.size (fun k e => by cases e; omega)⟩
theorem V64.collect_in(F:Fence)(n:Nat)(h8:F.fn 126)(h11:F.fn 189)(hro:F.round=none)(hn:3≤n)(g:Nat)(lb:Array Value)(hFg:F.fn g)(eg:∀ args w,(callFunc g args).run Tryz.prog w = .ok (.enter g args) w)
  (S:List Int→Prop) (N:Nat) (hN:N≤maxLen) (hNb:N * 8≤140737488355328) (w:World) (hseq:SeqGives F (n - 1 - 1) Tryz.prog g lb encU6 S N w) :
  CallsIn F n Tryz.prog 126 #[.func (.func g) #[] lb] w fun e w'=>∃ (v:Value) (ss:List Int),e = .returned v∧S ss∧w'.ownsRow w.heap.size 33 1 v ss.length (ss.map encU6)∧(v = .slice none 0 0↔ss = [])∧Below w.heap.size w w':=by
 have h1:1≤n:=by omega
 have e11:∀ args w,(callFunc 189 args).run Tryz.prog w = .ok (.enter 189 args) w:=enters_of Tryz.func189 (by kernel_rfl) rfl
 refine callsIn_of_wp Tryz.func126 rfl h8 ?_ hro
 simp only [Tryz.ntmps126,List.size_toArray,List.length_cons,List.length_nil,Nat.reduceAdd,Nat.reduceSub,Array.replicate_succ,Array.replicate_zero,List.push_toArray,List.append_toArray,List.nil_append,List.cons_append]
 gi_wp2_with (gi_at_call 189;refine(V64.appendSeq_in F (n - 1) h11 hro (by omega) g lb hFg eg S N hN hNb _ hseq).mono ?_;rintro e w' ⟨v,ss,rfl,hS,hrow,hnil,hb⟩)
 go_ret
 exact⟨v,ss,rfl,hS,hrow,hnil,hb⟩
def V64.SortsIn(F:Fence)(m:Nat):Prop:=
 (∀ (blk off cap:Nat) (ss:List Int) (W:World),Holds encU6 W blk off ss.toArray→blk < W.heap.size→ss.length < 4611686018427387904 →
  CallsIn F m Tryz.prog 84 #[.slice (some ⟨blk,off,none⟩) ss.length cap] W fun e w'=>e = .returned (.tuple #[])∧∃ k os,w'=grow (putRow encU6 (Sort.ahead W k) blk off (ss.mergeSort fun x y=>decide (x≤y)).toArray) os) ∧
 (∀ (p:Option Addr) (cap:Nat) (W:World),CallsIn F m Tryz.prog 84 #[.slice p 0 cap] W fun e w'=>e = .returned (.tuple #[])∧w'=W)
theorem V64.sorted_in(F:Fence)(n:Nat)(h6:F.fn 61)(h8:F.fn 126)(h9:F.fn 84)(h11:F.fn 189)(hro:F.round=none)(hn:4≤n)(hsort:V64.SortsIn F (n - 1))(e9:∀ args w,(callFunc 84 args).run Tryz.prog w = .ok (.enter 84 args) w)(g:Nat)(lb:Array Value)(hFg:F.fn g)(eg:∀ args w,(callFunc g args).run Tryz.prog w = .ok (.enter g args) w)
  (S:List Int→Prop) (N:Nat) (hN:N≤maxLen) (hNb:N * 8≤140737488355328) (w:World) (hseq:SeqGives F (n - 1 - 1 - 1) Tryz.prog g lb encU6 S N w) :
  CallsIn F n Tryz.prog 61 #[.func (.func g) #[] lb] w fun e w'=>∃ (v:Value) (ss:List Int),e = .returned v∧S ss ∧
   w'.ownsRow w.heap.size 33 1 v ss.length ((ss.mergeSort (fun x y=>decide (x≤y))).map encU6)∧(v = .slice none 0 0↔ss = [])∧Below w.heap.size w w':=by
 have h1:1≤n:=by omega
 have e8:∀ args w,(callFunc 126 args).run Tryz.prog w = .ok (.enter 126 args) w:=enters_of Tryz.func126 (by kernel_rfl) rfl
 refine callsIn_of_wp Tryz.func61 rfl h6 ?_ hro
 simp only [Tryz.ntmps61,List.size_toArray,List.length_cons,List.length_nil,Nat.reduceAdd,Nat.reduceSub,Array.replicate_succ,Array.replicate_zero,List.push_toArray,List.append_toArray,List.nil_append,List.cons_append]
 gi_wp2_with (gi_at_call 126;refine(V64.collect_in F (n - 1) h8 h11 hro (by omega) g lb hFg eg _ N hN hNb _ hseq.bounded).mono ?_;rintro e W ⟨v,ss,rfl,⟨hS,hlen⟩,hrow,hnil,hb⟩)
 rcases hrow.2 with⟨rfl,hz⟩ | ⟨gb,cap,cur,rfl,hbase,hgb,r1,r2,r3,r4⟩
 ·
  have hss:ss = []:=List.eq_nil_of_length_eq_zero hz
  subst hss
  gi_wp2_with (gi_at_call 84;refine(hsort.2 none 0 W).mono ?_;rintro e w' ⟨rfl,rfl⟩)
  go_ret
  exact⟨.slice none 0 0,[],rfl,hS,by simpa using hrow,by simp,hb⟩
 ·have hH:Holds encU6 W gb 0 ss.toArray:=holds_of_block_u6 hgb (by simpa using r4)
  have hgl:gb < W.heap.size:=(Array.getElem?_eq_some_iff.1 hgb).1
  have hsz:ss.length < 4611686018427387904:=by omega
  have cS:=hsort.1 gb 0 cap ss W hH hgl hsz
  gi_wp2_with (gi_at_call 84;refine cS.mono ?_;rintro e w' ⟨rfl,nn,os,rfl⟩)
  go_ret
  exact⟨_,ss,rfl,hS,ownsRow_sorted_u6 (by simp) hbase hgb r1 r2 r3,hnil,hb.grown (grownBy_sorted_u6 _) hb.size (fun j hj=>by cases hj;exact hbase)⟩
end
section
open Go.RowKit Go.Shelf Go.Maps Go.Sort
attribute [local go_sem] Oper.semAt_some
theorem u6Keys_mem{H:Type}{D0:DataW H}{P:Program}{k:TypeId}{R:Value→Option (DataW H × List MemPlace)}{w:World}{b n:Nat}(hown:w.ownsMap P k R b n D0)(K:Keyed P k)(hk:P.underlying k=some (.int .u64)) :
  (u6Keys D0).Nodup∧∀ x,x ∈ u6Keys D0↔has D0 (.int .u64 x)=true:=by
 obtain⟨es,hD,hpw,_⟩:=hown.entries K
 obtain⟨es',hD',hko⟩:=hown.keysOf
 obtain rfl:es=es':=by rw[hD] at hD';simpa using hD'
 subst hD
 have hk':∀ p ∈ es,∃ x,p.1 = .int .u64 x:=fun p hp=>by obtain⟨v,hv⟩:=hko p hp;obtain⟨x,_,hx,_⟩:=keyOf_u64 hk hv;exact⟨x,hx⟩
 refine⟨?_,fun x=>?_⟩
 ·show(es.map fun p=>u6Of p.1).Nodup
  refine List.pairwise_map.2 (hpw.imp_of_mem fun {p q} hp' hq' hne e=>hne ?_)
  obtain⟨a,ha⟩:=hk' p hp'
  obtain⟨b,hb⟩:=hk' q hq'
  rw[ha,hb] at e ⊢
  exact congrArg _ e
 ·rw[has_eq,List.any_eq_true]
  show x ∈ es.map (fun p=>u6Of p.1)↔_
  rw[List.mem_map]
  constructor
  ·rintro⟨p,hp',rfl⟩
   obtain⟨a,ha⟩:=hk' p hp'
   exact⟨p,hp',by rw[ha];simp [Lit.sameKey,u6Of]⟩
  ·rintro⟨p,hp',hs⟩
   obtain⟨a,ha⟩:=hk' p hp'
   rw[ha] at hs
   exact⟨p,hp',by rw[ha];simpa [Lit.sameKey,u6Of] using hs⟩
theorem sorts64(m:Nat):V64.SortsIn Fence.wide m:=
 ⟨fun blk off cap ss W hH hblk hsz=>callsIn_wide.2 (U.slices_Sort_int blk off cap ss W hH hblk hsz),fun p cap W=>callsIn_wide.2 ((U.Sort_int_nil p cap W).mono fun e w' h=>⟨h.1,h.2⟩)⟩
theorem rises_mergeSort{ss:List Int}(hn:ss.Nodup):RisesBy id (ss.mergeSort fun x y=>decide (x≤y)):=by
 have tr:∀ a b c:Int,decide (a≤b)=true→decide (b≤c)=true→decide (a≤c)=true:=fun a b c h1 h2=>by simp only [decide_eq_true_eq] at *;exact Int.le_trans h1 h2
 have tot:∀ a b:Int,(decide (a≤b) || decide (b≤a))=true:=fun a b=>by simp only [Bool.or_eq_true,decide_eq_true_eq];exact Int.le_total a b
 have h1:=List.pairwise_mergeSort tr tot ss
 have h2:(ss.mergeSort fun x y=>decide (x≤y)).Nodup:=(List.mergeSort_perm ss _).nodup_iff.2 hn
 refine(h1.and h2).imp fun {a b} h=>?_
 have h3:a≤b:=by simpa using h.1
 have h4:a≠b:=h.2
 show a < b
 omega
def Keys4(F:Lit→Option Value)(W:World)(e:Ending)(w':World):Prop:=
 ∃ v ks,e = .returned v∧RisesBy id ks∧(∀ x,x ∈ ks↔(F (litU x)).isSome=true)∧(∀ x ∈ ks,(Lit.int .u64 x).wf=true)∧w'.ownsRow W.heap.size 33 1 v ks.length (ks.map (Value.int .u64))∧Fr N0 W w'
end
section
open Go.RowKit Go.Maps Go.Sort Go.Shelf
attribute [local go_sem] Oper.semAt_some
theorem VH.keys1N_in{H:Type}(F:Fence)(n:Nat)(h10:F.fn 152)(hro:F.round=none)(hn:1≤n)(l Bm b nn:Nat)(D0:DataW H){R:Value→Option (DataW H × List MemPlace)}(J:List Int→World→Prop)
  (hY:∀ pre x W,J pre W→pre.length < Maps.size D0→YieldAt F (n - 1) Tryz.prog l #[encU6 x] W fun e W'=>e = .returned (.bool true)∧J (pre ++ [x]) W'∧KeepsWalks W W')
  (W:World) (hJ:AbidesFrom W.heap.size J) (hm:W.cell? ⟨Bm,0,none⟩=some (.map (some b))) (hown:W.ownsMap Tryz.prog 33 R b nn D0) (h0:J [] W) :
  CallsIn F n Tryz.prog 152 #[.func (.yield l) #[] #[],.pointer (some ⟨Bm,0,none⟩)] W fun e W'=>(∃ v,e = .returned v)∧∃ ss:List Int,ss.Perm (u6Keys D0)∧J ss W':=by
 refine callsIn_of_wp Tryz.func152 rfl h10 ?_ hro
 simp only [Tryz.ntmps152,List.size_toArray,List.length_cons,List.length_nil,Nat.reduceAdd,Nat.reduceSub,Array.replicate_succ,Array.replicate_zero,List.push_toArray,List.append_toArray,List.nil_append,List.cons_append]
 gi_wp2_with (first
  |(gi_at_range;refine wpListIn_range_own _ rfl _ 183 rfl 33 91 (int_keyed Tryz.underlying33) Tryz.underlying183 _ b nn _ rfl hown ?_;intro w0 hrg0 hg0 hs0)
  | gi_in)
 go_frame
 gi_loopw [3] (fun _ wr=>∃ (left:Lit→Bool) (cnt:Nat) (ss:List Int),wr.ranges Tryz.prog 33 R b W.heap.size nn D0 left cnt∧ss.length+cnt≤Maps.size D0∧CollectedU6 D0 left ss∧J ss wr)
  (fun _ wr=>wr.rangeLeft b W.heap.size)
 case atStart=>
  exact⟨_,_,[],hrg0,by simp,CollectedU6.start D0,hJ [] W w0 none h0 hg0 (fun r e=>by cases e)⟩
 case round=>
  obtain⟨left,cnt,ss,hrg,hcs,hC,hJs⟩:=hrel
  gi_wp2_with (first
   |(gi_at_next;refine wpListIn_next_ranges _ rfl _ rfl 33 (int_keyed Tryz.underlying33) R encU6 id (fun key kl hk=>by obtain⟨x,hx,_⟩:=keyOf_u64 Tryz.underlying33 hk;exact⟨x,hx⟩) (fun v _ _=>⟨v,rfl⟩) b W.heap.size nn _ _ _ rfl hrg ?_ ?_)
   | gi_in)
  ·
   intro hc0 hl0
   gi_wp2
   go_end0
   exact⟨⟨_,rfl⟩,ss,hC.perm hown (int_keyed Tryz.underlying33) Tryz.underlying33 hl0,hJs⟩
  ·
   intro x c kl yd yp w2 cnt2 hkey hlk hv hat hrg2 hlt hg2 hs2 hen
   obtain⟨x',ex,rfl,_⟩:=keyOf_u64 Tryz.underlying33 hkey
   obtain rfl:x=x':=encU6_inj ex
   have hJ2:J ss w2:=hJ ss wr w2 (some W.heap.size) hJs hg2 (fun r e=>by cases e;exact⟨Nat.le_refl _,hrg.iter_walk⟩)
   obtain⟨fn,tmps,assign,body,hy,hR⟩:=hY ss x w2 hJ2 (by omega)
   clear hs2
   gi_wp2
   refine hR.mono ?_
   rintro e W3 ⟨rfl,hJ3,hk3⟩
   gi_wp2
   have hrg3:=hrg2.of_walks hk3
   go_roundw
   case rel=>exact⟨_,cnt2,ss ++ [x],hrg3,by simp;omega,hC.step hlk hat,hJ3⟩
   case measure=>rw[hrg3.left_eq,hrg.left_eq];exact hlt
theorem VH.keys_gives{H:Type}(F:Fence)(n:Nat)(h10:F.fn 152)(hro:F.round=none)(hn:1≤n)(Bm b nn:Nat)(D0:DataW H){R:Value→Option (DataW H × List MemPlace)}(w:World)(hBm:Bm < w.heap.size)
  (hm:w.cell? ⟨Bm,0,none⟩=some (.map (some b))) (hown:w.ownsMap Tryz.prog 33 R b nn D0) :
  SeqGives F n Tryz.prog 152 #[.pointer (some ⟨Bm,0,none⟩)] encU6 (fun ss=>ss.Perm (u6Keys D0)) (Maps.size D0) w:=fun l J W hW hJ hY h0=>by
 have hown':W.ownsMap Tryz.prog 33 R b nn D0:=by
  have hbl:=hown.lt
  obtain⟨es,clock,hb,Ft,hs,hD⟩:=hown
  exact⟨es,clock,(hW.block b hbl).trans hb,Ft,hs,hD⟩
 exact VH.keys1N_in F n h10 hro hn l Bm b nn D0 J hY W hJ ((hW.cell (p:=⟨Bm,0,none⟩) hBm).trans hm) hown' h0
theorem VH.keys_in(F:Fence)(n:Nat)(h7:F.fn 99)(hro:F.round=none)(mb:Option Nat)(w:World) :
  CallsIn F n Tryz.prog 99 #[.map mb] w fun e w'=>e = .returned (.func (.func 152) #[] #[.pointer (some ⟨w.heap.size,0,none⟩)])∧w'=w.alloc (.cells #[.map mb] 183):=by
 refine callsIn_of_wp Tryz.func99 rfl h7 ?_ hro
 simp only [Tryz.ntmps99,List.size_toArray,List.length_cons,List.length_nil,Nat.reduceAdd,Nat.reduceSub,Array.replicate_succ,Array.replicate_zero,List.push_toArray,List.append_toArray,List.nil_append,List.cons_append]
 gi_wp2
 go_ret
 exact⟨rfl,rfl⟩
theorem sortedH_any(W:World)(Bm b N:Nat)(F:Lit→Option Value)(h:MapF Tryz.prog 33 W b N F)(hB:W.heap[Bm]?=some (.cells #[.map (some b)] 183 (0,0)))(hN:N≤10000000000) :
  Calls Tryz.prog 61 #[.func (.func 152) #[] #[.pointer (some ⟨Bm,0,none⟩)]] W (Keys4 F W):=by
 obtain⟨D,hD,hV⟩:=h
 have hsz:Maps.size D≤N:=hD.size_le
 have hseq:=VH.keys_gives (R:=heldR) Fence.wide 2 trivial rfl (by omega) Bm b N D W (lt_of_block hB) (cell_of_one hB) hD
 have hc:=(callsIn_wide (n:=5)).1 (V64.sorted_in Fence.wide 5 trivial trivial trivial trivial rfl (by omega) (sorts64 _) (enters_of Tryz.func84 (by kernel_rfl) rfl) 152 #[.pointer (some ⟨Bm,0,none⟩)] trivial (enters_of Tryz.func152 (by kernel_rfl) rfl) _ _ (by unfold maxLen;omega) (by omega) W hseq)
 refine hc.mono fun e w' ⟨v,ss,he,hp,hrow,hnil,hb⟩=>?_
 obtain⟨hnd,hmem⟩:=u6Keys_mem hD lawU Tryz.underlying33
 have hms:=List.mergeSort_perm ss fun x y=>decide (x≤y)
 refine⟨v,_,he,rises_mergeSort (hp.nodup_iff.2 hnd),fun x=>?_,fun x hx=>?_,?_,fr0_of_below hb⟩
 ·rw[hms.mem_iff,hp.mem_iff,hmem x,hV.has]
 ·exact u6Keys_wf hD Tryz.underlying33 x (hp.mem_iff.1 (hms.mem_iff.1 hx))
 ·rw[hms.length_eq];exact hrow
theorem keysH_any(W:World)(b:Nat):Calls Tryz.prog 99 #[.map (some b)] W fun e w'=>e = .returned (.func (.func 152) #[] #[.pointer (some ⟨W.heap.size,0,none⟩)])∧w'=W.alloc (.cells #[.map (some b)] 183):=
 (callsIn_wide (n:=5)).1 (VH.keys_in Fence.wide 5 trivial rfl (some b) W)
end
end Go.Proofs.YtefepfiijoafbaaGreat
