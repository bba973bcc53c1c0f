/- Base -/
import Derived.RangeFuncNested
import Derived.RangeFuncBound
import Derived.RangeFuncCalls
import Derived.RangeFuncLeaves
import Derived.Shelf.Abstract
import Derived.Shelf.RegionOpen
import Derived.WalkKit
import Derived.ProofKit
import Derived.OpenShut
import Derived.OwnWalkIn
import Derived.TacticsInMore
import Derived.LoopNIn
import Derived.LoopIn
import Derived.Lib.Hide
import Derived.Below
import Derived.Deep.AppendLies
import Derived.WalkSpells
import Derived.WalkLawsBesides
set_option linter.unusedVariables false
set_option linter.unusedSimpArgs false
set_option maxRecDepth 100000
namespace Go.Proofs.YtefepfiijoafbaaGreat
theorem hhd{p:Prop}(h:p):Go.RowKit.Hid p:=Go.Lib.hid h
open Go.RowKit
structure SameOn(S:Nat→Prop)(A B:World):Prop where
 os:B.os=A.os
 tape:B.tape=A.tape
 output:B.output=A.output
 size:A.heap.size≤B.heap.size
 block:∀ k,S k→k < A.heap.size→B.heap[k]?=A.heap[k]?
theorem SameOn.refl(S:Nat→Prop)(A:World):SameOn S A A:=⟨rfl,rfl,rfl,Nat.le_refl _,fun _ _ _=>rfl⟩
theorem SameOn.mono{S S':Nat→Prop}{A B:World}(h:SameOn S A B)(hs:∀ k,S' k→k < A.heap.size→S k):SameOn S' A B:=
 ⟨h.os,h.tape,h.output,h.size,fun k hk hl=>h.block k (hs k hk hl) hl⟩
theorem SameOn.trans{S:Nat→Prop}{A B C:World}(h:SameOn S A B)(k:SameOn S B C):SameOn S A C:=
 ⟨k.os.trans h.os,k.tape.trans h.tape,k.output.trans h.output,Nat.le_trans h.size k.size,fun i hi hl=>(k.block i hi (Nat.lt_of_lt_of_le hl h.size)).trans (h.block i hi hl)⟩
def Fr(T:Nat→Prop)(A B:World):Prop:=SameOn (fun k=>¬ T k) A B
def N0:Nat→Prop:=fun _=>False
section
variable {S T T':Nat→Prop} {A B C:World}
theorem Fr.refl(T:Nat→Prop)(A:World):Fr T A A:=SameOn.refl _ _
theorem Fr.size(h:Fr T A B):A.heap.size≤B.heap.size:=SameOn.size h
theorem Fr.trans(h:Fr T A B)(k:Fr T' B C)(ht:∀ k,T' k→T k∨A.heap.size≤k):Fr T A C:=
 ⟨k.os.trans h.os,k.tape.trans h.tape,k.output.trans h.output,Nat.le_trans h.size k.size,fun i hi hl=>
  (k.block i (fun ht'=>(ht i ht').elim hi (fun hx=>absurd hl (by omega))) (Nat.lt_of_lt_of_le hl h.size)).trans (h.block i hi hl)⟩
theorem Fr.mono(h:Fr T A B)(ht:∀ k,T k→T' k∨A.heap.size≤k):Fr T' A B:=(Fr.refl T' A).trans h ht
theorem Fr.then0(h:Fr T A B)(k:Fr N0 B C):Fr T A C:=h.trans k (fun _ h=>h.elim)
theorem Fr.same(h:Fr T A B)(hs:∀ k,S k→¬ T k):SameOn S A B:=SameOn.mono h fun k hk _=>hs k hk
theorem Fr.at(h:Fr T A B){k:Nat}(hk:¬ T k)(hl:k < A.heap.size):B.heap[k]?=A.heap[k]?:=h.block k hk hl
theorem Fr.below(h:Fr T A B){n:Nat}(ht:∀ k,T k→n≤k)(hn:n≤A.heap.size):Below n A B:=
 ⟨h.os,h.tape,h.output,h.size,fun k hk=>h.block k (fun hx=>absurd (ht k hx) (by omega)) (by omega)⟩
theorem Fr.below0(h:Fr N0 A B):Below A.heap.size A B:=h.below (fun _ h=>h.elim) (Nat.le_refl _)
theorem fr_of_below{n:Nat}(h:Below n A B)(ht:∀ k,¬ T k→k < A.heap.size→k < n):Fr T A B:=
 ⟨h.os,h.tape,h.output,h.size,fun k hk hl=>h.block k (ht k hk hl)⟩
theorem fr0_of_below(h:Below A.heap.size A B):Fr N0 A B:=fr_of_below h fun _ _ h=>h
theorem Fr.alloc(h:Fr T A B)(o:Obj):Fr T A (B.alloc o):=
 h.trans (T':=N0) ⟨rfl,rfl,rfl,by simp,fun k _ hl=>Below.heap_alloc _ _ _ hl⟩ (fun _ h=>h.elim)
theorem Fr.drew(h:Fr T A B):Fr T A B.drew:=⟨h.os,h.tape,h.output,h.size,h.block⟩
theorem Fr.drewN(h:Fr T A B)(n:Nat):Fr T A (B.drewN n):=⟨h.os,h.tape,h.output,h.size,h.block⟩
theorem Fr.setCell(h:Fr T A B){p:Addr}(hp:T p.block∨A.heap.size≤p.block)(u:Value):Fr T A (B.setCell p u):=
 h.trans (T':=fun k=>k=p.block) ⟨rfl,rfl,rfl,by simp [World.setCell],fun k hk _=>Below.heap_setCell _ _ _ _ hk⟩ (fun k hk=>by rw[hk];exact hp)
theorem Fr.putObj(h:Fr T A B){l:Nat}(hp:T l∨A.heap.size≤l)(o:Obj):Fr T A (B.putObj l o):=
 h.trans (T':=fun k=>k=l) ⟨rfl,rfl,rfl,by simp,fun k hk _=>World.putObj_heap_other hk⟩ (fun k hk=>by rw[hk];exact hp)
theorem Fr.grown{row:Option Nat}(h:Fr T A B)(hg:B.grownBy C row)(hp:∀ k,row=some k→T k∨A.heap.size≤k):Fr T A C:=
 h.trans (T':=fun k=>row=some k) ⟨hg.os,hg.tape,hg.output,hg.size,fun k hk hl=>hg.block k hl (fun e=>hk e.symm)⟩ hp
theorem SameOn.putObj(h:SameOn S A B){l:Nat}(hp:¬ S l)(o:Obj):SameOn S A (B.putObj l o):=
 h.trans ⟨rfl,rfl,rfl,by simp,fun k hk _=>World.putObj_heap_other (fun e=>hp (by rw[← e];exact hk))⟩
theorem SameOn.fr(h:SameOn S A B)(k:Fr T B C)(ht:∀ k,S k→¬ T k):SameOn S A C:=h.trans (k.same ht)
end
theorem cell_same{A B:World}{p:Addr}(h:B.heap[p.block]?=A.heap[p.block]?):B.cell? p=A.cell? p:=World.cell?_of_block (w:=A) h
theorem frozen_same{A B:World}{p:Addr}(h:B.heap[p.block]?=A.heap[p.block]?):B.frozen? p=A.frozen? p:=World.frozen?_of_block (w:=A) h
theorem lt_of_cell{A:World}{p:Addr}{v:Value}(h:A.cell? p=some v):p.block < A.heap.size:=World.block_lt_of_cell? A p h
theorem Fr.cell{T:Nat→Prop}{A B:World}(h:Fr T A B){p:Addr}{v:Value}(hp:¬ T p.block)(hc:A.cell? p=some v):B.cell? p=some v:=
 (cell_same (h.at hp (lt_of_cell hc))).trans hc
theorem ret_bool{a b:Bool}(h:a=b):Ending.returned (.bool a) = .returned (.bool b):=by rw[h]
theorem ret_int{k:IntKind}{a b:Int}(h:a=b):Ending.returned (.int k a) = .returned (.int k b):=by rw[h]
def Ints(k:IntKind)(w:World)(b:Nat)(v:Value)(xs:List Int):Prop:=
 ∃ a off cap,v = .slice a xs.length cap∧xs.length≤cap∧cap≤9223372036854775807∧(0 < xs.length→a=some ⟨b,off,none⟩) ∧
  (a=none→cap=0) ∧
  (∀ i (h:i < xs.length),w.cell? ⟨b,off+i,none⟩=some (.int k xs[i]))∧∀ x ∈ xs,(Lit.int k x).wf=true
section
variable {k:IntKind} {w w':World} {b:Nat} {v:Value} {xs:List Int}
theorem Ints.same(h:Ints k w b v xs)(hs:0 < xs.length→w'.heap[b]?=w.heap[b]?):Ints k w' b v xs:=by
 obtain⟨a,off,cap,h1,h2,h3,h4,h5,h7,h8⟩:=h
 exact⟨a,off,cap,h1,h2,h3,h4,h5,fun i hi=>(cell_same (A:=w) (p:=⟨b,off+i,none⟩) (hs (by omega))).trans (h7 i hi),h8⟩
theorem Ints.lt(h:Ints k w b v xs)(h0:0 < xs.length):b < w.heap.size:=by
 obtain⟨a,off,cap,h1,h2,h3,h4,h5,h7,h8⟩:=h
 exact lt_of_cell (p:=⟨b,off+0,none⟩) (h7 0 h0)
theorem Ints.fr{T:Nat→Prop}(h:Ints k w b v xs)(hf:Fr T w w')(hb:¬ T b):Ints k w' b v xs:=
 h.same fun h0=>hf.at hb (h.lt h0)
theorem Ints.fr0(h:Ints k w b v xs)(hf:Fr N0 w w'):Ints k w' b v xs:=h.fr hf (fun h=>h)
theorem Ints.nil(k:IntKind)(w:World)(b:Nat):Ints k w b (.slice none 0 0) []:=
 ⟨none,0,0,rfl,by simp,by omega,by simp,by simp,by simp,by simp⟩
end
def Stable{α:Type}(J:(Nat→Prop)→List α→World→Prop):Prop:=∀ S pre A B,J S pre A→SameOn S A B→J S pre B
def Grows(S S':Nat→Prop)(A B:World):Prop:=∀ k,S' k→(S k∨A.heap.size≤k)∧k < B.heap.size
theorem Grows.trans {S S' S'' : Nat → Prop} {A B C : World} (h : Grows S S' A B) (k : Grows S' S'' B C) (hs : A.heap.size ≤ B.heap.size) : Grows S S'' A C :=
  fun i hi => ⟨by rcases (k i hi).1 with h1 | h1; · exact (h i h1).1
                  · exact .inr (by omega), (k i hi).2⟩
theorem Grows.refl{S:Nat→Prop}{A B:World}(h:∀ k,S k→k < B.heap.size):Grows S S A B:=fun k hk=>⟨.inl hk,h k hk⟩
def SeqOf{α:Type}(P:Program)(g:FuncId)(lb:Array Value)(encs:α→Array Value)(R:Nat→Prop)(xs:List α)(w:World):Prop:=
 ∀ (l:Nat) (J Jx:(Nat→Prop)→List α→World→Prop) (S:Nat→Prop) (W:World),
  SameOn R w W→(∀ k,S k→¬ R k∧k < W.heap.size)→Stable J→Stable Jx →
  (∀ S1 pre x W1,J S1 pre W1→(pre ++ [x]) <+: xs→SameOn R W W1→(∀ k,S1 k→¬ R k∧k < W1.heap.size) →
   YieldAt Fence.wide 7 P l (encs x) W1 fun e W'=>
    (e = .returned (.bool true)∧∃ S2,J S2 (pre ++ [x]) W'∧Fr S1 W1 W'∧Grows S1 S2 W1 W') ∨
    (e = .returned (.bool false)∧∃ S2,Jx S2 (pre ++ [x]) W'∧Fr S1 W1 W'∧Grows S1 S2 W1 W')) →
  J S [] W →
  Calls P g (#[.func (.yield l) #[] #[]] ++ lb) W fun e W'=>(∃ v,e = .returned v)∧∃ S2,(J S2 xs W'∨∃ pre,pre <+: xs∧Jx S2 pre W')∧Fr S W W'∧Grows S S2 W W'
def fpPost{α:Type}(I:(Nat→Prop)→List α→World→Prop)(Ix:Code→(Nat→Prop)→List α→World→Prop)(S:Nat→Prop)(ys:List α)(W:World):Exit→Act→World→Prop
 | .normal,_,W'=>∃ S',I S' ys W'∧Fr S W W'∧Grows S S' W W'
 | .ret,_,W'=>∃ S',Ix .ret S' ys W'∧Fr S W W'∧Grows S S' W W'
 | .exit id,_,W'=>∃ S',Ix (.exit id) S' ys W'∧Fr S W W'∧Grows S S' W W'
 | .goto t,_,W'=>∃ S',Ix (.goto t) S' ys W'∧Fr S W W'∧Grows S S' W W'
 | .panic _,_,_=>False
 | .outgrown,_,_=>False
theorem minus_plus{S:Nat→Prop}{L:Nat}(h:∀ k,S k→k≠L∧k≠L+1):(fun k=>(S k∨k=L∨k=L+1)∧k≠L∧k≠L+1)=S:=by
 funext k
 apply propext
 constructor
 ·rintro⟨h1 | h1 | h1,h2,h3⟩
  ·exact h1
  ·exact absurd h1 h2
  ·exact absurd h1 h3
 ·exact fun hk=>⟨.inl hk,h k hk⟩
theorem wpListIn_append_lies{F:Fence}{nn:Nat}{P:Program}(w:World){ops:Array Oper}{rest:List Oper}{o:Oper}{a:Act}{Q:Exit→Act→World→Prop}(hgd:o.guard=none)(s x:Operand)(t:TypeId)
  (ho:o.op = .call { callee:=.builtin .append,args:=#[s,x],argTypes:=#[t,t] })
  (base:Nat) (e:TypeId) (i:TypeInfo) (z:Value) (size bytes:Nat) (ht:P.underlying t=some (.slice e)) (hi:P.info? e=some i) (hz:i.zero=some z)
  (hsize:i.size=size) (hby:i.bytes=bytes) (hzs:z.cells.size=size) (hsz:0 < size)
  (v:Value) (n:Nat) (xs:List Value) (hs:a.eval s=v) (hown:w.ownsRow base e size v n xs)
  (ad:Addr) (m c:Nat) (news:List Value) (hx:a.eval x = .slice (some ad) m c) (hl:news.length=m * size) (hnews:∀ j u,news[j]?=some u→w.cell? (ad.add j)=some u) (h1:∀ u ∈ news,u.oneCell'=true)
  (hm:0 < m) (h63:n+m≤maxLen) (hbytes:(n+m) * bytes≤140737488355328) (hbase:base≤w.heap.size) (H:Nat) (hH:w.heap.size=H)
  (h:∀ g cap w',w'.ownsRow base e size (.slice (some ⟨g,0,none⟩) (n+m) cap) (n+m) (xs ++ news)→w.grownBy w' v.ownBlock→(v.ownBlock=some g∨g=H)→g < w'.heap.size→wpListIn F nn P ops Q rest (a.put o.dst (.slice (some ⟨g,0,none⟩) (n+m) cap)) w'):wpListIn F nn P ops Q (o :: rest) a w:=by
 refine wpListIn_plain hgd fun K hK'=>?_
 obtain⟨g,cap,w',hrun,r1,r2,r3,r4⟩:=run_append_lies (P:=P) w t o.type base e i z size bytes ht hi hz hsize hby hzs hsz v n xs hown ad m c news hl hnews h1 hm h63 hbytes hbase H hH
 unfold Oper.wpIn
 refine⟨?_,?_⟩
 ·simp [Oper.about,ho,resolve,Target.leads,Sem.run_pure]
 ·rw[Oper.semAt_plain F _ _ (by rw[ho];intro c hc';cases hc')]
  simp [execOp,ho,resolve,invoke,builtin,hs,hx,hrun,Result.andThen]
  exact hK' _ _ (h g cap w' r1 r2 r3 r4)
end Go.Proofs.YtefepfiijoafbaaGreat
