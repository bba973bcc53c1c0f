/- EqW Commits Copy MapF MapL FitE State InsL ValO -/
import Derived.Deep.QuietTactic
import Derived.Deep.RegionHeld3
import Derived.Maps.OwnSet
import Derived.Maps.RangeWalk
import Derived.Maps.Ext
import Derived.Test.YtefepfiijoafbaaGreatQEq4
import Derived.Test.YtefepfiijoafbaaGreatQBase
import Derived.Test.YtefepfiijoafbaaGreatQBS
set_option linter.unusedVariables false
set_option linter.unusedSimpArgs false
set_option maxRecDepth 100000
set_option maxHeartbeats 2000000
namespace Go.Proofs.YtefepfiijoafbaaGreat
section
open Go.RowKit Go.Shelf
attribute [local go_sem] Oper.semAt_some
theorem schC_size:(Tryz.prog.info? 32).map (·.size)=some 8:=by kernel_rfl
theorem schema_any(W:World)(R:Nat→Prop)(p:Nat)(l:PL)(h:IsPL W R p l)(hs:0 < l.s.pred.size):Calls Tryz.prog 81 #[.pointer (some ⟨p,0,none⟩)] W fun e w'=>e = .returned (.agg l.s.enc.toArray)∧Fr N0 W w':=by
 obtain⟨vt,vc,cs,h1,-⟩:=h
 obtain⟨⟨sp,st,sl,se,sm,so,sr,sc⟩,mk,ts,cms⟩:=l
 simp only [Sch.enc] at h1 hs ⊢
 have lt:=lt_of_block h1
 obtain⟨W0,hW0⟩:∃ W0,W.alloc (Obj.cells #[.string ⟨#[]⟩,.int .u8 0,.bool false,.bool false,.bool false,.bool false,.bool false,.bool false] 32)=W0:=⟨_,rfl⟩
 have hf0:Fr N0 W W0:=by rw[← hW0];exact(Fr.refl _ _).alloc _
 have hb0:W0.heap[W.heap.size]?=some (Obj.cells #[.string ⟨#[]⟩,.int .u8 0,.bool false,.bool false,.bool false,.bool false,.bool false,.bool false] 32 (0,0)):=by rw[← hW0];exact World.alloc_heap_new W _
 have hb1:=(hf0.at id lt).trans h1
 obtain⟨m,n,-⟩:=box_cells hb1
 have hn:=pNone_any W0 p sp (m 0) hs
 have HN:=hhd hn;have H1:=hhd hb1;have H0:=hhd hb0;have HF0:=hhd hf0
 have hl0:=lt_of_block hb0;have hl1:=lt_of_block hb1
 clear hn h1 m n hb1 hb0 hf0
 go_enter Tryz.func81,Tryz.ntmps81
 go_wp2_with fail
 try rw[hW0]
 refine HN.out.mono ?_
 rintro e w1 ⟨rfl,hf1⟩
 clear hW0
 have hb0:=(hf1.at id hl0).trans H0.out
 have hb1:=(hf1.at id hl1).trans H1.out
 obtain⟨m1,n1,l1⟩:=box_cells hb1
 go_wp2_with (go_loud (refine wpList_store_row rfl 32 _ _ rfl W.heap.size _ rfl rfl 32 _ hb0 schC_size rfl (by simp [Value.oneCell']) ?_))
 refine bodyPost_ret_by (results_cell_row rfl _ _ W.heap.size 32 _ (0,0) _ rfl (setRow_heap _ _ _ _ _ _ hb0) Tryz.underlying32 rfl schC_size) rfl ?_
 exact⟨rfl,(HF0.out.then0 hf1).trans (fr_setRow _ _ _) fun k hk=>.inr (by rw[hk];exact Nat.le_refl _)⟩
end
section
open Go.RowKit Go.Shelf
attribute [local go_sem] Oper.semAt_some
attribute [local irreducible] wpQuiet

end
section
open Go.RowKit Go.Shelf Go.Maps
def heldR(v:Value):Option (DataW Value × List MemPlace):=some (.held v,[])
theorem heldR_inv{v:Value}{z:DataW Value × List MemPlace}(h:heldR v=some z):z=(.held v,[]):=(Option.some.inj h).symm
open Classical in
noncomputable def putF(F:Lit→Option Value)(kl:Lit)(v:Option Value):Lit→Option Value:=fun x=>if x=kl then v else F x
theorem putF_same(F:Lit→Option Value)(kl:Lit)(v:Option Value):putF F kl v kl=v:=if_pos rfl
theorem putF_other{F:Lit→Option Value}{kl x:Lit}{v:Option Value}(h:x≠kl):putF F kl v x=F x:=if_neg h
def Views(D:DataW Value)(F:Lit→Option Value):Prop:=∀ kl,(has D kl=true∧∃ v,F kl=some v∧∀ zd,D.atKey kl zd = .held v)∨(has D kl=false∧F kl=none)
theorem Views.has{D:DataW Value}{F:Lit→Option Value}(h:Views D F)(kl:Lit):Maps.has D kl=(F kl).isSome:=by
 rcases h kl with⟨h1,v,h2,-⟩ | ⟨h1,h2⟩ <;> simp [h1,h2]
theorem Views.put{D:DataW Value}{F:Lit→Option Value}(h:Views D F)(hD:IsMap D){kl:Lit}(hk:WideAt.IsKeyLit kl)(v:Value):Views (D.put kl (.held v)) (putF F kl (some v)):=fun x=>by
 by_cases e:x=kl
 ·subst e
  exact .inl ⟨has_put_same hD hk _,v,putF_same _ _ _,fun zd=>atKey_put_same hD hk _ _⟩
 ·rcases h x with⟨h1,u,h2,h3⟩ | ⟨h1,h2⟩
  ·exact .inl ⟨by rw[has_put_other e];exact h1,u,by rw[putF_other e];exact h2,fun zd=>by rw[atKey_put_other e];exact h3 zd⟩
  ·exact .inr ⟨by rw[has_put_other e];exact h1,by rw[putF_other e];exact h2⟩
theorem Views.del{D:DataW Value}{F:Lit→Option Value}(h:Views D F)(kl:Lit):Views (D.del kl) (putF F kl none):=fun x=>by
 by_cases e:x=kl
 ·subst e
  exact .inr ⟨has_del_same,putF_same _ _ _⟩
 ·rcases h x with⟨h1,u,h2,h3⟩ | ⟨h1,h2⟩
  ·exact .inl ⟨by rw[has_del_other e];exact h1,u,by rw[putF_other e];exact h2,fun zd=>by rw[atKey_del_other e];exact h3 zd⟩
  ·exact .inr ⟨by rw[has_del_other e];exact h1,by rw[putF_other e];exact h2⟩
section
variable {P:Program} {k:TypeId}
def MapF(P:Program)(k:TypeId)(W:World)(b n:Nat)(F:Lit→Option Value):Prop:=∃ D:DataW Value,W.ownsMap P k heldR b n D∧Views D F
theorem MapF.lt{W:World}{b n:Nat}{F:Lit→Option Value}(h:MapF P k W b n F):b < W.heap.size:=by
 obtain⟨D,h,-⟩:=h;exact h.lt
theorem MapF.mono{W:World}{b n m:Nat}{F:Lit→Option Value}(h:MapF P k W b n F)(hm:n≤m):MapF P k W b m F:=by
 obtain⟨D,h1,h2⟩:=h;exact⟨D,h1.mono hm,h2⟩
theorem MapF.at{W W':World}{b n:Nat}{F:Lit→Option Value}(h:MapF P k W b n F)(hb:W'.heap[b]?=W.heap[b]?):MapF P k W' b n F:=by
 obtain⟨D,⟨es,c,h1,h2,h3,h4⟩,h⟩:=h
 exact⟨D,⟨es,c,hb.trans h1,h2,h3,h4⟩,h⟩
theorem MapF.fr{W W':World}{T:Nat→Prop}{b n:Nat}{F:Lit→Option Value}(h:MapF P k W b n F)(hf:Fr T W W')(hb:¬ T b):MapF P k W' b n F:=
 h.at (hf.at (k:=b) hb h.lt)
theorem MapF.made(W:World)(P:Program)(k:TypeId):MapF P k (W.alloc (.map #[] 0)) W.heap.size 0 fun _=>none:=
 ⟨.map [],World.ownsMap_made W P k heldR,fun kl=>.inr ⟨rfl,rfl⟩⟩
theorem fr_turned{W W':World}{b:Nat}(h:W.mapTurned W' b):Fr (fun j=>j=b) W W':=
 (Fr.refl _ _).grown h.grown (fun j e=>.inl (by simpa using e.symm))
theorem MapF.look{W:World}{b n:Nat}{F:Lit→Option Value}{t e:TypeId}(h:MapF P k W b n F)(K:Keyed P k)(ht:P.underlying t=some (.map k e)){z:Value}(hz:(zeroValue e).run P W = .ok z W){key:Value}{kl:Lit}(hkey:keyOf P k key=some kl) :
  (Instr.lookup t (.map (some b)) key false).run P W = .ok ((F kl).getD z) W∧(Instr.lookup t (.map (some b)) key true).run P W = .ok (.tuple #[(F kl).getD z,.bool (F kl).isSome]) W:=by
 obtain⟨D,h,hv⟩:=h
 obtain⟨v,ps,h1,h2⟩:=h.lookup K ht hz (zd:=.held z) (zp:=[]) rfl hkey
 obtain⟨v',ps',h3,h4⟩:=h.look_ok K ht hz (zd:=.held z) (zp:=[]) rfl hkey
 have e1:=(Prod.mk.inj (heldR_inv h2)).1
 have e2:=(Prod.mk.inj (heldR_inv h4)).1
 rw[h1,h3,hv.has]
 rcases hv kl with⟨-,u,h5,h6⟩ | ⟨h5,h6⟩
 ·rw[h6] at e1 e2
  cases e1;cases e2
  simp [h5]
 ·have h7:D.atKey kl (.held z) = .held z:=atKey_of_not_has h5 _
  rw[h7] at e1 e2
  cases e1;cases e2
  simp [h6]
end
section
variable {P:Program} (w:World) {ops:Array Oper} {rest:List Oper} {o:Oper} {a:Act} {Q:Exit→Act→World→Prop}
theorem wpList_putF(hg:o.guard=none)(m x v:Operand)(t:TypeId)(hop:o.op=Op.mapUpdate t m x v)
  (k e:TypeId) (K:Keyed P k) (ht:P.underlying t=some (.map k e)) (b n:Nat) (F:Lit→Option Value)
  (hm:a.eval m = .map (some b)) (h:MapF P k w b n F) (hn:n < maxLen) (key val:Value) (kl:Lit) (hx:a.eval x=key) (hv:a.eval v=val) (hkey:keyOf P k key=some kl)
  (hK:∀ w',MapF P k w' b (n+1) (putF F kl (some val))→Fr (fun j=>j=b) w w'→wpList P ops Q rest (a.put o.dst undef) w') :
  wpList P ops Q (o :: rest) a w:=by
 obtain⟨D,h,hV⟩:=h
 exact wpList_mapUpdate_in w hg m x v t hop k e K ht heldR b n D hm h hn key val kl hx hv hkey (.held val) [] rfl fun w' h1 h2=>hK w' ⟨_,h1,hV.put h.isMap (K.key hkey) val⟩ (fr_turned h2)
def MapR(P:Program)(k:TypeId)(W:World)(b r n:Nat)(F:Lit→Option Value)(left:Lit→Bool)(cnt:Nat):Prop:=∃ D:DataW Value,W.ranges P k heldR b r n D left cnt∧Views D F
theorem MapR.mapF{k:TypeId}{W:World}{b r n cnt:Nat}{F:Lit→Option Value}{left:Lit→Bool}(h:MapR P k W b r n F left cnt):MapF P k W b n F:=by
 obtain⟨D,h,hV⟩:=h;exact⟨D,h.owns,hV⟩
theorem MapR.left_eq{k:TypeId}{W:World}{b r n cnt:Nat}{F:Lit→Option Value}{left:Lit→Bool}(h:MapR P k W b r n F left cnt):W.rangeLeft b r=cnt:=by
 obtain⟨D,h,hV⟩:=h;exact h.left_eq
theorem MapR.lt{k:TypeId}{W:World}{b r n cnt:Nat}{F:Lit→Option Value}{left:Lit→Bool}(h:MapR P k W b r n F left cnt):r < W.heap.size:=by
 obtain⟨D,h,hV⟩:=h;exact h.lt
theorem MapR.fr{k:TypeId}{W W':World}{T:Nat→Prop}{b r n cnt:Nat}{F:Lit→Option Value}{left:Lit→Bool}(h:MapR P k W b r n F left cnt)(hf:Fr T W W')(hb:¬ T b)(hr:¬ T r):MapR P k W' b r n F left cnt:=by
 have hl:=h.lt
 have hl2:=h.mapF.lt
 obtain⟨D,⟨es,c,s,se,c0,h1,h2,h3,h4,h5,h6⟩,hV⟩:=h
 exact⟨D,⟨es,c,s,se,c0,(hf.at (k:=b) hb hl2).trans h1,h2,h3,h4,(hf.at (k:=r) hr hl).trans h5,h6⟩,hV⟩
theorem fr_grown0{W W':World}(h:W.grownBy W' none):Fr N0 W W':=(Fr.refl _ _).grown h (fun k e=>by cases e)
theorem wpList_nextF{α β:Type}(hg:o.guard=none)(it:Operand)(hop:o.op=Op.next it false)(k:TypeId)(K:Keyed P k)(mkK:α→Value)(mkV:β→Value)
  (invK:∀ key kl,keyOf P k key=some kl→∃ x,key=mkK x) (b r n:Nat) (F:Lit→Option Value) (left:Lit→Bool) (cnt:Nat) (invV:∀ kl v,F kl=some v→∃ c,v=mkV c) (hl:∀ kl,left kl=true→(F kl).isSome=true)
  (hit:a.eval it = .pointer (some ⟨r,0,none⟩)) (h:MapR P k w b r n F left cnt)
  (hDone:cnt=0→(∀ kl,left kl=false)→wpList P ops Q rest (a.put o.dst (.tuple #[.bool false])) w)
  (hMore:∀ (x:α) (c:β) (kl:Lit) (w':World) (cnt':Nat),keyOf P k (mkK x)=some kl→left kl=true→F kl=some (mkV c)→MapR P k w' b r n F (fun z=>left z && !z.sameKey kl) cnt'→cnt' < cnt →
   Fr (fun j=>j=r) w w'→w'.heap.size=w.heap.size→(Instr.entry (.pointer (some ⟨r,0,none⟩))).run P w' = .ok (.tuple #[mkK x,mkV c]) w'→wpList P ops Q rest (a.put o.dst (.tuple #[.bool true,mkK x,mkV c])) w') :
  wpList P ops Q (o :: rest) a w:=by
 obtain⟨D,h,hV⟩:=h
 refine wpList_plain hg fun K' hK'=>?_
 unfold Oper.wp
 rcases h.next K o.type with⟨h0,hl,hrun⟩ | ⟨key,v,kl,y,w',cnt',hkey,hlk,hv,hat,hrun,hrg,hlt,hgr,hsz,hen⟩
 ·simp [execOp,hop,hit,hrun,Result.andThen]
  exact hK' _ _ (hDone h0 hl)
 ·have ey:=heldR_inv hv
  subst ey
  have hF:F kl=some v:=by
   rcases hV kl with⟨-,u,h5,h6⟩ | ⟨h5,h6⟩
   ·have:=(h6 .nil).symm.trans (hat .nil)
    rw[h5];exact congrArg some (by simpa using this)
   ·have:=hl kl hlk;rw[h6] at this;cases this
  obtain⟨x,rfl⟩:=invK key kl hkey
  obtain⟨c,rfl⟩:=invV kl v hF
  simp [execOp,hop,hit,hrun,Result.andThen]
  exact hK' _ _ (hMore x c kl w' cnt' hkey hlk hF ⟨D,hrg,hV⟩ hlt ((Fr.refl _ _).grown hgr (fun j e=>.inl (by simpa using e.symm))) hsz hen)
end
end
section
theorem bytes_ne{a b:ByteArray}:a.toList≠b.toList↔a≠b:=by
 constructor
 ·intro h e;exact h (by rw[e])
 ·intro h e
  refine h ?_
  rw[ByteArray.toList_eq,ByteArray.toList_eq] at e
  cases a;cases b
  congr 1
  exact Array.ext' e
theorem tFits_fitE(s:Sch)(x:Wr):tFits s x=fitE s x:=by
 unfold tFits fitE
 by_cases h1:schMay s=0
 ·by_cases h2:trMay x=0
  ·have:firstNZ [schMay s,trMay x]=0:=by rw[h1,h2];rfl
   have hb:(x.pred.toList=s.pred.toList)=(x.pred=s.pred):=propext (Decidable.not_iff_not.1 bytes_ne)
   rw[this]
   simp only [h1,h2,hb,ne_eq,not_true_eq_false,if_false]
  ·have:firstNZ [schMay s,trMay x]=trMay x:=by rw[h1];simp [firstNZ,h2]
   rw[this,if_pos h2,h1,if_neg (by simp),if_pos h2]
 ·have:firstNZ [schMay s,trMay x]=schMay s:=by simp [firstNZ,h1]
  rw[this,if_pos h1,if_pos h1]
end
section
open Go.RowKit Go.Shelf Go.Maps
theorem mkS_data(s:ByteArray):mkS s.data.toList=s:=by apply ByteArray.ext;simp [mkS]
abbrev litU(x:Int):Lit:=.int .u64 x
structure PL.Fine(l:PL)(p:ByteArray)(N:Nat):Prop where
 ok:l.Ok
 pred:l.s.pred=p
 may:schMay l.s=0
 twf:∀ t ∈ l.times,(Lit.int .u64 t).wf=true
 times:l.times.length≤N
 commits:l.commits.length≤N
 writes:∀ c ∈ l.commits,c.writes.length≤256∧∀ x ∈ c.writes,x.wf
theorem PL.Fine.mono{l:PL}{p:ByteArray}{N M:Nat}(h:l.Fine p N)(hN:N≤M):l.Fine p M:=⟨h.ok,h.pred,h.may,h.twf,Nat.le_trans h.times hN,Nat.le_trans h.commits hN,h.writes⟩
theorem predOk_size{p:ByteArray}(h:predOk p=true):0 < p.size∧p.size≤64:=by
 have:predOkP p:=by simpa [predOk] using h
 obtain⟨h0,h1,-⟩:=this
 exact⟨h0,h1⟩
theorem schMay_pred{s:Sch}(h:schMay s=0):predOk s.pred=true:=by
 unfold schMay at h
 split at h
 ·simp at h
 ·simp_all
theorem PL.Fine.size'{l:PL}{p:ByteArray}{N:Nat}(h:l.Fine p N):0 < l.s.pred.size:=(predOk_size (schMay_pred h.may)).1
end
section
theorem insBy_length{α:Type}(key:α→Int)(a:α):∀ l:List α,(insBy key a l).length=l.length+1
 | []=>rfl
 | x :: l=>by
  unfold insBy
  split
  ·simp
  ·simp [insBy_length key a l]
theorem addIn_fine{l:PL}{p:ByteArray}{N:Nat}{c:Cm}(h:l.Fine p N)(hc:addErr l c=0)(ht:(Lit.int .u64 c.time).wf=true)(hl:c.writes.length≤256)(hw:∀ y ∈ c.writes,y.wf):(addIn l c).Fine p (N+1) where
 ok:=addIn_ok h.ok (addErr_new hc)
 pred:=h.pred
 may:=h.may
 twf:=fun t ht'=>(insBy_mem.1 ht').elim (fun e=>e ▸ ht) (h.twf t)
 times:=by show(insBy id c.time l.times).length≤_;rw[insBy_length];have:=h.times;omega
 commits:=by show(insBy Cm.time c l.commits).length≤_;rw[insBy_length];have:=h.commits;omega
 writes:=fun d hd=>(insBy_mem.1 hd).elim (fun e=>e ▸ ⟨hl,hw⟩) (h.writes d)
end
section
open Go.RowKit Go.Shelf
def Val.ok(v:Val):Prop:=(0≤v.k∧v.k < 256)∧(-9223372036854775808≤v.n∧v.n≤9223372036854775807)∧0≤v.u∧v.u < 18446744073709551616
def Wr.ok(x:Wr):Prop:=(0≤x.uid∧x.uid < 18446744073709551616)∧x.val.ok
theorem Wr.ok.wf{x:Wr}(h:x.ok):x.wf:=⟨h.1.1,h.2.2.2.1,h.2.1.1⟩
end
end Go.Proofs.YtefepfiijoafbaaGreat
