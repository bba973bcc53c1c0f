/- IdxV Many FndA FndB -/
import Derived.Deep.RegionLaw
import Derived.Test.YtefepfiijoafbaaGreatQWhere
import Derived.Test.YtefepfiijoafbaaGreatQValR
import Derived.Test.YtefepfiijoafbaaGreatQIMay2
set_option linter.unusedVariables false
set_option linter.unusedSimpArgs false
set_option maxRecDepth 100000
set_option maxHeartbeats 4000000
namespace Go.Proofs.YtefepfiijoafbaaGreat
section
open Go.RowKit Go.Shelf Go.Maps Go.Sort
attribute [local go_sem] Oper.semAt_some
attribute [local irreducible] wpQuiet
open Classical in
noncomputable def eqVal(x y:Val):Bool:=decide (x=y)
theorem val_ext{x y:Val}:x=y↔x.k=y.k∧x.b=y.b∧x.n=y.n∧x.s=y.s∧x.u=y.u:=by
 obtain⟨vk,vb,vn,vs,vu⟩:=x
 obtain⟨zk,zb,zn,zs,zu⟩:=y
 simp
theorem eql_val(x y:Val)(W:World):(binOp .eql 57 (.agg x.enc.toArray) (.agg y.enc.toArray)).run Tryz.prog W = .ok (.bool (eqVal x y)) W:=by
 have hext:=@val_ext x y
 obtain⟨vk,vb,vn,vs,vu⟩:=x
 obtain⟨zk,zb,zn,zs,zu⟩:=y
 simp only [Val.enc]
 go_simp
 have hs:vs.toList=zs.toList↔vs=zs:=⟨fun h=>by rw[ByteArray.toList_eq,ByteArray.toList_eq] at h;exact ByteArray.ext (Array.toList_inj.1 h),fun h=>by rw[h]⟩
 unfold eqVal
 simp only [hs]
 repeat' split
 all_goals simp_all
theorem toList_inj{a b:ByteArray}(h:a≠b):¬ a.toList=b.toList:=fun e=>h (by rw[ByteArray.toList_eq,ByteArray.toList_eq] at e;exact ByteArray.ext (Array.toList_inj.1 e))
theorem idxV_any(w:World)(b:Nat)(v:Value)(xs:List Val)(h:RowsK Val.enc 5 w b v xs)(hl:xs.length≤9223372036854775807)(y:Val) :
  Calls Tryz.prog 212 #[v,.agg y.enc.toArray] w fun e w'=>e = .returned (.int .i64 (idxW xs (eqVal y)))∧Fr N0 w w':=by
 obtain⟨a,off,cap,rfl,h1,h2,h3,h4,h5⟩:=h
 have HC:=hhd h5;clear h5 h4
 obtain⟨p,hp⟩:∃ p,eqVal y=p:=⟨_,rfl⟩
 rw[hp]
 have HP:=hhd hp
 clear hp
 obtain⟨zk,zb,zn,zs,zu⟩:=y
 simp only [Val.enc]
 obtain⟨w0,hw0⟩:∃ w0,w.alloc (.cells #[.int .u8 zk,.bool zb,.int .i64 zn,.string zs,.int .u64 zu] 57)=w0:=⟨_,rfl⟩
 have hb0:w0.heap[w.heap.size]?=some (.cells #[.int .u8 zk,.bool zb,.int .i64 zn,.string zs,.int .u64 zu] 57 (0,0)):=by rw[← hw0];exact World.alloc_heap_new w _
 have hf0:Fr N0 w w0:=by rw[← hw0];exact(Fr.refl _ _).alloc _
 have hl0:=lt_of_block hb0
 have HB:=hhd hb0;have HF:=hhd hf0
 clear hb0 hf0
 go_enter Tryz.func212,Tryz.ntmps212
 go_wp2
 try rw[hw0]
 go_loopw [8] (fun i wr=>∃ k:Nat,k≤xs.length∧i = .int .i64 k∧Hid (∀ j (h:j < xs.length),j < k→p xs[j]=false)∧Fr N0 w0 wr) (fun i _=>xs.length - (intOf i).toNat)
 case atStart=>exact⟨0,Nat.zero_le _,rfl,fun j h hj=>by omega,Fr.refl _ _⟩
 case round=>
  obtain⟨k,hk,rfl,hn,hfr⟩:=hrel
  by_cases hlt:k < xs.length
  ·obtain rfl:=h3 (by omega)
   have e5:=HC.out k hlt
   have c0:=e5 0 (by decide);have c1:=e5 1 (by decide);have c2:=e5 2 (by decide);have c3:=e5 3 (by decide);have c4:=e5 4 (by decide)
   rw[Nat.add_zero] at c0
   have hnx:p xs[k]=false→∀ j (h:j < xs.length),j < k+1→p xs[j]=false:=fun he j h hj=>by
    rcases Nat.lt_or_ge j k with h' | h'
    ·exact hn.out j h h'
    ·have:j=k:=by omega
     subst this;exact he
   have hfd:p xs[k]=true→idxW xs p=k:=fun he=>idxW_at hlt hn.out he
   obtain⟨x,hx⟩:∃ x,xs[k]=x:=⟨_,rfl⟩
   simp only [hx] at c0 c1 c2 c3 c4 hnx hfd
   obtain⟨vk,vb,vn,vs,vu⟩:=x
   simp only [Val.enc,List.getElem?_cons_zero,List.getElem?_cons_succ] at c0 c1 c2 c3 c4
   have hfw:=HF.out.then0 hfr
   replace c0:=hfw.cell id c0;replace c1:=hfw.cell id c1;replace c2:=hfw.cell id c2;replace c3:=hfw.cell id c3;replace c4:=hfw.cell id c4
   have hbr:=(hfr.at (k:=w.heap.size) id hl0).trans HB.out
   obtain⟨m0,n0,l0⟩:=box_cells hbr
   have hki:(k:Int) < (xs.length:Int):=by omega
   have HNX:=hhd hnx;have HFD:=hhd hfd;have HFR:=hhd hfr
   have key:(⟨zk,zb,zn,zs,zu⟩:Val)=⟨vk,vb,vn,vs,vu⟩∨((⟨zk,zb,zn,zs,zu⟩:Val)≠⟨vk,vb,vn,vs,vu⟩∧(zk≠vk∨(zk=vk∧zb≠vb)∨(zk=vk∧zb=vb∧zn≠vn)∨(zk=vk∧zb=vb∧zn=vn∧¬ zs.toList=vs.toList)∨(zk=vk∧zb=vb∧zn=vn∧zs=vs∧zu≠vu))):=by
    by_cases e:(⟨zk,zb,zn,zs,zu⟩:Val)=⟨vk,vb,vn,vs,vu⟩
    ·exact .inl e
    ·refine .inr ⟨e,?_⟩
     by_cases e1:zk=vk
     ·by_cases e2:zb=vb
      ·by_cases e3:zn=vn
       ·by_cases e4:zs=vs
        ·by_cases e5:zu=vu
         ·subst e1 e2 e3 e4 e5;exact absurd rfl e
         ·exact .inr (.inr (.inr (.inr ⟨e1,e2,e3,e4,e5⟩)))
        ·exact .inr (.inr (.inr (.inl ⟨e1,e2,e3,toList_inj e4⟩)))
       ·exact .inr (.inr (.inl ⟨e1,e2,e3⟩))
      ·exact .inr (.inl ⟨e1,e2⟩)
     ·exact .inl e1
   clear hx hnx hfd hn hfw hfr hbr
   rcases key with e | ⟨hne,key⟩
   ·have hq:p ⟨vk,vb,vn,vs,vu⟩=true:=by rw[← HP.out];simp [eqVal,e]
    have hF:=hhd (HFD.out hq)
    simp only [Val.mk.injEq] at e
    obtain⟨rfl,rfl,rfl,rfl,rfl⟩:=e
    clear HFD HNX hq
    go_wp2
    go_quiet (fail)
    go_wp2
    go_ret
    exact⟨ret_int hF.out.symm,HF.out.then0 (HFR.out.drewN _)⟩
   ·have hq:p ⟨vk,vb,vn,vs,vu⟩=false:=by rw[← HP.out];simp only [eqVal,decide_eq_false_iff_not];exact hne
    have hF:=hhd (HNX.out hq)
    clear HFD HNX hq hne
    rcases key with e | ⟨rfl,e⟩ | ⟨rfl,rfl,e⟩ | ⟨rfl,rfl,rfl,e⟩ | ⟨rfl,rfl,rfl,rfl,e⟩
    all_goals
     go_wp2
     go_quiet (fail)
     go_wp2
     go_roundw
     case rel=>exact⟨k+1,by omega,by go_num,hF.out,HFR.out.drewN _⟩
     case measure=>simp [intOf];omega
  ·obtain rfl:k=xs.length:=by omega
   have hF:=hhd (idxW_none hn.out)
   clear hn
   go_wp2
   go_ret
   exact⟨ret_int hF.out.symm,HF.out.then0 hfr⟩
end
section
open Go.RowKit Go.Shelf Go.Maps Go.Sort
attribute [local go_sem] Oper.semAt_some
attribute [local irreducible] wpQuiet
def manyIs(n:Int)(k:Nat):Bool:=decide (n < 0) || decide ((k:Int)=n)
theorem many1_any(W:World)(base bn bo:Nat)(n u:Int)(k c:Nat)(ov:Value)(os:List Int)(hn:W.heap[bn]?=some (.cells #[.int .i64 n] 2 (0,0)))(ho:W.heap[bo]?=some (.cells #[ov] 35 (0,0)))(hr:W.ownsRow base 33 1 ov c (os.map (Value.int .u64)))(hc:c≤10000000000)(hb:base≤W.heap.size)(hbo:bo < base) :
  Calls Tryz.prog 215 #[.int .u64 u,.int .i64 k,.pointer (some ⟨bn,0,none⟩),.pointer (some ⟨bo,0,none⟩)] W fun e w'=>e = .returned (.tuple #[]) ∧
   (if manyIs n k=true then ∃ ov',w'.heap[bo]?=some (.cells #[ov'] 35 (0,0))∧w'.ownsRow base 33 1 ov' (c+1) ((os ++ [u]).map (Value.int .u64)) else w'.heap[bo]?=some (.cells #[ov] 35 (0,0))∧w'.ownsRow base 33 1 ov c (os.map (Value.int .u64)))∧Fr (fun j=>j=bo∨base≤j) W w':=by
 obtain⟨i0,hi,hz0,hz1,hz2⟩:=info_parts ins4_info
 obtain⟨oa,oc,rfl⟩:=row_form hr
 have c0:=cell_of_one hn
 have c1:=cell_of_one ho
 have f1:=free_of_one ho
 have hown:=fun j hj=>(ownsRow_lt hr j hj).1
 have HO:=hhd ho;have HR:=hhd hr;have HW:=hhd hown
 have hlb:=lt_of_block ho
 clear hn ho hr hown
 by_cases hm:manyIs n k=true
 ·simp only [hm,if_true]
  have key:n < 0∨(¬ n < 0∧(k:Int)=n):=by
   unfold manyIs at hm
   simp at hm
   omega
  have fin:∀ (w2:World) (g cap:Nat),w2.ownsRow base 33 1 (.slice (some ⟨g,0,none⟩) (c+1) cap) (c+1) (os.map (Value.int .u64) ++ [.int .u64 u])→(W.alloc (.cells #[.int .u64 u] 33)).grownBy w2 (Value.slice oa c oc).ownBlock→((Value.slice oa c oc).ownBlock=some g∨g=W.heap.size+1) →
    (∃ ov',(w2.setCell ⟨bo,0,none⟩ (.slice (some ⟨g,0,none⟩) (c+1) cap)).heap[bo]?=some (.cells #[ov'] 35 (0,0))∧(w2.setCell ⟨bo,0,none⟩ (.slice (some ⟨g,0,none⟩) (c+1) cap)).ownsRow base 33 1 ov' (c+1) ((os ++ [u]).map (Value.int .u64)))∧Fr (fun j=>j=bo∨base≤j) W (w2.setCell ⟨bo,0,none⟩ (.slice (some ⟨g,0,none⟩) (c+1) cap)):=fun w2 g cap hown1 hgrow1 hfresh1=>by
   have hf:Fr (fun j=>j=bo∨base≤j) W w2:=(((Fr.refl (fun j=>j=bo∨base≤j) W).alloc _).trans ((Fr.refl (fun j=>(Value.slice oa c oc).ownBlock=some j) _).grown hgrow1 fun j e=>.inl e) fun j hj=>.inl (.inr (HW.out j hj)))
   have hob:w2.heap[bo]?=some (.cells #[.slice oa c oc] 35 (0,0)):=by
    have h1:(W.alloc (.cells #[.int .u64 u] 33)).heap[bo]?=_:=(Below.heap_alloc _ _ _ hlb).trans HO.out
    exact(hgrow1.block bo (lt_of_block h1) (fun e=>by have:=HW.out bo e.symm;omega)).trans h1
   have hgb:g≠bo:=fun e=>by
    rcases hfresh1 with h | h
    ·have:=HW.out _ h;omega
    ·omega
   exact⟨⟨_,one_setCell hob,by rw[List.map_append];exact ownsRow_fr hown1 ((Fr.refl (fun j=>j=bo) w2).setCell (p:=⟨bo,0,none⟩) (.inl rfl) _) (fun j hj e=>by
    simp [Value.ownBlock] at hj;omega)⟩,hf.setCell (p:=⟨bo,0,none⟩) (.inl (.inl rfl)) _⟩
  have HFIN:=hhd fin
  clear fin hm
  have hkp:∀ w1,(W.alloc (.cells #[.int .u64 u] 33)).grownBy w1 (Value.slice oa c oc).ownBlock→w1.cell? ⟨bo,0,none⟩=some (.slice oa c oc)∧w1.frozen? ⟨bo,0,none⟩=false:=fun w1 hg=>by
   have h1:(W.alloc (.cells #[.int .u64 u] 33)).heap[bo]?=_:=(Below.heap_alloc _ _ _ hlb).trans HO.out
   have h2:=(hg.block bo (lt_of_block h1) (fun e=>by have:=HW.out bo e.symm;omega)).trans h1
   exact⟨cell_of_one h2,free_of_one h2⟩
  have HKP:=hhd hkp
  clear hkp
  rcases key with hneg | ⟨hneg,hkn⟩
  ·go_enter Tryz.func215,Tryz.ntmps215
   go_wp2_with (at_builtin;go_loud (refine wpList_append_lies _ rfl _ _ 35 rfl (base) 33 i0 (.int .u64 0) 1 8 Tryz.underlying35 hi hz0 hz1 hz2 rfl (by decide) (.slice oa c oc) (c) _ rfl (HR.out.alloc _) ⟨W.heap.size,0,none⟩ 1 1 [.int .u64 u] rfl rfl (World.news_of_block (cs:=#[.int .u64 u]) (t:=33) (fr:=(0,0)) (heap_alloc_new W _)) (by simp [Value.oneCell']) (by omega) (by unfold maxLen;omega) (by omega) (by simp;omega) (W.heap.size+1) (by simp) ?_);intro g1 cap1 w3 hown3 hgrow3 hfresh3 hlt3;obtain⟨kc,kf⟩:=HKP.out w3 hgrow3)
   go_end0
   have hx:=HFIN.out w3 g1 cap1 hown3 hgrow3 hfresh3
   first
    | exact⟨rfl,hx⟩
    |(rw[List.map_append] at hx;exact⟨rfl,hx⟩)
  ·go_enter Tryz.func215,Tryz.ntmps215
   go_wp2_with (at_builtin;go_loud (refine wpList_append_lies _ rfl _ _ 35 rfl (base) 33 i0 (.int .u64 0) 1 8 Tryz.underlying35 hi hz0 hz1 hz2 rfl (by decide) (.slice oa c oc) (c) _ rfl (HR.out.alloc _) ⟨W.heap.size,0,none⟩ 1 1 [.int .u64 u] rfl rfl (World.news_of_block (cs:=#[.int .u64 u]) (t:=33) (fr:=(0,0)) (heap_alloc_new W _)) (by simp [Value.oneCell']) (by omega) (by unfold maxLen;omega) (by omega) (by simp;omega) (W.heap.size+1) (by simp) ?_);intro g1 cap1 w3 hown3 hgrow3 hfresh3 hlt3;obtain⟨kc,kf⟩:=HKP.out w3 hgrow3)
   go_end0
   have hx:=HFIN.out w3 g1 cap1 hown3 hgrow3 hfresh3
   first
    | exact⟨rfl,hx⟩
    |(rw[List.map_append] at hx;exact⟨rfl,hx⟩)
 ·have hm':manyIs n k=false:=by simpa using hm
  simp only [hm',Bool.false_eq_true,if_false]
  have key:¬ n < 0∧¬(k:Int)=n:=by
   unfold manyIs at hm
   simp at hm
   omega
  obtain⟨k1,k2⟩:=key
  have k3:((k:Int) == n)=false:=by simpa using k2
  go_enter Tryz.func215,Tryz.ntmps215
  go_wp2
  go_end0
  exact⟨rfl,⟨HO.out,HR.out⟩,Fr.refl _ _⟩
def ManyT(b bo r N:Nat)(F:Lit→Option Value)(p:Int→Bool)(W2 wr:World):Prop:=
 ∃ (left:Lit→Bool) (cnt k:Nat) (os:List Int) (ov:Value),Hid (MapR Tryz.prog 33 wr b r N F left cnt)∧Hid (∀ kl,left kl=true→(F kl).isSome=true)∧Hid (Picked F left p os)∧Hid (os.length=k∧k+cnt≤N)∧Hid (wr.heap[bo]?=some (.cells #[ov] 35 (0,0)))∧Hid (wr.ownsRow (r+1) 33 1 ov k (os.map (Value.int .u64)))∧Hid (Fr (fun j=>j=bo) W2 wr)∧r+1≤wr.heap.size
structure ManyI(b bo r N:Nat)(F:Lit→Option Value)(p:Int→Bool)(W2 wr:World):Prop where
 intro ::
 out:ManyT b bo r N F p W2 wr
theorem many_any(W:World)(lo px bn bb N:Nat)(H:Int→List Val)(B:Int→List Int)(h:LookAt W lo px bn bb N H B)(hN:N≤9000000000)(back:Bool)(n:Int) :
  Calls Tryz.prog 162 #[.pointer (some ⟨px,0,none⟩),.bool back,.int .i64 n] W (NewInts W fun u=>if back=true then B u≠[]∧manyIs n (B u).length=true else H u≠[]∧manyIs n (H u).length=true):=by
 have cx:=h.cx
 obtain⟨F,hm,hr⟩:=h.nodes
 obtain⟨G,hmB,hrB⟩:=h.backs
 have hlx:=lt_of_cell cx.1
 simp only at hlx
 obtain⟨W2,hW2⟩:∃ W2,(W.alloc (.cells #[.int .i64 n] 2)).alloc (.cells #[.slice none 0 0] 35)=W2:=⟨_,rfl⟩
 have hz2:W2.heap.size=W.heap.size+2:=by rw[← hW2];simp
 have hf2:Fr N0 W W2:=by rw[← hW2];exact((Fr.refl _ _).alloc _).alloc _
 have hbx:W2.heap[W.heap.size]?=some (.cells #[.int .i64 n] 2 (0,0)):=by
  rw[← hW2,Below.heap_alloc _ _ _ (by simp)];exact World.alloc_heap_new _ _
 have hbo:W2.heap[W.heap.size+1]?=some (.cells #[.slice none 0 0] 35 (0,0)):=by
  rw[← hW2]
  have:=World.alloc_heap_new (W.alloc (.cells #[.int .i64 n] 2)) (.cells #[.slice none 0 0] 35)
  rwa [World.size_alloc] at this
 have cx2:=And.intro (hf2.cell id cx.1) (hf2.cell id cx.2)
 have hm2:=hm.fr hf2 id
 have hmB2:=hmB.fr hf2 id
 have hbbl:=hm.lt
 have hbbl2:=hmB.lt
 cases back
 ·simp only [Bool.false_eq_true,if_false]
  have hat:∀ kl v,F kl=some v→∃ u,kl=litU u∧H u≠[]∧∃ a c,v = .slice a (H u).length c:=fun kl v hv=>by
   obtain⟨u,e,h0,g,h1,h2,h3,a,off,cap,rfl,-⟩:=hr.1 kl v hv
   exact⟨u,e,h0,a,cap,rfl⟩
  have hsl:=hr.slv
  have hfin:∀ os (left:Lit→Bool),Picked F left (fun u=>manyIs n (H u).length) os→(∀ kl,left kl=false)→∀ u,u ∈ os↔(H u≠[]∧manyIs n (H u).length=true):=fun os left hpk hl u=>by
   rw[hpk.2]
   constructor
   ·intro h
    refine⟨fun e=>?_,h.2.2⟩
    have:=hr.absent e
    rw[this] at h;cases h.1
   ·exact fun h=>⟨hr.2 u h.1,hl _,h.2⟩
  have HAT:=hhd hat;have HSL:=hhd hsl;have HFIN:=hhd hfin;have HBX:=hhd hbx;have HBO:=hhd hbo;have HF2:=hhd hf2
  have cxx:=cx2.1
  have HZ2:Hid (W2.heap.size=W.heap.size+2):=hhd hz2
  clear hz2 hat hsl hfin hr hrB h hm hmB hbx hbo cx2 cx hmB2
  go_enter Tryz.func162,Tryz.ntmps162
  go_wp2_with (at_range;go_loud (refine wpList_rangeF2 _ rfl _ 165 rfl 33 91 lawU Tryz.underlying165 bn N F rfl hm2 ?_);intro w0 cnt0 hc0 hrg0 hf0 hs0)
  go_frame
  go_loopw [] (fun wr=>ManyI bn (W.heap.size+1) W2.heap.size N F (fun u=>manyIs n (H u).length) W2 wr) (fun wr=>wr.rangeLeft bn W2.heap.size)
  case atStart=>exact ManyI.intro (show ManyT _ _ W2.heap.size _ _ _ W2 _ from⟨_,cnt0,0,[],.slice none 0 0,hrg0,fun kl h=>h,picked_start F _,⟨rfl,by have:=HZ2.out;omega⟩,(hf0.at (k:=W.heap.size+1) id (lt_of_block HBO.out)).trans HBO.out,World.ownsRow_nil _ _ _ _,hf0.mono fun _ h=>h.elim,by have:=HZ2.out;omega⟩)
  case round=>
   obtain⟨left,cnt,k,os,ov,hrg,hl,hpk,hos,hob,hrow,hfr,hsz⟩:=ManyI.out hrel
   obtain⟨oa,oc,rfl⟩:=row_form hrow.out
   go_wp2_with (at_next;go_loud (refine wpList_nextF _ rfl _ rfl 33 lawU (fun x:Int=>Value.int .u64 x) (fun c:Option Addr × Nat × Nat=>Value.slice c.1 c.2.1 c.2.2) (fun _ _=>invU) bn W2.heap.size N F left cnt HSL.out hl.out rfl hrg.out ?_ ?_))
   ·intro hc0' hl0'
    have hso:=sort4_any wr (W2.heap.size+1) (.slice oa k oc) os (by rw[hos.out.1];exact hrow.out) (by have:=hos.out;omega)
    have hmem:=HFIN.out os left hpk.out hl0'
    have hlo:=fun j hj=>(ownsRow_lt hrow.out j hj).1
    have cO:=cell_of_one hob.out
    have HSO:=hhd hso;have HMEM:=hhd hmem;have HLO:=hhd hlo
    clear hso hmem hlo hrg
    go_wp2_with (go_at_call 84;refine HSO.out.mono ?_;rintro e w2 ⟨rfl,hrow2,hf3⟩;have cO2:=cell_of_one ((hf3.at (k:=W.heap.size+1) (fun e=>by have h1:=HLO.out _ e;have:=HZ2.out;omega) (lt_of_block hob.out)).trans hob.out))
    go_ret
    have hl2:(os.mergeSort fun x y=>decide (x≤y)).length=os.length:=(List.mergeSort_perm os _).length_eq
    refine⟨_,_,rfl,ownsRow_base (by rw[hl2,hos.out.1];rw[hos.out.1] at hrow2;exact hrow2) (by have:=HZ2.out;omega),rises_mergeSort hpk.out.1,fun u=>?_,(HF2.out.trans hfr.out fun j hj=>.inr (by have:=HZ2.out;omega)).trans hf3 fun j hj=>.inr (by have:=HLO.out j hj;have:=HZ2.out;omega)⟩
    rw[(List.mergeSort_perm os _).mem_iff]
    exact HMEM.out u
   ·intro x a1 n1 c1 kl w' cnt' hkey hlk hF hrg' hlt hfr' hsz' hen
    obtain⟨x',ex,rfl,hwf⟩:=Maps.keyOf_int_inv Tryz.underlying33 hkey
    injection ex with ex1 ex2
    subst ex2
    obtain⟨u,eu,hne,a',c',he⟩:=HAT.out _ _ hF
    obtain rfl:=litU_inj eu
    simp only [Value.slice.injEq] at he
    obtain⟨rfl,rfl,rfl⟩:=he
    have hob':w'.heap[W.heap.size+1]?=some (.cells #[.slice oa k oc] 35 (0,0)):=(hfr'.at (k:=W.heap.size+1) (by have:=HZ2.out;omega) (lt_of_block hob.out)).trans hob.out
    have hbx':w'.heap[W.heap.size]?=some (.cells #[.int .i64 n] 2 (0,0)):=by
     have h1:wr.heap[W.heap.size]?=_:=(hfr.out.at (k:=W.heap.size) (by have:=HZ2.out;omega) (lt_of_block HBX.out)).trans HBX.out
     exact(hfr'.at (k:=W.heap.size) (by have:=HZ2.out;omega) (lt_of_block h1)).trans h1
    have hrow':w'.ownsRow (W2.heap.size+1) 33 1 (.slice oa k oc) k (os.map (Value.int .u64)):=ownsRow_fr hrow.out hfr' fun j hj e=>by have:=(ownsRow_lt hrow.out j hj).1;omega
    have hz':=hfr'.size
    have hok:=hos.out
    have hcall:=many1_any w' (W2.heap.size+1) W.heap.size (W.heap.size+1) n x (H x).length k (.slice oa k oc) os hbx' hob' hrow' (by have:=hok.2;omega) (by have:=HZ2.out;omega) (by have:=HZ2.out;omega)
    have hFs:(F (litU x)).isSome=true:=by rw[show litU x=Lit.int .u64 x from rfl,hF];rfl
    have hfw:Fr (fun j=>j=W.heap.size+1) W2 w':=hfr.out.trans hfr' fun j hj=>.inr (by have:=HZ2.out;omega)
    obtain⟨q,hq⟩:∃ q,manyIs n (H x).length=q:=⟨_,rfl⟩
    simp only [hq] at hcall
    have hpk2:Picked F (fun z=>left z && !z.sameKey (litU x)) (fun u=>manyIs n (H u).length) (if q=true then os ++ [x] else os):=by
     cases q with
     | true=>exact picked_yes hpk.out hlk hFs hq
     | false=>exact picked_no hpk.out hlk hq
    obtain⟨m,hmm⟩:∃ m,(H x).length=m:=⟨_,rfl⟩
    simp only [hmm] at hcall
    have HC:=hhd hcall;have HFW:=hhd hfw;have HRG:=hhd hrg';have HLT:=hhd hlt;have HPK:=hhd hpk2
    simp only [hmm] at hen ⊢
    clear hcall hrow' hfw hrg' hlt hpk2 hkey hlk hF hFs hq hwf hrow hpk hfr' hob' hbx' hne hmm hob
    go_wp2_with (go_at_call 215;refine HC.out.mono ?_;rintro e w2 ⟨rfl,hif,hf3⟩)
    go_roundw
    case rel=>
     have hz3:=hf3.size
     have hfin2:Fr (fun j=>j=W.heap.size+1) W2 w2:=HFW.out.trans hf3 fun j hj=>hj.elim (fun h=>.inl h) fun h=>.inr (by have:=HZ2.out;omega)
     have hrg3:=HRG.out.fr hf3 (fun e=>e.elim (fun h=>by have:=HRG.out.mapF.lt;have:=HZ2.out;omega) fun h=>by have:=HZ2.out;omega) (fun e=>e.elim (fun h=>by have:=HZ2.out;omega) fun h=>by have:=HZ2.out;omega)
     cases q with
     | true=>
      obtain⟨ov',h1,h2⟩:=(by simpa using hif:∃ ov',_∧_)
      exact ManyI.intro (show ManyT _ _ W2.heap.size _ _ _ W2 _ from⟨_,cnt',k+1,os ++ [x],ov',hrg3,left_next hl.out,hhd (by simpa using HPK.out),⟨by simp [hok.1],by have:=HLT.out;have:=hok.2;omega⟩,h1,hhd (by simpa using h2),hfin2,by have:=HZ2.out;omega⟩)
     | false=>
      obtain⟨h1,h2⟩:=(by simpa using hif:_∧_)
      exact ManyI.intro (show ManyT _ _ W2.heap.size _ _ _ W2 _ from⟨_,cnt',k,os,_,hrg3,left_next hl.out,hhd (by simpa using HPK.out),⟨hok.1,by have:=HLT.out;have:=hok.2;omega⟩,h1,h2,hfin2,by have:=HZ2.out;omega⟩)
    case measure=>
     have hrg3:=HRG.out.fr hf3 (fun e=>e.elim (fun h=>by have:=HRG.out.mapF.lt;have:=HZ2.out;omega) fun h=>by have:=HZ2.out;omega) (fun e=>e.elim (fun h=>by have:=HZ2.out;omega) fun h=>by have:=HZ2.out;omega)
     rw[hrg3.left_eq,hrg.out.left_eq];exact HLT.out
 ·simp only [if_true]
  have hat:∀ kl v,G kl=some v→∃ u,kl=litU u∧B u≠[]∧∃ a c,v = .slice a (B u).length c:=fun kl v hv=>by
   obtain⟨u,e,h0,g,h1,h2,h3,a,off,cap,rfl,-⟩:=hrB.1 kl v hv
   exact⟨u,e,h0,a,cap,rfl⟩
  have hsl:=hrB.slv
  have hfin:∀ os (left:Lit→Bool),Picked G left (fun u=>manyIs n (B u).length) os→(∀ kl,left kl=false)→∀ u,u ∈ os↔(B u≠[]∧manyIs n (B u).length=true):=fun os left hpk hl u=>by
   rw[hpk.2]
   constructor
   ·intro h
    refine⟨fun e=>?_,h.2.2⟩
    have:=hrB.absent e
    rw[this] at h;cases h.1
   ·exact fun h=>⟨hrB.2 u h.1,hl _,h.2⟩
  have HAT:=hhd hat;have HSL:=hhd hsl;have HFIN:=hhd hfin;have HBX:=hhd hbx;have HBO:=hhd hbo;have HF2:=hhd hf2
  have cxx:=cx2.2
  have HZ2:Hid (W2.heap.size=W.heap.size+2):=hhd hz2
  clear hz2 hat hsl hfin hr hrB h hm hmB hbx hbo cx2 cx hm2
  go_enter Tryz.func162,Tryz.ntmps162
  go_wp2_with (at_range;go_loud (refine wpList_rangeF2 _ rfl _ 166 rfl 33 35 lawU Tryz.underlying166 bb N G rfl hmB2 ?_);intro w0 cnt0 hc0 hrg0 hf0 hs0)
  go_frame
  go_loopw [] (fun wr=>ManyI bb (W.heap.size+1) W2.heap.size N G (fun u=>manyIs n (B u).length) W2 wr) (fun wr=>wr.rangeLeft bb W2.heap.size)
  case atStart=>exact ManyI.intro (show ManyT _ _ W2.heap.size _ _ _ W2 _ from⟨_,cnt0,0,[],.slice none 0 0,hrg0,fun kl h=>h,picked_start G _,⟨rfl,by have:=HZ2.out;omega⟩,(hf0.at (k:=W.heap.size+1) id (lt_of_block HBO.out)).trans HBO.out,World.ownsRow_nil _ _ _ _,hf0.mono fun _ h=>h.elim,by have:=HZ2.out;omega⟩)
  case round=>
   obtain⟨left,cnt,k,os,ov,hrg,hl,hpk,hos,hob,hrow,hfr,hsz⟩:=ManyI.out hrel
   obtain⟨oa,oc,rfl⟩:=row_form hrow.out
   go_wp2_with (at_next;go_loud (refine wpList_nextF _ rfl _ rfl 33 lawU (fun x:Int=>Value.int .u64 x) (fun c:Option Addr × Nat × Nat=>Value.slice c.1 c.2.1 c.2.2) (fun _ _=>invU) bb W2.heap.size N G left cnt HSL.out hl.out rfl hrg.out ?_ ?_))
   ·intro hc0' hl0'
    have hso:=sort4_any wr (W2.heap.size+1) (.slice oa k oc) os (by rw[hos.out.1];exact hrow.out) (by have:=hos.out;omega)
    have hmem:=HFIN.out os left hpk.out hl0'
    have hlo:=fun j hj=>(ownsRow_lt hrow.out j hj).1
    have cO:=cell_of_one hob.out
    have HSO:=hhd hso;have HMEM:=hhd hmem;have HLO:=hhd hlo
    clear hso hmem hlo hrg
    go_wp2_with (go_at_call 84;refine HSO.out.mono ?_;rintro e w2 ⟨rfl,hrow2,hf3⟩;have cO2:=cell_of_one ((hf3.at (k:=W.heap.size+1) (fun e=>by have h1:=HLO.out _ e;have:=HZ2.out;omega) (lt_of_block hob.out)).trans hob.out))
    go_ret
    have hl2:(os.mergeSort fun x y=>decide (x≤y)).length=os.length:=(List.mergeSort_perm os _).length_eq
    refine⟨_,_,rfl,ownsRow_base (by rw[hl2,hos.out.1];rw[hos.out.1] at hrow2;exact hrow2) (by have:=HZ2.out;omega),rises_mergeSort hpk.out.1,fun u=>?_,(HF2.out.trans hfr.out fun j hj=>.inr (by have:=HZ2.out;omega)).trans hf3 fun j hj=>.inr (by have:=HLO.out j hj;have:=HZ2.out;omega)⟩
    rw[(List.mergeSort_perm os _).mem_iff]
    exact HMEM.out u
   ·intro x a1 n1 c1 kl w' cnt' hkey hlk hF hrg' hlt hfr' hsz' hen
    obtain⟨x',ex,rfl,hwf⟩:=Maps.keyOf_int_inv Tryz.underlying33 hkey
    injection ex with ex1 ex2
    subst ex2
    obtain⟨u,eu,hne,a',c',he⟩:=HAT.out _ _ hF
    obtain rfl:=litU_inj eu
    simp only [Value.slice.injEq] at he
    obtain⟨rfl,rfl,rfl⟩:=he
    have hob':w'.heap[W.heap.size+1]?=some (.cells #[.slice oa k oc] 35 (0,0)):=(hfr'.at (k:=W.heap.size+1) (by have:=HZ2.out;omega) (lt_of_block hob.out)).trans hob.out
    have hbx':w'.heap[W.heap.size]?=some (.cells #[.int .i64 n] 2 (0,0)):=by
     have h1:wr.heap[W.heap.size]?=_:=(hfr.out.at (k:=W.heap.size) (by have:=HZ2.out;omega) (lt_of_block HBX.out)).trans HBX.out
     exact(hfr'.at (k:=W.heap.size) (by have:=HZ2.out;omega) (lt_of_block h1)).trans h1
    have hrow':w'.ownsRow (W2.heap.size+1) 33 1 (.slice oa k oc) k (os.map (Value.int .u64)):=ownsRow_fr hrow.out hfr' fun j hj e=>by have:=(ownsRow_lt hrow.out j hj).1;omega
    have hz':=hfr'.size
    have hok:=hos.out
    have hcall:=many1_any w' (W2.heap.size+1) W.heap.size (W.heap.size+1) n x (B x).length k (.slice oa k oc) os hbx' hob' hrow' (by have:=hok.2;omega) (by have:=HZ2.out;omega) (by have:=HZ2.out;omega)
    have hFs:(G (litU x)).isSome=true:=by rw[show litU x=Lit.int .u64 x from rfl,hF];rfl
    have hfw:Fr (fun j=>j=W.heap.size+1) W2 w':=hfr.out.trans hfr' fun j hj=>.inr (by have:=HZ2.out;omega)
    obtain⟨q,hq⟩:∃ q,manyIs n (B x).length=q:=⟨_,rfl⟩
    simp only [hq] at hcall
    have hpk2:Picked G (fun z=>left z && !z.sameKey (litU x)) (fun u=>manyIs n (B u).length) (if q=true then os ++ [x] else os):=by
     cases q with
     | true=>exact picked_yes hpk.out hlk hFs hq
     | false=>exact picked_no hpk.out hlk hq
    obtain⟨m,hmm⟩:∃ m,(B x).length=m:=⟨_,rfl⟩
    simp only [hmm] at hcall
    have HC:=hhd hcall;have HFW:=hhd hfw;have HRG:=hhd hrg';have HLT:=hhd hlt;have HPK:=hhd hpk2
    simp only [hmm] at hen ⊢
    clear hcall hrow' hfw hrg' hlt hpk2 hkey hlk hF hFs hq hwf hrow hpk hfr' hob' hbx' hne hmm hob
    go_wp2_with (go_at_call 215;refine HC.out.mono ?_;rintro e w2 ⟨rfl,hif,hf3⟩)
    go_roundw
    case rel=>
     have hz3:=hf3.size
     have hfin2:Fr (fun j=>j=W.heap.size+1) W2 w2:=HFW.out.trans hf3 fun j hj=>hj.elim (fun h=>.inl h) fun h=>.inr (by have:=HZ2.out;omega)
     have hrg3:=HRG.out.fr hf3 (fun e=>e.elim (fun h=>by have:=HRG.out.mapF.lt;have:=HZ2.out;omega) fun h=>by have:=HZ2.out;omega) (fun e=>e.elim (fun h=>by have:=HZ2.out;omega) fun h=>by have:=HZ2.out;omega)
     cases q with
     | true=>
      obtain⟨ov',h1,h2⟩:=(by simpa using hif:∃ ov',_∧_)
      exact ManyI.intro (show ManyT _ _ W2.heap.size _ _ _ W2 _ from⟨_,cnt',k+1,os ++ [x],ov',hrg3,left_next hl.out,hhd (by simpa using HPK.out),⟨by simp [hok.1],by have:=HLT.out;have:=hok.2;omega⟩,h1,hhd (by simpa using h2),hfin2,by have:=HZ2.out;omega⟩)
     | false=>
      obtain⟨h1,h2⟩:=(by simpa using hif:_∧_)
      exact ManyI.intro (show ManyT _ _ W2.heap.size _ _ _ W2 _ from⟨_,cnt',k,os,_,hrg3,left_next hl.out,hhd (by simpa using HPK.out),⟨hok.1,by have:=HLT.out;have:=hok.2;omega⟩,h1,h2,hfin2,by have:=HZ2.out;omega⟩)
    case measure=>
     have hrg3:=HRG.out.fr hf3 (fun e=>e.elim (fun h=>by have:=HRG.out.mapF.lt;have:=HZ2.out;omega) fun h=>by have:=HZ2.out;omega) (fun e=>e.elim (fun h=>by have:=HZ2.out;omega) fun h=>by have:=HZ2.out;omega)
     rw[hrg3.left_eq,hrg.out.left_eq];exact HLT.out
theorem NewInts.from{W W':World}{P:Int→Prop}{e:Ending}{w':World}(h:NewInts W' P e w')(hf:Fr N0 W W'):NewInts W P e w':=by
 obtain⟨v,xs,h1,h2,h3,h4,h5⟩:=h
 exact⟨v,xs,h1,ownsRow_base h2 hf.size,h3,h4,hf.then0 h5⟩
def hasP(H:Int→List Val)(B:Int→List Int)(back:Bool)(n:Int)(u:Int):Prop:=if back=true then B u≠[]∧manyIs n (B u).length=true else H u≠[]∧manyIs n (H u).length=true
theorem fHas_any(W:World)(lo px bn bb N:Nat)(H:Int→List Val)(B:Int→List Int)(h:LookAt W lo px bn bb N H B)(hN:N≤9000000000)(f:Fn)(vv uv sv:Value) :
  Calls Tryz.prog 161 #[.pointer (some ⟨px,0,none⟩),.agg (f.enc vv uv sv)] W (NewInts W (hasP H B f.back (-1))):=by
 obtain⟨kd,pred,back,vals,nu,ns⟩:=f
 simp only [Fn.enc]
 have hm:=fun w1 (hf:Fr N0 W w1)=>(many_any w1 lo px bn bb N H B (h.fr hf) hN back (-1)).mono fun e w2 hh=>NewInts.from hh hf
 obtain⟨Q,hQ⟩:∃ Q,NewInts W (hasP H B back (-1))=Q:=⟨_,rfl⟩
 have hm2:∀ w1,Fr N0 W w1→Calls Tryz.prog 162 #[.pointer (some ⟨px,0,none⟩),.bool back,.int .i64 (-1)] w1 fun e w2=>Q e w2∧∃ v,e = .returned v:=fun w1 hf=>(hm w1 hf).mono fun e w2 hh=>⟨by rw[← hQ];exact hh,by obtain⟨v,xs,h1,-⟩:=hh;exact⟨v,h1⟩⟩
 rw[hQ]
 have HM:=hhd hm2
 clear hm hm2 h hQ
 go_enter Tryz.func161,Tryz.ntmps161
 go_wp2_with (go_at_call 162;refine(HM.out _ ((Fr.refl _ _).alloc _)).mono ?_;rintro e w1 ⟨hq,v,rfl⟩)
 (try go_ret)
 exact hq
theorem fCnt_any(W:World)(lo px bn bb N:Nat)(H:Int→List Val)(B:Int→List Int)(h:LookAt W lo px bn bb N H B)(hN:N≤9000000000)(f:Fn)(vv uv sv:Value)(b:Nat)(hf:FnAt W b f vv uv sv)(v0:Val)(hv:f.vals[0]?=some v0) :
  Calls Tryz.prog 163 #[.pointer (some ⟨px,0,none⟩),.agg (f.enc vv uv sv)] W (NewInts W fun u=>1≤v0.n∧hasP H B f.back v0.n u):=by
 obtain⟨a,off,cap,hvv,-,-,k3,-,k5⟩:=hf.vals
 have h0:0 < f.vals.length:=by
  rcases Nat.eq_zero_or_pos f.vals.length with e | e
  ·rw[List.eq_nil_of_length_eq_zero e] at hv;cases hv
  ·exact e
 obtain rfl:=k3 h0
 have hc:=k5 0 h0 2 (by decide)
 have e0:f.vals[0]=v0:=by rw[List.getElem?_eq_getElem h0] at hv;exact Option.some.inj hv
 rw[e0] at hc
 have hc2:W.cell? ⟨b,off+2,none⟩=some (.int .i64 v0.n):=by simpa [Val.enc] using hc
 subst hvv
 obtain⟨kd,pred,back,vals,nu,ns⟩:=f
 simp only [Fn.enc] at *
 obtain⟨n,hn⟩:∃ n,v0.n=n:=⟨_,rfl⟩
 obtain⟨m,hm0⟩:∃ m,vals.length=m:=⟨_,rfl⟩
 rw[hn] at hc2 ⊢
 rw[hm0] at h0 ⊢
 have hmi:(0:Int) < (m:Int):=by omega
 by_cases h1:1≤n
 ·have hm:=fun w1 (hf:Fr N0 W w1)=>(many_any w1 lo px bn bb N H B (h.fr hf) hN back n).mono fun e w2 hh=>NewInts.from hh hf
  obtain⟨Q,hQ⟩:∃ Q,NewInts W (fun u=>1≤n∧hasP H B back n u)=Q:=⟨_,rfl⟩
  have hPQ:(fun u=>1≤n∧hasP H B back n u)=hasP H B back n:=by funext u;simp [h1]
  have hm2:∀ w1,Fr N0 W w1→Calls Tryz.prog 162 #[.pointer (some ⟨px,0,none⟩),.bool back,.int .i64 n] w1 fun e w2=>Q e w2∧∃ v,e = .returned v:=fun w1 hf=>(hm w1 hf).mono fun e w2 hh=>⟨by rw[← hQ,hPQ];exact hh,by obtain⟨v,xs,h1,-⟩:=hh;exact⟨v,h1⟩⟩
  rw[hQ]
  have HM:=hhd hm2
  have hc3:=((Fr.refl N0 W).alloc (.cells #[.int .u8 kd,.string pred,.bool back,.slice (some ⟨b,off,none⟩) m cap,uv,sv] 94)).cell id hc2
  have h1':n ≥ 1:=h1
  clear hm hm2 h hQ hPQ k3 k5 hc hv hf hn hm0 e0
  go_enter Tryz.func163,Tryz.ntmps163
  go_wp2_with (go_at_call 162;refine(HM.out _ ((Fr.refl _ _).alloc _)).mono ?_;rintro e w1 ⟨hq,v,rfl⟩)
  (try go_ret)
  exact hq
 ·have hno:NewInts W (fun u=>1≤n∧hasP H B back n u) (.returned (.slice none 0 0))=NewInts W (fun _=>False) (.returned (.slice none 0 0)):=by
   congr 1;funext u;simp [h1]
  have hnil:∀ w',Fr N0 W w'→NewInts W (fun u=>1≤n∧hasP H B back n u) (.returned (.slice none 0 0)) w':=fun w' hf=>⟨.slice none 0 0,[],rfl,World.ownsRow_nil _ _ _ _,List.Pairwise.nil,fun u=>by simp [h1],hf⟩
  have HN:=hhd hnil
  have h1':¬ n ≥ 1:=h1
  have hc3:=((Fr.refl N0 W).alloc (.cells #[.int .u8 kd,.string pred,.bool back,.slice (some ⟨b,off,none⟩) m cap,uv,sv] 94)).cell id hc2
  clear hno hnil h k3 k5 hc hv hf hn hm0 e0
  go_enter Tryz.func163,Tryz.ntmps163
  go_wp2
  (try go_ret)
  exact HN.out _ ((Fr.refl _ _).alloc _)
theorem contV_any(w:World)(b:Nat)(v:Value)(xs:List Val)(h:RowsK Val.enc 5 w b v xs)(hl:xs.length≤9223372036854775807)(y:Val) :
  Calls Tryz.prog 153 #[v,.agg y.enc.toArray] w fun e w'=>e = .returned (.bool (xs.any (eqVal y)))∧Fr N0 w w':=by
 have hc:=fun w' (hf:Fr N0 w w')=>idxV_any w' b v xs (rowsK_frT (enc:=Val.enc) (n:=5) val_len h hf fun _=>id) hl y
 obtain⟨p,hp⟩:∃ p,eqVal y=p:=⟨_,rfl⟩
 simp only [hp] at hc ⊢
 clear hp
 obtain⟨zk,zb,zn,zs,zu⟩:=y
 simp only [Val.enc] at hc ⊢
 have HC:=hhd hc
 clear hc h
 go_enter Tryz.func153,Tryz.ntmps153
 go_wp2_with (go_at_call 212;refine(HC.out _ ((Fr.refl _ _).alloc _)).mono ?_;rintro e w1 ⟨rfl,hf1⟩)
 go_ret
 exact⟨ret_bool idxW_ge,((Fr.refl _ _).alloc _).then0 hf1⟩
theorem enters_fEq1:∀ args w,(callFunc 165 args).run Tryz.prog w = .ok (.enter 165 args) w:=enters_of Tryz.func165 (by kernel_rfl) rfl
theorem enters_fBtw1:∀ args w,(callFunc 176 args).run Tryz.prog w = .ok (.enter 176 args) w:=enters_of Tryz.func176 (by kernel_rfl) rfl
theorem fEq1_any(W:World)(bf b:Nat)(f:Fn)(vv uv sv:Value)(x:Val)(hf:FnAt W b f vv uv sv)(hb:W.heap[bf]?=some (.cells (f.enc vv uv sv) 94 (0,0))) :
  Calls Tryz.prog 165 #[.agg x.enc.toArray,.pointer (some ⟨bf,0,none⟩)] W fun e w'=>e = .returned (.bool (f.vals.any (eqVal x)))∧Fr N0 W w':=by
 have hc:=fun w' (hw:Fr N0 W w')=>contV_any w' b vv f.vals (hf.fr hw).vals hf.len x
 obtain⟨A,hA⟩:∃ A,f.vals.any (eqVal x)=A:=⟨_,rfl⟩
 simp only [hA] at hc ⊢
 obtain⟨kd,pred,back,vals,nu,ns⟩:=f
 obtain⟨zk,zb,zn,zs,zu⟩:=x
 simp only [Val.enc,Fn.enc] at hc hb ⊢
 have HC:=hhd hc
 have hb1:=((Fr.refl N0 W).alloc (.cells #[.int .u8 zk,.bool zb,.int .i64 zn,.string zs,.int .u64 zu] 57)).at (k:=bf) id (lt_of_block hb)
 have hb2:=hb1.trans hb
 obtain⟨m1,n1,l1⟩:=box_cells hb2
 clear hc hA hf hb hb1 hb2
 go_enter Tryz.func165,Tryz.ntmps165
 go_wp2_with (go_at_call 153;refine(HC.out _ ((Fr.refl _ _).alloc _)).mono ?_;rintro e w1 ⟨rfl,hf1⟩)
 (try go_ret)
 exact⟨rfl,((Fr.refl _ _).alloc _).then0 hf1⟩
def anyP(H:Int→List Val)(p:Val→Bool)(u:Int):Prop:=(H u).any p=true
theorem fEq_any(W:World)(lo px bn bb N:Nat)(H:Int→List Val)(B:Int→List Int)(h:LookAt W lo px bn bb N H B)(hH:HOk H N)(hN:N≤9000000000)(f:Fn)(vv uv sv:Value)(b:Nat)(hf:FnAt W b f vv uv sv) :
  Calls Tryz.prog 164 #[.pointer (some ⟨px,0,none⟩),.agg (f.enc vv uv sv)] W (NewInts W (anyP H fun x=>f.vals.any (eqVal x))):=by
 have hm:=fun W1 (hW:Fr N0 W W1) bf (hb:W1.heap[bf]?=some (.cells (f.enc vv uv sv) 94 (0,0)))=>(where_any W1 lo px bn bb N H B (h.fr hW) hH hN 165 #[.pointer (some ⟨bf,0,none⟩)] (fun x=>f.vals.any (eqVal x))
  (fun u x hx W2 hW2=>fEq1_any W2 bf b f vv uv sv x (hf.fr (hW.then0 hW2)) ((hW2.at id (lt_of_block hb)).trans hb)) enters_fEq1).mono fun e w2 hh=>NewInts.from hh hW
 obtain⟨Q,hQ⟩:∃ Q,NewInts W (anyP H fun x=>f.vals.any (eqVal x))=Q:=⟨_,rfl⟩
 have hm2:∀ W1,Fr N0 W W1→∀ bf,W1.heap[bf]?=some (.cells (f.enc vv uv sv) 94 (0,0))→Calls Tryz.prog 159 #[.pointer (some ⟨px,0,none⟩),.func (.func 165) #[] #[.pointer (some ⟨bf,0,none⟩)]] W1 fun e w2=>Q e w2∧∃ v,e = .returned v:=fun W1 hW bf hb=>(hm W1 hW bf hb).mono fun e w2 hh=>⟨by rw[← hQ];exact hh,by obtain⟨v,xs,h1,-⟩:=hh;exact⟨v,h1⟩⟩
 rw[hQ]
 obtain⟨kd,pred,back,vals,nu,ns⟩:=f
 simp only [Fn.enc] at hm2 ⊢
 have HM:=hhd hm2
 clear hm hm2 h hQ hf
 go_enter Tryz.func164,Tryz.ntmps164
 go_wp2_with (go_at_call 159;refine(HM.out _ ((Fr.refl _ _).alloc _) _ (World.alloc_heap_new W _)).mono ?_;rintro e w1 ⟨hq,v,rfl⟩)
 (try go_ret)
 exact hq
end
end Go.Proofs.YtefepfiijoafbaaGreat
