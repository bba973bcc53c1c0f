/- Trip1 OwnR LookP -/
import Derived.Stop.RegionWithIn
import Derived.Test.YtefepfiijoafbaaGreatQPAt
import Derived.Test.YtefepfiijoafbaaGreatQIterH
import Derived.Test.YtefepfiijoafbaaGreatQDelV
set_option linter.unusedVariables false
set_option linter.unusedSimpArgs false
set_option maxRecDepth 100000
set_option maxHeartbeats 2000000
namespace Go.Proofs.YtefepfiijoafbaaGreat
section
open Go.RowKit Go.Shelf Go.Maps Go.Sort
attribute [local go_sem] Oper.semAt_some
attribute [local irreducible] wpQuiet
def trsOf(H:Int→List Val)(ks:List Int):List (Int × Val):=ks.flatMap fun u=>(H u).map fun v=>(u,v)
def encT(q:ByteArray)(x:Int × Val):Array Value:=#[.agg #[.int .u64 x.1,.string q,.int .u8 x.2.k,.bool x.2.b,.int .i64 x.2.n,.string x.2.s,.int .u64 x.2.u]]
structure NodesOf(H:Int→List Val)(ks:List Int):Prop where
 rises:RisesBy id ks
 mem:∀ u,u ∈ ks↔H u≠[]
theorem trsOf_take_succ{H:Int→List Val}{ks:List Int}{k:Nat}(h:k < ks.length):trsOf H (ks.take (k+1))=trsOf H (ks.take k) ++(H ks[k]).map fun v=>(ks[k],v):=by
 unfold trsOf
 rw[List.take_succ_eq_append_getElem h,List.flatMap_append];simp
theorem trsOf_pre{H:Int→List Val}{ks:List Int}{k j:Nat}(h:k < ks.length)(hj:j < (H ks[k]).length):trsOf H (ks.take k) ++((H ks[k]).take j).map (fun v=>(ks[k],v)) ++ [(ks[k],(H ks[k])[j])] <+: trsOf H ks:=by
 have h1:trsOf H ks=trsOf H (ks.take (k+1)) ++ trsOf H (ks.drop (k+1)):=by
  unfold trsOf;rw[← List.flatMap_append,List.take_append_drop]
 have h2:(H ks[k]).map (fun v=>(ks[k],v))=((H ks[k]).take j).map (fun v=>(ks[k],v)) ++ [(ks[k],(H ks[k])[j])] ++((H ks[k]).drop (j+1)).map (fun v=>(ks[k],v)):=by
  have h3:H ks[k]=(H ks[k]).take j ++ [(H ks[k])[j]] ++(H ks[k]).drop (j+1):=by
   rw[← List.take_succ_eq_append_getElem hj,List.take_append_drop]
  conv=>lhs;rw[h3]
  simp only [List.map_append,List.map_cons,List.map_nil]
 rw[h1,trsOf_take_succ h,h2]
 refine⟨((H ks[k]).drop (j+1)).map (fun v=>(ks[k],v)) ++ trsOf H (ks.drop (k+1)),?_⟩
 simp only [List.append_assoc]
theorem trsOf_pre2{H:Int→List Val}{ks:List Int}{k:Nat}{x:Int}{vs:List Val}(h:k < ks.length)(hx:ks[k]=x)(hv:H x=vs)(j:Nat)(hj:j < vs.length):trsOf H (ks.take k) ++(vs.take j).map (fun v=>(x,v)) ++ [(x,vs[j])] <+: trsOf H ks:=by
 subst hx;subst hv;exact trsOf_pre h hj
theorem ints_rowH{w:World}{n:Nat}{v:Value}{xs:List Int}(h:w.ownsRow n 33 1 v xs.length (xs.map (Value.int .u64)))(hw:∀ x ∈ xs,(Lit.int .u64 x).wf=true):∃ b,n≤b∧Ints .u64 w b v xs:=by
 rcases h.2 with⟨hv,hn⟩ | ⟨g,cap,cur,hv,hb,hg,hnc,hcm,hcs,htake⟩
 ·have hz:xs = []:=List.eq_nil_of_length_eq_zero hn
  rw[hv,hz]
  exact⟨n,Nat.le_refl _,Ints.nil _ _ _⟩
 ·rw[hv] at h ⊢
  refine⟨g,hb,⟨some ⟨g,0,none⟩,0,cap,rfl,hnc,by unfold maxLen at hcm;omega,fun _=>rfl,by simp,fun i hi=>?_,hw⟩⟩
  have:=h.cellAt i (by omega)
  simp [hi] at this
  simpa using this
theorem triples1_seq(w:World)(Bl Bt:Nat)(R:Nat→Prop)(p:Nat)(l:PL)(N:Nat)(t:Int)(ks:List Int)(h:IsPL w R p l)(hRl:∀ k,R k→k < w.heap.size)(hl:l.AtOk N)(hN:N≤8000000000)(hks:NodesOf (haveAt l t) ks)
  (hB:w.heap[Bl]?=some (.cells #[.pointer (some ⟨p,0,none⟩)] 51 (0,0))) (hT:w.heap[Bt]?=some (.cells #[.int .u64 t] 33 (0,0))) :
  SeqOf Tryz.prog 97 #[.pointer (some ⟨Bl,0,none⟩),.pointer (some ⟨Bt,0,none⟩)] (encT l.s.pred) (fun k=>R k∨k=Bl∨k=Bt) (trsOf (haveAt l t) ks) w:=by
 intro q J Jx S W hW hS hJ hJx hY h0
 have hBW:=(hW.block Bl (.inr (.inl rfl)) (lt_of_block hB)).trans hB
 have hTW:=(hW.block Bt (.inr (.inr rfl)) (lt_of_block hT)).trans hT
 have hst:IsPL W R p l:=h.fr (T:=fun k=>¬ R k) (SameOn.mono hW fun k hk _=>.inl (Classical.not_not.1 hk)) fun k hk hn=>hn hk
 have hat:=pAt_any W R p l N hst hl hN t
 have c0:=cell_of_one hBW
 have c1:=cell_of_one hTW
 have HA:=hhd hat;have HY:=hhd hY;have HS:=hhd hS;have H0:=hhd h0
 clear hat hY hS h0 hBW hTW
 refine(callsIn_wide (n:=8)).1 ?_
 refine callsIn_of_wp Tryz.func97 rfl trivial ?_ rfl
 simp only [Tryz.ntmps97,List.size_toArray,List.length_cons,List.length_nil,Nat.reduceAdd,Nat.reduceSub,Array.replicate_succ,Array.replicate_zero,List.push_toArray,List.append_toArray,List.nil_append,List.cons_append]
 have f1:Fence.wide.fn 98:=trivial
 have f2:Fence.wide.fn 99:=trivial
 have f3:Fence.wide.fn 61:=trivial
 gi_wp2_with (gi_at_call 98;refine(callsIn_wide.2 HA.out).mono ?_;rintro e w1 ⟨b,rfl,hh1,hf1⟩)
 refine(callsIn_wide.2 (keysH_any w1 b)).mono ?_
 rintro e w2 ⟨rfl,hw2⟩
 have hf2:Fr N0 w1 w2:=by rw[hw2];exact(Fr.refl _ _).alloc _
 have hBm:w2.heap[w1.heap.size]?=some (.cells #[.map (some b)] 183 (0,0)):=by rw[hw2];exact World.alloc_heap_new _ _
 have hh2:HaveM w2 W.heap.size b N (haveAt l t):=hh1.fr hf2 fun _ h=>h.elim
 obtain⟨hbl,F,hmap,hrows⟩:=hh2
 have hso:=sortedH_any w2 w1.heap.size b N F hmap hBm (by omega)
 have HSO:=hhd hso;have HF2:=hhd hf2;have HMAP:=hhd hmap;have HROWS:=hhd hrows;have HF1:=hhd hf1;have HBL:=hhd hbl
 clear hso hBm hf2 hw2 hmap hrows hh1 hf1 hbl HA
 gi_wp2_with fail
 refine(callsIn_wide.2 HSO.out).mono ?_
 rintro e w3 ⟨v,ks',rfl,hrise,hmem,hkwf,hrow,hf3⟩
 obtain rfl:ks'=ks:=rises_unique hrise hks.rises fun x=>by
  rw[hmem,hks.mem]
  constructor
  ·intro h1 h2
   rw[HROWS.out.absent h2] at h1;cases h1
  ·exact HROWS.out.2 x
 obtain⟨bk,hbk,hints⟩:=ints_rowH hrow hkwf
 obtain⟨ka,koff,kcap,rfl,hk1,hk2,hk3,-,hkc,-⟩:=hints
 obtain⟨n,hn⟩:∃ n,ks'.length=n:=⟨_,rfl⟩
 have hfW:Fr N0 W w3:=(HF1.out.then0 HF2.out).then0 hf3
 have hz1:=HF1.out.size;have hz2:=HF2.out.size;have hz3:=hf3.size
 have hm3:=HMAP.out.fr hf3 id
 have hr3:=HROWS.out.fr val_len hf3 fun k h=>h.elim
 obtain⟨Z,hZ⟩:∃ Z:Nat→Prop,Z=fun k=>W.heap.size≤k∧k < w3.heap.size:=⟨_,rfl⟩
 have hZS:∀ k,Z k→¬ S k:=fun k hk hs=>by rw[hZ] at hk;have:=(HS.out k hs).2;omega
 have hkl:∀ i (h:i < ks'.length),bk < w3.heap.size:=fun i h=>lt_of_cell (hkc i h)
 have hS0:∀ k,S k→k < w3.heap.size:=fun k hk=>by have:=(HS.out k hk).2;have:=hfW.size;omega
 have hJ0:J S [] w3:=hJ S [] W w3 H0.out (hfW.same fun _ _ h=>h)
 have hcl:∀ x,x ∈ ks'→∃ g v,(∀ W',W'.heap[b]?=w3.heap[b]?→(Instr.lookup 183 (.map (some b)) (.int .u64 x) false).run Tryz.prog W' = .ok v W')∧Z g∧RowsK Val.enc 5 w3 g v (haveAt l t x):=fun x hx=>by
  obtain⟨g,hr,hg⟩:=hr3.at x
  have hne:=(hks.mem x).1 hx
  obtain⟨g1,g2,g3⟩:=hg hne
  refine⟨g,_,fun W' hW'=>?_,by rw[hZ];exact⟨g1,g3⟩,hr⟩
  exact((hm3.at hW').look lawU Tryz.underlying183 (zeroValsR _) (keyOf_int_mk (P:=Tryz.prog) Tryz.underlying33 (hkwf x hx))).1
 have hbZ:Z b:=by rw[hZ];exact⟨HBL.out,hm3.lt⟩
 have hp0:∀ W',Fr S w3 W'→W'.cell? ⟨p,0,none⟩=some (.string l.s.pred):=fun W' hf'=>by
  obtain⟨vt,vc,cs,q1,q2,-⟩:=hst
  obtain⟨m,-,lt⟩:=box_cells q1
  have hp3:=hfW.cell id (m 0)
  exact hf'.cell (fun hs=>(HS.out p hs).1 (.inl q2)) hp3
 have hB3:∀ W',Fr S w3 W'→W'.cell? ⟨Bl,0,none⟩=some (.pointer (some ⟨p,0,none⟩)):=fun W' hf'=>hf'.cell (fun hs=>(HS.out Bl hs).1 (.inr (.inl rfl))) (hfW.cell id c0)
 have HKC:=hhd hkc;have HKWF:=hhd hkwf;have HFW:=hhd hfW;have HZ:=hhd hZ;have HZS:=hhd hZS;have HN:=hhd hn;have HKL:=hhd hkl;have HCL:=hhd hcl;have HP0:=hhd hp0;have HB3:=hhd hB3;have HBZ:=hhd hbZ;have HS0:=hhd hS0
 rw[hn] at hk1 hk3 ⊢
 clear hkc hkwf hrise hmem hfW hZ hZS hn hkl hrow hf3 HSO HF1 HF2 H0 c0 c1 HMAP HROWS hm3 hr3 hcl hp0 hB3 hbZ hS0 hst
 have hfinZ:∀ (W':World) (S2:Nat→Prop),Fr S w3 W'→Grows S S2 w3 W'→Grows S S2 W W'∧Fr S W W':=fun W' S2 g1 g2=>by
  have hz:=HFW.out.size
  refine⟨fun j hj=>⟨?_,(g2 j hj).2⟩,(HFW.out.mono (T':=S) fun _ h=>h.elim).trans g1 fun _ h=>.inl h⟩
  rcases(g2 j hj).1 with h | h
  ·exact .inl h
  ·exact .inr (by omega)
 have HFZ:=hhd hfinZ
 clear hfinZ
 gi_wp2
 gi_loopw [16] (fun iv wr=>∃ (k:Nat) (S1:Nat→Prop),k≤n∧iv = .int .i64 k∧Hid (J S1 (trsOf (haveAt l t) (ks'.take k)) wr)∧Hid (Fr S w3 wr)∧Hid (Grows S S1 w3 wr)) (fun iv _=>n - (intOf iv).toNat)
 case atStart=>exact⟨0,S,Nat.zero_le _,rfl,hJ0,Fr.refl _ _,Grows.refl fun k hk=>HS0.out k hk⟩
 case round=>
  obtain⟨k,S1,hk,rfl,hj,hfr,hgr⟩:=hrel
  by_cases hlt:k < n
  ·have hkk:k < ks'.length:=by rw[HN.out];exact hlt
   obtain rfl:=hk3 (by omega)
   have hxm:ks'[k] ∈ ks':=List.getElem_mem hkk
   obtain⟨g,v,hlk,hgZ,hrow⟩:=HCL.out ks'[k] hxm
   have ck:=hfr.out.cell (HZS.out bk (by rw[HZ.out];exact⟨by omega,HKL.out k hkk⟩)) (HKC.out k hkk)
   have hlkr:=hlk wr (hfr.out.at (HZS.out b HBZ.out) (by have:=HBZ.out;rw[HZ.out] at this;exact this.2))
   have hsuc:=trsOf_take_succ (H:=haveAt l t) hkk
   obtain⟨x,hx⟩:∃ x,ks'[k]=x:=⟨_,rfl⟩
   simp only [hx] at ck hlkr hsuc hrow
   obtain⟨vs,hvs⟩:∃ vs,haveAt l t x=vs:=⟨_,rfl⟩
   rw[hvs] at hrow hsuc
   have hpre:=trsOf_pre2 hkk hx hvs
   obtain⟨va,voff,vcap,rfl,v1,v2,v3,-,v5⟩:=hrow
   obtain⟨m,hm⟩:∃ m,vs.length=m:=⟨_,rfl⟩
   have HV5:=hhd v5;have HM:=hhd hm;have HPRE:=hhd hpre;have HSUC:=hhd hsuc;have HGZ:=hhd hgZ
   rw[hm] at v1 v3 hlkr
   have hki:(k:Int) < (n:Int):=by omega
   clear v5 hm hpre hsuc hgZ hlk hx hvs hxm
   gi_wp2
   gi_loopw [24] (fun iv w'=>∃ (j:Nat) (S1:Nat→Prop),j≤m∧iv = .int .i64 j∧Hid (J S1 (trsOf (haveAt l t) (ks'.take k) ++(vs.take j).map fun v=>(x,v)) w')∧Hid (Fr S w3 w')∧Hid (Grows S S1 w3 w')) (fun iv _=>m - (intOf iv).toNat)
   case atStart=>exact⟨0,S1,Nat.zero_le _,rfl,by simpa using hj,hfr,hgr⟩
   case round=>
    clear hj hfr hgr
    obtain⟨j,S1,hjm,rfl,hj,hfr,hgr⟩:=hrel
    by_cases hjl:j < m
    ·obtain rfl:=v3 (by omega)
     have hjv:j < vs.length:=by rw[HM.out];exact hjl
     have e5:=fun c (hc:c < 5)=>HV5.out j hjv c hc
     have hpj:=HPRE.out j hjv
     obtain⟨y,hy⟩:∃ y,vs[j]=y:=⟨_,rfl⟩
     have hts:(vs.take (j+1)).map (fun v=>(x,v))=(vs.take j).map (fun v=>(x,v)) ++ [(x,y)]:=by rw[List.take_succ_eq_append_getElem hjv,List.map_append,hy];rfl
     rw[hy] at hpj
     simp only [hy] at e5
     obtain⟨yk,yb,yn,ys,yu⟩:=y
     have hcell:∀ {o:Nat} {u:Value},w3.cell? ⟨g,o,none⟩=some u→wr.cell? ⟨g,o,none⟩=some u:=fun h=>hfr.out.cell (HZS.out g HGZ.out) h
     have e0:=hcell (e5 0 (by decide));have e1:=hcell (e5 1 (by decide));have e2:=hcell (e5 2 (by decide));have e3:=hcell (e5 3 (by decide));have e4:=hcell (e5 4 (by decide))
     rw[Nat.add_zero] at e0
     obtain⟨X,hX⟩:∃ X,(wr.alloc (.cells #[.int .u8 yk,.bool yb,.int .i64 yn,.string ys,.int .u64 yu] 57)).drew=X:=⟨_,rfl⟩
     have hXf:Fr N0 wr X:=by rw[← hX];exact((Fr.refl _ _).alloc _).drew
     have hfX:Fr S w3 X:=hfr.out.then0 hXf
     have hnb:∀ j,S1 j→¬(R j∨j=Bl∨j=Bt)∧j < X.heap.size:=fun j hj=>⟨by
      rcases(hgr.out j hj).1 with h1 | h1
      ·exact(HS.out j h1).1
      ·intro h2
       have h3:=hW.size
       have h4:=HFW.out.size
       rcases h2 with h2 | h2 | h2
       ·have:=hRl j h2;omega
       ·have:=lt_of_block hB;omega
       ·have:=lt_of_block hT;omega,Nat.lt_of_lt_of_le (hgr.out j hj).2 hXf.size⟩
     obtain⟨fn,tmps,assign,body,hyy,hR⟩:=HY.out S1 _ (x,⟨yk,yb,yn,ys,yu⟩) X (hJ _ _ _ _ hj.out (hXf.same fun _ _ h=>h)) hpj ((HFW.out.same (S:=fun k=>R k∨k=Bl∨k=Bt) (fun _ _ h=>h)).trans (hfX.same fun k hk hs=>(HS.out k hs).1 hk)) hnb
     have q1:=HB3.out X hfX
     have q2:=HP0.out X hfX
     have HPJ:=hhd hpj;have HGR:=hhd hgr.out;have HFR:=hhd hfX;have HTS:=hhd hts;have HXF:=hhd hXf
     have hfr0:=hfr.out
     clear hj hfr hgr hfX hnb hpj hts e5 hcell hXf
     simp only [encT] at hyy
     have hji:(j:Int) < (m:Int):=by omega
     have r1:=HB3.out _ (hfr0.then0 ((Fr.refl N0 wr).alloc (.cells #[.int .u8 yk,.bool yb,.int .i64 yn,.string ys,.int .u64 yu] 57)))
     have r2:=HP0.out _ (hfr0.then0 ((Fr.refl N0 wr).alloc (.cells #[.int .u8 yk,.bool yb,.int .i64 yn,.string ys,.int .u64 yu] 57)))
     have HFR0:=hhd hfr0
     have hR2:RoundIn Fence.wide 7 Tryz.prog q fn tmps assign body X fun e W'=>∃ r:Bool,e = .returned (.bool r)∧∃ S2,(if r=true then J S2 (trsOf (haveAt l t) (ks'.take k) ++(vs.take j).map (fun v=>(x,v)) ++ [(x,⟨yk,yb,yn,ys,yu⟩)]) W' else Jx S2 (trsOf (haveAt l t) (ks'.take k) ++(vs.take j).map (fun v=>(x,v)) ++ [(x,⟨yk,yb,yn,ys,yu⟩)]) W')∧Fr S1 X W'∧Grows S1 S2 X W':=hR.mono fun e W' h=>by
      rcases h with⟨rfl,S2,h⟩ | ⟨rfl,S2,h⟩
      ·exact⟨true,rfl,S2,by simpa using h⟩
      ·exact⟨false,rfl,S2,by simpa using h⟩
     clear hfr0 q1 q2
     rw[← hX] at hyy hR hR2 HFR HXF
     clear hX
     gi_wp2
     gi_region_with (refine hR2.mono ?_;rintro e W3 ⟨r,rfl,S2,hj3,hf3,hg3⟩)
     all_goals
      have hf4:Fr S w3 W3:=HFR.out.trans hf3 fun j hj=>(HGR.out j hj).1
      have hg4:Grows S S2 w3 W3:=HGR.out.trans (fun k hk=>⟨(hg3 k hk).1.imp id (Nat.le_trans HXF.out.size),(hg3 k hk).2⟩) HFR0.out.size
      rw[List.append_assoc,← HTS.out] at hj3
      have HJ3:=hhd hj3;have HF4:=hhd hf4;have HG4:=hhd hg4
      clear hyy hR hR2 hlkr r1 r2 hj3 hf4 hg4 hf3 hg3
      cases r with
      | true=>
       gi_wp2
       go_roundw
       case rel=>exact⟨j+1,S2,by omega,by go_num,HJ3.out,HF4.out,HG4.out⟩
       case measure=>simp [intOf];omega
      | false=>
       gi_wp2
       refine bodyPost_ret (results_none rfl _ _ _) rfl ?_
       obtain⟨z1,z2⟩:=HFZ.out W3 S2 HF4.out HG4.out
       exact⟨⟨_,rfl⟩,S2,.inr ⟨_,by rw[HTS.out,← List.append_assoc];exact HPJ.out,HJ3.out⟩,z2,z1⟩
    ·obtain rfl:j=m:=by omega
     have hjf:=hj.out
     have hmv:=HM.out
     rw[← hmv,List.take_length,← HSUC.out] at hjf
     have HJF:=hhd hjf
     clear hj hjf
     gi_wp2
     go_roundw
     case rel=>exact⟨k+1,S1,by omega,by go_num,HJF.out,hfr,hgr⟩
     case measure=>simp [intOf];omega
  ·have hkn:k=ks'.length:=by have:=HN.out;omega
   have hjf:=hj.out
   rw[hkn,List.take_length] at hjf
   clear hj
   gi_wp2
   go_end0
   obtain⟨z1,z2⟩:=HFZ.out wr S1 hfr.out hgr.out
   exact⟨⟨_,rfl⟩,S1,.inl hjf,z2,z1⟩
end
section
open Go.RowKit Go.Shelf Go.Maps
structure OwnR{α:Type}(enc:α→List Value)(k:Nat)(T:TypeId)(W:World)(lo b:Nat)(H:Int→List α)(F:Lit→Option Value)(g:Int→Nat)(R:Nat→Prop):Prop where
 rows:∀ kl v,F kl=some v→∃ u,kl=litU u∧H u≠[]∧v.ownBlock=some (g u)∧W.ownsRow lo T k v (H u).length ((H u).flatMap enc)
 all:∀ u,H u≠[]→(F (litU u)).isSome=true
 inj:∀ u u',H u≠[]→H u'≠[]→g u=g u'→u=u'
 inR:∀ u,H u≠[]→R (g u)
 lt:∀ j,R j→lo≤j∧j < W.heap.size∧j≠b
section
variable {α:Type} {enc:α→List Value} {k:Nat} {T:TypeId}
theorem OwnR.fr{W W':World}{T':Nat→Prop}{lo b:Nat}{H:Int→List α}{F:Lit→Option Value}{g:Int→Nat}{R:Nat→Prop}(h:OwnR enc k T W lo b H F g R)(hf:Fr T' W W')(hR:∀ j,R j→¬ T' j):OwnR enc k T W' lo b H F g R where
 rows:=fun kl v hv=>by
  obtain⟨u,e,h0,h1,h2⟩:=h.rows kl v hv
  exact⟨u,e,h0,h1,ownsRow_fr h2 hf fun j hj=>by rw[h1] at hj;obtain rfl:=Option.some.inj hj;exact hR _ (h.inR u h0)⟩
 all:=h.all
 inj:=h.inj
 inR:=h.inR
 lt:=fun j hj=>⟨(h.lt j hj).1,Nat.lt_of_lt_of_le (h.lt j hj).2.1 hf.size,(h.lt j hj).2.2⟩
theorem OwnR.at{W:World}{lo b:Nat}{H:Int→List α}{F:Lit→Option Value}{g:Int→Nat}{R:Nat→Prop}(h:OwnR enc k T W lo b H F g R)(u:Int):∃ v,(F (litU u)).getD (.slice none 0 0)=v∧W.ownsRow lo T k v (H u).length ((H u).flatMap enc)∧(v.ownBlock=none∨(H u≠[]∧v.ownBlock=some (g u))):=by
 cases hF:F (litU u) with
 | none=>
  have h0:H u = []:=by
   by_cases h0:H u = []
   ·exact h0
   ·have:=h.all u h0;rw[hF] at this;cases this
  rw[h0]
  exact⟨_,rfl,World.ownsRow_nil _ _ _ _,.inl rfl⟩
 | some v=>
  obtain⟨u',e,h0,h1,h2⟩:=h.rows _ v hF
  obtain rfl:=litU_inj e
  exact⟨v,rfl,h2,.inr ⟨h0,h1⟩⟩
theorem OwnR.none(W:World)(lo b:Nat):OwnR enc k T W lo b (fun _=>[]) (fun _=>Option.none) (fun _=>0) (fun _=>False) where
 rows:=fun kl v h=>by cases h
 all:=fun u h=>absurd rfl h
 inj:=fun u u' h=>absurd rfl h
 inR:=fun u h=>absurd rfl h
 lt:=fun j h=>h.elim
theorem OwnR.push{W W1 w1 w2:World}{lo b:Nat}{H:Int→List α}{F:Lit→Option Value}{g:Int→Nat}{R:Nat→Prop}(h:OwnR enc k T W lo b H F g R)(u:Int)(x:α){v0 v':Value}{g' n:Nat}
  (h0:v0.ownBlock=Option.none∨(H u≠[]∧v0.ownBlock=some (g u))) (hf:Fr N0 W W1) (hrow:w1.ownsRow lo T k v' n ((H u ++ [x]).flatMap enc)) (hn:n=(H u ++ [x]).length) (hf1:Fr (fun j=>v0.ownBlock=some j) W1 w1) (hv':v'.ownBlock=some g') (hfresh:v0.ownBlock=some g'∨W.heap.size≤g') (hlo:lo≤g') (hlt:g' < w1.heap.size) (hgb:g'≠b) (hf2:Fr (fun j=>j=b) w1 w2) :
  ∃ g2,OwnR enc k T w2 lo b (updV H u (H u ++ [x])) (putF F (litU u) (some v')) g2 (fun j=>R j∨j=g'):=by
 classical
 have hz:=hf.size;have hz1:=hf1.size;have hz2:=hf2.size
 have hne:H u ++ [x]≠[]:=by simp
 have hgy:∀ y,y≠u→H y≠[]→g y≠g':=fun y hy hy0 e=>by
  rcases hfresh with h1 | h1
  ·rcases h0 with h2 | ⟨h2,h3⟩
   ·rw[h2] at h1;cases h1
   ·rw[h3] at h1
    have e2:g u=g':=Option.some.inj h1
    exact hy (h.inj y u hy0 h2 (e.trans e2.symm))
  ·have:=(h.lt _ (h.inR y hy0)).2.1;omega
 have hgv:∀ y,y≠u→H y≠[]→v0.ownBlock≠some (g y):=fun y hy hy0 e=>by
  rcases h0 with h2 | ⟨h2,h3⟩
  ·rw[h2] at e;cases e
  ·rw[h3] at e
   exact hy (h.inj y u hy0 h2 (Option.some.inj e).symm)
 refine⟨fun y=>if y=u then g' else g y,⟨fun kl v hv=>?_,fun y hy=>?_,fun y y' hy hy' e=>?_,fun y hy=>?_,fun j hj=>?_⟩⟩
 ·by_cases e:kl=litU u
  ·subst e
   rw[putF_same] at hv
   obtain rfl:=Option.some.inj hv
   refine⟨u,rfl,by rw[updV_same];exact hne,by simp [hv'],?_⟩
   rw[updV_same,← hn]
   exact ownsRow_fr hrow hf2 fun j hj=>by rw[hv'] at hj;obtain rfl:=Option.some.inj hj;exact hgb
  ·rw[putF_other e] at hv
   obtain⟨y,e',hy0,h1,h2⟩:=h.rows kl v hv
   have hy:y≠u:=fun h=>e (by rw[e',h])
   refine⟨y,e',by rw[updV_other hy];exact hy0,by simp [hy,h1],?_⟩
   rw[updV_other hy]
   have hlty:=h.lt _ (h.inR y hy0)
   refine ownsRow_fr (ownsRow_fr (h2.fr0 hf) hf1 fun j hj hj2=>?_) hf2 fun j hj hj2=>?_
   ·rw[h1] at hj;obtain rfl:=Option.some.inj hj;exact hgv y hy hy0 hj2
   ·rw[h1] at hj;obtain rfl:=Option.some.inj hj;exact hlty.2.2 hj2
 ·by_cases e:y=u
  ·subst e;rw[putF_same];rfl
  ·rw[putF_other (fun h=>e (litU_inj h))]
   rw[updV_other e] at hy
   exact h.all y hy
 ·by_cases h1:y=u
  ·by_cases h2:y'=u
   ·rw[h1,h2]
   ·rw[updV_other h2] at hy'
    simp only [h1,if_true,h2,if_false] at e
    exact absurd e.symm (hgy y' h2 hy')
  ·rw[updV_other h1] at hy
   by_cases h2:y'=u
   ·simp only [h1,if_false,h2,if_true] at e
    exact absurd e (hgy y h1 hy)
   ·rw[updV_other h2] at hy'
    simp only [h1,h2,if_false] at e
    exact h.inj y y' hy hy' e
 ·by_cases h1:y=u
  ·simp [h1]
  ·rw[updV_other h1] at hy
   simp only [h1,if_false]
   exact .inl (h.inR y hy)
 ·rcases hj with hj | rfl
  ·have:=h.lt j hj;exact⟨this.1,by omega,this.2.2⟩
  ·exact⟨hlo,by omega,hgb⟩
theorem OwnR.hrows(hk:∀ x,(enc x).length=k)(h0:0 < k){W:World}{lo b:Nat}{H:Int→List α}{F:Lit→Option Value}{g:Int→Nat}{R:Nat→Prop}(h:OwnR enc k T W lo b H F g R):HRows enc k W lo b H F:=by
 refine⟨fun kl v hv=>?_,h.all⟩
 obtain⟨u,e,hu,h1,h2⟩:=h.rows kl v hv
 obtain⟨g',hg',hr⟩:=rowsK_of_row hk h0 h2
 have hlt:=h.lt _ (h.inR u hu)
 have e2:g'=g u:=by
  obtain⟨a,off,cap,rfl,-,-,ha,-,-⟩:=hr
  have hl:0 < (H u).length:=List.length_pos_iff.2 hu
  rw[ha hl] at h1
  rcases h2.2 with⟨e0,_⟩ | ⟨g2,cap2,cur,e0,-⟩
  ·rw[ha hl] at e0;cases e0
  ·rw[ha hl] at e0
   simp only [Value.slice.injEq,Option.some.injEq,Addr.mk.injEq] at e0
   obtain⟨⟨rfl,rfl,-⟩,-⟩:=e0
   simpa [Value.ownBlock] using h1
 exact⟨u,e,hu,g',by omega,by omega,by omega,hr⟩
end
noncomputable def putN(H:Int→List Val)(x:Int × Val):Int→List Val:=updV H x.1 (H x.1 ++ [x.2])
noncomputable def putB(B:Int→List Int)(x:Int × Val):Int→List Int:=if x.2.k=4 then updV B x.2.u (B x.2.u ++ [x.1]) else B
noncomputable def lookN(xs:List (Int × Val)):Int→List Val:=xs.foldl putN fun _=>[]
noncomputable def lookB(xs:List (Int × Val)):Int→List Int:=xs.foldl putB fun _=>[]
theorem lookN_snoc(xs:List (Int × Val))(x:Int × Val):lookN (xs ++ [x])=updV (lookN xs) x.1 (lookN xs x.1 ++ [x.2]):=by unfold lookN;rw[List.foldl_append];rfl
theorem lookB_snoc4(xs:List (Int × Val))(x:Int × Val)(h:x.2.k=4):lookB (xs ++ [x])=updV (lookB xs) x.2.u (lookB xs x.2.u ++ [x.1]):=by
 unfold lookB;rw[List.foldl_append];simp only [List.foldl_cons,List.foldl_nil];unfold putB;rw[if_pos h]
theorem lookB_snoc(xs:List (Int × Val))(x:Int × Val)(h:x.2.k≠4):lookB (xs ++ [x])=lookB xs:=by
 unfold lookB;rw[List.foldl_append];simp only [List.foldl_cons,List.foldl_nil];unfold putB;rw[if_neg h]
theorem list_snoc{α:Type}{C:List α→Prop}(h0:C [])(h1:∀ xs x,C xs→C (xs ++ [x]))(xs:List α):C xs:=by
 rw[← List.reverse_reverse xs]
 induction xs.reverse with
 | nil=>exact h0
 | cons x l ih=>rw[List.reverse_cons];exact h1 _ _ ih
theorem lookN_len(xs:List (Int × Val))(u:Int):(lookN xs u).length≤xs.length:=by
 refine list_snoc (C:=fun xs=>(lookN xs u).length≤xs.length) (by simp [lookN]) (fun xs x ih=>?_) xs
 rw[lookN_snoc]
 by_cases e:u=x.1
 ·subst e;rw[updV_same];simpa using ih
 ·rw[updV_other e];simp;omega
theorem lookB_len(xs:List (Int × Val))(u:Int):(lookB xs u).length≤xs.length:=by
 refine list_snoc (C:=fun xs=>(lookB xs u).length≤xs.length) (by simp [lookB]) (fun xs x ih=>?_) xs
 by_cases h:x.2.k=4
 ·rw[lookB_snoc4 _ _ h]
  by_cases e:u=x.2.u
  ·subst e;rw[updV_same];simpa using ih
  ·rw[updV_other e];simp;omega
 ·rw[lookB_snoc _ _ h];simp;omega
theorem lookN_eq(xs:List (Int × Val))(u:Int):lookN xs u=(xs.filter fun x=>decide (x.1=u)).map (·.2):=by
 refine list_snoc (C:=fun xs=>lookN xs u=(xs.filter fun x=>decide (x.1=u)).map (·.2)) (by simp [lookN]) (fun xs x ih=>?_) xs
 rw[lookN_snoc,List.filter_append,List.map_append,← ih]
 by_cases e:u=x.1
 ·subst e;rw[updV_same];simp
 ·rw[updV_other e]
  have e':¬ x.1=u:=fun h=>e h.symm
  simp [e']
theorem lookB_eq(xs:List (Int × Val))(u:Int):lookB xs u=(xs.filter fun x=>decide (x.2.k=4∧x.2.u=u)).map (·.1):=by
 refine list_snoc (C:=fun xs=>lookB xs u=(xs.filter fun x=>decide (x.2.k=4∧x.2.u=u)).map (·.1)) (by simp [lookB]) (fun xs x ih=>?_) xs
 rw[List.filter_append,List.map_append,← ih]
 by_cases h:x.2.k=4
 ·rw[lookB_snoc4 _ _ h]
  by_cases e:u=x.2.u
  ·subst e;rw[updV_same];simp [h]
  ·rw[updV_other e]
   have e':¬ x.2.u=u:=fun h=>e h.symm
   simp [e']
 ·rw[lookB_snoc _ _ h];simp [h]
theorem lookN_trs{H:Int→List Val}:∀ {ks:List Int},ks.Nodup→∀ u,lookN (trsOf H ks) u=if u ∈ ks then H u else []:=by
 intro ks hn u
 rw[lookN_eq]
 induction ks with
 | nil=>rfl
 | cons k ks ih=>
  have hk:=List.nodup_cons.1 hn
  have hc:trsOf H (k :: ks)=(H k).map (fun v=>(k,v)) ++ trsOf H ks:=rfl
  rw[hc,List.filter_append,List.map_append,ih hk.2]
  by_cases e:k=u
  ·subst e
   rw[if_neg hk.1,if_pos (by simp),List.append_nil,List.filter_eq_self.2 (by simp),List.map_map]
   exact List.map_id' _
  ·have e':¬ u=k:=fun h=>e h.symm
   have h0:((H k).map fun v=>(k,v)).filter (fun x=>decide (x.1=u)) = []:=List.filter_eq_nil_iff.2 (by simp [e])
   rw[h0]
   simp [e']
theorem nodup_rises{ks:List Int}(h:RisesBy id ks):ks.Nodup:=h.imp fun {a b} h e=>by
 have:a < b:=h
 omega
theorem lookN_at{H:Int→List Val}{ks:List Int}(h:NodesOf H ks):lookN (trsOf H ks)=H:=by
 funext u
 rw[lookN_trs (nodup_rises h.rises)]
 by_cases hu:u ∈ ks
 ·rw[if_pos hu]
 ·rw[if_neg hu]
  have:=(not_congr (h.mem u)).1 hu
  exact(Classical.not_not.1 this).symm
theorem lookB_mem{H:Int→List Val}{ks:List Int}(h:NodesOf H ks)(y u:Int):u ∈ lookB (trsOf H ks) y↔∃ v ∈ H u,v.k=4∧v.u=y:=by
 rw[lookB_eq]
 simp only [List.mem_map,List.mem_filter,decide_eq_true_eq,trsOf,List.mem_flatMap]
 constructor
 ·rintro⟨⟨a,v⟩,⟨⟨k,hk,w,hw,e⟩,h4⟩,rfl⟩
  simp only [Prod.mk.injEq] at e
  obtain⟨rfl,rfl⟩:=e
  exact⟨w,hw,h4⟩
 ·rintro⟨v,hv,h4⟩
  exact⟨(u,v),⟨⟨u,(h.mem u).2 (List.ne_nil_of_mem hv),v,hv,rfl⟩,h4⟩,rfl⟩
theorem sum_upd{f g:Int→Nat}{u:Int}:∀ {L:List Int},L.Nodup→(∀ y,y≠u→g y=f y)→g u≤f u+1→(L.map g).sum≤(L.map f).sum+1
 | [],_,_,_=>by simp
 | y :: L,hn,h1,h2=>by
  obtain⟨hy,hn⟩:=List.nodup_cons.1 hn
  simp only [List.map_cons,List.sum_cons]
  by_cases e:y=u
  ·subst e
   have:L.map g=L.map f:=List.map_congr_left fun z hz=>h1 z fun e=>hy (e ▸ hz)
   rw[this];omega
  ·have:=sum_upd hn h1 h2
   rw[h1 y e];omega
theorem sum_zero(L:List Int):(L.map fun _=>0).sum=0:=by
 induction L with
 | nil=>rfl
 | cons x l ih=>simp only [List.map_cons,List.sum_cons,ih]
theorem have_sum(list:Bool)(ws:List Wr){L:List Int}(hL:L.Nodup):(L.map fun u=>(haveOf list ws u).length).sum≤ws.length:=by
 refine list_snoc (C:=fun ws=>(L.map fun u=>(haveOf list ws u).length).sum≤ws.length) (by simp [haveOf,sum_zero]) (fun ws x ih=>?_) ws
 rw[haveOf_snoc,List.length_append,List.length_singleton]
 refine Nat.le_trans (sum_upd (f:=fun u=>(haveOf list ws u).length) (u:=x.uid) hL (fun y hy=>?_) ?_) (by omega)
 ·show(hWrite list (haveOf list ws) x y).length=_
  unfold hWrite;rw[updV_other hy]
 ·show(hWrite list (haveOf list ws) x x.uid).length≤_
  unfold hWrite;rw[updV_same];exact wrV_len _ _ _
theorem wsOf_atCs(l:PL)(t:Int):(wsOf (atCs l t)).length≤(wsOf l.commits).length:=by
 unfold atCs wsOf
 have h:=List.takeWhile_append_dropWhile (p:=fun c:Cm=>decide (c.time≤t)) (l:=l.commits)
 conv=>rhs;rw[← h]
 rw[List.flatMap_append,List.length_append];omega
theorem trs_len{l:PL}{N:Nat}(hl:l.AtOk N)(t:Int){ks:List Int}(h:NodesOf (haveAt l t) ks):(trsOf (haveAt l t) ks).length≤N:=by
 have e:(trsOf (haveAt l t) ks).length=(ks.map fun u=>(haveAt l t u).length).sum:=by
  unfold trsOf;rw[List.length_flatMap];simp
 rw[e]
 by_cases hm:t < l.marked
 ·have:haveAt l t=fun _=>[]:=by unfold haveAt;rw[if_pos hm]
  rw[this]
  simp only [List.length_nil,sum_zero]
  omega
 ·have:haveAt l t=haveOf l.s.list (wsOf (atCs l t)):=by unfold haveAt;rw[if_neg hm]
  rw[this]
  exact Nat.le_trans (have_sum _ _ (nodup_rises h.rises)) (Nat.le_trans (wsOf_atCs l t) hl.len)
theorem haveAt_ok{l:PL}{N:Nat}(hl:l.AtOk N)(t:Int):HOk (haveAt l t) N:=by
 unfold haveAt
 split
 ·exact HOk.nil.mono (Nat.zero_le _)
 ·refine(haveOf_ok _ fun x hx=>hl.ok x ?_).mono (Nat.le_trans (wsOf_atCs l t) hl.len)
  unfold wsOf at hx ⊢
  obtain⟨c,hc,hx⟩:=List.mem_flatMap.1 hx
  exact List.mem_flatMap.2 ⟨c,(List.takeWhile_sublist _).subset hc,hx⟩
theorem exists_rises(P:Int→Prop)(L:List Int)(h:∀ u,P u→u ∈ L):∃ ks,RisesBy id ks∧∀ u,u ∈ ks↔P u:=by
 classical
 induction L generalizing P with
 | nil=>exact⟨[],List.Pairwise.nil,fun u=>⟨fun h'=>(by cases h'),fun hu=>h u hu⟩⟩
 | cons x L ih=>
  obtain⟨ks,h1,h2⟩:=ih (fun u=>P u∧u≠x) fun u hu=>by
   rcases List.mem_cons.1 (h u hu.1) with rfl | h
   ·exact absurd rfl hu.2
   ·exact h
  by_cases hx:P x
  ·refine⟨insBy id x ks,insBy_rises h1 fun y hy e=>((h2 y).1 hy).2 e,fun u=>?_⟩
   rw[insBy_mem,h2]
   constructor
   ·rintro(rfl | h)
    ·exact hx
    ·exact h.1
   ·intro hu
    by_cases e:u=x
    ·exact .inl e
    ·exact .inr ⟨hu,e⟩
  ·refine⟨ks,h1,fun u=>?_⟩
   rw[h2]
   exact⟨fun h=>h.1,fun hu=>⟨hu,fun e=>hx (e ▸ hu)⟩⟩
theorem haveOf_mem(list:Bool)(ws:List Wr)(u:Int)(h:haveOf list ws u≠[]):u ∈ ws.map (·.uid):=by
 revert h
 refine list_snoc (C:=fun ws=>haveOf list ws u≠[]→u ∈ ws.map (·.uid)) (by simp [haveOf]) (fun ws x ih h=>?_) ws
 rw[haveOf_snoc] at h
 by_cases e:u=x.uid
 ·simp [e]
 ·unfold hWrite at h
  rw[updV_other e] at h
  simp only [List.map_append,List.mem_append]
  exact .inl (ih h)
theorem exists_nodes(l:PL)(t:Int):∃ ks,NodesOf (haveAt l t) ks:=by
 obtain⟨ks,h1,h2⟩:=exists_rises (fun u=>haveAt l t u≠[]) ((wsOf (atCs l t)).map (·.uid)) fun u hu=>by
  unfold haveAt at hu
  split at hu
  ·exact absurd rfl hu
  ·exact haveOf_mem _ _ _ hu
 exact⟨ks,h1,h2⟩
end
end Go.Proofs.YtefepfiijoafbaaGreat
