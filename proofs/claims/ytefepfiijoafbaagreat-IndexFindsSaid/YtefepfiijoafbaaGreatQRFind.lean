/- RNodes RAll RFind -/
import Derived.Deep.RegionHeld3
import Derived.Test.YtefepfiijoafbaaGreatQXTrip
import Derived.Test.YtefepfiijoafbaaGreatQR3SortT
import Derived.Test.YtefepfiijoafbaaGreatQQuiet
import Derived.Test.YtefepfiijoafbaaGreatQRFinds
import Derived.Test.YtefepfiijoafbaaGreatQFindK
set_option linter.unusedVariables false
set_option linter.unusedSimpArgs false
set_option maxRecDepth 100000
set_option maxHeartbeats 8000000
namespace Go.Proofs.YtefepfiijoafbaaGreat
section
open Go.RowKit Go.Shelf Go.Maps Go.Sort
attribute [local go_sem] Oper.semAt_some
attribute [local irreducible] wpQuiet
open Classical in
noncomputable def ndAll(H:Int→List Val)(us:List Int):List Int:=us.filter fun u=>decide (H u≠[])
theorem ndAll_yes{H:Int→List Val}{us:List Int}{i:Nat}(hi:i < us.length)(h:H us[i]≠[]):ndAll H (us.take (i+1))=ndAll H (us.take i) ++ [us[i]]:=by
 unfold ndAll
 rw[List.take_succ_eq_append_getElem hi,List.filter_append]
 simp [h]
theorem ndAll_no{H:Int→List Val}{us:List Int}{i:Nat}(hi:i < us.length)(h:H us[i] = []):ndAll H (us.take (i+1))=ndAll H (us.take i):=by
 unfold ndAll
 rw[List.take_succ_eq_append_getElem hi,List.filter_append]
 simp [h]
theorem r18Nodes_any(W:World)(p:Nat)(l:PL)(a:Option Addr)(bc off cap N:Nat)(h:XRead W p l a bc off cap)(hl:l.AtOk N)(hN:N≤900000000)(hrs:RisesBy Cm.time l.commits)(t:Int) :
  Calls Tryz.prog 177 #[.pointer (some ⟨p,0,none⟩),.int .u64 t] W (NewInts W fun u=>haveAt l t u≠[]):=by
 have hu:=fun W' (hf:Fr N0 W W')=>xuids_any W' p l a bc off cap N (h.fr hf) hl hN
 have hv:=fun W' (hf:Fr N0 W W') u=>xValues_any W' p l a bc off cap N (h.fr hf) hl hN hrs u t
 obtain⟨u1,u2,u3⟩:=uidsW_all (wsOf l.commits)
 have hin:∀ u,haveAt l t u≠[]→u ∈ uidsW (wsOf l.commits):=fun u hne=>by
  unfold haveAt at hne
  split at hne
  ·exact absurd rfl hne
  ·have h1:=haveOf_mem _ _ u hne
   obtain⟨x,hx,e⟩:=List.mem_map.1 h1
   refine(u2 u).2 ⟨x,?_,e⟩
   obtain⟨c,hc,hx2⟩:=List.mem_flatMap.1 hx
   exact List.mem_flatMap.2 ⟨c,(List.takeWhile_sublist _).subset hc,hx2⟩
 obtain⟨us,hus⟩:∃ us,uidsW (wsOf l.commits)=us:=⟨_,rfl⟩
 obtain⟨H,hH⟩:∃ H,haveAt l t=H:=⟨_,rfl⟩
 rw[hus] at u1 u3 hin
 simp only [hus] at hu
 have hHu:∀ u,haveAt l t u=H u:=fun u=>by rw[hH]
 simp only [hHu] at hv hin ⊢
 obtain⟨i0,hi,hz0,hz1,hz2⟩:=info_parts ins4_info
 have husl:us.length≤900000000:=by have:=hl.len;omega
 have HU:=hhd hu;have HV:=hhd hv
 have HFIN:=hhd (show RisesBy id (ndAll H us)∧(∀ u,u ∈ ndAll H us↔H u≠[]) from⟨List.Pairwise.sublist List.filter_sublist u1,fun u=>by unfold ndAll;rw[List.mem_filter];exact⟨fun h=>by simpa using h.2,fun h=>⟨hin u h,by simpa using h⟩⟩⟩)
 obtain⟨Pst,hPst⟩:∃ Pst,NewInts W (fun u=>H u≠[])=Pst:=⟨_,rfl⟩
 have hpost:∀ v w',(∃ base,W.heap.size≤base∧w'.ownsRow base 33 1 v (ndAll H us).length ((ndAll H us).map (Value.int .u64)))→Fr N0 W w'→Pst (.returned v) w':=fun v w' ⟨base,hb,hr⟩ hf=>by
  rw[← hPst]
  exact⟨v,_,rfl,ownsRow_base hr hb,HFIN.out.1,HFIN.out.2,hf⟩
 rw[hPst]
 have HPOST:=hhd hpost
 clear hu hv hin hus hH hHu h hl hrs u1 u2 u3 hPst hpost HFIN
 go_enter Tryz.func177,Tryz.ntmps177
 go_wp2_with fail
 refine(HU.out _ (Fr.refl _ _)).mono ?_
 rintro e w1 ⟨v1,b1,rfl,⟨ua,uo,uc,rfl,r1,r2,r3,-,r5,-⟩,hf1⟩
 obtain⟨nu,hnu⟩:∃ nu,us.length=nu:=⟨_,rfl⟩
 have HNU:=hhd hnu
 have HF1:=hhd hf1;have HR5:=hhd r5
 rw[hnu] at r1 r3 husl
 simp only [hnu]
 clear hf1 r5 hnu HU
 go_wp2_with fail
 go_loopw [5,7] (fun ov iv wr=>∃ (i:Nat) (os:List Int),i≤nu∧iv = .int .i64 i∧Hid (os=ndAll H (us.take i))∧Hid (wr.ownsRow w1.heap.size 33 1 ov os.length (os.map (Value.int .u64)))∧Hid (Fr N0 w1 wr)) (fun _ iv _=>nu - (intOf iv).toNat)
 case atStart=>exact⟨0,[],Nat.zero_le _,by first | rfl | go_num,hhd (by simp [ndAll]),World.ownsRow_nil _ _ _ _,Fr.refl _ _⟩
 case round=>
  obtain⟨i,os,hi',rfl,hos,hrow,hfr⟩:=hrel
  have hosl:os.length≤900000000:=by
   rw[hos.out];unfold ndAll
   have h1:=List.length_filter_le (fun u=>decide (H u≠[])) (us.take i)
   rw[List.length_take] at h1
   have:=HNU.out
   omega
  by_cases hlt:i < nu
  ·obtain rfl:=r3 (by omega)
   have hiu:i < us.length:=by rw[HNU.out];exact hlt
   have cu:=HR5.out i hiu
   have cur:=hfr.out.cell id cu
   have hyes:=ndAll_yes (H:=H) hiu
   have hno:=ndAll_no (H:=H) hiu
   obtain⟨u,hu⟩:∃ u,us[i]=u:=⟨_,rfl⟩
   rw[hu] at cur hyes hno cu
   have hfw:=HF1.out.then0 hfr.out
   have hcall:=HV.out _ hfw u
   have hi1:(i:Int) < (nu:Int):=by omega
   have HCALL:=hhd hcall;have HYES:=hhd hyes;have HNO:=hhd hno;have HOS:=hhd hos.out;have HROW:=hhd hrow.out;have HFR:=hhd hfr.out;have CU:=hhd cu;have HFW:=hhd hfw
   clear hcall hyes hno hos hrow hfr hu cu hfw
   go_wp2_with fail
   refine HCALL.out.mono ?_
   rintro e w3 ⟨v3,rfl,hV3,hf3⟩
   obtain⟨va,vc,rfl⟩:=row_form hV3
   obtain⟨nv,hnv⟩:∃ nv,(H u).length=nv:=⟨_,rfl⟩
   have HNV:=hhd hnv
   have cur3:=hf3.cell id cur
   have hrow3:=HROW.out.fr0 hf3
   have HF13:=hhd (HFR.out.then0 hf3)
   have hw3:=HF13.out.size
   simp only [hnv]
   clear hnv hf3 hV3 cur
   obtain⟨oa,oc,rfl⟩:=row_form hrow3
   obtain⟨no,hno⟩:∃ no,os.length=no:=⟨_,rfl⟩
   rw[hno] at hrow3 hosl
   simp only [hno]
   have HN0:=hhd hno
   have HROW3:=hhd hrow3
   clear hno
   by_cases h0:0 < nv
   ·have h0':(0:Int) < (nv:Int):=by omega
    have hnx:=HYES.out (fun e=>by have:=HNV.out;rw[e] at this;simp at this;omega)
    have HNX:=hhd hnx
    clear hnx
    go_wp2_with (at_builtin;go_loud (refine wpList_append_lies _ rfl _ _ 35 rfl (w1.heap.size) 33 i0 (.int .u64 0) 1 8 Tryz.underlying35 hi hz0 hz1 hz2 rfl (by decide) (.slice oa no oc) (no) _ rfl (HROW3.out.alloc _) ⟨w3.heap.size,0,none⟩ 1 1 [.int .u64 u] rfl rfl (World.news_of_block (cs:=#[.int .u64 u]) (t:=33) (fr:=(0,0)) (heap_alloc_new w3 _)) (by simp [Value.oneCell']) (by omega) (by unfold maxLen;omega) (by omega) (by simp;omega) (w3.heap.size+1) (by simp) ?_);intro g1 cap1 w4 hown4 hgrow4 hfresh4 hlt4)
    go_roundw
    case rel=>
     have hfa:Fr N0 w1 w4:=((HF13.out.alloc _).trans ((Fr.refl (fun q=>(Value.slice oa no oc).ownBlock=some q) _).grown hgrow4 fun q e=>.inl e) fun q hq=>.inr (by have:=(ownsRow_lt HROW3.out q hq).1;omega))
     exact⟨i+1,os ++ [u],by omega,by first | rfl | go_num,hhd (by rw[HNX.out,HOS.out]),hhd (by simp only [List.length_append,List.length_cons,List.length_nil,List.map_append,List.map_cons,List.map_nil,HN0.out];exact hown4),hhd hfa⟩
    case measure=>simp [intOf] <;> omega
   ·have h0':¬(0:Int) < (nv:Int):=by omega
    have hnx:=HNO.out (List.eq_nil_of_length_eq_zero (by have:=HNV.out;omega))
    have HNX:=hhd hnx
    clear hnx
    go_wp2_with fail
    go_roundw
    case rel=>exact⟨i+1,os,by omega,by first | rfl | go_num,hhd (by rw[HNX.out,HOS.out]),hhd (by rw[HN0.out];exact HROW3.out),HF13⟩
    case measure=>simp [intOf] <;> omega
  ·obtain rfl:i=nu:=by omega
   have hfull:us.take i=us:=by rw[← HNU.out,List.take_length]
   have hos2:=hos.out
   rw[hfull] at hos2
   have HOS:=hhd hos2;have HROW:=hhd hrow.out;have HFR:=hhd hfr.out
   clear hos hos2 hrow hfr hfull
   have hi1:¬(i:Int) < (i:Int):=by omega
   go_wp2_with fail
   have hr:=HROW.out
   rw[HOS.out] at hr
   exact HPOST.out _ _ ⟨_,HF1.out.size,hr⟩ (HF1.out.then0 HFR.out)
end
section
open Go.RowKit Go.Shelf Go.Maps Go.Sort
attribute [local go_sem] Oper.semAt_some
attribute [local irreducible] wpQuiet
noncomputable def allStep(out:List Int)(x:Int × Val):List Int:=if x.2.k=4 then (if x.2.u ∈ out then out else insBy id x.2.u out) else out
theorem allStep_all:∀ (trs:List (Int × Val)) (out:List Int),RisesBy id out→RisesBy id (trs.foldl allStep out)∧(∀ u,u ∈ trs.foldl allStep out↔u ∈ out∨∃ x ∈ trs,x.2.k=4∧x.2.u=u)∧(trs.foldl allStep out).length≤out.length+trs.length
 | [],out,h=>⟨h,fun u=>by simp,by simp⟩
 | x :: trs,out,h=>by
  rw[List.foldl_cons]
  have hs:RisesBy id (allStep out x)∧(∀ u,u ∈ allStep out x↔u ∈ out∨(x.2.k=4∧x.2.u=u))∧(allStep out x).length≤out.length+1:=by
   unfold allStep
   split
   ·rename_i hk
    split
    ·rename_i hm
     exact⟨h,fun u=>⟨.inl,fun h=>h.elim id fun⟨_,e⟩=>e ▸ hm⟩,by omega⟩
    ·rename_i hm
     refine⟨insBy_rises h fun y hy e=>hm ((show y=x.2.u from e) ▸ hy),fun u=>?_,by rw[insBy_length];omega⟩
     rw[insBy_mem]
     constructor
     ·rintro(e | e)
      ·exact .inr ⟨hk,e.symm⟩
      ·exact .inl e
     ·rintro(e | ⟨-,e⟩)
      ·exact .inr e
      ·exact .inl e.symm
   ·rename_i hk
    exact⟨h,fun u=>⟨.inl,fun h=>h.elim id fun⟨e,_⟩=>absurd e hk⟩,by omega⟩
  obtain⟨g1,g2,g3⟩:=allStep_all trs _ hs.1
  refine⟨g1,fun u=>?_,by rw[List.length_cons];omega⟩
  rw[g2,hs.2.1]
  constructor
  ·rintro((e | e) | ⟨y,hy,e⟩)
   ·exact .inl e
   ·exact .inr ⟨x,by simp,e⟩
   ·exact .inr ⟨y,by simp [hy],e⟩
  ·rintro(e | ⟨y,hy,e⟩)
   ·exact .inl (.inl e)
   ·rcases List.mem_cons.1 hy with rfl | hy
    ·exact .inl (.inr e)
    ·exact .inr ⟨y,hy,e⟩
theorem nodes_len{H:Int→List Val}{ks:List Int}(h:∀ u ∈ ks,H u≠[]):ks.length≤(trsOf H ks).length:=by
 induction ks with
 | nil=>simp
 | cons k ks ih=>
  have h1:=ih fun u hu=>h u (by simp [hu])
  have h2:0 < (H k).length:=List.length_pos_iff.2 (h k (by simp))
  unfold trsOf at h1 ⊢
  rw[List.flatMap_cons,List.length_append,List.length_map,List.length_cons];omega
structure AllAre(l:PL)(t:Int)(xs:List Int):Prop where
 rises:RisesBy id xs
 mem:∀ u,u ∈ xs↔haveAt l t u≠[]∨∃ x,∃ v ∈ haveAt l t x,v.k=4∧v.u=u
theorem r19All_any(W:World)(p:Nat)(l:PL)(a:Option Addr)(bc off cap N:Nat)(h:XRead W p l a bc off cap)(hl:l.AtOk N)(hN:N≤900000000)(hrs:RisesBy Cm.time l.commits)(t:Int) :
  Calls Tryz.prog 109 #[.pointer (some ⟨p,0,none⟩),.int .u64 t] W fun e w'=>∃ v b xs,e = .returned v∧Ints .u64 w' b v xs∧AllAre l t xs∧xs.length≤2 * N∧Fr N0 W w':=by
 obtain⟨ks,hks⟩:=exists_nodes l t
 have hnd:=fun W' (hf:Fr N0 W W')=>(r18Nodes_any W' p l a bc off cap N (h.fr hf) hl hN hrs t).mono fun e w' hh=>hh.are hks.rises hks.mem
 have htr:=fun W' (hf:Fr N0 W W')=>xtriples_any W' p l a bc off cap N (h.fr hf) hl hN hrs t ks hks
 have hok:=haveAt_ok hl t
 have htl:=trsOf_len hl t hks.rises
 have hkl:=nodes_len fun u hu=>(hks.mem u).1 hu
 have hwk:∀ u ∈ ks,(Lit.int .u64 u).wf=true:=fun u hu=>hok.key u ((hks.mem u).1 hu)
 have hwt:∀ x ∈ trsOf (haveAt l t) ks,(Lit.int .u64 x.2.u).wf=true:=fun x hx=>by
  unfold trsOf at hx
  obtain⟨u,hu,hx⟩:=List.mem_flatMap.1 hx
  obtain⟨v,hv,rfl⟩:=List.mem_map.1 hx
  exact((hok.ok u).may v hv).2
 have hfin:AllAre l t ((trsOf (haveAt l t) ks).foldl allStep ks)∧((trsOf (haveAt l t) ks).foldl allStep ks).length≤2 * N:=by
  obtain⟨g1,g2,g3⟩:=allStep_all (trsOf (haveAt l t) ks) ks hks.rises
  refine⟨⟨g1,fun u=>?_⟩,by omega⟩
  rw[g2,hks.mem]
  constructor
  ·rintro(e | ⟨x,hx,e⟩)
   ·exact .inl e
   ·unfold trsOf at hx
    obtain⟨z,hz,hx⟩:=List.mem_flatMap.1 hx
    obtain⟨v,hv,rfl⟩:=List.mem_map.1 hx
    exact .inr ⟨z,v,hv,e⟩
  ·rintro(e | ⟨x,v,hv,e⟩)
   ·exact .inl e
   ·refine .inr ⟨(x,v),?_,e⟩
    unfold trsOf
    exact List.mem_flatMap.2 ⟨x,(hks.mem x).2 (fun e=>by rw[e] at hv;cases hv),List.mem_map.2 ⟨v,hv,rfl⟩⟩
 obtain⟨trs,htrs⟩:∃ trs,trsOf (haveAt l t) ks=trs:=⟨_,rfl⟩
 rw[htrs] at htl hkl hwt hfin
 simp only [htrs] at htr
 have hpre:∀ i,i≤trs.length→((trs.take i).foldl allStep ks).length≤2 * N∧RisesBy id ((trs.take i).foldl allStep ks):=fun i hi=>by
  obtain⟨g1,g2,g3⟩:=allStep_all (trs.take i) ks hks.rises
  rw[List.length_take] at g3
  exact⟨by omega,g1⟩
 obtain⟨Pst,hPst⟩:∃ Pst:Ending→World→Prop,(fun e w'=>∃ v b xs,e = .returned v∧Ints .u64 w' b v xs∧AllAre l t xs∧xs.length≤2 * N∧Fr N0 W w')=Pst:=⟨_,rfl⟩
 have hpost:∀ v b w',Ints .u64 w' b v (trs.foldl allStep ks)→Fr N0 W w'→Pst (.returned v) w':=fun v b w' hI hf=>by
  rw[← hPst];exact⟨v,b,_,rfl,hI,hfin.1,hfin.2,hf⟩
 rw[hPst]
 obtain⟨pr,hpr⟩:∃ pr,l.s.pred=pr:=⟨_,rfl⟩
 simp only [hpr] at htr
 obtain⟨n,hn⟩:∃ n,trs.length=n:=⟨_,rfl⟩
 have HND:=hhd hnd;have HTR:=hhd htr;have HWT:=hhd hwt;have HWK:=hhd hwk;have HPRE:=hhd hpre;have HPOST:=hhd hpost;have HN:=hhd hn
 rw[hn] at htl
 clear hnd htr hok hkl hwk hwt hfin hpre hPst hpost htrs hn h hl hrs hks hpr
 go_enter Tryz.func109,Tryz.ntmps109
 go_wp2_with fail
 refine(HND.out _ (Fr.refl _ _)).mono ?_
 rintro e w1 ⟨na,nc,rfl,hr1,hf1⟩
 obtain⟨nb,-,hI1⟩:=ints_rowH hr1 HWK.out
 have HF1:=hhd hf1;have HI1:=hhd hI1
 clear hr1 hf1 hI1 HND
 go_wp2_with fail
 refine(HTR.out _ HF1.out).mono ?_
 rintro e w2 ⟨v2,rfl,hr2,hf2⟩
 obtain⟨g,hg,hrk⟩:=rowsK_of_row (enc:=trE pr) (n:=7) (trE_len pr) (by decide) hr2
 obtain⟨va,go,vcp,rfl,s1,s2,s3,-,s5⟩:=hrk
 have HF2:=hhd (HF1.out.then0 hf2);have HI2:=hhd (HI1.out.fr0 hf2);have HS5:=hhd s5
 rw[HN.out] at s1 s3 ⊢
 clear s5 hr2 hf2 HTR
 go_wp2_with fail
 go_loopw [5,7] (fun ov iv wr=>∃ (i:Nat) (b:Nat),i≤n∧iv = .int .i64 i∧Hid (Ints .u64 wr b ov ((trs.take i).foldl allStep ks))∧Hid (Fr N0 w2 wr)) (fun _ iv _=>n - (intOf iv).toNat)
 case atStart=>exact⟨0,nb,Nat.zero_le _,by first | rfl | go_num,HI2.out,Fr.refl _ _⟩
 case round=>
  obtain⟨i,b,hi,rfl,hI,hfr⟩:=hrel
  by_cases hlt:i < n
  ·obtain rfl:=s3 (by omega)
   have hx:i < trs.length:=by rw[HN.out];exact hlt
   have c2:=hfr.out.cell id (HS5.out i hx 2 (by decide))
   have c6:=hfr.out.cell id (HS5.out i hx 6 (by decide))
   have hnx:(trs.take (i+1)).foldl allStep ks=allStep ((trs.take i).foldl allStep ks) trs[i]:=by rw[List.take_succ_eq_append_getElem hx,List.foldl_append];rfl
   have hwx:=HWT.out trs[i] (List.getElem_mem hx)
   obtain⟨⟨xu,xv⟩,hxx⟩:∃ x,trs[i]=x:=⟨_,rfl⟩
   rw[hxx] at c2 c6 hnx hwx
   simp only [trE,List.getElem?_cons_zero,List.getElem?_cons_succ] at c2 c6
   obtain⟨hp1,hp2⟩:=HPRE.out i (by omega)
   obtain⟨out,hout⟩:∃ out,(trs.take i).foldl allStep ks=out:=⟨_,rfl⟩
   rw[hout] at hp1 hnx
   have hI':=hI.out
   rw[hout] at hI'
   have hrise:=r18Rise_any wr b u5 out hI' (by omega) xv.u hwx
   obtain⟨xk,hxk⟩:∃ xk,xv.k=xk:=⟨_,rfl⟩
   obtain⟨xu2,hxu2⟩:∃ xu2,xv.u=xu2:=⟨_,rfl⟩
   rw[show allStep out (xu,xv)=(if xv.k=4 then (if xv.u ∈ out then out else insBy id xv.u out) else out) from rfl,hxk,hxu2] at hnx
   rw[hxk] at c2
   rw[hxu2] at c6 hrise
   have hi1:(i:Int) < (n:Int):=by omega
   have HNX:=hhd hnx;have HFR:=hhd hfr.out;have HI:=hhd hI';have HRISE:=hhd hrise
   clear hnx hfr hI hI' hrise hxx hout hp1 hp2 hwx hxk hxu2
   by_cases hk:xk=4
   ·subst hk
    have hnx2:=HNX.out
    rw[if_pos rfl] at hnx2
    have HNX2:=hhd hnx2
    clear hnx2
    go_wp2_with fail
    refine HRISE.out.mono ?_
    rintro e w3 ⟨v3,b3,rfl,hI3,hf3⟩
    rw[← HNX2.out] at hI3
    have HI3:=hhd hI3;have HF3:=hhd (HFR.out.then0 hf3)
    clear hI3 hf3
    go_wp2_with fail
    go_roundw
    case rel=>exact⟨i+1,b3,by omega,by first | rfl | go_num,HI3.out,HF3.out⟩
    case measure=>simp [intOf] <;> omega
   ·have hk':(xk == 4)=false:=by simpa using hk
    have hnx2:=HNX.out
    rw[if_neg hk] at hnx2
    have HNX2:=hhd hnx2
    clear hnx2
    go_wp2_with fail
    go_roundw
    case rel=>exact⟨i+1,b,by omega,by first | rfl | go_num,hhd (by rw[HNX2.out];exact HI.out),HFR.out⟩
    case measure=>simp [intOf] <;> omega
  ·obtain rfl:i=n:=by omega
   have hi1:¬(i:Int) < (i:Int):=by omega
   have hfull:trs.take i=trs:=by rw[← HN.out,List.take_length]
   have hI':=hI.out
   rw[hfull] at hI'
   have HI:=hhd hI';have HFR:=hhd (HF2.out.then0 hfr.out)
   clear hI hI' hfr hfull
   go_wp2_with fail
   exact HPOST.out _ _ _ HI.out HFR.out
end
section
open Go.RowKit Go.Shelf Go.Maps Go.Sort
attribute [local go_sem] Oper.semAt_some
attribute [local go_sem ↓] Go.wp_at_zero Go.wp_at_succ
attribute [local irreducible] wpQuiet
theorem valMay_size{v:Val}(h:valMay v=true):v.s.size≤4096:=by
 unfold valMay at h
 split at h
 ·simp only [Bool.and_eq_true,decide_eq_true_eq] at h;omega
 ·split at h
  ·simp only [Bool.and_eq_true,decide_eq_true_eq] at h;omega
  ·split at h
   ·simp only [Bool.and_eq_true,decide_eq_true_eq] at h;omega
   ·split at h
    ·simp only [Bool.and_eq_true,decide_eq_true_eq] at h;omega
    ·cases h
theorem allV_may{k:Int}{l:List Val}(h:allV k l=true):∀ x ∈ l,x.k=k∧valMay x=true:=fun x hx=>by
 unfold allV at h
 simp only [Bool.not_eq_true',List.any_eq_false] at h
 have:=h x hx
 simp at this
 exact this
theorem valsOk_may{kd:Int}{l:List Val}(h:valsOk kd l=true):∀ x ∈ l,valMay x=true:=fun x hx=>by
 unfold valsOk valsR at h
 split at h
 ·have:l = []:=List.eq_nil_of_length_eq_zero (by simpa using h)
  rw[this] at hx;cases hx
 ·split at h
  ·simp only [Bool.and_eq_true,Bool.or_eq_true,decide_eq_true_eq] at h
   rcases h.2 with(h | h) | h
   ·exact(allV_may h x hx).2
   ·exact(allV_may h x hx).2
   ·exact(allV_may h x hx).2
  ·split at h
   ·simp only [Bool.and_eq_true] at h;exact(allV_may h.2 x hx).2
   ·split at h
    ·simp only [Bool.and_eq_true] at h;exact(allV_may h.2 x hx).2
    ·split at h
     ·simp only [Bool.and_eq_true] at h;exact(allV_may h.2 x hx).2
     ·cases h
theorem r19Finds_any(w:World)(b:Nat)(f:Fn)(vv uv sv:Value)(h:FnAt w b f vv uv sv)(hm:fnMay f=0)(gb:Nat)(wv:Value)(vs:List Val)(hV:RowsK Val.enc 5 w gb wv vs)(hl:vs.length≤10000000000)(hvs:∀ x ∈ vs,x.s.size≤10000)(nb:Nat) :
  Calls Tryz.prog 110 #[.agg (f.enc vv uv sv),wv,.int .i64 nb] w fun e w'=>e = .returned (.bool (findsR f vs nb))∧Fr N0 w w':=by
 obtain⟨-,-,-,hv⟩:=fnMay_zero hm
 obtain⟨v1,v2,v3,v4⟩:=valsOk_at hv
 have hsz:∀ x ∈ f.vals,x.s.size≤10000:=fun x hx=>by have:=valMay_size (valsOk_may hv x hx);omega
 have hone:=fun(W:World) (x:Val) (hW:Fr N0 w W) (hx:x ∈ vs)=>(fun hk2 hk11=>r19one_any W b f vv uv sv (h.fr hW) hm hk2 hk11 hsz x (hvs x hx))
 have hV2:=h.vals
 obtain⟨a,off,cap,rfl,g1⟩:=hV
 unfold findsR
 by_cases k2:f.kind=2
 ·rw[if_pos k2]
  obtain⟨kd,pred,back,vals,nu,ns⟩:=f
  simp only at k2
  subst k2
  exact finds_2 w pred back vv uv sv a _ cap nb
 ·rw[if_neg k2]
  by_cases k11:f.kind=11
  ·rw[if_pos k11]
   have h0:0 < f.vals.length:=by have:=v2 k2 (by omega) (by omega);omega
   obtain⟨voff,c,rfl,hc⟩:=row_cellV hV2 h0
   obtain⟨c2,-⟩:=hc 0 h0
   simp only [Nat.zero_mul,Nat.add_zero] at c2
   rw[List.getElem?_eq_getElem h0]
   obtain⟨kd,pred,back,vals,nu,ns⟩:=f
   simp only at k11
   subst k11
   exact finds_11 w pred back uv sv a _ cap nb b voff _ c _ h0 c2
  ·rw[if_neg k11]
   obtain⟨kd,pred,back,vals,nu,ns⟩:=f
   exact finds_any w kd pred back vv uv sv nb gb _ vs ⟨a,off,cap,rfl,g1⟩ hl k2 k11 _ fun W x hW hx=>hone W x hW hx k2 k11
abbrev FrS(B g o:Nat)(fc:Array Value)(u:Int)(w W:World):Prop:=BoxB B fc W∧W.cell? ⟨g,o,none⟩=some (.int .u64 u)∧Fr N0 w W
theorem frS_keep{B g o:Nat}{fc:Array Value}{u:Int}{w W W':World}(h:FrS B g o fc u w W)(hf:Fr N0 W W'):FrS B g o fc u w W':=⟨boxB_keep hf id h.1,hf.cell id h.2.1,h.2.2.then0 hf⟩
abbrev FrP(B p:Nat)(fc pc:Array Value)(w W:World):Prop:=BoxB B fc W∧BoxB p pc W∧Fr N0 w W
theorem frP_keep{B p:Nat}{fc pc:Array Value}{w W W':World}(h:FrP B p fc pc w W)(hf:Fr N0 W W'):FrP B p fc pc w W':=⟨boxB_keep hf id h.1,boxB_keep hf id h.2.1,h.2.2.then0 hf⟩
noncomputable def fndL(p:Int→Bool)(xs:List Int):List Int:=xs.filter p
theorem fndL_yes{p:Int→Bool}{xs:List Int}{i:Nat}(hi:i < xs.length)(h:p xs[i]=true):fndL p (xs.take (i+1))=fndL p (xs.take i) ++ [xs[i]]:=by
 unfold fndL;rw[List.take_succ_eq_append_getElem hi,List.filter_append];simp [h]
theorem fndL_no{p:Int→Bool}{xs:List Int}{i:Nat}(hi:i < xs.length)(h:p xs[i]=false):fndL p (xs.take (i+1))=fndL p (xs.take i):=by
 unfold fndL;rw[List.take_succ_eq_append_getElem hi,List.filter_append];simp [h]
def FindsP(l:PL)(t:Int)(f:Fn)(nbk:Int→Nat)(u:Int):Prop:=(haveAt l t u≠[]∨∃ x,∃ v ∈ haveAt l t x,v.k=4∧v.u=u)∧findsR f (haveAt l t u) (nbk u)=true
theorem r19Find_any(W:World)(R:Nat→Prop)(p:Nat)(l:PL)(N:Nat)(h:IsXL W R p l)(hl:l.AtOk N)(hN:N≤900000000)(hrs:RisesBy Cm.time l.commits)(t:Int)(b:Nat)(f:Fn)(vv uv sv:Value)(hf:FnAt W b f vv uv sv)(nbk:Int→Nat)(hnb:∀ u,∃ bs,BacksAre l t u bs∧nbk u=bs.length) :
  Calls Tryz.prog 42 #[.pointer (some ⟨p,0,none⟩),.agg (f.enc vv uv sv),.int .u64 t] W (FindPost W (fnFits l.s f) (t < l.marked) (FindsP l t f nbk)):=by
 obtain⟨i0,hi,hz0,hz1,hz2⟩:=info_parts ins4_info
 obtain⟨xa,xbc,xoff,xcap,hX⟩:=h.read
 obtain⟨vt,vc,-,hp,-⟩:=h
 have hft:=fun W' (hW:Fr N0 W W')=>r19Fits_any W' l.s b f vv uv sv (hf.fr hW)
 have hal:=fun W' (hW:Fr N0 W W')=>r19All_any W' p l xa xbc xoff xcap N (hX.fr hW) hl hN hrs t
 have hok:=haveAt_ok hl t
 have hva:=fun W' (hW:Fr N0 W W') u=>(xValues_any W' p l xa xbc xoff xcap N (hX.fr hW) hl hN hrs u t).mono fun e w' hh=>(show ∃ v gv,e = .returned v∧RowsK Val.enc 5 w' gv v (haveAt l t u)∧Fr N0 W' w' from by
  obtain⟨v,he,hr,hf2⟩:=hh
  obtain⟨gv,-,hr2⟩:=rowsK_of_row (enc:=Val.enc) (n:=5) (fun _=>rfl) (by decide) hr
  exact⟨v,gv,he,hr2,hf2⟩)
 have hbk:=fun W' (hW:Fr N0 W W') u=>(xbacks_any W' p l xa xbc xoff xcap N (hX.fr hW) hl hN hrs (nodeV u) t).mono fun e w' hh=>(show ∃ a c,e = .returned (.slice a (nbk u) c)∧Fr N0 W' w' from by
  obtain⟨bs,hb1,hb2⟩:=hnb u
  obtain⟨a,c,he,-,hf2⟩:=hh.are hb1.rises hb1.mem
  exact⟨a,c,by rw[hb2];exact he,hf2⟩)
 have hfi:=fun(hm:fnMay f=0) W' (hW:Fr N0 W W') u gv v (hr:RowsK Val.enc 5 W' gv v (haveAt l t u))=>r19Finds_any W' b f vv uv sv (hf.fr hW) hm gv v (haveAt l t u) hr (by have:=hok.len u;omega) (fun x hx=>by have:=valMay_size ((hok.ok u).may x hx).1;omega) (nbk u)
 have hmay:fnFits l.s f=0→fnMay f=0:=fun h0=>by
  unfold fnFits at h0
  by_cases hm:fnMay f=0
  ·exact hm
  ·rw[if_pos hm] at h0;exact absurd h0 hm
 have hq:∀ e w',FindPost W (fnFits l.s f) (t < l.marked) (FindsP l t f nbk) e w'→FindPost W (fnFits l.s f) (t < l.marked) (FindsP l t f nbk) e w':=fun _ _ h=>h
 obtain⟨E,hE⟩:∃ E,fnFits l.s f=E:=⟨_,rfl⟩
 rw[hE] at hmay hq ⊢
 simp only [hE] at hft
 have hdone:E=0→¬ t < l.marked→∀ xs,AllAre l t xs→∀ v w',(∃ base,W.heap.size≤base∧w'.ownsRow base 33 1 v (fndL (fun u=>findsR f (haveAt l t u) (nbk u)) xs).length ((fndL (fun u=>findsR f (haveAt l t u) (nbk u)) xs).map (Value.int .u64)))→Fr N0 W w'→FindPost W E (t < l.marked) (FindsP l t f nbk) (.returned (.tuple #[v,.int .i64 0])) w':=fun h0 hmk xs hxs v w' ⟨base,hb,hr⟩ hfr=>
  ⟨fun h=>absurd h0 h,fun _ h=>absurd h hmk,fun _ _=>⟨v,rfl,v,_,rfl,ownsRow_base hr hb,List.Pairwise.sublist List.filter_sublist hxs.rises,fun u=>by unfold fndL;rw[List.mem_filter,hxs.mem];exact Iff.rfl,hfr⟩⟩
 have hno:E≠0→∀ w',Fr N0 W w'→FindPost W E (t < l.marked) (FindsP l t f nbk) (.returned (.tuple #[.slice none 0 0,.int .i64 E])) w':=fun h0 w' hfr=>⟨fun _=>⟨rfl,hfr⟩,fun h=>absurd h h0,fun h=>absurd h h0⟩
 have hmd:E=0→t < l.marked→∀ w',Fr N0 W w'→FindPost W E (t < l.marked) (FindsP l t f nbk) (.returned (.tuple #[.slice none 0 0,.int .i64 181])) w':=fun h0 hmk w' hfr=>⟨fun h=>absurd h0 h,fun _ _=>⟨rfl,hfr⟩,fun _ h=>absurd hmk h⟩
 obtain⟨Pst,hPst⟩:∃ Pst,FindPost W E (t < l.marked) (FindsP l t f nbk)=Pst:=⟨_,rfl⟩
 rw[hPst] at hdone hno hmd ⊢
 obtain⟨PP,hPP⟩:∃ PP:Int→Bool,(fun u=>findsR f (haveAt l t u) (nbk u))=PP:=⟨_,rfl⟩
 have hPu:∀ u,findsR f (haveAt l t u) (nbk u)=PP u:=fun u=>by rw[← hPP]
 rw[hPP] at hdone
 simp only [hPu] at hfi
 obtain⟨H,hH⟩:∃ H,haveAt l t=H:=⟨_,rfl⟩
 rw[hH] at hva hfi
 obtain⟨mk,hmk⟩:∃ mk,l.marked=mk:=⟨_,rfl⟩
 obtain⟨se,hse⟩:∃ se,l.s=se:=⟨_,rfl⟩
 rw[hmk] at hdone hmd
 rw[hse] at hft
 simp only [hmk,hse] at hp
 have hpl:=lt_of_block hp
 have hf0:Fr N0 W (W.alloc (.cells (f.enc vv uv sv) 94)):=(Fr.refl N0 W).alloc _
 have hbf:=World.alloc_heap_new W (.cells (f.enc vv uv sv) 94)
 have hpf:=(hf0.at (k:=p) id hpl).trans hp
 have hPf:FrP W.heap.size p (f.enc vv uv sv) (#[.string se.pred,.int .u8 se.ty,.bool se.list,.bool se.exact_,.bool se.term,.bool se.order,.bool se.rev,.bool se.count,.int .u64 mk,vt,vc]) W (W.alloc (.cells (f.enc vv uv sv) 94)).drew:=frP_keep (W:=W.alloc (.cells (f.enc vv uv sv) 94)) ⟨⟨(box_cells hbf).1,lt_of_block hbf⟩,⟨(box_cells hpf).1,lt_of_block hpf⟩,hf0⟩ (Fr.refl _ _).drew
 have HFT:=hhd hft;have HAL:=hhd hal;have HVA:=hhd hva;have HBK:=hhd hbk;have HFI:=hhd hfi;have HMAY:=hhd hmay;have HDONE:=hhd hdone;have HNO:=hhd hno;have HMD:=hhd hmd;have HPF:=hhd hPf
 clear hft hal hok hva hbk hfi hmay hq hdone hno hmd hPst hPP hPu hH hmk hse hf0 hbf hpf hPf hX hl hrs hf hnb hE hp
 obtain⟨kd,pred,back,vals,nu,ns⟩:=f
 obtain⟨sp,st,sl,se',sm,so,sr,sc⟩:=se
 simp only [Fn.enc,Sch.enc] at HFT HFI HPF HMAY ⊢
 go_enter Tryz.func42,Tryz.ntmps42
 go_wp2_with fail
 generalize hW1:W.alloc _=W1 at HPF
 try rw[hW1]
 clear hW1
 have hPf:=HPF.out
 go_region_held3 (FrP W.heap.size p #[.int .u8 kd,.string pred,.bool back,vv,uv,sv] #[.string sp,.int .u8 st,.bool sl,.bool se',.bool sm,.bool so,.bool sr,.bool sc,.int .u64 mk,vt,vc] W) (first
  |(with_reducible assumption)
  | fail) (first
  |(go_simp;go_at_call 40;refine(HFT.out _ hPf.2.2).mono ?_;rintro e w3 ⟨rfl,hf3⟩;have hs3:=frP_keep hPf hf3)
  | fail)
 have HS3:=hhd hs3
 clear hs3 hPf HPF
 by_cases hE0:E=0
 ·subst hE0
  have hpc:w3.cell? ⟨p,8,none⟩=some (.int .u64 mk):=HS3.out.2.1.1 8
  have hmy:=HMAY.out rfl
  by_cases htm:t < mk
  ·go_wp2_with fail
   exact HMD.out trivial htm _ HS3.out.2.2
  ·go_wp2_with fail
   refine(HAL.out _ HS3.out.2.2).mono ?_
   rintro e w4 ⟨v4,b4,xs,rfl,hI4,hA4,hxl,hf4⟩
   have HA4:=hhd hA4;have HF4:=hhd (HS3.out.2.2.then0 hf4);have HB4:=hhd (boxB_keep hf4 id HS3.out.1)
   obtain⟨ya,yo,yc,rfl,y1,y2,y3,-,y5,-⟩:=hI4
   obtain⟨n,hn⟩:∃ n,xs.length=n:=⟨_,rfl⟩
   have HN:=hhd hn;have HY5:=hhd y5
   rw[hn] at y1 y3 hxl
   simp only [hn]
   clear hA4 hf4 y5 hn hpc HS3
   go_wp2_with fail
   go_loopw [9,11] (fun ov iv wr=>∃ (i:Nat) (os:List Int),i≤n∧iv = .int .i64 i∧Hid (os=fndL PP (xs.take i))∧Hid (wr.ownsRow w4.heap.size 33 1 ov os.length (os.map (Value.int .u64)))∧Hid (Fr N0 w4 wr)) (fun _ iv _=>n - (intOf iv).toNat)
   case atStart=>exact⟨0,[],Nat.zero_le _,by first | rfl | go_num,hhd (by simp [fndL]),World.ownsRow_nil _ _ _ _,Fr.refl _ _⟩
   case round=>
    obtain⟨i,os,hi',rfl,hos,hrow,hfr⟩:=hrel
    have hosl:os.length≤2000000000:=by
     rw[hos.out];unfold fndL
     have h1:=List.length_filter_le PP (xs.take i)
     rw[List.length_take] at h1
     have:=HN.out
     omega
    by_cases hlt:i < n
    ·obtain rfl:=y3 (by omega)
     have hiu:i < xs.length:=by rw[HN.out];exact hlt
     have cu:=hfr.out.cell id (HY5.out i hiu)
     have hyes:=fndL_yes (p:=PP) hiu
     have hno:=fndL_no (p:=PP) hiu
     obtain⟨u,hu⟩:∃ u,xs[i]=u:=⟨_,rfl⟩
     rw[hu] at cu hyes hno
     have hfw:=HF4.out.then0 hfr.out
     have hS0:FrS W.heap.size b4 (yo+i) #[.int .u8 kd,.string pred,.bool back,vv,uv,sv] u W wr.drew:=frS_keep (W:=wr) ⟨boxB_keep hfr.out id HB4.out,cu,hfw⟩ (Fr.refl _ _).drew
     have hi1:(i:Int) < (n:Int):=by omega
     obtain⟨oa,oc,rfl⟩:=row_form hrow.out
     obtain⟨no,hno'⟩:∃ no,os.length=no:=⟨_,rfl⟩
     have hrw:=hrow.out
     rw[hno'] at hrw hosl
     simp only [hno']
     have HYES:=hhd hyes;have HNOO:=hhd hno;have HOS:=hhd hos.out;have HROW:=hhd hrw;have HFR:=hhd hfr.out;have HN0:=hhd hno'
     clear hyes hno hos hrow hrw hfr hu hno' cu hfw
     go_wp2_with fail
     go_region_held3 (FrS W.heap.size b4 (yo+i) #[.int .u8 kd,.string pred,.bool back,vv,uv,sv] u W) (first
      |(with_reducible assumption)
      | fail) (first
      |(go_simp;go_at_call 90;refine(HVA.out _ hS0.2.2 u).mono ?_;rintro e w5 ⟨v5,gv5,rfl,hr5,hf5⟩;have hs5:=frS_keep hS0 hf5;have hg5:=(Fr.refl N0 wr).drew.then0 hf5)
      |(go_simp;go_at_call 112;refine(r19Node_any _ u).mono ?_;rintro e w6 ⟨rfl,hf6⟩;have hs6:=frS_keep hs5 hf6;have hr6:=RowsK.fr0 (enc:=Val.enc) (n:=5) (fun _=>rfl) hr5 hf6;have hg6:=hg5.then0 hf6)
      |(go_simp;go_at_call 111;refine(HBK.out _ hs6.2.2 u).mono ?_;rintro e w7 ⟨a7,c7,rfl,hf7⟩;have hs7:=frS_keep hs6 hf7;have hr7:=RowsK.fr0 (enc:=Val.enc) (n:=5) (fun _=>rfl) hr6 hf7;have hg7:=hg6.then0 hf7)
      |(go_simp;go_at_call 110;refine(HFI.out hmy _ hs7.2.2 u gv5 v5 hr7).mono ?_;rintro e w8 ⟨rfl,hf8⟩;have hs8:=frS_keep hs7 hf8;have hg8:=hg7.then0 hf8)
      | fail)
     have hcu8:=hs8.2.1
     have HG8:=hhd hg8;have HROW8:=hhd (HROW.out.fr0 hg8);have HFR8:=hhd (HFR.out.then0 hg8)
     have hw8:=HFR8.out.size
     clear hs8 hs7 hs6 hs5 hS0 hr7 hr6 hr5 hf5 hf6 hf7 hf8 hg5 hg6 hg7 hg8
     cases hpu:PP u
     ·have HNX:=hhd (HNOO.out hpu)
      go_wp2_with fail
      go_roundw
      case rel=>exact⟨i+1,os,by omega,by first | rfl | go_num,hhd (by rw[HNX.out,HOS.out]),hhd (by rw[HN0.out];exact HROW8.out),HFR8⟩
      case measure=>simp [intOf] <;> omega
     ·have HNX:=hhd (HYES.out hpu)
      go_wp2_with (at_builtin;go_loud (refine wpList_append_lies _ rfl _ _ 35 rfl (w4.heap.size) 33 i0 (.int .u64 0) 1 8 Tryz.underlying35 hi hz0 hz1 hz2 rfl (by decide) (.slice oa no oc) (no) _ rfl (HROW8.out.alloc _) ⟨w8.heap.size,0,none⟩ 1 1 [.int .u64 u] rfl rfl (World.news_of_block (cs:=#[.int .u64 u]) (t:=33) (fr:=(0,0)) (heap_alloc_new w8 _)) (by simp [Value.oneCell']) (by omega) (by unfold maxLen;omega) (by omega) (by simp;omega) (w8.heap.size+1) (by simp) ?_);intro g1 cap1 w9 hown9 hgrow9 hfresh9 hlt9)
      go_roundw
      case rel=>
       have hfa:Fr N0 w4 w9:=((HFR8.out.alloc _).trans ((Fr.refl (fun q=>(Value.slice oa no oc).ownBlock=some q) _).grown hgrow9 fun q e=>.inl e) fun q hq=>.inr (by have:=(ownsRow_lt HROW8.out q hq).1;omega))
       exact⟨i+1,os ++ [u],by omega,by first | rfl | go_num,hhd (by rw[HNX.out,HOS.out]),hhd (by simp only [List.length_append,List.length_cons,List.length_nil,List.map_append,List.map_cons,List.map_nil,HN0.out];exact hown9),hhd hfa⟩
      case measure=>simp [intOf] <;> omega
    ·obtain rfl:i=n:=by omega
     have hfull:xs.take i=xs:=by rw[← HN.out,List.take_length]
     have hos2:=hos.out
     rw[hfull] at hos2
     have HOS:=hhd hos2;have HROW:=hhd hrow.out;have HFR:=hhd hfr.out
     clear hos hos2 hrow hfr hfull
     have hi1:¬(i:Int) < (i:Int):=by omega
     go_wp2_with fail
     have hr:=HROW.out
     rw[HOS.out] at hr
     exact HDONE.out trivial htm xs HA4.out _ _ ⟨_,HF4.out.size,hr⟩ (HF4.out.then0 HFR.out)
 ·have hE':(E != 0)=true:=by simpa using hE0
  go_wp2_with fail
  exact HNO.out hE0 _ HS3.out.2.2
end
end Go.Proofs.YtefepfiijoafbaaGreat
