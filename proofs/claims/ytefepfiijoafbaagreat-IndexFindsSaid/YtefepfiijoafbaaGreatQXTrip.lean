/- XBack1 XBack2 XTrip1 XTrip -/
import Derived.Deep.RegionHeldLaw
import Derived.Test.YtefepfiijoafbaaGreatQXUids
import Derived.Test.YtefepfiijoafbaaGreatQWhere
import Derived.Test.YtefepfiijoafbaaGreatQLookP
import Derived.Test.YtefepfiijoafbaaGreatQR3SortT
set_option linter.unusedVariables false
set_option linter.unusedSimpArgs false
set_option maxRecDepth 100000
set_option maxHeartbeats 8000000
namespace Go.Proofs.YtefepfiijoafbaaGreat
section
open Go.RowKit Go.Shelf Go.Maps
attribute [local go_sem] Oper.semAt_some
attribute [local irreducible] wpQuiet
noncomputable def bkB(n:Nat):Code:=lvSuf n ((Tryz.f111.body).getD .skip)
noncomputable def bkI:Code:=srIn (lvFst (srSnd (srLoop (srIn (srSnd (srSnd (srIn (lvFst (srSnd (srLoop (srIn (srSnd (lvFst (bkB 3))))))))))))))
noncomputable def bkOne(z y:Val)(u:Int):List Int:=if eqVal z y=true then [u] else []
theorem bkIn{K:Act→World→Prop}{Q:Exit→Act→World→Prop}(W:World)(f:Nat→Value)(base g go ub uo i j nv cv nu cu B:Nat)(y z:Val)(u:Int)(ov:Value)(os:List Int)
  (h4:f 4 = .pointer (some ⟨B,0,none⟩)) (h7:f 7=ov) (h8:f 8 = .slice (some ⟨ub,uo,none⟩) nu cu) (h9:f 9 = .int .i64 i) (h10:f 10 = .slice (some ⟨g,go,none⟩) nv cv) (h11:f 11 = .int .i64 j) (hin:i < nu) (hjn:j < nv)
  (hz:Five g (go+j * 5) z W) (hy:W.heap[B]?=some (.cells y.enc.toArray 57 (0,0))) (hu:W.cell? ⟨ub,uo+i,none⟩=some (.int .u64 u))
  (hr:W.ownsRow base 33 1 ov os.length (os.map (Value.int .u64))) (hb:base≤W.heap.size) (hl:os.length≤10000000000)
  (hK:∀ f' W' ov',KpX [0,1,2,3,4,5,6,8,9,10,11,12,13,14,15,16,17,18,19,20,21,22,23,24,25,26,46] f f'→f' 7=ov'→W'.ownsRow base 33 1 ov' (os ++ bkOne z y u).length ((os ++ bkOne z y u).map (Value.int .u64))→Fr (fun q=>ov.ownBlock=some q) W W'→(∀ q,ov'.ownBlock=some q→ov.ownBlock=some q∨W.heap.size≤q)→K (frA 47 f') W') :
  Code.wp Tryz.prog bkI (Exit.then K Q) (frA 47 f) W:=by
 obtain⟨i0,hi,hz0,hz1,hz2⟩:=info_parts ins4_info
 have key:=val_key z y
 have e1:z=y→bkOne z y u = [u]:=fun e=>by unfold bkOne;rw[if_pos (by simp [eqVal,e])]
 have e2:z≠y→bkOne z y u = []:=fun e=>by unfold bkOne;rw[if_neg (by simp [eqVal,e])]
 obtain⟨G,hG⟩:∃ G,bkOne z y u=G:=⟨_,rfl⟩
 rw[hG] at e1 e2 hK
 obtain⟨c,hc⟩:∃ c,os.length=c:=⟨_,rfl⟩
 have HCC:=hhd hc
 rw[hc] at hr hl
 obtain⟨oa,oc,rfl⟩:=row_form hr
 obtain⟨yk,yb,yn,ys,yu⟩:=y
 obtain⟨zk,zb,zn,zs,zu⟩:=z
 simp only at hz key
 simp only [Val.enc] at hy
 have HK:=hhd hK;have E1:=hhd e1;have E2:=hhd e2;have HR:=hhd hr
 have hin':(i:Int) < (nu:Int):=by omega
 have hjn':(j:Int) < (nv:Int):=by omega
 obtain⟨z0,z1,z2,z3,z4⟩:=hz
 obtain⟨mB,nB,lB⟩:=box_cells hy
 have HKP:Hid ([0,1,2,3,4,5,6,8,9,10,11,12,13,14,15,16,17,18,19,20,21,22,23,24,25,26,46].map f = [f 0,f 1,f 2,f 3,.pointer (some ⟨B,0,none⟩),f 5,f 6,.slice (some ⟨ub,uo,none⟩) nu cu,.int .i64 i,.slice (some ⟨g,go,none⟩) nv cv,.int .i64 j,f 12,f 13,f 14,f 15,f 16,f 17,f 18,f 19,f 20,f 21,f 22,f 23,f 24,f 25,f 26,f 46]):=by
  show[f 0,f 1,f 2,f 3,f 4,f 5,f 6,f 8,f 9,f 10,f 11,f 12,f 13,f 14,f 15,f 16,f 17,f 18,f 19,f 20,f 21,f 22,f 23,f 24,f 25,f 26,f 46]=_
  rw[h4,h8,h9,h10,h11]
 clear hK e1 e2 hG hy hc
 show Code.wp _ _ _ { tmps:=#[f 0,f 1,f 2,f 3,f 4,f 5,f 6,f 7,f 8,f 9,f 10,f 11,f 12,f 13,f 14,f 15,f 16,f 17,f 18,f 19,f 20,f 21,f 22,f 23,f 24,f 25,f 26,f 27,f 28,f 29,f 30,f 31,f 32,f 33,f 34,f 35,f 36,f 37,f 38,f 39,f 40,f 41,f 42,f 43,f 44,f 45,f 46],defers:=[] } _
 rw[h4,h7,h8,h9,h10,h11]
 clear h4 h7 h8 h9 h10 h11
 conv=>arg 2;whnf
 rcases key with e | ⟨hne,key⟩
 ·have hg:=E1.out e
  subst hg
  clear E1 E2
  simp only [Val.mk.injEq] at e
  obtain⟨rfl,rfl,rfl,rfl,rfl⟩:=e
  go_wp2_with fail
  go_quiet (fail)
  obtain⟨wd,hwd⟩:∃ wd,W.drewN nq=wd:=⟨_,rfl⟩
  have hfd:Fr N0 W wd:=by rw[← hwd];exact(Fr.refl N0 W).drewN _
  have hrd:wd.ownsRow base 33 1 (.slice oa c oc) c (os.map (Value.int .u64)):=HR.out.fr0 hfd
  have hud:=hfd.cell id hu
  have hbd:base≤wd.heap.size:=Nat.le_trans hb hfd.size
  rw[hwd]
  clear hwd
  go_wp2_with (at_builtin;go_loud (refine wpList_append_lies _ rfl _ _ 35 rfl (base) 33 i0 (.int .u64 0) 1 8 Tryz.underlying35 hi hz0 hz1 hz2 rfl (by decide) (.slice oa c oc) (c) _ rfl (hrd.alloc _) ⟨wd.heap.size,0,none⟩ 1 1 [.int .u64 u] rfl rfl (World.news_of_block (cs:=#[.int .u64 u]) (t:=33) (fr:=(0,0)) (heap_alloc_new wd _)) (by simp [Value.oneCell']) (by omega) (by unfold maxLen;omega) (by omega) (by simp;omega) (wd.heap.size+1) (by simp) ?_);intro g1 cap1 w3 hown3 hgrow3 hfresh3 hlt3)
  refine cut_use (n:=47) (K:=K) _ rfl ?_
  have hfa:Fr (fun q=>(Value.slice oa c oc).ownBlock=some q) _ w3:=(Fr.refl _ _).grown hgrow3 fun q e=>.inl e
  refine HK.out _ w3 _ (kpX_mk (Eq.trans rfl HKP.out.symm)) rfl ?_ ((((hfd.mono fun _ h=>h.elim:Fr (fun q=>(Value.slice oa c oc).ownBlock=some q) W wd)).alloc _).trans hfa fun q hq=>.inl hq) fun q hq=>?_
  ·rw[List.length_append,List.map_append,HCC.out]
   exact hown3
  ·obtain rfl:g1=q:=Option.some.inj hq
   rcases hfresh3 with e | e
   ·exact .inl e
   ·right;have:=hfd.size;omega
 ·have hg:=E2.out hne
  subst hg
  clear E1 E2 hne
  rcases key with e | ⟨rfl,e⟩ | ⟨rfl,rfl,e⟩ | ⟨rfl,rfl,rfl,e⟩ | ⟨rfl,rfl,rfl,rfl,e⟩
  all_goals
   go_wp2_with fail
   go_quiet (fail)
   go_wp2_with fail
   refine cut_use (n:=47) (K:=K) _ rfl ?_
   refine HK.out _ _ _ (kpX_mk (Eq.trans rfl HKP.out.symm)) rfl ?_ (((Fr.refl N0 W).drewN _).mono fun _ h=>h.elim) (fun q hq=>.inl hq)
   rw[List.append_nil,HCC.out]
   exact HR.out.fr0 ((Fr.refl N0 W).drewN _)
end
section
open Go.RowKit Go.Shelf Go.Maps Go.Sort
attribute [local go_sem] Oper.semAt_some
attribute [local irreducible] wpQuiet
theorem eqVal_swap(x y:Val):eqVal x y=eqVal y x:=by
 unfold eqVal
 by_cases h:x=y
 ·subst h;rfl
 ·have h2:¬ y=x:=fun e=>h e.symm
  simp [h,h2]
noncomputable def bkSome(vs:List Val)(j:Nat)(y:Val)(u:Int):List Int:=if ((vs.take j).any fun z=>eqVal z y)=true then [u] else []
theorem bkSome_succ{vs:List Val}(hr:RisesV vs){j:Nat}(hj:j < vs.length)(y:Val)(u:Int):bkSome vs (j+1) y u=bkSome vs j y u ++ bkOne vs[j] y u:=by
 unfold bkSome bkOne
 rw[List.take_succ_eq_append_getElem hj,List.any_append]
 by_cases h1:((vs.take j).any fun z=>eqVal z y)=true
 ·have hne:¬ eqVal vs[j] y=true:=fun h2=>by
   obtain⟨z,hz,he⟩:=List.any_eq_true.1 h1
   obtain⟨k,hk,ek⟩:=List.mem_iff_getElem.1 hz
   rw[List.length_take] at hk
   rw[List.getElem_take] at ek
   have e1:z=y:=by unfold eqVal at he;simpa using he
   have e2:vs[j]=y:=by unfold eqVal at h2;simpa using h2
   have h3:=rises_at hr (show k < vs.length by omega) hj (by omega)
   rw[ek,e1,e2,vcmp_zero.2 rfl] at h3
   omega
  simp [h1,hne]
 ·have h1':((vs.take j).any fun z=>eqVal z y)=false:=by simpa using h1
  simp [h1']
noncomputable def bkAll(H:Int→List Val)(us:List Int)(y:Val):List Int:=us.filter fun u=>(H u).any (eqVal y)
theorem bkAll_succ{H:Int→List Val}{us:List Int}{i:Nat}(hi:i < us.length)(y:Val):bkAll H (us.take (i+1)) y=bkAll H (us.take i) y ++ bkSome (H us[i]) (H us[i]).length y us[i]:=by
 have e:(fun z=>eqVal z y)=eqVal y:=funext fun z=>eqVal_swap z y
 unfold bkAll bkSome
 rw[List.take_succ_eq_append_getElem hi,List.filter_append,List.take_length,e]
 by_cases h:((H us[i]).any (eqVal y))=true
 ·simp [h]
 ·have h':((H us[i]).any (eqVal y))=false:=by simpa using h
  simp [h']
theorem seq_split{P:Program}{c d:Code}{Q:Exit→Act→World→Prop}{a:Act}{W:World}(h:∀ K:Act→World→Prop,(∀ a w,Code.wp P d Q a w→K a w)→Code.wp P c (Exit.then K Q) a W):Code.wp P (c.seq d) Q a W:=wp_seq (h _ fun _ _ h=>h)
theorem five_frT{T:Nat→Prop}{b off:Nat}{z:Val}{w w':World}(h:Five b off z w)(hf:Fr T w w')(hn:¬ T b):Five b off z w':=⟨hf.cell hn h.1,hf.cell hn h.2.1,hf.cell hn h.2.2.1,hf.cell hn h.2.2.2.1,hf.cell hn h.2.2.2.2⟩
theorem xbacks_any(W:World)(p:Nat)(l:PL)(a:Option Addr)(bc off cap N:Nat)(h:XRead W p l a bc off cap)(hl:l.AtOk N)(hN:N≤900000000)(hrs:RisesBy Cm.time l.commits)(y:Val)(t:Int) :
  Calls Tryz.prog 111 #[.pointer (some ⟨p,0,none⟩),.agg y.enc.toArray,.int .u64 t] W (NewInts W fun u=>(haveAt l t u).any (eqVal y)=true):=by
 have hu:=fun W' (hf:Fr N0 W W')=>xuids_any W' p l a bc off cap N (h.fr hf) hl hN
 have hv:=fun W' (hf:Fr N0 W W') u=>xValues_any W' p l a bc off cap N (h.fr hf) hl hN hrs u t
 have hok:=haveAt_ok hl t
 obtain⟨u1,u2,u3⟩:=uidsW_all (wsOf l.commits)
 have hin:∀ u,(haveAt l t u).any (eqVal y)=true→u ∈ uidsW (wsOf l.commits):=fun u hP=>by
  have hne:haveAt l t u≠[]:=fun e=>by rw[e] at hP;simp at hP
  unfold haveAt at hne
  split at hne
  ·exact absurd rfl hne
  ·have h1:=haveOf_mem _ _ u hne
   obtain⟨x,hx,e⟩:=List.mem_map.1 h1
   refine(u2 u).2 ⟨x,?_,e⟩
   obtain⟨c,hc,hx2⟩:=List.mem_flatMap.1 hx
   exact List.mem_flatMap.2 ⟨c,(List.takeWhile_sublist _).subset hc,hx2⟩
 obtain⟨us,hus⟩:∃ us,uidsW (wsOf l.commits)=us:=⟨_,rfl⟩
 obtain⟨H,hH⟩:∃ H,haveAt l t=H:=⟨_,rfl⟩
 rw[hus] at u1 u3 hin
 simp only [hus] at hu
 have hHu:∀ u,haveAt l t u=H u:=fun u=>by rw[hH]
 rw[hH] at hok
 simp only [hHu] at hv hin ⊢
 obtain⟨i0,hi,hz0,hz1,hz2⟩:=info_parts ins4_info
 obtain⟨w0,hw0⟩:∃ w0,W.alloc (.cells y.enc.toArray 57)=w0:=⟨_,rfl⟩
 have hf0:Fr N0 W w0:=by rw[← hw0];exact(Fr.refl _ _).alloc _
 have hb0:w0.heap[W.heap.size]?=some (.cells y.enc.toArray 57 (0,0)):=by rw[← hw0];exact World.alloc_heap_new W _
 have husl:us.length≤900000000:=by have:=hl.len;omega
 have HU:=hhd hu;have HV:=hhd hv;have HOK:=hhd hok;have HF0:=hhd hf0;have HB0:=hhd hb0
 have HFIN:=hhd (show RisesBy id (bkAll H us y)∧(∀ u,u ∈ bkAll H us y↔(H u).any (eqVal y)=true) from⟨List.Pairwise.sublist List.filter_sublist u1,fun u=>by unfold bkAll;rw[List.mem_filter];exact⟨fun h=>h.2,fun h=>⟨hin u h,h⟩⟩⟩)
 obtain⟨Pst,hPst⟩:∃ Pst,NewInts W (fun u=>(H u).any (eqVal y)=true)=Pst:=⟨_,rfl⟩
 have hpost:∀ v w',(∃ base,W.heap.size≤base∧w'.ownsRow base 33 1 v (bkAll H us y).length ((bkAll H us y).map (Value.int .u64)))→Fr N0 W w'→Pst (.returned v) w':=fun v w' ⟨base,hb,hr⟩ hf=>by
  rw[← hPst]
  exact⟨v,_,rfl,ownsRow_base hr hb,HFIN.out.1,HFIN.out.2,hf⟩
 rw[hPst]
 have HPOST:=hhd hpost
 obtain⟨ye,hye⟩:∃ ye,y=ye:=⟨_,rfl⟩
 rw[hye] at HPOST HFIN
 clear hu hv hok hf0 hb0 hin hus hH hHu h hl hrs u1 u2 u3 hPst hpost HFIN
 have HYE:=hhd hye
 obtain⟨yk,yb,yn,ys,yu⟩:=y
 clear hye
 simp only [Val.enc] at HB0 hw0 ⊢
 go_enter Tryz.func111,Tryz.ntmps111
 go_wp2_with fail
 try rw[hw0]
 clear hw0
 refine(HU.out _ HF0.out).mono ?_
 rintro e w1 ⟨v1,b1,rfl,⟨ua,uo,uc,rfl,r1,r2,r3,-,r5,-⟩,hf1⟩
 obtain⟨nu,hnu⟩:∃ nu,us.length=nu:=⟨_,rfl⟩
 have HNU:=hhd hnu
 have hl0:=lt_of_block HB0.out
 have HB1:=hhd ((hf1.at (k:=W.heap.size) id hl0).trans HB0.out)
 have HF1:=hhd (HF0.out.then0 hf1);have HR5:=hhd r5
 rw[hnu] at r1 r3 husl
 simp only [hnu]
 have hl1:=lt_of_block HB1.out
 clear hf1 r5 hnu HB0 HF0 HU
 go_wp2_with fail
 go_loopw [7,9] (fun ov iv wr=>∃ (i:Nat) (os:List Int),i≤nu∧iv = .int .i64 i∧Hid (os=bkAll H (us.take i) ye)∧Hid (wr.ownsRow w1.heap.size 33 1 ov os.length (os.map (Value.int .u64)))∧Hid (Fr (fun q=>w1.heap.size≤q) w1 wr)) (fun _ iv _=>nu - (intOf iv).toNat)
 case atStart=>exact⟨0,[],Nat.zero_le _,rfl,hhd (by simp [bkAll]),World.ownsRow_nil _ _ _ _,Fr.refl _ _⟩
 case round=>
  obtain⟨i,os,hi',rfl,hos,hrow,hfr⟩:=hrel
  have hosl:os.length≤900000000:=by
   rw[hos.out];unfold bkAll
   have h1:=List.length_filter_le (fun u=>(H u).any (eqVal ye)) (us.take i)
   rw[List.length_take] at h1
   have:=HNU.out
   omega
  by_cases hlt:i < nu
  ·obtain rfl:=r3 (by omega)
   have hiu:i < us.length:=by rw[HNU.out];exact hlt
   have cu:=HR5.out i hiu
   have hub:b1 < w1.heap.size:=lt_of_cell cu
   have cur:=hfr.out.cell (p:=⟨b1,uo+i,none⟩) (fun h=>by have:w1.heap.size≤b1:=h;omega) cu
   have hsucc:=bkAll_succ (H:=H) hiu ye
   obtain⟨u,hu⟩:∃ u,us[i]=u:=⟨_,rfl⟩
   rw[hu] at cur hsucc cu
   have hfw:=HF1.out.then0 (fr_ge hfr.out (Nat.le_refl _))
   have hcall:=HV.out _ hfw u
   have hvok:=HOK.out.ok u
   have hi1:(i:Int) < (nu:Int):=by omega
   have HCALL:=hhd hcall;have HVOK:=hhd hvok;have HSUC:=hhd hsucc;have HOS:=hhd hos.out;have HROW:=hhd hrow.out;have HFR:=hhd hfr.out;have CU:=hhd cu;have HFW:=hhd hfw
   clear hcall hvok hsucc hos hrow hfr hu cu hfw
   go_wp2_with fail
   refine HCALL.out.mono ?_
   rintro e w3 ⟨v3,rfl,hV3,hf3⟩
   obtain⟨g,hg,hrk⟩:=hV3.toRows
   obtain⟨va,go,vc,rfl,s1,s2,s3,-,s5⟩:=hrk
   obtain⟨nv,hnv⟩:∃ nv,(H u).length=nv:=⟨_,rfl⟩
   have HNV:=hhd hnv;have HS5:=hhd s5;have HF3:=hhd hf3
   have hF13:=HFR.out.then0 hf3
   have HF13:=hhd hF13
   have HROW3:=hhd (ownsRow_fr HROW.out hf3 fun _ _ h=>h)
   rw[hnv] at s1 s3
   simp only [hnv]
   have hz13:=hF13.size
   clear s5 hnv hf3 hF13 hV3 cur
   go_wp2_with fail
   go_loopw [7,11] (fun ov jv w4=>∃ (j:Nat) (os2:List Int),j≤nv∧jv = .int .i64 j∧Hid (os2=os ++ bkSome (H u) j ye u)∧Hid (w4.ownsRow w1.heap.size 33 1 ov os2.length (os2.map (Value.int .u64)))∧Hid (ov.ownBlock≠some g)∧Hid (Fr (fun q=>w1.heap.size≤q) w1 w4)∧Hid (∀ (k:Nat) (hk:k < (H u).length),Five g (go+k * 5) (H u)[k] w4)) (fun _ jv _=>nv - (intOf jv).toNat)
   case atStart=>exact⟨0,os,Nat.zero_le _,by first | rfl | go_num,hhd (by simp [bkSome]),HROW3.out,hhd (fun e=>by have:=(ownsRow_lt HROW.out _ e).2;omega),HF13.out,hhd fun k hk=>⟨HS5.out k hk 0 (by decide),HS5.out k hk 1 (by decide),HS5.out k hk 2 (by decide),HS5.out k hk 3 (by decide),HS5.out k hk 4 (by decide)⟩⟩
   case round=>
    obtain⟨j,os2,hj',rfl,hos2,hrow2,hne2,hfr2,hfive⟩:=hrel
    have hos2l:os2.length≤1000000000:=by
     rw[hos2.out,List.length_append];unfold bkSome
     split <;> simp <;> omega
    by_cases hjlt:j < nv
    ·obtain rfl:=s3 (by omega)
     have hju:j < (H u).length:=by rw[HNV.out];exact hjlt
     have hsuc2:=bkSome_succ HVOK.out.rises hju ye u
     have hz:=hfive.out j hju
     have hb4:Fr N0 w1 wr:=fr_ge hfr2.out (Nat.le_refl _)
     have hB4:=(hb4.at (k:=W.heap.size) id hl1).trans HB1.out
     rw[← HYE.out] at hsuc2
     have hcu:=hfr2.out.cell (p:=⟨b1,uo+i,none⟩) (fun h=>by have:w1.heap.size≤b1:=h;omega) CU.out
     have HB4:=hhd hB4;have HCU:=hhd hcu;have HZ:=hhd hz;have HSUC2:=hhd hsuc2;have HROW2:=hhd hrow2.out;have HFR2:=hhd hfr2.out;have HFIVE:=hhd hfive.out;have HOS2:=hhd hos2.out;have HNE2:=hhd hne2.out
     have hgl:g < wr.heap.size:=lt_of_cell HZ.out.1
     clear hB4 hcu hz hsuc2 hrow2 hne2 hfr2 hfive hos2 hb4
     have hj1:(j:Int) < (nv:Int):=by omega
     refine seq_split fun K1 hK1=>?_
     have HK1:=hhd hK1
     clear hK1
     go_wp2_with fail
     refine HK1.out _ _ ?_
     refine seq_split fun Kc hKc=>?_
     refine wp_block ?_
     refine wp_frA (n:=47) _ rfl ?_
     refine wp_inBS (bkIn (K:=Kc) _ _ w1.heap.size g go b1 uo i j nv vc nu uc W.heap.size ⟨yk,yb,yn,ys,yu⟩ (H u)[j] u u7 os2 rfl rfl rfl rfl rfl rfl hlt hjlt HZ.out HB4.out HCU.out HROW2.out HFR2.out.size (by omega) fun f' W' ov' kp e7 hP hF hN=>?_)
     refine hKc _ _ ?_
     have z0:=kp 0 (by decide);have z1:=kp 1 (by decide);have z2:=kp 2 (by decide);have z3:=kp 3 (by decide);have z4:=kp 4 (by decide);have z5:=kp 5 (by decide);have z6:=kp 6 (by decide);have z8:=kp 8 (by decide);have z9:=kp 9 (by decide);have z10:=kp 10 (by decide);have z11:=kp 11 (by decide);have z12:=kp 12 (by decide);have z13:=kp 13 (by decide);have z14:=kp 14 (by decide);have z15:=kp 15 (by decide);have z16:=kp 16 (by decide);have z17:=kp 17 (by decide);have z18:=kp 18 (by decide);have z19:=kp 19 (by decide);have z20:=kp 20 (by decide);have z21:=kp 21 (by decide);have z22:=kp 22 (by decide);have z23:=kp 23 (by decide);have z24:=kp 24 (by decide);have z25:=kp 25 (by decide);have z26:=kp 26 (by decide);have z46:=kp 46 (by decide)
     have HP:=hhd hP;have HF:=hhd hF;have HN:=hhd hN
     clear kp hP hF hN hKc
     obtain⟨f,hf⟩:∃ f,f=f':=⟨_,rfl⟩
     subst hf
     show Code.wp _ _ _ { tmps:=#[f 0,f 1,f 2,f 3,f 4,f 5,f 6,f 7,f 8,f 9,f 10,f 11,f 12,f 13,f 14,f 15,f 16,f 17,f 18,f 19,f 20,f 21,f 22,f 23,f 24,f 25,f 26,f 27,f 28,f 29,f 30,f 31,f 32,f 33,f 34,f 35,f 36,f 37,f 38,f 39,f 40,f 41,f 42,f 43,f 44,f 45,f 46],defers:=[] } _
     rw[z0,z1,z2,z3,z4,z5,z6,e7,z8,z9,z10,z11,z12,z13,z14,z15,z16,z17,z18,z19,z20,z21,z22,z23,z24,z25,z26,z46]
     clear z0 z1 z2 z3 z4 z5 z6 e7 z8 z9 z10 z11 z12 z13 z14 z15 z16 z17 z18 z19 z20 z21 z22 z23 z24 z25 z26 z46
     go_wp2_with fail
     exact⟨⟨j+1,os2 ++ bkOne (H u)[j] _ u,by omega,by first | rfl | go_num,hhd (by rw[HOS2.out,← HYE.out,HSUC2.out,List.append_assoc]),hhd HP.out,hhd (fun e=>(HN.out _ e).elim HNE2.out fun h=>by omega),hhd (HFR2.out.trans HF.out fun q hq=>.inl (ownsRow_lt HROW2.out _ hq).1),hhd fun k hk=>five_frT (HFIVE.out k hk) HF.out HNE2.out⟩,by simp [intOf];omega⟩
    ·obtain rfl:j=nv:=by omega
     have hos3:os2=bkAll H (us.take (i+1)) ye:=by rw[hos2.out,HSUC.out,HOS.out,HNV.out]
     have HOS3:=hhd hos3;have HROW2:=hhd hrow2.out;have HFR2:=hhd hfr2.out
     clear hos2 hos3 hrow2 hne2 hfr2 hfive
     have hj1:¬(j:Int) < (j:Int):=by omega
     go_wp2
     go_roundw
     case rel=>exact⟨i+1,os2,by omega,by first | rfl | go_num,HOS3,HROW2,HFR2⟩
     case measure=>simp [intOf];omega
  ·obtain rfl:i=nu:=by omega
   have hfull:us.take i=us:=by rw[← HNU.out,List.take_length]
   have hos2:=hos.out
   rw[hfull] at hos2
   have HOS:=hhd hos2;have HROW:=hhd hrow.out;have HFR:=hhd hfr.out
   clear hos hos2 hrow hfr hfull
   have hi1:¬(i:Int) < (i:Int):=by omega
   go_wp2_with fail
   have hr:=HROW.out
   rw[HOS.out] at hr
   exact HPOST.out _ _ ⟨_,HF1.out.size,hr⟩ (HF1.out.then0 (fr_ge HFR.out (Nat.le_refl _)))
end
section
open Go.RowKit Go.Shelf Go.Maps
attribute [local go_sem] Oper.semAt_some
attribute [local irreducible] wpQuiet
abbrev zeroTr:Value:=.agg #[.int .u64 0,.string ⟨#[]⟩,.int .u8 0,.bool false,.int .i64 0,.string ⟨#[]⟩,.int .u64 0]
theorem infoTr:(Tryz.prog.info? 59).map (fun i=>(i.zero,i.size,i.bytes))=some (some zeroTr,7,64):=by kernel_rfl
def trE(q:ByteArray)(x:Int × Val):List Value:=[.int .u64 x.1,.string q,.int .u8 x.2.k,.bool x.2.b,.int .i64 x.2.n,.string x.2.s,.int .u64 x.2.u]
theorem trE_len(q:ByteArray)(x:Int × Val):(trE q x).length=7:=rfl
noncomputable def tpB(n:Nat):Code:=lvSuf n ((Tryz.f139.body).getD .skip)
noncomputable def tpI:Code:=srIn (lvFst (srSnd (srLoop (srIn (srSnd (srSnd (srIn (lvFst (srSnd (srLoop (srIn (srSnd (lvFst (tpB 3))))))))))))))
abbrev TpH(p ub uo g q:Nat)(pr:ByteArray)(u:Int)(y:Val)(W:World):Prop:=
 W.cell? ⟨p,0,none⟩=some (.string pr)∧W.cell? ⟨ub,uo,none⟩=some (.int .u64 u) ∧
 W.cell? ⟨g,q,none⟩=some (.int .u8 y.k)∧W.cell? ⟨g,q+1,none⟩=some (.bool y.b)∧W.cell? ⟨g,q+2,none⟩=some (.int .i64 y.n)∧W.cell? ⟨g,q+3,none⟩=some (.string y.s)∧W.cell? ⟨g,q+4,none⟩=some (.int .u64 y.u)
theorem tph_fr{T:Nat→Prop}{p ub uo g q:Nat}{pr:ByteArray}{u:Int}{y:Val}{W W':World}(hf:Fr T W W')(n1:¬ T p)(n2:¬ T ub)(n3:¬ T g)(h:TpH p ub uo g q pr u y W):TpH p ub uo g q pr u y W':=by
 obtain⟨h1,h2,h3,h4,h5,h6,h7⟩:=h
 exact⟨hf.cell n1 h1,hf.cell n2 h2,hf.cell n3 h3,hf.cell n3 h4,hf.cell n3 h5,hf.cell n3 h6,hf.cell n3 h7⟩
theorem tpIn{K:Act→World→Prop}{Q:Exit→Act→World→Prop}(W:World)(f:Nat→Value)(p base g go ub uo i j nv cv nu cu c oc:Nat)(oa:Option Addr)(pr:ByteArray)(y:Val)(u:Int)(cells:List Value)
  (h0:f 0 = .pointer (some ⟨p,0,none⟩)) (h5:f 5 = .slice oa c oc) (h6:f 6 = .slice (some ⟨ub,uo,none⟩) nu cu) (h7:f 7 = .int .i64 i) (h8:f 8 = .slice (some ⟨g,go,none⟩) nv cv) (h9:f 9 = .int .i64 j) (hin:i < nu) (hjn:j < nv)
  (hx:TpH p ub (uo+i) g (go+j * 5) pr u y W) (hr:W.ownsRow base 59 7 (.slice oa c oc) c cells) (hb:base≤W.heap.size) (hl:c≤10000000000)
  (n1:(Value.slice oa c oc).ownBlock≠some p) (n2:(Value.slice oa c oc).ownBlock≠some ub) (n3:(Value.slice oa c oc).ownBlock≠some g)
  (hK:∀ f' W' oa' oc',KpX [0,1,2,3,4,6,7,8,9,10,11,12,13,14,15,16,17,18,19,20,21,22,23,24,25,26,27,28,48] f f'→f' 5 = .slice oa' (c+1) oc'→W'.ownsRow base 59 7 (.slice oa' (c+1) oc') (c+1) (cells ++ trE pr (u,y))→Fr (fun q=>(Value.slice oa c oc).ownBlock=some q) W W'→(∀ q,(Value.slice oa' (c+1) oc').ownBlock=some q→(Value.slice oa c oc).ownBlock=some q∨W.heap.size≤q)→K (frA 49 f') W') :
  Code.wp Tryz.prog tpI (Exit.then K Q) (frA 49 f) W:=by
 obtain⟨i0,hi,hz0,hz1,hz2⟩:=info_parts infoTr
 obtain⟨yk,yb,yn,ys,yu⟩:=y
 simp only [trE] at hK
 have HK:=hhd hK
 have HX:=hhd (tph_fr (Fr.refl N0 W).drew id id id hx)
 have HR:=hhd hr
 obtain⟨e1,e2,e3,e4,e5,e6,e7⟩:=hx
 have hi1:(i:Int) < (nu:Int):=by omega
 have hj1:(j:Int) < (nv:Int):=by omega
 have hi0:(0:Int)≤(i:Int):=by omega
 have hj0:(0:Int)≤(j:Int):=by omega
 have HKP:Hid ([0,1,2,3,4,6,7,8,9,10,11,12,13,14,15,16,17,18,19,20,21,22,23,24,25,26,27,28,48].map f = [.pointer (some ⟨p,0,none⟩),f 1,f 2,f 3,f 4,.slice (some ⟨ub,uo,none⟩) nu cu,.int .i64 i,.slice (some ⟨g,go,none⟩) nv cv,.int .i64 j,f 10,f 11,f 12,f 13,f 14,f 15,f 16,f 17,f 18,f 19,f 20,f 21,f 22,f 23,f 24,f 25,f 26,f 27,f 28,f 48]):=by
  show[f 0,f 1,f 2,f 3,f 4,f 6,f 7,f 8,f 9,f 10,f 11,f 12,f 13,f 14,f 15,f 16,f 17,f 18,f 19,f 20,f 21,f 22,f 23,f 24,f 25,f 26,f 27,f 28,f 48]=_
  rw[h0,h6,h7,h8,h9]
 have N1:=hhd n1;have N2:=hhd n2;have N3:=hhd n3
 clear hK hr n1 n2 n3
 show Code.wp _ _ _ { tmps:=#[f 0,f 1,f 2,f 3,f 4,f 5,f 6,f 7,f 8,f 9,f 10,f 11,f 12,f 13,f 14,f 15,f 16,f 17,f 18,f 19,f 20,f 21,f 22,f 23,f 24,f 25,f 26,f 27,f 28,f 29,f 30,f 31,f 32,f 33,f 34,f 35,f 36,f 37,f 38,f 39,f 40,f 41,f 42,f 43,f 44,f 45,f 46,f 47,f 48],defers:=[] } _
 rw[h0,h5,h6,h7,h8,h9]
 clear h0 h5 h6 h7 h8 h9
 conv=>arg 2;whnf
 refine wp_plainQ ?_
 go_region_held_law (TpH p ub (uo+i) g (go+j * 5) pr u ⟨yk,yb,yn,ys,yu⟩) (first
  |(with_reducible assumption)
  |(with_reducible exact HX.out)
  |(with_reducible exact tph_fr ((Fr.refl N0 _).alloc _) id id id (by assumption))
  |(with_reducible exact tph_fr ((Fr.refl N0 _).alloc _) id id id HX.out)
  |(with_reducible exact hx3)
  | fail) (((refine step_append_lies _ (by rfl) _ _ 215 (by rfl) base 59 i0 zeroTr 7 64 Tryz.underlying215 hi hz0 hz1 hz2 rfl (by decide) (.slice oa c oc) c cells (by rfl) ((HR.out.fr0 (Fr.refl N0 W).drew).alloc _) ⟨W.heap.size,0,none⟩ 1 1 [.int .u64 u,.string pr,.int .u8 yk,.bool yb,.int .i64 yn,.string ys,.int .u64 yu] (by rfl) rfl (World.news_of_block (cs:=#[.int .u64 u,.string pr,.int .u8 yk,.bool yb,.int .i64 yn,.string ys,.int .u64 yu]) (t:=59) (fr:=(0,0)) (heap_alloc_new W.drew _)) (by simp [Value.oneCell']) (by omega) (by unfold maxLen;omega) (by omega) (Nat.le_trans hb (Nat.le_trans (Nat.le_succ _) (Nat.le_of_eq (World.size_alloc W _).symm))) (W.heap.size+1) (World.size_alloc W _) ?_;intro g1 cap1 w3 hown3 hgrow3 hfresh3 hlt3;have hfa:Fr (fun q=>(Value.slice oa c oc).ownBlock=some q) _ w3:=(Fr.refl _ _).grown hgrow3 fun q e=>.inl e;have hx3:=tph_fr hfa N1.out N2.out N3.out (tph_fr ((Fr.refl N0 W.drew).alloc (.cells #[.int .u64 u,.string pr,.int .u8 yk,.bool yb,.int .i64 yn,.string ys,.int .u64 yu] 59)) id id id HX.out))))
 all_goals
  have hfw:Fr (fun q=>(Value.slice oa c oc).ownBlock=some q) W w3:=((((Fr.refl N0 W).alloc (.cells #[.int .u64 u,.string pr,.int .u8 yk,.bool yb,.int .i64 yn,.string ys,.int .u64 yu] 59)).drew).mono fun _ h=>h.elim).trans hfa fun q hq=>.inl hq
  refine cut_use (n:=49) (K:=K) _ rfl ?_
  exact HK.out _ _ _ _ (kpX_mk (Eq.trans rfl HKP.out.symm)) rfl hown3 hfw fun q hq=>by
   obtain rfl:g1=q:=Option.some.inj hq
   rcases hfresh3 with e | e
   ·exact .inl e
   ·right;omega
end
section
open Go.RowKit Go.Shelf Go.Maps Go.Sort
attribute [local go_sem] Oper.semAt_some
attribute [local irreducible] wpQuiet
theorem tp_snoc{q:ByteArray}{L:List (Int × Val)}(x:Int × Val):L.flatMap (trE q) ++ trE q x=(L ++ [x]).flatMap (trE q):=by simp
theorem xtriples_any(W:World)(p:Nat)(l:PL)(a:Option Addr)(bc off cap N:Nat)(h:XRead W p l a bc off cap)(hl:l.AtOk N)(hN:N≤900000000)(hrs:RisesBy Cm.time l.commits)(t:Int)(ks:List Int)(hks:NodesOf (haveAt l t) ks) :
  Calls Tryz.prog 139 #[.pointer (some ⟨p,0,none⟩),.int .u64 t] W fun e w'=>∃ v',e = .returned v'∧w'.ownsRow W.heap.size 59 7 v' (trsOf (haveAt l t) ks).length ((trsOf (haveAt l t) ks).flatMap (trE l.s.pred))∧Fr N0 W w':=by
 have hu:=fun W' (hf:Fr N0 W W')=>xuids_any W' p l a bc off cap N (h.fr hf) hl hN
 have hv:=fun W' (hf:Fr N0 W W') u=>xValues_any W' p l a bc off cap N (h.fr hf) hl hN hrs u t
 have hpc:=fun W' (hf:Fr N0 W W')=>hf.cell id h.pred
 have hpl:p < W.heap.size:=lt_of_cell h.pred
 obtain⟨u1,u2,u3⟩:=uidsW_all (wsOf l.commits)
 have hin:∀ u,haveAt l t u≠[]→u ∈ uidsW (wsOf l.commits):=fun u hne=>by
  unfold haveAt at hne
  split at hne
  ·exact absurd rfl hne
  ·have h1:=haveOf_mem _ _ u hne
   obtain⟨x,hx,e⟩:=List.mem_map.1 h1
   refine(u2 u).2 ⟨x,?_,e⟩
   obtain⟨c,hc,hx2⟩:=List.mem_flatMap.1 hx
   exact List.mem_flatMap.2 ⟨c,(List.takeWhile_sublist _).subset hc,hx2⟩
 have hfin:=trsOf_nodes u1 hks hin
 have htl:=trsOf_len hl t u1
 rw[← hfin]
 obtain⟨us,hus⟩:∃ us,uidsW (wsOf l.commits)=us:=⟨_,rfl⟩
 obtain⟨H,hH⟩:∃ H,haveAt l t=H:=⟨_,rfl⟩
 obtain⟨pr,hpr⟩:∃ pr,l.s.pred=pr:=⟨_,rfl⟩
 simp only [hus] at hu
 have hHu:∀ u,haveAt l t u=H u:=fun u=>by rw[hH]
 simp only [hHu] at hv
 rw[hus,hH] at htl
 rw[hus,hH,hpr]
 simp only [hpr] at hpc
 have hpre:=fun(i:Nat) (hi:i < us.length) (j:Nat) (hj:j < (H us[i]).length)=>(trsOf_pre (H:=H) hi hj).length_le
 have hHl:∀ i (hi:i < us.length),(H us[i]).length≤N:=fun i hi=>by rw[← hH];exact(haveAt_ok hl t).len _
 have husl:us.length≤900000000:=by have:=hl.len;rw[← hus];omega
 have HU:=hhd hu;have HV:=hhd hv;have HPC:=hhd hpc;have HPRE:=hhd hpre;have HHL:=hhd hHl
 obtain⟨T,hT⟩:∃ T,trsOf H us=T:=⟨_,rfl⟩
 rw[hT] at htl
 rw[hT] at HPRE
 obtain⟨Pst,hPst⟩:∃ Pst:Ending→World→Prop,(fun e w'=>∃ v',e = .returned v'∧w'.ownsRow W.heap.size 59 7 v' (trsOf H us).length ((trsOf H us).flatMap (trE pr))∧Fr N0 W w')=Pst:=⟨_,rfl⟩
 have hpost:∀ v w' (c:Nat) base,W.heap.size≤base→c=(trsOf H us).length→w'.ownsRow base 59 7 v c ((trsOf H us).flatMap (trE pr))→Fr N0 W w'→Pst (.returned v) w':=fun v w' c base hb hc hr hf=>by
  rw[← hPst]
  subst hc
  exact⟨v,rfl,ownsRow_base hr hb,hf⟩
 rw[hPst]
 have HPOST:=hhd hpost;have HT:=hhd hT
 clear hu hv hin hus hH hHu h hl hrs u1 u2 u3 hPst hpost hpc hpre hHl hfin hks hpr hT
 go_enter Tryz.func139,Tryz.ntmps139
 go_wp2_with fail
 refine(HU.out _ (Fr.refl _ _)).mono ?_
 rintro e w1 ⟨v1,b1,rfl,⟨ua,uo,uc,rfl,r1,r2,r3,-,r5,-⟩,hf1⟩
 obtain⟨nu,hnu⟩:∃ nu,us.length=nu:=⟨_,rfl⟩
 have HNU:=hhd hnu
 have HF1:=hhd hf1;have HR5:=hhd r5
 rw[hnu] at r1 r3 husl
 simp only [hnu]
 have hl1:p < w1.heap.size:=Nat.lt_of_lt_of_le hpl hf1.size
 clear hf1 r5 hnu HU
 go_wp2_with fail
 go_loopw [5,7] (fun ov iv wr=>∃ (i c:Nat) (os:List (Int × Val)),i≤nu∧iv = .int .i64 i∧Hid (os=trsOf H (us.take i))∧Hid (c=os.length)∧Hid (wr.ownsRow w1.heap.size 59 7 ov c (os.flatMap (trE pr)))∧Hid (Fr (fun q=>w1.heap.size≤q) w1 wr)) (fun _ iv _=>nu - (intOf iv).toNat)
 case atStart=>exact⟨0,0,[],Nat.zero_le _,rfl,hhd (by simp [trsOf]),hhd rfl,World.ownsRow_nil _ _ _ _,Fr.refl _ _⟩
 case round=>
  obtain⟨i,c,os,hi',rfl,hos,hcl,hrow,hfr⟩:=hrel
  by_cases hlt:i < nu
  ·obtain rfl:=r3 (by omega)
   have hiu:i < us.length:=by rw[HNU.out];exact hlt
   have cu:=HR5.out i hiu
   have hub:b1 < w1.heap.size:=lt_of_cell cu
   have hsucc:=trsOf_take_succ (H:=H) hiu
   have hpre:=HPRE.out i hiu
   have hHl:=HHL.out i hiu
   obtain⟨u,hu⟩:∃ u,us[i]=u:=⟨_,rfl⟩
   have cur:=hfr.out.cell (p:=⟨b1,uo+i,none⟩) (fun h=>by have:w1.heap.size≤b1:=h;omega) cu
   simp only [hu] at cur hsucc cu hpre hHl
   rw[← hos.out] at hsucc
   have hpre2:∀ j,j < (H u).length→os.length+j+1≤T.length:=fun j hj=>by
    have:=hpre j hj
    simp only [List.length_append,List.length_map,List.length_take,List.length_cons,List.length_nil] at this
    rw[hos.out]
    omega
   have hfw:=HF1.out.then0 (fr_ge hfr.out (Nat.le_refl _))
   have hcall:=HV.out _ hfw u
   have hi1:(i:Int) < (nu:Int):=by omega
   have HCALL:=hhd hcall;have HSUC:=hhd hsucc;have HROW:=hhd hrow.out;have HFR:=hhd hfr.out;have CU:=hhd cu;have HFW:=hhd hfw;have HPR2:=hhd hpre2
   have HCL:=hhd hcl.out
   clear hcall hsucc hos hrow hfr hu cu hfw hpre hpre2 hcl
   go_wp2_with fail
   refine HCALL.out.mono ?_
   rintro e w3 ⟨v3,rfl,hV3,hf3⟩
   obtain⟨g,hg,hrk⟩:=hV3.toRows
   obtain⟨va,go,vc,rfl,s1,s2,s3,-,s5⟩:=hrk
   obtain⟨nv,hnv⟩:∃ nv,(H u).length=nv:=⟨_,rfl⟩
   have HNV:=hhd hnv;have HS5:=hhd s5;have HF3:=hhd hf3
   have hF13:=HFR.out.then0 hf3
   have HF13:=hhd hF13
   have HROW3:=hhd (ownsRow_fr HROW.out hf3 fun _ _ h=>h)
   rw[hnv] at s1 s3 hHl
   simp only [hnv]
   have hz13:=hF13.size
   clear s5 hnv hf3 hF13 hV3 cur
   go_wp2_with fail
   go_loopw [5,9] (fun ov jv w4=>∃ (j c2:Nat) (os2:List (Int × Val)),j≤nv∧jv = .int .i64 j∧Hid (os2=os ++((H u).take j).map fun v=>(u,v))∧Hid (c2=os2.length)∧Hid (w4.ownsRow w1.heap.size 59 7 ov c2 (os2.flatMap (trE pr)))∧Hid (ov.ownBlock≠some g)∧Hid (Fr (fun q=>w1.heap.size≤q) w1 w4)∧Hid (∀ (k:Nat) (hk:k < (H u).length),Five g (go+k * 5) (H u)[k] w4)) (fun _ jv _=>nv - (intOf jv).toNat)
   case atStart=>exact⟨0,c,os,Nat.zero_le _,by first | rfl | go_num,hhd (by simp),hhd HCL.out,HROW3.out,hhd (fun e=>by have:=(ownsRow_lt HROW.out _ e).2;omega),HF13.out,hhd fun k hk=>⟨HS5.out k hk 0 (by decide),HS5.out k hk 1 (by decide),HS5.out k hk 2 (by decide),HS5.out k hk 3 (by decide),HS5.out k hk 4 (by decide)⟩⟩
   case round=>
    obtain⟨j,c2,os2,hj',rfl,hos2,hcl2,hrow2,hne2,hfr2,hfive⟩:=hrel
    obtain⟨oa,oc,rfl⟩:=row_form hrow2.out
    by_cases hjlt:j < nv
    ·obtain rfl:=s3 (by omega)
     have hju:j < (H u).length:=by rw[HNV.out];exact hjlt
     have hc2:c2+1≤N:=by
      have h1:=HPR2.out j hju
      rw[hcl2.out,hos2.out,List.length_append,List.length_map,List.length_take]
      omega
     have hsuc2:os2 ++ [(u,(H u)[j])]=os ++((H u).take (j+1)).map fun v=>(u,v):=by
      rw[hos2.out,List.take_succ_eq_append_getElem hju,List.map_append,List.append_assoc];rfl
     have hz:=hfive.out j hju
     have hb4:Fr N0 w1 wr:=fr_ge hfr2.out (Nat.le_refl _)
     have hcp:=HPC.out wr (HF1.out.then0 hb4)
     have hcu:=hfr2.out.cell (p:=⟨b1,uo+i,none⟩) (fun h=>by have:w1.heap.size≤b1:=h;omega) CU.out
     have hlt2:=ownsRow_lt hrow2.out
     have htp:TpH p b1 (uo+i) g (go+j * 5) pr u (H u)[j] wr:=⟨hcp,hcu,hz.1,hz.2.1,hz.2.2.1,hz.2.2.2.1,hz.2.2.2.2⟩
     have hgl:g < wr.heap.size:=lt_of_cell hz.1
     have n1:(Value.slice oa c2 oc).ownBlock≠some p:=fun e=>by have:=(hlt2 _ e).1;omega
     have n2:(Value.slice oa c2 oc).ownBlock≠some b1:=fun e=>by have:=(hlt2 _ e).1;omega
     have HTP:=hhd htp;have HSUC2:=hhd hsuc2;have HROW2:=hhd hrow2.out;have HFR2:=hhd hfr2.out;have HFIVE:=hhd hfive.out;have HNE2:=hhd hne2.out;have HCL2:=hhd hcl2.out;have HN1:=hhd n1;have HN2:=hhd n2
     clear hcp hcu hz hsuc2 hrow2 hne2 hfr2 hfive hos2 hb4 hcl2 htp hlt2 n1 n2
     have hj1:(j:Int) < (nv:Int):=by omega
     refine seq_split fun K1 hK1=>?_
     have HK1:=hhd hK1
     clear hK1
     go_wp2_with fail
     refine HK1.out _ _ ?_
     refine seq_split fun Kc hKc=>?_
     refine wp_block ?_
     refine wp_frA (n:=49) _ rfl ?_
     refine wp_inBS (tpIn (K:=Kc) _ _ p w1.heap.size g go b1 uo i j nv vc nu uc c2 oc oa pr (H u)[j] u (os2.flatMap (trE pr)) rfl rfl rfl rfl rfl rfl hlt hjlt HTP.out HROW2.out HFR2.out.size (by omega) HN1.out HN2.out HNE2.out fun f' W' oa' oc' kp e5 hP hF hN=>?_)
     refine hKc _ _ ?_
     have z0:=kp 0 (by decide);have z1:=kp 1 (by decide);have z2:=kp 2 (by decide);have z3:=kp 3 (by decide);have z4:=kp 4 (by decide);have z6:=kp 6 (by decide);have z7:=kp 7 (by decide);have z8:=kp 8 (by decide);have z9:=kp 9 (by decide);have z10:=kp 10 (by decide);have z11:=kp 11 (by decide);have z12:=kp 12 (by decide);have z13:=kp 13 (by decide);have z14:=kp 14 (by decide);have z15:=kp 15 (by decide);have z16:=kp 16 (by decide);have z17:=kp 17 (by decide);have z18:=kp 18 (by decide);have z19:=kp 19 (by decide);have z20:=kp 20 (by decide);have z21:=kp 21 (by decide);have z22:=kp 22 (by decide);have z23:=kp 23 (by decide);have z24:=kp 24 (by decide);have z25:=kp 25 (by decide);have z26:=kp 26 (by decide);have z27:=kp 27 (by decide);have z28:=kp 28 (by decide);have z48:=kp 48 (by decide)
     rw[tp_snoc] at hP
     have HP:=hhd hP;have HF:=hhd hF;have HN:=hhd hN
     clear kp hP hF hN hKc
     obtain⟨f,hf⟩:∃ f,f=f':=⟨_,rfl⟩
     subst hf
     show Code.wp _ _ _ { tmps:=#[f 0,f 1,f 2,f 3,f 4,f 5,f 6,f 7,f 8,f 9,f 10,f 11,f 12,f 13,f 14,f 15,f 16,f 17,f 18,f 19,f 20,f 21,f 22,f 23,f 24,f 25,f 26,f 27,f 28,f 29,f 30,f 31,f 32,f 33,f 34,f 35,f 36,f 37,f 38,f 39,f 40,f 41,f 42,f 43,f 44,f 45,f 46,f 47,f 48],defers:=[] } _
     rw[z0,z1,z2,z3,z4,e5,z6,z7,z8,z9,z10,z11,z12,z13,z14,z15,z16,z17,z18,z19,z20,z21,z22,z23,z24,z25,z26,z27,z28,z48]
     clear z0 z1 z2 z3 z4 e5 z6 z7 z8 z9 z10 z11 z12 z13 z14 z15 z16 z17 z18 z19 z20 z21 z22 z23 z24 z25 z26 z27 z28 z48
     go_wp2_with fail
     exact⟨⟨j+1,c2+1,os2 ++ [(u,(H u)[j])],by omega,by first | rfl | go_num,hhd HSUC2.out,hhd (by rw[HCL2.out];simp),hhd HP.out,hhd (fun e=>(HN.out _ e).elim HNE2.out fun h=>by omega),hhd (HFR2.out.trans HF.out fun q hq=>.inl (ownsRow_lt HROW2.out _ hq).1),hhd fun k hk=>five_frT (HFIVE.out k hk) HF.out HNE2.out⟩,by simp [intOf];omega⟩
    ·obtain rfl:j=nv:=by omega
     have hos3:os2=trsOf H (us.take (i+1)):=by rw[hos2.out,HSUC.out,← HNV.out,List.take_length]
     have HOS3:=hhd hos3;have HROW2:=hhd hrow2.out;have HFR2:=hhd hfr2.out;have HCL2:=hhd hcl2.out
     clear hos2 hos3 hrow2 hne2 hfr2 hfive hcl2
     have hj1:¬(j:Int) < (j:Int):=by omega
     go_wp2
     go_roundw
     case rel=>exact⟨i+1,c2,os2,by omega,by first | rfl | go_num,HOS3,HCL2,HROW2,HFR2⟩
     case measure=>simp [intOf];omega
  ·obtain rfl:i=nu:=by omega
   have hfull:us.take i=us:=by rw[← HNU.out,List.take_length]
   have hos2:=hos.out
   rw[hfull] at hos2
   have HOS:=hhd hos2;have HROW:=hhd hrow.out;have HFR:=hhd hfr.out;have HCL:=hhd hcl.out
   clear hos hos2 hrow hfr hfull hcl
   have hi1:¬(i:Int) < (i:Int):=by omega
   go_wp2_with fail
   exact HPOST.out _ _ c w1.heap.size HF1.out.size (by rw[HCL.out,HOS.out]) (by rw[← HOS.out];exact HROW.out) (HF1.out.then0 (fr_ge HFR.out (Nat.le_refl _)))
end
end Go.Proofs.YtefepfiijoafbaaGreat
