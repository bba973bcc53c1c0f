/- PMk2 PMk3 -/
import Derived.Deep.RegionLaw
import Derived.Test.YtefepfiijoafbaaGreatQPMk1
import Derived.Test.YtefepfiijoafbaaGreatQXMark
import Derived.Test.YtefepfiijoafbaaGreatQPtJ
import Derived.Test.YtefepfiijoafbaaGreatQR3SortT
set_option linter.unusedVariables false
set_option linter.unusedSimpArgs false
set_option maxRecDepth 100000
set_option maxHeartbeats 8000000
namespace Go.Proofs.YtefepfiijoafbaaGreat
open Go.RowKit Go.Shelf Go.Maps
attribute [local go_sem] Oper.semAt_some
attribute [local irreducible] wpQuiet
theorem pMark1_any(x:CmV)(B3:Nat)(t:Int)(w:World)(hB:w.heap[B3]?=some (.cells #[.int .u64 t] 33 (0,0))) :
  Calls Tryz.prog 138 #[.agg x.enc.toArray,.pointer (some ⟨B3,0,none⟩)] w fun e w'=>e = .returned (.bool (decide (x.time≤t)))∧Fr N0 w w':=by
 obtain⟨xt,xa,xn,xc⟩:=x
 have c3:=cell_of_one hB
 have hl:=lt_of_block hB
 have hne:¬ B3=w.heap.size:=by omega
 simp only [CmV.enc]
 by_cases h:xt≤t
 ·go_enter Tryz.func138,Tryz.ntmps138
  go_wp2
  go_ret
  exact⟨ret_bool (by simp [h]),(Fr.refl _ _).alloc _⟩
 ·go_enter Tryz.func138,Tryz.ntmps138
  go_wp2
  go_ret
  exact⟨ret_bool (by simp [h]),(Fr.refl _ _).alloc _⟩
theorem enters_mark1:∀ args w,(callFunc 138 args).run Tryz.prog w = .ok (.enter 138 args) w:=enters_of Tryz.func138 (by kernel_rfl) rfl
theorem laterC_not(t:Int)(cs:List CmV):(cs.filter fun x=>!(decide (x.time≤t)))=laterC t cs:=by
 unfold laterC
 congr 1
 funext x
 by_cases h:x.time≤t
 ·have:¬ t < x.time:=by omega
  simp [h,this]
 ·have:t < x.time:=by omega
  simp [h,this]
theorem pm_tail{Q:Exit→Act→World→Prop}(W:World)(f:Nat→Value)(p B3 B5 D n:Nat)(oa:Option Addr)(oc:Nat)(s:Sch)(mk:Int)(vt vc:Value)(t:Int)(cs:List CmV)
  (h0:f 0 = .pointer (some ⟨p,0,none⟩)) (h3:f 3=vP B3) (h5:f 5=vP B5) (hp:W.heap[p]?=some (PCells s mk vt vc)) (hB3:W.heap[B3]?=some (.cells #[.int .u64 t] 33 (0,0))) (hB5:W.heap[B5]?=some (.cells #[.int .u64 t,.slice oa n oc] 80 (0,0)))
  (hr:W.ownsRow 0 80 2 vc cs.length (cs.flatMap CmV.enc)) (hcl:cs.length≤1000000000) (hn:n≤1000000000) (np:vc.ownBlock≠some p) (n3:vc.ownBlock≠some B3) (n5:vc.ownBlock≠some B5) (hp3:¬ B3=p)
  (hQ:∀ (tm:Array Value) W' vc',tm[4]?=some (.int .i64 0)→W'.heap[p]?=some (PCells s t vt vc')→W'.ownsRow 0 80 2 vc' ((if n=0 then [] else [(⟨t,oa,n,oc⟩:CmV)]) ++ laterC t cs).length (((if n=0 then [] else [(⟨t,oa,n,oc⟩:CmV)]) ++ laterC t cs).flatMap CmV.enc)→(∀ j,vc'.ownBlock=some j→vc.ownBlock=some j∨W.heap.size≤j)→Fr (fun k=>k=p∨vc.ownBlock=some k) W W'→Q .ret { tmps:=tm,defers:=[{ target:=.collected D,args:=#[] }] } W') :
  Code.wp Tryz.prog (pmB 4) Q { (frA 53 f) with defers:=[{ target:=.collected D,args:=#[] }] } W:=by
 obtain⟨ca,cc,rfl⟩:=slice_of_row hr
 obtain⟨m,nn,lp⟩:=box_cells hp
 have hd:=delFC_any W 0 (.slice ca cs.length cc) cs hr (by omega) 138 #[.pointer (some ⟨B3,0,none⟩)] (fun x=>decide (x.time≤t)) (fun x _ W' hf=>pMark1_any x B3 t W' ((hf.at (k:=B3) n3 (lt_of_block hB3)).trans hB3)) enters_mark1
 rw[laterC_not] at hd
 have hll:(laterC t cs).length≤cs.length:=List.length_filter_le _ _
 obtain⟨c,hc⟩:∃ c,cs.length=c:=⟨_,rfl⟩
 rw[hc] at hd hp m hr n3 np n5 hQ hcl hll
 obtain⟨L,hL⟩:∃ L,laterC t cs=L:=⟨_,rfl⟩
 rw[hL] at hd hQ hll
 have hend:∀ (tm:Array Value) W2 v2,tm[4]?=some (.int .i64 0)→W2.heap[p]?=some (PCells s mk vt (.slice ca c cc))→W2.ownsRow 0 80 2 v2 ((if n=0 then [] else [(⟨t,oa,n,oc⟩:CmV)]) ++ L).length (((if n=0 then [] else [(⟨t,oa,n,oc⟩:CmV)]) ++ L).flatMap CmV.enc)→(∀ j,v2.ownBlock=some j→(Value.slice ca c cc).ownBlock=some j∨W.heap.size≤j)→Fr (fun k=>(Value.slice ca c cc).ownBlock=some k) W W2→Q .ret { tmps:=tm,defers:=[{ target:=.collected D,args:=#[] }] } ((W2.setCell ⟨p,10,none⟩ v2).setCell ⟨p,8,none⟩ (.int .u64 t)).drew:=fun tm W2 v2 ht hp2 hr2 ho hf=>by
  have hne:∀ k,v2.ownBlock=some k→k≠p:=fun k hk e=>by
   subst e
   rcases ho _ hk with h | h
   ·exact np h
   ·omega
  have hp3:=heap_setCell_same W2 p 10 _ _ v2 hp2
  have hp4:=heap_setCell_same _ p 8 _ _ (Value.int .u64 t) hp3
  have hset:=(((Fr.refl (fun k=>k=p) W2).setCell (p:=⟨p,10,none⟩) (.inl rfl) v2).setCell (p:=⟨p,8,none⟩) (.inl rfl) (Value.int .u64 t)).drew
  exact hQ tm _ v2 ht hp4 (ownsRow_fr hr2 hset hne) ho ((hf.mono fun k hk=>.inl (.inr hk)).trans hset fun k hk=>.inl (.inl hk))
 have HEND:=hhd hend
 have HD:=hhd hd;have HP:=hhd hp;have HB3:=hhd hB3;have HB5:=hhd hB5;have HR:=hhd hr;have NP:=hhd np;have N3:=hhd n3;have N5:=hhd n5
 clear hd hp hB3 hB5 hQ hr np n3 n5 hc hL hend
 obtain⟨sp,st,sl,se,sm,so,sr,sc⟩:=s
 simp only at m
 show Code.wp _ _ _ { tmps:=#[f 0,f 1,f 2,f 3,f 4,f 5,f 6,f 7,f 8,f 9,f 10,f 11,f 12,f 13,f 14,f 15,f 16,f 17,f 18,f 19,f 20,f 21,f 22,f 23,f 24,f 25,f 26,f 27,f 28,f 29,f 30,f 31,f 32,f 33,f 34,f 35,f 36,f 37,f 38,f 39,f 40,f 41,f 42,f 43,f 44,f 45,f 46,f 47,f 48,f 49,f 50,f 51,f 52],defers:=[{ target:=.collected D,args:=#[] }] } _
 rw[h0,h3,h5]
 clear h0 h3 h5
 conv=>arg 2;whnf
 go_wp2_with fail
 refine HD.out.mono ?_
 rintro e w1 ⟨v1,rfl,hr1,hf1,ho1⟩
 obtain⟨a1,c1,rfl⟩:=slice_of_row hr1
 have hp1:=(hf1.at (k:=p) NP.out (lt_of_block HP.out)).trans HP.out
 have hb5:=(hf1.at (k:=B5) N5.out (lt_of_block HB5.out)).trans HB5.out
 have hb3:=(hf1.at (k:=B3) N3.out (lt_of_block HB3.out)).trans HB3.out
 obtain⟨m5,q5,l5⟩:=box_cells hb5
 have HP1:=hhd hp1;have HB31:=hhd hb3;have HR1:=hhd hr1;have HF1:=hhd hf1;have HO1:=hhd ho1;have HB51:=hhd hb5
 have hw1:=hf1.size
 clear hp1 hb3 hb5 hr1 hf1 ho1 m nn lp HP HB3 HB5 HD
 by_cases hn0:n=0
 ·subst hn0
  obtain⟨mp,np,lp⟩:=box_cells HP1.out
  have c3:=cell_of_one HB31.out
  simp only at mp
  go_wp2_with fail
  rename_i Kc hKc
  have HKC:=hhd hKc
  clear hKc
  refine wp_plainQ ?_
  go_region_law (fail)
  all_goals
   refine HKC.out _ _ ?_
   go_wp2_with fail
   exact HEND.out _ w1 _ rfl HP1.out (by(first | rw[if_pos trivial] | rw[if_pos rfl]);exact HR1.out) (fun j hj=>.inl (HO1.out j hj)) HF1.out
 ·have hnn:(0:Int) < (n:Int):=by omega
  have hne1:(Value.slice a1 L.length c1).ownBlock≠some w1.heap.size:=fun e=>by have:=(ownsRow_lt HR1.out _ e).2;omega
  have hins:=insC_any (w1.alloc (.cells #[.int .u64 t,.slice oa n oc] 80)) 0 (.slice a1 L.length c1) L.length 0 L ⟨t,oa,n,oc⟩ w1.heap.size (Nat.zero_le _) (HR1.out.alloc _) rfl (Nat.zero_le _) (by omega) (World.alloc_heap_new w1 _) hne1
  have HINS:=hhd hins
  have hf01:Fr (fun k=>(Value.slice ca c cc).ownBlock=some k) W (w1.alloc (.cells #[.int .u64 t,.slice oa n oc] 80)):=HF1.out.alloc _
  have HF01:=hhd hf01
  have hp0:(w1.alloc (.cells #[.int .u64 t,.slice oa n oc] 80)).heap[p]?=_:=(((Fr.refl N0 w1).alloc _).at (k:=p) id (lt_of_block HP1.out)).trans HP1.out
  have hb0:(w1.alloc (.cells #[.int .u64 t,.slice oa n oc] 80)).heap[B3]?=_:=(((Fr.refl N0 w1).alloc _).at (k:=B3) id (lt_of_block HB31.out)).trans HB31.out
  have HP0:=hhd hp0;have HB0:=hhd hb0
  clear hins hne1 hf01 hp0 hb0
  go_wp2_with fail
  refine HINS.out.mono ?_
  rintro e w2 ⟨v2,rfl,hr2,hf2,ho2⟩
  obtain⟨a2,c2,rfl⟩:=slice_of_row hr2
  have hap:∀ k,(Value.slice ca c cc).ownBlock≠some k→(Value.slice a1 L.length c1).ownBlock≠some k:=fun k h e=>h (HO1.out k e)
  have hp2:=(hf2.at (k:=p) (hap _ NP.out) (lt_of_block HP0.out)).trans HP0.out
  have hb2:=(hf2.at (k:=B3) (hap _ N3.out) (lt_of_block HB0.out)).trans HB0.out
  have hfin2:Fr (fun k=>(Value.slice ca c cc).ownBlock=some k) W w2:=HF01.out.trans hf2 fun k hk=>.inl (HO1.out k hk)
  have hbl2:∀ j,(Value.slice a2 (L.length+1) c2).ownBlock=some j→(Value.slice ca c cc).ownBlock=some j∨W.heap.size≤j:=fun j hj=>(ho2 j hj).imp (HO1.out j) fun h=>by rw[World.size_alloc] at h;omega
  have HP2:=hhd hp2;have HF2:=hhd hfin2;have HBL2:=hhd hbl2;have HR2:=hhd hr2
  obtain⟨mp,np,lp⟩:=box_cells HP2.out
  have c3:=cell_of_one hb2
  simp only at mp
  clear hp2 hb2 hfin2 hbl2 hr2 hf2 ho2 hap m5 q5 l5
  go_wp2_with fail
  rename_i Kc hKc
  have HKC:=hhd hKc
  clear hKc
  refine wp_plainQ ?_
  go_region_law (fail)
  all_goals
   refine HKC.out _ _ ?_
   go_wp2_with fail
   exact HEND.out _ w2 _ rfl HP2.out (by rw[if_neg hn0];exact HR2.out) HBL2.out HF2.out
theorem pm_range{Q:Exit→Act→World→Prop}(W5:World)(B5 Bl Bt:Nat)(q:ByteArray)(t:Int)(Rl S0:Nat→Prop)(xs:List (Int × Val))(f:Nat→Value)
  (hseq:SeqOf Tryz.prog 97 #[.pointer (some ⟨Bl,0,none⟩),.pointer (some ⟨Bt,0,none⟩)] (encT q) Rl xs W5)
  (hS0:∀ k,S0 k→¬ Rl k∧k < W5.heap.size) (hRl:∀ k,Rl k→k < W5.heap.size) (h0:PmR B5 t q S0 [] W5) (hxl:xs.length≤10000000000)
  (h5:f 5=vP B5) (h22:f 22 = .func (.func 97) #[] #[.pointer (some ⟨Bl,0,none⟩),.pointer (some ⟨Bt,0,none⟩)])
  (hK:∀ (D:Nat) (S:Nat→Prop) (W:World),PmR B5 t q S xs W→Fr S0 W5 W→W.heap[D]?=some (.deferred (some []))→W5.heap.size≤D→¬ S D→Q .normal { (frA 53 f) with defers:=[{ target:=.collected D,args:=#[] }] } W) :
  Code.wp Tryz.prog pmRng Q (frA 53 f) W5:=by
 have HSEQ:=hhd hseq;have HS0:=hhd hS0;have HRL:=hhd hRl;have H0:=hhd h0;have HK:=hhd hK
 clear hseq hS0 hRl h0 hK
 show Code.wp _ _ _ { tmps:=#[f 0,f 1,f 2,f 3,f 4,f 5,f 6,f 7,f 8,f 9,f 10,f 11,f 12,f 13,f 14,f 15,f 16,f 17,f 18,f 19,f 20,f 21,f 22,f 23,f 24,f 25,f 26,f 27,f 28,f 29,f 30,f 31,f 32,f 33,f 34,f 35,f 36,f 37,f 38,f 39,f 40,f 41,f 42,f 43,f 44,f 45,f 46,f 47,f 48,f 49,f 50,f 51,f 52],defers:=[] } _
 refine wp_rangeA (g:=.tmp 22) (ps:=#[23]) (a:={ tmps:=#[f 0,f 1,f 2,f 3,f 4,f 5,f 6,f 7,f 8,f 9,f 10,f 11,f 12,f 13,f 14,f 15,f 16,f 17,f 18,f 19,f 20,f 21,f 22,f 23,f 24,f 25,f 26,f 27,f 28,f 29,f 30,f 31,f 32,f 33,f 34,f 35,f 36,f 37,f 38,f 39,f 40,f 41,f 42,f 43,f 44,f 45,f 46,f 47,f 48,f 49,f 50,f 51,f 52],defers:=[] }) (encs:=encT q) (by rw[← h22];rfl) enters_trip1 HSEQ.out (SameOn.refl _ _) (fun _=>rfl) S0 HS0.out HRL.out (PmR B5 t q) (fun _ _ _ _=>False) (pmR_stable _ _ _) (fun _ _ _ _ _ h _=>h) H0.out
  (fun x B=>{ tmps:=#[f 0,f 1,f 2,f 3,f 4,f 5,.pointer (some ⟨B,0,none⟩),f 7,f 8,f 9,f 10,f 11,f 12,f 13,f 14,f 15,f 16,f 17,f 18,f 19,f 20,f 21,f 22,.agg #[.int .u64 x.1,.string q,.int .u8 x.2.k,.bool x.2.b,.int .i64 x.2.n,.string x.2.s,.int .u64 x.2.u],f 24,f 25,f 26,f 27,f 28,f 29,f 30,f 31,f 32,f 33,f 34,f 35,f 36,f 37,f 38,f 39,f 40,f 41,f 42,f 43,f 44,f 45,f 46,f 47,f 48,f 49,f 50,f 51,f 52],defers:=[] })
  (fun x=>.cells #[.int .u64 x.1,.string q,.int .u8 x.2.k,.bool x.2.b,.int .i64 x.2.n,.string x.2.s,.int .u64 x.2.u] 59) ?assign ?body ?done ?stop
 case assign=>
  clear h5 h22
  intro l x W K hK
  simp only [encT]
  have HK2:=hhd hK
  clear hK
  gi_wp2
  exact HK2.out
 case body=>
  intro l B S pre x W hB hBS hI hpre hRW hbd
  rw[cut_mk (n:=53) _ rfl]
  have hl:pre.length≤10000000000:=by have:=hpre.length_le;simp at this;omega
  exact pm_round l B5 B t q S pre x W _ hI (fun k hk=>(hbd k hk).2) hB hl h5 rfl
 case done=>
  intro D S W hI hf hg hD hwD hSD
  exact HK.out D S W hI hf hD hwD hSD
 case stop=>
  intro D c S pre W hpre h
  exact h.elim
def PMarkPost(W:World)(R:Nat→Prop)(p:Nat)(r:PL)(e:Ending)(w':World):Prop:=
 e = .returned (.int .i64 0)∧∃ R',IsPL w' R' p r∧(∀ k,R' k→R k∨W.heap.size≤k)∧Fr R W w'
theorem pmark_done{W w':World}{R:Nat→Prop}{p n z6:Nat}{l:PL}{t:Int}{trs:List (Int × Val)}{cs:List CmV}{oa:Option Addr}{oc:Nat}{vt vc vc':Value}(hR:∀ k,R k→k < W.heap.size)(hp:R p)
  (hcs:ParC (fun x y=>x.time=y.time∧∃ b,Wrs W b (.slice x.a x.n x.c) y.writes∧(0 < y.writes.length→R b∧b≠p∧vt.ownBlock≠some b∧vc.ownBlock≠some b)) cs l.commits)
  (hvt:W.ownsRow 0 33 1 vt l.times.length (l.times.flatMap enc4)) (hvt2:∀ k,vt.ownBlock=some k→R k∧k≠p) (hvc:∀ k,vc.ownBlock=some k→R k∧k≠p∧vt.ownBlock≠some k)
  (hn:trs.length=n) (hone:w'.ownsRow W.heap.size 61 8 (.slice oa n oc) n ((trs.map (wrT l.s.pred)).flatMap Wr.enc)) (hol:∀ k,(Value.slice oa n oc).ownBlock=some k→k < z6) (hz:W.heap.size≤z6)
  (hp':w'.heap[p]?=some (PCells l.s t vt vc')) (hr':w'.ownsRow 0 80 2 vc' ((if n=0 then [] else [(⟨t,oa,n,oc⟩:CmV)]) ++ laterC t cs).length (((if n=0 then [] else [(⟨t,oa,n,oc⟩:CmV)]) ++ laterC t cs).flatMap CmV.enc))
  (ho':∀ j,vc'.ownBlock=some j→vc.ownBlock=some j∨z6≤j) (hf:Fr (fun k=>k=p∨vc.ownBlock=some k) W w') :
  ∃ R',IsPL w' R' p (markPL l t trs)∧(∀ k,R' k→R k∨W.heap.size≤k)∧Fr R W w':=by
 have hpar:ParC (fun x y=>x.time=y.time∧∃ b,Wrs w' b (.slice x.a x.n x.c) y.writes∧(0 < y.writes.length→(R b∨W.heap.size≤b)∧b≠p∧vt.ownBlock≠some b∧vc'.ownBlock≠some b)) ((if n=0 then [] else [(⟨t,oa,n,oc⟩:CmV)]) ++ laterC t cs) (markPL l t trs).commits:=by
  refine ParC.append ?_ ((hcs.later (fun _ _ h=>h.1) t).mono ?_)
  ·by_cases h0:n=0
   ·rw[if_pos h0,if_pos (List.eq_nil_of_length_eq_zero (hn.trans h0))]
    exact .nil
   ·rw[if_neg h0,if_neg (fun e=>h0 (by rw[← hn,e];rfl))]
    refine .cons ⟨rfl,?_⟩ .nil
    have hone':w'.ownsRow W.heap.size 61 8 (.slice oa n oc) (trs.map (wrT l.s.pred)).length ((trs.map (wrT l.s.pred)).flatMap Wr.enc):=by rw[List.length_map,hn];exact hone
    obtain⟨b,hb,hw⟩:=rowsK_of_row (enc:=Wr.enc) (n:=8) (fun _=>rfl) (by decide) hone'
    refine⟨b,hw,fun hpos=>?_⟩
    obtain⟨a,off,cap,he,-,-,h3,-⟩:=hw
    have ho:(Value.slice oa n oc).ownBlock=some b:=by rw[he,h3 hpos];rfl
    have h1:=hol b ho
    have h2:=hR p hp
    refine⟨.inr hb,by omega,fun e=>by have:=hR b (hvt2 b e).1;omega,fun e=>?_⟩
    rcases ho' b e with h | h
    ·have:=hR b (hvc b h).1;omega
    ·omega
  ·rintro x y ⟨e,b,hb,hr⟩
   refine⟨e,b,rowsK_frT (enc:=Wr.enc) (n:=8) (fun _=>rfl) hb hf fun h0 h=>?_,fun h0=>⟨.inl (hr h0).1,(hr h0).2.1,(hr h0).2.2.1,fun e=>?_⟩⟩
   ·rcases h with h | h
    ·exact(hr h0).2.1 h
    ·exact(hr h0).2.2.2 h
   ·rcases ho' b e with h | h
    ·exact(hr h0).2.2.2 h
    ·have:=hR b (hr h0).1;omega
 refine⟨fun k=>R k∨W.heap.size≤k,⟨vt,vc',_,hp',.inl hp,⟨ownsRow_fr hvt hf fun k hk h=>?_,fun k hk=>⟨.inl (hvt2 k hk).1,(hvt2 k hk).2⟩⟩,⟨hr',hpar.length,fun k hk=>?_⟩,fun i hi hi'=>hpar.get i hi hi'⟩,fun _ h=>h,hf.mono fun k h=>.inl (h.elim (fun e=>e ▸ hp) fun e=>(hvc k e).1)⟩
 ·rcases h with h | h
  ·exact(hvt2 k hk).2 h
  ·exact(hvc k h).2.2 hk
 ·rcases ho' k hk with h | h
  ·exact⟨.inl (hvc k h).1,(hvc k h).2.1,(hvc k h).2.2⟩
  ·have:=hR p hp
   exact⟨.inr (by omega),by omega,fun e=>by have:=hR k (hvt2 k e).1;omega⟩
theorem pMark_any(W:World)(R:Nat→Prop)(p:Nat)(l:PL)(N:Nat)(h:IsPL W R p l)(hR:∀ k,R k→k < W.heap.size)(hl:l.AtOk N)(hN:N≤900000000)(t:Int)(ht:¬ t < l.marked)(ks:List Int)(hks:NodesOf (haveAt l t) ks) :
  Calls Tryz.prog 79 #[.pointer (some ⟨p,0,none⟩),.int .u64 t] W (PMarkPost W R p (markPL l t (trsOf (haveAt l t) ks))):=by
 have hI:=h
 obtain⟨vt,vc,cs,h1,hp,⟨h3,h4⟩,⟨h5,h6,h7⟩,h8⟩:=h
 have hpl:=lt_of_block h1
 obtain⟨W1,hW1⟩:∃ W1,W.alloc (.cells #[.int .u64 t] 33)=W1:=⟨_,rfl⟩
 have hf1:Fr N0 W W1:=by rw[← hW1];exact(Fr.refl _ _).alloc _
 have hB3:W1.heap[W.heap.size]?=some (.cells #[.int .u64 t] 33 (0,0)):=by rw[← hW1];exact World.alloc_heap_new W _
 have hz1:W1.heap.size=W.heap.size+1:=by rw[← hW1];simp
 obtain⟨m,n,lp⟩:=box_cells ((hf1.at (k:=p) id hpl).trans h1)
 have hno:=pNone_any W1 p l.s.pred (m 0) hl.pred
 have htl:(trsOf (haveAt l t) ks).length≤N:=trsOf_len hl t hks.rises
 have HNO:=hhd hno;have HB3:=hhd hB3;have HF1:=hhd hf1;have HT:=hhd ht
 have H1:=hhd h1
 have c3:=cell_of_one hB3
 have hmk:W1.cell? ⟨p,8,none⟩=some (.int .u64 l.marked):=m 8
 have hcs:ParC (fun x y=>x.time=y.time∧∃ b,Wrs W b (.slice x.a x.n x.c) y.writes∧(0 < y.writes.length→R b∧b≠p∧vt.ownBlock≠some b∧vc.ownBlock≠some b)) cs l.commits:=parC_of h6 h8
 have hclen:cs.length≤1000000000:=by have:=hl.commits;omega
 have HP:=hhd hp;have HI:=hhd hI;have HVT:=hhd h3;have HVT2:=hhd h4;have HVC:=hhd h5;have HVC2:=hhd h7;have HCS:=hhd hcs;have HR:=hhd hR;have HL:=hhd hl;have HKS:=hhd hks;have HTL:=hhd htl;have HCL:=hhd hclen
 have f1:Fence.wide.fn 34:=trivial
 refine(callsIn_wide (n:=8)).1 ?_
 refine callsIn_of_wp_marks Tryz.func79 rfl trivial ?_ rfl
 simp only [Tryz.ntmps79,List.size_toArray,List.length_cons,List.length_nil,Nat.reduceAdd,Nat.reduceSub,Array.replicate_succ,Array.replicate_zero,List.push_toArray,List.append_toArray,List.nil_append,List.cons_append]
 refine(wpIn_wide (n:=8)).2 ?_
 clear hno hf1 hB3 hI h1 h3 h4 h5 h6 h7 h8 m n hcs hR hl hks htl hclen
 go_wp2_with fail
 refine HNO.out.mono ?_
 rintro e w2 ⟨rfl,hf2⟩
 have c32:=hf2.cell id c3
 have hmk2:=hf2.cell id hmk
 have HF2:=hhd (HF1.out.then0 hf2)
 have hb32:=(hf2.at (k:=W.heap.size) id (lt_of_block HB3.out)).trans HB3.out
 have HB32:=hhd hb32
 clear hf2 c3 hmk hb32 HNO
 go_wp2_with fail
 go_quiet (fail)
 obtain⟨wd,hwd⟩:∃ wd,w2.drewN nq=wd:=⟨_,rfl⟩
 have hfd:Fr N0 w2 wd:=by rw[← hwd];exact(Fr.refl N0 w2).drewN _
 have c3d:=hfd.cell id c32
 have hb3d:=(hfd.at (k:=W.heap.size) id (lt_of_block HB32.out)).trans HB32.out
 have HFD:=hhd (HF2.out.then0 hfd);have HB3D:=hhd hb3d
 have hltB:W.heap.size < wd.heap.size:=lt_of_block hb3d
 have hf3:Fr N0 wd (wd.alloc (.cells #[.int .u64 t,.slice none 0 0] 80)):=(Fr.refl _ _).alloc _
 have c33:=hf3.cell id c3d
 have HF3:=hhd hf3;have HB33:=hhd ((hf3.at (k:=W.heap.size) id hltB).trans hb3d);have HB5:=hhd (World.alloc_heap_new wd (.cells #[.int .u64 t,.slice none 0 0] 80))
 rw[hwd]
 clear hwd hfd c32 hmk2 hb3d HB32 hf3
 go_wp2_with fail
 refine(trips_any _ _ _).mono ?_
 rintro e w5 ⟨rfl,hw5⟩
 have HW5:=hhd hw5
 clear hw5
 go_wp2_with fail
 rename_i Kx hKx
 have HKX:=hhd hKx
 clear hKx c3d c33
 have hz3:(wd.alloc (.cells #[.int .u64 t,.slice none 0 0] 80)).heap.size=wd.heap.size+1:=World.size_alloc _ _
 obtain⟨W3,hW3⟩:∃ W3,wd.alloc (.cells #[.int .u64 t,.slice none 0 0] 80)=W3:=⟨_,rfl⟩
 rw[hW3] at HW5 HB5 HB33 HF3 hz3
 clear hW3
 have hf35:Fr N0 W3 w5:=by rw[← HW5.out];exact((Fr.refl _ _).alloc _).alloc _
 have hz5:w5.heap.size=wd.heap.size+3:=by rw[← HW5.out];simp [hz3]
 have hBl:w5.heap[wd.heap.size+1]?=some (.cells #[.pointer (some ⟨p,0,none⟩)] 51 (0,0)):=by
  rw[← HW5.out,← hz3];exact(Below.heap_alloc _ _ _ (by simp)).trans (World.alloc_heap_new W3 _)
 have hBt:w5.heap[wd.heap.size+2]?=some (.cells #[.int .u64 t] 33 (0,0)):=by
  rw[← HW5.out]
  have:=World.alloc_heap_new (W3.alloc (.cells #[.pointer (some ⟨p,0,none⟩)] 51)) (.cells #[.int .u64 t] 33)
  rw[World.size_alloc,hz3] at this;exact this
 have hfd5:Fr N0 wd w5:=HF3.out.then0 hf35
 have hf5:Fr N0 W w5:=HFD.out.then0 hfd5
 have hzd:=HFD.out.size
 have hR:=HR.out
 have hseq:=triples1_seq w5 (wd.heap.size+1) (wd.heap.size+2) R p l N t ks (HI.out.fr hf5 fun _ _=>id) (fun k hk=>by have:=hR k hk;omega) HL.out (by omega) HKS.out hBl hBt
 have hB55:=(hf35.at (k:=wd.heap.size) id (lt_of_block HB5.out)).trans HB5.out
 have hB35:=(hf35.at (k:=W.heap.size) id (lt_of_block HB33.out)).trans HB33.out
 have hp5:=(hf5.at (k:=p) id hpl).trans H1.out
 have htl:=HTL.out
 obtain⟨trs,htrs⟩:∃ trs,trsOf (haveAt l t) ks=trs:=⟨_,rfl⟩
 rw[htrs] at hseq htl
 have HTRS:=hhd htrs
 clear htrs
 refine wp_frA (n:=53) _ rfl ?_
 refine pm_range w5 wd.heap.size (wd.heap.size+1) (wd.heap.size+2) l.s.pred t (fun k=>R k∨k=wd.heap.size+1∨k=wd.heap.size+2) (fun k=>k=wd.heap.size) trs _ hseq (fun k hk=>⟨fun h=>?_,by omega⟩) (fun k hk=>?_) ⟨rfl,none,0,hB55,World.ownsRow_nil _ _ _ _,fun k hk=>by cases hk⟩ (by omega) rfl rfl fun D S W6 hI hf6 hD hwD hSD=>?_
 ·rcases h with h | h | h
  ·have:=hR k h;omega
  ·omega
  ·omega
 ·rcases hk with h | h | h
  ·have:=hR k h;omega
  ·omega
  ·omega
 obtain⟨-,oa,oc,hB56,hrow6,-⟩:=hI
 refine HKX.out _ _ ?_
 have hpd:p≠wd.heap.size:=by omega
 have hp6:=(hf6.at (k:=p) hpd (by omega)).trans hp5
 have hB36:=(hf6.at (k:=W.heap.size) (by omega) (by omega)).trans hB35
 have hvl:=fun k hk=>hR k (HVC2.out k hk).1
 have hfw6:Fr (fun k=>k=wd.heap.size) W w5:=hf5.mono fun _ h=>h.elim
 have hF6:Fr N0 W W6:=hf5.trans hf6 fun k hk=>.inr (by omega)
 have hvc6:=ownsRow_fr HVC.out hF6 fun _ _ h=>h
 have hz6:=hf6.size
 refine pm_tail W6 _ p W.heap.size wd.heap.size D trs.length oa oc l.s l.marked vt vc t cs rfl rfl rfl hp6 hB36 hB56 hvc6 HCL.out (by omega) (fun e=>(HVC2.out p e).2.1 rfl) (fun e=>by have:=hvl _ e;omega) (fun e=>by have:=hvl _ e;omega) (by omega) fun tm W' vc' htm hp' hr' ho' hF'=>?_
 have hzF:=hF'.size
 have hDW:W6.heap.size≤W6.heap.size:=Nat.le_refl _
 have hD6:D < W6.heap.size:=lt_of_block hD
 have hD':W'.heap[D]?=some (.deferred (some [])):=(hF'.at (k:=D) (fun h=>by
  rcases h with h | h
  ·omega
  ·have:=hvl D h;omega) hD6).trans hD
 refine⟨by simp,.inl ⟨_,_,rfl,run_takeDeferred hD',?_⟩⟩
 have hfp:Fr (fun k=>k=D) W' (W'.putObj D (.deferred none)):=(Fr.refl (fun k=>k=D) W').putObj (l:=D) (.inl rfl) _
 have hFF:Fr (fun k=>k=p∨vc.ownBlock=some k) W (W'.putObj D (.deferred none)):=((hF6.mono fun _ h=>h.elim:Fr (fun k=>k=p∨vc.ownBlock=some k) W W6).trans hF' fun k h=>.inl h).putObj (l:=D) (.inr (by omega)) _
 have hne:∀ k,vc'.ownBlock=some k→k≠D:=fun k hk e=>by
  subst e
  rcases ho' k hk with h | h
  ·have:=hvl k h;omega
  ·omega
 have hr2:=ownsRow_fr hr' hfp hne
 have hp2:=(hfp.at (k:=p) (by omega) (lt_of_block hp')).trans hp'
 have hno6:∀ k,(Value.slice oa trs.length oc).ownBlock=some k→k≠D:=fun k hk e=>by
  have h1:=(ownsRow_lt hrow6 k hk).1
  subst e
  obtain⟨c,hc⟩:=ownsRow_elem hrow6 hk
  rw[hD] at hc;cases hc
 have hrow7:=ownsRow_fr hrow6 hF' fun k hk h=>by
  have h1:=(ownsRow_lt hrow6 k hk).1
  rcases h with h | h
  ·omega
  ·have:=hvl k h;omega
 have hrow8:=ownsRow_base (ownsRow_fr hrow7 hfp hno6) hzd
 refine⟨_,results_tmp rfl _ _ _,?_,?_⟩
 ·simp [Array.getD_eq_getD_getElem?,htm]
 ·rw[HTRS.out]
  exact pmark_done hR HP.out HCS.out HVT.out HVT2.out HVC2.out rfl hrow8 (fun k hk=>(ownsRow_lt hrow6 k hk).2) (by omega) hp2 hr2 ho' hFF
end Go.Proofs.YtefepfiijoafbaaGreat
