/- XList TrsP RRise R3SortP BehP R3Cmp R3SortT -/
import Derived.Deep.AppendLies
import Derived.Test.YtefepfiijoafbaaGreatQPAt
import Derived.Test.YtefepfiijoafbaaGreatQLookP
import Derived.Test.YtefepfiijoafbaaGreatQDelV
import Derived.Test.YtefepfiijoafbaaGreatQVOrd3
import Derived.Test.YtefepfiijoafbaaGreatQFndB
import Derived.Test.YtefepfiijoafbaaGreatQValR
set_option linter.unusedVariables false
set_option linter.unusedSimpArgs false
set_option maxRecDepth 100000
set_option maxHeartbeats 8000000
namespace Go.Proofs.YtefepfiijoafbaaGreat
section
open Go.RowKit Go.Shelf
def IsXL(W:World)(R:Nat→Prop)(p:Nat)(l:PL):Prop:=
 ∃ (vt vc:Value) (cs:List CmV),
  W.heap[p]?=some (.cells #[.string l.s.pred,.int .u8 l.s.ty,.bool l.s.list,.bool l.s.exact_,.bool l.s.term,.bool l.s.order,.bool l.s.rev,.bool l.s.count,.int .u64 l.marked,vt,vc] 173 (0,0))∧R p ∧
  (W.ownsRow 0 33 1 vt l.times.length (l.times.flatMap enc4)∧∀ k,vt.ownBlock=some k→R k∧k≠p) ∧
  (W.ownsRow 0 80 2 vc cs.length (cs.flatMap CmV.enc)∧cs.length=l.commits.length∧∀ k,vc.ownBlock=some k→R k∧k≠p) ∧
  ∀ i (h:i < cs.length) (h':i < l.commits.length),cs[i].time=l.commits[i].time∧∃ b,Wrs W b (.slice cs[i].a cs[i].n cs[i].c) l.commits[i].writes∧(0 < l.commits[i].writes.length→R b∧b≠p)
theorem IsXL.fr{W W':World}{R T:Nat→Prop}{p:Nat}{l:PL}(h:IsXL W R p l)(hf:Fr T W W')(hT:∀ k,R k→¬ T k):IsXL W' R p l:=by
 obtain⟨vt,vc,cs,h1,h2,⟨h3,h4⟩,⟨h5,h6,h7⟩,h8⟩:=h
 refine⟨vt,vc,cs,(hf.at (k:=p) (hT p h2) (lt_of_block h1)).trans h1,h2,⟨ownsRow_fr h3 hf fun k hk=>hT k (h4 k hk).1,h4⟩,⟨ownsRow_fr h5 hf fun k hk=>hT k (h7 k hk).1,h6,h7⟩,fun i hi hi'=>?_⟩
 obtain⟨e,b,hb,hr⟩:=h8 i hi hi'
 exact⟨e,b,rowsK_frT (enc:=Wr.enc) (n:=8) (fun _=>rfl) hb hf fun h0=>hT b (hr h0).1,hr⟩
theorem isxl_bound{W:World}{R:Nat→Prop}{p:Nat}{l:PL}(h:IsXL W R p l):IsXL W (fun k=>R k∧k < W.heap.size) p l:=by
 obtain⟨vt,vc,cs,h1,h2,⟨h3,h4⟩,⟨h5,h6,h7⟩,h8⟩:=h
 refine⟨vt,vc,cs,h1,⟨h2,lt_of_block h1⟩,⟨h3,fun k hk=>⟨⟨(h4 k hk).1,(ownsRow_lt h3 k hk).2⟩,(h4 k hk).2⟩⟩,⟨h5,h6,fun k hk=>⟨⟨(h7 k hk).1,(ownsRow_lt h5 k hk).2⟩,(h7 k hk).2⟩⟩,fun i hi hi'=>?_⟩
 obtain⟨e,b,hb,hr⟩:=h8 i hi hi'
 refine⟨e,b,hb,fun h0=>⟨⟨(hr h0).1,?_⟩,(hr h0).2⟩⟩
 obtain⟨a,off,cap,-,-,-,-,-,g⟩:=hb
 exact lt_of_cell (p:=⟨b,off+0 * 8+0,none⟩) (g 0 h0 0 (by decide))
theorem IsXL.mono{W:World}{R R':Nat→Prop}{p:Nat}{l:PL}(h:IsXL W R p l)(hR:∀ k,R k→R' k):IsXL W R' p l:=by
 obtain⟨vt,vc,cs,h1,h2,⟨h3,h4⟩,⟨h5,h6,h7⟩,h8⟩:=h
 refine⟨vt,vc,cs,h1,hR _ h2,⟨h3,fun k hk=>⟨hR _ (h4 k hk).1,(h4 k hk).2⟩⟩,⟨h5,h6,fun k hk=>⟨hR _ (h7 k hk).1,(h7 k hk).2⟩⟩,fun i hi hi'=>?_⟩
 obtain⟨e,b,hb,hr⟩:=h8 i hi hi'
 exact⟨e,b,hb,fun h0=>⟨hR _ (hr h0).1,(hr h0).2⟩⟩
def XComm(W:World)(bc o:Nat)(c:Cm):Prop:=∃ ca cc b,W.cell? ⟨bc,o,none⟩=some (.int .u64 c.time)∧W.cell? ⟨bc,o+1,none⟩=some (.slice ca c.writes.length cc)∧Wrs W b (.slice ca c.writes.length cc) c.writes
structure XRead(W:World)(p:Nat)(l:PL)(a:Option Addr)(bc off cap:Nat):Prop where
 pred:W.cell? ⟨p,0,none⟩=some (.string l.s.pred)
 ty:W.cell? ⟨p,1,none⟩=some (.int .u8 l.s.ty)
 list:W.cell? ⟨p,2,none⟩=some (.bool l.s.list)
 order:W.cell? ⟨p,5,none⟩=some (.bool l.s.order)
 rev:W.cell? ⟨p,6,none⟩=some (.bool l.s.rev)
 marked:W.cell? ⟨p,8,none⟩=some (.int .u64 l.marked)
 cm:W.cell? ⟨p,10,none⟩=some (.slice a l.commits.length cap)
 nz:0 < l.commits.length→a=some ⟨bc,off,none⟩
 cs:∀ i (h:i < l.commits.length),XComm W bc (off+i * 2) l.commits[i]
theorem XRead.fr{W W':World}{p:Nat}{l:PL}{a:Option Addr}{bc off cap:Nat}(h:XRead W p l a bc off cap)(hf:Fr N0 W W'):XRead W' p l a bc off cap where
 pred:=hf.cell id h.pred
 ty:=hf.cell id h.ty
 list:=hf.cell id h.list
 order:=hf.cell id h.order
 rev:=hf.cell id h.rev
 marked:=hf.cell id h.marked
 cm:=hf.cell id h.cm
 nz:=h.nz
 cs:=fun i hi=>by
  obtain⟨ca,cc,b,h1,h2,h3⟩:=h.cs i hi
  exact⟨ca,cc,b,hf.cell id h1,hf.cell id h2,h3.fr0 hf⟩
theorem IsXL.read{W:World}{R:Nat→Prop}{p:Nat}{l:PL}(h:IsXL W R p l):∃ a bc off cap,XRead W p l a bc off cap:=by
 obtain⟨vt,vc,cs,h1,-,-,⟨h5,h6,-⟩,h8⟩:=h
 obtain⟨m,-,-⟩:=box_cells h1
 obtain⟨bc,-,hr⟩:=rowsK_of_row (enc:=CmV.enc) (n:=2) insC_len (by decide) h5
 obtain⟨a,off,cap,rfl,r1,r2,r3,-,r5⟩:=hr
 refine⟨a,bc,off,cap,m 0,m 1,m 2,m 5,m 6,m 8,by rw[← h6];exact m 10,fun h=>r3 (by omega),fun i hi=>?_⟩
 have hi':i < cs.length:=by omega
 obtain⟨e,b,hb,-⟩:=h8 i hi' hi
 have g0:=r5 i hi' 0 (by decide)
 have g1:=r5 i hi' 1 (by decide)
 obtain⟨⟨ct,ca,cn,cc⟩,hc⟩:∃ c,cs[i]=c:=⟨_,rfl⟩
 rw[hc] at e hb g0 g1
 simp only [CmV.enc,List.getElem?_cons_zero,List.getElem?_cons_succ,Nat.add_zero] at g0 g1
 simp only at e hb
 have hl:cn=l.commits[i].writes.length:=by
  obtain⟨_,_,_,e2,-⟩:=hb
  injection e2
 subst hl
 exact⟨ca,cc,b,by rw[← e];exact g0,g1,hb⟩
noncomputable def valsAt(l:PL)(u t:Int):List Val:=haveOf l.s.list (wsOf (l.commits.filter fun c=>decide (c.time≤t))) u
theorem filter_takeWhile{cs:List Cm}(h:RisesBy Cm.time cs)(t:Int):(cs.filter fun c=>decide (c.time≤t))=cs.takeWhile fun c=>decide (c.time≤t):=by
 induction cs with
 | nil=>rfl
 | cons c cs ih=>
  obtain⟨h1,h2⟩:=List.pairwise_cons.1 h
  by_cases hc:c.time≤t
  ·rw[List.filter_cons,if_pos (by simpa using hc),List.takeWhile_cons,if_pos (by simpa using hc),ih h2]
  ·rw[List.filter_cons,if_neg (by simpa using hc),List.takeWhile_cons,if_neg (by simpa using hc)]
   refine List.filter_eq_nil_iff.2 fun d hd=>?_
   have:=h1 d hd
   simp;omega
theorem valsAt_have{l:PL}(hr:RisesBy Cm.time l.commits)(u t:Int)(hm:¬ t < l.marked):valsAt l u t=haveAt l t u:=by
 unfold valsAt haveAt
 rw[if_neg hm,filter_takeWhile hr]
 rfl
end
section
open Go.RowKit Go.Shelf Go.Maps
theorem sum_one{f g:Int→Nat}{a:Int}(h:∀ u,u≠a→g u=f u)(h2:g a≤f a+1):∀ {ks:List Int},RisesBy id ks→(ks.map g).sum≤(ks.map f).sum+1
 | [],_=>by simp
 | u :: ks,hr=>by
  obtain⟨h1,h3⟩:=List.pairwise_cons.1 hr
  rw[List.map_cons,List.sum_cons,List.map_cons,List.sum_cons]
  by_cases e:u=a
  ·subst e
   have he:ks.map g=ks.map f:=List.map_congr_left fun v hv=>h v fun e=>by
    have:u < v:=h1 v hv
    omega
   rw[he];omega
  ·have:=sum_one h h2 h3
   rw[h u e];omega
theorem haveOf_sum(list:Bool)(ws:List Wr){ks:List Int}(hr:RisesBy id ks):(ks.map fun u=>(haveOf list ws u).length).sum≤ws.length:=by
 refine list_snoc (C:=fun ws=>(ks.map fun u=>(haveOf list ws u).length).sum≤ws.length) ?_ (fun ws x ih=>?_) ws
 ·have:(ks.map fun u=>(haveOf list [] u).length)=ks.map fun _=>0:=rfl
  rw[this]
  induction ks with
  | nil=>simp
  | cons k ks ih=>
   have:=ih (List.pairwise_cons.1 hr).2 rfl
   simp at this ⊢
   try omega
 ·have h1:=sum_one (f:=fun u=>(haveOf list ws u).length) (g:=fun u=>(haveOf list (ws ++ [x]) u).length) (a:=x.uid) (fun u hu=>by
   show(haveOf list (ws ++ [x]) u).length=_
   rw[haveOf_snoc];unfold hWrite;rw[updV_other hu]) (by
   show(haveOf list (ws ++ [x]) x.uid).length≤_
   rw[haveOf_snoc];unfold hWrite;rw[updV_same];exact wrV_len _ _ _) hr
  rw[List.length_append]
  simp only [List.length_cons,List.length_nil]
  omega
theorem trsOf_sum(H:Int→List Val)(ks:List Int):(trsOf H ks).length=(ks.map fun u=>(H u).length).sum:=by
 unfold trsOf
 rw[List.length_flatMap]
 congr 1
 exact List.map_congr_left fun u _=>by rw[List.length_map]
theorem trsOf_len{l:PL}{N:Nat}(hl:l.AtOk N)(t:Int){ks:List Int}(hr:RisesBy id ks):(trsOf (haveAt l t) ks).length≤N:=by
 rw[trsOf_sum]
 unfold haveAt
 split
 ·have:(ks.map fun u=>((fun _=>[]) u:List Val).length).sum=0:=by
   clear hr
   induction ks with
   | nil=>rfl
   | cons k ks ih=>simp at ih ⊢;try omega
  rw[this];omega
 ·have h1:=haveOf_sum l.s.list (wsOf (atCs l t)) hr
  have h2:=wsOf_atCs l t
  have h3:=hl.len
  omega
theorem trsOf_nodes{H:Int→List Val}{us ks:List Int}(hu:RisesBy id us)(hk:NodesOf H ks)(hin:∀ u,H u≠[]→u ∈ us):trsOf H us=trsOf H ks:=by
 have e:ks=us.filter fun u=>decide (H u≠[]):=rises_unique hk.rises (List.Pairwise.sublist List.filter_sublist hu) fun u=>by
  rw[hk.mem,List.mem_filter]
  exact⟨fun h=>⟨hin u h,by simpa using h⟩,fun h=>by simpa using h.2⟩
 rw[e]
 clear e hk hu hin
 unfold trsOf
 induction us with
 | nil=>rfl
 | cons u us ih=>
  rw[List.flatMap_cons,List.filter_cons,ih]
  by_cases h:H u = []
  ·rw[if_neg (by simp [h])];simp [h]
  ·rw[if_pos (by simp [h]),List.flatMap_cons]
end
section
open Go.RowKit Go.Shelf
attribute [local go_sem] Oper.semAt_some
attribute [local irreducible] wpQuiet
theorem r18has_any(w:World)(b:Nat)(v:Value)(xs:List Int)(h:Ints .u64 w b v xs)(t:Int):Calls Tryz.prog 134 #[v,.int .u64 t] w fun e w'=>e = .returned (.bool (xs.any fun x=>x == t))∧Fr N0 w w':=by
 obtain⟨a,off,cap,rfl,h1,h2,h3,-,h5,-⟩:=h
 obtain⟨n,hn⟩:∃ n,xs.length=n:=⟨_,rfl⟩
 have HN:=hhd hn;have HC:=hhd h5
 rw[hn] at h1 h3
 simp only [hn]
 clear h5 hn
 go_enter Tryz.func134,Tryz.ntmps134
 go_wp2
 go_loopw [5] (fun i wr=>∃ k:Nat,k≤n∧i = .int .i64 k∧Hid ((xs.take k).any (fun x=>x == t)=false)∧Fr N0 w wr) (fun i _=>n - (intOf i).toNat)
 case atStart=>exact⟨0,Nat.zero_le _,rfl,hhd (by simp),Fr.refl _ _⟩
 case round=>
  obtain⟨k,hk,rfl,hno,hfr⟩:=hrel
  by_cases hlt:k < n
  ·obtain rfl:=h3 (by omega)
   have hx:k < xs.length:=by rw[HN.out];exact hlt
   have e1:=hfr.cell id (HC.out k hx)
   have hsuc:(xs.take (k+1)).any (fun x=>x == t)=((xs.take k).any (fun x=>x == t) || xs[k] == t):=by rw[List.take_succ_eq_append_getElem hx,List.any_append];simp
   have hmem:xs[k] ∈ xs:=List.getElem_mem hx
   obtain⟨x,hx'⟩:∃ x,xs[k]=x:=⟨_,rfl⟩
   rw[hx'] at e1 hsuc hmem
   have hki:(k:Int) < (n:Int):=by omega
   have hin:x=t→xs.any (fun x=>x == t)=true:=fun e=>List.any_eq_true.2 ⟨x,hmem,by simpa using e⟩
   rw[hno.out] at hsuc
   have HS:=hhd hsuc;have HIN:=hhd hin;have HFR:=hhd hfr
   clear hsuc hno hx' hmem hx hin hfr
   by_cases e:x=t
   ·have HA:=hhd (HIN.out e)
    subst e
    clear HIN HS
    go_wp2
    go_ret
    exact⟨by rw[HA.out];rfl,HFR.out⟩
   ·have e':(x == t)=false:=by simpa using e
    go_wp2
    go_roundw
    case rel=>exact⟨k+1,by omega,by go_num,hhd (by rw[HS.out,e'];rfl),HFR.out⟩
    case measure=>simp [intOf];omega
  ·obtain rfl:k=n:=by omega
   have hki:¬(k:Int) < (k:Int):=by omega
   have hall:xs.any (fun x=>x == t)=false:=by have:=hno.out;rwa [← HN.out,List.take_length] at this
   have HALL:=hhd hall
   clear hall
   go_wp2
   go_ret
   exact⟨by rw[HALL.out];rfl,hfr⟩
def insGt(t:Int):List Int→List Int
 | []=>[t]
 | x :: l=>if t < x then t :: x :: l else x :: insGt t l
theorem insGt_put{t:Int}:∀ {L:List Int} (x:Int),(L.any fun y=>decide (t < y))=true→insGt t (L ++ [x])=insGt t L ++ [x]
 | [],_,h=>by simp at h
 | y :: L,x,h=>by
  unfold insGt
  by_cases hy:t < y
  ·simp [hy]
  ·simp only [List.cons_append,if_neg hy]
   have:(L.any fun y=>decide (t < y))=true:=by simpa [hy] using h
   rw[insGt_put x this]
theorem insGt_none{t:Int}:∀ {L:List Int},(L.any fun y=>decide (t < y))=false→insGt t L=L ++ [t]
 | [],_=>rfl
 | y :: L,h=>by
  have h':¬ t < y∧(L.any fun y=>decide (t < y))=false:=by simpa using h
  unfold insGt
  rw[if_neg h'.1,insGt_none h'.2];try rfl
theorem insGt_new{t:Int}:∀ {L:List Int} (x:Int),(L.any fun y=>decide (t < y))=false→t < x→insGt t (L ++ [x])=L ++ [t] ++ [x]
 | [],x,_,hx=>by simp [insGt,hx]
 | y :: L,x,h,hx=>by
  have h':¬ t < y∧(L.any fun y=>decide (t < y))=false:=by simpa using h
  simp only [List.cons_append]
  unfold insGt
  rw[if_neg h'.1,insGt_new x h'.2 hx];try rfl
theorem insGt_insBy{t:Int}:∀ {L:List Int},t ∉ L→insGt t L=insBy id t L
 | [],_=>rfl
 | x :: L,h=>by
  simp only [List.mem_cons,not_or] at h
  unfold insGt insBy
  by_cases hx:t < x
  ·rw[if_pos hx,if_pos (show id t≤id x from Int.le_of_lt hx)]
  ·rw[if_neg hx,if_neg (show ¬ id t≤id x from fun hh=>hx (by have:t≤x:=hh;have:=h.1;omega)),insGt_insBy h.2]
def riseO(t:Int)(L:List Int):List Int:=if (L.any fun y=>decide (t < y))=true then insGt t L else L
theorem riseO_put{t x:Int}{L:List Int}(h:(L.any fun y=>decide (t < y))=true):riseO t (L ++ [x])=riseO t L ++ [x]:=by
 unfold riseO
 rw[if_pos h,if_pos (by rw[List.any_append,h];rfl),insGt_put x h]
theorem riseO_no{t:Int}{L:List Int}(h:(L.any fun y=>decide (t < y))=false):riseO t L=L:=by
 unfold riseO;rw[if_neg (by rw[h];decide)]
theorem riseO_new{t x:Int}{L:List Int}(h:(L.any fun y=>decide (t < y))=false)(hx:t < x):riseO t (L ++ [x])=riseO t L ++ [t] ++ [x]:=by
 rw[riseO_no h]
 unfold riseO
 rw[if_pos (by rw[List.any_append];simp [hx]),insGt_new x h hx]
theorem riseO_old{t x:Int}{L:List Int}(h:(L.any fun y=>decide (t < y))=false)(hx:¬ t < x):riseO t (L ++ [x])=riseO t L ++ [x]:=by
 rw[riseO_no h,riseO_no (by rw[List.any_append,h];simp [hx])]
theorem any_snoc{t x:Int}{L:List Int}:((L ++ [x]).any fun y=>decide (t < y))=((L.any fun y=>decide (t < y)) || decide (t < x)):=by simp
theorem r18rise_any(w:World)(b:Nat)(v:Value)(xs:List Int)(h:Ints .u64 w b v xs)(hl:xs.length≤10000000000)(t:Int) :
  Calls Tryz.prog 136 #[v,.int .u64 t] w fun e w'=>∃ v',e = .returned v'∧w'.ownsRow w.heap.size 33 1 v' (insGt t xs).length ((insGt t xs).map (Value.int .u64))∧Fr N0 w w':=by
 obtain⟨i0,hi,hz0,hz1,hz2⟩:=info_parts ins4_info
 obtain⟨a,off,cap,rfl,h1,h2,h3,-,h5,-⟩:=h
 obtain⟨n,hn⟩:∃ n,xs.length=n:=⟨_,rfl⟩
 have HN:=hhd hn;have HC:=hhd h5
 rw[hn] at h1 h3 hl
 simp only [hn]
 clear h5 hn
 go_enter Tryz.func136,Tryz.ntmps136
 go_wp2
 go_loopw [5,6,7] (fun ov pv iv wr=>∃ (k c:Nat) (p:Bool) (os:List Int),k≤n∧iv = .int .i64 k∧pv = .bool p∧Hid (((xs.take k).any fun y=>decide (t < y))=p)∧c≤k+1∧Hid (os=riseO t (xs.take k))∧Hid (c=os.length)∧Hid (wr.ownsRow w.heap.size 33 1 ov c (os.map (Value.int .u64)))∧Hid (Fr N0 w wr)) (fun _ _ iv _=>n - (intOf iv).toNat)
 case atStart=>exact⟨0,0,false,[],Nat.zero_le _,rfl,rfl,hhd (by simp),by omega,hhd (by simp [riseO]),hhd rfl,World.ownsRow_nil _ _ _ _,Fr.refl _ _⟩
 case round=>
  obtain⟨k,c,p,os,hk,rfl,rfl,hp,hc,ho,hcl,hrow,hfr⟩:=hrel
  obtain⟨oa,oc,rfl⟩:=row_form hrow.out
  have hwz:=hfr.out.size
  by_cases hlt:k < n
  ·obtain rfl:=h3 (by omega)
   have hx:k < xs.length:=by rw[HN.out];exact hlt
   have e1:=hfr.out.cell id (HC.out k hx)
   have hts:=List.take_succ_eq_append_getElem hx
   obtain⟨x,hx'⟩:∃ x,xs[k]=x:=⟨_,rfl⟩
   rw[hx'] at e1 hts
   obtain⟨L,hL⟩:∃ L,xs.take k=L:=⟨_,rfl⟩
   obtain⟨L',hL'⟩:∃ L,xs.take (k+1)=L:=⟨_,rfl⟩
   rw[hL,hL'] at hts
   have hbw:b < w.heap.size:=lt_of_cell (HC.out k hx)
   have hki:(k:Int) < (n:Int):=by omega
   have hpo:=hp.out
   have hoo:=ho.out
   rw[hL] at hpo hoo
   have HTS:=hhd hts;have HFR:=hhd hfr.out;have HP:=hhd hpo;have HO:=hhd hoo;have HCL:=hhd hcl.out
   have HL':=hhd hL'
   have hLl:L.length=k:=by rw[← hL,List.length_take];omega
   have hrw:=hrow.out
   clear hts hfr hrow hx' hx hp ho hcl hpo hoo hL hL'
   cases p with
   | true=>
    go_wp2_with (at_builtin;go_loud (refine wpList_append_lies _ rfl _ _ 35 rfl (w.heap.size) 33 i0 (.int .u64 0) 1 8 Tryz.underlying35 hi hz0 hz1 hz2 rfl (by decide) (.slice oa c oc) (c) _ rfl (hrw.alloc _) ⟨wr.heap.size,0,none⟩ 1 1 [.int .u64 x] rfl rfl (World.news_of_block (cs:=#[.int .u64 x]) (t:=33) (fr:=(0,0)) (heap_alloc_new wr _)) (by simp [Value.oneCell']) (by omega) (by unfold maxLen;omega) (by omega) (by simp;omega) (wr.heap.size+1) (by simp) ?_);intro g1 cap1 w3 hown3 hgrow3 hfresh3 hlt3)
    go_roundw
    case rel=>
     have hfa:Fr (fun j=>(Value.slice oa c oc).ownBlock=some j) _ w3:=(Fr.refl _ _).grown hgrow3 fun j e=>.inl e
     exact⟨k+1,c+1,true,os ++ [x],by omega,by go_num,rfl,hhd (by rw[HL'.out,HTS.out,any_snoc,HP.out];rfl),by omega,hhd (by rw[HL'.out,HTS.out,riseO_put HP.out,HO.out]),hhd (by rw[HCL.out];simp),hhd (by rw[List.map_append];exact hown3),(HFR.out.alloc _).trans hfa fun j hj=>.inr (by have:=(ownsRow_lt hrw _ hj).1;omega)⟩
    case measure=>simp [intOf];omega
   | false=>
    have hck:Hid (c=k):=hhd (by rw[HCL.out,HO.out,riseO_no HP.out,hLl])
    by_cases htx:t < x
    ·go_wp2_with (first
      |(at_builtin;go_loud (refine wpList_append_lies _ rfl _ _ 35 rfl (w.heap.size) 33 i0 (.int .u64 0) 1 8 Tryz.underlying35 hi hz0 hz1 hz2 rfl (by decide) (.slice oa c oc) (c) _ rfl (hrw.alloc _) ⟨wr.heap.size,0,none⟩ 1 1 [.int .u64 t] rfl rfl (World.news_of_block (cs:=#[.int .u64 t]) (t:=33) (fr:=(0,0)) (heap_alloc_new wr _)) (by simp [Value.oneCell']) (by omega) (by unfold maxLen;omega) (by omega) (by simp;omega) (wr.heap.size+1) (by simp) ?_);intro g1 cap1 w3 hown3 hgrow3 hfresh3 hlt3;go_loud (have hfa3:Fr (fun j=>(Value.slice oa c oc).ownBlock=some j) _ w3:=(Fr.refl _ _).grown hgrow3 fun j e=>.inl e;have e1':=hfa3.cell (fun hj=>Nat.lt_irrefl _ (Nat.lt_of_lt_of_le hbw (ownsRow_lt hrw _ hj).1)) (((Fr.refl N0 wr).alloc _).cell id e1);have hz3:wr.heap.size+1≤w3.heap.size:=(by have h:=hfa3.size;rwa [World.size_alloc] at h)))
      |(at_builtin;go_loud (refine wpList_append_lies _ rfl _ _ 35 rfl (w.heap.size) 33 i0 (.int .u64 0) 1 8 Tryz.underlying35 hi hz0 hz1 hz2 rfl (by decide) (.slice (some ⟨g1,0,none⟩) (c+1) cap1) (c+1) _ rfl (hown3.alloc _) ⟨w3.heap.size,0,none⟩ 1 1 [.int .u64 x] rfl rfl (World.news_of_block (cs:=#[.int .u64 x]) (t:=33) (fr:=(0,0)) (heap_alloc_new w3 _)) (by simp [Value.oneCell']) (by omega) (by unfold maxLen;omega) (by omega) (by simp;omega) (w3.heap.size+1) (by simp) ?_);intro g2 cap2 w4 hown4 hgrow4 hfresh4 hlt4))
     go_roundw
     case rel=>
      have hfb:Fr (fun j=>(Value.slice (some ⟨g1,0,none⟩) (c+1) cap1).ownBlock=some j) _ w4:=(Fr.refl _ _).grown hgrow4 fun j e=>.inl e
      exact⟨k+1,c+1+1,true,os ++ [t] ++ [x],by omega,by go_num,rfl,hhd (by rw[HL'.out,HTS.out,any_snoc,HP.out];simp [htx]),by have:=hck.out;omega,hhd (by rw[HL'.out,HTS.out,riseO_new HP.out htx,HO.out]),hhd (by rw[HCL.out];simp),hhd (by rw[List.map_append,List.map_append];exact hown4),(((HFR.out.alloc _).trans hfa3 fun j hj=>.inr (by have:=(ownsRow_lt hrw _ hj).1;omega)).alloc _).trans hfb fun j hj=>.inr (by have:=(ownsRow_lt hown3 _ hj).1;omega)⟩
     case measure=>simp [intOf];omega
    ·go_wp2_with (at_builtin;go_loud (refine wpList_append_lies _ rfl _ _ 35 rfl (w.heap.size) 33 i0 (.int .u64 0) 1 8 Tryz.underlying35 hi hz0 hz1 hz2 rfl (by decide) (.slice oa c oc) (c) _ rfl (hrw.alloc _) ⟨wr.heap.size,0,none⟩ 1 1 [.int .u64 x] rfl rfl (World.news_of_block (cs:=#[.int .u64 x]) (t:=33) (fr:=(0,0)) (heap_alloc_new wr _)) (by simp [Value.oneCell']) (by omega) (by unfold maxLen;omega) (by omega) (by simp;omega) (wr.heap.size+1) (by simp) ?_);intro g1 cap1 w3 hown3 hgrow3 hfresh3 hlt3)
     go_roundw
     case rel=>
      have hfa:Fr (fun j=>(Value.slice oa c oc).ownBlock=some j) _ w3:=(Fr.refl _ _).grown hgrow3 fun j e=>.inl e
      exact⟨k+1,c+1,false,os ++ [x],by omega,by go_num,rfl,hhd (by rw[HL'.out,HTS.out,any_snoc,HP.out];simp [htx]),by omega,hhd (by rw[HL'.out,HTS.out,riseO_old HP.out htx,HO.out]),hhd (by rw[HCL.out];simp),hhd (by rw[List.map_append];exact hown3),(HFR.out.alloc _).trans hfa fun j hj=>.inr (by have:=(ownsRow_lt hrw _ hj).1;omega)⟩
     case measure=>simp [intOf];omega
  ·obtain rfl:k=n:=by omega
   have hki:¬(k:Int) < (k:Int):=by omega
   have hfull:xs.take k=xs:=by rw[← HN.out,List.take_length]
   have hpo:=hp.out;have hoo:=ho.out
   rw[hfull] at hpo hoo
   have HP:=hhd hpo;have HO:=hhd hoo;have HCL:=hhd hcl.out;have HFR:=hhd hfr.out
   have hrw:=hrow.out
   clear hp ho hpo hoo hfull hrow hcl hfr
   cases p with
   | true=>
    have hres:os=insGt t xs:=by rw[HO.out];unfold riseO;rw[if_pos HP.out]
    subst hres
    go_wp2
    go_ret
    exact⟨_,rfl,by rw[← HCL.out];exact hrw,HFR.out⟩
   | false=>
    have hres:insGt t xs=os ++ [t]:=by rw[HO.out,riseO_no HP.out,insGt_none HP.out]
    have HRES:=hhd hres
    clear hres
    go_wp2_with (at_builtin;go_loud (refine wpList_append_lies _ rfl _ _ 35 rfl (w.heap.size) 33 i0 (.int .u64 0) 1 8 Tryz.underlying35 hi hz0 hz1 hz2 rfl (by decide) (.slice oa c oc) (c) _ rfl (hrw.alloc _) ⟨wr.heap.size,0,none⟩ 1 1 [.int .u64 t] rfl rfl (World.news_of_block (cs:=#[.int .u64 t]) (t:=33) (fr:=(0,0)) (heap_alloc_new wr _)) (by simp [Value.oneCell']) (by omega) (by unfold maxLen;omega) (by omega) (by simp;omega) (wr.heap.size+1) (by simp) ?_);intro g1 cap1 w3 hown3 hgrow3 hfresh3 hlt3)
    go_ret
    have hfa:Fr (fun j=>(Value.slice oa c oc).ownBlock=some j) _ w3:=(Fr.refl _ _).grown hgrow3 fun j e=>.inl e
    refine⟨_,rfl,?_,(HFR.out.alloc _).trans hfa fun j hj=>.inr (by have:=(ownsRow_lt hrw _ hj).1;omega)⟩
    rw[HRES.out,List.length_append,← HCL.out,List.map_append]
    exact hown3
theorem r18Rise_any(w:World)(b:Nat)(v:Value)(xs:List Int)(h:Ints .u64 w b v xs)(hl:xs.length≤10000000000)(t:Int)(ht:(Lit.int .u64 t).wf=true) :
  Calls Tryz.prog 178 #[v,.int .u64 t] w fun e w'=>∃ v' b',e = .returned v'∧Ints .u64 w' b' v' (if t ∈ xs then xs else insBy id t xs)∧Fr N0 w w':=by
 have hh:=fun W (hf:Fr N0 w W)=>r18has_any W b v xs (h.fr0 hf) t
 have hr:=fun W (hf:Fr N0 w W)=>r18rise_any W b v xs (h.fr0 hf) hl t
 have hwf:∀ x ∈ xs,(Lit.int .u64 x).wf=true:=by obtain⟨-,-,-,-,-,-,-,-,-,g⟩:=h;exact g
 have hin:(xs.any fun x=>x == t)=true↔t ∈ xs:=by simp
 have HH:=hhd hh;have HR:=hhd hr;have HI:=hhd h;have HWF:=hhd hwf;have HIN:=hhd hin
 obtain⟨q,hq⟩:∃ q,(xs.any fun x=>x == t)=q:=⟨_,rfl⟩
 simp only [hq] at HH
 rw[hq] at HIN
 clear hh hr h hwf hin hq
 go_enter Tryz.func178,Tryz.ntmps178
 go_wp2_with fail
 refine(HH.out _ (Fr.refl _ _)).mono ?_
 rintro e w1 ⟨rfl,hf1⟩
 have HF1:=hhd hf1
 clear hf1
 cases q with
 | true=>
  have ht':t ∈ xs:=HIN.out.1 rfl
  have HT:=hhd ht'
  clear ht'
  go_wp2_with fail
  (try go_ret)
  exact⟨_,rfl,⟨b,by first | exact HI.out.fr0 HF1.out | (rw[if_pos HT.out];exact HI.out.fr0 HF1.out)⟩,HF1.out⟩
 | false=>
  have ht':¬ t ∈ xs:=fun h=>by have:=HIN.out.2 h;cases this
  have HT:=hhd ht'
  clear ht'
  go_wp2_with fail
  refine(HR.out _ HF1.out).mono ?_
  rintro e w2 ⟨v',rfl,hrow,hf2⟩
  have HROW:=hhd hrow;have HF2:=hhd hf2
  clear hrow hf2
  go_wp2_with fail
  (try go_ret)
  have hrow:=HROW.out
  rw[insGt_insBy HT.out] at hrow
  obtain⟨b',-,hI⟩:=ints_rowH hrow fun x hx=>(insBy_mem.1 hx).elim (fun e=>e ▸ ht) (HWF.out x)
  exact⟨_,rfl,⟨b',by first | exact hI | (rw[if_neg HT.out];exact hI)⟩,HF1.out.then0 HF2.out⟩
end
section
open Classical in
noncomputable def insU(os:List Val)(y:Val):List Val:=if y ∈ os then os else os.take (posV y os) ++ y :: os.drop (posV y os)
noncomputable def srtV(l:List Val):List Val:=l.foldl insU []
theorem srtV_snoc(l:List Val)(y:Val):srtV (l ++ [y])=insU (srtV l) y:=by unfold srtV;rw[List.foldl_append];rfl
theorem insU_rises{os:List Val}{y:Val}(h:RisesV os):RisesV (insU os y):=by
 unfold insU
 split
 ·exact h
 ·rename_i hn;exact risesV_ins h hn
theorem srtV_rises(l:List Val):RisesV (srtV l):=by
 unfold srtV
 suffices ∀ (zs os:List Val),RisesV os→RisesV (zs.foldl insU os) from this l [] List.Pairwise.nil
 intro zs
 induction zs with
 | nil=>intro os h;exact h
 | cons z zs ih=>intro os h;exact ih _ (insU_rises h)
theorem insU_mem{os:List Val}{y z:Val}:z ∈ insU os y↔z=y∨z ∈ os:=by
 unfold insU
 split
 ·rename_i h
  constructor
  ·exact .inr
  ·rintro(rfl | h')
   ·exact h
   ·exact h'
 ·have e:=List.take_append_drop (posV y os) os
  constructor
  ·intro hz
   rcases List.mem_append.1 hz with h | h
   ·exact .inr (List.mem_of_mem_take h)
   ·rcases List.mem_cons.1 h with h | h
    ·exact .inl h
    ·exact .inr (List.mem_of_mem_drop h)
  ·rintro(rfl | h)
   ·simp
   ·rw[← e] at h
    rcases List.mem_append.1 h with h | h
    ·exact List.mem_append_left _ h
    ·exact List.mem_append_right _ (List.mem_cons_of_mem _ h)
theorem insU_len(os:List Val)(y:Val):(insU os y).length≤os.length+1:=by
 unfold insU
 split
 ·omega
 ·have e:=congrArg List.length (List.take_append_drop (posV y os) os)
  simp only [List.length_append,List.length_cons] at e ⊢
  omega
theorem srtV_mem{l:List Val}{z:Val}:z ∈ srtV l→z ∈ l:=by
 unfold srtV
 suffices ∀ (zs os:List Val),z ∈ zs.foldl insU os→z ∈ os∨z ∈ zs from fun h=>(this l [] h).elim (fun h=>by cases h) id
 intro zs
 induction zs with
 | nil=>intro os h;exact .inl h
 | cons y zs ih=>
  intro os h
  rcases ih _ h with h | h
  ·rcases insU_mem.1 h with rfl | h
   ·exact .inr (by simp)
   ·exact .inl h
  ·exact .inr (List.mem_cons_of_mem _ h)
theorem srtV_len(l:List Val):(srtV l).length≤l.length:=by
 unfold srtV
 suffices ∀ (zs os:List Val),(zs.foldl insU os).length≤os.length+zs.length from by have:=this l [];simpa using this
 intro zs
 induction zs with
 | nil=>intro os;simp
 | cons y zs ih=>
  intro os
  have h1:=ih (insU os y)
  have h2:=insU_len os y
  simp only [List.foldl_cons,List.length_cons]
  omega
theorem posV_eq{os:List Val}{y:Val}{k:Nat}(hk:k≤os.length)(h1:∀ j (h:j < os.length),j < k→vcmp os[j] y < 0)(h2:∀ h:k < os.length,¬ vcmp os[k] y < 0):posV y os=k:=by
 unfold posV
 induction os generalizing k with
 | nil=>simp at hk ⊢;omega
 | cons z os ih=>
  cases k with
  | zero=>
   have:=h2 (by simp)
   simp only [List.getElem_cons_zero] at this
   simp [List.takeWhile_cons,this]
  | succ k=>
   have h0:=h1 0 (by simp) (by omega)
   simp only [List.getElem_cons_zero] at h0
   rw[List.takeWhile_cons,if_pos (by simpa using h0),List.length_cons]
   congr 1
   exact ih (by simpa using hk) (fun j h hj=>by have:=h1 (j+1) (by simpa using h) (by omega);simpa using this) (fun h=>by have:=h2 (by simpa using h);simpa using this)
theorem rises_at{os:List Val}(h:RisesV os){i j:Nat}(hi:i < os.length)(hj:j < os.length)(hij:i < j):vcmp os[i] os[j] < 0:=List.pairwise_iff_getElem.1 h i j hi hj hij
theorem insU_new{os:List Val}{y:Val}(hr:RisesV os){k:Nat}(hk:k≤os.length)(h1:∀ j (h:j < os.length),k≤j→0 < vcmp os[j] y)(h2:∀ h:k - 1 < os.length,0 < k→vcmp os[k - 1] y < 0):insU os y=os.take k ++ y :: os.drop k:=by
 have hlt:∀ j (h:j < os.length),j < k→vcmp os[j] y < 0:=fun j h hj=>by
  have hl:=h2 (by omega) (by omega)
  by_cases e:j=k - 1
  ·subst e;exact hl
  ·exact vcmp_trans (rises_at hr h (by omega) (by omega)) hl
 have hp:posV y os=k:=posV_eq hk hlt fun h=>by have:=h1 k h (Nat.le_refl _);omega
 have hn:y ∉ os:=fun hm=>by
  obtain⟨j,hj,e⟩:=List.mem_iff_getElem.1 hm
  have hz:vcmp os[j] y=0:=vcmp_zero.2 e
  by_cases h:j < k
  ·have:=hlt j hj h;omega
  ·have:=h1 j hj (by omega);omega
 unfold insU
 rw[if_neg hn,hp]
open Classical in
noncomputable def neV(y z:Val):Bool:=decide (z≠y)
theorem neV_true{y z:Val}(h:z≠y):neV y z=true:=by unfold neV;simpa using h
theorem neV_same(y:Val):neV y y=false:=by unfold neV;simp
noncomputable def behF(x:Wr)(list:Bool)(z:Val):Bool:=neV x.val z &&(list || x.del)
noncomputable def behV(xs:List Val)(x:Wr)(list:Bool):List Val:=if x.del=true then xs.filter (behF x list) else srtV (xs.filter (behF x list) ++ [x.val])
theorem filter_ne_erase{xs:List Val}{y:Val}(h:RisesV xs)(hm:y ∈ xs):xs.filter (neV y)=xs.eraseIdx (posV y xs):=by
 obtain⟨hk,he⟩:=(there_iff h).1 hm
 have e1:xs.eraseIdx (posV y xs)=xs.take (posV y xs) ++ xs.drop (posV y xs+1):=List.eraseIdx_eq_take_drop_succ _ _
 have e2:xs=xs.take (posV y xs) ++ y :: xs.drop (posV y xs+1):=by
  have:=List.drop_eq_getElem_cons hk
  rw[he] at this
  rw[← this,List.take_append_drop]
 have hlt:∀ z ∈ xs.take (posV y xs),z≠y:=fun z hz e=>by
  obtain⟨j,hj,ej⟩:=List.mem_iff_getElem.1 hz
  rw[List.length_take] at hj
  rw[List.getElem_take] at ej
  have h1:=posV_lt (x:=y) (l:=xs) j (by omega) (by omega)
  have h2:vcmp xs[j] y=0:=vcmp_zero.2 (ej.trans e)
  omega
 have hgt:∀ z ∈ xs.drop (posV y xs+1),z≠y:=fun z hz e=>by
  obtain⟨j,hj,ej⟩:=List.mem_iff_getElem.1 hz
  rw[List.length_drop] at hj
  rw[List.getElem_drop] at ej
  have h1:=rises_at h hk (show posV y xs+1+j < xs.length by omega) (by omega)
  rw[he,ej,e] at h1
  have h2:vcmp y y=0:=vcmp_zero.2 rfl
  omega
 rw[e1]
 conv=>lhs;rw[e2]
 rw[List.filter_append,List.filter_cons]
 have f1:(xs.take (posV y xs)).filter (neV y)=xs.take (posV y xs):=List.filter_eq_self.2 fun z hz=>neV_true (hlt z hz)
 have f2:(xs.drop (posV y xs+1)).filter (neV y)=xs.drop (posV y xs+1):=List.filter_eq_self.2 fun z hz=>neV_true (hgt z hz)
 rw[f1,f2,if_neg (by rw[neV_same];decide)]
theorem filter_ne_all{xs:List Val}{y:Val}(hm:y ∉ xs):xs.filter (neV y)=xs:=List.filter_eq_self.2 fun z hz=>neV_true fun e=>hm (e ▸ hz)
theorem behF_ne{x:Wr}{list:Bool}(h:(list || x.del)=true):behF x list=neV x.val:=by
 funext z
 unfold behF
 rw[h,Bool.and_true]
theorem risesV_unique:∀ {l m:List Val},RisesV l→RisesV m→(∀ x,x ∈ l↔x ∈ m)→l=m
 | [],[],_,_,_=>rfl
 | [],y :: m,_,_,h=>by have:=(h y).2 (by simp);cases this
 | x :: l,[],_,_,h=>by have:=(h x).1 (by simp);cases this
 | x :: l,y :: m,hl,hm,h=>by
  obtain⟨l1,l2⟩:=List.pairwise_cons.1 hl
  obtain⟨m1,m2⟩:=List.pairwise_cons.1 hm
  have irr:∀ z:Val,¬ vcmp z z < 0:=fun z=>by rw[vcmp_zero.2 rfl];decide
  have e:x=y:=by
   rcases List.mem_cons.1 ((h x).1 (by simp)) with e | hx
   ·exact e
   ·rcases List.mem_cons.1 ((h y).2 (by simp)) with e | hy
    ·exact e.symm
    ·exact absurd (vcmp_trans (l1 y hy) (m1 x hx)) (irr x)
  subst e
  congr 1
  refine risesV_unique l2 m2 fun z=>?_
  constructor
  ·intro hz
   rcases List.mem_cons.1 ((h z).1 (List.mem_cons_of_mem _ hz)) with e | h'
   ·subst e;exact absurd (l1 z hz) (irr z)
   ·exact h'
  ·intro hz
   rcases List.mem_cons.1 ((h z).2 (List.mem_cons_of_mem _ hz)) with e | h'
   ·subst e;exact absurd (m1 z hz) (irr z)
   ·exact h'
theorem srtV_mem_iff{l:List Val}{z:Val}:z ∈ srtV l↔z ∈ l:=by
 refine⟨srtV_mem,fun h=>?_⟩
 unfold srtV
 suffices ∀ (zs os:List Val),z ∈ os∨z ∈ zs→z ∈ zs.foldl insU os from this l [] (.inr h)
 intro zs
 induction zs with
 | nil=>intro os h;exact h.elim id fun h=>by cases h
 | cons y zs ih=>
  intro os h
  refine ih _ ?_
  rcases h with h | h
  ·exact .inl (insU_mem.2 (.inr h))
  ·rcases List.mem_cons.1 h with rfl | h
   ·exact .inl (insU_mem.2 (.inl rfl))
   ·exact .inr h
theorem behV_wrV{xs:List Val}{x:Wr}{list:Bool}(h:RisesV xs):behV xs x list=wrV xs x list:=by
 unfold behV wrV
 by_cases hd:x.del=true
 ·simp only [if_pos hd]
  rw[behF_ne (by rw[hd];simp)]
  by_cases hm:x.val ∈ xs
  ·rw[if_pos hm];exact filter_ne_erase h hm
  ·rw[if_neg hm];exact filter_ne_all hm
 ·have hd':x.del=false:=by simpa using hd
  simp only [if_neg hd]
  cases list with
  | false=>
   rw[if_pos rfl]
   have e:xs.filter (behF x false) = []:=List.filter_eq_nil_iff.2 fun z hz=>by simp [behF,hd']
   rw[e]
   simp [srtV,insU,posV]
  | true=>
   rw[if_neg (by decide),behF_ne (by simp)]
   refine(risesV_unique (m:=insU xs x.val) (srtV_rises _) (insU_rises h) fun z=>?_).trans rfl
   rw[srtV_mem_iff,insU_mem,List.mem_append,List.mem_filter,List.mem_singleton]
   constructor
   ·rintro(⟨h2,-⟩ | h2)
    ·exact .inr h2
    ·exact .inl h2
   ·rintro(h2 | h2)
    ·exact .inr h2
    ·by_cases e:z=x.val
     ·exact .inr e
     ·exact .inl ⟨h2,neV_true e⟩
end
section
open Go.RowKit Go.Shelf Go.Maps
attribute [local go_sem] Oper.semAt_some
attribute [local irreducible] wpQuiet
theorem may_cases{v:Val}(h:valMay v=true):(v.k=1∧v.n=0∧v.s=⟨#[]⟩∧v.u=0)∨(v.k=2∧v.b=false∧v.s=⟨#[]⟩∧v.u=0)∨(v.k=3∧v.b=false∧v.n=0∧v.u=0)∨(v.k=4∧v.b=false∧v.n=0∧v.s=⟨#[]⟩):=by
 have hsz:∀ s:ByteArray,s.size=0→s=⟨#[]⟩:=fun s h=>by
  obtain⟨a⟩:=s
  have:a=#[]:=Array.eq_empty_of_size_eq_zero h
  rw[this]
 unfold valMay at h
 split at h
 ·rename_i h1
  simp only [Bool.and_eq_true,decide_eq_true_eq] at h
  exact .inl ⟨by simpa using h1,h.1.1,hsz _ h.1.2,h.2⟩
 ·split at h
  ·rename_i h1
   simp only [Bool.and_eq_true,decide_eq_true_eq,Bool.not_eq_true'] at h
   exact .inr (.inl ⟨by simpa using h1,h.1.1,hsz _ h.1.2,h.2⟩)
  ·split at h
   ·rename_i h1
    simp only [Bool.and_eq_true,decide_eq_true_eq,Bool.not_eq_true'] at h
    exact .inr (.inr (.inl ⟨by simpa using h1,h.1.1.1,h.1.1.2,h.1.2⟩))
   ·split at h
    ·rename_i h1
     simp only [Bool.and_eq_true,decide_eq_true_eq,Bool.not_eq_true'] at h
     exact .inr (.inr (.inr ⟨by simpa using h1,h.1.1.1,h.1.1.2,hsz _ h.1.2⟩))
    ·cases h
theorem r3Cmp_same(a:Val)(W:World):Calls Tryz.prog 261 #[.agg a.enc.toArray,.agg a.enc.toArray] W fun e w'=>e = .returned (.int .i64 0)∧Fr N0 W w':=by
 have he:=fun W=>eql_val a a W
 rw[show eqVal a a=true by simp [eqVal]] at he
 obtain⟨vk,vb,vn,vs,vu⟩:=a
 simp only [Val.enc] at he ⊢
 go_enter Tryz.func261,Tryz.ntmps261
 go_wp2
 go_ret
 exact⟨rfl,((Fr.refl _ _).alloc _).alloc _⟩
theorem r3Cmp_any(a b:Val)(ha:valMay a=true)(hb:valMay b=true)(W:World):Calls Tryz.prog 261 #[.agg a.enc.toArray,.agg b.enc.toArray] W fun e w'=>e = .returned (.int .i64 (vcmp a b))∧Fr N0 W w':=by
 by_cases hab:a=b
 ·subst hab
  rw[show vcmp a a=0 from vcmp_zero.2 rfl]
  exact r3Cmp_same a W
 ·have he:=fun W=>eql_val a b W
  rw[show eqVal a b=false by simp [eqVal,hab]] at he
  have ka:=may_cases ha
  have kb:=may_cases hb
  obtain⟨ak,ab,an,sa,au⟩:=a
  obtain⟨bk,bb,bn,sb,bu⟩:=b
  simp only at ka kb
  clear ha hb
  simp only [Val.enc] at he ⊢
  have S0:cmpS (⟨#[]⟩:ByteArray) ⟨#[]⟩=0:=cmpS_zero.2 rfl
  rcases ka with⟨rfl,rfl,rfl,rfl⟩ | ⟨rfl,rfl,rfl,rfl⟩ | ⟨rfl,rfl,rfl,rfl⟩ | ⟨rfl,rfl,rfl,rfl⟩ <;> rcases kb with⟨rfl,rfl,rfl,rfl⟩ | ⟨rfl,rfl,rfl,rfl⟩ | ⟨rfl,rfl,rfl,rfl⟩ | ⟨rfl,rfl,rfl,rfl⟩
  case inl.inl=>
   cases ab <;> cases bb
   ·exact absurd rfl hab
   ·go_enter Tryz.func261,Tryz.ntmps261
    go_wp2
    go_ret
    exact⟨by simp [vcmp,cmpI,S0,firstNZ],((Fr.refl _ _).alloc _).alloc _⟩
   ·go_enter Tryz.func261,Tryz.ntmps261
    go_wp2
    go_ret
    exact⟨by simp [vcmp,cmpI,S0,firstNZ],((Fr.refl _ _).alloc _).alloc _⟩
   ·exact absurd rfl hab
  case inr.inl.inr.inl=>
   by_cases hl:an < bn
   ·go_enter Tryz.func261,Tryz.ntmps261
    go_wp2
    go_ret
    exact⟨by simp [vcmp,cmpI,S0,firstNZ,hl],((Fr.refl _ _).alloc _).alloc _⟩
   ·have hl2:bn < an:=by
     have:an≠bn:=fun e=>hab (by rw[e])
     omega
    have hl3:¬ an=bn:=by omega
    have hc:cmpI an bn=1:=by unfold cmpI;rw[if_neg hl,if_pos hl2]
    have HV:Hid (vcmp ⟨2,false,an,⟨#[]⟩,0⟩ ⟨2,false,bn,⟨#[]⟩,0⟩=1):=hhd (by unfold vcmp;rw[hc];simp [cmpI_zero.2,S0,firstNZ])
    clear hc
    go_enter Tryz.func261,Tryz.ntmps261
    go_wp2
    go_ret
    exact⟨by rw[HV.out];rfl,((Fr.refl _ _).alloc _).alloc _⟩
  case inr.inr.inl.inr.inr.inl=>
   have hne:¬ sa.toList=sb.toList:=toList_inj fun e=>hab (by rw[e])
   have hne':(sa.toList == sb.toList)=false:=by simpa using hne
   cases hl:Op.bytesLess sa.toList sb.toList with
   | true=>
    go_enter Tryz.func261,Tryz.ntmps261
    go_wp2
    go_ret
    exact⟨by simp [vcmp,cmpI,cmpS,firstNZ,hl],((Fr.refl _ _).alloc _).alloc _⟩
   | false=>
    go_enter Tryz.func261,Tryz.ntmps261
    go_wp2
    go_ret
    exact⟨by simp [vcmp,cmpI,cmpS,firstNZ,hl,hne'],((Fr.refl _ _).alloc _).alloc _⟩
  case inr.inr.inr.inr.inr.inr=>
   by_cases hl:au < bu
   ·go_enter Tryz.func261,Tryz.ntmps261
    go_wp2
    go_ret
    exact⟨by simp [vcmp,cmpI,S0,firstNZ,hl],((Fr.refl _ _).alloc _).alloc _⟩
   ·have hl2:bu < au:=by
     have:au≠bu:=fun e=>hab (by rw[e])
     omega
    have hl3:¬ au=bu:=by omega
    have hc:cmpI au bu=1:=by unfold cmpI;rw[if_neg hl,if_pos hl2]
    have HV:Hid (vcmp ⟨4,false,0,⟨#[]⟩,au⟩ ⟨4,false,0,⟨#[]⟩,bu⟩=1):=hhd (by unfold vcmp;rw[hc];simp [cmpI_zero.2,S0,firstNZ])
    clear hc
    go_enter Tryz.func261,Tryz.ntmps261
    go_wp2
    go_ret
    exact⟨by rw[HV.out];rfl,((Fr.refl _ _).alloc _).alloc _⟩
  all_goals
   go_enter Tryz.func261,Tryz.ntmps261
   go_wp2
   go_ret
   exact⟨by simp [vcmp,cmpI,firstNZ],((Fr.refl _ _).alloc _).alloc _⟩
def VRow(W:World)(base:Nat)(v:Value)(os:List Val):Prop:=W.ownsRow base 57 5 v os.length (os.flatMap Val.enc)
theorem VRow.fr{w w':World}{base:Nat}{v:Value}{os:List Val}{T:Nat→Prop}(h:VRow w base v os)(hf:Fr T w w')(ht:∀ k,v.ownBlock=some k→¬ T k):VRow w' base v os:=ownsRow_fr h hf ht
theorem VRow.form{W:World}{base:Nat}{v:Value}{os:List Val}(h:VRow W base v os)(h0:0 < os.length):∃ g cap,v = .slice (some ⟨g,0,none⟩) os.length cap∧base≤g:=by
 rcases h.2 with⟨_,e⟩ | ⟨g,cap,cur,e,hb,_⟩
 ·omega
 ·exact⟨g,cap,e,hb⟩
theorem VRow.vform{W:World}{base:Nat}{v:Value}{os:List Val}(h:VRow W base v os):∃ a cap,v = .slice a os.length cap:=by
 rcases h.2 with⟨e,h0⟩ | ⟨g,cap,cur,e,_⟩
 ·exact⟨none,0,by rw[e,h0]⟩
 ·exact⟨_,cap,e⟩
theorem VRow.cells{W:World}{base g n cap:Nat}{os:List Val}(h:VRow W base (.slice (some ⟨g,0,none⟩) n cap) os)(hn:n=os.length)(i:Nat)(hi:i < os.length) :
  W.cell? ⟨g,i * 5,none⟩=some (.int .u8 os[i].k)∧W.cell? ⟨g,i * 5+1,none⟩=some (.bool os[i].b)∧W.cell? ⟨g,i * 5+2,none⟩=some (.int .i64 os[i].n)∧W.cell? ⟨g,i * 5+3,none⟩=some (.string os[i].s)∧W.cell? ⟨g,i * 5+4,none⟩=some (.int .u64 os[i].u):=by
 subst hn
 have hl:(os.flatMap Val.enc).length=os.length * 5:=flat_length val_len os
 have e:=fun c hc=>flat_get (enc:=Val.enc) (n:=5) val_len os i hi c hc
 refine⟨?_,?_,?_,?_,?_⟩
 ·have:=e 0 (by omega);rw[Nat.add_zero] at this;rw[h.cellAt _ (by omega),this];rfl
 ·rw[h.cellAt _ (by omega),e 1 (by omega)];rfl
 ·rw[h.cellAt _ (by omega),e 2 (by omega)];rfl
 ·rw[h.cellAt _ (by omega),e 3 (by omega)];rfl
 ·rw[h.cellAt _ (by omega),e 4 (by omega)];rfl
theorem VRow.some_cells{W:World}{base g n cap:Nat}{os:List Val}(h:VRow W base (.slice (some ⟨g,0,none⟩) n cap) os)(hn:n=os.length)(i:Nat)(hi:i < os.length) :
  ∃ q:Val,W.cell? ⟨g,i * 5,none⟩=some (.int .u8 q.k)∧W.cell? ⟨g,i * 5+1,none⟩=some (.bool q.b)∧W.cell? ⟨g,i * 5+2,none⟩=some (.int .i64 q.n)∧W.cell? ⟨g,i * 5+3,none⟩=some (.string q.s)∧W.cell? ⟨g,i * 5+4,none⟩=some (.int .u64 q.u):=⟨_,h.cells hn i hi⟩
abbrev vset(W:World)(g i:Nat)(q:Val):World:=((((W.setCell ⟨g,i * 5,none⟩ (.int .u8 q.k)).setCell ⟨g,i * 5+1,none⟩ (.bool q.b)).setCell ⟨g,i * 5+2,none⟩ (.int .i64 q.n)).setCell ⟨g,i * 5+3,none⟩ (.string q.s)).setCell ⟨g,i * 5+4,none⟩ (.int .u64 q.u)
theorem VRow.set{W:World}{base g n cap:Nat}{os:List Val}(h:VRow W base (.slice (some ⟨g,0,none⟩) n cap) os)(hn:n=os.length)(i:Nat)(hi:i < os.length)(q:Val) :
  VRow (vset W g i q) base (.slice (some ⟨g,0,none⟩) n cap) (os.set i q):=by
 subst hn
 have h1:=row_set_cells q.enc (i * 5) h (by rw[val_len,flat_length val_len];omega)
 have hl:=val_len q
 rw[flat_take val_len os i (by omega),hl,show i * 5+5=(i+1) * 5 by omega,flat_drop val_len os (i+1) (by omega)] at h1
 have e:(os.set i q).flatMap Val.enc=(os.take i).flatMap Val.enc ++ q.enc ++(os.drop (i+1)).flatMap Val.enc:=by
  rw[List.set_eq_take_append_cons_drop,if_pos hi,List.flatMap_append,List.flatMap_cons,List.append_assoc]
 unfold VRow
 rw[List.length_set,e]
 exact h1
theorem fr_vset{T:Nat→Prop}{A B:World}(h:Fr T A B)(g i:Nat)(q:Val)(ht:T g):Fr T A (vset B g i q):=
 ((((h.setCell (p:=⟨g,i * 5,none⟩) (.inl ht) _).setCell (p:=⟨g,i * 5+1,none⟩) (.inl ht) _).setCell (p:=⟨g,i * 5+2,none⟩) (.inl ht) _).setCell (p:=⟨g,i * 5+3,none⟩) (.inl ht) _).setCell (p:=⟨g,i * 5+4,none⟩) (.inl ht) _
def gapV(os:List Val)(j:Nat)(s:Val):List Val:=os.take j ++ s :: os.drop j
theorem gapV_len{os:List Val}{j:Nat}{s:Val}(h:j≤os.length):(gapV os j s).length=os.length+1:=by
 unfold gapV
 simp only [List.length_append,List.length_cons,List.length_take,List.length_drop];omega
theorem gapV_at{os:List Val}{j:Nat}{s:Val}(h:j < os.length+1)(hj:0 < j):∃ hh:j - 1 < (gapV os j s).length,(gapV os j s)[j - 1]=os[j - 1]:=by
 refine⟨by rw[gapV_len (by omega)];omega,?_⟩
 unfold gapV
 rw[List.getElem_append_left (by simp;omega)]
 simp
theorem gapV_move{os:List Val}{j:Nat}{s:Val}(h:j≤os.length)(hj:0 < j):(gapV os j s).set j os[j - 1]=gapV os (j - 1) os[j - 1]:=by
 unfold gapV
 have hl:(os.take j).length=j:=by simp;omega
 have e1:(os.take j ++ s :: os.drop j).set j os[j - 1]=os.take j ++ os[j - 1] :: os.drop j:=by
  rw[List.set_append_right _ _ (by omega),hl,Nat.sub_self];rfl
 rw[e1]
 have e2:os.take j=os.take (j - 1) ++ [os[j - 1]]:=by
  have:=List.take_succ_eq_append_getElem (show j - 1 < os.length by omega)
  rwa [show j - 1+1=j by omega] at this
 have e3:os.drop (j - 1)=os[j - 1] :: os.drop j:=by
  have:=List.drop_eq_getElem_cons (show j - 1 < os.length by omega)
  rwa [show j - 1+1=j by omega] at this
 rw[e3,e2,List.append_assoc];rfl
theorem gapV_put{os:List Val}{j:Nat}{s y:Val}(h:j≤os.length):(gapV os j s).set j y=gapV os j y:=by
 unfold gapV
 have hl:(os.take j).length=j:=by simp;omega
 rw[List.set_append_right _ _ (by omega),hl,Nat.sub_self];rfl
theorem gapV_end(os:List Val)(s:Val):gapV os os.length s=os ++ [s]:=by
 unfold gapV;simp
end
end Go.Proofs.YtefepfiijoafbaaGreat
