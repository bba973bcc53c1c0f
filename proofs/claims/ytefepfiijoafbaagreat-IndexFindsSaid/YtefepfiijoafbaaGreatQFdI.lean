/- FdL FdI -/
import Derived.Test.YtefepfiijoafbaaGreatQIxG
import Derived.Test.YtefepfiijoafbaaGreatQPtE
import Derived.Test.YtefepfiijoafbaaGreatQLxO
import Derived.Test.YtefepfiijoafbaaGreatQQuiet
set_option linter.unusedVariables false
set_option linter.unusedSimpArgs false
set_option maxRecDepth 100000
namespace Go.Proofs.YtefepfiijoafbaaGreat
open Go.RowKit Go.Shelf Go.Maps Go.Sort
theorem node_one{l:List Val}(h:VOk l)(y:Int):(l.filter fun v=>decide (v.k=4∧v.u=y)).length≤1:=by
 have hp:RisesV (l.filter fun v=>decide (v.k=4∧v.u=y)):=List.Pairwise.sublist List.filter_sublist h.rises
 have he:∀ v ∈ l.filter fun v=>decide (v.k=4∧v.u=y),v=nodeV y:=fun v hv=>by
  obtain⟨h1,h2⟩:=List.mem_filter.1 hv
  obtain⟨h3,h4⟩:=of_decide_eq_true h2
  rw[val_node (h.may v h1).1 h3,h4]
 generalize (l.filter fun v=>decide (v.k=4∧v.u=y))=m at hp he
 match m,hp,he with
 | [],_,_=>simp
 | [a],_,_=>simp
 | a :: b :: m,hp,he=>
  have h1:=(List.pairwise_cons.1 hp).1 b (by simp)
  rw[he a (by simp),he b (by simp),vcmp_zero.2 rfl] at h1
  exact absurd h1 (by decide)
theorem lookB_cons(H:Int→List Val)(k:Int)(ks:List Int)(y:Int):lookB (trsOf H (k :: ks)) y=((H k).filter fun v=>decide (v.k=4∧v.u=y)).map (fun _=>k) ++ lookB (trsOf H ks) y:=by
 rw[lookB_eq,lookB_eq]
 simp only [trsOf,List.flatMap_cons,List.filter_append,List.map_append,List.filter_map,List.map_map,Function.comp_def]
theorem lookB_key{H:Int→List Val}{ks:List Int}{y x:Int}(h:x ∈ lookB (trsOf H ks) y):x ∈ ks:=by
 rw[lookB_eq] at h
 simp only [List.mem_map,List.mem_filter,trsOf,List.mem_flatMap] at h
 obtain⟨⟨a,v⟩,⟨⟨k,hk,w,hw,e⟩,-⟩,rfl⟩:=h
 simp only [Prod.mk.injEq] at e
 obtain⟨rfl,-⟩:=e
 exact hk
theorem lookB_rises{H:Int→List Val}(hH:∀ u,VOk (H u))(y:Int):∀ {ks:List Int},RisesBy id ks→RisesBy id (lookB (trsOf H ks) y)
 | [],_=>by rw[lookB_eq];simp [trsOf,RisesBy]
 | k :: ks,h=>by
  obtain⟨h1,h2⟩:=List.pairwise_cons.1 h
  rw[lookB_cons]
  unfold RisesBy
  rw[List.pairwise_append]
  refine⟨?_,lookB_rises hH y h2,fun a ha b hb=>?_⟩
  ·have:=node_one (hH k) y
   generalize ((H k).filter fun v=>decide (v.k=4∧v.u=y))=m at this
   match m,this with
   | [],_=>simp
   | [a],_=>simp
  ·obtain⟨v,-,rfl⟩:=List.mem_map.1 ha
   exact h1 b (lookB_key hb)
theorem lookB_is{l:PL}{N:Nat}(hl:l.AtOk N){t:Int}{ks:List Int}(hks:NodesOf (haveAt l t) ks){u:Int}{bs:List Int}(hb:BacksAre l t u bs):lookB (trsOf (haveAt l t) ks) u=bs:=by
 have hok:=haveAt_ok hl t
 refine rises_unique (lookB_rises hok.ok u hks.rises) hb.rises fun x=>?_
 rw[lookB_mem hks,hb.mem,List.any_eq_true]
 refine exists_congr fun v=>and_congr_right fun hv=>?_
 have he:eqVal (nodeV u) v=true↔nodeV u=v:=by
  classical
  unfold eqVal
  simp
 rw[he]
 constructor
 ·rintro⟨h1,rfl⟩
  exact(val_node (((hok.ok x).may v hv).1) h1).symm
 ·intro e
  rw[← e]
  exact⟨rfl,rfl⟩
def findP(H:Int→List Val)(B:Int→List Int)(f:Fn)(u:Int):Prop:=
 if f.kind=2 then hasP H B f.back (-1) u
 else if f.kind=11 then (1:Int)≤(f.vals[0]?.map (·.n)).getD 0∧hasP H B f.back ((f.vals[0]?.map (·.n)).getD 0) u
 else anyP H (oneR f) u
theorem FindPost.congr{W:World}{E:Int}{mk:Prop}{P P':Int→Prop}{e:Ending}{w':World}(h:FindPost W E mk P e w')(hP:∀ u,P u↔P' u):FindPost W E mk P' e w':=by
 obtain rfl:P=P':=funext fun u=>propext (hP u)
 exact h
theorem findP_law{l:PL}{N:Nat}(hl:l.AtOk N){t:Int}{ks:List Int}(hks:NodesOf (haveAt l t) ks){f:Fn}(hm:fnMay f=0)(nbk:Int→Nat)(hnb:∀ u,∃ bs,BacksAre l t u bs∧nbk u=bs.length)(u:Int) :
  findP (haveAt l t) (lookB (trsOf (haveAt l t) ks)) f u↔FindsP l t f nbk u:=by
 obtain⟨bs,hbs,hn⟩:=hnb u
 have hB:=lookB_is hl hks hbs
 have hmem:lookB (trsOf (haveAt l t) ks) u≠[]→∃ x,∃ v ∈ haveAt l t x,v.k=4∧v.u=u:=fun h=>by
  obtain⟨x,xs,e⟩:=List.exists_cons_of_ne_nil h
  exact⟨x,(lookB_mem hks u x).1 (by rw[e];simp)⟩
 have hnk:nbk u=(lookB (trsOf (haveAt l t) ks) u).length:=by rw[hB,hn]
 generalize lookB (trsOf (haveAt l t) ks)=B at hmem hnk
 unfold findP FindsP findsR
 rw[hnk]
 generalize haveAt l t=H at hmem
 by_cases k2:f.kind=2
 ·rw[if_pos k2,if_pos k2]
  unfold hasP manyIs
  cases f.back
  ·simp only [Bool.false_eq_true,if_false]
   rw[decide_eq_true_eq,List.length_pos_iff]
   simp
   exact fun h=>.inl h
  ·simp only [if_true]
   rw[decide_eq_true_eq,List.length_pos_iff]
   simp
   exact fun h=>.inr (hmem h)
 ·rw[if_neg k2,if_neg k2]
  by_cases k11:f.kind=11
  ·rw[if_pos k11,if_pos k11]
   generalize (f.vals[0]?.map (·.n)).getD 0=n
   unfold hasP manyIs
   simp only [Bool.or_eq_true,Bool.and_eq_true,decide_eq_true_eq]
   cases f.back
   ·simp only [Bool.false_eq_true,if_false]
    rw[List.length_pos_iff]
    constructor
    ·rintro⟨h1,h2,h3⟩
     exact⟨.inl h2,h2,by omega⟩
    ·rintro⟨-,h2,h3⟩
     have:=List.length_pos_iff.2 h2
     exact⟨by omega,h2,.inr h3.symm⟩
   ·simp only [if_true]
    rw[List.length_pos_iff]
    constructor
    ·rintro⟨h1,h2,h3⟩
     exact⟨.inr (hmem h2),h2,by omega⟩
    ·rintro⟨-,h2,h3⟩
     have:=List.length_pos_iff.2 h2
     exact⟨by omega,h2,.inr h3.symm⟩
  ·rw[if_neg k11,if_neg k11]
   unfold anyP
   exact⟨fun h=>⟨.inl fun e=>by rw[e] at h;simp at h,h⟩,fun h=>h.2⟩
section
variable {W:World} {R:Nat→Prop} {p:Nat} {l:PL} {N:Nat} {t:Int} {ks:List Int} {fn:Fn} {vv uv sv:Value} {b:Nat} (h:FindPre W R p l N t ks fn vv uv sv b) (hN:N≤900000000) (hkd:(Lit.int .u8 fn.kind).wf=true)
include h hN hkd
theorem iFind_kinds:Calls Tryz.prog 41 #[.pointer (some ⟨p,0,none⟩),.agg (fn.enc vv uv sv),.int .u64 t] W (FindPost W (fnFits l.s fn) (t < l.marked) (findP (haveAt l t) (lookB (trsOf (haveAt l t) ks)) fn)):=by
 by_cases h0:fnFits l.s fn=0
 ·have hm:fnMay fn=0:=by
   unfold fnFits at h0
   by_cases hm:fnMay fn=0
   ·exact hm
   ·rw[if_pos hm] at h0;exact absurd h0 hm
  obtain⟨v1,v2,v3,v4⟩:=valsOk_at (fnMay_zero hm).2.2.2
  by_cases k2:fn.kind=2
  ·refine(ifind_has h k2).mono fun e w' hh=>hh.congr fun u=>?_
   unfold findP;rw[if_pos k2]
  by_cases k3:fn.kind=3
  ·refine(ifind_eq h k3).mono fun e w' hh=>hh.congr fun u=>?_
   unfold findP;rw[if_neg k2,if_neg (by omega)]
   unfold anyP oneR;simp only [k3,if_true]
  have hl0:0 < fn.vals.length:=by
   by_cases k10:fn.kind=10
   ·have:=v3 k10;omega
   ·have:=v2 k2 k3 k10;omega
  have e0:fn.vals[0]?=some fn.vals[0]:=List.getElem?_eq_getElem hl0
  have cmp:=fun(gf:FuncId) (c:Int→Int→Bool) hg eg hk=>ifind_cmp h fn.vals[0] e0 gf c hg eg hk
  by_cases k4:fn.kind=4
  ·refine(ifind_any h hN hl0 k4).mono fun e w' hh=>hh.congr fun u=>?_
   unfold findP;rw[if_neg k2,if_neg (by omega)]
   unfold anyP oneR;simp [k4,e0]
  by_cases k5:fn.kind=5
  ·refine(ifind_all h hN hl0 k5).mono fun e w' hh=>hh.congr fun u=>?_
   unfold findP;rw[if_neg k2,if_neg (by omega)]
   unfold anyP oneR;simp [k5,e0]
  by_cases k6:fn.kind=6
  ·refine(cmp 171 (fun a b=>decide (a < b)) fLt_any enters_fLt (by rw[k6];simp)).mono fun e w' hh=>hh.congr fun u=>?_
   unfold findP;rw[if_neg k2,if_neg (by omega)]
   unfold anyP oneR cmpP;simp [k6,e0]
  by_cases k7:fn.kind=7
  ·refine(cmp 172 (fun a b=>decide (a≤b)) fLe_any enters_fLe (by rw[k7];simp)).mono fun e w' hh=>hh.congr fun u=>?_
   unfold findP;rw[if_neg k2,if_neg (by omega)]
   unfold anyP oneR cmpP;simp [k7,e0]
  by_cases k8:fn.kind=8
  ·refine(cmp 173 (fun a b=>decide (b < a)) fGt_any enters_fGt (by rw[k8];simp)).mono fun e w' hh=>hh.congr fun u=>?_
   unfold findP;rw[if_neg k2,if_neg (by omega)]
   unfold anyP oneR cmpP;simp [k8,e0]
  by_cases k9:fn.kind=9
  ·refine(cmp 174 (fun a b=>decide (b≤a)) fGe_any enters_fGe (by rw[k9];simp)).mono fun e w' hh=>hh.congr fun u=>?_
   unfold findP;rw[if_neg k2,if_neg (by omega)]
   unfold anyP oneR cmpP;simp [k9,e0]
  by_cases k10:fn.kind=10
  ·have hl1:1 < fn.vals.length:=by have:=v3 k10;omega
   have e1:fn.vals[1]?=some fn.vals[1]:=List.getElem?_eq_getElem hl1
   refine(ifind_btw h k10 _ _ e0 e1).mono fun e w' hh=>hh.congr fun u=>?_
   unfold findP;rw[if_neg k2,if_neg (by omega)]
   unfold anyP oneR btwP;simp [k10,e0,e1]
  have k11:fn.kind=11:=by omega
  refine(ifind_cnt h k11 _ e0).mono fun e w' hh=>hh.congr fun u=>?_
  unfold findP;rw[if_neg k2,if_pos k11,e0];rfl
 ·exact(ifind_no h hkd h0).mono fun e w' hh=>⟨fun _=>hh,fun e=>absurd e h0,fun e=>absurd e h0⟩
theorem iFind_law(nbk:Int→Nat)(hnb:∀ u,∃ bs,BacksAre l t u bs∧nbk u=bs.length) :
  Calls Tryz.prog 41 #[.pointer (some ⟨p,0,none⟩),.agg (fn.enc vv uv sv),.int .u64 t] W (FindPost W (fnFits l.s fn) (t < l.marked) (FindsP l t fn nbk)):=by
 refine(iFind_kinds h hN hkd).mono fun e w' hh=>?_
 by_cases h0:fnFits l.s fn=0
 ·have hm:fnMay fn=0:=by
   unfold fnFits at h0
   by_cases hm:fnMay fn=0
   ·exact hm
   ·rw[if_pos hm] at h0;exact absurd h0 hm
  exact hh.congr fun u=>findP_law h.ok h.ks hm nbk hnb u
 ·exact⟨hh.1,fun e=>absurd e h0,fun e=>absurd e h0⟩
end
noncomputable def nbkOf(l:PL)(t u:Int):Nat:=((exists_backs l t u).choose).length
theorem nbkOf_is(l:PL)(t u:Int):∃ bs,BacksAre l t u bs∧nbkOf l t u=bs.length:=⟨_,(exists_backs l t u).choose_spec,rfl⟩
theorem exists_all{l:PL}{N:Nat}(hl:l.AtOk N)(t:Int):∃ xs,AllAre l t xs∧xs.length≤2 * N∧∀ x ∈ xs,(Lit.int .u64 x).wf=true:=by
 obtain⟨ks,hks⟩:=exists_nodes l t
 have hok:=haveAt_ok hl t
 have h1:=trs_len hl t hks
 have h2:=nodes_len fun u hu=>(hks.mem u).1 hu
 obtain⟨g1,g2,g3⟩:=allStep_all (trsOf (haveAt l t) ks) ks hks.rises
 have hm:∀ u,u ∈ (trsOf (haveAt l t) ks).foldl allStep ks↔haveAt l t u≠[]∨∃ x,∃ v ∈ haveAt l t x,v.k=4∧v.u=u:=fun u=>by
  rw[g2,hks.mem]
  refine or_congr_right ?_
  constructor
  ·rintro⟨⟨x,v⟩,hx,h4⟩
   unfold trsOf at hx
   obtain⟨k,hk,hx⟩:=List.mem_flatMap.1 hx
   obtain⟨v',hv,e⟩:=List.mem_map.1 hx
   simp only [Prod.mk.injEq] at e
   obtain⟨rfl,rfl⟩:=e
   exact⟨_,_,hv,h4⟩
  ·rintro⟨x,v,hv,h4⟩
   exact⟨(x,v),List.mem_flatMap.2 ⟨x,(hks.mem x).2 (List.ne_nil_of_mem hv),List.mem_map.2 ⟨v,hv,rfl⟩⟩,h4⟩
 refine⟨_,⟨g1,hm⟩,by omega,fun x hx=>?_⟩
 rcases(hm x).1 hx with h | ⟨y,v,hv,-,rfl⟩
 ·exact hok.key x h
 ·exact((hok.ok y).may v hv).2
theorem exists_found{l:PL}{N:Nat}(hl:l.AtOk N)(t:Int)(f:Fn)(nbk:Int→Nat):∃ xs,RisesBy id xs∧(∀ u,u ∈ xs↔FindsP l t f nbk u)∧xs.length≤2 * N∧∀ x ∈ xs,(Lit.int .u64 x).wf=true:=by
 obtain⟨xs,h1,h2,h3⟩:=exists_all hl t
 refine⟨xs.filter fun u=>findsR f (haveAt l t u) (nbk u),List.Pairwise.sublist List.filter_sublist h1.rises,fun u=>?_,Nat.le_trans (List.length_filter_le _ _) h2,fun x hx=>h3 x (List.mem_filter.1 hx).1⟩
 rw[List.mem_filter,h1.mem]
 rfl
def findC(E:Int)(mk:Bool):Int:=if E≠0 then E else if mk then 181 else 0
def findE(E:Int)(mk:Bool)(xs:List Int):List Int:=if findC E mk=0 then xs else []
section
variable {P:Int→Prop} {xs:List Int} {E:Int} {mk:Prop} [Decidable mk] (hr:RisesBy id xs) (hm:∀ u,u ∈ xs↔P u)
include hr hm
theorem FindPost.nums(hwf:∀ x ∈ xs,(Lit.int .u64 x).wf=true){W:World}{e:Ending}{w':World}(h:FindPost W E mk P e w'):NumsE W (findE E (decide mk) xs) (findC E (decide mk)) e w':=by
 obtain⟨h1,h2,h3⟩:=h
 by_cases h0:E=0
 ·by_cases hmk:mk
  ·obtain⟨rfl,hf⟩:=h2 h0 hmk
   have e1:findC E (decide mk)=181:=by unfold findC;simp [h0,hmk]
   unfold findE
   rw[e1,if_neg (by decide)]
   exact⟨_,0,rfl,Ints.nil _ _ _,hf⟩
  ·obtain⟨v,rfl,hn⟩:=h3 h0 hmk
   have e1:findC E (decide mk)=0:=by unfold findC;simp [h0,hmk]
   unfold findE
   rw[e1,if_pos rfl]
   obtain⟨a,c,e,hrow,hf⟩:=hn.are hr hm
   injection e with e
   subst e
   exact numsE_row hrow hwf hf
 ·obtain⟨rfl,hf⟩:=h1 h0
  have e1:findC E (decide mk)=E:=by unfold findC;simp [h0]
  unfold findE
  rw[e1,if_neg h0]
  exact⟨_,0,rfl,Ints.nil _ _ _,hf⟩
theorem is_nums(hwf:∀ x ∈ xs,(Lit.int .u64 x).wf=true)(hl:xs.length≤17592186044416)(W:World)(v:Value)(fn:Fn)(vv uv sv:Value)(t u:Int)
  (hF:∀ w1,Fr N0 W w1→Calls Tryz.prog 41 #[v,.agg (fn.enc vv uv sv),.int .u64 t] w1 (FindPost w1 E mk P)) :
  Calls Tryz.prog 43 #[v,.agg (fn.enc vv uv sv),.int .u64 t,.int .u64 u] W fun e w'=>e = .returned (.tuple #[.bool (decide (u ∈ findE E (decide mk) xs)),.int .i64 (findC E (decide mk))])∧Fr N0 W w':=by
 by_cases h0:E=0
 ·by_cases hmk:mk
  ·have e1:findC E (decide mk)=181:=by unfold findC;simp [h0,hmk]
   unfold findE
   rw[e1,if_neg (by decide)]
   simpa using is_err W v fn vv uv sv t u 181 (by decide) fun w1 hf=>(hF w1 hf).mono fun e w' hh=>hh.2.1 h0 hmk
  ·have e1:findC E (decide mk)=0:=by unfold findC;simp [h0,hmk]
   unfold findE
   rw[e1,if_pos rfl]
   refine(is_ok W v fn vv uv sv t u P (fun u hu=>hwf u ((hm u).2 hu)) (fun ys h1 h2=>?_) fun w1 hf=>(hF w1 hf).mono fun e w' hh=>hh.2.2 h0 hmk).mono fun e w' hh=>?_
   ·obtain rfl:=rises_unique h1 hr fun x=>(h2 x).trans (hm x).symm
    exact hl
   ·obtain⟨b,rfl,hb,hf⟩:=hh
    refine⟨?_,hf⟩
    have:b=decide (u ∈ xs):=by
     rw[Bool.eq_iff_iff,hb,decide_eq_true_iff,hm]
    rw[this]
 ·have e1:findC E (decide mk)=E:=by unfold findC;simp [h0]
  unfold findE
  rw[e1,if_neg h0]
  simpa using is_err W v fn vv uv sv t u E h0 fun w1 hf=>(hF w1 hf).mono fun e w' hh=>hh.1 h0
end
end Go.Proofs.YtefepfiijoafbaaGreat
