/- INone Is LyN Lx0 LxP LxA LxQ LxO -/
import Derived.Deep.DrawnRows
import Derived.Deep.RegionHeld3
import Derived.Deep.QuietTactic
import Derived.Test.YtefepfiijoafbaaGreatQFindK
import Derived.Test.YtefepfiijoafbaaGreatQOrdP
import Derived.Test.YtefepfiijoafbaaGreatQIOrder
import Derived.Test.YtefepfiijoafbaaGreatQBS
import Derived.Test.YtefepfiijoafbaaGreatQLookP
import Derived.Test.YtefepfiijoafbaaGreatQVOrd3
import Derived.Test.YtefepfiijoafbaaGreatQValR
import Derived.Test.YtefepfiijoafbaaGreatQDelV
import Derived.Test.YtefepfiijoafbaaGreatQPAt
set_option linter.unusedVariables false
set_option linter.unusedSimpArgs false
set_option maxRecDepth 100000
set_option maxHeartbeats 2000000
namespace Go.Proofs.YtefepfiijoafbaaGreat
section
open Go.RowKit Go.Shelf Go.Maps
attribute [local go_sem] Oper.semAt_some
attribute [local irreducible] wpQuiet
theorem is_err(W:World)(v:Value)(fn:Fn)(vv uv sv:Value)(t u E:Int)(hE:E≠0)
  (hF:∀ w1,Fr N0 W w1→Calls Tryz.prog 41 #[v,.agg (fn.enc vv uv sv),.int .u64 t] w1 fun e w'=>e = .returned (.tuple #[.slice none 0 0,.int .i64 E])∧Fr N0 w1 w') :
  Calls Tryz.prog 43 #[v,.agg (fn.enc vv uv sv),.int .u64 t,.int .u64 u] W fun e w'=>e = .returned (.tuple #[.bool false,.int .i64 E])∧Fr N0 W w':=by
 have HF:=hhd hF
 have hE1:(E != 0)=true:=by simpa using hE
 clear hF
 simp only [Fn.enc] at *
 go_enter Tryz.func43,Tryz.ntmps43
 go_wp2_with (go_at_call 41;refine(HF.out _ ((Fr.refl _ _).alloc _)).mono ?_;rintro e w1 ⟨rfl,hf1⟩)
 exact bodyPost_ret (v:=.tuple #[.bool false,.int .i64 E]) (by simp [results,Tryz.results43,go_sem]) rfl ⟨rfl,((Fr.refl _ _).alloc _).then0 hf1⟩
theorem is_ok(W:World)(v:Value)(fn:Fn)(vv uv sv:Value)(t u:Int)(P:Int→Prop)(hP:∀ u,P u→(Lit.int .u64 u).wf=true)(hlen:∀ xs:List Int,RisesBy id xs→(∀ u,u ∈ xs↔P u)→xs.length≤17592186044416)
  (hF:∀ w1,Fr N0 W w1→Calls Tryz.prog 41 #[v,.agg (fn.enc vv uv sv),.int .u64 t] w1 fun e w'=>∃ r,e = .returned (.tuple #[r,.int .i64 0])∧NewInts w1 P (.returned r) w') :
  Calls Tryz.prog 43 #[v,.agg (fn.enc vv uv sv),.int .u64 t,.int .u64 u] W fun e w'=>∃ b,e = .returned (.tuple #[.bool b,.int .i64 0])∧(b=true↔P u)∧Fr N0 W w':=by
 have HF:=hhd hF
 have hb:=fun(w1 w2:World) (r:Value) (h:NewInts w1 P (.returned r) w2)=>(show ∃ b,(b=true↔P u)∧∃ i:Int,Calls Tryz.prog 73 #[r,.int .u64 u] w2 fun e w'=>e = .returned (.tuple #[.int .i64 i,.bool b])∧Fr N0 w2 w' from by
  obtain⟨r',xs,e,h1,h2,h3,h4⟩:=h
  injection e with e;subst e
  obtain⟨bl,-,hI⟩:=ints_rowH h1 fun x hx=>hP x ((h3 x).1 hx)
  exact⟨decide (u ∈ xs),by simp [h3],posI id u xs,bs_any w2 bl r xs hI u (h2.imp fun h=>Int.le_of_lt h) (hlen xs h2 h3)⟩)
 have HB:=hhd hb
 clear hF hb hP hlen
 simp only [Fn.enc] at *
 go_enter Tryz.func43,Tryz.ntmps43
 go_wp2_with (first
  |(go_at_call 41;refine(HF.out _ ((Fr.refl _ _).alloc _)).mono ?_;rintro e w1 ⟨r,rfl,hn1⟩;obtain⟨bb,hbb,ii,hbs⟩:=HB.out _ _ _ hn1;have HBS:=hhd hbs;have hf1:Fr N0 _ w1:=(by obtain⟨_,_,_,_,_,_,h5⟩:=hn1;exact h5);clear hbs hn1)
  |(go_at_call 73;refine HBS.out.mono ?_;rintro e w2 ⟨rfl,hf2⟩))
 exact bodyPost_ret (v:=.tuple #[.bool bb,.int .i64 0]) (by simp [results,Tryz.results43,go_sem]) rfl ⟨bb,rfl,hbb,(((Fr.refl _ _).alloc _).then0 hf1).then0 hf2⟩
end
section
open Go.RowKit Go.Shelf Go.Maps
attribute [local go_sem] Oper.semAt_some
attribute [local go_sem ↓] Go.wp_at_zero Go.wp_at_succ
attribute [local irreducible] wpQuiet
section
variable {A B p:Nat} {fn:Fn} {vv uv sv:Value} {W W':World}
end
end
section
open Go.RowKit Go.Shelf
attribute [local go_sem] Oper.semAt_some
attribute [local irreducible] wpQuiet
theorem valX_size:(Tryz.prog.info? 57).map (·.size)=some 5:=by kernel_rfl
theorem wrX_size:(Tryz.prog.info? 61).map (·.size)=some 8:=by kernel_rfl
def numV(n:Int):Val:=⟨2,false,n,⟨#[]⟩,0⟩
def nodeV(u:Int):Val:=⟨4,false,0,⟨#[]⟩,u⟩
theorem lxNum_any(W:World)(n:Int):Calls Tryz.prog 33 #[.int .i64 n] W fun e w'=>e = .returned (.agg (numV n).enc.toArray)∧Fr N0 W w':=by
 go_enter Tryz.func33,Tryz.ntmps33
 go_wp2_with (go_loud (refine wpList_store_row rfl 57 _ _ rfl W.heap.size _ rfl rfl 57 _ (World.alloc_heap_new _ _) valX_size rfl (by simp [Value.oneCell']) ?_))
 refine bodyPost_ret_by (results_cell_row rfl _ _ W.heap.size 57 _ (0,0) _ rfl (setRow_heap _ _ _ _ _ _ (World.alloc_heap_new _ _)) Tryz.underlying57 rfl valX_size) rfl ?_
 exact⟨rfl,((Fr.refl N0 W).alloc _).trans (fr_setRow _ _ _) fun k hk=>.inr (by rw[hk];exact Nat.le_refl _)⟩
theorem lxNode_any(W:World)(u:Int):Calls Tryz.prog 76 #[.int .u64 u] W fun e w'=>e = .returned (.agg (nodeV u).enc.toArray)∧Fr N0 W w':=by
 go_enter Tryz.func76,Tryz.ntmps76
 go_wp2_with (go_loud (refine wpList_store_row rfl 57 _ _ rfl W.heap.size _ rfl rfl 57 _ (World.alloc_heap_new _ _) valX_size rfl (by simp [Value.oneCell']) ?_))
 refine bodyPost_ret_by (results_cell_row rfl _ _ W.heap.size 57 _ (0,0) _ rfl (setRow_heap _ _ _ _ _ _ (World.alloc_heap_new _ _)) Tryz.underlying57 rfl valX_size) rfl ?_
 exact⟨rfl,((Fr.refl N0 W).alloc _).trans (fr_setRow _ _ _) fun k hk=>.inr (by rw[hk];exact Nat.le_refl _)⟩
theorem heap2_newX(W:World)(o o':Obj):((W.alloc o).alloc o').heap[W.heap.size+1]?=some o':=by
 have:=World.alloc_heap_new (W.alloc o) o'
 rwa [World.size_alloc] at this
theorem lx1_any(W:World)(u:Int)(p:ByteArray)(x:Val):Calls Tryz.prog 75 #[.int .u64 u,.string p,.agg x.enc.toArray] W fun e w'=>e = .returned (.agg (Wr.enc ⟨false,u,p,x⟩).toArray)∧Fr N0 W w':=by
 obtain⟨vk,vb,vn,vs,vu⟩:=x
 simp only [Val.enc,Wr.enc]
 go_enter Tryz.func75,Tryz.ntmps75
 go_wp2_with (go_loud (refine wpList_store_row rfl 61 _ _ rfl (W.heap.size+1) _ rfl rfl 61 _ (heap2_newX _ _ _) wrX_size rfl (by simp [Value.oneCell']) ?_))
 refine bodyPost_ret_by (results_cell_row rfl _ _ (W.heap.size+1) 61 _ (0,0) _ rfl (setRow_heap _ _ _ _ _ _ (heap2_newX _ _ _)) Tryz.underlying61 rfl wrX_size) rfl ?_
 exact⟨rfl,(((Fr.refl N0 W).alloc _).alloc _).trans (fr_setRow _ _ _) fun k hk=>.inr (by rw[hk];exact Nat.le_succ _)⟩
end
section
def bAge:ByteArray:=⟨#[97,103,101]⟩
def bFri:ByteArray:=⟨#[102,114,105,101,110,100]⟩
theorem ok_age:predOk bAge=true:=predOk_true ⟨by decide,by decide,by decide,by decide,fun j h=>by
 have h:j < 3:=h
 obtain rfl | rfl | rfl:j=0∨j=1∨j=2:=by omega
 all_goals rfl⟩
theorem ok_fri:predOk bFri=true:=predOk_true ⟨by decide,by decide,by decide,by decide,fun j h=>by
 have h:j < 6:=h
 obtain rfl | rfl | rfl | rfl | rfl | rfl:j=0∨j=1∨j=2∨j=3∨j=4∨j=5:=by omega
 all_goals rfl⟩
def cAge:Sch:=⟨bAge,2,false,true,false,true,false,true⟩
def cFri:Sch:=⟨bFri,4,true,false,false,false,true,true⟩
theorem may_age:schMay cAge=0:=by simp [schMay,cAge,ok_age,schBad]
theorem may_fri:schMay cFri=0:=by simp [schMay,cFri,ok_fri,schBad]
def wAge:List Wr:=[⟨false,1,bAge,numV 5⟩,⟨false,2,bAge,numV 7⟩,⟨false,3,bAge,numV 5⟩]
def wFri:List Wr:=[⟨false,1,bFri,nodeV 2⟩,⟨false,1,bFri,nodeV 3⟩]
def lAge:PL:={ s:=cAge,marked:=0,times:=[1],commits:=[⟨1,wAge⟩] }
def lFri:PL:={ s:=cFri,marked:=0,times:=[1],commits:=[⟨1,wFri⟩] }
theorem addIn_age:addIn { s:=cAge } ⟨1,wAge⟩=lAge:=by simp [addIn,insBy,lAge]
theorem addIn_fri:addIn { s:=cFri } ⟨1,wFri⟩=lFri:=by simp [addIn,insBy,lFri]
theorem have_age:haveAt lAge 1=fun u=>if u=1 then [numV 5] else if u=2 then [numV 7] else if u=3 then [numV 5] else []:=by
 have e:haveAt lAge 1=haveOf false wAge:=by
  unfold haveAt
  rw[if_neg (by decide)]
  rfl
 rw[e]
 funext u
 simp only [haveOf,wAge,List.foldl_cons,List.foldl_nil,hWrite,wrV,updV]
 by_cases h1:u=1
 ·subst h1;simp
 ·by_cases h2:u=2
  ·subst h2;simp
  ·by_cases h3:u=3
   ·subst h3;simp
   ·simp [h1,h2,h3]
theorem have_fri:haveAt lFri 1=fun u=>if u=1 then [nodeV 2,nodeV 3] else []:=by
 have e:haveAt lFri 1=haveOf true wFri:=by
  unfold haveAt
  rw[if_neg (by decide)]
  rfl
 rw[e]
 funext u
 simp only [haveOf,wFri,List.foldl_cons,List.foldl_nil,hWrite,wrV,updV]
 by_cases h1:u=1
 ·subst h1
  have hs:cmpS (⟨#[]⟩:ByteArray) ⟨#[]⟩=0:=by simp [cmpS,ByteArray.toList_eq,Op.bytesLess]
  have hv:vcmp (nodeV 2) (nodeV 3) < 0:=by simp only [vcmp,nodeV,hs];decide
  have hn:nodeV 3≠nodeV 2:=by simp [nodeV]
  simp [posV,hv,hn]
 ·simp [h1]
theorem wr_age(u n:Int)(hu:(Lit.int .u64 u).wf=true):WrOk ⟨false,u,bAge,numV n⟩:=⟨hu,by simp [numV,valMay];rfl,by simp [numV];decide⟩
theorem wr_fri(u n:Int)(hu:(Lit.int .u64 u).wf=true)(hn:(Lit.int .u64 n).wf=true)(h0:0 < n):WrOk ⟨false,u,bFri,nodeV n⟩:=⟨hu,by simp [nodeV,valMay,h0];rfl,by simpa [nodeV] using hn⟩
theorem at_age:lAge.AtOk 3 where
 pred:=by decide
 ok:=fun x hx=>by
  have hx:x ∈ wAge:=by simpa [wsOf,lAge] using hx
  simp [wAge] at hx
  rcases hx with rfl | rfl | rfl <;> exact wr_age _ _ (by decide)
 len:=by decide
 commits:=by decide
theorem at_fri:lFri.AtOk 3 where
 pred:=by decide
 ok:=fun x hx=>by
  have hx:x ∈ wFri:=by simpa [wsOf,lFri] using hx
  simp [wFri] at hx
  rcases hx with rfl | rfl <;> exact wr_fri _ _ (by decide) (by decide) (by decide)
 len:=by decide
 commits:=by decide
theorem fitA(u n:Int)(hu:u≠0):fitE cAge ⟨false,u,bAge,numV n⟩=0:=by
 have hm:valMay (numV n)=true:=by simp [numV,valMay];rfl
 have ht:trMay ⟨false,u,bAge,numV n⟩=0:=by
  unfold trMay
  rw[if_neg hu,if_neg (by simp [ok_age]),if_neg (by simp [hm])]
 unfold fitE
 rw[if_neg (by simp [may_age]),if_neg (by simp [ht]),if_neg (by simp [cAge]),if_neg (by simp [cAge,numV])]
theorem fitF(u n:Int)(hu:u≠0)(hn:0 < n):fitE cFri ⟨false,u,bFri,nodeV n⟩=0:=by
 have hm:valMay (nodeV n)=true:=by simp [nodeV,valMay,hn];rfl
 have ht:trMay ⟨false,u,bFri,nodeV n⟩=0:=by
  unfold trMay
  rw[if_neg hu,if_neg (by simp [ok_fri]),if_neg (by simp [hm])]
 unfold fitE
 rw[if_neg (by simp [may_fri]),if_neg (by simp [ht]),if_neg (by simp [cFri]),if_neg (by simp [cFri,nodeV])]
theorem add_age:addErr { s:=cAge } ⟨1,wAge⟩=0:=by
 have h1:=fitA 1 5 (by decide);have h2:=fitA 2 7 (by decide);have h3:=fitA 3 5 (by decide)
 unfold addErr
 simp [wAge,h1,h2,h3,firstNZ]
theorem add_fri:addErr { s:=cFri } ⟨1,wFri⟩=0:=by
 have h1:=fitF 1 2 (by decide) (by decide);have h2:=fitF 1 3 (by decide) (by decide)
 unfold addErr
 simp [wFri,h1,h2,firstNZ]
def qEq:Fn:=⟨3,bAge,false,[numV 5,numV 9],0,0⟩
def qHas:Fn:=⟨2,bFri,true,[],0,0⟩
def qLt:Fn:=⟨6,bFri,false,[numV 3],0,0⟩
theorem may_num(n:Int):valMay (numV n)=true:=by simp [numV,valMay];rfl
theorem fits_eq:fnFits cAge qEq=0:=by
 have ha:allV 2 [numV 5,numV 9]=true:=by
  simp only [allV,List.any_cons,List.any_nil,may_num];rfl
 have h1:fnMay qEq=0:=by simp [fnMay,mayR,qEq,ok_age,valsOk,valsR,ha]
 unfold fnFits
 rw[if_neg (by simp [h1]),if_neg (by simp [may_age]),if_neg (by simp [cAge,qEq])]
 simp [fitR,fitOk,fitIx,qEq,cAge,numV]
theorem fits_has:fnFits cFri qHas=0:=by
 have h1:fnMay qHas=0:=by simp [fnMay,mayR,qHas,ok_fri,valsOk,valsR]
 unfold fnFits
 rw[if_neg (by simp [h1]),if_neg (by simp [may_fri]),if_neg (by simp [cFri,qHas])]
 simp [fitR,fitOk,fitIx,qHas,cFri]
theorem fits_lt:fnFits cFri qLt=42:=by
 have ha:allV 2 [numV 3]=true:=by
  simp only [allV,List.any_cons,List.any_nil,may_num];rfl
 have h1:fnMay qLt=0:=by simp [fnMay,mayR,qLt,ok_fri,valsOk,valsR,ha]
 unfold fnFits
 rw[if_neg (by simp [h1]),if_neg (by simp [may_fri]),if_neg (by simp [cFri,qLt])]
 simp [fitR,fitOk,fitIx,qLt,cFri]
theorem xs_eq{xs:List Int}(hr:RisesBy id xs)(h:∀ u,u ∈ xs↔anyP (haveAt lAge 1) (fun x=>qEq.vals.any (eqVal x)) u):xs = [1,3]:=by
 have h55:eqVal (numV 5) (numV 5)=true:=by simp [eqVal]
 have h75:eqVal (numV 7) (numV 5)=false:=by simp [eqVal,numV]
 have h79:eqVal (numV 7) (numV 9)=false:=by simp [eqVal,numV]
 refine rises_unique hr (by simp [RisesBy]) fun u=>?_
 rw[h,have_age]
 unfold anyP
 by_cases h1:u=1
 ·subst h1;simp [qEq,h55]
 ·by_cases h2:u=2
  ·subst h2;simp [qEq,h75,h79]
  ·by_cases h3:u=3
   ·subst h3;simp [qEq,h55]
   ·simp [h1,h2,h3]
theorem xs_has{xs ks:List Int}(hk:NodesOf (haveAt lFri 1) ks)(hr:RisesBy id xs)(h:∀ u,u ∈ xs↔hasP (haveAt lFri 1) (lookB (trsOf (haveAt lFri 1) ks)) true (-1) u):xs = [2,3]:=by
 refine rises_unique hr (by simp [RisesBy]) fun u=>?_
 rw[h]
 unfold hasP
 have hm:∀ y,lookB (trsOf (haveAt lFri 1) ks) y≠[]↔y=2∨y=3:=fun y=>by
  have h1:=fun z=>lookB_mem hk y z
  constructor
  ·intro h0
   obtain⟨z,zs,e⟩:=List.exists_cons_of_ne_nil h0
   obtain⟨v,hv,-,hu⟩:=(h1 z).1 (by rw[e];simp)
   rw[have_fri] at hv
   by_cases hz:z=1
   ·simp only [hz,if_true] at hv
    simp at hv
    rcases hv with rfl | rfl
    ·left;rw[← hu];rfl
    ·right;rw[← hu];rfl
   ·simp [hz] at hv
  ·intro h0 e
   have:(1:Int) ∈ lookB (trsOf (haveAt lFri 1) ks) y:=(h1 1).2 (by
    rw[have_fri]
    rcases h0 with rfl | rfl
    ·exact⟨nodeV 2,by simp,rfl,rfl⟩
    ·exact⟨nodeV 3,by simp,rfl,rfl⟩)
   rw[e] at this;cases this
 simp [manyIs,hm]
theorem normU_rises(xs:List Int):RisesBy id (normU xs):=by
 have h:=List.pairwise_mergeSort (le:=fun x y:Int=>decide (x≤y)) (by intro a b c h1 h2;simp only [decide_eq_true_eq] at *;omega) (by intro a b;simp;omega) xs
 exact comp_sorted _ (h.imp fun h=>by simpa using h)
theorem norm_ex:normU [3,2,1,4] = [1,2,3,4]:=rises_unique (normU_rises _) (by simp [RisesBy]) fun u=>by
 rw[normU_mem];simp only [List.mem_cons,List.not_mem_nil,or_false];omega
theorem xs_ord{xs:List Int}(h:Ordered true (haveAt lAge 1) (normU [3,2,1,4]) xs):xs = [2,1,3,4]:=by
 obtain⟨rs,rfl,hp,hs⟩:=h.out
 rw[norm_ex] at hp
 have e:[1,2,3,4].map (rkOf (haveAt lAge 1)) = [⟨1,5,true⟩,⟨2,7,true⟩,⟨3,5,true⟩,⟨4,0,false⟩]:=by
  rw[have_age];simp [rkOf,numV]
 rw[e] at hp
 have hnd:rs.Nodup:=hp.nodup_iff.2 (by simp)
 have hst:RisesBy (rkKey true) rs:=by
  have h1:=hs.and hnd
  refine h1.imp_of_mem fun {a b} ha hb hab=>?_
  obtain⟨h2,h3⟩:=hab
  have ha':=hp.mem_iff.1 ha
  have hb':=hp.mem_iff.1 hb
  simp only [List.mem_cons,List.not_mem_nil,or_false] at ha' hb'
  rcases ha' with rfl | rfl | rfl | rfl <;> rcases hb' with rfl | rfl | rfl | rfl <;> simp [rkKey] at h2 h3 ⊢
 have:rs = [⟨2,7,true⟩,⟨1,5,true⟩,⟨3,5,true⟩,⟨4,0,false⟩]:=rises_unique hst (by simp [RisesBy,rkKey]) fun x=>by
  rw[hp.mem_iff];simp only [List.mem_cons,List.not_mem_nil,or_false]
  constructor <;> (rintro(h | h | h | h) <;> simp [h])
 rw[this];rfl
end
end Go.Proofs.YtefepfiijoafbaaGreat
