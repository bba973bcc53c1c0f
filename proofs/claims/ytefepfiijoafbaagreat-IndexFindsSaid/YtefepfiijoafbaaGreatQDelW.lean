/- InsA Ins4 InsC RowK Writes Rowz DelW -/
import Derived.Lib.Overlaps
import Derived.Laws.CopyRow
import Derived.Laws.IdiomCopy
import Derived.Lib.SliceRun
import Derived.Lib.AppendZerosOnto
import Derived.Laws.Externs
import Derived.Deep.RegionLaw
import Derived.Shelf.RegionOpenPlain
import Derived.Laws.AppendOwnNone
import Derived.Maps.RangeWalk
import Derived.Maps.OwnSet
import Derived.Sort.OwnSorted
import Derived.StringKeys
import Derived.Deep.QuietTactic
import Derived.Deep.RegionHeld3
import Derived.Test.YtefepfiijoafbaaGreatQBS
set_option linter.unusedVariables false
set_option linter.unusedSimpArgs false
set_option maxRecDepth 100000
set_option maxHeartbeats 4000000
namespace Go.Proofs.YtefepfiijoafbaaGreat
section
open Go.RowKit Go.Shelf Go.Lib
theorem run_copy_rowK{P:Program}(w:World)(dT sT ty elem:TypeId)(k g o dLen dCap:Nat)(a:Addr)(sLen sCap m:Nat)(cur:Array Value)(t:TypeId)(cs:List Value)
  (hu:P.underlying dT=some (.slice elem)) (hs:(P.info? elem).map (·.size)=some k)
  (hg:w.heap[g]?=some (.cells cur t (0,0))) (hm:m=Nat.min sLen dLen) (hn:cs.length=m * k)
  (hsrc:∀ j v,cs[j]?=some v→w.cell? (a.add j)=some v) (hfit:o+cs.length≤cur.size) (h1:∀ v ∈ cs,v.oneCell'=true) :
  (Builtin.copy_ #[dT,sT] ty #[.slice (some ⟨g,o,none⟩) dLen dCap,.slice (some a) sLen sCap]).run P w =
   .ok (goInt m) (w.setRow g (cur.toList.take o ++ cs ++ cur.toList.drop (o+cs.length)).toArray):=by
 have hl:=run_loadCells_list (P:=P) w a cs hsrc
 have hst:=run_storeCells_at P g o t cs 0 cur w hg (by simpa using hfit) h1
 cases hq:P.info? elem with
 | none=>simp [hq] at hs
 | some i=>
  have hi:i.size=k:=by simpa [hq] using hs
  simp [Builtin.copy_,run_underlying hu,Builtin.lenOf,Builtin.firstCells,sizeOf,typeInfo,hq,hi,← hm,← hn,hl,hst]
theorem addr_add0{b o k:Nat}:(⟨b,o,none⟩:Addr).add k=⟨b,o+k,none⟩:=by
 unfold Addr.add
 split
 ·rename_i h;subst h;rfl
 ·rfl
theorem box_cells{W:World}{B:Nat}{cs:Array Value}{t:TypeId}(h:W.heap[B]?=some (.cells cs t (0,0))):(∀ i,W.cell? ⟨B,i,none⟩=cs[i]?)∧(∀ i,W.frozen? ⟨B,i,none⟩=false)∧B < W.heap.size:=by
 refine⟨fun i=>?_,fun i=>by simp [World.frozen?,h],lt_of_block h⟩
 show(match W.heap[B]? with
  | some (.cells c _ _)=>if (none:Option _).isSome then none else c[i]?
  | _=>none)=_
 rw[h];rfl
theorem fr_setRow(w:World)(g:Nat)(cs:Array Value):Fr (fun j=>j=g) w (w.setRow g cs):=
 ⟨rfl,rfl,rfl,by simp [World.setRow],fun k hk _=>setRow_other w g k cs (fun e=>hk e)⟩
theorem oneCells_flat{α:Type}{enc:α→List Value}(h:∀ x,∀ u ∈ enc x,u.oneCell'=true)(xs:List α):∀ u ∈ xs.flatMap enc,u.oneCell'=true:=by
 intro u hu
 obtain⟨x,-,hx⟩:=List.mem_flatMap.1 hu
 exact h x u hx
theorem flat_len{α:Type}{enc:α→List Value}{n:Nat}(hn:∀ x,(enc x).length=n):∀ xs:List α,(xs.flatMap enc).length=xs.length * n
 | []=>by simp
 | x :: xs=>by rw[List.flatMap_cons,List.length_append,hn,flat_len hn xs,List.length_cons,Nat.succ_mul,Nat.add_comm]
theorem ins_row{α:Type}{enc:α→List Value}{k:Nat}(hk:∀ x,(enc x).length=k)(xs:List α)(x:α)(i:Nat)(hi:i≤xs.length)(cur:List Value)(hc:cur.take (xs.length * k)=xs.flatMap enc)(hlen:(xs.length+1) * k≤cur.length) :
  ∀ cur1,cur.take ((i+1) * k) ++(xs.drop i).flatMap enc ++ cur.drop ((i+1) * k+((xs.drop i).flatMap enc).length)=cur1 →
  (cur1.take (i * k) ++ enc x ++ cur1.drop (i * k+(enc x).length)).take ((xs.length+1) * k)=(xs.take i ++ x :: xs.drop i).flatMap enc:=by
 rintro cur1 rfl
 have e1:((xs.drop i).flatMap enc).length=(xs.length - i) * k:=by rw[flat_len hk,List.length_drop]
 have e2:(xs.length - i) * k+(i+1) * k=(xs.length+1) * k:=by rw[← Nat.add_mul];congr 1;omega
 have e3:i * k+k=(i+1) * k:=by rw[Nat.succ_mul]
 have e4:i * k≤xs.length * k:=Nat.mul_le_mul_right _ hi
 have e5:(i+1) * k≤cur.length:=by omega
 have h0:cur.take (i * k)=(xs.take i).flatMap enc:=by
  have h6:xs.flatMap enc=(xs.take i).flatMap enc ++(xs.drop i).flatMap enc:=by rw[← List.flatMap_append,List.take_append_drop]
  rw[show cur.take (i * k)=(cur.take (xs.length * k)).take (i * k) by rw[List.take_take,Nat.min_eq_left e4],hc,h6,List.take_left' (by rw[flat_len hk,List.length_take,Nat.min_eq_left hi])]
 have h1:(cur.take ((i+1) * k) ++(xs.drop i).flatMap enc ++ cur.drop ((i+1) * k+((xs.drop i).flatMap enc).length)).take (i * k)=(xs.take i).flatMap enc:=by
  rw[List.append_assoc,List.take_append_of_le_length (by rw[List.length_take];omega),List.take_take,Nat.min_eq_left (by omega),h0]
 have h2:(cur.take ((i+1) * k) ++(xs.drop i).flatMap enc ++ cur.drop ((i+1) * k+((xs.drop i).flatMap enc).length)).drop (i * k+(enc x).length)=(xs.drop i).flatMap enc ++ cur.drop ((i+1) * k+((xs.drop i).flatMap enc).length):=by
  rw[List.append_assoc,hk,e3,List.drop_left' (by rw[List.length_take];omega)]
 rw[h1,h2,List.flatMap_append,List.flatMap_cons]
 rw[show(xs.take i).flatMap enc ++ enc x ++((xs.drop i).flatMap enc ++ cur.drop ((i+1) * k+((xs.drop i).flatMap enc).length))=((xs.take i).flatMap enc ++(enc x ++(xs.drop i).flatMap enc)) ++ cur.drop ((i+1) * k+((xs.drop i).flatMap enc).length) by simp only [List.append_assoc]]
 rw[List.take_left']
 rw[List.length_append,List.length_append,flat_len hk,List.length_take,Nat.min_eq_left hi,hk,e1]
 omega
theorem ins_row2{α:Type}{enc:α→List Value}{k:Nat}(hk:∀ x,(enc x).length=k)(xs:List α)(x:α)(i:Nat)(hi:i≤xs.length)(cur:List Value)(hc:cur.take (i * k)=(xs.take i).flatMap enc)(hlen:(xs.length+1) * k≤cur.length) :
  ∀ cur1,cur.take (i * k) ++ enc x ++ cur.drop (i * k+(enc x).length)=cur1 →
  (cur1.take ((i+1) * k) ++(xs.drop i).flatMap enc ++ cur1.drop ((i+1) * k+((xs.drop i).flatMap enc).length)).take ((xs.length+1) * k)=(xs.take i ++ x :: xs.drop i).flatMap enc:=by
 rintro cur1 rfl
 have e1:((xs.drop i).flatMap enc).length=(xs.length - i) * k:=by rw[flat_len hk,List.length_drop]
 have e2:(xs.length - i) * k+(i+1) * k=(xs.length+1) * k:=by rw[← Nat.add_mul];congr 1;omega
 have e3:i * k+k=(i+1) * k:=by rw[Nat.succ_mul]
 have e4:((xs.take i).flatMap enc).length=i * k:=by rw[flat_len hk,List.length_take,Nat.min_eq_left hi]
 have h1:(cur.take (i * k) ++ enc x ++ cur.drop (i * k+(enc x).length)).take ((i+1) * k)=(xs.take i).flatMap enc ++ enc x:=by
  rw[hc,List.take_left' (by rw[List.length_append,e4,hk,e3])]
 rw[h1,List.flatMap_append,List.flatMap_cons]
 rw[show((xs.take i).flatMap enc ++ enc x ++(xs.drop i).flatMap enc)=((xs.take i).flatMap enc ++(enc x ++(xs.drop i).flatMap enc)) by simp only [List.append_assoc]]
 rw[List.take_left']
 rw[List.length_append,List.length_append,e4,hk,e1]
 omega
end
section
open Go.RowKit Go.Shelf Go.Lib
attribute [local go_sem] Oper.semAt_some
def enc4(x:Int):List Value:=[.int .u64 x]
theorem ins4_info:(Tryz.prog.info? 33).map (fun i=>(i.zero,i.size,i.bytes))=some (some (.int .u64 0),1,8):=by kernel_rfl
theorem ins4_len(x:Int):(enc4 x).length=1:=rfl
theorem ins4_one(x:Int):∀ u ∈ enc4 x,u.oneCell'=true:=by intro u hu;simp [enc4] at hu;subst hu;rfl
theorem ins4_shift(w:World)(base g n cap i:Nat)(xs:List (Int))(x:Int)(vb:Nat)(h:w.ownsRow base 33 1 (.slice (some ⟨g,0,none⟩) n cap) n (xs.flatMap (enc4)))(hl:xs.length=n)(hi:i < n)(hroom:n+1≤cap)(hvb:w.heap[vb]?=some (.cells (enc4 x).toArray 33 (0,0)))(hne:vb≠g) :
  Calls Tryz.prog 93 #[.slice (some ⟨g,0,none⟩) n cap,.int .i64 i,.slice (some ⟨vb,0,none⟩) 1 1] w fun e w'=>
   e = .returned (.slice (some ⟨g,0,none⟩) (n+1) cap)∧w'.ownsRow base 33 1 (.slice (some ⟨g,0,none⟩) (n+1) cap) (n+1) ((xs.take i ++ x :: xs.drop i).flatMap (enc4))∧Fr (fun j=>j=g) w w':=by
 obtain⟨cur,hbase,hg,hcm,hcs,htk⟩:∃ cur,base≤g∧w.heap[g]?=some (.cells cur 33 (0,0))∧cap≤maxLen∧cur.size=cap * 1∧cur.toList.take (n * 1)=xs.flatMap (enc4):=by
  rcases h.2 with⟨h',_⟩ | ⟨g',cap',cur,h',hb,hg,hnc,hcm,hcs,htake⟩
  ·simp at h'
  ·simp only [Value.slice.injEq,Option.some.injEq,Addr.mk.injEq,and_true,true_and] at h'
   obtain⟨rfl,rfl⟩:=h'
   exact⟨cur,hb,hg,hcm,hcs,htake⟩
 have hsz:(Tryz.prog.info? 33).map (·.size)=some 1:=by
  obtain⟨i0,hi0,h0,h1,h2⟩:=info_parts ins4_info
  rw[hi0];simp [h1]
 have hc63:cap≤9223372036854775807:=by unfold maxLen at hcm;omega
 have hrow:=ins_row (enc:=enc4) (k:=1) ins4_len xs x i (by omega) cur.toList (by rw[hl];exact htk) (by rw[hl];simp only [Array.length_toList];omega)
 obtain⟨cs,hcse⟩:∃ cs,(xs.drop i).flatMap (enc4)=cs:=⟨_,rfl⟩
 have hcsl:cs.length=(n - i) * 1:=by rw[← hcse,flat_len ins4_len,List.length_drop,hl]
 have hcs1:∀ u ∈ cs,u.oneCell'=true:=by rw[← hcse];exact oneCells_flat ins4_one _
 have hsrc1:∀ j v,cs[j]?=some v→w.cell? ((⟨g,i * 1,none⟩:Addr).add j)=some v:=fun j v hj=>by
  have e1:(xs.take i).flatMap (enc4) ++ cs=cur.toList.take (n * 1):=by rw[htk,← hcse,← List.flatMap_append,List.take_append_drop]
  have e2:((xs.take i).flatMap (enc4)).length=i * 1:=by rw[flat_len ins4_len,List.length_take];congr 1;omega
  have hjl:j < cs.length:=(List.getElem?_eq_some_iff.1 hj).1
  have e3:cur.toList[i * 1+j]?=some v:=by
   have:=congrArg (fun l=>l[i * 1+j]?) e1
   rw[List.getElem?_append_right (by omega),e2,Nat.add_sub_cancel_left,hj,List.getElem?_take,if_pos (by omega)] at this
   exact this.symm
  rw[show((⟨g,i * 1,none⟩:Addr).add j)=⟨g,i * 1+j,none⟩ from addr_add0,(box_cells hg).1]
  simpa using e3
 obtain⟨cur1,hcur1⟩:∃ c,cur.toList.take ((i+1) * 1) ++ cs ++ cur.toList.drop ((i+1) * 1+cs.length)=c:=⟨_,rfl⟩
 replace hrow:=hrow cur1 (by rw[hcse];exact hcur1)
 have hc1l:cur1.length=cap * 1:=by
  rw[← hcur1,List.length_append,List.length_append,List.length_take,List.length_drop,Array.length_toList];omega
 have hcp1:∀ (W:World),W.heap=w.heap→∀ ty dc sc,(Builtin.copy_ #[35,35] ty #[.slice (some ⟨g,(i+1) * 1,none⟩) (n+1 - (i+1)) dc,.slice (some ⟨g,i * 1,none⟩) (n+1 - i) sc]).run Tryz.prog W =   .ok (goInt ((n - i:Nat):Int)) (W.setRow g cur1.toArray):=fun W hW ty dc sc=>by
  rw[← hcur1]
  exact run_copy_rowK W 35 35 ty 33 1 g ((i+1) * 1) (n+1 - (i+1)) dc ⟨g,i * 1,none⟩ (n+1 - i) sc (n - i) cur 33 cs Tryz.underlying35 hsz (by rw[hW];exact hg) (by show n - i=min _ _;omega) hcsl (fun j v hj=>by rw[← hsrc1 j v hj];unfold World.cell?;rw[hW]) (by omega) hcs1
 have hcp2:∀ (W:World),W.heap[g]?=some (.cells cur1.toArray 33 (0,0))→W.heap[vb]?=w.heap[vb]?→∀ ty dc,(Builtin.copy_ #[35,35] ty #[.slice (some ⟨g,i * 1,none⟩) (n+1 - i) dc,.slice (some ⟨vb,0,none⟩) 1 1]).run Tryz.prog W = .ok (goInt 1) (W.setRow g (cur1.take (i * 1) ++(enc4 x) ++ cur1.drop (i * 1+(enc4 x).length)).toArray):=fun W h1 h2 ty dc=>by
  have:=run_copy_rowK W 35 35 ty 33 1 g (i * 1) (n+1 - i) dc ⟨vb,0,none⟩ 1 1 1 cur1.toArray 33 (enc4 x) Tryz.underlying35 hsz h1 (by show 1=min _ _;omega) (by rw[ins4_len]) (fun j v hj=>by
   rw[show((⟨vb,0,none⟩:Addr).add j)=⟨vb,0+j,none⟩ from addr_add0,(box_cells (h2.trans hvb)).1]
   simpa using hj) (by rw[ins4_len,List.size_toArray,hc1l];omega) (ins4_one x)
  simpa using this
 obtain⟨mvb,nvb,lvb⟩:=box_cells hvb
 have hshA:w.shape? vb=some (33,1):=by unfold World.shape?;rw[hvb];simp [ins4_len]
 have hshB:w.shape? g=some (33,cap * 1):=by unfold World.shape?;rw[hg];simp [hcs]
 have hov:∀ lb cb,(callFunc 146 #[.slice (some ⟨vb,0,none⟩) 1 1,.slice (some ⟨g,(i+1) * 1,none⟩) lb cb]).run Tryz.prog w = .ok (.value (.bool false)) w:=fun lb cb=>by
  rw[run_callFunc_extern Tryz.func146 (by kernel_rfl) (by kernel_rfl) (by kernel_rfl) (e:=Extern.SlicesOverlaps.overlaps #[35,35] #[4]) (by kernel_rfl),
   Lib.run_overlaps_apart w 35 4 33 Tryz.underlying35 1 (fun w=>by kernel_rfl) ⟨vb,0,none⟩ ⟨g,(i+1) * 1,none⟩ 1 1 lb cb hne 33 33 1 (cap * 1) hshA hshB (by omega) (nvb 0) (nvb 1)]
  rfl
 simp only [Nat.mul_one] at hov
 have hz2:¬((i:Int)=(n:Int)):=by omega
 have hw1:IntKind.i64.wrap ((i:Int)+1)=(i:Int)+1:=by rw[IntKind.wrap_i64];omega
 have hb1:(0:Int)≤(i:Int)+1:=by omega
 have hin:i≤n:=by omega
 have htn:((i:Int)+1).toNat=i+1:=by omega
 have hb2:¬(cap=i+1):=by omega
 have hb3:(i:Int)≤(n:Int)+1:=by omega
 have hb4:¬(cap=i):=by omega
 have hc1:=hcp1 w.drew rfl 3 (cap - (i+1)) (cap - i)
 have hW1:(w.drew.setRow g cur1.toArray).heap[g]?=some (.cells cur1.toArray 33 (0,0)):=setRow_heap w.drew g cur cur1.toArray 33 (0,0) hg
 have hW2:(w.drew.setRow g cur1.toArray).heap[vb]?=w.heap[vb]?:=setRow_other w.drew g vb _ hne
 have hc2:=hcp2 (w.drew.setRow g cur1.toArray) hW1 hW2 3 (cap - i)
 obtain⟨cur2,hcur2⟩:∃ c,(cur1.take (i * 1) ++(enc4 x) ++ cur1.drop (i * 1+(enc4 x).length))=c:=⟨_,rfl⟩
 rw[hcur2] at hc2 hrow
 simp only [Nat.mul_one,Nat.add_sub_add_right] at hc1 hc2
 have HW1:=hhd hW1;have HROW:=hhd hrow;have HG:=hhd hg;have HCL:=hhd hc1l;have HC2:=hhd hcur2;have HX:=hhd hl
 clear hcp1 hcp2 hW1 hW2 hcur1 hcur2 hrow hsrc1 hcs1 hcsl hcse htk hcs hg hc1l hl h hvb mvb nvb hshA hshB hcm
 go_enter Tryz.func93,Tryz.ntmps93
 go_wp2_with (simp only [hov])
 go_region_law (fail)
 go_wp2
 go_ret
 have hl:=HX.out
 refine⟨rfl,⟨?_,.inr ⟨g,cap,cur2.toArray,rfl,hbase,setRow_heap _ g _ cur2.toArray 33 (0,0) HW1.out,hroom,by unfold maxLen;omega,?_,?_⟩⟩,((Fr.refl (fun j=>j=g) w).drew.trans (fr_setRow _ g _) (fun k hk=>.inl hk)).trans (fr_setRow _ g _) (fun k hk=>.inl hk)⟩
 ·rw[flat_len ins4_len,List.length_append,List.length_cons,List.length_take,List.length_drop];congr 1;omega
 ·have:=HCL.out
  rw[List.size_toArray,← HC2.out,List.length_append,List.length_append,List.length_take,List.length_drop,ins4_len];omega
 ·have:=HROW.out
  rw[hl] at this
  exact this
theorem ins4_end(w:World)(base:Nat)(v:Value)(n:Nat)(xs:List (Int))(x:Int)(vb:Nat)(hbase:base≤w.heap.size)(h:w.ownsRow base 33 1 v n (xs.flatMap (enc4)))(hn:n≤10000000000)(hvb:w.heap[vb]?=some (.cells (enc4 x).toArray 33 (0,0))) :
  Calls Tryz.prog 93 #[v,.int .i64 n,.slice (some ⟨vb,0,none⟩) 1 1] w fun e w'=>∃ v',e = .returned v'∧w'.ownsRow base 33 1 v' (n+1) ((xs ++ [x]).flatMap (enc4))∧Fr (fun j=>v.ownBlock=some j) w w'∧∀ j,v'.ownBlock=some j→v.ownBlock=some j∨w.heap.size≤j:=by
 obtain⟨i0,hi,hz0,hz1,hz2⟩:=info_parts ins4_info
 have hnews:∀ j u,(enc4 x)[j]?=some u→w.cell? ((⟨vb,0,none⟩:Addr).add j)=some u:=fun j u hj=>by
  rw[addr_add0,(box_cells hvb).1]
  simpa using hj
 have hone:=ins4_one x
 have hfl:(xs ++ [x]).flatMap (enc4)=xs.flatMap (enc4) ++(enc4 x):=by simp
 rw[hfl]
 obtain⟨nws,hnws⟩:∃ l,(enc4 x)=l:=⟨_,rfl⟩
 have hnl:nws.length=1 * 1:=by rw[← hnws];rfl
 rw[hnws] at hnews hone ⊢
 obtain⟨row,hrow⟩:∃ l,xs.flatMap (enc4)=l:=⟨_,rfl⟩
 rw[hrow] at h ⊢
 have HR:=hhd h;have HN:=hhd hnews
 have hv:(v = .slice none 0 0∧n=0)∨∃ g cap,v = .slice (some ⟨g,0,none⟩) n cap∧n≤cap∧cap≤9223372036854775807:=by
  rcases h.2 with h' | ⟨g,cap,cur,h',hb,hg,hnc,hcm,hcs,htake⟩
  ·exact .inl h'
  ·exact .inr ⟨g,cap,h',hnc,by unfold maxLen at hcm;omega⟩
 clear h hnews hvb hnws hrow hfl
 rcases hv with⟨rfl,rfl⟩ | ⟨g,cap,rfl,hnc,hc63⟩
 ·go_enter Tryz.func93,Tryz.ntmps93
  go_wp2_with (at_builtin;go_loud (refine wpList_append_lies _ rfl _ _ 35 rfl base 33 i0 (.int .u64 0) 1 8 Tryz.underlying35 hi hz0 hz1 hz2 rfl (by decide) (.slice none 0 0) 0 _ rfl HR.out ⟨vb,0,none⟩ 1 1 nws rfl hnl HN.out hone (by omega) (by unfold maxLen;omega) (by omega) hbase w.heap.size rfl ?_);intro g1 cap1 w1 hown1 hgrow1 hfresh1 hlt1)
  go_ret
  exact⟨.slice (some ⟨g1,0,none⟩) (0+1) cap1,rfl,hown1,(Fr.refl _ _).grown hgrow1 (fun k e=>by simp [Value.ownBlock] at e),fun j hj=>.inr (by
   simp only [Value.ownBlock,Option.some.injEq] at hj
   subst hj
   rcases hfresh1 with h | h
   ·simp [Value.ownBlock] at h
   ·omega)⟩
 ·by_cases hcn:cap=n
  all_goals
   go_enter Tryz.func93,Tryz.ntmps93
   go_wp2_with (at_builtin;go_loud (refine wpList_append_lies _ rfl _ _ 35 rfl base 33 i0 (.int .u64 0) 1 8 Tryz.underlying35 hi hz0 hz1 hz2 rfl (by decide) (.slice (some ⟨g,0,none⟩) n cap) n _ rfl HR.out ⟨vb,0,none⟩ 1 1 nws rfl hnl HN.out hone (by omega) (by unfold maxLen;omega) (by omega) hbase w.heap.size rfl ?_);intro g1 cap1 w1 hown1 hgrow1 hfresh1 hlt1)
   go_ret
   exact⟨.slice (some ⟨g1,0,none⟩) (n+1) cap1,rfl,hown1,(Fr.refl _ _).grown hgrow1 (fun k e=>.inl e),fun j hj=>by
    simp only [Value.ownBlock,Option.some.injEq] at hj ⊢
    subst hj
    rcases hfresh1 with h | h
    ·simp only [Value.ownBlock,Option.some.injEq] at h;exact .inl h
    ·exact .inr (by omega)⟩
theorem ins4_grow(w:World)(base g n cap i:Nat)(xs:List (Int))(x:Int)(vb:Nat)(hbase:base≤w.heap.size)(h:w.ownsRow base 33 1 (.slice (some ⟨g,0,none⟩) n cap) n (xs.flatMap (enc4)))(hl:xs.length=n)(hi:i < n)(hn:n≤10000000000)(hroom:¬ n+1≤cap)(hvb:w.heap[vb]?=some (.cells (enc4 x).toArray 33 (0,0))) :
  Calls Tryz.prog 93 #[.slice (some ⟨g,0,none⟩) n cap,.int .i64 i,.slice (some ⟨vb,0,none⟩) 1 1] w fun e w'=>∃ G,
   e = .returned (.slice (some ⟨w.heap.size,0,none⟩) (n+1) G)∧w'.ownsRow base 33 1 (.slice (some ⟨w.heap.size,0,none⟩) (n+1) G) (n+1) ((xs.take i ++ x :: xs.drop i).flatMap (enc4))∧Fr N0 w w':=by
 obtain⟨i0,hi0,hz0,hz1,hz2⟩:=info_parts ins4_info
 obtain⟨cur,hg,hnc,hcm,hcs,htk⟩:∃ cur,w.heap[g]?=some (.cells cur 33 (0,0))∧n≤cap∧cap≤maxLen∧cur.size=cap * 1∧cur.toList.take (n * 1)=xs.flatMap (enc4):=by
  rcases h.2 with⟨h',_⟩ | ⟨g',cap',cur,h',hb,hg,hnc,hcm,hcs,htake⟩
  ·simp at h'
  ·simp only [Value.slice.injEq,Option.some.injEq,Addr.mk.injEq,and_true,true_and] at h'
   obtain⟨rfl,rfl⟩:=h'
   exact⟨cur,hg,hnc,hcm,hcs,htake⟩
 have hsz:(Tryz.prog.info? 33).map (·.size)=some 1:=by rw[hi0];simp [hz1]
 have hc63:cap≤9223372036854775807:=by unfold maxLen at hcm;omega
 have hgl:=lt_of_block hg
 have hvl:=lt_of_block hvb
 obtain⟨os,hose⟩:∃ cs,(xs.take i).flatMap (enc4)=cs:=⟨_,rfl⟩
 obtain⟨cs,hcse⟩:∃ cs,(xs.drop i).flatMap (enc4)=cs:=⟨_,rfl⟩
 have hosl:os.length=i * 1:=by rw[← hose,flat_len ins4_len,List.length_take];congr 1;omega
 have hcsl:cs.length=(n - i) * 1:=by rw[← hcse,flat_len ins4_len,List.length_drop,hl]
 have hcs1:∀ u ∈ cs,u.oneCell'=true:=by rw[← hcse];exact oneCells_flat ins4_one _
 have e1:os ++ cs=cur.toList.take (n * 1):=by rw[htk,← hose,← hcse,← List.flatMap_append,List.take_append_drop]
 have hsrc:∀ j v,(os ++ cs)[j]?=some v→w.cell? ⟨g,j,none⟩=some v:=fun j v hj=>by
  rw[e1,List.getElem?_take] at hj
  split at hj
  ·rw[(box_cells hg).1];simpa using hj
  ·cases hj
 have hold:(Builtin.firstCells i0.size i (.slice (some ⟨g,0,none⟩) i cap)).run Tryz.prog w.drew = .ok os.toArray w.drew:=by
  rw[hz1]
  exact run_firstCells_some w.drew 1 i ⟨g,0,none⟩ i cap os hosl (fun j v hj=>by
   rw[addr_add0,Nat.zero_add]
   exact hsrc j v (by rw[List.getElem?_append_left (List.getElem?_eq_some_iff.1 hj).1];exact hj))
 have hrz:∀ ty,(Builtin.append_ #[35,3] ty #[.slice (some ⟨g,0,none⟩) i cap,.int .i64 ((n+1 - i:Nat):Int)]).run Tryz.prog w = .ok (.slice (some ⟨w.heap.size,0,none⟩) (n+1) (grownCap w (n+1) cap 33)) (w.drew.alloc (.cells (os.toArray ++ Builtin.zeroCells (Value.cells (.int .u64 0)) (n+1 - i) ++ Builtin.zeroCells (Value.cells (.int .u64 0)) (grownCap w (n+1) cap 33 - (n+1))) 33)):=fun ty=>by
  have h:=Lib.run_append_grow_zeros w 35 3 ty 33 i0 (.int .u64 0) .i64 .i64 Tryz.underlying35 Tryz.underlying3 hi0 hz0 (some ⟨g,0,none⟩) i cap os hold (n+1 - i) (by omega) (by omega) (by omega) (by omega) (by rw[hz2];omega) (by
   rw[show i+(n+1 - i)=n+1 by omega]
   exact growslice_fits (by omega) (by rw[hz2];omega))
  rw[show i+(n+1 - i)=n+1 by omega] at h
  exact h
 rw[show(((n+1 - i:Nat):Int))=(n:Int)+1 - (i:Int) by omega] at hrz
 have hGn:n+1≤grownCap w (n+1) cap 33:=grownCap_ge w _ _ _
 have hGm:=grownCap_le_maxLen w (n+1) cap 33 (by unfold maxLen;omega)
 obtain⟨G,hG⟩:∃ G,G=grownCap w (n+1) cap 33:=⟨_,rfl⟩
 rw[← hG] at hrz hGn hGm
 have hG63:G≤9223372036854775807:=by unfold maxLen at hGm;omega
 obtain⟨cur0,hcur0⟩:∃ c,(os.toArray ++ Builtin.zeroCells (Value.cells (.int .u64 0)) (n+1 - i) ++ Builtin.zeroCells (Value.cells (.int .u64 0)) (G - (n+1)))=c:=⟨_,rfl⟩
 have hc0l:cur0.size=G * 1:=by
  have hzc:(Value.cells (.int .u64 0)).size=1:=rfl
  rw[← hcur0,Array.size_append,Array.size_append,size_zeroCells,size_zeroCells,List.size_toArray,hosl,hzc];omega
 have hc0t:cur0.toList.take (i * 1)=os:=by
  rw[← hcur0]
  simp only [Array.toList_append,List.append_assoc]
  rw[List.take_left' (by simpa using hosl)]
 obtain⟨H,hH⟩:∃ H,w.heap.size=H:=⟨_,rfl⟩
 rw[hcur0] at hrz
 have hW1h:(w.drew.alloc (.cells cur0 33)).heap[H]?=some (.cells cur0 33 (0,0)):=by rw[← hH];exact World.alloc_heap_new w.drew _
 have hW1f:Fr N0 w (w.drew.alloc (.cells cur0 33)):=(Fr.refl _ _).drew.alloc _
 have hH':g≠H∧vb≠H:=by omega
 obtain⟨W1,hW1⟩:∃ W,w.drew.alloc (.cells cur0 33)=W:=⟨_,rfl⟩
 rw[hW1,hH] at hrz
 rw[hW1] at hW1h hW1f
 obtain⟨cur1,hcur1⟩:∃ c,cur0.toList.take (i * 1) ++(enc4 x) ++ cur0.toList.drop (i * 1+(enc4 x).length)=c:=⟨_,rfl⟩
 have hrow:=ins_row2 (enc:=enc4) (k:=1) ins4_len xs x i (by omega) cur0.toList (hc0t.trans hose.symm) (by rw[hl];simp only [Array.length_toList];omega) cur1 hcur1
 rw[hcse] at hrow
 have hc1l:cur1.length=G * 1:=by
  rw[← hcur1,List.length_append,List.length_append,List.length_take,List.length_drop,Array.length_toList,ins4_len];omega
 have hc1:(Builtin.copy_ #[35,35] 3 #[.slice (some ⟨H,i * 1,none⟩) (n+1 - i) (G - i),.slice (some ⟨vb,0,none⟩) 1 1]).run Tryz.prog W1 = .ok (goInt ((1:Nat):Int)) (W1.setRow H cur1.toArray):=by
  rw[← hcur1]
  exact run_copy_rowK W1 35 35 3 33 1 H (i * 1) (n+1 - i) (G - i) ⟨vb,0,none⟩ 1 1 1 cur0 33 (enc4 x) Tryz.underlying35 hsz hW1h (by show 1=min _ _;omega) (by rw[ins4_len]) (fun j v hj=>by
   rw[addr_add0,(box_cells (hW1f.at (k:=vb) id hvl |>.trans hvb)).1]
   simpa using hj) (by rw[ins4_len];omega) (ins4_one x)
 obtain⟨cur2,hcur2⟩:∃ c,cur1.take ((i+1) * 1) ++ cs ++ cur1.drop ((i+1) * 1+cs.length)=c:=⟨_,rfl⟩
 rw[hcur2] at hrow
 have hW2h:(W1.setRow H cur1.toArray).heap[H]?=some (.cells cur1.toArray 33 (0,0)):=setRow_heap W1 H cur0 cur1.toArray 33 (0,0) hW1h
 have hW2g:(W1.setRow H cur1.toArray).heap[g]?=w.heap[g]?:=(setRow_other W1 H g _ hH'.1).trans (hW1f.at (k:=g) id hgl)
 have hW2f:Fr N0 w (W1.setRow H cur1.toArray):=hW1f.trans (fr_setRow _ H _) (fun k hk=>.inr (by omega))
 obtain⟨W2,hW2⟩:∃ W,W1.setRow H cur1.toArray=W:=⟨_,rfl⟩
 rw[hW2] at hc1 hW2h hW2g hW2f
 have hc2:(Builtin.copy_ #[35,35] 3 #[.slice (some ⟨H,(i+1) * 1,none⟩) (n+1 - (i+1)) (G - (i+1)),.slice (some ⟨g,i * 1,none⟩) (n - i) (cap - i)]).run Tryz.prog W2.drew = .ok (goInt ((n - i:Nat):Int)) (W2.drew.setRow H cur2.toArray):=by
  rw[← hcur2]
  exact run_copy_rowK W2.drew 35 35 3 33 1 H ((i+1) * 1) (n+1 - (i+1)) (G - (i+1)) ⟨g,i * 1,none⟩ (n - i) (cap - i) (n - i) cur1.toArray 33 cs Tryz.underlying35 hsz hW2h (by show n - i=min _ _;omega) hcsl (fun j v hj=>by
   rw[addr_add0]
   have e2:=hsrc (i * 1+j) v (by rw[List.getElem?_append_right (by omega),hosl,Nat.add_sub_cancel_left];exact hj)
   have e3:W2.drew.heap[g]?=w.heap[g]?:=hW2g
   rw[(box_cells (e3.trans hg)).1]
   rw[(box_cells hg).1] at e2
   exact e2) (by rw[List.size_toArray];omega) hcs1
 simp only [Nat.mul_one,Nat.add_sub_add_right] at hc1 hc2
 have hb1:(0:Int)≤(i:Int)+1:=by omega
 have hw1:IntKind.i64.wrap ((i:Int)+1)=(i:Int)+1:=by rw[IntKind.wrap_i64];omega
 have hni:(0:Int)≤(n:Int)+1 - (i:Int):=by omega
 have hni2:(n:Int)+1 - (i:Int)≤10000000001:=by omega
 have hz2:¬((i:Int)=(n:Int)):=by omega
 have htn:((i:Int)+1).toNat=i+1:=by omega
 have hb2:¬(cap=i):=by omega
 have hb3:¬(G=i):=by omega
 have hb4:¬(G=i+1):=by omega
 have hin:i≤n:=by omega
 have HW2H:=hhd hW2h;have HROW:=hhd hrow;have HCL:=hhd hc1l;have HC2:=hhd hcur2;have HX:=hhd hl;have HW2F:=hhd hW2f;have HCS:=hhd hcsl;have HHH:=hhd hH
 clear hW2h hrow hc1l hcur2 hl hW2f hcsl hW1h hW1f hW2g hW1 hW2 hcur0 hcur1 hc0l hc0t hose hcse hosl hcs1 e1 hsrc hold h hvb hg hcm hcs htk hz0 hz1 hz2 hi0 hsz hG
 rw[hH]
 go_enter Tryz.func93,Tryz.ntmps93
 go_wp2_with (at_builtin;go_loud (refine Lib.wpList_append_run _ rfl _ _ _ _ rfl _ _ rfl rfl _ _ (hrz _) ?_))
 go_region_law (fail)
 go_wp2
 go_ret
 have hl:=HX.out
 refine⟨G,rfl,⟨?_,.inr ⟨H,G,cur2.toArray,rfl,by have:=HHH.out;omega,setRow_heap _ H _ cur2.toArray 33 (0,0) HW2H.out,hGn,hGm,?_,?_⟩⟩,HW2F.out.drew.trans (fr_setRow _ H _) (fun k hk=>.inr (by have:=HHH.out;omega))⟩
 ·rw[flat_len ins4_len,List.length_append,List.length_cons,List.length_take,List.length_drop];congr 1;omega
 ·have:=HCL.out;have:=HCS.out
  rw[List.size_toArray,← HC2.out,List.length_append,List.length_append,List.length_take,List.length_drop];omega
 ·have:=HROW.out
  rw[hl] at this
  exact this
theorem ins4_any(w:World)(base:Nat)(v:Value)(n i:Nat)(xs:List (Int))(x:Int)(vb:Nat)(hbase:base≤w.heap.size)(h:w.ownsRow base 33 1 v n (xs.flatMap (enc4)))(hl:xs.length=n)(hi:i≤n)(hn:n≤10000000000)(hvb:w.heap[vb]?=some (.cells (enc4 x).toArray 33 (0,0)))(hne:v.ownBlock≠some vb) :
  Calls Tryz.prog 93 #[v,.int .i64 i,.slice (some ⟨vb,0,none⟩) 1 1] w fun e w'=>∃ v',e = .returned v'∧w'.ownsRow base 33 1 v' (n+1) ((xs.take i ++ x :: xs.drop i).flatMap (enc4))∧Fr (fun j=>v.ownBlock=some j) w w'∧∀ j,v'.ownBlock=some j→v.ownBlock=some j∨w.heap.size≤j:=by
 by_cases he:i=n
 ·subst he
  refine(ins4_end w base v i xs x vb hbase h hn hvb).mono ?_
  rintro e w' ⟨v',rfl,h1,h2,h3⟩
  refine⟨v',rfl,?_,h2,h3⟩
  rw[List.take_of_length_le (by omega),List.drop_eq_nil_of_le (by omega)]
  exact h1
 ·have hv:∃ g cap,v = .slice (some ⟨g,0,none⟩) n cap:=by
   rcases h.2 with⟨_,h'⟩ | ⟨g,cap,cur,h',-⟩
   ·omega
   ·exact⟨g,cap,h'⟩
  obtain⟨g,cap,rfl⟩:=hv
  by_cases hr:n+1≤cap
  ·refine(ins4_shift w base g n cap i xs x vb h hl (by omega) hr hvb (fun e=>hne (by rw[e];rfl))).mono ?_
   rintro e w' ⟨rfl,h1,h2⟩
   exact⟨_,rfl,h1,h2.mono fun k hk=>.inl (by simp only [Value.ownBlock];rw[show k=g from hk]),fun j hj=>.inl hj⟩
  ·refine(ins4_grow w base g n cap i xs x vb hbase h hl (by omega) hn hr hvb).mono ?_
   rintro e w' ⟨G,rfl,h1,h2⟩
   exact⟨_,rfl,h1,h2.mono fun k hk=>hk.elim,fun j hj=>.inr (by simp only [Value.ownBlock,Option.some.injEq] at hj;omega)⟩
structure CmV where
 time:Int
 a:Option Addr
 n:Nat
 c:Nat
def CmV.enc(c:CmV):List Value:=[.int .u64 c.time,.slice c.a c.n c.c]
theorem insC_info:(Tryz.prog.info? 80).map (fun i=>(i.zero,i.size,i.bytes))=some (some (.agg #[.int .u64 0,.slice none 0 0]),2,32):=by kernel_rfl
theorem insC_len(x:CmV):(CmV.enc x).length=2:=rfl
theorem insC_one(x:CmV):∀ u ∈ x.enc,u.oneCell'=true:=by intro u hu;simp [CmV.enc] at hu;rcases hu with h | h <;> subst h <;> rfl
theorem insC_shift(w:World)(base g n cap i:Nat)(xs:List (CmV))(x:CmV)(vb:Nat)(h:w.ownsRow base 80 2 (.slice (some ⟨g,0,none⟩) n cap) n (xs.flatMap (CmV.enc)))(hl:xs.length=n)(hi:i < n)(hroom:n+1≤cap)(hvb:w.heap[vb]?=some (.cells (CmV.enc x).toArray 80 (0,0)))(hne:vb≠g) :
  Calls Tryz.prog 96 #[.slice (some ⟨g,0,none⟩) n cap,.int .i64 i,.slice (some ⟨vb,0,none⟩) 1 1] w fun e w'=>
   e = .returned (.slice (some ⟨g,0,none⟩) (n+1) cap)∧w'.ownsRow base 80 2 (.slice (some ⟨g,0,none⟩) (n+1) cap) (n+1) ((xs.take i ++ x :: xs.drop i).flatMap (CmV.enc))∧Fr (fun j=>j=g) w w':=by
 obtain⟨cur,hbase,hg,hcm,hcs,htk⟩:∃ cur,base≤g∧w.heap[g]?=some (.cells cur 80 (0,0))∧cap≤maxLen∧cur.size=cap * 2∧cur.toList.take (n * 2)=xs.flatMap (CmV.enc):=by
  rcases h.2 with⟨h',_⟩ | ⟨g',cap',cur,h',hb,hg,hnc,hcm,hcs,htake⟩
  ·simp at h'
  ·simp only [Value.slice.injEq,Option.some.injEq,Addr.mk.injEq,and_true,true_and] at h'
   obtain⟨rfl,rfl⟩:=h'
   exact⟨cur,hb,hg,hcm,hcs,htake⟩
 have hsz:(Tryz.prog.info? 80).map (·.size)=some 2:=by
  obtain⟨i0,hi0,h0,h1,h2⟩:=info_parts insC_info
  rw[hi0];simp [h1]
 have hc63:cap≤9223372036854775807:=by unfold maxLen at hcm;omega
 have hrow:=ins_row (enc:=CmV.enc) (k:=2) insC_len xs x i (by omega) cur.toList (by rw[hl];exact htk) (by rw[hl];simp only [Array.length_toList];omega)
 obtain⟨cs,hcse⟩:∃ cs,(xs.drop i).flatMap (CmV.enc)=cs:=⟨_,rfl⟩
 have hcsl:cs.length=(n - i) * 2:=by rw[← hcse,flat_len insC_len,List.length_drop,hl]
 have hcs1:∀ u ∈ cs,u.oneCell'=true:=by rw[← hcse];exact oneCells_flat insC_one _
 have hsrc1:∀ j v,cs[j]?=some v→w.cell? ((⟨g,i * 2,none⟩:Addr).add j)=some v:=fun j v hj=>by
  have e1:(xs.take i).flatMap (CmV.enc) ++ cs=cur.toList.take (n * 2):=by rw[htk,← hcse,← List.flatMap_append,List.take_append_drop]
  have e2:((xs.take i).flatMap (CmV.enc)).length=i * 2:=by rw[flat_len insC_len,List.length_take];congr 1;omega
  have hjl:j < cs.length:=(List.getElem?_eq_some_iff.1 hj).1
  have e3:cur.toList[i * 2+j]?=some v:=by
   have:=congrArg (fun l=>l[i * 2+j]?) e1
   rw[List.getElem?_append_right (by omega),e2,Nat.add_sub_cancel_left,hj,List.getElem?_take,if_pos (by omega)] at this
   exact this.symm
  rw[show((⟨g,i * 2,none⟩:Addr).add j)=⟨g,i * 2+j,none⟩ from addr_add0,(box_cells hg).1]
  simpa using e3
 obtain⟨cur1,hcur1⟩:∃ c,cur.toList.take ((i+1) * 2) ++ cs ++ cur.toList.drop ((i+1) * 2+cs.length)=c:=⟨_,rfl⟩
 replace hrow:=hrow cur1 (by rw[hcse];exact hcur1)
 have hc1l:cur1.length=cap * 2:=by
  rw[← hcur1,List.length_append,List.length_append,List.length_take,List.length_drop,Array.length_toList];omega
 have hcp1:∀ (W:World),W.heap=w.heap→∀ ty dc sc,(Builtin.copy_ #[36,36] ty #[.slice (some ⟨g,(i+1) * 2,none⟩) (n+1 - (i+1)) dc,.slice (some ⟨g,i * 2,none⟩) (n+1 - i) sc]).run Tryz.prog W =   .ok (goInt ((n - i:Nat):Int)) (W.setRow g cur1.toArray):=fun W hW ty dc sc=>by
  rw[← hcur1]
  exact run_copy_rowK W 36 36 ty 80 2 g ((i+1) * 2) (n+1 - (i+1)) dc ⟨g,i * 2,none⟩ (n+1 - i) sc (n - i) cur 80 cs Tryz.underlying36 hsz (by rw[hW];exact hg) (by show n - i=min _ _;omega) hcsl (fun j v hj=>by rw[← hsrc1 j v hj];unfold World.cell?;rw[hW]) (by omega) hcs1
 have hcp2:∀ (W:World),W.heap[g]?=some (.cells cur1.toArray 80 (0,0))→W.heap[vb]?=w.heap[vb]?→∀ ty dc,(Builtin.copy_ #[36,36] ty #[.slice (some ⟨g,i * 2,none⟩) (n+1 - i) dc,.slice (some ⟨vb,0,none⟩) 1 1]).run Tryz.prog W = .ok (goInt 1) (W.setRow g (cur1.take (i * 2) ++(CmV.enc x) ++ cur1.drop (i * 2+(CmV.enc x).length)).toArray):=fun W h1 h2 ty dc=>by
  have:=run_copy_rowK W 36 36 ty 80 2 g (i * 2) (n+1 - i) dc ⟨vb,0,none⟩ 1 1 1 cur1.toArray 80 (CmV.enc x) Tryz.underlying36 hsz h1 (by show 1=min _ _;omega) (by rw[insC_len]) (fun j v hj=>by
   rw[show((⟨vb,0,none⟩:Addr).add j)=⟨vb,0+j,none⟩ from addr_add0,(box_cells (h2.trans hvb)).1]
   simpa using hj) (by rw[insC_len,List.size_toArray,hc1l];omega) (insC_one x)
  simpa using this
 obtain⟨mvb,nvb,lvb⟩:=box_cells hvb
 have hshA:w.shape? vb=some (80,2):=by unfold World.shape?;rw[hvb];simp [insC_len]
 have hshB:w.shape? g=some (80,cap * 2):=by unfold World.shape?;rw[hg];simp [hcs]
 have hov:∀ lb cb,(callFunc 149 #[.slice (some ⟨vb,0,none⟩) 1 1,.slice (some ⟨g,(i+1) * 2,none⟩) lb cb]).run Tryz.prog w = .ok (.value (.bool false)) w:=fun lb cb=>by
  rw[run_callFunc_extern Tryz.func149 (by kernel_rfl) (by kernel_rfl) (by kernel_rfl) (e:=Extern.SlicesOverlaps.overlaps #[36,36] #[4]) (by kernel_rfl),
   Lib.run_overlaps_apart w 36 4 80 Tryz.underlying36 2 (fun w=>by kernel_rfl) ⟨vb,0,none⟩ ⟨g,(i+1) * 2,none⟩ 1 1 lb cb hne 80 80 2 (cap * 2) hshA hshB (by omega) (nvb 0) (nvb 2)]
  rfl
 skip
 have hz2:¬((i:Int)=(n:Int)):=by omega
 have hw1:IntKind.i64.wrap ((i:Int)+1)=(i:Int)+1:=by rw[IntKind.wrap_i64];omega
 have hb1:(0:Int)≤(i:Int)+1:=by omega
 have hin:i≤n:=by omega
 have htn:((i:Int)+1).toNat=i+1:=by omega
 have hb2:¬(cap=i+1):=by omega
 have hb3:(i:Int)≤(n:Int)+1:=by omega
 have hb4:¬(cap=i):=by omega
 have hc1:=hcp1 w.drew rfl 3 (cap - (i+1)) (cap - i)
 have hW1:(w.drew.setRow g cur1.toArray).heap[g]?=some (.cells cur1.toArray 80 (0,0)):=setRow_heap w.drew g cur cur1.toArray 80 (0,0) hg
 have hW2:(w.drew.setRow g cur1.toArray).heap[vb]?=w.heap[vb]?:=setRow_other w.drew g vb _ hne
 have hc2:=hcp2 (w.drew.setRow g cur1.toArray) hW1 hW2 3 (cap - i)
 obtain⟨cur2,hcur2⟩:∃ c,(cur1.take (i * 2) ++(CmV.enc x) ++ cur1.drop (i * 2+(CmV.enc x).length))=c:=⟨_,rfl⟩
 rw[hcur2] at hc2 hrow
 simp only [Nat.add_sub_add_right] at hc1 hc2
 have HW1:=hhd hW1;have HROW:=hhd hrow;have HG:=hhd hg;have HCL:=hhd hc1l;have HC2:=hhd hcur2;have HX:=hhd hl
 clear hcp1 hcp2 hW1 hW2 hcur1 hcur2 hrow hsrc1 hcs1 hcsl hcse htk hcs hg hc1l hl h hvb mvb nvb hshA hshB hcm
 go_enter Tryz.func96,Tryz.ntmps96
 go_wp2_with (simp only [hov])
 go_region_law (fail)
 go_wp2
 go_ret
 have hl:=HX.out
 refine⟨rfl,⟨?_,.inr ⟨g,cap,cur2.toArray,rfl,hbase,setRow_heap _ g _ cur2.toArray 80 (0,0) HW1.out,hroom,by unfold maxLen;omega,?_,?_⟩⟩,((Fr.refl (fun j=>j=g) w).drew.trans (fr_setRow _ g _) (fun k hk=>.inl hk)).trans (fr_setRow _ g _) (fun k hk=>.inl hk)⟩
 ·rw[flat_len insC_len,List.length_append,List.length_cons,List.length_take,List.length_drop];congr 1;omega
 ·have:=HCL.out
  rw[List.size_toArray,← HC2.out,List.length_append,List.length_append,List.length_take,List.length_drop,insC_len];omega
 ·have:=HROW.out
  rw[hl] at this
  exact this
theorem insC_end(w:World)(base:Nat)(v:Value)(n:Nat)(xs:List (CmV))(x:CmV)(vb:Nat)(hbase:base≤w.heap.size)(h:w.ownsRow base 80 2 v n (xs.flatMap (CmV.enc)))(hn:n≤10000000000)(hvb:w.heap[vb]?=some (.cells (CmV.enc x).toArray 80 (0,0))) :
  Calls Tryz.prog 96 #[v,.int .i64 n,.slice (some ⟨vb,0,none⟩) 1 1] w fun e w'=>∃ v',e = .returned v'∧w'.ownsRow base 80 2 v' (n+1) ((xs ++ [x]).flatMap (CmV.enc))∧Fr (fun j=>v.ownBlock=some j) w w'∧∀ j,v'.ownBlock=some j→v.ownBlock=some j∨w.heap.size≤j:=by
 obtain⟨i0,hi,hz0,hz1,hz2⟩:=info_parts insC_info
 have hnews:∀ j u,(CmV.enc x)[j]?=some u→w.cell? ((⟨vb,0,none⟩:Addr).add j)=some u:=fun j u hj=>by
  rw[addr_add0,(box_cells hvb).1]
  simpa using hj
 have hone:=insC_one x
 have hfl:(xs ++ [x]).flatMap (CmV.enc)=xs.flatMap (CmV.enc) ++(CmV.enc x):=by simp
 rw[hfl]
 obtain⟨nws,hnws⟩:∃ l,(CmV.enc x)=l:=⟨_,rfl⟩
 have hnl:nws.length=1 * 2:=by rw[← hnws];rfl
 rw[hnws] at hnews hone ⊢
 obtain⟨row,hrow⟩:∃ l,xs.flatMap (CmV.enc)=l:=⟨_,rfl⟩
 rw[hrow] at h ⊢
 have HR:=hhd h;have HN:=hhd hnews
 have hv:(v = .slice none 0 0∧n=0)∨∃ g cap,v = .slice (some ⟨g,0,none⟩) n cap∧n≤cap∧cap≤9223372036854775807:=by
  rcases h.2 with h' | ⟨g,cap,cur,h',hb,hg,hnc,hcm,hcs,htake⟩
  ·exact .inl h'
  ·exact .inr ⟨g,cap,h',hnc,by unfold maxLen at hcm;omega⟩
 clear h hnews hvb hnws hrow hfl
 rcases hv with⟨rfl,rfl⟩ | ⟨g,cap,rfl,hnc,hc63⟩
 ·go_enter Tryz.func96,Tryz.ntmps96
  go_wp2_with (at_builtin;go_loud (refine wpList_append_lies _ rfl _ _ 36 rfl base 80 i0 (.agg #[.int .u64 0,.slice none 0 0]) 2 32 Tryz.underlying36 hi hz0 hz1 hz2 rfl (by decide) (.slice none 0 0) 0 _ rfl HR.out ⟨vb,0,none⟩ 1 1 nws rfl hnl HN.out hone (by omega) (by unfold maxLen;omega) (by omega) hbase w.heap.size rfl ?_);intro g1 cap1 w1 hown1 hgrow1 hfresh1 hlt1)
  go_ret
  exact⟨.slice (some ⟨g1,0,none⟩) (0+1) cap1,rfl,hown1,(Fr.refl _ _).grown hgrow1 (fun k e=>by simp [Value.ownBlock] at e),fun j hj=>.inr (by
   simp only [Value.ownBlock,Option.some.injEq] at hj
   subst hj
   rcases hfresh1 with h | h
   ·simp [Value.ownBlock] at h
   ·omega)⟩
 ·by_cases hcn:cap=n
  all_goals
   go_enter Tryz.func96,Tryz.ntmps96
   go_wp2_with (at_builtin;go_loud (refine wpList_append_lies _ rfl _ _ 36 rfl base 80 i0 (.agg #[.int .u64 0,.slice none 0 0]) 2 32 Tryz.underlying36 hi hz0 hz1 hz2 rfl (by decide) (.slice (some ⟨g,0,none⟩) n cap) n _ rfl HR.out ⟨vb,0,none⟩ 1 1 nws rfl hnl HN.out hone (by omega) (by unfold maxLen;omega) (by omega) hbase w.heap.size rfl ?_);intro g1 cap1 w1 hown1 hgrow1 hfresh1 hlt1)
   go_ret
   exact⟨.slice (some ⟨g1,0,none⟩) (n+1) cap1,rfl,hown1,(Fr.refl _ _).grown hgrow1 (fun k e=>.inl e),fun j hj=>by
    simp only [Value.ownBlock,Option.some.injEq] at hj ⊢
    subst hj
    rcases hfresh1 with h | h
    ·simp only [Value.ownBlock,Option.some.injEq] at h;exact .inl h
    ·exact .inr (by omega)⟩
theorem insC_grow(w:World)(base g n cap i:Nat)(xs:List (CmV))(x:CmV)(vb:Nat)(hbase:base≤w.heap.size)(h:w.ownsRow base 80 2 (.slice (some ⟨g,0,none⟩) n cap) n (xs.flatMap (CmV.enc)))(hl:xs.length=n)(hi:i < n)(hn:n≤10000000000)(hroom:¬ n+1≤cap)(hvb:w.heap[vb]?=some (.cells (CmV.enc x).toArray 80 (0,0))) :
  Calls Tryz.prog 96 #[.slice (some ⟨g,0,none⟩) n cap,.int .i64 i,.slice (some ⟨vb,0,none⟩) 1 1] w fun e w'=>∃ G,
   e = .returned (.slice (some ⟨w.heap.size,0,none⟩) (n+1) G)∧w'.ownsRow base 80 2 (.slice (some ⟨w.heap.size,0,none⟩) (n+1) G) (n+1) ((xs.take i ++ x :: xs.drop i).flatMap (CmV.enc))∧Fr N0 w w':=by
 obtain⟨i0,hi0,hz0,hz1,hz2⟩:=info_parts insC_info
 obtain⟨cur,hg,hnc,hcm,hcs,htk⟩:∃ cur,w.heap[g]?=some (.cells cur 80 (0,0))∧n≤cap∧cap≤maxLen∧cur.size=cap * 2∧cur.toList.take (n * 2)=xs.flatMap (CmV.enc):=by
  rcases h.2 with⟨h',_⟩ | ⟨g',cap',cur,h',hb,hg,hnc,hcm,hcs,htake⟩
  ·simp at h'
  ·simp only [Value.slice.injEq,Option.some.injEq,Addr.mk.injEq,and_true,true_and] at h'
   obtain⟨rfl,rfl⟩:=h'
   exact⟨cur,hg,hnc,hcm,hcs,htake⟩
 have hsz:(Tryz.prog.info? 80).map (·.size)=some 2:=by rw[hi0];simp [hz1]
 have hc63:cap≤9223372036854775807:=by unfold maxLen at hcm;omega
 have hgl:=lt_of_block hg
 have hvl:=lt_of_block hvb
 obtain⟨os,hose⟩:∃ cs,(xs.take i).flatMap (CmV.enc)=cs:=⟨_,rfl⟩
 obtain⟨cs,hcse⟩:∃ cs,(xs.drop i).flatMap (CmV.enc)=cs:=⟨_,rfl⟩
 have hosl:os.length=i * 2:=by rw[← hose,flat_len insC_len,List.length_take];congr 1;omega
 have hcsl:cs.length=(n - i) * 2:=by rw[← hcse,flat_len insC_len,List.length_drop,hl]
 have hcs1:∀ u ∈ cs,u.oneCell'=true:=by rw[← hcse];exact oneCells_flat insC_one _
 have e1:os ++ cs=cur.toList.take (n * 2):=by rw[htk,← hose,← hcse,← List.flatMap_append,List.take_append_drop]
 have hsrc:∀ j v,(os ++ cs)[j]?=some v→w.cell? ⟨g,j,none⟩=some v:=fun j v hj=>by
  rw[e1,List.getElem?_take] at hj
  split at hj
  ·rw[(box_cells hg).1];simpa using hj
  ·cases hj
 have hold:(Builtin.firstCells i0.size i (.slice (some ⟨g,0,none⟩) i cap)).run Tryz.prog w.drew = .ok os.toArray w.drew:=by
  rw[hz1]
  exact run_firstCells_some w.drew 2 i ⟨g,0,none⟩ i cap os hosl (fun j v hj=>by
   rw[addr_add0,Nat.zero_add]
   exact hsrc j v (by rw[List.getElem?_append_left (List.getElem?_eq_some_iff.1 hj).1];exact hj))
 have hrz:∀ ty,(Builtin.append_ #[36,3] ty #[.slice (some ⟨g,0,none⟩) i cap,.int .i64 ((n+1 - i:Nat):Int)]).run Tryz.prog w = .ok (.slice (some ⟨w.heap.size,0,none⟩) (n+1) (grownCap w (n+1) cap 80)) (w.drew.alloc (.cells (os.toArray ++ Builtin.zeroCells (Value.cells (.agg #[.int .u64 0,.slice none 0 0])) (n+1 - i) ++ Builtin.zeroCells (Value.cells (.agg #[.int .u64 0,.slice none 0 0])) (grownCap w (n+1) cap 80 - (n+1))) 80)):=fun ty=>by
  have h:=Lib.run_append_grow_zeros w 36 3 ty 80 i0 (.agg #[.int .u64 0,.slice none 0 0]) .i64 .i64 Tryz.underlying36 Tryz.underlying3 hi0 hz0 (some ⟨g,0,none⟩) i cap os hold (n+1 - i) (by omega) (by omega) (by omega) (by omega) (by rw[hz2];omega) (by
   rw[show i+(n+1 - i)=n+1 by omega]
   exact growslice_fits (by omega) (by rw[hz2];omega))
  rw[show i+(n+1 - i)=n+1 by omega] at h
  exact h
 rw[show(((n+1 - i:Nat):Int))=(n:Int)+1 - (i:Int) by omega] at hrz
 have hGn:n+1≤grownCap w (n+1) cap 80:=grownCap_ge w _ _ _
 have hGm:=grownCap_le_maxLen w (n+1) cap 80 (by unfold maxLen;omega)
 obtain⟨G,hG⟩:∃ G,G=grownCap w (n+1) cap 80:=⟨_,rfl⟩
 rw[← hG] at hrz hGn hGm
 have hG63:G≤9223372036854775807:=by unfold maxLen at hGm;omega
 obtain⟨cur0,hcur0⟩:∃ c,(os.toArray ++ Builtin.zeroCells (Value.cells (.agg #[.int .u64 0,.slice none 0 0])) (n+1 - i) ++ Builtin.zeroCells (Value.cells (.agg #[.int .u64 0,.slice none 0 0])) (G - (n+1)))=c:=⟨_,rfl⟩
 have hc0l:cur0.size=G * 2:=by
  have hzc:(Value.cells (.agg #[.int .u64 0,.slice none 0 0])).size=2:=rfl
  rw[← hcur0,Array.size_append,Array.size_append,size_zeroCells,size_zeroCells,List.size_toArray,hosl,hzc];omega
 have hc0t:cur0.toList.take (i * 2)=os:=by
  rw[← hcur0]
  simp only [Array.toList_append,List.append_assoc]
  rw[List.take_left' (by simpa using hosl)]
 obtain⟨H,hH⟩:∃ H,w.heap.size=H:=⟨_,rfl⟩
 rw[hcur0] at hrz
 have hW1h:(w.drew.alloc (.cells cur0 80)).heap[H]?=some (.cells cur0 80 (0,0)):=by rw[← hH];exact World.alloc_heap_new w.drew _
 have hW1f:Fr N0 w (w.drew.alloc (.cells cur0 80)):=(Fr.refl _ _).drew.alloc _
 have hH':g≠H∧vb≠H:=by omega
 obtain⟨W1,hW1⟩:∃ W,w.drew.alloc (.cells cur0 80)=W:=⟨_,rfl⟩
 rw[hW1,hH] at hrz
 rw[hW1] at hW1h hW1f
 obtain⟨cur1,hcur1⟩:∃ c,cur0.toList.take (i * 2) ++(CmV.enc x) ++ cur0.toList.drop (i * 2+(CmV.enc x).length)=c:=⟨_,rfl⟩
 have hrow:=ins_row2 (enc:=CmV.enc) (k:=2) insC_len xs x i (by omega) cur0.toList (hc0t.trans hose.symm) (by rw[hl];simp only [Array.length_toList];omega) cur1 hcur1
 rw[hcse] at hrow
 have hc1l:cur1.length=G * 2:=by
  rw[← hcur1,List.length_append,List.length_append,List.length_take,List.length_drop,Array.length_toList,insC_len];omega
 have hc1:(Builtin.copy_ #[36,36] 3 #[.slice (some ⟨H,i * 2,none⟩) (n+1 - i) (G - i),.slice (some ⟨vb,0,none⟩) 1 1]).run Tryz.prog W1 = .ok (goInt ((1:Nat):Int)) (W1.setRow H cur1.toArray):=by
  rw[← hcur1]
  exact run_copy_rowK W1 36 36 3 80 2 H (i * 2) (n+1 - i) (G - i) ⟨vb,0,none⟩ 1 1 1 cur0 80 (CmV.enc x) Tryz.underlying36 hsz hW1h (by show 1=min _ _;omega) (by rw[insC_len]) (fun j v hj=>by
   rw[addr_add0,(box_cells (hW1f.at (k:=vb) id hvl |>.trans hvb)).1]
   simpa using hj) (by rw[insC_len];omega) (insC_one x)
 obtain⟨cur2,hcur2⟩:∃ c,cur1.take ((i+1) * 2) ++ cs ++ cur1.drop ((i+1) * 2+cs.length)=c:=⟨_,rfl⟩
 rw[hcur2] at hrow
 have hW2h:(W1.setRow H cur1.toArray).heap[H]?=some (.cells cur1.toArray 80 (0,0)):=setRow_heap W1 H cur0 cur1.toArray 80 (0,0) hW1h
 have hW2g:(W1.setRow H cur1.toArray).heap[g]?=w.heap[g]?:=(setRow_other W1 H g _ hH'.1).trans (hW1f.at (k:=g) id hgl)
 have hW2f:Fr N0 w (W1.setRow H cur1.toArray):=hW1f.trans (fr_setRow _ H _) (fun k hk=>.inr (by omega))
 obtain⟨W2,hW2⟩:∃ W,W1.setRow H cur1.toArray=W:=⟨_,rfl⟩
 rw[hW2] at hc1 hW2h hW2g hW2f
 have hc2:(Builtin.copy_ #[36,36] 3 #[.slice (some ⟨H,(i+1) * 2,none⟩) (n+1 - (i+1)) (G - (i+1)),.slice (some ⟨g,i * 2,none⟩) (n - i) (cap - i)]).run Tryz.prog W2.drew = .ok (goInt ((n - i:Nat):Int)) (W2.drew.setRow H cur2.toArray):=by
  rw[← hcur2]
  exact run_copy_rowK W2.drew 36 36 3 80 2 H ((i+1) * 2) (n+1 - (i+1)) (G - (i+1)) ⟨g,i * 2,none⟩ (n - i) (cap - i) (n - i) cur1.toArray 80 cs Tryz.underlying36 hsz hW2h (by show n - i=min _ _;omega) hcsl (fun j v hj=>by
   rw[addr_add0]
   have e2:=hsrc (i * 2+j) v (by rw[List.getElem?_append_right (by omega),hosl,Nat.add_sub_cancel_left];exact hj)
   have e3:W2.drew.heap[g]?=w.heap[g]?:=hW2g
   rw[(box_cells (e3.trans hg)).1]
   rw[(box_cells hg).1] at e2
   exact e2) (by rw[List.size_toArray];omega) hcs1
 simp only [Nat.add_sub_add_right] at hc1 hc2
 have hb1:(0:Int)≤(i:Int)+1:=by omega
 have hw1:IntKind.i64.wrap ((i:Int)+1)=(i:Int)+1:=by rw[IntKind.wrap_i64];omega
 have hni:(0:Int)≤(n:Int)+1 - (i:Int):=by omega
 have hni2:(n:Int)+1 - (i:Int)≤10000000001:=by omega
 have hz2:¬((i:Int)=(n:Int)):=by omega
 have htn:((i:Int)+1).toNat=i+1:=by omega
 have hb2:¬(cap=i):=by omega
 have hb3:¬(G=i):=by omega
 have hb4:¬(G=i+1):=by omega
 have hin:i≤n:=by omega
 have HW2H:=hhd hW2h;have HROW:=hhd hrow;have HCL:=hhd hc1l;have HC2:=hhd hcur2;have HX:=hhd hl;have HW2F:=hhd hW2f;have HCS:=hhd hcsl;have HHH:=hhd hH
 clear hW2h hrow hc1l hcur2 hl hW2f hcsl hW1h hW1f hW2g hW1 hW2 hcur0 hcur1 hc0l hc0t hose hcse hosl hcs1 e1 hsrc hold h hvb hg hcm hcs htk hz0 hz1 hz2 hi0 hsz hG
 rw[hH]
 go_enter Tryz.func96,Tryz.ntmps96
 go_wp2_with (at_builtin;go_loud (refine Lib.wpList_append_run _ rfl _ _ _ _ rfl _ _ rfl rfl _ _ (hrz _) ?_))
 go_region_law (fail)
 go_wp2
 go_ret
 have hl:=HX.out
 refine⟨G,rfl,⟨?_,.inr ⟨H,G,cur2.toArray,rfl,by have:=HHH.out;omega,setRow_heap _ H _ cur2.toArray 80 (0,0) HW2H.out,hGn,hGm,?_,?_⟩⟩,HW2F.out.drew.trans (fr_setRow _ H _) (fun k hk=>.inr (by have:=HHH.out;omega))⟩
 ·rw[flat_len insC_len,List.length_append,List.length_cons,List.length_take,List.length_drop];congr 1;omega
 ·have:=HCL.out;have:=HCS.out
  rw[List.size_toArray,← HC2.out,List.length_append,List.length_append,List.length_take,List.length_drop];omega
 ·have:=HROW.out
  rw[hl] at this
  exact this
theorem insC_any(w:World)(base:Nat)(v:Value)(n i:Nat)(xs:List (CmV))(x:CmV)(vb:Nat)(hbase:base≤w.heap.size)(h:w.ownsRow base 80 2 v n (xs.flatMap (CmV.enc)))(hl:xs.length=n)(hi:i≤n)(hn:n≤10000000000)(hvb:w.heap[vb]?=some (.cells (CmV.enc x).toArray 80 (0,0)))(hne:v.ownBlock≠some vb) :
  Calls Tryz.prog 96 #[v,.int .i64 i,.slice (some ⟨vb,0,none⟩) 1 1] w fun e w'=>∃ v',e = .returned v'∧w'.ownsRow base 80 2 v' (n+1) ((xs.take i ++ x :: xs.drop i).flatMap (CmV.enc))∧Fr (fun j=>v.ownBlock=some j) w w'∧∀ j,v'.ownBlock=some j→v.ownBlock=some j∨w.heap.size≤j:=by
 by_cases he:i=n
 ·subst he
  refine(insC_end w base v i xs x vb hbase h hn hvb).mono ?_
  rintro e w' ⟨v',rfl,h1,h2,h3⟩
  refine⟨v',rfl,?_,h2,h3⟩
  rw[List.take_of_length_le (by omega),List.drop_eq_nil_of_le (by omega)]
  exact h1
 ·have hv:∃ g cap,v = .slice (some ⟨g,0,none⟩) n cap:=by
   rcases h.2 with⟨_,h'⟩ | ⟨g,cap,cur,h',-⟩
   ·omega
   ·exact⟨g,cap,h'⟩
  obtain⟨g,cap,rfl⟩:=hv
  by_cases hr:n+1≤cap
  ·refine(insC_shift w base g n cap i xs x vb h hl (by omega) hr hvb (fun e=>hne (by rw[e];rfl))).mono ?_
   rintro e w' ⟨rfl,h1,h2⟩
   exact⟨_,rfl,h1,h2.mono fun k hk=>.inl (by simp only [Value.ownBlock];rw[show k=g from hk]),fun j hj=>.inl hj⟩
  ·refine(insC_grow w base g n cap i xs x vb hbase h hl (by omega) hn hr hvb).mono ?_
   rintro e w' ⟨G,rfl,h1,h2⟩
   exact⟨_,rfl,h1,h2.mono fun k hk=>hk.elim,fun j hj=>.inr (by simp only [Value.ownBlock,Option.some.injEq] at hj;omega)⟩
end
section
open Go.RowKit Go.Shelf Go.Maps
def mkS(l:List UInt8):ByteArray:=⟨l.toArray⟩
def RowsK{α:Type}(enc:α→List Value)(n:Nat)(w:World)(b:Nat)(v:Value)(xs:List α):Prop:=
 ∃ a off cap,v = .slice a xs.length cap∧xs.length≤cap∧cap≤9223372036854775807∧(0 < xs.length→a=some ⟨b,off,none⟩)∧(a=none→cap=0) ∧
  ∀ i (h:i < xs.length) c,c < n→w.cell? ⟨b,off+i * n+c,none⟩=(enc xs[i])[c]?
theorem RowsK.fr0{α:Type}{enc:α→List Value}{n:Nat}(hn:∀ x,(enc x).length=n){w w':World}{b:Nat}{v:Value}{xs:List α}(h:RowsK enc n w b v xs)(hf:Fr N0 w w'):RowsK enc n w' b v xs:=by
 obtain⟨a,off,cap,h1,h2,h3,h4,h5,h6⟩:=h
 refine⟨a,off,cap,h1,h2,h3,h4,h5,fun i hi c hc=>?_⟩
 have hc':c < (enc xs[i]).length:=by rw[hn];exact hc
 have:=h6 i hi c hc
 rw[List.getElem?_eq_getElem hc'] at this ⊢
 exact hf.cell (p:=⟨b,off+i * n+c,none⟩) id this
abbrev Wrs(w:World)(b:Nat)(v:Value)(xs:List Wr):Prop:=RowsK Wr.enc 8 w b v xs
theorem Wrs.fr0{w w':World}{b:Nat}{v:Value}{xs:List Wr}(h:Wrs w b v xs)(hf:Fr N0 w w'):Wrs w' b v xs:=RowsK.fr0 (enc:=Wr.enc) (n:=8) (fun _=>rfl) h hf
theorem wr_cells{W:World}{b p:Nat}{x:Wr}(h:∀ c,c < 8→W.cell? ⟨b,p+c,none⟩=x.enc[c]?) :
  W.cell? ⟨b,p,none⟩=some (.bool x.del)∧W.cell? ⟨b,p+1,none⟩=some (.int .u64 x.uid)∧W.cell? ⟨b,p+2,none⟩=some (.string x.pred)∧W.cell? ⟨b,p+3,none⟩=some (.int .u8 x.val.k) ∧
  W.cell? ⟨b,p+4,none⟩=some (.bool x.val.b)∧W.cell? ⟨b,p+5,none⟩=some (.int .i64 x.val.n)∧W.cell? ⟨b,p+6,none⟩=some (.string x.val.s)∧W.cell? ⟨b,p+7,none⟩=some (.int .u64 x.val.u):=
 ⟨h 0 (by omega),h 1 (by omega),h 2 (by omega),h 3 (by omega),h 4 (by omega),h 5 (by omega),h 6 (by omega),h 7 (by omega)⟩
end
section
open Go.RowKit Go.Shelf Go.Maps Go.Sort
attribute [local go_sem] Oper.semAt_some
attribute [local irreducible] wpQuiet
def idxW{α:Type}(xs:List α)(p:α→Bool):Int:=if xs.findIdx p < xs.length then xs.findIdx p else -1
theorem idxW_at{α:Type}{xs:List α}{p:α→Bool}{k:Nat}(h:k < xs.length)(hn:∀ j (h:j < xs.length),j < k→p xs[j]=false)(hk:p xs[k]=true):idxW xs p=k:=by
 have:=(List.findIdx_eq (p:=p) h).2 ⟨hk,fun j hj=>by simpa using hn j (by omega) hj⟩
 rw[idxW,this,if_pos h]
theorem idxW_none{α:Type}{xs:List α}{p:α→Bool}(hn:∀ j (h:j < xs.length),j < xs.length→p xs[j]=false):idxW xs p = -1:=by
 have:xs.findIdx p=xs.length:=by
  rw[List.findIdx_eq_length]
  intro s hs
  obtain⟨j,hj,rfl⟩:=List.getElem_of_mem hs
  exact hn j hj hj
 rw[idxW,this,if_neg (by omega)]
theorem idxW_ge{α:Type}{xs:List α}{p:α→Bool}:decide (0≤idxW xs p)=xs.any p:=by
 by_cases h:xs.findIdx p < xs.length
 ·rw[idxW,if_pos h]
  have h2:=List.findIdx_getElem (w:=h)
  have:xs.any p=true:=List.any_eq_true.2 ⟨_,List.getElem_mem h,h2⟩
  rw[this];simp
 ·rw[idxW,if_neg h]
  have:xs.any p=false:=by
   rw[Bool.eq_false_iff];intro h2
   obtain⟨x,hx,hp⟩:=List.any_eq_true.1 h2
   exact h (List.findIdx_lt_length_of_exists ⟨x,hx,hp⟩)
  rw[this];decide
end
section
open Go.RowKit Go.Shelf Go.Maps Go.Sort
attribute [local go_sem] Oper.semAt_some
theorem RowsK.nil{α:Type}(enc:α→List Value)(n:Nat)(w:World)(b:Nat):RowsK enc n w b (.slice none 0 0) []:=⟨none,0,0,rfl,Nat.le_refl _,by omega,by simp,by simp,by simp⟩
theorem ownsRow_fr{w w':World}{T:Nat→Prop}{base:Nat}{e:TypeId}{size:Nat}{v:Value}{n:Nat}{xs:List Value}(h:w.ownsRow base e size v n xs)(hf:Fr T w w')(ht:∀ k,v.ownBlock=some k→¬ T k):w'.ownsRow base e size v n xs:=by
 refine⟨h.1,?_⟩
 rcases h.2 with hn | ⟨g,cap,cur,rfl,hb,hg,rest⟩
 ·exact .inl hn
 ·exact .inr ⟨g,cap,cur,rfl,hb,(hf.at (k:=g) (ht g rfl) (lt_of_block hg)).trans hg,rest⟩
theorem _root_.Go.World.ownsRow.fr0{w w':World}{base:Nat}{e:TypeId}{size:Nat}{v:Value}{n:Nat}{xs:List Value}(h:w.ownsRow base e size v n xs)(hf:Fr N0 w w'):w'.ownsRow base e size v n xs:=ownsRow_fr h hf fun _ _=>id
theorem ownsRow_lt{w:World}{base:Nat}{e:TypeId}{size:Nat}{v:Value}{n:Nat}{xs:List Value}(h:w.ownsRow base e size v n xs):∀ k,v.ownBlock=some k→base≤k∧k < w.heap.size:=fun k hk=>by
 rcases h.2 with⟨rfl,_⟩ | ⟨g,cap,cur,rfl,hb,hg,_⟩
 ·cases hk
 ·simp only [Value.ownBlock,Option.some.injEq] at hk
  subst hk
  exact⟨hb,lt_of_block hg⟩
theorem flat_length{α:Type}{enc:α→List Value}{n:Nat}(hn:∀ x,(enc x).length=n):∀ xs:List α,(xs.flatMap enc).length=xs.length * n
 | []=>by simp
 | x :: xs=>by rw[List.flatMap_cons,List.length_append,hn,flat_length hn xs,List.length_cons,Nat.succ_mul,Nat.add_comm]
theorem flat_get{α:Type}{enc:α→List Value}{n:Nat}(hn:∀ x,(enc x).length=n):∀ (xs:List α) (i:Nat) (h:i < xs.length) (c:Nat),c < n→(xs.flatMap enc)[i * n+c]?=(enc xs[i])[c]?
 | [],i,h,c,hc=>by simp at h
 | x :: xs,0,h,c,hc=>by
  rw[List.flatMap_cons,Nat.zero_mul,Nat.zero_add,List.getElem?_append_left (by rw[hn];exact hc)];rfl
 | x :: xs,i+1,h,c,hc=>by
  rw[List.flatMap_cons,List.getElem?_append_right (by rw[hn,Nat.succ_mul];omega),hn,show(i+1) * n+c - n=i * n+c by rw[Nat.succ_mul];omega]
  exact flat_get hn xs i (by simpa using h) c hc
theorem rowsK_of_row{α:Type}{enc:α→List Value}{n:Nat}(hn:∀ x,(enc x).length=n)(h0:0 < n){w:World}{base:Nat}{e:TypeId}{v:Value}{xs:List α}(h:w.ownsRow base e n v xs.length (xs.flatMap enc)) :
  ∃ b,base≤b∧RowsK enc n w b v xs:=by
 rcases h.2 with⟨hv,h1⟩ | ⟨g,cap,cur,hv,hgb,hgg,hnc,hcm,hcs,htk⟩
 ·have:xs = []:=List.eq_nil_of_length_eq_zero h1
  subst this;rw[hv];exact⟨base,Nat.le_refl _,RowsK.nil _ _ _ _⟩
 ·refine⟨g,hgb,some ⟨g,0,none⟩,0,cap,hv,hnc,by unfold maxLen at hcm;omega,fun _=>rfl,by simp,fun i hi c hc=>?_⟩
  have hlt:i * n+c < xs.length * n:=by
   have:(i+1) * n≤xs.length * n:=Nat.mul_le_mul_right _ hi
   rw[Nat.succ_mul] at this;omega
  have h2:(cur.toList.take (xs.length * n))[i * n+c]?=(xs.flatMap enc)[i * n+c]?:=by rw[htk]
  rw[List.getElem?_take_of_lt hlt,flat_get hn xs i hi c hc] at h2
  rw[Nat.zero_add]
  simp only [World.cell?,hgg]
  simp only [Option.isSome_none,Bool.false_eq_true,if_false]
  rw[← Array.getElem?_toList,h2]
theorem addr_add(b o j:Nat):(⟨b,o,none⟩:Addr).add j=⟨b,o+j,none⟩:=by unfold Addr.add;split <;> simp_all
theorem rows_news{α:Type}{enc:α→List Value}{n:Nat}(hn:∀ x,(enc x).length=n)(h0:0 < n){w:World}{b:Nat}{a:Addr}{len cap:Nat}{xs:List α}(h:RowsK enc n w b (.slice (some a) len cap) xs):∀ j u,(xs.flatMap enc)[j]?=some u→w.cell? (a.add j)=some u:=by
 intro j u hu
 obtain⟨a',off,cap',hv,h1,h2,h3,h4,h5⟩:=h
 simp only [Value.slice.injEq] at hv
 obtain⟨rfl,rfl,rfl⟩:=hv
 have hj:j < xs.length * n:=by
  rcases Nat.lt_or_ge j (xs.length * n) with hlt | hge
  ·exact hlt
  ·rw[List.getElem?_eq_none (by rw[flat_length hn];exact hge)] at hu;cases hu
 have hpos:0 < xs.length:=by
  rcases Nat.eq_zero_or_pos xs.length with h | h
  ·rw[h] at hj;simp at hj
  ·exact h
 have:=h3 hpos
 simp only [Option.some.injEq] at this
 subst this
 have hi:j / n < xs.length:=Nat.div_lt_of_lt_mul (by rw[Nat.mul_comm];exact hj)
 have hc:j % n < n:=Nat.mod_lt _ h0
 have hjj:j / n * n+j % n=j:=by rw[Nat.mul_comm];exact Nat.div_add_mod j n
 have h6:=h5 (j / n) hi (j % n) hc
 have h7:=flat_get hn xs (j / n) hi (j % n) hc
 rw[hjj] at h7
 rw[addr_add,show off+j=off+j / n * n+j % n by omega,h6,← h7,hu]
theorem one_cells{α:Type}{enc:α→List Value}(h:∀ x,∀ u ∈ enc x,u.oneCell'=true)(xs:List α):∀ u ∈ xs.flatMap enc,u.oneCell'=true:=by
 intro u hu
 obtain⟨x,_,hx⟩:=List.mem_flatMap.1 hu
 exact h x u hx
abbrev zeroWrV:Value:=.agg #[.bool false,.int .u64 0,.string ⟨#[]⟩,.int .u8 0,.bool false,.int .i64 0,.string ⟨#[]⟩,.int .u64 0]
theorem infoWr:(Tryz.prog.info? 61).map (fun i=>(i.zero,i.size,i.bytes))=some (some zeroWrV,8,72):=by kernel_rfl
theorem wr_one:∀ (x:Wr),∀ u ∈ x.enc,u.oneCell'=true:=by intro x u hu;simp [Wr.enc] at hu;rcases hu with h | h | h | h | h | h | h | h <;> subst h <;> rfl
theorem cloneW_any(w:World)(b:Nat)(v:Value)(xs:List Wr)(h:Wrs w b v xs)(hl:xs.length≤10000000000) :
  Calls Tryz.prog 64 #[v] w fun e w'=>∃ v',e = .returned v'∧w'.ownsRow w.heap.size 61 8 v' xs.length (xs.flatMap Wr.enc)∧(v = .slice none 0 0→v' = .slice none 0 0)∧Fr N0 w w':=by
 obtain⟨i0,hi,hz0,hz1,hz2⟩:=info_parts infoWr
 have h':=h
 have hq:=fun(w:World) a n c=>Lib.run_eql_slice_nil (P:=Tryz.prog) w 34 61 a n c 0 0 Tryz.underlying34
 obtain⟨a,off,cap,rfl,h1,h2,h3,h4,h5⟩:=h
 cases a with
 | none=>
  have hc:=h4 rfl
  subst hc
  obtain rfl:xs = []:=List.eq_nil_of_length_eq_zero (by omega)
  go_enter Tryz.func64,Tryz.ntmps64
  go_wp2
  go_ret
  exact⟨_,rfl,World.ownsRow_nil _ _ _ _,by simp,Fr.refl _ _⟩
 | some a=>
  have hnews:=rows_news (enc:=Wr.enc) (n:=8) (fun _=>rfl) (by decide) h'
  clear h' h3 h4 h5
  have hnews':∀ (j:Nat) (u:Value),(xs.flatMap Wr.enc)[j]?=some u→(w.alloc (.cells #[] 61)).cell? (a.add j)=some u:=fun j u hu=>
   ((Fr.refl N0 w).alloc _).cell (fun h=>h) (hnews j u hu)
  have hown:=World.ownsRow_lit (base:=w.heap.size) (e:=61) (size:=8) w #[] 0 (Nat.le_refl _) (by simp [maxLen]) rfl
  have hlen:(xs.flatMap Wr.enc).length=xs.length * 8:=flat_length (enc:=Wr.enc) (n:=8) (fun _=>rfl) xs
  have HN:=hhd hnews';have HO:=hhd hown;have HL:=hhd hlen
  clear hnews hnews' hown hlen
  go_enter Tryz.func64,Tryz.ntmps64
  go_wp2_with (at_builtin;go_loud (refine wpList_append_own _ rfl _ _ 34 rfl w.heap.size 61 i0 zeroWrV 8 72 Tryz.underlying34 hi hz0 hz1 hz2 rfl (by decide) _ _ _ rfl HO.out a xs.length cap (xs.flatMap Wr.enc) rfl HL.out HN.out (one_cells wr_one xs) (by unfold maxLen;omega) (by omega) (by simp) ?_);intro v' w1 hown' hgrow _)
  go_ret
  refine⟨v',rfl,by simpa using hown',((Fr.refl _ _).alloc _).grown hgrow (fun k e=>.inr ?_)⟩
  have e':some w.heap.size=some k:=e
  cases e';exact Nat.le_refl _
end
section
open Go.RowKit Go.Shelf Go.Maps Go.Sort
attribute [local go_sem] Oper.semAt_some
attribute [local irreducible] wpQuiet
theorem setCells_specW(g:Nat)(e:TypeId)(fr:Nat × Nat):∀ (vs:List Value) (w:World) (o:Nat) (cur:Array Value),w.heap[g]?=some (.cells cur e fr) →
  ∃ cur',(w.setCells g o vs).heap[g]?=some (.cells cur' e fr)∧cur'.size=cur.size∧(∀ j,j < o→cur'[j]?=cur[j]?)∧Fr (fun k=>k=g) w (w.setCells g o vs)
 | [],w,o,cur,h=>⟨cur,h,rfl,fun _ _=>rfl,Fr.refl _ _⟩
 | v :: vs,w,o,cur,h=>by
  have h1:(w.setCell ⟨g,o,none⟩ v).heap[g]?=some (.cells (cur.setIfInBounds o v) e fr):=by
   have hl:=lt_of_block h
   simp only [World.setCell,Array.getElem?_modify]
   simp [h]
  obtain⟨cur',h2,h3,h4,h5⟩:=setCells_specW g e fr vs (w.setCell ⟨g,o,none⟩ v) (o+1) _ h1
  exact⟨cur',h2,by simpa using h3,fun j hj=>by rw[h4 j (by omega)];simp [Array.getElem?_setIfInBounds];omega,((Fr.refl (fun k=>k=g) w).setCell (p:=⟨g,o,none⟩) (.inl rfl) _).trans h5 fun k hk=>.inl hk⟩
theorem row_clearK{α:Type}{enc:α→List Value}{k:Nat}(hk:∀ x,(enc x).length=k){w:World}{base g n cap:Nat}{e:TypeId}{ys:List α}{m:Nat}(vs:List Value)
  (h:w.ownsRow base e k (.slice (some ⟨g,0,none⟩) n cap) n (ys.flatMap enc)) (hn:ys.length=n) (hm:m≤n) :
  (w.setCells g (m * k) vs).ownsRow base e k (.slice (some ⟨g,0,none⟩) m cap) m ((ys.take m).flatMap enc):=by
 have hmy:(ys.take m).length=m:=by simp;omega
 rcases h.2 with⟨h',_⟩ | ⟨g',cap',cur,h',hb,hg,hnc,hcm,hcs,htake⟩
 ·simp at h'
 ·simp only [Value.slice.injEq,Option.some.injEq,Addr.mk.injEq,and_true,true_and] at h'
  obtain⟨rfl,rfl⟩:=h'
  obtain⟨cur',h2,h3,h4,h5⟩:=setCells_specW g _ _ vs w (m * k) cur hg
  have hmk:m * k≤n * k:=Nat.mul_le_mul_right _ hm
  have hflat:(ys.take m).flatMap enc=(ys.flatMap enc).take (m * k):=by
   have h6:ys.flatMap enc=(ys.take m).flatMap enc ++(ys.drop m).flatMap enc:=by rw[← List.flatMap_append,List.take_append_drop]
   rw[h6,List.take_left' (by rw[flat_length hk,hmy])]
  refine⟨by rw[flat_length hk,hmy],.inr ⟨g,cap,cur',rfl,hb,h2,by omega,hcm,by omega,?_⟩⟩
  rw[hflat,← htake,List.take_take,Nat.min_eq_left hmk]
  apply List.ext_getElem?
  intro j
  simp only [List.getElem?_take]
  split
  ·rename_i hj;have:=h4 j (by omega);simpa using this
  ·rfl
theorem run_clear_cells{P:Program}(w:World)(t e ty:TypeId)(z:Value)(ht:P.underlying t=some (.slice e))(hv:∀ w,(zeroValue e).run P w = .ok z w)(b o n c:Nat)(hn:0 < n)(h1:∀ u ∈ z.cells.toList,u.oneCell'=true)
  (hc:∀ j,j < n * z.cells.size→(w.cell? ⟨b,o+j,none⟩).isSome=true) (hf:∀ j,j < n * z.cells.size→w.frozen? ⟨b,o+j,none⟩=false) :
  (Builtin.clear_ #[t] ty #[.slice (some ⟨b,o,none⟩) n c]).run P w = .ok (.tuple #[]) (w.setCells b o (Builtin.zeroCells z.cells n).toList):=by
 have hsz:(Builtin.zeroCells z.cells n).toList.length=n * z.cells.size:=by simp [Builtin.zeroCells]
 have hone:∀ v ∈ (Builtin.zeroCells z.cells n).toList,v.oneCell'=true:=by
  intro v hv'
  simp only [Builtin.zeroCells,Array.toList_map,List.mem_map] at hv'
  obtain⟨i,hi,rfl⟩:=hv'
  have hi':i < n * z.cells.size:=by simpa using hi
  have hpos:0 < z.cells.size:=by
   rcases Nat.eq_zero_or_pos z.cells.size with h | h
   ·rw[h] at hi';simp at hi'
   ·exact h
  have hm:i % z.cells.size < z.cells.size:=Nat.mod_lt _ hpos
  rw[getElem!_pos z.cells _ hm]
  exact h1 _ (Array.getElem_mem_toList hm)
 have hst:=run_storeCells_cells (P:=P) b o (Builtin.zeroCells z.cells n).toList 0 w (by rw[hsz];simpa using hc) (by rw[hsz];simpa using hf) hone
 simp only [Nat.add_zero] at hst
 obtain⟨m,rfl⟩:∃ m,n=m+1:=⟨n - 1,by omega⟩
 simp [Builtin.clear_,run_underlying ht,hv,hst]
end
end Go.Proofs.YtefepfiijoafbaaGreat
