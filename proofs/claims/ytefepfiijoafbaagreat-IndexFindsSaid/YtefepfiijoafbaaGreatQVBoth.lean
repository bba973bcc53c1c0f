/- VTm1 VTm2 VTm3 VTerms VBoth -/
import Derived.Sort.OwnSorted
import Derived.Test.YtefepfiijoafbaaGreatQRCnt
import Derived.Test.YtefepfiijoafbaaGreatQXMark
import Derived.Test.YtefepfiijoafbaaGreatQRising
import Derived.Test.YtefepfiijoafbaaGreatQBS
import Derived.Test.YtefepfiijoafbaaGreatQWhere
set_option linter.unusedVariables false
set_option linter.unusedSimpArgs false
set_option maxRecDepth 100000
set_option maxHeartbeats 8000000
namespace Go.Proofs.YtefepfiijoafbaaGreat
section
open Go.RowKit Go.Shelf Go.Maps
attribute [local go_sem] Oper.semAt_some
attribute [local irreducible] wpQuiet
def TmSt(base R L:Nat)(S:List ByteArray × List UInt8)(W:World):Prop:=
 ∃ rv lv,W.heap[R]?=some (.cells #[rv] 24 (0,0))∧W.heap[L]?=some (.cells #[lv] 92 (0,0))∧TmAt base S lv rv W
theorem row_zero{w:World}{base n c:Nat}{a:Option Addr}{xs:List Value}(h:w.ownsRow base 5 1 (.slice a n c) n xs):w.ownsRow base 5 1 (.slice a 0 c) 0 []:=by
 refine⟨rfl,?_⟩
 rcases h.2 with⟨e,h0⟩ | ⟨g,cap,cur,e,h1,h2,h3,h4,h5,h6⟩
 ·simp only [Value.slice.injEq] at e
  obtain⟨rfl,-,rfl⟩:=e
  exact .inl ⟨rfl,rfl⟩
 ·simp only [Value.slice.injEq] at e
  obtain⟨rfl,-,rfl⟩:=e
  exact .inr ⟨g,c,cur,rfl,h1,h2,Nat.zero_le _,h4,h5,by simp⟩
noncomputable def vt1(n:Nat):Code:=lvSuf n ((Tryz.f249.body).getD .skip)
theorem vtR1{K:Act→World→Prop}{Q:Exit→Act→World→Prop}(W:World)(f:Nat→Value)(R L base n c k lc g:Nat)(la:Option Addr)(cells:List Value)(tx:ByteArray)(h0:f 0 = .pointer (some ⟨R,0,none⟩))(h1:f 1 = .pointer (some ⟨L,0,none⟩))
  (hR:W.heap[R]?=some (.cells #[.slice (some ⟨g,0,none⟩) n c] 24 (0,0))) (hL:W.heap[L]?=some (.cells #[.slice la k lc] 92 (0,0))) (hr:W.ownsRow base 9 1 (.slice la k lc) k cells) (hb:base≤W.heap.size) (hk:k≤10000000) (hnc:n≤c) (hRL:R≠L) (hlb:L < base) (m:Nat) (hm:(n≤64∧m=n)∨(64 < n∧m=64))
  (hcv:(convert 24 9 (.slice (some ⟨g,0,none⟩) m c)).run Tryz.prog W.drew = .ok (.string tx) W.drew)
  (hK:∀ f' W' v',f' 0=f 0→W'.heap[L]?=some (.cells #[v'] 92 (0,0))→W'.ownsRow base 9 1 v' (k+1) (cells ++ [.string tx])→Fr (fun q=>q=L∨(Value.slice la k lc).ownBlock=some q) W W'→K (frA 16 f') W') :
  Code.wp Tryz.prog (lvFst (srThen (srSnd (vt1 0)))) (Exit.then K Q) (frA 16 f) W:=by
 obtain⟨i0,hi,hz0,hz1,hz2⟩:=info2_parts infoStr
 obtain⟨mR,nR,lR⟩:=box_cells hR
 obtain⟨mL,nL,lL⟩:=box_cells hL
 have HK:=hhd hK;have HR:=hhd hr;have HL:=hhd hL;have H0:=hhd h0
 have NL:Hid ((Value.slice la k lc).ownBlock≠some L):=hhd fun e=>by have:=(ownsRow_lt hr _ e).1;omega
 have hlz:=lL
 clear hK hr hR hL
 show Code.wp _ _ _ { tmps:=#[f 0,f 1,f 2,f 3,f 4,f 5,f 6,f 7,f 8,f 9,f 10,f 11,f 12,f 13,f 14,f 15],defers:=[] } _
 rw[h0,h1]
 clear h0 h1
 rcases hm with⟨hm,rfl⟩ | ⟨hm,rfl⟩
 ·have hm1:min (m:Int) 64=(m:Int):=by omega
  conv=>arg 2;whnf
  refine wp_plainQ ?_
  go_region_law (((refine step_append_lies _ (by rfl) _ _ 92 (by rfl) base 9 i0 (.string ⟨#[]⟩) 1 16 Tryz.underlying92 hi hz0 hz1 hz2 rfl (by decide) (.slice la k lc) k cells (by rfl) ((HR.out.drew).alloc _) ⟨W.heap.size,0,none⟩ 1 1 [.string tx] (by rfl) rfl (World.news_of_block (cs:=#[.string tx]) (t:=9) (fr:=(0,0)) (heap_alloc_new W.drew _)) (by simp [Value.oneCell']) (by omega) (by unfold maxLen;omega) (by omega) (Nat.le_trans hb (Nat.le_trans (Nat.le_succ _) (Nat.le_of_eq (World.size_alloc W.drew _).symm))) (W.heap.size+1) (World.size_alloc W.drew _) ?_;intro g1 cap1 w3 hown3 hgrow3 hfresh3 hlt3;have hfa:Fr (fun q=>(Value.slice la k lc).ownBlock=some q) _ w3:=(Fr.refl _ _).grown hgrow3 fun q e=>.inl e;have hfw:Fr (fun q=>(Value.slice la k lc).ownBlock=some q) W w3:=((((Fr.refl N0 W).alloc (.cells #[.string tx] 9)).drew).mono fun _ h=>h.elim).trans hfa fun q hq=>.inl hq;have hL3:w3.heap[L]?=some (.cells #[.slice la k lc] 92 (0,0)):=(hfw.at (k:=L) NL.out lL).trans HL.out;obtain⟨m3,n3,l3⟩:=box_cells hL3)))
  all_goals
   have hpe:=heap_setCell_same w3 L 0 _ _ (Value.slice (some ⟨g1,0,none⟩) (k+1) cap1) hL3
   have hset:=(Fr.refl (fun j=>j=L) w3).setCell (p:=⟨L,0,none⟩) (.inl rfl) (Value.slice (some ⟨g1,0,none⟩) (k+1) cap1)
   have hgL:g1≠L:=fun e=>by
    rcases hfresh3 with h | h
    ·exact NL.out (e ▸ h)
    ·omega
   have hr3:=ownsRow_fr hown3 hset fun q hq e=>hgL ((Option.some.inj hq).trans e)
   refine cut_use (n:=16) (K:=K) _ rfl ?_
   exact HK.out _ _ _ H0.out.symm (by simpa using hpe) hr3 ((hfw.mono fun q hq=>.inl (.inr hq)).setCell (.inl (.inl rfl)) _)
 ·have hm1:min (n:Int) 64=64:=by omega
  have hm2:(64:Int)≤(n:Int):=by omega
  have hm3:(64:Int)≤(c:Int):=by omega
  conv=>arg 2;whnf
  refine wp_plainQ ?_
  go_region_law (((refine step_append_lies _ (by rfl) _ _ 92 (by rfl) base 9 i0 (.string ⟨#[]⟩) 1 16 Tryz.underlying92 hi hz0 hz1 hz2 rfl (by decide) (.slice la k lc) k cells (by rfl) ((HR.out.drew).alloc _) ⟨W.heap.size,0,none⟩ 1 1 [.string tx] (by rfl) rfl (World.news_of_block (cs:=#[.string tx]) (t:=9) (fr:=(0,0)) (heap_alloc_new W.drew _)) (by simp [Value.oneCell']) (by omega) (by unfold maxLen;omega) (by omega) (Nat.le_trans hb (Nat.le_trans (Nat.le_succ _) (Nat.le_of_eq (World.size_alloc W.drew _).symm))) (W.heap.size+1) (World.size_alloc W.drew _) ?_;intro g1 cap1 w3 hown3 hgrow3 hfresh3 hlt3;have hfa:Fr (fun q=>(Value.slice la k lc).ownBlock=some q) _ w3:=(Fr.refl _ _).grown hgrow3 fun q e=>.inl e;have hfw:Fr (fun q=>(Value.slice la k lc).ownBlock=some q) W w3:=((((Fr.refl N0 W).alloc (.cells #[.string tx] 9)).drew).mono fun _ h=>h.elim).trans hfa fun q hq=>.inl hq;have hL3:w3.heap[L]?=some (.cells #[.slice la k lc] 92 (0,0)):=(hfw.at (k:=L) NL.out lL).trans HL.out;obtain⟨m3,n3,l3⟩:=box_cells hL3)))
  all_goals
   have hpe:=heap_setCell_same w3 L 0 _ _ (Value.slice (some ⟨g1,0,none⟩) (k+1) cap1) hL3
   have hset:=(Fr.refl (fun j=>j=L) w3).setCell (p:=⟨L,0,none⟩) (.inl rfl) (Value.slice (some ⟨g1,0,none⟩) (k+1) cap1)
   have hgL:g1≠L:=fun e=>by
    rcases hfresh3 with h | h
    ·exact NL.out (e ▸ h)
    ·omega
   have hr3:=ownsRow_fr hown3 hset fun q hq e=>hgL ((Option.some.inj hq).trans e)
   refine cut_use (n:=16) (K:=K) _ rfl ?_
   exact HK.out _ _ _ H0.out.symm (by simpa using hpe) hr3 ((hfw.mono fun q hq=>.inl (.inr hq)).setCell (.inl (.inl rfl)) _)
theorem u8_row_cap{w:World}{base n c g:Nat}{xs:List Value}(h:w.ownsRow base 5 1 (.slice (some ⟨g,0,none⟩) n c) n xs):n≤c:=by
 rcases h.2 with⟨e,h0⟩ | ⟨g',cap,cur,e,h1,h2,h3,-⟩
 ·simp at e
 ·simp only [Value.slice.injEq] at e
  obtain⟨-,-,rfl⟩:=e
  exact h3
theorem vTerms1_any(W:World)(base R L:Nat)(S:List ByteArray × List UInt8)(h:TmSt base R L S W)(hb:base≤W.heap.size)(hRL:R≠L)(hRb:R < base)(hLb:L < base)(h1:S.1.length≤1000000)(h2:S.2.length≤1000000) :
  Calls Tryz.prog 249 #[.pointer (some ⟨R,0,none⟩),.pointer (some ⟨L,0,none⟩)] W fun e w'=>e = .returned (.tuple #[])∧TmSt base R L (tEnd S) w'∧Fr (fun q=>q=R∨q=L∨base≤q) W w':=by
 obtain⟨rv,lv,hR,hL,hT⟩:=h
 obtain⟨ra,rc,rfl⟩:=row_form hT.r
 obtain⟨la,lc,rfl⟩:=row_form hT.l
 obtain⟨m,hm⟩:∃ m,S.2.length=m:=⟨_,rfl⟩
 obtain⟨k,hk⟩:∃ k,S.1.length=k:=⟨_,rfl⟩
 obtain⟨mR,nR,lR⟩:=box_cells hR
 have hr:=hT.r
 have hl:=hT.l
 rw[hm] at hr hR mR h2
 rw[hk] at hl hL h1
 obtain⟨Pst,hPst⟩:∃ Pst:Ending→World→Prop,(fun e w'=>e = .returned (.tuple #[])∧TmSt base R L (tEnd S) w'∧Fr (fun q=>q=R∨q=L∨base≤q) W w')=Pst:=⟨_,rfl⟩
 have hpost:∀ w',TmSt base R L (tEnd S) w'→Fr (fun q=>q=R∨q=L∨base≤q) W w'→Pst (.returned (.tuple #[])) w':=fun w' h1 h2=>by rw[← hPst];exact⟨rfl,h1,h2⟩
 rw[hPst]
 by_cases h0:m=0
 ·subst h0
  have hE:tEnd S=S:=by unfold tEnd;rw[if_pos (List.eq_nil_of_length_eq_zero hm)]
  have hst:TmSt base R L (tEnd S) W:=by rw[hE];exact⟨_,_,hR,hL,⟨by rw[hk];exact hl,by rw[hm];exact hr⟩⟩
  have HP:=hhd (hpost W hst (Fr.refl _ _))
  clear hpost hPst hT hr hl hst hE hR hL
  go_enter Tryz.func249,Tryz.ntmps249
  go_wp2_with fail
  exact bodyPost_end (v:=.tuple #[]) (by simp [results,Tryz.results249,go_sem]) rfl HP.out
 ·have hm1:(0:Int) < (m:Int):=by omega
  have hE:tEnd S=(S.1 ++ [⟨(S.2.take 64).toArray⟩],[]):=by unfold tEnd;rw[if_neg (fun e=>h0 (by rw[← hm,e];rfl))]
  obtain⟨g,hg⟩:∃ g,ra=some ⟨g,0,none⟩:=by
   rcases hr.2 with⟨e,e0⟩ | ⟨g,cap,cur,e,-⟩
   ·omega
   ·simp only [Value.slice.injEq] at e;exact⟨g,e.1⟩
  subst hg
  have hnc:=u8_row_cap hr
  obtain⟨m2,hm2⟩:∃ m2,(m≤64∧m2=m)∨(64 < m∧m2=64):=by
   by_cases h:m≤64
   ·exact⟨m,.inl ⟨h,rfl⟩⟩
   ·exact⟨64,.inr ⟨by omega,rfl⟩⟩
  have htx:S.2.take m2=S.2.take 64:=by
   rcases hm2 with⟨h,rfl⟩ | ⟨h,rfl⟩
   ·rw[List.take_of_length_le (by omega),List.take_of_length_le (by omega)]
   ·rfl
  have hcv:=row_bytesT (m:=m2) (c2:=rc) (hr.drew:W.drew.ownsRow base 5 1 (.slice (some ⟨g,0,none⟩) m rc) m ((u8s S.2).map (Value.int .u8))) (by rcases hm2 with⟨h,rfl⟩ | ⟨h,rfl⟩ <;> omega)
  rw[htx] at hcv
  obtain⟨tx,htx2⟩:∃ tx,(⟨(S.2.take 64).toArray⟩:ByteArray)=tx:=⟨_,rfl⟩
  rw[htx2] at hcv hE
  have hnl:∀ q,(Value.slice la k lc).ownBlock=some q→base≤q:=fun q hq=>(ownsRow_lt hl q hq).1
  have hap:=fun q (hq:(Value.slice la k lc).ownBlock=some q)=>rows_apart hl hr (by decide) hq
  have HE:=hhd hE;have HPOST:=hhd hpost;have HR:=hhd hR;have HL:=hhd hL;have HRW:=hhd hr;have HLW:=hhd hl;have HCV:=hhd hcv;have HNL:=hhd hnl;have HAP:=hhd hap;have HK:=hhd hk;have HM:=hhd hm;have HM2:=hhd hm2
  clear hE hpost hPst hT hr hl hR hL hcv hnl hap hm2 htx htx2 hk hm
  go_enter Tryz.func249,Tryz.ntmps249
  go_wp2_with fail
  rename_i Kc hKc
  refine wp_frA (n:=16) _ rfl ?_
  refine vtR1 (K:=Kc) W _ R L base m rc k lc g la _ tx rfl rfl HR.out HL.out HLW.out hb (by omega) hnc hRL hLb m2 HM2.out HCV.out fun f1 W1 v1 e0 hL1 hr1 hf1=>?_
  refine hKc _ _ ?_
  have hR1:=(hf1.at (k:=R) (fun h=>by
   rcases h with h | h
   ·exact hRL h
   ·have:=HNL.out R h;omega) (lt_of_block HR.out)).trans HR.out
  obtain⟨mR1,nR1,lR1⟩:=box_cells hR1
  have hrow1:=ownsRow_fr HRW.out hf1 fun q hq h=>by
   rcases h with h | h
   ·have:=(ownsRow_lt HRW.out q hq).1;omega
   ·exact HAP.out q h hq
  have e0':f1 0 = .pointer (some ⟨R,0,none⟩):=e0
  have HR1:=hhd hR1;have HL1:=hhd hL1;have HLR1:=hhd hr1;have HF1:=hhd hf1;have HRW1:=hhd hrow1
  clear hKc e0 hL1 hr1 hf1 hR1 hrow1
  obtain⟨f,hf⟩:∃ f,f=f1:=⟨_,rfl⟩
  subst hf
  show Code.wp _ _ _ { tmps:=#[f 0,f 1,f 2,f 3,f 4,f 5,f 6,f 7,f 8,f 9,f 10,f 11,f 12,f 13,f 14,f 15],defers:=[] } _
  rw[e0']
  clear e0'
  go_wp2_with fail
  refine bodyPost_end (v:=.tuple #[]) (by simp [results,Tryz.results249,go_sem]) rfl (HPOST.out _ ?_ ?_)
  ·have hset:=(Fr.refl (fun j=>j=R) W1).setCell (p:=⟨R,0,none⟩) (.inl rfl) (Value.slice (some ⟨g,0,none⟩) 0 rc)
   have hR2:=heap_setCell_same W1 R 0 _ _ (Value.slice (some ⟨g,0,none⟩) 0 rc) HR1.out
   have hL2:=(hset.at (k:=L) (fun e=>hRL e.symm) (lt_of_block HL1.out)).trans HL1.out
   refine⟨_,v1,by simpa using hR2,hL2,?_⟩
   rw[HE.out]
   refine⟨?_,?_⟩
   ·simp only [List.length_append,List.length_cons,List.length_nil,List.map_append,List.map_cons,List.map_nil,HK.out]
    exact ownsRow_fr HLR1.out hset fun q hq e=>by have:=(ownsRow_lt HLR1.out q hq).1;omega
   ·exact ownsRow_fr (row_zero HRW1.out) hset fun q hq e=>by have:=(ownsRow_lt (row_zero HRW1.out) q hq).1;omega
  ·have hmo:Fr (fun q=>q=R∨q=L∨base≤q) W W1:=HF1.out.mono fun q h=>by
    rcases h with h | h
    ·exact .inl (.inr (.inl h))
    ·exact .inl (.inr (.inr (HNL.out q h)))
   exact hmo.setCell (.inl (.inl rfl)) _
end
section
open Go.RowKit Go.Shelf Go.Maps Go.Sort Go.Lib
attribute [local go_sem] Oper.semAt_some
attribute [local irreducible] wpQuiet
theorem row_prefix{w:World}{base n c m:Nat}{e:TypeId}{a:Option Addr}{xs:List Value}(h:w.ownsRow base e 1 (.slice a n c) n xs)(hm:m≤n):w.ownsRow base e 1 (.slice a m c) m (xs.take m):=by
 have hx:xs.length=n:=by have:=h.1;omega
 refine⟨by rw[List.length_take];omega,?_⟩
 rcases h.2 with⟨ev,h0⟩ | ⟨g,cap,cur,ev,h1,h2,h3,h4,h5,h6⟩
 ·simp only [Value.slice.injEq] at ev
  obtain⟨rfl,-,rfl⟩:=ev
  obtain rfl:m=0:=by omega
  exact .inl ⟨rfl,rfl⟩
 ·simp only [Value.slice.injEq] at ev
  obtain⟨rfl,-,rfl⟩:=ev
  refine .inr ⟨g,c,cur,rfl,h1,h2,by omega,h4,h5,?_⟩
  rw[← h6,List.take_take,Nat.mul_one,Nat.mul_one,Nat.min_eq_left hm]
theorem compact_rises{ss:List (List UInt8)}(hs:ss.Pairwise (·≤·)):RisesTo (Lib.compact ss) (fun x=>x ∈ ss):=by
 have hle:∀ i j (hi:i < j) (hj:j < ss.length),ss.toArray[i]!≤ss.toArray[j]!:=fun i j hi hj=>by
  rw[getElem!_pos ss.toArray i (by simp;omega),getElem!_pos ss.toArray j (by simpa using hj)]
  simpa using List.pairwise_iff_getElem.1 hs i j (by omega) hj hi
 have key:∀ m,m≤ss.length→(compactUpTo ss.toArray m).Pairwise (· < ·)∧(∀ x,x ∈ compactUpTo ss.toArray m↔∃ j,j < m∧ss.toArray[j]! = x)∧(∀ x ∈ compactUpTo ss.toArray m,0 < m→x≤ss.toArray[m - 1]!):=by
  intro m
  induction m with
  | zero=>intro _;exact⟨by simp [compactUpTo],fun x=>by simp [compactUpTo],fun x hx h=>by omega⟩
  | succ m ih=>
   intro hm
   obtain⟨g1,g2,g3⟩:=ih (by omega)
   rw[compactUpTo_succ]
   have hlast:∀ x,x ∈ compactUpTo ss.toArray m→x≤ss.toArray[m]!:=fun x hx=>by
    by_cases h0:m=0
    ·subst h0;simp [compactUpTo] at hx
    ·exact List.le_trans (g3 x hx (by omega)) (hle (m - 1) m (by omega) (by omega))
   by_cases hk:keeps ss.toArray m=true
   ·rw[if_pos hk]
    refine⟨List.pairwise_append.2 ⟨g1,List.pairwise_singleton _ _,fun x hx y hy=>?_⟩,fun x=>?_,fun x hx _=>?_⟩
    ·obtain rfl:=List.mem_singleton.1 hy
     have h0:0 < m:=by
      by_cases h0:m=0
      ·subst h0;simp [compactUpTo] at hx
      ·omega
     have hne:ss.toArray[m]!≠ss.toArray[m - 1]!:=by
      unfold keeps at hk
      simp only [decide_eq_true_eq] at hk
      exact hk.resolve_left (by omega)
     have h1:=g3 x hx h0
     have h2:=hle (m - 1) m (by omega) (by omega)
     have h3:ss.toArray[m - 1]! < ss.toArray[m]!:=by
      by_cases hlt:ss.toArray[m - 1]! < ss.toArray[m]!
      ·exact hlt
      ·exact absurd (List.le_antisymm (List.not_lt.1 hlt) h2) hne
     exact List.lt_of_le_of_lt h1 h3
    ·rw[List.mem_append,g2,List.mem_singleton]
     constructor
     ·rintro(⟨j,hj,e⟩ | e)
      ·exact⟨j,by omega,e⟩
      ·exact⟨m,by omega,e.symm⟩
     ·rintro⟨j,hj,e⟩
      by_cases hjm:j=m
      ·subst hjm;exact .inr e.symm
      ·exact .inl ⟨j,by omega,e⟩
    ·rw[Nat.add_sub_cancel]
     rcases List.mem_append.1 hx with h | h
     ·exact hlast x h
     ·rw[List.mem_singleton.1 h];exact List.le_refl _
   ·rw[if_neg hk,List.append_nil]
    have hkk:¬(m=0∨ss.toArray[m]!≠ss.toArray[m - 1]!):=by
     unfold keeps at hk;simpa using hk
    simp only [not_or,Classical.not_not] at hkk
    refine⟨g1,fun x=>?_,fun x hx _=>by rw[Nat.add_sub_cancel];exact hlast x hx⟩
    rw[g2]
    constructor
    ·rintro⟨j,hj,e⟩;exact⟨j,by omega,e⟩
    ·rintro⟨j,hj,e⟩
     by_cases hjm:j=m
     ·subst hjm;exact⟨j - 1,by omega,by rw[← hkk.2];exact e⟩
     ·exact⟨j,by omega,e⟩
 obtain⟨g1,g2,-⟩:=key ss.length (Nat.le_refl _)
 refine⟨g1,fun x=>?_⟩
 unfold Lib.compact
 rw[g2]
 constructor
 ·rintro⟨j,hj,e⟩
  rw[getElem!_pos ss.toArray j (by simpa using hj)] at e
  rw[← e];simp
 ·intro hx
  obtain⟨j,hj,e⟩:=List.getElem_of_mem hx
  exact⟨j,hj,by rw[getElem!_pos ss.toArray j (by simpa using hj)];simpa using e⟩
theorem compact_norm(xs:List ByteArray):Lib.compact ((xs.map (·.data.toList)).mergeSort fun x y=>decide (x≤y))=normL xs:=by
 have tr:∀ a b c:List UInt8,(decide (a≤b))=true→(decide (b≤c))=true→(decide (a≤c))=true:=fun a b c h1 h2=>by
  simp only [decide_eq_true_eq] at *;exact List.le_trans h1 h2
 have tot:∀ a b:List UInt8,(decide (a≤b) || decide (b≤a))=true:=fun a b=>by simp only [Bool.or_eq_true,decide_eq_true_eq];exact List.le_total a b
 have h1:=List.pairwise_mergeSort tr tot (xs.map (·.data.toList))
 have h2:=compact_rises (h1.imp fun h=>by simpa using h)
 refine RisesTo.unique (P:=fun x=>∃ s ∈ xs,s.data.toList=x) ⟨h2.1,fun x=>?_⟩ (normL_rises xs)
 refine(h2.2 x).trans ?_
 show x ∈ List.mergeSort _ _↔∃ s ∈ xs,s.data.toList=x
 rw[List.mem_mergeSort,List.mem_map]
theorem strs_enc(xs:List ByteArray):xs.map (Value.string ·)=(xs.map (·.data.toList)).map encStr:=by
 rw[List.map_map]
 refine List.map_congr_left fun s _=>?_
 show Value.string s=encStr s.data.toList
 rw[encStr_eq,mkS_data]
theorem sortS_any(w:World)(base:Nat)(v:Value)(ss:List (List UInt8))(h:w.ownsRow base 9 1 v ss.length (ss.map encStr))(hl:ss.length≤10000000) :
  Calls Tryz.prog 129 #[v] w fun e w'=>e = .returned (.tuple #[])∧w'.ownsRow base 9 1 v ss.length ((ss.mergeSort fun x y=>decide (x≤y)).map encStr)∧Fr (fun k=>v.ownBlock=some k) w w':=by
 have h':=h
 rcases h.2 with⟨rfl,h0⟩ | ⟨g,cap,cur,rfl,hb,hg,hnc,hcm,hcs,htake⟩
 ·obtain rfl:ss = []:=List.eq_nil_of_length_eq_zero h0
  refine(Tryz.slices_Sort_string_none none 0 w).mono ?_
  rintro e w' ⟨rfl,rfl⟩
  exact⟨rfl,by simpa using h',Fr.refl _ _⟩
 ·have hH:=holds_of_block (ss:=ss) hg (by simpa using htake)
  refine(Tryz.slices_Sort_string g 0 cap ss w hH (lt_of_block hg) (by omega)).mono ?_
  rintro e w' ⟨rfl,n,os,rfl⟩
  exact⟨rfl,ownsRow_sorted (n:=n) (os:=os) (base:=base) (ts:=ss.mergeSort fun x y=>decide (x≤y)) (ss:=ss) (by simp) hb hg hnc hcm (by simpa using hcs),(Fr.refl _ _).grown (grownBy_sorted _) fun k hk=>.inl (by simpa [Value.ownBlock] using hk)⟩
theorem compactS_any(w:World)(base:Nat)(v:Value)(ss:List (List UInt8))(h:w.ownsRow base 9 1 v ss.length (ss.map encStr))(hl:ss.length≤10000000) :
  Calls Tryz.prog 251 #[v] w fun e w'=>∃ v',e = .returned v'∧w'.ownsRow base 9 1 v' (Lib.compact ss).length ((Lib.compact ss).map encStr)∧Fr (fun k=>v.ownBlock=some k) w w':=by
 have h':=h
 rcases h.2 with⟨rfl,h0⟩ | ⟨g,cap,cur,rfl,hb,hg,hnc,hcm,hcs,htake⟩
 ·obtain rfl:ss = []:=List.eq_nil_of_length_eq_zero h0
  refine(Tryz.slices_Compact_string_empty none 0 w).mono ?_
  rintro e w' ⟨rfl,rfl⟩
  exact⟨_,rfl,by simpa [Lib.compact,compactUpTo] using h',Fr.refl _ _⟩
 ·have hH:=holds_of_block (ss:=ss) hg (by simpa using htake)
  have hcl:(Lib.compact ss).length≤ss.length:=by
   unfold Lib.compact compactUpTo
   rw[List.length_map]
   exact Nat.le_trans (List.length_filter_le _ _) (by simp)
  refine(Tryz.slices_Compact_string g 0 cap ss w hH (by omega) hnc).mono ?_
  rintro e w' ⟨rfl,n,rfl⟩
  have hz:(Lib.compact ss ++ List.replicate (ss.length - (Lib.compact ss).length) []).length=ss.length:=by
   rw[List.length_append,List.length_replicate];omega
  have hrow:=ownsRow_sorted (n:=n) (os:=#[]) (base:=base) (ts:=Lib.compact ss ++ List.replicate (ss.length - (Lib.compact ss).length) []) (ss:=ss) hz hb hg hnc hcm (by simpa using hcs)
  have hgr:=grownBy_sorted (w:=w) (g:=g) (n:=n) (os:=#[]) (Lib.compact ss ++ List.replicate (ss.length - (Lib.compact ss).length) []).toArray
  rw[grow_empty] at hrow hgr
  refine⟨_,rfl,?_,(Fr.refl _ _).grown hgr fun k hk=>.inl (by simpa [Value.ownBlock] using hk)⟩
  have h2:=row_prefix hrow hcl
  rwa [← List.map_take,List.take_left] at h2
theorem clipS_any(w:World)(b:Nat)(v:Value)(xs:List ByteArray)(h:Strs w b v xs):Calls Tryz.prog 250 #[v] w fun e w'=>∃ v',e = .returned v'∧Strs w' b v' xs∧w'=w:=by
 obtain⟨a,off,cap,rfl,h1,h2,h3,h4,h5⟩:=h
 obtain⟨n,hn⟩:∃ n,xs.length=n:=⟨_,rfl⟩
 have HC:=hhd h5;have HN:=hhd hn
 have hres:∀ a',(0 < n→a'=some ⟨b,off,none⟩)→(a'=none→n=0)→Strs w b (.slice a' n n) xs:=fun a' h1 h2=>⟨a',off,n,by rw[HN.out],by rw[HN.out];exact Nat.le_refl _,by omega,by rw[HN.out];exact h1,h2,HC.out⟩
 rw[hn] at h1 h3 ⊢
 have HRES:=hhd hres
 clear h5 hn hres
 cases a with
 | none=>
  obtain rfl:cap=0:=h4 rfl
  obtain rfl:n=0:=by omega
  go_enter Tryz.func250,Tryz.ntmps250
  go_wp2_with fail
  go_ret
  exact⟨_,rfl,HRES.out none (by simp) (by simp),rfl⟩
 | some ad=>
  go_enter Tryz.func250,Tryz.ntmps250
  go_wp2_with fail
  go_ret
  exact⟨_,rfl,HRES.out (some ad) h3 (by simp),rfl⟩
end
section
open Go.RowKit Go.Shelf Go.Maps Go.Sort
attribute [local go_sem] Oper.semAt_some
attribute [local irreducible] wpQuiet
theorem enters_vTerms1:∀ args w,(callFunc 249 args).run Tryz.prog w = .ok (.enter 249 args) w:=enters_of Tryz.func249 (by kernel_rfl) rfl
theorem tm_push{w3:World}{base R L m g1 cap1:Nat}{ra:Option Addr}{rc:Nat}{S:List ByteArray × List UInt8}{c:UInt8}{x:Nat}{lv:Value}(hc:c.toNat=x)(hm:S.2.length=m)(hRb:R < base)(hLb:L < base)(hRL:R≠L)
  (hR3:w3.heap[R]?=some (.cells #[.slice ra m rc] 24 (0,0))) (hL3:w3.heap[L]?=some (.cells #[lv] 92 (0,0))) (hl:w3.ownsRow base 9 1 lv S.1.length (S.1.map (Value.string ·)))
  (hr:w3.ownsRow base 5 1 (.slice (some ⟨g1,0,none⟩) (m+1) cap1) (m+1) ((u8s S.2).map (Value.int .u8) ++ [.int .u8 (x:Int)])) :
  TmSt base R L (S.1,S.2 ++ [c]) (w3.setCell ⟨R,0,none⟩ (.slice (some ⟨g1,0,none⟩) (m+1) cap1)):=by
 have hset:=(Fr.refl (fun j=>j=R) w3).setCell (p:=⟨R,0,none⟩) (.inl rfl) (Value.slice (some ⟨g1,0,none⟩) (m+1) cap1)
 have hR4:=heap_setCell_same w3 R 0 _ _ (Value.slice (some ⟨g1,0,none⟩) (m+1) cap1) hR3
 refine⟨_,lv,by simpa using hR4,(hset.at (k:=L) (fun e=>hRL e.symm) (lt_of_block hL3)).trans hL3,⟨ownsRow_fr hl hset fun q hq e=>by have:=(ownsRow_lt hl q hq).1;omega,?_⟩⟩
 have h:=ownsRow_fr hr hset fun q hq e=>by have:=(ownsRow_lt hr q hq).1;omega
 simpa [u8s,hm,hc] using h
theorem vTerms_any(w:World)(s:ByteArray)(hs:s.size≤100000):Calls Tryz.prog 216 #[.string s] w fun e w'=>∃ v bb,e = .returned v∧Strs w' bb v (termsOf s)∧Fr N0 w w':=by
 obtain⟨i0,hi,hz0,hz1,hz2⟩:=info2_parts infoB
 obtain⟨Pst,hPst⟩:∃ Pst:Ending→World→Prop,(fun e w'=>∃ v bb,e = .returned v∧Strs w' bb v (termsOf s)∧Fr N0 w w')=Pst:=⟨_,rfl⟩
 have hpost:∀ v b w',Strs w' b v (normS (rawTerms s))→Fr N0 w w'→Pst (.returned v) w':=fun v b w' h1 h2=>by rw[← hPst];exact⟨v,b,rfl,h1,h2⟩
 rw[hPst]
 have hrl:=rawTerms_len s
 obtain⟨T,hT⟩:∃ T,s.data.toList=T:=⟨_,rfl⟩
 have hll:T.length=s.size:=by rw[← hT];exact Array.length_toList
 have hget:∀ k (h:k < s.size),s[k]=T[k]'(by omega):=fun k h=>by subst hT;simp only [Array.getElem_toList];rfl
 have hraw:rawTerms s=(tEnd (T.foldl tStep ([],[]))).1:=by unfold rawTerms;rw[hT]
 have HGET:=hhd hget;have HRAW:=hhd hraw;have HLL:=hhd hll;have HPOST:=hhd hpost;have HRL:=hhd hrl
 clear hPst hpost hT hraw hrl
 clear hget
 have hent:=enters_vTerms1
 have hst0:TmSt (w.heap.size+2) (w.heap.size+1) w.heap.size ([],[]) ((w.alloc (.cells #[.slice none 0 0] 92)).alloc (.cells #[.slice none 0 0] 24)):=by
  obtain⟨b1,b2⟩:=(show((w.alloc (.cells #[.slice none 0 0] 92)).alloc (.cells #[.slice none 0 0] 24)).heap[w.heap.size]?=some (.cells #[.slice none 0 0] 92 (0,0))∧((w.alloc (.cells #[.slice none 0 0] 92)).alloc (.cells #[.slice none 0 0] 24)).heap[w.heap.size+1]?=some (.cells #[.slice none 0 0] 24 (0,0)) from⟨(Below.heap_alloc _ _ _ (by simp)).trans (World.alloc_heap_new w _),by have:=World.alloc_heap_new (w.alloc (.cells #[.slice none 0 0] 92)) (.cells #[.slice none 0 0] 24);rwa [World.size_alloc] at this⟩)
  exact⟨_,_,b2,b1,World.ownsRow_nil _ _ _ _,World.ownsRow_nil _ _ _ _⟩
 have hfr0:Fr N0 w ((w.alloc (.cells #[.slice none 0 0] 92)).alloc (.cells #[.slice none 0 0] 24)):=((Fr.refl N0 w).alloc _).alloc _
 have HST0:=hhd hst0;have HFR0:=hhd hfr0
 have hz0':w.heap.size+2≤((w.alloc (.cells #[.slice none 0 0] 92)).alloc (.cells #[.slice none 0 0] 24)).heap.size:=by simp
 have HZ0:=hhd hz0'
 obtain⟨base,hbase⟩:∃ base,w.heap.size+2=base:=⟨_,rfl⟩
 rw[hbase] at HST0 HZ0
 clear hst0 hfr0 hz0'
 go_enter Tryz.func216,Tryz.ntmps216
 go_wp2_with fail
 go_loopw [11] (fun iv wr=>∃ (k:Nat) (S:List ByteArray × List UInt8),k≤s.size∧iv = .int .i64 k∧Hid (S=(T.take k).foldl tStep ([],[]))∧Hid (TmSt base (w.heap.size+1) w.heap.size S wr)∧Hid (base≤wr.heap.size)∧Hid (Fr N0 w wr)) (fun iv _=>s.size - (intOf iv).toNat)
 case atStart=>exact⟨0,([],[]),by omega,by first | rfl | go_num,hhd rfl,HST0,HZ0,HFR0⟩
 case round=>
  obtain⟨k,S,hk,rfl,hS,hst,hbz,hF⟩:=hrel
  have hlen:=tFold_len (T.take k)
  rw[← hS.out,List.length_take] at hlen
  have hTl:=HLL.out
  have h1l:S.1.length≤1000000:=by omega
  have h2l:S.2.length≤1000000:=by omega
  have hbz':=hbz.out
  by_cases hlt:k < s.size
  ·have hlt':(k:Int) < (s.size:Int):=by omega
   have hkl:k < T.length:=by rw[HLL.out];exact hlt
   have hgk:=HGET.out k hlt
   obtain⟨c,hc⟩:∃ c,T[k]=c:=⟨_,rfl⟩
   rw[hc] at hgk
   have hnx:(T.take (k+1)).foldl tStep ([],[])=tStep S c:=by rw[foldl_snoc_get _ _ _ hkl,← hS.out,hc]
   obtain⟨x,hx⟩:∃ x,c.toNat=x:=⟨_,rfl⟩
   have hxb:s[k].toNat=x:=by rw[hgk];exact hx
   have hx256:x < 256:=by rw[← hx];exact c.toNat_lt
   have HF:=hhd hF.out;have HST:=hhd hst.out
   by_cases hleft:¬(65≤x∧x≤90)∧¬((97≤x∧x≤122)∨(48≤x∧x≤57)∨127 < x)
   ·obtain⟨hup,hkp⟩:=hleft
    have hst2:tStep S c=tEnd S:=by unfold tStep;rw[if_neg (tLeft hx hup hkp)]
    have HNX:=hhd (hnx.trans hst2)
    have hcall:=vTerms1_any wr base (w.heap.size+1) w.heap.size S hst.out hbz.out (by omega) (by omega) (by omega) h1l h2l
    have HCALL:=hhd hcall
    have h4:((x:Int) < 48)∨((57:Int) < x∧(x:Int) < 65)∨((90:Int) < x∧(x:Int) < 97)∨((122:Int) < x∧(x:Int)≤127):=by omega
    clear hnx hst2 hcall hst hF hS hc hgk hup hkp hlen hx
    rcases h4 with h4 | ⟨h4,h5⟩ | ⟨h4,h5⟩ | ⟨h4,h5⟩
    all_goals
     go_wp2_with fail
     refine HCALL.out.mono ?_
     rintro e w3 ⟨rfl,hst3,hf3⟩
     have HST3:=hhd hst3
     have hz3:=hf3.size
     have HF3:=hhd (HF.out.trans hf3 fun q hq=>.inr (by omega))
     clear hst3 hf3
     go_wp2_with fail
     go_roundw
     case rel=>exact⟨k+1,tEnd S,by omega,by first | rfl | go_num,hhd HNX.out.symm,HST3,hhd (by omega),HF3⟩
     case measure=>simp [intOf] <;> omega
   ·obtain⟨rv,lv,hR,hL,hTm⟩:=hst.out
    obtain⟨ra,rc,rfl⟩:=row_form hTm.r
    obtain⟨la,lc,rfl⟩:=row_form hTm.l
    obtain⟨m,hm⟩:∃ m,S.2.length=m:=⟨_,rfl⟩
    have hr:=hTm.r
    have hl:=hTm.l
    rw[hm] at hr hR h2l
    obtain⟨mR,nR,lR⟩:=box_cells hR
    have hap:=fun q (hq:(Value.slice la S.1.length lc).ownBlock=some q)=>rows_apart hl hr (by decide) hq
    have hnr:(Value.slice ra m rc).ownBlock≠some (w.heap.size+1):=fun e=>by have:=(ownsRow_lt hr _ e).1;omega
    have hnl:(Value.slice ra m rc).ownBlock≠some w.heap.size:=fun e=>by have:=(ownsRow_lt hr _ e).1;omega
    have HR:=hhd hR;have HL:=hhd hL;have HRW:=hhd hr;have HLW:=hhd hl;have HAP:=hhd hap;have NR:=hhd hnr;have NL:=hhd hnl;have HM:=hhd hm
    clear hst hF hS hc hgk hlen hTm hr hl hR hL hap hnr hnl hm HST
    by_cases hup:65≤x∧x≤90
    ·obtain⟨t1,t2⟩:=tUp hx hup
     have hst2:tStep S c=(S.1,S.2 ++ [tLow c]):=by unfold tStep;rw[if_pos t1]
     have HNX:=hhd (hnx.trans hst2)
     have HCX:=hhd t2
     have h65:(65:Int)≤(x:Int):=by omega
     have h90:(x:Int)≤90:=by omega
     have hw1:IntKind.u8.wrap ((x:Int)+97)=(x:Int)+97:=IntWalk.u8_in _ ⟨by omega,by omega⟩
     have hw2:IntKind.u8.wrap ((x:Int)+97 - 65)=((x+32:Nat):Int):=by rw[IntWalk.u8_in _ ⟨by omega,by omega⟩];omega
     clear hnx hst2 t1 t2 hleft hup hx
     go_wp2_with (at_builtin;go_loud (refine wpList_append_lies _ rfl _ _ 24 rfl (base) 5 i0 (.int .u8 0) 1 1 Tryz.underlying24 hi hz0 hz1 hz2 rfl (by decide) (.slice ra m rc) (m) _ rfl (HRW.out.alloc _) ⟨wr.heap.size,0,none⟩ 1 1 [.int .u8 (((x+32:Nat):Int))] rfl rfl (World.news_of_block (cs:=#[.int .u8 (((x+32:Nat):Int))]) (t:=5) (fr:=(0,0)) (heap_alloc_new wr _)) (by simp [Value.oneCell']) (by omega) (by unfold maxLen;omega) (by omega) (by simp;omega) (wr.heap.size+1) (by simp) ?_);intro g1 cap1 w3 hown3 hgrow3 hfresh3 hlt3;have hfa:Fr (fun q=>(Value.slice ra m rc).ownBlock=some q) wr w3:=(((Fr.refl N0 wr).alloc _).mono fun _ h=>h.elim).trans ((Fr.refl (fun q=>(Value.slice ra m rc).ownBlock=some q) _).grown hgrow3 fun q e=>.inl e) fun q hq=>.inl hq;have hR3:=(hfa.at (k:=w.heap.size+1) (NR.out) (lt_of_block HR.out)).trans HR.out;obtain⟨m3,n3,l3⟩:=box_cells hR3)
     go_roundw
     case rel=>
      have hL3:=(hfa.at (k:=w.heap.size) (NL.out) (lt_of_block HL.out)).trans HL.out
      have hl3:=ownsRow_fr HLW.out hfa fun q hq e=>HAP.out q hq e
      exact⟨k+1,(S.1,S.2 ++ [tLow c]),by omega,by first | rfl | go_num,hhd HNX.out.symm,hhd (tm_push (c:=tLow c) HCX.out HM.out (by omega) (by omega) (by omega) hR3 hL3 hl3 hown3),hhd (by have:=hfa.size;simp [World.setCell] at *;omega),hhd ((HF.out.trans hfa fun q hq=>.inr (by have:=(ownsRow_lt HRW.out q hq).1;omega)).setCell (.inr (Nat.le_succ w.heap.size)) _)⟩
     case measure=>simp [intOf] <;> omega
    ·have hkp:(97≤x∧x≤122)∨(48≤x∧x≤57)∨127 < x:=by omega
     have hst2:tStep S c=(S.1,S.2 ++ [c]):=by unfold tStep;rw[if_pos (tKept hx hup hkp),tStay hx hup]
     have HNX:=hhd (hnx.trans hst2)
     have HCX:=hhd hx
     have h4:((97:Int)≤x∧(x:Int)≤122)∨((48:Int)≤x∧(x:Int)≤57)∨(127:Int) < x:=by omega
     have hup':¬((65:Int)≤x∧(x:Int)≤90):=by omega
     clear hnx hst2 hleft hup hkp hx
     rcases h4 with⟨h4,h5⟩ | ⟨h4,h5⟩ | h4
     all_goals
      go_wp2_with (at_builtin;go_loud (refine wpList_append_lies _ rfl _ _ 24 rfl (base) 5 i0 (.int .u8 0) 1 1 Tryz.underlying24 hi hz0 hz1 hz2 rfl (by decide) (.slice ra m rc) (m) _ rfl (HRW.out.alloc _) ⟨wr.heap.size,0,none⟩ 1 1 [.int .u8 ((x:Int))] rfl rfl (World.news_of_block (cs:=#[.int .u8 ((x:Int))]) (t:=5) (fr:=(0,0)) (heap_alloc_new wr _)) (by simp [Value.oneCell']) (by omega) (by unfold maxLen;omega) (by omega) (by simp;omega) (wr.heap.size+1) (by simp) ?_);intro g1 cap1 w3 hown3 hgrow3 hfresh3 hlt3;have hfa:Fr (fun q=>(Value.slice ra m rc).ownBlock=some q) wr w3:=(((Fr.refl N0 wr).alloc _).mono fun _ h=>h.elim).trans ((Fr.refl (fun q=>(Value.slice ra m rc).ownBlock=some q) _).grown hgrow3 fun q e=>.inl e) fun q hq=>.inl hq;have hR3:=(hfa.at (k:=w.heap.size+1) (NR.out) (lt_of_block HR.out)).trans HR.out;obtain⟨m3,n3,l3⟩:=box_cells hR3)
      go_roundw
      case rel=>
       have hL3:=(hfa.at (k:=w.heap.size) (NL.out) (lt_of_block HL.out)).trans HL.out
       have hl3:=ownsRow_fr HLW.out hfa fun q hq e=>HAP.out q hq e
       exact⟨k+1,(S.1,S.2 ++ [c]),by omega,by first | rfl | go_num,hhd HNX.out.symm,hhd (tm_push (c:=c) HCX.out HM.out (by omega) (by omega) (by omega) hR3 hL3 hl3 hown3),hhd (by have:=hfa.size;simp [World.setCell] at *;omega),hhd ((HF.out.trans hfa fun q hq=>.inr (by have:=(ownsRow_lt HRW.out q hq).1;omega)).setCell (.inr (Nat.le_succ w.heap.size)) _)⟩
      case measure=>simp [intOf] <;> omega
  ·obtain rfl:k=s.size:=by omega
   have hlt':¬(s.size:Int) < (s.size:Int):=by omega
   have hfull:T.take s.size=T:=by rw[← HLL.out,List.take_length]
   have hS':=hS.out
   rw[hfull] at hS'
   have hraw2:rawTerms s=(tEnd S).1:=by rw[HRAW.out,hS']
   have hcall:=vTerms1_any wr base (w.heap.size+1) w.heap.size S hst.out hbz.out (by omega) (by omega) (by omega) h1l h2l
   have HCALL:=hhd hcall;have HF:=hhd hF.out;have HRW2:=hhd hraw2
   clear hcall hst hF hS hS' hfull hlen hraw2
   go_wp2_with fail
   refine HCALL.out.mono ?_
   rintro e w3 ⟨rfl,hst3,hf3⟩
   obtain⟨rv,lv,hR,hL,hTm⟩:=hst3
   have hl:=hTm.l
   rw[← HRW2.out] at hl
   obtain⟨xs,hxs⟩:∃ xs,rawTerms s=xs:=⟨_,rfl⟩
   have hxl:=HRL.out
   have HPO:=HPOST.out
   rw[hxs] at hl hxl HPO
   rw[strs_enc] at hl
   obtain⟨ss,hss⟩:∃ ss,xs.map (·.data.toList)=ss:=⟨_,rfl⟩
   have hsl:ss.length=xs.length:=by rw[← hss,List.length_map]
   rw[hss,← hsl] at hl
   have hz3:=hf3.size
   have hsort:=sortS_any w3 base lv ss hl (by omega)
   obtain⟨mL,nL,lL⟩:=box_cells hL
   have HL:=hhd hL;have HSORT:=hhd hsort;have HF3:=hhd (HF.out.trans hf3 fun q hq=>.inr (by omega));have HPP:=hhd HPO;have HSS:=hhd hss;have HROW:=hhd hl
   clear hTm hR hL hl hf3 hsort HPO hxs hss
   go_wp2_with fail
   refine HSORT.out.mono ?_
   rintro e w4 ⟨rfl,hr4,hf4⟩
   have hnl:lv.ownBlock≠some w.heap.size:=fun e=>by have:=(ownsRow_lt HROW.out _ e).1;omega
   have hL4:=(hf4.at (k:=w.heap.size) hnl (lt_of_block HL.out)).trans HL.out
   obtain⟨mL4,nL4,lL4⟩:=box_cells hL4
   have hcl:((ss.mergeSort fun x y=>decide (x≤y)).length)=ss.length:=(List.mergeSort_perm ss _).length_eq
   have hcomp:=compactS_any w4 base lv (ss.mergeSort fun x y=>decide (x≤y)) (by rw[hcl];exact hr4) (by rw[hcl];omega)
   rw[← HSS.out,compact_norm] at hcomp
   have HCOMP:=hhd hcomp
   have HF4:=hhd (HF3.out.trans hf4 fun q hq=>.inr (by have:=(ownsRow_lt HROW.out q hq).1;omega))
   clear hr4 hf4 hcomp mL nL lL
   go_wp2_with fail
   refine HCOMP.out.mono ?_
   rintro e w5 ⟨v5,rfl,hr5,hf5⟩
   have hr6:w5.ownsRow base 9 1 v5 (normS xs).length ((normS xs).map (Value.string ·)):=by
    have e1:(normS xs).length=(normL xs).length:=by unfold normS;rw[List.length_map]
    have e2:(normS xs).map (Value.string ·)=(normL xs).map encStr:=by unfold normS;rw[List.map_map];rfl
    rw[e1,e2];exact hr5
   obtain⟨b5,hs5⟩:=strs_row hr6
   have HCLIP:=hhd (clipS_any w5 b5 v5 (normS xs) hs5)
   have HF5:=hhd (HF4.out.trans hf5 fun q hq=>.inr (by have:=(ownsRow_lt HROW.out q hq).1;omega))
   clear hr5 hf5 hr6 hs5
   go_wp2_with fail
   refine HCLIP.out.mono ?_
   rintro e w6 ⟨v6,rfl,hs6,rfl⟩
   have HS6:=hhd hs6
   clear hs6
   go_wp2_with fail
   exact HPP.out _ _ _ HS6.out HF5.out
theorem containsS_any(w:World)(b:Nat)(v:Value)(l:List ByteArray)(h:Strs w b v l)(x:ByteArray):Calls Tryz.prog 218 #[v,.string x] w fun e w'=>e = .returned (.bool (Lib.containsS l x))∧w'=w:=by
 obtain⟨a,off,cap,rfl,h1,h2,h3,h4,h5⟩:=h
 by_cases h0:l.length=0
 ·obtain rfl:=List.eq_nil_of_length_eq_zero h0
  refine(Tryz.slices_Contains_string_empty a cap x w).mono ?_
  rintro e w' ⟨rfl,rfl⟩
  exact⟨by rw[show Lib.containsS [] x=false from by rw[Bool.eq_false_iff];exact fun e=>by have:=(Lib.containsS_iff [] x).1 e;cases this],rfl⟩
 ·obtain rfl:=h3 (by omega)
  refine(Tryz.slices_Contains_string b off l.length cap l x w (Nat.le_refl _) (by omega) fun j hj=>by rw[h5 j hj];simp [List.getD,hj]).mono ?_
  rintro e w' ⟨rfl,rfl⟩
  exact⟨by rw[List.take_length],rfl⟩
def bothL(a b:List Int):List Int:=a.filter fun x=>decide (x ∈ b)
theorem bothL_yes{a b:List Int}{i:Nat}(hi:i < a.length)(h:a[i] ∈ b):bothL (a.take (i+1)) b=bothL (a.take i) b ++ [a[i]]:=by
 unfold bothL;rw[List.take_succ_eq_append_getElem hi,List.filter_append];simp [h]
theorem bothL_no{a b:List Int}{i:Nat}(hi:i < a.length)(h:a[i] ∉ b):bothL (a.take (i+1)) b=bothL (a.take i) b:=by
 unfold bothL;rw[List.take_succ_eq_append_getElem hi,List.filter_append];simp [h]
theorem both4_any(W:World)(ba bb:Nat)(va vb:Value)(a b:List Int)(ha:Ints .u64 W ba va a)(hb:Ints .u64 W bb vb b)(hs:b.Pairwise (·≤·))(hla:a.length≤4000000000)(hlb:b.length≤4000000000) :
  Calls Tryz.prog 220 #[va,vb] W fun e w'=>∃ v,e = .returned v∧w'.ownsRow W.heap.size 33 1 v (bothL a b).length ((bothL a b).map (Value.int .u64))∧Fr N0 W w':=by
 obtain⟨i0,hi,hz0,hz1,hz2⟩:=info_parts ins4_info
 have hbs:=fun W' (hf:Fr N0 W W') t=>bs_any W' bb vb b (hb.fr0 hf) t hs (by omega)
 obtain⟨aa,ao,ac,rfl,r1,r2,r3,-,r5,-⟩:=ha
 obtain⟨n,hn⟩:∃ n,a.length=n:=⟨_,rfl⟩
 obtain⟨Pst,hPst⟩:∃ Pst:Ending→World→Prop,(fun e w'=>∃ v,e = .returned v∧w'.ownsRow W.heap.size 33 1 v (bothL a b).length ((bothL a b).map (Value.int .u64))∧Fr N0 W w')=Pst:=⟨_,rfl⟩
 have hpost:∀ v w',w'.ownsRow W.heap.size 33 1 v (bothL a b).length ((bothL a b).map (Value.int .u64))→Fr N0 W w'→Pst (.returned v) w':=fun v w' h1 h2=>by rw[← hPst];exact⟨v,rfl,h1,h2⟩
 rw[hPst]
 have HBS:=hhd hbs;have HR5:=hhd r5;have HN:=hhd hn;have HPOST:=hhd hpost
 rw[hn] at r1 r3 hla ⊢
 clear hbs r5 hn hPst hpost hb hs
 go_enter Tryz.func220,Tryz.ntmps220
 go_wp2_with fail
 go_loopw [5,12] (fun ov iv wr=>∃ (i:Nat) (os:List Int),i≤n∧iv = .int .i64 i∧Hid (os=bothL (a.take i) b)∧Hid (wr.ownsRow W.heap.size 33 1 ov os.length (os.map (Value.int .u64)))∧Hid (Fr N0 W wr)) (fun _ iv _=>n - (intOf iv).toNat)
 case atStart=>exact⟨0,[],Nat.zero_le _,by first | rfl | go_num,hhd (by simp [bothL]),World.ownsRow_nil _ _ _ _,Fr.refl _ _⟩
 case round=>
  obtain⟨i,os,hi',rfl,hos,hrow,hfr⟩:=hrel
  have hosl:os.length≤4000000000:=by
   rw[hos.out];unfold bothL
   have h1:=List.length_filter_le (fun x=>decide (x ∈ b)) (a.take i)
   rw[List.length_take] at h1
   have:=HN.out
   omega
  have hwz:=hfr.out.size
  by_cases hlt:i < n
  ·obtain rfl:=r3 (by omega)
   have hiu:i < a.length:=by rw[HN.out];exact hlt
   have cu:=hfr.out.cell id (HR5.out i hiu)
   have hyes:=bothL_yes (b:=b) hiu
   have hno:=bothL_no (b:=b) hiu
   obtain⟨u,hu⟩:∃ u,a[i]=u:=⟨_,rfl⟩
   rw[hu] at cu hyes hno
   have hcall:=HBS.out _ hfr.out u
   have hi1:(i:Int) < (n:Int):=by omega
   obtain⟨oa,oc,rfl⟩:=row_form hrow.out
   obtain⟨no,hno'⟩:∃ no,os.length=no:=⟨_,rfl⟩
   have hrw:=hrow.out
   rw[hno'] at hrw hosl
   simp only [hno']
   have HCALL:=hhd hcall;have HYES:=hhd hyes;have HNO:=hhd hno;have HOS:=hhd hos.out;have HROW:=hhd hrw;have HFR:=hhd hfr.out;have HN0:=hhd hno'
   clear hcall hyes hno hos hrow hrw hfr hu hno'
   by_cases hm:u ∈ b
   ·have hd:decide (u ∈ b)=true:=decide_eq_true hm
    rw[hd] at HCALL
    have HNX:=hhd (HYES.out hm)
    clear hd
    go_wp2_with fail
    refine HCALL.out.mono ?_
    rintro e w3 ⟨rfl,hf3⟩
    have HROW3:=hhd (HROW.out.fr0 hf3)
    have HF3:=hhd (HFR.out.then0 hf3)
    have hw3:=HF3.out.size
    clear hf3
    go_wp2_with (at_builtin;go_loud (refine wpList_append_lies _ rfl _ _ 35 rfl (W.heap.size) 33 i0 (.int .u64 0) 1 8 Tryz.underlying35 hi hz0 hz1 hz2 rfl (by decide) (.slice oa no oc) (no) _ rfl (HROW3.out.alloc _) ⟨w3.heap.size,0,none⟩ 1 1 [.int .u64 u] rfl rfl (World.news_of_block (cs:=#[.int .u64 u]) (t:=33) (fr:=(0,0)) (heap_alloc_new w3 _)) (by simp [Value.oneCell']) (by omega) (by unfold maxLen;omega) (by omega) (by simp;omega) (w3.heap.size+1) (by simp) ?_);intro g1 cap1 w4 hown4 hgrow4 hfresh4 hlt4)
    go_roundw
    case rel=>
     have hfa:Fr N0 W w4:=((HF3.out.alloc _).trans ((Fr.refl (fun q=>(Value.slice oa no oc).ownBlock=some q) _).grown hgrow4 fun q e=>.inl e) fun q hq=>.inr (by have:=(ownsRow_lt HROW3.out q hq).1;omega))
     exact⟨i+1,os ++ [u],by omega,by first | rfl | go_num,hhd (by rw[HNX.out,HOS.out]),hhd (by simp only [List.length_append,List.length_cons,List.length_nil,List.map_append,List.map_cons,List.map_nil,HN0.out];exact hown4),hhd hfa⟩
    case measure=>simp [intOf] <;> omega
   ·have hd:decide (u ∈ b)=false:=decide_eq_false hm
    rw[hd] at HCALL
    have HNX:=hhd (HNO.out hm)
    clear hd
    go_wp2_with fail
    refine HCALL.out.mono ?_
    rintro e w3 ⟨rfl,hf3⟩
    have HROW3:=hhd (HROW.out.fr0 hf3)
    have HF3:=hhd (HFR.out.then0 hf3)
    clear hf3
    go_wp2_with fail
    go_roundw
    case rel=>exact⟨i+1,os,by omega,by first | rfl | go_num,hhd (by rw[HNX.out,HOS.out]),hhd (by rw[HN0.out];exact HROW3.out),HF3⟩
    case measure=>simp [intOf] <;> omega
  ·obtain rfl:i=n:=by omega
   have hfull:a.take i=a:=by rw[← HN.out,List.take_length]
   have hos2:=hos.out
   rw[hfull] at hos2
   have HOS:=hhd hos2;have HROW:=hhd hrow.out;have HFR:=hhd hfr.out
   clear hos hos2 hrow hfr hfull
   have hi1:¬(i:Int) < (i:Int):=by omega
   go_wp2_with fail
   have hr:=HROW.out
   rw[HOS.out] at hr
   exact HPOST.out _ _ hr HFR.out
end
end Go.Proofs.YtefepfiijoafbaaGreat
