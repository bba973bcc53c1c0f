/- TermP RTerms RCnt -/
import Derived.Deep.AppendLies
import Derived.Deep.QuietTactic
import Derived.Test.YtefepfiijoafbaaGreatQDelW
import Derived.Test.YtefepfiijoafbaaGreatQRising
import Derived.Test.YtefepfiijoafbaaGreatQOrdP
import Derived.Test.YtefepfiijoafbaaGreatQPAt
set_option linter.unusedVariables false
set_option linter.unusedSimpArgs false
set_option maxRecDepth 100000
set_option maxHeartbeats 8000000
namespace Go.Proofs.YtefepfiijoafbaaGreat
section
open Go.RowKit Go.Shelf
def tLow(c:UInt8):UInt8:=if 65≤c.toNat∧c.toNat≤90 then c+32 else c
def tKeep(c:UInt8):Bool:=decide ((97≤c.toNat∧c.toNat≤122)∨(48≤c.toNat∧c.toNat≤57)∨127 < c.toNat)
def tEnd(s:List ByteArray × List UInt8):List ByteArray × List UInt8:=if s.2 = [] then s else (s.1 ++ [⟨(s.2.take 64).toArray⟩],[])
def tStep(s:List ByteArray × List UInt8)(c:UInt8):List ByteArray × List UInt8:=if tKeep (tLow c)=true then (s.1,s.2 ++ [tLow c]) else tEnd s
def rawTerms(t:ByteArray):List ByteArray:=(tEnd (t.data.toList.foldl tStep ([],[]))).1
def termsOf(t:ByteArray):List ByteArray:=normS (rawTerms t)
theorem tUp{c:UInt8}{n:Nat}(hn:c.toNat=n)(h:65≤n∧n≤90):tKeep (tLow c)=true∧(tLow c).toNat=n+32:=by
 have e:(tLow c).toNat=n+32:=by
  unfold tLow
  rw[if_pos (by omega),UInt8.toNat_add]
  have:(32:UInt8).toNat=32:=rfl
  rw[this];omega
 refine⟨?_,e⟩
 unfold tKeep
 rw[e]
 exact decide_eq_true (.inl ⟨by omega,by omega⟩)
theorem tStay{c:UInt8}{n:Nat}(hn:c.toNat=n)(h:¬(65≤n∧n≤90)):tLow c=c:=by
 unfold tLow;rw[if_neg (by omega)]
theorem tKept{c:UInt8}{n:Nat}(hn:c.toNat=n)(h:¬(65≤n∧n≤90))(hk:(97≤n∧n≤122)∨(48≤n∧n≤57)∨127 < n):tKeep (tLow c)=true:=by
 rw[tStay hn h];unfold tKeep;rw[hn];exact decide_eq_true hk
theorem tLeft{c:UInt8}{n:Nat}(hn:c.toNat=n)(h:¬(65≤n∧n≤90))(hk:¬((97≤n∧n≤122)∨(48≤n∧n≤57)∨127 < n)):¬ tKeep (tLow c)=true:=by
 rw[tStay hn h];unfold tKeep;rw[hn];simpa using hk
theorem tEnd_len(s:List ByteArray × List UInt8):(tEnd s).1.length≤s.1.length+1∧(tEnd s).2.length≤s.2.length:=by
 unfold tEnd;split
 ·exact⟨by omega,by omega⟩
 ·exact⟨by simp,by simp⟩
theorem tFold_len(l:List UInt8):(l.foldl tStep ([],[])).1.length≤l.length∧(l.foldl tStep ([],[])).2.length≤l.length:=by
 suffices ∀ (l:List UInt8) (s:List ByteArray × List UInt8),(l.foldl tStep s).1.length≤s.1.length+l.length∧(l.foldl tStep s).2.length≤s.2.length+l.length by
  have:=this l ([],[]);simpa using this
 intro l
 induction l with
 | nil=>intro s;simp
 | cons c l ih=>
  intro s
  rw[List.foldl_cons,List.length_cons]
  have h:=ih (tStep s c)
  have h2:(tStep s c).1.length≤s.1.length+1∧(tStep s c).2.length≤s.2.length+1:=by
   unfold tStep
   split
   ·simp
   ·have:=tEnd_len s;omega
  omega
theorem rawTerms_len(t:ByteArray):(rawTerms t).length≤t.size+1:=by
 unfold rawTerms
 have h1:=tEnd_len (t.data.toList.foldl tStep ([],[]))
 have h2:=tFold_len t.data.toList
 have e:t.data.toList.length=t.size:=Array.length_toList
 omega
theorem foldl_snoc_get{β:Type}(F:β→UInt8→β)(s:β)(l:List UInt8){k:Nat}(h:k < l.length):(l.take (k+1)).foldl F s=F ((l.take k).foldl F s) l[k]:=by
 rw[List.take_succ_eq_append_getElem h,List.foldl_append];rfl
def u8s(l:List UInt8):List Int:=l.map fun b=>(b.toNat:Int)
theorem strOfNums_u8s(l:List UInt8):strOfNums (u8s l)=⟨l.toArray⟩:=by
 apply ByteArray.ext
 simp only [strOfNums,u8s,List.map_map]
 congr 1
 rw[List.map_congr_left (g:=id)]
 ·simp
 ·intro b _
  simp
theorem u8s_length(a:List UInt8):(u8s a).length=a.length:=by simp [u8s]
theorem row_bytesT{w:World}{base n cap m c2:Nat}{g:Nat}{l:List UInt8}(h:w.ownsRow base 5 1 (.slice (some ⟨g,0,none⟩) n cap) n ((u8s l).map (Value.int .u8)))(hm:m≤n) :
  (convert 24 9 (.slice (some ⟨g,0,none⟩) m c2)).run Tryz.prog w = .ok (.string ⟨(l.take m).toArray⟩) w:=by
 have hn:l.length=n:=by have:=h.1;simpa [u8s] using this
 have hcv:∀ dst,Tryz.prog.underlying dst=some .string→(convert 24 dst (.slice (some ⟨g,0,none⟩) m c2)).run Tryz.prog w = .ok (.string (strOfNums (u8s (l.take m)))) w:=by
  refine run_convert_bytes_arg w 24 5 Tryz.underlying24 (by kernel_rfl) g 0 m c2 (u8s (l.take m)) (by rw[u8s_length,List.length_take];omega) fun k hk=>?_
  have hlt:k < (u8s (l.take m)).length:=by rw[u8s_length,List.length_take];omega
  have hlt2:k < (u8s l).length:=by rw[u8s_length];omega
  rw[Nat.zero_add,h.cellAt k (by omega),List.getElem?_map,List.getElem?_eq_getElem hlt2,List.getD,List.getElem?_eq_getElem hlt]
  simp [u8s]
 rw[hcv 9 (by kernel_rfl),strOfNums_u8s]
theorem rows_apart{w:World}{b1 b2 n1 n2 k1 k2:Nat}{e1 e2:TypeId}{v1 v2:Value}{x1 x2:List Value}(h1:w.ownsRow b1 e1 k1 v1 n1 x1)(h2:w.ownsRow b2 e2 k2 v2 n2 x2)(he:e1≠e2){q:Nat}(hq:v1.ownBlock=some q):v2.ownBlock≠some q:=fun hq2=>by
 obtain⟨c1,g1⟩:=ownsRow_elem h1 hq
 obtain⟨c2,g2⟩:=ownsRow_elem h2 hq2
 rw[g1] at g2
 injection g2 with g2
 injection g2 with _ g2
 exact he g2
end
section
open Go.RowKit Go.Shelf
attribute [local go_sem] Oper.semAt_some
attribute [local irreducible] wpQuiet
theorem infoB:(Tryz.prog.info? 5).map (fun i=>(i.zero,i.size,i.bytes))=some (some (.int .u8 0),1,1):=by kernel_rfl
theorem info2_parts{P:Program}{t:TypeId}{x:Option Value × Nat × Nat}(h:(P.info? t).map (fun i=>(i.zero,i.size,i.bytes))=some x):∃ i,P.info? t=some i∧i.zero=x.1∧i.size=x.2.1∧i.bytes=x.2.2:=by
 cases hp:P.info? t with
 | none=>rw[hp] at h;cases h
 | some i=>rw[hp] at h;simp at h;exact⟨i,rfl,by rw[← h],by rw[← h],by rw[← h]⟩
structure TmAt(base:Nat)(S:List ByteArray × List UInt8)(lv rv:Value)(W:World):Prop where
 l:W.ownsRow base 9 1 lv S.1.length (S.1.map (Value.string ·))
 r:W.ownsRow base 5 1 rv S.2.length ((u8s S.2).map (Value.int .u8))
theorem strs_row{w:World}{n:Nat}{v:Value}{xs:List ByteArray}(h:w.ownsRow n 9 1 v xs.length (xs.map (Value.string ·))):∃ b,Strs w b v xs:=by
 rcases h.2 with⟨hv,hn⟩ | ⟨g,cap,cur,hv,hb,hg,hnc,hcm,hcs,htake⟩
 ·have hz:xs = []:=List.eq_nil_of_length_eq_zero hn
  rw[hv,hz]
  exact⟨0,Strs.nil _ _⟩
 ·refine⟨g,some ⟨g,0,none⟩,0,cap,hv,hnc,by unfold maxLen at hcm;omega,fun _=>rfl,by simp,fun i hi=>?_⟩
  rw[hv] at h
  rw[Nat.zero_add,h.cellAt i (by omega),List.getElem?_map,List.getElem?_eq_getElem hi];rfl
theorem row_base{w:World}{base n k m:Nat}{e:TypeId}{v:Value}{vs:List Value}(h:w.ownsRow base e m v n vs)(hk:v.ownBlock=some k):base≤k:=(ownsRow_lt h k hk).1
theorem u8row_form{w:World}{base m:Nat}{v:Value}{l:List UInt8}(h:w.ownsRow base 5 1 v l.length ((u8s l).map (Value.int .u8)))(hm:l.length=m)(h0:0 < m):∃ g cap,v = .slice (some ⟨g,0,none⟩) m cap∧m≤cap:=by
 rcases h.2 with⟨hv,hn⟩ | ⟨g,cap,cur,hv,hb,hg,hnc,-⟩
 ·omega
 ·exact⟨g,cap,by rw[hv,hm],by omega⟩
theorem r3Terms_any(w:World)(s:ByteArray)(hs:s.size≤100000):Calls Tryz.prog 224 #[.string s] w fun e w'=>∃ v bb,e = .returned v∧Strs w' bb v (termsOf s)∧w.heap.size≤bb∧Fr N0 w w':=by
 obtain⟨i0S,hiS,hz0S,hz1S,hz2S⟩:=info2_parts infoStr
 obtain⟨i0,hi,hz0,hz1,hz2⟩:=info2_parts infoB
 obtain⟨Pst,hPst⟩:∃ Pst:Ending→World→Prop,(fun e w'=>∃ v bb,e = .returned v∧Strs w' bb v (termsOf s)∧w.heap.size≤bb∧Fr N0 w w')=Pst:=⟨_,rfl⟩
 have hdone:∀ W b v,Fr N0 w W→Strs W b v (rawTerms s)→Calls Tryz.prog 255 #[v] W fun e w'=>∃ v',e = .returned v'∧Pst (.returned v') w':=fun W b v hf h=>(rising_any W b v (rawTerms s) h (by have:=rawTerms_len s;omega)).mono fun e w' hh=>by
  obtain⟨v',bb,rfl,h1,h2,h3⟩:=hh
  refine⟨v',rfl,?_⟩
  rw[← hPst]
  exact⟨v',bb,rfl,h1,by have:=hf.size;omega,hf.then0 h3⟩
 rw[hPst]
 have HD:=hhd hdone
 obtain⟨L,hL⟩:∃ L,s.data.toList=L:=⟨_,rfl⟩
 have hll:L.length=s.size:=by rw[← hL];exact Array.length_toList
 have hget:∀ k (h:k < s.size),s[k]=L[k]'(by omega):=fun k h=>by subst hL;simp only [Array.getElem_toList];rfl
 have hraw:rawTerms s=(tEnd (L.foldl tStep ([],[]))).1:=by unfold rawTerms;rw[hL]
 have HGET:=hhd hget;have HRAW:=hhd hraw;have HLL:=hhd hll
 clear hPst hdone hL hraw
 clear hget
 go_enter Tryz.func224,Tryz.ntmps224
 go_wp2_with fail
 go_loopw [3,4,5] (fun lv rv iv wr=>∃ (k:Nat) (S:List ByteArray × List UInt8),k≤s.size+1∧iv = .int .i64 k∧Hid ((k≤s.size→S=(L.take k).foldl tStep ([],[]))∧(k=s.size+1→S=tEnd (L.foldl tStep ([],[]))))∧Hid (TmAt w.heap.size S lv rv wr)∧Hid (Fr N0 w wr)) (fun _ _ iv _=>s.size+1 - (intOf iv).toNat)
 case atStart=>exact⟨0,([],[]),by omega,by first | rfl | go_num,⟨fun _=>rfl,fun h=>by omega⟩,⟨World.ownsRow_nil _ _ _ _,World.ownsRow_nil _ _ _ _⟩,Fr.refl _ _⟩
 case round=>
  obtain⟨k,S,hk,rfl,hS,hT,hF⟩:=hrel
  obtain⟨hS1,hS2⟩:=hS.out
  obtain⟨n,hn⟩:∃ n,S.1.length=n:=⟨_,rfl⟩
  obtain⟨m,hm⟩:∃ m,S.2.length=m:=⟨_,rfl⟩
  have hlen:k≤s.size→n≤k∧m≤k:=fun h=>by
   have h1:=tFold_len (L.take k)
   rw[← hS1 h,List.length_take,hn,hm] at h1;omega
  have HL:=hhd hT.out.l;have HR:=hhd hT.out.r;have HN:=hhd hn;have HM:=hhd hm;have HF:=hhd hF.out
  have hL':=hT.out.l
  rw[hn] at hL'
  have HL':=hhd hL'
  have hwsz:=hF.out.size
  clear hT hF hn hm hL' hS
  by_cases hks:k≤s.size
  ·have hle:=hlen hks
   have hSk:=hS1 hks
   by_cases hlt:k < s.size
   ·have hlt':(k:Int) < (s.size:Int):=by omega
    have hle':(k:Int)≤(s.size:Int):=by omega
    have hkl:k < L.length:=by rw[HLL.out];exact hlt
    have hgk:=HGET.out k hlt
    obtain⟨c,hc⟩:∃ c,L[k]=c:=⟨_,rfl⟩
    rw[hc] at hgk
    have hnx:(L.take (k+1)).foldl tStep ([],[])=tStep S c:=by rw[foldl_snoc_get _ _ _ hkl,← hSk,hc]
    obtain⟨x,hx⟩:∃ x,c.toNat=x:=⟨_,rfl⟩
    have hxb:s[k].toNat=x:=by rw[hgk];exact hx
    have hx256:x < 256:=by rw[← hx];exact c.toNat_lt
    clear hS1 hS2 hlen hc hgk
    by_cases hup:65≤x∧x≤90
    ·obtain⟨t1,t2⟩:=tUp hx hup
     have hst:tStep S c=(S.1,S.2 ++ [tLow c]):=by unfold tStep;rw[if_pos t1]
     have HST:=hhd (hnx.trans hst)
     have HT2:=hhd t2
     have hR':=HR.out
     rw[HM.out] at hR'
     have HR':=hhd hR'
     have h65:(65:Int)≤(x:Int):=by omega
     have h90:(x:Int)≤90:=by omega
     have hwr:IntKind.u8.wrap ((x:Int)+32)=((x+32:Nat):Int):=by rw[IntWalk.u8_in _ ⟨by omega,by omega⟩];rfl
     clear hnx hst t1 t2 hR' hSk
     go_wp2_with (at_builtin;go_loud (refine wpList_append_lies _ rfl _ _ 24 rfl (w.heap.size) 5 i0 (.int .u8 0) 1 1 Tryz.underlying24 hi hz0 hz1 hz2 rfl (by decide) (u4) (m) _ rfl (HR'.out.alloc _) ⟨wr.heap.size,0,none⟩ 1 1 [.int .u8 ((x+32:Nat):Int)] rfl rfl (World.news_of_block (cs:=#[.int .u8 ((x+32:Nat):Int)]) (t:=5) (fr:=(0,0)) (heap_alloc_new wr _)) (by simp [Value.oneCell']) (by omega) (by unfold maxLen;omega) (by omega) (by simp;omega) (wr.heap.size+1) (by simp) ?_);intro g1 cap1 w3 hown3 hgrow3 hfresh3 hlt3)
     go_roundw
     case rel=>
      have hfa:Fr N0 w w3:=((HF.out.alloc _).grown hgrow3 fun q e=>.inr (row_base HR'.out e))
      have hl3:=ownsRow_fr HL.out ((Fr.refl (fun q=>u4.ownBlock=some q) wr).alloc _ |>.grown hgrow3 fun q e=>.inl e) fun q hq e=>rows_apart HR'.out HL'.out (by decide) e hq
      exact⟨k+1,(S.1,S.2 ++ [tLow c]),by omega,by first | rfl | go_num,⟨fun _=>HST.out.symm,fun h=>by omega⟩,⟨hl3,by simpa [u8s,HM.out,HT2.out] using hown3⟩,hfa⟩
     case measure=>simp [intOf] <;> omega
    ·by_cases hkp:(97≤x∧x≤122)∨(48≤x∧x≤57)∨127 < x
     ·have hst:tStep S c=(S.1,S.2 ++ [c]):=by unfold tStep;rw[if_pos (tKept hx hup hkp),tStay hx hup]
      have HST:=hhd (hnx.trans hst)
      have hR':=HR.out
      rw[HM.out] at hR'
      have HR':=hhd hR'
      have HX:=hhd hx
      clear hnx hst hR' hSk hx
      have h4:((97:Int)≤x∧(x:Int)≤122)∨((48:Int)≤x∧(x:Int)≤57)∨(127:Int) < x:=by omega
      clear hkp
      have hup':¬((65:Int)≤x∧(x:Int)≤90):=by omega
      clear hup
      rcases h4 with⟨h4,h5⟩ | ⟨h4,h5⟩ | h4
      all_goals
       go_wp2_with (at_builtin;go_loud (refine wpList_append_lies _ rfl _ _ 24 rfl (w.heap.size) 5 i0 (.int .u8 0) 1 1 Tryz.underlying24 hi hz0 hz1 hz2 rfl (by decide) (u4) (m) _ rfl (HR'.out.alloc _) ⟨wr.heap.size,0,none⟩ 1 1 [.int .u8 (x:Int)] rfl rfl (World.news_of_block (cs:=#[.int .u8 (x:Int)]) (t:=5) (fr:=(0,0)) (heap_alloc_new wr _)) (by simp [Value.oneCell']) (by omega) (by unfold maxLen;omega) (by omega) (by simp;omega) (wr.heap.size+1) (by simp) ?_);intro g1 cap1 w3 hown3 hgrow3 hfresh3 hlt3)
       go_roundw
       case rel=>
        have hfa:Fr N0 w w3:=((HF.out.alloc _).grown hgrow3 fun q e=>.inr (row_base HR'.out e))
        have hl3:=ownsRow_fr HL.out ((Fr.refl (fun q=>u4.ownBlock=some q) wr).alloc _ |>.grown hgrow3 fun q e=>.inl e) fun q hq e=>rows_apart HR'.out HL'.out (by decide) e hq
        exact⟨k+1,(S.1,S.2 ++ [c]),by omega,by first | rfl | go_num,⟨fun _=>HST.out.symm,fun h=>by omega⟩,⟨hl3,by simpa [u8s,HM.out,HX.out] using hown3⟩,hfa⟩
       case measure=>simp [intOf] <;> omega
     ·have hst:tStep S c=tEnd S:=by unfold tStep;rw[if_neg (tLeft hx hup hkp)]
      have HNX:Hid (∀ S',S'=tEnd S→(k+1≤s.size→S'=(L.take (k+1)).foldl tStep ([],[]))∧(k+1=s.size+1→S'=tEnd (L.foldl tStep ([],[])))):=hhd fun S' e=>⟨fun _=>by rw[hnx,hst];exact e,fun h=>by omega⟩
      have h4:((x:Int) < 48)∨((57:Int) < x∧(x:Int) < 65)∨((90:Int) < x∧(x:Int) < 97)∨((122:Int) < x∧(x:Int)≤127):=by omega
      clear hnx hst hSk hx hup hkp
      rcases h4 with h4 | ⟨h4,h5⟩ | ⟨h4,h5⟩ | ⟨h4,h5⟩
      all_goals
       by_cases hm0:m=0
       ·subst hm0
        have hS2:S.2 = []:=List.eq_nil_of_length_eq_zero HM.out
        have hE:tEnd S=S:=by unfold tEnd;rw[if_pos hS2]
        have HE:=hhd hE
        obtain⟨ra,rc,hrv⟩:=row_form HR.out
        rw[HM.out] at hrv
        have hr0:wr.ownsRow w.heap.size 5 1 (.slice none 0 0) S.2.length ((u8s S.2).map (Value.int .u8)):=by rw[hS2];exact World.ownsRow_nil _ _ _ _
        have HR0:=hhd hr0
        clear hE hr0 hS2 HR
        subst hrv
        go_wp2_with fail
        go_roundw
        case rel=>exact⟨k+1,S,by omega,by first | rfl | go_num,HNX.out S HE.out.symm,⟨HL.out,HR0.out⟩,HF.out⟩
        case measure=>simp [intOf] <;> omega
       ·obtain⟨g,gc,rfl,hgc⟩:=u8row_form HR.out HM.out (by omega)
        have hE:tEnd S=(S.1 ++ [⟨(S.2.take 64).toArray⟩],[]):=by unfold tEnd;rw[if_neg (fun h=>hm0 (by rw[← HM.out,h];rfl))]
        have HE:=hhd hE
        have hm1:(0:Int) < (m:Int):=by omega
        clear hE
        by_cases h64:64 < m
        ·have h64':(64:Int) < (m:Int):=by omega
         have hcv:=row_bytesT (m:=64) (c2:=gc) (by have h:=HR.out;rw[HM.out] at h;exact h) (by omega)
         have HCV:=hhd hcv
         obtain⟨tx,htx⟩:∃ tx,(⟨(S.2.take 64).toArray⟩:ByteArray)=tx:=⟨_,rfl⟩
         rw[htx] at hcv HE
         go_wp2_with (at_builtin;go_loud (refine wpList_append_lies _ rfl _ _ 92 rfl (w.heap.size) 9 i0S (.string ⟨#[]⟩) 1 16 Tryz.underlying92 hiS hz0S hz1S hz2S rfl (by decide) (u3) (n) _ rfl (HL'.out.alloc _) ⟨wr.heap.size,0,none⟩ 1 1 [.string tx] rfl rfl (World.news_of_block (cs:=#[.string tx]) (t:=9) (fr:=(0,0)) (heap_alloc_new wr _)) (by simp [Value.oneCell']) (by omega) (by unfold maxLen;omega) (by omega) (by simp;omega) (wr.heap.size+1) (by simp) ?_);intro g1 cap1 w3 hown3 hgrow3 hfresh3 hlt3)
         go_roundw
         case rel=>
          have hfa:Fr N0 w w3:=((HF.out.alloc _).grown hgrow3 fun q e=>.inr (row_base HL'.out e))
          exact⟨k+1,tEnd S,by omega,by first | rfl | go_num,HNX.out (tEnd S) rfl,⟨by rw[HE.out];simpa [HN.out] using hown3,by rw[HE.out];exact World.ownsRow_nil _ _ _ _⟩,hfa⟩
         case measure=>simp [intOf] <;> omega
        ·have h64':¬(64:Int) < (m:Int):=by omega
         have hcv:=row_bytesT (m:=m) (c2:=gc) (by have h:=HR.out;rw[HM.out] at h;exact h) (Nat.le_refl _)
         rw[show S.2.take m=S.2.take 64 by rw[List.take_of_length_le (by rw[HM.out];exact Nat.le_refl _),List.take_of_length_le (by rw[HM.out];omega)]] at hcv
         obtain⟨tx,htx⟩:∃ tx,(⟨(S.2.take 64).toArray⟩:ByteArray)=tx:=⟨_,rfl⟩
         rw[htx] at hcv HE
         go_wp2_with (at_builtin;go_loud (refine wpList_append_lies _ rfl _ _ 92 rfl (w.heap.size) 9 i0S (.string ⟨#[]⟩) 1 16 Tryz.underlying92 hiS hz0S hz1S hz2S rfl (by decide) (u3) (n) _ rfl (HL'.out.alloc _) ⟨wr.heap.size,0,none⟩ 1 1 [.string tx] rfl rfl (World.news_of_block (cs:=#[.string tx]) (t:=9) (fr:=(0,0)) (heap_alloc_new wr _)) (by simp [Value.oneCell']) (by omega) (by unfold maxLen;omega) (by omega) (by simp;omega) (wr.heap.size+1) (by simp) ?_);intro g1 cap1 w3 hown3 hgrow3 hfresh3 hlt3)
         go_roundw
         case rel=>
          have hfa:Fr N0 w w3:=((HF.out.alloc _).grown hgrow3 fun q e=>.inr (row_base HL'.out e))
          exact⟨k+1,tEnd S,by omega,by first | rfl | go_num,HNX.out (tEnd S) rfl,⟨by rw[HE.out];simpa [HN.out] using hown3,by rw[HE.out];exact World.ownsRow_nil _ _ _ _⟩,hfa⟩
         case measure=>simp [intOf] <;> omega
   ·obtain rfl:k=s.size:=by omega
    have hlt':¬(s.size:Int) < (s.size:Int):=by omega
    have hle':(s.size:Int)≤(s.size:Int):=by omega
    have hfull:L.take s.size=L:=by rw[← HLL.out,List.take_length]
    rw[hfull] at hSk
    have HNX:Hid (∀ S',S'=tEnd S→(s.size+1≤s.size→S'=(L.take (s.size+1)).foldl tStep ([],[]))∧(s.size+1=s.size+1→S'=tEnd (L.foldl tStep ([],[])))):=hhd fun S' e=>⟨fun h=>by omega,fun _=>by rw[← hSk];exact e⟩
    clear hS1 hS2 hlen hSk hfull
    by_cases hm0:m=0
    ·subst hm0
     have hS2:S.2 = []:=List.eq_nil_of_length_eq_zero HM.out
     have hE:tEnd S=S:=by unfold tEnd;rw[if_pos hS2]
     have HE:=hhd hE
     obtain⟨ra,rc,hrv⟩:=row_form HR.out
     rw[HM.out] at hrv
     have hr0:wr.ownsRow w.heap.size 5 1 (.slice none 0 0) S.2.length ((u8s S.2).map (Value.int .u8)):=by rw[hS2];exact World.ownsRow_nil _ _ _ _
     have HR0:=hhd hr0
     clear hE hr0 hS2 HR
     subst hrv
     go_wp2_with fail
     go_roundw
     case rel=>exact⟨s.size+1,S,by omega,by first | rfl | go_num,HNX.out S HE.out.symm,⟨HL.out,HR0.out⟩,HF.out⟩
     case measure=>simp [intOf] <;> omega
    ·obtain⟨g,gc,rfl,hgc⟩:=u8row_form HR.out HM.out (by omega)
     have hE:tEnd S=(S.1 ++ [⟨(S.2.take 64).toArray⟩],[]):=by unfold tEnd;rw[if_neg (fun h=>hm0 (by rw[← HM.out,h];rfl))]
     have HE:=hhd hE
     have hm1:(0:Int) < (m:Int):=by omega
     clear hE
     by_cases h64:64 < m
     ·have h64':(64:Int) < (m:Int):=by omega
      have hcv:=row_bytesT (m:=64) (c2:=gc) (by have h:=HR.out;rw[HM.out] at h;exact h) (by omega)
      have HCV:=hhd hcv
      obtain⟨tx,htx⟩:∃ tx,(⟨(S.2.take 64).toArray⟩:ByteArray)=tx:=⟨_,rfl⟩
      rw[htx] at hcv HE
      go_wp2_with (at_builtin;go_loud (refine wpList_append_lies _ rfl _ _ 92 rfl (w.heap.size) 9 i0S (.string ⟨#[]⟩) 1 16 Tryz.underlying92 hiS hz0S hz1S hz2S rfl (by decide) (u3) (n) _ rfl (HL'.out.alloc _) ⟨wr.heap.size,0,none⟩ 1 1 [.string tx] rfl rfl (World.news_of_block (cs:=#[.string tx]) (t:=9) (fr:=(0,0)) (heap_alloc_new wr _)) (by simp [Value.oneCell']) (by omega) (by unfold maxLen;omega) (by omega) (by simp;omega) (wr.heap.size+1) (by simp) ?_);intro g1 cap1 w3 hown3 hgrow3 hfresh3 hlt3)
      go_roundw
      case rel=>
       have hfa:Fr N0 w w3:=((HF.out.alloc _).grown hgrow3 fun q e=>.inr (row_base HL'.out e))
       exact⟨s.size+1,tEnd S,by omega,by first | rfl | go_num,HNX.out (tEnd S) rfl,⟨by rw[HE.out];simpa [HN.out] using hown3,by rw[HE.out];exact World.ownsRow_nil _ _ _ _⟩,hfa⟩
      case measure=>simp [intOf] <;> omega
     ·have h64':¬(64:Int) < (m:Int):=by omega
      have hcv:=row_bytesT (m:=m) (c2:=gc) (by have h:=HR.out;rw[HM.out] at h;exact h) (Nat.le_refl _)
      rw[show S.2.take m=S.2.take 64 by rw[List.take_of_length_le (by rw[HM.out];exact Nat.le_refl _),List.take_of_length_le (by rw[HM.out];omega)]] at hcv
      obtain⟨tx,htx⟩:∃ tx,(⟨(S.2.take 64).toArray⟩:ByteArray)=tx:=⟨_,rfl⟩
      rw[htx] at hcv HE
      go_wp2_with (at_builtin;go_loud (refine wpList_append_lies _ rfl _ _ 92 rfl (w.heap.size) 9 i0S (.string ⟨#[]⟩) 1 16 Tryz.underlying92 hiS hz0S hz1S hz2S rfl (by decide) (u3) (n) _ rfl (HL'.out.alloc _) ⟨wr.heap.size,0,none⟩ 1 1 [.string tx] rfl rfl (World.news_of_block (cs:=#[.string tx]) (t:=9) (fr:=(0,0)) (heap_alloc_new wr _)) (by simp [Value.oneCell']) (by omega) (by unfold maxLen;omega) (by omega) (by simp;omega) (wr.heap.size+1) (by simp) ?_);intro g1 cap1 w3 hown3 hgrow3 hfresh3 hlt3)
      go_roundw
      case rel=>
       have hfa:Fr N0 w w3:=((HF.out.alloc _).grown hgrow3 fun q e=>.inr (row_base HL'.out e))
       exact⟨s.size+1,tEnd S,by omega,by first | rfl | go_num,HNX.out (tEnd S) rfl,⟨by rw[HE.out];simpa [HN.out] using hown3,by rw[HE.out];exact World.ownsRow_nil _ _ _ _⟩,hfa⟩
      case measure=>simp [intOf] <;> omega
  ·obtain rfl:k=s.size+1:=by omega
   have hle':¬((s.size+1:Nat):Int)≤(s.size:Int):=by omega
   have hSd:=hS2 rfl
   have hst:∃ b,Strs wr b u3 (rawTerms s):=by rw[HRAW.out,← hSd];exact strs_row HL.out
   obtain⟨b,hst⟩:=hst
   have HB:=hhd (HD.out wr b u3 HF.out hst)
   clear hS1 hS2 hlen hSd hst
   go_wp2_with fail
   refine HB.out.mono ?_
   rintro e w9 ⟨v9,rfl,hp⟩
   have HP:=hhd hp
   clear hp
   go_wp2_with fail
   exact HP.out
end
section
open Go.RowKit Go.Shelf
attribute [local go_sem] Oper.semAt_some
attribute [local irreducible] wpQuiet
open Classical in
noncomputable def cntS(own:List ByteArray)(x:ByteArray):Nat:=(own.filter fun y=>decide (y=x)).length
noncomputable def cntT(own l:List ByteArray):Nat:=(l.map (cntS own)).sum
theorem cntS_le(own:List ByteArray)(x:ByteArray):cntS own x≤own.length:=by
 classical
 unfold cntS;exact List.length_filter_le _ _
theorem cntT_le(own:List ByteArray):∀ l:List ByteArray,cntT own l≤own.length * l.length
 | []=>by simp [cntT]
 | x :: l=>by
  have h1:=cntT_le own l
  have h2:=cntS_le own x
  unfold cntT at h1 ⊢
  rw[List.map_cons,List.sum_cons,List.length_cons,Nat.mul_succ];omega
theorem cntS_take(own:List ByteArray)(x:ByteArray){k:Nat}(h:k < own.length):cntS (own.take (k+1)) x=if own[k]=x then cntS (own.take k) x+1 else cntS (own.take k) x:=by
 classical
 unfold cntS
 rw[List.take_succ_eq_append_getElem h,List.filter_append,List.length_append]
 by_cases e:own[k]=x
 ·rw[if_pos e];simp [e]
 ·rw[if_neg e];simp [e]
theorem cntT_take(own l:List ByteArray){k:Nat}(h:k < l.length):cntT own (l.take (k+1))=cntT own (l.take k)+cntS own l[k]:=by
 unfold cntT
 rw[List.take_succ_eq_append_getElem h,List.map_append,List.sum_append];simp
theorem once_len:∀ l:List (List UInt8),(once l).length≤l.length
 | []=>by simp [once]
 | x :: l=>by
  have:=once_len l
  simp only [once];split <;> simp <;> omega
theorem normS_len(xs:List ByteArray):(normS xs).length≤xs.length:=by
 unfold normS normL
 rw[List.length_map,(List.mergeSort_perm _ _).length_eq]
 have:=once_len (xs.map (·.data.toList))
 rwa [List.length_map] at this
theorem termsOf_len(s:ByteArray):(termsOf s).length≤s.size+1:=Nat.le_trans (normS_len _) (rawTerms_len s)
theorem str_eq{a b:ByteArray}:(a.toList == b.toList)=true↔a=b:=by
 constructor
 ·intro h
  have h:=beq_iff_eq.1 h
  rw[ByteArray.toList_eq,ByteArray.toList_eq] at h
  exact ByteArray.ext (Array.toList_inj.1 h)
 ·rintro rfl;simp
theorem r19terms_any(w:World)(s:ByteArray)(hs:s.size≤20000)(b:Nat)(v:Value)(l:List ByteArray)(h:Strs w b v l)(hl:l.length≤20000) :
  Calls Tryz.prog 223 #[.string s,v] w fun e w'=>e = .returned (.int .i64 (cntT (termsOf s) l))∧Fr N0 w w':=by
 obtain⟨a,off,cap,rfl,h1,h2,h3,h4,h5⟩:=h
 have hte:=fun W=>r3Terms_any W s (by omega)
 have htl:=termsOf_len s
 obtain⟨own,hown⟩:∃ own,termsOf s=own:=⟨_,rfl⟩
 rw[hown] at htl ⊢
 simp only [hown] at hte
 obtain⟨L,hL⟩:∃ L,l.length=L:=⟨_,rfl⟩
 obtain⟨M,hM⟩:∃ M,own.length=M:=⟨_,rfl⟩
 rw[hL] at h1 h3 hl ⊢
 rw[hM] at htl
 have hfull:cntT own (l.take L)=cntT own l:=by rw[← hL,List.take_length]
 have hmul:∀ k,k≤L→cntT own (l.take k)+M≤1000000000:=fun k hk=>by
  have h:=cntT_le own (l.take k)
  rw[hM,List.length_take,hL,Nat.min_eq_left hk] at h
  have:M * k≤20001 * 20000:=Nat.mul_le_mul (by omega) (by omega)
  omega
 have HTE:=hhd hte;have HC:=hhd h5;have HL:=hhd hL;have HM:=hhd hM;have HFULL:=hhd hfull;have HMUL:=hhd hmul
 clear hte h5 hL hM hown hfull hmul h4
 go_enter Tryz.func223,Tryz.ntmps223
 go_wp2_with fail
 refine(HTE.out _).mono ?_
 rintro e w1 ⟨v1,b1,rfl,hS1,hb1,hf1⟩
 obtain⟨oa,ooff,ocap,rfl,o1,o2,o3,o4,o5⟩:=hS1
 rw[HM.out] at o1 o3 ⊢
 have HO:=hhd o5;have HF:=hhd hf1
 clear o5 hf1 o4 HTE
 go_wp2_with fail
 go_loopw [6,7] (fun nv iv wr=>∃ (i n:Nat),i≤L∧iv = .int .i64 i∧nv = .int .i64 n∧Hid (n=cntT own (l.take i))∧Hid (Fr N0 w1 wr)) (fun _ iv _=>L - (intOf iv).toNat)
 case atStart=>exact⟨0,0,Nat.zero_le _,by first | rfl | go_num,by first | rfl | go_num,rfl,Fr.refl _ _⟩
 case round=>
  obtain⟨i,n,hi,rfl,rfl,hn,hfr⟩:=hrel
  have hnb:=HMUL.out i hi
  rw[← hn.out] at hnb
  by_cases hlt:i < L
  ·obtain rfl:=h3 (by omega)
   have hx:i < l.length:=by rw[HL.out];exact hlt
   have d1:=HF.out.cell id (HC.out i hx)
   have hnx:=cntT_take own l hx
   obtain⟨x,hxx⟩:∃ x,l[i]=x:=⟨_,rfl⟩
   rw[hxx] at d1 hnx
   have hki:(i:Int) < (L:Int):=by omega
   rw[← hn.out] at hnx
   have HNX:=hhd hnx;have HFR:=hhd hfr.out;have D1:=hhd d1
   clear hnx hn hfr hxx d1
   go_wp2_with fail
   go_loopw [6,8] (fun nv kv w2=>∃ (k m:Nat),k≤M∧kv = .int .i64 k∧nv = .int .i64 (n+m:Nat)∧Hid (m=cntS (own.take k) x)∧m≤k∧Hid (Fr N0 w1 w2)) (fun _ kv _=>M - (intOf kv).toNat)
   case atStart=>exact⟨0,0,Nat.zero_le _,by first | rfl | go_num,by first | rfl | go_num,rfl,Nat.le_refl _,HFR.out⟩
   case round=>
    obtain⟨k,m,hk,rfl,rfl,hm,hmk,hfr2⟩:=hrel
    by_cases hlk:k < M
    ·obtain rfl:=o3 (by omega)
     have hxk:k < own.length:=by rw[HM.out];exact hlk
     have c2:=hfr2.out.cell id (HO.out k hxk)
     have c1:=hfr2.out.cell id D1.out
     have hst:=cntS_take own x hxk
     obtain⟨y,hyy⟩:∃ y,own[k]=y:=⟨_,rfl⟩
     rw[hyy] at c2 hst
     rw[← hm.out] at hst
     have hki2:(k:Int) < (M:Int):=by omega
     have HFR2:=hhd hfr2.out
     clear hfr2 hm hyy
     by_cases e:y=x
     ·have e':(y.toList == x.toList)=true:=str_eq.2 e
      rw[if_pos e] at hst
      have HST:=hhd hst
      clear hst e
      go_wp2_with fail
      go_quiet (fail)
      go_wp2_with fail
      go_roundw
      case rel=>exact⟨k+1,m+1,by omega,by first | rfl | go_num,by first | rfl | go_num,HST.out.symm,by omega,HFR2.out.drewN _⟩
      case measure=>simp [intOf] <;> omega
     ·have e':(y.toList == x.toList)=false:=by
       rw[Bool.eq_false_iff];exact fun h=>e (str_eq.1 h)
      rw[if_neg e] at hst
      have HST:=hhd hst
      clear hst e
      go_wp2_with fail
      go_quiet (fail)
      go_wp2_with fail
      go_roundw
      case rel=>exact⟨k+1,m,by omega,by first | rfl | go_num,by first | rfl | go_num,HST.out.symm,by omega,HFR2.out.drewN _⟩
      case measure=>simp [intOf] <;> omega
    ·obtain rfl:k=M:=by omega
     have hki2:¬(k:Int) < (k:Int):=by omega
     have hm2:m=cntS own x:=by have h:=hm.out;rwa [← HM.out,List.take_length] at h
     have hnx2:n+m=cntT own (l.take (i+1)):=by rw[HNX.out,hm2]
     have HNX2:=hhd hnx2;have HFR2:=hhd hfr2.out
     clear hm2 hnx2 hm hfr2
     go_wp2_with fail
     go_roundw
     case rel=>exact⟨i+1,n+m,by omega,by first | rfl | go_num,by first | rfl | go_num,HNX2.out,HFR2.out⟩
     case measure=>simp [intOf] <;> omega
  ·obtain rfl:i=L:=by omega
   have hki:¬(i:Int) < (i:Int):=by omega
   have hne:=hn.out.trans HFULL.out
   go_wp2_with fail
   go_ret
   exact⟨by first | rfl | (rw[hne];rfl),HF.out.then0 hfr.out⟩
end
end Go.Proofs.YtefepfiijoafbaaGreat
