/- DelC PMk1 -/
import Derived.Test.YtefepfiijoafbaaGreatQDelW
import Derived.Test.YtefepfiijoafbaaGreatQEq4
import Derived.Test.YtefepfiijoafbaaGreatQPtJ
import Derived.Test.YtefepfiijoafbaaGreatQItB
import Derived.Test.YtefepfiijoafbaaGreatQXMark
set_option linter.unusedVariables false
set_option linter.unusedSimpArgs false
set_option maxRecDepth 100000
set_option maxHeartbeats 8000000
namespace Go.Proofs.YtefepfiijoafbaaGreat
section
open Go.RowKit Go.Shelf Go.Maps Go.Sort
attribute [local go_sem] Oper.semAt_some
attribute [local irreducible] wpQuiet
theorem cm_cells{W:World}{b o:Nat}{x:CmV}(h:∀ c,c < 2→W.cell? ⟨b,o+c,none⟩=(x.enc)[c]?):W.cell? ⟨b,o,none⟩=some (.int .u64 x.time)∧W.cell? ⟨b,o+1,none⟩=some (.slice x.a x.n x.c):=
 ⟨h 0 (by decide),h 1 (by decide)⟩
def PredC(w:World)(gf:FuncId)(lb:Array Value)(xs:List CmV)(p:CmV→Bool):Prop:=
 ∀ x ∈ xs,∀ W,Fr N0 w W→Calls Tryz.prog gf (#[.agg x.enc.toArray] ++ lb) W fun e w'=>e = .returned (.bool (p x))∧Fr N0 W w'
abbrev zeroCmV:Value:=.agg #[.int .u64 0,.slice none 0 0]
theorem row_storedC{w:World}{base g n cap:Nat}{ys:List CmV}{i:Nat}(x:CmV)(h:w.ownsRow base 80 2 (.slice (some ⟨g,0,none⟩) n cap) n (ys.flatMap CmV.enc))(hi:i < ys.length) :
  ((w.setCell ⟨g,i * 2,none⟩ (.int .u64 x.time)).setCell ⟨g,i * 2+1,none⟩ (.slice x.a x.n x.c)).ownsRow base 80 2 (.slice (some ⟨g,0,none⟩) n cap) n ((ys.set i x).flatMap CmV.enc):=by
 have h8:=((h.stored (i * 2) (.int .u64 x.time)).1.stored (i * 2+1) (.slice x.a x.n x.c)).1
 have hl:((ys.take i).flatMap CmV.enc).length=i * 2:=by rw[flat_length (enc:=CmV.enc) (n:=2) (fun _=>rfl),List.length_take];congr 1;omega
 have h1:ys.flatMap CmV.enc=(ys.take i).flatMap CmV.enc ++(ys[i].enc ++(ys.drop (i+1)).flatMap CmV.enc):=by
  conv=>lhs;rw[← List.take_append_drop i ys,List.flatMap_append,List.drop_eq_getElem_cons hi,List.flatMap_cons]
 have h2:(ys.set i x).flatMap CmV.enc=(ys.take i).flatMap CmV.enc ++(x.enc ++(ys.drop (i+1)).flatMap CmV.enc):=by
  rw[List.set_eq_take_append_cons_drop,if_pos hi,List.flatMap_append,List.flatMap_cons]
 rw[h2]
 rw[h1] at h8
 obtain⟨A,hA⟩:∃ A,(ys.take i).flatMap CmV.enc=A:=⟨_,rfl⟩
 obtain⟨B,hB⟩:∃ B,(ys.drop (i+1)).flatMap CmV.enc=B:=⟨_,rfl⟩
 rw[hA,hB] at h8
 rw[hA,hB]
 rw[hA] at hl
 have hset:∀ (L:List Value) (c:Nat) (v:Value),(A ++ L).set (i * 2+c) v=A ++ L.set c v:=fun L c v=>by
  rw[List.set_append_right _ _ (by omega),hl,Nat.add_sub_cancel_left]
 have hset0:∀ (L:List Value) (v:Value),(A ++ L).set (i * 2) v=A ++ L.set 0 v:=fun L v=>hset L 0 v
 rw[hset0,hset] at h8
 simpa [CmV.enc] using h8
theorem idxFC_any(w:World)(b:Nat)(v:Value)(xs:List CmV)(h:RowsK CmV.enc 2 w b v xs)(hl:xs.length≤10000000000)(gf:FuncId)(lb:Array Value)(p:CmV→Bool)(hp:PredC w gf lb xs p)
  (eg:∀ args w,(callFunc gf args).run Tryz.prog w = .ok (.enter gf args) w) :
  Calls Tryz.prog 194 #[v,.func (.func gf) #[] lb] w fun e w'=>e = .returned (.int .i64 (idxW xs p))∧Fr N0 w w':=by
 obtain⟨a,off,cap,rfl,h1,h2,h3,h4,h5⟩:=h
 have HC:=hhd h5;have HP:=hhd hp;clear h5 hp h4
 go_enter Tryz.func194,Tryz.ntmps194
 go_wp2
 go_loopw [8] (fun i wr=>∃ k:Nat,k≤xs.length∧i = .int .i64 k∧Hid (∀ j (h:j < xs.length),j < k→p xs[j]=false)∧Fr N0 w wr) (fun i _=>xs.length - (intOf i).toNat)
 case atStart=>exact⟨0,Nat.zero_le _,rfl,fun j h hj=>by omega,Fr.refl _ _⟩
 case round=>
  obtain⟨k,hk,rfl,hn,hfr⟩:=hrel
  by_cases hlt:k < xs.length
  ·obtain rfl:=h3 (by omega)
   obtain⟨c0,c1⟩:=cm_cells (W:=w) (HC.out k hlt)
   replace c0:=hfr.cell id c0;replace c1:=hfr.cell id c1
   have hcall:=HP.out xs[k] (List.getElem_mem hlt)
   have hnx:p xs[k]=false→∀ j (h:j < xs.length),j < k+1→p xs[j]=false:=fun he j h hj=>by
    rcases Nat.lt_or_ge j k with h' | h'
    ·exact hn.out j h h'
    ·have:j=k:=by omega
     subst this;exact he
   have hfd:p xs[k]=true→idxW xs p=k:=fun he=>idxW_at hlt hn.out he
   obtain⟨x,hx⟩:∃ x,xs[k]=x:=⟨_,rfl⟩
   simp only [hx] at c0 c1 hcall hnx hfd
   obtain⟨q,hq⟩:∃ q,p x=q:=⟨_,rfl⟩
   rw[hq] at hcall hnx hfd
   obtain⟨xt,xa,xn,xc⟩:=x
   unfold CmV.enc at hcall
   simp only at c0 c1 hcall
   have hki:(k:Int) < (xs.length:Int):=by omega
   have HX:=hhd hcall;have HNX:=hhd hnx;have HFD:=hhd hfd
   clear hcall hx hq hnx hfd hn
   cases q with
   | true=>
    have hF:=hhd (HFD.out rfl)
    clear HFD HNX
    go_wp2_with (refine(HX.out _ hfr).mono ?_;rintro e w1 ⟨rfl,hf1⟩)
    go_ret
    exact⟨ret_int hF.out.symm,hfr.then0 hf1⟩
   | false=>
    have hF:=hhd (HNX.out rfl)
    clear HFD HNX
    go_wp2_with (refine(HX.out _ hfr).mono ?_;rintro e w1 ⟨rfl,hf1⟩)
    go_roundw
    case rel=>exact⟨k+1,by omega,by go_num,hF.out,hfr.then0 hf1⟩
    case measure=>simp [intOf];omega
  ·obtain rfl:k=xs.length:=by omega
   have hF:=hhd (idxW_none hn.out)
   clear hn
   go_wp2
   go_ret
   exact⟨ret_int hF.out.symm,hfr⟩
theorem zeroCmR:∀ w,(zeroValue 80).run Tryz.prog w = .ok zeroCmV w:=fun w=>by kernel_rfl
theorem delFC_any(w:World)(base:Nat)(v:Value)(xs:List CmV)(h:w.ownsRow base 80 2 v xs.length (xs.flatMap CmV.enc))(hl:xs.length≤10000000000)
  (gf:FuncId) (lb:Array Value) (p:CmV→Bool) (hp:∀ x ∈ xs,∀ W,Fr (fun k=>v.ownBlock=some k) w W→Calls Tryz.prog gf (#[.agg x.enc.toArray] ++ lb) W fun e w'=>e = .returned (.bool (p x))∧Fr N0 W w')
  (eg:∀ args w,(callFunc gf args).run Tryz.prog w = .ok (.enter gf args) w) :
  Calls Tryz.prog 137 #[v,.func (.func gf) #[] lb] w fun e w'=>∃ v',e = .returned v'∧w'.ownsRow base 80 2 v' (xs.filter fun x=>!p x).length ((xs.filter fun x=>!p x).flatMap CmV.enc)∧Fr (fun k=>v.ownBlock=some k) w w'∧∀ k,v'.ownBlock=some k→v.ownBlock=some k:=by
 obtain⟨b,hbb,hI⟩:=rowsK_of_row (enc:=CmV.enc) (n:=2) (fun _=>rfl) (by decide) h
 have hidx:=idxFC_any w b v xs hI hl gf lb p (fun x hx W hf=>hp x hx W (hf.mono fun k h=>h.elim)) eg
 by_cases hex:∃ x ∈ xs,p x=true
 ·have hlen:xs.findIdx p < xs.length:=by rw[List.findIdx_lt_length];exact hex
  rw[idxW,if_pos hlen] at hidx
  obtain⟨i0,hi0⟩:∃ i,xs.findIdx p=i:=⟨_,rfl⟩
  rw[hi0] at hidx hlen
  have hpi0:p xs[i0]=true:=by have:=List.findIdx_getElem (p:=p) (xs:=xs) (w:=by omega);simpa [hi0] using this
  have hnone:∀ x ∈ xs.take i0,p x=false:=fun x hx=>by
   rw[List.mem_take_iff_getElem] at hx
   obtain⟨j,hj,rfl⟩:=hx
   have:=List.not_of_lt_findIdx (p:=p) (xs:=xs) (i:=j) (by omega)
   simpa using this
  obtain⟨n,hn⟩:∃ n,xs.length=n:=⟨_,rfl⟩
  obtain⟨g,cap,rfl⟩:∃ g cap,v = .slice (some ⟨g,0,none⟩) n cap:=by
   rcases h.2 with⟨_,h0⟩ | ⟨g,cap,_,hv,_⟩
   ·omega
   ·exact⟨g,cap,by rw[hv,hn]⟩
  have h':w.ownsRow base 80 2 (.slice (some ⟨g,0,none⟩) n cap) n (xs.flatMap CmV.enc):=by rw[← hn];rw[← hn] at h;exact h
  have hkept0:(xs.take (i0+1)).filter (fun x=>!p x)=xs.take i0:=by
   rw[List.take_succ_eq_append_getElem (by omega),List.filter_append,List.filter_eq_self.2 (fun x hx=>by simp [hnone x hx])]
   simp [hpi0]
  have HI:=hhd hidx;have HP:=hhd hp;have HR:=hhd h';have HN:=hhd hn;have HK:=hhd hkept0
  have hcap:n≤cap∧cap≤9223372036854775807:=by
   rcases h'.2 with⟨h0,_⟩ | ⟨g',cap',cur,h0,hb,hg,hnc,hcm,hcs,htake⟩
   ·simp at h0
   ·simp at h0;obtain⟨rfl,rfl⟩:=h0;exact⟨hnc,by unfold maxLen at hcm;omega⟩
  obtain⟨hc1,hc2⟩:=hcap
  rw[hn] at hl hlen
  clear hidx hp h h' hn hI hpi0 hnone hi0 hkept0 hex
  have hi1:((i0:Int) == -1)=false:=by rw[beq_eq_false_iff_ne];omega
  go_enter Tryz.func137,Tryz.ntmps137
  go_wp2_with (go_at_call 194;go_loud (refine(HI.out).mono ?_);rintro e w1 ⟨rfl,hf1⟩)
  go_loopw [5,6] (fun si sj wr=>∃ (i j:Nat) (ys:List CmV),i < j∧j≤n∧si = .int .i64 i∧sj = .int .i64 j∧Hid (ys.length=n∧ys.take i=(xs.take j).filter (fun x=>!p x)∧ys.drop j=xs.drop j) ∧
    wr.ownsRow base 80 2 (.slice (some ⟨g,0,none⟩) n cap) n (ys.flatMap CmV.enc)∧Fr (fun k=>(Value.slice (some ⟨g,0,none⟩) n cap).ownBlock=some k) w wr) (fun _ sj _=>n - (intOf sj).toNat)
  case atStart=>exact⟨i0,i0+1,xs,by omega,by omega,rfl,by go_num,⟨HN.out,HK.out.symm,rfl⟩,HR.out.fr0 hf1,hf1.mono fun k h=>h.elim⟩
  case round=>
   obtain⟨i,j,ys,hij,hjn,rfl,rfl,hy,hrow,hfr⟩:=hrel
   by_cases hlt:j < n
   ·have hxl:j < xs.length:=by rw[HN.out];exact hlt
    have hyl:j < ys.length:=by rw[hy.out.1];exact hlt
    have hyj:ys[j]=xs[j]:=by
     have h1:=congrArg (fun l=>l[0]?) hy.out.2.2
     simp only [List.getElem?_drop,Nat.add_zero,List.getElem?_eq_getElem hyl,List.getElem?_eq_getElem hxl] at h1
     exact Option.some.inj h1
    have hcell:∀ (t:Nat) (ht:t < ys.length) c,c < 2→wr.cell? ⟨g,t * 2+c,none⟩=(ys[t].enc)[c]?:=fun t ht c hc=>by
     rw[hrow.cellAt (t * 2+c) (by have:=hy.out.1;have:(t+1) * 2≤n * 2:=Nat.mul_le_mul_right _ (by omega);omega)]
     exact flat_get (enc:=CmV.enc) (n:=2) (fun _=>rfl) ys t ht c hc
    obtain⟨c0,c1⟩:=cm_cells (W:=wr) (hcell j hyl)
    obtain⟨e0,e1⟩:=cm_cells (W:=wr) (hcell i (by omega))
    have hfi:=fun c=>hrow.frozenAt (i * 2+c)
    have hcall:=HP.out xs[j] (List.getElem_mem hxl)
    rw[← hyj] at hcall
    obtain⟨xj,hxj⟩:∃ x,ys[j]=x:=⟨_,rfl⟩
    obtain⟨xi,hxi⟩:∃ x,ys[i]'(by omega)=x:=⟨_,rfl⟩
    have htk:(xs.take (j+1)).filter (fun x=>!p x)=(xs.take j).filter (fun x=>!p x) ++(if p xj=true then [] else [xj]):=by
     rw[List.take_succ_eq_append_getElem hxl,List.filter_append,← hyj,hxj]
     cases hpx:p xj <;> simp [hpx]
    have hdr:xs.drop (j+1)=ys.drop (j+1):=by
     have:=congrArg (fun l=>l.drop 1) hy.out.2.2
     simpa [List.drop_drop,Nat.add_comm] using this.symm
    simp only [hxj] at hcall c0 c1
    simp only [hxi] at e0 e1
    obtain⟨q,hq⟩:∃ q,p xj=q:=⟨_,rfl⟩
    rw[hq] at hcall htk
    have hst:=fun(wq:World) (hq:wq.ownsRow base 80 2 (.slice (some ⟨g,0,none⟩) n cap) n (ys.flatMap CmV.enc))=>row_storedC xj hq (by omega:i < ys.length)
    have HCALL:=hhd hcall;have HRW:=hhd hrow;have HTK:=hhd htk;have HDR:=hhd hdr;have HFR:=hhd hfr;have HST:=hhd hst
    clear hcall hrow htk hdr hxj hfr hst hyj hcell hxi hq
    obtain⟨xt,xa,xn,xc⟩:=xj
    unfold CmV.enc at HCALL
    simp only at HCALL c0 c1 HST
    have hji:(j:Int) < (n:Int):=by omega
    cases q with
    | true=>
     clear hfi e0 e1 HST
     go_wp2_with (refine(HCALL.out _ (HFR.out.alloc _)).mono ?_;rintro e w' ⟨rfl,hf3⟩;have hf2:Fr N0 wr w':=((Fr.refl N0 wr).alloc _).trans hf3 (fun _ h=>h.elim))
     go_roundw
     case rel=>exact⟨i,j+1,ys,by omega,by omega,rfl,by go_num,⟨hy.out.1,by rw[HTK.out,hy.out.2.1];simp,HDR.out.symm⟩,HRW.out.fr0 hf2,HFR.out.then0 hf2⟩
     case measure=>simp [intOf];omega
    | false=>
     have E0:=hhd e0;have E1:=hhd e1
     clear e0 e1 hfi
     go_wp2_with (refine(HCALL.out _ (HFR.out.alloc _)).mono ?_;rintro e w' ⟨rfl,hf3⟩;have hf2:Fr N0 wr w':=((Fr.refl N0 wr).alloc _).trans hf3 (fun _ h=>h.elim);obtain⟨m1,-,-⟩:=box_cells ((hf3.at (k:=wr.heap.size) id (by simp)).trans (World.alloc_heap_new wr _));have hro:=HRW.out.fr0 hf2;have z0:=hf2.cell id E0.out;have z1:=hf2.cell id E1.out;have hfz:=fun c=>hro.frozenAt (i * 2+c);have hfz0:=hro.frozenAt (i * 2);have HRO:=hhd hro;clear hro)
     go_roundw
     case rel=>
      refine⟨i+1,j+1,ys.set i ⟨xt,xa,xn,xc⟩,by omega,by omega,by go_num,by go_num,⟨by simpa using hy.out.1,?_,?_⟩,HST.out _ HRO.out,?_⟩
      ·rw[HTK.out,← hy.out.2.1]
       have:i < ys.length:=by have:=hy.out.1;omega
       have hts:(ys.set i ⟨xt,xa,xn,xc⟩).take i=ys.take i:=by
        apply List.ext_getElem?
        intro t
        simp only [List.getElem?_take]
        split
        ·rw[List.getElem?_set_ne (by omega)]
        ·rfl
       rw[List.take_succ_eq_append_getElem (by simpa using this),hts]
       simp
      ·rw[HDR.out,List.drop_set];rw[if_pos (by omega)]
      ·exact((HFR.out.then0 hf2).setCell (p:=⟨g,i * 2,none⟩) (.inl rfl) _).setCell (p:=⟨g,i * 2+1,none⟩) (.inl rfl) _
     case measure=>simp [intOf];omega
   ·obtain rfl:j=n:=by omega
    have hlen2:(ys.flatMap CmV.enc).length=j * 2:=by rw[flat_length (enc:=CmV.enc) (n:=2) (fun _=>rfl),hy.out.1]
    have hi2:i * 2+(j - i) * 2=j * 2:=by rw[← Nat.add_mul];congr 1;omega
    have hcl:∀ ty,(Builtin.clear_ #[36] ty #[.slice (some ⟨g,i * 2,none⟩) (j - i) (cap - i)]).run Tryz.prog wr = .ok (.tuple #[]) (wr.setCells g (i * 2) (Builtin.zeroCells zeroCmV.cells (j - i)).toList):=fun ty=>
     run_clear_cells wr 36 80 ty zeroCmV Tryz.underlying36 zeroCmR g (i * 2) _ _ (by omega) (by intro u hu;simp [Value.cells] at hu;rcases hu with h | h <;> subst h <;> rfl)
      (fun t ht=>by have ht':t < (j - i) * 2:=ht;rw[hrow.cellAt _ (by omega),List.getElem?_eq_getElem (by omega)];rfl) (fun t ht=>hrow.frozenAt _)
    have HRW:=hhd hrow;have HFR:=hhd hfr
    clear hrow hfr
    have hne:¬ cap=i:=by omega
    go_wp2
    go_ret
    have hfin:ys.take i=xs.filter fun x=>!p x:=by
     rw[hy.out.2.1,List.take_of_length_le (by rw[HN.out];exact Nat.le_refl _)]
    have hrc:=row_clearK (enc:=CmV.enc) (k:=2) (fun _=>rfl) (m:=i) (Builtin.zeroCells zeroCmV.cells (j - i)).toList HRW.out hy.out.1 (by omega)
    have hil:i=(xs.filter fun x=>!p x).length:=by rw[← hfin,List.length_take];have:=hy.out.1;omega
    rw[hfin] at hrc
    rcases HRW.out.2 with⟨h',_⟩ | ⟨g',cap',cur,h',hb,hcur,_⟩
    ·simp at h'
    ·simp only [Value.slice.injEq,Option.some.injEq,Addr.mk.injEq,and_true,true_and] at h'
     obtain⟨rfl,rfl⟩:=h'
     obtain⟨_,_,_,_,h5⟩:=setCells_specW g _ _ (Builtin.zeroCells zeroCmV.cells (j - i)).toList wr (i * 2) cur hcur
     exact⟨_,rfl,by rw[← hil];exact hrc,HFR.out.trans h5 fun k hk=>.inl (by rw[hk];rfl),fun k hk=>hk⟩
 ·have hge:¬ xs.findIdx p < xs.length:=by rw[List.findIdx_lt_length];exact hex
  rw[idxW,if_neg hge] at hidx
  have hfil:xs.filter (fun x=>!p x)=xs:=List.filter_eq_self.2 fun x hx=>by
   cases hpx:p x
   ·rfl
   ·exact absurd ⟨x,hx,hpx⟩ hex
  have HR:=hhd h;have HI:=hhd hidx
  clear h hex hp hI hidx hge
  go_enter Tryz.func137,Tryz.ntmps137
  go_wp2_with (go_at_call 194;refine HI.out.mono ?_;rintro e w1 ⟨rfl,hf1⟩)
  go_ret
  exact⟨v,rfl,by rw[hfil];exact HR.out.fr0 hf1,hf1.mono fun k h=>h.elim,fun _ h=>h⟩
end
section
open Go.RowKit Go.Shelf Go.Maps
attribute [local go_sem] Oper.semAt_some
attribute [local irreducible] wpQuiet
noncomputable def pmB(n:Nat):Code:=lvSuf n ((Tryz.f79.body).getD .skip)
noncomputable def pmRng:Code:=srIn (srSnd (lvFst (pmB 3)))
noncomputable def pmRound:Code:=lxBody pmRng
def PmR(B5:Nat)(t:Int)(q:ByteArray)(S:Nat→Prop)(pre:List (Int × Val))(W:World):Prop:=
 S B5∧∃ (oa:Option Addr) (oc:Nat),W.heap[B5]?=some (.cells #[.int .u64 t,.slice oa pre.length oc] 80 (0,0))∧W.ownsRow B5 61 8 (.slice oa pre.length oc) pre.length ((pre.map (wrT q)).flatMap Wr.enc)∧∀ k,(Value.slice oa pre.length oc).ownBlock=some k→S k
theorem pmR_stable(B5:Nat)(t:Int)(q:ByteArray):Stable (PmR B5 t q):=by
 rintro S pre A B ⟨s1,oa,oc,h1,h2,h3⟩ hs
 exact⟨s1,oa,oc,(hs.block B5 s1 (lt_of_block h1)).trans h1,ownsRow_same h2 fun g hg=>by obtain⟨c,hc⟩:=ownsRow_elem h2 hg;exact hs.block _ (h3 g hg) (lt_of_block hc),h3⟩
theorem pm_round(l:Nat)(B5 B:Nat)(t:Int)(q:ByteArray)(S:Nat→Prop)(pre:List (Int × Val))(x:Int × Val)(W:World)(f:Nat→Value)(hI:PmR B5 t q S pre W)(hSW:∀ k,S k→k < W.heap.size)(hB:W.heap[B]?=some (.cells #[.int .u64 x.1,.string q,.int .u8 x.2.k,.bool x.2.b,.int .i64 x.2.n,.string x.2.s,.int .u64 x.2.u] 59 (0,0)))
  (hl:pre.length≤10000000000) (h5:f 5=vP B5) (h6:f 6=vP B) :
  pmRound.wpIn (Fence.wide.inRound l) 7 Tryz.prog (fpPost (PmR B5 t q) (fun _ _ _ _=>False) S (pre ++ [x]) W) (frA 53 f) W:=by
 obtain⟨i0,hi,hz0,hz1,hz2⟩:=info_parts infoWr
 obtain⟨s1,oa,oc,hb5,hrow,hsg⟩:=hI
 obtain⟨n,hn⟩:∃ n,pre.length=n:=⟨_,rfl⟩
 obtain⟨E,hE⟩:∃ E,(pre.map (wrT q)).flatMap Wr.enc=E:=⟨_,rfl⟩
 have hbl:=lt_of_block hb5
 have hfin:∀ w1 g gc,w1.heap[B5]?=some (.cells #[.int .u64 t,.slice oa n oc] 80 (0,0))→w1.ownsRow B5 61 8 (.slice (some ⟨g,0,none⟩) (n+1) gc) (n+1) (E ++(wrT q x).enc)→Fr S W w1→((Value.slice oa n oc).ownBlock=some g∨g=W.heap.size+1)→g < w1.heap.size→∀ a,fpPost (PmR B5 t q) (fun _ _ _ _=>False) S (pre ++ [x]) W .normal a (w1.setCell ⟨B5,1,none⟩ (.slice (some ⟨g,0,none⟩) (n+1) gc)):=fun w1 g gc hb1 hr hf hfresh hlt a=>by
  have hgne:g≠B5:=fun e=>by obtain⟨c,hc⟩:=ownsRow_elem hr (g:=g) rfl;rw[e,hb1] at hc;simp at hc
  have hpe:=heap_setCell_same w1 B5 1 _ _ (Value.slice (some ⟨g,0,none⟩) (n+1) gc) hb1
  have hset:=(Fr.refl (fun k=>k=B5) w1).setCell (p:=⟨B5,1,none⟩) (.inl rfl) (Value.slice (some ⟨g,0,none⟩) (n+1) gc)
  have hr2:=ownsRow_fr hr hset fun k hk e=>hgne ((Option.some.inj hk).trans e)
  rw[← hE,mk_snoc] at hr2
  refine⟨fun k=>S k∨k=g,⟨.inl s1,some ⟨g,0,none⟩,gc,?_,?_,fun k hk=>.inr (Option.some.inj hk).symm⟩,hf.setCell (.inl s1) _,?_⟩
  ·rw[List.length_append,hn];exact hpe
  ·rw[List.length_append,hn];exact hr2
  ·intro k hk
   have hz:=hf.size
   rcases hk with hk | hk
   ·exact⟨.inl hk,by simp [World.setCell];have:=hSW k hk;omega⟩
   ·subst hk
    refine⟨?_,by simpa [World.setCell] using hlt⟩
    rcases hfresh with h1 | h1
    ·exact .inl (hsg k (by rw[hn];exact h1))
    ·exact .inr (by omega)
 rw[hn] at hb5 hrow hl hsg
 rw[hE] at hrow
 obtain⟨xu,vk,vb,vn,vs,vu⟩:=x
 simp only at hB
 simp only [wrT,Wr.enc] at hfin
 have hne:(Value.slice oa n oc).ownBlock≠some B5:=fun e=>by obtain⟨c,hc⟩:=ownsRow_elem hrow e;rw[hb5] at hc;simp at hc
 have hkp:∀ w1,(W.alloc (.cells #[.bool false,.int .u64 xu,.string q,.int .u8 vk,.bool vb,.int .i64 vn,.string vs,.int .u64 vu] 61)).grownBy w1 (Value.slice oa n oc).ownBlock→Fr S W w1∧w1.heap[B5]?=some (.cells #[.int .u64 t,.slice oa n oc] 80 (0,0)):=fun w1 hg=>by
  have hfa:Fr (fun q=>(Value.slice oa n oc).ownBlock=some q) W w1:=(((Fr.refl N0 W).alloc _).mono fun _ h=>h.elim).trans ((Fr.refl (fun q=>(Value.slice oa n oc).ownBlock=some q) _).grown hg fun q e=>.inl e) fun q hq=>.inl hq
  exact⟨hfa.mono fun k hk=>.inl (hsg k hk),(hfa.at (k:=B5) hne hbl).trans hb5⟩
 have HFIN:=hhd hfin;have HKP:=hhd hkp
 obtain⟨mB,nB,lB⟩:=box_cells hB
 obtain⟨m5,n5,l5⟩:=box_cells hb5
 clear hfin hkp hB hsg hSW hn hE hne
 show Code.wpIn _ _ _ _ _ { tmps:=#[f 0,f 1,f 2,f 3,f 4,f 5,f 6,f 7,f 8,f 9,f 10,f 11,f 12,f 13,f 14,f 15,f 16,f 17,f 18,f 19,f 20,f 21,f 22,f 23,f 24,f 25,f 26,f 27,f 28,f 29,f 30,f 31,f 32,f 33,f 34,f 35,f 36,f 37,f 38,f 39,f 40,f 41,f 42,f 43,f 44,f 45,f 46,f 47,f 48,f 49,f 50,f 51,f 52],defers:=[] } _
 rw[h5,h6]
 clear h5 h6
 conv=>arg 4;whnf
 gi_wp2_with (gi_at_builtin;refine wpListIn_append_lies _ rfl _ _ 34 rfl B5 61 i0 zeroWrV 8 72 Tryz.underlying34 hi hz0 hz1 hz2 rfl (by decide) (.slice oa n oc) n E rfl (hrow.alloc _) ⟨W.heap.size,0,none⟩ 1 1 [.bool false,.int .u64 xu,.string q,.int .u8 vk,.bool vb,.int .i64 vn,.string vs,.int .u64 vu] rfl rfl (World.news_of_block (cs:=#[.bool false,.int .u64 xu,.string q,.int .u8 vk,.bool vb,.int .i64 vn,.string vs,.int .u64 vu]) (t:=61) (fr:=(0,0)) (heap_alloc_new W _)) (by simp [Value.oneCell']) (by omega) (by unfold maxLen;omega) (by omega) (by simp;omega) (W.heap.size+1) (by simp) ?_;intro g gc w1 hown hgrow hfresh hlt;obtain⟨hfw,hb51⟩:=HKP.out w1 hgrow;obtain⟨m51,n51,l51⟩:=box_cells hb51)
 exact HFIN.out w1 g gc hb51 hown hfw hfresh hlt _
end
end Go.Proofs.YtefepfiijoafbaaGreat
