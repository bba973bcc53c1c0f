/- XMark1 XMark2 XMark -/
import Derived.Deep.RegionLaw
import Derived.Test.YtefepfiijoafbaaGreatQXTrip
import Derived.Test.YtefepfiijoafbaaGreatQXAdd
set_option linter.unusedVariables false
set_option linter.unusedSimpArgs false
set_option maxRecDepth 100000
set_option maxHeartbeats 8000000
namespace Go.Proofs.YtefepfiijoafbaaGreat
section
open Go.RowKit Go.Shelf Go.Maps
attribute [local go_sem] Oper.semAt_some
attribute [local irreducible] wpQuiet
def wrT(q:ByteArray)(x:Int × Val):Wr:=⟨false,x.1,q,x.2⟩
noncomputable def mkB(n:Nat):Code:=lvSuf n ((Tryz.f80.body).getD .skip)
noncomputable def mkI:Code:=srIn (lvFst (srSnd (srLoop (srIn (srSnd (lvFst (mkB 5)))))))
theorem mkR9{K:Act→World→Prop}{Q:Exit→Act→World→Prop}(W:World)(f:Nat→Value)(B base g go i n cv c oc:Nat)(oa:Option Addr)(t:Int)(pr:ByteArray)(y:Val)(u:Int)(cells:List Value)
  (h5:f 5 = .pointer (some ⟨B,0,none⟩)) (h6:f 6 = .slice (some ⟨g,go,none⟩) n cv) (h7:f 7 = .int .i64 i) (hin:i < n)
  (hB:W.heap[B]?=some (.cells #[.int .u64 t,.slice oa c oc] 80 (0,0))) (hg:∀ j,j < 7→W.cell? ⟨g,go+i * 7+j,none⟩=(trE pr (u,y))[j]?)
  (hr:W.ownsRow base 61 8 (.slice oa c oc) c cells) (hb:base≤W.heap.size) (hl:c≤10000000000) (nB:(Value.slice oa c oc).ownBlock≠some B) (ng:(Value.slice oa c oc).ownBlock≠some g)
  (hK:∀ f' W' oa' oc',KpX [0,1,2,3,4,5,6,7,8,9,10,11,12,13,14,15,16,17,18,19,20,21,22,23,24,37,38,39,40,41,42,43,44,45,46,47,48,49,50,51,52,53,54,55,56,57,58,59,60,61,62,63,64,65,66,67,68,69,70,71,72,73,74,75,76,77,78,79,80] f f'→W'.heap[B]?=some (.cells #[.int .u64 t,.slice oa' (c+1) oc'] 80 (0,0))→W'.ownsRow base 61 8 (.slice oa' (c+1) oc') (c+1) (cells ++(wrT pr (u,y)).enc) →
   Fr (fun q=>q=B∨(Value.slice oa c oc).ownBlock=some q) W W'→(∀ q,(Value.slice oa' (c+1) oc').ownBlock=some q→(Value.slice oa c oc).ownBlock=some q∨W.heap.size≤q)→K (frA 81 f') W') :
  Code.wp Tryz.prog mkI (Exit.then K Q) (frA 81 f) W:=by
 obtain⟨i0,hi,hz0,hz1,hz2⟩:=info_parts infoWr
 obtain⟨yk,yb,yn,ys,yu⟩:=y
 simp only [wrT,Wr.enc] at hK
 obtain⟨m,nn,lB⟩:=box_cells hB
 have e0:=hg 0 (by decide);have e1:=hg 1 (by decide);have e2:=hg 2 (by decide);have e3:=hg 3 (by decide);have e4:=hg 4 (by decide);have e5:=hg 5 (by decide);have e6:=hg 6 (by decide)
 simp only [trE,List.getElem?_cons_zero,List.getElem?_cons_succ,Nat.add_zero] at e0 e1 e2 e3 e4 e5 e6
 have hgl:g < W.heap.size:=lt_of_cell e0
 have HK:=hhd hK;have HB:=hhd hB;have HR:=hhd hr
 have hi1:(i:Int) < (n:Int):=by omega
 have hi0:(0:Int)≤(i:Int):=by omega
 have HKP:Hid ([0,1,2,3,4,5,6,7,8,9,10,11,12,13,14,15,16,17,18,19,20,21,22,23,24,37,38,39,40,41,42,43,44,45,46,47,48,49,50,51,52,53,54,55,56,57,58,59,60,61,62,63,64,65,66,67,68,69,70,71,72,73,74,75,76,77,78,79,80].map f = [f 0,f 1,f 2,f 3,f 4,.pointer (some ⟨B,0,none⟩),.slice (some ⟨g,go,none⟩) n cv,.int .i64 i,f 8,f 9,f 10,f 11,f 12,f 13,f 14,f 15,f 16,f 17,f 18,f 19,f 20,f 21,f 22,f 23,f 24,f 37,f 38,f 39,f 40,f 41,f 42,f 43,f 44,f 45,f 46,f 47,f 48,f 49,f 50,f 51,f 52,f 53,f 54,f 55,f 56,f 57,f 58,f 59,f 60,f 61,f 62,f 63,f 64,f 65,f 66,f 67,f 68,f 69,f 70,f 71,f 72,f 73,f 74,f 75,f 76,f 77,f 78,f 79,f 80]):=by
  show[f 0,f 1,f 2,f 3,f 4,f 5,f 6,f 7,f 8,f 9,f 10,f 11,f 12,f 13,f 14,f 15,f 16,f 17,f 18,f 19,f 20,f 21,f 22,f 23,f 24,f 37,f 38,f 39,f 40,f 41,f 42,f 43,f 44,f 45,f 46,f 47,f 48,f 49,f 50,f 51,f 52,f 53,f 54,f 55,f 56,f 57,f 58,f 59,f 60,f 61,f 62,f 63,f 64,f 65,f 66,f 67,f 68,f 69,f 70,f 71,f 72,f 73,f 74,f 75,f 76,f 77,f 78,f 79,f 80]=_
  rw[h5,h6,h7]
 have NB:=hhd nB;have NG:=hhd ng
 clear hK hB hr nB ng hg
 show Code.wp _ _ _ { tmps:=#[f 0,f 1,f 2,f 3,f 4,f 5,f 6,f 7,f 8,f 9,f 10,f 11,f 12,f 13,f 14,f 15,f 16,f 17,f 18,f 19,f 20,f 21,f 22,f 23,f 24,f 25,f 26,f 27,f 28,f 29,f 30,f 31,f 32,f 33,f 34,f 35,f 36,f 37,f 38,f 39,f 40,f 41,f 42,f 43,f 44,f 45,f 46,f 47,f 48,f 49,f 50,f 51,f 52,f 53,f 54,f 55,f 56,f 57,f 58,f 59,f 60,f 61,f 62,f 63,f 64,f 65,f 66,f 67,f 68,f 69,f 70,f 71,f 72,f 73,f 74,f 75,f 76,f 77,f 78,f 79,f 80],defers:=[] } _
 rw[h5,h6,h7]
 clear h5 h6 h7
 conv=>arg 2;whnf
 refine wp_plainQ ?_
 go_region_law (((refine step_append_lies _ (by rfl) _ _ 34 (by rfl) base 61 i0 zeroWrV 8 72 Tryz.underlying34 hi hz0 hz1 hz2 rfl (by decide) (.slice oa c oc) c cells (by rfl) ((HR.out.drew).alloc _) ⟨W.heap.size,0,none⟩ 1 1 [.bool false,.int .u64 u,.string pr,.int .u8 yk,.bool yb,.int .i64 yn,.string ys,.int .u64 yu] (by rfl) rfl (World.news_of_block (cs:=#[.bool false,.int .u64 u,.string pr,.int .u8 yk,.bool yb,.int .i64 yn,.string ys,.int .u64 yu]) (t:=61) (fr:=(0,0)) (heap_alloc_new W.drew _)) (by simp [Value.oneCell']) (by omega) (by unfold maxLen;omega) (by omega) (Nat.le_trans hb (Nat.le_trans (Nat.le_succ _) (Nat.le_of_eq (World.size_alloc W.drew _).symm))) (W.heap.size+1) (World.size_alloc W.drew _) ?_;intro g1 cap1 w3 hown3 hgrow3 hfresh3 hlt3;have hfa:Fr (fun q=>(Value.slice oa c oc).ownBlock=some q) _ w3:=(Fr.refl _ _).grown hgrow3 fun q e=>.inl e;have hfw:Fr (fun q=>(Value.slice oa c oc).ownBlock=some q) W w3:=((((Fr.refl N0 W).alloc (.cells #[.bool false,.int .u64 u,.string pr,.int .u8 yk,.bool yb,.int .i64 yn,.string ys,.int .u64 yu] 61)).drew).mono fun _ h=>h.elim).trans hfa fun q hq=>.inl hq;have hB3:w3.heap[B]?=some (.cells #[.int .u64 t,.slice oa c oc] 80 (0,0)):=(hfw.at (k:=B) NB.out lB).trans HB.out;obtain⟨m3,n3,l3⟩:=box_cells hB3)))
 all_goals
  have hpe:=heap_setCell_same w3 B 1 _ _ (Value.slice (some ⟨g1,0,none⟩) (c+1) cap1) hB3
  have hset:=(Fr.refl (fun j=>j=B) w3).setCell (p:=⟨B,1,none⟩) (.inl rfl) (Value.slice (some ⟨g1,0,none⟩) (c+1) cap1)
  have hgB:g1≠B:=fun e=>by
   rcases hfresh3 with h | h
   ·exact NB.out (e ▸ h)
   ·omega
  have hr3:=ownsRow_fr hown3 hset fun k hk e=>hgB ((Option.some.inj hk).trans e)
  refine cut_use (n:=81) (K:=K) _ rfl ?_
  exact HK.out _ _ _ _ (kpX_mk (Eq.trans rfl HKP.out.symm)) hpe hr3 ((hfw.mono fun k hk=>.inl (.inr hk)).setCell (.inl (.inl rfl)) _) fun q hq=>by
   obtain rfl:g1=q:=Option.some.inj hq
   rcases hfresh3 with e | e
   ·exact .inl e
   ·right;omega
def laterC(t:Int)(cs:List CmV):List CmV:=cs.filter fun c=>decide (t < c.time)
theorem mkTail{Pst:Ending→World→Prop}(W:World)(f:Nat→Value)(p base bc d:Nat)(s:Sch)(mk:Int)(vt vc ov:Value)(t:Int)(cs os0:List CmV)
  (h0:f 0 = .pointer (some ⟨p,0,none⟩)) (h1:f 1 = .int .u64 t) (h8:f 8=ov) (hp:W.heap[p]?=some (XCells s mk vt vc)) (hc:RowsK CmV.enc 2 W bc vc cs) (hcl:cs.length≤1000000000) (hol:os0.length≤1)
  (hr:W.ownsRow base 80 2 ov os0.length (os0.flatMap CmV.enc)) (hb:base≤W.heap.size) (hpb:p < base) (hbb:0 < cs.length→bc < base)
  (hpost:∀ w' vc',w'.heap[p]?=some (XCells s t vt vc')→w'.ownsRow base 80 2 vc' (os0 ++ laterC t cs).length ((os0 ++ laterC t cs).flatMap CmV.enc)→Fr (fun q=>q=p∨base≤q) W w'→Pst (.returned (.int .i64 0)) w') :
  Code.wp Tryz.prog (mkB 8) (bodyPost Tryz.prog Tryz.f80 Pst) (frA 81 f) W:=by
 obtain⟨i0,hi,hz0,hz1,hz2⟩:=info_parts insC_info
 obtain⟨ca,off,cc,rfl,r1,r2,r3,-,r5⟩:=hc
 obtain⟨n,hn⟩:∃ n,cs.length=n:=⟨_,rfl⟩
 have HN:=hhd hn;have HC:=hhd r5;have HP:=hhd hp;have HPOST:=hhd hpost
 rw[hn] at r1 r3 hcl hbb HP
 clear r5 hn hp hpost
 obtain⟨sp,st,sl,se,sm,so,sr,sc⟩:=s
 have hrow0:=hhd hr
 clear hr
 show Code.wp _ _ _ { tmps:=#[f 0,f 1,f 2,f 3,f 4,f 5,f 6,f 7,f 8,f 9,f 10,f 11,f 12,f 13,f 14,f 15,f 16,f 17,f 18,f 19,f 20,f 21,f 22,f 23,f 24,f 25,f 26,f 27,f 28,f 29,f 30,f 31,f 32,f 33,f 34,f 35,f 36,f 37,f 38,f 39,f 40,f 41,f 42,f 43,f 44,f 45,f 46,f 47,f 48,f 49,f 50,f 51,f 52,f 53,f 54,f 55,f 56,f 57,f 58,f 59,f 60,f 61,f 62,f 63,f 64,f 65,f 66,f 67,f 68,f 69,f 70,f 71,f 72,f 73,f 74,f 75,f 76,f 77,f 78,f 79,f 80],defers:=[] } _
 rw[h0,h1,h8]
 clear h0 h1 h8
 conv=>arg 2;whnf
 go_wp2_with fail
 go_loopw [8,9] (fun ov jv wr=>∃ (j d:Nat) (os:List CmV),j≤n∧jv = .int .i64 j∧Hid (os=os0 ++ laterC t (cs.take j))∧Hid (d=os.length)∧d≤j+1∧Hid (wr.ownsRow base 80 2 ov d (os.flatMap CmV.enc))∧Hid (Fr (fun q=>base≤q) W wr)) (fun _ jv _=>n - (intOf jv).toNat)
 case atStart=>exact⟨0,os0.length,os0,Nat.zero_le _,by first | rfl | go_num,hhd (by simp [laterC]),hhd rfl,by omega,hrow0.out,Fr.refl _ _⟩
 case round=>
  obtain⟨j,d,os,hj,rfl,hos,hd,hdj,hrow,hfr⟩:=hrel
  obtain⟨oa,oc,rfl⟩:=row_form hrow.out
  have hpr:=(hfr.out.at (k:=p) (by omega) (lt_of_block HP.out)).trans HP.out
  obtain⟨mp,np,lp⟩:=box_cells hpr
  have hzr:=hfr.out.size
  by_cases hlt:j < n
  ·obtain rfl:=r3 (by omega)
   have hx:j < cs.length:=by rw[HN.out];exact hlt
   have hbb':=hbb (by omega)
   have e1:=hfr.out.cell (p:=⟨bc,off+j * 2+0,none⟩) (fun h=>by have:base≤bc:=h;omega) (HC.out j hx 0 (by decide))
   have e2:=hfr.out.cell (p:=⟨bc,off+j * 2+1,none⟩) (fun h=>by have:base≤bc:=h;omega) (HC.out j hx 1 (by decide))
   have hts:=List.take_succ_eq_append_getElem hx
   obtain⟨xe,hx'⟩:∃ xe,cs[j]=xe:=⟨_,rfl⟩
   rw[hx'] at e1 e2 hts
   have hlat:laterC t (cs.take (j+1))=laterC t (cs.take j) ++ if t < xe.time then [xe] else []:=by
    unfold laterC
    rw[hts,List.filter_append]
    by_cases h:t < xe.time <;> simp [h]
   have hji:(j:Int) < (n:Int):=by omega
   obtain⟨x,hxx⟩:∃ x,x=xe:=⟨_,rfl⟩
   have HXX:=hhd hxx
   rw[← hxx] at e1 e2
   have HL:=hhd hlat;have HOS:=hhd hos.out;have HD:=hhd hd.out;have HFR:=hhd hfr.out
   have hrw:=hrow.out
   clear hts hx' hx hlat hos hd hfr hrow hpr hxx
   obtain⟨xt,xa,xn,xc⟩:=x
   have hxt:xe.time=xt:=by rw[← HXX.out]
   have hxn:xe.enc = [.int .u64 xt,.slice xa xn xc]:=by rw[← HXX.out];rfl
   have HXT:=hhd hxt;have HXN:=hhd hxn
   clear hxt hxn
   simp only [CmV.enc,List.getElem?_cons_zero,List.getElem?_cons_succ,Nat.add_zero] at e1 e2
   by_cases htx:t < xt
   ·go_wp2_with (at_builtin;go_loud (refine wpList_append_lies _ rfl _ _ 36 rfl (base) 80 i0 (.agg #[.int .u64 0,.slice none 0 0]) 2 32 Tryz.underlying36 hi hz0 hz1 hz2 rfl (by decide) (.slice oa d oc) (d) _ rfl (hrw.alloc _) ⟨wr.heap.size,0,none⟩ 1 1 ([.int .u64 xt,.slice xa xn xc]) rfl rfl (World.news_of_block (cs:=([.int .u64 xt,.slice xa xn xc]).toArray) (t:=80) (fr:=(0,0)) (heap_alloc_new wr _)) (by simp [Value.oneCell']) (by omega) (by unfold maxLen;omega) (by omega) (by simp;omega) (wr.heap.size+1) (by simp) ?_);intro g1 cap1 w3 hown3 hgrow3 hfresh3 hlt3)
    go_roundw
    case rel=>
     have hfa:Fr (fun j=>(Value.slice oa d oc).ownBlock=some j) _ w3:=(Fr.refl _ _).grown hgrow3 fun j e=>.inl e
     exact⟨j+1,d+1,os ++ [xe],by omega,by first | rfl | go_num,hhd (by rw[HOS.out,HL.out,if_pos (by rw[HXT.out];exact htx),List.append_assoc]),hhd (by rw[HD.out];simp),by omega,hhd (by rw[List.flatMap_append];simp only [List.flatMap_cons,List.flatMap_nil,List.append_nil,HXN.out];exact hown3),(HFR.out.alloc _).trans hfa fun j hj=>.inl (ownsRow_lt hrw _ hj).1⟩
    case measure=>simp [intOf];omega
   ·go_wp2
    go_roundw
    case rel=>exact⟨j+1,d,os,by omega,by first | rfl | go_num,hhd (by rw[HOS.out,HL.out,if_neg (by rw[HXT.out];exact htx),List.append_nil]),hhd HD.out,by omega,hhd hrw,HFR.out⟩
    case measure=>simp [intOf];omega
  ·obtain rfl:j=n:=by omega
   have hfull:cs.take j=cs:=by rw[← HN.out,List.take_length]
   have hos2:=hos.out
   rw[hfull] at hos2
   have HOS:=hhd hos2;have HD:=hhd hd.out;have HFR:=hhd hfr.out;have HPR:=hhd hpr
   have hrw:=hhd hrow.out
   clear hos hos2 hfull hd hfr hrow hpr
   have hji:¬(j:Int) < (j:Int):=by omega
   go_wp2
   have hp1:=heap_setCell_same wr p 10 _ _ (Value.slice oa d oc) HPR.out
   have hp2:=heap_setCell_same _ p 8 _ _ (Value.int .u64 t) hp1
   have hset:=((Fr.refl (fun k=>k=p) wr).setCell (p:=⟨p,10,none⟩) (.inl rfl) (Value.slice oa d oc)).setCell (p:=⟨p,8,none⟩) (.inl rfl) (Value.int .u64 t)
   have hr2:=ownsRow_fr hrw.out hset fun k hk e=>by have:=(ownsRow_lt hrw.out _ hk).1;omega
   rw[HOS.out] at hr2
   rw[HD.out,HOS.out] at hp2 hset ⊢
   rw[HD.out,HOS.out] at hr2
   exact HPOST.out _ _ hp2 hr2 ((HFR.out.mono fun _ h=>.inl (.inr h)).trans hset fun k hk=>.inl (.inl hk))
end
section
open Go.RowKit Go.Shelf Go.Maps Go.Sort
attribute [local go_sem] Oper.semAt_some
attribute [local irreducible] wpQuiet
noncomputable def markPL(l:PL)(t:Int)(trs:List (Int × Val)):PL:={ l with marked:=t,commits:=(if trs = [] then [] else [⟨t,trs.map (wrT l.s.pred)⟩]) ++ l.commits.filter fun c=>decide (t < c.time) }
theorem ParC.append{P:CmV→Cm→Prop}:∀ {l l':List CmV} {m m':List Cm},ParC P l m→ParC P l' m'→ParC P (l ++ l') (m ++ m')
 | _,_,_,_,.nil,h=>h
 | _,_,_,_,.cons h t,h'=>.cons h (t.append h')
theorem ParC.later{P:CmV→Cm→Prop}(hP:∀ x y,P x y→x.time=y.time)(t:Int):∀ {l:List CmV} {m:List Cm},ParC P l m→ParC P (laterC t l) (m.filter fun c=>decide (t < c.time))
 | _,_,.nil=>.nil
 | _,_,.cons (x:=x) (y:=y) h h'=>by
  have e:=hP _ _ h
  unfold laterC
  rw[List.filter_cons,List.filter_cons]
  by_cases hx:t < x.time
  ·rw[if_pos (by simpa using hx),if_pos (by simpa [← e] using hx)]
   exact .cons h (h'.later hP t)
  ·rw[if_neg (by simpa using hx),if_neg (by simpa [← e] using hx)]
   exact h'.later hP t
def XMarkPost(W:World)(R:Nat→Prop)(p:Nat)(r:PL)(e:Ending)(w':World):Prop:=
 e = .returned (.int .i64 0)∧IsXL w' (fun k=>R k∨W.heap.size≤k) p r∧Fr (fun k=>k=p) W w'
theorem xmark_done{W w':World}{R:Nat→Prop}{p:Nat}{l:PL}{t:Int}{trs:List (Int × Val)}{cs os0:List CmV}{vt vc':Value}(hp:R p)(hpl:p < W.heap.size)
  (hvt:W.ownsRow 0 33 1 vt l.times.length (l.times.flatMap enc4)∧∀ k,vt.ownBlock=some k→R k∧k≠p)
  (hcs:ParC (fun x y=>x.time=y.time∧∃ b,Wrs W b (.slice x.a x.n x.c) y.writes∧(0 < y.writes.length→R b∧b≠p)) cs l.commits)
  (ho:ParC (fun x y=>x.time=y.time∧w'.ownsRow W.heap.size 61 8 (.slice x.a x.n x.c) y.writes.length (y.writes.flatMap Wr.enc)) os0 (if trs = [] then [] else [⟨t,trs.map (wrT l.s.pred)⟩]))
  (h1:w'.heap[p]?=some (XCells l.s t vt vc')) (h3:w'.ownsRow W.heap.size 80 2 vc' (os0 ++ laterC t cs).length ((os0 ++ laterC t cs).flatMap CmV.enc)) (hf:Fr (fun k=>k=p) W w') :
  IsXL w' (fun k=>R k∨W.heap.size≤k) p (markPL l t trs):=by
 have hpar:ParC (fun x y=>x.time=y.time∧∃ b,Wrs w' b (.slice x.a x.n x.c) y.writes∧(0 < y.writes.length→(R b∨W.heap.size≤b)∧b≠p)) (os0 ++ laterC t cs) (markPL l t trs).commits:=by
  refine ParC.append (ho.mono ?_) ((hcs.later (fun _ _ h=>h.1) t).mono ?_)
  ·rintro x y ⟨e,hr⟩
   obtain⟨b,hb,hw⟩:=rowsK_of_row (enc:=Wr.enc) (n:=8) (fun _=>rfl) (by decide) hr
   exact⟨e,b,hw,fun _=>⟨.inr hb,by omega⟩⟩
  ·rintro x y ⟨e,b,hb,hr⟩
   exact⟨e,b,rowsK_frT (enc:=Wr.enc) (n:=8) (fun _=>rfl) hb hf fun h0=>(hr h0).2,fun h0=>⟨.inl (hr h0).1,(hr h0).2⟩⟩
 refine⟨vt,vc',_,h1,.inl hp,⟨ownsRow_fr hvt.1 hf fun k hk e=>(hvt.2 k hk).2 e,fun k hk=>⟨.inl (hvt.2 k hk).1,(hvt.2 k hk).2⟩⟩,⟨ownsRow_base h3 (Nat.zero_le _),hpar.length,fun k hk=>?_⟩,fun i hi hi'=>hpar.get i hi hi'⟩
 have:=(ownsRow_lt h3 k hk).1
 exact⟨.inr this,by omega⟩
theorem mk_snoc{q:ByteArray}{L:List (Int × Val)}(x:Int × Val):(L.map (wrT q)).flatMap Wr.enc ++(wrT q x).enc=((L ++ [x]).map (wrT q)).flatMap Wr.enc:=by simp
theorem r18Mark_any(W:World)(R:Nat→Prop)(p:Nat)(l:PL)(N:Nat)(h:IsXL W R p l)(hl:l.AtOk N)(hN:N≤900000000)(hrs:RisesBy Cm.time l.commits)(t:Int)(ht:¬ t < l.marked)(ks:List Int)(hks:NodesOf (haveAt l t) ks) :
  Calls Tryz.prog 80 #[.pointer (some ⟨p,0,none⟩),.int .u64 t] W (XMarkPost W R p (markPL l t (trsOf (haveAt l t) ks))):=by
 obtain⟨i0,hi,hz0,hz1,hz2⟩:=info_parts insC_info
 have h0:=h
 obtain⟨vt,vc,cs,h1,hp,hvt,⟨h5,h6,h7⟩,h8⟩:=h
 have hpl:=lt_of_block h1
 have hcs:ParC (fun x y=>x.time=y.time∧∃ b,Wrs W b (.slice x.a x.n x.c) y.writes∧(0 < y.writes.length→R b∧b≠p)) cs l.commits:=parC_of h6 h8
 obtain⟨bc,-,hrc⟩:=rowsK_of_row (enc:=CmV.enc) (n:=2) insC_len (by decide) h5
 have hbcl:0 < cs.length→bc < W.heap.size:=fun h0=>by
  obtain⟨a,off,cap,-,-,-,-,-,g⟩:=hrc
  exact lt_of_cell (p:=⟨bc,off+0 * 2+0,none⟩) (g 0 h0 0 (by decide))
 have hclen:cs.length≤1000000000:=by have:=hl.commits;omega
 have htr:∀ W',Fr N0 W W'→Calls Tryz.prog 139 #[.pointer (some ⟨p,0,none⟩),.int .u64 t] W' fun e w'=>∃ v',e = .returned v'∧w'.ownsRow W'.heap.size 59 7 v' (trsOf (haveAt l t) ks).length ((trsOf (haveAt l t) ks).flatMap (trE l.s.pred))∧Fr N0 W' w':=fun W' hf=>by
  obtain⟨a,bb,off,cap,hx⟩:=(h0.fr hf fun _ _ h=>h).read
  exact xtriples_any W' p l a bb off cap N hx hl hN hrs t ks hks
 have htl:(trsOf (haveAt l t) ks).length≤N:=trsOf_len hl t hks.rises
 obtain⟨trs,htrs⟩:∃ trs,trsOf (haveAt l t) ks=trs:=⟨_,rfl⟩
 rw[htrs] at htl ⊢
 simp only [htrs] at htr
 obtain⟨mk,hmk⟩:∃ mk,l.marked=mk:=⟨_,rfl⟩
 rw[hmk] at h1 ht
 obtain⟨Pst,hPst⟩:∃ Pst,XMarkPost W R p (markPL l t trs)=Pst:=⟨_,rfl⟩
 have hpost:∀ w' vc' os0,ParC (fun x y=>x.time=y.time∧w'.ownsRow W.heap.size 61 8 (.slice x.a x.n x.c) y.writes.length (y.writes.flatMap Wr.enc)) os0 (if trs = [] then [] else [⟨t,trs.map (wrT l.s.pred)⟩])→w'.heap[p]?=some (XCells l.s t vt vc')→w'.ownsRow W.heap.size 80 2 vc' (os0 ++ laterC t cs).length ((os0 ++ laterC t cs).flatMap CmV.enc)→Fr (fun k=>k=p) W w'→Pst (.returned (.int .i64 0)) w':=fun w' vc' os0 ho h1 h3 hf=>by
  rw[← hPst]
  exact⟨rfl,xmark_done hp hpl hvt hcs ho h1 h3 hf,hf⟩
 rw[hPst]
 obtain⟨pr,hpr⟩:∃ pr,l.s.pred=pr:=⟨_,rfl⟩
 obtain⟨se,hse⟩:∃ se,l.s=se:=⟨_,rfl⟩
 simp only [hpr] at htr hpost
 simp only [hse] at hpost h1
 obtain⟨W0,hW0⟩:∃ W0,W.alloc (.cells #[.int .u64 t,.slice none 0 0] 80)=W0:=⟨_,rfl⟩
 have hf0:Fr N0 W W0:=by rw[← hW0];exact(Fr.refl _ _).alloc _
 have hB:W0.heap[W.heap.size]?=some (.cells #[.int .u64 t,.slice none 0 0] 80 (0,0)):=by rw[← hW0];exact World.alloc_heap_new W _
 have HTR:=hhd htr;have HPOST:=hhd hpost;have HP1:=hhd h1;have HRC:=hhd hrc;have HF0:=hhd hf0;have HB:=hhd hB;have HBCL:=hhd hbcl
 obtain⟨m,n,lp⟩:=box_cells h1
 clear h0 h1 hp hvt h5 h6 h7 h8 hcs hrc hbcl htr hpost hPst hf0 hB hl hrs hks htrs hmk hpr hse
 go_enter Tryz.func80,Tryz.ntmps80
 go_wp2_with fail
 refine(HTR.out _ HF0.out).mono ?_
 rintro e w1 ⟨v1,rfl,hr1,hf1⟩
 obtain⟨g,hg,hrk⟩:=rowsK_of_row (enc:=trE pr) (n:=7) (trE_len pr) (by decide) hr1
 obtain⟨va,go,vcp,rfl,s1,s2,s3,-,s5⟩:=hrk
 obtain⟨nt,hnt⟩:∃ nt,trs.length=nt:=⟨_,rfl⟩
 have HNT:=hhd hnt;have HS5:=hhd s5;have HF1:=hhd (HF0.out.then0 hf1);have HF01:=hhd hf1
 have hB1:=(hf1.at (k:=W.heap.size) id (lt_of_block HB.out)).trans HB.out
 have hB1l:=lt_of_block hB1
 have HB1:=hhd hB1
 have hlB:=lt_of_block HB.out
 rw[hnt] at s1 s3 htl
 simp only [hnt]
 clear hr1 s5 hnt hf1 hB1 HB HTR m n
 go_wp2_with fail
 rename_i K1 hK1
 have HK1:=hhd hK1
 clear hK1
 go_loopw [7] (fun iv wr=>∃ (i:Nat) (oa:Option Addr) (oc:Nat),i≤nt∧iv = .int .i64 i∧Hid (wr.heap[W.heap.size]?=some (.cells #[.int .u64 t,.slice oa i oc] 80 (0,0)))∧Hid (wr.ownsRow w1.heap.size 61 8 (.slice oa i oc) i (((trs.take i).map (wrT pr)).flatMap Wr.enc))∧Hid (Fr (fun q=>q=W.heap.size∨w1.heap.size≤q) w1 wr)) (fun iv _=>nt - (intOf iv).toNat)
 case atStart=>exact⟨0,none,0,Nat.zero_le _,by first | rfl | go_num,HB1.out,World.ownsRow_nil _ _ _ _,Fr.refl _ _⟩
 case round=>
  obtain⟨i,oa,oc,hi',rfl,hb,hrow,hfr⟩:=hrel
  by_cases hlt:i < nt
  ·obtain rfl:=s3 (by omega)
   have hix:i < trs.length:=by rw[HNT.out];exact hlt
   have hgl:g < w1.heap.size:=lt_of_cell (HS5.out i hix 0 (by decide))
   have htp:∀ j,j < 7→wr.cell? ⟨g,go+i * 7+j,none⟩=(trE pr (trs[i].1,trs[i].2))[j]?:=fun j hj=>by
    have h1:=HS5.out i hix j hj
    rw[← h1]
    exact cell_same (p:=⟨g,go+i * 7+j,none⟩) (hfr.out.at (k:=g) (by omega) hgl)
   have hsn:=mk_snoc (q:=pr) (L:=trs.take i) trs[i]
   rw[← List.take_succ_eq_append_getElem hix] at hsn
   have hlt2:=ownsRow_lt hrow.out
   have nB:(Value.slice oa i oc).ownBlock≠some W.heap.size:=fun e=>by have:=(hlt2 _ e).1;omega
   have ng:(Value.slice oa i oc).ownBlock≠some g:=fun e=>by have:=(hlt2 _ e).1;omega
   have hi1:(i:Int) < (nt:Int):=by omega
   have HTP:=hhd htp;have HSN:=hhd hsn;have HBW:=hhd hb.out;have HROW:=hhd hrow.out;have HFR:=hhd hfr.out;have HNB:=hhd nB;have HNG:=hhd ng
   clear htp hsn hb hrow hfr nB ng hlt2
   refine seq_split fun K2 hK2=>?_
   have HK2:=hhd hK2
   clear hK2
   go_wp2_with fail
   refine HK2.out _ _ ?_
   refine seq_split fun Kc hKc=>?_
   refine wp_block ?_
   refine wp_frA (n:=81) _ rfl ?_
   refine wp_inBS (mkR9 (K:=Kc) wr _ W.heap.size w1.heap.size g go i nt vcp i oc oa t pr trs[i].2 trs[i].1 _ rfl rfl rfl hlt HBW.out HTP.out HROW.out HFR.out.size (by omega) HNB.out HNG.out fun f' W' oa' oc' kp hB' hP hF hN=>?_)
   refine hKc _ _ ?_
   have z0:=kp 0 (by decide);have z1:=kp 1 (by decide);have z2:=kp 2 (by decide);have z3:=kp 3 (by decide);have z4:=kp 4 (by decide);have z5:=kp 5 (by decide);have z6:=kp 6 (by decide);have z7:=kp 7 (by decide);have z8:=kp 8 (by decide);have z9:=kp 9 (by decide);have z10:=kp 10 (by decide);have z11:=kp 11 (by decide);have z12:=kp 12 (by decide);have z13:=kp 13 (by decide);have z14:=kp 14 (by decide);have z15:=kp 15 (by decide);have z16:=kp 16 (by decide);have z17:=kp 17 (by decide);have z18:=kp 18 (by decide);have z19:=kp 19 (by decide);have z20:=kp 20 (by decide);have z21:=kp 21 (by decide);have z22:=kp 22 (by decide);have z23:=kp 23 (by decide);have z24:=kp 24 (by decide);have z37:=kp 37 (by decide);have z38:=kp 38 (by decide);have z39:=kp 39 (by decide);have z40:=kp 40 (by decide);have z41:=kp 41 (by decide);have z42:=kp 42 (by decide);have z43:=kp 43 (by decide);have z44:=kp 44 (by decide);have z45:=kp 45 (by decide);have z46:=kp 46 (by decide);have z47:=kp 47 (by decide);have z48:=kp 48 (by decide);have z49:=kp 49 (by decide);have z50:=kp 50 (by decide);have z51:=kp 51 (by decide);have z52:=kp 52 (by decide);have z53:=kp 53 (by decide);have z54:=kp 54 (by decide);have z55:=kp 55 (by decide);have z56:=kp 56 (by decide);have z57:=kp 57 (by decide);have z58:=kp 58 (by decide);have z59:=kp 59 (by decide);have z60:=kp 60 (by decide);have z61:=kp 61 (by decide);have z62:=kp 62 (by decide);have z63:=kp 63 (by decide);have z64:=kp 64 (by decide);have z65:=kp 65 (by decide);have z66:=kp 66 (by decide);have z67:=kp 67 (by decide);have z68:=kp 68 (by decide);have z69:=kp 69 (by decide);have z70:=kp 70 (by decide);have z71:=kp 71 (by decide);have z72:=kp 72 (by decide);have z73:=kp 73 (by decide);have z74:=kp 74 (by decide);have z75:=kp 75 (by decide);have z76:=kp 76 (by decide);have z77:=kp 77 (by decide);have z78:=kp 78 (by decide);have z79:=kp 79 (by decide);have z80:=kp 80 (by decide)
   rw[show(trs[i].1,trs[i].2)=trs[i] from rfl,HSN.out] at hP
   have HP:=hhd hP;have HF:=hhd hF;have HBP:=hhd hB'
   clear kp hP hF hN hKc hB'
   obtain⟨f,hf⟩:∃ f,f=f':=⟨_,rfl⟩
   subst hf
   show Code.wp _ _ _ { tmps:=#[f 0,f 1,f 2,f 3,f 4,f 5,f 6,f 7,f 8,f 9,f 10,f 11,f 12,f 13,f 14,f 15,f 16,f 17,f 18,f 19,f 20,f 21,f 22,f 23,f 24,f 25,f 26,f 27,f 28,f 29,f 30,f 31,f 32,f 33,f 34,f 35,f 36,f 37,f 38,f 39,f 40,f 41,f 42,f 43,f 44,f 45,f 46,f 47,f 48,f 49,f 50,f 51,f 52,f 53,f 54,f 55,f 56,f 57,f 58,f 59,f 60,f 61,f 62,f 63,f 64,f 65,f 66,f 67,f 68,f 69,f 70,f 71,f 72,f 73,f 74,f 75,f 76,f 77,f 78,f 79,f 80],defers:=[] } _
   rw[z0,z1,z2,z3,z4,z5,z6,z7,z8,z9,z10,z11,z12,z13,z14,z15,z16,z17,z18,z19,z20,z21,z22,z23,z24,z37,z38,z39,z40,z41,z42,z43,z44,z45,z46,z47,z48,z49,z50,z51,z52,z53,z54,z55,z56,z57,z58,z59,z60,z61,z62,z63,z64,z65,z66,z67,z68,z69,z70,z71,z72,z73,z74,z75,z76,z77,z78,z79,z80]
   clear z0 z1 z2 z3 z4 z5 z6 z7 z8 z9 z10 z11 z12 z13 z14 z15 z16 z17 z18 z19 z20 z21 z22 z23 z24 z37 z38 z39 z40 z41 z42 z43 z44 z45 z46 z47 z48 z49 z50 z51 z52 z53 z54 z55 z56 z57 z58 z59 z60 z61 z62 z63 z64 z65 z66 z67 z68 z69 z70 z71 z72 z73 z74 z75 z76 z77 z78 z79 z80
   go_wp2_with fail
   exact⟨⟨i+1,oa',oc',by omega,by first | rfl | go_num,hhd HBP.out,hhd HP.out,hhd (HFR.out.trans HF.out fun q hq=>.inl (hq.imp id fun hq=>(ownsRow_lt HROW.out _ hq).1))⟩,by simp [intOf];omega⟩
  ·obtain rfl:i=nt:=by omega
   have hfull:trs.take i=trs:=by rw[← HNT.out,List.take_length]
   have hrw:=hrow.out
   rw[hfull] at hrw
   have HBW:=hhd hb.out;have HROW:=hhd hrw;have HFR:=hhd hfr.out
   have hi1:¬(i:Int) < (i:Int):=by omega
   obtain⟨mw,nw,lw⟩:=box_cells hb.out
   clear hb hrow hrw hfr hfull
   go_wp2_with fail
   refine HK1.out _ _ ?_
   refine seq_split fun K2 hK2=>?_
   have HK2:=hhd hK2
   clear hK2
   go_wp2_with fail
   refine HK2.out _ _ ?_
   refine seq_split fun K3 hK3=>?_
   have HK3:=hhd hK3
   clear hK3
   have hFW1:Fr N0 W wr:=(HF1.out.trans HFR.out fun q hq=>.inr (hq.elim (fun e=>by omega) fun e=>Nat.le_trans HF1.out.size e))
   have hzz1:=HF1.out.size
   have hzr:=HFR.out.size
   have hrow2:wr.ownsRow W.heap.size 61 8 (.slice oa i oc) i ((trs.map (wrT pr)).flatMap Wr.enc):=ownsRow_base HROW.out hzz1
   have HFW1:=hhd hFW1;have HROW2:=hhd hrow2
   have hpw:=(hFW1.at (k:=p) id (lt_of_block HP1.out)).trans HP1.out
   have HPW:=hhd hpw
   clear hFW1 hrow2 hpw
   have htail:∀ (os0:List CmV) (f:Nat→Value) W' (ov:Value),os0.length≤1→ParC (fun x y=>x.time=y.time∧wr.ownsRow W.heap.size 61 8 (.slice x.a x.n x.c) y.writes.length (y.writes.flatMap Wr.enc)) os0 (if trs = [] then [] else [⟨t,trs.map (wrT pr)⟩])→f 0 = .pointer (some ⟨p,0,none⟩)→f 1 = .int .u64 t→f 8=ov→W'.ownsRow wr.heap.size 80 2 ov os0.length (os0.flatMap CmV.enc)→Fr (fun q=>wr.heap.size≤q) wr W'→Code.wp Tryz.prog (mkB 8) (bodyPost Tryz.prog Tryz.f80 Pst) (frA 81 f) W':=fun os0 f W' ov hos hpc h0 h1 h8 hr hf=>by
    have hfx:Fr N0 wr W':=fr_ge hf (Nat.le_refl _)
    refine mkTail W' f p wr.heap.size bc i se mk vt vc ov t cs os0 h0 h1 h8 ((hfx.at (k:=p) id (lt_of_block HPW.out)).trans HPW.out) (RowsK.fr0 (enc:=CmV.enc) (n:=2) (fun _=>rfl) HRC.out (HFW1.out.then0 hfx)) hclen hos hr hf.size (by omega) (fun h=>by have:=HBCL.out h;omega) fun w' vc' hp' hr' hF'=>?_
    have hFF:Fr (fun q=>q=p∨wr.heap.size≤q) wr w':=(hf.mono fun q h=>.inl (.inr h)).trans hF' fun q h=>.inl h
    refine HPOST.out w' vc' os0 (hpc.mono fun x y hxy=>⟨hxy.1,?_⟩) hp' (ownsRow_base hr' (by omega)) ((HFW1.out.mono fun _ h=>h.elim:Fr (fun k=>k=p) W wr).trans hFF fun q h=>h.imp id fun h=>by omega)
    exact ownsRow_fr hxy.2 hFF fun k hk e=>by
     have h3:=ownsRow_lt hxy.2 k hk
     omega
   have HTAIL:=hhd htail
   clear htail
   by_cases hn0:i=0
   ·subst hn0
    have htn:trs = []:=List.eq_nil_of_length_eq_zero HNT.out
    go_wp2_with fail
    refine HK3.out _ _ ?_
    refine wp_frA (n:=81) _ rfl ?_
    refine HTAIL.out [] _ _ _ (by simp) ?_ rfl rfl rfl (World.ownsRow_nil _ _ _ _) (Fr.refl _ _)
    rw[if_pos htn]
    exact .nil
   ·have htn:¬ trs = []:=fun e=>hn0 (by have:=HNT.out;rw[e] at this;exact this.symm)
    have hi0:(0:Int) < (i:Int):=by omega
    obtain⟨b0,hb0⟩:∃ b0,wr.heap.size=b0:=⟨_,rfl⟩
    have HB0:=hhd hb0
    have hb0':b0≤wr.heap.size:=Nat.le_of_eq hb0.symm
    have hnil:wr.ownsRow b0 80 2 (.slice none 0 0) 0 []:=World.ownsRow_nil _ _ _ _
    clear hb0
    go_wp2_with (at_builtin;go_loud (refine wpList_append_lies _ rfl _ _ 36 rfl (b0) 80 i0 (.agg #[.int .u64 0,.slice none 0 0]) 2 32 Tryz.underlying36 hi hz0 hz1 hz2 rfl (by decide) (.slice none 0 0) (0) _ rfl (hnil.alloc _) ⟨wr.heap.size,0,none⟩ 1 1 ([.int .u64 t,.slice oa i oc]) rfl rfl (World.news_of_block (cs:=([.int .u64 t,.slice oa i oc]).toArray) (t:=80) (fr:=(0,0)) (heap_alloc_new wr _)) (by simp [Value.oneCell']) (by omega) (by unfold maxLen;omega) (by omega) (by simp;omega) (wr.heap.size+1) (by simp) ?_);intro g1 cap1 w3 hown3 hgrow3 hfresh3 hlt3)
    have hfa:Fr (fun j=>(Value.slice none 0 0).ownBlock=some j) _ w3:=(Fr.refl _ _).grown hgrow3 fun j e=>.inl e
    refine HK3.out _ _ ?_
    refine wp_frA (n:=81) _ rfl ?_
    refine HTAIL.out [⟨t,oa,i,oc⟩] _ _ _ (by simp) ?_ rfl rfl rfl ?_ (((Fr.refl _ wr).alloc _).trans hfa fun j hj=>by cases hj)
    ·rw[if_neg htn]
     refine .cons ⟨rfl,?_⟩ .nil
     show wr.ownsRow W.heap.size 61 8 (.slice oa i oc) (trs.map (wrT pr)).length _
     rw[List.length_map,HNT.out]
     exact HROW2.out
    ·rw[HB0.out];simpa [CmV.enc] using hown3
end
end Go.Proofs.YtefepfiijoafbaaGreat
