/- XAdd1 XAdd2 XAddP XAdd -/
import Derived.Deep.RegionLaw
import Derived.Test.YtefepfiijoafbaaGreatQXAdd0
import Derived.Test.YtefepfiijoafbaaGreatQAddY
set_option linter.unusedVariables false
set_option linter.unusedSimpArgs false
set_option maxRecDepth 100000
set_option maxHeartbeats 8000000
namespace Go.Proofs.YtefepfiijoafbaaGreat
section
open Go.RowKit Go.Shelf Go.Maps
attribute [local go_sem] Oper.semAt_some
attribute [local irreducible] wpQuiet
noncomputable def axB(n:Nat):Code:=lvSuf n ((Tryz.f78.body).getD .skip)
abbrev BoxF2(W0:World)(B:Nat)(cs:Array Value)(C:Nat)(ds:Array Value)(W:World):Prop:=(∀ i,W.cell? ⟨B,i,none⟩=cs[i]?)∧(∀ i,W.frozen? ⟨B,i,none⟩=false)∧(∀ i,W.cell? ⟨C,i,none⟩=ds[i]?)∧B < W.heap.size∧C < W.heap.size∧Fr N0 W0 W
theorem boxF2_keep{W0:World}{B C:Nat}{cs ds:Array Value}{W W':World}(hf:Fr N0 W W')(h:BoxF2 W0 B cs C ds W):BoxF2 W0 B cs C ds W':=
 ⟨fun i=>(cell_same (p:=⟨B,i,none⟩) (hf.at id h.2.2.2.1)).trans (h.1 i),fun i=>(frozen_same (p:=⟨B,i,none⟩) (hf.at id h.2.2.2.1)).trans (h.2.1 i),fun i=>(cell_same (p:=⟨C,i,none⟩) (hf.at id h.2.2.2.2.1)).trans (h.2.2.1 i),Nat.lt_of_lt_of_le h.2.2.2.1 hf.size,Nat.lt_of_lt_of_le h.2.2.2.2.1 hf.size,h.2.2.2.2.2.then0 hf⟩
section
variable {K:Act→World→Prop} {Q:Exit→Act→World→Prop} (W:World) (f:Nat→Value) (p B:Nat) (sp:ByteArray) (st:Int) (sl se sm so sr sc:Bool) (mk:Int) (ta:Option Addr) (tn tc:Nat) (ca:Option Addr) (cn cc:Nat) (t:Int) (wa:Option Addr) (wn wc:Nat)
 (h0:f 0 = .pointer (some ⟨p,0,none⟩)) (h3:f 3 = .pointer (some ⟨B,0,none⟩)) (hb:BoxF2 W p #[Value.string sp,Value.int .u8 st,Value.bool sl,Value.bool se,Value.bool sm,Value.bool so,Value.bool sr,Value.bool sc,Value.int .u64 mk,Value.slice ta tn tc,Value.slice ca cn cc] B #[Value.int .u64 t,Value.slice wa wn wc] W)
include h0 h3 hb
theorem axR1(E:Int)(hF:Calls Tryz.prog 133 #[.agg #[Value.string sp,Value.int .u8 st,Value.bool sl,Value.bool se,Value.bool sm,Value.bool so,Value.bool sr,Value.bool sc],.agg #[Value.int .u64 t,Value.slice wa wn wc]] W.drew fun e w'=>(∃ a:Int,e = .returned (.tuple #[.int .i64 a,.int .i64 E]))∧Fr N0 W.drew w')
  (hK:∀ f' W' (a:Int),f' 0 = .pointer (some ⟨p,0,none⟩)→f' 3 = .pointer (some ⟨B,0,none⟩)→f' 6 = .int .i64 a→f' 7 = .int .i64 E→Fr N0 W W'→K (frA 64 f') W') :
  Code.wp Tryz.prog (lvFst (axB 1)) (Exit.then K Q) (frA 64 f) W:=by
 have HB:=hhd (boxF2_keep (Fr.refl N0 W).drew hb)
 have HK:=hhd hK
 have HF:=hhd hF
 clear hF
 clear hK hb
 show Code.wp _ _ _ { tmps:=#[f 0,f 1,f 2,f 3,f 4,f 5,f 6,f 7,f 8,f 9,f 10,f 11,f 12,f 13,f 14,f 15,f 16,f 17,f 18,f 19,f 20,f 21,f 22,f 23,f 24,f 25,f 26,f 27,f 28,f 29,f 30,f 31,f 32,f 33,f 34,f 35,f 36,f 37,f 38,f 39,f 40,f 41,f 42,f 43,f 44,f 45,f 46,f 47,f 48,f 49,f 50,f 51,f 52,f 53,f 54,f 55,f 56,f 57,f 58,f 59,f 60,f 61,f 62,f 63],defers:=[] } _
 rw[h0,h3]
 clear h0 h3
 conv=>arg 2;whnf
 go_region_held3 (BoxF2 W p #[Value.string sp,Value.int .u8 st,Value.bool sl,Value.bool se,Value.bool sm,Value.bool so,Value.bool sr,Value.bool sc,Value.int .u64 mk,Value.slice ta tn tc,Value.slice ca cn cc] B #[Value.int .u64 t,Value.slice wa wn wc]) (first
  |(with_reducible assumption)
  |(with_reducible exact HB.out)
  |(with_reducible exact hb3)
  | fail) (first
  |(go_simp;go_at_call 133;(refine HF.out.mono ?_;rintro e w3 ⟨⟨ax,rfl⟩,hf3⟩;have hb3:=boxF2_keep hf3 HB.out))
  | fail)
 all_goals
  refine cut_use (n:=64) (K:=K) _ rfl ?_
  exact HK.out _ _ _ rfl rfl rfl rfl ((Fr.refl N0 W).drew.then0 hf3)
theorem axR6(q:Bool)(hF:Calls Tryz.prog 134 #[.slice ta tn tc,.int .u64 t] W.drew fun e w'=>e = .returned (.bool q)∧Fr N0 W.drew w')
  (hK:∀ f' W',f' 0 = .pointer (some ⟨p,0,none⟩)→f' 3 = .pointer (some ⟨B,0,none⟩)→f' 35 = .bool q→Fr N0 W W'→K (frA 64 f') W') :
  Code.wp Tryz.prog (lvFst (lvFst (axB 4))) (Exit.then K Q) (frA 64 f) W:=by
 have HB:=hhd (boxF2_keep (Fr.refl N0 W).drew hb)
 have HK:=hhd hK
 have HF:=hhd hF
 clear hF
 clear hK hb
 show Code.wp _ _ _ { tmps:=#[f 0,f 1,f 2,f 3,f 4,f 5,f 6,f 7,f 8,f 9,f 10,f 11,f 12,f 13,f 14,f 15,f 16,f 17,f 18,f 19,f 20,f 21,f 22,f 23,f 24,f 25,f 26,f 27,f 28,f 29,f 30,f 31,f 32,f 33,f 34,f 35,f 36,f 37,f 38,f 39,f 40,f 41,f 42,f 43,f 44,f 45,f 46,f 47,f 48,f 49,f 50,f 51,f 52,f 53,f 54,f 55,f 56,f 57,f 58,f 59,f 60,f 61,f 62,f 63],defers:=[] } _
 rw[h0,h3]
 clear h0 h3
 conv=>arg 2;whnf
 go_region_held3 (BoxF2 W p #[Value.string sp,Value.int .u8 st,Value.bool sl,Value.bool se,Value.bool sm,Value.bool so,Value.bool sr,Value.bool sc,Value.int .u64 mk,Value.slice ta tn tc,Value.slice ca cn cc] B #[Value.int .u64 t,Value.slice wa wn wc]) (first
  |(with_reducible assumption)
  |(with_reducible exact HB.out)
  |(with_reducible exact hb3)
  | fail) (first
  |(go_simp;go_at_call 134;(refine HF.out.mono ?_;rintro e w3 ⟨rfl,hf3⟩;have hb3:=boxF2_keep hf3 HB.out))
  | fail)
 all_goals
  refine cut_use (n:=64) (K:=K) _ rfl ?_
  exact HK.out _ _ rfl rfl rfl ((Fr.refl N0 W).drew.then0 hf3)
end
abbrev XCells(s:Sch)(mk:Int)(vt vc:Value):Obj:=.cells #[.string s.pred,.int .u8 s.ty,.bool s.list,.bool s.exact_,.bool s.term,.bool s.order,.bool s.rev,.bool s.count,.int .u64 mk,vt,vc] 173
theorem axR10{K:Act→World→Prop}{Q:Exit→Act→World→Prop}(W:World)(f:Nat→Value)(p B:Nat)(s:Sch)(mk:Int)(vt vc:Value)(c:CmV)(ts:List Int)(bt:Nat)
  (h0:f 0 = .pointer (some ⟨p,0,none⟩)) (h3:f 3 = .pointer (some ⟨B,0,none⟩)) (hp:W.heap[p]?=some (XCells s mk vt vc)) (hB:W.heap[B]?=some (.cells c.enc.toArray 80 (0,0)))
  (hr:Ints .u64 W bt vt ts) (hn:ts.length≤10000000000) (hpB:p≠B)
  (hK:∀ f' W' vt',f' 0=f 0→f' 3=f 3→W'.heap[p]?=some (XCells s mk vt' vc)→W'.heap[B]?=some (.cells c.enc.toArray 80 (0,0))→W'.ownsRow W.heap.size 33 1 vt' (insGt c.time ts).length ((insGt c.time ts).map (Value.int .u64)) →
   Fr (fun j=>j=p) W W'→K (frA 64 f') W') :
  Code.wp Tryz.prog (lvFst (axB 7)) (Exit.then K Q) (frA 64 f) W:=by
 obtain⟨a,n,cp,rfl⟩:∃ a n cp,vt = .slice a n cp:=by obtain⟨a,off,cap,rfl,-⟩:=hr;exact⟨_,_,_,rfl⟩
 obtain⟨m,nn,lp⟩:=box_cells hp
 obtain⟨mb,nb,lb⟩:=box_cells hB
 have hI:=r18rise_any W.drew bt (.slice a n cp) ts (hr.fr0 (Fr.refl N0 W).drew) hn c.time
 have HI:=hhd hI;have HK:=hhd hK;have HP:=hhd hp;have HB:=hhd hB
 clear hI hK hp hB hr hn
 obtain⟨t,ca,cn,cc⟩:=c
 obtain⟨sp,st,sl,se,sm,so,sr,sc⟩:=s
 have H0:=hhd h0;have H3:=hhd h3
 simp only [CmV.enc] at mb m HI
 show Code.wp _ _ _ { tmps:=#[f 0,f 1,f 2,f 3,f 4,f 5,f 6,f 7,f 8,f 9,f 10,f 11,f 12,f 13,f 14,f 15,f 16,f 17,f 18,f 19,f 20,f 21,f 22,f 23,f 24,f 25,f 26,f 27,f 28,f 29,f 30,f 31,f 32,f 33,f 34,f 35,f 36,f 37,f 38,f 39,f 40,f 41,f 42,f 43,f 44,f 45,f 46,f 47,f 48,f 49,f 50,f 51,f 52,f 53,f 54,f 55,f 56,f 57,f 58,f 59,f 60,f 61,f 62,f 63],defers:=[] } _
 rw[h0,h3]
 clear h0 h3
 conv=>arg 2;whnf
 refine wp_plainQ ?_
 go_region_law (first
  |(go_simp;go_at_call 136;refine HI.out.mono ?_;rintro e w1 ⟨v1,rfl,hr1,hf1⟩;obtain⟨a1,c1,rfl⟩:=slice_of_row hr1;have hp1:=(hf1.at (k:=p) id lp).trans HP.out;obtain⟨m1,n1,l1⟩:=box_cells hp1)
  | fail)
 all_goals
  have hpe:=heap_setCell_same w1 p 9 _ _ (Value.slice a1 (insGt t ts).length c1) hp1
  have hBf:w1.heap[B]?=some (.cells #[.int .u64 t,.slice ca cn cc] 80 (0,0)):=(hf1.at (k:=B) id lb).trans HB.out
  have hF:Fr (fun j=>j=p) W (w1.setCell ⟨p,9,none⟩ (.slice a1 (insGt t ts).length c1)):=((((Fr.refl N0 W).drew.then0 hf1).mono fun _ h=>h.elim:Fr (fun j=>j=p) W w1)).setCell (.inl rfl) _
  have hr2:=ownsRow_fr hr1 ((Fr.refl (fun j=>j=p) w1).setCell (p:=⟨p,9,none⟩) (.inl rfl) (.slice a1 (insGt t ts).length c1)) fun k hk e=>by
   subst e
   have:=(ownsRow_lt hr1 _ hk).1
   have hrz:W.drew.heap.size=W.heap.size:=rfl
   omega
  refine cut_use (n:=64) (K:=K) _ rfl ?_
  exact HK.out _ _ _ H0.out.symm H3.out.symm hpe ((setCell_other (by exact fun e=>hpB e.symm)).trans hBf) hr2 hF
theorem axR9{K:Act→World→Prop}{Q:Exit→Act→World→Prop}(W:World)(f:Nat→Value)(p B:Nat)(s:Sch)(mk:Int)(vt vc:Value)(c:CmV)(cs:List CmV)(b bc:Nat)(xs:List Wr)
  (h0:f 0 = .pointer (some ⟨p,0,none⟩)) (h3:f 3 = .pointer (some ⟨B,0,none⟩)) (h8:f 8 = .slice none 0 0) (hp:W.heap[p]?=some (XCells s mk vt vc)) (hB:W.heap[B]?=some (.cells c.enc.toArray 80 (0,0)))
  (hr:RowsK CmV.enc 2 W bc vc cs) (hn:cs.length≤10000000000) (hpB:p≠B) (hw:Wrs W b (.slice c.a c.n c.c) xs) (hx0:0 < xs.length) (hxl:xs.length≤256)
  (hK:∀ f' W' vc' c',f' 0=f 0→f' 3=f 3→W'.heap[p]?=some (XCells s mk vt vc')→W'.heap[B]?=some (.cells c.enc.toArray 80 (0,0))→c'.time=c.time→W'.ownsRow W.heap.size 80 2 vc' (layC c' cs).length ((layC c' cs).flatMap CmV.enc) →
   W'.ownsRow W.heap.size 61 8 (.slice c'.a c'.n c'.c) xs.length (xs.flatMap Wr.enc)→Fr (fun j=>j=p) W W'→K (frA 64 f') W') :
  Code.wp Tryz.prog (lvFst (axB 6)) (Exit.then K Q) (frA 64 f) W:=by
 obtain⟨i0,hi,hz0,hz1,hz2⟩:=info_parts infoWr
 obtain⟨va,vn,vp,rfl⟩:∃ a n cp,vc = .slice a n cp:=by obtain⟨a,off,cap,rfl,-⟩:=hr;exact⟨_,_,_,rfl⟩
 obtain⟨m,nn,lp⟩:=box_cells hp
 obtain⟨mb,nb,lb⟩:=box_cells hB
 have hL:=fun(W1:World) (hf:Fr N0 W W1) c'=>lay_any W1 bc (.slice va vn vp) cs (RowsK.fr0 (enc:=CmV.enc) (n:=2) (fun _=>rfl) hr hf) hn c'
 obtain⟨ct,ca,cn,cc⟩:=c
 obtain⟨off,he,hcells⟩:∃ off,ca=some ⟨b,off,none⟩∧∀ W1,Fr N0 W W1→∀ (j:Nat) (u:Value),(xs.flatMap Wr.enc)[j]?=some u→W1.cell? ((⟨b,off,none⟩:Addr).add j)=some u:=by
  obtain⟨a',off,cap,he,r1,r2,r3,r4,r5⟩:=id hw
  injection he with ha hn' hc
  subst ha hn' hc
  have ha:=r3 hx0
  refine⟨off,ha,fun W1 hf j u hu=>?_⟩
  subst ha
  exact rows_news (enc:=Wr.enc) (n:=8) (fun _=>rfl) (by decide) (hw.fr0 hf) j u hu
 have hcn:cn=xs.length:=by
  obtain⟨a',off,cap,he,-⟩:=hw
  injection he
 subst he hcn
 have hlen:(xs.flatMap Wr.enc).length=xs.length * 8:=flat_length (enc:=Wr.enc) (n:=8) (fun _=>rfl) xs
 have hone:=one_cells wr_one xs
 obtain⟨N,hN⟩:∃ N,xs.length=N:=⟨_,rfl⟩
 obtain⟨E,hE⟩:∃ E,xs.flatMap Wr.enc=E:=⟨_,rfl⟩
 rw[hN,hE] at hlen
 rw[hN] at hx0 hxl
 rw[hE] at hone hcells
 simp only [hN,hE] at hK hB mb ⊢
 have HL:=hhd hL;have HK:=hhd hK;have HP:=hhd hp;have HB:=hhd hB;have HC:=hhd hcells;have HLEN:=hhd hlen;have HONE:=hhd hone
 clear hL hK hp hB hr hn hw hcells hlen hone hN hE
 obtain⟨sp,st,sl,se,sm,so,sr,sc⟩:=s
 have H0:=hhd h0;have H3:=hhd h3
 simp only [CmV.enc] at mb m HL
 show Code.wp _ _ _ { tmps:=#[f 0,f 1,f 2,f 3,f 4,f 5,f 6,f 7,f 8,f 9,f 10,f 11,f 12,f 13,f 14,f 15,f 16,f 17,f 18,f 19,f 20,f 21,f 22,f 23,f 24,f 25,f 26,f 27,f 28,f 29,f 30,f 31,f 32,f 33,f 34,f 35,f 36,f 37,f 38,f 39,f 40,f 41,f 42,f 43,f 44,f 45,f 46,f 47,f 48,f 49,f 50,f 51,f 52,f 53,f 54,f 55,f 56,f 57,f 58,f 59,f 60,f 61,f 62,f 63],defers:=[] } _
 rw[h0,h3,h8]
 clear h0 h3 h8
 conv=>arg 2;whnf
 refine wp_plainQ ?_
 go_region_law (first
  |(refine step_append_lies _ rfl _ _ 34 rfl W.heap.size 61 i0 zeroWrV 8 72 Tryz.underlying34 hi hz0 hz1 hz2 rfl (by decide) (.slice none 0 0) 0 [] rfl (World.ownsRow_nil _ _ _ _) ⟨b,off,none⟩ N cc E rfl HLEN.out (HC.out _ (Fr.refl N0 W).drew) HONE.out hx0 (by unfold maxLen;omega) (by omega) (Nat.le_refl _) W.heap.size rfl ?_;intro g1 cap1 w1 hown1 hgrow1 hfresh1 hlt1;have hf1:Fr N0 W w1:=(Fr.refl N0 W).drew.trans ((Fr.refl (fun q=>(Value.slice none 0 0).ownBlock=some q) W.drew).grown hgrow1 fun q e=>.inl e) (fun q hq=>by cases hq);have hp1:=(hf1.at (k:=p) id lp).trans HP.out;obtain⟨m1,n1,l1⟩:=box_cells hp1;have hb1:=(hf1.at (k:=B) id lb).trans HB.out;obtain⟨mb1,nb1,lb1⟩:=box_cells hb1;simp only [CmV.enc] at mb1;rw[Nat.zero_add,List.nil_append] at hown1)
  |(go_simp;go_at_call 135;refine(HL.out _ hf1 ⟨ct,some ⟨g1,0,none⟩,N,cap1⟩).mono ?_;rintro e w2 ⟨v2,rfl,hr2,hf2⟩;obtain⟨a2,c2,rfl⟩:=slice_of_row hr2;have hp2:=(hf2.at (k:=p) id l1).trans hp1;obtain⟨m2,n2,l2⟩:=box_cells hp2)
  | fail)
 all_goals
  have hz1:=hf1.size
  have hBf:=(hf2.at (k:=B) id lb1).trans hb1
  have hpe:=heap_setCell_same w2 p 10 _ _ (Value.slice a2 (layC ⟨ct,some ⟨g1,0,none⟩,N,cap1⟩ cs).length c2) hp2
  have hF:Fr (fun j=>j=p) W (w2.setCell ⟨p,10,none⟩ (.slice a2 (layC ⟨ct,some ⟨g1,0,none⟩,N,cap1⟩ cs).length c2)):=(((hf1.then0 hf2).mono fun _ h=>h.elim:Fr (fun j=>j=p) W w2)).setCell (.inl rfl) _
  have hset:=(Fr.refl (fun j=>j=p) w2).setCell (p:=⟨p,10,none⟩) (.inl rfl) (Value.slice a2 (layC ⟨ct,some ⟨g1,0,none⟩,N,cap1⟩ cs).length c2)
  have hr3:=ownsRow_fr hr2 hset fun k hk e=>by
   subst e
   have:=(ownsRow_lt hr2 _ hk).1
   omega
  have hw2:=ownsRow_fr (ownsRow_fr hown1 hf2 fun _ _ h=>h) hset fun k hk e=>by
   subst e
   have:=(ownsRow_lt hown1 _ hk).1
   omega
  refine cut_use (n:=64) (K:=K) _ rfl ?_
  exact HK.out _ _ _ ⟨ct,some ⟨g1,0,none⟩,N,cap1⟩ H0.out.symm H3.out.symm hpe ((setCell_other (by exact fun e=>hpB e.symm)).trans hBf) rfl (ownsRow_base hr3 hz1) hw2 hF
end
section
open Go.RowKit Go.Shelf Go.Maps
theorem addErr_fitX(l:PL)(t:Int)(xs:List Wr):addErr l ⟨t,xs⟩=if fitX l.s t xs≠0 then fitX l.s t xs else if t≤l.marked then 181 else if t ∈ l.times then 202 else 0:=by
 unfold addErr fitX
 simp only [List.length_eq_zero_iff]
 by_cases h:t=0∨xs = []∨256 < xs.length
 ·rw[if_pos h,if_pos h,if_pos (by decide)]
 ·rw[if_neg h,if_neg h]
theorem enc4_map(ts:List Int):ts.flatMap enc4=ts.map (Value.int .u64):=by
 induction ts with
 | nil=>rfl
 | cons t ts ih=>simp [enc4,ih]
inductive ParC (P:CmV→Cm→Prop):List CmV→List Cm→Prop
 | nil:ParC P [] []
 | cons {x:CmV} {y:Cm} {l:List CmV} {m:List Cm}:P x y→ParC P l m→ParC P (x :: l) (y :: m)
theorem ParC.length{P:CmV→Cm→Prop}:∀ {l:List CmV} {m:List Cm},ParC P l m→l.length=m.length
 | _,_,.nil=>rfl
 | _,_,.cons _ h=>by rw[List.length_cons,List.length_cons,h.length]
theorem ParC.get{P:CmV→Cm→Prop}:∀ {l:List CmV} {m:List Cm},ParC P l m→∀ i (h:i < l.length) (h':i < m.length),P l[i] m[i]
 | _,_,.nil,i,h,_=>by simp at h
 | _,_,.cons h _,0,_,_=>h
 | _,_,.cons _ h,i+1,h1,h2=>by simpa using h.get i (by simpa using h1) (by simpa using h2)
theorem parC_of{P:CmV→Cm→Prop}:∀ {l:List CmV} {m:List Cm},l.length=m.length→(∀ i (h:i < l.length) (h':i < m.length),P l[i] m[i])→ParC P l m
 | [],[],_,_=>.nil
 | x :: l,y :: m,h,hp=>.cons (hp 0 (by simp) (by simp)) (parC_of (by simpa using h) fun i h1 h2=>hp (i+1) (by simpa using h1) (by simpa using h2))
 | [],_ :: _,h,_=>by simp at h
 | _ :: _,[],h,_=>by simp at h
theorem ParC.mono{P P':CmV→Cm→Prop}(hP:∀ x y,P x y→P' x y):∀ {l:List CmV} {m:List Cm},ParC P l m→ParC P' l m
 | _,_,.nil=>.nil
 | _,_,.cons h t=>.cons (hP _ _ h) (t.mono hP)
theorem ParC.lay{P:CmV→Cm→Prop}(hP:∀ x y,P x y→x.time=y.time){c:CmV}{d:Cm}(hc:P c d):∀ {l:List CmV} {m:List Cm},ParC P l m→(∀ y ∈ m,y.time≠d.time)→ParC P (layC c l) (insBy Cm.time d m)
 | _,_,.nil,_=>.cons hc .nil
 | _,_,.cons (x:=x) (y:=y) h t,hn=>by
  have e:=hP _ _ h
  have e2:=hP _ _ hc
  have hy:=hn y (by simp)
  unfold layC insBy
  by_cases hx:c.time < x.time
  ·rw[if_pos hx,if_pos (show d.time≤y.time by omega)]
   exact .cons hc (.cons h t)
  ·rw[if_neg hx,if_neg (show ¬ d.time≤y.time by omega)]
   exact .cons h (t.lay hP hc fun z hz=>hn z (by simp [hz]))
def XAddPost(W:World)(R:Nat→Prop)(p:Nat)(r:PL × Int)(e:Ending)(w':World):Prop:=
 (∃ a:Int,e = .returned (.tuple #[.int .i64 a,.int .i64 r.2]))∧IsXL w' (fun k=>R k∨W.heap.size≤k) p r.1∧Fr (fun k=>k=p) W w'
theorem xadd_same{W w':World}{R:Nat→Prop}{p:Nat}{l:PL}{a E:Int}(h:IsXL W R p l)(hf:Fr N0 W w'):XAddPost W R p (l,E) (.returned (.tuple #[.int .i64 a,.int .i64 E])) w':=
 ⟨⟨a,rfl⟩,(h.fr hf fun _ _=>id).mono fun _=>.inl,hf.mono fun _ h=>h.elim⟩
theorem xadd_done{W w':World}{R:Nat→Prop}{p:Nat}{l:PL}{c':CmV}{cs:List CmV}{xs:List Wr}{vt' vc':Value}(hok:l.Ok)(hp:R p)(hpl:p < W.heap.size)(hnew:c'.time ∉ l.times)
  (hcs:ParC (fun x y=>x.time=y.time∧∃ b,Wrs W b (.slice x.a x.n x.c) y.writes∧(0 < y.writes.length→R b∧b≠p)) cs l.commits)
  (h1:w'.heap[p]?=some (XCells l.s l.marked vt' vc')) (h2:w'.ownsRow W.heap.size 33 1 vt' (insGt c'.time l.times).length ((insGt c'.time l.times).map (Value.int .u64)))
  (h3:w'.ownsRow W.heap.size 80 2 vc' (layC c' cs).length ((layC c' cs).flatMap CmV.enc)) (h4:w'.ownsRow W.heap.size 61 8 (.slice c'.a c'.n c'.c) xs.length (xs.flatMap Wr.enc)) (hf:Fr (fun k=>k=p) W w') :
  IsXL w' (fun k=>R k∨W.heap.size≤k) p (addIn l ⟨c'.time,xs⟩):=by
 have hgt:=insGt_insBy hnew
 have hpar:ParC (fun x y=>x.time=y.time∧∃ b,Wrs w' b (.slice x.a x.n x.c) y.writes∧(0 < y.writes.length→(R b∨W.heap.size≤b)∧b≠p)) (layC c' cs) (insBy Cm.time ⟨c'.time,xs⟩ l.commits):=by
  refine ParC.lay (fun _ _ h=>h.1) ⟨rfl,?_⟩ (hcs.mono ?_) fun y hy e=>hnew ((show y.time=c'.time from e) ▸ hok.among y hy)
  ·rintro x y ⟨e,b,hb,hr⟩
   exact⟨e,b,rowsK_frT (enc:=Wr.enc) (n:=8) (fun _=>rfl) hb hf fun h0=>(hr h0).2,fun h0=>⟨.inl (hr h0).1,(hr h0).2⟩⟩
  ·obtain⟨b,hb,hr⟩:=rowsK_of_row (enc:=Wr.enc) (n:=8) (fun _=>rfl) (by decide) h4
   exact⟨b,hr,fun _=>⟨.inr hb,by omega⟩⟩
 have hlen:=hpar.length
 refine⟨vt',vc',layC c' cs,h1,.inl hp,⟨?_,fun k hk=>?_⟩,⟨ownsRow_base h3 (Nat.zero_le _),hlen,fun k hk=>?_⟩,fun i hi hi'=>hpar.get i hi hi'⟩
 ·show w'.ownsRow 0 33 1 vt' (insBy id c'.time l.times).length ((insBy id c'.time l.times).flatMap enc4)
  rw[enc4_map,← hgt]
  exact ownsRow_base h2 (Nat.zero_le _)
 ·have:=(ownsRow_lt h2 k hk).1
  exact⟨.inr this,by omega⟩
 ·have:=(ownsRow_lt h3 k hk).1
  exact⟨.inr this,by omega⟩
end
section
open Go.RowKit Go.Shelf Go.Maps
attribute [local go_sem] Oper.semAt_some
attribute [local irreducible] wpQuiet
theorem r18Add_any(W:World)(R:Nat→Prop)(p:Nat)(q:ByteArray)(l:PL)(c:CmV)(xs:List Wr)(b N:Nat)(h:IsXL W R p l)(hl:l.Fine q N)(hN:N≤1000000000)(hc:Wrs W b (.slice c.a c.n c.c) xs) :
  Calls Tryz.prog 78 #[.pointer (some ⟨p,0,none⟩),.agg c.enc.toArray] W (XAddPost W R p (addPL l ⟨c.time,xs⟩)):=by
 have h0:=h
 obtain⟨vt,vc,cs,h1,hp,⟨h3,h3b⟩,⟨h5,h6,h7⟩,h8⟩:=h
 have hpl:=lt_of_block h1
 have hcs:ParC (fun x y=>x.time=y.time∧∃ b,Wrs W b (.slice x.a x.n x.c) y.writes∧(0 < y.writes.length→R b∧b≠p)) cs l.commits:=parC_of h6 h8
 obtain⟨bt,-,hrow⟩:=rowsK_of_row (enc:=enc4) (n:=1) ins4_len (by decide) h3
 have hI:Ints .u64 W bt vt l.times:=by
  obtain⟨a,off,cap,g1,g2,g3,g4,g5,g6⟩:=hrow
  exact⟨a,off,cap,g1,g2,g3,g4,g5,fun i hi=>by simpa [enc4] using g6 i hi 0 (by decide),hl.twf⟩
 have hIW:∀ W',Fr (fun k=>k=p) W W'→∃ bt,Ints .u64 W' bt vt l.times:=fun W' hf=>by
  obtain⟨bt,-,a,off,cap,g1,g2,g3,g4,g5,g6⟩:=rowsK_of_row (enc:=enc4) (n:=1) ins4_len (by decide) (ownsRow_fr h3 hf fun k hk e=>(h3b k hk).2 e)
  exact⟨bt,a,off,cap,g1,g2,g3,g4,g5,fun i hi=>by simpa [enc4] using g6 i hi 0 (by decide),hl.twf⟩
 have HIW:=hhd hIW
 obtain⟨bc,-,hrc⟩:=rowsK_of_row (enc:=CmV.enc) (n:=2) insC_len (by decide) h5
 obtain⟨ta,tc,rfl⟩:=slice_of_row h3
 obtain⟨ca,cc,rfl⟩:=slice_of_row h5
 obtain⟨tn,htn⟩:∃ tn,l.times.length=tn:=⟨_,rfl⟩
 obtain⟨cn,hcn⟩:∃ cn,cs.length=cn:=⟨_,rfl⟩
 have htl:l.times.length≤10000000000:=by have:=hl.times;omega
 have hcl:cs.length≤10000000000:=by have:=hl.commits;omega
 have heq:=addErr_fitX l c.time xs
 have hok:=hl.ok
 have hpost:∀ a E' w',E'=addErr l ⟨c.time,xs⟩→E'≠0→Fr N0 W w'→XAddPost W R p (addPL l ⟨c.time,xs⟩) (.returned (.tuple #[.int .i64 a,.int .i64 E'])) w':=fun a E' w' e h hf=>by
  subst e
  unfold addPL
  rw[if_neg h]
  exact xadd_same h0 hf
 have hdone:∀ (a:Int) w',addErr l ⟨c.time,xs⟩=0→IsXL w' (fun k=>R k∨W.heap.size≤k) p (addIn l ⟨c.time,xs⟩)→Fr (fun k=>k=p) W w'→XAddPost W R p (addPL l ⟨c.time,xs⟩) (.returned (.tuple #[.int .i64 a,.int .i64 0])) w':=fun a w' e hx hf=>by
  unfold addPL
  rw[if_pos e]
  exact⟨⟨a,rfl⟩,hx,hf⟩
 obtain⟨Pst,hPst⟩:∃ Pst,XAddPost W R p (addPL l ⟨c.time,xs⟩)=Pst:=⟨_,rfl⟩
 rw[hPst] at hpost hdone ⊢
 obtain⟨W0,hW0⟩:∃ W0,W.alloc (.cells c.enc.toArray 80)=W0:=⟨_,rfl⟩
 have hf0:Fr N0 W W0:=by rw[← hW0];exact(Fr.refl _ _).alloc _
 have hB:W0.heap[W.heap.size]?=some (.cells c.enc.toArray 80 (0,0)):=by rw[← hW0];exact World.alloc_heap_new W _
 have h1':=(hf0.at id hpl).trans h1
 obtain⟨m,n,lp⟩:=box_cells h1'
 obtain⟨mb,nb,lb⟩:=box_cells hB
 have hfit:=r18Fit_any W0.drew l.s c b xs (hc.fr0 (hf0.drew))
 have hhas:=fun W' (hf:Fr N0 W W')=>r18has_any W' bt (.slice ta l.times.length tc) l.times (hI.fr0 hf) c.time
 obtain⟨E,hE⟩:∃ E,fitX l.s c.time xs=E:=⟨_,rfl⟩
 rw[hE] at hfit heq
 obtain⟨Z,hZ⟩:∃ Z,addErr l ⟨c.time,xs⟩=Z:=⟨_,rfl⟩
 rw[hZ] at heq hpost hdone
 have hxs:E=0→0 < xs.length∧xs.length≤256:=fun e=>by
  rw[e] at hE
  unfold fitX at hE
  split at hE
  ·cases hE
  ·rename_i hh
   simp only [not_or] at hh
   omega
 have HP1:=hhd h1;have HI:=hhd hI;have HRC:=hhd hrc;have HCS:=hhd hcs;have HOK:=hhd hok;have HHAS:=hhd hhas;have HFIT:=hhd hfit;have HEQ:=hhd heq;have HPOST:=hhd hpost;have HDONE:=hhd hdone;have HF0:=hhd hf0;have HB:=hhd hB;have HC:=hhd hc;have HXS:=hhd hxs
 have HTL:=hhd htl;have HCL:=hhd hcl;have HP:=hhd hp;have HPL:=hhd hpl
 have hnx:c.time ∉ l.times→((l.times.any fun x=>x == c.time)=false):=fun h=>by
  rw[Bool.eq_false_iff];intro hh
  obtain⟨x,hx,e⟩:=List.any_eq_true.1 hh
  exact h (by rw[← (by simpa using e:x=c.time)];exact hx)
 have hyx:c.time ∈ l.times→((l.times.any fun x=>x == c.time)=true):=fun h=>List.any_eq_true.2 ⟨_,h,by simp⟩
 have HNX:=hhd hnx;have HYX:=hhd hyx
 have hbx:BoxF2 W0 p #[.string l.s.pred,.int .u8 l.s.ty,.bool l.s.list,.bool l.s.exact_,.bool l.s.term,.bool l.s.order,.bool l.s.rev,.bool l.s.count,.int .u64 l.marked,.slice ta l.times.length tc,.slice ca cs.length cc] W.heap.size #[.int .u64 c.time,.slice c.a c.n c.c] W0:=⟨m,n,mb,lp,lb,Fr.refl _ _⟩
 have HBX:=hhd hbx
 have hp1W:=fun W' (hf:Fr N0 W W')=>(hf.at id hpl).trans h1
 have HP1W:=hhd hp1W
 obtain⟨mk,hmk⟩:∃ mk,l.marked=mk:=⟨_,rfl⟩
 obtain⟨se,hse⟩:∃ se,l.s=se:=⟨_,rfl⟩
 have HMK:=hhd hmk;have HSE:=hhd hse
 rw[hmk,hse] at HP1W HBX
 rw[hmk] at HEQ
 rw[hse] at HFIT
 rw[htn] at HHAS HBX HP1W HIW
 rw[hcn] at HRC HBX HP1W
 have HTN:=hhd htn;have HCN:=hhd hcn
 obtain⟨ce,hce⟩:∃ ce,c=ce:=⟨_,rfl⟩
 have HCE:=hhd hce
 clear hIW h1 hI hrc hcs hok hhas hfit heq hpost hdone hf0 hB hc h0 h1' hxs h3 h3b h5 h6 h7 h8 hrow m n lp mb nb lb htl hcl hp hnx hyx hbx hp1W hmk hse hl hPst hE hZ htn hcn hce
 obtain⟨t,wa,wn,wc⟩:=c
 obtain⟨sp,st,sl,se',sm,so,sr,sc⟩:=se
 simp only [CmV.enc] at hW0 ⊢
 go_enter Tryz.func78,Tryz.ntmps78
 go_wp2_with fail
 try rw[hW0]
 clear hW0
 rename_i Kc hKc
 refine wp_frA (n:=64) _ rfl ?_
 refine axR1 (K:=Kc) W0 _ p W.heap.size sp st sl se' sm so sr sc mk ta tn tc ca cn cc t wa wn wc rfl rfl HBX.out E HFIT.out fun f1 W1 a1 k0 k3 k6 k7 hf1=>?_
 refine hKc _ _ ?_
 have HF1:=hhd hf1
 have hb1:=boxF2_keep hf1 HBX.out
 obtain⟨m1,n1,mb1,l1,lb1,-⟩:=id hb1
 have HB1:=hhd (show BoxF2 W1 p _ W.heap.size _ W1 from⟨m1,n1,mb1,l1,lb1,Fr.refl _ _⟩)
 clear hf1 hKc hb1
 obtain⟨f,hf⟩:∃ f,f=f1:=⟨_,rfl⟩
 subst hf
 show Code.wp _ _ _ { tmps:=#[f 0,f 1,f 2,f 3,f 4,f 5,f 6,f 7,f 8,f 9,f 10,f 11,f 12,f 13,f 14,f 15,f 16,f 17,f 18,f 19,f 20,f 21,f 22,f 23,f 24,f 25,f 26,f 27,f 28,f 29,f 30,f 31,f 32,f 33,f 34,f 35,f 36,f 37,f 38,f 39,f 40,f 41,f 42,f 43,f 44,f 45,f 46,f 47,f 48,f 49,f 50,f 51,f 52,f 53,f 54,f 55,f 56,f 57,f 58,f 59,f 60,f 61,f 62,f 63],defers:=[] } _
 rw[k0,k3,k6,k7]
 clear k0 k3 k6 k7
 by_cases hE0:E=0
 ·subst hE0
  have hxs:=HXS.out rfl
  by_cases htm:t≤mk
  ·go_wp2_with fail
   go_quiet (fail)
   go_wp2_with fail
   exact HPOST.out (-1) 181 _ (by rw[HEQ.out];simp [htm]) (by decide) (HF0.out.then0 (HF1.out.drewN _))
  ·go_wp2_with fail
   go_quiet (fail)
   go_wp2_with fail
   rename_i Kc hKc
   obtain⟨wd,hwd⟩:∃ wd,W1.drewN nq=wd:=⟨_,rfl⟩
   have hfd:Fr N0 W0 wd:=by rw[← hwd];exact HF1.out.drewN _
   have hfd1:Fr N0 W1 wd:=by rw[← hwd];exact(Fr.refl N0 W1).drewN _
   have HFD:=hhd (HF0.out.then0 hfd);have HFD0:=hhd hfd
   obtain⟨m2,n2,mb2,l2,lb2,-⟩:=boxF2_keep hfd1 HB1.out
   have hbd:BoxF2 wd p _ W.heap.size _ wd:=⟨m2,n2,mb2,l2,lb2,Fr.refl _ _⟩
   have HBD:=hhd hbd
   rw[hwd]
   clear hwd hfd hfd1 m2 n2 mb2 l2 lb2 hbd m1 n1 mb1 l1 lb1 HB1 HBX HFIT
   by_cases hin:t ∈ l.times
   ·have hq:=HYX.out hin
    have HH:=hhd (HHAS.out wd.drew HFD.out.drew)
    rw[hq] at HH
    refine wp_frA (n:=64) _ rfl ?_
    refine axR6 (K:=Kc) wd _ p W.heap.size sp st sl se' sm so sr sc mk ta tn tc ca cn cc t wa wn wc rfl rfl HBD.out true HH.out fun f2 W2 k0 k3 k35 hf2=>?_
    refine hKc _ _ ?_
    have HF2:=hhd hf2
    clear hf2 hKc HH hq
    obtain⟨f,hf⟩:∃ f,f=f2:=⟨_,rfl⟩
    subst hf
    show Code.wp _ _ _ { tmps:=#[f 0,f 1,f 2,f 3,f 4,f 5,f 6,f 7,f 8,f 9,f 10,f 11,f 12,f 13,f 14,f 15,f 16,f 17,f 18,f 19,f 20,f 21,f 22,f 23,f 24,f 25,f 26,f 27,f 28,f 29,f 30,f 31,f 32,f 33,f 34,f 35,f 36,f 37,f 38,f 39,f 40,f 41,f 42,f 43,f 44,f 45,f 46,f 47,f 48,f 49,f 50,f 51,f 52,f 53,f 54,f 55,f 56,f 57,f 58,f 59,f 60,f 61,f 62,f 63],defers:=[] } _
    rw[k0,k3,k35]
    clear k0 k3 k35
    go_wp2_with fail
    exact HPOST.out (-1) 202 _ (by rw[HEQ.out];simp [htm,hin]) (by decide) (HFD.out.then0 HF2.out)
   ·have hq:=HNX.out hin
    have HH:=hhd (HHAS.out wd.drew HFD.out.drew)
    rw[hq] at HH
    refine wp_frA (n:=64) _ rfl ?_
    refine axR6 (K:=Kc) wd _ p W.heap.size sp st sl se' sm so sr sc mk ta tn tc ca cn cc t wa wn wc rfl rfl HBD.out false HH.out fun f2 W2 k0 k3 k35 hf2=>?_
    refine hKc _ _ ?_
    have HF2:=hhd (HFD.out.then0 hf2)
    obtain⟨m2,n2,mb2,l2,lb2,-⟩:=boxF2_keep hf2 HBD.out
    have hB2:W2.heap[W.heap.size]?=some (.cells (CmV.enc ⟨t,wa,wn,wc⟩).toArray 80 (0,0)):=((HFD0.out.then0 hf2).at (k:=W.heap.size) id (lt_of_block HB.out)).trans HB.out
    have HB2:=hhd hB2
    clear hf2 hKc HH hq hB2 m2 n2 mb2 l2 lb2
    obtain⟨f,hf⟩:∃ f,f=f2:=⟨_,rfl⟩
    subst hf
    show Code.wp _ _ _ { tmps:=#[f 0,f 1,f 2,f 3,f 4,f 5,f 6,f 7,f 8,f 9,f 10,f 11,f 12,f 13,f 14,f 15,f 16,f 17,f 18,f 19,f 20,f 21,f 22,f 23,f 24,f 25,f 26,f 27,f 28,f 29,f 30,f 31,f 32,f 33,f 34,f 35,f 36,f 37,f 38,f 39,f 40,f 41,f 42,f 43,f 44,f 45,f 46,f 47,f 48,f 49,f 50,f 51,f 52,f 53,f 54,f 55,f 56,f 57,f 58,f 59,f 60,f 61,f 62,f 63],defers:=[] } _
    rw[k0,k3,k35]
    clear k0 k3 k35
    go_wp2_with fail
    rename_i Kc hKc
    refine wp_frA (n:=64) _ rfl ?_
    refine axR9 (K:=Kc) W2 _ p W.heap.size ⟨sp,st,sl,se',sm,so,sr,sc⟩ mk (.slice ta tn tc) (.slice ca cn cc) ⟨t,wa,wn,wc⟩ cs b bc xs rfl rfl rfl (HP1W.out _ HF2.out) HB2.out (RowsK.fr0 (enc:=CmV.enc) (n:=2) (fun _=>rfl) HRC.out HF2.out) HCL.out (Nat.ne_of_lt HPL.out) (HC.out.fr0 HF2.out) hxs.1 hxs.2 fun f3 W3 vc' c' g0 g3 hp3 hB3 hct hr3 hw3 hF3=>?_
    refine hKc _ _ ?_
    have g0':f3 0 = .pointer (some ⟨p,0,none⟩):=g0
    have g3':f3 3 = .pointer (some ⟨W.heap.size,0,none⟩):=g3
    have HP3:=hhd hp3;have HB3:=hhd hB3;have HCT:=hhd hct;have HR3:=hhd hr3;have HW3:=hhd hw3
    have HF3:=hhd ((HF2.out.mono fun _ h=>h.elim:Fr (fun k=>k=p) W W2).trans hF3 fun k hk=>.inl hk)
    clear hKc g0 g3 hp3 hB3 hct hr3 hw3 hF3
    obtain⟨f,hf⟩:∃ f,f=f3:=⟨_,rfl⟩
    subst hf
    show Code.wp _ _ _ { tmps:=#[f 0,f 1,f 2,f 3,f 4,f 5,f 6,f 7,f 8,f 9,f 10,f 11,f 12,f 13,f 14,f 15,f 16,f 17,f 18,f 19,f 20,f 21,f 22,f 23,f 24,f 25,f 26,f 27,f 28,f 29,f 30,f 31,f 32,f 33,f 34,f 35,f 36,f 37,f 38,f 39,f 40,f 41,f 42,f 43,f 44,f 45,f 46,f 47,f 48,f 49,f 50,f 51,f 52,f 53,f 54,f 55,f 56,f 57,f 58,f 59,f 60,f 61,f 62,f 63],defers:=[] } _
    rw[g0',g3']
    clear g0' g3'
    go_wp2_with fail
    rename_i Kc hKc
    obtain⟨bt3,hI3⟩:=HIW.out W3 HF3.out
    refine wp_frA (n:=64) _ rfl ?_
    refine axR10 (K:=Kc) W3 _ p W.heap.size ⟨sp,st,sl,se',sm,so,sr,sc⟩ mk (.slice ta tn tc) vc' ⟨t,wa,wn,wc⟩ l.times bt3 rfl rfl HP3.out HB3.out hI3 HTL.out (Nat.ne_of_lt HPL.out) fun f4 W4 vt' g0 g3 hp4 hB4 hr4 hF4=>?_
    refine hKc _ _ ?_
    have g0':f4 0 = .pointer (some ⟨p,0,none⟩):=g0
    have g3':f4 3 = .pointer (some ⟨W.heap.size,0,none⟩):=g3
    obtain⟨m4,n4,l4⟩:=box_cells hB4
    simp only [CmV.enc] at m4
    have hs2:=HF2.out.size
    have hs3:=HF3.out.size
    have hx:=xadd_done (W:=W) (w':=W4) (c':=c') (xs:=xs) HOK.out HP.out HPL.out (by rw[HCT.out];exact hin) HCS.out (by rw[HSE.out,HMK.out];exact hp4) (by rw[HCT.out];exact ownsRow_base hr4 hs3)
     (ownsRow_base (ownsRow_fr HR3.out hF4 fun k hk e=>by have:=(ownsRow_lt HR3.out _ hk).1;have:=HPL.out;omega) hs2) (ownsRow_base (ownsRow_fr HW3.out hF4 fun k hk e=>by have:=(ownsRow_lt HW3.out _ hk).1;have:=HPL.out;omega) hs2) (HF3.out.trans hF4 fun k hk=>.inl hk)
    rw[HCT.out] at hx
    have HX:=hhd hx;have HF4:=hhd (HF3.out.trans hF4 fun k hk=>.inl hk)
    clear hKc g0 g3 hp4 hB4 hr4 hF4 hx hI3
    obtain⟨f,hf⟩:∃ f,f=f4:=⟨_,rfl⟩
    subst hf
    show Code.wp _ _ _ { tmps:=#[f 0,f 1,f 2,f 3,f 4,f 5,f 6,f 7,f 8,f 9,f 10,f 11,f 12,f 13,f 14,f 15,f 16,f 17,f 18,f 19,f 20,f 21,f 22,f 23,f 24,f 25,f 26,f 27,f 28,f 29,f 30,f 31,f 32,f 33,f 34,f 35,f 36,f 37,f 38,f 39,f 40,f 41,f 42,f 43,f 44,f 45,f 46,f 47,f 48,f 49,f 50,f 51,f 52,f 53,f 54,f 55,f 56,f 57,f 58,f 59,f 60,f 61,f 62,f 63],defers:=[] } _
    rw[g0',g3']
    clear g0' g3'
    go_wp2_with fail
    exact HDONE.out _ _ (by rw[HEQ.out];simp [htm,hin]) HX.out HF4.out
 ·have hE':(E != 0)=true:=by simpa using hE0
  go_wp2_with fail
  exact HPOST.out a1 E _ (by rw[HEQ.out,if_pos hE0]) hE0 (HF0.out.then0 HF1.out)
end
end Go.Proofs.YtefepfiijoafbaaGreat
