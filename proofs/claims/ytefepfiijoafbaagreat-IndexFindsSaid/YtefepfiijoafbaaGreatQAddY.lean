/- Add AddW AddY -/
import Derived.Deep.RegionLaw
import Derived.Deep.DrawnRows
import Derived.Deep.RegionHeld3
import Derived.Test.YtefepfiijoafbaaGreatQValO
import Derived.Test.YtefepfiijoafbaaGreatQValR
set_option linter.unusedVariables false
set_option linter.unusedSimpArgs false
set_option maxRecDepth 100000
set_option maxHeartbeats 4000000
namespace Go.Proofs.YtefepfiijoafbaaGreat
section
open Go.RowKit Go.Shelf
attribute [local go_sem] Oper.semAt_some
attribute [local go_sem ↓] Go.wp_at_zero Go.wp_at_succ
attribute [local irreducible] wpQuiet
abbrev PCells(s:Sch)(marked:Int)(vt vc:Value):Obj:=.cells #[.string s.pred,.int .u8 s.ty,.bool s.list,.bool s.exact_,.bool s.term,.bool s.order,.bool s.rev,.bool s.count,.int .u64 marked,vt,vc] 105 (0,0)
abbrev CCells(c:CmV):Obj:=.cells #[.int .u64 c.time,.slice c.a c.n c.c] 80 (0,0)
noncomputable def addB(n:Nat):Code:=lvSuf n ((Tryz.f31.body).getD .skip)
theorem setCell_other{W:World}{k:Nat}{a:Addr}{v:Value}(h:k≠a.block):(W.setCell a v).heap[k]?=W.heap[k]?:=Below.heap_setCell _ _ _ _ h
theorem add11{K:Act→World→Prop}{Q:Exit→Act→World→Prop}(W:World)(f:Nat→Value)(p B:Nat)(s:Sch)(mk:Int)(vt vc:Value)(c:CmV)(n k:Nat)(ts:List Int)
  (h0:f 0 = .pointer (some ⟨p,0,none⟩)) (h3:f 3 = .pointer (some ⟨B,0,none⟩)) (h8:f 8 = .int .i64 k) (hp:W.heap[p]?=some (PCells s mk vt vc)) (hB:W.heap[B]?=some (CCells c))
  (hr:W.ownsRow 0 33 1 vt n (ts.flatMap enc4)) (hl:ts.length=n) (hk:k≤n) (hn:n≤10000000000) (hne:vt.ownBlock≠some p) (hneB:vt.ownBlock≠some B) (hpB:p≠B)
  (hK:∀ f' W' vt',f' 0=f 0→f' 3=f 3→W'.heap[p]?=some (PCells s mk vt' vc)→W'.heap[B]?=some (CCells c)→W'.ownsRow 0 33 1 vt' (n+1) ((ts.take k ++ c.time :: ts.drop k).flatMap enc4)→(∀ j,vt'.ownBlock=some j→vt.ownBlock=some j∨W.heap.size≤j) →
   Fr (fun j=>j=p∨vt.ownBlock=some j) W W'→K (frA 80 f') W') :
  Code.wp Tryz.prog (lvFst (addB 6)) (Exit.then K Q) (frA 80 f) W:=by
 obtain⟨a,cp,rfl⟩:=slice_of_row hr
 obtain⟨m,nn,lp⟩:=box_cells hp
 obtain⟨mb,nb,lb⟩:=box_cells hB
 have hI:=fun W1 (hf:Fr N0 W W1) vb hv hne=>ins4_any W1 0 (.slice a n cp) n k ts c.time vb (Nat.zero_le _) (ownsRow_fr hr hf fun _ _=>id) hl hk hn hv hne
 have hrl:=ownsRow_lt hr
 have HI:=hhd hI;have HK:=hhd hK;have HP:=hhd hp;have HB:=hhd hB;have HRL:=hhd hrl
 have HNE:=hhd hne;have HNB:=hhd hneB
 clear hI hK hp hB hr hl hrl hne hneB
 obtain⟨t,ca,cn,cc⟩:=c
 obtain⟨sp,st,sl,se,sm,so,sr,sc⟩:=s
 have H0:=hhd h0;have H3:=hhd h3
 simp only at mb m
 show Code.wp _ _ _ { tmps:=#[f 0,f 1,f 2,f 3,f 4,f 5,f 6,f 7,f 8,f 9,f 10,f 11,f 12,f 13,f 14,f 15,f 16,f 17,f 18,f 19,f 20,f 21,f 22,f 23,f 24,f 25,f 26,f 27,f 28,f 29,f 30,f 31,f 32,f 33,f 34,f 35,f 36,f 37,f 38,f 39,f 40,f 41,f 42,f 43,f 44,f 45,f 46,f 47,f 48,f 49,f 50,f 51,f 52,f 53,f 54,f 55,f 56,f 57,f 58,f 59,f 60,f 61,f 62,f 63,f 64,f 65,f 66,f 67,f 68,f 69,f 70,f 71,f 72,f 73,f 74,f 75,f 76,f 77,f 78,f 79],defers:=[] } _
 rw[h0,h3,h8]
 clear h0 h3 h8
 conv=>arg 2;whnf
 refine wp_plainQ ?_
 go_region_law (first
  |(go_simp;go_at_call 93;refine(HI.out _ (((Fr.refl N0 W).drew).alloc _) W.heap.size (World.alloc_heap_new _ _) (fun e=>by have:=(HRL.out _ e).2;omega)).mono ?_;rintro e w1 ⟨v1,rfl,hr1,hf1,hb1⟩;obtain⟨a1,c1,rfl⟩:=slice_of_row hr1;have hp1:=(hf1.at (k:=p) HNE.out (by simp;omega)).trans ((Below.heap_alloc _ _ _ lp).trans HP.out);obtain⟨m1,n1,l1⟩:=box_cells hp1)
  | fail)
 all_goals
  have hz1:=hf1.size
  simp only [World.size_alloc] at hz1
  have hrz:W.drew.heap.size=W.heap.size:=rfl
  have hblk:∀ j,(Value.slice a1 (n+1) c1).ownBlock=some j→(Value.slice a n cp).ownBlock=some j∨W.heap.size≤j:=fun j hj=>(hb1 j hj).imp id fun h=>by simp only [World.size_alloc] at h;omega
  have hBf:w1.heap[B]?=some (CCells ⟨t,ca,cn,cc⟩):=(hf1.at (k:=B) HNB.out (by simp;omega)).trans ((Below.heap_alloc _ _ _ lb).trans HB.out)
  have hpe:=heap_setCell_same w1 p 9 _ _ (Value.slice a1 (n+1) c1) hp1
  have hF:Fr (fun j=>j=p∨(Value.slice a n cp).ownBlock=some j) W (w1.setCell ⟨p,9,none⟩ (.slice a1 (n+1) c1)):=
   ((((Fr.refl _ W).drew.alloc _).trans hf1 fun k e=>.inl (.inr e)).setCell (.inl (.inl rfl)) _)
  have hr2:(w1.setCell ⟨p,9,none⟩ (.slice a1 (n+1) c1)).ownsRow 0 33 1 (.slice a1 (n+1) c1) (n+1) _:=ownsRow_fr hr1 ((Fr.refl (fun j=>j=p) w1).setCell (.inl rfl) _) fun k hk e=>by
   subst e
   rcases hblk _ hk with h | h
   ·exact HNE.out h
   ·omega
  refine cut_use (n:=80) (K:=K) _ rfl ?_
  exact HK.out _ _ _ H0.out.symm H3.out.symm hpe ((setCell_other (by exact fun e=>hpB e.symm)).trans hBf) hr2 hblk hF
theorem add12{K:Act→World→Prop}{Q:Exit→Act→World→Prop}(W:World)(f:Nat→Value)(p B:Nat)(s:Sch)(mk:Int)(vt vc:Value)(c:CmV)(cs:List CmV)
  (h0:f 0 = .pointer (some ⟨p,0,none⟩)) (h3:f 3 = .pointer (some ⟨B,0,none⟩)) (hp:W.heap[p]?=some (PCells s mk vt vc)) (hB:W.heap[B]?=some (CCells c))
  (hr:W.ownsRow 0 80 2 vc cs.length (cs.flatMap CmV.enc)) (hs:cs.Pairwise fun x y=>x.time≤y.time) (hn:cs.length≤10000000000)
  (hK:∀ f' W',f' 0=f 0→f' 3=f 3→f' 8 = .int .i64 (posI CmV.time c.time cs)→Fr N0 W W'→K (frA 80 f') W') :
  Code.wp Tryz.prog (lvFst (addB 7)) (Exit.then K Q) (frA 80 f) W:=by
 obtain⟨a,cp,rfl⟩:=slice_of_row hr
 obtain⟨m,nn,lp⟩:=box_cells hp
 obtain⟨mb,nb,lb⟩:=box_cells hB
 obtain⟨bb,-,hrow⟩:=rowsK_of_row (enc:=CmV.enc) (n:=2) insC_len (by decide) hr
 have hI:=fun W1 (hf:Fr N0 W W1)=>bsc_any W1 bb _ cs (hrow.fr0 insC_len hf) c.time hs (by omega)
 obtain⟨k,hk⟩:∃ k,posI CmV.time c.time cs=k:=⟨_,rfl⟩
 simp only [hk] at hI hK
 have HI:=hhd hI;have HK:=hhd hK
 clear hI hK hp hB hr hs hk hrow
 obtain⟨n,hn'⟩:∃ n,cs.length=n:=⟨_,rfl⟩
 simp only [hn'] at HI m
 obtain⟨t,ca,cn,cc⟩:=c
 obtain⟨sp,st,sl,se,sm,so,sr,sc⟩:=s
 have H0:=hhd h0;have H3:=hhd h3
 simp only at mb m HI
 clear hn' hn
 show Code.wp _ _ _ { tmps:=#[f 0,f 1,f 2,f 3,f 4,f 5,f 6,f 7,f 8,f 9,f 10,f 11,f 12,f 13,f 14,f 15,f 16,f 17,f 18,f 19,f 20,f 21,f 22,f 23,f 24,f 25,f 26,f 27,f 28,f 29,f 30,f 31,f 32,f 33,f 34,f 35,f 36,f 37,f 38,f 39,f 40,f 41,f 42,f 43,f 44,f 45,f 46,f 47,f 48,f 49,f 50,f 51,f 52,f 53,f 54,f 55,f 56,f 57,f 58,f 59,f 60,f 61,f 62,f 63,f 64,f 65,f 66,f 67,f 68,f 69,f 70,f 71,f 72,f 73,f 74,f 75,f 76,f 77,f 78,f 79],defers:=[] } _
 rw[h0,h3]
 clear h0 h3
 conv=>arg 2;whnf
 refine wp_plainQ ?_
 go_region_law (first
  |(go_simp;go_at_call 94;refine(HI.out _ (Fr.refl N0 W).drew).mono ?_;rintro e w1 ⟨⟨fb,rfl⟩,hf1⟩)
  | fail)
 all_goals
  refine cut_use (n:=80) (K:=K) _ rfl ?_
  exact HK.out _ _ H0.out.symm H3.out.symm rfl ((Fr.refl N0 W).drew.then0 hf1)
theorem add13{K:Act→World→Prop}{Q:Exit→Act→World→Prop}(W:World)(f:Nat→Value)(p B:Nat)(s:Sch)(mk:Int)(vt vc:Value)(c:CmV)(n k:Nat)(cs:List CmV)(b:Nat)(xs:List Wr)
  (h0:f 0 = .pointer (some ⟨p,0,none⟩)) (h3:f 3 = .pointer (some ⟨B,0,none⟩)) (h8:f 8 = .int .i64 k) (hp:W.heap[p]?=some (PCells s mk vt vc)) (hB:W.heap[B]?=some (CCells c))
  (hr:W.ownsRow 0 80 2 vc n (cs.flatMap CmV.enc)) (hl:cs.length=n) (hk:k≤n) (hn:n≤10000000000) (hne:vc.ownBlock≠some p) (hneB:vc.ownBlock≠some B) (hpB:p≠B)
  (hw:Wrs W b (.slice c.a c.n c.c) xs) (hxl:xs.length≤10000000000)
  (hK:∀ f' W' vc' c',f' 0=f 0→f' 3=f 3→W'.heap[p]?=some (PCells s mk vt vc')→W'.heap[B]?=some (CCells c)→c'.time=c.time →
   W'.ownsRow 0 80 2 vc' (n+1) ((cs.take k ++ c' :: cs.drop k).flatMap CmV.enc)→(∀ j,vc'.ownBlock=some j→vc.ownBlock=some j∨W.heap.size≤j) →
   W'.ownsRow W.heap.size 61 8 (.slice c'.a c'.n c'.c) xs.length (xs.flatMap Wr.enc)→(∀ j,(Value.slice c'.a c'.n c'.c).ownBlock=some j→vc'.ownBlock≠some j) →
   Fr (fun j=>j=p∨vc.ownBlock=some j) W W'→K (frA 80 f') W') :
  Code.wp Tryz.prog (lvFst (addB 8)) (Exit.then K Q) (frA 80 f) W:=by
 obtain⟨a,cp,rfl⟩:=slice_of_row hr
 obtain⟨m,nn,lp⟩:=box_cells hp
 obtain⟨mb,nb,lb⟩:=box_cells hB
 have hO:=own_any W.drew b c xs (hw.fr0 (Fr.refl N0 W).drew) hxl
 have hI:=fun W1 (hf:Fr N0 W W1) x vb hv hne=>insC_any W1 0 (.slice a n cp) n k cs x vb (Nat.zero_le _) (ownsRow_fr hr hf fun _ _=>id) hl hk hn hv hne
 have hrl:=ownsRow_lt hr
 have HI:=hhd hI;have HO:=hhd hO;have HK:=hhd hK;have HP:=hhd hp;have HB:=hhd hB;have HRL:=hhd hrl
 have HNE:=hhd hne;have HNB:=hhd hneB
 clear hI hO hK hp hB hr hl hrl hne hneB hw
 obtain⟨t,ca,cn,cc⟩:=c
 obtain⟨sp,st,sl,se,sm,so,sr,sc⟩:=s
 have H0:=hhd h0;have H3:=hhd h3
 simp only [CmV.enc] at mb m HO
 show Code.wp _ _ _ { tmps:=#[f 0,f 1,f 2,f 3,f 4,f 5,f 6,f 7,f 8,f 9,f 10,f 11,f 12,f 13,f 14,f 15,f 16,f 17,f 18,f 19,f 20,f 21,f 22,f 23,f 24,f 25,f 26,f 27,f 28,f 29,f 30,f 31,f 32,f 33,f 34,f 35,f 36,f 37,f 38,f 39,f 40,f 41,f 42,f 43,f 44,f 45,f 46,f 47,f 48,f 49,f 50,f 51,f 52,f 53,f 54,f 55,f 56,f 57,f 58,f 59,f 60,f 61,f 62,f 63,f 64,f 65,f 66,f 67,f 68,f 69,f 70,f 71,f 72,f 73,f 74,f 75,f 76,f 77,f 78,f 79],defers:=[] } _
 rw[h0,h3,h8]
 clear h0 h3 h8
 conv=>arg 2;whnf
 refine wp_plainQ ?_
 go_region_law (first
  |(go_simp;go_at_call 72;refine HO.out.mono ?_;rintro e w1 ⟨⟨t',ca',cn',cc'⟩,hct,rfl,hcr,hf1⟩;simp only at hct hcr;obtain rfl:=hct;have hp1:=(hf1.at (k:=p) id lp).trans HP.out;obtain⟨m1,n1,l1⟩:=box_cells hp1;have hz1:=hf1.size)
  |(go_simp;go_at_call 96;refine(HI.out _ (((Fr.refl N0 W).drew.then0 hf1).alloc _) ⟨t',ca',cn',cc'⟩ w1.heap.size (World.alloc_heap_new _ _) (fun e=>by have:=(HRL.out _ e).2;have:W.drew.heap.size=W.heap.size:=rfl;omega)).mono ?_;rintro e w2 ⟨v1,rfl,hr1,hf2,hb1⟩;obtain⟨a1,c1,rfl⟩:=slice_of_row hr1;have hp2:=(hf2.at (k:=p) HNE.out (by simp;omega)).trans ((Below.heap_alloc _ _ _ l1).trans hp1);obtain⟨m2,n2,l2⟩:=box_cells hp2)
  | fail)
 all_goals
  have hz2:=hf2.size
  simp only [World.size_alloc] at hz2
  have hrz:W.drew.heap.size=W.heap.size:=rfl
  have hcl:=ownsRow_lt hcr
  have hblk:∀ j,(Value.slice a1 (n+1) c1).ownBlock=some j→((Value.slice a n cp).ownBlock=some j∨W.heap.size≤j)∧∀ i,(Value.slice ca' cn' cc').ownBlock=some i→i≠j:=fun j hj=>by
   rcases hb1 j hj with h | h
   ·refine⟨.inl h,fun i hi e=>?_⟩
    have h1:=(HRL.out j h).2
    have h2:=(hcl i hi).1
    omega
   ·simp only [World.size_alloc] at h
    refine⟨.inr (by omega),fun i hi e=>?_⟩
    have:=(hcl i hi).2
    omega
  have hF1:Fr (fun j=>(Value.slice a n cp).ownBlock=some j) W w2:=(((Fr.refl _ W).drew.then0 hf1).alloc _).trans hf2 fun k e=>.inl e
  have hBf:w2.heap[B]?=some (CCells ⟨t',ca,cn,cc⟩):=(hF1.at (k:=B) HNB.out lb).trans HB.out
  have hpe:=heap_setCell_same w2 p 10 _ _ (Value.slice a1 (n+1) c1) hp2
  have hF:Fr (fun j=>j=p∨(Value.slice a n cp).ownBlock=some j) W (w2.setCell ⟨p,10,none⟩ (.slice a1 (n+1) c1)):=
   (hF1.mono fun k e=>.inl (.inr e)).setCell (.inl (.inl rfl)) _
  have hset:=(Fr.refl (fun j=>j=p) w2).setCell (p:=⟨p,10,none⟩) (.inl rfl) (.slice a1 (n+1) c1)
  have hr2:=ownsRow_fr hr1 hset fun k hk e=>by
   subst e
   rcases(hblk _ hk).1 with h | h
   ·exact HNE.out h
   ·omega
  have hF12:Fr (fun j=>(Value.slice a n cp).ownBlock=some j) w1 w2:=((Fr.refl _ w1).alloc _).trans hf2 fun k e=>.inl e
  have hc2:=ownsRow_base (ownsRow_fr (ownsRow_fr hcr hF12 fun k hk e=>by have h1:=(HRL.out k e).2;have h2:=(hcl k hk).1;omega) hset fun k hk e=>by have:=(hcl k hk).1;omega) (show W.heap.size≤W.drew.heap.size from Nat.le_refl _)
  refine cut_use (n:=80) (K:=K) _ rfl ?_
  exact HK.out _ _ _ ⟨t',ca',cn',cc'⟩ H0.out.symm H3.out.symm hpe ((setCell_other (by exact fun e=>hpB e.symm)).trans hBf) rfl hr2 (fun j hj=>(hblk j hj).1) hc2 (fun i hi hj=>(hblk i hj).2 i hi rfl) hF
end
section
open Go.RowKit Go.Shelf
attribute [local go_sem] Oper.semAt_some
attribute [local irreducible] wpQuiet
theorem addErr_fit(l:PL)(t:Int)(xs:List Wr):addErr l ⟨t,xs⟩=if fitAll l.s t xs≠0 then fitAll l.s t xs else if t≤l.marked then 181 else if t ∈ l.times then 202 else 0:=by
 unfold addErr fitAll
 have e:(fun x=>tFits l.s x)=fitE l.s:=funext fun x=>tFits_fitE l.s x
 have e':xs = []↔xs.length=0:=⟨fun h=>by rw[h];rfl,List.eq_nil_of_length_eq_zero⟩
 simp only [e']
 by_cases h:t=0∨xs.length=0∨256 < xs.length
 ·simp only [if_pos h]
  rw[if_pos (by decide)]
 ·simp only [if_neg h]
  rw[show xs.map (tFits l.s)=xs.map (fitE l.s) from congrArg (fun f=>xs.map f) e]
def AddPost(W:World)(R:Nat→Prop)(p:Nat)(r:PL × Int)(e:Ending)(w':World):Prop:=
 (∃ a:Int,e = .returned (.tuple #[.int .i64 a,.int .i64 r.2]))∧∃ R',IsPL w' R' p r.1∧(∀ k,R' k→R k∨W.heap.size≤k)∧Fr R W w'
theorem AddPost.same{W w':World}{R:Nat→Prop}{p:Nat}{l:PL}{a E:Int}(h:IsPL W R p l)(hf:Fr N0 W w'):AddPost W R p (l,E) (.returned (.tuple #[.int .i64 a,.int .i64 E])) w':=
 ⟨⟨a,rfl⟩,R,h.fr hf fun _ _=>id,fun _=>.inl,hf.mono fun _ h=>h.elim⟩
theorem addNot(W:World)(R:Nat→Prop)(p:Nat)(q:ByteArray)(l:PL)(c:CmV)(xs:List Wr)(b N:Nat)(h:IsPL W R p l)(hl:l.Fine q N)(hN:N≤1000000000)(hc:Wrs W b (.slice c.a c.n c.c) xs)(hx:∀ x ∈ xs,x.wf)
  (hE:addErr l ⟨c.time,xs⟩≠0):Calls Tryz.prog 31 #[.pointer (some ⟨p,0,none⟩),.agg c.enc.toArray] W (AddPost W R p (l,addErr l ⟨c.time,xs⟩)):=by
 have h0:=h
 obtain⟨vt,vc,cs,h1,hp,⟨h3,-⟩,-⟩:=h
 obtain⟨W0,hW0⟩:∃ W0,W.alloc (CCells c)=W0:=⟨_,rfl⟩
 have hf0:Fr N0 W W0:=by rw[← hW0];exact(Fr.refl _ _).alloc _
 have hB:W0.heap[W.heap.size]?=some (CCells c):=by rw[← hW0];exact World.alloc_heap_new W _
 have h1':=(hf0.at id (lt_of_block h1)).trans h1
 obtain⟨m,n,lp⟩:=box_cells h1'
 obtain⟨mb,nb,lb⟩:=box_cells hB
 have hn:=pNone_any W0 p l.s.pred (m 0) hl.size'
 have hfit:=fun w' (hf:Fr N0 W w')=>fit_all w' l.s c b xs (hc.fr0 hf) hx
 obtain⟨bt,-,hrow⟩:=rowsK_of_row (enc:=enc4) (n:=1) ins4_len (by decide) h3
 have hI:Ints .u64 W bt vt l.times:=by
  obtain⟨a,off,cap,g1,g2,g3,g4,g5,g6⟩:=hrow
  exact⟨a,off,cap,g1,g2,g3,g4,g5,fun i hi=>by simpa [enc4] using g6 i hi 0 (by decide),hl.twf⟩
 have hbs:=fun w' (hf:Fr N0 W w')=>bs_any w' bt vt l.times (hI.fr0 hf) c.time (hl.ok.times.imp fun h=>Int.le_of_lt h) (by have:=hl.times;omega)
 have hpost:∀ a E' w',E'=addErr l ⟨c.time,xs⟩→Fr N0 W w'→AddPost W R p (l,addErr l ⟨c.time,xs⟩) (.returned (.tuple #[.int .i64 a,.int .i64 E'])) w':=fun a E' w' e hf=>by subst e;exact AddPost.same h0 hf
 have heq:=addErr_fit l c.time xs
 obtain⟨E,hE1⟩:∃ E,addErr l ⟨c.time,xs⟩=E:=⟨_,rfl⟩
 obtain⟨E2,hE2⟩:∃ E,fitAll l.s c.time xs=E:=⟨_,rfl⟩
 rw[hE1] at heq hpost hE ⊢
 simp only [hE2] at heq hfit
 have hb:BoxS2 W0 p #[.string l.s.pred,.int .u8 l.s.ty,.bool l.s.list,.bool l.s.exact_,.bool l.s.term,.bool l.s.order,.bool l.s.rev,.bool l.s.count,.int .u64 l.marked,vt,vc] W.heap.size #[.int .u64 c.time,.slice c.a c.n c.c] W0:=⟨m,mb,lp,lb,Fr.refl _ _⟩
 have HN:=hhd hn;have HFIT:=hhd hfit;have HBS:=hhd hbs;have HPOST:=hhd hpost;have HEQ:=hhd heq;have HE:=hhd hE;have HF0:=hhd hf0;have HBX:=hhd hb
 clear hn hfit hbs hpost heq hE hf0 hb hI hrow h3 h1' h1 h0 hp m n mb nb hB hE1 hE2 hc
 obtain⟨⟨sp,st,sl,se,sm,so,sr,sc⟩,mk,ts,cms⟩:=l
 obtain⟨t,ca,cn,cc⟩:=c
 simp only [CmV.enc,Sch.enc] at *
 clear hl hx hN
 by_cases hE2:E2=0
 ·subst hE2
  by_cases hle:t≤mk
  ·obtain rfl:E=181:=by rw[HEQ.out];simp [hle]
   go_enter Tryz.func31,Tryz.ntmps31
   go_wp2_with fail
   try rw[hW0]
   refine HN.out.mono ?_
   rintro e w1 ⟨rfl,hf1⟩
   have HB1:=hhd (boxS2_keep hf1 HBX.out)
   go_wp2_with fail
   go_region_held3 (BoxS2 W0 p #[.string sp,.int .u8 st,.bool sl,.bool se,.bool sm,.bool so,.bool sr,.bool sc,.int .u64 mk,vt,vc] W.heap.size #[.int .u64 t,.slice ca cn cc]) (first
    |(with_reducible assumption)
    |(with_reducible exact boxS2_keep (Fr.refl _ _).drew HB1.out)
    |(with_reducible exact boxS2_keep hfw2 HB1.out)
    | fail) (first
    |(go_simp;go_at_call 92;refine(HFIT.out _ ((HF0.out.then0 HB1.out.2.2.2.2).drew)).mono ?_;rintro e w2 ⟨⟨fa,rfl⟩,hff⟩;have hfw2:Fr N0 w1 w2:=(Fr.refl N0 w1).drew.then0 hff)
    | fail)
   rename_i hHeld
   have HB2:=hhd hHeld
   clear hHeld hfw2 hff HB1 hf1
   go_wp2_with fail
   go_region_held3 (BoxS2 W0 p #[.string sp,.int .u8 st,.bool sl,.bool se,.bool sm,.bool so,.bool sr,.bool sc,.int .u64 mk,vt,vc] W.heap.size #[.int .u64 t,.slice ca cn cc]) (first
    |(with_reducible assumption)
    |(with_reducible exact boxS2_keep (Fr.refl _ _).drew HB2.out)
    | fail) (fail)
   rename_i hHeld
   have HB3:=hhd hHeld
   clear hHeld
   go_wp2
   go_ret2
   exact HPOST.out _ _ _ rfl (HF0.out.then0 HB3.out.2.2.2.2)
  ·by_cases hin:t ∈ ts
   ·obtain rfl:E=202:=by rw[HEQ.out];simp [hle,hin]
    have hbs:=HBS.out
    simp only [hin,decide_true] at hbs
    obtain⟨kk,hkk⟩:∃ k,posI id t ts=k:=⟨_,rfl⟩
    rw[hkk] at hbs
    clear HBS hkk hin
    have HBS:=hhd hbs
    clear hbs
    go_enter Tryz.func31,Tryz.ntmps31
    go_wp2_with fail
    try rw[hW0]
    refine HN.out.mono ?_
    rintro e w1 ⟨rfl,hf1⟩
    have HB1:=hhd (boxS2_keep hf1 HBX.out)
    go_wp2_with fail
    go_region_held3 (BoxS2 W0 p #[.string sp,.int .u8 st,.bool sl,.bool se,.bool sm,.bool so,.bool sr,.bool sc,.int .u64 mk,vt,vc] W.heap.size #[.int .u64 t,.slice ca cn cc]) (first
     |(with_reducible assumption)
     |(with_reducible exact boxS2_keep (Fr.refl _ _).drew HB1.out)
     |(with_reducible exact boxS2_keep hfw2 HB1.out)
     | fail) (first
     |(go_simp;go_at_call 92;refine(HFIT.out _ ((HF0.out.then0 HB1.out.2.2.2.2).drew)).mono ?_;rintro e w2 ⟨⟨fa,rfl⟩,hff⟩;have hfw2:Fr N0 w1 w2:=(Fr.refl N0 w1).drew.then0 hff)
     | fail)
    rename_i hHeld
    have HB2:=hhd hHeld
    clear hHeld hfw2 hff HB1 hf1
    go_wp2_with fail
    go_region_held3 (BoxS2 W0 p #[.string sp,.int .u8 st,.bool sl,.bool se,.bool sm,.bool so,.bool sr,.bool sc,.int .u64 mk,vt,vc] W.heap.size #[.int .u64 t,.slice ca cn cc]) (first
     |(with_reducible assumption)
     |(with_reducible exact boxS2_keep (Fr.refl _ _).drew HB2.out)
     | fail) (fail)
    rename_i hHeld
    have HB3:=hhd hHeld
    clear hHeld
    go_wp2_with fail
    go_region_held3 (BoxS2 W0 p #[.string sp,.int .u8 st,.bool sl,.bool se,.bool sm,.bool so,.bool sr,.bool sc,.int .u64 mk,vt,vc] W.heap.size #[.int .u64 t,.slice ca cn cc]) (first
     |(with_reducible assumption)
     |(with_reducible exact boxS2_keep (Fr.refl _ _).drew HB3.out)
     |(with_reducible exact boxS2_keep hfw4 HB3.out)
     | fail) (first
     |(go_simp;go_at_call 73;refine(HBS.out _ ((HF0.out.then0 HB3.out.2.2.2.2).drew)).mono ?_;rintro e w4 ⟨rfl,hfg⟩;have hfw4:Fr N0 _ w4:=(Fr.refl N0 _).drew.then0 hfg)
     | fail)
    rename_i hHeld
    have HB4:=hhd hHeld
    clear hHeld hfw4 hfg HB3
    go_wp2
    go_ret2
    exact HPOST.out _ _ _ rfl (HF0.out.then0 HB4.out.2.2.2.2)
   ·exact absurd (by rw[HEQ.out];simp [hle,hin]) HE.out
 ·have hEE:E=E2:=by rw[HEQ.out];simp [hE2]
  subst hEE
  go_enter Tryz.func31,Tryz.ntmps31
  go_wp2_with fail
  try rw[hW0]
  refine HN.out.mono ?_
  rintro e w1 ⟨rfl,hf1⟩
  have HB1:=hhd (boxS2_keep hf1 HBX.out)
  go_wp2_with fail
  go_region_held3 (BoxS2 W0 p #[.string sp,.int .u8 st,.bool sl,.bool se,.bool sm,.bool so,.bool sr,.bool sc,.int .u64 mk,vt,vc] W.heap.size #[.int .u64 t,.slice ca cn cc]) (first
   |(with_reducible assumption)
   |(with_reducible exact boxS2_keep (Fr.refl _ _).drew HB1.out)
   |(with_reducible exact boxS2_keep hfw2 HB1.out)
   | fail) (first
   |(go_simp;go_at_call 92;refine(HFIT.out _ ((HF0.out.then0 HB1.out.2.2.2.2).drew)).mono ?_;rintro e w2 ⟨⟨fa,rfl⟩,hff⟩;have hfw2:Fr N0 w1 w2:=(Fr.refl N0 w1).drew.then0 hff)
   | fail)
  rename_i hHeld
  have HB2:=hhd hHeld
  clear hHeld hfw2 hff HB1 hf1
  go_wp2
  go_ret2
  exact HPOST.out _ _ _ rfl (HF0.out.then0 HB2.out.2.2.2.2)
theorem add14{Q:Exit→Act→World→Prop}(W:World)(f:Nat→Value)(B:Nat)(c:CmV)(h3:f 3 = .pointer (some ⟨B,0,none⟩))(hB:W.heap[B]?=some (CCells c))
  (hQ:∀ f' W',f' 4 = .int .i64 c.n→f' 5 = .int .i64 0→Fr N0 W W'→Q .ret (frA 80 f') W'):Code.wp Tryz.prog (addB 9) Q (frA 80 f) W:=by
 obtain⟨mb,nb,lb⟩:=box_cells hB
 obtain⟨t,ca,cn,cc⟩:=c
 have HQ:=hhd hQ
 clear hQ hB
 show Code.wp _ _ _ { tmps:=#[f 0,f 1,f 2,f 3,f 4,f 5,f 6,f 7,f 8,f 9,f 10,f 11,f 12,f 13,f 14,f 15,f 16,f 17,f 18,f 19,f 20,f 21,f 22,f 23,f 24,f 25,f 26,f 27,f 28,f 29,f 30,f 31,f 32,f 33,f 34,f 35,f 36,f 37,f 38,f 39,f 40,f 41,f 42,f 43,f 44,f 45,f 46,f 47,f 48,f 49,f 50,f 51,f 52,f 53,f 54,f 55,f 56,f 57,f 58,f 59,f 60,f 61,f 62,f 63,f 64,f 65,f 66,f 67,f 68,f 69,f 70,f 71,f 72,f 73,f 74,f 75,f 76,f 77,f 78,f 79],defers:=[] } _
 rw[h3]
 clear h3
 conv=>arg 2;whnf
 go_wp2
 refine cut_useQ (n:=80) (Q:=Q) (e:=.ret) _ rfl ?_
 exact HQ.out _ _ rfl rfl (Fr.refl N0 _)
theorem ins_point{α β:Type}{P:α→β→Prop}:∀ (k:Nat) {xs:List α} {ys:List β} (_:xs.length=ys.length) (_:∀ i (h:i < xs.length) (h':i < ys.length),P xs[i] ys[i]) {a:α} {b:β} (_:P a b) (i:Nat) (h:i < (xs.take k ++ a :: xs.drop k).length) (h':i < (ys.take k ++ b :: ys.drop k).length),
  P ((xs.take k ++ a :: xs.drop k)[i]) ((ys.take k ++ b :: ys.drop k)[i])
 | 0,xs,ys,hl,hp,a,b,hab,i,h,h'=>by
  cases i with
  | zero=>exact hab
  | succ i=>exact hp i (by simpa using h) (by simpa using h')
 | k+1,[],[],hl,hp,a,b,hab,i,h,h'=>by
  cases i with
  | zero=>exact hab
  | succ i=>simp at h
 | k+1,x :: xs,y :: ys,hl,hp,a,b,hab,i,h,h'=>by
  cases i with
  | zero=>exact hp 0 (by simp) (by simp)
  | succ i=>exact ins_point k (by simpa using hl) (fun j hj hj'=>by have:=hp (j+1) (by simpa using hj) (by simpa using hj');simpa using this) hab i (by simpa using h) (by simpa using h')
theorem posI_map{α:Type}(key:α→Int)(t:Int):∀ l:List α,posI key t l=posI id t (l.map key)
 | []=>rfl
 | x :: l=>by
  have ih:=posI_map key t l
  unfold posI at ih ⊢
  simp only [List.map_cons,List.takeWhile_cons,id]
  split
  ·simpa using ih
  ·rfl
theorem addTail{Kx:Act→World→Prop}{Q:Exit→Act→World→Prop}(hKx:∀ a w,Code.wp Tryz.prog (.seq (lvFst (addB 7)) (.seq (lvFst (addB 8)) (addB 9))) Q a w→Kx a w)(W W4:World)(R:Nat→Prop)(f:Nat→Value)(p B:Nat)(q:ByteArray)(l:PL)(c:CmV)(xs:List Wr)(b N:Nat)(h:IsPL W R p l)(hl:l.Fine q N)(hN:N≤1000000000)
  (hc:Wrs W b (.slice c.a c.n c.c) xs) (hxl:xs.length≤10000000000) (hbR:0 < xs.length→¬ R b) (hBW:W.heap.size≤B) (hf4:Fr N0 W W4) (hB:W4.heap[B]?=some (CCells c))
  (h0:f 0 = .pointer (some ⟨p,0,none⟩)) (h3:f 3 = .pointer (some ⟨B,0,none⟩)) (h8:f 8 = .int .i64 (posI id c.time l.times))
  (hQ:∀ f' W' R',f' 4 = .int .i64 c.n→f' 5 = .int .i64 0→IsPL W' R' p (addIn l ⟨c.time,xs⟩)→(∀ k,R' k→R k∨W.heap.size≤k)→Fr R W W'→Q .ret (frA 80 f') W'):Code.wp Tryz.prog (lvFst (addB 6)) (Exit.then Kx Q) (frA 80 f) W4:=by
 obtain⟨vt,vc,cs,h1,hp,⟨ht,htR⟩,⟨hcs,hcl,hcR⟩,hws⟩:=h
 have lp:p < W.heap.size:=lt_of_block h1
 have hp4:W4.heap[p]?=some (PCells l.s l.marked vt vc):=(hf4.at id lp).trans h1
 have htl:=ownsRow_lt ht
 have hcsl:=ownsRow_lt hcs
 have hz4:=hf4.size
 have hlt:=hl.times;have hlc:=hl.commits
 have hpB:p≠B:=by omega
 have hsorted:cs.Pairwise fun x y=>x.time≤y.time:=by
  rw[List.pairwise_iff_getElem]
  intro i j hi hj hij
  have e1:=(hws i hi (by omega)).1
  have e2:=(hws j hj (by omega)).1
  have:=List.pairwise_iff_getElem.1 hl.ok.commits i j (by omega) (by omega) hij
  omega
 have hmap:cs.map CmV.time=l.commits.map Cm.time:=List.ext_getElem (by simp [hcl]) fun i hi hi'=>by
  simp only [List.getElem_map]
  exact(hws i (by simpa using hi) (by simpa using hi')).1
 refine(add11 W4 f p B l.s l.marked vt vc c l.times.length (posI id c.time l.times) l.times h0 h3 h8 hp4 hB (ownsRow_fr ht hf4 fun _ _=>id) rfl (posI_le _ _ _) (by omega) (fun e=>(htR p e).2 rfl) (fun e=>by have:=(htl B e).2;omega) hpB
  fun f1 W5 vt' a0 a3 hp5 hB5 ht5 hb5 hf5=>hKx _ _ ?_)
 have hz5:=hf5.size
 have hc5:=ownsRow_fr (ownsRow_fr hcs hf4 fun _ _=>id) hf5 fun k hk e=>e.elim (hcR k hk).2.1 (hcR k hk).2.2
 refine wp_seq (add12 W5 f1 p B l.s l.marked vt' vc c cs (a0.trans h0) (a3.trans h3) hp5 hB5 hc5 hsorted (by omega) fun f2 W6 b0 b3 b8 hf6=>?_)
 have hz6:=hf6.size
 have hcw6:Wrs W6 b (.slice c.a c.n c.c) xs:=by
  refine RowsK.fr0 (enc:=Wr.enc) (n:=8) (fun _=>rfl) (rowsK_frT (enc:=Wr.enc) (n:=8) (fun _=>rfl) (hc.fr0 hf4) hf5 fun hpos e=>?_) hf6
  rcases e with e | e
  ·exact hbR hpos (e ▸ hp)
  ·exact hbR hpos (htR b e).1
 refine wp_seq (add13 W6 f2 p B l.s l.marked vt' vc c cs.length (posI CmV.time c.time cs) cs b xs (b0.trans (a0.trans h0)) (b3.trans (a3.trans h3)) b8 ((hf6.at id (lt_of_block hp5)).trans hp5) ((hf6.at id (lt_of_block hB5)).trans hB5) (ownsRow_fr hc5 hf6 fun _ _=>id) rfl (posI_le _ _ _) (by omega)
  (fun e=>(hcR p e).2.1 rfl) (fun e=>by have:=(hcsl B e).2;omega) hpB hcw6 hxl fun f3 W7 vc' c' c0 c3 hp7 hB7 hct hc7 hb7 hw7 hwne hf7=>?_)
 have hz7:=hf7.size
 refine add14 W7 f3 B c (c3.trans (b3.trans (a3.trans h3))) hB7 fun f4 W8 d4 d5 hf8=>?_
 have ht5l:=ownsRow_lt ht5
 have hw7l:=ownsRow_lt hw7
 have hvt:∀ k,vt'.ownBlock=some k→(R k∨W.heap.size≤k)∧k≠p∧vc.ownBlock≠some k∧k < W6.heap.size:=fun k hk=>by
  have h2:=(ht5l k hk).2
  rcases hb5 k hk with e | e
  ·exact⟨.inl (htR k e).1,(htR k e).2,fun e'=>(hcR k e').2.2 e,by omega⟩
  ·exact⟨.inr (by omega),by omega,fun e'=>by have:=(hcsl k e').2;omega,by omega⟩
 have hvc:∀ k,vc'.ownBlock=some k→(R k∨W.heap.size≤k)∧k≠p∧vt'.ownBlock≠some k:=fun k hk=>by
  rcases hb7 k hk with e | e
  ·exact⟨.inl (hcR k e).1,(hcR k e).2.1,fun e'=>(hvt k e').2.2.1 e⟩
  ·exact⟨.inr (by omega),by omega,fun e'=>by have:=(hvt k e').2.2.2;omega⟩
 have hFr:Fr R W W8:=by
  refine((hf4.mono fun _ h=>h.elim).trans (hf5.mono (T':=fun k=>R k∨W4.heap.size≤k) fun k e=>.inl (.inl ?_)) fun k e=>?_:Fr R W W5) |>.then0 hf6 |>.trans hf7 (fun k e=>?_) |>.then0 hf8
  ·exact e.elim (fun e=>e ▸ hp) fun e=>(htR k e).1
  ·exact e.imp id fun h=>by omega
  ·exact e.elim (fun e=>.inl (e ▸ hp)) fun e=>.inl (hcR k e).1
 refine hQ f4 W8 (fun k=>R k∨W.heap.size≤k) d4 d5 ?_ (fun _ h=>h) hFr
 refine IsPL.fr (R:=fun k=>R k∨W.heap.size≤k) (T:=N0) ?_ hf8 fun _ _=>id
 refine⟨vt',vc',cs.take (posI CmV.time c.time cs) ++ c' :: cs.drop (posI CmV.time c.time cs),hp7,.inl hp,⟨?_,fun k hk=>⟨(hvt k hk).1,(hvt k hk).2.1⟩⟩,⟨?_,?_,fun k hk=>hvc k hk⟩,?_⟩
 ·have e1:(addIn l ⟨c.time,xs⟩).times=l.times.take (posI id c.time l.times) ++ c.time :: l.times.drop (posI id c.time l.times):=insBy_at id c.time l.times
  have e2:(addIn l ⟨c.time,xs⟩).times.length=l.times.length+1:=insBy_length id c.time l.times
  rw[e2,e1]
  exact ownsRow_fr (ownsRow_fr ht5 hf6 fun _ _=>id) hf7 fun k hk e=>e.elim (hvt k hk).2.1 (hvt k hk).2.2.1
 ·have e2:(cs.take (posI CmV.time c.time cs) ++ c' :: cs.drop (posI CmV.time c.time cs)).length=cs.length+1:=by
   have:=posI_le CmV.time c.time cs
   simp;omega
  rw[e2]
  exact hc7
 ·have e2:(addIn l ⟨c.time,xs⟩).commits.length=l.commits.length+1:=insBy_length Cm.time ⟨c.time,xs⟩ l.commits
  have:=posI_le CmV.time c.time cs
  rw[e2]
  simp;omega
 ·have e1:(addIn l ⟨c.time,xs⟩).commits=l.commits.take (posI CmV.time c.time cs) ++⟨c.time,xs⟩ :: l.commits.drop (posI CmV.time c.time cs):=by
   have:=insBy_at Cm.time ⟨c.time,xs⟩ l.commits
   rw[show posI Cm.time (Cm.time ⟨c.time,xs⟩) l.commits=posI CmV.time c.time cs by rw[posI_map Cm.time,posI_map CmV.time,hmap]] at this
   exact this
  have key:=ins_point (P:=fun(x:CmV) (y:Cm)=>x.time=y.time∧∃ b,Wrs W7 b (.slice x.a x.n x.c) y.writes∧(0 < y.writes.length→(R b∨W.heap.size≤b)∧b≠p∧vt'.ownBlock≠some b∧vc'.ownBlock≠some b)) (posI CmV.time c.time cs) hcl (fun i hi hi'=>?_) (a:=c') (b:=⟨c.time,xs⟩) ?_
  ·intro i hi hi'
   simp only [e1] at hi' ⊢
   exact key i hi hi'
  ·obtain⟨e,bi,hbi,hri⟩:=hws i hi hi'
   refine⟨e,bi,rowsK_frT (enc:=Wr.enc) (n:=8) (fun _=>rfl) (RowsK.fr0 (enc:=Wr.enc) (n:=8) (fun _=>rfl) (rowsK_frT (enc:=Wr.enc) (n:=8) (fun _=>rfl) (hbi.fr0 hf4) hf5 fun hpos e=>e.elim (hri hpos).2.1 (hri hpos).2.2.1) hf6) hf7 fun hpos e=>e.elim (hri hpos).2.1 (hri hpos).2.2.2,fun hpos=>?_⟩
   have hbl:bi < W.heap.size:=by
    obtain⟨a,off,cap,-,-,-,-,-,g⟩:=hbi
    exact lt_of_cell (p:=⟨bi,off+0 * 8+0,none⟩) (g 0 hpos 0 (by decide))
   refine⟨.inl (hri hpos).1,(hri hpos).2.1,fun e'=>?_,fun e'=>?_⟩
   ·rcases hb5 bi e' with e | e
    ·exact(hri hpos).2.2.1 e
    ·omega
   ·rcases hb7 bi e' with e | e
    ·exact(hri hpos).2.2.2 e
    ·omega
  ·obtain⟨bb,-,hbk⟩:=rowsK_of_row (enc:=Wr.enc) (n:=8) (fun _=>rfl) (by decide) hw7
   refine⟨hct,bb,hbk,fun hpos=>?_⟩
   obtain⟨a,off,cap,he,-,-,g3,-⟩:=hbk
   have ho:(Value.slice c'.a c'.n c'.c).ownBlock=some bb:=by rw[he,g3 hpos];rfl
   have:=(hw7l bb ho).1
   exact⟨.inr (by omega),by omega,fun e'=>by have:=(hvt bb e').2.2.2;omega,hwne bb ho⟩
theorem addYes(W:World)(R:Nat→Prop)(p:Nat)(q:ByteArray)(l:PL)(c:CmV)(xs:List Wr)(b N:Nat)(h:IsPL W R p l)(hl:l.Fine q N)(hN:N≤1000000000)(hc:Wrs W b (.slice c.a c.n c.c) xs)(hx:∀ x ∈ xs,x.wf)(hxl:xs.length≤10000000000)(hbR:0 < xs.length→¬ R b)
  (hE:addErr l ⟨c.time,xs⟩=0):Calls Tryz.prog 31 #[.pointer (some ⟨p,0,none⟩),.agg c.enc.toArray] W (AddPost W R p (addIn l ⟨c.time,xs⟩,0)):=by
 have h0:=h
 have hTail:=fun(W4:World) (hf4:Fr N0 W W4) (hB4:W4.heap[W.heap.size]?=some (CCells c)) (Kx:Act→World→Prop) (Q:Exit→Act→World→Prop) (f:Nat→Value) hKx g0 g3 g8 hQ=>addTail (Kx:=Kx) (Q:=Q) hKx W W4 R f p W.heap.size q l c xs b N h hl hN hc hxl hbR (Nat.le_refl _) hf4 hB4 g0 g3 g8 hQ
 obtain⟨vt,vc,cs,h1,hp,⟨h3,-⟩,-⟩:=h
 obtain⟨W0,hW0⟩:∃ W0,W.alloc (CCells c)=W0:=⟨_,rfl⟩
 have hf0:Fr N0 W W0:=by rw[← hW0];exact(Fr.refl _ _).alloc _
 have hB:W0.heap[W.heap.size]?=some (CCells c):=by rw[← hW0];exact World.alloc_heap_new W _
 have h1':=(hf0.at id (lt_of_block h1)).trans h1
 obtain⟨m,n,lp⟩:=box_cells h1'
 obtain⟨mb,nb,lb⟩:=box_cells hB
 have hn:=pNone_any W0 p l.s.pred (m 0) hl.size'
 have hfit:=fun w' (hf:Fr N0 W w')=>fit_any w' l.s c b xs (hc.fr0 hf) hx hxl
 obtain⟨bt,-,hrow⟩:=rowsK_of_row (enc:=enc4) (n:=1) ins4_len (by decide) h3
 have hI:Ints .u64 W bt vt l.times:=by
  obtain⟨a,off,cap,g1,g2,g3,g4,g5,g6⟩:=hrow
  exact⟨a,off,cap,g1,g2,g3,g4,g5,fun i hi=>by simpa [enc4] using g6 i hi 0 (by decide),hl.twf⟩
 have hbs:=fun w' (hf:Fr N0 W w')=>bs_any w' bt vt l.times (hI.fr0 hf) c.time (hl.ok.times.imp fun h=>Int.le_of_lt h) (by have:=hl.times;omega)
 have heq:=addErr_fit l c.time xs
 rw[hE] at heq
 obtain⟨e1,e2,e3⟩:fitAll l.s c.time xs=0∧¬ c.time≤l.marked∧¬ c.time ∈ l.times:=by
  split at heq
  ·rename_i g;exact absurd heq.symm g
  ·rename_i g
   split at heq
   ·simp at heq
   ·rename_i g'
    split at heq
    ·simp at heq
    ·rename_i g'';exact⟨by simpa using g,g',g''⟩
 rw[e1] at hfit
 simp only [e3,decide_false] at hbs
 obtain⟨kk,hkk⟩:∃ k,posI id c.time l.times=k:=⟨_,rfl⟩
 simp only [hkk] at hbs hTail
 have hb:BoxS2 W0 p #[.string l.s.pred,.int .u8 l.s.ty,.bool l.s.list,.bool l.s.exact_,.bool l.s.term,.bool l.s.order,.bool l.s.rev,.bool l.s.count,.int .u64 l.marked,vt,vc] W.heap.size #[.int .u64 c.time,.slice c.a c.n c.c] W0:=⟨m,mb,lp,lb,Fr.refl _ _⟩
 have HN:=hhd hn;have HFIT:=hhd hfit;have HBS:=hhd hbs;have HF0:=hhd hf0;have HBX:=hhd hb;have HTAIL:=hhd hTail;have HBB:=hhd hB
 have hPost:∀ a w' R',IsPL w' R' p (addIn l ⟨c.time,xs⟩)→(∀ k,R' k→R k∨W.heap.size≤k)→Fr R W w'→AddPost W R p (addIn l ⟨c.time,xs⟩,0) (.returned (.tuple #[.int .i64 a,.int .i64 0])) w':=fun a w' R' g1 g2 g3=>⟨⟨a,rfl⟩,R',g1,g2,g3⟩
 obtain⟨AP,hAP⟩:∃ A,AddPost W R p (addIn l ⟨c.time,xs⟩,0)=A:=⟨_,rfl⟩
 rw[hAP] at hPost ⊢
 have HPOST:=hhd hPost
 clear hn hfit hbs heq hf0 hb hI hrow h3 h1' h1 h0 hp m n mb nb hB hE e1 e3 hc hPost hAP hkk hTail
 obtain⟨⟨sp,st,sl,se,sm,so,sr,sc⟩,mk,ts,cms⟩:=l
 obtain⟨t,ca,cn,cc⟩:=c
 simp only [CmV.enc,Sch.enc] at *
 clear hl hx hxl hN hbR
 have hle:¬ t≤mk:=e2
 clear e2
 go_enter Tryz.func31,Tryz.ntmps31
 go_wp2_with fail
 try rw[hW0]
 refine HN.out.mono ?_
 rintro e w1 ⟨rfl,hf1⟩
 have HB1:=hhd (boxS2_keep hf1 HBX.out)
 go_wp2_with fail
 go_region_held3 (BoxS2 W0 p #[.string sp,.int .u8 st,.bool sl,.bool se,.bool sm,.bool so,.bool sr,.bool sc,.int .u64 mk,vt,vc] W.heap.size #[.int .u64 t,.slice ca cn cc]) (first
  |(with_reducible assumption)
  |(with_reducible exact boxS2_keep (Fr.refl _ _).drew HB1.out)
  |(with_reducible exact boxS2_keep hfw2 HB1.out)
  | fail) (first
  |(go_simp;go_at_call 92;refine(HFIT.out _ ((HF0.out.then0 HB1.out.2.2.2.2).drew)).mono ?_;rintro e w2 ⟨⟨fa,rfl⟩,hff⟩;have hfw2:Fr N0 w1 w2:=(Fr.refl N0 w1).drew.then0 hff)
  | fail)
 rename_i hHeld
 have HB2:=hhd hHeld
 clear hHeld hfw2 hff HB1 hf1
 go_wp2_with fail
 go_region_held3 (BoxS2 W0 p #[.string sp,.int .u8 st,.bool sl,.bool se,.bool sm,.bool so,.bool sr,.bool sc,.int .u64 mk,vt,vc] W.heap.size #[.int .u64 t,.slice ca cn cc]) (first
  |(with_reducible assumption)
  |(with_reducible exact boxS2_keep (Fr.refl _ _).drew HB2.out)
  | fail) (fail)
 rename_i hHeld
 have HB3:=hhd hHeld
 clear hHeld
 go_wp2_with fail
 go_region_held3 (BoxS2 W0 p #[.string sp,.int .u8 st,.bool sl,.bool se,.bool sm,.bool so,.bool sr,.bool sc,.int .u64 mk,vt,vc] W.heap.size #[.int .u64 t,.slice ca cn cc]) (first
  |(with_reducible assumption)
  |(with_reducible exact boxS2_keep (Fr.refl _ _).drew HB3.out)
  |(with_reducible exact boxS2_keep hfw4 HB3.out)
  | fail) (first
  |(go_simp;go_at_call 73;refine(HBS.out _ ((HF0.out.then0 HB3.out.2.2.2.2).drew)).mono ?_;rintro e w4 ⟨rfl,hfg⟩;have hfw4:Fr N0 _ w4:=(Fr.refl N0 _).drew.then0 hfg)
  | fail)
 rename_i hHeld
 have HB4:=hhd hHeld
 clear hHeld hfw4 hfg HB3
 go_wp2_with fail
 have HW4:=HB4.out.2.2.2.2
 rename_i Kx hKx
 refine wp_frA _ rfl ?_
 refine HTAIL.out _ (HF0.out.then0 HW4) ((HW4.at id lb).trans HBB.out) Kx _ _ hKx rfl rfl rfl fun f' W' R' d4 d5 g1 g2 g3=>?_
 exact bodyPost_ret (v:=.tuple #[.int .i64 cn,.int .i64 0]) (by simp [results,frA,Tryz.results31,go_sem,d4,d5]) rfl (HPOST.out _ _ _ g1 g2 g3)
theorem add_any(W:World)(R:Nat→Prop)(p:Nat)(q:ByteArray)(l:PL)(c:CmV)(xs:List Wr)(b N:Nat)(h:IsPL W R p l)(hl:l.Fine q N)(hN:N≤1000000000)(hc:Wrs W b (.slice c.a c.n c.c) xs)(hx:∀ x ∈ xs,x.wf)(hxl:xs.length≤10000000000)(hbR:0 < xs.length→¬ R b) :
  Calls Tryz.prog 31 #[.pointer (some ⟨p,0,none⟩),.agg c.enc.toArray] W (AddPost W R p (addPL l ⟨c.time,xs⟩)):=by
 unfold addPL
 split
 ·rename_i hE;exact addYes W R p q l c xs b N h hl hN hc hx hxl hbR hE
 ·rename_i hE;exact addNot W R p q l c xs b N h hl hN hc hx hE
theorem add_all(W:World)(R:Nat→Prop)(p:Nat)(q:ByteArray)(l:PL)(c:CmV)(xs:List Wr)(b N:Nat)(h:IsPL W R p l)(hl:l.Fine q N)(hN:N≤1000000000)(hc:Wrs W b (.slice c.a c.n c.c) xs)(hx:∀ x ∈ xs,x.wf)(hbR:0 < xs.length→¬ R b) :
  Calls Tryz.prog 31 #[.pointer (some ⟨p,0,none⟩),.agg c.enc.toArray] W (AddPost W R p (addPL l ⟨c.time,xs⟩)):=by
 by_cases h0:xs.length≤10000000000
 ·exact add_any W R p q l c xs b N h hl hN hc hx h0 hbR
 ·have hE:addErr l ⟨c.time,xs⟩=180:=by
   unfold addErr
   rw[if_pos (.inr (.inr (by show 256 < xs.length;omega)))]
  unfold addPL
  rw[if_neg (by rw[hE];decide)]
  exact addNot W R p q l c xs b N h hl hN hc hx (by rw[hE];decide)
end
end Go.Proofs.YtefepfiijoafbaaGreat
