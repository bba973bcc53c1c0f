/- Post ByTime Own Fit Small Eq4 -/
import Derived.Deep.QuietTactic
import Derived.Test.YtefepfiijoafbaaGreatQBS
import Derived.Test.YtefepfiijoafbaaGreatQDelW
set_option linter.unusedVariables false
set_option linter.unusedSimpArgs false
set_option maxRecDepth 100000
set_option maxHeartbeats 2000000
namespace Go.Proofs.YtefepfiijoafbaaGreat
section
open Go.RowKit Go.Shelf Go.Maps Go.Sort
attribute [local go_sem] Oper.semAt_some
attribute [local irreducible] wpQuiet
theorem rowsK_frT{α:Type}{enc:α→List Value}{n:Nat}(hn:∀ x,(enc x).length=n){w w':World}{T:Nat→Prop}{b:Nat}{v:Value}{xs:List α}(h:RowsK enc n w b v xs)(hf:Fr T w w')(hb:0 < xs.length→¬ T b):RowsK enc n w' b v xs:=by
 obtain⟨a,off,cap,h1,h2,h3,h4,h5,h6⟩:=h
 refine⟨a,off,cap,h1,h2,h3,h4,h5,fun i hi c hc=>?_⟩
 have hc':c < (enc xs[i]).length:=by rw[hn];exact hc
 have:=h6 i hi c hc
 rw[List.getElem?_eq_getElem hc'] at this ⊢
 exact hf.cell (p:=⟨b,off+i * n+c,none⟩) (hb (by omega)) this
def IsPL(W:World)(R:Nat→Prop)(p:Nat)(l:PL):Prop:=
 ∃ (vt vc:Value) (cs:List CmV),
  W.heap[p]?=some (.cells #[.string l.s.pred,.int .u8 l.s.ty,.bool l.s.list,.bool l.s.exact_,.bool l.s.term,.bool l.s.order,.bool l.s.rev,.bool l.s.count,.int .u64 l.marked,vt,vc] 105 (0,0))∧R p ∧
  (W.ownsRow 0 33 1 vt l.times.length (l.times.flatMap enc4)∧∀ k,vt.ownBlock=some k→R k∧k≠p) ∧
  (W.ownsRow 0 80 2 vc cs.length (cs.flatMap CmV.enc)∧cs.length=l.commits.length∧∀ k,vc.ownBlock=some k→R k∧k≠p∧vt.ownBlock≠some k) ∧
  ∀ i (h:i < cs.length) (h':i < l.commits.length),cs[i].time=l.commits[i].time∧∃ b,Wrs W b (.slice cs[i].a cs[i].n cs[i].c) l.commits[i].writes∧(0 < l.commits[i].writes.length→R b∧b≠p∧vt.ownBlock≠some b∧vc.ownBlock≠some b)
theorem IsPL.fr{W W':World}{R T:Nat→Prop}{p:Nat}{l:PL}(h:IsPL W R p l)(hf:Fr T W W')(hT:∀ k,R k→¬ T k):IsPL W' R p l:=by
 obtain⟨vt,vc,cs,h1,h2,⟨h3,h4⟩,⟨h5,h6,h7⟩,h8⟩:=h
 refine⟨vt,vc,cs,(hf.at (k:=p) (hT p h2) (lt_of_block h1)).trans h1,h2,⟨ownsRow_fr h3 hf fun k hk=>hT k (h4 k hk).1,h4⟩,⟨ownsRow_fr h5 hf fun k hk=>hT k (h7 k hk).1,h6,h7⟩,fun i hi hi'=>?_⟩
 obtain⟨e,b,hb,hr⟩:=h8 i hi hi'
 exact⟨e,b,rowsK_frT (enc:=Wr.enc) (n:=8) (fun _=>rfl) hb hf fun h0=>hT b (hr h0).1,hr⟩
theorem pNone_any(W:World)(p:Nat)(s:ByteArray)(hc:W.cell? ⟨p,0,none⟩=some (.string s))(hs:0 < s.size):Calls Tryz.prog 71 #[.pointer (some ⟨p,0,none⟩)] W fun e w'=>e = .returned (.bool false)∧Fr N0 W w':=by
 have h1:¬ s.toList = []:=by
  intro h
  have:s.toList.length=0:=by rw[h];rfl
  rw[ByteArray.toList_eq,Array.length_toList] at this
  have e:s.data.size=s.size:=rfl
  omega
 have h2:(!s.toList.isEmpty)=true:=by simpa using h1
 have h3:s.toList.isEmpty=false:=by simpa using h1
 go_enter Tryz.func71,Tryz.ntmps71
 go_wp2
 go_ret
 exact⟨rfl,Fr.refl _ _⟩
theorem pNew_any(w:World)(s:Sch):Calls Tryz.prog 30 #[.agg s.enc.toArray] w fun e w'=>
  ((schMay s=0∧∃ p,e = .returned (.tuple #[.pointer (some ⟨p,0,none⟩),.int .i64 0])∧w.heap.size≤p∧IsPL w' (fun k=>k=p) p { s:=s })∨(schMay s≠0∧e = .returned (.tuple #[.pointer none,.int .i64 (schMay s)])))∧Fr N0 w w':=by
 have hS:=fun W=>tSchema_any s W
 obtain⟨sp,st,sl,se,sm,so,sr,sc⟩:=s
 unfold Sch.enc at hS ⊢
 simp only at hS ⊢
 obtain⟨M,hM⟩:∃ M,schMay ⟨sp,st,sl,se,sm,so,sr,sc⟩=M:=⟨_,rfl⟩
 rw[hM]
 simp only [hM] at hS
 have HS:=hhd hS
 clear hS hM
 by_cases h0:M=0
 ·subst h0
  go_enter Tryz.func30,Tryz.ntmps30
  go_wp2_with fail
  refine(HS.out _).mono ?_
  rintro e w1 ⟨rfl,hf1⟩
  have hb:=hf1.at (k:=w.heap.size) id (by simp) |>.trans (World.alloc_heap_new w _)
  obtain⟨mb,nb,lb⟩:=box_cells hb
  have HF:=hhd hf1
  clear hf1 hb
  go_wp2
  go_ret2
  have hfr:=((Fr.refl N0 w).alloc (.cells #[.string sp,.int .u8 st,.bool sl,.bool se,.bool sm,.bool so,.bool sr,.bool sc] 32)).then0 HF.out
  refine⟨.inl ⟨trivial,w1.heap.size,rfl,by have:=hfr.size;omega,⟨_,_,[],World.alloc_heap_new w1 _,rfl,⟨World.ownsRow_nil _ _ _ _,fun k hk=>by cases hk⟩,⟨World.ownsRow_nil _ _ _ _,rfl,fun k hk=>by cases hk⟩,fun i h=>by simp at h⟩⟩,hfr.alloc _⟩
 ·go_enter Tryz.func30,Tryz.ntmps30
  go_wp2_with fail
  refine(HS.out _).mono ?_
  rintro e w1 ⟨rfl,hf1⟩
  have HF:=hhd hf1
  clear hf1
  go_wp2
  go_ret2
  exact⟨.inr ⟨h0,rfl⟩,((Fr.refl N0 w).alloc _).then0 HF.out⟩
end
section
open Go.RowKit Go.Shelf
attribute [local go_sem] Oper.semAt_some
def cmpI(a b:Int):Int:=if a < b then -1 else if b < a then 1 else 0
theorem cmp4_any(a b:Int)(w:World):Calls Tryz.prog 148 #[.int .u64 a,.int .u64 b] w fun e w'=>e = .returned (.int .i64 (cmpI a b))∧w'=w:=by
 by_cases h1:a < b
 ·rw[show cmpI a b = -1 by simp [cmpI,h1]]
  go_enter Tryz.func148,Tryz.ntmps148
  go_wp2_with (go_at_call 192;refine(isNaN4_any _ _).mono ?_;rintro e w1 ⟨rfl,rfl⟩)
  go_ret
  exact⟨rfl,rfl⟩
 ·by_cases h2:b < a
  ·rw[show cmpI a b=1 by simp [cmpI,h1,h2]]
   go_enter Tryz.func148,Tryz.ntmps148
   go_wp2_with (go_at_call 192;refine(isNaN4_any _ _).mono ?_;rintro e w1 ⟨rfl,rfl⟩)
   go_ret
   exact⟨rfl,rfl⟩
  ·rw[show cmpI a b=0 by simp [cmpI,h1,h2]]
   go_enter Tryz.func148,Tryz.ntmps148
   go_wp2_with (go_at_call 192;refine(isNaN4_any _ _).mono ?_;rintro e w1 ⟨rfl,rfl⟩)
   go_ret
   exact⟨rfl,rfl⟩
theorem byTime_any(t u:Int)(v:Value)(w:World):Calls Tryz.prog 95 #[.agg #[.int .u64 t,v],.int .u64 u] w fun e w'=>e = .returned (.int .i64 (cmpI t u))∧Fr N0 w w':=by
 obtain⟨c,hc⟩:∃ c,cmpI t u=c:=⟨_,rfl⟩
 have h:=fun W=>cmp4_any t u W
 rw[hc] at h ⊢
 have H:=hhd h
 clear h hc
 go_enter Tryz.func95,Tryz.ntmps95
 go_wp2_with (go_at_call 148;refine(H.out _).mono ?_;rintro e w1 ⟨rfl,rfl⟩)
 go_ret
 exact⟨rfl,(Fr.refl _ _).alloc _⟩
theorem bsc_any(w:World)(b:Nat)(v:Value)(xs:List CmV)(h:RowsK CmV.enc 2 w b v xs)(t:Int)(hs:xs.Pairwise fun x y=>x.time≤y.time)(hl:xs.length≤17592186044416) :
  Calls Tryz.prog 94 #[v,.int .u64 t,.func (.func 95) #[] #[]] w fun e w'=>(∃ f,e = .returned (.tuple #[.int .i64 (posI CmV.time t xs),.bool f]))∧Fr N0 w w':=by
 obtain⟨a,off,cap,rfl,h1,h2,h3,-,h6⟩:=h
 have HC:=hhd h6
 have HS:=hhd hs
 obtain⟨p1,hP⟩:∃ P:Nat,posI CmV.time t xs=P:=⟨_,rfl⟩
 have hPe:∀ i,i≤xs.length→(∀ k (h:k < xs.length),k < i→xs[k].time < t)→(∀ k (h:k < xs.length),i≤k→t≤xs[k].time)→p1=i:=fun i hi g1 g2=>by
  rw[← hP];exact posI_at (key:=CmV.time) hi g1 g2
 rw[hP]
 have HP:=hhd hPe
 clear hP hPe hs h6
 go_enter Tryz.func94,Tryz.ntmps94
 go_wp2
 go_loopw [9,10] (fun si sj wr=>∃ (i j:Nat),i≤j∧j≤xs.length∧si = .int .i64 i∧sj = .int .i64 j∧(∀ k (h:k < xs.length),k < i→xs[k].time < t)∧(∀ k (h:k < xs.length),j≤k→t≤xs[k].time)∧Fr N0 w wr) (fun si sj _=>(intOf sj).toNat - (intOf si).toNat)
 case atStart=>exact⟨0,xs.length,Nat.zero_le _,Nat.le_refl _,by go_num,rfl,fun _ _ h=>absurd h (by omega),fun _ _ h=>absurd h (by omega),Fr.refl _ _⟩
 case round=>
  obtain⟨i,j,hij,hjn,rfl,rfl,hlo,hhi,hfr⟩:=hrel
  by_cases hlt:i < j
  ·obtain rfl:=h3 (by omega)
   have hh1:(i+j) / 2 < xs.length:=by omega
   have e0:=hfr.cell (fun h=>h) (HC.out _ hh1 0 (by decide))
   have e1:=hfr.cell (fun h=>h) (HC.out _ hh1 1 (by decide))
   simp only [CmV.enc,List.getElem?_cons_zero,List.getElem?_cons_succ,Nat.add_zero] at e0 e1
   obtain⟨f,hf⟩:∃ f,xs[(i+j) / 2].time=f:=⟨_,rfl⟩
   obtain⟨vv,hvv⟩:∃ v,Value.slice xs[(i+j) / 2].a xs[(i+j) / 2].n xs[(i+j) / 2].c=v:=⟨_,rfl⟩
   rw[hf] at e0
   rw[hvv] at e1
   have hlo':f < t→∀ k (h:k < xs.length),k < (i+j) / 2+1→xs[k].time < t:=fun hft k hk hki=>by
    by_cases e:k=(i+j) / 2
    ·subst e;rw[hf];exact hft
    ·have:=List.pairwise_iff_getElem.1 HS.out k ((i+j) / 2) hk hh1 (by omega);rw[hf] at this;omega
   have hhi':¬ f < t→∀ k (h:k < xs.length),(i+j) / 2≤k→t≤xs[k].time:=fun hft k hk hki=>by
    by_cases e:k=(i+j) / 2
    ·subst e;rw[hf];omega
    ·have:=List.pairwise_iff_getElem.1 HS.out ((i+j) / 2) k hh1 hk (by omega);rw[hf] at this;omega
   have HLO:=hhd hlo;have HHI:=hhd hhi;have HLO':=hhd hlo';have HHI':=hhd hhi';have HFR:=hhd hfr
   clear hlo hhi hlo' hhi' hf hfr hvv
   have i1:(0:Int)≤((i:Int)+(j:Int)) / 2:=by omega
   have i2:((i:Int)+(j:Int)) / 2 < (xs.length:Int):=by omega
   have i3:((i:Int)+(j:Int)) / 2 < (j:Int):=by omega
   have hby:=fun W=>byTime_any f t vv W
   obtain⟨c,hc⟩:∃ c,cmpI f t=c:=⟨_,rfl⟩
   have hcl:f < t↔c < 0:=by
    rw[← hc];unfold cmpI
    split
    ·simp_all
    ·split <;> simp_all
   rw[hc] at hby
   have HBY:=hhd hby
   clear hby hc
   by_cases hft:f < t
   ·have hc0:=hcl.1 hft
    go_wp2_with (go_at_call 95;refine(HBY.out _).mono ?_;rintro e w1 ⟨rfl,hf1⟩)
    go_roundw
    case rel=>exact⟨(i+j) / 2+1,j,by omega,hjn,by go_num,rfl,HLO'.out hft,HHI.out,HFR.out.then0 hf1⟩
    case measure=>simp [intOf];omega
   ·have hc0:¬ c < 0:=fun h=>hft (hcl.2 h)
    go_wp2_with (go_at_call 95;refine(HBY.out _).mono ?_;rintro e w1 ⟨rfl,hf1⟩)
    go_roundw
    case rel=>exact⟨i,(i+j) / 2,by omega,by omega,rfl,by go_num,HLO.out,HHI'.out hft,HFR.out.then0 hf1⟩
    case measure=>simp [intOf];omega
  ·obtain rfl:i=j:=by omega
   have he:=HP.out i hjn hlo hhi
   subst he
   have HFR:=hhd hfr
   clear hlo hhi HP
   by_cases hin:p1 < xs.length
   ·obtain rfl:=h3 (by omega)
    have e0:=hfr.cell (fun h=>h) (HC.out _ hin 0 (by decide))
    have e1:=hfr.cell (fun h=>h) (HC.out _ hin 1 (by decide))
    simp only [CmV.enc,List.getElem?_cons_zero,List.getElem?_cons_succ,Nat.add_zero] at e0 e1
    obtain⟨f,hf⟩:∃ f,xs[p1].time=f:=⟨_,rfl⟩
    obtain⟨vv,hvv⟩:∃ v,Value.slice xs[p1].a xs[p1].n xs[p1].c=v:=⟨_,rfl⟩
    rw[hf] at e0
    rw[hvv] at e1
    have i2:(p1:Int) < (xs.length:Int):=by omega
    have HBY:=hhd fun W=>byTime_any f t vv W
    clear hf hvv hfr
    go_wp2_with (go_at_call 95;refine(HBY.out _).mono ?_;rintro e w1 ⟨rfl,hf1⟩)
    go_ret2
    exact⟨⟨_,rfl⟩,HFR.out.then0 hf1⟩
   ·have i2:¬(p1:Int) < (xs.length:Int):=by omega
    clear hfr
    go_wp2
    go_ret2
    exact⟨.inl rfl,HFR.out⟩
theorem insC_size:(Tryz.prog.info? 80).map (·.size)=some 2:=by kernel_rfl
theorem slice_of_row{w:World}{base:Nat}{e:TypeId}{k:Nat}{v:Value}{n:Nat}{xs:List Value}(h:w.ownsRow base e k v n xs):∃ a c,v = .slice a n c:=by
 rcases h.2 with⟨rfl,rfl⟩ | ⟨g,cap,cur,rfl,-⟩
 ·exact⟨_,_,rfl⟩
 ·exact⟨_,_,rfl⟩
theorem own_any(w:World)(b:Nat)(c:CmV)(xs:List Wr)(h:Wrs w b (.slice c.a c.n c.c) xs)(hl:xs.length≤10000000000) :
  Calls Tryz.prog 72 #[.agg c.enc.toArray] w fun e w'=>∃ c':CmV,c'.time=c.time∧e = .returned (.agg c'.enc.toArray)∧w'.ownsRow w.heap.size 61 8 (.slice c'.a c'.n c'.c) xs.length (xs.flatMap Wr.enc)∧Fr N0 w w':=by
 have hcl:=fun(W:World) (hf:Fr N0 w W)=>(cloneW_any W b _ xs (h.fr0 hf) hl)
 obtain⟨t,a,n,cp⟩:=c
 simp only [CmV.enc] at hcl h ⊢
 have HC:=hhd hcl
 clear hcl h
 go_enter Tryz.func72,Tryz.ntmps72
 go_wp2_with fail
 refine(HC.out _ (((Fr.refl N0 w).alloc _).alloc _)).mono ?_
 rintro e w1 ⟨v',rfl,hrow,-,hf⟩
 obtain⟨a',c',rfl⟩:=slice_of_row hrow
 have hb1:=hf.at (k:=w.heap.size) id (by simp;omega) |>.trans ((Below.heap_alloc _ _ _ (by simp)).trans (World.alloc_heap_new w _))
 have hb2:=hf.at (k:=(w.alloc (Obj.cells #[Value.int IntKind.u64 t,Value.slice a n cp] 80)).heap.size) id (by simp) |>.trans (World.alloc_heap_new _ _)
 rw[World.size_alloc] at hb2
 obtain⟨m1,n1,l1⟩:=box_cells hb1
 obtain⟨m2,n2,l2⟩:=box_cells hb2
 go_wp2_with fail
 obtain⟨V,hV⟩:∃ V,w1.setCell ⟨w.heap.size,1,none⟩ (Value.slice a' xs.length c')=V:=⟨_,rfl⟩
 have hVf:Fr N0 w V:=by rw[← hV];exact(((((Fr.refl N0 w).alloc _).alloc _).then0 hf).setCell (.inr (Nat.le_refl _)) _)
 have hV2:V.heap[w.heap.size+1]?=some (Obj.cells #[Value.int IntKind.u64 0,Value.slice none 0 0] 80 (0,0)):=by rw[← hV];exact(Below.heap_setCell _ _ _ _ (by simp)).trans hb2
 have hrow':w1.ownsRow w.heap.size 61 8 (.slice a' xs.length c') xs.length (xs.flatMap Wr.enc):=by
  refine⟨hrow.1,hrow.2.imp id ?_⟩
  rintro⟨g,cap,cur,h1,h2,h3⟩
  exact⟨g,cap,cur,h1,by simp at h2;omega,h3⟩
 have hne:∀ k,(Value.slice a' xs.length c').ownBlock=some k→k≠w.heap.size∧k≠w.heap.size+1:=fun k hk=>by
  have:=(ownsRow_lt hrow k hk).1
  simp at this
  omega
 have hVr:V.ownsRow w.heap.size 61 8 (.slice a' xs.length c') xs.length (xs.flatMap Wr.enc):=by
  rw[← hV]
  exact ownsRow_fr hrow' ((Fr.refl (fun k=>k=w.heap.size) w1).setCell (.inl rfl) _) fun k hk e=>(hne k hk).1 e
 clear hrow hrow' hb1 hb2 m1 n1 l1 m2 n2 l2
 rw[hV]
 clear hV hf
 have e1:=heap_setCell_same V (w.heap.size+1) 0 _ _ (Value.int IntKind.u64 t) hV2
 have e2:=heap_setCell_same _ (w.heap.size+1) 1 _ _ (Value.slice a' xs.length c') e1
 refine bodyPost_ret_by (results_cell_row rfl _ _ (w.heap.size+1) 80 _ (0,0) _ rfl e2 Tryz.underlying80 rfl insC_size) rfl ?_
 refine⟨⟨t,a',xs.length,c'⟩,rfl,rfl,ownsRow_fr hVr (((Fr.refl (fun k=>k=w.heap.size+1) V).setCell (.inl rfl) _).setCell (.inl rfl) _) fun k hk e=>(hne k hk).2 e,(hVf.setCell (.inr (by simp)) _).setCell (.inr (by simp)) _⟩
noncomputable def fitAll(s:Sch)(t:Int)(xs:List Wr):Int:=if t=0∨xs.length=0∨256 < xs.length then 180 else firstNZ (xs.map (tFits s))
theorem firstNZ_at:∀ {l:List Int} {k:Nat} (hk:k < l.length),(∀ j (h:j < l.length),j < k→l[j]=0)→l[k]≠0→firstNZ l=l[k]
 | x :: l,0,hk,hn,h=>by simp only [List.getElem_cons_zero] at h ⊢;simp [firstNZ,h]
 | x :: l,k+1,hk,hn,h=>by
  have h0:=hn 0 (by simp) (by omega)
  simp only [List.getElem_cons_zero] at h0
  simp only [List.getElem_cons_succ] at h ⊢
  rw[firstNZ,if_pos h0]
  exact firstNZ_at (by simpa using hk) (fun j hj hjk=>by have:=hn (j+1) (by simpa using hj) (by omega);rwa [List.getElem_cons_succ] at this) h
theorem firstNZ_none:∀ {l:List Int},(∀ x ∈ l,x=0)→firstNZ l=0
 | [],_=>rfl
 | x :: l,h=>by rw[firstNZ,if_pos (h x (List.mem_cons_self ..))];exact firstNZ_none fun y hy=>h y (List.mem_cons_of_mem _ hy)
theorem fit_all(w:World)(s:Sch)(c:CmV)(b:Nat)(xs:List Wr)(h:Wrs w b (.slice c.a c.n c.c) xs)(hx:∀ x ∈ xs,x.wf) :
  Calls Tryz.prog 92 #[.agg s.enc.toArray,.agg c.enc.toArray] w fun e w'=>(∃ a:Int,e = .returned (.tuple #[.int .i64 a,.int .i64 (fitAll s c.time xs)]))∧Fr N0 w w':=by
 have hF:=fun(x:Wr) (hx:x.wf) W=>tFits_any s x hx W
 obtain⟨t,a,n,cp⟩:=c
 obtain⟨a',off,cap,he,h1,h2,h3,h4,h5⟩:=h
 injection he with ha hn hc
 subst ha hn hc
 simp only [CmV.enc]
 obtain⟨E,hE⟩:∃ E,fitAll s t xs=E:=⟨_,rfl⟩
 obtain⟨T,hT⟩:∃ T:Wr→Int,(fun x=>tFits s x)=T:=⟨_,rfl⟩
 have hE':E=if t=0∨xs.length=0∨256 < xs.length then 180 else firstNZ (xs.map T):=by rw[← hE,← hT];rfl
 have hF':∀ (x:Wr),x.wf→∀ W,Calls Tryz.prog 145 #[.agg s.enc.toArray,.agg x.enc.toArray] W fun e w'=>e = .returned (.int .i64 (T x))∧Fr N0 W w':=by rw[← hT];exact hF
 rw[hE]
 clear hE hT hF
 have HC:=hhd h5;have HX:=hhd hx;have HF:=hhd hF';have HE:=hhd hE'
 clear h5 hx hF' hE' h4
 obtain⟨sp,st,sl,se,sm,so,sr,sc⟩:=s
 unfold Sch.enc at HF ⊢
 simp only at HF ⊢
 by_cases ht:t=0
 ·have hE:E=180:=by rw[HE.out,if_pos (.inl ht)]
  subst ht hE
  go_enter Tryz.func92,Tryz.ntmps92
  go_wp2
  go_ret2
  exact⟨⟨_,rfl⟩,((Fr.refl _ _).alloc _).alloc _⟩
 by_cases hn0:xs.length=0
 ·have hE:E=180:=by rw[HE.out,if_pos (.inr (.inl hn0))]
  subst hE
  have hn0':(xs.length:Int)=0:=by omega
  go_enter Tryz.func92,Tryz.ntmps92
  go_wp2
  go_ret2
  exact⟨⟨_,rfl⟩,((Fr.refl _ _).alloc _).alloc _⟩
 have hn0':¬(xs.length:Int)=0:=by omega
 by_cases hn1:256 < xs.length
 ·have hE:E=180:=by rw[HE.out,if_pos (.inr (.inr hn1))]
  subst hE
  have hn1':(256:Int) < (xs.length:Int):=by omega
  go_enter Tryz.func92,Tryz.ntmps92
  go_wp2
  go_ret2
  exact⟨⟨_,rfl⟩,((Fr.refl _ _).alloc _).alloc _⟩
 have hn1':¬(256:Int) < (xs.length:Int):=by omega
 have hl:xs.length≤10000000000:=by omega
 have hE:E=firstNZ (xs.map T):=by rw[HE.out,if_neg (by rintro(h | h | h) <;> contradiction)]
 have HE2:=hhd hE
 clear hE HE
 obtain⟨W0,hW0⟩:∃ W0,(w.alloc (Obj.cells #[.string sp,.int .u8 st,.bool sl,.bool se,.bool sm,.bool so,.bool sr,.bool sc] 32)).alloc (Obj.cells #[.int .u64 t,.slice a xs.length cp] 80)=W0:=⟨_,rfl⟩
 have hf0:Fr N0 w W0:=by rw[← hW0];exact((Fr.refl _ _).alloc _).alloc _
 have hb1:W0.heap[w.heap.size]?=some (Obj.cells #[.string sp,.int .u8 st,.bool sl,.bool se,.bool sm,.bool so,.bool sr,.bool sc] 32 (0,0)):=by rw[← hW0];exact(Below.heap_alloc _ _ _ (by simp)).trans (World.alloc_heap_new w _)
 have hb2:W0.heap[w.heap.size+1]?=some (Obj.cells #[.int .u64 t,.slice a xs.length cp] 80 (0,0)):=by
  rw[← hW0]
  have:=World.alloc_heap_new (w.alloc (Obj.cells #[.string sp,.int .u8 st,.bool sl,.bool se,.bool sm,.bool so,.bool sr,.bool sc] 32)) (Obj.cells #[.int .u64 t,.slice a xs.length cp] 80)
  rwa [World.size_alloc] at this
 have ht':(t == 0)=false:=by simpa using ht
 have hn0'':((xs.length:Int) == 0)=false:=by simpa using hn0
 have HB1:=hhd hb1;have HF0:=hhd hf0
 obtain⟨m2,n2,l2⟩:=box_cells hb2
 clear hb1 hb2 hf0
 go_enter Tryz.func92,Tryz.ntmps92
 go_wp2
 first | rw[hW0] | skip
 clear hW0
 go_loopw [27] (fun iv wr=>∃ k:Nat,k≤xs.length∧iv = .int .i64 k∧Hid (∀ j (h:j < xs.length),j < k→T xs[j]=0)∧Fr N0 W0 wr) (fun iv _=>xs.length - (intOf iv).toNat)
 case atStart=>exact⟨0,Nat.zero_le _,rfl,fun j h hj=>by omega,Fr.refl _ _⟩
 case round=>
  obtain⟨k,hk,rfl,hn,hfr⟩:=hrel
  by_cases hlt:k < xs.length
  ·obtain rfl:=h3 (by omega)
   have hfw:=HF0.out.then0 hfr
   obtain⟨c0,c1,c2,c3,c4,c5,c6,c7⟩:=wr_cells (W:=w) (HC.out k hlt)
   replace c0:=hfw.cell id c0;replace c1:=hfw.cell id c1;replace c2:=hfw.cell id c2;replace c3:=hfw.cell id c3
   replace c4:=hfw.cell id c4;replace c5:=hfw.cell id c5;replace c6:=hfw.cell id c6;replace c7:=hfw.cell id c7
   have hsb:=(hfr.at (k:=w.heap.size) id (lt_of_block HB1.out)).trans HB1.out
   obtain⟨m1,n1,l1⟩:=box_cells hsb
   have hcall:=HF.out xs[k] (HX.out _ (List.getElem_mem hlt))
   have hnx:T xs[k]=0→∀ j (h:j < xs.length),j < k+1→T xs[j]=0:=fun he j h hj=>by
    rcases Nat.lt_or_ge j k with h' | h'
    ·exact hn.out j h h'
    ·have:j=k:=by omega
     subst this;exact he
   have hfd:T xs[k]≠0→E=T xs[k]:=fun hne=>by
    rw[HE2.out,firstNZ_at (k:=k) (by simpa using hlt) (fun j hj hjk=>by simpa using hn.out j (by simpa using hj) hjk) (by simpa using hne)]
    simp
   obtain⟨x,hx⟩:∃ x,xs[k]=x:=⟨_,rfl⟩
   simp only [hx] at c0 c1 c2 c3 c4 c5 c6 c7 hcall hnx hfd
   obtain⟨q,hq⟩:∃ q,T x=q:=⟨_,rfl⟩
   rw[hq] at hcall hnx hfd
   obtain⟨xd,xu,xp,vk,vb,vn,vs,vu⟩:=x
   unfold Wr.enc at hcall
   simp only at c0 c1 c2 c3 c4 c5 c6 c7 hcall
   have hki:(k:Int) < (xs.length:Int):=by omega
   have HCALL:=hhd hcall;have HNX:=hhd hnx;have HFD:=hhd hfd;have HFR:=hhd hfr;have HFW:=hhd hfw
   clear hcall hx hq hnx hfd hn hfr hfw hsb n1 n2 m2 l2 HB1
   by_cases hq0:q=0
   ·subst hq0
    go_wp2_with (go_at_call 145;refine(HCALL.out _).mono ?_;rintro e w1 ⟨rfl,hf1⟩)
    go_roundw
    case rel=>exact⟨k+1,by omega,by go_num,HNX.out trivial,(HFR.out.alloc _).then0 hf1⟩
    case measure=>simp [intOf];omega
   ·obtain rfl:=HFD.out hq0
    go_wp2_with (go_at_call 145;refine(HCALL.out _).mono ?_;rintro e w1 ⟨rfl,hf1⟩)
    go_ret2
    exact⟨⟨_,rfl⟩,(HFW.out.alloc _).then0 hf1⟩
  ·obtain rfl:k=xs.length:=by omega
   have hE0:E=0:=by
    rw[HE2.out]
    exact firstNZ_none fun y hy=>by
     obtain⟨x,hx,rfl⟩:=List.mem_map.1 hy
     obtain⟨j,hj,rfl⟩:=List.mem_iff_getElem.1 hx
     exact hn.out j hj hj
   subst hE0
   have HFW:=hhd (HF0.out.then0 hfr)
   clear hfr hn m2 n2 l2
   go_wp2
   go_ret2
   exact⟨⟨_,rfl⟩,HFW.out⟩
theorem fit_any(w:World)(s:Sch)(c:CmV)(b:Nat)(xs:List Wr)(h:Wrs w b (.slice c.a c.n c.c) xs)(hx:∀ x ∈ xs,x.wf)(hl:xs.length≤10000000000) :
  Calls Tryz.prog 92 #[.agg s.enc.toArray,.agg c.enc.toArray] w fun e w'=>(∃ a:Int,e = .returned (.tuple #[.int .i64 a,.int .i64 (fitAll s c.time xs)]))∧Fr N0 w w':=fit_all w s c b xs h hx
theorem ownsRow_base{w:World}{b1 b2:Nat}{e:TypeId}{k:Nat}{v:Value}{n:Nat}{xs:List Value}(h:w.ownsRow b1 e k v n xs)(hb:b2≤b1):w.ownsRow b2 e k v n xs:=by
 refine⟨h.1,h.2.imp id ?_⟩
 rintro⟨g,cap,cur,h1,h2,h3⟩
 exact⟨g,cap,cur,h1,Nat.le_trans hb h2,h3⟩
theorem clone4_any(w:World)(b:Nat)(v:Value)(xs:List Int)(h:RowsK enc4 1 w b v xs)(hl:xs.length≤10000000000) :
  Calls Tryz.prog 74 #[v] w fun e w'=>∃ v',e = .returned v'∧w'.ownsRow w.heap.size 33 1 v' xs.length (xs.flatMap enc4)∧(v = .slice none 0 0→v' = .slice none 0 0)∧Fr N0 w w':=by
 obtain⟨i0,hi,hz0,hz1,hz2⟩:=info_parts ins4_info
 have h':=h
 have hq:=fun(w:World) a n c=>Lib.run_eql_slice_nil (P:=Tryz.prog) w 35 33 a n c 0 0 Tryz.underlying35
 obtain⟨a,off,cap,rfl,h1,h2,h3,h4,h5⟩:=h
 cases a with
 | none=>
  have hc:=h4 rfl
  subst hc
  obtain rfl:xs = []:=List.eq_nil_of_length_eq_zero (by omega)
  go_enter Tryz.func74,Tryz.ntmps74
  go_wp2
  go_ret
  exact⟨_,rfl,World.ownsRow_nil _ _ _ _,by simp,Fr.refl _ _⟩
 | some a=>
  have hnews:=rows_news (enc:=enc4) (n:=1) ins4_len (by decide) h'
  clear h' h3 h4 h5
  have hnews':∀ (j:Nat) (u:Value),(xs.flatMap enc4)[j]?=some u→(w.alloc (.cells #[] 33)).cell? (a.add j)=some u:=fun j u hu=>
   ((Fr.refl N0 w).alloc _).cell (fun h=>h) (hnews j u hu)
  have hown:=World.ownsRow_lit (base:=w.heap.size) (e:=33) (size:=1) w #[] 0 (Nat.le_refl _) (by simp [maxLen]) rfl
  have hlen:(xs.flatMap enc4).length=xs.length * 1:=flat_length (enc:=enc4) (n:=1) ins4_len xs
  have HN:=hhd hnews';have HO:=hhd hown;have HL:=hhd hlen
  clear hnews hnews' hown hlen
  go_enter Tryz.func74,Tryz.ntmps74
  go_wp2_with (at_builtin;go_loud (refine wpList_append_own _ rfl _ _ 35 rfl w.heap.size 33 i0 (.int .u64 0) 1 8 Tryz.underlying35 hi hz0 hz1 hz2 rfl (by decide) _ _ _ rfl HO.out a xs.length cap (xs.flatMap enc4) rfl HL.out HN.out (one_cells ins4_one xs) (by unfold maxLen;omega) (by omega) (by simp) ?_);intro v' w1 hown' hgrow _)
  go_ret
  refine⟨v',rfl,by simpa using hown',((Fr.refl _ _).alloc _).grown hgrow (fun k e=>.inr ?_)⟩
  have e':some w.heap.size=some k:=e
  cases e';exact Nat.le_refl _
theorem marked_any(W:World)(R:Nat→Prop)(p:Nat)(l:PL)(h:IsPL W R p l)(hs:0 < l.s.pred.size):Calls Tryz.prog 82 #[.pointer (some ⟨p,0,none⟩)] W fun e w'=>e = .returned (.int .u64 l.marked)∧Fr N0 W w':=by
 obtain⟨vt,vc,cs,h1,-⟩:=h
 obtain⟨m,n,lt⟩:=box_cells h1
 have hn:=pNone_any W p l.s.pred (m 0) hs
 have HN:=hhd hn
 have H1:=hhd h1
 clear hn h1 m n
 go_enter Tryz.func82,Tryz.ntmps82
 go_wp2_with (go_at_call 71;refine HN.out.mono ?_;rintro e w1 ⟨rfl,hf1⟩;have hb:=(hf1.at id lt).trans H1.out;obtain⟨m,-,-⟩:=box_cells hb)
 go_ret
 exact⟨rfl,hf1⟩
end
end Go.Proofs.YtefepfiijoafbaaGreat
