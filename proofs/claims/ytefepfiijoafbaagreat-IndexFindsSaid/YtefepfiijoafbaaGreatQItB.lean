/- Round RangeA ItA ItB -/
import Derived.Deep.RegionHeld3
import Derived.OrdersIn
import Derived.Deep.AppendLies
import Derived.Test.YtefepfiijoafbaaGreatQBase
import Derived.Test.YtefepfiijoafbaaGreatQLookP
import Derived.Test.YtefepfiijoafbaaGreatQPAt
import Derived.Test.YtefepfiijoafbaaGreatQValR
set_option linter.unusedVariables false
set_option linter.unusedSimpArgs false
set_option maxRecDepth 100000
set_option maxHeartbeats 8000000
namespace Go.Proofs.YtefepfiijoafbaaGreat
section
open Go.RowKit Go.Shelf
def noDefer(ops:Array Oper):Bool:=ops.all fun o=>match o.op with | .defer _=>false | _=>true
theorem noDefer_at{ops:Array Oper}(h:noDefer ops=true){i:Nat}{o:Oper}(hi:ops[i]?=some o):∀ c,o.op≠.defer c:=fun c e=>by
 obtain⟨hl,he⟩:=Array.getElem?_eq_some_iff.1 hi
 have:=Array.all_eq_true.1 h i hl
 rw[he,e] at this
 cases this
theorem uponIn_of_upon{l n:Nat}{P:Program}{o:Oper}{a:Act}{next:Act→World→Prop}{Q:Exit→Act→World→Prop}{r:Result Next}(h:o.upon P a next Q r):o.uponIn (Fence.wide.inRound l) n P a next Q r:=by
 have hd:(Fence.wide.inRound l).depth.isSome=true→1≤n:=fun h=>absurd h (by simp [Fence.wide])
 cases r with
 | ok x w'=>
  cases x with
  | value v=>exact h
  | skip=>exact h
  | defer d=>exact h
  | enter f args=>exact⟨hd,CallsIn.inRound l (callsIn_wide.2 h)⟩
  | row row args=>exact⟨hd,fun c cs _=>let ⟨v,w',r,s⟩:=h c cs;⟨v,w',r,stepsIn_wide.2 s⟩⟩
  | _=>exact(h:False).elim
 | halt x w'=>
  cases x with
  | panic v=>exact h
  | _=>exact h.elim
theorem wpOpIn_of_wpOp{l n:Nat}{P:Program}{ops:Array Oper}{Q:Exit→Act→World→Prop}(hQ:¬ LetsOut Q)(hd:noDefer ops=true){i:Nat}{K:Act→World→Prop}{a:Act}{w:World}(h:wpOp P ops Q i K a w):wpOpIn (Fence.wide.inRound l) n P ops Q i K a w:=by
 unfold wpOp at h
 unfold wpOpIn
 split
 ·rename_i hi;rw[hi] at h;exact h
 ·rename_i o hi
  rw[hi] at h
  simp only at h
  split
  ·rename_i hw
   rw[if_pos hw] at h
   rcases h with h | h
   ·refine⟨fun _ _=>trivial,?_⟩
    have:=uponIn_of_upon (l:=l) (n:=n) h
    rwa [show(o.semAt (Fence.wide.inRound l).round a.eval)=execOp a.eval o from Oper.semAt_some l _ _ (noDefer_at hd hi)]
   ·exact absurd h.2 hQ
  ·rename_i hw
   rw[if_neg hw] at h
   exact⟨fun _ _=>trivial,h⟩
theorem wpAnyIn_of_wpAny{l n:Nat}{P:Program}{md:Region.Mode}{ops:Array Oper}{Q:Exit→Act→World→Prop}(hQ:¬ LetsOut Q)(hd:noDefer ops=true):∀ (fuel:Nat) (listed:Array Bool) (a:Act) (w:World),wpAny P md ops Q fuel listed a w→wpAnyIn (Fence.wide.inRound l) n P md ops Q fuel listed a w
 | 0,_,_,_,h=>h
 | fuel+1,listed,a,w,h=>⟨h.1,fun i hi=>wpOpIn_mono (fun a' w' h'=>wpAnyIn_of_wpAny hQ hd fuel _ _ _ h') (wpOpIn_of_wpOp hQ hd (h.2 i hi))⟩
theorem wpIn_region_held_round{l n id:Nat}{P:Program}{ops:Array Oper}{Q:Exit→Act→World→Prop}{a:Act}{w:World}{S:World→Prop}(hm:P.follows .mixedOrders=true)(hQ:¬ LetsOut Q)(hd:noDefer ops=true)(hS:S w.drew)
  (h:S w.drew→wpAnyH P .any ops Q S ops.size (Array.replicate ops.size false) a w.drew):(Code.region id ops true).wpIn (Fence.wide.inRound l) n P Q a w:=
 wpIn_region_any hm (wpAnyIn_of_wpAny hQ hd _ _ _ _ (wpAny_of_held _ _ _ _ (h hS)))
theorem wp_rangeA{α:Type}{P:Program}{g:Operand}{ps:Array Tmp}{assign body:Code}{Q:Exit→Act→World→Prop}{a:Act}{w:World}{gf:Nat}{lb:Array Value}
  {encs:α→Array Value} {R:Nat→Prop} {xs:List α} {w0:World}
  (hg:a.eval g = .func (.func gf) #[] lb) (eg:∀ args w,(callFunc gf args).run P w = .ok (.enter gf args) w)
  (hseq:SeqOf P gf lb encs R xs w0) (hb0:SameOn R w0 w) (hps:∀ x,(encs x).size=ps.size)
  (S0:Nat→Prop) (hS0:∀ k,S0 k→¬ R k∧k < w.heap.size) (hR:∀ k,R k→k < w.heap.size)
  (I:(Nat→Prop)→List α→World→Prop) (Ix:Code→(Nat→Prop)→List α→World→Prop) (hI:Stable I) (hIx:∀ c,Stable (Ix c)) (h0:I S0 [] w) (a₁:α→Nat→Act) (o:α→Obj)
  (hassign:∀ (l:Nat) (x:α) (W:World) (K:Act→World→Prop),K (a₁ x W.heap.size) (W.alloc (o x)) →
   assign.wpIn (Fence.wide.inRound l) 7 P (Exit.then K (fun _ _ _=>False)) { tmps:=(ps.zip (encs x)).foldl (fun t (p,v)=>t.setIfInBounds p v) a.tmps,defers:=[] } W)
  (hbody:∀ (l B:Nat) (S:Nat→Prop) (pre:List α) (x:α) (W:World),W.heap[B]?=some (o x)→¬ S B→I S pre W→(pre ++ [x]) <+: xs→SameOn R w W→(∀ k,S k→¬ R k∧k < W.heap.size) →
   body.wpIn (Fence.wide.inRound l) 7 P (fpPost I Ix S (pre ++ [x]) W) (a₁ x B) W)
  (hdone:∀ (D:Nat) (S:Nat→Prop) (W:World),I S xs W→Fr S0 w W→Grows S0 S w W→W.heap[D]?=some (.deferred (some []))→w.heap.size≤D→¬ S D →
   Q .normal { a with defers:={ target:=.collected D,args:=#[] } :: a.defers } W)
  (hstop:∀ (D:Nat) (c:Code) (S:Nat→Prop) (pre:List α) (W:World),pre <+: xs→Ix c S pre W→Fr S0 w W→Grows S0 S w W→W.heap[D]?=some (.deferred (some []))→w.heap.size≤D→¬ S D →
   c.wp P Q { a with defers:={ target:=.collected D,args:=#[] } :: a.defers } W) :
  (Code.rangeFunc g ps assign body).wp P Q a w:=by
 refine(wpIn_wide (n:=0)).1 (wpIn_rangeFunc ?_)
 intro fn hfn
 rw[show Fence.wide.round=none from rfl]
 obtain⟨rec,hrec⟩:∃ rec:LoopState→Option Code→Loop,rec=fun st pe=>{ state:=st,pending:=pe,fn,tmps:=a.tmps,params:=ps,assign,body,defers:=w.heap.size }:=⟨_,rfl⟩
 obtain⟨L,hL⟩:∃ L,L=w.heap.size:=⟨_,rfl⟩
 obtain⟨W1,hW1⟩:∃ W1,(w.alloc (.deferred (some []))).alloc (.loop (rec .ready none))=W1:=⟨_,rfl⟩
 have hz1:W1.heap.size=L+2:=by rw[← hW1,hL];simp
 have hL1:W1.heap[L+1]?=some (.loop (rec .ready none)):=by
  rw[← hW1,hL];have:=World.alloc_heap_new (w.alloc (.deferred (some []))) (.loop (rec .ready none));rwa [World.size_alloc] at this
 have hK1:W1.heap[L]?=some (.deferred (some [])):=by
  rw[← hW1,hL];exact(Below.heap_alloc _ _ _ (by simp)).trans (World.alloc_heap_new w _)
 have hf1:Fr N0 w W1:=by rw[← hW1];exact((Fr.refl _ _).alloc _).alloc _
 have hI1:I S0 [] W1:=hI _ _ _ _ h0 (hf1.same fun _ _ h=>h)
 have hS0L:∀ k,S0 k→k≠L∧k≠L+1:=fun k hk=>by have:=(hS0 k hk).2;omega
 refine⟨w.heap.size+1,[{ target:=.collected w.heap.size,args:=#[] }],W1,{ target:=.fn (.func gf) lb,args:=#[.func (.yield (w.heap.size+1)) #[] #[]] },W1,gf,
  #[.func (.yield (w.heap.size+1)) #[] #[]] ++ lb,W1,?_,?_,?_,?_,fun h=>absurd h (by simp [Fence.wide]),?_⟩
 ·rw[← hW1,hrec];exact run_enterLoop_outer _ _ _ _ _
 ·simp only [resolve,hg]
  simp [go_sem]
 ·intro f' _;trivial
 ·simp [invoke,go_sem,eg]
 ·rw[← hL]
  refine callsIn_wide.2 ?_
  refine(hseq (L+1)
   (fun S pre W=>I (fun k=>S k∧k≠L∧k≠L+1) pre W∧S L∧S (L+1)∧W.heap[L+1]?=some (.loop (rec .ready none))∧W.heap[L]?=some (.deferred (some [])))
   (fun S pre W=>∃ c,Ix c (fun k=>S k∧k≠L∧k≠L+1) pre W∧S L∧S (L+1)∧W.heap[L+1]?=some (.loop (rec .done (some c)))∧W.heap[L]?=some (.deferred (some [])))
   (fun k=>S0 k∨k=L∨k=L+1) W1
   (hb0.fr hf1 (fun _ _ h=>h))
   (fun k hk=>by
    rcases hk with hk | hk | hk
    ·exact⟨(hS0 k hk).1,by have:=(hS0 k hk).2;omega⟩
    ·exact⟨fun hr=>by have:=hR k hr;omega,by omega⟩
    ·exact⟨fun hr=>by have:=hR k hr;omega,by omega⟩)
   (fun S pre A B hj hs=>by
    obtain⟨hi,hl,hl1,hr,hk⟩:=hj
    exact⟨hI _ _ _ _ hi (hs.mono fun k hk _=>hk.1),hl,hl1,(hs.block _ hl1 (lt_of_block hr)).trans hr,(hs.block _ hl (lt_of_block hk)).trans hk⟩)
   (fun S pre A B hj hs=>by
    obtain⟨c,hi,hl,hl1,hr,hk⟩:=hj
    exact⟨c,hIx c _ _ _ _ hi (hs.mono fun k hk _=>hk.1),hl,hl1,(hs.block _ hl1 (lt_of_block hr)).trans hr,(hs.block _ hl (lt_of_block hk)).trans hk⟩)
   ?_ ⟨by rw[minus_plus hS0L];exact hI1,.inr (.inl rfl),.inr (.inr rfl),hL1,hK1⟩).mono ?_
  ·rintro S1 pre x W ⟨hi,hs,hs1,hr,hk⟩ hpre hRW hbd
   have hlt:L+1 < W.heap.size:=lt_of_block hr
   have hy:=run_yield (P:=P) (args:=encs x) hr (by rw[hrec];exact hps x)
   rw[hrec] at hy
   have hrA:(W.alloc (o x)).heap[L+1]?=some (.loop (rec .ready none)):=(Below.heap_alloc _ _ _ hlt).trans hr
   have hkA:(W.alloc (o x)).heap[L]?=some (.deferred (some [])):=(Below.heap_alloc _ _ _ (by omega)).trans hk
   have hltA:L+1 < (W.alloc (o x)).heap.size:=lt_of_block hrA
   refine⟨fn,_,assign,body,hy,roundIn_of_wpIn hfn (hassign _ x W _ ⟨_,run_beginRound hrA (by rw[hrec]),?_⟩)⟩
   obtain⟨Wb,hWb⟩:∃ Wb,(W.alloc (o x)).putObj (L+1) (.loop { rec .ready none with state:=.busy })=Wb:=⟨_,rfl⟩
   rw[hWb]
   have hl2:Wb.heap[L+1]?=some (.loop { rec .ready none with state:=.busy }):=by rw[← hWb];exact World.putObj_heap_same hltA
   have hk2:Wb.heap[L]?=some (.deferred (some [])):=by rw[← hWb];exact(World.putObj_heap_other (by omega)).trans hkA
   have hzb:Wb.heap.size=W.heap.size+1:=by rw[← hWb];simp
   have hBb:Wb.heap[W.heap.size]?=some (o x):=by rw[← hWb];exact(World.putObj_heap_other (by omega)).trans (World.alloc_heap_new W _)
   have hfb:Fr S1 W Wb:=by rw[← hWb];exact((Fr.refl _ _).alloc _).putObj (.inl hs1) _
   have hib:I (fun k=>S1 k∧k≠L∧k≠L+1) pre Wb:=hI _ _ _ _ hi (by rw[← hWb];exact SameOn.putObj (((Fr.refl N0 W).alloc (o x)).same fun _ _ h=>h) (by simp) _)
   have hRb:SameOn R w Wb:=(hf1.same (fun _ _ h=>h)).trans (hRW.trans (hfb.same fun k hk hs=>(hbd k hs).1 hk))
   refine wpIn_mono (hbody _ W.heap.size _ pre x _ hBb (fun h=>by have:=(hbd _ h.1).2;omega) hib hpre hRb (fun k hk=>⟨(hbd k hk.1).1,by have:=(hbd k hk.1).2;omega⟩)) ?_
   have fin:∀ (jump:Option Code) (S':Nat→Prop) (W3:World),Fr (fun k=>S1 k∧k≠L∧k≠L+1) Wb W3→Grows (fun k=>S1 k∧k≠L∧k≠L+1) S' Wb W3 →
     (Instr.endRound (L+1) jump).run P W3 = .ok (.bool jump.isNone) (W3.putObj (L+1) (.loop (rec (if jump.isNone then .ready else .done) jump))) ∧
     (W3.putObj (L+1) (.loop (rec (if jump.isNone then .ready else .done) jump))).heap[L+1]?=some (.loop (rec (if jump.isNone then .ready else .done) jump)) ∧
     (W3.putObj (L+1) (.loop (rec (if jump.isNone then .ready else .done) jump))).heap[L]?=some (.deferred (some [])) ∧
     (∀ k,S' k→k≠L∧k≠L+1) ∧
     SameOn S' W3 (W3.putObj (L+1) (.loop (rec (if jump.isNone then .ready else .done) jump))) ∧
     Fr S1 W (W3.putObj (L+1) (.loop (rec (if jump.isNone then .ready else .done) jump))) ∧
     Grows S1 (fun k=>S' k∨k=L∨k=L+1) W (W3.putObj (L+1) (.loop (rec (if jump.isNone then .ready else .done) jump))):=fun jump S' W3 hf3 hg3=>by
    have hl3:=(hf3.at (k:=L+1) (by simp) (by omega)).trans hl2
    have hk3:=(hf3.at (k:=L) (by simp) (by omega)).trans hk2
    have:=run_endRound (P:=P) jump hl3
    rw[hrec] at this ⊢
    have hne:∀ k,S' k→k≠L∧k≠L+1:=fun k hk=>by
     rcases(hg3 k hk).1 with h1 | h1
     ·exact h1.2
     ·omega
    refine⟨this,World.putObj_heap_same (lt_of_block hl3),(World.putObj_heap_other (by omega)).trans hk3,hne,(SameOn.refl _ _).putObj (fun h=>(hne _ h).2 rfl) _,?_,?_⟩
    ·exact(hfb.trans hf3 (fun k hk=>.inl hk.1)).putObj (.inl hs1) _
    ·intro k hk
     have hz3:=hf3.size
     rcases hk with hk | hk | hk
     ·refine⟨?_,by simpa using (hg3 k hk).2⟩
      rcases(hg3 k hk).1 with h1 | h1
      ·exact .inl h1.1
      ·exact .inr (by omega)
     ·exact⟨.inl (by rw[hk];exact hs),by simp;omega⟩
     ·exact⟨.inl (by rw[hk];exact hs1),by simp;omega⟩
   rintro e a3 W3 hp
   cases e with
   | normal=>
    obtain⟨S',hi3,hf3,hg3⟩:=hp
    obtain⟨hr',hl4,hk4,hne,hso,hfr,hgr⟩:=fin none S' W3 hf3 hg3
    exact⟨_,_,hr',.inl ⟨rfl,_,⟨by rw[minus_plus hne];exact hI _ _ _ _ hi3 hso,.inr (.inl rfl),.inr (.inr rfl),hl4,hk4⟩,hfr,hgr⟩⟩
   | ret=>
    obtain⟨S',hi3,hf3,hg3⟩:=hp
    obtain⟨hr',hl4,hk4,hne,hso,hfr,hgr⟩:=fin (some .ret) S' W3 hf3 hg3
    exact⟨_,_,hr',.inr ⟨rfl,_,⟨.ret,by rw[minus_plus hne];exact hIx _ _ _ _ _ hi3 hso,.inr (.inl rfl),.inr (.inr rfl),hl4,hk4⟩,hfr,hgr⟩⟩
   | exit id=>
    obtain⟨S',hi3,hf3,hg3⟩:=hp
    obtain⟨hr',hl4,hk4,hne,hso,hfr,hgr⟩:=fin (some (.exit id)) S' W3 hf3 hg3
    exact⟨_,_,hr',.inr ⟨rfl,_,⟨.exit id,by rw[minus_plus hne];exact hIx _ _ _ _ _ hi3 hso,.inr (.inl rfl),.inr (.inr rfl),hl4,hk4⟩,hfr,hgr⟩⟩
   | goto t=>
    obtain⟨S',hi3,hf3,hg3⟩:=hp
    obtain⟨hr',hl4,hk4,hne,hso,hfr,hgr⟩:=fin (some (.goto t)) S' W3 hf3 hg3
    exact⟨_,_,hr',.inr ⟨rfl,_,⟨.goto t,by rw[minus_plus hne];exact hIx _ _ _ _ _ hi3 hso,.inr (.inl rfl),.inr (.inr rfl),hl4,hk4⟩,hfr,hgr⟩⟩
   | panic ch=>exact hp.elim
   | outgrown=>exact hp.elim
  ·rintro e W2 ⟨⟨v,rfl⟩,S2,hj,hfr2,hgr2⟩
   have hfw:Fr S0 w W2:=(hf1.mono (T':=S0) fun _ h=>h.elim).trans hfr2 (fun k hk=>by
    rcases hk with hk | hk | hk
    ·exact .inl hk
    ·exact .inr (by omega)
    ·exact .inr (by omega))
   have hgw:∀ o,Grows S0 (fun k=>S2 k∧k≠L∧k≠L+1) w (W2.putObj (L+1) o):=fun o k hk=>by
    refine⟨?_,by simpa using (hgr2 k hk.1).2⟩
    rcases(hgr2 k hk.1).1 with(h1 | h1 | h1) | h1
    ·exact .inl h1
    ·exact absurd h1 hk.2.1
    ·exact absurd h1 hk.2.2
    ·exact .inr (by omega)
   rcases hj with⟨hi,hl,hl1,hr,hk⟩ | ⟨pre,hpre,c,hi,hl,hl1,hr,hk⟩
   ·exact⟨none,_,by have:=run_endLoop (P:=P) hr (by rw[hrec];simp);rw[hrec] at this;exact this,
     hdone L _ _ (hI _ _ _ _ hi ((SameOn.refl _ _).putObj (by simp) _)) (hfw.putObj (.inr (by omega)) _) (hgw _) ((World.putObj_heap_other (by omega)).trans hk) (by omega) (by simp)⟩
   ·exact⟨some c,_,by have:=run_endLoop (P:=P) hr (by rw[hrec];simp);rw[hrec] at this;exact this,
     wpIn_wide.2 (hstop L c _ pre _ hpre (hIx c _ _ _ _ hi ((SameOn.refl _ _).putObj (by simp) _)) (hfw.putObj (.inr (by omega)) _) (hgw _) ((World.putObj_heap_other (by omega)).trans hk) (by omega) (by simp))⟩
end
section
open Go.RowKit Go.Shelf Go.Maps
attribute [local go_sem] Oper.semAt_some
attribute [local irreducible] wpQuiet
abbrev ItS(b5 px b6 bn bb:Nat)(t:Int)(q:ByteArray)(x:Int × Val)(W:World):Prop:=
 W.cell? ⟨b5,0,none⟩=some (.pointer (some ⟨px,0,none⟩))∧(W.cell? ⟨px,1,none⟩=some (.map (some bn))∧W.cell? ⟨px,2,none⟩=some (.map (some bb))) ∧
 W.cell? ⟨b6,0,none⟩=some (.int .u64 x.1)∧W.cell? ⟨b6,2,none⟩=some (.int .u8 x.2.k)∧W.cell? ⟨b6,3,none⟩=some (.bool x.2.b)∧W.cell? ⟨b6,4,none⟩=some (.int .i64 x.2.n)∧W.cell? ⟨b6,5,none⟩=some (.string x.2.s)∧W.cell? ⟨b6,6,none⟩=some (.int .u64 x.2.u)
theorem itS_fr{T:Nat→Prop}{b5 px b6 bn bb:Nat}{t:Int}{q:ByteArray}{x:Int × Val}{A B:World}(hf:Fr T A B)(h5:¬ T b5)(hx:¬ T px)(h6:¬ T b6)(h:ItS b5 px b6 bn bb t q x A):ItS b5 px b6 bn bb t q x B:=
 ⟨hf.cell h5 h.1,⟨hf.cell hx h.2.1.1,hf.cell hx h.2.1.2⟩,hf.cell h6 h.2.2.1,hf.cell h6 h.2.2.2.1,hf.cell h6 h.2.2.2.2.1,hf.cell h6 h.2.2.2.2.2.1,hf.cell h6 h.2.2.2.2.2.2.1,hf.cell h6 h.2.2.2.2.2.2.2⟩
def itBody:Code→Code
 | .block _ c=>itBody c
 | .rangeFunc _ _ _ b=>itBody b
 | c=>c
def itSnd:Code→Code
 | .seq _ b=>b
 | c=>c
noncomputable def itLoop:Code:=itBody (itSnd (lvFst (lvSuf 2 ((Tryz.f83.body).getD .skip))))
noncomputable def itC4:Code:=lvFst itLoop
theorem itR4(l:Nat){Q:Exit→Act→World→Prop}(W:World)(lo b5 px b6 bn bb N:Nat)(t:Int)(q:ByteArray)(x:Int × Val)(H:Int→List Val)(F:Lit→Option Value)(g:Int→Nat)(R:Nat→Prop)(f:Nat→Value)
  (hS:ItS b5 px b6 bn bb t q x W) (hm:MapF Tryz.prog 33 W bn N F) (hr:OwnR Val.enc 5 57 W lo bn H F g R) (hlo:lo≤W.heap.size) (hN:N≤10000000000) (hl:(H (x.1)).length≤10000000000) (hwf:(Lit.int .u64 (x.1)).wf=true)
  (h5R:¬ R b5∧b5≠bn) (hxR:¬ R px∧px≠bn) (h6R:¬ R b6∧b6≠bn) (hbl:lo≤bn)
  (h5:f 5 = .pointer (some ⟨b5,0,none⟩)) (h6:f 6 = .pointer (some ⟨b6,0,none⟩))
  (hK:∀ f' W' v' g' g2,f' 5=f 5→f' 6=f 6→ItS b5 px b6 bn bb t q x W'→MapF Tryz.prog 33 W' bn (N+1) (putF F (litU (x.1)) (some v'))→OwnR Val.enc 5 57 W' lo bn (updV H (x.1) (H (x.1) ++ [x.2])) (putF F (litU (x.1)) (some v')) g2 (fun j=>R j∨j=g') →
   (R g'∨W.heap.size≤g')→Fr (fun j=>j=bn∨R j) W W'→Q .normal (frA 57 f') W') :
  (itC4).wpIn (Fence.wide.inRound l) 7 Tryz.prog Q (frA 57 f) W:=by
 obtain⟨v0,hv0,hrow0,hown0⟩:=hr.at (x.1)
 have hku:=keyOf_int_mk (P:=Tryz.prog) Tryz.underlying33 hwf
 have hlk:∀ w',Fr N0 W w'→(Instr.lookup 165 (.map (some bn)) (.int .u64 (x.1)) false).run Tryz.prog w' = .ok v0 w':=fun w' hf=>by
  have:=((hm.fr hf id).look lawU Tryz.underlying165 (zeroValsR _) hku).1
  rw[← hv0];exact this
 obtain⟨i0,hi,hz0,hz1,hz2⟩:=info_parts val_info
 have hbn:=hm.lt
 have hown:∀ j,v0.ownBlock=some j→R j∧lo≤j:=fun j hj=>by
  rcases hown0 with h | ⟨h0,h⟩
  ·rw[h] at hj;cases hj
  ·rw[h] at hj;obtain rfl:=Option.some.inj hj;exact⟨hr.inR _ h0,(hr.lt _ (hr.inR _ h0)).1⟩
 have happ:∀ (w1 w2 w3:World) (v':Value) (g' cap:Nat),Fr N0 W w1→v' = .slice (some ⟨g',0,none⟩) ((H (x.1)).length+1) cap→w2.ownsRow lo 57 5 v' ((H (x.1)).length+1) ((H (x.1)).flatMap Val.enc ++ Val.enc (x.2))→w1.grownBy w2 v0.ownBlock→(v0.ownBlock=some g'∨g'=w1.heap.size)→g' < w2.heap.size→MapF Tryz.prog 33 w3 bn (N+1) (putF F (litU (x.1)) (some v'))→Fr (fun j=>j=bn) w2 w3 →
   ∃ g2,OwnR Val.enc 5 57 w3 lo bn (updV H (x.1) (H (x.1) ++ [x.2])) (putF F (litU (x.1)) (some v')) g2 (fun j=>R j∨j=g')∧(R g'∨W.heap.size≤g')∧Fr (fun j=>j=bn∨R j) W w3:=fun w1 w2 w3 v' g' cap hf he hrow hg hfresh hlt hm3 hf3=>by
  have hz:=hf.size
  have hfr2:Fr (fun j=>v0.ownBlock=some j) w1 w2:=(Fr.refl _ _).grown hg fun j e=>.inl e
  have hg0:R g'∨W.heap.size≤g':=by
   rcases hfresh with h | h
   ·exact .inl (hown g' h).1
   ·exact .inr (by omega)
  have hgb:g'≠bn:=fun e=>by
   rcases hg0 with h | h
   ·exact(hr.lt _ h).2.2 e
   ·omega
  have hglo:lo≤g':=by
   rcases hg0 with h | h
   ·exact(hr.lt _ h).1
   ·omega
  obtain⟨g2,hp⟩:=hr.push (x.1) (x.2) (v0:=v0) (v':=v') (g':=g') (n:=(H (x.1)).length+1) hown0 hf (by simpa using hrow) (by simp) hfr2 (by rw[he];rfl) (hfresh.imp id (fun h=>by omega)) hglo hlt hgb hf3
  refine⟨g2,hp,hg0,?_⟩
  refine(((hf.mono (T':=fun j=>j=bn∨R j) fun _ h=>h.elim).trans hfr2 fun j hj=>.inl (.inr (hown j hj).1)).trans hf3 fun j hj=>.inl (.inl hj))
 have hSk:∀ (A B:World),Fr (fun j=>j=bn∨R j) A B→ItS b5 px b6 bn bb t q x A→ItS b5 px b6 bn bb t q x B:=fun A B hf h=>
  itS_fr hf (fun h=>h.elim h5R.2 h5R.1) (fun h=>h.elim hxR.2 hxR.1) (fun h=>h.elim h6R.2 h6R.1) h
 have hown2:∀ j,v0.ownBlock=some j→R j∧j≠bn:=fun j hj=>⟨(hown j hj).1,(hr.lt _ (hown j hj).1).2.2⟩
 obtain⟨n,hn⟩:∃ n,(H (x.1)).length=n:=⟨_,rfl⟩
 obtain⟨row,hrw⟩:∃ r,(H (x.1)).flatMap Val.enc=r:=⟨_,rfl⟩
 rw[hn,hrw] at hrow0 happ
 rw[hn] at hl
 have HK:=hhd hK;have HM:=hhd hm;have HKU:=hhd hku;have HLK:=hhd hlk;have HROW:=hhd hrow0;have HAPP:=hhd happ;have HSK:=hhd hSk;have HOWN:=hhd hown2;have H5:=hhd h5;have H6:=hhd h6
 have hcur:ItS b5 px b6 bn bb t q x W.drew:=hSk _ _ (Fr.refl _ _).drew hS
 have hcur0:=hS
 have HF0:Hid (Fr N0 W W.drew):=hhd (Fr.refl _ _).drew
 clear hK hm hku hlk hrow0 happ hSk hown2 hown hr hown0 hS hv0 hrw hn h5R hxR h6R hwf
 obtain⟨u,⟨vk,vb,vn,vs,vu⟩⟩:=x
 simp only at *
 show Code.wpIn _ _ _ _ _ { tmps:=#[f 0,f 1,f 2,f 3,f 4,f 5,f 6,f 7,f 8,f 9,f 10,f 11,f 12,f 13,f 14,f 15,f 16,f 17,f 18,f 19,f 20,f 21,f 22,f 23,f 24,f 25,f 26,f 27,f 28,f 29,f 30,f 31,f 32,f 33,f 34,f 35,f 36,f 37,f 38,f 39,f 40,f 41,f 42,f 43,f 44,f 45,f 46,f 47,f 48,f 49,f 50,f 51,f 52,f 53,f 54,f 55,f 56],defers:=[] } _
 rw[h5,h6]
 clear h5 h6
 conv=>arg 4;whnf
 refine wpIn_mono (Q:=Exit.then (fun a w=>Q .normal a w) (fun _ _ _=>False)) ?_ (fun e a w h=>by
  cases e
  case normal=>exact h
  all_goals exact(h:False).elim)
 refine wpIn_region_held_round (S:=ItS b5 px b6 bn bb t q (u,⟨vk,vb,vn,vs,vu⟩)) (by kernel_rfl) (fun⟨_,_,h⟩=>h) (by kernel_rfl) hcur ?_
 intro hHeld
 refine wpAnyH_take (i := 0) (oi := { dst := some 16, op := Op.load 156 (Operand.tmp 5), type := 156, pos := "index.go:105", after := #[], guard := none }) (v := ?_) rfl (by kernel_rfl) (by kernel_rfl) (by kernel_rfl) (fun _ _ _ h => h) (Or.inl ⟨by rfl, ?_⟩) (by assumption) ?_
 rotate_left 1
 ·(intro w hSw;(try dsimp only at hSw);go_simp;try with_reducible rfl)
 (try simp only [Act.put,List.setIfInBounds_toArray,List.set_cons_zero,List.set_cons_succ])
 refine wpAnyH_take (i := 1) (oi := { dst := some 17, op := Op.nilCheck (Operand.tmp 16), type := 0, pos := "index.go:105", after := #[{ on := 0, ground := Ground.data }], guard := none }) (v := ?_) rfl (by kernel_rfl) (by kernel_rfl) (by kernel_rfl) (fun _ _ _ h => h) (Or.inl ⟨by rfl, ?_⟩) (by assumption) ?_
 rotate_left 1
 ·(intro w hSw;(try dsimp only at hSw);go_simp;try with_reducible rfl)
 (try simp only [Act.put,List.setIfInBounds_toArray,List.set_cons_zero,List.set_cons_succ])
 refine wpAnyH_take (i := 2) (oi := { dst := some 18, op := Op.fieldAddr 168 (Operand.tmp 17) 1, type := 0, pos := "index.go:105", after := #[{ on := 1, ground := Ground.data }], guard := none }) (v := ?_) rfl (by kernel_rfl) (by kernel_rfl) (by kernel_rfl) (fun _ _ _ h => h) (Or.inl ⟨by rfl, ?_⟩) (by assumption) ?_
 rotate_left 1
 ·(intro w hSw;(try dsimp only at hSw);go_simp;try with_reducible rfl)
 (try simp only [Act.put,List.setIfInBounds_toArray,List.set_cons_zero,List.set_cons_succ])
 refine wpAnyH_take (i := 3) (oi := { dst := some 19, op := Op.load 165 (Operand.tmp 18), type := 165, pos := "index.go:105", after := #[{ on := 2, ground := Ground.data }], guard := none }) (v := ?_) rfl (by kernel_rfl) (by kernel_rfl) (by kernel_rfl) (fun _ _ _ h => h) (Or.inl ⟨by rfl, ?_⟩) (by assumption) ?_
 rotate_left 1
 ·(intro w hSw;(try dsimp only at hSw);go_simp;try with_reducible rfl)
 (try simp only [Act.put,List.setIfInBounds_toArray,List.set_cons_zero,List.set_cons_succ])
 refine wpAnyH_take (i := 4) (oi := { dst := some 20, op := Op.fieldAddr 59 (Operand.tmp 6) 0, type := 0, pos := "index.go:105", after := #[], guard := none }) (v := ?_) rfl (by kernel_rfl) (by kernel_rfl) (by kernel_rfl) (fun _ _ _ h => h) (Or.inl ⟨by rfl, ?_⟩) (by assumption) ?_
 rotate_left 1
 ·(intro w hSw;(try dsimp only at hSw);go_simp;try with_reducible rfl)
 (try simp only [Act.put,List.setIfInBounds_toArray,List.set_cons_zero,List.set_cons_succ])
 refine wpAnyH_take (i := 5) (oi := { dst := some 21, op := Op.load 33 (Operand.tmp 20), type := 33, pos := "index.go:105", after := #[{ on := 4, ground := Ground.data }], guard := none }) (v := ?_) rfl (by kernel_rfl) (by kernel_rfl) (by kernel_rfl) (fun _ _ _ h => h) (Or.inl ⟨by rfl, ?_⟩) (by assumption) ?_
 rotate_left 1
 ·(intro w hSw;(try dsimp only at hSw);go_simp;try with_reducible rfl)
 (try simp only [Act.put,List.setIfInBounds_toArray,List.set_cons_zero,List.set_cons_succ])
 refine wpAnyH_take (i := 6) (oi := { dst := some 22, op := Op.load 156 (Operand.tmp 5), type := 156, pos := "index.go:105", after := #[], guard := none }) (v := ?_) rfl (by kernel_rfl) (by kernel_rfl) (by kernel_rfl) (fun _ _ _ h => h) (Or.inl ⟨by rfl, ?_⟩) (by assumption) ?_
 rotate_left 1
 ·(intro w hSw;(try dsimp only at hSw);go_simp;try with_reducible rfl)
 (try simp only [Act.put,List.setIfInBounds_toArray,List.set_cons_zero,List.set_cons_succ])
 refine wpAnyH_take (i := 7) (oi := { dst := some 23, op := Op.nilCheck (Operand.tmp 22), type := 0, pos := "index.go:105", after := #[{ on := 6, ground := Ground.data }], guard := none }) (v := ?_) rfl (by kernel_rfl) (by kernel_rfl) (by kernel_rfl) (fun _ _ _ h => h) (Or.inl ⟨by rfl, ?_⟩) (by assumption) ?_
 rotate_left 1
 ·(intro w hSw;(try dsimp only at hSw);go_simp;try with_reducible rfl)
 (try simp only [Act.put,List.setIfInBounds_toArray,List.set_cons_zero,List.set_cons_succ])
 refine wpAnyH_take (i := 8) (oi := { dst := some 24, op := Op.fieldAddr 168 (Operand.tmp 23) 1, type := 0, pos := "index.go:105", after := #[{ on := 7, ground := Ground.data }], guard := none }) (v := ?_) rfl (by kernel_rfl) (by kernel_rfl) (by kernel_rfl) (fun _ _ _ h => h) (Or.inl ⟨by rfl, ?_⟩) (by assumption) ?_
 rotate_left 1
 ·(intro w hSw;(try dsimp only at hSw);go_simp;try with_reducible rfl)
 (try simp only [Act.put,List.setIfInBounds_toArray,List.set_cons_zero,List.set_cons_succ])
 refine wpAnyH_take (i := 9) (oi := { dst := some 25, op := Op.load 165 (Operand.tmp 24), type := 165, pos := "index.go:105", after := #[{ on := 8, ground := Ground.data }], guard := none }) (v := ?_) rfl (by kernel_rfl) (by kernel_rfl) (by kernel_rfl) (fun _ _ _ h => h) (Or.inl ⟨by rfl, ?_⟩) (by assumption) ?_
 rotate_left 1
 ·(intro w hSw;(try dsimp only at hSw);go_simp;try with_reducible rfl)
 (try simp only [Act.put,List.setIfInBounds_toArray,List.set_cons_zero,List.set_cons_succ])
 refine wpAnyH_take (i := 10) (oi := { dst := some 26, op := Op.fieldAddr 59 (Operand.tmp 6) 0, type := 0, pos := "index.go:105", after := #[], guard := none }) (v := ?_) rfl (by kernel_rfl) (by kernel_rfl) (by kernel_rfl) (fun _ _ _ h => h) (Or.inl ⟨by rfl, ?_⟩) (by assumption) ?_
 rotate_left 1
 ·(intro w hSw;(try dsimp only at hSw);go_simp;try with_reducible rfl)
 (try simp only [Act.put,List.setIfInBounds_toArray,List.set_cons_zero,List.set_cons_succ])
 refine wpAnyH_take (i := 11) (oi := { dst := some 27, op := Op.load 33 (Operand.tmp 26), type := 33, pos := "index.go:105", after := #[{ on := 10, ground := Ground.data }], guard := none }) (v := ?_) rfl (by kernel_rfl) (by kernel_rfl) (by kernel_rfl) (fun _ _ _ h => h) (Or.inl ⟨by rfl, ?_⟩) (by assumption) ?_
 rotate_left 1
 ·(intro w hSw;(try dsimp only at hSw);go_simp;try with_reducible rfl)
 (try simp only [Act.put,List.setIfInBounds_toArray,List.set_cons_zero,List.set_cons_succ])
 refine wpAnyH_take (i := 13) (oi := { dst := some 29, op := Op.fieldAddr 59 (Operand.tmp 6) 2, type := 0, pos := "index.go:105", after := #[], guard := none }) (v := ?_) rfl (by kernel_rfl) (by kernel_rfl) (by kernel_rfl) (fun _ _ _ h => h) (Or.inl ⟨by rfl, ?_⟩) (by assumption) ?_
 rotate_left 1
 ·(intro w hSw;(try dsimp only at hSw);go_simp;try with_reducible rfl)
 (try simp only [Act.put,List.setIfInBounds_toArray,List.set_cons_zero,List.set_cons_succ])
 refine wpAnyH_take (i := 14) (oi := { dst := some 30, op := Op.load 57 (Operand.tmp 29), type := 57, pos := "index.go:105", after := #[{ on := 13, ground := Ground.data }], guard := none }) (v := ?_) rfl (by kernel_rfl) (by kernel_rfl) (by kernel_rfl) (fun _ _ _ h => h) (Or.inl ⟨by rfl, ?_⟩) (by assumption) ?_
 rotate_left 1
 ·(intro w hSw;(try dsimp only at hSw);go_simp;try with_reducible rfl)
 (try simp only [Act.put,List.setIfInBounds_toArray,List.set_cons_zero,List.set_cons_succ])
 have HC1:Hid (ItS b5 px b6 bn bb t q (u,⟨vk,vb,vn,vs,vu⟩) (W.alloc (.cells #[.int .u8 vk,.bool vb,.int .i64 vn,.string vs,.int .u64 vu] 57)).drew):=hhd (HSK.out _ _ (((Fr.refl (fun j=>j=bn∨R j) W).alloc (.cells #[.int .u8 vk,.bool vb,.int .i64 vn,.string vs,.int .u64 vu] 57)).drew) hcur0)
 have HF1:Hid (Fr N0 W (W.alloc (.cells #[.int .u8 vk,.bool vb,.int .i64 vn,.string vs,.int .u64 vu] 57)).drew):=hhd (((Fr.refl N0 W).alloc (.cells #[.int .u8 vk,.bool vb,.int .i64 vn,.string vs,.int .u64 vu] 57)).drew)
 clear hcur0
 refine wpAnyH_ready (rs:=[12,15]) (by kernel_rfl) (by simp) ?_
 refine AllReadyH.cons (o := { dst := some 28, op := Op.lookup 165 (Operand.tmp 25) (Operand.tmp 27) false, type := 91, pos := "index.go:105", after := #[{ on := 9, ground := Ground.data }, { on := 11, ground := Ground.data }], guard := none }) rfl (fun K' hK' => ?_) ?_
 ·have hlk0:=HLK.out _ HF0.out
  go_simp
  refine hK'.out _ _ hcur (fun hHeld=>?_)
  clear hK' K' hlk0 hcur
  (try simp only [Act.put,List.setIfInBounds_toArray,List.set_cons_zero,List.set_cons_succ])
  refine wpAnyH_ready (rs:=[15]) (by kernel_rfl) (by simp) ?_
  refine AllReadyH.cons (o := { dst := some 31, op := Op.buildSlice 91 1 #[(0, Operand.tmp 30)], type := 91, pos := "index.go:105", after := #[{ on := 14, ground := Ground.data }], guard := none }) rfl (fun K' hK' => ?_) ?_
  ·go_simp
   refine hK'.out _ _ HC1.out (fun hHeld=>?_)
   clear hK' K'
   (try simp only [Act.put,List.setIfInBounds_toArray,List.set_cons_zero,List.set_cons_succ])
   refine wpAnyH_ready (rs:=[16]) (by kernel_rfl) (by simp) ?_
   refine AllReadyH.cons (o := { dst := some 32, op := Op.call { callee := Callee.builtin Builtin.append, args := #[Operand.tmp 28, Operand.tmp 31], argTypes := #[91, 91] }, type := 91, pos := "index.go:105", after := #[{ on := 12, ground := Ground.data }, { on := 15, ground := Ground.data }], guard := none }) rfl (fun K' hK' => ?_) ?_
   ·refine step_append_lies _ rfl _ _ 91 rfl lo 57 i0 (.agg #[.int .u8 0,.bool false,.int .i64 0,.string ⟨#[]⟩,.int .u64 0]) 5 40 Tryz.underlying91 hi hz0 hz1 hz2 rfl (by decide) v0 n row rfl (HROW.out.fr0 HF1.out) ⟨W.heap.size,0,none⟩ 1 1 [.int .u8 vk,.bool vb,.int .i64 vn,.string vs,.int .u64 vu] rfl rfl (World.news_of_block (cs:=#[.int .u8 vk,.bool vb,.int .i64 vn,.string vs,.int .u64 vu]) (t:=57) (fr:=(0,0)) (show(W.alloc _).heap[W.heap.size]?=_ from World.alloc_heap_new W _)) (by simp [Value.oneCell']) (by omega) (by unfold maxLen;omega) (by omega) (by have:=HF1.out.size;omega) _ rfl ?_
    intro g1 cap1 w1 hown1 hgrow1 hfresh1 hlt1
    have hgr:Fr (fun j=>v0.ownBlock=some j) _ w1:=(Fr.refl _ _).grown hgrow1 fun j e=>.inl e
    have hcur1:=HSK.out _ _ (hgr.mono fun j e=>.inl (.inr (HOWN.out j e).1)) HC1.out
    have hmm:=(HM.out.fr HF1.out id).fr hgr (fun h=>(HOWN.out _ h).2 rfl)
    obtain⟨w2,hrun2,hm2,hf2⟩:=hmm.store lawU Tryz.underlying165 (by unfold maxLen;omega) HKU.out (.slice (some ⟨g1,0,none⟩) (n+1) cap1)
    have hcur2:=HSK.out _ _ (hf2.mono fun j e=>.inl (.inl e)) hcur1
    have HX:=hhd (HAPP.out _ w1 w2 (.slice (some ⟨g1,0,none⟩) (n+1) cap1) g1 cap1 HF1.out rfl hown1 hgrow1 hfresh1 hlt1 hm2 hf2)
    have HM2:=hhd hm2
    refine hK'.out _ _ hcur1 (fun hHeld=>?_)
    clear hK' K' hcur1 hm2 hf2 hmm hgr hown1 hgrow1 hfresh1 hlt1
    (try simp only [Act.put,List.setIfInBounds_toArray,List.set_cons_zero,List.set_cons_succ])
    refine wpAnyH_ready (rs:=[17]) (by kernel_rfl) (by simp) ?_
    refine AllReadyH.cons (o := { dst := none, op := Op.mapUpdate 165 (Operand.tmp 19) (Operand.tmp 21) (Operand.tmp 32), type := 0, pos := "index.go:105", after := #[{ on := 3, ground := Ground.data }, { on := 5, ground := Ground.data }, { on := 16, ground := Ground.data }, { on := 16, ground := Ground.chain }, { on := 0, ground := Ground.phase }, { on := 1, ground := Ground.phase }, { on := 2, ground := Ground.phase }, { on := 3, ground := Ground.phase }, { on := 4, ground := Ground.phase }, { on := 5, ground := Ground.phase }, { on := 6, ground := Ground.phase }, { on := 7, ground := Ground.phase }, { on := 8, ground := Ground.phase }, { on := 9, ground := Ground.phase }, { on := 10, ground := Ground.phase }, { on := 11, ground := Ground.phase }, { on := 12, ground := Ground.phase }, { on := 13, ground := Ground.phase }, { on := 14, ground := Ground.phase }, { on := 15, ground := Ground.phase }, { on := 16, ground := Ground.phase }], guard := none }) rfl (fun K' hK' => ?_) ?_
    ·go_simp
     refine hK'.out _ _ hcur2 (fun hHeld=>?_)
     clear hK' K'
     (try simp only [Act.put,List.setIfInBounds_toArray,List.set_cons_zero,List.set_cons_succ])
     refine wpAnyH_done (by kernel_rfl) ?_ _
     obtain⟨g2,hp,hg0,hfr⟩:=HX.out
     show Q .normal _ _
     refine cut_useQ (n:=57) (Q:=Q) (e:=.normal) _ rfl ?_
     exact HK.out _ w2 (.slice (some ⟨g1,0,none⟩) (n+1) cap1) g1 g2 (by rw[H5.out];rfl) (by rw[H6.out];rfl) hcur2 HM2.out hp hg0 hfr
    ·exact AllReadyH.nil
   ·exact AllReadyH.nil
  ·exact AllReadyH.nil
 refine AllReadyH.cons (o := { dst := some 31, op := Op.buildSlice 91 1 #[(0, Operand.tmp 30)], type := 91, pos := "index.go:105", after := #[{ on := 14, ground := Ground.data }], guard := none }) rfl (fun K' hK' => ?_) ?_
 ·go_simp
  refine hK'.out _ _ HC1.out (fun hHeld=>?_)
  clear hK' K' hcur
  (try simp only [Act.put,List.setIfInBounds_toArray,List.set_cons_zero,List.set_cons_succ])
  refine wpAnyH_ready (rs:=[12]) (by kernel_rfl) (by simp) ?_
  refine AllReadyH.cons (o := { dst := some 28, op := Op.lookup 165 (Operand.tmp 25) (Operand.tmp 27) false, type := 91, pos := "index.go:105", after := #[{ on := 9, ground := Ground.data }, { on := 11, ground := Ground.data }], guard := none }) rfl (fun K' hK' => ?_) ?_
  ·have hlk0:=HLK.out _ HF1.out
   go_simp
   refine hK'.out _ _ HC1.out (fun hHeld=>?_)
   clear hK' K' hlk0
   (try simp only [Act.put,List.setIfInBounds_toArray,List.set_cons_zero,List.set_cons_succ])
   refine wpAnyH_ready (rs:=[16]) (by kernel_rfl) (by simp) ?_
   refine AllReadyH.cons (o := { dst := some 32, op := Op.call { callee := Callee.builtin Builtin.append, args := #[Operand.tmp 28, Operand.tmp 31], argTypes := #[91, 91] }, type := 91, pos := "index.go:105", after := #[{ on := 12, ground := Ground.data }, { on := 15, ground := Ground.data }], guard := none }) rfl (fun K' hK' => ?_) ?_
   ·refine step_append_lies _ rfl _ _ 91 rfl lo 57 i0 (.agg #[.int .u8 0,.bool false,.int .i64 0,.string ⟨#[]⟩,.int .u64 0]) 5 40 Tryz.underlying91 hi hz0 hz1 hz2 rfl (by decide) v0 n row rfl (HROW.out.fr0 HF1.out) ⟨W.heap.size,0,none⟩ 1 1 [.int .u8 vk,.bool vb,.int .i64 vn,.string vs,.int .u64 vu] rfl rfl (World.news_of_block (cs:=#[.int .u8 vk,.bool vb,.int .i64 vn,.string vs,.int .u64 vu]) (t:=57) (fr:=(0,0)) (show(W.alloc _).heap[W.heap.size]?=_ from World.alloc_heap_new W _)) (by simp [Value.oneCell']) (by omega) (by unfold maxLen;omega) (by omega) (by have:=HF1.out.size;omega) _ rfl ?_
    intro g1 cap1 w1 hown1 hgrow1 hfresh1 hlt1
    have hgr:Fr (fun j=>v0.ownBlock=some j) _ w1:=(Fr.refl _ _).grown hgrow1 fun j e=>.inl e
    have hcur1:=HSK.out _ _ (hgr.mono fun j e=>.inl (.inr (HOWN.out j e).1)) HC1.out
    have hmm:=(HM.out.fr HF1.out id).fr hgr (fun h=>(HOWN.out _ h).2 rfl)
    obtain⟨w2,hrun2,hm2,hf2⟩:=hmm.store lawU Tryz.underlying165 (by unfold maxLen;omega) HKU.out (.slice (some ⟨g1,0,none⟩) (n+1) cap1)
    have hcur2:=HSK.out _ _ (hf2.mono fun j e=>.inl (.inl e)) hcur1
    have HX:=hhd (HAPP.out _ w1 w2 (.slice (some ⟨g1,0,none⟩) (n+1) cap1) g1 cap1 HF1.out rfl hown1 hgrow1 hfresh1 hlt1 hm2 hf2)
    have HM2:=hhd hm2
    refine hK'.out _ _ hcur1 (fun hHeld=>?_)
    clear hK' K' hcur1 hm2 hf2 hmm hgr hown1 hgrow1 hfresh1 hlt1
    (try simp only [Act.put,List.setIfInBounds_toArray,List.set_cons_zero,List.set_cons_succ])
    refine wpAnyH_ready (rs:=[17]) (by kernel_rfl) (by simp) ?_
    refine AllReadyH.cons (o := { dst := none, op := Op.mapUpdate 165 (Operand.tmp 19) (Operand.tmp 21) (Operand.tmp 32), type := 0, pos := "index.go:105", after := #[{ on := 3, ground := Ground.data }, { on := 5, ground := Ground.data }, { on := 16, ground := Ground.data }, { on := 16, ground := Ground.chain }, { on := 0, ground := Ground.phase }, { on := 1, ground := Ground.phase }, { on := 2, ground := Ground.phase }, { on := 3, ground := Ground.phase }, { on := 4, ground := Ground.phase }, { on := 5, ground := Ground.phase }, { on := 6, ground := Ground.phase }, { on := 7, ground := Ground.phase }, { on := 8, ground := Ground.phase }, { on := 9, ground := Ground.phase }, { on := 10, ground := Ground.phase }, { on := 11, ground := Ground.phase }, { on := 12, ground := Ground.phase }, { on := 13, ground := Ground.phase }, { on := 14, ground := Ground.phase }, { on := 15, ground := Ground.phase }, { on := 16, ground := Ground.phase }], guard := none }) rfl (fun K' hK' => ?_) ?_
    ·go_simp
     refine hK'.out _ _ hcur2 (fun hHeld=>?_)
     clear hK' K'
     (try simp only [Act.put,List.setIfInBounds_toArray,List.set_cons_zero,List.set_cons_succ])
     refine wpAnyH_done (by kernel_rfl) ?_ _
     obtain⟨g2,hp,hg0,hfr⟩:=HX.out
     show Q .normal _ _
     refine cut_useQ (n:=57) (Q:=Q) (e:=.normal) _ rfl ?_
     exact HK.out _ w2 (.slice (some ⟨g1,0,none⟩) (n+1) cap1) g1 g2 (by rw[H5.out];rfl) (by rw[H6.out];rfl) hcur2 HM2.out hp hg0 hfr
    ·exact AllReadyH.nil
   ·exact AllReadyH.nil
  ·exact AllReadyH.nil
 ·exact AllReadyH.nil
theorem zeroU64sR:∀ w,(zeroValue 35).run Tryz.prog w = .ok (.slice none 0 0) w:=fun w=>by kernel_rfl
def itThen:Code→Code
 | .cond _ a _=>a
 | c=>c
noncomputable def itC6:Code:=itThen (itSnd (itSnd itLoop))
theorem itR6(l:Nat){Q:Exit→Act→World→Prop}(W:World)(lo b5 px b6 bn bb N:Nat)(t:Int)(q:ByteArray)(x:Int × Val)(H:Int→List Int)(F:Lit→Option Value)(g:Int→Nat)(R:Nat→Prop)(f:Nat→Value)
  (hS:ItS b5 px b6 bn bb t q x W) (hm:MapF Tryz.prog 33 W bb N F) (hr:OwnR enc4 1 33 W lo bb H F g R) (hlo:lo≤W.heap.size) (hN:N≤10000000000) (hl:(H (x.2.u)).length≤10000000000) (hwf:(Lit.int .u64 (x.2.u)).wf=true)
  (h5R:¬ R b5∧b5≠bb) (hxR:¬ R px∧px≠bb) (h6R:¬ R b6∧b6≠bb) (hbl:lo≤bb)
  (h5:f 5 = .pointer (some ⟨b5,0,none⟩)) (h6:f 6 = .pointer (some ⟨b6,0,none⟩))
  (hK:∀ f' W' v' g' g2,f' 5=f 5→f' 6=f 6→ItS b5 px b6 bn bb t q x W'→MapF Tryz.prog 33 W' bb (N+1) (putF F (litU (x.2.u)) (some v'))→OwnR enc4 1 33 W' lo bb (updV H (x.2.u) (H (x.2.u) ++ [x.1])) (putF F (litU (x.2.u)) (some v')) g2 (fun j=>R j∨j=g') →
   (R g'∨W.heap.size≤g')→Fr (fun j=>j=bb∨R j) W W'→Q .normal (frA 57 f') W') :
  (itC6).wpIn (Fence.wide.inRound l) 7 Tryz.prog Q (frA 57 f) W:=by
 obtain⟨v0,hv0,hrow0,hown0⟩:=hr.at (x.2.u)
 have hku:=keyOf_int_mk (P:=Tryz.prog) Tryz.underlying33 hwf
 have hlk:∀ w',Fr N0 W w'→(Instr.lookup 166 (.map (some bb)) (.int .u64 (x.2.u)) false).run Tryz.prog w' = .ok v0 w':=fun w' hf=>by
  have:=((hm.fr hf id).look lawU Tryz.underlying166 (zeroU64sR _) hku).1
  rw[← hv0];exact this
 obtain⟨i0,hi,hz0,hz1,hz2⟩:=info_parts ins4_info
 have hbn:=hm.lt
 have hown:∀ j,v0.ownBlock=some j→R j∧lo≤j:=fun j hj=>by
  rcases hown0 with h | ⟨h0,h⟩
  ·rw[h] at hj;cases hj
  ·rw[h] at hj;obtain rfl:=Option.some.inj hj;exact⟨hr.inR _ h0,(hr.lt _ (hr.inR _ h0)).1⟩
 have happ:∀ (w1 w2 w3:World) (v':Value) (g' cap:Nat),Fr N0 W w1→v' = .slice (some ⟨g',0,none⟩) ((H (x.2.u)).length+1) cap→w2.ownsRow lo 33 1 v' ((H (x.2.u)).length+1) ((H (x.2.u)).flatMap enc4 ++ enc4 (x.1))→w1.grownBy w2 v0.ownBlock→(v0.ownBlock=some g'∨g'=w1.heap.size)→g' < w2.heap.size→MapF Tryz.prog 33 w3 bb (N+1) (putF F (litU (x.2.u)) (some v'))→Fr (fun j=>j=bb) w2 w3 →
   ∃ g2,OwnR enc4 1 33 w3 lo bb (updV H (x.2.u) (H (x.2.u) ++ [x.1])) (putF F (litU (x.2.u)) (some v')) g2 (fun j=>R j∨j=g')∧(R g'∨W.heap.size≤g')∧Fr (fun j=>j=bb∨R j) W w3:=fun w1 w2 w3 v' g' cap hf he hrow hg hfresh hlt hm3 hf3=>by
  have hz:=hf.size
  have hfr2:Fr (fun j=>v0.ownBlock=some j) w1 w2:=(Fr.refl _ _).grown hg fun j e=>.inl e
  have hg0:R g'∨W.heap.size≤g':=by
   rcases hfresh with h | h
   ·exact .inl (hown g' h).1
   ·exact .inr (by omega)
  have hgb:g'≠bb:=fun e=>by
   rcases hg0 with h | h
   ·exact(hr.lt _ h).2.2 e
   ·omega
  have hglo:lo≤g':=by
   rcases hg0 with h | h
   ·exact(hr.lt _ h).1
   ·omega
  obtain⟨g2,hp⟩:=hr.push (x.2.u) (x.1) (v0:=v0) (v':=v') (g':=g') (n:=(H (x.2.u)).length+1) hown0 hf (by simpa using hrow) (by simp) hfr2 (by rw[he];rfl) (hfresh.imp id (fun h=>by omega)) hglo hlt hgb hf3
  refine⟨g2,hp,hg0,?_⟩
  refine(((hf.mono (T':=fun j=>j=bb∨R j) fun _ h=>h.elim).trans hfr2 fun j hj=>.inl (.inr (hown j hj).1)).trans hf3 fun j hj=>.inl (.inl hj))
 have hSk:∀ (A B:World),Fr (fun j=>j=bb∨R j) A B→ItS b5 px b6 bn bb t q x A→ItS b5 px b6 bn bb t q x B:=fun A B hf h=>
  itS_fr hf (fun h=>h.elim h5R.2 h5R.1) (fun h=>h.elim hxR.2 hxR.1) (fun h=>h.elim h6R.2 h6R.1) h
 have hown2:∀ j,v0.ownBlock=some j→R j∧j≠bb:=fun j hj=>⟨(hown j hj).1,(hr.lt _ (hown j hj).1).2.2⟩
 obtain⟨n,hn⟩:∃ n,(H (x.2.u)).length=n:=⟨_,rfl⟩
 obtain⟨row,hrw⟩:∃ r,(H (x.2.u)).flatMap enc4=r:=⟨_,rfl⟩
 rw[hn,hrw] at hrow0 happ
 rw[hn] at hl
 have HK:=hhd hK;have HM:=hhd hm;have HKU:=hhd hku;have HLK:=hhd hlk;have HROW:=hhd hrow0;have HAPP:=hhd happ;have HSK:=hhd hSk;have HOWN:=hhd hown2;have H5:=hhd h5;have H6:=hhd h6
 have hcur:ItS b5 px b6 bn bb t q x W.drew:=hSk _ _ (Fr.refl _ _).drew hS
 have hcur0:=hS
 have HF0:Hid (Fr N0 W W.drew):=hhd (Fr.refl _ _).drew
 clear hK hm hku hlk hrow0 happ hSk hown2 hown hr hown0 hS hv0 hrw hn h5R hxR h6R hwf
 obtain⟨u,⟨vk,vb,vn,vs,vu⟩⟩:=x
 simp only at *
 show Code.wpIn _ _ _ _ _ { tmps:=#[f 0,f 1,f 2,f 3,f 4,f 5,f 6,f 7,f 8,f 9,f 10,f 11,f 12,f 13,f 14,f 15,f 16,f 17,f 18,f 19,f 20,f 21,f 22,f 23,f 24,f 25,f 26,f 27,f 28,f 29,f 30,f 31,f 32,f 33,f 34,f 35,f 36,f 37,f 38,f 39,f 40,f 41,f 42,f 43,f 44,f 45,f 46,f 47,f 48,f 49,f 50,f 51,f 52,f 53,f 54,f 55,f 56],defers:=[] } _
 rw[h5,h6]
 clear h5 h6
 conv=>arg 4;whnf
 refine wpIn_mono (Q:=Exit.then (fun a w=>Q .normal a w) (fun _ _ _=>False)) ?_ (fun e a w h=>by
  cases e
  case normal=>exact h
  all_goals exact(h:False).elim)
 refine wpIn_region_held_round (S:=ItS b5 px b6 bn bb t q (u,⟨vk,vb,vn,vs,vu⟩)) (by kernel_rfl) (fun⟨_,_,h⟩=>h) (by kernel_rfl) hcur ?_
 intro hHeld
 refine wpAnyH_take (i := 0) (oi := { dst := some 37, op := Op.load 156 (Operand.tmp 5), type := 156, pos := "index.go:107", after := #[], guard := none }) (v := ?_) rfl (by kernel_rfl) (by kernel_rfl) (by kernel_rfl) (fun _ _ _ h => h) (Or.inl ⟨by rfl, ?_⟩) (by assumption) ?_
 rotate_left 1
 ·(intro w hSw;(try dsimp only at hSw);go_simp;try with_reducible rfl)
 (try simp only [Act.put,List.setIfInBounds_toArray,List.set_cons_zero,List.set_cons_succ])
 refine wpAnyH_take (i := 1) (oi := { dst := some 38, op := Op.nilCheck (Operand.tmp 37), type := 0, pos := "index.go:107", after := #[{ on := 0, ground := Ground.data }], guard := none }) (v := ?_) rfl (by kernel_rfl) (by kernel_rfl) (by kernel_rfl) (fun _ _ _ h => h) (Or.inl ⟨by rfl, ?_⟩) (by assumption) ?_
 rotate_left 1
 ·(intro w hSw;(try dsimp only at hSw);go_simp;try with_reducible rfl)
 (try simp only [Act.put,List.setIfInBounds_toArray,List.set_cons_zero,List.set_cons_succ])
 refine wpAnyH_take (i := 2) (oi := { dst := some 39, op := Op.fieldAddr 168 (Operand.tmp 38) 2, type := 0, pos := "index.go:107", after := #[{ on := 1, ground := Ground.data }], guard := none }) (v := ?_) rfl (by kernel_rfl) (by kernel_rfl) (by kernel_rfl) (fun _ _ _ h => h) (Or.inl ⟨by rfl, ?_⟩) (by assumption) ?_
 rotate_left 1
 ·(intro w hSw;(try dsimp only at hSw);go_simp;try with_reducible rfl)
 (try simp only [Act.put,List.setIfInBounds_toArray,List.set_cons_zero,List.set_cons_succ])
 refine wpAnyH_take (i := 3) (oi := { dst := some 40, op := Op.load 166 (Operand.tmp 39), type := 166, pos := "index.go:107", after := #[{ on := 2, ground := Ground.data }], guard := none }) (v := ?_) rfl (by kernel_rfl) (by kernel_rfl) (by kernel_rfl) (fun _ _ _ h => h) (Or.inl ⟨by rfl, ?_⟩) (by assumption) ?_
 rotate_left 1
 ·(intro w hSw;(try dsimp only at hSw);go_simp;try with_reducible rfl)
 (try simp only [Act.put,List.setIfInBounds_toArray,List.set_cons_zero,List.set_cons_succ])
 refine wpAnyH_take (i := 4) (oi := { dst := some 41, op := Op.fieldAddr 59 (Operand.tmp 6) 2, type := 0, pos := "index.go:107", after := #[], guard := none }) (v := ?_) rfl (by kernel_rfl) (by kernel_rfl) (by kernel_rfl) (fun _ _ _ h => h) (Or.inl ⟨by rfl, ?_⟩) (by assumption) ?_
 rotate_left 1
 ·(intro w hSw;(try dsimp only at hSw);go_simp;try with_reducible rfl)
 (try simp only [Act.put,List.setIfInBounds_toArray,List.set_cons_zero,List.set_cons_succ])
 refine wpAnyH_take (i := 5) (oi := { dst := some 42, op := Op.fieldAddr 57 (Operand.tmp 41) 4, type := 0, pos := "index.go:107", after := #[{ on := 4, ground := Ground.data }], guard := none }) (v := ?_) rfl (by kernel_rfl) (by kernel_rfl) (by kernel_rfl) (fun _ _ _ h => h) (Or.inl ⟨by rfl, ?_⟩) (by assumption) ?_
 rotate_left 1
 ·(intro w hSw;(try dsimp only at hSw);go_simp;try with_reducible rfl)
 (try simp only [Act.put,List.setIfInBounds_toArray,List.set_cons_zero,List.set_cons_succ])
 refine wpAnyH_take (i := 6) (oi := { dst := some 43, op := Op.load 33 (Operand.tmp 42), type := 33, pos := "index.go:107", after := #[{ on := 5, ground := Ground.data }], guard := none }) (v := ?_) rfl (by kernel_rfl) (by kernel_rfl) (by kernel_rfl) (fun _ _ _ h => h) (Or.inl ⟨by rfl, ?_⟩) (by assumption) ?_
 rotate_left 1
 ·(intro w hSw;(try dsimp only at hSw);go_simp;try with_reducible rfl)
 (try simp only [Act.put,List.setIfInBounds_toArray,List.set_cons_zero,List.set_cons_succ])
 refine wpAnyH_take (i := 7) (oi := { dst := some 44, op := Op.load 156 (Operand.tmp 5), type := 156, pos := "index.go:107", after := #[], guard := none }) (v := ?_) rfl (by kernel_rfl) (by kernel_rfl) (by kernel_rfl) (fun _ _ _ h => h) (Or.inl ⟨by rfl, ?_⟩) (by assumption) ?_
 rotate_left 1
 ·(intro w hSw;(try dsimp only at hSw);go_simp;try with_reducible rfl)
 (try simp only [Act.put,List.setIfInBounds_toArray,List.set_cons_zero,List.set_cons_succ])
 refine wpAnyH_take (i := 8) (oi := { dst := some 45, op := Op.nilCheck (Operand.tmp 44), type := 0, pos := "index.go:107", after := #[{ on := 7, ground := Ground.data }], guard := none }) (v := ?_) rfl (by kernel_rfl) (by kernel_rfl) (by kernel_rfl) (fun _ _ _ h => h) (Or.inl ⟨by rfl, ?_⟩) (by assumption) ?_
 rotate_left 1
 ·(intro w hSw;(try dsimp only at hSw);go_simp;try with_reducible rfl)
 (try simp only [Act.put,List.setIfInBounds_toArray,List.set_cons_zero,List.set_cons_succ])
 refine wpAnyH_take (i := 9) (oi := { dst := some 46, op := Op.fieldAddr 168 (Operand.tmp 45) 2, type := 0, pos := "index.go:107", after := #[{ on := 8, ground := Ground.data }], guard := none }) (v := ?_) rfl (by kernel_rfl) (by kernel_rfl) (by kernel_rfl) (fun _ _ _ h => h) (Or.inl ⟨by rfl, ?_⟩) (by assumption) ?_
 rotate_left 1
 ·(intro w hSw;(try dsimp only at hSw);go_simp;try with_reducible rfl)
 (try simp only [Act.put,List.setIfInBounds_toArray,List.set_cons_zero,List.set_cons_succ])
 refine wpAnyH_take (i := 10) (oi := { dst := some 47, op := Op.load 166 (Operand.tmp 46), type := 166, pos := "index.go:107", after := #[{ on := 9, ground := Ground.data }], guard := none }) (v := ?_) rfl (by kernel_rfl) (by kernel_rfl) (by kernel_rfl) (fun _ _ _ h => h) (Or.inl ⟨by rfl, ?_⟩) (by assumption) ?_
 rotate_left 1
 ·(intro w hSw;(try dsimp only at hSw);go_simp;try with_reducible rfl)
 (try simp only [Act.put,List.setIfInBounds_toArray,List.set_cons_zero,List.set_cons_succ])
 refine wpAnyH_take (i := 11) (oi := { dst := some 48, op := Op.fieldAddr 59 (Operand.tmp 6) 2, type := 0, pos := "index.go:107", after := #[], guard := none }) (v := ?_) rfl (by kernel_rfl) (by kernel_rfl) (by kernel_rfl) (fun _ _ _ h => h) (Or.inl ⟨by rfl, ?_⟩) (by assumption) ?_
 rotate_left 1
 ·(intro w hSw;(try dsimp only at hSw);go_simp;try with_reducible rfl)
 (try simp only [Act.put,List.setIfInBounds_toArray,List.set_cons_zero,List.set_cons_succ])
 refine wpAnyH_take (i := 12) (oi := { dst := some 49, op := Op.fieldAddr 57 (Operand.tmp 48) 4, type := 0, pos := "index.go:107", after := #[{ on := 11, ground := Ground.data }], guard := none }) (v := ?_) rfl (by kernel_rfl) (by kernel_rfl) (by kernel_rfl) (fun _ _ _ h => h) (Or.inl ⟨by rfl, ?_⟩) (by assumption) ?_
 rotate_left 1
 ·(intro w hSw;(try dsimp only at hSw);go_simp;try with_reducible rfl)
 (try simp only [Act.put,List.setIfInBounds_toArray,List.set_cons_zero,List.set_cons_succ])
 refine wpAnyH_take (i := 13) (oi := { dst := some 50, op := Op.load 33 (Operand.tmp 49), type := 33, pos := "index.go:107", after := #[{ on := 12, ground := Ground.data }], guard := none }) (v := ?_) rfl (by kernel_rfl) (by kernel_rfl) (by kernel_rfl) (fun _ _ _ h => h) (Or.inl ⟨by rfl, ?_⟩) (by assumption) ?_
 rotate_left 1
 ·(intro w hSw;(try dsimp only at hSw);go_simp;try with_reducible rfl)
 (try simp only [Act.put,List.setIfInBounds_toArray,List.set_cons_zero,List.set_cons_succ])
 refine wpAnyH_take (i := 15) (oi := { dst := some 52, op := Op.fieldAddr 59 (Operand.tmp 6) 0, type := 0, pos := "index.go:107", after := #[], guard := none }) (v := ?_) rfl (by kernel_rfl) (by kernel_rfl) (by kernel_rfl) (fun _ _ _ h => h) (Or.inl ⟨by rfl, ?_⟩) (by assumption) ?_
 rotate_left 1
 ·(intro w hSw;(try dsimp only at hSw);go_simp;try with_reducible rfl)
 (try simp only [Act.put,List.setIfInBounds_toArray,List.set_cons_zero,List.set_cons_succ])
 refine wpAnyH_take (i := 16) (oi := { dst := some 53, op := Op.load 33 (Operand.tmp 52), type := 33, pos := "index.go:107", after := #[{ on := 15, ground := Ground.data }], guard := none }) (v := ?_) rfl (by kernel_rfl) (by kernel_rfl) (by kernel_rfl) (fun _ _ _ h => h) (Or.inl ⟨by rfl, ?_⟩) (by assumption) ?_
 rotate_left 1
 ·(intro w hSw;(try dsimp only at hSw);go_simp;try with_reducible rfl)
 (try simp only [Act.put,List.setIfInBounds_toArray,List.set_cons_zero,List.set_cons_succ])
 have HC1:Hid (ItS b5 px b6 bn bb t q (u,⟨vk,vb,vn,vs,vu⟩) (W.alloc (.cells #[.int .u64 u] 33)).drew):=hhd (HSK.out _ _ (((Fr.refl (fun j=>j=bb∨R j) W).alloc (.cells #[.int .u64 u] 33)).drew) hcur0)
 have HF1:Hid (Fr N0 W (W.alloc (.cells #[.int .u64 u] 33)).drew):=hhd (((Fr.refl N0 W).alloc (.cells #[.int .u64 u] 33)).drew)
 clear hcur0
 refine wpAnyH_ready (rs:=[14,17]) (by kernel_rfl) (by simp) ?_
 refine AllReadyH.cons (o := { dst := some 51, op := Op.lookup 166 (Operand.tmp 47) (Operand.tmp 50) false, type := 35, pos := "index.go:107", after := #[{ on := 10, ground := Ground.data }, { on := 13, ground := Ground.data }], guard := none }) rfl (fun K' hK' => ?_) ?_
 ·have hlk0:=HLK.out _ HF0.out
  go_simp
  refine hK'.out _ _ hcur (fun hHeld=>?_)
  clear hK' K' hlk0 hcur
  (try simp only [Act.put,List.setIfInBounds_toArray,List.set_cons_zero,List.set_cons_succ])
  refine wpAnyH_ready (rs:=[17]) (by kernel_rfl) (by simp) ?_
  refine AllReadyH.cons (o := { dst := some 54, op := Op.buildSlice 35 1 #[(0, Operand.tmp 53)], type := 35, pos := "index.go:107", after := #[{ on := 16, ground := Ground.data }], guard := none }) rfl (fun K' hK' => ?_) ?_
  ·go_simp
   refine hK'.out _ _ HC1.out (fun hHeld=>?_)
   clear hK' K'
   (try simp only [Act.put,List.setIfInBounds_toArray,List.set_cons_zero,List.set_cons_succ])
   refine wpAnyH_ready (rs:=[18]) (by kernel_rfl) (by simp) ?_
   refine AllReadyH.cons (o := { dst := some 55, op := Op.call { callee := Callee.builtin Builtin.append, args := #[Operand.tmp 51, Operand.tmp 54], argTypes := #[35, 35] }, type := 35, pos := "index.go:107", after := #[{ on := 14, ground := Ground.data }, { on := 17, ground := Ground.data }], guard := none }) rfl (fun K' hK' => ?_) ?_
   ·refine step_append_lies _ rfl _ _ 35 rfl lo 33 i0 (.int .u64 0) 1 8 Tryz.underlying35 hi hz0 hz1 hz2 rfl (by decide) v0 n row rfl (HROW.out.fr0 HF1.out) ⟨W.heap.size,0,none⟩ 1 1 [.int .u64 u] rfl rfl (World.news_of_block (cs:=#[.int .u64 u]) (t:=33) (fr:=(0,0)) (show(W.alloc _).heap[W.heap.size]?=_ from World.alloc_heap_new W _)) (by simp [Value.oneCell']) (by omega) (by unfold maxLen;omega) (by omega) (by have:=HF1.out.size;omega) _ rfl ?_
    intro g1 cap1 w1 hown1 hgrow1 hfresh1 hlt1
    have hgr:Fr (fun j=>v0.ownBlock=some j) _ w1:=(Fr.refl _ _).grown hgrow1 fun j e=>.inl e
    have hcur1:=HSK.out _ _ (hgr.mono fun j e=>.inl (.inr (HOWN.out j e).1)) HC1.out
    have hmm:=(HM.out.fr HF1.out id).fr hgr (fun h=>(HOWN.out _ h).2 rfl)
    obtain⟨w2,hrun2,hm2,hf2⟩:=hmm.store lawU Tryz.underlying166 (by unfold maxLen;omega) HKU.out (.slice (some ⟨g1,0,none⟩) (n+1) cap1)
    have hcur2:=HSK.out _ _ (hf2.mono fun j e=>.inl (.inl e)) hcur1
    have HX:=hhd (HAPP.out _ w1 w2 (.slice (some ⟨g1,0,none⟩) (n+1) cap1) g1 cap1 HF1.out rfl hown1 hgrow1 hfresh1 hlt1 hm2 hf2)
    have HM2:=hhd hm2
    refine hK'.out _ _ hcur1 (fun hHeld=>?_)
    clear hK' K' hcur1 hm2 hf2 hmm hgr hown1 hgrow1 hfresh1 hlt1
    (try simp only [Act.put,List.setIfInBounds_toArray,List.set_cons_zero,List.set_cons_succ])
    refine wpAnyH_ready (rs:=[19]) (by kernel_rfl) (by simp) ?_
    refine AllReadyH.cons (o := { dst := none, op := Op.mapUpdate 166 (Operand.tmp 40) (Operand.tmp 43) (Operand.tmp 55), type := 0, pos := "index.go:107", after := #[{ on := 3, ground := Ground.data }, { on := 6, ground := Ground.data }, { on := 18, ground := Ground.data }, { on := 18, ground := Ground.chain }, { on := 0, ground := Ground.phase }, { on := 1, ground := Ground.phase }, { on := 2, ground := Ground.phase }, { on := 3, ground := Ground.phase }, { on := 4, ground := Ground.phase }, { on := 5, ground := Ground.phase }, { on := 6, ground := Ground.phase }, { on := 7, ground := Ground.phase }, { on := 8, ground := Ground.phase }, { on := 9, ground := Ground.phase }, { on := 10, ground := Ground.phase }, { on := 11, ground := Ground.phase }, { on := 12, ground := Ground.phase }, { on := 13, ground := Ground.phase }, { on := 14, ground := Ground.phase }, { on := 15, ground := Ground.phase }, { on := 16, ground := Ground.phase }, { on := 17, ground := Ground.phase }, { on := 18, ground := Ground.phase }], guard := none }) rfl (fun K' hK' => ?_) ?_
    ·go_simp
     refine hK'.out _ _ hcur2 (fun hHeld=>?_)
     clear hK' K'
     (try simp only [Act.put,List.setIfInBounds_toArray,List.set_cons_zero,List.set_cons_succ])
     refine wpAnyH_done (by kernel_rfl) ?_ _
     obtain⟨g2,hp,hg0,hfr⟩:=HX.out
     show Q .normal _ _
     refine cut_useQ (n:=57) (Q:=Q) (e:=.normal) _ rfl ?_
     exact HK.out _ w2 (.slice (some ⟨g1,0,none⟩) (n+1) cap1) g1 g2 (by rw[H5.out];rfl) (by rw[H6.out];rfl) hcur2 HM2.out hp hg0 hfr
    ·exact AllReadyH.nil
   ·exact AllReadyH.nil
  ·exact AllReadyH.nil
 refine AllReadyH.cons (o := { dst := some 54, op := Op.buildSlice 35 1 #[(0, Operand.tmp 53)], type := 35, pos := "index.go:107", after := #[{ on := 16, ground := Ground.data }], guard := none }) rfl (fun K' hK' => ?_) ?_
 ·go_simp
  refine hK'.out _ _ HC1.out (fun hHeld=>?_)
  clear hK' K' hcur
  (try simp only [Act.put,List.setIfInBounds_toArray,List.set_cons_zero,List.set_cons_succ])
  refine wpAnyH_ready (rs:=[14]) (by kernel_rfl) (by simp) ?_
  refine AllReadyH.cons (o := { dst := some 51, op := Op.lookup 166 (Operand.tmp 47) (Operand.tmp 50) false, type := 35, pos := "index.go:107", after := #[{ on := 10, ground := Ground.data }, { on := 13, ground := Ground.data }], guard := none }) rfl (fun K' hK' => ?_) ?_
  ·have hlk0:=HLK.out _ HF1.out
   go_simp
   refine hK'.out _ _ HC1.out (fun hHeld=>?_)
   clear hK' K' hlk0
   (try simp only [Act.put,List.setIfInBounds_toArray,List.set_cons_zero,List.set_cons_succ])
   refine wpAnyH_ready (rs:=[18]) (by kernel_rfl) (by simp) ?_
   refine AllReadyH.cons (o := { dst := some 55, op := Op.call { callee := Callee.builtin Builtin.append, args := #[Operand.tmp 51, Operand.tmp 54], argTypes := #[35, 35] }, type := 35, pos := "index.go:107", after := #[{ on := 14, ground := Ground.data }, { on := 17, ground := Ground.data }], guard := none }) rfl (fun K' hK' => ?_) ?_
   ·refine step_append_lies _ rfl _ _ 35 rfl lo 33 i0 (.int .u64 0) 1 8 Tryz.underlying35 hi hz0 hz1 hz2 rfl (by decide) v0 n row rfl (HROW.out.fr0 HF1.out) ⟨W.heap.size,0,none⟩ 1 1 [.int .u64 u] rfl rfl (World.news_of_block (cs:=#[.int .u64 u]) (t:=33) (fr:=(0,0)) (show(W.alloc _).heap[W.heap.size]?=_ from World.alloc_heap_new W _)) (by simp [Value.oneCell']) (by omega) (by unfold maxLen;omega) (by omega) (by have:=HF1.out.size;omega) _ rfl ?_
    intro g1 cap1 w1 hown1 hgrow1 hfresh1 hlt1
    have hgr:Fr (fun j=>v0.ownBlock=some j) _ w1:=(Fr.refl _ _).grown hgrow1 fun j e=>.inl e
    have hcur1:=HSK.out _ _ (hgr.mono fun j e=>.inl (.inr (HOWN.out j e).1)) HC1.out
    have hmm:=(HM.out.fr HF1.out id).fr hgr (fun h=>(HOWN.out _ h).2 rfl)
    obtain⟨w2,hrun2,hm2,hf2⟩:=hmm.store lawU Tryz.underlying166 (by unfold maxLen;omega) HKU.out (.slice (some ⟨g1,0,none⟩) (n+1) cap1)
    have hcur2:=HSK.out _ _ (hf2.mono fun j e=>.inl (.inl e)) hcur1
    have HX:=hhd (HAPP.out _ w1 w2 (.slice (some ⟨g1,0,none⟩) (n+1) cap1) g1 cap1 HF1.out rfl hown1 hgrow1 hfresh1 hlt1 hm2 hf2)
    have HM2:=hhd hm2
    refine hK'.out _ _ hcur1 (fun hHeld=>?_)
    clear hK' K' hcur1 hm2 hf2 hmm hgr hown1 hgrow1 hfresh1 hlt1
    (try simp only [Act.put,List.setIfInBounds_toArray,List.set_cons_zero,List.set_cons_succ])
    refine wpAnyH_ready (rs:=[19]) (by kernel_rfl) (by simp) ?_
    refine AllReadyH.cons (o := { dst := none, op := Op.mapUpdate 166 (Operand.tmp 40) (Operand.tmp 43) (Operand.tmp 55), type := 0, pos := "index.go:107", after := #[{ on := 3, ground := Ground.data }, { on := 6, ground := Ground.data }, { on := 18, ground := Ground.data }, { on := 18, ground := Ground.chain }, { on := 0, ground := Ground.phase }, { on := 1, ground := Ground.phase }, { on := 2, ground := Ground.phase }, { on := 3, ground := Ground.phase }, { on := 4, ground := Ground.phase }, { on := 5, ground := Ground.phase }, { on := 6, ground := Ground.phase }, { on := 7, ground := Ground.phase }, { on := 8, ground := Ground.phase }, { on := 9, ground := Ground.phase }, { on := 10, ground := Ground.phase }, { on := 11, ground := Ground.phase }, { on := 12, ground := Ground.phase }, { on := 13, ground := Ground.phase }, { on := 14, ground := Ground.phase }, { on := 15, ground := Ground.phase }, { on := 16, ground := Ground.phase }, { on := 17, ground := Ground.phase }, { on := 18, ground := Ground.phase }], guard := none }) rfl (fun K' hK' => ?_) ?_
    ·go_simp
     refine hK'.out _ _ hcur2 (fun hHeld=>?_)
     clear hK' K'
     (try simp only [Act.put,List.setIfInBounds_toArray,List.set_cons_zero,List.set_cons_succ])
     refine wpAnyH_done (by kernel_rfl) ?_ _
     obtain⟨g2,hp,hg0,hfr⟩:=HX.out
     show Q .normal _ _
     refine cut_useQ (n:=57) (Q:=Q) (e:=.normal) _ rfl ?_
     exact HK.out _ w2 (.slice (some ⟨g1,0,none⟩) (n+1) cap1) g1 g2 (by rw[H5.out];rfl) (by rw[H6.out];rfl) hcur2 HM2.out hp hg0 hfr
    ·exact AllReadyH.nil
   ·exact AllReadyH.nil
  ·exact AllReadyH.nil
 ·exact AllReadyH.nil
end
end Go.Proofs.YtefepfiijoafbaaGreat
