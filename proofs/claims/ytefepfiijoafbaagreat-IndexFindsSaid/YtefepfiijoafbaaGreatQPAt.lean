/- HWrite PAt -/
import Derived.Deep.RegionHeld3
import Derived.Test.YtefepfiijoafbaaGreatQDelV
import Derived.Test.YtefepfiijoafbaaGreatQVOrd3
set_option linter.unusedVariables false
set_option linter.unusedSimpArgs false
set_option maxRecDepth 100000
set_option maxHeartbeats 4000000
namespace Go.Proofs.YtefepfiijoafbaaGreat
section
open Go.RowKit Go.Shelf Go.Maps
attribute [local go_sem] Oper.semAt_some
attribute [local irreducible] wpQuiet
theorem row_form{w:World}{base:Nat}{e:TypeId}{k:Nat}{v:Value}{n:Nat}{xs:List Value}(h:w.ownsRow base e k v n xs):∃ a c,v = .slice a n c:=by
 rcases h.2 with⟨h,h0⟩ | ⟨g,cap,cur,h,-⟩
 ·exact⟨none,0,by rw[h,h0]⟩
 ·exact⟨_,_,h⟩
theorem vCmpR_may{a b:Val}(ha:valMay a=true)(hb:valMay b=true):(vCmpR a b).1=vcmp a b:=by
 unfold vCmpR;rw[if_pos ⟨ha,hb⟩]
theorem bsvH_any(w:World)(g:Nat)(v:Value)(l:List Val)(h:RowsK Val.enc 5 w g v l)(hl:VOk l)(x:Val)(hx:valMay x=true)(hu:0≤x.u)(hn:l.length≤10000000000) :
  Calls Tryz.prog 208 #[v,.agg x.enc.toArray,.func (.func 209) #[] #[]] w fun e w'=>e = .returned (.tuple #[.int .i64 (posV x l),.bool (thereV l x (posV x l))])∧Fr N0 w w':=
 bsv_any w g v l h x hu (fun y hy=>(wf_nn (hl.may y hy).2).1) (posV x l) (posV_le x l)
  (fun k hk hkp=>by rw[vCmpR_may (hl.may _ (List.getElem_mem hk)).1 hx];exact posV_lt k hk hkp)
  (fun k hk hkp=>by rw[vCmpR_may (hl.may _ (List.getElem_mem hk)).1 hx];exact posV_ge hl.rises k hk hkp) (by omega)
theorem boxB_fr{B:Nat}{cs:Array Value}{W W':World}(hf:Fr N0 W W')(h:BoxB B cs W):BoxB B cs W':=boxB_keep hf id h
def NewRow(W:World)(l:List Val)(e:Ending)(w':World):Prop:=∃ v',e = .returned v'∧w'.ownsRow W.heap.size 57 5 v' l.length (l.flatMap Val.enc)∧Fr N0 W w'
theorem newRow_of{W w1 w2:World}{base:Nat}{v v':Value}{n:Nat}{l:List Val}{l':List Value}{e:Ending}(he:e = .returned v')(hf:Fr N0 W w1)(hb:W.heap.size≤base)(h1:w1.ownsRow base 57 5 v n l')(h2:w2.ownsRow base 57 5 v' l.length (l.flatMap Val.enc))(hf2:Fr (fun j=>v.ownBlock=some j) w1 w2):NewRow W l e w2:=
 ⟨v',he,ownsRow_base h2 hb,hf.trans hf2 fun k hk=>.inr (Nat.le_trans hb (ownsRow_lt h1 k hk).1)⟩
theorem hwAdd(W:World)(lo b n:Nat)(H:Int→List Val)(x:Wr)(list:Bool)(hm:HaveM W lo b n H)(hH:HOk H n)(hx:WrOk x)(hn:n≤9000000000)(hdl0:x.del=false) :
  Calls Tryz.prog 151 #[.map (some b),.agg x.enc.toArray,.bool list] W fun e w'=>e = .returned (.tuple #[])∧HaveM w' lo b (n+1) (hWrite list H x)∧Fr (fun j=>j=b) W w':=by
 obtain⟨hlo,F,hmap,hrows⟩:=hm
 have hlt:=hmap.lt
 have hku:=keyOf_int_mk (P:=Tryz.prog) Tryz.underlying33 hx.uid
 have hok:=hH.ok x.uid
 have hlen:=hH.len x.uid
 obtain⟨g,hrow,hg⟩:=hrows.at x.uid
 obtain⟨v0,hv0⟩:∃ v0,(F (litU x.uid)).getD (.slice none 0 0)=v0:=⟨_,rfl⟩
 rw[hv0] at hrow
 have hlk:∀ w',Fr N0 W w'→(Instr.lookup 183 (.map (some b)) (.int .u64 x.uid) false).run Tryz.prog w' = .ok v0 w':=fun w' hf=>by
  have:=((hmap.fr hf id).look lawU Tryz.underlying183 (zeroValsR _) hku).1
  rw[← hv0];exact this
 have hbs:=fun w' (hf:Fr N0 W w')=>bsvH_any w' g v0 (H x.uid) (rowsK_frT (enc:=Val.enc) (n:=5) val_len hrow hf fun _=>id) hok x.val hx.may (wf_nn hx.u).1 (by omega)
 have hcl:=fun w' (hf:Fr N0 W w')=>cloneV_any w' g v0 (H x.uid) (rowsK_frT (enc:=Val.enc) (n:=5) val_len hrow hf fun _=>id) (by omega)
 have hdl:=fun w' base v (h:w'.ownsRow base 57 5 v (H x.uid).length ((H x.uid).flatMap Val.enc)) (hi:posV x.val (H x.uid) < (H x.uid).length)=>delV_any w' base v (H x.uid) (posV x.val (H x.uid)) h hi (by omega)
 have hin:=fun w' base v vb (hb:base≤w'.heap.size) (h:w'.ownsRow base 57 5 v (H x.uid).length ((H x.uid).flatMap Val.enc)) hvb hne=>insV_any w' base v (H x.uid).length (posV x.val (H x.uid)) (H x.uid) x.val vb hb h rfl (posV_le _ _) (by omega) hvb hne
 have hput:∀ (w1 w2:World) (v':Value) (g':Nat),Fr N0 W w1→RowsK Val.enc 5 w1 g' v' (wrV (H x.uid) x list)→wrV (H x.uid) x list≠[]→lo≤g'→g'≠b→g' < w1.heap.size→MapF Tryz.prog 33 w2 b (n+1) (putF F (litU x.uid) (some v'))→Fr (fun j=>j=b) w1 w2 →
   HaveM w2 lo b (n+1) (hWrite list H x)∧Fr (fun j=>j=b) W w2:=fun w1 w2 v' g' hf hr h0 h1 h2 h3 hm2 hf2=>by
  have hr1:=(hrows.fr val_len hf fun k h=>h.elim).put x.uid h0 h1 h2 h3 hr
  exact⟨⟨hlo,_,hm2,hr1.fr val_len hf2 fun k hk=>.inr (.inl hk)⟩,(hf.mono fun _ h=>h.elim).trans hf2 fun k hk=>.inl hk⟩
 have hdel:∀ (w1 w2:World),Fr N0 W w1→wrV (H x.uid) x list = []→MapF Tryz.prog 33 w2 b n (putF F (litU x.uid) none)→Fr (fun j=>j=b) w1 w2 →
   HaveM w2 lo b (n+1) (hWrite list H x)∧Fr (fun j=>j=b) W w2:=fun w1 w2 hf h0 hm2 hf2=>by
  have hr1:=(hrows.fr val_len hf fun k h=>h.elim).del x.uid
  unfold hWrite
  rw[h0]
  exact⟨⟨hlo,_,hm2.mono (by omega),hr1.fr val_len hf2 fun k hk=>.inr (.inl hk)⟩,(hf.mono fun _ h=>h.elim).trans hf2 fun k hk=>.inl hk⟩
 have hputR:∀ (w1 w2:World) (v':Value) (l:List Val),wrV (H x.uid) x list=l→Fr N0 W w1→w1.ownsRow W.heap.size 57 5 v' l.length (l.flatMap Val.enc)→l≠[]→MapF Tryz.prog 33 w2 b (n+1) (putF F (litU x.uid) (some v'))→Fr (fun j=>j=b) w1 w2 →
   HaveM w2 lo b (n+1) (hWrite list H x)∧Fr (fun j=>j=b) W w2:=fun w1 w2 v' l hl hf hr h0 hm2 hf2=>by
  obtain⟨g',hg',hrk⟩:=rowsK_of_row (enc:=Val.enc) (n:=5) val_len (by decide) hr
  have hlt':g' < w1.heap.size:=by
   obtain⟨a,off,cap,-,-,-,-,-,h5⟩:=hrk
   have h1:0 < l.length:=List.length_pos_iff.2 h0
   have:=h5 0 h1 0 (by decide)
   rw[List.getElem?_eq_getElem (by rw[val_len];decide)] at this
   exact lt_of_cell this
  exact hput w1 w2 v' g' hf (by rw[hl];exact hrk) (by rw[hl];exact h0) (by omega) (by omega) hlt' hm2 hf2
 have hti:=thereV_iff hok.rises (fun y hy=>(hok.may y hy).1) hx.may
 have hpi:=there_iff (x:=x.val) hok.rises
 obtain⟨a0,c0,he0⟩:∃ a c,v0 = .slice a (H x.uid).length c:=by
  obtain⟨a,off,cap,h1,-⟩:=hrow;exact⟨a,cap,h1⟩
 subst he0
 have hrow0:=fun w' (hf:Fr N0 W w')=>rowsK_frT (enc:=Val.enc) (n:=5) val_len hrow hf fun _=>id
 obtain⟨l,hl⟩:∃ l,H x.uid=l:=⟨_,rfl⟩
 simp only [hl] at *
 unfold wrV at hput hdel hputR
 obtain⟨P,hP⟩:∃ P,posV x.val l=P:=⟨_,rfl⟩
 simp only [hP] at *
 obtain⟨T,hT⟩:∃ T,thereV l x.val P=T:=⟨_,rfl⟩
 simp only [hT] at *
 obtain⟨m,hm⟩:∃ m,l.length=m:=⟨_,rfl⟩
 have hin1:x.val ∉ l→(l.take P ++ x.val :: l.drop P).length=m+1:=fun _=>by have:=posV_le x.val l;simp;omega
 have hde1:P < m→(l.eraseIdx P).length=m - 1:=fun h=>by rw[List.length_eraseIdx,if_pos (by omega),hm]
 simp only [hm] at *
 have HM:=hhd hmap;have HKU:=hhd hku;have HBS:=hhd hbs;have HCL:=hhd hcl;have HDL:=hhd hdl;have HIN:=hhd hin;have HPUT:=hhd hput;have HPR:=hhd hputR;have HDEL:=hhd hdel;have HROW:=hhd hrow0;have HG:=hhd hg;have HTI:=hhd hti;have HPI:=hhd hpi;have HIL:=hhd hin1;have HDE:=hhd hde1;have HL:Hid (l.length=m):=hhd (by assumption)
 have hx':=hx
 clear hmap hku hbs hcl hdl hin hput hputR hdel hrow0 hg hti hpi hrow hrows hH hok hT hP hin1 hde1 hv0 hx hx'
 obtain⟨xd,xu,xp,vk,vb,vn,vs,vu⟩:=x
 simp only at hdl0
 subst hdl0
 simp only [Wr.enc,Val.enc] at *
 obtain⟨W0,hW0⟩:∃ W0,W.alloc (.cells #[.bool false,.int .u64 xu,.string xp,.int .u8 vk,.bool vb,.int .i64 vn,.string vs,.int .u64 vu] 61)=W0:=⟨_,rfl⟩
 have hf0:Fr N0 W W0:=by rw[← hW0];exact(Fr.refl _ _).alloc _
 have hB:W0.heap[W.heap.size]?=some (.cells #[.bool false,.int .u64 xu,.string xp,.int .u8 vk,.bool vb,.int .i64 vn,.string vs,.int .u64 vu] 61 (0,0)):=by rw[← hW0];exact World.alloc_heap_new W _
 obtain⟨m0,n0,l0⟩:=box_cells hB
 have HF0:=hhd hf0;have HB:=hhd hB
 have hlk0:=hlk W0 hf0
 have HLK:=hhd hlk
 clear hf0 hB hlk
 cases list
 ·
  go_enter Tryz.func151,Tryz.ntmps151
  go_wp2_with (first
   |(go_at_call 208;refine(HBS.out _ HF0.out).mono ?_;rintro e w1 ⟨rfl,hf1⟩;have hb1:=(hf1.at (k:=W.heap.size) id l0).trans HB.out;obtain⟨m1,n1,l1⟩:=box_cells hb1)
   |(at_mapUpdate;go_loud (refine wpList_putF _ rfl _ _ _ 183 rfl 33 91 lawU Tryz.underlying183 b n _ rfl (HM.out.fr ((HF0.out.then0 hf1).alloc _) id) (by unfold maxLen;omega) _ _ (litU xu) rfl rfl HKU.out ?_);intro w2 hm2 hf2))
  have hz0:=HF0.out.size
  have hz1:=hf1.size
  have hrow:=row_of_block (enc:=Val.enc) (n:=5) ⟨vk,vb,vn,vs,vu⟩ (World.alloc_heap_new w1 (.cells #[.int .u8 vk,.bool vb,.int .i64 vn,.string vs,.int .u64 vu] 57)) rfl
  have:=HPUT.out (w1.alloc (.cells #[.int .u8 vk,.bool vb,.int .i64 vn,.string vs,.int .u64 vu] 57)) w2 (.slice (some ⟨w1.heap.size,0,none⟩) 1 1) w1.heap.size ((HF0.out.then0 hf1).alloc _) (by simpa using hrow) (by simp) (by omega) (by omega) (by simp) hm2 hf2
  exact⟨rfl,.tuple #[],by simp [results,go_sem,Tryz.results151],rfl,this⟩
 ·by_cases hin:(⟨vk,vb,vn,vs,vu⟩:Val) ∈ l
  ·
   obtain rfl:=HTI.out.2 hin
   have hm1:¬((m:Int)=0):=by have:=HL.out;have:=List.length_pos_of_mem hin;omega
   have hm2:((m:Int) == 0)=false:=by simpa using hm1
   go_enter Tryz.func151,Tryz.ntmps151
   go_wp2_with (first
    |(go_at_call 208;refine(HBS.out _ HF0.out).mono ?_;rintro e w1 ⟨rfl,hf1⟩;have hb1:=(hf1.at (k:=W.heap.size) id l0).trans HB.out;obtain⟨m1,n1,l1⟩:=box_cells hb1)
    |(at_mapUpdate;go_loud (refine wpList_putF _ rfl _ _ _ 183 rfl 33 91 lawU Tryz.underlying183 b n _ rfl (HM.out.fr (HF0.out.then0 hf1) id) (by unfold maxLen;omega) _ _ (litU xu) rfl rfl HKU.out ?_);intro w2 hm2 hf2))
   have hne:l≠[]:=List.ne_nil_of_mem hin
   have hfw:=HF0.out.then0 hf1
   obtain⟨g1,g2,g3⟩:=HG.out hne
   have:=HPUT.out w1 w2 (.slice a0 m c0) g hfw (by simpa [hin] using HROW.out _ hfw) (by simpa [hin] using hne) g1 g2 (Nat.lt_of_lt_of_le g3 hfw.size) hm2 hf2
   exact⟨rfl,.tuple #[],by simp [results,go_sem,Tryz.results151],rfl,this⟩
  ·
   obtain rfl:T=false:=by
    cases T
    ·rfl
    ·exact absurd (HTI.out.1 rfl) hin
   go_enter Tryz.func151,Tryz.ntmps151
   go_wp2_with (first
    |(go_at_call 208;refine(HBS.out _ HF0.out).mono ?_;rintro e w1 ⟨rfl,hf1⟩;have hb1:=(hf1.at (k:=W.heap.size) id l0).trans HB.out;obtain⟨m1,n1,l1⟩:=box_cells hb1))
   have hA:∀ (w2:World) base v2 (hf:Fr N0 w1 w2) (hb:w1.heap.size≤base) (hb2:base≤w2.heap.size) (h:w2.ownsRow base 57 5 v2 m (l.flatMap Val.enc)),Calls Tryz.prog 211 #[v2,.int .i64 P,.slice (some ⟨w2.heap.size,0,none⟩) 1 1] (w2.alloc (.cells #[.int .u8 vk,.bool vb,.int .i64 vn,.string vs,.int .u64 vu] 57)) (NewRow w1 (l.take P ++(⟨vk,vb,vn,vs,vu⟩:Val) :: l.drop P)):=fun w2 base v2 hf hb hb2 h=>by
    have h2:=h.fr0 ((Fr.refl N0 w2).alloc (.cells #[.int .u8 vk,.bool vb,.int .i64 vn,.string vs,.int .u64 vu] 57))
    refine(HIN.out _ base v2 w2.heap.size (by simp;omega) h2 (World.alloc_heap_new w2 _) (fun e=>by have:=(ownsRow_lt h _ e).2;omega)).mono ?_
    rintro e w' ⟨v',he,g1,g2,-⟩
    rw[← HIL.out hin] at g1
    exact newRow_of he (hf.alloc _) hb h2 g1 g2
   have hB:∀ (w0 w2:World) v2 (hf0:Fr N0 w1 w0) (hf:Fr N0 (w0.alloc (.cells #[.int .u8 vk,.bool vb,.int .i64 vn,.string vs,.int .u64 vu] 57)).drew w2) (h:w2.ownsRow (w0.alloc (.cells #[.int .u8 vk,.bool vb,.int .i64 vn,.string vs,.int .u64 vu] 57)).drew.heap.size 57 5 v2 m (l.flatMap Val.enc)),Calls Tryz.prog 211 #[v2,.int .i64 P,.slice (some ⟨w0.heap.size,0,none⟩) 1 1] w2 (NewRow w1 (l.take P ++(⟨vk,vb,vn,vs,vu⟩:Val) :: l.drop P)):=fun w0 w2 v2 hf0 hf h=>by
    have hz:=hf.size
    have hz0:=hf0.size
    refine(HIN.out _ _ v2 w0.heap.size hz h ((hf.at id (by simp)).trans (World.alloc_heap_new w0 _)) (fun e=>by have h1:(w0.alloc _).heap.size≤w0.heap.size:=(ownsRow_lt h _ e).1;rw[World.size_alloc] at h1;omega)).mono ?_
    rintro e w' ⟨v',he,g1,g2,-⟩
    rw[← HIL.out hin] at g1
    exact newRow_of he ((hf0.alloc _).drew.then0 hf) (by show _≤(w0.alloc _).heap.size;simp;omega) h g1 g2
   have HA:=hhd hA;have HBB:=hhd hB
   clear hA hB
   have hfw:=HF0.out.then0 hf1
   have hbx:BoxB W.heap.size #[.bool false,.int .u64 xu,.string xp,.int .u8 vk,.bool vb,.int .i64 vn,.string vs,.int .u64 vu] w1.drew:=boxB_new hb1
   have HBX:=hhd hbx;have HFW:=hhd hfw
   have HBX0:Hid (BoxB W.heap.size #[.bool false,.int .u64 xu,.string xp,.int .u8 vk,.bool vb,.int .i64 vn,.string vs,.int .u64 vu] w1):=hhd HBX.out
   clear hbx hfw m1 n1 l1 hb1 m0 n0 l0 hlk0
   go_region_held3 (BoxB W.heap.size #[.bool false,.int .u64 xu,.string xp,.int .u8 vk,.bool vb,.int .i64 vn,.string vs,.int .u64 vu]) (first
    |(with_reducible assumption)
    |(with_reducible exact HBX.out)
    |(exact boxB_fr (((Fr.refl N0 w1).alloc _).drew) HBX0.out)
    |(exact boxB_fr hf2 HBX.out)
    |(exact boxB_fr (hf2.alloc _) HBX.out)
    |(exact boxB_fr ((((Fr.refl N0 w1).alloc _).drew).then0 hf2) HBX0.out)
    |(exact boxB_fr hf3 HBX0.out)
    | fail) (first
    | (go_simp;go_at_call 154;(refine(HCL.out _ (by first | exact HFW.out.drew | exact(HFW.out.alloc _).drew)).mono ?_);rintro e w2 ⟨v2,rfl,hown2,-,hf2⟩;obtain⟨a2,c2,rfl⟩:=row_form hown2)
    |(go_simp;go_at_call 211;(refine(HA.out _ _ _ ((Fr.refl N0 w1).drew.then0 hf2) (Nat.le_refl _) hf2.size hown2).mono ?_);rintro e w3 ⟨v3,rfl,hown3,hf3⟩;rw[HIL.out hin] at hown3;obtain⟨a3,c3,rfl⟩:=row_form hown3)
    |(go_simp;go_at_call 211;(refine(HBB.out w1 _ _ (Fr.refl N0 w1) hf2 hown2).mono ?_);rintro e w3 ⟨v3,rfl,hown3,hf3⟩;rw[HIL.out hin] at hown3;obtain⟨a3,c3,rfl⟩:=row_form hown3)
    | fail)
   all_goals
    rename_i Kx hKx hS
    refine hKx _ _ ?_
    have hb3:=hS
    clear hS hKx
    have hz1:((m:Int)+1 == 0)=false:=by rw[beq_eq_false_iff_ne];omega
    have hz2:¬((m:Int)+1=0):=by omega
    have m3:=hb3.1
    go_wp2_with (at_mapUpdate;go_loud (refine wpList_putF _ rfl _ _ _ 183 rfl 33 91 lawU Tryz.underlying183 b n _ rfl (HM.out.fr (HFW.out.then0 hf3) id) (by unfold maxLen;omega) _ _ (litU xu) rfl rfl HKU.out ?_);intro w4 hm4 hf4)
    have:=HPR.out w3 w4 (.slice a3 (m+1) c3) _ rfl (HFW.out.then0 hf3) (by simpa [hin,HIL.out hin] using ownsRow_base hown3 HFW.out.size) (by simp [hin]) hm4 hf4
    exact⟨rfl,.tuple #[],by simp [results,go_sem,Tryz.results151],rfl,this⟩
theorem hwDel(W:World)(lo b n:Nat)(H:Int→List Val)(x:Wr)(list:Bool)(hm:HaveM W lo b n H)(hH:HOk H n)(hx:WrOk x)(hn:n≤9000000000)(hdl0:x.del=true) :
  Calls Tryz.prog 151 #[.map (some b),.agg x.enc.toArray,.bool list] W fun e w'=>e = .returned (.tuple #[])∧HaveM w' lo b (n+1) (hWrite list H x)∧Fr (fun j=>j=b) W w':=by
 obtain⟨hlo,F,hmap,hrows⟩:=hm
 have hlt:=hmap.lt
 have hku:=keyOf_int_mk (P:=Tryz.prog) Tryz.underlying33 hx.uid
 have hok:=hH.ok x.uid
 have hlen:=hH.len x.uid
 obtain⟨g,hrow,hg⟩:=hrows.at x.uid
 obtain⟨v0,hv0⟩:∃ v0,(F (litU x.uid)).getD (.slice none 0 0)=v0:=⟨_,rfl⟩
 rw[hv0] at hrow
 have hlk:∀ w',Fr N0 W w'→(Instr.lookup 183 (.map (some b)) (.int .u64 x.uid) false).run Tryz.prog w' = .ok v0 w':=fun w' hf=>by
  have:=((hmap.fr hf id).look lawU Tryz.underlying183 (zeroValsR _) hku).1
  rw[← hv0];exact this
 have hbs:=fun w' (hf:Fr N0 W w')=>bsvH_any w' g v0 (H x.uid) (rowsK_frT (enc:=Val.enc) (n:=5) val_len hrow hf fun _=>id) hok x.val hx.may (wf_nn hx.u).1 (by omega)
 have hcl:=fun w' (hf:Fr N0 W w')=>cloneV_any w' g v0 (H x.uid) (rowsK_frT (enc:=Val.enc) (n:=5) val_len hrow hf fun _=>id) (by omega)
 have hdl:=fun w' base v (h:w'.ownsRow base 57 5 v (H x.uid).length ((H x.uid).flatMap Val.enc)) (hi:posV x.val (H x.uid) < (H x.uid).length)=>delV_any w' base v (H x.uid) (posV x.val (H x.uid)) h hi (by omega)
 have hin:=fun w' base v vb (hb:base≤w'.heap.size) (h:w'.ownsRow base 57 5 v (H x.uid).length ((H x.uid).flatMap Val.enc)) hvb hne=>insV_any w' base v (H x.uid).length (posV x.val (H x.uid)) (H x.uid) x.val vb hb h rfl (posV_le _ _) (by omega) hvb hne
 have hput:∀ (w1 w2:World) (v':Value) (g':Nat),Fr N0 W w1→RowsK Val.enc 5 w1 g' v' (wrV (H x.uid) x list)→wrV (H x.uid) x list≠[]→lo≤g'→g'≠b→g' < w1.heap.size→MapF Tryz.prog 33 w2 b (n+1) (putF F (litU x.uid) (some v'))→Fr (fun j=>j=b) w1 w2 →
   HaveM w2 lo b (n+1) (hWrite list H x)∧Fr (fun j=>j=b) W w2:=fun w1 w2 v' g' hf hr h0 h1 h2 h3 hm2 hf2=>by
  have hr1:=(hrows.fr val_len hf fun k h=>h.elim).put x.uid h0 h1 h2 h3 hr
  exact⟨⟨hlo,_,hm2,hr1.fr val_len hf2 fun k hk=>.inr (.inl hk)⟩,(hf.mono fun _ h=>h.elim).trans hf2 fun k hk=>.inl hk⟩
 have hdel:∀ (w1 w2:World),Fr N0 W w1→wrV (H x.uid) x list = []→MapF Tryz.prog 33 w2 b n (putF F (litU x.uid) none)→Fr (fun j=>j=b) w1 w2 →
   HaveM w2 lo b (n+1) (hWrite list H x)∧Fr (fun j=>j=b) W w2:=fun w1 w2 hf h0 hm2 hf2=>by
  have hr1:=(hrows.fr val_len hf fun k h=>h.elim).del x.uid
  unfold hWrite
  rw[h0]
  exact⟨⟨hlo,_,hm2.mono (by omega),hr1.fr val_len hf2 fun k hk=>.inr (.inl hk)⟩,(hf.mono fun _ h=>h.elim).trans hf2 fun k hk=>.inl hk⟩
 have hputR:∀ (w1 w2:World) (v':Value) (l:List Val),wrV (H x.uid) x list=l→Fr N0 W w1→w1.ownsRow W.heap.size 57 5 v' l.length (l.flatMap Val.enc)→l≠[]→MapF Tryz.prog 33 w2 b (n+1) (putF F (litU x.uid) (some v'))→Fr (fun j=>j=b) w1 w2 →
   HaveM w2 lo b (n+1) (hWrite list H x)∧Fr (fun j=>j=b) W w2:=fun w1 w2 v' l hl hf hr h0 hm2 hf2=>by
  obtain⟨g',hg',hrk⟩:=rowsK_of_row (enc:=Val.enc) (n:=5) val_len (by decide) hr
  have hlt':g' < w1.heap.size:=by
   obtain⟨a,off,cap,-,-,-,-,-,h5⟩:=hrk
   have h1:0 < l.length:=List.length_pos_iff.2 h0
   have:=h5 0 h1 0 (by decide)
   rw[List.getElem?_eq_getElem (by rw[val_len];decide)] at this
   exact lt_of_cell this
  exact hput w1 w2 v' g' hf (by rw[hl];exact hrk) (by rw[hl];exact h0) (by omega) (by omega) hlt' hm2 hf2
 have hti:=thereV_iff hok.rises (fun y hy=>(hok.may y hy).1) hx.may
 have hpi:=there_iff (x:=x.val) hok.rises
 obtain⟨a0,c0,he0⟩:∃ a c,v0 = .slice a (H x.uid).length c:=by
  obtain⟨a,off,cap,h1,-⟩:=hrow;exact⟨a,cap,h1⟩
 subst he0
 have hrow0:=fun w' (hf:Fr N0 W w')=>rowsK_frT (enc:=Val.enc) (n:=5) val_len hrow hf fun _=>id
 obtain⟨l,hl⟩:∃ l,H x.uid=l:=⟨_,rfl⟩
 simp only [hl] at *
 unfold wrV at hput hdel hputR
 obtain⟨P,hP⟩:∃ P,posV x.val l=P:=⟨_,rfl⟩
 simp only [hP] at *
 obtain⟨T,hT⟩:∃ T,thereV l x.val P=T:=⟨_,rfl⟩
 simp only [hT] at *
 obtain⟨m,hm⟩:∃ m,l.length=m:=⟨_,rfl⟩
 have hin1:x.val ∉ l→(l.take P ++ x.val :: l.drop P).length=m+1:=fun _=>by have:=posV_le x.val l;simp;omega
 have hde1:P < m→(l.eraseIdx P).length=m - 1:=fun h=>by rw[List.length_eraseIdx,if_pos (by omega),hm]
 simp only [hm] at *
 have HM:=hhd hmap;have HKU:=hhd hku;have HBS:=hhd hbs;have HCL:=hhd hcl;have HDL:=hhd hdl;have HIN:=hhd hin;have HPUT:=hhd hput;have HPR:=hhd hputR;have HDEL:=hhd hdel;have HROW:=hhd hrow0;have HG:=hhd hg;have HTI:=hhd hti;have HPI:=hhd hpi;have HIL:=hhd hin1;have HDE:=hhd hde1;have HL:Hid (l.length=m):=hhd (by assumption)
 have hx':=hx
 clear hmap hku hbs hcl hdl hin hput hputR hdel hrow0 hg hti hpi hrow hrows hH hok hT hP hin1 hde1 hv0 hx hx'
 obtain⟨xd,xu,xp,vk,vb,vn,vs,vu⟩:=x
 simp only at hdl0
 subst hdl0
 simp only [Wr.enc,Val.enc] at *
 obtain⟨W0,hW0⟩:∃ W0,W.alloc (.cells #[.bool true,.int .u64 xu,.string xp,.int .u8 vk,.bool vb,.int .i64 vn,.string vs,.int .u64 vu] 61)=W0:=⟨_,rfl⟩
 have hf0:Fr N0 W W0:=by rw[← hW0];exact(Fr.refl _ _).alloc _
 have hB:W0.heap[W.heap.size]?=some (.cells #[.bool true,.int .u64 xu,.string xp,.int .u8 vk,.bool vb,.int .i64 vn,.string vs,.int .u64 vu] 61 (0,0)):=by rw[← hW0];exact World.alloc_heap_new W _
 obtain⟨m0,n0,l0⟩:=box_cells hB
 have HF0:=hhd hf0;have HB:=hhd hB
 have hlk0:=hlk W0 hf0
 have HLK:=hhd hlk
 clear hf0 hB hlk
 by_cases hin:(⟨vk,vb,vn,vs,vu⟩:Val) ∈ l
 ·
  obtain rfl:=HTI.out.2 hin
  obtain⟨hPm,-⟩:=HPI.out.1 hin
  have hw:IntKind.i64.wrap ((P:Int)+1)=((P+1:Nat):Int):=by rw[IntKind.wrap_i64];omega
  by_cases h1:m=1
  ·subst h1
   go_enter Tryz.func151,Tryz.ntmps151
   go_wp2_with (first
    |(go_at_call 208;refine(HBS.out _ HF0.out).mono ?_;rintro e w1 ⟨rfl,hf1⟩;have hb1:=(hf1.at (k:=W.heap.size) id l0).trans HB.out;obtain⟨m1,n1,l1⟩:=box_cells hb1)
    |(go_at_call 154;(refine(HCL.out _ (HF0.out.then0 hf1)).mono ?_);rintro e w2 ⟨v2,rfl,hown2,-,hf2⟩;obtain⟨a2,c2,rfl⟩:=row_form hown2;have hb2:=(hf2.at (k:=W.heap.size) id l1).trans hb1;obtain⟨m2,n2,l2⟩:=box_cells hb2)
    |(go_at_call 210;(refine(HDL.out _ _ _ hown2 hPm).mono ?_);rintro e w3 ⟨v3,rfl,hown3,hf3,-⟩;rw[HDE.out hPm,Nat.sub_self] at hown3;obtain⟨a3,c3,rfl⟩:=row_form hown3;have hf23:=hf2.trans hf3 (fun k hk=>.inr (ownsRow_lt hown2 k hk).1);have hb3:=(hf23.at (k:=W.heap.size) id l1).trans hb1;obtain⟨m3,n3,l3⟩:=box_cells hb3;obtain⟨w4,hrun4,hm4,hf4⟩:=(HM.out.fr ((HF0.out.then0 hf1).then0 hf23) id).drop lawU Tryz.underlying183 HKU.out 0))
   have:=HDEL.out w3 w4 ((HF0.out.then0 hf1).then0 hf23) (by simpa [hin] using List.eq_nil_of_length_eq_zero (l:=l.eraseIdx P) (by rw[HDE.out hPm])) hm4 hf4
   exact⟨rfl,.tuple #[],by simp [results,go_sem,Tryz.results151],rfl,this⟩
  ·obtain⟨d,hd⟩:∃ d,m=d+2:=⟨m - 2,by omega⟩
   subst hd
   have z1:d+2 - 1=d+1:=by omega
   have z3:((d:Int)+1 == 0)=false:=by rw[beq_eq_false_iff_ne];omega
   have z4:¬((d:Int)+1=0):=by omega
   go_enter Tryz.func151,Tryz.ntmps151
   go_wp2_with (first
    |(go_at_call 208;refine(HBS.out _ HF0.out).mono ?_;rintro e w1 ⟨rfl,hf1⟩;have hb1:=(hf1.at (k:=W.heap.size) id l0).trans HB.out;obtain⟨m1,n1,l1⟩:=box_cells hb1)
    |(go_at_call 154;(refine(HCL.out _ (HF0.out.then0 hf1)).mono ?_);rintro e w2 ⟨v2,rfl,hown2,-,hf2⟩;obtain⟨a2,c2,rfl⟩:=row_form hown2;have hb2:=(hf2.at (k:=W.heap.size) id l1).trans hb1;obtain⟨m2,n2,l2⟩:=box_cells hb2)
    |(go_at_call 210;(refine(HDL.out _ _ _ hown2 hPm).mono ?_);rintro e w3 ⟨v3,rfl,hown3,hf3,-⟩;rw[HDE.out hPm] at hown3;rw[z1] at hown3;obtain⟨a3,c3,rfl⟩:=row_form hown3;have hf23:=hf2.trans hf3 (fun k hk=>.inr (ownsRow_lt hown2 k hk).1);have hb3:=(hf23.at (k:=W.heap.size) id l1).trans hb1;obtain⟨m3,n3,l3⟩:=box_cells hb3)
    |(at_mapUpdate;go_loud (refine wpList_putF _ rfl _ _ _ 183 rfl 33 91 lawU Tryz.underlying183 b n _ rfl (HM.out.fr ((HF0.out.then0 hf1).then0 hf23) id) (by unfold maxLen;omega) _ _ (litU xu) rfl rfl HKU.out ?_);intro w4 hm4 hf4))
   have hfw:=HF0.out.then0 hf1
   have hle:=(HDE.out hPm).trans z1
   have hne:l.eraseIdx P≠[]:=fun e=>by rw[e] at hle;simp at hle
   have:=HPR.out w3 w4 (.slice a3 (d+1) c3) _ rfl (hfw.then0 hf23) (by simpa [hin,hle] using ownsRow_base hown3 hfw.size) (by simpa [hin] using hne) hm4 hf4
   exact⟨rfl,.tuple #[],by simp [results,go_sem,Tryz.results151],rfl,this⟩
 ·
  obtain rfl:T=false:=by
   cases T
   ·rfl
   ·exact absurd (HTI.out.1 rfl) hin
  by_cases h0:m=0
  ·subst h0
   go_enter Tryz.func151,Tryz.ntmps151
   go_wp2_with (first
    |(go_at_call 208;refine(HBS.out _ HF0.out).mono ?_;rintro e w1 ⟨rfl,hf1⟩;have hb1:=(hf1.at (k:=W.heap.size) id l0).trans HB.out;obtain⟨m1,n1,l1⟩:=box_cells hb1;obtain⟨w4,hrun4,hm4,hf4⟩:=(HM.out.fr (HF0.out.then0 hf1) id).drop lawU Tryz.underlying183 HKU.out 0))
   have:=HDEL.out w1 w4 (HF0.out.then0 hf1) (by simpa [hin] using List.eq_nil_of_length_eq_zero HL.out) hm4 hf4
   exact⟨rfl,.tuple #[],by simp [results,go_sem,Tryz.results151],rfl,this⟩
  ·have z3:((m:Int) == 0)=false:=by rw[beq_eq_false_iff_ne];omega
   have z4:¬((m:Int)=0):=by omega
   go_enter Tryz.func151,Tryz.ntmps151
   go_wp2_with (first
    |(go_at_call 208;refine(HBS.out _ HF0.out).mono ?_;rintro e w1 ⟨rfl,hf1⟩;have hb1:=(hf1.at (k:=W.heap.size) id l0).trans HB.out;obtain⟨m1,n1,l1⟩:=box_cells hb1)
    |(at_mapUpdate;go_loud (refine wpList_putF _ rfl _ _ _ 183 rfl 33 91 lawU Tryz.underlying183 b n _ rfl (HM.out.fr (HF0.out.then0 hf1) id) (by unfold maxLen;omega) _ _ (litU xu) rfl rfl HKU.out ?_);intro w4 hm4 hf4))
   have hne:l≠[]:=fun e=>h0 (by rw[← HL.out,e];rfl)
   have hfw:=HF0.out.then0 hf1
   obtain⟨g1,g2,g3⟩:=HG.out hne
   have:=HPUT.out w1 w4 (.slice a0 m c0) g hfw (by simpa [hin] using HROW.out _ hfw) (by simpa [hin] using hne) g1 g2 (Nat.lt_of_lt_of_le g3 hfw.size) hm4 hf4
   exact⟨rfl,.tuple #[],by simp [results,go_sem,Tryz.results151],rfl,this⟩
theorem hwrite_any(W:World)(lo b n:Nat)(H:Int→List Val)(x:Wr)(list:Bool)(hm:HaveM W lo b n H)(hH:HOk H n)(hx:WrOk x)(hn:n≤9000000000) :
  Calls Tryz.prog 151 #[.map (some b),.agg x.enc.toArray,.bool list] W fun e w'=>e = .returned (.tuple #[])∧HaveM w' lo b (n+1) (hWrite list H x)∧Fr (fun j=>j=b) W w':=by
 cases hd:x.del with
 | false=>exact hwAdd W lo b n H x list hm hH hx hn hd
 | true=>exact hwDel W lo b n H x list hm hH hx hn hd
end
section
open Go.RowKit Go.Shelf Go.Maps
attribute [local go_sem] Oper.semAt_some
attribute [local go_sem ↓] Go.wp_at_zero Go.wp_at_succ
attribute [local irreducible] wpQuiet
noncomputable def haveOf(list:Bool)(ws:List Wr):Int→List Val:=ws.foldl (hWrite list) fun _=>[]
def wsOf(cs:List Cm):List Wr:=cs.flatMap (·.writes)
def atCs(l:PL)(t:Int):List Cm:=l.commits.takeWhile fun c=>decide (c.time≤t)
noncomputable def haveAt(l:PL)(t:Int):Int→List Val:=if t < l.marked then fun _=>[] else haveOf l.s.list (wsOf (atCs l t))
structure PL.AtOk(l:PL)(N:Nat):Prop where
 pred:0 < l.s.pred.size
 ok:∀ x ∈ wsOf l.commits,WrOk x
 len:(wsOf l.commits).length≤N
 commits:l.commits.length≤N
theorem HOk.mono{H:Int→List Val}{n m:Nat}(h:HOk H n)(hm:n≤m):HOk H m:=⟨h.ok,fun u=>Nat.le_trans (h.len u) hm,h.key⟩
theorem HaveM.mono{W:World}{lo b n m:Nat}{H:Int→List Val}(h:HaveM W lo b n H)(hm:n≤m):HaveM W lo b m H:=by
 obtain⟨h1,F,h2,h3⟩:=h;exact⟨h1,F,h2.mono hm,h3⟩
theorem haveOf_snoc(list:Bool)(ws:List Wr)(x:Wr):haveOf list (ws ++ [x])=hWrite list (haveOf list ws) x:=by unfold haveOf;rw[List.foldl_append];rfl
theorem haveOf_ok(list:Bool){ws:List Wr}(h:∀ x ∈ ws,WrOk x):HOk (haveOf list ws) ws.length:=by
 suffices ∀ (zs:List Wr) (H:Int→List Val) (n:Nat),HOk H n→(∀ x ∈ zs,WrOk x)→HOk (zs.foldl (hWrite list) H) (n+zs.length) by
  have:=this ws _ 0 HOk.nil h;simpa [haveOf] using this
 intro zs
 induction zs with
 | nil=>intro H n hH _;simpa using hH
 | cons x zs ih=>
  intro H n hH hx
  have:=ih _ _ (hH.write list (hx x (by simp))) fun y hy=>hx y (by simp [hy])
  simpa [Nat.add_assoc,Nat.add_comm 1] using this
theorem wsOf_take_succ{cs:List Cm}{k:Nat}(h:k < cs.length):wsOf (cs.take (k+1))=wsOf (cs.take k) ++ cs[k].writes:=by
 unfold wsOf
 rw[List.take_succ_eq_append_getElem h,List.flatMap_append];simp
theorem wsOf_pre{cs:List Cm}{k:Nat}(h:k < cs.length):wsOf cs=wsOf (cs.take k) ++ cs[k].writes ++ wsOf (cs.drop (k+1)):=by
 rw[← wsOf_take_succ h]
 unfold wsOf
 rw[← List.flatMap_append,List.take_append_drop]
theorem atCs_take{l:PL}{t:Int}{k:Nat}(hk:k≤l.commits.length)(h1:∀ i (h:i < l.commits.length),i < k→l.commits[i].time≤t)(h2:∀ h:k < l.commits.length,¬ l.commits[k].time≤t):atCs l t=l.commits.take k:=by
 unfold atCs
 generalize l.commits=cs at *
 clear l
 induction cs generalizing k with
 | nil=>simp
 | cons c cs ih=>
  cases k with
  | zero=>
   have:=h2 (by simp)
   simp at this
   simp [List.takeWhile_cons];omega
  | succ k=>
   have h0:=h1 0 (by simp) (by omega)
   simp at h0
   rw[List.takeWhile_cons,if_pos (by simpa using h0),List.take_succ_cons]
   congr 1
   exact ih (by simpa using hk) (fun i h hi=>by have:=h1 (i+1) (by simpa using h) (by omega);simpa using this) (fun h=>by have:=h2 (by simpa using h);simpa using this)
structure AtW(W:World)(list:Bool)(N:Nat)(ws:List Wr)(wr:World):Prop where
 have_:HaveM wr W.heap.size W.heap.size ws.length (haveOf list ws)
 fr:Fr N0 W wr
theorem AtW.fr'{W wr w':World}{list:Bool}{N:Nat}{ws:List Wr}(h:AtW W list N ws wr)(hf:Fr N0 wr w'):AtW W list N ws w':=⟨h.have_.fr hf fun _ h=>h.elim,h.fr.then0 hf⟩
theorem pAt_any(W:World)(R:Nat→Prop)(p:Nat)(l:PL)(N:Nat)(h:IsPL W R p l)(hl:l.AtOk N)(hN:N≤8000000000)(t:Int) :
  Calls Tryz.prog 98 #[.pointer (some ⟨p,0,none⟩),.int .u64 t] W fun e w'=>∃ b,e = .returned (.map (some b))∧HaveM w' W.heap.size b N (haveAt l t)∧Fr N0 W w':=by
 obtain⟨vt,vc,cs,h1,-,-,⟨h5,h6,-⟩,h8⟩:=h
 obtain⟨m,n,lt⟩:=box_cells h1
 have hn:=fun W' (hf:Fr N0 W W')=>pNone_any W' p l.s.pred (hf.cell id (m 0)) hl.pred
 obtain⟨bc,-,hr⟩:=rowsK_of_row (enc:=CmV.enc) (n:=2) insC_len (by decide) h5
 obtain⟨ra,roff,rcap,rfl,r1,r2,r3,-,r5⟩:=hr
 have c2:=m 2;have c1:=m 8;have c10:=m 10
 simp at c1 c2 c10
 have hmm:=@run_makeMap Tryz.prog
 obtain⟨L,hL⟩:∃ L,cs.length=L:=⟨_,rfl⟩
 rw[hL] at c10 r1 r3
 have hLN:L≤N:=by have:=hl.commits;omega
 have hat:haveAt l t=if t < l.marked then fun _=>[] else haveOf l.s.list (wsOf (atCs l t)):=rfl
 obtain⟨Hr,hHr⟩:∃ Hr,haveAt l t=Hr:=⟨_,rfl⟩
 rw[hHr] at hat ⊢
 have hfin:∀ k,k≤L→(∀ i (h:i < l.commits.length),i < k→l.commits[i].time≤t)→(∀ h:k < l.commits.length,¬ l.commits[k].time≤t)→atCs l t=l.commits.take k:=fun k hk=>atCs_take (by omega)
 obtain⟨mk,hmk⟩:∃ y,l.marked=y:=⟨_,rfl⟩
 rw[hmk] at hat c1
 obtain⟨ls,hls⟩:∃ y,l.s.list=y:=⟨_,rfl⟩
 rw[hls] at hat c2
 have hwr:=fun w' (ws:List Wr) x (h:AtW W ls N ws w') (hx:∀ y ∈ ws,WrOk y) (h0:WrOk x) (hw:ws.length≤N)=>hwrite_any w' W.heap.size W.heap.size ws.length (haveOf ls ws) x ls h.have_ (haveOf_ok ls hx) h0 (by omega)
 have hpre:=fun k (hk:k < l.commits.length)=>wsOf_pre hk
 have hsuc:=fun k (hk:k < l.commits.length)=>wsOf_take_succ hk
 have hok:=hl.ok
 have hlen:=hl.len
 have hcl:l.commits.length=L:=by omega
 have H8:Hid (∀ i (h:i < cs.length) (h':i < l.commits.length),∃ (ct:Int) (ca:Option Addr) (cn cc:Nat) (ws:List Wr),cs[i]=⟨ct,ca,cn,cc⟩∧l.commits[i]=⟨ct,ws⟩∧∃ b,Wrs W b (.slice ca cn cc) ws):=fun i h h'=>by
  obtain⟨e1,b,hw,-⟩:=h8 i h h'
  rcases hcs:cs[i] with⟨ct,ca,cn,cc⟩
  rcases hcm:l.commits[i] with⟨ct',ws⟩
  simp only [hcs,hcm] at e1 hw
  subst e1
  exact⟨ct,ca,cn,cc,ws,rfl,rfl,b,hw⟩
 have HN:=hhd hn;have HW:=hhd hwr;have HC:=hhd (show W.cell? ⟨p,2,none⟩=some (.bool ls)∧W.cell? ⟨p,8,none⟩=some (.int .u64 mk)∧W.cell? ⟨p,10,none⟩=some (.slice ra L rcap) from⟨c2,c1,c10⟩)
 have HR5:=hhd r5;have HAT:=hhd hat;have HFIN:=hhd hfin;have HPRE:=hhd hpre;have HSUC:=hhd hsuc;have HOK:=hhd hok;have HLEN:=hhd hlen;have HCL:=hhd hcl;have HL:=hhd hL
 have H0:Hid (AtW W ls N [] (W.alloc (.map #[] 0))):=hhd ⟨HaveM.made W,(Fr.refl _ _).alloc _⟩
 clear hn hwr c1 c2 c10 m n h1 h5 h6 h8 hl hHr hmk hls r5 hat hfin hpre hsuc hok hlen hcl hL
 go_enter Tryz.func98,Tryz.ntmps98
 by_cases hmt:t < mk
 ·go_wp2_with (go_at_call 71;refine(HN.out _ ((Fr.refl N0 W).alloc _)).mono ?_;rintro e w1 ⟨rfl,hf1⟩;have hfw1:=((Fr.refl N0 W).alloc (.map #[] 0)).then0 hf1;have k1:=hfw1.cell id HC.out.1;have k2:=hfw1.cell id HC.out.2.1;have k3:=hfw1.cell id HC.out.2.2)
  go_ret
  refine⟨_,rfl,?_,hfw1⟩
  rw[HAT.out,if_pos hmt]
  exact((H0.out.fr' hf1).have_).mono (by simp)
 ·go_wp2_with (go_at_call 71;refine(HN.out _ ((Fr.refl N0 W).alloc _)).mono ?_;rintro e w1 ⟨rfl,hf1⟩;have hfw1:=((Fr.refl N0 W).alloc (.map #[] 0)).then0 hf1;have k1:=hfw1.cell id HC.out.1;have k2:=hfw1.cell id HC.out.2.1;have k3:=hfw1.cell id HC.out.2.2)
  have HH0:=hhd (H0.out.fr' hf1)
  clear H0 k1 k2 k3 hfw1 hf1
  go_loopw [27] (fun iv wr=>∃ k:Nat,k≤L∧iv = .int .i64 k∧Hid (∀ i (h:i < l.commits.length),i < k→l.commits[i].time≤t)∧Hid (AtW W ls N (wsOf (l.commits.take k)) wr)) (fun iv _=>L - (intOf iv).toNat)
  case atStart=>exact⟨0,Nat.zero_le _,rfl,fun i h h'=>by omega,HH0.out⟩
  case round=>
   obtain⟨k,hk,rfl,htm,hat⟩:=hrel
   have hl0:=HCL.out
   by_cases hlt:k < L
   ·obtain⟨ct,ca,cn,cc,ws,hcs,hcm,bw,hw⟩:=H8.out k (by rw[HL.out];exact hlt) (by omega)
    obtain rfl:=r3 (by omega)
    have g0:=HR5.out k (by rw[HL.out];exact hlt) 0 (by decide)
    have g1:=HR5.out k (by rw[HL.out];exact hlt) 1 (by decide)
    rw[hcs] at g0 g1
    simp only [CmV.enc,List.getElem?_cons_zero,List.getElem?_cons_succ,Nat.add_zero] at g0 g1
    replace g0:=hat.out.fr.cell id g0
    replace g1:=hat.out.fr.cell id g1
    have hki:(k:Int) < (L:Int):=by omega
    have hsk:=HSUC.out k (by omega)
    have hpk:=HPRE.out k (by omega)
    have htk:ct≤t→∀ i (h:i < l.commits.length),i < k+1→l.commits[i].time≤t:=fun h i hi h1=>by
     by_cases e:i=k
     ·subst e;rw[hcm];exact h
     ·exact htm.out i hi (by omega)
    have hnk:¬ ct≤t→atCs l t=l.commits.take k:=fun h=>HFIN.out k hk htm.out fun _=>by rw[hcm];first | exact h | (show ¬ ct≤t;exact h) | (simp only;omega)
    rw[hcm] at hsk hpk
    simp only at hsk hpk
    have hokk:∀ x ∈ wsOf (l.commits.take k) ++ ws,WrOk x:=fun x hx=>HOK.out x (by rw[hpk];exact List.mem_append_left _ hx)
    have hlek:(wsOf (l.commits.take k)).length+ws.length≤N:=by
     have:=HLEN.out
     rw[hpk] at this
     simp only [List.length_append] at this
     omega
    have HSK:=hhd hsk;have HTK:=hhd htk;have HNK:=hhd hnk;have HOKK:=hhd hokk;have HLEK:=hhd hlek;have HAT2:=hhd hat.out
    clear hsk hpk htk hnk hokk hlek hat hcs hcm htm HH0
    by_cases hct:ct≤t
    ·have hct':¬ t < ct:=by omega
     obtain⟨wa,woff,wcap,he,w1,w2,w3,-,w5⟩:=hw
     injection he with q1 q2 q3
     subst q1 q2 q3
     obtain⟨n,hn⟩:∃ n,ws.length=n:=⟨_,rfl⟩
     have HW5:=hhd w5;have HWN:=hhd hn
     rw[hn] at w1 w3 g1
     clear w5 hn
     go_wp2
     go_loopw [38] (fun iv w2=>∃ j:Nat,j≤n∧iv = .int .i64 j∧Hid (AtW W ls N (wsOf (l.commits.take k) ++ ws.take j) w2)) (fun iv _=>n - (intOf iv).toNat)
     case atStart=>exact⟨0,Nat.zero_le _,by first | rfl | go_num,by
      have:=HAT2.out.fr' ((Fr.refl N0 _).alloc (.cells #[.int .u64 ct,.slice ca n cc] 80))
      simpa using hhd this⟩
     case round=>
      obtain⟨j,hj,rfl,hat⟩:=hrel
      by_cases hjn:j < n
      ·have hjl:j < ws.length:=by rw[HWN.out];exact hjn
       obtain rfl:=w3 (by omega)
       obtain⟨d0,d1,d2,d3,d4,d5,d6,d7⟩:=wr_cells (W:=W) (HW5.out j hjl)
       have hx:=HOKK.out ws[j] (List.mem_append_right _ (List.getElem_mem hjl))
       have hts:=List.take_succ_eq_append_getElem hjl
       obtain⟨x,hxe⟩:∃ x,ws[j]=x:=⟨_,rfl⟩
       rw[hxe] at d0 d1 d2 d3 d4 d5 d6 d7 hx hts
       obtain⟨xd,xu,xp,vk,vb,vn,vs,vu⟩:=x
       simp only at d0 d1 d2 d3 d4 d5 d6 d7
       replace d0:=hat.out.fr.cell id d0;replace d1:=hat.out.fr.cell id d1;replace d2:=hat.out.fr.cell id d2;replace d3:=hat.out.fr.cell id d3
       replace d4:=hat.out.fr.cell id d4;replace d5:=hat.out.fr.cell id d5;replace d6:=hat.out.fr.cell id d6;replace d7:=hat.out.fr.cell id d7
       have k1:=fun o=>(hat.out.fr.alloc o).cell id HC.out.1
       have hwq:=fun(X:World) (hX:Fr N0 wr X)=>HW.out X (wsOf (l.commits.take k) ++ ws.take j) ⟨xd,xu,xp,⟨vk,vb,vn,vs,vu⟩⟩ (hat.out.fr' hX) (fun y hy=>HOKK.out y (by
        rcases List.mem_append.1 hy with h | h
        ·exact List.mem_append_left _ h
        ·exact List.mem_append_right _ (List.mem_of_mem_take h))) hx (by have:=HLEK.out;simp;omega)
       have hts2:wsOf (l.commits.take k) ++ ws.take (j+1)=wsOf (l.commits.take k) ++ ws.take j ++ [⟨xd,xu,xp,⟨vk,vb,vn,vs,vu⟩⟩]:=by rw[hts,List.append_assoc]
       have hji:(j:Int) < (n:Int):=by omega
       have hnext:∀ (w5 X:World),Fr N0 wr X→HaveM w5 W.heap.size W.heap.size ((wsOf (l.commits.take k) ++ ws.take j).length+1) (hWrite ls (haveOf ls (wsOf (l.commits.take k) ++ ws.take j)) ⟨xd,xu,xp,⟨vk,vb,vn,vs,vu⟩⟩)→Fr (fun j=>j=W.heap.size) X w5→AtW W ls N (wsOf (l.commits.take k) ++ ws.take (j+1)) w5:=fun w5 X hX h5 hf5=>by
        rw[hts2]
        refine⟨?_,(hat.out.fr.then0 hX).trans hf5 fun k e=>.inr (by rw[e];exact Nat.le_refl _)⟩
        rw[haveOf_snoc,List.length_append,List.length_singleton]
        exact h5
       have HWQ:=hhd hwq;have HNX:=hhd hnext
       simp only [Wr.enc] at HWQ
       clear hat hx hts hts2 hwq hnext
       go_wp2_with fail
       refine wp_plainN ?_
       go_region_law (first
        |(go_simp;go_at_call 151;refine(HWQ.out _ (((Fr.refl N0 _).alloc _).drew)).mono ?_;rintro e w5 ⟨rfl,hmap,hf5⟩)
        | fail)
       all_goals
        have hA1:=HNX.out w5 _ (((Fr.refl N0 _).alloc _).drew) hmap hf5
        have HA1:=hhd hA1
        clear hA1 hmap hf5
        go_wp2
        go_roundw
        case rel=>exact⟨j+1,by omega,by first | rfl | go_num,HA1.out⟩
        case measure=>simp [intOf];omega
      ·obtain rfl:j=n:=by omega
       have HQ:=hhd hat.out
       have hwl:=HWN.out
       clear hat
       go_wp2
       go_roundw
       case rel=>exact⟨k+1,by omega,by first | rfl | go_num,HTK.out hct,by rw[HSK.out];rw[← hwl,List.take_length] at HQ;exact HQ.out⟩
       case measure=>simp [intOf];omega
    ·have hct':t < ct:=by omega
     have hA:=HNK.out hct
     have HQ:=HAT2
     clear hw
     go_wp2
     go_ret
     refine⟨_,rfl,?_,HQ.out.fr.then0 ((Fr.refl N0 _).alloc _)⟩
     rw[HAT.out,if_neg (by omega),hA]
     exact((HQ.out.fr' ((Fr.refl N0 _).alloc _)).have_).mono (by have:=HLEK.out;omega)
   ·obtain rfl:k=L:=by omega
    have hA:=HFIN.out k (Nat.le_refl _) htm.out fun h=>absurd h (by omega)
    have HQ:=hhd hat.out
    clear hat htm
    go_wp2
    go_ret
    refine⟨_,rfl,?_,HQ.out.fr⟩
    rw[HAT.out,if_neg (by omega),hA]
    have hle:(wsOf (l.commits.take k)).length≤N:=by
     rw[← hl0,List.take_length];exact HLEN.out
    exact HQ.out.have_.mono hle
end
end Go.Proofs.YtefepfiijoafbaaGreat
